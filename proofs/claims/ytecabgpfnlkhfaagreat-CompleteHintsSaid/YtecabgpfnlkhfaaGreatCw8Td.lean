/- States run over the code: what each function gives, and what follows. -/
import Derived.Test.YtecabgpfnlkhfaaGreatCw8Tc
open Go.IntKind (i64 i32)
open List renaming length_map → qa, length_take → qd, eq_nil_of_length_eq_zero → qe, take_of_length_le → qf, getElem_mem → qh, length_append → qi, flatten_append → qk, length → ql, take_append_drop → qm, take_zero → qn, drop_of_length_le → qp, length_drop → qq, length_filter_le → qr, mem_of_mem_take → qt, getD_eq_getElem?_getD → qu, length_nil → qv, nil_append → qw, take_length → qac, map_append → qad, drop → qag, take → qah
open Go.Proofs.Tryz renaming prog → qb
open Int renaming toNat_natCast → qc, tmod_lt_of_pos → qx, emod_lt_of_pos → qy, add_emod_right → qz, emod_nonneg → qaf
open Bool renaming not_eq_true' → qg, and_eq_true → qj, not_eq_false → qab, or_eq_true → qae
open Decidable renaming not_not → qo
open Nat renaming eq_zero_or_pos → qaa
set_option linter.unusedVariables false
set_option linter.unusedSimpArgs false
set_option maxRecDepth 100000
set_option linter.constructorNameAsVariable false
namespace Go.Eng
open Go Go.Proofs Go.Eng.Rows Go.Eng.Trie Go.Eng.Srt
theorem zd6 (n f : Bool) (l : List Int) (hl : l.length < 1000000000000) : PCall qb 67 [.sl n f (aA l)] fun x => ∃ n f, x = .sl n f (aA l) := by
 by_cases h : n = true -> l = []
 ·exact (zc0 n f l h hl).mono fun x hx => ⟨_, _, hx⟩
 ·have hn : n = true := by cases n with | true => rfl | false => exact absurd (fun h => by cases h) h
  subst hn;exact PCall.vac (zc0 false f l (fun h => by cases h) hl) (k := 0) rfl (zmo fun e => h fun _ => e)
theorem nZ (q : Bool × Bool × List Int) : aR [slE q] 1 := g9 (enc := slE) kL [q]
theorem oB (A : TxQ) (q : Bool × Bool × List Int) : A.map slE ++ [slE q] = (A ++ [q]).map slE := by rw [qad]; rfl
theorem sD (A : TxQ) (q : Bool × Bool × List Int) : aD (A ++ [q]) = aD A ++ [q.2.2] := by unfold aD; rw [qad]; rfl
theorem jL {i : Nat} (h : i < 1000000000000) : i64.wrap ((i : Int) + 1) = ((i + 1 : Nat) : Int) := by rw [aG (by omega) (by omega)]; omega
theorem i9 {A : TxQ} {i : Nat} (h : i < A.length) : aI (A.map slE) (i : Int) 1 /\ (A.map slE).getD i [] = slE A[i] := ⟨bQ kL (by omega) (by omega), bZ h⟩
section
variable {rows : List Row} {v : PV}
theorem z1c (ht : jK rows) (hv : cO rows v) (n f n2 f2 : Bool) (o s : List Int) (ho : o.length < 1000000000000) (rs : R32 s) (ls : s.length < 1000000) :
 PCall qb 75 [.sl n f (aA o), .ptr [v], .ptr [.sl n2 f2 (aA s)]] fun x => x = .bool (decide (o = dN rows s)) := by
 have c1 := fun n f => zcl ht.p ht.o ht.k hv n f s rs ls;obtain ⟨tc, tg, tj, tf, tp, made, sec, rfl, ht', hm⟩ := hv;refine z0s _ _ _ _ _ _ _ _ _ _ _ _ _ ?_; unfold znu;refine .inl ⟨_, rfl, _, _, _, rfl, (c1 n2 f2).mono ?_⟩;rintro _ ⟨n3, f3, rfl⟩;refine ⟨_, _, _, rfl, (zca _ _ _ _ _ _ ho).mono ?_⟩;rintro _ rfl;exact ⟨_, rfl, rfl⟩
theorem z1d (ht : jK rows) (hv : cO rows v) (n f n2 f2 : Bool) (Q : TxQ) (s : List Int) (hQ : ∀ q ∈ Q, q.2.2.length < 1000000000000) (hl : Q.length < 1000000000) (rs : R32 s) (ls : s.length < 1000000) :
 PCall qb 74 [.sl n f (Q.map slE), .fn 75 [.ptr [v], .ptr [.sl n2 f2 (aA s)]]] fun x => x = .bool (decide (dN rows s ∈ aD Q)) := by
 have ix : PCall qb 106 [.sl n f (Q.map slE), .fn 75 [.ptr [v], .ptr [.sl n2 f2 (aA s)]]] fun x => ∃ m : Int, x = .int .i64 m /\ (0 <= m ↔ dN rows s ∈ aD Q) := by
  refine z0t _ _ _ _ _ (fun x => ∃ i : Nat, x = i /\ i <= Q.length /\ dN rows s ∉ (aD Q).take i) (fun x => Q.length - x.toNat) ?_;unfold znv;rw [show ((Q.map slE).length : Int) = Q.length by rw [qa]];refine ⟨⟨rfl, 0, rfl, by omega, by simp⟩, ?_⟩;rintro _ ⟨i, rfl, i1, i2⟩;rw [qc, jL (by omega)];refine aC (fun h => ?_) (fun h => ?_)
  ·simp only [aB] at h;have hi : i < Q.length := by omega
   obtain ⟨g1, g2⟩ := i9 hi;refine ⟨g1, _, _, _, by rw [g2]; rfl, (z1c ht hv _ _ _ _ _ s (hQ _ (qh hi)) rs ls).mono ?_⟩;rintro _ rfl;refine ⟨_, rfl, aC (fun h2 => ?_) (fun h2 => ?_)⟩
   ·simp only [aB] at h2;exact ⟨_, rfl, ⟨fun _ => List.mem_map.2 ⟨_, qh hi, h2⟩, fun _ => by omega⟩⟩
   ·simp only [aB] at h2;refine ⟨rfl, ⟨i + 1, rfl, by omega, ?_⟩, by first | omega | (dsimp only; omega)⟩
    rw [cJ (by rw [aW]; exact hi)];intro hx;rcases List.mem_append.1 hx with hx | hx
    ·exact i2 hx
    ·rw [List.mem_singleton] at hx;exact h2 (by rw [hx]; simp [aD])
  ·simp only [aB] at h;rw [qf (by rw [aW]; omega)] at i2;exact ⟨_, rfl, ⟨fun h => by omega, fun h => absurd h i2⟩⟩
 refine z0u _ _ _ _ _ ?_; unfold znw;refine ix.mono ?_;rintro _ ⟨m, rfl, hm⟩;refine ⟨_, rfl, ?_⟩;by_cases h : 0 <= m
 ·rw [decide_eq_true (show m >= 0 from h), decide_eq_true (hm.1 h)]
 ·rw [decide_eq_false (show ¬ m >= 0 from h), decide_eq_false fun x => h (hm.2 x)]
def jA (rows : List Row) (L : List Int) (k : Nat) : List Int := (L.take k).drop (gD rows L k)
def sE (rows : List Row) (L : List Int) (k : Nat) (T : List (List Int)) : List (List Int) := pickW rows (jA rows L k) [] T
theorem z1e (ht : jK rows) {m : Nat} {T : List (List Int)} (hT : TsOK m T) (part : List Int) : TsOK (768 * m) (pickW rows part [] T) := fun t h => by
 rcases zdo part T [] t h with h | ⟨s, hs, rfl, _⟩
 ·cases h
 ·have := lT ht.k s;have h2 := (hT s hs).2;exact ⟨zcm ht.p ht.o ht.k (hT s hs).1, by omega⟩
theorem z1f {L : List Int} (hr : R32 L) (k : Nat) : R32 (jA rows L k) /\ (jA rows L k).length <= L.length := ⟨fun x hx => hr x (qt (List.mem_of_mem_drop hx)), by unfold jA; rw [qq, qd]; omega⟩
theorem zd7 (L : List Int) (a b : Nat) : qag a (qah b (aA L)) = aA ((L.take b).drop a) := by simp [aA]
theorem z1g {len : Nat} {i j : Int} (h0 : 0 <= i) (h1 : i <= j) (h2 : j <= len) : cU len (some i) (some j) none := ⟨h0, h1, h2, trivial⟩
def noneW : PV := .tup [.agg [.int .i64 0, .int .i64 0, .sl true true [], .sl true true []], .bool false]
theorem z1h (ht : jK rows) (hv : cO rows v) (n f n2 f2 : Bool) (L : List Int) (hr : R32 L) (hL : L.length < 10000) (k : Int) (W : TxQ) {m : Nat} (hm : m < 100) (hW : TsOK m (aD W)) (hWl : W.length < 10000) :
 PCall qb 31 [v, .sl n f (aA L), .int .i64 k, .sl n2 f2 (W.map slE)] fun x =>
  if (0 <= k /\ k <= L.length) /\ sE rows L k.toNat (aD W) ≠ [] then ∃ n f n3 Q, x = .tup [.agg [.int .i64 (gD rows L k.toNat : Nat), .int .i64 k, .sl n f (aA (fE rows (sE rows L k.toNat (aD W))).flatten), .sl n3 false (Q.map slE)], .bool true] /\ aD Q = sE rows L k.toNat (aD W)
  else x = noneW := by
 have cw := fun n f => zzm ht.s ht.w hv n f (L.take k.toNat) (hr.take _) (by rw [qd]; omega);have cb := fun n f n2 f2 a b ra rb la lb => zd4 ht hv n f n2 f2 a b ra rb la lb;have cn := fun n f (s : List Int) rs ls => zcl ht.p ht.o ht.k hv n f s rs ls;have cm := fun n f A (hA : TsOK (768 * m) (aD A)) hl => z1b ht hv n f A hA (by omega) hl;have cc := fun n f n2 f2 Q s hQ hl rs ls => z1d ht hv n f n2 f2 Q s hQ hl rs ls;have hfl := zz1 (rows := rows) L k.toNat;obtain ⟨hpr, hpl⟩ := z1f (rows := rows) hr k.toNat;obtain ⟨tc, tg, tj, tf, tp, made, sec, rfl, ht', hm'⟩ := hv
 refine z0y _ _ _ _ _ _ _ _ _ _ _ _ _ _
  (fun _ _ s x fr _ s3 => s = aA (jA rows L k.toNat) /\ fr = (gD rows L k.toNat : Nat) /\ ∃ (i : Nat) (Q : TxQ), x = i /\ i <= W.length /\ s3 = Q.map slE /\ aD Q = pickW rows (jA rows L k.toNat) [] ((aD W).take i))
  (fun _ _ _ x _ _ _ => W.length - x.toNat) ?_
 unfold zn0;rw [a8, show ((W.map slE).length : Int) = W.length by rw [qa]];refine aC (fun h => ?_) (fun h => ?_)
 ·simp only [qae, aB, gt_iff_lt] at h;show ite _ _ _;rw [if_neg (by omega)]; rfl
 ·simp only [qae, aB, gt_iff_lt] at h;refine ⟨⟨sB (by omega) (by omega), cZ _⟩, ?_⟩;rw [zdj];refine (cw _ _).mono ?_;rintro _ ⟨n1, rfl, _⟩;refine ⟨_, _, _, rfl, ?_⟩;generalize hws : fF rows (L.take k.toNat) 0 = ws at *;have hlen : ((ws.map mQ).length : Int) = ws.length := by rw [qa]
  rw [hlen]
  have bare : ws.getLast? = none ∨ (∃ q, ws.getLast? = some q /\ (q.2 : Int) ≠ k) -> gD rows L k.toNat = k.toNat := fun hx => by
   unfold gD;rw [hws];rcases hx with hx | ⟨q, hx, hq⟩
   ·rw [hx]
   ·rw [hx]; dsimp only; rw [if_neg (by omega)]
  have start : ∀ {fr : Int}, fr = (gD rows L k.toNat : Nat) -> (cU (L.length) (some fr) (some k) none /\ aR (aA L) 1) /\ aA (qag fr.toNat (qah k.toNat L)) = aA (jA rows L k.toNat) := fun e => by
   subst e;refine ⟨⟨z1g (by omega) (by omega) (by omega), cZ _⟩, ?_⟩;rw [qc]; rfl
  simp only [zd7]
  have hlast : ∀ hp : 0 < ws.length, ∃ q, ws.getLast? = some q /\ i64.wrap ((ws.length : Int) - 1) = ((ws.length - 1 : Nat) : Int) /\ (ws.map mQ).getD (ws.length - 1) [] = mQ q /\ aI (ws.map mQ) ((ws.length - 1 : Nat) : Int) 2 := fun hp => by
   refine ⟨ws[ws.length - 1], ?_, ?_, bZ (by omega), bQ zm7 (by omega) (by omega)⟩
   ·rw [List.getLast?_eq_getElem?, List.getElem?_eq_getElem (by omega)]
   ·have : ws.length <= L.length := by
     have h1 := zdr (rows := rows) (L := L.take k.toNat) _ 0 (Nat.le_refl _);rw [hws, qd] at h1; omega
    rw [aG (by omega) (by omega)]; omega
  have J0 : ∀ {fr : Int}, fr = (gD rows L k.toNat : Nat) -> (aA (qag fr.toNat (qah k.toNat L)) = aA (jA rows L k.toNat) /\ fr = (gD rows L k.toNat : Nat) /\ ∃ (i : Nat) (Q : TxQ), (0 : Int) = i /\ i <= W.length /\ ([] : List (List PV)) = Q.map slE /\ aD Q = pickW rows (jA rows L k.toNat) [] ((aD W).take i)) := fun e =>
   ⟨(start e).2, e, 0, [], rfl, by omega, rfl, by rw [qn, pickW]; rfl⟩
  refine aC (fun hp => ?_) (fun hp => ?_)
  rotate_left
  simp only [aB, gt_iff_lt] at hp;have hw0 : ws = [] := qe (by omega);have hfr : k = (gD rows L k.toNat : Nat) := by rw [bare (.inl (by rw [hw0]; rfl))]; omega
  refine ⟨(start hfr).1, ⟨rfl, J0 hfr⟩, ?_⟩
  rotate_left
  simp only [aB, gt_iff_lt] at hp;obtain ⟨q, q1, q2, q3, q4⟩ := hlast (by omega);rw [q2, qc, q3];refine ⟨q4, ⟨by decide, by decide⟩, _, rfl, aC (fun he => ?_) (fun he => ?_)⟩;simp only [beq_iff_eq] at he
  have hfr : ((q.1 : Nat) : Int) = (gD rows L k.toNat : Nat) := by
   unfold gD;rw [hws, q1]; dsimp only; rw [if_pos (by omega)]
  refine ⟨q4, ⟨by decide, by decide⟩, _, rfl, (start hfr).1, ⟨rfl, J0 hfr⟩, ?_⟩
  rotate_left
  simp only [beq_iff_eq] at he;have hfr : k = (gD rows L k.toNat : Nat) := by rw [bare (.inr ⟨q, q1, he⟩)]; omega
  refine ⟨(start hfr).1, ⟨rfl, J0 hfr⟩, ?_⟩
  all_goals
   rintro n13 f13 _ _ _ n3 _ ⟨rfl, rfl, i, Q, rfl, i1, rfl, hQ⟩;rw [qc, jL (by omega)];have hpk := z1e ht (T := (aD W).take i) (m := m) (fun t h => hW t (qt h)) (jA rows L k.toNat);have hpn := zdn (rows := rows) (jA rows L k.toNat) ((aD W).take i) [];rw [<- hQ] at hpk hpn;rw [aW, qd, aW, qv] at hpn;refine aC (fun hc => ?_) (fun hc => ?_)
   ·simp only [aB] at hc;have hi : i < W.length := by omega
    have hi' : i < (aD W).length := by rw [aW]; exact hi
    obtain ⟨g1, g2⟩ := i9 hi;obtain ⟨wr, wl⟩ := hW.get hi;have hg : (aD W)[i] = W[i].2.2 := by simp [aD]
    have hs := zdm (rows := rows) (jA rows L k.toNat) ((aD W).take i) [] (aD W)[i];rw [<- cJ hi', <- hQ, hg] at hs;refine ⟨g1, W[i].1, W[i].2.1, aA W[i].2.2, by rw [g2]; rfl, (cb _ _ _ _ _ _ wr hpr (by omega) (by omega)).mono ?_⟩;rintro _ rfl;refine ⟨_, rfl, aC (fun hb => ?_) (fun hb => ?_)⟩
    ·refine (cc _ _ _ _ Q _ (fun q hq => by have := (hpk q.2.2 (List.mem_map.2 ⟨q, hq, rfl⟩)).2; omega) (by omega) wr (by omega)).mono ?_;rintro _ rfl;refine ⟨_, rfl, trivial, aC (fun hx => ?_) (fun hx => ?_)⟩
     ·simp only [qg, bV] at hx;refine (cn _ _ _ wr (by omega)).mono ?_;rintro _ ⟨n5, f5, rfl⟩;exact ⟨n5, f5, _, rfl, ⟨nZ (n5, f5, dN rows W[i].2.2), by rw [qa]; omega⟩, rfl, ⟨rfl, rfl, i + 1, Q ++ [(n5, f5, dN rows W[i].2.2)], rfl, by omega, oB Q (n5, f5, dN rows W[i].2.2), by rw [hs, if_pos ⟨hb, hx⟩, sD]⟩, by first | omega | (dsimp only; omega)⟩
     ·simp only [qg, bV, qo] at hx;exact ⟨rfl, ⟨rfl, rfl, i + 1, Q, rfl, by omega, rfl, by rw [hs, if_neg fun h => h.2 hx]⟩, by first | omega | (dsimp only; omega)⟩
    ·exact ⟨rfl, ⟨rfl, rfl, i + 1, Q, rfl, by omega, rfl, by rw [hs, if_neg fun h => hb h.1]⟩, by first | omega | (dsimp only; omega)⟩
   ·simp only [aB] at hc;rw [qf (by rw [aW]; omega)] at hQ;have hQ' : aD Q = sE rows L k.toNat (aD W) := hQ;rw [show ((Q.map slE).length : Int) = Q.length by rw [qa], <- hQ'];refine aC (fun hx => ?_) (fun hx => ?_)
    ·simp only [beq_iff_eq] at hx;have : Q = [] := qe (by omega);show ite _ _ _;rw [if_neg fun h => h.2 (by rw [this]; rfl)]; rfl
    ·simp only [beq_iff_eq] at hx;have hne : aD Q ≠ [] := fun e => hx (by have := congrArg ql e; rw [aW, qv] at this; omega);refine (cm _ _ Q hpk (by omega)).mono ?_;rintro _ ⟨n6, f6, rfl⟩;refine ⟨_, _, _, rfl, ?_⟩;show ite _ _ _;rw [if_pos ⟨by omega, hne⟩];exact ⟨_, _, _, Q, rfl, rfl⟩
theorem pDo (hv : cO rows v) (a b : Int) (n f n3 f3 : Bool) (t L : List Int) (n2 f2 : Bool) (ss : List (List PV)) (lt : t.length < 1000) (lL : L.length < 1000) :
 PCall qb 33 [.agg [.int .i64 a, .int .i64 b, .sl n f (aA t), .sl n2 f2 ss], v, .sl n3 f3 (aA L)] fun x =>
  if (0 <= a /\ a <= b) /\ b <= L.length then ∃ n f, x = .tup [.sl n f (aA (L.take a.toNat ++ (t ++ L.drop b.toNat))), .int .i64 (a + t.length), .int .i64 0] else x = .tup [.sl true true [], .int .i64 0, .int .i64 2] := by
 obtain ⟨tc, tg, tj, tf, tp, made, sec, rfl, ht', hm'⟩ := hv;refine z0z _ _ _ _ _ _ _ _ _ _ _ _ _ _ _ _ _ _ ?_; unfold zn1;rw [a8, a8];refine aC (fun h => ?_) (fun h => aC (fun h2 => ?_) (fun h2 => aC (fun h3 => ?_) (fun h3 => ?_)))
 ·simp only [aB] at h;show ite _ _ _;rw [if_neg (by omega)]
 ·simp only [aB, gt_iff_lt] at h2;show ite _ _ _;rw [if_neg (by omega)]
 ·simp only [aB, gt_iff_lt] at h3;show ite _ _ _;rw [if_neg (by omega)]
 ·simp only [aB, gt_iff_lt] at h h2 h3;refine ⟨⟨sB (by omega) (by omega), cZ _⟩, ⟨vU (by omega) (by omega), cZ _⟩, ?_⟩;rw [zdj, show ((L.length : Nat) : Int).toNat = L.length from qc _, zd7, qac];have h1 : (L.take a.toNat).length <= 1000 := by rw [qd]; omega
  have h4 : (L.drop b.toNat).length <= 1000 := by rw [qq]; omega
  refine (zzv _ _ _ _ _ _ _ _ _ (by omega)).mono ?_;rintro _ ⟨n5, f5, rfl⟩;refine ⟨_, _, _, rfl, bF ?_ ?_⟩
  ·rw [a8, qi, qi];simp only [aB, gt_iff_lt]; omega
  ·show ite _ _ _;rw [if_pos (by omega), aG (by omega) (by omega)];exact ⟨_, _, rfl⟩
theorem zog (L : List Int) {T : List (List Int)} {i : Nat} (hi : i < T.length) : fQ rows L (T.drop i) = if (cC rows L).length < (cC rows (T.getD i [])).length /\ dT rows (T.getD i []) L = true then some ((cC rows (T.getD i [])).drop (cC rows L).length).flatten else fQ rows L (T.drop (i + 1)) := by
 rw [List.drop_eq_getElem_cons hi, fQ, zyp [] hi]
theorem z1i (ht : jK rows) (hv : cO rows v) (n f n2 f2 : Bool) (L : List Int) (hr : R32 L) (hL : L.length < 100000) (W : TxQ) {m : Nat} (hm : m < 100000) (hW : TsOK m (aD W)) (hWl : W.length < 10000) :
 PCall qb 35 [v, .sl n f (aA L), .sl n2 f2 (W.map slE)] fun x => match iG rows L (aD W) with
  | some s => ∃ n f, x = .tup [.sl n f (aA s), .bool true]
  | none => x = .tup [.sl true true [], .bool false] := by
 have cl := fun n f L hr hL => qCl ht hv n f L hr hL;have cb := fun n f n2 f2 a b ra rb la lb => zd4 ht hv n f n2 f2 a b ra rb la lb;have hcl := lU ht.k L;obtain ⟨tc, tg, tj, tf, tp, made, sec, rfl, ht', hm'⟩ := hv;refine z00 _ _ _ _ _ _ _ _ _ _ _ _ _ (fun a x => a = (cC rows L).length /\ ∃ i : Nat, x = i /\ i <= W.length /\ fQ rows L (aD W) = fQ rows L ((aD W).drop i)) (fun _ x => W.length - x.toNat) ?_;unfold zn2;rw [show ((W.map slE).length : Int) = W.length by rw [qa]];refine (cl n f L hr hL).mono ?_;rintro _ ⟨n1, f1, A, rfl, hA⟩;have hAl : A.length = (cC rows L).length := by rw [<- hA, aW]
 refine ⟨_, _, _, rfl, ?_⟩;rw [show ((A.map slE).length : Int) = A.length by rw [qa], hAl];refine aC (fun h => ?_) (fun h => ?_)
 ·simp only [beq_iff_eq] at h;unfold iG;rw [if_pos (by omega)]
 ·simp only [beq_iff_eq] at h;unfold iG;rw [if_neg (by omega)];refine ⟨⟨rfl, rfl, 0, rfl, by omega, rfl⟩, ?_⟩;rintro _ _ ⟨rfl, i, rfl, i1, i2⟩;rw [qc, jL (by omega)];refine aC (fun hc => ?_) (fun hc => ?_)
  ·simp only [aB] at hc;have hi : i < W.length := by omega
   obtain ⟨g1, g2⟩ := i9 hi;obtain ⟨wr, wl⟩ := hW.get hi;refine ⟨g1, W[i].1, W[i].2.1, aA W[i].2.2, by rw [g2]; rfl, (cl _ _ _ wr (by omega)).mono ?_⟩;rintro _ ⟨n4, f4, B, rfl, hB⟩;have hBl : B.length = (cC rows W[i].2.2).length := by rw [<- hB, aW]
   have hst := zog (rows := rows) L (T := aD W) (i := i) (by rw [aW]; exact hi);rw [i7 hi] at hst;refine ⟨_, _, _, rfl, ?_⟩;rw [show ((B.map slE).length : Int) = B.length by rw [qa], hBl];have skip : ¬((cC rows L).length < (cC rows W[i].2.2).length /\ dT rows W[i].2.2 L = true) -> fQ rows L (aD W) = fQ rows L ((aD W).drop (i + 1)) := fun hx => by rw [i2, hst, if_neg hx]
   refine aC (fun h2 => ?_) (fun h2 => ?_)
   ·simp only [aB, gt_iff_lt] at h2;refine (cb _ _ _ _ _ _ wr hr (by omega) hL).mono ?_;rintro _ rfl;refine ⟨_, rfl, aC (fun h3 => ?_) (fun h3 => ?_)⟩
    ·rw [i2, hst, if_pos ⟨by omega, h3⟩];refine ⟨⟨vU (by omega) (by rw [qa]; omega), g9 kL B⟩, ?_⟩;have hde := z06 B (cC rows L).length;rw [show ((B.map slE).length : Int) = ((cC rows W[i].2.2).length : Int) by rw [qa, hBl]] at hde;rw [qc, hde]
     have hfl : (aD (B.drop (cC rows L).length)).flatten.length <= 768 * m := by
      have h4 := lT ht.k W[i].2.2;rw [<- vW, <- hB] at h4;have h5 : (aD B).flatten = ((aD B).take (cC rows L).length).flatten ++ ((aD B).drop (cC rows L).length).flatten := by rw [<- qk, qm]
      rw [h5, qi] at h4;rw [zn9]; omega
     have hbl := lU ht.k W[i].2.2;refine (zdi _ _ (B.drop (cC rows L).length) (by rw [qq]; omega) (by rw [zob]; unfold tsm; omega)).mono ?_;rintro _ ⟨n5, f5, rfl⟩;exact ⟨_, _, _, rfl, _, _, by rw [zoc, zn9, hB]⟩
    ·exact ⟨rfl, ⟨rfl, i + 1, rfl, by omega, skip fun x => h3 x.2⟩, by first | omega | (dsimp only; omega)⟩
   ·simp only [aB, gt_iff_lt] at h2;exact ⟨rfl, ⟨rfl, i + 1, rfl, by omega, skip fun x => h2 (by omega)⟩, by first | omega | (dsimp only; omega)⟩
  ·simp only [aB] at hc;rw [i2, qp (by rw [aW]; omega), fQ]
def jM (n f : Bool) (Q : TxQ) (a : Int) : PV := .agg [.sl n f (Q.map slE), .int .i64 a]
theorem z1j (n f : Bool) (W : TxQ) (hW : ∀ q ∈ W, q.2.2.length < 1000000) (hWl : W.length < 10000) :
 PCall qb 37 [.sl n f (W.map slE)] fun x => ∃ n Q, x = jM n false Q 0 /\ aD Q = aD W := by
 refine z01 _ _ _ (fun x _ s => ∃ (i : Nat) (Q : TxQ), x = i /\ i <= W.length /\ s = Q.map slE /\ aD Q = (aD W).take i) (fun x _ _ => W.length - x.toNat) ?_;unfold zn3;rw [show ((W.map slE).length : Int) = W.length by rw [qa]];refine ⟨⟨rfl, 0, [], rfl, by omega, rfl, by rw [qn]; rfl⟩, ?_⟩;rintro _ n0 _ ⟨i, Q, rfl, i1, rfl, hQ⟩;rw [qc, jL (by omega)];refine aC (fun hc => ?_) (fun hc => ?_)
 ·simp only [aB] at hc;have hi : i < W.length := by omega
  obtain ⟨g1, g2⟩ := i9 hi;refine ⟨g1, _, _, _, by rw [g2]; rfl, (zd6 _ _ _ (by have := hW _ (qh hi); omega)).mono ?_⟩;rintro _ ⟨n2, f2, rfl⟩;have hlen := congrArg ql hQ;rw [aW, qd, aW] at hlen;refine ⟨n2, f2, _, rfl, ⟨nZ (n2, f2, W[i].2.2), by rw [qa]; omega⟩, rfl, ⟨i + 1, Q ++ [(n2, f2, W[i].2.2)], rfl, by omega, oB Q (n2, f2, W[i].2.2), ?_⟩, by first | omega | (dsimp only; omega)⟩
  rw [sD, hQ, cJ (by rw [aW]; exact hi)];simp [aD]
 ·simp only [aB] at hc;rw [qf (by rw [aW]; omega)] at hQ;exact ⟨n0, Q, rfl, hQ⟩
theorem zd8 (n f : Bool) (W : TxQ) (a : Int) (hW : ∀ q ∈ W, q.2.2.length < 1000000) (hWl : W.length < 10000) :
 PCall qb 38 [jM n f W a] fun x => ∃ n Q, x = .tup [.sl n false (Q.map slE), .int .i64 a] /\ aD Q = aD W := by
 refine z05 _ _ _ _ (fun x _ s => ∃ (i : Nat) (Q : TxQ), x = i /\ i <= W.length /\ s = Q.map slE /\ aD Q = (aD W).take i) (fun x _ _ => W.length - x.toNat) ?_;unfold zn7;rw [show ((W.map slE).length : Int) = W.length by rw [qa]];refine ⟨⟨rfl, 0, [], rfl, by omega, rfl, by rw [qn]; rfl⟩, ?_⟩;rintro _ n0 _ ⟨i, Q, rfl, i1, rfl, hQ⟩;rw [qc, jL (by omega)];refine aC (fun hc => ?_) (fun hc => ?_)
 ·simp only [aB] at hc;have hi : i < W.length := by omega
  obtain ⟨g1, g2⟩ := i9 hi;refine ⟨g1, _, _, _, by rw [g2]; rfl, (zd6 _ _ _ (by have := hW _ (qh hi); omega)).mono ?_⟩;rintro _ ⟨n2, f2, rfl⟩;have hlen := congrArg ql hQ;rw [aW, qd, aW] at hlen;refine ⟨n2, f2, _, rfl, ⟨nZ (n2, f2, W[i].2.2), by rw [qa]; omega⟩, rfl, ⟨i + 1, Q ++ [(n2, f2, W[i].2.2)], rfl, by omega, oB Q (n2, f2, W[i].2.2), ?_⟩, by first | omega | (dsimp only; omega)⟩
  rw [sD, hQ, cJ (by rw [aW]; exact hi)];simp [aD]
 ·simp only [aB] at hc;rw [qf (by rw [aW]; omega)] at hQ;exact ⟨n0, Q, rfl, hQ⟩
theorem z1k (n f : Bool) (W : TxQ) (a k : Int) (hWl : W.length < 10000) (h : 0 <= a /\ (a < W.length ∨ W = [])) :
 PCall qb 39 [jM n f W a, .int .i64 k] fun x => x = jM n f W (if W = [] then a else (a + k) % W.length) := by
 refine z02 _ _ _ _ _ ?_; unfold zn4;rw [show ((W.map slE).length : Int) = W.length by rw [qa]];refine aC (fun hc => ?_) (fun hc => ?_)
 ·simp only [aB, gt_iff_lt] at hc;have hne : W ≠ [] := fun e => by rw [e] at hc; simp at hc
  refine ⟨by omega, by omega, ?_⟩;have h0 := h.1;have hlt : a < W.length := h.2.resolve_right hne;have h2 := qx k (by omega : (0 : Int) < W.length)
  have h3 : -(W.length : Int) < k.tmod W.length := by
   have := qx (-k) (by omega : (0 : Int) < W.length);rw [Int.neg_tmod] at this; omega
  have e1 : i64.wrap (a + k.tmod W.length) = a + k.tmod W.length := aG (by omega) (by omega);rw [e1, aG (by omega) (by omega), zz3 (by omega) h.1 hlt];have h4 := qy (a + k) (by omega : (0 : Int) < W.length);have h5 := qaf (a + k) (by omega : (W.length : Int) ≠ 0);rw [if_neg hne]; rfl
 ·simp only [aB, gt_iff_lt] at hc;have : W = [] := qe (by omega);rw [if_pos this]; rfl
theorem z1l (n f : Bool) (W : TxQ) (a : Int) (hW : ∀ q ∈ W, q.2.2.length < 1000000) (h : 0 <= a /\ (a < W.length ∨ W = [])) :
 PCall qb 43 [jM n f W a] fun x => if W = [] then x = .tup [.sl true true [], .bool false] else ∃ n f, x = .tup [.sl n f (aA ((aD W).getD a.toNat [])), .bool true] := by
 refine z03 _ _ _ _ ?_; unfold zn5;rw [show ((W.map slE).length : Int) = W.length by rw [qa]];refine aC (fun hc => ?_) (fun hc => ?_)
 ·simp only [beq_iff_eq] at hc;show ite _ _ _;rw [if_pos (qe (by omega))]
 ·simp only [beq_iff_eq] at hc;have hne : W ≠ [] := fun e => by rw [e] at hc; simp at hc
  have hlt : a < W.length := h.2.resolve_right hne;have hi : a.toNat < W.length := by omega
  obtain ⟨g1, g2⟩ := pS h.1 hi;refine ⟨g1, _, _, _, by rw [g2]; rfl, (zd6 _ _ _ (by have := hW _ (qh hi); omega)).mono ?_⟩;rintro _ ⟨n2, f2, rfl⟩;refine ⟨_, _, _, rfl, ?_⟩;show ite _ _ _;rw [if_neg hne, i7 hi];exact ⟨_, _, rfl⟩
theorem z1m (ht : jK rows) (hv : cO rows v) (n f n2 f2 : Bool) (W : TxQ) (a : Nat) (L : List Int) (hr : R32 L) (hL : L.length < 100000) {m : Nat} (hm : m < 100000) (hW : TsOK m (aD W)) (hWl : W.length < 10000) :
 PCall qb 40 [jM n f W a, v, .sl n2 f2 (aA L)] fun x => ∃ n Q, x = jM n false Q (nY rows L (aD W) a : Nat) /\ aD Q = d9 rows L (aD W) := by
 have cb := fun n f n2 f2 a b ra rb la lb => zd4 ht hv n f n2 f2 a b ra rb la lb;obtain ⟨tc, tg, tj, tf, tp, made, sec, rfl, ht', hm'⟩ := hv;refine z04 _ _ _ _ _ _ _ _ _ _ _ _ _ _ (fun x y _ s => ∃ (i : Nat) (Q : TxQ), x = i /\ i <= W.length /\ s = Q.map slE /\ aD Q = d9 rows L ((aD W).take i) /\ y = (mR rows L (aD W) a i : Nat)) (fun x _ _ _ => W.length - x.toNat) ?_;unfold zn6;rw [show ((W.map slE).length : Int) = W.length by rw [qa]];refine ⟨⟨rfl, 0, [], rfl, by omega, rfl, by rw [qn]; rfl, by unfold mR; rw [if_neg (by omega)]; rfl⟩, ?_⟩;rintro _ _ n0 _ ⟨i, Q, rfl, i1, rfl, hQ, rfl⟩;rw [qc, jL (by omega)];refine aC (fun hc => ?_) (fun hc => ?_)
 ·simp only [aB] at hc;have hi : i < W.length := by omega
  have hi' : i < (aD W).length := by rw [aW]; exact hi
  obtain ⟨g1, g2⟩ := i9 hi;obtain ⟨wr, wl⟩ := hW.get hi;have hg : (aD W)[i] = W[i].2.2 := by simp [aD]
  have hs := zds (rows := rows) L hi';have hp := znk (rows := rows) L (a := a) hi';rw [hg] at hs hp
  have hlen : Q.length <= i := by
   have h1 := congrArg ql hQ;have h2 : (d9 rows L ((aD W).take i)).length <= ((aD W).take i).length := qr _ _;rw [aW] at h1;rw [qd] at h2; omega
  refine ⟨g1, W[i].1, W[i].2.1, aA W[i].2.2, by rw [g2]; rfl, (cb _ _ _ _ _ _ wr hr (by omega) hL).mono ?_⟩;rintro _ rfl;refine ⟨_, rfl, aC (fun h2 => ?_) (fun h2 => ?_)⟩
  ·simp only [qg] at h2;rw [h2] at hs hp;exact ⟨rfl, ⟨i + 1, Q, rfl, by omega, rfl, by rw [hs, if_neg (by decide)]; exact hQ, by rw [hp, if_neg (by simp)]⟩, by first | omega | (dsimp only; omega)⟩
  ·simp only [qg, qab] at h2;rw [h2] at hs hp;have fin : aD (Q ++ [W[i]]) = d9 rows L ((aD W).take (i + 1)) := by rw [hs, if_pos rfl, sD, hQ]
   refine aC (fun h3 => ?_) (fun h3 => ?_)
   ·simp only [beq_iff_eq] at h3;refine ⟨⟨nZ W[i], by rw [qa]; omega⟩, rfl, ⟨i + 1, Q ++ [W[i]], rfl, by omega, oB Q W[i], fin, ?_⟩, by first | omega | (dsimp only; omega)⟩
    rw [hp, if_pos ⟨rfl, by omega⟩, <- hQ, aW, qa]
   ·simp only [beq_iff_eq] at h3;refine ⟨⟨nZ W[i], by rw [qa]; omega⟩, rfl, ⟨i + 1, Q ++ [W[i]], rfl, by omega, oB Q W[i], fin, ?_⟩, by first | omega | (dsimp only; omega)⟩
    rw [hp, if_neg fun h => h3 (by omega)]
 ·simp only [aB] at hc;have hil : i = (aD W).length := by rw [aW]; omega
  rw [qf (by omega)] at hQ;refine ⟨n0, Q, ?_, hQ⟩;rw [hil, znl]; rfl
end
end Go.Eng
namespace Go.Eng
open Go Go.Proofs
section
variable (n f : Bool) (es : LL) (n2 f2 : Bool) (ss : LL)
def zoh (R : PV -> Prop) : Prop :=
 PCall qb 64 [PV.sl n f es, PV.sl n2 f2 ss] fun v => ∃ n1 f1 es1, v = PV.sl n1 f1 es1 /\ PCall qb 63 [PV.sl n f es, PV.sl n1 f1 es1] fun v1 => ∃ n3 f3 es2, v1 = PV.sl n3 f3 es2 /\ R (PV.sl n3 f3 es2)
theorem z1n {R : PV -> Prop} (h : zoh n f es n2 f2 ss R) : PCall qb 72 [.sl n f es, .sl n2 f2 ss] R :=
 PCall.wz Tryz.func72 aM [0, 1, 4] aT h
end
def zd9  (n7 f7 : Bool) (s7 : LL) (n8 f8 : Bool) (s8 : LL) (x9 : Int) : Env × Hp := ([(7, .pv (.sl n7 f7 s7)), (8, .pv (.sl n8 f8 s8)), (9, Y6 x9)], [])
section
variable (n f : Bool) (es : LL) (n2 f2 : Bool) (ss : LL) (n3 f3 : Bool) (s3 : LL) (J : Bool -> Bool -> LL -> Bool -> Bool -> LL -> Int -> Prop) (μ : Bool -> Bool -> LL -> Bool -> Bool -> LL -> Int -> Nat)
def zoi (R : PV -> Prop) : Prop :=
 PCall qb 72 [PV.sl n f es, PV.sl n2 f2 ss] fun v => ∃ n1 f1 es1, v = PV.sl n1 f1 es1 /\ PCall qb 72 [PV.sl n f es, PV.sl n3 f3 s3] fun v1 => ∃ n4 f4 es2, v1 = PV.sl n4 f4 es2 /\ if decide ((↑es2.length : Int) > (↑es1.length : Int)) = true then R (Zb false) else (aF (zd9 n1 f1 es1 n4 f4 es2 (0 : Int)) /\ J n1 f1 es1 n4 f4 es2 (0 : Int)) /\ ∀ (n7 f7 : Bool) (s7 : LL) (n8 f8 : Bool) (s8 : LL) (x9 : Int), J n7 f7 s7 n8 f8 s8 x9 -> if decide (x9 < (↑s8.length : Int)) = true then aI s7 x9 1 /\ ∃ n5 f5 es3, (s7.getD x9.toNat []).head? = some (PV.sl n5 f5 es3) /\ aI s8 x9 1 /\ ∃ n6 f6 es4, (s8.getD x9.toNat []).head? = some (PV.sl n6 f6 es4) /\ PCall qb 22 [PV.sl n5 f5 es3, PV.sl n6 f6 es4] fun v2 => ∃ b, v2 = Zb b /\ if (!b) = true then R (Zb false) else aF (zd9 n7 f7 s7 n8 f8 s8 (i64.wrap (x9 + 1))) /\ J n7 f7 s7 n8 f8 s8 (i64.wrap (x9 + 1)) /\ μ n7 f7 s7 n8 f8 s8 (i64.wrap (x9 + 1)) < μ n7 f7 s7 n8 f8 s8 x9 else R (Zb true)
theorem z1o {R : PV -> Prop} (h : zoi n f es n2 f2 ss n3 f3 s3 J μ R) : PCall qb 29 [.sl n f es, .sl n2 f2 ss, .sl n3 f3 s3] R :=
 PCall.wz Tryz.func29 aM [0, 1, 2, 6, 7, 8, 9, 20, 24, 36] (bP 5 (aX cz7 zd9 J μ (fun e h => (gN e 7, gF e 7, gS e 7, gN e 8, gF e 8, gS e 8, gI e 9)) [] [7, 8, 9] [])) h
end
def zea (n f : Bool) (es : LL) (n2 f2 : Bool) (ss : LL) (n3 f3 : Bool) (s3 : LL) (x8 x9 : Int) : Env × Hp := ([(0, LV.pv (PV.sl n f es)), (1, LV.pv (PV.sl n2 f2 ss)), (2, LV.pv (PV.sl n3 f3 s3)), (8, Y6 x8), (9, Y6 x9)], [])
def zeb  (n10 f10 : Bool) (s10 : LL) (x12 : Int) (n_0 : Bool) (s_0 : LL) : Env × Hp := ([(10, .pv (.sl n10 f10 s10)), (11, LV.own 0), (12, Y6 x12)], [.sl (21, 1) true n_0 s_0])
section
variable (n f : Bool) (es : LL) (n2 f2 : Bool) (ss : LL) (n3 f3 : Bool) (s3 : LL) (J : Int -> Int -> Prop) (μ : Int -> Int -> Nat) (J2 : Bool -> Bool -> LL -> Int -> Bool -> LL -> Prop) (μ2 : Bool -> Bool -> LL -> Int -> Bool -> LL -> Nat)
def zoj (R : PV -> Prop) : Prop :=
 PCall qb 72 [PV.sl n f es, PV.sl n2 f2 ss] fun v => ∃ n1 f1 es1, v = PV.sl n1 f1 es1 /\ (aF (zea n f es n2 f2 ss n3 f3 s3 (↑es1.length : Int) (0 : Int)) /\ J (↑es1.length : Int) (0 : Int)) /\ ∀ (x8 x9 : Int), J x8 x9 -> if (decide (x9 < (↑s3.length : Int)) && decide (x8 > 0)) = true then aI s3 x9 1 /\ ∃ n4 f4 es2, (s3.getD x9.toNat []).head? = some (PV.sl n4 f4 es2) /\ PCall qb 72 [PV.sl n f es, PV.sl n4 f4 es2] fun v1 => ∃ n5 f5 es3, v1 = PV.sl n5 f5 es3 /\
 let V1 := aF (zea n f es n2 f2 ss n3 f3 s3 x8 (i64.wrap (x9 + 1))) /\ J x8 (i64.wrap (x9 + 1)) /\ μ x8 (i64.wrap (x9 + 1)) < μ x8 x9; if decide ((↑es3.length : Int) <= x8) = true then V1 else aI s3 x9 1 /\ ∃ n6 f6 es4, (s3.getD x9.toNat []).head? = some (PV.sl n6 f6 es4) /\ PCall qb 29 [PV.sl n f es, PV.sl n6 f6 es4, PV.sl n2 f2 ss] fun v2 => ∃ b, v2 = Zb b /\ if (!b) = true then V1 else (aF (zeb n5 f5 es3 x8 true []) /\ J2 n5 f5 es3 x8 true []) /\ ∀ (n10 f10 : Bool) (s10 : LL) (x12 : Int) (n_0 : Bool) (s_0 : LL), J2 n10 f10 s10 x12 n_0 s_0 -> if decide (x12 < (↑s10.length : Int)) = true then aI s10 x12 1 /\ ∃ n7 f7 es5, (s10.getD x12.toNat []).head? = some (PV.sl n7 f7 es5) /\ (aR es5 1 /\ (s_0.length + es5.length) * 4 <= 140737488355328) /\ aF (zeb n10 f10 s10 (i64.wrap (x12 + 1)) (n_0 && es5.isEmpty) (s_0 ++ es5)) /\ J2 n10 f10 s10 (i64.wrap (x12 + 1)) (n_0 && es5.isEmpty) (s_0 ++ es5) /\ μ2 n10 f10 s10 (i64.wrap (x12 + 1)) (n_0 && es5.isEmpty) (s_0 ++ es5) < μ2 n10 f10 s10 x12 n_0 s_0 else R (PV.tup [PV.sl n_0 false s_0, Zb true]) else R (PV.tup [PV.sl true true [], Zb false])
theorem z1p {R : PV -> Prop} (h : zoj n f es n2 f2 ss n3 f3 s3 J μ J2 μ2 R) : PCall qb 36 [.sl n f es, .sl n2 f2 ss, .sl n3 f3 s3] R :=
 PCall.wz Tryz.func36 aM [0, 1, 2, 6, 7, 8, 9, 10, 11, 12, 24, 46, 51] (fJ [(3, (aX fM (zea n f es n2 f2 ss n3 f3 s3) J μ (fun e h => (gI e 8, gI e 9)) [] [0, 1, 2, 8, 9] [])), (9, (aX cz6 zeb J2 μ2 (fun e h => (gN e 10, gF e 10, gS e 10, gI e 12, oN h 0, oS h 0)) [(11, 21, 1)] [10, 11, 12] []))]) h
end
def zec (n f : Bool) (es : LL) (x1 h0_1 : Int) : Env × Hp := ([(1, Y6 x1), (2, LV.box 0 0), (4, LV.box 1 0)], [.box [LV.pv (PV.sl n f es), Y6 h0_1], .box [LV.pv (PV.sl true true []), Y6 0]])
def zed (n f : Bool) (es : LL) (x1 h0_1 : Int) : Env × Hp := ([(1, Y6 x1), (2, LV.box 0 0), (4, LV.box 1 0)], [.box [LV.pv (PV.sl n f es), Y6 h0_1], .box [LV.pv (PV.sl true true []), Y6 0]])
section
variable (n f : Bool) (es : LL) (a k : Int) (J : Int -> Int -> Prop) (μ : Int -> Int -> Nat) (J2 : Int -> Int -> Prop) (μ2 : Int -> Int -> Nat)
def zok (R : PV -> Prop) : Prop :=
 (aF (zec n f es k a) /\ J k a) /\ ∀ (x1 h0_1 : Int), J x1 h0_1 ->
 let K1 := fun (y0_ y1_ : Int) => aF (zec n f es y0_ y1_) /\ J y0_ y1_ /\ μ y0_ y1_ < μ x1 h0_1; if (decide ((↑es.length : Int) > 0) && decide (x1 > 0)) = true then if (i64.wrap (h0_1 + 1) == (↑es.length : Int)) = true then K1 (i64.wrap (x1 - 1)) (0 : Int) else K1 (i64.wrap (x1 - 1)) (i64.wrap (h0_1 + 1)) else (aF (zed n f es x1 h0_1) /\ J2 x1 h0_1) /\ ∀ (x11 h0_11 : Int), J2 x11 h0_11 ->
 let K6 := fun (y0_ y1_ : Int) => aF (zed n f es y0_ y1_) /\ J2 y0_ y1_ /\ μ2 y0_ y1_ < μ2 x11 h0_11; if (decide ((↑es.length : Int) > 0) && decide (x11 < 0)) = true then if (h0_11 == 0) = true then K6 (i64.wrap (x11 + 1)) (i64.wrap ((↑es.length : Int) - 1)) else K6 (i64.wrap (x11 + 1)) (i64.wrap (h0_11 - 1)) else R (PV.agg [PV.sl n f es, Z6 h0_11])
theorem z1q {R : PV -> Prop} (h : zok n f es a k J μ J2 μ2 R) : PCall qb 42 [.agg [.sl n f es, .int .i64 a], .int .i64 k] R :=
 PCall.wz Tryz.func42 aM [0, 1, 2, 4, 12, 22, 33, 36] (fJ [(1, (aX fM (zec n f es) J μ (fun e h => (gI e 1, hI h 0 1)) [] [1, 2, 4] [])), (6, (aX fM (zed n f es) J2 μ2 (fun e h => (gI e 1, hI h 0 1)) [] [1, 2, 4] []))]) h
end
def zee (n3 f3 : Bool) (s3 : LL) (n f : Bool) (es : LL) (a : Int) (n2 f2 : Bool) (ss : LL) (x8 h2_1 : Int) (n_3 : Bool) (s_3 : LL) : Env × Hp := ([(0, LV.pv (PV.sl n3 f3 s3)), (2, LV.pv (PV.sl n2 f2 ss)), (4, LV.box 0 0), (6, LV.box 1 0), (7, LV.box 2 0), (8, Y6 x8)], [.box [LV.pv (PV.sl n f es), Y6 a], .box [LV.pv (PV.sl true true []), Y6 0], .box [LV.own 3, Y6 h2_1], .sl (22, 1) true n_3 s_3])
section
variable (n3 f3 : Bool) (s3 : LL)(n f : Bool) (es : LL) (a : Int) (n2 f2 : Bool) (ss : LL) (J : Int -> Int -> Bool -> LL -> Prop) (μ : Int -> Int -> Bool -> LL -> Nat)
def zol (R : PV -> Prop) : Prop :=
 (aF (zee n3 f3 s3 n f es a n2 f2 ss (0 : Int) (0 : Int) true []) /\ J (0 : Int) (0 : Int) true []) /\ ∀ (x8 h2_1 : Int) (n_3 : Bool) (s_3 : LL), J x8 h2_1 n_3 s_3 ->
 let K3 := fun (y0_ y1_ : Int) (y2_ : Bool) (y3_ : LL) => aF (zee n3 f3 s3 n f es a n2 f2 ss y0_ y1_ y2_ y3_) /\ J y0_ y1_ y2_ y3_ /\ μ y0_ y1_ y2_ y3_ < μ x8 h2_1 n_3 s_3; if decide (x8 < (↑es.length : Int)) = true then aI es x8 1 /\ ∃ n1 f1 es1, (es.getD x8.toNat []).head? = some (PV.sl n1 f1 es1) /\ PCall qb 29 [PV.sl n3 f3 s3, PV.sl n1 f1 es1, PV.sl n2 f2 ss] fun v => ∃ b, v = Zb b /\ if b = true then if (x8 == a) = true then aI es x8 1 /\ ∃ n4 f4 es2, (es.getD x8.toNat []).head? = some (PV.sl n4 f4 es2) /\ (aR [[PV.sl n4 f4 es2]] 1 /\ (s_3.length + 1) * 24 <= 140737488355328) /\ K3 (i64.wrap (x8 + 1)) (↑s_3.length : Int) (n_3 && false) (s_3 ++ [[PV.sl n4 f4 es2]]) else aI es x8 1 /\ ∃ n4 f4 es2, (es.getD x8.toNat []).head? = some (PV.sl n4 f4 es2) /\ (aR [[PV.sl n4 f4 es2]] 1 /\ (s_3.length + 1) * 24 <= 140737488355328) /\ K3 (i64.wrap (x8 + 1)) h2_1 (n_3 && false) (s_3 ++ [[PV.sl n4 f4 es2]]) else K3 (i64.wrap (x8 + 1)) h2_1 n_3 s_3 else R (PV.agg [PV.sl n_3 false s_3, Z6 h2_1])
theorem z1r {R : PV -> Prop} (h : zol n3 f3 s3 n f es a n2 f2 ss J μ R) : PCall qb 41 [.sl n3 f3 s3, .agg [.sl n f es, .int .i64 a], .sl n2 f2 ss] R :=
 PCall.wz Tryz.func41 aM [0, 1, 2, 4, 6, 7, 8, 14, 24, 28] (bP 3 (aX gK (zee n3 f3 s3 n f es a n2 f2 ss) J μ (fun e h => (gI e 8, hI h 2 1, oN h 3, oS h 3)) [(1002000, 22, 1)] [0, 2, 4, 6, 7, 8] [])) h
end
def zef (n f : Bool) (es : LL) (n2 f2 : Bool) (ss : LL) (x5 : Int) : Env × Hp := ([(0, LV.pv (PV.sl n f es)), (1, LV.pv (PV.sl n2 f2 ss)), (5, Y6 x5)], [])
section
variable (n f : Bool) (es : LL) (n2 f2 : Bool) (ss : LL) (J : Int -> Prop) (μ : Int -> Nat)
def zom (R : PV -> Prop) : Prop :=
 if ((↑es.length : Int) != (↑ss.length : Int)) = true then R (Zb false) else (aF (zef n f es n2 f2 ss (0 : Int)) /\ J (0 : Int)) /\ ∀ (x5 : Int), J x5 -> if decide (x5 < (↑es.length : Int)) = true then aI es x5 1 /\ ∃ n1 f1 es1, (es.getD x5.toNat []).head? = some (PV.sl n1 f1 es1) /\ aI ss x5 1 /\ ∃ n3 f3 es2, (ss.getD x5.toNat []).head? = some (PV.sl n3 f3 es2) /\ PCall qb 22 [PV.sl n1 f1 es1, PV.sl n3 f3 es2] fun v => ∃ b, v = Zb b /\ if (!b) = true then R (Zb false) else aF (zef n f es n2 f2 ss (i64.wrap (x5 + 1))) /\ J (i64.wrap (x5 + 1)) /\ μ (i64.wrap (x5 + 1)) < μ x5 else R (Zb true)
theorem z1s {R : PV -> Prop} (h : zom n f es n2 f2 ss J μ R) : PCall qb 23 [.sl n f es, .sl n2 f2 ss] R :=
 PCall.wz Tryz.func23 aM [0, 1, 4, 5, 10, 14, 26] (bP 4 (aX iU (zef n f es n2 f2 ss) J μ (fun e h => (((gI e 5), ()))) [] [0, 1, 5] [])) h
end
end Go.Eng
namespace Go.Eng
open Go Go.Proofs Go.Eng.Rows Go.Eng.Trie Go.Eng.Srt
theorem zon (n f n2 f2 : Bool) (A B : TxQ) (hA : ∀ q ∈ A, q.2.2.length < 1000000000000) (hl : A.length < 1000000000000) :
 PCall qb 23 [.sl n f (A.map slE), .sl n2 f2 (B.map slE)] fun x => x = .bool (decide (aD A = aD B)) := by
 refine z1s _ _ _ _ _ _ (fun i => (0 <= i /\ i <= A.length) /\ (aD A).take i.toNat = (aD B).take i.toNat) (fun i => A.length - i.toNat) ?_;unfold zom;have ha : ((A.map slE).length : Int) = A.length := by rw [qa]
 have hb : ((B.map slE).length : Int) = B.length := by rw [qa]
 rw [ha, hb];refine aC (fun hc => ?_) (fun hc => ?_)
 ·simp only [bne_iff_ne, ne_eq] at hc;have : aD A ≠ aD B := fun e => hc (by rw [<- aW, <- aW, e]);simp [this]
 ·simp only [bne_iff_ne, ne_eq, qo] at hc;refine ⟨⟨rfl, ⟨Int.le_refl _, by omega⟩, rfl⟩, ?_⟩;rintro i ⟨⟨i0, i1⟩, he⟩;refine aC (fun h => ?_) (fun h => ?_)
  ·simp only [aB] at h;have hi : i.toNat < A.length := by omega
   have hj : i.toNat < B.length := by omega
   obtain ⟨g1, g2⟩ := pS i0 hi;obtain ⟨k1, k2⟩ := pS i0 hj;refine ⟨g1, _, _, _, by rw [g2]; rfl, k1, _, _, _, by rw [k2]; rfl, ?_⟩;refine (nU _ _ _ _ _ _ (hA _ (qh hi))).mono ?_;rintro _ rfl;refine ⟨_, rfl, aC (fun hx => ?_) (fun hx => ?_)⟩
   ·simp only [qg, bV] at hx;simp [zoa hi hj hx]
   ·simp only [qg, bV, qo] at hx;rw [aG (by omega) (by omega)];exact ⟨rfl, ⟨⟨by omega, by omega⟩, by rw [show (i + 1).toNat = i.toNat + 1 by omega]; exact vV hi hj he hx⟩, by dsimp only; omega⟩
  ·simp only [aB] at h;rw [qf (by rw [aW]; omega), qf (by rw [aW]; omega)] at he;simp [he]
theorem z1t {l : List Int} (h : l.length <= 1000000000) : jS true [] (aA l) 1 4 := ⟨rfl, .inl rfl, fun e he => (by cases he), cZ l, by simp only [qv, a8]; omega⟩
theorem z1u (n f n2 f2 n3 f3 : Bool) (a b c : List Int) (h : a.length + b.length + c.length <= 1000000000) : PCall qb 34 [.sl n f (aA a), .sl n2 f2 (aA b), .sl n3 f3 (aA c)] fun x => ∃ n f, x = .sl n f (aA (a ++ (b ++ c))) := by
 refine zzs _ _ _ _ _ _ _ _ _ ?_; unfold znc;refine ⟨z1t (by omega), ⟨cZ _, ?_⟩, ⟨cZ _, ?_⟩, ?_⟩
 ·rw [qw, a8, a8]; omega
 ·rw [qw, <- fO, a8, a8, qi]; omega
 ·exact ⟨_, _, by rw [qw, <- fO, <- fO, List.append_assoc]⟩
structure sF (rows : List Row) : Prop extends jK rows where
 z : ∀ (d : List Int) a, (bM rows d).s = some a -> aH rows 1 a = 0
 l : rows.length < 1000000
section
variable {rows : List Row}
theorem vX (ht : sF rows) (n f n2 f2 : Bool) (L : List Int) (hr : R32 L) (hL : L.length < 100000) :
 PCall qb 72 [.sl n f (bB rows), .sl n2 f2 (aA L)] fun x => ∃ (n f : Bool) (Q : TxQ), x = .sl n f (Q.map slE) /\ aD Q = cC rows L := by
 have hnl := lT ht.k L;refine z1n _ _ _ _ _ _ ?_; unfold zoh;refine (z0m ht.p ht.o ht.k ht.z n f n2 f2 ht.l L hr (by omega)).mono ?_;rintro _ ⟨n1, f1, rfl⟩;refine ⟨_, _, _, rfl, (zy1 ht.s n f n1 f1 ht.l (dN rows L) (zcm ht.p ht.o ht.k hr) (by omega) (by omega)).mono ?_⟩;rintro _ ⟨n2, f2, Q, rfl, hQ⟩;exact ⟨_, _, _, rfl, _, _, Q, rfl, hQ⟩
theorem zoo (ht : sF rows) (n f n2 f2 n3 f3 : Bool) (a b : List Int) (ra : R32 a) (rb : R32 b) (la : a.length < 100000) (lb : b.length < 100000) :
 PCall qb 29 [.sl n f (bB rows), .sl n2 f2 (aA a), .sl n3 f3 (aA b)] fun x => x = .bool (dT rows a b) := by
 have ha := lU ht.k a;have hb := lU ht.k b;have hm := fun c (h : c ∈ cC rows a) => zoe ht.k h;refine z1o _ _ _ _ _ _ _ _ _ (fun _ _ s7 _ _ s8 x => ∃ (i : Nat) (A B : TxQ), x = i /\ s7 = A.map slE /\ aD A = cC rows a /\ s8 = B.map slE /\ aD B = cC rows b /\ B.length <= A.length /\ i <= B.length /\ (aD A).take i = (aD B).take i) (fun _ _ _ _ _ s8 x => s8.length - x.toNat) ?_;unfold zoi;refine (vX ht n f n2 f2 a ra la).mono ?_;rintro _ ⟨n4, f4, A, rfl, hA⟩;refine ⟨_, _, _, rfl, (vX ht n f n3 f3 b rb lb).mono ?_⟩;rintro _ ⟨n5, f5, B, rfl, hB⟩;refine ⟨_, _, _, rfl, ?_⟩;have hAl : A.length = (cC rows a).length := by rw [<- hA, aW]
 have hBl : B.length = (cC rows b).length := by rw [<- hB, aW]
 refine aC (fun h => ?_) (fun h => ?_)
 ·simp only [qa, aB, gt_iff_lt] at h;unfold dT;rw [decide_eq_false];intro e;have := congrArg ql e;rw [qd] at this; omega
 ·simp only [qa, aB, gt_iff_lt] at h;refine ⟨⟨rfl, 0, A, B, rfl, rfl, hA, rfl, hB, by omega, by omega, rfl⟩, ?_⟩;clear hA hB hAl hBl h;rintro n7 f7 _ n8 f8 _ _ ⟨i, A, B, rfl, rfl, hA, rfl, hB, h, i1, i2⟩;have hAl : A.length = (cC rows a).length := by rw [<- hA, aW]
  have hBl : B.length = (cC rows b).length := by rw [<- hB, aW]
  have hAm := zof hA hm;rw [qc, jL (by omega), show ((B.map slE).length : Int) = B.length by rw [qa]];refine aC (fun hc => ?_) (fun hc => ?_)
  ·simp only [aB] at hc;have hi : i < A.length := by omega
   have hj : i < B.length := by omega
   obtain ⟨g1, g2⟩ := i9 hi;obtain ⟨k1, k2⟩ := i9 hj;refine ⟨g1, _, _, _, by rw [g2]; rfl, k1, _, _, _, by rw [k2]; rfl, ?_⟩;refine (nU _ _ _ _ _ _ (by have := hAm _ (qh hi); omega)).mono ?_;rintro _ rfl;refine ⟨_, rfl, aC (fun hx => ?_) (fun hx => ?_)⟩
   ·simp only [qg, bV] at hx;unfold dT;rw [decide_eq_false];intro e;rw [<- hA, <- hB, aW] at e
    have e2 : (aD B).getD i [] = (aD A).getD i [] := by
     rw [<- e, qu, List.getElem?_take, if_pos hj, <- qu]
    rw [i7 hi, i7 hj] at e2;exact hx e2.symm
   ·simp only [qg, bV, qo] at hx;exact ⟨rfl, ⟨i + 1, A, B, rfl, rfl, hA, rfl, hB, h, by omega, vV hi hj i2 hx⟩, by dsimp only; rw [qa]; omega⟩
  ·simp only [aB] at hc;have hiB : i = B.length := by omega
   rw [hiB, qf (l := aD B) (by rw [aW]; omega), hA, hB, hBl] at i2;unfold dT;rw [decide_eq_true i2]
theorem z1v (ht : sF rows) (n f n2 f2 n3 f3 : Bool) (L : List Int) (hr : R32 L) (hL : L.length < 100000) (W : TxQ) {m : Nat} (hm : m < 100000) (hW : TsOK m (aD W)) (hWl : W.length < 10000) :
 PCall qb 36 [.sl n f (bB rows), .sl n2 f2 (aA L), .sl n3 f3 (W.map slE)] fun x => match iG rows L (aD W) with
  | some s => ∃ n f, x = .tup [.sl n f (aA s), .bool true]
  | none => x = .tup [.sl true true [], .bool false] := by
 have hcl := lU ht.k L
 refine z1p _ _ _ _ _ _ _ _ _ (fun a x => a = (cC rows L).length /\ ∃ i : Nat, x = i /\ i <= W.length /\ iG rows L (aD W) = if (cC rows L).length = 0 then none else fQ rows L ((aD W).drop i)) (fun _ x => W.length - x.toNat)
  (fun _ _ s x _ s0 => ∃ (B : TxQ) (j : Nat), s = B.map slE /\ x = j /\ j <= B.length /\ (cC rows L).length <= j /\ s0 = aA (((aD B).take j).drop (cC rows L).length).flatten /\ iG rows L (aD W) = some ((aD B).drop (cC rows L).length).flatten /\ (aD B).flatten.length <= 768 * m /\ B.length <= 768 * m) (fun _ _ s x _ _ => s.length - x.toNat) ?_
 unfold zoj;rw [show ((W.map slE).length : Int) = W.length by rw [qa]];refine (vX ht n f n2 f2 L hr hL).mono ?_;rintro _ ⟨n1, f1, A, rfl, hA⟩;have hAl : A.length = (cC rows L).length := by rw [<- hA, aW]
 refine ⟨_, _, _, rfl, ?_⟩;rw [show ((A.map slE).length : Int) = A.length by rw [qa], hAl];refine ⟨⟨rfl, rfl, 0, rfl, by omega, rfl⟩, ?_⟩;rintro _ _ ⟨rfl, i, rfl, i1, i2⟩;rw [qc, jL (by omega)];refine aC (fun hc => ?_) (fun hc => ?_)
 ·simp only [qj, aB, gt_iff_lt] at hc;have hi : i < W.length := by omega
  rw [if_neg (by omega)] at i2;obtain ⟨g1, g2⟩ := i9 hi;obtain ⟨wr, wl⟩ := hW.get hi;have hst := zog (rows := rows) L (T := aD W) (i := i) (by rw [aW]; exact hi);rw [i7 hi] at hst;have skip : ¬((cC rows L).length < (cC rows W[i].2.2).length /\ dT rows W[i].2.2 L = true) -> iG rows L (aD W) = if (cC rows L).length = 0 then none else fQ rows L ((aD W).drop (i + 1)) := fun hx => by rw [if_neg (by omega), i2, hst, if_neg hx]
  refine ⟨g1, W[i].1, W[i].2.1, aA W[i].2.2, by rw [g2]; rfl, (vX ht n f _ _ _ wr (by omega)).mono ?_⟩;rintro _ ⟨n4, f4, B, rfl, hB⟩;have hBl : B.length = (cC rows W[i].2.2).length := by rw [<- hB, aW]
  refine ⟨_, _, _, rfl, ?_⟩;rw [show ((B.map slE).length : Int) = B.length by rw [qa]];refine aC (fun h2 => ?_) (fun h2 => ?_)
  ·simp only [aB] at h2;exact ⟨rfl, ⟨rfl, i + 1, rfl, by omega, skip fun x => by omega⟩, by dsimp only; omega⟩
  ·simp only [aB] at h2;refine ⟨g1, W[i].1, W[i].2.1, aA W[i].2.2, by rw [g2]; rfl, (zoo ht n f _ _ _ _ _ _ wr hr (by omega) hL).mono ?_⟩;rintro _ rfl;refine ⟨_, rfl, aC (fun h3 => ?_) (fun h3 => ?_)⟩
   ·simp only [qg] at h3;exact ⟨rfl, ⟨rfl, i + 1, rfl, by omega, skip fun x => by rw [h3] at x; exact absurd x.2 (by decide)⟩, by dsimp only; omega⟩
   ·simp only [qg, qab] at h3;have hbl := lU ht.k W[i].2.2;have hbf := lT ht.k W[i].2.2;rw [<- vW] at hbf;refine ⟨⟨rfl, B, (cC rows L).length, rfl, rfl, by omega, Nat.le_refl _, ?_, ?_, by rw [hB]; omega, by omega⟩, ?_⟩
    ·rw [qp (by rw [qd]; omega)]; rfl
    ·rw [i2, hst, if_pos ⟨by omega, h3⟩, hB]
    rintro n10 f10 _ _ n0 _ ⟨B', j, rfl, rfl, j1, j2, rfl, j3, j4, j5⟩;rw [qc, jL (by omega), show ((B'.map slE).length : Int) = B'.length by rw [qa]];refine aC (fun h5 => ?_) (fun h5 => ?_)
    ·simp only [aB] at h5;have hj : j < B'.length := by omega
     have hj' : j < (aD B').length := by rw [aW]; exact hj
     obtain ⟨b1, b2⟩ := i9 hj;have hg : (aD B')[j] = B'[j].2.2 := by simp [aD]
     have hml : B'[j].2.2.length <= (aD B').flatten.length := zcz (by rw [<- hg]; exact qh _)
     have hpl : (((aD B').take j).drop (cC rows L).length).flatten.length <= (aD B').flatten.length := by
      have h6 : (aD B').flatten = ((aD B').take j).flatten ++ ((aD B').drop j).flatten := by rw [<- qk, qm]
      have h7 : ((aD B').take j).flatten = (((aD B').take j).take (cC rows L).length).flatten ++ (((aD B').take j).drop (cC rows L).length).flatten := by rw [<- qk, qm]
      rw [h6, h7]; simp only [qi]; omega
     refine ⟨b1, B'[j].1, B'[j].2.1, aA B'[j].2.2, by rw [b2]; rfl, ⟨cZ _, by rw [a8, a8]; omega⟩, rfl, ⟨B', j + 1, rfl, rfl, by omega, by omega, ?_, j3, j4, j5⟩, by dsimp only; rw [qa]; omega⟩;rw [cJ hj', List.drop_append_of_le_length (by rw [qd]; omega), qk, fO, hg];simp
    ·simp only [aB] at h5;rw [qf (by rw [aW]; omega)];show match iG rows L (aD W) with | some s => _ | none => _
     rw [j3];exact ⟨_, _, rfl⟩
 ·simp only [qj, aB, gt_iff_lt] at hc;show match iG rows L (aD W) with | some s => _ | none => _
  have : iG rows L (aD W) = none := by
   rw [i2];split
   ·rfl
   ·rw [qp (by rw [aW]; omega), fQ]
  rw [this]
theorem z1w (n f : Bool) (W : TxQ) (a k : Int) (hWl : W.length < 10000) (h : 0 <= a /\ (a < W.length ∨ W = [])) (hk : -1000 <= k /\ k <= 1000) :
 PCall qb 42 [jM n f W a, .int .i64 k] fun x => x = jM n f W (if W = [] then a else (a + k) % W.length) := by
 refine z1q _ _ _ _ _ (fun x b => (-1000 <= x /\ x <= 1000) /\ (W = [] -> b = a) /\ (W ≠ [] -> (0 <= b /\ b < W.length) /\ (b + x) % W.length = (a + k) % W.length)) (fun x _ => x.toNat)
  (fun x b => (-1000 <= x /\ x <= 0 ∨ W = []) /\ (W = [] -> b = a) /\ (W ≠ [] -> (0 <= b /\ b < W.length) /\ (b + x) % W.length = (a + k) % W.length)) (fun x _ => (-x).toNat) ?_
 unfold zok;rw [show ((W.map slE).length : Int) = W.length by rw [qa]];refine ⟨⟨rfl, hk, fun _ => rfl, fun hne => ⟨⟨h.1, h.2.resolve_right hne⟩, rfl⟩⟩, ?_⟩;rintro x b ⟨⟨x0, x1⟩, b0, b1⟩;refine aC (fun hc => ?_) (fun hc => ?_)
 ·simp only [qj, aB, gt_iff_lt] at hc;have hne : W ≠ [] := fun e => by rw [e] at hc; simp at hc
  obtain ⟨⟨b2, b3⟩, b4⟩ := b1 hne;have e1 : i64.wrap (b + 1) = b + 1 := aG (by omega) (by omega);have e2 : i64.wrap (x - 1) = x - 1 := aG (by omega) (by omega);rw [e1, e2];refine aC (fun hx => ?_) (fun hx => ?_)
  ·simp only [beq_iff_eq] at hx;refine ⟨rfl, ⟨by omega, fun e => absurd e hne, fun _ => ⟨by omega, ?_⟩⟩, by dsimp only; omega⟩;rw [<- b4, show b + x = (0 + (x - 1)) + W.length by omega, qz]
  ·simp only [beq_iff_eq] at hx;refine ⟨rfl, ⟨by omega, fun e => absurd e hne, fun _ => ⟨by omega, ?_⟩⟩, by dsimp only; omega⟩;rw [<- b4, show b + 1 + (x - 1) = b + x by omega]
 ·simp only [qj, aB, gt_iff_lt, not_and] at hc;refine ⟨⟨rfl, ?_, b0, b1⟩, ?_⟩
  ·by_cases hne : W = []
   ·exact .inr hne
   ·have : 0 < W.length := List.length_pos_iff.2 hne;have := hc (by omega);exact .inl ⟨x0, by omega⟩
  clear hc b0 b1 x0 x1 b x;rintro x b ⟨x0, b0, b1⟩;refine aC (fun hc => ?_) (fun hc => ?_)
  ·simp only [qj, aB, gt_iff_lt] at hc;have hne : W ≠ [] := fun e => by rw [e] at hc; simp at hc
   obtain ⟨⟨b2, b3⟩, b4⟩ := b1 hne;have x0' := x0.resolve_right hne;have e1 : i64.wrap (b - 1) = b - 1 := aG (by omega) (by omega);have e2 : i64.wrap (x + 1) = x + 1 := aG (by omega) (by omega);have e3 : i64.wrap ((W.length : Int) - 1) = (W.length : Int) - 1 := aG (by omega) (by omega);rw [e1, e2, e3];refine aC (fun hx => ?_) (fun hx => ?_)
   ·simp only [beq_iff_eq] at hx;refine ⟨rfl, ⟨.inl (by omega), fun e => absurd e hne, fun _ => ⟨by omega, ?_⟩⟩, by dsimp only; omega⟩;rw [<- b4, show (W.length : Int) - 1 + (x + 1) = (b + x) + W.length by omega, qz]
   ·simp only [beq_iff_eq] at hx;refine ⟨rfl, ⟨.inl (by omega), fun e => absurd e hne, fun _ => ⟨by omega, ?_⟩⟩, by dsimp only; omega⟩;rw [<- b4, show b - 1 + (x + 1) = b + x by omega]
  ·simp only [qj, aB, gt_iff_lt, not_and] at hc;by_cases hne : W = []
   ·rw [if_pos hne, b0 hne]; rfl
   ·have h0 : 0 < W.length := List.length_pos_iff.2 hne;have h1 := hc (by omega);have x0' := x0.resolve_right hne;obtain ⟨⟨b2, b3⟩, b4⟩ := b1 hne;have hx : x = 0 := by omega
    rw [hx, Int.add_zero, Int.emod_eq_of_lt b2 b3] at b4;rw [if_neg hne, b4]; rfl
theorem z1x (ht : sF rows) (n f n2 f2 n3 f3 : Bool) (W : TxQ) (a : Nat) (L : List Int) (hr : R32 L) (hL : L.length < 100000) {m : Nat} (hm : m < 100000) (hW : TsOK m (aD W)) (hWl : W.length < 10000) :
 PCall qb 41 [.sl n3 f3 (bB rows), jM n f W a, .sl n2 f2 (aA L)] fun x => ∃ n Q, x = jM n false Q (nY rows L (aD W) a : Nat) /\ aD Q = d9 rows L (aD W) := by
 refine z1r _ _ _ _ _ _ _ _ _ _ (fun x y _ s => ∃ (i : Nat) (Q : TxQ), x = i /\ i <= W.length /\ s = Q.map slE /\ aD Q = d9 rows L ((aD W).take i) /\ y = (mR rows L (aD W) a i : Nat)) (fun x _ _ _ => W.length - x.toNat) ?_;unfold zol;rw [show ((W.map slE).length : Int) = W.length by rw [qa]];refine ⟨⟨rfl, 0, [], rfl, by omega, rfl, by rw [qn]; rfl, by unfold mR; rw [if_neg (by omega)]; rfl⟩, ?_⟩;rintro _ _ n0 _ ⟨i, Q, rfl, i1, rfl, hQ, rfl⟩;rw [qc, jL (by omega)];refine aC (fun hc => ?_) (fun hc => ?_)
 ·simp only [aB] at hc;have hi : i < W.length := by omega
  have hi' : i < (aD W).length := by rw [aW]; exact hi
  obtain ⟨g1, g2⟩ := i9 hi;obtain ⟨wr, wl⟩ := hW.get hi;have hg : (aD W)[i] = W[i].2.2 := by simp [aD]
  have hs := zds (rows := rows) L hi';have hp := znk (rows := rows) L (a := a) hi';rw [hg] at hs hp
  have hlen : Q.length <= i := by
   have h1 := congrArg ql hQ;have h2 : (d9 rows L ((aD W).take i)).length <= ((aD W).take i).length := qr _ _;rw [aW] at h1;rw [qd] at h2; omega
  refine ⟨g1, W[i].1, W[i].2.1, aA W[i].2.2, by rw [g2]; rfl, (zoo ht _ _ _ _ _ _ _ _ wr hr (by omega) hL).mono ?_⟩;rintro _ rfl;refine ⟨_, rfl, aC (fun h2 => ?_) (fun h2 => ?_)⟩
  ·rw [h2] at hs hp;have fin : aD (Q ++ [W[i]]) = d9 rows L ((aD W).take (i + 1)) := by rw [hs, if_pos rfl, sD, hQ]
   refine aC (fun h3 => ?_) (fun h3 => ?_)
   ·simp only [beq_iff_eq] at h3;refine ⟨g1, W[i].1, W[i].2.1, aA W[i].2.2, by rw [g2]; rfl, ⟨nZ W[i], by rw [qa]; omega⟩, rfl, ⟨i + 1, Q ++ [W[i]], rfl, by omega, oB Q W[i], fin, ?_⟩, by dsimp only; omega⟩;rw [hp, if_pos ⟨rfl, by omega⟩, <- hQ, aW, qa]
   ·simp only [beq_iff_eq] at h3;refine ⟨g1, W[i].1, W[i].2.1, aA W[i].2.2, by rw [g2]; rfl, ⟨nZ W[i], by rw [qa]; omega⟩, rfl, ⟨i + 1, Q ++ [W[i]], rfl, by omega, oB Q W[i], fin, ?_⟩, by dsimp only; omega⟩;rw [hp, if_neg fun h => h3 (by omega)]
  ·have h2' := Bool.eq_false_iff.2 h2;rw [h2'] at hs hp;exact ⟨rfl, ⟨i + 1, Q, rfl, by omega, rfl, by rw [hs, if_neg (by decide)]; exact hQ, by rw [hp, if_neg (by simp)]⟩, by dsimp only; omega⟩
 ·simp only [aB] at hc;have hil : i = (aD W).length := by rw [aW]; omega
  rw [qf (by omega)] at hQ;refine ⟨n0, Q, ?_, hQ⟩;rw [hil, znl]; rfl
end
theorem vY : jK tab := ⟨zx4, zkz, zb4, zb5, zxf, zy6⟩
theorem zop : sF tab := ⟨vY, z0q, zla⟩
def pT : List Int := [103, 111, 32, 102, 111]
def goW : TxQ := [(false, true, [102, 111, 111]), (false, true, [102, 111, 98]), (false, true, [98, 97, 114])]
theorem z1y : sE tab pT 5 (aD goW) = [[102, 111, 111], [102, 111, 98]] := by kernel_rfl
theorem z1z : gD tab pT 5 = 3 := by kernel_rfl
theorem z10 : (fE tab [[102, 111, 111], [102, 111, 98]]).flatten = [102, 111] := by kernel_rfl
theorem awake44 : PCall qb 30 [] fun v => v = .bool true := by
 refine zzw ?_; unfold zne;refine p42.mono ?_;rintro _ ⟨n, f, rfl⟩;refine ⟨_, _, _, rfl, ?_⟩;refine (vG n f).mono fun t ht => ?_
 refine (z1h vY ht false true false true pT (fun x hx => by simp [pT] at hx; omega) (by simp [pT]) 5 goW (m := 3) (by omega) (fun t h => by
  simp [goW, aD] at h;rcases h with rfl | rfl | rfl
  ·exact ⟨fun x hx => by simp at hx; omega, by simp⟩
  ·exact ⟨fun x hx => by simp at hx; omega, by simp⟩
  ·exact ⟨fun x hx => by simp at hx; omega, by simp⟩) (by simp [goW])).mono ?_
 intro x hx;rw [show (5 : Int).toNat = 5 from rfl, z1y, z1z, z10, if_pos ⟨⟨by omega, by simp [pT]⟩, by simp⟩] at hx;obtain ⟨n1, f1, n3, Q, rfl, hQ⟩ := hx;have hl : Q.length = 2 := by rw [<- aW, hQ]; rfl
 refine ⟨_, rfl, rfl, _, rfl, _, rfl, rfl, _, rfl, _, rfl, _, _, _, rfl, _, _, _, rfl, _, rfl, _, rfl, bJ rfl (bJ rfl (bJ rfl ?_))⟩;refine (nU n1 f1 false true [102, 111] [102, 111] (by simp)).mono ?_;rintro _ rfl;refine ⟨_, rfl, bJ rfl ?_⟩;rw [qa, hl]; rfl
theorem wLL : Tryz.prog.underlying 47 = some (.slice 22) := by kernel_rfl
theorem zoq {v : PV} (h : lH qb 8 47 v) : ∃ (nl : Bool) (ls : TxQ), v = .sl nl false (ls.map slE) /\ ∀ q ∈ ls, R32 q.2.2 := by
 obtain ⟨nl, es, e, _, _, h3⟩ := uD wLL (yQ (by kernel_rfl) h);cases e
 obtain ⟨m, rfl, hm⟩ := uE (f := slE) (Q := fun q => R32 q.2.2) (l := es) fun x hx => by
  obtain ⟨nl, l, e, _, _, hr⟩ := uF v22 v21 (h3 x hx);exact ⟨(nl, false, l), e, hr⟩
 exact ⟨nl, m, rfl, hm⟩
theorem zor {Q Q' : TxQ} (hQ : ∀ q ∈ Q, R32 q.2.2) (h : Q'.map (fun q => q.2.2) = (Q.take 8).map (fun q => q.2.2.take 12)) : TsOK 12 (aD Q') /\ Q'.length <= 8 := by
 have hl := congrArg ql h;rw [qa, qa, qd] at hl;refine ⟨fun t ht => ?_, by omega⟩;unfold aD at ht;rw [h] at ht;obtain ⟨q, hq, rfl⟩ := List.mem_map.1 ht;exact ⟨(hQ q (qt hq)).take 12, by rw [qd]; omega⟩
theorem z11 {s : List Int} (h : s.length <= 12) : (dN tab s).length <= 9216 := by have := lT zb5 s; omega
theorem z12 (n f : Bool) (l : List Int) (a b : Int) (n0 f0 : Bool) (s : List Int) (n1 f1 : Bool) (ws : List (List PV)) : PCall qb 9 [.sl n f (aA l), .agg [.int .i64 a, .int .i64 b, .sl n0 f0 (aA s), .sl n1 f1 ws]] fun v => v = .bool true := by
 refine zzy _ _ _ _ _ _ _ _ _ _ _ ?_; unfold zng;refine (pL n f l 60 (by omega)).mono ?_;rintro _ ⟨n2, f2, rfl⟩;refine ⟨_, _, _, rfl, (pL n0 f0 s 30 (by omega)).mono ?_⟩;rintro _ ⟨n3, f3, rfl⟩;refine ⟨_, _, _, rfl, p42.mono ?_⟩;rintro _ ⟨n4, f4, rfl⟩;refine ⟨_, _, _, rfl, (vG n4 f4).mono fun t ht => ?_⟩;have la := vJ l 60;have lb := vJ s 30;generalize l.take 60 = L at *;generalize s.take 30 = S at *;have aw : PCall qb 30 [] fun v5 => ∃ b1, v5 = Zb b1 /\ PV.bool b1 = .bool true := awake44.mono fun x hx => ⟨true, hx, rfl⟩;refine (pDo ht a b n3 f3 n2 f2 S L n1 f1 ws (by omega) (by omega)).mono fun x hx => ?_;by_cases hc : (0 <= a /\ a <= b) /\ b <= L.length
 ·rw [if_pos hc] at hx;obtain ⟨n5, f5, rfl⟩ := hx;refine ⟨_, rfl, rfl, _, rfl, _, _, _, rfl, _, rfl, _, rfl, _, rfl, _, rfl, ?_⟩;simp only [a8];refine bF (by simp only [aB]; omega) (bF (by simp only [aB]; omega) (bF (by simp only [aB]; omega) ?_));refine ⟨⟨sB (by omega) (by omega), cZ _⟩, ⟨vU (by omega) (by omega), cZ _⟩, ?_⟩;rw [zdj, show ((L.length : Nat) : Int).toNat = L.length from qc _, zd7, qac];have h1 : (L.take a.toNat).length <= 60 := by rw [qd]; omega
  have h2 : (L.drop b.toNat).length <= 60 := by rw [qq]; omega
  refine (z1u _ _ _ _ _ _ _ _ _ (by omega)).mono ?_;rintro _ ⟨n6, f6, rfl⟩;refine ⟨_, _, _, rfl, (nU _ _ _ _ _ _ (by rw [qi, qi]; omega)).mono ?_⟩;rintro _ rfl;refine ⟨_, rfl, bJ (by simp) (bJ ?_ aw)⟩;rw [aG (by omega) (by omega)]; simp
 ·rw [if_neg hc] at hx;subst hx;refine ⟨_, rfl, rfl, _, rfl, _, _, _, rfl, _, rfl, _, rfl, _, rfl, _, rfl, ?_⟩;simp only [a8];refine aC (fun h => bJ rfl aw) (fun h => aC (fun h2 => bJ rfl aw) (fun h2 => aC (fun h3 => bJ rfl aw) (fun h3 => ?_)));simp only [aB] at h h2 h3;omega
theorem z13 (n f : Bool) (l : List Int) (rl : R32 l) (n0 f0 : Bool) (Q : TxQ) (hQ : ∀ q ∈ Q, R32 q.2.2) : PCall qb 10 [.sl n f (aA l), .sl n0 f0 (Q.map slE)] fun v => v = .bool true := by
 refine zzz _ _ _ _ _ _ ?_; unfold znh;refine (pL n f l 12 (by omega)).mono ?_;rintro _ ⟨n1, f1, rfl⟩;have la := vJ l 12;have ra := rl.take 12;generalize l.take 12 = L at *;refine ⟨_, _, _, rfl, (znj n0 f0 Q).mono ?_⟩;rintro _ ⟨n2, W, rfl, hW, hWn⟩;clear hWn;obtain ⟨hW1, hW2⟩ := zor hQ hW;refine ⟨_, _, _, rfl, p42.mono ?_⟩;rintro _ ⟨n3, f3, rfl⟩;refine ⟨_, _, _, rfl, (vG n3 f3).mono fun t ht => ?_⟩;have aw : PCall qb 30 [] fun v5 => ∃ b1, v5 = Zb b1 /\ PV.bool b1 = .bool true := awake44.mono fun x hx => ⟨true, hx, rfl⟩;refine (z1i vY ht n1 f1 n2 false L ra (by omega) W (m := 12) (by omega) hW1 (by omega)).mono fun x hx => ?_;have key := z1v zop n3 f3 n1 f1 n2 false L ra (by omega) W (m := 12) (by omega) hW1 (by omega)
 have hlen : ∀ s, iG tab L (aD W) = some s -> s.length < 1000000000000 := fun s hs => by
  unfold iG at hs;split at hs
  ·cases hs
  ·have gen : ∀ T : List (List Int), TsOK 12 T -> fQ tab L T = some s -> s.length < 1000000000000 := by
    intro T
    induction T with
    | nil => intro _ h; rw [fQ] at h; cases h
    | cons t T ih =>
      intro hT h;rw [fQ] at h;split at h
      ·cases h;have h1 := z11 (hT t List.mem_cons_self).2;rw [<- vW] at h1;have h2 : (cC tab t).flatten = ((cC tab t).take (cC tab L).length).flatten ++ ((cC tab t).drop (cC tab L).length).flatten := by rw [<- qk, qm]
       rw [h2, qi] at h1; omega
      ·exact ih (fun u hu => hT u (List.mem_cons_of_mem _ hu)) h
   exact gen _ hW1 hs
 cases hh : iG tab L (aD W) with
 | none =>
   rw [hh] at hx key;subst hx;refine ⟨_, rfl, rfl, _, rfl, _, _, _, rfl, _, rfl, _, rfl, key.mono ?_⟩;rintro _ rfl;refine ⟨_, rfl, rfl, _, rfl, _, _, _, rfl, _, rfl, _, rfl, (nU true true true true [] [] (by simp)).mono ?_⟩;rintro _ rfl;exact ⟨_, rfl, bJ rfl aw⟩
 | some s =>
   rw [hh] at hx key;obtain ⟨n4, f4, rfl⟩ := hx;refine ⟨_, rfl, rfl, _, rfl, _, _, _, rfl, _, rfl, _, rfl, key.mono ?_⟩;rintro _ ⟨n5, f5, rfl⟩;refine ⟨_, rfl, rfl, _, rfl, _, _, _, rfl, _, rfl, _, rfl, (nU _ _ _ _ s s (hlen s hh)).mono ?_⟩;rintro _ rfl;exact ⟨_, rfl, bJ (by simp) aw⟩
abbrev MvQ := Int × Bool × Bool × Bool × List Int
def oC (q : MvQ) : List PV := [.int .i64 q.1, .bool q.2.1, .sl q.2.2.1 q.2.2.2.1 (aA q.2.2.2.2)]
theorem z14 (q : MvQ) : (oC q).length = 3 := rfl
theorem zos {A A1 C D : TxQ} {n6 f6 n9 n13 f10 n16 f12 : Bool} {a0 a1 : Nat} {K : Prop} (hA : TsOK 12 (aD A)) (hAl : A.length <= 8) (hA1 : aD A1 = aD A) (hCD : aD C = aD D) (hc : a1 < C.length ∨ C = []) (hC : TsOK 12 (aD C)) (hCl : C.length <= 8) (hK : K) :
 PCall qb 38 [.agg [.sl n6 f6 (A.map slE), .int .i64 a0]] fun (v10 : PV) => ∃ (vs1 : List PV), v10 = .tup vs1 /\ vs1.length = 2 /\ ∃ (x2 : PV), vs1.head? = some x2 /\ ∃ (n18 : Bool), ∃ (f13 : Bool), ∃ (es11 : LL), x2 = .sl n18 f13 es11 /\ ∃ (x3 : PV), vs1.tail.head? = some x3 /\ ∃ (n19 : Int), x3 = Z6 n19 /\ PCall qb 23 [.sl n9 false (A1.map slE), .sl n18 f13 es11] fun (v11 : PV) => ∃ (b1 : Bool), v11 = Zb b1 /\ if (!b1 || (a0 : Int) != n19) = true then PV.bool false = .bool true else
  PCall qb 38 [.agg [.sl n13 f10 (C.map slE), .int .i64 a1]] fun (v12 : PV) => ∃ (vs2 : List PV), v12 = .tup vs2 /\ vs2.length = 2 /\ ∃ (x4 : PV), vs2.head? = some x4 /\ ∃ (n20 : Bool), ∃ (f14 : Bool), ∃ (es12 : LL), x4 = .sl n20 f14 es12 /\ ∃ (x5 : PV), vs2.tail.head? = some x5 /\ ∃ (n21 : Int), x5 = Z6 n21 /\
  PCall qb 43 [.agg [.sl n13 f10 (C.map slE), .int .i64 a1]] fun (v13 : PV) => ∃ (vs3 : List PV), v13 = .tup vs3 /\ vs3.length = 2 /\ ∃ (x7 : PV), vs3.head? = some x7 /\ ∃ (n22 : Bool), ∃ (f15 : Bool), ∃ (es13 : LL), x7 = .sl n22 f15 es13 /\ ∃ (x8 : PV), vs3.tail.head? = some x8 /\ ∃ (b2 : Bool), x8 = Zb b2 /\
  PCall qb 23 [.sl n20 f14 es12, .sl n16 f12 (D.map slE)] fun (v14 : PV) => ∃ (b3 : Bool), v14 = Zb b3 /\ if (!b3) = true then PV.bool false = .bool true else if (n21 != (a1 : Int)) = true then PV.bool false = .bool true else if (b2 != decide (((D.map slE).length : Int) > 0)) = true then PV.bool false = .bool true else
  if b2 = true then aI (D.map slE) (a1 : Int) 1 /\ ∃ (n23 : Bool), ∃ (f16 : Bool), ∃ (es14 : LL), ((D.map slE).getD ((a1 : Int)).toNat []).head? = some (.sl n23 f16 es14) /\ PCall qb 22 [.sl n22 f15 es13, .sl n23 f16 es14] fun (v15 : PV) => ∃ (b4 : Bool), v15 = Zb b4 /\ if (!b4) = true then PV.bool false = .bool true else K else K := by
 have small : ∀ {A : TxQ}, TsOK 12 (aD A) -> ∀ q ∈ A, q.2.2.length < 1000000 := fun hA q hq => by have := (hA q.2.2 (List.mem_map.2 ⟨q, hq, rfl⟩)).2; omega
 have hDl : D.length = C.length := by rw [<- aW, <- hCD, aW]
 have hA1l : A1.length = A.length := by rw [<- aW, hA1, aW]
 refine (zd8 n6 f6 A a0 (small hA) (by omega)).mono ?_;rintro _ ⟨n18, A2, rfl, hA2⟩;refine ⟨_, rfl, rfl, _, rfl, _, _, _, rfl, _, rfl, _, rfl, ?_⟩;refine (zon _ _ _ _ A1 A2 (fun q hq => by have := small (A := A1) (by rw [hA1]; exact hA) q hq; omega) (by omega)).mono ?_;rintro _ rfl;refine ⟨_, rfl, bF (by rw [hA1, hA2]; simp) ?_⟩;refine (zd8 n13 f10 C a1 (small hC) (by omega)).mono ?_;rintro _ ⟨n20, C2, rfl, hC2⟩;have hC2l : C2.length = C.length := by rw [<- aW, hC2, aW]
 refine ⟨_, rfl, rfl, _, rfl, _, _, _, rfl, _, rfl, _, rfl, ?_⟩;have st : PCall qb 23 [.sl n20 false (C2.map slE), .sl n16 f12 (D.map slE)] fun x => x = .bool true := (zon _ _ _ _ C2 D (fun q hq => by have := small (A := C2) (by rw [hC2]; exact hC) q hq; omega) (by omega)).mono fun x hx => by rw [hx, hC2, hCD, decide_eq_true rfl]
 refine (z1l n13 f10 C a1 (small hC) ⟨by omega, hc.imp (fun h => by omega) id⟩).mono fun x hx => ?_;by_cases hne : C = []
 ·rw [if_pos hne] at hx;subst hx;have hD0 : D.length = 0 := by rw [hDl, hne]; rfl
  refine ⟨_, rfl, rfl, _, rfl, _, _, _, rfl, _, rfl, _, rfl, st.mono ?_⟩;rintro _ rfl;refine ⟨_, rfl, bF (by simp) (bF (by simp) (bF ?_ (bF (by simp) hK)))⟩;rw [qa, hD0]; simp
 ·rw [if_neg hne] at hx;obtain ⟨n22, f15, rfl⟩ := hx;have hlt : a1 < D.length := by rw [hDl]; exact hc.resolve_right hne
  have hltC : a1 < C.length := hc.resolve_right hne;obtain ⟨k1, k2⟩ := i9 hlt;refine ⟨_, rfl, rfl, _, rfl, _, _, _, rfl, _, rfl, _, rfl, st.mono ?_⟩;rintro _ rfl;refine ⟨_, rfl, bF (by simp) (bF (by simp) (bF ?_ (bJ rfl ?_)))⟩
  ·rw [qa, decide_eq_true (show ((D.length : Nat) : Int) > 0 by omega)]; simp
  ·rw [qc];refine ⟨k1, D[a1].1, D[a1].2.1, aA D[a1].2.2, by rw [k2]; rfl, (nU _ _ _ _ _ _ (by rw [i7 hltC]; have := small hC _ (qh hltC); omega)).mono ?_⟩;rintro _ rfl;refine ⟨_, rfl, bF ?_ hK⟩;rw [hCD, i7 hlt]; simp
theorem z15 (n f : Bool) (Q : TxQ) (hQ : ∀ q ∈ Q, R32 q.2.2) (n0 f0 : Bool) (M : List MvQ) (hM : ∀ q ∈ M, R32 q.2.2.2.2) : PCall qb 11 [.sl n f (Q.map slE), .sl n0 f0 (M.map oC)] fun v => v = .bool true := by
 refine zz0 _ _ _ _ _ _
  (fun _ _ s5 x6 x9 _ _ s0 a0 _ _ s1 a1 => ∃ (i : Nat) (A B : TxQ) (at' : Nat), x9 = i /\ i <= 12 /\ s5 = bB tab /\ cO tab x6 /\ s0 = A.map slE /\ s1 = B.map slE /\ aD A = aD B /\ a0 = at' /\ a1 = at' /\ (at' < A.length ∨ A = []) /\ TsOK 12 (aD A) /\ A.length <= 8)
  (fun _ _ _ _ x9 _ _ _ _ _ _ _ _ => 12 - x9.toNat) ?_
 unfold zni;refine (znj n f Q).mono ?_;rintro _ ⟨n2, W, rfl, hW, hWn⟩;clear hWn;obtain ⟨hW1, hW2⟩ := zor hQ hW;refine ⟨_, _, _, rfl, p42.mono ?_⟩;rintro _ ⟨n3, f3, rfl⟩;refine ⟨_, _, _, rfl, (vG n3 f3).mono fun t ht => ?_⟩;have aw : PCall qb 30 [] fun v5 => ∃ b1, v5 = Zb b1 /\ PV.bool b1 = .bool true := awake44.mono fun x hx => ⟨true, hx, rfl⟩;have small : ∀ {A : TxQ}, TsOK 12 (aD A) -> ∀ q ∈ A, q.2.2.length < 1000000 := fun hA q hq => by have := (hA q.2.2 (List.mem_map.2 ⟨q, hq, rfl⟩)).2; omega
 refine (z1j n2 false W (small hW1) (by omega)).mono ?_;rintro _ ⟨n4, A, rfl, hA⟩;have hAl : A.length = W.length := by rw [<- aW, hA, aW]
 refine ⟨_, rfl, rfl, _, _, _, rfl, _, rfl, ⟨rfl, 0, A, W, 0, rfl, by omega, rfl, ht, rfl, rfl, hA, rfl, rfl, ?_, by rw [hA]; exact hW1, by omega⟩, ?_⟩
 ·rcases qaa A.length with h | h
  ·exact .inr (qe h)
  ·exact .inl h
 clear hA hAl hW hW1 hW2 A W ht t;rintro n5 f5 _ t _ n6 f6 _ _ n7 f7 _ _ ⟨i, A, B, at', rfl, i1, rfl, ht, rfl, rfl, hAB, rfl, rfl, hat, hA, hAl⟩;have hBl : B.length = A.length := by rw [<- aW, <- hAB, aW]
 have hB : TsOK 12 (aD B) := by rw [<- hAB]; exact hA
 have hBA : A = [] ↔ B = [] := ⟨fun e => qe (by rw [hBl, e]; rfl), fun e => qe (by rw [<- hBl, e]; rfl)⟩;rw [qc, jL (by omega), show ((M.map oC).length : Int) = M.length by rw [qa]];refine aC (fun hc => ?_) (fun hc => ?_)
 ·simp only [qj, aB] at hc;have hi : i < M.length := by omega
  have g1 : aI (M.map oC) (i : Int) 3 := bQ z14 (by omega) (by omega);have g2 : (M.map oC).getD i [] = oC M[i] := bZ hi;have mr := hM M[i] (qh hi);generalize M[i] = q at *;obtain ⟨k, nar, n8, f8, w⟩ := q;dsimp only at mr;refine ⟨g1, k, by rw [g2]; rfl, nar, by rw [g2]; rfl, n8, f8, aA w, by rw [g2]; rfl, ?_⟩;have wat : (0 : Int) <= at' /\ ((at' : Int) < A.length ∨ A = []) := ⟨by omega, hat.imp (fun h => by omega) id⟩;refine (zd8 n6 f6 A at' (small hA) (by omega)).mono ?_;rintro _ ⟨n9, A1, rfl, hA1⟩;refine ⟨_, rfl, rfl, _, rfl, _, _, _, rfl, _, rfl, _, rfl, ?_⟩
  obtain ⟨a1, ha1, ha2⟩ : ∃ a1 : Nat, (if A = [] then (at' : Int) else ((at' : Int) + k) % A.length) = a1 /\ (a1 < A.length ∨ A = []) := by
   by_cases hne : A = []
   ·exact ⟨at', by rw [if_pos hne], .inr hne⟩
   ·have h0 : 0 < A.length := List.length_pos_iff.2 hne;have h4 := qy ((at' : Int) + k) (by omega : (0 : Int) < A.length);have h5 := qaf ((at' : Int) + k) (by omega : (A.length : Int) ≠ 0);exact ⟨(((at' : Int) + k) % A.length).toNat, by rw [if_neg hne]; omega, .inl (by omega)⟩
  have st := z1k n6 f6 A at' k (by omega) wat;rw [ha1] at st;refine st.mono ?_;rintro _ rfl;refine ⟨_, rfl, rfl, _, _, _, rfl, _, rfl, ?_⟩;have goes : ∀ {C D : TxQ} {a1 : Nat}, aD C = aD D -> (a1 < C.length ∨ C = []) -> TsOK 12 (aD C) -> C.length <= 8 -> ∃ (i' : Nat) (A B : TxQ) (at2 : Nat), ((i + 1 : Nat) : Int) = i' /\ i' <= 12 /\ bB tab = bB tab /\ cO tab t /\ C.map slE = A.map slE /\ D.map slE = B.map slE /\ aD A = aD B /\ (a1 : Int) = at2 /\ (a1 : Int) = at2 /\ (at2 < A.length ∨ A = []) /\ TsOK 12 (aD A) /\ A.length <= 8 := fun {C D a1} h1 h2 h3 h4 => ⟨i + 1, C, D, a1, rfl, by omega, rfl, ht, rfl, rfl, h1, rfl, rfl, h2, h3, h4⟩;refine aC (fun hn => ?_) (fun hn => aC (fun h1 => aw) (fun h1 => aC (fun h2 => aw) (fun h2 => ?_)))
  ·have wr := mr.take 6;have wl := vJ w 6;refine (pL n8 f8 w 6 (by omega)).mono ?_;rintro _ ⟨n10, f10, rfl⟩;refine ⟨_, _, _, rfl, ?_⟩;refine (z1m vY ht n6 f6 n10 f10 A at' (w.take 6) wr (by omega) (m := 12) (by omega) hA (by omega)).mono ?_;rintro _ ⟨n11, C, rfl, hC⟩;refine ⟨_, rfl, rfl, _, _, _, rfl, _, rfl, (pL n8 f8 w 6 (by omega)).mono ?_⟩;rintro _ ⟨n12, f12, rfl⟩;refine ⟨_, _, _, rfl, ?_⟩;refine (z1x zop n7 f7 n12 f12 n5 f5 B at' (w.take 6) wr (by omega) (m := 12) (by omega) hB (by omega)).mono ?_;rintro _ ⟨n13, D, rfl, hD⟩;rw [<- hAB] at hD ⊢;have hCl := congrArg ql hC;have hfl : (d9 tab (w.take 6) (aD A)).length <= (aD A).length := qr _ _;rw [aW] at hCl hfl;have hCT : TsOK 12 (aD C) := fun u hu => hA u (by rw [hC] at hu; exact (List.mem_filter.1 hu).1)
   have hca : nY tab (w.take 6) (aD A) at' < C.length ∨ C = [] := by
    rcases zz2 (rows := tab) (w.take 6) (T := aD A) (a := at') with h | h
    ·rcases qaa C.length with h0 | h0
     ·exact .inr (qe h0)
     ·exact .inl (by omega)
    ·exact .inl (by omega)
   have hCD : aD C = aD D := hC.trans hD.symm;refine ⟨_, rfl, rfl, _, _, _, rfl, _, rfl, ?_⟩;exact zos hA hAl hA1 hCD hca hCT (by omega) ⟨rfl, goes hCD hca hCT (by omega), by dsimp only; omega⟩
  ·simp only [aB, gt_iff_lt] at h1 h2;have st2 := z1w n7 f7 B at' k (by omega) ⟨by omega, by rw [hBl]; exact wat.2.imp id hBA.1⟩ (by omega)
   have ha3 : (if B = [] then (at' : Int) else ((at' : Int) + k) % B.length) = a1 := by
    rw [<- ha1, hBl];by_cases hne : A = []
    ·rw [if_pos hne, if_pos (hBA.1 hne)]
    ·rw [if_neg hne, if_neg fun h => hne (hBA.2 h)]
   rw [ha3] at st2;refine st2.mono ?_;rintro _ rfl;refine ⟨_, rfl, rfl, _, _, _, rfl, _, rfl, ?_⟩;exact zos hA hAl hA1 hAB ha2 hA hAl ⟨rfl, goes hAB ha2 hA hAl, by dsimp only; omega⟩
 ·exact aw
theorem lawCompleteHints {pvs : List PV} (h : lI qb 8 Tryz.f10.params.toList pvs) : PCall qb 10 pvs fun v => v = .bool true := by
 obtain ⟨v0, r0, rfl, h0, v1, r1, rfl, h1, rfl⟩ : lI qb 8 [22, 47] pvs := h;obtain ⟨nl, l, rfl, hr⟩ := zln h0;obtain ⟨nl2, ls, rfl, hr2⟩ := zoq h1;exact z13 _ _ l hr _ _ ls hr2
theorem lawCompleteDoes {pvs : List PV} (h : lI qb 8 Tryz.f9.params.toList pvs) : PCall qb 9 pvs fun v => v = .bool true := by
 obtain ⟨v0, r0, rfl, h0, v1, r1, rfl, h1, rfl⟩ : lI qb 8 [22, 58] pvs := h;obtain ⟨nl, l, rfl, hr⟩ := zln h0;obtain ⟨ps, rfl, h2⟩ := zrx (l := [(3, 0, 1), (3, 1, 1), (22, 2, 1), (47, 3, 1)]) (by kernel_rfl) h1;obtain ⟨hl, h4⟩ := zg4 (l := [(3, 0, 1), (3, 1, 1), (22, 2, 1), (47, 3, 1)]) (by kernel_rfl) h2;have hl : ps.length = 4 := hl.trans (by kernel_rfl)
 match ps, hl with
 | [a, b, c, d], _ =>
   obtain ⟨m0, e0, _⟩ := uC w3 (h4 (3, 0, 1) (by simp));obtain ⟨m1, e1, _⟩ := uC w3 (h4 (3, 1, 1) (by simp));obtain ⟨nl2, s, e2, _, _, hs⟩ := uF v22 v21 (h4 (22, 2, 1) (by simp));obtain ⟨nl3, es, e3, _, _, _⟩ := uD wLL (h4 (47, 3, 1) (by simp));simp at e0 e1 e2 e3;subst e0; subst e1; subst e2; subst e3;exact z12 _ _ l m0 m1 _ _ s _ _ es
theorem wMv : Tryz.prog.underlying 71 = some (.slice 78) := by kernel_rfl
theorem wBo : Tryz.prog.underlying 4 = some .bool := by kernel_rfl
theorem lawCompleteMenus {pvs : List PV} (h : lI qb 8 Tryz.f11.params.toList pvs) : PCall qb 11 pvs fun v => v = .bool true := by
 obtain ⟨v0, r0, rfl, h0, v1, r1, rfl, h1, rfl⟩ : lI qb 8 [47, 71] pvs := h;obtain ⟨nl, ls, rfl, hr⟩ := zoq h0;obtain ⟨nl2, es, e, _, _, h3⟩ := uD wMv (yQ (by kernel_rfl) h1);cases e
 obtain ⟨m, rfl, hm⟩ := uE (f := oC) (Q := fun q => R32 q.2.2.2.2) (l := es) fun x hx => by
  obtain ⟨hl, h4⟩ := zg4 (l := [(3, 0, 1), (4, 1, 1), (22, 2, 1)]) (by kernel_rfl) (h3 x hx);have hl : x.length = 3 := hl.trans (by kernel_rfl)
  match x, hl with
  | [a, b, c], _ =>
    obtain ⟨m0, e0, _⟩ := uC w3 (h4 (3, 0, 1) (by simp));obtain ⟨m1, e1⟩ := zrw wBo (h4 (4, 1, 1) (by simp));obtain ⟨n2, s, e2, _, _, hs⟩ := uF v22 v21 (h4 (22, 2, 1) (by simp));simp at e0 e1 e2;subst e0; subst e1; subst e2;exact ⟨(m0, m1, n2, false, s), rfl, hs⟩
 exact z15 _ _ ls hr _ _ m hm
end Go.Eng
