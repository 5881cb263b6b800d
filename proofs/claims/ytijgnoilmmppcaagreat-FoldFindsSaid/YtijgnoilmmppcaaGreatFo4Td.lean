/- States run over the code: what each function gives, and what follows. -/
import Derived.Test.YtijgnoilmmppcaaGreatFo4Tc
open Go.IntKind (i64 i32)
set_option linter.unusedVariables false
set_option linter.unusedSimpArgs false
set_option maxRecDepth 100000
set_option linter.constructorNameAsVariable false
namespace Go.Eng
open Go Go.Proofs Go.Eng.Rows Go.Eng.Trie Go.Eng.Srt
section
variable {rows : List Row} {v : PV}
def mB (rows : List Row) (L : List Int) : List Int := (bU rows L 0).flatMap (dV rows)
theorem zun (hk : cZ rows) (c : List Int) : (dV rows c).length <= 768 * c.length := by
 unfold dV
 split
 ·omega
 ·exact nM hk c
theorem za9 (hk : cZ rows) : ∀ C : List (List Int), (C.flatMap (dV rows)).length <= 768 * C.flatten.length
 | [] => Nat.le_refl _
 | c :: C => by
   have := zun hk c
   have := za9 hk C
   rw [List.flatMap_cons, List.flatten_cons, List.length_append, List.length_append]; omega
theorem tT (hk : cZ rows) (C : List (List Int)) (i : Nat) : ((C.take i).flatMap (dV rows)).length <= 768 * C.flatten.length := by
 have h1 := za9 hk (C.take i)
 have h2 := tQ C i
 unfold bV at h2; omega
theorem zuo {C : List (List Int)} {i : Nat} (hi : i < C.length) : dJ C.flatten (bV C i) (bV C (i + 1)) = C.getD i [] := by
 rw [ztj C (by omega), bZ hi, List.drop_left' (by rw [List.length_take]; omega), iF [] hi]; simp
theorem zjt {C : List (List Int)} {i : Nat} (hi : i < C.length) : (C.take (i + 1)).flatMap (dV rows) = (C.take i).flatMap (dV rows) ++ dV rows (C.getD i []) := by
 rw [bZ hi, List.flatMap_append, iF [] hi]; simp
theorem zju (ht : eC rows) (hp : dC rows) (hk : cZ rows) (hv : dN rows v) (n f : Bool) (L : List Int) (hn0 : n = true -> L = []) (hr : R32 L) (hL : L.length < 100000) :
 PCall Tryz.prog 37 [v, .sl n f (aA L)] fun x => ∃ n f, x = .sl n f (aA (mB rows L)) := by
 have h1 := zjr ht hp hk hv n f L hn0 hr hL
 obtain ⟨tc, tg, tj, tf, tp, made, sec, rfl, ht', hm⟩ := hv
 have hcc := qM rows L
 have hfl := kT rows L
 unfold mB
 generalize bU rows L 0 = C at *
 refine zsu _ _ _ _ _ _ _ _ _ _
  (fun n10 f10 s10 x11 x12 _ s => qN rows C s10 /\ x11 = C.length /\ (0 <= x12 /\ x12 <= C.length) /\ s = aA ((C.take x12.toNat).flatMap (dV rows))) (fun _ _ _ _ x12 _ _ => C.length - x12.toNat) ?_
 unfold zic
 refine h1.mono ?_
 rintro _ ⟨n1, f1, s, rfl, hs⟩
 refine ⟨_, _, _, rfl, ⟨rfl, hs, by rw [hs.1], ⟨Int.le_refl _, by omega⟩, rfl⟩, ?_⟩
 rintro n10 f10 s10 _ i n0 _ ⟨hs10, rfl, ⟨i0, i1⟩, rfl⟩
 refine aC (fun hc => ?_) (fun hc => ?_)
 ·simp only [decide_eq_true_eq] at hc
  have hi : i.toNat < C.length := by omega
  obtain ⟨n2, f2, hg⟩ := hs10.2 _ hi
  have hwi : i64.wrap (i + 1) = i + 1 := aB (by omega) (by omega)
  have hb1 := tT hk C i.toNat
  have hb2 := tT hk C (i.toNat + 1)
  have hsn := zjt (rows := rows) hi
  have hlen := congrArg List.length hsn
  rw [List.length_append] at hlen
  have hll : C.flatten.length = L.length := by rw [hfl]
  have hnx : (i + 1).toNat = i.toNat + 1 := by omega
  refine ⟨⟨i0, by rw [hs10.1]; omega, by rw [hg]; rfl⟩, _, by rw [hg]; rfl, _, by rw [hg]; rfl, _, _, _, by rw [hg]; rfl, ?_⟩
  rw [hwi]
  refine aC (fun h0 => ?_) (fun h0 => ?_)
  ·simp only [beq_iff_eq, aQ] at h0
   have hk0 : bP rows (C.getD i.toNat []) = [] := List.eq_nil_of_length_eq_zero (by omega)
   have hbc : dV rows (C.getD i.toNat []) = C.getD i.toNat [] := by unfold dV; rw [if_pos hk0]
   rw [hbc] at hsn hlen
   have hp1 := tQ C (i.toNat + 1)
   have hps := tP hi
   rw [show (((bV C i.toNat : Nat) : Int)).toNat = bV C i.toNat by omega, show (((bV C (i.toNat + 1) : Nat) : Int)).toNat = bV C (i.toNat + 1) by omega, zah, <- hfl, zuo hi, <- eZ, <- hsn]
   refine ⟨⟨zag (by omega) (by omega) (by rw [aQ]; omega), cV _⟩, ⟨cV _, by rw [aQ, aQ]; omega⟩, rfl, ⟨hs10, rfl, ⟨by omega, by omega⟩, by rw [hnx]⟩, by dsimp only; omega⟩
  ·simp only [beq_iff_eq, aQ] at h0
   have hk0 : bP rows (C.getD i.toNat []) ≠ [] := fun e => by rw [e] at h0; exact h0 rfl
   have hbc : dV rows (C.getD i.toNat []) = bP rows (C.getD i.toNat []) := by unfold dV; rw [if_neg hk0]
   rw [hbc] at hsn hlen
   rw [<- eZ, <- hsn]
   refine ⟨⟨cV _, by rw [aQ, aQ]; omega⟩, rfl, ⟨hs10, rfl, ⟨by omega, by omega⟩, by rw [hnx]⟩, by dsimp only; omega⟩
 ·simp only [decide_eq_true_eq] at hc
  rw [List.take_of_length_le (by omega)]
  exact ⟨_, _, rfl⟩
theorem qO (hp : dC rows) (hk : cZ rows) (n f n2 f2 : Bool) (hrl : rows.length < 1000000) (L : List Int) (hr : R32 L) (hL : L.length < 1000000) : PCall Tryz.prog 33 [.sl n f (bB rows), .sl n2 f2 (aA L)] fun x => ∃ n f, x = .sl n f (aA (bP rows L)) := by
 have hll := z8 hk hL
 have hnl := tJ hk L
 have hrr := zW hk hp hr
 refine zsv _ _ _ _ _ _ (fun n6 f6 s6 i _ s => s6 = aA (cT rows L) /\ (0 <= i /\ i <= (cT rows L).length) /\ s = aA (((cT rows L).take i.toNat).filter fun r => decide (aG rows 1 r = 0))) (fun _ _ _ i _ _ => (cT rows L).length - i.toNat) ?_
 unfold zid
 refine (zhx hp hk n f n2 f2 hrl L hr hL).mono ?_
 rintro _ ⟨n1, f1, rfl⟩
 unfold bP
 generalize cT rows L = D at *
 refine ⟨_, _, _, rfl, ⟨rfl, rfl, ⟨Int.le_refl _, by omega⟩, rfl⟩, ?_⟩
 rintro n6 f6 _ i n0 _ ⟨rfl, ⟨i0, i1⟩, rfl⟩
 refine aC (fun hc => ?_) (fun hc => ?_)
 ·simp only [decide_eq_true_eq, aQ] at hc
  have hi : i.toNat < D.length := by omega
  obtain ⟨g1, g2⟩ := gU i0 hi
  have hw : i64.wrap (i + 1) = i + 1 := aB (by omega) (by omega)
  have hcl : ((D.take i.toNat).filter fun r => decide (aG rows 1 r = 0)).length <= i.toNat := Nat.le_trans (List.length_filter_le _ _) (by rw [List.length_take]; omega)
  have hnx : (i + 1).toNat = i.toNat + 1 := by omega
  refine ⟨g1, _, by rw [g2]; rfl, ?_⟩
  refine (zhb n f _ hrl (hrr _ (List.getElem_mem hi))).mono ?_
  rintro _ rfl
  rw [hw]
  refine ⟨_, rfl, aC (fun h => ?_) (fun h => ?_)⟩
  ·simp only [beq_iff_eq] at h
   have e : aA ((D.take i.toNat).filter fun r => decide (aG rows 1 r = 0)) ++ [[PV.int .i32 D[i.toNat]]] = aA ((D.take (i + 1).toNat).filter fun r => decide (aG rows 1 r = 0)) := by
    rw [hnx, bZ hi, List.filter_append, eZ]
    congr 1
    simp [h, aA]
   refine ⟨g1, _, by rw [g2]; rfl, ⟨cV [_], by rw [aQ]; omega⟩, ?_⟩
   rw [e]
   exact ⟨rfl, ⟨rfl, ⟨by omega, by omega⟩, rfl⟩, by dsimp only; omega⟩
  ·simp only [beq_iff_eq] at h
   refine ⟨rfl, ⟨rfl, ⟨by omega, by omega⟩, ?_⟩, by dsimp only; omega⟩
   rw [hnx, bZ hi, List.filter_append]
   have : ([D[i.toNat]].filter fun r => decide (aG rows 1 r = 0)) = [] := by simp [h]
   rw [this, List.append_nil]
 ·simp only [decide_eq_true_eq, aQ] at hc
  rw [List.take_of_length_le (by omega)]
  exact ⟨_, _, rfl⟩
theorem zup (ht : eC rows) (hp : dC rows) (hk : cZ rows) (n f n2 f2 : Bool) (hrl : rows.length < 1000000) (L : List Int) (hr : R32 L) (hL : L.length < 100000) :
 PCall Tryz.prog 38 [.sl n f (bB rows), .sl n2 f2 (aA L)] fun x => ∃ n f, x = .sl n f (aA (mB rows L)) := by
 have h1 := zjn ht n f n2 f2 hrl L hr (by omega) (by omega)
 have h2 := fun n2 f2 c hc => qO hp hk n f n2 f2 hrl c (za7 (rows := rows) hr hc) (by have := tS hc; omega)
 have hcc := qM rows L
 have hfl := kT rows L
 unfold mB
 generalize bU rows L 0 = C at *
 refine zsx _ _ _ _ _ _
  (fun n6 f6 s6 i _ s => (∃ Q : List (Bool × Bool × List Int), s6 = Q.map fA /\ Q.map (fun q => q.2.2) = C) /\ (0 <= i /\ i <= C.length) /\ s = aA ((C.take i.toNat).flatMap (dV rows))) (fun _ _ _ i _ _ => C.length - i.toNat) ?_
 unfold zif
 refine h1.mono ?_
 rintro _ ⟨n1, f1, Q, rfl, hQ⟩
 refine ⟨_, _, _, rfl, ⟨rfl, ⟨Q, rfl, hQ⟩, ⟨Int.le_refl _, by omega⟩, rfl⟩, ?_⟩
 rintro n6 f6 _ i n0 _ ⟨⟨Q, rfl, hQ⟩, ⟨i0, i1⟩, rfl⟩
 have hQl : (Q.map fA).length = C.length := by rw [List.length_map, <- hQ, List.length_map]
 rw [hQl]
 refine aC (fun hc => ?_) (fun hc => ?_)
 ·simp only [decide_eq_true_eq] at hc
  have hi : i.toNat < C.length := by omega
  obtain ⟨g1, n3, f3, g2⟩ := qAt hQ i0 hi
  have hmem : C.getD i.toNat [] ∈ C := by rw [iF [] hi]; exact List.getElem_mem hi
  have hwi : i64.wrap (i + 1) = i + 1 := aB (by omega) (by omega)
  have hb1 := tT hk C i.toNat
  have hb2 := tT hk C (i.toNat + 1)
  have hsn := zjt (rows := rows) hi
  have hlen := congrArg List.length hsn
  rw [List.length_append] at hlen
  have hll : C.flatten.length = L.length := by rw [hfl]
  have hnx : (i + 1).toNat = i.toNat + 1 := by omega
  refine ⟨g1, _, _, _, by rw [g2]; rfl, ?_⟩
  refine (h2 n3 f3 _ hmem).mono ?_
  rintro _ ⟨n4, f4, rfl⟩
  rw [hwi]
  refine ⟨_, _, _, rfl, aC (fun h0 => ?_) (fun h0 => ?_)⟩
  ·simp only [beq_iff_eq, aQ] at h0
   have hk0 : bP rows (C.getD i.toNat []) = [] := List.eq_nil_of_length_eq_zero (by omega)
   have hbc : dV rows (C.getD i.toNat []) = C.getD i.toNat [] := by unfold dV; rw [if_pos hk0]
   rw [hbc] at hsn hlen
   refine ⟨g1, _, _, _, by rw [g2]; rfl, ⟨cV _, by rw [aQ, aQ]; omega⟩, ?_⟩
   rw [<- eZ, <- hsn]
   exact ⟨rfl, ⟨⟨Q, rfl, hQ⟩, ⟨by omega, by omega⟩, by rw [hnx]⟩, by dsimp only; omega⟩
  ·simp only [beq_iff_eq, aQ] at h0
   have hk0 : bP rows (C.getD i.toNat []) ≠ [] := fun e => by rw [e] at h0; exact h0 rfl
   have hbc : dV rows (C.getD i.toNat []) = bP rows (C.getD i.toNat []) := by unfold dV; rw [if_neg hk0]
   rw [hbc] at hsn hlen
   rw [<- eZ, <- hsn]
   exact ⟨⟨cV _, by rw [aQ, aQ]; omega⟩, rfl, ⟨⟨Q, rfl, hQ⟩, ⟨by omega, by omega⟩, by rw [hnx]⟩, by dsimp only; omega⟩
 ·simp only [decide_eq_true_eq] at hc
  rw [List.take_of_length_le (by omega)]
  exact ⟨_, _, rfl⟩
theorem zuq (ht : eC rows) (hp : dC rows) (hk : cZ rows) (n f n2 f2 n3 f3 : Bool) (hrl : rows.length < 1000000) (L P : List Int) (hr : R32 L) (hL : L.length < 100000) (hr2 : R32 P) (hL2 : P.length < 1000000) :
 PCall Tryz.prog 28 [.sl n f (bB rows), .sl n2 f2 (aA L), .sl n3 f3 (aA P)] fun x => x = za8 (l8 rows L P) := by
 have h1 := zjn ht n f n2 f2 hrl L hr (by omega) (by omega)
 have h2 := fun n2 f2 c hc => qO hp hk n f n2 f2 hrl c (za7 (rows := rows) hr hc) (by have := tS hc; omega)
 have h3 := qO hp hk n f n3 f3 hrl P hr2 hL2
 have hwl := nM hk P
 have hcc := qM rows L
 have hfl := kT rows L
 have hkall : dQ ((bU rows L 0).map (bP rows)) 0 <= 768 * L.length := by
  unfold dQ
  rw [List.drop_zero, <- zis hk, hfl]; exact nM hk L
 unfold l8
 generalize hwant : bP rows P = want at *
 generalize bU rows L 0 = C at *
 obtain ⟨ks, hks⟩ : ∃ ks, ks = C.map (bP rows) := ⟨_, rfl⟩
 have hksl : ks.length = C.length := by rw [hks, List.length_map]
 have hkg : ∀ i, i < C.length -> ks.getD i [] = bP rows (C.getD i []) := fun i hi => by
  rw [hks, iF [] (by rw [List.length_map]; exact hi), List.getElem_map, iF [] hi]
 rw [<- hks] at hkall ⊢
 have hszle : ∀ k, dQ ks k <= dQ ks 0 := fun k => by simpa using ziv (ks := ks) (i := 0) k
 have hpl : ∀ k, bV C k <= L.length := fun k => by have := tQ C k; rwa [hfl] at this
 refine zsw _ _ _ _ _ _ _ _ _
  (fun n9 f9 s9 n10 f10 s10 x11 x12 => s9 = aA want /\ (∃ Q : List (Bool × Bool × List Int), s10 = Q.map fA /\ Q.map (fun q => q.2.2) = C) /\ (0 <= x12 /\ x12 <= C.length) /\ x11 = (bV C x12.toNat : Nat) /\ dW ks want 0 C.length = dW ks want x12.toNat (C.length - x12.toNat)) (fun _ _ _ _ _ _ _ x12 => C.length - x12.toNat)
  (fun _ _ _ _ _ _ _ y12 _ _ _ _ n9 f9 s9 n10 f10 s10 x11 x12 x14 x15 n0 s => s9 = aA want /\ (∃ Q : List (Bool × Bool × List Int), s10 = Q.map fA /\ Q.map (fun q => q.2.2) = C) /\ y12 = x12 /\ (0 <= y12 /\ y12 < C.length) /\ x11 = (bV C y12.toNat : Nat) /\ dW ks want 0 C.length = dW ks want y12.toNat (C.length - y12.toNat) /\
   (y12 <= x15 /\ x15 <= C.length) /\ x14 = (bV C x15.toNat : Nat) /\ ∃ key : List Int, s = aA key /\ key.length + dQ ks x15.toNat = dQ ks y12.toNat /\ fG ks want [] y12.toNat (C.length - y12.toNat) = fG ks want key x15.toNat (C.length - x15.toNat))
  (fun _ _ _ _ _ _ _ _ _ x15 _ _ => C.length - x15.toNat) ?_
 unfold zie
 refine h3.mono ?_
 rintro _ ⟨n1, f1, rfl⟩
 refine ⟨_, _, _, rfl, aC (fun hc => ?_) (fun hc => ?_)⟩
 ·simp only [beq_iff_eq, aQ] at hc
  have : want = [] := List.eq_nil_of_length_eq_zero (by omega)
  rw [if_pos this]; rfl
 simp only [beq_iff_eq, aQ] at hc
 have hw0 : want ≠ [] := fun e => by rw [e] at hc; exact hc rfl
 rw [if_neg hw0]
 refine h1.mono ?_
 rintro _ ⟨n4, f4, Q, rfl, hQ⟩
 refine ⟨_, _, _, rfl, ⟨rfl, rfl, ⟨Q, rfl, hQ⟩, ⟨Int.le_refl _, by omega⟩, by simp [bV], rfl⟩, ?_⟩
 rintro n9 f9 _ n10 f10 _ _ i ⟨rfl, ⟨Q, rfl, hQ⟩, ⟨i0, i1⟩, rfl, ho⟩
 have hQl : ∀ {Q : List (Bool × Bool × List Int)}, Q.map (fun q => q.2.2) = C -> (Q.map fA).length = C.length := fun {Q} hQ => by rw [List.length_map, <- hQ, List.length_map]
 rw [hQl hQ]
 refine aC (fun hc2 => ?_) (fun hc2 => ?_)
 ·simp only [decide_eq_true_eq] at hc2
  have hi : i.toNat < C.length := by omega
  refine ⟨⟨rfl, rfl, ⟨Q, rfl, hQ⟩, rfl, ⟨i0, hc2⟩, rfl, ho, ⟨Int.le_refl _, by omega⟩, rfl, [], rfl, by simp, rfl⟩, ?_⟩
  rintro n91 f91 _ n101 f101 _ _ _ _ k n0 _ ⟨rfl, ⟨Q, rfl, hQ⟩, rfl, ⟨_, _⟩, rfl, ho2, ⟨k0, k1⟩, rfl, key, rfl, hsz, href⟩
  rw [hQl hQ]
  have hwi : i64.wrap (i + 1) = i + 1 := aB (by omega) (by omega)
  rw [hwi]
  refine aC (fun hc3 => ?_) (fun hc3 => ?_)
  ·simp only [decide_eq_true_eq] at hc3
   have hki : k.toNat < C.length := by omega
   obtain ⟨g1, n5, f5, g2⟩ := qAt hQ (by omega : 0 <= k) hki
   have hmem : C.getD k.toNat [] ∈ C := by rw [iF [] hki]; exact List.getElem_mem hki
   have hwk : i64.wrap (k + 1) = k + 1 := aB (by omega) (by omega)
   have hkj := hkg _ hki
   have hsz2 := qK (ks := ks) (k := k.toNat) (by omega)
   have hs0 := hszle i.toNat
   have hps := tP hki
   have hp1 := hpl (k.toNat + 1)
   have hnx : (k + 1).toNat = k.toNat + 1 := by omega
   have hwt : i64.wrap (((bV C k.toNat : Nat) : Int) + ((aA (C.getD k.toNat [])).length : Int)) = (bV C (k.toNat + 1) : Nat) := by
    rw [aQ, aB (by omega) (by omega)]; omega
   rw [hkj] at hsz2
   refine ⟨g1, _, _, _, by rw [g2]; rfl, ?_⟩
   refine (h2 n5 f5 _ hmem).mono ?_
   rintro _ ⟨n6, f6, rfl⟩
   refine ⟨_, _, _, rfl, ⟨cV _, by rw [aQ, aQ]; omega⟩, g1, _, _, _, by rw [g2]; rfl, ?_⟩
   rw [hwt, hwk, <- eZ]
   rw [show C.length - k.toNat = (C.length - (k + 1).toNat) + 1 by omega, fG, hkj] at href
   refine (qG _ _ _ _ (key ++ bP rows (C.getD k.toNat [])) want (by rw [List.length_append]; omega)).mono ?_
   rintro _ rfl
   refine ⟨_, rfl, rfl, aC (fun h5 => ?_) (fun h5 => ?_)⟩
   ·simp only [decide_eq_true_eq] at h5
    rw [if_pos h5] at href
    rw [ho2, show C.length - i.toNat = (C.length - (i + 1).toNat) + 1 by omega, dW, show C.length - (i + 1).toNat + 1 = C.length - i.toNat by omega, href]
    rfl
   ·simp only [decide_eq_true_eq] at h5
    rw [if_neg h5] at href
    refine ⟨rfl, ⟨rfl, ⟨Q, rfl, hQ⟩, rfl, ⟨by omega, by omega⟩, rfl, ho2, ⟨by omega, by omega⟩, by rw [hnx], _, rfl, by rw [List.length_append, hnx]; omega, by rw [href, hnx]⟩, by dsimp only; omega⟩
  ·simp only [decide_eq_true_eq] at hc3
   obtain ⟨g1, n5, f5, g2⟩ := qAt hQ i0 hi
   have hps := tP hi
   have hp1 := hpl (i.toNat + 1)
   have hwt : i64.wrap (((bV C i.toNat : Nat) : Int) + ((aA (C.getD i.toNat [])).length : Int)) = (bV C (i.toNat + 1) : Nat) := by
    rw [aQ, aB (by omega) (by omega)]; omega
   refine ⟨g1, _, _, _, by rw [g2]; rfl, ?_⟩
   rw [hwt]
   rw [show C.length - k.toNat = 0 by omega] at href
   refine ⟨rfl, ⟨rfl, ⟨Q, rfl, hQ⟩, ⟨by omega, by omega⟩, by rw [show (i + 1).toNat = i.toNat + 1 by omega], ?_⟩, by dsimp only; omega⟩
   rw [ho2, show C.length - i.toNat = (C.length - (i + 1).toNat) + 1 by omega, dW, show C.length - (i + 1).toNat + 1 = C.length - i.toNat by omega, href, show (i + 1).toNat = i.toNat + 1 by omega]; rfl
 ·simp only [decide_eq_true_eq] at hc2
  rw [ho, show C.length - i.toNat = 0 by omega]; rfl
end
end Go.Eng



namespace Go.Eng.Rows
open Go Go.Eng Go.Eng.Trie Go.Eng.Srt
section
variable {rows : List Row}
end
end Go.Eng.Rows



namespace Go.Eng
open Go Go.Proofs
end Go.Eng



namespace Go.Eng
open Go Go.Proofs
end Go.Eng



namespace Go.Eng
open Go Go.Proofs Go.Eng.Rows Go.Eng.Trie
end Go.Eng



namespace Go.Eng
open Go Go.Proofs Go.Eng.Rows Go.Eng.Trie
section
variable {rows : List Row}
end
end Go.Eng



namespace Go.Eng
open Go Go.Proofs
end Go.Eng



namespace Go.Eng
open Go Go.Proofs Go.Eng.Rows Go.Eng.Trie Go.Eng.Srt
section
variable {rows : List Row}
end
end Go.Eng



namespace Go.Eng.Rows
open Go Go.Eng Go.Eng.Trie Go.Eng.Srt
end Go.Eng.Rows



namespace Go.Eng
open Go Go.Proofs Go.Eng.Rows Go.Eng.Trie
end Go.Eng



namespace Go.Eng
open Go Go.Proofs Go.Eng.Rows Go.Eng.Trie Go.Eng.Srt
theorem PCall.vac {P : Program} {f : Nat} {args args' : List PV} {Q Q' : PV -> Prop} (h : PCall P f args' Q') {k : Nat} {fl : Bool} {es : List (List PV)} (hk : args[k]? = some (.sl true fl es)) (hne : es ≠ []) : PCall P f args Q :=
 ⟨h.1, fun w I G cargs _ _ h3 => by
  have := h3 k (.pv (.sl true fl es)) (by rw [List.getElem?_map, hk]; rfl)
  generalize cargs.getD k undef = c at this
  cases this with
  | pv _ _ h =>
    generalize hx : es = xs at h
    cases h with
    | slnil => exact absurd hx hne⟩
theorem zjv {L : List Int} (h : L ≠ []) : aA L ≠ [] := fun e => h (by cases L with | nil => rfl | cons a b => cases e)
section
variable {t : PV}
theorem zjw (hv : dN tab t) (n f n2 f2 : Bool) (L P : List Int) (hr : R32 L) (hL : L.length < 100000) (hr2 : R32 P) (hL2 : P.length < 1000000) : PCall Tryz.prog 27 [t, .sl n f (aA L), .sl n2 f2 (aA P)] fun x => x = za8 (l8 tab L P) := by
 by_cases h : n = true -> L = []
 ·exact zjs nL gV fF hv n f n2 f2 L P h hr hL hr2 hL2
 ·have hn : n = true := by cases n with | true => rfl | false => exact absurd (fun h => by cases h) h
  subst hn
  exact PCall.vac (zjs nL gV fF hv false f n2 f2 L P (fun h => by cases h) hr hL hr2 hL2) (k := 1) rfl (zjv fun e => h fun _ => e)
theorem zjx (hv : dN tab t) (n f : Bool) (L : List Int) (hr : R32 L) (hL : L.length < 100000) : PCall Tryz.prog 37 [t, .sl n f (aA L)] fun x => ∃ n f, x = .sl n f (aA (mB tab L)) := by
 by_cases h : n = true -> L = []
 ·exact zju nL gV fF hv n f L h hr hL
 ·have hn : n = true := by cases n with | true => rfl | false => exact absurd (fun h => by cases h) h
  subst hn
  exact PCall.vac (zju nL gV fF hv false f L (fun h => by cases h) hr hL) (k := 1) rfl (zjv fun e => h fun _ => e)
theorem zjy (hv : dN tab t) (n f : Bool) (L : List Int) (hr : R32 L) (hL : L.length < 1000000) : PCall Tryz.prog 35 [t, .sl n f (aA L)] fun x => ∃ n f, x = .sl n f (aA (bP tab L)) := za6 gV fF hv n f L hr hL
end
theorem zur : l8 tab [120, 233, 121] [101] = some (1, 2) := by kernel_rfl
theorem zus : bP tab [7785] = [115] := by kernel_rfl
theorem zut : mB tab [233, 769] = [101] := by kernel_rfl
theorem awake42 : PCall Tryz.prog 29 [] fun v => v = .bool true := by
 refine zsy ?_; unfold zau
 refine p42.mono ?_
 rintro _ ⟨n, f, rfl⟩
 refine ⟨_, _, _, rfl, ?_⟩
 refine (z7 n f).mono fun t ht => ?_
 refine (zjw ht false true false true [120, 233, 121] [101] (fun x hx => by simp at hx; omega) (by simp) (fun x hx => by simp at hx; omega) (by simp)).mono ?_
 rintro _ rfl
 rw [zur]
 refine ⟨_, rfl, rfl, _, rfl, _, rfl, _, rfl, _, rfl, _, rfl, _, rfl, bH rfl ?_⟩
 refine (zjy ht false true [7785] (fun x hx => by simp at hx; omega) (by simp)).mono ?_
 rintro _ ⟨n1, f1, rfl⟩
 rw [zus]
 refine ⟨_, _, _, rfl, ?_⟩
 refine (qG n1 f1 false true [115] [115] (by simp)).mono ?_
 rintro _ rfl
 refine ⟨_, rfl, bH rfl ?_⟩
 refine (zjx ht false true [233, 769] (fun x hx => by simp at hx; omega) (by simp)).mono ?_
 rintro _ ⟨n2, f2, rfl⟩
 rw [zut]
 refine ⟨_, _, _, rfl, ?_⟩
 refine (qG n2 f2 false true [101] [101] (by simp)).mono ?_
 rintro _ rfl
 exact ⟨_, rfl, rfl⟩
theorem zuu (n f : Bool) (a : List Int) (ha : R32 a) : PCall Tryz.prog 8 [.sl n f (aA a)] fun v => v = .bool true := by
 refine zsz _ _ _ ?_; unfold zig
 refine (zX n f a 80 (by omega)).mono ?_
 rintro _ ⟨n1, f1, rfl⟩
 refine ⟨_, _, _, rfl, ?_⟩
 refine p42.mono ?_
 rintro _ ⟨n2, f2, rfl⟩
 refine ⟨_, _, _, rfl, ?_⟩
 refine (z7 n2 f2).mono fun t ht => ?_
 have la := zaf a 80
 have ra := ha.take 80
 generalize a.take 80 = a at *
 have hkl := nM fF a
 have hdl := tJ fF a
 have hme := zth tab a
 have hbl : (mB tab a).length <= 768 * a.length := by have := za9 fF (bU tab a 0); rwa [kT] at this
 refine (zjy ht n1 f1 a ra (by omega)).mono ?_
 rintro _ ⟨n3, f3, rfl⟩
 refine ⟨_, _, _, rfl, ?_⟩
 refine (qO gV fF n2 f2 n1 f1 nF a ra (by omega)).mono ?_
 rintro _ ⟨n4, f4, rfl⟩
 refine ⟨_, _, _, rfl, ?_⟩
 refine (qG n3 f3 n4 f4 _ _ (by omega)).mono ?_
 rintro _ rfl
 refine ⟨_, rfl, bH (by simp) ?_⟩
 refine (zuk gV fF ht n1 f1 a ra (by omega)).mono ?_
 rintro _ rfl
 refine ⟨_, rfl, ?_⟩
 refine (zhx gV fF n2 f2 n1 f1 nF a ra (by omega)).mono ?_
 rintro _ ⟨n5, f5, rfl⟩
 refine ⟨_, _, _, rfl, ?_⟩
 refine (qO gV fF n2 f2 n1 f1 nF a ra (by omega)).mono ?_
 rintro _ ⟨n6, f6, rfl⟩
 refine ⟨_, _, _, rfl, bH ?_ ?_⟩
 ·rw [aQ, aQ, aB (by omega) (by omega), beq_iff_eq]; omega
 refine (zjx ht n1 f1 a ra (by omega)).mono ?_
 rintro _ ⟨n7, f7, rfl⟩
 refine ⟨_, _, _, rfl, ?_⟩
 refine (zup nL gV fF n2 f2 n1 f1 nF a ra (by omega)).mono ?_
 rintro _ ⟨n8, f8, rfl⟩
 refine ⟨_, _, _, rfl, ?_⟩
 refine (qG n7 f7 n8 f8 _ _ (by omega)).mono ?_
 rintro _ rfl
 refine ⟨_, rfl, bH (by simp) ?_⟩
 refine awake42.mono ?_
 rintro _ rfl
 exact ⟨_, rfl, rfl⟩
theorem zuv (n f : Bool) (a : List Int) (ha : R32 a) (n0 f0 : Bool) (b : List Int) (hb : R32 b) : PCall Tryz.prog 6 [.sl n f (aA a), .sl n0 f0 (aA b)] fun v => v = .bool true := by
 refine zs0 _ _ _ _ _ _ ?_; unfold zih
 refine (zX n f a 20 (by omega)).mono ?_
 rintro _ ⟨n1, f1, rfl⟩
 refine ⟨_, _, _, rfl, ?_⟩
 refine (zX n0 f0 b 10 (by omega)).mono ?_
 rintro _ ⟨n2, f2, rfl⟩
 refine ⟨_, _, _, rfl, ?_⟩
 refine p42.mono ?_
 rintro _ ⟨n3, f3, rfl⟩
 refine ⟨_, _, _, rfl, ?_⟩
 refine (z7 n3 f3).mono fun t ht => ?_
 have la := zaf a 20
 have lb := zaf b 10
 have ra := ha.take 20
 have rb := hb.take 10
 generalize a.take 20 = a at *
 generalize b.take 10 = b at *
 refine (zjw ht _ _ _ _ a b ra (by omega) rb (by omega)).mono ?_
 rintro _ rfl
 have h1 := zuq nL gV fF n3 f3 n1 f1 n2 f2 nF a b ra (by omega) rb (by omega)
 cases hf : l8 tab a b with
 | none =>
   rw [hf] at h1
   refine ⟨_, rfl, rfl, _, rfl, _, rfl, _, rfl, _, rfl, _, rfl, _, rfl, ?_⟩
   refine h1.mono ?_
   rintro _ rfl
   refine ⟨_, rfl, rfl, _, rfl, _, rfl, _, rfl, _, rfl, _, rfl, _, rfl, bH (by simp) ?_⟩
   refine awake42.mono ?_
   rintro _ rfl
   exact ⟨_, rfl, rfl⟩
 | some p =>
   rw [hf] at h1
   refine ⟨_, rfl, rfl, _, rfl, _, rfl, _, rfl, _, rfl, _, rfl, _, rfl, ?_⟩
   refine h1.mono ?_
   rintro _ rfl
   refine ⟨_, rfl, rfl, _, rfl, _, rfl, _, rfl, _, rfl, _, rfl, _, rfl, bH (by simp) ?_⟩
   refine awake42.mono ?_
   rintro _ rfl
   exact ⟨_, rfl, rfl⟩
theorem lawFoldKeys {pvs : List PV} (h : lK Tryz.prog 8 Tryz.f8.params.toList pvs) : PCall Tryz.prog 8 pvs fun v => v = .bool true := by
 obtain ⟨v0, r0, rfl, h0, rfl⟩ : lK Tryz.prog 8 [23] pvs := h
 obtain ⟨nl, l, rfl, hr⟩ := zae h0
 exact zuu _ _ l hr
theorem lawFoldFinds {pvs : List PV} (h : lK Tryz.prog 8 Tryz.f6.params.toList pvs) : PCall Tryz.prog 6 pvs fun v => v = .bool true := by
 obtain ⟨v0, r0, rfl, h0, v1, r1, rfl, h1, rfl⟩ : lK Tryz.prog 8 [23, 23] pvs := h
 obtain ⟨nl, l, rfl, hr⟩ := zae h0
 obtain ⟨nl1, l1, rfl, hr1⟩ := zae h1
 exact zuv _ _ l hr _ _ l1 hr1
end Go.Eng


