/- States run over the code: what each function gives, and what follows. -/
import Derived.Test.YtijgnoilmmppcaaGreatFo4Tc
open Go.IntKind (i64 i32)
set_option linter.unusedVariables false
set_option linter.unusedSimpArgs false
set_option maxRecDepth 100000
set_option linter.constructorNameAsVariable false
namespace Go.Eng
open Go Go.Proofs Go.Eng.Rows Go.Eng.Trie Go.Eng.Srt
section
variable {rows : List Row} {v : PV}
def uD (rows : List Row) (L : List Int) : List Int := (cA rows L 0).flatMap (fR rows)
theorem zt8 (hk : dA rows) (c : List Int) : (fR rows c).length <= 768 * c.length := by
 unfold fR
 split
 ·omega
 ·exact qN hk c
theorem zjg (hk : dA rows) : ∀ C : List (List Int), (C.flatMap (fR rows)).length <= 768 * C.flatten.length
 | [] => Nat.le_refl _
 | c :: C => by
   have := zt8 hk c
   have := zjg hk C
   rw [List.flatMap_cons, List.flatten_cons, List.length_append, List.length_append]; omega
theorem zjh (hk : dA rows) (C : List (List Int)) (i : Nat) : ((C.take i).flatMap (fR rows)).length <= 768 * C.flatten.length := by
 have h1 := zjg hk (C.take i)
 have h2 := t8 C i
 unfold bT at h2; omega
theorem zt9 {C : List (List Int)} {i : Nat} (hi : i < C.length) : dI C.flatten (bT C i) (bT C (i + 1)) = C.getD i [] := by
 rw [zs4 C (by omega), cD hi, List.drop_left' (by rw [List.length_take]; omega), iY [] hi]; simp
theorem zua {C : List (List Int)} {i : Nat} (hi : i < C.length) : (C.take (i + 1)).flatMap (fR rows) = (C.take i).flatMap (fR rows) ++ fR rows (C.getD i []) := by
 rw [cD hi, List.flatMap_append, iY [] hi]; simp
theorem zji (ht : eI rows) (hp : dH rows) (hk : dA rows) (hv : dO rows v) (n f : Bool) (L : List Int) (hn0 : n = true -> L = []) (hr : R32 L) (hL : L.length < 100000) :
 PCall Tryz.prog 37 [v, .sl n f (aA L)] fun x => ∃ n f, x = .sl n f (aA (uD rows L)) := by
 have h1 := zje ht hp hk hv n f L hn0 hr hL
 obtain ⟨tc, tg, tj, tf, tp, made, sec, rfl, ht', hm⟩ := hv
 have hcc := uC rows L
 have hfl := nM rows L
 unfold uD
 generalize cA rows L 0 = C at *
 refine zsh _ _ _ _ _ _ _ _ _ _
  (fun n10 f10 s10 x11 x12 _ s => qQ rows C s10 /\ x11 = C.length /\ (0 <= x12 /\ x12 <= C.length) /\ s = aA ((C.take x12.toNat).flatMap (fR rows))) (fun _ _ _ _ x12 _ _ => C.length - x12.toNat) ?_
 unfold zh2
 refine h1.mono ?_
 rintro _ ⟨n1, f1, s, rfl, hs⟩
 refine ⟨_, _, _, rfl, ⟨rfl, hs, by rw [hs.1], ⟨Int.le_refl _, by omega⟩, rfl⟩, ?_⟩
 rintro n10 f10 s10 _ i n0 _ ⟨hs10, rfl, ⟨i0, i1⟩, rfl⟩
 refine aD (fun hc => ?_) (fun hc => ?_)
 ·simp only [decide_eq_true_eq] at hc
  have hi : i.toNat < C.length := by omega
  obtain ⟨n2, f2, hg⟩ := hs10.2 _ hi
  have hwi : i64.wrap (i + 1) = i + 1 := aC (by omega) (by omega)
  have hb1 := zjh hk C i.toNat
  have hb2 := zjh hk C (i.toNat + 1)
  have hsn := zua (rows := rows) hi
  have hlen := congrArg List.length hsn
  rw [List.length_append] at hlen
  have hll : C.flatten.length = L.length := by rw [hfl]
  have hnx : (i + 1).toNat = i.toNat + 1 := by omega
  refine ⟨⟨i0, by rw [hs10.1]; omega, by rw [hg]; rfl⟩, _, by rw [hg]; rfl, _, by rw [hg]; rfl, _, _, _, by rw [hg]; rfl, ?_⟩
  rw [hwi]
  refine aD (fun h0 => ?_) (fun h0 => ?_)
  ·simp only [beq_iff_eq, aS] at h0
   have hk0 : cC rows (C.getD i.toNat []) = [] := List.eq_nil_of_length_eq_zero (by omega)
   have hbc : fR rows (C.getD i.toNat []) = C.getD i.toNat [] := by unfold fR; rw [if_pos hk0]
   rw [hbc] at hsn hlen
   have hp1 := t8 C (i.toNat + 1)
   have hps := t7 hi
   rw [show (((bT C i.toNat : Nat) : Int)).toNat = bT C i.toNat by omega, show (((bT C (i.toNat + 1) : Nat) : Int)).toNat = bT C (i.toNat + 1) by omega, z8, <- hfl, zt9 hi, <- fP, <- hsn]
   refine ⟨⟨z7 (by omega) (by omega) (by rw [aS]; omega), c5 _⟩, ⟨c5 _, by rw [aS, aS]; omega⟩, rfl, ⟨hs10, rfl, ⟨by omega, by omega⟩, by rw [hnx]⟩, by dsimp only; omega⟩
  ·simp only [beq_iff_eq, aS] at h0
   have hk0 : cC rows (C.getD i.toNat []) ≠ [] := fun e => by rw [e] at h0; exact h0 rfl
   have hbc : fR rows (C.getD i.toNat []) = cC rows (C.getD i.toNat []) := by unfold fR; rw [if_neg hk0]
   rw [hbc] at hsn hlen
   rw [<- fP, <- hsn]
   refine ⟨⟨c5 _, by rw [aS, aS]; omega⟩, rfl, ⟨hs10, rfl, ⟨by omega, by omega⟩, by rw [hnx]⟩, by dsimp only; omega⟩
 ·simp only [decide_eq_true_eq] at hc
  rw [List.take_of_length_le (by omega)]
  exact ⟨_, _, rfl⟩
theorem zjj (hp : dH rows) (hk : dA rows) (n f n2 f2 : Bool) (hrl : rows.length < 1000000) (L : List Int) (hr : R32 L) (hL : L.length < 1000000) : PCall Tryz.prog 33 [.sl n f (bE rows), .sl n2 f2 (aA L)] fun x => ∃ n f, x = .sl n f (aA (cC rows L)) := by
 have hll := zhm hk hL
 have hnl := zS hk L
 have hrr := zhg hk hp hr
 refine zsi _ _ _ _ _ _ (fun n6 f6 s6 i _ s => s6 = aA (eA rows L) /\ (0 <= i /\ i <= (eA rows L).length) /\ s = aA (((eA rows L).take i.toNat).filter fun r => decide (aG rows 1 r = 0))) (fun _ _ _ i _ _ => (eA rows L).length - i.toNat) ?_
 unfold zh3
 refine (zrw hp hk n f n2 f2 hrl L hr hL).mono ?_
 rintro _ ⟨n1, f1, rfl⟩
 unfold cC
 generalize eA rows L = D at *
 refine ⟨_, _, _, rfl, ⟨rfl, rfl, ⟨Int.le_refl _, by omega⟩, rfl⟩, ?_⟩
 rintro n6 f6 _ i n0 _ ⟨rfl, ⟨i0, i1⟩, rfl⟩
 refine aD (fun hc => ?_) (fun hc => ?_)
 ·simp only [decide_eq_true_eq, aS] at hc
  have hi : i.toNat < D.length := by omega
  obtain ⟨g1, g2⟩ := iC i0 hi
  have hw : i64.wrap (i + 1) = i + 1 := aC (by omega) (by omega)
  have hcl : ((D.take i.toNat).filter fun r => decide (aG rows 1 r = 0)).length <= i.toNat := Nat.le_trans (List.length_filter_le _ _) (by rw [List.length_take]; omega)
  have hnx : (i + 1).toNat = i.toNat + 1 := by omega
  refine ⟨g1, _, by rw [g2]; rfl, ?_⟩
  refine (zgw n f _ hrl (hrr _ (List.getElem_mem hi))).mono ?_
  rintro _ rfl
  rw [hw]
  refine ⟨_, rfl, aD (fun h => ?_) (fun h => ?_)⟩
  ·simp only [beq_iff_eq] at h
   have e : aA ((D.take i.toNat).filter fun r => decide (aG rows 1 r = 0)) ++ [[PV.int .i32 D[i.toNat]]] = aA ((D.take (i + 1).toNat).filter fun r => decide (aG rows 1 r = 0)) := by
    rw [hnx, cD hi, List.filter_append, fP]
    congr 1
    simp [h, aA]
   refine ⟨g1, _, by rw [g2]; rfl, ⟨c5 [_], by rw [aS]; omega⟩, ?_⟩
   rw [e]
   exact ⟨rfl, ⟨rfl, ⟨by omega, by omega⟩, rfl⟩, by dsimp only; omega⟩
  ·simp only [beq_iff_eq] at h
   refine ⟨rfl, ⟨rfl, ⟨by omega, by omega⟩, ?_⟩, by dsimp only; omega⟩
   rw [hnx, cD hi, List.filter_append]
   have : ([D[i.toNat]].filter fun r => decide (aG rows 1 r = 0)) = [] := by simp [h]
   rw [this, List.append_nil]
 ·simp only [decide_eq_true_eq, aS] at hc
  rw [List.take_of_length_le (by omega)]
  exact ⟨_, _, rfl⟩
theorem zub (ht : eI rows) (hp : dH rows) (hk : dA rows) (n f n2 f2 n3 f3 : Bool) (hrl : rows.length < 1000000) (L P : List Int) (hr : R32 L) (hL : L.length < 100000) (hr2 : R32 P) (hL2 : P.length < 1000000) :
 PCall Tryz.prog 28 [.sl n f (bE rows), .sl n2 f2 (aA L), .sl n3 f3 (aA P)] fun x => x = zau (l9 rows L P) := by
 have h1 := zt3 ht n f n2 f2 hrl L hr (by omega) (by omega)
 have h2 := fun n2 f2 c hc => zjj hp hk n f n2 f2 hrl c (zjd (rows := rows) hr hc) (by have := zat hc; omega)
 have h3 := zjj hp hk n f n3 f3 hrl P hr2 hL2
 have hwl := qN hk P
 have hcc := uC rows L
 have hfl := nM rows L
 have hkall : dP ((cA rows L 0).map (cC rows)) 0 <= 768 * L.length := by
  unfold dP
  rw [List.drop_zero, <- zie hk, hfl]; exact qN hk L
 unfold l9
 generalize hwant : cC rows P = want at *
 generalize cA rows L 0 = C at *
 obtain ⟨ks, hks⟩ : ∃ ks, ks = C.map (cC rows) := ⟨_, rfl⟩
 have hksl : ks.length = C.length := by rw [hks, List.length_map]
 have hkg : ∀ i, i < C.length -> ks.getD i [] = cC rows (C.getD i []) := fun i hi => by
  rw [hks, iY [] (by rw [List.length_map]; exact hi), List.getElem_map, iY [] hi]
 rw [<- hks] at hkall ⊢
 have hszle : ∀ k, dP ks k <= dP ks 0 := fun k => by simpa using zih (ks := ks) (i := 0) k
 have hpl : ∀ k, bT C k <= L.length := fun k => by have := t8 C k; rwa [hfl] at this
 refine zsj _ _ _ _ _ _ _ _ _
  (fun n9 f9 s9 n10 f10 s10 x11 x12 => s9 = aA want /\ (∃ Q : List (Bool × Bool × List Int), s10 = Q.map fT /\ Q.map (fun q => q.2.2) = C) /\ (0 <= x12 /\ x12 <= C.length) /\ x11 = (bT C x12.toNat : Nat) /\ dU ks want 0 C.length = dU ks want x12.toNat (C.length - x12.toNat)) (fun _ _ _ _ _ _ _ x12 => C.length - x12.toNat)
  (fun _ _ _ _ _ _ _ y12 _ _ _ _ n9 f9 s9 n10 f10 s10 x11 x12 x14 x15 n0 s => s9 = aA want /\ (∃ Q : List (Bool × Bool × List Int), s10 = Q.map fT /\ Q.map (fun q => q.2.2) = C) /\ y12 = x12 /\ (0 <= y12 /\ y12 < C.length) /\ x11 = (bT C y12.toNat : Nat) /\ dU ks want 0 C.length = dU ks want y12.toNat (C.length - y12.toNat) /\
   (y12 <= x15 /\ x15 <= C.length) /\ x14 = (bT C x15.toNat : Nat) /\ ∃ key : List Int, s = aA key /\ key.length + dP ks x15.toNat = dP ks y12.toNat /\ fC ks want [] y12.toNat (C.length - y12.toNat) = fC ks want key x15.toNat (C.length - x15.toNat))
  (fun _ _ _ _ _ _ _ _ _ x15 _ _ => C.length - x15.toNat) ?_
 unfold zh4
 refine h3.mono ?_
 rintro _ ⟨n1, f1, rfl⟩
 refine ⟨_, _, _, rfl, aD (fun hc => ?_) (fun hc => ?_)⟩
 ·simp only [beq_iff_eq, aS] at hc
  have : want = [] := List.eq_nil_of_length_eq_zero (by omega)
  rw [if_pos this]; rfl
 simp only [beq_iff_eq, aS] at hc
 have hw0 : want ≠ [] := fun e => by rw [e] at hc; exact hc rfl
 rw [if_neg hw0]
 refine h1.mono ?_
 rintro _ ⟨n4, f4, Q, rfl, hQ⟩
 refine ⟨_, _, _, rfl, ⟨rfl, rfl, ⟨Q, rfl, hQ⟩, ⟨Int.le_refl _, by omega⟩, by simp [bT], rfl⟩, ?_⟩
 rintro n9 f9 _ n10 f10 _ _ i ⟨rfl, ⟨Q, rfl, hQ⟩, ⟨i0, i1⟩, rfl, ho⟩
 have hQl : ∀ {Q : List (Bool × Bool × List Int)}, Q.map (fun q => q.2.2) = C -> (Q.map fT).length = C.length := fun {Q} hQ => by rw [List.length_map, <- hQ, List.length_map]
 rw [hQl hQ]
 refine aD (fun hc2 => ?_) (fun hc2 => ?_)
 ·simp only [decide_eq_true_eq] at hc2
  have hi : i.toNat < C.length := by omega
  refine ⟨⟨rfl, rfl, ⟨Q, rfl, hQ⟩, rfl, ⟨i0, hc2⟩, rfl, ho, ⟨Int.le_refl _, by omega⟩, rfl, [], rfl, by simp, rfl⟩, ?_⟩
  rintro n91 f91 _ n101 f101 _ _ _ _ k n0 _ ⟨rfl, ⟨Q, rfl, hQ⟩, rfl, ⟨_, _⟩, rfl, ho2, ⟨k0, k1⟩, rfl, key, rfl, hsz, href⟩
  rw [hQl hQ]
  have hwi : i64.wrap (i + 1) = i + 1 := aC (by omega) (by omega)
  rw [hwi]
  refine aD (fun hc3 => ?_) (fun hc3 => ?_)
  ·simp only [decide_eq_true_eq] at hc3
   have hki : k.toNat < C.length := by omega
   obtain ⟨g1, n5, f5, g2⟩ := qAt hQ (by omega : 0 <= k) hki
   have hmem : C.getD k.toNat [] ∈ C := by rw [iY [] hki]; exact List.getElem_mem hki
   have hwk : i64.wrap (k + 1) = k + 1 := aC (by omega) (by omega)
   have hkj := hkg _ hki
   have hsz2 := qO (ks := ks) (k := k.toNat) (by omega)
   have hs0 := hszle i.toNat
   have hps := t7 hki
   have hp1 := hpl (k.toNat + 1)
   have hnx : (k + 1).toNat = k.toNat + 1 := by omega
   have hwt : i64.wrap (((bT C k.toNat : Nat) : Int) + ((aA (C.getD k.toNat [])).length : Int)) = (bT C (k.toNat + 1) : Nat) := by
    rw [aS, aC (by omega) (by omega)]; omega
   rw [hkj] at hsz2
   refine ⟨g1, _, _, _, by rw [g2]; rfl, ?_⟩
   refine (h2 n5 f5 _ hmem).mono ?_
   rintro _ ⟨n6, f6, rfl⟩
   refine ⟨_, _, _, rfl, ⟨c5 _, by rw [aS, aS]; omega⟩, g1, _, _, _, by rw [g2]; rfl, ?_⟩
   rw [hwt, hwk, <- fP]
   rw [show C.length - k.toNat = (C.length - (k + 1).toNat) + 1 by omega, fC, hkj] at href
   refine (zT _ _ _ _ (key ++ cC rows (C.getD k.toNat [])) want (by rw [List.length_append]; omega)).mono ?_
   rintro _ rfl
   refine ⟨_, rfl, rfl, aD (fun h5 => ?_) (fun h5 => ?_)⟩
   ·simp only [decide_eq_true_eq] at h5
    rw [if_pos h5] at href
    rw [ho2, show C.length - i.toNat = (C.length - (i + 1).toNat) + 1 by omega, dU, show C.length - (i + 1).toNat + 1 = C.length - i.toNat by omega, href]
    rfl
   ·simp only [decide_eq_true_eq] at h5
    rw [if_neg h5] at href
    refine ⟨rfl, ⟨rfl, ⟨Q, rfl, hQ⟩, rfl, ⟨by omega, by omega⟩, rfl, ho2, ⟨by omega, by omega⟩, by rw [hnx], _, rfl, by rw [List.length_append, hnx]; omega, by rw [href, hnx]⟩, by dsimp only; omega⟩
  ·simp only [decide_eq_true_eq] at hc3
   obtain ⟨g1, n5, f5, g2⟩ := qAt hQ i0 hi
   have hps := t7 hi
   have hp1 := hpl (i.toNat + 1)
   have hwt : i64.wrap (((bT C i.toNat : Nat) : Int) + ((aA (C.getD i.toNat [])).length : Int)) = (bT C (i.toNat + 1) : Nat) := by
    rw [aS, aC (by omega) (by omega)]; omega
   refine ⟨g1, _, _, _, by rw [g2]; rfl, ?_⟩
   rw [hwt]
   rw [show C.length - k.toNat = 0 by omega] at href
   refine ⟨rfl, ⟨rfl, ⟨Q, rfl, hQ⟩, ⟨by omega, by omega⟩, by rw [show (i + 1).toNat = i.toNat + 1 by omega], ?_⟩, by dsimp only; omega⟩
   rw [ho2, show C.length - i.toNat = (C.length - (i + 1).toNat) + 1 by omega, dU, show C.length - (i + 1).toNat + 1 = C.length - i.toNat by omega, href, show (i + 1).toNat = i.toNat + 1 by omega]; rfl
 ·simp only [decide_eq_true_eq] at hc2
  rw [ho, show C.length - i.toNat = 0 by omega]; rfl
end
end Go.Eng



namespace Go.Eng.Rows
open Go Go.Eng Go.Eng.Trie Go.Eng.Srt
section
variable {rows : List Row}
end
end Go.Eng.Rows



namespace Go.Eng
open Go Go.Proofs
end Go.Eng



namespace Go.Eng
open Go Go.Proofs
end Go.Eng



namespace Go.Eng
open Go Go.Proofs Go.Eng.Rows Go.Eng.Trie
end Go.Eng



namespace Go.Eng
open Go Go.Proofs Go.Eng.Rows Go.Eng.Trie
section
variable {rows : List Row}
end
end Go.Eng



namespace Go.Eng
open Go Go.Proofs
end Go.Eng



namespace Go.Eng
open Go Go.Proofs Go.Eng.Rows Go.Eng.Trie Go.Eng.Srt
section
variable {rows : List Row}
end
end Go.Eng



namespace Go.Eng.Rows
open Go Go.Eng Go.Eng.Trie Go.Eng.Srt
end Go.Eng.Rows



namespace Go.Eng
open Go Go.Proofs Go.Eng.Rows Go.Eng.Trie
end Go.Eng



namespace Go.Eng
open Go Go.Proofs Go.Eng.Rows Go.Eng.Trie Go.Eng.Srt
theorem PCall.vac {P : Program} {f : Nat} {args args' : List PV} {Q Q' : PV -> Prop} (h : PCall P f args' Q') {k : Nat} {fl : Bool} {es : List (List PV)} (hk : args[k]? = some (.sl true fl es)) (hne : es ≠ []) : PCall P f args Q :=
 ⟨h.1, fun w I G cargs _ _ h3 => by
  have := h3 k (.pv (.sl true fl es)) (by rw [List.getElem?_map, hk]; rfl)
  generalize cargs.getD k undef = c at this
  cases this with
  | pv _ _ h =>
    generalize hx : es = xs at h
    cases h with
    | slnil => exact absurd hx hne⟩
theorem zjk {L : List Int} (h : L ≠ []) : aA L ≠ [] := fun e => h (by cases L with | nil => rfl | cons a b => cases e)
section
variable {t : PV}
theorem zjl (hv : dO tab t) (n f n2 f2 : Bool) (L P : List Int) (hr : R32 L) (hL : L.length < 100000) (hr2 : R32 P) (hL2 : P.length < 1000000) : PCall Tryz.prog 27 [t, .sl n f (aA L), .sl n2 f2 (aA P)] fun x => x = zau (l9 tab L P) := by
 by_cases h : n = true -> L = []
 ·exact zjf qM l6 nG hv n f n2 f2 L P h hr hL hr2 hL2
 ·have hn : n = true := by cases n with | true => rfl | false => exact absurd (fun h => by cases h) h
  subst hn
  exact PCall.vac (zjf qM l6 nG hv false f n2 f2 L P (fun h => by cases h) hr hL hr2 hL2) (k := 1) rfl (zjk fun e => h fun _ => e)
theorem zuc (hv : dO tab t) (n f : Bool) (L : List Int) (hr : R32 L) (hL : L.length < 100000) : PCall Tryz.prog 37 [t, .sl n f (aA L)] fun x => ∃ n f, x = .sl n f (aA (uD tab L)) := by
 by_cases h : n = true -> L = []
 ·exact zji qM l6 nG hv n f L h hr hL
 ·have hn : n = true := by cases n with | true => rfl | false => exact absurd (fun h => by cases h) h
  subst hn
  exact PCall.vac (zji qM l6 nG hv false f L (fun h => by cases h) hr hL) (k := 1) rfl (zjk fun e => h fun _ => e)
theorem zud (hv : dO tab t) (n f : Bool) (L : List Int) (hr : R32 L) (hL : L.length < 1000000) : PCall Tryz.prog 35 [t, .sl n f (aA L)] fun x => ∃ n f, x = .sl n f (aA (cC tab L)) := zas l6 nG hv n f L hr hL
end
theorem zue : l9 tab [120, 233, 121] [101] = some (1, 2) := by kernel_rfl
theorem zuf : cC tab [7785] = [115] := by kernel_rfl
theorem zug : uD tab [233, 769] = [101] := by kernel_rfl
theorem awake42 : PCall Tryz.prog 29 [] fun v => v = .bool true := by
 refine zsk ?_; unfold zai
 refine p42.mono ?_
 rintro _ ⟨n, f, rfl⟩
 refine ⟨_, _, _, rfl, ?_⟩
 refine (zhj n f).mono fun t ht => ?_
 refine (zjl ht false true false true [120, 233, 121] [101] (fun x hx => by simp at hx; omega) (by simp) (fun x hx => by simp at hx; omega) (by simp)).mono ?_
 rintro _ rfl
 rw [zue]
 refine ⟨_, rfl, rfl, _, rfl, _, rfl, _, rfl, _, rfl, _, rfl, _, rfl, bO rfl ?_⟩
 refine (zud ht false true [7785] (fun x hx => by simp at hx; omega) (by simp)).mono ?_
 rintro _ ⟨n1, f1, rfl⟩
 rw [zuf]
 refine ⟨_, _, _, rfl, ?_⟩
 refine (zT n1 f1 false true [115] [115] (by simp)).mono ?_
 rintro _ rfl
 refine ⟨_, rfl, bO rfl ?_⟩
 refine (zuc ht false true [233, 769] (fun x hx => by simp at hx; omega) (by simp)).mono ?_
 rintro _ ⟨n2, f2, rfl⟩
 rw [zug]
 refine ⟨_, _, _, rfl, ?_⟩
 refine (zT n2 f2 false true [101] [101] (by simp)).mono ?_
 rintro _ rfl
 exact ⟨_, rfl, rfl⟩
theorem zuh (n f : Bool) (a : List Int) (ha : R32 a) (n0 f0 : Bool) (b : List Int) (hb : R32 b) : PCall Tryz.prog 6 [.sl n f (aA a), .sl n0 f0 (aA b)] fun v => v = .bool true := by
 refine zsl _ _ _ _ _ _ ?_; unfold zh5
 refine (zhh n f a 20 (by omega)).mono ?_
 rintro _ ⟨n1, f1, rfl⟩
 refine ⟨_, _, _, rfl, ?_⟩
 refine (zhh n0 f0 b 10 (by omega)).mono ?_
 rintro _ ⟨n2, f2, rfl⟩
 refine ⟨_, _, _, rfl, ?_⟩
 refine p42.mono ?_
 rintro _ ⟨n3, f3, rfl⟩
 refine ⟨_, _, _, rfl, ?_⟩
 refine (zhj n3 f3).mono fun t ht => ?_
 have la := zhu a 20
 have lb := zhu b 10
 have ra := ha.take 20
 have rb := hb.take 10
 generalize a.take 20 = a at *
 generalize b.take 10 = b at *
 refine (zjl ht _ _ _ _ a b ra (by omega) rb (by omega)).mono ?_
 rintro _ rfl
 have h1 := zub qM l6 nG n3 f3 n1 f1 n2 f2 zhi a b ra (by omega) rb (by omega)
 cases hf : l9 tab a b with
 | none =>
   rw [hf] at h1
   refine ⟨_, rfl, rfl, _, rfl, _, rfl, _, rfl, _, rfl, _, rfl, _, rfl, ?_⟩
   refine h1.mono ?_
   rintro _ rfl
   refine ⟨_, rfl, rfl, _, rfl, _, rfl, _, rfl, _, rfl, _, rfl, _, rfl, bO (by simp) ?_⟩
   refine awake42.mono ?_
   rintro _ rfl
   exact ⟨_, rfl, rfl⟩
 | some p =>
   rw [hf] at h1
   refine ⟨_, rfl, rfl, _, rfl, _, rfl, _, rfl, _, rfl, _, rfl, _, rfl, ?_⟩
   refine h1.mono ?_
   rintro _ rfl
   refine ⟨_, rfl, rfl, _, rfl, _, rfl, _, rfl, _, rfl, _, rfl, _, rfl, bO (by simp) ?_⟩
   refine awake42.mono ?_
   rintro _ rfl
   exact ⟨_, rfl, rfl⟩
theorem lawFoldFinds {pvs : List PV} (h : pQ Tryz.prog 8 Tryz.f6.params.toList pvs) : PCall Tryz.prog 6 pvs fun v => v = .bool true := by
 obtain ⟨v0, r0, rfl, h0, v1, r1, rfl, h1, rfl⟩ : pQ Tryz.prog 8 [23, 23] pvs := h
 obtain ⟨nl, l, rfl, hr⟩ := zhs h0
 obtain ⟨nl1, l1, rfl, hr1⟩ := zhs h1
 exact zuh _ _ l hr _ _ l1 hr1
end Go.Eng


