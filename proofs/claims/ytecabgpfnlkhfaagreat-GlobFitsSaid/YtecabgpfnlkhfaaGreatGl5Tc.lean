/- States run over the code: what each function gives, and what follows. -/
import Derived.Test.YtecabgpfnlkhfaaGreatGl5Tb
open Go.IntKind (i64 i32)
open Go.Proofs.Tryz renaming prog → qa
open List renaming length_map → qb, length_append → qd, length_singleton → qe, getElem_mem → qg, take_of_length_le → qh, map_append → qj, drop → qk, length_cons → ql, length_take → qn, length → qq, eq_nil_of_length_eq_zero → qt, append_assoc → qu, length_nil → qv, drop_eq_nil_of_le → qw, drop_eq_getElem_cons → qy, getElem?_eq_getElem → qz, getElem_map → qab, nil_append → qac, append_nil → qad, mem_cons_self → qaf, drop_of_length_le → qag, mem_of_mem_take → qai, mem_cons_of_mem → qaj, flatMap_append → qal, reverse_cons → qan, flatMap_singleton → qao, cons_append → qap, take_succ_eq_append_getElem → qaq, getD → qar, dropLast_append_of_ne_nil → qas, drop_append_of_le_length → qat, take_zero → qau, mem_singleton → qav, take → qaw, flatten_cons → qay, getElem_append_right → qaz, getLast?_eq_getElem? → qba, take_length → qbb, length_filter_le → qbd, reverse_append → qbh, contains_cons → qbi, filter_append → qbk, foldl_append → qbl, contains_nil → qbm, getLast?_map → qbn, reverse_nil → qbp
open Bool renaming and_eq_true → qc, or_eq_true → qm, not_eq_true' → qr, and_eq_false_iff → qx, or_eq_false_iff → qaa, true_and → qae, false_and → qah, and_false → qbc, and_comm → qbe, or_assoc → qbf, false_or → qbg, not_not → qbj, not_false → qbq, or_false → qbr, not_true → qbs
open Int renaming toNat_natCast → qf, le_refl → qp, tmod_eq_emod_of_nonneg → qak
open Decidable renaming not_not → qi
open Nat renaming le_refl → qo, zero_add → qam
open Option renaming toList → qax, getD_some → qbo, isSome → qbt
set_option linter.unusedVariables false
set_option linter.unusedSimpArgs false
set_option maxRecDepth 100000
set_option linter.constructorNameAsVariable false
namespace Go.Eng
open Go Go.Proofs Go.Eng.Rows Go.Eng.Trie Go.Eng.Srt
section
variable {rows : List Row}
theorem set1 {es : List (List PV)} {k : Nat} {v x : PV} (h : es.getD k [] = [x]) : es.set k (v :: zq (qk 1 (es.getD k []))) = es.set k [v] := by rw [h]; rfl
theorem zcl (A : List Int) (x : Int) (B : List Int) : (aA (A ++ x :: B)).getD A.length [] = [.int .i32 x] := by
 rw [zgj (by simp)]; simp
theorem zcm (A : List Int) (x : Int) (B : List Int) : (aX (A ++ x :: B)).getD A.length [] = [.int .i64 x] := by
 simp [aX]
theorem zvz (hk : dX rows) (n f n2 f2 : Bool) (L : List Int) (hrl : rows.length < 1000000) (hL : L.length < 1000000000) (hr : R32 L) :
 PCall qa 66 [.sl n f (bB rows), .sl n2 f2 (aA L)] fun v => ∃ n f, v = .sl n f (aA (cD (aD rows 1) L)) := by
 have olen : ∀ l, (cD (aD rows 1) l).length = l.length := fun l => ((r9 (key := aD rows 1) hk l).len).symm
 refine zvd _ _ _ _ _ _
  (fun i _ s0 _ s1 => 0 <= i /\ i <= L.length /\ s0 = aA (cD (aD rows 1) (L.take i.toNat)) /\ s1 = aX ((cD (aD rows 1) (L.take i.toNat)).map (aD rows 1))) (fun i _ _ _ _ => L.length - i.toNat)
  (fun i0 _ _ _ _ _ _ i c k _ s0 _ s1 => i = i0 /\ 0 <= i /\ i.toNat < L.length /\ ∃ x A B, L[i.toNat]? = some x /\ c = aD rows 1 x /\ k = (A.length : Nat) /\ cD (aD rows 1) (L.take i.toNat) = A ++ B /\ (∀ y ∈ B, eV (aD rows 1) x y = true) /\ s0 = aA (A ++ x :: B) /\ s1 = aX ((A ++ x :: B).map (aD rows 1))) (fun _ _ k _ _ _ _ => k.toNat) ?_
 unfold zkl;refine ⟨⟨rfl, qp _, by omega, by simp [cD, aA], by simp [cD, aX]⟩, ?_⟩;rintro i n0 _ n1 _ ⟨i0, i1, rfl, rfl⟩;refine aC (fun hc => ?_) (fun hc => ?_)
 ·simp only [aB, bH] at hc;have hi : i.toNat < L.length := by omega
  obtain ⟨g1, g2⟩ := gE i0 hi;have hx := hr _ (qg hi);have hw : i64.wrap (i + 1) = i + 1 := aF (by omega) (by omega);have hol := olen (L.take i.toNat);rw [qn] at hol;refine ⟨g1, L[i.toNat], by rw [g2]; rfl, ?_⟩;refine (vJ n f _ hrl hx).mono ?_;rintro _ rfl;refine ⟨_, rfl, g1, L[i.toNat], by rw [g2]; rfl, ⟨dO [_], by rw [bH]; omega⟩, ⟨lC (enc := fun n => [PV.int .i64 n]) (fun _ => rfl) [_], by rw [jY, qb]; omega⟩, ⟨rfl, ?_⟩, ?_⟩
  ·refine ⟨rfl, i0, hi, L[i.toNat], cD (aD rows 1) (L.take i.toNat), [], qz hi, rfl, by simp, by simp, fun y hy => (by cases hy), by simp [aA], by simp [aX]⟩
  ·rintro i' c k n01 _ n11 _ ⟨rfl, _, _, x, A, B, hxi, rfl, rfl, hord, hB, rfl, rfl⟩;have hwi : i64.wrap (i' + 1) = i' + 1 := aF (by omega) (by omega);have hAB : A.length + B.length = min i'.toNat L.length := by rw [<- hol, hord, qd]
   have hxe : L[i'.toNat] = x := (List.getElem?_eq_some_iff.1 hxi).2
   -- the end of the walk back
   have done : (A = [] ∨ ∃ A' z, A = A' ++ [z] /\ eV (aD rows 1) x z = false) -> 0 <= i' + 1 /\ i' + 1 <= L.length /\ aA (A ++ x :: B) = aA (cD (aD rows 1) (L.take (i' + 1).toNat)) /\ aX ((A ++ x :: B).map (aD rows 1)) = aX ((cD (aD rows 1) (L.take (i' + 1).toNat)).map (aD rows 1)) := fun h => by
    have : cD (aD rows 1) (L.take (i' + 1).toNat) = A ++ x :: B := by
     rw [show (i' + 1).toNat = i'.toNat + 1 by omega, c5 hi, zb4, hord, hxe, nR hB h]
    rw [this];exact ⟨by omega, by omega, rfl, rfl⟩
   have hmu : L.length - (i' + 1).toNat < L.length - i'.toNat := by omega
   refine aC (fun h1 => ?_) (fun h1 => ?_)
   ·simp only [qc, aB, bne_iff_ne, ne_eq] at h1
    obtain ⟨A', z, rfl⟩ : ∃ A' z, A = A' ++ [z] := by
     rcases A.eq_nil_or_concat with rfl | ⟨D, z, rfl⟩
     ·simp at h1
     ·exact ⟨D, z, by simp⟩
    have lA : (A' ++ [z]).length = A'.length + 1 := by simp
    rw [lA] at hAB;have hwk : i64.wrap ((((A' ++ [z]).length : Nat) : Int) - 1) = (A'.length : Nat) := by rw [lA, aF (by omega) (by omega)]; omega
    have e0 : (A' ++ [z]) ++ x :: B = A' ++ z :: (x :: B) := by simp
    rw [hwk, e0];simp only [qj, List.map_cons, qf];rw [lA];generalize hk2 : aD rows 1 = key at *;have i1 : aI (aA (A' ++ z :: x :: B)) ((A'.length : Nat) : Int) 1 := bQ (enc := fun n => [PV.int .i32 n]) (fun _ => rfl) (by omega) (by simp; omega);have i2 : aI (aA (A' ++ z :: x :: B)) ((A'.length + 1 : Nat) : Int) 1 := bQ (enc := fun n => [PV.int .i32 n]) (fun _ => rfl) (by omega) (by simp; omega);have j1 : aI (aX (A'.map key ++ key z :: key x :: B.map key)) ((A'.length : Nat) : Int) 1 := bQ nK (by omega) (by simp; omega);have j2 : aI (aX (A'.map key ++ key z :: key x :: B.map key)) ((A'.length + 1 : Nat) : Int) 1 := bQ nK (by omega) (by simp; omega);have i3 : aI (aA (A' ++ z :: z :: B)) ((A'.length : Nat) : Int) 1 := bQ (enc := fun n => [PV.int .i32 n]) (fun _ => rfl) (by omega) (by simp; omega);have j3 : aI (aX (A'.map key ++ key z :: key z :: B.map key)) ((A'.length : Nat) : Int) 1 := bQ nK (by omega) (by simp; omega);have gz := zcl A' z (x :: B);have gx : (aA (A' ++ z :: x :: B)).getD (A'.length + 1) [] = [.int .i32 x] := by have := zcl (A' ++ [z]) x B; simpa using this
    have hz : (aX (A'.map key ++ key z :: key x :: B.map key)).getD A'.length [] = [.int .i64 (key z)] := by have := zcm (A'.map key) (key z) (key x :: B.map key); simpa using this
    have hx2 : (aX (A'.map key ++ key z :: key x :: B.map key)).getD (A'.length + 1) [] = [.int .i64 (key x)] := by have := zcm (A'.map key ++ [key z]) (key x) (B.map key); simpa using this
    have gz2 := zcl A' z (z :: B);have hz2 : (aX (A'.map key ++ key z :: key z :: B.map key)).getD A'.length [] = [.int .i64 (key z)] := by have := zcm (A'.map key) (key z) (key z :: B.map key); simpa using this
    have s1 : (aA (A' ++ z :: x :: B)).set (A'.length + 1) [.int .i32 z] = aA (A' ++ z :: z :: B) := by
     have := rY (A' ++ [z]) B x z;have e : (aA (A' ++ z :: x :: B)).set (A'.length + 1) [.int .i32 z] = aA ((A' ++ z :: x :: B).set (A'.length + 1) z) := by simp [aA, List.map_set]
     rw [e]; simp at this ⊢
    have s2 : (aA (A' ++ z :: z :: B)).set A'.length [.int .i32 x] = aA (A' ++ x :: z :: B) := by simp [aA]
    have t1 : (aX (A'.map key ++ key z :: key x :: B.map key)).set (A'.length + 1) [.int .i64 (key z)] = aX (A'.map key ++ key z :: key z :: B.map key) := by simp [aX]
    have t2 : (aX (A'.map key ++ key z :: key z :: B.map key)).set A'.length [.int .i64 (key x)] = aX (A'.map key ++ key x :: key z :: B.map key) := by simp [aX]
    refine ⟨j1, key z, by rw [hz]; rfl, aC (fun h2 => ?_) (fun h2 => ?_)⟩
    ·simp only [aB] at h2;refine ⟨i1, z, by rw [gz]; rfl, i2, ⟨trivial, by rw [gx]; exact qo _⟩, j1, key z, by rw [hz]; rfl, j2, ⟨trivial, by rw [hx2]; exact qo _⟩, g1, x, by rw [g2, hxe]; rfl, ?_⟩;rw [set1 gx, set1 hx2, s1, t1, set1 gz2, set1 hz2, s2, t2];refine ⟨i3, ⟨trivial, by rw [gz2]; exact qo _⟩, j3, ⟨trivial, by rw [hz2]; exact qo _⟩, rfl, ⟨trivial, i0, hi, x, A', z :: B, hxi, rfl, rfl, by rw [hord]; simp, fun y hy => ?_, rfl, by simp⟩, by simp⟩;rcases List.mem_cons.1 hy with rfl | hy
     ·exact pN.2 ⟨h1.2, h2⟩
     ·exact hB y hy
    ·simp only [aB] at h2;rw [hwi];obtain ⟨d1, d2, d3, d4⟩ := done (.inr ⟨A', z, rfl, vP.2 (.inr (by omega))⟩);refine ⟨rfl, ⟨d1, d2, ?_, ?_⟩, hmu⟩
     ·rw [<- d3, e0]
     ·rw [<- d4]; simp
   ·have hA : A = [] ∨ aD rows 1 x = 0 := by
     simp only [qc, aB, bne_iff_ne, ne_eq, not_and, qi] at h1;by_cases hA : A = []
     ·exact .inl hA
     ·exact .inr (h1 (by have := List.length_pos_iff.2 hA; omega))
    rw [hwi];refine ⟨rfl, done ?_, hmu⟩;rcases hA with h | h
    ·exact .inl h
    ·rcases A.eq_nil_or_concat with rfl | ⟨D, z, rfl⟩
     ·exact .inl rfl
     ·exact .inr ⟨D, z, by simp, vP.2 (.inl h)⟩
 ·simp only [aB, bH] at hc;rw [qh (by omega)];exact ⟨_, _, rfl⟩
end
theorem nT : tab.length < 1000000 := by have := zsl; omega
theorem vV (n f : Bool) : PCall qa 14 [.sl n f (bB tab)] (dV tab) := zub n f tab nT j9
theorem R32.take {l : List Int} (h : R32 l) (k : Nat) : R32 (l.take k) := fun x hx => h x (qai hx)
section
variable {rows : List Row} {v : PV}
theorem zv0 {ts : List PV} {key : Int -> Int} (hT : ∀ r : Int, (-2147483648 <= r /\ r <= 2147483647) -> PCall qa 93 [.ptr ts, .int .i32 r] fun v => v = .int .i64 (key r)) : j6 (.ptr ts) key := by
 intro a b ha hb;refine zqt _ _ _ ?_; unfold zg0;refine .inl ⟨ts, rfl, .inl ⟨ts, rfl, ?_⟩⟩;refine (hT a ha).mono ?_;rintro _ rfl;refine ⟨_, rfl, ?_⟩;refine (hT b hb).mono ?_;rintro _ rfl;refine ⟨_, rfl, ?_⟩;refine (p61 _ _).mono ?_;rintro _ rfl;refine ⟨_, rfl, _, rfl, ?_⟩;unfold cmpS; split <;> (try split) <;> omega
theorem zv1 (hk : dX rows) (hv : dV rows v) (n f : Bool) (L : List Int) (hr : R32 L) (hL : L.length < 1000000000000) : PCall qa 123 [v, .sl n f (aA L)] fun x => ∃ n f, x = .sl n f (aA (cD (aD rows 1) L)) := by
 obtain ⟨tc, tg, tj, tf, tp, made, sec, rfl, ht, hm⟩ := hv;have hT : ∀ r : Int, (-2147483648 <= r /\ r <= 2147483647) -> PCall qa 93 [.ptr [tc, tg, tj, tf, tp, .mp (eA made), .mp (jE sec)], .int .i32 r] fun v => v = .int .i64 (aD rows 1 r) := fun r hr => vD _ _ ht hr;exact PCall.ofA (args := [_, _]) (zva hk hT (zv0 hT) L hr hL) fun r h' ⟨hr, hh⟩ => by subst hr; subst hh; exact ⟨_, rfl, _, _, rfl⟩
theorem zkx (hp : cU rows) {l : List Int} (h : R32 l) : R32 (l.flatMap (aT rows 8)) := fun x hx => by
 obtain ⟨r, hr, h2⟩ := List.mem_flatMap.1 hx;rcases vI hp 8 r x h2 with rfl | h3
 ·exact h x hr
 ·omega
theorem vW (rows : List Row) (l : List Int) : (l.flatMap (aT rows 8)).length <= 768 * l.length := by
 induction l with
 | nil => simp
 | cons x l ih =>
   have := mI rows 8 x;rw [List.flatMap_cons, qd, ql]; omega
theorem zky (rows : List Row) {l : List Int} {i : Nat} (hi : i < l.length) : (l.take (i + 1)).flatMap (aT rows 8) = (l.take i).flatMap (aT rows 8) ++ aT rows 8 l[i] := by
 rw [c5 hi, qal]; simp
theorem zv2 (hp : cU rows) (hk : dX rows) (hv : dV rows v) (n f : Bool) (L : List Int) (hr : R32 L) (hL : L.length < 1000000) : PCall qa 96 [v, .sl n f (aA L)] fun x => ∃ n f, x = .sl n f (aA (eH rows L)) := by
 have hv' := hv;obtain ⟨tc, tg, tj, tf, tp, made, sec, rfl, ht, hm⟩ := hv;refine zve _ _ _ _ _ _ _ _ _ _ (fun i h0 _ s => h0 = .ptr [tc, tg, tj, tf, tp, .mp (eA made), .mp (jE sec)] /\ 0 <= i /\ i <= L.length /\ s = aA ((L.take i.toNat).flatMap (aT rows 8))) (fun i _ _ _ => L.length - i.toNat) ?_;unfold zkm;refine ⟨rfl, ⟨rfl, rfl, qp _, by omega, rfl⟩, ?_⟩;rintro i h0 n1 _ ⟨rfl, i0, i1, rfl⟩;refine aC (fun hc => ?_) (fun hc => ?_)
 ·simp only [aB, bH] at hc;have hi : i.toNat < L.length := by omega
  obtain ⟨g1, g2⟩ := gE i0 hi;have hx := hr _ (qg hi);have hw : i64.wrap (i + 1) = i + 1 := aF (by omega) (by omega);have hfl := vW rows (L.take i.toNat);rw [qn] at hfl;refine ⟨g1, L[i.toNat], by rw [g2]; rfl, ?_⟩;refine (zuh _ _ hp ht 8 _ n1 _ (by omega) hx (by omega)).mono ?_;rintro r h' ⟨nl, rfl, rfl⟩;rw [hw];exact ⟨(nl, _), ⟨rfl, rfl⟩, ⟨trivial, trivial, trivial⟩, rfl, ⟨rfl, by omega, by omega, by rw [show (i + 1).toNat = i.toNat + 1 by omega, zky rows hi]; rfl⟩, by dsimp only; omega⟩
 ·simp only [aB, bH] at hc;rw [qh (by omega)];have hfl := vW rows L;refine (zv1 hk hv' n1 false _ (zkx hp hr) (by omega)).mono ?_;rintro _ ⟨n2, f2, rfl⟩;exact ⟨_, _, _, rfl, _, _, rfl⟩
theorem zkz (hp : cU rows) (hk : dX rows) (n f n2 f2 : Bool) (hrl : rows.length < 1000000) (L : List Int) (hr : R32 L) (hL : L.length < 1000000) : PCall qa 20 [.sl n f (bB rows), .sl n2 f2 (aA L)] fun x => ∃ n f, x = .sl n f (aA (eH rows L)) := by
 refine zvf _ _ _ _ _ _ (fun i _ s => 0 <= i /\ i <= L.length /\ s = aA ((L.take i.toNat).flatMap (aT rows 8))) (fun i _ _ => L.length - i.toNat) ?_;unfold zkn;refine ⟨⟨rfl, qp _, by omega, rfl⟩, ?_⟩;rintro i n1 _ ⟨i0, i1, rfl⟩;refine aC (fun hc => ?_) (fun hc => ?_)
 ·simp only [aB, bH] at hc;have hi : i.toNat < L.length := by omega
  obtain ⟨g1, g2⟩ := gE i0 hi;have hx := hr _ (qg hi);have hw : i64.wrap (i + 1) = i + 1 := aF (by omega) (by omega);have hfl := vW rows (L.take i.toNat);rw [qn] at hfl;have hf1 := mI rows 8 L[i.toNat]
  have he : aA ((L.take i.toNat).flatMap (aT rows 8)) ++ aA (aT rows 8 L[i.toNat]) = aA ((L.take (i + 1).toNat).flatMap (aT rows 8)) := by
   rw [show (i + 1).toNat = i.toNat + 1 by omega, zky rows hi, fV]
  refine ⟨g1, L[i.toNat], by rw [g2]; rfl, ?_⟩;rw [hw];refine (zuf hp n f hrl 8 _ (by omega) hx).mono ?_;rintro r h' (⟨nl, rfl, rfl⟩ | ⟨rfl, rfl⟩)
  ·exact .inl ⟨(nl, _), ⟨rfl, rfl⟩, trivial, ⟨dO _, by simp only [bH, qb]; omega⟩, rfl, ⟨by omega, by omega, he⟩, by dsimp only; omega⟩
  ·exact .inr ⟨_, ⟨rfl, rfl⟩, trivial, ⟨dO _, by rw [bH, bH]; omega⟩, rfl, ⟨by omega, by omega, he⟩, by dsimp only; omega⟩
 ·simp only [aB, bH] at hc;rw [qh (by omega)];have hfl := vW rows L;refine (zvz hk n f n1 false _ hrl (by omega) (zkx hp hr)).mono ?_;rintro _ ⟨n2, f2, rfl⟩;exact ⟨_, _, _, rfl, _, _, rfl⟩
theorem zk0 (hk : dX rows) {l : List Int} (h : l.length < 1000000) : (eH rows l).length < 1000000000000 := by
 have := zcj hk l; omega
end
end Go.Eng
namespace Go.Eng.Rows
open Go Go.Eng Go.Eng.Trie Go.Eng.Srt
def eB (a b : Int) : Option Int :=
 if (4352 <= a /\ a < 4371) /\ 4449 <= b /\ b < 4470 then some (44032 + ((a - 4352) * 21 + (b - 4449)) * 28)
 else if (bM a = true /\ (a - 44032) % 28 = 0) /\ 4519 < b /\ b < 4547 then some (a + (b - 4519)) else none
def dY (rows : List Row) (a b : Int) (x : Row) : Bool := decide (x.kind = 2) && (decide (x.a = a) && (decide (x.b = b) && (!decide (b = 0) && !dU rows x.fr)))
def cmpS (rows : List Row) (a b : Int) (o : Option Int) (x : Row) : Option Int :=
 if dY rows a b x then (match o with | none => some x.fr | some r => if x.fr < r then some x.fr else some r) else o
def mN (rows : List Row) (a b : Int) : Option Int := rows.foldl (cmpS rows a b) none
def eW (rows : List Row) (a b : Int) : Option Int := match eB a b with | some r => some r | none => mN rows a b
theorem zk1 (rows : List Row) (a b : Int) (l : List Row) : match l.foldl (cmpS rows a b) none with
 | none => ∀ x ∈ l, dY rows a b x = false
 | some r => (∃ x ∈ l, dY rows a b x = true /\ x.fr = r) /\ ∀ x ∈ l, dY rows a b x = true -> r <= x.fr := by
 have : ∀ (m : List Row), match m.reverse.foldl (cmpS rows a b) none with
  | none => ∀ x ∈ m, dY rows a b x = false
  | some r => (∃ x ∈ m, dY rows a b x = true /\ x.fr = r) /\ ∀ x ∈ m, dY rows a b x = true -> r <= x.fr := by
  intro m
  induction m with
  | nil => intro x hx; cases hx
  | cons y m ih =>
    rw [qan, qbl, List.foldl_cons, List.foldl_nil];generalize m.reverse.foldl (cmpS rows a b) none = o at ih;unfold cmpS;cases hc : dY rows a b y with
    | false =>
      simp only [Bool.false_eq_true, if_false];cases o with
      | none => intro x hx; rcases List.mem_cons.1 hx with rfl | hx; exact hc; exact ih x hx
      | some r =>
        obtain ⟨⟨x, h1, h2⟩, h3⟩ := ih;exact ⟨⟨x, qaj _ h1, h2⟩, fun z hz hz2 => by rcases List.mem_cons.1 hz with rfl | hz; rw [hc] at hz2; cases hz2; exact h3 z hz hz2⟩
    | true =>
      simp only [if_true];cases o with
      | none =>
        refine ⟨⟨y, qaf, hc, rfl⟩, fun z hz hz2 => ?_⟩;rcases List.mem_cons.1 hz with rfl | hz
        ·exact qp _
        ·have := ih z hz; rw [this] at hz2; cases hz2
      | some r =>
        obtain ⟨⟨x, h1, h2, h4⟩, h3⟩ := ih;by_cases hlt : y.fr < r
        ·simp only [hlt, if_true];refine ⟨⟨y, qaf, hc, rfl⟩, fun z hz hz2 => ?_⟩;rcases List.mem_cons.1 hz with rfl | hz
         ·exact qp _
         ·have := h3 z hz hz2; omega
        ·simp only [hlt, if_false];refine ⟨⟨x, qaj _ h1, h2, h4⟩, fun z hz hz2 => ?_⟩;rcases List.mem_cons.1 hz with rfl | hz
         ·omega
         ·exact h3 z hz hz2
 have h := this l.reverse;rw [List.reverse_reverse] at h;generalize l.foldl (cmpS rows a b) none = o at h ⊢;cases o with
 | none => intro x hx; exact h x (List.mem_reverse.2 hx)
 | some r => exact ⟨by obtain ⟨⟨x, h1, h2⟩, _⟩ := h; exact ⟨x, List.mem_reverse.1 h1, h2⟩, fun x hx => h.2 x (List.mem_reverse.2 hx)⟩
theorem vX {rows : List Row} (h1 : dB rows) {x : Row} (hx : x ∈ rows) (hk : x.kind = 2) : aJ rows x.fr = (x.a, x.b) /\ 0 <= x.fr /\ x.fr <= 1114111 := by
 obtain ⟨e1, e2, e3⟩ := h1 x hx hk;have hf : bO rows 2 x.fr = some (x.a, x.b) := by unfold bO; rw [if_pos e2]; exact e3
 exact ⟨by unfold aJ; rw [hf], e2⟩
theorem zk2 {rows : List Row} (h1 : dB rows) {r : Int} (h : aJ rows r ≠ (0, 0)) : ∃ x ∈ rows, x.kind = 2 /\ x.fr = r /\ aJ rows r = (x.a, x.b) := by
 cases hf : bO rows 2 r with
 | none => exact absurd (by unfold aJ; rw [hf]) h
 | some p =>
   obtain ⟨y, hy, hk, f1, f2⟩ := zkq hf;obtain ⟨e1, _⟩ := h1 y hy hk;have hr : y.fr = r := by omega
   have := (vX h1 hy hk).1;rw [hr] at this;exact ⟨y, hy, hk, hr, this⟩
theorem zcn {rows : List Row} (h1 : dB rows) {a b r : Int} (h : mN rows a b = some r) : aJ rows r = (a, b) /\ b ≠ 0 /\ dU rows r = false /\ (0 <= r /\ r <= 1114111) /\ ∃ x ∈ rows, x.kind = 2 /\ x.fr = r := by
 have := zk1 rows a b rows;unfold mN at h;rw [h] at this;obtain ⟨⟨x, hx, hc, rfl⟩, _⟩ := this;simp only [dY, qc, aB, qr, cY] at hc;obtain ⟨hk, ha, hb, h0, ho⟩ := hc;obtain ⟨hp, hr⟩ := vX h1 hx hk;exact ⟨by rw [hp, ha, hb], h0, ho, hr, x, hx, hk, rfl⟩
theorem zv3 {rows : List Row} (hp : cU rows) (h1 : dB rows) {made : List ((Int × Int) × Int)} {sec : List (Int × Bool)} (hm : MadeOK rows (fun r => 0 <= r /\ r <= 1114111) made sec) (a b : Int) :
 (if b = 0 then none else bV (a, b) made) = mN rows a b := by
 have hc := zk1 rows a b rows
 have good : ∀ x ∈ rows, dY rows a b x = true -> b ≠ 0 /\ (0 <= x.fr /\ x.fr <= 1114111) /\ lI rows x.fr /\ aJ rows x.fr = (a, b) := fun x hx hc => by
  simp only [dY, qc, aB, qr, cY] at hc;obtain ⟨hk, ha, hb, h0, ho⟩ := hc;obtain ⟨e, hr⟩ := vX h1 hx hk;refine ⟨h0, hr, ⟨?_, ho⟩, by rw [e, ha, hb]⟩;rw [e]; intro q; exact h0 (hb.symm.trans (Prod.mk.inj q).2)
 have back : ∀ r, b ≠ 0 -> lI rows r -> aJ rows r = (a, b) -> ∃ x ∈ rows, dY rows a b x = true /\ x.fr = r := fun r h0 hg hpr => by
  obtain ⟨x, hx, hk, hfr, hq⟩ := zk2 h1 hg.1;have ho := hg.2;rw [hq] at hpr;cases hpr;refine ⟨x, hx, ?_, hfr⟩;simp only [dY, qc, aB, qr, cY];exact ⟨hk, trivial, trivial, h0, by rw [hfr]; exact ho⟩
 unfold mN;generalize rows.foldl (cmpS rows a b) none = o at hc ⊢;split
 ·rename_i h0;cases o with
  | none => rfl
  | some r => obtain ⟨⟨x, hx, hb, _⟩, _⟩ := hc; exact absurd h0 (good x hx hb).1
 ·rename_i h0;cases hg : bV (a, b) made with
  | none =>
    cases o with
    | none => rfl
    | some r =>
      obtain ⟨⟨x, hx, hb, _⟩, _⟩ := hc;obtain ⟨_, g1, g2, g3⟩ := good x hx hb;exact absurd g3 (hm.m2 _ hg _ g1 g2)
  | some r =>
    obtain ⟨d1, d2, d3, d4⟩ := hm.m1 _ _ hg;obtain ⟨x, hx, hb, hfr⟩ := back r h0 d2 d3;cases o with
    | none => have := hc x hx; rw [this] at hb; cases hb
    | some s =>
      obtain ⟨⟨y, hy, hyb, rfl⟩, hl⟩ := hc;obtain ⟨_, g1, g2, g3⟩ := good y hy hyb;have k1 := hl x hx hb;have k2 := d4 _ g1 g2 g3;rw [hfr] at k1;exact congrArg some (Int.le_antisymm k2 k1)
theorem zco {a b r : Int} (h : eB a b = some r) : bM r = true := by
 unfold eB at h;split at h
 ·rename_i hc; cases h; simp only [bM, qc, aB]; omega
 ·split at h
  ·rename_i hc; cases h; simp only [bM, qc, aB] at hc ⊢; omega
  ·cases h
theorem zv4 {rows : List Row} (h1 : dB rows) {a b r : Int} (h : eW rows a b = some r) : 0 <= r /\ r <= 1114111 := by
 unfold eW at h;split at h
 ·rename_i s hj; cases h; have := zco hj; simp only [bM, qc, aB] at this; omega
 ·exact (zcn h1 h).2.2.2.1
structure CSt where
 P : List Int
 s : Option Int
 M : List Int
def dG (key : Int -> Int) (M : List Int) : Int := match M.getLast? with | some m => key m | none => 0
def CSt.out (st : CSt) : List Int := st.P ++ (st.s.toList ++ st.M)
def cO (key : Int -> Int) (st : CSt) (r : Int) : CSt := if key r = 0 then ⟨st.out, some r, []⟩ else ⟨st.P, st.s, st.M ++ [r]⟩
def cA (rows : List Row) (st : CSt) (r : Int) : CSt := match st.s with
 | none => cO (aD rows 1) st r
 | some a => if st.M = [] ∨ dG (aD rows 1) st.M < aD rows 1 r then (match eW rows a r with
   | some c => ⟨st.P, some c, st.M⟩
   | none => cO (aD rows 1) st r) else cO (aD rows 1) st r
def bG (rows : List Row) (l : List Int) : CSt := l.foldl (cA rows) ⟨[], none, []⟩
def gG (rows : List Row) (l : List Int) : List Int := (bG rows l).out
theorem gH (rows : List Row) (l : List Int) (r : Int) : bG rows (l ++ [r]) = cA rows (bG rows l) r := by simp [bG]
theorem mO (key : Int -> Int) (st : CSt) (r : Int) : (cO key st r).out = st.out ++ [r] := by
 unfold cO; split <;> simp [CSt.out]
theorem pO (rows : List Row) (st : CSt) (r : Int) : cA rows st r = cO (aD rows 1) st r ∨ ∃ a c, st.s = some a /\ eW rows a r = some c /\ (st.M = [] ∨ dG (aD rows 1) st.M < aD rows 1 r) /\ cA rows st r = ⟨st.P, some c, st.M⟩ := by
 unfold cA;split
 ·exact .inl rfl
 ·rename_i a ha;split
  ·rename_i hf;cases hc : eW rows a r with
   | none => exact .inl rfl
   | some c => exact .inr ⟨a, c, ha, hc, hf, rfl⟩
  ·exact .inl rfl
theorem zcp (rows : List Row) (l : List Int) : (gG rows l).length <= l.length := by
 unfold gG
 induction l using iW with
 | h0 => simp [bG, CSt.out]
 | h1 l r ih =>
   rw [gH, qd, qe];rcases pO rows (bG rows l) r with e | ⟨a, c, hs, _, _, e⟩
   ·rw [e, mO, qd, qe]; omega
   ·rw [e]; simp only [CSt.out, hs, qax, qd, ql] at ih ⊢; omega
theorem zcq {rows : List Row} (h1 : dB rows) (l : List Int) : ∀ x ∈ gG rows l, x ∈ l ∨ (0 <= x /\ x <= 1114111) := by
 unfold gG
 induction l using iW with
 | h0 => intro x hx; simp [bG, CSt.out] at hx
 | h1 l r ih =>
   rw [gH];rcases pO rows (bG rows l) r with e | ⟨a, c, hs, hc, _, e⟩
   ·rw [e, mO];intro x hx;rcases List.mem_append.1 hx with hx | hx
    ·exact (ih x hx).imp (fun h => List.mem_append.2 (.inl h)) id
    ·exact .inl (List.mem_append.2 (.inr hx))
   ·rw [e];intro x hx;simp only [CSt.out, qax, List.mem_append, List.mem_cons, List.not_mem_nil, or_false] at hx ih;rcases hx with hx | rfl | hx
    ·exact (ih x (.inl hx)).imp (fun h => List.mem_append.2 (.inl h)) id
    ·exact .inr (zv4 h1 hc)
    ·exact (ih x (.inr (.inr hx))).imp (fun h => List.mem_append.2 (.inl h)) id
structure TabC (rows : List Row) : Prop where
 one : dB rows
 closed : sC rows
 cls : dX rows
 syl : ∀ x ∈ rows, x.kind = 2 -> bM x.fr = false
 deep : ∀ x ∈ rows, x.kind = 2 -> aT rows 7 x.fr = aT rows 8 x.fr
theorem TabC.full7 {rows : List Row} (h : TabC rows) (r : Int) : aT rows 7 r = aT rows 8 r := by
 by_cases hs : bM r = true
 ·rw [j5 hs, j5 hs]
 ·simp only [Bool.not_eq_true] at hs;by_cases h0 : aJ rows r = (0, 0)
  ·rw [pL hs h0, pL hs h0]
  ·obtain ⟨x, hx, hk, rfl, _⟩ := zk2 h.one h0;exact h.deep x hx hk
theorem TabC.join {rows : List Row} (h : TabC rows) {a b c : Int} (ha : cE rows a = true ∨ bM a = true) (hj : eB a b = some c) : aT rows 8 c = aT rows 8 a ++ [b] := by
 rw [j5 (zco hj)];unfold eB at hj;split at hj
 ·rename_i hc;cases hj
  have hr : cE rows a = true := by
   rcases ha with ha | ha
   ·exact ha
   ·simp only [bM, qc, aB] at ha; omega
  rw [vT hr];unfold dW;rw [if_pos (by omega)];simp only [qap, qac, List.cons.injEq, and_true];omega
 ·split at hj
  ·rename_i hc;cases hj;obtain ⟨⟨hs, h0⟩, h1, h2⟩ := hc;rw [j5 hs];simp only [bM, qc, aB] at hs;unfold dW;rw [if_neg (by omega), if_pos h0];simp only [qap, qac, List.cons.injEq, and_true];omega
  ·cases hj
theorem TabC.lead {rows : List Row} (h : TabC rows) {a : Int} (ha : 4352 <= a /\ a < 4371) : cE rows a = true := by
 have hx := h.closed (44032 + (a - 4352) * 588) a;refine hx ?_;have hs : bM (44032 + (a - 4352) * 588) = true := by simp only [bM, qc, aB]; omega
 rw [j5 hs];unfold dW;rw [if_pos (by omega), show 4352 + (44032 + (a - 4352) * 588 - 44032) / 588 = a by omega];exact qaf
theorem TabC.pair {rows : List Row} (h : TabC rows) {a b c : Int} (hb : cE rows b = true) (hc : eW rows a b = some c) : aT rows 8 c = aT rows 8 a ++ [b] := by
 unfold eW at hc;split at hc
 ·rename_i s hj;cases hc;refine h.join ?_ hj;unfold eB at hj;split at hj
  ·rename_i hq; exact .inl (h.lead hq.1)
  ·split at hj
   ·rename_i hq; exact .inr hq.1.1
   ·cases hj
 ·obtain ⟨hp, h0, _, _, x, hx, hk, rfl⟩ := zcn h.one hc;have hs := h.syl x hx hk;have hn : aJ rows x.fr ≠ (0, 0) := by rw [hp]; intro e; cases e; exact h0 rfl
  rw [show (8 : Nat) = 7 + 1 from rfl];rw [aT, if_neg (by rw [hs]; simp), if_neg hn, hp];simp only;rw [if_neg h0, h.full7, vT hb]
theorem sE (key : Int -> Int) (M : List Int) (r : Int) : dG key (M ++ [r]) = key r := by simp [dG]
structure InvC (rows : List Row) (st : CSt) (p : List Int) : Prop where
 e : Eqv (aD rows 1) (st.out.flatMap (aT rows 8)) p
 m : ∀ m ∈ st.M, aD rows 1 m ≠ 0 /\ cE rows m = true /\ aD rows 1 m <= dG (aD rows 1) st.M
 q : st.M ≠ [] -> ∃ p' q, p = p' ++ [q] /\ dG (aD rows 1) st.M <= aD rows 1 q
theorem InvC.app {rows : List Row} {st : CSt} {p : List Int} (h : InvC rows st p) {r : Int} (hr : cE rows r = true) (hc : cX (aD rows 1) (p ++ [r])) : InvC rows (cO (aD rows 1) st r) (p ++ [r]) := by
 have he : Eqv (aD rows 1) ((cO (aD rows 1) st r).out.flatMap (aT rows 8)) (p ++ [r]) := by
  rw [mO, qal, qao, vT hr];simpa using h.e.app [] [r]
 refine ⟨he, ?_, ?_⟩
 ·unfold cO;split
  ·intro m hm; cases hm
  ·rename_i h0;intro m hm;simp only at hm ⊢;rw [sE];rcases List.mem_append.1 hm with hm | hm
   ·obtain ⟨k1, k2, k3⟩ := h.m m hm;refine ⟨k1, k2, ?_⟩;obtain ⟨p', q, rfl, hq⟩ := h.q (List.ne_nil_of_mem hm);have := (nS.1 hc).2.2 q r (by simp) rfl h0;omega
   ·rw [qav] at hm; subst hm; exact ⟨h0, hr, qp _⟩
 ·unfold cO;split
  ·intro hn; exact absurd rfl hn
  ·intro _; exact ⟨p, r, rfl, by simp only; rw [sE]; exact qp _⟩
theorem InvC.step {rows : List Row} (ht : TabC rows) {st : CSt} {p : List Int} (h : InvC rows st p) {r : Int} (hr : cE rows r = true) (hc : cX (aD rows 1) (p ++ [r])) : InvC rows (cA rows st r) (p ++ [r]) := by
 rcases pO rows st r with e | ⟨a, c, hs, hpc, hf, e⟩
 ·rw [e]; exact h.app hr hc
 ·rw [e];have hM : st.M.flatMap (aT rows 8) = st.M := zci fun m hm => (h.m m hm).2.1;have he := h.e;simp only [CSt.out, hs, qax, qal, qao, hM] at he;have hlt : st.M ≠ [] -> dG (aD rows 1) st.M < aD rows 1 r := fun hn => hf.elim (fun e => absurd e hn) id;refine ⟨?_, h.m, fun hn => ⟨p, r, rfl, Int.le_of_lt (hlt hn)⟩⟩;simp only [CSt.out, qax, qal, qao, hM, ht.pair hr hpc];refine Eqv.trans ?_ (by simpa using he.app [] [r])
  by_cases hn : st.M = []
  ·rw [hn]; simp; exact .refl _
  ·have h3 : dG (aD rows 1) st.M < aD rows 1 r := hlt hn
   have hr0 : aD rows 1 r ≠ 0 := by
    intro e0;obtain ⟨m, hm⟩ := List.exists_mem_of_ne_nil _ hn;obtain ⟨k1, _, k3⟩ := h.m m hm;have := ht.cls m; omega
   have := (Eqv.ahead (key := aD rows 1) hr0 (B := st.M) [] fun m hm => ⟨(h.m m hm).1, by have := (h.m m hm).2.2; omega⟩).symm.app (st.P.flatMap (aT rows 8) ++ aT rows 8 a) [];simpa using this
theorem zv5 {rows : List Row} (ht : TabC rows) {l : List Int} (hr : ∀ x ∈ l, cE rows x = true) (hc : cX (aD rows 1) l) : InvC rows (bG rows l) l := by
 revert hr hc
 induction l using iW with
 | h0 => intro _ _; exact ⟨.refl _, (fun m hm => by cases hm), fun hn => absurd rfl hn⟩
 | h1 l r ih =>
   intro hr hc;rw [gH];exact (ih (fun x hx => hr x (by simp [hx])) (nS.1 hc).1).step ht (hr r (by simp)) hc
def cC (rows : List Row) (l : List Int) : List Int := gG rows (eH rows l)
theorem nfc_nfd {rows : List Row} (ht : TabC rows) (l : List Int) : cC rows (eH rows l) = cC rows l := by
 unfold cC; rw [zks ht.cls ht.closed]
end Go.Eng.Rows
namespace Go.Eng
open Go Go.Proofs Go.Eng.Rows Go.Eng.Trie
end Go.Eng
namespace Go.Eng.Rows
open Go Go.Eng Go.Eng.Trie Go.Eng.Srt
def Comp (rows : List Row) (s : List Int) : Prop := ∃ d, (∀ x ∈ d, cE rows x = true) /\ cX (aD rows 1) d /\ gG rows d = s
section
variable {rows : List Row}
def kA (rows : List Row) (s : Option Int) (M : List Int) (r : Int) : Option Int := match s with
 | none => none
 | some a => if M = [] ∨ dG (aD rows 1) M < aD rows 1 r then eW rows a r else none
theorem lK (st : CSt) (r : Int) : cA rows st r = match kA rows st.s st.M r with | some c => ⟨st.P, some c, st.M⟩ | none => cO (aD rows 1) st r := by
 unfold cA kA;cases st.s with
 | none => rfl
 | some a =>
   simp only;split
   ·rfl
   ·rfl
theorem zcr {s : Option Int} {M : List Int} {r c : Int} (h : kA rows s M r = some c) : ∃ a, s = some a /\ eW rows a r = some c /\ (M = [] ∨ dG (aD rows 1) M < aD rows 1 r) := by
 unfold kA at h;cases s with
 | none => cases h
 | some a =>
   simp only at h;split at h
   ·rename_i hf; exact ⟨a, rfl, h, hf⟩
   ·cases h
theorem lL {d : List Int} {x : Int} : cX (aD rows 1) (d ++ [x]) ↔ cX (aD rows 1) d /\ (∀ z, d.getLast? = some z -> aD rows 1 x ≠ 0 -> aD rows 1 z <= aD rows 1 x) := by
 rw [nS];constructor
 ·rintro ⟨h1, _, h3⟩; exact ⟨h1, fun z hz hx => h3 z x hz rfl hx⟩
 ·rintro ⟨h1, h3⟩; exact ⟨h1, trivial, fun z x' hz hx' h0 => by simp at hx'; subst hx'; exact h3 z hz h0⟩
theorem zcs {d : List Int} {r x : Int} (h : cX (aD rows 1) (d ++ [r] ++ [x])) (hx : aD rows 1 x ≠ 0) : aD rows 1 r <= aD rows 1 x := (lL.1 h).2 r (by simp) hx
def Wit (rows : List Row) (d : List Int) (st : CSt) : Prop := ∃ e, (∀ x ∈ e, cE rows x = true) /\ bG rows e = st /\ (st.out = [] -> e = []) /\ cX (aD rows 1) e /\ ∀ x, cX (aD rows 1) (d ++ [x]) -> cX (aD rows 1) (e ++ [x])
theorem Wit.snoc {d : List Int} {st : CSt} (h : Wit rows d st) {r : Int} (hr : cE rows r = true) (hc : cX (aD rows 1) (d ++ [r])) (hn : (cA rows st r).out ≠ []) : Wit rows (d ++ [r]) (cA rows st r) := by
 obtain ⟨e, h1, h2, h3, h4, h5⟩ := h;refine ⟨e ++ [r], fun x hx => ?_, by rw [gH, h2], fun hq => absurd hq hn, h5 r hc, fun x hx => ?_⟩
 ·rcases List.mem_append.1 hx with hx | hx
  ·exact h1 x hx
  ·rw [qav] at hx; subst hx; exact hr
 ·exact lL.2 ⟨h5 r hc, fun z hz h0 => by simp at hz; subst hz; exact zcs hx h0⟩
theorem zct {key : Int -> Int} {M : List Int} (h : M ≠ []) : ∃ m ∈ M, dG key M = key m := by
 rcases M.eq_nil_or_concat with rfl | ⟨D, z, rfl⟩
 ·exact absurd rfl h
 ·exact ⟨z, by simp, by simp [dG]⟩
theorem zk3 {d : List Int} (h : (bG rows d).out = []) : d = [] := by
 revert h
 induction d using iW with
 | h0 => exact fun _ => rfl
 | h1 d r ih =>
   rw [gH, lK];intro h;split at h
   ·simp [CSt.out] at h
   ·rw [mO] at h; simp at h
theorem sF {d : List Int} (h : (bG rows d).s = none) : (bG rows d).P = [] := by
 revert h
 induction d using iW with
 | h0 => exact fun _ => rfl
 | h1 d r ih =>
   rw [gH, lK];split
   ·intro h; cases h
   ·unfold cO;split
    ·intro h; cases h
    ·exact ih
theorem zv6 (ht : TabC rows) {d : List Int} (hr : ∀ x ∈ d, cE rows x = true) (hc : cX (aD rows 1) d) (hn : (bG rows d).M ≠ []) :
 Wit rows d ⟨(bG rows d).P, (bG rows d).s, (bG rows d).M.dropLast⟩ := by
 revert hr hc hn
 induction d using iW with
 | h0 => intro _ _ hn; exact absurd rfl hn
 | h1 d r ih =>
   intro hr hc;have hr1 : ∀ x ∈ d, cE rows x = true := fun x hx => hr x (by simp [hx]);have hc1 := (lL.1 hc).1;have hinv := zv5 ht hr1 hc1;have hrr := hr r (by simp);rw [gH];have ih := ih hr1 hc1;have hon := zk3 (rows := rows) (d := d);generalize hsd : bG rows d = st at *;rw [lK];cases hd : kA rows st.s st.M r with
   | none =>
     simp only;unfold cO;split
     ·intro hn; exact absurd rfl hn
     ·rename_i h0;intro _;simp only [List.dropLast_concat];refine ⟨d, hr1, hsd, fun h => hon h, hc1, fun x hx => lL.2 ⟨hc1, fun z hz hx0 => ?_⟩⟩;have := (lL.1 hc).2 z hz h0;have := zcs hx hx0;omega
   | some c =>
     simp only;intro hn;obtain ⟨a, hs, hp, hf⟩ := zcr hd;have hlt := hf.elim (fun e => absurd e hn) id;have hw := (ih hn).snoc hrr hc
     have he : cA rows ⟨st.P, st.s, st.M.dropLast⟩ r = ⟨st.P, some c, st.M.dropLast⟩ := by
      rw [lK]
      have : kA rows st.s st.M.dropLast r = some c := by
       unfold kA;rw [hs];simp only;rw [if_pos, hp];by_cases hdl : st.M.dropLast = []
       ·exact .inl hdl
       ·obtain ⟨m, hm, e⟩ := zct (key := aD rows 1) hdl;have := (hinv.m m (List.dropLast_subset _ hm)).2.2;exact .inr (by omega)
      simp only [this]
     rw [he] at hw;exact hw (by simp [CSt.out])
def fH (st : CSt) : CSt := match st.s, st.P with
 | none, P => ⟨P, none, st.M.tail⟩
 | some _, [] => ⟨[], none, st.M⟩
 | some c, _ :: P => ⟨P, some c, st.M⟩
theorem zv7 {st : CSt} (h : st.s = none -> st.P = []) : (fH st).out = st.out.tail := by
 obtain ⟨P, s, M⟩ := st;cases s with
 | none =>
   have hp : P = [] := h rfl;subst hp;simp [fH, CSt.out]
 | some c => cases P <;> simp [fH, CSt.out]
theorem zv8 (hk : dX rows) (M : List Int) : 0 <= dG (aD rows 1) M := by
 by_cases h : M = []
 ·subst h; exact qp _
 ·obtain ⟨m, _, e⟩ := zct (key := aD rows 1) h;rw [e]; exact hk m
theorem zv9 (ht : TabC rows) {d : List Int} (hr : ∀ x ∈ d, cE rows x = true) (hc : cX (aD rows 1) d) (hn : d ≠ []) : Wit rows d (fH (bG rows d)) := by
 revert hr hc hn
 induction d using iW with
 | h0 => intro _ _ hn; exact absurd rfl hn
 | h1 d r ih =>
   intro hr hc _;have hr1 : ∀ x ∈ d, cE rows x = true := fun x hx => hr x (by simp [hx]);have hc1 := (lL.1 hc).1;have hrr := hr r (by simp);by_cases hd0 : d = []
   ·subst hd0;refine ⟨[], fun x hx => (by cases hx), ?_, fun _ => rfl, trivial, fun x _ => trivial⟩;rw [gH];show _ = fH (cO (aD rows 1) ⟨[], none, []⟩ r);unfold cO;split <;> rfl
   ·have ih := ih hr1 hc1 hd0;have hP := sF (rows := rows) (d := d);have hon : (bG rows d).out ≠ [] := fun h => hd0 (zk3 h);rw [gH];generalize bG rows d = st at *
    have key : (fH (cA rows st r) = cA rows (fH st) r /\ (cA rows (fH st) r).out ≠ []) -> Wit rows (d ++ [r]) (fH (cA rows st r)) := fun ⟨h1, h2⟩ => by
     rw [h1]; exact ih.snoc hrr hc h2
    obtain ⟨P, s, M⟩ := st;cases s with
    | none =>
      obtain rfl : P = [] := hP rfl;cases M with
      | nil => exact absurd rfl hon
      | cons m M =>
        refine key ?_;have e1 : cA rows ⟨[], none, m :: M⟩ r = cO (aD rows 1) ⟨[], none, m :: M⟩ r := rfl;have e2 : cA rows (fH ⟨[], none, m :: M⟩) r = cO (aD rows 1) ⟨[], none, M⟩ r := rfl;rw [e1, e2, mO];refine ⟨?_, by simp⟩;unfold cO;split <;> simp [fH, CSt.out]
    | some c =>
      cases P with
      | cons p P =>
        refine key ?_;have e2 : fH ⟨p :: P, some c, M⟩ = ⟨P, some c, M⟩ := rfl;rw [e2, lK, lK];simp only;cases kA rows (some c) M r with
        | none => simp only; rw [mO]; refine ⟨?_, by simp⟩; unfold cO; split <;> simp [fH, CSt.out]
        | some c' => exact ⟨rfl, by simp [CSt.out]⟩
      | nil =>
        have e2 : fH ⟨[], some c, M⟩ = ⟨[], none, M⟩ := rfl;have e3 : cA rows ⟨[], none, M⟩ r = cO (aD rows 1) ⟨[], none, M⟩ r := rfl;cases hdec : kA rows (some c) M r with
        | none =>
          refine key ?_;rw [e2, e3, lK];simp only [hdec];rw [mO];refine ⟨?_, by simp⟩;unfold cO;split <;> simp [fH, CSt.out]
        | some c' =>
          obtain ⟨a, _, hp, hf⟩ := zcr hdec
          have e4 : fH (cA rows ⟨[], some c, M⟩ r) = ⟨[], none, M⟩ := by
           rw [lK]; simp only [hdec]; rfl
          rw [e4];rw [e2] at ih;obtain ⟨e, h1, h2, h3, h4, h5⟩ := ih;refine ⟨e, h1, h2, h3, h4, fun x hx => lL.2 ⟨h4, fun z hz hx0 => ?_⟩⟩;by_cases h0 : aD rows 1 r = 0
          ·have hl := zv8 ht.cls M;have hM : M = [] := hf.elim id fun h => by omega
           subst hM;have := h3 rfl;subst this;simp at hz
          ·have k1 := (lL.1 (h5 r hc)).2 z hz h0;have k2 := zcs hx hx0;omega
theorem zwa {d : List Int} (hr : ∀ x ∈ d, cE rows x = true) (hc : cX (aD rows 1) d) (hn : (bG rows d).s ≠ none) : ∃ e, (∀ x ∈ e, cE rows x = true) /\ cX (aD rows 1) e /\ (bG rows e).out = (bG rows d).P := by
 revert hr hc hn
 induction d using iW with
 | h0 => intro _ _ hn; exact absurd rfl hn
 | h1 d r ih =>
   intro hr hc;have hr1 : ∀ x ∈ d, cE rows x = true := fun x hx => hr x (by simp [hx]);have hc1 := (lL.1 hc).1;have ih := ih hr1 hc1;rw [gH, lK];cases hd : kA rows (bG rows d).s (bG rows d).M r with
   | none =>
     simp only;unfold cO;split
     ·intro _; exact ⟨d, hr1, hc1, rfl⟩
     ·exact ih
   | some c =>
     obtain ⟨a, hs, _⟩ := zcr hd;intro _;exact ih (by rw [hs]; simp)
theorem Comp.nil : Comp rows [] := ⟨[], fun x hx => (by cases hx), trivial, rfl⟩
theorem Comp.tail (ht : TabC rows) {s : List Int} (h : Comp rows s) : Comp rows s.tail := by
 obtain ⟨d, h1, h2, rfl⟩ := h;by_cases hd : d = []
 ·subst hd; exact .nil
 ·obtain ⟨e, k1, k2, _, k4, _⟩ := zv9 ht h1 h2 hd;exact ⟨e, k1, k4, by unfold gG; rw [k2, zv7 sF]⟩
theorem Comp.dropLast (ht : TabC rows) {s : List Int} (h : Comp rows s) : Comp rows s.dropLast := by
 obtain ⟨d, h1, h2, rfl⟩ := h;unfold gG;by_cases hM : (bG rows d).M = []
 ·cases hs : (bG rows d).s with
  | none =>
    have : (bG rows d).out = [] := by simp [CSt.out, sF hs, hs, hM]
    rw [this]; exact .nil
  | some c =>
    obtain ⟨e, k1, k2, k3⟩ := zwa h1 h2 (by rw [hs]; simp);refine ⟨e, k1, k2, ?_⟩;unfold gG;rw [k3];simp [CSt.out, hs, hM]
 ·obtain ⟨e, k1, k2, _, k4, _⟩ := zv6 ht h1 h2 hM;refine ⟨e, k1, k4, ?_⟩;unfold gG;rw [k2];simp only [CSt.out];rw [qas (by simp [hM]), qas hM]
theorem Comp.drop (ht : TabC rows) {s : List Int} (h : Comp rows s) : ∀ k, Comp rows (s.drop k)
 | 0 => h
 | k + 1 => by
   have := (Comp.drop ht h k).tail ht;rwa [List.tail_drop] at this
theorem Comp.take (ht : TabC rows) {s : List Int} (h : Comp rows s) (k : Nat) : Comp rows (s.take k) := by
 have : ∀ n, Comp rows (s.take (s.length - n)) := by
  intro n
  induction n with
  | zero => rw [Nat.sub_zero, qbb]; exact h
  | succ n ih =>
    have := ih.dropLast ht;rw [List.dropLast_eq_take, List.take_take, qn] at this;rwa [show min (min (s.length - n) s.length - 1) (s.length - n) = s.length - (n + 1) by omega] at this
 by_cases hk : k <= s.length
 ·have := this (s.length - k);rwa [show s.length - (s.length - k) = k by omega] at this
 ·rw [qh (by omega)]; exact h
end
end Go.Eng.Rows
namespace Go.Eng
open Go Go.Proofs
section
variable (a b : Int)
def zk4 (R : PV -> Prop) : Prop :=
 if (decide (a >= 4352) && decide (a < 4371) && decide (b >= 4449) && decide (b < 4470)) = true then R (PV.tup [Z3 (i32.wrap ((44032 : Int) + i32.wrap (i32.wrap (i32.wrap (i32.wrap (i32.wrap (a - 4352) * 21) + b) - 4449) * 28))), Zb true]) else PCall qa 167 [Z3 a] fun v => ∃ b1, v = Zb b1 /\ if (b1 && (i32.wrap (a - 44032)).tmod (28 : Int) == 0 && decide (b > 4519) && decide (b < 4547)) = true then R (PV.tup [Z3 (i32.wrap (i32.wrap (a + b) - 4519)), Zb true]) else R (PV.tup [Z3 0, Zb false])
theorem zwb {R : PV -> Prop} (h : zk4 a b R) : PCall qa 146 [.int .i32 a, .int .i32 b] R :=
 PCall.wz Tryz.func146 aP [0, 1, 4, 5, 6, 29] aW h
end
section
variable (tc tg tj tf tp : PV) (M S : List (PV × PV)) (a b : Int)
def zk5 (R : PV -> Prop) : Prop :=
 PCall qa 146 [Z3 a, Z3 b] fun v => ∃ vs, v = PV.tup vs /\ vs.length = 2 /\ ∃ x, vs.head? = some x /\ ∃ n, x = Z3 n /\ ∃ x1, vs.tail.head? = some x1 /\ ∃ b1, x1 = Zb b1 /\ if b1 = true then R (PV.tup [Z3 n, Zb true]) else PCall qa 147 [PV.ptr [tc, tg, tj, tf, tp, PV.mp M, PV.mp S], Z3 a, Z3 b] fun v1 => ∃ vs1, v1 = PV.tup vs1 /\ vs1.length = 2 /\ ∃ x2, vs1.head? = some x2 /\ ∃ n1, x2 = Z3 n1 /\ ∃ x3, vs1.tail.head? = some x3 /\ ∃ b2, x3 = Zb b2 /\ R (PV.tup [Z3 n1, Zb b2])
theorem zwc {R : PV -> Prop} (h : zk5 tc tg tj tf tp M S a b R) : PCall qa 121 [.ptr [tc, tg, tj, tf, tp, .mp M, .mp S], .int .i32 a, .int .i32 b] R :=
 PCall.wz Tryz.func121 aP [0, 1, 2, 6, 7, 8, 9, 16] aW h
end
def zcu (tc tg tj tf tp : PV) (M S : List (PV × PV)) (n f : Bool) (es : LL) (x6 x7 x16 : Int) (n_0 : Bool) (s_0 : LL) : Env × Hp := ([(0, LV.pv (PV.ptr [tc, tg, tj, tf, tp, PV.mp M, PV.mp S])), (5, LV.own 0), (6, Y6 x6), (7, Y6 x7), (14, LV.pv (PV.sl n f es)), (15, Y6 ↑es.length), (16, Y6 x16)], [.sl (21, 1) true n_0 s_0])
section
variable (tc tg tj tf tp : PV) (M S : List (PV × PV)) (n f : Bool) (es : LL) (J : Int -> Int -> Int -> Bool -> LL -> Prop) (μ : Int -> Int -> Int -> Bool -> LL -> Nat)
def zk6 (R : PV -> Prop) : Prop :=
 (aG (zcu tc tg tj tf tp M S n f es (-1 : Int) (0 : Int) (0 : Int) true []) /\ J (-1 : Int) (0 : Int) (0 : Int) true []) /\ ∀ (x6 x7 x16 : Int) (n_0 : Bool) (s_0 : LL), J x6 x7 x16 n_0 s_0 ->
 let K5 := fun (y0_ y1_ y2_ : Int) (y3_ : Bool) (y4_ : LL) => aG (zcu tc tg tj tf tp M S n f es y0_ y1_ y2_ y3_ y4_) /\ J y0_ y1_ y2_ y3_ y4_ /\ μ y0_ y1_ y2_ y3_ y4_ < μ x6 x7 x16 n_0 s_0; if decide (x16 < (↑es.length :
  Int)) = true then aI es x16 1 /\ ∃ n1, (es.getD x16.toNat []).head? = some (Z3 n1) /\ PCall qa 93 [PV.ptr [tc, tg, tj, tf, tp, PV.mp M, PV.mp S], Z3 n1] fun v => ∃ n2, v = Z6 n2 /\
 let V1 := if (n2 == 0) = true then (aQ [[Z3 n1]] 1 /\ (s_0.length + 1) * 4 <= 140737488355328) /\ K5 (↑s_0.length : Int) n2 (i64.wrap (x16 + 1)) (n_0 && false) (s_0 ++ [[Z3 n1]]) else (aQ [[Z3 n1]] 1 /\ (s_0.length + 1) * 4 <=
  140737488355328) /\ K5 x6 n2 (i64.wrap (x16 + 1)) (n_0 && false) (s_0 ++ [[Z3 n1]]); if (decide (x6 >= 0) && (x6 == i64.wrap ((↑s_0.length : Int) - 1) || x7 != 0 && decide (x7 < n2))) = true then aI s_0 x6 1 /\ ∃ (n3 :
  Int), (qk 0 (s_0.getD x6.toNat [])).head? = some (Z3 n3) /\ PCall qa 121 [PV.ptr [tc, tg, tj, tf, tp, PV.mp M, PV.mp S], Z3 n3, Z3 n1] fun v1 => ∃ vs, v1 = PV.tup vs /\ vs.length = 2 /\ ∃ x, vs.head? =
  some x /\ ∃ n4, x = Z3 n4 /\ ∃ x1, vs.tail.head? = some x1 /\ ∃ b, x1 = Zb b /\ if b = true then aI s_0 x6 1 /\ (1 = 1 /\ 1 <= (s_0.getD x6.toNat []).length) /\ K5 x6 x7 (i64.wrap (x16 + 1)) n_0 (s_0.set
  x6.toNat (Z3 n4 :: zq (qk 1 (s_0.getD x6.toNat [])))) else V1 else V1 else R (PV.sl n_0 false s_0)
theorem zwd {R : PV -> Prop} (h : zk6 tc tg tj tf tp M S n f es J μ R) : PCall qa 95 [.ptr [tc, tg, tj, tf, tp, .mp M, .mp S], .sl n f es] R :=
 PCall.wz Tryz.func95 aP [0, 1, 4, 5, 6, 7, 9, 10, 11, 12, 13, 14, 15, 16, 17, 41, 52, 58] (bY 5 (a8 cz5 (zcu tc tg tj tf tp M S n f es) J μ (fun e h => (gI e 6, gI e 7, gI e 16, oN h 0, oS h 0)) [(5, 21, 1)] [0, 5, 6, 7, 14, 15, 16] [])) h
end
section
variable (tc tg tj tf tp : PV) (M S : List (PV × PV)) (n f : Bool) (es : LL)
def zk7 (R : PV -> Prop) : Prop :=
 PCall qa 96 [PV.ptr [tc, tg, tj, tf, tp, PV.mp M, PV.mp S], PV.sl n f es] fun v => ∃ n1 f1 es1, v = PV.sl n1 f1 es1 /\ PCall qa 95 [PV.ptr [tc, tg, tj, tf, tp, PV.mp M, PV.mp S], PV.sl n1 f1 es1] fun v1 => ∃ n2 f2 es2, v1 = PV.sl n2 f2 es2 /\ R (PV.sl n2 f2 es2)
theorem zwe {R : PV -> Prop} (h : zk7 tc tg tj tf tp M S n f es R) : PCall qa 60 [.ptr [tc, tg, tj, tf, tp, .mp M, .mp S], .sl n f es] R :=
 PCall.wz Tryz.func60 aP [0, 1, 4] aW h
end
end Go.Eng
namespace Go.Eng
open Go Go.Proofs Go.Eng.Rows Go.Eng.Trie Go.Eng.Srt
def kB : Option Int -> PV
 | some r => .tup [.int .i32 r, .bool true]
 | none => .tup [.int .i32 0, .bool false]
theorem zwf {a b : Int} (ha : -2147483648 <= a /\ a <= 2147483647) (hb : -2147483648 <= b /\ b <= 2147483647) : PCall qa 146 [.int .i32 a, .int .i32 b] fun v => v = kB (eB a b) := by
 refine zwb _ _ ?_; unfold zk4;refine aC (fun hc => ?_) (fun hc => ?_)
 ·simp only [qc, aB, ge_iff_le] at hc;have w1 : i32.wrap (a - 4352) = a - 4352 := cW (by omega) (by omega);have w2 : i32.wrap ((a - 4352) * 21) = (a - 4352) * 21 := cW (by omega) (by omega);have w3 : i32.wrap ((a - 4352) * 21 + b) = (a - 4352) * 21 + b := cW (by omega) (by omega);have w4 : i32.wrap ((a - 4352) * 21 + b - 4449) = (a - 4352) * 21 + b - 4449 := cW (by omega) (by omega);have w5 : i32.wrap (((a - 4352) * 21 + b - 4449) * 28) = ((a - 4352) * 21 + b - 4449) * 28 := cW (by omega) (by omega);have w6 : i32.wrap (44032 + ((a - 4352) * 21 + b - 4449) * 28) = 44032 + ((a - 4352) * 21 + b - 4449) * 28 := cW (by omega) (by omega);rw [w1, w2, w3, w4, w5, w6];unfold eB;rw [if_pos (by omega)];simp only [kB];rw [show (a - 4352) * 21 + b - 4449 = (a - 4352) * 21 + (b - 4449) by omega]
 ·simp only [qc, aB, ge_iff_le] at hc;refine (zj2 a).mono ?_;rintro _ rfl;refine ⟨_, rfl, ?_⟩;have hn : ¬ ((4352 <= a /\ a < 4371) /\ 4449 <= b /\ b < 4470) := by omega
  cases hs : bM a with
  | false =>
    refine bD (by simp) ?_;unfold eB; rw [if_neg hn, if_neg (by rw [hs]; simp)]; rfl
  | true =>
    have hr := hs;simp only [bM, qc, aB] at hr;have w1 : i32.wrap (a - 44032) = a - 44032 := cW (by omega) (by omega);have e3 : (a - 44032).tmod 28 = (a - 44032) % 28 := qak (by omega);rw [w1, e3];refine aC (fun h2 => ?_) (fun h2 => ?_)
    ·simp only [qc, aB, gt_iff_lt, beq_iff_eq, qae] at h2;have w2 : i32.wrap (a + b) = a + b := cW (by omega) (by omega);have w3 : i32.wrap (a + b - 4519) = a + b - 4519 := cW (by omega) (by omega);rw [w2, w3];unfold eB; rw [if_neg hn, if_pos ⟨⟨hs, h2.1.1⟩, h2.1.2, h2.2⟩];simp only [kB];rw [show a + b - 4519 = a + (b - 4519) by omega]
    ·simp only [qc, aB, gt_iff_lt, beq_iff_eq, qae] at h2;unfold eB; rw [if_neg hn, if_neg (by omega)]; rfl
section
variable {rows : List Row} {v : PV}
theorem zwg (hp : cU rows) (h1 : dB rows) (hv : dV rows v) {a b : Int} (ha : -2147483648 <= a /\ a <= 2147483647) (hb : -2147483648 <= b /\ b <= 2147483647) : PCall qa 121 [v, .int .i32 a, .int .i32 b] fun x => x = kB (eW rows a b) := by
 obtain ⟨tc, tg, tj, tf, tp, made, sec, rfl, ht, hm⟩ := hv;refine zwc _ _ _ _ _ _ _ _ _ ?_; unfold zk5;refine (zwf ha hb).mono ?_;rintro _ rfl;unfold eW;cases eB a b with
 | some r =>
   exact ⟨_, rfl, rfl, _, rfl, _, rfl, _, rfl, _, rfl, bA rfl rfl⟩
 | none =>
   refine ⟨_, rfl, rfl, _, rfl, _, rfl, _, rfl, _, rfl, bD (by simp) ?_⟩;refine (zua _ _ _ _ _ _ made a b).mono ?_;rintro _ rfl;rw [<- zv3 hp h1 hm a b];unfold vE;split
   ·exact ⟨_, rfl, rfl, _, rfl, _, rfl, _, rfl, _, rfl, rfl⟩
   ·cases bV (a, b) made with
    | none => exact ⟨_, rfl, rfl, _, rfl, _, rfl, _, rfl, _, rfl, rfl⟩
    | some r => exact ⟨_, rfl, rfl, _, rfl, _, rfl, _, rfl, _, rfl, rfl⟩
def c6 (st : CSt) : Int := match st.s with | none => -1 | some _ => st.P.length
theorem zk8 {d : List Int} : ∀ m ∈ (bG rows d).M, aD rows 1 m ≠ 0 := by
 induction d using iW with
 | h0 => intro m hm; cases hm
 | h1 d r ih =>
   rw [gH];rcases pO rows (bG rows d) r with e | ⟨a, c, hs, hp, _, e⟩
   ·rw [e];unfold cO;split
    ·intro m hm; cases hm
    ·rename_i h0;intro m hm;rcases List.mem_append.1 hm with hm | hm
     ·exact ih m hm
     ·rw [qav] at hm; subst hm; exact h0
   ·rw [e]; exact ih
def JC (rows : List Row) (L : List Int) (x6 x7 i : Int) (s : List (List PV)) : Prop := (0 <= i /\ i <= L.length) /\ s = aA (bG rows (L.take i.toNat)).out /\ x6 = c6 (bG rows (L.take i.toNat)) /\ x7 = dG (aD rows 1) (bG rows (L.take i.toNat)).M
theorem JC.next {L : List Int} {i : Int} (h0 : 0 <= i) (hi : i.toNat < L.length) {st : CSt} (he : cA rows (bG rows (L.take i.toNat)) L[i.toNat] = st) : JC rows L (c6 st) (dG (aD rows 1) st.M) (i + 1) (aA st.out) := by
 have e : bG rows (L.take (i + 1).toNat) = st := by
  rw [show (i + 1).toNat = i.toNat + 1 by omega, c5 hi, gH, he]
 exact ⟨⟨by omega, by omega⟩, by rw [e], by rw [e], by rw [e]⟩
theorem zwh (hp : cU rows) (h1 : dB rows) (hv : dV rows v) (n f : Bool) (L : List Int) (hr : R32 L) (hL : L.length < 1000000000000) : PCall qa 95 [v, .sl n f (aA L)] fun x => ∃ n f, x = .sl n f (aA (gG rows L)) := by
 have hv' := hv;obtain ⟨tc, tg, tj, tf, tp, made, sec, rfl, ht, hm⟩ := hv;refine zwd _ _ _ _ _ _ _ _ _ _ (fun x6 x7 i _ s => JC rows L x6 x7 i s) (fun _ _ i _ _ => L.length - i.toNat) ?_;unfold zk6;refine ⟨⟨rfl, ⟨qp _, by omega⟩, rfl, rfl, rfl⟩, ?_⟩;rintro x6 x7 i n0 _ ⟨⟨i0, i1⟩, rfl, rfl, rfl⟩;refine aC (fun hc => ?_) (fun hc => ?_)
 ·simp only [aB, bH] at hc;have hi : i.toNat < L.length := by omega
  obtain ⟨g1, g2⟩ := gE i0 hi;have hx := hr _ (qg hi);have hw : i64.wrap (i + 1) = i + 1 := aF (by omega) (by omega);refine ⟨g1, L[i.toNat], by rw [g2]; rfl, ?_⟩;refine (vD _ _ ht hx).mono ?_;rintro _ rfl;refine ⟨_, rfl, ?_⟩;rw [hw];have hlen := zcp rows (L.take i.toNat);have hrng := zcq h1 (L.take i.toNat);have hnz := zk8 (rows := rows) (d := L.take i.toNat);have hnP := sF (rows := rows) (d := L.take i.toNat);rw [qn] at hlen;unfold gG at hlen hrng;have next := fun st => JC.next (rows := rows) (st := st) i0 hi
  generalize bG rows (L.take i.toNat) = st at *;have hmu : L.length - (i + 1).toNat < L.length - i.toNat := by omega
  have hsz : aQ [[PV.int .i32 L[i.toNat]]] 1 /\ ((aA st.out).length + 1) * 4 <= 140737488355328 := ⟨dO [_], by rw [bH]; omega⟩;have hout : aA st.out ++ [[PV.int .i32 L[i.toNat]]] = aA (st.out ++ [L[i.toNat]]) := by rw [fV]; rfl
  have hl : ((aA st.out).length : Int) = st.out.length := by rw [bH]
  have app0 : cA rows st L[i.toNat] = cO (aD rows 1) st L[i.toNat] -> aD rows 1 L[i.toNat] = 0 -> JC rows L (aA st.out).length (aD rows 1 L[i.toNat]) (i + 1) (aA st.out ++ [[PV.int .i32 L[i.toNat]]]) := fun he h0 => by
   have := next _ (he.trans (by unfold cO; rw [if_pos h0]))
   rw [hout, hl, h0];simpa [c6, dG, CSt.out] using this
  have app1 : cA rows st L[i.toNat] = cO (aD rows 1) st L[i.toNat] -> aD rows 1 L[i.toNat] ≠ 0 -> JC rows L (c6 st) (aD rows 1 L[i.toNat]) (i + 1) (aA st.out ++ [[PV.int .i32 L[i.toNat]]]) := fun he h0 => by
   have := next _ (he.trans (by unfold cO; rw [if_neg h0]))
   rw [hout];simp only [sE] at this;have e2 : st.out ++ [L[i.toNat]] = CSt.out ⟨st.P, st.s, st.M ++ [L[i.toNat]]⟩ := by simp [CSt.out]
   rw [e2];exact this
  refine aC (fun hf => ?_) (fun hf => ?_)
  ·simp only [qc, aB, qm, beq_iff_eq, bne_iff_ne, ne_eq, ge_iff_le] at hf;obtain ⟨hf1, hf2⟩ := hf;cases hs : st.s with
   | none => simp [c6, hs] at hf1
   | some a =>
     have hsi : c6 st = st.P.length := by simp [c6, hs]
     have hol : st.out.length = st.P.length + 1 + st.M.length := by simp [CSt.out, hs]; omega
     have hw2 : i64.wrap ((aA st.out).length - 1) = st.out.length - 1 := by rw [hl]; exact aF (by omega) (by omega)
     have hfree : st.M = [] ∨ dG (aD rows 1) st.M < aD rows 1 L[i.toNat] := by
      rcases hf2 with h | h
      ·rw [hw2, hsi] at h;exact .inl (qt (by omega))
      ·exact .inr h.2
     have hat : st.out[st.P.length]'(by omega) = a := by simp [CSt.out, hs]
     obtain ⟨k1, k2⟩ := gE (l := st.out) (i := c6 st) (by omega) (by omega);have hta : (c6 st).toNat = st.P.length := by omega
     have k3 : (aA st.out).getD (c6 st).toNat [] = [PV.int .i32 a] := by
      rw [k2]; simp only [hta, hat]
     have ha : -2147483648 <= a /\ a <= 2147483647 := by
      rcases hrng a (by simp [CSt.out, hs]) with h | h
      ·exact hr a (qai h)
      ·omega
     refine ⟨k1, a, by rw [k3]; rfl, ?_⟩;refine (zwg hp h1 hv' ha hx).mono ?_;rintro _ rfl;cases hpc : eW rows a L[i.toNat] with
     | some c =>
       refine ⟨_, rfl, rfl, _, rfl, _, rfl, _, rfl, _, rfl, bA rfl ⟨k1, ⟨rfl, by rw [k3]; exact qo _⟩, rfl, ?_, by dsimp only; omega⟩⟩;rw [k3, hta]
       have he : cA rows st L[i.toNat] = ⟨st.P, some c, st.M⟩ := by
        unfold cA; rw [hs]; simp only; rw [if_pos hfree, hpc]
       have := next _ he
       have e2 : (aA st.out).set st.P.length [PV.int .i32 c] = aA (CSt.out ⟨st.P, some c, st.M⟩) := by
        simp [CSt.out, hs, aA]
       have e3 : c6 ⟨st.P, some c, st.M⟩ = c6 st := by rw [hsi]; rfl
       rw [e3] at this;show JC rows L (c6 st) (dG (aD rows 1) st.M) (i + 1) ((aA st.out).set st.P.length [PV.int .i32 c]);rw [e2];exact this
     | none =>
       have he : cA rows st L[i.toNat] = cO (aD rows 1) st L[i.toNat] := by
        unfold cA; rw [hs]; simp only; rw [if_pos hfree, hpc]
       refine ⟨_, rfl, rfl, _, rfl, _, rfl, _, rfl, _, rfl, bD (by simp) (aC (fun h0 => ?_) (fun h0 => ?_))⟩
       ·exact ⟨hsz, rfl, app0 he (by simpa using h0), by dsimp only; omega⟩
       ·exact ⟨hsz, rfl, app1 he (by simpa using h0), by dsimp only; omega⟩
  ·simp only [qc, aB, qm, beq_iff_eq, bne_iff_ne, ne_eq, ge_iff_le] at hf
   have he : cA rows st L[i.toNat] = cO (aD rows 1) st L[i.toNat] := by
    rcases pO rows st L[i.toNat] with e | ⟨a, c, hs, hpc, hfree, e⟩
    ·exact e
    ·have hsi : c6 st = st.P.length := by simp [c6, hs]
     have hol : st.out.length = st.P.length + 1 + st.M.length := by simp [CSt.out, hs]; omega
     have hw2 : i64.wrap ((aA st.out).length - 1) = st.out.length - 1 := by rw [hl]; exact aF (by omega) (by omega)
     refine absurd ⟨by omega, ?_⟩ hf;by_cases hM : st.M = []
     ·left; rw [hw2, hsi, hol, hM]; simp
     ·right;obtain ⟨m, hm, e⟩ := zct (key := aD rows 1) hM;exact ⟨by rw [e]; exact hnz m hm, hfree.elim (fun e => absurd e hM) id⟩
   refine aC (fun h0 => ?_) (fun h0 => ?_)
   ·exact ⟨hsz, rfl, app0 he (by simpa using h0), by dsimp only; omega⟩
   ·exact ⟨hsz, rfl, app1 he (by simpa using h0), by dsimp only; omega⟩
 ·simp only [aB, bH] at hc;rw [qh (by omega)];exact ⟨_, _, rfl⟩
theorem zk9 (hp : cU rows) (h1 : dB rows) (hk : dX rows) (hv : dV rows v) (n f : Bool) (L : List Int) (hr : R32 L) (hL : L.length < 1000000) : PCall qa 60 [v, .sl n f (aA L)] fun x => ∃ n f, x = .sl n f (aA (cC rows L)) := by
 have hv' := hv;obtain ⟨tc, tg, tj, tf, tp, made, sec, rfl, ht, hm⟩ := hv;refine zwe _ _ _ _ _ _ _ _ _ _ ?_; unfold zk7;refine (zv2 hp hk hv' n f L hr hL).mono ?_;rintro _ ⟨n1, f1, rfl⟩;refine ⟨_, _, _, rfl, ?_⟩;refine (zwh hp h1 hv' _ _ _ (vU hk hp hr) (zk0 hk hL)).mono ?_;rintro _ ⟨n2, f2, rfl⟩;exact ⟨_, _, _, rfl, _, _, rfl⟩
theorem vY (hp : cU rows) (h1 : dB rows) (hk : dX rows) {l : List Int} (h : R32 l) : R32 (cC rows l) := fun x hx => by
 rcases zcq h1 _ x hx with h2 | h2
 ·exact vU hk hp h x h2
 ·omega
theorem sG (hk : dX rows) (l : List Int) : (cC rows l).length <= 768 * l.length := Nat.le_trans (zcp rows _) (zcj hk l)
end
theorem v22 : Tryz.prog.underlying 22 = some (.slice 21) := by kernel_rfl
theorem v21 : Tryz.prog.underlying 21 = some (.int .i32) := by kernel_rfl
theorem vZ {v : PV} (h : nB qa 8 22 v) : ∃ nl l, v = .sl nl false (aA l) /\ R32 l := by
 obtain ⟨nl, l, e, hl, _, hr⟩ := zgq v22 v21 (zgr (by kernel_rfl) h);cases e;exact ⟨nl, l, rfl, hr⟩
end Go.Eng
namespace Go.Eng.Rows
open Go Go.Eng Go.Eng.Trie Go.Eng.Srt
def eI (L : List Int) (a b : Nat) : List Int := (L.take b).drop a
def zwi (rows : List Row) (L want : List Int) (a b : Nat) : Bool := decide (eH rows (eI L a b) = want)
def fTo (p : Nat -> Bool) (b : Nat) : Nat -> Option Nat
 | 0 => none
 | k + 1 => if p b then some b else fTo p (b + 1) k
def zla (rows : List Row) (L want : List Int) (a : Nat) : Nat -> Option (Nat × Nat)
 | 0 => none
 | k + 1 => match fTo (zwi rows L want a) a (L.length + 1 - a) with
   | some b => some (a, b)
   | none => zla rows L want (a + 1) k
def findL (rows : List Row) (L want : List Int) : Option (Nat × Nat) := zla rows L want 0 (L.length + 1)
end Go.Eng.Rows
namespace Go.Eng
open Go Go.Proofs
end Go.Eng
namespace Go.Eng
open Go Go.Proofs Go.Eng.Rows Go.Eng.Trie Go.Eng.Srt
theorem sH (l : List Int) (k : Nat) : (l.take k).length <= k := by rw [qn]; omega
theorem zlb {len : Nat} {i j : Int} (h0 : 0 <= i) (h1 : i <= j) (h2 : j <= len) : fA len (some i) (some j) none := ⟨h0, h1, h2, trivial⟩
theorem zlc (L : List Int) (i j : Nat) : qk i (qaw j (aA L)) = aA (eI L i j) := by simp [aA, eI]
theorem R32.sub {L : List Int} (h : R32 L) (i j : Nat) : R32 (eI L i j) := fun x hx => h x (qai (List.mem_of_mem_drop hx))
theorem zwj (L : List Int) (i j : Nat) : (eI L i j).length <= L.length := by unfold eI; rw [List.length_drop, qn]; omega
theorem w3 : Tryz.prog.underlying 3 = some (.int .i64) := by kernel_rfl
end Go.Eng

namespace Go.Eng.Srt
open Go Go.Eng
section
variable {key : Int -> Int} (hk : ∀ x, 0 <= key x)
include hk
end
end Go.Eng.Srt
namespace Go.Eng.Rows
open Go Go.Eng Go.Eng.Trie Go.Eng.Srt
section
variable {rows : List Row}
def CSt.pre (Q : List Int) (st : CSt) : CSt := ⟨Q ++ st.P, st.s, st.M⟩
end
end Go.Eng.Rows

namespace Go.Eng.Rows
open Go Go.Eng Go.Eng.Trie Go.Eng.Srt
theorem zwk {L : List Int} {j b : Nat} (h : j <= b) (hb : b <= L.length) : L.drop j = eI L j b ++ L.drop b := by
 have h1 : L = L.take b ++ L.drop b := (List.take_append_drop b L).symm;have h2 : L.drop j = (L.take b ++ L.drop b).drop j := by rw [<- h1]
 rw [h2, qat (by rw [qn]; omega)]; rfl
theorem zwl {L : List Int} {a i : Nat} (h : a < i) (hi : i <= L.length) : eI L a i = L.getD a 0 :: eI L (a + 1) i := by
 unfold eI;rw [qy (by rw [qn]; omega), List.getElem_take];simp only [qar, qz (show a < L.length by omega), qbo]
theorem drop_cons {L : List Int} {b : Nat} (h : b < L.length) : L.drop b = L.getD b 0 :: L.drop (b + 1) := by
 rw [qy h];simp only [qar, qz h, qbo]
section
variable {rows : List Row}
end
section
variable (p : List Int -> Option (Nat × Nat)) (ls : List (List Int)) (s : Int)
end
section
variable {p : List Int -> Option (Nat × Nat)} {ls : List (List Int)} {s : Int}
end
section
variable (p : List Int -> Option (Nat × Nat)) (L : List Int)
end
def Inc (n : Nat) : Nat -> List (Nat × Nat) -> Prop
 | i, [] => i <= n
 | i, (a, b) :: ps => i <= a /\ a < b /\ Inc n b ps
theorem Inc.le {n : Nat} : ∀ {ps : List (Nat × Nat)} {i : Nat}, Inc n i ps -> i <= n
 | [], i, h => h
 | (a, b) :: ps, i, h => by have := h.2.2.le; have := h.1; have := h.2.1; omega
theorem Inc.len {n : Nat} : ∀ {ps : List (Nat × Nat)} {i : Nat}, Inc n i ps -> ps.length + i <= n
 | [], i, h => by have : i <= n := h; simpa using this
 | (a, b) :: ps, i, h => by have := h.2.2.len; have := h.1; have := h.2.1; rw [ql]; omega
section
variable {p : List Int -> Option (Nat × Nat)} {L : List Int}
end
def aL (rows : List Row) (r : Int) : Int := if 44032 <= r /\ r <= 55203 then (if (r - 44032).tmod 28 = 0 then 12 else 13) else aD rows 4 r
def bS (rows : List Row) (r : Int) : Int := if aD rows 6 r ≠ 0 then aD rows 6 r else if (aL rows r = 4 ∨ aL rows r = 5) /\ r ≠ 8204 then 3 else 0
def cV (b : Int) : Bool := decide (b = 3) || (decide (b = 1) || decide (b = 2))
def nU (a b : Int) : Bool :=
 if a = 9 then decide (b = 9) || (decide (b = 10) || (decide (b = 12) || decide (b = 13)))
 else if a = 12 ∨ a = 10 then decide (b = 10) || decide (b = 11)
 else if a = 13 ∨ a = 11 then decide (b = 11) else false
def iB (a b : Int) : Bool :=
 if a = 1 then decide (b = 2) else if a = 2 ∨ a = 3 then false
 else if b = 1 ∨ b = 2 ∨ b = 3 then false else if b = 4 ∨ b = 5 ∨ b = 8 then true
 else if a = 7 then true else nU a b
structure SSt where
 (some : Bool) (last pict conj : Int) (odd : Bool)
def dQ (rows : List Row) (st : SSt) (r : Int) : SSt :=
 ⟨true, aL rows r,
  if bR rows 5 r = true then 1 else if st.pict = 1 /\ aL rows r = 4 then 1 else if st.pict = 1 /\ aL rows r = 5 then 2 else 0,
  if bS rows r = 2 then 1 else if st.conj ≠ 0 /\ bS rows r = 1 then 2 else if st.conj ≠ 0 /\ bS rows r = 3 then st.conj else 0,
  decide (aL rows r = 6) && !st.odd⟩
def sI (rows : List Row) (st : SSt) (r : Int) : Bool :=
 !iB st.last (aL rows r) && (!(decide (st.pict = 2) && bR rows 5 r) && (!(decide (st.conj = 2) && decide (bS rows r = 2)) && !(st.odd && decide (aL rows r = 6))))
def pP (rows : List Row) (st : SSt) (r : Int) : Bool := !st.some || sI rows st r
def st0 : SSt := ⟨false, 0, 0, 0, false⟩
def aY (rows : List Row) (L : List Int) (a : Nat) : Nat -> SSt
 | 0 => st0
 | k + 1 => dQ rows (aY rows L a k) (L.getD (a + k) 0)
def fI (rows : List Row) (L : List Int) (i : Nat) : Bool := pP rows (aY rows L 0 i) (L.getD i 0)
structure eC (rows : List Row) : Prop where
 pict : ∀ r, bR rows 5 r = true -> cV (aL rows r) = false /\ aL rows r ≠ 5
 conj : ∀ r, bS rows r = 0 ∨ bS rows r = 1 ∨ bS rows r = 2 ∨ bS rows r = 3
 cons : ∀ r, bS rows r ≠ 0 -> cV (aL rows r) = false
 join : ∀ r, bS rows r = 1 ∨ bS rows r = 3 -> aL rows r = 4 ∨ aL rows r = 5 ∨ aL rows r = 8
theorem zwm {a b : Int} (h : cV a = true ∨ cV b = true) (h2 : ¬(a = 1 /\ b = 2)) : iB a b = false := by
 unfold cV at h;simp only [qm, aB] at h;unfold iB;by_cases h1 : a = 1
 ·rw [if_pos h1]; exact decide_eq_false fun h3 => h2 ⟨h1, h3⟩
 ·rw [if_neg h1];by_cases h3 : a = 2 ∨ a = 3
  ·rw [if_pos h3]
  ·rw [if_neg h3, if_pos (by omega)]
theorem zwn {a b : Int} (h : cV a = false) (h2 : cV b = false) (h3 : b = 4 ∨ b = 5 ∨ b = 8) : iB a b = true := by
 unfold cV at h h2;simp only [qaa, cY] at h h2;unfold iB;rw [if_neg h.2.1, if_neg (by omega), if_neg (by omega), if_pos h3]
section
variable {rows : List Row} {L : List Int}
theorem zcv {a k : Nat} : (aY rows L a (k + 1)).last = aL rows (L.getD (a + k) 0) := rfl
theorem zwo {a k : Nat} : (aY rows L a (k + 1)).some = true := rfl
theorem zld {a : Nat} (ht : eC rows) : ∀ k, (aY rows L a k).pict ≠ 0 -> cV (aY rows L a k).last = false
 | 0, h => absurd rfl h
 | k + 1, h => by
   rw [zcv];by_cases h1 : bR rows 5 (L.getD (a + k) 0) = true
   ·exact (ht.pict _ h1).1
   ·have h' : (if (aY rows L a k).pict = 1 /\ aL rows (L.getD (a + k) 0) = 4 then (1 : Int) else if (aY rows L a k).pict = 1 /\ aL rows (L.getD (a + k) 0) = 5 then 2 else 0) ≠ 0 := by
     have h2 : (dQ rows (aY rows L a k) (L.getD (a + k) 0)).pict ≠ 0 := h;unfold dQ at h2; simp only [if_neg h1] at h2; exact h2
    have : aL rows (L.getD (a + k) 0) = 4 ∨ aL rows (L.getD (a + k) 0) = 5 := by
     split at h'
     ·rename_i h3; exact .inl h3.2
     ·split at h'
      ·rename_i h3; exact .inr h3.2
      ·exact absurd rfl h'
    unfold cV;rcases this with e | e <;> rw [e] <;> rfl
theorem zle {a : Nat} (ht : eC rows) : ∀ k, (aY rows L a k).conj ≠ 0 -> cV (aY rows L a k).last = false
 | 0, h => absurd rfl h
 | k + 1, h => by
   rw [zcv];apply ht.cons;intro h0;apply h;show (dQ rows (aY rows L a k) (L.getD (a + k) 0)).conj = 0;unfold dQ;simp only [h0];rw [if_neg (by decide), if_neg (fun h => absurd h.2 (by decide)), if_neg (fun h => absurd h.2 (by decide))]
theorem zlf (k : Nat) : fI rows L (k + 1) = sI rows (aY rows L 0 (k + 1)) (L.getD (k + 1) 0) := by
 unfold fI pP; rw [zwo]; rfl
theorem zlg (ht : eC rows) {a : Nat} (hb : fI rows L a = true) : ∀ k, aY rows L a (k + 1) = aY rows L 0 (a + (k + 1))
 | 0 => by
   cases a with
   | zero => rfl
   | succ a =>
     rw [zlf] at hb;show dQ rows st0 (L.getD (a + 1 + 0) 0) = dQ rows (aY rows L 0 (a + 1)) (L.getD (0 + (a + 1)) 0);rw [show a + 1 + 0 = a + 1 by omega, show 0 + (a + 1) = a + 1 by omega];have hp := zld (a := 0) (L := L) ht (a + 1);have hc := zle (a := 0) (L := L) ht (a + 1);generalize aY rows L 0 (a + 1) = st at *;generalize L.getD (a + 1) 0 = r at *;unfold sI at hb;simp only [qc, qr, qx] at hb;obtain ⟨h1, h2, h3, h4⟩ := hb
     have hs : aL rows r = 4 ∨ aL rows r = 5 ∨ aL rows r = 8 -> cV st.last = true := fun h => by
      cases hh : cV st.last with
      | true => rfl
      | false => rw [zwn hh (by unfold cV; rcases h with e | e | e <;> rw [e] <;> rfl) h] at h1; cases h1
     unfold dQ st0
     have e1 : (if bR rows 5 r = true then (1 : Int) else if (0 : Int) = 1 /\ aL rows r = 4 then 1 else if (0 : Int) = 1 /\ aL rows r = 5 then 2 else 0) = (if bR rows 5 r = true then 1 else if st.pict = 1 /\ aL rows r = 4 then 1 else if st.pict = 1 /\ aL rows r = 5 then 2 else 0) := by
      by_cases h5 : bR rows 5 r = true
      ·rw [if_pos h5, if_pos h5]
      ·rw [if_neg h5, if_neg h5, if_neg (by omega), if_neg (by omega)]
       have : ∀ b, (b = 4 ∨ b = 5 ∨ b = 8) -> ¬(st.pict = 1 /\ aL rows r = b) := fun b hb h => by
        have := hs (by rw [h.2]; exact hb);rw [hp (by omega)] at this; cases this
       rw [if_neg (this 4 (by omega)), if_neg (this 5 (by omega))]
     have e2 : (if bS rows r = 2 then (1 : Int) else if (0 : Int) ≠ 0 /\ bS rows r = 1 then 2 else if (0 : Int) ≠ 0 /\ bS rows r = 3 then 0 else 0) = (if bS rows r = 2 then 1 else if st.conj ≠ 0 /\ bS rows r = 1 then 2 else if st.conj ≠ 0 /\ bS rows r = 3 then st.conj else 0) := by
      by_cases h5 : bS rows r = 2
      ·rw [if_pos h5, if_pos h5]
      ·rw [if_neg h5, if_neg h5, if_neg (by omega), if_neg (by omega)]
       have : ∀ c, (c = 1 ∨ c = 3) -> ¬(st.conj ≠ 0 /\ bS rows r = c) := fun c hc2 h => by
        have := hs (ht.join r (by rw [h.2]; exact hc2));rw [hc h.1] at this; cases this
       rw [if_neg (this 1 (by omega)), if_neg (this 3 (by omega))]
     have e3 : (decide (aL rows r = 6) && !false) = (decide (aL rows r = 6) && !st.odd) := by
      rcases h4 with h4 | h4
      ·rw [h4]
      ·rw [h4]; rfl
     dsimp only at e1 e2 e3 ⊢;rw [e1, e2, e3]
 | k + 1 => by
   show dQ rows (aY rows L a (k + 1)) (L.getD (a + (k + 1)) 0) = dQ rows (aY rows L 0 (a + (k + 1))) (L.getD (0 + (a + (k + 1))) 0);rw [zlg ht hb k, qam]
theorem zwp (ht : eC rows) {a : Nat} (hb : fI rows L a = true) (k : Nat) : pP rows (aY rows L a (k + 1)) (L.getD (a + (k + 1)) 0) = fI rows L (a + (k + 1)) := by
 rw [zlg ht hb k]; rfl
end
def fW (rows : List Row) (L : List Int) : Nat -> Nat -> Nat
 | 0, i => i
 | k + 1, i => if fI rows L i = true then i else fW rows L k (i + 1)
def bZ (rows : List Row) (L : List Int) (a : Nat) : Nat := fW rows L (L.length - (a + 1)) (a + 1)
theorem zlh (rows : List Row) (L : List Int) : ∀ k i, i <= fW rows L k i /\ fW rows L k i <= i + k /\ (fW rows L k i = i + k ∨ fI rows L (fW rows L k i) = true)
 | 0, i => ⟨qo _, qo _, .inl rfl⟩
 | k + 1, i => by
   rw [fW];split
   ·rename_i h; exact ⟨qo _, by omega, .inr h⟩
   ·obtain ⟨h1, h2, h3⟩ := zlh rows L k (i + 1);exact ⟨by omega, by omega, h3.imp (fun e => by omega) id⟩
def kC (rows : List Row) (L : List Int) : Nat -> Nat -> List (List Int)
 | 0, _ => []
 | k + 1, i => if i < L.length then eI L i (bZ rows L i) :: kC rows L k (bZ rows L i) else []
def cJ (rows : List Row) (L : List Int) (i : Nat) : List (List Int) := kC rows L (L.length + 1) i
theorem pQ {rows : List Row} {L : List Int} {i : Nat} (h : i < L.length) : i < bZ rows L i /\ bZ rows L i <= L.length /\ (bZ rows L i = L.length ∨ fI rows L (bZ rows L i) = true) := by
 obtain ⟨h1, h2, h3⟩ := zlh rows L (L.length - (i + 1)) (i + 1);unfold bZ;exact ⟨by omega, by omega, h3.imp (fun e => by omega) id⟩
theorem zli (rows : List Row) (L : List Int) : ∀ k i, L.length + 1 <= k + i -> kC rows L k i = kC rows L (k + 1) i
 | 0, i, h => by rw [kC, kC, if_neg (by omega)]
 | k + 1, i, h => by
   rw [kC, kC];by_cases hi : i < L.length
   ·rw [if_pos hi, if_pos hi, zli rows L k _ (by have := (pQ (rows := rows) hi).1; omega)]
   ·rw [if_neg hi, if_neg hi]
theorem pR {rows : List Row} {L : List Int} {i : Nat} (h : L.length <= i) : cJ rows L i = [] := by unfold cJ; rw [kC, if_neg (by omega)]
theorem wB {rows : List Row} {L : List Int} {i : Nat} (h : i < L.length) : cJ rows L i = eI L i (bZ rows L i) :: cJ rows L (bZ rows L i) := by
 have := (pQ (rows := rows) h).1;unfold cJ;rw [<- zli rows L L.length (bZ rows L i) (by omega), kC, if_pos h]
section
variable {rows : List Row} {L : List Int}
theorem zwq (ht : eC rows) (k : Nat) : fI rows L (k + 1) =
 (if aL rows (L.getD k 0) = 1 /\ aL rows (L.getD (k + 1) 0) = 2 then false
  else if cV (aL rows (L.getD k 0)) = true ∨ cV (aL rows (L.getD (k + 1) 0)) = true then true
  else if nU (aL rows (L.getD k 0)) (aL rows (L.getD (k + 1) 0)) = true ∨ (aL rows (L.getD (k + 1) 0) = 4 ∨ aL rows (L.getD (k + 1) 0) = 5 ∨ aL rows (L.getD (k + 1) 0) = 8 ∨ aL rows (L.getD k 0) = 7) then false
  else !(decide (bS rows (L.getD (k + 1) 0) = 2) && decide ((aY rows L 0 (k + 1)).conj = 2)) && (!(bR rows 5 (L.getD (k + 1) 0) && decide ((aY rows L 0 (k + 1)).pict = 2)) && !(decide (aL rows (L.getD (k + 1) 0) = 6) && (aY rows L 0 (k + 1)).odd))) := by
 rw [zlf];have hl : (aY rows L 0 (k + 1)).last = aL rows (L.getD k 0) := by rw [zcv, qam]
 have hp := zld (a := 0) (L := L) ht (k + 1);have hc := zle (a := 0) (L := L) ht (k + 1)
 have ho : (aY rows L 0 (k + 1)).odd = true -> aL rows (L.getD k 0) = 6 := fun h => by
  have h' : (decide (aL rows (L.getD (0 + k) 0) = 6) && !(aY rows L 0 k).odd) = true := h;simp only [qc, aB, qam] at h'; exact h'.1
 have h5 := ht.pict (L.getD (k + 1) 0);have h6 := ht.cons (L.getD (k + 1) 0);rw [hl] at hp hc;generalize aY rows L 0 (k + 1) = st at *;generalize L.getD (k + 1) 0 = r at *;generalize L.getD k 0 = q at *;unfold sI;rw [hl]
 have hhard : cV (aL rows q) = true ∨ cV (aL rows r) = true -> (!(decide (st.pict = 2) && bR rows 5 r) && (!(decide (st.conj = 2) && decide (bS rows r = 2)) && !(st.odd && decide (aL rows r = 6)))) = true := fun h => by
  have g1 : (decide (st.pict = 2) && bR rows 5 r) = false := by
   rw [qx, cY];rcases h with h | h
   ·exact .inl fun e => by rw [hp (by omega)] at h; cases h
   ·right;cases ht5 : bR rows 5 r with
    | false => rfl
    | true => rw [(h5 ht5).1] at h; cases h
  have g2 : (decide (st.conj = 2) && decide (bS rows r = 2)) = false := by
   rw [qx, cY, cY];rcases h with h | h
   ·exact .inl fun e => by rw [hc (by omega)] at h; cases h
   ·exact .inr fun e => by rw [h6 (by omega)] at h; cases h
  have g3 : (st.odd && decide (aL rows r = 6)) = false := by
   rw [qx, cY];rcases h with h | h
   ·left;cases hod : st.odd with
    | false => rfl
    | true => rw [ho hod] at h; cases h
   ·exact .inr fun e => by rw [e] at h; cases h
  rw [g1, g2, g3]; rfl
 by_cases c1 : aL rows q = 1 /\ aL rows r = 2
 ·rw [if_pos c1];have : iB (aL rows q) (aL rows r) = true := by rw [c1.1, c1.2]; rfl
  rw [this]; rfl
 rw [if_neg c1];by_cases c2 : cV (aL rows q) = true ∨ cV (aL rows r) = true
 ·rw [if_pos c2, hhard c2, zwm c2 c1]; rfl
 rw [if_neg c2]
 have c3 : cV (aL rows q) = false /\ cV (aL rows r) = false := by
  constructor
  ·cases h : cV (aL rows q) with
   | false => rfl
   | true => exact absurd (.inl h) c2
  ·cases h : cV (aL rows r) with
   | false => rfl
   | true => exact absurd (.inr h) c2
 have hst : iB (aL rows q) (aL rows r) = true ↔ (nU (aL rows q) (aL rows r) = true ∨ (aL rows r = 4 ∨ aL rows r = 5 ∨ aL rows r = 8 ∨ aL rows q = 7)) := by
  obtain ⟨q1, q2⟩ := c3;generalize aL rows q = a at *;generalize aL rows r = b at *;unfold cV at q1 q2;simp only [qaa, cY] at q1 q2;unfold iB;rw [if_neg q1.2.1, if_neg (by omega), if_neg (by omega)];by_cases d1 : b = 4 ∨ b = 5 ∨ b = 8
  ·rw [if_pos d1]; exact ⟨fun _ => .inr (by omega), fun _ => rfl⟩
  ·rw [if_neg d1];by_cases d2 : a = 7
   ·rw [if_pos d2]; exact ⟨fun _ => .inr (by omega), fun _ => rfl⟩
   ·rw [if_neg d2]; exact ⟨fun h => .inl h, fun h => h.resolve_right (by omega)⟩
 by_cases c4 : nU (aL rows q) (aL rows r) = true ∨ (aL rows r = 4 ∨ aL rows r = 5 ∨ aL rows r = 8 ∨ aL rows q = 7)
 ·rw [if_pos c4, hst.2 c4]; rfl
 ·rw [if_neg c4]
  have : iB (aL rows q) (aL rows r) = false := by
   cases h : iB (aL rows q) (aL rows r) with
   | false => rfl
   | true => exact absurd (hst.1 h) c4
  rw [this];simp only [qbq, qae];rw [qbe (decide (bS rows r = 2)), qbe (bR rows 5 r), qbe (decide (aL rows r = 6))];cases (decide (st.conj = 2) && decide (bS rows r = 2)) <;> cases (decide (st.pict = 2) && bR rows 5 r) <;> rfl
theorem zwr (k : Nat) : (aY rows L 0 (k + 1)).conj = if bS rows (L.getD k 0) = 2 then 1 else if (aY rows L 0 k).conj ≠ 0 /\ bS rows (L.getD k 0) = 1 then 2 else if (aY rows L 0 k).conj ≠ 0 /\ bS rows (L.getD k 0) = 3 then (aY rows L 0 k).conj else 0 := by
 show (dQ rows (aY rows L 0 k) (L.getD (0 + k) 0)).conj = _;rw [qam]; rfl
theorem zlj (k : Nat) : (aY rows L 0 (k + 1)).pict = if bR rows 5 (L.getD k 0) = true then 1 else if (aY rows L 0 k).pict = 1 /\ aL rows (L.getD k 0) = 4 then 1 else if (aY rows L 0 k).pict = 1 /\ aL rows (L.getD k 0) = 5 then 2 else 0 := by
 show (dQ rows (aY rows L 0 k) (L.getD (0 + k) 0)).pict = _;rw [qam]; rfl
theorem zws (k : Nat) : (aY rows L 0 (k + 1)).odd = (decide (aL rows (L.getD k 0) = 6) && !(aY rows L 0 k).odd) := by
 show (dQ rows (aY rows L 0 k) (L.getD (0 + k) 0)).odd = _;rw [qam]; rfl
end
end Go.Eng.Rows

namespace Go.Eng.Rows
open Go Go.Eng Go.Eng.Trie Go.Eng.Srt
def wC (rows : List Row) (hard : List Int) (lo hi : Int) : Bool := rows.all fun y => !(decide (y.kind = 4) && hard.contains y.a) || (decide (y.to < lo) || decide (hi < y.fr))
theorem zlk {rows : List Row} {hard : List Int} {lo hi r : Int} (h : wC rows hard lo hi = true) (h0 : hard.contains 0 = false) (h1 : hard.contains 12 = false) (h2 : hard.contains 13 = false) (hr : lo <= r /\ r <= hi) : hard.contains (aL rows r) = false := by
 unfold aL;split
 ·split <;> assumption
 ·unfold aD;cases hf : bO rows 4 r with
  | none => exact h0
  | some p =>
    obtain ⟨x, hx, hk, ha, _, h3, h4, _⟩ := jZ hf;dsimp only;rw [<- ha];have := List.all_eq_true.1 h x hx;simp only [qm, qr, qx, aB, cY] at this;rcases this with (h5 | h5) | h5 | h5
    ·exact absurd hk h5
    ·exact h5
    ·omega
    ·omega
def zwt (rows : List Row) : Bool := rows.all fun x =>
 (!(decide (x.kind = 5) && decide (x.a = 1)) || wC rows [1, 2, 3, 5] x.fr x.to) &&
 (!decide (x.kind = 6) || (wC rows [1, 2, 3] x.fr x.to && ((decide (0 <= x.a) && decide (x.a <= 2)) && (!decide (x.a = 1) || (decide (x.fr = x.to) && (decide (aL rows x.fr = 4) || (decide (aL rows x.fr = 5) || decide (aL rows x.fr = 8))))))))
theorem zwu {b : Int} (h : ([1, 2, 3] : List Int).contains b = false) : cV b = false := by
 simp only [qbi, qbm, qbr, qaa, beq_eq_false_iff_ne, ne_eq] at h;unfold cV;simp only [qaa, cY]; omega
theorem zwv {rows : List Row} (h : zwt rows = true) : eC rows := by
 have hall := List.all_eq_true.1 h
 have h6 : ∀ r, aD rows 6 r ≠ 0 -> ∃ x ∈ rows, x.kind = 6 /\ x.a = aD rows 6 r /\ x.fr <= r /\ r <= x.to := fun r hr => by
  unfold aD at hr ⊢;cases hf : bO rows 6 r with
  | none => rw [hf] at hr; exact absurd rfl hr
  | some p =>
    obtain ⟨x, hx, hk, ha, _, h3, h4, _⟩ := jZ hf;exact ⟨x, hx, hk, ha, h3, h4⟩
 have g6 : ∀ x ∈ rows, x.kind = 6 -> wC rows [1, 2, 3] x.fr x.to = true /\ (0 <= x.a /\ x.a <= 2) /\ (x.a ≠ 1 ∨ (x.fr = x.to /\ (aL rows x.fr = 4 ∨ aL rows x.fr = 5 ∨ aL rows x.fr = 8))) := fun x hx hk => by
  have := hall x hx;simp only [qc, qm, qr, aB, cY] at this;rcases this.2 with h | h
  ·exact absurd hk h
  ·exact h
 refine ⟨fun r hr => ?_, fun r => ?_, fun r hr => ?_, fun r hr => ?_⟩
 ·unfold bR at hr;cases hf : bO rows 5 r with
  | none => rw [hf] at hr; cases hr
  | some p =>
    rw [hf] at hr;obtain ⟨x, hx, hk, ha, _, h3, h4, _⟩ := jZ hf;have := hall x hx;simp only [qc, qm, qr, qx, cY] at this;rcases this.1 with (h5 | h5) | h5
    ·exact absurd hk h5
    ·exact absurd (ha.trans (of_decide_eq_true hr)) h5
    ·have := zlk h5 (by decide) (by decide) (by decide) ⟨h3, h4⟩;simp only [qbi, qbm, qbr, qaa, beq_eq_false_iff_ne, ne_eq] at this;refine ⟨?_, this.2.2.2⟩;unfold cV;simp only [qaa, cY]; exact ⟨this.2.2.1, this.1, this.2.1⟩
 ·unfold bS;split
  ·rename_i hn;obtain ⟨x, hx, hk, ha, _, _⟩ := h6 r hn;have := (g6 x hx hk).2.1;omega
  ·split
   ·exact .inr (.inr (.inr rfl))
   ·exact .inl rfl
 ·unfold bS at hr;split at hr
  ·rename_i hn;obtain ⟨x, hx, hk, ha, h3, h4⟩ := h6 r hn;exact zwu (zlk (g6 x hx hk).1 (by decide) (by decide) (by decide) ⟨h3, h4⟩)
  ·split at hr
   ·rename_i h4;unfold cV;rcases h4.1 with e | e <;> rw [e] <;> rfl
   ·exact absurd rfl hr
 ·unfold bS at hr;split at hr
  ·rename_i hn;obtain ⟨x, hx, hk, ha, h3, h4⟩ := h6 r hn;obtain ⟨_, g2, g3⟩ := g6 x hx hk;have h1 : x.a = 1 := by omega
   obtain ⟨g4, g5⟩ := g3.resolve_left (fun h => h h1);rw [show r = x.fr by omega]; exact g5
  ·split at hr
   ·rename_i h4;rcases h4.1 with e | e
    ·exact .inl e
    ·exact .inr (.inl e)
   ·omega
end Go.Eng.Rows
namespace Go.Eng
open Go.Eng.Rows
theorem nV : eC tab := zwv (by kernel_rfl)
end Go.Eng


namespace Go.Eng.Srt
open Go Go.Eng
end Go.Eng.Srt
namespace Go.Eng.Rows
open Go Go.Eng Go.Eng.Trie Go.Eng.Srt
section
variable {rows : List Row}
end
section
variable (ks : List (List Int))
end
section
variable {ks : List (List Int)} {want : List Int}
end
section
variable {rows : List Row} {L : List Int}
theorem zll : ∀ (n i : Nat), L.length - i <= n -> (cJ rows L i).flatten = L.drop i
 | 0, i, h => by rw [pR (by omega), qw (by omega)]; rfl
 | n + 1, i, h => by
   by_cases hi : i < L.length
   ·obtain ⟨h1, h2, _⟩ := pQ (rows := rows) hi;rw [wB hi, qay, zll n _ (by omega), zwk (j := i) (b := bZ rows L i) (by omega) h2]
   ·rw [pR (by omega), qw (by omega)]; rfl
theorem zlm (rows : List Row) (L : List Int) : (cJ rows L 0).flatten = L := by rw [zll L.length 0 (by omega)]; rfl
theorem zln : ∀ (n i : Nat), L.length - i <= n -> ∀ c ∈ cJ rows L i, c ≠ []
 | 0, i, h, c, hc => by rw [pR (by omega)] at hc; cases hc
 | n + 1, i, h, c, hc => by
   by_cases hi : i < L.length
   ·obtain ⟨h1, h2, _⟩ := pQ (rows := rows) hi;rw [wB hi] at hc;rcases List.mem_cons.1 hc with rfl | hc
    ·rw [zwl h1 h2]; exact List.cons_ne_nil _ _
    ·exact zln n _ (by omega) c hc
   ·rw [pR (by omega)] at hc; cases hc
end
end Go.Eng.Rows

namespace Go.Eng
open Go Go.Proofs
section
variable (tc tg tj tf tp : PV) (M S : List (PV × PV)) (r : Int)
def zlo (R : PV -> Prop) : Prop :=
 if (decide (r >= 44032) && decide (r <= 55203) && (i32.wrap (r - 44032)).tmod (28 : Int) == 0) = true then R (Z6 12) else if (decide (r >= 44032) && decide (r <= 55203)) = true then R (Z6 13) else (∃ ps, some tg = some (PV.ptr ps) /\ PCall qa 119 [PV.ptr ps, Z6 (i64.wrap r)] fun v => ∃ n, v = Z6 n /\ R (Z6 n)) ∨ some tg = some PV.nilp /\ PCall qa 119 [PV.nilp, Z6 (i64.wrap r)] fun v => ∃ n, v = Z6 n /\ R (Z6 n)
theorem zww {R : PV -> Prop} (h : zlo tg r R) : PCall qa 142 [.ptr [tc, tg, tj, tf, tp, .mp M, .mp S], .int .i32 r] R :=
 PCall.wz Tryz.func142 aP [0, 1, 4, 5, 18, 25] aW h
end
section
variable (tc tg tj tf tp : PV) (M S : List (PV × PV)) (r : Int)
def zlp (R : PV -> Prop) : Prop :=
 let V1 := PCall qa 142 [PV.ptr [tc, tg, tj, tf, tp, PV.mp M, PV.mp S], Z3 r] fun v1 => ∃ n1, v1 = Z6 n1 /\ if ((n1 == 4 || n1 == 5) && r != 8204) = true then R (Z6 3) else R (Z6 0); (∃ ps, some tj = some (PV.ptr ps) /\ PCall qa 119 [PV.ptr ps, Z6 (i64.wrap r)] fun v => ∃ n, v = Z6 n /\ if (n != 0) = true then R (Z6 n) else V1) ∨ some tj = some PV.nilp /\ PCall qa 119 [PV.nilp, Z6 (i64.wrap r)] fun v => ∃ n, v = Z6 n /\ if (n != 0) = true then R (Z6 n) else V1
theorem zwx {R : PV -> Prop} (h : zlp tc tg tj tf tp M S r R) : PCall qa 144 [.ptr [tc, tg, tj, tf, tp, .mp M, .mp S], .int .i32 r] R :=
 PCall.wz Tryz.func144 aP [0, 1, 4, 5, 6, 8, 17, 31] aW h
end
section
variable (tc tg tj tf tp : PV) (M S : List (PV × PV)) (r : Int)
def zlq (R : PV -> Prop) : Prop :=
 (∃ ps, some tf = some (PV.ptr ps) /\ PCall qa 92 [PV.ptr ps, Z6 (i64.wrap r)] fun v => ∃ cs, v = PV.agg cs /\ cs.length = 4 /\ ∃ b, cs.head? = some (Zb b) /\ ∃ b1, cs.tail.head? = some (Zb b1) /\ ∃ b2, cs.tail.tail.head? = some (Zb b2) /\ ∃ b3, cs.tail.tail.tail.head? = some (Zb b3) /\ R (Zb b)) ∨ some tf = some PV.nilp /\ PCall qa 92 [PV.nilp, Z6 (i64.wrap r)] fun v => ∃ cs, v = PV.agg cs /\ cs.length = 4 /\ ∃ b, cs.head? = some (Zb b) /\ ∃ b1, cs.tail.head? = some (Zb b1) /\ ∃ b2, cs.tail.tail.head? = some (Zb b2) /\ ∃ b3, cs.tail.tail.tail.head? = some (Zb b3) /\ R (Zb b)
theorem zwy {R : PV -> Prop} (h : zlq tf r R) : PCall qa 143 [.ptr [tc, tg, tj, tf, tp, .mp M, .mp S], .int .i32 r] R :=
 PCall.wz Tryz.func143 aP [0, 1, 4] aW h
end
section
variable (n f : Bool) (es : LL) (r : Int)
def zlr (R : PV -> Prop) : Prop :=
 if (decide (r >= 44032) && decide (r <= 55203)) = true then if ((i32.wrap (r - 44032)).tmod (28 : Int) == 0) = true then R (Z6 12) else R (Z6 13) else PCall qa 129 [PV.sl n f es, Z6 4, Z3 r] fun v => ∃ n1, v = Z6 n1 /\ R (Z6 n1)
theorem zwz {R : PV -> Prop} (h : zlr n f es r R) : PCall qa 152 [.sl n f es, .int .i32 r] R :=
 PCall.wz Tryz.func152 aP [0, 1, 4, 10, 14] aW h
end
section
variable (n f : Bool) (es : LL) (r : Int)
def zls (R : PV -> Prop) : Prop :=
 PCall qa 129 [PV.sl n f es, Z6 6, Z3 r] fun v => ∃ n1, v = Z6 n1 /\ if (n1 != 0) = true then R (Z6 n1) else PCall qa 152 [PV.sl n f es, Z3 r] fun v1 => ∃ n2, v1 = Z6 n2 /\ if ((n2 == 4 || n2 == 5) && r != 8204) = true then R (Z6 3) else R (Z6 0)
theorem zw0 {R : PV -> Prop} (h : zls n f es r R) : PCall qa 170 [.sl n f es, .int .i32 r] R :=
 PCall.wz Tryz.func170 aP [0, 1, 4, 5, 6, 11, 25] aW h
end
section
variable (a b : Int)
def zlt (R : PV -> Prop) : Prop :=
 let X := if (a == 13) = true then if (a == 13) = true then R (Zb (b == 11)) else R (Zb false) else if (a == 11) = true then R (Zb (b == 11)) else R (Zb false)
 let A := if (a == 7) = true then R (Zb true) else if (a == 9) = true then R (Zb (b == 9 || b == 10 || b == 12 || b == 13)) else if (a == 12) = true then if (a == 12) = true then R (Zb (b == 10 || b == 11)) else X else if (a == 10) = true then R (Zb (b == 10 || b == 11)) else X
 let B := if (b == 4) = true then if (b == 4) = true then R (Zb true) else A else if (b == 5) = true then if (b == 5) = true then R (Zb true) else A else if (b == 8) = true then R (Zb true) else A
 let C := if (b == 1) = true then if (b == 1) = true then R (Zb false) else B else if (b == 2) = true then if (b == 2) = true then R (Zb false) else B else if (b == 3) = true then R (Zb false) else B
 if (a == 1) = true then R (Zb (b == 2)) else if (a == 2) = true then if (a == 2) = true then R (Zb false) else C else if (a == 3) = true then R (Zb false) else C
theorem zw1 {R : PV -> Prop} (h : zlt a b R) : PCall qa 145 [.int .i64 a, .int .i64 b] R :=
 PCall.wz Tryz.func145 aP [0, 1, 4, 5, 6, 10, 13, 14, 18, 22, 23, 25, 41, 50] aW h
end
section
variable (so od : Bool) (la pi co : Int) (tc tg tj tf tp : PV) (M S : List (PV × PV)) (r : Int)
def zlu (R : PV -> Prop) : Prop :=
 PCall qa 142 [PV.ptr [tc, tg, tj, tf, tp, PV.mp M, PV.mp S], Z3 r] fun v => ∃ n, v = Z6 n /\ PCall qa 143 [PV.ptr [tc, tg, tj, tf, tp, PV.mp M, PV.mp S], Z3 r] fun v1 => ∃ b, v1 = Zb b /\ PCall
 qa 144 [PV.ptr [tc, tg, tj, tf, tp, PV.mp M, PV.mp S], Z3 r] fun v2 => ∃ n1, v2 = Z6 n1 /\ PCall qa 145 [Z6 la, Z6 n] fun v3 => ∃ b1, v3 = Zb b1 /\
 let C : Int -> Bool -> Bool -> Prop := fun p o c => if (n1 == 2) = true then R (PV.tup [PV.agg [Zb true, Z6 n, Z6 p, Z6 1, Zb o], Zb c]) else if (co != 0 && n1 == 1) = true then R (PV.tup [PV.agg [Zb true, Z6 n, Z6 p, Z6 2, Zb o], Zb c]) else if (co != 0 && n1 == 3) = true then R (PV.tup [PV.agg [Zb true, Z6 n, Z6 p, Z6 co, Zb o], Zb c]) else R (PV.tup [PV.agg [Zb true, Z6 n, Z6 p, Z6 0, Zb o], Zb c])
 let D : Bool -> Bool -> Prop := fun o c => if b = true then C 1 o c else if (pi == 1 && n == 4) = true then C 1 o c else if (pi == 1 && n == 5) = true then C 2 o c else C 0 o c
 let E : Bool -> Prop := fun c => if (n == 6) = true then D (!od) c else D false c
 if (!b1) = true then if (!(pi == 2 && b)) = true then if (!(co == 2 && n1 == 2)) = true then E (!so || !(od && n == 6)) else E (!so || false) else E (!so || false) else E (!so || false)
theorem zw2 {R : PV -> Prop} (h : zlu so od la pi co tc tg tj tf tp M S r R) : PCall qa 120 [.agg [.bool so, .int .i64 la, .int .i64 pi, .int .i64 co, .bool od], .ptr [tc, tg, tj, tf, tp, .mp M, .mp S], .int .i32 r] R :=
 PCall.wz Tryz.func120 aP [0, 1, 2, 3, 6, 7, 8, 9, 10, 11, 12, 64, 67, 76, 85, 89, 98] aW h
end
def zcw (tc tg tj tf tp : PV) (M S : List (PV × PV)) (n f : Bool) (es : LL) (x2 : Int) (h0_0 : Bool) (h0_1 h0_2 h0_3 : Int) (h0_4 : Bool) : Env × Hp := ([(0, LV.pv (PV.ptr [tc, tg, tj, tf, tp, PV.mp M, PV.mp S])), (1, LV.pv (PV.sl n f es)), (2, Y6 x2), (7, LV.box 0 0)], [.box [.pv (.bool h0_0), Y6 h0_1, Y6 h0_2, Y6 h0_3, .pv (.bool h0_4)]])
section
variable (tc tg tj tf tp : PV) (M S : List (PV × PV)) (n f : Bool) (es : LL) (k : Int) (J : Int -> Bool -> Int -> Int -> Int -> Bool -> Prop) (μ : Int -> Bool -> Int -> Int -> Int -> Bool -> Nat)
def zlv (R : PV -> Prop) : Prop :=
 if (decide (k < 0) || decide (k >= (↑es.length : Int))) = true then R (Z6 (↑es.length : Int)) else aI es k 1 /\ ∃ n1, (es.getD k.toNat []).head? = some (Z3 n1) /\ PCall qa 120 [PV.agg [Zb false, Z6 0, Z6 0, Z6 0, Zb false],
  PV.ptr [tc, tg, tj, tf, tp, PV.mp M, PV.mp S], Z3 n1] fun v => ∃ vs, v = PV.tup vs /\ vs.length = 2 /\ ∃ x, vs.head? = some x /\ ∃ cs, x = PV.agg cs /\ cs.length = 5 /\ ∃ b, cs.head? = some (Zb b)
  /\ ∃ n2, cs.tail.head? = some (Z6 n2) /\ ∃ n3, cs.tail.tail.head? = some (Z6 n3) /\ ∃ n4, cs.tail.tail.tail.head? = some (Z6 n4) /\ ∃ b1, cs.tail.tail.tail.tail.head? = some (Zb b1) /\ ∃ (x1 : PV),
  vs.tail.head? = some x1 /\ ∃ b2, x1 = Zb b2 /\ (aG (zcw tc tg tj tf tp M S n f es (i64.wrap (k + 1)) b n2 n3 n4 b1) /\ J (i64.wrap (k + 1)) b n2 n3 n4 b1) /\ ∀ (x2 : Int) (h0_0 : Bool) (h0_1 h0_2 h0_3 : Int)
  (h0_4 : Bool), J x2 h0_0 h0_1 h0_2 h0_3 h0_4 ->
 let K5 := fun (y0_ : Int) (y1_ : Bool) (y2_ y3_ y4_ : Int) (y5_ : Bool) => aG (zcw tc tg tj tf tp M S n f es y0_ y1_ y2_ y3_ y4_ y5_) /\ J y0_ y1_ y2_ y3_ y4_ y5_ /\ μ y0_ y1_ y2_ y3_ y4_ y5_ < μ x2 h0_0 h0_1 h0_2 h0_3
  h0_4; if decide (x2 < (↑es.length : Int)) = true then aI es x2 1 /\ ∃ n5, (es.getD x2.toNat []).head? = some (Z3 n5) /\ (PCall qa 120 [PV.agg [Zb h0_0, Z6 h0_1, Z6 h0_2, Z6 h0_3, Zb h0_4], PV.ptr [tc, tg, tj, tf, tp,
  PV.mp M, PV.mp S], Z3 n5] fun v1 => ∃ vs1, v1 = PV.tup vs1 /\ vs1.length = 2 /\ ∃ x3, vs1.head? = some x3 /\ ∃ cs1, x3 = PV.agg cs1 /\ cs1.length = 5 /\ ∃ b3, cs1.head? = some (Zb b3) /\ ∃ (n6 :
  Int), cs1.tail.head? = some (Z6 n6) /\ ∃ n7, cs1.tail.tail.head? = some (Z6 n7) /\ ∃ n8, cs1.tail.tail.tail.head? = some (Z6 n8) /\ ∃ b4, cs1.tail.tail.tail.tail.head? = some (Zb b4) /\ ∃ x4, vs1.tail.head? =
  some x4 /\ ∃ b5, x4 = Zb b5 /\
 let V1 := if b5 = true then R (Z6 x2) else K5 (i64.wrap (x2 + 1)) b3 n6 n7 n8 b4; V1 /\ V1 /\ V1) /\ PCall qa 120 [PV.agg [Zb h0_0, Z6 h0_1, Z6 h0_2, Z6 h0_3, Zb h0_4], PV.ptr [tc, tg, tj, tf, tp, PV.mp M, PV.mp S], Z3 n5] fun
  (v1 : PV) => ∃ vs1, v1 = PV.tup vs1 /\ vs1.length = 2 /\ ∃ x3, vs1.head? = some x3 /\ ∃ cs1, x3 = PV.agg cs1 /\ cs1.length = 5 /\ ∃ b3, cs1.head? = some (Zb b3) /\ ∃ n6, cs1.tail.head? = some (Z6
  n6) /\ ∃ n7, cs1.tail.tail.head? = some (Z6 n7) /\ ∃ n8, cs1.tail.tail.tail.head? = some (Z6 n8) /\ ∃ b4, cs1.tail.tail.tail.tail.head? = some (Zb b4) /\ ∃ x4, vs1.tail.head? = some x4 /\ ∃ b5, x4 = Zb
  b5 /\
 let V2 := if b5 = true then R (Z6 x2) else K5 (i64.wrap (x2 + 1)) b3 n6 n7 n8 b4; V2 /\ V2 else R (Z6 x2)
theorem zw3 {R : PV -> Prop} (h : zlv tc tg tj tf tp M S n f es k J μ R) : PCall qa 94 [.ptr [tc, tg, tj, tf, tp, .mp M, .mp S], .sl n f es, .int .i64 k] R :=
 PCall.wz Tryz.func94 aP [0, 1, 2, 6, 7, 9, 10, 18, 36, 49] (bY 5 (a8 cz6 (zcw tc tg tj tf tp M S n f es) J μ (fun e h => (gI e 2, hB h 0 0, hI h 0 1, hI h 0 2, hI h 0 3, hB h 0 4)) [] [0, 1, 2, 7] [])) h
end
def zcx (tc tg tj tf tp : PV) (M S : List (PV × PV)) (n f : Bool) (es : LL) (x6 : Int) (n_0 : Bool) (s_0 : LL) : Env × Hp := ([(0, LV.pv (PV.ptr [tc, tg, tj, tf, tp, PV.mp M, PV.mp S])), (1, LV.pv (PV.sl n f es)), (5, LV.own 0), (6, Y6 x6)], [.sl (22, 1) true n_0 s_0])
section
variable (tc tg tj tf tp : PV) (M S : List (PV × PV)) (n f : Bool) (es : LL) (J : Int -> Bool -> LL -> Prop) (μ : Int -> Bool -> LL -> Nat)
def zlw (R : PV -> Prop) : Prop :=
 (aG (zcx tc tg tj tf tp M S n f es (0 : Int) true []) /\ J (0 : Int) true []) /\ ∀ (x6 : Int) (n_0 : Bool) (s_0 : LL), J x6 n_0 s_0 -> if decide (x6 < (↑es.length : Int)) = true then PCall qa 94 [PV.ptr [tc, tg, tj, tf, tp, PV.mp M, PV.mp S], PV.sl n f es, Z6 x6] fun v => ∃ n1, v = Z6 n1 /\ (fA es.length (some x6) (some n1) none /\ aQ es 1) /\ PCall qa 67 [PV.sl n (f && decide (n1 = (↑es.length : Int))) (qk x6.toNat (qaw n1.toNat es))] fun v1 => ∃ n2 f1 es1, v1 = PV.sl n2 f1 es1 /\ (aQ [[PV.sl n2 f1 es1]] 1 /\ (s_0.length + 1) * 24 <= 140737488355328) /\ aG (zcx tc tg tj tf tp M S n f es n1 (n_0 && false) (s_0 ++ [[PV.sl n2 f1 es1]])) /\ J n1 (n_0 && false) (s_0 ++ [[PV.sl n2 f1 es1]]) /\ μ n1 (n_0 && false) (s_0 ++ [[PV.sl n2 f1 es1]]) < μ x6 n_0 s_0 else R (PV.sl n_0 false s_0)
theorem zw4 {R : PV -> Prop} (h : zlw tc tg tj tf tp M S n f es J μ R) : PCall qa 59 [.ptr [tc, tg, tj, tf, tp, .mp M, .mp S], .sl n f es] R :=
 PCall.wz Tryz.func59 aP [0, 1, 4, 5, 6, 7, 11] (bY 3 (a8 dS (zcx tc tg tj tf tp M S n f es) J μ (fun e h => (gI e 6, oN h 0, oS h 0)) [(5, 22, 1)] [0, 1, 5, 6] [])) h
end
section
variable (a : Int)
def zlx (R : PV -> Prop) : Prop :=
 R (Zb (a == 3 || a == 1 || a == 2))
theorem zw5 {R : PV -> Prop} (h : zlx a R) : PCall qa 153 [.int .i64 a] R :=
 PCall.wz Tryz.func153 aP [0, 2] aW h
end
section
variable (a b : Int)
def zly (R : PV -> Prop) : Prop :=
 if (a == 9) = true then R (Zb (b == 9 || b == 10 || b == 12 || b == 13)) else if (a == 12 || a == 10) = true then R (Zb (b == 10 || b == 11)) else if (a == 13 || a == 11) = true then R (Zb (b == 11)) else R (Zb false)
theorem zw6 {R : PV -> Prop} (h : zly a b R) : PCall qa 154 [.int .i64 a, .int .i64 b] R :=
 PCall.wz Tryz.func154 aP [0, 1, 4, 6, 26, 38] aW h
end
def zcy (n f : Bool) (es : LL) (n2 f2 : Bool) (ss : LL) (x7 : Bool) (x8 : Int) : Env × Hp := ([(0, LV.pv (PV.sl n f es)), (1, LV.pv (PV.sl n2 f2 ss)), (7, .pv (.bool x7)), (8, Y6 x8)], [])
section
variable (n f : Bool) (es : LL) (n2 f2 : Bool) (ss : LL) (k : Int) (J : Bool -> Int -> Prop) (μ : Bool -> Int -> Nat)
def zlz (R : PV -> Prop) : Prop :=
 aI ss k 1 /\ ∃ n1, (ss.getD k.toNat []).head? = some (Z3 n1) /\ PCall qa 170 [PV.sl n f es, Z3 n1] fun v => ∃ n3, v = Z6 n3 /\ if (n3 != 2) = true then R (Zb false) else (aG (zcy n f es n2 f2 ss false (i64.wrap (k - 1))) /\ J false (i64.wrap (k - 1))) /\ ∀ (x7 : Bool) (x8 : Int), J x7 x8 ->
 let K5 := fun (y0_ : Bool) (y1_ : Int) => aG (zcy n f es n2 f2 ss y0_ y1_) /\ J y0_ y1_ /\ μ y0_ y1_ < μ x7 x8; if decide (x8 >= 0) = true then aI ss x8 1 /\ ∃ n4, (ss.getD x8.toNat []).head? = some (Z3 n4) /\ PCall qa 170 [PV.sl n f es, Z3 n4] fun v1 => ∃ n5, v1 = Z6 n5 /\ if (n5 == 2) = true then R (Zb x7) else if (n5 == 0) = true then R (Zb false) else if (n5 == 1) = true then K5 true (i64.wrap (x8 - 1)) else K5 x7 (i64.wrap (x8 - 1)) else R (Zb false)
theorem zw7 {R : PV -> Prop} (h : zlz n f es n2 f2 ss k J μ R) : PCall qa 155 [.sl n f es, .sl n2 f2 ss, .int .i64 k] R :=
 PCall.wz Tryz.func155 aP [0, 1, 2, 6, 7, 8, 9, 16, 20, 30, 33, 35] (bY 5 (a8 jB (zcy n f es n2 f2 ss) J μ (fun e h => (gB e 7, gI e 8)) [] [0, 1, 7, 8] [])) h
end
def zcz (n f : Bool) (es : LL) (n2 f2 : Bool) (ss : LL) (x7 : Int) : Env × Hp := ([(0, LV.pv (PV.sl n f es)), (1, LV.pv (PV.sl n2 f2 ss)), (7, Y6 x7)], [])
section
variable (n f : Bool) (es : LL) (n2 f2 : Bool) (ss : LL) (k : Int) (J : Int -> Prop) (μ : Int -> Nat)
def zl0 (R : PV -> Prop) : Prop :=
 aI ss k 1 /\ ∃ n1, (ss.getD k.toNat []).head? = some (Z3 n1) /\ PCall qa 129 [PV.sl n f es, Z6 5, Z3 n1] fun v => ∃ n3, v = Z6 n3 /\ if (n3 != 1) = true then R (Zb false) else aI ss (i64.wrap (k - 1)) 1 /\ ∃ n4, (ss.getD (i64.wrap (k - 1)).toNat []).head? = some (Z3 n4) /\ PCall qa 152 [PV.sl n f es, Z3 n4] fun v1 => ∃ n5, v1 = Z6 n5 /\ if (n5 != 5) = true then R (Zb false) else (aG (zcz n f es n2 f2 ss (i64.wrap (k - 2))) /\ J (i64.wrap (k - 2))) /\ ∀ (x7 : Int), J x7 -> if decide (x7 >= 0) = true then aI ss x7 1 /\ ∃ n6, (ss.getD x7.toNat []).head? = some (Z3 n6) /\ PCall qa 129 [PV.sl n f es, Z6 5, Z3 n6] fun v2 => ∃ n7, v2 = Z6 n7 /\ if (n7 == 1) = true then R (Zb true) else aI ss x7 1 /\ ∃ n8, (ss.getD x7.toNat []).head? = some (Z3 n8) /\ PCall qa 152 [PV.sl n f es, Z3 n8] fun v3 => ∃ n9, v3 = Z6 n9 /\ if (n9 != 4) = true then R (Zb false) else aG (zcz n f es n2 f2 ss (i64.wrap (x7 - 1))) /\ J (i64.wrap (x7 - 1)) /\ μ (i64.wrap (x7 - 1)) < μ x7 else R (Zb false)
theorem zw8 {R : PV -> Prop} (h : zl0 n f es n2 f2 ss k J μ R) : PCall qa 156 [.sl n f es, .sl n2 f2 ss, .int .i64 k] R :=
 PCall.wz Tryz.func156 aP [0, 1, 2, 6, 7, 24, 28, 37, 44] (bY 4 (a8 mA (zcz n f es n2 f2 ss) J μ (fun e h => (((gI e 7), ()))) [] [0, 1, 7] [])) h
end
def zc0 (n f : Bool) (es : LL) (n2 f2 : Bool) (ss : LL) (x7 x8 : Int) : Env × Hp := ([(0, LV.pv (PV.sl n f es)), (1, LV.pv (PV.sl n2 f2 ss)), (7, Y6 x7), (8, Y6 x8)], [])
section
variable (n f : Bool) (es : LL) (n2 f2 : Bool) (ss : LL) (k : Int) (J : Int -> Int -> Prop) (μ : Int -> Int -> Nat)
def zl1 (R : PV -> Prop) : Prop :=
 aI ss k 1 /\ ∃ n1, (ss.getD k.toNat []).head? = some (Z3 n1) /\ PCall qa 152 [PV.sl n f es, Z3 n1] fun v => ∃ n3, v = Z6 n3 /\ if (n3 != 6) = true then R (Zb false) else (aG (zc0 n f es n2 f2 ss (0 : Int) (i64.wrap (k - 1))) /\ J (0 : Int) (i64.wrap (k - 1))) /\ ∀ (x7 x8 : Int), J x7 x8 -> if decide (x8 >= 0) = true then aI ss x8 1 /\ ∃ n4, (ss.getD x8.toNat []).head? = some (Z3 n4) /\ PCall qa 152 [PV.sl n f es, Z3 n4] fun v1 => ∃ n5, v1 = Z6 n5 /\ if (n5 == 6) = true then aG (zc0 n f es n2 f2 ss (i64.wrap (x7 + 1)) (i64.wrap (x8 - 1))) /\ J (i64.wrap (x7 + 1)) (i64.wrap (x8 - 1)) /\ μ (i64.wrap (x7 + 1)) (i64.wrap (x8 - 1)) < μ x7 x8 else R (Zb (x7.tmod (2 : Int) == 1)) else R (Zb (x7.tmod (2 : Int) == 1))
theorem zw9 {R : PV -> Prop} (h : zl1 n f es n2 f2 ss k J μ R) : PCall qa 157 [.sl n f es, .sl n2 f2 ss, .int .i64 k] R :=
 PCall.wz Tryz.func157 aP [0, 1, 2, 6, 7, 8, 15, 28] (bY 5 (a8 jB (zc0 n f es n2 f2 ss) J μ (fun e h => (gI e 7, gI e 8)) [] [0, 1, 7, 8] [])) h
end
section
variable (n f : Bool) (es : LL) (n2 f2 : Bool) (ss : LL) (k : Int)
def zl2 (R : PV -> Prop) : Prop :=
 if (k == 0) = true then R (Zb true) else aI ss (i64.wrap (k - 1)) 1 /\ ∃ n1, (ss.getD (i64.wrap (k - 1)).toNat []).head? = some (Z3 n1) /\ aI ss k 1 /\ ∃ n3, (ss.getD k.toNat []).head? = some (Z3 n3) /\ PCall qa 152 [PV.sl n f es, Z3 n1] fun v => ∃ n4, v = Z6 n4 /\ PCall qa 152 [PV.sl n f es, Z3 n3] fun v1 => ∃ n5, v1 = Z6 n5 /\ if (n4 == 1 && n5 == 2) = true then R (Zb false) else PCall qa 153 [Z6 n4] fun v2 => ∃ b, v2 = Zb b /\ if b = true then R (Zb true) else PCall qa 153 [Z6 n5] fun v3 => ∃ b1, v3 = Zb b1 /\ if b1 = true then R (Zb true) else PCall qa 154 [Z6 n4, Z6 n5] fun v4 => ∃ b2, v4 = Zb b2 /\ if (b2 || n5 == 4 || n5 == 5 || n5 == 8 || n4 == 7) = true then R (Zb false) else PCall qa 155 [PV.sl n f es, PV.sl n2 f2 ss, Z6 k] fun v5 => ∃ b3, v5 = Zb b3 /\ if (!b3) = true then PCall qa 156 [PV.sl n f es, PV.sl n2 f2 ss, Z6 k] fun v6 => ∃ b4, v6 = Zb b4 /\ if (!b4) = true then PCall qa 157 [PV.sl n f es, PV.sl n2 f2 ss, Z6 k] fun v7 => ∃ b5, v7 = Zb b5 /\ R (Zb !b5) else R (Zb false) else R (Zb false)
theorem zxa {R : PV -> Prop} (h : zl2 n f es n2 f2 ss k R) : PCall qa 124 [.sl n f es, .sl n2 f2 ss, .int .i64 k] R :=
 PCall.wz Tryz.func124 aP [0, 1, 2, 6, 7, 8, 10, 29, 35, 54] aW h
end
def zc1 (n f : Bool) (es : LL) (n2 f2 : Bool) (ss : LL) (x7 : Int) : Env × Hp := ([(0, LV.pv (PV.sl n f es)), (1, LV.pv (PV.sl n2 f2 ss)), (7, Y6 x7)], [])
section
variable (n f : Bool) (es : LL) (n2 f2 : Bool) (ss : LL) (k : Int) (J : Int -> Prop) (μ : Int -> Nat)
def zl3 (R : PV -> Prop) : Prop :=
 (aG (zc1 n f es n2 f2 ss (i64.wrap (k + 1))) /\ J (i64.wrap (k + 1))) /\ ∀ (x7 : Int), J x7 -> if decide (x7 < (↑ss.length : Int)) = true then PCall qa 124 [PV.sl n f es, PV.sl n2 f2 ss, Z6 x7] fun v => ∃ b, v = Zb b /\ if b = true then R (Z6 x7) else aG (zc1 n f es n2 f2 ss (i64.wrap (x7 + 1))) /\ J (i64.wrap (x7 + 1)) /\ μ (i64.wrap (x7 + 1)) < μ x7 else R (Z6 (↑ss.length : Int))
theorem zxb {R : PV -> Prop} (h : zl3 n f es n2 f2 ss k J μ R) : PCall qa 97 [.sl n f es, .sl n2 f2 ss, .int .i64 k] R :=
 PCall.wz Tryz.func97 aP [0, 1, 2, 6, 7, 13, 19] (bY 2 (a8 mA (zc1 n f es n2 f2 ss) J μ (fun e h => (((gI e 7), ()))) [] [0, 1, 7] [])) h
end
def zc2 (n f : Bool) (es : LL) (n2 f2 : Bool) (ss : LL) (x6 : Int) (n_0 : Bool) (s_0 : LL) : Env × Hp := ([(0, LV.pv (PV.sl n f es)), (1, LV.pv (PV.sl n2 f2 ss)), (5, LV.own 0), (6, Y6 x6)], [.sl (22, 1) true n_0 s_0])
section
variable (n f : Bool) (es : LL) (n2 f2 : Bool) (ss : LL) (J : Int -> Bool -> LL -> Prop) (μ : Int -> Bool -> LL -> Nat)
def zl4 (R : PV -> Prop) : Prop :=
 (aG (zc2 n f es n2 f2 ss (0 : Int) true []) /\ J (0 : Int) true []) /\ ∀ (x6 : Int) (n_0 : Bool) (s_0 : LL), J x6 n_0 s_0 -> if decide (x6 < (↑ss.length : Int)) = true then PCall qa 97 [PV.sl n f es, PV.sl n2 f2 ss, Z6 x6] fun v => ∃ n1, v = Z6 n1 /\ (fA ss.length (some x6) (some n1) none /\ aQ ss 1) /\ (aQ [[PV.sl n2 (f2 && decide (n1 = (↑ss.length : Int))) (qk x6.toNat (qaw n1.toNat ss))]] 1 /\ (s_0.length + 1) * 24 <= 140737488355328) /\ aG (zc2 n f es n2 f2 ss n1 (n_0 && false) (s_0 ++ [[PV.sl n2 (f2 && decide (n1 = (↑ss.length : Int))) (qk x6.toNat (qaw n1.toNat ss))]])) /\ J n1 (n_0 && false) (s_0 ++ [[PV.sl n2 (f2 && decide (n1 = (↑ss.length : Int))) (qk x6.toNat (qaw n1.toNat ss))]]) /\ μ n1 (n_0 && false) (s_0 ++ [[PV.sl n2 (f2 && decide (n1 = (↑ss.length : Int))) (qk x6.toNat (qaw n1.toNat ss))]]) < μ x6 n_0 s_0 else R (PV.sl n_0 false s_0)
theorem zxc {R : PV -> Prop} (h : zl4 n f es n2 f2 ss J μ R) : PCall qa 63 [.sl n f es, .sl n2 f2 ss] R :=
 PCall.wz Tryz.func63 aP [0, 1, 4, 5, 6, 7, 11] (bY 3 (a8 dS (zc2 n f es n2 f2 ss) J μ (fun e h => (gI e 6, oN h 0, oS h 0)) [(5, 22, 1)] [0, 1, 5, 6] [])) h
end
end Go.Eng
namespace Go.Eng
open Go Go.Proofs Go.Eng.Rows Go.Eng.Trie Go.Eng.Srt
def zc3 (st : SSt) : PV := .agg [.bool st.some, .int .i64 st.last, .int .i64 st.pict, .int .i64 st.conj, .bool st.odd]
theorem zl5 {r : Int} (h : 44032 <= r /\ r <= 55203) : i32.wrap (r - 44032) = r - 44032 := cW (by omega) (by omega)
section
variable {rows : List Row} {v : PV}
theorem zl6 (hv : dV rows v) {r : Int} (hr : -2147483648 <= r /\ r <= 2147483647) : PCall qa 142 [v, .int .i32 r] fun x => x = .int .i64 (aL rows r) := by
 obtain ⟨tc, tg, tj, tf, tp, made, sec, rfl, ht, hm⟩ := hv;refine zww _ _ _ _ _ _ _ _ ?_; unfold zlo;by_cases hh : 44032 <= r /\ r <= 55203
 ·rw [zl5 hh];by_cases hm28 : (r - 44032).tmod 28 = 0
  ·refine bA (by simp [hh, hm28]) ?_;unfold aL; rw [if_pos hh, if_pos hm28]
  ·refine bD (by simp [hm28]) (bA (by simp [hh]) ?_);unfold aL; rw [if_pos hh, if_neg hm28]
 ·refine bD (by simp; omega) (bD (by simp; omega) ?_);obtain ⟨ps, rfl⟩ := ht.g.ptr;refine .inl ⟨ps, rfl, ?_⟩;have hw : i64.wrap r = r := aF (by omega) (by omega);rw [hw];refine (za4 ht.g r (by omega)).mono ?_;rintro _ rfl;refine ⟨_, rfl, ?_⟩;rw [zbr]; unfold aL; rw [if_neg hh]
theorem zxd (hv : dV rows v) {r : Int} (hr : -2147483648 <= r /\ r <= 2147483647) : PCall qa 144 [v, .int .i32 r] fun x => x = .int .i64 (bS rows r) := by
 have hb := zl6 hv hr;obtain ⟨tc, tg, tj, tf, tp, made, sec, rfl, ht, hm⟩ := hv;refine zwx _ _ _ _ _ _ _ _ ?_; unfold zlp;obtain ⟨ps, rfl⟩ := ht.j.ptr;refine .inl ⟨ps, rfl, ?_⟩;have hw : i64.wrap r = r := aF (by omega) (by omega);rw [hw];refine (za4 ht.j r (by omega)).mono ?_;rintro _ rfl;refine ⟨_, rfl, ?_⟩;rw [zbr];unfold bS;refine aC (fun hc => ?_) (fun hc => ?_)
 ·simp only [bne_iff_ne, ne_eq] at hc;rw [if_pos hc]
 ·simp only [bne_iff_ne, ne_eq, qi] at hc;rw [if_neg (fun h => h hc)];refine hb.mono ?_;rintro _ rfl;refine ⟨_, rfl, aC (fun h2 => ?_) (fun h2 => ?_)⟩
  ·simp only [qc, qm, beq_iff_eq, bne_iff_ne, ne_eq] at h2;rw [if_pos h2]
  ·simp only [qc, qm, beq_iff_eq, bne_iff_ne, ne_eq] at h2;rw [if_neg h2]
theorem zxe (hv : dV rows v) {r : Int} (hr : -2147483648 <= r /\ r <= 2147483647) : PCall qa 143 [v, .int .i32 r] fun x => x = .bool (bR rows 5 r) := by
 obtain ⟨tc, tg, tj, tf, tp, made, sec, rfl, ht, hm⟩ := hv;refine zwy _ _ _ _ _ _ _ _ ?_; unfold zlq;obtain ⟨ps, rfl⟩ := ht.f.ptr;refine .inl ⟨ps, rfl, ?_⟩;have hw : i64.wrap r = r := aF (by omega) (by omega);rw [hw];refine (zi4 ht.f r (by omega)).mono ?_;rintro _ rfl;rw [zjx];exact ⟨_, rfl, rfl, _, rfl, _, rfl, _, rfl, _, rfl, rfl⟩
theorem nW (n f : Bool) (hl : rows.length < 1000000) {r : Int} (hr : -2147483648 <= r /\ r <= 2147483647) : PCall qa 152 [.sl n f (bB rows), .int .i32 r] fun x => x = .int .i64 (aL rows r) := by
 refine zwz _ _ _ _ ?_; unfold zlr;refine aC (fun hh => ?_) (fun hh => ?_)
 ·simp only [qc, aB, ge_iff_le] at hh;rw [zl5 hh];unfold aL; rw [if_pos hh];refine aC (fun h2 => ?_) (fun h2 => ?_)
  ·simp only [beq_iff_eq] at h2; rw [if_pos h2]
  ·simp only [beq_iff_eq] at h2; rw [if_neg h2]
 ·simp only [qc, aB, ge_iff_le] at hh;refine (mJ n f 4 r hl hr).mono ?_;rintro _ rfl;unfold aL; rw [if_neg hh];exact ⟨_, rfl, rfl⟩
theorem zl7 (n f : Bool) (hl : rows.length < 1000000) {r : Int} (hr : -2147483648 <= r /\ r <= 2147483647) : PCall qa 170 [.sl n f (bB rows), .int .i32 r] fun x => x = .int .i64 (bS rows r) := by
 refine zw0 _ _ _ _ ?_; unfold zls;refine (mJ n f 6 r hl hr).mono ?_;rintro _ rfl;refine ⟨_, rfl, ?_⟩;unfold bS;refine aC (fun hc => ?_) (fun hc => ?_)
 ·simp only [bne_iff_ne, ne_eq] at hc;rw [if_pos hc]
 ·simp only [bne_iff_ne, ne_eq, qi] at hc;rw [if_neg (fun h => h hc)];refine (nW n f hl hr).mono ?_;rintro _ rfl;refine ⟨_, rfl, aC (fun h2 => ?_) (fun h2 => ?_)⟩
  ·simp only [qc, qm, beq_iff_eq, bne_iff_ne, ne_eq] at h2;rw [if_pos h2]
  ·simp only [qc, qm, beq_iff_eq, bne_iff_ne, ne_eq] at h2;rw [if_neg h2]
theorem zxf (a b : Int) : PCall qa 145 [.int .i64 a, .int .i64 b] fun x => x = .bool (iB a b) := by
 refine zw1 _ _ ?_; unfold zlt;simp only [beq_iff_eq];have hd : ∀ x y : Int, (x == y) = decide (x = y) := fun x y => by by_cases h : x = y <;> simp [h]
 simp only [hd];unfold iB nU;rcases (by omega : b = 1 ∨ b = 2 ∨ b = 3 ∨ b = 4 ∨ b = 5 ∨ b = 8 ∨ (b ≠ 1 /\ b ≠ 2 /\ b ≠ 3 /\ b ≠ 4 /\ b ≠ 5 /\ b ≠ 8)) with rfl | rfl | rfl | rfl | rfl | rfl | ⟨b1, b2, b3, b4, b5, b8⟩
 all_goals
  rcases (by omega : a = 1 ∨ a = 2 ∨ a = 3 ∨ a = 7 ∨ a = 9 ∨ a = 10 ∨ a = 11 ∨ a = 12 ∨ a = 13 ∨ (a ≠ 1 /\ a ≠ 2 /\ a ≠ 3 /\ a ≠ 7 /\ a ≠ 9 /\ a ≠ 10 /\ a ≠ 11 /\ a ≠ 12 /\ a ≠ 13)) with rfl | rfl | rfl | rfl | rfl | rfl | rfl | rfl | rfl | ⟨a1, a2, a3, a7, a9, a10, a11, a12, a13⟩
 all_goals simp [*, qbf]
theorem zxg (hv : dV rows v) (st : SSt) {r : Int} (hr : -2147483648 <= r /\ r <= 2147483647) : PCall qa 120 [zc3 st, v, .int .i32 r] fun x => x = .tup [zc3 (dQ rows st r), .bool (pP rows st r)] := by
 have h1 := zl6 hv hr;have h2 := zxe hv hr;have h3 := zxd hv hr;obtain ⟨tc, tg, tj, tf, tp, made, sec, rfl, ht, hm⟩ := hv;obtain ⟨so, la, pi, co, od⟩ := st;refine zw2 _ _ _ _ _ _ _ _ _ _ _ _ _ ?_; unfold zlu;refine h1.mono ?_;rintro _ rfl;refine ⟨_, rfl, ?_⟩;refine h2.mono ?_;rintro _ rfl;refine ⟨_, rfl, ?_⟩;refine h3.mono ?_;rintro _ rfl;refine ⟨_, rfl, ?_⟩;refine (zxf la (aL rows r)).mono ?_;rintro _ rfl;refine ⟨_, rfl, ?_⟩;unfold dQ pP sI zc3;dsimp only;have hd : ∀ x y : Int, (x == y) = decide (x = y) := fun x y => by by_cases h : x = y <;> simp [h]
 have hd2 : ∀ x y : Int, (x != y) = !decide (x = y) := fun x y => by by_cases h : x = y <;> simp [h]
 simp only [hd, hd2];generalize iB la (aL rows r) = b1;generalize bR rows 5 r = b;generalize bS rows r = c;generalize aL rows r = n;by_cases n6 : n = 6
 ·subst n6;cases b1 <;> cases b <;> by_cases p2 : pi = 2 <;> by_cases c2 : c = 2 <;> by_cases k2 : co = 2 <;> by_cases c1 : c = 1 <;> by_cases c3 : c = 3 <;> by_cases k0 : co = 0 <;> first | omega | simp [*]
 ·by_cases p1 : pi = 1
  ·subst p1;by_cases n4 : n = 4
   ·subst n4;cases b1 <;> cases b <;> by_cases c2 : c = 2 <;> by_cases k2 : co = 2 <;> by_cases c1 : c = 1 <;> by_cases c3 : c = 3 <;> by_cases k0 : co = 0 <;> first | omega | simp [*]
   ·by_cases n5 : n = 5
    ·subst n5;cases b1 <;> cases b <;> by_cases c2 : c = 2 <;> by_cases k2 : co = 2 <;> by_cases c1 : c = 1 <;> by_cases c3 : c = 3 <;> by_cases k0 : co = 0 <;> first | omega | simp [*]
    ·cases b1 <;> cases b <;> by_cases c2 : c = 2 <;> by_cases k2 : co = 2 <;> by_cases c1 : c = 1 <;> by_cases c3 : c = 3 <;> by_cases k0 : co = 0 <;> first | omega | simp [*]
  ·cases b1 <;> cases b <;> by_cases p2 : pi = 2 <;> by_cases c2 : c = 2 <;> by_cases k2 : co = 2 <;> by_cases c1 : c = 1 <;> by_cases c3 : c = 3 <;> by_cases k0 : co = 0 <;> first | omega | simp [*]
end
theorem fJ {L : List Int} (h : R32 L) (i : Nat) : -2147483648 <= L.getD i 0 /\ L.getD i 0 <= 2147483647 := by
 by_cases hi : i < L.length
 ·rw [show L.getD i 0 = L[i] by simp [qar, hi]]; exact h _ (qg hi)
 ·rw [show L.getD i 0 = 0 by simp [qar, hi]]; omega
theorem fX {l : List Int} {i : Int} (h0 : 0 <= i) (hi : i.toNat < l.length) : aI (aA l) i 1 /\ (aA l).getD i.toNat [] = [.int .i32 (l.getD i.toNat 0)] := by
 obtain ⟨h1, h2⟩ := gE h0 hi;exact ⟨h1, by rw [h2]; simp [qar, hi]⟩
theorem zl8 : ∀ {C : List (List Int)}, (∀ c ∈ C, c ≠ []) -> C.length <= C.flatten.length
 | [], _ => qo _
 | c :: C, h => by
   have h1 := List.length_pos_iff.2 (h c qaf);have := zl8 fun x hx => h x (qaj c hx);rw [qay, qd, ql]; omega
theorem sJ (rows : List Row) (L : List Int) : (cJ rows L 0).length <= L.length := by
 have := zl8 (zln (rows := rows) (L := L) L.length 0 (by omega));rwa [zlm] at this
theorem zxh {C : List (List Int)} {c : List Int} (h : c ∈ C) : c.length <= C.flatten.length := by
 induction C with
 | nil => cases h
 | cons d C ih =>
   rw [qay, qd];rcases List.mem_cons.1 h with rfl | h
   ·omega
   ·have := ih h; omega
theorem zl9 {rows : List Row} {L c : List Int} (h : c ∈ cJ rows L 0) : c.length <= L.length := by
 have := zxh h;rwa [zlm] at this
theorem wD {α : Type} {l : List α} {i : Nat} (d : α) (h : i < l.length) : l.getD i d = l[i] := by simp [qar, h]
theorem PCall.vac {P : Program} {f : Nat} {args args' : List PV} {Q Q' : PV -> Prop} (h : PCall P f args' Q') {k : Nat} {fl : Bool} {es : List (List PV)} (hk : args[k]? = some (.sl true fl es)) (hne : es ≠ []) : PCall P f args Q :=
 ⟨h.1, fun w I G cargs _ _ h3 => by
  have := h3 k (.pv (.sl true fl es)) (by rw [List.getElem?_map, hk]; rfl);generalize cargs.getD k undef = c at this;cases this with
  | pv _ _ h =>
    generalize hx : es = xs at h;cases h with
    | slnil => exact absurd hx hne⟩
theorem zc4 {L : List Int} (h : L ≠ []) : aA L ≠ [] := fun e => h (by cases L with | nil => rfl | cons a b => cases e)
section
variable {rows : List Row} {v : PV}
theorem zma {L : List Int} {i : Nat} (hi : i < L.length) (hb : fI rows L i = false) : fW rows L (L.length - i) i = fW rows L (L.length - (i + 1)) (i + 1) := by
 rw [show L.length - i = (L.length - (i + 1)) + 1 by omega, fW, if_neg (by rw [hb]; decide)]
theorem zmb {L : List Int} {i : Nat} (hi : i < L.length) (hb : fI rows L i = true) : fW rows L (L.length - i) i = i := by
 rw [show L.length - i = (L.length - (i + 1)) + 1 by omega, fW, if_pos hb]
theorem zxi (ht : eC rows) (hv : dV rows v) (n f : Bool) (L : List Int) (hr : R32 L) (hL : L.length < 1000000000000) (k : Int) (k0 : 0 <= k) (k1 : k < L.length) (hb : fI rows L k.toNat = true) :
 PCall qa 94 [v, .sl n f (aA L), .int .i64 k] fun x => x = .int .i64 (bZ rows L k.toNat : Nat) := by
 have hs := fun st {r : Int} hr => zxg hv st (r := r) hr;obtain ⟨tc, tg, tj, tf, tp, made, sec, rfl, ht', hm⟩ := hv
 refine zw3 _ _ _ _ _ _ _ _ _ _ _
  (fun i so la pi co od => (k + 1 <= i /\ i <= L.length) /\ aY rows L k.toNat (i.toNat - k.toNat) = ⟨so, la, pi, co, od⟩ /\ bZ rows L k.toNat = fW rows L (L.length - i.toNat) i.toNat) (fun i _ _ _ _ _ => L.length - i.toNat) ?_
 unfold zlv;have hl8 : ((aA L).length : Int) = L.length := by rw [bH]
 rw [hl8];refine bD (by simp; omega) ?_;have hk : k.toNat < L.length := by omega
 obtain ⟨g1, g2⟩ := fX k0 hk;have hw : i64.wrap (k + 1) = k + 1 := aF (by omega) (by omega);refine ⟨g1, _, by rw [g2]; rfl, ?_⟩;refine (hs st0 (fJ hr k.toNat)).mono ?_;rintro _ rfl;rw [hw];refine ⟨_, rfl, rfl, _, rfl, _, rfl, rfl, _, rfl, _, rfl, _, rfl, _, rfl, _, rfl, _, rfl, _, rfl, ⟨rfl, ⟨by omega, by omega⟩, ?_, ?_⟩, ?_⟩
 ·rw [show (k + 1).toNat - k.toNat = 1 by omega]; rfl
 ·rw [show (k + 1).toNat = k.toNat + 1 by omega]; rfl
 rintro i so la pi co od ⟨⟨i0, i1⟩, hst, hn⟩;refine aC (fun hc => ?_) (fun hc => ?_)
 ·simp only [aB] at hc;have hi : i.toNat < L.length := by omega
  obtain ⟨j, hj⟩ : ∃ j, i.toNat = k.toNat + (j + 1) := ⟨i.toNat - k.toNat - 1, by omega⟩;obtain ⟨g1, g2⟩ := fX (l := L) (i := i) (by omega) hi;have hwi : i64.wrap (i + 1) = i + 1 := aF (by omega) (by omega)
  have hcut : pP rows ⟨so, la, pi, co, od⟩ (L.getD i.toNat 0) = fI rows L i.toNat := by
   rw [<- hst, hj, show k.toNat + (j + 1) - k.toNat = j + 1 by omega];exact zwp ht hb j
  have hstep : aY rows L k.toNat ((i + 1).toNat - k.toNat) = dQ rows ⟨so, la, pi, co, od⟩ (L.getD i.toNat 0) := by
   rw [<- hst, show (i + 1).toNat - k.toNat = (i.toNat - k.toNat) + 1 by omega];show dQ rows _ (L.getD (k.toNat + (i.toNat - k.toNat)) 0) = _;rw [show k.toNat + (i.toNat - k.toNat) = i.toNat by omega]
  have body : ∀ K : Prop, K -> if fI rows L i.toNat = true then (PV.int .i64 i = .int .i64 (bZ rows L k.toNat : Nat)) else K /\ ((k + 1 <= i + 1 /\ i + 1 <= L.length) /\ aY rows L k.toNat ((i + 1).toNat - k.toNat) = ⟨(dQ rows ⟨so, la, pi, co, od⟩ (L.getD i.toNat 0)).some, (dQ rows ⟨so, la, pi, co, od⟩ (L.getD i.toNat 0)).last, (dQ rows ⟨so, la, pi, co, od⟩ (L.getD i.toNat 0)).pict, (dQ rows ⟨so, la, pi, co, od⟩ (L.getD i.toNat 0)).conj, (dQ rows ⟨so, la, pi, co, od⟩ (L.getD i.toNat 0)).odd⟩ /\ bZ rows L k.toNat = fW rows L (L.length - (i + 1).toNat) (i + 1).toNat) /\ L.length - (i + 1).toNat < L.length - i.toNat := fun K hK => by
   split
   ·rename_i hbi;rw [hn, zmb hi hbi, show ((i.toNat : Nat) : Int) = i by omega]
   ·rename_i hbi;refine ⟨hK, ⟨⟨by omega, by omega⟩, by rw [hstep], ?_⟩, by omega⟩;rw [hn, zma hi (by simpa using hbi), show (i + 1).toNat = i.toNat + 1 by omega]
  have call := hs ⟨so, la, pi, co, od⟩ (fJ hr i.toNat);rw [hcut] at call;rw [hwi];refine ⟨g1, _, by rw [g2]; rfl, call.mono ?_, call.mono ?_⟩
  ·rintro _ rfl;exact ⟨_, rfl, rfl, _, rfl, _, rfl, rfl, _, rfl, _, rfl, _, rfl, _, rfl, _, rfl, _, rfl, _, rfl, body _ rfl, body _ rfl, body _ rfl⟩
  ·rintro _ rfl;exact ⟨_, rfl, rfl, _, rfl, _, rfl, rfl, _, rfl, _, rfl, _, rfl, _, rfl, _, rfl, _, rfl, _, rfl, body _ rfl, body _ rfl⟩
 ·simp only [aB] at hc;have hie : i.toNat = L.length := by omega
  rw [hn, show L.length - i.toNat = 0 by omega];show _ = PV.int .i64 ((i.toNat : Nat) : Int);rw [show ((i.toNat : Nat) : Int) = i by omega]
theorem sK (n f : Bool) (l : List Int) (hn : n = true -> l = []) (hl : l.length < 1000000000000) : PCall qa 67 [.sl n f (aA l)] fun x => x = .sl n false (aA l) :=
 PCall.ofA (args := [_]) (zkj n f (aA l) (fun h => by rw [hn h]; rfl) ⟨rfl, .inl rfl, fun e he => (by cases he), dO _, by simp only [qv, bH]; omega⟩) fun r h' ⟨hr, hh⟩ => by subst hr; subst hh; exact ⟨_, rfl, rfl⟩
def clT (q : Bool × Bool × List Int) : List PV := [.sl q.1 q.2.1 (aA q.2.2)]
theorem sL (q : Bool × Bool × List Int) : (clT q).length = 1 := rfl
theorem zmc (ht : eC rows) (hv : dV rows v) (n f : Bool) (L : List Int) (hn0 : n = true -> L = []) (hr : R32 L) (hL : L.length < 100000000) :
 PCall qa 59 [v, .sl n f (aA L)] fun x => ∃ (n : Bool) (Q : List (Bool × Bool × List Int)), x = .sl n false (Q.map clT) /\ Q.map (fun q => q.2.2) = cJ rows L 0 /\ (∀ q ∈ Q, q.1 = true -> q.2.2 = []) /\ (n = true -> Q = []) := by
 have hnx := fun k k0 k1 hb => zxi ht hv n f L hr (by omega) k k0 k1 hb;obtain ⟨tc, tg, tj, tf, tp, made, sec, rfl, ht', hm⟩ := hv
 refine zw4 _ _ _ _ _ _ _ _ _ _
  (fun i n s => (0 <= i /\ i <= L.length) /\ (i.toNat = L.length ∨ fI rows L i.toNat = true) /\ ∃ Q : List (Bool × Bool × List Int), s = Q.map clT /\ cJ rows L 0 = Q.map (fun q => q.2.2) ++ cJ rows L i.toNat /\ (∀ q ∈ Q, q.1 = true -> q.2.2 = []) /\ (n = true -> Q = []) /\ Q.length <= i.toNat) (fun i _ _ => L.length - i.toNat) ?_
 unfold zlw;have hl8 : ((aA L).length : Int) = L.length := by rw [bH]
 rw [hl8];refine ⟨⟨rfl, ⟨qp _, by omega⟩, .inr rfl, [], rfl, rfl, (fun q hq => by cases hq), (fun _ => rfl), qo _⟩, ?_⟩;rintro i n2 _ ⟨⟨i0, i1⟩, hbeg, Q, rfl, hcl, hq, hnq, hql⟩;refine aC (fun hc => ?_) (fun hc => ?_)
 ·simp only [aB] at hc;have hi : i.toNat < L.length := by omega
  have hb := hbeg.resolve_left (by omega);obtain ⟨x1, x2, x3⟩ := pQ (rows := rows) hi;refine (hnx i i0 hc hb).mono ?_;rintro _ rfl;refine ⟨_, rfl, ⟨zlb i0 (by omega) (by rw [bH]; omega), dO _⟩, ?_⟩;rw [show (((bZ rows L i.toNat : Nat) : Int)).toNat = bZ rows L i.toNat by omega, zlc];have hsl := zwj L i.toNat (bZ rows L i.toNat);have hsn : n = true -> eI L i.toNat (bZ rows L i.toNat) = [] := fun h => by rw [hn0 h] at hi; cases hi
  refine (sK n _ (eI L i.toNat (bZ rows L i.toNat)) hsn (by omega)).mono ?_;rintro _ rfl;refine ⟨_, _, _, rfl, ⟨lC (enc := clT) sL [(n, false, eI L i.toNat (bZ rows L i.toNat))], by rw [qb]; omega⟩, rfl, ⟨⟨by omega, by omega⟩, ?_, Q ++ [(n, false, eI L i.toNat (bZ rows L i.toNat))], by rw [qj]; rfl, ?_, fun q hq2 => ?_, fun h => by simp at h, ?_⟩, ?_⟩
  ·rw [show (((bZ rows L i.toNat : Nat) : Int)).toNat = bZ rows L i.toNat by omega]; exact x3
  ·rw [show (((bZ rows L i.toNat : Nat) : Int)).toNat = bZ rows L i.toNat by omega, hcl, wB hi, qj, qu]; rfl
  ·rcases List.mem_append.1 hq2 with hq2 | hq2
   ·exact hq q hq2
   ·rw [List.mem_singleton.1 hq2]; exact hsn
  ·rw [show (((bZ rows L i.toNat : Nat) : Int)).toNat = bZ rows L i.toNat by omega, qd, qe]; omega
  ·dsimp only; omega
 ·simp only [aB] at hc;rw [pR (i := i.toNat) (by omega), qad] at hcl;exact ⟨n2, Q, rfl, hcl.symm, hq, hnq⟩
theorem zmd (ht : eC rows) (hv : dV rows v) (n f : Bool) (L : List Int) (hr : R32 L) (hL : L.length < 100000000) :
 PCall qa 59 [v, .sl n f (aA L)] fun x => ∃ (n : Bool) (Q : List (Bool × Bool × List Int)), x = .sl n false (Q.map clT) /\ Q.map (fun q => q.2.2) = cJ rows L 0 := by
 by_cases h : n = true -> L = []
 ·exact (zmc ht hv n f L h hr hL).mono fun x ⟨n, Q, h1, h2, _⟩ => ⟨n, Q, h1, h2⟩
 ·have hn : n = true := by cases n with | true => rfl | false => exact absurd (fun h => by cases h) h
  subst hn;exact PCall.vac (zmc ht hv false f L (fun h => by cases h) hr hL) (k := 1) rfl (zc4 fun e => h fun _ => e)
theorem qAt {C : List (List Int)} {Q : List (Bool × Bool × List Int)} (hQ : Q.map (fun q => q.2.2) = C) {i : Int} (i0 : 0 <= i) (hi : i.toNat < C.length) : aI (Q.map clT) i 1 /\ ∃ n f, (Q.map clT).getD i.toNat [] = [.sl n f (aA (C.getD i.toNat []))] := by
 subst hQ;rw [qb] at hi;refine ⟨bQ sL i0 (by omega), Q[i.toNat].1, Q[i.toNat].2.1, ?_⟩;rw [cN hi, wD [] (by rw [qb]; exact hi), qab]; rfl
end
end Go.Eng
namespace Go.Eng.Rows
open Go Go.Eng Go.Eng.Trie Go.Eng.Srt
def eZ (p : Int × List Int) (c : List Int) : Bool := decide (p.1 = 1) || (decide (p.1 = 0) && decide (p.2 = c))
def bI : List (Int × List Int) -> List (List Int) -> Bool
 | [], [] => true
 | [], _ :: _ => false
 | p :: ps, [] => decide (p.1 = 2) && bI ps []
 | p :: ps, c :: cs => if p.1 = 2 then bI ps (c :: cs) || bI (p :: ps) cs else eZ p c && bI ps cs
 termination_by P C => P.length + C.length
theorem mP : bI [] [] = true := by rw [bI]
theorem mQ (c : List Int) (cs : List (List Int)) : bI [] (c :: cs) = false := by rw [bI]
theorem lN (p : Int × List Int) (ps : List (Int × List Int)) : bI (p :: ps) [] = (decide (p.1 = 2) && bI ps []) := by rw [bI]
theorem gJ (p : Int × List Int) (ps : List (Int × List Int)) (c : List Int) (cs : List (List Int)) : bI (p :: ps) (c :: cs) = if p.1 = 2 then bI ps (c :: cs) || bI (p :: ps) cs else eZ p c && bI ps cs := by rw [bI]
inductive Deal : List (Int × List Int) -> List (List Int) -> Prop
 | nil : Deal [] []
 | one {p : Int × List Int} {c : List Int} {ps : List (Int × List Int)} {cs : List (List Int)} (h : p.1 ≠ 2) (h1 : eZ p c = true) (h2 : Deal ps cs) : Deal (p :: ps) (c :: cs)
 | many {p : Int × List Int} {D : List (List Int)} {ps : List (Int × List Int)} {cs : List (List Int)} (h : p.1 = 2) (h2 : Deal ps cs) : Deal (p :: ps) (D ++ cs)
theorem Deal.app {P Q : List (Int × List Int)} {C D : List (List Int)} (h : Deal P C) (k : Deal Q D) : Deal (P ++ Q) (C ++ D) := by
 induction h with
 | nil => exact k
 | one h h1 _ ih => exact .one h h1 ih
 | many h _ ih => rw [qu]; exact .many h ih
theorem Deal.rev {P : List (Int × List Int)} {C : List (List Int)} (h : Deal P C) : Deal P.reverse C.reverse := by
 induction h with
 | nil => exact .nil
 | one h h1 _ ih =>
   rw [qan, qan];exact ih.app (.one h h1 .nil)
 | @many p D ps cs h _ ih =>
   rw [qan, qbh];refine ih.app ?_;have := Deal.many (D := D.reverse) h Deal.nil;rwa [qad] at this
theorem zme {p : Int × List Int} {ps : List (Int × List Int)} (h : p.1 = 2) {cs : List (List Int)} (h2 : bI ps cs = true) : ∀ D : List (List Int), bI (p :: ps) (D ++ cs) = true
 | [] => by
   cases cs with
   | nil => rw [qac, lN, h2, decide_eq_true h]; rfl
   | cons c cs => rw [qac, gJ, if_pos h, h2]; rfl
 | d :: D => by rw [qap, gJ, if_pos h, zme h h2 D, Bool.or_true]
theorem zmf {P : List (Int × List Int)} {C : List (List Int)} (h : Deal P C) : bI P C = true := by
 induction h with
 | nil => exact mP
 | one h h1 _ ih => rw [gJ, if_neg h, h1, ih]; rfl
 | many h _ ih => exact zme h ih _
theorem sM : ∀ (n : Nat) {P : List (Int × List Int)} {C : List (List Int)}, P.length + C.length <= n -> bI P C = true -> Deal P C
 | _, [], [], _, _ => .nil
 | _, [], c :: cs, _, h => by rw [mQ] at h; cases h
 | 0, p :: ps, C, hn, h => by simp at hn
 | n + 1, p :: ps, [], hn, h => by
   rw [lN, qc, aB] at h;exact Deal.many (D := []) h.1 (sM n (by simp only [ql] at hn; omega) h.2)
 | n + 1, p :: ps, c :: cs, hn, h => by
   simp only [ql] at hn;rw [gJ] at h;split at h
   ·rename_i hp;rw [qm] at h;rcases h with h | h
    ·exact Deal.many (D := []) hp (sM n (by simp only [ql]; omega) h)
    ·have := sM n (by simp only [ql]; omega) h;cases this with
     | one h3 _ _ => exact absurd hp h3
     | many _ h2 => rw [<- qap]; exact .many hp h2
   ·rename_i hp;rw [qc] at h;exact .one hp h.1 (sM n (by omega) h.2)
theorem lO {P : List (Int × List Int)} {C : List (List Int)} : bI P C = true ↔ Deal P C := ⟨sM _ (qo _), zmf⟩
theorem zxj (P : List (Int × List Int)) (C : List (List Int)) : bI P.reverse C.reverse = bI P C := by
 apply Bool.eq_iff_iff.2;rw [lO, lO];exact ⟨fun h => by simpa using h.rev, Deal.rev⟩
inductive Ones : List (Int × List Int) -> List (List Int) -> Prop
 | nil : Ones [] []
 | cons {p : Int × List Int} {c : List Int} {ps : List (Int × List Int)} {cs : List (List Int)} (h : p.1 ≠ 2) (h1 : eZ p c = true) (h2 : Ones ps cs) : Ones (p :: ps) (c :: cs)
theorem Ones.deal {P : List (Int × List Int)} {C : List (List Int)} (h : Ones P C) : Deal P C := by
 induction h with
 | nil => exact .nil
 | cons h h1 _ ih => exact .one h h1 ih
theorem Ones.snoc {P : List (Int × List Int)} {C : List (List Int)} (h : Ones P C) {p : Int × List Int} {c : List Int} (h1 : p.1 ≠ 2) (h2 : eZ p c = true) : Ones (P ++ [p]) (C ++ [c]) := by
 induction h with
 | nil => exact .cons h1 h2 .nil
 | cons h h1 _ ih => exact .cons h h1 ih
theorem Ones.len {P : List (Int × List Int)} {C : List (List Int)} (h : Ones P C) : P.length = C.length := by
 induction h with
 | nil => rfl
 | cons h h1 _ ih => rw [ql, ql, ih]
theorem Ones.split {P : List (Int × List Int)} {C : List (List Int)} (h : Ones P C) {R : List (Int × List Int)} : ∀ {D : List (List Int)}, Deal (P ++ R) D -> ∃ E cs, D = E ++ cs /\ E.length = P.length /\ Deal R cs := by
 induction h with
 | nil => exact fun {D} hd => ⟨[], D, rfl, rfl, hd⟩
 | cons h h1 _ ih =>
   intro D hd;cases hd with
   | one _ _ h2 =>
     obtain ⟨E, cs, e, hl, hd⟩ := ih h2;exact ⟨_ :: E, cs, by rw [e]; rfl, by rw [ql, ql, hl], hd⟩
   | many h3 _ => exact absurd h3 h
theorem pS {p : Int × List Int} (hp : p.1 = 2) {P : List (Int × List Int)} {C : List (List Int)} : Deal (p :: P) C ↔ ∃ D cs, C = D ++ cs /\ Deal P cs := by
 constructor
 ·intro h;cases h with
  | one h _ _ => exact absurd hp h
  | many _ h2 => exact ⟨_, _, rfl, h2⟩
 ·rintro ⟨D, cs, rfl, h⟩;exact .many hp h
def nX (P : List (Int × List Int)) : Bool := P.all fun p => decide (p.1 = 2)
theorem zc5 : ∀ P : List (Int × List Int), bI P [] = nX P
 | [] => mP
 | p :: P => by rw [lN, zc5 P]; rfl
section
variable {Q P : List (Int × List Int)} {E C : List (List Int)} {x y : Int × List Int}
theorem zxk (hx : x.1 = 2) (hy : y.1 = 2) (h : Ones Q E) : bI (x :: (Q ++ y :: P)) (E ++ C) = bI (y :: P) C := by
 apply Bool.eq_iff_iff.2;rw [lO, lO, pS hx];constructor
 ·rintro ⟨D, cs, e, hd⟩;obtain ⟨E', cs', rfl, hl, hd2⟩ := h.split hd;obtain ⟨D2, cs2, rfl, hd3⟩ := (pS hy).1 hd2;rw [pS hy];have hl2 := h.len;have e2 : E ++ C = (D ++ (E' ++ D2)) ++ cs2 := by rw [e]; simp only [qu]
  have e3 : C = (E ++ C).drop E.length := (List.drop_left' rfl).symm;rw [e2, qat (by simp only [qd]; omega)] at e3;exact ⟨_, cs2, e3, hd3⟩
 ·intro hd;exact ⟨[], _, rfl, h.deal.app hd⟩
theorem zxl (hx : x.1 = 2) {c : List Int} (h : Ones Q E) (hm : bI P (c :: C) = false) (hone : ∀ p ps, P = p :: ps -> p.1 ≠ 2) {f : List Int} {F : List (List Int)} (hf : E ++ c :: C = f :: F) :
 bI (x :: (Q ++ P)) (f :: F) = bI (x :: (Q ++ P)) F := by
 rw [gJ, if_pos hx]
 have : bI (Q ++ P) (f :: F) = false := by
  cases hb : bI (Q ++ P) (f :: F) with
  | false => rfl
  | true =>
    rw [lO, <- hf] at hb;obtain ⟨E', cs', e, hl, hd⟩ := h.split hb;have hl2 := h.len;obtain ⟨rfl, rfl⟩ := List.append_inj e (by omega);rw [zmf hd] at hm; cases hm
 rw [this]; rfl
theorem zxm (hx : x.1 = 2) (h : Ones Q E) : bI (x :: (Q ++ P)) E = nX P := by
 rw [<- zc5];apply Bool.eq_iff_iff.2;rw [lO, lO, pS hx];constructor
 ·rintro ⟨D, cs, e, hd⟩;obtain ⟨E', cs', rfl, hl, hd2⟩ := h.split hd;have hl2 := h.len;have hlen := congrArg qq e;simp only [qd] at hlen;have : cs' = [] := qt (by omega);rwa [this] at hd2
 ·intro hd;refine ⟨[], E, rfl, ?_⟩;have := h.deal.app hd;rwa [qad] at this
end
def lP (P : List (Int × List Int)) (C : List (List Int)) (a i star fr : Int) : Prop :=
 (0 <= a /\ a <= P.length) /\ (0 <= i /\ i <= C.length) /\
  ((star = -1 /\ fr = 0 /\ bI P C = bI (P.drop a.toNat) (C.drop i.toNat)) ∨
   (0 <= star /\ star < a /\ 0 <= fr /\ fr <= i /\ ∃ Q E, P.drop (star.toNat + 1) = Q ++ P.drop a.toNat /\ C.drop fr.toNat = E ++ C.drop i.toNat /\ Ones Q E /\ bI P C = bI ((2, []) :: P.drop (star.toNat + 1)) (C.drop fr.toNat)))
section
variable {P : List (Int × List Int)} {C : List (List Int)} {a i star fr : Int}
theorem zxn : lP P C 0 0 (-1) 0 := ⟨⟨by omega, by omega⟩, ⟨by omega, by omega⟩, .inl ⟨rfl, rfl, rfl⟩⟩
theorem iC {α : Type} {l : List α} {k : Nat} (h : k < l.length) : l.drop k = l[k] :: l.drop (k + 1) := qy h
theorem zmg {x : Int × List Int} (hx : x.1 = 2) (P : List (Int × List Int)) (C : List (List Int)) : bI (x :: P) C = bI ((2, []) :: P) C := by
 apply Bool.eq_iff_iff.2;rw [lO, lO, pS hx, pS rfl]
theorem zxo (h : lP P C a i star fr) (ha : a.toNat < P.length) (hp : P[a.toNat].1 = 2) : lP P C (a + 1) i a i := by
 obtain ⟨⟨a0, a1⟩, ⟨i0, i1⟩, h⟩ := h;have e1 : (a + 1).toNat = a.toNat + 1 := by omega
 refine ⟨⟨by omega, by omega⟩, ⟨i0, i1⟩, .inr ⟨a0, by omega, i0, qp _, [], [], by rw [e1]; rfl, rfl, .nil, ?_⟩⟩;rcases h with ⟨_, _, e⟩ | ⟨s0, s1, f0, f1, Q, E, g1, g2, g3, e⟩
 ·rw [e, iC ha, zmg hp]
 ·rw [e, g1, g2, iC ha, zxk rfl hp g3, zmg hp]
theorem zxp (h : lP P C a i star fr) (ha : a.toNat < P.length) (hi : i.toNat < C.length) (hp : P[a.toNat].1 ≠ 2) (h1 : eZ P[a.toNat] C[i.toNat] = true) : lP P C (a + 1) (i + 1) star fr := by
 obtain ⟨⟨a0, a1⟩, ⟨i0, i1⟩, h⟩ := h;have e1 : (a + 1).toNat = a.toNat + 1 := by omega
 have e2 : (i + 1).toNat = i.toNat + 1 := by omega
 refine ⟨⟨by omega, by omega⟩, ⟨by omega, by omega⟩, ?_⟩;rw [e1, e2];rcases h with ⟨s0, f0, e⟩ | ⟨s0, s1, f0, f1, Q, E, g1, g2, g3, e⟩
 ·left;refine ⟨s0, f0, ?_⟩;rw [e, iC ha, iC hi, gJ, if_neg hp, h1]; rfl
 ·right;refine ⟨s0, by omega, f0, by omega, Q ++ [P[a.toNat]], E ++ [C[i.toNat]], ?_, ?_, g3.snoc hp h1, e⟩
  ·rw [g1, iC ha, qu]; rfl
  ·rw [g2, iC hi, qu]; rfl
theorem zmh (h : lP P C a i star fr) (hi : i.toNat < C.length) (hm : ∀ h : a.toNat < P.length, P[a.toNat].1 ≠ 2 /\ eZ P[a.toNat] C[i.toNat] = false) :
 (star = -1 -> bI P C = false) /\ (0 <= star -> lP P C (star + 1) (fr + 1) star (fr + 1)) := by
 obtain ⟨⟨a0, a1⟩, ⟨i0, i1⟩, h⟩ := h
 have hf : bI (P.drop a.toNat) (C.drop i.toNat) = false := by
  rw [iC hi];by_cases ha : a.toNat < P.length
  ·rw [iC ha, gJ, if_neg (hm ha).1, (hm ha).2]; rfl
  ·rw [qw (by omega), mQ]
 rcases h with ⟨s0, f0, e⟩ | ⟨s0, s1, f0, f1, Q, E, g1, g2, g3, e⟩
 ·exact ⟨fun _ => by rw [e, hf], fun h => by omega⟩
 ·refine ⟨fun h => by omega, fun _ => ⟨⟨by omega, by omega⟩, ⟨by omega, by omega⟩, .inr ⟨s0, by omega, by omega, qp _, [], [], ?_, rfl, .nil, ?_⟩⟩⟩
  ·rw [show (star + 1).toNat = star.toNat + 1 by omega]; rfl
  ·have hfl : fr.toNat < C.length := by omega
   rw [e, show (fr + 1).toNat = fr.toNat + 1 by omega, iC hfl, g1];refine zxl rfl g3 (C := C.drop (i.toNat + 1)) (c := C[i.toNat]) (by rw [<- iC hi]; exact hf) (fun p ps hps => ?_) (by rw [<- iC hi, <- g2, iC hfl]);by_cases ha : a.toNat < P.length
   ·rw [iC ha] at hps;cases hps; exact (hm ha).1
   ·rw [qw (by omega)] at hps; cases hps
theorem zxq (h : lP P C a i star fr) (hi : ¬i.toNat < C.length) : bI P C = nX (P.drop a.toNat) := by
 obtain ⟨⟨a0, a1⟩, ⟨i0, i1⟩, h⟩ := h;have hc : C.drop i.toNat = [] := qw (by omega);rcases h with ⟨s0, f0, e⟩ | ⟨s0, s1, f0, f1, Q, E, g1, g2, g3, e⟩
 ·rw [e, hc, zc5]
 ·rw [e, g1, g2, hc, qad, zxm rfl g3]
end
def kD (p c : Nat) (a i fr : Int) : Nat := (c + 1 - fr.toNat) * (p + c + 2) + (p - a.toNat) + (c - i.toNat)
theorem zxr {p c : Nat} {a i fr : Int} (h0 : 0 <= a) (h1 : a.toNat < p) (h2 : fr <= i) : kD p c (a + 1) i i < kD p c a i fr := by
 unfold kD;have : (c + 1 - i.toNat) * (p + c + 2) <= (c + 1 - fr.toNat) * (p + c + 2) := Nat.mul_le_mul_right _ (by omega);omega
theorem zxs {p c : Nat} {a i fr : Int} (h0 : 0 <= a) (h1 : a.toNat < p) : kD p c (a + 1) (i + 1) fr < kD p c a i fr := by
 unfold kD; omega
theorem zmi {p c : Nat} {a i fr b j : Int} (h0 : 0 <= fr) (h1 : fr <= c) : kD p c b j (fr + 1) < kD p c a i fr := by
 unfold kD
 have : (c + 1 - fr.toNat) * (p + c + 2) = (c + 1 - (fr + 1).toNat) * (p + c + 2) + (p + c + 2) := by
  rw [show c + 1 - fr.toNat = (c + 1 - (fr + 1).toNat) + 1 by omega, Nat.succ_mul]
 omega
def fK (rows : List Row) (l : List Int) : List (Int × List Int) := (cJ rows (cC rows l) 0).map fun c => (0, c)
def kE (o : List (Int × List Int)) : List (Int × List Int) := match o.getLast? with
 | some p => if p.1 = 2 then o else o ++ [(2, [])]
 | none => o ++ [(2, [])]
def prs (rows : List Row) (out : List (Int × List Int)) (plain : List Int) : List Int -> Option (List (Int × List Int))
 | [] => some (out ++ fK rows plain)
 | c :: l => if c = 92 then (match l with
  | [] => none
  | d :: l' => prs rows out (plain ++ [d]) l')
   else if c = 42 then prs rows (kE (out ++ fK rows plain)) [] l else if c = 63 then prs rows (out ++ fK rows plain ++ [(1, [])]) [] l else prs rows out (plain ++ [c]) l
section
variable {rows : List Row} {out : List (Int × List Int)} {plain l : List Int} {c : Int}
theorem pU : prs rows out plain [] = some (out ++ fK rows plain) := by rw [prs]
theorem sN : prs rows out plain (42 :: l) = prs rows (kE (out ++ fK rows plain)) [] l := by rw [prs.eq_def]; dsimp only; rw [if_neg (by decide), if_pos rfl]
theorem sO : prs rows out plain (63 :: l) = prs rows (out ++ fK rows plain ++ [(1, [])]) [] l := by rw [prs.eq_def]; dsimp only; rw [if_neg (by decide), if_neg (by decide), if_pos rfl]
theorem pV (h1 : c ≠ 92) (h2 : c ≠ 42) (h3 : c ≠ 63) : prs rows out plain (c :: l) = prs rows out (plain ++ [c]) l := by rw [prs.eq_def]; dsimp only; rw [if_neg h1, if_neg h2, if_neg h3]
theorem wE : prs rows out plain [92] = none := by rw [prs.eq_def]; dsimp only; rw [if_pos rfl]
theorem wF {d : Int} : prs rows out plain (92 :: d :: l) = prs rows out (plain ++ [d]) l := by rw [prs.eq_def]; dsimp only; rw [if_pos rfl]
end
def e8 : List (Int × List Int) -> Prop
 | p :: q :: r => ¬(p.1 = 2 /\ q.1 = 2) /\ e8 (q :: r)
 | _ => True
theorem sP : ∀ {A B : List (Int × List Int)}, e8 A -> e8 B -> (∀ p q, A.getLast? = some p -> B.head? = some q -> ¬(p.1 = 2 /\ q.1 = 2)) -> e8 (A ++ B)
 | [], B, _, hb, _ => hb
 | [p], [], _, _, _ => trivial
 | [p], q :: B, _, hb, h => ⟨h p q rfl rfl, hb⟩
 | p :: q :: A, B, ha, hb, h => ⟨ha.1, sP (A := q :: A) ha.2 hb fun x y hx hy => h x y (by rw [List.getLast?_cons_cons]; exact hx) hy⟩
theorem zmj : ∀ {A : List (Int × List Int)}, e8 A -> ∀ (i : Nat) (h : i + 1 < A.length), ¬(A[i].1 = 2 /\ A[i + 1].1 = 2)
 | p :: q :: r, h, 0, _ => h.1
 | p :: q :: r, h, i + 1, hi => zmj (A := q :: r) h.2 i (by simpa using hi)
theorem zc6 {rows : List Row} {A : List (Int × List Int)} (h : e8 A) (l : List Int) : e8 (A ++ fK rows l) := by
 have hz : ∀ p ∈ fK rows l, p.1 = 0 := fun p hp => by
  obtain ⟨c, _, rfl⟩ := List.mem_map.1 hp; rfl
 refine sP h ?_ fun p q _ hq hpq => ?_
 ·revert hz
  generalize fK rows l = B;intro hz
  induction B with
  | nil => trivial
  | cons p B ih =>
    cases B with
    | nil => trivial
    | cons q B => exact ⟨fun h => by have := hz p qaf; omega, ih fun x hx => hz x (qaj _ hx)⟩
 ·have := hz q (List.mem_of_mem_head? hq); omega
theorem zxt {A : List (Int × List Int)} (h : e8 A) {p : Int × List Int} (hp : p.1 ≠ 2) : e8 (A ++ [p]) :=
 sP h trivial fun x y _ hy hxy => by cases hy; exact hp hxy.2
theorem zxu {A : List (Int × List Int)} (h : e8 A) : e8 (kE A) := by
 unfold kE;cases hl : A.getLast? with
 | none => exact sP h trivial fun x y hx _ _ => by rw [hl] at hx; cases hx
 | some p =>
   dsimp only;split
   ·exact h
   ·rename_i hp;exact sP h trivial fun x y hx _ hxy => by rw [hl] at hx; cases hx; exact hp hxy.1
theorem sQ {rows : List Row} : ∀ (n : Nat) {out : List (Int × List Int)} {plain l : List Int} {P : List (Int × List Int)}, l.length <= n -> e8 out -> prs rows out plain l = some P -> e8 P
 | _, out, plain, [], P, _, h, e => by rw [pU] at e; cases e; exact zc6 h _
 | 0, out, plain, c :: l, P, hn, h, e => by simp at hn
 | n + 1, out, plain, c :: l, P, hn, h, e => by
   simp only [ql] at hn;by_cases h1 : c = 92
   ·subst h1;cases l with
    | nil => rw [wE] at e; cases e
    | cons d l => rw [wF] at e; exact sQ n (by simp only [ql] at hn; omega) h e
   ·by_cases h2 : c = 42
    ·subst h2; rw [sN] at e; exact sQ n (by omega) (zxu (zc6 h _)) e
    ·by_cases h3 : c = 63
     ·subst h3; rw [sO] at e; exact sQ n (by omega) (zxt (zc6 h _) (by decide)) e
     ·rw [pV h1 h2 h3] at e; exact sQ n (by omega) h e
def c7 (P : List (Int × List Int)) (C : List (List Int)) (i n : Nat) : Bool := bI (P.take i).reverse (C.take n).reverse
section
variable {P : List (Int × List Int)} {C : List (List Int)}
theorem pW {α : Type} {l : List α} {i : Nat} (h : i < l.length) : (l.take (i + 1)).reverse = l[i] :: (l.take i).reverse := by
 rw [qaq h, qbh]; rfl
theorem zmk (n : Nat) (hn : n <= C.length) : c7 P C 0 n = decide (n = 0) := by
 unfold c7;cases n with
 | zero => exact mP
 | succ n =>
   rw [qau, pW (by omega), qbp, mQ];exact (decide_eq_false (by omega)).symm
theorem zc7 {i : Nat} (hi : i < P.length) : c7 P C (i + 1) 0 = (decide (P[i].1 = 2) && c7 P C i 0) := by
 unfold c7;rw [pW hi, qau, qbp, lN]
theorem zml {i n : Nat} (hi : i < P.length) (hn : n < C.length) (hp : P[i].1 = 2) : c7 P C (i + 1) (n + 1) = (c7 P C i (n + 1) || c7 P C (i + 1) n) := by
 unfold c7;rw [pW hi, pW hn, gJ, if_pos hp]
theorem zxv {i n : Nat} (hi : i < P.length) (hn : n < C.length) (hp : P[i].1 ≠ 2) : c7 P C (i + 1) (n + 1) = (eZ P[i] C[n] && c7 P C i n) := by
 unfold c7;rw [pW hi, pW hn, gJ, if_neg hp]
theorem zxw : c7 P C P.length C.length = bI P C := by
 unfold c7;rw [qbb, qbb, zxj]
end
def iD (P : List (Int × List Int)) : Prop := ∀ p ∈ P, p.1 = 0 ∨ p.1 = 1 ∨ p.1 = 2
theorem sR {A B : List (Int × List Int)} (h : iD A) (k : iD B) : iD (A ++ B) := fun p hp => (List.mem_append.1 hp).elim (h p) (k p)
theorem zc8 (rows : List Row) (l : List Int) : iD (fK rows l) := fun p hp => by
 obtain ⟨c, _, rfl⟩ := List.mem_map.1 hp; exact .inl rfl
theorem zxx {A : List (Int × List Int)} (h : iD A) : iD (kE A) := by
 have h2 : iD (A ++ [(2, [])]) := sR h fun p hp => by rw [List.mem_singleton.1 hp]; exact .inr (.inr rfl)
 unfold kE;cases A.getLast? with
 | none => exact h2
 | some p =>
   dsimp only;split
   ·exact h
   ·exact h2
theorem sS {rows : List Row} : ∀ (n : Nat) {out : List (Int × List Int)} {plain l : List Int} {P : List (Int × List Int)}, l.length <= n -> iD out -> prs rows out plain l = some P -> iD P
 | _, out, plain, [], P, _, h, e => by rw [pU] at e; cases e; exact sR h (zc8 rows _)
 | 0, out, plain, c :: l, P, hn, h, e => by simp at hn
 | n + 1, out, plain, c :: l, P, hn, h, e => by
   simp only [ql] at hn;by_cases h1 : c = 92
   ·subst h1;cases l with
    | nil => rw [wE] at e; cases e
    | cons d l => rw [wF] at e; exact sS n (by simp only [ql] at hn; omega) h e
   ·by_cases h2 : c = 42
    ·subst h2; rw [sN] at e; exact sS n (by omega) (zxx (sR h (zc8 rows _))) e
    ·by_cases h3 : c = 63
     ·subst h3; rw [sO] at e;exact sS n (by omega) (sR (sR h (zc8 rows _)) fun p hp => by rw [List.mem_singleton.1 hp]; exact .inr (.inl rfl)) e
     ·rw [pV h1 h2 h3] at e; exact sS n (by omega) h e
end Go.Eng.Rows
namespace Go.Eng
open Go Go.Proofs
section
variable (k : Int) (n f : Bool) (es : LL) (n2 f2 : Bool) (ss : LL)
def zmm (R : PV -> Prop) : Prop :=
 if (k == 1) = true then R (Zb true) else if (k == 0) = true then PCall qa 69 [PV.sl n f es, PV.sl n2 f2 ss] fun v => ∃ b, v = Zb b /\ R (Zb b) else R (Zb false)
theorem zxy {R : PV -> Prop} (h : zmm k n f es n2 f2 ss R) : PCall qa 62 [.agg [.int .i64 k, .sl n f es], .sl n2 f2 ss] R :=
 PCall.wz Tryz.func62 aP [0, 1, 2, 4] aW h
end
def zc9 (np fp : Bool) (ps : LL) (n7 f7 : Bool) (s7 : LL) (x8 x9 x10 x11 : Int) : Env × Hp := ([(3, LV.box 0 0), (7, .pv (.sl n7 f7 s7)), (8, Y6 x8), (9, Y6 x9), (10, Y6 x10), (11, Y6 x11)], [.box [LV.pv (PV.sl np fp ps)]])
def zda (np fp : Bool) (ps : LL) (x8 : Int) : Env × Hp := ([(3, LV.box 0 0), (8, Y6 x8)], [.box [LV.pv (PV.sl np fp ps)]])
section
variable (np fp : Bool) (ps : LL) (tc tg tj tf tp : PV) (M S : List (PV × PV)) (n f : Bool) (es : LL) (J : Bool -> Bool -> LL -> Int -> Int -> Int -> Int -> Prop) (μ : Bool -> Bool -> LL -> Int -> Int -> Int -> Int -> Nat) (J2 : Int -> Prop) (μ2 : Int -> Nat)
def zmn (R : PV -> Prop) : Prop :=
 PCall qa 60 [PV.ptr [tc, tg, tj, tf, tp, PV.mp M, PV.mp S], PV.sl n f es] fun v => ∃ n1 f1 es1, v = PV.sl n1 f1 es1 /\ PCall qa 59 [PV.ptr [tc, tg, tj, tf, tp, PV.mp M, PV.mp S], PV.sl n1
  f1 es1] fun v1 => ∃ n2 f2 es2, v1 = PV.sl n2 f2 es2 /\ (aG (zc9 np fp ps n2 f2 es2 (0 : Int) (0 : Int) (-1 : Int) (0 : Int)) /\ J n2 f2 es2 (0 : Int) (0 : Int) (-1 : Int) (0 : Int)) /\ ∀ (n7 f7 :
  Bool) (s7 : LL) (x8 x9 x10 x11 : Int), J n7 f7 s7 x8 x9 x10 x11 ->
 let K4 := fun (y0_ y1_ : Bool) (y2_ : LL) (y3_ y4_ y5_ y6_ : Int) => aG (zc9 np fp ps y0_ y1_ y2_ y3_ y4_ y5_ y6_) /\ J y0_ y1_ y2_ y3_ y4_ y5_ y6_ /\ μ y0_ y1_ y2_ y3_ y4_ y5_ y6_ < μ n7 f7 s7 x8 x9 x10
  x11; if decide (x9 < (↑s7.length : Int)) = true then
 let V1 :=
 let V2 := if decide (x10 >= 0) = true then K4 n7 f7 s7 (i64.wrap (x10 + 1)) (i64.wrap (x11 + 1)) x10 (i64.wrap (x11 + 1)) else R (Zb false); if decide (x8 < (↑ps.length : Int)) = true then aI ps x8 2 /\ ∃ (n4 :
  Int), (ps.getD x8.toNat []).head? = some (Z6 n4) /\ ∃ n5 f3 es3, (ps.getD x8.toNat []).tail.head? = some (PV.sl n5 f3 es3) /\ aI s7 x9 1 /\ ∃ n6 f4 es4, (s7.getD x9.toNat
  []).head? = some (PV.sl n6 f4 es4) /\ PCall qa 62 [PV.agg [Z6 n4, PV.sl n5 f3 es3], PV.sl n6 f4 es4] fun v2 => ∃ b, v2 = Zb b /\ if b = true then K4 n7 f7 s7 (i64.wrap (x8 + 1)) (i64.wrap (x9 + 1)) x10
  x11 else V2 else V2; if decide (x8 < (↑ps.length : Int)) = true then aI ps x8 2 /\ ∃ n3, (qk 0 (ps.getD x8.toNat [])).head? = some (Z6 n3) /\ if (n3 == 2) = true then K4 n7 f7 s7 (i64.wrap (x8 + 1)) x9 x8 x9 else
  V1 else V1 else (aG (zda np fp ps x8) /\ J2 x8) /\ ∀ (x81 : Int), J2 x81 -> if decide (x81 < (↑ps.length : Int)) = true then aI ps x81 2 /\ ∃ n3, (qk 0 (ps.getD x81.toNat [])).head? = some (Z6 n3) /\ if (n3 == 2) =
  true then aG (zda np fp ps (i64.wrap (x81 + 1))) /\ J2 (i64.wrap (x81 + 1)) /\ μ2 (i64.wrap (x81 + 1)) < μ2 x81 else R (Zb (x81 == (↑ps.length : Int))) else R (Zb (x81 == (↑ps.length : Int)))
theorem zxz {R : PV -> Prop} (h : zmn np fp ps tc tg tj tf tp M S n f es J μ J2 μ2 R) : PCall qa 18 [.agg [.sl np fp ps], .ptr [tc, tg, tj, tf, tp, .mp M, .mp S], .sl n f es] R :=
 PCall.wz Tryz.func18 aP [0, 1, 2, 3, 6, 7, 8, 9, 10, 11, 20, 21, 40, 62, 83] (gU [(4, (a8 kZ (zc9 np fp ps) J μ (fun e h => (gN e 7, gF e 7, gS e 7, gI e 8, gI e 9, gI e 10, gI e 11)) [] [3, 7, 8, 9, 10, 11] [])), (13, (a8 mA (zda np fp ps) J2 μ2 (fun e h => (((gI e 8), ()))) [] [3, 8] []))]) h
end
def zdb (np fp : Bool) (ps : LL) (tc tg tj tf tp : PV) (M S : List (PV × PV)) (n f : Bool) (es : LL) (x12 : Int) (n_1 : Bool) (s_1 : LL) : Env × Hp := ([(1, LV.pv (PV.ptr [tc, tg, tj, tf, tp, PV.mp M, PV.mp S])), (3, LV.box 0 0), (7, LV.own 1), (10, LV.pv (PV.sl n f es)), (11, LV.pv (PV.int i64 (es.length : Int))), (12, Y6 x12)], [.box [LV.pv (PV.sl np fp ps)], .sl (22, 1) true n_1 s_1])
section
variable (np fp : Bool) (ps : LL) (tc tg tj tf tp : PV) (M S : List (PV × PV)) (n f : Bool) (es : LL) (J : Int -> Bool -> LL -> Prop) (μ : Int -> Bool -> LL -> Nat)
def zmo (R : PV -> Prop) : Prop :=
 (aG (zdb np fp ps tc tg tj tf tp M S n f es (0 : Int) true []) /\ J (0 : Int) true []) /\ ∀ (x12 : Int) (n_1 : Bool) (s_1 : LL), J x12 n_1 s_1 ->
 let K3 := fun (y0_ : Int) (y1_ : Bool) (y2_ : LL) => aG (zdb np fp ps tc tg tj tf tp M S n f es y0_ y1_ y2_) /\ J y0_ y1_ y2_ /\ μ y0_ y1_ y2_ < μ x12 n_1 s_1; if decide (x12 < (↑es.length : Int)) = true then aI es x12 1 /\ ∃ n1 f1 es1, (es.getD x12.toNat []).head? = some (PV.sl n1 f1 es1) /\ PCall qa 18 [PV.agg [PV.sl np fp ps], PV.ptr [tc, tg, tj, tf, tp, PV.mp M, PV.mp S], PV.sl n1 f1 es1] fun v => ∃ b, v = Zb b /\ if b = true then PCall qa 67 [PV.sl n1 f1 es1] fun v1 => ∃ n2 f2 es2, v1 = PV.sl n2 f2 es2 /\ (aQ [[PV.sl n2 f2 es2]] 1 /\ (s_1.length + 1) * 24 <= 140737488355328) /\ K3 (i64.wrap (x12 + 1)) (n_1 && false) (s_1 ++ [[PV.sl n2 f2 es2]]) else K3 (i64.wrap (x12 + 1)) n_1 s_1 else R (PV.sl n_1 false s_1)
theorem zx0 {R : PV -> Prop} (h : zmo np fp ps tc tg tj tf tp M S n f es J μ R) : PCall qa 24 [.agg [.sl np fp ps], .ptr [tc, tg, tj, tf, tp, .mp M, .mp S], .sl n f es] R :=
 PCall.wz Tryz.func24 aP [0, 1, 2, 3, 6, 7, 9, 10, 11, 12, 13, 19] (bY 3 (a8 dS (zdb np fp ps tc tg tj tf tp M S n f es) J μ (fun e h => (gI e 12, oN h 1, oS h 1)) [(7, 22, 1)] [1, 3, 7, 10, 11, 12] [])) h
end
def zdc (np fp : Bool) (ps : LL) (x9 : Int) (n_0 : Bool) (s_0 : LL) : Env × Hp := ([(3, LV.own 0), (7, LV.pv (PV.sl np fp ps)), (8, LV.pv (PV.int i64 (ps.length : Int))), (9, Y6 x9)], [.sl (44, 2) true n_0 s_0])
section
variable (np fp : Bool) (ps : LL) (J : Int -> Bool -> LL -> Prop) (μ : Int -> Bool -> LL -> Nat)
def zmp (R : PV -> Prop) : Prop :=
 (aG (zdc np fp ps (0 : Int) true []) /\ J (0 : Int) true []) /\ ∀ (x9 : Int) (n_0 : Bool) (s_0 : LL), J x9 n_0 s_0 -> if decide (x9 < (↑ps.length : Int)) = true then aI ps x9 2 /\ ∃ n, (ps.getD x9.toNat []).head? = some (Z6 n) /\ ∃ n1 f es, (ps.getD x9.toNat []).tail.head? = some (PV.sl n1 f es) /\ PCall qa 67 [PV.sl n1 f es] fun v => ∃ n2 f1 es1, v = PV.sl n2 f1 es1 /\ (aQ [[Z6 n, PV.sl n2 f1 es1]] 2 /\ (s_0.length + 1) * 32 <= 140737488355328) /\ aG (zdc np fp ps (i64.wrap (x9 + 1)) (n_0 && false) (s_0 ++ [[Z6 n, PV.sl n2 f1 es1]])) /\ J (i64.wrap (x9 + 1)) (n_0 && false) (s_0 ++ [[Z6 n, PV.sl n2 f1 es1]]) /\ μ (i64.wrap (x9 + 1)) (n_0 && false) (s_0 ++ [[Z6 n, PV.sl n2 f1 es1]]) < μ x9 n_0 s_0 else R (PV.sl n_0 false s_0)
theorem zx1 {R : PV -> Prop} (h : zmp np fp ps J μ R) : PCall qa 21 [.agg [.sl np fp ps]] R :=
 PCall.wz Tryz.func21 aP [0, 1, 2, 3, 5, 7, 8, 9, 10] (bY 3 (a8 dS (zdc np fp ps) J μ (fun e h => (gI e 9, oN h 0, oS h 0)) [(3, 44, 2)] [3, 7, 8, 9] [])) h
end
def zdd (tc tg tj tf tp : PV) (M S : List (PV × PV)) (n2 : Bool) (ss : LL) (n9 f9 : Bool) (s9 : LL) (x10 x11 : Int) (n_4 : Bool) (s_4 : LL) : Env × Hp := ([(1, LV.box 1 0), (2, LV.box 2 0), (9, .pv (.sl n9 f9 s9)), (10, Y6 x10), (11, Y6 x11)], [.box [LV.pv (PV.ptr [tc, tg, tj, tf, tp, PV.mp M, PV.mp S])], .box [LV.pv (PV.sl n2 false ss)], .box [LV.own 4], .dead, .sl (44, 2) true n_4 s_4])
def zmq (tc tg tj tf tp : PV) (M S : List (PV × PV)) (n2 f2 : Bool) (n1 m1 m2 : Bool) (ps ss : LL) (J : Bool -> Bool -> LL -> Int -> Int -> Bool -> LL -> Prop) (μ : Bool -> Bool -> LL -> Int -> Int -> Bool -> LL -> Nat) (R : LV -> Hp -> Prop) : Prop :=
 PCall qa 60 [PV.ptr [tc, tg, tj, tf, tp, PV.mp M, PV.mp S], PV.sl n2 false ss] fun v => ∃ n f es, v = PV.sl n f es /\ PCall qa 59 [PV.ptr [tc, tg, tj, tf, tp, PV.mp M, PV.mp S], PV.sl n f es] fun v1 => ∃ n3 f1 es1, v1 = PV.sl n3 f1 es1 /\ (aG (zdd tc tg tj tf tp M S n2 ss n3 f1 es1 (↑es1.length : Int) (0 : Int) n1 ps) /\ J n3 f1 es1 (↑es1.length : Int) (0 : Int) n1 ps) /\ ∀ (n9 f9 : Bool) (s9 : LL) (x10 x11 : Int) (n_4 : Bool) (s_4 : LL), J n9 f9 s9 x10 x11 n_4 s_4 -> if decide (x11 < x10) = true then aI s9 x11 1 /\ ∃ n4 f3 es2, (s9.getD x11.toNat []).head? = some (PV.sl n4 f3 es2) /\ (aQ [[Z6 0, PV.sl n4 f3 es2]] 2 /\ (s_4.length + 1) * 32 <= 140737488355328) /\ aG (zdd tc tg tj tf tp M S n2 ss n9 f9 s9 x10 (i64.wrap (x11 + 1)) (n_4 && false) (s_4 ++ [[Z6 0, PV.sl n4 f3 es2]])) /\ J n9 f9 s9 x10 (i64.wrap (x11 + 1)) (n_4 && false) (s_4 ++ [[Z6 0, PV.sl n4 f3 es2]]) /\ μ n9 f9 s9 x10 (i64.wrap (x11 + 1)) (n_4 && false) (s_4 ++ [[Z6 0, PV.sl n4 f3 es2]]) < μ n9 f9 s9 x10 x11 n_4 s_4 else R (LV.tup []) [Ob.box [LV.pv (PV.ptr [tc, tg, tj, tf, tp, PV.mp M, PV.mp S])], Ob.box [LV.pv (PV.sl true true [])], Ob.box [LV.own 4], Ob.dead, Ob.sl (44, 2) true n_4 s_4]
theorem zx2 (tc tg tj tf tp : PV) (M S : List (PV × PV)) (n2 f2 : Bool) (n1 m1 m2 : Bool) (ps ss : LL) (J : Bool -> Bool -> LL -> Int -> Int -> Bool -> LL -> Prop) (μ : Bool -> Bool -> LL -> Int -> Int -> Bool -> LL -> Nat) {R : LV -> Hp -> Prop} (h : zmq tc tg tj tf tp M S n2 f2 n1 m1 m2 ps ss J μ R) : ACall qa 58 [.box 0 0, .box 1 0, .box 2 0] [.box [.pv (.ptr [tc, tg, tj, tf, tp, .mp M, .mp S])], .box [.own 3], .box [.own 4], .sl (21, 1) m1 n2 ss, .sl (44, 2) m2 n1 ps] R :=
 ACall.wz Tryz.func58 aP [0, 1, 2, 4, 9, 10, 11, 12] (bY 1 (a8 kZ (zdd tc tg tj tf tp M S n2 ss) J μ (fun e h => (gN e 9, gF e 9, gS e 9, gI e 10, gI e 11, oN h 4, oS h 4)) [] [1, 2, 9, 10, 11] [4])) [0, 1, 2, 3, 4] h

def zde (tc tg tj tf tp : PV) (M S : List (PV × PV)) (n f : Bool) (es : LL) (x9 : Int) (n_4 : Bool) (s_4 : LL) (n_5 : Bool) (s_5 : LL) : Env × Hp := ([(6, LV.box 0 0), (4, LV.box 1 0), (8, LV.fn 58 [LV.box 2 0, LV.box 3 0, LV.box 0 0]), (1, LV.pv (PV.sl n f es)), (7, LV.box 3 0), (9, Y6 x9)], [.box [LV.own 4], .box [LV.pv (PV.sl true true [])], .box [LV.pv (PV.ptr [tc, tg, tj, tf, tp, PV.mp M, PV.mp S])], .box [LV.own 5], .sl (44, 2) true n_4 s_4, .sl (21, 1) true n_5 s_5])
section
variable (tc tg tj tf tp : PV) (M S : List (PV × PV)) (n f : Bool) (es : LL) (J : Int -> Bool -> LL -> Bool -> LL -> Prop) (μ : Int -> Bool -> LL -> Bool -> LL -> Nat)
def zmr (R : PV -> Prop) : Prop :=
 (aG (zde tc tg tj tf tp M S n f es (0 : Int) true [] true []) /\ J (0 : Int) true [] true []) /\ ∀ (x9 : Int) (n_4 : Bool) (s_4 : LL) (n_5 : Bool) (s_5 : LL), J x9 n_4 s_4 n_5 s_5 ->
 let K5 := fun (y0_ : Int) (y1_ : Bool) (y2_ : LL) (y3_ : Bool) (y4_ : LL) => aG (zde tc tg tj tf tp M S n f es y0_ y1_ y2_ y3_ y4_) /\ J y0_ y1_ y2_ y3_ y4_ /\ μ y0_ y1_ y2_ y3_ y4_ < μ x9 n_4 s_4 n_5 s_5; if decide (x9 < (↑es.length :
  Int)) = true then aI es x9 1 /\ ∃ n1, (es.getD x9.toNat []).head? = some (Z3 n1) /\
 let V1 := ACall qa 58 [LV.box 0 0, LV.box 1 0, LV.box 2 0] [Ob.box [LV.pv (PV.ptr [tc, tg, tj, tf, tp, PV.mp M, PV.mp S])], Ob.box [LV.own 3], Ob.box [LV.own 4], Ob.sl (21, 1) false n_5 s_5, Ob.sl (44, 2) false n_4 s_4] fun (r : LV)
  (h' : Hp) => ∃ (t : Bool × LL), (r = LV.tup [] /\ h' = [Ob.box [LV.pv (PV.ptr [tc, tg, tj, tf, tp, PV.mp M, PV.mp S])], Ob.box [LV.pv (PV.sl true true [])], Ob.box [LV.own 4], Ob.dead, Ob.sl (44, 2) true t.fst t.snd]) /\ (True /\ True /\ True
  /\ True /\ True /\ True) /\ aI es x9 1 /\ ∃ n2, (es.getD x9.toNat []).head? = some (Z3 n2) /\ if (!n2 == 42) = true then (aQ [[Z6 1, PV.sl true true []]] 2 /\ (t.snd.length + 1) * 32 <= 140737488355328) /\ K5 (i64.wrap (x9 +
  1)) (t.fst && false) (t.snd ++ [[Z6 1, PV.sl true true []]]) true [] else
 let V2 := (aQ [[Z6 2, PV.sl true true []]] 2 /\ (t.snd.length + 1) * 32 <= 140737488355328) /\ K5 (i64.wrap (x9 + 1)) (t.fst && false) (t.snd ++ [[Z6 2, PV.sl true true []]]) true []; if ((↑t.snd.length : Int) == 0) = true then V2
  else aI t.snd (i64.wrap ((↑t.snd.length : Int) - 1)) 2 /\ ∃ n3, (qk 0 (t.snd.getD (i64.wrap ((↑t.snd.length : Int) - 1)).toNat [])).head? = some (Z6 n3) /\ if (n3 != 2) = true then V2 else K5
  (i64.wrap (x9 + 1)) t.fst t.snd true [];
 let V3 := if (n1 == 92) = true then if (i64.wrap (x9 + 1) == (↑es.length : Int)) = true then R (PV.tup [PV.agg [PV.sl true true []], Z6 4]) else aI es (i64.wrap (x9 + 1)) 1 /\ ∃ n2, (es.getD (i64.wrap (x9
  + 1)).toNat []).head? = some (Z3 n2) /\ (aQ [[Z3 n2]] 1 /\ (s_5.length + 1) * 4 <= 140737488355328) /\ K5 (i64.wrap (i64.wrap (x9 + 1) + 1)) n_4 s_4 (n_5 && false) (s_5 ++ [[Z3 n2]]) else aI es x9 1 /\ ∃ (n2 : Int),
  (es.getD x9.toNat []).head? = some (Z3 n2) /\ (aQ [[Z3 n2]] 1 /\ (s_5.length + 1) * 4 <= 140737488355328) /\ K5 (i64.wrap (x9 + 1)) n_4 s_4 (n_5 && false) (s_5 ++ [[Z3 n2]]); if (n1 == 42) = true then if (n1 == 42) = true then V1
  else V3 else if (n1 == 63) = true then V1 else V3 else ACall qa 58 [LV.box 0 0, LV.box 1 0, LV.box 2 0] [Ob.box [LV.pv (PV.ptr [tc, tg, tj, tf, tp, PV.mp M, PV.mp S])], Ob.box [LV.own 3], Ob.box [LV.own 4], Ob.sl (21, (1 : Nat))
  false n_5 s_5, Ob.sl (44, 2) false n_4 s_4] fun (r : LV) (h' : Hp) => ∃ (t : Bool × LL), (r = LV.tup [] /\ h' = [Ob.box [LV.pv (PV.ptr [tc, tg, tj, tf, tp, PV.mp M, PV.mp S])], Ob.box [LV.pv (PV.sl true true [])], Ob.box [LV.own 4],
  Ob.dead, Ob.sl (44, 2) true t.fst t.snd]) /\ (True /\ True /\ True /\ True /\ True /\ True) /\ if decide ((↑t.snd.length : Int) > 1000) = true then R (PV.tup [PV.agg [PV.sl true true []], Z6 7]) else R (PV.tup [PV.agg [PV.sl t.fst false t.snd],
  Z6 0])
theorem zx3 {R : PV -> Prop} (h : zmr tc tg tj tf tp M S n f es J μ R) : PCall qa 15 [.ptr [tc, tg, tj, tf, tp, .mp M, .mp S], .sl n f es] R :=
 PCall.wz Tryz.func15 (fun zz_ => match zz_ with | 6000000 => some ⟨Bool × LL, fun _ hs t => (.tup [], match hs with | [a, .box _, c, _, .sl ty _ _ _] => [a, .box [.pv (.sl true true [])], c, .dead, .sl ty true t.1 t.2] | h => h), none⟩ | 6000058 => some ⟨Bool × LL, fun _ hs t => (.tup [], match hs with | [a, .box _, c, _, .sl ty _ _ _] => [a, .box [.pv (.sl true true [])], c, .dead, .sl ty true t.1 t.2] | h => h), none⟩ | _ => none) [0, 1, 2, 4, 5, 6, 7, 8, 9, 10, 11, 16, 22, 30, 41, 62, 69, 76, 90] (bY 5 (a8 cz5 (zde tc tg tj tf tp M S n f es) J μ (fun e h => (gI e 9, oN h 4, oS h 4, oN h 5, oS h 5)) [(1002000, 44, 2), (1003000, 21, 1), (1000000, 44, 2)] [6, 4, 8, 1, 7, 9] [])) h
end
def zdg (n f : Bool) (es : LL) (n2 f2 : Bool) (ss : LL) (x8 : Int) (n_0 : Bool) (s_0 : LL) (n_1 : Bool) (s_1 : LL) : Env × Hp := ([(0, LV.pv (PV.sl n f es)), (1, LV.pv (PV.sl n2 f2 ss)), (6, LV.own 0), (7, LV.own 1), (8, Y6 x8)], [.sl (45, 2) true n_0 s_0, .sl (21, 1) true n_1 s_1])
section
variable (n f : Bool) (es : LL) (n2 f2 : Bool) (ss : LL) (J : Int -> Bool -> LL -> Bool -> LL -> Prop) (μ : Int -> Bool -> LL -> Bool -> LL -> Nat)
def zms (R : PV -> Prop) : Prop :=
 (aG (zdg n f es n2 f2 ss (0 : Int) true [] true []) /\ J (0 : Int) true [] true []) /\ ∀ (x8 : Int) (n_0 : Bool) (s_0 : LL) (n_1 : Bool) (s_1 : LL), J x8 n_0 s_0 n_1 s_1 ->
 let K4 := fun (y0_ : Int) (y1_ : Bool) (y2_ : LL) (y3_ : Bool) (y4_ : LL) => aG (zdg n f es n2 f2 ss y0_ y1_ y2_ y3_ y4_) /\ J y0_ y1_ y2_ y3_ y4_ /\ μ y0_ y1_ y2_ y3_ y4_ < μ x8 n_0 s_0 n_1 s_1; if decide (x8 < (↑ss.length : Int)) =
  true then aI ss x8 1 /\ ∃ n1, (ss.getD x8.toNat []).head? = some (Z3 n1) /\ if (n1 == 92) = true then if (x8 == i64.wrap ((↑ss.length : Int) - 1)) = true then R (PV.tup [PV.sl true true [], Z6 4]) else aI ss
  (i64.wrap (x8 + 1)) 1 /\ ∃ n3, (ss.getD (i64.wrap (x8 + 1)).toNat []).head? = some (Z3 n3) /\ (aQ [[Z3 n3]] 1 /\ (s_1.length + 1) * 4 <= 140737488355328) /\ K4 (i64.wrap (i64.wrap (x8 + 1) + 1)) n_0
  s_0 (n_1 && false) (s_1 ++ [[Z3 n3]]) else aI ss x8 1 /\ ∃ n3, (ss.getD x8.toNat []).head? = some (Z3 n3) /\
 let V1 := ACall qa 61 [LV.pv (PV.sl n f es), LV.own 0, LV.own 1] [Ob.sl (45, 2) false n_0 s_0, Ob.sl (21, 1) false n_1 s_1] fun (r : LV) (h' : Hp) => ∃ (t : Bool × LL), (r = LV.own 0 /\ h' = [Ob.sl (45, 2) true t.fst t.snd, Ob.dead])
  /\ (True /\ True /\ True) /\ aI ss x8 1 /\ ∃ n5, (ss.getD x8.toNat []).head? = some (Z3 n5) /\ if (n5 == 63) = true then (aQ [[Z6 1, PV.sl true true []]] 2 /\ (t.snd.length + 1) * 32 <= 140737488355328) /\ K4 (i64.wrap (x8 +
  1)) (t.fst && false) (t.snd ++ [[Z6 1, PV.sl true true []]]) true [] else
 let V2 := (aQ [[Z6 2, PV.sl true true []]] 2 /\ (t.snd.length + 1) * 32 <= 140737488355328) /\ K4 (i64.wrap (x8 + 1)) (t.fst && false) (t.snd ++ [[Z6 2, PV.sl true true []]]) true []; if ((↑t.snd.length : Int) == 0) = true then V2
  else aI t.snd (i64.wrap ((↑t.snd.length : Int) - 1)) 2 /\ ∃ n6, (qk 0 (t.snd.getD (i64.wrap ((↑t.snd.length : Int) - 1)).toNat [])).head? = some (Z6 n6) /\ if (n6 != 2) = true then V2 else K4
  (i64.wrap (x8 + 1)) t.fst t.snd true []; if (n3 != 42) = true then aI ss x8 1 /\ ∃ n4, (ss.getD x8.toNat []).head? = some (Z3 n4) /\ if (n4 != 63) = true then aI ss x8 1 /\ ∃ n5, (ss.getD x8.toNat []).head? =
  some (Z3 n5) /\ (aQ [[Z3 n5]] 1 /\ (s_1.length + 1) * 4 <= 140737488355328) /\ K4 (i64.wrap (x8 + 1)) n_0 s_0 (n_1 && false) (s_1 ++ [[Z3 n5]]) else V1 else V1 else ACall qa 61 [LV.pv (PV.sl n f es), LV.own 0, LV.own 1]
  [Ob.sl (45, 2) false n_0 s_0, Ob.sl (21, 1) false n_1 s_1] fun (r : LV) (h' : Hp) => ∃ (t : Bool × LL), (r = LV.own 0 /\ h' = [Ob.sl (45, (2 : Nat)) true t.fst t.snd, Ob.dead]) /\ (True /\ True /\ True) /\ if decide ((↑t.snd.length : Int) >
  1000) = true then R (PV.tup [PV.sl true true [], Z6 7]) else R (PV.tup [PV.sl t.fst false t.snd, Z6 0])
theorem zx4 {R : PV -> Prop} (h : zms n f es n2 f2 ss J μ R) : PCall qa 16 [.sl n f es, .sl n2 f2 ss] R :=
 PCall.wz Tryz.func16 (fun zz_ => match zz_ with | 61 => some ⟨Bool × LL, fun _ hs t => (.own 0, match hs with | [.sl ty _ _ _, _] => [.sl ty true t.1 t.2, .dead] | h => h), none⟩ | _ => none) [0, 1, 4, 5, 6, 7, 8, 12, 19, 24, 45, 61, 78, 89] (bY 4 (a8 cz5 (zdg n f es n2 f2 ss) J μ (fun e h => (gI e 8, oN h 0, oS h 0, oN h 1, oS h 1)) [(6, 45, 2), (7, 21, 1)] [0, 1, 6, 7, 8] [])) h
end
def zdh  (n7 f7 : Bool) (s7 : LL) (x8 : Int) (n_0 : Bool) (s_0 : LL) : Env × Hp := ([(1, LV.own 0), (7, .pv (.sl n7 f7 s7)), (8, Y6 x8)], [.sl (45, 2) true n_0 s_0, .dead])
section
variable (n f : Bool) (es : LL) (m1 n1 : Bool) (ps : LL) (m2 n3 : Bool) (s3 : LL) (J : Bool -> Bool -> LL -> Int -> Bool -> LL -> Prop) (μ : Bool -> Bool -> LL -> Int -> Bool -> LL -> Nat)
def zmt (R : LV -> Hp -> Prop) : Prop :=
 PCall qa 64 [PV.sl n f es, PV.sl n3 false s3] fun v => ∃ n2 f1 es1, v = PV.sl n2 f1 es1 /\ PCall qa 63 [PV.sl n f es, PV.sl n2 f1 es1] fun v1 => ∃ n4 f2 es2, v1 = PV.sl n4 f2 es2 /\ (aG (zdh n4 f2 es2 (0 : Int) n1 ps) /\ J n4 f2 es2 (0 : Int) n1 ps) /\ ∀ (n7 f7 : Bool) (s7 : LL) (x8 : Int) (n_0 : Bool) (s_0 : LL), J n7 f7 s7 x8 n_0 s_0 -> if decide (x8 < (↑s7.length : Int)) = true then aI s7 x8 1 /\ ∃ n5 f3 es3, (s7.getD x8.toNat []).head? = some (PV.sl n5 f3 es3) /\ (aQ [[Z6 0, PV.sl n5 f3 es3]] 2 /\ (s_0.length + 1) * 32 <= 140737488355328) /\ aG (zdh n7 f7 s7 (i64.wrap (x8 + 1)) (n_0 && false) (s_0 ++ [[Z6 0, PV.sl n5 f3 es3]])) /\ J n7 f7 s7 (i64.wrap (x8 + 1)) (n_0 && false) (s_0 ++ [[Z6 0, PV.sl n5 f3 es3]]) /\ μ n7 f7 s7 (i64.wrap (x8 + 1)) (n_0 && false) (s_0 ++ [[Z6 0, PV.sl n5 f3 es3]]) < μ n7 f7 s7 x8 n_0 s_0 else R (LV.own 0) [Ob.sl (45, 2) true n_0 s_0, Ob.dead]
theorem zx5 {R : LV -> Hp -> Prop} (h : zmt n f es n1 ps n3 s3 J μ R) : ACall qa 61 [.pv (.sl n f es), .own 0, .own 1] [.sl (45, 2) m1 n1 ps, .sl (21, 1) m2 n3 s3] R :=
 ACall.wz Tryz.func61 aP [0, 1, 2, 6, 7, 8, 17] (bY 3 (a8 cz6 zdh J μ (fun e h => (gN e 7, gF e 7, gS e 7, gI e 8, oN h 0, oS h 0)) [] [1, 7, 8] [0])) [0, 1] h
end
def zdi (n2 f2 : Bool) (ss : LL) (n7 f7 : Bool) (s7 : LL) (x9 : Int) (n_0 : Bool) (s_0 : LL) : Env × Hp := ([(1, LV.pv (PV.sl n2 f2 ss)), (7, .pv (.sl n7 f7 s7)), (8, LV.own 0), (9, Y6 x9)], [.sl (4, 1) true n_0 s_0])
def wG (n2 f2 : Bool) (ss : LL) (n7 f7 : Bool) (s7 : LL) (n8 f8 : Bool) (s8 : LL) (x10 : Int) : Env × Hp := ([(1, LV.pv (PV.sl n2 f2 ss)), (7, .pv (.sl n7 f7 s7)), (8, .pv (.sl n8 f8 s8)), (10, Y6 x10)], [])
def zdj (n2 f2 : Bool) (ss : LL) (n7 f7 : Bool) (s7 : LL) (n8 f8 : Bool) (s8 : LL) (x10 x12 : Int) (n_0 : Bool) (s_0 : LL) : Env × Hp := ([(1, LV.pv (PV.sl n2 f2 ss)), (7, .pv (.sl n7 f7 s7)), (8, .pv (.sl n8 f8 s8)), (10, Y6 x10), (11, LV.own 0), (12, Y6 x12)], [.sl (4, 1) true n_0 s_0])
section
variable (n f : Bool) (es : LL) (n2 f2 : Bool) (ss : LL) (n3 f3 : Bool) (s3 : LL) (ν : Nat) (J3 : Bool -> Bool -> LL -> Int -> Bool -> LL -> Prop) (μ3 : Bool -> Bool -> LL -> Int -> Bool -> LL -> Nat) (J4 : Bool -> Bool -> LL -> Bool -> Bool -> LL -> Int -> Prop) (μ4 : Bool -> Bool -> LL -> Bool -> Bool -> LL -> Int -> Nat) (J5 : Bool -> Bool -> LL -> Bool -> Bool -> LL -> Int -> Int -> Bool -> LL -> Bool -> Bool -> LL -> Bool -> Bool -> LL -> Int -> Int -> Bool -> LL -> Prop) (μ5 : Bool -> Bool -> LL -> Bool -> Bool -> LL -> Int -> Int -> Bool -> LL -> Nat)
def zmu (R : PV -> Prop) : Prop :=
 PCall qa 64 [PV.sl n f es, PV.sl n3 f3 s3] fun v => ∃ n1 f1 es1, v = PV.sl n1 f1 es1 /\ PCall qa 63 [PV.sl n f es, PV.sl n1 f1 es1] fun v1 => ∃ n4 f4, ∃ (es2 :
  LL), v1 = PV.sl n4 f4 es2 /\
 let V1 := ∀ (n71 f71 : Bool) (s71 : LL) (n8 f8 : Bool) (s8 : LL) (x10 : Int), J4 n71 f71 s71 n8 f8 s8 x10 -> if decide (x10 < (↑ss.length : Int)) = true then (aG (zdj n2 f2 ss n71 f71 s71 n8 f8 s8 x10 (0 : Int) true []) /\ J5 n71 f71
  s71 n8 f8 s8 x10 (0 : Int) true [] n71 f71 s71 n8 f8 s8 x10 (0 : Int) true []) /\ ∀ (n72 f72 : Bool) (s72 : LL) (n81 f81 : Bool) (s81 : LL) (x101 x12 : Int) (n_01 : Bool) (s_01 : LL), J5 n71 f71 s71 n8 f8 s8 x10 (0 : Int) true [] n72 f72
  s72 n81 f81 s81 x101 x12 n_01 s_01 ->
 let K12 := fun (y0_ y1_ : Bool) (y2_ : LL) (y3_ y4_ : Bool) (y5_ : LL) (y6_ y7_ : Int) (y8_ : Bool) (y9_ : LL) => aG (zdj n2 f2 ss y0_ y1_ y2_ y3_ y4_ y5_ y6_ y7_ y8_ y9_) /\ J5 n71 f71 s71 n8 f8 s8 x10 (0 :
  Int) true [] y0_ y1_ y2_ y3_ y4_ y5_ y6_ y7_ y8_ y9_ /\ μ5 y0_ y1_ y2_ y3_ y4_ y5_ y6_ y7_ y8_ y9_ < μ5 n72 f72 s72 n81 f81 s81 x101 x12 n_01 s_01; if decide (x12 <= (↑s72.length : Int)) = true then aI ss x101 2 /\ ∃ (n5 : Int),
  (qk 0 (ss.getD x101.toNat [])).head? = some (Z6 n5) /\
 let V2 := (aQ [[Zb true]] 1 /\ (s_01.length + 1) * 1 <= 140737488355328) /\ K12 n72 f72 s72 n81 f81 s81 x101 (i64.wrap (x12 + 1)) (n_01 && false) (s_01 ++ [[Zb true]]);
 let V3 := (aQ [[Zb false]] 1 /\ (s_01.length + 1) * 1 <= 140737488355328) /\ K12 n72 f72 s72 n81 f81 s81 x101 (i64.wrap (x12 + 1)) (n_01 && false) (s_01 ++ [[Zb false]]); if (n5 == 2) = true then aI s81 x12 1 /\ ∃ (b : Bool),
  (s81.getD x12.toNat []).head? = some (Zb b) /\ if b = true then V2 else if decide (x12 > 0) = true then aI s_01 (i64.wrap (x12 - 1)) 1 /\ ∃ b1, (qk 0 (s_01.getD (i64.wrap (x12 - 1)).toNat [])).head? =
  some (Zb b1) /\ (aQ [[Zb b1]] 1 /\ (s_01.length + 1) * 1 <= 140737488355328) /\ K12 n72 f72 s72 n81 f81 s81 x101 (i64.wrap (x12 + 1)) (n_01 && false) (s_01 ++ [[Zb b1]]) else V3 else if decide (x12 > 0) = true then aI s81
  (i64.wrap (x12 - 1)) 1 /\ ∃ b, (s81.getD (i64.wrap (x12 - 1)).toNat []).head? = some (Zb b) /\ if b = true then aI ss x101 2 /\ ∃ n6, (qk 0 (ss.getD x101.toNat [])).head? = some (Z6 n6) /\ if (n6 ==
  1) = true then V2 else aI ss x101 2 /\ ∃ n9 f5 es3, (qk 1 (ss.getD x101.toNat [])).head? = some (PV.sl n9 f5 es3) /\ aI s72 (i64.wrap (x12 - 1)) 1 /\ ∃ n10 f6, ∃ (es4
  : LL), (s72.getD (i64.wrap (x12 - 1)).toNat []).head? = some (PV.sl n10 f6 es4) /\ PCall qa 22 [PV.sl n9 f5 es3, PV.sl n10 f6 es4] fun v2 => ∃ b1, v2 = Zb b1 /\ (aQ [[Zb b1]] 1 /\ (s_01.length + 1) * 1 <=
  (140737488355328 : Nat)) /\ K12 n72 f72 s72 n81 f81 s81 x101 (i64.wrap (x12 + 1)) (n_01 && false) (s_01 ++ [[Zb b1]]) else V3 else V3 else aG (wG n2 f2 ss n72 f72 s72 n_01 false s_01 (i64.wrap (x101 + 1))) /\ J4 n72
  f72 s72 n_01 false s_01 (i64.wrap (x101 + 1)) /\ μ4 n72 f72 s72 n_01 false s_01 (i64.wrap (x101 + 1)) < μ4 n71 f71 s71 n8 f8 s8 x10 else aI s8 (↑s71.length : Int) 1 /\ ∃ b, (s8.getD (↑s71.length : Int).toNat
  []).head? = some (Zb b) /\ R (Zb b); if decide ((0 : Int) < (↑es2.length : Int)) = true then jN true [[Zb true]] [[Zb false]] 1 1 /\ (aG (zdi n2 f2 ss n4 f4 es2 (i64.wrap ((0 : Int) + 1)) false [[Zb true], [Zb false]]) /\ J3
  n4 f4 es2 (i64.wrap ((0 : Int) + 1)) false [[Zb true], [Zb false]] /\ μ3 n4 f4 es2 (i64.wrap ((0 : Int) + 1)) false [[Zb true], [Zb false]] < ν) /\ ∀ (n7 f7 : Bool) (s7 : LL) (x9 : Int) (n_0 : Bool) (s_0 : LL), J3 n7 f7 s7
  x9 n_0 s_0 -> if decide (x9 < (↑s7.length : Int)) = true then (aQ [[Zb false]] 1 /\ (s_0.length + 1) * 1 <= 140737488355328) /\ aG (zdi n2 f2 ss n7 f7 s7 (i64.wrap (x9 + 1)) (n_0 && false) (s_0 ++ [[Zb false]])) /\ J3 n7 f7 s7
  (i64.wrap (x9 + 1)) (n_0 && false) (s_0 ++ [[Zb false]]) /\ μ3 n7 f7 s7 (i64.wrap (x9 + 1)) (n_0 && false) (s_0 ++ [[Zb false]]) < μ3 n7 f7 s7 x9 n_0 s_0 else (aG (wG n2 f2 ss n7 f7 s7 n_0 false s_0 (0 : Int)) /\ J4
  n7 f7 s7 n_0 false s_0 (0 : Int)) /\ V1 else (aG (wG n2 f2 ss n4 f4 es2 false true [[Zb true]] (0 : Int)) /\ J4 n4 f4 es2 false true [[Zb true]] (0 : Int)) /\ V1
theorem zx6 {R : PV -> Prop} (h : zmu n f es n2 f2 ss n3 f3 s3 ν J3 μ3 J4 μ4 J5 μ5 R) : PCall qa 19 [.sl n f es, .sl n2 f2 ss, .sl n3 f3 s3] R :=
 PCall.wz Tryz.func19 aP [0, 1, 2, 6, 7, 8, 9, 10, 11, 12, 13, 23, 32, 38, 46, 70] (fun zz_ => match zz_ with | 4 => some ⟨Bool × Bool × LL × Int × Bool × LL, fun s => zdi n2 f2 ss s.1 s.2.1 s.2.2.1 s.2.2.2.1 s.2.2.2.2.1 s.2.2.2.2.2, fun _ s => J3 s.1 s.2.1 s.2.2.1 s.2.2.2.1 s.2.2.2.2.1 s.2.2.2.2.2, fun s => μ3 s.1 s.2.1 s.2.2.1 s.2.2.2.1 s.2.2.2.2.1 s.2.2.2.2.2, fun e h => (gN e 7, gF e 7, gS e 7, gI e 9, oN h 0, oS h 0), [], [1, 7, 8, 9], [], fun p => ∀ (n7 f7 : Bool) (s7 : LL) (x9 : Int) (n_0 : Bool) (s_0 : LL), p (n7, f7, s7, x9, n_0, s_0), fun p h s => h s.1 s.2.1 s.2.2.1 s.2.2.2.1 s.2.2.2.2.1 s.2.2.2.2.2⟩ | 8 => some ⟨Bool × Bool × LL × Bool × Bool × LL × Int, fun s => wG n2 f2 ss s.1 s.2.1 s.2.2.1 s.2.2.2.1 s.2.2.2.2.1 s.2.2.2.2.2.1 s.2.2.2.2.2.2, fun _ s => J4 s.1 s.2.1 s.2.2.1 s.2.2.2.1 s.2.2.2.2.1 s.2.2.2.2.2.1 s.2.2.2.2.2.2, fun s => μ4 s.1 s.2.1 s.2.2.1 s.2.2.2.1 s.2.2.2.2.1 s.2.2.2.2.2.1 s.2.2.2.2.2.2, fun e h => (gN e 7, gF e 7, gS e 7, gN e 8, gF e 8, gS e 8, gI e 10), [], [1, 7, 8, 10], [], fun p => ∀ (n7 f7 : Bool) (s7 : LL) (n8 f8 : Bool) (s8 : LL) (x10 : Int), p (n7, f7, s7, n8, f8, s8, x10), fun p h s => h s.1 s.2.1 s.2.2.1 s.2.2.2.1 s.2.2.2.2.1 s.2.2.2.2.2.1 s.2.2.2.2.2.2⟩ | 12 => some ⟨Bool × Bool × LL × Bool × Bool × LL × Int × Int × Bool × LL, fun s => zdj n2 f2 ss s.1 s.2.1 s.2.2.1 s.2.2.2.1 s.2.2.2.2.1 s.2.2.2.2.2.1 s.2.2.2.2.2.2.1 s.2.2.2.2.2.2.2.1 s.2.2.2.2.2.2.2.2.1 s.2.2.2.2.2.2.2.2.2, fun t s => J5 t.1 t.2.1 t.2.2.1 t.2.2.2.1 t.2.2.2.2.1 t.2.2.2.2.2.1 t.2.2.2.2.2.2.1 t.2.2.2.2.2.2.2.1 t.2.2.2.2.2.2.2.2.1 t.2.2.2.2.2.2.2.2.2 s.1 s.2.1 s.2.2.1 s.2.2.2.1 s.2.2.2.2.1 s.2.2.2.2.2.1 s.2.2.2.2.2.2.1 s.2.2.2.2.2.2.2.1 s.2.2.2.2.2.2.2.2.1 s.2.2.2.2.2.2.2.2.2, fun s => μ5 s.1 s.2.1 s.2.2.1 s.2.2.2.1 s.2.2.2.2.1 s.2.2.2.2.2.1 s.2.2.2.2.2.2.1 s.2.2.2.2.2.2.2.1 s.2.2.2.2.2.2.2.2.1 s.2.2.2.2.2.2.2.2.2, fun e h => (gN e 7, gF e 7, gS e 7, gN e 8, gF e 8, gS e 8, gI e 10, gI e 12, oN h 0, oS h 0), [(11, 4, 1)], [1, 7, 8, 10, 11, 12], [], fun p => ∀ (n7 f7 : Bool) (s7 : LL) (n8 f8 : Bool) (s8 : LL) (x10 x12 : Int) (n_0 : Bool) (s_0 : LL), p (n7, f7, s7, n8, f8, s8, x10, x12, n_0, s_0), fun p h s => h s.1 s.2.1 s.2.2.1 s.2.2.2.1 s.2.2.2.2.1 s.2.2.2.2.2.1 s.2.2.2.2.2.2.1 s.2.2.2.2.2.2.2.1 s.2.2.2.2.2.2.2.2.1 s.2.2.2.2.2.2.2.2.2⟩ | 1000004 => some ⟨Unit, fun _ => ([], []), fun _ _ => True, fun _ => ν, fun _ _ => (), [], [], [], fun p => p (), fun p h _ => h⟩ | 2000008 => some ⟨Unit, fun _ => ([], []), fun _ _ => True, fun _ => 0, fun _ _ => (), [], [8], [], fun p => p (), fun p h _ => h⟩ | _ => none) h
end
def zdk (n f : Bool) (es : LL) (n2 f2 : Bool) (ss : LL) (x5 : Int) : Env × Hp := ([(0, LV.pv (PV.sl n f es)), (1, LV.pv (PV.sl n2 f2 ss)), (5, Y6 x5)], [])
section
variable (n f : Bool) (es : LL) (n2 f2 : Bool) (ss : LL) (J : Int -> Prop) (μ : Int -> Nat)
def zmv (R : PV -> Prop) : Prop :=
 if ((↑es.length : Int) != (↑ss.length : Int)) = true then R (Zb false) else (aG (zdk n f es n2 f2 ss (0 : Int)) /\ J (0 : Int)) /\ ∀ (x5 : Int), J x5 -> if decide (x5 < (↑es.length : Int)) = true then aI es x5 1 /\ ∃ n1 f1 es1, (es.getD x5.toNat []).head? = some (PV.sl n1 f1 es1) /\ aI ss x5 1 /\ ∃ n3 f3 es2, (ss.getD x5.toNat []).head? = some (PV.sl n3 f3 es2) /\ PCall qa 22 [PV.sl n1 f1 es1, PV.sl n3 f3 es2] fun v => ∃ b, v = Zb b /\ if (!b) = true then R (Zb false) else aG (zdk n f es n2 f2 ss (i64.wrap (x5 + 1))) /\ J (i64.wrap (x5 + 1)) /\ μ (i64.wrap (x5 + 1)) < μ x5 else R (Zb true)
theorem zx7 {R : PV -> Prop} (h : zmv n f es n2 f2 ss J μ R) : PCall qa 23 [.sl n f es, .sl n2 f2 ss] R :=
 PCall.wz Tryz.func23 aP [0, 1, 4, 5, 10, 14, 26] (bY 4 (a8 mA (zdk n f es n2 f2 ss) J μ (fun e h => (((gI e 5), ()))) [] [0, 1, 5] [])) h
end
def zmw  (R : PV -> Prop) : Prop :=
 PCall qa 13 [] fun v => ∃ n f es, v = PV.sl n f es /\ PCall qa 14 [PV.sl n f es] fun v1 => PCall qa 15 [v1, PV.sl false true [[Z3 97], [Z3 42], [Z3 99]]] fun v2 => ∃ vs, v2 = PV.tup vs /\ vs.length = 2 /\ ∃ x, vs.head? = some x /\ ∃ cs, x = PV.agg cs /\ cs.length = 1 /\ ∃ n1 f1 es1, cs.head? = some (PV.sl n1 f1 es1) /\ ∃ x1, vs.tail.head? = some x1 /\ ∃ n2, x1 = Z6 n2 /\ PCall qa 15 [v1, PV.sl false true [[Z3 63]]] fun v3 => ∃ vs1, v3 = PV.tup vs1 /\ vs1.length = 2 /\ ∃ x2, vs1.head? = some x2 /\ ∃ cs1, x2 = PV.agg cs1 /\ cs1.length = 1 /\ ∃ n3 f2 es2, cs1.head? = some (PV.sl n3 f2 es2) /\ ∃ x3, vs1.tail.head? = some x3 /\ ∃ n4, x3 = Z6 n4 /\ if (n2 == 0 && n4 == 0) = true then PCall qa 18 [PV.agg [PV.sl n1 f1 es1], v1, PV.sl false true [[Z3 97], [Z3 99]]] fun v4 => ∃ b, v4 = Zb b /\ if b = true then PCall qa 18 [PV.agg [PV.sl n1 f1 es1], v1, PV.sl false true [[Z3 97], [Z3 98], [Z3 98], [Z3 99]]] fun v5 => ∃ b1, v5 = Zb b1 /\ if b1 = true then PCall qa 18 [PV.agg [PV.sl n1 f1 es1], v1, PV.sl false true [[Z3 97], [Z3 99], [Z3 98]]] fun v6 => ∃ b2, v6 = Zb b2 /\ if (!b2) = true then PCall qa 18 [PV.agg [PV.sl n3 f2 es2], v1, PV.sl false true [[Z3 101], [Z3 769]]] fun v7 => ∃ b3, v7 = Zb b3 /\ if b3 = true then PCall qa 18 [PV.agg [PV.sl n3 f2 es2], v1, PV.sl false true [[Z3 101], [Z3 97]]] fun v8 => ∃ b4, v8 = Zb b4 /\ R (Zb !b4) else R (Zb false) else R (Zb false) else R (Zb false) else R (Zb false) else R (Zb false)
theorem zx8  {R : PV -> Prop} (h : zmw  R) : PCall qa 17 [] R :=
 PCall.wz Tryz.func17 aP [0, 1, 2, 3, 4, 5] aW h

def zdl  (n6 f6 : Bool) (s6 : LL) (n8 f8 : Bool) (s8 : LL) (x9 : Int) : Env × Hp := ([(6, .pv (.sl n6 f6 s6)), (8, .pv (.sl n8 f8 s8)), (9, Y6 x9)], [])
section
variable (n f : Bool) (es : LL) (J : Bool -> Bool -> LL -> Bool -> Bool -> LL -> Int -> Prop) (μ : Bool -> Bool -> LL -> Bool -> Bool -> LL -> Int -> Nat)
def zmx (R : PV -> Prop) : Prop :=
 PCall qa 12 [PV.sl n f es, Z6 80] fun v => ∃ n1 f1 es1, v = PV.sl n1 f1 es1 /\ PCall qa 13 [] fun v1 => ∃ n2 f2 es2, v1 = PV.sl n2 f2 es2 /\ PCall qa 14 [PV.sl n2 f2 es2] fun v2 => PCall qa 15 [v2, PV.sl n1 f1 es1] fun v3 => ∃ vs, v3 = PV.tup vs /\ vs.length = 2 /\ ∃ x, vs.head? = some x /\ ∃ cs, x = PV.agg cs /\ cs.length = 1 /\ ∃ n3 f3 es3, cs.head? = some (PV.sl n3 f3 es3) /\ ∃ x1, vs.tail.head? = some x1 /\ ∃ n4, x1 = Z6 n4 /\ PCall qa 16 [PV.sl n2 f2 es2, PV.sl n1 f1 es1] fun v4 => ∃ vs1, v4 = PV.tup vs1 /\ vs1.length = 2 /\ ∃ x2, vs1.head? = some x2 /\ ∃ n5 f4 es4, x2 = PV.sl n5 f4 es4 /\ ∃ x3, vs1.tail.head? = some x3 /\ ∃ n6, x3 = Z6 n6 /\ PCall qa 21 [PV.agg [PV.sl n3 f3 es3]] fun v5 => ∃ n7 f5 es5, v5 = PV.sl n7 f5 es5 /\ if (n4 != n6 || (↑es5.length : Int) != (↑es4.length : Int)) = true then R (Zb false) else (aG (zdl n5 f4 es4 n7 f5 es5 (0 : Int)) /\ J n5 f4 es4 n7 f5 es5 (0 : Int)) /\ ∀ (n61 f6 : Bool) (s6 : LL) (n8 f8 : Bool) (s8 : LL) (x9 : Int), J n61 f6 s6 n8 f8 s8 x9 -> if decide (x9 < (↑s8.length : Int)) = true then aI s8 x9 2 /\ ∃ n9, (qk 0 (s8.getD x9.toNat [])).head? = some (Z6 n9) /\ aI s6 x9 2 /\ ∃ n10, (qk 0 (s6.getD x9.toNat [])).head? = some (Z6 n10) /\ if (n9 != n10) = true then R (Zb false) else aI s8 x9 2 /\ ∃ n11 f7 es6, (qk 1 (s8.getD x9.toNat [])).head? = some (PV.sl n11 f7 es6) /\ aI s6 x9 2 /\ ∃ n12 f9 es7, (qk 1 (s6.getD x9.toNat [])).head? = some (PV.sl n12 f9 es7) /\ PCall qa 22 [PV.sl n11 f7 es6, PV.sl n12 f9 es7] fun v6 => ∃ b, v6 = Zb b /\ if (!b) = true then R (Zb false) else
 let V1 := aG (zdl n61 f6 s6 n8 f8 s8 (i64.wrap (x9 + 1))) /\ J n61 f6 s6 n8 f8 s8 (i64.wrap (x9 + 1)) /\ μ n61 f6 s6 n8 f8 s8 (i64.wrap (x9 + 1)) < μ n61 f6 s6 n8 f8 s8 x9; if decide (x9 > 0) = true then aI s8 x9 2 /\ ∃ n13, (qk 0 (s8.getD x9.toNat [])).head? = some (Z6 n13) /\ if (n13 == 2) = true then aI s8 (i64.wrap (x9 - 1)) 2 /\ ∃ n14, (qk 0 (s8.getD (i64.wrap (x9 - 1)).toNat [])).head? = some (Z6 n14) /\ if (n14 == 2) = true then R (Zb false) else V1 else V1 else V1 else PCall qa 17 [] fun v6 => ∃ b, v6 = Zb b /\ R (Zb b)
theorem zx9 {R : PV -> Prop} (h : zmx n f es J μ R) : PCall qa 4 [.sl n f es] R :=
 PCall.wz Tryz.func4 aP [0, 2, 3, 4, 5, 6, 7, 8, 9, 37, 41, 89] (bY 9 (a8 kZ zdl J μ (fun e h => (gN e 6, gF e 6, gS e 6, gN e 8, gF e 8, gS e 8, gI e 9)) [] [6, 8, 9] [])) h
end
section
variable (n f : Bool) (es : LL) (n2 f2 : Bool) (ss : LL)
def zmy (R : PV -> Prop) : Prop :=
 PCall qa 12 [PV.sl n f es, Z6 30] fun v => ∃ n1 f1 es1, v = PV.sl n1 f1 es1 /\ PCall qa 12 [PV.sl n2 f2 ss, Z6 40] fun v1 => ∃ n3 f3 es2, v1 = PV.sl n3 f3 es2 /\ PCall qa 13 [] fun v2 => ∃ n4 f4 es3, v2 = PV.sl n4 f4 es3 /\ PCall qa 14 [PV.sl n4 f4 es3] fun v3 => PCall qa 15 [v3, PV.sl n1 f1 es1] fun v4 => ∃ vs, v4 = PV.tup vs /\ vs.length = 2 /\ ∃ x, vs.head? = some x /\ ∃ cs, x = PV.agg cs /\ cs.length = 1 /\ ∃ n5 f5 es4, cs.head? = some (PV.sl n5 f5 es4) /\ ∃ x1, vs.tail.head? = some x1 /\ ∃ n6, x1 = Z6 n6 /\ PCall qa 16 [PV.sl n4 f4 es3, PV.sl n1 f1 es1] fun v5 => ∃ vs1, v5 = PV.tup vs1 /\ vs1.length = 2 /\ ∃ x2, vs1.head? = some x2 /\ ∃ n7 f6 es5, x2 = PV.sl n7 f6 es5 /\ ∃ x3, vs1.tail.head? = some x3 /\ ∃ n8, x3 = Z6 n8 /\ if (n6 != 0 || n8 != 0) = true then if (n6 == n8) = true then PCall qa 17 [] fun v6 => ∃ b, v6 = Zb b /\ R (Zb b) else R (Zb false) else PCall qa 18 [PV.agg [PV.sl n5 f5 es4], v3, PV.sl n3 f3 es2] fun v6 => ∃ b, v6 = Zb b /\ PCall qa 19 [PV.sl n4 f4 es3, PV.sl n7 f6 es5, PV.sl n3 f3 es2] fun v7 => ∃ b1, v7 = Zb b1 /\ if (b == b1) = true then PCall qa 18 [PV.agg [PV.sl n5 f5 es4], v3, PV.sl n3 f3 es2] fun v8 => ∃ b2, v8 = Zb b2 /\ PCall qa 20 [PV.sl n4 f4 es3, PV.sl n3 f3 es2] fun v9 => ∃ n9 f7 es6, v9 = PV.sl n9 f7 es6 /\ PCall qa 18 [PV.agg [PV.sl n5 f5 es4], v3, PV.sl n9 f7 es6] fun v10 => ∃ b3, v10 = Zb b3 /\ if (b2 == b3) = true then PCall qa 17 [] fun v11 => ∃ b4, v11 = Zb b4 /\ R (Zb b4) else R (Zb false) else R (Zb false)
theorem zya {R : PV -> Prop} (h : zmy n f es n2 f2 ss R) : PCall qa 3 [.sl n f es, .sl n2 f2 ss] R :=
 PCall.wz Tryz.func3 aP [0, 1, 4, 5, 6, 7, 8, 9, 10, 35] aW h
end
def zdm (n2 f2 : Bool) (ss : LL) (n5 f5 : Bool) (s5 : LL) (x6 : PV) (n9 f9 : Bool) (s9 : LL) (x13 : Int) (hn0_0 hf0_0 : Bool) (hs0_0 : LL) (n_1 : Bool) (s_1 : LL) (n_2 : Bool) (s_2 : LL) : Env × Hp := ([(1, LV.pv (PV.sl n2 f2 ss)), (5, .pv (.sl n5 f5 s5)), (6, .pv x6), (7, LV.box 0 0), (9, .pv (.sl n9 f9 s9)), (11, LV.own 1), (12, LV.own 2), (13, Y6 x13)], [.box [.pv (.sl hn0_0 hf0_0 hs0_0)], .sl (22, 1) true n_1 s_1, .sl (22, 1) true n_2 s_2])
section
variable (n f : Bool) (es : LL) (n2 f2 : Bool) (ss : LL) (J : Bool -> Bool -> LL -> PV -> Bool -> Bool -> LL -> Int -> Bool -> Bool -> LL -> Bool -> LL -> Bool -> LL -> Prop) (μ : Bool -> Bool -> LL -> PV -> Bool -> Bool -> LL -> Int -> Bool -> Bool -> LL -> Bool -> LL -> Bool -> LL -> Nat)
def zmz (R : PV -> Prop) : Prop :=
 PCall qa 12 [PV.sl n f es, Z6 20] fun v => ∃ n1 f1 es1, v = PV.sl n1 f1 es1 /\ PCall qa 13 [] fun v1 => ∃ n3 f3 es2, v1 = PV.sl n3 f3 es2 /\ PCall
  qa 14 [PV.sl n3 f3 es2] fun v2 => PCall qa 15 [v2, PV.sl n1 f1 es1] fun v3 => ∃ vs, v3 = PV.tup vs /\ vs.length = 2 /\ ∃ x, vs.head? = some x /\ ∃ cs, x = PV.agg cs /\ cs.length = 1 /\
  ∃ n4 f4 es3, cs.head? = some (PV.sl n4 f4 es3) /\ ∃ x1, vs.tail.head? = some x1 /\ ∃ n5, x1 = Z6 n5 /\ PCall qa 16 [PV.sl n3 f3 es2, PV.sl n1 f1 es1] fun v4 => ∃ vs1, v4
  = PV.tup vs1 /\ vs1.length = 2 /\ ∃ x2, vs1.head? = some x2 /\ ∃ n6 f5 es4, x2 = PV.sl n6 f5 es4 /\ ∃ x3, vs1.tail.head? = some x3 /\ ∃ n7, x3 = Z6 n7 /\ if (n5 != 0 || n7 != 0) = true then
  if (n5 == n7) = true then PCall qa 17 [] fun v5 => ∃ b, v5 = Zb b /\ R (Zb b) else R (Zb false) else (aG (zdm n2 f2 ss n3 f3 es2 v2 n6 f5 es4 (0 : Int) n4 f4 es3 true [] true []) /\ J n3 f3 es2 v2 n6 f5 es4 (0 :
  Int) n4 f4 es3 true [] true []) /\ ∀ (n51 f51 : Bool) (s5 : LL) (x6 : PV) (n9 f9 : Bool) (s9 : LL) (x13 : Int) (hn0_0 hf0_0 : Bool) (hs0_0 : LL) (n_1 : Bool) (s_1 : LL) (n_2 : Bool) (s_2 : LL), J n51 f51 s5 x6 n9 f9 s9 x13 hn0_0 hf0_0
  hs0_0 n_1 s_1 n_2 s_2 ->
 let K10 := fun (y0_ y1_ : Bool) (y2_ : LL) (y3_ : PV) (y4_ y5_ : Bool) (y6_ : LL) (y7_ : Int) (y8_ y9_ : Bool) (y10_ : LL) (y11_ : Bool) (y12_ : LL) (y13_ : Bool) (y14_ : LL) => aG (zdm n2 f2 ss y0_ y1_ y2_
  y3_ y4_ y5_ y6_ y7_ y8_ y9_ y10_ y11_ y12_ y13_ y14_) /\ J y0_ y1_ y2_ y3_ y4_ y5_ y6_ y7_ y8_ y9_ y10_ y11_ y12_ y13_ y14_ /\ μ y0_ y1_ y2_ y3_ y4_ y5_ y6_ y7_ y8_ y9_ y10_ y11_ y12_ y13_ y14_ < μ n51 f51 s5 x6 n9 f9 s9 x13 hn0_0 hf0_0
  hs0_0 n_1 s_1 n_2 s_2; if (decide (x13 < (↑ss.length : Int)) && decide (x13 < 8)) = true then aI ss x13 1 /\ ∃ n8 f6 es5, (ss.getD x13.toNat []).head? = some (PV.sl n8 f6 es5) /\ PCall qa 12 [PV.sl
  n8 f6 es5, Z6 12] fun v5 => ∃ n10 f7 es6, v5 = PV.sl n10 f7 es6 /\ (aQ [[PV.sl n10 f7 es6]] 1 /\ (s_1.length + 1) * 24 <= 140737488355328) /\ PCall qa 19 [PV.sl n51 f51 s5, PV.sl n9 f9 s9, PV.sl
  n10 f7 es6] fun v6 => ∃ b, v6 = Zb b /\ if b = true then (aQ [[PV.sl n10 f7 es6]] 1 /\ (s_2.length + 1) * 24 <= 140737488355328) /\ K10 n51 f51 s5 x6 n9 f9 s9 (i64.wrap (x13 + 1)) hn0_0 hf0_0 hs0_0 (n_1 && false)
  (s_1 ++ [[PV.sl n10 f7 es6]]) (n_2 && false) (s_2 ++ [[PV.sl n10 f7 es6]]) else K10 n51 f51 s5 x6 n9 f9 s9 (i64.wrap (x13 + 1)) hn0_0 hf0_0 hs0_0 (n_1 && false) (s_1 ++ [[PV.sl n10 f7 es6]]) n_2 s_2 else PCall qa 24
  [PV.agg [PV.sl hn0_0 hf0_0 hs0_0], x6, PV.sl n_1 false s_1] fun v5 => ∃ n8 f6 es5, v5 = PV.sl n8 f6 es5 /\ PCall qa 23 [PV.sl n8 f6 es5, PV.sl n_2 false s_2] fun v6 => ∃ b, v6 =
  Zb b /\ true = true /\ if b = true then PCall qa 17 [] fun v7 => ∃ b1, v7 = Zb b1 /\ R (Zb b1) else R (Zb false)
theorem zyb {R : PV -> Prop} (h : zmz n f es n2 f2 ss J μ R) : PCall qa 5 [.sl n f es, .sl n2 f2 ss] R :=
 PCall.wz Tryz.func5 aP [0, 1, 4, 5, 6, 7, 8, 9, 10, 11, 12, 13, 14, 37, 51, 66] (bY 10 (a8 (eU kZ) (zdm n2 f2 ss) J μ (fun e h => (gN e 5, gF e 5, gS e 5, gP e 6, gN e 9, gF e 9, gS e 9, gI e 13, hN h 0 0, hF h 0 0, hS h 0 0, oN h 1, oS h 1, oN h 2, oS h 2)) [(11, 22, 1), (12, 22, 1)] [1, 5, 6, 7, 9, 11, 12, 13] [])) h
end
end Go.Eng
namespace Go.Eng
open Go Go.Proofs Go.Eng.Rows Go.Eng.Trie Go.Eng.Srt
abbrev PtF := Int × Bool × Bool × List Int
def pT (q : PtF) : List PV := [.int .i64 q.1, .sl q.2.1 q.2.2.1 (aA q.2.2.2)]
theorem zdn (q : PtF) : (pT q).length = 2 := rfl
def pE (q : PtF) : Int × List Int := (q.1, q.2.2.2)
theorem zyc (k : Int) (n f n2 f2 : Bool) (c d : List Int) (hl : c.length < 1000000000000) : PCall qa 62 [.agg [.int .i64 k, .sl n f (aA c)], .sl n2 f2 (aA d)] fun x => x = .bool (eZ (k, c) d) := by
 refine zxy _ _ _ _ _ _ _ ?_; unfold zmm eZ;refine aC (fun h => ?_) (fun h => ?_)
 ·simp only [beq_iff_eq] at h;simp [h]
 ·simp only [beq_iff_eq] at h;refine aC (fun h0 => ?_) (fun h0 => ?_)
  ·simp only [beq_iff_eq] at h0;refine (zvy n f n2 f2 c d hl).mono ?_;rintro _ rfl;refine ⟨_, rfl, ?_⟩;simp [h0]
  ·simp only [beq_iff_eq] at h0;simp [h, h0]
section
variable {rows : List Row} {v : PV}
theorem pAt {Q : List PtF} {i : Int} (i0 : 0 <= i) (hi : i.toNat < Q.length) : aI (Q.map pT) i 2 /\ (Q.map pT).getD i.toNat [] = pT Q[i.toNat] := ⟨bQ zdn i0 (by omega), cN hi⟩
theorem zyd (hts : eC rows) (hp : cU rows) (h1 : dB rows) (hk : dX rows) (hv : dV rows v) (np fp n f : Bool) (Q : List PtF) (hQ : ∀ q ∈ Q, q.2.2.2.length < 1000000000) (hQl : Q.length < 1000000) (L : List Int) (hr : R32 L) (hL : L.length < 100000) :
 PCall qa 18 [.agg [.sl np fp (Q.map pT)], v, .sl n f (aA L)] fun x => x = .bool (bI (Q.map pE) (cJ rows (cC rows L) 0)) := by
 have c1 := zk9 hp h1 hk hv n f L hr (by omega);have hnl := sG hk L;have hnr := vY hp h1 hk hr;have c2 := fun n f => zmd hts hv n f (cC rows L) hnr (by omega);have hcc := sJ rows (cC rows L);obtain ⟨tc, tg, tj, tf, tp, made, sec, rfl, ht', hm⟩ := hv;generalize cJ rows (cC rows L) 0 = C at *
 refine zxz _ _ _ _ _ _ _ _ _ _ _ _ _
  (fun n7 f7 s7 a i st fr => (∃ K : List (Bool × Bool × List Int), s7 = K.map clT /\ K.map (fun q => q.2.2) = C) /\ (-1 <= st /\ 0 <= fr /\ fr <= i) /\ lP (Q.map pE) C a i st fr) (fun _ _ _ a i _ fr => kD Q.length C.length a i fr)
  (fun a => (0 <= a /\ a <= Q.length) /\ bI (Q.map pE) C = nX ((Q.map pE).drop a.toNat)) (fun a => Q.length - a.toNat) ?_
 unfold zmn;refine c1.mono ?_;rintro _ ⟨n1, f1, rfl⟩;refine ⟨_, _, _, rfl, ?_⟩;refine (c2 n1 f1).mono ?_;rintro _ ⟨n2, K, rfl, hK⟩;have hPl : (Q.map pE).length = Q.length := qb _;refine ⟨_, _, _, rfl, ⟨rfl, ⟨K, rfl, hK⟩, ⟨by omega, by omega, by omega⟩, zxn⟩, ?_⟩;rintro n7 f7 _ a i st fr ⟨⟨K, rfl, hK⟩, ⟨st0, fr0, fr1⟩, hI⟩;have hKl : (K.map clT).length = C.length := by rw [qb, <- hK, qb]
 have hQlen : ((Q.map pT).length : Int) = Q.length := by rw [qb]
 rw [hKl, hQlen];obtain ⟨⟨a0, a1⟩, ⟨i0, i1⟩, _⟩ := id hI;rw [hPl] at a1;have hwa : i64.wrap (a + 1) = a + 1 := aF (by omega) (by omega);have hwi : i64.wrap (i + 1) = i + 1 := aF (by omega) (by omega);refine aC (fun hc => ?_) (fun hc => ?_)
 ·simp only [aB] at hc;have hi : i.toNat < C.length := by omega
  have hst1 : st < Q.length := by
   obtain ⟨_, _, h⟩ := hI;rcases h with ⟨h, _⟩ | ⟨_, h, _⟩ <;> omega
  have hws : i64.wrap (st + 1) = st + 1 := aF (by omega) (by omega);have hwf : i64.wrap (fr + 1) = fr + 1 := aF (by omega) (by omega);rw [hwa, hwi, hws, hwf];by_cases ha : a < Q.length
  ·have hal : a.toNat < Q.length := by omega
   have halE : a.toNat < (Q.map pE).length := by omega
   obtain ⟨g1, g2⟩ := pAt a0 hal;obtain ⟨k1, n6, f4, k2⟩ := qAt hK i0 hi;have hE : (Q.map pE)[a.toNat] = pE Q[a.toNat] := qab _;refine bA (by simpa using ha) ⟨g1, _, by rw [List.drop_zero, g2]; rfl, aC (fun h2 => ?_) (fun h2 => ?_)⟩
   ·simp only [beq_iff_eq] at h2;exact ⟨rfl, ⟨⟨K, rfl, hK⟩, ⟨by omega, by omega, by omega⟩, zxo hI halE (by rw [hE]; exact h2)⟩, zxr a0 hal fr1⟩
   ·simp only [beq_iff_eq] at h2;refine bA (by simpa using ha) ⟨g1, _, by rw [g2]; rfl, _, _, _, by rw [g2]; rfl, k1, _, _, _, by rw [k2]; rfl, ?_⟩
    refine (zyc _ _ _ _ _ _ _ (by have := hQ _ (qg hal); omega)).mono ?_;rintro _ rfl;refine ⟨_, rfl, aC (fun h3 => ?_) (fun h3 => ?_)⟩
    ·rw [wD [] hi] at h3;exact ⟨rfl, ⟨⟨K, rfl, hK⟩, ⟨by omega, by omega, by omega⟩, zxp hI halE hi (by rw [hE]; exact h2) (by rw [hE]; exact h3)⟩, zxs a0 hal⟩
    ·rw [wD [] hi] at h3;obtain ⟨m1, m2⟩ := zmh hI hi fun h => ⟨by rw [hE]; exact h2, by rw [hE]; exact Bool.eq_false_iff.2 h3⟩;refine aC (fun h => ?_) (fun h => ?_)
     ·simp only [aB, ge_iff_le] at h;exact ⟨rfl, ⟨⟨K, rfl, hK⟩, ⟨by omega, by omega, by omega⟩, m2 h⟩, zmi fr0 (by omega)⟩
     ·simp only [aB, ge_iff_le] at h;rw [m1 (by omega)]
  ·obtain ⟨m1, m2⟩ := zmh hI hi fun h => absurd h (by omega);refine bD (by simpa using ha) (bD (by simpa using ha) (aC (fun h => ?_) (fun h => ?_)))
   ·simp only [aB, ge_iff_le] at h;exact ⟨rfl, ⟨⟨K, rfl, hK⟩, ⟨by omega, by omega, by omega⟩, m2 h⟩, zmi fr0 (by omega)⟩
   ·simp only [aB, ge_iff_le] at h;rw [m1 (by omega)]
 ·simp only [aB] at hc;have he := zxq hI (by omega);refine ⟨⟨rfl, ⟨a0, a1⟩, he⟩, ?_⟩;rintro b ⟨⟨b0, b1⟩, hb⟩;have hwb : i64.wrap (b + 1) = b + 1 := aF (by omega) (by omega)
  have last : ¬b.toNat < Q.length -> PV.bool (b == (Q.length : Int)) = PV.bool (bI (Q.map pE) C) := fun h => by
   rw [hb, qw (by rw [hPl]; omega)];have : b = Q.length := by omega
   simp [this, nX]
  refine aC (fun h => ?_) (fun h => ?_)
  ·simp only [aB] at h;have hbq : b.toNat < Q.length := by omega
   obtain ⟨g1, g2⟩ := pAt b0 hbq
   have hd : (Q.map pE).drop b.toNat = pE Q[b.toNat] :: (Q.map pE).drop (b.toNat + 1) := by
    rw [qy (by rw [hPl]; exact hbq), qab]
   refine ⟨g1, _, by rw [g2]; rfl, ?_⟩;rw [hwb];refine aC (fun h2 => ?_) (fun h2 => ?_)
   ·simp only [beq_iff_eq] at h2;refine ⟨rfl, ⟨⟨by omega, by omega⟩, ?_⟩, by dsimp only; omega⟩;rw [hb, hd, show (b + 1).toNat = b.toNat + 1 by omega];show (decide ((pE Q[b.toNat]).1 = 2) && nX _) = _;rw [decide_eq_true (show (pE Q[b.toNat]).1 = 2 from h2), qae]
   ·simp only [beq_iff_eq] at h2;rw [hb, hd];show PV.bool (b == (Q.length : Int)) = PV.bool (decide ((pE Q[b.toNat]).1 = 2) && nX _);rw [decide_eq_false (show ¬(pE Q[b.toNat]).1 = 2 from h2), qah];have : ¬b = Q.length := by omega
    simp [this]
  ·simp only [aB] at h;exact last (by omega)
end
end Go.Eng
namespace Go.Eng.Rows
open Go Go.Eng Go.Eng.Trie Go.Eng.Srt
section
variable {rows : List Row}
theorem zye {r : Int} (h : dU rows r = false) (hn : aJ rows r ≠ (0, 0)) : (aJ rows r).2 ≠ 0 /\ aD rows 1 r = 0 /\ aD rows 1 (aJ rows r).1 = 0 := by
 unfold dU at h;simp [hn] at h;exact ⟨h.1, h.2.2.1, h.2.2.2⟩
theorem zyf (h1 : dB rows) (hks : ∀ r, bM r = true -> aD rows 1 r = 0) {a b c : Int} (h : eW rows a b = some c) : aD rows 1 c = 0 := by
 unfold eW at h;split at h
 ·rename_i s hj; cases h; exact hks _ (zco hj)
 ·obtain ⟨q1, q2, q3, _⟩ := zcn h1 h;exact (zye q3 (by rw [q1]; intro e; exact q2 (Prod.mk.inj e).2)).2.1
theorem zyg (h1 : dB rows) (hks : ∀ r, bM r = true -> aD rows 1 r = 0) (d : List Int) : ∀ a, (bG rows d).s = some a -> aD rows 1 a = 0 := by
 induction d using iW with
 | h0 => intro a h; cases h
 | h1 d r ih =>
   rw [gH];rcases pO rows (bG rows d) r with e | ⟨b, c, hs, hp, _, e⟩
   ·rw [e];unfold cO;split
    ·rename_i h0; intro a h; cases h; exact h0
    ·exact ih
   ·rw [e];intro a h; cases h; exact zyf h1 hks hp
end
end Go.Eng.Rows
namespace Go.Eng
open Go Go.Proofs
section
variable (n f : Bool) (es : LL) (r : Int)
def zm0 (R : PV -> Prop) : Prop :=
 PCall qa 101 [PV.sl n f es, Z3 r] fun v => ∃ vs, v = PV.tup vs /\ vs.length = 3 /\ ∃ x, vs.head? = some x /\ ∃ n1, x = Z3 n1 /\ ∃ x1, vs.tail.head? = some x1 /\ ∃ n2, x1 = Z3 n2 /\ ∃ x2, vs.tail.tail.head? = some x2 /\ ∃ b, x2 = Zb b /\ if (!b) = true then R (Zb false) else if (n2 == 0) = true then R (Zb true) else PCall qa 129 [PV.sl n f es, Z6 3, Z3 r] fun v1 => ∃ n3, v1 = Z6 n3 /\ if (n3 == 1) = true then R (Zb true) else PCall qa 129 [PV.sl n f es, Z6 1, Z3 r] fun v2 => ∃ n4, v2 = Z6 n4 /\ if (n4 != 0) = true then R (Zb true) else PCall qa 129 [PV.sl n f es, Z6 1, Z3 n1] fun v3 => ∃ n5, v3 = Z6 n5 /\ R (Zb (n5 != 0))
theorem zyh {R : PV -> Prop} (h : zm0 n f es r R) : PCall qa 171 [.sl n f es, .int .i32 r] R :=
 PCall.wz Tryz.func171 aP [0, 1, 4, 5, 6, 7, 16] aW h
end
end Go.Eng
namespace Go.Eng
open Go Go.Proofs
open Go Go.Proofs Go.Eng.Rows Go.Eng.Trie
end Go.Eng
namespace Go.Eng
open Go Go.Proofs Go.Eng.Rows Go.Eng.Trie
section
variable {rows : List Row}
theorem zm1 (i : Int) : bR rows 3 i = decide (aD rows 3 i = 1) := by
 unfold bR aD;cases bO rows 3 i with
 | none => rfl
 | some p => rfl
theorem zyi (hp : cU rows) (n f : Bool) (r : Int) (hl : rows.length < 1000000) (hr : -2147483648 <= r /\ r <= 2147483647) : PCall qa 171 [.sl n f (bB rows), .int .i32 r] fun v => v = .bool (dU rows r) := by
 refine zyh _ _ _ _ ?_; unfold zm0;refine (vK hp n f r hl hr).mono ?_;rintro _ rfl;have hrng := pK hp r;refine ⟨_, rfl, rfl, _, rfl, _, rfl, _, rfl, _, rfl, _, rfl, _, rfl, ?_⟩;refine aC (fun h1 => ?_) (fun h1 => aC (fun h2 => ?_) (fun h2 => ?_))
 ·simp only [qbj, aB] at h1;unfold dU; simp [h1]
 ·simp only [qbj, aB] at h1;simp only [beq_iff_eq] at h2;unfold dU; simp [h1, h2]
 ·simp only [qbj, aB] at h1;simp only [beq_iff_eq] at h2;refine (mJ n f 3 r hl hr).mono ?_;rintro _ rfl;refine ⟨_, rfl, ?_⟩;refine aC (fun h4 => ?_) (fun h4 => ?_)
  ·simp only [beq_iff_eq] at h4;unfold dU; rw [zm1]; simp [h1, h2, h4]
  ·simp only [beq_iff_eq] at h4;refine (mJ n f 1 r hl hr).mono ?_;rintro _ rfl;refine ⟨_, rfl, ?_⟩;refine aC (fun h5 => ?_) (fun h5 => ?_)
   ·simp only [bne_iff_ne, ne_eq] at h5;unfold dU; simp [h1, h2, h5]
   ·simp only [bne_iff_ne, ne_eq, qi] at h5;refine (mJ n f 1 _ hl (by omega)).mono ?_;rintro _ rfl;refine ⟨_, rfl, ?_⟩;unfold dU; rw [zm1];simp only [h1, h2, h4, h5, decide_false, qbq, qae, qbg, decide_true, qbs];rfl
end
end Go.Eng
namespace Go.Eng
open Go Go.Proofs
section
variable (a b : Int)
def zm2 (R : PV -> Prop) : Prop :=
 if (decide (a >= 4352) && decide (a <= 4370) && decide (b >= 4449) && decide (b <= 4469)) = true then R (PV.tup [Z3 (i32.wrap (i64.wrap (i64.wrap ((44032 : Int) + i64.wrap (i64.wrap (i64.wrap a - 4352) * 588)) + i64.wrap (i64.wrap (i64.wrap b - 4449) * 28)))), Zb true]) else ACall qa 100 [LV.pv (Z3 a)] [] fun (r : LV) (h' : Hp) => (∃ (t : Bool × LL), (r = LV.own 0 /\ h' = [Ob.sl (21, 1) true t.fst t.snd]) /\ True /\ if ((↑t.snd.length : Int) == 2 && decide (b >= 4520) && decide (b <= 4546)) = true then R (PV.tup [Z3 (i32.wrap (a + i32.wrap (b - 4519))), Zb true]) else R (PV.tup [Z3 0, Zb false])) ∨ ∃ (t : Bool × LL), (r = LV.pv (PV.sl t.fst true t.snd) /\ h' = []) /\ True /\ if ((↑t.snd.length : Int) == 2 && decide (b >= 4520) && decide (b <= 4546)) = true then R (PV.tup [Z3 (i32.wrap (a + i32.wrap (b - 4519))), Zb true]) else R (PV.tup [Z3 0, Zb false])
theorem zyj {R : PV -> Prop} (h : zm2 a b R) : PCall qa 158 [.int .i32 a, .int .i32 b] R :=
 PCall.wz Tryz.func158 (fun zz_ => match zz_ with | 100 => some ⟨Bool × LL, fun _ hs t => (.own hs.length, hs ++ [.sl (21, 1) true t.1 t.2]), some ⟨Bool × LL, fun _ hs t => (.pv (.sl t.1 true t.2), hs)⟩⟩ | _ => none) [0, 1, 4, 5, 6, 20, 44] aW h
end
def zdo (n f : Bool) (es : LL) (a b : Int) (x8 : Int) (x9 : Bool) (x10 : Int) : Env × Hp := ([(0, LV.pv (PV.sl n f es)), (1, LV.pv (PV.int i32 a)), (2, LV.pv (PV.int i32 b)), (8, .pv (.int i32 x8)), (9, .pv (.bool x9)), (10, Y6 x10)], [])
section
variable (n f : Bool) (es : LL) (a b : Int) (J : Int -> Bool -> Int -> Prop) (μ : Int -> Bool -> Int -> Nat)
def zm3 (R : PV -> Prop) : Prop :=
 (aG (zdo n f es a b (0 : Int) false (0 : Int)) /\ J (0 : Int) false (0 : Int)) /\ ∀ (x8 : Int) (x9 : Bool) (x10 : Int), J x8 x9 x10 ->
 let K4 := fun (y0_ : Int) (y1_ : Bool) (y2_ : Int) => aG (zdo n f es a b y0_ y1_ y2_) /\ J y0_ y1_ y2_ /\ μ y0_ y1_ y2_ < μ x8 x9 x10; if decide (x10 < (↑es.length : Int)) = true then aI es x10 5 /\ ∃ n1, (qk 0 (es.getD x10.toNat [])).head? = some (Z6 n1) /\
 let V1 := K4 x8 x9 (i64.wrap (x10 + 1)); if (n1 != 2) = true then V1 else aI es x10 5 /\ ∃ n2, (qk 3 (es.getD x10.toNat [])).head? = some (Z6 n2) /\ if (n2 != i64.wrap a) = true then V1 else aI es x10 5 /\ ∃ n3, (qk 4 (es.getD x10.toNat [])).head? = some (Z6 n3) /\ if (n3 != i64.wrap b || b == 0) = true then V1 else aI es x10 5 /\ ∃ n4, (qk 1 (es.getD x10.toNat [])).head? = some (Z6 n4) /\ PCall qa 101 [PV.sl n f es, Z3 (i32.wrap n4)] fun v => ∃ vs, v = PV.tup vs /\ vs.length = 3 /\ ∃ x, vs.head? = some x /\ ∃ n5, x = Z3 n5 /\ ∃ x1, vs.tail.head? = some x1 /\ ∃ n6, x1 = Z3 n6 /\ ∃ x2, vs.tail.tail.head? = some x2 /\ ∃ b1, x2 = Zb b1 /\ if (b1 && n5 == a && n6 == b) = true then PCall qa 171 [PV.sl n f es, Z3 (i32.wrap n4)] fun v1 => ∃ b2, v1 = Zb b2 /\ if (!b2 && (!x9 || decide (i32.wrap n4 < x8))) = true then K4 (i32.wrap n4) true (i64.wrap (x10 + 1)) else V1 else V1 else R (PV.tup [Z3 x8, Zb x9])
theorem zyk {R : PV -> Prop} (h : zm3 n f es a b J μ R) : PCall qa 159 [.sl n f es, .int .i32 a, .int .i32 b] R :=
 PCall.wz Tryz.func159 aP [0, 1, 2, 6, 7, 8, 9, 10, 11, 12, 13, 14, 18, 50, 89] (bY 4 (a8 dS (zdo n f es a b) J μ (fun e h => (gI e 8, gB e 9, gI e 10)) [] [0, 1, 2, 8, 9, 10] [])) h
end
section
variable (n f : Bool) (es : LL) (a b : Int)
def zm4 (R : PV -> Prop) : Prop :=
 PCall qa 158 [Z3 a, Z3 b] fun v => ∃ vs, v = PV.tup vs /\ vs.length = 2 /\ ∃ x, vs.head? = some x /\ ∃ n1, x = Z3 n1 /\ ∃ x1, vs.tail.head? = some x1 /\ ∃ b1, x1 = Zb b1 /\ if b1 = true then R (PV.tup [Z3 n1, Zb true]) else PCall qa 159 [PV.sl n f es, Z3 a, Z3 b] fun v1 => ∃ vs1, v1 = PV.tup vs1 /\ vs1.length = 2 /\ ∃ x2, vs1.head? = some x2 /\ ∃ n2, x2 = Z3 n2 /\ ∃ x3, vs1.tail.head? = some x3 /\ ∃ b2, x3 = Zb b2 /\ R (PV.tup [Z3 n2, Zb b2])
theorem zyl {R : PV -> Prop} (h : zm4 n f es a b R) : PCall qa 127 [.sl n f es, .int .i32 a, .int .i32 b] R :=
 PCall.wz Tryz.func127 aP [0, 1, 2, 6, 7, 8, 9, 16] aW h
end
def zdp (n f : Bool) (es : LL) (n2 f2 : Bool) (ss : LL) (x5 : Int) : Env × Hp := ([(0, LV.pv (PV.sl n f es)), (1, LV.pv (PV.sl n2 f2 ss)), (5, Y6 x5)], [])
section
variable (n f : Bool) (es : LL) (n2 f2 : Bool) (ss : LL) (J : Int -> Prop) (μ : Int -> Nat)
def zm5 (R : PV -> Prop) : Prop :=
 (aG (zdp n f es n2 f2 ss (i64.wrap ((↑ss.length : Int) - 1))) /\ J (i64.wrap ((↑ss.length : Int) - 1))) /\ ∀ (x5 : Int), J x5 -> if decide (x5 >= 0) = true then aI ss x5 1 /\ ∃ n1, (ss.getD x5.toNat []).head? = some (Z3 n1) /\ PCall qa 102 [PV.sl n f es, Z3 n1] fun v => ∃ n3, v = Z6 n3 /\ if (n3 == 0) = true then R (Z6 x5) else aG (zdp n f es n2 f2 ss (i64.wrap (x5 - 1))) /\ J (i64.wrap (x5 - 1)) /\ μ (i64.wrap (x5 - 1)) < μ x5 else R (Z6 (-1 : Int))
theorem zym {R : PV -> Prop} (h : zm5 n f es n2 f2 ss J μ R) : PCall qa 125 [.sl n f es, .sl n2 f2 ss] R :=
 PCall.wz Tryz.func125 aP [0, 1, 4, 5, 10, 19] (bY 2 (a8 mA (zdp n f es n2 f2 ss) J μ (fun e h => (((gI e 5), ()))) [] [0, 1, 5] [])) h
end
section
variable (n f : Bool) (es : LL) (n2 f2 : Bool) (ss : LL) (k r : Int)
def zm6 (R : PV -> Prop) : Prop :=
 if (k == i64.wrap ((↑ss.length : Int) - 1)) = true then R (Zb true) else aI ss (i64.wrap ((↑ss.length : Int) - 1)) 1 /\ ∃ n1, (ss.getD (i64.wrap ((↑ss.length : Int) - 1)).toNat []).head? = some (Z3 n1) /\ PCall qa 102 [PV.sl n f es, Z3 n1] fun v => ∃ n3, v = Z6 n3 /\ PCall qa 102 [PV.sl n f es, Z3 r] fun v1 => ∃ n4, v1 = Z6 n4 /\ R (Zb (decide (n3 < n4)))
theorem zyn {R : PV -> Prop} (h : zm6 n f es ss k r R) : PCall qa 126 [.sl n f es, .sl n2 f2 ss, .int .i64 k, .int .i32 r] R :=
 PCall.wz Tryz.func126 aP [0, 1, 2, 3, 8, 13] aW h
end
def zdr (n f : Bool) (es : LL) (n2 f2 : Bool) (ss : LL) (x6 : Int) (n_0 : Bool) (s_0 : LL) : Env × Hp := ([(0, LV.pv (PV.sl n f es)), (1, LV.pv (PV.sl n2 f2 ss)), (5, LV.own 0), (6, Y6 x6)], [.sl (21, 1) true n_0 s_0])
section
variable (n f : Bool) (es : LL) (n2 f2 : Bool) (ss : LL) (J : Int -> Bool -> LL -> Prop) (μ : Int -> Bool -> LL -> Nat)
def zm7 (R : PV -> Prop) : Prop :=
 (aG (zdr n f es n2 f2 ss (0 : Int) true []) /\ J (0 : Int) true []) /\ ∀ (x6 : Int) (n_0 : Bool) (s_0 : LL), J x6 n_0 s_0 ->
 let K3 := fun (y0_ : Int) (y1_ : Bool) (y2_ : LL) => aG (zdr n f es n2 f2 ss y0_ y1_ y2_) /\ J y0_ y1_ y2_ /\ μ y0_ y1_ y2_ < μ x6 n_0 s_0; if decide (x6 < (↑ss.length : Int)) = true then PCall qa 125 [PV.sl n f es, PV.sl n_0 false s_0] fun v => ∃ n1, v = Z6 n1 /\ true = true /\
 let V1 := aI ss x6 1 /\ ∃ n7, (ss.getD x6.toNat []).head? = some (Z3 n7) /\ (aQ [[Z3 n7]] 1 /\ (s_0.length + 1) * 4 <= 140737488355328) /\ K3 (i64.wrap (x6 + 1)) (n_0 && false) (s_0 ++ [[Z3 n7]]); if decide (n1 >= 0) = true then aI ss x6 1 /\ ∃ n3, (ss.getD x6.toNat []).head? = some (Z3 n3) /\ PCall qa 126 [PV.sl n f es, PV.sl n_0 false s_0, Z6 n1, Z3 n3] fun v1 => ∃ b, v1 = Zb b /\ true = true /\ if b = true then aI s_0 n1 1 /\ ∃ n4, (qk 0 (s_0.getD n1.toNat [])).head? = some (Z3 n4) /\ aI ss x6 1 /\ ∃ n5, (ss.getD x6.toNat []).head? = some (Z3 n5) /\ PCall qa 127 [PV.sl n f es, Z3 n4, Z3 n5] fun v2 => ∃ vs, v2 = PV.tup vs /\ vs.length = 2 /\ ∃ x, vs.head? = some x /\ ∃ n6, x = Z3 n6 /\ ∃ x1, vs.tail.head? = some x1 /\ ∃ b1, x1 = Zb b1 /\ if b1 = true then aI s_0 n1 1 /\ (1 = 1 /\ 1 <= (s_0.getD n1.toNat []).length) /\ K3 (i64.wrap (x6 + 1)) n_0 (s_0.set n1.toNat (Z3 n6 :: zq (qk 1 (s_0.getD n1.toNat [])))) else V1 else V1 else V1 else R (PV.sl n_0 false s_0)
theorem zyo {R : PV -> Prop} (h : zm7 n f es n2 f2 ss J μ R) : PCall qa 98 [.sl n f es, .sl n2 f2 ss] R :=
 PCall.wz Tryz.func98 aP [0, 1, 4, 5, 6, 7, 8, 9, 13, 30, 44] (bY 3 (a8 dS (zdr n f es n2 f2 ss) J μ (fun e h => (gI e 6, oN h 0, oS h 0)) [(5, 21, 1)] [0, 1, 5, 6] [])) h
end
section
variable (n f : Bool) (es : LL) (n2 f2 : Bool) (ss : LL)
def zm8 (R : PV -> Prop) : Prop :=
 PCall qa 20 [PV.sl n f es, PV.sl n2 f2 ss] fun v => ∃ n1 f1 es1, v = PV.sl n1 f1 es1 /\ PCall qa 98 [PV.sl n f es, PV.sl n1 f1 es1] fun v1 => ∃ n3 f3 es2, v1 = PV.sl n3 f3 es2 /\ R (PV.sl n3 f3 es2)
theorem zyp {R : PV -> Prop} (h : zm8 n f es n2 f2 ss R) : PCall qa 64 [.sl n f es, .sl n2 f2 ss] R :=
 PCall.wz Tryz.func64 aP [0, 1, 4] aW h
end
end Go.Eng
namespace Go.Eng
open Go Go.Proofs Go.Eng.Rows Go.Eng.Trie Go.Eng.Srt
theorem zyq {r : Int} (hs : bM r = false) : ACall qa 100 [.pv (.int .i32 r)] [] fun r1 h' => r1 = .pv (.sl true true []) /\ h' = [] := by
 refine zg9 _ ?_; unfold zT;refine (pIs r).mono ?_;rintro _ rfl;refine ⟨_, rfl, ?_⟩;rw [hs];exact bA rfl ⟨rfl, rfl⟩
theorem zyr {a b : Int} (ha : -2147483648 <= a /\ a <= 2147483647) (hb : -2147483648 <= b /\ b <= 2147483647) : PCall qa 158 [.int .i32 a, .int .i32 b] fun v => v = kB (eB a b) := by
 refine zyj _ _ ?_; unfold zm2;have wa : i64.wrap a = a := aF (by omega) (by omega);have wb : i64.wrap b = b := aF (by omega) (by omega);rw [wa, wb];refine aC (fun hc => ?_) (fun hc => ?_)
 ·simp only [qc, aB, ge_iff_le] at hc;have w1 : i64.wrap (a - 4352) = a - 4352 := aF (by omega) (by omega);have w2 : i64.wrap ((a - 4352) * 588) = (a - 4352) * 588 := aF (by omega) (by omega);have w3 : i64.wrap (44032 + (a - 4352) * 588) = 44032 + (a - 4352) * 588 := aF (by omega) (by omega);have w4 : i64.wrap (b - 4449) = b - 4449 := aF (by omega) (by omega);have w5 : i64.wrap ((b - 4449) * 28) = (b - 4449) * 28 := aF (by omega) (by omega);rw [w1, w2, w3, w4, w5];have w6 : i64.wrap (44032 + (a - 4352) * 588 + (b - 4449) * 28) = 44032 + (a - 4352) * 588 + (b - 4449) * 28 := aF (by omega) (by omega);rw [w6];have w7 : i32.wrap (44032 + (a - 4352) * 588 + (b - 4449) * 28) = 44032 + (a - 4352) * 588 + (b - 4449) * 28 := cW (by omega) (by omega);rw [w7];unfold eB;rw [if_pos (by omega)];simp only [kB];rw [show 44032 + (a - 4352) * 588 + (b - 4449) * 28 = 44032 + ((a - 4352) * 21 + (b - 4449)) * 28 by omega]
 ·simp only [qc, aB, ge_iff_le] at hc;have hn : ¬ ((4352 <= a /\ a < 4371) /\ 4449 <= b /\ b < 4470) := by omega
  have fin : ∀ (l : List (List PV)), (((l.length : Int) = 2 ↔ (bM a = true /\ (a - 44032) % 28 = 0))) -> (if (((l.length : Int)) == 2 && decide (b >= 4520) && decide (b <= 4546)) = true then (PV.tup [.int .i32 (i32.wrap (a + i32.wrap (b - 4519))), .bool true] : PV) = kB (eB a b) else (PV.tup [.int .i32 0, .bool false] : PV) = kB (eB a b)) := fun l hl => by
   refine aC (fun h2 => ?_) (fun h2 => ?_)
   ·simp only [qc, aB, beq_iff_eq, ge_iff_le] at h2;have hs := hl.1 h2.1.1;have hr := hs.1;simp only [bM, qc, aB] at hr;have w1 : i32.wrap (b - 4519) = b - 4519 := cW (by omega) (by omega);have w2 : i32.wrap (a + (b - 4519)) = a + (b - 4519) := cW (by omega) (by omega);rw [w1, w2];unfold eB; rw [if_neg hn, if_pos ⟨hs, by omega, by omega⟩]; rfl
   ·simp only [qc, aB, beq_iff_eq, ge_iff_le] at h2;unfold eB; rw [if_neg hn, if_neg (fun h => h2 ⟨⟨hl.2 h.1, by omega⟩, by omega⟩)]; rfl
  cases hs : bM a with
  | false =>
    refine (zyq hs).mono ?_;rintro _ _ ⟨rfl, rfl⟩;exact .inr ⟨(true, []), ⟨rfl, rfl⟩, trivial, fin [] (by rw [hs]; simp)⟩
  | true =>
    have hl : ((aA (dW a)).length : Int) = 2 ↔ (bM a = true /\ (a - 44032) % 28 = 0) := by
     rw [bH, hs];unfold dW;split <;> simp [*]
    refine (zbw hs).mono ?_;rintro r1 h' (⟨nl, rfl, rfl⟩ | ⟨rfl, rfl⟩)
    ·exact .inl ⟨(nl, _), ⟨rfl, rfl⟩, trivial, fin _ hl⟩
    ·exact .inr ⟨(false, _), ⟨rfl, rfl⟩, trivial, fin _ hl⟩
section
variable {rows : List Row}
def pX (o : Option Int) : Int := o.getD 0
theorem zys (hp : cU rows) (h1 : dB rows) (n f : Bool) {a b : Int} (hl : rows.length < 1000000) (ha : -2147483648 <= a /\ a <= 2147483647) (hb : -2147483648 <= b /\ b <= 2147483647) :
 PCall qa 159 [.sl n f (bB rows), .int .i32 a, .int .i32 b] fun v => v = kB (mN rows a b) := by
 refine zyk _ _ _ _ _ (fun x8 x9 i => (0 <= i /\ i <= rows.length) /\ x8 = pX ((rows.take i.toNat).foldl (Rows.cmpS rows a b) none) /\ x9 = ((rows.take i.toNat).foldl (Rows.cmpS rows a b) none).isSome) (fun _ _ i => rows.length - i.toNat) ?_;unfold zm3;refine ⟨⟨rfl, ⟨qp _, by omega⟩, rfl, rfl⟩, ?_⟩;rintro x8 x9 i ⟨⟨i0, i1⟩, h8, h9⟩;have wa : i64.wrap a = a := aF (by omega) (by omega);have wb : i64.wrap b = b := aF (by omega) (by omega);rw [wa, wb];refine aC (fun hc => ?_) (fun hc => ?_)
 ·simp only [aB, iT] at hc;have hi : i.toNat < rows.length := by omega
  have hw : i64.wrap (i + 1) = i + 1 := aF (by omega) (by omega);have hg : (bB rows).getD i.toNat [] = nH rows[i.toNat] := cN hi;have hix : aI (bB rows) i 5 := bQ pG i0 (by omega);have hmem := qg hi
  have hst : (rows.take (i + 1).toNat).foldl (Rows.cmpS rows a b) none = Rows.cmpS rows a b ((rows.take i.toNat).foldl (Rows.cmpS rows a b) none) rows[i.toNat] := by
   rw [show (i + 1).toNat = i.toNat + 1 by omega, c5 hi, qbl]; rfl
  rw [hw];generalize (rows.take i.toNat).foldl (Rows.cmpS rows a b) none = o at *;generalize rows[i.toNat] = x at *
  have skip : dY rows a b x = false -> (0 <= i + 1 /\ i + 1 <= rows.length) /\ x8 = pX ((rows.take (i + 1).toNat).foldl (Rows.cmpS rows a b) none) /\ x9 = ((rows.take (i + 1).toNat).foldl (Rows.cmpS rows a b) none).isSome := fun h => by
   rw [hst]; unfold Rows.cmpS; rw [h]; exact ⟨⟨by omega, by omega⟩, h8, h9⟩
  have hmu : rows.length - (i + 1).toNat < rows.length - i.toNat := by omega
  refine ⟨hix, x.kind, by rw [hg]; rfl, aC (fun c1 => ?_) (fun c1 => ?_)⟩
  ·simp only [bne_iff_ne, ne_eq] at c1;exact ⟨rfl, skip (by simp [dY, c1]), hmu⟩
  simp only [bne_iff_ne, ne_eq, qi] at c1;refine ⟨hix, x.a, by rw [hg]; rfl, aC (fun c2 => ?_) (fun c2 => ?_)⟩
  ·simp only [bne_iff_ne, ne_eq] at c2;exact ⟨rfl, skip (by simp [dY, c2]), hmu⟩
  simp only [bne_iff_ne, ne_eq, qi] at c2;refine ⟨hix, x.b, by rw [hg]; rfl, aC (fun c3 => ?_) (fun c3 => ?_)⟩
  ·simp only [qm, bne_iff_ne, ne_eq, beq_iff_eq] at c3;refine ⟨rfl, skip ?_, hmu⟩;rcases c3 with c3 | c3
   ·simp [dY, c3]
   ·simp [dY, c3]
  simp only [qm, bne_iff_ne, ne_eq, beq_iff_eq, not_or, qi] at c3;obtain ⟨hpx, hfr⟩ := vX h1 hmem c1;have wf : i32.wrap x.fr = x.fr := cW (by omega) (by omega);refine ⟨hix, x.fr, by rw [hg]; rfl, ?_⟩;rw [wf];refine (vK hp n f x.fr hl (by omega)).mono ?_;rintro _ rfl;rw [hpx, c2, c3.1];refine ⟨_, rfl, rfl, _, rfl, _, rfl, _, rfl, _, rfl, _, rfl, _, rfl, bA (by simp [c3.2]) ?_⟩;refine (zyi hp n f x.fr hl (by omega)).mono ?_;rintro _ rfl;refine ⟨_, rfl, ?_⟩;cases ho : dU rows x.fr with
  | true => exact bD (by simp) ⟨rfl, skip (by simp [dY, ho]), hmu⟩
  | false =>
    have hcb : dY rows a b x = true := by simp [dY, c1, c2, c3.1, c3.2, ho]
    cases o with
    | none =>
      simp only [qbt] at h9;refine bA (by rw [h9]; rfl) ⟨rfl, ⟨⟨by omega, by omega⟩, ?_, ?_⟩, hmu⟩
      ·rw [hst]; simp [Rows.cmpS, hcb, pX]
      ·rw [hst]; simp [Rows.cmpS, hcb]
    | some r =>
      simp only [qbt] at h9;simp only [pX, Option.getD] at h8;refine aC (fun c4 => ?_) (fun c4 => ?_)
      ·rw [h9, h8] at c4;simp at c4;refine ⟨rfl, ⟨⟨by omega, by omega⟩, ?_, ?_⟩, hmu⟩
       ·rw [hst]; simp [Rows.cmpS, hcb, pX, c4]
       ·rw [hst]; simp [Rows.cmpS, hcb, c4]
      ·rw [h9, h8] at c4;simp at c4;refine ⟨rfl, ⟨⟨by omega, by omega⟩, ?_, ?_⟩, hmu⟩
       ·have hlt : ¬ x.fr < r := by omega
        rw [hst, h8]; simp [Rows.cmpS, hcb, pX, hlt]
       ·rw [hst, h9]; simp [Rows.cmpS, hcb]; split <;> rfl
 ·simp only [aB, iT] at hc;rw [qh (by omega)] at h8 h9;unfold mN;rw [h8, h9];cases rows.foldl (Rows.cmpS rows a b) none <;> rfl
theorem zyt (hp : cU rows) (h1 : dB rows) (n f : Bool) {a b : Int} (hl : rows.length < 1000000) (ha : -2147483648 <= a /\ a <= 2147483647) (hb : -2147483648 <= b /\ b <= 2147483647) :
 PCall qa 127 [.sl n f (bB rows), .int .i32 a, .int .i32 b] fun v => v = kB (eW rows a b) := by
 refine zyl _ _ _ _ _ ?_; unfold zm4;refine (zyr ha hb).mono ?_;rintro _ rfl;unfold eW;cases eB a b with
 | some r => exact ⟨_, rfl, rfl, _, rfl, _, rfl, _, rfl, _, rfl, bA rfl rfl⟩
 | none =>
   refine ⟨_, rfl, rfl, _, rfl, _, rfl, _, rfl, _, rfl, bD (by simp) ?_⟩;refine (zys hp h1 n f hl ha hb).mono ?_;rintro _ rfl;cases mN rows a b with
   | none => exact ⟨_, rfl, rfl, _, rfl, _, rfl, _, rfl, _, rfl, rfl⟩
   | some r => exact ⟨_, rfl, rfl, _, rfl, _, rfl, _, rfl, _, rfl, rfl⟩
theorem zyu {st : CSt} (h0 : st.s = none -> st.P = []) (h1 : ∀ a, st.s = some a -> aD rows 1 a = 0) (h2 : ∀ m ∈ st.M, aD rows 1 m ≠ 0) :
 (c6 st = -1 /\ ∀ k (h : k < st.out.length), aD rows 1 st.out[k] ≠ 0) ∨ (∃ k : Nat, c6 st = (k : Int) /\ ∃ h : k < st.out.length, aD rows 1 st.out[k] = 0 /\ ∀ j (hj : j < st.out.length), k < j -> aD rows 1 st.out[j] ≠ 0) := by
 cases hs : st.s with
 | none =>
   have hP := h0 hs;have ho : st.out = st.M := by simp [CSt.out, hs, hP]
   refine .inl ⟨by simp [c6, hs], fun k hk => h2 _ ?_⟩;have := qg hk;rw [<- ho]; exact this
 | some a =>
   have ho : st.out = st.P ++ a :: st.M := by simp [CSt.out, hs]
   refine .inr ⟨st.P.length, by simp [c6, hs], by rw [ho]; simp, ?_, fun j hj hlt => h2 _ ?_⟩
   ·simp only [ho, qaz (qo _), Nat.sub_self, List.getElem_cons_zero]; exact h1 a hs
   ·simp only [ho];rw [qaz (by omega), List.getElem_cons];rw [dif_neg (by omega)];exact qg _
theorem zyv (n f n2 f2 : Bool) (hl : rows.length < 1000000) (L : List Int) (hr : R32 L) (hL : L.length < 1000000000000) :
 PCall qa 125 [.sl n f (bB rows), .sl n2 f2 (aA L)] fun v => ∃ x : Int, v = .int .i64 x /\ ((x = -1 /\ ∀ k (h : k < L.length), aD rows 1 L[k] ≠ 0) ∨ (∃ k : Nat, x = (k : Int) /\ ∃ h : k < L.length, aD rows 1 L[k] = 0 /\ ∀ j (hj : j < L.length), k < j -> aD rows 1 L[j] ≠ 0)) := by
 refine zym _ _ _ _ _ _ (fun x => (-1 <= x /\ x < L.length) /\ ∀ j (hj : j < L.length), x < j -> aD rows 1 L[j] ≠ 0) (fun x => (x + 1).toNat) ?_;unfold zm5;have hw : i64.wrap ((aA L).length - 1) = L.length - 1 := by rw [bH]; exact aF (by omega) (by omega)
 rw [hw];refine ⟨⟨rfl, ⟨by omega, by omega⟩, fun j hj h => by omega⟩, ?_⟩;rintro x ⟨⟨x0, x1⟩, hx⟩;refine aC (fun hc => ?_) (fun hc => ?_)
 ·simp only [aB, ge_iff_le] at hc;have hi : x.toNat < L.length := by omega
  obtain ⟨g1, g2⟩ := gE hc hi;have hw1 : i64.wrap (x - 1) = x - 1 := aF (by omega) (by omega);refine ⟨g1, L[x.toNat], by rw [g2]; rfl, ?_⟩;refine (vJ n f _ hl (hr _ (qg hi))).mono ?_;rintro _ rfl;refine ⟨_, rfl, ?_⟩;rw [hw1];refine aC (fun h0 => ?_) (fun h0 => ?_)
  ·simp only [beq_iff_eq] at h0;exact ⟨x, rfl, .inr ⟨x.toNat, by omega, hi, h0, fun j hj hlt => hx j hj (by omega)⟩⟩
  ·simp only [beq_iff_eq] at h0;refine ⟨rfl, ⟨⟨by omega, by omega⟩, fun j hj hlt => ?_⟩, by dsimp only; omega⟩;by_cases he : j = x.toNat
   ·subst he; exact h0
   ·exact hx j hj (by omega)
 ·simp only [aB, ge_iff_le] at hc;exact ⟨-1, rfl, .inl ⟨rfl, fun k hk => hx k hk (by omega)⟩⟩
theorem zyw (n f n2 f2 : Bool) (hl : rows.length < 1000000) (L : List Int) (hr : R32 L) (hL : L.length < 1000000000000) (h0 : 0 < L.length) (k : Int) {r : Int} (hx : -2147483648 <= r /\ r <= 2147483647) :
 PCall qa 126 [.sl n f (bB rows), .sl n2 f2 (aA L), .int .i64 k, .int .i32 r] fun v => v = .bool (decide (k = L.length - 1) || decide (dG (aD rows 1) L < aD rows 1 r)) := by
 refine zyn _ _ _ _ _ _ _ _ ?_; unfold zm6;have hw : i64.wrap ((aA L).length - 1) = L.length - 1 := by rw [bH]; exact aF (by omega) (by omega)
 rw [hw];refine aC (fun hc => ?_) (fun hc => ?_)
 ·simp only [beq_iff_eq] at hc; simp [hc]
 ·simp only [beq_iff_eq] at hc;have hi : ((L.length : Int) - 1).toNat < L.length := by omega
  obtain ⟨g1, g2⟩ := gE (l := L) (i := (L.length : Int) - 1) (by omega) hi;refine ⟨g1, L[((L.length : Int) - 1).toNat], by rw [g2]; rfl, ?_⟩;refine (vJ n f _ hl (hr _ (qg hi))).mono ?_;rintro _ rfl;refine ⟨_, rfl, ?_⟩;refine (vJ n f _ hl hx).mono ?_;rintro _ rfl;refine ⟨_, rfl, ?_⟩
  have : dG (aD rows 1) L = aD rows 1 L[((L.length : Int) - 1).toNat] := by
   unfold dG;rw [qba, qz (by omega)];simp only;congr 2;omega
  rw [this]; simp [hc]
theorem zyx (hp : cU rows) (h1 : dB rows) (hs0 : ∀ (d : List Int) a, (bG rows d).s = some a -> aD rows 1 a = 0) (n f n2 f2 : Bool) (hl : rows.length < 1000000) (L : List Int) (hr : R32 L) (hL : L.length < 1000000000000) :
 PCall qa 98 [.sl n f (bB rows), .sl n2 f2 (aA L)] fun x => ∃ n f, x = .sl n f (aA (gG rows L)) := by
 refine zyo _ _ _ _ _ _ (fun i _ s => (0 <= i /\ i <= L.length) /\ s = aA (bG rows (L.take i.toNat)).out) (fun i _ _ => L.length - i.toNat) ?_;unfold zm7;refine ⟨⟨rfl, ⟨qp _, by omega⟩, rfl⟩, ?_⟩;rintro i n0 _ ⟨⟨i0, i1⟩, rfl⟩;refine aC (fun hc => ?_) (fun hc => ?_)
 ·simp only [aB, bH] at hc;have hi : i.toNat < L.length := by omega
  obtain ⟨g1, g2⟩ := gE i0 hi;have hx := hr _ (qg hi);have hw : i64.wrap (i + 1) = i + 1 := aF (by omega) (by omega);rw [hw];have hlen := zcp rows (L.take i.toNat);have hrng := zcq h1 (L.take i.toNat);have hnz := zk8 (rows := rows) (d := L.take i.toNat);have hnP := sF (rows := rows) (d := L.take i.toNat);have hsk := hs0 (L.take i.toNat);rw [qn] at hlen;unfold gG at hlen hrng
  have next : ∀ st2, cA rows (bG rows (L.take i.toNat)) L[i.toNat] = st2 -> (0 <= i + 1 /\ i + 1 <= L.length) /\ aA st2.out = aA (bG rows (L.take (i + 1).toNat)).out := fun st2 he => by
   rw [show (i + 1).toNat = i.toNat + 1 by omega, c5 hi, gH, he]; exact ⟨⟨by omega, by omega⟩, rfl⟩
  generalize bG rows (L.take i.toNat) = st at *;have hmu : L.length - (i + 1).toNat < L.length - i.toNat := by omega
  have hr2 : R32 st.out := fun y hy => by
   rcases hrng y hy with h | h
   ·exact hr y (qai h)
   ·omega
  have hsz : aQ [[PV.int .i32 L[i.toNat]]] 1 /\ ((aA st.out).length + 1) * 4 <= 140737488355328 := ⟨dO [_], by rw [bH]; omega⟩
  have app : cA rows st L[i.toNat] = cO (aD rows 1) st L[i.toNat] -> (0 <= i + 1 /\ i + 1 <= L.length) /\ aA st.out ++ [[PV.int .i32 L[i.toNat]]] = aA (bG rows (L.take (i + 1).toNat)).out := fun he => by
   obtain ⟨k1, k2⟩ := next _ he
   rw [mO, fV] at k2;exact ⟨k1, k2⟩
  refine (zyv n f n0 false hl st.out hr2 (by omega)).mono ?_;rintro _ ⟨x, rfl, hst⟩
  have hxs : x = c6 st := by
   rcases zyu hnP hsk hnz with ⟨e, h⟩ | ⟨k, e, hk, h, h'⟩
   ·rcases hst with ⟨e2, _⟩ | ⟨k2, e2, hk2, q, _⟩
    ·omega
    ·exact absurd q (h k2 hk2)
   ·rcases hst with ⟨e2, q⟩ | ⟨k2, e2, hk2, q, q'⟩
    ·exact absurd h (q k hk)
    ·rcases Nat.lt_trichotomy k k2 with hlt | rfl | hlt
     ·exact absurd q (h' k2 hk2 hlt)
     ·omega
     ·exact absurd h (q' k hk hlt)
  clear hst;subst hxs;refine ⟨_, rfl, rfl, aC (fun hf => ?_) (fun hf => ?_)⟩
  ·simp only [aB, ge_iff_le] at hf;cases hs : st.s with
   | none => simp [c6, hs] at hf
   | some a =>
     have hsi : c6 st = st.P.length := by simp [c6, hs]
     have hol : st.out.length = st.P.length + 1 + st.M.length := by simp [CSt.out, hs]; omega
     refine ⟨g1, L[i.toNat], by rw [g2]; rfl, ?_⟩;refine (zyw n f n0 false hl st.out hr2 (by omega) (by omega) (c6 st) hx).mono ?_;rintro _ rfl
     have hfree : (decide (c6 st = st.out.length - 1) || decide (dG (aD rows 1) st.out < aD rows 1 L[i.toNat])) = true ↔ (st.M = [] ∨ dG (aD rows 1) st.M < aD rows 1 L[i.toNat]) := by
      simp only [qm, aB];by_cases hM : st.M = []
      ·refine ⟨fun _ => .inl hM, fun _ => .inl ?_⟩;rw [hsi, hol, hM]; simp
      ·obtain ⟨D, m, hDm⟩ := (List.eq_nil_or_concat _).resolve_left hM
       have e : dG (aD rows 1) st.out = dG (aD rows 1) st.M := by
        have e2 : st.out = (st.P ++ a :: D) ++ [m] := by simp [CSt.out, hDm, hs]
        rw [e2, hDm, List.concat_eq_append, sE, sE]
       rw [e];refine or_congr ⟨fun h => ?_, fun h => absurd h hM⟩ Iff.rfl;rw [hsi, hol] at h;exact qt (by omega)
     refine ⟨_, rfl, rfl, aC (fun hfr => ?_) (fun hfr => ?_)⟩
     ·have hfr := hfree.1 hfr;have hat : st.out[st.P.length]'(by omega) = a := by simp [CSt.out, hs]
      obtain ⟨k1, k2⟩ := gE (l := st.out) (i := c6 st) (by omega) (by omega);have hta : (c6 st).toNat = st.P.length := by omega
      have k3 : (aA st.out).getD (c6 st).toNat [] = [PV.int .i32 a] := by
       rw [k2]; simp only [hta, hat]
      have ha : -2147483648 <= a /\ a <= 2147483647 := hr2 a (by simp [CSt.out, hs]);refine ⟨k1, a, by rw [k3]; rfl, g1, L[i.toNat], by rw [g2]; rfl, ?_⟩;refine (zyt hp h1 n f hl ha hx).mono ?_;rintro _ rfl;cases hpc : eW rows a L[i.toNat] with
      | some c =>
        refine ⟨_, rfl, rfl, _, rfl, _, rfl, _, rfl, _, rfl, bA rfl ⟨k1, ⟨rfl, by rw [k3]; exact qo _⟩, rfl, ?_, by dsimp only; omega⟩⟩;rw [k3, hta]
        have he : cA rows st L[i.toNat] = ⟨st.P, some c, st.M⟩ := by
         unfold cA; rw [hs]; simp only; rw [if_pos hfr, hpc]
        have e2 : (aA st.out).set st.P.length [PV.int .i32 c] = aA (CSt.out ⟨st.P, some c, st.M⟩) := by
         simp [CSt.out, hs, aA]
        obtain ⟨q1, q2⟩ := next _ he
        exact ⟨q1, e2.trans q2⟩
      | none =>
        have he : cA rows st L[i.toNat] = cO (aD rows 1) st L[i.toNat] := by
         unfold cA; rw [hs]; simp only; rw [if_pos hfr, hpc]
        exact ⟨_, rfl, rfl, _, rfl, _, rfl, _, rfl, _, rfl, bD (by simp) ⟨g1, L[i.toNat], by rw [g2]; rfl, hsz, rfl, app he, by dsimp only; omega⟩⟩
     ·have hfr := fun h => hfr (hfree.2 h)
      have he : cA rows st L[i.toNat] = cO (aD rows 1) st L[i.toNat] := by
       unfold cA; rw [hs]; simp only; rw [if_neg hfr]
      exact ⟨g1, L[i.toNat], by rw [g2]; rfl, hsz, rfl, app he, by dsimp only; omega⟩
  ·simp only [aB, ge_iff_le] at hf
   have hs : st.s = none := by
    cases hs : st.s with
    | none => rfl
    | some a => exact absurd (by simp [c6, hs]) hf
   have he : cA rows st L[i.toNat] = cO (aD rows 1) st L[i.toNat] := by
    unfold cA; rw [hs]
   exact ⟨g1, L[i.toNat], by rw [g2]; rfl, hsz, rfl, app he, by dsimp only; omega⟩
 ·simp only [aB, bH] at hc;rw [qh (by omega)];exact ⟨_, _, rfl⟩
theorem zm9 (hp : cU rows) (h1 : dB rows) (hk : dX rows) (hs0 : ∀ (d : List Int) a, (bG rows d).s = some a -> aD rows 1 a = 0) (n f n2 f2 : Bool) (hl : rows.length < 1000000) (L : List Int) (hr : R32 L) (hL : L.length < 1000000) :
 PCall qa 64 [.sl n f (bB rows), .sl n2 f2 (aA L)] fun x => ∃ n f, x = .sl n f (aA (cC rows L)) := by
 refine zyp _ _ _ _ _ _ ?_; unfold zm8;refine (zkz hp hk n f n2 f2 hl L hr hL).mono ?_;rintro _ ⟨n1, f1, rfl⟩;refine ⟨_, _, _, rfl, ?_⟩;refine (zyx hp h1 hs0 n f n1 f1 hl _ (vU hk hp hr) (zk0 hk hL)).mono ?_;rintro _ ⟨n3, f3, rfl⟩;exact ⟨_, _, _, rfl, _, _, rfl⟩
end
end Go.Eng
namespace Go.Eng.Rows
open Go Go.Eng Go.Eng.Trie Go.Eng.Srt
def zyy (rows : List Row) (a b : Int) : Bool := rows.all fun x => !decide (x.kind = 1) || (decide (x.to < a) || decide (b < x.fr))
theorem zyz {rows : List Row} {a b r : Int} (h : zyy rows a b = true) (h1 : a <= r) (h2 : r <= b) : aD rows 1 r = 0 := by
 unfold aD;cases hf : bO rows 1 r with
 | none => rfl
 | some p =>
   obtain ⟨x, hx, hk, _, _, f1, f2, _⟩ := jZ hf;have := List.all_eq_true.1 h x hx;simp only [hk, decide_true, qbs, qbg, qm, aB] at this;omega
end Go.Eng.Rows
namespace Go.Eng
open Go Go.Proofs Go.Eng.Rows Go.Eng.Trie
theorem zy0 : ∀ r, bM r = true -> aD tab 1 r = 0 := fun r hs => by
 simp only [bM, qc, aB] at hs;exact zyz (a := 44032) (b := 55203) (by kernel_rfl) hs.1 hs.2
theorem sT : ∀ (d : List Int) a, (bG tab d).s = some a -> aD tab 1 a = 0 := zyg mM zy0
end Go.Eng
namespace Go.Eng
open Go Go.Proofs Go.Eng.Rows Go.Eng.Trie Go.Eng.Srt
end Go.Eng
namespace Go.Eng
open Go Go.Proofs Go.Eng.Rows Go.Eng.Trie Go.Eng.Srt
abbrev TxG := List (Bool × Bool × List Int)
def jP (k : Bool × Bool × List Int) : PtF := (0, k.1, k.2.1, k.2.2)
theorem lQ (q : PtF) : aQ [pT q] 2 := lC (enc := pT) zdn [q]
theorem lR (Q : List PtF) (q : PtF) : Q.map pT ++ [pT q] = (Q ++ [q]).map pT := by rw [qj]; rfl
theorem gK {i : Nat} (h : i < 1000000000000) : i64.wrap ((i : Int) + 1) = ((i + 1 : Nat) : Int) := by rw [aF (by omega) (by omega)]; omega
theorem nY {K : TxG} {i : Nat} (h : i < K.length) : aI (K.map clT) (i : Int) 1 /\ (K.map clT).getD i [] = clT K[i] := ⟨bQ sL (by omega) (by omega), cN h⟩
theorem nZ {Q : List PtF} {i : Nat} (h : i < Q.length) : aI (Q.map pT) (i : Int) 2 /\ (Q.map pT).getD i [] = pT Q[i] := ⟨bQ zdn (by omega) (by omega), cN h⟩
theorem zy1 (rows : List Row) {K : TxG} {pl : List Int} (h : K.map (fun q => q.2.2) = cJ rows (cC rows pl) 0) (Q : List PtF) : (Q ++ K.map jP).map pE = Q.map pE ++ fK rows pl := by
 rw [qj, List.map_map];congr 1;unfold fK;rw [<- h, List.map_map];rfl
section
variable {rows : List Row} {v : PV}
def wH (rows : List Row) (Q : List PtF) (pl : List Int) (Q' : List PtF) : Prop := Q'.map pE = Q.map pE ++ fK rows pl /\ (∀ q ∈ Q', q ∈ Q ∨ q.2.2.2.length <= 768 * pl.length) /\ Q'.length <= Q.length + 768 * pl.length
theorem zna (hk : dX rows) {K : TxG} {pl : List Int} (h : K.map (fun q => q.2.2) = cJ rows (cC rows pl) 0) (Q : List PtF) : wH rows Q pl (Q ++ K.map jP) := by
 have hl := congrArg qq h;rw [qb] at hl;have h1 := sJ rows (cC rows pl);have h2 := sG hk pl;refine ⟨zy1 rows h Q, fun q hq => ?_, by rw [qd, qb]; omega⟩;rcases List.mem_append.1 hq with hq | hq
 ·exact .inl hq
 ·obtain ⟨k, hk, rfl⟩ := List.mem_map.1 hq;right;have : k.2.2 ∈ cJ rows (cC rows pl) 0 := by rw [<- h]; exact List.mem_map.2 ⟨k, hk, rfl⟩
  have := zl9 this;show k.2.2.length <= _;omega
theorem zy2 (hts : eC rows) (hp : cU rows) (h1 : dB rows) (hk : dX rows) (hv : dV rows v) (n2 n1 : Bool) (Q : List PtF) (pl : List Int) (hr : R32 pl) (hl : pl.length < 10000) (hQ : Q.length < 100000000) :
 ACall qa 58 [.box 0 0, .box 1 0, .box 2 0] [.box [.pv v], .box [.own 3], .box [.own 4], .sl (21, 1) false n2 (aA pl), .sl (44, 2) false n1 (Q.map pT)] fun r h' =>
  ∃ n' Q', r = .tup [] /\ h' = [.box [.pv v], .box [.pv (.sl true true [])], .box [.own 4], .dead, .sl (44, 2) true n' (Q'.map pT)] /\ wH rows Q pl Q' := by
 have c1 := fun f => zk9 hp h1 hk hv n2 f pl hr (by omega);have hnl := sG hk pl;have c2 := fun n f => zmd hts hv n f (cC rows pl) (vY hp h1 hk hr) (by omega);have hcc := sJ rows (cC rows pl);obtain ⟨tc, tg, tj, tf, tp, made, sec, rfl, ht', hm⟩ := hv
 refine zx2 _ _ _ _ _ _ _ n2 false n1 false false _ _
  (fun _ _ s9 x10 x11 _ s4 => ∃ (i : Nat) (K : TxG), x11 = i /\ x10 = K.length /\ i <= K.length /\ s9 = K.map clT /\ K.map (fun q => q.2.2) = cJ rows (cC rows pl) 0 /\ s4 = (Q ++ (K.take i).map jP).map pT) (fun _ _ _ x10 x11 _ _ => (x10 - x11).toNat) ?_
 unfold zmq;refine (c1 false).mono ?_;rintro _ ⟨n3, f3, rfl⟩;refine ⟨_, _, _, rfl, (c2 n3 f3).mono ?_⟩;rintro _ ⟨n4, K, rfl, hK⟩;refine ⟨_, _, _, rfl, ⟨rfl, 0, K, rfl, by rw [qb], by omega, rfl, hK, by rw [qau, List.map_nil, qad]⟩, ?_⟩;clear hK K;rintro n9 f9 _ _ _ n5 _ ⟨i, K, rfl, rfl, i1, rfl, hK, rfl⟩;have hKl := congrArg qq hK;rw [qb] at hKl;rw [qf, gK (by omega)];refine aC (fun hc => ?_) (fun hc => ?_)
 ·simp only [aB] at hc;have hi : i < K.length := by omega
  obtain ⟨g1, g2⟩ := nY hi;refine ⟨g1, K[i].1, K[i].2.1, aA K[i].2.2, by rw [g2]; rfl, ⟨lQ (jP K[i]), by rw [qb, qd, qb, qn]; omega⟩, rfl, ⟨i + 1, K, rfl, rfl, by omega, rfl, hK, ?_⟩, by dsimp only; omega⟩;have e : (K.take (i + 1)).map jP = (K.take i).map jP ++ [jP K[i]] := by rw [c5 hi, qj]; rfl
  rw [e, <- qu];exact lR _ (jP K[i])
 ·simp only [aB] at hc;rw [qh (by omega)];exact ⟨n5, _, rfl, rfl, zna hk hK Q⟩
theorem wI {L : List Int} {i : Nat} (h : i < L.length) : L.drop i = L.getD i 0 :: L.drop (i + 1) := by rw [qy h, wD 0 h]
def PtOK (m : Nat) (Q : List PtF) : Prop := ∀ q ∈ Q, q.2.2.2.length <= m
theorem PtOK.app {m : Nat} {Q Q' : List PtF} {pl : List Int} (h : PtOK m Q) (ha : wH rows Q pl Q') (hm : 768 * pl.length <= m) : PtOK m Q' := fun q hq => by
 rcases ha.2.1 q hq with h1 | h1
 ·exact h q h1
 ·omega
theorem PtOK.snoc {m : Nat} {Q : List PtF} (h : PtOK m Q) {q : PtF} (hq : q.2.2.2.length <= m) : PtOK m (Q ++ [q]) := fun x hx => by
 rcases List.mem_append.1 hx with hx | hx
 ·exact h x hx
 ·rw [List.mem_singleton.1 hx]; exact hq
def kF : PtF := (1, true, true, [])
def eD : PtF := (2, true, true, [])
theorem znb {Q : List PtF} (h : Q = [] ∨ ∃ q, Q.getLast? = some q /\ q.1 ≠ 2) : kE (Q.map pE) = (Q ++ [eD]).map pE := by
 unfold kE;rw [qbn];rcases h with rfl | ⟨q, h, hq⟩
 ·rfl
 ·rw [h];show (if (pE q).1 = 2 then _ else _) = _;rw [if_neg (show ¬(pE q).1 = 2 from hq), qj]; rfl
theorem znc {Q : List PtF} {q : PtF} (h : Q.getLast? = some q) (hq : q.1 = 2) : kE (Q.map pE) = Q.map pE := by
 unfold kE;rw [qbn, h];show (if (pE q).1 = 2 then _ else _) = _;rw [if_pos (show (pE q).1 = 2 from hq)]
theorem znd {α : Type} {Q : List α} (h : 0 < Q.length) : Q.getLast? = some (Q[Q.length - 1]) := by
 rw [qba, qz (by omega)]
def e9 (rows : List Row) (L : List Int) (ok : List PtF -> PV -> Prop) (e4 e7 : PV) (x : PV) : Prop := match prs rows [] [] L with
 | some P => if 1000 < P.length then x = e7 else ∃ Q, ok Q x /\ Q.map pE = P /\ PtOK (768 * L.length) Q
 | none => x = e4
theorem zy3 (hts : eC rows) (hp : cU rows) (h1 : dB rows) (hk : dX rows) (hv : dV rows v) (n f : Bool) (L : List Int) (hr : R32 L) (hL : L.length < 10000) :
 PCall qa 15 [v, .sl n f (aA L)] (e9 rows L (fun Q x => ∃ n, x = .tup [.agg [.sl n false (Q.map pT)], .int .i64 0]) (.tup [.agg [.sl true true []], .int .i64 4]) (.tup [.agg [.sl true true []], .int .i64 7])) := by
 have fl := fun n2 n1 Q pl hr hl hQ => zy2 hts hp h1 hk hv n2 n1 Q pl hr hl hQ;obtain ⟨tc, tg, tj, tf, tp, made, sec, rfl, ht', hm⟩ := hv
 refine zx3 _ _ _ _ _ _ _ _ _ _
  (fun x _ s4 _ s5 => ∃ (i : Nat) (Q : List PtF) (pl : List Int), x = i /\ i <= L.length /\ s4 = Q.map pT /\ s5 = aA pl /\ prs rows [] [] L = prs rows (Q.map pE) pl (L.drop i) /\ Q.length + 768 * pl.length <= 769 * i /\ R32 pl /\ pl.length <= i /\ PtOK (768 * L.length) Q)
  (fun x _ _ _ _ => L.length - x.toNat) ?_
 unfold zmr;rw [show ((aA L).length : Int) = L.length by rw [bH]];refine ⟨⟨rfl, 0, [], [], rfl, by omega, rfl, rfl, rfl, by simp, fun x hx => by simp at hx, by simp, fun q hq => by simp at hq⟩, ?_⟩;rintro _ n4 _ n5 _ ⟨i, Q, pl, rfl, i1, rfl, rfl, hP, hB, hpl, hpi, hQ⟩;have hQl : Q.length <= 769 * i := by omega
 refine aC (fun hc => ?_) (fun hc => ?_)
 ·simp only [aB] at hc;have hi : i < L.length := by omega
  have e1 := gK (i := i) (by omega);have e2 := gK (i := i + 1) (by omega);have g := fX (l := L) (i := (i : Int)) (by omega) (by omega);rw [qf] at g;obtain ⟨g1, g2⟩ := g;have hd := wI hi;rw [hd] at hP;rw [e1, e2, qf];have hwr := fJ hr i
  have plain1 : R32 (pl ++ [L.getD i 0]) := fun x hx => by
   rcases List.mem_append.1 hx with hx | hx
   ·exact hpl x hx
   ·rw [List.mem_singleton.1 hx]; exact hwr
  generalize hcc : L.getD i 0 = c at *;refine ⟨g1, c, by rw [g2]; rfl, ?_⟩;by_cases h42 : c = 42
  ·subst h42;refine bA rfl (bA rfl ?_);refine (fl n5 n4 Q pl hpl (by omega) (by omega)).mono ?_;rintro r h' ⟨n', Q', rfl, rfl, hA⟩;obtain ⟨hA1, hA2, hA3⟩ := id hA;refine ⟨(n', Q'.map pT), ⟨rfl, rfl⟩, ⟨trivial, trivial, trivial, trivial, trivial, trivial⟩, g1, 42, by rw [g2]; rfl, bD (by decide) ?_⟩;rw [sN, <- hA1] at hP;have hlq : ((Q'.map pT).length : Int) = Q'.length := by rw [qb]
   have V2 : (Q' = [] ∨ ∃ q, Q'.getLast? = some q /\ q.1 ≠ 2) -> prs rows [] [] L = prs rows ((Q' ++ [eD]).map pE) [] (L.drop (i + 1)) := fun hx => by rw [<- znb hx]; exact hP
   have room : ((Q'.map pT).length + 1) * 32 <= 140737488355328 := by rw [qb]; omega
   have okS := (hQ.app hA (by omega)).snoc (q := eD) (by simp [eD]);dsimp only;rw [hlq];refine aC (fun h0 => ?_) (fun h0 => ?_)
   ·simp only [beq_iff_eq] at h0;have : Q' = [] := qt (by omega);exact ⟨⟨lQ eD, room⟩, rfl, ⟨i + 1, Q' ++ [eD], [], rfl, by omega, lR Q' eD, rfl, V2 (.inl this), by rw [qd, qe, qv]; omega, fun x hx => by simp at hx, by simp, okS⟩, by first | omega | (dsimp only; omega)⟩
   ·simp only [beq_iff_eq] at h0;have hpos : 0 < Q'.length := by omega
    have hlast := znd hpos;have hw : i64.wrap ((Q'.length : Int) - 1) = ((Q'.length - 1 : Nat) : Int) := by rw [aF (by omega) (by omega)]; omega
    rw [hw, qf];obtain ⟨k1, k2⟩ := nZ (Q := Q') (i := Q'.length - 1) (by omega);refine ⟨k1, Q'[Q'.length - 1].1, by rw [k2]; rfl, aC (fun h2 => ?_) (fun h2 => ?_)⟩
    ·simp only [bne_iff_ne, ne_eq] at h2;exact ⟨⟨lQ eD, room⟩, rfl, ⟨i + 1, Q' ++ [eD], [], rfl, by omega, lR Q' eD, rfl, V2 (.inr ⟨_, hlast, h2⟩), by rw [qd, qe, qv]; omega, fun x hx => by simp at hx, by simp, okS⟩, by first | omega | (dsimp only; omega)⟩
    ·simp only [bne_iff_ne, ne_eq, qi] at h2;rw [znc hlast h2] at hP;exact ⟨rfl, ⟨i + 1, Q', [], rfl, by omega, rfl, rfl, hP, by simp only [qv]; omega, fun x hx => by simp at hx, by simp, hQ.app hA (by omega)⟩, by first | omega | (dsimp only; omega)⟩
  ·refine bD (by simpa using h42) ?_
   by_cases h63 : c = 63
   ·subst h63;refine bA rfl ?_;refine (fl n5 n4 Q pl hpl (by omega) (by omega)).mono ?_;rintro r h' ⟨n', Q', rfl, rfl, hA⟩;obtain ⟨hA1, hA2, hA3⟩ := id hA;refine ⟨(n', Q'.map pT), ⟨rfl, rfl⟩, ⟨trivial, trivial, trivial, trivial, trivial, trivial⟩, g1, 63, by rw [g2]; rfl, bA (by decide) ?_⟩;rw [sO, <- hA1] at hP;exact ⟨⟨lQ kF, by dsimp only; rw [qb]; omega⟩, rfl, ⟨i + 1, Q' ++ [kF], [], rfl, by omega, lR Q' kF, rfl, by rw [hP, qj]; rfl, by rw [qd, qe, qv]; omega, fun x hx => by simp at hx, by simp, (hQ.app hA (by omega)).snoc (q := kF) (by simp [kF])⟩, by first | omega | (dsimp only; omega)⟩
   ·refine bD (by simpa using h63) ?_
    by_cases h92 : c = 92
    ·subst h92;refine bA rfl (aC (fun h => ?_) (fun h => ?_))
     ·simp only [beq_iff_eq] at h;rw [qag (by omega), wE] at hP;unfold e9;rw [hP]
     ·simp only [beq_iff_eq] at h;have hi2 : i + 1 < L.length := by omega
      have k := fX (l := L) (i := ((i + 1 : Nat) : Int)) (by omega) (by omega);rw [qf] at k;obtain ⟨k1, k2⟩ := k;rw [wI hi2, wF] at hP;have hw2 := fJ hr (i + 1);rw [qf];refine ⟨k1, _, by rw [k2]; rfl, ⟨dO [L.getD (i + 1) 0], by rw [bH]; omega⟩, rfl, ⟨i + 1 + 1, Q, pl ++ [L.getD (i + 1) 0], rfl, by omega, rfl, (fV pl [L.getD (i + 1) 0]).symm, hP, by rw [qd, qe]; omega, fun x hx => ?_, by rw [qd, qe]; omega, hQ⟩, by first | omega | (dsimp only; omega)⟩
      rcases List.mem_append.1 hx with hx | hx
      ·exact hpl x hx
      ·rw [List.mem_singleton.1 hx]; exact hw2
    ·refine bD (by simpa using h92) ?_
     rw [pV h92 h42 h63] at hP;exact ⟨g1, c, by rw [g2]; rfl, ⟨dO [c], by rw [bH]; omega⟩, rfl, ⟨i + 1, Q, pl ++ [c], rfl, by omega, rfl, (fV pl [c]).symm, hP, by rw [qd, qe]; omega, plain1, by rw [qd, qe]; omega, hQ⟩, by first | omega | (dsimp only; omega)⟩
 ·simp only [aB] at hc;have hil : i = L.length := by omega
  refine (fl n5 n4 Q pl hpl (by omega) (by omega)).mono ?_;rintro r h' ⟨n', Q', rfl, rfl, hA⟩;refine ⟨(n', Q'.map pT), ⟨rfl, rfl⟩, ⟨trivial, trivial, trivial, trivial, trivial, trivial⟩, ?_⟩;rw [hil, qag (qo _), pU, <- hA.1] at hP;have hPl : (Q'.map pE).length = Q'.length := qb _;dsimp only;rw [show ((Q'.map pT).length : Int) = Q'.length by rw [qb]];refine aC (fun h => ?_) (fun h => ?_)
  ·simp only [aB, gt_iff_lt] at h;unfold e9;rw [hP];show ite _ _ _;rw [if_pos (by omega)]
  ·simp only [aB, gt_iff_lt] at h;unfold e9;rw [hP];show ite _ _ _;rw [if_neg (by omega)];exact ⟨Q', ⟨_, rfl⟩, rfl, hQ.app hA (by omega)⟩
end
section
variable {rows : List Row}
theorem wJ (r : Int) : (aD rows 5 r = 1) ↔ bR rows 5 r = true := by
 unfold aD bR;cases bO rows 5 r with
 | none => simp
 | some p => simp
theorem zne (a : Int) : PCall qa 153 [.int .i64 a] fun x => x = .bool (cV a) := by
 refine zw5 _ ?_; unfold zlx cV;have hd : ∀ x y : Int, (x == y) = decide (x = y) := fun x y => by by_cases h : x = y <;> simp [h]
 simp only [hd, qbf]
theorem zy4 (a b : Int) : PCall qa 154 [.int .i64 a, .int .i64 b] fun x => x = .bool (nU a b) := by
 refine zw6 _ _ ?_; unfold zly nU;have hd : ∀ x y : Int, (x == y) = decide (x = y) := fun x y => by by_cases h : x = y <;> simp [h]
 simp only [hd];by_cases h9 : a = 9
 ·rw [if_pos (by simp [h9]), if_pos h9]; simp only [qbf]
 ·rw [if_neg (by simp [h9]), if_neg h9];by_cases h12 : a = 12 ∨ a = 10
  ·rw [if_pos (by simpa using h12), if_pos h12]
  ·rw [if_neg (by simpa using h12), if_neg h12]
   by_cases h13 : a = 13 ∨ a = 11
   ·rw [if_pos (by simpa using h13), if_pos h13]
   ·rw [if_neg (by simpa using h13), if_neg h13]
def pY (rows : List Row) (L : List Int) (x : Bool) (j : Nat) : Bool := if x = true then decide ((aY rows L 0 j).conj ≠ 0) else decide ((aY rows L 0 j).conj = 2)
theorem zy5 (ht : eC rows) (L : List Int) (x : Bool) (j : Nat) : pY rows L x (j + 1) =
 if bS rows (L.getD j 0) = 2 then x else if bS rows (L.getD j 0) = 0 then false else if bS rows (L.getD j 0) = 1 then pY rows L true j else pY rows L x j := by
 unfold pY;rw [zwr];rcases ht.conj (L.getD j 0) with h | h | h | h <;> rw [h]
 ·cases x <;> simp
 ·by_cases h0 : (aY rows L 0 j).conj = 0
  ·cases x <;> simp [h0]
  ·cases x <;> simp [h0]
 ·cases x <;> simp
 ·by_cases h0 : (aY rows L 0 j).conj = 0
  ·cases x <;> simp [h0]
  ·cases x <;> simp [h0]
def oB (rows : List Row) (L : List Int) (j : Nat) : Bool := decide ((aY rows L 0 j).pict = 1)
theorem zy6 (L : List Int) (j : Nat) : oB rows L (j + 1) = if bR rows 5 (L.getD j 0) = true then true else if aL rows (L.getD j 0) ≠ 4 then false else oB rows L j := by
 unfold oB;rw [zlj];generalize L.getD j 0 = r;generalize (aY rows L 0 j).pict = p;by_cases h1 : bR rows 5 r = true
 ·rw [if_pos h1, if_pos h1]; rfl
 ·rw [if_neg h1, if_neg h1];by_cases h2 : aL rows r = 4
  ·by_cases h3 : p = 1
   ·simp [h2, h3]
   ·simp [h2, h3]
  ·by_cases h3 : aL rows r = 5
   ·by_cases h4 : p = 1 <;> simp [h3, h4]
   ·simp [h2, h3]
theorem zy7 (ht : eC rows) (L : List Int) (k : Nat) : decide ((aY rows L 0 (k + 1)).pict = 2) = (decide (aL rows (L.getD k 0) = 5) && oB rows L k) := by
 unfold oB;rw [zlj];generalize L.getD k 0 = r;generalize (aY rows L 0 k).pict = p;by_cases h1 : bR rows 5 r = true
 ·have := (ht.pict _ h1).2;rw [if_pos h1]; simp [this]
 ·rw [if_neg h1];by_cases h3 : p = 1
  ·by_cases h5 : aL rows r = 5
   ·simp [h3, h5]
   ·by_cases h4 : aL rows r = 4 <;> simp [h3, h5, h4]
  ·simp [h3]
def sU (rows : List Row) (L : List Int) (x : Int) (j : Nat) : Bool := if x.tmod 2 = 1 then !(aY rows L 0 j).odd else (aY rows L 0 j).odd
theorem zy8 (L : List Int) {x : Int} (h0 : 0 <= x) (j : Nat) : sU rows L x (j + 1) = if aL rows (L.getD j 0) = 6 then sU rows L (x + 1) j else decide (x.tmod 2 = 1) := by
 unfold sU;rw [zws];rw [qak h0, qak (by omega : 0 <= x + 1)];generalize aL rows (L.getD j 0) = b;generalize (aY rows L 0 j).odd = o;by_cases h6 : b = 6
 ·rw [if_pos h6, h6];by_cases hx : x % 2 = 1
  ·rw [if_pos hx, if_neg (by omega)]; simp
  ·rw [if_neg hx, if_pos (by omega)]; simp
 ·rw [if_neg h6];by_cases hx : x % 2 = 1
  ·rw [if_pos hx]; simp [h6, hx]
  ·rw [if_neg hx]; simp [h6, hx]
variable (ht : eC rows) (n f n2 f2 : Bool) (hl : rows.length < 1000000) (L : List Int) (hr : R32 L) (hL : L.length < 1000000000000)
include ht hl hr hL
theorem zy9 (k : Nat) (hk : k + 1 < L.length) : PCall qa 155 [.sl n f (bB rows), .sl n2 f2 (aA L), .int .i64 ((k + 1 : Nat) : Int)] fun x => x = .bool (decide (bS rows (L.getD (k + 1) 0) = 2) && decide ((aY rows L 0 (k + 1)).conj = 2)) := by
 refine zw7 _ _ _ _ _ _ _ (fun x j => (-1 <= j /\ j < L.length) /\ decide ((aY rows L 0 (k + 1)).conj = 2) = pY rows L x (j + 1).toNat) (fun _ j => (j + 1).toNat) ?_;unfold zlz;obtain ⟨g1, g2⟩ := fX (l := L) (i := ((k + 1 : Nat) : Int)) (by omega) (by omega);rw [show (((k + 1 : Nat) : Int)).toNat = k + 1 by omega] at g2 ⊢;refine ⟨g1, _, by rw [g2]; rfl, ?_⟩;refine (zl7 n f hl (fJ hr _)).mono ?_;rintro _ rfl;refine ⟨_, rfl, aC (fun hc => ?_) (fun hc => ?_)⟩
 ·simp only [bne_iff_ne, ne_eq] at hc;rw [decide_eq_false hc, qah]
 ·simp only [bne_iff_ne, ne_eq, qi] at hc;rw [hc];have hw : i64.wrap (((k + 1 : Nat) : Int) - 1) = (k : Int) := by rw [aF (by omega) (by omega)]; omega
  rw [hw];refine ⟨⟨rfl, ⟨by omega, by omega⟩, by rw [show ((k : Int) + 1).toNat = k + 1 by omega]; rfl⟩, ?_⟩;rintro x j ⟨⟨j0, j1⟩, he⟩;simp only [decide_true, qae];rw [he];refine aC (fun h => ?_) (fun h => ?_)
  ·simp only [aB, ge_iff_le] at h;obtain ⟨g1, g2⟩ := fX (l := L) (i := j) h (by omega);refine ⟨g1, _, by rw [g2]; rfl, ?_⟩;have hs := zy5 ht L x j.toNat;rw [show j.toNat + 1 = (j + 1).toNat by omega] at hs;have hwj : i64.wrap (j - 1) = j - 1 := aF (by omega) (by omega);rw [hwj];refine (zl7 n f hl (fJ hr _)).mono ?_;rintro _ rfl;refine ⟨_, rfl, aC (fun h2 => ?_) (fun h2 => aC (fun h0 => ?_) (fun h0 => aC (fun h1 => ?_) (fun h1 => ?_)))⟩
   ·simp only [beq_iff_eq] at h2;rw [hs, if_pos h2]
   ·simp only [beq_iff_eq] at h2 h0;rw [hs, if_neg h2, if_pos h0]
   ·simp only [beq_iff_eq] at h2 h0 h1;rw [if_neg h2, if_neg h0, if_pos h1] at hs;exact ⟨rfl, ⟨⟨by omega, by omega⟩, by rw [hs, show (j - 1 + 1).toNat = j.toNat by omega]⟩, by first | omega | (dsimp only; omega)⟩
   ·simp only [beq_iff_eq] at h2 h0 h1;rw [if_neg h2, if_neg h0, if_neg h1] at hs;exact ⟨rfl, ⟨⟨by omega, by omega⟩, by rw [hs, show (j - 1 + 1).toNat = j.toNat by omega]⟩, by first | omega | (dsimp only; omega)⟩
  ·simp only [aB, ge_iff_le] at h;rw [show (j + 1).toNat = 0 by omega];unfold pY;cases x <;> rfl
theorem zza (k : Nat) (hk : k + 1 < L.length) : PCall qa 156 [.sl n f (bB rows), .sl n2 f2 (aA L), .int .i64 ((k + 1 : Nat) : Int)] fun x => x = .bool (bR rows 5 (L.getD (k + 1) 0) && decide ((aY rows L 0 (k + 1)).pict = 2)) := by
 refine zw8 _ _ _ _ _ _ _ (fun j => (-1 <= j /\ j < L.length) /\ oB rows L k = oB rows L (j + 1).toNat) (fun j => (j + 1).toNat) ?_;unfold zl0;rw [zy7 ht];obtain ⟨g1, g2⟩ := fX (l := L) (i := ((k + 1 : Nat) : Int)) (by omega) (by omega);rw [show (((k + 1 : Nat) : Int)).toNat = k + 1 by omega] at g2 ⊢;refine ⟨g1, _, by rw [g2]; rfl, ?_⟩;refine (mJ n f 5 _ hl (fJ hr _)).mono ?_;rintro _ rfl;refine ⟨_, rfl, aC (fun hc => ?_) (fun hc => ?_)⟩
 ·simp only [bne_iff_ne, ne_eq, wJ] at hc;rw [Bool.eq_false_iff.2 hc, qah]
 simp only [bne_iff_ne, ne_eq, qi, wJ] at hc;rw [hc];have hw : i64.wrap (((k + 1 : Nat) : Int) - 1) = (k : Int) := by rw [aF (by omega) (by omega)]; omega
 have hw2 : i64.wrap (((k + 1 : Nat) : Int) - 2) = (k : Int) - 1 := by rw [aF (by omega) (by omega)]; omega
 rw [hw, hw2];obtain ⟨k1, k2⟩ := fX (l := L) (i := (k : Int)) (by omega) (by omega);refine ⟨k1, _, by rw [k2]; rfl, ?_⟩;rw [show ((k : Int)).toNat = k by omega];refine (nW n f hl (fJ hr _)).mono ?_;rintro _ rfl;refine ⟨_, rfl, aC (fun h5 => ?_) (fun h5 => ?_)⟩
 ·simp only [bne_iff_ne, ne_eq] at h5;rw [decide_eq_false h5, qah, qbc]
 simp only [bne_iff_ne, ne_eq, qi] at h5;rw [h5];simp only [decide_true, qae];refine ⟨⟨rfl, ⟨by omega, by omega⟩, by rw [show ((k : Int) - 1 + 1).toNat = k by omega]⟩, ?_⟩;rintro j ⟨⟨j0, j1⟩, he⟩;rw [he];refine aC (fun h => ?_) (fun h => ?_)
 ·simp only [aB, ge_iff_le] at h;obtain ⟨g1, g2⟩ := fX (l := L) (i := j) h (by omega);refine ⟨g1, _, by rw [g2]; rfl, ?_⟩;have hs := zy6 (rows := rows) L j.toNat;rw [show j.toNat + 1 = (j + 1).toNat by omega] at hs;have hwj : i64.wrap (j - 1) = j - 1 := aF (by omega) (by omega);rw [hwj];refine (mJ n f 5 _ hl (fJ hr _)).mono ?_;rintro _ rfl;refine ⟨_, rfl, aC (fun h2 => ?_) (fun h2 => ?_)⟩
  ·simp only [beq_iff_eq, wJ] at h2;rw [hs, if_pos h2]
  ·simp only [beq_iff_eq, wJ] at h2;refine ⟨g1, _, by rw [g2]; rfl, ?_⟩;refine (nW n f hl (fJ hr _)).mono ?_;rintro _ rfl;refine ⟨_, rfl, aC (fun h4 => ?_) (fun h4 => ?_)⟩
   ·simp only [bne_iff_ne, ne_eq] at h4;rw [hs, if_neg h2, if_pos h4]
   ·simp only [bne_iff_ne, ne_eq, qi] at h4;rw [if_neg h2, if_neg (fun h => h h4)] at hs;exact ⟨rfl, ⟨⟨by omega, by omega⟩, by rw [hs, show (j - 1 + 1).toNat = j.toNat by omega]⟩, by first | omega | (dsimp only; omega)⟩
 ·simp only [aB, ge_iff_le] at h;rw [show (j + 1).toNat = 0 by omega]; rfl
theorem zzb (k : Nat) (hk : k + 1 < L.length) : PCall qa 157 [.sl n f (bB rows), .sl n2 f2 (aA L), .int .i64 ((k + 1 : Nat) : Int)] fun x => x = .bool (decide (aL rows (L.getD (k + 1) 0) = 6) && (aY rows L 0 (k + 1)).odd) := by
 have _ht := ht;refine zw9 _ _ _ _ _ _ _ (fun x j => (-1 <= j /\ j < L.length) /\ (0 <= x /\ x + j <= k) /\ (aY rows L 0 (k + 1)).odd = sU rows L x (j + 1).toNat) (fun _ j => (j + 1).toNat) ?_;unfold zl1;obtain ⟨g1, g2⟩ := fX (l := L) (i := ((k + 1 : Nat) : Int)) (by omega) (by omega);rw [show (((k + 1 : Nat) : Int)).toNat = k + 1 by omega] at g2 ⊢;refine ⟨g1, _, by rw [g2]; rfl, ?_⟩;refine (nW n f hl (fJ hr _)).mono ?_;rintro _ rfl;refine ⟨_, rfl, aC (fun hc => ?_) (fun hc => ?_)⟩
 ·simp only [bne_iff_ne, ne_eq] at hc;rw [decide_eq_false hc, qah]
 simp only [bne_iff_ne, ne_eq, qi] at hc;rw [hc];have hw : i64.wrap (((k + 1 : Nat) : Int) - 1) = (k : Int) := by rw [aF (by omega) (by omega)]; omega
 rw [hw];refine ⟨⟨rfl, ⟨by omega, by omega⟩, ⟨qp _, by omega⟩, by rw [show ((k : Int) + 1).toNat = k + 1 by omega]; rfl⟩, ?_⟩;rintro x j ⟨⟨j0, j1⟩, ⟨x0, x1⟩, he⟩;simp only [decide_true, qae];rw [he];have hx : ∀ y : Int, (y.tmod 2 == 1) = decide (y.tmod 2 = 1) := fun y => by by_cases h : y.tmod 2 = 1 <;> simp [h]
 refine aC (fun h => ?_) (fun h => ?_)
 ·simp only [aB, ge_iff_le] at h;obtain ⟨g1, g2⟩ := fX (l := L) (i := j) h (by omega);refine ⟨g1, _, by rw [g2]; rfl, ?_⟩;have hs := zy8 (rows := rows) L x0 j.toNat;rw [show j.toNat + 1 = (j + 1).toNat by omega] at hs;have hwj : i64.wrap (j - 1) = j - 1 := aF (by omega) (by omega);have hwx : i64.wrap (x + 1) = x + 1 := aF (by omega) (by omega);rw [hwj, hwx];refine (nW n f hl (fJ hr _)).mono ?_;rintro _ rfl;refine ⟨_, rfl, aC (fun h6 => ?_) (fun h6 => ?_)⟩
  ·simp only [beq_iff_eq] at h6;rw [if_pos h6] at hs;exact ⟨rfl, ⟨⟨by omega, by omega⟩, ⟨by omega, by omega⟩, by rw [hs, show (j - 1 + 1).toNat = j.toNat by omega]⟩, by first | omega | (dsimp only; omega)⟩
  ·simp only [beq_iff_eq] at h6;rw [hs, if_neg h6, hx]
 ·simp only [aB, ge_iff_le] at h;rw [show (j + 1).toNat = 0 by omega, hx];unfold sU;show _ = PV.bool (if x.tmod 2 = 1 then !false else false);by_cases h1 : x.tmod 2 = 1 <;> simp [h1]
theorem zzc (k : Int) (k0 : 0 <= k) (k1 : k < L.length) : PCall qa 124 [.sl n f (bB rows), .sl n2 f2 (aA L), .int .i64 k] fun x => x = .bool (fI rows L k.toNat) := by
 refine zxa _ _ _ _ _ _ _ ?_; unfold zl2;refine aC (fun h0 => ?_) (fun h0 => ?_)
 ·simp only [beq_iff_eq] at h0;rw [h0]; rfl
 simp only [beq_iff_eq] at h0;obtain ⟨j, rfl⟩ : ∃ j : Nat, k = ((j + 1 : Nat) : Int) := ⟨k.toNat - 1, by omega⟩;have hw : i64.wrap (((j + 1 : Nat) : Int) - 1) = (j : Int) := by rw [aF (by omega) (by omega)]; omega
 rw [hw, show (((j + 1 : Nat) : Int)).toNat = j + 1 by omega, zwq ht];obtain ⟨g1, g2⟩ := fX (l := L) (i := (j : Int)) (by omega) (by omega);obtain ⟨k1, k2⟩ := fX (l := L) (i := ((j + 1 : Nat) : Int)) (by omega) (by omega);rw [show (((j + 1 : Nat) : Int)).toNat = j + 1 by omega] at k2;rw [show ((j : Int)).toNat = j by omega] at g2 ⊢;refine ⟨g1, _, by rw [g2]; rfl, k1, _, by rw [k2]; rfl, ?_⟩;have c1 := zy9 ht n f n2 f2 hl L hr hL j (by omega);have c2 := zza ht n f n2 f2 hl L hr hL j (by omega);have c3 := zzb ht n f n2 f2 hl L hr hL j (by omega);refine (nW n f hl (fJ hr _)).mono ?_;rintro _ rfl;refine ⟨_, rfl, ?_⟩;refine (nW n f hl (fJ hr _)).mono ?_;rintro _ rfl;refine ⟨_, rfl, ?_⟩;generalize aL rows (L.getD j 0) = a at *;generalize hb : aL rows (L.getD (j + 1) 0) = b at *;refine aC (fun h1 => ?_) (fun h1 => ?_)
 ·simp only [qc, beq_iff_eq] at h1;rw [if_pos h1]
 simp only [qc, beq_iff_eq] at h1;rw [if_neg h1];refine (zne a).mono ?_;rintro _ rfl;refine ⟨_, rfl, aC (fun h2 => ?_) (fun h2 => ?_)⟩
 ·rw [if_pos (.inl h2)]
 refine (zne b).mono ?_;rintro _ rfl;refine ⟨_, rfl, aC (fun h3 => ?_) (fun h3 => ?_)⟩
 ·rw [if_pos (.inr h3)]
 rw [if_neg (fun h => h.elim h2 h3)];refine (zy4 a b).mono ?_;rintro _ rfl;refine ⟨_, rfl, aC (fun h4 => ?_) (fun h4 => ?_)⟩
 ·simp only [qm, beq_iff_eq] at h4;rw [if_pos (by rcases h4 with (((h | h) | h) | h) | h; exact .inl h; exact .inr (.inl h); exact .inr (.inr (.inl h)); exact .inr (.inr (.inr (.inl h))); exact .inr (.inr (.inr (.inr h))))]
 simp only [qm, beq_iff_eq] at h4;rw [if_neg (by rintro (h | h | h | h | h); exact h4 (.inl (.inl (.inl (.inl h)))); exact h4 (.inl (.inl (.inl (.inr h)))); exact h4 (.inl (.inl (.inr h))); exact h4 (.inl (.inr h)); exact h4 (.inr h))];refine c1.mono ?_;rintro _ rfl;refine ⟨_, rfl, ?_⟩;generalize (decide (bS rows (L.getD (j + 1) 0) = 2) && decide ((aY rows L 0 (j + 1)).conj = 2)) = x1;cases x1 with
 | true => exact bD (by simp) rfl
 | false =>
   refine bA rfl ?_;refine c2.mono ?_;rintro _ rfl;refine ⟨_, rfl, ?_⟩;generalize (bR rows 5 (L.getD (j + 1) 0) && decide ((aY rows L 0 (j + 1)).pict = 2)) = x2;cases x2 with
   | true => exact bD (by simp) rfl
   | false =>
     refine bA rfl ?_;refine c3.mono ?_;rintro _ rfl;exact ⟨_, rfl, rfl⟩
theorem zzd (k : Int) (k0 : 0 <= k) (k1 : k < L.length) : PCall qa 97 [.sl n f (bB rows), .sl n2 f2 (aA L), .int .i64 k] fun x => x = .int .i64 (bZ rows L k.toNat : Nat) := by
 refine zxb _ _ _ _ _ _ _ (fun i => (k + 1 <= i /\ i <= L.length) /\ bZ rows L k.toNat = fW rows L (L.length - i.toNat) i.toNat) (fun i => L.length - i.toNat) ?_;unfold zl3;have hl8 : ((aA L).length : Int) = L.length := by rw [bH]
 have hw : i64.wrap (k + 1) = k + 1 := aF (by omega) (by omega);rw [hl8, hw];refine ⟨⟨rfl, ⟨by omega, by omega⟩, by rw [show (k + 1).toNat = k.toNat + 1 by omega]; rfl⟩, ?_⟩;rintro i ⟨⟨i0, i1⟩, hn⟩;refine aC (fun hc => ?_) (fun hc => ?_)
 ·simp only [aB] at hc;have hi : i.toNat < L.length := by omega
  have hwi : i64.wrap (i + 1) = i + 1 := aF (by omega) (by omega);rw [hwi];refine (zzc ht n f n2 f2 hl L hr hL i (by omega) hc).mono ?_;rintro _ rfl;refine ⟨_, rfl, aC (fun hb => ?_) (fun hb => ?_)⟩
  ·rw [hn, zmb hi hb, show ((i.toNat : Nat) : Int) = i by omega]
  ·refine ⟨rfl, ⟨⟨by omega, by omega⟩, ?_⟩, by first | omega | (dsimp only; omega)⟩
   rw [hn, zma hi (by simpa using hb), show (i + 1).toNat = i.toNat + 1 by omega]
 ·simp only [aB] at hc;rw [hn, show L.length - i.toNat = 0 by omega];show _ = PV.int .i64 ((i.toNat : Nat) : Int);rw [show ((i.toNat : Nat) : Int) = (L.length : Int) by omega]
theorem znf (hL2 : L.length < 100000000) : PCall qa 63 [.sl n f (bB rows), .sl n2 f2 (aA L)] fun x => ∃ (n f : Bool) (Q : List (Bool × Bool × List Int)), x = .sl n f (Q.map clT) /\ Q.map (fun q => q.2.2) = cJ rows L 0 := by
 refine zxc _ _ _ _ _ _
  (fun i n s => (0 <= i /\ i <= L.length) /\ ∃ Q : List (Bool × Bool × List Int), s = Q.map clT /\ cJ rows L 0 = Q.map (fun q => q.2.2) ++ cJ rows L i.toNat /\ Q.length <= i.toNat) (fun i _ _ => L.length - i.toNat) ?_
 unfold zl4;have hl8 : ((aA L).length : Int) = L.length := by rw [bH]
 rw [hl8];refine ⟨⟨rfl, ⟨qp _, by omega⟩, [], rfl, rfl, qo _⟩, ?_⟩;rintro i n3 _ ⟨⟨i0, i1⟩, Q, rfl, hcl, hql⟩;refine aC (fun hc => ?_) (fun hc => ?_)
 ·simp only [aB] at hc;have hi : i.toNat < L.length := by omega
  obtain ⟨x1, x2, x3⟩ := pQ (rows := rows) hi;refine (zzd ht n f n2 f2 hl L hr hL i i0 hc).mono ?_;rintro _ rfl;refine ⟨_, rfl, ⟨zlb i0 (by omega) (by rw [bH]; omega), dO _⟩, ?_⟩;rw [show (((bZ rows L i.toNat : Nat) : Int)).toNat = bZ rows L i.toNat by omega, zlc];refine ⟨⟨lC (enc := clT) sL [(n2, _, eI L i.toNat (bZ rows L i.toNat))], by rw [qb]; omega⟩, rfl, ⟨⟨by omega, by omega⟩, Q ++ [(n2, _, eI L i.toNat (bZ rows L i.toNat))], by rw [qj]; rfl, ?_, ?_⟩, ?_⟩
  ·rw [show (((bZ rows L i.toNat : Nat) : Int)).toNat = bZ rows L i.toNat by omega, hcl, wB hi, qj, qu]; rfl
  ·rw [show (((bZ rows L i.toNat : Nat) : Int)).toNat = bZ rows L i.toNat by omega, qd, qe]; omega
  ·dsimp only; omega
 ·simp only [aB] at hc;rw [pR (i := i.toNat) (by omega), qad] at hcl;exact ⟨n3, false, Q, rfl, hcl.symm⟩
end
def encB (b : Bool) : List PV := [.bool b]
theorem zng (b : Bool) : (encB b).length = 1 := rfl
theorem wK (b : Bool) : aQ [encB b] 1 := lC (enc := encB) zng [b]
theorem znh (A : List Bool) (b : Bool) : A.map encB ++ [encB b] = (A ++ [b]).map encB := by rw [qj]; rfl
def dR (P : List (Int × List Int)) (C : List (List Int)) (i m : Nat) : List Bool := (List.range m).map fun n => c7 P C i n
theorem wL (P : List (Int × List Int)) (C : List (List Int)) (i m : Nat) : (dR P C i m).length = m := by unfold dR; rw [qb, List.length_range]
theorem zds (P : List (Int × List Int)) (C : List (List Int)) (i m : Nat) : dR P C i (m + 1) = dR P C i m ++ [c7 P C i m] := by unfold dR; rw [List.range_succ, qj]; rfl
theorem wM {P : List (Int × List Int)} {C : List (List Int)} {i m n : Nat} (h : n < m) : aI ((dR P C i m).map encB) (n : Int) 1 /\ ((dR P C i m).map encB).getD n [] = encB (c7 P C i n) := by
 refine ⟨bQ zng (by omega) (by rw [wL]; omega), ?_⟩;rw [cN (by rw [wL]; exact h)];simp [dR]
section
variable {rows : List Row} {v : PV}
theorem zze (hts : eC rows) (hp : cU rows) (h1 : dB rows) (hk : dX rows) (hs0 : ∀ (d : List Int) a, (bG rows d).s = some a -> aD rows 1 a = 0) (n f : Bool) (hrl : rows.length < 1000000) (n2 n1 : Bool) (Q : List PtF) (pl : List Int) (hr : R32 pl) (hl : pl.length < 10000) (hQ : Q.length < 100000000) :
 ACall qa 61 [.pv (.sl n f (bB rows)), .own 0, .own 1] [.sl (45, 2) false n1 (Q.map pT), .sl (21, 1) false n2 (aA pl)] fun r h' =>
  ∃ n' Q', r = .own 0 /\ h' = [.sl (45, 2) true n' (Q'.map pT), .dead] /\ wH rows Q pl Q' := by
 have hnl := sG hk pl;have hcc := sJ rows (cC rows pl)
 refine zx5 _ _ _ false n1 _ false n2 _
  (fun _ _ s7 x8 _ s0 => ∃ (i : Nat) (K : TxG), x8 = i /\ i <= K.length /\ s7 = K.map clT /\ K.map (fun q => q.2.2) = cJ rows (cC rows pl) 0 /\ s0 = (Q ++ (K.take i).map jP).map pT) (fun _ _ s7 x8 _ _ => s7.length - x8.toNat) ?_
 unfold zmt;refine (zm9 hp h1 hk hs0 n f n2 false hrl pl hr (by omega)).mono ?_;rintro _ ⟨n3, f3, rfl⟩;refine ⟨_, _, _, rfl, (znf hts n f n3 f3 hrl (cC rows pl) (vY hp h1 hk hr) (by omega) (by omega)).mono ?_⟩;rintro _ ⟨n4, f4, K, rfl, hK⟩;refine ⟨_, _, _, rfl, ⟨rfl, 0, K, rfl, by omega, rfl, hK, by rw [qau, List.map_nil, qad]⟩, ?_⟩;clear hK K;rintro n9 f9 _ _ n5 _ ⟨i, K, rfl, i1, rfl, hK, rfl⟩;have hKl := congrArg qq hK;rw [qb] at hKl;rw [qf, gK (by omega), show ((K.map clT).length : Int) = K.length by rw [qb]];refine aC (fun hc => ?_) (fun hc => ?_)
 ·simp only [aB] at hc;have hi : i < K.length := by omega
  obtain ⟨g1, g2⟩ := nY hi;refine ⟨g1, K[i].1, K[i].2.1, aA K[i].2.2, by rw [g2]; rfl, ⟨lQ (jP K[i]), by rw [qb, qd, qb, qn]; omega⟩, rfl, ⟨i + 1, K, rfl, by omega, rfl, hK, ?_⟩, by dsimp only; rw [qb]; omega⟩;have e : (K.take (i + 1)).map jP = (K.take i).map jP ++ [jP K[i]] := by rw [c5 hi, qj]; rfl
  rw [e, <- qu];exact lR _ (jP K[i])
 ·simp only [aB] at hc;rw [qh (by omega)];exact ⟨n5, _, rfl, rfl, zna hk hK Q⟩
theorem zdt (hts : eC rows) (hp : cU rows) (h1 : dB rows) (hk : dX rows) (hs0 : ∀ (d : List Int) a, (bG rows d).s = some a -> aD rows 1 a = 0) (n f n2 f2 : Bool) (hrl : rows.length < 1000000) (L : List Int) (hr : R32 L) (hL : L.length < 10000) :
 PCall qa 16 [.sl n f (bB rows), .sl n2 f2 (aA L)] (e9 rows L (fun Q x => ∃ n, x = .tup [.sl n false (Q.map pT), .int .i64 0]) (.tup [.sl true true [], .int .i64 4]) (.tup [.sl true true [], .int .i64 7])) := by
 have fl := fun n2 n1 Q pl hr hl hQ => zze hts hp h1 hk hs0 n f hrl n2 n1 Q pl hr hl hQ
 refine zx4 _ _ _ _ _ _
  (fun x _ s4 _ s5 => ∃ (i : Nat) (Q : List PtF) (pl : List Int), x = i /\ i <= L.length /\ s4 = Q.map pT /\ s5 = aA pl /\ prs rows [] [] L = prs rows (Q.map pE) pl (L.drop i) /\ Q.length + 768 * pl.length <= 769 * i /\ R32 pl /\ pl.length <= i /\ PtOK (768 * L.length) Q)
  (fun x _ _ _ _ => L.length - x.toNat) ?_
 unfold zms;rw [show ((aA L).length : Int) = L.length by rw [bH]];refine ⟨⟨rfl, 0, [], [], rfl, by omega, rfl, rfl, rfl, by simp, fun x hx => by simp at hx, by simp, fun q hq => by simp at hq⟩, ?_⟩;rintro _ n4 _ n5 _ ⟨i, Q, pl, rfl, i1, rfl, rfl, hP, hB, hpl, hpi, hQ⟩;have hQl : Q.length <= 769 * i := by omega
 refine aC (fun hc => ?_) (fun hc => ?_)
 ·simp only [aB] at hc;have hi : i < L.length := by omega
  have e1 := gK (i := i) (by omega);have e2 := gK (i := i + 1) (by omega);have e3 : i64.wrap ((L.length : Int) - 1) = (L.length : Int) - 1 := aF (by omega) (by omega);have g := fX (l := L) (i := (i : Int)) (by omega) (by omega);rw [qf] at g;obtain ⟨g1, g2⟩ := g;have hd := wI hi;rw [hd] at hP;rw [e1, e2, e3, qf];have hwr := fJ hr i
  have plain1 : R32 (pl ++ [L.getD i 0]) := fun x hx => by
   rcases List.mem_append.1 hx with hx | hx
   ·exact hpl x hx
   ·rw [List.mem_singleton.1 hx]; exact hwr
  generalize hcc : L.getD i 0 = c at *;refine ⟨g1, c, by rw [g2]; rfl, ?_⟩;by_cases h92 : c = 92
  ·subst h92;refine bA rfl (aC (fun h => ?_) (fun h => ?_))
   ·simp only [beq_iff_eq] at h;rw [qag (by omega), wE] at hP;unfold e9;rw [hP]
   ·simp only [beq_iff_eq] at h;have hi2 : i + 1 < L.length := by omega
    have k := fX (l := L) (i := ((i + 1 : Nat) : Int)) (by omega) (by omega);rw [qf] at k;obtain ⟨k1, k2⟩ := k;rw [wI hi2, wF] at hP;have hw2 := fJ hr (i + 1);rw [qf];refine ⟨k1, _, by rw [k2]; rfl, ⟨dO [L.getD (i + 1) 0], by rw [bH]; omega⟩, rfl, ⟨i + 1 + 1, Q, pl ++ [L.getD (i + 1) 0], rfl, by omega, rfl, (fV pl [L.getD (i + 1) 0]).symm, hP, by rw [qd, qe]; omega, fun x hx => ?_, by rw [qd, qe]; omega, hQ⟩, by first | omega | (dsimp only; omega)⟩
    rcases List.mem_append.1 hx with hx | hx
    ·exact hpl x hx
    ·rw [List.mem_singleton.1 hx]; exact hw2
  ·refine bD (by simpa using h92) ⟨g1, c, by rw [g2]; rfl, ?_⟩
   by_cases h42 : c = 42
   ·subst h42;refine bD (by decide) ?_;refine (fl n5 n4 Q pl hpl (by omega) (by omega)).mono ?_;rintro r h' ⟨n', Q', rfl, rfl, hA⟩;obtain ⟨hA1, hA2, hA3⟩ := id hA;refine ⟨(n', Q'.map pT), ⟨rfl, rfl⟩, ⟨trivial, trivial, trivial⟩, g1, 42, by rw [g2]; rfl, bD (by decide) ?_⟩;rw [sN, <- hA1] at hP;have hlq : ((Q'.map pT).length : Int) = Q'.length := by rw [qb]
    have V2 : (Q' = [] ∨ ∃ q, Q'.getLast? = some q /\ q.1 ≠ 2) -> prs rows [] [] L = prs rows ((Q' ++ [eD]).map pE) [] (L.drop (i + 1)) := fun hx => by rw [<- znb hx]; exact hP
    have room : ((Q'.map pT).length + 1) * 32 <= 140737488355328 := by rw [qb]; omega
    have okS := (hQ.app hA (by omega)).snoc (q := eD) (by simp [eD]);dsimp only;rw [hlq];refine aC (fun h0 => ?_) (fun h0 => ?_)
    ·simp only [beq_iff_eq] at h0;have : Q' = [] := qt (by omega);exact ⟨⟨lQ eD, room⟩, rfl, ⟨i + 1, Q' ++ [eD], [], rfl, by omega, lR Q' eD, rfl, V2 (.inl this), by rw [qd, qe, qv]; omega, fun x hx => by simp at hx, by simp, okS⟩, by first | omega | (dsimp only; omega)⟩
    ·simp only [beq_iff_eq] at h0;have hpos : 0 < Q'.length := by omega
     have hlast := znd hpos;have hw : i64.wrap ((Q'.length : Int) - 1) = ((Q'.length - 1 : Nat) : Int) := by rw [aF (by omega) (by omega)]; omega
     rw [hw, qf];obtain ⟨k1, k2⟩ := nZ (Q := Q') (i := Q'.length - 1) (by omega);refine ⟨k1, Q'[Q'.length - 1].1, by rw [k2]; rfl, aC (fun h2 => ?_) (fun h2 => ?_)⟩
     ·simp only [bne_iff_ne, ne_eq] at h2;exact ⟨⟨lQ eD, room⟩, rfl, ⟨i + 1, Q' ++ [eD], [], rfl, by omega, lR Q' eD, rfl, V2 (.inr ⟨_, hlast, h2⟩), by rw [qd, qe, qv]; omega, fun x hx => by simp at hx, by simp, okS⟩, by first | omega | (dsimp only; omega)⟩
     ·simp only [bne_iff_ne, ne_eq, qi] at h2;rw [znc hlast h2] at hP;exact ⟨rfl, ⟨i + 1, Q', [], rfl, by omega, rfl, rfl, hP, by simp only [qv]; omega, fun x hx => by simp at hx, by simp, hQ.app hA (by omega)⟩, by first | omega | (dsimp only; omega)⟩
   ·refine bA (by simpa using h42) ⟨g1, c, by rw [g2]; rfl, ?_⟩
    by_cases h63 : c = 63
    ·subst h63;refine bD (by decide) ?_;refine (fl n5 n4 Q pl hpl (by omega) (by omega)).mono ?_;rintro r h' ⟨n', Q', rfl, rfl, hA⟩;obtain ⟨hA1, hA2, hA3⟩ := id hA;refine ⟨(n', Q'.map pT), ⟨rfl, rfl⟩, ⟨trivial, trivial, trivial⟩, g1, 63, by rw [g2]; rfl, bA (by decide) ?_⟩;rw [sO, <- hA1] at hP;exact ⟨⟨lQ kF, by dsimp only; rw [qb]; omega⟩, rfl, ⟨i + 1, Q' ++ [kF], [], rfl, by omega, lR Q' kF, rfl, by rw [hP, qj]; rfl, by rw [qd, qe, qv]; omega, fun x hx => by simp at hx, by simp, (hQ.app hA (by omega)).snoc (q := kF) (by simp [kF])⟩, by first | omega | (dsimp only; omega)⟩
    ·refine bA (by simpa using h63) ?_
     rw [pV h92 h42 h63] at hP;exact ⟨g1, c, by rw [g2]; rfl, ⟨dO [c], by rw [bH]; omega⟩, rfl, ⟨i + 1, Q, pl ++ [c], rfl, by omega, rfl, (fV pl [c]).symm, hP, by rw [qd, qe]; omega, plain1, by rw [qd, qe]; omega, hQ⟩, by first | omega | (dsimp only; omega)⟩
 ·simp only [aB] at hc;have hil : i = L.length := by omega
  refine (fl n5 n4 Q pl hpl (by omega) (by omega)).mono ?_;rintro r h' ⟨n', Q', rfl, rfl, hA⟩;refine ⟨(n', Q'.map pT), ⟨rfl, rfl⟩, ⟨trivial, trivial, trivial⟩, ?_⟩;rw [hil, qag (qo _), pU, <- hA.1] at hP;have hPl : (Q'.map pE).length = Q'.length := qb _;dsimp only;rw [show ((Q'.map pT).length : Int) = Q'.length by rw [qb]];refine aC (fun h => ?_) (fun h => ?_)
  ·simp only [aB, gt_iff_lt] at h;unfold e9;rw [hP];show ite _ _ _;rw [if_pos (by omega)]
  ·simp only [aB, gt_iff_lt] at h;unfold e9;rw [hP];show ite _ _ _;rw [if_neg (by omega)];exact ⟨Q', ⟨_, rfl⟩, rfl, hQ.app hA (by omega)⟩
theorem zni {P : List (Int × List Int)} {C : List (List Int)} {n : Nat} (hn : n < C.length) : c7 P C 0 (n + 1) = false := by
 rw [zmk (n + 1) (by omega)]; exact decide_eq_false (by omega)
theorem apB : jN true [[PV.bool true]] [[PV.bool false]] 1 1 := ⟨rfl, .inr (by simp), wK true, wK false, by simp⟩
theorem znj (hts : eC rows) (hp : cU rows) (h1 : dB rows) (hk : dX rows) (hs0 : ∀ (d : List Int) a, (bG rows d).s = some a -> aD rows 1 a = 0) (n f n2 f2 n3 f3 : Bool) (hrl : rows.length < 1000000) (Q : List PtF) (hQ : ∀ q ∈ Q, q.2.2.2.length < 1000000000) (hQl : Q.length < 1000000) (hkd : iD (Q.map pE)) (L : List Int) (hr : R32 L) (hL : L.length < 10000) :
 PCall qa 19 [.sl n f (bB rows), .sl n2 f2 (Q.map pT), .sl n3 f3 (aA L)] fun x => x = .bool (bI (Q.map pE) (cJ rows (cC rows L) 0)) := by
 have hnl := sG hk L;have hcc := sJ rows (cC rows L);have hPl : (Q.map pE).length = Q.length := qb _;have c1 := zm9 hp h1 hk hs0 n f n3 f3 hrl L hr (by omega);have c2 := fun n3 f3 => znf hts n f n3 f3 hrl (cC rows L) (vY hp h1 hk hr) (by omega) (by omega);have hcm : ∀ c ∈ cJ rows (cC rows L) 0, c.length <= 768 * L.length := fun c hc => by have := zl9 hc; omega
 generalize cJ rows (cC rows L) 0 = C at *
 refine zx6 _ _ _ _ _ _ _ _ _ (C.length + 1)
  (fun _ _ s7 x9 _ s0 => ∃ (i : Nat) (K : TxG), x9 = i /\ 1 <= i /\ i <= C.length /\ s7 = K.map clT /\ K.map (fun q => q.2.2) = C /\ s0 = (dR (Q.map pE) C 0 (i + 1)).map encB)
  (fun _ _ _ x9 _ _ => C.length - x9.toNat)
  (fun _ _ s7 _ _ s8 x10 => ∃ (i : Nat) (K : TxG), x10 = i /\ i <= Q.length /\ s7 = K.map clT /\ K.map (fun q => q.2.2) = C /\ s8 = (dR (Q.map pE) C i (C.length + 1)).map encB)
  (fun _ _ _ _ _ _ x10 => Q.length - x10.toNat)
  (fun _ _ _ _ _ _ x0 _ _ _ _ _ s7 _ _ s8 x10 x12 _ s0 => ∃ (i m : Nat) (K : TxG), x10 = x0 /\ x10 = i /\ i < Q.length /\ x12 = m /\ m <= C.length + 1 /\ s7 = K.map clT /\ K.map (fun q => q.2.2) = C /\ s8 = (dR (Q.map pE) C i (C.length + 1)).map encB /\ s0 = (dR (Q.map pE) C (i + 1) m).map encB)
  (fun _ _ _ _ _ _ _ x12 _ _ => C.length + 1 - x12.toNat) ?_
 unfold zmu;refine c1.mono ?_;rintro _ ⟨n4, f4, rfl⟩;refine ⟨_, _, _, rfl, (c2 n4 f4).mono ?_⟩;rintro _ ⟨n5, f5, K, rfl, hK⟩;have hKl := congrArg qq hK;rw [qb] at hKl;refine ⟨_, _, _, rfl, ?_⟩
 have m1 : dR (Q.map pE) C 0 1 = [true] := by
  unfold dR;show [c7 _ _ 0 0] = _;rw [zmk 0 (by omega)]; rfl
 rw [show ((K.map clT).length : Int) = K.length by rw [qb]];have enter : (K = [] ∨ True) -> True := fun _ => trivial;refine aC (fun hc => ?_) (fun hc => ?_)
 rotate_left
 simp only [aB] at hc;have hC0 : C.length = 0 := by omega
 refine ⟨⟨rfl, 0, K, rfl, by omega, rfl, hK, by rw [hC0, m1]; rfl⟩, ?_⟩
 rotate_left
 simp only [aB] at hc;have m2 : dR (Q.map pE) C 0 2 = [true, false] := by rw [zds, m1, zni (by omega)]; rfl
 refine ⟨apB, ⟨rfl, ⟨1, K, rfl, by omega, by omega, rfl, hK, by rw [m2]; rfl⟩, by first | omega | (dsimp only; omega)⟩, ?_⟩
 clear hK hKl m1 m2 hc enter K;rintro n7 f7 _ _ n8 _ ⟨i, K, rfl, i0, i1, rfl, hK, rfl⟩;have hKl := congrArg qq hK;rw [qb] at hKl;rw [gK (by omega), show ((K.map clT).length : Int) = K.length by rw [qb]];refine aC (fun hc => ?_) (fun hc => ?_)
 ·simp only [aB] at hc;refine ⟨⟨wK false, by rw [qb, wL]; omega⟩, rfl, ⟨i + 1, K, rfl, by omega, by omega, rfl, hK, ?_⟩, by first | omega | (dsimp only; omega)⟩
  rw [zds _ _ _ (i + 1), zni (by omega)];exact znh _ false
 simp only [aB] at hc;have hiC : i = C.length := by omega
 refine ⟨⟨rfl, 0, K, rfl, by omega, rfl, hK, by rw [hiC]⟩, ?_⟩;clear hK hKl
 all_goals
  rintro n71 f71 _ n81 f81 _ _ ⟨j, K, rfl, j1, rfl, hK, rfl⟩;have hKl := congrArg qq hK;rw [qb] at hKl;rw [show ((K.map clT).length : Int) = C.length by rw [qb, hKl], show ((Q.map pT).length : Int) = Q.length by rw [qb]];refine aC (fun hd => ?_) (fun hd => ?_)
  ·simp only [aB] at hd;refine ⟨⟨rfl, j, 0, K, rfl, rfl, by omega, rfl, by omega, rfl, hK, rfl, rfl⟩, ?_⟩;rintro n72 f72 _ n82 f82 _ _ _ n83 _ ⟨j', m, K', hjj, rfl, hj, rfl, hm, rfl, hK', rfl, rfl⟩;have hjj' : j' = j := by omega
   subst hjj';have hKl' := congrArg qq hK';rw [qb] at hKl';rw [qf, qf, gK (i := m) (by omega), gK (i := j') (by omega), show ((K'.map clT).length : Int) = C.length by rw [qb, hKl']];have hjP : j' < (Q.map pE).length := by rw [hPl]; exact hj
   have hPj : (Q.map pE)[j'] = pE Q[j'] := qab _;obtain ⟨q1, q2⟩ := nZ hj;refine aC (fun he => ?_) (fun he => ?_)
   ·simp only [aB] at he
    have put : ∀ b : Bool, b = c7 (Q.map pE) C (j' + 1) m -> (aQ [[PV.bool b]] 1 /\ (((dR (Q.map pE) C (j' + 1) m).map encB).length + 1) * 1 <= 140737488355328) /\ ((dR (Q.map pE) C (j' + 1) m).map encB ++ [[PV.bool b]] = (dR (Q.map pE) C (j' + 1) (m + 1)).map encB) := fun b hb => by
     subst hb;refine ⟨⟨wK _, by rw [qb, wL]; omega⟩, ?_⟩;rw [zds]; exact znh _ _
    have go : ∀ (b : Bool), b = c7 (Q.map pE) C (j' + 1) m -> ∃ (i_1 m_1 : Nat) (K_1 : TxG), ((j' : Nat) : Int) = (j' : Nat) /\ ((j' : Nat) : Int) = i_1 /\ i_1 < Q.length /\ ((m + 1 : Nat) : Int) = m_1 /\ m_1 <= C.length + 1 /\ K'.map clT = K_1.map clT /\ K_1.map (fun q => q.2.2) = C /\ (dR (Q.map pE) C j' (C.length + 1)).map encB = (dR (Q.map pE) C i_1 (C.length + 1)).map encB /\ (dR (Q.map pE) C (j' + 1) m).map encB ++ [[PV.bool b]] = (dR (Q.map pE) C (i_1 + 1) m_1).map encB := fun b hb => ⟨j', m + 1, K', rfl, rfl, hj, rfl, by omega, rfl, hK', rfl, (put b hb).2⟩;refine ⟨q1, Q[j'].1, by rw [q2]; rfl, aC (fun h2 => ?_) (fun h2 => ?_)⟩
    ·simp only [beq_iff_eq] at h2;obtain ⟨a1, a2⟩ := wM (P := Q.map pE) (C := C) (i := j') (m := C.length + 1) (n := m) (by omega);refine ⟨a1, _, by rw [a2]; rfl, aC (fun h3 => ?_) (fun h3 => ?_)⟩
     ·have hb : true = c7 (Q.map pE) C (j' + 1) m := by
       cases m with
       | zero => rw [zc7 hjP, hPj, h3, decide_eq_true (show (pE Q[j']).1 = 2 from h2)]; rfl
       | succ m => rw [zml hjP (by omega) (by rw [hPj]; exact h2), h3]; rfl
      exact ⟨(put true hb).1, rfl, go true hb, by first | omega | (dsimp only; omega)⟩
     ·refine aC (fun h4 => ?_) (fun h4 => ?_)
      ·simp only [aB, gt_iff_lt] at h4;obtain ⟨m', rfl⟩ : ∃ m', m = m' + 1 := ⟨m - 1, by omega⟩;have hw : i64.wrap (((m' + 1 : Nat) : Int) - 1) = (m' : Int) := by rw [aF (by omega) (by omega)]; omega
       rw [hw, qf];obtain ⟨b1, b2⟩ := wM (P := Q.map pE) (C := C) (i := j' + 1) (m := m' + 1) (n := m') (by omega)
       have hb : c7 (Q.map pE) C (j' + 1) m' = c7 (Q.map pE) C (j' + 1) (m' + 1) := by
        rw [zml hjP (by omega) (by rw [hPj]; exact h2), Bool.eq_false_iff.2 h3, qbg]
       exact ⟨b1, c7 (Q.map pE) C (j' + 1) m', by rw [b2]; rfl, (put _ hb).1, rfl, go _ hb, by first | omega | (dsimp only; omega)⟩
      ·simp only [aB, gt_iff_lt] at h4;have hm0 : m = 0 := by omega
       subst hm0;have hb : false = c7 (Q.map pE) C (j' + 1) 0 := by rw [zc7 hjP, Bool.eq_false_iff.2 h3, qbc]
       exact ⟨(put false hb).1, rfl, go false hb, by first | omega | (dsimp only; omega)⟩
    ·simp only [beq_iff_eq] at h2;refine aC (fun h4 => ?_) (fun h4 => ?_)
     ·simp only [aB, gt_iff_lt] at h4;obtain ⟨m', rfl⟩ : ∃ m', m = m' + 1 := ⟨m - 1, by omega⟩;have hm' : m' < C.length := by omega
      have hw : i64.wrap (((m' + 1 : Nat) : Int) - 1) = (m' : Int) := by rw [aF (by omega) (by omega)]; omega
      rw [hw, qf];obtain ⟨a1, a2⟩ := wM (P := Q.map pE) (C := C) (i := j') (m := C.length + 1) (n := m') (by omega);have hone := zxv (P := Q.map pE) (C := C) hjP hm' (by rw [hPj]; exact h2);rw [hPj] at hone;refine ⟨a1, _, by rw [a2]; rfl, aC (fun h3 => ?_) (fun h3 => ?_)⟩
      ·rw [h3, Bool.and_true] at hone;refine ⟨q1, Q[j'].1, by rw [q2]; rfl, aC (fun h5 => ?_) (fun h5 => ?_)⟩
       ·simp only [beq_iff_eq] at h5;have hb : true = c7 (Q.map pE) C (j' + 1) (m' + 1) := by rw [hone]; unfold eZ; rw [decide_eq_true (show (pE Q[j']).1 = 1 from h5)]; rfl
        exact ⟨(put true hb).1, rfl, go true hb, by first | omega | (dsimp only; omega)⟩
       ·simp only [beq_iff_eq] at h5
        have h0 : Q[j'].1 = 0 := by
         rcases hkd (pE Q[j']) (List.mem_map.2 ⟨_, qg hj, rfl⟩) with h | h | h
         ·exact h
         ·exact absurd h h5
         ·exact absurd h h2
        obtain ⟨c1, c2⟩ := nY (K := K') (i := m') (by omega);have hKm : K'[m']'(by omega) = K'[m']'(by omega) := rfl;have hCm : (K'[m']'(by omega)).2.2 = C[m'] := by simp [<- hK']
        refine ⟨q1, Q[j'].2.1, Q[j'].2.2.1, aA Q[j'].2.2.2, by rw [q2]; rfl, c1, _, _, _, by rw [c2]; rfl, (zck _ _ _ _ _ _ (by have := hQ _ (qg hj); omega)).mono ?_⟩;rintro _ rfl
        have hb : decide (Q[j'].2.2.2 = (K'[m']'(by omega)).2.2) = c7 (Q.map pE) C (j' + 1) (m' + 1) := by
         rw [hone, hCm]; unfold eZ;rw [decide_eq_false (show ¬(pE Q[j']).1 = 1 from h5), decide_eq_true (show (pE Q[j']).1 = 0 from h0)]; rfl
        exact ⟨_, rfl, (put _ hb).1, rfl, go _ hb, by first | omega | (dsimp only; omega)⟩
      ·rw [Bool.eq_false_iff.2 h3, qbc] at hone;exact ⟨(put false hone.symm).1, rfl, go false hone.symm, by first | omega | (dsimp only; omega)⟩
     ·simp only [aB, gt_iff_lt] at h4;have hm0 : m = 0 := by omega
      subst hm0;have hb : false = c7 (Q.map pE) C (j' + 1) 0 := by rw [zc7 hjP, hPj, decide_eq_false (show ¬(pE Q[j']).1 = 2 from h2), qah]
      exact ⟨(put false hb).1, rfl, go false hb, by first | omega | (dsimp only; omega)⟩
   ·simp only [aB] at he;have hmC : m = C.length + 1 := by omega
    subst hmC;exact ⟨rfl, ⟨j' + 1, K', rfl, by omega, rfl, hK', rfl⟩, by first | omega | (dsimp only; omega)⟩
  ·simp only [aB] at hd;have hjl : j = Q.length := by omega
   obtain ⟨a1, a2⟩ := wM (P := Q.map pE) (C := C) (i := j) (m := C.length + 1) (n := C.length) (by omega);rw [qf];refine ⟨a1, _, by rw [a2]; rfl, ?_⟩;rw [hjl, <- hPl, zxw]
theorem zzf (np fp : Bool) (Q : List PtF) (hQ : ∀ q ∈ Q, q.2.2.2.length < 1000000000) (hQl : Q.length < 1000000) :
 PCall qa 21 [.agg [.sl np fp (Q.map pT)]] fun x => ∃ (n : Bool) (Q' : List PtF), x = .sl n false (Q'.map pT) /\ Q'.map pE = Q.map pE := by
 refine zx1 _ _ _ (fun x _ s => ∃ (i : Nat) (Q' : List PtF), x = i /\ i <= Q.length /\ s = Q'.map pT /\ Q'.map pE = (Q.take i).map pE) (fun x _ _ => Q.length - x.toNat) ?_;unfold zmp;rw [show ((Q.map pT).length : Int) = Q.length by rw [qb]];refine ⟨⟨rfl, 0, [], rfl, by omega, rfl, rfl⟩, ?_⟩;rintro _ n0 _ ⟨i, Q', rfl, i1, rfl, hE⟩;rw [qf, gK (by omega)];refine aC (fun hc => ?_) (fun hc => ?_)
 ·simp only [aB] at hc;have hi : i < Q.length := by omega
  obtain ⟨g1, g2⟩ := nZ hi;have hl := congrArg qq hE;rw [qb, qb, qn] at hl
  have cl : PCall qa 67 [.sl Q[i].2.1 Q[i].2.2.1 (aA Q[i].2.2.2)] fun x => ∃ n f, x = .sl n f (aA Q[i].2.2.2) := by
   have hlen := hQ _ (qg hi);by_cases h : Q[i].2.1 = true -> Q[i].2.2.2 = []
   ·exact (sK _ _ _ h (by omega)).mono fun x hx => ⟨_, _, hx⟩
   ·have hn : Q[i].2.1 = true := by
     cases hb : Q[i].2.1 with
     | true => rfl
     | false => rw [hb] at h; exact absurd (fun h => by cases h) h
    rw [hn];exact PCall.vac (sK false Q[i].2.2.1 Q[i].2.2.2 (fun h => by cases h) (by omega)) (k := 0) rfl (zc4 fun e => h fun _ => e)
  refine ⟨g1, _, by rw [g2]; rfl, _, _, _, by rw [g2]; rfl, cl.mono ?_⟩;rintro _ ⟨n2, f2, rfl⟩;refine ⟨n2, f2, _, rfl, ⟨lQ (Q[i].1, n2, f2, Q[i].2.2.2), by rw [qb]; omega⟩, rfl, ⟨i + 1, Q' ++ [(Q[i].1, n2, f2, Q[i].2.2.2)], rfl, by omega, lR Q' (Q[i].1, n2, f2, Q[i].2.2.2), ?_⟩, by first | omega | (dsimp only; omega)⟩
  rw [qj, hE, c5 hi, qj]; rfl
 ·simp only [aB] at hc;rw [qh (by omega)] at hE;exact ⟨n0, Q', rfl, hE⟩
end
def cG (A : TxG) : List (List Int) := A.map fun q => q.2.2
theorem zdu {rows : List Row} {L : List Int} {x y : PV} (hx : e9 rows L (fun Q x => ∃ n, x = .tup [.agg [.sl n false (Q.map pT)], .int .i64 0]) (.tup [.agg [.sl true true []], .int .i64 4]) (.tup [.agg [.sl true true []], .int .i64 7]) x)
 (hy : e9 rows L (fun Q x => ∃ n, x = .tup [.sl n false (Q.map pT), .int .i64 0]) (.tup [.sl true true [], .int .i64 4]) (.tup [.sl true true [], .int .i64 7]) y) :
 ∃ (e : Int) (A B : List PtF) (n f n2 f2 : Bool), x = .tup [.agg [.sl n f (A.map pT)], .int .i64 e] /\ y = .tup [.sl n2 f2 (B.map pT), .int .i64 e] /\ A.map pE = B.map pE /\ e8 (A.map pE) /\ iD (A.map pE) /\ PtOK (768 * L.length) A /\ PtOK (768 * L.length) B /\ A.length <= 1000 /\ B.length <= 1000 := by
 unfold e9 at hx hy
 have none7 : ∀ e : Int, ∃ (e' : Int) (A B : List PtF) (n f n2 f2 : Bool), PV.tup [.agg [.sl true true []], .int .i64 e] = .tup [.agg [.sl n f (A.map pT)], .int .i64 e'] /\ PV.tup [.sl true true [], .int .i64 e] = .tup [.sl n2 f2 (B.map pT), .int .i64 e'] /\ A.map pE = B.map pE /\ e8 (A.map pE) /\ iD (A.map pE) /\ PtOK (768 * L.length) A /\ PtOK (768 * L.length) B /\ A.length <= 1000 /\ B.length <= 1000 :=
  fun e => ⟨e, [], [], true, true, true, true, rfl, rfl, rfl, trivial, (fun p hp => by cases hp), (fun q hq => by cases hq), (fun q hq => by cases hq), by simp, by simp⟩
 cases hP : prs rows [] [] L with
 | none =>
   rw [hP] at hx hy;rw [hx, hy]; exact none7 4
 | some P =>
   rw [hP] at hx hy;dsimp only at hx hy;by_cases h : 1000 < P.length
   ·rw [if_pos h] at hx hy;rw [hx, hy]; exact none7 7
   ·rw [if_neg h] at hx hy;obtain ⟨A, ⟨n, rfl⟩, hA, hA2⟩ := hx;obtain ⟨B, ⟨n2, rfl⟩, hB, hB2⟩ := hy;have hAl : A.length = P.length := by rw [<- hA, qb]
    have hBl : B.length = P.length := by rw [<- hB, qb]
    exact ⟨0, A, B, n, false, n2, false, rfl, rfl, hA.trans hB.symm, by rw [hA]; exact sQ (out := []) _ (qo _) trivial hP, by rw [hA]; exact sS (out := []) _ (qo _) (fun p hp => by cases hp) hP, hA2, hB2, by omega, by omega⟩
section
variable {t : PV}
theorem sV (ht : dV tab t) (n f : Bool) (L : List Int) (hr : R32 L) (hL : L.length < 10000) : PCall qa 15 [t, .sl n f (aA L)] (e9 tab L (fun Q x => ∃ n, x = .tup [.agg [.sl n false (Q.map pT)], .int .i64 0]) (.tup [.agg [.sl true true []], .int .i64 4]) (.tup [.agg [.sl true true []], .int .i64 7])) := zy3 nV j9 mM jG ht n f L hr hL
theorem oC (ht : dV tab t) (np fp n f : Bool) (Q : List PtF) {m : Nat} (hQ : PtOK m Q) (hm : m < 1000000000) (hQl : Q.length <= 1000) (L : List Int) (hr : R32 L) (hL : L.length < 100000) :
 PCall qa 18 [.agg [.sl np fp (Q.map pT)], t, .sl n f (aA L)] fun x => x = .bool (bI (Q.map pE) (cJ tab (cC tab L) 0)) := zyd nV j9 mM jG ht np fp n f Q (fun q hq => by have := hQ q hq; omega) (by omega) L hr hL
end
theorem zzg : fK tab [97] = [(0, [97])] := by kernel_rfl
theorem zzh : fK tab [99] = [(0, [99])] := by kernel_rfl
theorem znk : fK tab [] = [] := by kernel_rfl
theorem zzi : cJ tab (cC tab [97, 99]) 0 = [[97], [99]] := by kernel_rfl
theorem zzj : cJ tab (cC tab [97, 98, 98, 99]) 0 = [[97], [98], [98], [99]] := by kernel_rfl
theorem zzk : cJ tab (cC tab [97, 99, 98]) 0 = [[97], [99], [98]] := by kernel_rfl
theorem zzl : cJ tab (cC tab [101, 769]) 0 = [[233]] := by kernel_rfl
theorem zzm : cJ tab (cC tab [101, 97]) 0 = [[101], [97]] := by kernel_rfl
theorem zzn : prs tab [] [] [97, 42, 99] = some [(0, [97]), (2, []), (0, [99])] := by
 rw [pV (by decide) (by decide) (by decide), qac, sN, qac, zzg, pV (by decide) (by decide) (by decide), qac, pU, zzh]; rfl
theorem zzo : prs tab [] [] [63] = some [(1, [])] := by
 rw [sO, znk, pU, znk]; rfl
theorem awake43 : PCall qa 17 [] fun v => v = .bool true := by
 refine zx8 ?_; unfold zmw;refine p42.mono ?_;rintro _ ⟨n, f, rfl⟩;refine ⟨_, _, _, rfl, ?_⟩;refine (vV n f).mono fun t ht => ?_;refine (sV ht false true [97, 42, 99] (fun x hx => by simp at hx; omega) (by simp)).mono fun x hx => ?_;unfold e9 at hx;rw [zzn] at hx;dsimp only at hx;rw [if_neg (by decide)] at hx;obtain ⟨A, ⟨n1, rfl⟩, hA, hA2⟩ := hx;have hAl : A.length <= 1000 := by have := congrArg qq hA; rw [qb] at this; simp at this; omega
 refine ⟨_, rfl, rfl, _, rfl, _, rfl, rfl, _, _, _, rfl, _, rfl, _, rfl, ?_⟩;refine (sV ht false true [63] (fun x hx => by simp at hx; omega) (by simp)).mono fun x hx => ?_;unfold e9 at hx;rw [zzo] at hx;dsimp only at hx;rw [if_neg (by decide)] at hx;obtain ⟨B, ⟨n2, rfl⟩, hB, hB2⟩ := hx;have hBl : B.length <= 1000 := by have := congrArg qq hB; rw [qb] at this; simp at this; omega
 refine ⟨_, rfl, rfl, _, rfl, _, rfl, rfl, _, _, _, rfl, _, rfl, _, rfl, bA rfl ?_⟩;refine (oC ht _ _ false true A hA2 (by simp) hAl [97, 99] (fun x hx => by simp at hx; omega) (by simp)).mono ?_;rintro _ rfl;rw [hA, zzi];refine ⟨_, rfl, bA (by simp [gJ, lN, mP, mQ, eZ]) ?_⟩;refine (oC ht _ _ false true A hA2 (by simp) hAl [97, 98, 98, 99] (fun x hx => by simp at hx; omega) (by simp)).mono ?_;rintro _ rfl;rw [hA, zzj];refine ⟨_, rfl, bA (by simp [gJ, lN, mP, mQ, eZ]) ?_⟩;refine (oC ht _ _ false true A hA2 (by simp) hAl [97, 99, 98] (fun x hx => by simp at hx; omega) (by simp)).mono ?_;rintro _ rfl;rw [hA, zzk];refine ⟨_, rfl, bA (by simp [gJ, lN, mP, mQ, eZ]) ?_⟩;refine (oC ht _ _ false true B hB2 (by simp) hBl [101, 769] (fun x hx => by simp at hx; omega) (by simp)).mono ?_;rintro _ rfl;rw [hB, zzl];refine ⟨_, rfl, bA (by simp [gJ, lN, mP, mQ, eZ]) ?_⟩;refine (oC ht _ _ false true B hB2 (by simp) hBl [101, 97] (fun x hx => by simp at hx; omega) (by simp)).mono ?_;rintro _ rfl;rw [hB, zzm];exact ⟨_, rfl, by simp [gJ, lN, mP, mQ, eZ]⟩
theorem sW : PCall qa 17 [] fun v5 => ∃ b1, v5 = Zb b1 /\ PV.bool b1 = .bool true := awake43.mono fun x hx => ⟨true, hx, rfl⟩
theorem zdv {L : List Int} {x : PV} (hx : e9 tab L (fun Q x => ∃ n, x = .tup [.agg [.sl n false (Q.map pT)], .int .i64 0]) (.tup [.agg [.sl true true []], .int .i64 4]) (.tup [.agg [.sl true true []], .int .i64 7]) x) : ∃ (A : List PtF) (e : Int) (n f : Bool), x = .tup [.agg [.sl n f (A.map pT)], .int .i64 e] := by
 unfold e9 at hx;cases hP : prs tab [] [] L with
 | none => rw [hP] at hx; exact ⟨[], 4, true, true, hx⟩
 | some P =>
   rw [hP] at hx; dsimp only at hx;by_cases h : 1000 < P.length
   ·rw [if_pos h] at hx; exact ⟨[], 7, true, true, hx⟩
   ·rw [if_neg h] at hx;obtain ⟨A, ⟨n, rfl⟩, _⟩ := hx;exact ⟨A, 0, n, false, rfl⟩
theorem zzp (n f : Bool) (l : List Int) (rl : R32 l) : PCall qa 4 [.sl n f (aA l)] fun v => v = .bool true := by
 refine zx9 _ _ _
  (fun _ _ s6 _ _ s8 x9 => ∃ (i : Nat) (A B : List PtF), x9 = i /\ i <= A.length /\ s6 = B.map pT /\ s8 = A.map pT /\ A.map pE = B.map pE /\ e8 (A.map pE) /\ PtOK 61440 A /\ A.length <= 1000) (fun _ _ _ _ _ s8 x9 => s8.length - x9.toNat) ?_
 unfold zmx;refine (sD n f l 80 (by omega)).mono ?_;rintro _ ⟨n1, f1, rfl⟩;have la := sH l 80;have ra := rl.take 80;generalize l.take 80 = L at *;refine ⟨_, _, _, rfl, p42.mono ?_⟩;rintro _ ⟨n2, f2, rfl⟩;refine ⟨_, _, _, rfl, (vV n2 f2).mono fun t ht => ?_⟩;refine (sV ht n1 f1 L ra (by omega)).mono fun x hx => ?_;have key := zdt nV j9 mM jG sT n2 f2 n1 f1 nT L ra (by omega);have two : ∀ y, e9 tab L (fun Q x => ∃ n, x = .tup [.sl n false (Q.map pT), .int .i64 0]) (.tup [.sl true true [], .int .i64 4]) (.tup [.sl true true [], .int .i64 7]) y -> _ := fun y hy => zdu hx hy;obtain ⟨vs, e0, n3, f3, hx0⟩ := zdv hx;subst hx0;refine ⟨_, rfl, rfl, _, rfl, _, rfl, rfl, _, _, _, rfl, _, rfl, _, rfl, key.mono fun y hy => ?_⟩;obtain ⟨e, A, B, n4, f4, n5, f5, hxe, rfl, hE, hN, hK, hA, hB, hAl, hBl⟩ := two y hy;injection hxe with hxe;simp only [List.cons.injEq, PV.agg.injEq, PV.sl.injEq, PV.int.injEq, and_true, true_and] at hxe;obtain ⟨⟨rfl, rfl, hm⟩, rfl⟩ := hxe;rw [hm];refine ⟨_, rfl, rfl, _, rfl, _, _, _, rfl, _, rfl, _, rfl, (zzf _ _ A (fun q hq => by have := hA q hq; omega) (by omega)).mono ?_⟩;rintro _ ⟨n6, X, rfl, hX⟩;have hXl : X.length = A.length := by have := congrArg qq hX; rwa [qb, qb] at this
 have hBA : B.length = A.length := by have := congrArg qq hE; rw [qb, qb] at this; omega
 have hXok : PtOK 61440 X := fun q hq => by
  have h1 : pE q ∈ A.map pE := by rw [<- hX]; exact List.mem_map.2 ⟨q, hq, rfl⟩
  obtain ⟨a, ha, hae⟩ := List.mem_map.1 h1;have h2 := hA a ha;have h3 : (pE q).2 = q.2.2.2 := rfl;have h4 : (pE a).2 = a.2.2.2 := rfl;rw [<- h3, <- hae, h4]; omega
 refine ⟨_, _, _, rfl, bD (by rw [qb, qb, hXl, hBA]; simp) ⟨⟨rfl, 0, X, B, rfl, by omega, rfl, rfl, hX.trans hE, by rw [hX]; exact hN, hXok, by omega⟩, ?_⟩⟩;clear hXok hBA hXl hX two hx hy key hm hE hN hK hA hB hAl hBl A B X;rintro n7 f7 _ n8 f8 _ _ ⟨i, A, B, rfl, i1, rfl, rfl, hE, hN, hA, hAl⟩;have hBl : B.length = A.length := by have := congrArg qq hE; rw [qb, qb] at this; omega
 rw [qf, gK (by omega), show ((A.map pT).length : Int) = A.length by rw [qb]];refine aC (fun hc => ?_) (fun hc => sW);simp only [aB] at hc;have hi : i < A.length := by omega
 have hiB : i < B.length := by omega
 obtain ⟨g1, g2⟩ := nZ hi;obtain ⟨k1, k2⟩ := nZ hiB
 have hEi : pE A[i] = pE B[i] := by
  have h1 : (A.map pE)[i]'(by rw [qb]; exact hi) = (B.map pE)[i]'(by rw [qb]; exact hiB) := by simp only [hE]
  simpa using h1
 have e1 : A[i].1 = B[i].1 := congrArg (fun z : Int × List Int => z.1) hEi;have e2 : A[i].2.2.2 = B[i].2.2.2 := congrArg (fun z : Int × List Int => z.2) hEi;refine ⟨g1, A[i].1, by rw [g2]; rfl, k1, B[i].1, by rw [k2]; rfl, bD (by rw [e1]; simp) ⟨g1, A[i].2.1, A[i].2.2.1, aA A[i].2.2.2, by rw [g2]; rfl, k1, B[i].2.1, B[i].2.2.1, aA B[i].2.2.2, by rw [k2]; rfl, (zck _ _ _ _ _ _ (by have := hA _ (qg hi); omega)).mono ?_⟩⟩;rintro _ rfl;refine ⟨_, rfl, bD (by rw [e2]; simp) ?_⟩;have next : ∃ (i_1 : Nat) (A_1 B_1 : List PtF), ((i + 1 : Nat) : Int) = i_1 /\ i_1 <= A_1.length /\ B.map pT = B_1.map pT /\ A.map pT = A_1.map pT /\ A_1.map pE = B_1.map pE /\ e8 (A_1.map pE) /\ PtOK 61440 A_1 /\ A_1.length <= 1000 := ⟨i + 1, A, B, rfl, by omega, rfl, rfl, hE, hN, hA, hAl⟩
 refine aC (fun h => ?_) (fun h => ⟨rfl, next, by first | omega | (dsimp only; rw [qb]; omega)⟩)
 simp only [aB, gt_iff_lt] at h;obtain ⟨j, rfl⟩ : ∃ j, i = j + 1 := ⟨i - 1, by omega⟩;have hw : i64.wrap (((j + 1 : Nat) : Int) - 1) = (j : Int) := by rw [aF (by omega) (by omega)]; omega
 rw [hw, qf];obtain ⟨p1, p2⟩ := nZ (Q := A) (i := j) (by omega);refine ⟨g1, A[j + 1].1, by rw [g2]; rfl, aC (fun h2 => ?_) (fun h2 => ⟨rfl, next, by first | omega | (dsimp only; rw [qb]; omega)⟩)⟩
 refine ⟨p1, A[j].1, by rw [p2]; rfl, bD ?_ ⟨rfl, next, by first | omega | (dsimp only; rw [qb]; omega)⟩⟩
 simp only [beq_iff_eq] at h2 ⊢;intro h3;have hno := zmj hN j (by rw [qb]; omega);rw [qab, qab] at hno;exact hno ⟨h3, h2⟩
theorem nfc_nfd (l : List Int) : cC tab (eH tab l) = cC tab l := by unfold cC; rw [zks jG zvv]
theorem zzq (n f : Bool) (l : List Int) (rl : R32 l) (n0 f0 : Bool) (s : List Int) (rs : R32 s) : PCall qa 3 [.sl n f (aA l), .sl n0 f0 (aA s)] fun v => v = .bool true := by
 refine zya _ _ _ _ _ _ ?_; unfold zmy;refine (sD n f l 30 (by omega)).mono ?_;rintro _ ⟨n1, f1, rfl⟩;have la := sH l 30;have ra := rl.take 30;generalize l.take 30 = L at *;refine ⟨_, _, _, rfl, (sD n0 f0 s 40 (by omega)).mono ?_⟩;rintro _ ⟨n2, f2, rfl⟩;have lb := sH s 40;have rb := rs.take 40;generalize s.take 40 = S at *;refine ⟨_, _, _, rfl, p42.mono ?_⟩;rintro _ ⟨n3, f3, rfl⟩;refine ⟨_, _, _, rfl, (vV n3 f3).mono fun t ht => ?_⟩;refine (sV ht n1 f1 L ra (by omega)).mono fun x hx => ?_;obtain ⟨A0, e0, n4, f4, hx0⟩ := zdv hx;have key := zdt nV j9 mM jG sT n3 f3 n1 f1 nT L ra (by omega);have two := fun y hy => zdu (y := y) hx hy;subst hx0;refine ⟨_, rfl, rfl, _, rfl, _, rfl, rfl, _, _, _, rfl, _, rfl, _, rfl, key.mono fun y hy => ?_⟩;obtain ⟨e, A, B, n5, f5, n6, f6, hxe, rfl, hE, hN, hK, hA, hB, hAl, hBl⟩ := two y hy;injection hxe with hxe;simp only [List.cons.injEq, PV.agg.injEq, PV.sl.injEq, PV.int.injEq, and_true, true_and] at hxe;obtain ⟨⟨rfl, rfl, hm⟩, rfl⟩ := hxe;rw [hm];refine ⟨_, rfl, rfl, _, rfl, _, _, _, rfl, _, rfl, _, rfl, aC (fun h => bA (by simp) sW) (fun h => ?_)⟩;have hfit := fun (Q : List PtF) (hQ : PtOK (768 * L.length) Q) (hQl : Q.length <= 1000) n f np fp (T : List Int) rT (lT : T.length < 100000) => oC ht np fp n f Q hQ (by omega) hQl T rT lT;refine (hfit A hA hAl n2 f2 _ _ S rb (by omega)).mono ?_;rintro _ rfl;refine ⟨_, rfl, (znj nV j9 mM jG sT n3 f3 _ _ n2 f2 nT B (fun q hq => by have := hB q hq; omega) (by omega) (by rw [<- hE]; exact hK) S rb (by omega)).mono ?_⟩;rintro _ rfl;refine ⟨_, rfl, bA (by rw [hE]; simp) ?_⟩;refine (hfit A hA hAl n2 f2 _ _ S rb (by omega)).mono ?_;rintro _ rfl;refine ⟨_, rfl, (zkz j9 jG n3 f3 n2 f2 nT S rb (by omega)).mono ?_⟩;rintro _ ⟨n7, f7, rfl⟩;have hnl := zcj jG S;refine ⟨_, _, _, rfl, (hfit A hA hAl n7 f7 _ _ (eH tab S) (vU jG j9 rb) (by omega)).mono ?_⟩;rintro _ rfl;refine ⟨_, rfl, bA (by rw [nfc_nfd]; simp) sW⟩
theorem zzr (n f : Bool) (l : List Int) (hl : l.length < 1000000000000) : PCall qa 67 [.sl n f (aA l)] fun x => ∃ n f, x = .sl n f (aA l) := by
 by_cases h : n = true -> l = []
 ·exact (sK n f l h hl).mono fun x hx => ⟨_, _, hx⟩
 ·have hn : n = true := by cases n with | true => rfl | false => exact absurd (fun h => by cases h) h
  subst hn;exact PCall.vac (sK false f l (fun h => by cases h) hl) (k := 0) rfl (zc4 fun e => h fun _ => e)
theorem zdw (q : Bool × Bool × List Int) : aQ [clT q] 1 := lC (enc := clT) sL [q]
theorem wN (A : TxG) (q : Bool × Bool × List Int) : A.map clT ++ [clT q] = (A ++ [q]).map clT := by rw [qj]; rfl
theorem zdx (A : TxG) (q : Bool × Bool × List Int) : cG (A ++ [q]) = cG A ++ [q.2.2] := by unfold cG; rw [qj]; rfl
theorem jH (A : TxG) : (cG A).length = A.length := qb _
def eJ (P : List (Int × List Int)) (s : List Int) : Bool := bI P (cJ tab (cC tab s) 0)
theorem zzs (P : List (Int × List Int)) {T : List (List Int)} {i : Nat} (hi : i < T.length) : (T.take (i + 1)).filter (eJ P) = if eJ P T[i] = true then (T.take i).filter (eJ P) ++ [T[i]] else (T.take i).filter (eJ P) := by
 rw [qaq hi, qbk];by_cases h : eJ P T[i] = true
 ·rw [if_pos h]; simp [h]
 ·rw [if_neg h]; simp [h]
theorem zzt {t : PV} (ht : dV tab t) (np fp n f : Bool) (Q : List PtF) {m : Nat} (hQ : PtOK m Q) (hm : m < 1000000000) (hQl : Q.length <= 1000) (W : TxG) (hW : ∀ q ∈ W, R32 q.2.2 /\ q.2.2.length <= 12) (hWl : W.length <= 8) :
 PCall qa 24 [.agg [.sl np fp (Q.map pT)], t, .sl n f (W.map clT)] fun x => ∃ (n : Bool) (A : TxG), x = .sl n false (A.map clT) /\ cG A = (cG W).filter (eJ (Q.map pE)) := by
 have hf := fun n f T rT lT => oC ht np fp n f Q hQ hm hQl T rT lT;obtain ⟨tc, tg, tj, tf, tp, made, sec, rfl, ht', hm'⟩ := ht;refine zx0 _ _ _ _ _ _ _ _ _ _ _ _ _ (fun x _ s => ∃ (i : Nat) (A : TxG), x = i /\ i <= W.length /\ s = A.map clT /\ A.length <= i /\ cG A = ((cG W).take i).filter (eJ (Q.map pE))) (fun x _ _ => W.length - x.toNat) ?_;unfold zmo;rw [show ((W.map clT).length : Int) = W.length by rw [qb]];refine ⟨⟨rfl, 0, [], rfl, by omega, rfl, by simp, rfl⟩, ?_⟩;rintro _ n0 _ ⟨i, A, rfl, i1, rfl, hAi, hA⟩;rw [qf, gK (by omega)];refine aC (fun hc => ?_) (fun hc => ?_)
 ·simp only [aB] at hc;have hi : i < W.length := by omega
  obtain ⟨g1, g2⟩ := nY hi;obtain ⟨wr, wl⟩ := hW _ (qg hi);have hs := zzs (Q.map pE) (T := cG W) (i := i) (by rw [jH]; exact hi);have hg : (cG W)[i]'(by rw [jH]; exact hi) = W[i].2.2 := by simp [cG]
  rw [hg, <- hA] at hs;refine ⟨g1, W[i].1, W[i].2.1, aA W[i].2.2, by rw [g2]; rfl, (hf _ _ _ wr (by omega)).mono ?_⟩;rintro _ rfl;refine ⟨_, rfl, aC (fun h => ?_) (fun h => ?_)⟩
  ·rw [if_pos (show eJ (Q.map pE) W[i].2.2 = true from h)] at hs;refine (zzr _ _ _ (by omega)).mono ?_;rintro _ ⟨n2, f2, rfl⟩;exact ⟨n2, f2, _, rfl, ⟨zdw (n2, f2, W[i].2.2), by rw [qb]; omega⟩, rfl, ⟨i + 1, A ++ [(n2, f2, W[i].2.2)], rfl, by omega, wN A (n2, f2, W[i].2.2), by rw [qd, qe]; omega, by rw [hs, zdx]⟩, by first | omega | (dsimp only; omega)⟩
  ·rw [if_neg (show ¬eJ (Q.map pE) W[i].2.2 = true from h)] at hs;exact ⟨rfl, ⟨i + 1, A, rfl, by omega, rfl, by omega, hs.symm⟩, by first | omega | (dsimp only; omega)⟩
 ·simp only [aB] at hc;rw [qh (by rw [jH]; omega)] at hA;exact ⟨n0, A, rfl, hA⟩
theorem znl {A : TxG} {i : Nat} (h : i < A.length) : (cG A).getD i [] = A[i].2.2 := by simp [cG, qar, h]
theorem zzu {A B : TxG} {i : Nat} (hA : i < A.length) (hB : i < B.length) (h : (cG A).take i = (cG B).take i) (e : A[i].2.2 = B[i].2.2) : (cG A).take (i + 1) = (cG B).take (i + 1) := by
 have hA' : i < (cG A).length := by rw [jH]; exact hA
 have hB' : i < (cG B).length := by rw [jH]; exact hB
 rw [c5 hA', c5 hB', h];congr 2;simp only [cG, qab]; exact e
theorem zzv (n f n2 f2 : Bool) (A B : TxG) (hA : ∀ q ∈ A, q.2.2.length < 1000000000000) (hl : A.length < 1000000000000) :
 PCall qa 23 [.sl n f (A.map clT), .sl n2 f2 (B.map clT)] fun x => x = .bool (decide (cG A = cG B)) := by
 refine zx7 _ _ _ _ _ _ (fun x => ∃ i : Nat, x = i /\ i <= A.length /\ (cG A).take i = (cG B).take i) (fun i => A.length - i.toNat) ?_;unfold zmv;have ha : ((A.map clT).length : Int) = A.length := by rw [qb]
 have hb : ((B.map clT).length : Int) = B.length := by rw [qb]
 rw [ha, hb];refine aC (fun hc => ?_) (fun hc => ?_)
 ·simp only [bne_iff_ne, ne_eq] at hc;have : cG A ≠ cG B := fun e => hc (by rw [<- jH, <- jH, e]);simp [this]
 ·simp only [bne_iff_ne, ne_eq, qi] at hc;refine ⟨⟨rfl, 0, rfl, by omega, rfl⟩, ?_⟩;rintro _ ⟨i, rfl, i1, he⟩;rw [qf, gK (by omega)];refine aC (fun h => ?_) (fun h => ?_)
  ·simp only [aB] at h;have hi : i < A.length := by omega
   have hj : i < B.length := by omega
   obtain ⟨g1, g2⟩ := nY hi;obtain ⟨k1, k2⟩ := nY hj;refine ⟨g1, _, _, _, by rw [g2]; rfl, k1, _, _, _, by rw [k2]; rfl, ?_⟩;refine (zck _ _ _ _ _ _ (hA _ (qg hi))).mono ?_;rintro _ rfl;refine ⟨_, rfl, aC (fun hx => ?_) (fun hx => ?_)⟩
   ·simp only [qr, cY] at hx;have hne : cG A ≠ cG B := fun e => hx (by rw [<- znl hi, <- znl hj, e]);simp [hne]
   ·simp only [qr, cY, qi] at hx;exact ⟨rfl, ⟨i + 1, rfl, by omega, zzu hi hj he hx⟩, by first | omega | (dsimp only; omega)⟩
  ·simp only [aB] at h;rw [qh (by rw [jH]; omega), qh (by rw [jH]; omega)] at he;simp [he]
theorem zzw (n f : Bool) (l : List Int) (rl : R32 l) (n0 f0 : Bool) (T : TxG) (hT : ∀ q ∈ T, R32 q.2.2) : PCall qa 5 [.sl n f (aA l), .sl n0 f0 (T.map clT)] fun v => v = .bool true := by
 refine zyb _ _ _ _ _ _
  (fun _ _ s5 x6 _ _ s9 x13 _ _ s0 _ s1 _ s2 => ∃ (i : Nat) (A B : List PtF) (W V : TxG), x13 = i /\ i <= 8 /\ s5 = bB tab /\ dV tab x6 /\ s9 = B.map pT /\ s0 = A.map pT /\ A.map pE = B.map pE /\ iD (A.map pE) /\ PtOK 15360 A /\ PtOK 15360 B /\ A.length <= 1000 /\ B.length <= 1000 /\ s1 = W.map clT /\ s2 = V.map clT /\ W.length = i /\ (∀ q ∈ W, R32 q.2.2 /\ q.2.2.length <= 12) /\ cG V = (cG W).filter (eJ (A.map pE)))
  (fun _ _ _ _ _ _ _ x13 _ _ _ _ _ _ _ => 8 - x13.toNat) ?_
 unfold zmz;refine (sD n f l 20 (by omega)).mono ?_;rintro _ ⟨n1, f1, rfl⟩;have la := sH l 20;have ra := rl.take 20;generalize l.take 20 = L at *;refine ⟨_, _, _, rfl, p42.mono ?_⟩;rintro _ ⟨n3, f3, rfl⟩;refine ⟨_, _, _, rfl, (vV n3 f3).mono fun t ht => ?_⟩;refine (sV ht n1 f1 L ra (by omega)).mono fun x hx => ?_;obtain ⟨A0, e0, n4, f4, hx0⟩ := zdv hx;have key := zdt nV j9 mM jG sT n3 f3 n1 f1 nT L ra (by omega);have two := fun y hy => zdu (y := y) hx hy;subst hx0;refine ⟨_, rfl, rfl, _, rfl, _, rfl, rfl, _, _, _, rfl, _, rfl, _, rfl, key.mono fun y hy => ?_⟩;obtain ⟨e, A, B, n5, f5, n6, f6, hxe, rfl, hE, hN, hK, hA, hB, hAl, hBl⟩ := two y hy;injection hxe with hxe;simp only [List.cons.injEq, PV.agg.injEq, PV.sl.injEq, PV.int.injEq, and_true, true_and] at hxe;obtain ⟨⟨rfl, rfl, hm⟩, rfl⟩ := hxe;rw [hm];refine ⟨_, rfl, rfl, _, rfl, _, _, _, rfl, _, rfl, _, rfl, aC (fun h => bA (by simp) sW) (fun h => ?_)⟩;refine ⟨⟨rfl, 0, A, B, [], [], rfl, by omega, rfl, ht, rfl, rfl, hE, hK, (fun q hq => by have := hA q hq; omega), (fun q hq => by have := hB q hq; omega), hAl, hBl, rfl, rfl, rfl, (fun q hq => by cases hq), rfl⟩, ?_⟩;clear h two hx hy key hm hE hN hK hA hB hAl hBl A B ht t;rintro n7 f7 _ t n8 f8 _ _ n9 f9 _ n10 _ n11 _ ⟨i, A, B, W, V, rfl, i1, rfl, ht, rfl, rfl, hE, hK, hA, hB, hAl, hBl, rfl, rfl, hWi, hW, hV⟩
 have hVl : V.length <= W.length := by
  have h1 := congrArg qq hV;have h2 := qbd (eJ (A.map pE)) (cG W);rw [jH] at h1 h2; omega
 rw [qf, gK (by omega), show ((T.map clT).length : Int) = T.length by rw [qb]];refine aC (fun hc => ?_) (fun hc => ?_)
 ·simp only [qc, aB] at hc;have hi : i < T.length := by omega
  obtain ⟨g1, g2⟩ := nY hi;have wr := (hT _ (qg hi)).take 12;have wl := sH T[i].2.2 12;refine ⟨g1, T[i].1, T[i].2.1, aA T[i].2.2, by rw [g2]; rfl, (sD _ _ _ 12 (by omega)).mono ?_⟩;rintro _ ⟨n12, f12, rfl⟩;generalize T[i].2.2.take 12 = w at *;refine ⟨n12, f12, _, rfl, ⟨zdw (n12, f12, w), by rw [qb]; omega⟩, ?_⟩;refine (znj nV j9 mM jG sT n7 f7 _ _ n12 f12 nT B (fun q hq => by have := hB q hq; omega) (by omega) (by rw [<- hE]; exact hK) w wr (by omega)).mono ?_;rintro _ rfl
  have hW2 : ∀ q ∈ W ++ [(n12, f12, w)], R32 q.2.2 /\ q.2.2.length <= 12 := fun q hq => by
   rcases List.mem_append.1 hq with hq | hq
   ·exact hW q hq
   ·rw [List.mem_singleton.1 hq]; exact ⟨wr, wl⟩
  have hfil : (cG (W ++ [(n12, f12, w)])).filter (eJ (A.map pE)) = if eJ (A.map pE) w = true then cG V ++ [w] else cG V := by
   rw [zdx, qbk, hV];by_cases h : eJ (A.map pE) w = true
   ·rw [if_pos h]; simp [h]
   ·rw [if_neg h]; simp [h]
  refine ⟨_, rfl, aC (fun h => ?_) (fun h => ?_)⟩
  ·rw [<- hE] at h;rw [if_pos (show eJ (A.map pE) w = true from h)] at hfil;exact ⟨⟨zdw (n12, f12, w), by rw [qb]; omega⟩, rfl, ⟨i + 1, A, B, W ++ [(n12, f12, w)], V ++ [(n12, f12, w)], rfl, by omega, rfl, ht, rfl, rfl, hE, hK, hA, hB, hAl, hBl, wN W (n12, f12, w), wN V (n12, f12, w), by rw [qd, qe]; omega, hW2, by rw [hfil, zdx]⟩, by first | omega | (dsimp only; omega)⟩
  ·rw [<- hE] at h;rw [if_neg (show ¬eJ (A.map pE) w = true from h)] at hfil;exact ⟨rfl, ⟨i + 1, A, B, W ++ [(n12, f12, w)], V, rfl, by omega, rfl, ht, rfl, rfl, hE, hK, hA, hB, hAl, hBl, wN W (n12, f12, w), rfl, by rw [qd, qe]; omega, hW2, hfil.symm⟩, by first | omega | (dsimp only; omega)⟩
 ·refine (zzt ht n9 f9 n10 false A hA (by omega) hAl W hW (by omega)).mono ?_;rintro _ ⟨n12, C, rfl, hC⟩
  have hCl : C.length <= 8 := by
   have h1 := congrArg qq hC;have h2 := qbd (eJ (A.map pE)) (cG W);rw [jH] at h1 h2; omega
  have hC2 : ∀ q ∈ C, q.2.2.length < 1000000000000 := fun q hq => by
   have h1 : q.2.2 ∈ (cG W).filter (eJ (A.map pE)) := by rw [<- hC]; exact List.mem_map.2 ⟨q, hq, rfl⟩
   obtain ⟨a, ha, hae⟩ := List.mem_map.1 (List.mem_filter.1 h1).1;have := (hW a ha).2;rw [<- hae]; omega
  refine ⟨_, _, _, rfl, (zzv _ _ _ _ C V hC2 (by omega)).mono ?_⟩;rintro _ rfl;exact ⟨_, rfl, rfl, bA (by rw [hC, hV]; simp) sW⟩
theorem wLg : Tryz.prog.underlying 47 = some (.slice 22) := by kernel_rfl
theorem zzx {v : PV} (h : nB qa 8 47 v) : ∃ (nl : Bool) (ls : TxG), v = .sl nl false (ls.map clT) /\ ∀ q ∈ ls, R32 q.2.2 := by
 obtain ⟨nl, es, e, _, _, h3⟩ := zgp wLg (zgr (by kernel_rfl) h);cases e
 obtain ⟨m, rfl, hm⟩ := zA (f := clT) (Q := fun q => R32 q.2.2) (l := es) fun x hx => by
  obtain ⟨nl, l, e, _, _, hr⟩ := zgq v22 v21 (h3 x hx);exact ⟨(nl, false, l), e, hr⟩
 exact ⟨nl, m, rfl, hm⟩
theorem lawGlobParses {pvs : List PV} (h : lB qa 8 Tryz.f4.params.toList pvs) : PCall qa 4 pvs fun v => v = .bool true := by
 obtain ⟨v0, r0, rfl, h0, rfl⟩ : lB qa 8 [22] pvs := h;obtain ⟨nl, l, rfl, hr⟩ := vZ h0;exact zzp _ _ l hr
theorem lawGlobFits {pvs : List PV} (h : lB qa 8 Tryz.f3.params.toList pvs) : PCall qa 3 pvs fun v => v = .bool true := by
 obtain ⟨v0, r0, rfl, h0, v1, r1, rfl, h1, rfl⟩ : lB qa 8 [22, 22] pvs := h;obtain ⟨nl, l, rfl, hr⟩ := vZ h0;obtain ⟨nl1, l1, rfl, hr1⟩ := vZ h1;exact zzq _ _ l hr _ _ l1 hr1
theorem lawGlobChooses {pvs : List PV} (h : lB qa 8 Tryz.f5.params.toList pvs) : PCall qa 5 pvs fun v => v = .bool true := by
 obtain ⟨v0, r0, rfl, h0, v1, r1, rfl, h1, rfl⟩ : lB qa 8 [22, 47] pvs := h;obtain ⟨nl, l, rfl, hr⟩ := vZ h0;obtain ⟨nl1, ls, rfl, hr1⟩ := zzx h1;exact zzw _ _ l hr _ _ ls hr1
end Go.Eng
