/- States run over the code: what each function gives, and what follows. -/
import Derived.Test.YtecabgpfnlkhfaaGreatCw8Tb
open Go.IntKind (i64 i32)
open Go.Proofs.Tryz renaming prog → qa
open Bool renaming and_eq_true → qb, not_eq_true' → qi, or_eq_true → qk, and_eq_false_iff → qx, or_eq_false_iff → qab, true_and → qac, false_and → qag, false_or → qai, and_false → qas, not_true → qav, and_comm → qbm, or_assoc → qbn, not_not → qbs, not_eq_false → qbu, not_false → qbz, or_false → qcc, and_true → qcd
open List renaming length_map → qc, length_cons → qd, length_take → qe, drop → qf, take_of_length_le → qh, length_append → ql, map_append → qn, take → qo, getElem_mem → qp, mem_cons_self → qr, getD_eq_getElem?_getD → qt, mem_of_mem_take → qu, eq_nil_of_length_eq_zero → qv, length_singleton → qw, mem_cons_of_mem → qy, getElem?_eq_getElem → qaa, nil_prefix → qad, getElem?_append_left → qaf, flatMap_append → qah, append_assoc → qaj, take_append_drop → qak, getD → qal, dropLast_concat → qam, getLast?_concat → qan, length_nil → qap, append_nil → qaq, mem_singleton → qar, flatten_cons → qat, flatMap_singleton → qau, length_drop → qaw, dropLast_append_of_ne_nil → qay, flatten_append → qaz, foldl_append → qbb, drop_eq_getElem_cons → qbc, getElem_append_right → qbd, getLast?_eq_getElem? → qbe, cons_append → qbf, take_prefix → qbg, nil_append → qbh, length → qbi, drop_eq_nil_of_le → qbj, getElem_cons_zero → qbk, mem_of_mem_drop → qbl, take_succ_cons → qbo, contains_cons → qbq, getElem?_take → qbr, contains_nil → qbt, prefix_refl → qbw, sum_append → qbx, take_take → qby, take_zero → qca, map_cons → qcb, map_take → qcf, map → qcg
open Int renaming toNat_natCast → qg, le_refl → qq, tmod_eq_emod_of_nonneg → qao
open Nat renaming le_refl → qj, zero_add → qz, eq_of_beq_eq_true → qax, le_trans → qbp
open Decidable renaming not_not → qm, byContradiction → qae
open Option renaming toList → qba, getD_some → qbv, isSome → qce
set_option linter.unusedVariables false
set_option linter.unusedSimpArgs false
set_option maxRecDepth 100000
set_option linter.constructorNameAsVariable false
namespace Go.Eng
open Go Go.Proofs Go.Eng.Rows Go.Eng.Trie Go.Eng.Srt
section
variable {rows : List Row}
theorem set1 {es : List (List PV)} {k : Nat} {v x : PV} (h : es.getD k [] = [x]) : es.set k (v :: zq (qf 1 (es.getD k []))) = es.set k [v] := by rw [h]; rfl
theorem zcj (A : List Int) (x : Int) (B : List Int) : (aA (A ++ x :: B)).getD A.length [] = [.int .i32 x] := by
 rw [zg3 (by simp)]; simp
theorem zck (A : List Int) (x : Int) (B : List Int) : (bC (A ++ x :: B)).getD A.length [] = [.int .i64 x] := by
 simp [bC]
theorem zxc (hk : eU rows) (n f n2 f2 : Bool) (L : List Int) (hrl : rows.length < 1000000) (hL : L.length < 1000000000) (hr : R32 L) :
 PCall qa 66 [.sl n f (bA rows), .sl n2 f2 (aA L)] fun v => ∃ n f, v = .sl n f (aA (cR (aF rows 1) L)) := by
 have olen : ∀ l, (cR (aF rows 1) l).length = l.length := fun l => ((vH (key := aF rows 1) hk l).len).symm
 refine zwu _ _ _ _ _ _
  (fun i _ s0 _ s1 => 0 <= i /\ i <= L.length /\ s0 = aA (cR (aF rows 1) (L.take i.toNat)) /\ s1 = bC ((cR (aF rows 1) (L.take i.toNat)).map (aF rows 1))) (fun i _ _ _ _ => L.length - i.toNat)
  (fun i0 _ _ _ _ _ _ i c k _ s0 _ s1 => i = i0 /\ 0 <= i /\ i.toNat < L.length /\ ∃ x A B, L[i.toNat]? = some x /\ c = aF rows 1 x /\ k = (A.length : Nat) /\ cR (aF rows 1) (L.take i.toNat) = A ++ B /\ (∀ y ∈ B, fG (aF rows 1) x y = true) /\ s0 = aA (A ++ x :: B) /\ s1 = bC ((A ++ x :: B).map (aF rows 1))) (fun _ _ k _ _ _ _ => k.toNat) ?_
 unfold zk4;refine ⟨⟨rfl, qq _, by omega, by simp [cR, aA], by simp [cR, bC]⟩, ?_⟩;rintro i n0 _ n1 _ ⟨i0, i1, rfl, rfl⟩;refine aC (fun hc => ?_) (fun hc => ?_)
 ·simp only [aB, bF] at hc;have hi : i.toNat < L.length := by omega
  obtain ⟨g1, g2⟩ := gO i0 hi;have hx := hr _ (qp hi);have hw : i64.wrap (i + 1) = i + 1 := aG (by omega) (by omega);have hol := olen (L.take i.toNat);rw [qe] at hol;refine ⟨g1, L[i.toNat], by rw [g2]; rfl, ?_⟩;refine (u9 n f _ hrl hx).mono ?_;rintro _ rfl;refine ⟨_, rfl, g1, L[i.toNat], by rw [g2]; rfl, ⟨dJ [_], by rw [bF]; omega⟩, ⟨iA (enc := fun n => [PV.int .i64 n]) (fun _ => rfl) [_], by rw [j7, qc]; omega⟩, ⟨rfl, ?_⟩, ?_⟩
  ·refine ⟨rfl, i0, hi, L[i.toNat], cR (aF rows 1) (L.take i.toNat), [], qaa hi, rfl, by simp, by simp, fun y hy => (by cases hy), by simp [aA], by simp [bC]⟩
  ·rintro i' c k n01 _ n11 _ ⟨rfl, _, _, x, A, B, hxi, rfl, rfl, hord, hB, rfl, rfl⟩;have hwi : i64.wrap (i' + 1) = i' + 1 := aG (by omega) (by omega);have hAB : A.length + B.length = min i'.toNat L.length := by rw [<- hol, hord, ql]
   have hxe : L[i'.toNat] = x := (List.getElem?_eq_some_iff.1 hxi).2
   -- the end of the walk back
   have done : (A = [] ∨ ∃ A' z, A = A' ++ [z] /\ fG (aF rows 1) x z = false) -> 0 <= i' + 1 /\ i' + 1 <= L.length /\ aA (A ++ x :: B) = aA (cR (aF rows 1) (L.take (i' + 1).toNat)) /\ bC ((A ++ x :: B).map (aF rows 1)) = bC ((cR (aF rows 1) (L.take (i' + 1).toNat)).map (aF rows 1)) := fun h => by
    have : cR (aF rows 1) (L.take (i' + 1).toNat) = A ++ x :: B := by
     rw [show (i' + 1).toNat = i'.toNat + 1 by omega, cJ hi, vG, hord, hxe, mN hB h]
    rw [this];exact ⟨by omega, by omega, rfl, rfl⟩
   have hmu : L.length - (i' + 1).toNat < L.length - i'.toNat := by omega
   refine aC (fun h1 => ?_) (fun h1 => ?_)
   ·simp only [qb, aB, bne_iff_ne, ne_eq] at h1
    obtain ⟨A', z, rfl⟩ : ∃ A' z, A = A' ++ [z] := by
     rcases A.eq_nil_or_concat with rfl | ⟨D, z, rfl⟩
     ·simp at h1
     ·exact ⟨D, z, by simp⟩
    have lA : (A' ++ [z]).length = A'.length + 1 := by simp
    rw [lA] at hAB;have hwk : i64.wrap ((((A' ++ [z]).length : Nat) : Int) - 1) = (A'.length : Nat) := by rw [lA, aG (by omega) (by omega)]; omega
    have e0 : (A' ++ [z]) ++ x :: B = A' ++ z :: (x :: B) := by simp
    rw [hwk, e0];simp only [qn, qcb, qg];rw [lA];generalize hk2 : aF rows 1 = key at *;have i1 : aH (aA (A' ++ z :: x :: B)) ((A'.length : Nat) : Int) 1 := bQ (enc := fun n => [PV.int .i32 n]) (fun _ => rfl) (by omega) (by simp; omega);have i2 : aH (aA (A' ++ z :: x :: B)) ((A'.length + 1 : Nat) : Int) 1 := bQ (enc := fun n => [PV.int .i32 n]) (fun _ => rfl) (by omega) (by simp; omega);have j1 : aH (bC (A'.map key ++ key z :: key x :: B.map key)) ((A'.length : Nat) : Int) 1 := bQ nO (by omega) (by simp; omega);have j2 : aH (bC (A'.map key ++ key z :: key x :: B.map key)) ((A'.length + 1 : Nat) : Int) 1 := bQ nO (by omega) (by simp; omega);have i3 : aH (aA (A' ++ z :: z :: B)) ((A'.length : Nat) : Int) 1 := bQ (enc := fun n => [PV.int .i32 n]) (fun _ => rfl) (by omega) (by simp; omega);have j3 : aH (bC (A'.map key ++ key z :: key z :: B.map key)) ((A'.length : Nat) : Int) 1 := bQ nO (by omega) (by simp; omega);have gz := zcj A' z (x :: B);have gx : (aA (A' ++ z :: x :: B)).getD (A'.length + 1) [] = [.int .i32 x] := by have := zcj (A' ++ [z]) x B; simpa using this
    have hz : (bC (A'.map key ++ key z :: key x :: B.map key)).getD A'.length [] = [.int .i64 (key z)] := by have := zck (A'.map key) (key z) (key x :: B.map key); simpa using this
    have hx2 : (bC (A'.map key ++ key z :: key x :: B.map key)).getD (A'.length + 1) [] = [.int .i64 (key x)] := by have := zck (A'.map key ++ [key z]) (key x) (B.map key); simpa using this
    have gz2 := zcj A' z (z :: B);have hz2 : (bC (A'.map key ++ key z :: key z :: B.map key)).getD A'.length [] = [.int .i64 (key z)] := by have := zck (A'.map key) (key z) (key z :: B.map key); simpa using this
    have s1 : (aA (A' ++ z :: x :: B)).set (A'.length + 1) [.int .i32 z] = aA (A' ++ z :: z :: B) := by
     have := rT (A' ++ [z]) B x z;have e : (aA (A' ++ z :: x :: B)).set (A'.length + 1) [.int .i32 z] = aA ((A' ++ z :: x :: B).set (A'.length + 1) z) := by simp [aA, List.map_set]
     rw [e]; simp at this ⊢
    have s2 : (aA (A' ++ z :: z :: B)).set A'.length [.int .i32 x] = aA (A' ++ x :: z :: B) := by simp [aA]
    have t1 : (bC (A'.map key ++ key z :: key x :: B.map key)).set (A'.length + 1) [.int .i64 (key z)] = bC (A'.map key ++ key z :: key z :: B.map key) := by simp [bC]
    have t2 : (bC (A'.map key ++ key z :: key z :: B.map key)).set A'.length [.int .i64 (key x)] = bC (A'.map key ++ key x :: key z :: B.map key) := by simp [bC]
    refine ⟨j1, key z, by rw [hz]; rfl, aC (fun h2 => ?_) (fun h2 => ?_)⟩
    ·simp only [aB] at h2;refine ⟨i1, z, by rw [gz]; rfl, i2, ⟨trivial, by rw [gx]; exact qj _⟩, j1, key z, by rw [hz]; rfl, j2, ⟨trivial, by rw [hx2]; exact qj _⟩, g1, x, by rw [g2, hxe]; rfl, ?_⟩;rw [set1 gx, set1 hx2, s1, t1, set1 gz2, set1 hz2, s2, t2];refine ⟨i3, ⟨trivial, by rw [gz2]; exact qj _⟩, j3, ⟨trivial, by rw [hz2]; exact qj _⟩, rfl, ⟨trivial, i0, hi, x, A', z :: B, hxi, rfl, rfl, by rw [hord]; simp, fun y hy => ?_, rfl, by simp⟩, by simp⟩;rcases List.mem_cons.1 hy with rfl | hy
     ·exact nV.2 ⟨h1.2, h2⟩
     ·exact hB y hy
    ·simp only [aB] at h2;rw [hwi];obtain ⟨d1, d2, d3, d4⟩ := done (.inr ⟨A', z, rfl, rX.2 (.inr (by omega))⟩);refine ⟨rfl, ⟨d1, d2, ?_, ?_⟩, hmu⟩
     ·rw [<- d3, e0]
     ·rw [<- d4]; simp
   ·have hA : A = [] ∨ aF rows 1 x = 0 := by
     simp only [qb, aB, bne_iff_ne, ne_eq, not_and, qm] at h1;by_cases hA : A = []
     ·exact .inl hA
     ·exact .inr (h1 (by have := List.length_pos_iff.2 hA; omega))
    rw [hwi];refine ⟨rfl, done ?_, hmu⟩;rcases hA with h | h
    ·exact .inl h
    ·rcases A.eq_nil_or_concat with rfl | ⟨D, z, rfl⟩
     ·exact .inl rfl
     ·exact .inr ⟨D, z, by simp, rX.2 (.inl h)⟩
 ·simp only [aB, bF] at hc;rw [qh (by omega)];exact ⟨_, _, rfl⟩
end
theorem zll : tab.length < 1000000 := by have := zt2; omega
theorem vP (n f : Bool) : PCall qa 14 [.sl n f (bA tab)] (c8 tab) := zvs n f tab zll zce
theorem R32.take {l : List Int} (h : R32 l) (k : Nat) : R32 (l.take k) := fun x hx => h x (qu hx)
section
variable {rows : List Row} {v : PV}
theorem zxd {ts : List PV} {key : Int -> Int} (hT : ∀ r : Int, (-2147483648 <= r /\ r <= 2147483647) -> PCall qa 93 [.ptr ts, .int .i32 r] fun v => v = .int .i64 (key r)) : j9 (.ptr ts) key := by
 intro a b ha hb;refine zsa _ _ _ ?_; unfold zhk;refine .inl ⟨ts, rfl, .inl ⟨ts, rfl, ?_⟩⟩;refine (hT a ha).mono ?_;rintro _ rfl;refine ⟨_, rfl, ?_⟩;refine (hT b hb).mono ?_;rintro _ rfl;refine ⟨_, rfl, ?_⟩;refine (p61 _ _).mono ?_;rintro _ rfl;refine ⟨_, rfl, _, rfl, ?_⟩;unfold cmpS; split <;> (try split) <;> omega
theorem zxe (hk : eU rows) (hv : c8 rows v) (n f : Bool) (L : List Int) (hr : R32 L) (hL : L.length < 1000000000000) : PCall qa 123 [v, .sl n f (aA L)] fun x => ∃ n f, x = .sl n f (aA (cR (aF rows 1) L)) := by
 obtain ⟨tc, tg, tj, tf, tp, made, sec, rfl, ht, hm⟩ := hv;have hT : ∀ r : Int, (-2147483648 <= r /\ r <= 2147483647) -> PCall qa 93 [.ptr [tc, tg, tj, tf, tp, .mp (dO made), .mp (fF sec)], .int .i32 r] fun v => v = .int .i64 (aF rows 1 r) := fun r hr => uY _ _ ht hr;exact PCall.ofA (args := [_, _]) (zwr hk hT (zxd hT) L hr hL) fun r h' ⟨hr, hh⟩ => by subst hr; subst hh; exact ⟨_, rfl, _, _, rfl⟩
theorem zlm (hp : dI rows) {l : List Int} (h : R32 l) : R32 (l.flatMap (aV rows 8)) := fun x hx => by
 obtain ⟨r, hr, h2⟩ := List.mem_flatMap.1 hx;rcases u7 hp 8 r x h2 with rfl | h3
 ·exact h x hr
 ·omega
theorem vQ (rows : List Row) (l : List Int) : (l.flatMap (aV rows 8)).length <= 768 * l.length := by
 induction l with
 | nil => simp
 | cons x l ih =>
   have := mK rows 8 x;rw [List.flatMap_cons, ql, qd]; omega
theorem zln (rows : List Row) {l : List Int} {i : Nat} (hi : i < l.length) : (l.take (i + 1)).flatMap (aV rows 8) = (l.take i).flatMap (aV rows 8) ++ aV rows 8 l[i] := by
 rw [cJ hi, qah]; simp
theorem zxf (hp : dI rows) (hk : eU rows) (hv : c8 rows v) (n f : Bool) (L : List Int) (hr : R32 L) (hL : L.length < 1000000) : PCall qa 96 [v, .sl n f (aA L)] fun x => ∃ n f, x = .sl n f (aA (eV rows L)) := by
 have hv' := hv;obtain ⟨tc, tg, tj, tf, tp, made, sec, rfl, ht, hm⟩ := hv;refine zwv _ _ _ _ _ _ _ _ _ _ (fun i h0 _ s => h0 = .ptr [tc, tg, tj, tf, tp, .mp (dO made), .mp (fF sec)] /\ 0 <= i /\ i <= L.length /\ s = aA ((L.take i.toNat).flatMap (aV rows 8))) (fun i _ _ _ => L.length - i.toNat) ?_;unfold zk5;refine ⟨rfl, ⟨rfl, rfl, qq _, by omega, rfl⟩, ?_⟩;rintro i h0 n1 _ ⟨rfl, i0, i1, rfl⟩;refine aC (fun hc => ?_) (fun hc => ?_)
 ·simp only [aB, bF] at hc;have hi : i.toNat < L.length := by omega
  obtain ⟨g1, g2⟩ := gO i0 hi;have hx := hr _ (qp hi);have hw : i64.wrap (i + 1) = i + 1 := aG (by omega) (by omega);have hfl := vQ rows (L.take i.toNat);rw [qe] at hfl;refine ⟨g1, L[i.toNat], by rw [g2]; rfl, ?_⟩;refine (zvy _ _ hp ht 8 _ n1 _ (by omega) hx (by omega)).mono ?_;rintro r h' ⟨nl, rfl, rfl⟩;rw [hw];exact ⟨(nl, _), ⟨rfl, rfl⟩, ⟨trivial, trivial, trivial⟩, rfl, ⟨rfl, by omega, by omega, by rw [show (i + 1).toNat = i.toNat + 1 by omega, zln rows hi]; rfl⟩, by dsimp only; omega⟩
 ·simp only [aB, bF] at hc;rw [qh (by omega)];have hfl := vQ rows L;refine (zxe hk hv' n1 false _ (zlm hp hr) (by omega)).mono ?_;rintro _ ⟨n2, f2, rfl⟩;exact ⟨_, _, _, rfl, _, _, rfl⟩
theorem zxg (hp : dI rows) (hk : eU rows) (n f n2 f2 : Bool) (hrl : rows.length < 1000000) (L : List Int) (hr : R32 L) (hL : L.length < 1000000) : PCall qa 20 [.sl n f (bA rows), .sl n2 f2 (aA L)] fun x => ∃ n f, x = .sl n f (aA (eV rows L)) := by
 refine zww _ _ _ _ _ _ (fun i _ s => 0 <= i /\ i <= L.length /\ s = aA ((L.take i.toNat).flatMap (aV rows 8))) (fun i _ _ => L.length - i.toNat) ?_;unfold zk6;refine ⟨⟨rfl, qq _, by omega, rfl⟩, ?_⟩;rintro i n1 _ ⟨i0, i1, rfl⟩;refine aC (fun hc => ?_) (fun hc => ?_)
 ·simp only [aB, bF] at hc;have hi : i.toNat < L.length := by omega
  obtain ⟨g1, g2⟩ := gO i0 hi;have hx := hr _ (qp hi);have hw : i64.wrap (i + 1) = i + 1 := aG (by omega) (by omega);have hfl := vQ rows (L.take i.toNat);rw [qe] at hfl;have hf1 := mK rows 8 L[i.toNat]
  have he : aA ((L.take i.toNat).flatMap (aV rows 8)) ++ aA (aV rows 8 L[i.toNat]) = aA ((L.take (i + 1).toNat).flatMap (aV rows 8)) := by
   rw [show (i + 1).toNat = i.toNat + 1 by omega, zln rows hi, iI]
  refine ⟨g1, L[i.toNat], by rw [g2]; rfl, ?_⟩;rw [hw];refine (zvw hp n f hrl 8 _ (by omega) hx).mono ?_;rintro r h' (⟨nl, rfl, rfl⟩ | ⟨rfl, rfl⟩)
  ·exact .inl ⟨(nl, _), ⟨rfl, rfl⟩, trivial, ⟨dJ _, by simp only [bF, qc]; omega⟩, rfl, ⟨by omega, by omega, he⟩, by dsimp only; omega⟩
  ·exact .inr ⟨_, ⟨rfl, rfl⟩, trivial, ⟨dJ _, by rw [bF, bF]; omega⟩, rfl, ⟨by omega, by omega, he⟩, by dsimp only; omega⟩
 ·simp only [aB, bF] at hc;rw [qh (by omega)];have hfl := vQ rows L;refine (zxc hk n f n1 false _ hrl (by omega) (zlm hp hr)).mono ?_;rintro _ ⟨n2, f2, rfl⟩;exact ⟨_, _, _, rfl, _, _, rfl⟩
theorem zlo (hk : eU rows) {l : List Int} (h : l.length < 1000000) : (eV rows l).length < 1000000000000 := by
 have := zld hk l; omega
end
end Go.Eng
namespace Go.Eng.Rows
open Go Go.Eng Go.Eng.Trie Go.Eng.Srt
def eQ (a b : Int) : Option Int :=
 if (4352 <= a /\ a < 4371) /\ 4449 <= b /\ b < 4470 then some (44032 + ((a - 4352) * 21 + (b - 4449)) * 28)
 else if (bV a = true /\ (a - 44032) % 28 = 0) /\ 4519 < b /\ b < 4547 then some (a + (b - 4519)) else none
def eE (rows : List Row) (a b : Int) (x : Row) : Bool := decide (x.kind = 2) && (decide (x.a = a) && (decide (x.b = b) && (!decide (b = 0) && !eC rows x.fr)))
def cmpS (rows : List Row) (a b : Int) (o : Option Int) (x : Row) : Option Int :=
 if eE rows a b x then (match o with | none => some x.fr | some r => if x.fr < r then some x.fr else some r) else o
def mO (rows : List Row) (a b : Int) : Option Int := rows.foldl (cmpS rows a b) none
def fH (rows : List Row) (a b : Int) : Option Int := match eQ a b with | some r => some r | none => mO rows a b
theorem zlp (rows : List Row) (a b : Int) (l : List Row) : match l.foldl (cmpS rows a b) none with
 | none => ∀ x ∈ l, eE rows a b x = false
 | some r => (∃ x ∈ l, eE rows a b x = true /\ x.fr = r) /\ ∀ x ∈ l, eE rows a b x = true -> r <= x.fr := by
 have : ∀ (m : List Row), match m.reverse.foldl (cmpS rows a b) none with
  | none => ∀ x ∈ m, eE rows a b x = false
  | some r => (∃ x ∈ m, eE rows a b x = true /\ x.fr = r) /\ ∀ x ∈ m, eE rows a b x = true -> r <= x.fr := by
  intro m
  induction m with
  | nil => intro x hx; cases hx
  | cons y m ih =>
    rw [List.reverse_cons, qbb, List.foldl_cons, List.foldl_nil];generalize m.reverse.foldl (cmpS rows a b) none = o at ih;unfold cmpS;cases hc : eE rows a b y with
    | false =>
      simp only [Bool.false_eq_true, if_false];cases o with
      | none => intro x hx; rcases List.mem_cons.1 hx with rfl | hx; exact hc; exact ih x hx
      | some r =>
        obtain ⟨⟨x, h1, h2⟩, h3⟩ := ih;exact ⟨⟨x, qy _ h1, h2⟩, fun z hz hz2 => by rcases List.mem_cons.1 hz with rfl | hz; rw [hc] at hz2; cases hz2; exact h3 z hz hz2⟩
    | true =>
      simp only [if_true];cases o with
      | none =>
        refine ⟨⟨y, qr, hc, rfl⟩, fun z hz hz2 => ?_⟩;rcases List.mem_cons.1 hz with rfl | hz
        ·exact qq _
        ·have := ih z hz; rw [this] at hz2; cases hz2
      | some r =>
        obtain ⟨⟨x, h1, h2, h4⟩, h3⟩ := ih;by_cases hlt : y.fr < r
        ·simp only [hlt, if_true];refine ⟨⟨y, qr, hc, rfl⟩, fun z hz hz2 => ?_⟩;rcases List.mem_cons.1 hz with rfl | hz
         ·exact qq _
         ·have := h3 z hz hz2; omega
        ·simp only [hlt, if_false];refine ⟨⟨x, qy _ h1, h2, h4⟩, fun z hz hz2 => ?_⟩;rcases List.mem_cons.1 hz with rfl | hz
         ·omega
         ·exact h3 z hz hz2
 have h := this l.reverse;rw [List.reverse_reverse] at h;generalize l.foldl (cmpS rows a b) none = o at h ⊢;cases o with
 | none => intro x hx; exact h x (List.mem_reverse.2 hx)
 | some r => exact ⟨by obtain ⟨⟨x, h1, h2⟩, _⟩ := h; exact ⟨x, List.mem_reverse.1 h1, h2⟩, fun x hx => h.2 x (List.mem_reverse.2 hx)⟩
theorem vR {rows : List Row} (h1 : d9 rows) {x : Row} (hx : x ∈ rows) (hk : x.kind = 2) : aL rows x.fr = (x.a, x.b) /\ 0 <= x.fr /\ x.fr <= 1114111 := by
 obtain ⟨e1, e2, e3⟩ := h1 x hx hk;have hf : bR rows 2 x.fr = some (x.a, x.b) := by unfold bR; rw [if_pos e2]; exact e3
 exact ⟨by unfold aL; rw [hf], e2⟩
theorem zlq {rows : List Row} (h1 : d9 rows) {r : Int} (h : aL rows r ≠ (0, 0)) : ∃ x ∈ rows, x.kind = 2 /\ x.fr = r /\ aL rows r = (x.a, x.b) := by
 cases hf : bR rows 2 r with
 | none => exact absurd (by unfold aL; rw [hf]) h
 | some p =>
   obtain ⟨y, hy, hk, f1, f2⟩ := zk9 hf;obtain ⟨e1, _⟩ := h1 y hy hk;have hr : y.fr = r := by omega
   have := (vR h1 hy hk).1;rw [hr] at this;exact ⟨y, hy, hk, hr, this⟩
theorem zcl {rows : List Row} (h1 : d9 rows) {a b r : Int} (h : mO rows a b = some r) : aL rows r = (a, b) /\ b ≠ 0 /\ eC rows r = false /\ (0 <= r /\ r <= 1114111) /\ ∃ x ∈ rows, x.kind = 2 /\ x.fr = r := by
 have := zlp rows a b rows;unfold mO at h;rw [h] at this;obtain ⟨⟨x, hx, hc, rfl⟩, _⟩ := this;simp only [eE, qb, aB, qi, bS] at hc;obtain ⟨hk, ha, hb, h0, ho⟩ := hc;obtain ⟨hp, hr⟩ := vR h1 hx hk;exact ⟨by rw [hp, ha, hb], h0, ho, hr, x, hx, hk, rfl⟩
theorem zxh {rows : List Row} (hp : dI rows) (h1 : d9 rows) {made : List ((Int × Int) × Int)} {sec : List (Int × Bool)} (hm : MadeOK rows (fun r => 0 <= r /\ r <= 1114111) made sec) (a b : Int) :
 (if b = 0 then none else cE (a, b) made) = mO rows a b := by
 have hc := zlp rows a b rows
 have good : ∀ x ∈ rows, eE rows a b x = true -> b ≠ 0 /\ (0 <= x.fr /\ x.fr <= 1114111) /\ lK rows x.fr /\ aL rows x.fr = (a, b) := fun x hx hc => by
  simp only [eE, qb, aB, qi, bS] at hc;obtain ⟨hk, ha, hb, h0, ho⟩ := hc;obtain ⟨e, hr⟩ := vR h1 hx hk;refine ⟨h0, hr, ⟨?_, ho⟩, by rw [e, ha, hb]⟩;rw [e]; intro q; exact h0 (hb.symm.trans (Prod.mk.inj q).2)
 have back : ∀ r, b ≠ 0 -> lK rows r -> aL rows r = (a, b) -> ∃ x ∈ rows, eE rows a b x = true /\ x.fr = r := fun r h0 hg hpr => by
  obtain ⟨x, hx, hk, hfr, hq⟩ := zlq h1 hg.1;have ho := hg.2;rw [hq] at hpr;cases hpr;refine ⟨x, hx, ?_, hfr⟩;simp only [eE, qb, aB, qi, bS];exact ⟨hk, trivial, trivial, h0, by rw [hfr]; exact ho⟩
 unfold mO;generalize rows.foldl (cmpS rows a b) none = o at hc ⊢;split
 ·rename_i h0;cases o with
  | none => rfl
  | some r => obtain ⟨⟨x, hx, hb, _⟩, _⟩ := hc; exact absurd h0 (good x hx hb).1
 ·rename_i h0;cases hg : cE (a, b) made with
  | none =>
    cases o with
    | none => rfl
    | some r =>
      obtain ⟨⟨x, hx, hb, _⟩, _⟩ := hc;obtain ⟨_, g1, g2, g3⟩ := good x hx hb;exact absurd g3 (hm.m2 _ hg _ g1 g2)
  | some r =>
    obtain ⟨d1, d2, d3, d4⟩ := hm.m1 _ _ hg;obtain ⟨x, hx, hb, hfr⟩ := back r h0 d2 d3;cases o with
    | none => have := hc x hx; rw [this] at hb; cases hb
    | some s =>
      obtain ⟨⟨y, hy, hyb, rfl⟩, hl⟩ := hc;obtain ⟨_, g1, g2, g3⟩ := good y hy hyb;have k1 := hl x hx hb;have k2 := d4 _ g1 g2 g3;rw [hfr] at k1;exact congrArg some (Int.le_antisymm k2 k1)
theorem zcm {a b r : Int} (h : eQ a b = some r) : bV r = true := by
 unfold eQ at h;split at h
 ·rename_i hc; cases h; simp only [bV, qb, aB]; omega
 ·split at h
  ·rename_i hc; cases h; simp only [bV, qb, aB] at hc ⊢; omega
  ·cases h
theorem zxi {rows : List Row} (h1 : d9 rows) {a b r : Int} (h : fH rows a b = some r) : 0 <= r /\ r <= 1114111 := by
 unfold fH at h;split at h
 ·rename_i s hj; cases h; have := zcm hj; simp only [bV, qb, aB] at this; omega
 ·exact (zcl h1 h).2.2.2.1
structure CSt where
 P : List Int
 s : Option Int
 M : List Int
def dQ (key : Int -> Int) (M : List Int) : Int := match M.getLast? with | some m => key m | none => 0
def CSt.out (st : CSt) : List Int := st.P ++ (st.s.toList ++ st.M)
def cU (key : Int -> Int) (st : CSt) (r : Int) : CSt := if key r = 0 then ⟨st.out, some r, []⟩ else ⟨st.P, st.s, st.M ++ [r]⟩
def cN (rows : List Row) (st : CSt) (r : Int) : CSt := match st.s with
 | none => cU (aF rows 1) st r
 | some a => if st.M = [] ∨ dQ (aF rows 1) st.M < aF rows 1 r then (match fH rows a r with
   | some c => ⟨st.P, some c, st.M⟩
   | none => cU (aF rows 1) st r) else cU (aF rows 1) st r
def bN (rows : List Row) (l : List Int) : CSt := l.foldl (cN rows) ⟨[], none, []⟩
def eW (rows : List Row) (l : List Int) : List Int := (bN rows l).out
theorem gQ (rows : List Row) (l : List Int) (r : Int) : bN rows (l ++ [r]) = cN rows (bN rows l) r := by simp [bN]
theorem mP (key : Int -> Int) (st : CSt) (r : Int) : (cU key st r).out = st.out ++ [r] := by
 unfold cU; split <;> simp [CSt.out]
theorem pK (rows : List Row) (st : CSt) (r : Int) : cN rows st r = cU (aF rows 1) st r ∨ ∃ a c, st.s = some a /\ fH rows a r = some c /\ (st.M = [] ∨ dQ (aF rows 1) st.M < aF rows 1 r) /\ cN rows st r = ⟨st.P, some c, st.M⟩ := by
 unfold cN;split
 ·exact .inl rfl
 ·rename_i a ha;split
  ·rename_i hf;cases hc : fH rows a r with
   | none => exact .inl rfl
   | some c => exact .inr ⟨a, c, ha, hc, hf, rfl⟩
  ·exact .inl rfl
theorem zcn (rows : List Row) (l : List Int) : (eW rows l).length <= l.length := by
 unfold eW
 induction l using iJ with
 | h0 => simp [bN, CSt.out]
 | h1 l r ih =>
   rw [gQ, ql, qw];rcases pK rows (bN rows l) r with e | ⟨a, c, hs, _, _, e⟩
   ·rw [e, mP, ql, qw]; omega
   ·rw [e]; simp only [CSt.out, hs, qba, ql, qd] at ih ⊢; omega
theorem zco {rows : List Row} (h1 : d9 rows) (l : List Int) : ∀ x ∈ eW rows l, x ∈ l ∨ (0 <= x /\ x <= 1114111) := by
 unfold eW
 induction l using iJ with
 | h0 => intro x hx; simp [bN, CSt.out] at hx
 | h1 l r ih =>
   rw [gQ];rcases pK rows (bN rows l) r with e | ⟨a, c, hs, hc, _, e⟩
   ·rw [e, mP];intro x hx;rcases List.mem_append.1 hx with hx | hx
    ·exact (ih x hx).imp (fun h => List.mem_append.2 (.inl h)) id
    ·exact .inl (List.mem_append.2 (.inr hx))
   ·rw [e];intro x hx;simp only [CSt.out, qba, List.mem_append, List.mem_cons, List.not_mem_nil, or_false] at hx ih;rcases hx with hx | rfl | hx
    ·exact (ih x (.inl hx)).imp (fun h => List.mem_append.2 (.inl h)) id
    ·exact .inr (zxi h1 hc)
    ·exact (ih x (.inr (.inr hx))).imp (fun h => List.mem_append.2 (.inl h)) id
structure TabC (rows : List Row) : Prop where
 one : d9 rows
 closed : vN rows
 cls : eU rows
 syl : ∀ x ∈ rows, x.kind = 2 -> bV x.fr = false
 deep : ∀ x ∈ rows, x.kind = 2 -> aV rows 7 x.fr = aV rows 8 x.fr
theorem TabC.full7 {rows : List Row} (h : TabC rows) (r : Int) : aV rows 7 r = aV rows 8 r := by
 by_cases hs : bV r = true
 ·rw [j8 hs, j8 hs]
 ·simp only [Bool.not_eq_true] at hs;by_cases h0 : aL rows r = (0, 0)
  ·rw [pI hs h0, pI hs h0]
  ·obtain ⟨x, hx, hk, rfl, _⟩ := zlq h.one h0;exact h.deep x hx hk
theorem TabC.join {rows : List Row} (h : TabC rows) {a b c : Int} (ha : cK rows a = true ∨ bV a = true) (hj : eQ a b = some c) : aV rows 8 c = aV rows 8 a ++ [b] := by
 rw [j8 (zcm hj)];unfold eQ at hj;split at hj
 ·rename_i hc;cases hj
  have hr : cK rows a = true := by
   rcases ha with ha | ha
   ·exact ha
   ·simp only [bV, qb, aB] at ha; omega
  rw [vO hr];unfold eD;rw [if_pos (by omega)];simp only [qbf, qbh, List.cons.injEq, and_true];omega
 ·split at hj
  ·rename_i hc;cases hj;obtain ⟨⟨hs, h0⟩, h1, h2⟩ := hc;rw [j8 hs];simp only [bV, qb, aB] at hs;unfold eD;rw [if_neg (by omega), if_pos h0];simp only [qbf, qbh, List.cons.injEq, and_true];omega
  ·cases hj
theorem TabC.lead {rows : List Row} (h : TabC rows) {a : Int} (ha : 4352 <= a /\ a < 4371) : cK rows a = true := by
 have hx := h.closed (44032 + (a - 4352) * 588) a;refine hx ?_;have hs : bV (44032 + (a - 4352) * 588) = true := by simp only [bV, qb, aB]; omega
 rw [j8 hs];unfold eD;rw [if_pos (by omega), show 4352 + (44032 + (a - 4352) * 588 - 44032) / 588 = a by omega];exact qr
theorem TabC.pair {rows : List Row} (h : TabC rows) {a b c : Int} (hb : cK rows b = true) (hc : fH rows a b = some c) : aV rows 8 c = aV rows 8 a ++ [b] := by
 unfold fH at hc;split at hc
 ·rename_i s hj;cases hc;refine h.join ?_ hj;unfold eQ at hj;split at hj
  ·rename_i hq; exact .inl (h.lead hq.1)
  ·split at hj
   ·rename_i hq; exact .inr hq.1.1
   ·cases hj
 ·obtain ⟨hp, h0, _, _, x, hx, hk, rfl⟩ := zcl h.one hc;have hs := h.syl x hx hk;have hn : aL rows x.fr ≠ (0, 0) := by rw [hp]; intro e; cases e; exact h0 rfl
  rw [show (8 : Nat) = 7 + 1 from rfl];rw [aV, if_neg (by rw [hs]; simp), if_neg hn, hp];simp only;rw [if_neg h0, h.full7, vO hb]
theorem r8 (key : Int -> Int) (M : List Int) (r : Int) : dQ key (M ++ [r]) = key r := by simp [dQ]
structure InvC (rows : List Row) (st : CSt) (p : List Int) : Prop where
 e : Eqv (aF rows 1) (st.out.flatMap (aV rows 8)) p
 m : ∀ m ∈ st.M, aF rows 1 m ≠ 0 /\ cK rows m = true /\ aF rows 1 m <= dQ (aF rows 1) st.M
 q : st.M ≠ [] -> ∃ p' q, p = p' ++ [q] /\ dQ (aF rows 1) st.M <= aF rows 1 q
theorem InvC.app {rows : List Row} {st : CSt} {p : List Int} (h : InvC rows st p) {r : Int} (hr : cK rows r = true) (hc : cS (aF rows 1) (p ++ [r])) : InvC rows (cU (aF rows 1) st r) (p ++ [r]) := by
 have he : Eqv (aF rows 1) ((cU (aF rows 1) st r).out.flatMap (aV rows 8)) (p ++ [r]) := by
  rw [mP, qah, qau, vO hr];simpa using h.e.app [] [r]
 refine ⟨he, ?_, ?_⟩
 ·unfold cU;split
  ·intro m hm; cases hm
  ·rename_i h0;intro m hm;simp only at hm ⊢;rw [r8];rcases List.mem_append.1 hm with hm | hm
   ·obtain ⟨k1, k2, k3⟩ := h.m m hm;refine ⟨k1, k2, ?_⟩;obtain ⟨p', q, rfl, hq⟩ := h.q (List.ne_nil_of_mem hm);have := (lN.1 hc).2.2 q r (by simp) rfl h0;omega
   ·rw [qar] at hm; subst hm; exact ⟨h0, hr, qq _⟩
 ·unfold cU;split
  ·intro hn; exact absurd rfl hn
  ·intro _; exact ⟨p, r, rfl, by simp only; rw [r8]; exact qq _⟩
theorem InvC.step {rows : List Row} (ht : TabC rows) {st : CSt} {p : List Int} (h : InvC rows st p) {r : Int} (hr : cK rows r = true) (hc : cS (aF rows 1) (p ++ [r])) : InvC rows (cN rows st r) (p ++ [r]) := by
 rcases pK rows st r with e | ⟨a, c, hs, hpc, hf, e⟩
 ·rw [e]; exact h.app hr hc
 ·rw [e];have hM : st.M.flatMap (aV rows 8) = st.M := zla fun m hm => (h.m m hm).2.1;have he := h.e;simp only [CSt.out, hs, qba, qah, qau, hM] at he;have hlt : st.M ≠ [] -> dQ (aF rows 1) st.M < aF rows 1 r := fun hn => hf.elim (fun e => absurd e hn) id;refine ⟨?_, h.m, fun hn => ⟨p, r, rfl, Int.le_of_lt (hlt hn)⟩⟩;simp only [CSt.out, qba, qah, qau, hM, ht.pair hr hpc];refine Eqv.trans ?_ (by simpa using he.app [] [r])
  by_cases hn : st.M = []
  ·rw [hn]; simp; exact .refl _
  ·have h3 : dQ (aF rows 1) st.M < aF rows 1 r := hlt hn
   have hr0 : aF rows 1 r ≠ 0 := by
    intro e0;obtain ⟨m, hm⟩ := List.exists_mem_of_ne_nil _ hn;obtain ⟨k1, _, k3⟩ := h.m m hm;have := ht.cls m; omega
   have := (Eqv.ahead (key := aF rows 1) hr0 (B := st.M) [] fun m hm => ⟨(h.m m hm).1, by have := (h.m m hm).2.2; omega⟩).symm.app (st.P.flatMap (aV rows 8) ++ aV rows 8 a) [];simpa using this
theorem zlr {rows : List Row} (ht : TabC rows) {l : List Int} (hr : ∀ x ∈ l, cK rows x = true) (hc : cS (aF rows 1) l) : InvC rows (bN rows l) l := by
 revert hr hc
 induction l using iJ with
 | h0 => intro _ _; exact ⟨.refl _, (fun m hm => by cases hm), fun hn => absurd rfl hn⟩
 | h1 l r ih =>
   intro hr hc;rw [gQ];exact (ih (fun x hx => hr x (by simp [hx])) (lN.1 hc).1).step ht (hr r (by simp)) hc
theorem zls {rows : List Row} (ht : TabC rows) {l : List Int} (hr : ∀ x ∈ l, cK rows x = true) (hc : cS (aF rows 1) l) : eV rows (eW rows l) = l := by
 show cR (aF rows 1) ((bN rows l).out.flatMap (aV rows 8)) = l;rw [zkw (zlr ht hr hc).e, zkx hc]
def bW (rows : List Row) (l : List Int) : List Int := eW rows (eV rows l)
theorem zxj {rows : List Row} (ht : TabC rows) (l : List Int) : eV rows (bW rows l) = eV rows l := zls ht (zlc ht.cls ht.closed l) (zle rows l)
theorem zlt {rows : List Row} (ht : TabC rows) (l : List Int) : bW rows (bW rows l) = bW rows l := by
 show eW rows (eV rows (bW rows l)) = bW rows l;rw [zxj ht]; rfl
def zxk (rows : List Row) : Bool := rows.all fun x => !decide (x.kind = 2) || (!bV x.fr && decide (aV rows 7 x.fr = aV rows 8 x.fr))
end Go.Eng.Rows
namespace Go.Eng
open Go Go.Proofs Go.Eng.Rows Go.Eng.Trie
theorem zlu : zxk tab73 = true := by kernel_rfl
theorem pL : TabC tab where
 one := vL
 closed := zw9
 cls := vM
 syl := fun x hx hk => by
  have := List.all_eq_true.1 zlu x (zlk hx hk);simp only [hk, decide_true, qav, qai, qb, qi] at this;exact this.1
 deep := fun x hx hk => by
  have := List.all_eq_true.1 zlu x (zlk hx hk);simp only [hk, decide_true, qav, qai, qb, aB] at this;rw [zch, zch]; exact this.2
end Go.Eng
namespace Go.Eng.Rows
open Go Go.Eng Go.Eng.Trie Go.Eng.Srt
def Comp (rows : List Row) (s : List Int) : Prop := ∃ d, (∀ x ∈ d, cK rows x = true) /\ cS (aF rows 1) d /\ eW rows d = s
section
variable {rows : List Row}
theorem zxl (ht : TabC rows) (l : List Int) : Comp rows (bW rows l) := ⟨eV rows l, zlc ht.cls ht.closed l, zle rows l, rfl⟩
theorem Comp.fix (ht : TabC rows) {s : List Int} (h : Comp rows s) : bW rows s = s := by
 obtain ⟨d, h1, h2, rfl⟩ := h;show eW rows (eV rows (eW rows d)) = _;rw [zls ht h1 h2]
def kC (rows : List Row) (s : Option Int) (M : List Int) (r : Int) : Option Int := match s with
 | none => none
 | some a => if M = [] ∨ dQ (aF rows 1) M < aF rows 1 r then fH rows a r else none
theorem lP (st : CSt) (r : Int) : cN rows st r = match kC rows st.s st.M r with | some c => ⟨st.P, some c, st.M⟩ | none => cU (aF rows 1) st r := by
 unfold cN kC;cases st.s with
 | none => rfl
 | some a =>
   simp only;split
   ·rfl
   ·rfl
theorem zcp {s : Option Int} {M : List Int} {r c : Int} (h : kC rows s M r = some c) : ∃ a, s = some a /\ fH rows a r = some c /\ (M = [] ∨ dQ (aF rows 1) M < aF rows 1 r) := by
 unfold kC at h;cases s with
 | none => cases h
 | some a =>
   simp only at h;split at h
   ·rename_i hf; exact ⟨a, rfl, h, hf⟩
   ·cases h
theorem lQ {d : List Int} {x : Int} : cS (aF rows 1) (d ++ [x]) ↔ cS (aF rows 1) d /\ (∀ z, d.getLast? = some z -> aF rows 1 x ≠ 0 -> aF rows 1 z <= aF rows 1 x) := by
 rw [lN];constructor
 ·rintro ⟨h1, _, h3⟩; exact ⟨h1, fun z hz hx => h3 z x hz rfl hx⟩
 ·rintro ⟨h1, h3⟩; exact ⟨h1, trivial, fun z x' hz hx' h0 => by simp at hx'; subst hx'; exact h3 z hz h0⟩
theorem zcq {d : List Int} {r x : Int} (h : cS (aF rows 1) (d ++ [r] ++ [x])) (hx : aF rows 1 x ≠ 0) : aF rows 1 r <= aF rows 1 x := (lQ.1 h).2 r (by simp) hx
def Wit (rows : List Row) (d : List Int) (st : CSt) : Prop := ∃ e, (∀ x ∈ e, cK rows x = true) /\ bN rows e = st /\ (st.out = [] -> e = []) /\ cS (aF rows 1) e /\ ∀ x, cS (aF rows 1) (d ++ [x]) -> cS (aF rows 1) (e ++ [x])
theorem Wit.snoc {d : List Int} {st : CSt} (h : Wit rows d st) {r : Int} (hr : cK rows r = true) (hc : cS (aF rows 1) (d ++ [r])) (hn : (cN rows st r).out ≠ []) : Wit rows (d ++ [r]) (cN rows st r) := by
 obtain ⟨e, h1, h2, h3, h4, h5⟩ := h;refine ⟨e ++ [r], fun x hx => ?_, by rw [gQ, h2], fun hq => absurd hq hn, h5 r hc, fun x hx => ?_⟩
 ·rcases List.mem_append.1 hx with hx | hx
  ·exact h1 x hx
  ·rw [qar] at hx; subst hx; exact hr
 ·exact lQ.2 ⟨h5 r hc, fun z hz h0 => by simp at hz; subst hz; exact zcq hx h0⟩
theorem zcr {key : Int -> Int} {M : List Int} (h : M ≠ []) : ∃ m ∈ M, dQ key M = key m := by
 rcases M.eq_nil_or_concat with rfl | ⟨D, z, rfl⟩
 ·exact absurd rfl h
 ·exact ⟨z, by simp, by simp [dQ]⟩
theorem zlv {d : List Int} (h : (bN rows d).out = []) : d = [] := by
 revert h
 induction d using iJ with
 | h0 => exact fun _ => rfl
 | h1 d r ih =>
   rw [gQ, lP];intro h;split at h
   ·simp [CSt.out] at h
   ·rw [mP] at h; simp at h
theorem r9 {d : List Int} (h : (bN rows d).s = none) : (bN rows d).P = [] := by
 revert h
 induction d using iJ with
 | h0 => exact fun _ => rfl
 | h1 d r ih =>
   rw [gQ, lP];split
   ·intro h; cases h
   ·unfold cU;split
    ·intro h; cases h
    ·exact ih
theorem zxm (ht : TabC rows) {d : List Int} (hr : ∀ x ∈ d, cK rows x = true) (hc : cS (aF rows 1) d) (hn : (bN rows d).M ≠ []) :
 Wit rows d ⟨(bN rows d).P, (bN rows d).s, (bN rows d).M.dropLast⟩ := by
 revert hr hc hn
 induction d using iJ with
 | h0 => intro _ _ hn; exact absurd rfl hn
 | h1 d r ih =>
   intro hr hc;have hr1 : ∀ x ∈ d, cK rows x = true := fun x hx => hr x (by simp [hx]);have hc1 := (lQ.1 hc).1;have hinv := zlr ht hr1 hc1;have hrr := hr r (by simp);rw [gQ];have ih := ih hr1 hc1;have hon := zlv (rows := rows) (d := d);generalize hsd : bN rows d = st at *;rw [lP];cases hd : kC rows st.s st.M r with
   | none =>
     simp only;unfold cU;split
     ·intro hn; exact absurd rfl hn
     ·rename_i h0;intro _;simp only [qam];refine ⟨d, hr1, hsd, fun h => hon h, hc1, fun x hx => lQ.2 ⟨hc1, fun z hz hx0 => ?_⟩⟩;have := (lQ.1 hc).2 z hz h0;have := zcq hx hx0;omega
   | some c =>
     simp only;intro hn;obtain ⟨a, hs, hp, hf⟩ := zcp hd;have hlt := hf.elim (fun e => absurd e hn) id;have hw := (ih hn).snoc hrr hc
     have he : cN rows ⟨st.P, st.s, st.M.dropLast⟩ r = ⟨st.P, some c, st.M.dropLast⟩ := by
      rw [lP]
      have : kC rows st.s st.M.dropLast r = some c := by
       unfold kC;rw [hs];simp only;rw [if_pos, hp];by_cases hdl : st.M.dropLast = []
       ·exact .inl hdl
       ·obtain ⟨m, hm, e⟩ := zcr (key := aF rows 1) hdl;have := (hinv.m m (List.dropLast_subset _ hm)).2.2;exact .inr (by omega)
      simp only [this]
     rw [he] at hw;exact hw (by simp [CSt.out])
def fQ (st : CSt) : CSt := match st.s, st.P with
 | none, P => ⟨P, none, st.M.tail⟩
 | some _, [] => ⟨[], none, st.M⟩
 | some c, _ :: P => ⟨P, some c, st.M⟩
theorem zxn {st : CSt} (h : st.s = none -> st.P = []) : (fQ st).out = st.out.tail := by
 obtain ⟨P, s, M⟩ := st;cases s with
 | none =>
   have hp : P = [] := h rfl;subst hp;simp [fQ, CSt.out]
 | some c => cases P <;> simp [fQ, CSt.out]
theorem zxo (hk : eU rows) (M : List Int) : 0 <= dQ (aF rows 1) M := by
 by_cases h : M = []
 ·subst h; exact qq _
 ·obtain ⟨m, _, e⟩ := zcr (key := aF rows 1) h;rw [e]; exact hk m
theorem zxp (ht : TabC rows) {d : List Int} (hr : ∀ x ∈ d, cK rows x = true) (hc : cS (aF rows 1) d) (hn : d ≠ []) : Wit rows d (fQ (bN rows d)) := by
 revert hr hc hn
 induction d using iJ with
 | h0 => intro _ _ hn; exact absurd rfl hn
 | h1 d r ih =>
   intro hr hc _;have hr1 : ∀ x ∈ d, cK rows x = true := fun x hx => hr x (by simp [hx]);have hc1 := (lQ.1 hc).1;have hrr := hr r (by simp);by_cases hd0 : d = []
   ·subst hd0;refine ⟨[], fun x hx => (by cases hx), ?_, fun _ => rfl, trivial, fun x _ => trivial⟩;rw [gQ];show _ = fQ (cU (aF rows 1) ⟨[], none, []⟩ r);unfold cU;split <;> rfl
   ·have ih := ih hr1 hc1 hd0;have hP := r9 (rows := rows) (d := d);have hon : (bN rows d).out ≠ [] := fun h => hd0 (zlv h);rw [gQ];generalize bN rows d = st at *
    have key : (fQ (cN rows st r) = cN rows (fQ st) r /\ (cN rows (fQ st) r).out ≠ []) -> Wit rows (d ++ [r]) (fQ (cN rows st r)) := fun ⟨h1, h2⟩ => by
     rw [h1]; exact ih.snoc hrr hc h2
    obtain ⟨P, s, M⟩ := st;cases s with
    | none =>
      obtain rfl : P = [] := hP rfl;cases M with
      | nil => exact absurd rfl hon
      | cons m M =>
        refine key ?_;have e1 : cN rows ⟨[], none, m :: M⟩ r = cU (aF rows 1) ⟨[], none, m :: M⟩ r := rfl;have e2 : cN rows (fQ ⟨[], none, m :: M⟩) r = cU (aF rows 1) ⟨[], none, M⟩ r := rfl;rw [e1, e2, mP];refine ⟨?_, by simp⟩;unfold cU;split <;> simp [fQ, CSt.out]
    | some c =>
      cases P with
      | cons p P =>
        refine key ?_;have e2 : fQ ⟨p :: P, some c, M⟩ = ⟨P, some c, M⟩ := rfl;rw [e2, lP, lP];simp only;cases kC rows (some c) M r with
        | none => simp only; rw [mP]; refine ⟨?_, by simp⟩; unfold cU; split <;> simp [fQ, CSt.out]
        | some c' => exact ⟨rfl, by simp [CSt.out]⟩
      | nil =>
        have e2 : fQ ⟨[], some c, M⟩ = ⟨[], none, M⟩ := rfl;have e3 : cN rows ⟨[], none, M⟩ r = cU (aF rows 1) ⟨[], none, M⟩ r := rfl;cases hdec : kC rows (some c) M r with
        | none =>
          refine key ?_;rw [e2, e3, lP];simp only [hdec];rw [mP];refine ⟨?_, by simp⟩;unfold cU;split <;> simp [fQ, CSt.out]
        | some c' =>
          obtain ⟨a, _, hp, hf⟩ := zcp hdec
          have e4 : fQ (cN rows ⟨[], some c, M⟩ r) = ⟨[], none, M⟩ := by
           rw [lP]; simp only [hdec]; rfl
          rw [e4];rw [e2] at ih;obtain ⟨e, h1, h2, h3, h4, h5⟩ := ih;refine ⟨e, h1, h2, h3, h4, fun x hx => lQ.2 ⟨h4, fun z hz hx0 => ?_⟩⟩;by_cases h0 : aF rows 1 r = 0
          ·have hl := zxo ht.cls M;have hM : M = [] := hf.elim id fun h => by omega
           subst hM;have := h3 rfl;subst this;simp at hz
          ·have k1 := (lQ.1 (h5 r hc)).2 z hz h0;have k2 := zcq hx hx0;omega
theorem zxq {d : List Int} (hr : ∀ x ∈ d, cK rows x = true) (hc : cS (aF rows 1) d) (hn : (bN rows d).s ≠ none) : ∃ e, (∀ x ∈ e, cK rows x = true) /\ cS (aF rows 1) e /\ (bN rows e).out = (bN rows d).P := by
 revert hr hc hn
 induction d using iJ with
 | h0 => intro _ _ hn; exact absurd rfl hn
 | h1 d r ih =>
   intro hr hc;have hr1 : ∀ x ∈ d, cK rows x = true := fun x hx => hr x (by simp [hx]);have hc1 := (lQ.1 hc).1;have ih := ih hr1 hc1;rw [gQ, lP];cases hd : kC rows (bN rows d).s (bN rows d).M r with
   | none =>
     simp only;unfold cU;split
     ·intro _; exact ⟨d, hr1, hc1, rfl⟩
     ·exact ih
   | some c =>
     obtain ⟨a, hs, _⟩ := zcp hd;intro _;exact ih (by rw [hs]; simp)
theorem Comp.nil : Comp rows [] := ⟨[], fun x hx => (by cases hx), trivial, rfl⟩
theorem Comp.tail (ht : TabC rows) {s : List Int} (h : Comp rows s) : Comp rows s.tail := by
 obtain ⟨d, h1, h2, rfl⟩ := h;by_cases hd : d = []
 ·subst hd; exact .nil
 ·obtain ⟨e, k1, k2, _, k4, _⟩ := zxp ht h1 h2 hd;exact ⟨e, k1, k4, by unfold eW; rw [k2, zxn r9]⟩
theorem Comp.dropLast (ht : TabC rows) {s : List Int} (h : Comp rows s) : Comp rows s.dropLast := by
 obtain ⟨d, h1, h2, rfl⟩ := h;unfold eW;by_cases hM : (bN rows d).M = []
 ·cases hs : (bN rows d).s with
  | none =>
    have : (bN rows d).out = [] := by simp [CSt.out, r9 hs, hs, hM]
    rw [this]; exact .nil
  | some c =>
    obtain ⟨e, k1, k2, k3⟩ := zxq h1 h2 (by rw [hs]; simp);refine ⟨e, k1, k2, ?_⟩;unfold eW;rw [k3];simp [CSt.out, hs, hM]
 ·obtain ⟨e, k1, k2, _, k4, _⟩ := zxm ht h1 h2 hM;refine ⟨e, k1, k4, ?_⟩;unfold eW;rw [k2];simp only [CSt.out];rw [qay (by simp [hM]), qay hM]
theorem Comp.drop (ht : TabC rows) {s : List Int} (h : Comp rows s) : ∀ k, Comp rows (s.drop k)
 | 0 => h
 | k + 1 => by
   have := (Comp.drop ht h k).tail ht;rwa [List.tail_drop] at this
theorem Comp.take (ht : TabC rows) {s : List Int} (h : Comp rows s) (k : Nat) : Comp rows (s.take k) := by
 have : ∀ n, Comp rows (s.take (s.length - n)) := by
  intro n
  induction n with
  | zero => rw [Nat.sub_zero, List.take_length]; exact h
  | succ n ih =>
    have := ih.dropLast ht;rw [List.dropLast_eq_take, qby, qe] at this;rwa [show min (min (s.length - n) s.length - 1) (s.length - n) = s.length - (n + 1) by omega] at this
 by_cases hk : k <= s.length
 ·have := this (s.length - k);rwa [show s.length - (s.length - k) = k by omega] at this
 ·rw [qh (by omega)]; exact h
end
end Go.Eng.Rows
namespace Go.Eng
open Go Go.Proofs
section
variable (a b : Int)
def zlw (R : PV -> Prop) : Prop :=
 if (decide (a >= 4352) && decide (a < 4371) && decide (b >= 4449) && decide (b < 4470)) = true then R (PV.tup [Z3 (i32.wrap ((44032 : Int) + i32.wrap (i32.wrap (i32.wrap (i32.wrap (i32.wrap (a - 4352) * 21) + b) - 4449) * 28))), Zb true]) else PCall qa 167 [Z3 a] fun v => ∃ b1, v = Zb b1 /\ if (b1 && (i32.wrap (a - 44032)).tmod (28 : Int) == 0 && decide (b > 4519) && decide (b < 4547)) = true then R (PV.tup [Z3 (i32.wrap (i32.wrap (a + b) - 4519)), Zb true]) else R (PV.tup [Z3 0, Zb false])
theorem zxr {R : PV -> Prop} (h : zlw a b R) : PCall qa 146 [.int .i32 a, .int .i32 b] R :=
 PCall.wz Tryz.func146 aM [0, 1, 4, 5, 6, 29] aX h
end
section
variable (tc tg tj tf tp : PV) (M S : List (PV × PV)) (a b : Int)
def zlx (R : PV -> Prop) : Prop :=
 PCall qa 146 [Z3 a, Z3 b] fun v => ∃ vs, v = PV.tup vs /\ vs.length = 2 /\ ∃ x, vs.head? = some x /\ ∃ n, x = Z3 n /\ ∃ x1, vs.tail.head? = some x1 /\ ∃ b1, x1 = Zb b1 /\ if b1 = true then R (PV.tup [Z3 n, Zb true]) else PCall qa 147 [PV.ptr [tc, tg, tj, tf, tp, PV.mp M, PV.mp S], Z3 a, Z3 b] fun v1 => ∃ vs1, v1 = PV.tup vs1 /\ vs1.length = 2 /\ ∃ x2, vs1.head? = some x2 /\ ∃ n1, x2 = Z3 n1 /\ ∃ x3, vs1.tail.head? = some x3 /\ ∃ b2, x3 = Zb b2 /\ R (PV.tup [Z3 n1, Zb b2])
theorem zxs {R : PV -> Prop} (h : zlx tc tg tj tf tp M S a b R) : PCall qa 121 [.ptr [tc, tg, tj, tf, tp, .mp M, .mp S], .int .i32 a, .int .i32 b] R :=
 PCall.wz Tryz.func121 aM [0, 1, 2, 6, 7, 8, 9, 16] aX h
end
def zcs (tc tg tj tf tp : PV) (M S : List (PV × PV)) (n f : Bool) (es : LL) (x6 x7 x16 : Int) (n_0 : Bool) (s_0 : LL) : Env × Hp := ([(0, LV.pv (PV.ptr [tc, tg, tj, tf, tp, PV.mp M, PV.mp S])), (5, LV.own 0), (6, Y6 x6), (7, Y6 x7), (14, LV.pv (PV.sl n f es)), (15, Y6 ↑es.length), (16, Y6 x16)], [.sl (21, 1) true n_0 s_0])
section
variable (tc tg tj tf tp : PV) (M S : List (PV × PV)) (n f : Bool) (es : LL) (J : Int -> Int -> Int -> Bool -> LL -> Prop) (μ : Int -> Int -> Int -> Bool -> LL -> Nat)
def zly (R : PV -> Prop) : Prop :=
 (aD (zcs tc tg tj tf tp M S n f es (-1 : Int) (0 : Int) (0 : Int) true []) /\ J (-1 : Int) (0 : Int) (0 : Int) true []) /\ ∀ (x6 x7 x16 : Int) (n_0 : Bool) (s_0 : LL), J x6 x7 x16 n_0 s_0 ->
 let K5 := fun (y0_ y1_ y2_ : Int) (y3_ : Bool) (y4_ : LL) => aD (zcs tc tg tj tf tp M S n f es y0_ y1_ y2_ y3_ y4_) /\ J y0_ y1_ y2_ y3_ y4_ /\ μ y0_ y1_ y2_ y3_ y4_ < μ x6 x7 x16 n_0 s_0; if decide (x16 < (↑es.length :
  Int)) = true then aH es x16 1 /\ ∃ n1, (es.getD x16.toNat []).head? = some (Z3 n1) /\ PCall qa 93 [PV.ptr [tc, tg, tj, tf, tp, PV.mp M, PV.mp S], Z3 n1] fun v => ∃ n2, v = Z6 n2 /\
 let V1 := if (n2 == 0) = true then (aR [[Z3 n1]] 1 /\ (s_0.length + 1) * 4 <= 140737488355328) /\ K5 (↑s_0.length : Int) n2 (i64.wrap (x16 + 1)) (n_0 && false) (s_0 ++ [[Z3 n1]]) else (aR [[Z3 n1]] 1 /\ (s_0.length + 1) * 4 <=
  140737488355328) /\ K5 x6 n2 (i64.wrap (x16 + 1)) (n_0 && false) (s_0 ++ [[Z3 n1]]); if (decide (x6 >= 0) && (x6 == i64.wrap ((↑s_0.length : Int) - 1) || x7 != 0 && decide (x7 < n2))) = true then aH s_0 x6 1 /\ ∃ (n3 :
  Int), (qf 0 (s_0.getD x6.toNat [])).head? = some (Z3 n3) /\ PCall qa 121 [PV.ptr [tc, tg, tj, tf, tp, PV.mp M, PV.mp S], Z3 n3, Z3 n1] fun v1 => ∃ vs, v1 = PV.tup vs /\ vs.length = 2 /\ ∃ x, vs.head? =
  some x /\ ∃ n4, x = Z3 n4 /\ ∃ x1, vs.tail.head? = some x1 /\ ∃ b, x1 = Zb b /\ if b = true then aH s_0 x6 1 /\ (1 = 1 /\ 1 <= (s_0.getD x6.toNat []).length) /\ K5 x6 x7 (i64.wrap (x16 + 1)) n_0 (s_0.set
  x6.toNat (Z3 n4 :: zq (qf 1 (s_0.getD x6.toNat [])))) else V1 else V1 else R (PV.sl n_0 false s_0)
theorem zxt {R : PV -> Prop} (h : zly tc tg tj tf tp M S n f es J μ R) : PCall qa 95 [.ptr [tc, tg, tj, tf, tp, .mp M, .mp S], .sl n f es] R :=
 PCall.wz Tryz.func95 aM [0, 1, 4, 5, 6, 7, 9, 10, 11, 12, 13, 14, 15, 16, 17, 41, 52, 58] (bU 5 (aZ cz5 (zcs tc tg tj tf tp M S n f es) J μ (fun e h => (gI e 6, gI e 7, gI e 16, oN h 0, oS h 0)) [(5, 21, 1)] [0, 5, 6, 7, 14, 15, 16] [])) h
end
section
variable (tc tg tj tf tp : PV) (M S : List (PV × PV)) (n f : Bool) (es : LL)
def zlz (R : PV -> Prop) : Prop :=
 PCall qa 96 [PV.ptr [tc, tg, tj, tf, tp, PV.mp M, PV.mp S], PV.sl n f es] fun v => ∃ n1 f1 es1, v = PV.sl n1 f1 es1 /\ PCall qa 95 [PV.ptr [tc, tg, tj, tf, tp, PV.mp M, PV.mp S], PV.sl n1 f1 es1] fun v1 => ∃ n2 f2 es2, v1 = PV.sl n2 f2 es2 /\ R (PV.sl n2 f2 es2)
theorem zxu {R : PV -> Prop} (h : zlz tc tg tj tf tp M S n f es R) : PCall qa 60 [.ptr [tc, tg, tj, tf, tp, .mp M, .mp S], .sl n f es] R :=
 PCall.wz Tryz.func60 aM [0, 1, 4] aX h
end
end Go.Eng
namespace Go.Eng
open Go Go.Proofs Go.Eng.Rows Go.Eng.Trie Go.Eng.Srt
def kD : Option Int -> PV
 | some r => .tup [.int .i32 r, .bool true]
 | none => .tup [.int .i32 0, .bool false]
theorem zxv {a b : Int} (ha : -2147483648 <= a /\ a <= 2147483647) (hb : -2147483648 <= b /\ b <= 2147483647) : PCall qa 146 [.int .i32 a, .int .i32 b] fun v => v = kD (eQ a b) := by
 refine zxr _ _ ?_; unfold zlw;refine aC (fun hc => ?_) (fun hc => ?_)
 ·simp only [qb, aB, ge_iff_le] at hc;have w1 : i32.wrap (a - 4352) = a - 4352 := c7 (by omega) (by omega);have w2 : i32.wrap ((a - 4352) * 21) = (a - 4352) * 21 := c7 (by omega) (by omega);have w3 : i32.wrap ((a - 4352) * 21 + b) = (a - 4352) * 21 + b := c7 (by omega) (by omega);have w4 : i32.wrap ((a - 4352) * 21 + b - 4449) = (a - 4352) * 21 + b - 4449 := c7 (by omega) (by omega);have w5 : i32.wrap (((a - 4352) * 21 + b - 4449) * 28) = ((a - 4352) * 21 + b - 4449) * 28 := c7 (by omega) (by omega);have w6 : i32.wrap (44032 + ((a - 4352) * 21 + b - 4449) * 28) = 44032 + ((a - 4352) * 21 + b - 4449) * 28 := c7 (by omega) (by omega);rw [w1, w2, w3, w4, w5, w6];unfold eQ;rw [if_pos (by omega)];simp only [kD];rw [show (a - 4352) * 21 + b - 4449 = (a - 4352) * 21 + (b - 4449) by omega]
 ·simp only [qb, aB, ge_iff_le] at hc;refine (zkk a).mono ?_;rintro _ rfl;refine ⟨_, rfl, ?_⟩;have hn : ¬ ((4352 <= a /\ a < 4371) /\ 4449 <= b /\ b < 4470) := by omega
  cases hs : bV a with
  | false =>
    refine bK (by simp) ?_;unfold eQ; rw [if_neg hn, if_neg (by rw [hs]; simp)]; rfl
  | true =>
    have hr := hs;simp only [bV, qb, aB] at hr;have w1 : i32.wrap (a - 44032) = a - 44032 := c7 (by omega) (by omega);have e3 : (a - 44032).tmod 28 = (a - 44032) % 28 := qao (by omega);rw [w1, e3];refine aC (fun h2 => ?_) (fun h2 => ?_)
    ·simp only [qb, aB, gt_iff_lt, beq_iff_eq, qac] at h2;have w2 : i32.wrap (a + b) = a + b := c7 (by omega) (by omega);have w3 : i32.wrap (a + b - 4519) = a + b - 4519 := c7 (by omega) (by omega);rw [w2, w3];unfold eQ; rw [if_neg hn, if_pos ⟨⟨hs, h2.1.1⟩, h2.1.2, h2.2⟩];simp only [kD];rw [show a + b - 4519 = a + (b - 4519) by omega]
    ·simp only [qb, aB, gt_iff_lt, beq_iff_eq, qac] at h2;unfold eQ; rw [if_neg hn, if_neg (by omega)]; rfl
section
variable {rows : List Row} {v : PV}
theorem zxw (hp : dI rows) (h1 : d9 rows) (hv : c8 rows v) {a b : Int} (ha : -2147483648 <= a /\ a <= 2147483647) (hb : -2147483648 <= b /\ b <= 2147483647) : PCall qa 121 [v, .int .i32 a, .int .i32 b] fun x => x = kD (fH rows a b) := by
 obtain ⟨tc, tg, tj, tf, tp, made, sec, rfl, ht, hm⟩ := hv;refine zxs _ _ _ _ _ _ _ _ _ ?_; unfold zlx;refine (zxv ha hb).mono ?_;rintro _ rfl;unfold fH;cases eQ a b with
 | some r =>
   exact ⟨_, rfl, rfl, _, rfl, _, rfl, _, rfl, _, rfl, bB rfl rfl⟩
 | none =>
   refine ⟨_, rfl, rfl, _, rfl, _, rfl, _, rfl, _, rfl, bK (by simp) ?_⟩;refine (zvr _ _ _ _ _ _ made a b).mono ?_;rintro _ rfl;rw [<- zxh hp h1 hm a b];unfold uZ;split
   ·exact ⟨_, rfl, rfl, _, rfl, _, rfl, _, rfl, _, rfl, rfl⟩
   ·cases cE (a, b) made with
    | none => exact ⟨_, rfl, rfl, _, rfl, _, rfl, _, rfl, _, rfl, rfl⟩
    | some r => exact ⟨_, rfl, rfl, _, rfl, _, rfl, _, rfl, _, rfl, rfl⟩
def dB (st : CSt) : Int := match st.s with | none => -1 | some _ => st.P.length
theorem zl0 {d : List Int} : ∀ m ∈ (bN rows d).M, aF rows 1 m ≠ 0 := by
 induction d using iJ with
 | h0 => intro m hm; cases hm
 | h1 d r ih =>
   rw [gQ];rcases pK rows (bN rows d) r with e | ⟨a, c, hs, hp, _, e⟩
   ·rw [e];unfold cU;split
    ·intro m hm; cases hm
    ·rename_i h0;intro m hm;rcases List.mem_append.1 hm with hm | hm
     ·exact ih m hm
     ·rw [qar] at hm; subst hm; exact h0
   ·rw [e]; exact ih
def JC (rows : List Row) (L : List Int) (x6 x7 i : Int) (s : List (List PV)) : Prop := (0 <= i /\ i <= L.length) /\ s = aA (bN rows (L.take i.toNat)).out /\ x6 = dB (bN rows (L.take i.toNat)) /\ x7 = dQ (aF rows 1) (bN rows (L.take i.toNat)).M
theorem JC.next {L : List Int} {i : Int} (h0 : 0 <= i) (hi : i.toNat < L.length) {st : CSt} (he : cN rows (bN rows (L.take i.toNat)) L[i.toNat] = st) : JC rows L (dB st) (dQ (aF rows 1) st.M) (i + 1) (aA st.out) := by
 have e : bN rows (L.take (i + 1).toNat) = st := by
  rw [show (i + 1).toNat = i.toNat + 1 by omega, cJ hi, gQ, he]
 exact ⟨⟨by omega, by omega⟩, by rw [e], by rw [e], by rw [e]⟩
theorem zxx (hp : dI rows) (h1 : d9 rows) (hv : c8 rows v) (n f : Bool) (L : List Int) (hr : R32 L) (hL : L.length < 1000000000000) : PCall qa 95 [v, .sl n f (aA L)] fun x => ∃ n f, x = .sl n f (aA (eW rows L)) := by
 have hv' := hv;obtain ⟨tc, tg, tj, tf, tp, made, sec, rfl, ht, hm⟩ := hv;refine zxt _ _ _ _ _ _ _ _ _ _ (fun x6 x7 i _ s => JC rows L x6 x7 i s) (fun _ _ i _ _ => L.length - i.toNat) ?_;unfold zly;refine ⟨⟨rfl, ⟨qq _, by omega⟩, rfl, rfl, rfl⟩, ?_⟩;rintro x6 x7 i n0 _ ⟨⟨i0, i1⟩, rfl, rfl, rfl⟩;refine aC (fun hc => ?_) (fun hc => ?_)
 ·simp only [aB, bF] at hc;have hi : i.toNat < L.length := by omega
  obtain ⟨g1, g2⟩ := gO i0 hi;have hx := hr _ (qp hi);have hw : i64.wrap (i + 1) = i + 1 := aG (by omega) (by omega);refine ⟨g1, L[i.toNat], by rw [g2]; rfl, ?_⟩;refine (uY _ _ ht hx).mono ?_;rintro _ rfl;refine ⟨_, rfl, ?_⟩;rw [hw];have hlen := zcn rows (L.take i.toNat);have hrng := zco h1 (L.take i.toNat);have hnz := zl0 (rows := rows) (d := L.take i.toNat);have hnP := r9 (rows := rows) (d := L.take i.toNat);rw [qe] at hlen;unfold eW at hlen hrng;have next := fun st => JC.next (rows := rows) (st := st) i0 hi
  generalize bN rows (L.take i.toNat) = st at *;have hmu : L.length - (i + 1).toNat < L.length - i.toNat := by omega
  have hsz : aR [[PV.int .i32 L[i.toNat]]] 1 /\ ((aA st.out).length + 1) * 4 <= 140737488355328 := ⟨dJ [_], by rw [bF]; omega⟩;have hout : aA st.out ++ [[PV.int .i32 L[i.toNat]]] = aA (st.out ++ [L[i.toNat]]) := by rw [iI]; rfl
  have hl : ((aA st.out).length : Int) = st.out.length := by rw [bF]
  have app0 : cN rows st L[i.toNat] = cU (aF rows 1) st L[i.toNat] -> aF rows 1 L[i.toNat] = 0 -> JC rows L (aA st.out).length (aF rows 1 L[i.toNat]) (i + 1) (aA st.out ++ [[PV.int .i32 L[i.toNat]]]) := fun he h0 => by
   have := next _ (he.trans (by unfold cU; rw [if_pos h0]))
   rw [hout, hl, h0];simpa [dB, dQ, CSt.out] using this
  have app1 : cN rows st L[i.toNat] = cU (aF rows 1) st L[i.toNat] -> aF rows 1 L[i.toNat] ≠ 0 -> JC rows L (dB st) (aF rows 1 L[i.toNat]) (i + 1) (aA st.out ++ [[PV.int .i32 L[i.toNat]]]) := fun he h0 => by
   have := next _ (he.trans (by unfold cU; rw [if_neg h0]))
   rw [hout];simp only [r8] at this;have e2 : st.out ++ [L[i.toNat]] = CSt.out ⟨st.P, st.s, st.M ++ [L[i.toNat]]⟩ := by simp [CSt.out]
   rw [e2];exact this
  refine aC (fun hf => ?_) (fun hf => ?_)
  ·simp only [qb, aB, qk, beq_iff_eq, bne_iff_ne, ne_eq, ge_iff_le] at hf;obtain ⟨hf1, hf2⟩ := hf;cases hs : st.s with
   | none => simp [dB, hs] at hf1
   | some a =>
     have hsi : dB st = st.P.length := by simp [dB, hs]
     have hol : st.out.length = st.P.length + 1 + st.M.length := by simp [CSt.out, hs]; omega
     have hw2 : i64.wrap ((aA st.out).length - 1) = st.out.length - 1 := by rw [hl]; exact aG (by omega) (by omega)
     have hfree : st.M = [] ∨ dQ (aF rows 1) st.M < aF rows 1 L[i.toNat] := by
      rcases hf2 with h | h
      ·rw [hw2, hsi] at h;exact .inl (qv (by omega))
      ·exact .inr h.2
     have hat : st.out[st.P.length]'(by omega) = a := by simp [CSt.out, hs]
     obtain ⟨k1, k2⟩ := gO (l := st.out) (i := dB st) (by omega) (by omega);have hta : (dB st).toNat = st.P.length := by omega
     have k3 : (aA st.out).getD (dB st).toNat [] = [PV.int .i32 a] := by
      rw [k2]; simp only [hta, hat]
     have ha : -2147483648 <= a /\ a <= 2147483647 := by
      rcases hrng a (by simp [CSt.out, hs]) with h | h
      ·exact hr a (qu h)
      ·omega
     refine ⟨k1, a, by rw [k3]; rfl, ?_⟩;refine (zxw hp h1 hv' ha hx).mono ?_;rintro _ rfl;cases hpc : fH rows a L[i.toNat] with
     | some c =>
       refine ⟨_, rfl, rfl, _, rfl, _, rfl, _, rfl, _, rfl, bB rfl ⟨k1, ⟨rfl, by rw [k3]; exact qj _⟩, rfl, ?_, by dsimp only; omega⟩⟩;rw [k3, hta]
       have he : cN rows st L[i.toNat] = ⟨st.P, some c, st.M⟩ := by
        unfold cN; rw [hs]; simp only; rw [if_pos hfree, hpc]
       have := next _ he
       have e2 : (aA st.out).set st.P.length [PV.int .i32 c] = aA (CSt.out ⟨st.P, some c, st.M⟩) := by
        simp [CSt.out, hs, aA]
       have e3 : dB ⟨st.P, some c, st.M⟩ = dB st := by rw [hsi]; rfl
       rw [e3] at this;show JC rows L (dB st) (dQ (aF rows 1) st.M) (i + 1) ((aA st.out).set st.P.length [PV.int .i32 c]);rw [e2];exact this
     | none =>
       have he : cN rows st L[i.toNat] = cU (aF rows 1) st L[i.toNat] := by
        unfold cN; rw [hs]; simp only; rw [if_pos hfree, hpc]
       refine ⟨_, rfl, rfl, _, rfl, _, rfl, _, rfl, _, rfl, bK (by simp) (aC (fun h0 => ?_) (fun h0 => ?_))⟩
       ·exact ⟨hsz, rfl, app0 he (by simpa using h0), by dsimp only; omega⟩
       ·exact ⟨hsz, rfl, app1 he (by simpa using h0), by dsimp only; omega⟩
  ·simp only [qb, aB, qk, beq_iff_eq, bne_iff_ne, ne_eq, ge_iff_le] at hf
   have he : cN rows st L[i.toNat] = cU (aF rows 1) st L[i.toNat] := by
    rcases pK rows st L[i.toNat] with e | ⟨a, c, hs, hpc, hfree, e⟩
    ·exact e
    ·have hsi : dB st = st.P.length := by simp [dB, hs]
     have hol : st.out.length = st.P.length + 1 + st.M.length := by simp [CSt.out, hs]; omega
     have hw2 : i64.wrap ((aA st.out).length - 1) = st.out.length - 1 := by rw [hl]; exact aG (by omega) (by omega)
     refine absurd ⟨by omega, ?_⟩ hf;by_cases hM : st.M = []
     ·left; rw [hw2, hsi, hol, hM]; simp
     ·right;obtain ⟨m, hm, e⟩ := zcr (key := aF rows 1) hM;exact ⟨by rw [e]; exact hnz m hm, hfree.elim (fun e => absurd e hM) id⟩
   refine aC (fun h0 => ?_) (fun h0 => ?_)
   ·exact ⟨hsz, rfl, app0 he (by simpa using h0), by dsimp only; omega⟩
   ·exact ⟨hsz, rfl, app1 he (by simpa using h0), by dsimp only; omega⟩
 ·simp only [aB, bF] at hc;rw [qh (by omega)];exact ⟨_, _, rfl⟩
theorem zct (hp : dI rows) (h1 : d9 rows) (hk : eU rows) (hv : c8 rows v) (n f : Bool) (L : List Int) (hr : R32 L) (hL : L.length < 1000000) : PCall qa 60 [v, .sl n f (aA L)] fun x => ∃ n f, x = .sl n f (aA (bW rows L)) := by
 have hv' := hv;obtain ⟨tc, tg, tj, tf, tp, made, sec, rfl, ht, hm⟩ := hv;refine zxu _ _ _ _ _ _ _ _ _ _ ?_; unfold zlz;refine (zxf hp hk hv' n f L hr hL).mono ?_;rintro _ ⟨n1, f1, rfl⟩;refine ⟨_, _, _, rfl, ?_⟩;refine (zxx hp h1 hv' _ _ _ (zcg hk hp hr) (zlo hk hL)).mono ?_;rintro _ ⟨n2, f2, rfl⟩;exact ⟨_, _, _, rfl, _, _, rfl⟩
theorem sA (hp : dI rows) (h1 : d9 rows) (hk : eU rows) {l : List Int} (h : R32 l) : R32 (bW rows l) := fun x hx => by
 rcases zco h1 _ x hx with h2 | h2
 ·exact zcg hk hp h x h2
 ·omega
theorem mQ (hk : eU rows) (l : List Int) : (bW rows l).length <= 768 * l.length := qbp (zcn rows _) (zld hk l)
end
theorem v22 : Tryz.prog.underlying 22 = some (.slice 21) := by kernel_rfl
theorem v21 : Tryz.prog.underlying 21 = some (.int .i32) := by kernel_rfl
theorem vS {v : PV} (h : mC qa 8 22 v) : ∃ nl l, v = .sl nl false (aA l) /\ R32 l := by
 obtain ⟨nl, l, e, hl, _, hr⟩ := zhb v22 v21 (y7 (by kernel_rfl) h);cases e;exact ⟨nl, l, rfl, hr⟩
end Go.Eng
namespace Go.Eng.Rows
open Go Go.Eng Go.Eng.Trie Go.Eng.Srt
def eF (L : List Int) (a b : Nat) : List Int := (L.take b).drop a
def zxy (rows : List Row) (L want : List Int) (a b : Nat) : Bool := decide (eV rows (eF L a b) = want)
def fTo (p : Nat -> Bool) (b : Nat) : Nat -> Option Nat
 | 0 => none
 | k + 1 => if p b then some b else fTo p (b + 1) k
def zl1 (rows : List Row) (L want : List Int) (a : Nat) : Nat -> Option (Nat × Nat)
 | 0 => none
 | k + 1 => match fTo (zxy rows L want a) a (L.length + 1 - a) with
   | some b => some (a, b)
   | none => zl1 rows L want (a + 1) k
def findL (rows : List Row) (L want : List Int) : Option (Nat × Nat) := zl1 rows L want 0 (L.length + 1)
end Go.Eng.Rows
namespace Go.Eng
open Go Go.Proofs
end Go.Eng
namespace Go.Eng
open Go Go.Proofs Go.Eng.Rows Go.Eng.Trie Go.Eng.Srt
theorem vT (l : List Int) (k : Nat) : (l.take k).length <= k := by rw [qe]; omega
theorem zl2 {len : Nat} {i j : Int} (h0 : 0 <= i) (h1 : i <= j) (h2 : j <= len) : cZ len (some i) (some j) none := ⟨h0, h1, h2, trivial⟩
theorem zl3 (L : List Int) (i j : Nat) : qf i (qo j (aA L)) = aA (eF L i j) := by simp [aA, eF]
theorem R32.sub {L : List Int} (h : R32 L) (i j : Nat) : R32 (eF L i j) := fun x hx => h x (qu (qbl hx))
theorem zxz (L : List Int) (i j : Nat) : (eF L i j).length <= L.length := by unfold eF; rw [qaw, qe]; omega
theorem w3 : Tryz.prog.underlying 3 = some (.int .i64) := by kernel_rfl
theorem zl4 {v : PV} (h : mC qa 8 3 v) : ∃ n : Int, v = .int .i64 n := by
 obtain ⟨m, e, _⟩ := zg9 w3 (y7 (by kernel_rfl) h);cases e;exact ⟨m, rfl⟩
end Go.Eng

namespace Go.Eng.Srt
open Go Go.Eng
section
variable {key : Int -> Int} (hk : ∀ x, 0 <= key x)
include hk
end
end Go.Eng.Srt
namespace Go.Eng.Rows
open Go Go.Eng Go.Eng.Trie Go.Eng.Srt
section
variable {rows : List Row}
def CSt.pre (Q : List Int) (st : CSt) : CSt := ⟨Q ++ st.P, st.s, st.M⟩
end
end Go.Eng.Rows

namespace Go.Eng.Rows
open Go Go.Eng Go.Eng.Trie Go.Eng.Srt
theorem zx0 {L : List Int} {j b : Nat} (h : j <= b) (hb : b <= L.length) : L.drop j = eF L j b ++ L.drop b := by
 have h1 : L = L.take b ++ L.drop b := (qak b L).symm;have h2 : L.drop j = (L.take b ++ L.drop b).drop j := by rw [<- h1]
 rw [h2, List.drop_append_of_le_length (by rw [qe]; omega)]; rfl
theorem zx1 {L : List Int} {a i : Nat} (h : a < i) (hi : i <= L.length) : eF L a i = L.getD a 0 :: eF L (a + 1) i := by
 unfold eF;rw [qbc (by rw [qe]; omega), List.getElem_take];simp only [qal, qaa (show a < L.length by omega), qbv]
theorem drop_cons {L : List Int} {b : Nat} (h : b < L.length) : L.drop b = L.getD b 0 :: L.drop (b + 1) := by
 rw [qbc h];simp only [qal, qaa h, qbv]
section
variable {rows : List Row}
theorem zx2 (ht : TabC rows) (l : List Int) (i : Nat) : bW rows ((bW rows l).take i) = (bW rows l).take i := ((zxl ht l).take ht i).fix ht
end
section
variable (p : List Int -> Option (Nat × Nat)) (ls : List (List Int)) (s : Int)
end
section
variable {p : List Int -> Option (Nat × Nat)} {ls : List (List Int)} {s : Int}
end
section
variable (p : List Int -> Option (Nat × Nat)) (L : List Int)
end
def Inc (n : Nat) : Nat -> List (Nat × Nat) -> Prop
 | i, [] => i <= n
 | i, (a, b) :: ps => i <= a /\ a < b /\ Inc n b ps
theorem Inc.le {n : Nat} : ∀ {ps : List (Nat × Nat)} {i : Nat}, Inc n i ps -> i <= n
 | [], i, h => h
 | (a, b) :: ps, i, h => by have := h.2.2.le; have := h.1; have := h.2.1; omega
theorem Inc.len {n : Nat} : ∀ {ps : List (Nat × Nat)} {i : Nat}, Inc n i ps -> ps.length + i <= n
 | [], i, h => by have : i <= n := h; simpa using this
 | (a, b) :: ps, i, h => by have := h.2.2.len; have := h.1; have := h.2.1; rw [qd]; omega
section
variable {p : List Int -> Option (Nat × Nat)} {L : List Int}
end
def aK (rows : List Row) (r : Int) : Int := if 44032 <= r /\ r <= 55203 then (if (r - 44032).tmod 28 = 0 then 12 else 13) else aF rows 4 r
def bE (rows : List Row) (r : Int) : Int := if aF rows 6 r ≠ 0 then aF rows 6 r else if (aK rows r = 4 ∨ aK rows r = 5) /\ r ≠ 8204 then 3 else 0
def c6 (b : Int) : Bool := decide (b = 3) || (decide (b = 1) || decide (b = 2))
def nX (a b : Int) : Bool :=
 if a = 9 then decide (b = 9) || (decide (b = 10) || (decide (b = 12) || decide (b = 13)))
 else if a = 12 ∨ a = 10 then decide (b = 10) || decide (b = 11)
 else if a = 13 ∨ a = 11 then decide (b = 11) else false
def gT (a b : Int) : Bool :=
 if a = 1 then decide (b = 2) else if a = 2 ∨ a = 3 then false
 else if b = 1 ∨ b = 2 ∨ b = 3 then false else if b = 4 ∨ b = 5 ∨ b = 8 then true
 else if a = 7 then true else nX a b
structure SSt where
 (some : Bool) (last pict conj : Int) (odd : Bool)
def c9 (rows : List Row) (st : SSt) (r : Int) : SSt :=
 ⟨true, aK rows r,
  if bM rows 5 r = true then 1 else if st.pict = 1 /\ aK rows r = 4 then 1 else if st.pict = 1 /\ aK rows r = 5 then 2 else 0,
  if bE rows r = 2 then 1 else if st.conj ≠ 0 /\ bE rows r = 1 then 2 else if st.conj ≠ 0 /\ bE rows r = 3 then st.conj else 0,
  decide (aK rows r = 6) && !st.odd⟩
def mR (rows : List Row) (st : SSt) (r : Int) : Bool :=
 !gT st.last (aK rows r) && (!(decide (st.pict = 2) && bM rows 5 r) && (!(decide (st.conj = 2) && decide (bE rows r = 2)) && !(st.odd && decide (aK rows r = 6))))
def kE (rows : List Row) (st : SSt) (r : Int) : Bool := !st.some || mR rows st r
def jK : SSt := ⟨false, 0, 0, 0, false⟩
def a8 (rows : List Row) (L : List Int) (a : Nat) : Nat -> SSt
 | 0 => jK
 | k + 1 => c9 rows (a8 rows L a k) (L.getD (a + k) 0)
def cO (rows : List Row) (L : List Int) (i : Nat) : Bool := kE rows (a8 rows L 0 i) (L.getD i 0)
structure dY (rows : List Row) : Prop where
 pict : ∀ r, bM rows 5 r = true -> c6 (aK rows r) = false /\ aK rows r ≠ 5
 conj : ∀ r, bE rows r = 0 ∨ bE rows r = 1 ∨ bE rows r = 2 ∨ bE rows r = 3
 cons : ∀ r, bE rows r ≠ 0 -> c6 (aK rows r) = false
 join : ∀ r, bE rows r = 1 ∨ bE rows r = 3 -> aK rows r = 4 ∨ aK rows r = 5 ∨ aK rows r = 8
theorem zx3 {a b : Int} (h : c6 a = true ∨ c6 b = true) (h2 : ¬(a = 1 /\ b = 2)) : gT a b = false := by
 unfold c6 at h;simp only [qk, aB] at h;unfold gT;by_cases h1 : a = 1
 ·rw [if_pos h1]; exact decide_eq_false fun h3 => h2 ⟨h1, h3⟩
 ·rw [if_neg h1];by_cases h3 : a = 2 ∨ a = 3
  ·rw [if_pos h3]
  ·rw [if_neg h3, if_pos (by omega)]
theorem zx4 {a b : Int} (h : c6 a = false) (h2 : c6 b = false) (h3 : b = 4 ∨ b = 5 ∨ b = 8) : gT a b = true := by
 unfold c6 at h h2;simp only [qab, bS] at h h2;unfold gT;rw [if_neg h.2.1, if_neg (by omega), if_neg (by omega), if_pos h3]
section
variable {rows : List Row} {L : List Int}
theorem vU {a k : Nat} : (a8 rows L a (k + 1)).last = aK rows (L.getD (a + k) 0) := rfl
theorem zx5 {a k : Nat} : (a8 rows L a (k + 1)).some = true := rfl
theorem zl5 {a : Nat} (ht : dY rows) : ∀ k, (a8 rows L a k).pict ≠ 0 -> c6 (a8 rows L a k).last = false
 | 0, h => absurd rfl h
 | k + 1, h => by
   rw [vU];by_cases h1 : bM rows 5 (L.getD (a + k) 0) = true
   ·exact (ht.pict _ h1).1
   ·have h' : (if (a8 rows L a k).pict = 1 /\ aK rows (L.getD (a + k) 0) = 4 then (1 : Int) else if (a8 rows L a k).pict = 1 /\ aK rows (L.getD (a + k) 0) = 5 then 2 else 0) ≠ 0 := by
     have h2 : (c9 rows (a8 rows L a k) (L.getD (a + k) 0)).pict ≠ 0 := h;unfold c9 at h2; simp only [if_neg h1] at h2; exact h2
    have : aK rows (L.getD (a + k) 0) = 4 ∨ aK rows (L.getD (a + k) 0) = 5 := by
     split at h'
     ·rename_i h3; exact .inl h3.2
     ·split at h'
      ·rename_i h3; exact .inr h3.2
      ·exact absurd rfl h'
    unfold c6;rcases this with e | e <;> rw [e] <;> rfl
theorem zl6 {a : Nat} (ht : dY rows) : ∀ k, (a8 rows L a k).conj ≠ 0 -> c6 (a8 rows L a k).last = false
 | 0, h => absurd rfl h
 | k + 1, h => by
   rw [vU];apply ht.cons;intro h0;apply h;show (c9 rows (a8 rows L a k) (L.getD (a + k) 0)).conj = 0;unfold c9;simp only [h0];rw [if_neg (by decide), if_neg (fun h => absurd h.2 (by decide)), if_neg (fun h => absurd h.2 (by decide))]
theorem zcu (k : Nat) : cO rows L (k + 1) = mR rows (a8 rows L 0 (k + 1)) (L.getD (k + 1) 0) := by
 unfold cO kE; rw [zx5]; rfl
theorem zl7 (ht : dY rows) {a : Nat} (hb : cO rows L a = true) : ∀ k, a8 rows L a (k + 1) = a8 rows L 0 (a + (k + 1))
 | 0 => by
   cases a with
   | zero => rfl
   | succ a =>
     rw [zcu] at hb;show c9 rows jK (L.getD (a + 1 + 0) 0) = c9 rows (a8 rows L 0 (a + 1)) (L.getD (0 + (a + 1)) 0);rw [show a + 1 + 0 = a + 1 by omega, show 0 + (a + 1) = a + 1 by omega];have hp := zl5 (a := 0) (L := L) ht (a + 1);have hc := zl6 (a := 0) (L := L) ht (a + 1);generalize a8 rows L 0 (a + 1) = st at *;generalize L.getD (a + 1) 0 = r at *;unfold mR at hb;simp only [qb, qi, qx] at hb;obtain ⟨h1, h2, h3, h4⟩ := hb
     have hs : aK rows r = 4 ∨ aK rows r = 5 ∨ aK rows r = 8 -> c6 st.last = true := fun h => by
      cases hh : c6 st.last with
      | true => rfl
      | false => rw [zx4 hh (by unfold c6; rcases h with e | e | e <;> rw [e] <;> rfl) h] at h1; cases h1
     unfold c9 jK
     have e1 : (if bM rows 5 r = true then (1 : Int) else if (0 : Int) = 1 /\ aK rows r = 4 then 1 else if (0 : Int) = 1 /\ aK rows r = 5 then 2 else 0) = (if bM rows 5 r = true then 1 else if st.pict = 1 /\ aK rows r = 4 then 1 else if st.pict = 1 /\ aK rows r = 5 then 2 else 0) := by
      by_cases h5 : bM rows 5 r = true
      ·rw [if_pos h5, if_pos h5]
      ·rw [if_neg h5, if_neg h5, if_neg (by omega), if_neg (by omega)]
       have : ∀ b, (b = 4 ∨ b = 5 ∨ b = 8) -> ¬(st.pict = 1 /\ aK rows r = b) := fun b hb h => by
        have := hs (by rw [h.2]; exact hb);rw [hp (by omega)] at this; cases this
       rw [if_neg (this 4 (by omega)), if_neg (this 5 (by omega))]
     have e2 : (if bE rows r = 2 then (1 : Int) else if (0 : Int) ≠ 0 /\ bE rows r = 1 then 2 else if (0 : Int) ≠ 0 /\ bE rows r = 3 then 0 else 0) = (if bE rows r = 2 then 1 else if st.conj ≠ 0 /\ bE rows r = 1 then 2 else if st.conj ≠ 0 /\ bE rows r = 3 then st.conj else 0) := by
      by_cases h5 : bE rows r = 2
      ·rw [if_pos h5, if_pos h5]
      ·rw [if_neg h5, if_neg h5, if_neg (by omega), if_neg (by omega)]
       have : ∀ c, (c = 1 ∨ c = 3) -> ¬(st.conj ≠ 0 /\ bE rows r = c) := fun c hc2 h => by
        have := hs (ht.join r (by rw [h.2]; exact hc2));rw [hc h.1] at this; cases this
       rw [if_neg (this 1 (by omega)), if_neg (this 3 (by omega))]
     have e3 : (decide (aK rows r = 6) && !false) = (decide (aK rows r = 6) && !st.odd) := by
      rcases h4 with h4 | h4
      ·rw [h4]
      ·rw [h4]; rfl
     dsimp only at e1 e2 e3 ⊢;rw [e1, e2, e3]
 | k + 1 => by
   show c9 rows (a8 rows L a (k + 1)) (L.getD (a + (k + 1)) 0) = c9 rows (a8 rows L 0 (a + (k + 1))) (L.getD (0 + (a + (k + 1))) 0);rw [zl7 ht hb k, qz]
theorem zx6 (ht : dY rows) {a : Nat} (hb : cO rows L a = true) (k : Nat) : kE rows (a8 rows L a (k + 1)) (L.getD (a + (k + 1)) 0) = cO rows L (a + (k + 1)) := by
 rw [zl7 ht hb k]; rfl
end
def eA (rows : List Row) (L : List Int) : Nat -> Nat -> Nat
 | 0, i => i
 | k + 1, i => if cO rows L i = true then i else eA rows L k (i + 1)
def aT (rows : List Row) (L : List Int) (a : Nat) : Nat := eA rows L (L.length - (a + 1)) (a + 1)
theorem zl8 (rows : List Row) (L : List Int) : ∀ k i, i <= eA rows L k i /\ eA rows L k i <= i + k /\ (eA rows L k i = i + k ∨ cO rows L (eA rows L k i) = true)
 | 0, i => ⟨qj _, qj _, .inl rfl⟩
 | k + 1, i => by
   rw [eA];split
   ·rename_i h; exact ⟨qj _, by omega, .inr h⟩
   ·obtain ⟨h1, h2, h3⟩ := zl8 rows L k (i + 1);exact ⟨by omega, by omega, h3.imp (fun e => by omega) id⟩
def kF (rows : List Row) (L : List Int) : Nat -> Nat -> List (List Int)
 | 0, _ => []
 | k + 1, i => if i < L.length then eF L i (aT rows L i) :: kF rows L k (aT rows L i) else []
def cY (rows : List Row) (L : List Int) (i : Nat) : List (List Int) := kF rows L (L.length + 1) i
theorem dZ {rows : List Row} {L : List Int} {i : Nat} (h : i < L.length) : i < aT rows L i /\ aT rows L i <= L.length /\ (aT rows L i = L.length ∨ cO rows L (aT rows L i) = true) := by
 obtain ⟨h1, h2, h3⟩ := zl8 rows L (L.length - (i + 1)) (i + 1);unfold aT;exact ⟨by omega, by omega, h3.imp (fun e => by omega) id⟩
theorem zl9 (rows : List Row) (L : List Int) : ∀ k i, L.length + 1 <= k + i -> kF rows L k i = kF rows L (k + 1) i
 | 0, i, h => by rw [kF, kF, if_neg (by omega)]
 | k + 1, i, h => by
   rw [kF, kF];by_cases hi : i < L.length
   ·rw [if_pos hi, if_pos hi, zl9 rows L k _ (by have := (dZ (rows := rows) hi).1; omega)]
   ·rw [if_neg hi, if_neg hi]
theorem lR {rows : List Row} {L : List Int} {i : Nat} (h : L.length <= i) : cY rows L i = [] := by unfold cY; rw [kF, if_neg (by omega)]
theorem nY {rows : List Row} {L : List Int} {i : Nat} (h : i < L.length) : cY rows L i = eF L i (aT rows L i) :: cY rows L (aT rows L i) := by
 have := (dZ (rows := rows) h).1;unfold cY;rw [<- zl9 rows L L.length (aT rows L i) (by omega), kF, if_pos h]
section
variable {rows : List Row} {L : List Int}
theorem zx7 (ht : dY rows) (k : Nat) : cO rows L (k + 1) =
 (if aK rows (L.getD k 0) = 1 /\ aK rows (L.getD (k + 1) 0) = 2 then false
  else if c6 (aK rows (L.getD k 0)) = true ∨ c6 (aK rows (L.getD (k + 1) 0)) = true then true
  else if nX (aK rows (L.getD k 0)) (aK rows (L.getD (k + 1) 0)) = true ∨ (aK rows (L.getD (k + 1) 0) = 4 ∨ aK rows (L.getD (k + 1) 0) = 5 ∨ aK rows (L.getD (k + 1) 0) = 8 ∨ aK rows (L.getD k 0) = 7) then false
  else !(decide (bE rows (L.getD (k + 1) 0) = 2) && decide ((a8 rows L 0 (k + 1)).conj = 2)) && (!(bM rows 5 (L.getD (k + 1) 0) && decide ((a8 rows L 0 (k + 1)).pict = 2)) && !(decide (aK rows (L.getD (k + 1) 0) = 6) && (a8 rows L 0 (k + 1)).odd))) := by
 rw [zcu];have hl : (a8 rows L 0 (k + 1)).last = aK rows (L.getD k 0) := by rw [vU, qz]
 have hp := zl5 (a := 0) (L := L) ht (k + 1);have hc := zl6 (a := 0) (L := L) ht (k + 1)
 have ho : (a8 rows L 0 (k + 1)).odd = true -> aK rows (L.getD k 0) = 6 := fun h => by
  have h' : (decide (aK rows (L.getD (0 + k) 0) = 6) && !(a8 rows L 0 k).odd) = true := h;simp only [qb, aB, qz] at h'; exact h'.1
 have h5 := ht.pict (L.getD (k + 1) 0);have h6 := ht.cons (L.getD (k + 1) 0);rw [hl] at hp hc;generalize a8 rows L 0 (k + 1) = st at *;generalize L.getD (k + 1) 0 = r at *;generalize L.getD k 0 = q at *;unfold mR;rw [hl]
 have hhard : c6 (aK rows q) = true ∨ c6 (aK rows r) = true -> (!(decide (st.pict = 2) && bM rows 5 r) && (!(decide (st.conj = 2) && decide (bE rows r = 2)) && !(st.odd && decide (aK rows r = 6)))) = true := fun h => by
  have g1 : (decide (st.pict = 2) && bM rows 5 r) = false := by
   rw [qx, bS];rcases h with h | h
   ·exact .inl fun e => by rw [hp (by omega)] at h; cases h
   ·right;cases ht5 : bM rows 5 r with
    | false => rfl
    | true => rw [(h5 ht5).1] at h; cases h
  have g2 : (decide (st.conj = 2) && decide (bE rows r = 2)) = false := by
   rw [qx, bS, bS];rcases h with h | h
   ·exact .inl fun e => by rw [hc (by omega)] at h; cases h
   ·exact .inr fun e => by rw [h6 (by omega)] at h; cases h
  have g3 : (st.odd && decide (aK rows r = 6)) = false := by
   rw [qx, bS];rcases h with h | h
   ·left;cases hod : st.odd with
    | false => rfl
    | true => rw [ho hod] at h; cases h
   ·exact .inr fun e => by rw [e] at h; cases h
  rw [g1, g2, g3]; rfl
 by_cases c1 : aK rows q = 1 /\ aK rows r = 2
 ·rw [if_pos c1];have : gT (aK rows q) (aK rows r) = true := by rw [c1.1, c1.2]; rfl
  rw [this]; rfl
 rw [if_neg c1];by_cases c2 : c6 (aK rows q) = true ∨ c6 (aK rows r) = true
 ·rw [if_pos c2, hhard c2, zx3 c2 c1]; rfl
 rw [if_neg c2]
 have c3 : c6 (aK rows q) = false /\ c6 (aK rows r) = false := by
  constructor
  ·cases h : c6 (aK rows q) with
   | false => rfl
   | true => exact absurd (.inl h) c2
  ·cases h : c6 (aK rows r) with
   | false => rfl
   | true => exact absurd (.inr h) c2
 have hst : gT (aK rows q) (aK rows r) = true ↔ (nX (aK rows q) (aK rows r) = true ∨ (aK rows r = 4 ∨ aK rows r = 5 ∨ aK rows r = 8 ∨ aK rows q = 7)) := by
  obtain ⟨q1, q2⟩ := c3;generalize aK rows q = a at *;generalize aK rows r = b at *;unfold c6 at q1 q2;simp only [qab, bS] at q1 q2;unfold gT;rw [if_neg q1.2.1, if_neg (by omega), if_neg (by omega)];by_cases d1 : b = 4 ∨ b = 5 ∨ b = 8
  ·rw [if_pos d1]; exact ⟨fun _ => .inr (by omega), fun _ => rfl⟩
  ·rw [if_neg d1];by_cases d2 : a = 7
   ·rw [if_pos d2]; exact ⟨fun _ => .inr (by omega), fun _ => rfl⟩
   ·rw [if_neg d2]; exact ⟨fun h => .inl h, fun h => h.resolve_right (by omega)⟩
 by_cases c4 : nX (aK rows q) (aK rows r) = true ∨ (aK rows r = 4 ∨ aK rows r = 5 ∨ aK rows r = 8 ∨ aK rows q = 7)
 ·rw [if_pos c4, hst.2 c4]; rfl
 ·rw [if_neg c4]
  have : gT (aK rows q) (aK rows r) = false := by
   cases h : gT (aK rows q) (aK rows r) with
   | false => rfl
   | true => exact absurd (hst.1 h) c4
  rw [this];simp only [qbz, qac];rw [qbm (decide (bE rows r = 2)), qbm (bM rows 5 r), qbm (decide (aK rows r = 6))];cases (decide (st.conj = 2) && decide (bE rows r = 2)) <;> cases (decide (st.pict = 2) && bM rows 5 r) <;> rfl
theorem zma (k : Nat) : (a8 rows L 0 (k + 1)).conj = if bE rows (L.getD k 0) = 2 then 1 else if (a8 rows L 0 k).conj ≠ 0 /\ bE rows (L.getD k 0) = 1 then 2 else if (a8 rows L 0 k).conj ≠ 0 /\ bE rows (L.getD k 0) = 3 then (a8 rows L 0 k).conj else 0 := by
 show (c9 rows (a8 rows L 0 k) (L.getD (0 + k) 0)).conj = _;rw [qz]; rfl
theorem zcv (k : Nat) : (a8 rows L 0 (k + 1)).pict = if bM rows 5 (L.getD k 0) = true then 1 else if (a8 rows L 0 k).pict = 1 /\ aK rows (L.getD k 0) = 4 then 1 else if (a8 rows L 0 k).pict = 1 /\ aK rows (L.getD k 0) = 5 then 2 else 0 := by
 show (c9 rows (a8 rows L 0 k) (L.getD (0 + k) 0)).pict = _;rw [qz]; rfl
theorem zmb (k : Nat) : (a8 rows L 0 (k + 1)).odd = (decide (aK rows (L.getD k 0) = 6) && !(a8 rows L 0 k).odd) := by
 show (c9 rows (a8 rows L 0 k) (L.getD (0 + k) 0)).odd = _;rw [qz]; rfl
end
end Go.Eng.Rows

namespace Go.Eng.Rows
open Go Go.Eng Go.Eng.Trie Go.Eng.Srt
def vV (rows : List Row) (hard : List Int) (lo hi : Int) : Bool := rows.all fun y => !(decide (y.kind = 4) && hard.contains y.a) || (decide (y.to < lo) || decide (hi < y.fr))
theorem zmc {rows : List Row} {hard : List Int} {lo hi r : Int} (h : vV rows hard lo hi = true) (h0 : hard.contains 0 = false) (h1 : hard.contains 12 = false) (h2 : hard.contains 13 = false) (hr : lo <= r /\ r <= hi) : hard.contains (aK rows r) = false := by
 unfold aK;split
 ·split <;> assumption
 ·unfold aF;cases hf : bR rows 4 r with
  | none => exact h0
  | some p =>
    obtain ⟨x, hx, hk, ha, _, h3, h4, _⟩ := iH hf;dsimp only;rw [<- ha];have := List.all_eq_true.1 h x hx;simp only [qk, qi, qx, aB, bS] at this;rcases this with (h5 | h5) | h5 | h5
    ·exact absurd hk h5
    ·exact h5
    ·omega
    ·omega
def zx8 (rows : List Row) : Bool := rows.all fun x =>
 (!(decide (x.kind = 5) && decide (x.a = 1)) || vV rows [1, 2, 3, 5] x.fr x.to) &&
 (!decide (x.kind = 6) || (vV rows [1, 2, 3] x.fr x.to && ((decide (0 <= x.a) && decide (x.a <= 2)) && (!decide (x.a = 1) || (decide (x.fr = x.to) && (decide (aK rows x.fr = 4) || (decide (aK rows x.fr = 5) || decide (aK rows x.fr = 8))))))))
theorem zx9 {b : Int} (h : ([1, 2, 3] : List Int).contains b = false) : c6 b = false := by
 simp only [qbq, qbt, qcc, qab, beq_eq_false_iff_ne, ne_eq] at h;unfold c6;simp only [qab, bS]; omega
theorem zya {rows : List Row} (h : zx8 rows = true) : dY rows := by
 have hall := List.all_eq_true.1 h
 have h6 : ∀ r, aF rows 6 r ≠ 0 -> ∃ x ∈ rows, x.kind = 6 /\ x.a = aF rows 6 r /\ x.fr <= r /\ r <= x.to := fun r hr => by
  unfold aF at hr ⊢;cases hf : bR rows 6 r with
  | none => rw [hf] at hr; exact absurd rfl hr
  | some p =>
    obtain ⟨x, hx, hk, ha, _, h3, h4, _⟩ := iH hf;exact ⟨x, hx, hk, ha, h3, h4⟩
 have g6 : ∀ x ∈ rows, x.kind = 6 -> vV rows [1, 2, 3] x.fr x.to = true /\ (0 <= x.a /\ x.a <= 2) /\ (x.a ≠ 1 ∨ (x.fr = x.to /\ (aK rows x.fr = 4 ∨ aK rows x.fr = 5 ∨ aK rows x.fr = 8))) := fun x hx hk => by
  have := hall x hx;simp only [qb, qk, qi, aB, bS] at this;rcases this.2 with h | h
  ·exact absurd hk h
  ·exact h
 refine ⟨fun r hr => ?_, fun r => ?_, fun r hr => ?_, fun r hr => ?_⟩
 ·unfold bM at hr;cases hf : bR rows 5 r with
  | none => rw [hf] at hr; cases hr
  | some p =>
    rw [hf] at hr;obtain ⟨x, hx, hk, ha, _, h3, h4, _⟩ := iH hf;have := hall x hx;simp only [qb, qk, qi, qx, bS] at this;rcases this.1 with (h5 | h5) | h5
    ·exact absurd hk h5
    ·exact absurd (ha.trans (of_decide_eq_true hr)) h5
    ·have := zmc h5 (by decide) (by decide) (by decide) ⟨h3, h4⟩;simp only [qbq, qbt, qcc, qab, beq_eq_false_iff_ne, ne_eq] at this;refine ⟨?_, this.2.2.2⟩;unfold c6;simp only [qab, bS]; exact ⟨this.2.2.1, this.1, this.2.1⟩
 ·unfold bE;split
  ·rename_i hn;obtain ⟨x, hx, hk, ha, _, _⟩ := h6 r hn;have := (g6 x hx hk).2.1;omega
  ·split
   ·exact .inr (.inr (.inr rfl))
   ·exact .inl rfl
 ·unfold bE at hr;split at hr
  ·rename_i hn;obtain ⟨x, hx, hk, ha, h3, h4⟩ := h6 r hn;exact zx9 (zmc (g6 x hx hk).1 (by decide) (by decide) (by decide) ⟨h3, h4⟩)
  ·split at hr
   ·rename_i h4;unfold c6;rcases h4.1 with e | e <;> rw [e] <;> rfl
   ·exact absurd rfl hr
 ·unfold bE at hr;split at hr
  ·rename_i hn;obtain ⟨x, hx, hk, ha, h3, h4⟩ := h6 r hn;obtain ⟨_, g2, g3⟩ := g6 x hx hk;have h1 : x.a = 1 := by omega
   obtain ⟨g4, g5⟩ := g3.resolve_left (fun h => h h1);rw [show r = x.fr by omega]; exact g5
  ·split at hr
   ·rename_i h4;rcases h4.1 with e | e
    ·exact .inl e
    ·exact .inr (.inl e)
   ·omega
end Go.Eng.Rows
namespace Go.Eng
open Go.Eng.Rows
theorem zyb : dY tab := zya (by kernel_rfl)
end Go.Eng


namespace Go.Eng.Srt
open Go Go.Eng
end Go.Eng.Srt
namespace Go.Eng.Rows
open Go Go.Eng Go.Eng.Trie Go.Eng.Srt
section
variable {rows : List Row}
end
def jL (C : List (List Int)) (i : Nat) : Nat := (C.take i).flatten.length
theorem zyc (C : List (List Int)) : jL C 0 = 0 := by simp [jL]
theorem zyd (C : List (List Int)) (i : Nat) : jL C i <= C.flatten.length := by
 have := congrArg (qbi ∘ List.flatten) (qak i C);simp only [Function.comp, qaz, ql] at this;unfold jL; omega
theorem zmd (C : List (List Int)) (i : Nat) : C.flatten.take (jL C i) = (C.take i).flatten := by
 have : C.flatten = (C.take i).flatten ++ (C.drop i).flatten := by rw [<- qaz, qak]
 rw [this]; exact List.take_left'  rfl
section
variable (ks : List (List Int))
end
section
variable {ks : List (List Int)} {want : List Int}
end
section
variable {rows : List Row} {L : List Int}
theorem zcw : ∀ (n i : Nat), L.length - i <= n -> (cY rows L i).flatten = L.drop i
 | 0, i, h => by rw [lR (by omega), qbj (by omega)]; rfl
 | n + 1, i, h => by
   by_cases hi : i < L.length
   ·obtain ⟨h1, h2, _⟩ := dZ (rows := rows) hi;rw [nY hi, qat, zcw n _ (by omega), zx0 (j := i) (b := aT rows L i) (by omega) h2]
   ·rw [lR (by omega), qbj (by omega)]; rfl
theorem sB (rows : List Row) (L : List Int) : (cY rows L 0).flatten = L := by rw [zcw L.length 0 (by omega)]; rfl
theorem zme : ∀ (n i : Nat), L.length - i <= n -> ∀ c ∈ cY rows L i, c ≠ []
 | 0, i, h, c, hc => by rw [lR (by omega)] at hc; cases hc
 | n + 1, i, h, c, hc => by
   by_cases hi : i < L.length
   ·obtain ⟨h1, h2, _⟩ := dZ (rows := rows) hi;rw [nY hi] at hc;rcases List.mem_cons.1 hc with rfl | hc
    ·rw [zx1 h1 h2]; exact List.cons_ne_nil _ _
    ·exact zme n _ (by omega) c hc
   ·rw [lR (by omega)] at hc; cases hc
theorem zcx (rows : List Row) (L : List Int) : cO rows L 0 = true := rfl
end
end Go.Eng.Rows

namespace Go.Eng
open Go Go.Proofs
section
variable (tc tg tj tf tp : PV) (M S : List (PV × PV)) (r : Int)
def zmf (R : PV -> Prop) : Prop :=
 if (decide (r >= 44032) && decide (r <= 55203) && (i32.wrap (r - 44032)).tmod (28 : Int) == 0) = true then R (Z6 12) else if (decide (r >= 44032) && decide (r <= 55203)) = true then R (Z6 13) else (∃ ps, some tg = some (PV.ptr ps) /\ PCall qa 119 [PV.ptr ps, Z6 (i64.wrap r)] fun v => ∃ n, v = Z6 n /\ R (Z6 n)) ∨ some tg = some PV.nilp /\ PCall qa 119 [PV.nilp, Z6 (i64.wrap r)] fun v => ∃ n, v = Z6 n /\ R (Z6 n)
theorem zye {R : PV -> Prop} (h : zmf tg r R) : PCall qa 142 [.ptr [tc, tg, tj, tf, tp, .mp M, .mp S], .int .i32 r] R :=
 PCall.wz Tryz.func142 aM [0, 1, 4, 5, 18, 25] aX h
end
section
variable (tc tg tj tf tp : PV) (M S : List (PV × PV)) (r : Int)
def zmg (R : PV -> Prop) : Prop :=
 let V1 := PCall qa 142 [PV.ptr [tc, tg, tj, tf, tp, PV.mp M, PV.mp S], Z3 r] fun v1 => ∃ n1, v1 = Z6 n1 /\ if ((n1 == 4 || n1 == 5) && r != 8204) = true then R (Z6 3) else R (Z6 0); (∃ ps, some tj = some (PV.ptr ps) /\ PCall qa 119 [PV.ptr ps, Z6 (i64.wrap r)] fun v => ∃ n, v = Z6 n /\ if (n != 0) = true then R (Z6 n) else V1) ∨ some tj = some PV.nilp /\ PCall qa 119 [PV.nilp, Z6 (i64.wrap r)] fun v => ∃ n, v = Z6 n /\ if (n != 0) = true then R (Z6 n) else V1
theorem zyf {R : PV -> Prop} (h : zmg tc tg tj tf tp M S r R) : PCall qa 144 [.ptr [tc, tg, tj, tf, tp, .mp M, .mp S], .int .i32 r] R :=
 PCall.wz Tryz.func144 aM [0, 1, 4, 5, 6, 8, 17, 31] aX h
end
section
variable (tc tg tj tf tp : PV) (M S : List (PV × PV)) (r : Int)
def zmh (R : PV -> Prop) : Prop :=
 (∃ ps, some tf = some (PV.ptr ps) /\ PCall qa 92 [PV.ptr ps, Z6 (i64.wrap r)] fun v => ∃ cs, v = PV.agg cs /\ cs.length = 4 /\ ∃ b, cs.head? = some (Zb b) /\ ∃ b1, cs.tail.head? = some (Zb b1) /\ ∃ b2, cs.tail.tail.head? = some (Zb b2) /\ ∃ b3, cs.tail.tail.tail.head? = some (Zb b3) /\ R (Zb b)) ∨ some tf = some PV.nilp /\ PCall qa 92 [PV.nilp, Z6 (i64.wrap r)] fun v => ∃ cs, v = PV.agg cs /\ cs.length = 4 /\ ∃ b, cs.head? = some (Zb b) /\ ∃ b1, cs.tail.head? = some (Zb b1) /\ ∃ b2, cs.tail.tail.head? = some (Zb b2) /\ ∃ b3, cs.tail.tail.tail.head? = some (Zb b3) /\ R (Zb b)
theorem zyg {R : PV -> Prop} (h : zmh tf r R) : PCall qa 143 [.ptr [tc, tg, tj, tf, tp, .mp M, .mp S], .int .i32 r] R :=
 PCall.wz Tryz.func143 aM [0, 1, 4] aX h
end
section
variable (n f : Bool) (es : LL) (r : Int)
def zmi (R : PV -> Prop) : Prop :=
 if (decide (r >= 44032) && decide (r <= 55203)) = true then if ((i32.wrap (r - 44032)).tmod (28 : Int) == 0) = true then R (Z6 12) else R (Z6 13) else PCall qa 129 [PV.sl n f es, Z6 4, Z3 r] fun v => ∃ n1, v = Z6 n1 /\ R (Z6 n1)
theorem zyh {R : PV -> Prop} (h : zmi n f es r R) : PCall qa 152 [.sl n f es, .int .i32 r] R :=
 PCall.wz Tryz.func152 aM [0, 1, 4, 10, 14] aX h
end
section
variable (n f : Bool) (es : LL) (r : Int)
def zmj (R : PV -> Prop) : Prop :=
 PCall qa 129 [PV.sl n f es, Z6 6, Z3 r] fun v => ∃ n1, v = Z6 n1 /\ if (n1 != 0) = true then R (Z6 n1) else PCall qa 152 [PV.sl n f es, Z3 r] fun v1 => ∃ n2, v1 = Z6 n2 /\ if ((n2 == 4 || n2 == 5) && r != 8204) = true then R (Z6 3) else R (Z6 0)
theorem zyi {R : PV -> Prop} (h : zmj n f es r R) : PCall qa 170 [.sl n f es, .int .i32 r] R :=
 PCall.wz Tryz.func170 aM [0, 1, 4, 5, 6, 11, 25] aX h
end
section
variable (a b : Int)
def zmk (R : PV -> Prop) : Prop :=
 let X := if (a == 13) = true then if (a == 13) = true then R (Zb (b == 11)) else R (Zb false) else if (a == 11) = true then R (Zb (b == 11)) else R (Zb false)
 let A := if (a == 7) = true then R (Zb true) else if (a == 9) = true then R (Zb (b == 9 || b == 10 || b == 12 || b == 13)) else if (a == 12) = true then if (a == 12) = true then R (Zb (b == 10 || b == 11)) else X else if (a == 10) = true then R (Zb (b == 10 || b == 11)) else X
 let B := if (b == 4) = true then if (b == 4) = true then R (Zb true) else A else if (b == 5) = true then if (b == 5) = true then R (Zb true) else A else if (b == 8) = true then R (Zb true) else A
 let C := if (b == 1) = true then if (b == 1) = true then R (Zb false) else B else if (b == 2) = true then if (b == 2) = true then R (Zb false) else B else if (b == 3) = true then R (Zb false) else B
 if (a == 1) = true then R (Zb (b == 2)) else if (a == 2) = true then if (a == 2) = true then R (Zb false) else C else if (a == 3) = true then R (Zb false) else C
theorem zyj {R : PV -> Prop} (h : zmk a b R) : PCall qa 145 [.int .i64 a, .int .i64 b] R :=
 PCall.wz Tryz.func145 aM [0, 1, 4, 5, 6, 10, 13, 14, 18, 22, 23, 25, 41, 50] aX h
end
section
variable (so od : Bool) (la pi co : Int) (tc tg tj tf tp : PV) (M S : List (PV × PV)) (r : Int)
def zml (R : PV -> Prop) : Prop :=
 PCall qa 142 [PV.ptr [tc, tg, tj, tf, tp, PV.mp M, PV.mp S], Z3 r] fun v => ∃ n, v = Z6 n /\ PCall qa 143 [PV.ptr [tc, tg, tj, tf, tp, PV.mp M, PV.mp S], Z3 r] fun v1 => ∃ b, v1 = Zb b /\ PCall
 qa 144 [PV.ptr [tc, tg, tj, tf, tp, PV.mp M, PV.mp S], Z3 r] fun v2 => ∃ n1, v2 = Z6 n1 /\ PCall qa 145 [Z6 la, Z6 n] fun v3 => ∃ b1, v3 = Zb b1 /\
 let C : Int -> Bool -> Bool -> Prop := fun p o c => if (n1 == 2) = true then R (PV.tup [PV.agg [Zb true, Z6 n, Z6 p, Z6 1, Zb o], Zb c]) else if (co != 0 && n1 == 1) = true then R (PV.tup [PV.agg [Zb true, Z6 n, Z6 p, Z6 2, Zb o], Zb c]) else if (co != 0 && n1 == 3) = true then R (PV.tup [PV.agg [Zb true, Z6 n, Z6 p, Z6 co, Zb o], Zb c]) else R (PV.tup [PV.agg [Zb true, Z6 n, Z6 p, Z6 0, Zb o], Zb c])
 let D : Bool -> Bool -> Prop := fun o c => if b = true then C 1 o c else if (pi == 1 && n == 4) = true then C 1 o c else if (pi == 1 && n == 5) = true then C 2 o c else C 0 o c
 let E : Bool -> Prop := fun c => if (n == 6) = true then D (!od) c else D false c
 if (!b1) = true then if (!(pi == 2 && b)) = true then if (!(co == 2 && n1 == 2)) = true then E (!so || !(od && n == 6)) else E (!so || false) else E (!so || false) else E (!so || false)
theorem zyk {R : PV -> Prop} (h : zml so od la pi co tc tg tj tf tp M S r R) : PCall qa 120 [.agg [.bool so, .int .i64 la, .int .i64 pi, .int .i64 co, .bool od], .ptr [tc, tg, tj, tf, tp, .mp M, .mp S], .int .i32 r] R :=
 PCall.wz Tryz.func120 aM [0, 1, 2, 3, 6, 7, 8, 9, 10, 11, 12, 64, 67, 76, 85, 89, 98] aX h
end
def zcy (tc tg tj tf tp : PV) (M S : List (PV × PV)) (n f : Bool) (es : LL) (x2 : Int) (h0_0 : Bool) (h0_1 h0_2 h0_3 : Int) (h0_4 : Bool) : Env × Hp := ([(0, LV.pv (PV.ptr [tc, tg, tj, tf, tp, PV.mp M, PV.mp S])), (1, LV.pv (PV.sl n f es)), (2, Y6 x2), (7, LV.box 0 0)], [.box [.pv (.bool h0_0), Y6 h0_1, Y6 h0_2, Y6 h0_3, .pv (.bool h0_4)]])
section
variable (tc tg tj tf tp : PV) (M S : List (PV × PV)) (n f : Bool) (es : LL) (k : Int) (J : Int -> Bool -> Int -> Int -> Int -> Bool -> Prop) (μ : Int -> Bool -> Int -> Int -> Int -> Bool -> Nat)
def zmm (R : PV -> Prop) : Prop :=
 if (decide (k < 0) || decide (k >= (↑es.length : Int))) = true then R (Z6 (↑es.length : Int)) else aH es k 1 /\ ∃ n1, (es.getD k.toNat []).head? = some (Z3 n1) /\ PCall qa 120 [PV.agg [Zb false, Z6 0, Z6 0, Z6 0, Zb false],
  PV.ptr [tc, tg, tj, tf, tp, PV.mp M, PV.mp S], Z3 n1] fun v => ∃ vs, v = PV.tup vs /\ vs.length = 2 /\ ∃ x, vs.head? = some x /\ ∃ cs, x = PV.agg cs /\ cs.length = 5 /\ ∃ b, cs.head? = some (Zb b)
  /\ ∃ n2, cs.tail.head? = some (Z6 n2) /\ ∃ n3, cs.tail.tail.head? = some (Z6 n3) /\ ∃ n4, cs.tail.tail.tail.head? = some (Z6 n4) /\ ∃ b1, cs.tail.tail.tail.tail.head? = some (Zb b1) /\ ∃ (x1 : PV),
  vs.tail.head? = some x1 /\ ∃ b2, x1 = Zb b2 /\ (aD (zcy tc tg tj tf tp M S n f es (i64.wrap (k + 1)) b n2 n3 n4 b1) /\ J (i64.wrap (k + 1)) b n2 n3 n4 b1) /\ ∀ (x2 : Int) (h0_0 : Bool) (h0_1 h0_2 h0_3 : Int)
  (h0_4 : Bool), J x2 h0_0 h0_1 h0_2 h0_3 h0_4 ->
 let K5 := fun (y0_ : Int) (y1_ : Bool) (y2_ y3_ y4_ : Int) (y5_ : Bool) => aD (zcy tc tg tj tf tp M S n f es y0_ y1_ y2_ y3_ y4_ y5_) /\ J y0_ y1_ y2_ y3_ y4_ y5_ /\ μ y0_ y1_ y2_ y3_ y4_ y5_ < μ x2 h0_0 h0_1 h0_2 h0_3
  h0_4; if decide (x2 < (↑es.length : Int)) = true then aH es x2 1 /\ ∃ n5, (es.getD x2.toNat []).head? = some (Z3 n5) /\ (PCall qa 120 [PV.agg [Zb h0_0, Z6 h0_1, Z6 h0_2, Z6 h0_3, Zb h0_4], PV.ptr [tc, tg, tj, tf, tp,
  PV.mp M, PV.mp S], Z3 n5] fun v1 => ∃ vs1, v1 = PV.tup vs1 /\ vs1.length = 2 /\ ∃ x3, vs1.head? = some x3 /\ ∃ cs1, x3 = PV.agg cs1 /\ cs1.length = 5 /\ ∃ b3, cs1.head? = some (Zb b3) /\ ∃ (n6 :
  Int), cs1.tail.head? = some (Z6 n6) /\ ∃ n7, cs1.tail.tail.head? = some (Z6 n7) /\ ∃ n8, cs1.tail.tail.tail.head? = some (Z6 n8) /\ ∃ b4, cs1.tail.tail.tail.tail.head? = some (Zb b4) /\ ∃ x4, vs1.tail.head? =
  some x4 /\ ∃ b5, x4 = Zb b5 /\
 let V1 := if b5 = true then R (Z6 x2) else K5 (i64.wrap (x2 + 1)) b3 n6 n7 n8 b4; V1 /\ V1 /\ V1) /\ PCall qa 120 [PV.agg [Zb h0_0, Z6 h0_1, Z6 h0_2, Z6 h0_3, Zb h0_4], PV.ptr [tc, tg, tj, tf, tp, PV.mp M, PV.mp S], Z3 n5] fun
  (v1 : PV) => ∃ vs1, v1 = PV.tup vs1 /\ vs1.length = 2 /\ ∃ x3, vs1.head? = some x3 /\ ∃ cs1, x3 = PV.agg cs1 /\ cs1.length = 5 /\ ∃ b3, cs1.head? = some (Zb b3) /\ ∃ n6, cs1.tail.head? = some (Z6
  n6) /\ ∃ n7, cs1.tail.tail.head? = some (Z6 n7) /\ ∃ n8, cs1.tail.tail.tail.head? = some (Z6 n8) /\ ∃ b4, cs1.tail.tail.tail.tail.head? = some (Zb b4) /\ ∃ x4, vs1.tail.head? = some x4 /\ ∃ b5, x4 = Zb
  b5 /\
 let V2 := if b5 = true then R (Z6 x2) else K5 (i64.wrap (x2 + 1)) b3 n6 n7 n8 b4; V2 /\ V2 else R (Z6 x2)
theorem zyl {R : PV -> Prop} (h : zmm tc tg tj tf tp M S n f es k J μ R) : PCall qa 94 [.ptr [tc, tg, tj, tf, tp, .mp M, .mp S], .sl n f es, .int .i64 k] R :=
 PCall.wz Tryz.func94 aM [0, 1, 2, 6, 7, 9, 10, 18, 36, 49] (bU 5 (aZ cz6 (zcy tc tg tj tf tp M S n f es) J μ (fun e h => (gI e 2, hB h 0 0, hI h 0 1, hI h 0 2, hI h 0 3, hB h 0 4)) [] [0, 1, 2, 7] [])) h
end
def zcz (tc tg tj tf tp : PV) (M S : List (PV × PV)) (n f : Bool) (es : LL) (x6 : Int) (n_0 : Bool) (s_0 : LL) : Env × Hp := ([(0, LV.pv (PV.ptr [tc, tg, tj, tf, tp, PV.mp M, PV.mp S])), (1, LV.pv (PV.sl n f es)), (5, LV.own 0), (6, Y6 x6)], [.sl (22, 1) true n_0 s_0])
section
variable (tc tg tj tf tp : PV) (M S : List (PV × PV)) (n f : Bool) (es : LL) (J : Int -> Bool -> LL -> Prop) (μ : Int -> Bool -> LL -> Nat)
def zmn (R : PV -> Prop) : Prop :=
 (aD (zcz tc tg tj tf tp M S n f es (0 : Int) true []) /\ J (0 : Int) true []) /\ ∀ (x6 : Int) (n_0 : Bool) (s_0 : LL), J x6 n_0 s_0 -> if decide (x6 < (↑es.length : Int)) = true then PCall qa 94 [PV.ptr [tc, tg, tj, tf, tp, PV.mp M, PV.mp S], PV.sl n f es, Z6 x6] fun v => ∃ n1, v = Z6 n1 /\ (cZ es.length (some x6) (some n1) none /\ aR es 1) /\ PCall qa 67 [PV.sl n (f && decide (n1 = (↑es.length : Int))) (qf x6.toNat (qo n1.toNat es))] fun v1 => ∃ n2 f1 es1, v1 = PV.sl n2 f1 es1 /\ (aR [[PV.sl n2 f1 es1]] 1 /\ (s_0.length + 1) * 24 <= 140737488355328) /\ aD (zcz tc tg tj tf tp M S n f es n1 (n_0 && false) (s_0 ++ [[PV.sl n2 f1 es1]])) /\ J n1 (n_0 && false) (s_0 ++ [[PV.sl n2 f1 es1]]) /\ μ n1 (n_0 && false) (s_0 ++ [[PV.sl n2 f1 es1]]) < μ x6 n_0 s_0 else R (PV.sl n_0 false s_0)
theorem zym {R : PV -> Prop} (h : zmn tc tg tj tf tp M S n f es J μ R) : PCall qa 59 [.ptr [tc, tg, tj, tf, tp, .mp M, .mp S], .sl n f es] R :=
 PCall.wz Tryz.func59 aM [0, 1, 4, 5, 6, 7, 11] (bU 3 (aZ dV (zcz tc tg tj tf tp M S n f es) J μ (fun e h => (gI e 6, oN h 0, oS h 0)) [(5, 22, 1)] [0, 1, 5, 6] [])) h
end
section
variable (a : Int)
def zmo (R : PV -> Prop) : Prop :=
 R (Zb (a == 3 || a == 1 || a == 2))
theorem zyn {R : PV -> Prop} (h : zmo a R) : PCall qa 153 [.int .i64 a] R :=
 PCall.wz Tryz.func153 aM [0, 2] aX h
end
section
variable (a b : Int)
def zmp (R : PV -> Prop) : Prop :=
 if (a == 9) = true then R (Zb (b == 9 || b == 10 || b == 12 || b == 13)) else if (a == 12 || a == 10) = true then R (Zb (b == 10 || b == 11)) else if (a == 13 || a == 11) = true then R (Zb (b == 11)) else R (Zb false)
theorem zyo {R : PV -> Prop} (h : zmp a b R) : PCall qa 154 [.int .i64 a, .int .i64 b] R :=
 PCall.wz Tryz.func154 aM [0, 1, 4, 6, 26, 38] aX h
end
def zc0 (n f : Bool) (es : LL) (n2 f2 : Bool) (ss : LL) (x7 : Bool) (x8 : Int) : Env × Hp := ([(0, LV.pv (PV.sl n f es)), (1, LV.pv (PV.sl n2 f2 ss)), (7, .pv (.bool x7)), (8, Y6 x8)], [])
section
variable (n f : Bool) (es : LL) (n2 f2 : Bool) (ss : LL) (k : Int) (J : Bool -> Int -> Prop) (μ : Bool -> Int -> Nat)
def zmq (R : PV -> Prop) : Prop :=
 aH ss k 1 /\ ∃ n1, (ss.getD k.toNat []).head? = some (Z3 n1) /\ PCall qa 170 [PV.sl n f es, Z3 n1] fun v => ∃ n3, v = Z6 n3 /\ if (n3 != 2) = true then R (Zb false) else (aD (zc0 n f es n2 f2 ss false (i64.wrap (k - 1))) /\ J false (i64.wrap (k - 1))) /\ ∀ (x7 : Bool) (x8 : Int), J x7 x8 ->
 let K5 := fun (y0_ : Bool) (y1_ : Int) => aD (zc0 n f es n2 f2 ss y0_ y1_) /\ J y0_ y1_ /\ μ y0_ y1_ < μ x7 x8; if decide (x8 >= 0) = true then aH ss x8 1 /\ ∃ n4, (ss.getD x8.toNat []).head? = some (Z3 n4) /\ PCall qa 170 [PV.sl n f es, Z3 n4] fun v1 => ∃ n5, v1 = Z6 n5 /\ if (n5 == 2) = true then R (Zb x7) else if (n5 == 0) = true then R (Zb false) else if (n5 == 1) = true then K5 true (i64.wrap (x8 - 1)) else K5 x7 (i64.wrap (x8 - 1)) else R (Zb false)
theorem zyp {R : PV -> Prop} (h : zmq n f es n2 f2 ss k J μ R) : PCall qa 155 [.sl n f es, .sl n2 f2 ss, .int .i64 k] R :=
 PCall.wz Tryz.func155 aM [0, 1, 2, 6, 7, 8, 9, 16, 20, 30, 33, 35] (bU 5 (aZ iY (zc0 n f es n2 f2 ss) J μ (fun e h => (gB e 7, gI e 8)) [] [0, 1, 7, 8] [])) h
end
def zc1 (n f : Bool) (es : LL) (n2 f2 : Bool) (ss : LL) (x7 : Int) : Env × Hp := ([(0, LV.pv (PV.sl n f es)), (1, LV.pv (PV.sl n2 f2 ss)), (7, Y6 x7)], [])
section
variable (n f : Bool) (es : LL) (n2 f2 : Bool) (ss : LL) (k : Int) (J : Int -> Prop) (μ : Int -> Nat)
def zmr (R : PV -> Prop) : Prop :=
 aH ss k 1 /\ ∃ n1, (ss.getD k.toNat []).head? = some (Z3 n1) /\ PCall qa 129 [PV.sl n f es, Z6 5, Z3 n1] fun v => ∃ n3, v = Z6 n3 /\ if (n3 != 1) = true then R (Zb false) else aH ss (i64.wrap (k - 1)) 1 /\ ∃ n4, (ss.getD (i64.wrap (k - 1)).toNat []).head? = some (Z3 n4) /\ PCall qa 152 [PV.sl n f es, Z3 n4] fun v1 => ∃ n5, v1 = Z6 n5 /\ if (n5 != 5) = true then R (Zb false) else (aD (zc1 n f es n2 f2 ss (i64.wrap (k - 2))) /\ J (i64.wrap (k - 2))) /\ ∀ (x7 : Int), J x7 -> if decide (x7 >= 0) = true then aH ss x7 1 /\ ∃ n6, (ss.getD x7.toNat []).head? = some (Z3 n6) /\ PCall qa 129 [PV.sl n f es, Z6 5, Z3 n6] fun v2 => ∃ n7, v2 = Z6 n7 /\ if (n7 == 1) = true then R (Zb true) else aH ss x7 1 /\ ∃ n8, (ss.getD x7.toNat []).head? = some (Z3 n8) /\ PCall qa 152 [PV.sl n f es, Z3 n8] fun v3 => ∃ n9, v3 = Z6 n9 /\ if (n9 != 4) = true then R (Zb false) else aD (zc1 n f es n2 f2 ss (i64.wrap (x7 - 1))) /\ J (i64.wrap (x7 - 1)) /\ μ (i64.wrap (x7 - 1)) < μ x7 else R (Zb false)
theorem zyq {R : PV -> Prop} (h : zmr n f es n2 f2 ss k J μ R) : PCall qa 156 [.sl n f es, .sl n2 f2 ss, .int .i64 k] R :=
 PCall.wz Tryz.func156 aM [0, 1, 2, 6, 7, 24, 28, 37, 44] (bU 4 (aZ g9 (zc1 n f es n2 f2 ss) J μ (fun e h => (((gI e 7), ()))) [] [0, 1, 7] [])) h
end
def zc2 (n f : Bool) (es : LL) (n2 f2 : Bool) (ss : LL) (x7 x8 : Int) : Env × Hp := ([(0, LV.pv (PV.sl n f es)), (1, LV.pv (PV.sl n2 f2 ss)), (7, Y6 x7), (8, Y6 x8)], [])
section
variable (n f : Bool) (es : LL) (n2 f2 : Bool) (ss : LL) (k : Int) (J : Int -> Int -> Prop) (μ : Int -> Int -> Nat)
def zms (R : PV -> Prop) : Prop :=
 aH ss k 1 /\ ∃ n1, (ss.getD k.toNat []).head? = some (Z3 n1) /\ PCall qa 152 [PV.sl n f es, Z3 n1] fun v => ∃ n3, v = Z6 n3 /\ if (n3 != 6) = true then R (Zb false) else (aD (zc2 n f es n2 f2 ss (0 : Int) (i64.wrap (k - 1))) /\ J (0 : Int) (i64.wrap (k - 1))) /\ ∀ (x7 x8 : Int), J x7 x8 -> if decide (x8 >= 0) = true then aH ss x8 1 /\ ∃ n4, (ss.getD x8.toNat []).head? = some (Z3 n4) /\ PCall qa 152 [PV.sl n f es, Z3 n4] fun v1 => ∃ n5, v1 = Z6 n5 /\ if (n5 == 6) = true then aD (zc2 n f es n2 f2 ss (i64.wrap (x7 + 1)) (i64.wrap (x8 - 1))) /\ J (i64.wrap (x7 + 1)) (i64.wrap (x8 - 1)) /\ μ (i64.wrap (x7 + 1)) (i64.wrap (x8 - 1)) < μ x7 x8 else R (Zb (x7.tmod (2 : Int) == 1)) else R (Zb (x7.tmod (2 : Int) == 1))
theorem zyr {R : PV -> Prop} (h : zms n f es n2 f2 ss k J μ R) : PCall qa 157 [.sl n f es, .sl n2 f2 ss, .int .i64 k] R :=
 PCall.wz Tryz.func157 aM [0, 1, 2, 6, 7, 8, 15, 28] (bU 5 (aZ iY (zc2 n f es n2 f2 ss) J μ (fun e h => (gI e 7, gI e 8)) [] [0, 1, 7, 8] [])) h
end
section
variable (n f : Bool) (es : LL) (n2 f2 : Bool) (ss : LL) (k : Int)
def zmt (R : PV -> Prop) : Prop :=
 if (k == 0) = true then R (Zb true) else aH ss (i64.wrap (k - 1)) 1 /\ ∃ n1, (ss.getD (i64.wrap (k - 1)).toNat []).head? = some (Z3 n1) /\ aH ss k 1 /\ ∃ n3, (ss.getD k.toNat []).head? = some (Z3 n3) /\ PCall qa 152 [PV.sl n f es, Z3 n1] fun v => ∃ n4, v = Z6 n4 /\ PCall qa 152 [PV.sl n f es, Z3 n3] fun v1 => ∃ n5, v1 = Z6 n5 /\ if (n4 == 1 && n5 == 2) = true then R (Zb false) else PCall qa 153 [Z6 n4] fun v2 => ∃ b, v2 = Zb b /\ if b = true then R (Zb true) else PCall qa 153 [Z6 n5] fun v3 => ∃ b1, v3 = Zb b1 /\ if b1 = true then R (Zb true) else PCall qa 154 [Z6 n4, Z6 n5] fun v4 => ∃ b2, v4 = Zb b2 /\ if (b2 || n5 == 4 || n5 == 5 || n5 == 8 || n4 == 7) = true then R (Zb false) else PCall qa 155 [PV.sl n f es, PV.sl n2 f2 ss, Z6 k] fun v5 => ∃ b3, v5 = Zb b3 /\ if (!b3) = true then PCall qa 156 [PV.sl n f es, PV.sl n2 f2 ss, Z6 k] fun v6 => ∃ b4, v6 = Zb b4 /\ if (!b4) = true then PCall qa 157 [PV.sl n f es, PV.sl n2 f2 ss, Z6 k] fun v7 => ∃ b5, v7 = Zb b5 /\ R (Zb !b5) else R (Zb false) else R (Zb false)
theorem zys {R : PV -> Prop} (h : zmt n f es n2 f2 ss k R) : PCall qa 124 [.sl n f es, .sl n2 f2 ss, .int .i64 k] R :=
 PCall.wz Tryz.func124 aM [0, 1, 2, 6, 7, 8, 10, 29, 35, 54] aX h
end
def zc3 (n f : Bool) (es : LL) (n2 f2 : Bool) (ss : LL) (x7 : Int) : Env × Hp := ([(0, LV.pv (PV.sl n f es)), (1, LV.pv (PV.sl n2 f2 ss)), (7, Y6 x7)], [])
section
variable (n f : Bool) (es : LL) (n2 f2 : Bool) (ss : LL) (k : Int) (J : Int -> Prop) (μ : Int -> Nat)
def zmu (R : PV -> Prop) : Prop :=
 (aD (zc3 n f es n2 f2 ss (i64.wrap (k + 1))) /\ J (i64.wrap (k + 1))) /\ ∀ (x7 : Int), J x7 -> if decide (x7 < (↑ss.length : Int)) = true then PCall qa 124 [PV.sl n f es, PV.sl n2 f2 ss, Z6 x7] fun v => ∃ b, v = Zb b /\ if b = true then R (Z6 x7) else aD (zc3 n f es n2 f2 ss (i64.wrap (x7 + 1))) /\ J (i64.wrap (x7 + 1)) /\ μ (i64.wrap (x7 + 1)) < μ x7 else R (Z6 (↑ss.length : Int))
theorem zyt {R : PV -> Prop} (h : zmu n f es n2 f2 ss k J μ R) : PCall qa 97 [.sl n f es, .sl n2 f2 ss, .int .i64 k] R :=
 PCall.wz Tryz.func97 aM [0, 1, 2, 6, 7, 13, 19] (bU 2 (aZ g9 (zc3 n f es n2 f2 ss) J μ (fun e h => (((gI e 7), ()))) [] [0, 1, 7] [])) h
end
def zc4 (n f : Bool) (es : LL) (n2 f2 : Bool) (ss : LL) (x6 : Int) (n_0 : Bool) (s_0 : LL) : Env × Hp := ([(0, LV.pv (PV.sl n f es)), (1, LV.pv (PV.sl n2 f2 ss)), (5, LV.own 0), (6, Y6 x6)], [.sl (22, 1) true n_0 s_0])
section
variable (n f : Bool) (es : LL) (n2 f2 : Bool) (ss : LL) (J : Int -> Bool -> LL -> Prop) (μ : Int -> Bool -> LL -> Nat)
def zmv (R : PV -> Prop) : Prop :=
 (aD (zc4 n f es n2 f2 ss (0 : Int) true []) /\ J (0 : Int) true []) /\ ∀ (x6 : Int) (n_0 : Bool) (s_0 : LL), J x6 n_0 s_0 -> if decide (x6 < (↑ss.length : Int)) = true then PCall qa 97 [PV.sl n f es, PV.sl n2 f2 ss, Z6 x6] fun v => ∃ n1, v = Z6 n1 /\ (cZ ss.length (some x6) (some n1) none /\ aR ss 1) /\ (aR [[PV.sl n2 (f2 && decide (n1 = (↑ss.length : Int))) (qf x6.toNat (qo n1.toNat ss))]] 1 /\ (s_0.length + 1) * 24 <= 140737488355328) /\ aD (zc4 n f es n2 f2 ss n1 (n_0 && false) (s_0 ++ [[PV.sl n2 (f2 && decide (n1 = (↑ss.length : Int))) (qf x6.toNat (qo n1.toNat ss))]])) /\ J n1 (n_0 && false) (s_0 ++ [[PV.sl n2 (f2 && decide (n1 = (↑ss.length : Int))) (qf x6.toNat (qo n1.toNat ss))]]) /\ μ n1 (n_0 && false) (s_0 ++ [[PV.sl n2 (f2 && decide (n1 = (↑ss.length : Int))) (qf x6.toNat (qo n1.toNat ss))]]) < μ x6 n_0 s_0 else R (PV.sl n_0 false s_0)
theorem zyu {R : PV -> Prop} (h : zmv n f es n2 f2 ss J μ R) : PCall qa 63 [.sl n f es, .sl n2 f2 ss] R :=
 PCall.wz Tryz.func63 aM [0, 1, 4, 5, 6, 7, 11] (bU 3 (aZ dV (zc4 n f es n2 f2 ss) J μ (fun e h => (gI e 6, oN h 0, oS h 0)) [(5, 22, 1)] [0, 1, 5, 6] [])) h
end
end Go.Eng
namespace Go.Eng
open Go Go.Proofs Go.Eng.Rows Go.Eng.Trie Go.Eng.Srt
def zc5 (st : SSt) : PV := .agg [.bool st.some, .int .i64 st.last, .int .i64 st.pict, .int .i64 st.conj, .bool st.odd]
theorem zmw {r : Int} (h : 44032 <= r /\ r <= 55203) : i32.wrap (r - 44032) = r - 44032 := c7 (by omega) (by omega)
section
variable {rows : List Row} {v : PV}
theorem vW (hv : c8 rows v) {r : Int} (hr : -2147483648 <= r /\ r <= 2147483647) : PCall qa 142 [v, .int .i32 r] fun x => x = .int .i64 (aK rows r) := by
 obtain ⟨tc, tg, tj, tf, tp, made, sec, rfl, ht, hm⟩ := hv;refine zye _ _ _ _ _ _ _ _ ?_; unfold zmf;by_cases hh : 44032 <= r /\ r <= 55203
 ·rw [zmw hh];by_cases hm28 : (r - 44032).tmod 28 = 0
  ·refine bB (by simp [hh, hm28]) ?_;unfold aK; rw [if_pos hh, if_pos hm28]
  ·refine bK (by simp [hm28]) (bB (by simp [hh]) ?_);unfold aK; rw [if_pos hh, if_neg hm28]
 ·refine bK (by simp; omega) (bK (by simp; omega) ?_);obtain ⟨ps, rfl⟩ := ht.g.ptr;refine .inl ⟨ps, rfl, ?_⟩;have hw : i64.wrap r = r := aG (by omega) (by omega);rw [hw];refine (za1 ht.g r (by omega)).mono ?_;rintro _ rfl;refine ⟨_, rfl, ?_⟩;rw [zbp]; unfold aK; rw [if_neg hh]
theorem zc6 (hv : c8 rows v) {r : Int} (hr : -2147483648 <= r /\ r <= 2147483647) : PCall qa 144 [v, .int .i32 r] fun x => x = .int .i64 (bE rows r) := by
 have hb := vW hv hr;obtain ⟨tc, tg, tj, tf, tp, made, sec, rfl, ht, hm⟩ := hv;refine zyf _ _ _ _ _ _ _ _ ?_; unfold zmg;obtain ⟨ps, rfl⟩ := ht.j.ptr;refine .inl ⟨ps, rfl, ?_⟩;have hw : i64.wrap r = r := aG (by omega) (by omega);rw [hw];refine (za1 ht.j r (by omega)).mono ?_;rintro _ rfl;refine ⟨_, rfl, ?_⟩;rw [zbp];unfold bE;refine aC (fun hc => ?_) (fun hc => ?_)
 ·simp only [bne_iff_ne, ne_eq] at hc;rw [if_pos hc]
 ·simp only [bne_iff_ne, ne_eq, qm] at hc;rw [if_neg (fun h => h hc)];refine hb.mono ?_;rintro _ rfl;refine ⟨_, rfl, aC (fun h2 => ?_) (fun h2 => ?_)⟩
  ·simp only [qb, qk, beq_iff_eq, bne_iff_ne, ne_eq] at h2;rw [if_pos h2]
  ·simp only [qb, qk, beq_iff_eq, bne_iff_ne, ne_eq] at h2;rw [if_neg h2]
theorem zmx (hv : c8 rows v) {r : Int} (hr : -2147483648 <= r /\ r <= 2147483647) : PCall qa 143 [v, .int .i32 r] fun x => x = .bool (bM rows 5 r) := by
 obtain ⟨tc, tg, tj, tf, tp, made, sec, rfl, ht, hm⟩ := hv;refine zyg _ _ _ _ _ _ _ _ ?_; unfold zmh;obtain ⟨ps, rfl⟩ := ht.f.ptr;refine .inl ⟨ps, rfl, ?_⟩;have hw : i64.wrap r = r := aG (by omega) (by omega);rw [hw];refine (za9 ht.f r (by omega)).mono ?_;rintro _ rfl;rw [zbq];exact ⟨_, rfl, rfl, _, rfl, _, rfl, _, rfl, _, rfl, rfl⟩
theorem nZ (n f : Bool) (hl : rows.length < 1000000) {r : Int} (hr : -2147483648 <= r /\ r <= 2147483647) : PCall qa 152 [.sl n f (bA rows), .int .i32 r] fun x => x = .int .i64 (aK rows r) := by
 refine zyh _ _ _ _ ?_; unfold zmi;refine aC (fun hh => ?_) (fun hh => ?_)
 ·simp only [qb, aB, ge_iff_le] at hh;rw [zmw hh];unfold aK; rw [if_pos hh];refine aC (fun h2 => ?_) (fun h2 => ?_)
  ·simp only [beq_iff_eq] at h2; rw [if_pos h2]
  ·simp only [beq_iff_eq] at h2; rw [if_neg h2]
 ·simp only [qb, aB, ge_iff_le] at hh;refine (lL n f 4 r hl hr).mono ?_;rintro _ rfl;unfold aK; rw [if_neg hh];exact ⟨_, rfl, rfl⟩
theorem zmy (n f : Bool) (hl : rows.length < 1000000) {r : Int} (hr : -2147483648 <= r /\ r <= 2147483647) : PCall qa 170 [.sl n f (bA rows), .int .i32 r] fun x => x = .int .i64 (bE rows r) := by
 refine zyi _ _ _ _ ?_; unfold zmj;refine (lL n f 6 r hl hr).mono ?_;rintro _ rfl;refine ⟨_, rfl, ?_⟩;unfold bE;refine aC (fun hc => ?_) (fun hc => ?_)
 ·simp only [bne_iff_ne, ne_eq] at hc;rw [if_pos hc]
 ·simp only [bne_iff_ne, ne_eq, qm] at hc;rw [if_neg (fun h => h hc)];refine (nZ n f hl hr).mono ?_;rintro _ rfl;refine ⟨_, rfl, aC (fun h2 => ?_) (fun h2 => ?_)⟩
  ·simp only [qb, qk, beq_iff_eq, bne_iff_ne, ne_eq] at h2;rw [if_pos h2]
  ·simp only [qb, qk, beq_iff_eq, bne_iff_ne, ne_eq] at h2;rw [if_neg h2]
theorem zyv (a b : Int) : PCall qa 145 [.int .i64 a, .int .i64 b] fun x => x = .bool (gT a b) := by
 refine zyj _ _ ?_; unfold zmk;simp only [beq_iff_eq];have hd : ∀ x y : Int, (x == y) = decide (x = y) := fun x y => by by_cases h : x = y <;> simp [h]
 simp only [hd];unfold gT nX;rcases (by omega : b = 1 ∨ b = 2 ∨ b = 3 ∨ b = 4 ∨ b = 5 ∨ b = 8 ∨ (b ≠ 1 /\ b ≠ 2 /\ b ≠ 3 /\ b ≠ 4 /\ b ≠ 5 /\ b ≠ 8)) with rfl | rfl | rfl | rfl | rfl | rfl | ⟨b1, b2, b3, b4, b5, b8⟩
 all_goals
  rcases (by omega : a = 1 ∨ a = 2 ∨ a = 3 ∨ a = 7 ∨ a = 9 ∨ a = 10 ∨ a = 11 ∨ a = 12 ∨ a = 13 ∨ (a ≠ 1 /\ a ≠ 2 /\ a ≠ 3 /\ a ≠ 7 /\ a ≠ 9 /\ a ≠ 10 /\ a ≠ 11 /\ a ≠ 12 /\ a ≠ 13)) with rfl | rfl | rfl | rfl | rfl | rfl | rfl | rfl | rfl | ⟨a1, a2, a3, a7, a9, a10, a11, a12, a13⟩
 all_goals simp [*, qbn]
theorem zmz (hv : c8 rows v) (st : SSt) {r : Int} (hr : -2147483648 <= r /\ r <= 2147483647) : PCall qa 120 [zc5 st, v, .int .i32 r] fun x => x = .tup [zc5 (c9 rows st r), .bool (kE rows st r)] := by
 have h1 := vW hv hr;have h2 := zmx hv hr;have h3 := zc6 hv hr;obtain ⟨tc, tg, tj, tf, tp, made, sec, rfl, ht, hm⟩ := hv;obtain ⟨so, la, pi, co, od⟩ := st;refine zyk _ _ _ _ _ _ _ _ _ _ _ _ _ ?_; unfold zml;refine h1.mono ?_;rintro _ rfl;refine ⟨_, rfl, ?_⟩;refine h2.mono ?_;rintro _ rfl;refine ⟨_, rfl, ?_⟩;refine h3.mono ?_;rintro _ rfl;refine ⟨_, rfl, ?_⟩;refine (zyv la (aK rows r)).mono ?_;rintro _ rfl;refine ⟨_, rfl, ?_⟩;unfold c9 kE mR zc5;dsimp only;have hd : ∀ x y : Int, (x == y) = decide (x = y) := fun x y => by by_cases h : x = y <;> simp [h]
 have hd2 : ∀ x y : Int, (x != y) = !decide (x = y) := fun x y => by by_cases h : x = y <;> simp [h]
 simp only [hd, hd2];generalize gT la (aK rows r) = b1;generalize bM rows 5 r = b;generalize bE rows r = c;generalize aK rows r = n;by_cases n6 : n = 6
 ·subst n6;cases b1 <;> cases b <;> by_cases p2 : pi = 2 <;> by_cases c2 : c = 2 <;> by_cases k2 : co = 2 <;> by_cases c1 : c = 1 <;> by_cases c3 : c = 3 <;> by_cases k0 : co = 0 <;> first | omega | simp [*]
 ·by_cases p1 : pi = 1
  ·subst p1;by_cases n4 : n = 4
   ·subst n4;cases b1 <;> cases b <;> by_cases c2 : c = 2 <;> by_cases k2 : co = 2 <;> by_cases c1 : c = 1 <;> by_cases c3 : c = 3 <;> by_cases k0 : co = 0 <;> first | omega | simp [*]
   ·by_cases n5 : n = 5
    ·subst n5;cases b1 <;> cases b <;> by_cases c2 : c = 2 <;> by_cases k2 : co = 2 <;> by_cases c1 : c = 1 <;> by_cases c3 : c = 3 <;> by_cases k0 : co = 0 <;> first | omega | simp [*]
    ·cases b1 <;> cases b <;> by_cases c2 : c = 2 <;> by_cases k2 : co = 2 <;> by_cases c1 : c = 1 <;> by_cases c3 : c = 3 <;> by_cases k0 : co = 0 <;> first | omega | simp [*]
  ·cases b1 <;> cases b <;> by_cases p2 : pi = 2 <;> by_cases c2 : c = 2 <;> by_cases k2 : co = 2 <;> by_cases c1 : c = 1 <;> by_cases c3 : c = 3 <;> by_cases k0 : co = 0 <;> first | omega | simp [*]
end
theorem eZ {L : List Int} (h : R32 L) (i : Nat) : -2147483648 <= L.getD i 0 /\ L.getD i 0 <= 2147483647 := by
 by_cases hi : i < L.length
 ·rw [show L.getD i 0 = L[i] by simp [qal, hi]]; exact h _ (qp hi)
 ·rw [show L.getD i 0 = 0 by simp [qal, hi]]; omega
theorem gH {l : List Int} {i : Int} (h0 : 0 <= i) (hi : i.toNat < l.length) : aH (aA l) i 1 /\ (aA l).getD i.toNat [] = [.int .i32 (l.getD i.toNat 0)] := by
 obtain ⟨h1, h2⟩ := gO h0 hi;exact ⟨h1, by rw [h2]; simp [qal, hi]⟩
theorem zm0 : ∀ {C : List (List Int)}, (∀ c ∈ C, c ≠ []) -> C.length <= C.flatten.length
 | [], _ => qj _
 | c :: C, h => by
   have h1 := List.length_pos_iff.2 (h c qr);have := zm0 fun x hx => h x (qy c hx);rw [qat, ql, qd]; omega
theorem zyw (rows : List Row) (L : List Int) : (cY rows L 0).length <= L.length := by
 have := zm0 (zme (rows := rows) (L := L) L.length 0 (by omega));rwa [sB] at this
theorem zc7 {C : List (List Int)} {c : List Int} (h : c ∈ C) : c.length <= C.flatten.length := by
 induction C with
 | nil => cases h
 | cons d C ih =>
   rw [qat, ql];rcases List.mem_cons.1 h with rfl | h
   ·omega
   ·have := ih h; omega
theorem zyx {rows : List Row} {L c : List Int} (h : c ∈ cY rows L 0) : c.length <= L.length := by
 have := zc7 h;rwa [sB] at this
theorem zm1 {α : Type} {l : List α} {i : Nat} (d : α) (h : i < l.length) : l.getD i d = l[i] := by simp [qal, h]
theorem PCall.vac {P : Program} {f : Nat} {args args' : List PV} {Q Q' : PV -> Prop} (h : PCall P f args' Q') {k : Nat} {fl : Bool} {es : List (List PV)} (hk : args[k]? = some (.sl true fl es)) (hne : es ≠ []) : PCall P f args Q :=
 ⟨h.1, fun w I G cargs _ _ h3 => by
  have := h3 k (.pv (.sl true fl es)) (by rw [List.getElem?_map, hk]; rfl);generalize cargs.getD k undef = c at this;cases this with
  | pv _ _ h =>
    generalize hx : es = xs at h;cases h with
    | slnil => exact absurd hx hne⟩
theorem zyy {L : List Int} (h : L ≠ []) : aA L ≠ [] := fun e => h (by cases L with | nil => rfl | cons a b => cases e)
section
variable {rows : List Row} {v : PV}
theorem zm2 {L : List Int} {i : Nat} (hi : i < L.length) (hb : cO rows L i = false) : eA rows L (L.length - i) i = eA rows L (L.length - (i + 1)) (i + 1) := by
 rw [show L.length - i = (L.length - (i + 1)) + 1 by omega, eA, if_neg (by rw [hb]; decide)]
theorem zm3 {L : List Int} {i : Nat} (hi : i < L.length) (hb : cO rows L i = true) : eA rows L (L.length - i) i = i := by
 rw [show L.length - i = (L.length - (i + 1)) + 1 by omega, eA, if_pos hb]
theorem vX (ht : dY rows) (hv : c8 rows v) (n f : Bool) (L : List Int) (hr : R32 L) (hL : L.length < 1000000000000) (k : Int) (k0 : 0 <= k) (k1 : k < L.length) (hb : cO rows L k.toNat = true) :
 PCall qa 94 [v, .sl n f (aA L), .int .i64 k] fun x => x = .int .i64 (aT rows L k.toNat : Nat) := by
 have hs := fun st {r : Int} hr => zmz hv st (r := r) hr;obtain ⟨tc, tg, tj, tf, tp, made, sec, rfl, ht', hm⟩ := hv
 refine zyl _ _ _ _ _ _ _ _ _ _ _
  (fun i so la pi co od => (k + 1 <= i /\ i <= L.length) /\ a8 rows L k.toNat (i.toNat - k.toNat) = ⟨so, la, pi, co, od⟩ /\ aT rows L k.toNat = eA rows L (L.length - i.toNat) i.toNat) (fun i _ _ _ _ _ => L.length - i.toNat) ?_
 unfold zmm;have hl8 : ((aA L).length : Int) = L.length := by rw [bF]
 rw [hl8];refine bK (by simp; omega) ?_;have hk : k.toNat < L.length := by omega
 obtain ⟨g1, g2⟩ := gH k0 hk;have hw : i64.wrap (k + 1) = k + 1 := aG (by omega) (by omega);refine ⟨g1, _, by rw [g2]; rfl, ?_⟩;refine (hs jK (eZ hr k.toNat)).mono ?_;rintro _ rfl;rw [hw];refine ⟨_, rfl, rfl, _, rfl, _, rfl, rfl, _, rfl, _, rfl, _, rfl, _, rfl, _, rfl, _, rfl, _, rfl, ⟨rfl, ⟨by omega, by omega⟩, ?_, ?_⟩, ?_⟩
 ·rw [show (k + 1).toNat - k.toNat = 1 by omega]; rfl
 ·rw [show (k + 1).toNat = k.toNat + 1 by omega]; rfl
 rintro i so la pi co od ⟨⟨i0, i1⟩, hst, hn⟩;refine aC (fun hc => ?_) (fun hc => ?_)
 ·simp only [aB] at hc;have hi : i.toNat < L.length := by omega
  obtain ⟨j, hj⟩ : ∃ j, i.toNat = k.toNat + (j + 1) := ⟨i.toNat - k.toNat - 1, by omega⟩;obtain ⟨g1, g2⟩ := gH (l := L) (i := i) (by omega) hi;have hwi : i64.wrap (i + 1) = i + 1 := aG (by omega) (by omega)
  have hcut : kE rows ⟨so, la, pi, co, od⟩ (L.getD i.toNat 0) = cO rows L i.toNat := by
   rw [<- hst, hj, show k.toNat + (j + 1) - k.toNat = j + 1 by omega];exact zx6 ht hb j
  have hstep : a8 rows L k.toNat ((i + 1).toNat - k.toNat) = c9 rows ⟨so, la, pi, co, od⟩ (L.getD i.toNat 0) := by
   rw [<- hst, show (i + 1).toNat - k.toNat = (i.toNat - k.toNat) + 1 by omega];show c9 rows _ (L.getD (k.toNat + (i.toNat - k.toNat)) 0) = _;rw [show k.toNat + (i.toNat - k.toNat) = i.toNat by omega]
  have body : ∀ K : Prop, K -> if cO rows L i.toNat = true then (PV.int .i64 i = .int .i64 (aT rows L k.toNat : Nat)) else K /\ ((k + 1 <= i + 1 /\ i + 1 <= L.length) /\ a8 rows L k.toNat ((i + 1).toNat - k.toNat) = ⟨(c9 rows ⟨so, la, pi, co, od⟩ (L.getD i.toNat 0)).some, (c9 rows ⟨so, la, pi, co, od⟩ (L.getD i.toNat 0)).last, (c9 rows ⟨so, la, pi, co, od⟩ (L.getD i.toNat 0)).pict, (c9 rows ⟨so, la, pi, co, od⟩ (L.getD i.toNat 0)).conj, (c9 rows ⟨so, la, pi, co, od⟩ (L.getD i.toNat 0)).odd⟩ /\ aT rows L k.toNat = eA rows L (L.length - (i + 1).toNat) (i + 1).toNat) /\ L.length - (i + 1).toNat < L.length - i.toNat := fun K hK => by
   split
   ·rename_i hbi;rw [hn, zm3 hi hbi, show ((i.toNat : Nat) : Int) = i by omega]
   ·rename_i hbi;refine ⟨hK, ⟨⟨by omega, by omega⟩, by rw [hstep], ?_⟩, by omega⟩;rw [hn, zm2 hi (by simpa using hbi), show (i + 1).toNat = i.toNat + 1 by omega]
  have call := hs ⟨so, la, pi, co, od⟩ (eZ hr i.toNat);rw [hcut] at call;rw [hwi];refine ⟨g1, _, by rw [g2]; rfl, call.mono ?_, call.mono ?_⟩
  ·rintro _ rfl;exact ⟨_, rfl, rfl, _, rfl, _, rfl, rfl, _, rfl, _, rfl, _, rfl, _, rfl, _, rfl, _, rfl, _, rfl, body _ rfl, body _ rfl, body _ rfl⟩
  ·rintro _ rfl;exact ⟨_, rfl, rfl, _, rfl, _, rfl, rfl, _, rfl, _, rfl, _, rfl, _, rfl, _, rfl, _, rfl, _, rfl, body _ rfl, body _ rfl⟩
 ·simp only [aB] at hc;have hie : i.toNat = L.length := by omega
  rw [hn, show L.length - i.toNat = 0 by omega];show _ = PV.int .i64 ((i.toNat : Nat) : Int);rw [show ((i.toNat : Nat) : Int) = i by omega]
theorem zyz (n f : Bool) (l : List Int) (hn : n = true -> l = []) (hl : l.length < 1000000000000) : PCall qa 67 [.sl n f (aA l)] fun x => x = .sl n false (aA l) :=
 PCall.ofA (args := [_]) (zk2 n f (aA l) (fun h => by rw [hn h]; rfl) ⟨rfl, .inl rfl, fun e he => (by cases he), dJ _, by simp only [qap, bF]; omega⟩) fun r h' ⟨hr, hh⟩ => by subst hr; subst hh; exact ⟨_, rfl, rfl⟩
def mS (q : Bool × Bool × List Int) : List PV := [.sl q.1 q.2.1 (aA q.2.2)]
theorem zm4 (q : Bool × Bool × List Int) : (mS q).length = 1 := rfl
theorem zm5 (ht : dY rows) (hv : c8 rows v) (n f : Bool) (L : List Int) (hn0 : n = true -> L = []) (hr : R32 L) (hL : L.length < 100000000) :
 PCall qa 59 [v, .sl n f (aA L)] fun x => ∃ (n : Bool) (Q : List (Bool × Bool × List Int)), x = .sl n false (Q.map mS) /\ Q.map (fun q => q.2.2) = cY rows L 0 /\ (∀ q ∈ Q, q.1 = true -> q.2.2 = []) /\ (n = true -> Q = []) := by
 have hnx := fun k k0 k1 hb => vX ht hv n f L hr (by omega) k k0 k1 hb;obtain ⟨tc, tg, tj, tf, tp, made, sec, rfl, ht', hm⟩ := hv
 refine zym _ _ _ _ _ _ _ _ _ _
  (fun i n s => (0 <= i /\ i <= L.length) /\ (i.toNat = L.length ∨ cO rows L i.toNat = true) /\ ∃ Q : List (Bool × Bool × List Int), s = Q.map mS /\ cY rows L 0 = Q.map (fun q => q.2.2) ++ cY rows L i.toNat /\ (∀ q ∈ Q, q.1 = true -> q.2.2 = []) /\ (n = true -> Q = []) /\ Q.length <= i.toNat) (fun i _ _ => L.length - i.toNat) ?_
 unfold zmn;have hl8 : ((aA L).length : Int) = L.length := by rw [bF]
 rw [hl8];refine ⟨⟨rfl, ⟨qq _, by omega⟩, .inr rfl, [], rfl, rfl, (fun q hq => by cases hq), (fun _ => rfl), qj _⟩, ?_⟩;rintro i n2 _ ⟨⟨i0, i1⟩, hbeg, Q, rfl, hcl, hq, hnq, hql⟩;refine aC (fun hc => ?_) (fun hc => ?_)
 ·simp only [aB] at hc;have hi : i.toNat < L.length := by omega
  have hb := hbeg.resolve_left (by omega);obtain ⟨x1, x2, x3⟩ := dZ (rows := rows) hi;refine (hnx i i0 hc hb).mono ?_;rintro _ rfl;refine ⟨_, rfl, ⟨zl2 i0 (by omega) (by rw [bF]; omega), dJ _⟩, ?_⟩;rw [show (((aT rows L i.toNat : Nat) : Int)).toNat = aT rows L i.toNat by omega, zl3];have hsl := zxz L i.toNat (aT rows L i.toNat);have hsn : n = true -> eF L i.toNat (aT rows L i.toNat) = [] := fun h => by rw [hn0 h] at hi; cases hi
  refine (zyz n _ (eF L i.toNat (aT rows L i.toNat)) hsn (by omega)).mono ?_;rintro _ rfl;refine ⟨_, _, _, rfl, ⟨iA (enc := mS) zm4 [(n, false, eF L i.toNat (aT rows L i.toNat))], by rw [qc]; omega⟩, rfl, ⟨⟨by omega, by omega⟩, ?_, Q ++ [(n, false, eF L i.toNat (aT rows L i.toNat))], by rw [qn]; rfl, ?_, fun q hq2 => ?_, fun h => by simp at h, ?_⟩, ?_⟩
  ·rw [show (((aT rows L i.toNat : Nat) : Int)).toNat = aT rows L i.toNat by omega]; exact x3
  ·rw [show (((aT rows L i.toNat : Nat) : Int)).toNat = aT rows L i.toNat by omega, hcl, nY hi, qn, qaj]; rfl
  ·rcases List.mem_append.1 hq2 with hq2 | hq2
   ·exact hq q hq2
   ·rw [List.mem_singleton.1 hq2]; exact hsn
  ·rw [show (((aT rows L i.toNat : Nat) : Int)).toNat = aT rows L i.toNat by omega, ql, qw]; omega
  ·dsimp only; omega
 ·simp only [aB] at hc;rw [lR (i := i.toNat) (by omega), qaq] at hcl;exact ⟨n2, Q, rfl, hcl.symm, hq, hnq⟩
theorem zy0 (ht : dY rows) (hv : c8 rows v) (n f : Bool) (L : List Int) (hr : R32 L) (hL : L.length < 100000000) :
 PCall qa 59 [v, .sl n f (aA L)] fun x => ∃ (n : Bool) (Q : List (Bool × Bool × List Int)), x = .sl n false (Q.map mS) /\ Q.map (fun q => q.2.2) = cY rows L 0 := by
 by_cases h : n = true -> L = []
 ·exact (zm5 ht hv n f L h hr hL).mono fun x ⟨n, Q, h1, h2, _⟩ => ⟨n, Q, h1, h2⟩
 ·have hn : n = true := by cases n with | true => rfl | false => exact absurd (fun h => by cases h) h
  subst hn;exact PCall.vac (zm5 ht hv false f L (fun h => by cases h) hr hL) (k := 1) rfl (zyy fun e => h fun _ => e)
end
section
variable {rows : List Row}
theorem vY (r : Int) : (aF rows 5 r = 1) ↔ bM rows 5 r = true := by
 unfold aF bM;cases bR rows 5 r with
 | none => simp
 | some p => simp
theorem zm6 (a : Int) : PCall qa 153 [.int .i64 a] fun x => x = .bool (c6 a) := by
 refine zyn _ ?_; unfold zmo c6;have hd : ∀ x y : Int, (x == y) = decide (x = y) := fun x y => by by_cases h : x = y <;> simp [h]
 simp only [hd, qbn]
theorem zy1 (a b : Int) : PCall qa 154 [.int .i64 a, .int .i64 b] fun x => x = .bool (nX a b) := by
 refine zyo _ _ ?_; unfold zmp nX;have hd : ∀ x y : Int, (x == y) = decide (x = y) := fun x y => by by_cases h : x = y <;> simp [h]
 simp only [hd];by_cases h9 : a = 9
 ·rw [if_pos (by simp [h9]), if_pos h9]; simp only [qbn]
 ·rw [if_neg (by simp [h9]), if_neg h9];by_cases h12 : a = 12 ∨ a = 10
  ·rw [if_pos (by simpa using h12), if_pos h12]
  ·rw [if_neg (by simpa using h12), if_neg h12]
   by_cases h13 : a = 13 ∨ a = 11
   ·rw [if_pos (by simpa using h13), if_pos h13]
   ·rw [if_neg (by simpa using h13), if_neg h13]
def pM (rows : List Row) (L : List Int) (x : Bool) (j : Nat) : Bool := if x = true then decide ((a8 rows L 0 j).conj ≠ 0) else decide ((a8 rows L 0 j).conj = 2)
theorem zy2 (ht : dY rows) (L : List Int) (x : Bool) (j : Nat) : pM rows L x (j + 1) =
 if bE rows (L.getD j 0) = 2 then x else if bE rows (L.getD j 0) = 0 then false else if bE rows (L.getD j 0) = 1 then pM rows L true j else pM rows L x j := by
 unfold pM;rw [zma];rcases ht.conj (L.getD j 0) with h | h | h | h <;> rw [h]
 ·cases x <;> simp
 ·by_cases h0 : (a8 rows L 0 j).conj = 0
  ·cases x <;> simp [h0]
  ·cases x <;> simp [h0]
 ·cases x <;> simp
 ·by_cases h0 : (a8 rows L 0 j).conj = 0
  ·cases x <;> simp [h0]
  ·cases x <;> simp [h0]
def oB (rows : List Row) (L : List Int) (j : Nat) : Bool := decide ((a8 rows L 0 j).pict = 1)
theorem zy3 (L : List Int) (j : Nat) : oB rows L (j + 1) = if bM rows 5 (L.getD j 0) = true then true else if aK rows (L.getD j 0) ≠ 4 then false else oB rows L j := by
 unfold oB;rw [zcv];generalize L.getD j 0 = r;generalize (a8 rows L 0 j).pict = p;by_cases h1 : bM rows 5 r = true
 ·rw [if_pos h1, if_pos h1]; rfl
 ·rw [if_neg h1, if_neg h1];by_cases h2 : aK rows r = 4
  ·by_cases h3 : p = 1
   ·simp [h2, h3]
   ·simp [h2, h3]
  ·by_cases h3 : aK rows r = 5
   ·by_cases h4 : p = 1 <;> simp [h3, h4]
   ·simp [h2, h3]
theorem zy4 (ht : dY rows) (L : List Int) (k : Nat) : decide ((a8 rows L 0 (k + 1)).pict = 2) = (decide (aK rows (L.getD k 0) = 5) && oB rows L k) := by
 unfold oB;rw [zcv];generalize L.getD k 0 = r;generalize (a8 rows L 0 k).pict = p;by_cases h1 : bM rows 5 r = true
 ·have := (ht.pict _ h1).2;rw [if_pos h1]; simp [this]
 ·rw [if_neg h1];by_cases h3 : p = 1
  ·by_cases h5 : aK rows r = 5
   ·simp [h3, h5]
   ·by_cases h4 : aK rows r = 4 <;> simp [h3, h5, h4]
  ·simp [h3]
def sC (rows : List Row) (L : List Int) (x : Int) (j : Nat) : Bool := if x.tmod 2 = 1 then !(a8 rows L 0 j).odd else (a8 rows L 0 j).odd
theorem zy5 (L : List Int) {x : Int} (h0 : 0 <= x) (j : Nat) : sC rows L x (j + 1) = if aK rows (L.getD j 0) = 6 then sC rows L (x + 1) j else decide (x.tmod 2 = 1) := by
 unfold sC;rw [zmb];rw [qao h0, qao (by omega : 0 <= x + 1)];generalize aK rows (L.getD j 0) = b;generalize (a8 rows L 0 j).odd = o;by_cases h6 : b = 6
 ·rw [if_pos h6, h6];by_cases hx : x % 2 = 1
  ·rw [if_pos hx, if_neg (by omega)]; simp
  ·rw [if_neg hx, if_pos (by omega)]; simp
 ·rw [if_neg h6];by_cases hx : x % 2 = 1
  ·rw [if_pos hx]; simp [h6, hx]
  ·rw [if_neg hx]; simp [h6, hx]
variable (ht : dY rows) (n f n2 f2 : Bool) (hl : rows.length < 1000000) (L : List Int) (hr : R32 L) (hL : L.length < 1000000000000)
include ht hl hr hL
theorem zy6 (k : Nat) (hk : k + 1 < L.length) : PCall qa 155 [.sl n f (bA rows), .sl n2 f2 (aA L), .int .i64 ((k + 1 : Nat) : Int)] fun x => x = .bool (decide (bE rows (L.getD (k + 1) 0) = 2) && decide ((a8 rows L 0 (k + 1)).conj = 2)) := by
 refine zyp _ _ _ _ _ _ _ (fun x j => (-1 <= j /\ j < L.length) /\ decide ((a8 rows L 0 (k + 1)).conj = 2) = pM rows L x (j + 1).toNat) (fun _ j => (j + 1).toNat) ?_;unfold zmq;obtain ⟨g1, g2⟩ := gH (l := L) (i := ((k + 1 : Nat) : Int)) (by omega) (by omega);rw [show (((k + 1 : Nat) : Int)).toNat = k + 1 by omega] at g2 ⊢;refine ⟨g1, _, by rw [g2]; rfl, ?_⟩;refine (zmy n f hl (eZ hr _)).mono ?_;rintro _ rfl;refine ⟨_, rfl, aC (fun hc => ?_) (fun hc => ?_)⟩
 ·simp only [bne_iff_ne, ne_eq] at hc;rw [decide_eq_false hc, qag]
 ·simp only [bne_iff_ne, ne_eq, qm] at hc;rw [hc];have hw : i64.wrap (((k + 1 : Nat) : Int) - 1) = (k : Int) := by rw [aG (by omega) (by omega)]; omega
  rw [hw];refine ⟨⟨rfl, ⟨by omega, by omega⟩, by rw [show ((k : Int) + 1).toNat = k + 1 by omega]; rfl⟩, ?_⟩;rintro x j ⟨⟨j0, j1⟩, he⟩;simp only [decide_true, qac];rw [he];refine aC (fun h => ?_) (fun h => ?_)
  ·simp only [aB, ge_iff_le] at h;obtain ⟨g1, g2⟩ := gH (l := L) (i := j) h (by omega);refine ⟨g1, _, by rw [g2]; rfl, ?_⟩;have hs := zy2 ht L x j.toNat;rw [show j.toNat + 1 = (j + 1).toNat by omega] at hs;have hwj : i64.wrap (j - 1) = j - 1 := aG (by omega) (by omega);rw [hwj];refine (zmy n f hl (eZ hr _)).mono ?_;rintro _ rfl;refine ⟨_, rfl, aC (fun h2 => ?_) (fun h2 => aC (fun h0 => ?_) (fun h0 => aC (fun h1 => ?_) (fun h1 => ?_)))⟩
   ·simp only [beq_iff_eq] at h2;rw [hs, if_pos h2]
   ·simp only [beq_iff_eq] at h2 h0;rw [hs, if_neg h2, if_pos h0]
   ·simp only [beq_iff_eq] at h2 h0 h1;rw [if_neg h2, if_neg h0, if_pos h1] at hs;exact ⟨rfl, ⟨⟨by omega, by omega⟩, by rw [hs, show (j - 1 + 1).toNat = j.toNat by omega]⟩, by first | omega | (dsimp only; omega)⟩
   ·simp only [beq_iff_eq] at h2 h0 h1;rw [if_neg h2, if_neg h0, if_neg h1] at hs;exact ⟨rfl, ⟨⟨by omega, by omega⟩, by rw [hs, show (j - 1 + 1).toNat = j.toNat by omega]⟩, by first | omega | (dsimp only; omega)⟩
  ·simp only [aB, ge_iff_le] at h;rw [show (j + 1).toNat = 0 by omega];unfold pM;cases x <;> rfl
theorem zy7 (k : Nat) (hk : k + 1 < L.length) : PCall qa 156 [.sl n f (bA rows), .sl n2 f2 (aA L), .int .i64 ((k + 1 : Nat) : Int)] fun x => x = .bool (bM rows 5 (L.getD (k + 1) 0) && decide ((a8 rows L 0 (k + 1)).pict = 2)) := by
 refine zyq _ _ _ _ _ _ _ (fun j => (-1 <= j /\ j < L.length) /\ oB rows L k = oB rows L (j + 1).toNat) (fun j => (j + 1).toNat) ?_;unfold zmr;rw [zy4 ht];obtain ⟨g1, g2⟩ := gH (l := L) (i := ((k + 1 : Nat) : Int)) (by omega) (by omega);rw [show (((k + 1 : Nat) : Int)).toNat = k + 1 by omega] at g2 ⊢;refine ⟨g1, _, by rw [g2]; rfl, ?_⟩;refine (lL n f 5 _ hl (eZ hr _)).mono ?_;rintro _ rfl;refine ⟨_, rfl, aC (fun hc => ?_) (fun hc => ?_)⟩
 ·simp only [bne_iff_ne, ne_eq, vY] at hc;rw [Bool.eq_false_iff.2 hc, qag]
 simp only [bne_iff_ne, ne_eq, qm, vY] at hc;rw [hc];have hw : i64.wrap (((k + 1 : Nat) : Int) - 1) = (k : Int) := by rw [aG (by omega) (by omega)]; omega
 have hw2 : i64.wrap (((k + 1 : Nat) : Int) - 2) = (k : Int) - 1 := by rw [aG (by omega) (by omega)]; omega
 rw [hw, hw2];obtain ⟨k1, k2⟩ := gH (l := L) (i := (k : Int)) (by omega) (by omega);refine ⟨k1, _, by rw [k2]; rfl, ?_⟩;rw [show ((k : Int)).toNat = k by omega];refine (nZ n f hl (eZ hr _)).mono ?_;rintro _ rfl;refine ⟨_, rfl, aC (fun h5 => ?_) (fun h5 => ?_)⟩
 ·simp only [bne_iff_ne, ne_eq] at h5;rw [decide_eq_false h5, qag, qas]
 simp only [bne_iff_ne, ne_eq, qm] at h5;rw [h5];simp only [decide_true, qac];refine ⟨⟨rfl, ⟨by omega, by omega⟩, by rw [show ((k : Int) - 1 + 1).toNat = k by omega]⟩, ?_⟩;rintro j ⟨⟨j0, j1⟩, he⟩;rw [he];refine aC (fun h => ?_) (fun h => ?_)
 ·simp only [aB, ge_iff_le] at h;obtain ⟨g1, g2⟩ := gH (l := L) (i := j) h (by omega);refine ⟨g1, _, by rw [g2]; rfl, ?_⟩;have hs := zy3 (rows := rows) L j.toNat;rw [show j.toNat + 1 = (j + 1).toNat by omega] at hs;have hwj : i64.wrap (j - 1) = j - 1 := aG (by omega) (by omega);rw [hwj];refine (lL n f 5 _ hl (eZ hr _)).mono ?_;rintro _ rfl;refine ⟨_, rfl, aC (fun h2 => ?_) (fun h2 => ?_)⟩
  ·simp only [beq_iff_eq, vY] at h2;rw [hs, if_pos h2]
  ·simp only [beq_iff_eq, vY] at h2;refine ⟨g1, _, by rw [g2]; rfl, ?_⟩;refine (nZ n f hl (eZ hr _)).mono ?_;rintro _ rfl;refine ⟨_, rfl, aC (fun h4 => ?_) (fun h4 => ?_)⟩
   ·simp only [bne_iff_ne, ne_eq] at h4;rw [hs, if_neg h2, if_pos h4]
   ·simp only [bne_iff_ne, ne_eq, qm] at h4;rw [if_neg h2, if_neg (fun h => h h4)] at hs;exact ⟨rfl, ⟨⟨by omega, by omega⟩, by rw [hs, show (j - 1 + 1).toNat = j.toNat by omega]⟩, by first | omega | (dsimp only; omega)⟩
 ·simp only [aB, ge_iff_le] at h;rw [show (j + 1).toNat = 0 by omega]; rfl
theorem zy8 (k : Nat) (hk : k + 1 < L.length) : PCall qa 157 [.sl n f (bA rows), .sl n2 f2 (aA L), .int .i64 ((k + 1 : Nat) : Int)] fun x => x = .bool (decide (aK rows (L.getD (k + 1) 0) = 6) && (a8 rows L 0 (k + 1)).odd) := by
 have _ht := ht;refine zyr _ _ _ _ _ _ _ (fun x j => (-1 <= j /\ j < L.length) /\ (0 <= x /\ x + j <= k) /\ (a8 rows L 0 (k + 1)).odd = sC rows L x (j + 1).toNat) (fun _ j => (j + 1).toNat) ?_;unfold zms;obtain ⟨g1, g2⟩ := gH (l := L) (i := ((k + 1 : Nat) : Int)) (by omega) (by omega);rw [show (((k + 1 : Nat) : Int)).toNat = k + 1 by omega] at g2 ⊢;refine ⟨g1, _, by rw [g2]; rfl, ?_⟩;refine (nZ n f hl (eZ hr _)).mono ?_;rintro _ rfl;refine ⟨_, rfl, aC (fun hc => ?_) (fun hc => ?_)⟩
 ·simp only [bne_iff_ne, ne_eq] at hc;rw [decide_eq_false hc, qag]
 simp only [bne_iff_ne, ne_eq, qm] at hc;rw [hc];have hw : i64.wrap (((k + 1 : Nat) : Int) - 1) = (k : Int) := by rw [aG (by omega) (by omega)]; omega
 rw [hw];refine ⟨⟨rfl, ⟨by omega, by omega⟩, ⟨qq _, by omega⟩, by rw [show ((k : Int) + 1).toNat = k + 1 by omega]; rfl⟩, ?_⟩;rintro x j ⟨⟨j0, j1⟩, ⟨x0, x1⟩, he⟩;simp only [decide_true, qac];rw [he];have hx : ∀ y : Int, (y.tmod 2 == 1) = decide (y.tmod 2 = 1) := fun y => by by_cases h : y.tmod 2 = 1 <;> simp [h]
 refine aC (fun h => ?_) (fun h => ?_)
 ·simp only [aB, ge_iff_le] at h;obtain ⟨g1, g2⟩ := gH (l := L) (i := j) h (by omega);refine ⟨g1, _, by rw [g2]; rfl, ?_⟩;have hs := zy5 (rows := rows) L x0 j.toNat;rw [show j.toNat + 1 = (j + 1).toNat by omega] at hs;have hwj : i64.wrap (j - 1) = j - 1 := aG (by omega) (by omega);have hwx : i64.wrap (x + 1) = x + 1 := aG (by omega) (by omega);rw [hwj, hwx];refine (nZ n f hl (eZ hr _)).mono ?_;rintro _ rfl;refine ⟨_, rfl, aC (fun h6 => ?_) (fun h6 => ?_)⟩
  ·simp only [beq_iff_eq] at h6;rw [if_pos h6] at hs;exact ⟨rfl, ⟨⟨by omega, by omega⟩, ⟨by omega, by omega⟩, by rw [hs, show (j - 1 + 1).toNat = j.toNat by omega]⟩, by first | omega | (dsimp only; omega)⟩
  ·simp only [beq_iff_eq] at h6;rw [hs, if_neg h6, hx]
 ·simp only [aB, ge_iff_le] at h;rw [show (j + 1).toNat = 0 by omega, hx];unfold sC;show _ = PV.bool (if x.tmod 2 = 1 then !false else false);by_cases h1 : x.tmod 2 = 1 <;> simp [h1]
theorem zm7 (k : Int) (k0 : 0 <= k) (k1 : k < L.length) : PCall qa 124 [.sl n f (bA rows), .sl n2 f2 (aA L), .int .i64 k] fun x => x = .bool (cO rows L k.toNat) := by
 refine zys _ _ _ _ _ _ _ ?_; unfold zmt;refine aC (fun h0 => ?_) (fun h0 => ?_)
 ·simp only [beq_iff_eq] at h0;rw [h0]; rfl
 simp only [beq_iff_eq] at h0;obtain ⟨j, rfl⟩ : ∃ j : Nat, k = ((j + 1 : Nat) : Int) := ⟨k.toNat - 1, by omega⟩;have hw : i64.wrap (((j + 1 : Nat) : Int) - 1) = (j : Int) := by rw [aG (by omega) (by omega)]; omega
 rw [hw, show (((j + 1 : Nat) : Int)).toNat = j + 1 by omega, zx7 ht];obtain ⟨g1, g2⟩ := gH (l := L) (i := (j : Int)) (by omega) (by omega);obtain ⟨k1, k2⟩ := gH (l := L) (i := ((j + 1 : Nat) : Int)) (by omega) (by omega);rw [show (((j + 1 : Nat) : Int)).toNat = j + 1 by omega] at k2;rw [show ((j : Int)).toNat = j by omega] at g2 ⊢;refine ⟨g1, _, by rw [g2]; rfl, k1, _, by rw [k2]; rfl, ?_⟩;have c1 := zy6 ht n f n2 f2 hl L hr hL j (by omega);have c2 := zy7 ht n f n2 f2 hl L hr hL j (by omega);have c3 := zy8 ht n f n2 f2 hl L hr hL j (by omega);refine (nZ n f hl (eZ hr _)).mono ?_;rintro _ rfl;refine ⟨_, rfl, ?_⟩;refine (nZ n f hl (eZ hr _)).mono ?_;rintro _ rfl;refine ⟨_, rfl, ?_⟩;generalize aK rows (L.getD j 0) = a at *;generalize hb : aK rows (L.getD (j + 1) 0) = b at *;refine aC (fun h1 => ?_) (fun h1 => ?_)
 ·simp only [qb, beq_iff_eq] at h1;rw [if_pos h1]
 simp only [qb, beq_iff_eq] at h1;rw [if_neg h1];refine (zm6 a).mono ?_;rintro _ rfl;refine ⟨_, rfl, aC (fun h2 => ?_) (fun h2 => ?_)⟩
 ·rw [if_pos (.inl h2)]
 refine (zm6 b).mono ?_;rintro _ rfl;refine ⟨_, rfl, aC (fun h3 => ?_) (fun h3 => ?_)⟩
 ·rw [if_pos (.inr h3)]
 rw [if_neg (fun h => h.elim h2 h3)];refine (zy1 a b).mono ?_;rintro _ rfl;refine ⟨_, rfl, aC (fun h4 => ?_) (fun h4 => ?_)⟩
 ·simp only [qk, beq_iff_eq] at h4;rw [if_pos (by rcases h4 with (((h | h) | h) | h) | h; exact .inl h; exact .inr (.inl h); exact .inr (.inr (.inl h)); exact .inr (.inr (.inr (.inl h))); exact .inr (.inr (.inr (.inr h))))]
 simp only [qk, beq_iff_eq] at h4;rw [if_neg (by rintro (h | h | h | h | h); exact h4 (.inl (.inl (.inl (.inl h)))); exact h4 (.inl (.inl (.inl (.inr h)))); exact h4 (.inl (.inl (.inr h))); exact h4 (.inl (.inr h)); exact h4 (.inr h))];refine c1.mono ?_;rintro _ rfl;refine ⟨_, rfl, ?_⟩;generalize (decide (bE rows (L.getD (j + 1) 0) = 2) && decide ((a8 rows L 0 (j + 1)).conj = 2)) = x1;cases x1 with
 | true => exact bK (by simp) rfl
 | false =>
   refine bB rfl ?_;refine c2.mono ?_;rintro _ rfl;refine ⟨_, rfl, ?_⟩;generalize (bM rows 5 (L.getD (j + 1) 0) && decide ((a8 rows L 0 (j + 1)).pict = 2)) = x2;cases x2 with
   | true => exact bK (by simp) rfl
   | false =>
     refine bB rfl ?_;refine c3.mono ?_;rintro _ rfl;exact ⟨_, rfl, rfl⟩
theorem zm8 (k : Int) (k0 : 0 <= k) (k1 : k < L.length) : PCall qa 97 [.sl n f (bA rows), .sl n2 f2 (aA L), .int .i64 k] fun x => x = .int .i64 (aT rows L k.toNat : Nat) := by
 refine zyt _ _ _ _ _ _ _ (fun i => (k + 1 <= i /\ i <= L.length) /\ aT rows L k.toNat = eA rows L (L.length - i.toNat) i.toNat) (fun i => L.length - i.toNat) ?_;unfold zmu;have hl8 : ((aA L).length : Int) = L.length := by rw [bF]
 have hw : i64.wrap (k + 1) = k + 1 := aG (by omega) (by omega);rw [hl8, hw];refine ⟨⟨rfl, ⟨by omega, by omega⟩, by rw [show (k + 1).toNat = k.toNat + 1 by omega]; rfl⟩, ?_⟩;rintro i ⟨⟨i0, i1⟩, hn⟩;refine aC (fun hc => ?_) (fun hc => ?_)
 ·simp only [aB] at hc;have hi : i.toNat < L.length := by omega
  have hwi : i64.wrap (i + 1) = i + 1 := aG (by omega) (by omega);rw [hwi];refine (zm7 ht n f n2 f2 hl L hr hL i (by omega) hc).mono ?_;rintro _ rfl;refine ⟨_, rfl, aC (fun hb => ?_) (fun hb => ?_)⟩
  ·rw [hn, zm3 hi hb, show ((i.toNat : Nat) : Int) = i by omega]
  ·refine ⟨rfl, ⟨⟨by omega, by omega⟩, ?_⟩, by first | omega | (dsimp only; omega)⟩
   rw [hn, zm2 hi (by simpa using hb), show (i + 1).toNat = i.toNat + 1 by omega]
 ·simp only [aB] at hc;rw [hn, show L.length - i.toNat = 0 by omega];show _ = PV.int .i64 ((i.toNat : Nat) : Int);rw [show ((i.toNat : Nat) : Int) = (L.length : Int) by omega]
theorem zy9 (hL2 : L.length < 100000000) : PCall qa 63 [.sl n f (bA rows), .sl n2 f2 (aA L)] fun x => ∃ (n f : Bool) (Q : List (Bool × Bool × List Int)), x = .sl n f (Q.map mS) /\ Q.map (fun q => q.2.2) = cY rows L 0 := by
 refine zyu _ _ _ _ _ _
  (fun i n s => (0 <= i /\ i <= L.length) /\ ∃ Q : List (Bool × Bool × List Int), s = Q.map mS /\ cY rows L 0 = Q.map (fun q => q.2.2) ++ cY rows L i.toNat /\ Q.length <= i.toNat) (fun i _ _ => L.length - i.toNat) ?_
 unfold zmv;have hl8 : ((aA L).length : Int) = L.length := by rw [bF]
 rw [hl8];refine ⟨⟨rfl, ⟨qq _, by omega⟩, [], rfl, rfl, qj _⟩, ?_⟩;rintro i n3 _ ⟨⟨i0, i1⟩, Q, rfl, hcl, hql⟩;refine aC (fun hc => ?_) (fun hc => ?_)
 ·simp only [aB] at hc;have hi : i.toNat < L.length := by omega
  obtain ⟨x1, x2, x3⟩ := dZ (rows := rows) hi;refine (zm8 ht n f n2 f2 hl L hr hL i i0 hc).mono ?_;rintro _ rfl;refine ⟨_, rfl, ⟨zl2 i0 (by omega) (by rw [bF]; omega), dJ _⟩, ?_⟩;rw [show (((aT rows L i.toNat : Nat) : Int)).toNat = aT rows L i.toNat by omega, zl3];refine ⟨⟨iA (enc := mS) zm4 [(n2, _, eF L i.toNat (aT rows L i.toNat))], by rw [qc]; omega⟩, rfl, ⟨⟨by omega, by omega⟩, Q ++ [(n2, _, eF L i.toNat (aT rows L i.toNat))], by rw [qn]; rfl, ?_, ?_⟩, ?_⟩
  ·rw [show (((aT rows L i.toNat : Nat) : Int)).toNat = aT rows L i.toNat by omega, hcl, nY hi, qn, qaj]; rfl
  ·rw [show (((aT rows L i.toNat : Nat) : Int)).toNat = aT rows L i.toNat by omega, ql, qw]; omega
  ·dsimp only; omega
 ·simp only [aB] at hc;rw [lR (i := i.toNat) (by omega), qaq] at hcl;exact ⟨n3, false, Q, rfl, hcl.symm⟩
end
end Go.Eng
namespace Go.Eng.Rows
open Go Go.Eng Go.Eng.Trie Go.Eng.Srt
def zc8 (p : Int × List Int) (c : List Int) : Bool := decide (p.1 = 1) || (decide (p.1 = 0) && decide (p.2 = c))
inductive Deal : List (Int × List Int) -> List (List Int) -> Prop
 | nil : Deal [] []
 | one {p : Int × List Int} {c : List Int} {ps : List (Int × List Int)} {cs : List (List Int)} (h : p.1 ≠ 2) (h1 : zc8 p c = true) (h2 : Deal ps cs) : Deal (p :: ps) (c :: cs)
 | many {p : Int × List Int} {D : List (List Int)} {ps : List (Int × List Int)} {cs : List (List Int)} (h : p.1 = 2) (h2 : Deal ps cs) : Deal (p :: ps) (D ++ cs)
theorem Deal.app {P Q : List (Int × List Int)} {C D : List (List Int)} (h : Deal P C) (k : Deal Q D) : Deal (P ++ Q) (C ++ D) := by
 induction h with
 | nil => exact k
 | one h h1 _ ih => exact .one h h1 ih
 | many h _ ih => rw [qaj]; exact .many h ih
inductive Ones : List (Int × List Int) -> List (List Int) -> Prop
 | nil : Ones [] []
 | cons {p : Int × List Int} {c : List Int} {ps : List (Int × List Int)} {cs : List (List Int)} (h : p.1 ≠ 2) (h1 : zc8 p c = true) (h2 : Ones ps cs) : Ones (p :: ps) (c :: cs)
theorem Ones.snoc {P : List (Int × List Int)} {C : List (List Int)} (h : Ones P C) {p : Int × List Int} {c : List Int} (h1 : p.1 ≠ 2) (h2 : zc8 p c = true) : Ones (P ++ [p]) (C ++ [c]) := by
 induction h with
 | nil => exact .cons h1 h2 .nil
 | cons h h1 _ ih => exact .cons h h1 ih
theorem Ones.len {P : List (Int × List Int)} {C : List (List Int)} (h : Ones P C) : P.length = C.length := by
 induction h with
 | nil => rfl
 | cons h h1 _ ih => rw [qd, qd, ih]
theorem Ones.split {P : List (Int × List Int)} {C : List (List Int)} (h : Ones P C) {R : List (Int × List Int)} : ∀ {D : List (List Int)}, Deal (P ++ R) D -> ∃ E cs, D = E ++ cs /\ E.length = P.length /\ Deal R cs := by
 induction h with
 | nil => exact fun {D} hd => ⟨[], D, rfl, rfl, hd⟩
 | cons h h1 _ ih =>
   intro D hd;cases hd with
   | one _ _ h2 =>
     obtain ⟨E, cs, e, hl, hd⟩ := ih h2;exact ⟨_ :: E, cs, by rw [e]; rfl, by rw [qd, qd, hl], hd⟩
   | many h3 _ => exact absurd h3 h
section
variable {Q P : List (Int × List Int)} {E C : List (List Int)} {x y : Int × List Int}
end
section
variable {P : List (Int × List Int)} {C : List (List Int)} {a i star fr : Int}
end
section
variable {rows : List Row} {out : List (Int × List Int)} {plain l : List Int} {c : Int}
end
def cC (rows : List Row) (l : List Int) : List (List Int) := cY rows (bW rows l) 0
def d0 (rows : List Row) (a b : List Int) : Bool := decide ((cC rows a).take (cC rows b).length = cC rows b)
def d6 : List (List Int) -> List (List Int) -> List (List Int)
 | a :: xs, b :: bs => if a = b then a :: d6 xs bs else []
 | _, _ => []
theorem zc9 : ∀ A B : List (List Int), d6 A B <+: A
 | [], B => by unfold d6; exact qad
 | a :: xs, [] => by unfold d6; exact qad
 | a :: xs, b :: bs => by
   rw [d6]; split
   ·exact List.cons_prefix_cons.2 ⟨rfl, zc9 xs bs⟩
   ·exact qad
theorem zda : ∀ A B : List (List Int), d6 A B <+: B
 | [], B => by unfold d6; exact qad
 | a :: xs, [] => by unfold d6; exact qad
 | a :: xs, b :: bs => by
   rw [d6]; split
   ·rename_i h; exact List.cons_prefix_cons.2 ⟨h, zda xs bs⟩
   ·exact qad
theorem zdb : ∀ {X A B : List (List Int)}, X <+: A -> X <+: B -> X <+: d6 A B
 | [], A, B, _, _ => qad
 | x :: X, [], B, h, _ => by cases (List.prefix_nil.1 h)
 | x :: X, a :: xs, [], _, h => by cases (List.prefix_nil.1 h)
 | x :: X, a :: xs, b :: bs, h, k => by
   obtain ⟨e, h⟩ := List.cons_prefix_cons.1 h;obtain ⟨e2, k⟩ := List.cons_prefix_cons.1 k;rw [d6, if_pos (e.symm.trans e2)];exact List.cons_prefix_cons.2 ⟨e, zdb h k⟩
def oC (C0 : List (List Int)) (Cs : List (List (List Int))) : List (List Int) := Cs.foldl d6 C0
theorem zdc : ∀ (Cs : List (List (List Int))) (C0 : List (List Int)), oC C0 Cs <+: C0
 | [], C0 => qbw _
 | C :: Cs, C0 => (zdc Cs _).trans (zc9 C0 C)
theorem zm9 : ∀ (Cs : List (List (List Int))) (C0 : List (List Int)), ∀ C ∈ Cs, oC C0 Cs <+: C
 | [], C0, C, h => by cases h
 | D :: Cs, C0, C, h => by
   rcases List.mem_cons.1 h with rfl | h
   ·exact (zdc Cs _).trans (zda C0 C)
   ·exact zm9 Cs _ C h
theorem zna {X : List (List Int)} : ∀ (Cs : List (List (List Int))) (C0 : List (List Int)), X <+: C0 -> (∀ C ∈ Cs, X <+: C) -> X <+: oC C0 Cs
 | [], C0, h, _ => h
 | D :: Cs, C0, h, k => zna Cs _ (zdb h (k D qr)) fun C hC => k C (qy _ hC)
def bL (rows : List Row) : List (List Int) -> List (List Int)
 | [] => []
 | t :: T => oC (cC rows t) (T.map (cC rows))
theorem mT {rows : List Row} : ∀ {T : List (List Int)} {t : List Int}, t ∈ T -> bL rows T <+: cC rows t
 | s :: T, t, h => by
   rcases List.mem_cons.1 h with rfl | h
   ·exact zdc _ _
   ·exact zm9 _ _ _ (List.mem_map.2 ⟨t, h, rfl⟩)
theorem zdd {rows : List Row} {X : List (List Int)} : ∀ {T : List (List Int)}, T ≠ [] -> (∀ t ∈ T, X <+: cC rows t) -> X <+: bL rows T
 | [], h, _ => absurd rfl h
 | t :: T, _, h => zna _ _ (h t qr) fun C hC => by
   obtain ⟨s, hs, rfl⟩ := List.mem_map.1 hC;exact h s (qy _ hs)
theorem zza {rows : List Row} {t : List Int} {T : List (List Int)} {n : Nat} (h : ∀ s ∈ T, (cC rows t).take n <+: cC rows s) {s : List Int} (hs : s ∈ T) (hn : n < (cC rows t).length) (hx : (cC rows s).length <= n ∨ (cC rows s).getD n [] ≠ (cC rows t).getD n []) :
 bL rows (t :: T) = (cC rows t).take n := by
 have h1 : (cC rows t).take n <+: bL rows (t :: T) := zdd (by simp) fun u hu => by
  rcases List.mem_cons.1 hu with rfl | hu
  ·exact qbg _ _
  ·exact h u hu
 have h2 : bL rows (t :: T) <+: cC rows t := mT qr;have h3 : bL rows (t :: T) <+: cC rows s := mT (qy _ hs);have e2 := List.prefix_iff_eq_take.1 h2
 have hl : (bL rows (t :: T)).length <= n := by
  apply qae;intro hgt;have hlt : n < (bL rows (t :: T)).length := by omega
  have g2 : (bL rows (t :: T))[n]? = (cC rows t)[n]? := by
   obtain ⟨u, hu⟩ := h2;rw [<- hu, qaf hlt]
  have g3 : (bL rows (t :: T))[n]? = (cC rows s)[n]? := by
   obtain ⟨u, hu⟩ := h3;rw [<- hu, qaf hlt]
  have hls := h3.length_le;rcases hx with hx | hx
  ·omega
  ·apply hx;rw [qt, qt, <- g2, <- g3]
 have hl2 := h1.length_le;rw [qe] at hl2;rw [e2];congr 1;omega
theorem zzb {rows : List Row} {t : List Int} {T : List (List Int)} (h : ∀ s ∈ T, cC rows t <+: cC rows s) : bL rows (t :: T) = cC rows t := by
 have h1 : cC rows t <+: bL rows (t :: T) := zdd (by simp) fun u hu => by
  rcases List.mem_cons.1 hu with rfl | hu
  ·exact qbw _
  ·exact h u hu
 have h2 : bL rows (t :: T) <+: cC rows t := mT qr;exact h2.eq_of_length_le h1.length_le
section
variable {rows : List Row} {L : List Int}
theorem znb (L : List Int) (m : Nat) : ∀ i, i <= m -> a8 rows (L.take m) 0 i = a8 rows L 0 i
 | 0, _ => rfl
 | i + 1, h => by
   show c9 rows (a8 rows (L.take m) 0 i) ((L.take m).getD (0 + i) 0) = c9 rows (a8 rows L 0 i) (L.getD (0 + i) 0);rw [znb L m i (by omega)];congr 1;rw [qt, qt, qbr, if_pos (by omega)]
theorem znc (L : List Int) {m i : Nat} (h : i < m) : cO rows (L.take m) i = cO rows L i := by
 unfold cO;rw [znb L m i (by omega)];congr 1;rw [qt, qt, qbr, if_pos h]
theorem znd : ∀ (k i j : Nat), i <= j -> j <= i + k -> (∀ x, i <= x -> x < j -> cO rows L x = false) -> (j = i + k ∨ cO rows L j = true) -> eA rows L k i = j
 | 0, i, j, h1, h2, _, _ => by rw [eA]; omega
 | k + 1, i, j, h1, h2, h3, h4 => by
   rw [eA];split
   ·rename_i hb;apply qae;intro hne;rw [h3 i (qj _) (by omega)] at hb; cases hb
   ·rename_i hb
    have hne : i ≠ j := fun e => by
     subst e;rcases h4 with h4 | h4
     ·omega
     ·exact hb h4
    exact znd k (i + 1) j (by omega) (by omega) (fun x hx hxj => h3 x (by omega) hxj) (h4.imp (fun e => by omega) id)
theorem zde : ∀ (k i x : Nat), i <= x -> x < eA rows L k i -> cO rows L x = false
 | 0, i, x, h1, h2 => by rw [eA] at h2; omega
 | k + 1, i, x, h1, h2 => by
   rw [eA] at h2;split at h2
   ·omega
   ·rename_i hb;by_cases e : x = i
    ·rw [e]; simpa using hb
    ·exact zde k (i + 1) x (by omega) h2
theorem zzc {m i : Nat} (hi : i < m) (hm : m <= L.length) (hn : aT rows L i <= m) : aT rows (L.take m) i = aT rows L i := by
 obtain ⟨h1, h2, h3⟩ := dZ (rows := rows) (L := L) (i := i) (by omega);have hlen : (L.take m).length = m := by rw [qe]; omega
 unfold aT at h1 h2 h3 hn ⊢;rw [hlen];refine znd _ _ _ (by omega) (by omega) (fun x hx hxj => ?_) ?_
 ·rw [znc L (by omega)];exact zde _ _ _ hx hxj
 ·by_cases e : eA rows L (L.length - (i + 1)) (i + 1) = m
  ·exact .inl (by omega)
  ·right;rw [znc L (by omega)];exact h3.resolve_left (by omega)
theorem zne : ∀ (k i : Nat), i <= L.length -> cY rows (L.take (i + jL (cY rows L i) k)) i = (cY rows L i).take k
 | 0, i, hi => by
   rw [zyc, qca, lR (by rw [qe]; omega)]
 | k + 1, i, hi => by
   by_cases hl : i < L.length
   ·obtain ⟨h1, h2, h3⟩ := dZ (rows := rows) hl
    have hp : i + jL (cY rows L i) (k + 1) = aT rows L i + jL (cY rows L (aT rows L i)) k := by
     rw [nY hl];unfold jL;rw [qbo, qat, ql];have : (eF L i (aT rows L i)).length = aT rows L i - i := by unfold eF; rw [qaw, qe]; omega
     omega
    have hle : aT rows L i + jL (cY rows L (aT rows L i)) k <= L.length := by
     have := zyd (cY rows L (aT rows L i)) k;rw [zcw L.length _ (by omega), qaw] at this;omega
    have ih := zne k (aT rows L i) h2;have hcons := nY (rows := rows) hl;rw [hp];have hlen : i < (L.take (aT rows L i + jL (cY rows L (aT rows L i)) k)).length := by rw [qe]; omega
    rw [nY hlen, zzc (by omega) hle (by omega), ih, hcons, qbo];congr 1;unfold eF;rw [qby, Nat.min_eq_left (by omega)]
   ·rw [lR (i := i) (L := L) (by omega), List.take_nil, lR (by rw [qe]; omega)]
theorem zzd (L : List Int) (k : Nat) : cY rows ((cY rows L 0).take k).flatten 0 = (cY rows L 0).take k := by
 have h := zne (rows := rows) (L := L) k 0 (by omega);rw [qz] at h;have e := zmd (cY rows L 0) k;rw [sB] at e;rw [<- e]; exact h
theorem zdg (ht : TabC rows) (l : List Int) (k : Nat) : bW rows ((cC rows l).take k).flatten = ((cC rows l).take k).flatten /\ cC rows ((cC rows l).take k).flatten = (cC rows l).take k := by
 have e := zmd (cC rows l) k;unfold cC at e ⊢;rw [sB] at e;have h1 : bW rows ((cY rows (bW rows l) 0).take k).flatten = ((cY rows (bW rows l) 0).take k).flatten := by rw [<- e]; exact zx2 ht l _
 exact ⟨h1, by rw [h1]; exact zzd _ k⟩
theorem zze (ht : TabC rows) (l : List Int) : cC rows (bW rows l) = cC rows l := by unfold cC; rw [zlt ht]
theorem znf (T : List (List Int)) (hT : T ≠ []) : ∃ t ∈ T, ∃ k, bL rows T = (cC rows t).take k := by
 cases T with
 | nil => exact absurd rfl hT
 | cons t T => exact ⟨t, qr, _, List.prefix_iff_eq_take.1 (mT qr)⟩
theorem zng (ht : TabC rows) {T : List (List Int)} {t : List Int} (h : t ∈ T) : d0 rows t (bL rows T).flatten = true := by
 have hT : T ≠ [] := fun e => by rw [e] at h; cases h
 obtain ⟨s, _, k, e⟩ := znf (rows := rows) T hT;unfold d0;rw [e, (zdg ht s k).2, <- e];exact decide_eq_true (List.prefix_iff_eq_take.1 (mT h)).symm
theorem zzf (ht : TabC rows) (T : List (List Int)) : cC rows (bL rows T).flatten = bL rows T := by
 by_cases hT : T = []
 ·subst hT;have := (zdg ht ([] : List Int) 0).2;simpa [bL] using this
 ·obtain ⟨s, _, k, e⟩ := znf (rows := rows) T hT;rw [e]; exact (zdg ht s k).2
theorem znh {a b : List Int} : d0 rows a b = true ↔ cC rows b <+: cC rows a := by
 unfold d0;rw [aB, List.prefix_iff_eq_take];exact eq_comm
theorem zzg (ht : TabC rows) {T : List (List Int)} (hT : T ≠ []) {b : List Int} (h : ∀ t ∈ T, d0 rows t b = true) : d0 rows (bL rows T).flatten b = true := by
 rw [znh, zzf ht];exact zdd hT fun t hm => znh.1 (h t hm)
end
def dK (rows : List Row) (L : List Int) (i : Nat) : Bool := decide (i < L.length) && bM rows 8 (L.getD i 0)
def kG (rows : List Row) (L : List Int) : Nat -> Nat -> Nat
 | 0, i => i
 | k + 1, i => if dK rows L i = true then kG rows L k (aT rows L i) else i
def dE (rows : List Row) (L : List Int) (i : Nat) : Nat := kG rows L (L.length + 1) i
def jB (rows : List Row) (L : List Int) : Nat -> Nat -> List (Nat × Nat)
 | 0, _ => []
 | k + 1, i => if i < L.length then (if dK rows L i = true then (i, dE rows L i) :: jB rows L k (dE rows L i) else jB rows L k (aT rows L i)) else []
def dG (rows : List Row) (L : List Int) (i : Nat) : List (Nat × Nat) := jB rows L (L.length + 1) i
section
variable {rows : List Row} {L : List Int}
theorem jM {i : Nat} (h : dK rows L i = true) : i < L.length := by
 unfold dK at h;simp only [qb, aB] at h; exact h.1
theorem zni : ∀ (k i : Nat), L.length <= k + i -> kG rows L k i = kG rows L (k + 1) i
 | 0, i, h => by
   rw [kG, kG, if_neg];intro hl;have := jM hl; omega
 | k + 1, i, h => by
   rw [kG, kG];by_cases hl : dK rows L i = true
   ·rw [if_pos hl, if_pos hl, zni k _ (by have := (dZ (rows := rows) (jM hl)).1; omega)]
   ·rw [if_neg hl, if_neg hl]
theorem oD {i : Nat} (h : dK rows L i = true) : dE rows L i = dE rows L (aT rows L i) := by
 have := (dZ (rows := rows) (jM h)).1;unfold dE;rw [<- zni L.length (aT rows L i) (by omega), kG, if_pos h]
theorem sD {i : Nat} (h : ¬dK rows L i = true) : dE rows L i = i := by
 unfold dE; rw [kG, if_neg h]
theorem vZ : ∀ (k i : Nat), L.length - i <= k -> i <= L.length -> (i = L.length ∨ cO rows L i = true) -> i <= dE rows L i /\ dE rows L i <= L.length /\ (dE rows L i = L.length ∨ cO rows L (dE rows L i) = true) /\ ¬dK rows L (dE rows L i) = true
 | 0, i, h, hi, hb => by
   have hl : ¬dK rows L i = true := fun hl => by have := jM hl; omega
   rw [sD hl]; exact ⟨qj _, hi, hb, hl⟩
 | k + 1, i, h, hi, hb => by
   by_cases hl : dK rows L i = true
   ·obtain ⟨h1, h2, h3⟩ := dZ (rows := rows) (jM hl);rw [oD hl];obtain ⟨g1, g2, g3, g4⟩ := vZ k _ (by omega) h2 h3;exact ⟨by omega, g2, g3, g4⟩
   ·rw [sD hl]; exact ⟨qj _, hi, hb, hl⟩
theorem sE {i : Nat} (h : dK rows L i = true) : i < dE rows L i := by
 obtain ⟨h1, h2, h3⟩ := dZ (rows := rows) (jM h);have := (vZ (rows := rows) L.length _ (by omega) h2 h3).1;rw [oD h]; omega
theorem zdh {i : Nat} (h : dK rows L i = true) : dE rows L i <= L.length := by
 obtain ⟨h1, h2, h3⟩ := dZ (rows := rows) (jM h);rw [oD h];exact (vZ (rows := rows) L.length _ (by omega) h2 h3).2.1
theorem wB : ∀ (k i : Nat), L.length <= k + i -> jB rows L k i = jB rows L (k + 1) i
 | 0, i, h => by rw [jB, jB, if_neg (by omega)]
 | k + 1, i, h => by
   rw [jB, jB];by_cases hi : i < L.length
   ·rw [if_pos hi, if_pos hi];by_cases hl : dK rows L i = true
    ·rw [if_pos hl, if_pos hl, wB k _ (by have := sE hl; omega)]
    ·rw [if_neg hl, if_neg hl, wB k _ (by have := (dZ (rows := rows) hi).1; omega)]
   ·rw [if_neg hi, if_neg hi]
theorem pN {i : Nat} (h : L.length <= i) : dG rows L i = [] := by unfold dG; rw [jB, if_neg (by omega)]
theorem sF {i : Nat} (h : dK rows L i = true) : dG rows L i = (i, dE rows L i) :: dG rows L (dE rows L i) := by
 have := sE h;have hl := jM h;unfold dG;rw [<- wB L.length (dE rows L i) (by omega), jB, if_pos hl, if_pos h]
theorem pO {i : Nat} (hi : i < L.length) (h : ¬dK rows L i = true) : dG rows L i = dG rows L (aT rows L i) := by
 have := (dZ (rows := rows) hi).1;unfold dG;rw [<- wB L.length (aT rows L i) (by omega), jB, if_pos hi, if_neg h]
def gU (rows : List Row) (L : List Int) (out : List (Nat × Nat)) (i : Nat) : List (Nat × Nat) := match out.getLast? with
 | some (a, b) => if b = i then out.dropLast ++ (a, dE rows L i) :: dG rows L (dE rows L i) else out ++ dG rows L i
 | none => out ++ dG rows L i
theorem zdi (out : List (Nat × Nat)) (a b i : Nat) : gU rows L (out ++ [(a, b)]) i = if b = i then out ++ (a, dE rows L i) :: dG rows L (dE rows L i) else out ++ [(a, b)] ++ dG rows L i := by
 unfold gU;rw [qan, qam]
theorem zzh {out : List (Nat × Nat)} {a i : Nat} (h : dK rows L i = true) : gU rows L (out ++ [(a, i)]) i = gU rows L (out ++ [(a, aT rows L i)]) (aT rows L i) := by
 rw [zdi, zdi, if_pos rfl, if_pos rfl, oD h]
theorem zzi {out : List (Nat × Nat)} {i : Nat} (h : dK rows L i = true) (ho : ∀ q, out.getLast? = some q -> q.2 ≠ i) : gU rows L out i = gU rows L (out ++ [(i, aT rows L i)]) (aT rows L i) := by
 rw [zdi, if_pos rfl];unfold gU;cases hl : out.getLast? with
 | none => dsimp only; rw [sF h, oD h]
 | some q =>
   obtain ⟨a, b⟩ := q;dsimp only;rw [if_neg (ho _ hl), sF h, oD h]
theorem zzj {out : List (Nat × Nat)} {i : Nat} (hi : i < L.length) (h : ¬dK rows L i = true) (ho : ∀ q, out.getLast? = some q -> q.2 <= i) : gU rows L out i = gU rows L out (aT rows L i) := by
 have hn := (dZ (rows := rows) hi).1;unfold gU;cases hl : out.getLast? with
 | none => dsimp only; rw [pO hi h]
 | some q =>
   obtain ⟨a, b⟩ := q;have hb := ho _ hl;dsimp only at hb ⊢;rw [if_neg (show ¬b = aT rows L i by omega)];split
   ·rename_i e;rw [sD h, pO hi h]
    have : out = out.dropLast ++ [(a, b)] := by
     obtain ⟨l', hl'⟩ := List.getLast?_eq_some_iff.1 hl;rw [hl', qam]
    conv => rhs; rw [this]
    rw [e, qaj]; rfl
   ·rw [pO hi h]
theorem zzk {out : List (Nat × Nat)} {i : Nat} (hi : L.length <= i) : gU rows L out i = out := by
 have hl' : ¬dK rows L i = true := fun h => by have := jM h; omega
 unfold gU;cases hl : out.getLast? with
 | none => dsimp only; rw [pN hi, qaq]
 | some q =>
   obtain ⟨a, b⟩ := q;dsimp only;split
   ·rename_i e;rw [sD hl', pN hi];obtain ⟨l', hl'⟩ := List.getLast?_eq_some_iff.1 hl;rw [hl', qam, e]
   ·rw [pN hi, qaq]
def pP (rows : List Row) (a b : Int) : Bool :=
 if aK rows b = 6 then decide (aK rows a = 6) else if aK rows b = 0 then (decide (aK rows a = 5) && bM rows 5 b) || (decide (bE rows b = 2) && (!decide (bE rows a = 0) && !decide (bE rows a = 2))) else false
structure kH (rows : List Row) : Prop where
 pict : ∀ r, bM rows 5 r = true -> aK rows r = 0
 cons : ∀ r, bE rows r = 2 -> aK rows r = 0
theorem sure_ok (ht : dY rows) (hw : kH rows) {k : Nat} (hc : kE rows (c9 rows jK (L.getD k 0)) (L.getD (k + 1) 0) = true) (hh : pP rows (L.getD k 0) (L.getD (k + 1) 0) = false) : cO rows L (k + 1) = true := by
 have hp := zcv (rows := rows) (L := L) k;have hco := zma (rows := rows) (L := L) k;have ho := zmb (rows := rows) (L := L) k;rw [zcu];have hl : (a8 rows L 0 (k + 1)).last = aK rows (L.getD k 0) := by rw [vU, qz]
 generalize a8 rows L 0 (k + 1) = s at *;generalize a8 rows L 0 k = s0 at *;generalize L.getD (k + 1) 0 = b at *;generalize L.getD k 0 = a at *;unfold mR;rw [hl]
 have hst : gT (aK rows a) (aK rows b) = false := by
  have hc' : (!true || mR rows (c9 rows jK a) b) = true := hc;simp only [qav, qai] at hc';unfold mR at hc';simp only [qb, qi] at hc';exact hc'.1
 have g1 : (decide (s.pict = 2) && bM rows 5 b) = false := by
  cases hb : bM rows 5 b with
  | false => rw [qas]
  | true =>
    have h0 := hw.pict b hb;rw [qcd, bS];intro h2
    have ha5 : aK rows a = 5 := by
     rw [hp] at h2;split at h2
     ·omega
     ·split at h2
      ·omega
      ·split at h2
       ·rename_i h3; exact h3.2
       ·omega
    unfold pP at hh;rw [if_neg (by omega), if_pos h0, ha5, hb] at hh;simp at hh
 have g2 : (decide (s.conj = 2) && decide (bE rows b = 2)) = false := by
  by_cases hb : bE rows b = 2
  ·have h0 := hw.cons b hb;rw [decide_eq_true hb, qcd, bS];intro h2
   have ha : bE rows a ≠ 0 /\ bE rows a ≠ 2 := by
    rw [hco] at h2;split at h2
    ·omega
    ·rename_i h3;refine ⟨fun h4 => ?_, h3⟩;rw [h4] at h2;rw [if_neg (fun h => absurd h.2 (by decide)), if_neg (fun h => absurd h.2 (by decide))] at h2;omega
   unfold pP at hh;rw [if_neg (by omega), if_pos h0, decide_eq_true hb, decide_eq_false ha.1, decide_eq_false ha.2] at hh;simp at hh
  ·rw [decide_eq_false hb, qas]
 have g3 : (s.odd && decide (aK rows b = 6)) = false := by
  by_cases hb : aK rows b = 6
  ·unfold pP at hh;rw [if_pos hb, bS] at hh;rw [ho, decide_eq_false hh]; rfl
  ·rw [decide_eq_false hb, qas]
 rw [hst, g1, g2, g3]; rfl
theorem zzl {i j : Nat} (hij : i < j) (hj : j <= L.length) (hb : j = L.length ∨ cO rows L j = true) : aT rows L i <= j := by
 apply qae;intro h;rcases hb with hb | hb
 ·have := (dZ (rows := rows) (L := L) (i := i) (by omega)).2.1; omega
 ·have := zde (rows := rows) (L := L) (L.length - (i + 1)) (i + 1) j (by omega) (by unfold aT at h; omega);rw [this] at hb; cases hb
end
def wC (rows : List Row) (lo hi : Int) : Bool := (rows.all fun y => !decide (y.kind = 4) || (decide (y.to < lo) || decide (hi < y.fr))) && (decide (hi < 44032) || decide (55203 < lo))
def zzm (rows : List Row) : Bool := rows.all fun x => (!(decide (x.kind = 5) && decide (x.a = 1)) || wC rows x.fr x.to) && (!(decide (x.kind = 6) && decide (x.a = 2)) || wC rows x.fr x.to)
theorem znj {rows : List Row} {lo hi r : Int} (h : wC rows lo hi = true) (hr : lo <= r /\ r <= hi) : aK rows r = 0 := by
 unfold wC at h;simp only [qb, qk, aB] at h;unfold aK;rw [if_neg (by omega)];unfold aF;cases hf : bR rows 4 r with
 | none => rfl
 | some p =>
   obtain ⟨x, hx, hk, ha, _, h3, h4, _⟩ := iH hf;have := List.all_eq_true.1 h.1 x hx;simp only [qk, qi, aB, bS] at this;rcases this with h5 | h5 | h5
   ·exact absurd hk h5
   ·omega
   ·omega
theorem zzn {rows : List Row} (h : zzm rows = true) : kH rows := by
 have hall := List.all_eq_true.1 h;refine ⟨fun r hr => ?_, fun r hr => ?_⟩
 ·unfold bM at hr;cases hf : bR rows 5 r with
  | none => rw [hf] at hr; cases hr
  | some p =>
    rw [hf] at hr;obtain ⟨x, hx, hk, ha, _, h3, h4, _⟩ := iH hf;have := hall x hx;simp only [qb, qk, qi, qx, bS] at this;rcases this.1 with (h5 | h5) | h5
    ·exact absurd hk h5
    ·exact absurd (ha.trans (of_decide_eq_true hr)) h5
    ·exact znj h5 ⟨h3, h4⟩
 ·have hn : aF rows 6 r = 2 := by
   unfold bE at hr;split at hr
   ·exact hr
   ·split at hr <;> omega
  unfold aF at hn;cases hf : bR rows 6 r with
  | none => rw [hf] at hn; cases hn
  | some p =>
    rw [hf] at hn;obtain ⟨x, hx, hk, ha, _, h3, h4, _⟩ := iH hf;have := hall x hx;simp only [qb, qk, qi, qx, bS] at this;rcases this.2 with (h5 | h5) | h5
    ·exact absurd hk h5
    ·exact absurd (ha.trans hn) h5
    ·exact znj h5 ⟨h3, h4⟩
end Go.Eng.Rows
namespace Go.Eng
open Go.Eng.Rows
theorem zzo : kH tab := zzn (by kernel_rfl)
end Go.Eng
namespace Go.Eng
open Go Go.Proofs
section
variable (tc tg tj tf tp : PV) (M S : List (PV × PV)) (r : Int)
def znk (R : PV -> Prop) : Prop :=
 (∃ ps, some tf = some (PV.ptr ps) /\ PCall qa 92 [PV.ptr ps, Z6 (i64.wrap r)] fun v => ∃ cs, v = PV.agg cs /\ cs.length = 4 /\ ∃ b, cs.head? = some (Zb b) /\ ∃ b1, cs.tail.head? = some (Zb b1) /\ ∃ b2, cs.tail.tail.head? = some (Zb b2) /\ ∃ b3, cs.tail.tail.tail.head? = some (Zb b3) /\ R (Zb b2)) ∨ some tf = some PV.nilp /\ PCall qa 92 [PV.nilp, Z6 (i64.wrap r)] fun v => ∃ cs, v = PV.agg cs /\ cs.length = 4 /\ ∃ b, cs.head? = some (Zb b) /\ ∃ b1, cs.tail.head? = some (Zb b1) /\ ∃ b2, cs.tail.tail.head? = some (Zb b2) /\ ∃ b3, cs.tail.tail.tail.head? = some (Zb b3) /\ R (Zb b2)
theorem zzp {R : PV -> Prop} (h : znk tf r R) : PCall qa 130 [.ptr [tc, tg, tj, tf, tp, .mp M, .mp S], .int .i32 r] R :=
 PCall.wz Tryz.func130 aM [0, 1, 4] aX h
end
section
variable (tc tg tj tf tp : PV) (M S : List (PV × PV)) (a b : Int)
def znl (R : PV -> Prop) : Prop :=
 PCall qa 142 [PV.ptr [tc, tg, tj, tf, tp, PV.mp M, PV.mp S], Z3 b] fun v => ∃ n, v = Z6 n /\ if (n == 6) = true then PCall qa 142 [PV.ptr [tc, tg, tj, tf, tp, PV.mp M, PV.mp S], Z3 a] fun v1 => ∃ (n1 :
  Int), v1 = Z6 n1 /\ R (Zb (n1 == 6)) else if (n == 0) = true then PCall qa 142 [PV.ptr [tc, tg, tj, tf, tp, PV.mp M, PV.mp S], Z3 a] fun v1 => ∃ n1, v1 = Z6 n1 /\
 let V1 := PCall qa 144 [PV.ptr [tc, tg, tj, tf, tp, PV.mp M, PV.mp S], Z3 b] fun v3 => ∃ n2, v3 = Z6 n2 /\ if (n2 == 2) = true then PCall qa 144 [PV.ptr [tc, tg, tj, tf, tp, PV.mp M, PV.mp S], Z3 a] fun (v4 : PV)
  => ∃ n3, v4 = Z6 n3 /\ if (n3 != 0) = true then PCall qa 144 [PV.ptr [tc, tg, tj, tf, tp, PV.mp M, PV.mp S], Z3 a] fun v5 => ∃ n4, v5 = Z6 n4 /\ R (Zb (n4 != 2)) else R (Zb false) else R (Zb false); if (n1 == 5)
  = true then PCall qa 143 [PV.ptr [tc, tg, tj, tf, tp, PV.mp M, PV.mp S], Z3 b] fun v2 => ∃ b1, v2 = Zb b1 /\ if b1 = true then R (Zb true) else V1 else V1 else R (Zb false)
theorem zzq {R : PV -> Prop} (h : znl tc tg tj tf tp M S a b R) : PCall qa 176 [.ptr [tc, tg, tj, tf, tp, .mp M, .mp S], .int .i32 a, .int .i32 b] R :=
 PCall.wz Tryz.func176 aM [0, 1, 2, 6, 9, 10, 16] aX h
end
def zdj (tc tg tj tf tp : PV) (M S : List (PV × PV)) (n f : Bool) (es : LL) (x2 : Int) : Env × Hp := ([(0, LV.pv (PV.ptr [tc, tg, tj, tf, tp, PV.mp M, PV.mp S])), (1, LV.pv (PV.sl n f es)), (2, Y6 x2)], [])
section
variable (tc tg tj tf tp : PV) (M S : List (PV × PV)) (n f : Bool) (es : LL) (k : Int) (J : Int -> Prop) (μ : Int -> Nat)
def znm (R : PV -> Prop) : Prop :=
 (aD (zdj tc tg tj tf tp M S n f es k) /\ J k) /\ ∀ (x2 : Int), J x2 ->
 let K1 := fun (y0_ : Int) => aD (zdj tc tg tj tf tp M S n f es y0_) /\ J y0_ /\ μ y0_ < μ x2; if decide (x2 > 0) = true then aH es (i64.wrap (x2 - 1)) 1 /\ ∃ n1, (es.getD (i64.wrap (x2 - 1)).toNat []).head? =
  some (Z3 n1) /\ PCall qa 120 [PV.agg [Zb false, Z6 0, Z6 0, Z6 0, Zb false], PV.ptr [tc, tg, tj, tf, tp, PV.mp M, PV.mp S], Z3 n1] fun v => ∃ vs, v = PV.tup vs /\ vs.length = 2 /\ ∃ x, vs.head? = some x /\ ∃
  (cs : List PV), x = PV.agg cs /\ cs.length = 5 /\ ∃ b, cs.head? = some (Zb b) /\ ∃ n2, cs.tail.head? = some (Z6 n2) /\ ∃ n3, cs.tail.tail.head? = some (Z6 n3) /\ ∃ n4, cs.tail.tail.tail.head? = some (Z6 n4) /\
  ∃ b1, cs.tail.tail.tail.tail.head? = some (Zb b1) /\ ∃ x1, vs.tail.head? = some x1 /\ ∃ b2, x1 = Zb b2 /\
 let V1 := aH es x2 1 /\ ∃ n5, (es.getD x2.toNat []).head? = some (Z3 n5) /\
 let V2 := aH es (i64.wrap (x2 - 1)) 1 /\ ∃ n9, (es.getD (i64.wrap (x2 - 1)).toNat []).head? = some (Z3 n9) /\ aH es x2 1 /\ ∃ n10, (es.getD x2.toNat []).head? = some (Z3 n10) /\ PCall qa 176 [PV.ptr
  [tc, tg, tj, tf, tp, PV.mp M, PV.mp S], Z3 n9, Z3 n10] fun v2 => ∃ b6, v2 = Zb b6 /\ if (!b6) = true then R (Z6 x2) else K1 (i64.wrap (x2 - 1));
 let V3 := K1 (i64.wrap (x2 - 1)); (PCall qa 120 [PV.agg [Zb b, Z6 n2, Z6 n3, Z6 n4, Zb b1], PV.ptr [tc, tg, tj, tf, tp, PV.mp M, PV.mp S], Z3 n5] fun v1 => ∃ vs1, v1 = PV.tup vs1 /\ vs1.length = 2 /\ ∃ (x3 :
  PV), vs1.head? = some x3 /\ ∃ cs1, x3 = PV.agg cs1 /\ cs1.length = 5 /\ ∃ b3, cs1.head? = some (Zb b3) /\ ∃ n6, cs1.tail.head? = some (Z6 n6) /\ ∃ n7, cs1.tail.tail.head? = some (Z6 n7) /\ ∃ (n8 : Int),
  cs1.tail.tail.tail.head? = some (Z6 n8) /\ ∃ b4, cs1.tail.tail.tail.tail.head? = some (Zb b4) /\ ∃ x4, vs1.tail.head? = some x4 /\ ∃ b5, x4 = Zb b5 /\ (if b5 = true then V2 else V3) /\ (if b5 = true then V2 else V3) /\
  if b5 = true then V2 else V3) /\ PCall qa 120 [PV.agg [Zb b, Z6 n2, Z6 n3, Z6 n4, Zb b1], PV.ptr [tc, tg, tj, tf, tp, PV.mp M, PV.mp S], Z3 n5] fun v1 => ∃ vs1, v1 = PV.tup vs1 /\ vs1.length = 2 /\ ∃ (x3 : PV),
  vs1.head? = some x3 /\ ∃ cs1, x3 = PV.agg cs1 /\ cs1.length = 5 /\ ∃ b3, cs1.head? = some (Zb b3) /\ ∃ n6, cs1.tail.head? = some (Z6 n6) /\ ∃ n7, cs1.tail.tail.head? = some (Z6 n7) /\ ∃ (n8 : Int),
  cs1.tail.tail.tail.head? = some (Z6 n8) /\ ∃ b4, cs1.tail.tail.tail.tail.head? = some (Zb b4) /\ ∃ x4, vs1.tail.head? = some x4 /\ ∃ b5, x4 = Zb b5 /\ (if b5 = true then V2 else V3) /\ if b5 = true then V2 else V3; V1
  /\ V1 else R (Z6 0)
theorem zzr {R : PV -> Prop} (h : znm tc tg tj tf tp M S n f es k J μ R) : PCall qa 172 [.ptr [tc, tg, tj, tf, tp, .mp M, .mp S], .sl n f es, .int .i64 k] R :=
 PCall.wz Tryz.func172 aM [0, 1, 2, 6, 7, 9, 11, 49] (bU 1 (aZ g9 (zdj tc tg tj tf tp M S n f es) J μ (fun e h => (((gI e 2), ()))) [] [0, 1, 2] [])) h
end
def zdk (tc tg tj tf tp : PV) (M S : List (PV × PV)) (n f : Bool) (es : LL) (k x7 : Int) : Env × Hp := ([(0, LV.pv (PV.ptr [tc, tg, tj, tf, tp, PV.mp M, PV.mp S])), (1, LV.pv (PV.sl n f es)), (2, Y6 k), (7, Y6 x7)], [])
section
variable (tc tg tj tf tp : PV) (M S : List (PV × PV)) (n f : Bool) (es : LL) (k : Int) (J : Int -> Prop) (μ : Int -> Nat)
def znn (R : PV -> Prop) : Prop :=
 if decide (k <= 0) = true then R (Z6 0) else if decide (k >= (↑es.length : Int)) = true then R (Z6 (↑es.length : Int)) else PCall qa 172 [PV.ptr [tc, tg, tj, tf, tp, PV.mp M, PV.mp S], PV.sl n f es, Z6 k] fun v => ∃ n1, v = Z6 n1 /\ (aD (zdk tc tg tj tf tp M S n f es k n1) /\ J n1) /\ ∀ (x7 : Int), J x7 -> if decide (x7 < k) = true then PCall qa 94 [PV.ptr [tc, tg, tj, tf, tp, PV.mp M, PV.mp S], PV.sl n f es, Z6 x7] fun v1 => ∃ n2, v1 = Z6 n2 /\ if decide (n2 > k) = true then R (Z6 x7) else aD (zdk tc tg tj tf tp M S n f es k n2) /\ J n2 /\ μ n2 < μ x7 else R (Z6 x7)
theorem zzs {R : PV -> Prop} (h : znn tc tg tj tf tp M S n f es k J μ R) : PCall qa 161 [.ptr [tc, tg, tj, tf, tp, .mp M, .mp S], .sl n f es, .int .i64 k] R :=
 PCall.wz Tryz.func161 aM [0, 1, 2, 6, 7, 8, 9, 12, 25, 31] (bU 6 (aZ g9 (zdk tc tg tj tf tp M S n f es k) J μ (fun e h => (((gI e 7), ()))) [] [0, 1, 2, 7] [])) h
end
section
variable (tc tg tj tf tp : PV) (M S : List (PV × PV)) (n f : Bool) (es : LL) (k : Int)
def zno (R : PV -> Prop) : Prop :=
 PCall qa 161 [PV.ptr [tc, tg, tj, tf, tp, PV.mp M, PV.mp S], PV.sl n f es, Z6 k] fun v => ∃ n1, v = Z6 n1 /\ if decide (n1 >= k) = true then R (Z6 n1) else PCall qa 94 [PV.ptr [tc, tg, tj, tf, tp, PV.mp M, PV.mp S], PV.sl n f es, Z6 n1] fun v1 => ∃ n2, v1 = Z6 n2 /\ R (Z6 n2)
theorem zzt {R : PV -> Prop} (h : zno tc tg tj tf tp M S n f es k R) : PCall qa 131 [.ptr [tc, tg, tj, tf, tp, .mp M, .mp S], .sl n f es, .int .i64 k] R :=
 PCall.wz Tryz.func131 aM [0, 1, 2, 6, 7, 14] aX h
end
section
variable (tc tg tj tf tp : PV) (M S : List (PV × PV)) (n f : Bool) (es : LL) (k : Int)
def znp (R : PV -> Prop) : Prop :=
 if decide (k < (↑es.length : Int)) = true then aH es k 1 /\ ∃ n1, (es.getD k.toNat []).head? = some (Z3 n1) /\ PCall qa 130 [PV.ptr [tc, tg, tj, tf, tp, PV.mp M, PV.mp S], Z3 n1] fun v => ∃ b, v = Zb b /\ R (Zb b) else R (Zb false)
theorem zzu {R : PV -> Prop} (h : znp tc tg tj tf tp M S es k R) : PCall qa 104 [.ptr [tc, tg, tj, tf, tp, .mp M, .mp S], .sl n f es, .int .i64 k] R :=
 PCall.wz Tryz.func104 aM [0, 1, 2, 6] aX h
end
def zdl (tc tg tj tf tp : PV) (M S : List (PV × PV)) (n f : Bool) (es : LL) (x2 : Int) : Env × Hp := ([(0, LV.pv (PV.ptr [tc, tg, tj, tf, tp, PV.mp M, PV.mp S])), (1, LV.pv (PV.sl n f es)), (2, Y6 x2)], [])
section
variable (tc tg tj tf tp : PV) (M S : List (PV × PV)) (n f : Bool) (es : LL) (k : Int) (J : Int -> Prop) (μ : Int -> Nat)
def znq (R : PV -> Prop) : Prop :=
 PCall qa 131 [PV.ptr [tc, tg, tj, tf, tp, PV.mp M, PV.mp S], PV.sl n f es, Z6 k] fun v => ∃ n1, v = Z6 n1 /\
 let V1 := (aD (zdl tc tg tj tf tp M S n f es n1) /\ J n1) /\ ∀ (x2 : Int), J x2 -> PCall qa 104 [PV.ptr [tc, tg, tj, tf, tp, PV.mp M, PV.mp S], PV.sl n f es, Z6 x2] fun v2 => ∃ b1, v2 = Zb b1 /\ if b1 = true then
  PCall qa 94 [PV.ptr [tc, tg, tj, tf, tp, PV.mp M, PV.mp S], PV.sl n f es, Z6 x2] fun v3 => ∃ n2, v3 = Z6 n2 /\ aD (zdl tc tg tj tf tp M S n f es n2) /\ J n2 /\ μ n2 < μ x2 else R (Z6 x2); if decide (n1 <
  (↑es.length : Int)) = true then PCall qa 104 [PV.ptr [tc, tg, tj, tf, tp, PV.mp M, PV.mp S], PV.sl n f es, Z6 n1] fun v1 => ∃ b, v1 = Zb b /\ if (!b) = true then PCall qa 94 [PV.ptr [tc, tg, tj, tf, tp, PV.mp
  M, PV.mp S], PV.sl n f es, Z6 n1] fun v2 => ∃ n2, v2 = Z6 n2 /\ aJ 1103 else V1 else V1
theorem zzv {R : PV -> Prop} (h : znq tc tg tj tf tp M S n f es k J μ R) : PCall qa 105 [.ptr [tc, tg, tj, tf, tp, .mp M, .mp S], .sl n f es, .int .i64 k] R :=
 PCall.wz Tryz.func105 aM [0, 1, 2, 6, 21, 29] (bU 4 (aZ g9 (zdl tc tg tj tf tp M S n f es) J μ (fun e h => (((gI e 2), ()))) [] [0, 1, 2] [])) h
end
def zdm (tc tg tj tf tp : PV) (M S : List (PV × PV)) (n f : Bool) (es : LL) (x6 : Int) (n_0 : Bool) (s_0 : LL) : Env × Hp := ([(0, LV.pv (PV.ptr [tc, tg, tj, tf, tp, PV.mp M, PV.mp S])), (1, LV.pv (PV.sl n f es)), (5, LV.own 0), (6, Y6 x6)], [.sl (120, 2) true n_0 s_0])
section
variable (tc tg tj tf tp : PV) (M S : List (PV × PV)) (n f : Bool) (es : LL) (J : Int -> Bool -> LL -> Prop) (μ : Int -> Bool -> LL -> Nat)
def znr (R : PV -> Prop) : Prop :=
 (aD (zdm tc tg tj tf tp M S n f es (0 : Int) true []) /\ J (0 : Int) true []) /\ ∀ (x6 : Int) (n_0 : Bool) (s_0 : LL), J x6 n_0 s_0 ->
 let K3 := fun (y0_ : Int) (y1_ : Bool) (y2_ : LL) => aD (zdm tc tg tj tf tp M S n f es y0_ y1_ y2_) /\ J y0_ y1_ y2_ /\ μ y0_ y1_ y2_ < μ x6 n_0 s_0; if decide (x6 < (↑es.length : Int)) = true then PCall qa 104 [PV.ptr [tc, tg, tj, tf, tp, PV.mp M, PV.mp S], PV.sl n f es, Z6 x6] fun v => ∃ b, v = Zb b /\ if (!b) = true then PCall qa 94 [PV.ptr [tc, tg, tj, tf, tp, PV.mp M, PV.mp S], PV.sl n f es, Z6 x6] fun v1 => ∃ n1, v1 = Z6 n1 /\ K3 n1 n_0 s_0 else PCall qa 105 [PV.ptr [tc, tg, tj, tf, tp, PV.mp M, PV.mp S], PV.sl n f es, Z6 x6] fun v1 => ∃ n1, v1 = Z6 n1 /\ (aR [[Z6 x6, Z6 n1]] 2 /\ (s_0.length + 1) * 16 <= 140737488355328) /\ K3 n1 (n_0 && false) (s_0 ++ [[Z6 x6, Z6 n1]]) else R (PV.sl n_0 false s_0)
theorem zzw {R : PV -> Prop} (h : znr tc tg tj tf tp M S n f es J μ R) : PCall qa 73 [.ptr [tc, tg, tj, tf, tp, .mp M, .mp S], .sl n f es] R :=
 PCall.wz Tryz.func73 aM [0, 1, 4, 5, 6, 7, 11, 16] (bU 3 (aZ dV (zdm tc tg tj tf tp M S n f es) J μ (fun e h => (gI e 6, oN h 0, oS h 0)) [(5, 120, 2)] [0, 1, 5, 6] [])) h
end
section
variable (n f : Bool) (es : LL) (n2 f2 : Bool) (ss : LL) (k : Int)
def zns (R : PV -> Prop) : Prop :=
 if (decide (k >= 0) && decide (k < (↑ss.length : Int))) = true then PCall qa 124 [PV.sl n f es, PV.sl n2 f2 ss, Z6 k] fun v => ∃ b, v = Zb b /\ if b = true then aH ss k 1 /\ ∃ n1, (ss.getD k.toNat []).head? = some (Z3 n1) /\ PCall qa 129 [PV.sl n f es, Z6 8, Z3 n1] fun v1 => ∃ n3, v1 = Z6 n3 /\ R (Zb (n3 == 1)) else R (Zb false) else R (Zb false)
theorem zzx {R : PV -> Prop} (h : zns n f es n2 f2 ss k R) : PCall qa 107 [.sl n f es, .sl n2 f2 ss, .int .i64 k] R :=
 PCall.wz Tryz.func107 aM [0, 1, 2, 6] aX h
end
def zdn (n f : Bool) (es : LL) (n2 f2 : Bool) (ss : LL) (x6 : Int) (n_0 : Bool) (s_0 : LL) : Env × Hp := ([(0, LV.pv (PV.sl n f es)), (1, LV.pv (PV.sl n2 f2 ss)), (5, LV.own 0), (6, Y6 x6)], [.sl (120, 2) true n_0 s_0])
section
variable (n f : Bool) (es : LL) (n2 f2 : Bool) (ss : LL) (J : Int -> Bool -> LL -> Prop) (μ : Int -> Bool -> LL -> Nat)
def znt (R : PV -> Prop) : Prop :=
 (aD (zdn n f es n2 f2 ss (0 : Int) true []) /\ J (0 : Int) true []) /\ ∀ (x6 : Int) (n_0 : Bool) (s_0 : LL), J x6 n_0 s_0 ->
 let K3 := fun (y0_ : Int) (y1_ : Bool) (y2_ : LL) => aD (zdn n f es n2 f2 ss y0_ y1_ y2_) /\ J y0_ y1_ y2_ /\ μ y0_ y1_ y2_ < μ x6 n_0 s_0; if decide (x6 < (↑ss.length : Int)) = true then PCall qa 107 [PV.sl n f es, PV.sl n2 f2 ss, Z6 x6] fun v => ∃ b, v = Zb b /\ if (!b) = true then PCall qa 97 [PV.sl n f es, PV.sl n2 f2 ss, Z6 x6] fun v1 => ∃ n1, v1 = Z6 n1 /\ K3 n1 n_0 s_0 else PCall qa 97 [PV.sl n f es, PV.sl n2 f2 ss, Z6 x6] fun v1 => ∃ n1, v1 = Z6 n1 /\
 let V1 := (aR [[Z6 x6, Z6 n1]] 2 /\ (s_0.length + 1) * 16 <= 140737488355328) /\ PCall qa 97 [PV.sl n f es, PV.sl n2 f2 ss, Z6 x6] fun v2 => ∃ n4, v2 = Z6 n4 /\ K3 n4 (n_0 && false) (s_0 ++ [[Z6 x6, Z6 n1]]); if decide ((↑s_0.length : Int) > 0) = true then aH s_0 (i64.wrap ((↑s_0.length : Int) - 1)) 2 /\ ((0 : Int) <= 1 /\ (1 : Int) < (↑2 : Int)) /\ ∃ n3, (qf 1 (s_0.getD (i64.wrap ((↑s_0.length : Int) - 1)).toNat [])).head? = some (Z6 n3) /\ if (n3 == x6) = true then aH s_0 (i64.wrap ((↑s_0.length : Int) - 1)) 2 /\ ((0 : Int) <= 1 /\ (1 : Int) < (↑2 : Int)) /\ (1 = 1 /\ 2 <= (s_0.getD (i64.wrap ((↑s_0.length : Int) - 1)).toNat []).length) /\ PCall qa 97 [PV.sl n f es, PV.sl n2 f2 ss, Z6 x6] fun v2 => ∃ n4, v2 = Z6 n4 /\ K3 n4 n_0 (s_0.set (i64.wrap ((↑s_0.length : Int) - 1)).toNat (aS (s_0.getD (i64.wrap ((↑s_0.length : Int) - 1)).toNat []) 1 [Z6 n1])) else V1 else V1 else R (PV.sl n_0 false s_0)
theorem zzy {R : PV -> Prop} (h : znt n f es n2 f2 ss J μ R) : PCall qa 76 [.sl n f es, .sl n2 f2 ss] R :=
 PCall.wz Tryz.func76 aM [0, 1, 4, 5, 6, 7, 11, 20, 38] (bU 3 (aZ dV (zdn n f es n2 f2 ss) J μ (fun e h => (gI e 6, oN h 0, oS h 0)) [(5, 120, 2)] [0, 1, 5, 6] [])) h
end
end Go.Eng
namespace Go.Eng
open Go Go.Proofs Go.Eng.Rows Go.Eng.Trie Go.Eng.Srt
section
variable {rows : List Row} {v : PV}
theorem zzz (hv : c8 rows v) {r : Int} (hr : -2147483648 <= r /\ r <= 2147483647) : PCall qa 130 [v, .int .i32 r] fun x => x = .bool (bM rows 8 r) := by
 obtain ⟨tc, tg, tj, tf, tp, made, sec, rfl, ht, hm⟩ := hv;refine zzp _ _ _ _ _ _ _ _ ?_; unfold znk;obtain ⟨ps, rfl⟩ := ht.f.ptr;refine .inl ⟨ps, rfl, ?_⟩;have hw : i64.wrap r = r := aG (by omega) (by omega);rw [hw];refine (za9 ht.f r (by omega)).mono ?_;rintro _ rfl;rw [zbq];exact ⟨_, rfl, rfl, _, rfl, _, rfl, _, rfl, _, rfl, rfl⟩
theorem zz0 (hv : c8 rows v) {a b : Int} (ha : -2147483648 <= a /\ a <= 2147483647) (hb : -2147483648 <= b /\ b <= 2147483647) : PCall qa 176 [v, .int .i32 a, .int .i32 b] fun x => x = .bool (pP rows a b) := by
 have b1 := vW hv ha;have b2 := vW hv hb;have c1 := zc6 hv ha;have c2 := zc6 hv hb;have p2 := zmx hv hb;obtain ⟨tc, tg, tj, tf, tp, made, sec, rfl, ht, hm⟩ := hv;refine zzq _ _ _ _ _ _ _ _ _ ?_; unfold znl pP;refine b2.mono ?_;rintro _ rfl;refine ⟨_, rfl, aC (fun h6 => ?_) (fun h6 => aC (fun h0 => ?_) (fun h0 => ?_))⟩
 ·simp only [beq_iff_eq] at h6;rw [if_pos h6];refine b1.mono ?_;rintro _ rfl;refine ⟨_, rfl, ?_⟩;by_cases h : aK rows a = 6 <;> simp [h]
 ·simp only [beq_iff_eq] at h6 h0;rw [if_neg h6, if_pos h0];refine b1.mono ?_;rintro _ rfl;refine ⟨_, rfl, ?_⟩
  have tail : PCall qa 144 [.ptr [tc, tg, tj, tf, tp, .mp (dO made), .mp (fF sec)], .int .i32 b] fun (v3 : PV) => ∃ (n2 : Int), v3 = .int .i64 n2 /\ if (n2 == 2) = true then PCall qa 144 [.ptr [tc, tg, tj, tf, tp, .mp (dO made), .mp (fF sec)], .int .i32 a] fun (v4 : PV) => ∃ (n3 : Int), v4 = .int .i64 n3 /\ if (n3 != 0) = true then PCall qa 144 [.ptr [tc, tg, tj, tf, tp, .mp (dO made), .mp (fF sec)], .int .i32 a] fun (v5 : PV) => ∃ (n4 : Int), v5 = .int .i64 n4 /\ PV.bool (n4 != 2) = .bool (decide (bE rows b = 2) && (!decide (bE rows a = 0) && !decide (bE rows a = 2))) else PV.bool false = .bool (decide (bE rows b = 2) && (!decide (bE rows a = 0) && !decide (bE rows a = 2))) else PV.bool false = .bool (decide (bE rows b = 2) && (!decide (bE rows a = 0) && !decide (bE rows a = 2))) := by
   refine c2.mono ?_;rintro _ rfl;refine ⟨_, rfl, aC (fun h2 => ?_) (fun h2 => ?_)⟩
   ·simp only [beq_iff_eq] at h2;refine c1.mono ?_;rintro _ rfl;refine ⟨_, rfl, aC (fun h3 => ?_) (fun h3 => ?_)⟩
    ·simp only [bne_iff_ne, ne_eq] at h3;refine c1.mono ?_;rintro _ rfl;refine ⟨_, rfl, ?_⟩;by_cases h4 : bE rows a = 2 <;> simp [h2, h3, h4]
    ·simp only [bne_iff_ne, ne_eq, qm] at h3;simp [h3]
   ·simp only [beq_iff_eq] at h2;simp [h2]
  refine aC (fun h5 => ?_) (fun h5 => ?_)
  ·simp only [beq_iff_eq] at h5;refine p2.mono ?_;rintro _ rfl;refine ⟨_, rfl, aC (fun hp => ?_) (fun hp => ?_)⟩
   ·rw [decide_eq_true h5, hp]; rfl
   ·rw [Bool.eq_false_iff.2 hp, qas, qai];exact tail
  ·simp only [beq_iff_eq] at h5;rw [decide_eq_false h5, qag, qai];exact tail
 ·simp only [beq_iff_eq] at h6 h0;rw [if_neg h6, if_neg h0]
theorem zz1 (hts : dY rows) (htw : kH rows) (hv : c8 rows v) (n f : Bool) (L : List Int) (hr : R32 L) (hL : L.length < 100000000) (k : Int) (k0 : 0 <= k) (k1 : k < L.length) :
 PCall qa 172 [v, .sl n f (aA L), .int .i64 k] fun x => ∃ m : Nat, x = .int .i64 m /\ (m : Int) <= k /\ cO rows L m = true := by
 have st := fun s {r : Int} hr => zmz hv s (r := r) hr;have hg := fun {a b : Int} ha hb => zz0 hv (a := a) (b := b) ha hb;obtain ⟨tc, tg, tj, tf, tp, made, sec, rfl, ht', hm⟩ := hv;refine zzr _ _ _ _ _ _ _ _ _ _ _ (fun i => 0 <= i /\ i <= k) (fun i => i.toNat) ?_;unfold znm;refine ⟨⟨rfl, k0, qq _⟩, ?_⟩;rintro i ⟨i0, i1⟩;refine aC (fun hc => ?_) (fun hc => ?_)
 ·simp only [aB, gt_iff_lt] at hc;obtain ⟨j, rfl⟩ : ∃ j : Nat, i = ((j + 1 : Nat) : Int) := ⟨i.toNat - 1, by omega⟩;have hw : i64.wrap (((j + 1 : Nat) : Int) - 1) = (j : Int) := by rw [aG (by omega) (by omega)]; omega
  rw [hw];obtain ⟨g1, g2⟩ := gH (l := L) (i := (j : Int)) (by omega) (by omega);obtain ⟨k1, k2⟩ := gH (l := L) (i := ((j + 1 : Nat) : Int)) (by omega) (by omega);rw [show (((j + 1 : Nat) : Int)).toNat = j + 1 by omega] at k2 ⊢;rw [show ((j : Int)).toNat = j by omega] at g2 ⊢;refine ⟨g1, _, by rw [g2]; rfl, ?_⟩;refine (st jK (eZ hr j)).mono ?_;rintro _ rfl
  have last : kE rows (c9 rows jK (L.getD j 0)) (L.getD (j + 1) 0) = true -> ∀ K : Prop, K -> (aH (aA L) (j : Int) 1 /\ ∃ (n9 : Int), ((aA L).getD j []).head? = some (.int .i32 n9) /\ aH (aA L) ((j + 1 : Nat) : Int) 1 /\ ∃ (n10 : Int), ((aA L).getD (j + 1) []).head? = some (.int .i32 n10) /\ PCall qa 176 [.ptr [tc, tg, tj, tf, tp, .mp (dO made), .mp (fF sec)], .int .i32 n9, .int .i32 n10] fun (v2 : PV) => ∃ (b6 : Bool), v2 = .bool b6 /\ if (!b6) = true then (∃ m : Nat, PV.int .i64 ((j + 1 : Nat) : Int) = .int .i64 m /\ (m : Int) <= k /\ cO rows L m = true) else K) := fun hcut K hK => by
   refine ⟨g1, _, by rw [g2]; rfl, k1, _, by rw [k2]; rfl, ?_⟩;refine (hg (eZ hr _) (eZ hr _)).mono ?_;rintro _ rfl;refine ⟨_, rfl, aC (fun h => ?_) (fun h => hK)⟩;simp only [qi] at h;exact ⟨j + 1, rfl, i1, Rows.sure_ok hts htw hcut h⟩
  have again : ∀ {A : Prop}, A -> A /\ (0 <= (j : Int) /\ (j : Int) <= k) /\ ((j : Int)).toNat < (((j + 1 : Nat) : Int)).toNat := fun h => ⟨h, ⟨by omega, by omega⟩, by omega⟩;have call := st (c9 rows jK (L.getD j 0)) (eZ hr (j + 1));refine ⟨_, rfl, rfl, _, rfl, _, rfl, rfl, _, rfl, _, rfl, _, rfl, _, rfl, _, rfl, _, rfl, _, rfl, ?_⟩;have dup : ∀ {P : Prop}, P -> P /\ P := fun h => ⟨h, h⟩;refine dup ?_;refine ⟨k1, _, by rw [k2]; rfl, call.mono ?_, call.mono ?_⟩
  ·rintro _ rfl
   have fin : ∀ A : Prop, A -> (if kE rows (c9 rows jK (L.getD j 0)) (L.getD (j + 1) 0) = true then (aH (aA L) (j : Int) 1 /\ ∃ (n9 : Int), ((aA L).getD j []).head? = some (.int .i32 n9) /\ aH (aA L) ((j + 1 : Nat) : Int) 1 /\ ∃ (n10 : Int), ((aA L).getD (j + 1) []).head? = some (.int .i32 n10) /\ PCall qa 176 [.ptr [tc, tg, tj, tf, tp, .mp (dO made), .mp (fF sec)], .int .i32 n9, .int .i32 n10] fun (v2 : PV) => ∃ (b6 : Bool), v2 = .bool b6 /\ if (!b6) = true then (∃ m : Nat, PV.int .i64 ((j + 1 : Nat) : Int) = .int .i64 m /\ (m : Int) <= k /\ cO rows L m = true) else A /\ (0 <= (j : Int) /\ (j : Int) <= k) /\ ((j : Int)).toNat < (((j + 1 : Nat) : Int)).toNat) else A /\ (0 <= (j : Int) /\ (j : Int) <= k) /\ ((j : Int)).toNat < (((j + 1 : Nat) : Int)).toNat) := fun A hA => by
    split
    ·rename_i hcut; exact last hcut _ (again hA)
    ·exact again hA
   exact ⟨_, rfl, rfl, _, rfl, _, rfl, rfl, _, rfl, _, rfl, _, rfl, _, rfl, _, rfl, _, rfl, _, rfl, fin _ rfl, fin _ rfl, fin _ rfl⟩
  ·rintro _ rfl
   have fin : ∀ A : Prop, A -> (if kE rows (c9 rows jK (L.getD j 0)) (L.getD (j + 1) 0) = true then (aH (aA L) (j : Int) 1 /\ ∃ (n9 : Int), ((aA L).getD j []).head? = some (.int .i32 n9) /\ aH (aA L) ((j + 1 : Nat) : Int) 1 /\ ∃ (n10 : Int), ((aA L).getD (j + 1) []).head? = some (.int .i32 n10) /\ PCall qa 176 [.ptr [tc, tg, tj, tf, tp, .mp (dO made), .mp (fF sec)], .int .i32 n9, .int .i32 n10] fun (v2 : PV) => ∃ (b6 : Bool), v2 = .bool b6 /\ if (!b6) = true then (∃ m : Nat, PV.int .i64 ((j + 1 : Nat) : Int) = .int .i64 m /\ (m : Int) <= k /\ cO rows L m = true) else A /\ (0 <= (j : Int) /\ (j : Int) <= k) /\ ((j : Int)).toNat < (((j + 1 : Nat) : Int)).toNat) else A /\ (0 <= (j : Int) /\ (j : Int) <= k) /\ ((j : Int)).toNat < (((j + 1 : Nat) : Int)).toNat) := fun A hA => by
    split
    ·rename_i hcut; exact last hcut _ (again hA)
    ·exact again hA
   exact ⟨_, rfl, rfl, _, rfl, _, rfl, rfl, _, rfl, _, rfl, _, rfl, _, rfl, _, rfl, _, rfl, _, rfl, fin _ rfl, fin _ rfl⟩
 ·simp only [aB, gt_iff_lt] at hc;have h0 : i = 0 := by omega
  subst h0;exact ⟨0, rfl, by omega, rfl⟩
end
section
variable {rows : List Row} {v : PV}
def kI (rows : List Row) (L : List Int) (i : Nat) : Prop := i = L.length ∨ cO rows L i = true
def eJ (q : Nat × Nat) : List PV := [.int .i64 (q.1 : Nat), .int .i64 (q.2 : Nat)]
theorem sG (q : Nat × Nat) : (eJ q).length = 2 := rfl
theorem zz2 (hts : dY rows) (htw : kH rows) (hv : c8 rows v) (n f : Bool) (L : List Int) (hr : R32 L) (hL : L.length < 100000000) (k : Int) :
 PCall qa 161 [v, .sl n f (aA L), .int .i64 k] fun x => ∃ p : Nat, x = .int .i64 p /\ p <= L.length /\ kI rows L p /\ (∀ j : Nat, kI rows L j -> j <= L.length -> (j : Int) <= k -> j <= p) /\ ((p : Int) <= k ∨ (k < 0 /\ p = 0)) := by
 have hs := fun k0 k1 => zz1 hts htw hv n f L hr hL k k0 k1;have hn := fun j j0 j1 hb => vX hts hv n f L hr (by omega) j j0 j1 hb;obtain ⟨tc, tg, tj, tf, tp, made, sec, rfl, ht', hm⟩ := hv;refine zzs _ _ _ _ _ _ _ _ _ _ _ (fun x => ∃ p : Nat, x = p /\ (p : Int) <= k /\ cO rows L p = true) (fun x => (k - x).toNat) ?_;unfold znn;rw [bF];refine aC (fun h0 => ?_) (fun h0 => aC (fun h1 => ?_) (fun h1 => ?_))
 ·simp only [aB] at h0;exact ⟨0, rfl, by omega, .inr (zcx rows L), fun j _ _ hj => by omega, by omega⟩
 ·simp only [aB, ge_iff_le] at h1;exact ⟨L.length, rfl, qj _, .inl rfl, fun j _ hj _ => hj, .inl h1⟩
 ·simp only [aB, ge_iff_le] at h0 h1;refine (hs (by omega) (by omega)).mono ?_;rintro _ ⟨m, rfl, hm1, hm2⟩;refine ⟨_, rfl, ⟨rfl, m, rfl, hm1, hm2⟩, ?_⟩;rintro _ ⟨p, rfl, hp, hb⟩;refine aC (fun h2 => ?_) (fun h2 => ?_)
  ·simp only [aB] at h2;refine (hn (p : Int) (by omega) (by omega) (by rw [qg]; exact hb)).mono ?_;rintro _ rfl;rw [qg];obtain ⟨g1, g2, g3⟩ := dZ (rows := rows) (L := L) (i := p) (by omega);refine ⟨_, rfl, aC (fun h3 => ?_) (fun h3 => ?_)⟩
   ·simp only [aB] at h3;refine ⟨p, rfl, by omega, .inr hb, fun j hj hl hk => ?_, .inl hp⟩;refine Nat.le_of_not_lt fun hlt => ?_;have := zzl (rows := rows) hlt hl hj;omega
   ·simp only [aB] at h3;refine ⟨rfl, ⟨_, rfl, by omega, ?_⟩, (by first | omega | (dsimp only; omega))⟩
    rcases g3 with g3 | g3
    ·omega
    ·exact g3
  ·simp only [aB] at h2;exact ⟨p, rfl, by omega, .inr hb, fun j _ _ hj => by omega, .inl hp⟩
theorem zz3 (hts : dY rows) (htw : kH rows) (hv : c8 rows v) (n f : Bool) (L : List Int) (hr : R32 L) (hL : L.length < 100000000) (m : Nat) (hm : m <= L.length) (ha : kI rows L m) :
 PCall qa 161 [v, .sl n f (aA L), .int .i64 m] fun x => x = .int .i64 m := by
 refine (zz2 hts htw hv n f L hr hL m).mono ?_;rintro _ ⟨p, rfl, h1, h2, h3, h4⟩;have := h3 m ha hm (qq _);have : p = m := by omega
 rw [this]
theorem zz4 (hts : dY rows) (htw : kH rows) (hv : c8 rows v) (n f : Bool) (L : List Int) (hr : R32 L) (hL : L.length < 100000000) (m : Nat) (hm : m <= L.length) (ha : kI rows L m) :
 PCall qa 131 [v, .sl n f (aA L), .int .i64 m] fun x => x = .int .i64 m := by
 have hf := zz3 hts htw hv n f L hr hL m hm ha;obtain ⟨tc, tg, tj, tf, tp, made, sec, rfl, ht', _⟩ := hv;refine zzt _ _ _ _ _ _ _ _ _ _ _ ?_;unfold zno;refine hf.mono ?_;rintro _ rfl;exact ⟨_, rfl, aC (fun _ => rfl) (fun h => absurd (decide_eq_true (qq _)) h)⟩
theorem znu (hv : c8 rows v) (n f : Bool) (L : List Int) (hr : R32 L) (i : Nat) :
 PCall qa 104 [v, .sl n f (aA L), .int .i64 i] fun x => x = .bool (dK rows L i) := by
 have hl := fun {r : Int} hr => zzz hv (r := r) hr;obtain ⟨tc, tg, tj, tf, tp, made, sec, rfl, ht', _⟩ := hv;refine zzu _ _ _ _ _ _ _ _ _ _ _ ?_;unfold znp dK;rw [bF];refine aC (fun h => ?_) (fun h => ?_)
 ·simp only [aB] at h;obtain ⟨g1, g2⟩ := gH (l := L) (i := (i : Int)) (by omega) (by omega);rw [qg] at g2 ⊢;refine ⟨g1, _, by rw [g2]; rfl, (hl (eZ hr i)).mono ?_⟩;rintro _ rfl;refine ⟨_, rfl, ?_⟩;rw [decide_eq_true (by omega : i < L.length), qac]
 ·simp only [aB] at h;rw [decide_eq_false (by omega : ¬i < L.length), qag]
theorem zz5 (hts : dY rows) (htw : kH rows) (hv : c8 rows v) (n f : Bool) (L : List Int) (hr : R32 L) (hL : L.length < 100000000) (m : Nat) (hl : dK rows L m = true) (ha : kI rows L m) :
 PCall qa 105 [v, .sl n f (aA L), .int .i64 m] fun x => x = .int .i64 (dE rows L m : Nat) := by
 have hm := jM hl;have hc := zz4 hts htw hv n f L hr hL m (by omega) ha;have hi := fun i => znu hv n f L hr i;have hn := fun j j0 j1 hb => vX hts hv n f L hr (by omega) j j0 j1 hb;obtain ⟨tc, tg, tj, tf, tp, made, sec, rfl, ht', _⟩ := hv;refine zzv _ _ _ _ _ _ _ _ _ _ _ (fun x => ∃ i : Nat, x = i /\ i <= L.length /\ kI rows L i /\ dE rows L i = dE rows L m) (fun x => L.length - x.toNat) ?_;unfold znq;refine hc.mono ?_;rintro _ rfl;refine ⟨_, rfl, ?_⟩;rw [bF];refine bB (decide_eq_true (by omega)) ?_;refine (hi m).mono ?_;rintro _ rfl;refine ⟨_, rfl, ?_⟩;rw [hl];refine bK (by decide) ⟨⟨rfl, m, rfl, by omega, ha, rfl⟩, ?_⟩;rintro _ ⟨i, rfl, i1, i2, i3⟩;refine (hi i).mono ?_;rintro _ rfl;refine ⟨_, rfl, aC (fun h => ?_) (fun h => ?_)⟩
 ·have hlt := jM h
  have hb : cO rows L i = true := by
   rcases i2 with i2 | i2
   ·omega
   ·exact i2
  refine (hn (i : Int) (by omega) (by omega) (by rw [qg]; exact hb)).mono ?_;rintro _ rfl;rw [qg];obtain ⟨g1, g2, g3⟩ := dZ (rows := rows) (L := L) (i := i) hlt;exact ⟨_, rfl, rfl, ⟨_, rfl, g2, g3, by rw [<- oD h]; exact i3⟩, (by first | omega | (dsimp only; omega))⟩
 ·rw [<- i3, sD h]
theorem zz6 (hts : dY rows) (htw : kH rows) (hv : c8 rows v) (n f : Bool) (L : List Int) (hr : R32 L) (hL : L.length < 100000000) :
 PCall qa 73 [v, .sl n f (aA L)] fun x => ∃ n', x = .sl n' false ((dG rows L 0).map eJ) /\ (n' = true -> dG rows L 0 = []) := by
 have hi := fun i => znu hv n f L hr i;have hf := fun i hl ha => zz5 hts htw hv n f L hr hL i hl ha;have hn := fun j j0 j1 hb => vX hts hv n f L hr (by omega) j j0 j1 hb;obtain ⟨tc, tg, tj, tf, tp, made, sec, rfl, ht', _⟩ := hv;refine zzw _ _ _ _ _ _ _ _ _ _ (fun x n0 s0 => ∃ (i : Nat) (out : List (Nat × Nat)), x = i /\ i <= L.length /\ kI rows L i /\ s0 = out.map eJ /\ (n0 = true -> out = []) /\ out ++ dG rows L i = dG rows L 0 /\ out.length <= i) (fun x _ _ => L.length - x.toNat) ?_;unfold znr;refine ⟨⟨rfl, 0, [], rfl, by omega, .inr (zcx rows L), rfl, fun _ => rfl, rfl, qj _⟩, ?_⟩;rintro _ n0 _ ⟨i, out, rfl, i1, i2, rfl, i3, i4, i5⟩;rw [bF];refine aC (fun h => ?_) (fun h => ?_)
 ·simp only [aB] at h
  have hb : cO rows L i = true := by
   rcases i2 with i2 | i2
   ·omega
   ·exact i2
  refine (hi i).mono ?_;rintro _ rfl;refine ⟨_, rfl, aC (fun hl => ?_) (fun hl => ?_)⟩
  ·simp only [qi] at hl;refine (hn (i : Int) (by omega) (by omega) (by rw [qg]; exact hb)).mono ?_;rintro _ rfl;rw [qg];obtain ⟨g1, g2, g3⟩ := dZ (rows := rows) (L := L) (i := i) (by omega);exact ⟨_, rfl, rfl, ⟨_, out, rfl, g2, g3, rfl, i3, by rw [<- pO (by omega) (by rw [hl]; decide)]; exact i4, by omega⟩, (by first | omega | (dsimp only; omega))⟩
  ·simp only [qi, qbu] at hl;refine (hf i hl i2).mono ?_;rintro _ rfl;have hgt := sE hl;have hlen := zdh hl;have hat := (vZ (rows := rows) (L := L) L.length i (by omega) i1 i2).2.2.1;refine ⟨_, rfl, ⟨iA (enc := eJ) sG [(i, dE rows L i)], by rw [qc]; omega⟩, rfl, ⟨dE rows L i, out ++ [(i, dE rows L i)], rfl, hlen, hat, by rw [qn]; rfl, fun h => by simp at h, ?_, by rw [ql, qw]; omega⟩, (by first | omega | (dsimp only; omega))⟩
   rw [qaj, List.singleton_append, <- sF hl]; exact i4
 ·simp only [aB] at h;rw [pN (by omega), qaq] at i4;exact ⟨n0, by rw [i4], fun hn => by rw [<- i4]; exact i3 hn⟩
end
section
variable {rows : List Row}
theorem zz7 (rows : List Row) (r : Int) : (aF rows 8 r == 1) = bM rows 8 r := by
 unfold aF bM;cases bR rows 8 r with
 | none => rfl
 | some p => by_cases h : p.1 = 1 <;> simp [h]
theorem zz8 (ht : dY rows) (n f n2 f2 : Bool) (hl : rows.length < 1000000) (L : List Int) (hr : R32 L) (hL : L.length < 1000000000000) (i : Nat) (ha : kI rows L i) :
 PCall qa 107 [.sl n f (bA rows), .sl n2 f2 (aA L), .int .i64 i] fun x => x = .bool (dK rows L i) := by
 refine zzx _ _ _ _ _ _ _ ?_;unfold zns dK;rw [bF];refine aC (fun h => ?_) (fun h => ?_)
 ·simp only [qb, aB, ge_iff_le] at h;have hi : i < L.length := by omega
  have hb : cO rows L i = true := by
   rcases ha with ha | ha
   ·omega
   ·exact ha
  refine (zm7 ht n f n2 f2 hl L hr hL (i : Int) (by omega) (by omega)).mono ?_;rintro _ rfl;rw [qg, hb];obtain ⟨g1, g2⟩ := gH (l := L) (i := (i : Int)) (by omega) (by omega);rw [qg] at g2;refine ⟨_, rfl, bB rfl ⟨g1, _, by rw [g2]; rfl, (lL n f 8 _ hl (eZ hr i)).mono ?_⟩⟩;rintro _ rfl;exact ⟨_, rfl, by rw [zz7, decide_eq_true hi, qac]⟩
 ·simp only [qb, aB, ge_iff_le] at h;rw [decide_eq_false (by omega : ¬i < L.length), qag]
theorem zz9 (ht : dY rows) (n f n2 f2 : Bool) (hl : rows.length < 1000000) (L : List Int) (hr : R32 L) (hL : L.length < 100000000) :
 PCall qa 76 [.sl n f (bA rows), .sl n2 f2 (aA L)] fun x => ∃ n', x = .sl n' false ((dG rows L 0).map eJ) /\ (n' = true -> dG rows L 0 = []) := by
 refine zzy _ _ _ _ _ _ (fun x n0 s0 => ∃ (i : Nat) (out : List (Nat × Nat)), x = i /\ i <= L.length /\ kI rows L i /\ s0 = out.map eJ /\ (n0 = true -> out = []) /\ gU rows L out i = dG rows L 0 /\ out.length <= i /\ ∀ q, out.getLast? = some q -> q.2 <= i) (fun x _ _ => L.length - x.toNat) ?_;unfold znt;refine ⟨⟨rfl, 0, [], rfl, by omega, .inr (zcx rows L), rfl, fun _ => rfl, rfl, qj _, fun q h => by simp at h⟩, ?_⟩;rintro _ n0 _ ⟨i, out, rfl, i1, i2, rfl, i3, i4, i5, i6⟩;rw [bF];refine aC (fun h => ?_) (fun h => ?_)
 ·simp only [aB] at h;have hi : i < L.length := by omega
  have hb : cO rows L i = true := by
   rcases i2 with i2 | i2
   ·omega
   ·exact i2
  obtain ⟨g1, g2, g3⟩ := dZ (rows := rows) (L := L) (i := i) hi
  have hn : PCall qa 97 [.sl n f (bA rows), .sl n2 f2 (aA L), .int .i64 i] fun x => x = .int .i64 (aT rows L i : Nat) := by
   have := zm8 ht n f n2 f2 hl L hr (by omega) (i : Int) (by omega) (by omega);rw [qg] at this; exact this
  refine (zz8 ht n f n2 f2 hl L hr (by omega) i i2).mono ?_;rintro _ rfl;refine ⟨_, rfl, aC (fun hlb => ?_) (fun hlb => ?_)⟩
  ·simp only [qi] at hlb;refine hn.mono ?_;rintro _ rfl;exact ⟨_, rfl, rfl, ⟨_, out, rfl, g2, g3, rfl, i3, by rw [<- zzj hi (by rw [hlb]; decide) i6]; exact i4, by omega, fun q hq => by have := i6 q hq; omega⟩, (by first | omega | (dsimp only; omega))⟩
  ·simp only [qi, qbu] at hlb;refine hn.mono ?_;rintro _ rfl;refine ⟨_, rfl, ?_⟩
   have fresh : ∀ K : Int -> Prop, (∀ q, out.getLast? = some q -> q.2 ≠ i) -> (K (aT rows L i : Nat)) -> (aR [[PV.int .i64 (i : Nat), PV.int .i64 (aT rows L i : Nat)]] 2 /\ (out.length + 1) * 16 <= 140737488355328) /\ PCall qa 97 [.sl n f (bA rows), .sl n2 f2 (aA L), .int .i64 i] fun x => ∃ n4, x = .int .i64 n4 /\ K n4 := fun K hq hK => by
    refine ⟨⟨iA (enc := eJ) sG [(i, aT rows L i)], by omega⟩, hn.mono ?_⟩;rintro _ rfl;exact ⟨_, rfl, hK⟩
   have goes : (∀ q, out.getLast? = some q -> q.2 ≠ i) -> ∃ (j : Nat) (out' : List (Nat × Nat)), ((aT rows L i : Nat) : Int) = j /\ j <= L.length /\ kI rows L j /\ out.map eJ ++ [[PV.int .i64 (i : Nat), PV.int .i64 (aT rows L i : Nat)]] = out'.map eJ /\ ((n0 && false) = true -> out' = []) /\ gU rows L out' j = dG rows L 0 /\ out'.length <= j /\ ∀ q, out'.getLast? = some q -> q.2 <= j := fun hq =>
    ⟨_, out ++ [(i, aT rows L i)], rfl, g2, g3, by rw [qn]; rfl, fun h => by simp at h, by rw [<- zzi hlb hq]; exact i4, by rw [ql, qw]; omega, fun q hq => by
     rw [qan] at hq; cases hq; exact qj _⟩
   rw [qc];refine aC (fun hne => ?_) (fun hne => ?_)
   ·simp only [aB, gt_iff_lt] at hne;obtain ⟨o', ⟨a, b⟩, rfl⟩ : ∃ o' q, out = o' ++ [q] := ⟨out.dropLast, out.getLast (by intro e; rw [e] at hne; simp at hne), (List.dropLast_concat_getLast _).symm⟩;have hlen : (o' ++ [(a, b)]).length = o'.length + 1 := by simp
    have hw : i64.wrap (((o' ++ [(a, b)]).length : Int) - 1) = (o'.length : Int) := by rw [aG (by omega) (by omega)]; omega
    rw [hw, qg]
    have hg : ((o' ++ [(a, b)]).map eJ).getD o'.length [] = eJ (a, b) := by
     rw [qn]; simp [qal]
    have hix : aH ((o' ++ [(a, b)]).map eJ) (o'.length : Int) 2 := bQ sG (by omega) (by rw [hlen]; omega);rw [hg];refine ⟨hix, ⟨by decide, by decide⟩, _, rfl, aC (fun he => ?_) (fun he => ?_)⟩
    ·simp only [beq_iff_eq] at he;obtain rfl : b = i := by omega
     refine ⟨hix, ⟨by decide, by decide⟩, ⟨rfl, qj _⟩, hn.mono ?_⟩;rintro _ rfl
     refine ⟨_, rfl, rfl, ⟨_, o' ++ [(a, aT rows L b)], rfl, g2, g3, ?_, fun h => ?_, by rw [<- zzh hlb]; exact i4, by rw [ql, qw]; omega, fun q hq => by
      rw [qan] at hq; cases hq; exact qj _⟩, (by first | omega | (dsimp only; omega))⟩
     ·rw [qn, qn, List.set_append_right _ _ (by rw [qc]; exact qj _), qc, Nat.sub_self];rfl
     ·have := i3 h;simp at this
    ·simp only [beq_iff_eq] at he
     have hq : ∀ q, (o' ++ [(a, b)]).getLast? = some q -> q.2 ≠ i := fun q hq => by
      rw [qan] at hq; cases hq;dsimp only; omega
     refine fresh _ hq ?_;exact ⟨rfl, goes hq, (by first | omega | (dsimp only; omega))⟩
   ·simp only [aB, gt_iff_lt] at hne
    have hq : ∀ q, out.getLast? = some q -> q.2 ≠ i := fun q hq => by
     have : out = [] := qv (by omega);rw [this] at hq; simp at hq
    refine fresh _ hq ?_;exact ⟨rfl, goes hq, (by first | omega | (dsimp only; omega))⟩
 ·simp only [aB] at h;rw [zzk (by omega)] at i4;exact ⟨n0, by rw [i4], fun hn => by rw [<- i4]; exact i3 hn⟩
end
end Go.Eng
namespace Go.Eng
open Go Go.Proofs
section
variable (n f : Bool) (es : LL) (r : Int)
def znv (R : PV -> Prop) : Prop :=
 PCall qa 101 [PV.sl n f es, Z3 r] fun v => ∃ vs, v = PV.tup vs /\ vs.length = 3 /\ ∃ x, vs.head? = some x /\ ∃ n1, x = Z3 n1 /\ ∃ x1, vs.tail.head? = some x1 /\ ∃ n2, x1 = Z3 n2 /\ ∃ x2, vs.tail.tail.head? = some x2 /\ ∃ b, x2 = Zb b /\ if (!b) = true then R (Zb false) else if (n2 == 0) = true then R (Zb true) else PCall qa 129 [PV.sl n f es, Z6 3, Z3 r] fun v1 => ∃ n3, v1 = Z6 n3 /\ if (n3 == 1) = true then R (Zb true) else PCall qa 129 [PV.sl n f es, Z6 1, Z3 r] fun v2 => ∃ n4, v2 = Z6 n4 /\ if (n4 != 0) = true then R (Zb true) else PCall qa 129 [PV.sl n f es, Z6 1, Z3 n1] fun v3 => ∃ n5, v3 = Z6 n5 /\ R (Zb (n5 != 0))
theorem z0a {R : PV -> Prop} (h : znv n f es r R) : PCall qa 171 [.sl n f es, .int .i32 r] R :=
 PCall.wz Tryz.func171 aM [0, 1, 4, 5, 6, 7, 16] aX h
end
end Go.Eng
namespace Go.Eng
open Go Go.Proofs
open Go Go.Proofs Go.Eng.Rows Go.Eng.Trie
end Go.Eng
namespace Go.Eng
open Go Go.Proofs Go.Eng.Rows Go.Eng.Trie
section
variable {rows : List Row}
theorem znw (i : Int) : bM rows 3 i = decide (aF rows 3 i = 1) := by
 unfold bM aF;cases bR rows 3 i with
 | none => rfl
 | some p => rfl
theorem z0b (hp : dI rows) (n f : Bool) (r : Int) (hl : rows.length < 1000000) (hr : -2147483648 <= r /\ r <= 2147483647) : PCall qa 171 [.sl n f (bA rows), .int .i32 r] fun v => v = .bool (eC rows r) := by
 refine z0a _ _ _ _ ?_; unfold znv;refine (vA hp n f r hl hr).mono ?_;rintro _ rfl;have hrng := pH hp r;refine ⟨_, rfl, rfl, _, rfl, _, rfl, _, rfl, _, rfl, _, rfl, _, rfl, ?_⟩;refine aC (fun h1 => ?_) (fun h1 => aC (fun h2 => ?_) (fun h2 => ?_))
 ·simp only [qbs, aB] at h1;unfold eC; simp [h1]
 ·simp only [qbs, aB] at h1;simp only [beq_iff_eq] at h2;unfold eC; simp [h1, h2]
 ·simp only [qbs, aB] at h1;simp only [beq_iff_eq] at h2;refine (lL n f 3 r hl hr).mono ?_;rintro _ rfl;refine ⟨_, rfl, ?_⟩;refine aC (fun h4 => ?_) (fun h4 => ?_)
  ·simp only [beq_iff_eq] at h4;unfold eC; rw [znw]; simp [h1, h2, h4]
  ·simp only [beq_iff_eq] at h4;refine (lL n f 1 r hl hr).mono ?_;rintro _ rfl;refine ⟨_, rfl, ?_⟩;refine aC (fun h5 => ?_) (fun h5 => ?_)
   ·simp only [bne_iff_ne, ne_eq] at h5;unfold eC; simp [h1, h2, h5]
   ·simp only [bne_iff_ne, ne_eq, qm] at h5;refine (lL n f 1 _ hl (by omega)).mono ?_;rintro _ rfl;refine ⟨_, rfl, ?_⟩;unfold eC; rw [znw];simp only [h1, h2, h4, h5, decide_false, qbz, qac, qai, decide_true, qav];rfl
end
section
variable {rows : List Row} {v : PV}
end
section
variable {rows : List Row} {v : PV}
end
end Go.Eng
namespace Go.Eng
open Go Go.Proofs Go.Shelf
theorem z0c (z : Array Value) (n : Nat) : (Builtin.zeroCells z n).size = n * z.size := by simp [Builtin.zeroCells]
theorem z0d {P : Program} {ρ : Go.Shelf.Ren} (L : Lays8.n4 P ρ) (hcal : oJ P (ρ.f 4)) (el : TypeId) (hel : ρ.t 25 = el) (i0 : TypeInfo) (z : Value) (hi0 : P.info? el = some i0) (hz0 : i0.zero = some z) (hs0 : 0 < i0.size) (hzs : z.cells.size = i0.size)
 (n : Nat) (hbig : n * i0.bytes <= 140737488355328) (h63 : n <= 4611686018427387904) :
 ACall P (ρ.f 4) [.pv (.sl true true []), .pv (.int .i64 n)] [] fun r h' => ∃ nl, r = .own 0 /\ h' = [.sl (el, i0.size) false nl []] := by
 subst hel;refine ⟨hcal, fun w I G cargs hh hsz hrel => ?_⟩;simp only [qd, qap] at hsz;have h0 := hrel 0 _ rfl;have h1 := hrel 1 _ rfl
 obtain ⟨v0, v1, rfl⟩ : ∃ v0 v1, cargs = #[v0, v1] := by
  obtain ⟨c⟩ := cargs
  match c, hsz with
  | [a, b], _ => exact ⟨a, b, rfl⟩
 have e0 : (#[v0, v1] : Array Value).getD 0 undef = v0 := rfl;have e1 : (#[v0, v1] : Array Value).getD 1 undef = v1 := rfl;rw [e0] at h0;rw [e1] at h1
 have hv0 : v0 = .slice none 0 0 := by
  cases h0 with
  | pv _ _ h => cases h; rfl
 have hv1 : v1 = .int .i64 n := by
  cases h1 with
  | pv _ _ h => cases h; rfl
 subst hv0 hv1;by_cases hn : n = 0
 ·subst hn;refine (Any8.slices_Grow_room L none 0 0 0 w (qj _) (by omega) (by omega) (qj _)).mono fun e w' ⟨he, hw⟩ => ?_;subst hw;have hna : ¬ (Ob.sl (ρ.t 25, i0.size) false true []).alive ⟨0, 0, 0, 0⟩ := fun h => by cases h.1
  exact ⟨_, .own 0, _, I, _, he, ⟨true, rfl, rfl⟩, hh.add _ ⟨0, 0, 0, 0⟩ hna rfl, .ownNil 0 _ _ _ rfl, TrH.add _ _ hna⟩
 ·refine (Any8.slices_Grow_grow L i0 z hi0 hz0 hs0 none 0 0 n [] w (qj _) (by omega) (by rw [qz]; exact hbig) (by omega) (by simp) (fun _ => rfl) (fun a ha => by cases ha)).mono fun e w' ⟨he, hw⟩ => ?_;subst hw;rw [qz] at he ⊢;have hG := grownCap_ge w n 0 (ρ.t 25);have hG2 := grownCap_le_maxLen w n 0 (ρ.t 25) (by unfold maxLen; omega);generalize grownCap w n 0 (ρ.t 25) = c at *
  have hp := hh.drew.push (.cells ((([] : List Value).toArray ++ Builtin.zeroCells z.cells (n - 0)) ++ Builtin.zeroCells z.cells (c - n)) (ρ.t 25)) (.sl (ρ.t 25, i0.size) false false []) ⟨w.drew.heap.size, 0, c, i0.size⟩ rfl
   ⟨Nat.zero_le _, hG2, fun _ => rfl, rfl, fun i e he => by simp at he, fun _ => ⟨_, mY _ _, by
    simp only [Array.size_append, z0c, List.size_toArray, qap, hzs, qz]
    rw [<- Nat.add_mul]; congr 1; omega, fun i e he => by simp at he⟩⟩
  refine ⟨_, .own 0, _, I, _, he, ⟨false, rfl, rfl⟩, hp, ?_, TrH.trans TrH.drew (TrH.push _ _ _ rfl)⟩;have := LRel.own (w := w.drew.alloc (.cells ((([] : List Value).toArray ++ Builtin.zeroCells z.cells (n - 0)) ++ Builtin.zeroCells z.cells (c - n)) (ρ.t 25))) (I := I) (G := aW G ([] : Hp).length ⟨w.drew.heap.size, 0, c, i0.size⟩) (h := ([] : Hp) ++ [.sl (ρ.t 25, i0.size) false false []]) 0 (ρ.t 25, i0.size) false [] ⟨w.heap.size, 0, none⟩ (fun _ => by simp [aW]) (by simp);simpa [aW] using this
end Go.Eng
namespace Go.Proofs
open Go.Shelf
def Tryz.growRune_ren : Go.Shelf.Ren := ⟨fun | 4 => 103 | n => n, fun | 22 => 22 | 25 => 21 | 3 => 3 | 4 => 4 | 9 => 9 | 20 => 20 | 0 => 0 | n => n, fun | n => n⟩
theorem Tryz.growRune : Go.Proofs.Lays8.n4 qa Tryz.growRune_ren := {
 mixed := by kernel_rfl
 f4 := ⟨Tryz.f103.name, by decide, Tryz.func103.trans (congrArg some (by kernel_rfl))⟩
 t0 := Tryz.underlying0
 a0 := Tryz.isAgg0
 z0 := Tryz.sizeOf0
 v0 := Tryz.zeroValue0
 t3 := Tryz.underlying3
 a3 := Tryz.isAgg3
 z3 := Tryz.sizeOf3
 v3 := Tryz.zeroValue3
 t4 := Tryz.underlying4
 a4 := Tryz.isAgg4
 z4 := Tryz.sizeOf4
 v4 := Tryz.zeroValue4
 t9 := Tryz.underlying9
 a9 := Tryz.isAgg9
 z9 := Tryz.sizeOf9
 v9 := Tryz.zeroValue9
 t20 := Tryz.underlying20
 a20 := Tryz.isAgg20
 z20 := Tryz.sizeOf20
 v20 := Tryz.zeroValue20
 t22 := Tryz.underlying22
 a22 := Tryz.isAgg22
 z22 := Tryz.sizeOf22
 v22 := Tryz.zeroValue22 }
end Go.Proofs
namespace Go.Eng
open Go Go.Proofs
def zdo (n f : Bool) (es : LL) (x3 x11 : Int) : Env × Hp := ([(0, LV.pv (PV.sl n f es)), (3, Y6 x3), (9, LV.pv (PV.sl n f es)), (10, Y6 ↑es.length), (11, Y6 x11)], [])
def zdp (n f : Bool) (es : LL) (x27 : Int) (n_0 : Bool) (s_0 : LL) : Env × Hp := ([(6, LV.own 0), (25, LV.pv (PV.sl n f es)), (26, Y6 ↑es.length), (27, Y6 x27)], [.sl (21, 1) true n_0 s_0])
section
variable (n f : Bool) (es : LL) (J : Int -> Int -> Prop) (μ : Int -> Int -> Nat) (J2 : Int -> Bool -> LL -> Prop) (μ2 : Int -> Bool -> LL -> Nat)
def znx (R : PV -> Prop) : Prop :=
 (aD (zdo n f es (0 : Int) (0 : Int)) /\ J (0 : Int) (0 : Int)) /\ ∀ (x3 x11 : Int), J x3 x11 -> if decide (x11 < (↑es.length : Int)) = true then aH es x11 1 /\ ∃ n1 f1 es1, (es.getD x11.toNat []).head? = some (PV.sl n1 f1 es1) /\ if decide (i64.wrap (x3 + (↑es1.length : Int)) < 0) = true then aJ 815 else aD (zdo n f es (i64.wrap (x3 + (↑es1.length : Int))) (i64.wrap (x11 + 1))) /\ J (i64.wrap (x3 + (↑es1.length : Int))) (i64.wrap (x11 + 1)) /\ μ (i64.wrap (x3 + (↑es1.length : Int))) (i64.wrap (x11 + 1)) < μ x3 x11 else ACall qa 103 [LV.pv (PV.sl true true []), Y6 x3] [] fun (r : LV) (h' : Hp) => ∃ (t : Bool), (r = LV.own 0 /\ h' = [Ob.sl (21, 1) false t []]) /\ True /\ (aD (zdp n f es (0 : Int) t []) /\ J2 (0 : Int) t []) /\ ∀ (x27 : Int) (n_0 : Bool) (s_0 : LL), J2 x27 n_0 s_0 -> if decide (x27 < (↑es.length : Int)) = true then aH es x27 1 /\ ∃ n1 f1 es1, (es.getD x27.toNat []).head? = some (PV.sl n1 f1 es1) /\ (aR es1 1 /\ (s_0.length + es1.length) * 4 <= 140737488355328) /\ aD (zdp n f es (i64.wrap (x27 + 1)) (n_0 && es1.isEmpty) (s_0 ++ es1)) /\ J2 (i64.wrap (x27 + 1)) (n_0 && es1.isEmpty) (s_0 ++ es1) /\ μ2 (i64.wrap (x27 + 1)) (n_0 && es1.isEmpty) (s_0 ++ es1) < μ2 x27 n_0 s_0 else R (PV.sl n_0 false s_0)
theorem z0e {R : PV -> Prop} (h : znx n f es J μ J2 μ2 R) : PCall qa 70 [.sl n f es] R :=
 PCall.wz Tryz.func70 (fun zz_ => match zz_ with | 103 => some ⟨Bool, fun _ hs t => (.own hs.length, hs ++ [.sl (21, 1) false t []]), none⟩ | _ => none) [0, 2, 3, 5, 6, 8, 9, 10, 11, 12, 20, 25, 26, 27, 28] (fX [(3, (aZ iY (zdo n f es) J μ (fun e h => (gI e 3, gI e 11)) [] [0, 3, 9, 10, 11] [])), (11, (aZ dV (zdp n f es) J2 μ2 (fun e h => (gI e 27, oN h 0, oS h 0)) [] [6, 25, 26, 27] []))]) h
end
end Go.Eng
namespace Go.Eng
open Go Go.Proofs Go.Eng.Rows Go.Eng.Trie Go.Eng.Srt
theorem z0f {n : Int} (h0 : 0 <= n) (h1 : n <= 1000000000000) : ACall qa 103 [.pv (.sl true true []), .pv (.int .i64 n)] [] fun r h' => ∃ nl, r = .own 0 /\ h' = [.sl (21, 1) false nl []] := by
 have hc : (match Tryz.prog.info? 21 with | some ti => (match ti.zero with | some z => (Nat.beq ti.size 1 && (Nat.beq ti.bytes 4 && Nat.beq z.cells.size 1)) | none => false) | none => false) = true := by kernel_rfl
 have hz : ∃ ti z, Tryz.prog.info? 21 = some ti /\ ti.zero = some z /\ ti.size = 1 /\ ti.bytes = 4 /\ z.cells.size = 1 := by
  split at hc
  ·rename_i ti hti;split at hc
   ·rename_i z hz;simp only [qb] at hc;exact ⟨ti, z, hti, hz, qax hc.1, qax hc.2.1, qax hc.2.2⟩
   ·cases hc
  ·cases hc
 obtain ⟨ti, z, k1, k2, k3, k4, k5⟩ := hz;have := z0d Tryz.growRune ⟨_, Tryz.func103, by kernel_rfl, by kernel_rfl⟩ 21 (by kernel_rfl) ti z k1 k2 (by omega) (by omega) n.toNat (by rw [k4]; omega) (by omega);rw [k3, show ((n.toNat : Nat) : Int) = n by omega] at this;exact this
def slE (p : Bool × Bool × List Int) : List PV := [.sl p.1 p.2.1 (aA p.2.2)]
def fI (ls : List (Bool × Bool × List Int)) : Nat := (ls.map fun p => p.2.2.length).sum
theorem zny {ls : List (Bool × Bool × List Int)} {i : Nat} (h : i < ls.length) : fI (ls.take (i + 1)) = fI (ls.take i) + ls[i].2.2.length := by
 unfold fI; rw [cJ h, qn, qbx]; simp only [qcb, List.map_nil, List.sum_cons, List.sum_nil, Nat.add_zero]
theorem zdr {ls : List (Bool × Bool × List Int)} (i : Nat) : fI (ls.take i) <= fI ls := by
 have h : fI ls = fI (ls.take i) + fI (ls.drop i) := by
  unfold fI; rw [<- qbx, <- qn, qak]
 omega
theorem z0g (ls : List (Bool × Bool × List Int)) : (ls.flatMap fun p => p.2.2).length = fI ls := by
 unfold fI; rw [List.length_flatMap]
theorem z0h (n f : Bool) (ls : List (Bool × Bool × List Int)) (hn : ls.length < 1000000000) (hs : fI ls <= 1000000000) : PCall qa 70 [.sl n f (ls.map slE)] fun x => ∃ n f, x = .sl n f (aA (ls.flatMap fun p => p.2.2)) := by
 refine z0e _ _ _ (fun s i => (0 <= i /\ i <= ls.length) /\ s = (fI (ls.take i.toNat) : Nat)) (fun _ i => ls.length - i.toNat) (fun i _ s => (0 <= i /\ i <= ls.length) /\ s = aA ((ls.take i.toNat).flatMap fun p => p.2.2)) (fun i _ _ => ls.length - i.toNat) ?_;unfold znx;have hl : ((ls.map slE).length : Int) = ls.length := by rw [qc]
 rw [hl];refine ⟨⟨rfl, ⟨qq _, by omega⟩, rfl⟩, ?_⟩;rintro _ i ⟨⟨i0, i1⟩, rfl⟩;have hle := zdr (ls := ls) i.toNat;refine aC (fun hc => ?_) (fun hc => ?_)
 ·simp only [aB] at hc;have hi : i.toNat < ls.length := by omega
  have hix : aH (ls.map slE) i 1 := bQ (enc := slE) (fun _ => rfl) i0 (by omega);have hg : (ls.map slE).getD i.toNat [] = slE ls[i.toNat] := cD hi;have hw : i64.wrap (i + 1) = i + 1 := aG (by omega) (by omega);have hst := zny hi;have hle2 := zdr (ls := ls) (i.toNat + 1);refine ⟨hix, _, _, _, by rw [hg]; rfl, ?_⟩;rw [bF]
  have hw2 : i64.wrap ((fI (ls.take i.toNat) : Nat) + (ls[i.toNat].2.2.length : Int)) = (fI (ls.take (i.toNat + 1)) : Nat) := by
   rw [hst, aG (by omega) (by omega)]; omega
  rw [hw2, hw];exact bK (by simp) ⟨rfl, ⟨⟨by omega, by omega⟩, by rw [show (i + 1).toNat = i.toNat + 1 by omega]⟩, by dsimp only; omega⟩
 ·refine (z0f (by omega) (by omega)).mono ?_;rintro r h' ⟨nl, rfl, rfl⟩;refine ⟨nl, ⟨rfl, rfl⟩, trivial, ⟨rfl, ⟨qq _, by omega⟩, rfl⟩, ?_⟩;clear hc hle i0 i1 i;rintro i n0 _ ⟨⟨i0, i1⟩, rfl⟩;refine aC (fun hc => ?_) (fun hc => ?_)
  ·simp only [aB] at hc;have hi : i.toNat < ls.length := by omega
   have hix : aH (ls.map slE) i 1 := bQ (enc := slE) (fun _ => rfl) i0 (by omega);have hg : (ls.map slE).getD i.toNat [] = slE ls[i.toNat] := cD hi;have hw : i64.wrap (i + 1) = i + 1 := aG (by omega) (by omega);have hst := zny hi;have hle2 := zdr (ls := ls) (i.toNat + 1);have hfl := z0g (ls.take i.toNat);refine ⟨hix, _, _, _, by rw [hg]; rfl, ⟨dJ _, by rw [bF, bF]; omega⟩, ?_⟩;rw [hw];refine ⟨rfl, ⟨⟨by omega, by omega⟩, ?_⟩, by dsimp only; omega⟩;rw [show (i + 1).toNat = i.toNat + 1 by omega, cJ hi, qah, iI]; simp
  ·simp only [aB] at hc;rw [qh (by omega)];exact ⟨_, _, rfl⟩
section
variable {rows : List Row} {v : PV}
theorem znz (L : List Int) (k : Nat) : qf 0 (qo k (aA L)) = aA (L.take k) := by simp [aA]
theorem wD {len : Nat} {j : Int} (h0 : 0 <= j) (h2 : j <= len) : cZ len none (some j) none := ⟨qq _, h0, h2, trivial⟩
theorem z0i {len : Nat} {i : Int} (h0 : 0 <= i) (h2 : i <= len) : cZ len (some i) none none := ⟨h0, h2, qq _, trivial⟩
end
end Go.Eng
namespace Go.Eng
open Go Go.Proofs
def zn0  (R : PV -> Prop) : Prop :=
 PCall qa 13 [] fun v => ∃ n f es, v = PV.sl n f es /\ PCall qa 14 [PV.sl n f es] fun v1 => PCall qa 31 [v1, PV.sl false true [[Z3 103], [Z3 111], [Z3 32], [Z3 102], [Z3 111]], Z6 5, PV.sl false true [[PV.sl false true [[Z3 102], [Z3 111], [Z3 111]]], [PV.sl false true [[Z3 102], [Z3 111], [Z3 98]]], [PV.sl false true [[Z3 98], [Z3 97], [Z3 114]]]]] fun v2 => ∃ vs, v2 = PV.tup vs /\ vs.length = 2 /\ ∃ x, vs.head? = some x /\ ∃ cs, x = PV.agg cs /\ cs.length = 4 /\ ∃ n1, cs.head? = some (Z6 n1) /\ ∃ n2, cs.tail.head? = some (Z6 n2) /\ ∃ n3 f1 es1, cs.tail.tail.head? = some (PV.sl n3 f1 es1) /\ ∃ n4 f2 es2, cs.tail.tail.tail.head? = some (PV.sl n4 f2 es2) /\ ∃ x1, vs.tail.head? = some x1 /\ ∃ b, x1 = Zb b /\ if b = true then if (n1 == 3) = true then if (n2 == 5) = true then PCall qa 22 [PV.sl n3 f1 es1, PV.sl false true [[Z3 102], [Z3 111]]] fun v3 => ∃ b1, v3 = Zb b1 /\ if b1 = true then R (Zb ((↑es2.length : Int) == 2)) else R (Zb false) else R (Zb false) else R (Zb false) else R (Zb false)
theorem z0j  {R : PV -> Prop} (h : zn0  R) : PCall qa 30 [] R :=
 PCall.wz Tryz.func30 aM [0, 1, 2] aX h

def zds (n f : Bool) (es : LL) (x4 : Int) (n_0 : Bool) (s_0 : LL) : Env × Hp := ([(0, LV.pv (PV.sl n f es)), (3, LV.own 0), (4, Y6 x4)], [.sl (22, 1) true n_0 s_0])
section
variable (n f : Bool) (es : LL) (J : Int -> Bool -> LL -> Prop) (μ : Int -> Bool -> LL -> Nat)
def zn1 (R : PV -> Prop) : Prop :=
 (aD (zds n f es (0 : Int) true []) /\ J (0 : Int) true []) /\ ∀ (x4 : Int) (n_0 : Bool) (s_0 : LL), J x4 n_0 s_0 -> if (decide (x4 < (↑es.length : Int)) && decide (x4 < 8)) = true then aH es x4 1 /\ ∃ n1 f1 es1, (es.getD x4.toNat []).head? = some (PV.sl n1 f1 es1) /\ PCall qa 12 [PV.sl n1 f1 es1, Z6 12] fun v => ∃ n2 f2 es2, v = PV.sl n2 f2 es2 /\ (aR [[PV.sl n2 f2 es2]] 1 /\ (s_0.length + 1) * 24 <= 140737488355328) /\ aD (zds n f es (i64.wrap (x4 + 1)) (n_0 && false) (s_0 ++ [[PV.sl n2 f2 es2]])) /\ J (i64.wrap (x4 + 1)) (n_0 && false) (s_0 ++ [[PV.sl n2 f2 es2]]) /\ μ (i64.wrap (x4 + 1)) (n_0 && false) (s_0 ++ [[PV.sl n2 f2 es2]]) < μ x4 n_0 s_0 else R (PV.sl n_0 false s_0)
theorem z0k {R : PV -> Prop} (h : zn1 n f es J μ R) : PCall qa 25 [.sl n f es] R :=
 PCall.wz Tryz.func25 aM [0, 2, 3, 4, 12] (bU 3 (aZ dV (zds n f es) J μ (fun e h => (gI e 4, oN h 0, oS h 0)) [(3, 22, 1)] [0, 3, 4] [])) h
end
def zdt (n2 f2 : Bool) (n0 f0 : Bool) (s0 : LL) (n1 f1 : Bool) (s1 : LL) (n2 f2 : Bool) (s2 : LL) (n7 f7 : Bool) (s7 : LL) (x8 : PV) (n9 f9 : Bool) (s9 : LL) (x10 : Int) : Env × Hp := ([(0, .pv (.sl n0 f0 s0)), (1, .pv (.sl n1 f1 s1)), (2, .pv (.sl n2 f2 s2)), (7, .pv (.sl n7 f7 s7)), (8, .pv x8), (9, .pv (.sl n9 f9 s9)), (10, Y6 x10)], [])
section
variable (n f : Bool) (es : LL) (n2 f2 : Bool) (ss : LL) (n3 f3 : Bool) (s3 : LL) (J : Bool -> Bool -> LL -> Bool -> Bool -> LL -> Bool -> Bool -> LL -> Bool -> Bool -> LL -> PV -> Bool -> Bool -> LL -> Int -> Prop) (μ : Bool -> Bool -> LL -> Bool -> Bool -> LL -> Bool -> Bool -> LL -> Bool -> Bool -> LL -> PV -> Bool -> Bool -> LL -> Int -> Nat)
def zn2 (R : PV -> Prop) : Prop :=
 PCall qa 25 [PV.sl n f es] fun v => ∃ n1 f1 es1, v = PV.sl n1 f1 es1 /\ PCall qa 12 [PV.sl n2 f2 ss, Z6 20] fun v1 => ∃ n4 f4 es2, v1 = PV.sl n4 f4 es2 /\ PCall qa 12 [PV.sl n3 f3 s3, Z6 20] fun v2 => ∃ n5 f5 es3, v2 = PV.sl n5 f5 es3 /\ PCall qa 13 [] fun v3 => ∃ n6 f6 es4, v3 = PV.sl n6 f6 es4 /\ PCall qa 14 [PV.sl n6 f6 es4] fun v4 => PCall qa 26 [v4, PV.sl n1 f1 es1] fun v5 => ∃ n7 f7 es5, v5 = PV.sl n7 f7 es5 /\ (aD (zdt n2 f2 n1 f1 es1 n4 f4 es2 n5 f5 es3 n6 f6 es4 v4 n7 f7 es5 (0 : Int)) /\ J n1 f1 es1 n4 f4 es2 n5 f5 es3 n6 f6 es4 v4 n7 f7 es5 (0 : Int)) /\ ∀ (n0 f0 : Bool) (s0 : LL) (n11 f11 : Bool) (s1 : LL) (n21 f21 : Bool) (s2 : LL) (n71 f71 : Bool) (s7 : LL) (x8 : PV) (n9 f9 : Bool) (s9 : LL) (x10 : Int), J n0 f0 s0 n11 f11 s1 n21 f21 s2 n71 f71 s7 x8 n9 f9 s9 x10 -> if decide (x10 < (↑s0.length : Int)) = true then aH s0 x10 1 /\ ∃ n8 f8 es6, (s0.getD x10.toNat []).head? = some (PV.sl n8 f8 es6) /\ PCall qa 27 [x8, PV.sl n8 f8 es6, PV.sl n9 f9 s9] fun v6 => ∃ b, v6 = Zb b /\ if (!b) = true then R (Zb false) else aD (zdt n2 f2 n0 f0 s0 n11 f11 s1 n21 f21 s2 n71 f71 s7 x8 n9 f9 s9 (i64.wrap (x10 + 1))) /\ J n0 f0 s0 n11 f11 s1 n21 f21 s2 n71 f71 s7 x8 n9 f9 s9 (i64.wrap (x10 + 1)) /\ μ n0 f0 s0 n11 f11 s1 n21 f21 s2 n71 f71 s7 x8 n9 f9 s9 (i64.wrap (x10 + 1)) < μ n0 f0 s0 n11 f11 s1 n21 f21 s2 n71 f71 s7 x8 n9 f9 s9 x10 else PCall qa 28 [PV.sl n71 f71 s7, PV.sl n0 f0 s0] fun v6 => ∃ n8 f8 es6, v6 = PV.sl n8 f8 es6 /\ PCall qa 22 [PV.sl n9 f9 s9, PV.sl n8 f8 es6] fun v7 => ∃ b, v7 = Zb b /\ if b = true then PCall qa 27 [x8, PV.sl n11 f11 s1, PV.sl n21 f21 s2] fun v8 => ∃ b1, v8 = Zb b1 /\ PCall qa 29 [PV.sl n71 f71 s7, PV.sl n11 f11 s1, PV.sl n21 f21 s2] fun v9 => ∃ b2, v9 = Zb b2 /\ if (b1 == b2) = true then PCall qa 30 [] fun v10 => ∃ b3, v10 = Zb b3 /\ R (Zb b3) else R (Zb false) else R (Zb false)
theorem z0l {R : PV -> Prop} (h : zn2 n f es n2 f2 ss n3 f3 s3 J μ R) : PCall qa 6 [.sl n f es, .sl n2 f2 ss, .sl n3 f3 s3] R :=
 PCall.wz Tryz.func6 aM [0, 1, 2, 6, 7, 8, 9, 10, 26, 36] (bU 8 (aZ (eS cz9) (zdt n2 f2) J μ (fun e h => (gN e 0, gF e 0, gS e 0, gN e 1, gF e 1, gS e 1, gN e 2, gF e 2, gS e 2, gN e 7, gF e 7, gS e 7, gP e 8, gN e 9, gF e 9, gS e 9, gI e 10)) [] [0, 1, 2, 7, 8, 9, 10] [])) h
end
section
variable (n f : Bool) (es : LL) (k : Int) (n2 f2 : Bool) (ss : LL)
def zn3 (R : PV -> Prop) : Prop :=
 PCall qa 12 [PV.sl n f es, Z6 30] fun v => ∃ n1 f1 es1, v = PV.sl n1 f1 es1 /\ PCall qa 25 [PV.sl n2 f2 ss] fun v1 => ∃ n3 f3 es2, v1 = PV.sl n3 f3 es2 /\ PCall qa 13 [] fun v2 => ∃ n4 f4 es3, v2 = PV.sl n4 f4 es3 /\ PCall qa 14 [PV.sl n4 f4 es3] fun v3 => PCall qa 31 [v3, PV.sl n1 f1 es1, Z6 k, PV.sl n3 f3 es2] fun v4 => ∃ vs, v4 = PV.tup vs /\ vs.length = 2 /\ ∃ x, vs.head? = some x /\ ∃ cs, x = PV.agg cs /\ cs.length = 4 /\ ∃ n5, cs.head? = some (Z6 n5) /\ ∃ n6, cs.tail.head? = some (Z6 n6) /\ ∃ n7 f5 es4, cs.tail.tail.head? = some (PV.sl n7 f5 es4) /\ ∃ n8 f6 es5, cs.tail.tail.tail.head? = some (PV.sl n8 f6 es5) /\ ∃ x1, vs.tail.head? = some x1 /\ ∃ b, x1 = Zb b /\ if (decide (k < 0) || decide (k > (↑es1.length : Int))) = true then if (!b) = true then if (n6 == 0) = true then if ((↑es5.length : Int) == 0) = true then PCall qa 30 [] fun v5 => ∃ b1, v5 = Zb b1 /\ R (Zb b1) else R (Zb false) else R (Zb false) else R (Zb false) else PCall qa 32 [PV.sl n4 f4 es3, PV.sl n1 f1 es1, Z6 k, PV.sl n3 f3 es2] fun v5 => ∃ vs1, v5 = PV.tup vs1 /\ vs1.length = 3 /\ ∃ x2, vs1.head? = some x2 /\ ∃ n9, x2 = Z6 n9 /\ ∃ x3, vs1.tail.head? = some x3 /\ ∃ n10 f7 es6, x3 = PV.sl n10 f7 es6 /\ ∃ x4, vs1.tail.tail.head? = some x4 /\ ∃ n11 f8 es7, x4 = PV.sl n11 f8 es7 /\ if ((↑es7.length : Int) == 0) = true then if (!b) = true then if (n5 == 0) = true then if (n6 == 0) = true then if ((↑es5.length : Int) == 0) = true then if ((↑es4.length : Int) == 0) = true then PCall qa 30 [] fun v6 => ∃ b1, v6 = Zb b1 /\ R (Zb b1) else R (Zb false) else R (Zb false) else R (Zb false) else R (Zb false) else R (Zb false) else if b = true then if (n5 == n9) = true then if (n6 == k) = true then PCall qa 22 [PV.sl n7 f5 es4, PV.sl n10 f7 es6] fun v6 => ∃ b1, v6 = Zb b1 /\ if b1 = true then PCall qa 23 [PV.sl n8 f6 es5, PV.sl n11 f8 es7] fun v7 => ∃ b2, v7 = Zb b2 /\ if b2 = true then PCall qa 30 [] fun v8 => ∃ b3, v8 = Zb b3 /\ R (Zb b3) else R (Zb false) else R (Zb false) else R (Zb false) else R (Zb false) else R (Zb false)
theorem z0m {R : PV -> Prop} (h : zn3 n f es k n2 f2 ss R) : PCall qa 7 [.sl n f es, .int .i64 k, .sl n2 f2 ss] R :=
 PCall.wz Tryz.func7 aM [0, 1, 2, 6, 7, 8, 9, 10, 11, 12, 34, 62] aX h
end
def zdu  (n0 f0 : Bool) (s0 : LL) (n7 f7 : Bool) (s7 : LL) (x10 h0_0 h0_1 : Int) (hn0_2 hf0_2 : Bool) (hs0_2 : LL) (hn0_3 hf0_3 : Bool) (hs0_3 : LL) : Env × Hp := ([(0, .pv (.sl n0 f0 s0)), (7, .pv (.sl n7 f7 s7)), (8, LV.box 0 0), (10, Y6 x10)], [.box [Y6 h0_0, Y6 h0_1, .pv (.sl hn0_2 hf0_2 hs0_2), .pv (.sl hn0_3 hf0_3 hs0_3)]])
section
variable (n f : Bool) (es : LL) (k : Int) (n2 f2 : Bool) (ss : LL) (J : Bool -> Bool -> LL -> Bool -> Bool -> LL -> Int -> Int -> Int -> Bool -> Bool -> LL -> Bool -> Bool -> LL -> Prop) (μ : Bool -> Bool -> LL -> Bool -> Bool -> LL -> Int -> Int -> Int -> Bool -> Bool -> LL -> Bool -> Bool -> LL -> Nat)
def zn4 (R : PV -> Prop) : Prop :=
 PCall qa 12 [PV.sl n f es, Z6 30] fun v => ∃ n1 f1 es1, v = PV.sl n1 f1 es1 /\ PCall qa 25 [PV.sl n2 f2 ss] fun v1 => ∃ n3 f3 es2, v1 = PV.sl n3 f3 es2 /\ PCall qa 13 [] fun v2 => ∃ n4 f4 es3, v2 = PV.sl n4 f4 es3 /\ PCall qa 14 [PV.sl n4 f4 es3] fun v3 => PCall qa 31 [v3, PV.sl n1 f1 es1, Z6 k, PV.sl n3 f3 es2] fun v4 => ∃ vs, v4 = PV.tup vs /\ vs.length = 2 /\ ∃ x, vs.head? = some x /\ ∃ cs, x = PV.agg cs /\ cs.length = 4 /\ ∃ n5, cs.head? = some (Z6 n5) /\ ∃ n6, cs.tail.head? = some (Z6 n6) /\ ∃ n7 f5 es4, cs.tail.tail.head? = some (PV.sl n7 f5 es4) /\ ∃ n8 f6 es5, cs.tail.tail.tail.head? = some (PV.sl n8 f6 es5) /\ ∃ x1, vs.tail.head? = some x1 /\ ∃ b, x1 = Zb b /\ if (!b) = true then PCall qa 30 [] fun v5 => ∃ b1, v5 = Zb b1 /\ R (Zb b1) else (aD (zdu n1 f1 es1 n4 f4 es3 (0 : Int) n5 n6 n7 f5 es4 n8 f6 es5) /\ J n1 f1 es1 n4 f4 es3 (0 : Int) n5 n6 n7 f5 es4 n8 f6 es5) /\ ∀ (n0 f0 : Bool) (s0 : LL) (n71 f7 : Bool) (s7 : LL) (x10 h0_0 h0_1 : Int) (hn0_2 hf0_2 : Bool) (hs0_2 : LL) (hn0_3 hf0_3 : Bool) (hs0_3 : LL), J n0 f0 s0 n71 f7 s7 x10 h0_0 h0_1 hn0_2 hf0_2 hs0_2 hn0_3 hf0_3 hs0_3 -> if decide (x10 < (↑hs0_3.length : Int)) = true then aH hs0_3 x10 1 /\ ∃ n9 f8 es6, (hs0_3.getD x10.toNat []).head? = some (PV.sl n9 f8 es6) /\ PCall qa 29 [PV.sl n71 f7 s7, PV.sl n9 f8 es6, PV.sl hn0_2 hf0_2 hs0_2] fun v5 => ∃ b1, v5 = Zb b1 /\ if (!b1) = true then R (Zb false) else aD (zdu n0 f0 s0 n71 f7 s7 (i64.wrap (x10 + 1)) h0_0 h0_1 hn0_2 hf0_2 hs0_2 hn0_3 hf0_3 hs0_3) /\ J n0 f0 s0 n71 f7 s7 (i64.wrap (x10 + 1)) h0_0 h0_1 hn0_2 hf0_2 hs0_2 hn0_3 hf0_3 hs0_3 /\ μ n0 f0 s0 n71 f7 s7 (i64.wrap (x10 + 1)) h0_0 h0_1 hn0_2 hf0_2 hs0_2 hn0_3 hf0_3 hs0_3 < μ n0 f0 s0 n71 f7 s7 x10 h0_0 h0_1 hn0_2 hf0_2 hs0_2 hn0_3 hf0_3 hs0_3 else (cZ s0.length (some h0_0) (some h0_1) none /\ aR s0 1) /\ PCall qa 29 [PV.sl n71 f7 s7, PV.sl hn0_2 hf0_2 hs0_2, PV.sl n0 (f0 && decide (h0_1 = (↑s0.length : Int))) (qf h0_0.toNat (qo h0_1.toNat s0))] fun v5 => ∃ b1, v5 = Zb b1 /\ if b1 = true then if decide ((↑hs0_3.length : Int) > 0) = true then PCall qa 30 [] fun v6 => ∃ b2, v6 = Zb b2 /\ R (Zb b2) else R (Zb false) else R (Zb false)
theorem z0n {R : PV -> Prop} (h : zn4 n f es k n2 f2 ss J μ R) : PCall qa 8 [.sl n f es, .int .i64 k, .sl n2 f2 ss] R :=
 PCall.wz Tryz.func8 aM [0, 1, 2, 6, 7, 8, 9, 10, 26, 32, 44] (bU 8 (aZ (eS lE) zdu J μ (fun e h => (gN e 0, gF e 0, gS e 0, gN e 7, gF e 7, gS e 7, gI e 10, hI h 0 0, hI h 0 1, hN h 0 2, hF h 0 2, hS h 0 2, hN h 0 3, hF h 0 3, hS h 0 3)) [] [0, 7, 8, 10] [])) h
end
end Go.Eng
namespace Go.Eng
open Go Go.Proofs Go.Eng.Rows Go.Eng.Trie Go.Eng.Srt
theorem zdv (n f : Bool) (Q : List (Bool × Bool × List Int)) :
 PCall qa 25 [.sl n f (Q.map slE)] fun x => ∃ (n' : Bool) (Q' : List (Bool × Bool × List Int)), x = .sl n' false (Q'.map slE) /\ Q'.map (fun q => q.2.2) = (Q.take 8).map (fun q => q.2.2.take 12) /\ (n' = true -> Q' = []) := by
 refine z0k _ _ _ (fun x n0 s0 => ∃ (i : Nat) (Q' : List (Bool × Bool × List Int)), x = i /\ i <= Q.length /\ i <= 8 /\ s0 = Q'.map slE /\ Q'.map (fun q => q.2.2) = (Q.take i).map (fun q => q.2.2.take 12) /\ (n0 = true -> Q' = [])) (fun x _ _ => 8 - x.toNat) ?_;unfold zn1;refine ⟨⟨rfl, 0, [], rfl, by omega, by omega, rfl, rfl, fun _ => rfl⟩, ?_⟩;rintro _ n0 _ ⟨i, Q', rfl, i1, i2, rfl, i3, i4⟩;rw [qc];refine aC (fun h => ?_) (fun h => ?_)
 ·simp only [qb, aB] at h;have hi : i < Q.length := by omega
  have hg : (Q.map slE).getD ((i : Int)).toNat [] = slE Q[i] := by rw [qg]; exact cD hi
  have hlen : Q'.length = i := by
   have := congrArg qbi i3;simp only [qc, qe] at this; omega
  have hix : aH (Q.map slE) (i : Int) 1 := bQ (enc := slE) (l := Q) (fun _ => rfl) (Int.natCast_nonneg i) (Int.ofNat_lt.2 hi);refine ⟨hix, Q[i].1, Q[i].2.1, aA Q[i].2.2, by rw [hg]; rfl, ?_⟩;refine (r7 _ _ _ 12 (by omega)).mono ?_;rintro _ ⟨n2, f2, rfl⟩;have hw : i64.wrap ((i : Int) + 1) = ((i + 1 : Nat) : Int) := by rw [aG (by omega) (by omega)]; omega
  rw [hw];refine ⟨n2, f2, _, rfl, ⟨iA (enc := slE) (fun _ => rfl) [(n2, f2, Q[i].2.2.take 12)], by rw [qc]; omega⟩, rfl, ⟨i + 1, Q' ++ [(n2, f2, Q[i].2.2.take 12)], rfl, by omega, by omega, by rw [qn]; rfl, ?_, fun h => by simp at h⟩, by first | omega | (dsimp only; omega)⟩
  rw [qn, i3, cJ hi, qn]; rfl
 ·simp only [qb, aB] at h;refine ⟨n0, Q', rfl, ?_, i4⟩;rw [i3];by_cases h8 : i = 8
  ·rw [h8]
  ·rw [qh (by omega : Q.length <= i), qh (by omega : Q.length <= 8)]
end Go.Eng
namespace Go.Eng.Rows
open Go Go.Eng Go.Eng.Trie Go.Eng.Srt
def pickW (rows : List Row) (part : List Int) : List (List Int) -> List (List Int) -> List (List Int)
 | out, [] => out
 | out, s :: S => if d0 rows s part = true /\ bW rows s ∉ out then pickW rows part (out ++ [bW rows s]) S else pickW rows part out S
def dL (rows : List Row) (line : List Int) (k : Nat) : Nat := match (dG rows (line.take k) 0).getLast? with
 | some q => if q.2 = k then q.1 else k
 | none => k
section
variable {rows : List Row}
theorem wE (part : List Int) : ∀ (S : List (List Int)) (out : List (List Int)) (s : List Int), pickW rows part out (S ++ [s]) = if d0 rows s part = true /\ bW rows s ∉ pickW rows part out S then pickW rows part out S ++ [bW rows s] else pickW rows part out S
 | [], out, s => by
   rw [qbh];have e : pickW rows part out [s] = if d0 rows s part = true /\ bW rows s ∉ out then pickW rows part (out ++ [bW rows s]) [] else pickW rows part out [] := by rw [pickW.eq_2]
   have e2 : ∀ o, pickW rows part o [] = o := fun o => by rw [pickW.eq_1]
   rw [e, e2, e2]
 | t :: S, out, s => by
   rw [qbf, pickW, pickW];split
   ·exact wE part S _ s
   ·exact wE part S _ s
theorem sH (part : List Int) : ∀ (S out : List (List Int)), (pickW rows part out S).length <= out.length + S.length
 | [], out => by rw [pickW]; simp
 | s :: S, out => by
   rw [pickW];split
   ·have := sH part S (out ++ [bW rows s]); rw [ql, qw] at this; rw [qd]; omega
   ·have := sH part S out; simp only [qd] at this ⊢; omega
theorem sI (part : List Int) : ∀ (S out : List (List Int)) (t : List Int), t ∈ pickW rows part out S -> t ∈ out ∨ ∃ s ∈ S, t = bW rows s /\ d0 rows s part = true
 | [], out, t, h => .inl (by rwa [pickW] at h)
 | s :: S, out, t, h => by
   rw [pickW] at h;split at h
   ·rename_i hc;rcases sI part S _ t h with h | ⟨u, hu, e⟩
    ·rcases List.mem_append.1 h with h | h
     ·exact .inl h
     ·exact .inr ⟨s, qr, List.mem_singleton.1 h, hc.1⟩
    ·exact .inr ⟨u, qy _ hu, e⟩
   ·rcases sI part S _ t h with h | ⟨u, hu, e⟩
    ·exact .inl h
    ·exact .inr ⟨u, qy _ hu, e⟩
theorem zdw (ht : TabC rows) (s part : List Int) : d0 rows (bW rows s) part = d0 rows s part := by unfold d0; rw [zze ht]
theorem z0o (ht : TabC rows) {part : List Int} {S : List (List Int)} {t : List Int} (h : t ∈ pickW rows part [] S) : d0 rows t part = true := by
 rcases sI part S [] t h with h | ⟨s, _, rfl, hb⟩
 ·cases h
 ·rw [zdw ht]; exact hb
theorem zdx {L : List Int} : ∀ (k i : Nat), L.length - i <= k -> ∀ q ∈ dG rows L i, q.1 < q.2 /\ q.2 <= L.length
 | k, i, hk, q, hq => by
   by_cases hi : i < L.length
   ·by_cases hl : dK rows L i = true
    ·rw [sF hl] at hq;have h1 := sE hl;have h2 := zdh hl;rcases List.mem_cons.1 hq with rfl | hq
     ·exact ⟨h1, h2⟩
     ·cases k with
      | zero => omega
      | succ k => exact zdx k _ (by omega) q hq
    ·rw [pO hi hl] at hq;have h1 := (dZ (rows := rows) hi).1;cases k with
     | zero => omega
     | succ k => exact zdx k _ (by omega) q hq
   ·rw [pN (by omega)] at hq; cases hq
theorem wF {L : List Int} : ∀ (k i : Nat), L.length - i <= k -> (dG rows L i).length <= L.length - i
 | k, i, hk => by
   by_cases hi : i < L.length
   ·by_cases hl : dK rows L i = true
    ·rw [sF hl, qd];have h1 := sE hl;have h2 := zdh hl;cases k with
     | zero => omega
     | succ k => have := wF (L := L) k (dE rows L i) (by omega); omega
    ·rw [pO hi hl];have h1 := (dZ (rows := rows) hi).1;cases k with
     | zero => omega
     | succ k => have := wF (L := L) k (aT rows L i) (by omega); omega
   ·rw [pN (by omega)]; simp
theorem zdy (line : List Int) (k : Nat) : dL rows line k <= k := by
 unfold dL;cases h : (dG rows (line.take k) 0).getLast? with
 | none => exact qj _
 | some q =>
   have hq := List.mem_of_getLast? h;have := zdx (rows := rows) _ 0 (qj _) q hq;dsimp only;split <;> omega
end
section
variable {rows : List Row}
theorem z0p {r : Int} (h : eC rows r = false) (hn : aL rows r ≠ (0, 0)) : (aL rows r).2 ≠ 0 /\ aF rows 1 r = 0 /\ aF rows 1 (aL rows r).1 = 0 := by
 unfold eC at h;simp [hn] at h;exact ⟨h.1, h.2.2.1, h.2.2.2⟩
theorem z0q (h1 : d9 rows) (hks : ∀ r, bV r = true -> aF rows 1 r = 0) {a b c : Int} (h : fH rows a b = some c) : aF rows 1 c = 0 := by
 unfold fH at h;split at h
 ·rename_i s hj; cases h; exact hks _ (zcm hj)
 ·obtain ⟨q1, q2, q3, _⟩ := zcl h1 h;exact (z0p q3 (by rw [q1]; intro e; exact q2 (Prod.mk.inj e).2)).2.1
theorem z0r (h1 : d9 rows) (hks : ∀ r, bV r = true -> aF rows 1 r = 0) (d : List Int) : ∀ a, (bN rows d).s = some a -> aF rows 1 a = 0 := by
 induction d using iJ with
 | h0 => intro a h; cases h
 | h1 d r ih =>
   rw [gQ];rcases pK rows (bN rows d) r with e | ⟨b, c, hs, hp, _, e⟩
   ·rw [e];unfold cU;split
    ·rename_i h0; intro a h; cases h; exact h0
    ·exact ih
   ·rw [e];intro a h; cases h; exact z0q h1 hks hp
end
end Go.Eng.Rows
namespace Go.Eng
open Go Go.Proofs
section
variable (a b : Int)
def zn5 (R : PV -> Prop) : Prop :=
 if (decide (a >= 4352) && decide (a <= 4370) && decide (b >= 4449) && decide (b <= 4469)) = true then R (PV.tup [Z3 (i32.wrap (i64.wrap (i64.wrap ((44032 : Int) + i64.wrap (i64.wrap (i64.wrap a - 4352) * 588)) + i64.wrap (i64.wrap (i64.wrap b - 4449) * 28)))), Zb true]) else ACall qa 100 [LV.pv (Z3 a)] [] fun (r : LV) (h' : Hp) => (∃ (t : Bool × LL), (r = LV.own 0 /\ h' = [Ob.sl (21, 1) true t.fst t.snd]) /\ True /\ if ((↑t.snd.length : Int) == 2 && decide (b >= 4520) && decide (b <= 4546)) = true then R (PV.tup [Z3 (i32.wrap (a + i32.wrap (b - 4519))), Zb true]) else R (PV.tup [Z3 0, Zb false])) ∨ ∃ (t : Bool × LL), (r = LV.pv (PV.sl t.fst true t.snd) /\ h' = []) /\ True /\ if ((↑t.snd.length : Int) == 2 && decide (b >= 4520) && decide (b <= 4546)) = true then R (PV.tup [Z3 (i32.wrap (a + i32.wrap (b - 4519))), Zb true]) else R (PV.tup [Z3 0, Zb false])
theorem z0s {R : PV -> Prop} (h : zn5 a b R) : PCall qa 158 [.int .i32 a, .int .i32 b] R :=
 PCall.wz Tryz.func158 (fun zz_ => match zz_ with | 100 => some ⟨Bool × LL, fun _ hs t => (.own hs.length, hs ++ [.sl (21, 1) true t.1 t.2]), some ⟨Bool × LL, fun _ hs t => (.pv (.sl t.1 true t.2), hs)⟩⟩ | _ => none) [0, 1, 4, 5, 6, 20, 44] aX h
end
def zdz (n f : Bool) (es : LL) (a b : Int) (x8 : Int) (x9 : Bool) (x10 : Int) : Env × Hp := ([(0, LV.pv (PV.sl n f es)), (1, LV.pv (PV.int i32 a)), (2, LV.pv (PV.int i32 b)), (8, .pv (.int i32 x8)), (9, .pv (.bool x9)), (10, Y6 x10)], [])
section
variable (n f : Bool) (es : LL) (a b : Int) (J : Int -> Bool -> Int -> Prop) (μ : Int -> Bool -> Int -> Nat)
def zn6 (R : PV -> Prop) : Prop :=
 (aD (zdz n f es a b (0 : Int) false (0 : Int)) /\ J (0 : Int) false (0 : Int)) /\ ∀ (x8 : Int) (x9 : Bool) (x10 : Int), J x8 x9 x10 ->
 let K4 := fun (y0_ : Int) (y1_ : Bool) (y2_ : Int) => aD (zdz n f es a b y0_ y1_ y2_) /\ J y0_ y1_ y2_ /\ μ y0_ y1_ y2_ < μ x8 x9 x10; if decide (x10 < (↑es.length : Int)) = true then aH es x10 5 /\ ∃ n1, (qf 0 (es.getD x10.toNat [])).head? = some (Z6 n1) /\
 let V1 := K4 x8 x9 (i64.wrap (x10 + 1)); if (n1 != 2) = true then V1 else aH es x10 5 /\ ∃ n2, (qf 3 (es.getD x10.toNat [])).head? = some (Z6 n2) /\ if (n2 != i64.wrap a) = true then V1 else aH es x10 5 /\ ∃ n3, (qf 4 (es.getD x10.toNat [])).head? = some (Z6 n3) /\ if (n3 != i64.wrap b || b == 0) = true then V1 else aH es x10 5 /\ ∃ n4, (qf 1 (es.getD x10.toNat [])).head? = some (Z6 n4) /\ PCall qa 101 [PV.sl n f es, Z3 (i32.wrap n4)] fun v => ∃ vs, v = PV.tup vs /\ vs.length = 3 /\ ∃ x, vs.head? = some x /\ ∃ n5, x = Z3 n5 /\ ∃ x1, vs.tail.head? = some x1 /\ ∃ n6, x1 = Z3 n6 /\ ∃ x2, vs.tail.tail.head? = some x2 /\ ∃ b1, x2 = Zb b1 /\ if (b1 && n5 == a && n6 == b) = true then PCall qa 171 [PV.sl n f es, Z3 (i32.wrap n4)] fun v1 => ∃ b2, v1 = Zb b2 /\ if (!b2 && (!x9 || decide (i32.wrap n4 < x8))) = true then K4 (i32.wrap n4) true (i64.wrap (x10 + 1)) else V1 else V1 else R (PV.tup [Z3 x8, Zb x9])
theorem z0t {R : PV -> Prop} (h : zn6 n f es a b J μ R) : PCall qa 159 [.sl n f es, .int .i32 a, .int .i32 b] R :=
 PCall.wz Tryz.func159 aM [0, 1, 2, 6, 7, 8, 9, 10, 11, 12, 13, 14, 18, 50, 89] (bU 4 (aZ dV (zdz n f es a b) J μ (fun e h => (gI e 8, gB e 9, gI e 10)) [] [0, 1, 2, 8, 9, 10] [])) h
end
section
variable (n f : Bool) (es : LL) (a b : Int)
def zn7 (R : PV -> Prop) : Prop :=
 PCall qa 158 [Z3 a, Z3 b] fun v => ∃ vs, v = PV.tup vs /\ vs.length = 2 /\ ∃ x, vs.head? = some x /\ ∃ n1, x = Z3 n1 /\ ∃ x1, vs.tail.head? = some x1 /\ ∃ b1, x1 = Zb b1 /\ if b1 = true then R (PV.tup [Z3 n1, Zb true]) else PCall qa 159 [PV.sl n f es, Z3 a, Z3 b] fun v1 => ∃ vs1, v1 = PV.tup vs1 /\ vs1.length = 2 /\ ∃ x2, vs1.head? = some x2 /\ ∃ n2, x2 = Z3 n2 /\ ∃ x3, vs1.tail.head? = some x3 /\ ∃ b2, x3 = Zb b2 /\ R (PV.tup [Z3 n2, Zb b2])
theorem z0u {R : PV -> Prop} (h : zn7 n f es a b R) : PCall qa 127 [.sl n f es, .int .i32 a, .int .i32 b] R :=
 PCall.wz Tryz.func127 aM [0, 1, 2, 6, 7, 8, 9, 16] aX h
end
def zd0 (n f : Bool) (es : LL) (n2 f2 : Bool) (ss : LL) (x5 : Int) : Env × Hp := ([(0, LV.pv (PV.sl n f es)), (1, LV.pv (PV.sl n2 f2 ss)), (5, Y6 x5)], [])
section
variable (n f : Bool) (es : LL) (n2 f2 : Bool) (ss : LL) (J : Int -> Prop) (μ : Int -> Nat)
def zn8 (R : PV -> Prop) : Prop :=
 (aD (zd0 n f es n2 f2 ss (i64.wrap ((↑ss.length : Int) - 1))) /\ J (i64.wrap ((↑ss.length : Int) - 1))) /\ ∀ (x5 : Int), J x5 -> if decide (x5 >= 0) = true then aH ss x5 1 /\ ∃ n1, (ss.getD x5.toNat []).head? = some (Z3 n1) /\ PCall qa 102 [PV.sl n f es, Z3 n1] fun v => ∃ n3, v = Z6 n3 /\ if (n3 == 0) = true then R (Z6 x5) else aD (zd0 n f es n2 f2 ss (i64.wrap (x5 - 1))) /\ J (i64.wrap (x5 - 1)) /\ μ (i64.wrap (x5 - 1)) < μ x5 else R (Z6 (-1 : Int))
theorem z0v {R : PV -> Prop} (h : zn8 n f es n2 f2 ss J μ R) : PCall qa 125 [.sl n f es, .sl n2 f2 ss] R :=
 PCall.wz Tryz.func125 aM [0, 1, 4, 5, 10, 19] (bU 2 (aZ g9 (zd0 n f es n2 f2 ss) J μ (fun e h => (((gI e 5), ()))) [] [0, 1, 5] [])) h
end
section
variable (n f : Bool) (es : LL) (n2 f2 : Bool) (ss : LL) (k r : Int)
def zn9 (R : PV -> Prop) : Prop :=
 if (k == i64.wrap ((↑ss.length : Int) - 1)) = true then R (Zb true) else aH ss (i64.wrap ((↑ss.length : Int) - 1)) 1 /\ ∃ n1, (ss.getD (i64.wrap ((↑ss.length : Int) - 1)).toNat []).head? = some (Z3 n1) /\ PCall qa 102 [PV.sl n f es, Z3 n1] fun v => ∃ n3, v = Z6 n3 /\ PCall qa 102 [PV.sl n f es, Z3 r] fun v1 => ∃ n4, v1 = Z6 n4 /\ R (Zb (decide (n3 < n4)))
theorem z0w {R : PV -> Prop} (h : zn9 n f es ss k r R) : PCall qa 126 [.sl n f es, .sl n2 f2 ss, .int .i64 k, .int .i32 r] R :=
 PCall.wz Tryz.func126 aM [0, 1, 2, 3, 8, 13] aX h
end
def zd1 (n f : Bool) (es : LL) (n2 f2 : Bool) (ss : LL) (x6 : Int) (n_0 : Bool) (s_0 : LL) : Env × Hp := ([(0, LV.pv (PV.sl n f es)), (1, LV.pv (PV.sl n2 f2 ss)), (5, LV.own 0), (6, Y6 x6)], [.sl (21, 1) true n_0 s_0])
section
variable (n f : Bool) (es : LL) (n2 f2 : Bool) (ss : LL) (J : Int -> Bool -> LL -> Prop) (μ : Int -> Bool -> LL -> Nat)
def zoa (R : PV -> Prop) : Prop :=
 (aD (zd1 n f es n2 f2 ss (0 : Int) true []) /\ J (0 : Int) true []) /\ ∀ (x6 : Int) (n_0 : Bool) (s_0 : LL), J x6 n_0 s_0 ->
 let K3 := fun (y0_ : Int) (y1_ : Bool) (y2_ : LL) => aD (zd1 n f es n2 f2 ss y0_ y1_ y2_) /\ J y0_ y1_ y2_ /\ μ y0_ y1_ y2_ < μ x6 n_0 s_0; if decide (x6 < (↑ss.length : Int)) = true then PCall qa 125 [PV.sl n f es, PV.sl n_0 false s_0] fun v => ∃ n1, v = Z6 n1 /\ true = true /\
 let V1 := aH ss x6 1 /\ ∃ n7, (ss.getD x6.toNat []).head? = some (Z3 n7) /\ (aR [[Z3 n7]] 1 /\ (s_0.length + 1) * 4 <= 140737488355328) /\ K3 (i64.wrap (x6 + 1)) (n_0 && false) (s_0 ++ [[Z3 n7]]); if decide (n1 >= 0) = true then aH ss x6 1 /\ ∃ n3, (ss.getD x6.toNat []).head? = some (Z3 n3) /\ PCall qa 126 [PV.sl n f es, PV.sl n_0 false s_0, Z6 n1, Z3 n3] fun v1 => ∃ b, v1 = Zb b /\ true = true /\ if b = true then aH s_0 n1 1 /\ ∃ n4, (qf 0 (s_0.getD n1.toNat [])).head? = some (Z3 n4) /\ aH ss x6 1 /\ ∃ n5, (ss.getD x6.toNat []).head? = some (Z3 n5) /\ PCall qa 127 [PV.sl n f es, Z3 n4, Z3 n5] fun v2 => ∃ vs, v2 = PV.tup vs /\ vs.length = 2 /\ ∃ x, vs.head? = some x /\ ∃ n6, x = Z3 n6 /\ ∃ x1, vs.tail.head? = some x1 /\ ∃ b1, x1 = Zb b1 /\ if b1 = true then aH s_0 n1 1 /\ (1 = 1 /\ 1 <= (s_0.getD n1.toNat []).length) /\ K3 (i64.wrap (x6 + 1)) n_0 (s_0.set n1.toNat (Z3 n6 :: zq (qf 1 (s_0.getD n1.toNat [])))) else V1 else V1 else V1 else R (PV.sl n_0 false s_0)
theorem z0x {R : PV -> Prop} (h : zoa n f es n2 f2 ss J μ R) : PCall qa 98 [.sl n f es, .sl n2 f2 ss] R :=
 PCall.wz Tryz.func98 aM [0, 1, 4, 5, 6, 7, 8, 9, 13, 30, 44] (bU 3 (aZ dV (zd1 n f es n2 f2 ss) J μ (fun e h => (gI e 6, oN h 0, oS h 0)) [(5, 21, 1)] [0, 1, 5, 6] [])) h
end
section
variable (n f : Bool) (es : LL) (n2 f2 : Bool) (ss : LL)
def zob (R : PV -> Prop) : Prop :=
 PCall qa 20 [PV.sl n f es, PV.sl n2 f2 ss] fun v => ∃ n1 f1 es1, v = PV.sl n1 f1 es1 /\ PCall qa 98 [PV.sl n f es, PV.sl n1 f1 es1] fun v1 => ∃ n3 f3 es2, v1 = PV.sl n3 f3 es2 /\ R (PV.sl n3 f3 es2)
theorem z0y {R : PV -> Prop} (h : zob n f es n2 f2 ss R) : PCall qa 64 [.sl n f es, .sl n2 f2 ss] R :=
 PCall.wz Tryz.func64 aM [0, 1, 4] aX h
end
end Go.Eng
namespace Go.Eng
open Go Go.Proofs Go.Eng.Rows Go.Eng.Trie Go.Eng.Srt
theorem z0z {r : Int} (hs : bV r = false) : ACall qa 100 [.pv (.int .i32 r)] [] fun r1 h' => r1 = .pv (.sl true true []) /\ h' = [] := by
 refine zht _ ?_; unfold zQ;refine (pIs r).mono ?_;rintro _ rfl;refine ⟨_, rfl, ?_⟩;rw [hs];exact bB rfl ⟨rfl, rfl⟩
theorem z00 {a b : Int} (ha : -2147483648 <= a /\ a <= 2147483647) (hb : -2147483648 <= b /\ b <= 2147483647) : PCall qa 158 [.int .i32 a, .int .i32 b] fun v => v = kD (eQ a b) := by
 refine z0s _ _ ?_; unfold zn5;have wa : i64.wrap a = a := aG (by omega) (by omega);have wb : i64.wrap b = b := aG (by omega) (by omega);rw [wa, wb];refine aC (fun hc => ?_) (fun hc => ?_)
 ·simp only [qb, aB, ge_iff_le] at hc;have w1 : i64.wrap (a - 4352) = a - 4352 := aG (by omega) (by omega);have w2 : i64.wrap ((a - 4352) * 588) = (a - 4352) * 588 := aG (by omega) (by omega);have w3 : i64.wrap (44032 + (a - 4352) * 588) = 44032 + (a - 4352) * 588 := aG (by omega) (by omega);have w4 : i64.wrap (b - 4449) = b - 4449 := aG (by omega) (by omega);have w5 : i64.wrap ((b - 4449) * 28) = (b - 4449) * 28 := aG (by omega) (by omega);rw [w1, w2, w3, w4, w5];have w6 : i64.wrap (44032 + (a - 4352) * 588 + (b - 4449) * 28) = 44032 + (a - 4352) * 588 + (b - 4449) * 28 := aG (by omega) (by omega);rw [w6];have w7 : i32.wrap (44032 + (a - 4352) * 588 + (b - 4449) * 28) = 44032 + (a - 4352) * 588 + (b - 4449) * 28 := c7 (by omega) (by omega);rw [w7];unfold eQ;rw [if_pos (by omega)];simp only [kD];rw [show 44032 + (a - 4352) * 588 + (b - 4449) * 28 = 44032 + ((a - 4352) * 21 + (b - 4449)) * 28 by omega]
 ·simp only [qb, aB, ge_iff_le] at hc;have hn : ¬ ((4352 <= a /\ a < 4371) /\ 4449 <= b /\ b < 4470) := by omega
  have fin : ∀ (l : List (List PV)), (((l.length : Int) = 2 ↔ (bV a = true /\ (a - 44032) % 28 = 0))) -> (if (((l.length : Int)) == 2 && decide (b >= 4520) && decide (b <= 4546)) = true then (PV.tup [.int .i32 (i32.wrap (a + i32.wrap (b - 4519))), .bool true] : PV) = kD (eQ a b) else (PV.tup [.int .i32 0, .bool false] : PV) = kD (eQ a b)) := fun l hl => by
   refine aC (fun h2 => ?_) (fun h2 => ?_)
   ·simp only [qb, aB, beq_iff_eq, ge_iff_le] at h2;have hs := hl.1 h2.1.1;have hr := hs.1;simp only [bV, qb, aB] at hr;have w1 : i32.wrap (b - 4519) = b - 4519 := c7 (by omega) (by omega);have w2 : i32.wrap (a + (b - 4519)) = a + (b - 4519) := c7 (by omega) (by omega);rw [w1, w2];unfold eQ; rw [if_neg hn, if_pos ⟨hs, by omega, by omega⟩]; rfl
   ·simp only [qb, aB, beq_iff_eq, ge_iff_le] at h2;unfold eQ; rw [if_neg hn, if_neg (fun h => h2 ⟨⟨hl.2 h.1, by omega⟩, by omega⟩)]; rfl
  cases hs : bV a with
  | false =>
    refine (z0z hs).mono ?_;rintro _ _ ⟨rfl, rfl⟩;exact .inr ⟨(true, []), ⟨rfl, rfl⟩, trivial, fin [] (by rw [hs]; simp)⟩
  | true =>
    have hl : ((aA (eD a)).length : Int) = 2 ↔ (bV a = true /\ (a - 44032) % 28 = 0) := by
     rw [bF, hs];unfold eD;split <;> simp [*]
    refine (zbv hs).mono ?_;rintro r1 h' (⟨nl, rfl, rfl⟩ | ⟨rfl, rfl⟩)
    ·exact .inl ⟨(nl, _), ⟨rfl, rfl⟩, trivial, fin _ hl⟩
    ·exact .inr ⟨(false, _), ⟨rfl, rfl⟩, trivial, fin _ hl⟩
section
variable {rows : List Row}
def pQ (o : Option Int) : Int := o.getD 0
theorem z01 (hp : dI rows) (h1 : d9 rows) (n f : Bool) {a b : Int} (hl : rows.length < 1000000) (ha : -2147483648 <= a /\ a <= 2147483647) (hb : -2147483648 <= b /\ b <= 2147483647) :
 PCall qa 159 [.sl n f (bA rows), .int .i32 a, .int .i32 b] fun v => v = kD (mO rows a b) := by
 refine z0t _ _ _ _ _ (fun x8 x9 i => (0 <= i /\ i <= rows.length) /\ x8 = pQ ((rows.take i.toNat).foldl (Rows.cmpS rows a b) none) /\ x9 = ((rows.take i.toNat).foldl (Rows.cmpS rows a b) none).isSome) (fun _ _ i => rows.length - i.toNat) ?_;unfold zn6;refine ⟨⟨rfl, ⟨qq _, by omega⟩, rfl, rfl⟩, ?_⟩;rintro x8 x9 i ⟨⟨i0, i1⟩, h8, h9⟩;have wa : i64.wrap a = a := aG (by omega) (by omega);have wb : i64.wrap b = b := aG (by omega) (by omega);rw [wa, wb];refine aC (fun hc => ?_) (fun hc => ?_)
 ·simp only [aB, i7] at hc;have hi : i.toNat < rows.length := by omega
  have hw : i64.wrap (i + 1) = i + 1 := aG (by omega) (by omega);have hg : (bA rows).getD i.toNat [] = nM rows[i.toNat] := cD hi;have hix : aH (bA rows) i 5 := bQ pD i0 (by omega);have hmem := qp hi
  have hst : (rows.take (i + 1).toNat).foldl (Rows.cmpS rows a b) none = Rows.cmpS rows a b ((rows.take i.toNat).foldl (Rows.cmpS rows a b) none) rows[i.toNat] := by
   rw [show (i + 1).toNat = i.toNat + 1 by omega, cJ hi, qbb]; rfl
  rw [hw];generalize (rows.take i.toNat).foldl (Rows.cmpS rows a b) none = o at *;generalize rows[i.toNat] = x at *
  have skip : eE rows a b x = false -> (0 <= i + 1 /\ i + 1 <= rows.length) /\ x8 = pQ ((rows.take (i + 1).toNat).foldl (Rows.cmpS rows a b) none) /\ x9 = ((rows.take (i + 1).toNat).foldl (Rows.cmpS rows a b) none).isSome := fun h => by
   rw [hst]; unfold Rows.cmpS; rw [h]; exact ⟨⟨by omega, by omega⟩, h8, h9⟩
  have hmu : rows.length - (i + 1).toNat < rows.length - i.toNat := by omega
  refine ⟨hix, x.kind, by rw [hg]; rfl, aC (fun c1 => ?_) (fun c1 => ?_)⟩
  ·simp only [bne_iff_ne, ne_eq] at c1;exact ⟨rfl, skip (by simp [eE, c1]), hmu⟩
  simp only [bne_iff_ne, ne_eq, qm] at c1;refine ⟨hix, x.a, by rw [hg]; rfl, aC (fun c2 => ?_) (fun c2 => ?_)⟩
  ·simp only [bne_iff_ne, ne_eq] at c2;exact ⟨rfl, skip (by simp [eE, c2]), hmu⟩
  simp only [bne_iff_ne, ne_eq, qm] at c2;refine ⟨hix, x.b, by rw [hg]; rfl, aC (fun c3 => ?_) (fun c3 => ?_)⟩
  ·simp only [qk, bne_iff_ne, ne_eq, beq_iff_eq] at c3;refine ⟨rfl, skip ?_, hmu⟩;rcases c3 with c3 | c3
   ·simp [eE, c3]
   ·simp [eE, c3]
  simp only [qk, bne_iff_ne, ne_eq, beq_iff_eq, not_or, qm] at c3;obtain ⟨hpx, hfr⟩ := vR h1 hmem c1;have wf : i32.wrap x.fr = x.fr := c7 (by omega) (by omega);refine ⟨hix, x.fr, by rw [hg]; rfl, ?_⟩;rw [wf];refine (vA hp n f x.fr hl (by omega)).mono ?_;rintro _ rfl;rw [hpx, c2, c3.1];refine ⟨_, rfl, rfl, _, rfl, _, rfl, _, rfl, _, rfl, _, rfl, _, rfl, bB (by simp [c3.2]) ?_⟩;refine (z0b hp n f x.fr hl (by omega)).mono ?_;rintro _ rfl;refine ⟨_, rfl, ?_⟩;cases ho : eC rows x.fr with
  | true => exact bK (by simp) ⟨rfl, skip (by simp [eE, ho]), hmu⟩
  | false =>
    have hcb : eE rows a b x = true := by simp [eE, c1, c2, c3.1, c3.2, ho]
    cases o with
    | none =>
      simp only [qce] at h9;refine bB (by rw [h9]; rfl) ⟨rfl, ⟨⟨by omega, by omega⟩, ?_, ?_⟩, hmu⟩
      ·rw [hst]; simp [Rows.cmpS, hcb, pQ]
      ·rw [hst]; simp [Rows.cmpS, hcb]
    | some r =>
      simp only [qce] at h9;simp only [pQ, Option.getD] at h8;refine aC (fun c4 => ?_) (fun c4 => ?_)
      ·rw [h9, h8] at c4;simp at c4;refine ⟨rfl, ⟨⟨by omega, by omega⟩, ?_, ?_⟩, hmu⟩
       ·rw [hst]; simp [Rows.cmpS, hcb, pQ, c4]
       ·rw [hst]; simp [Rows.cmpS, hcb, c4]
      ·rw [h9, h8] at c4;simp at c4;refine ⟨rfl, ⟨⟨by omega, by omega⟩, ?_, ?_⟩, hmu⟩
       ·have hlt : ¬ x.fr < r := by omega
        rw [hst, h8]; simp [Rows.cmpS, hcb, pQ, hlt]
       ·rw [hst, h9]; simp [Rows.cmpS, hcb]; split <;> rfl
 ·simp only [aB, i7] at hc;rw [qh (by omega)] at h8 h9;unfold mO;rw [h8, h9];cases rows.foldl (Rows.cmpS rows a b) none <;> rfl
theorem z02 (hp : dI rows) (h1 : d9 rows) (n f : Bool) {a b : Int} (hl : rows.length < 1000000) (ha : -2147483648 <= a /\ a <= 2147483647) (hb : -2147483648 <= b /\ b <= 2147483647) :
 PCall qa 127 [.sl n f (bA rows), .int .i32 a, .int .i32 b] fun v => v = kD (fH rows a b) := by
 refine z0u _ _ _ _ _ ?_; unfold zn7;refine (z00 ha hb).mono ?_;rintro _ rfl;unfold fH;cases eQ a b with
 | some r => exact ⟨_, rfl, rfl, _, rfl, _, rfl, _, rfl, _, rfl, bB rfl rfl⟩
 | none =>
   refine ⟨_, rfl, rfl, _, rfl, _, rfl, _, rfl, _, rfl, bK (by simp) ?_⟩;refine (z01 hp h1 n f hl ha hb).mono ?_;rintro _ rfl;cases mO rows a b with
   | none => exact ⟨_, rfl, rfl, _, rfl, _, rfl, _, rfl, _, rfl, rfl⟩
   | some r => exact ⟨_, rfl, rfl, _, rfl, _, rfl, _, rfl, _, rfl, rfl⟩
theorem z03 {st : CSt} (h0 : st.s = none -> st.P = []) (h1 : ∀ a, st.s = some a -> aF rows 1 a = 0) (h2 : ∀ m ∈ st.M, aF rows 1 m ≠ 0) :
 (dB st = -1 /\ ∀ k (h : k < st.out.length), aF rows 1 st.out[k] ≠ 0) ∨ (∃ k : Nat, dB st = (k : Int) /\ ∃ h : k < st.out.length, aF rows 1 st.out[k] = 0 /\ ∀ j (hj : j < st.out.length), k < j -> aF rows 1 st.out[j] ≠ 0) := by
 cases hs : st.s with
 | none =>
   have hP := h0 hs;have ho : st.out = st.M := by simp [CSt.out, hs, hP]
   refine .inl ⟨by simp [dB, hs], fun k hk => h2 _ ?_⟩;have := qp hk;rw [<- ho]; exact this
 | some a =>
   have ho : st.out = st.P ++ a :: st.M := by simp [CSt.out, hs]
   refine .inr ⟨st.P.length, by simp [dB, hs], by rw [ho]; simp, ?_, fun j hj hlt => h2 _ ?_⟩
   ·simp only [ho, qbd (qj _), Nat.sub_self, qbk]; exact h1 a hs
   ·simp only [ho];rw [qbd (by omega), List.getElem_cons];rw [dif_neg (by omega)];exact qp _
theorem z04 (n f n2 f2 : Bool) (hl : rows.length < 1000000) (L : List Int) (hr : R32 L) (hL : L.length < 1000000000000) :
 PCall qa 125 [.sl n f (bA rows), .sl n2 f2 (aA L)] fun v => ∃ x : Int, v = .int .i64 x /\ ((x = -1 /\ ∀ k (h : k < L.length), aF rows 1 L[k] ≠ 0) ∨ (∃ k : Nat, x = (k : Int) /\ ∃ h : k < L.length, aF rows 1 L[k] = 0 /\ ∀ j (hj : j < L.length), k < j -> aF rows 1 L[j] ≠ 0)) := by
 refine z0v _ _ _ _ _ _ (fun x => (-1 <= x /\ x < L.length) /\ ∀ j (hj : j < L.length), x < j -> aF rows 1 L[j] ≠ 0) (fun x => (x + 1).toNat) ?_;unfold zn8;have hw : i64.wrap ((aA L).length - 1) = L.length - 1 := by rw [bF]; exact aG (by omega) (by omega)
 rw [hw];refine ⟨⟨rfl, ⟨by omega, by omega⟩, fun j hj h => by omega⟩, ?_⟩;rintro x ⟨⟨x0, x1⟩, hx⟩;refine aC (fun hc => ?_) (fun hc => ?_)
 ·simp only [aB, ge_iff_le] at hc;have hi : x.toNat < L.length := by omega
  obtain ⟨g1, g2⟩ := gO hc hi;have hw1 : i64.wrap (x - 1) = x - 1 := aG (by omega) (by omega);refine ⟨g1, L[x.toNat], by rw [g2]; rfl, ?_⟩;refine (u9 n f _ hl (hr _ (qp hi))).mono ?_;rintro _ rfl;refine ⟨_, rfl, ?_⟩;rw [hw1];refine aC (fun h0 => ?_) (fun h0 => ?_)
  ·simp only [beq_iff_eq] at h0;exact ⟨x, rfl, .inr ⟨x.toNat, by omega, hi, h0, fun j hj hlt => hx j hj (by omega)⟩⟩
  ·simp only [beq_iff_eq] at h0;refine ⟨rfl, ⟨⟨by omega, by omega⟩, fun j hj hlt => ?_⟩, by dsimp only; omega⟩;by_cases he : j = x.toNat
   ·subst he; exact h0
   ·exact hx j hj (by omega)
 ·simp only [aB, ge_iff_le] at hc;exact ⟨-1, rfl, .inl ⟨rfl, fun k hk => hx k hk (by omega)⟩⟩
theorem z05 (n f n2 f2 : Bool) (hl : rows.length < 1000000) (L : List Int) (hr : R32 L) (hL : L.length < 1000000000000) (h0 : 0 < L.length) (k : Int) {r : Int} (hx : -2147483648 <= r /\ r <= 2147483647) :
 PCall qa 126 [.sl n f (bA rows), .sl n2 f2 (aA L), .int .i64 k, .int .i32 r] fun v => v = .bool (decide (k = L.length - 1) || decide (dQ (aF rows 1) L < aF rows 1 r)) := by
 refine z0w _ _ _ _ _ _ _ _ ?_; unfold zn9;have hw : i64.wrap ((aA L).length - 1) = L.length - 1 := by rw [bF]; exact aG (by omega) (by omega)
 rw [hw];refine aC (fun hc => ?_) (fun hc => ?_)
 ·simp only [beq_iff_eq] at hc; simp [hc]
 ·simp only [beq_iff_eq] at hc;have hi : ((L.length : Int) - 1).toNat < L.length := by omega
  obtain ⟨g1, g2⟩ := gO (l := L) (i := (L.length : Int) - 1) (by omega) hi;refine ⟨g1, L[((L.length : Int) - 1).toNat], by rw [g2]; rfl, ?_⟩;refine (u9 n f _ hl (hr _ (qp hi))).mono ?_;rintro _ rfl;refine ⟨_, rfl, ?_⟩;refine (u9 n f _ hl hx).mono ?_;rintro _ rfl;refine ⟨_, rfl, ?_⟩
  have : dQ (aF rows 1) L = aF rows 1 L[((L.length : Int) - 1).toNat] := by
   unfold dQ;rw [qbe, qaa (by omega)];simp only;congr 2;omega
  rw [this]; simp [hc]
theorem z06 (hp : dI rows) (h1 : d9 rows) (hs0 : ∀ (d : List Int) a, (bN rows d).s = some a -> aF rows 1 a = 0) (n f n2 f2 : Bool) (hl : rows.length < 1000000) (L : List Int) (hr : R32 L) (hL : L.length < 1000000000000) :
 PCall qa 98 [.sl n f (bA rows), .sl n2 f2 (aA L)] fun x => ∃ n f, x = .sl n f (aA (eW rows L)) := by
 refine z0x _ _ _ _ _ _ (fun i _ s => (0 <= i /\ i <= L.length) /\ s = aA (bN rows (L.take i.toNat)).out) (fun i _ _ => L.length - i.toNat) ?_;unfold zoa;refine ⟨⟨rfl, ⟨qq _, by omega⟩, rfl⟩, ?_⟩;rintro i n0 _ ⟨⟨i0, i1⟩, rfl⟩;refine aC (fun hc => ?_) (fun hc => ?_)
 ·simp only [aB, bF] at hc;have hi : i.toNat < L.length := by omega
  obtain ⟨g1, g2⟩ := gO i0 hi;have hx := hr _ (qp hi);have hw : i64.wrap (i + 1) = i + 1 := aG (by omega) (by omega);rw [hw];have hlen := zcn rows (L.take i.toNat);have hrng := zco h1 (L.take i.toNat);have hnz := zl0 (rows := rows) (d := L.take i.toNat);have hnP := r9 (rows := rows) (d := L.take i.toNat);have hsk := hs0 (L.take i.toNat);rw [qe] at hlen;unfold eW at hlen hrng
  have next : ∀ st2, cN rows (bN rows (L.take i.toNat)) L[i.toNat] = st2 -> (0 <= i + 1 /\ i + 1 <= L.length) /\ aA st2.out = aA (bN rows (L.take (i + 1).toNat)).out := fun st2 he => by
   rw [show (i + 1).toNat = i.toNat + 1 by omega, cJ hi, gQ, he]; exact ⟨⟨by omega, by omega⟩, rfl⟩
  generalize bN rows (L.take i.toNat) = st at *;have hmu : L.length - (i + 1).toNat < L.length - i.toNat := by omega
  have hr2 : R32 st.out := fun y hy => by
   rcases hrng y hy with h | h
   ·exact hr y (qu h)
   ·omega
  have hsz : aR [[PV.int .i32 L[i.toNat]]] 1 /\ ((aA st.out).length + 1) * 4 <= 140737488355328 := ⟨dJ [_], by rw [bF]; omega⟩
  have app : cN rows st L[i.toNat] = cU (aF rows 1) st L[i.toNat] -> (0 <= i + 1 /\ i + 1 <= L.length) /\ aA st.out ++ [[PV.int .i32 L[i.toNat]]] = aA (bN rows (L.take (i + 1).toNat)).out := fun he => by
   obtain ⟨k1, k2⟩ := next _ he
   rw [mP, iI] at k2;exact ⟨k1, k2⟩
  refine (z04 n f n0 false hl st.out hr2 (by omega)).mono ?_;rintro _ ⟨x, rfl, hst⟩
  have hxs : x = dB st := by
   rcases z03 hnP hsk hnz with ⟨e, h⟩ | ⟨k, e, hk, h, h'⟩
   ·rcases hst with ⟨e2, _⟩ | ⟨k2, e2, hk2, q, _⟩
    ·omega
    ·exact absurd q (h k2 hk2)
   ·rcases hst with ⟨e2, q⟩ | ⟨k2, e2, hk2, q, q'⟩
    ·exact absurd h (q k hk)
    ·rcases Nat.lt_trichotomy k k2 with hlt | rfl | hlt
     ·exact absurd q (h' k2 hk2 hlt)
     ·omega
     ·exact absurd h (q' k hk hlt)
  clear hst;subst hxs;refine ⟨_, rfl, rfl, aC (fun hf => ?_) (fun hf => ?_)⟩
  ·simp only [aB, ge_iff_le] at hf;cases hs : st.s with
   | none => simp [dB, hs] at hf
   | some a =>
     have hsi : dB st = st.P.length := by simp [dB, hs]
     have hol : st.out.length = st.P.length + 1 + st.M.length := by simp [CSt.out, hs]; omega
     refine ⟨g1, L[i.toNat], by rw [g2]; rfl, ?_⟩;refine (z05 n f n0 false hl st.out hr2 (by omega) (by omega) (dB st) hx).mono ?_;rintro _ rfl
     have hfree : (decide (dB st = st.out.length - 1) || decide (dQ (aF rows 1) st.out < aF rows 1 L[i.toNat])) = true ↔ (st.M = [] ∨ dQ (aF rows 1) st.M < aF rows 1 L[i.toNat]) := by
      simp only [qk, aB];by_cases hM : st.M = []
      ·refine ⟨fun _ => .inl hM, fun _ => .inl ?_⟩;rw [hsi, hol, hM]; simp
      ·obtain ⟨D, m, hDm⟩ := (List.eq_nil_or_concat _).resolve_left hM
       have e : dQ (aF rows 1) st.out = dQ (aF rows 1) st.M := by
        have e2 : st.out = (st.P ++ a :: D) ++ [m] := by simp [CSt.out, hDm, hs]
        rw [e2, hDm, List.concat_eq_append, r8, r8]
       rw [e];refine or_congr ⟨fun h => ?_, fun h => absurd h hM⟩ Iff.rfl;rw [hsi, hol] at h;exact qv (by omega)
     refine ⟨_, rfl, rfl, aC (fun hfr => ?_) (fun hfr => ?_)⟩
     ·have hfr := hfree.1 hfr;have hat : st.out[st.P.length]'(by omega) = a := by simp [CSt.out, hs]
      obtain ⟨k1, k2⟩ := gO (l := st.out) (i := dB st) (by omega) (by omega);have hta : (dB st).toNat = st.P.length := by omega
      have k3 : (aA st.out).getD (dB st).toNat [] = [PV.int .i32 a] := by
       rw [k2]; simp only [hta, hat]
      have ha : -2147483648 <= a /\ a <= 2147483647 := hr2 a (by simp [CSt.out, hs]);refine ⟨k1, a, by rw [k3]; rfl, g1, L[i.toNat], by rw [g2]; rfl, ?_⟩;refine (z02 hp h1 n f hl ha hx).mono ?_;rintro _ rfl;cases hpc : fH rows a L[i.toNat] with
      | some c =>
        refine ⟨_, rfl, rfl, _, rfl, _, rfl, _, rfl, _, rfl, bB rfl ⟨k1, ⟨rfl, by rw [k3]; exact qj _⟩, rfl, ?_, by dsimp only; omega⟩⟩;rw [k3, hta]
        have he : cN rows st L[i.toNat] = ⟨st.P, some c, st.M⟩ := by
         unfold cN; rw [hs]; simp only; rw [if_pos hfr, hpc]
        have e2 : (aA st.out).set st.P.length [PV.int .i32 c] = aA (CSt.out ⟨st.P, some c, st.M⟩) := by
         simp [CSt.out, hs, aA]
        obtain ⟨q1, q2⟩ := next _ he
        exact ⟨q1, e2.trans q2⟩
      | none =>
        have he : cN rows st L[i.toNat] = cU (aF rows 1) st L[i.toNat] := by
         unfold cN; rw [hs]; simp only; rw [if_pos hfr, hpc]
        exact ⟨_, rfl, rfl, _, rfl, _, rfl, _, rfl, _, rfl, bK (by simp) ⟨g1, L[i.toNat], by rw [g2]; rfl, hsz, rfl, app he, by dsimp only; omega⟩⟩
     ·have hfr := fun h => hfr (hfree.2 h)
      have he : cN rows st L[i.toNat] = cU (aF rows 1) st L[i.toNat] := by
       unfold cN; rw [hs]; simp only; rw [if_neg hfr]
      exact ⟨g1, L[i.toNat], by rw [g2]; rfl, hsz, rfl, app he, by dsimp only; omega⟩
  ·simp only [aB, ge_iff_le] at hf
   have hs : st.s = none := by
    cases hs : st.s with
    | none => rfl
    | some a => exact absurd (by simp [dB, hs]) hf
   have he : cN rows st L[i.toNat] = cU (aF rows 1) st L[i.toNat] := by
    unfold cN; rw [hs]
   exact ⟨g1, L[i.toNat], by rw [g2]; rfl, hsz, rfl, app he, by dsimp only; omega⟩
 ·simp only [aB, bF] at hc;rw [qh (by omega)];exact ⟨_, _, rfl⟩
theorem zoc (hp : dI rows) (h1 : d9 rows) (hk : eU rows) (hs0 : ∀ (d : List Int) a, (bN rows d).s = some a -> aF rows 1 a = 0) (n f n2 f2 : Bool) (hl : rows.length < 1000000) (L : List Int) (hr : R32 L) (hL : L.length < 1000000) :
 PCall qa 64 [.sl n f (bA rows), .sl n2 f2 (aA L)] fun x => ∃ n f, x = .sl n f (aA (bW rows L)) := by
 refine z0y _ _ _ _ _ _ ?_; unfold zob;refine (zxg hp hk n f n2 f2 hl L hr hL).mono ?_;rintro _ ⟨n1, f1, rfl⟩;refine ⟨_, _, _, rfl, ?_⟩;refine (z06 hp h1 hs0 n f n1 f1 hl _ (zcg hk hp hr) (zlo hk hL)).mono ?_;rintro _ ⟨n3, f3, rfl⟩;exact ⟨_, _, _, rfl, _, _, rfl⟩
end
end Go.Eng
namespace Go.Eng.Rows
open Go Go.Eng Go.Eng.Trie Go.Eng.Srt
def z07 (rows : List Row) (a b : Int) : Bool := rows.all fun x => !decide (x.kind = 1) || (decide (x.to < a) || decide (b < x.fr))
theorem z08 {rows : List Row} {a b r : Int} (h : z07 rows a b = true) (h1 : a <= r) (h2 : r <= b) : aF rows 1 r = 0 := by
 unfold aF;cases hf : bR rows 1 r with
 | none => rfl
 | some p =>
   obtain ⟨x, hx, hk, _, _, f1, f2, _⟩ := iH hf;have := List.all_eq_true.1 h x hx;simp only [hk, decide_true, qav, qai, qk, aB] at this;omega
end Go.Eng.Rows
namespace Go.Eng
open Go Go.Proofs Go.Eng.Rows Go.Eng.Trie
theorem z09 : ∀ r, bV r = true -> aF tab 1 r = 0 := fun r hs => by
 simp only [bV, qb, aB] at hs;exact z08 (a := 44032) (b := 55203) (by kernel_rfl) hs.1 hs.2
theorem z1a : ∀ (d : List Int) a, (bN tab d).s = some a -> aF tab 1 a = 0 := z0r vL z09
end Go.Eng
namespace Go.Eng
open Go Go.Proofs Go.Eng.Rows Go.Eng.Trie Go.Eng.Srt
end Go.Eng
namespace Go.Eng
open Go Go.Proofs
def zd2 (n f : Bool) (es : LL) (n2 f2 : Bool) (ss : LL) (x17 : Int) : Env × Hp := ([(1, LV.pv (PV.sl n2 f2 ss)), (2, LV.pv (PV.fn 69 [])), (15, LV.pv (PV.sl n f es)), (16, LV.pv (PV.int i64 (es.length : Int))), (17, Y6 x17)], [])
section
variable (n f : Bool) (es : LL) (n2 f2 : Bool) (ss : LL) (J : Int -> Prop) (μ : Int -> Nat)
def zod (R : PV -> Prop) : Prop :=
 if ((↑es.length : Int) != (↑ss.length : Int)) = true then R (Zb false) else (aD (zd2 n f es n2 f2 ss (0 : Int)) /\ J (0 : Int)) /\ ∀ (x17 : Int), J x17 -> if decide (x17 < (↑es.length : Int)) = true then aH es x17 1 /\ ∃ n1 f1 es1, (es.getD x17.toNat []).head? = some (PV.sl n1 f1 es1) /\ aH ss x17 1 /\ ∃ n3 f3 es2, (ss.getD x17.toNat []).head? = some (PV.sl n3 f3 es2) /\ PCall qa 69 [PV.sl n1 f1 es1, PV.sl n3 f3 es2] fun v => ∃ b, v = Zb b /\ if (!b) = true then R (Zb false) else aD (zd2 n f es n2 f2 ss (i64.wrap (x17 + 1))) /\ J (i64.wrap (x17 + 1)) /\ μ (i64.wrap (x17 + 1)) < μ x17 else R (Zb true)
theorem z1b {R : PV -> Prop} (h : zod n f es n2 f2 ss J μ R) : PCall qa 71 [.sl n f es, .sl n2 f2 ss, .fn 69 []] R :=
 PCall.wz Tryz.func71 aM [0, 1, 2, 6, 7, 8, 9, 14, 15, 16, 17, 18, 30] (bU 4 (aZ g9 (zd2 n f es n2 f2 ss) J μ (fun e h => (((gI e 17), ()))) [] [1, 2, 15, 16, 17] [])) h
end
section
variable (n f : Bool) (es : LL) (tc tg tj tf tp : PV) (M S : List (PV × PV)) (n2 f2 : Bool) (ss : LL)
def zoe (R : PV -> Prop) : Prop :=
 (∃ ps, some (PV.ptr [tc, tg, tj, tf, tp, PV.mp M, PV.mp S]) = some (PV.ptr ps) /\ ∃ n1 f1 es1, some (PV.sl n2 f2 ss) = some (PV.sl n1 f1 es1) /\ PCall qa 60 [PV.ptr ps, PV.sl n1 f1 es1] fun v => ∃ n3 f3 es2, v = PV.sl n3 f3 es2 /\ PCall qa 69 [PV.sl n f es, PV.sl n3 f3 es2] fun v1 => ∃ b, v1 = Zb b /\ R (Zb b)) ∨ some (PV.ptr [tc, tg, tj, tf, tp, PV.mp M, PV.mp S]) = some PV.nilp /\ ∃ n1 f1 es1, some (PV.sl n2 f2 ss) = some (PV.sl n1 f1 es1) /\ PCall qa 60 [PV.nilp, PV.sl n1 f1 es1] fun v => ∃ n3 f3 es2, v = PV.sl n3 f3 es2 /\ PCall qa 69 [PV.sl n f es, PV.sl n3 f3 es2] fun v1 => ∃ b, v1 = Zb b /\ R (Zb b)
theorem z1c {R : PV -> Prop} (h : zoe n f es tc tg tj tf tp M S n2 f2 ss R) : PCall qa 75 [.sl n f es, .ptr [.ptr [tc, tg, tj, tf, tp, .mp M, .mp S]], .ptr [.sl n2 f2 ss]] R :=
 PCall.wz Tryz.func75 aM [0, 1, 2, 4] aX h
end
def zd3 (n f : Bool) (es : LL) (A B : PV) (x8 : Int) : Env × Hp := ([(0, LV.pv (PV.sl n f es)), (1, LV.pv (PV.fn 75 [PV.ptr [A], PV.ptr [B]])), (7, LV.pv (PV.int i64 (es.length : Int))), (8, Y6 x8)], [])
section
variable (n f : Bool) (es : LL) (A B : PV) (J : Int -> Prop) (μ : Int -> Nat)
def zof (R : PV -> Prop) : Prop :=
 (aD (zd3 n f es A B (0 : Int)) /\ J (0 : Int)) /\ ∀ (x8 : Int), J x8 -> if decide (x8 < (↑es.length : Int)) = true then aH es x8 1 /\ ∃ n1 f1 es1, (es.getD x8.toNat []).head? = some (PV.sl n1 f1 es1) /\ PCall qa 75 [PV.sl n1 f1 es1, PV.ptr [A], PV.ptr [B]] fun v => ∃ b, v = Zb b /\ if b = true then R (Z6 x8) else aD (zd3 n f es A B (i64.wrap (x8 + 1))) /\ J (i64.wrap (x8 + 1)) /\ μ (i64.wrap (x8 + 1)) < μ x8 else R (Z6 (-1 : Int))
theorem z1d {R : PV -> Prop} (h : zof n f es A B J μ R) : PCall qa 106 [.sl n f es, .fn 75 [.ptr [A], .ptr [B]]] R :=
 PCall.wz Tryz.func106 aM [0, 1, 4, 5, 7, 8, 9, 16] (bU 2 (aZ g9 (zd3 n f es A B) J μ (fun e h => (((gI e 8), ()))) [] [0, 1, 7, 8] [])) h
end
section
variable (n f : Bool) (es : LL) (A B : PV)
def zog (R : PV -> Prop) : Prop :=
 PCall qa 106 [PV.sl n f es, PV.fn 75 [PV.ptr [A], PV.ptr [B]]] fun v => ∃ n1, v = Z6 n1 /\ R (Zb (decide (n1 >= 0)))
theorem z1e {R : PV -> Prop} (h : zog n f es A B R) : PCall qa 74 [.sl n f es, .fn 75 [.ptr [A], .ptr [B]]] R :=
 PCall.wz Tryz.func74 aM [0, 1, 4] aX h
end
section
variable (tc tg tj tf tp : PV) (M S : List (PV × PV)) (n f : Bool) (es : LL)
def zoh (R : PV -> Prop) : Prop :=
 PCall qa 60 [PV.ptr [tc, tg, tj, tf, tp, PV.mp M, PV.mp S], PV.sl n f es] fun v => ∃ n1 f1 es1, v = PV.sl n1 f1 es1 /\ PCall qa 59 [PV.ptr [tc, tg, tj, tf, tp, PV.mp M, PV.mp S], PV.sl n1 f1 es1] fun v1 => ∃ n2 f2 es2, v1 = PV.sl n2 f2 es2 /\ R (PV.sl n2 f2 es2)
theorem z1f {R : PV -> Prop} (h : zoh tc tg tj tf tp M S n f es R) : PCall qa 68 [.ptr [tc, tg, tj, tf, tp, .mp M, .mp S], .sl n f es] R :=
 PCall.wz Tryz.func68 aM [0, 1, 4] aX h
end
section
variable (tc tg tj tf tp : PV) (M S : List (PV × PV)) (n f : Bool) (es : LL) (n2 f2 : Bool) (ss : LL)
def zoi (R : PV -> Prop) : Prop :=
 PCall qa 68 [PV.ptr [tc, tg, tj, tf, tp, PV.mp M, PV.mp S], PV.sl n f es] fun v => ∃ n1 f1 es1, v = PV.sl n1 f1 es1 /\ PCall qa 68 [PV.ptr [tc, tg, tj, tf, tp, PV.mp M, PV.mp S], PV.sl n2 f2 ss] fun v1 => ∃ n3 f3 es2, v1 = PV.sl n3 f3 es2 /\ if decide ((↑es1.length : Int) >= (↑es2.length : Int)) = true then (cZ es1.length none (some (↑es2.length : Int)) none /\ aR es1 1) /\ PCall qa 71 [PV.sl n1 (f1 && decide ((↑es2.length : Int) = (↑es1.length : Int))) (qf 0 (qo (↑es2.length : Int).toNat es1)), PV.sl n3 f3 es2, PV.fn 69 []] fun v2 => ∃ b, v2 = Zb b /\ R (Zb b) else R (Zb false)
theorem z1g {R : PV -> Prop} (h : zoi tc tg tj tf tp M S n f es n2 f2 ss R) : PCall qa 27 [.ptr [tc, tg, tj, tf, tp, .mp M, .mp S], .sl n f es, .sl n2 f2 ss] R :=
 PCall.wz Tryz.func27 aM [0, 1, 2, 6, 7, 8] aX h
end
def zd4 (tc tg tj tf tp : PV) (M S : List (PV × PV)) (n f : Bool) (es : LL) (n5 f5 : Bool) (s5 : LL) (x21 : Int) : Env × Hp := ([(0, LV.pv (PV.ptr [tc, tg, tj, tf, tp, PV.mp M, PV.mp S])), (5, .pv (.sl n5 f5 s5)), (19, LV.pv (PV.sl n (f && decide ((es.length : Int) = (es.length : Int))) (qf 1 (qo ((es.length : Int)).toNat es)))), (20, LV.pv (PV.int i64 ↑(qf 1 (qo ((es.length : Int)).toNat es)).length)), (21, Y6 x21)], [])
def zd5 (tc tg tj tf tp : PV) (M S : List (PV × PV)) (n f : Bool) (es : LL) (n5 f5 : Bool) (s5 : LL) (n8 f8 : Bool) (s8 : LL) (x9 x21 : Int) : Env × Hp := ([(0, LV.pv (PV.ptr [tc, tg, tj, tf, tp, PV.mp M, PV.mp S])), (5, .pv (.sl n5 f5 s5)), (8, .pv (.sl n8 f8 s8)), (9, Y6 x9), (19, LV.pv (PV.sl n (f && decide ((es.length : Int) = (es.length : Int))) (qf 1 (qo ((es.length : Int)).toNat es)))), (20, LV.pv (PV.int i64 ↑(qf 1 (qo ((es.length : Int)).toNat es)).length)), (21, Y6 x21)], [])
section
variable (tc tg tj tf tp : PV) (M S : List (PV × PV)) (n f : Bool) (es : LL) (J : Bool -> Bool -> LL -> Int -> Prop) (μ : Bool -> Bool -> LL -> Int -> Nat) (J2 : Bool -> Bool -> LL -> Bool -> Bool -> LL -> Int -> Int -> Bool -> Bool -> LL -> Bool -> Bool -> LL -> Int -> Int -> Prop) (μ2 : Bool -> Bool -> LL -> Bool -> Bool -> LL -> Int -> Int -> Nat)
def zoj (R : PV -> Prop) : Prop :=
 if ((↑es.length : Int) == 0) = true then R (PV.sl true true []) else aH es (0 : Int) 1 /\ ∃ n1 f1 es1, (es.getD 0 []).head? = some (PV.sl n1 f1 es1) /\ PCall qa 68 [PV.ptr [tc, tg, tj, tf, tp, PV.mp
  M, PV.mp S], PV.sl n1 f1 es1] fun v => ∃ n2 f2 es2, v = PV.sl n2 f2 es2 /\ (cZ es.length (some (1 : Int)) none none /\ aR es 1) /\ (aD (zd4 tc tg tj tf tp M S n f es n2 f2 es2 (0 : Int)) /\ J n2
  f2 es2 (0 : Int)) /\ ∀ (n5 f5 : Bool) (s5 : LL) (x21 : Int), J n5 f5 s5 x21 -> if decide (x21 < (↑(qf 1 (qo (↑es.length : Int).toNat es)).length : Int)) = true then aH (qf 1 (qo (↑es.length : Int).toNat es))
  x21 1 /\ ∃ n3 f3 es3, ((qf 1 (qo (↑es.length : Int).toNat es)).getD x21.toNat []).head? = some (PV.sl n3 f3 es3) /\ PCall qa 68 [PV.ptr [tc, tg, tj, tf, tp, PV.mp M, PV.mp S], PV.sl n3 f3
  es3] fun v1 => ∃ n4 f4 es4, v1 = PV.sl n4 f4 es4 /\ (aD (zd5 tc tg tj tf tp M S n f es n5 f5 s5 n4 f4 es4 (0 : Int) x21) /\ J2 n5 f5 s5 n4 f4 es4 (0 : Int) x21 n5 f5 s5 n4 f4 es4 (0 : Int) x21) /\ ∀
  (n51 f51 : Bool) (s51 : LL) (n8 f8 : Bool) (s8 : LL) (x9 x211 : Int), J2 n5 f5 s5 n4 f4 es4 (0 : Int) x21 n51 f51 s51 n8 f8 s8 x9 x211 ->
 let V1 := (cZ s51.length none (some x9) none /\ aR s51 1) /\ aD (zd4 tc tg tj tf tp M S n f es n51 (f51 && decide (x9 = (↑s51.length : Int))) (qf 0 (qo x9.toNat s51)) (i64.wrap (x211 + 1))) /\ J n51 (f51 &&
  decide (x9 = (↑s51.length : Int))) (qf 0 (qo x9.toNat s51)) (i64.wrap (x211 + 1)) /\ μ n51 (f51 && decide (x9 = (↑s51.length : Int))) (qf 0 (qo x9.toNat s51)) (i64.wrap (x211 + 1)) < μ n5 f5 s5
  x21; if (decide (x9 < (↑s51.length : Int)) && decide (x9 < (↑s8.length : Int))) = true then aH s51 x9 1 /\ ∃ n6 f6 es5, (s51.getD x9.toNat []).head? = some (PV.sl n6 f6 es5) /\ aH s8 x9 1 /\ ∃ (n7 :
  Bool), ∃ f7 es6, (s8.getD x9.toNat []).head? = some (PV.sl n7 f7 es6) /\ PCall qa 69 [PV.sl n6 f6 es5, PV.sl n7 f7 es6] fun v2 => ∃ b, v2 = Zb b /\ if b = true then aD (zd5 tc tg tj tf tp M S n
  f es n51 f51 s51 n8 f8 s8 (i64.wrap (x9 + 1)) x211) /\ J2 n5 f5 s5 n4 f4 es4 (0 : Int) x21 n51 f51 s51 n8 f8 s8 (i64.wrap (x9 + 1)) x211 /\ μ2 n51 f51 s51 n8 f8 s8 (i64.wrap (x9 + 1)) x211 < μ2 n51 f51 s51 n8 f8 s8
  x9 x211 else V1 else V1 else PCall qa 70 [PV.sl n5 f5 s5] fun v1 => ∃ n3 f3 es3, v1 = PV.sl n3 f3 es3 /\ R (PV.sl n3 f3 es3)
theorem z1h {R : PV -> Prop} (h : zoj tc tg tj tf tp M S n f es J μ J2 μ2 R) : PCall qa 26 [.ptr [tc, tg, tj, tf, tp, .mp M, .mp S], .sl n f es] R :=
 PCall.wz Tryz.func26 aM [0, 1, 4, 5, 7, 8, 9, 12, 19, 20, 21, 22, 48] (fX [(5, (aZ hE (zd4 tc tg tj tf tp M S n f es) J μ (fun e h => (gN e 5, gF e 5, gS e 5, gI e 21)) [] [0, 5, 19, 20, 21] [])), (9, (fY cz8 (zd5 tc tg tj tf tp M S n f es) J2 μ2 (fun e h => (gN e 5, gF e 5, gS e 5, gN e 8, gF e 8, gS e 8, gI e 9, gI e 21)) [] [0, 5, 8, 9, 19, 20, 21] []))]) h
end
def sJ (tc tg tj tf tp : PV) (M S : List (PV × PV)) (k : Int) (n2 f2 : Bool) (ss : LL) (n13 f13 : Bool) (s13 : LL) (x63 h2_0 : Int) (n_3 : Bool) (s_3 : LL) : Env × Hp := ([(4, LV.box 0 0), (8, LV.box 1 0), (13, .pv (.sl n13 f13 s13)), (14, LV.box 2 0), (61, LV.pv (PV.sl n2 f2 ss)), (62, LV.pv (PV.int i64 (ss.length : Int))), (63, Y6 x63)], [.box [LV.pv (PV.ptr [tc, tg, tj, tf, tp, PV.mp M, PV.mp S])], .box [Y6 0, Y6 0, LV.pv (PV.sl true true []), LV.pv (PV.sl true true [])], .box [Y6 h2_0, Y6 k, LV.pv (PV.sl true true []), LV.own 3], .sl (22, 1) true n_3 s_3])
section
variable (tc tg tj tf tp : PV) (M S : List (PV × PV)) (n f : Bool) (es : LL) (k : Int) (n2 f2 : Bool) (ss : LL) (J : Bool -> Bool -> LL -> Int -> Int -> Bool -> LL -> Prop) (μ : Bool -> Bool -> LL -> Int -> Int -> Bool -> LL -> Nat)
def zok (R : PV -> Prop) : Prop :=
 if (decide (k < 0) || decide (k > (↑es.length : Int))) = true then R (PV.tup [PV.agg [Z6 0, Z6 0, PV.sl true true [], PV.sl true true []], Zb false]) else (cZ es.length none (some k) none /\ aR es 1) /\ PCall qa 73 [PV.ptr [tc,
  tg, tj, tf, tp, PV.mp M, PV.mp S], PV.sl n (f && decide (k = (↑es.length : Int))) (qf 0 (qo k.toNat es))] fun v => ∃ n1 f1 es1, v = PV.sl n1 f1 es1 /\
 let V1 := (cZ es.length (some k) (some k) none /\ aR es 1) /\ (aD (sJ tc tg tj tf tp M S k n2 f2 ss n (f && decide (k = (↑es.length : Int))) (qf k.toNat (qo k.toNat es)) (0 : Int) k true []) /\ J n (f && decide (k =
  (↑es.length : Int))) (qf k.toNat (qo k.toNat es)) (0 : Int) k true []) /\ ∀ (n13 f13 : Bool) (s13 : LL) (x63 h2_0 : Int) (n_3 : Bool) (s_3 : LL), J n13 f13 s13 x63 h2_0 n_3 s_3 ->
 let K11 := fun (y0_ y1_ : Bool) (y2_ : LL) (y3_ y4_ : Int) (y5_ : Bool) (y6_ : LL) => aD (sJ tc tg tj tf tp M S k n2 f2 ss y0_ y1_ y2_ y3_ y4_ y5_ y6_) /\ J y0_ y1_ y2_ y3_ y4_ y5_ y6_ /\ μ y0_ y1_ y2_ y3_ y4_ y5_ y6_
  < μ n13 f13 s13 x63 h2_0 n_3 s_3; if decide (x63 < (↑ss.length : Int)) = true then aH ss x63 1 /\ ∃ n4 f3 es2, (ss.getD x63.toNat []).head? = some (PV.sl n4 f3 es2) /\ PCall qa 27 [PV.ptr [tc, tg,
  tj, tf, tp, PV.mp M, PV.mp S], PV.sl n4 f3 es2, PV.sl n13 f13 s13] fun v1 => ∃ b, v1 = Zb b /\
 let V2 := K11 n13 f13 s13 (i64.wrap (x63 + 1)) h2_0 n_3 s_3; if b = true then PCall qa 74 [PV.sl n_3 false s_3, PV.fn 75 [PV.ptr [PV.ptr [tc, tg, tj, tf, tp, PV.mp M, PV.mp S]], PV.ptr [PV.sl n4 f3 es2]]] fun v2 => ∃
  (b1 : Bool), v2 = Zb b1 /\ true = true /\ if (!b1) = true then PCall qa 60 [PV.ptr [tc, tg, tj, tf, tp, PV.mp M, PV.mp S], PV.sl n4 f3 es2] fun v3 => ∃ n5 f4 es3, v3 = PV.sl n5 f4 es3 /\ (aR
  [[PV.sl n5 f4 es3]] 1 /\ (s_3.length + 1) * 24 <= 140737488355328) /\ K11 n13 f13 s13 (i64.wrap (x63 + 1)) h2_0 (n_3 && false) (s_3 ++ [[PV.sl n5 f4 es3]]) else V2 else V2 else if ((↑s_3.length : Int) == 0) = true then R (PV.tup
  [PV.agg [Z6 0, Z6 0, PV.sl true true [], PV.sl true true []], Zb false]) else PCall qa 26 [PV.ptr [tc, tg, tj, tf, tp, PV.mp M, PV.mp S], PV.sl n_3 false s_3] fun v1 => ∃ n4 f3 es2, v1 = PV.sl
  n4 f3 es2 /\ R (PV.tup [PV.agg [Z6 h2_0, Z6 k, PV.sl n4 f3 es2, PV.sl n_3 false s_3], Zb true]); if decide ((↑es1.length : Int) > 0) = true then aH es1 (i64.wrap ((↑es1.length : Int) - 1)) 2 /\ ((0 : Int) <= 1 /\ (1 : Int) < (↑2 :
  Int)) /\ ∃ n3, (qf 1 (es1.getD (i64.wrap ((↑es1.length : Int) - 1)).toNat [])).head? = some (Z6 n3) /\ if (n3 == k) = true then aH es1 (i64.wrap ((↑es1.length : Int) - 1)) 2 /\ ((0 : Int) <= 0 /\ (0 : Int) <
  (↑2 : Int)) /\ ∃ n4, (qf 0 (es1.getD (i64.wrap ((↑es1.length : Int) - 1)).toNat [])).head? = some (Z6 n4) /\ (cZ es.length (some n4) (some k) none /\ aR es 1) /\ (aD (sJ tc tg tj tf tp M S k n2 f2 ss n (f &&
  decide (k = (↑es.length : Int))) (qf n4.toNat (qo k.toNat es)) (0 : Int) n4 true []) /\ J n (f && decide (k = (↑es.length : Int))) (qf n4.toNat (qo k.toNat es)) (0 : Int) n4 true []) /\ ∀ (n13 f13 : Bool) (s13 :
  LL) (x63 h2_0 : Int) (n_3 : Bool) (s_3 : LL), J n13 f13 s13 x63 h2_0 n_3 s_3 ->
 let K11 := fun (y0_ y1_ : Bool) (y2_ : LL) (y3_ y4_ : Int) (y5_ : Bool) (y6_ : LL) => aD (sJ tc tg tj tf tp M S k n2 f2 ss y0_ y1_ y2_ y3_ y4_ y5_ y6_) /\ J y0_ y1_ y2_ y3_ y4_ y5_ y6_ /\ μ y0_ y1_ y2_ y3_ y4_ y5_ y6_
  < μ n13 f13 s13 x63 h2_0 n_3 s_3; if decide (x63 < (↑ss.length : Int)) = true then aH ss x63 1 /\ ∃ n5 f3 es2, (ss.getD x63.toNat []).head? = some (PV.sl n5 f3 es2) /\ PCall qa 27 [PV.ptr [tc, tg,
  tj, tf, tp, PV.mp M, PV.mp S], PV.sl n5 f3 es2, PV.sl n13 f13 s13] fun v1 => ∃ b, v1 = Zb b /\
 let V3 := K11 n13 f13 s13 (i64.wrap (x63 + 1)) h2_0 n_3 s_3; if b = true then PCall qa 74 [PV.sl n_3 false s_3, PV.fn 75 [PV.ptr [PV.ptr [tc, tg, tj, tf, tp, PV.mp M, PV.mp S]], PV.ptr [PV.sl n5 f3 es2]]] fun v2 => ∃
  (b1 : Bool), v2 = Zb b1 /\ true = true /\ if (!b1) = true then PCall qa 60 [PV.ptr [tc, tg, tj, tf, tp, PV.mp M, PV.mp S], PV.sl n5 f3 es2] fun v3 => ∃ n6 f4 es3, v3 = PV.sl n6 f4 es3 /\ (aR
  [[PV.sl n6 f4 es3]] 1 /\ (s_3.length + 1) * (24 : Nat) <= 140737488355328) /\ K11 n13 f13 s13 (i64.wrap (x63 + 1)) h2_0 (n_3 && false) (s_3 ++ [[PV.sl n6 f4 es3]]) else V3 else V3 else if ((↑s_3.length : Int) == 0) = true then R
  (PV.tup [PV.agg [Z6 0, Z6 0, PV.sl true true [], PV.sl true true []], Zb false]) else PCall qa 26 [PV.ptr [tc, tg, tj, tf, tp, PV.mp M, PV.mp S], PV.sl n_3 false s_3] fun v1 => ∃ n5 f3 es2, v1
  = PV.sl n5 f3 es2 /\ R (PV.tup [PV.agg [Z6 h2_0, Z6 k, PV.sl n5 f3 es2, PV.sl n_3 false s_3], Zb true]) else V1 else V1
theorem z1i {R : PV -> Prop} (h : zok tc tg tj tf tp M S n f es k n2 f2 ss J μ R) : PCall qa 31 [.ptr [tc, tg, tj, tf, tp, .mp M, .mp S], .sl n f es, .int .i64 k, .sl n2 f2 ss] R :=
 PCall.wz Tryz.func31 aM [0, 1, 2, 3, 4, 8, 9, 10, 11, 12, 13, 14, 16, 24, 46, 61, 62, 63, 64, 77, 90] (bU 11 (aZ lE (sJ tc tg tj tf tp M S k n2 f2 ss) J μ (fun e h => (gN e 13, gF e 13, gS e 13, gI e 63, hI h 2 0, oN h 3, oS h 3)) [(1002003, 22, 1)] [4, 8, 13, 14, 61, 62, 63] [])) h
end
end Go.Eng
namespace Go.Eng
open Go Go.Proofs Go.Eng.Rows Go.Eng.Trie Go.Eng.Srt
abbrev TxQ := List (Bool × Bool × List Int)
def aI (A : TxQ) : List (List Int) := A.map fun q => q.2.2
theorem bG (A : TxQ) : (aI A).length = A.length := qc _
theorem jN {A : TxQ} {i : Nat} (h : i < A.length) : (aI A).getD i [] = A[i].2.2 := by simp [aI, qal, h]
theorem zol (A : TxQ) (k : Nat) : aI (A.take k) = (aI A).take k := qcf
theorem lS (q : Bool × Bool × List Int) : (slE q).length = 1 := rfl
theorem sK {A : TxQ} {i : Int} (h0 : 0 <= i) (h : i.toNat < A.length) : aH (A.map slE) i 1 /\ (A.map slE).getD i.toNat [] = slE A[i.toNat] := ⟨bQ lS h0 (by omega), cD h⟩
theorem wG {A B : TxQ} {i : Nat} (hA : i < A.length) (hB : i < B.length) (h : (aI A).take i = (aI B).take i) (e : A[i].2.2 = B[i].2.2) : (aI A).take (i + 1) = (aI B).take (i + 1) := by
 have hA' : i < (aI A).length := by rw [bG]; exact hA
 have hB' : i < (aI B).length := by rw [bG]; exact hB
 rw [cJ hA', cJ hB', h];congr 2;simp only [aI, List.getElem_map]; exact e
theorem zom {A B : TxQ} {i : Nat} (hA : i < A.length) (hB : i < B.length) (e : A[i].2.2 ≠ B[i].2.2) : aI A ≠ aI B := fun h => e (by rw [<- jN hA, <- jN hB, h])
def tsm (A : TxQ) : Nat := (aI A).flatten.length
theorem z1j (A : TxQ) : fI A = tsm A := by
 unfold fI tsm aI;rw [List.length_flatten, List.map_map]; rfl
theorem z1k (A : TxQ) : A.flatMap (fun p => p.2.2) = (aI A).flatten := by
 unfold aI; rw [List.flatMap_def]
theorem zon (A : TxQ) (k : Nat) : qf 0 (qo k (A.map slE)) = (A.take k).map slE := by rw [List.drop_zero, qcf]
theorem z1l (n f n2 f2 : Bool) (A B : TxQ) (hA : ∀ q ∈ A, q.2.2.length < 1000000000000) (hl : A.length < 1000000000000) :
 PCall qa 71 [.sl n f (A.map slE), .sl n2 f2 (B.map slE), .fn 69 []] fun x => x = .bool (decide (aI A = aI B)) := by
 refine z1b _ _ _ _ _ _ (fun i => (0 <= i /\ i <= A.length) /\ (aI A).take i.toNat = (aI B).take i.toNat) (fun i => A.length - i.toNat) ?_;unfold zod;have ha : ((A.map slE).length : Int) = A.length := by rw [qc]
 have hb : ((B.map slE).length : Int) = B.length := by rw [qc]
 rw [ha, hb];refine aC (fun hc => ?_) (fun hc => ?_)
 ·simp only [bne_iff_ne, ne_eq] at hc;have : aI A ≠ aI B := fun e => hc (by rw [<- bG, <- bG, e]);simp [this]
 ·simp only [bne_iff_ne, ne_eq, qm] at hc;refine ⟨⟨rfl, ⟨qq _, by omega⟩, rfl⟩, ?_⟩;rintro i ⟨⟨i0, i1⟩, he⟩;refine aC (fun h => ?_) (fun h => ?_)
  ·simp only [aB] at h;have hi : i.toNat < A.length := by omega
   have hj : i.toNat < B.length := by omega
   obtain ⟨g1, g2⟩ := sK i0 hi;obtain ⟨k1, k2⟩ := sK i0 hj;refine ⟨g1, _, _, _, by rw [g2]; rfl, k1, _, _, _, by rw [k2]; rfl, ?_⟩;refine (zci _ _ _ _ _ _ (hA _ (qp hi))).mono ?_;rintro _ rfl;refine ⟨_, rfl, aC (fun hx => ?_) (fun hx => ?_)⟩
   ·simp only [qi, bS] at hx;simp [zom hi hj hx]
   ·simp only [qi, bS, qm] at hx;rw [aG (by omega) (by omega)];exact ⟨rfl, ⟨⟨by omega, by omega⟩, by rw [show (i + 1).toNat = i.toNat + 1 by omega]; exact wG hi hj he hx⟩, by dsimp only; omega⟩
  ·simp only [aB] at h;rw [qh (by rw [bG]; omega), qh (by rw [bG]; omega)] at he;simp [he]
section
variable {rows : List Row} {v : PV}
structure lT (rows : List Row) : Prop where
 s : dY rows
 p : dI rows
 o : d9 rows
 k : eU rows
 c : TabC rows
 w : kH rows
theorem wH (L : List Int) : (cC rows L).flatten = bW rows L := by unfold cC; rw [sB]
theorem pR (hk : eU rows) (L : List Int) : (cC rows L).length <= 768 * L.length := qbp (zyw rows _) (mQ hk L)
theorem zd6 (hk : eU rows) {L c : List Int} (h : c ∈ cC rows L) : c.length <= 768 * L.length := qbp (zyx h) (mQ hk L)
theorem qCl (ht : lT rows) (hv : c8 rows v) (n f : Bool) (L : List Int) (hr : R32 L) (hL : L.length < 100000) :
 PCall qa 68 [v, .sl n f (aA L)] fun x => ∃ (n f : Bool) (Q : TxQ), x = .sl n f (Q.map slE) /\ aI Q = cC rows L := by
 have c1 := zct ht.p ht.o ht.k hv n f L hr (by omega);have hnl := mQ ht.k L;have c2 := fun n f => zy0 ht.s hv n f (bW rows L) (sA ht.p ht.o ht.k hr) (by omega);obtain ⟨tc, tg, tj, tf, tp, made, sec, rfl, ht', hm⟩ := hv;refine z1f _ _ _ _ _ _ _ _ _ _ ?_; unfold zoh;refine c1.mono ?_;rintro _ ⟨n1, f1, rfl⟩;refine ⟨_, _, _, rfl, (c2 n1 f1).mono ?_⟩;rintro _ ⟨n2, Q, rfl, hQ⟩;exact ⟨_, _, _, rfl, _, _, Q, rfl, hQ⟩
theorem zoo {Q : TxQ} {C : List (List Int)} (h : aI Q = C) {m : Nat} (hm : ∀ c ∈ C, c.length <= m) : ∀ q ∈ Q, q.2.2.length <= m := fun q hq => hm _ (by rw [<- h]; exact List.mem_map.2 ⟨q, hq, rfl⟩)
theorem zd7 (ht : lT rows) (hv : c8 rows v) (n f n2 f2 : Bool) (a b : List Int) (ra : R32 a) (rb : R32 b) (la : a.length < 100000) (lb : b.length < 100000) :
 PCall qa 27 [v, .sl n f (aA a), .sl n2 f2 (aA b)] fun x => x = .bool (d0 rows a b) := by
 have c1 := qCl ht hv n f a ra la;have c2 := qCl ht hv n2 f2 b rb lb;have ha := pR ht.k a;have hb := pR ht.k b;have hm := fun c (h : c ∈ cC rows a) => zd6 ht.k h;obtain ⟨tc, tg, tj, tf, tp, made, sec, rfl, ht', hm'⟩ := hv;refine z1g _ _ _ _ _ _ _ _ _ _ _ _ _ ?_; unfold zoi;refine c1.mono ?_;rintro _ ⟨n3, f3, A, rfl, hA⟩;refine ⟨_, _, _, rfl, c2.mono ?_⟩;rintro _ ⟨n4, f4, B, rfl, hB⟩;refine ⟨_, _, _, rfl, ?_⟩;have hAl : A.length = (cC rows a).length := by rw [<- hA, bG]
 have hBl : B.length = (cC rows b).length := by rw [<- hB, bG]
 have hAm := zoo hA hm;refine aC (fun h => ?_) (fun h => ?_)
 ·simp only [qc, aB, ge_iff_le] at h;refine ⟨⟨wD (by omega) (by rw [qc, qc]; omega), iA lS A⟩, ?_⟩;rw [show ((B.map slE).length : Int).toNat = B.length by rw [qg, qc], zon];refine (z1l _ _ _ _ _ _ (fun q hq => by have := hAm q (qu hq); omega) (by rw [qe]; omega)).mono ?_;rintro _ rfl;refine ⟨_, rfl, ?_⟩;rw [zol, hA, hB, hBl]; rfl
 ·simp only [qc, aB, ge_iff_le] at h;unfold d0;rw [decide_eq_false];intro e;have := congrArg qbi e;rw [qe] at this; omega
def TsOK (m : Nat) (T : List (List Int)) : Prop := ∀ t ∈ T, R32 t /\ t.length <= m
theorem TsOK.get {m : Nat} {A : TxQ} (h : TsOK m (aI A)) {i : Nat} (hi : i < A.length) : R32 A[i].2.2 /\ A[i].2.2.length <= m := h _ (List.mem_map.2 ⟨_, qp hi, rfl⟩)
theorem z1m {A B : List (List Int)} : ∀ {n : Nat}, A.take n = B.take n -> n <= A.length -> n <= B.length -> (A.length <= n ∨ B.length <= n ∨ A.getD n [] ≠ B.getD n []) -> d6 A B = A.take n := by
 intro n h1 h2 h3 h4;have hp : A.take n <+: d6 A B := zdb (qbg _ _) (by rw [h1]; exact qbg _ _);have ha := zc9 A B;have hb := zda A B
 have hl : (d6 A B).length <= n := by
  apply qae;intro hgt
  have g2 : (d6 A B)[n]? = A[n]? := by
   obtain ⟨u, hu⟩ := ha;have e : A[n]? = (d6 A B ++ u)[n]? := by rw [hu]
   rw [e, qaf (by omega)]
  have g3 : (d6 A B)[n]? = B[n]? := by
   obtain ⟨u, hu⟩ := hb;have e : B[n]? = (d6 A B ++ u)[n]? := by rw [hu]
   rw [e, qaf (by omega)]
  have hla := ha.length_le;have hlb := hb.length_le;rcases h4 with h4 | h4 | h4
  ·omega
  ·omega
  ·exact h4 (by rw [qt, qt, <- g2, <- g3])
 exact (hp.eq_of_length_le (by rw [qe]; omega)).symm
theorem z1n (t : List Int) (T : List (List Int)) (s : List Int) : bL rows (t :: (T ++ [s])) = d6 (bL rows (t :: T)) (cC rows s) := by
 show oC (cC rows t) ((T ++ [s]).map (cC rows)) = d6 (oC (cC rows t) (T.map (cC rows))) (cC rows s);unfold oC;rw [qn, qbb]; rfl
theorem z1o {T : List (List Int)} {i : Nat} (h : i + 1 < T.length) : bL rows (T.take (i + 1 + 1)) = d6 (bL rows (T.take (i + 1))) (cC rows (T.getD (i + 1) [])) := by
 cases T with
 | nil => simp at h
 | cons t T =>
   have hi : i < T.length := by simpa using h
   show bL rows (t :: T.take (i + 1)) = d6 (bL rows (t :: T.take i)) _;rw [cJ hi, z1n];simp [qal, hi]
theorem wI (hk : eU rows) {m : Nat} {T : List (List Int)} (hT : TsOK m T) : (bL rows T).flatten.length <= 768 * m /\ (bL rows T).length <= 768 * m := by
 cases T with
 | nil => simp [bL]
 | cons t T =>
   have hm := (hT t qr).2;have h1 : bL rows (t :: T) <+: cC rows t := mT qr;have h2 := pR hk t;have h3 := mQ hk t;have h4 := h1.length_le;rw [<- wH] at h3;obtain ⟨u, hu⟩ := h1;rw [<- hu, qaz, ql] at h3;omega
theorem zop (ht : lT rows) (hv : c8 rows v) (n f : Bool) (A : TxQ) {m : Nat} (hA : TsOK m (aI A)) (hm : m < 100000) (hl : A.length < 1000000) :
 PCall qa 26 [v, .sl n f (A.map slE)] fun x => ∃ n f, x = .sl n f (aA (bL rows (aI A)).flatten) := by
 have c1 := fun n f L hr hL => qCl ht hv n f L hr hL;obtain ⟨tc, tg, tj, tf, tp, made, sec, rfl, ht', hm'⟩ := hv
 refine z1h _ _ _ _ _ _ _ _ _ _
  (fun _ _ s x => ∃ (i : Nat) (Q : TxQ), x = i /\ i + 1 <= A.length /\ s = Q.map slE /\ aI Q = bL rows ((aI A).take (i + 1))) (fun _ _ _ x => A.length - x.toNat)
  (fun _ _ _ _ _ _ _ x0 _ _ s _ _ s8 k x => ∃ (i : Nat) (Q B : TxQ) (j : Nat), x = x0 /\ x = i /\ k = j /\ i + 1 < A.length /\ s = Q.map slE /\ aI Q = bL rows ((aI A).take (i + 1)) /\ s8 = B.map slE /\ aI B = cC rows ((aI A).getD (i + 1) []) /\ j <= Q.length /\ j <= B.length /\ (aI Q).take j = (aI B).take j)
  (fun _ _ s _ _ _ k _ => s.length - k.toNat) ?_
 unfold zoj;refine aC (fun h => ?_) (fun h => ?_)
 ·simp only [beq_iff_eq, qc] at h;have : A = [] := qv (by omega);subst this;exact ⟨_, _, rfl⟩
 ·simp only [beq_iff_eq, qc] at h;obtain ⟨q0, A', rfl⟩ : ∃ q A', A = q :: A' := by cases A with | nil => simp at h | cons q A' => exact ⟨q, A', rfl⟩
  simp only [qd] at hl;have hq0 := hA.get (i := 0) (by simp);obtain ⟨g1, g2⟩ := sK (A := q0 :: A') (i := 0) (by omega) (by simp);refine ⟨g1, q0.1, q0.2.1, aA q0.2.2, rfl, ?_⟩;refine (c1 _ _ q0.2.2 hq0.1 (by have := hq0.2; simp only [qbk] at this; omega)).mono ?_;rintro _ ⟨n2, f2, Q, rfl, hQ⟩;refine ⟨_, _, _, rfl, ⟨z0i (by omega) (by rw [qc, qd]; omega), iA lS _⟩, ⟨rfl, 0, Q, rfl, by simp, rfl, hQ⟩, ?_⟩;rintro n5 f5 _ _ ⟨i, Q, rfl, i1, rfl, hQ⟩
  have hrest : qf 1 (qo (((q0 :: A').length : Int)).toNat (qcg slE (q0 :: A'))) = A'.map slE := by
   rw [qg, qh (by rw [qc]; exact qj _)]; rfl
  have hrest2 : qf 1 (qo (((qcg slE (q0 :: A')).length : Int)).toNat (qcg slE (q0 :: A'))) = A'.map slE := by
   rw [qg, qh (qj _)]; rfl
  simp only [hrest, hrest2];rw [show ((A'.map slE).length : Int) = A'.length by rw [qc]];simp only [qd] at i1;refine aC (fun hc => ?_) (fun hc => ?_)
  ·simp only [aB] at hc;have hi : i < A'.length := by omega
   have g1 : aH (A'.map slE) (i : Int) 1 := bQ lS (by omega) (by omega);have g2 : (A'.map slE).getD i [] = slE A'[i] := cD hi;have hqi := hA.get (i := i + 1) (by simp; omega);simp only [List.getElem_cons_succ] at hqi;have hgd : (aI (q0 :: A')).getD (i + 1) [] = A'[i].2.2 := by rw [jN (by simp; omega)]; rfl
   refine ⟨g1, A'[i].1, A'[i].2.1, aA A'[i].2.2, by rw [qg, g2]; rfl, ?_⟩;refine (c1 _ _ _ hqi.1 (by omega)).mono ?_;rintro _ ⟨n4, f4, B, rfl, hB⟩;refine ⟨_, _, _, rfl, ⟨rfl, i, Q, B, 0, trivial, rfl, rfl, by rw [qd]; omega, rfl, hQ, rfl, by rw [hgd]; exact hB, by omega, by omega, rfl⟩, ?_⟩;rintro n51 f51 _ n8 f8 _ _ _ ⟨i', Q', B', j, hxx, rfl, rfl, i1', rfl, hQ', rfl, hB', j1, j2, j3⟩;have hlQ : ((Q'.map slE).length : Int) = Q'.length := by rw [qc]
   have hlB : ((B'.map slE).length : Int) = B'.length := by rw [qc]
   have hw : i64.wrap ((i' : Int) + 1) = ((i' + 1 : Nat) : Int) := by rw [aG (by simp only [qd] at i1'; omega) (by simp only [qd] at i1'; omega)]; omega
   simp only [qd] at i1'
   have fin : (Q'.length <= j ∨ B'.length <= j ∨ (aI Q').getD j [] ≠ (aI B').getD j []) -> aI (Q'.take j) = bL rows ((aI (q0 :: A')).take (i' + 1 + 1)) := fun hs => by
    rw [z1o (by rw [bG, qd]; omega), <- hQ', <- hB', zol];exact (z1m j3 (by rw [bG]; exact j1) (by rw [bG]; exact j2) (by rw [bG, bG]; exact hs)).symm
   have stop : ∀ {K : Prop}, K -> (cZ (Q'.map slE).length none (some (j : Int)) none /\ aR (Q'.map slE) 1) /\ K := fun h => ⟨⟨wD (by omega) (by rw [qc]; omega), iA lS Q'⟩, h⟩;rw [hlQ, hlB, hw, qg, zon];refine aC (fun hx => ?_) (fun hx => ?_)
   ·simp only [qb, aB] at hx;have hjQ : j < Q'.length := by omega
    have hjB : j < B'.length := by omega
    have a1 : aH (Q'.map slE) (j : Int) 1 := bQ lS (by omega) (by omega);have a2 : (Q'.map slE).getD j [] = slE Q'[j] := cD hjQ;have b1 : aH (B'.map slE) (j : Int) 1 := bQ lS (by omega) (by omega);have b2 : (B'.map slE).getD j [] = slE B'[j] := cD hjB;refine ⟨a1, _, _, _, by rw [a2]; rfl, b1, _, _, _, by rw [b2]; rfl, ?_⟩;have hcs := (wI ht.k (T := (aI (q0 :: A')).take (i' + 1)) (m := m) fun t h => hA t (qu h)).1
    have hlen : Q'[j].2.2.length < 1000000000000 := by
     have h1 : Q'[j].2.2 ∈ aI Q' := List.mem_map.2 ⟨_, qp hjQ, rfl⟩;have := zc7 h1;rw [hQ'] at this; omega
    refine (zci _ _ _ _ _ _ hlen).mono ?_;rintro _ rfl;refine ⟨_, rfl, aC (fun hy => ?_) (fun hy => ?_)⟩
    ·simp only [aB] at hy
     have hw2 : i64.wrap ((j : Int) + 1) = ((j + 1 : Nat) : Int) := by
      have := bG Q';have h2 := (wI ht.k (T := (aI (q0 :: A')).take (i' + 1)) (m := m) fun t h => hA t (qu h)).2;rw [<- hQ', bG] at h2;rw [aG (by omega) (by omega)]; omega
     rw [hw2];exact ⟨rfl, ⟨i', Q', B', j + 1, hxx, rfl, rfl, by rw [qd]; omega, rfl, hQ', rfl, hB', by omega, by omega, wG hjQ hjB j3 hy⟩, by rw [qc]; omega⟩
    ·simp only [aB] at hy;exact stop ⟨rfl, ⟨i' + 1, Q'.take j, rfl, by rw [qd]; omega, rfl, fin (.inr (.inr (by rw [jN hjQ, jN hjB]; exact hy)))⟩, by rw [qd]; omega⟩
   ·simp only [qb, aB] at hx;exact stop ⟨rfl, ⟨i' + 1, Q'.take j, rfl, by rw [qd]; omega, rfl, fin (by omega)⟩, by rw [qd]; omega⟩
  ·simp only [aB] at hc;rw [qh (by rw [bG, qd]; omega)] at hQ;have hcs := wI ht.k hA;rw [<- hQ, bG] at hcs;refine (z0h _ _ Q (by omega) (by rw [z1j]; unfold tsm; omega)).mono ?_;rintro _ ⟨n6, f6, rfl⟩;exact ⟨_, _, _, rfl, _, _, by rw [z1k, hQ]⟩
end
theorem zoq (q : Bool × Bool × List Int) : aR [slE q] 1 := iA (enc := slE) lS [q]
theorem zor (A : TxQ) (q : Bool × Bool × List Int) : A.map slE ++ [slE q] = (A ++ [q]).map slE := by rw [qn]; rfl
theorem zos (A : TxQ) (q : Bool × Bool × List Int) : aI (A ++ [q]) = aI A ++ [q.2.2] := by unfold aI; rw [qn]; rfl
theorem lU {i : Nat} (h : i < 1000000000000) : i64.wrap ((i : Int) + 1) = ((i + 1 : Nat) : Int) := by rw [aG (by omega) (by omega)]; omega
theorem iK {A : TxQ} {i : Nat} (h : i < A.length) : aH (A.map slE) (i : Int) 1 /\ (A.map slE).getD i [] = slE A[i] := ⟨bQ lS (by omega) (by omega), cD h⟩
section
variable {rows : List Row} {v : PV}
theorem z1p (ht : lT rows) (hv : c8 rows v) (n f n2 f2 : Bool) (o s : List Int) (ho : o.length < 1000000000000) (rs : R32 s) (ls : s.length < 1000000) :
 PCall qa 75 [.sl n f (aA o), .ptr [v], .ptr [.sl n2 f2 (aA s)]] fun x => x = .bool (decide (o = bW rows s)) := by
 have c1 := fun n f => zct ht.p ht.o ht.k hv n f s rs ls;obtain ⟨tc, tg, tj, tf, tp, made, sec, rfl, ht', hm⟩ := hv;refine z1c _ _ _ _ _ _ _ _ _ _ _ _ _ ?_; unfold zoe;refine .inl ⟨_, rfl, _, _, _, rfl, (c1 n2 f2).mono ?_⟩;rintro _ ⟨n3, f3, rfl⟩;refine ⟨_, _, _, rfl, (zci _ _ _ _ _ _ ho).mono ?_⟩;rintro _ rfl;exact ⟨_, rfl, rfl⟩
theorem z1q (ht : lT rows) (hv : c8 rows v) (n f n2 f2 : Bool) (Q : TxQ) (s : List Int) (hQ : ∀ q ∈ Q, q.2.2.length < 1000000000000) (hl : Q.length < 1000000000) (rs : R32 s) (ls : s.length < 1000000) :
 PCall qa 74 [.sl n f (Q.map slE), .fn 75 [.ptr [v], .ptr [.sl n2 f2 (aA s)]]] fun x => x = .bool (decide (bW rows s ∈ aI Q)) := by
 have ix : PCall qa 106 [.sl n f (Q.map slE), .fn 75 [.ptr [v], .ptr [.sl n2 f2 (aA s)]]] fun x => ∃ m : Int, x = .int .i64 m /\ (0 <= m ↔ bW rows s ∈ aI Q) := by
  refine z1d _ _ _ _ _ (fun x => ∃ i : Nat, x = i /\ i <= Q.length /\ bW rows s ∉ (aI Q).take i) (fun x => Q.length - x.toNat) ?_;unfold zof;rw [show ((Q.map slE).length : Int) = Q.length by rw [qc]];refine ⟨⟨rfl, 0, rfl, by omega, by simp⟩, ?_⟩;rintro _ ⟨i, rfl, i1, i2⟩;rw [qg, lU (by omega)];refine aC (fun h => ?_) (fun h => ?_)
  ·simp only [aB] at h;have hi : i < Q.length := by omega
   obtain ⟨g1, g2⟩ := iK hi;refine ⟨g1, _, _, _, by rw [g2]; rfl, (z1p ht hv _ _ _ _ _ s (hQ _ (qp hi)) rs ls).mono ?_⟩;rintro _ rfl;refine ⟨_, rfl, aC (fun h2 => ?_) (fun h2 => ?_)⟩
   ·simp only [aB] at h2;exact ⟨_, rfl, ⟨fun _ => List.mem_map.2 ⟨_, qp hi, h2⟩, fun _ => by omega⟩⟩
   ·simp only [aB] at h2;refine ⟨rfl, ⟨i + 1, rfl, by omega, ?_⟩, by first | omega | (dsimp only; omega)⟩
    rw [cJ (by rw [bG]; exact hi)];intro hx;rcases List.mem_append.1 hx with hx | hx
    ·exact i2 hx
    ·rw [qar] at hx;exact h2 (by rw [hx]; simp [aI])
  ·simp only [aB] at h;rw [qh (by rw [bG]; omega)] at i2;exact ⟨_, rfl, ⟨fun h => by omega, fun h => absurd h i2⟩⟩
 refine z1e _ _ _ _ _ ?_; unfold zog;refine ix.mono ?_;rintro _ ⟨m, rfl, hm⟩;refine ⟨_, rfl, ?_⟩;by_cases h : 0 <= m
 ·rw [decide_eq_true (show m >= 0 from h), decide_eq_true (hm.1 h)]
 ·rw [decide_eq_false (show ¬ m >= 0 from h), decide_eq_false fun x => h (hm.2 x)]
def eK (rows : List Row) (L : List Int) (k : Nat) : List Int := (L.take k).drop (dL rows L k)
def fR (rows : List Row) (L : List Int) (k : Nat) (T : List (List Int)) : List (List Int) := pickW rows (eK rows L k) [] T
theorem zd8 (ht : lT rows) {m : Nat} {T : List (List Int)} (hT : TsOK m T) (part : List Int) : TsOK (768 * m) (pickW rows part [] T) := fun t h => by
 rcases sI part T [] t h with h | ⟨s, hs, rfl, _⟩
 ·cases h
 ·have := mQ ht.k s;have h2 := (hT s hs).2;exact ⟨sA ht.p ht.o ht.k (hT s hs).1, by omega⟩
theorem zd9 {L : List Int} (hr : R32 L) (k : Nat) : R32 (eK rows L k) /\ (eK rows L k).length <= L.length := ⟨fun x hx => hr x (qu (qbl hx)), by unfold eK; rw [qaw, qe]; omega⟩
theorem zea (L : List Int) (a b : Nat) : qf a (qo b (aA L)) = aA ((L.take b).drop a) := by simp [aA]
theorem zeb {len : Nat} {i j : Int} (h0 : 0 <= i) (h1 : i <= j) (h2 : j <= len) : cZ len (some i) (some j) none := ⟨h0, h1, h2, trivial⟩
def noneW : PV := .tup [.agg [.int .i64 0, .int .i64 0, .sl true true [], .sl true true []], .bool false]
theorem zec (ht : lT rows) (hv : c8 rows v) (n f n2 f2 : Bool) (L : List Int) (hr : R32 L) (hL : L.length < 10000) (k : Int) (W : TxQ) {m : Nat} (hm : m < 100) (hW : TsOK m (aI W)) (hWl : W.length < 10000) :
 PCall qa 31 [v, .sl n f (aA L), .int .i64 k, .sl n2 f2 (W.map slE)] fun x =>
  if (0 <= k /\ k <= L.length) /\ fR rows L k.toNat (aI W) ≠ [] then ∃ n f n3 Q, x = .tup [.agg [.int .i64 (dL rows L k.toNat : Nat), .int .i64 k, .sl n f (aA (bL rows (fR rows L k.toNat (aI W))).flatten), .sl n3 false (Q.map slE)], .bool true] /\ aI Q = fR rows L k.toNat (aI W)
  else x = noneW := by
 have cw := fun n f => zz6 ht.s ht.w hv n f (L.take k.toNat) (hr.take _) (by rw [qe]; omega);have cb := fun n f n2 f2 a b ra rb la lb => zd7 ht hv n f n2 f2 a b ra rb la lb;have cn := fun n f (s : List Int) rs ls => zct ht.p ht.o ht.k hv n f s rs ls;have cm := fun n f A (hA : TsOK (768 * m) (aI A)) hl => zop ht hv n f A hA (by omega) hl;have cc := fun n f n2 f2 Q s hQ hl rs ls => z1q ht hv n f n2 f2 Q s hQ hl rs ls;have hfl := zdy (rows := rows) L k.toNat;obtain ⟨hpr, hpl⟩ := zd9 (rows := rows) hr k.toNat;obtain ⟨tc, tg, tj, tf, tp, made, sec, rfl, ht', hm'⟩ := hv
 refine z1i _ _ _ _ _ _ _ _ _ _ _ _ _ _
  (fun _ _ s x fr _ s3 => s = aA (eK rows L k.toNat) /\ fr = (dL rows L k.toNat : Nat) /\ ∃ (i : Nat) (Q : TxQ), x = i /\ i <= W.length /\ s3 = Q.map slE /\ aI Q = pickW rows (eK rows L k.toNat) [] ((aI W).take i))
  (fun _ _ _ x _ _ _ => W.length - x.toNat) ?_
 unfold zok;rw [bF, show ((W.map slE).length : Int) = W.length by rw [qc]];refine aC (fun h => ?_) (fun h => ?_)
 ·simp only [qk, aB, gt_iff_lt] at h;show ite _ _ _;rw [if_neg (by omega)]; rfl
 ·simp only [qk, aB, gt_iff_lt] at h;refine ⟨⟨wD (by omega) (by omega), dJ _⟩, ?_⟩;rw [znz];refine (cw _ _).mono ?_;rintro _ ⟨n1, rfl, _⟩;refine ⟨_, _, _, rfl, ?_⟩;generalize hws : dG rows (L.take k.toNat) 0 = ws at *;have hlen : ((ws.map eJ).length : Int) = ws.length := by rw [qc]
  rw [hlen]
  have bare : ws.getLast? = none ∨ (∃ q, ws.getLast? = some q /\ (q.2 : Int) ≠ k) -> dL rows L k.toNat = k.toNat := fun hx => by
   unfold dL;rw [hws];rcases hx with hx | ⟨q, hx, hq⟩
   ·rw [hx]
   ·rw [hx]; dsimp only; rw [if_neg (by omega)]
  have start : ∀ {fr : Int}, fr = (dL rows L k.toNat : Nat) -> (cZ (L.length) (some fr) (some k) none /\ aR (aA L) 1) /\ aA (qf fr.toNat (qo k.toNat L)) = aA (eK rows L k.toNat) := fun e => by
   subst e;refine ⟨⟨zeb (by omega) (by omega) (by omega), dJ _⟩, ?_⟩;rw [qg]; rfl
  simp only [zea]
  have hlast : ∀ hp : 0 < ws.length, ∃ q, ws.getLast? = some q /\ i64.wrap ((ws.length : Int) - 1) = ((ws.length - 1 : Nat) : Int) /\ (ws.map eJ).getD (ws.length - 1) [] = eJ q /\ aH (ws.map eJ) ((ws.length - 1 : Nat) : Int) 2 := fun hp => by
   refine ⟨ws[ws.length - 1], ?_, ?_, cD (by omega), bQ sG (by omega) (by omega)⟩
   ·rw [qbe, qaa (by omega)]
   ·have : ws.length <= L.length := by
     have h1 := wF (rows := rows) (L := L.take k.toNat) _ 0 (qj _);rw [hws, qe] at h1; omega
    rw [aG (by omega) (by omega)]; omega
  have J0 : ∀ {fr : Int}, fr = (dL rows L k.toNat : Nat) -> (aA (qf fr.toNat (qo k.toNat L)) = aA (eK rows L k.toNat) /\ fr = (dL rows L k.toNat : Nat) /\ ∃ (i : Nat) (Q : TxQ), (0 : Int) = i /\ i <= W.length /\ ([] : List (List PV)) = Q.map slE /\ aI Q = pickW rows (eK rows L k.toNat) [] ((aI W).take i)) := fun e =>
   ⟨(start e).2, e, 0, [], rfl, by omega, rfl, by rw [qca, pickW]; rfl⟩
  refine aC (fun hp => ?_) (fun hp => ?_)
  rotate_left
  simp only [aB, gt_iff_lt] at hp;have hw0 : ws = [] := qv (by omega);have hfr : k = (dL rows L k.toNat : Nat) := by rw [bare (.inl (by rw [hw0]; rfl))]; omega
  refine ⟨(start hfr).1, ⟨rfl, J0 hfr⟩, ?_⟩
  rotate_left
  simp only [aB, gt_iff_lt] at hp;obtain ⟨q, q1, q2, q3, q4⟩ := hlast (by omega);rw [q2, qg, q3];refine ⟨q4, ⟨by decide, by decide⟩, _, rfl, aC (fun he => ?_) (fun he => ?_)⟩;simp only [beq_iff_eq] at he
  have hfr : ((q.1 : Nat) : Int) = (dL rows L k.toNat : Nat) := by
   unfold dL;rw [hws, q1]; dsimp only; rw [if_pos (by omega)]
  refine ⟨q4, ⟨by decide, by decide⟩, _, rfl, (start hfr).1, ⟨rfl, J0 hfr⟩, ?_⟩
  rotate_left
  simp only [beq_iff_eq] at he;have hfr : k = (dL rows L k.toNat : Nat) := by rw [bare (.inr ⟨q, q1, he⟩)]; omega
  refine ⟨(start hfr).1, ⟨rfl, J0 hfr⟩, ?_⟩
  all_goals
   rintro n13 f13 _ _ _ n3 _ ⟨rfl, rfl, i, Q, rfl, i1, rfl, hQ⟩;rw [qg, lU (by omega)];have hpk := zd8 ht (T := (aI W).take i) (m := m) (fun t h => hW t (qu h)) (eK rows L k.toNat);have hpn := sH (rows := rows) (eK rows L k.toNat) ((aI W).take i) [];rw [<- hQ] at hpk hpn;rw [bG, qe, bG, qap] at hpn;refine aC (fun hc => ?_) (fun hc => ?_)
   ·simp only [aB] at hc;have hi : i < W.length := by omega
    have hi' : i < (aI W).length := by rw [bG]; exact hi
    obtain ⟨g1, g2⟩ := iK hi;obtain ⟨wr, wl⟩ := hW.get hi;have hg : (aI W)[i] = W[i].2.2 := by simp [aI]
    have hs := wE (rows := rows) (eK rows L k.toNat) ((aI W).take i) [] (aI W)[i];rw [<- cJ hi', <- hQ, hg] at hs;refine ⟨g1, W[i].1, W[i].2.1, aA W[i].2.2, by rw [g2]; rfl, (cb _ _ _ _ _ _ wr hpr (by omega) (by omega)).mono ?_⟩;rintro _ rfl;refine ⟨_, rfl, aC (fun hb => ?_) (fun hb => ?_)⟩
    ·refine (cc _ _ _ _ Q _ (fun q hq => by have := (hpk q.2.2 (List.mem_map.2 ⟨q, hq, rfl⟩)).2; omega) (by omega) wr (by omega)).mono ?_;rintro _ rfl;refine ⟨_, rfl, trivial, aC (fun hx => ?_) (fun hx => ?_)⟩
     ·simp only [qi, bS] at hx;refine (cn _ _ _ wr (by omega)).mono ?_;rintro _ ⟨n5, f5, rfl⟩;exact ⟨n5, f5, _, rfl, ⟨zoq (n5, f5, bW rows W[i].2.2), by rw [qc]; omega⟩, rfl, ⟨rfl, rfl, i + 1, Q ++ [(n5, f5, bW rows W[i].2.2)], rfl, by omega, zor Q (n5, f5, bW rows W[i].2.2), by rw [hs, if_pos ⟨hb, hx⟩, zos]⟩, by first | omega | (dsimp only; omega)⟩
     ·simp only [qi, bS, qm] at hx;exact ⟨rfl, ⟨rfl, rfl, i + 1, Q, rfl, by omega, rfl, by rw [hs, if_neg fun h => h.2 hx]⟩, by first | omega | (dsimp only; omega)⟩
    ·exact ⟨rfl, ⟨rfl, rfl, i + 1, Q, rfl, by omega, rfl, by rw [hs, if_neg fun h => hb h.1]⟩, by first | omega | (dsimp only; omega)⟩
   ·simp only [aB] at hc;rw [qh (by rw [bG]; omega)] at hQ;have hQ' : aI Q = fR rows L k.toNat (aI W) := hQ;rw [show ((Q.map slE).length : Int) = Q.length by rw [qc], <- hQ'];refine aC (fun hx => ?_) (fun hx => ?_)
    ·simp only [beq_iff_eq] at hx;have : Q = [] := qv (by omega);show ite _ _ _;rw [if_neg fun h => h.2 (by rw [this]; rfl)]; rfl
    ·simp only [beq_iff_eq] at hx;have hne : aI Q ≠ [] := fun e => hx (by have := congrArg qbi e; rw [bG, qap] at this; omega);refine (cm _ _ Q hpk (by omega)).mono ?_;rintro _ ⟨n6, f6, rfl⟩;refine ⟨_, _, _, rfl, ?_⟩;show ite _ _ _;rw [if_pos ⟨by omega, hne⟩];exact ⟨_, _, _, Q, rfl, rfl⟩
end
end Go.Eng
