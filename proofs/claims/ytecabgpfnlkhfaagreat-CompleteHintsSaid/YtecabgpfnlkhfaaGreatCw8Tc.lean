/- States run over the code: what each function gives, and what follows. -/
import Derived.Test.YtecabgpfnlkhfaaGreatCw8Tb
open Go.IntKind (i64 i32)
open Go.Proofs.Tryz renaming prog → qa
open Bool renaming and_eq_true → qb, or_eq_true → qg, not_eq_true' → qh, and_eq_false_iff → qr, or_eq_false_iff → qw, true_and → qaa, false_or → qae, false_and → qah, and_false → qai, not_true → qal, and_comm → qbe, or_assoc → qbf, not_not → qbi, not_false → qbq, or_false → qbs, and_true → qbt
open List renaming length_cons → qc, length_map → qd, drop → qe, take_of_length_le → qf, take → qi, length_append → qn, getElem_mem → qo, length_take → qp, map_append → qq, length_singleton → qt, mem_of_mem_take → qu, mem_cons_self → qv, nil_prefix → qy, mem_cons_of_mem → qab, getElem?_eq_getElem → qac, flatMap_append → qad, getD → qaf, eq_nil_of_length_eq_zero → qag, append_assoc → qaj, flatMap_singleton → qak, take_append_drop → qam, dropLast_append_of_ne_nil → qao, mem_singleton → qap, getD_eq_getElem?_getD → qar, foldl_append → qas, flatten_cons → qat, drop_eq_getElem_cons → qau, getElem_append_right → qaw, getElem?_append_left → qax, cons_append → qay, nil_append → qaz, length_nil → qba, append_nil → qbb, drop_eq_nil_of_le → qbc, getElem_cons_zero → qbd, contains_cons → qbh, filter_append → qbj, contains_nil → qbl, take_length → qbm, take_prefix → qbo, sum_append → qbp, map_cons → qbr, map_take → qbv, map_drop → qbw, map → qbx
open Nat renaming le_refl → qj, zero_add → qx, eq_of_beq_eq_true → qan, le_trans → qbg
open Int renaming toNat_natCast → qk, le_refl → qm, tmod_eq_emod_of_nonneg → qz, tmod_lt_of_pos → qbk
open Decidable renaming not_not → ql, byContradiction → qav
open Option renaming toList → qaq, getD_some → qbn, isSome → qbu
set_option linter.unusedVariables false
set_option linter.unusedSimpArgs false
set_option maxRecDepth 100000
set_option linter.constructorNameAsVariable false
namespace Go.Eng
open Go Go.Proofs Go.Eng.Rows Go.Eng.Trie Go.Eng.Srt
section
variable {rows : List Row}
theorem set1 {es : List (List PV)} {k : Nat} {v x : PV} (h : es.getD k [] = [x]) : es.set k (v :: zq (qe 1 (es.getD k []))) = es.set k [v] := by rw [h]; rfl
theorem zcb (A : List Int) (x : Int) (B : List Int) : (aA (A ++ x :: B)).getD A.length [] = [.int .i32 x] := by
 rw [zgz (by simp)]; simp
theorem zcc (A : List Int) (x : Int) (B : List Int) : (bC (A ++ x :: B)).getD A.length [] = [.int .i64 x] := by
 simp [bC]
theorem zw6 (hk : eK rows) (n f n2 f2 : Bool) (L : List Int) (hrl : rows.length < 1000000) (hL : L.length < 1000000000) (hr : R32 L) :
 PCall qa 66 [.sl n f (bB rows), .sl n2 f2 (aA L)] fun v => ∃ n f, v = .sl n f (aA (cT (aH rows 1) L)) := by
 have olen : ∀ l, (cT (aH rows 1) l).length = l.length := fun l => ((vB (key := aH rows 1) hk l).len).symm
 refine zwn _ _ _ _ _ _
  (fun i _ s0 _ s1 => 0 <= i /\ i <= L.length /\ s0 = aA (cT (aH rows 1) (L.take i.toNat)) /\ s1 = bC ((cT (aH rows 1) (L.take i.toNat)).map (aH rows 1))) (fun i _ _ _ _ => L.length - i.toNat)
  (fun i0 _ _ _ _ _ _ i c k _ s0 _ s1 => i = i0 /\ 0 <= i /\ i.toNat < L.length /\ ∃ x A B, L[i.toNat]? = some x /\ c = aH rows 1 x /\ k = (A.length : Nat) /\ cT (aH rows 1) (L.take i.toNat) = A ++ B /\ (∀ y ∈ B, fB (aH rows 1) x y = true) /\ s0 = aA (A ++ x :: B) /\ s1 = bC ((A ++ x :: B).map (aH rows 1))) (fun _ _ k _ _ _ _ => k.toNat) ?_
 unfold zkv;refine ⟨⟨rfl, qm _, by omega, by simp [cT, aA], by simp [cT, bC]⟩, ?_⟩;rintro i n0 _ n1 _ ⟨i0, i1, rfl, rfl⟩;refine aC (fun hc => ?_) (fun hc => ?_)
 ·simp only [aB, a8] at hc;have hi : i.toNat < L.length := by omega
  obtain ⟨g1, g2⟩ := gM i0 hi;have hx := hr _ (qo hi);have hw : i64.wrap (i + 1) = i + 1 := aG (by omega) (by omega);have hol := olen (L.take i.toNat);rw [qp] at hol;refine ⟨g1, L[i.toNat], by rw [g2]; rfl, ?_⟩;refine (uZ n f _ hrl hx).mono ?_;rintro _ rfl;refine ⟨_, rfl, g1, L[i.toNat], by rw [g2]; rfl, ⟨cZ [_], by rw [a8]; omega⟩, ⟨g9 (enc := fun n => [PV.int .i64 n]) (fun _ => rfl) [_], by rw [j8, qd]; omega⟩, ⟨rfl, ?_⟩, ?_⟩
  ·refine ⟨rfl, i0, hi, L[i.toNat], cT (aH rows 1) (L.take i.toNat), [], qac hi, rfl, by simp, by simp, fun y hy => (by cases hy), by simp [aA], by simp [bC]⟩
  ·rintro i' c k n01 _ n11 _ ⟨rfl, _, _, x, A, B, hxi, rfl, rfl, hord, hB, rfl, rfl⟩;have hwi : i64.wrap (i' + 1) = i' + 1 := aG (by omega) (by omega);have hAB : A.length + B.length = min i'.toNat L.length := by rw [<- hol, hord, qn]
   have hxe : L[i'.toNat] = x := (List.getElem?_eq_some_iff.1 hxi).2
   -- the end of the walk back
   have done : (A = [] ∨ ∃ A' z, A = A' ++ [z] /\ fB (aH rows 1) x z = false) -> 0 <= i' + 1 /\ i' + 1 <= L.length /\ aA (A ++ x :: B) = aA (cT (aH rows 1) (L.take (i' + 1).toNat)) /\ bC ((A ++ x :: B).map (aH rows 1)) = bC ((cT (aH rows 1) (L.take (i' + 1).toNat)).map (aH rows 1)) := fun h => by
    have : cT (aH rows 1) (L.take (i' + 1).toNat) = A ++ x :: B := by
     rw [show (i' + 1).toNat = i'.toNat + 1 by omega, cJ hi, zbr, hord, hxe, nS hB h]
    rw [this];exact ⟨by omega, by omega, rfl, rfl⟩
   have hmu : L.length - (i' + 1).toNat < L.length - i'.toNat := by omega
   refine aC (fun h1 => ?_) (fun h1 => ?_)
   ·simp only [qb, aB, bne_iff_ne, ne_eq] at h1
    obtain ⟨A', z, rfl⟩ : ∃ A' z, A = A' ++ [z] := by
     rcases A.eq_nil_or_concat with rfl | ⟨D, z, rfl⟩
     ·simp at h1
     ·exact ⟨D, z, by simp⟩
    have lA : (A' ++ [z]).length = A'.length + 1 := by simp
    rw [lA] at hAB;have hwk : i64.wrap ((((A' ++ [z]).length : Nat) : Int) - 1) = (A'.length : Nat) := by rw [lA, aG (by omega) (by omega)]; omega
    have e0 : (A' ++ [z]) ++ x :: B = A' ++ z :: (x :: B) := by simp
    rw [hwk, e0];simp only [qq, qbr, qk];rw [lA];generalize hk2 : aH rows 1 = key at *;have i1 : aI (aA (A' ++ z :: x :: B)) ((A'.length : Nat) : Int) 1 := bQ (enc := fun n => [PV.int .i32 n]) (fun _ => rfl) (by omega) (by simp; omega);have i2 : aI (aA (A' ++ z :: x :: B)) ((A'.length + 1 : Nat) : Int) 1 := bQ (enc := fun n => [PV.int .i32 n]) (fun _ => rfl) (by omega) (by simp; omega);have j1 : aI (bC (A'.map key ++ key z :: key x :: B.map key)) ((A'.length : Nat) : Int) 1 := bQ nL (by omega) (by simp; omega);have j2 : aI (bC (A'.map key ++ key z :: key x :: B.map key)) ((A'.length + 1 : Nat) : Int) 1 := bQ nL (by omega) (by simp; omega);have i3 : aI (aA (A' ++ z :: z :: B)) ((A'.length : Nat) : Int) 1 := bQ (enc := fun n => [PV.int .i32 n]) (fun _ => rfl) (by omega) (by simp; omega);have j3 : aI (bC (A'.map key ++ key z :: key z :: B.map key)) ((A'.length : Nat) : Int) 1 := bQ nL (by omega) (by simp; omega);have gz := zcb A' z (x :: B);have gx : (aA (A' ++ z :: x :: B)).getD (A'.length + 1) [] = [.int .i32 x] := by have := zcb (A' ++ [z]) x B; simpa using this
    have hz : (bC (A'.map key ++ key z :: key x :: B.map key)).getD A'.length [] = [.int .i64 (key z)] := by have := zcc (A'.map key) (key z) (key x :: B.map key); simpa using this
    have hx2 : (bC (A'.map key ++ key z :: key x :: B.map key)).getD (A'.length + 1) [] = [.int .i64 (key x)] := by have := zcc (A'.map key ++ [key z]) (key x) (B.map key); simpa using this
    have gz2 := zcb A' z (z :: B);have hz2 : (bC (A'.map key ++ key z :: key z :: B.map key)).getD A'.length [] = [.int .i64 (key z)] := by have := zcc (A'.map key) (key z) (key z :: B.map key); simpa using this
    have s1 : (aA (A' ++ z :: x :: B)).set (A'.length + 1) [.int .i32 z] = aA (A' ++ z :: z :: B) := by
     have := rU (A' ++ [z]) B x z;have e : (aA (A' ++ z :: x :: B)).set (A'.length + 1) [.int .i32 z] = aA ((A' ++ z :: x :: B).set (A'.length + 1) z) := by simp [aA, List.map_set]
     rw [e]; simp at this ⊢
    have s2 : (aA (A' ++ z :: z :: B)).set A'.length [.int .i32 x] = aA (A' ++ x :: z :: B) := by simp [aA]
    have t1 : (bC (A'.map key ++ key z :: key x :: B.map key)).set (A'.length + 1) [.int .i64 (key z)] = bC (A'.map key ++ key z :: key z :: B.map key) := by simp [bC]
    have t2 : (bC (A'.map key ++ key z :: key z :: B.map key)).set A'.length [.int .i64 (key x)] = bC (A'.map key ++ key x :: key z :: B.map key) := by simp [bC]
    refine ⟨j1, key z, by rw [hz]; rfl, aC (fun h2 => ?_) (fun h2 => ?_)⟩
    ·simp only [aB] at h2;refine ⟨i1, z, by rw [gz]; rfl, i2, ⟨trivial, by rw [gx]; exact qj _⟩, j1, key z, by rw [hz]; rfl, j2, ⟨trivial, by rw [hx2]; exact qj _⟩, g1, x, by rw [g2, hxe]; rfl, ?_⟩;rw [set1 gx, set1 hx2, s1, t1, set1 gz2, set1 hz2, s2, t2];refine ⟨i3, ⟨trivial, by rw [gz2]; exact qj _⟩, j3, ⟨trivial, by rw [hz2]; exact qj _⟩, rfl, ⟨trivial, i0, hi, x, A', z :: B, hxi, rfl, rfl, by rw [hord]; simp, fun y hy => ?_, rfl, by simp⟩, by simp⟩;rcases List.mem_cons.1 hy with rfl | hy
     ·exact pK.2 ⟨h1.2, h2⟩
     ·exact hB y hy
    ·simp only [aB] at h2;rw [hwi];obtain ⟨d1, d2, d3, d4⟩ := done (.inr ⟨A', z, rfl, vA.2 (.inr (by omega))⟩);refine ⟨rfl, ⟨d1, d2, ?_, ?_⟩, hmu⟩
     ·rw [<- d3, e0]
     ·rw [<- d4]; simp
   ·have hA : A = [] ∨ aH rows 1 x = 0 := by
     simp only [qb, aB, bne_iff_ne, ne_eq, not_and, ql] at h1;by_cases hA : A = []
     ·exact .inl hA
     ·exact .inr (h1 (by have := List.length_pos_iff.2 hA; omega))
    rw [hwi];refine ⟨rfl, done ?_, hmu⟩;rcases hA with h | h
    ·exact .inl h
    ·rcases A.eq_nil_or_concat with rfl | ⟨D, z, rfl⟩
     ·exact .inl rfl
     ·exact .inr ⟨D, z, by simp, vA.2 (.inl h)⟩
 ·simp only [aB, a8] at hc;rw [qf (by omega)];exact ⟨_, _, rfl⟩
end
theorem zla : tab.length < 1000000 := by have := ztv; omega
theorem vG (n f : Bool) : PCall qa 14 [.sl n f (bB tab)] (cO tab) := zvl n f tab zla zkz
theorem R32.take {l : List Int} (h : R32 l) (k : Nat) : R32 (l.take k) := fun x hx => h x (qu hx)
section
variable {rows : List Row} {v : PV}
theorem zw7 {ts : List PV} {key : Int -> Int} (hT : ∀ r : Int, (-2147483648 <= r /\ r <= 2147483647) -> PCall qa 93 [.ptr ts, .int .i32 r] fun v => v = .int .i64 (key r)) : kA (.ptr ts) key := by
 intro a b ha hb;refine zr3 _ _ _ ?_; unfold zhd;refine .inl ⟨ts, rfl, .inl ⟨ts, rfl, ?_⟩⟩;refine (hT a ha).mono ?_;rintro _ rfl;refine ⟨_, rfl, ?_⟩;refine (hT b hb).mono ?_;rintro _ rfl;refine ⟨_, rfl, ?_⟩;refine (p61 _ _).mono ?_;rintro _ rfl;refine ⟨_, rfl, _, rfl, ?_⟩;unfold cmpS; split <;> (try split) <;> omega
theorem zw8 (hk : eK rows) (hv : cO rows v) (n f : Bool) (L : List Int) (hr : R32 L) (hL : L.length < 1000000000000) : PCall qa 123 [v, .sl n f (aA L)] fun x => ∃ n f, x = .sl n f (aA (cT (aH rows 1) L)) := by
 obtain ⟨tc, tg, tj, tf, tp, made, sec, rfl, ht, hm⟩ := hv;have hT : ∀ r : Int, (-2147483648 <= r /\ r <= 2147483647) -> PCall qa 93 [.ptr [tc, tg, tj, tf, tp, .mp (dH made), .mp (fA sec)], .int .i32 r] fun v => v = .int .i64 (aH rows 1 r) := fun r hr => uT _ _ ht hr;exact PCall.ofA (args := [_, _]) (zwk hk hT (zw7 hT) L hr hL) fun r h' ⟨hr, hh⟩ => by subst hr; subst hh; exact ⟨_, rfl, _, _, rfl⟩
theorem zlb (hp : dE rows) {l : List Int} (h : R32 l) : R32 (l.flatMap (aV rows 8)) := fun x hx => by
 obtain ⟨r, hr, h2⟩ := List.mem_flatMap.1 hx;rcases uY hp 8 r x h2 with rfl | h3
 ·exact h x hr
 ·omega
theorem vH (rows : List Row) (l : List Int) : (l.flatMap (aV rows 8)).length <= 768 * l.length := by
 induction l with
 | nil => simp
 | cons x l ih =>
   have := mI rows 8 x;rw [List.flatMap_cons, qn, qc]; omega
theorem zlc (rows : List Row) {l : List Int} {i : Nat} (hi : i < l.length) : (l.take (i + 1)).flatMap (aV rows 8) = (l.take i).flatMap (aV rows 8) ++ aV rows 8 l[i] := by
 rw [cJ hi, qad]; simp
theorem zw9 (hp : dE rows) (hk : eK rows) (hv : cO rows v) (n f : Bool) (L : List Int) (hr : R32 L) (hL : L.length < 1000000) : PCall qa 96 [v, .sl n f (aA L)] fun x => ∃ n f, x = .sl n f (aA (kD rows L)) := by
 have hv' := hv;obtain ⟨tc, tg, tj, tf, tp, made, sec, rfl, ht, hm⟩ := hv;refine zwo _ _ _ _ _ _ _ _ _ _ (fun i h0 _ s => h0 = .ptr [tc, tg, tj, tf, tp, .mp (dH made), .mp (fA sec)] /\ 0 <= i /\ i <= L.length /\ s = aA ((L.take i.toNat).flatMap (aV rows 8))) (fun i _ _ _ => L.length - i.toNat) ?_;unfold zkw;refine ⟨rfl, ⟨rfl, rfl, qm _, by omega, rfl⟩, ?_⟩;rintro i h0 n1 _ ⟨rfl, i0, i1, rfl⟩;refine aC (fun hc => ?_) (fun hc => ?_)
 ·simp only [aB, a8] at hc;have hi : i.toNat < L.length := by omega
  obtain ⟨g1, g2⟩ := gM i0 hi;have hx := hr _ (qo hi);have hw : i64.wrap (i + 1) = i + 1 := aG (by omega) (by omega);have hfl := vH rows (L.take i.toNat);rw [qp] at hfl;refine ⟨g1, L[i.toNat], by rw [g2]; rfl, ?_⟩;refine (zvr _ _ hp ht 8 _ n1 _ (by omega) hx (by omega)).mono ?_;rintro r h' ⟨nl, rfl, rfl⟩;rw [hw];exact ⟨(nl, _), ⟨rfl, rfl⟩, ⟨trivial, trivial, trivial⟩, rfl, ⟨rfl, by omega, by omega, by rw [show (i + 1).toNat = i.toNat + 1 by omega, zlc rows hi]; rfl⟩, by dsimp only; omega⟩
 ·simp only [aB, a8] at hc;rw [qf (by omega)];have hfl := vH rows L;refine (zw8 hk hv' n1 false _ (zlb hp hr) (by omega)).mono ?_;rintro _ ⟨n2, f2, rfl⟩;exact ⟨_, _, _, rfl, _, _, rfl⟩
theorem zxa (hp : dE rows) (hk : eK rows) (n f n2 f2 : Bool) (hrl : rows.length < 1000000) (L : List Int) (hr : R32 L) (hL : L.length < 1000000) : PCall qa 20 [.sl n f (bB rows), .sl n2 f2 (aA L)] fun x => ∃ n f, x = .sl n f (aA (kD rows L)) := by
 refine zwp _ _ _ _ _ _ (fun i _ s => 0 <= i /\ i <= L.length /\ s = aA ((L.take i.toNat).flatMap (aV rows 8))) (fun i _ _ => L.length - i.toNat) ?_;unfold zkx;refine ⟨⟨rfl, qm _, by omega, rfl⟩, ?_⟩;rintro i n1 _ ⟨i0, i1, rfl⟩;refine aC (fun hc => ?_) (fun hc => ?_)
 ·simp only [aB, a8] at hc;have hi : i.toNat < L.length := by omega
  obtain ⟨g1, g2⟩ := gM i0 hi;have hx := hr _ (qo hi);have hw : i64.wrap (i + 1) = i + 1 := aG (by omega) (by omega);have hfl := vH rows (L.take i.toNat);rw [qp] at hfl;have hf1 := mI rows 8 L[i.toNat]
  have he : aA ((L.take i.toNat).flatMap (aV rows 8)) ++ aA (aV rows 8 L[i.toNat]) = aA ((L.take (i + 1).toNat).flatMap (aV rows 8)) := by
   rw [show (i + 1).toNat = i.toNat + 1 by omega, zlc rows hi, fO]
  refine ⟨g1, L[i.toNat], by rw [g2]; rfl, ?_⟩;rw [hw];refine (zvp hp n f hrl 8 _ (by omega) hx).mono ?_;rintro r h' (⟨nl, rfl, rfl⟩ | ⟨rfl, rfl⟩)
  ·exact .inl ⟨(nl, _), ⟨rfl, rfl⟩, trivial, ⟨cZ _, by simp only [a8, qd]; omega⟩, rfl, ⟨by omega, by omega, he⟩, by dsimp only; omega⟩
  ·exact .inr ⟨_, ⟨rfl, rfl⟩, trivial, ⟨cZ _, by rw [a8, a8]; omega⟩, rfl, ⟨by omega, by omega, he⟩, by dsimp only; omega⟩
 ·simp only [aB, a8] at hc;rw [qf (by omega)];have hfl := vH rows L;refine (zw6 hk n f n1 false _ hrl (by omega) (zlb hp hr)).mono ?_;rintro _ ⟨n2, f2, rfl⟩;exact ⟨_, _, _, rfl, _, _, rfl⟩
theorem zld (hk : eK rows) {l : List Int} (h : l.length < 1000000) : (kD rows l).length < 1000000000000 := by
 have := zk3 hk l; omega
end
end Go.Eng
namespace Go.Eng.Rows
open Go Go.Eng Go.Eng.Trie Go.Eng.Srt
def eG (a b : Int) : Option Int :=
 if (4352 <= a /\ a < 4371) /\ 4449 <= b /\ b < 4470 then some (44032 + ((a - 4352) * 21 + (b - 4449)) * 28)
 else if (bT a = true /\ (a - 44032) % 28 = 0) /\ 4519 < b /\ b < 4547 then some (a + (b - 4519)) else none
def d7 (rows : List Row) (a b : Int) (x : Row) : Bool := decide (x.kind = 2) && (decide (x.a = a) && (decide (x.b = b) && (!decide (b = 0) && !d0 rows x.fr)))
def cmpS (rows : List Row) (a b : Int) (o : Option Int) (x : Row) : Option Int :=
 if d7 rows a b x then (match o with | none => some x.fr | some r => if x.fr < r then some x.fr else some r) else o
def mM (rows : List Row) (a b : Int) : Option Int := rows.foldl (cmpS rows a b) none
def fC (rows : List Row) (a b : Int) : Option Int := match eG a b with | some r => some r | none => mM rows a b
theorem zle (rows : List Row) (a b : Int) (l : List Row) : match l.foldl (cmpS rows a b) none with
 | none => ∀ x ∈ l, d7 rows a b x = false
 | some r => (∃ x ∈ l, d7 rows a b x = true /\ x.fr = r) /\ ∀ x ∈ l, d7 rows a b x = true -> r <= x.fr := by
 have : ∀ (m : List Row), match m.reverse.foldl (cmpS rows a b) none with
  | none => ∀ x ∈ m, d7 rows a b x = false
  | some r => (∃ x ∈ m, d7 rows a b x = true /\ x.fr = r) /\ ∀ x ∈ m, d7 rows a b x = true -> r <= x.fr := by
  intro m
  induction m with
  | nil => intro x hx; cases hx
  | cons y m ih =>
    rw [List.reverse_cons, qas, List.foldl_cons, List.foldl_nil];generalize m.reverse.foldl (cmpS rows a b) none = o at ih;unfold cmpS;cases hc : d7 rows a b y with
    | false =>
      simp only [Bool.false_eq_true, if_false];cases o with
      | none => intro x hx; rcases List.mem_cons.1 hx with rfl | hx; exact hc; exact ih x hx
      | some r =>
        obtain ⟨⟨x, h1, h2⟩, h3⟩ := ih;exact ⟨⟨x, qab _ h1, h2⟩, fun z hz hz2 => by rcases List.mem_cons.1 hz with rfl | hz; rw [hc] at hz2; cases hz2; exact h3 z hz hz2⟩
    | true =>
      simp only [if_true];cases o with
      | none =>
        refine ⟨⟨y, qv, hc, rfl⟩, fun z hz hz2 => ?_⟩;rcases List.mem_cons.1 hz with rfl | hz
        ·exact qm _
        ·have := ih z hz; rw [this] at hz2; cases hz2
      | some r =>
        obtain ⟨⟨x, h1, h2, h4⟩, h3⟩ := ih;by_cases hlt : y.fr < r
        ·simp only [hlt, if_true];refine ⟨⟨y, qv, hc, rfl⟩, fun z hz hz2 => ?_⟩;rcases List.mem_cons.1 hz with rfl | hz
         ·exact qm _
         ·have := h3 z hz hz2; omega
        ·simp only [hlt, if_false];refine ⟨⟨x, qab _ h1, h2, h4⟩, fun z hz hz2 => ?_⟩;rcases List.mem_cons.1 hz with rfl | hz
         ·omega
         ·exact h3 z hz hz2
 have h := this l.reverse;rw [List.reverse_reverse] at h;generalize l.foldl (cmpS rows a b) none = o at h ⊢;cases o with
 | none => intro x hx; exact h x (List.mem_reverse.2 hx)
 | some r => exact ⟨by obtain ⟨⟨x, h1, h2⟩, _⟩ := h; exact ⟨x, List.mem_reverse.1 h1, h2⟩, fun x hx => h.2 x (List.mem_reverse.2 hx)⟩
theorem vI {rows : List Row} (h1 : dY rows) {x : Row} (hx : x ∈ rows) (hk : x.kind = 2) : aL rows x.fr = (x.a, x.b) /\ 0 <= x.fr /\ x.fr <= 1114111 := by
 obtain ⟨e1, e2, e3⟩ := h1 x hx hk;have hf : bR rows 2 x.fr = some (x.a, x.b) := by unfold bR; rw [if_pos e2]; exact e3
 exact ⟨by unfold aL; rw [hf], e2⟩
theorem zlf {rows : List Row} (h1 : dY rows) {r : Int} (h : aL rows r ≠ (0, 0)) : ∃ x ∈ rows, x.kind = 2 /\ x.fr = r /\ aL rows r = (x.a, x.b) := by
 cases hf : bR rows 2 r with
 | none => exact absurd (by unfold aL; rw [hf]) h
 | some p =>
   obtain ⟨y, hy, hk, f1, f2⟩ := zk1 hf;obtain ⟨e1, _⟩ := h1 y hy hk;have hr : y.fr = r := by omega
   have := (vI h1 hy hk).1;rw [hr] at this;exact ⟨y, hy, hk, hr, this⟩
theorem zcd {rows : List Row} (h1 : dY rows) {a b r : Int} (h : mM rows a b = some r) : aL rows r = (a, b) /\ b ≠ 0 /\ d0 rows r = false /\ (0 <= r /\ r <= 1114111) /\ ∃ x ∈ rows, x.kind = 2 /\ x.fr = r := by
 have := zle rows a b rows;unfold mM at h;rw [h] at this;obtain ⟨⟨x, hx, hc, rfl⟩, _⟩ := this;simp only [d7, qb, aB, qh, bV] at hc;obtain ⟨hk, ha, hb, h0, ho⟩ := hc;obtain ⟨hp, hr⟩ := vI h1 hx hk;exact ⟨by rw [hp, ha, hb], h0, ho, hr, x, hx, hk, rfl⟩
theorem zxb {rows : List Row} (hp : dE rows) (h1 : dY rows) {made : List ((Int × Int) × Int)} {sec : List (Int × Bool)} (hm : MadeOK rows (fun r => 0 <= r /\ r <= 1114111) made sec) (a b : Int) :
 (if b = 0 then none else cA (a, b) made) = mM rows a b := by
 have hc := zle rows a b rows
 have good : ∀ x ∈ rows, d7 rows a b x = true -> b ≠ 0 /\ (0 <= x.fr /\ x.fr <= 1114111) /\ lP rows x.fr /\ aL rows x.fr = (a, b) := fun x hx hc => by
  simp only [d7, qb, aB, qh, bV] at hc;obtain ⟨hk, ha, hb, h0, ho⟩ := hc;obtain ⟨e, hr⟩ := vI h1 hx hk;refine ⟨h0, hr, ⟨?_, ho⟩, by rw [e, ha, hb]⟩;rw [e]; intro q; exact h0 (hb.symm.trans (Prod.mk.inj q).2)
 have back : ∀ r, b ≠ 0 -> lP rows r -> aL rows r = (a, b) -> ∃ x ∈ rows, d7 rows a b x = true /\ x.fr = r := fun r h0 hg hpr => by
  obtain ⟨x, hx, hk, hfr, hq⟩ := zlf h1 hg.1;have ho := hg.2;rw [hq] at hpr;cases hpr;refine ⟨x, hx, ?_, hfr⟩;simp only [d7, qb, aB, qh, bV];exact ⟨hk, trivial, trivial, h0, by rw [hfr]; exact ho⟩
 unfold mM;generalize rows.foldl (cmpS rows a b) none = o at hc ⊢;split
 ·rename_i h0;cases o with
  | none => rfl
  | some r => obtain ⟨⟨x, hx, hb, _⟩, _⟩ := hc; exact absurd h0 (good x hx hb).1
 ·rename_i h0;cases hg : cA (a, b) made with
  | none =>
    cases o with
    | none => rfl
    | some r =>
      obtain ⟨⟨x, hx, hb, _⟩, _⟩ := hc;obtain ⟨_, g1, g2, g3⟩ := good x hx hb;exact absurd g3 (hm.m2 _ hg _ g1 g2)
  | some r =>
    obtain ⟨d1, d2, d3, d4⟩ := hm.m1 _ _ hg;obtain ⟨x, hx, hb, hfr⟩ := back r h0 d2 d3;cases o with
    | none => have := hc x hx; rw [this] at hb; cases hb
    | some s =>
      obtain ⟨⟨y, hy, hyb, rfl⟩, hl⟩ := hc;obtain ⟨_, g1, g2, g3⟩ := good y hy hyb;have k1 := hl x hx hb;have k2 := d4 _ g1 g2 g3;rw [hfr] at k1;exact congrArg some (Int.le_antisymm k2 k1)
theorem zce {a b r : Int} (h : eG a b = some r) : bT r = true := by
 unfold eG at h;split at h
 ·rename_i hc; cases h; simp only [bT, qb, aB]; omega
 ·split at h
  ·rename_i hc; cases h; simp only [bT, qb, aB] at hc ⊢; omega
  ·cases h
theorem zxc {rows : List Row} (h1 : dY rows) {a b r : Int} (h : fC rows a b = some r) : 0 <= r /\ r <= 1114111 := by
 unfold fC at h;split at h
 ·rename_i s hj; cases h; have := zce hj; simp only [bT, qb, aB] at this; omega
 ·exact (zcd h1 h).2.2.2.1
structure CSt where
 P : List Int
 s : Option Int
 M : List Int
def dJ (key : Int -> Int) (M : List Int) : Int := match M.getLast? with | some m => key m | none => 0
def CSt.out (st : CSt) : List Int := st.P ++ (st.s.toList ++ st.M)
def cQ (key : Int -> Int) (st : CSt) (r : Int) : CSt := if key r = 0 then ⟨st.out, some r, []⟩ else ⟨st.P, st.s, st.M ++ [r]⟩
def cG (rows : List Row) (st : CSt) (r : Int) : CSt := match st.s with
 | none => cQ (aH rows 1) st r
 | some a => if st.M = [] ∨ dJ (aH rows 1) st.M < aH rows 1 r then (match fC rows a r with
   | some c => ⟨st.P, some c, st.M⟩
   | none => cQ (aH rows 1) st r) else cQ (aH rows 1) st r
def bM (rows : List Row) (l : List Int) : CSt := l.foldl (cG rows) ⟨[], none, []⟩
def gO (rows : List Row) (l : List Int) : List Int := (bM rows l).out
theorem gQ (rows : List Row) (l : List Int) (r : Int) : bM rows (l ++ [r]) = cG rows (bM rows l) r := by simp [bM]
theorem mN (key : Int -> Int) (st : CSt) (r : Int) : (cQ key st r).out = st.out ++ [r] := by
 unfold cQ; split <;> simp [CSt.out]
theorem pM (rows : List Row) (st : CSt) (r : Int) : cG rows st r = cQ (aH rows 1) st r ∨ ∃ a c, st.s = some a /\ fC rows a r = some c /\ (st.M = [] ∨ dJ (aH rows 1) st.M < aH rows 1 r) /\ cG rows st r = ⟨st.P, some c, st.M⟩ := by
 unfold cG;split
 ·exact .inl rfl
 ·rename_i a ha;split
  ·rename_i hf;cases hc : fC rows a r with
   | none => exact .inl rfl
   | some c => exact .inr ⟨a, c, ha, hc, hf, rfl⟩
  ·exact .inl rfl
theorem zcf (rows : List Row) (l : List Int) : (gO rows l).length <= l.length := by
 unfold gO
 induction l using iZ with
 | h0 => simp [bM, CSt.out]
 | h1 l r ih =>
   rw [gQ, qn, qt];rcases pM rows (bM rows l) r with e | ⟨a, c, hs, _, _, e⟩
   ·rw [e, mN, qn, qt]; omega
   ·rw [e]; simp only [CSt.out, hs, qaq, qn, qc] at ih ⊢; omega
theorem zcg {rows : List Row} (h1 : dY rows) (l : List Int) : ∀ x ∈ gO rows l, x ∈ l ∨ (0 <= x /\ x <= 1114111) := by
 unfold gO
 induction l using iZ with
 | h0 => intro x hx; simp [bM, CSt.out] at hx
 | h1 l r ih =>
   rw [gQ];rcases pM rows (bM rows l) r with e | ⟨a, c, hs, hc, _, e⟩
   ·rw [e, mN];intro x hx;rcases List.mem_append.1 hx with hx | hx
    ·exact (ih x hx).imp (fun h => List.mem_append.2 (.inl h)) id
    ·exact .inl (List.mem_append.2 (.inr hx))
   ·rw [e];intro x hx;simp only [CSt.out, qaq, List.mem_append, List.mem_cons, List.not_mem_nil, or_false] at hx ih;rcases hx with hx | rfl | hx
    ·exact (ih x (.inl hx)).imp (fun h => List.mem_append.2 (.inl h)) id
    ·exact .inr (zxc h1 hc)
    ·exact (ih x (.inr (.inr hx))).imp (fun h => List.mem_append.2 (.inl h)) id
structure TabC (rows : List Row) : Prop where
 one : dY rows
 closed : zb6 rows
 cls : eK rows
 syl : ∀ x ∈ rows, x.kind = 2 -> bT x.fr = false
 deep : ∀ x ∈ rows, x.kind = 2 -> aV rows 7 x.fr = aV rows 8 x.fr
theorem TabC.full7 {rows : List Row} (h : TabC rows) (r : Int) : aV rows 7 r = aV rows 8 r := by
 by_cases hs : bT r = true
 ·rw [j9 hs, j9 hs]
 ·simp only [Bool.not_eq_true] at hs;by_cases h0 : aL rows r = (0, 0)
  ·rw [pI hs h0, pI hs h0]
  ·obtain ⟨x, hx, hk, rfl, _⟩ := zlf h.one h0;exact h.deep x hx hk
theorem TabC.join {rows : List Row} (h : TabC rows) {a b c : Int} (ha : cK rows a = true ∨ bT a = true) (hj : eG a b = some c) : aV rows 8 c = aV rows 8 a ++ [b] := by
 rw [j9 (zce hj)];unfold eG at hj;split at hj
 ·rename_i hc;cases hj
  have hr : cK rows a = true := by
   rcases ha with ha | ha
   ·exact ha
   ·simp only [bT, qb, aB] at ha; omega
  rw [vF hr];unfold d6;rw [if_pos (by omega)];simp only [qay, qaz, List.cons.injEq, and_true];omega
 ·split at hj
  ·rename_i hc;cases hj;obtain ⟨⟨hs, h0⟩, h1, h2⟩ := hc;rw [j9 hs];simp only [bT, qb, aB] at hs;unfold d6;rw [if_neg (by omega), if_pos h0];simp only [qay, qaz, List.cons.injEq, and_true];omega
  ·cases hj
theorem TabC.lead {rows : List Row} (h : TabC rows) {a : Int} (ha : 4352 <= a /\ a < 4371) : cK rows a = true := by
 have hx := h.closed (44032 + (a - 4352) * 588) a;refine hx ?_;have hs : bT (44032 + (a - 4352) * 588) = true := by simp only [bT, qb, aB]; omega
 rw [j9 hs];unfold d6;rw [if_pos (by omega), show 4352 + (44032 + (a - 4352) * 588 - 44032) / 588 = a by omega];exact qv
theorem TabC.pair {rows : List Row} (h : TabC rows) {a b c : Int} (hb : cK rows b = true) (hc : fC rows a b = some c) : aV rows 8 c = aV rows 8 a ++ [b] := by
 unfold fC at hc;split at hc
 ·rename_i s hj;cases hc;refine h.join ?_ hj;unfold eG at hj;split at hj
  ·rename_i hq; exact .inl (h.lead hq.1)
  ·split at hj
   ·rename_i hq; exact .inr hq.1.1
   ·cases hj
 ·obtain ⟨hp, h0, _, _, x, hx, hk, rfl⟩ := zcd h.one hc;have hs := h.syl x hx hk;have hn : aL rows x.fr ≠ (0, 0) := by rw [hp]; intro e; cases e; exact h0 rfl
  rw [show (8 : Nat) = 7 + 1 from rfl];rw [aV, if_neg (by rw [hs]; simp), if_neg hn, hp];simp only;rw [if_neg h0, h.full7, vF hb]
theorem r7 (key : Int -> Int) (M : List Int) (r : Int) : dJ key (M ++ [r]) = key r := by simp [dJ]
structure InvC (rows : List Row) (st : CSt) (p : List Int) : Prop where
 e : Eqv (aH rows 1) (st.out.flatMap (aV rows 8)) p
 m : ∀ m ∈ st.M, aH rows 1 m ≠ 0 /\ cK rows m = true /\ aH rows 1 m <= dJ (aH rows 1) st.M
 q : st.M ≠ [] -> ∃ p' q, p = p' ++ [q] /\ dJ (aH rows 1) st.M <= aH rows 1 q
theorem InvC.app {rows : List Row} {st : CSt} {p : List Int} (h : InvC rows st p) {r : Int} (hr : cK rows r = true) (hc : c5 (aH rows 1) (p ++ [r])) : InvC rows (cQ (aH rows 1) st r) (p ++ [r]) := by
 have he : Eqv (aH rows 1) ((cQ (aH rows 1) st r).out.flatMap (aV rows 8)) (p ++ [r]) := by
  rw [mN, qad, qak, vF hr];simpa using h.e.app [] [r]
 refine ⟨he, ?_, ?_⟩
 ·unfold cQ;split
  ·intro m hm; cases hm
  ·rename_i h0;intro m hm;simp only at hm ⊢;rw [r7];rcases List.mem_append.1 hm with hm | hm
   ·obtain ⟨k1, k2, k3⟩ := h.m m hm;refine ⟨k1, k2, ?_⟩;obtain ⟨p', q, rfl, hq⟩ := h.q (List.ne_nil_of_mem hm);have := (nT.1 hc).2.2 q r (by simp) rfl h0;omega
   ·rw [qap] at hm; subst hm; exact ⟨h0, hr, qm _⟩
 ·unfold cQ;split
  ·intro hn; exact absurd rfl hn
  ·intro _; exact ⟨p, r, rfl, by simp only; rw [r7]; exact qm _⟩
theorem InvC.step {rows : List Row} (ht : TabC rows) {st : CSt} {p : List Int} (h : InvC rows st p) {r : Int} (hr : cK rows r = true) (hc : c5 (aH rows 1) (p ++ [r])) : InvC rows (cG rows st r) (p ++ [r]) := by
 rcases pM rows st r with e | ⟨a, c, hs, hpc, hf, e⟩
 ·rw [e]; exact h.app hr hc
 ·rw [e];have hM : st.M.flatMap (aV rows 8) = st.M := zk2 fun m hm => (h.m m hm).2.1;have he := h.e;simp only [CSt.out, hs, qaq, qad, qak, hM] at he;have hlt : st.M ≠ [] -> dJ (aH rows 1) st.M < aH rows 1 r := fun hn => hf.elim (fun e => absurd e hn) id;refine ⟨?_, h.m, fun hn => ⟨p, r, rfl, Int.le_of_lt (hlt hn)⟩⟩;simp only [CSt.out, qaq, qad, qak, hM, ht.pair hr hpc];refine Eqv.trans ?_ (by simpa using he.app [] [r])
  by_cases hn : st.M = []
  ·rw [hn]; simp; exact .refl _
  ·have h3 : dJ (aH rows 1) st.M < aH rows 1 r := hlt hn
   have hr0 : aH rows 1 r ≠ 0 := by
    intro e0;obtain ⟨m, hm⟩ := List.exists_mem_of_ne_nil _ hn;obtain ⟨k1, _, k3⟩ := h.m m hm;have := ht.cls m; omega
   have := (Eqv.ahead (key := aH rows 1) hr0 (B := st.M) [] fun m hm => ⟨(h.m m hm).1, by have := (h.m m hm).2.2; omega⟩).symm.app (st.P.flatMap (aV rows 8) ++ aV rows 8 a) [];simpa using this
theorem zxd {rows : List Row} (ht : TabC rows) {l : List Int} (hr : ∀ x ∈ l, cK rows x = true) (hc : c5 (aH rows 1) l) : InvC rows (bM rows l) l := by
 revert hr hc
 induction l using iZ with
 | h0 => intro _ _; exact ⟨.refl _, (fun m hm => by cases hm), fun hn => absurd rfl hn⟩
 | h1 l r ih =>
   intro hr hc;rw [gQ];exact (ih (fun x hx => hr x (by simp [hx])) (nT.1 hc).1).step ht (hr r (by simp)) hc
def dN (rows : List Row) (l : List Int) : List Int := gO rows (kD rows l)
def zxe (rows : List Row) : Bool := rows.all fun x => !decide (x.kind = 2) || (!bT x.fr && decide (aV rows 7 x.fr = aV rows 8 x.fr))
end Go.Eng.Rows
namespace Go.Eng
open Go Go.Proofs Go.Eng.Rows Go.Eng.Trie
theorem zlg : zxe tab73 = true := by kernel_rfl
theorem zxf : TabC tab where
 one := zb4
 closed := zw3
 cls := zb5
 syl := fun x hx hk => by
  have := List.all_eq_true.1 zlg x (zk9 hx hk);simp only [hk, decide_true, qal, qae, qb, qh] at this;exact this.1
 deep := fun x hx hk => by
  have := List.all_eq_true.1 zlg x (zk9 hx hk);simp only [hk, decide_true, qal, qae, qb, aB] at this;rw [zb9, zb9]; exact this.2
end Go.Eng
namespace Go.Eng.Rows
open Go Go.Eng Go.Eng.Trie Go.Eng.Srt
def Comp (rows : List Row) (s : List Int) : Prop := ∃ d, (∀ x ∈ d, cK rows x = true) /\ c5 (aH rows 1) d /\ gO rows d = s
section
variable {rows : List Row}
def kE (rows : List Row) (s : Option Int) (M : List Int) (r : Int) : Option Int := match s with
 | none => none
 | some a => if M = [] ∨ dJ (aH rows 1) M < aH rows 1 r then fC rows a r else none
theorem lR (st : CSt) (r : Int) : cG rows st r = match kE rows st.s st.M r with | some c => ⟨st.P, some c, st.M⟩ | none => cQ (aH rows 1) st r := by
 unfold cG kE;cases st.s with
 | none => rfl
 | some a =>
   simp only;split
   ·rfl
   ·rfl
theorem zch {s : Option Int} {M : List Int} {r c : Int} (h : kE rows s M r = some c) : ∃ a, s = some a /\ fC rows a r = some c /\ (M = [] ∨ dJ (aH rows 1) M < aH rows 1 r) := by
 unfold kE at h;cases s with
 | none => cases h
 | some a =>
   simp only at h;split at h
   ·rename_i hf; exact ⟨a, rfl, h, hf⟩
   ·cases h
theorem lS {d : List Int} {x : Int} : c5 (aH rows 1) (d ++ [x]) ↔ c5 (aH rows 1) d /\ (∀ z, d.getLast? = some z -> aH rows 1 x ≠ 0 -> aH rows 1 z <= aH rows 1 x) := by
 rw [nT];constructor
 ·rintro ⟨h1, _, h3⟩; exact ⟨h1, fun z hz hx => h3 z x hz rfl hx⟩
 ·rintro ⟨h1, h3⟩; exact ⟨h1, trivial, fun z x' hz hx' h0 => by simp at hx'; subst hx'; exact h3 z hz h0⟩
theorem zci {d : List Int} {r x : Int} (h : c5 (aH rows 1) (d ++ [r] ++ [x])) (hx : aH rows 1 x ≠ 0) : aH rows 1 r <= aH rows 1 x := (lS.1 h).2 r (by simp) hx
def Wit (rows : List Row) (d : List Int) (st : CSt) : Prop := ∃ e, (∀ x ∈ e, cK rows x = true) /\ bM rows e = st /\ (st.out = [] -> e = []) /\ c5 (aH rows 1) e /\ ∀ x, c5 (aH rows 1) (d ++ [x]) -> c5 (aH rows 1) (e ++ [x])
theorem Wit.snoc {d : List Int} {st : CSt} (h : Wit rows d st) {r : Int} (hr : cK rows r = true) (hc : c5 (aH rows 1) (d ++ [r])) (hn : (cG rows st r).out ≠ []) : Wit rows (d ++ [r]) (cG rows st r) := by
 obtain ⟨e, h1, h2, h3, h4, h5⟩ := h;refine ⟨e ++ [r], fun x hx => ?_, by rw [gQ, h2], fun hq => absurd hq hn, h5 r hc, fun x hx => ?_⟩
 ·rcases List.mem_append.1 hx with hx | hx
  ·exact h1 x hx
  ·rw [qap] at hx; subst hx; exact hr
 ·exact lS.2 ⟨h5 r hc, fun z hz h0 => by simp at hz; subst hz; exact zci hx h0⟩
theorem zcj {key : Int -> Int} {M : List Int} (h : M ≠ []) : ∃ m ∈ M, dJ key M = key m := by
 rcases M.eq_nil_or_concat with rfl | ⟨D, z, rfl⟩
 ·exact absurd rfl h
 ·exact ⟨z, by simp, by simp [dJ]⟩
theorem zlh {d : List Int} (h : (bM rows d).out = []) : d = [] := by
 revert h
 induction d using iZ with
 | h0 => exact fun _ => rfl
 | h1 d r ih =>
   rw [gQ, lR];intro h;split at h
   ·simp [CSt.out] at h
   ·rw [mN] at h; simp at h
theorem r8 {d : List Int} (h : (bM rows d).s = none) : (bM rows d).P = [] := by
 revert h
 induction d using iZ with
 | h0 => exact fun _ => rfl
 | h1 d r ih =>
   rw [gQ, lR];split
   ·intro h; cases h
   ·unfold cQ;split
    ·intro h; cases h
    ·exact ih
theorem zxg (ht : TabC rows) {d : List Int} (hr : ∀ x ∈ d, cK rows x = true) (hc : c5 (aH rows 1) d) (hn : (bM rows d).M ≠ []) :
 Wit rows d ⟨(bM rows d).P, (bM rows d).s, (bM rows d).M.dropLast⟩ := by
 revert hr hc hn
 induction d using iZ with
 | h0 => intro _ _ hn; exact absurd rfl hn
 | h1 d r ih =>
   intro hr hc;have hr1 : ∀ x ∈ d, cK rows x = true := fun x hx => hr x (by simp [hx]);have hc1 := (lS.1 hc).1;have hinv := zxd ht hr1 hc1;have hrr := hr r (by simp);rw [gQ];have ih := ih hr1 hc1;have hon := zlh (rows := rows) (d := d);generalize hsd : bM rows d = st at *;rw [lR];cases hd : kE rows st.s st.M r with
   | none =>
     simp only;unfold cQ;split
     ·intro hn; exact absurd rfl hn
     ·rename_i h0;intro _;simp only [List.dropLast_concat];refine ⟨d, hr1, hsd, fun h => hon h, hc1, fun x hx => lS.2 ⟨hc1, fun z hz hx0 => ?_⟩⟩;have := (lS.1 hc).2 z hz h0;have := zci hx hx0;omega
   | some c =>
     simp only;intro hn;obtain ⟨a, hs, hp, hf⟩ := zch hd;have hlt := hf.elim (fun e => absurd e hn) id;have hw := (ih hn).snoc hrr hc
     have he : cG rows ⟨st.P, st.s, st.M.dropLast⟩ r = ⟨st.P, some c, st.M.dropLast⟩ := by
      rw [lR]
      have : kE rows st.s st.M.dropLast r = some c := by
       unfold kE;rw [hs];simp only;rw [if_pos, hp];by_cases hdl : st.M.dropLast = []
       ·exact .inl hdl
       ·obtain ⟨m, hm, e⟩ := zcj (key := aH rows 1) hdl;have := (hinv.m m (List.dropLast_subset _ hm)).2.2;exact .inr (by omega)
      simp only [this]
     rw [he] at hw;exact hw (by simp [CSt.out])
def fP (st : CSt) : CSt := match st.s, st.P with
 | none, P => ⟨P, none, st.M.tail⟩
 | some _, [] => ⟨[], none, st.M⟩
 | some c, _ :: P => ⟨P, some c, st.M⟩
theorem zxh {st : CSt} (h : st.s = none -> st.P = []) : (fP st).out = st.out.tail := by
 obtain ⟨P, s, M⟩ := st;cases s with
 | none =>
   have hp : P = [] := h rfl;subst hp;simp [fP, CSt.out]
 | some c => cases P <;> simp [fP, CSt.out]
theorem zxi (hk : eK rows) (M : List Int) : 0 <= dJ (aH rows 1) M := by
 by_cases h : M = []
 ·subst h; exact qm _
 ·obtain ⟨m, _, e⟩ := zcj (key := aH rows 1) h;rw [e]; exact hk m
theorem zxj (ht : TabC rows) {d : List Int} (hr : ∀ x ∈ d, cK rows x = true) (hc : c5 (aH rows 1) d) (hn : d ≠ []) : Wit rows d (fP (bM rows d)) := by
 revert hr hc hn
 induction d using iZ with
 | h0 => intro _ _ hn; exact absurd rfl hn
 | h1 d r ih =>
   intro hr hc _;have hr1 : ∀ x ∈ d, cK rows x = true := fun x hx => hr x (by simp [hx]);have hc1 := (lS.1 hc).1;have hrr := hr r (by simp);by_cases hd0 : d = []
   ·subst hd0;refine ⟨[], fun x hx => (by cases hx), ?_, fun _ => rfl, trivial, fun x _ => trivial⟩;rw [gQ];show _ = fP (cQ (aH rows 1) ⟨[], none, []⟩ r);unfold cQ;split <;> rfl
   ·have ih := ih hr1 hc1 hd0;have hP := r8 (rows := rows) (d := d);have hon : (bM rows d).out ≠ [] := fun h => hd0 (zlh h);rw [gQ];generalize bM rows d = st at *
    have key : (fP (cG rows st r) = cG rows (fP st) r /\ (cG rows (fP st) r).out ≠ []) -> Wit rows (d ++ [r]) (fP (cG rows st r)) := fun ⟨h1, h2⟩ => by
     rw [h1]; exact ih.snoc hrr hc h2
    obtain ⟨P, s, M⟩ := st;cases s with
    | none =>
      obtain rfl : P = [] := hP rfl;cases M with
      | nil => exact absurd rfl hon
      | cons m M =>
        refine key ?_;have e1 : cG rows ⟨[], none, m :: M⟩ r = cQ (aH rows 1) ⟨[], none, m :: M⟩ r := rfl;have e2 : cG rows (fP ⟨[], none, m :: M⟩) r = cQ (aH rows 1) ⟨[], none, M⟩ r := rfl;rw [e1, e2, mN];refine ⟨?_, by simp⟩;unfold cQ;split <;> simp [fP, CSt.out]
    | some c =>
      cases P with
      | cons p P =>
        refine key ?_;have e2 : fP ⟨p :: P, some c, M⟩ = ⟨P, some c, M⟩ := rfl;rw [e2, lR, lR];simp only;cases kE rows (some c) M r with
        | none => simp only; rw [mN]; refine ⟨?_, by simp⟩; unfold cQ; split <;> simp [fP, CSt.out]
        | some c' => exact ⟨rfl, by simp [CSt.out]⟩
      | nil =>
        have e2 : fP ⟨[], some c, M⟩ = ⟨[], none, M⟩ := rfl;have e3 : cG rows ⟨[], none, M⟩ r = cQ (aH rows 1) ⟨[], none, M⟩ r := rfl;cases hdec : kE rows (some c) M r with
        | none =>
          refine key ?_;rw [e2, e3, lR];simp only [hdec];rw [mN];refine ⟨?_, by simp⟩;unfold cQ;split <;> simp [fP, CSt.out]
        | some c' =>
          obtain ⟨a, _, hp, hf⟩ := zch hdec
          have e4 : fP (cG rows ⟨[], some c, M⟩ r) = ⟨[], none, M⟩ := by
           rw [lR]; simp only [hdec]; rfl
          rw [e4];rw [e2] at ih;obtain ⟨e, h1, h2, h3, h4, h5⟩ := ih;refine ⟨e, h1, h2, h3, h4, fun x hx => lS.2 ⟨h4, fun z hz hx0 => ?_⟩⟩;by_cases h0 : aH rows 1 r = 0
          ·have hl := zxi ht.cls M;have hM : M = [] := hf.elim id fun h => by omega
           subst hM;have := h3 rfl;subst this;simp at hz
          ·have k1 := (lS.1 (h5 r hc)).2 z hz h0;have k2 := zci hx hx0;omega
theorem zxk {d : List Int} (hr : ∀ x ∈ d, cK rows x = true) (hc : c5 (aH rows 1) d) (hn : (bM rows d).s ≠ none) : ∃ e, (∀ x ∈ e, cK rows x = true) /\ c5 (aH rows 1) e /\ (bM rows e).out = (bM rows d).P := by
 revert hr hc hn
 induction d using iZ with
 | h0 => intro _ _ hn; exact absurd rfl hn
 | h1 d r ih =>
   intro hr hc;have hr1 : ∀ x ∈ d, cK rows x = true := fun x hx => hr x (by simp [hx]);have hc1 := (lS.1 hc).1;have ih := ih hr1 hc1;rw [gQ, lR];cases hd : kE rows (bM rows d).s (bM rows d).M r with
   | none =>
     simp only;unfold cQ;split
     ·intro _; exact ⟨d, hr1, hc1, rfl⟩
     ·exact ih
   | some c =>
     obtain ⟨a, hs, _⟩ := zch hd;intro _;exact ih (by rw [hs]; simp)
theorem Comp.nil : Comp rows [] := ⟨[], fun x hx => (by cases hx), trivial, rfl⟩
theorem Comp.tail (ht : TabC rows) {s : List Int} (h : Comp rows s) : Comp rows s.tail := by
 obtain ⟨d, h1, h2, rfl⟩ := h;by_cases hd : d = []
 ·subst hd; exact .nil
 ·obtain ⟨e, k1, k2, _, k4, _⟩ := zxj ht h1 h2 hd;exact ⟨e, k1, k4, by unfold gO; rw [k2, zxh r8]⟩
theorem Comp.dropLast (ht : TabC rows) {s : List Int} (h : Comp rows s) : Comp rows s.dropLast := by
 obtain ⟨d, h1, h2, rfl⟩ := h;unfold gO;by_cases hM : (bM rows d).M = []
 ·cases hs : (bM rows d).s with
  | none =>
    have : (bM rows d).out = [] := by simp [CSt.out, r8 hs, hs, hM]
    rw [this]; exact .nil
  | some c =>
    obtain ⟨e, k1, k2, k3⟩ := zxk h1 h2 (by rw [hs]; simp);refine ⟨e, k1, k2, ?_⟩;unfold gO;rw [k3];simp [CSt.out, hs, hM]
 ·obtain ⟨e, k1, k2, _, k4, _⟩ := zxg ht h1 h2 hM;refine ⟨e, k1, k4, ?_⟩;unfold gO;rw [k2];simp only [CSt.out];rw [qao (by simp [hM]), qao hM]
theorem Comp.drop (ht : TabC rows) {s : List Int} (h : Comp rows s) : ∀ k, Comp rows (s.drop k)
 | 0 => h
 | k + 1 => by
   have := (Comp.drop ht h k).tail ht;rwa [List.tail_drop] at this
theorem Comp.take (ht : TabC rows) {s : List Int} (h : Comp rows s) (k : Nat) : Comp rows (s.take k) := by
 have : ∀ n, Comp rows (s.take (s.length - n)) := by
  intro n
  induction n with
  | zero => rw [Nat.sub_zero, qbm]; exact h
  | succ n ih =>
    have := ih.dropLast ht;rw [List.dropLast_eq_take, List.take_take, qp] at this;rwa [show min (min (s.length - n) s.length - 1) (s.length - n) = s.length - (n + 1) by omega] at this
 by_cases hk : k <= s.length
 ·have := this (s.length - k);rwa [show s.length - (s.length - k) = k by omega] at this
 ·rw [qf (by omega)]; exact h
end
end Go.Eng.Rows
namespace Go.Eng
open Go Go.Proofs
section
variable (a b : Int)
def zli (R : PV -> Prop) : Prop :=
 if (decide (a >= 4352) && decide (a < 4371) && decide (b >= 4449) && decide (b < 4470)) = true then R (PV.tup [Z3 (i32.wrap ((44032 : Int) + i32.wrap (i32.wrap (i32.wrap (i32.wrap (i32.wrap (a - 4352) * 21) + b) - 4449) * 28))), Zb true]) else PCall qa 167 [Z3 a] fun v => ∃ b1, v = Zb b1 /\ if (b1 && (i32.wrap (a - 44032)).tmod (28 : Int) == 0 && decide (b > 4519) && decide (b < 4547)) = true then R (PV.tup [Z3 (i32.wrap (i32.wrap (a + b) - 4519)), Zb true]) else R (PV.tup [Z3 0, Zb false])
theorem zxl {R : PV -> Prop} (h : zli a b R) : PCall qa 146 [.int .i32 a, .int .i32 b] R :=
 PCall.wz Tryz.func146 aM [0, 1, 4, 5, 6, 29] aT h
end
section
variable (tc tg tj tf tp : PV) (M S : List (PV × PV)) (a b : Int)
def zlj (R : PV -> Prop) : Prop :=
 PCall qa 146 [Z3 a, Z3 b] fun v => ∃ vs, v = PV.tup vs /\ vs.length = 2 /\ ∃ x, vs.head? = some x /\ ∃ n, x = Z3 n /\ ∃ x1, vs.tail.head? = some x1 /\ ∃ b1, x1 = Zb b1 /\ if b1 = true then R (PV.tup [Z3 n, Zb true]) else PCall qa 147 [PV.ptr [tc, tg, tj, tf, tp, PV.mp M, PV.mp S], Z3 a, Z3 b] fun v1 => ∃ vs1, v1 = PV.tup vs1 /\ vs1.length = 2 /\ ∃ x2, vs1.head? = some x2 /\ ∃ n1, x2 = Z3 n1 /\ ∃ x3, vs1.tail.head? = some x3 /\ ∃ b2, x3 = Zb b2 /\ R (PV.tup [Z3 n1, Zb b2])
theorem zxm {R : PV -> Prop} (h : zlj tc tg tj tf tp M S a b R) : PCall qa 121 [.ptr [tc, tg, tj, tf, tp, .mp M, .mp S], .int .i32 a, .int .i32 b] R :=
 PCall.wz Tryz.func121 aM [0, 1, 2, 6, 7, 8, 9, 16] aT h
end
def zck (tc tg tj tf tp : PV) (M S : List (PV × PV)) (n f : Bool) (es : LL) (x6 x7 x16 : Int) (n_0 : Bool) (s_0 : LL) : Env × Hp := ([(0, LV.pv (PV.ptr [tc, tg, tj, tf, tp, PV.mp M, PV.mp S])), (5, LV.own 0), (6, Y6 x6), (7, Y6 x7), (14, LV.pv (PV.sl n f es)), (15, Y6 ↑es.length), (16, Y6 x16)], [.sl (21, 1) true n_0 s_0])
section
variable (tc tg tj tf tp : PV) (M S : List (PV × PV)) (n f : Bool) (es : LL) (J : Int -> Int -> Int -> Bool -> LL -> Prop) (μ : Int -> Int -> Int -> Bool -> LL -> Nat)
def zlk (R : PV -> Prop) : Prop :=
 (aF (zck tc tg tj tf tp M S n f es (-1 : Int) (0 : Int) (0 : Int) true []) /\ J (-1 : Int) (0 : Int) (0 : Int) true []) /\ ∀ (x6 x7 x16 : Int) (n_0 : Bool) (s_0 : LL), J x6 x7 x16 n_0 s_0 ->
 let K5 := fun (y0_ y1_ y2_ : Int) (y3_ : Bool) (y4_ : LL) => aF (zck tc tg tj tf tp M S n f es y0_ y1_ y2_ y3_ y4_) /\ J y0_ y1_ y2_ y3_ y4_ /\ μ y0_ y1_ y2_ y3_ y4_ < μ x6 x7 x16 n_0 s_0; if decide (x16 < (↑es.length :
  Int)) = true then aI es x16 1 /\ ∃ n1, (es.getD x16.toNat []).head? = some (Z3 n1) /\ PCall qa 93 [PV.ptr [tc, tg, tj, tf, tp, PV.mp M, PV.mp S], Z3 n1] fun v => ∃ n2, v = Z6 n2 /\
 let V1 := if (n2 == 0) = true then (aR [[Z3 n1]] 1 /\ (s_0.length + 1) * 4 <= 140737488355328) /\ K5 (↑s_0.length : Int) n2 (i64.wrap (x16 + 1)) (n_0 && false) (s_0 ++ [[Z3 n1]]) else (aR [[Z3 n1]] 1 /\ (s_0.length + 1) * 4 <=
  140737488355328) /\ K5 x6 n2 (i64.wrap (x16 + 1)) (n_0 && false) (s_0 ++ [[Z3 n1]]); if (decide (x6 >= 0) && (x6 == i64.wrap ((↑s_0.length : Int) - 1) || x7 != 0 && decide (x7 < n2))) = true then aI s_0 x6 1 /\ ∃ (n3 :
  Int), (qe 0 (s_0.getD x6.toNat [])).head? = some (Z3 n3) /\ PCall qa 121 [PV.ptr [tc, tg, tj, tf, tp, PV.mp M, PV.mp S], Z3 n3, Z3 n1] fun v1 => ∃ vs, v1 = PV.tup vs /\ vs.length = 2 /\ ∃ x, vs.head? =
  some x /\ ∃ n4, x = Z3 n4 /\ ∃ x1, vs.tail.head? = some x1 /\ ∃ b, x1 = Zb b /\ if b = true then aI s_0 x6 1 /\ (1 = 1 /\ 1 <= (s_0.getD x6.toNat []).length) /\ K5 x6 x7 (i64.wrap (x16 + 1)) n_0 (s_0.set
  x6.toNat (Z3 n4 :: zq (qe 1 (s_0.getD x6.toNat [])))) else V1 else V1 else R (PV.sl n_0 false s_0)
theorem zxn {R : PV -> Prop} (h : zlk tc tg tj tf tp M S n f es J μ R) : PCall qa 95 [.ptr [tc, tg, tj, tf, tp, .mp M, .mp S], .sl n f es] R :=
 PCall.wz Tryz.func95 aM [0, 1, 4, 5, 6, 7, 9, 10, 11, 12, 13, 14, 15, 16, 17, 41, 52, 58] (bP 5 (aX cz5 (zck tc tg tj tf tp M S n f es) J μ (fun e h => (gI e 6, gI e 7, gI e 16, oN h 0, oS h 0)) [(5, 21, 1)] [0, 5, 6, 7, 14, 15, 16] [])) h
end
section
variable (tc tg tj tf tp : PV) (M S : List (PV × PV)) (n f : Bool) (es : LL)
def zll (R : PV -> Prop) : Prop :=
 PCall qa 96 [PV.ptr [tc, tg, tj, tf, tp, PV.mp M, PV.mp S], PV.sl n f es] fun v => ∃ n1 f1 es1, v = PV.sl n1 f1 es1 /\ PCall qa 95 [PV.ptr [tc, tg, tj, tf, tp, PV.mp M, PV.mp S], PV.sl n1 f1 es1] fun v1 => ∃ n2 f2 es2, v1 = PV.sl n2 f2 es2 /\ R (PV.sl n2 f2 es2)
theorem zxo {R : PV -> Prop} (h : zll tc tg tj tf tp M S n f es R) : PCall qa 60 [.ptr [tc, tg, tj, tf, tp, .mp M, .mp S], .sl n f es] R :=
 PCall.wz Tryz.func60 aM [0, 1, 4] aT h
end
end Go.Eng
namespace Go.Eng
open Go Go.Proofs Go.Eng.Rows Go.Eng.Trie Go.Eng.Srt
def kF : Option Int -> PV
 | some r => .tup [.int .i32 r, .bool true]
 | none => .tup [.int .i32 0, .bool false]
theorem zxp {a b : Int} (ha : -2147483648 <= a /\ a <= 2147483647) (hb : -2147483648 <= b /\ b <= 2147483647) : PCall qa 146 [.int .i32 a, .int .i32 b] fun v => v = kF (eG a b) := by
 refine zxl _ _ ?_; unfold zli;refine aC (fun hc => ?_) (fun hc => ?_)
 ·simp only [qb, aB, ge_iff_le] at hc;have w1 : i32.wrap (a - 4352) = a - 4352 := cY (by omega) (by omega);have w2 : i32.wrap ((a - 4352) * 21) = (a - 4352) * 21 := cY (by omega) (by omega);have w3 : i32.wrap ((a - 4352) * 21 + b) = (a - 4352) * 21 + b := cY (by omega) (by omega);have w4 : i32.wrap ((a - 4352) * 21 + b - 4449) = (a - 4352) * 21 + b - 4449 := cY (by omega) (by omega);have w5 : i32.wrap (((a - 4352) * 21 + b - 4449) * 28) = ((a - 4352) * 21 + b - 4449) * 28 := cY (by omega) (by omega);have w6 : i32.wrap (44032 + ((a - 4352) * 21 + b - 4449) * 28) = 44032 + ((a - 4352) * 21 + b - 4449) * 28 := cY (by omega) (by omega);rw [w1, w2, w3, w4, w5, w6];unfold eG;rw [if_pos (by omega)];simp only [kF];rw [show (a - 4352) * 21 + b - 4449 = (a - 4352) * 21 + (b - 4449) by omega]
 ·simp only [qb, aB, ge_iff_le] at hc;refine (zkd a).mono ?_;rintro _ rfl;refine ⟨_, rfl, ?_⟩;have hn : ¬ ((4352 <= a /\ a < 4371) /\ 4449 <= b /\ b < 4470) := by omega
  cases hs : bT a with
  | false =>
    refine bF (by simp) ?_;unfold eG; rw [if_neg hn, if_neg (by rw [hs]; simp)]; rfl
  | true =>
    have hr := hs;simp only [bT, qb, aB] at hr;have w1 : i32.wrap (a - 44032) = a - 44032 := cY (by omega) (by omega);have e3 : (a - 44032).tmod 28 = (a - 44032) % 28 := qz (by omega);rw [w1, e3];refine aC (fun h2 => ?_) (fun h2 => ?_)
    ·simp only [qb, aB, gt_iff_lt, beq_iff_eq, qaa] at h2;have w2 : i32.wrap (a + b) = a + b := cY (by omega) (by omega);have w3 : i32.wrap (a + b - 4519) = a + b - 4519 := cY (by omega) (by omega);rw [w2, w3];unfold eG; rw [if_neg hn, if_pos ⟨⟨hs, h2.1.1⟩, h2.1.2, h2.2⟩];simp only [kF];rw [show a + b - 4519 = a + (b - 4519) by omega]
    ·simp only [qb, aB, gt_iff_lt, beq_iff_eq, qaa] at h2;unfold eG; rw [if_neg hn, if_neg (by omega)]; rfl
section
variable {rows : List Row} {v : PV}
theorem zxq (hp : dE rows) (h1 : dY rows) (hv : cO rows v) {a b : Int} (ha : -2147483648 <= a /\ a <= 2147483647) (hb : -2147483648 <= b /\ b <= 2147483647) : PCall qa 121 [v, .int .i32 a, .int .i32 b] fun x => x = kF (fC rows a b) := by
 obtain ⟨tc, tg, tj, tf, tp, made, sec, rfl, ht, hm⟩ := hv;refine zxm _ _ _ _ _ _ _ _ _ ?_; unfold zlj;refine (zxp ha hb).mono ?_;rintro _ rfl;unfold fC;cases eG a b with
 | some r =>
   exact ⟨_, rfl, rfl, _, rfl, _, rfl, _, rfl, _, rfl, bJ rfl rfl⟩
 | none =>
   refine ⟨_, rfl, rfl, _, rfl, _, rfl, _, rfl, _, rfl, bF (by simp) ?_⟩;refine (zvk _ _ _ _ _ _ made a b).mono ?_;rintro _ rfl;rw [<- zxb hp h1 hm a b];unfold uU;split
   ·exact ⟨_, rfl, rfl, _, rfl, _, rfl, _, rfl, _, rfl, rfl⟩
   ·cases cA (a, b) made with
    | none => exact ⟨_, rfl, rfl, _, rfl, _, rfl, _, rfl, _, rfl, rfl⟩
    | some r => exact ⟨_, rfl, rfl, _, rfl, _, rfl, _, rfl, _, rfl, rfl⟩
def c8 (st : CSt) : Int := match st.s with | none => -1 | some _ => st.P.length
theorem zlm {d : List Int} : ∀ m ∈ (bM rows d).M, aH rows 1 m ≠ 0 := by
 induction d using iZ with
 | h0 => intro m hm; cases hm
 | h1 d r ih =>
   rw [gQ];rcases pM rows (bM rows d) r with e | ⟨a, c, hs, hp, _, e⟩
   ·rw [e];unfold cQ;split
    ·intro m hm; cases hm
    ·rename_i h0;intro m hm;rcases List.mem_append.1 hm with hm | hm
     ·exact ih m hm
     ·rw [qap] at hm; subst hm; exact h0
   ·rw [e]; exact ih
def JC (rows : List Row) (L : List Int) (x6 x7 i : Int) (s : List (List PV)) : Prop := (0 <= i /\ i <= L.length) /\ s = aA (bM rows (L.take i.toNat)).out /\ x6 = c8 (bM rows (L.take i.toNat)) /\ x7 = dJ (aH rows 1) (bM rows (L.take i.toNat)).M
theorem JC.next {L : List Int} {i : Int} (h0 : 0 <= i) (hi : i.toNat < L.length) {st : CSt} (he : cG rows (bM rows (L.take i.toNat)) L[i.toNat] = st) : JC rows L (c8 st) (dJ (aH rows 1) st.M) (i + 1) (aA st.out) := by
 have e : bM rows (L.take (i + 1).toNat) = st := by
  rw [show (i + 1).toNat = i.toNat + 1 by omega, cJ hi, gQ, he]
 exact ⟨⟨by omega, by omega⟩, by rw [e], by rw [e], by rw [e]⟩
theorem zxr (hp : dE rows) (h1 : dY rows) (hv : cO rows v) (n f : Bool) (L : List Int) (hr : R32 L) (hL : L.length < 1000000000000) : PCall qa 95 [v, .sl n f (aA L)] fun x => ∃ n f, x = .sl n f (aA (gO rows L)) := by
 have hv' := hv;obtain ⟨tc, tg, tj, tf, tp, made, sec, rfl, ht, hm⟩ := hv;refine zxn _ _ _ _ _ _ _ _ _ _ (fun x6 x7 i _ s => JC rows L x6 x7 i s) (fun _ _ i _ _ => L.length - i.toNat) ?_;unfold zlk;refine ⟨⟨rfl, ⟨qm _, by omega⟩, rfl, rfl, rfl⟩, ?_⟩;rintro x6 x7 i n0 _ ⟨⟨i0, i1⟩, rfl, rfl, rfl⟩;refine aC (fun hc => ?_) (fun hc => ?_)
 ·simp only [aB, a8] at hc;have hi : i.toNat < L.length := by omega
  obtain ⟨g1, g2⟩ := gM i0 hi;have hx := hr _ (qo hi);have hw : i64.wrap (i + 1) = i + 1 := aG (by omega) (by omega);refine ⟨g1, L[i.toNat], by rw [g2]; rfl, ?_⟩;refine (uT _ _ ht hx).mono ?_;rintro _ rfl;refine ⟨_, rfl, ?_⟩;rw [hw];have hlen := zcf rows (L.take i.toNat);have hrng := zcg h1 (L.take i.toNat);have hnz := zlm (rows := rows) (d := L.take i.toNat);have hnP := r8 (rows := rows) (d := L.take i.toNat);rw [qp] at hlen;unfold gO at hlen hrng;have next := fun st => JC.next (rows := rows) (st := st) i0 hi
  generalize bM rows (L.take i.toNat) = st at *;have hmu : L.length - (i + 1).toNat < L.length - i.toNat := by omega
  have hsz : aR [[PV.int .i32 L[i.toNat]]] 1 /\ ((aA st.out).length + 1) * 4 <= 140737488355328 := ⟨cZ [_], by rw [a8]; omega⟩;have hout : aA st.out ++ [[PV.int .i32 L[i.toNat]]] = aA (st.out ++ [L[i.toNat]]) := by rw [fO]; rfl
  have hl : ((aA st.out).length : Int) = st.out.length := by rw [a8]
  have app0 : cG rows st L[i.toNat] = cQ (aH rows 1) st L[i.toNat] -> aH rows 1 L[i.toNat] = 0 -> JC rows L (aA st.out).length (aH rows 1 L[i.toNat]) (i + 1) (aA st.out ++ [[PV.int .i32 L[i.toNat]]]) := fun he h0 => by
   have := next _ (he.trans (by unfold cQ; rw [if_pos h0]))
   rw [hout, hl, h0];simpa [c8, dJ, CSt.out] using this
  have app1 : cG rows st L[i.toNat] = cQ (aH rows 1) st L[i.toNat] -> aH rows 1 L[i.toNat] ≠ 0 -> JC rows L (c8 st) (aH rows 1 L[i.toNat]) (i + 1) (aA st.out ++ [[PV.int .i32 L[i.toNat]]]) := fun he h0 => by
   have := next _ (he.trans (by unfold cQ; rw [if_neg h0]))
   rw [hout];simp only [r7] at this;have e2 : st.out ++ [L[i.toNat]] = CSt.out ⟨st.P, st.s, st.M ++ [L[i.toNat]]⟩ := by simp [CSt.out]
   rw [e2];exact this
  refine aC (fun hf => ?_) (fun hf => ?_)
  ·simp only [qb, aB, qg, beq_iff_eq, bne_iff_ne, ne_eq, ge_iff_le] at hf;obtain ⟨hf1, hf2⟩ := hf;cases hs : st.s with
   | none => simp [c8, hs] at hf1
   | some a =>
     have hsi : c8 st = st.P.length := by simp [c8, hs]
     have hol : st.out.length = st.P.length + 1 + st.M.length := by simp [CSt.out, hs]; omega
     have hw2 : i64.wrap ((aA st.out).length - 1) = st.out.length - 1 := by rw [hl]; exact aG (by omega) (by omega)
     have hfree : st.M = [] ∨ dJ (aH rows 1) st.M < aH rows 1 L[i.toNat] := by
      rcases hf2 with h | h
      ·rw [hw2, hsi] at h;exact .inl (qag (by omega))
      ·exact .inr h.2
     have hat : st.out[st.P.length]'(by omega) = a := by simp [CSt.out, hs]
     obtain ⟨k1, k2⟩ := gM (l := st.out) (i := c8 st) (by omega) (by omega);have hta : (c8 st).toNat = st.P.length := by omega
     have k3 : (aA st.out).getD (c8 st).toNat [] = [PV.int .i32 a] := by
      rw [k2]; simp only [hta, hat]
     have ha : -2147483648 <= a /\ a <= 2147483647 := by
      rcases hrng a (by simp [CSt.out, hs]) with h | h
      ·exact hr a (qu h)
      ·omega
     refine ⟨k1, a, by rw [k3]; rfl, ?_⟩;refine (zxq hp h1 hv' ha hx).mono ?_;rintro _ rfl;cases hpc : fC rows a L[i.toNat] with
     | some c =>
       refine ⟨_, rfl, rfl, _, rfl, _, rfl, _, rfl, _, rfl, bJ rfl ⟨k1, ⟨rfl, by rw [k3]; exact qj _⟩, rfl, ?_, by dsimp only; omega⟩⟩;rw [k3, hta]
       have he : cG rows st L[i.toNat] = ⟨st.P, some c, st.M⟩ := by
        unfold cG; rw [hs]; simp only; rw [if_pos hfree, hpc]
       have := next _ he
       have e2 : (aA st.out).set st.P.length [PV.int .i32 c] = aA (CSt.out ⟨st.P, some c, st.M⟩) := by
        simp [CSt.out, hs, aA]
       have e3 : c8 ⟨st.P, some c, st.M⟩ = c8 st := by rw [hsi]; rfl
       rw [e3] at this;show JC rows L (c8 st) (dJ (aH rows 1) st.M) (i + 1) ((aA st.out).set st.P.length [PV.int .i32 c]);rw [e2];exact this
     | none =>
       have he : cG rows st L[i.toNat] = cQ (aH rows 1) st L[i.toNat] := by
        unfold cG; rw [hs]; simp only; rw [if_pos hfree, hpc]
       refine ⟨_, rfl, rfl, _, rfl, _, rfl, _, rfl, _, rfl, bF (by simp) (aC (fun h0 => ?_) (fun h0 => ?_))⟩
       ·exact ⟨hsz, rfl, app0 he (by simpa using h0), by dsimp only; omega⟩
       ·exact ⟨hsz, rfl, app1 he (by simpa using h0), by dsimp only; omega⟩
  ·simp only [qb, aB, qg, beq_iff_eq, bne_iff_ne, ne_eq, ge_iff_le] at hf
   have he : cG rows st L[i.toNat] = cQ (aH rows 1) st L[i.toNat] := by
    rcases pM rows st L[i.toNat] with e | ⟨a, c, hs, hpc, hfree, e⟩
    ·exact e
    ·have hsi : c8 st = st.P.length := by simp [c8, hs]
     have hol : st.out.length = st.P.length + 1 + st.M.length := by simp [CSt.out, hs]; omega
     have hw2 : i64.wrap ((aA st.out).length - 1) = st.out.length - 1 := by rw [hl]; exact aG (by omega) (by omega)
     refine absurd ⟨by omega, ?_⟩ hf;by_cases hM : st.M = []
     ·left; rw [hw2, hsi, hol, hM]; simp
     ·right;obtain ⟨m, hm, e⟩ := zcj (key := aH rows 1) hM;exact ⟨by rw [e]; exact hnz m hm, hfree.elim (fun e => absurd e hM) id⟩
   refine aC (fun h0 => ?_) (fun h0 => ?_)
   ·exact ⟨hsz, rfl, app0 he (by simpa using h0), by dsimp only; omega⟩
   ·exact ⟨hsz, rfl, app1 he (by simpa using h0), by dsimp only; omega⟩
 ·simp only [aB, a8] at hc;rw [qf (by omega)];exact ⟨_, _, rfl⟩
theorem zcl (hp : dE rows) (h1 : dY rows) (hk : eK rows) (hv : cO rows v) (n f : Bool) (L : List Int) (hr : R32 L) (hL : L.length < 1000000) : PCall qa 60 [v, .sl n f (aA L)] fun x => ∃ n f, x = .sl n f (aA (dN rows L)) := by
 have hv' := hv;obtain ⟨tc, tg, tj, tf, tp, made, sec, rfl, ht, hm⟩ := hv;refine zxo _ _ _ _ _ _ _ _ _ _ ?_; unfold zll;refine (zw9 hp hk hv' n f L hr hL).mono ?_;rintro _ ⟨n1, f1, rfl⟩;refine ⟨_, _, _, rfl, ?_⟩;refine (zxr hp h1 hv' _ _ _ (zb8 hk hp hr) (zld hk hL)).mono ?_;rintro _ ⟨n2, f2, rfl⟩;exact ⟨_, _, _, rfl, _, _, rfl⟩
theorem zcm (hp : dE rows) (h1 : dY rows) (hk : eK rows) {l : List Int} (h : R32 l) : R32 (dN rows l) := fun x hx => by
 rcases zcg h1 _ x hx with h2 | h2
 ·exact zb8 hk hp h x h2
 ·omega
theorem lT (hk : eK rows) (l : List Int) : (dN rows l).length <= 768 * l.length := qbg (zcf rows _) (zk3 hk l)
end
theorem v22 : Tryz.prog.underlying 22 = some (.slice 21) := by kernel_rfl
theorem v21 : Tryz.prog.underlying 21 = some (.int .i32) := by kernel_rfl
theorem zln {v : PV} (h : lH qa 8 22 v) : ∃ nl l, v = .sl nl false (aA l) /\ R32 l := by
 obtain ⟨nl, l, e, hl, _, hr⟩ := uF v22 v21 (yQ (by kernel_rfl) h);cases e;exact ⟨nl, l, rfl, hr⟩
end Go.Eng
namespace Go.Eng.Rows
open Go Go.Eng Go.Eng.Trie Go.Eng.Srt
def eL (L : List Int) (a b : Nat) : List Int := (L.take b).drop a
def zxs (rows : List Row) (L want : List Int) (a b : Nat) : Bool := decide (kD rows (eL L a b) = want)
def fTo (p : Nat -> Bool) (b : Nat) : Nat -> Option Nat
 | 0 => none
 | k + 1 => if p b then some b else fTo p (b + 1) k
def zlo (rows : List Row) (L want : List Int) (a : Nat) : Nat -> Option (Nat × Nat)
 | 0 => none
 | k + 1 => match fTo (zxs rows L want a) a (L.length + 1 - a) with
   | some b => some (a, b)
   | none => zlo rows L want (a + 1) k
def findL (rows : List Row) (L want : List Int) : Option (Nat × Nat) := zlo rows L want 0 (L.length + 1)
end Go.Eng.Rows
namespace Go.Eng
open Go Go.Proofs
end Go.Eng
namespace Go.Eng
open Go Go.Proofs Go.Eng.Rows Go.Eng.Trie Go.Eng.Srt
theorem vJ (l : List Int) (k : Nat) : (l.take k).length <= k := by rw [qp]; omega
theorem zlp {len : Nat} {i j : Int} (h0 : 0 <= i) (h1 : i <= j) (h2 : j <= len) : cU len (some i) (some j) none := ⟨h0, h1, h2, trivial⟩
theorem zlq (L : List Int) (i j : Nat) : qe i (qi j (aA L)) = aA (eL L i j) := by simp [aA, eL]
theorem R32.sub {L : List Int} (h : R32 L) (i j : Nat) : R32 (eL L i j) := fun x hx => h x (qu (List.mem_of_mem_drop hx))
theorem zxt (L : List Int) (i j : Nat) : (eL L i j).length <= L.length := by unfold eL; rw [List.length_drop, qp]; omega
theorem w3 : Tryz.prog.underlying 3 = some (.int .i64) := by kernel_rfl
end Go.Eng

namespace Go.Eng.Srt
open Go Go.Eng
section
variable {key : Int -> Int} (hk : ∀ x, 0 <= key x)
include hk
end
end Go.Eng.Srt
namespace Go.Eng.Rows
open Go Go.Eng Go.Eng.Trie Go.Eng.Srt
section
variable {rows : List Row}
def CSt.pre (Q : List Int) (st : CSt) : CSt := ⟨Q ++ st.P, st.s, st.M⟩
end
end Go.Eng.Rows

namespace Go.Eng.Rows
open Go Go.Eng Go.Eng.Trie Go.Eng.Srt
theorem zxu {L : List Int} {j b : Nat} (h : j <= b) (hb : b <= L.length) : L.drop j = eL L j b ++ L.drop b := by
 have h1 : L = L.take b ++ L.drop b := (qam b L).symm;have h2 : L.drop j = (L.take b ++ L.drop b).drop j := by rw [<- h1]
 rw [h2, List.drop_append_of_le_length (by rw [qp]; omega)]; rfl
theorem zxv {L : List Int} {a i : Nat} (h : a < i) (hi : i <= L.length) : eL L a i = L.getD a 0 :: eL L (a + 1) i := by
 unfold eL;rw [qau (by rw [qp]; omega), List.getElem_take];simp only [qaf, qac (show a < L.length by omega), qbn]
theorem drop_cons {L : List Int} {b : Nat} (h : b < L.length) : L.drop b = L.getD b 0 :: L.drop (b + 1) := by
 rw [qau h];simp only [qaf, qac h, qbn]
section
variable {rows : List Row}
end
section
variable (p : List Int -> Option (Nat × Nat)) (ls : List (List Int)) (s : Int)
end
section
variable {p : List Int -> Option (Nat × Nat)} {ls : List (List Int)} {s : Int}
end
section
variable (p : List Int -> Option (Nat × Nat)) (L : List Int)
end
def Inc (n : Nat) : Nat -> List (Nat × Nat) -> Prop
 | i, [] => i <= n
 | i, (a, b) :: ps => i <= a /\ a < b /\ Inc n b ps
theorem Inc.le {n : Nat} : ∀ {ps : List (Nat × Nat)} {i : Nat}, Inc n i ps -> i <= n
 | [], i, h => h
 | (a, b) :: ps, i, h => by have := h.2.2.le; have := h.1; have := h.2.1; omega
theorem Inc.len {n : Nat} : ∀ {ps : List (Nat × Nat)} {i : Nat}, Inc n i ps -> ps.length + i <= n
 | [], i, h => by have : i <= n := h; simpa using this
 | (a, b) :: ps, i, h => by have := h.2.2.len; have := h.1; have := h.2.1; rw [qc]; omega
section
variable {p : List Int -> Option (Nat × Nat)} {L : List Int}
end
def aK (rows : List Row) (r : Int) : Int := if 44032 <= r /\ r <= 55203 then (if (r - 44032).tmod 28 = 0 then 12 else 13) else aH rows 4 r
def bE (rows : List Row) (r : Int) : Int := if aH rows 6 r ≠ 0 then aH rows 6 r else if (aK rows r = 4 ∨ aK rows r = 5) /\ r ≠ 8204 then 3 else 0
def cX (b : Int) : Bool := decide (b = 3) || (decide (b = 1) || decide (b = 2))
def nV (a b : Int) : Bool :=
 if a = 9 then decide (b = 9) || (decide (b = 10) || (decide (b = 12) || decide (b = 13)))
 else if a = 12 ∨ a = 10 then decide (b = 10) || decide (b = 11)
 else if a = 13 ∨ a = 11 then decide (b = 11) else false
def gT (a b : Int) : Bool :=
 if a = 1 then decide (b = 2) else if a = 2 ∨ a = 3 then false
 else if b = 1 ∨ b = 2 ∨ b = 3 then false else if b = 4 ∨ b = 5 ∨ b = 8 then true
 else if a = 7 then true else nV a b
structure SSt where
 (some : Bool) (last pict conj : Int) (odd : Bool)
def dB (rows : List Row) (st : SSt) (r : Int) : SSt :=
 ⟨true, aK rows r,
  if bN rows 5 r = true then 1 else if st.pict = 1 /\ aK rows r = 4 then 1 else if st.pict = 1 /\ aK rows r = 5 then 2 else 0,
  if bE rows r = 2 then 1 else if st.conj ≠ 0 /\ bE rows r = 1 then 2 else if st.conj ≠ 0 /\ bE rows r = 3 then st.conj else 0,
  decide (aK rows r = 6) && !st.odd⟩
def mO (rows : List Row) (st : SSt) (r : Int) : Bool :=
 !gT st.last (aK rows r) && (!(decide (st.pict = 2) && bN rows 5 r) && (!(decide (st.conj = 2) && decide (bE rows r = 2)) && !(st.odd && decide (aK rows r = 6))))
def kG (rows : List Row) (st : SSt) (r : Int) : Bool := !st.some || mO rows st r
def jJ : SSt := ⟨false, 0, 0, 0, false⟩
def bA (rows : List Row) (L : List Int) (a : Nat) : Nat -> SSt
 | 0 => jJ
 | k + 1 => dB rows (bA rows L a k) (L.getD (a + k) 0)
def c6 (rows : List Row) (L : List Int) (i : Nat) : Bool := kG rows (bA rows L 0 i) (L.getD i 0)
structure d8 (rows : List Row) : Prop where
 pict : ∀ r, bN rows 5 r = true -> cX (aK rows r) = false /\ aK rows r ≠ 5
 conj : ∀ r, bE rows r = 0 ∨ bE rows r = 1 ∨ bE rows r = 2 ∨ bE rows r = 3
 cons : ∀ r, bE rows r ≠ 0 -> cX (aK rows r) = false
 join : ∀ r, bE rows r = 1 ∨ bE rows r = 3 -> aK rows r = 4 ∨ aK rows r = 5 ∨ aK rows r = 8
theorem zxw {a b : Int} (h : cX a = true ∨ cX b = true) (h2 : ¬(a = 1 /\ b = 2)) : gT a b = false := by
 unfold cX at h;simp only [qg, aB] at h;unfold gT;by_cases h1 : a = 1
 ·rw [if_pos h1]; exact decide_eq_false fun h3 => h2 ⟨h1, h3⟩
 ·rw [if_neg h1];by_cases h3 : a = 2 ∨ a = 3
  ·rw [if_pos h3]
  ·rw [if_neg h3, if_pos (by omega)]
theorem zxx {a b : Int} (h : cX a = false) (h2 : cX b = false) (h3 : b = 4 ∨ b = 5 ∨ b = 8) : gT a b = true := by
 unfold cX at h h2;simp only [qw, bV] at h h2;unfold gT;rw [if_neg h.2.1, if_neg (by omega), if_neg (by omega), if_pos h3]
section
variable {rows : List Row} {L : List Int}
theorem vK {a k : Nat} : (bA rows L a (k + 1)).last = aK rows (L.getD (a + k) 0) := rfl
theorem zxy {a k : Nat} : (bA rows L a (k + 1)).some = true := rfl
theorem zlr {a : Nat} (ht : d8 rows) : ∀ k, (bA rows L a k).pict ≠ 0 -> cX (bA rows L a k).last = false
 | 0, h => absurd rfl h
 | k + 1, h => by
   rw [vK];by_cases h1 : bN rows 5 (L.getD (a + k) 0) = true
   ·exact (ht.pict _ h1).1
   ·have h' : (if (bA rows L a k).pict = 1 /\ aK rows (L.getD (a + k) 0) = 4 then (1 : Int) else if (bA rows L a k).pict = 1 /\ aK rows (L.getD (a + k) 0) = 5 then 2 else 0) ≠ 0 := by
     have h2 : (dB rows (bA rows L a k) (L.getD (a + k) 0)).pict ≠ 0 := h;unfold dB at h2; simp only [if_neg h1] at h2; exact h2
    have : aK rows (L.getD (a + k) 0) = 4 ∨ aK rows (L.getD (a + k) 0) = 5 := by
     split at h'
     ·rename_i h3; exact .inl h3.2
     ·split at h'
      ·rename_i h3; exact .inr h3.2
      ·exact absurd rfl h'
    unfold cX;rcases this with e | e <;> rw [e] <;> rfl
theorem zls {a : Nat} (ht : d8 rows) : ∀ k, (bA rows L a k).conj ≠ 0 -> cX (bA rows L a k).last = false
 | 0, h => absurd rfl h
 | k + 1, h => by
   rw [vK];apply ht.cons;intro h0;apply h;show (dB rows (bA rows L a k) (L.getD (a + k) 0)).conj = 0;unfold dB;simp only [h0];rw [if_neg (by decide), if_neg (fun h => absurd h.2 (by decide)), if_neg (fun h => absurd h.2 (by decide))]
theorem zcn (k : Nat) : c6 rows L (k + 1) = mO rows (bA rows L 0 (k + 1)) (L.getD (k + 1) 0) := by
 unfold c6 kG; rw [zxy]; rfl
theorem zlt (ht : d8 rows) {a : Nat} (hb : c6 rows L a = true) : ∀ k, bA rows L a (k + 1) = bA rows L 0 (a + (k + 1))
 | 0 => by
   cases a with
   | zero => rfl
   | succ a =>
     rw [zcn] at hb;show dB rows jJ (L.getD (a + 1 + 0) 0) = dB rows (bA rows L 0 (a + 1)) (L.getD (0 + (a + 1)) 0);rw [show a + 1 + 0 = a + 1 by omega, show 0 + (a + 1) = a + 1 by omega];have hp := zlr (a := 0) (L := L) ht (a + 1);have hc := zls (a := 0) (L := L) ht (a + 1);generalize bA rows L 0 (a + 1) = st at *;generalize L.getD (a + 1) 0 = r at *;unfold mO at hb;simp only [qb, qh, qr] at hb;obtain ⟨h1, h2, h3, h4⟩ := hb
     have hs : aK rows r = 4 ∨ aK rows r = 5 ∨ aK rows r = 8 -> cX st.last = true := fun h => by
      cases hh : cX st.last with
      | true => rfl
      | false => rw [zxx hh (by unfold cX; rcases h with e | e | e <;> rw [e] <;> rfl) h] at h1; cases h1
     unfold dB jJ
     have e1 : (if bN rows 5 r = true then (1 : Int) else if (0 : Int) = 1 /\ aK rows r = 4 then 1 else if (0 : Int) = 1 /\ aK rows r = 5 then 2 else 0) = (if bN rows 5 r = true then 1 else if st.pict = 1 /\ aK rows r = 4 then 1 else if st.pict = 1 /\ aK rows r = 5 then 2 else 0) := by
      by_cases h5 : bN rows 5 r = true
      ·rw [if_pos h5, if_pos h5]
      ·rw [if_neg h5, if_neg h5, if_neg (by omega), if_neg (by omega)]
       have : ∀ b, (b = 4 ∨ b = 5 ∨ b = 8) -> ¬(st.pict = 1 /\ aK rows r = b) := fun b hb h => by
        have := hs (by rw [h.2]; exact hb);rw [hp (by omega)] at this; cases this
       rw [if_neg (this 4 (by omega)), if_neg (this 5 (by omega))]
     have e2 : (if bE rows r = 2 then (1 : Int) else if (0 : Int) ≠ 0 /\ bE rows r = 1 then 2 else if (0 : Int) ≠ 0 /\ bE rows r = 3 then 0 else 0) = (if bE rows r = 2 then 1 else if st.conj ≠ 0 /\ bE rows r = 1 then 2 else if st.conj ≠ 0 /\ bE rows r = 3 then st.conj else 0) := by
      by_cases h5 : bE rows r = 2
      ·rw [if_pos h5, if_pos h5]
      ·rw [if_neg h5, if_neg h5, if_neg (by omega), if_neg (by omega)]
       have : ∀ c, (c = 1 ∨ c = 3) -> ¬(st.conj ≠ 0 /\ bE rows r = c) := fun c hc2 h => by
        have := hs (ht.join r (by rw [h.2]; exact hc2));rw [hc h.1] at this; cases this
       rw [if_neg (this 1 (by omega)), if_neg (this 3 (by omega))]
     have e3 : (decide (aK rows r = 6) && !false) = (decide (aK rows r = 6) && !st.odd) := by
      rcases h4 with h4 | h4
      ·rw [h4]
      ·rw [h4]; rfl
     dsimp only at e1 e2 e3 ⊢;rw [e1, e2, e3]
 | k + 1 => by
   show dB rows (bA rows L a (k + 1)) (L.getD (a + (k + 1)) 0) = dB rows (bA rows L 0 (a + (k + 1))) (L.getD (0 + (a + (k + 1))) 0);rw [zlt ht hb k, qx]
theorem zxz (ht : d8 rows) {a : Nat} (hb : c6 rows L a = true) (k : Nat) : kG rows (bA rows L a (k + 1)) (L.getD (a + (k + 1)) 0) = c6 rows L (a + (k + 1)) := by
 rw [zlt ht hb k]; rfl
end
def eP (rows : List Row) (L : List Int) : Nat -> Nat -> Nat
 | 0, i => i
 | k + 1, i => if c6 rows L i = true then i else eP rows L k (i + 1)
def bO (rows : List Row) (L : List Int) (a : Nat) : Nat := eP rows L (L.length - (a + 1)) (a + 1)
theorem zlu (rows : List Row) (L : List Int) : ∀ k i, i <= eP rows L k i /\ eP rows L k i <= i + k /\ (eP rows L k i = i + k ∨ c6 rows L (eP rows L k i) = true)
 | 0, i => ⟨qj _, qj _, .inl rfl⟩
 | k + 1, i => by
   rw [eP];split
   ·rename_i h; exact ⟨qj _, by omega, .inr h⟩
   ·obtain ⟨h1, h2, h3⟩ := zlu rows L k (i + 1);exact ⟨by omega, by omega, h3.imp (fun e => by omega) id⟩
def kH (rows : List Row) (L : List Int) : Nat -> Nat -> List (List Int)
 | 0, _ => []
 | k + 1, i => if i < L.length then eL L i (bO rows L i) :: kH rows L k (bO rows L i) else []
def eQ (rows : List Row) (L : List Int) (i : Nat) : List (List Int) := kH rows L (L.length + 1) i
theorem eH {rows : List Row} {L : List Int} {i : Nat} (h : i < L.length) : i < bO rows L i /\ bO rows L i <= L.length /\ (bO rows L i = L.length ∨ c6 rows L (bO rows L i) = true) := by
 obtain ⟨h1, h2, h3⟩ := zlu rows L (L.length - (i + 1)) (i + 1);unfold bO;exact ⟨by omega, by omega, h3.imp (fun e => by omega) id⟩
theorem zlv (rows : List Row) (L : List Int) : ∀ k i, L.length + 1 <= k + i -> kH rows L k i = kH rows L (k + 1) i
 | 0, i, h => by rw [kH, kH, if_neg (by omega)]
 | k + 1, i, h => by
   rw [kH, kH];by_cases hi : i < L.length
   ·rw [if_pos hi, if_pos hi, zlv rows L k _ (by have := (eH (rows := rows) hi).1; omega)]
   ·rw [if_neg hi, if_neg hi]
theorem pN {rows : List Row} {L : List Int} {i : Nat} (h : L.length <= i) : eQ rows L i = [] := by unfold eQ; rw [kH, if_neg (by omega)]
theorem vL {rows : List Row} {L : List Int} {i : Nat} (h : i < L.length) : eQ rows L i = eL L i (bO rows L i) :: eQ rows L (bO rows L i) := by
 have := (eH (rows := rows) h).1;unfold eQ;rw [<- zlv rows L L.length (bO rows L i) (by omega), kH, if_pos h]
section
variable {rows : List Row} {L : List Int}
theorem zx0 (ht : d8 rows) (k : Nat) : c6 rows L (k + 1) =
 (if aK rows (L.getD k 0) = 1 /\ aK rows (L.getD (k + 1) 0) = 2 then false
  else if cX (aK rows (L.getD k 0)) = true ∨ cX (aK rows (L.getD (k + 1) 0)) = true then true
  else if nV (aK rows (L.getD k 0)) (aK rows (L.getD (k + 1) 0)) = true ∨ (aK rows (L.getD (k + 1) 0) = 4 ∨ aK rows (L.getD (k + 1) 0) = 5 ∨ aK rows (L.getD (k + 1) 0) = 8 ∨ aK rows (L.getD k 0) = 7) then false
  else !(decide (bE rows (L.getD (k + 1) 0) = 2) && decide ((bA rows L 0 (k + 1)).conj = 2)) && (!(bN rows 5 (L.getD (k + 1) 0) && decide ((bA rows L 0 (k + 1)).pict = 2)) && !(decide (aK rows (L.getD (k + 1) 0) = 6) && (bA rows L 0 (k + 1)).odd))) := by
 rw [zcn];have hl : (bA rows L 0 (k + 1)).last = aK rows (L.getD k 0) := by rw [vK, qx]
 have hp := zlr (a := 0) (L := L) ht (k + 1);have hc := zls (a := 0) (L := L) ht (k + 1)
 have ho : (bA rows L 0 (k + 1)).odd = true -> aK rows (L.getD k 0) = 6 := fun h => by
  have h' : (decide (aK rows (L.getD (0 + k) 0) = 6) && !(bA rows L 0 k).odd) = true := h;simp only [qb, aB, qx] at h'; exact h'.1
 have h5 := ht.pict (L.getD (k + 1) 0);have h6 := ht.cons (L.getD (k + 1) 0);rw [hl] at hp hc;generalize bA rows L 0 (k + 1) = st at *;generalize L.getD (k + 1) 0 = r at *;generalize L.getD k 0 = q at *;unfold mO;rw [hl]
 have hhard : cX (aK rows q) = true ∨ cX (aK rows r) = true -> (!(decide (st.pict = 2) && bN rows 5 r) && (!(decide (st.conj = 2) && decide (bE rows r = 2)) && !(st.odd && decide (aK rows r = 6)))) = true := fun h => by
  have g1 : (decide (st.pict = 2) && bN rows 5 r) = false := by
   rw [qr, bV];rcases h with h | h
   ·exact .inl fun e => by rw [hp (by omega)] at h; cases h
   ·right;cases ht5 : bN rows 5 r with
    | false => rfl
    | true => rw [(h5 ht5).1] at h; cases h
  have g2 : (decide (st.conj = 2) && decide (bE rows r = 2)) = false := by
   rw [qr, bV, bV];rcases h with h | h
   ·exact .inl fun e => by rw [hc (by omega)] at h; cases h
   ·exact .inr fun e => by rw [h6 (by omega)] at h; cases h
  have g3 : (st.odd && decide (aK rows r = 6)) = false := by
   rw [qr, bV];rcases h with h | h
   ·left;cases hod : st.odd with
    | false => rfl
    | true => rw [ho hod] at h; cases h
   ·exact .inr fun e => by rw [e] at h; cases h
  rw [g1, g2, g3]; rfl
 by_cases c1 : aK rows q = 1 /\ aK rows r = 2
 ·rw [if_pos c1];have : gT (aK rows q) (aK rows r) = true := by rw [c1.1, c1.2]; rfl
  rw [this]; rfl
 rw [if_neg c1];by_cases c2 : cX (aK rows q) = true ∨ cX (aK rows r) = true
 ·rw [if_pos c2, hhard c2, zxw c2 c1]; rfl
 rw [if_neg c2]
 have c3 : cX (aK rows q) = false /\ cX (aK rows r) = false := by
  constructor
  ·cases h : cX (aK rows q) with
   | false => rfl
   | true => exact absurd (.inl h) c2
  ·cases h : cX (aK rows r) with
   | false => rfl
   | true => exact absurd (.inr h) c2
 have hst : gT (aK rows q) (aK rows r) = true ↔ (nV (aK rows q) (aK rows r) = true ∨ (aK rows r = 4 ∨ aK rows r = 5 ∨ aK rows r = 8 ∨ aK rows q = 7)) := by
  obtain ⟨q1, q2⟩ := c3;generalize aK rows q = a at *;generalize aK rows r = b at *;unfold cX at q1 q2;simp only [qw, bV] at q1 q2;unfold gT;rw [if_neg q1.2.1, if_neg (by omega), if_neg (by omega)];by_cases d1 : b = 4 ∨ b = 5 ∨ b = 8
  ·rw [if_pos d1]; exact ⟨fun _ => .inr (by omega), fun _ => rfl⟩
  ·rw [if_neg d1];by_cases d2 : a = 7
   ·rw [if_pos d2]; exact ⟨fun _ => .inr (by omega), fun _ => rfl⟩
   ·rw [if_neg d2]; exact ⟨fun h => .inl h, fun h => h.resolve_right (by omega)⟩
 by_cases c4 : nV (aK rows q) (aK rows r) = true ∨ (aK rows r = 4 ∨ aK rows r = 5 ∨ aK rows r = 8 ∨ aK rows q = 7)
 ·rw [if_pos c4, hst.2 c4]; rfl
 ·rw [if_neg c4]
  have : gT (aK rows q) (aK rows r) = false := by
   cases h : gT (aK rows q) (aK rows r) with
   | false => rfl
   | true => exact absurd (hst.1 h) c4
  rw [this];simp only [qbq, qaa];rw [qbe (decide (bE rows r = 2)), qbe (bN rows 5 r), qbe (decide (aK rows r = 6))];cases (decide (st.conj = 2) && decide (bE rows r = 2)) <;> cases (decide (st.pict = 2) && bN rows 5 r) <;> rfl
theorem zlw (k : Nat) : (bA rows L 0 (k + 1)).conj = if bE rows (L.getD k 0) = 2 then 1 else if (bA rows L 0 k).conj ≠ 0 /\ bE rows (L.getD k 0) = 1 then 2 else if (bA rows L 0 k).conj ≠ 0 /\ bE rows (L.getD k 0) = 3 then (bA rows L 0 k).conj else 0 := by
 show (dB rows (bA rows L 0 k) (L.getD (0 + k) 0)).conj = _;rw [qx]; rfl
theorem zco (k : Nat) : (bA rows L 0 (k + 1)).pict = if bN rows 5 (L.getD k 0) = true then 1 else if (bA rows L 0 k).pict = 1 /\ aK rows (L.getD k 0) = 4 then 1 else if (bA rows L 0 k).pict = 1 /\ aK rows (L.getD k 0) = 5 then 2 else 0 := by
 show (dB rows (bA rows L 0 k) (L.getD (0 + k) 0)).pict = _;rw [qx]; rfl
theorem zlx (k : Nat) : (bA rows L 0 (k + 1)).odd = (decide (aK rows (L.getD k 0) = 6) && !(bA rows L 0 k).odd) := by
 show (dB rows (bA rows L 0 k) (L.getD (0 + k) 0)).odd = _;rw [qx]; rfl
end
end Go.Eng.Rows

namespace Go.Eng.Rows
open Go Go.Eng Go.Eng.Trie Go.Eng.Srt
def vM (rows : List Row) (hard : List Int) (lo hi : Int) : Bool := rows.all fun y => !(decide (y.kind = 4) && hard.contains y.a) || (decide (y.to < lo) || decide (hi < y.fr))
theorem zly {rows : List Row} {hard : List Int} {lo hi r : Int} (h : vM rows hard lo hi = true) (h0 : hard.contains 0 = false) (h1 : hard.contains 12 = false) (h2 : hard.contains 13 = false) (hr : lo <= r /\ r <= hi) : hard.contains (aK rows r) = false := by
 unfold aK;split
 ·split <;> assumption
 ·unfold aH;cases hf : bR rows 4 r with
  | none => exact h0
  | some p =>
    obtain ⟨x, hx, hk, ha, _, h3, h4, _⟩ := iF hf;dsimp only;rw [<- ha];have := List.all_eq_true.1 h x hx;simp only [qg, qh, qr, aB, bV] at this;rcases this with (h5 | h5) | h5 | h5
    ·exact absurd hk h5
    ·exact h5
    ·omega
    ·omega
def zx1 (rows : List Row) : Bool := rows.all fun x =>
 (!(decide (x.kind = 5) && decide (x.a = 1)) || vM rows [1, 2, 3, 5] x.fr x.to) &&
 (!decide (x.kind = 6) || (vM rows [1, 2, 3] x.fr x.to && ((decide (0 <= x.a) && decide (x.a <= 2)) && (!decide (x.a = 1) || (decide (x.fr = x.to) && (decide (aK rows x.fr = 4) || (decide (aK rows x.fr = 5) || decide (aK rows x.fr = 8))))))))
theorem zx2 {b : Int} (h : ([1, 2, 3] : List Int).contains b = false) : cX b = false := by
 simp only [qbh, qbl, qbs, qw, beq_eq_false_iff_ne, ne_eq] at h;unfold cX;simp only [qw, bV]; omega
theorem zx3 {rows : List Row} (h : zx1 rows = true) : d8 rows := by
 have hall := List.all_eq_true.1 h
 have h6 : ∀ r, aH rows 6 r ≠ 0 -> ∃ x ∈ rows, x.kind = 6 /\ x.a = aH rows 6 r /\ x.fr <= r /\ r <= x.to := fun r hr => by
  unfold aH at hr ⊢;cases hf : bR rows 6 r with
  | none => rw [hf] at hr; exact absurd rfl hr
  | some p =>
    obtain ⟨x, hx, hk, ha, _, h3, h4, _⟩ := iF hf;exact ⟨x, hx, hk, ha, h3, h4⟩
 have g6 : ∀ x ∈ rows, x.kind = 6 -> vM rows [1, 2, 3] x.fr x.to = true /\ (0 <= x.a /\ x.a <= 2) /\ (x.a ≠ 1 ∨ (x.fr = x.to /\ (aK rows x.fr = 4 ∨ aK rows x.fr = 5 ∨ aK rows x.fr = 8))) := fun x hx hk => by
  have := hall x hx;simp only [qb, qg, qh, aB, bV] at this;rcases this.2 with h | h
  ·exact absurd hk h
  ·exact h
 refine ⟨fun r hr => ?_, fun r => ?_, fun r hr => ?_, fun r hr => ?_⟩
 ·unfold bN at hr;cases hf : bR rows 5 r with
  | none => rw [hf] at hr; cases hr
  | some p =>
    rw [hf] at hr;obtain ⟨x, hx, hk, ha, _, h3, h4, _⟩ := iF hf;have := hall x hx;simp only [qb, qg, qh, qr, bV] at this;rcases this.1 with (h5 | h5) | h5
    ·exact absurd hk h5
    ·exact absurd (ha.trans (of_decide_eq_true hr)) h5
    ·have := zly h5 (by decide) (by decide) (by decide) ⟨h3, h4⟩;simp only [qbh, qbl, qbs, qw, beq_eq_false_iff_ne, ne_eq] at this;refine ⟨?_, this.2.2.2⟩;unfold cX;simp only [qw, bV]; exact ⟨this.2.2.1, this.1, this.2.1⟩
 ·unfold bE;split
  ·rename_i hn;obtain ⟨x, hx, hk, ha, _, _⟩ := h6 r hn;have := (g6 x hx hk).2.1;omega
  ·split
   ·exact .inr (.inr (.inr rfl))
   ·exact .inl rfl
 ·unfold bE at hr;split at hr
  ·rename_i hn;obtain ⟨x, hx, hk, ha, h3, h4⟩ := h6 r hn;exact zx2 (zly (g6 x hx hk).1 (by decide) (by decide) (by decide) ⟨h3, h4⟩)
  ·split at hr
   ·rename_i h4;unfold cX;rcases h4.1 with e | e <;> rw [e] <;> rfl
   ·exact absurd rfl hr
 ·unfold bE at hr;split at hr
  ·rename_i hn;obtain ⟨x, hx, hk, ha, h3, h4⟩ := h6 r hn;obtain ⟨_, g2, g3⟩ := g6 x hx hk;have h1 : x.a = 1 := by omega
   obtain ⟨g4, g5⟩ := g3.resolve_left (fun h => h h1);rw [show r = x.fr by omega]; exact g5
  ·split at hr
   ·rename_i h4;rcases h4.1 with e | e
    ·exact .inl e
    ·exact .inr (.inl e)
   ·omega
end Go.Eng.Rows
namespace Go.Eng
open Go.Eng.Rows
theorem zx4 : d8 tab := zx3 (by kernel_rfl)
end Go.Eng


namespace Go.Eng.Srt
open Go Go.Eng
end Go.Eng.Srt
namespace Go.Eng.Rows
open Go Go.Eng Go.Eng.Trie Go.Eng.Srt
section
variable {rows : List Row}
end
section
variable (ks : List (List Int))
end
section
variable {ks : List (List Int)} {want : List Int}
end
section
variable {rows : List Row} {L : List Int}
theorem zlz : ∀ (n i : Nat), L.length - i <= n -> (eQ rows L i).flatten = L.drop i
 | 0, i, h => by rw [pN (by omega), qbc (by omega)]; rfl
 | n + 1, i, h => by
   by_cases hi : i < L.length
   ·obtain ⟨h1, h2, _⟩ := eH (rows := rows) hi;rw [vL hi, qat, zlz n _ (by omega), zxu (j := i) (b := bO rows L i) (by omega) h2]
   ·rw [pN (by omega), qbc (by omega)]; rfl
theorem zcp (rows : List Row) (L : List Int) : (eQ rows L 0).flatten = L := by rw [zlz L.length 0 (by omega)]; rfl
theorem zl0 : ∀ (n i : Nat), L.length - i <= n -> ∀ c ∈ eQ rows L i, c ≠ []
 | 0, i, h, c, hc => by rw [pN (by omega)] at hc; cases hc
 | n + 1, i, h, c, hc => by
   by_cases hi : i < L.length
   ·obtain ⟨h1, h2, _⟩ := eH (rows := rows) hi;rw [vL hi] at hc;rcases List.mem_cons.1 hc with rfl | hc
    ·rw [zxv h1 h2]; exact List.cons_ne_nil _ _
    ·exact zl0 n _ (by omega) c hc
   ·rw [pN (by omega)] at hc; cases hc
theorem zl1 (rows : List Row) (L : List Int) : c6 rows L 0 = true := rfl
end
end Go.Eng.Rows

namespace Go.Eng
open Go Go.Proofs
section
variable (tc tg tj tf tp : PV) (M S : List (PV × PV)) (r : Int)
def zl2 (R : PV -> Prop) : Prop :=
 if (decide (r >= 44032) && decide (r <= 55203) && (i32.wrap (r - 44032)).tmod (28 : Int) == 0) = true then R (Z6 12) else if (decide (r >= 44032) && decide (r <= 55203)) = true then R (Z6 13) else (∃ ps, some tg = some (PV.ptr ps) /\ PCall qa 119 [PV.ptr ps, Z6 (i64.wrap r)] fun v => ∃ n, v = Z6 n /\ R (Z6 n)) ∨ some tg = some PV.nilp /\ PCall qa 119 [PV.nilp, Z6 (i64.wrap r)] fun v => ∃ n, v = Z6 n /\ R (Z6 n)
theorem zx5 {R : PV -> Prop} (h : zl2 tg r R) : PCall qa 142 [.ptr [tc, tg, tj, tf, tp, .mp M, .mp S], .int .i32 r] R :=
 PCall.wz Tryz.func142 aM [0, 1, 4, 5, 18, 25] aT h
end
section
variable (tc tg tj tf tp : PV) (M S : List (PV × PV)) (r : Int)
def zl3 (R : PV -> Prop) : Prop :=
 let V1 := PCall qa 142 [PV.ptr [tc, tg, tj, tf, tp, PV.mp M, PV.mp S], Z3 r] fun v1 => ∃ n1, v1 = Z6 n1 /\ if ((n1 == 4 || n1 == 5) && r != 8204) = true then R (Z6 3) else R (Z6 0); (∃ ps, some tj = some (PV.ptr ps) /\ PCall qa 119 [PV.ptr ps, Z6 (i64.wrap r)] fun v => ∃ n, v = Z6 n /\ if (n != 0) = true then R (Z6 n) else V1) ∨ some tj = some PV.nilp /\ PCall qa 119 [PV.nilp, Z6 (i64.wrap r)] fun v => ∃ n, v = Z6 n /\ if (n != 0) = true then R (Z6 n) else V1
theorem zx6 {R : PV -> Prop} (h : zl3 tc tg tj tf tp M S r R) : PCall qa 144 [.ptr [tc, tg, tj, tf, tp, .mp M, .mp S], .int .i32 r] R :=
 PCall.wz Tryz.func144 aM [0, 1, 4, 5, 6, 8, 17, 31] aT h
end
section
variable (tc tg tj tf tp : PV) (M S : List (PV × PV)) (r : Int)
def zl4 (R : PV -> Prop) : Prop :=
 (∃ ps, some tf = some (PV.ptr ps) /\ PCall qa 92 [PV.ptr ps, Z6 (i64.wrap r)] fun v => ∃ cs, v = PV.agg cs /\ cs.length = 4 /\ ∃ b, cs.head? = some (Zb b) /\ ∃ b1, cs.tail.head? = some (Zb b1) /\ ∃ b2, cs.tail.tail.head? = some (Zb b2) /\ ∃ b3, cs.tail.tail.tail.head? = some (Zb b3) /\ R (Zb b)) ∨ some tf = some PV.nilp /\ PCall qa 92 [PV.nilp, Z6 (i64.wrap r)] fun v => ∃ cs, v = PV.agg cs /\ cs.length = 4 /\ ∃ b, cs.head? = some (Zb b) /\ ∃ b1, cs.tail.head? = some (Zb b1) /\ ∃ b2, cs.tail.tail.head? = some (Zb b2) /\ ∃ b3, cs.tail.tail.tail.head? = some (Zb b3) /\ R (Zb b)
theorem zx7 {R : PV -> Prop} (h : zl4 tf r R) : PCall qa 143 [.ptr [tc, tg, tj, tf, tp, .mp M, .mp S], .int .i32 r] R :=
 PCall.wz Tryz.func143 aM [0, 1, 4] aT h
end
section
variable (n f : Bool) (es : LL) (r : Int)
def zl5 (R : PV -> Prop) : Prop :=
 if (decide (r >= 44032) && decide (r <= 55203)) = true then if ((i32.wrap (r - 44032)).tmod (28 : Int) == 0) = true then R (Z6 12) else R (Z6 13) else PCall qa 129 [PV.sl n f es, Z6 4, Z3 r] fun v => ∃ n1, v = Z6 n1 /\ R (Z6 n1)
theorem zx8 {R : PV -> Prop} (h : zl5 n f es r R) : PCall qa 152 [.sl n f es, .int .i32 r] R :=
 PCall.wz Tryz.func152 aM [0, 1, 4, 10, 14] aT h
end
section
variable (n f : Bool) (es : LL) (r : Int)
def zl6 (R : PV -> Prop) : Prop :=
 PCall qa 129 [PV.sl n f es, Z6 6, Z3 r] fun v => ∃ n1, v = Z6 n1 /\ if (n1 != 0) = true then R (Z6 n1) else PCall qa 152 [PV.sl n f es, Z3 r] fun v1 => ∃ n2, v1 = Z6 n2 /\ if ((n2 == 4 || n2 == 5) && r != 8204) = true then R (Z6 3) else R (Z6 0)
theorem zx9 {R : PV -> Prop} (h : zl6 n f es r R) : PCall qa 170 [.sl n f es, .int .i32 r] R :=
 PCall.wz Tryz.func170 aM [0, 1, 4, 5, 6, 11, 25] aT h
end
section
variable (a b : Int)
def zl7 (R : PV -> Prop) : Prop :=
 let X := if (a == 13) = true then if (a == 13) = true then R (Zb (b == 11)) else R (Zb false) else if (a == 11) = true then R (Zb (b == 11)) else R (Zb false)
 let A := if (a == 7) = true then R (Zb true) else if (a == 9) = true then R (Zb (b == 9 || b == 10 || b == 12 || b == 13)) else if (a == 12) = true then if (a == 12) = true then R (Zb (b == 10 || b == 11)) else X else if (a == 10) = true then R (Zb (b == 10 || b == 11)) else X
 let B := if (b == 4) = true then if (b == 4) = true then R (Zb true) else A else if (b == 5) = true then if (b == 5) = true then R (Zb true) else A else if (b == 8) = true then R (Zb true) else A
 let C := if (b == 1) = true then if (b == 1) = true then R (Zb false) else B else if (b == 2) = true then if (b == 2) = true then R (Zb false) else B else if (b == 3) = true then R (Zb false) else B
 if (a == 1) = true then R (Zb (b == 2)) else if (a == 2) = true then if (a == 2) = true then R (Zb false) else C else if (a == 3) = true then R (Zb false) else C
theorem zya {R : PV -> Prop} (h : zl7 a b R) : PCall qa 145 [.int .i64 a, .int .i64 b] R :=
 PCall.wz Tryz.func145 aM [0, 1, 4, 5, 6, 10, 13, 14, 18, 22, 23, 25, 41, 50] aT h
end
section
variable (so od : Bool) (la pi co : Int) (tc tg tj tf tp : PV) (M S : List (PV × PV)) (r : Int)
def zl8 (R : PV -> Prop) : Prop :=
 PCall qa 142 [PV.ptr [tc, tg, tj, tf, tp, PV.mp M, PV.mp S], Z3 r] fun v => ∃ n, v = Z6 n /\ PCall qa 143 [PV.ptr [tc, tg, tj, tf, tp, PV.mp M, PV.mp S], Z3 r] fun v1 => ∃ b, v1 = Zb b /\ PCall
 qa 144 [PV.ptr [tc, tg, tj, tf, tp, PV.mp M, PV.mp S], Z3 r] fun v2 => ∃ n1, v2 = Z6 n1 /\ PCall qa 145 [Z6 la, Z6 n] fun v3 => ∃ b1, v3 = Zb b1 /\
 let C : Int -> Bool -> Bool -> Prop := fun p o c => if (n1 == 2) = true then R (PV.tup [PV.agg [Zb true, Z6 n, Z6 p, Z6 1, Zb o], Zb c]) else if (co != 0 && n1 == 1) = true then R (PV.tup [PV.agg [Zb true, Z6 n, Z6 p, Z6 2, Zb o], Zb c]) else if (co != 0 && n1 == 3) = true then R (PV.tup [PV.agg [Zb true, Z6 n, Z6 p, Z6 co, Zb o], Zb c]) else R (PV.tup [PV.agg [Zb true, Z6 n, Z6 p, Z6 0, Zb o], Zb c])
 let D : Bool -> Bool -> Prop := fun o c => if b = true then C 1 o c else if (pi == 1 && n == 4) = true then C 1 o c else if (pi == 1 && n == 5) = true then C 2 o c else C 0 o c
 let E : Bool -> Prop := fun c => if (n == 6) = true then D (!od) c else D false c
 if (!b1) = true then if (!(pi == 2 && b)) = true then if (!(co == 2 && n1 == 2)) = true then E (!so || !(od && n == 6)) else E (!so || false) else E (!so || false) else E (!so || false)
theorem zyb {R : PV -> Prop} (h : zl8 so od la pi co tc tg tj tf tp M S r R) : PCall qa 120 [.agg [.bool so, .int .i64 la, .int .i64 pi, .int .i64 co, .bool od], .ptr [tc, tg, tj, tf, tp, .mp M, .mp S], .int .i32 r] R :=
 PCall.wz Tryz.func120 aM [0, 1, 2, 3, 6, 7, 8, 9, 10, 11, 12, 64, 67, 76, 85, 89, 98] aT h
end
def zcq (tc tg tj tf tp : PV) (M S : List (PV × PV)) (n f : Bool) (es : LL) (x2 : Int) (h0_0 : Bool) (h0_1 h0_2 h0_3 : Int) (h0_4 : Bool) : Env × Hp := ([(0, LV.pv (PV.ptr [tc, tg, tj, tf, tp, PV.mp M, PV.mp S])), (1, LV.pv (PV.sl n f es)), (2, Y6 x2), (7, LV.box 0 0)], [.box [.pv (.bool h0_0), Y6 h0_1, Y6 h0_2, Y6 h0_3, .pv (.bool h0_4)]])
section
variable (tc tg tj tf tp : PV) (M S : List (PV × PV)) (n f : Bool) (es : LL) (k : Int) (J : Int -> Bool -> Int -> Int -> Int -> Bool -> Prop) (μ : Int -> Bool -> Int -> Int -> Int -> Bool -> Nat)
def zl9 (R : PV -> Prop) : Prop :=
 if (decide (k < 0) || decide (k >= (↑es.length : Int))) = true then R (Z6 (↑es.length : Int)) else aI es k 1 /\ ∃ n1, (es.getD k.toNat []).head? = some (Z3 n1) /\ PCall qa 120 [PV.agg [Zb false, Z6 0, Z6 0, Z6 0, Zb false],
  PV.ptr [tc, tg, tj, tf, tp, PV.mp M, PV.mp S], Z3 n1] fun v => ∃ vs, v = PV.tup vs /\ vs.length = 2 /\ ∃ x, vs.head? = some x /\ ∃ cs, x = PV.agg cs /\ cs.length = 5 /\ ∃ b, cs.head? = some (Zb b)
  /\ ∃ n2, cs.tail.head? = some (Z6 n2) /\ ∃ n3, cs.tail.tail.head? = some (Z6 n3) /\ ∃ n4, cs.tail.tail.tail.head? = some (Z6 n4) /\ ∃ b1, cs.tail.tail.tail.tail.head? = some (Zb b1) /\ ∃ (x1 : PV),
  vs.tail.head? = some x1 /\ ∃ b2, x1 = Zb b2 /\ (aF (zcq tc tg tj tf tp M S n f es (i64.wrap (k + 1)) b n2 n3 n4 b1) /\ J (i64.wrap (k + 1)) b n2 n3 n4 b1) /\ ∀ (x2 : Int) (h0_0 : Bool) (h0_1 h0_2 h0_3 : Int)
  (h0_4 : Bool), J x2 h0_0 h0_1 h0_2 h0_3 h0_4 ->
 let K5 := fun (y0_ : Int) (y1_ : Bool) (y2_ y3_ y4_ : Int) (y5_ : Bool) => aF (zcq tc tg tj tf tp M S n f es y0_ y1_ y2_ y3_ y4_ y5_) /\ J y0_ y1_ y2_ y3_ y4_ y5_ /\ μ y0_ y1_ y2_ y3_ y4_ y5_ < μ x2 h0_0 h0_1 h0_2 h0_3
  h0_4; if decide (x2 < (↑es.length : Int)) = true then aI es x2 1 /\ ∃ n5, (es.getD x2.toNat []).head? = some (Z3 n5) /\ (PCall qa 120 [PV.agg [Zb h0_0, Z6 h0_1, Z6 h0_2, Z6 h0_3, Zb h0_4], PV.ptr [tc, tg, tj, tf, tp,
  PV.mp M, PV.mp S], Z3 n5] fun v1 => ∃ vs1, v1 = PV.tup vs1 /\ vs1.length = 2 /\ ∃ x3, vs1.head? = some x3 /\ ∃ cs1, x3 = PV.agg cs1 /\ cs1.length = 5 /\ ∃ b3, cs1.head? = some (Zb b3) /\ ∃ (n6 :
  Int), cs1.tail.head? = some (Z6 n6) /\ ∃ n7, cs1.tail.tail.head? = some (Z6 n7) /\ ∃ n8, cs1.tail.tail.tail.head? = some (Z6 n8) /\ ∃ b4, cs1.tail.tail.tail.tail.head? = some (Zb b4) /\ ∃ x4, vs1.tail.head? =
  some x4 /\ ∃ b5, x4 = Zb b5 /\
 let V1 := if b5 = true then R (Z6 x2) else K5 (i64.wrap (x2 + 1)) b3 n6 n7 n8 b4; V1 /\ V1 /\ V1) /\ PCall qa 120 [PV.agg [Zb h0_0, Z6 h0_1, Z6 h0_2, Z6 h0_3, Zb h0_4], PV.ptr [tc, tg, tj, tf, tp, PV.mp M, PV.mp S], Z3 n5] fun
  (v1 : PV) => ∃ vs1, v1 = PV.tup vs1 /\ vs1.length = 2 /\ ∃ x3, vs1.head? = some x3 /\ ∃ cs1, x3 = PV.agg cs1 /\ cs1.length = 5 /\ ∃ b3, cs1.head? = some (Zb b3) /\ ∃ n6, cs1.tail.head? = some (Z6
  n6) /\ ∃ n7, cs1.tail.tail.head? = some (Z6 n7) /\ ∃ n8, cs1.tail.tail.tail.head? = some (Z6 n8) /\ ∃ b4, cs1.tail.tail.tail.tail.head? = some (Zb b4) /\ ∃ x4, vs1.tail.head? = some x4 /\ ∃ b5, x4 = Zb
  b5 /\
 let V2 := if b5 = true then R (Z6 x2) else K5 (i64.wrap (x2 + 1)) b3 n6 n7 n8 b4; V2 /\ V2 else R (Z6 x2)
theorem zyc {R : PV -> Prop} (h : zl9 tc tg tj tf tp M S n f es k J μ R) : PCall qa 94 [.ptr [tc, tg, tj, tf, tp, .mp M, .mp S], .sl n f es, .int .i64 k] R :=
 PCall.wz Tryz.func94 aM [0, 1, 2, 6, 7, 9, 10, 18, 36, 49] (bP 5 (aX cz6 (zcq tc tg tj tf tp M S n f es) J μ (fun e h => (gI e 2, hB h 0 0, hI h 0 1, hI h 0 2, hI h 0 3, hB h 0 4)) [] [0, 1, 2, 7] [])) h
end
def zcr (tc tg tj tf tp : PV) (M S : List (PV × PV)) (n f : Bool) (es : LL) (x6 : Int) (n_0 : Bool) (s_0 : LL) : Env × Hp := ([(0, LV.pv (PV.ptr [tc, tg, tj, tf, tp, PV.mp M, PV.mp S])), (1, LV.pv (PV.sl n f es)), (5, LV.own 0), (6, Y6 x6)], [.sl (22, 1) true n_0 s_0])
section
variable (tc tg tj tf tp : PV) (M S : List (PV × PV)) (n f : Bool) (es : LL) (J : Int -> Bool -> LL -> Prop) (μ : Int -> Bool -> LL -> Nat)
def zma (R : PV -> Prop) : Prop :=
 (aF (zcr tc tg tj tf tp M S n f es (0 : Int) true []) /\ J (0 : Int) true []) /\ ∀ (x6 : Int) (n_0 : Bool) (s_0 : LL), J x6 n_0 s_0 -> if decide (x6 < (↑es.length : Int)) = true then PCall qa 94 [PV.ptr [tc, tg, tj, tf, tp, PV.mp M, PV.mp S], PV.sl n f es, Z6 x6] fun v => ∃ n1, v = Z6 n1 /\ (cU es.length (some x6) (some n1) none /\ aR es 1) /\ PCall qa 67 [PV.sl n (f && decide (n1 = (↑es.length : Int))) (qe x6.toNat (qi n1.toNat es))] fun v1 => ∃ n2 f1 es1, v1 = PV.sl n2 f1 es1 /\ (aR [[PV.sl n2 f1 es1]] 1 /\ (s_0.length + 1) * 24 <= 140737488355328) /\ aF (zcr tc tg tj tf tp M S n f es n1 (n_0 && false) (s_0 ++ [[PV.sl n2 f1 es1]])) /\ J n1 (n_0 && false) (s_0 ++ [[PV.sl n2 f1 es1]]) /\ μ n1 (n_0 && false) (s_0 ++ [[PV.sl n2 f1 es1]]) < μ x6 n_0 s_0 else R (PV.sl n_0 false s_0)
theorem zyd {R : PV -> Prop} (h : zma tc tg tj tf tp M S n f es J μ R) : PCall qa 59 [.ptr [tc, tg, tj, tf, tp, .mp M, .mp S], .sl n f es] R :=
 PCall.wz Tryz.func59 aM [0, 1, 4, 5, 6, 7, 11] (bP 3 (aX dM (zcr tc tg tj tf tp M S n f es) J μ (fun e h => (gI e 6, oN h 0, oS h 0)) [(5, 22, 1)] [0, 1, 5, 6] [])) h
end
section
variable (a : Int)
def zmb (R : PV -> Prop) : Prop :=
 R (Zb (a == 3 || a == 1 || a == 2))
theorem zye {R : PV -> Prop} (h : zmb a R) : PCall qa 153 [.int .i64 a] R :=
 PCall.wz Tryz.func153 aM [0, 2] aT h
end
section
variable (a b : Int)
def zmc (R : PV -> Prop) : Prop :=
 if (a == 9) = true then R (Zb (b == 9 || b == 10 || b == 12 || b == 13)) else if (a == 12 || a == 10) = true then R (Zb (b == 10 || b == 11)) else if (a == 13 || a == 11) = true then R (Zb (b == 11)) else R (Zb false)
theorem zyf {R : PV -> Prop} (h : zmc a b R) : PCall qa 154 [.int .i64 a, .int .i64 b] R :=
 PCall.wz Tryz.func154 aM [0, 1, 4, 6, 26, 38] aT h
end
def zcs (n f : Bool) (es : LL) (n2 f2 : Bool) (ss : LL) (x7 : Bool) (x8 : Int) : Env × Hp := ([(0, LV.pv (PV.sl n f es)), (1, LV.pv (PV.sl n2 f2 ss)), (7, .pv (.bool x7)), (8, Y6 x8)], [])
section
variable (n f : Bool) (es : LL) (n2 f2 : Bool) (ss : LL) (k : Int) (J : Bool -> Int -> Prop) (μ : Bool -> Int -> Nat)
def zmd (R : PV -> Prop) : Prop :=
 aI ss k 1 /\ ∃ n1, (ss.getD k.toNat []).head? = some (Z3 n1) /\ PCall qa 170 [PV.sl n f es, Z3 n1] fun v => ∃ n3, v = Z6 n3 /\ if (n3 != 2) = true then R (Zb false) else (aF (zcs n f es n2 f2 ss false (i64.wrap (k - 1))) /\ J false (i64.wrap (k - 1))) /\ ∀ (x7 : Bool) (x8 : Int), J x7 x8 ->
 let K5 := fun (y0_ : Bool) (y1_ : Int) => aF (zcs n f es n2 f2 ss y0_ y1_) /\ J y0_ y1_ /\ μ y0_ y1_ < μ x7 x8; if decide (x8 >= 0) = true then aI ss x8 1 /\ ∃ n4, (ss.getD x8.toNat []).head? = some (Z3 n4) /\ PCall qa 170 [PV.sl n f es, Z3 n4] fun v1 => ∃ n5, v1 = Z6 n5 /\ if (n5 == 2) = true then R (Zb x7) else if (n5 == 0) = true then R (Zb false) else if (n5 == 1) = true then K5 true (i64.wrap (x8 - 1)) else K5 x7 (i64.wrap (x8 - 1)) else R (Zb false)
theorem zyg {R : PV -> Prop} (h : zmd n f es n2 f2 ss k J μ R) : PCall qa 155 [.sl n f es, .sl n2 f2 ss, .int .i64 k] R :=
 PCall.wz Tryz.func155 aM [0, 1, 2, 6, 7, 8, 9, 16, 20, 30, 33, 35] (bP 5 (aX fM (zcs n f es n2 f2 ss) J μ (fun e h => (gB e 7, gI e 8)) [] [0, 1, 7, 8] [])) h
end
def zct (n f : Bool) (es : LL) (n2 f2 : Bool) (ss : LL) (x7 : Int) : Env × Hp := ([(0, LV.pv (PV.sl n f es)), (1, LV.pv (PV.sl n2 f2 ss)), (7, Y6 x7)], [])
section
variable (n f : Bool) (es : LL) (n2 f2 : Bool) (ss : LL) (k : Int) (J : Int -> Prop) (μ : Int -> Nat)
def zme (R : PV -> Prop) : Prop :=
 aI ss k 1 /\ ∃ n1, (ss.getD k.toNat []).head? = some (Z3 n1) /\ PCall qa 129 [PV.sl n f es, Z6 5, Z3 n1] fun v => ∃ n3, v = Z6 n3 /\ if (n3 != 1) = true then R (Zb false) else aI ss (i64.wrap (k - 1)) 1 /\ ∃ n4, (ss.getD (i64.wrap (k - 1)).toNat []).head? = some (Z3 n4) /\ PCall qa 152 [PV.sl n f es, Z3 n4] fun v1 => ∃ n5, v1 = Z6 n5 /\ if (n5 != 5) = true then R (Zb false) else (aF (zct n f es n2 f2 ss (i64.wrap (k - 2))) /\ J (i64.wrap (k - 2))) /\ ∀ (x7 : Int), J x7 -> if decide (x7 >= 0) = true then aI ss x7 1 /\ ∃ n6, (ss.getD x7.toNat []).head? = some (Z3 n6) /\ PCall qa 129 [PV.sl n f es, Z6 5, Z3 n6] fun v2 => ∃ n7, v2 = Z6 n7 /\ if (n7 == 1) = true then R (Zb true) else aI ss x7 1 /\ ∃ n8, (ss.getD x7.toNat []).head? = some (Z3 n8) /\ PCall qa 152 [PV.sl n f es, Z3 n8] fun v3 => ∃ n9, v3 = Z6 n9 /\ if (n9 != 4) = true then R (Zb false) else aF (zct n f es n2 f2 ss (i64.wrap (x7 - 1))) /\ J (i64.wrap (x7 - 1)) /\ μ (i64.wrap (x7 - 1)) < μ x7 else R (Zb false)
theorem zyh {R : PV -> Prop} (h : zme n f es n2 f2 ss k J μ R) : PCall qa 156 [.sl n f es, .sl n2 f2 ss, .int .i64 k] R :=
 PCall.wz Tryz.func156 aM [0, 1, 2, 6, 7, 24, 28, 37, 44] (bP 4 (aX iU (zct n f es n2 f2 ss) J μ (fun e h => (((gI e 7), ()))) [] [0, 1, 7] [])) h
end
def zcu (n f : Bool) (es : LL) (n2 f2 : Bool) (ss : LL) (x7 x8 : Int) : Env × Hp := ([(0, LV.pv (PV.sl n f es)), (1, LV.pv (PV.sl n2 f2 ss)), (7, Y6 x7), (8, Y6 x8)], [])
section
variable (n f : Bool) (es : LL) (n2 f2 : Bool) (ss : LL) (k : Int) (J : Int -> Int -> Prop) (μ : Int -> Int -> Nat)
def zmf (R : PV -> Prop) : Prop :=
 aI ss k 1 /\ ∃ n1, (ss.getD k.toNat []).head? = some (Z3 n1) /\ PCall qa 152 [PV.sl n f es, Z3 n1] fun v => ∃ n3, v = Z6 n3 /\ if (n3 != 6) = true then R (Zb false) else (aF (zcu n f es n2 f2 ss (0 : Int) (i64.wrap (k - 1))) /\ J (0 : Int) (i64.wrap (k - 1))) /\ ∀ (x7 x8 : Int), J x7 x8 -> if decide (x8 >= 0) = true then aI ss x8 1 /\ ∃ n4, (ss.getD x8.toNat []).head? = some (Z3 n4) /\ PCall qa 152 [PV.sl n f es, Z3 n4] fun v1 => ∃ n5, v1 = Z6 n5 /\ if (n5 == 6) = true then aF (zcu n f es n2 f2 ss (i64.wrap (x7 + 1)) (i64.wrap (x8 - 1))) /\ J (i64.wrap (x7 + 1)) (i64.wrap (x8 - 1)) /\ μ (i64.wrap (x7 + 1)) (i64.wrap (x8 - 1)) < μ x7 x8 else R (Zb (x7.tmod (2 : Int) == 1)) else R (Zb (x7.tmod (2 : Int) == 1))
theorem zyi {R : PV -> Prop} (h : zmf n f es n2 f2 ss k J μ R) : PCall qa 157 [.sl n f es, .sl n2 f2 ss, .int .i64 k] R :=
 PCall.wz Tryz.func157 aM [0, 1, 2, 6, 7, 8, 15, 28] (bP 5 (aX fM (zcu n f es n2 f2 ss) J μ (fun e h => (gI e 7, gI e 8)) [] [0, 1, 7, 8] [])) h
end
section
variable (n f : Bool) (es : LL) (n2 f2 : Bool) (ss : LL) (k : Int)
def zmg (R : PV -> Prop) : Prop :=
 if (k == 0) = true then R (Zb true) else aI ss (i64.wrap (k - 1)) 1 /\ ∃ n1, (ss.getD (i64.wrap (k - 1)).toNat []).head? = some (Z3 n1) /\ aI ss k 1 /\ ∃ n3, (ss.getD k.toNat []).head? = some (Z3 n3) /\ PCall qa 152 [PV.sl n f es, Z3 n1] fun v => ∃ n4, v = Z6 n4 /\ PCall qa 152 [PV.sl n f es, Z3 n3] fun v1 => ∃ n5, v1 = Z6 n5 /\ if (n4 == 1 && n5 == 2) = true then R (Zb false) else PCall qa 153 [Z6 n4] fun v2 => ∃ b, v2 = Zb b /\ if b = true then R (Zb true) else PCall qa 153 [Z6 n5] fun v3 => ∃ b1, v3 = Zb b1 /\ if b1 = true then R (Zb true) else PCall qa 154 [Z6 n4, Z6 n5] fun v4 => ∃ b2, v4 = Zb b2 /\ if (b2 || n5 == 4 || n5 == 5 || n5 == 8 || n4 == 7) = true then R (Zb false) else PCall qa 155 [PV.sl n f es, PV.sl n2 f2 ss, Z6 k] fun v5 => ∃ b3, v5 = Zb b3 /\ if (!b3) = true then PCall qa 156 [PV.sl n f es, PV.sl n2 f2 ss, Z6 k] fun v6 => ∃ b4, v6 = Zb b4 /\ if (!b4) = true then PCall qa 157 [PV.sl n f es, PV.sl n2 f2 ss, Z6 k] fun v7 => ∃ b5, v7 = Zb b5 /\ R (Zb !b5) else R (Zb false) else R (Zb false)
theorem zyj {R : PV -> Prop} (h : zmg n f es n2 f2 ss k R) : PCall qa 124 [.sl n f es, .sl n2 f2 ss, .int .i64 k] R :=
 PCall.wz Tryz.func124 aM [0, 1, 2, 6, 7, 8, 10, 29, 35, 54] aT h
end
def zcv (n f : Bool) (es : LL) (n2 f2 : Bool) (ss : LL) (x7 : Int) : Env × Hp := ([(0, LV.pv (PV.sl n f es)), (1, LV.pv (PV.sl n2 f2 ss)), (7, Y6 x7)], [])
section
variable (n f : Bool) (es : LL) (n2 f2 : Bool) (ss : LL) (k : Int) (J : Int -> Prop) (μ : Int -> Nat)
def zmh (R : PV -> Prop) : Prop :=
 (aF (zcv n f es n2 f2 ss (i64.wrap (k + 1))) /\ J (i64.wrap (k + 1))) /\ ∀ (x7 : Int), J x7 -> if decide (x7 < (↑ss.length : Int)) = true then PCall qa 124 [PV.sl n f es, PV.sl n2 f2 ss, Z6 x7] fun v => ∃ b, v = Zb b /\ if b = true then R (Z6 x7) else aF (zcv n f es n2 f2 ss (i64.wrap (x7 + 1))) /\ J (i64.wrap (x7 + 1)) /\ μ (i64.wrap (x7 + 1)) < μ x7 else R (Z6 (↑ss.length : Int))
theorem zyk {R : PV -> Prop} (h : zmh n f es n2 f2 ss k J μ R) : PCall qa 97 [.sl n f es, .sl n2 f2 ss, .int .i64 k] R :=
 PCall.wz Tryz.func97 aM [0, 1, 2, 6, 7, 13, 19] (bP 2 (aX iU (zcv n f es n2 f2 ss) J μ (fun e h => (((gI e 7), ()))) [] [0, 1, 7] [])) h
end
def zcw (n f : Bool) (es : LL) (n2 f2 : Bool) (ss : LL) (x6 : Int) (n_0 : Bool) (s_0 : LL) : Env × Hp := ([(0, LV.pv (PV.sl n f es)), (1, LV.pv (PV.sl n2 f2 ss)), (5, LV.own 0), (6, Y6 x6)], [.sl (22, 1) true n_0 s_0])
section
variable (n f : Bool) (es : LL) (n2 f2 : Bool) (ss : LL) (J : Int -> Bool -> LL -> Prop) (μ : Int -> Bool -> LL -> Nat)
def zmi (R : PV -> Prop) : Prop :=
 (aF (zcw n f es n2 f2 ss (0 : Int) true []) /\ J (0 : Int) true []) /\ ∀ (x6 : Int) (n_0 : Bool) (s_0 : LL), J x6 n_0 s_0 -> if decide (x6 < (↑ss.length : Int)) = true then PCall qa 97 [PV.sl n f es, PV.sl n2 f2 ss, Z6 x6] fun v => ∃ n1, v = Z6 n1 /\ (cU ss.length (some x6) (some n1) none /\ aR ss 1) /\ (aR [[PV.sl n2 (f2 && decide (n1 = (↑ss.length : Int))) (qe x6.toNat (qi n1.toNat ss))]] 1 /\ (s_0.length + 1) * 24 <= 140737488355328) /\ aF (zcw n f es n2 f2 ss n1 (n_0 && false) (s_0 ++ [[PV.sl n2 (f2 && decide (n1 = (↑ss.length : Int))) (qe x6.toNat (qi n1.toNat ss))]])) /\ J n1 (n_0 && false) (s_0 ++ [[PV.sl n2 (f2 && decide (n1 = (↑ss.length : Int))) (qe x6.toNat (qi n1.toNat ss))]]) /\ μ n1 (n_0 && false) (s_0 ++ [[PV.sl n2 (f2 && decide (n1 = (↑ss.length : Int))) (qe x6.toNat (qi n1.toNat ss))]]) < μ x6 n_0 s_0 else R (PV.sl n_0 false s_0)
theorem zyl {R : PV -> Prop} (h : zmi n f es n2 f2 ss J μ R) : PCall qa 63 [.sl n f es, .sl n2 f2 ss] R :=
 PCall.wz Tryz.func63 aM [0, 1, 4, 5, 6, 7, 11] (bP 3 (aX dM (zcw n f es n2 f2 ss) J μ (fun e h => (gI e 6, oN h 0, oS h 0)) [(5, 22, 1)] [0, 1, 5, 6] [])) h
end
end Go.Eng
namespace Go.Eng
open Go Go.Proofs Go.Eng.Rows Go.Eng.Trie Go.Eng.Srt
def zcx (st : SSt) : PV := .agg [.bool st.some, .int .i64 st.last, .int .i64 st.pict, .int .i64 st.conj, .bool st.odd]
theorem zmj {r : Int} (h : 44032 <= r /\ r <= 55203) : i32.wrap (r - 44032) = r - 44032 := cY (by omega) (by omega)
section
variable {rows : List Row} {v : PV}
theorem vN (hv : cO rows v) {r : Int} (hr : -2147483648 <= r /\ r <= 2147483647) : PCall qa 142 [v, .int .i32 r] fun x => x = .int .i64 (aK rows r) := by
 obtain ⟨tc, tg, tj, tf, tp, made, sec, rfl, ht, hm⟩ := hv;refine zx5 _ _ _ _ _ _ _ _ ?_; unfold zl2;by_cases hh : 44032 <= r /\ r <= 55203
 ·rw [zmj hh];by_cases hm28 : (r - 44032).tmod 28 = 0
  ·refine bJ (by simp [hh, hm28]) ?_;unfold aK; rw [if_pos hh, if_pos hm28]
  ·refine bF (by simp [hm28]) (bJ (by simp [hh]) ?_);unfold aK; rw [if_pos hh, if_neg hm28]
 ·refine bF (by simp; omega) (bF (by simp; omega) ?_);obtain ⟨ps, rfl⟩ := ht.g.ptr;refine .inl ⟨ps, rfl, ?_⟩;have hw : i64.wrap r = r := aG (by omega) (by omega);rw [hw];refine (zap ht.g r (by omega)).mono ?_;rintro _ rfl;refine ⟨_, rfl, ?_⟩;rw [zbd]; unfold aK; rw [if_neg hh]
theorem zcy (hv : cO rows v) {r : Int} (hr : -2147483648 <= r /\ r <= 2147483647) : PCall qa 144 [v, .int .i32 r] fun x => x = .int .i64 (bE rows r) := by
 have hb := vN hv hr;obtain ⟨tc, tg, tj, tf, tp, made, sec, rfl, ht, hm⟩ := hv;refine zx6 _ _ _ _ _ _ _ _ ?_; unfold zl3;obtain ⟨ps, rfl⟩ := ht.j.ptr;refine .inl ⟨ps, rfl, ?_⟩;have hw : i64.wrap r = r := aG (by omega) (by omega);rw [hw];refine (zap ht.j r (by omega)).mono ?_;rintro _ rfl;refine ⟨_, rfl, ?_⟩;rw [zbd];unfold bE;refine aC (fun hc => ?_) (fun hc => ?_)
 ·simp only [bne_iff_ne, ne_eq] at hc;rw [if_pos hc]
 ·simp only [bne_iff_ne, ne_eq, ql] at hc;rw [if_neg (fun h => h hc)];refine hb.mono ?_;rintro _ rfl;refine ⟨_, rfl, aC (fun h2 => ?_) (fun h2 => ?_)⟩
  ·simp only [qb, qg, beq_iff_eq, bne_iff_ne, ne_eq] at h2;rw [if_pos h2]
  ·simp only [qb, qg, beq_iff_eq, bne_iff_ne, ne_eq] at h2;rw [if_neg h2]
theorem zmk (hv : cO rows v) {r : Int} (hr : -2147483648 <= r /\ r <= 2147483647) : PCall qa 143 [v, .int .i32 r] fun x => x = .bool (bN rows 5 r) := by
 obtain ⟨tc, tg, tj, tf, tp, made, sec, rfl, ht, hm⟩ := hv;refine zx7 _ _ _ _ _ _ _ _ ?_; unfold zl4;obtain ⟨ps, rfl⟩ := ht.f.ptr;refine .inl ⟨ps, rfl, ?_⟩;have hw : i64.wrap r = r := aG (by omega) (by omega);rw [hw];refine (zax ht.f r (by omega)).mono ?_;rintro _ rfl;rw [zbe];exact ⟨_, rfl, rfl, _, rfl, _, rfl, _, rfl, _, rfl, rfl⟩
theorem nW (n f : Bool) (hl : rows.length < 1000000) {r : Int} (hr : -2147483648 <= r /\ r <= 2147483647) : PCall qa 152 [.sl n f (bB rows), .int .i32 r] fun x => x = .int .i64 (aK rows r) := by
 refine zx8 _ _ _ _ ?_; unfold zl5;refine aC (fun hh => ?_) (fun hh => ?_)
 ·simp only [qb, aB, ge_iff_le] at hh;rw [zmj hh];unfold aK; rw [if_pos hh];refine aC (fun h2 => ?_) (fun h2 => ?_)
  ·simp only [beq_iff_eq] at h2; rw [if_pos h2]
  ·simp only [beq_iff_eq] at h2; rw [if_neg h2]
 ·simp only [qb, aB, ge_iff_le] at hh;refine (mJ n f 4 r hl hr).mono ?_;rintro _ rfl;unfold aK; rw [if_neg hh];exact ⟨_, rfl, rfl⟩
theorem zml (n f : Bool) (hl : rows.length < 1000000) {r : Int} (hr : -2147483648 <= r /\ r <= 2147483647) : PCall qa 170 [.sl n f (bB rows), .int .i32 r] fun x => x = .int .i64 (bE rows r) := by
 refine zx9 _ _ _ _ ?_; unfold zl6;refine (mJ n f 6 r hl hr).mono ?_;rintro _ rfl;refine ⟨_, rfl, ?_⟩;unfold bE;refine aC (fun hc => ?_) (fun hc => ?_)
 ·simp only [bne_iff_ne, ne_eq] at hc;rw [if_pos hc]
 ·simp only [bne_iff_ne, ne_eq, ql] at hc;rw [if_neg (fun h => h hc)];refine (nW n f hl hr).mono ?_;rintro _ rfl;refine ⟨_, rfl, aC (fun h2 => ?_) (fun h2 => ?_)⟩
  ·simp only [qb, qg, beq_iff_eq, bne_iff_ne, ne_eq] at h2;rw [if_pos h2]
  ·simp only [qb, qg, beq_iff_eq, bne_iff_ne, ne_eq] at h2;rw [if_neg h2]
theorem zym (a b : Int) : PCall qa 145 [.int .i64 a, .int .i64 b] fun x => x = .bool (gT a b) := by
 refine zya _ _ ?_; unfold zl7;simp only [beq_iff_eq];have hd : ∀ x y : Int, (x == y) = decide (x = y) := fun x y => by by_cases h : x = y <;> simp [h]
 simp only [hd];unfold gT nV;rcases (by omega : b = 1 ∨ b = 2 ∨ b = 3 ∨ b = 4 ∨ b = 5 ∨ b = 8 ∨ (b ≠ 1 /\ b ≠ 2 /\ b ≠ 3 /\ b ≠ 4 /\ b ≠ 5 /\ b ≠ 8)) with rfl | rfl | rfl | rfl | rfl | rfl | ⟨b1, b2, b3, b4, b5, b8⟩
 all_goals
  rcases (by omega : a = 1 ∨ a = 2 ∨ a = 3 ∨ a = 7 ∨ a = 9 ∨ a = 10 ∨ a = 11 ∨ a = 12 ∨ a = 13 ∨ (a ≠ 1 /\ a ≠ 2 /\ a ≠ 3 /\ a ≠ 7 /\ a ≠ 9 /\ a ≠ 10 /\ a ≠ 11 /\ a ≠ 12 /\ a ≠ 13)) with rfl | rfl | rfl | rfl | rfl | rfl | rfl | rfl | rfl | ⟨a1, a2, a3, a7, a9, a10, a11, a12, a13⟩
 all_goals simp [*, qbf]
theorem zmm (hv : cO rows v) (st : SSt) {r : Int} (hr : -2147483648 <= r /\ r <= 2147483647) : PCall qa 120 [zcx st, v, .int .i32 r] fun x => x = .tup [zcx (dB rows st r), .bool (kG rows st r)] := by
 have h1 := vN hv hr;have h2 := zmk hv hr;have h3 := zcy hv hr;obtain ⟨tc, tg, tj, tf, tp, made, sec, rfl, ht, hm⟩ := hv;obtain ⟨so, la, pi, co, od⟩ := st;refine zyb _ _ _ _ _ _ _ _ _ _ _ _ _ ?_; unfold zl8;refine h1.mono ?_;rintro _ rfl;refine ⟨_, rfl, ?_⟩;refine h2.mono ?_;rintro _ rfl;refine ⟨_, rfl, ?_⟩;refine h3.mono ?_;rintro _ rfl;refine ⟨_, rfl, ?_⟩;refine (zym la (aK rows r)).mono ?_;rintro _ rfl;refine ⟨_, rfl, ?_⟩;unfold dB kG mO zcx;dsimp only;have hd : ∀ x y : Int, (x == y) = decide (x = y) := fun x y => by by_cases h : x = y <;> simp [h]
 have hd2 : ∀ x y : Int, (x != y) = !decide (x = y) := fun x y => by by_cases h : x = y <;> simp [h]
 simp only [hd, hd2];generalize gT la (aK rows r) = b1;generalize bN rows 5 r = b;generalize bE rows r = c;generalize aK rows r = n;by_cases n6 : n = 6
 ·subst n6;cases b1 <;> cases b <;> by_cases p2 : pi = 2 <;> by_cases c2 : c = 2 <;> by_cases k2 : co = 2 <;> by_cases c1 : c = 1 <;> by_cases c3 : c = 3 <;> by_cases k0 : co = 0 <;> first | omega | simp [*]
 ·by_cases p1 : pi = 1
  ·subst p1;by_cases n4 : n = 4
   ·subst n4;cases b1 <;> cases b <;> by_cases c2 : c = 2 <;> by_cases k2 : co = 2 <;> by_cases c1 : c = 1 <;> by_cases c3 : c = 3 <;> by_cases k0 : co = 0 <;> first | omega | simp [*]
   ·by_cases n5 : n = 5
    ·subst n5;cases b1 <;> cases b <;> by_cases c2 : c = 2 <;> by_cases k2 : co = 2 <;> by_cases c1 : c = 1 <;> by_cases c3 : c = 3 <;> by_cases k0 : co = 0 <;> first | omega | simp [*]
    ·cases b1 <;> cases b <;> by_cases c2 : c = 2 <;> by_cases k2 : co = 2 <;> by_cases c1 : c = 1 <;> by_cases c3 : c = 3 <;> by_cases k0 : co = 0 <;> first | omega | simp [*]
  ·cases b1 <;> cases b <;> by_cases p2 : pi = 2 <;> by_cases c2 : c = 2 <;> by_cases k2 : co = 2 <;> by_cases c1 : c = 1 <;> by_cases c3 : c = 3 <;> by_cases k0 : co = 0 <;> first | omega | simp [*]
end
theorem fD {L : List Int} (h : R32 L) (i : Nat) : -2147483648 <= L.getD i 0 /\ L.getD i 0 <= 2147483647 := by
 by_cases hi : i < L.length
 ·rw [show L.getD i 0 = L[i] by simp [qaf, hi]]; exact h _ (qo hi)
 ·rw [show L.getD i 0 = 0 by simp [qaf, hi]]; omega
theorem gU {l : List Int} {i : Int} (h0 : 0 <= i) (hi : i.toNat < l.length) : aI (aA l) i 1 /\ (aA l).getD i.toNat [] = [.int .i32 (l.getD i.toNat 0)] := by
 obtain ⟨h1, h2⟩ := gM h0 hi;exact ⟨h1, by rw [h2]; simp [qaf, hi]⟩
theorem zmn : ∀ {C : List (List Int)}, (∀ c ∈ C, c ≠ []) -> C.length <= C.flatten.length
 | [], _ => qj _
 | c :: C, h => by
   have h1 := List.length_pos_iff.2 (h c qv);have := zmn fun x hx => h x (qab c hx);rw [qat, qn, qc]; omega
theorem zyn (rows : List Row) (L : List Int) : (eQ rows L 0).length <= L.length := by
 have := zmn (zl0 (rows := rows) (L := L) L.length 0 (by omega));rwa [zcp] at this
theorem zcz {C : List (List Int)} {c : List Int} (h : c ∈ C) : c.length <= C.flatten.length := by
 induction C with
 | nil => cases h
 | cons d C ih =>
   rw [qat, qn];rcases List.mem_cons.1 h with rfl | h
   ·omega
   ·have := ih h; omega
theorem zyo {rows : List Row} {L c : List Int} (h : c ∈ eQ rows L 0) : c.length <= L.length := by
 have := zcz h;rwa [zcp] at this
theorem zyp {α : Type} {l : List α} {i : Nat} (d : α) (h : i < l.length) : l.getD i d = l[i] := by simp [qaf, h]
theorem PCall.vac {P : Program} {f : Nat} {args args' : List PV} {Q Q' : PV -> Prop} (h : PCall P f args' Q') {k : Nat} {fl : Bool} {es : List (List PV)} (hk : args[k]? = some (.sl true fl es)) (hne : es ≠ []) : PCall P f args Q :=
 ⟨h.1, fun w I G cargs _ _ h3 => by
  have := h3 k (.pv (.sl true fl es)) (by rw [List.getElem?_map, hk]; rfl);generalize cargs.getD k undef = c at this;cases this with
  | pv _ _ h =>
    generalize hx : es = xs at h;cases h with
    | slnil => exact absurd hx hne⟩
theorem zmo {L : List Int} (h : L ≠ []) : aA L ≠ [] := fun e => h (by cases L with | nil => rfl | cons a b => cases e)
section
variable {rows : List Row} {v : PV}
theorem zmp {L : List Int} {i : Nat} (hi : i < L.length) (hb : c6 rows L i = false) : eP rows L (L.length - i) i = eP rows L (L.length - (i + 1)) (i + 1) := by
 rw [show L.length - i = (L.length - (i + 1)) + 1 by omega, eP, if_neg (by rw [hb]; decide)]
theorem zmq {L : List Int} {i : Nat} (hi : i < L.length) (hb : c6 rows L i = true) : eP rows L (L.length - i) i = i := by
 rw [show L.length - i = (L.length - (i + 1)) + 1 by omega, eP, if_pos hb]
theorem vO (ht : d8 rows) (hv : cO rows v) (n f : Bool) (L : List Int) (hr : R32 L) (hL : L.length < 1000000000000) (k : Int) (k0 : 0 <= k) (k1 : k < L.length) (hb : c6 rows L k.toNat = true) :
 PCall qa 94 [v, .sl n f (aA L), .int .i64 k] fun x => x = .int .i64 (bO rows L k.toNat : Nat) := by
 have hs := fun st {r : Int} hr => zmm hv st (r := r) hr;obtain ⟨tc, tg, tj, tf, tp, made, sec, rfl, ht', hm⟩ := hv
 refine zyc _ _ _ _ _ _ _ _ _ _ _
  (fun i so la pi co od => (k + 1 <= i /\ i <= L.length) /\ bA rows L k.toNat (i.toNat - k.toNat) = ⟨so, la, pi, co, od⟩ /\ bO rows L k.toNat = eP rows L (L.length - i.toNat) i.toNat) (fun i _ _ _ _ _ => L.length - i.toNat) ?_
 unfold zl9;have hl8 : ((aA L).length : Int) = L.length := by rw [a8]
 rw [hl8];refine bF (by simp; omega) ?_;have hk : k.toNat < L.length := by omega
 obtain ⟨g1, g2⟩ := gU k0 hk;have hw : i64.wrap (k + 1) = k + 1 := aG (by omega) (by omega);refine ⟨g1, _, by rw [g2]; rfl, ?_⟩;refine (hs jJ (fD hr k.toNat)).mono ?_;rintro _ rfl;rw [hw];refine ⟨_, rfl, rfl, _, rfl, _, rfl, rfl, _, rfl, _, rfl, _, rfl, _, rfl, _, rfl, _, rfl, _, rfl, ⟨rfl, ⟨by omega, by omega⟩, ?_, ?_⟩, ?_⟩
 ·rw [show (k + 1).toNat - k.toNat = 1 by omega]; rfl
 ·rw [show (k + 1).toNat = k.toNat + 1 by omega]; rfl
 rintro i so la pi co od ⟨⟨i0, i1⟩, hst, hn⟩;refine aC (fun hc => ?_) (fun hc => ?_)
 ·simp only [aB] at hc;have hi : i.toNat < L.length := by omega
  obtain ⟨j, hj⟩ : ∃ j, i.toNat = k.toNat + (j + 1) := ⟨i.toNat - k.toNat - 1, by omega⟩;obtain ⟨g1, g2⟩ := gU (l := L) (i := i) (by omega) hi;have hwi : i64.wrap (i + 1) = i + 1 := aG (by omega) (by omega)
  have hcut : kG rows ⟨so, la, pi, co, od⟩ (L.getD i.toNat 0) = c6 rows L i.toNat := by
   rw [<- hst, hj, show k.toNat + (j + 1) - k.toNat = j + 1 by omega];exact zxz ht hb j
  have hstep : bA rows L k.toNat ((i + 1).toNat - k.toNat) = dB rows ⟨so, la, pi, co, od⟩ (L.getD i.toNat 0) := by
   rw [<- hst, show (i + 1).toNat - k.toNat = (i.toNat - k.toNat) + 1 by omega];show dB rows _ (L.getD (k.toNat + (i.toNat - k.toNat)) 0) = _;rw [show k.toNat + (i.toNat - k.toNat) = i.toNat by omega]
  have body : ∀ K : Prop, K -> if c6 rows L i.toNat = true then (PV.int .i64 i = .int .i64 (bO rows L k.toNat : Nat)) else K /\ ((k + 1 <= i + 1 /\ i + 1 <= L.length) /\ bA rows L k.toNat ((i + 1).toNat - k.toNat) = ⟨(dB rows ⟨so, la, pi, co, od⟩ (L.getD i.toNat 0)).some, (dB rows ⟨so, la, pi, co, od⟩ (L.getD i.toNat 0)).last, (dB rows ⟨so, la, pi, co, od⟩ (L.getD i.toNat 0)).pict, (dB rows ⟨so, la, pi, co, od⟩ (L.getD i.toNat 0)).conj, (dB rows ⟨so, la, pi, co, od⟩ (L.getD i.toNat 0)).odd⟩ /\ bO rows L k.toNat = eP rows L (L.length - (i + 1).toNat) (i + 1).toNat) /\ L.length - (i + 1).toNat < L.length - i.toNat := fun K hK => by
   split
   ·rename_i hbi;rw [hn, zmq hi hbi, show ((i.toNat : Nat) : Int) = i by omega]
   ·rename_i hbi;refine ⟨hK, ⟨⟨by omega, by omega⟩, by rw [hstep], ?_⟩, by omega⟩;rw [hn, zmp hi (by simpa using hbi), show (i + 1).toNat = i.toNat + 1 by omega]
  have call := hs ⟨so, la, pi, co, od⟩ (fD hr i.toNat);rw [hcut] at call;rw [hwi];refine ⟨g1, _, by rw [g2]; rfl, call.mono ?_, call.mono ?_⟩
  ·rintro _ rfl;exact ⟨_, rfl, rfl, _, rfl, _, rfl, rfl, _, rfl, _, rfl, _, rfl, _, rfl, _, rfl, _, rfl, _, rfl, body _ rfl, body _ rfl, body _ rfl⟩
  ·rintro _ rfl;exact ⟨_, rfl, rfl, _, rfl, _, rfl, rfl, _, rfl, _, rfl, _, rfl, _, rfl, _, rfl, _, rfl, _, rfl, body _ rfl, body _ rfl⟩
 ·simp only [aB] at hc;have hie : i.toNat = L.length := by omega
  rw [hn, show L.length - i.toNat = 0 by omega];show _ = PV.int .i64 ((i.toNat : Nat) : Int);rw [show ((i.toNat : Nat) : Int) = i by omega]
theorem zc0 (n f : Bool) (l : List Int) (hn : n = true -> l = []) (hl : l.length < 1000000000000) : PCall qa 67 [.sl n f (aA l)] fun x => x = .sl n false (aA l) :=
 PCall.ofA (args := [_]) (zkt n f (aA l) (fun h => by rw [hn h]; rfl) ⟨rfl, .inl rfl, fun e he => (by cases he), cZ _, by simp only [qba, a8]; omega⟩) fun r h' ⟨hr, hh⟩ => by subst hr; subst hh; exact ⟨_, rfl, rfl⟩
def mP (q : Bool × Bool × List Int) : List PV := [.sl q.1 q.2.1 (aA q.2.2)]
theorem zmr (q : Bool × Bool × List Int) : (mP q).length = 1 := rfl
theorem zms (ht : d8 rows) (hv : cO rows v) (n f : Bool) (L : List Int) (hn0 : n = true -> L = []) (hr : R32 L) (hL : L.length < 100000000) :
 PCall qa 59 [v, .sl n f (aA L)] fun x => ∃ (n : Bool) (Q : List (Bool × Bool × List Int)), x = .sl n false (Q.map mP) /\ Q.map (fun q => q.2.2) = eQ rows L 0 /\ (∀ q ∈ Q, q.1 = true -> q.2.2 = []) /\ (n = true -> Q = []) := by
 have hnx := fun k k0 k1 hb => vO ht hv n f L hr (by omega) k k0 k1 hb;obtain ⟨tc, tg, tj, tf, tp, made, sec, rfl, ht', hm⟩ := hv
 refine zyd _ _ _ _ _ _ _ _ _ _
  (fun i n s => (0 <= i /\ i <= L.length) /\ (i.toNat = L.length ∨ c6 rows L i.toNat = true) /\ ∃ Q : List (Bool × Bool × List Int), s = Q.map mP /\ eQ rows L 0 = Q.map (fun q => q.2.2) ++ eQ rows L i.toNat /\ (∀ q ∈ Q, q.1 = true -> q.2.2 = []) /\ (n = true -> Q = []) /\ Q.length <= i.toNat) (fun i _ _ => L.length - i.toNat) ?_
 unfold zma;have hl8 : ((aA L).length : Int) = L.length := by rw [a8]
 rw [hl8];refine ⟨⟨rfl, ⟨qm _, by omega⟩, .inr rfl, [], rfl, rfl, (fun q hq => by cases hq), (fun _ => rfl), qj _⟩, ?_⟩;rintro i n2 _ ⟨⟨i0, i1⟩, hbeg, Q, rfl, hcl, hq, hnq, hql⟩;refine aC (fun hc => ?_) (fun hc => ?_)
 ·simp only [aB] at hc;have hi : i.toNat < L.length := by omega
  have hb := hbeg.resolve_left (by omega);obtain ⟨x1, x2, x3⟩ := eH (rows := rows) hi;refine (hnx i i0 hc hb).mono ?_;rintro _ rfl;refine ⟨_, rfl, ⟨zlp i0 (by omega) (by rw [a8]; omega), cZ _⟩, ?_⟩;rw [show (((bO rows L i.toNat : Nat) : Int)).toNat = bO rows L i.toNat by omega, zlq];have hsl := zxt L i.toNat (bO rows L i.toNat);have hsn : n = true -> eL L i.toNat (bO rows L i.toNat) = [] := fun h => by rw [hn0 h] at hi; cases hi
  refine (zc0 n _ (eL L i.toNat (bO rows L i.toNat)) hsn (by omega)).mono ?_;rintro _ rfl;refine ⟨_, _, _, rfl, ⟨g9 (enc := mP) zmr [(n, false, eL L i.toNat (bO rows L i.toNat))], by rw [qd]; omega⟩, rfl, ⟨⟨by omega, by omega⟩, ?_, Q ++ [(n, false, eL L i.toNat (bO rows L i.toNat))], by rw [qq]; rfl, ?_, fun q hq2 => ?_, fun h => by simp at h, ?_⟩, ?_⟩
  ·rw [show (((bO rows L i.toNat : Nat) : Int)).toNat = bO rows L i.toNat by omega]; exact x3
  ·rw [show (((bO rows L i.toNat : Nat) : Int)).toNat = bO rows L i.toNat by omega, hcl, vL hi, qq, qaj]; rfl
  ·rcases List.mem_append.1 hq2 with hq2 | hq2
   ·exact hq q hq2
   ·rw [List.mem_singleton.1 hq2]; exact hsn
  ·rw [show (((bO rows L i.toNat : Nat) : Int)).toNat = bO rows L i.toNat by omega, qn, qt]; omega
  ·dsimp only; omega
 ·simp only [aB] at hc;rw [pN (i := i.toNat) (by omega), qbb] at hcl;exact ⟨n2, Q, rfl, hcl.symm, hq, hnq⟩
theorem zyq (ht : d8 rows) (hv : cO rows v) (n f : Bool) (L : List Int) (hr : R32 L) (hL : L.length < 100000000) :
 PCall qa 59 [v, .sl n f (aA L)] fun x => ∃ (n : Bool) (Q : List (Bool × Bool × List Int)), x = .sl n false (Q.map mP) /\ Q.map (fun q => q.2.2) = eQ rows L 0 := by
 by_cases h : n = true -> L = []
 ·exact (zms ht hv n f L h hr hL).mono fun x ⟨n, Q, h1, h2, _⟩ => ⟨n, Q, h1, h2⟩
 ·have hn : n = true := by cases n with | true => rfl | false => exact absurd (fun h => by cases h) h
  subst hn;exact PCall.vac (zms ht hv false f L (fun h => by cases h) hr hL) (k := 1) rfl (zmo fun e => h fun _ => e)
end
section
variable {rows : List Row}
theorem vP (r : Int) : (aH rows 5 r = 1) ↔ bN rows 5 r = true := by
 unfold aH bN;cases bR rows 5 r with
 | none => simp
 | some p => simp
theorem zmt (a : Int) : PCall qa 153 [.int .i64 a] fun x => x = .bool (cX a) := by
 refine zye _ ?_; unfold zmb cX;have hd : ∀ x y : Int, (x == y) = decide (x = y) := fun x y => by by_cases h : x = y <;> simp [h]
 simp only [hd, qbf]
theorem zyr (a b : Int) : PCall qa 154 [.int .i64 a, .int .i64 b] fun x => x = .bool (nV a b) := by
 refine zyf _ _ ?_; unfold zmc nV;have hd : ∀ x y : Int, (x == y) = decide (x = y) := fun x y => by by_cases h : x = y <;> simp [h]
 simp only [hd];by_cases h9 : a = 9
 ·rw [if_pos (by simp [h9]), if_pos h9]; simp only [qbf]
 ·rw [if_neg (by simp [h9]), if_neg h9];by_cases h12 : a = 12 ∨ a = 10
  ·rw [if_pos (by simpa using h12), if_pos h12]
  ·rw [if_neg (by simpa using h12), if_neg h12]
   by_cases h13 : a = 13 ∨ a = 11
   ·rw [if_pos (by simpa using h13), if_pos h13]
   ·rw [if_neg (by simpa using h13), if_neg h13]
def pO (rows : List Row) (L : List Int) (x : Bool) (j : Nat) : Bool := if x = true then decide ((bA rows L 0 j).conj ≠ 0) else decide ((bA rows L 0 j).conj = 2)
theorem zys (ht : d8 rows) (L : List Int) (x : Bool) (j : Nat) : pO rows L x (j + 1) =
 if bE rows (L.getD j 0) = 2 then x else if bE rows (L.getD j 0) = 0 then false else if bE rows (L.getD j 0) = 1 then pO rows L true j else pO rows L x j := by
 unfold pO;rw [zlw];rcases ht.conj (L.getD j 0) with h | h | h | h <;> rw [h]
 ·cases x <;> simp
 ·by_cases h0 : (bA rows L 0 j).conj = 0
  ·cases x <;> simp [h0]
  ·cases x <;> simp [h0]
 ·cases x <;> simp
 ·by_cases h0 : (bA rows L 0 j).conj = 0
  ·cases x <;> simp [h0]
  ·cases x <;> simp [h0]
def nX (rows : List Row) (L : List Int) (j : Nat) : Bool := decide ((bA rows L 0 j).pict = 1)
theorem zyt (L : List Int) (j : Nat) : nX rows L (j + 1) = if bN rows 5 (L.getD j 0) = true then true else if aK rows (L.getD j 0) ≠ 4 then false else nX rows L j := by
 unfold nX;rw [zco];generalize L.getD j 0 = r;generalize (bA rows L 0 j).pict = p;by_cases h1 : bN rows 5 r = true
 ·rw [if_pos h1, if_pos h1]; rfl
 ·rw [if_neg h1, if_neg h1];by_cases h2 : aK rows r = 4
  ·by_cases h3 : p = 1
   ·simp [h2, h3]
   ·simp [h2, h3]
  ·by_cases h3 : aK rows r = 5
   ·by_cases h4 : p = 1 <;> simp [h3, h4]
   ·simp [h2, h3]
theorem zyu (ht : d8 rows) (L : List Int) (k : Nat) : decide ((bA rows L 0 (k + 1)).pict = 2) = (decide (aK rows (L.getD k 0) = 5) && nX rows L k) := by
 unfold nX;rw [zco];generalize L.getD k 0 = r;generalize (bA rows L 0 k).pict = p;by_cases h1 : bN rows 5 r = true
 ·have := (ht.pict _ h1).2;rw [if_pos h1]; simp [this]
 ·rw [if_neg h1];by_cases h3 : p = 1
  ·by_cases h5 : aK rows r = 5
   ·simp [h3, h5]
   ·by_cases h4 : aK rows r = 4 <;> simp [h3, h5, h4]
  ·simp [h3]
def r9 (rows : List Row) (L : List Int) (x : Int) (j : Nat) : Bool := if x.tmod 2 = 1 then !(bA rows L 0 j).odd else (bA rows L 0 j).odd
theorem zyv (L : List Int) {x : Int} (h0 : 0 <= x) (j : Nat) : r9 rows L x (j + 1) = if aK rows (L.getD j 0) = 6 then r9 rows L (x + 1) j else decide (x.tmod 2 = 1) := by
 unfold r9;rw [zlx];rw [qz h0, qz (by omega : 0 <= x + 1)];generalize aK rows (L.getD j 0) = b;generalize (bA rows L 0 j).odd = o;by_cases h6 : b = 6
 ·rw [if_pos h6, h6];by_cases hx : x % 2 = 1
  ·rw [if_pos hx, if_neg (by omega)]; simp
  ·rw [if_neg hx, if_pos (by omega)]; simp
 ·rw [if_neg h6];by_cases hx : x % 2 = 1
  ·rw [if_pos hx]; simp [h6, hx]
  ·rw [if_neg hx]; simp [h6, hx]
variable (ht : d8 rows) (n f n2 f2 : Bool) (hl : rows.length < 1000000) (L : List Int) (hr : R32 L) (hL : L.length < 1000000000000)
include ht hl hr hL
theorem zyw (k : Nat) (hk : k + 1 < L.length) : PCall qa 155 [.sl n f (bB rows), .sl n2 f2 (aA L), .int .i64 ((k + 1 : Nat) : Int)] fun x => x = .bool (decide (bE rows (L.getD (k + 1) 0) = 2) && decide ((bA rows L 0 (k + 1)).conj = 2)) := by
 refine zyg _ _ _ _ _ _ _ (fun x j => (-1 <= j /\ j < L.length) /\ decide ((bA rows L 0 (k + 1)).conj = 2) = pO rows L x (j + 1).toNat) (fun _ j => (j + 1).toNat) ?_;unfold zmd;obtain ⟨g1, g2⟩ := gU (l := L) (i := ((k + 1 : Nat) : Int)) (by omega) (by omega);rw [show (((k + 1 : Nat) : Int)).toNat = k + 1 by omega] at g2 ⊢;refine ⟨g1, _, by rw [g2]; rfl, ?_⟩;refine (zml n f hl (fD hr _)).mono ?_;rintro _ rfl;refine ⟨_, rfl, aC (fun hc => ?_) (fun hc => ?_)⟩
 ·simp only [bne_iff_ne, ne_eq] at hc;rw [decide_eq_false hc, qah]
 ·simp only [bne_iff_ne, ne_eq, ql] at hc;rw [hc];have hw : i64.wrap (((k + 1 : Nat) : Int) - 1) = (k : Int) := by rw [aG (by omega) (by omega)]; omega
  rw [hw];refine ⟨⟨rfl, ⟨by omega, by omega⟩, by rw [show ((k : Int) + 1).toNat = k + 1 by omega]; rfl⟩, ?_⟩;rintro x j ⟨⟨j0, j1⟩, he⟩;simp only [decide_true, qaa];rw [he];refine aC (fun h => ?_) (fun h => ?_)
  ·simp only [aB, ge_iff_le] at h;obtain ⟨g1, g2⟩ := gU (l := L) (i := j) h (by omega);refine ⟨g1, _, by rw [g2]; rfl, ?_⟩;have hs := zys ht L x j.toNat;rw [show j.toNat + 1 = (j + 1).toNat by omega] at hs;have hwj : i64.wrap (j - 1) = j - 1 := aG (by omega) (by omega);rw [hwj];refine (zml n f hl (fD hr _)).mono ?_;rintro _ rfl;refine ⟨_, rfl, aC (fun h2 => ?_) (fun h2 => aC (fun h0 => ?_) (fun h0 => aC (fun h1 => ?_) (fun h1 => ?_)))⟩
   ·simp only [beq_iff_eq] at h2;rw [hs, if_pos h2]
   ·simp only [beq_iff_eq] at h2 h0;rw [hs, if_neg h2, if_pos h0]
   ·simp only [beq_iff_eq] at h2 h0 h1;rw [if_neg h2, if_neg h0, if_pos h1] at hs;exact ⟨rfl, ⟨⟨by omega, by omega⟩, by rw [hs, show (j - 1 + 1).toNat = j.toNat by omega]⟩, by first | omega | (dsimp only; omega)⟩
   ·simp only [beq_iff_eq] at h2 h0 h1;rw [if_neg h2, if_neg h0, if_neg h1] at hs;exact ⟨rfl, ⟨⟨by omega, by omega⟩, by rw [hs, show (j - 1 + 1).toNat = j.toNat by omega]⟩, by first | omega | (dsimp only; omega)⟩
  ·simp only [aB, ge_iff_le] at h;rw [show (j + 1).toNat = 0 by omega];unfold pO;cases x <;> rfl
theorem zyx (k : Nat) (hk : k + 1 < L.length) : PCall qa 156 [.sl n f (bB rows), .sl n2 f2 (aA L), .int .i64 ((k + 1 : Nat) : Int)] fun x => x = .bool (bN rows 5 (L.getD (k + 1) 0) && decide ((bA rows L 0 (k + 1)).pict = 2)) := by
 refine zyh _ _ _ _ _ _ _ (fun j => (-1 <= j /\ j < L.length) /\ nX rows L k = nX rows L (j + 1).toNat) (fun j => (j + 1).toNat) ?_;unfold zme;rw [zyu ht];obtain ⟨g1, g2⟩ := gU (l := L) (i := ((k + 1 : Nat) : Int)) (by omega) (by omega);rw [show (((k + 1 : Nat) : Int)).toNat = k + 1 by omega] at g2 ⊢;refine ⟨g1, _, by rw [g2]; rfl, ?_⟩;refine (mJ n f 5 _ hl (fD hr _)).mono ?_;rintro _ rfl;refine ⟨_, rfl, aC (fun hc => ?_) (fun hc => ?_)⟩
 ·simp only [bne_iff_ne, ne_eq, vP] at hc;rw [Bool.eq_false_iff.2 hc, qah]
 simp only [bne_iff_ne, ne_eq, ql, vP] at hc;rw [hc];have hw : i64.wrap (((k + 1 : Nat) : Int) - 1) = (k : Int) := by rw [aG (by omega) (by omega)]; omega
 have hw2 : i64.wrap (((k + 1 : Nat) : Int) - 2) = (k : Int) - 1 := by rw [aG (by omega) (by omega)]; omega
 rw [hw, hw2];obtain ⟨k1, k2⟩ := gU (l := L) (i := (k : Int)) (by omega) (by omega);refine ⟨k1, _, by rw [k2]; rfl, ?_⟩;rw [show ((k : Int)).toNat = k by omega];refine (nW n f hl (fD hr _)).mono ?_;rintro _ rfl;refine ⟨_, rfl, aC (fun h5 => ?_) (fun h5 => ?_)⟩
 ·simp only [bne_iff_ne, ne_eq] at h5;rw [decide_eq_false h5, qah, qai]
 simp only [bne_iff_ne, ne_eq, ql] at h5;rw [h5];simp only [decide_true, qaa];refine ⟨⟨rfl, ⟨by omega, by omega⟩, by rw [show ((k : Int) - 1 + 1).toNat = k by omega]⟩, ?_⟩;rintro j ⟨⟨j0, j1⟩, he⟩;rw [he];refine aC (fun h => ?_) (fun h => ?_)
 ·simp only [aB, ge_iff_le] at h;obtain ⟨g1, g2⟩ := gU (l := L) (i := j) h (by omega);refine ⟨g1, _, by rw [g2]; rfl, ?_⟩;have hs := zyt (rows := rows) L j.toNat;rw [show j.toNat + 1 = (j + 1).toNat by omega] at hs;have hwj : i64.wrap (j - 1) = j - 1 := aG (by omega) (by omega);rw [hwj];refine (mJ n f 5 _ hl (fD hr _)).mono ?_;rintro _ rfl;refine ⟨_, rfl, aC (fun h2 => ?_) (fun h2 => ?_)⟩
  ·simp only [beq_iff_eq, vP] at h2;rw [hs, if_pos h2]
  ·simp only [beq_iff_eq, vP] at h2;refine ⟨g1, _, by rw [g2]; rfl, ?_⟩;refine (nW n f hl (fD hr _)).mono ?_;rintro _ rfl;refine ⟨_, rfl, aC (fun h4 => ?_) (fun h4 => ?_)⟩
   ·simp only [bne_iff_ne, ne_eq] at h4;rw [hs, if_neg h2, if_pos h4]
   ·simp only [bne_iff_ne, ne_eq, ql] at h4;rw [if_neg h2, if_neg (fun h => h h4)] at hs;exact ⟨rfl, ⟨⟨by omega, by omega⟩, by rw [hs, show (j - 1 + 1).toNat = j.toNat by omega]⟩, by first | omega | (dsimp only; omega)⟩
 ·simp only [aB, ge_iff_le] at h;rw [show (j + 1).toNat = 0 by omega]; rfl
theorem zyy (k : Nat) (hk : k + 1 < L.length) : PCall qa 157 [.sl n f (bB rows), .sl n2 f2 (aA L), .int .i64 ((k + 1 : Nat) : Int)] fun x => x = .bool (decide (aK rows (L.getD (k + 1) 0) = 6) && (bA rows L 0 (k + 1)).odd) := by
 have _ht := ht;refine zyi _ _ _ _ _ _ _ (fun x j => (-1 <= j /\ j < L.length) /\ (0 <= x /\ x + j <= k) /\ (bA rows L 0 (k + 1)).odd = r9 rows L x (j + 1).toNat) (fun _ j => (j + 1).toNat) ?_;unfold zmf;obtain ⟨g1, g2⟩ := gU (l := L) (i := ((k + 1 : Nat) : Int)) (by omega) (by omega);rw [show (((k + 1 : Nat) : Int)).toNat = k + 1 by omega] at g2 ⊢;refine ⟨g1, _, by rw [g2]; rfl, ?_⟩;refine (nW n f hl (fD hr _)).mono ?_;rintro _ rfl;refine ⟨_, rfl, aC (fun hc => ?_) (fun hc => ?_)⟩
 ·simp only [bne_iff_ne, ne_eq] at hc;rw [decide_eq_false hc, qah]
 simp only [bne_iff_ne, ne_eq, ql] at hc;rw [hc];have hw : i64.wrap (((k + 1 : Nat) : Int) - 1) = (k : Int) := by rw [aG (by omega) (by omega)]; omega
 rw [hw];refine ⟨⟨rfl, ⟨by omega, by omega⟩, ⟨qm _, by omega⟩, by rw [show ((k : Int) + 1).toNat = k + 1 by omega]; rfl⟩, ?_⟩;rintro x j ⟨⟨j0, j1⟩, ⟨x0, x1⟩, he⟩;simp only [decide_true, qaa];rw [he];have hx : ∀ y : Int, (y.tmod 2 == 1) = decide (y.tmod 2 = 1) := fun y => by by_cases h : y.tmod 2 = 1 <;> simp [h]
 refine aC (fun h => ?_) (fun h => ?_)
 ·simp only [aB, ge_iff_le] at h;obtain ⟨g1, g2⟩ := gU (l := L) (i := j) h (by omega);refine ⟨g1, _, by rw [g2]; rfl, ?_⟩;have hs := zyv (rows := rows) L x0 j.toNat;rw [show j.toNat + 1 = (j + 1).toNat by omega] at hs;have hwj : i64.wrap (j - 1) = j - 1 := aG (by omega) (by omega);have hwx : i64.wrap (x + 1) = x + 1 := aG (by omega) (by omega);rw [hwj, hwx];refine (nW n f hl (fD hr _)).mono ?_;rintro _ rfl;refine ⟨_, rfl, aC (fun h6 => ?_) (fun h6 => ?_)⟩
  ·simp only [beq_iff_eq] at h6;rw [if_pos h6] at hs;exact ⟨rfl, ⟨⟨by omega, by omega⟩, ⟨by omega, by omega⟩, by rw [hs, show (j - 1 + 1).toNat = j.toNat by omega]⟩, by first | omega | (dsimp only; omega)⟩
  ·simp only [beq_iff_eq] at h6;rw [hs, if_neg h6, hx]
 ·simp only [aB, ge_iff_le] at h;rw [show (j + 1).toNat = 0 by omega, hx];unfold r9;show _ = PV.bool (if x.tmod 2 = 1 then !false else false);by_cases h1 : x.tmod 2 = 1 <;> simp [h1]
theorem zyz (k : Int) (k0 : 0 <= k) (k1 : k < L.length) : PCall qa 124 [.sl n f (bB rows), .sl n2 f2 (aA L), .int .i64 k] fun x => x = .bool (c6 rows L k.toNat) := by
 refine zyj _ _ _ _ _ _ _ ?_; unfold zmg;refine aC (fun h0 => ?_) (fun h0 => ?_)
 ·simp only [beq_iff_eq] at h0;rw [h0]; rfl
 simp only [beq_iff_eq] at h0;obtain ⟨j, rfl⟩ : ∃ j : Nat, k = ((j + 1 : Nat) : Int) := ⟨k.toNat - 1, by omega⟩;have hw : i64.wrap (((j + 1 : Nat) : Int) - 1) = (j : Int) := by rw [aG (by omega) (by omega)]; omega
 rw [hw, show (((j + 1 : Nat) : Int)).toNat = j + 1 by omega, zx0 ht];obtain ⟨g1, g2⟩ := gU (l := L) (i := (j : Int)) (by omega) (by omega);obtain ⟨k1, k2⟩ := gU (l := L) (i := ((j + 1 : Nat) : Int)) (by omega) (by omega);rw [show (((j + 1 : Nat) : Int)).toNat = j + 1 by omega] at k2;rw [show ((j : Int)).toNat = j by omega] at g2 ⊢;refine ⟨g1, _, by rw [g2]; rfl, k1, _, by rw [k2]; rfl, ?_⟩;have c1 := zyw ht n f n2 f2 hl L hr hL j (by omega);have c2 := zyx ht n f n2 f2 hl L hr hL j (by omega);have c3 := zyy ht n f n2 f2 hl L hr hL j (by omega);refine (nW n f hl (fD hr _)).mono ?_;rintro _ rfl;refine ⟨_, rfl, ?_⟩;refine (nW n f hl (fD hr _)).mono ?_;rintro _ rfl;refine ⟨_, rfl, ?_⟩;generalize aK rows (L.getD j 0) = a at *;generalize hb : aK rows (L.getD (j + 1) 0) = b at *;refine aC (fun h1 => ?_) (fun h1 => ?_)
 ·simp only [qb, beq_iff_eq] at h1;rw [if_pos h1]
 simp only [qb, beq_iff_eq] at h1;rw [if_neg h1];refine (zmt a).mono ?_;rintro _ rfl;refine ⟨_, rfl, aC (fun h2 => ?_) (fun h2 => ?_)⟩
 ·rw [if_pos (.inl h2)]
 refine (zmt b).mono ?_;rintro _ rfl;refine ⟨_, rfl, aC (fun h3 => ?_) (fun h3 => ?_)⟩
 ·rw [if_pos (.inr h3)]
 rw [if_neg (fun h => h.elim h2 h3)];refine (zyr a b).mono ?_;rintro _ rfl;refine ⟨_, rfl, aC (fun h4 => ?_) (fun h4 => ?_)⟩
 ·simp only [qg, beq_iff_eq] at h4;rw [if_pos (by rcases h4 with (((h | h) | h) | h) | h; exact .inl h; exact .inr (.inl h); exact .inr (.inr (.inl h)); exact .inr (.inr (.inr (.inl h))); exact .inr (.inr (.inr (.inr h))))]
 simp only [qg, beq_iff_eq] at h4;rw [if_neg (by rintro (h | h | h | h | h); exact h4 (.inl (.inl (.inl (.inl h)))); exact h4 (.inl (.inl (.inl (.inr h)))); exact h4 (.inl (.inl (.inr h))); exact h4 (.inl (.inr h)); exact h4 (.inr h))];refine c1.mono ?_;rintro _ rfl;refine ⟨_, rfl, ?_⟩;generalize (decide (bE rows (L.getD (j + 1) 0) = 2) && decide ((bA rows L 0 (j + 1)).conj = 2)) = x1;cases x1 with
 | true => exact bF (by simp) rfl
 | false =>
   refine bJ rfl ?_;refine c2.mono ?_;rintro _ rfl;refine ⟨_, rfl, ?_⟩;generalize (bN rows 5 (L.getD (j + 1) 0) && decide ((bA rows L 0 (j + 1)).pict = 2)) = x2;cases x2 with
   | true => exact bF (by simp) rfl
   | false =>
     refine bJ rfl ?_;refine c3.mono ?_;rintro _ rfl;exact ⟨_, rfl, rfl⟩
theorem zy0 (k : Int) (k0 : 0 <= k) (k1 : k < L.length) : PCall qa 97 [.sl n f (bB rows), .sl n2 f2 (aA L), .int .i64 k] fun x => x = .int .i64 (bO rows L k.toNat : Nat) := by
 refine zyk _ _ _ _ _ _ _ (fun i => (k + 1 <= i /\ i <= L.length) /\ bO rows L k.toNat = eP rows L (L.length - i.toNat) i.toNat) (fun i => L.length - i.toNat) ?_;unfold zmh;have hl8 : ((aA L).length : Int) = L.length := by rw [a8]
 have hw : i64.wrap (k + 1) = k + 1 := aG (by omega) (by omega);rw [hl8, hw];refine ⟨⟨rfl, ⟨by omega, by omega⟩, by rw [show (k + 1).toNat = k.toNat + 1 by omega]; rfl⟩, ?_⟩;rintro i ⟨⟨i0, i1⟩, hn⟩;refine aC (fun hc => ?_) (fun hc => ?_)
 ·simp only [aB] at hc;have hi : i.toNat < L.length := by omega
  have hwi : i64.wrap (i + 1) = i + 1 := aG (by omega) (by omega);rw [hwi];refine (zyz ht n f n2 f2 hl L hr hL i (by omega) hc).mono ?_;rintro _ rfl;refine ⟨_, rfl, aC (fun hb => ?_) (fun hb => ?_)⟩
  ·rw [hn, zmq hi hb, show ((i.toNat : Nat) : Int) = i by omega]
  ·refine ⟨rfl, ⟨⟨by omega, by omega⟩, ?_⟩, by first | omega | (dsimp only; omega)⟩
   rw [hn, zmp hi (by simpa using hb), show (i + 1).toNat = i.toNat + 1 by omega]
 ·simp only [aB] at hc;rw [hn, show L.length - i.toNat = 0 by omega];show _ = PV.int .i64 ((i.toNat : Nat) : Int);rw [show ((i.toNat : Nat) : Int) = (L.length : Int) by omega]
theorem zy1 (hL2 : L.length < 100000000) : PCall qa 63 [.sl n f (bB rows), .sl n2 f2 (aA L)] fun x => ∃ (n f : Bool) (Q : List (Bool × Bool × List Int)), x = .sl n f (Q.map mP) /\ Q.map (fun q => q.2.2) = eQ rows L 0 := by
 refine zyl _ _ _ _ _ _
  (fun i n s => (0 <= i /\ i <= L.length) /\ ∃ Q : List (Bool × Bool × List Int), s = Q.map mP /\ eQ rows L 0 = Q.map (fun q => q.2.2) ++ eQ rows L i.toNat /\ Q.length <= i.toNat) (fun i _ _ => L.length - i.toNat) ?_
 unfold zmi;have hl8 : ((aA L).length : Int) = L.length := by rw [a8]
 rw [hl8];refine ⟨⟨rfl, ⟨qm _, by omega⟩, [], rfl, rfl, qj _⟩, ?_⟩;rintro i n3 _ ⟨⟨i0, i1⟩, Q, rfl, hcl, hql⟩;refine aC (fun hc => ?_) (fun hc => ?_)
 ·simp only [aB] at hc;have hi : i.toNat < L.length := by omega
  obtain ⟨x1, x2, x3⟩ := eH (rows := rows) hi;refine (zy0 ht n f n2 f2 hl L hr hL i i0 hc).mono ?_;rintro _ rfl;refine ⟨_, rfl, ⟨zlp i0 (by omega) (by rw [a8]; omega), cZ _⟩, ?_⟩;rw [show (((bO rows L i.toNat : Nat) : Int)).toNat = bO rows L i.toNat by omega, zlq];refine ⟨⟨g9 (enc := mP) zmr [(n2, _, eL L i.toNat (bO rows L i.toNat))], by rw [qd]; omega⟩, rfl, ⟨⟨by omega, by omega⟩, Q ++ [(n2, _, eL L i.toNat (bO rows L i.toNat))], by rw [qq]; rfl, ?_, ?_⟩, ?_⟩
  ·rw [show (((bO rows L i.toNat : Nat) : Int)).toNat = bO rows L i.toNat by omega, hcl, vL hi, qq, qaj]; rfl
  ·rw [show (((bO rows L i.toNat : Nat) : Int)).toNat = bO rows L i.toNat by omega, qn, qt]; omega
  ·dsimp only; omega
 ·simp only [aB] at hc;rw [pN (i := i.toNat) (by omega), qbb] at hcl;exact ⟨n3, false, Q, rfl, hcl.symm⟩
end
end Go.Eng
namespace Go.Eng.Rows
open Go Go.Eng Go.Eng.Trie Go.Eng.Srt
def zc1 (p : Int × List Int) (c : List Int) : Bool := decide (p.1 = 1) || (decide (p.1 = 0) && decide (p.2 = c))
inductive Deal : List (Int × List Int) -> List (List Int) -> Prop
 | nil : Deal [] []
 | one {p : Int × List Int} {c : List Int} {ps : List (Int × List Int)} {cs : List (List Int)} (h : p.1 ≠ 2) (h1 : zc1 p c = true) (h2 : Deal ps cs) : Deal (p :: ps) (c :: cs)
 | many {p : Int × List Int} {D : List (List Int)} {ps : List (Int × List Int)} {cs : List (List Int)} (h : p.1 = 2) (h2 : Deal ps cs) : Deal (p :: ps) (D ++ cs)
theorem Deal.app {P Q : List (Int × List Int)} {C D : List (List Int)} (h : Deal P C) (k : Deal Q D) : Deal (P ++ Q) (C ++ D) := by
 induction h with
 | nil => exact k
 | one h h1 _ ih => exact .one h h1 ih
 | many h _ ih => rw [qaj]; exact .many h ih
inductive Ones : List (Int × List Int) -> List (List Int) -> Prop
 | nil : Ones [] []
 | cons {p : Int × List Int} {c : List Int} {ps : List (Int × List Int)} {cs : List (List Int)} (h : p.1 ≠ 2) (h1 : zc1 p c = true) (h2 : Ones ps cs) : Ones (p :: ps) (c :: cs)
theorem Ones.snoc {P : List (Int × List Int)} {C : List (List Int)} (h : Ones P C) {p : Int × List Int} {c : List Int} (h1 : p.1 ≠ 2) (h2 : zc1 p c = true) : Ones (P ++ [p]) (C ++ [c]) := by
 induction h with
 | nil => exact .cons h1 h2 .nil
 | cons h h1 _ ih => exact .cons h h1 ih
theorem Ones.len {P : List (Int × List Int)} {C : List (List Int)} (h : Ones P C) : P.length = C.length := by
 induction h with
 | nil => rfl
 | cons h h1 _ ih => rw [qc, qc, ih]
theorem Ones.split {P : List (Int × List Int)} {C : List (List Int)} (h : Ones P C) {R : List (Int × List Int)} : ∀ {D : List (List Int)}, Deal (P ++ R) D -> ∃ E cs, D = E ++ cs /\ E.length = P.length /\ Deal R cs := by
 induction h with
 | nil => exact fun {D} hd => ⟨[], D, rfl, rfl, hd⟩
 | cons h h1 _ ih =>
   intro D hd;cases hd with
   | one _ _ h2 =>
     obtain ⟨E, cs, e, hl, hd⟩ := ih h2;exact ⟨_ :: E, cs, by rw [e]; rfl, by rw [qc, qc, hl], hd⟩
   | many h3 _ => exact absurd h3 h
section
variable {Q P : List (Int × List Int)} {E C : List (List Int)} {x y : Int × List Int}
end
section
variable {P : List (Int × List Int)} {C : List (List Int)} {a i star fr : Int}
end
section
variable {rows : List Row} {out : List (Int × List Int)} {plain l : List Int} {c : Int}
end
def cC (rows : List Row) (l : List Int) : List (List Int) := eQ rows (dN rows l) 0
def dT (rows : List Row) (a b : List Int) : Bool := decide ((cC rows a).take (cC rows b).length = cC rows b)
def dU : List (List Int) -> List (List Int) -> List (List Int)
 | a :: xs, b :: bs => if a = b then a :: dU xs bs else []
 | _, _ => []
theorem zc2 : ∀ A B : List (List Int), dU A B <+: A
 | [], B => by unfold dU; exact qy
 | a :: xs, [] => by unfold dU; exact qy
 | a :: xs, b :: bs => by
   rw [dU]; split
   ·exact List.cons_prefix_cons.2 ⟨rfl, zc2 xs bs⟩
   ·exact qy
theorem zc3 : ∀ A B : List (List Int), dU A B <+: B
 | [], B => by unfold dU; exact qy
 | a :: xs, [] => by unfold dU; exact qy
 | a :: xs, b :: bs => by
   rw [dU]; split
   ·rename_i h; exact List.cons_prefix_cons.2 ⟨h, zc3 xs bs⟩
   ·exact qy
theorem zmu : ∀ {X A B : List (List Int)}, X <+: A -> X <+: B -> X <+: dU A B
 | [], A, B, _, _ => qy
 | x :: X, [], B, h, _ => by cases (List.prefix_nil.1 h)
 | x :: X, a :: xs, [], _, h => by cases (List.prefix_nil.1 h)
 | x :: X, a :: xs, b :: bs, h, k => by
   obtain ⟨e, h⟩ := List.cons_prefix_cons.1 h;obtain ⟨e2, k⟩ := List.cons_prefix_cons.1 k;rw [dU, if_pos (e.symm.trans e2)];exact List.cons_prefix_cons.2 ⟨e, zmu h k⟩
def pP (C0 : List (List Int)) (Cs : List (List (List Int))) : List (List Int) := Cs.foldl dU C0
theorem zc4 : ∀ (Cs : List (List (List Int))) (C0 : List (List Int)), pP C0 Cs <+: C0
 | [], C0 => List.prefix_refl _
 | C :: Cs, C0 => (zc4 Cs _).trans (zc2 C0 C)
theorem zmv : ∀ (Cs : List (List (List Int))) (C0 : List (List Int)), ∀ C ∈ Cs, pP C0 Cs <+: C
 | [], C0, C, h => by cases h
 | D :: Cs, C0, C, h => by
   rcases List.mem_cons.1 h with rfl | h
   ·exact (zc4 Cs _).trans (zc3 C0 C)
   ·exact zmv Cs _ C h
def fE (rows : List Row) : List (List Int) -> List (List Int)
 | [] => []
 | t :: T => pP (cC rows t) (T.map (cC rows))
theorem zy2 {rows : List Row} : ∀ {T : List (List Int)} {t : List Int}, t ∈ T -> fE rows T <+: cC rows t
 | s :: T, t, h => by
   rcases List.mem_cons.1 h with rfl | h
   ·exact zc4 _ _
   ·exact zmv _ _ _ (List.mem_map.2 ⟨t, h, rfl⟩)
section
variable {rows : List Row} {L : List Int}
theorem zmw : ∀ (k i x : Nat), i <= x -> x < eP rows L k i -> c6 rows L x = false
 | 0, i, x, h1, h2 => by rw [eP] at h2; omega
 | k + 1, i, x, h1, h2 => by
   rw [eP] at h2;split at h2
   ·omega
   ·rename_i hb;by_cases e : x = i
    ·rw [e]; simpa using hb
    ·exact zmw k (i + 1) x (by omega) h2
end
def eD (rows : List Row) (L : List Int) (i : Nat) : Bool := decide (i < L.length) && bN rows 8 (L.getD i 0)
def kI (rows : List Row) (L : List Int) : Nat -> Nat -> Nat
 | 0, i => i
 | k + 1, i => if eD rows L i = true then kI rows L k (bO rows L i) else i
def dO (rows : List Row) (L : List Int) (i : Nat) : Nat := kI rows L (L.length + 1) i
def i6 (rows : List Row) (L : List Int) : Nat -> Nat -> List (Nat × Nat)
 | 0, _ => []
 | k + 1, i => if i < L.length then (if eD rows L i = true then (i, dO rows L i) :: i6 rows L k (dO rows L i) else i6 rows L k (bO rows L i)) else []
def fF (rows : List Row) (L : List Int) (i : Nat) : List (Nat × Nat) := i6 rows L (L.length + 1) i
section
variable {rows : List Row} {L : List Int}
theorem kJ {i : Nat} (h : eD rows L i = true) : i < L.length := by
 unfold eD at h;simp only [qb, aB] at h; exact h.1
theorem zmx : ∀ (k i : Nat), L.length <= k + i -> kI rows L k i = kI rows L (k + 1) i
 | 0, i, h => by
   rw [kI, kI, if_neg];intro hl;have := kJ hl; omega
 | k + 1, i, h => by
   rw [kI, kI];by_cases hl : eD rows L i = true
   ·rw [if_pos hl, if_pos hl, zmx k _ (by have := (eH (rows := rows) (kJ hl)).1; omega)]
   ·rw [if_neg hl, if_neg hl]
theorem vQ {i : Nat} (h : eD rows L i = true) : dO rows L i = dO rows L (bO rows L i) := by
 have := (eH (rows := rows) (kJ h)).1;unfold dO;rw [<- zmx L.length (bO rows L i) (by omega), kI, if_pos h]
theorem zc5 {i : Nat} (h : ¬eD rows L i = true) : dO rows L i = i := by
 unfold dO; rw [kI, if_neg h]
theorem vR : ∀ (k i : Nat), L.length - i <= k -> i <= L.length -> (i = L.length ∨ c6 rows L i = true) -> i <= dO rows L i /\ dO rows L i <= L.length /\ (dO rows L i = L.length ∨ c6 rows L (dO rows L i) = true) /\ ¬eD rows L (dO rows L i) = true
 | 0, i, h, hi, hb => by
   have hl : ¬eD rows L i = true := fun hl => by have := kJ hl; omega
   rw [zc5 hl]; exact ⟨qj _, hi, hb, hl⟩
 | k + 1, i, h, hi, hb => by
   by_cases hl : eD rows L i = true
   ·obtain ⟨h1, h2, h3⟩ := eH (rows := rows) (kJ hl);rw [vQ hl];obtain ⟨g1, g2, g3, g4⟩ := vR k _ (by omega) h2 h3;exact ⟨by omega, g2, g3, g4⟩
   ·rw [zc5 hl]; exact ⟨qj _, hi, hb, hl⟩
theorem sA {i : Nat} (h : eD rows L i = true) : i < dO rows L i := by
 obtain ⟨h1, h2, h3⟩ := eH (rows := rows) (kJ h);have := (vR (rows := rows) L.length _ (by omega) h2 h3).1;rw [vQ h]; omega
theorem zc6 {i : Nat} (h : eD rows L i = true) : dO rows L i <= L.length := by
 obtain ⟨h1, h2, h3⟩ := eH (rows := rows) (kJ h);rw [vQ h];exact (vR (rows := rows) L.length _ (by omega) h2 h3).2.1
theorem vS : ∀ (k i : Nat), L.length <= k + i -> i6 rows L k i = i6 rows L (k + 1) i
 | 0, i, h => by rw [i6, i6, if_neg (by omega)]
 | k + 1, i, h => by
   rw [i6, i6];by_cases hi : i < L.length
   ·rw [if_pos hi, if_pos hi];by_cases hl : eD rows L i = true
    ·rw [if_pos hl, if_pos hl, vS k _ (by have := sA hl; omega)]
    ·rw [if_neg hl, if_neg hl, vS k _ (by have := (eH (rows := rows) hi).1; omega)]
   ·rw [if_neg hi, if_neg hi]
theorem zc7 {i : Nat} (h : L.length <= i) : fF rows L i = [] := by unfold fF; rw [i6, if_neg (by omega)]
theorem zc8 {i : Nat} (h : eD rows L i = true) : fF rows L i = (i, dO rows L i) :: fF rows L (dO rows L i) := by
 have := sA h;have hl := kJ h;unfold fF;rw [<- vS L.length (dO rows L i) (by omega), i6, if_pos hl, if_pos h]
theorem zc9 {i : Nat} (hi : i < L.length) (h : ¬eD rows L i = true) : fF rows L i = fF rows L (bO rows L i) := by
 have := (eH (rows := rows) hi).1;unfold fF;rw [<- vS L.length (bO rows L i) (by omega), i6, if_pos hi, if_neg h]
def pQ (rows : List Row) (a b : Int) : Bool :=
 if aK rows b = 6 then decide (aK rows a = 6) else if aK rows b = 0 then (decide (aK rows a = 5) && bN rows 5 b) || (decide (bE rows b = 2) && (!decide (bE rows a = 0) && !decide (bE rows a = 2))) else false
structure kK (rows : List Row) : Prop where
 pict : ∀ r, bN rows 5 r = true -> aK rows r = 0
 cons : ∀ r, bE rows r = 2 -> aK rows r = 0
theorem sure_ok (ht : d8 rows) (hw : kK rows) {k : Nat} (hc : kG rows (dB rows jJ (L.getD k 0)) (L.getD (k + 1) 0) = true) (hh : pQ rows (L.getD k 0) (L.getD (k + 1) 0) = false) : c6 rows L (k + 1) = true := by
 have hp := zco (rows := rows) (L := L) k;have hco := zlw (rows := rows) (L := L) k;have ho := zlx (rows := rows) (L := L) k;rw [zcn];have hl : (bA rows L 0 (k + 1)).last = aK rows (L.getD k 0) := by rw [vK, qx]
 generalize bA rows L 0 (k + 1) = s at *;generalize bA rows L 0 k = s0 at *;generalize L.getD (k + 1) 0 = b at *;generalize L.getD k 0 = a at *;unfold mO;rw [hl]
 have hst : gT (aK rows a) (aK rows b) = false := by
  have hc' : (!true || mO rows (dB rows jJ a) b) = true := hc;simp only [qal, qae] at hc';unfold mO at hc';simp only [qb, qh] at hc';exact hc'.1
 have g1 : (decide (s.pict = 2) && bN rows 5 b) = false := by
  cases hb : bN rows 5 b with
  | false => rw [qai]
  | true =>
    have h0 := hw.pict b hb;rw [qbt, bV];intro h2
    have ha5 : aK rows a = 5 := by
     rw [hp] at h2;split at h2
     ·omega
     ·split at h2
      ·omega
      ·split at h2
       ·rename_i h3; exact h3.2
       ·omega
    unfold pQ at hh;rw [if_neg (by omega), if_pos h0, ha5, hb] at hh;simp at hh
 have g2 : (decide (s.conj = 2) && decide (bE rows b = 2)) = false := by
  by_cases hb : bE rows b = 2
  ·have h0 := hw.cons b hb;rw [decide_eq_true hb, qbt, bV];intro h2
   have ha : bE rows a ≠ 0 /\ bE rows a ≠ 2 := by
    rw [hco] at h2;split at h2
    ·omega
    ·rename_i h3;refine ⟨fun h4 => ?_, h3⟩;rw [h4] at h2;rw [if_neg (fun h => absurd h.2 (by decide)), if_neg (fun h => absurd h.2 (by decide))] at h2;omega
   unfold pQ at hh;rw [if_neg (by omega), if_pos h0, decide_eq_true hb, decide_eq_false ha.1, decide_eq_false ha.2] at hh;simp at hh
  ·rw [decide_eq_false hb, qai]
 have g3 : (s.odd && decide (aK rows b = 6)) = false := by
  by_cases hb : aK rows b = 6
  ·unfold pQ at hh;rw [if_pos hb, bV] at hh;rw [ho, decide_eq_false hh]; rfl
  ·rw [decide_eq_false hb, qai]
 rw [hst, g1, g2, g3]; rfl
theorem zy3 {i j : Nat} (hij : i < j) (hj : j <= L.length) (hb : j = L.length ∨ c6 rows L j = true) : bO rows L i <= j := by
 apply qav;intro h;rcases hb with hb | hb
 ·have := (eH (rows := rows) (L := L) (i := i) (by omega)).2.1; omega
 ·have := zmw (rows := rows) (L := L) (L.length - (i + 1)) (i + 1) j (by omega) (by unfold bO at h; omega);rw [this] at hb; cases hb
end
def vT (rows : List Row) (lo hi : Int) : Bool := (rows.all fun y => !decide (y.kind = 4) || (decide (y.to < lo) || decide (hi < y.fr))) && (decide (hi < 44032) || decide (55203 < lo))
def zy4 (rows : List Row) : Bool := rows.all fun x => (!(decide (x.kind = 5) && decide (x.a = 1)) || vT rows x.fr x.to) && (!(decide (x.kind = 6) && decide (x.a = 2)) || vT rows x.fr x.to)
theorem zmy {rows : List Row} {lo hi r : Int} (h : vT rows lo hi = true) (hr : lo <= r /\ r <= hi) : aK rows r = 0 := by
 unfold vT at h;simp only [qb, qg, aB] at h;unfold aK;rw [if_neg (by omega)];unfold aH;cases hf : bR rows 4 r with
 | none => rfl
 | some p =>
   obtain ⟨x, hx, hk, ha, _, h3, h4, _⟩ := iF hf;have := List.all_eq_true.1 h.1 x hx;simp only [qg, qh, aB, bV] at this;rcases this with h5 | h5 | h5
   ·exact absurd hk h5
   ·omega
   ·omega
theorem zy5 {rows : List Row} (h : zy4 rows = true) : kK rows := by
 have hall := List.all_eq_true.1 h;refine ⟨fun r hr => ?_, fun r hr => ?_⟩
 ·unfold bN at hr;cases hf : bR rows 5 r with
  | none => rw [hf] at hr; cases hr
  | some p =>
    rw [hf] at hr;obtain ⟨x, hx, hk, ha, _, h3, h4, _⟩ := iF hf;have := hall x hx;simp only [qb, qg, qh, qr, bV] at this;rcases this.1 with (h5 | h5) | h5
    ·exact absurd hk h5
    ·exact absurd (ha.trans (of_decide_eq_true hr)) h5
    ·exact zmy h5 ⟨h3, h4⟩
 ·have hn : aH rows 6 r = 2 := by
   unfold bE at hr;split at hr
   ·exact hr
   ·split at hr <;> omega
  unfold aH at hn;cases hf : bR rows 6 r with
  | none => rw [hf] at hn; cases hn
  | some p =>
    rw [hf] at hn;obtain ⟨x, hx, hk, ha, _, h3, h4, _⟩ := iF hf;have := hall x hx;simp only [qb, qg, qh, qr, bV] at this;rcases this.2 with (h5 | h5) | h5
    ·exact absurd hk h5
    ·exact absurd (ha.trans hn) h5
    ·exact zmy h5 ⟨h3, h4⟩
end Go.Eng.Rows
namespace Go.Eng
open Go.Eng.Rows
theorem zy6 : kK tab := zy5 (by kernel_rfl)
end Go.Eng
namespace Go.Eng
open Go Go.Proofs
section
variable (tc tg tj tf tp : PV) (M S : List (PV × PV)) (r : Int)
def zmz (R : PV -> Prop) : Prop :=
 (∃ ps, some tf = some (PV.ptr ps) /\ PCall qa 92 [PV.ptr ps, Z6 (i64.wrap r)] fun v => ∃ cs, v = PV.agg cs /\ cs.length = 4 /\ ∃ b, cs.head? = some (Zb b) /\ ∃ b1, cs.tail.head? = some (Zb b1) /\ ∃ b2, cs.tail.tail.head? = some (Zb b2) /\ ∃ b3, cs.tail.tail.tail.head? = some (Zb b3) /\ R (Zb b2)) ∨ some tf = some PV.nilp /\ PCall qa 92 [PV.nilp, Z6 (i64.wrap r)] fun v => ∃ cs, v = PV.agg cs /\ cs.length = 4 /\ ∃ b, cs.head? = some (Zb b) /\ ∃ b1, cs.tail.head? = some (Zb b1) /\ ∃ b2, cs.tail.tail.head? = some (Zb b2) /\ ∃ b3, cs.tail.tail.tail.head? = some (Zb b3) /\ R (Zb b2)
theorem zy7 {R : PV -> Prop} (h : zmz tf r R) : PCall qa 130 [.ptr [tc, tg, tj, tf, tp, .mp M, .mp S], .int .i32 r] R :=
 PCall.wz Tryz.func130 aM [0, 1, 4] aT h
end
section
variable (tc tg tj tf tp : PV) (M S : List (PV × PV)) (a b : Int)
def zm0 (R : PV -> Prop) : Prop :=
 PCall qa 142 [PV.ptr [tc, tg, tj, tf, tp, PV.mp M, PV.mp S], Z3 b] fun v => ∃ n, v = Z6 n /\ if (n == 6) = true then PCall qa 142 [PV.ptr [tc, tg, tj, tf, tp, PV.mp M, PV.mp S], Z3 a] fun v1 => ∃ (n1 :
  Int), v1 = Z6 n1 /\ R (Zb (n1 == 6)) else if (n == 0) = true then PCall qa 142 [PV.ptr [tc, tg, tj, tf, tp, PV.mp M, PV.mp S], Z3 a] fun v1 => ∃ n1, v1 = Z6 n1 /\
 let V1 := PCall qa 144 [PV.ptr [tc, tg, tj, tf, tp, PV.mp M, PV.mp S], Z3 b] fun v3 => ∃ n2, v3 = Z6 n2 /\ if (n2 == 2) = true then PCall qa 144 [PV.ptr [tc, tg, tj, tf, tp, PV.mp M, PV.mp S], Z3 a] fun (v4 : PV)
  => ∃ n3, v4 = Z6 n3 /\ if (n3 != 0) = true then PCall qa 144 [PV.ptr [tc, tg, tj, tf, tp, PV.mp M, PV.mp S], Z3 a] fun v5 => ∃ n4, v5 = Z6 n4 /\ R (Zb (n4 != 2)) else R (Zb false) else R (Zb false); if (n1 == 5)
  = true then PCall qa 143 [PV.ptr [tc, tg, tj, tf, tp, PV.mp M, PV.mp S], Z3 b] fun v2 => ∃ b1, v2 = Zb b1 /\ if b1 = true then R (Zb true) else V1 else V1 else R (Zb false)
theorem zy8 {R : PV -> Prop} (h : zm0 tc tg tj tf tp M S a b R) : PCall qa 176 [.ptr [tc, tg, tj, tf, tp, .mp M, .mp S], .int .i32 a, .int .i32 b] R :=
 PCall.wz Tryz.func176 aM [0, 1, 2, 6, 9, 10, 16] aT h
end
def zda (tc tg tj tf tp : PV) (M S : List (PV × PV)) (n f : Bool) (es : LL) (x2 : Int) : Env × Hp := ([(0, LV.pv (PV.ptr [tc, tg, tj, tf, tp, PV.mp M, PV.mp S])), (1, LV.pv (PV.sl n f es)), (2, Y6 x2)], [])
section
variable (tc tg tj tf tp : PV) (M S : List (PV × PV)) (n f : Bool) (es : LL) (k : Int) (J : Int -> Prop) (μ : Int -> Nat)
def zm1 (R : PV -> Prop) : Prop :=
 (aF (zda tc tg tj tf tp M S n f es k) /\ J k) /\ ∀ (x2 : Int), J x2 ->
 let K1 := fun (y0_ : Int) => aF (zda tc tg tj tf tp M S n f es y0_) /\ J y0_ /\ μ y0_ < μ x2; if decide (x2 > 0) = true then aI es (i64.wrap (x2 - 1)) 1 /\ ∃ n1, (es.getD (i64.wrap (x2 - 1)).toNat []).head? =
  some (Z3 n1) /\ PCall qa 120 [PV.agg [Zb false, Z6 0, Z6 0, Z6 0, Zb false], PV.ptr [tc, tg, tj, tf, tp, PV.mp M, PV.mp S], Z3 n1] fun v => ∃ vs, v = PV.tup vs /\ vs.length = 2 /\ ∃ x, vs.head? = some x /\ ∃
  (cs : List PV), x = PV.agg cs /\ cs.length = 5 /\ ∃ b, cs.head? = some (Zb b) /\ ∃ n2, cs.tail.head? = some (Z6 n2) /\ ∃ n3, cs.tail.tail.head? = some (Z6 n3) /\ ∃ n4, cs.tail.tail.tail.head? = some (Z6 n4) /\
  ∃ b1, cs.tail.tail.tail.tail.head? = some (Zb b1) /\ ∃ x1, vs.tail.head? = some x1 /\ ∃ b2, x1 = Zb b2 /\
 let V1 := aI es x2 1 /\ ∃ n5, (es.getD x2.toNat []).head? = some (Z3 n5) /\
 let V2 := aI es (i64.wrap (x2 - 1)) 1 /\ ∃ n9, (es.getD (i64.wrap (x2 - 1)).toNat []).head? = some (Z3 n9) /\ aI es x2 1 /\ ∃ n10, (es.getD x2.toNat []).head? = some (Z3 n10) /\ PCall qa 176 [PV.ptr
  [tc, tg, tj, tf, tp, PV.mp M, PV.mp S], Z3 n9, Z3 n10] fun v2 => ∃ b6, v2 = Zb b6 /\ if (!b6) = true then R (Z6 x2) else K1 (i64.wrap (x2 - 1));
 let V3 := K1 (i64.wrap (x2 - 1)); (PCall qa 120 [PV.agg [Zb b, Z6 n2, Z6 n3, Z6 n4, Zb b1], PV.ptr [tc, tg, tj, tf, tp, PV.mp M, PV.mp S], Z3 n5] fun v1 => ∃ vs1, v1 = PV.tup vs1 /\ vs1.length = 2 /\ ∃ (x3 :
  PV), vs1.head? = some x3 /\ ∃ cs1, x3 = PV.agg cs1 /\ cs1.length = 5 /\ ∃ b3, cs1.head? = some (Zb b3) /\ ∃ n6, cs1.tail.head? = some (Z6 n6) /\ ∃ n7, cs1.tail.tail.head? = some (Z6 n7) /\ ∃ (n8 : Int),
  cs1.tail.tail.tail.head? = some (Z6 n8) /\ ∃ b4, cs1.tail.tail.tail.tail.head? = some (Zb b4) /\ ∃ x4, vs1.tail.head? = some x4 /\ ∃ b5, x4 = Zb b5 /\ (if b5 = true then V2 else V3) /\ (if b5 = true then V2 else V3) /\
  if b5 = true then V2 else V3) /\ PCall qa 120 [PV.agg [Zb b, Z6 n2, Z6 n3, Z6 n4, Zb b1], PV.ptr [tc, tg, tj, tf, tp, PV.mp M, PV.mp S], Z3 n5] fun v1 => ∃ vs1, v1 = PV.tup vs1 /\ vs1.length = 2 /\ ∃ (x3 : PV),
  vs1.head? = some x3 /\ ∃ cs1, x3 = PV.agg cs1 /\ cs1.length = 5 /\ ∃ b3, cs1.head? = some (Zb b3) /\ ∃ n6, cs1.tail.head? = some (Z6 n6) /\ ∃ n7, cs1.tail.tail.head? = some (Z6 n7) /\ ∃ (n8 : Int),
  cs1.tail.tail.tail.head? = some (Z6 n8) /\ ∃ b4, cs1.tail.tail.tail.tail.head? = some (Zb b4) /\ ∃ x4, vs1.tail.head? = some x4 /\ ∃ b5, x4 = Zb b5 /\ (if b5 = true then V2 else V3) /\ if b5 = true then V2 else V3; V1
  /\ V1 else R (Z6 0)
theorem zy9 {R : PV -> Prop} (h : zm1 tc tg tj tf tp M S n f es k J μ R) : PCall qa 172 [.ptr [tc, tg, tj, tf, tp, .mp M, .mp S], .sl n f es, .int .i64 k] R :=
 PCall.wz Tryz.func172 aM [0, 1, 2, 6, 7, 9, 11, 49] (bP 1 (aX iU (zda tc tg tj tf tp M S n f es) J μ (fun e h => (((gI e 2), ()))) [] [0, 1, 2] [])) h
end
def zdb (tc tg tj tf tp : PV) (M S : List (PV × PV)) (n f : Bool) (es : LL) (k x7 : Int) : Env × Hp := ([(0, LV.pv (PV.ptr [tc, tg, tj, tf, tp, PV.mp M, PV.mp S])), (1, LV.pv (PV.sl n f es)), (2, Y6 k), (7, Y6 x7)], [])
section
variable (tc tg tj tf tp : PV) (M S : List (PV × PV)) (n f : Bool) (es : LL) (k : Int) (J : Int -> Prop) (μ : Int -> Nat)
def zm2 (R : PV -> Prop) : Prop :=
 if decide (k <= 0) = true then R (Z6 0) else if decide (k >= (↑es.length : Int)) = true then R (Z6 (↑es.length : Int)) else PCall qa 172 [PV.ptr [tc, tg, tj, tf, tp, PV.mp M, PV.mp S], PV.sl n f es, Z6 k] fun v => ∃ n1, v = Z6 n1 /\ (aF (zdb tc tg tj tf tp M S n f es k n1) /\ J n1) /\ ∀ (x7 : Int), J x7 -> if decide (x7 < k) = true then PCall qa 94 [PV.ptr [tc, tg, tj, tf, tp, PV.mp M, PV.mp S], PV.sl n f es, Z6 x7] fun v1 => ∃ n2, v1 = Z6 n2 /\ if decide (n2 > k) = true then R (Z6 x7) else aF (zdb tc tg tj tf tp M S n f es k n2) /\ J n2 /\ μ n2 < μ x7 else R (Z6 x7)
theorem zza {R : PV -> Prop} (h : zm2 tc tg tj tf tp M S n f es k J μ R) : PCall qa 161 [.ptr [tc, tg, tj, tf, tp, .mp M, .mp S], .sl n f es, .int .i64 k] R :=
 PCall.wz Tryz.func161 aM [0, 1, 2, 6, 7, 8, 9, 12, 25, 31] (bP 6 (aX iU (zdb tc tg tj tf tp M S n f es k) J μ (fun e h => (((gI e 7), ()))) [] [0, 1, 2, 7] [])) h
end
section
variable (tc tg tj tf tp : PV) (M S : List (PV × PV)) (n f : Bool) (es : LL) (k : Int)
def zm3 (R : PV -> Prop) : Prop :=
 PCall qa 161 [PV.ptr [tc, tg, tj, tf, tp, PV.mp M, PV.mp S], PV.sl n f es, Z6 k] fun v => ∃ n1, v = Z6 n1 /\ if decide (n1 >= k) = true then R (Z6 n1) else PCall qa 94 [PV.ptr [tc, tg, tj, tf, tp, PV.mp M, PV.mp S], PV.sl n f es, Z6 n1] fun v1 => ∃ n2, v1 = Z6 n2 /\ R (Z6 n2)
theorem zzb {R : PV -> Prop} (h : zm3 tc tg tj tf tp M S n f es k R) : PCall qa 131 [.ptr [tc, tg, tj, tf, tp, .mp M, .mp S], .sl n f es, .int .i64 k] R :=
 PCall.wz Tryz.func131 aM [0, 1, 2, 6, 7, 14] aT h
end
section
variable (tc tg tj tf tp : PV) (M S : List (PV × PV)) (n f : Bool) (es : LL) (k : Int)
def zm4 (R : PV -> Prop) : Prop :=
 if decide (k < (↑es.length : Int)) = true then aI es k 1 /\ ∃ n1, (es.getD k.toNat []).head? = some (Z3 n1) /\ PCall qa 130 [PV.ptr [tc, tg, tj, tf, tp, PV.mp M, PV.mp S], Z3 n1] fun v => ∃ b, v = Zb b /\ R (Zb b) else R (Zb false)
theorem zzc {R : PV -> Prop} (h : zm4 tc tg tj tf tp M S es k R) : PCall qa 104 [.ptr [tc, tg, tj, tf, tp, .mp M, .mp S], .sl n f es, .int .i64 k] R :=
 PCall.wz Tryz.func104 aM [0, 1, 2, 6] aT h
end
def zdc (tc tg tj tf tp : PV) (M S : List (PV × PV)) (n f : Bool) (es : LL) (x2 : Int) : Env × Hp := ([(0, LV.pv (PV.ptr [tc, tg, tj, tf, tp, PV.mp M, PV.mp S])), (1, LV.pv (PV.sl n f es)), (2, Y6 x2)], [])
section
variable (tc tg tj tf tp : PV) (M S : List (PV × PV)) (n f : Bool) (es : LL) (k : Int) (J : Int -> Prop) (μ : Int -> Nat)
def zm5 (R : PV -> Prop) : Prop :=
 PCall qa 131 [PV.ptr [tc, tg, tj, tf, tp, PV.mp M, PV.mp S], PV.sl n f es, Z6 k] fun v => ∃ n1, v = Z6 n1 /\
 let V1 := (aF (zdc tc tg tj tf tp M S n f es n1) /\ J n1) /\ ∀ (x2 : Int), J x2 -> PCall qa 104 [PV.ptr [tc, tg, tj, tf, tp, PV.mp M, PV.mp S], PV.sl n f es, Z6 x2] fun v2 => ∃ b1, v2 = Zb b1 /\ if b1 = true then
  PCall qa 94 [PV.ptr [tc, tg, tj, tf, tp, PV.mp M, PV.mp S], PV.sl n f es, Z6 x2] fun v3 => ∃ n2, v3 = Z6 n2 /\ aF (zdc tc tg tj tf tp M S n f es n2) /\ J n2 /\ μ n2 < μ x2 else R (Z6 x2); if decide (n1 <
  (↑es.length : Int)) = true then PCall qa 104 [PV.ptr [tc, tg, tj, tf, tp, PV.mp M, PV.mp S], PV.sl n f es, Z6 n1] fun v1 => ∃ b, v1 = Zb b /\ if (!b) = true then PCall qa 94 [PV.ptr [tc, tg, tj, tf, tp, PV.mp
  M, PV.mp S], PV.sl n f es, Z6 n1] fun v2 => ∃ n2, v2 = Z6 n2 /\ aJ 1103 else V1 else V1
theorem zzd {R : PV -> Prop} (h : zm5 tc tg tj tf tp M S n f es k J μ R) : PCall qa 105 [.ptr [tc, tg, tj, tf, tp, .mp M, .mp S], .sl n f es, .int .i64 k] R :=
 PCall.wz Tryz.func105 aM [0, 1, 2, 6, 21, 29] (bP 4 (aX iU (zdc tc tg tj tf tp M S n f es) J μ (fun e h => (((gI e 2), ()))) [] [0, 1, 2] [])) h
end
def zdd (tc tg tj tf tp : PV) (M S : List (PV × PV)) (n f : Bool) (es : LL) (x6 : Int) (n_0 : Bool) (s_0 : LL) : Env × Hp := ([(0, LV.pv (PV.ptr [tc, tg, tj, tf, tp, PV.mp M, PV.mp S])), (1, LV.pv (PV.sl n f es)), (5, LV.own 0), (6, Y6 x6)], [.sl (120, 2) true n_0 s_0])
section
variable (tc tg tj tf tp : PV) (M S : List (PV × PV)) (n f : Bool) (es : LL) (J : Int -> Bool -> LL -> Prop) (μ : Int -> Bool -> LL -> Nat)
def zm6 (R : PV -> Prop) : Prop :=
 (aF (zdd tc tg tj tf tp M S n f es (0 : Int) true []) /\ J (0 : Int) true []) /\ ∀ (x6 : Int) (n_0 : Bool) (s_0 : LL), J x6 n_0 s_0 ->
 let K3 := fun (y0_ : Int) (y1_ : Bool) (y2_ : LL) => aF (zdd tc tg tj tf tp M S n f es y0_ y1_ y2_) /\ J y0_ y1_ y2_ /\ μ y0_ y1_ y2_ < μ x6 n_0 s_0; if decide (x6 < (↑es.length : Int)) = true then PCall qa 104 [PV.ptr [tc, tg, tj, tf, tp, PV.mp M, PV.mp S], PV.sl n f es, Z6 x6] fun v => ∃ b, v = Zb b /\ if (!b) = true then PCall qa 94 [PV.ptr [tc, tg, tj, tf, tp, PV.mp M, PV.mp S], PV.sl n f es, Z6 x6] fun v1 => ∃ n1, v1 = Z6 n1 /\ K3 n1 n_0 s_0 else PCall qa 105 [PV.ptr [tc, tg, tj, tf, tp, PV.mp M, PV.mp S], PV.sl n f es, Z6 x6] fun v1 => ∃ n1, v1 = Z6 n1 /\ (aR [[Z6 x6, Z6 n1]] 2 /\ (s_0.length + 1) * 16 <= 140737488355328) /\ K3 n1 (n_0 && false) (s_0 ++ [[Z6 x6, Z6 n1]]) else R (PV.sl n_0 false s_0)
theorem zze {R : PV -> Prop} (h : zm6 tc tg tj tf tp M S n f es J μ R) : PCall qa 73 [.ptr [tc, tg, tj, tf, tp, .mp M, .mp S], .sl n f es] R :=
 PCall.wz Tryz.func73 aM [0, 1, 4, 5, 6, 7, 11, 16] (bP 3 (aX dM (zdd tc tg tj tf tp M S n f es) J μ (fun e h => (gI e 6, oN h 0, oS h 0)) [(5, 120, 2)] [0, 1, 5, 6] [])) h
end
end Go.Eng
namespace Go.Eng
open Go Go.Proofs Go.Eng.Rows Go.Eng.Trie Go.Eng.Srt
section
variable {rows : List Row} {v : PV}
theorem zzf (hv : cO rows v) {r : Int} (hr : -2147483648 <= r /\ r <= 2147483647) : PCall qa 130 [v, .int .i32 r] fun x => x = .bool (bN rows 8 r) := by
 obtain ⟨tc, tg, tj, tf, tp, made, sec, rfl, ht, hm⟩ := hv;refine zy7 _ _ _ _ _ _ _ _ ?_; unfold zmz;obtain ⟨ps, rfl⟩ := ht.f.ptr;refine .inl ⟨ps, rfl, ?_⟩;have hw : i64.wrap r = r := aG (by omega) (by omega);rw [hw];refine (zax ht.f r (by omega)).mono ?_;rintro _ rfl;rw [zbe];exact ⟨_, rfl, rfl, _, rfl, _, rfl, _, rfl, _, rfl, rfl⟩
theorem zzg (hv : cO rows v) {a b : Int} (ha : -2147483648 <= a /\ a <= 2147483647) (hb : -2147483648 <= b /\ b <= 2147483647) : PCall qa 176 [v, .int .i32 a, .int .i32 b] fun x => x = .bool (pQ rows a b) := by
 have b1 := vN hv ha;have b2 := vN hv hb;have c1 := zcy hv ha;have c2 := zcy hv hb;have p2 := zmk hv hb;obtain ⟨tc, tg, tj, tf, tp, made, sec, rfl, ht, hm⟩ := hv;refine zy8 _ _ _ _ _ _ _ _ _ ?_; unfold zm0 pQ;refine b2.mono ?_;rintro _ rfl;refine ⟨_, rfl, aC (fun h6 => ?_) (fun h6 => aC (fun h0 => ?_) (fun h0 => ?_))⟩
 ·simp only [beq_iff_eq] at h6;rw [if_pos h6];refine b1.mono ?_;rintro _ rfl;refine ⟨_, rfl, ?_⟩;by_cases h : aK rows a = 6 <;> simp [h]
 ·simp only [beq_iff_eq] at h6 h0;rw [if_neg h6, if_pos h0];refine b1.mono ?_;rintro _ rfl;refine ⟨_, rfl, ?_⟩
  have tail : PCall qa 144 [.ptr [tc, tg, tj, tf, tp, .mp (dH made), .mp (fA sec)], .int .i32 b] fun (v3 : PV) => ∃ (n2 : Int), v3 = .int .i64 n2 /\ if (n2 == 2) = true then PCall qa 144 [.ptr [tc, tg, tj, tf, tp, .mp (dH made), .mp (fA sec)], .int .i32 a] fun (v4 : PV) => ∃ (n3 : Int), v4 = .int .i64 n3 /\ if (n3 != 0) = true then PCall qa 144 [.ptr [tc, tg, tj, tf, tp, .mp (dH made), .mp (fA sec)], .int .i32 a] fun (v5 : PV) => ∃ (n4 : Int), v5 = .int .i64 n4 /\ PV.bool (n4 != 2) = .bool (decide (bE rows b = 2) && (!decide (bE rows a = 0) && !decide (bE rows a = 2))) else PV.bool false = .bool (decide (bE rows b = 2) && (!decide (bE rows a = 0) && !decide (bE rows a = 2))) else PV.bool false = .bool (decide (bE rows b = 2) && (!decide (bE rows a = 0) && !decide (bE rows a = 2))) := by
   refine c2.mono ?_;rintro _ rfl;refine ⟨_, rfl, aC (fun h2 => ?_) (fun h2 => ?_)⟩
   ·simp only [beq_iff_eq] at h2;refine c1.mono ?_;rintro _ rfl;refine ⟨_, rfl, aC (fun h3 => ?_) (fun h3 => ?_)⟩
    ·simp only [bne_iff_ne, ne_eq] at h3;refine c1.mono ?_;rintro _ rfl;refine ⟨_, rfl, ?_⟩;by_cases h4 : bE rows a = 2 <;> simp [h2, h3, h4]
    ·simp only [bne_iff_ne, ne_eq, ql] at h3;simp [h3]
   ·simp only [beq_iff_eq] at h2;simp [h2]
  refine aC (fun h5 => ?_) (fun h5 => ?_)
  ·simp only [beq_iff_eq] at h5;refine p2.mono ?_;rintro _ rfl;refine ⟨_, rfl, aC (fun hp => ?_) (fun hp => ?_)⟩
   ·rw [decide_eq_true h5, hp]; rfl
   ·rw [Bool.eq_false_iff.2 hp, qai, qae];exact tail
  ·simp only [beq_iff_eq] at h5;rw [decide_eq_false h5, qah, qae];exact tail
 ·simp only [beq_iff_eq] at h6 h0;rw [if_neg h6, if_neg h0]
theorem zzh (hts : d8 rows) (htw : kK rows) (hv : cO rows v) (n f : Bool) (L : List Int) (hr : R32 L) (hL : L.length < 100000000) (k : Int) (k0 : 0 <= k) (k1 : k < L.length) :
 PCall qa 172 [v, .sl n f (aA L), .int .i64 k] fun x => ∃ m : Nat, x = .int .i64 m /\ (m : Int) <= k /\ c6 rows L m = true := by
 have st := fun s {r : Int} hr => zmm hv s (r := r) hr;have hg := fun {a b : Int} ha hb => zzg hv (a := a) (b := b) ha hb;obtain ⟨tc, tg, tj, tf, tp, made, sec, rfl, ht', hm⟩ := hv;refine zy9 _ _ _ _ _ _ _ _ _ _ _ (fun i => 0 <= i /\ i <= k) (fun i => i.toNat) ?_;unfold zm1;refine ⟨⟨rfl, k0, qm _⟩, ?_⟩;rintro i ⟨i0, i1⟩;refine aC (fun hc => ?_) (fun hc => ?_)
 ·simp only [aB, gt_iff_lt] at hc;obtain ⟨j, rfl⟩ : ∃ j : Nat, i = ((j + 1 : Nat) : Int) := ⟨i.toNat - 1, by omega⟩;have hw : i64.wrap (((j + 1 : Nat) : Int) - 1) = (j : Int) := by rw [aG (by omega) (by omega)]; omega
  rw [hw];obtain ⟨g1, g2⟩ := gU (l := L) (i := (j : Int)) (by omega) (by omega);obtain ⟨k1, k2⟩ := gU (l := L) (i := ((j + 1 : Nat) : Int)) (by omega) (by omega);rw [show (((j + 1 : Nat) : Int)).toNat = j + 1 by omega] at k2 ⊢;rw [show ((j : Int)).toNat = j by omega] at g2 ⊢;refine ⟨g1, _, by rw [g2]; rfl, ?_⟩;refine (st jJ (fD hr j)).mono ?_;rintro _ rfl
  have last : kG rows (dB rows jJ (L.getD j 0)) (L.getD (j + 1) 0) = true -> ∀ K : Prop, K -> (aI (aA L) (j : Int) 1 /\ ∃ (n9 : Int), ((aA L).getD j []).head? = some (.int .i32 n9) /\ aI (aA L) ((j + 1 : Nat) : Int) 1 /\ ∃ (n10 : Int), ((aA L).getD (j + 1) []).head? = some (.int .i32 n10) /\ PCall qa 176 [.ptr [tc, tg, tj, tf, tp, .mp (dH made), .mp (fA sec)], .int .i32 n9, .int .i32 n10] fun (v2 : PV) => ∃ (b6 : Bool), v2 = .bool b6 /\ if (!b6) = true then (∃ m : Nat, PV.int .i64 ((j + 1 : Nat) : Int) = .int .i64 m /\ (m : Int) <= k /\ c6 rows L m = true) else K) := fun hcut K hK => by
   refine ⟨g1, _, by rw [g2]; rfl, k1, _, by rw [k2]; rfl, ?_⟩;refine (hg (fD hr _) (fD hr _)).mono ?_;rintro _ rfl;refine ⟨_, rfl, aC (fun h => ?_) (fun h => hK)⟩;simp only [qh] at h;exact ⟨j + 1, rfl, i1, Rows.sure_ok hts htw hcut h⟩
  have again : ∀ {A : Prop}, A -> A /\ (0 <= (j : Int) /\ (j : Int) <= k) /\ ((j : Int)).toNat < (((j + 1 : Nat) : Int)).toNat := fun h => ⟨h, ⟨by omega, by omega⟩, by omega⟩;have call := st (dB rows jJ (L.getD j 0)) (fD hr (j + 1));refine ⟨_, rfl, rfl, _, rfl, _, rfl, rfl, _, rfl, _, rfl, _, rfl, _, rfl, _, rfl, _, rfl, _, rfl, ?_⟩;have dup : ∀ {P : Prop}, P -> P /\ P := fun h => ⟨h, h⟩;refine dup ?_;refine ⟨k1, _, by rw [k2]; rfl, call.mono ?_, call.mono ?_⟩
  ·rintro _ rfl
   have fin : ∀ A : Prop, A -> (if kG rows (dB rows jJ (L.getD j 0)) (L.getD (j + 1) 0) = true then (aI (aA L) (j : Int) 1 /\ ∃ (n9 : Int), ((aA L).getD j []).head? = some (.int .i32 n9) /\ aI (aA L) ((j + 1 : Nat) : Int) 1 /\ ∃ (n10 : Int), ((aA L).getD (j + 1) []).head? = some (.int .i32 n10) /\ PCall qa 176 [.ptr [tc, tg, tj, tf, tp, .mp (dH made), .mp (fA sec)], .int .i32 n9, .int .i32 n10] fun (v2 : PV) => ∃ (b6 : Bool), v2 = .bool b6 /\ if (!b6) = true then (∃ m : Nat, PV.int .i64 ((j + 1 : Nat) : Int) = .int .i64 m /\ (m : Int) <= k /\ c6 rows L m = true) else A /\ (0 <= (j : Int) /\ (j : Int) <= k) /\ ((j : Int)).toNat < (((j + 1 : Nat) : Int)).toNat) else A /\ (0 <= (j : Int) /\ (j : Int) <= k) /\ ((j : Int)).toNat < (((j + 1 : Nat) : Int)).toNat) := fun A hA => by
    split
    ·rename_i hcut; exact last hcut _ (again hA)
    ·exact again hA
   exact ⟨_, rfl, rfl, _, rfl, _, rfl, rfl, _, rfl, _, rfl, _, rfl, _, rfl, _, rfl, _, rfl, _, rfl, fin _ rfl, fin _ rfl, fin _ rfl⟩
  ·rintro _ rfl
   have fin : ∀ A : Prop, A -> (if kG rows (dB rows jJ (L.getD j 0)) (L.getD (j + 1) 0) = true then (aI (aA L) (j : Int) 1 /\ ∃ (n9 : Int), ((aA L).getD j []).head? = some (.int .i32 n9) /\ aI (aA L) ((j + 1 : Nat) : Int) 1 /\ ∃ (n10 : Int), ((aA L).getD (j + 1) []).head? = some (.int .i32 n10) /\ PCall qa 176 [.ptr [tc, tg, tj, tf, tp, .mp (dH made), .mp (fA sec)], .int .i32 n9, .int .i32 n10] fun (v2 : PV) => ∃ (b6 : Bool), v2 = .bool b6 /\ if (!b6) = true then (∃ m : Nat, PV.int .i64 ((j + 1 : Nat) : Int) = .int .i64 m /\ (m : Int) <= k /\ c6 rows L m = true) else A /\ (0 <= (j : Int) /\ (j : Int) <= k) /\ ((j : Int)).toNat < (((j + 1 : Nat) : Int)).toNat) else A /\ (0 <= (j : Int) /\ (j : Int) <= k) /\ ((j : Int)).toNat < (((j + 1 : Nat) : Int)).toNat) := fun A hA => by
    split
    ·rename_i hcut; exact last hcut _ (again hA)
    ·exact again hA
   exact ⟨_, rfl, rfl, _, rfl, _, rfl, rfl, _, rfl, _, rfl, _, rfl, _, rfl, _, rfl, _, rfl, _, rfl, fin _ rfl, fin _ rfl⟩
 ·simp only [aB, gt_iff_lt] at hc;have h0 : i = 0 := by omega
  subst h0;exact ⟨0, rfl, by omega, rfl⟩
end
section
variable {rows : List Row} {v : PV}
def atB (rows : List Row) (L : List Int) (i : Nat) : Prop := i = L.length ∨ c6 rows L i = true
def mQ (q : Nat × Nat) : List PV := [.int .i64 (q.1 : Nat), .int .i64 (q.2 : Nat)]
theorem zm7 (q : Nat × Nat) : (mQ q).length = 2 := rfl
theorem zzi (hts : d8 rows) (htw : kK rows) (hv : cO rows v) (n f : Bool) (L : List Int) (hr : R32 L) (hL : L.length < 100000000) (k : Int) :
 PCall qa 161 [v, .sl n f (aA L), .int .i64 k] fun x => ∃ p : Nat, x = .int .i64 p /\ p <= L.length /\ atB rows L p /\ (∀ j : Nat, atB rows L j -> j <= L.length -> (j : Int) <= k -> j <= p) /\ ((p : Int) <= k ∨ (k < 0 /\ p = 0)) := by
 have hs := fun k0 k1 => zzh hts htw hv n f L hr hL k k0 k1;have hn := fun j j0 j1 hb => vO hts hv n f L hr (by omega) j j0 j1 hb;obtain ⟨tc, tg, tj, tf, tp, made, sec, rfl, ht', hm⟩ := hv;refine zza _ _ _ _ _ _ _ _ _ _ _ (fun x => ∃ p : Nat, x = p /\ (p : Int) <= k /\ c6 rows L p = true) (fun x => (k - x).toNat) ?_;unfold zm2;rw [a8];refine aC (fun h0 => ?_) (fun h0 => aC (fun h1 => ?_) (fun h1 => ?_))
 ·simp only [aB] at h0;exact ⟨0, rfl, by omega, .inr (zl1 rows L), fun j _ _ hj => by omega, by omega⟩
 ·simp only [aB, ge_iff_le] at h1;exact ⟨L.length, rfl, qj _, .inl rfl, fun j _ hj _ => hj, .inl h1⟩
 ·simp only [aB, ge_iff_le] at h0 h1;refine (hs (by omega) (by omega)).mono ?_;rintro _ ⟨m, rfl, hm1, hm2⟩;refine ⟨_, rfl, ⟨rfl, m, rfl, hm1, hm2⟩, ?_⟩;rintro _ ⟨p, rfl, hp, hb⟩;refine aC (fun h2 => ?_) (fun h2 => ?_)
  ·simp only [aB] at h2;refine (hn (p : Int) (by omega) (by omega) (by rw [qk]; exact hb)).mono ?_;rintro _ rfl;rw [qk];obtain ⟨g1, g2, g3⟩ := eH (rows := rows) (L := L) (i := p) (by omega);refine ⟨_, rfl, aC (fun h3 => ?_) (fun h3 => ?_)⟩
   ·simp only [aB] at h3;refine ⟨p, rfl, by omega, .inr hb, fun j hj hl hk => ?_, .inl hp⟩;refine Nat.le_of_not_lt fun hlt => ?_;have := zy3 (rows := rows) hlt hl hj;omega
   ·simp only [aB] at h3;refine ⟨rfl, ⟨_, rfl, by omega, ?_⟩, (by first | omega | (dsimp only; omega))⟩
    rcases g3 with g3 | g3
    ·omega
    ·exact g3
  ·simp only [aB] at h2;exact ⟨p, rfl, by omega, .inr hb, fun j _ _ hj => by omega, .inl hp⟩
theorem zzj (hts : d8 rows) (htw : kK rows) (hv : cO rows v) (n f : Bool) (L : List Int) (hr : R32 L) (hL : L.length < 100000000) (m : Nat) (hm : m <= L.length) (ha : atB rows L m) :
 PCall qa 161 [v, .sl n f (aA L), .int .i64 m] fun x => x = .int .i64 m := by
 refine (zzi hts htw hv n f L hr hL m).mono ?_;rintro _ ⟨p, rfl, h1, h2, h3, h4⟩;have := h3 m ha hm (qm _);have : p = m := by omega
 rw [this]
theorem zzk (hts : d8 rows) (htw : kK rows) (hv : cO rows v) (n f : Bool) (L : List Int) (hr : R32 L) (hL : L.length < 100000000) (m : Nat) (hm : m <= L.length) (ha : atB rows L m) :
 PCall qa 131 [v, .sl n f (aA L), .int .i64 m] fun x => x = .int .i64 m := by
 have hf := zzj hts htw hv n f L hr hL m hm ha;obtain ⟨tc, tg, tj, tf, tp, made, sec, rfl, ht', _⟩ := hv;refine zzb _ _ _ _ _ _ _ _ _ _ _ ?_;unfold zm3;refine hf.mono ?_;rintro _ rfl;exact ⟨_, rfl, aC (fun _ => rfl) (fun h => absurd (decide_eq_true (qm _)) h)⟩
theorem zm8 (hv : cO rows v) (n f : Bool) (L : List Int) (hr : R32 L) (i : Nat) :
 PCall qa 104 [v, .sl n f (aA L), .int .i64 i] fun x => x = .bool (eD rows L i) := by
 have hl := fun {r : Int} hr => zzf hv (r := r) hr;obtain ⟨tc, tg, tj, tf, tp, made, sec, rfl, ht', _⟩ := hv;refine zzc _ _ _ _ _ _ _ _ _ _ _ ?_;unfold zm4 eD;rw [a8];refine aC (fun h => ?_) (fun h => ?_)
 ·simp only [aB] at h;obtain ⟨g1, g2⟩ := gU (l := L) (i := (i : Int)) (by omega) (by omega);rw [qk] at g2 ⊢;refine ⟨g1, _, by rw [g2]; rfl, (hl (fD hr i)).mono ?_⟩;rintro _ rfl;refine ⟨_, rfl, ?_⟩;rw [decide_eq_true (by omega : i < L.length), qaa]
 ·simp only [aB] at h;rw [decide_eq_false (by omega : ¬i < L.length), qah]
theorem zzl (hts : d8 rows) (htw : kK rows) (hv : cO rows v) (n f : Bool) (L : List Int) (hr : R32 L) (hL : L.length < 100000000) (m : Nat) (hl : eD rows L m = true) (ha : atB rows L m) :
 PCall qa 105 [v, .sl n f (aA L), .int .i64 m] fun x => x = .int .i64 (dO rows L m : Nat) := by
 have hm := kJ hl;have hc := zzk hts htw hv n f L hr hL m (by omega) ha;have hi := fun i => zm8 hv n f L hr i;have hn := fun j j0 j1 hb => vO hts hv n f L hr (by omega) j j0 j1 hb;obtain ⟨tc, tg, tj, tf, tp, made, sec, rfl, ht', _⟩ := hv;refine zzd _ _ _ _ _ _ _ _ _ _ _ (fun x => ∃ i : Nat, x = i /\ i <= L.length /\ atB rows L i /\ dO rows L i = dO rows L m) (fun x => L.length - x.toNat) ?_;unfold zm5;refine hc.mono ?_;rintro _ rfl;refine ⟨_, rfl, ?_⟩;rw [a8];refine bJ (decide_eq_true (by omega)) ?_;refine (hi m).mono ?_;rintro _ rfl;refine ⟨_, rfl, ?_⟩;rw [hl];refine bF (by decide) ⟨⟨rfl, m, rfl, by omega, ha, rfl⟩, ?_⟩;rintro _ ⟨i, rfl, i1, i2, i3⟩;refine (hi i).mono ?_;rintro _ rfl;refine ⟨_, rfl, aC (fun h => ?_) (fun h => ?_)⟩
 ·have hlt := kJ h
  have hb : c6 rows L i = true := by
   rcases i2 with i2 | i2
   ·omega
   ·exact i2
  refine (hn (i : Int) (by omega) (by omega) (by rw [qk]; exact hb)).mono ?_;rintro _ rfl;rw [qk];obtain ⟨g1, g2, g3⟩ := eH (rows := rows) (L := L) (i := i) hlt;exact ⟨_, rfl, rfl, ⟨_, rfl, g2, g3, by rw [<- vQ h]; exact i3⟩, (by first | omega | (dsimp only; omega))⟩
 ·rw [<- i3, zc5 h]
theorem zzm (hts : d8 rows) (htw : kK rows) (hv : cO rows v) (n f : Bool) (L : List Int) (hr : R32 L) (hL : L.length < 100000000) :
 PCall qa 73 [v, .sl n f (aA L)] fun x => ∃ n', x = .sl n' false ((fF rows L 0).map mQ) /\ (n' = true -> fF rows L 0 = []) := by
 have hi := fun i => zm8 hv n f L hr i;have hf := fun i hl ha => zzl hts htw hv n f L hr hL i hl ha;have hn := fun j j0 j1 hb => vO hts hv n f L hr (by omega) j j0 j1 hb;obtain ⟨tc, tg, tj, tf, tp, made, sec, rfl, ht', _⟩ := hv;refine zze _ _ _ _ _ _ _ _ _ _ (fun x n0 s0 => ∃ (i : Nat) (out : List (Nat × Nat)), x = i /\ i <= L.length /\ atB rows L i /\ s0 = out.map mQ /\ (n0 = true -> out = []) /\ out ++ fF rows L i = fF rows L 0 /\ out.length <= i) (fun x _ _ => L.length - x.toNat) ?_;unfold zm6;refine ⟨⟨rfl, 0, [], rfl, by omega, .inr (zl1 rows L), rfl, fun _ => rfl, rfl, qj _⟩, ?_⟩;rintro _ n0 _ ⟨i, out, rfl, i1, i2, rfl, i3, i4, i5⟩;rw [a8];refine aC (fun h => ?_) (fun h => ?_)
 ·simp only [aB] at h
  have hb : c6 rows L i = true := by
   rcases i2 with i2 | i2
   ·omega
   ·exact i2
  refine (hi i).mono ?_;rintro _ rfl;refine ⟨_, rfl, aC (fun hl => ?_) (fun hl => ?_)⟩
  ·simp only [qh] at hl;refine (hn (i : Int) (by omega) (by omega) (by rw [qk]; exact hb)).mono ?_;rintro _ rfl;rw [qk];obtain ⟨g1, g2, g3⟩ := eH (rows := rows) (L := L) (i := i) (by omega);exact ⟨_, rfl, rfl, ⟨_, out, rfl, g2, g3, rfl, i3, by rw [<- zc9 (by omega) (by rw [hl]; decide)]; exact i4, by omega⟩, (by first | omega | (dsimp only; omega))⟩
  ·simp only [qh, Bool.not_eq_false] at hl;refine (hf i hl i2).mono ?_;rintro _ rfl;have hgt := sA hl;have hlen := zc6 hl;have hat := (vR (rows := rows) (L := L) L.length i (by omega) i1 i2).2.2.1;refine ⟨_, rfl, ⟨g9 (enc := mQ) zm7 [(i, dO rows L i)], by rw [qd]; omega⟩, rfl, ⟨dO rows L i, out ++ [(i, dO rows L i)], rfl, hlen, hat, by rw [qq]; rfl, fun h => by simp at h, ?_, by rw [qn, qt]; omega⟩, (by first | omega | (dsimp only; omega))⟩
   rw [qaj, List.singleton_append, <- zc8 hl]; exact i4
 ·simp only [aB] at h;rw [zc7 (by omega), qbb] at i4;exact ⟨n0, by rw [i4], fun hn => by rw [<- i4]; exact i3 hn⟩
end
section
variable {rows : List Row}
end
end Go.Eng
namespace Go.Eng
open Go Go.Proofs
section
variable (n f : Bool) (es : LL) (r : Int)
def zm9 (R : PV -> Prop) : Prop :=
 PCall qa 101 [PV.sl n f es, Z3 r] fun v => ∃ vs, v = PV.tup vs /\ vs.length = 3 /\ ∃ x, vs.head? = some x /\ ∃ n1, x = Z3 n1 /\ ∃ x1, vs.tail.head? = some x1 /\ ∃ n2, x1 = Z3 n2 /\ ∃ x2, vs.tail.tail.head? = some x2 /\ ∃ b, x2 = Zb b /\ if (!b) = true then R (Zb false) else if (n2 == 0) = true then R (Zb true) else PCall qa 129 [PV.sl n f es, Z6 3, Z3 r] fun v1 => ∃ n3, v1 = Z6 n3 /\ if (n3 == 1) = true then R (Zb true) else PCall qa 129 [PV.sl n f es, Z6 1, Z3 r] fun v2 => ∃ n4, v2 = Z6 n4 /\ if (n4 != 0) = true then R (Zb true) else PCall qa 129 [PV.sl n f es, Z6 1, Z3 n1] fun v3 => ∃ n5, v3 = Z6 n5 /\ R (Zb (n5 != 0))
theorem zzn {R : PV -> Prop} (h : zm9 n f es r R) : PCall qa 171 [.sl n f es, .int .i32 r] R :=
 PCall.wz Tryz.func171 aM [0, 1, 4, 5, 6, 7, 16] aT h
end
end Go.Eng
namespace Go.Eng
open Go Go.Proofs
open Go Go.Proofs Go.Eng.Rows Go.Eng.Trie
end Go.Eng
namespace Go.Eng
open Go Go.Proofs Go.Eng.Rows Go.Eng.Trie
section
variable {rows : List Row}
theorem zna (i : Int) : bN rows 3 i = decide (aH rows 3 i = 1) := by
 unfold bN aH;cases bR rows 3 i with
 | none => rfl
 | some p => rfl
theorem zzo (hp : dE rows) (n f : Bool) (r : Int) (hl : rows.length < 1000000) (hr : -2147483648 <= r /\ r <= 2147483647) : PCall qa 171 [.sl n f (bB rows), .int .i32 r] fun v => v = .bool (d0 rows r) := by
 refine zzn _ _ _ _ ?_; unfold zm9;refine (u4 hp n f r hl hr).mono ?_;rintro _ rfl;have hrng := pH hp r;refine ⟨_, rfl, rfl, _, rfl, _, rfl, _, rfl, _, rfl, _, rfl, _, rfl, ?_⟩;refine aC (fun h1 => ?_) (fun h1 => aC (fun h2 => ?_) (fun h2 => ?_))
 ·simp only [qbi, aB] at h1;unfold d0; simp [h1]
 ·simp only [qbi, aB] at h1;simp only [beq_iff_eq] at h2;unfold d0; simp [h1, h2]
 ·simp only [qbi, aB] at h1;simp only [beq_iff_eq] at h2;refine (mJ n f 3 r hl hr).mono ?_;rintro _ rfl;refine ⟨_, rfl, ?_⟩;refine aC (fun h4 => ?_) (fun h4 => ?_)
  ·simp only [beq_iff_eq] at h4;unfold d0; rw [zna]; simp [h1, h2, h4]
  ·simp only [beq_iff_eq] at h4;refine (mJ n f 1 r hl hr).mono ?_;rintro _ rfl;refine ⟨_, rfl, ?_⟩;refine aC (fun h5 => ?_) (fun h5 => ?_)
   ·simp only [bne_iff_ne, ne_eq] at h5;unfold d0; simp [h1, h2, h5]
   ·simp only [bne_iff_ne, ne_eq, ql] at h5;refine (mJ n f 1 _ hl (by omega)).mono ?_;rintro _ rfl;refine ⟨_, rfl, ?_⟩;unfold d0; rw [zna];simp only [h1, h2, h4, h5, decide_false, qbq, qaa, qae, decide_true, qal];rfl
end
section
variable {rows : List Row} {v : PV}
end
section
variable {rows : List Row} {v : PV}
end
end Go.Eng
namespace Go.Eng
open Go Go.Proofs Go.Shelf
theorem zzp (z : Array Value) (n : Nat) : (Builtin.zeroCells z n).size = n * z.size := by simp [Builtin.zeroCells]
theorem zzq {P : Program} {ρ : Go.Shelf.Ren} (L : Lays8.n4 P ρ) (hcal : oI P (ρ.f 4)) (el : TypeId) (hel : ρ.t 25 = el) (i0 : TypeInfo) (z : Value) (hi0 : P.info? el = some i0) (hz0 : i0.zero = some z) (hs0 : 0 < i0.size) (hzs : z.cells.size = i0.size)
 (n : Nat) (hbig : n * i0.bytes <= 140737488355328) (h63 : n <= 4611686018427387904) :
 ACall P (ρ.f 4) [.pv (.sl true true []), .pv (.int .i64 n)] [] fun r h' => ∃ nl, r = .own 0 /\ h' = [.sl (el, i0.size) false nl []] := by
 subst hel;refine ⟨hcal, fun w I G cargs hh hsz hrel => ?_⟩;simp only [qc, qba] at hsz;have h0 := hrel 0 _ rfl;have h1 := hrel 1 _ rfl
 obtain ⟨v0, v1, rfl⟩ : ∃ v0 v1, cargs = #[v0, v1] := by
  obtain ⟨c⟩ := cargs
  match c, hsz with
  | [a, b], _ => exact ⟨a, b, rfl⟩
 have e0 : (#[v0, v1] : Array Value).getD 0 undef = v0 := rfl;have e1 : (#[v0, v1] : Array Value).getD 1 undef = v1 := rfl;rw [e0] at h0;rw [e1] at h1
 have hv0 : v0 = .slice none 0 0 := by
  cases h0 with
  | pv _ _ h => cases h; rfl
 have hv1 : v1 = .int .i64 n := by
  cases h1 with
  | pv _ _ h => cases h; rfl
 subst hv0 hv1;by_cases hn : n = 0
 ·subst hn;refine (Any8.slices_Grow_room L none 0 0 0 w (qj _) (by omega) (by omega) (qj _)).mono fun e w' ⟨he, hw⟩ => ?_;subst hw;have hna : ¬ (Ob.sl (ρ.t 25, i0.size) false true []).alive ⟨0, 0, 0, 0⟩ := fun h => by cases h.1
  exact ⟨_, .own 0, _, I, _, he, ⟨true, rfl, rfl⟩, hh.add _ ⟨0, 0, 0, 0⟩ hna rfl, .ownNil 0 _ _ _ rfl, TrH.add _ _ hna⟩
 ·refine (Any8.slices_Grow_grow L i0 z hi0 hz0 hs0 none 0 0 n [] w (qj _) (by omega) (by rw [qx]; exact hbig) (by omega) (by simp) (fun _ => rfl) (fun a ha => by cases ha)).mono fun e w' ⟨he, hw⟩ => ?_;subst hw;rw [qx] at he ⊢;have hG := grownCap_ge w n 0 (ρ.t 25);have hG2 := grownCap_le_maxLen w n 0 (ρ.t 25) (by unfold maxLen; omega);generalize grownCap w n 0 (ρ.t 25) = c at *
  have hp := hh.drew.push (.cells ((([] : List Value).toArray ++ Builtin.zeroCells z.cells (n - 0)) ++ Builtin.zeroCells z.cells (c - n)) (ρ.t 25)) (.sl (ρ.t 25, i0.size) false false []) ⟨w.drew.heap.size, 0, c, i0.size⟩ rfl
   ⟨Nat.zero_le _, hG2, fun _ => rfl, rfl, fun i e he => by simp at he, fun _ => ⟨_, mV _ _, by
    simp only [Array.size_append, zzp, List.size_toArray, qba, hzs, qx]
    rw [<- Nat.add_mul]; congr 1; omega, fun i e he => by simp at he⟩⟩
  refine ⟨_, .own 0, _, I, _, he, ⟨false, rfl, rfl⟩, hp, ?_, TrH.trans TrH.drew (TrH.push _ _ _ rfl)⟩;have := LRel.own (w := w.drew.alloc (.cells ((([] : List Value).toArray ++ Builtin.zeroCells z.cells (n - 0)) ++ Builtin.zeroCells z.cells (c - n)) (ρ.t 25))) (I := I) (G := aY G ([] : Hp).length ⟨w.drew.heap.size, 0, c, i0.size⟩) (h := ([] : Hp) ++ [.sl (ρ.t 25, i0.size) false false []]) 0 (ρ.t 25, i0.size) false [] ⟨w.heap.size, 0, none⟩ (fun _ => by simp [aY]) (by simp);simpa [aY] using this
end Go.Eng
namespace Go.Proofs
open Go.Shelf
def Tryz.growRune_ren : Go.Shelf.Ren := ⟨fun | 4 => 103 | n => n, fun | 22 => 22 | 25 => 21 | 3 => 3 | 4 => 4 | 9 => 9 | 20 => 20 | 0 => 0 | n => n, fun | n => n⟩
theorem Tryz.growRune : Go.Proofs.Lays8.n4 qa Tryz.growRune_ren := {
 mixed := by kernel_rfl
 f4 := ⟨Tryz.f103.name, by decide, Tryz.func103.trans (congrArg some (by kernel_rfl))⟩
 t0 := Tryz.underlying0
 a0 := Tryz.isAgg0
 z0 := Tryz.sizeOf0
 v0 := Tryz.zeroValue0
 t3 := Tryz.underlying3
 a3 := Tryz.isAgg3
 z3 := Tryz.sizeOf3
 v3 := Tryz.zeroValue3
 t4 := Tryz.underlying4
 a4 := Tryz.isAgg4
 z4 := Tryz.sizeOf4
 v4 := Tryz.zeroValue4
 t9 := Tryz.underlying9
 a9 := Tryz.isAgg9
 z9 := Tryz.sizeOf9
 v9 := Tryz.zeroValue9
 t20 := Tryz.underlying20
 a20 := Tryz.isAgg20
 z20 := Tryz.sizeOf20
 v20 := Tryz.zeroValue20
 t22 := Tryz.underlying22
 a22 := Tryz.isAgg22
 z22 := Tryz.sizeOf22
 v22 := Tryz.zeroValue22 }
end Go.Proofs
namespace Go.Eng
open Go Go.Proofs
def zde (n f : Bool) (es : LL) (x3 x11 : Int) : Env × Hp := ([(0, LV.pv (PV.sl n f es)), (3, Y6 x3), (9, LV.pv (PV.sl n f es)), (10, Y6 ↑es.length), (11, Y6 x11)], [])
def zdg (n f : Bool) (es : LL) (x27 : Int) (n_0 : Bool) (s_0 : LL) : Env × Hp := ([(6, LV.own 0), (25, LV.pv (PV.sl n f es)), (26, Y6 ↑es.length), (27, Y6 x27)], [.sl (21, 1) true n_0 s_0])
section
variable (n f : Bool) (es : LL) (J : Int -> Int -> Prop) (μ : Int -> Int -> Nat) (J2 : Int -> Bool -> LL -> Prop) (μ2 : Int -> Bool -> LL -> Nat)
def znb (R : PV -> Prop) : Prop :=
 (aF (zde n f es (0 : Int) (0 : Int)) /\ J (0 : Int) (0 : Int)) /\ ∀ (x3 x11 : Int), J x3 x11 -> if decide (x11 < (↑es.length : Int)) = true then aI es x11 1 /\ ∃ n1 f1 es1, (es.getD x11.toNat []).head? = some (PV.sl n1 f1 es1) /\ if decide (i64.wrap (x3 + (↑es1.length : Int)) < 0) = true then aJ 815 else aF (zde n f es (i64.wrap (x3 + (↑es1.length : Int))) (i64.wrap (x11 + 1))) /\ J (i64.wrap (x3 + (↑es1.length : Int))) (i64.wrap (x11 + 1)) /\ μ (i64.wrap (x3 + (↑es1.length : Int))) (i64.wrap (x11 + 1)) < μ x3 x11 else ACall qa 103 [LV.pv (PV.sl true true []), Y6 x3] [] fun (r : LV) (h' : Hp) => ∃ (t : Bool), (r = LV.own 0 /\ h' = [Ob.sl (21, 1) false t []]) /\ True /\ (aF (zdg n f es (0 : Int) t []) /\ J2 (0 : Int) t []) /\ ∀ (x27 : Int) (n_0 : Bool) (s_0 : LL), J2 x27 n_0 s_0 -> if decide (x27 < (↑es.length : Int)) = true then aI es x27 1 /\ ∃ n1 f1 es1, (es.getD x27.toNat []).head? = some (PV.sl n1 f1 es1) /\ (aR es1 1 /\ (s_0.length + es1.length) * 4 <= 140737488355328) /\ aF (zdg n f es (i64.wrap (x27 + 1)) (n_0 && es1.isEmpty) (s_0 ++ es1)) /\ J2 (i64.wrap (x27 + 1)) (n_0 && es1.isEmpty) (s_0 ++ es1) /\ μ2 (i64.wrap (x27 + 1)) (n_0 && es1.isEmpty) (s_0 ++ es1) < μ2 x27 n_0 s_0 else R (PV.sl n_0 false s_0)
theorem zzr {R : PV -> Prop} (h : znb n f es J μ J2 μ2 R) : PCall qa 70 [.sl n f es] R :=
 PCall.wz Tryz.func70 (fun zz_ => match zz_ with | 103 => some ⟨Bool, fun _ hs t => (.own hs.length, hs ++ [.sl (21, 1) false t []]), none⟩ | _ => none) [0, 2, 3, 5, 6, 8, 9, 10, 11, 12, 20, 25, 26, 27, 28] (fJ [(3, (aX fM (zde n f es) J μ (fun e h => (gI e 3, gI e 11)) [] [0, 3, 9, 10, 11] [])), (11, (aX dM (zdg n f es) J2 μ2 (fun e h => (gI e 27, oN h 0, oS h 0)) [] [6, 25, 26, 27] []))]) h
end
section
variable (n f : Bool) (es : LL) (n2 f2 : Bool) (ss : LL) (n3 f3 : Bool) (s3 : LL)
def znc (R : PV -> Prop) : Prop :=
 jS true [] es 1 4 /\ (aR ss 1 /\ (([] ++ es).length + ss.length) * 4 <= 140737488355328) /\ (aR s3 1 /\ (([] ++ es ++ ss).length + s3.length) * 4 <= 140737488355328) /\ R (PV.sl (es.isEmpty && ss.isEmpty && s3.isEmpty) false ([] ++ es ++ ss ++ s3))
theorem zzs {R : PV -> Prop} (h : znc es ss s3 R) : PCall qa 34 [.sl n f es, .sl n2 f2 ss, .sl n3 f3 s3] R :=
 PCall.wz Tryz.func34 aM [0, 1, 2, 6, 7] aT h
end
end Go.Eng
namespace Go.Eng
open Go Go.Proofs Go.Eng.Rows Go.Eng.Trie Go.Eng.Srt
theorem zzt {n : Int} (h0 : 0 <= n) (h1 : n <= 1000000000000) : ACall qa 103 [.pv (.sl true true []), .pv (.int .i64 n)] [] fun r h' => ∃ nl, r = .own 0 /\ h' = [.sl (21, 1) false nl []] := by
 have hc : (match Tryz.prog.info? 21 with | some ti => (match ti.zero with | some z => (Nat.beq ti.size 1 && (Nat.beq ti.bytes 4 && Nat.beq z.cells.size 1)) | none => false) | none => false) = true := by kernel_rfl
 have hz : ∃ ti z, Tryz.prog.info? 21 = some ti /\ ti.zero = some z /\ ti.size = 1 /\ ti.bytes = 4 /\ z.cells.size = 1 := by
  split at hc
  ·rename_i ti hti;split at hc
   ·rename_i z hz;simp only [qb] at hc;exact ⟨ti, z, hti, hz, qan hc.1, qan hc.2.1, qan hc.2.2⟩
   ·cases hc
  ·cases hc
 obtain ⟨ti, z, k1, k2, k3, k4, k5⟩ := hz;have := zzq Tryz.growRune ⟨_, Tryz.func103, by kernel_rfl, by kernel_rfl⟩ 21 (by kernel_rfl) ti z k1 k2 (by omega) (by omega) n.toNat (by rw [k4]; omega) (by omega);rw [k3, show ((n.toNat : Nat) : Int) = n by omega] at this;exact this
def slE (p : Bool × Bool × List Int) : List PV := [.sl p.1 p.2.1 (aA p.2.2)]
def eR (ls : List (Bool × Bool × List Int)) : Nat := (ls.map fun p => p.2.2.length).sum
theorem znd {ls : List (Bool × Bool × List Int)} {i : Nat} (h : i < ls.length) : eR (ls.take (i + 1)) = eR (ls.take i) + ls[i].2.2.length := by
 unfold eR; rw [cJ h, qq, qbp]; simp only [qbr, List.map_nil, List.sum_cons, List.sum_nil, Nat.add_zero]
theorem zdh {ls : List (Bool × Bool × List Int)} (i : Nat) : eR (ls.take i) <= eR ls := by
 have h : eR ls = eR (ls.take i) + eR (ls.drop i) := by
  unfold eR; rw [<- qbp, <- qq, qam]
 omega
theorem zzu (ls : List (Bool × Bool × List Int)) : (ls.flatMap fun p => p.2.2).length = eR ls := by
 unfold eR; rw [List.length_flatMap]
theorem zdi (n f : Bool) (ls : List (Bool × Bool × List Int)) (hn : ls.length < 1000000000) (hs : eR ls <= 1000000000) : PCall qa 70 [.sl n f (ls.map slE)] fun x => ∃ n f, x = .sl n f (aA (ls.flatMap fun p => p.2.2)) := by
 refine zzr _ _ _ (fun s i => (0 <= i /\ i <= ls.length) /\ s = (eR (ls.take i.toNat) : Nat)) (fun _ i => ls.length - i.toNat) (fun i _ s => (0 <= i /\ i <= ls.length) /\ s = aA ((ls.take i.toNat).flatMap fun p => p.2.2)) (fun i _ _ => ls.length - i.toNat) ?_;unfold znb;have hl : ((ls.map slE).length : Int) = ls.length := by rw [qd]
 rw [hl];refine ⟨⟨rfl, ⟨qm _, by omega⟩, rfl⟩, ?_⟩;rintro _ i ⟨⟨i0, i1⟩, rfl⟩;have hle := zdh (ls := ls) i.toNat;refine aC (fun hc => ?_) (fun hc => ?_)
 ·simp only [aB] at hc;have hi : i.toNat < ls.length := by omega
  have hix : aI (ls.map slE) i 1 := bQ (enc := slE) (fun _ => rfl) i0 (by omega);have hg : (ls.map slE).getD i.toNat [] = slE ls[i.toNat] := bZ hi;have hw : i64.wrap (i + 1) = i + 1 := aG (by omega) (by omega);have hst := znd hi;have hle2 := zdh (ls := ls) (i.toNat + 1);refine ⟨hix, _, _, _, by rw [hg]; rfl, ?_⟩;rw [a8]
  have hw2 : i64.wrap ((eR (ls.take i.toNat) : Nat) + (ls[i.toNat].2.2.length : Int)) = (eR (ls.take (i.toNat + 1)) : Nat) := by
   rw [hst, aG (by omega) (by omega)]; omega
  rw [hw2, hw];exact bF (by simp) ⟨rfl, ⟨⟨by omega, by omega⟩, by rw [show (i + 1).toNat = i.toNat + 1 by omega]⟩, by dsimp only; omega⟩
 ·refine (zzt (by omega) (by omega)).mono ?_;rintro r h' ⟨nl, rfl, rfl⟩;refine ⟨nl, ⟨rfl, rfl⟩, trivial, ⟨rfl, ⟨qm _, by omega⟩, rfl⟩, ?_⟩;clear hc hle i0 i1 i;rintro i n0 _ ⟨⟨i0, i1⟩, rfl⟩;refine aC (fun hc => ?_) (fun hc => ?_)
  ·simp only [aB] at hc;have hi : i.toNat < ls.length := by omega
   have hix : aI (ls.map slE) i 1 := bQ (enc := slE) (fun _ => rfl) i0 (by omega);have hg : (ls.map slE).getD i.toNat [] = slE ls[i.toNat] := bZ hi;have hw : i64.wrap (i + 1) = i + 1 := aG (by omega) (by omega);have hst := znd hi;have hle2 := zdh (ls := ls) (i.toNat + 1);have hfl := zzu (ls.take i.toNat);refine ⟨hix, _, _, _, by rw [hg]; rfl, ⟨cZ _, by rw [a8, a8]; omega⟩, ?_⟩;rw [hw];refine ⟨rfl, ⟨⟨by omega, by omega⟩, ?_⟩, by dsimp only; omega⟩;rw [show (i + 1).toNat = i.toNat + 1 by omega, cJ hi, qad, fO]; simp
  ·simp only [aB] at hc;rw [qf (by omega)];exact ⟨_, _, rfl⟩
theorem zzv (n1 f1 n2 f2 n3 f3 : Bool) (a b c : List Int) (h : a.length + b.length + c.length <= 1000000000) : PCall qa 70 [.sl false true [[.sl n1 f1 (aA a)], [.sl n2 f2 (aA b)], [.sl n3 f3 (aA c)]]] fun x => ∃ n f, x = .sl n f (aA (a ++ (b ++ c))) := by
 have := zdi false true [(n1, f1, a), (n2, f2, b), (n3, f3, c)] (by simp) (by simp [eR]; omega);simpa [slE] using this
section
variable {rows : List Row} {v : PV}
theorem zdj (L : List Int) (k : Nat) : qe 0 (qi k (aA L)) = aA (L.take k) := by simp [aA]
theorem sB {len : Nat} {j : Int} (h0 : 0 <= j) (h2 : j <= len) : cU len none (some j) none := ⟨qm _, h0, h2, trivial⟩
theorem vU {len : Nat} {i : Int} (h0 : 0 <= i) (h2 : i <= len) : cU len (some i) none none := ⟨h0, h2, qm _, trivial⟩
end
end Go.Eng
namespace Go.Eng
open Go Go.Proofs
def zne  (R : PV -> Prop) : Prop :=
 PCall qa 13 [] fun v => ∃ n f es, v = PV.sl n f es /\ PCall qa 14 [PV.sl n f es] fun v1 => PCall qa 31 [v1, PV.sl false true [[Z3 103], [Z3 111], [Z3 32], [Z3 102], [Z3 111]], Z6 5, PV.sl false true [[PV.sl false true [[Z3 102], [Z3 111], [Z3 111]]], [PV.sl false true [[Z3 102], [Z3 111], [Z3 98]]], [PV.sl false true [[Z3 98], [Z3 97], [Z3 114]]]]] fun v2 => ∃ vs, v2 = PV.tup vs /\ vs.length = 2 /\ ∃ x, vs.head? = some x /\ ∃ cs, x = PV.agg cs /\ cs.length = 4 /\ ∃ n1, cs.head? = some (Z6 n1) /\ ∃ n2, cs.tail.head? = some (Z6 n2) /\ ∃ n3 f1 es1, cs.tail.tail.head? = some (PV.sl n3 f1 es1) /\ ∃ n4 f2 es2, cs.tail.tail.tail.head? = some (PV.sl n4 f2 es2) /\ ∃ x1, vs.tail.head? = some x1 /\ ∃ b, x1 = Zb b /\ if b = true then if (n1 == 3) = true then if (n2 == 5) = true then PCall qa 22 [PV.sl n3 f1 es1, PV.sl false true [[Z3 102], [Z3 111]]] fun v3 => ∃ b1, v3 = Zb b1 /\ if b1 = true then R (Zb ((↑es2.length : Int) == 2)) else R (Zb false) else R (Zb false) else R (Zb false) else R (Zb false)
theorem zzw  {R : PV -> Prop} (h : zne  R) : PCall qa 30 [] R :=
 PCall.wz Tryz.func30 aM [0, 1, 2] aT h

def zdk (n f : Bool) (es : LL) (x4 : Int) (n_0 : Bool) (s_0 : LL) : Env × Hp := ([(0, LV.pv (PV.sl n f es)), (3, LV.own 0), (4, Y6 x4)], [.sl (22, 1) true n_0 s_0])
section
variable (n f : Bool) (es : LL) (J : Int -> Bool -> LL -> Prop) (μ : Int -> Bool -> LL -> Nat)
def znf (R : PV -> Prop) : Prop :=
 (aF (zdk n f es (0 : Int) true []) /\ J (0 : Int) true []) /\ ∀ (x4 : Int) (n_0 : Bool) (s_0 : LL), J x4 n_0 s_0 -> if (decide (x4 < (↑es.length : Int)) && decide (x4 < 8)) = true then aI es x4 1 /\ ∃ n1 f1 es1, (es.getD x4.toNat []).head? = some (PV.sl n1 f1 es1) /\ PCall qa 12 [PV.sl n1 f1 es1, Z6 12] fun v => ∃ n2 f2 es2, v = PV.sl n2 f2 es2 /\ (aR [[PV.sl n2 f2 es2]] 1 /\ (s_0.length + 1) * 24 <= 140737488355328) /\ aF (zdk n f es (i64.wrap (x4 + 1)) (n_0 && false) (s_0 ++ [[PV.sl n2 f2 es2]])) /\ J (i64.wrap (x4 + 1)) (n_0 && false) (s_0 ++ [[PV.sl n2 f2 es2]]) /\ μ (i64.wrap (x4 + 1)) (n_0 && false) (s_0 ++ [[PV.sl n2 f2 es2]]) < μ x4 n_0 s_0 else R (PV.sl n_0 false s_0)
theorem zzx {R : PV -> Prop} (h : znf n f es J μ R) : PCall qa 25 [.sl n f es] R :=
 PCall.wz Tryz.func25 aM [0, 2, 3, 4, 12] (bP 3 (aX dM (zdk n f es) J μ (fun e h => (gI e 4, oN h 0, oS h 0)) [(3, 22, 1)] [0, 3, 4] [])) h
end
section
variable (n3 f3 : Bool) (s3 : LL) (a b : Int) (n f : Bool) (es : LL) (n2 f2 : Bool) (ss : LL)
def zng (R : PV -> Prop) : Prop :=
 PCall qa 12 [PV.sl n3 f3 s3, Z6 60] fun v => ∃ n1 f1 es1, v = PV.sl n1 f1 es1 /\ PCall qa 12 [PV.sl n f es, Z6 30] fun v1 => ∃ n4 f4 es2, v1 = PV.sl n4 f4 es2 /\ PCall qa 13 [] fun v2 => ∃ n5 f5 es3, v2 = PV.sl n5 f5 es3 /\ PCall qa 14 [PV.sl n5 f5 es3] fun v3 => PCall qa 33 [PV.agg [Z6 a, Z6 b, PV.sl n4 f4 es2, PV.sl n2 f2 ss], v3, PV.sl n1 f1 es1] fun v4 => ∃ vs, v4 = PV.tup vs /\ vs.length = 3 /\ ∃ x, vs.head? = some x /\ ∃ n6 f6 es4, x = PV.sl n6 f6 es4 /\ ∃ x1, vs.tail.head? = some x1 /\ ∃ n7, x1 = Z6 n7 /\ ∃ x2, vs.tail.tail.head? = some x2 /\ ∃ n8, x2 = Z6 n8 /\
 let V1 := if ((↑es4.length : Int) == 0 && n7 == 0 && n8 == 2) = true then PCall qa 30 [] fun v5 => ∃ b1, v5 = Zb b1 /\ R (Zb b1) else R (Zb false); if decide (a < 0) = true then V1 else if decide (a > b) = true then V1 else if decide (b > (↑es1.length : Int)) = true then V1 else (cU es1.length none (some a) none /\ aR es1 1) /\ (cU es1.length (some b) none none /\ aR es1 1) /\ PCall qa 34 [PV.sl n1 (f1 && decide (a = (↑es1.length : Int))) (qe 0 (qi a.toNat es1)), PV.sl n4 f4 es2, PV.sl n1 (f1 && decide ((↑es1.length : Int) = (↑es1.length : Int))) (qe b.toNat (qi (↑es1.length : Int).toNat es1))] fun v5 => ∃ n9 f7 es5, v5 = PV.sl n9 f7 es5 /\ PCall qa 22 [PV.sl n6 f6 es4, PV.sl n9 f7 es5] fun v6 => ∃ b1, v6 = Zb b1 /\ if b1 = true then if (n7 == i64.wrap (a + (↑es2.length : Int)) && n8 == 0) = true then PCall qa 30 [] fun v7 => ∃ b2, v7 = Zb b2 /\ R (Zb b2) else R (Zb false) else R (Zb false)
theorem zzy {R : PV -> Prop} (h : zng n3 f3 s3 a b n f es n2 f2 ss R) : PCall qa 9 [.sl n3 f3 s3, .agg [.int .i64 a, .int .i64 b, .sl n f es, .sl n2 f2 ss]] R :=
 PCall.wz Tryz.func9 aM [0, 1, 3, 4, 5, 6, 7, 39] aT h
end
section
variable (n f : Bool) (es : LL) (n2 f2 : Bool) (ss : LL)
def znh (R : PV -> Prop) : Prop :=
 PCall qa 12 [PV.sl n f es, Z6 12] fun v => ∃ n1 f1 es1, v = PV.sl n1 f1 es1 /\ PCall qa 25 [PV.sl n2 f2 ss] fun v1 => ∃ n3 f3 es2, v1 = PV.sl n3 f3 es2 /\ PCall qa 13 [] fun v2 => ∃ n4 f4 es3, v2 = PV.sl n4 f4 es3 /\ PCall qa 14 [PV.sl n4 f4 es3] fun v3 => PCall qa 35 [v3, PV.sl n1 f1 es1, PV.sl n3 f3 es2] fun v4 => ∃ vs, v4 = PV.tup vs /\ vs.length = 2 /\ ∃ x, vs.head? = some x /\ ∃ n5 f5 es4, x = PV.sl n5 f5 es4 /\ ∃ x1, vs.tail.head? = some x1 /\ ∃ b, x1 = Zb b /\ PCall qa 36 [PV.sl n4 f4 es3, PV.sl n1 f1 es1, PV.sl n3 f3 es2] fun v5 => ∃ vs1, v5 = PV.tup vs1 /\ vs1.length = 2 /\ ∃ x2, vs1.head? = some x2 /\ ∃ n6 f6 es5, x2 = PV.sl n6 f6 es5 /\ ∃ x3, vs1.tail.head? = some x3 /\ ∃ b1, x3 = Zb b1 /\ PCall qa 22 [PV.sl n5 f5 es4, PV.sl n6 f6 es5] fun v6 => ∃ b2, v6 = Zb b2 /\ if (b2 && b == b1) = true then PCall qa 30 [] fun v7 => ∃ b3, v7 = Zb b3 /\ R (Zb b3) else R (Zb false)
theorem zzz {R : PV -> Prop} (h : znh n f es n2 f2 ss R) : PCall qa 10 [.sl n f es, .sl n2 f2 ss] R :=
 PCall.wz Tryz.func10 aM [0, 1, 4, 5, 6, 7, 8, 9] aT h
end
def zdl (n2 f2 : Bool) (ss : LL) (n5 f5 : Bool) (s5 : LL) (x6 : PV) (x9 : Int) (hn0_0 hf0_0 : Bool) (hs0_0 : LL) (h0_1 : Int) (hn1_0 hf1_0 : Bool) (hs1_0 : LL) (h1_1 : Int) : Env × Hp := ([(1, LV.pv (PV.sl n2 f2 ss)), (5, .pv (.sl n5 f5 s5)), (6, .pv x6), (7, LV.box 0 0), (8, LV.box 1 0), (9, Y6 x9)], [.box [.pv (.sl hn0_0 hf0_0 hs0_0), Y6 h0_1], .box [.pv (.sl hn1_0 hf1_0 hs1_0), Y6 h1_1]])
section
variable (n f : Bool) (es : LL) (n2 f2 : Bool) (ss : LL) (J : Bool -> Bool -> LL -> PV -> Int -> Bool -> Bool -> LL -> Int -> Bool -> Bool -> LL -> Int -> Prop) (μ : Bool -> Bool -> LL -> PV -> Int -> Bool -> Bool -> LL -> Int -> Bool -> Bool -> LL -> Int -> Nat)
def zni (R : PV -> Prop) : Prop :=
 PCall qa 25 [PV.sl n f es] fun v => ∃ n1 f1 es1, v = PV.sl n1 f1 es1 /\ PCall qa 13 [] fun v1 => ∃ n3 f3 es2, v1 = PV.sl n3 f3 es2 /\ PCall qa 14
  [PV.sl n3 f3 es2] fun v2 => PCall qa 37 [PV.sl n1 f1 es1] fun v3 => ∃ cs, v3 = PV.agg cs /\ cs.length = 2 /\ ∃ n4 f4 es3, cs.head? = some (PV.sl n4 f4 es3) /\ ∃ (n5 : Int),
  cs.tail.head? = some (Z6 n5) /\ (aF (zdl n2 f2 ss n3 f3 es2 v2 (0 : Int) n4 f4 es3 n5 n1 f1 es1 (0 : Int)) /\ J n3 f3 es2 v2 (0 : Int) n4 f4 es3 n5 n1 f1 es1 (0 : Int)) /\ ∀ (n51 f5 : Bool) (s5 : LL) (x6 : PV) (x9 : Int) (hn0_0 hf0_0 :
  Bool) (hs0_0 : LL) (h0_1 : Int) (hn1_0 hf1_0 : Bool) (hs1_0 : LL) (h1_1 : Int), J n51 f5 s5 x6 x9 hn0_0 hf0_0 hs0_0 h0_1 hn1_0 hf1_0 hs1_0 h1_1 ->
 let K7 := fun (y0_ y1_ : Bool) (y2_ : LL) (y3_ : PV) (y4_ : Int) (y5_ y6_ : Bool) (y7_ : LL) (y8_ : Int) (y9_ y10_ : Bool) (y11_ : LL) (y12_ : Int) => aF (zdl n2 f2 ss y0_ y1_ y2_ y3_ y4_ y5_ y6_ y7_ y8_ y9_
  y10_ y11_ y12_) /\ J y0_ y1_ y2_ y3_ y4_ y5_ y6_ y7_ y8_ y9_ y10_ y11_ y12_ /\ μ y0_ y1_ y2_ y3_ y4_ y5_ y6_ y7_ y8_ y9_ y10_ y11_ y12_ < μ n51 f5 s5 x6 x9 hn0_0 hf0_0 hs0_0 h0_1 hn1_0 hf1_0 hs1_0 h1_1; if (decide (x9 < (↑ss.length : Int))
  && decide (x9 < 12)) = true then aI ss x9 3 /\ ∃ n6, (ss.getD x9.toNat []).head? = some (Z6 n6) /\ ∃ b, (ss.getD x9.toNat []).tail.head? = some (Zb b) /\ ∃ n7 f6 es4, (ss.getD x9.toNat
  []).tail.tail.head? = some (PV.sl n7 f6 es4) /\ PCall qa 38 [PV.agg [PV.sl hn0_0 hf0_0 hs0_0, Z6 h0_1]] fun v4 => ∃ vs, v4 = PV.tup vs /\ vs.length = 2 /\ ∃ x, vs.head? = some x /\ ∃ n8, ∃ (f7 :
  Bool), ∃ es5, x = PV.sl n8 f7 es5 /\ ∃ x1, vs.tail.head? = some x1 /\ ∃ n9, x1 = Z6 n9 /\ PCall qa 39 [PV.agg [PV.sl hn0_0 hf0_0 hs0_0, Z6 h0_1], Z6 n6] fun v5 => ∃ cs1, v5 = PV.agg cs1 /\
  cs1.length = 2 /\ ∃ n10 f8 es6, cs1.head? = some (PV.sl n10 f8 es6) /\ ∃ n11, cs1.tail.head? = some (Z6 n11) /\ if b = true then PCall qa 12 [PV.sl n7 f6 es4, Z6 6] fun v6 => ∃ (n12 :
  Bool), ∃ f9 es7, v6 = PV.sl n12 f9 es7 /\ PCall qa 40 [PV.agg [PV.sl hn0_0 hf0_0 hs0_0, Z6 h0_1], x6, PV.sl n12 f9 es7] fun v7 => ∃ cs2, v7 = PV.agg cs2 /\ cs2.length = 2 /\ ∃ n13, ∃ (f10
  : Bool), ∃ es8, cs2.head? = some (PV.sl n13 f10 es8) /\ ∃ n14, cs2.tail.head? = some (Z6 n14) /\ PCall qa 12 [PV.sl n7 f6 es4, Z6 6] fun v8 => ∃ n15 f11 es9, v8 = PV.sl n15 f11 es9
  /\ PCall qa 41 [PV.sl n51 f5 s5, PV.agg [PV.sl hn1_0 hf1_0 hs1_0, Z6 h1_1], PV.sl n15 f11 es9] fun v9 => ∃ cs3, v9 = PV.agg cs3 /\ cs3.length = 2 /\ ∃ n16 f12 es10, cs3.head? = some
  (PV.sl n16 f12 es10) /\ ∃ n17, cs3.tail.head? = some (Z6 n17) /\ PCall qa 38 [PV.agg [PV.sl hn0_0 hf0_0 hs0_0, Z6 h0_1]] fun v10 => ∃ vs1, v10 = PV.tup vs1 /\ vs1.length = (2 : Nat) /\ ∃ x2, vs1.head?
  = some x2 /\ ∃ n18 f13 es11, x2 = PV.sl n18 f13 es11 /\ ∃ x3, vs1.tail.head? = some x3 /\ ∃ n19, x3 = Z6 n19 /\ PCall qa 23 [PV.sl n8 f7 es5, PV.sl n18 f13 es11] fun v11 => ∃ (b1 :
  Bool), v11 = Zb b1 /\ if (!b1 || n9 != n19) = true then R (Zb false) else PCall qa 38 [PV.agg [PV.sl n13 f10 es8, Z6 n14]] fun v12 => ∃ vs2, v12 = PV.tup vs2 /\ vs2.length = 2 /\ ∃ x4, vs2.head? = some x4 /\ ∃
  (n20 : Bool), ∃ f14 es12, x4 = PV.sl n20 f14 es12 /\ ∃ x5, vs2.tail.head? = some x5 /\ ∃ n21, x5 = Z6 n21 /\ PCall qa 43 [PV.agg [PV.sl n13 f10 es8, Z6 n14]] fun v13 => ∃ vs3, v13 =
  PV.tup vs3 /\ vs3.length = 2 /\ ∃ x7, vs3.head? = some x7 /\ ∃ n22 f15 es13, x7 = PV.sl n22 f15 es13 /\ ∃ x8, vs3.tail.head? = some x8 /\ ∃ b2, x8 = Zb b2 /\ PCall qa 23 [PV.sl n20
  f14 es12, PV.sl n16 f12 es10] fun v14 => ∃ b3, v14 = Zb b3 /\ if (!b3) = true then R (Zb false) else if (n21 != n17) = true then R (Zb false) else if (b2 != decide ((↑es10.length : Int) > 0)) = true then R (Zb false) else
 let V1 := K7 n51 f5 s5 x6 (i64.wrap (x9 + 1)) n13 f10 es8 n14 n16 f12 es10 n17; if b2 = true then aI es10 n17 1 /\ ∃ n23 f16 es14, (es10.getD n17.toNat []).head? = some (PV.sl n23 f16 es14) /\ PCall
  qa 22 [PV.sl n22 f15 es13, PV.sl n23 f16 es14] fun v15 => ∃ b4, v15 = Zb b4 /\ if (!b4) = true then R (Zb false) else V1 else V1 else if decide (n6 < (-1000 : Int)) = true then PCall qa 30 [] fun v6 => ∃
  (b1 : Bool), v6 = Zb b1 /\ R (Zb b1) else if decide (n6 > 1000) = true then PCall qa 30 [] fun v6 => ∃ b1, v6 = Zb b1 /\ R (Zb b1) else PCall qa 42 [PV.agg [PV.sl hn1_0 hf1_0 hs1_0, Z6 h1_1], Z6 n6] fun (v6 :
  PV) => ∃ cs2, v6 = PV.agg cs2 /\ cs2.length = 2 /\ ∃ n12 f9 es7, cs2.head? = some (PV.sl n12 f9 es7) /\ ∃ n13, cs2.tail.head? = some (Z6 n13) /\ PCall qa 38 [PV.agg [PV.sl hn0_0 hf0_0
  hs0_0, Z6 h0_1]] fun v7 => ∃ vs1, v7 = PV.tup vs1 /\ vs1.length = 2 /\ ∃ x2, vs1.head? = some x2 /\ ∃ n14 f10 es8, x2 = PV.sl n14 f10 es8 /\ ∃ x3, vs1.tail.head? = some x3 /\ ∃
  (n15 : Int), x3 = Z6 n15 /\ PCall qa 23 [PV.sl n8 f7 es5, PV.sl n14 f10 es8] fun v8 => ∃ b1, v8 = Zb b1 /\ if (!b1 || n9 != n15) = true then R (Zb false) else PCall qa 38 [PV.agg [PV.sl n10 f8 es6, Z6 n11]] fun
  (v9 : PV) => ∃ vs2, v9 = PV.tup vs2 /\ vs2.length = 2 /\ ∃ x4, vs2.head? = some x4 /\ ∃ n16 f11 es9, x4 = PV.sl n16 f11 es9 /\ ∃ x5, vs2.tail.head? = some x5 /\ ∃ n17, x5 = Z6
  n17 /\ PCall qa 43 [PV.agg [PV.sl n10 f8 es6, Z6 n11]] fun v10 => ∃ vs3, v10 = PV.tup vs3 /\ vs3.length = 2 /\ ∃ x7, vs3.head? = some x7 /\ ∃ n18 f12 es10, x7 = PV.sl n18 f12
  es10 /\ ∃ x8, vs3.tail.head? = some x8 /\ ∃ b2, x8 = Zb b2 /\ PCall qa 23 [PV.sl n16 f11 es9, PV.sl n12 f9 es7] fun v11 => ∃ b3, v11 = Zb b3 /\ if (!b3) = true then R (Zb false) else if (n17 != n13) =
  true then R (Zb false) else if (b2 != decide ((↑es7.length : Int) > 0)) = true then R (Zb false) else
 let V2 := K7 n51 f5 s5 x6 (i64.wrap (x9 + 1)) n10 f8 es6 n11 n12 f9 es7 n13; if b2 = true then aI es7 n13 1 /\ ∃ n19 f13 es11, (es7.getD n13.toNat []).head? = some (PV.sl n19 f13 es11) /\ PCall
  qa 22 [PV.sl n18 f12 es10, PV.sl n19 f13 es11] fun v12 => ∃ b4, v12 = Zb b4 /\ if (!b4) = true then R (Zb false) else V2 else V2 else PCall qa 30 [] fun v4 => ∃ b, v4 = Zb b /\ R (Zb b)
theorem zz0 {R : PV -> Prop} (h : zni n f es n2 f2 ss J μ R) : PCall qa 11 [.sl n f es, .sl n2 f2 ss] R :=
 PCall.wz Tryz.func11 aM [0, 1, 4, 5, 6, 7, 8, 9, 10, 11, 12, 13, 14, 15, 16, 17, 18, 19, 36, 53, 73, 92, 136] (bP 7 (aX (e9 cz5) (zdl n2 f2 ss) J μ (fun e h => (gN e 5, gF e 5, gS e 5, gP e 6, gI e 9, hN h 0 0, hF h 0 0, hS h 0 0, hI h 0 1, hN h 1 0, hF h 1 0, hS h 1 0, hI h 1 1)) [] [1, 5, 6, 7, 8, 9] [])) h
end
end Go.Eng
namespace Go.Eng
open Go Go.Proofs Go.Eng.Rows Go.Eng.Trie Go.Eng.Srt
theorem znj (n f : Bool) (Q : List (Bool × Bool × List Int)) :
 PCall qa 25 [.sl n f (Q.map slE)] fun x => ∃ (n' : Bool) (Q' : List (Bool × Bool × List Int)), x = .sl n' false (Q'.map slE) /\ Q'.map (fun q => q.2.2) = (Q.take 8).map (fun q => q.2.2.take 12) /\ (n' = true -> Q' = []) := by
 refine zzx _ _ _ (fun x n0 s0 => ∃ (i : Nat) (Q' : List (Bool × Bool × List Int)), x = i /\ i <= Q.length /\ i <= 8 /\ s0 = Q'.map slE /\ Q'.map (fun q => q.2.2) = (Q.take i).map (fun q => q.2.2.take 12) /\ (n0 = true -> Q' = [])) (fun x _ _ => 8 - x.toNat) ?_;unfold znf;refine ⟨⟨rfl, 0, [], rfl, by omega, by omega, rfl, rfl, fun _ => rfl⟩, ?_⟩;rintro _ n0 _ ⟨i, Q', rfl, i1, i2, rfl, i3, i4⟩;rw [qd];refine aC (fun h => ?_) (fun h => ?_)
 ·simp only [qb, aB] at h;have hi : i < Q.length := by omega
  have hg : (Q.map slE).getD ((i : Int)).toNat [] = slE Q[i] := by rw [qk]; exact bZ hi
  have hlen : Q'.length = i := by
   have := congrArg List.length i3;simp only [qd, qp] at this; omega
  have hix : aI (Q.map slE) (i : Int) 1 := bQ (enc := slE) (l := Q) (fun _ => rfl) (Int.natCast_nonneg i) (Int.ofNat_lt.2 hi);refine ⟨hix, Q[i].1, Q[i].2.1, aA Q[i].2.2, by rw [hg]; rfl, ?_⟩;refine (pL _ _ _ 12 (by omega)).mono ?_;rintro _ ⟨n2, f2, rfl⟩;have hw : i64.wrap ((i : Int) + 1) = ((i + 1 : Nat) : Int) := by rw [aG (by omega) (by omega)]; omega
  rw [hw];refine ⟨n2, f2, _, rfl, ⟨g9 (enc := slE) (fun _ => rfl) [(n2, f2, Q[i].2.2.take 12)], by rw [qd]; omega⟩, rfl, ⟨i + 1, Q' ++ [(n2, f2, Q[i].2.2.take 12)], rfl, by omega, by omega, by rw [qq]; rfl, ?_, fun h => by simp at h⟩, by first | omega | (dsimp only; omega)⟩
  rw [qq, i3, cJ hi, qq]; rfl
 ·simp only [qb, aB] at h;refine ⟨n0, Q', rfl, ?_, i4⟩;rw [i3];by_cases h8 : i = 8
  ·rw [h8]
  ·rw [qf (by omega : Q.length <= i), qf (by omega : Q.length <= 8)]
end Go.Eng
namespace Go.Eng.Rows
open Go Go.Eng Go.Eng.Trie Go.Eng.Srt
def pickW (rows : List Row) (part : List Int) : List (List Int) -> List (List Int) -> List (List Int)
 | out, [] => out
 | out, s :: S => if dT rows s part = true /\ dN rows s ∉ out then pickW rows part (out ++ [dN rows s]) S else pickW rows part out S
def gD (rows : List Row) (line : List Int) (k : Nat) : Nat := match (fF rows (line.take k) 0).getLast? with
 | some q => if q.2 = k then q.1 else k
 | none => k
def fQ (rows : List Row) (line : List Int) : List (List Int) -> Option (List Int)
 | [] => none
 | l :: ls => if (cC rows line).length < (cC rows l).length /\ dT rows l line = true then some ((cC rows l).drop (cC rows line).length).flatten else fQ rows line ls
def iG (rows : List Row) (line : List Int) (ls : List (List Int)) : Option (List Int) := if (cC rows line).length = 0 then none else fQ rows line ls
def d9 (rows : List Row) (w : List Int) (T : List (List Int)) : List (List Int) := T.filter fun t => dT rows t w
def nY (rows : List Row) (w : List Int) (T : List (List Int)) (a : Nat) : Nat := if a < T.length /\ dT rows (T.getD a []) w = true then (d9 rows w (T.take a)).length else 0
section
variable {rows : List Row}
theorem zdm (part : List Int) : ∀ (S : List (List Int)) (out : List (List Int)) (s : List Int), pickW rows part out (S ++ [s]) = if dT rows s part = true /\ dN rows s ∉ pickW rows part out S then pickW rows part out S ++ [dN rows s] else pickW rows part out S
 | [], out, s => by
   rw [qaz];have e : pickW rows part out [s] = if dT rows s part = true /\ dN rows s ∉ out then pickW rows part (out ++ [dN rows s]) [] else pickW rows part out [] := by rw [pickW.eq_2]
   have e2 : ∀ o, pickW rows part o [] = o := fun o => by rw [pickW.eq_1]
   rw [e, e2, e2]
 | t :: S, out, s => by
   rw [qay, pickW, pickW];split
   ·exact zdm part S _ s
   ·exact zdm part S _ s
theorem zdn (part : List Int) : ∀ (S out : List (List Int)), (pickW rows part out S).length <= out.length + S.length
 | [], out => by rw [pickW]; simp
 | s :: S, out => by
   rw [pickW];split
   ·have := zdn part S (out ++ [dN rows s]); rw [qn, qt] at this; rw [qc]; omega
   ·have := zdn part S out; simp only [qc] at this ⊢; omega
theorem zdo (part : List Int) : ∀ (S out : List (List Int)) (t : List Int), t ∈ pickW rows part out S -> t ∈ out ∨ ∃ s ∈ S, t = dN rows s /\ dT rows s part = true
 | [], out, t, h => .inl (by rwa [pickW] at h)
 | s :: S, out, t, h => by
   rw [pickW] at h;split at h
   ·rename_i hc;rcases zdo part S _ t h with h | ⟨u, hu, e⟩
    ·rcases List.mem_append.1 h with h | h
     ·exact .inl h
     ·exact .inr ⟨s, qv, List.mem_singleton.1 h, hc.1⟩
    ·exact .inr ⟨u, qab _ hu, e⟩
   ·rcases zdo part S _ t h with h | ⟨u, hu, e⟩
    ·exact .inl h
    ·exact .inr ⟨u, qab _ hu, e⟩
theorem zdp {L : List Int} : ∀ (k i : Nat), L.length - i <= k -> ∀ q ∈ fF rows L i, q.1 < q.2 /\ q.2 <= L.length
 | k, i, hk, q, hq => by
   by_cases hi : i < L.length
   ·by_cases hl : eD rows L i = true
    ·rw [zc8 hl] at hq;have h1 := sA hl;have h2 := zc6 hl;rcases List.mem_cons.1 hq with rfl | hq
     ·exact ⟨h1, h2⟩
     ·cases k with
      | zero => omega
      | succ k => exact zdp k _ (by omega) q hq
    ·rw [zc9 hi hl] at hq;have h1 := (eH (rows := rows) hi).1;cases k with
     | zero => omega
     | succ k => exact zdp k _ (by omega) q hq
   ·rw [zc7 (by omega)] at hq; cases hq
theorem zdr {L : List Int} : ∀ (k i : Nat), L.length - i <= k -> (fF rows L i).length <= L.length - i
 | k, i, hk => by
   by_cases hi : i < L.length
   ·by_cases hl : eD rows L i = true
    ·rw [zc8 hl, qc];have h1 := sA hl;have h2 := zc6 hl;cases k with
     | zero => omega
     | succ k => have := zdr (L := L) k (dO rows L i) (by omega); omega
    ·rw [zc9 hi hl];have h1 := (eH (rows := rows) hi).1;cases k with
     | zero => omega
     | succ k => have := zdr (L := L) k (bO rows L i) (by omega); omega
   ·rw [zc7 (by omega)]; simp
theorem zz1 (line : List Int) (k : Nat) : gD rows line k <= k := by
 unfold gD;cases h : (fF rows (line.take k) 0).getLast? with
 | none => exact qj _
 | some q =>
   have hq := List.mem_of_getLast? h;have := zdp (rows := rows) _ 0 (qj _) q hq;dsimp only;split <;> omega
theorem zds (w : List Int) {T : List (List Int)} {i : Nat} (hi : i < T.length) : d9 rows w (T.take (i + 1)) = if dT rows T[i] w = true then d9 rows w (T.take i) ++ [T[i]] else d9 rows w (T.take i) := by
 unfold d9;rw [List.take_succ_eq_append_getElem hi, qbj];by_cases h : dT rows T[i] w = true
 ·rw [if_pos h]; simp [h]
 ·rw [if_neg h]; simp [h]
def mR (rows : List Row) (w : List Int) (T : List (List Int)) (a i : Nat) : Nat := if a < i /\ dT rows (T.getD a []) w = true then (d9 rows w (T.take a)).length else 0
theorem znk (w : List Int) {T : List (List Int)} {a i : Nat} (hi : i < T.length) : mR rows w T a (i + 1) = if dT rows T[i] w = true /\ i = a then (d9 rows w (T.take i)).length else mR rows w T a i := by
 unfold mR;have hg : T.getD i [] = T[i] := by simp [qaf, hi]
 by_cases e : i = a
 ·subst e;rw [hg];by_cases h : dT rows T[i] w = true <;> simp [h]
 ·rw [if_neg (show ¬(dT rows T[i] w = true /\ i = a) from fun h => e h.2)];by_cases h : a < i
  ·by_cases hb : dT rows (T.getD a []) w = true
   ·rw [if_pos ⟨by omega, hb⟩, if_pos ⟨h, hb⟩]
   ·rw [if_neg fun x => hb x.2, if_neg fun x => hb x.2]
  ·rw [if_neg (by omega), if_neg (by omega)]
theorem znl (w : List Int) (T : List (List Int)) (a : Nat) : mR rows w T a T.length = nY rows w T a := rfl
theorem zz2 (w : List Int) {T : List (List Int)} {a : Nat} : nY rows w T a = 0 ∨ nY rows w T a < (d9 rows w T).length := by
 unfold nY;split
 ·rename_i h;right;obtain ⟨h, hb⟩ := h;have hg : T.getD a [] = T[a] := by simp [qaf, h]
  rw [hg] at hb;have h1 := zds (rows := rows) w h;rw [if_pos hb] at h1;have h2 : d9 rows w T = d9 rows w (T.take (a + 1)) ++ d9 rows w (T.drop (a + 1)) := by unfold d9; rw [<- qbj, qam]
  rw [h2, h1];simp only [qn, qt]; omega
 ·exact .inl rfl
end
theorem zz3 {k a n : Int} (hk : 0 < k) (h0 : 0 <= a) (h1 : a < k) : (a + n.tmod k + k).tmod k = (a + n) % k := by
 have h2 := qbk n hk
 have h3 : -k < n.tmod k := by
  have := qbk (-n) hk;rw [Int.neg_tmod] at this; omega
 rw [qz (by omega), Int.add_emod_right]
 have h4 : n.tmod k % k = n % k := by
  have := Int.tmod_add_mul_tdiv n k
  conv => rhs; rw [<- this]
  rw [Int.add_mul_emod_self_left]
 rw [Int.add_emod, h4, <- Int.add_emod]
section
variable {rows : List Row}
theorem zz4 {r : Int} (h : d0 rows r = false) (hn : aL rows r ≠ (0, 0)) : (aL rows r).2 ≠ 0 /\ aH rows 1 r = 0 /\ aH rows 1 (aL rows r).1 = 0 := by
 unfold d0 at h;simp [hn] at h;exact ⟨h.1, h.2.2.1, h.2.2.2⟩
theorem zz5 (h1 : dY rows) (hks : ∀ r, bT r = true -> aH rows 1 r = 0) {a b c : Int} (h : fC rows a b = some c) : aH rows 1 c = 0 := by
 unfold fC at h;split at h
 ·rename_i s hj; cases h; exact hks _ (zce hj)
 ·obtain ⟨q1, q2, q3, _⟩ := zcd h1 h;exact (zz4 q3 (by rw [q1]; intro e; exact q2 (Prod.mk.inj e).2)).2.1
theorem zz6 (h1 : dY rows) (hks : ∀ r, bT r = true -> aH rows 1 r = 0) (d : List Int) : ∀ a, (bM rows d).s = some a -> aH rows 1 a = 0 := by
 induction d using iZ with
 | h0 => intro a h; cases h
 | h1 d r ih =>
   rw [gQ];rcases pM rows (bM rows d) r with e | ⟨b, c, hs, hp, _, e⟩
   ·rw [e];unfold cQ;split
    ·rename_i h0; intro a h; cases h; exact h0
    ·exact ih
   ·rw [e];intro a h; cases h; exact zz5 h1 hks hp
end
end Go.Eng.Rows
namespace Go.Eng
open Go Go.Proofs
section
variable (a b : Int)
def znm (R : PV -> Prop) : Prop :=
 if (decide (a >= 4352) && decide (a <= 4370) && decide (b >= 4449) && decide (b <= 4469)) = true then R (PV.tup [Z3 (i32.wrap (i64.wrap (i64.wrap ((44032 : Int) + i64.wrap (i64.wrap (i64.wrap a - 4352) * 588)) + i64.wrap (i64.wrap (i64.wrap b - 4449) * 28)))), Zb true]) else ACall qa 100 [LV.pv (Z3 a)] [] fun (r : LV) (h' : Hp) => (∃ (t : Bool × LL), (r = LV.own 0 /\ h' = [Ob.sl (21, 1) true t.fst t.snd]) /\ True /\ if ((↑t.snd.length : Int) == 2 && decide (b >= 4520) && decide (b <= 4546)) = true then R (PV.tup [Z3 (i32.wrap (a + i32.wrap (b - 4519))), Zb true]) else R (PV.tup [Z3 0, Zb false])) ∨ ∃ (t : Bool × LL), (r = LV.pv (PV.sl t.fst true t.snd) /\ h' = []) /\ True /\ if ((↑t.snd.length : Int) == 2 && decide (b >= 4520) && decide (b <= 4546)) = true then R (PV.tup [Z3 (i32.wrap (a + i32.wrap (b - 4519))), Zb true]) else R (PV.tup [Z3 0, Zb false])
theorem zz7 {R : PV -> Prop} (h : znm a b R) : PCall qa 158 [.int .i32 a, .int .i32 b] R :=
 PCall.wz Tryz.func158 (fun zz_ => match zz_ with | 100 => some ⟨Bool × LL, fun _ hs t => (.own hs.length, hs ++ [.sl (21, 1) true t.1 t.2]), some ⟨Bool × LL, fun _ hs t => (.pv (.sl t.1 true t.2), hs)⟩⟩ | _ => none) [0, 1, 4, 5, 6, 20, 44] aT h
end
def zdt (n f : Bool) (es : LL) (a b : Int) (x8 : Int) (x9 : Bool) (x10 : Int) : Env × Hp := ([(0, LV.pv (PV.sl n f es)), (1, LV.pv (PV.int i32 a)), (2, LV.pv (PV.int i32 b)), (8, .pv (.int i32 x8)), (9, .pv (.bool x9)), (10, Y6 x10)], [])
section
variable (n f : Bool) (es : LL) (a b : Int) (J : Int -> Bool -> Int -> Prop) (μ : Int -> Bool -> Int -> Nat)
def znn (R : PV -> Prop) : Prop :=
 (aF (zdt n f es a b (0 : Int) false (0 : Int)) /\ J (0 : Int) false (0 : Int)) /\ ∀ (x8 : Int) (x9 : Bool) (x10 : Int), J x8 x9 x10 ->
 let K4 := fun (y0_ : Int) (y1_ : Bool) (y2_ : Int) => aF (zdt n f es a b y0_ y1_ y2_) /\ J y0_ y1_ y2_ /\ μ y0_ y1_ y2_ < μ x8 x9 x10; if decide (x10 < (↑es.length : Int)) = true then aI es x10 5 /\ ∃ n1, (qe 0 (es.getD x10.toNat [])).head? = some (Z6 n1) /\
 let V1 := K4 x8 x9 (i64.wrap (x10 + 1)); if (n1 != 2) = true then V1 else aI es x10 5 /\ ∃ n2, (qe 3 (es.getD x10.toNat [])).head? = some (Z6 n2) /\ if (n2 != i64.wrap a) = true then V1 else aI es x10 5 /\ ∃ n3, (qe 4 (es.getD x10.toNat [])).head? = some (Z6 n3) /\ if (n3 != i64.wrap b || b == 0) = true then V1 else aI es x10 5 /\ ∃ n4, (qe 1 (es.getD x10.toNat [])).head? = some (Z6 n4) /\ PCall qa 101 [PV.sl n f es, Z3 (i32.wrap n4)] fun v => ∃ vs, v = PV.tup vs /\ vs.length = 3 /\ ∃ x, vs.head? = some x /\ ∃ n5, x = Z3 n5 /\ ∃ x1, vs.tail.head? = some x1 /\ ∃ n6, x1 = Z3 n6 /\ ∃ x2, vs.tail.tail.head? = some x2 /\ ∃ b1, x2 = Zb b1 /\ if (b1 && n5 == a && n6 == b) = true then PCall qa 171 [PV.sl n f es, Z3 (i32.wrap n4)] fun v1 => ∃ b2, v1 = Zb b2 /\ if (!b2 && (!x9 || decide (i32.wrap n4 < x8))) = true then K4 (i32.wrap n4) true (i64.wrap (x10 + 1)) else V1 else V1 else R (PV.tup [Z3 x8, Zb x9])
theorem zz8 {R : PV -> Prop} (h : znn n f es a b J μ R) : PCall qa 159 [.sl n f es, .int .i32 a, .int .i32 b] R :=
 PCall.wz Tryz.func159 aM [0, 1, 2, 6, 7, 8, 9, 10, 11, 12, 13, 14, 18, 50, 89] (bP 4 (aX dM (zdt n f es a b) J μ (fun e h => (gI e 8, gB e 9, gI e 10)) [] [0, 1, 2, 8, 9, 10] [])) h
end
section
variable (n f : Bool) (es : LL) (a b : Int)
def zno (R : PV -> Prop) : Prop :=
 PCall qa 158 [Z3 a, Z3 b] fun v => ∃ vs, v = PV.tup vs /\ vs.length = 2 /\ ∃ x, vs.head? = some x /\ ∃ n1, x = Z3 n1 /\ ∃ x1, vs.tail.head? = some x1 /\ ∃ b1, x1 = Zb b1 /\ if b1 = true then R (PV.tup [Z3 n1, Zb true]) else PCall qa 159 [PV.sl n f es, Z3 a, Z3 b] fun v1 => ∃ vs1, v1 = PV.tup vs1 /\ vs1.length = 2 /\ ∃ x2, vs1.head? = some x2 /\ ∃ n2, x2 = Z3 n2 /\ ∃ x3, vs1.tail.head? = some x3 /\ ∃ b2, x3 = Zb b2 /\ R (PV.tup [Z3 n2, Zb b2])
theorem zz9 {R : PV -> Prop} (h : zno n f es a b R) : PCall qa 127 [.sl n f es, .int .i32 a, .int .i32 b] R :=
 PCall.wz Tryz.func127 aM [0, 1, 2, 6, 7, 8, 9, 16] aT h
end
def zdu (n f : Bool) (es : LL) (n2 f2 : Bool) (ss : LL) (x5 : Int) : Env × Hp := ([(0, LV.pv (PV.sl n f es)), (1, LV.pv (PV.sl n2 f2 ss)), (5, Y6 x5)], [])
section
variable (n f : Bool) (es : LL) (n2 f2 : Bool) (ss : LL) (J : Int -> Prop) (μ : Int -> Nat)
def znp (R : PV -> Prop) : Prop :=
 (aF (zdu n f es n2 f2 ss (i64.wrap ((↑ss.length : Int) - 1))) /\ J (i64.wrap ((↑ss.length : Int) - 1))) /\ ∀ (x5 : Int), J x5 -> if decide (x5 >= 0) = true then aI ss x5 1 /\ ∃ n1, (ss.getD x5.toNat []).head? = some (Z3 n1) /\ PCall qa 102 [PV.sl n f es, Z3 n1] fun v => ∃ n3, v = Z6 n3 /\ if (n3 == 0) = true then R (Z6 x5) else aF (zdu n f es n2 f2 ss (i64.wrap (x5 - 1))) /\ J (i64.wrap (x5 - 1)) /\ μ (i64.wrap (x5 - 1)) < μ x5 else R (Z6 (-1 : Int))
theorem z0a {R : PV -> Prop} (h : znp n f es n2 f2 ss J μ R) : PCall qa 125 [.sl n f es, .sl n2 f2 ss] R :=
 PCall.wz Tryz.func125 aM [0, 1, 4, 5, 10, 19] (bP 2 (aX iU (zdu n f es n2 f2 ss) J μ (fun e h => (((gI e 5), ()))) [] [0, 1, 5] [])) h
end
section
variable (n f : Bool) (es : LL) (n2 f2 : Bool) (ss : LL) (k r : Int)
def znq (R : PV -> Prop) : Prop :=
 if (k == i64.wrap ((↑ss.length : Int) - 1)) = true then R (Zb true) else aI ss (i64.wrap ((↑ss.length : Int) - 1)) 1 /\ ∃ n1, (ss.getD (i64.wrap ((↑ss.length : Int) - 1)).toNat []).head? = some (Z3 n1) /\ PCall qa 102 [PV.sl n f es, Z3 n1] fun v => ∃ n3, v = Z6 n3 /\ PCall qa 102 [PV.sl n f es, Z3 r] fun v1 => ∃ n4, v1 = Z6 n4 /\ R (Zb (decide (n3 < n4)))
theorem z0b {R : PV -> Prop} (h : znq n f es ss k r R) : PCall qa 126 [.sl n f es, .sl n2 f2 ss, .int .i64 k, .int .i32 r] R :=
 PCall.wz Tryz.func126 aM [0, 1, 2, 3, 8, 13] aT h
end
def zdv (n f : Bool) (es : LL) (n2 f2 : Bool) (ss : LL) (x6 : Int) (n_0 : Bool) (s_0 : LL) : Env × Hp := ([(0, LV.pv (PV.sl n f es)), (1, LV.pv (PV.sl n2 f2 ss)), (5, LV.own 0), (6, Y6 x6)], [.sl (21, 1) true n_0 s_0])
section
variable (n f : Bool) (es : LL) (n2 f2 : Bool) (ss : LL) (J : Int -> Bool -> LL -> Prop) (μ : Int -> Bool -> LL -> Nat)
def znr (R : PV -> Prop) : Prop :=
 (aF (zdv n f es n2 f2 ss (0 : Int) true []) /\ J (0 : Int) true []) /\ ∀ (x6 : Int) (n_0 : Bool) (s_0 : LL), J x6 n_0 s_0 ->
 let K3 := fun (y0_ : Int) (y1_ : Bool) (y2_ : LL) => aF (zdv n f es n2 f2 ss y0_ y1_ y2_) /\ J y0_ y1_ y2_ /\ μ y0_ y1_ y2_ < μ x6 n_0 s_0; if decide (x6 < (↑ss.length : Int)) = true then PCall qa 125 [PV.sl n f es, PV.sl n_0 false s_0] fun v => ∃ n1, v = Z6 n1 /\ true = true /\
 let V1 := aI ss x6 1 /\ ∃ n7, (ss.getD x6.toNat []).head? = some (Z3 n7) /\ (aR [[Z3 n7]] 1 /\ (s_0.length + 1) * 4 <= 140737488355328) /\ K3 (i64.wrap (x6 + 1)) (n_0 && false) (s_0 ++ [[Z3 n7]]); if decide (n1 >= 0) = true then aI ss x6 1 /\ ∃ n3, (ss.getD x6.toNat []).head? = some (Z3 n3) /\ PCall qa 126 [PV.sl n f es, PV.sl n_0 false s_0, Z6 n1, Z3 n3] fun v1 => ∃ b, v1 = Zb b /\ true = true /\ if b = true then aI s_0 n1 1 /\ ∃ n4, (qe 0 (s_0.getD n1.toNat [])).head? = some (Z3 n4) /\ aI ss x6 1 /\ ∃ n5, (ss.getD x6.toNat []).head? = some (Z3 n5) /\ PCall qa 127 [PV.sl n f es, Z3 n4, Z3 n5] fun v2 => ∃ vs, v2 = PV.tup vs /\ vs.length = 2 /\ ∃ x, vs.head? = some x /\ ∃ n6, x = Z3 n6 /\ ∃ x1, vs.tail.head? = some x1 /\ ∃ b1, x1 = Zb b1 /\ if b1 = true then aI s_0 n1 1 /\ (1 = 1 /\ 1 <= (s_0.getD n1.toNat []).length) /\ K3 (i64.wrap (x6 + 1)) n_0 (s_0.set n1.toNat (Z3 n6 :: zq (qe 1 (s_0.getD n1.toNat [])))) else V1 else V1 else V1 else R (PV.sl n_0 false s_0)
theorem z0c {R : PV -> Prop} (h : znr n f es n2 f2 ss J μ R) : PCall qa 98 [.sl n f es, .sl n2 f2 ss] R :=
 PCall.wz Tryz.func98 aM [0, 1, 4, 5, 6, 7, 8, 9, 13, 30, 44] (bP 3 (aX dM (zdv n f es n2 f2 ss) J μ (fun e h => (gI e 6, oN h 0, oS h 0)) [(5, 21, 1)] [0, 1, 5, 6] [])) h
end
section
variable (n f : Bool) (es : LL) (n2 f2 : Bool) (ss : LL)
def zns (R : PV -> Prop) : Prop :=
 PCall qa 20 [PV.sl n f es, PV.sl n2 f2 ss] fun v => ∃ n1 f1 es1, v = PV.sl n1 f1 es1 /\ PCall qa 98 [PV.sl n f es, PV.sl n1 f1 es1] fun v1 => ∃ n3 f3 es2, v1 = PV.sl n3 f3 es2 /\ R (PV.sl n3 f3 es2)
theorem z0d {R : PV -> Prop} (h : zns n f es n2 f2 ss R) : PCall qa 64 [.sl n f es, .sl n2 f2 ss] R :=
 PCall.wz Tryz.func64 aM [0, 1, 4] aT h
end
end Go.Eng
namespace Go.Eng
open Go Go.Proofs Go.Eng.Rows Go.Eng.Trie Go.Eng.Srt
theorem z0e {r : Int} (hs : bT r = false) : ACall qa 100 [.pv (.int .i32 r)] [] fun r1 h' => r1 = .pv (.sl true true []) /\ h' = [] := by
 refine zhm _ ?_; unfold zD;refine (pIs r).mono ?_;rintro _ rfl;refine ⟨_, rfl, ?_⟩;rw [hs];exact bJ rfl ⟨rfl, rfl⟩
theorem z0f {a b : Int} (ha : -2147483648 <= a /\ a <= 2147483647) (hb : -2147483648 <= b /\ b <= 2147483647) : PCall qa 158 [.int .i32 a, .int .i32 b] fun v => v = kF (eG a b) := by
 refine zz7 _ _ ?_; unfold znm;have wa : i64.wrap a = a := aG (by omega) (by omega);have wb : i64.wrap b = b := aG (by omega) (by omega);rw [wa, wb];refine aC (fun hc => ?_) (fun hc => ?_)
 ·simp only [qb, aB, ge_iff_le] at hc;have w1 : i64.wrap (a - 4352) = a - 4352 := aG (by omega) (by omega);have w2 : i64.wrap ((a - 4352) * 588) = (a - 4352) * 588 := aG (by omega) (by omega);have w3 : i64.wrap (44032 + (a - 4352) * 588) = 44032 + (a - 4352) * 588 := aG (by omega) (by omega);have w4 : i64.wrap (b - 4449) = b - 4449 := aG (by omega) (by omega);have w5 : i64.wrap ((b - 4449) * 28) = (b - 4449) * 28 := aG (by omega) (by omega);rw [w1, w2, w3, w4, w5];have w6 : i64.wrap (44032 + (a - 4352) * 588 + (b - 4449) * 28) = 44032 + (a - 4352) * 588 + (b - 4449) * 28 := aG (by omega) (by omega);rw [w6];have w7 : i32.wrap (44032 + (a - 4352) * 588 + (b - 4449) * 28) = 44032 + (a - 4352) * 588 + (b - 4449) * 28 := cY (by omega) (by omega);rw [w7];unfold eG;rw [if_pos (by omega)];simp only [kF];rw [show 44032 + (a - 4352) * 588 + (b - 4449) * 28 = 44032 + ((a - 4352) * 21 + (b - 4449)) * 28 by omega]
 ·simp only [qb, aB, ge_iff_le] at hc;have hn : ¬ ((4352 <= a /\ a < 4371) /\ 4449 <= b /\ b < 4470) := by omega
  have fin : ∀ (l : List (List PV)), (((l.length : Int) = 2 ↔ (bT a = true /\ (a - 44032) % 28 = 0))) -> (if (((l.length : Int)) == 2 && decide (b >= 4520) && decide (b <= 4546)) = true then (PV.tup [.int .i32 (i32.wrap (a + i32.wrap (b - 4519))), .bool true] : PV) = kF (eG a b) else (PV.tup [.int .i32 0, .bool false] : PV) = kF (eG a b)) := fun l hl => by
   refine aC (fun h2 => ?_) (fun h2 => ?_)
   ·simp only [qb, aB, beq_iff_eq, ge_iff_le] at h2;have hs := hl.1 h2.1.1;have hr := hs.1;simp only [bT, qb, aB] at hr;have w1 : i32.wrap (b - 4519) = b - 4519 := cY (by omega) (by omega);have w2 : i32.wrap (a + (b - 4519)) = a + (b - 4519) := cY (by omega) (by omega);rw [w1, w2];unfold eG; rw [if_neg hn, if_pos ⟨hs, by omega, by omega⟩]; rfl
   ·simp only [qb, aB, beq_iff_eq, ge_iff_le] at h2;unfold eG; rw [if_neg hn, if_neg (fun h => h2 ⟨⟨hl.2 h.1, by omega⟩, by omega⟩)]; rfl
  cases hs : bT a with
  | false =>
    refine (z0e hs).mono ?_;rintro _ _ ⟨rfl, rfl⟩;exact .inr ⟨(true, []), ⟨rfl, rfl⟩, trivial, fin [] (by rw [hs]; simp)⟩
  | true =>
    have hl : ((aA (d6 a)).length : Int) = 2 ↔ (bT a = true /\ (a - 44032) % 28 = 0) := by
     rw [a8, hs];unfold d6;split <;> simp [*]
    refine (zbj hs).mono ?_;rintro r1 h' (⟨nl, rfl, rfl⟩ | ⟨rfl, rfl⟩)
    ·exact .inl ⟨(nl, _), ⟨rfl, rfl⟩, trivial, fin _ hl⟩
    ·exact .inr ⟨(false, _), ⟨rfl, rfl⟩, trivial, fin _ hl⟩
section
variable {rows : List Row}
def pR (o : Option Int) : Int := o.getD 0
theorem z0g (hp : dE rows) (h1 : dY rows) (n f : Bool) {a b : Int} (hl : rows.length < 1000000) (ha : -2147483648 <= a /\ a <= 2147483647) (hb : -2147483648 <= b /\ b <= 2147483647) :
 PCall qa 159 [.sl n f (bB rows), .int .i32 a, .int .i32 b] fun v => v = kF (mM rows a b) := by
 refine zz8 _ _ _ _ _ (fun x8 x9 i => (0 <= i /\ i <= rows.length) /\ x8 = pR ((rows.take i.toNat).foldl (Rows.cmpS rows a b) none) /\ x9 = ((rows.take i.toNat).foldl (Rows.cmpS rows a b) none).isSome) (fun _ _ i => rows.length - i.toNat) ?_;unfold znn;refine ⟨⟨rfl, ⟨qm _, by omega⟩, rfl, rfl⟩, ?_⟩;rintro x8 x9 i ⟨⟨i0, i1⟩, h8, h9⟩;have wa : i64.wrap a = a := aG (by omega) (by omega);have wb : i64.wrap b = b := aG (by omega) (by omega);rw [wa, wb];refine aC (fun hc => ?_) (fun hc => ?_)
 ·simp only [aB, iW] at hc;have hi : i.toNat < rows.length := by omega
  have hw : i64.wrap (i + 1) = i + 1 := aG (by omega) (by omega);have hg : (bB rows).getD i.toNat [] = nJ rows[i.toNat] := bZ hi;have hix : aI (bB rows) i 5 := bQ pD i0 (by omega);have hmem := qo hi
  have hst : (rows.take (i + 1).toNat).foldl (Rows.cmpS rows a b) none = Rows.cmpS rows a b ((rows.take i.toNat).foldl (Rows.cmpS rows a b) none) rows[i.toNat] := by
   rw [show (i + 1).toNat = i.toNat + 1 by omega, cJ hi, qas]; rfl
  rw [hw];generalize (rows.take i.toNat).foldl (Rows.cmpS rows a b) none = o at *;generalize rows[i.toNat] = x at *
  have skip : d7 rows a b x = false -> (0 <= i + 1 /\ i + 1 <= rows.length) /\ x8 = pR ((rows.take (i + 1).toNat).foldl (Rows.cmpS rows a b) none) /\ x9 = ((rows.take (i + 1).toNat).foldl (Rows.cmpS rows a b) none).isSome := fun h => by
   rw [hst]; unfold Rows.cmpS; rw [h]; exact ⟨⟨by omega, by omega⟩, h8, h9⟩
  have hmu : rows.length - (i + 1).toNat < rows.length - i.toNat := by omega
  refine ⟨hix, x.kind, by rw [hg]; rfl, aC (fun c1 => ?_) (fun c1 => ?_)⟩
  ·simp only [bne_iff_ne, ne_eq] at c1;exact ⟨rfl, skip (by simp [d7, c1]), hmu⟩
  simp only [bne_iff_ne, ne_eq, ql] at c1;refine ⟨hix, x.a, by rw [hg]; rfl, aC (fun c2 => ?_) (fun c2 => ?_)⟩
  ·simp only [bne_iff_ne, ne_eq] at c2;exact ⟨rfl, skip (by simp [d7, c2]), hmu⟩
  simp only [bne_iff_ne, ne_eq, ql] at c2;refine ⟨hix, x.b, by rw [hg]; rfl, aC (fun c3 => ?_) (fun c3 => ?_)⟩
  ·simp only [qg, bne_iff_ne, ne_eq, beq_iff_eq] at c3;refine ⟨rfl, skip ?_, hmu⟩;rcases c3 with c3 | c3
   ·simp [d7, c3]
   ·simp [d7, c3]
  simp only [qg, bne_iff_ne, ne_eq, beq_iff_eq, not_or, ql] at c3;obtain ⟨hpx, hfr⟩ := vI h1 hmem c1;have wf : i32.wrap x.fr = x.fr := cY (by omega) (by omega);refine ⟨hix, x.fr, by rw [hg]; rfl, ?_⟩;rw [wf];refine (u4 hp n f x.fr hl (by omega)).mono ?_;rintro _ rfl;rw [hpx, c2, c3.1];refine ⟨_, rfl, rfl, _, rfl, _, rfl, _, rfl, _, rfl, _, rfl, _, rfl, bJ (by simp [c3.2]) ?_⟩;refine (zzo hp n f x.fr hl (by omega)).mono ?_;rintro _ rfl;refine ⟨_, rfl, ?_⟩;cases ho : d0 rows x.fr with
  | true => exact bF (by simp) ⟨rfl, skip (by simp [d7, ho]), hmu⟩
  | false =>
    have hcb : d7 rows a b x = true := by simp [d7, c1, c2, c3.1, c3.2, ho]
    cases o with
    | none =>
      simp only [qbu] at h9;refine bJ (by rw [h9]; rfl) ⟨rfl, ⟨⟨by omega, by omega⟩, ?_, ?_⟩, hmu⟩
      ·rw [hst]; simp [Rows.cmpS, hcb, pR]
      ·rw [hst]; simp [Rows.cmpS, hcb]
    | some r =>
      simp only [qbu] at h9;simp only [pR, Option.getD] at h8;refine aC (fun c4 => ?_) (fun c4 => ?_)
      ·rw [h9, h8] at c4;simp at c4;refine ⟨rfl, ⟨⟨by omega, by omega⟩, ?_, ?_⟩, hmu⟩
       ·rw [hst]; simp [Rows.cmpS, hcb, pR, c4]
       ·rw [hst]; simp [Rows.cmpS, hcb, c4]
      ·rw [h9, h8] at c4;simp at c4;refine ⟨rfl, ⟨⟨by omega, by omega⟩, ?_, ?_⟩, hmu⟩
       ·have hlt : ¬ x.fr < r := by omega
        rw [hst, h8]; simp [Rows.cmpS, hcb, pR, hlt]
       ·rw [hst, h9]; simp [Rows.cmpS, hcb]; split <;> rfl
 ·simp only [aB, iW] at hc;rw [qf (by omega)] at h8 h9;unfold mM;rw [h8, h9];cases rows.foldl (Rows.cmpS rows a b) none <;> rfl
theorem z0h (hp : dE rows) (h1 : dY rows) (n f : Bool) {a b : Int} (hl : rows.length < 1000000) (ha : -2147483648 <= a /\ a <= 2147483647) (hb : -2147483648 <= b /\ b <= 2147483647) :
 PCall qa 127 [.sl n f (bB rows), .int .i32 a, .int .i32 b] fun v => v = kF (fC rows a b) := by
 refine zz9 _ _ _ _ _ ?_; unfold zno;refine (z0f ha hb).mono ?_;rintro _ rfl;unfold fC;cases eG a b with
 | some r => exact ⟨_, rfl, rfl, _, rfl, _, rfl, _, rfl, _, rfl, bJ rfl rfl⟩
 | none =>
   refine ⟨_, rfl, rfl, _, rfl, _, rfl, _, rfl, _, rfl, bF (by simp) ?_⟩;refine (z0g hp h1 n f hl ha hb).mono ?_;rintro _ rfl;cases mM rows a b with
   | none => exact ⟨_, rfl, rfl, _, rfl, _, rfl, _, rfl, _, rfl, rfl⟩
   | some r => exact ⟨_, rfl, rfl, _, rfl, _, rfl, _, rfl, _, rfl, rfl⟩
theorem z0i {st : CSt} (h0 : st.s = none -> st.P = []) (h1 : ∀ a, st.s = some a -> aH rows 1 a = 0) (h2 : ∀ m ∈ st.M, aH rows 1 m ≠ 0) :
 (c8 st = -1 /\ ∀ k (h : k < st.out.length), aH rows 1 st.out[k] ≠ 0) ∨ (∃ k : Nat, c8 st = (k : Int) /\ ∃ h : k < st.out.length, aH rows 1 st.out[k] = 0 /\ ∀ j (hj : j < st.out.length), k < j -> aH rows 1 st.out[j] ≠ 0) := by
 cases hs : st.s with
 | none =>
   have hP := h0 hs;have ho : st.out = st.M := by simp [CSt.out, hs, hP]
   refine .inl ⟨by simp [c8, hs], fun k hk => h2 _ ?_⟩;have := qo hk;rw [<- ho]; exact this
 | some a =>
   have ho : st.out = st.P ++ a :: st.M := by simp [CSt.out, hs]
   refine .inr ⟨st.P.length, by simp [c8, hs], by rw [ho]; simp, ?_, fun j hj hlt => h2 _ ?_⟩
   ·simp only [ho, qaw (qj _), Nat.sub_self, qbd]; exact h1 a hs
   ·simp only [ho];rw [qaw (by omega), List.getElem_cons];rw [dif_neg (by omega)];exact qo _
theorem z0j (n f n2 f2 : Bool) (hl : rows.length < 1000000) (L : List Int) (hr : R32 L) (hL : L.length < 1000000000000) :
 PCall qa 125 [.sl n f (bB rows), .sl n2 f2 (aA L)] fun v => ∃ x : Int, v = .int .i64 x /\ ((x = -1 /\ ∀ k (h : k < L.length), aH rows 1 L[k] ≠ 0) ∨ (∃ k : Nat, x = (k : Int) /\ ∃ h : k < L.length, aH rows 1 L[k] = 0 /\ ∀ j (hj : j < L.length), k < j -> aH rows 1 L[j] ≠ 0)) := by
 refine z0a _ _ _ _ _ _ (fun x => (-1 <= x /\ x < L.length) /\ ∀ j (hj : j < L.length), x < j -> aH rows 1 L[j] ≠ 0) (fun x => (x + 1).toNat) ?_;unfold znp;have hw : i64.wrap ((aA L).length - 1) = L.length - 1 := by rw [a8]; exact aG (by omega) (by omega)
 rw [hw];refine ⟨⟨rfl, ⟨by omega, by omega⟩, fun j hj h => by omega⟩, ?_⟩;rintro x ⟨⟨x0, x1⟩, hx⟩;refine aC (fun hc => ?_) (fun hc => ?_)
 ·simp only [aB, ge_iff_le] at hc;have hi : x.toNat < L.length := by omega
  obtain ⟨g1, g2⟩ := gM hc hi;have hw1 : i64.wrap (x - 1) = x - 1 := aG (by omega) (by omega);refine ⟨g1, L[x.toNat], by rw [g2]; rfl, ?_⟩;refine (uZ n f _ hl (hr _ (qo hi))).mono ?_;rintro _ rfl;refine ⟨_, rfl, ?_⟩;rw [hw1];refine aC (fun h0 => ?_) (fun h0 => ?_)
  ·simp only [beq_iff_eq] at h0;exact ⟨x, rfl, .inr ⟨x.toNat, by omega, hi, h0, fun j hj hlt => hx j hj (by omega)⟩⟩
  ·simp only [beq_iff_eq] at h0;refine ⟨rfl, ⟨⟨by omega, by omega⟩, fun j hj hlt => ?_⟩, by dsimp only; omega⟩;by_cases he : j = x.toNat
   ·subst he; exact h0
   ·exact hx j hj (by omega)
 ·simp only [aB, ge_iff_le] at hc;exact ⟨-1, rfl, .inl ⟨rfl, fun k hk => hx k hk (by omega)⟩⟩
theorem z0k (n f n2 f2 : Bool) (hl : rows.length < 1000000) (L : List Int) (hr : R32 L) (hL : L.length < 1000000000000) (h0 : 0 < L.length) (k : Int) {r : Int} (hx : -2147483648 <= r /\ r <= 2147483647) :
 PCall qa 126 [.sl n f (bB rows), .sl n2 f2 (aA L), .int .i64 k, .int .i32 r] fun v => v = .bool (decide (k = L.length - 1) || decide (dJ (aH rows 1) L < aH rows 1 r)) := by
 refine z0b _ _ _ _ _ _ _ _ ?_; unfold znq;have hw : i64.wrap ((aA L).length - 1) = L.length - 1 := by rw [a8]; exact aG (by omega) (by omega)
 rw [hw];refine aC (fun hc => ?_) (fun hc => ?_)
 ·simp only [beq_iff_eq] at hc; simp [hc]
 ·simp only [beq_iff_eq] at hc;have hi : ((L.length : Int) - 1).toNat < L.length := by omega
  obtain ⟨g1, g2⟩ := gM (l := L) (i := (L.length : Int) - 1) (by omega) hi;refine ⟨g1, L[((L.length : Int) - 1).toNat], by rw [g2]; rfl, ?_⟩;refine (uZ n f _ hl (hr _ (qo hi))).mono ?_;rintro _ rfl;refine ⟨_, rfl, ?_⟩;refine (uZ n f _ hl hx).mono ?_;rintro _ rfl;refine ⟨_, rfl, ?_⟩
  have : dJ (aH rows 1) L = aH rows 1 L[((L.length : Int) - 1).toNat] := by
   unfold dJ;rw [List.getLast?_eq_getElem?, qac (by omega)];simp only;congr 2;omega
  rw [this]; simp [hc]
theorem z0l (hp : dE rows) (h1 : dY rows) (hs0 : ∀ (d : List Int) a, (bM rows d).s = some a -> aH rows 1 a = 0) (n f n2 f2 : Bool) (hl : rows.length < 1000000) (L : List Int) (hr : R32 L) (hL : L.length < 1000000000000) :
 PCall qa 98 [.sl n f (bB rows), .sl n2 f2 (aA L)] fun x => ∃ n f, x = .sl n f (aA (gO rows L)) := by
 refine z0c _ _ _ _ _ _ (fun i _ s => (0 <= i /\ i <= L.length) /\ s = aA (bM rows (L.take i.toNat)).out) (fun i _ _ => L.length - i.toNat) ?_;unfold znr;refine ⟨⟨rfl, ⟨qm _, by omega⟩, rfl⟩, ?_⟩;rintro i n0 _ ⟨⟨i0, i1⟩, rfl⟩;refine aC (fun hc => ?_) (fun hc => ?_)
 ·simp only [aB, a8] at hc;have hi : i.toNat < L.length := by omega
  obtain ⟨g1, g2⟩ := gM i0 hi;have hx := hr _ (qo hi);have hw : i64.wrap (i + 1) = i + 1 := aG (by omega) (by omega);rw [hw];have hlen := zcf rows (L.take i.toNat);have hrng := zcg h1 (L.take i.toNat);have hnz := zlm (rows := rows) (d := L.take i.toNat);have hnP := r8 (rows := rows) (d := L.take i.toNat);have hsk := hs0 (L.take i.toNat);rw [qp] at hlen;unfold gO at hlen hrng
  have next : ∀ st2, cG rows (bM rows (L.take i.toNat)) L[i.toNat] = st2 -> (0 <= i + 1 /\ i + 1 <= L.length) /\ aA st2.out = aA (bM rows (L.take (i + 1).toNat)).out := fun st2 he => by
   rw [show (i + 1).toNat = i.toNat + 1 by omega, cJ hi, gQ, he]; exact ⟨⟨by omega, by omega⟩, rfl⟩
  generalize bM rows (L.take i.toNat) = st at *;have hmu : L.length - (i + 1).toNat < L.length - i.toNat := by omega
  have hr2 : R32 st.out := fun y hy => by
   rcases hrng y hy with h | h
   ·exact hr y (qu h)
   ·omega
  have hsz : aR [[PV.int .i32 L[i.toNat]]] 1 /\ ((aA st.out).length + 1) * 4 <= 140737488355328 := ⟨cZ [_], by rw [a8]; omega⟩
  have app : cG rows st L[i.toNat] = cQ (aH rows 1) st L[i.toNat] -> (0 <= i + 1 /\ i + 1 <= L.length) /\ aA st.out ++ [[PV.int .i32 L[i.toNat]]] = aA (bM rows (L.take (i + 1).toNat)).out := fun he => by
   obtain ⟨k1, k2⟩ := next _ he
   rw [mN, fO] at k2;exact ⟨k1, k2⟩
  refine (z0j n f n0 false hl st.out hr2 (by omega)).mono ?_;rintro _ ⟨x, rfl, hst⟩
  have hxs : x = c8 st := by
   rcases z0i hnP hsk hnz with ⟨e, h⟩ | ⟨k, e, hk, h, h'⟩
   ·rcases hst with ⟨e2, _⟩ | ⟨k2, e2, hk2, q, _⟩
    ·omega
    ·exact absurd q (h k2 hk2)
   ·rcases hst with ⟨e2, q⟩ | ⟨k2, e2, hk2, q, q'⟩
    ·exact absurd h (q k hk)
    ·rcases Nat.lt_trichotomy k k2 with hlt | rfl | hlt
     ·exact absurd q (h' k2 hk2 hlt)
     ·omega
     ·exact absurd h (q' k hk hlt)
  clear hst;subst hxs;refine ⟨_, rfl, rfl, aC (fun hf => ?_) (fun hf => ?_)⟩
  ·simp only [aB, ge_iff_le] at hf;cases hs : st.s with
   | none => simp [c8, hs] at hf
   | some a =>
     have hsi : c8 st = st.P.length := by simp [c8, hs]
     have hol : st.out.length = st.P.length + 1 + st.M.length := by simp [CSt.out, hs]; omega
     refine ⟨g1, L[i.toNat], by rw [g2]; rfl, ?_⟩;refine (z0k n f n0 false hl st.out hr2 (by omega) (by omega) (c8 st) hx).mono ?_;rintro _ rfl
     have hfree : (decide (c8 st = st.out.length - 1) || decide (dJ (aH rows 1) st.out < aH rows 1 L[i.toNat])) = true ↔ (st.M = [] ∨ dJ (aH rows 1) st.M < aH rows 1 L[i.toNat]) := by
      simp only [qg, aB];by_cases hM : st.M = []
      ·refine ⟨fun _ => .inl hM, fun _ => .inl ?_⟩;rw [hsi, hol, hM]; simp
      ·obtain ⟨D, m, hDm⟩ := (List.eq_nil_or_concat _).resolve_left hM
       have e : dJ (aH rows 1) st.out = dJ (aH rows 1) st.M := by
        have e2 : st.out = (st.P ++ a :: D) ++ [m] := by simp [CSt.out, hDm, hs]
        rw [e2, hDm, List.concat_eq_append, r7, r7]
       rw [e];refine or_congr ⟨fun h => ?_, fun h => absurd h hM⟩ Iff.rfl;rw [hsi, hol] at h;exact qag (by omega)
     refine ⟨_, rfl, rfl, aC (fun hfr => ?_) (fun hfr => ?_)⟩
     ·have hfr := hfree.1 hfr;have hat : st.out[st.P.length]'(by omega) = a := by simp [CSt.out, hs]
      obtain ⟨k1, k2⟩ := gM (l := st.out) (i := c8 st) (by omega) (by omega);have hta : (c8 st).toNat = st.P.length := by omega
      have k3 : (aA st.out).getD (c8 st).toNat [] = [PV.int .i32 a] := by
       rw [k2]; simp only [hta, hat]
      have ha : -2147483648 <= a /\ a <= 2147483647 := hr2 a (by simp [CSt.out, hs]);refine ⟨k1, a, by rw [k3]; rfl, g1, L[i.toNat], by rw [g2]; rfl, ?_⟩;refine (z0h hp h1 n f hl ha hx).mono ?_;rintro _ rfl;cases hpc : fC rows a L[i.toNat] with
      | some c =>
        refine ⟨_, rfl, rfl, _, rfl, _, rfl, _, rfl, _, rfl, bJ rfl ⟨k1, ⟨rfl, by rw [k3]; exact qj _⟩, rfl, ?_, by dsimp only; omega⟩⟩;rw [k3, hta]
        have he : cG rows st L[i.toNat] = ⟨st.P, some c, st.M⟩ := by
         unfold cG; rw [hs]; simp only; rw [if_pos hfr, hpc]
        have e2 : (aA st.out).set st.P.length [PV.int .i32 c] = aA (CSt.out ⟨st.P, some c, st.M⟩) := by
         simp [CSt.out, hs, aA]
        obtain ⟨q1, q2⟩ := next _ he
        exact ⟨q1, e2.trans q2⟩
      | none =>
        have he : cG rows st L[i.toNat] = cQ (aH rows 1) st L[i.toNat] := by
         unfold cG; rw [hs]; simp only; rw [if_pos hfr, hpc]
        exact ⟨_, rfl, rfl, _, rfl, _, rfl, _, rfl, _, rfl, bF (by simp) ⟨g1, L[i.toNat], by rw [g2]; rfl, hsz, rfl, app he, by dsimp only; omega⟩⟩
     ·have hfr := fun h => hfr (hfree.2 h)
      have he : cG rows st L[i.toNat] = cQ (aH rows 1) st L[i.toNat] := by
       unfold cG; rw [hs]; simp only; rw [if_neg hfr]
      exact ⟨g1, L[i.toNat], by rw [g2]; rfl, hsz, rfl, app he, by dsimp only; omega⟩
  ·simp only [aB, ge_iff_le] at hf
   have hs : st.s = none := by
    cases hs : st.s with
    | none => rfl
    | some a => exact absurd (by simp [c8, hs]) hf
   have he : cG rows st L[i.toNat] = cQ (aH rows 1) st L[i.toNat] := by
    unfold cG; rw [hs]
   exact ⟨g1, L[i.toNat], by rw [g2]; rfl, hsz, rfl, app he, by dsimp only; omega⟩
 ·simp only [aB, a8] at hc;rw [qf (by omega)];exact ⟨_, _, rfl⟩
theorem z0m (hp : dE rows) (h1 : dY rows) (hk : eK rows) (hs0 : ∀ (d : List Int) a, (bM rows d).s = some a -> aH rows 1 a = 0) (n f n2 f2 : Bool) (hl : rows.length < 1000000) (L : List Int) (hr : R32 L) (hL : L.length < 1000000) :
 PCall qa 64 [.sl n f (bB rows), .sl n2 f2 (aA L)] fun x => ∃ n f, x = .sl n f (aA (dN rows L)) := by
 refine z0d _ _ _ _ _ _ ?_; unfold zns;refine (zxa hp hk n f n2 f2 hl L hr hL).mono ?_;rintro _ ⟨n1, f1, rfl⟩;refine ⟨_, _, _, rfl, ?_⟩;refine (z0l hp h1 hs0 n f n1 f1 hl _ (zb8 hk hp hr) (zld hk hL)).mono ?_;rintro _ ⟨n3, f3, rfl⟩;exact ⟨_, _, _, rfl, _, _, rfl⟩
end
end Go.Eng
namespace Go.Eng.Rows
open Go Go.Eng Go.Eng.Trie Go.Eng.Srt
def z0n (rows : List Row) (a b : Int) : Bool := rows.all fun x => !decide (x.kind = 1) || (decide (x.to < a) || decide (b < x.fr))
theorem z0o {rows : List Row} {a b r : Int} (h : z0n rows a b = true) (h1 : a <= r) (h2 : r <= b) : aH rows 1 r = 0 := by
 unfold aH;cases hf : bR rows 1 r with
 | none => rfl
 | some p =>
   obtain ⟨x, hx, hk, _, _, f1, f2, _⟩ := iF hf;have := List.all_eq_true.1 h x hx;simp only [hk, decide_true, qal, qae, qg, aB] at this;omega
end Go.Eng.Rows
namespace Go.Eng
open Go Go.Proofs Go.Eng.Rows Go.Eng.Trie
theorem z0p : ∀ r, bT r = true -> aH tab 1 r = 0 := fun r hs => by
 simp only [bT, qb, aB] at hs;exact z0o (a := 44032) (b := 55203) (by kernel_rfl) hs.1 hs.2
theorem z0q : ∀ (d : List Int) a, (bM tab d).s = some a -> aH tab 1 a = 0 := zz6 zb4 z0p
end Go.Eng
namespace Go.Eng
open Go Go.Proofs Go.Eng.Rows Go.Eng.Trie Go.Eng.Srt
end Go.Eng
namespace Go.Eng
open Go Go.Proofs
def zdw (n f : Bool) (es : LL) (n2 f2 : Bool) (ss : LL) (x17 : Int) : Env × Hp := ([(1, LV.pv (PV.sl n2 f2 ss)), (2, LV.pv (PV.fn 69 [])), (15, LV.pv (PV.sl n f es)), (16, LV.pv (PV.int i64 (es.length : Int))), (17, Y6 x17)], [])
section
variable (n f : Bool) (es : LL) (n2 f2 : Bool) (ss : LL) (J : Int -> Prop) (μ : Int -> Nat)
def znt (R : PV -> Prop) : Prop :=
 if ((↑es.length : Int) != (↑ss.length : Int)) = true then R (Zb false) else (aF (zdw n f es n2 f2 ss (0 : Int)) /\ J (0 : Int)) /\ ∀ (x17 : Int), J x17 -> if decide (x17 < (↑es.length : Int)) = true then aI es x17 1 /\ ∃ n1 f1 es1, (es.getD x17.toNat []).head? = some (PV.sl n1 f1 es1) /\ aI ss x17 1 /\ ∃ n3 f3 es2, (ss.getD x17.toNat []).head? = some (PV.sl n3 f3 es2) /\ PCall qa 69 [PV.sl n1 f1 es1, PV.sl n3 f3 es2] fun v => ∃ b, v = Zb b /\ if (!b) = true then R (Zb false) else aF (zdw n f es n2 f2 ss (i64.wrap (x17 + 1))) /\ J (i64.wrap (x17 + 1)) /\ μ (i64.wrap (x17 + 1)) < μ x17 else R (Zb true)
theorem z0r {R : PV -> Prop} (h : znt n f es n2 f2 ss J μ R) : PCall qa 71 [.sl n f es, .sl n2 f2 ss, .fn 69 []] R :=
 PCall.wz Tryz.func71 aM [0, 1, 2, 6, 7, 8, 9, 14, 15, 16, 17, 18, 30] (bP 4 (aX iU (zdw n f es n2 f2 ss) J μ (fun e h => (((gI e 17), ()))) [] [1, 2, 15, 16, 17] [])) h
end
section
variable (n f : Bool) (es : LL) (tc tg tj tf tp : PV) (M S : List (PV × PV)) (n2 f2 : Bool) (ss : LL)
def znu (R : PV -> Prop) : Prop :=
 (∃ ps, some (PV.ptr [tc, tg, tj, tf, tp, PV.mp M, PV.mp S]) = some (PV.ptr ps) /\ ∃ n1 f1 es1, some (PV.sl n2 f2 ss) = some (PV.sl n1 f1 es1) /\ PCall qa 60 [PV.ptr ps, PV.sl n1 f1 es1] fun v => ∃ n3 f3 es2, v = PV.sl n3 f3 es2 /\ PCall qa 69 [PV.sl n f es, PV.sl n3 f3 es2] fun v1 => ∃ b, v1 = Zb b /\ R (Zb b)) ∨ some (PV.ptr [tc, tg, tj, tf, tp, PV.mp M, PV.mp S]) = some PV.nilp /\ ∃ n1 f1 es1, some (PV.sl n2 f2 ss) = some (PV.sl n1 f1 es1) /\ PCall qa 60 [PV.nilp, PV.sl n1 f1 es1] fun v => ∃ n3 f3 es2, v = PV.sl n3 f3 es2 /\ PCall qa 69 [PV.sl n f es, PV.sl n3 f3 es2] fun v1 => ∃ b, v1 = Zb b /\ R (Zb b)
theorem z0s {R : PV -> Prop} (h : znu n f es tc tg tj tf tp M S n2 f2 ss R) : PCall qa 75 [.sl n f es, .ptr [.ptr [tc, tg, tj, tf, tp, .mp M, .mp S]], .ptr [.sl n2 f2 ss]] R :=
 PCall.wz Tryz.func75 aM [0, 1, 2, 4] aT h
end
def zdx (n f : Bool) (es : LL) (A B : PV) (x8 : Int) : Env × Hp := ([(0, LV.pv (PV.sl n f es)), (1, LV.pv (PV.fn 75 [PV.ptr [A], PV.ptr [B]])), (7, LV.pv (PV.int i64 (es.length : Int))), (8, Y6 x8)], [])
section
variable (n f : Bool) (es : LL) (A B : PV) (J : Int -> Prop) (μ : Int -> Nat)
def znv (R : PV -> Prop) : Prop :=
 (aF (zdx n f es A B (0 : Int)) /\ J (0 : Int)) /\ ∀ (x8 : Int), J x8 -> if decide (x8 < (↑es.length : Int)) = true then aI es x8 1 /\ ∃ n1 f1 es1, (es.getD x8.toNat []).head? = some (PV.sl n1 f1 es1) /\ PCall qa 75 [PV.sl n1 f1 es1, PV.ptr [A], PV.ptr [B]] fun v => ∃ b, v = Zb b /\ if b = true then R (Z6 x8) else aF (zdx n f es A B (i64.wrap (x8 + 1))) /\ J (i64.wrap (x8 + 1)) /\ μ (i64.wrap (x8 + 1)) < μ x8 else R (Z6 (-1 : Int))
theorem z0t {R : PV -> Prop} (h : znv n f es A B J μ R) : PCall qa 106 [.sl n f es, .fn 75 [.ptr [A], .ptr [B]]] R :=
 PCall.wz Tryz.func106 aM [0, 1, 4, 5, 7, 8, 9, 16] (bP 2 (aX iU (zdx n f es A B) J μ (fun e h => (((gI e 8), ()))) [] [0, 1, 7, 8] [])) h
end
section
variable (n f : Bool) (es : LL) (A B : PV)
def znw (R : PV -> Prop) : Prop :=
 PCall qa 106 [PV.sl n f es, PV.fn 75 [PV.ptr [A], PV.ptr [B]]] fun v => ∃ n1, v = Z6 n1 /\ R (Zb (decide (n1 >= 0)))
theorem z0u {R : PV -> Prop} (h : znw n f es A B R) : PCall qa 74 [.sl n f es, .fn 75 [.ptr [A], .ptr [B]]] R :=
 PCall.wz Tryz.func74 aM [0, 1, 4] aT h
end
section
variable (tc tg tj tf tp : PV) (M S : List (PV × PV)) (n f : Bool) (es : LL)
def znx (R : PV -> Prop) : Prop :=
 PCall qa 60 [PV.ptr [tc, tg, tj, tf, tp, PV.mp M, PV.mp S], PV.sl n f es] fun v => ∃ n1 f1 es1, v = PV.sl n1 f1 es1 /\ PCall qa 59 [PV.ptr [tc, tg, tj, tf, tp, PV.mp M, PV.mp S], PV.sl n1 f1 es1] fun v1 => ∃ n2 f2 es2, v1 = PV.sl n2 f2 es2 /\ R (PV.sl n2 f2 es2)
theorem z0v {R : PV -> Prop} (h : znx tc tg tj tf tp M S n f es R) : PCall qa 68 [.ptr [tc, tg, tj, tf, tp, .mp M, .mp S], .sl n f es] R :=
 PCall.wz Tryz.func68 aM [0, 1, 4] aT h
end
section
variable (tc tg tj tf tp : PV) (M S : List (PV × PV)) (n f : Bool) (es : LL) (n2 f2 : Bool) (ss : LL)
def zny (R : PV -> Prop) : Prop :=
 PCall qa 68 [PV.ptr [tc, tg, tj, tf, tp, PV.mp M, PV.mp S], PV.sl n f es] fun v => ∃ n1 f1 es1, v = PV.sl n1 f1 es1 /\ PCall qa 68 [PV.ptr [tc, tg, tj, tf, tp, PV.mp M, PV.mp S], PV.sl n2 f2 ss] fun v1 => ∃ n3 f3 es2, v1 = PV.sl n3 f3 es2 /\ if decide ((↑es1.length : Int) >= (↑es2.length : Int)) = true then (cU es1.length none (some (↑es2.length : Int)) none /\ aR es1 1) /\ PCall qa 71 [PV.sl n1 (f1 && decide ((↑es2.length : Int) = (↑es1.length : Int))) (qe 0 (qi (↑es2.length : Int).toNat es1)), PV.sl n3 f3 es2, PV.fn 69 []] fun v2 => ∃ b, v2 = Zb b /\ R (Zb b) else R (Zb false)
theorem z0w {R : PV -> Prop} (h : zny tc tg tj tf tp M S n f es n2 f2 ss R) : PCall qa 27 [.ptr [tc, tg, tj, tf, tp, .mp M, .mp S], .sl n f es, .sl n2 f2 ss] R :=
 PCall.wz Tryz.func27 aM [0, 1, 2, 6, 7, 8] aT h
end
def zdy (tc tg tj tf tp : PV) (M S : List (PV × PV)) (n f : Bool) (es : LL) (n5 f5 : Bool) (s5 : LL) (x21 : Int) : Env × Hp := ([(0, LV.pv (PV.ptr [tc, tg, tj, tf, tp, PV.mp M, PV.mp S])), (5, .pv (.sl n5 f5 s5)), (19, LV.pv (PV.sl n (f && decide ((es.length : Int) = (es.length : Int))) (qe 1 (qi ((es.length : Int)).toNat es)))), (20, LV.pv (PV.int i64 ↑(qe 1 (qi ((es.length : Int)).toNat es)).length)), (21, Y6 x21)], [])
def zdz (tc tg tj tf tp : PV) (M S : List (PV × PV)) (n f : Bool) (es : LL) (n5 f5 : Bool) (s5 : LL) (n8 f8 : Bool) (s8 : LL) (x9 x21 : Int) : Env × Hp := ([(0, LV.pv (PV.ptr [tc, tg, tj, tf, tp, PV.mp M, PV.mp S])), (5, .pv (.sl n5 f5 s5)), (8, .pv (.sl n8 f8 s8)), (9, Y6 x9), (19, LV.pv (PV.sl n (f && decide ((es.length : Int) = (es.length : Int))) (qe 1 (qi ((es.length : Int)).toNat es)))), (20, LV.pv (PV.int i64 ↑(qe 1 (qi ((es.length : Int)).toNat es)).length)), (21, Y6 x21)], [])
section
variable (tc tg tj tf tp : PV) (M S : List (PV × PV)) (n f : Bool) (es : LL) (J : Bool -> Bool -> LL -> Int -> Prop) (μ : Bool -> Bool -> LL -> Int -> Nat) (J2 : Bool -> Bool -> LL -> Bool -> Bool -> LL -> Int -> Int -> Bool -> Bool -> LL -> Bool -> Bool -> LL -> Int -> Int -> Prop) (μ2 : Bool -> Bool -> LL -> Bool -> Bool -> LL -> Int -> Int -> Nat)
def znz (R : PV -> Prop) : Prop :=
 if ((↑es.length : Int) == 0) = true then R (PV.sl true true []) else aI es (0 : Int) 1 /\ ∃ n1 f1 es1, (es.getD 0 []).head? = some (PV.sl n1 f1 es1) /\ PCall qa 68 [PV.ptr [tc, tg, tj, tf, tp, PV.mp
  M, PV.mp S], PV.sl n1 f1 es1] fun v => ∃ n2 f2 es2, v = PV.sl n2 f2 es2 /\ (cU es.length (some (1 : Int)) none none /\ aR es 1) /\ (aF (zdy tc tg tj tf tp M S n f es n2 f2 es2 (0 : Int)) /\ J n2
  f2 es2 (0 : Int)) /\ ∀ (n5 f5 : Bool) (s5 : LL) (x21 : Int), J n5 f5 s5 x21 -> if decide (x21 < (↑(qe 1 (qi (↑es.length : Int).toNat es)).length : Int)) = true then aI (qe 1 (qi (↑es.length : Int).toNat es))
  x21 1 /\ ∃ n3 f3 es3, ((qe 1 (qi (↑es.length : Int).toNat es)).getD x21.toNat []).head? = some (PV.sl n3 f3 es3) /\ PCall qa 68 [PV.ptr [tc, tg, tj, tf, tp, PV.mp M, PV.mp S], PV.sl n3 f3
  es3] fun v1 => ∃ n4 f4 es4, v1 = PV.sl n4 f4 es4 /\ (aF (zdz tc tg tj tf tp M S n f es n5 f5 s5 n4 f4 es4 (0 : Int) x21) /\ J2 n5 f5 s5 n4 f4 es4 (0 : Int) x21 n5 f5 s5 n4 f4 es4 (0 : Int) x21) /\ ∀
  (n51 f51 : Bool) (s51 : LL) (n8 f8 : Bool) (s8 : LL) (x9 x211 : Int), J2 n5 f5 s5 n4 f4 es4 (0 : Int) x21 n51 f51 s51 n8 f8 s8 x9 x211 ->
 let V1 := (cU s51.length none (some x9) none /\ aR s51 1) /\ aF (zdy tc tg tj tf tp M S n f es n51 (f51 && decide (x9 = (↑s51.length : Int))) (qe 0 (qi x9.toNat s51)) (i64.wrap (x211 + 1))) /\ J n51 (f51 &&
  decide (x9 = (↑s51.length : Int))) (qe 0 (qi x9.toNat s51)) (i64.wrap (x211 + 1)) /\ μ n51 (f51 && decide (x9 = (↑s51.length : Int))) (qe 0 (qi x9.toNat s51)) (i64.wrap (x211 + 1)) < μ n5 f5 s5
  x21; if (decide (x9 < (↑s51.length : Int)) && decide (x9 < (↑s8.length : Int))) = true then aI s51 x9 1 /\ ∃ n6 f6 es5, (s51.getD x9.toNat []).head? = some (PV.sl n6 f6 es5) /\ aI s8 x9 1 /\ ∃ (n7 :
  Bool), ∃ f7 es6, (s8.getD x9.toNat []).head? = some (PV.sl n7 f7 es6) /\ PCall qa 69 [PV.sl n6 f6 es5, PV.sl n7 f7 es6] fun v2 => ∃ b, v2 = Zb b /\ if b = true then aF (zdz tc tg tj tf tp M S n
  f es n51 f51 s51 n8 f8 s8 (i64.wrap (x9 + 1)) x211) /\ J2 n5 f5 s5 n4 f4 es4 (0 : Int) x21 n51 f51 s51 n8 f8 s8 (i64.wrap (x9 + 1)) x211 /\ μ2 n51 f51 s51 n8 f8 s8 (i64.wrap (x9 + 1)) x211 < μ2 n51 f51 s51 n8 f8 s8
  x9 x211 else V1 else V1 else PCall qa 70 [PV.sl n5 f5 s5] fun v1 => ∃ n3 f3 es3, v1 = PV.sl n3 f3 es3 /\ R (PV.sl n3 f3 es3)
theorem z0x {R : PV -> Prop} (h : znz tc tg tj tf tp M S n f es J μ J2 μ2 R) : PCall qa 26 [.ptr [tc, tg, tj, tf, tp, .mp M, .mp S], .sl n f es] R :=
 PCall.wz Tryz.func26 aM [0, 1, 4, 5, 7, 8, 9, 12, 19, 20, 21, 22, 48] (fJ [(5, (aX gK (zdy tc tg tj tf tp M S n f es) J μ (fun e h => (gN e 5, gF e 5, gS e 5, gI e 21)) [] [0, 5, 19, 20, 21] [])), (9, (gL cz8 (zdz tc tg tj tf tp M S n f es) J2 μ2 (fun e h => (gN e 5, gF e 5, gS e 5, gN e 8, gF e 8, gS e 8, gI e 9, gI e 21)) [] [0, 5, 8, 9, 19, 20, 21] []))]) h
end
def sC (tc tg tj tf tp : PV) (M S : List (PV × PV)) (k : Int) (n2 f2 : Bool) (ss : LL) (n13 f13 : Bool) (s13 : LL) (x63 h2_0 : Int) (n_3 : Bool) (s_3 : LL) : Env × Hp := ([(4, LV.box 0 0), (8, LV.box 1 0), (13, .pv (.sl n13 f13 s13)), (14, LV.box 2 0), (61, LV.pv (PV.sl n2 f2 ss)), (62, LV.pv (PV.int i64 (ss.length : Int))), (63, Y6 x63)], [.box [LV.pv (PV.ptr [tc, tg, tj, tf, tp, PV.mp M, PV.mp S])], .box [Y6 0, Y6 0, LV.pv (PV.sl true true []), LV.pv (PV.sl true true [])], .box [Y6 h2_0, Y6 k, LV.pv (PV.sl true true []), LV.own 3], .sl (22, 1) true n_3 s_3])
section
variable (tc tg tj tf tp : PV) (M S : List (PV × PV)) (n f : Bool) (es : LL) (k : Int) (n2 f2 : Bool) (ss : LL) (J : Bool -> Bool -> LL -> Int -> Int -> Bool -> LL -> Prop) (μ : Bool -> Bool -> LL -> Int -> Int -> Bool -> LL -> Nat)
def zn0 (R : PV -> Prop) : Prop :=
 if (decide (k < 0) || decide (k > (↑es.length : Int))) = true then R (PV.tup [PV.agg [Z6 0, Z6 0, PV.sl true true [], PV.sl true true []], Zb false]) else (cU es.length none (some k) none /\ aR es 1) /\ PCall qa 73 [PV.ptr [tc,
  tg, tj, tf, tp, PV.mp M, PV.mp S], PV.sl n (f && decide (k = (↑es.length : Int))) (qe 0 (qi k.toNat es))] fun v => ∃ n1 f1 es1, v = PV.sl n1 f1 es1 /\
 let V1 := (cU es.length (some k) (some k) none /\ aR es 1) /\ (aF (sC tc tg tj tf tp M S k n2 f2 ss n (f && decide (k = (↑es.length : Int))) (qe k.toNat (qi k.toNat es)) (0 : Int) k true []) /\ J n (f && decide (k =
  (↑es.length : Int))) (qe k.toNat (qi k.toNat es)) (0 : Int) k true []) /\ ∀ (n13 f13 : Bool) (s13 : LL) (x63 h2_0 : Int) (n_3 : Bool) (s_3 : LL), J n13 f13 s13 x63 h2_0 n_3 s_3 ->
 let K11 := fun (y0_ y1_ : Bool) (y2_ : LL) (y3_ y4_ : Int) (y5_ : Bool) (y6_ : LL) => aF (sC tc tg tj tf tp M S k n2 f2 ss y0_ y1_ y2_ y3_ y4_ y5_ y6_) /\ J y0_ y1_ y2_ y3_ y4_ y5_ y6_ /\ μ y0_ y1_ y2_ y3_ y4_ y5_ y6_
  < μ n13 f13 s13 x63 h2_0 n_3 s_3; if decide (x63 < (↑ss.length : Int)) = true then aI ss x63 1 /\ ∃ n4 f3 es2, (ss.getD x63.toNat []).head? = some (PV.sl n4 f3 es2) /\ PCall qa 27 [PV.ptr [tc, tg,
  tj, tf, tp, PV.mp M, PV.mp S], PV.sl n4 f3 es2, PV.sl n13 f13 s13] fun v1 => ∃ b, v1 = Zb b /\
 let V2 := K11 n13 f13 s13 (i64.wrap (x63 + 1)) h2_0 n_3 s_3; if b = true then PCall qa 74 [PV.sl n_3 false s_3, PV.fn 75 [PV.ptr [PV.ptr [tc, tg, tj, tf, tp, PV.mp M, PV.mp S]], PV.ptr [PV.sl n4 f3 es2]]] fun v2 => ∃
  (b1 : Bool), v2 = Zb b1 /\ true = true /\ if (!b1) = true then PCall qa 60 [PV.ptr [tc, tg, tj, tf, tp, PV.mp M, PV.mp S], PV.sl n4 f3 es2] fun v3 => ∃ n5 f4 es3, v3 = PV.sl n5 f4 es3 /\ (aR
  [[PV.sl n5 f4 es3]] 1 /\ (s_3.length + 1) * 24 <= 140737488355328) /\ K11 n13 f13 s13 (i64.wrap (x63 + 1)) h2_0 (n_3 && false) (s_3 ++ [[PV.sl n5 f4 es3]]) else V2 else V2 else if ((↑s_3.length : Int) == 0) = true then R (PV.tup
  [PV.agg [Z6 0, Z6 0, PV.sl true true [], PV.sl true true []], Zb false]) else PCall qa 26 [PV.ptr [tc, tg, tj, tf, tp, PV.mp M, PV.mp S], PV.sl n_3 false s_3] fun v1 => ∃ n4 f3 es2, v1 = PV.sl
  n4 f3 es2 /\ R (PV.tup [PV.agg [Z6 h2_0, Z6 k, PV.sl n4 f3 es2, PV.sl n_3 false s_3], Zb true]); if decide ((↑es1.length : Int) > 0) = true then aI es1 (i64.wrap ((↑es1.length : Int) - 1)) 2 /\ ((0 : Int) <= 1 /\ (1 : Int) < (↑2 :
  Int)) /\ ∃ n3, (qe 1 (es1.getD (i64.wrap ((↑es1.length : Int) - 1)).toNat [])).head? = some (Z6 n3) /\ if (n3 == k) = true then aI es1 (i64.wrap ((↑es1.length : Int) - 1)) 2 /\ ((0 : Int) <= 0 /\ (0 : Int) <
  (↑2 : Int)) /\ ∃ n4, (qe 0 (es1.getD (i64.wrap ((↑es1.length : Int) - 1)).toNat [])).head? = some (Z6 n4) /\ (cU es.length (some n4) (some k) none /\ aR es 1) /\ (aF (sC tc tg tj tf tp M S k n2 f2 ss n (f &&
  decide (k = (↑es.length : Int))) (qe n4.toNat (qi k.toNat es)) (0 : Int) n4 true []) /\ J n (f && decide (k = (↑es.length : Int))) (qe n4.toNat (qi k.toNat es)) (0 : Int) n4 true []) /\ ∀ (n13 f13 : Bool) (s13 :
  LL) (x63 h2_0 : Int) (n_3 : Bool) (s_3 : LL), J n13 f13 s13 x63 h2_0 n_3 s_3 ->
 let K11 := fun (y0_ y1_ : Bool) (y2_ : LL) (y3_ y4_ : Int) (y5_ : Bool) (y6_ : LL) => aF (sC tc tg tj tf tp M S k n2 f2 ss y0_ y1_ y2_ y3_ y4_ y5_ y6_) /\ J y0_ y1_ y2_ y3_ y4_ y5_ y6_ /\ μ y0_ y1_ y2_ y3_ y4_ y5_ y6_
  < μ n13 f13 s13 x63 h2_0 n_3 s_3; if decide (x63 < (↑ss.length : Int)) = true then aI ss x63 1 /\ ∃ n5 f3 es2, (ss.getD x63.toNat []).head? = some (PV.sl n5 f3 es2) /\ PCall qa 27 [PV.ptr [tc, tg,
  tj, tf, tp, PV.mp M, PV.mp S], PV.sl n5 f3 es2, PV.sl n13 f13 s13] fun v1 => ∃ b, v1 = Zb b /\
 let V3 := K11 n13 f13 s13 (i64.wrap (x63 + 1)) h2_0 n_3 s_3; if b = true then PCall qa 74 [PV.sl n_3 false s_3, PV.fn 75 [PV.ptr [PV.ptr [tc, tg, tj, tf, tp, PV.mp M, PV.mp S]], PV.ptr [PV.sl n5 f3 es2]]] fun v2 => ∃
  (b1 : Bool), v2 = Zb b1 /\ true = true /\ if (!b1) = true then PCall qa 60 [PV.ptr [tc, tg, tj, tf, tp, PV.mp M, PV.mp S], PV.sl n5 f3 es2] fun v3 => ∃ n6 f4 es3, v3 = PV.sl n6 f4 es3 /\ (aR
  [[PV.sl n6 f4 es3]] 1 /\ (s_3.length + 1) * (24 : Nat) <= 140737488355328) /\ K11 n13 f13 s13 (i64.wrap (x63 + 1)) h2_0 (n_3 && false) (s_3 ++ [[PV.sl n6 f4 es3]]) else V3 else V3 else if ((↑s_3.length : Int) == 0) = true then R
  (PV.tup [PV.agg [Z6 0, Z6 0, PV.sl true true [], PV.sl true true []], Zb false]) else PCall qa 26 [PV.ptr [tc, tg, tj, tf, tp, PV.mp M, PV.mp S], PV.sl n_3 false s_3] fun v1 => ∃ n5 f3 es2, v1
  = PV.sl n5 f3 es2 /\ R (PV.tup [PV.agg [Z6 h2_0, Z6 k, PV.sl n5 f3 es2, PV.sl n_3 false s_3], Zb true]) else V1 else V1
theorem z0y {R : PV -> Prop} (h : zn0 tc tg tj tf tp M S n f es k n2 f2 ss J μ R) : PCall qa 31 [.ptr [tc, tg, tj, tf, tp, .mp M, .mp S], .sl n f es, .int .i64 k, .sl n2 f2 ss] R :=
 PCall.wz Tryz.func31 aM [0, 1, 2, 3, 4, 8, 9, 10, 11, 12, 13, 14, 16, 24, 46, 61, 62, 63, 64, 77, 90] (bP 11 (aX cz7 (sC tc tg tj tf tp M S k n2 f2 ss) J μ (fun e h => (gN e 13, gF e 13, gS e 13, gI e 63, hI h 2 0, oN h 3, oS h 3)) [(1002003, 22, 1)] [4, 8, 13, 14, 61, 62, 63] [])) h
end
section
variable (a b : Int) (n f : Bool) (es : LL) (n2 f2 : Bool) (ss : LL) (tc tg tj tf tp : PV) (M S : List (PV × PV)) (n3 f3 : Bool) (s3 : LL)
def zn1 (R : PV -> Prop) : Prop :=
 if decide (a < 0) = true then R (PV.tup [PV.sl true true [], Z6 0, Z6 2]) else if decide (a > b) = true then R (PV.tup [PV.sl true true [], Z6 0, Z6 2]) else if decide (b > (↑s3.length : Int)) = true then R (PV.tup [PV.sl true true [], Z6 0, Z6 2]) else (cU s3.length none (some a) none /\ aR s3 1) /\ (cU s3.length (some b) none none /\ aR s3 1) /\ PCall qa 70 [PV.sl false true [[PV.sl n3 (f3 && decide (a = (↑s3.length : Int))) (qe 0 (qi a.toNat s3))], [PV.sl n f es], [PV.sl n3 (f3 && decide ((↑s3.length : Int) = (↑s3.length : Int))) (qe b.toNat (qi (↑s3.length : Int).toNat s3))]]] fun v => ∃ n1 f1 es1, v = PV.sl n1 f1 es1 /\ if decide ((↑es1.length : Int) > 65536) = true then R (PV.tup [PV.sl true true [], Z6 0, Z6 3]) else R (PV.tup [PV.sl n1 f1 es1, Z6 (i64.wrap (a + (↑es.length : Int))), Z6 0])
theorem z0z {R : PV -> Prop} (h : zn1 a b n f es n3 f3 s3 R) : PCall qa 33 [.agg [.int .i64 a, .int .i64 b, .sl n f es, .sl n2 f2 ss], .ptr [tc, tg, tj, tf, tp, .mp M, .mp S], .sl n3 f3 s3] R :=
 PCall.wz Tryz.func33 aM [0, 2, 3, 6, 7, 8, 9, 26, 41] aT h
end
def zd0 (tc tg tj tf tp : PV) (M S : List (PV × PV)) (n f : Bool) (es : LL) (n2 f2 : Bool) (ss : LL) (x8 x20 : Int) : Env × Hp := ([(0, LV.pv (PV.ptr [tc, tg, tj, tf, tp, PV.mp M, PV.mp S])), (1, LV.pv (PV.sl n f es)), (8, Y6 x8), (18, LV.pv (PV.sl n2 f2 ss)), (19, LV.pv (PV.int i64 (ss.length : Int))), (20, Y6 x20)], [])
section
variable (tc tg tj tf tp : PV) (M S : List (PV × PV)) (n f : Bool) (es : LL) (n2 f2 : Bool) (ss : LL) (J : Int -> Int -> Prop) (μ : Int -> Int -> Nat)
def zn2 (R : PV -> Prop) : Prop :=
 PCall qa 68 [PV.ptr [tc, tg, tj, tf, tp, PV.mp M, PV.mp S], PV.sl n f es] fun v => ∃ n1 f1 es1, v = PV.sl n1 f1 es1 /\ if ((↑es1.length : Int) == 0) = true then R (PV.tup [PV.sl true true [], Zb false]) else (aF (zd0 tc tg tj tf tp M S n f es n2 f2 ss (↑es1.length : Int) (0 : Int)) /\ J (↑es1.length : Int) (0 : Int)) /\ ∀ (x8 x20 : Int), J x8 x20 -> if decide (x20 < (↑ss.length : Int)) = true then aI ss x20 1 /\ ∃ n3 f3 es2, (ss.getD x20.toNat []).head? = some (PV.sl n3 f3 es2) /\ PCall qa 68 [PV.ptr [tc, tg, tj, tf, tp, PV.mp M, PV.mp S], PV.sl n3 f3 es2] fun v1 => ∃ n4 f4 es3, v1 = PV.sl n4 f4 es3 /\
 let V1 := aF (zd0 tc tg tj tf tp M S n f es n2 f2 ss x8 (i64.wrap (x20 + 1))) /\ J x8 (i64.wrap (x20 + 1)) /\ μ x8 (i64.wrap (x20 + 1)) < μ x8 x20; if decide ((↑es3.length : Int) > x8) = true then PCall qa 27 [PV.ptr [tc, tg, tj, tf, tp, PV.mp M, PV.mp S], PV.sl n3 f3 es2, PV.sl n f es] fun v2 => ∃ b, v2 = Zb b /\ if b = true then (cU es3.length (some x8) none none /\ aR es3 1) /\ PCall qa 70 [PV.sl n4 (f4 && decide ((↑es3.length : Int) = (↑es3.length : Int))) (qe x8.toNat (qi (↑es3.length : Int).toNat es3))] fun v3 => ∃ n5 f5 es4, v3 = PV.sl n5 f5 es4 /\ R (PV.tup [PV.sl n5 f5 es4, Zb true]) else V1 else V1 else R (PV.tup [PV.sl true true [], Zb false])
theorem z00 {R : PV -> Prop} (h : zn2 tc tg tj tf tp M S n f es n2 f2 ss J μ R) : PCall qa 35 [.ptr [tc, tg, tj, tf, tp, .mp M, .mp S], .sl n f es, .sl n2 f2 ss] R :=
 PCall.wz Tryz.func35 aM [0, 1, 2, 6, 7, 8, 10, 11, 17, 18, 19, 20, 21, 36] (bP 5 (aX fM (zd0 tc tg tj tf tp M S n f es n2 f2 ss) J μ (fun e h => (gI e 8, gI e 20)) [] [0, 1, 8, 18, 19, 20] [])) h
end
def zd1 (n f : Bool) (es : LL) (x8 : Int) (n_2 : Bool) (s_2 : LL) : Env × Hp := ([(2, LV.box 0 0), (3, LV.box 1 0), (6, LV.pv (PV.sl n f es)), (7, LV.pv (PV.int i64 (es.length : Int))), (8, Y6 x8)], [.box [LV.pv (PV.sl true true []), Y6 0], .box [LV.own 2, Y6 0], .sl (22, 1) true n_2 s_2])
section
variable (n f : Bool) (es : LL) (J : Int -> Bool -> LL -> Prop) (μ : Int -> Bool -> LL -> Nat)
def zn3 (R : PV -> Prop) : Prop :=
 (aF (zd1 n f es (0 : Int) true []) /\ J (0 : Int) true []) /\ ∀ (x8 : Int) (n_2 : Bool) (s_2 : LL), J x8 n_2 s_2 -> if decide (x8 < (↑es.length : Int)) = true then aI es x8 1 /\ ∃ n1 f1 es1, (es.getD x8.toNat []).head? = some (PV.sl n1 f1 es1) /\ PCall qa 67 [PV.sl n1 f1 es1] fun v => ∃ n2 f2 es2, v = PV.sl n2 f2 es2 /\ (aR [[PV.sl n2 f2 es2]] 1 /\ (s_2.length + 1) * 24 <= 140737488355328) /\ aF (zd1 n f es (i64.wrap (x8 + 1)) (n_2 && false) (s_2 ++ [[PV.sl n2 f2 es2]])) /\ J (i64.wrap (x8 + 1)) (n_2 && false) (s_2 ++ [[PV.sl n2 f2 es2]]) /\ μ (i64.wrap (x8 + 1)) (n_2 && false) (s_2 ++ [[PV.sl n2 f2 es2]]) < μ x8 n_2 s_2 else R (PV.agg [PV.sl n_2 false s_2, Z6 0])
theorem z01 {R : PV -> Prop} (h : zn3 n f es J μ R) : PCall qa 37 [.sl n f es] R :=
 PCall.wz Tryz.func37 aM [0, 2, 3, 5, 6, 7, 8, 9] (bP 3 (aX dM (zd1 n f es) J μ (fun e h => (gI e 8, oN h 2, oS h 2)) [(1001000, 22, 1)] [2, 3, 6, 7, 8] [])) h
end
section
variable (n f : Bool) (es : LL) (a k : Int)
def zn4 (R : PV -> Prop) : Prop :=
 if decide ((↑es.length : Int) > 0) = true then (↑es.length : Int) ≠ (0 : Int) /\ (↑es.length : Int) ≠ (0 : Int) /\ R (PV.agg [PV.sl n f es, Z6 ((i64.wrap (i64.wrap (a + k.tmod (↑es.length : Int)) + (↑es.length : Int))).tmod (↑es.length : Int))]) else R (PV.agg [PV.sl n f es, Z6 a])
theorem z02 {R : PV -> Prop} (h : zn4 n f es a k R) : PCall qa 39 [.agg [.sl n f es, .int .i64 a], .int .i64 k] R :=
 PCall.wz Tryz.func39 aM [0, 1, 2, 4, 5, 10] aT h
end
section
variable (n f : Bool) (es : LL) (a : Int)
def zn5 (R : PV -> Prop) : Prop :=
 if ((↑es.length : Int) == 0) = true then R (PV.tup [PV.sl true true [], Zb false]) else aI es a 1 /\ ∃ n1 f1 es1, (es.getD a.toNat []).head? = some (PV.sl n1 f1 es1) /\ PCall qa 67 [PV.sl n1 f1 es1] fun v => ∃ n2 f2 es2, v = PV.sl n2 f2 es2 /\ R (PV.tup [PV.sl n2 f2 es2, Zb true])
theorem z03 {R : PV -> Prop} (h : zn5 es a R) : PCall qa 43 [.agg [.sl n f es, .int .i64 a]] R :=
 PCall.wz Tryz.func43 aM [0, 1, 2, 3, 7] aT h
end
def zd2 (n f : Bool) (es : LL) (a : Int) (tc tg tj tf tp : PV) (M S : List (PV × PV)) (n2 f2 : Bool) (ss : LL) (x13 h2_1 : Int) (n_3 : Bool) (s_3 : LL) : Env × Hp := ([(1, LV.pv (PV.ptr [tc, tg, tj, tf, tp, PV.mp M, PV.mp S])), (2, LV.pv (PV.sl n2 f2 ss)), (3, LV.box 0 0), (6, LV.box 1 0), (7, LV.box 2 0), (11, LV.pv (PV.sl n f es)), (12, LV.pv (PV.int i64 (es.length : Int))), (13, Y6 x13)], [.box [LV.pv (PV.sl n f es), Y6 a], .box [LV.pv (PV.sl true true []), Y6 0], .box [LV.own 3, Y6 h2_1], .sl (22, 1) true n_3 s_3])
section
variable (n f : Bool) (es : LL) (a : Int) (tc tg tj tf tp : PV) (M S : List (PV × PV)) (n2 f2 : Bool) (ss : LL) (J : Int -> Int -> Bool -> LL -> Prop) (μ : Int -> Int -> Bool -> LL -> Nat)
def zn6 (R : PV -> Prop) : Prop :=
 (aF (zd2 n f es a tc tg tj tf tp M S n2 f2 ss (0 : Int) (0 : Int) true []) /\ J (0 : Int) (0 : Int) true []) /\ ∀ (x13 h2_1 : Int) (n_3 : Bool) (s_3 : LL), J x13 h2_1 n_3 s_3 ->
 let K3 := fun (y0_ y1_ : Int) (y2_ : Bool) (y3_ : LL) => aF (zd2 n f es a tc tg tj tf tp M S n2 f2 ss y0_ y1_ y2_ y3_) /\ J y0_ y1_ y2_ y3_ /\ μ y0_ y1_ y2_ y3_ < μ x13 h2_1 n_3 s_3; if decide (x13 < (↑es.length : Int)) = true then aI es x13 1 /\ ∃ n1 f1 es1, (es.getD x13.toNat []).head? = some (PV.sl n1 f1 es1) /\ PCall qa 27 [PV.ptr [tc, tg, tj, tf, tp, PV.mp M, PV.mp S], PV.sl n1 f1 es1, PV.sl n2 f2 ss] fun v => ∃ b, v = Zb b /\ if (!b) = true then K3 (i64.wrap (x13 + 1)) h2_1 n_3 s_3 else if (x13 == a) = true then (aR [[PV.sl n1 f1 es1]] 1 /\ (s_3.length + 1) * 24 <= 140737488355328) /\ K3 (i64.wrap (x13 + 1)) (↑s_3.length : Int) (n_3 && false) (s_3 ++ [[PV.sl n1 f1 es1]]) else (aR [[PV.sl n1 f1 es1]] 1 /\ (s_3.length + 1) * 24 <= 140737488355328) /\ K3 (i64.wrap (x13 + 1)) h2_1 (n_3 && false) (s_3 ++ [[PV.sl n1 f1 es1]]) else R (PV.agg [PV.sl n_3 false s_3, Z6 h2_1])
theorem z04 {R : PV -> Prop} (h : zn6 n f es a tc tg tj tf tp M S n2 f2 ss J μ R) : PCall qa 40 [.agg [.sl n f es, .int .i64 a], .ptr [tc, tg, tj, tf, tp, .mp M, .mp S], .sl n2 f2 ss] R :=
 PCall.wz Tryz.func40 aM [0, 1, 2, 3, 6, 7, 8, 9, 11, 12, 13, 14, 22, 26] (bP 3 (aX gK (zd2 n f es a tc tg tj tf tp M S n2 f2 ss) J μ (fun e h => (gI e 13, hI h 2 1, oN h 3, oS h 3)) [(1002000, 22, 1)] [1, 2, 3, 6, 7, 11, 12, 13] [])) h
end
def zd3 (n f : Bool) (es : LL) (a x10 : Int) (n_1 : Bool) (s_1 : LL) : Env × Hp := ([(1, LV.box 0 0), (4, LV.own 1), (8, LV.pv (PV.sl n f es)), (9, LV.pv (PV.int i64 (es.length : Int))), (10, Y6 x10)], [.box [LV.pv (PV.sl n f es), Y6 a], .sl (22, 1) true n_1 s_1])
section
variable (n f : Bool) (es : LL) (a : Int) (J : Int -> Bool -> LL -> Prop) (μ : Int -> Bool -> LL -> Nat)
def zn7 (R : PV -> Prop) : Prop :=
 (aF (zd3 n f es a (0 : Int) true []) /\ J (0 : Int) true []) /\ ∀ (x10 : Int) (n_1 : Bool) (s_1 : LL), J x10 n_1 s_1 -> if decide (x10 < (↑es.length : Int)) = true then aI es x10 1 /\ ∃ n1 f1 es1, (es.getD x10.toNat []).head? = some (PV.sl n1 f1 es1) /\ PCall qa 67 [PV.sl n1 f1 es1] fun v => ∃ n2 f2 es2, v = PV.sl n2 f2 es2 /\ (aR [[PV.sl n2 f2 es2]] 1 /\ (s_1.length + 1) * 24 <= 140737488355328) /\ aF (zd3 n f es a (i64.wrap (x10 + 1)) (n_1 && false) (s_1 ++ [[PV.sl n2 f2 es2]])) /\ J (i64.wrap (x10 + 1)) (n_1 && false) (s_1 ++ [[PV.sl n2 f2 es2]]) /\ μ (i64.wrap (x10 + 1)) (n_1 && false) (s_1 ++ [[PV.sl n2 f2 es2]]) < μ x10 n_1 s_1 else R (PV.tup [PV.sl n_1 false s_1, Z6 a])
theorem z05 {R : PV -> Prop} (h : zn7 n f es a J μ R) : PCall qa 38 [.agg [.sl n f es, .int .i64 a]] R :=
 PCall.wz Tryz.func38 aM [0, 1, 2, 3, 4, 6, 8, 9, 10, 11] (bP 3 (aX dM (zd3 n f es a) J μ (fun e h => (gI e 10, oN h 1, oS h 1)) [(4, 22, 1)] [1, 4, 8, 9, 10] [])) h
end
end Go.Eng
namespace Go.Eng
open Go Go.Proofs Go.Eng.Rows Go.Eng.Trie Go.Eng.Srt
abbrev TxQ := List (Bool × Bool × List Int)
def aD (A : TxQ) : List (List Int) := A.map fun q => q.2.2
theorem aW (A : TxQ) : (aD A).length = A.length := qd _
theorem i7 {A : TxQ} {i : Nat} (h : i < A.length) : (aD A).getD i [] = A[i].2.2 := by simp [aD, qaf, h]
theorem zn8 (A : TxQ) (k : Nat) : aD (A.take k) = (aD A).take k := qbv
theorem zn9 (A : TxQ) (k : Nat) : aD (A.drop k) = (aD A).drop k := qbw
theorem kL (q : Bool × Bool × List Int) : (slE q).length = 1 := rfl
theorem pS {A : TxQ} {i : Int} (h0 : 0 <= i) (h : i.toNat < A.length) : aI (A.map slE) i 1 /\ (A.map slE).getD i.toNat [] = slE A[i.toNat] := ⟨bQ kL h0 (by omega), bZ h⟩
theorem vV {A B : TxQ} {i : Nat} (hA : i < A.length) (hB : i < B.length) (h : (aD A).take i = (aD B).take i) (e : A[i].2.2 = B[i].2.2) : (aD A).take (i + 1) = (aD B).take (i + 1) := by
 have hA' : i < (aD A).length := by rw [aW]; exact hA
 have hB' : i < (aD B).length := by rw [aW]; exact hB
 rw [cJ hA', cJ hB', h];congr 2;simp only [aD, List.getElem_map]; exact e
theorem zoa {A B : TxQ} {i : Nat} (hA : i < A.length) (hB : i < B.length) (e : A[i].2.2 ≠ B[i].2.2) : aD A ≠ aD B := fun h => e (by rw [<- i7 hA, <- i7 hB, h])
def tsm (A : TxQ) : Nat := (aD A).flatten.length
theorem zob (A : TxQ) : eR A = tsm A := by
 unfold eR tsm aD;rw [List.length_flatten, List.map_map]; rfl
theorem zoc (A : TxQ) : A.flatMap (fun p => p.2.2) = (aD A).flatten := by
 unfold aD; rw [List.flatMap_def]
theorem zod (A : TxQ) (k : Nat) : qe 0 (qi k (A.map slE)) = (A.take k).map slE := by rw [List.drop_zero, qbv]
theorem z06 (A : TxQ) (k : Nat) : qe k (qi ((A.map slE).length : Int).toNat (A.map slE)) = (A.drop k).map slE := by
 rw [qk, qbm, qbw]
theorem z07 (n f n2 f2 : Bool) (A B : TxQ) (hA : ∀ q ∈ A, q.2.2.length < 1000000000000) (hl : A.length < 1000000000000) :
 PCall qa 71 [.sl n f (A.map slE), .sl n2 f2 (B.map slE), .fn 69 []] fun x => x = .bool (decide (aD A = aD B)) := by
 refine z0r _ _ _ _ _ _ (fun i => (0 <= i /\ i <= A.length) /\ (aD A).take i.toNat = (aD B).take i.toNat) (fun i => A.length - i.toNat) ?_;unfold znt;have ha : ((A.map slE).length : Int) = A.length := by rw [qd]
 have hb : ((B.map slE).length : Int) = B.length := by rw [qd]
 rw [ha, hb];refine aC (fun hc => ?_) (fun hc => ?_)
 ·simp only [bne_iff_ne, ne_eq] at hc;have : aD A ≠ aD B := fun e => hc (by rw [<- aW, <- aW, e]);simp [this]
 ·simp only [bne_iff_ne, ne_eq, ql] at hc;refine ⟨⟨rfl, ⟨qm _, by omega⟩, rfl⟩, ?_⟩;rintro i ⟨⟨i0, i1⟩, he⟩;refine aC (fun h => ?_) (fun h => ?_)
  ·simp only [aB] at h;have hi : i.toNat < A.length := by omega
   have hj : i.toNat < B.length := by omega
   obtain ⟨g1, g2⟩ := pS i0 hi;obtain ⟨k1, k2⟩ := pS i0 hj;refine ⟨g1, _, _, _, by rw [g2]; rfl, k1, _, _, _, by rw [k2]; rfl, ?_⟩;refine (zca _ _ _ _ _ _ (hA _ (qo hi))).mono ?_;rintro _ rfl;refine ⟨_, rfl, aC (fun hx => ?_) (fun hx => ?_)⟩
   ·simp only [qh, bV] at hx;simp [zoa hi hj hx]
   ·simp only [qh, bV, ql] at hx;rw [aG (by omega) (by omega)];exact ⟨rfl, ⟨⟨by omega, by omega⟩, by rw [show (i + 1).toNat = i.toNat + 1 by omega]; exact vV hi hj he hx⟩, by dsimp only; omega⟩
  ·simp only [aB] at h;rw [qf (by rw [aW]; omega), qf (by rw [aW]; omega)] at he;simp [he]
section
variable {rows : List Row} {v : PV}
structure jK (rows : List Row) : Prop where
 s : d8 rows
 p : dE rows
 o : dY rows
 k : eK rows
 c : TabC rows
 w : kK rows
theorem vW (L : List Int) : (cC rows L).flatten = dN rows L := by unfold cC; rw [zcp]
theorem lU (hk : eK rows) (L : List Int) : (cC rows L).length <= 768 * L.length := qbg (zyn rows _) (lT hk L)
theorem zoe (hk : eK rows) {L c : List Int} (h : c ∈ cC rows L) : c.length <= 768 * L.length := qbg (zyo h) (lT hk L)
theorem qCl (ht : jK rows) (hv : cO rows v) (n f : Bool) (L : List Int) (hr : R32 L) (hL : L.length < 100000) :
 PCall qa 68 [v, .sl n f (aA L)] fun x => ∃ (n f : Bool) (Q : TxQ), x = .sl n f (Q.map slE) /\ aD Q = cC rows L := by
 have c1 := zcl ht.p ht.o ht.k hv n f L hr (by omega);have hnl := lT ht.k L;have c2 := fun n f => zyq ht.s hv n f (dN rows L) (zcm ht.p ht.o ht.k hr) (by omega);obtain ⟨tc, tg, tj, tf, tp, made, sec, rfl, ht', hm⟩ := hv;refine z0v _ _ _ _ _ _ _ _ _ _ ?_; unfold znx;refine c1.mono ?_;rintro _ ⟨n1, f1, rfl⟩;refine ⟨_, _, _, rfl, (c2 n1 f1).mono ?_⟩;rintro _ ⟨n2, Q, rfl, hQ⟩;exact ⟨_, _, _, rfl, _, _, Q, rfl, hQ⟩
theorem zof {Q : TxQ} {C : List (List Int)} (h : aD Q = C) {m : Nat} (hm : ∀ c ∈ C, c.length <= m) : ∀ q ∈ Q, q.2.2.length <= m := fun q hq => hm _ (by rw [<- h]; exact List.mem_map.2 ⟨q, hq, rfl⟩)
theorem zd4 (ht : jK rows) (hv : cO rows v) (n f n2 f2 : Bool) (a b : List Int) (ra : R32 a) (rb : R32 b) (la : a.length < 100000) (lb : b.length < 100000) :
 PCall qa 27 [v, .sl n f (aA a), .sl n2 f2 (aA b)] fun x => x = .bool (dT rows a b) := by
 have c1 := qCl ht hv n f a ra la;have c2 := qCl ht hv n2 f2 b rb lb;have ha := lU ht.k a;have hb := lU ht.k b;have hm := fun c (h : c ∈ cC rows a) => zoe ht.k h;obtain ⟨tc, tg, tj, tf, tp, made, sec, rfl, ht', hm'⟩ := hv;refine z0w _ _ _ _ _ _ _ _ _ _ _ _ _ ?_; unfold zny;refine c1.mono ?_;rintro _ ⟨n3, f3, A, rfl, hA⟩;refine ⟨_, _, _, rfl, c2.mono ?_⟩;rintro _ ⟨n4, f4, B, rfl, hB⟩;refine ⟨_, _, _, rfl, ?_⟩;have hAl : A.length = (cC rows a).length := by rw [<- hA, aW]
 have hBl : B.length = (cC rows b).length := by rw [<- hB, aW]
 have hAm := zof hA hm;refine aC (fun h => ?_) (fun h => ?_)
 ·simp only [qd, aB, ge_iff_le] at h;refine ⟨⟨sB (by omega) (by rw [qd, qd]; omega), g9 kL A⟩, ?_⟩;rw [show ((B.map slE).length : Int).toNat = B.length by rw [qk, qd], zod];refine (z07 _ _ _ _ _ _ (fun q hq => by have := hAm q (qu hq); omega) (by rw [qp]; omega)).mono ?_;rintro _ rfl;refine ⟨_, rfl, ?_⟩;rw [zn8, hA, hB, hBl]; rfl
 ·simp only [qd, aB, ge_iff_le] at h;unfold dT;rw [decide_eq_false];intro e;have := congrArg List.length e;rw [qp] at this; omega
def TsOK (m : Nat) (T : List (List Int)) : Prop := ∀ t ∈ T, R32 t /\ t.length <= m
theorem TsOK.get {m : Nat} {A : TxQ} (h : TsOK m (aD A)) {i : Nat} (hi : i < A.length) : R32 A[i].2.2 /\ A[i].2.2.length <= m := h _ (List.mem_map.2 ⟨_, qo hi, rfl⟩)
theorem z08 {A B : List (List Int)} : ∀ {n : Nat}, A.take n = B.take n -> n <= A.length -> n <= B.length -> (A.length <= n ∨ B.length <= n ∨ A.getD n [] ≠ B.getD n []) -> dU A B = A.take n := by
 intro n h1 h2 h3 h4;have hp : A.take n <+: dU A B := zmu (qbo _ _) (by rw [h1]; exact qbo _ _);have ha := zc2 A B;have hb := zc3 A B
 have hl : (dU A B).length <= n := by
  apply qav;intro hgt
  have g2 : (dU A B)[n]? = A[n]? := by
   obtain ⟨u, hu⟩ := ha;have e : A[n]? = (dU A B ++ u)[n]? := by rw [hu]
   rw [e, qax (by omega)]
  have g3 : (dU A B)[n]? = B[n]? := by
   obtain ⟨u, hu⟩ := hb;have e : B[n]? = (dU A B ++ u)[n]? := by rw [hu]
   rw [e, qax (by omega)]
  have hla := ha.length_le;have hlb := hb.length_le;rcases h4 with h4 | h4 | h4
  ·omega
  ·omega
  ·exact h4 (by rw [qar, qar, <- g2, <- g3])
 exact (hp.eq_of_length_le (by rw [qp]; omega)).symm
theorem z09 (t : List Int) (T : List (List Int)) (s : List Int) : fE rows (t :: (T ++ [s])) = dU (fE rows (t :: T)) (cC rows s) := by
 show pP (cC rows t) ((T ++ [s]).map (cC rows)) = dU (pP (cC rows t) (T.map (cC rows))) (cC rows s);unfold pP;rw [qq, qas]; rfl
theorem z1a {T : List (List Int)} {i : Nat} (h : i + 1 < T.length) : fE rows (T.take (i + 1 + 1)) = dU (fE rows (T.take (i + 1))) (cC rows (T.getD (i + 1) [])) := by
 cases T with
 | nil => simp at h
 | cons t T =>
   have hi : i < T.length := by simpa using h
   show fE rows (t :: T.take (i + 1)) = dU (fE rows (t :: T.take i)) _;rw [cJ hi, z09];simp [qaf, hi]
theorem zd5 (hk : eK rows) {m : Nat} {T : List (List Int)} (hT : TsOK m T) : (fE rows T).flatten.length <= 768 * m /\ (fE rows T).length <= 768 * m := by
 cases T with
 | nil => simp [fE]
 | cons t T =>
   have hm := (hT t qv).2;have h1 : fE rows (t :: T) <+: cC rows t := zy2 qv;have h2 := lU hk t;have h3 := lT hk t;have h4 := h1.length_le;rw [<- vW] at h3;obtain ⟨u, hu⟩ := h1;rw [<- hu, List.flatten_append, qn] at h3;omega
theorem z1b (ht : jK rows) (hv : cO rows v) (n f : Bool) (A : TxQ) {m : Nat} (hA : TsOK m (aD A)) (hm : m < 100000) (hl : A.length < 1000000) :
 PCall qa 26 [v, .sl n f (A.map slE)] fun x => ∃ n f, x = .sl n f (aA (fE rows (aD A)).flatten) := by
 have c1 := fun n f L hr hL => qCl ht hv n f L hr hL;obtain ⟨tc, tg, tj, tf, tp, made, sec, rfl, ht', hm'⟩ := hv
 refine z0x _ _ _ _ _ _ _ _ _ _
  (fun _ _ s x => ∃ (i : Nat) (Q : TxQ), x = i /\ i + 1 <= A.length /\ s = Q.map slE /\ aD Q = fE rows ((aD A).take (i + 1))) (fun _ _ _ x => A.length - x.toNat)
  (fun _ _ _ _ _ _ _ x0 _ _ s _ _ s8 k x => ∃ (i : Nat) (Q B : TxQ) (j : Nat), x = x0 /\ x = i /\ k = j /\ i + 1 < A.length /\ s = Q.map slE /\ aD Q = fE rows ((aD A).take (i + 1)) /\ s8 = B.map slE /\ aD B = cC rows ((aD A).getD (i + 1) []) /\ j <= Q.length /\ j <= B.length /\ (aD Q).take j = (aD B).take j)
  (fun _ _ s _ _ _ k _ => s.length - k.toNat) ?_
 unfold znz;refine aC (fun h => ?_) (fun h => ?_)
 ·simp only [beq_iff_eq, qd] at h;have : A = [] := qag (by omega);subst this;exact ⟨_, _, rfl⟩
 ·simp only [beq_iff_eq, qd] at h;obtain ⟨q0, A', rfl⟩ : ∃ q A', A = q :: A' := by cases A with | nil => simp at h | cons q A' => exact ⟨q, A', rfl⟩
  simp only [qc] at hl;have hq0 := hA.get (i := 0) (by simp);obtain ⟨g1, g2⟩ := pS (A := q0 :: A') (i := 0) (by omega) (by simp);refine ⟨g1, q0.1, q0.2.1, aA q0.2.2, rfl, ?_⟩;refine (c1 _ _ q0.2.2 hq0.1 (by have := hq0.2; simp only [qbd] at this; omega)).mono ?_;rintro _ ⟨n2, f2, Q, rfl, hQ⟩;refine ⟨_, _, _, rfl, ⟨vU (by omega) (by rw [qd, qc]; omega), g9 kL _⟩, ⟨rfl, 0, Q, rfl, by simp, rfl, hQ⟩, ?_⟩;rintro n5 f5 _ _ ⟨i, Q, rfl, i1, rfl, hQ⟩
  have hrest : qe 1 (qi (((q0 :: A').length : Int)).toNat (qbx slE (q0 :: A'))) = A'.map slE := by
   rw [qk, qf (by rw [qd]; exact qj _)]; rfl
  have hrest2 : qe 1 (qi (((qbx slE (q0 :: A')).length : Int)).toNat (qbx slE (q0 :: A'))) = A'.map slE := by
   rw [qk, qf (qj _)]; rfl
  simp only [hrest, hrest2];rw [show ((A'.map slE).length : Int) = A'.length by rw [qd]];simp only [qc] at i1;refine aC (fun hc => ?_) (fun hc => ?_)
  ·simp only [aB] at hc;have hi : i < A'.length := by omega
   have g1 : aI (A'.map slE) (i : Int) 1 := bQ kL (by omega) (by omega);have g2 : (A'.map slE).getD i [] = slE A'[i] := bZ hi;have hqi := hA.get (i := i + 1) (by simp; omega);simp only [List.getElem_cons_succ] at hqi;have hgd : (aD (q0 :: A')).getD (i + 1) [] = A'[i].2.2 := by rw [i7 (by simp; omega)]; rfl
   refine ⟨g1, A'[i].1, A'[i].2.1, aA A'[i].2.2, by rw [qk, g2]; rfl, ?_⟩;refine (c1 _ _ _ hqi.1 (by omega)).mono ?_;rintro _ ⟨n4, f4, B, rfl, hB⟩;refine ⟨_, _, _, rfl, ⟨rfl, i, Q, B, 0, trivial, rfl, rfl, by rw [qc]; omega, rfl, hQ, rfl, by rw [hgd]; exact hB, by omega, by omega, rfl⟩, ?_⟩;rintro n51 f51 _ n8 f8 _ _ _ ⟨i', Q', B', j, hxx, rfl, rfl, i1', rfl, hQ', rfl, hB', j1, j2, j3⟩;have hlQ : ((Q'.map slE).length : Int) = Q'.length := by rw [qd]
   have hlB : ((B'.map slE).length : Int) = B'.length := by rw [qd]
   have hw : i64.wrap ((i' : Int) + 1) = ((i' + 1 : Nat) : Int) := by rw [aG (by simp only [qc] at i1'; omega) (by simp only [qc] at i1'; omega)]; omega
   simp only [qc] at i1'
   have fin : (Q'.length <= j ∨ B'.length <= j ∨ (aD Q').getD j [] ≠ (aD B').getD j []) -> aD (Q'.take j) = fE rows ((aD (q0 :: A')).take (i' + 1 + 1)) := fun hs => by
    rw [z1a (by rw [aW, qc]; omega), <- hQ', <- hB', zn8];exact (z08 j3 (by rw [aW]; exact j1) (by rw [aW]; exact j2) (by rw [aW, aW]; exact hs)).symm
   have stop : ∀ {K : Prop}, K -> (cU (Q'.map slE).length none (some (j : Int)) none /\ aR (Q'.map slE) 1) /\ K := fun h => ⟨⟨sB (by omega) (by rw [qd]; omega), g9 kL Q'⟩, h⟩;rw [hlQ, hlB, hw, qk, zod];refine aC (fun hx => ?_) (fun hx => ?_)
   ·simp only [qb, aB] at hx;have hjQ : j < Q'.length := by omega
    have hjB : j < B'.length := by omega
    have a1 : aI (Q'.map slE) (j : Int) 1 := bQ kL (by omega) (by omega);have a2 : (Q'.map slE).getD j [] = slE Q'[j] := bZ hjQ;have b1 : aI (B'.map slE) (j : Int) 1 := bQ kL (by omega) (by omega);have b2 : (B'.map slE).getD j [] = slE B'[j] := bZ hjB;refine ⟨a1, _, _, _, by rw [a2]; rfl, b1, _, _, _, by rw [b2]; rfl, ?_⟩;have hcs := (zd5 ht.k (T := (aD (q0 :: A')).take (i' + 1)) (m := m) fun t h => hA t (qu h)).1
    have hlen : Q'[j].2.2.length < 1000000000000 := by
     have h1 : Q'[j].2.2 ∈ aD Q' := List.mem_map.2 ⟨_, qo hjQ, rfl⟩;have := zcz h1;rw [hQ'] at this; omega
    refine (zca _ _ _ _ _ _ hlen).mono ?_;rintro _ rfl;refine ⟨_, rfl, aC (fun hy => ?_) (fun hy => ?_)⟩
    ·simp only [aB] at hy
     have hw2 : i64.wrap ((j : Int) + 1) = ((j + 1 : Nat) : Int) := by
      have := aW Q';have h2 := (zd5 ht.k (T := (aD (q0 :: A')).take (i' + 1)) (m := m) fun t h => hA t (qu h)).2;rw [<- hQ', aW] at h2;rw [aG (by omega) (by omega)]; omega
     rw [hw2];exact ⟨rfl, ⟨i', Q', B', j + 1, hxx, rfl, rfl, by rw [qc]; omega, rfl, hQ', rfl, hB', by omega, by omega, vV hjQ hjB j3 hy⟩, by rw [qd]; omega⟩
    ·simp only [aB] at hy;exact stop ⟨rfl, ⟨i' + 1, Q'.take j, rfl, by rw [qc]; omega, rfl, fin (.inr (.inr (by rw [i7 hjQ, i7 hjB]; exact hy)))⟩, by rw [qc]; omega⟩
   ·simp only [qb, aB] at hx;exact stop ⟨rfl, ⟨i' + 1, Q'.take j, rfl, by rw [qc]; omega, rfl, fin (by omega)⟩, by rw [qc]; omega⟩
  ·simp only [aB] at hc;rw [qf (by rw [aW, qc]; omega)] at hQ;have hcs := zd5 ht.k hA;rw [<- hQ, aW] at hcs;refine (zdi _ _ Q (by omega) (by rw [zob]; unfold tsm; omega)).mono ?_;rintro _ ⟨n6, f6, rfl⟩;exact ⟨_, _, _, rfl, _, _, by rw [zoc, hQ]⟩
end
end Go.Eng
