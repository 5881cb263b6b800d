/- States run over the code: what each function gives, and what follows. -/
import Derived.Test.YtpadbcaocbghoaaGreatDsTc
open Go.IntKind (i64 i32)
open Go.Proofs.Tryz renaming prog → qa
open Int renaming toNat_natCast → qb
open List renaming length_cons → qc, mem_cons_of_mem → qd, length_drop → qe, getElem_mem → qg, mem_cons_self → qh, drop → qi, take → qj, length_map → qk, take_of_length_le → ql, eq_nil_of_length_eq_zero → qo, map_drop → qp, length_take → qr, drop_length → qt, getD → qu, getElem_append_right → qw, getElem?_eq_getElem → qx, take_length → qy, drop_zero → qz, length_nil → qaa, nil_append → qab, replicate → qac, take_zero → qad
open Bool renaming and_eq_true → qf, or_eq_true → qq
open Nat renaming le_refl → qm, zero_le → qn
open Decidable renaming not_not → qv
open Option renaming isSome → qae
set_option linter.unusedVariables false
set_option linter.unusedSimpArgs false
set_option maxRecDepth 100000
set_option linter.constructorNameAsVariable false
namespace Go.Eng
open Go Go.Proofs Go.Eng.Rows Go.Eng.Trie Go.Eng.Srt
theorem z1b {r : Int} (hs : bZ r = false) : ACall qa 100 [.pv (.int .i32 r)] [] fun r1 h' => r1 = .pv (.sl true true []) /\ h' = [] := by
 refine zjb _ ?_; unfold zbs;refine (pIs r).mono ?_;rintro _ rfl;refine ⟨_, rfl, ?_⟩;rw [hs];exact bW rfl ⟨rfl, rfl⟩
theorem z1c {a b : Int} (ha : -2147483648 <= a /\ a <= 2147483647) (hb : -2147483648 <= b /\ b <= 2147483647) : PCall qa 97 [.int .i32 a, .int .i32 b] fun v => v = lI (eT a b) := by
 refine z04 _ _ ?_; unfold zn6;have wa : i64.wrap a = a := wz;have wb : i64.wrap b = b := wz;rw [wa, wb];refine aC (fun hc => ?_) (fun hc => ?_)
 ·simp only [qf, aB, ge_iff_le] at hc;have w1 : i64.wrap (a - 4352) = a - 4352 := wz;have w2 : i64.wrap ((a - 4352) * 588) = (a - 4352) * 588 := wz;have w3 : i64.wrap (44032 + (a - 4352) * 588) = 44032 + (a - 4352) * 588 := wz;have w4 : i64.wrap (b - 4449) = b - 4449 := wz;have w5 : i64.wrap ((b - 4449) * 28) = (b - 4449) * 28 := wz;rw [w1, w2, w3, w4, w5];have w6 : i64.wrap (44032 + (a - 4352) * 588 + (b - 4449) * 28) = 44032 + (a - 4352) * 588 + (b - 4449) * 28 := wz;rw [w6];have w7 : i32.wrap (44032 + (a - 4352) * 588 + (b - 4449) * 28) = 44032 + (a - 4352) * 588 + (b - 4449) * 28 := dC (by omega) (by omega);rw [w7];unfold eT;rw [if_pos (by omega)];simp only [lI];rw [show 44032 + (a - 4352) * 588 + (b - 4449) * 28 = 44032 + ((a - 4352) * 21 + (b - 4449)) * 28 by omega]
 ·simp only [qf, aB, ge_iff_le] at hc;have hn : ¬ ((4352 <= a /\ a < 4371) /\ 4449 <= b /\ b < 4470) := by omega
  have fin : ∀ (l : List (List PV)), (((l.length : Int) = 2 ↔ (bZ a = true /\ (a - 44032) % 28 = 0))) -> (if (((l.length : Int)) == 2 && decide (b >= 4520) && decide (b <= 4546)) = true then (PV.tup [.int .i32 (i32.wrap (a + i32.wrap (b - 4519))), .bool true] : PV) = lI (eT a b) else (PV.tup [.int .i32 0, .bool false] : PV) = lI (eT a b)) := fun l hl => by
   refine aC (fun h2 => ?_) (fun h2 => ?_)
   ·simp only [qf, aB, beq_iff_eq, ge_iff_le] at h2;have hs := hl.1 h2.1.1;have hr := hs.1;simp only [bZ, qf, aB] at hr;have w1 : i32.wrap (b - 4519) = b - 4519 := dC (by omega) (by omega);have w2 : i32.wrap (a + (b - 4519)) = a + (b - 4519) := dC (by omega) (by omega);rw [w1, w2];unfold eT; rw [if_neg hn, if_pos ⟨hs, by omega, by omega⟩]; rfl
   ·simp only [qf, aB, beq_iff_eq, ge_iff_le] at h2;unfold eT; rw [if_neg hn, if_neg (fun h => h2 ⟨⟨hl.2 h.1, by omega⟩, by omega⟩)]; rfl
  cases hs : bZ a with
  | false =>
    refine (z1b hs).mono ?_;rintro _ _ ⟨rfl, rfl⟩;exact .inr ⟨(true, []), ⟨rfl, rfl⟩, trivial, fin [] (by rw [hs]; simp)⟩
  | true =>
    have hl : ((aA (eJ a)).length : Int) = 2 ↔ (bZ a = true /\ (a - 44032) % 28 = 0) := by
     rw [bX, hs];unfold eJ;split <;> simp [*]
    refine (zde hs).mono ?_;rintro r1 h' (⟨nl, rfl, rfl⟩ | ⟨rfl, rfl⟩)
    ·exact .inl ⟨(nl, _), ⟨rfl, rfl⟩, trivial, fin _ hl⟩
    ·exact .inr ⟨(false, _), ⟨rfl, rfl⟩, trivial, fin _ hl⟩
section
variable {rows : List Row}
def rA (o : Option Int) : Int := o.getD 0
theorem z1d (hp : dN rows) (h1 : eS rows) (n f : Bool) {a b : Int} (hl : rows.length < 1000000) (ha : -2147483648 <= a /\ a <= 2147483647) (hb : -2147483648 <= b /\ b <= 2147483647) :
 PCall qa 98 [.sl n f (bH rows), .int .i32 a, .int .i32 b] fun v => v = lI (mY rows a b) := by
 refine z05 _ _ _ _ _ (fun x8 x9 i => (0 <= i /\ i <= rows.length) /\ x8 = rA ((rows.take i.toNat).foldl (Rows.cmpS rows a b) none) /\ x9 = ((rows.take i.toNat).foldl (Rows.cmpS rows a b) none).isSome) (fun _ _ i => rows.length - i.toNat) ?_;unfold zn7;refine ⟨⟨rfl, ⟨Int.le_refl _, by omega⟩, rfl, rfl⟩, ?_⟩;rintro x8 x9 i ⟨⟨i0, i1⟩, h8, h9⟩;have wa : i64.wrap a = a := wz;have wb : i64.wrap b = b := wz;rw [wa, wb];refine aC (fun hc => ?_) (fun hc => ?_)
 ·simp only [aB, jU] at hc;have hi : i.toNat < rows.length := by omega
  have hw : i64.wrap (i + 1) = i + 1 := wz;have hg : (bH rows).getD i.toNat [] = oI rows[i.toNat] := c7 hi;have hix : aD (bH rows) i 5 := cS qP i0 (by omega);have hmem := qg hi
  have hst : (rows.take (i + 1).toNat).foldl (Rows.cmpS rows a b) none = Rows.cmpS rows a b ((rows.take i.toNat).foldl (Rows.cmpS rows a b) none) rows[i.toNat] := by
   rw [show (i + 1).toNat = i.toNat + 1 by omega, dI hi, List.foldl_append]; rfl
  rw [hw];generalize (rows.take i.toNat).foldl (Rows.cmpS rows a b) none = o at *;generalize rows[i.toNat] = x at *
  have skip : eD rows a b x = false -> (0 <= i + 1 /\ i + 1 <= rows.length) /\ x8 = rA ((rows.take (i + 1).toNat).foldl (Rows.cmpS rows a b) none) /\ x9 = ((rows.take (i + 1).toNat).foldl (Rows.cmpS rows a b) none).isSome := fun h => by
   rw [hst]; unfold Rows.cmpS; rw [h]; exact ⟨⟨by omega, by omega⟩, h8, h9⟩
  have hmu : rows.length - (i + 1).toNat < rows.length - i.toNat := by omega
  refine ⟨hix, x.kind, by rw [hg]; rfl, aC (fun c1 => ?_) (fun c1 => ?_)⟩
  ·simp only [bne_iff_ne, ne_eq] at c1;exact ⟨rfl, skip (by simp [eD, c1]), hmu⟩
  simp only [bne_iff_ne, ne_eq, qv] at c1;refine ⟨hix, x.a, by rw [hg]; rfl, aC (fun c2 => ?_) (fun c2 => ?_)⟩
  ·simp only [bne_iff_ne, ne_eq] at c2;exact ⟨rfl, skip (by simp [eD, c2]), hmu⟩
  simp only [bne_iff_ne, ne_eq, qv] at c2;refine ⟨hix, x.b, by rw [hg]; rfl, aC (fun c3 => ?_) (fun c3 => ?_)⟩
  ·simp only [qq, bne_iff_ne, ne_eq, beq_iff_eq] at c3;refine ⟨rfl, skip ?_, hmu⟩;rcases c3 with c3 | c3
   ·simp [eD, c3]
   ·simp [eD, c3]
  simp only [qq, bne_iff_ne, ne_eq, beq_iff_eq, not_or, qv] at c3;obtain ⟨hpx, hfr⟩ := wF h1 hmem c1;have wf : i32.wrap x.fr = x.fr := dC (by omega) (by omega);refine ⟨hix, x.fr, by rw [hg]; rfl, ?_⟩;rw [wf];refine (xB hp n f x.fr hl (by omega)).mono ?_;rintro _ rfl;rw [hpx, c2, c3.1];refine ⟨_, rfl, rfl, _, rfl, _, rfl, _, rfl, _, rfl, _, rfl, _, rfl, bW (by simp [c3.2]) ?_⟩;refine (z03 hp n f x.fr hl (by omega)).mono ?_;rintro _ rfl;refine ⟨_, rfl, ?_⟩;cases ho : eC rows x.fr with
  | true => exact bR (by simp) ⟨rfl, skip (by simp [eD, ho]), hmu⟩
  | false =>
    have hcb : eD rows a b x = true := by simp [eD, c1, c2, c3.1, c3.2, ho]
    cases o with
    | none =>
      simp only [qae] at h9;refine bW (by rw [h9]; rfl) ⟨rfl, ⟨⟨by omega, by omega⟩, ?_, ?_⟩, hmu⟩
      ·rw [hst]; simp [Rows.cmpS, hcb, rA]
      ·rw [hst]; simp [Rows.cmpS, hcb]
    | some r =>
      simp only [qae] at h9;simp only [rA, Option.getD] at h8;refine aC (fun c4 => ?_) (fun c4 => ?_)
      ·rw [h9, h8] at c4;simp at c4;refine ⟨rfl, ⟨⟨by omega, by omega⟩, ?_, ?_⟩, hmu⟩
       ·rw [hst]; simp [Rows.cmpS, hcb, rA, c4]
       ·rw [hst]; simp [Rows.cmpS, hcb, c4]
      ·rw [h9, h8] at c4;simp at c4;refine ⟨rfl, ⟨⟨by omega, by omega⟩, ?_, ?_⟩, hmu⟩
       ·have hlt : ¬ x.fr < r := by omega
        rw [hst, h8]; simp [Rows.cmpS, hcb, rA, hlt]
       ·rw [hst, h9]; simp [Rows.cmpS, hcb]; split <;> rfl
 ·simp only [aB, jU] at hc;rw [ql (by omega)] at h8 h9;unfold mY;rw [h8, h9];cases rows.foldl (Rows.cmpS rows a b) none <;> rfl
theorem z1e (hp : dN rows) (h1 : eS rows) (n f : Bool) {a b : Int} (hl : rows.length < 1000000) (ha : -2147483648 <= a /\ a <= 2147483647) (hb : -2147483648 <= b /\ b <= 2147483647) :
 PCall qa 76 [.sl n f (bH rows), .int .i32 a, .int .i32 b] fun v => v = lI (fK rows a b) := by
 refine z06 _ _ _ _ _ ?_; unfold zn8;refine (z1c ha hb).mono ?_;rintro _ rfl;unfold fK;cases eT a b with
 | some r => exact ⟨_, rfl, rfl, _, rfl, _, rfl, _, rfl, _, rfl, bW rfl rfl⟩
 | none =>
   refine ⟨_, rfl, rfl, _, rfl, _, rfl, _, rfl, _, rfl, bR (by simp) ?_⟩;refine (z1d hp h1 n f hl ha hb).mono ?_;rintro _ rfl;cases mY rows a b with
   | none => exact ⟨_, rfl, rfl, _, rfl, _, rfl, _, rfl, _, rfl, rfl⟩
   | some r => exact ⟨_, rfl, rfl, _, rfl, _, rfl, _, rfl, _, rfl, rfl⟩
theorem z1f {st : CSt} (h0 : st.s = none -> st.P = []) (h1 : ∀ a, st.s = some a -> aF rows 1 a = 0) (h2 : ∀ m ∈ st.M, aF rows 1 m ≠ 0) :
 (dG st = -1 /\ ∀ k (h : k < st.out.length), aF rows 1 st.out[k] ≠ 0) ∨ (∃ k : Nat, dG st = (k : Int) /\ ∃ h : k < st.out.length, aF rows 1 st.out[k] = 0 /\ ∀ j (hj : j < st.out.length), k < j -> aF rows 1 st.out[j] ≠ 0) := by
 cases hs : st.s with
 | none =>
   have hP := h0 hs;have ho : st.out = st.M := by simp [CSt.out, hs, hP]
   refine .inl ⟨by simp [dG, hs], fun k hk => h2 _ ?_⟩;have := qg hk;rw [<- ho]; exact this
 | some a =>
   have ho : st.out = st.P ++ a :: st.M := by simp [CSt.out, hs]
   refine .inr ⟨st.P.length, by simp [dG, hs], by rw [ho]; simp, ?_, fun j hj hlt => h2 _ ?_⟩
   ·simp only [ho, qw (qm _), Nat.sub_self, List.getElem_cons_zero]; exact h1 a hs
   ·simp only [ho];rw [qw (by omega), List.getElem_cons];rw [dif_neg (by omega)];exact qg _
theorem z1g (n f n2 f2 : Bool) (hl : rows.length < 1000000) (L : List Int) (hr : R32 L) (hL : L.length < 1000000000000) :
 PCall qa 74 [.sl n f (bH rows), .sl n2 f2 (aA L)] fun v => ∃ x : Int, v = .int .i64 x /\ ((x = -1 /\ ∀ k (h : k < L.length), aF rows 1 L[k] ≠ 0) ∨ (∃ k : Nat, x = (k : Int) /\ ∃ h : k < L.length, aF rows 1 L[k] = 0 /\ ∀ j (hj : j < L.length), k < j -> aF rows 1 L[j] ≠ 0)) := by
 refine z07 _ _ _ _ _ _ (fun x => (-1 <= x /\ x < L.length) /\ ∀ j (hj : j < L.length), x < j -> aF rows 1 L[j] ≠ 0) (fun x => (x + 1).toNat) ?_;unfold zn9;have hw : i64.wrap ((aA L).length - 1) = L.length - 1 := by rw [bX]; exact wz
 rw [hw];refine ⟨⟨rfl, ⟨by omega, by omega⟩, fun j hj h => by omega⟩, ?_⟩;rintro x ⟨⟨x0, x1⟩, hx⟩;refine aC (fun hc => ?_) (fun hc => ?_)
 ·simp only [aB, ge_iff_le] at hc;have hi : x.toNat < L.length := by omega
  obtain ⟨g1, g2⟩ := iE hc hi;have hw1 : i64.wrap (x - 1) = x - 1 := wz;refine ⟨g1, L[x.toNat], by rw [g2]; rfl, ?_⟩;refine (xA n f _ hl (hr _ (qg hi))).mono ?_;rintro _ rfl;refine ⟨_, rfl, ?_⟩;rw [hw1];refine aC (fun h0 => ?_) (fun h0 => ?_)
  ·simp only [beq_iff_eq] at h0;exact ⟨x, rfl, .inr ⟨x.toNat, by omega, hi, h0, fun j hj hlt => hx j hj (by omega)⟩⟩
  ·simp only [beq_iff_eq] at h0;refine ⟨rfl, ⟨⟨by omega, by omega⟩, fun j hj hlt => ?_⟩, by dsimp only; omega⟩;by_cases he : j = x.toNat
   ·subst he; exact h0
   ·exact hx j hj (by omega)
 ·simp only [aB, ge_iff_le] at hc;exact ⟨-1, rfl, .inl ⟨rfl, fun k hk => hx k hk (by omega)⟩⟩
theorem z1h (n f n2 f2 : Bool) (hl : rows.length < 1000000) (L : List Int) (hr : R32 L) (hL : L.length < 1000000000000) (h0 : 0 < L.length) (k : Int) {r : Int} (hx : -2147483648 <= r /\ r <= 2147483647) :
 PCall qa 75 [.sl n f (bH rows), .sl n2 f2 (aA L), .int .i64 k, .int .i32 r] fun v => v = .bool (decide (k = L.length - 1) || decide (dO (aF rows 1) L < aF rows 1 r)) := by
 refine z08 _ _ _ _ _ _ _ _ ?_; unfold zoa;have hw : i64.wrap ((aA L).length - 1) = L.length - 1 := by rw [bX]; exact wz
 rw [hw];refine aC (fun hc => ?_) (fun hc => ?_)
 ·simp only [beq_iff_eq] at hc; simp [hc]
 ·simp only [beq_iff_eq] at hc;have hi : ((L.length : Int) - 1).toNat < L.length := by omega
  obtain ⟨g1, g2⟩ := iE (l := L) (i := (L.length : Int) - 1) (by omega) hi;refine ⟨g1, L[((L.length : Int) - 1).toNat], by rw [g2]; rfl, ?_⟩;refine (xA n f _ hl (hr _ (qg hi))).mono ?_;rintro _ rfl;refine ⟨_, rfl, ?_⟩;refine (xA n f _ hl hx).mono ?_;rintro _ rfl;refine ⟨_, rfl, ?_⟩
  have : dO (aF rows 1) L = aF rows 1 L[((L.length : Int) - 1).toNat] := by
   unfold dO;rw [List.getLast?_eq_getElem?, qx (by omega)];simp only;congr 2;omega
  rw [this]; simp [hc]
theorem z1i (hp : dN rows) (h1 : eS rows) (hs0 : ∀ (d : List Int) a, (bS rows d).s = some a -> aF rows 1 a = 0) (n f n2 f2 : Bool) (hl : rows.length < 1000000) (L : List Int) (hr : R32 L) (hL : L.length < 1000000000000) :
 PCall qa 51 [.sl n f (bH rows), .sl n2 f2 (aA L)] fun x => ∃ n f, x = .sl n f (aA (iB rows L)) := by
 refine z09 _ _ _ _ _ _ (fun i _ s => (0 <= i /\ i <= L.length) /\ s = aA (bS rows (L.take i.toNat)).out) (fun i _ _ => L.length - i.toNat) ?_;unfold zob;refine ⟨⟨rfl, ⟨Int.le_refl _, by omega⟩, rfl⟩, ?_⟩;rintro i n0 _ ⟨⟨i0, i1⟩, rfl⟩;refine aC (fun hc => ?_) (fun hc => ?_)
 ·simp only [aB, bX] at hc;have hi : i.toNat < L.length := by omega
  obtain ⟨g1, g2⟩ := iE i0 hi;have hx := hr _ (qg hi);have hw : i64.wrap (i + 1) = i + 1 := wz;rw [hw];have hlen := za6 rows (L.take i.toNat);have hrng := za7 h1 (L.take i.toNat);have hnz := zmy (rows := rows) (d := L.take i.toNat);have hnP := tD (rows := rows) (d := L.take i.toNat);have hsk := hs0 (L.take i.toNat);rw [qr] at hlen;unfold iB at hlen hrng
  have next : ∀ st2, cT rows (bS rows (L.take i.toNat)) L[i.toNat] = st2 -> (0 <= i + 1 /\ i + 1 <= L.length) /\ aA st2.out = aA (bS rows (L.take (i + 1).toNat)).out := fun st2 he => by
   rw [show (i + 1).toNat = i.toNat + 1 by omega, dI hi, iC, he]; exact ⟨⟨by omega, by omega⟩, rfl⟩
  generalize bS rows (L.take i.toNat) = st at *;have hmu : L.length - (i + 1).toNat < L.length - i.toNat := by omega
  have hr2 : R32 st.out := fun y hy => by
   rcases hrng y hy with h | h
   ·exact hr y (List.mem_of_mem_take h)
   ·omega
  have hsz : aU [[PV.int .i32 L[i.toNat]]] 1 /\ ((aA st.out).length + 1) * 4 <= 140737488355328 := ⟨eV [_], by rw [bX]; omega⟩
  have app : cT rows st L[i.toNat] = cW (aF rows 1) st L[i.toNat] -> (0 <= i + 1 /\ i + 1 <= L.length) /\ aA st.out ++ [[PV.int .i32 L[i.toNat]]] = aA (bS rows (L.take (i + 1).toNat)).out := fun he => by
   obtain ⟨k1, k2⟩ := next _ he
   rw [mZ, kF] at k2;exact ⟨k1, k2⟩
  refine (z1g n f n0 false hl st.out hr2 (by omega)).mono ?_;rintro _ ⟨x, rfl, hst⟩
  have hxs : x = dG st := by
   rcases z1f hnP hsk hnz with ⟨e, h⟩ | ⟨k, e, hk, h, h'⟩
   ·rcases hst with ⟨e2, _⟩ | ⟨k2, e2, hk2, q, _⟩
    ·omega
    ·exact absurd q (h k2 hk2)
   ·rcases hst with ⟨e2, q⟩ | ⟨k2, e2, hk2, q, q'⟩
    ·exact absurd h (q k hk)
    ·rcases Nat.lt_trichotomy k k2 with hlt | rfl | hlt
     ·exact absurd q (h' k2 hk2 hlt)
     ·omega
     ·exact absurd h (q' k hk hlt)
  clear hst;subst hxs;refine ⟨_, rfl, rfl, aC (fun hf => ?_) (fun hf => ?_)⟩
  ·simp only [aB, ge_iff_le] at hf;cases hs : st.s with
   | none => simp [dG, hs] at hf
   | some a =>
     have hsi : dG st = st.P.length := by simp [dG, hs]
     have hol : st.out.length = st.P.length + 1 + st.M.length := by simp [CSt.out, hs]; omega
     refine ⟨g1, L[i.toNat], by rw [g2]; rfl, ?_⟩;refine (z1h n f n0 false hl st.out hr2 (by omega) (by omega) (dG st) hx).mono ?_;rintro _ rfl
     have hfree : (decide (dG st = st.out.length - 1) || decide (dO (aF rows 1) st.out < aF rows 1 L[i.toNat])) = true ↔ (st.M = [] ∨ dO (aF rows 1) st.M < aF rows 1 L[i.toNat]) := by
      simp only [qq, aB];by_cases hM : st.M = []
      ·refine ⟨fun _ => .inl hM, fun _ => .inl ?_⟩;rw [hsi, hol, hM]; simp
      ·obtain ⟨D, m, hDm⟩ := (List.eq_nil_or_concat _).resolve_left hM
       have e : dO (aF rows 1) st.out = dO (aF rows 1) st.M := by
        have e2 : st.out = (st.P ++ a :: D) ++ [m] := by simp [CSt.out, hDm, hs]
        rw [e2, hDm, List.concat_eq_append, tC, tC]
       rw [e];refine or_congr ⟨fun h => ?_, fun h => absurd h hM⟩ Iff.rfl;rw [hsi, hol] at h;exact qo (by omega)
     refine ⟨_, rfl, rfl, aC (fun hfr => ?_) (fun hfr => ?_)⟩
     ·have hfr := hfree.1 hfr;have hat : st.out[st.P.length]'(by omega) = a := by simp [CSt.out, hs]
      obtain ⟨k1, k2⟩ := iE (l := st.out) (i := dG st) (by omega) (by omega);have hta : (dG st).toNat = st.P.length := by omega
      have k3 : (aA st.out).getD (dG st).toNat [] = [PV.int .i32 a] := by
       rw [k2]; simp only [hta, hat]
      have ha : -2147483648 <= a /\ a <= 2147483647 := hr2 a (by simp [CSt.out, hs]);refine ⟨k1, a, by rw [k3]; rfl, g1, L[i.toNat], by rw [g2]; rfl, ?_⟩;refine (z1e hp h1 n f hl ha hx).mono ?_;rintro _ rfl;cases hpc : fK rows a L[i.toNat] with
      | some c =>
        refine ⟨_, rfl, rfl, _, rfl, _, rfl, _, rfl, _, rfl, bW rfl ⟨k1, ⟨rfl, by rw [k3]; exact qm _⟩, rfl, ?_, by dsimp only; omega⟩⟩;rw [k3, hta]
        have he : cT rows st L[i.toNat] = ⟨st.P, some c, st.M⟩ := by
         unfold cT; rw [hs]; simp only; rw [if_pos hfr, hpc]
        have e2 : (aA st.out).set st.P.length [PV.int .i32 c] = aA (CSt.out ⟨st.P, some c, st.M⟩) := by
         simp [CSt.out, hs, aA]
        obtain ⟨q1, q2⟩ := next _ he
        exact ⟨q1, e2.trans q2⟩
      | none =>
        have he : cT rows st L[i.toNat] = cW (aF rows 1) st L[i.toNat] := by
         unfold cT; rw [hs]; simp only; rw [if_pos hfr, hpc]
        exact ⟨_, rfl, rfl, _, rfl, _, rfl, _, rfl, _, rfl, bR (by simp) ⟨g1, L[i.toNat], by rw [g2]; rfl, hsz, rfl, app he, by dsimp only; omega⟩⟩
     ·have hfr := fun h => hfr (hfree.2 h)
      have he : cT rows st L[i.toNat] = cW (aF rows 1) st L[i.toNat] := by
       unfold cT; rw [hs]; simp only; rw [if_neg hfr]
      exact ⟨g1, L[i.toNat], by rw [g2]; rfl, hsz, rfl, app he, by dsimp only; omega⟩
  ·simp only [aB, ge_iff_le] at hf
   have hs : st.s = none := by
    cases hs : st.s with
    | none => rfl
    | some a => exact absurd (by simp [dG, hs]) hf
   have he : cT rows st L[i.toNat] = cW (aF rows 1) st L[i.toNat] := by
    unfold cT; rw [hs]
   exact ⟨g1, L[i.toNat], by rw [g2]; rfl, hsz, rfl, app he, by dsimp only; omega⟩
 ·simp only [aB, bX] at hc;rw [ql (by omega)];exact ⟨_, _, rfl⟩
theorem z1j (hp : dN rows) (h1 : eS rows) (hk : iO rows) (hs0 : ∀ (d : List Int) a, (bS rows d).s = some a -> aF rows 1 a = 0) (n f n2 f2 : Bool) (hl : rows.length < 1000000) (L : List Int) (hr : R32 L) (hL : L.length < 1000000) :
 PCall qa 24 [.sl n f (bH rows), .sl n2 f2 (aA L)] fun x => ∃ n f, x = .sl n f (aA (gO rows L)) := by
 refine z1a _ _ _ _ _ _ ?_; unfold zoc;refine (zyo hp hk n f n2 f2 hl L hr hL).mono ?_;rintro _ ⟨n1, f1, rfl⟩;refine ⟨_, _, _, rfl, ?_⟩;refine (z1i hp h1 hs0 n f n1 f1 hl _ (za2 hk hp hr) (zmt hk hL)).mono ?_;rintro _ ⟨n3, f3, rfl⟩;exact ⟨_, _, _, rfl, _, _, rfl⟩
end
end Go.Eng
namespace Go.Eng
open Go Go.Proofs Go.Eng.Rows Go.Eng.Srt
theorem z1k (n f n2 f2 : Bool) (L : List Int) (hr : R32 L) (hL : L.length < 1000000) : PCall qa 24 [.sl n f (bH tab), .sl n2 f2 (aA L)] fun x => ∃ n f, x = .sl n f (aA (gO tab L)) := z1j xO tR xP z01 n f n2 f2 zeb L hr hL
theorem z1l (l m : List Int) (hl : l.length <= 40) (hm : m.length <= 40) : ((bJ l).length + 1) * ((bJ m).length + 1) <= 1048576 /\ (lC (bJ l) (bJ m)).length < 100000 /\ (∀ s ∈ lC (bJ l) (bJ m), s.text.length < 1000000000 /\ 0 <= s.n /\ s.n <= (1000000 : Nat)) /\ (bJ l).length <= 320 /\ (bJ m).length <= 320 := by
 have n1 := nK l;have n2 := nK m;have c1 := xV l;have c2 := xV m;have hm2 : ((bJ l).length + 1) * ((bJ m).length + 1) <= 321 * 321 := Nat.mul_le_mul (by omega) (by omega)
 -- the bounds of what is laid
 have bd : ∀ (M : Nat) (ops : List (Int × List Int)) (S : List DStep) (a b : Nat), BdS S a b -> (∀ o ∈ ops, o.2.length <= M) -> BdS (ops.foldl eK S) (a + ops.length) (b + ops.length * M) := by
  intro M ops
  induction ops with
  | nil => intro S a b h _; simpa using h
  | cons o ops ih =>
    intro S a b h ho;have := ih (eK S o) (a + 1) (b + M) (znx (k := o.1) (c := o.2) h (ho o qh)) fun x hx => ho x (qd _ hx);rw [List.foldl_cons, qc];rw [show a + 1 + ops.length = a + (ops.length + 1) by omega, show b + M + ops.length * M = b + (ops.length + 1) * M by rw [Nat.add_mul]; omega] at this;exact this
 have mem : ∀ (n : Nat) (A B : List (List Int)), A.length + B.length <= n -> (cU A B).length <= A.length + B.length /\ ∀ o ∈ cU A B, o.2 ∈ A ∨ o.2 ∈ B := by
  intro n
  induction n with
  | zero =>
    intro A B h;have : A = [] := qo (by omega);have : B = [] := qo (by omega);subst A; subst B;rw [tH]; exact ⟨qm _, fun o ho => by cases ho⟩
  | succ n ih =>
    intro A B h
    match A, B with
    | [], [] => rw [tH]; exact ⟨qm _, fun o ho => by cases ho⟩
    | a :: xs, [] =>
      obtain ⟨i1, i2⟩ := ih xs [] (by simp only [qc, qaa] at h ⊢; omega);rw [wI];refine ⟨by simp only [qc] at i1 ⊢; omega, fun o ho => ?_⟩;rcases List.mem_cons.1 ho with rfl | ho
      ·exact .inl qh
      ·exact (i2 o ho).imp (qd _) id
    | [], b :: bs =>
      obtain ⟨i1, i2⟩ := ih [] bs (by simp only [qc, qaa] at h ⊢; omega);rw [wJ];refine ⟨by simp only [qc] at i1 ⊢; omega, fun o ho => ?_⟩;rcases List.mem_cons.1 ho with rfl | ho
      ·exact .inr qh
      ·exact (i2 o ho).imp id (qd _)
    | a :: xs, b :: bs =>
      rw [qG];simp only [qc] at h;split
      ·obtain ⟨i1, i2⟩ := ih xs bs (by omega);refine ⟨by simp only [qc] at i1 ⊢; omega, fun o ho => ?_⟩;rcases List.mem_cons.1 ho with rfl | ho
       ·exact .inl qh
       ·exact (i2 o ho).imp (qd _) (qd _)
      ·split
       ·obtain ⟨i1, i2⟩ := ih xs (b :: bs) (by simp only [qc]; omega);refine ⟨by simp only [qc] at i1 ⊢; omega, fun o ho => ?_⟩;rcases List.mem_cons.1 ho with rfl | ho
        ·exact .inl qh
        ·exact (i2 o ho).imp (qd _) id
       ·obtain ⟨i1, i2⟩ := ih (a :: xs) bs (by simp only [qc]; omega);refine ⟨by simp only [qc] at i1 ⊢; omega, fun o ho => ?_⟩;rcases List.mem_cons.1 ho with rfl | ho
        ·exact .inr qh
        ·exact (i2 o ho).imp id (qd _)
 obtain ⟨m1, m2⟩ := mem _ (bJ l) (bJ m) (qm _);have o1 := q9 l (by omega);have o2 := q9 m (by omega);have hb := bd 100000 (cU (bJ l) (bJ m)) [] 0 0 zeo fun o ho => (m2 o ho).elim (fun h => (o1 _ h).2) fun h => (o2 _ h).2;rw [Nat.zero_add, Nat.zero_add] at hb;obtain ⟨b1, b2⟩ := hb;have hlen : (lC (bJ l) (bJ m)).length <= (cU (bJ l) (bJ m)).length := b1;have hmul : (cU (bJ l) (bJ m)).length * 100000 <= 640 * 100000 := Nat.mul_le_mul_right _ (by omega);refine ⟨by omega, by omega, fun s hs => ?_, by omega, by omega⟩;have := b2 s hs;exact ⟨by omega, this.1, by omega⟩
theorem z1m (xs ys : List (List Int)) (a b : List Int) : aZ (xs ++ [a]) (ys ++ [b]) = if a = b then aZ xs ys + 1 else max (aZ xs (ys ++ [b])) (aZ (xs ++ [a]) ys) := by
 rw [<- wH (xs ++ [a]), <- wH xs, <- wH xs (ys ++ [b]), <- wH (xs ++ [a]) ys];simp only [List.reverse_append, List.reverse_cons, List.reverse_nil, qab, List.singleton_append];rw [qE]
def c6 (A B : List (List Int)) (i : Nat) : List Int := (List.range (B.length + 1)).map fun k => ((aZ (A.take i) (B.take k) : Nat) : Int)
theorem kH (A B : List (List Int)) (i : Nat) : (c6 A B i).length = B.length + 1 := by simp [c6]
theorem tV (A B : List (List Int)) (i k : Nat) (h : k <= B.length) : (c6 A B i).getD k 0 = (aZ (A.take i) (B.take k) : Nat) := by
 simp only [c6, qu, List.getElem?_map];rw [List.getElem?_range (by omega)]; rfl
theorem z1n (A B : List (List Int)) : c6 A B 0 = qac (B.length + 1) 0 := by
 apply List.ext_getElem
 ·simp [c6]
 ·intro k h1 h2;simp [c6, wG]
theorem z1o {L : List Int} {m k : Nat} (h : k < m) : (L.take m).getD k 0 = L.getD k 0 := by
 simp only [qu, List.getElem?_take, if_pos h]
theorem zod (A B : List (List Int)) (i k : Nat) (h : k + 1 <= B.length) {v : Int} (hv : v = (aZ (A.take i) (B.take (k + 1)) : Nat)) : (c6 A B i).take (k + 1) ++ [v] = (c6 A B i).take (k + 2) := by
 rw [show k + 2 = (k + 1) + 1 by rfl, dI (l := c6 A B i) (i := k + 1) (by rw [kH]; omega), hv, <- tV A B i (k + 1) h];congr 1;simp only [qu];rw [qx (by rw [kH]; omega)]; rfl
theorem zoe (A B : List (List Int)) (i k : Nat) (hi : i < A.length) (hk : k < B.length) : aZ (A.take (i + 1)) (B.take (k + 1)) = if A.getD i [] = B.getD k [] then aZ (A.take i) (B.take k) + 1 else max (aZ (A.take i) (B.take (k + 1))) (aZ (A.take (i + 1)) (B.take k)) := by
 have ea : A.getD i [] = A[i] := by simp [qu, hi]
 have eb : B.getD k [] = B[k] := by simp [qu, hk]
 rw [dI hi, dI hk, z1m, ea, eb]
theorem zev (L : List Int) (v : Int) : bM L ++ [[.int .i64 v]] = bM (L ++ [v]) := by simp [bM]
theorem zof (A B : List (List Int)) (i : Nat) : bM ((c6 A B i).take 1) = [[.int .i64 0]] := by
 have h := tV A B i 0 (qn _);rw [qad, tF] at h;have hl := kH A B i
 match c6 A B i, h, hl with
 | x :: r, h, _ => simp [qu] at h; simp [bM, h]
theorem z1p (A B : List (List Int)) (i : Nat) (h : 1 <= B.length) {v : Int} (hv : v = (aZ (A.take i) (B.take 1) : Nat)) : ([[.int .i64 0], [.int .i64 v]] : LL) = bM ((c6 A B i).take 2) := by
 rw [<- zod A B i 0 h hv, <- zev, zof]; rfl
section
variable {QA QB : List (Bool × Bool × List Int)} {A B : List (List Int)}
def jC (A B : List (List Int)) : Bool -> Bool -> LL -> Int -> Int -> Bool -> LL -> Bool -> Bool -> LL -> Int -> Int -> Bool -> LL -> Prop := fun _ _ _ tx _ _ _ _ _ s x y _ t => x = tx /\ ∃ i k : Nat, x = i /\ i < A.length /\ y = k /\ 1 <= k /\ k <= B.length /\ s = bM (c6 A B i) /\ t = bM ((c6 A B (i + 1)).take (k + 1))
def mC (B : List (List Int)) : Bool -> Bool -> LL -> Int -> Int -> Bool -> LL -> Nat := fun _ _ _ _ y _ _ => B.length - y.toNat
theorem rg (A B : List (List Int)) (i k : Nat) (h : k <= B.length) : aD (bM (c6 A B i)) (k : Int) 1 /\ (bM (c6 A B i)).getD k [] = [.int .i64 (aZ (A.take i) (B.take k) : Nat)] := by
 refine ⟨lJ _ _ (by rw [kH]; omega), ?_⟩;rw [iY _ _ (by rw [kH]; omega), tV A B i k h]
theorem tg (A B : List (List Int)) (i m k : Nat) (h : k < m) (h2 : m <= B.length + 1) : aD (bM ((c6 A B i).take m)) (k : Int) 1 /\ (bM ((c6 A B i).take m)).getD k [] = [.int .i64 (aZ (A.take i) (B.take k) : Nat)] := by
 have hl : ((c6 A B i).take m).length = m := by rw [qr, kH]; omega
 refine ⟨lJ _ _ (by omega), ?_⟩;rw [iY _ _ (by omega), z1o h, tV A B i k (by omega)]
theorem bl {A : List (List Int)} (B : List (List Int)) (bA : A.length < 100000) (i k : Nat) : aZ (A.take i) (B.take k) < 1000000 := Nat.lt_of_le_of_lt (zbc _ _) (by rw [qr]; omega)
theorem zog (n f n2 f2 : Bool) (hA : QA.map (fun q => q.2.2) = A) (hB : QB.map (fun q => q.2.2) = B) (bA : A.length < 100000) (bB : B.length < 100000) (mA : ∀ i : Nat, i < A.length -> (A.getD i []).length < 1000000000000) (i : Nat) (K7 : Bool -> Bool -> LL -> Int -> Prop)
 (hK : ∀ n0, K7 n0 false (bM (c6 A B (i + 1))) ((i + 1 : Nat) : Int)) (n5 f5 : Bool) (s5 tt : LL) : tQ n f (QA.map clT) n2 f2 (QB.map clT) (jC A B) (mC B) K7 n5 f5 s5 (i : Int) tt := by
 unfold tQ;have lB := oV hB;rw [lB];rintro n51 f51 _ _ _ n01 _ ⟨hx, i', k, rfl, hi2, rfl, hk1, hk2, rfl, rfl⟩;have hii : i' = i := by omega
 subst hii;refine aC (fun hk => ?_) (fun hk => ?_)
 ·have hk : k < B.length := by simp only [aB] at hk; omega
  rw [jY];obtain ⟨ga, na, fa, ea⟩ := qY hA i' hi2;obtain ⟨gb, nb, fb, eb⟩ := qY hB k hk;have t1 := tg A B (i' + 1) (k + 1) k (by omega) (by omega);have hst := zoe A B i' k hi2 hk;have b1 := bl B bA (i' + 1) (k + 1);have b0 := bl B bA i' k;have sz : ∀ v : Int, aU ([[.int .i64 v]] : LL) 1 /\ ((bM ((c6 A B (i' + 1)).take (k + 1))).length + 1) * 8 <= 140737488355328 := fun v => ⟨fun e he => by cases he; rfl, by rw [zen, qr, kH]; omega⟩
  have nx : ∀ v : Int, v = (aZ (A.take (i' + 1)) (B.take (k + 1)) : Nat) -> (i' : Int) = i' /\ ∃ i'' k' : Nat, (i' : Int) = i'' /\ i'' < A.length /\ ((k + 1 : Nat) : Int) = k' /\ 1 <= k' /\ k' <= B.length /\ bM (c6 A B i') = bM (c6 A B i'') /\ bM ((c6 A B (i' + 1)).take (k + 1)) ++ [[.int .i64 v]] = bM ((c6 A B (i'' + 1)).take (k' + 1)) := fun v hv =>
   ⟨rfl, i', k + 1, rfl, hi2, rfl, by omega, hk, rfl, by rw [zev, zod A B (i' + 1) k hk hv]⟩
  have mu : B.length - (((k + 1 : Nat) : Int)).toNat < B.length - (k : Int).toNat := by omega
  refine ⟨(rg A B i' (k + 1) hk).1, (aZ (A.take i') (B.take (k + 1)) : Nat), by rw [qb, (rg A B i' (k + 1) hk).2]; rfl, t1.1, (aZ (A.take (i' + 1)) (B.take k) : Nat), by rw [qb, t1.2]; rfl, ?_⟩
  have eqc : ∀ b : Bool, b = decide (A.getD i' [] = B.getD k []) -> (b = true -> aD (bM (c6 A B i')) (k : Int) 1 /\ ∃ n13 : Int, ((bM (c6 A B i')).getD (k : Int).toNat []).head? = some (.int .i64 n13) /\ (aZ (A.take (i' + 1)) (B.take (k + 1)) : Int) = i64.wrap (n13 + 1)) := fun b hb h => by
   rw [hb, aB] at h;rw [if_pos h] at hst;refine ⟨(rg A B i' k (by omega)).1, (aZ (A.take i') (B.take k) : Nat), by rw [qb, (rg A B i' k (by omega)).2]; rfl, ?_⟩;rw [jY, hst]
  refine aC (fun hm => ?_) (fun hm => ?_)
  ·have hm : aZ (A.take i') (B.take (k + 1)) < aZ (A.take (i' + 1)) (B.take k) := by simp only [aB] at hm; omega
   refine ⟨t1.1, (aZ (A.take (i' + 1)) (B.take k) : Nat), by rw [qb, t1.2]; rfl, ga, na, fa, _, by rw [qb, ea]; rfl, gb, nb, fb, _, by rw [qb, eb]; rfl, (tT na fa nb fb _ _ (mA i' hi2)).mono ?_⟩;rintro _ rfl;refine ⟨_, rfl, aC (fun hb => ?_) (fun hb => ?_)⟩
   ·obtain ⟨e1, n13, e2, e3⟩ := eqc _ rfl hb;exact ⟨e1, n13, e2, sz _, rfl, nx _ e3.symm, mu⟩
   ·have hb : ¬ A.getD i' [] = B.getD k [] := by simpa using hb
    rw [if_neg hb] at hst;exact ⟨sz _, rfl, nx _ (by rw [hst]; omega), mu⟩
  ·have hm : aZ (A.take (i' + 1)) (B.take k) <= aZ (A.take i') (B.take (k + 1)) := by simp only [aB] at hm; omega
   refine ⟨ga, na, fa, _, by rw [qb, ea]; rfl, gb, nb, fb, _, by rw [qb, eb]; rfl, (tT na fa nb fb _ _ (mA i' hi2)).mono ?_⟩;rintro _ rfl;refine ⟨_, rfl, aC (fun hb => ?_) (fun hb => ?_)⟩
   ·obtain ⟨e1, n13, e2, e3⟩ := eqc _ rfl hb;exact ⟨e1, n13, e2, sz _, rfl, nx _ e3.symm, mu⟩
   ·have hb : ¬ A.getD i' [] = B.getD k [] := by simpa using hb
    rw [if_neg hb] at hst;exact ⟨sz _, rfl, nx _ (by rw [hst]; omega), mu⟩
 ·have hk : k = B.length := by simp only [aB] at hk; omega
  subst hk;rw [jY];rw [ql (by rw [kH]; omega)];exact hK n01
theorem zoh (n f n2 f2 : Bool) (hA : QA.map (fun q => q.2.2) = A) (hB : QB.map (fun q => q.2.2) = B) (bA : A.length < 100000) (bB : B.length < 100000) (hl : ∀ c ∈ A, c.length < 100000000) :
 PCall qa 16 [.sl n f (QA.map clT), .sl n2 f2 (QB.map clT)] fun v => v = .int .i64 (aZ A B : Nat) := by
 have lA := oV hA;have lB := oV hB
 refine zx2 n f (QA.map clT) n2 f2 (QB.map clT) B.length
  (fun x _ s => ∃ j : Nat, x = j /\ j <= B.length + 1 /\ s = bM (qac j 0)) (fun x _ _ => B.length + 2 - x.toNat)
  (fun _ _ s x => ∃ i : Nat, x = i /\ i <= A.length /\ s = bM (c6 A B i)) (fun _ _ _ x => A.length - x.toNat) (jC A B) (mC B) ?_
 unfold zmc
 have mA : ∀ i : Nat, i < A.length -> (A.getD i []).length < 1000000000000 := fun i h => by
  have := hl _ (qX h);omega
 refine ⟨⟨rfl, 0, rfl, qn _, rfl⟩, ?_⟩;rintro _ n0 _ ⟨j, rfl, hj, rfl⟩;rw [lA, lB];refine aC (fun hc => ?_) (fun hc => ?_)
 ·have hc : j <= B.length := by simp only [aB] at hc; omega
  rw [jY, zev, <- List.replicate_succ'];exact ⟨⟨fun e he => by cases he; rfl, by rw [zen, List.length_replicate]; omega⟩, rfl, ⟨j + 1, rfl, by omega, rfl⟩, by dsimp only; omega⟩
 ·have hc : j = B.length + 1 := by simp only [aB] at hc; omega
  subst hc;refine ⟨⟨rfl, 0, rfl, qn _, by rw [z1n]⟩, ?_⟩;rintro n5 f5 _ _ ⟨i, rfl, hi, rfl⟩;refine aC (fun hia => ?_) (fun hia => ?_)
  ·have hia : i < A.length := by simp only [aB] at hia; omega
   refine aC (fun hB0 => ?_) (fun hB0 => ?_)
   ·have hB0 : 0 < B.length := by simp only [aB] at hB0; omega
    have w01 : i64.wrap ((0 : Int) + 1) = ((1 : Nat) : Int) := rfl;rw [w01];refine ⟨(rg A B i 1 hB0).1, (aZ (A.take i) (B.take 1) : Nat), by rw [(rg A B i 1 hB0).2]; rfl, ⟨by decide, by decide, rfl⟩, 0, rfl, ?_⟩;obtain ⟨ga, na, fa, ea⟩ := qY hA i hia;obtain ⟨gb, nb, fb, eb⟩ := qY hB 0 hB0;have hst := zoe A B i 0 hia hB0;have b0 := bl B bA i 0
    have nx : ∀ v : Int, v = (aZ (A.take (i + 1)) (B.take 1) : Nat) -> (i : Int) = i /\ ∃ i' k' : Nat, (i : Int) = i' /\ i' < A.length /\ ((1 : Nat) : Int) = k' /\ 1 <= k' /\ k' <= B.length /\ bM (c6 A B i) = bM (c6 A B i') /\ ([[.int .i64 0], [.int .i64 v]] : LL) = bM ((c6 A B (i' + 1)).take (k' + 1)) := fun v hv =>
     ⟨rfl, i, 1, rfl, hia, rfl, qm _, hB0, rfl, z1p A B (i + 1) hB0 hv⟩
    have mu : B.length - (((1 : Nat) : Int)).toNat < B.length := by omega
    have ap : ∀ v : Int, gZ true ([[.int .i64 0]] : LL) [[.int .i64 v]] 1 8 := fun v => ⟨rfl, .inr (by simp), fun e he => (by simp at he; subst he; rfl), fun e he => (by cases he; rfl), by show (1 + 1) * 8 <= 140737488355328; decide⟩;refine aC (fun hm => absurd hm (by simp only [aB]; omega)) (fun hm => ?_);refine ⟨ga, na, fa, _, by rw [qb, ea]; rfl, gb, nb, fb, _, by rw [eb]; rfl, (tT na fa nb fb _ _ (mA i hia)).mono ?_⟩;rintro _ rfl;refine ⟨_, rfl, aC (fun hb => ?_) (fun hb => ?_)⟩
    ·rw [aB] at hb;rw [if_pos hb] at hst;exact ⟨(rg A B i 0 (qn _)).1, (aZ (A.take i) (B.take 0) : Nat), by rw [(rg A B i 0 (qn _)).2]; rfl, ap _, ⟨rfl, nx _ (by rw [jY, hst]), mu⟩, zog n f n2 f2 hA hB bA bB mA i _ (fun n0 => ⟨rfl, ⟨i + 1, rfl, hia, rfl⟩, by dsimp only; omega⟩) _ _ _ _⟩
    ·have hb : ¬ A.getD i [] = B.getD 0 [] := by simpa using hb
     rw [if_neg hb, qad, tF (A.take (i + 1))] at hst;exact ⟨ap _, ⟨rfl, nx _ (by rw [hst]; simp), mu⟩, zog n f n2 f2 hA hB bA bB mA i _ (fun n0 => ⟨rfl, ⟨i + 1, rfl, hia, rfl⟩, by dsimp only; omega⟩) _ _ _ _⟩
   ·have hB0 : B.length = 0 := by simp only [aB] at hB0; omega
    rw [jY];refine ⟨rfl, ⟨i + 1, rfl, hia, ?_⟩, by dsimp only; omega⟩;rw [<- zof A B (i + 1), ql (by rw [kH]; omega)]
  ·have hia : i = A.length := by simp only [aB] at hia; omega
   subst hia
   have hg : (bM (c6 A B A.length)).getD B.length [] = [.int .i64 (aZ A B : Nat)] := by
    rw [iY _ _ (by rw [kH]; omega), tV A B _ _ (qm _), qy, qy]
   exact ⟨lJ _ _ (by rw [kH]; omega), _, by rw [qb, hg]; rfl, rfl⟩
end
theorem zoi (n f n2 f2 : Bool) (l : List Int) (rl : R32 l) (hl : l.length < 10000) : PCall qa 14 [.sl n f (bH tab), .sl n2 f2 (aA l)] fun x => ∃ (n f : Bool) (Q : List (Bool × Bool × List Int)), x = .sl n f (Q.map clT) /\ Q.map (fun q => q.2.2) = bJ l := by
 refine zx1 _ _ _ _ _ _ ?_;unfold zmb;have hb := nK l;refine (z1k n f n2 f2 l rl (by omega)).mono ?_;rintro _ ⟨n1, f1, rfl⟩;refine ⟨n1, f1, _, rfl, (zz3 zee n f n1 f1 zeb (gO tab l) (zed rl) (by omega) (by omega)).mono ?_⟩;rintro _ ⟨n2, f2, Q, rfl, hQ⟩;exact ⟨n2, f2, _, rfl, n2, f2, Q, rfl, hQ⟩
def rfL (f : Func) : Code := fA (fA (aT (aL (aL (aL (cM f))))))
def rfY (f : Func) : Code := fA (aL (rfL f))
def rfT (f : Func) : Code := m7 (aL (rfY f))
def rfE (f : Func) : Code := qH (aL (rfY f))
def i9 (f : Func) : Array Oper := bD (aT (rfT f))
def xW (f : Func) : Array Oper := bD (aT (aL (rfT f)))
def xX (f : Func) : Array Oper := bD (aL (aL (rfT f)))
def jA (f : Func) : Array Oper := bD (aT (m7 (aL (rfE f))))
def xY (f : Func) : Array Oper := bD (aL (m7 (aL (rfE f))))
def jB (f : Func) : Array Oper := bD (aT (qH (aL (rfE f))))
def xZ (f : Func) : Array Oper := bD (aL (qH (aL (rfE f))))
def yA (f : Func) : Array Oper := bD (aT (aL (aL (aL (aL (cM f))))))
def c8 (v : Value) (na fa : Bool) (xa : LL) (nb fb : Bool) (xb : LL) : Env := [(7, .pv (.sl na fa xa)), (8, .pv (.sl nb fb xb)), (9, .pv (.raw v))]
def lRf : List Nat := [0, 1, 2, 6, 7, 8, 9, 23, 40, 68]
section
variable {na fa nb fb : Bool} {xa xb : LL} {v : Value}
theorem qR0 (n f n2 f2 n3 f3 : Bool) (es ss s3 : LL) (Q : Qt) : cC qa (fun _ => none) 0 84 lRf (fun _ => none) (aT (cM Tryz.f12)) [(0, .pv (.sl n f es)), (1, .pv (.sl n2 f2 ss)), (2, .pv (.sl n3 f3 s3))] [] Q =
 Q .normal [(0, .pv (.sl n f es)), (1, .pv (.sl n2 f2 ss)), (2, .pv (.sl n3 f3 s3)), (6, .pv (.sl true true []))] [] := by kernel_rfl
theorem qR1 (n f n2 f2 n3 f3 : Bool) (es ss s3 : LL) (Q : Qt) : cC qa (fun _ => none) 0 84 lRf (fun _ => none) (aT (aL (cM Tryz.f12))) [(0, .pv (.sl n f es)), (1, .pv (.sl n2 f2 ss)), (2, .pv (.sl n3 f3 s3)), (6, .pv (.sl true true []))] [] Q =
 PCall qa 14 [.sl n f es, .sl n2 f2 ss] fun v => ∃ n1 f1 es1, v = .sl n1 f1 es1 /\ PCall qa 14 [.sl n f es, .sl n3 f3 s3] fun v1 => ∃ n4 f4 es2, v1 = .sl n4 f4 es2 /\
  Q .normal [(0, .pv (.sl n f es)), (1, .pv (.sl n2 f2 ss)), (2, .pv (.sl n3 f3 s3)), (6, .pv (.sl true true [])), (7, .pv (.sl n1 f1 es1)), (8, .pv (.sl n4 f4 es2))] [] := by kernel_rfl
theorem qR2 (Q : Qt) : cC qa (fun _ => none) 0 84 lRf (fun _ => none) (aT (aL (aL (cM Tryz.f12)))) [(7, .pv (.sl na fa xa)), (8, .pv (.sl nb fb xb))] [] Q = Q .normal [(7, .pv (.sl na fa xa)), (8, .pv (.sl nb fb xb)), (9, .pv (.sl true true []))] [] := by kernel_rfl
theorem qR3 (Q : Qt) : cC qa (fun _ => none) 0 84 lRf (fun _ => none) (aT (rfL Tryz.f12)) (c8 v na fa xa nb fb xb) [] Q =
 if (decide ((xa.length : Int) > 0) || decide ((xb.length : Int) > 0)) = true then Q .normal (c8 v na fa xa nb fb xb ++ [(23, .pv (.bool (decide ((xa.length : Int) > 0) || decide ((xb.length : Int) > 0))))]) []
 else Q (.exit 0) (c8 v na fa xa nb fb xb ++ [(23, .pv (.bool (decide ((xa.length : Int) > 0) || decide ((xb.length : Int) > 0))))]) [] := by kernel_rfl
theorem qR4 (Q : Qt) : cC qa (fun _ => none) 0 84 lRf (fun _ => none) (aT (rfY Tryz.f12)) (c8 v na fa xa nb fb xb) [] Q =
 if (decide ((xa.length : Int) > 0) && decide ((xb.length : Int) > 0)) = true then aD xa 0 1 /\ ∃ n f es, (xa.getD 0 []).head? = some (.sl n f es) /\ aD xb 0 1 /\ ∃ n1 f1 es1, (xb.getD 0 []).head? = some (.sl n1 f1 es1) /\ PCall qa 21 [.sl n f es, .sl n1 f1 es1] fun v1 => ∃ b, v1 = .bool b /\
  Q .normal (c8 v na fa xa nb fb xb ++ [(40, .pv (.bool b))]) []
 else Q .normal (c8 v na fa xa nb fb xb ++ [(40, .pv (.bool false))]) [] := by kernel_rfl
theorem qR8 (Q : Qt) : cC qa (fun _ => none) 0 84 lRf (fun _ => none) (aT (rfE Tryz.f12)) (c8 v na fa xa nb fb xb) [] Q =
 if ((xb.length : Int) == 0) = true then Q .normal (c8 v na fa xa nb fb xb ++ [(68, .pv (.bool true))]) []
 else if decide ((xa.length : Int) > 0) = true then (dS xa.length (some 1) none none /\ aU xa 1) /\ (dS xb.length (some 1) none none /\ aU xb 1) /\
  PCall qa 16 [.sl na (fa && decide ((xa.length : Int) = (xa.length : Int))) (qi 1 (qj (xa.length : Int).toNat xa)), .sl nb fb xb] fun v1 => ∃ n, v1 = .int .i64 n /\
   PCall qa 16 [.sl na fa xa, .sl nb (fb && decide ((xb.length : Int) = (xb.length : Int))) (qi 1 (qj (xb.length : Int).toNat xb))] fun v2 => ∃ n1, v2 = .int .i64 n1 /\
    Q .normal (c8 v na fa xa nb fb xb ++ [(68, .pv (.bool (decide (n >= n1))))]) []
 else Q .normal (c8 v na fa xa nb fb xb ++ [(68, .pv (.bool false))]) [] := by kernel_rfl
def e5R (v : Value) (na fa : Bool) (xa : LL) (nb fb : Bool) (xb : LL) (n f : Bool) (es : LL) : Env := (44, .pv (.sl n f es)) :: (43, .pv (.ptr (xa.getD 0 []))) :: (42, .pv (.sl na fa xa)) :: (41, .pv (.raw v)) :: c8 v na fa xa nb fb xb
def e9R (v : Value) (na fa : Bool) (xa : LL) (nb fb : Bool) (xb : LL) (n f : Bool) (es : LL) : Env := (72, .pv (.sl n f es)) :: (71, .pv (.ptr (xa.getD 0 []))) :: (70, .pv (.sl na fa xa)) :: (69, .pv (.raw v)) :: c8 v na fa xa nb fb xb
def zew (v : Value) (na fa : Bool) (xa : LL) (nb fb : Bool) (xb : LL) (n f : Bool) (es : LL) : Env := (79, .pv (.sl n f es)) :: (78, .pv (.ptr (xb.getD 0 []))) :: (77, .pv (.sl nb fb xb)) :: (76, .pv (.raw v)) :: c8 v na fa xa nb fb xb
theorem z1q (K : Env -> Hp -> Prop) : aM qa (fun _ => none) 84 (i9 Tryz.f12).toList (((i9 Tryz.f12).toList.drop 0).take 4) (c8 v na fa xa nb fb xb) [] K =
 (aD xa 0 1 /\ ∃ n f es, (xa.getD 0 []).head? = some (.sl n f es) /\ K (e5R v na fa xa nb fb xb n f es) []) := by kernel_rfl
theorem z1r (n f : Bool) (es : LL) (v' : Value) (K : Env -> Hp -> Prop) : aM qa (fun _ => none) 84 (i9 Tryz.f12).toList (((i9 Tryz.f12).toList.drop 5).take 1) (set (e5R v na fa xa nb fb xb n f es) 45 (.pv (.raw v'))) [] K =
 K ((9, .pv (.raw v')) :: set (e5R v na fa xa nb fb xb n f es) 45 (.pv (.raw v'))) [] := by kernel_rfl
theorem qR6 (K : Env -> Hp -> Prop) : aM qa (fun _ => none) 84 (xW Tryz.f12).toList (xW Tryz.f12).toList (c8 v na fa xa nb fb xb) [] K =
 ((dS xa.length (some 1) none none /\ aU xa 1) /\ K ((7, .pv (.sl na (fa && decide ((xa.length : Int) = (xa.length : Int))) (qi 1 (qj (xa.length : Int).toNat xa)))) :: (47, .pv (.sl na (fa && decide ((xa.length : Int) = (xa.length : Int))) (qi 1 (qj (xa.length : Int).toNat xa)))) :: (46, .pv (.sl na fa xa)) :: c8 v na fa xa nb fb xb) []) := by kernel_rfl
theorem qR7 (K : Env -> Hp -> Prop) : aM qa (fun _ => none) 84 (xX Tryz.f12).toList (xX Tryz.f12).toList (c8 v na fa xa nb fb xb) [] K =
 ((dS xb.length (some 1) none none /\ aU xb 1) /\ K ((8, .pv (.sl nb (fb && decide ((xb.length : Int) = (xb.length : Int))) (qi 1 (qj (xb.length : Int).toNat xb)))) :: (49, .pv (.sl nb (fb && decide ((xb.length : Int) = (xb.length : Int))) (qi 1 (qj (xb.length : Int).toNat xb)))) :: (48, .pv (.sl nb fb xb)) :: c8 v na fa xa nb fb xb) []) := by kernel_rfl
theorem z1s (K : Env -> Hp -> Prop) : aM qa (fun _ => none) 84 (jA Tryz.f12).toList (((jA Tryz.f12).toList.drop 0).take 4) (c8 v na fa xa nb fb xb) [] K =
 (aD xa 0 1 /\ ∃ n f es, (xa.getD 0 []).head? = some (.sl n f es) /\ K (e9R v na fa xa nb fb xb n f es) []) := by kernel_rfl
theorem z1t (n f : Bool) (es : LL) (v' : Value) (K : Env -> Hp -> Prop) : aM qa (fun _ => none) 84 (jA Tryz.f12).toList (((jA Tryz.f12).toList.drop 5).take 1) (set (e9R v na fa xa nb fb xb n f es) 73 (.pv (.raw v'))) [] K =
 K ((9, .pv (.raw v')) :: set (e9R v na fa xa nb fb xb n f es) 73 (.pv (.raw v'))) [] := by kernel_rfl
theorem z1u (K : Env -> Hp -> Prop) : aM qa (fun _ => none) 84 (xY Tryz.f12).toList (xY Tryz.f12).toList (c8 v na fa xa nb fb xb) [] K =
 ((dS xa.length (some 1) none none /\ aU xa 1) /\ K ((7, .pv (.sl na (fa && decide ((xa.length : Int) = (xa.length : Int))) (qi 1 (qj (xa.length : Int).toNat xa)))) :: (75, .pv (.sl na (fa && decide ((xa.length : Int) = (xa.length : Int))) (qi 1 (qj (xa.length : Int).toNat xa)))) :: (74, .pv (.sl na fa xa)) :: c8 v na fa xa nb fb xb) []) := by kernel_rfl
theorem z1v (K : Env -> Hp -> Prop) : aM qa (fun _ => none) 84 (jB Tryz.f12).toList (((jB Tryz.f12).toList.drop 0).take 4) (c8 v na fa xa nb fb xb) [] K =
 (aD xb 0 1 /\ ∃ n f es, (xb.getD 0 []).head? = some (.sl n f es) /\ K (zew v na fa xa nb fb xb n f es) []) := by kernel_rfl
theorem z1w (n f : Bool) (es : LL) (v' : Value) (K : Env -> Hp -> Prop) : aM qa (fun _ => none) 84 (jB Tryz.f12).toList (((jB Tryz.f12).toList.drop 5).take 1) (set (zew v na fa xa nb fb xb n f es) 80 (.pv (.raw v'))) [] K =
 K ((9, .pv (.raw v')) :: set (zew v na fa xa nb fb xb n f es) 80 (.pv (.raw v'))) [] := by kernel_rfl
theorem z1x (K : Env -> Hp -> Prop) : aM qa (fun _ => none) 84 (xZ Tryz.f12).toList (xZ Tryz.f12).toList (c8 v na fa xa nb fb xb) [] K =
 ((dS xb.length (some 1) none none /\ aU xb 1) /\ K ((8, .pv (.sl nb (fb && decide ((xb.length : Int) = (xb.length : Int))) (qi 1 (qj (xb.length : Int).toNat xb)))) :: (82, .pv (.sl nb (fb && decide ((xb.length : Int) = (xb.length : Int))) (qi 1 (qj (xb.length : Int).toNat xb)))) :: (81, .pv (.sl nb fb xb)) :: c8 v na fa xa nb fb xb) []) := by kernel_rfl
theorem z1y (K : Env -> Hp -> Prop) : aM qa (fun _ => none) 84 (yA Tryz.f12).toList (yA Tryz.f12).toList (c8 v na fa xa nb fb xb) [] K = K ((6, .pv (.raw v)) :: (83, .pv (.raw v)) :: c8 v na fa xa nb fb xb) [] := by kernel_rfl
end
abbrev zoj (f : Func) : Code := .seq (.region 9 (jA f) false) (.region 10 (xY f) false)
abbrev zok (f : Func) : Code := .seq (.region 11 (jB f) false) (.region 12 (xZ f) false)
abbrev zol (f : Func) : Code := .seq (aT (rfE f)) (.cond (.tmp 68) (zoj f) (zok f))
abbrev zex (f : Func) : Code := .block 1 (.seq (aT (rfY f)) (.cond (.tmp 40) (.seq (.region 5 (i9 f) false) (.seq (.region 6 (xW f) false) (.region 7 (xX f) false))) (zol f)))
theorem z1z : Tryz.f12.body = some (.seq (aT (cM Tryz.f12)) (.seq (aT (aL (cM Tryz.f12))) (.seq (aT (aL (aL (cM Tryz.f12)))) (.seq (.block 0 (.loop (.seq (aT (rfL Tryz.f12)) (zex Tryz.f12)))) (.seq (.region 13 (yA Tryz.f12) false) .ret))))) := by kernel_rfl
theorem zey : bU (i9 Tryz.f12).toList = true /\ bU (xW Tryz.f12).toList = true /\ bU (xX Tryz.f12).toList = true /\ bU (jA Tryz.f12).toList = true /\ bU (xY Tryz.f12).toList = true /\ bU (jB Tryz.f12).toList = true /\ bU (xZ Tryz.f12).toList = true /\ bU (yA Tryz.f12).toList = true /\
 (i9 Tryz.f12).size = 6 /\ (jA Tryz.f12).size = 6 /\ (jB Tryz.f12).size = 6 /\ Tryz.f12.results.toList = [.tmp 6] := by and_intros <;> kernel_rfl
theorem z10 : (i9 Tryz.f12)[4]? = some ((i9 Tryz.f12).toList.getD 4 default) /\ ((i9 Tryz.f12).toList.getD 4 default).guard = none /\ ((i9 Tryz.f12).toList.getD 4 default).dst = some 45 /\
 ((i9 Tryz.f12).toList.getD 4 default).op = .call { callee := .value (.func 45), args := #[.tmp 41, .const (.int .i64 0), .tmp 44], argTypes := #[33, 3, 22] } := by and_intros <;> kernel_rfl
theorem z11 : (jA Tryz.f12)[4]? = some ((jA Tryz.f12).toList.getD 4 default) /\ ((jA Tryz.f12).toList.getD 4 default).guard = none /\ ((jA Tryz.f12).toList.getD 4 default).dst = some 73 /\
 ((jA Tryz.f12).toList.getD 4 default).op = .call { callee := .value (.func 45), args := #[.tmp 69, .const (.int .i64 1), .tmp 72], argTypes := #[33, 3, 22] } := by and_intros <;> kernel_rfl
theorem z12 : (jB Tryz.f12)[4]? = some ((jB Tryz.f12).toList.getD 4 default) /\ ((jB Tryz.f12).toList.getD 4 default).guard = none /\ ((jB Tryz.f12).toList.getD 4 default).dst = some 80 /\
 ((jB Tryz.f12).toList.getD 4 default).op = .call { callee := .value (.func 45), args := #[.tmp 76, .const (.int .i64 2), .tmp 79], argTypes := #[33, 3, 22] } := by and_intros <;> kernel_rfl
theorem rC (Q : List (Bool × Bool × List Int)) (i : Nat) : qi 1 (qj ((((Q.drop i).map clT).length : Nat) : Int).toNat ((Q.drop i).map clT)) = (Q.drop (i + 1)).map clT := by
 rw [qb, qy, <- qp, List.drop_drop]
theorem rD (Q : List (Bool × Bool × List Int)) (i : Nat) (h : i < Q.length) : dS ((Q.drop i).map clT).length (some 1) none none /\ aU ((Q.drop i).map clT) 1 :=
 ⟨z0r (k := 1) (by rw [qk, qe]; omega), kB xS _⟩
theorem yB {Q : List (Bool × Bool × List Int)} {C : List (List Int)} (hQ : Q.map (fun q => q.2.2) = C) {i : Nat} (h : i < C.length) : aD ((Q.drop i).map clT) 0 1 /\ ∃ n f, ((Q.drop i).map clT).getD 0 [] = [.sl n f (aA (C.getD i []))] := by
 have := qAt (C := C.drop i) (Q := Q.drop i) (by rw [qp, hQ]) (i := (0 : Int)) (by omega) (by rw [qe]; show 0 < _; omega);obtain ⟨h1, n, f, h2⟩ := this;refine ⟨h1, n, f, ?_⟩;have h3 : (C.drop i).getD 0 [] = C.getD i [] := by simp [qu, List.getElem?_drop]
 rw [<- h3]; exact h2
section
variable {QA QB : List (Bool × Bool × List Int)} {A B : List (List Int)}
abbrev URf := Bool × Bool × (Nat × Nat × (List DStep × Value))
def sRf (na nb : Bool) (QA QB : List (Bool × Bool × List Int)) (u : URf) : Env := c8 u.2.2.2.2.2 na u.1 ((QA.drop u.2.2.1).map clT) nb u.2.1 ((QB.drop u.2.2.2.1).map clT)
abbrev QRf (na nb : Bool) (QA QB : List (Bool × Bool × List Int)) (A B : List (List Int)) (M n : Nat) : List DStep × Value -> Qt := fun s' x e h => x = .normal /\ ∃ u' : URf, LeE (sRf na nb QA QB u') e /\ h = [] /\ s' = u'.2.2.2.2 /\ JOf A B M u'.2.2 /\ A.length + B.length - (u'.2.2.1 + u'.2.2.2.1) < A.length + B.length - n
abbrev CR (w0 : World) (I0 : Nat -> Prop) := CodeY (OutZ 90 21 w0 I0) qa 84
abbrev eQ (na nb : Bool) (QA QB : List (Bool × Bool × List Int)) (v : Value) (fa fb : Bool) (i k : Nat) : Env := c8 v na fa ((QA.drop i).map clT) nb fb ((QB.drop k).map clT)
theorem z13 {w0 : World} {I0 : Nat -> Prop} (na nb : Bool) (hA : QA.map (fun q => q.2.2) = A) (hB : QB.map (fun q => q.2.2) = B) (bA : A.length < 100000) (bB : B.length < 100000) {M : Nat} (hM : M <= 100000) (hcA : ∀ c ∈ A, c ≠ [] /\ c.length <= M) (hcB : ∀ c ∈ B, c ≠ [] /\ c.length <= M)
 (u : URf) (hJ : JOf A B M u.2.2) :
 CR w0 I0 (.seq (aT (rfL Tryz.f12)) (zex Tryz.f12))
  u.2.2.2.2 (sRf na nb QA QB u) [] fun s' x e h => match x with
   | .normal => ∃ u' : URf, LeE (sRf na nb QA QB u') e /\ h = [] /\ s' = u'.2.2.2.2 /\ JOf A B M u'.2.2 /\ A.length + B.length - (u'.2.2.1 + u'.2.2.2.1) < A.length + B.length - (u.2.2.1 + u.2.2.2.1)
   | .exit n => n = 0 /\ (∃ u' : URf, s' = u'.2.2.2.2 /\ LeE (sRf na nb QA QB u') e) /\ h = [] /\ s'.1 = lC A B
   | .ret => False := by
 obtain ⟨fa, fb, i, k, S, v⟩ := u;have lQA : QA.length = A.length := by rw [<- hA, qk]
 have lQB : QB.length = B.length := by rw [<- hB, qk]
 have lA : ((QA.drop i).map clT).length = A.length - i := by rw [qk, qe, lQA]
 have lB : ((QB.drop k).map clT).length = B.length - k := by rw [qk, qe, lQB]
 obtain ⟨k1, k2⟩ := hJ.ok (by omega) (by omega) hM;have i1 := hJ.i1;have j1 := hJ.k1;dsimp only at k1 k2 i1 j1 ⊢;show CodeY _ _ _ _ _ (eQ na nb QA QB v fa fb i k) _ _;obtain ⟨d1, d2, d3, d4, d5, d6, d7, d8, z1, z2, z3, _⟩ := zey;have memA : i < A.length -> A.getD i [] ∈ A := qX;have memB' : k < B.length -> B.getD k [] ∈ B := qX
 have done : ∀ (fa' fb' : Bool) (i' k' : Nat) (s' : List DStep × Value) (e : Env), LeE (eQ na nb QA QB s'.2 fa' fb' i' k') e -> JOf A B M (i', k', s') -> i + k < i' + k' -> QRf na nb QA QB A B M (i + k) s' .normal e [] := fun fa' fb' i' k' s' e h1 h2 h3 =>
  ⟨rfl, (fa', fb', i', k', s'), h1, rfl, rfl, h2, by have := h2.i1; have := h2.k1; dsimp only at *; omega⟩
 have rest : (i < A.length -> k < B.length -> A.getD i [] ≠ B.getD k []) -> (i < A.length ∨ k < B.length) -> CR w0 I0 (zol Tryz.f12)
  (S, v) (eQ na nb QA QB v fa fb i k) [] (QRf na nb QA QB A B M (i + k)) := by
  intro hne hor
  have drop : i < A.length -> cU (A.drop i) (B.drop k) = (1, A.getD i []) :: cU (A.drop (i + 1)) (B.drop k) -> CR w0 I0 (zoj Tryz.f12)
   (S, v) (eQ na nb QA QB v fa fb i k) [] (QRf na nb QA QB A B M (i + k)) := by
   intro hi hs;obtain ⟨c1, c2, c3, c4⟩ := z11;obtain ⟨q1, n1, f1, q2⟩ := yB hA hi;obtain ⟨e1, e2⟩ := hcA _ (memA hi);refine CodeY.seq (CodeY.regAdd (H := fun _ => none) zdu d4 c1 c2 c3 (by omega) c4 rfl rfl ⟨by omega, by omega⟩ k1 k2 ?_);rw [z1s, q2];refine ⟨q1, n1, f1, _, rfl, rfl, n1, f1, _, rfl, e1, by omega, fun v' => ?_⟩;rw [z2];show aM qa (fun _ => none) 84 _ (((jA Tryz.f12).toList.drop 5).take 1) _ _ _;rw [z1t];refine CodeY.le (e' := eQ na nb QA QB v' fa fb i k) ⟨rfl, rfl, rfl, trivial⟩ (CodeY.region (H := fun _ => none) ?_ d5);rw [z1u, rC];exact ⟨rD QA i (by omega), done _ fb (i + 1) k (eK S (1, A.getD i []), v') _ ⟨rfl, rfl, rfl, trivial⟩ (hJ.step hi j1 hs (.inl (by omega)) e2) (by omega)⟩
  have add : k < B.length -> cU (A.drop i) (B.drop k) = (2, B.getD k []) :: cU (A.drop i) (B.drop (k + 1)) -> CR w0 I0 (zok Tryz.f12)
   (S, v) (eQ na nb QA QB v fa fb i k) [] (QRf na nb QA QB A B M (i + k)) := by
   intro hk hs;obtain ⟨c1, c2, c3, c4⟩ := z12;obtain ⟨q1, n1, f1, q2⟩ := yB hB hk;obtain ⟨e1, e2⟩ := hcB _ (memB' hk);refine CodeY.seq (CodeY.regAdd (H := fun _ => none) zdu d6 c1 c2 c3 (by omega) c4 rfl rfl ⟨by omega, by omega⟩ k1 k2 ?_);rw [z1v, q2];refine ⟨q1, n1, f1, _, rfl, rfl, n1, f1, _, rfl, e1, by omega, fun v' => ?_⟩;rw [z3];show aM qa (fun _ => none) 84 _ (((jB Tryz.f12).toList.drop 5).take 1) _ _ _;rw [z1w];refine CodeY.le (e' := eQ na nb QA QB v' fa fb i k) ⟨rfl, rfl, rfl, trivial⟩ (CodeY.region (H := fun _ => none) ?_ d7);rw [z1x, rC];exact ⟨rD QB k (by omega), done fa _ i (k + 1) (eK S (2, B.getD k []), v') _ ⟨rfl, rfl, rfl, trivial⟩ (hJ.step i1 hk hs (.inl (by omega)) e2) (by omega)⟩
  refine CodeY.sq OutZ.stab (Eq.mpr (qR8 _) ?_);rw [rC, rC, lA, lB];refine aC (fun hk => ?_) (fun hk => ?_)
  ·have hk : k = B.length := by simp only [beq_iff_eq] at hk; omega
   have hi : i < A.length := hor.resolve_right (by omega);refine CodeY.cond (t := true) rfl (CodeY.leA (drop hi ?_));rw [hk, qt, iF A i [] hi, wI]
  ·have hk : k < B.length := by simp only [beq_iff_eq] at hk; omega
   refine aC (fun hi => ?_) (fun hi => ?_)
   ·have hi : i < A.length := by simp only [aB] at hi; omega
    have s1 := rD QA i (by omega);have s2 := rD QB k (by omega);rw [lA] at s1;rw [lB] at s2;have sub : ∀ j, ∀ c ∈ A.drop j, c.length < 100000000 := fun j c hc => by have := (hcA c (List.mem_of_mem_drop hc)).2; omega
    refine ⟨s1, s2, (zoh na _ nb fb (A := A.drop (i + 1)) (B := B.drop k) (by rw [qp, hA]) (by rw [qp, hB]) (by rw [qe]; omega) (by rw [qe]; omega) (sub _)).mono ?_⟩;rintro _ rfl;refine ⟨_, rfl, (zoh na fa nb _ (A := A.drop i) (B := B.drop (k + 1)) (by rw [qp, hA]) (by rw [qp, hB]) (by rw [qe]; omega) (by rw [qe]; omega) (sub _)).mono ?_⟩;rintro _ rfl;refine ⟨_, rfl, ?_⟩;have hst := qG (A.getD i []) (B.getD k []) (A.drop (i + 1)) (B.drop (k + 1));rw [if_neg (hne hi hk), <- iF A i [] hi, <- iF B k [] hk] at hst;refine CodeY.cond (t := decide (((aZ (A.drop (i + 1)) (B.drop k) : Nat) : Int) >= ((aZ (A.drop i) (B.drop (k + 1)) : Nat) : Int))) rfl ?_;by_cases hle : aZ (A.drop i) (B.drop (k + 1)) <= aZ (A.drop (i + 1)) (B.drop k)
    ·rw [if_pos hle] at hst;rw [if_pos (by simp only [aB]; omega)];exact CodeY.leA (drop hi hst)
    ·rw [if_neg hle] at hst;rw [if_neg (by simp only [aB]; omega)];exact CodeY.leA (add hk hst)
   ·have hi : i = A.length := by simp only [aB] at hi; omega
    refine CodeY.cond (t := false) rfl (CodeY.leA (add hk ?_));rw [hi, qt, iF B k [] hk, wJ]
 have go : (i < A.length ∨ k < B.length) -> CR w0 I0 (zex Tryz.f12)
  (S, v) (eQ na nb QA QB v fa fb i k) [] (QRf na nb QA QB A B M (i + k)) := by
  intro hor
  have norm : ∀ {c : Code} {e : Env} {s : List DStep × Value} {h : Hp} {Ψ : List DStep × Value -> Env -> Hp -> Prop}, CR w0 I0 c s e h (fun s' x e h => x = .normal /\ Ψ s' e h) -> CR w0 I0 (.block 1 c) s e h (fun s' x e h => x = .normal /\ Ψ s' e h) := fun hc =>
   CodeY.block (hc.mono fun s x e h ⟨hx, hp⟩ => by subst hx; exact ⟨rfl, hp⟩)
  refine norm ?_;refine CodeY.sq OutZ.stab (Eq.mpr (qR4 _) ?_);rw [lA, lB];refine aC (fun hc => ?_) (fun hc => ?_)
  ·simp only [qf, aB] at hc;have hi : i < A.length := by omega
   have hk : k < B.length := by omega
   obtain ⟨q1, n1, f1, q2⟩ := yB hA hi;obtain ⟨q3, n3, f3, q4⟩ := yB hB hk;obtain ⟨e1, e2⟩ := hcA _ (memA hi);rw [q2, q4];refine ⟨q1, n1, f1, _, rfl, q3, n3, f3, _, rfl, (tT n1 f1 n3 f3 (A.getD i []) (B.getD k []) (by omega)).mono ?_⟩;rintro _ rfl;refine ⟨_, rfl, CodeY.cond (t := decide (A.getD i [] = B.getD k [])) rfl ?_⟩;by_cases hab : A.getD i [] = B.getD k []
   ·rw [if_pos (by simpa using hab)]
    obtain ⟨c1, c2, c3, c4⟩ := z10;refine CodeY.leA (CodeY.seq (CodeY.regAdd (H := fun _ => none) zdu d1 c1 c2 c3 (by omega) c4 rfl rfl ⟨by omega, by omega⟩ k1 k2 ?_));rw [z1q, q2];refine ⟨q1, n1, f1, _, rfl, rfl, n1, f1, _, rfl, e1, by omega, fun v' => ?_⟩;rw [z1];show aM qa (fun _ => none) 84 _ (((i9 Tryz.f12).toList.drop 5).take 1) _ _ _;rw [z1r];refine CodeY.le (e' := eQ na nb QA QB v' fa fb i k) ⟨rfl, rfl, rfl, trivial⟩ (CodeY.seq (CodeY.region (H := fun _ => none) ?_ d2));rw [qR6, rC];refine ⟨rD QA i (by omega), CodeY.le (e' := c8 v' na _ ((QA.drop (i + 1)).map clT) nb fb ((QB.drop k).map clT)) ⟨rfl, rfl, rfl, trivial⟩ (CodeY.region (H := fun _ => none) ?_ d3)⟩;rw [qR7, rC];have hst := qG (A.getD i []) (B.getD k []) (A.drop (i + 1)) (B.drop (k + 1));rw [if_pos hab, <- iF A i [] hi, <- iF B k [] hk] at hst;exact ⟨rD QB k (by omega), done _ _ (i + 1) (k + 1) (eK S (0, A.getD i []), v') _ ⟨rfl, rfl, rfl, trivial⟩ (hJ.step hi hk hst (.inr (by omega)) e2) (by omega)⟩
   ·rw [if_neg (by simpa using hab)]
    exact CodeY.leA (rest (fun _ _ => hab) hor)
  ·simp only [qf, aB] at hc;exact CodeY.cond (t := false) rfl (CodeY.leA (rest (fun h1 h2 => absurd hc (by omega)) hor))
 refine CodeY.sq OutZ.stab (Eq.mpr (qR3 _) ?_);rw [lA, lB];refine aC (fun hc => ?_) (fun hc => ?_)
 ·simp only [qq, aB] at hc;exact CodeY.leA ((go (by omega)).mono fun s x e h ⟨hx, hp⟩ => by subst hx; exact hp)
 ·simp only [qq, aB] at hc;have hi : i = A.length := by omega
  have hk : k = B.length := by omega
  obtain ⟨l, h1, h2⟩ := hJ.ops;dsimp only at h1 h2;rw [hi, hk, qt, qt, tH, List.append_nil] at h1;exact ⟨rfl, ⟨(fa, fb, i, k, S, v), rfl, ⟨rfl, rfl, rfl, trivial⟩⟩, rfl, by show S = _; rw [h2, <- h1]; rfl⟩
end
theorem z14 (n f n2 f2 n3 f3 : Bool) (l m : List Int) (rl : R32 l) (rm : R32 m) (hl : l.length < 10000) (hm : m.length < 10000) (bA : (bJ l).length < 100000) (bB : (bJ m).length < 100000) :
 PCall qa 12 [.sl n f (bH tab), .sl n2 f2 (aA l), .sl n3 f3 (aA m)] fun x => ∃ nl, x = .sl nl false ((lC (bJ l) (bJ m)).map aQ) := by
 have hres := zey.2.2.2.2.2.2.2.2.2.2.2;have hR := zey.2.2.2.2.2.2.2.1;refine PCall.ofY (tS := 90) (tr := 21) Tryz.func12 z1z (by kernel_rfl) (Nat.le_of_ble_eq_true (by kernel_rfl)) fun w0 I0 => ?_;rw [hres];show CodeY _ _ 84 _ _ _ _ _;refine CodeY.sq OutZ.stab (Eq.mpr (qR0 _ _ _ _ _ _ _ _ _ _) ?_);refine CodeY.sq OutZ.stab (Eq.mpr (qR1 _ _ _ _ _ _ _ _ _ _) ?_);refine (zoi n f n2 f2 l rl hl).mono ?_;rintro _ ⟨na, fa, QA, rfl, hQA⟩;refine ⟨na, fa, _, rfl, (zoi n f n3 f3 m rm hm).mono ?_⟩;rintro _ ⟨nb, fb, QB, rfl, hQB⟩;refine ⟨nb, fb, _, rfl, ?_⟩;refine CodeY.le (e' := [(7, .pv (.sl na fa (QA.map clT))), (8, .pv (.sl nb fb (QB.map clT)))]) ⟨rfl, rfl, trivial⟩ ?_;refine CodeY.sq OutZ.stab (Eq.mpr (qR2 _) ?_);have hJ0 : JOf (bJ l) (bJ m) 100000 (0, 0, [], .slice none 0 0) := ⟨qn _, qn _, ⟨[], by rw [qab, qz, qz], rfl⟩, zeo⟩
 have e0 : sRf na nb QA QB (fa, fb, 0, 0, [], .slice none 0 0) = c8 (.slice none 0 0) na fa (QA.map clT) nb fb (QB.map clT) := by
  unfold sRf;simp only [qz]
 refine CodeY.nilRaw (d := 9) rfl (CodeY.le (e' := c8 (.slice none 0 0) na fa (QA.map clT) nb fb (QB.map clT)) ⟨rfl, rfl, rfl, trivial⟩ ?_);rw [<- e0]
 refine CodeY.seq (CodeY.block (CodeY.loop (S := fun u : URf => (sRf na nb QA QB u, [])) (A := fun u => u.2.2.2.2) (J := fun u => JOf (bJ l) (bJ m) 100000 u.2.2) (μ := fun u => (bJ l).length + (bJ m).length - (u.2.2.1 + u.2.2.2.1)) (s0 := (fa, fb, 0, 0, [], .slice none 0 0))
  ⟨rfl, rfl, rfl, trivial⟩ rfl rfl hJ0 fun u hJ => ?_))
 refine (z13 na nb hQA hQB bA bB (qm _) (q9 l hl) (q9 m hm) u hJ).mono fun s x e h hx => ?_;cases x with
 | normal => exact hx
 | ret => exact hx.elim
 | exit k =>
   obtain ⟨rfl, ⟨u', rfl, hle⟩, rfl, hs⟩ := hx;show CodeY _ _ _ _ _ _ _ _;refine CodeY.le hle (CodeY.seq (CodeY.region (H := fun _ => none) ?_ hR));show aM _ _ _ _ _ (c8 _ _ _ _ _ _ _) _ _;rw [z1y];refine CodeY.ret (.inr ⟨rfl, fun nl _ => ?_⟩);rw [hs];exact ⟨_, .inl rfl, nl, rfl⟩
theorem z15 (n f n2 f2 : Bool) (S : List DStep) (hS : S.length < 100000) (ht : ∀ s ∈ S, s.text.length < 1000000000) : PCall qa 11 [.sl n f (S.map aQ), .sl n2 f2 (S.map aQ)] fun v => v = .bool true := by
 refine zx4 n f (S.map aQ) n2 f2 (S.map aQ) (fun x => ∃ i : Nat, x = i /\ i <= S.length) (fun x => S.length - x.toNat) ?_;unfold zme;refine bR (by simp) ⟨⟨rfl, 0, rfl, qn _⟩, ?_⟩;rintro _ ⟨i, rfl, hi⟩;rw [qk];refine aC (fun hc => ?_) (fun hc => ?_)
 ·have hi' : i < S.length := by simp only [aB] at hc; omega
  have hx := cS (enc := aQ) zn3 (l := S) (i := (i : Int)) (by omega) (by omega);have wi : i64.wrap ((i : Int) + 1) = ((i + 1 : Nat) : Int) := jY;rw [qb, c7 hi', wi];refine ⟨hx, S[i].kind, rfl, hx, S[i].kind, rfl, bR (by simp) ⟨hx, S[i].n, rfl, hx, S[i].n, rfl, bR (by simp) ⟨hx, false, false, aA S[i].text, rfl, hx, false, false, aA S[i].text, rfl, ?_⟩⟩⟩;refine (tT _ _ _ _ _ _ (by have := ht S[i] (qg hi'); omega)).mono ?_;rintro _ rfl;exact ⟨_, rfl, bR (by simp) ⟨rfl, ⟨i + 1, rfl, hi'⟩, by dsimp only; omega⟩⟩
 ·rfl
theorem lawDeltaOf {pvs : List PV} (h : sP qa 8 Tryz.f3.params.toList pvs) : PCall qa 3 pvs fun v => v = .bool true := by
 obtain ⟨v0, r0, rfl, h0, v1, r1, rfl, h1, rfl⟩ : sP qa 8 [22, 22] pvs := h;obtain ⟨nl, l, rfl, rl⟩ := zmz h0;obtain ⟨nm, m, rfl, rm⟩ := zmz h1;refine zx5 _ _ _ _ _ _ ?_;unfold zmf;refine (zmo _ _ l 16 (by omega)).mono ?_;rintro _ ⟨n1, f1, rfl⟩;refine ⟨n1, f1, _, rfl, (zmo _ _ m 16 (by omega)).mono ?_⟩;rintro _ ⟨n2, f2, rfl⟩;refine ⟨n2, f2, _, rfl, p42.mono ?_⟩;rintro _ ⟨n3, f3, rfl⟩;refine ⟨n3, f3, _, rfl, (zmq n3 f3).mono fun T hT => ?_⟩;have rl := rl.take 16;have rm := rm.take 16;have hl := zm1 l 16;have hm := zm1 m 16;generalize l.take 16 = l at rl hl ⊢;generalize m.take 16 = m at rm hm ⊢;obtain ⟨g1, g2, g3, g6, g7⟩ := z1l l m (by omega) (by omega);refine (zn2 hT n1 f1 n2 f2 l m rl rm (by omega) (by omega)).mono ?_;rintro _ (⟨_, nl, _, rfl⟩ | ⟨h, _⟩)
 rotate_left
 ·exact absurd g1 h
 refine ⟨_, rfl, rfl, _, rfl, nl, false, _, rfl, _, rfl, 0, rfl, bW rfl ?_⟩;refine (z14 n3 f3 n1 f1 n2 f2 l m rl rm (by omega) (by omega) (by omega) (by omega)).mono ?_;rintro _ ⟨n4, rfl⟩;refine ⟨n4, false, _, rfl, (z15 nl false n4 false _ g2 fun s hs => (g3 s hs).1).mono ?_⟩;rintro _ rfl;refine ⟨_, rfl, bW rfl (awake50.mono ?_)⟩;rintro _ rfl;exact ⟨_, rfl, rfl⟩
end Go.Eng
