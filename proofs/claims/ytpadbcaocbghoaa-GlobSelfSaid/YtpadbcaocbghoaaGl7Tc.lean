/- States run over the code: what each function gives, and what follows. -/
import Derived.Test.YtpadbcaocbghoaaGl7Tb
open Go.IntKind (i64 i32)
open Go.Proofs.Try renaming prog → qa
open List renaming length_map → qb, length_append → qc, length_cons → qd, length_singleton → qf, append_assoc → qh, map_append → qi, drop_eq_nil_of_le → qj, drop_eq_getElem_cons → qk, length_take → qm, append_nil → qn, nil_append → qo, getElem?_eq_getElem → qq, length → qt, eq_nil_of_length_eq_zero → qu, length_nil → qv, take_of_length_le → qx, getElem_mem → qy, drop → qz, drop_append_of_le_length → qab, getD → qac, flatten_cons → qad, getElem_map → qae, drop_of_length_le → qag, mem_of_mem_take → qah, contains_cons → qaj, contains_nil → qak, flatMap_cons → qam, getLast?_map → qan, cons_append → qap
open Bool renaming and_eq_true → qe, or_eq_true → ql, or_eq_false_iff → qp, not_eq_true' → qw, and_eq_false_iff → qaa, true_and → qai, or_false → qaq
open Int renaming toNat_natCast → qg, le_refl → qaf
open Nat renaming le_refl → qr
open Decidable renaming not_not → qal
open Option renaming getD_some → qao
set_option linter.unusedVariables false
set_option maxRecDepth 100000
set_option linter.constructorNameAsVariable false
namespace Go.Eng
open Go Go.Proofs
section
variable (a b : Int)
def zhz (R : PV -> Prop) : Prop :=
 if (decide (a >= 4352) && decide (a < 4371) && decide (b >= 4449) && decide (b < 4470)) = true then R (PV.tup [Z3 (i32.wrap ((44032 : Int) + i32.wrap (i32.wrap (i32.wrap (i32.wrap (i32.wrap (a - 4352) * 21) + b) - 4449) * 28))), Zb true]) else PCall qa 93 [Z3 a] fun v => ∃ b1, v = Zb b1 /\ if (b1 && (i32.wrap (a - 44032)).tmod (28 : Int) == 0 && decide (b > 4519) && decide (b < 4547)) = true then R (PV.tup [Z3 (i32.wrap (i32.wrap (a + b) - 4519)), Zb true]) else R (PV.tup [Z3 0, Zb false])
theorem zru {R : PV -> Prop} (h : zhz a b R) : PCall qa 77 [.int .i32 a, .int .i32 b] R :=
 PCall.wz Try.func77 aT [0, 1, 4, 5, 6, 29] bE h
end
section
variable (tc tg tj tf tp : PV) (M S : List (PV × PV)) (a b : Int)
def zh0 (R : PV -> Prop) : Prop :=
 PCall qa 77 [Z3 a, Z3 b] fun v => ∃ vs, v = PV.tup vs /\ vs.length = 2 /\ ∃ x, vs.head? = some x /\ ∃ n, x = Z3 n /\ ∃ x1, vs.tail.head? = some x1 /\ ∃ b1, x1 = Zb b1 /\ if b1 = true then R (PV.tup [Z3 n, Zb true]) else PCall qa 78 [PV.ptr [tc, tg, tj, tf, tp, PV.mp M, PV.mp S], Z3 a, Z3 b] fun v1 => ∃ vs1, v1 = PV.tup vs1 /\ vs1.length = 2 /\ ∃ x2, vs1.head? = some x2 /\ ∃ n1, x2 = Z3 n1 /\ ∃ x3, vs1.tail.head? = some x3 /\ ∃ b2, x3 = Zb b2 /\ R (PV.tup [Z3 n1, Zb b2])
theorem zrv {R : PV -> Prop} (h : zh0 tc tg tj tf tp M S a b R) : PCall qa 58 [.ptr [tc, tg, tj, tf, tp, .mp M, .mp S], .int .i32 a, .int .i32 b] R :=
 PCall.wz Try.func58 aT [0, 1, 2, 6, 7, 8, 9, 16] bE h
end
def zam (tc tg tj tf tp : PV) (M S : List (PV × PV)) (n f : Bool) (es : LL) (x6 x7 x16 : Int) (n_0 : Bool) (s_0 : LL) : Env × Hp := ([(0, LV.pv (PV.ptr [tc, tg, tj, tf, tp, PV.mp M, PV.mp S])), (5, LV.own 0), (6, Y6 x6), (7, Y6 x7), (14, LV.pv (PV.sl n f es)), (15, LV.pv (PV.int i64 (es.length : Int))), (16, Y6 x16)], [.sl (21, 1) true n_0 s_0])
section
variable (tc tg tj tf tp : PV) (M S : List (PV × PV)) (n f : Bool) (es : LL) (J : Int -> Int -> Int -> Bool -> LL -> Prop) (μ : Int -> Int -> Int -> Bool -> LL -> Nat)
def zh1 (R : PV -> Prop) : Prop :=
 (aF (zam tc tg tj tf tp M S n f es (-1 : Int) (0 : Int) (0 : Int) true []) /\ J (-1 : Int) (0 : Int) (0 : Int) true []) /\ ∀ (x6 x7 x16 : Int) (n_0 : Bool) (s_0 : LL), J x6 x7 x16 n_0 s_0 ->
 let K5 := fun (y0_ y1_ y2_ : Int) (y3_ : Bool) (y4_ : LL) => aF (zam tc tg tj tf tp M S n f es y0_ y1_ y2_ y3_ y4_) /\ J y0_ y1_ y2_ y3_ y4_ /\ μ y0_ y1_ y2_ y3_ y4_ < μ x6 x7 x16 n_0 s_0; if decide (x16 < (↑es.length :
  Int)) = true then aR es x16 1 /\ ∃ n1, (es.getD x16.toNat []).head? = some (Z3 n1) /\ PCall qa 56 [PV.ptr [tc, tg, tj, tf, tp, PV.mp M, PV.mp S], Z3 n1] fun v => ∃ n2, v = Z6 n2 /\
 let V1 := if (n2 == 0) = true then (aS [[Z3 n1]] 1 /\ (s_0.length + 1) * 4 <= 140737488355328) /\ K5 (↑s_0.length : Int) n2 (i64.wrap (x16 + 1)) (n_0 && false) (s_0 ++ [[Z3 n1]]) else (aS [[Z3 n1]] 1 /\ (s_0.length + 1) * 4 <=
  140737488355328) /\ K5 x6 n2 (i64.wrap (x16 + 1)) (n_0 && false) (s_0 ++ [[Z3 n1]]); if (decide (x6 >= 0) && (x6 == i64.wrap ((↑s_0.length : Int) - 1) || x7 != 0 && decide (x7 < n2))) = true then aR s_0 x6 1 /\ ∃ (n3 :
  Int), (qz 0 (s_0.getD x6.toNat [])).head? = some (Z3 n3) /\ PCall qa 58 [PV.ptr [tc, tg, tj, tf, tp, PV.mp M, PV.mp S], Z3 n3, Z3 n1] fun v1 => ∃ vs, v1 = PV.tup vs /\ vs.length = 2 /\ ∃ x, vs.head? =
  some x /\ ∃ n4, x = Z3 n4 /\ ∃ x1, vs.tail.head? = some x1 /\ ∃ b, x1 = Zb b /\ if b = true then aR s_0 x6 1 /\ (1 = 1 /\ 1 <= (s_0.getD x6.toNat []).length) /\ K5 x6 x7 (i64.wrap (x16 + 1)) n_0 (s_0.set
  x6.toNat (Z3 n4 :: zq (qz 1 (s_0.getD x6.toNat [])))) else V1 else V1 else R (PV.sl n_0 false s_0)
theorem zrw {R : PV -> Prop} (h : zh1 tc tg tj tf tp M S n f es J μ R) : PCall qa 39 [.ptr [tc, tg, tj, tf, tp, .mp M, .mp S], .sl n f es] R :=
 PCall.wz Try.func39 aT [0, 1, 4, 5, 6, 7, 9, 10, 11, 12, 13, 14, 15, 16, 17, 41, 52, 58] (dB 5 (bF cz5 (zam tc tg tj tf tp M S n f es) J μ (fun e h => (gI e 6, gI e 7, gI e 16, oN h 0, oS h 0)) [(5, 21, 1)] [0, 5, 6, 7, 14, 15, 16] [])) h
end
section
variable (tc tg tj tf tp : PV) (M S : List (PV × PV)) (n f : Bool) (es : LL)
def zh2 (R : PV -> Prop) : Prop :=
 PCall qa 40 [PV.ptr [tc, tg, tj, tf, tp, PV.mp M, PV.mp S], PV.sl n f es] fun v => ∃ n1 f1 es1, v = PV.sl n1 f1 es1 /\ PCall qa 39 [PV.ptr [tc, tg, tj, tf, tp, PV.mp M, PV.mp S], PV.sl n1 f1 es1] fun v1 => ∃ n2 f2 es2, v1 = PV.sl n2 f2 es2 /\ R (PV.sl n2 f2 es2)
theorem zrx {R : PV -> Prop} (h : zh2 tc tg tj tf tp M S n f es R) : PCall qa 16 [.ptr [tc, tg, tj, tf, tp, .mp M, .mp S], .sl n f es] R :=
 PCall.wz Try.func16 aT [0, 1, 4] bE h
end
end Go.Eng
set_option linter.unusedSimpArgs false
namespace Go.Eng
open Go Go.Proofs Go.Eng.Rows Go.Eng.Trie Go.Eng.Srt
def t6 : Option Int -> PV
 | some r => .tup [.int .i32 r, .bool true]
 | none => .tup [.int .i32 0, .bool false]
theorem zry {a b : Int} (ha : -2147483648 <= a /\ a <= 2147483647) (hb : -2147483648 <= b /\ b <= 2147483647) : PCall qa 77 [.int .i32 a, .int .i32 b] fun v => v = t6 (iC a b) := by
 refine zru _ _ ?_; unfold zhz;refine aG (fun hc => ?_) (fun hc => ?_)
 ·simp only [qe, aB, ge_iff_le] at hc;have w1 : i32.wrap (a - 4352) = a - 4352 := dF (by omega) (by omega);have w2 : i32.wrap ((a - 4352) * 21) = (a - 4352) * 21 := dF (by omega) (by omega);have w3 : i32.wrap ((a - 4352) * 21 + b) = (a - 4352) * 21 + b := dF (by omega) (by omega);have w4 : i32.wrap ((a - 4352) * 21 + b - 4449) = (a - 4352) * 21 + b - 4449 := dF (by omega) (by omega);have w5 : i32.wrap (((a - 4352) * 21 + b - 4449) * 28) = ((a - 4352) * 21 + b - 4449) * 28 := dF (by omega) (by omega);have w6 : i32.wrap (44032 + ((a - 4352) * 21 + b - 4449) * 28) = 44032 + ((a - 4352) * 21 + b - 4449) * 28 := dF (by omega) (by omega);rw [w1, w2, w3, w4, w5, w6];unfold iC;rw [if_pos (by omega)];simp only [t6];rw [show (a - 4352) * 21 + b - 4449 = (a - 4352) * 21 + (b - 4449) by omega]
 ·simp only [qe, aB, ge_iff_le] at hc;refine (zg1 a).mono ?_;rintro _ rfl;refine ⟨_, rfl, ?_⟩;have hn : ¬ ((4352 <= a /\ a < 4371) /\ 4449 <= b /\ b < 4470) := by omega
  cases hs : bX a with
  | false =>
    refine bI (by simp) ?_;unfold iC; rw [if_neg hn, if_neg (by rw [hs]; simp)]; rfl
  | true =>
    have hr := hs;simp only [bX, qe, aB] at hr;have w1 : i32.wrap (a - 44032) = a - 44032 := dF (by omega) (by omega);have e3 : (a - 44032).tmod 28 = (a - 44032) % 28 := Int.tmod_eq_emod_of_nonneg (by omega);rw [w1, e3];refine aG (fun h2 => ?_) (fun h2 => ?_)
    ·simp only [qe, aB, gt_iff_lt, beq_iff_eq, qai] at h2;have w2 : i32.wrap (a + b) = a + b := dF (by omega) (by omega);have w3 : i32.wrap (a + b - 4519) = a + b - 4519 := dF (by omega) (by omega);rw [w2, w3];unfold iC; rw [if_neg hn, if_pos ⟨⟨hs, h2.1.1⟩, h2.1.2, h2.2⟩];simp only [t6];rw [show a + b - 4519 = a + (b - 4519) by omega]
    ·simp only [qe, aB, gt_iff_lt, beq_iff_eq, qai] at h2;unfold iC; rw [if_neg hn, if_neg (by omega)]; rfl
section
variable {rows : List Row} {v : PV}
theorem zrz (hp : dP rows) (h1 : eI rows) (hv : dI rows v) {a b : Int} (ha : -2147483648 <= a /\ a <= 2147483647) (hb : -2147483648 <= b /\ b <= 2147483647) : PCall qa 58 [v, .int .i32 a, .int .i32 b] fun x => x = t6 (iD rows a b) := by
 obtain ⟨tc, tg, tj, tf, tp, made, sec, rfl, ht, hm⟩ := hv;refine zrv _ _ _ _ _ _ _ _ _ ?_; unfold zh0;refine (zry ha hb).mono ?_;rintro _ rfl;unfold iD;cases iC a b with
 | some r =>
   exact ⟨_, rfl, rfl, _, rfl, _, rfl, _, rfl, _, rfl, bG rfl rfl⟩
 | none =>
   refine ⟨_, rfl, rfl, _, rfl, _, rfl, _, rfl, _, rfl, bI (by simp) ?_⟩;refine (zpu _ _ _ _ _ _ made a b).mono ?_;rintro _ rfl;rw [<- zrm hp h1 hm a b];unfold tL;split
   ·exact ⟨_, rfl, rfl, _, rfl, _, rfl, _, rfl, _, rfl, rfl⟩
   ·cases bM (a, b) made with
    | none => exact ⟨_, rfl, rfl, _, rfl, _, rfl, _, rfl, _, rfl, rfl⟩
    | some r => exact ⟨_, rfl, rfl, _, rfl, _, rfl, _, rfl, _, rfl, rfl⟩
def fB (st : CSt) : Int := match st.s with | none => -1 | some _ => st.P.length
theorem zr0 {d : List Int} : ∀ m ∈ (bP rows d).M, aI rows 1 m ≠ 0 := by
 induction d using iS with
 | h0 => intro m hm; cases hm
 | h1 d r ih =>
   rw [iF];rcases qP rows (bP rows d) r with e | ⟨a, c, hs, hp, _, e⟩
   ·rw [e];unfold cE;split
    ·intro m hm; cases hm
    ·rename_i h0;intro m hm;rcases List.mem_append.1 hm with hm | hm
     ·exact ih m hm
     ·rw [List.mem_singleton] at hm; subst hm; exact h0
   ·rw [e]; exact ih
def JC (rows : List Row) (L : List Int) (x6 x7 i : Int) (s : List (List PV)) : Prop := (0 <= i /\ i <= L.length) /\ s = aA (bP rows (L.take i.toNat)).out /\ x6 = fB (bP rows (L.take i.toNat)) /\ x7 = dW (aI rows 1) (bP rows (L.take i.toNat)).M
theorem JC.next {L : List Int} {i : Int} (h0 : 0 <= i) (hi : i.toNat < L.length) {st : CSt} (he : cO rows (bP rows (L.take i.toNat)) L[i.toNat] = st) : JC rows L (fB st) (dW (aI rows 1) st.M) (i + 1) (aA st.out) := by
 have e : bP rows (L.take (i + 1).toNat) = st := by
  rw [show (i + 1).toNat = i.toNat + 1 by omega, dH hi, iF, he]
 exact ⟨⟨by omega, by omega⟩, by rw [e], by rw [e], by rw [e]⟩
theorem zr1 (hp : dP rows) (h1 : eI rows) (hv : dI rows v) (n f : Bool) (L : List Int) (hr : R32 L) (hL : L.length < 1000000000000) : PCall qa 39 [v, .sl n f (aA L)] fun x => ∃ n f, x = .sl n f (aA (iE rows L)) := by
 have hv' := hv;obtain ⟨tc, tg, tj, tf, tp, made, sec, rfl, ht, hm⟩ := hv;refine zrw _ _ _ _ _ _ _ _ _ _ (fun x6 x7 i _ s => JC rows L x6 x7 i s) (fun _ _ i _ _ => L.length - i.toNat) ?_;unfold zh1;refine ⟨⟨rfl, ⟨qaf _, by omega⟩, rfl, rfl, rfl⟩, ?_⟩;rintro x6 x7 i n0 _ ⟨⟨i0, i1⟩, rfl, rfl, rfl⟩;refine aG (fun hc => ?_) (fun hc => ?_)
 ·simp only [aB, cA] at hc;have hi : i.toNat < L.length := by omega
  obtain ⟨g1, g2⟩ := nQ i0 hi;have hx := hr _ (qy hi);have hw : i64.wrap (i + 1) = i + 1 := aD (by omega) (by omega);refine ⟨g1, L[i.toNat], by rw [g2]; rfl, ?_⟩;refine (tK _ _ ht hx).mono ?_;rintro _ rfl;refine ⟨_, rfl, ?_⟩;rw [hw];have hlen := zah rows (L.take i.toNat);have hrng := zhx h1 (L.take i.toNat);have hnz := zr0 (rows := rows) (d := L.take i.toNat);have hnP := tZ (rows := rows) (d := L.take i.toNat);rw [qm] at hlen;unfold iE at hlen hrng;have next := fun st => JC.next (rows := rows) (st := st) i0 hi
  generalize bP rows (L.take i.toNat) = st at *;have hmu : L.length - (i + 1).toNat < L.length - i.toNat := by omega
  have hsz : aS [[PV.int .i32 L[i.toNat]]] 1 /\ ((aA st.out).length + 1) * 4 <= 140737488355328 := ⟨fI [_], by rw [cA]; omega⟩;have hout : aA st.out ++ [[PV.int .i32 L[i.toNat]]] = aA (st.out ++ [L[i.toNat]]) := by rw [kJ]; rfl
  have hl : ((aA st.out).length : Int) = st.out.length := by rw [cA]
  have app0 : cO rows st L[i.toNat] = cE (aI rows 1) st L[i.toNat] -> aI rows 1 L[i.toNat] = 0 -> JC rows L (aA st.out).length (aI rows 1 L[i.toNat]) (i + 1) (aA st.out ++ [[PV.int .i32 L[i.toNat]]]) := fun he h0 => by
   have := next _ (he.trans (by unfold cE; rw [if_pos h0]))
   rw [hout, hl, h0];simpa [fB, dW, CSt.out] using this
  have app1 : cO rows st L[i.toNat] = cE (aI rows 1) st L[i.toNat] -> aI rows 1 L[i.toNat] ≠ 0 -> JC rows L (fB st) (aI rows 1 L[i.toNat]) (i + 1) (aA st.out ++ [[PV.int .i32 L[i.toNat]]]) := fun he h0 => by
   have := next _ (he.trans (by unfold cE; rw [if_neg h0]))
   rw [hout];simp only [zai] at this;have e2 : st.out ++ [L[i.toNat]] = CSt.out ⟨st.P, st.s, st.M ++ [L[i.toNat]]⟩ := by simp [CSt.out]
   rw [e2];exact this
  refine aG (fun hf => ?_) (fun hf => ?_)
  ·simp only [qe, aB, ql, beq_iff_eq, bne_iff_ne, ne_eq, ge_iff_le] at hf;obtain ⟨hf1, hf2⟩ := hf;cases hs : st.s with
   | none => simp [fB, hs] at hf1
   | some a =>
     have hsi : fB st = st.P.length := by simp [fB, hs]
     have hol : st.out.length = st.P.length + 1 + st.M.length := by simp [CSt.out, hs]; omega
     have hw2 : i64.wrap ((aA st.out).length - 1) = st.out.length - 1 := by rw [hl]; exact aD (by omega) (by omega)
     have hfree : st.M = [] ∨ dW (aI rows 1) st.M < aI rows 1 L[i.toNat] := by
      rcases hf2 with h | h
      ·rw [hw2, hsi] at h;exact .inl (qu (by omega))
      ·exact .inr h.2
     have hat : st.out[st.P.length]'(by omega) = a := by simp [CSt.out, hs]
     obtain ⟨k1, k2⟩ := nQ (l := st.out) (i := fB st) (by omega) (by omega);have hta : (fB st).toNat = st.P.length := by omega
     have k3 : (aA st.out).getD (fB st).toNat [] = [PV.int .i32 a] := by
      rw [k2]; simp only [hta, hat]
     have ha : -2147483648 <= a /\ a <= 2147483647 := by
      rcases hrng a (by simp [CSt.out, hs]) with h | h
      ·exact hr a (qah h)
      ·omega
     refine ⟨k1, a, by rw [k3]; rfl, ?_⟩;refine (zrz hp h1 hv' ha hx).mono ?_;rintro _ rfl;cases hpc : iD rows a L[i.toNat] with
     | some c =>
       refine ⟨_, rfl, rfl, _, rfl, _, rfl, _, rfl, _, rfl, bG rfl ⟨k1, ⟨rfl, by rw [k3]; exact qr _⟩, rfl, ?_, by dsimp only; omega⟩⟩;rw [k3, hta]
       have he : cO rows st L[i.toNat] = ⟨st.P, some c, st.M⟩ := by
        unfold cO; rw [hs]; simp only; rw [if_pos hfree, hpc]
       have := next _ he
       have e2 : (aA st.out).set st.P.length [PV.int .i32 c] = aA (CSt.out ⟨st.P, some c, st.M⟩) := by
        simp [CSt.out, hs, aA]
       have e3 : fB ⟨st.P, some c, st.M⟩ = fB st := by rw [hsi]; rfl
       rw [e3] at this;show JC rows L (fB st) (dW (aI rows 1) st.M) (i + 1) ((aA st.out).set st.P.length [PV.int .i32 c]);rw [e2];exact this
     | none =>
       have he : cO rows st L[i.toNat] = cE (aI rows 1) st L[i.toNat] := by
        unfold cO; rw [hs]; simp only; rw [if_pos hfree, hpc]
       refine ⟨_, rfl, rfl, _, rfl, _, rfl, _, rfl, _, rfl, bI (by simp) (aG (fun h0 => ?_) (fun h0 => ?_))⟩
       ·exact ⟨hsz, rfl, app0 he (by simpa using h0), by dsimp only; omega⟩
       ·exact ⟨hsz, rfl, app1 he (by simpa using h0), by dsimp only; omega⟩
  ·simp only [qe, aB, ql, beq_iff_eq, bne_iff_ne, ne_eq, ge_iff_le] at hf
   have he : cO rows st L[i.toNat] = cE (aI rows 1) st L[i.toNat] := by
    rcases qP rows st L[i.toNat] with e | ⟨a, c, hs, hpc, hfree, e⟩
    ·exact e
    ·have hsi : fB st = st.P.length := by simp [fB, hs]
     have hol : st.out.length = st.P.length + 1 + st.M.length := by simp [CSt.out, hs]; omega
     have hw2 : i64.wrap ((aA st.out).length - 1) = st.out.length - 1 := by rw [hl]; exact aD (by omega) (by omega)
     refine absurd ⟨by omega, ?_⟩ hf;by_cases hM : st.M = []
     ·left; rw [hw2, hsi, hol, hM]; simp
     ·right;obtain ⟨m, hm, e⟩ := zal (key := aI rows 1) hM;exact ⟨by rw [e]; exact hnz m hm, hfree.elim (fun e => absurd e hM) id⟩
   refine aG (fun h0 => ?_) (fun h0 => ?_)
   ·exact ⟨hsz, rfl, app0 he (by simpa using h0), by dsimp only; omega⟩
   ·exact ⟨hsz, rfl, app1 he (by simpa using h0), by dsimp only; omega⟩
 ·simp only [aB, cA] at hc;rw [qx (by omega)];exact ⟨_, _, rfl⟩
theorem zh3 (hp : dP rows) (h1 : eI rows) (hk : fA rows) (hv : dI rows v) (n f : Bool) (L : List Int) (hr : R32 L) (hL : L.length < 1000000) : PCall qa 16 [v, .sl n f (aA L)] fun x => ∃ n f, x = .sl n f (aA (cU rows L)) := by
 have hv' := hv;obtain ⟨tc, tg, tj, tf, tp, made, sec, rfl, ht, hm⟩ := hv;refine zrx _ _ _ _ _ _ _ _ _ _ ?_; unfold zh2;refine (zrk hp hk hv' n f L hr hL).mono ?_;rintro _ ⟨n1, f1, rfl⟩;refine ⟨_, _, _, rfl, ?_⟩;refine (zr1 hp h1 hv' _ _ _ (zhm hk hp hr) (zrl hk hL)).mono ?_;rintro _ ⟨n2, f2, rfl⟩;exact ⟨_, _, _, rfl, _, _, rfl⟩
theorem zh4 (hp : dP rows) (h1 : eI rows) (hk : fA rows) {l : List Int} (h : R32 l) : R32 (cU rows l) := fun x hx => by
 rcases zhx h1 _ x hx with h2 | h2
 ·exact zhm hk hp h x h2
 ·omega
theorem zan (hk : fA rows) (l : List Int) : (cU rows l).length <= 768 * l.length := Nat.le_trans (zah rows _) (zhn hk l)
end
theorem v22 : Try.prog.underlying 22 = some (.slice 21) := by kernel_rfl
theorem v21 : Try.prog.underlying 21 = some (.int .i32) := by kernel_rfl
theorem zao {v : PV} (h : nM qa 8 22 v) : ∃ nl l, v = .sl nl false (aA l) /\ R32 l := by
 obtain ⟨nl, l, e, hl, _, hr⟩ := zmg v22 v21 (zmh (by kernel_rfl) h);cases e;exact ⟨nl, l, rfl, hr⟩
end Go.Eng
namespace Go.Eng.Rows
open Go Go.Eng Go.Eng.Trie Go.Eng.Srt
def eK (L : List Int) (a b : Nat) : List Int := (L.take b).drop a
def zr2 (rows : List Row) (L want : List Int) (a b : Nat) : Bool := decide (iT rows (eK L a b) = want)
def fTo (p : Nat -> Bool) (b : Nat) : Nat -> Option Nat
 | 0 => none
 | k + 1 => if p b then some b else fTo p (b + 1) k
def zh5 (rows : List Row) (L want : List Int) (a : Nat) : Nat -> Option (Nat × Nat)
 | 0 => none
 | k + 1 => match fTo (zr2 rows L want a) a (L.length + 1 - a) with
   | some b => some (a, b)
   | none => zh5 rows L want (a + 1) k
def findL (rows : List Row) (L want : List Int) : Option (Nat × Nat) := zh5 rows L want 0 (L.length + 1)
end Go.Eng.Rows
namespace Go.Eng
open Go Go.Proofs
end Go.Eng
namespace Go.Eng
open Go Go.Proofs Go.Eng.Rows Go.Eng.Trie Go.Eng.Srt
theorem t7 (l : List Int) (k : Nat) : (l.take k).length <= k := by rw [qm]; omega
theorem zr3 {len : Nat} {i j : Int} (h0 : 0 <= i) (h1 : i <= j) (h2 : j <= len) : eQ len (some i) (some j) none := ⟨h0, h1, h2, trivial⟩
theorem zr4 (L : List Int) (i j : Nat) : qz i (List.take j (aA L)) = aA (eK L i j) := by simp [aA, eK]
theorem R32.sub {L : List Int} (h : R32 L) (i j : Nat) : R32 (eK L i j) := fun x hx => h x (qah (List.mem_of_mem_drop hx))
theorem zr5 (L : List Int) (i j : Nat) : (eK L i j).length <= L.length := by unfold eK; rw [List.length_drop, qm]; omega
theorem w3 : Try.prog.underlying 3 = some (.int .i64) := by kernel_rfl
end Go.Eng

namespace Go.Eng.Srt
open Go Go.Eng
section
variable {key : Int -> Int} (hk : ∀ x, 0 <= key x)
include hk
end
end Go.Eng.Srt
namespace Go.Eng.Rows
open Go Go.Eng Go.Eng.Trie Go.Eng.Srt
section
variable {rows : List Row}
def CSt.pre (Q : List Int) (st : CSt) : CSt := ⟨Q ++ st.P, st.s, st.M⟩
end
end Go.Eng.Rows

namespace Go.Eng.Rows
open Go Go.Eng Go.Eng.Trie Go.Eng.Srt
theorem zr6 {L : List Int} {j b : Nat} (h : j <= b) (hb : b <= L.length) : L.drop j = eK L j b ++ L.drop b := by
 have h1 : L = L.take b ++ L.drop b := (List.take_append_drop b L).symm;have h2 : L.drop j = (L.take b ++ L.drop b).drop j := by rw [<- h1]
 rw [h2, qab (by rw [qm]; omega)]; rfl
theorem zr7 {L : List Int} {a i : Nat} (h : a < i) (hi : i <= L.length) : eK L a i = L.getD a 0 :: eK L (a + 1) i := by
 unfold eK;rw [qk (by rw [qm]; omega), List.getElem_take];simp only [qac, qq (show a < L.length by omega), qao]
theorem drop_cons {L : List Int} {b : Nat} (h : b < L.length) : L.drop b = L.getD b 0 :: L.drop (b + 1) := by
 rw [qk h];simp only [qac, qq h, qao]
section
variable {rows : List Row}
end
section
variable (p : List Int -> Option (Nat × Nat)) (ls : List (List Int)) (s : Int)
end
section
variable {p : List Int -> Option (Nat × Nat)} {ls : List (List Int)} {s : Int}
end
section
variable (p : List Int -> Option (Nat × Nat)) (L : List Int)
end
def Inc (n : Nat) : Nat -> List (Nat × Nat) -> Prop
 | i, [] => i <= n
 | i, (a, b) :: ps => i <= a /\ a < b /\ Inc n b ps
theorem Inc.le {n : Nat} : ∀ {ps : List (Nat × Nat)} {i : Nat}, Inc n i ps -> i <= n
 | [], i, h => h
 | (a, b) :: ps, i, h => by have := h.2.2.le; have := h.1; have := h.2.1; omega
theorem Inc.len {n : Nat} : ∀ {ps : List (Nat × Nat)} {i : Nat}, Inc n i ps -> ps.length + i <= n
 | [], i, h => by have : i <= n := h; simpa using this
 | (a, b) :: ps, i, h => by have := h.2.2.len; have := h.1; have := h.2.1; rw [qd]; omega
section
variable {p : List Int -> Option (Nat × Nat)} {L : List Int}
end
def bB (rows : List Row) (r : Int) : Int := if 44032 <= r /\ r <= 55203 then (if (r - 44032).tmod 28 = 0 then 12 else 13) else aI rows 4 r
def cV (rows : List Row) (r : Int) : Int := if aI rows 6 r ≠ 0 then aI rows 6 r else if (bB rows r = 4 ∨ bB rows r = 5) /\ r ≠ 8204 then 3 else 0
def fC (b : Int) : Bool := decide (b = 3) || (decide (b = 1) || decide (b = 2))
def zh6 (a b : Int) : Bool :=
 if a = 9 then decide (b = 9) || (decide (b = 10) || (decide (b = 12) || decide (b = 13)))
 else if a = 12 ∨ a = 10 then decide (b = 10) || decide (b = 11)
 else if a = 13 ∨ a = 11 then decide (b = 11) else false
def nT (a b : Int) : Bool :=
 if a = 1 then decide (b = 2) else if a = 2 ∨ a = 3 then false
 else if b = 1 ∨ b = 2 ∨ b = 3 then false else if b = 4 ∨ b = 5 ∨ b = 8 then true
 else if a = 7 then true else zh6 a b
structure SSt where
 (some : Bool) (last pict conj : Int) (odd : Bool)
def dR (rows : List Row) (st : SSt) (r : Int) : SSt :=
 ⟨true, bB rows r,
  if c4 rows 5 r = true then 1 else if st.pict = 1 /\ bB rows r = 4 then 1 else if st.pict = 1 /\ bB rows r = 5 then 2 else 0,
  if cV rows r = 2 then 1 else if st.conj ≠ 0 /\ cV rows r = 1 then 2 else if st.conj ≠ 0 /\ cV rows r = 3 then st.conj else 0,
  decide (bB rows r = 6) && !st.odd⟩
def t8 (rows : List Row) (st : SSt) (r : Int) : Bool :=
 !nT st.last (bB rows r) && (!(decide (st.pict = 2) && c4 rows 5 r) && (!(decide (st.conj = 2) && decide (cV rows r = 2)) && !(st.odd && decide (bB rows r = 6))))
def nU (rows : List Row) (st : SSt) (r : Int) : Bool := !st.some || t8 rows st r
def st0 : SSt := ⟨false, 0, 0, 0, false⟩
def c9 (rows : List Row) (L : List Int) (a : Nat) : Nat -> SSt
 | 0 => st0
 | k + 1 => dR rows (c9 rows L a k) (L.getD (a + k) 0)
def fJ (rows : List Row) (L : List Int) (i : Nat) : Bool := nU rows (c9 rows L 0 i) (L.getD i 0)
structure fY (rows : List Row) : Prop where
 pict : ∀ r, c4 rows 5 r = true -> fC (bB rows r) = false /\ bB rows r ≠ 5
 conj : ∀ r, cV rows r = 0 ∨ cV rows r = 1 ∨ cV rows r = 2 ∨ cV rows r = 3
 cons : ∀ r, cV rows r ≠ 0 -> fC (bB rows r) = false
 join : ∀ r, cV rows r = 1 ∨ cV rows r = 3 -> bB rows r = 4 ∨ bB rows r = 5 ∨ bB rows r = 8
theorem zr8 {a b : Int} (h : fC a = false) (h2 : fC b = false) (h3 : b = 4 ∨ b = 5 ∨ b = 8) : nT a b = true := by
 unfold fC at h h2;simp only [qp, dA] at h h2;unfold nT;rw [if_neg h.2.1, if_neg (by omega), if_neg (by omega), if_pos h3]
section
variable {rows : List Row} {L : List Int}
theorem zh7 {a k : Nat} : (c9 rows L a (k + 1)).last = bB rows (L.getD (a + k) 0) := rfl
theorem zr9 {a k : Nat} : (c9 rows L a (k + 1)).some = true := rfl
theorem zsa {a : Nat} (ht : fY rows) : ∀ k, (c9 rows L a k).pict ≠ 0 -> fC (c9 rows L a k).last = false
 | 0, h => absurd rfl h
 | k + 1, h => by
   rw [zh7];by_cases h1 : c4 rows 5 (L.getD (a + k) 0) = true
   ·exact (ht.pict _ h1).1
   ·have h' : (if (c9 rows L a k).pict = 1 /\ bB rows (L.getD (a + k) 0) = 4 then (1 : Int) else if (c9 rows L a k).pict = 1 /\ bB rows (L.getD (a + k) 0) = 5 then 2 else 0) ≠ 0 := by
     have h2 : (dR rows (c9 rows L a k) (L.getD (a + k) 0)).pict ≠ 0 := h;unfold dR at h2; simp only [if_neg h1] at h2; exact h2
    have : bB rows (L.getD (a + k) 0) = 4 ∨ bB rows (L.getD (a + k) 0) = 5 := by
     split at h'
     ·rename_i h3; exact .inl h3.2
     ·split at h'
      ·rename_i h3; exact .inr h3.2
      ·exact absurd rfl h'
    unfold fC;rcases this with e | e <;> rw [e] <;> rfl
theorem zsb {a : Nat} (ht : fY rows) : ∀ k, (c9 rows L a k).conj ≠ 0 -> fC (c9 rows L a k).last = false
 | 0, h => absurd rfl h
 | k + 1, h => by
   rw [zh7];apply ht.cons;intro h0;apply h;show (dR rows (c9 rows L a k) (L.getD (a + k) 0)).conj = 0;unfold dR;simp only [h0];rw [if_neg (by decide), if_neg (fun h => absurd h.2 (by decide)), if_neg (fun h => absurd h.2 (by decide))]
theorem zsc (k : Nat) : fJ rows L (k + 1) = t8 rows (c9 rows L 0 (k + 1)) (L.getD (k + 1) 0) := by
 unfold fJ nU; rw [zr9]; rfl
theorem zh8 (ht : fY rows) {a : Nat} (hb : fJ rows L a = true) : ∀ k, c9 rows L a (k + 1) = c9 rows L 0 (a + (k + 1))
 | 0 => by
   cases a with
   | zero => rfl
   | succ a =>
     rw [zsc] at hb;show dR rows st0 (L.getD (a + 1 + 0) 0) = dR rows (c9 rows L 0 (a + 1)) (L.getD (0 + (a + 1)) 0);rw [show a + 1 + 0 = a + 1 by omega, show 0 + (a + 1) = a + 1 by omega];have hp := zsa (a := 0) (L := L) ht (a + 1);have hc := zsb (a := 0) (L := L) ht (a + 1);generalize c9 rows L 0 (a + 1) = st at *;generalize L.getD (a + 1) 0 = r at *;unfold t8 at hb;simp only [qe, qw, qaa] at hb;obtain ⟨h1, h2, h3, h4⟩ := hb
     have hs : bB rows r = 4 ∨ bB rows r = 5 ∨ bB rows r = 8 -> fC st.last = true := fun h => by
      cases hh : fC st.last with
      | true => rfl
      | false => rw [zr8 hh (by unfold fC; rcases h with e | e | e <;> rw [e] <;> rfl) h] at h1; cases h1
     unfold dR st0
     have e1 : (if c4 rows 5 r = true then (1 : Int) else if (0 : Int) = 1 /\ bB rows r = 4 then 1 else if (0 : Int) = 1 /\ bB rows r = 5 then 2 else 0) = (if c4 rows 5 r = true then 1 else if st.pict = 1 /\ bB rows r = 4 then 1 else if st.pict = 1 /\ bB rows r = 5 then 2 else 0) := by
      by_cases h5 : c4 rows 5 r = true
      ·rw [if_pos h5, if_pos h5]
      ·rw [if_neg h5, if_neg h5, if_neg (by omega), if_neg (by omega)]
       have : ∀ b, (b = 4 ∨ b = 5 ∨ b = 8) -> ¬(st.pict = 1 /\ bB rows r = b) := fun b hb h => by
        have := hs (by rw [h.2]; exact hb);rw [hp (by omega)] at this; cases this
       rw [if_neg (this 4 (by omega)), if_neg (this 5 (by omega))]
     have e2 : (if cV rows r = 2 then (1 : Int) else if (0 : Int) ≠ 0 /\ cV rows r = 1 then 2 else if (0 : Int) ≠ 0 /\ cV rows r = 3 then 0 else 0) = (if cV rows r = 2 then 1 else if st.conj ≠ 0 /\ cV rows r = 1 then 2 else if st.conj ≠ 0 /\ cV rows r = 3 then st.conj else 0) := by
      by_cases h5 : cV rows r = 2
      ·rw [if_pos h5, if_pos h5]
      ·rw [if_neg h5, if_neg h5, if_neg (by omega), if_neg (by omega)]
       have : ∀ c, (c = 1 ∨ c = 3) -> ¬(st.conj ≠ 0 /\ cV rows r = c) := fun c hc2 h => by
        have := hs (ht.join r (by rw [h.2]; exact hc2));rw [hc h.1] at this; cases this
       rw [if_neg (this 1 (by omega)), if_neg (this 3 (by omega))]
     have e3 : (decide (bB rows r = 6) && !false) = (decide (bB rows r = 6) && !st.odd) := by
      rcases h4 with h4 | h4
      ·rw [h4]
      ·rw [h4]; rfl
     dsimp only at e1 e2 e3 ⊢;rw [e1, e2, e3]
 | k + 1 => by
   show dR rows (c9 rows L a (k + 1)) (L.getD (a + (k + 1)) 0) = dR rows (c9 rows L 0 (a + (k + 1))) (L.getD (0 + (a + (k + 1))) 0);rw [zh8 ht hb k, Nat.zero_add]
theorem zsd (ht : fY rows) {a : Nat} (hb : fJ rows L a = true) (k : Nat) : nU rows (c9 rows L a (k + 1)) (L.getD (a + (k + 1)) 0) = fJ rows L (a + (k + 1)) := by
 rw [zh8 ht hb k]; rfl
end
def fK (rows : List Row) (L : List Int) : Nat -> Nat -> Nat
 | 0, i => i
 | k + 1, i => if fJ rows L i = true then i else fK rows L k (i + 1)
def cK (rows : List Row) (L : List Int) (a : Nat) : Nat := fK rows L (L.length - (a + 1)) (a + 1)
theorem zh9 (rows : List Row) (L : List Int) : ∀ k i, i <= fK rows L k i /\ fK rows L k i <= i + k /\ (fK rows L k i = i + k ∨ fJ rows L (fK rows L k i) = true)
 | 0, i => ⟨qr _, qr _, .inl rfl⟩
 | k + 1, i => by
   rw [fK];split
   ·rename_i h; exact ⟨qr _, by omega, .inr h⟩
   ·obtain ⟨h1, h2, h3⟩ := zh9 rows L k (i + 1);exact ⟨by omega, by omega, h3.imp (fun e => by omega) id⟩
def jL (rows : List Row) (L : List Int) : Nat -> Nat -> List (List Int)
 | 0, _ => []
 | k + 1, i => if i < L.length then eK L i (cK rows L i) :: jL rows L k (cK rows L i) else []
def cG (rows : List Row) (L : List Int) (i : Nat) : List (List Int) := jL rows L (L.length + 1) i
theorem qQ {rows : List Row} {L : List Int} {i : Nat} (h : i < L.length) : i < cK rows L i /\ cK rows L i <= L.length /\ (cK rows L i = L.length ∨ fJ rows L (cK rows L i) = true) := by
 obtain ⟨h1, h2, h3⟩ := zh9 rows L (L.length - (i + 1)) (i + 1);unfold cK;exact ⟨by omega, by omega, h3.imp (fun e => by omega) id⟩
theorem zia (rows : List Row) (L : List Int) : ∀ k i, L.length + 1 <= k + i -> jL rows L k i = jL rows L (k + 1) i
 | 0, i, h => by rw [jL, jL, if_neg (by omega)]
 | k + 1, i, h => by
   rw [jL, jL];by_cases hi : i < L.length
   ·rw [if_pos hi, if_pos hi, zia rows L k _ (by have := (qQ (rows := rows) hi).1; omega)]
   ·rw [if_neg hi, if_neg hi]
theorem qR {rows : List Row} {L : List Int} {i : Nat} (h : L.length <= i) : cG rows L i = [] := by unfold cG; rw [jL, if_neg (by omega)]
theorem zap {rows : List Row} {L : List Int} {i : Nat} (h : i < L.length) : cG rows L i = eK L i (cK rows L i) :: cG rows L (cK rows L i) := by
 have := (qQ (rows := rows) h).1;unfold cG;rw [<- zia rows L L.length (cK rows L i) (by omega), jL, if_pos h]
section
variable {rows : List Row} {L : List Int}
end
end Go.Eng.Rows

namespace Go.Eng.Rows
open Go Go.Eng Go.Eng.Trie Go.Eng.Srt
def uA (rows : List Row) (hard : List Int) (lo hi : Int) : Bool := rows.all fun y => !(decide (y.kind = 4) && hard.contains y.a) || (decide (y.to < lo) || decide (hi < y.fr))
theorem zib {rows : List Row} {hard : List Int} {lo hi r : Int} (h : uA rows hard lo hi = true) (h0 : hard.contains 0 = false) (h1 : hard.contains 12 = false) (h2 : hard.contains 13 = false) (hr : lo <= r /\ r <= hi) : hard.contains (bB rows r) = false := by
 unfold bB;split
 ·split <;> assumption
 ·unfold aI;cases hf : bW rows 4 r with
  | none => exact h0
  | some p =>
    obtain ⟨x, hx, hk, ha, _, h3, h4, _⟩ := mG hf;dsimp only;rw [<- ha];have := List.all_eq_true.1 h x hx;simp only [ql, qw, qaa, aB, dA] at this;rcases this with (h5 | h5) | h5 | h5
    ·exact absurd hk h5
    ·exact h5
    ·omega
    ·omega
def zse (rows : List Row) : Bool := rows.all fun x =>
 (!(decide (x.kind = 5) && decide (x.a = 1)) || uA rows [1, 2, 3, 5] x.fr x.to) &&
 (!decide (x.kind = 6) || (uA rows [1, 2, 3] x.fr x.to && ((decide (0 <= x.a) && decide (x.a <= 2)) && (!decide (x.a = 1) || (decide (x.fr = x.to) && (decide (bB rows x.fr = 4) || (decide (bB rows x.fr = 5) || decide (bB rows x.fr = 8))))))))
theorem zsf {b : Int} (h : ([1, 2, 3] : List Int).contains b = false) : fC b = false := by
 simp only [qaj, qak, qaq, qp, beq_eq_false_iff_ne, ne_eq] at h;unfold fC;simp only [qp, dA]; omega
theorem zsg {rows : List Row} (h : zse rows = true) : fY rows := by
 have hall := List.all_eq_true.1 h
 have h6 : ∀ r, aI rows 6 r ≠ 0 -> ∃ x ∈ rows, x.kind = 6 /\ x.a = aI rows 6 r /\ x.fr <= r /\ r <= x.to := fun r hr => by
  unfold aI at hr ⊢;cases hf : bW rows 6 r with
  | none => rw [hf] at hr; exact absurd rfl hr
  | some p =>
    obtain ⟨x, hx, hk, ha, _, h3, h4, _⟩ := mG hf;exact ⟨x, hx, hk, ha, h3, h4⟩
 have g6 : ∀ x ∈ rows, x.kind = 6 -> uA rows [1, 2, 3] x.fr x.to = true /\ (0 <= x.a /\ x.a <= 2) /\ (x.a ≠ 1 ∨ (x.fr = x.to /\ (bB rows x.fr = 4 ∨ bB rows x.fr = 5 ∨ bB rows x.fr = 8))) := fun x hx hk => by
  have := hall x hx;simp only [qe, ql, qw, aB, dA] at this;rcases this.2 with h | h
  ·exact absurd hk h
  ·exact h
 refine ⟨fun r hr => ?_, fun r => ?_, fun r hr => ?_, fun r hr => ?_⟩
 ·unfold c4 at hr;cases hf : bW rows 5 r with
  | none => rw [hf] at hr; cases hr
  | some p =>
    rw [hf] at hr;obtain ⟨x, hx, hk, ha, _, h3, h4, _⟩ := mG hf;have := hall x hx;simp only [qe, ql, qw, qaa, dA] at this;rcases this.1 with (h5 | h5) | h5
    ·exact absurd hk h5
    ·exact absurd (ha.trans (of_decide_eq_true hr)) h5
    ·have := zib h5 (by decide) (by decide) (by decide) ⟨h3, h4⟩;simp only [qaj, qak, qaq, qp, beq_eq_false_iff_ne, ne_eq] at this;refine ⟨?_, this.2.2.2⟩;unfold fC;simp only [qp, dA]; exact ⟨this.2.2.1, this.1, this.2.1⟩
 ·unfold cV;split
  ·rename_i hn;obtain ⟨x, hx, hk, ha, _, _⟩ := h6 r hn;have := (g6 x hx hk).2.1;omega
  ·split
   ·exact .inr (.inr (.inr rfl))
   ·exact .inl rfl
 ·unfold cV at hr;split at hr
  ·rename_i hn;obtain ⟨x, hx, hk, ha, h3, h4⟩ := h6 r hn;exact zsf (zib (g6 x hx hk).1 (by decide) (by decide) (by decide) ⟨h3, h4⟩)
  ·split at hr
   ·rename_i h4;unfold fC;rcases h4.1 with e | e <;> rw [e] <;> rfl
   ·exact absurd rfl hr
 ·unfold cV at hr;split at hr
  ·rename_i hn;obtain ⟨x, hx, hk, ha, h3, h4⟩ := h6 r hn;obtain ⟨_, g2, g3⟩ := g6 x hx hk;have h1 : x.a = 1 := by omega
   obtain ⟨g4, g5⟩ := g3.resolve_left (fun h => h h1);rw [show r = x.fr by omega]; exact g5
  ·split at hr
   ·rename_i h4;rcases h4.1 with e | e
    ·exact .inl e
    ·exact .inr (.inl e)
   ·omega
end Go.Eng.Rows
namespace Go.Eng
open Go.Eng.Rows
theorem zic : fY tab := zsg (by kernel_rfl)
end Go.Eng


namespace Go.Eng.Srt
open Go Go.Eng
end Go.Eng.Srt
namespace Go.Eng.Rows
open Go Go.Eng Go.Eng.Trie Go.Eng.Srt
section
variable {rows : List Row}
end
section
variable (ks : List (List Int))
end
section
variable {ks : List (List Int)} {want : List Int}
end
section
variable {rows : List Row} {L : List Int}
theorem zid : ∀ (n i : Nat), L.length - i <= n -> (cG rows L i).flatten = L.drop i
 | 0, i, h => by rw [qR (by omega), qj (by omega)]; rfl
 | n + 1, i, h => by
   by_cases hi : i < L.length
   ·obtain ⟨h1, h2, _⟩ := qQ (rows := rows) hi;rw [zap hi, qad, zid n _ (by omega), zr6 (j := i) (b := cK rows L i) (by omega) h2]
   ·rw [qR (by omega), qj (by omega)]; rfl
theorem zie (rows : List Row) (L : List Int) : (cG rows L 0).flatten = L := by rw [zid L.length 0 (by omega)]; rfl
theorem zif : ∀ (n i : Nat), L.length - i <= n -> ∀ c ∈ cG rows L i, c ≠ []
 | 0, i, h, c, hc => by rw [qR (by omega)] at hc; cases hc
 | n + 1, i, h, c, hc => by
   by_cases hi : i < L.length
   ·obtain ⟨h1, h2, _⟩ := qQ (rows := rows) hi;rw [zap hi] at hc;rcases List.mem_cons.1 hc with rfl | hc
    ·rw [zr7 h1 h2]; exact List.cons_ne_nil _ _
    ·exact zif n _ (by omega) c hc
   ·rw [qR (by omega)] at hc; cases hc
end
end Go.Eng.Rows

namespace Go.Eng
open Go Go.Proofs
section
variable (tc tg tj tf tp : PV) (M S : List (PV × PV)) (r : Int)
def zig (R : PV -> Prop) : Prop :=
 if (decide (r >= 44032) && decide (r <= 55203) && (i32.wrap (r - 44032)).tmod (28 : Int) == 0) = true then R (Z6 12) else if (decide (r >= 44032) && decide (r <= 55203)) = true then R (Z6 13) else (∃ ps, some tg = some (PV.ptr ps) /\ PCall qa 72 [PV.ptr ps, Z6 (i64.wrap r)] fun v => ∃ n, v = Z6 n /\ R (Z6 n)) ∨ some tg = some PV.nilp /\ PCall qa 72 [PV.nilp, Z6 (i64.wrap r)] fun v => ∃ n, v = Z6 n /\ R (Z6 n)
theorem zsh {R : PV -> Prop} (h : zig tg r R) : PCall qa 73 [.ptr [tc, tg, tj, tf, tp, .mp M, .mp S], .int .i32 r] R :=
 PCall.wz Try.func73 aT [0, 1, 4, 5, 18, 25] bE h
end
section
variable (tc tg tj tf tp : PV) (M S : List (PV × PV)) (r : Int)
def zih (R : PV -> Prop) : Prop :=
 let V1 := PCall qa 73 [PV.ptr [tc, tg, tj, tf, tp, PV.mp M, PV.mp S], Z3 r] fun v1 => ∃ n1, v1 = Z6 n1 /\ if ((n1 == 4 || n1 == 5) && r != 8204) = true then R (Z6 3) else R (Z6 0); (∃ ps, some tj = some (PV.ptr ps) /\ PCall qa 72 [PV.ptr ps, Z6 (i64.wrap r)] fun v => ∃ n, v = Z6 n /\ if (n != 0) = true then R (Z6 n) else V1) ∨ some tj = some PV.nilp /\ PCall qa 72 [PV.nilp, Z6 (i64.wrap r)] fun v => ∃ n, v = Z6 n /\ if (n != 0) = true then R (Z6 n) else V1
theorem zsi {R : PV -> Prop} (h : zih tc tg tj tf tp M S r R) : PCall qa 75 [.ptr [tc, tg, tj, tf, tp, .mp M, .mp S], .int .i32 r] R :=
 PCall.wz Try.func75 aT [0, 1, 4, 5, 6, 8, 17, 31] bE h
end
section
variable (tc tg tj tf tp : PV) (M S : List (PV × PV)) (r : Int)
def zii (R : PV -> Prop) : Prop :=
 (∃ ps, some tf = some (PV.ptr ps) /\ PCall qa 55 [PV.ptr ps, Z6 (i64.wrap r)] fun v => ∃ cs, v = PV.agg cs /\ cs.length = 4 /\ ∃ b, cs.head? = some (Zb b) /\ ∃ b1, cs.tail.head? = some (Zb b1) /\ ∃ b2, cs.tail.tail.head? = some (Zb b2) /\ ∃ b3, cs.tail.tail.tail.head? = some (Zb b3) /\ R (Zb b)) ∨ some tf = some PV.nilp /\ PCall qa 55 [PV.nilp, Z6 (i64.wrap r)] fun v => ∃ cs, v = PV.agg cs /\ cs.length = 4 /\ ∃ b, cs.head? = some (Zb b) /\ ∃ b1, cs.tail.head? = some (Zb b1) /\ ∃ b2, cs.tail.tail.head? = some (Zb b2) /\ ∃ b3, cs.tail.tail.tail.head? = some (Zb b3) /\ R (Zb b)
theorem zsj {R : PV -> Prop} (h : zii tf r R) : PCall qa 74 [.ptr [tc, tg, tj, tf, tp, .mp M, .mp S], .int .i32 r] R :=
 PCall.wz Try.func74 aT [0, 1, 4] bE h
end
section
variable (a b : Int)
def zij (R : PV -> Prop) : Prop :=
 let X := if (a == 13) = true then if (a == 13) = true then R (Zb (b == 11)) else R (Zb false) else if (a == 11) = true then R (Zb (b == 11)) else R (Zb false)
 let A := if (a == 7) = true then R (Zb true) else if (a == 9) = true then R (Zb (b == 9 || b == 10 || b == 12 || b == 13)) else if (a == 12) = true then if (a == 12) = true then R (Zb (b == 10 || b == 11)) else X else if (a == 10) = true then R (Zb (b == 10 || b == 11)) else X
 let B := if (b == 4) = true then if (b == 4) = true then R (Zb true) else A else if (b == 5) = true then if (b == 5) = true then R (Zb true) else A else if (b == 8) = true then R (Zb true) else A
 let C := if (b == 1) = true then if (b == 1) = true then R (Zb false) else B else if (b == 2) = true then if (b == 2) = true then R (Zb false) else B else if (b == 3) = true then R (Zb false) else B
 if (a == 1) = true then R (Zb (b == 2)) else if (a == 2) = true then if (a == 2) = true then R (Zb false) else C else if (a == 3) = true then R (Zb false) else C
theorem zsk {R : PV -> Prop} (h : zij a b R) : PCall qa 76 [.int .i64 a, .int .i64 b] R :=
 PCall.wz Try.func76 aT [0, 1, 4, 5, 6, 10, 13, 14, 18, 22, 23, 25, 41, 50] bE h
end
section
variable (so od : Bool) (la pi co : Int) (tc tg tj tf tp : PV) (M S : List (PV × PV)) (r : Int)
def zik (R : PV -> Prop) : Prop :=
 PCall qa 73 [PV.ptr [tc, tg, tj, tf, tp, PV.mp M, PV.mp S], Z3 r] fun v => ∃ n, v = Z6 n /\ PCall qa 74 [PV.ptr [tc, tg, tj, tf, tp, PV.mp M, PV.mp S], Z3 r] fun v1 => ∃ b, v1 = Zb b /\ PCall
 qa 75 [PV.ptr [tc, tg, tj, tf, tp, PV.mp M, PV.mp S], Z3 r] fun v2 => ∃ n1, v2 = Z6 n1 /\ PCall qa 76 [Z6 la, Z6 n] fun v3 => ∃ b1, v3 = Zb b1 /\
 let C : Int -> Bool -> Bool -> Prop := fun p o c => if (n1 == 2) = true then R (PV.tup [PV.agg [Zb true, Z6 n, Z6 p, Z6 1, Zb o], Zb c]) else if (co != 0 && n1 == 1) = true then R (PV.tup [PV.agg [Zb true, Z6 n, Z6 p, Z6 2, Zb o], Zb c]) else if (co != 0 && n1 == 3) = true then R (PV.tup [PV.agg [Zb true, Z6 n, Z6 p, Z6 co, Zb o], Zb c]) else R (PV.tup [PV.agg [Zb true, Z6 n, Z6 p, Z6 0, Zb o], Zb c])
 let D : Bool -> Bool -> Prop := fun o c => if b = true then C 1 o c else if (pi == 1 && n == 4) = true then C 1 o c else if (pi == 1 && n == 5) = true then C 2 o c else C 0 o c
 let E : Bool -> Prop := fun c => if (n == 6) = true then D (!od) c else D false c
 if (!b1) = true then if (!(pi == 2 && b)) = true then if (!(co == 2 && n1 == 2)) = true then E (!so || !(od && n == 6)) else E (!so || false) else E (!so || false) else E (!so || false)
theorem zsl {R : PV -> Prop} (h : zik so od la pi co tc tg tj tf tp M S r R) : PCall qa 57 [.agg [.bool so, .int .i64 la, .int .i64 pi, .int .i64 co, .bool od], .ptr [tc, tg, tj, tf, tp, .mp M, .mp S], .int .i32 r] R :=
 PCall.wz Try.func57 aT [0, 1, 2, 3, 6, 7, 8, 9, 10, 11, 12, 64, 67, 76, 85, 89, 98] bE h
end
def zaq (tc tg tj tf tp : PV) (M S : List (PV × PV)) (n f : Bool) (es : LL) (x2 : Int) (h0_0 : Bool) (h0_1 h0_2 h0_3 : Int) (h0_4 : Bool) : Env × Hp := ([(0, LV.pv (PV.ptr [tc, tg, tj, tf, tp, PV.mp M, PV.mp S])), (1, LV.pv (PV.sl n f es)), (2, Y6 x2), (7, LV.box 0 0)], [.box [.pv (.bool h0_0), Y6 h0_1, Y6 h0_2, Y6 h0_3, .pv (.bool h0_4)]])
section
variable (tc tg tj tf tp : PV) (M S : List (PV × PV)) (n f : Bool) (es : LL) (k : Int) (J : Int -> Bool -> Int -> Int -> Int -> Bool -> Prop) (μ : Int -> Bool -> Int -> Int -> Int -> Bool -> Nat)
def zil (R : PV -> Prop) : Prop :=
 if (decide (k < 0) || decide (k >= (↑es.length : Int))) = true then R (Z6 (↑es.length : Int)) else aR es k 1 /\ ∃ n1, (es.getD k.toNat []).head? = some (Z3 n1) /\ PCall qa 57 [PV.agg [Zb false, Z6 0, Z6 0, Z6 0, Zb false],
  PV.ptr [tc, tg, tj, tf, tp, PV.mp M, PV.mp S], Z3 n1] fun v => ∃ vs, v = PV.tup vs /\ vs.length = 2 /\ ∃ x, vs.head? = some x /\ ∃ cs, x = PV.agg cs /\ cs.length = 5 /\ ∃ b, cs.head? = some (Zb b)
  /\ ∃ n2, cs.tail.head? = some (Z6 n2) /\ ∃ n3, cs.tail.tail.head? = some (Z6 n3) /\ ∃ n4, cs.tail.tail.tail.head? = some (Z6 n4) /\ ∃ b1, cs.tail.tail.tail.tail.head? = some (Zb b1) /\ ∃ (x1 : PV),
  vs.tail.head? = some x1 /\ ∃ b2, x1 = Zb b2 /\ (aF (zaq tc tg tj tf tp M S n f es (i64.wrap (k + 1)) b n2 n3 n4 b1) /\ J (i64.wrap (k + 1)) b n2 n3 n4 b1) /\ ∀ (x2 : Int) (h0_0 : Bool) (h0_1 h0_2 h0_3 : Int)
  (h0_4 : Bool), J x2 h0_0 h0_1 h0_2 h0_3 h0_4 ->
 let K5 := fun (y0_ : Int) (y1_ : Bool) (y2_ y3_ y4_ : Int) (y5_ : Bool) => aF (zaq tc tg tj tf tp M S n f es y0_ y1_ y2_ y3_ y4_ y5_) /\ J y0_ y1_ y2_ y3_ y4_ y5_ /\ μ y0_ y1_ y2_ y3_ y4_ y5_ < μ x2 h0_0 h0_1 h0_2 h0_3
  h0_4; if decide (x2 < (↑es.length : Int)) = true then aR es x2 1 /\ ∃ n5, (es.getD x2.toNat []).head? = some (Z3 n5) /\ (PCall qa 57 [PV.agg [Zb h0_0, Z6 h0_1, Z6 h0_2, Z6 h0_3, Zb h0_4], PV.ptr [tc, tg, tj, tf, tp, PV.mp
  M, PV.mp S], Z3 n5] fun v1 => ∃ vs1, v1 = PV.tup vs1 /\ vs1.length = 2 /\ ∃ x3, vs1.head? = some x3 /\ ∃ cs1, x3 = PV.agg cs1 /\ cs1.length = 5 /\ ∃ b3, cs1.head? = some (Zb b3) /\ ∃ (n6 : Int),
  cs1.tail.head? = some (Z6 n6) /\ ∃ n7, cs1.tail.tail.head? = some (Z6 n7) /\ ∃ n8, cs1.tail.tail.tail.head? = some (Z6 n8) /\ ∃ b4, cs1.tail.tail.tail.tail.head? = some (Zb b4) /\ ∃ x4, vs1.tail.head? = some
  x4 /\ ∃ b5, x4 = Zb b5 /\
 let V1 := if b5 = true then R (Z6 x2) else K5 (i64.wrap (x2 + 1)) b3 n6 n7 n8 b4; V1 /\ V1 /\ V1) /\ PCall qa 57 [PV.agg [Zb h0_0, Z6 h0_1, Z6 h0_2, Z6 h0_3, Zb h0_4], PV.ptr [tc, tg, tj, tf, tp, PV.mp M, PV.mp S], Z3 n5] fun
  (v1 : PV) => ∃ vs1, v1 = PV.tup vs1 /\ vs1.length = 2 /\ ∃ x3, vs1.head? = some x3 /\ ∃ cs1, x3 = PV.agg cs1 /\ cs1.length = 5 /\ ∃ b3, cs1.head? = some (Zb b3) /\ ∃ n6, cs1.tail.head? = some (Z6
  n6) /\ ∃ n7, cs1.tail.tail.head? = some (Z6 n7) /\ ∃ n8, cs1.tail.tail.tail.head? = some (Z6 n8) /\ ∃ b4, cs1.tail.tail.tail.tail.head? = some (Zb b4) /\ ∃ x4, vs1.tail.head? = some x4 /\ ∃ b5, x4 = Zb
  b5 /\
 let V2 := if b5 = true then R (Z6 x2) else K5 (i64.wrap (x2 + 1)) b3 n6 n7 n8 b4; V2 /\ V2 else R (Z6 x2)
theorem zsm {R : PV -> Prop} (h : zil tc tg tj tf tp M S n f es k J μ R) : PCall qa 38 [.ptr [tc, tg, tj, tf, tp, .mp M, .mp S], .sl n f es, .int .i64 k] R :=
 PCall.wz Try.func38 aT [0, 1, 2, 6, 7, 9, 10, 18, 36, 49] (dB 5 (bF cz6 (zaq tc tg tj tf tp M S n f es) J μ (fun e h => (gI e 2, hB h 0 0, hI h 0 1, hI h 0 2, hI h 0 3, hB h 0 4)) [] [0, 1, 2, 7] [])) h
end
def zar (tc tg tj tf tp : PV) (M S : List (PV × PV)) (n f : Bool) (es : LL) (x6 : Int) (n_0 : Bool) (s_0 : LL) : Env × Hp := ([(0, LV.pv (PV.ptr [tc, tg, tj, tf, tp, PV.mp M, PV.mp S])), (1, LV.pv (PV.sl n f es)), (5, LV.own 0), (6, Y6 x6)], [.sl (22, 1) true n_0 s_0])
section
variable (tc tg tj tf tp : PV) (M S : List (PV × PV)) (n f : Bool) (es : LL) (J : Int -> Bool -> LL -> Prop) (μ : Int -> Bool -> LL -> Nat)
def zim (R : PV -> Prop) : Prop :=
 (aF (zar tc tg tj tf tp M S n f es (0 : Int) true []) /\ J (0 : Int) true []) /\ ∀ (x6 : Int) (n_0 : Bool) (s_0 : LL), J x6 n_0 s_0 -> if decide (x6 < (↑es.length : Int)) = true then PCall qa 38 [PV.ptr [tc, tg, tj, tf, tp, PV.mp M, PV.mp S], PV.sl n f es, Z6 x6] fun v => ∃ n1, v = Z6 n1 /\ (eQ es.length (some x6) (some n1) none /\ aS es 1) /\ PCall qa 37 [PV.sl n (f && decide (n1 = (↑es.length : Int))) (qz x6.toNat (List.take n1.toNat es))] fun v1 => ∃ n2 f1 es1, v1 = PV.sl n2 f1 es1 /\ (aS [[PV.sl n2 f1 es1]] 1 /\ (s_0.length + 1) * 24 <= 140737488355328) /\ aF (zar tc tg tj tf tp M S n f es n1 (n_0 && false) (s_0 ++ [[PV.sl n2 f1 es1]])) /\ J n1 (n_0 && false) (s_0 ++ [[PV.sl n2 f1 es1]]) /\ μ n1 (n_0 && false) (s_0 ++ [[PV.sl n2 f1 es1]]) < μ x6 n_0 s_0 else R (PV.sl n_0 false s_0)
theorem zsn {R : PV -> Prop} (h : zim tc tg tj tf tp M S n f es J μ R) : PCall qa 15 [.ptr [tc, tg, tj, tf, tp, .mp M, .mp S], .sl n f es] R :=
 PCall.wz Try.func15 aT [0, 1, 4, 5, 6, 7, 11] (dB 3 (bF eF (zar tc tg tj tf tp M S n f es) J μ (fun e h => (gI e 6, oN h 0, oS h 0)) [(5, 22, 1)] [0, 1, 5, 6] [])) h
end
end Go.Eng
namespace Go.Eng
open Go Go.Proofs Go.Eng.Rows Go.Eng.Trie Go.Eng.Srt
def zas (st : SSt) : PV := .agg [.bool st.some, .int .i64 st.last, .int .i64 st.pict, .int .i64 st.conj, .bool st.odd]
theorem zso {r : Int} (h : 44032 <= r /\ r <= 55203) : i32.wrap (r - 44032) = r - 44032 := dF (by omega) (by omega)
section
variable {rows : List Row} {v : PV}
theorem zin (hv : dI rows v) {r : Int} (hr : -2147483648 <= r /\ r <= 2147483647) : PCall qa 73 [v, .int .i32 r] fun x => x = .int .i64 (bB rows r) := by
 obtain ⟨tc, tg, tj, tf, tp, made, sec, rfl, ht, hm⟩ := hv;refine zsh _ _ _ _ _ _ _ _ ?_; unfold zig;by_cases hh : 44032 <= r /\ r <= 55203
 ·rw [zso hh];by_cases hm28 : (r - 44032).tmod 28 = 0
  ·refine bG (by simp [hh, hm28]) ?_;unfold bB; rw [if_pos hh, if_pos hm28]
  ·refine bI (by simp [hm28]) (bG (by simp [hh]) ?_);unfold bB; rw [if_pos hh, if_neg hm28]
 ·refine bI (by simp; omega) (bI (by simp; omega) ?_);obtain ⟨ps, rfl⟩ := ht.g.ptr;refine .inl ⟨ps, rfl, ?_⟩;have hw : i64.wrap r = r := aD (by omega) (by omega);rw [hw];refine (yR ht.g r (by omega)).mono ?_;rintro _ rfl;refine ⟨_, rfl, ?_⟩;rw [zL]; unfold bB; rw [if_neg hh]
theorem zsp (hv : dI rows v) {r : Int} (hr : -2147483648 <= r /\ r <= 2147483647) : PCall qa 75 [v, .int .i32 r] fun x => x = .int .i64 (cV rows r) := by
 have hb := zin hv hr;obtain ⟨tc, tg, tj, tf, tp, made, sec, rfl, ht, hm⟩ := hv;refine zsi _ _ _ _ _ _ _ _ ?_; unfold zih;obtain ⟨ps, rfl⟩ := ht.j.ptr;refine .inl ⟨ps, rfl, ?_⟩;have hw : i64.wrap r = r := aD (by omega) (by omega);rw [hw];refine (yR ht.j r (by omega)).mono ?_;rintro _ rfl;refine ⟨_, rfl, ?_⟩;rw [zL];unfold cV;refine aG (fun hc => ?_) (fun hc => ?_)
 ·simp only [bne_iff_ne, ne_eq] at hc;rw [if_pos hc]
 ·simp only [bne_iff_ne, ne_eq, qal] at hc;rw [if_neg (fun h => h hc)];refine hb.mono ?_;rintro _ rfl;refine ⟨_, rfl, aG (fun h2 => ?_) (fun h2 => ?_)⟩
  ·simp only [qe, ql, beq_iff_eq, bne_iff_ne, ne_eq] at h2;rw [if_pos h2]
  ·simp only [qe, ql, beq_iff_eq, bne_iff_ne, ne_eq] at h2;rw [if_neg h2]
theorem zsq (hv : dI rows v) {r : Int} (hr : -2147483648 <= r /\ r <= 2147483647) : PCall qa 74 [v, .int .i32 r] fun x => x = .bool (c4 rows 5 r) := by
 obtain ⟨tc, tg, tj, tf, tp, made, sec, rfl, ht, hm⟩ := hv;refine zsj _ _ _ _ _ _ _ _ ?_; unfold zii;obtain ⟨ps, rfl⟩ := ht.f.ptr;refine .inl ⟨ps, rfl, ?_⟩;have hw : i64.wrap r = r := aD (by omega) (by omega);rw [hw];refine (zf5 ht.f r (by omega)).mono ?_;rintro _ rfl;rw [zgy];exact ⟨_, rfl, rfl, _, rfl, _, rfl, _, rfl, _, rfl, rfl⟩
theorem zsr (a b : Int) : PCall qa 76 [.int .i64 a, .int .i64 b] fun x => x = .bool (nT a b) := by
 refine zsk _ _ ?_; unfold zij;simp only [beq_iff_eq];have hd : ∀ x y : Int, (x == y) = decide (x = y) := fun x y => by by_cases h : x = y <;> simp [h]
 simp only [hd];unfold nT zh6;rcases (by omega : b = 1 ∨ b = 2 ∨ b = 3 ∨ b = 4 ∨ b = 5 ∨ b = 8 ∨ (b ≠ 1 /\ b ≠ 2 /\ b ≠ 3 /\ b ≠ 4 /\ b ≠ 5 /\ b ≠ 8)) with rfl | rfl | rfl | rfl | rfl | rfl | ⟨b1, b2, b3, b4, b5, b8⟩
 all_goals
  rcases (by omega : a = 1 ∨ a = 2 ∨ a = 3 ∨ a = 7 ∨ a = 9 ∨ a = 10 ∨ a = 11 ∨ a = 12 ∨ a = 13 ∨ (a ≠ 1 /\ a ≠ 2 /\ a ≠ 3 /\ a ≠ 7 /\ a ≠ 9 /\ a ≠ 10 /\ a ≠ 11 /\ a ≠ 12 /\ a ≠ 13)) with rfl | rfl | rfl | rfl | rfl | rfl | rfl | rfl | rfl | ⟨a1, a2, a3, a7, a9, a10, a11, a12, a13⟩
 all_goals simp [*, Bool.or_assoc]
theorem zss (hv : dI rows v) (st : SSt) {r : Int} (hr : -2147483648 <= r /\ r <= 2147483647) : PCall qa 57 [zas st, v, .int .i32 r] fun x => x = .tup [zas (dR rows st r), .bool (nU rows st r)] := by
 have h1 := zin hv hr;have h2 := zsq hv hr;have h3 := zsp hv hr;obtain ⟨tc, tg, tj, tf, tp, made, sec, rfl, ht, hm⟩ := hv;obtain ⟨so, la, pi, co, od⟩ := st;refine zsl _ _ _ _ _ _ _ _ _ _ _ _ _ ?_; unfold zik;refine h1.mono ?_;rintro _ rfl;refine ⟨_, rfl, ?_⟩;refine h2.mono ?_;rintro _ rfl;refine ⟨_, rfl, ?_⟩;refine h3.mono ?_;rintro _ rfl;refine ⟨_, rfl, ?_⟩;refine (zsr la (bB rows r)).mono ?_;rintro _ rfl;refine ⟨_, rfl, ?_⟩;unfold dR nU t8 zas;dsimp only;have hd : ∀ x y : Int, (x == y) = decide (x = y) := fun x y => by by_cases h : x = y <;> simp [h]
 have hd2 : ∀ x y : Int, (x != y) = !decide (x = y) := fun x y => by by_cases h : x = y <;> simp [h]
 simp only [hd, hd2];generalize nT la (bB rows r) = b1;generalize c4 rows 5 r = b;generalize cV rows r = c;generalize bB rows r = n;by_cases n6 : n = 6
 ·subst n6;cases b1 <;> cases b <;> by_cases p2 : pi = 2 <;> by_cases c2 : c = 2 <;> by_cases k2 : co = 2 <;> by_cases c1 : c = 1 <;> by_cases c3 : c = 3 <;> by_cases k0 : co = 0 <;> first | omega | simp [*]
 ·by_cases p1 : pi = 1
  ·subst p1;by_cases n4 : n = 4
   ·subst n4;cases b1 <;> cases b <;> by_cases c2 : c = 2 <;> by_cases k2 : co = 2 <;> by_cases c1 : c = 1 <;> by_cases c3 : c = 3 <;> by_cases k0 : co = 0 <;> first | omega | simp [*]
   ·by_cases n5 : n = 5
    ·subst n5;cases b1 <;> cases b <;> by_cases c2 : c = 2 <;> by_cases k2 : co = 2 <;> by_cases c1 : c = 1 <;> by_cases c3 : c = 3 <;> by_cases k0 : co = 0 <;> first | omega | simp [*]
    ·cases b1 <;> cases b <;> by_cases c2 : c = 2 <;> by_cases k2 : co = 2 <;> by_cases c1 : c = 1 <;> by_cases c3 : c = 3 <;> by_cases k0 : co = 0 <;> first | omega | simp [*]
  ·cases b1 <;> cases b <;> by_cases p2 : pi = 2 <;> by_cases c2 : c = 2 <;> by_cases k2 : co = 2 <;> by_cases c1 : c = 1 <;> by_cases c3 : c = 3 <;> by_cases k0 : co = 0 <;> first | omega | simp [*]
end
theorem uB {L : List Int} (h : R32 L) (i : Nat) : -2147483648 <= L.getD i 0 /\ L.getD i 0 <= 2147483647 := by
 by_cases hi : i < L.length
 ·rw [show L.getD i 0 = L[i] by simp [qac, hi]]; exact h _ (qy hi)
 ·rw [show L.getD i 0 = 0 by simp [qac, hi]]; omega
theorem qS {l : List Int} {i : Int} (h0 : 0 <= i) (hi : i.toNat < l.length) : aR (aA l) i 1 /\ (aA l).getD i.toNat [] = [.int .i32 (l.getD i.toNat 0)] := by
 obtain ⟨h1, h2⟩ := nQ h0 hi;exact ⟨h1, by rw [h2]; simp [qac, hi]⟩
theorem zio : ∀ {C : List (List Int)}, (∀ c ∈ C, c ≠ []) -> C.length <= C.flatten.length
 | [], _ => qr _
 | c :: C, h => by
   have h1 := List.length_pos_iff.2 (h c List.mem_cons_self);have := zio fun x hx => h x (List.mem_cons_of_mem c hx);rw [qad, qc, qd]; omega
theorem uC (rows : List Row) (L : List Int) : (cG rows L 0).length <= L.length := by
 have := zio (zif (rows := rows) (L := L) L.length 0 (by omega));rwa [zie] at this
theorem zst {C : List (List Int)} {c : List Int} (h : c ∈ C) : c.length <= C.flatten.length := by
 induction C with
 | nil => cases h
 | cons d C ih =>
   rw [qad, qc];rcases List.mem_cons.1 h with rfl | h
   ·omega
   ·have := ih h; omega
theorem zsu {rows : List Row} {L c : List Int} (h : c ∈ cG rows L 0) : c.length <= L.length := by
 have := zst h;rwa [zie] at this
theorem uD {α : Type} {l : List α} {i : Nat} (d : α) (h : i < l.length) : l.getD i d = l[i] := by simp [qac, h]
theorem PCall.vac {P : Program} {f : Nat} {args args' : List PV} {Q Q' : PV -> Prop} (h : PCall P f args' Q') {k : Nat} {fl : Bool} {es : List (List PV)} (hk : args[k]? = some (.sl true fl es)) (hne : es ≠ []) : PCall P f args Q :=
 ⟨h.1, fun w I G cargs _ _ h3 => by
  have := h3 k (.pv (.sl true fl es)) (by rw [List.getElem?_map, hk]; rfl);generalize cargs.getD k undef = c at this;cases this with
  | pv _ _ h =>
    generalize hx : es = xs at h;cases h with
    | slnil => exact absurd hx hne⟩
theorem ziq {L : List Int} (h : L ≠ []) : aA L ≠ [] := fun e => h (by cases L with | nil => rfl | cons a b => cases e)
section
variable {rows : List Row} {v : PV}
theorem zsv {L : List Int} {i : Nat} (hi : i < L.length) (hb : fJ rows L i = false) : fK rows L (L.length - i) i = fK rows L (L.length - (i + 1)) (i + 1) := by
 rw [show L.length - i = (L.length - (i + 1)) + 1 by omega, fK, if_neg (by rw [hb]; decide)]
theorem zsw {L : List Int} {i : Nat} (hi : i < L.length) (hb : fJ rows L i = true) : fK rows L (L.length - i) i = i := by
 rw [show L.length - i = (L.length - (i + 1)) + 1 by omega, fK, if_pos hb]
theorem zsx (ht : fY rows) (hv : dI rows v) (n f : Bool) (L : List Int) (hr : R32 L) (hL : L.length < 1000000000000) (k : Int) (k0 : 0 <= k) (k1 : k < L.length) (hb : fJ rows L k.toNat = true) :
 PCall qa 38 [v, .sl n f (aA L), .int .i64 k] fun x => x = .int .i64 (cK rows L k.toNat : Nat) := by
 have hs := fun st {r : Int} hr => zss hv st (r := r) hr;obtain ⟨tc, tg, tj, tf, tp, made, sec, rfl, ht', hm⟩ := hv
 refine zsm _ _ _ _ _ _ _ _ _ _ _
  (fun i so la pi co od => (k + 1 <= i /\ i <= L.length) /\ c9 rows L k.toNat (i.toNat - k.toNat) = ⟨so, la, pi, co, od⟩ /\ cK rows L k.toNat = fK rows L (L.length - i.toNat) i.toNat) (fun i _ _ _ _ _ => L.length - i.toNat) ?_
 unfold zil;have hl8 : ((aA L).length : Int) = L.length := by rw [cA]
 rw [hl8];refine bI (by simp; omega) ?_;have hk : k.toNat < L.length := by omega
 obtain ⟨g1, g2⟩ := qS k0 hk;have hw : i64.wrap (k + 1) = k + 1 := aD (by omega) (by omega);refine ⟨g1, _, by rw [g2]; rfl, ?_⟩;refine (hs st0 (uB hr k.toNat)).mono ?_;rintro _ rfl;rw [hw];refine ⟨_, rfl, rfl, _, rfl, _, rfl, rfl, _, rfl, _, rfl, _, rfl, _, rfl, _, rfl, _, rfl, _, rfl, ⟨rfl, ⟨by omega, by omega⟩, ?_, ?_⟩, ?_⟩
 ·rw [show (k + 1).toNat - k.toNat = 1 by omega]; rfl
 ·rw [show (k + 1).toNat = k.toNat + 1 by omega]; rfl
 rintro i so la pi co od ⟨⟨i0, i1⟩, hst, hn⟩;refine aG (fun hc => ?_) (fun hc => ?_)
 ·simp only [aB] at hc;have hi : i.toNat < L.length := by omega
  obtain ⟨j, hj⟩ : ∃ j, i.toNat = k.toNat + (j + 1) := ⟨i.toNat - k.toNat - 1, by omega⟩;obtain ⟨g1, g2⟩ := qS (l := L) (i := i) (by omega) hi;have hwi : i64.wrap (i + 1) = i + 1 := aD (by omega) (by omega)
  have hcut : nU rows ⟨so, la, pi, co, od⟩ (L.getD i.toNat 0) = fJ rows L i.toNat := by
   rw [<- hst, hj, show k.toNat + (j + 1) - k.toNat = j + 1 by omega];exact zsd ht hb j
  have hstep : c9 rows L k.toNat ((i + 1).toNat - k.toNat) = dR rows ⟨so, la, pi, co, od⟩ (L.getD i.toNat 0) := by
   rw [<- hst, show (i + 1).toNat - k.toNat = (i.toNat - k.toNat) + 1 by omega];show dR rows _ (L.getD (k.toNat + (i.toNat - k.toNat)) 0) = _;rw [show k.toNat + (i.toNat - k.toNat) = i.toNat by omega]
  have body : ∀ K : Prop, K -> if fJ rows L i.toNat = true then (PV.int .i64 i = .int .i64 (cK rows L k.toNat : Nat)) else K /\ ((k + 1 <= i + 1 /\ i + 1 <= L.length) /\ c9 rows L k.toNat ((i + 1).toNat - k.toNat) = ⟨(dR rows ⟨so, la, pi, co, od⟩ (L.getD i.toNat 0)).some, (dR rows ⟨so, la, pi, co, od⟩ (L.getD i.toNat 0)).last, (dR rows ⟨so, la, pi, co, od⟩ (L.getD i.toNat 0)).pict, (dR rows ⟨so, la, pi, co, od⟩ (L.getD i.toNat 0)).conj, (dR rows ⟨so, la, pi, co, od⟩ (L.getD i.toNat 0)).odd⟩ /\ cK rows L k.toNat = fK rows L (L.length - (i + 1).toNat) (i + 1).toNat) /\ L.length - (i + 1).toNat < L.length - i.toNat := fun K hK => by
   split
   ·rename_i hbi;rw [hn, zsw hi hbi, show ((i.toNat : Nat) : Int) = i by omega]
   ·rename_i hbi;refine ⟨hK, ⟨⟨by omega, by omega⟩, by rw [hstep], ?_⟩, by omega⟩;rw [hn, zsv hi (by simpa using hbi), show (i + 1).toNat = i.toNat + 1 by omega]
  have call := hs ⟨so, la, pi, co, od⟩ (uB hr i.toNat);rw [hcut] at call;rw [hwi];refine ⟨g1, _, by rw [g2]; rfl, call.mono ?_, call.mono ?_⟩
  ·rintro _ rfl;exact ⟨_, rfl, rfl, _, rfl, _, rfl, rfl, _, rfl, _, rfl, _, rfl, _, rfl, _, rfl, _, rfl, _, rfl, body _ rfl, body _ rfl, body _ rfl⟩
  ·rintro _ rfl;exact ⟨_, rfl, rfl, _, rfl, _, rfl, rfl, _, rfl, _, rfl, _, rfl, _, rfl, _, rfl, _, rfl, _, rfl, body _ rfl, body _ rfl⟩
 ·simp only [aB] at hc;have hie : i.toNat = L.length := by omega
  rw [hn, show L.length - i.toNat = 0 by omega];show _ = PV.int .i64 ((i.toNat : Nat) : Int);rw [show ((i.toNat : Nat) : Int) = i by omega]
theorem zat (n f : Bool) (l : List Int) (hn : n = true -> l = []) (hl : l.length < 1000000000000) : PCall qa 37 [.sl n f (aA l)] fun x => x = .sl n false (aA l) :=
 PCall.ofA (args := [_]) (zhi n f (aA l) (fun h => by rw [hn h]; rfl) ⟨rfl, .inl rfl, fun e he => (by cases he), fI _, by simp only [qv, cA]; omega⟩) fun r h' ⟨hr, hh⟩ => by subst hr; subst hh; exact ⟨_, rfl, rfl⟩
def fZ (q : Bool × Bool × List Int) : List PV := [.sl q.1 q.2.1 (aA q.2.2)]
theorem zau (q : Bool × Bool × List Int) : (fZ q).length = 1 := rfl
theorem zir (ht : fY rows) (hv : dI rows v) (n f : Bool) (L : List Int) (hn0 : n = true -> L = []) (hr : R32 L) (hL : L.length < 100000000) :
 PCall qa 15 [v, .sl n f (aA L)] fun x => ∃ (n : Bool) (Q : List (Bool × Bool × List Int)), x = .sl n false (Q.map fZ) /\ Q.map (fun q => q.2.2) = cG rows L 0 /\ (∀ q ∈ Q, q.1 = true -> q.2.2 = []) /\ (n = true -> Q = []) := by
 have hnx := fun k k0 k1 hb => zsx ht hv n f L hr (by omega) k k0 k1 hb;obtain ⟨tc, tg, tj, tf, tp, made, sec, rfl, ht', hm⟩ := hv
 refine zsn _ _ _ _ _ _ _ _ _ _
  (fun i n s => (0 <= i /\ i <= L.length) /\ (i.toNat = L.length ∨ fJ rows L i.toNat = true) /\ ∃ Q : List (Bool × Bool × List Int), s = Q.map fZ /\ cG rows L 0 = Q.map (fun q => q.2.2) ++ cG rows L i.toNat /\ (∀ q ∈ Q, q.1 = true -> q.2.2 = []) /\ (n = true -> Q = []) /\ Q.length <= i.toNat) (fun i _ _ => L.length - i.toNat) ?_
 unfold zim;have hl8 : ((aA L).length : Int) = L.length := by rw [cA]
 rw [hl8];refine ⟨⟨rfl, ⟨qaf _, by omega⟩, .inr rfl, [], rfl, rfl, (fun q hq => by cases hq), (fun _ => rfl), qr _⟩, ?_⟩;rintro i n2 _ ⟨⟨i0, i1⟩, hbeg, Q, rfl, hcl, hq, hnq, hql⟩;refine aG (fun hc => ?_) (fun hc => ?_)
 ·simp only [aB] at hc;have hi : i.toNat < L.length := by omega
  have hb := hbeg.resolve_left (by omega);obtain ⟨x1, x2, x3⟩ := qQ (rows := rows) hi;refine (hnx i i0 hc hb).mono ?_;rintro _ rfl;refine ⟨_, rfl, ⟨zr3 i0 (by omega) (by rw [cA]; omega), fI _⟩, ?_⟩;rw [show (((cK rows L i.toNat : Nat) : Int)).toNat = cK rows L i.toNat by omega, zr4];have hsl := zr5 L i.toNat (cK rows L i.toNat);have hsn : n = true -> eK L i.toNat (cK rows L i.toNat) = [] := fun h => by rw [hn0 h] at hi; cases hi
  refine (zat n _ (eK L i.toNat (cK rows L i.toNat)) hsn (by omega)).mono ?_;rintro _ rfl;refine ⟨_, _, _, rfl, ⟨pY (enc := fZ) zau [(n, false, eK L i.toNat (cK rows L i.toNat))], by rw [qb]; omega⟩, rfl, ⟨⟨by omega, by omega⟩, ?_, Q ++ [(n, false, eK L i.toNat (cK rows L i.toNat))], by rw [qi]; rfl, ?_, fun q hq2 => ?_, fun h => by simp at h, ?_⟩, ?_⟩
  ·rw [show (((cK rows L i.toNat : Nat) : Int)).toNat = cK rows L i.toNat by omega]; exact x3
  ·rw [show (((cK rows L i.toNat : Nat) : Int)).toNat = cK rows L i.toNat by omega, hcl, zap hi, qi, qh]; rfl
  ·rcases List.mem_append.1 hq2 with hq2 | hq2
   ·exact hq q hq2
   ·rw [List.mem_singleton.1 hq2]; exact hsn
  ·rw [show (((cK rows L i.toNat : Nat) : Int)).toNat = cK rows L i.toNat by omega, qc, qf]; omega
  ·dsimp only; omega
 ·simp only [aB] at hc;rw [qR (i := i.toNat) (by omega), qn] at hcl;exact ⟨n2, Q, rfl, hcl.symm, hq, hnq⟩
theorem zis (ht : fY rows) (hv : dI rows v) (n f : Bool) (L : List Int) (hr : R32 L) (hL : L.length < 100000000) :
 PCall qa 15 [v, .sl n f (aA L)] fun x => ∃ (n : Bool) (Q : List (Bool × Bool × List Int)), x = .sl n false (Q.map fZ) /\ Q.map (fun q => q.2.2) = cG rows L 0 := by
 by_cases h : n = true -> L = []
 ·exact (zir ht hv n f L h hr hL).mono fun x ⟨n, Q, h1, h2, _⟩ => ⟨n, Q, h1, h2⟩
 ·have hn : n = true := by cases n with | true => rfl | false => exact absurd (fun h => by cases h) h
  subst hn;exact PCall.vac (zir ht hv false f L (fun h => by cases h) hr hL) (k := 1) rfl (ziq fun e => h fun _ => e)
theorem qAt {C : List (List Int)} {Q : List (Bool × Bool × List Int)} (hQ : Q.map (fun q => q.2.2) = C) {i : Int} (i0 : 0 <= i) (hi : i.toNat < C.length) : aR (Q.map fZ) i 1 /\ ∃ n f, (Q.map fZ).getD i.toNat [] = [.sl n f (aA (C.getD i.toNat []))] := by
 subst hQ;rw [qb] at hi;refine ⟨cD zau i0 (by omega), Q[i.toNat].1, Q[i.toNat].2.1, ?_⟩;rw [cC hi, uD [] (by rw [qb]; exact hi), qae]; rfl
end
end Go.Eng
namespace Go.Eng.Rows
open Go Go.Eng Go.Eng.Trie Go.Eng.Srt
def fD (p : Int × List Int) (c : List Int) : Bool := decide (p.1 = 1) || (decide (p.1 = 0) && decide (p.2 = c))
def bC : List (Int × List Int) -> List (List Int) -> Bool
 | [], [] => true
 | [], _ :: _ => false
 | p :: ps, [] => decide (p.1 = 2) && bC ps []
 | p :: ps, c :: cs => if p.1 = 2 then bC ps (c :: cs) || bC (p :: ps) cs else fD p c && bC ps cs
 termination_by P C => P.length + C.length
theorem mL : bC [] [] = true := by rw [bC]
theorem mM (c : List Int) (cs : List (List Int)) : bC [] (c :: cs) = false := by rw [bC]
theorem lO (p : Int × List Int) (ps : List (Int × List Int)) : bC (p :: ps) [] = (decide (p.1 = 2) && bC ps []) := by rw [bC]
theorem iG (p : Int × List Int) (ps : List (Int × List Int)) (c : List Int) (cs : List (List Int)) : bC (p :: ps) (c :: cs) = if p.1 = 2 then bC ps (c :: cs) || bC (p :: ps) cs else fD p c && bC ps cs := by rw [bC]
inductive Deal : List (Int × List Int) -> List (List Int) -> Prop
 | nil : Deal [] []
 | one {p : Int × List Int} {c : List Int} {ps : List (Int × List Int)} {cs : List (List Int)} (h : p.1 ≠ 2) (h1 : fD p c = true) (h2 : Deal ps cs) : Deal (p :: ps) (c :: cs)
 | many {p : Int × List Int} {D : List (List Int)} {ps : List (Int × List Int)} {cs : List (List Int)} (h : p.1 = 2) (h2 : Deal ps cs) : Deal (p :: ps) (D ++ cs)
theorem Deal.app {P Q : List (Int × List Int)} {C D : List (List Int)} (h : Deal P C) (k : Deal Q D) : Deal (P ++ Q) (C ++ D) := by
 induction h with
 | nil => exact k
 | one h h1 _ ih => exact .one h h1 ih
 | many h _ ih => rw [qh]; exact .many h ih
theorem zit {p : Int × List Int} {ps : List (Int × List Int)} (h : p.1 = 2) {cs : List (List Int)} (h2 : bC ps cs = true) : ∀ D : List (List Int), bC (p :: ps) (D ++ cs) = true
 | [] => by
   cases cs with
   | nil => rw [qo, lO, h2, decide_eq_true h]; rfl
   | cons c cs => rw [qo, iG, if_pos h, h2]; rfl
 | d :: D => by rw [qap, iG, if_pos h, zit h h2 D, Bool.or_true]
theorem ziu {P : List (Int × List Int)} {C : List (List Int)} (h : Deal P C) : bC P C = true := by
 induction h with
 | nil => exact mL
 | one h h1 _ ih => rw [iG, if_neg h, h1, ih]; rfl
 | many h _ ih => exact zit h ih _
theorem qT : ∀ (n : Nat) {P : List (Int × List Int)} {C : List (List Int)}, P.length + C.length <= n -> bC P C = true -> Deal P C
 | _, [], [], _, _ => .nil
 | _, [], c :: cs, _, h => by rw [mM] at h; cases h
 | 0, p :: ps, C, hn, h => by simp at hn
 | n + 1, p :: ps, [], hn, h => by
   rw [lO, qe, aB] at h;exact Deal.many (D := []) h.1 (qT n (by simp only [qd] at hn; omega) h.2)
 | n + 1, p :: ps, c :: cs, hn, h => by
   simp only [qd] at hn;rw [iG] at h;split at h
   ·rename_i hp;rw [ql] at h;rcases h with h | h
    ·exact Deal.many (D := []) hp (qT n (by simp only [qd]; omega) h)
    ·have := qT n (by simp only [qd]; omega) h;cases this with
     | one h3 _ _ => exact absurd hp h3
     | many _ h2 => rw [<- qap]; exact .many hp h2
   ·rename_i hp;rw [qe] at h;exact .one hp h.1 (qT n (by omega) h.2)
theorem iU {P : List (Int × List Int)} {C : List (List Int)} : bC P C = true ↔ Deal P C := ⟨qT _ (qr _), ziu⟩
inductive Ones : List (Int × List Int) -> List (List Int) -> Prop
 | nil : Ones [] []
 | cons {p : Int × List Int} {c : List Int} {ps : List (Int × List Int)} {cs : List (List Int)} (h : p.1 ≠ 2) (h1 : fD p c = true) (h2 : Ones ps cs) : Ones (p :: ps) (c :: cs)
theorem Ones.deal {P : List (Int × List Int)} {C : List (List Int)} (h : Ones P C) : Deal P C := by
 induction h with
 | nil => exact .nil
 | cons h h1 _ ih => exact .one h h1 ih
theorem Ones.snoc {P : List (Int × List Int)} {C : List (List Int)} (h : Ones P C) {p : Int × List Int} {c : List Int} (h1 : p.1 ≠ 2) (h2 : fD p c = true) : Ones (P ++ [p]) (C ++ [c]) := by
 induction h with
 | nil => exact .cons h1 h2 .nil
 | cons h h1 _ ih => exact .cons h h1 ih
theorem Ones.len {P : List (Int × List Int)} {C : List (List Int)} (h : Ones P C) : P.length = C.length := by
 induction h with
 | nil => rfl
 | cons h h1 _ ih => rw [qd, qd, ih]
theorem Ones.split {P : List (Int × List Int)} {C : List (List Int)} (h : Ones P C) {R : List (Int × List Int)} : ∀ {D : List (List Int)}, Deal (P ++ R) D -> ∃ E cs, D = E ++ cs /\ E.length = P.length /\ Deal R cs := by
 induction h with
 | nil => exact fun {D} hd => ⟨[], D, rfl, rfl, hd⟩
 | cons h h1 _ ih =>
   intro D hd;cases hd with
   | one _ _ h2 =>
     obtain ⟨E, cs, e, hl, hd⟩ := ih h2;exact ⟨_ :: E, cs, by rw [e]; rfl, by rw [qd, qd, hl], hd⟩
   | many h3 _ => exact absurd h3 h
theorem nV {p : Int × List Int} (hp : p.1 = 2) {P : List (Int × List Int)} {C : List (List Int)} : Deal (p :: P) C ↔ ∃ D cs, C = D ++ cs /\ Deal P cs := by
 constructor
 ·intro h;cases h with
  | one h _ _ => exact absurd hp h
  | many _ h2 => exact ⟨_, _, rfl, h2⟩
 ·rintro ⟨D, cs, rfl, h⟩;exact .many hp h
def mN (P : List (Int × List Int)) : Bool := P.all fun p => decide (p.1 = 2)
theorem zav : ∀ P : List (Int × List Int), bC P [] = mN P
 | [] => mL
 | p :: P => by rw [lO, zav P]; rfl
section
variable {Q P : List (Int × List Int)} {E C : List (List Int)} {x y : Int × List Int}
theorem zsy (hx : x.1 = 2) (hy : y.1 = 2) (h : Ones Q E) : bC (x :: (Q ++ y :: P)) (E ++ C) = bC (y :: P) C := by
 apply Bool.eq_iff_iff.2;rw [iU, iU, nV hx];constructor
 ·rintro ⟨D, cs, e, hd⟩;obtain ⟨E', cs', rfl, hl, hd2⟩ := h.split hd;obtain ⟨D2, cs2, rfl, hd3⟩ := (nV hy).1 hd2;rw [nV hy];have hl2 := h.len;have e2 : E ++ C = (D ++ (E' ++ D2)) ++ cs2 := by rw [e]; simp only [qh]
  have e3 : C = (E ++ C).drop E.length := (List.drop_left' rfl).symm;rw [e2, qab (by simp only [qc]; omega)] at e3;exact ⟨_, cs2, e3, hd3⟩
 ·intro hd;exact ⟨[], _, rfl, h.deal.app hd⟩
theorem zsz (hx : x.1 = 2) {c : List Int} (h : Ones Q E) (hm : bC P (c :: C) = false) (hone : ∀ p ps, P = p :: ps -> p.1 ≠ 2) {f : List Int} {F : List (List Int)} (hf : E ++ c :: C = f :: F) :
 bC (x :: (Q ++ P)) (f :: F) = bC (x :: (Q ++ P)) F := by
 rw [iG, if_pos hx]
 have : bC (Q ++ P) (f :: F) = false := by
  cases hb : bC (Q ++ P) (f :: F) with
  | false => rfl
  | true =>
    rw [iU, <- hf] at hb;obtain ⟨E', cs', e, hl, hd⟩ := h.split hb;have hl2 := h.len;obtain ⟨rfl, rfl⟩ := List.append_inj e (by omega);rw [ziu hd] at hm; cases hm
 rw [this]; rfl
theorem zs0 (hx : x.1 = 2) (h : Ones Q E) : bC (x :: (Q ++ P)) E = mN P := by
 rw [<- zav];apply Bool.eq_iff_iff.2;rw [iU, iU, nV hx];constructor
 ·rintro ⟨D, cs, e, hd⟩;obtain ⟨E', cs', rfl, hl, hd2⟩ := h.split hd;have hl2 := h.len;have hlen := congrArg qt e;simp only [qc] at hlen;have : cs' = [] := qu (by omega);rwa [this] at hd2
 ·intro hd;refine ⟨[], E, rfl, ?_⟩;have := h.deal.app hd;rwa [qn] at this
end
def kN (P : List (Int × List Int)) (C : List (List Int)) (a i star fr : Int) : Prop :=
 (0 <= a /\ a <= P.length) /\ (0 <= i /\ i <= C.length) /\
  ((star = -1 /\ fr = 0 /\ bC P C = bC (P.drop a.toNat) (C.drop i.toNat)) ∨
   (0 <= star /\ star < a /\ 0 <= fr /\ fr <= i /\ ∃ Q E, P.drop (star.toNat + 1) = Q ++ P.drop a.toNat /\ C.drop fr.toNat = E ++ C.drop i.toNat /\ Ones Q E /\ bC P C = bC ((2, []) :: P.drop (star.toNat + 1)) (C.drop fr.toNat)))
section
variable {P : List (Int × List Int)} {C : List (List Int)} {a i star fr : Int}
theorem zs1 : kN P C 0 0 (-1) 0 := ⟨⟨by omega, by omega⟩, ⟨by omega, by omega⟩, .inl ⟨rfl, rfl, rfl⟩⟩
theorem gA {α : Type} {l : List α} {k : Nat} (h : k < l.length) : l.drop k = l[k] :: l.drop (k + 1) := qk h
theorem ziv {x : Int × List Int} (hx : x.1 = 2) (P : List (Int × List Int)) (C : List (List Int)) : bC (x :: P) C = bC ((2, []) :: P) C := by
 apply Bool.eq_iff_iff.2;rw [iU, iU, nV hx, nV rfl]
theorem zs2 (h : kN P C a i star fr) (ha : a.toNat < P.length) (hp : P[a.toNat].1 = 2) : kN P C (a + 1) i a i := by
 obtain ⟨⟨a0, a1⟩, ⟨i0, i1⟩, h⟩ := h;have e1 : (a + 1).toNat = a.toNat + 1 := by omega
 refine ⟨⟨by omega, by omega⟩, ⟨i0, i1⟩, .inr ⟨a0, by omega, i0, qaf _, [], [], by rw [e1]; rfl, rfl, .nil, ?_⟩⟩;rcases h with ⟨_, _, e⟩ | ⟨s0, s1, f0, f1, Q, E, g1, g2, g3, e⟩
 ·rw [e, gA ha, ziv hp]
 ·rw [e, g1, g2, gA ha, zsy rfl hp g3, ziv hp]
theorem zs3 (h : kN P C a i star fr) (ha : a.toNat < P.length) (hi : i.toNat < C.length) (hp : P[a.toNat].1 ≠ 2) (h1 : fD P[a.toNat] C[i.toNat] = true) : kN P C (a + 1) (i + 1) star fr := by
 obtain ⟨⟨a0, a1⟩, ⟨i0, i1⟩, h⟩ := h;have e1 : (a + 1).toNat = a.toNat + 1 := by omega
 have e2 : (i + 1).toNat = i.toNat + 1 := by omega
 refine ⟨⟨by omega, by omega⟩, ⟨by omega, by omega⟩, ?_⟩;rw [e1, e2];rcases h with ⟨s0, f0, e⟩ | ⟨s0, s1, f0, f1, Q, E, g1, g2, g3, e⟩
 ·left;refine ⟨s0, f0, ?_⟩;rw [e, gA ha, gA hi, iG, if_neg hp, h1]; rfl
 ·right;refine ⟨s0, by omega, f0, by omega, Q ++ [P[a.toNat]], E ++ [C[i.toNat]], ?_, ?_, g3.snoc hp h1, e⟩
  ·rw [g1, gA ha, qh]; rfl
  ·rw [g2, gA hi, qh]; rfl
theorem ziw (h : kN P C a i star fr) (hi : i.toNat < C.length) (hm : ∀ h : a.toNat < P.length, P[a.toNat].1 ≠ 2 /\ fD P[a.toNat] C[i.toNat] = false) :
 (star = -1 -> bC P C = false) /\ (0 <= star -> kN P C (star + 1) (fr + 1) star (fr + 1)) := by
 obtain ⟨⟨a0, a1⟩, ⟨i0, i1⟩, h⟩ := h
 have hf : bC (P.drop a.toNat) (C.drop i.toNat) = false := by
  rw [gA hi];by_cases ha : a.toNat < P.length
  ·rw [gA ha, iG, if_neg (hm ha).1, (hm ha).2]; rfl
  ·rw [qj (by omega), mM]
 rcases h with ⟨s0, f0, e⟩ | ⟨s0, s1, f0, f1, Q, E, g1, g2, g3, e⟩
 ·exact ⟨fun _ => by rw [e, hf], fun h => by omega⟩
 ·refine ⟨fun h => by omega, fun _ => ⟨⟨by omega, by omega⟩, ⟨by omega, by omega⟩, .inr ⟨s0, by omega, by omega, qaf _, [], [], ?_, rfl, .nil, ?_⟩⟩⟩
  ·rw [show (star + 1).toNat = star.toNat + 1 by omega]; rfl
  ·have hfl : fr.toNat < C.length := by omega
   rw [e, show (fr + 1).toNat = fr.toNat + 1 by omega, gA hfl, g1];refine zsz rfl g3 (C := C.drop (i.toNat + 1)) (c := C[i.toNat]) (by rw [<- gA hi]; exact hf) (fun p ps hps => ?_) (by rw [<- gA hi, <- g2, gA hfl]);by_cases ha : a.toNat < P.length
   ·rw [gA ha] at hps;cases hps; exact (hm ha).1
   ·rw [qj (by omega)] at hps; cases hps
theorem zs4 (h : kN P C a i star fr) (hi : ¬i.toNat < C.length) : bC P C = mN (P.drop a.toNat) := by
 obtain ⟨⟨a0, a1⟩, ⟨i0, i1⟩, h⟩ := h;have hc : C.drop i.toNat = [] := qj (by omega);rcases h with ⟨s0, f0, e⟩ | ⟨s0, s1, f0, f1, Q, E, g1, g2, g3, e⟩
 ·rw [e, hc, zav]
 ·rw [e, g1, g2, hc, qn, zs0 rfl g3]
end
def jM (p c : Nat) (a i fr : Int) : Nat := (c + 1 - fr.toNat) * (p + c + 2) + (p - a.toNat) + (c - i.toNat)
theorem zs5 {p c : Nat} {a i fr : Int} (h0 : 0 <= a) (h1 : a.toNat < p) (h2 : fr <= i) : jM p c (a + 1) i i < jM p c a i fr := by
 unfold jM;have : (c + 1 - i.toNat) * (p + c + 2) <= (c + 1 - fr.toNat) * (p + c + 2) := Nat.mul_le_mul_right _ (by omega);omega
theorem zs6 {p c : Nat} {a i fr : Int} (h0 : 0 <= a) (h1 : a.toNat < p) : jM p c (a + 1) (i + 1) fr < jM p c a i fr := by
 unfold jM; omega
theorem zix {p c : Nat} {a i fr b j : Int} (h0 : 0 <= fr) (h1 : fr <= c) : jM p c b j (fr + 1) < jM p c a i fr := by
 unfold jM
 have : (c + 1 - fr.toNat) * (p + c + 2) = (c + 1 - (fr + 1).toNat) * (p + c + 2) + (p + c + 2) := by
  rw [show c + 1 - fr.toNat = (c + 1 - (fr + 1).toNat) + 1 by omega, Nat.succ_mul]
 omega
def dS (rows : List Row) (l : List Int) : List (Int × List Int) := (cG rows (cU rows l) 0).map fun c => (0, c)
def gB (o : List (Int × List Int)) : List (Int × List Int) := match o.getLast? with
 | some p => if p.1 = 2 then o else o ++ [(2, [])]
 | none => o ++ [(2, [])]
def prs (rows : List Row) (out : List (Int × List Int)) (plain : List Int) : List Int -> Option (List (Int × List Int))
 | [] => some (out ++ dS rows plain)
 | c :: l => if c = 92 then (match l with
  | [] => none
  | d :: l' => prs rows out (plain ++ [d]) l')
   else if c = 42 then prs rows (gB (out ++ dS rows plain)) [] l else if c = 63 then prs rows (out ++ dS rows plain ++ [(1, [])]) [] l else prs rows out (plain ++ [c]) l
section
variable {rows : List Row} {out : List (Int × List Int)} {plain l : List Int} {c : Int}
theorem nW : prs rows out plain [] = some (out ++ dS rows plain) := by rw [prs]
theorem nX : prs rows out plain (42 :: l) = prs rows (gB (out ++ dS rows plain)) [] l := by rw [prs.eq_def]; dsimp only; rw [if_neg (by decide), if_pos rfl]
theorem ziy : prs rows out plain (63 :: l) = prs rows (out ++ dS rows plain ++ [(1, [])]) [] l := by rw [prs.eq_def]; dsimp only; rw [if_neg (by decide), if_neg (by decide), if_pos rfl]
theorem zaw (h1 : c ≠ 92) (h2 : c ≠ 42) (h3 : c ≠ 63) : prs rows out plain (c :: l) = prs rows out (plain ++ [c]) l := by rw [prs.eq_def]; dsimp only; rw [if_neg h1, if_neg h2, if_neg h3]
theorem zs7 : prs rows out plain [92] = none := by rw [prs.eq_def]; dsimp only; rw [if_pos rfl]
theorem ziz {d : Int} : prs rows out plain (92 :: d :: l) = prs rows out (plain ++ [d]) l := by rw [prs.eq_def]; dsimp only; rw [if_pos rfl]
end
theorem zax {rows : List Row} : ∀ (l : List Int) {out : List (Int × List Int)} {plain rest : List Int}, prs rows out plain (l.flatMap (fun r => [92, r]) ++ rest) = prs rows out (plain ++ l) rest
 | [], out, plain, rest => by simp
 | r :: l, out, plain, rest => by
   rw [qam, qh];show prs rows out plain (92 :: r :: (l.flatMap (fun r => [92, r]) ++ rest)) = _;rw [ziz, zax l, qh]; rfl
theorem zs8 (rows : List Row) (l : List Int) : Deal (dS rows l) (cG rows (cU rows l) 0) := by
 unfold dS;generalize cG rows (cU rows l) 0 = C
 induction C with
 | nil => exact .nil
 | cons c C ih => exact .one (p := (0, c)) (show (0 : Int) ≠ 2 by decide) (by simp [fD]) ih
theorem zs9 {P : List (Int × List Int)} {C : List (List Int)} (h : Deal P C) : Deal (gB ((2, []) :: P)) C := by
 unfold gB;have h1 : Deal ((2, []) :: P) C := Deal.many (D := []) rfl h;cases ((2, []) :: P).getLast? with
 | none => have := h1.app (Deal.many (p := (2, [])) (D := []) rfl .nil); simpa using this
 | some p =>
   dsimp only;split
   ·exact h1
   ·have := h1.app (Deal.many (p := (2, [])) (D := []) rfl .nil); simpa using this
theorem zi0 (C : List (List Int)) : Deal [(2, [])] C := by
 have := Deal.many (p := (2, [])) (D := C) rfl Deal.nil;rwa [qn] at this
section
variable {P : List (Int × List Int)} {C : List (List Int)}
end
theorem many_len (o : List (Int × List Int)) : (gB o).length <= o.length + 1 := by
 unfold gB;cases o.getLast? with
 | none => simp
 | some p =>
   dsimp only;split
   ·omega
   ·simp
end Go.Eng.Rows
namespace Go.Eng
open Go Go.Proofs
section
variable (k : Int) (n f : Bool) (es : LL) (n2 f2 : Bool) (ss : LL)
def zi1 (R : PV -> Prop) : Prop :=
 if (k == 1) = true then R (Zb true) else if (k == 0) = true then PCall qa 18 [PV.sl n f es, PV.sl n2 f2 ss] fun v => ∃ b, v = Zb b /\ R (Zb b) else R (Zb false)
theorem zta {R : PV -> Prop} (h : zi1 k n f es n2 f2 ss R) : PCall qa 36 [.agg [.int .i64 k, .sl n f es], .sl n2 f2 ss] R :=
 PCall.wz Try.func36 aT [0, 1, 2, 4] bE h
end
def zay (np fp : Bool) (ps : LL) (n7 f7 : Bool) (s7 : LL) (x8 x9 x10 x11 : Int) : Env × Hp := ([(3, LV.box 0 0), (7, .pv (.sl n7 f7 s7)), (8, Y6 x8), (9, Y6 x9), (10, Y6 x10), (11, Y6 x11)], [.box [LV.pv (PV.sl np fp ps)]])
def zaz (np fp : Bool) (ps : LL) (x8 : Int) : Env × Hp := ([(3, LV.box 0 0), (8, Y6 x8)], [.box [LV.pv (PV.sl np fp ps)]])
section
variable (np fp : Bool) (ps : LL) (tc tg tj tf tp : PV) (M S : List (PV × PV)) (n f : Bool) (es : LL) (J : Bool -> Bool -> LL -> Int -> Int -> Int -> Int -> Prop) (μ : Bool -> Bool -> LL -> Int -> Int -> Int -> Int -> Nat) (J2 : Int -> Prop) (μ2 : Int -> Nat)
def zi2 (R : PV -> Prop) : Prop :=
 PCall qa 16 [PV.ptr [tc, tg, tj, tf, tp, PV.mp M, PV.mp S], PV.sl n f es] fun v => ∃ n1 f1 es1, v = PV.sl n1 f1 es1 /\ PCall qa 15 [PV.ptr [tc, tg, tj, tf, tp, PV.mp M, PV.mp S], PV.sl n1 f1
  es1] fun v1 => ∃ n2 f2 es2, v1 = PV.sl n2 f2 es2 /\ (aF (zay np fp ps n2 f2 es2 (0 : Int) (0 : Int) (-1 : Int) (0 : Int)) /\ J n2 f2 es2 (0 : Int) (0 : Int) (-1 : Int) (0 : Int)) /\ ∀ (n7 f7 : Bool)
  (s7 : LL) (x8 x9 x10 x11 : Int), J n7 f7 s7 x8 x9 x10 x11 ->
 let K4 := fun (y0_ y1_ : Bool) (y2_ : LL) (y3_ y4_ y5_ y6_ : Int) => aF (zay np fp ps y0_ y1_ y2_ y3_ y4_ y5_ y6_) /\ J y0_ y1_ y2_ y3_ y4_ y5_ y6_ /\ μ y0_ y1_ y2_ y3_ y4_ y5_ y6_ < μ n7 f7 s7 x8 x9 x10
  x11; if decide (x9 < (↑s7.length : Int)) = true then
 let V1 :=
 let V2 := if decide (x10 >= 0) = true then K4 n7 f7 s7 (i64.wrap (x10 + 1)) (i64.wrap (x11 + 1)) x10 (i64.wrap (x11 + 1)) else R (Zb false); if decide (x8 < (↑ps.length : Int)) = true then aR ps x8 2 /\ ∃ (n4 :
  Int), (ps.getD x8.toNat []).head? = some (Z6 n4) /\ ∃ n5 f3 es3, (ps.getD x8.toNat []).tail.head? = some (PV.sl n5 f3 es3) /\ aR s7 x9 1 /\ ∃ n6 f4 es4, (s7.getD x9.toNat
  []).head? = some (PV.sl n6 f4 es4) /\ PCall qa 36 [PV.agg [Z6 n4, PV.sl n5 f3 es3], PV.sl n6 f4 es4] fun v2 => ∃ b, v2 = Zb b /\ if b = true then K4 n7 f7 s7 (i64.wrap (x8 + 1)) (i64.wrap (x9 + 1)) x10
  x11 else V2 else V2; if decide (x8 < (↑ps.length : Int)) = true then aR ps x8 2 /\ ∃ n3, (qz 0 (ps.getD x8.toNat [])).head? = some (Z6 n3) /\ if (n3 == 2) = true then K4 n7 f7 s7 (i64.wrap (x8 + 1)) x9 x8 x9 else
  V1 else V1 else (aF (zaz np fp ps x8) /\ J2 x8) /\ ∀ (x81 : Int), J2 x81 -> if decide (x81 < (↑ps.length : Int)) = true then aR ps x81 2 /\ ∃ n3, (qz 0 (ps.getD x81.toNat [])).head? = some (Z6 n3) /\ if (n3 == 2) =
  true then aF (zaz np fp ps (i64.wrap (x81 + 1))) /\ J2 (i64.wrap (x81 + 1)) /\ μ2 (i64.wrap (x81 + 1)) < μ2 x81 else R (Zb (x81 == (↑ps.length : Int))) else R (Zb (x81 == (↑ps.length : Int)))
theorem ztb {R : PV -> Prop} (h : zi2 np fp ps tc tg tj tf tp M S n f es J μ J2 μ2 R) : PCall qa 11 [.agg [.sl np fp ps], .ptr [tc, tg, tj, tf, tp, .mp M, .mp S], .sl n f es] R :=
 PCall.wz Try.func11 aT [0, 1, 2, 3, 6, 7, 8, 9, 10, 11, 20, 21, 40, 62, 83] (gY [(4, (bF cz7 (zay np fp ps) J μ (fun e h => (gN e 7, gF e 7, gS e 7, gI e 8, gI e 9, gI e 10, gI e 11)) [] [3, 7, 8, 9, 10, 11] [])), (13, (bF cz1 (zaz np fp ps) J2 μ2 (fun e h => (((gI e 8), ()))) [] [3, 8] []))]) h
end
def za0 (np fp : Bool) (ps : LL) (x9 : Int) (n_0 : Bool) (s_0 : LL) : Env × Hp := ([(3, LV.own 0), (7, LV.pv (PV.sl np fp ps)), (8, LV.pv (PV.int i64 (ps.length : Int))), (9, Y6 x9)], [.sl (78, 2) true n_0 s_0])
section
variable (np fp : Bool) (ps : LL) (J : Int -> Bool -> LL -> Prop) (μ : Int -> Bool -> LL -> Nat)
def zi3 (R : PV -> Prop) : Prop :=
 (aF (za0 np fp ps (0 : Int) true []) /\ J (0 : Int) true []) /\ ∀ (x9 : Int) (n_0 : Bool) (s_0 : LL), J x9 n_0 s_0 -> if decide (x9 < (↑ps.length : Int)) = true then aR ps x9 2 /\ ∃ n, (ps.getD x9.toNat []).head? = some (Z6 n) /\ ∃ n1 f es, (ps.getD x9.toNat []).tail.head? = some (PV.sl n1 f es) /\ PCall qa 37 [PV.sl n1 f es] fun v => ∃ n2 f1 es1, v = PV.sl n2 f1 es1 /\ (aS [[Z6 n, PV.sl n2 f1 es1]] 2 /\ (s_0.length + 1) * 32 <= 140737488355328) /\ aF (za0 np fp ps (i64.wrap (x9 + 1)) (n_0 && false) (s_0 ++ [[Z6 n, PV.sl n2 f1 es1]])) /\ J (i64.wrap (x9 + 1)) (n_0 && false) (s_0 ++ [[Z6 n, PV.sl n2 f1 es1]]) /\ μ (i64.wrap (x9 + 1)) (n_0 && false) (s_0 ++ [[Z6 n, PV.sl n2 f1 es1]]) < μ x9 n_0 s_0 else R (PV.sl n_0 false s_0)
theorem ztc {R : PV -> Prop} (h : zi3 np fp ps J μ R) : PCall qa 12 [.agg [.sl np fp ps]] R :=
 PCall.wz Try.func12 aT [0, 1, 2, 3, 5, 7, 8, 9, 10] (dB 3 (bF eF (za0 np fp ps) J μ (fun e h => (gI e 9, oN h 0, oS h 0)) [(3, 78, 2)] [3, 7, 8, 9] [])) h
end
def za1 (tc tg tj tf tp : PV) (M S : List (PV × PV)) (n2 : Bool) (ss : LL) (n9 f9 : Bool) (s9 : LL) (x10 x11 : Int) (n_4 : Bool) (s_4 : LL) : Env × Hp := ([(1, LV.box 1 0), (2, LV.box 2 0), (9, .pv (.sl n9 f9 s9)), (10, Y6 x10), (11, Y6 x11)], [.box [LV.pv (PV.ptr [tc, tg, tj, tf, tp, PV.mp M, PV.mp S])], .box [LV.pv (PV.sl n2 false ss)], .box [LV.own 4], .dead, .sl (78, 2) true n_4 s_4])
def zi4 (tc tg tj tf tp : PV) (M S : List (PV × PV)) (n2 f2 : Bool) (n1 m1 m2 : Bool) (ps ss : LL) (J : Bool -> Bool -> LL -> Int -> Int -> Bool -> LL -> Prop) (μ : Bool -> Bool -> LL -> Int -> Int -> Bool -> LL -> Nat) (R : LV -> Hp -> Prop) : Prop :=
 PCall qa 16 [PV.ptr [tc, tg, tj, tf, tp, PV.mp M, PV.mp S], PV.sl n2 false ss] fun v => ∃ n f es, v = PV.sl n f es /\ PCall qa 15 [PV.ptr [tc, tg, tj, tf, tp, PV.mp M, PV.mp S], PV.sl n f es] fun v1 => ∃ n3 f1 es1, v1 = PV.sl n3 f1 es1 /\ (aF (za1 tc tg tj tf tp M S n2 ss n3 f1 es1 (↑es1.length : Int) (0 : Int) n1 ps) /\ J n3 f1 es1 (↑es1.length : Int) (0 : Int) n1 ps) /\ ∀ (n9 f9 : Bool) (s9 : LL) (x10 x11 : Int) (n_4 : Bool) (s_4 : LL), J n9 f9 s9 x10 x11 n_4 s_4 -> if decide (x11 < x10) = true then aR s9 x11 1 /\ ∃ n4 f3 es2, (s9.getD x11.toNat []).head? = some (PV.sl n4 f3 es2) /\ (aS [[Z6 0, PV.sl n4 f3 es2]] 2 /\ (s_4.length + 1) * 32 <= 140737488355328) /\ aF (za1 tc tg tj tf tp M S n2 ss n9 f9 s9 x10 (i64.wrap (x11 + 1)) (n_4 && false) (s_4 ++ [[Z6 0, PV.sl n4 f3 es2]])) /\ J n9 f9 s9 x10 (i64.wrap (x11 + 1)) (n_4 && false) (s_4 ++ [[Z6 0, PV.sl n4 f3 es2]]) /\ μ n9 f9 s9 x10 (i64.wrap (x11 + 1)) (n_4 && false) (s_4 ++ [[Z6 0, PV.sl n4 f3 es2]]) < μ n9 f9 s9 x10 x11 n_4 s_4 else R (LV.tup []) [Ob.box [LV.pv (PV.ptr [tc, tg, tj, tf, tp, PV.mp M, PV.mp S])], Ob.box [LV.pv (PV.sl true true [])], Ob.box [LV.own 4], Ob.dead, Ob.sl (78, 2) true n_4 s_4]
theorem ztd (tc tg tj tf tp : PV) (M S : List (PV × PV)) (n2 f2 : Bool) (n1 m1 m2 : Bool) (ps ss : LL) (J : Bool -> Bool -> LL -> Int -> Int -> Bool -> LL -> Prop) (μ : Bool -> Bool -> LL -> Int -> Int -> Bool -> LL -> Nat) {R : LV -> Hp -> Prop} (h : zi4 tc tg tj tf tp M S n2 f2 n1 m1 m2 ps ss J μ R) : ACall qa 35 [.box 0 0, .box 1 0, .box 2 0] [.box [.pv (.ptr [tc, tg, tj, tf, tp, .mp M, .mp S])], .box [.own 3], .box [.own 4], .sl (21, 1) m1 n2 ss, .sl (78, 2) m2 n1 ps] R :=
 ACall.wz Try.func35 aT [0, 1, 2, 4, 9, 10, 11, 12] (dB 1 (bF cz7 (za1 tc tg tj tf tp M S n2 ss) J μ (fun e h => (gN e 9, gF e 9, gS e 9, gI e 10, gI e 11, oN h 4, oS h 4)) [] [1, 2, 9, 10, 11] [4])) [0, 1, 2, 3, 4] h

def za2 (tc tg tj tf tp : PV) (M S : List (PV × PV)) (n f : Bool) (es : LL) (x9 : Int) (n_4 : Bool) (s_4 : LL) (n_5 : Bool) (s_5 : LL) : Env × Hp := ([(6, LV.box 0 0), (4, LV.box 1 0), (8, LV.fn 35 [LV.box 2 0, LV.box 3 0, LV.box 0 0]), (1, LV.pv (PV.sl n f es)), (7, LV.box 3 0), (9, Y6 x9)], [.box [LV.own 4], .box [LV.pv (PV.sl true true [])], .box [LV.pv (PV.ptr [tc, tg, tj, tf, tp, PV.mp M, PV.mp S])], .box [LV.own 5], .sl (78, 2) true n_4 s_4, .sl (21, 1) true n_5 s_5])
section
variable (tc tg tj tf tp : PV) (M S : List (PV × PV)) (n f : Bool) (es : LL) (J : Int -> Bool -> LL -> Bool -> LL -> Prop) (μ : Int -> Bool -> LL -> Bool -> LL -> Nat)
def zi5 (R : PV -> Prop) : Prop :=
 (aF (za2 tc tg tj tf tp M S n f es (0 : Int) true [] true []) /\ J (0 : Int) true [] true []) /\ ∀ (x9 : Int) (n_4 : Bool) (s_4 : LL) (n_5 : Bool) (s_5 : LL), J x9 n_4 s_4 n_5 s_5 ->
 let K5 := fun (y0_ : Int) (y1_ : Bool) (y2_ : LL) (y3_ : Bool) (y4_ : LL) => aF (za2 tc tg tj tf tp M S n f es y0_ y1_ y2_ y3_ y4_) /\ J y0_ y1_ y2_ y3_ y4_ /\ μ y0_ y1_ y2_ y3_ y4_ < μ x9 n_4 s_4 n_5 s_5; if decide (x9 < (↑es.length :
  Int)) = true then aR es x9 1 /\ ∃ n1, (es.getD x9.toNat []).head? = some (Z3 n1) /\
 let V1 := ACall qa 35 [LV.box 0 0, LV.box 1 0, LV.box 2 0] [Ob.box [LV.pv (PV.ptr [tc, tg, tj, tf, tp, PV.mp M, PV.mp S])], Ob.box [LV.own 3], Ob.box [LV.own 4], Ob.sl (21, 1) false n_5 s_5, Ob.sl (78, (2 : Nat)) false n_4 s_4] fun
  (r : LV) (h' : Hp) => ∃ (t : Bool × LL), (r = LV.tup [] /\ h' = [Ob.box [LV.pv (PV.ptr [tc, tg, tj, tf, tp, PV.mp M, PV.mp S])], Ob.box [LV.pv (PV.sl true true [])], Ob.box [LV.own 4], Ob.dead, Ob.sl (78, 2) true t.fst t.snd]) /\ (True /\
  True /\ True /\ True /\ True /\ True) /\ aR es x9 1 /\ ∃ n2, (es.getD x9.toNat []).head? = some (Z3 n2) /\ if (!n2 == 42) = true then (aS [[Z6 1, PV.sl true true []]] 2 /\ (t.snd.length + 1) * 32 <= 140737488355328) /\ K5
  (i64.wrap (x9 + 1)) (t.fst && false) (t.snd ++ [[Z6 1, PV.sl true true []]]) true [] else
 let V2 := (aS [[Z6 2, PV.sl true true []]] 2 /\ (t.snd.length + 1) * 32 <= 140737488355328) /\ K5 (i64.wrap (x9 + 1)) (t.fst && false) (t.snd ++ [[Z6 2, PV.sl true true []]]) true []; if ((↑t.snd.length : Int) == 0) = true then V2
  else aR t.snd (i64.wrap ((↑t.snd.length : Int) - 1)) 2 /\ ∃ n3, (qz 0 (t.snd.getD (i64.wrap ((↑t.snd.length : Int) - 1)).toNat [])).head? = some (Z6 n3) /\ if (n3 != 2) = true then V2 else K5
  (i64.wrap (x9 + 1)) t.fst t.snd true [];
 let V3 := if (n1 == 92) = true then if (i64.wrap (x9 + 1) == (↑es.length : Int)) = true then R (PV.tup [PV.agg [PV.sl true true []], Z6 4]) else aR es (i64.wrap (x9 + 1)) 1 /\ ∃ n2, (es.getD (i64.wrap (x9
  + 1)).toNat []).head? = some (Z3 n2) /\ (aS [[Z3 n2]] 1 /\ (s_5.length + 1) * 4 <= 140737488355328) /\ K5 (i64.wrap (i64.wrap (x9 + 1) + 1)) n_4 s_4 (n_5 && false) (s_5 ++ [[Z3 n2]]) else aR es x9 1 /\ ∃ (n2 : Int),
  (es.getD x9.toNat []).head? = some (Z3 n2) /\ (aS [[Z3 n2]] 1 /\ (s_5.length + 1) * 4 <= 140737488355328) /\ K5 (i64.wrap (x9 + 1)) n_4 s_4 (n_5 && false) (s_5 ++ [[Z3 n2]]); if (n1 == 42) = true then if (n1 == 42) = true then V1
  else V3 else if (n1 == 63) = true then V1 else V3 else ACall qa 35 [LV.box 0 0, LV.box 1 0, LV.box 2 0] [Ob.box [LV.pv (PV.ptr [tc, tg, tj, tf, tp, PV.mp M, PV.mp S])], Ob.box [LV.own 3], Ob.box [LV.own 4], Ob.sl (21, (1 : Nat))
  false n_5 s_5, Ob.sl (78, 2) false n_4 s_4] fun (r : LV) (h' : Hp) => ∃ (t : Bool × LL), (r = LV.tup [] /\ h' = [Ob.box [LV.pv (PV.ptr [tc, tg, tj, tf, tp, PV.mp M, PV.mp S])], Ob.box [LV.pv (PV.sl true true [])], Ob.box [LV.own 4],
  Ob.dead, Ob.sl (78, 2) true t.fst t.snd]) /\ (True /\ True /\ True /\ True /\ True /\ True) /\ if decide ((↑t.snd.length : Int) > 1000) = true then R (PV.tup [PV.agg [PV.sl true true []], Z6 7]) else R (PV.tup [PV.agg [PV.sl t.fst false t.snd],
  Z6 0])
theorem zte {R : PV -> Prop} (h : zi5 tc tg tj tf tp M S n f es J μ R) : PCall qa 10 [.ptr [tc, tg, tj, tf, tp, .mp M, .mp S], .sl n f es] R :=
 PCall.wz Try.func10 (fun zz_ => match zz_ with | 6000000 => some ⟨Bool × LL, fun _ hs t => (.tup [], match hs with | [a, .box _, c, _, .sl ty _ _ _] => [a, .box [.pv (.sl true true [])], c, .dead, .sl ty true t.1 t.2] | h => h), none⟩ | 6000035 => some ⟨Bool × LL, fun _ hs t => (.tup [], match hs with | [a, .box _, c, _, .sl ty _ _ _] => [a, .box [.pv (.sl true true [])], c, .dead, .sl ty true t.1 t.2] | h => h), none⟩ | _ => none) [0, 1, 2, 4, 5, 6, 7, 8, 9, 10, 11, 16, 22, 30, 41, 62, 69, 76, 90] (dB 5 (bF cz5 (za2 tc tg tj tf tp M S n f es) J μ (fun e h => (gI e 9, oN h 4, oS h 4, oN h 5, oS h 5)) [(1002000, 78, 2), (1003000, 21, 1), (1000000, 78, 2)] [6, 4, 8, 1, 7, 9] [])) h
end
def zi6  (R : PV -> Prop) : Prop :=
 PCall qa 8 [] fun v => ∃ n f es, v = PV.sl n f es /\ PCall qa 7 [PV.sl n f es] fun v1 => PCall qa 10 [v1, PV.sl false true [[Z3 97], [Z3 42], [Z3 99]]] fun v2 => ∃ vs, v2 = PV.tup vs /\ vs.length = 2 /\ ∃ x, vs.head? = some x /\ ∃ cs, x = PV.agg cs /\ cs.length = 1 /\ ∃ n1 f1 es1, cs.head? = some (PV.sl n1 f1 es1) /\ ∃ x1, vs.tail.head? = some x1 /\ ∃ n2, x1 = Z6 n2 /\ PCall qa 10 [v1, PV.sl false true [[Z3 63]]] fun v3 => ∃ vs1, v3 = PV.tup vs1 /\ vs1.length = 2 /\ ∃ x2, vs1.head? = some x2 /\ ∃ cs1, x2 = PV.agg cs1 /\ cs1.length = 1 /\ ∃ n3 f2 es2, cs1.head? = some (PV.sl n3 f2 es2) /\ ∃ x3, vs1.tail.head? = some x3 /\ ∃ n4, x3 = Z6 n4 /\ if (n2 == 0 && n4 == 0) = true then PCall qa 11 [PV.agg [PV.sl n1 f1 es1], v1, PV.sl false true [[Z3 97], [Z3 99]]] fun v4 => ∃ b, v4 = Zb b /\ if b = true then PCall qa 11 [PV.agg [PV.sl n1 f1 es1], v1, PV.sl false true [[Z3 97], [Z3 98], [Z3 98], [Z3 99]]] fun v5 => ∃ b1, v5 = Zb b1 /\ if b1 = true then PCall qa 11 [PV.agg [PV.sl n1 f1 es1], v1, PV.sl false true [[Z3 97], [Z3 99], [Z3 98]]] fun v6 => ∃ b2, v6 = Zb b2 /\ if (!b2) = true then PCall qa 11 [PV.agg [PV.sl n3 f2 es2], v1, PV.sl false true [[Z3 101], [Z3 769]]] fun v7 => ∃ b3, v7 = Zb b3 /\ if b3 = true then PCall qa 11 [PV.agg [PV.sl n3 f2 es2], v1, PV.sl false true [[Z3 101], [Z3 97]]] fun v8 => ∃ b4, v8 = Zb b4 /\ R (Zb !b4) else R (Zb false) else R (Zb false) else R (Zb false) else R (Zb false) else R (Zb false)
theorem ztf  {R : PV -> Prop} (h : zi6  R) : PCall qa 13 [] R :=
 PCall.wz Try.func13 aT [0, 1, 2, 3, 4, 5] bE h

def za3 (n2 f2 : Bool) (n0 f0 : Bool) (s0 : LL) (n1 f1 : Bool) (s1 : LL) (n2 f2 : Bool) (s2 : LL) (x8 : PV) (x10 : Int) (n_0 : Bool) (s_0 : LL) : Env × Hp := ([(0, .pv (.sl n0 f0 s0)), (1, .pv (.sl n1 f1 s1)), (2, .pv (.sl n2 f2 s2)), (8, .pv x8), (9, LV.own 0), (10, Y6 x10)], [.sl (21, 1) true n_0 s_0])
section
variable (n f : Bool) (es : LL) (n2 f2 : Bool) (ss : LL) (n3 f3 : Bool) (s3 : LL) (J : Bool -> Bool -> LL -> Bool -> Bool -> LL -> Bool -> Bool -> LL -> PV -> Int -> Bool -> LL -> Prop) (μ : Bool -> Bool -> LL -> Bool -> Bool -> LL -> Bool -> Bool -> LL -> PV -> Int -> Bool -> LL -> Nat)
def zi7 (R : PV -> Prop) : Prop :=
 PCall qa 9 [PV.sl n f es, Z6 30] fun v => ∃ n1 f1 es1, v = PV.sl n1 f1 es1 /\ PCall qa 9 [PV.sl n2 f2 ss, Z6 10] fun v1 => ∃ n4 f4 es2, v1 = PV.sl n4 f4 es2 /\ PCall qa 9 [PV.sl n3 f3 s3, Z6 10] fun v2 => ∃ n5 f5 es3, v2 = PV.sl n5 f5 es3 /\ PCall qa 8 [] fun v3 => ∃ n6 f6 es4, v3 = PV.sl n6 f6 es4 /\ PCall qa 7 [PV.sl n6 f6 es4] fun v4 => (aF (za3 n2 f2 n1 f1 es1 n4 f4 es2 n5 f5 es3 v4 (0 : Int) true []) /\ J n1 f1 es1 n4 f4 es2 n5 f5 es3 v4 (0 : Int) true []) /\ ∀ (n0 f0 : Bool) (s0 : LL) (n11 f11 : Bool) (s1 : LL) (n21 f21 : Bool) (s2 : LL) (x8 : PV) (x10 : Int) (n_0 : Bool) (s_0 : LL), J n0 f0 s0 n11 f11 s1 n21 f21 s2 x8 x10 n_0 s_0 -> if decide (x10 < (↑s0.length : Int)) = true then aR s0 x10 1 /\ ∃ n7, (s0.getD x10.toNat []).head? = some (Z3 n7) /\ (aS [[Z3 92], [Z3 n7]] 1 /\ (s_0.length + 2) * 4 <= 140737488355328) /\ aF (za3 n2 f2 n0 f0 s0 n11 f11 s1 n21 f21 s2 x8 (i64.wrap (x10 + 1)) (n_0 && false) (s_0 ++ [[Z3 92], [Z3 n7]])) /\ J n0 f0 s0 n11 f11 s1 n21 f21 s2 x8 (i64.wrap (x10 + 1)) (n_0 && false) (s_0 ++ [[Z3 92], [Z3 n7]]) /\ μ n0 f0 s0 n11 f11 s1 n21 f21 s2 x8 (i64.wrap (x10 + 1)) (n_0 && false) (s_0 ++ [[Z3 92], [Z3 n7]]) < μ n0 f0 s0 n11 f11 s1 n21 f21 s2 x8 x10 n_0 s_0 else PCall qa 10 [x8, PV.sl n_0 false s_0] fun v5 => ∃ vs, v5 = PV.tup vs /\ vs.length = 2 /\ ∃ x, vs.head? = some x /\ ∃ cs, x = PV.agg cs /\ cs.length = 1 /\ ∃ n7 f7 es5, cs.head? = some (PV.sl n7 f7 es5) /\ ∃ x1, vs.tail.head? = some x1 /\ ∃ n8, x1 = Z6 n8 /\ pA true [] [[Z3 42]] 1 4 /\ (aS s_0 1 /\ (1 + s_0.length) * 4 <= 140737488355328) /\ (aS [[Z3 42]] 1 /\ (([Z3 42] :: s_0).length + 1) * 4 <= 140737488355328) /\ PCall qa 10 [x8, PV.sl false false ([Z3 42] :: (s_0 ++ [[Z3 42]]))] fun v6 => ∃ vs1, v6 = PV.tup vs1 /\ vs1.length = 2 /\ ∃ x2, vs1.head? = some x2 /\ ∃ cs1, x2 = PV.agg cs1 /\ cs1.length = 1 /\ ∃ n9 f8 es6, cs1.head? = some (PV.sl n9 f8 es6) /\ ∃ x3, vs1.tail.head? = some x3 /\ ∃ n10, x3 = Z6 n10 /\ if (n8 != 0 || n10 != 0) = true then R (Zb false) else PCall qa 11 [PV.agg [PV.sl n7 f7 es5], x8, PV.sl n0 f0 s0] fun v7 => ∃ b, v7 = Zb b /\ if (!b) = true then R (Zb false) else PCall qa 11 [PV.agg [PV.sl n9 f8 es6], x8, PV.sl n0 f0 s0] fun v8 => ∃ b1, v8 = Zb b1 /\ if (!b1) = true then R (Zb false) else PCall qa 10 [x8, PV.sl false true [[Z3 42], [Z3 42]]] fun v9 => ∃ vs2, v9 = PV.tup vs2 /\ vs2.length = 2 /\ ∃ x4, vs2.head? = some x4 /\ ∃ cs2, x4 = PV.agg cs2 /\ cs2.length = 1 /\ ∃ n12 f9 es7, cs2.head? = some (PV.sl n12 f9 es7) /\ ∃ x5, vs2.tail.head? = some x5 /\ ∃ n13, x5 = Z6 n13 /\ if (n13 == 0) = true then PCall qa 12 [PV.agg [PV.sl n12 f9 es7]] fun v10 => ∃ n14 f10 es8, v10 = PV.sl n14 f10 es8 /\ if ((↑es8.length : Int) == 1) = true then PCall qa 11 [PV.agg [PV.sl n12 f9 es7], x8, PV.sl n11 f11 s1] fun v11 => ∃ b2, v11 = Zb b2 /\ if b2 = true then PCall qa 11 [PV.agg [PV.sl n12 f9 es7], x8, PV.sl n21 f21 s2] fun v12 => ∃ b3, v12 = Zb b3 /\ if b3 = true then PCall qa 13 [] fun v13 => ∃ b4, v13 = Zb b4 /\ R (Zb b4) else R (Zb false) else R (Zb false) else R (Zb false) else R (Zb false)
theorem ztg {R : PV -> Prop} (h : zi7 n f es n2 f2 ss n3 f3 s3 J μ R) : PCall qa 4 [.sl n f es, .sl n2 f2 ss, .sl n3 f3 s3] R :=
 PCall.wz Try.func4 aT [0, 1, 2, 6, 7, 8, 9, 10, 11, 12, 13, 14, 15, 16, 17, 30, 80] (dB 8 (bF (eA cz5) (za3 n2 f2) J μ (fun e h => (gN e 0, gF e 0, gS e 0, gN e 1, gF e 1, gS e 1, gN e 2, gF e 2, gS e 2, gP e 8, gI e 10, oN h 0, oS h 0)) [(9, 21, 1)] [0, 1, 2, 8, 9, 10] [])) h
end
end Go.Eng
namespace Go.Eng
open Go Go.Proofs Go.Eng.Rows Go.Eng.Trie Go.Eng.Srt
abbrev PtF := Int × Bool × Bool × List Int
def pT (q : PtF) : List PV := [.int .i64 q.1, .sl q.2.1 q.2.2.1 (aA q.2.2.2)]
theorem za4 (q : PtF) : (pT q).length = 2 := rfl
def pE (q : PtF) : Int × List Int := (q.1, q.2.2.2)
theorem zth (k : Int) (n f n2 f2 : Bool) (c d : List Int) (hl : c.length < 1000000000000) : PCall qa 36 [.agg [.int .i64 k, .sl n f (aA c)], .sl n2 f2 (aA d)] fun x => x = .bool (fD (k, c) d) := by
 refine zta _ _ _ _ _ _ _ ?_; unfold zi1 fD;refine aG (fun h => ?_) (fun h => ?_)
 ·simp only [beq_iff_eq] at h;simp [h]
 ·simp only [beq_iff_eq] at h;refine aG (fun h0 => ?_) (fun h0 => ?_)
  ·simp only [beq_iff_eq] at h0;refine (zre n f n2 f2 c d hl).mono ?_;rintro _ rfl;refine ⟨_, rfl, ?_⟩;simp [h0]
  ·simp only [beq_iff_eq] at h0;simp [h, h0]
section
variable {rows : List Row} {v : PV}
theorem pAt {Q : List PtF} {i : Int} (i0 : 0 <= i) (hi : i.toNat < Q.length) : aR (Q.map pT) i 2 /\ (Q.map pT).getD i.toNat [] = pT Q[i.toNat] := ⟨cD za4 i0 (by omega), cC hi⟩
theorem zti (hts : fY rows) (hp : dP rows) (h1 : eI rows) (hk : fA rows) (hv : dI rows v) (np fp n f : Bool) (Q : List PtF) (hQ : ∀ q ∈ Q, q.2.2.2.length < 1000000000) (hQl : Q.length < 1000000) (L : List Int) (hr : R32 L) (hL : L.length < 100000) :
 PCall qa 11 [.agg [.sl np fp (Q.map pT)], v, .sl n f (aA L)] fun x => x = .bool (bC (Q.map pE) (cG rows (cU rows L) 0)) := by
 have c1 := zh3 hp h1 hk hv n f L hr (by omega);have hnl := zan hk L;have hnr := zh4 hp h1 hk hr;have c2 := fun n f => zis hts hv n f (cU rows L) hnr (by omega);have hcc := uC rows (cU rows L);obtain ⟨tc, tg, tj, tf, tp, made, sec, rfl, ht', hm⟩ := hv;generalize cG rows (cU rows L) 0 = C at *
 refine ztb _ _ _ _ _ _ _ _ _ _ _ _ _
  (fun n7 f7 s7 a i st fr => (∃ K : List (Bool × Bool × List Int), s7 = K.map fZ /\ K.map (fun q => q.2.2) = C) /\ (-1 <= st /\ 0 <= fr /\ fr <= i) /\ kN (Q.map pE) C a i st fr) (fun _ _ _ a i _ fr => jM Q.length C.length a i fr)
  (fun a => (0 <= a /\ a <= Q.length) /\ bC (Q.map pE) C = mN ((Q.map pE).drop a.toNat)) (fun a => Q.length - a.toNat) ?_
 unfold zi2;refine c1.mono ?_;rintro _ ⟨n1, f1, rfl⟩;refine ⟨_, _, _, rfl, ?_⟩;refine (c2 n1 f1).mono ?_;rintro _ ⟨n2, K, rfl, hK⟩;have hPl : (Q.map pE).length = Q.length := qb _;refine ⟨_, _, _, rfl, ⟨rfl, ⟨K, rfl, hK⟩, ⟨by omega, by omega, by omega⟩, zs1⟩, ?_⟩;rintro n7 f7 _ a i st fr ⟨⟨K, rfl, hK⟩, ⟨st0, fr0, fr1⟩, hI⟩;have hKl : (K.map fZ).length = C.length := by rw [qb, <- hK, qb]
 have hQlen : ((Q.map pT).length : Int) = Q.length := by rw [qb]
 rw [hKl, hQlen];obtain ⟨⟨a0, a1⟩, ⟨i0, i1⟩, _⟩ := id hI;rw [hPl] at a1;have hwa : i64.wrap (a + 1) = a + 1 := aD (by omega) (by omega);have hwi : i64.wrap (i + 1) = i + 1 := aD (by omega) (by omega);refine aG (fun hc => ?_) (fun hc => ?_)
 ·simp only [aB] at hc;have hi : i.toNat < C.length := by omega
  have hst1 : st < Q.length := by
   obtain ⟨_, _, h⟩ := hI;rcases h with ⟨h, _⟩ | ⟨_, h, _⟩ <;> omega
  have hws : i64.wrap (st + 1) = st + 1 := aD (by omega) (by omega);have hwf : i64.wrap (fr + 1) = fr + 1 := aD (by omega) (by omega);rw [hwa, hwi, hws, hwf];by_cases ha : a < Q.length
  ·have hal : a.toNat < Q.length := by omega
   have halE : a.toNat < (Q.map pE).length := by omega
   obtain ⟨g1, g2⟩ := pAt a0 hal;obtain ⟨k1, n6, f4, k2⟩ := qAt hK i0 hi;have hE : (Q.map pE)[a.toNat] = pE Q[a.toNat] := qae _;refine bG (by simpa using ha) ⟨g1, _, by rw [List.drop_zero, g2]; rfl, aG (fun h2 => ?_) (fun h2 => ?_)⟩
   ·simp only [beq_iff_eq] at h2;exact ⟨rfl, ⟨⟨K, rfl, hK⟩, ⟨by omega, by omega, by omega⟩, zs2 hI halE (by rw [hE]; exact h2)⟩, zs5 a0 hal fr1⟩
   ·simp only [beq_iff_eq] at h2;refine bG (by simpa using ha) ⟨g1, _, by rw [g2]; rfl, _, _, _, by rw [g2]; rfl, k1, _, _, _, by rw [k2]; rfl, ?_⟩
    refine (zth _ _ _ _ _ _ _ (by have := hQ _ (qy hal); omega)).mono ?_;rintro _ rfl;refine ⟨_, rfl, aG (fun h3 => ?_) (fun h3 => ?_)⟩
    ·rw [uD [] hi] at h3;exact ⟨rfl, ⟨⟨K, rfl, hK⟩, ⟨by omega, by omega, by omega⟩, zs3 hI halE hi (by rw [hE]; exact h2) (by rw [hE]; exact h3)⟩, zs6 a0 hal⟩
    ·rw [uD [] hi] at h3;obtain ⟨m1, m2⟩ := ziw hI hi fun h => ⟨by rw [hE]; exact h2, by rw [hE]; exact Bool.eq_false_iff.2 h3⟩;refine aG (fun h => ?_) (fun h => ?_)
     ·simp only [aB, ge_iff_le] at h;exact ⟨rfl, ⟨⟨K, rfl, hK⟩, ⟨by omega, by omega, by omega⟩, m2 h⟩, zix fr0 (by omega)⟩
     ·simp only [aB, ge_iff_le] at h;rw [m1 (by omega)]
  ·obtain ⟨m1, m2⟩ := ziw hI hi fun h => absurd h (by omega);refine bI (by simpa using ha) (bI (by simpa using ha) (aG (fun h => ?_) (fun h => ?_)))
   ·simp only [aB, ge_iff_le] at h;exact ⟨rfl, ⟨⟨K, rfl, hK⟩, ⟨by omega, by omega, by omega⟩, m2 h⟩, zix fr0 (by omega)⟩
   ·simp only [aB, ge_iff_le] at h;rw [m1 (by omega)]
 ·simp only [aB] at hc;have he := zs4 hI (by omega);refine ⟨⟨rfl, ⟨a0, a1⟩, he⟩, ?_⟩;rintro b ⟨⟨b0, b1⟩, hb⟩;have hwb : i64.wrap (b + 1) = b + 1 := aD (by omega) (by omega)
  have last : ¬b.toNat < Q.length -> PV.bool (b == (Q.length : Int)) = PV.bool (bC (Q.map pE) C) := fun h => by
   rw [hb, qj (by rw [hPl]; omega)];have : b = Q.length := by omega
   simp [this, mN]
  refine aG (fun h => ?_) (fun h => ?_)
  ·simp only [aB] at h;have hbq : b.toNat < Q.length := by omega
   obtain ⟨g1, g2⟩ := pAt b0 hbq
   have hd : (Q.map pE).drop b.toNat = pE Q[b.toNat] :: (Q.map pE).drop (b.toNat + 1) := by
    rw [qk (by rw [hPl]; exact hbq), qae]
   refine ⟨g1, _, by rw [g2]; rfl, ?_⟩;rw [hwb];refine aG (fun h2 => ?_) (fun h2 => ?_)
   ·simp only [beq_iff_eq] at h2;refine ⟨rfl, ⟨⟨by omega, by omega⟩, ?_⟩, by dsimp only; omega⟩;rw [hb, hd, show (b + 1).toNat = b.toNat + 1 by omega];show (decide ((pE Q[b.toNat]).1 = 2) && mN _) = _;rw [decide_eq_true (show (pE Q[b.toNat]).1 = 2 from h2), qai]
   ·simp only [beq_iff_eq] at h2;rw [hb, hd];show PV.bool (b == (Q.length : Int)) = PV.bool (decide ((pE Q[b.toNat]).1 = 2) && mN _);rw [decide_eq_false (show ¬(pE Q[b.toNat]).1 = 2 from h2), Bool.false_and];have : ¬b = Q.length := by omega
    simp [this]
  ·simp only [aB] at h;exact last (by omega)
end
end Go.Eng
namespace Go.Eng.Rows
open Go Go.Eng Go.Eng.Trie Go.Eng.Srt
section
variable {rows : List Row}
end
end Go.Eng.Rows
namespace Go.Eng
open Go Go.Proofs
open Go Go.Proofs
open Go Go.Proofs Go.Eng.Rows Go.Eng.Trie
end Go.Eng
namespace Go.Eng
open Go Go.Proofs Go.Eng.Rows Go.Eng.Trie
section
variable {rows : List Row}
end
end Go.Eng
namespace Go.Eng
open Go Go.Proofs
end Go.Eng
namespace Go.Eng
open Go Go.Proofs Go.Eng.Rows Go.Eng.Trie Go.Eng.Srt
section
variable {rows : List Row}
end
end Go.Eng
namespace Go.Eng.Rows
open Go Go.Eng Go.Eng.Trie Go.Eng.Srt
end Go.Eng.Rows
namespace Go.Eng
open Go Go.Proofs Go.Eng.Rows Go.Eng.Trie
end Go.Eng
namespace Go.Eng
open Go Go.Proofs Go.Eng.Rows Go.Eng.Trie Go.Eng.Srt
def ztj : Bool := tab73.all fun x => decide ((aW tab73 8 x.fr).length <= 8)
theorem ztk : ztj = true := by kernel_rfl
theorem ztl (r : Int) : (aW tab 8 r).length <= 8 := by
 cases hs : bX r with
 | true => rw [lK hs]; have := qG r; omega
 | false =>
   by_cases hp : aM tab r = (0, 0)
   ·rw [qF hs hp]; simp
   ·obtain ⟨x, hx, hk, hf, _⟩ := zag zac hp;have := List.all_eq_true.1 ztk x (zrc hx hk);rw [zrb, <- hf];exact of_decide_eq_true this
theorem ztm (l : List Int) : (iT tab l).length <= 8 * l.length := by
 unfold iT;rw [<- (tU zad _).len]
 induction l with
 | nil => simp
 | cons x l ih =>
   have := ztl x;rw [qam, qc, qd]; omega
theorem ztn (l : List Int) : (cU tab l).length <= 8 * l.length := Nat.le_trans (zah tab _) (ztm l)
abbrev TxG := List (Bool × Bool × List Int)
def jP (k : Bool × Bool × List Int) : PtF := (0, k.1, k.2.1, k.2.2)
theorem qU (q : PtF) : aS [pT q] 2 := pY (enc := pT) za4 [q]
theorem qV (Q : List PtF) (q : PtF) : Q.map pT ++ [pT q] = (Q ++ [q]).map pT := by rw [qi]; rfl
theorem qW {i : Nat} (h : i < 1000000000000) : i64.wrap ((i : Int) + 1) = ((i + 1 : Nat) : Int) := by rw [aD (by omega) (by omega)]; omega
theorem zto {K : TxG} {i : Nat} (h : i < K.length) : aR (K.map fZ) (i : Int) 1 /\ (K.map fZ).getD i [] = fZ K[i] := ⟨cD zau (by omega) (by omega), cC h⟩
theorem zi8 {Q : List PtF} {i : Nat} (h : i < Q.length) : aR (Q.map pT) (i : Int) 2 /\ (Q.map pT).getD i [] = pT Q[i] := ⟨cD za4 (by omega) (by omega), cC h⟩
theorem ztp (rows : List Row) {K : TxG} {pl : List Int} (h : K.map (fun q => q.2.2) = cG rows (cU rows pl) 0) (Q : List PtF) : (Q ++ K.map jP).map pE = Q.map pE ++ dS rows pl := by
 rw [qi, List.map_map];congr 1;unfold dS;rw [<- h, List.map_map];rfl
section
variable {rows : List Row} {v : PV}
def za5 (rows : List Row) (Q : List PtF) (pl : List Int) (Q' : List PtF) : Prop := Q'.map pE = Q.map pE ++ dS rows pl /\ (∀ q ∈ Q', q ∈ Q ∨ q.2.2.2.length <= 768 * pl.length) /\ Q'.length <= Q.length + 768 * pl.length
theorem ztq (hk : fA rows) {K : TxG} {pl : List Int} (h : K.map (fun q => q.2.2) = cG rows (cU rows pl) 0) (Q : List PtF) : za5 rows Q pl (Q ++ K.map jP) := by
 have hl := congrArg qt h;rw [qb] at hl;have h1 := uC rows (cU rows pl);have h2 := zan hk pl;refine ⟨ztp rows h Q, fun q hq => ?_, by rw [qc, qb]; omega⟩;rcases List.mem_append.1 hq with hq | hq
 ·exact .inl hq
 ·obtain ⟨k, hk, rfl⟩ := List.mem_map.1 hq;right;have : k.2.2 ∈ cG rows (cU rows pl) 0 := by rw [<- h]; exact List.mem_map.2 ⟨k, hk, rfl⟩
  have := zsu this;show k.2.2.length <= _;omega
theorem ztr (hts : fY rows) (hp : dP rows) (h1 : eI rows) (hk : fA rows) (hv : dI rows v) (n2 n1 : Bool) (Q : List PtF) (pl : List Int) (hr : R32 pl) (hl : pl.length < 10000) (hQ : Q.length < 100000000) :
 ACall qa 35 [.box 0 0, .box 1 0, .box 2 0] [.box [.pv v], .box [.own 3], .box [.own 4], .sl (21, 1) false n2 (aA pl), .sl (78, 2) false n1 (Q.map pT)] fun r h' =>
  ∃ n' Q', r = .tup [] /\ h' = [.box [.pv v], .box [.pv (.sl true true [])], .box [.own 4], .dead, .sl (78, 2) true n' (Q'.map pT)] /\ za5 rows Q pl Q' := by
 have c1 := fun f => zh3 hp h1 hk hv n2 f pl hr (by omega);have hnl := zan hk pl;have c2 := fun n f => zis hts hv n f (cU rows pl) (zh4 hp h1 hk hr) (by omega);have hcc := uC rows (cU rows pl);obtain ⟨tc, tg, tj, tf, tp, made, sec, rfl, ht', hm⟩ := hv
 refine ztd _ _ _ _ _ _ _ n2 false n1 false false _ _
  (fun _ _ s9 x10 x11 _ s4 => ∃ (i : Nat) (K : TxG), x11 = i /\ x10 = K.length /\ i <= K.length /\ s9 = K.map fZ /\ K.map (fun q => q.2.2) = cG rows (cU rows pl) 0 /\ s4 = (Q ++ (K.take i).map jP).map pT) (fun _ _ _ x10 x11 _ _ => (x10 - x11).toNat) ?_
 unfold zi4;refine (c1 false).mono ?_;rintro _ ⟨n3, f3, rfl⟩;refine ⟨_, _, _, rfl, (c2 n3 f3).mono ?_⟩;rintro _ ⟨n4, K, rfl, hK⟩;refine ⟨_, _, _, rfl, ⟨rfl, 0, K, rfl, by rw [qb], by omega, rfl, hK, by rw [List.take_zero, List.map_nil, qn]⟩, ?_⟩;clear hK K;rintro n9 f9 _ _ _ n5 _ ⟨i, K, rfl, rfl, i1, rfl, hK, rfl⟩;have hKl := congrArg qt hK;rw [qb] at hKl;rw [qg, qW (by omega)];refine aG (fun hc => ?_) (fun hc => ?_)
 ·simp only [aB] at hc;have hi : i < K.length := by omega
  obtain ⟨g1, g2⟩ := zto hi;refine ⟨g1, K[i].1, K[i].2.1, aA K[i].2.2, by rw [g2]; rfl, ⟨qU (jP K[i]), by rw [qb, qc, qb, qm]; omega⟩, rfl, ⟨i + 1, K, rfl, rfl, by omega, rfl, hK, ?_⟩, by dsimp only; omega⟩;have e : (K.take (i + 1)).map jP = (K.take i).map jP ++ [jP K[i]] := by rw [dH hi, qi]; rfl
  rw [e, <- qh];exact qV _ (jP K[i])
 ·simp only [aB] at hc;rw [qx (by omega)];exact ⟨n5, _, rfl, rfl, ztq hk hK Q⟩
theorem zi9 {L : List Int} {i : Nat} (h : i < L.length) : L.drop i = L.getD i 0 :: L.drop (i + 1) := by rw [qk h, uD 0 h]
def PtOK (m : Nat) (Q : List PtF) : Prop := ∀ q ∈ Q, q.2.2.2.length <= m
theorem PtOK.app {m : Nat} {Q Q' : List PtF} {pl : List Int} (h : PtOK m Q) (ha : za5 rows Q pl Q') (hm : 768 * pl.length <= m) : PtOK m Q' := fun q hq => by
 rcases ha.2.1 q hq with h1 | h1
 ·exact h q h1
 ·omega
theorem PtOK.snoc {m : Nat} {Q : List PtF} (h : PtOK m Q) {q : PtF} (hq : q.2.2.2.length <= m) : PtOK m (Q ++ [q]) := fun x hx => by
 rcases List.mem_append.1 hx with hx | hx
 ·exact h x hx
 ·rw [List.mem_singleton.1 hx]; exact hq
def qX : PtF := (1, true, true, [])
def jN : PtF := (2, true, true, [])
theorem zts {Q : List PtF} (h : Q = [] ∨ ∃ q, Q.getLast? = some q /\ q.1 ≠ 2) : gB (Q.map pE) = (Q ++ [jN]).map pE := by
 unfold gB;rw [qan];rcases h with rfl | ⟨q, h, hq⟩
 ·rfl
 ·rw [h];show (if (pE q).1 = 2 then _ else _) = _;rw [if_neg (show ¬(pE q).1 = 2 from hq), qi]; rfl
theorem ztt {Q : List PtF} {q : PtF} (h : Q.getLast? = some q) (hq : q.1 = 2) : gB (Q.map pE) = Q.map pE := by
 unfold gB;rw [qan, h];show (if (pE q).1 = 2 then _ else _) = _;rw [if_pos (show (pE q).1 = 2 from hq)]
theorem ztu {α : Type} {Q : List α} (h : 0 < Q.length) : Q.getLast? = some (Q[Q.length - 1]) := by
 rw [List.getLast?_eq_getElem?, qq (by omega)]
def lP (rows : List Row) (L : List Int) (ok : List PtF -> PV -> Prop) (e4 e7 : PV) (x : PV) : Prop := match prs rows [] [] L with
 | some P => if 1000 < P.length then x = e7 else ∃ Q, ok Q x /\ Q.map pE = P /\ PtOK (768 * L.length) Q
 | none => x = e4
theorem ztv (hts : fY rows) (hp : dP rows) (h1 : eI rows) (hk : fA rows) (hv : dI rows v) (n f : Bool) (L : List Int) (hr : R32 L) (hL : L.length < 10000) :
 PCall qa 10 [v, .sl n f (aA L)] (lP rows L (fun Q x => ∃ n, x = .tup [.agg [.sl n false (Q.map pT)], .int .i64 0]) (.tup [.agg [.sl true true []], .int .i64 4]) (.tup [.agg [.sl true true []], .int .i64 7])) := by
 have fl := fun n2 n1 Q pl hr hl hQ => ztr hts hp h1 hk hv n2 n1 Q pl hr hl hQ;obtain ⟨tc, tg, tj, tf, tp, made, sec, rfl, ht', hm⟩ := hv
 refine zte _ _ _ _ _ _ _ _ _ _
  (fun x _ s4 _ s5 => ∃ (i : Nat) (Q : List PtF) (pl : List Int), x = i /\ i <= L.length /\ s4 = Q.map pT /\ s5 = aA pl /\ prs rows [] [] L = prs rows (Q.map pE) pl (L.drop i) /\ Q.length + 768 * pl.length <= 769 * i /\ R32 pl /\ pl.length <= i /\ PtOK (768 * L.length) Q)
  (fun x _ _ _ _ => L.length - x.toNat) ?_
 unfold zi5;rw [show ((aA L).length : Int) = L.length by rw [cA]];refine ⟨⟨rfl, 0, [], [], rfl, by omega, rfl, rfl, rfl, by simp, fun x hx => by simp at hx, by simp, fun q hq => by simp at hq⟩, ?_⟩;rintro _ n4 _ n5 _ ⟨i, Q, pl, rfl, i1, rfl, rfl, hP, hB, hpl, hpi, hQ⟩;have hQl : Q.length <= 769 * i := by omega
 refine aG (fun hc => ?_) (fun hc => ?_)
 ·simp only [aB] at hc;have hi : i < L.length := by omega
  have e1 := qW (i := i) (by omega);have e2 := qW (i := i + 1) (by omega);have g := qS (l := L) (i := (i : Int)) (by omega) (by omega);rw [qg] at g;obtain ⟨g1, g2⟩ := g;have hd := zi9 hi;rw [hd] at hP;rw [e1, e2, qg];have hwr := uB hr i
  have plain1 : R32 (pl ++ [L.getD i 0]) := fun x hx => by
   rcases List.mem_append.1 hx with hx | hx
   ·exact hpl x hx
   ·rw [List.mem_singleton.1 hx]; exact hwr
  generalize hcc : L.getD i 0 = c at *;refine ⟨g1, c, by rw [g2]; rfl, ?_⟩;by_cases h42 : c = 42
  ·subst h42;refine bG rfl (bG rfl ?_);refine (fl n5 n4 Q pl hpl (by omega) (by omega)).mono ?_;rintro r h' ⟨n', Q', rfl, rfl, hA⟩;obtain ⟨hA1, hA2, hA3⟩ := id hA;refine ⟨(n', Q'.map pT), ⟨rfl, rfl⟩, ⟨trivial, trivial, trivial, trivial, trivial, trivial⟩, g1, 42, by rw [g2]; rfl, bI (by decide) ?_⟩;rw [nX, <- hA1] at hP;have hlq : ((Q'.map pT).length : Int) = Q'.length := by rw [qb]
   have V2 : (Q' = [] ∨ ∃ q, Q'.getLast? = some q /\ q.1 ≠ 2) -> prs rows [] [] L = prs rows ((Q' ++ [jN]).map pE) [] (L.drop (i + 1)) := fun hx => by rw [<- zts hx]; exact hP
   have room : ((Q'.map pT).length + 1) * 32 <= 140737488355328 := by rw [qb]; omega
   have okS := (hQ.app hA (by omega)).snoc (q := jN) (by simp [jN]);dsimp only;rw [hlq];refine aG (fun h0 => ?_) (fun h0 => ?_)
   ·simp only [beq_iff_eq] at h0;have : Q' = [] := qu (by omega);exact ⟨⟨qU jN, room⟩, rfl, ⟨i + 1, Q' ++ [jN], [], rfl, by omega, qV Q' jN, rfl, V2 (.inl this), by rw [qc, qf, qv]; omega, fun x hx => by simp at hx, by simp, okS⟩, by first | omega | (dsimp only; omega)⟩
   ·simp only [beq_iff_eq] at h0;have hpos : 0 < Q'.length := by omega
    have hlast := ztu hpos;have hw : i64.wrap ((Q'.length : Int) - 1) = ((Q'.length - 1 : Nat) : Int) := by rw [aD (by omega) (by omega)]; omega
    rw [hw, qg];obtain ⟨k1, k2⟩ := zi8 (Q := Q') (i := Q'.length - 1) (by omega);refine ⟨k1, Q'[Q'.length - 1].1, by rw [k2]; rfl, aG (fun h2 => ?_) (fun h2 => ?_)⟩
    ·simp only [bne_iff_ne, ne_eq] at h2;exact ⟨⟨qU jN, room⟩, rfl, ⟨i + 1, Q' ++ [jN], [], rfl, by omega, qV Q' jN, rfl, V2 (.inr ⟨_, hlast, h2⟩), by rw [qc, qf, qv]; omega, fun x hx => by simp at hx, by simp, okS⟩, by first | omega | (dsimp only; omega)⟩
    ·simp only [bne_iff_ne, ne_eq, qal] at h2;rw [ztt hlast h2] at hP;exact ⟨rfl, ⟨i + 1, Q', [], rfl, by omega, rfl, rfl, hP, by simp only [qv]; omega, fun x hx => by simp at hx, by simp, hQ.app hA (by omega)⟩, by first | omega | (dsimp only; omega)⟩
  ·refine bI (by simpa using h42) ?_
   by_cases h63 : c = 63
   ·subst h63;refine bG rfl ?_;refine (fl n5 n4 Q pl hpl (by omega) (by omega)).mono ?_;rintro r h' ⟨n', Q', rfl, rfl, hA⟩;obtain ⟨hA1, hA2, hA3⟩ := id hA;refine ⟨(n', Q'.map pT), ⟨rfl, rfl⟩, ⟨trivial, trivial, trivial, trivial, trivial, trivial⟩, g1, 63, by rw [g2]; rfl, bG (by decide) ?_⟩;rw [ziy, <- hA1] at hP;exact ⟨⟨qU qX, by dsimp only; rw [qb]; omega⟩, rfl, ⟨i + 1, Q' ++ [qX], [], rfl, by omega, qV Q' qX, rfl, by rw [hP, qi]; rfl, by rw [qc, qf, qv]; omega, fun x hx => by simp at hx, by simp, (hQ.app hA (by omega)).snoc (q := qX) (by simp [qX])⟩, by first | omega | (dsimp only; omega)⟩
   ·refine bI (by simpa using h63) ?_
    by_cases h92 : c = 92
    ·subst h92;refine bG rfl (aG (fun h => ?_) (fun h => ?_))
     ·simp only [beq_iff_eq] at h;rw [qag (by omega), zs7] at hP;unfold lP;rw [hP]
     ·simp only [beq_iff_eq] at h;have hi2 : i + 1 < L.length := by omega
      have k := qS (l := L) (i := ((i + 1 : Nat) : Int)) (by omega) (by omega);rw [qg] at k;obtain ⟨k1, k2⟩ := k;rw [zi9 hi2, ziz] at hP;have hw2 := uB hr (i + 1);rw [qg];refine ⟨k1, _, by rw [k2]; rfl, ⟨fI [L.getD (i + 1) 0], by rw [cA]; omega⟩, rfl, ⟨i + 1 + 1, Q, pl ++ [L.getD (i + 1) 0], rfl, by omega, rfl, (kJ pl [L.getD (i + 1) 0]).symm, hP, by rw [qc, qf]; omega, fun x hx => ?_, by rw [qc, qf]; omega, hQ⟩, by first | omega | (dsimp only; omega)⟩
      rcases List.mem_append.1 hx with hx | hx
      ·exact hpl x hx
      ·rw [List.mem_singleton.1 hx]; exact hw2
    ·refine bI (by simpa using h92) ?_
     rw [zaw h92 h42 h63] at hP;exact ⟨g1, c, by rw [g2]; rfl, ⟨fI [c], by rw [cA]; omega⟩, rfl, ⟨i + 1, Q, pl ++ [c], rfl, by omega, rfl, (kJ pl [c]).symm, hP, by rw [qc, qf]; omega, plain1, by rw [qc, qf]; omega, hQ⟩, by first | omega | (dsimp only; omega)⟩
 ·simp only [aB] at hc;have hil : i = L.length := by omega
  refine (fl n5 n4 Q pl hpl (by omega) (by omega)).mono ?_;rintro r h' ⟨n', Q', rfl, rfl, hA⟩;refine ⟨(n', Q'.map pT), ⟨rfl, rfl⟩, ⟨trivial, trivial, trivial, trivial, trivial, trivial⟩, ?_⟩;rw [hil, qag (qr _), nW, <- hA.1] at hP;have hPl : (Q'.map pE).length = Q'.length := qb _;dsimp only;rw [show ((Q'.map pT).length : Int) = Q'.length by rw [qb]];refine aG (fun h => ?_) (fun h => ?_)
  ·simp only [aB, gt_iff_lt] at h;unfold lP;rw [hP];show ite _ _ _;rw [if_pos (by omega)]
  ·simp only [aB, gt_iff_lt] at h;unfold lP;rw [hP];show ite _ _ _;rw [if_neg (by omega)];exact ⟨Q', ⟨_, rfl⟩, rfl, hQ.app hA (by omega)⟩
end
section
variable {rows : List Row}
variable (ht : fY rows) (n f n2 f2 : Bool) (hl : rows.length < 1000000) (L : List Int) (hr : R32 L) (hL : L.length < 1000000000000)
include ht hl hr hL
end
section
variable {rows : List Row} {v : PV}
theorem ztw (np fp : Bool) (Q : List PtF) (hQ : ∀ q ∈ Q, q.2.2.2.length < 1000000000) (hQl : Q.length < 1000000) :
 PCall qa 12 [.agg [.sl np fp (Q.map pT)]] fun x => ∃ (n : Bool) (Q' : List PtF), x = .sl n false (Q'.map pT) /\ Q'.map pE = Q.map pE := by
 refine ztc _ _ _ (fun x _ s => ∃ (i : Nat) (Q' : List PtF), x = i /\ i <= Q.length /\ s = Q'.map pT /\ Q'.map pE = (Q.take i).map pE) (fun x _ _ => Q.length - x.toNat) ?_;unfold zi3;rw [show ((Q.map pT).length : Int) = Q.length by rw [qb]];refine ⟨⟨rfl, 0, [], rfl, by omega, rfl, rfl⟩, ?_⟩;rintro _ n0 _ ⟨i, Q', rfl, i1, rfl, hE⟩;rw [qg, qW (by omega)];refine aG (fun hc => ?_) (fun hc => ?_)
 ·simp only [aB] at hc;have hi : i < Q.length := by omega
  obtain ⟨g1, g2⟩ := zi8 hi;have hl := congrArg qt hE;rw [qb, qb, qm] at hl
  have cl : PCall qa 37 [.sl Q[i].2.1 Q[i].2.2.1 (aA Q[i].2.2.2)] fun x => ∃ n f, x = .sl n f (aA Q[i].2.2.2) := by
   have hlen := hQ _ (qy hi);by_cases h : Q[i].2.1 = true -> Q[i].2.2.2 = []
   ·exact (zat _ _ _ h (by omega)).mono fun x hx => ⟨_, _, hx⟩
   ·have hn : Q[i].2.1 = true := by
     cases hb : Q[i].2.1 with
     | true => rfl
     | false => rw [hb] at h; exact absurd (fun h => by cases h) h
    rw [hn];exact PCall.vac (zat false Q[i].2.2.1 Q[i].2.2.2 (fun h => by cases h) (by omega)) (k := 0) rfl (ziq fun e => h fun _ => e)
  refine ⟨g1, _, by rw [g2]; rfl, _, _, _, by rw [g2]; rfl, cl.mono ?_⟩;rintro _ ⟨n2, f2, rfl⟩;refine ⟨n2, f2, _, rfl, ⟨qU (Q[i].1, n2, f2, Q[i].2.2.2), by rw [qb]; omega⟩, rfl, ⟨i + 1, Q' ++ [(Q[i].1, n2, f2, Q[i].2.2.2)], rfl, by omega, qV Q' (Q[i].1, n2, f2, Q[i].2.2.2), ?_⟩, by first | omega | (dsimp only; omega)⟩
  rw [qi, hE, dH hi, qi]; rfl
 ·simp only [aB] at hc;rw [qx (by omega)] at hE;exact ⟨n0, Q', rfl, hE⟩
end
section
variable {t : PV}
theorem za6 (ht : dI tab t) (n f : Bool) (L : List Int) (hr : R32 L) (hL : L.length < 10000) : PCall qa 10 [t, .sl n f (aA L)] (lP tab L (fun Q x => ∃ n, x = .tup [.agg [.sl n false (Q.map pT)], .int .i64 0]) (.tup [.agg [.sl true true []], .int .i64 4]) (.tup [.agg [.sl true true []], .int .i64 7])) := ztv zic zab zac zad ht n f L hr hL
theorem kO (ht : dI tab t) (np fp n f : Bool) (Q : List PtF) {m : Nat} (hQ : PtOK m Q) (hm : m < 1000000000) (hQl : Q.length <= 1000) (L : List Int) (hr : R32 L) (hL : L.length < 100000) :
 PCall qa 11 [.agg [.sl np fp (Q.map pT)], t, .sl n f (aA L)] fun x => x = .bool (bC (Q.map pE) (cG tab (cU tab L) 0)) := zti zic zab zac zad ht np fp n f Q (fun q hq => by have := hQ q hq; omega) (by omega) L hr hL
end
theorem ztx : dS tab [97] = [(0, [97])] := by kernel_rfl
theorem zty : dS tab [99] = [(0, [99])] := by kernel_rfl
theorem nY : dS tab [] = [] := by kernel_rfl
theorem ztz : cG tab (cU tab [97, 99]) 0 = [[97], [99]] := by kernel_rfl
theorem zt0 : cG tab (cU tab [97, 98, 98, 99]) 0 = [[97], [98], [98], [99]] := by kernel_rfl
theorem zt1 : cG tab (cU tab [97, 99, 98]) 0 = [[97], [99], [98]] := by kernel_rfl
theorem zt2 : cG tab (cU tab [101, 769]) 0 = [[233]] := by kernel_rfl
theorem zt3 : cG tab (cU tab [101, 97]) 0 = [[101], [97]] := by kernel_rfl
theorem zt4 : prs tab [] [] [97, 42, 99] = some [(0, [97]), (2, []), (0, [99])] := by
 rw [zaw (by decide) (by decide) (by decide), qo, nX, qo, ztx, zaw (by decide) (by decide) (by decide), qo, nW, zty]; rfl
theorem zt5 : prs tab [] [] [63] = some [(1, [])] := by
 rw [ziy, nY, nW, nY]; rfl
theorem awake43 : PCall qa 13 [] fun v => v = .bool true := by
 refine ztf ?_; unfold zi6;refine p42.mono ?_;rintro _ ⟨n, f, rfl⟩;refine ⟨_, _, _, rfl, ?_⟩;refine (zhs n f).mono fun t ht => ?_;refine (za6 ht false true [97, 42, 99] (fun x hx => by simp at hx; omega) (by simp)).mono fun x hx => ?_;unfold lP at hx;rw [zt4] at hx;dsimp only at hx;rw [if_neg (by decide)] at hx;obtain ⟨A, ⟨n1, rfl⟩, hA, hA2⟩ := hx;have hAl : A.length <= 1000 := by have := congrArg qt hA; rw [qb] at this; simp at this; omega
 refine ⟨_, rfl, rfl, _, rfl, _, rfl, rfl, _, _, _, rfl, _, rfl, _, rfl, ?_⟩;refine (za6 ht false true [63] (fun x hx => by simp at hx; omega) (by simp)).mono fun x hx => ?_;unfold lP at hx;rw [zt5] at hx;dsimp only at hx;rw [if_neg (by decide)] at hx;obtain ⟨B, ⟨n2, rfl⟩, hB, hB2⟩ := hx;have hBl : B.length <= 1000 := by have := congrArg qt hB; rw [qb] at this; simp at this; omega
 refine ⟨_, rfl, rfl, _, rfl, _, rfl, rfl, _, _, _, rfl, _, rfl, _, rfl, bG rfl ?_⟩;refine (kO ht _ _ false true A hA2 (by simp) hAl [97, 99] (fun x hx => by simp at hx; omega) (by simp)).mono ?_;rintro _ rfl;rw [hA, ztz];refine ⟨_, rfl, bG (by simp [iG, lO, mL, mM, fD]) ?_⟩;refine (kO ht _ _ false true A hA2 (by simp) hAl [97, 98, 98, 99] (fun x hx => by simp at hx; omega) (by simp)).mono ?_;rintro _ rfl;rw [hA, zt0];refine ⟨_, rfl, bG (by simp [iG, lO, mL, mM, fD]) ?_⟩;refine (kO ht _ _ false true A hA2 (by simp) hAl [97, 99, 98] (fun x hx => by simp at hx; omega) (by simp)).mono ?_;rintro _ rfl;rw [hA, zt1];refine ⟨_, rfl, bG (by simp [iG, lO, mL, mM, fD]) ?_⟩;refine (kO ht _ _ false true B hB2 (by simp) hBl [101, 769] (fun x hx => by simp at hx; omega) (by simp)).mono ?_;rintro _ rfl;rw [hB, zt2];refine ⟨_, rfl, bG (by simp [iG, lO, mL, mM, fD]) ?_⟩;refine (kO ht _ _ false true B hB2 (by simp) hBl [101, 97] (fun x hx => by simp at hx; omega) (by simp)).mono ?_;rintro _ rfl;rw [hB, zt3];exact ⟨_, rfl, by simp [iG, lO, mL, mM, fD]⟩
theorem zt6 : PCall qa 13 [] fun v5 => ∃ b1, v5 = Zb b1 /\ PV.bool b1 = .bool true := awake43.mono fun x hx => ⟨true, hx, rfl⟩
def dX (l : List Int) : List Int := l.flatMap fun r => [92, r]
theorem zja (l : List Int) : (dX l).length = 2 * l.length := by
 induction l with
 | nil => rfl
 | cons r l ih => show (r :: dX l).length + 1 = _; rw [qd, ih, qd]; omega
theorem zjb {l : List Int} (h : R32 l) : R32 (dX l) := fun x hx => by
 obtain ⟨r, hr, hx⟩ := List.mem_flatMap.1 hx;simp only [List.mem_cons, List.not_mem_nil, or_false] at hx;rcases hx with rfl | rfl
 ·exact ⟨by decide, by decide⟩
 ·exact h _ hr
theorem zt7 (l : List Int) (r : Int) : dX (l ++ [r]) = dX l ++ [92, r] := by
 unfold dX; rw [List.flatMap_append]; rfl
theorem zt8 (l : List Int) : prs tab [] [] (dX l) = some (dS tab l) := by
 have h := zax (rows := tab) l (out := []) (plain := []) (rest := []);rw [qn] at h;rw [dX, h, qo, nW, qo]
theorem zt9 (l : List Int) : prs tab [] [] (42 :: (dX l ++ [42])) = some (gB ((2, []) :: dS tab l)) := by
 rw [nX, dX, zax, nX, nW, nY, qn]; rfl
theorem zua : prs tab [] [] [42, 42] = some [(2, [])] := by
 rw [nX, nY, nX, nY, nW, nY]; rfl
theorem zub (l : List Int) : (dS tab l).length <= 8 * l.length := by
 unfold dS;rw [qb];have h1 := uC tab (cU tab l);have h2 := ztn l;omega
theorem many_len (P : List (Int × List Int)) : (gB P).length <= P.length + 1 := by
 unfold gB;cases P.getLast? with
 | none => simp
 | some p => dsimp only; split <;> simp
theorem za7 {t : PV} (ht : dI tab t) (n f : Bool) {L : List Int} (hr : R32 L) (hL : L.length < 1000) {P : List (Int × List Int)} (hP : prs tab [] [] L = some P) (hl : P.length <= 1000) :
 PCall qa 10 [t, .sl n f (aA L)] fun x => ∃ (n : Bool) (Q : List PtF), x = .tup [.agg [.sl n false (Q.map pT)], .int .i64 0] /\ Q.map pE = P /\ PtOK 768000 Q /\ Q.length <= 1000 := by
 refine (za6 ht n f L hr (by omega)).mono fun x hx => ?_;unfold lP at hx;rw [hP] at hx;dsimp only at hx;rw [if_neg (by omega)] at hx;obtain ⟨Q, ⟨n1, rfl⟩, hQ, hQ2⟩ := hx;exact ⟨n1, Q, rfl, hQ, fun q hq => by have := hQ2 q hq; omega, by have := congrArg qt hQ; rw [qb] at this; omega⟩
theorem zuc (n f : Bool) (l : List Int) (rl : R32 l) (n2 f2 : Bool) (a : List Int) (ra : R32 a) (n3 f3 : Bool) (b : List Int) (rb : R32 b) : PCall qa 4 [.sl n f (aA l), .sl n2 f2 (aA a), .sl n3 f3 (aA b)] fun v => v = .bool true := by
 refine ztg _ _ _ _ _ _ _ _ _
  (fun _ _ s _ _ s1 _ _ s2 x8 x10 _ s_0 => ∃ (i : Nat) (L A B : List Int), x10 = i /\ i <= L.length /\ s = aA L /\ s1 = aA A /\ s2 = aA B /\ dI tab x8 /\ s_0 = aA (dX (L.take i)) /\ R32 L /\ R32 A /\ R32 B /\ L.length <= 30 /\ A.length <= 10 /\ B.length <= 10)
  (fun _ _ s _ _ _ _ _ _ _ x10 _ _ => s.length - x10.toNat) ?_
 unfold zi7;refine (zae n f l 30 (by omega)).mono ?_;rintro _ ⟨n1, f1, rfl⟩;refine ⟨_, _, _, rfl, (zae n2 f2 a 10 (by omega)).mono ?_⟩;rintro _ ⟨n4, f4, rfl⟩;refine ⟨_, _, _, rfl, (zae n3 f3 b 10 (by omega)).mono ?_⟩;rintro _ ⟨n5, f5, rfl⟩;refine ⟨_, _, _, rfl, p42.mono ?_⟩;rintro _ ⟨n6, f6, rfl⟩;refine ⟨_, _, _, rfl, (zhs n6 f6).mono fun t ht => ?_⟩;refine ⟨⟨rfl, 0, l.take 30, a.take 10, b.take 10, rfl, by omega, rfl, rfl, rfl, ht, rfl, rl.take 30, ra.take 10, rb.take 10, t7 l 30, t7 a 10, t7 b 10⟩, ?_⟩;clear ht t;rintro n7 f7 _ n8 f8 _ n9 f9 _ t _ n10 _ ⟨i, L, A, B, rfl, i1, rfl, rfl, rfl, ht, rfl, rL, rA, rB, hL, hA, hB⟩;rw [qg, qW (by omega), cA];refine aG (fun hc => ?_) (fun hc => ?_)
 ·simp only [aB] at hc;have hi : i < L.length := by omega
  obtain ⟨g1, g2⟩ := qS (l := L) (i := (i : Int)) (by omega) (by omega);rw [qg] at g2;have eg : L.getD i 0 = L[i] := by rw [List.getD_eq_getElem?_getD, qq hi]; rfl
  have hsl : (dX (L.take i)).length <= 60 := by rw [zja]; have := t7 L i; omega
  have hsn : aA (dX (L.take i)) ++ [[.int .i32 92], [.int .i32 L[i]]] = aA (dX (L.take (i + 1))) := by
   rw [dH hi, zt7, kJ]; rfl
  rw [show (L.take i) = L.take i from rfl];refine ⟨g1, L[i], by rw [g2, eg]; rfl, ⟨fI [92, L[i]], by rw [cA]; omega⟩, rfl, ⟨i + 1, L, A, B, rfl, by omega, rfl, rfl, rfl, ht, hsn, rL, rA, rB, hL, hA, hB⟩, by simp only [cA]; omega⟩
 ·simp only [aB] at hc;have hiL : i = L.length := by omega
  subst hiL;rw [List.take_length];have hj := zub L;have hs := zja L;have hdeal := zs8 tab L;refine (za7 ht n10 false (zjb rL) (by omega) (zt8 L) (by omega)).mono ?_;rintro _ ⟨n11, Q, rfl, hQ, hQ2, hQl⟩;refine ⟨_, rfl, rfl, _, rfl, _, rfl, rfl, _, _, _, rfl, _, rfl, _, rfl, ⟨rfl, .inl rfl, fun e he => (by cases he), fI [42], by simp⟩, ⟨fI _, by rw [cA]; omega⟩, ⟨fI [42], by rw [qd, cA]; omega⟩, ?_⟩;have hm := many_len ((2, []) :: dS tab L);rw [qd] at hm;rw [show ([PV.int .i32 42] :: (aA (dX L) ++ [[PV.int .i32 42]])) = aA (42 :: (dX L ++ [42])) by show _ = [PV.int .i32 42] :: aA (dX L ++ [42]); rw [kJ]; rfl]
  have hw : R32 (42 :: (dX L ++ [42])) := fun x hx => by
   rcases List.mem_cons.1 hx with rfl | hx
   ·exact ⟨by decide, by decide⟩
   ·rcases List.mem_append.1 hx with hx | hx
    ·exact zjb rL x hx
    ·rw [List.mem_singleton.1 hx]; exact ⟨by decide, by decide⟩
  refine (za7 ht false false hw (by rw [qd, qc, qf]; omega) (zt9 L) (by omega)).mono ?_;rintro _ ⟨n12, W, rfl, hW, hW2, hWl⟩;refine ⟨_, rfl, rfl, _, rfl, _, rfl, rfl, _, _, _, rfl, _, rfl, _, rfl, bI (by decide) ?_⟩;refine (kO ht _ _ _ _ Q hQ2 (by omega) hQl L rL (by omega)).mono ?_;rintro _ rfl;rw [hQ, iU.2 hdeal];refine ⟨_, rfl, bI (by decide) ?_⟩;refine (kO ht _ _ _ _ W hW2 (by omega) hWl L rL (by omega)).mono ?_;rintro _ rfl;rw [hW, iU.2 (zs9 hdeal)];refine ⟨_, rfl, bI (by decide) ?_⟩;refine (za7 ht false true (L := [42, 42]) (fun x hx => by simp at hx; omega) (by simp) zua (by simp)).mono ?_;rintro _ ⟨n13, M, rfl, hM, hM2, hMl⟩;refine ⟨_, rfl, rfl, _, rfl, _, rfl, rfl, _, _, _, rfl, _, rfl, _, rfl, bG (by decide) ?_⟩;refine (ztw _ _ M (fun q hq => by have := hM2 q hq; omega) (by omega)).mono ?_;rintro _ ⟨n14, X, rfl, hX⟩
  have hXl : X.length = 1 := by
   have := congrArg qt (hX.trans hM); rwa [qb] at this
  refine ⟨_, _, _, rfl, bG (by rw [qb, hXl]; rfl) ?_⟩;refine (kO ht _ _ _ _ M hM2 (by omega) hMl A rA (by omega)).mono ?_;rintro _ rfl;rw [hM, iU.2 (zi0 _)];refine ⟨_, rfl, bG rfl ?_⟩;refine (kO ht _ _ _ _ M hM2 (by omega) hMl B rB (by omega)).mono ?_;rintro _ rfl;rw [hM, iU.2 (zi0 _)];exact ⟨_, rfl, bG rfl zt6⟩
theorem lawGlobSelf {pvs : List PV} (h : pX qa 8 Try.f4.params.toList pvs) : PCall qa 4 pvs fun v => v = .bool true := by
 obtain ⟨v0, r0, rfl, h0, v1, r1, rfl, h1, v2, r2, rfl, h2, rfl⟩ : pX qa 8 [22, 22, 22] pvs := h;obtain ⟨nl, l, rfl, hr⟩ := zao h0;obtain ⟨nl1, a, rfl, hr1⟩ := zao h1;obtain ⟨nl2, b, rfl, hr2⟩ := zao h2;exact zuc _ _ l hr _ _ a hr1 _ _ b hr2
end Go.Eng
