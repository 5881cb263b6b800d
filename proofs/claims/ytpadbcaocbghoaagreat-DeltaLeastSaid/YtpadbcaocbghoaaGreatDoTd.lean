/- States run over the code: what each function gives, and what follows. -/
import Derived.Test.YtpadbcaocbghoaaGreatDoTc
open Go.IntKind (i64 i32)
open Int renaming toNat_natCast → qa
open Go.Proofs.Tryz renaming prog → qb
open List renaming length_cons → qc, mem_cons_of_mem → qd, length_map → qe, getElem_mem → qf, take_of_length_le → qg, mem_cons_self → qh, eq_nil_of_length_eq_zero → qj, length_take → ql, getElem?_eq_getElem → qn, getD → qo, drop → qp, getElem_append_right → qr, take_length → qu, length_nil → qv, replicate → qw, take_zero → qx
open Nat renaming le_refl → qi, zero_le → qm
open Bool renaming and_eq_true → qk, or_eq_true → qt
open Decidable renaming not_not → qq
open Option renaming isSome → qy
set_option linter.unusedVariables false
set_option maxRecDepth 100000
set_option linter.constructorNameAsVariable false
namespace Go.Eng
open Go Go.Proofs
section
variable (a b : Int)
def znc (R : PV -> Prop) : Prop :=
 if (decide (a >= 4352) && decide (a <= 4370) && decide (b >= 4449) && decide (b <= 4469)) = true then R (PV.tup [Z3 (i32.wrap (i64.wrap (i64.wrap ((44032 : Int) + i64.wrap (i64.wrap (i64.wrap a - 4352) * 588)) + i64.wrap (i64.wrap (i64.wrap b - 4449) * 28)))), Zb true]) else ACall qb 100 [LV.pv (Z3 a)] [] fun (r : LV) (h' : Hp) => (∃ (t : Bool × LL), (r = LV.own 0 /\ h' = [Ob.sl (21, 1) true t.fst t.snd]) /\ True /\ if ((↑t.snd.length : Int) == 2 && decide (b >= 4520) && decide (b <= 4546)) = true then R (PV.tup [Z3 (i32.wrap (a + i32.wrap (b - 4519))), Zb true]) else R (PV.tup [Z3 0, Zb false])) ∨ ∃ (t : Bool × LL), (r = LV.pv (PV.sl t.fst true t.snd) /\ h' = []) /\ True /\ if ((↑t.snd.length : Int) == 2 && decide (b >= 4520) && decide (b <= 4546)) = true then R (PV.tup [Z3 (i32.wrap (a + i32.wrap (b - 4519))), Zb true]) else R (PV.tup [Z3 0, Zb false])
theorem zzz {R : PV -> Prop} (h : znc a b R) : PCall qb 97 [.int .i32 a, .int .i32 b] R :=
 PCall.wz Tryz.func97 (fun zz_ => match zz_ with | 100 => some ⟨Bool × LL, fun _ hs t => (.own hs.length, hs ++ [.sl (21, 1) true t.1 t.2]), some ⟨Bool × LL, fun _ hs t => (.pv (.sl t.1 true t.2), hs)⟩⟩ | _ => none) [0, 1, 4, 5, 6, 20, 44] bF h
end
def zd4 (n f : Bool) (es : LL) (a b : Int) (x8 : Int) (x9 : Bool) (x10 : Int) : Env × Hp := ([(0, LV.pv (PV.sl n f es)), (1, LV.pv (PV.int i32 a)), (2, LV.pv (PV.int i32 b)), (8, .pv (.int i32 x8)), (9, .pv (.bool x9)), (10, Y6 x10)], [])
section
variable (n f : Bool) (es : LL) (a b : Int) (J : Int -> Bool -> Int -> Prop) (μ : Int -> Bool -> Int -> Nat)
def znd (R : PV -> Prop) : Prop :=
 (aH (zd4 n f es a b (0 : Int) false (0 : Int)) /\ J (0 : Int) false (0 : Int)) /\ ∀ (x8 : Int) (x9 : Bool) (x10 : Int), J x8 x9 x10 ->
 let K4 := fun (y0_ : Int) (y1_ : Bool) (y2_ : Int) => aH (zd4 n f es a b y0_ y1_ y2_) /\ J y0_ y1_ y2_ /\ μ y0_ y1_ y2_ < μ x8 x9 x10; if decide (x10 < (↑es.length : Int)) = true then aF es x10 5 /\ ∃ n1, (qp 0 (es.getD x10.toNat [])).head? = some (Z6 n1) /\
 let V1 := K4 x8 x9 (i64.wrap (x10 + 1)); if (n1 != 2) = true then V1 else aF es x10 5 /\ ∃ n2, (qp 3 (es.getD x10.toNat [])).head? = some (Z6 n2) /\ if (n2 != i64.wrap a) = true then V1 else aF es x10 5 /\ ∃ n3, (qp 4 (es.getD x10.toNat [])).head? = some (Z6 n3) /\ if (n3 != i64.wrap b || b == 0) = true then V1 else aF es x10 5 /\ ∃ n4, (qp 1 (es.getD x10.toNat [])).head? = some (Z6 n4) /\ PCall qb 101 [PV.sl n f es, Z3 (i32.wrap n4)] fun v => ∃ vs, v = PV.tup vs /\ vs.length = 3 /\ ∃ x, vs.head? = some x /\ ∃ n5, x = Z3 n5 /\ ∃ x1, vs.tail.head? = some x1 /\ ∃ n6, x1 = Z3 n6 /\ ∃ x2, vs.tail.tail.head? = some x2 /\ ∃ b1, x2 = Zb b1 /\ if (b1 && n5 == a && n6 == b) = true then PCall qb 129 [PV.sl n f es, Z3 (i32.wrap n4)] fun v1 => ∃ b2, v1 = Zb b2 /\ if (!b2 && (!x9 || decide (i32.wrap n4 < x8))) = true then K4 (i32.wrap n4) true (i64.wrap (x10 + 1)) else V1 else V1 else R (PV.tup [Z3 x8, Zb x9])
theorem zz0 {R : PV -> Prop} (h : znd n f es a b J μ R) : PCall qb 98 [.sl n f es, .int .i32 a, .int .i32 b] R :=
 PCall.wz Tryz.func98 aP [0, 1, 2, 6, 7, 8, 9, 10, 11, 12, 13, 14, 18, 50, 89] (c9 4 (bP eC (zd4 n f es a b) J μ (fun e h => (gI e 8, gB e 9, gI e 10)) [] [0, 1, 2, 8, 9, 10] [])) h
end
section
variable (n f : Bool) (es : LL) (a b : Int)
def zne (R : PV -> Prop) : Prop :=
 PCall qb 97 [Z3 a, Z3 b] fun v => ∃ vs, v = PV.tup vs /\ vs.length = 2 /\ ∃ x, vs.head? = some x /\ ∃ n1, x = Z3 n1 /\ ∃ x1, vs.tail.head? = some x1 /\ ∃ b1, x1 = Zb b1 /\ if b1 = true then R (PV.tup [Z3 n1, Zb true]) else PCall qb 98 [PV.sl n f es, Z3 a, Z3 b] fun v1 => ∃ vs1, v1 = PV.tup vs1 /\ vs1.length = 2 /\ ∃ x2, vs1.head? = some x2 /\ ∃ n2, x2 = Z3 n2 /\ ∃ x3, vs1.tail.head? = some x3 /\ ∃ b2, x3 = Zb b2 /\ R (PV.tup [Z3 n2, Zb b2])
theorem zz1 {R : PV -> Prop} (h : zne n f es a b R) : PCall qb 76 [.sl n f es, .int .i32 a, .int .i32 b] R :=
 PCall.wz Tryz.func76 aP [0, 1, 2, 6, 7, 8, 9, 16] bF h
end
def zd5 (n f : Bool) (es : LL) (n2 f2 : Bool) (ss : LL) (x5 : Int) : Env × Hp := ([(0, LV.pv (PV.sl n f es)), (1, LV.pv (PV.sl n2 f2 ss)), (5, Y6 x5)], [])
section
variable (n f : Bool) (es : LL) (n2 f2 : Bool) (ss : LL) (J : Int -> Prop) (μ : Int -> Nat)
def znf (R : PV -> Prop) : Prop :=
 (aH (zd5 n f es n2 f2 ss (i64.wrap ((↑ss.length : Int) - 1))) /\ J (i64.wrap ((↑ss.length : Int) - 1))) /\ ∀ (x5 : Int), J x5 -> if decide (x5 >= 0) = true then aF ss x5 1 /\ ∃ n1, (ss.getD x5.toNat []).head? = some (Z3 n1) /\ PCall qb 96 [PV.sl n f es, Z3 n1] fun v => ∃ n3, v = Z6 n3 /\ if (n3 == 0) = true then R (Z6 x5) else aH (zd5 n f es n2 f2 ss (i64.wrap (x5 - 1))) /\ J (i64.wrap (x5 - 1)) /\ μ (i64.wrap (x5 - 1)) < μ x5 else R (Z6 (-1 : Int))
theorem zz2 {R : PV -> Prop} (h : znf n f es n2 f2 ss J μ R) : PCall qb 74 [.sl n f es, .sl n2 f2 ss] R :=
 PCall.wz Tryz.func74 aP [0, 1, 4, 5, 10, 19] (c9 2 (bP cz1 (zd5 n f es n2 f2 ss) J μ (fun e h => (((gI e 5), ()))) [] [0, 1, 5] [])) h
end
section
variable (n f : Bool) (es : LL) (n2 f2 : Bool) (ss : LL) (k r : Int)
def zng (R : PV -> Prop) : Prop :=
 if (k == i64.wrap ((↑ss.length : Int) - 1)) = true then R (Zb true) else aF ss (i64.wrap ((↑ss.length : Int) - 1)) 1 /\ ∃ n1, (ss.getD (i64.wrap ((↑ss.length : Int) - 1)).toNat []).head? = some (Z3 n1) /\ PCall qb 96 [PV.sl n f es, Z3 n1] fun v => ∃ n3, v = Z6 n3 /\ PCall qb 96 [PV.sl n f es, Z3 r] fun v1 => ∃ n4, v1 = Z6 n4 /\ R (Zb (decide (n3 < n4)))
theorem zz3 {R : PV -> Prop} (h : zng n f es ss k r R) : PCall qb 75 [.sl n f es, .sl n2 f2 ss, .int .i64 k, .int .i32 r] R :=
 PCall.wz Tryz.func75 aP [0, 1, 2, 3, 8, 13] bF h
end
def zd6 (n f : Bool) (es : LL) (n2 f2 : Bool) (ss : LL) (x6 : Int) (n_0 : Bool) (s_0 : LL) : Env × Hp := ([(0, LV.pv (PV.sl n f es)), (1, LV.pv (PV.sl n2 f2 ss)), (5, LV.own 0), (6, Y6 x6)], [.sl (21, 1) true n_0 s_0])
section
variable (n f : Bool) (es : LL) (n2 f2 : Bool) (ss : LL) (J : Int -> Bool -> LL -> Prop) (μ : Int -> Bool -> LL -> Nat)
def znh (R : PV -> Prop) : Prop :=
 (aH (zd6 n f es n2 f2 ss (0 : Int) true []) /\ J (0 : Int) true []) /\ ∀ (x6 : Int) (n_0 : Bool) (s_0 : LL), J x6 n_0 s_0 ->
 let K3 := fun (y0_ : Int) (y1_ : Bool) (y2_ : LL) => aH (zd6 n f es n2 f2 ss y0_ y1_ y2_) /\ J y0_ y1_ y2_ /\ μ y0_ y1_ y2_ < μ x6 n_0 s_0; if decide (x6 < (↑ss.length : Int)) = true then PCall qb 74 [PV.sl n f es, PV.sl n_0 false s_0] fun v => ∃ n1, v = Z6 n1 /\ true = true /\
 let V1 := aF ss x6 1 /\ ∃ n7, (ss.getD x6.toNat []).head? = some (Z3 n7) /\ (aR [[Z3 n7]] 1 /\ (s_0.length + 1) * 4 <= 140737488355328) /\ K3 (i64.wrap (x6 + 1)) (n_0 && false) (s_0 ++ [[Z3 n7]]); if decide (n1 >= 0) = true then aF ss x6 1 /\ ∃ n3, (ss.getD x6.toNat []).head? = some (Z3 n3) /\ PCall qb 75 [PV.sl n f es, PV.sl n_0 false s_0, Z6 n1, Z3 n3] fun v1 => ∃ b, v1 = Zb b /\ true = true /\ if b = true then aF s_0 n1 1 /\ ∃ n4, (qp 0 (s_0.getD n1.toNat [])).head? = some (Z3 n4) /\ aF ss x6 1 /\ ∃ n5, (ss.getD x6.toNat []).head? = some (Z3 n5) /\ PCall qb 76 [PV.sl n f es, Z3 n4, Z3 n5] fun v2 => ∃ vs, v2 = PV.tup vs /\ vs.length = 2 /\ ∃ x, vs.head? = some x /\ ∃ n6, x = Z3 n6 /\ ∃ x1, vs.tail.head? = some x1 /\ ∃ b1, x1 = Zb b1 /\ if b1 = true then aF s_0 n1 1 /\ (1 = 1 /\ 1 <= (s_0.getD n1.toNat []).length) /\ K3 (i64.wrap (x6 + 1)) n_0 (s_0.set n1.toNat (Z3 n6 :: zq (qp 1 (s_0.getD n1.toNat [])))) else V1 else V1 else V1 else R (PV.sl n_0 false s_0)
theorem zz4 {R : PV -> Prop} (h : znh n f es n2 f2 ss J μ R) : PCall qb 51 [.sl n f es, .sl n2 f2 ss] R :=
 PCall.wz Tryz.func51 aP [0, 1, 4, 5, 6, 7, 8, 9, 13, 30, 44] (c9 3 (bP eC (zd6 n f es n2 f2 ss) J μ (fun e h => (gI e 6, oN h 0, oS h 0)) [(5, 21, 1)] [0, 1, 5, 6] [])) h
end
section
variable (n f : Bool) (es : LL) (n2 f2 : Bool) (ss : LL)
def zni (R : PV -> Prop) : Prop :=
 PCall qb 52 [PV.sl n f es, PV.sl n2 f2 ss] fun v => ∃ n1 f1 es1, v = PV.sl n1 f1 es1 /\ PCall qb 51 [PV.sl n f es, PV.sl n1 f1 es1] fun v1 => ∃ n3 f3 es2, v1 = PV.sl n3 f3 es2 /\ R (PV.sl n3 f3 es2)
theorem zz5 {R : PV -> Prop} (h : zni n f es n2 f2 ss R) : PCall qb 24 [.sl n f es, .sl n2 f2 ss] R :=
 PCall.wz Tryz.func24 aP [0, 1, 4] bF h
end
end Go.Eng
set_option linter.unusedSimpArgs false
namespace Go.Eng
open Go Go.Proofs Go.Eng.Rows Go.Eng.Trie Go.Eng.Srt
theorem zz6 {r : Int} (hs : cD r = false) : ACall qb 100 [.pv (.int .i32 r)] [] fun r1 h' => r1 = .pv (.sl true true []) /\ h' = [] := by
 refine ziq _ ?_; unfold za8;refine (pIs r).mono ?_;rintro _ rfl;refine ⟨_, rfl, ?_⟩;rw [hs];exact bV rfl ⟨rfl, rfl⟩
theorem zz7 {a b : Int} (ha : -2147483648 <= a /\ a <= 2147483647) (hb : -2147483648 <= b /\ b <= 2147483647) : PCall qb 97 [.int .i32 a, .int .i32 b] fun v => v = lC (eQ a b) := by
 refine zzz _ _ ?_; unfold znc;have wa : i64.wrap a = a := aC (by omega) (by omega);have wb : i64.wrap b = b := aC (by omega) (by omega);rw [wa, wb];refine aD (fun hc => ?_) (fun hc => ?_)
 ·simp only [qk, aB, ge_iff_le] at hc;have w1 : i64.wrap (a - 4352) = a - 4352 := aC (by omega) (by omega);have w2 : i64.wrap ((a - 4352) * 588) = (a - 4352) * 588 := aC (by omega) (by omega);have w3 : i64.wrap (44032 + (a - 4352) * 588) = 44032 + (a - 4352) * 588 := aC (by omega) (by omega);have w4 : i64.wrap (b - 4449) = b - 4449 := aC (by omega) (by omega);have w5 : i64.wrap ((b - 4449) * 28) = (b - 4449) * 28 := aC (by omega) (by omega);rw [w1, w2, w3, w4, w5];have w6 : i64.wrap (44032 + (a - 4352) * 588 + (b - 4449) * 28) = 44032 + (a - 4352) * 588 + (b - 4449) * 28 := aC (by omega) (by omega);rw [w6];have w7 : i32.wrap (44032 + (a - 4352) * 588 + (b - 4449) * 28) = 44032 + (a - 4352) * 588 + (b - 4449) * 28 := dB (by omega) (by omega);rw [w7];unfold eQ;rw [if_pos (by omega)];simp only [lC];rw [show 44032 + (a - 4352) * 588 + (b - 4449) * 28 = 44032 + ((a - 4352) * 21 + (b - 4449)) * 28 by omega]
 ·simp only [qk, aB, ge_iff_le] at hc;have hn : ¬ ((4352 <= a /\ a < 4371) /\ 4449 <= b /\ b < 4470) := by omega
  have fin : ∀ (l : List (List PV)), (((l.length : Int) = 2 ↔ (cD a = true /\ (a - 44032) % 28 = 0))) -> (if (((l.length : Int)) == 2 && decide (b >= 4520) && decide (b <= 4546)) = true then (PV.tup [.int .i32 (i32.wrap (a + i32.wrap (b - 4519))), .bool true] : PV) = lC (eQ a b) else (PV.tup [.int .i32 0, .bool false] : PV) = lC (eQ a b)) := fun l hl => by
   refine aD (fun h2 => ?_) (fun h2 => ?_)
   ·simp only [qk, aB, beq_iff_eq, ge_iff_le] at h2;have hs := hl.1 h2.1.1;have hr := hs.1;simp only [cD, qk, aB] at hr;have w1 : i32.wrap (b - 4519) = b - 4519 := dB (by omega) (by omega);have w2 : i32.wrap (a + (b - 4519)) = a + (b - 4519) := dB (by omega) (by omega);rw [w1, w2];unfold eQ; rw [if_neg hn, if_pos ⟨hs, by omega, by omega⟩]; rfl
   ·simp only [qk, aB, beq_iff_eq, ge_iff_le] at h2;unfold eQ; rw [if_neg hn, if_neg (fun h => h2 ⟨⟨hl.2 h.1, by omega⟩, by omega⟩)]; rfl
  cases hs : cD a with
  | false =>
    refine (zz6 hs).mono ?_;rintro _ _ ⟨rfl, rfl⟩;exact .inr ⟨(true, []), ⟨rfl, rfl⟩, trivial, fin [] (by rw [hs]; simp)⟩
  | true =>
    have hl : ((aA (eJ a)).length : Int) = 2 ↔ (cD a = true /\ (a - 44032) % 28 = 0) := by
     rw [bY, hs];unfold eJ;split <;> simp [*]
    refine (zcu hs).mono ?_;rintro r1 h' (⟨nl, rfl, rfl⟩ | ⟨rfl, rfl⟩)
    ·exact .inl ⟨(nl, _), ⟨rfl, rfl⟩, trivial, fin _ hl⟩
    ·exact .inr ⟨(false, _), ⟨rfl, rfl⟩, trivial, fin _ hl⟩
section
variable {rows : List Row}
def qR (o : Option Int) : Int := o.getD 0
theorem zz8 (hp : dN rows) (h1 : eP rows) (n f : Bool) {a b : Int} (hl : rows.length < 1000000) (ha : -2147483648 <= a /\ a <= 2147483647) (hb : -2147483648 <= b /\ b <= 2147483647) :
 PCall qb 98 [.sl n f (bK rows), .int .i32 a, .int .i32 b] fun v => v = lC (mR rows a b) := by
 refine zz0 _ _ _ _ _ (fun x8 x9 i => (0 <= i /\ i <= rows.length) /\ x8 = qR ((rows.take i.toNat).foldl (Rows.cmpS rows a b) none) /\ x9 = ((rows.take i.toNat).foldl (Rows.cmpS rows a b) none).isSome) (fun _ _ i => rows.length - i.toNat) ?_;unfold znd;refine ⟨⟨rfl, ⟨Int.le_refl _, by omega⟩, rfl, rfl⟩, ?_⟩;rintro x8 x9 i ⟨⟨i0, i1⟩, h8, h9⟩;have wa : i64.wrap a = a := aC (by omega) (by omega);have wb : i64.wrap b = b := aC (by omega) (by omega);rw [wa, wb];refine aD (fun hc => ?_) (fun hc => ?_)
 ·simp only [aB, jQ] at hc;have hi : i.toNat < rows.length := by omega
  have hw : i64.wrap (i + 1) = i + 1 := aC (by omega) (by omega);have hg : (bK rows).getD i.toNat [] = oL rows[i.toNat] := c7 hi;have hix : aF (bK rows) i 5 := cU qL i0 (by omega);have hmem := qf hi
  have hst : (rows.take (i + 1).toNat).foldl (Rows.cmpS rows a b) none = Rows.cmpS rows a b ((rows.take i.toNat).foldl (Rows.cmpS rows a b) none) rows[i.toNat] := by
   rw [show (i + 1).toNat = i.toNat + 1 by omega, dE hi, List.foldl_append]; rfl
  rw [hw];generalize (rows.take i.toNat).foldl (Rows.cmpS rows a b) none = o at *;generalize rows[i.toNat] = x at *
  have skip : eE rows a b x = false -> (0 <= i + 1 /\ i + 1 <= rows.length) /\ x8 = qR ((rows.take (i + 1).toNat).foldl (Rows.cmpS rows a b) none) /\ x9 = ((rows.take (i + 1).toNat).foldl (Rows.cmpS rows a b) none).isSome := fun h => by
   rw [hst]; unfold Rows.cmpS; rw [h]; exact ⟨⟨by omega, by omega⟩, h8, h9⟩
  have hmu : rows.length - (i + 1).toNat < rows.length - i.toNat := by omega
  refine ⟨hix, x.kind, by rw [hg]; rfl, aD (fun c1 => ?_) (fun c1 => ?_)⟩
  ·simp only [bne_iff_ne, ne_eq] at c1;exact ⟨rfl, skip (by simp [eE, c1]), hmu⟩
  simp only [bne_iff_ne, ne_eq, qq] at c1;refine ⟨hix, x.a, by rw [hg]; rfl, aD (fun c2 => ?_) (fun c2 => ?_)⟩
  ·simp only [bne_iff_ne, ne_eq] at c2;exact ⟨rfl, skip (by simp [eE, c2]), hmu⟩
  simp only [bne_iff_ne, ne_eq, qq] at c2;refine ⟨hix, x.b, by rw [hg]; rfl, aD (fun c3 => ?_) (fun c3 => ?_)⟩
  ·simp only [qt, bne_iff_ne, ne_eq, beq_iff_eq] at c3;refine ⟨rfl, skip ?_, hmu⟩;rcases c3 with c3 | c3
   ·simp [eE, c3]
   ·simp [eE, c3]
  simp only [qt, bne_iff_ne, ne_eq, beq_iff_eq, not_or, qq] at c3;obtain ⟨hpx, hfr⟩ := vR h1 hmem c1;have wf : i32.wrap x.fr = x.fr := dB (by omega) (by omega);refine ⟨hix, x.fr, by rw [hg]; rfl, ?_⟩;rw [wf];refine (wO hp n f x.fr hl (by omega)).mono ?_;rintro _ rfl;rw [hpx, c2, c3.1];refine ⟨_, rfl, rfl, _, rfl, _, rfl, _, rfl, _, rfl, _, rfl, _, rfl, bV (by simp [c3.2]) ?_⟩;refine (zzy hp n f x.fr hl (by omega)).mono ?_;rintro _ rfl;refine ⟨_, rfl, ?_⟩;cases ho : eD rows x.fr with
  | true => exact bZ (by simp) ⟨rfl, skip (by simp [eE, ho]), hmu⟩
  | false =>
    have hcb : eE rows a b x = true := by simp [eE, c1, c2, c3.1, c3.2, ho]
    cases o with
    | none =>
      simp only [qy] at h9;refine bV (by rw [h9]; rfl) ⟨rfl, ⟨⟨by omega, by omega⟩, ?_, ?_⟩, hmu⟩
      ·rw [hst]; simp [Rows.cmpS, hcb, qR]
      ·rw [hst]; simp [Rows.cmpS, hcb]
    | some r =>
      simp only [qy] at h9;simp only [qR, Option.getD] at h8;refine aD (fun c4 => ?_) (fun c4 => ?_)
      ·rw [h9, h8] at c4;simp at c4;refine ⟨rfl, ⟨⟨by omega, by omega⟩, ?_, ?_⟩, hmu⟩
       ·rw [hst]; simp [Rows.cmpS, hcb, qR, c4]
       ·rw [hst]; simp [Rows.cmpS, hcb, c4]
      ·rw [h9, h8] at c4;simp at c4;refine ⟨rfl, ⟨⟨by omega, by omega⟩, ?_, ?_⟩, hmu⟩
       ·have hlt : ¬ x.fr < r := by omega
        rw [hst, h8]; simp [Rows.cmpS, hcb, qR, hlt]
       ·rw [hst, h9]; simp [Rows.cmpS, hcb]; split <;> rfl
 ·simp only [aB, jQ] at hc;rw [qg (by omega)] at h8 h9;unfold mR;rw [h8, h9];cases rows.foldl (Rows.cmpS rows a b) none <;> rfl
theorem zz9 (hp : dN rows) (h1 : eP rows) (n f : Bool) {a b : Int} (hl : rows.length < 1000000) (ha : -2147483648 <= a /\ a <= 2147483647) (hb : -2147483648 <= b /\ b <= 2147483647) :
 PCall qb 76 [.sl n f (bK rows), .int .i32 a, .int .i32 b] fun v => v = lC (fI rows a b) := by
 refine zz1 _ _ _ _ _ ?_; unfold zne;refine (zz7 ha hb).mono ?_;rintro _ rfl;unfold fI;cases eQ a b with
 | some r => exact ⟨_, rfl, rfl, _, rfl, _, rfl, _, rfl, _, rfl, bV rfl rfl⟩
 | none =>
   refine ⟨_, rfl, rfl, _, rfl, _, rfl, _, rfl, _, rfl, bZ (by simp) ?_⟩;refine (zz8 hp h1 n f hl ha hb).mono ?_;rintro _ rfl;cases mR rows a b with
   | none => exact ⟨_, rfl, rfl, _, rfl, _, rfl, _, rfl, _, rfl, rfl⟩
   | some r => exact ⟨_, rfl, rfl, _, rfl, _, rfl, _, rfl, _, rfl, rfl⟩
theorem z0a {st : CSt} (h0 : st.s = none -> st.P = []) (h1 : ∀ a, st.s = some a -> aG rows 1 a = 0) (h2 : ∀ m ∈ st.M, aG rows 1 m ≠ 0) :
 (dF st = -1 /\ ∀ k (h : k < st.out.length), aG rows 1 st.out[k] ≠ 0) ∨ (∃ k : Nat, dF st = (k : Int) /\ ∃ h : k < st.out.length, aG rows 1 st.out[k] = 0 /\ ∀ j (hj : j < st.out.length), k < j -> aG rows 1 st.out[j] ≠ 0) := by
 cases hs : st.s with
 | none =>
   have hP := h0 hs;have ho : st.out = st.M := by simp [CSt.out, hs, hP]
   refine .inl ⟨by simp [dF, hs], fun k hk => h2 _ ?_⟩;have := qf hk;rw [<- ho]; exact this
 | some a =>
   have ho : st.out = st.P ++ a :: st.M := by simp [CSt.out, hs]
   refine .inr ⟨st.P.length, by simp [dF, hs], by rw [ho]; simp, ?_, fun j hj hlt => h2 _ ?_⟩
   ·simp only [ho, qr (qi _), Nat.sub_self, List.getElem_cons_zero]; exact h1 a hs
   ·simp only [ho];rw [qr (by omega), List.getElem_cons];rw [dif_neg (by omega)];exact qf _
theorem z0b (n f n2 f2 : Bool) (hl : rows.length < 1000000) (L : List Int) (hr : R32 L) (hL : L.length < 1000000000000) :
 PCall qb 74 [.sl n f (bK rows), .sl n2 f2 (aA L)] fun v => ∃ x : Int, v = .int .i64 x /\ ((x = -1 /\ ∀ k (h : k < L.length), aG rows 1 L[k] ≠ 0) ∨ (∃ k : Nat, x = (k : Int) /\ ∃ h : k < L.length, aG rows 1 L[k] = 0 /\ ∀ j (hj : j < L.length), k < j -> aG rows 1 L[j] ≠ 0)) := by
 refine zz2 _ _ _ _ _ _ (fun x => (-1 <= x /\ x < L.length) /\ ∀ j (hj : j < L.length), x < j -> aG rows 1 L[j] ≠ 0) (fun x => (x + 1).toNat) ?_;unfold znf;have hw : i64.wrap ((aA L).length - 1) = L.length - 1 := by rw [bY]; exact aC (by omega) (by omega)
 rw [hw];refine ⟨⟨rfl, ⟨by omega, by omega⟩, fun j hj h => by omega⟩, ?_⟩;rintro x ⟨⟨x0, x1⟩, hx⟩;refine aD (fun hc => ?_) (fun hc => ?_)
 ·simp only [aB, ge_iff_le] at hc;have hi : x.toNat < L.length := by omega
  obtain ⟨g1, g2⟩ := iE hc hi;have hw1 : i64.wrap (x - 1) = x - 1 := aC (by omega) (by omega);refine ⟨g1, L[x.toNat], by rw [g2]; rfl, ?_⟩;refine (wN n f _ hl (hr _ (qf hi))).mono ?_;rintro _ rfl;refine ⟨_, rfl, ?_⟩;rw [hw1];refine aD (fun h0 => ?_) (fun h0 => ?_)
  ·simp only [beq_iff_eq] at h0;exact ⟨x, rfl, .inr ⟨x.toNat, by omega, hi, h0, fun j hj hlt => hx j hj (by omega)⟩⟩
  ·simp only [beq_iff_eq] at h0;refine ⟨rfl, ⟨⟨by omega, by omega⟩, fun j hj hlt => ?_⟩, by dsimp only; omega⟩;by_cases he : j = x.toNat
   ·subst he; exact h0
   ·exact hx j hj (by omega)
 ·simp only [aB, ge_iff_le] at hc;exact ⟨-1, rfl, .inl ⟨rfl, fun k hk => hx k hk (by omega)⟩⟩
theorem z0c (n f n2 f2 : Bool) (hl : rows.length < 1000000) (L : List Int) (hr : R32 L) (hL : L.length < 1000000000000) (h0 : 0 < L.length) (k : Int) {r : Int} (hx : -2147483648 <= r /\ r <= 2147483647) :
 PCall qb 75 [.sl n f (bK rows), .sl n2 f2 (aA L), .int .i64 k, .int .i32 r] fun v => v = .bool (decide (k = L.length - 1) || decide (dO (aG rows 1) L < aG rows 1 r)) := by
 refine zz3 _ _ _ _ _ _ _ _ ?_; unfold zng;have hw : i64.wrap ((aA L).length - 1) = L.length - 1 := by rw [bY]; exact aC (by omega) (by omega)
 rw [hw];refine aD (fun hc => ?_) (fun hc => ?_)
 ·simp only [beq_iff_eq] at hc; simp [hc]
 ·simp only [beq_iff_eq] at hc;have hi : ((L.length : Int) - 1).toNat < L.length := by omega
  obtain ⟨g1, g2⟩ := iE (l := L) (i := (L.length : Int) - 1) (by omega) hi;refine ⟨g1, L[((L.length : Int) - 1).toNat], by rw [g2]; rfl, ?_⟩;refine (wN n f _ hl (hr _ (qf hi))).mono ?_;rintro _ rfl;refine ⟨_, rfl, ?_⟩;refine (wN n f _ hl hx).mono ?_;rintro _ rfl;refine ⟨_, rfl, ?_⟩
  have : dO (aG rows 1) L = aG rows 1 L[((L.length : Int) - 1).toNat] := by
   unfold dO;rw [List.getLast?_eq_getElem?, qn (by omega)];simp only;congr 2;omega
  rw [this]; simp [hc]
theorem z0d (hp : dN rows) (h1 : eP rows) (hs0 : ∀ (d : List Int) a, (bT rows d).s = some a -> aG rows 1 a = 0) (n f n2 f2 : Bool) (hl : rows.length < 1000000) (L : List Int) (hr : R32 L) (hL : L.length < 1000000000000) :
 PCall qb 51 [.sl n f (bK rows), .sl n2 f2 (aA L)] fun x => ∃ n f, x = .sl n f (aA (iC rows L)) := by
 refine zz4 _ _ _ _ _ _ (fun i _ s => (0 <= i /\ i <= L.length) /\ s = aA (bT rows (L.take i.toNat)).out) (fun i _ _ => L.length - i.toNat) ?_;unfold znh;refine ⟨⟨rfl, ⟨Int.le_refl _, by omega⟩, rfl⟩, ?_⟩;rintro i n0 _ ⟨⟨i0, i1⟩, rfl⟩;refine aD (fun hc => ?_) (fun hc => ?_)
 ·simp only [aB, bY] at hc;have hi : i.toNat < L.length := by omega
  obtain ⟨g1, g2⟩ := iE i0 hi;have hx := hr _ (qf hi);have hw : i64.wrap (i + 1) = i + 1 := aC (by omega) (by omega);rw [hw];have hlen := zaj rows (L.take i.toNat);have hrng := zak h1 (L.take i.toNat);have hnz := zl6 (rows := rows) (d := L.take i.toNat);have hnP := sW (rows := rows) (d := L.take i.toNat);have hsk := hs0 (L.take i.toNat);rw [ql] at hlen;unfold iC at hlen hrng
  have next : ∀ st2, cV rows (bT rows (L.take i.toNat)) L[i.toNat] = st2 -> (0 <= i + 1 /\ i + 1 <= L.length) /\ aA st2.out = aA (bT rows (L.take (i + 1).toNat)).out := fun st2 he => by
   rw [show (i + 1).toNat = i.toNat + 1 by omega, dE hi, iD, he]; exact ⟨⟨by omega, by omega⟩, rfl⟩
  generalize bT rows (L.take i.toNat) = st at *;have hmu : L.length - (i + 1).toNat < L.length - i.toNat := by omega
  have hr2 : R32 st.out := fun y hy => by
   rcases hrng y hy with h | h
   ·exact hr y (List.mem_of_mem_take h)
   ·omega
  have hsz : aR [[PV.int .i32 L[i.toNat]]] 1 /\ ((aA st.out).length + 1) * 4 <= 140737488355328 := ⟨eT [_], by rw [bY]; omega⟩
  have app : cV rows st L[i.toNat] = cX (aG rows 1) st L[i.toNat] -> (0 <= i + 1 /\ i + 1 <= L.length) /\ aA st.out ++ [[PV.int .i32 L[i.toNat]]] = aA (bT rows (L.take (i + 1).toNat)).out := fun he => by
   obtain ⟨k1, k2⟩ := next _ he
   rw [mS, j8] at k2;exact ⟨k1, k2⟩
  refine (z0b n f n0 false hl st.out hr2 (by omega)).mono ?_;rintro _ ⟨x, rfl, hst⟩
  have hxs : x = dF st := by
   rcases z0a hnP hsk hnz with ⟨e, h⟩ | ⟨k, e, hk, h, h'⟩
   ·rcases hst with ⟨e2, _⟩ | ⟨k2, e2, hk2, q, _⟩
    ·omega
    ·exact absurd q (h k2 hk2)
   ·rcases hst with ⟨e2, q⟩ | ⟨k2, e2, hk2, q, q'⟩
    ·exact absurd h (q k hk)
    ·rcases Nat.lt_trichotomy k k2 with hlt | rfl | hlt
     ·exact absurd q (h' k2 hk2 hlt)
     ·omega
     ·exact absurd h (q' k hk hlt)
  clear hst;subst hxs;refine ⟨_, rfl, rfl, aD (fun hf => ?_) (fun hf => ?_)⟩
  ·simp only [aB, ge_iff_le] at hf;cases hs : st.s with
   | none => simp [dF, hs] at hf
   | some a =>
     have hsi : dF st = st.P.length := by simp [dF, hs]
     have hol : st.out.length = st.P.length + 1 + st.M.length := by simp [CSt.out, hs]; omega
     refine ⟨g1, L[i.toNat], by rw [g2]; rfl, ?_⟩;refine (z0c n f n0 false hl st.out hr2 (by omega) (by omega) (dF st) hx).mono ?_;rintro _ rfl
     have hfree : (decide (dF st = st.out.length - 1) || decide (dO (aG rows 1) st.out < aG rows 1 L[i.toNat])) = true ↔ (st.M = [] ∨ dO (aG rows 1) st.M < aG rows 1 L[i.toNat]) := by
      simp only [qt, aB];by_cases hM : st.M = []
      ·refine ⟨fun _ => .inl hM, fun _ => .inl ?_⟩;rw [hsi, hol, hM]; simp
      ·obtain ⟨D, m, hDm⟩ := (List.eq_nil_or_concat _).resolve_left hM
       have e : dO (aG rows 1) st.out = dO (aG rows 1) st.M := by
        have e2 : st.out = (st.P ++ a :: D) ++ [m] := by simp [CSt.out, hDm, hs]
        rw [e2, hDm, List.concat_eq_append, sV, sV]
       rw [e];refine or_congr ⟨fun h => ?_, fun h => absurd h hM⟩ Iff.rfl;rw [hsi, hol] at h;exact qj (by omega)
     refine ⟨_, rfl, rfl, aD (fun hfr => ?_) (fun hfr => ?_)⟩
     ·have hfr := hfree.1 hfr;have hat : st.out[st.P.length]'(by omega) = a := by simp [CSt.out, hs]
      obtain ⟨k1, k2⟩ := iE (l := st.out) (i := dF st) (by omega) (by omega);have hta : (dF st).toNat = st.P.length := by omega
      have k3 : (aA st.out).getD (dF st).toNat [] = [PV.int .i32 a] := by
       rw [k2]; simp only [hta, hat]
      have ha : -2147483648 <= a /\ a <= 2147483647 := hr2 a (by simp [CSt.out, hs]);refine ⟨k1, a, by rw [k3]; rfl, g1, L[i.toNat], by rw [g2]; rfl, ?_⟩;refine (zz9 hp h1 n f hl ha hx).mono ?_;rintro _ rfl;cases hpc : fI rows a L[i.toNat] with
      | some c =>
        refine ⟨_, rfl, rfl, _, rfl, _, rfl, _, rfl, _, rfl, bV rfl ⟨k1, ⟨rfl, by rw [k3]; exact qi _⟩, rfl, ?_, by dsimp only; omega⟩⟩;rw [k3, hta]
        have he : cV rows st L[i.toNat] = ⟨st.P, some c, st.M⟩ := by
         unfold cV; rw [hs]; simp only; rw [if_pos hfr, hpc]
        have e2 : (aA st.out).set st.P.length [PV.int .i32 c] = aA (CSt.out ⟨st.P, some c, st.M⟩) := by
         simp [CSt.out, hs, aA]
        obtain ⟨q1, q2⟩ := next _ he
        exact ⟨q1, e2.trans q2⟩
      | none =>
        have he : cV rows st L[i.toNat] = cX (aG rows 1) st L[i.toNat] := by
         unfold cV; rw [hs]; simp only; rw [if_pos hfr, hpc]
        exact ⟨_, rfl, rfl, _, rfl, _, rfl, _, rfl, _, rfl, bZ (by simp) ⟨g1, L[i.toNat], by rw [g2]; rfl, hsz, rfl, app he, by dsimp only; omega⟩⟩
     ·have hfr := fun h => hfr (hfree.2 h)
      have he : cV rows st L[i.toNat] = cX (aG rows 1) st L[i.toNat] := by
       unfold cV; rw [hs]; simp only; rw [if_neg hfr]
      exact ⟨g1, L[i.toNat], by rw [g2]; rfl, hsz, rfl, app he, by dsimp only; omega⟩
  ·simp only [aB, ge_iff_le] at hf
   have hs : st.s = none := by
    cases hs : st.s with
    | none => rfl
    | some a => exact absurd (by simp [dF, hs]) hf
   have he : cV rows st L[i.toNat] = cX (aG rows 1) st L[i.toNat] := by
    unfold cV; rw [hs]
   exact ⟨g1, L[i.toNat], by rw [g2]; rfl, hsz, rfl, app he, by dsimp only; omega⟩
 ·simp only [aB, bY] at hc;rw [qg (by omega)];exact ⟨_, _, rfl⟩
theorem z0e (hp : dN rows) (h1 : eP rows) (hk : iP rows) (hs0 : ∀ (d : List Int) a, (bT rows d).s = some a -> aG rows 1 a = 0) (n f n2 f2 : Bool) (hl : rows.length < 1000000) (L : List Int) (hr : R32 L) (hL : L.length < 1000000) :
 PCall qb 24 [.sl n f (bK rows), .sl n2 f2 (aA L)] fun x => ∃ n f, x = .sl n f (aA (dT rows L)) := by
 refine zz5 _ _ _ _ _ _ ?_; unfold zni;refine (zxl hp hk n f n2 f2 hl L hr hL).mono ?_;rintro _ ⟨n1, f1, rfl⟩;refine ⟨_, _, _, rfl, ?_⟩;refine (z0d hp h1 hs0 n f n1 f1 hl _ (zaf hk hp hr) (zl1 hk hL)).mono ?_;rintro _ ⟨n3, f3, rfl⟩;exact ⟨_, _, _, rfl, _, _, rfl⟩
end
end Go.Eng
namespace Go.Eng
open Go Go.Proofs Go.Eng.Rows Go.Eng.Srt
theorem z0f (n f n2 f2 : Bool) (L : List Int) (hr : R32 L) (hL : L.length < 1000000) : PCall qb 24 [.sl n f (bK tab), .sl n2 f2 (aA L)] fun x => ∃ n f, x = .sl n f (aA (dT tab L)) := z0e wX tG wY zzw n f n2 f2 zdn L hr hL
theorem z0g (l m : List Int) (hl : l.length <= 40) (hm : m.length <= 40) : ((bC l).length + 1) * ((bC m).length + 1) <= 1048576 /\ (eR (bC l) (bC m)).length < 100000 /\ (∀ s ∈ eR (bC l) (bC m), (s.kind = 0 ∨ s.kind = 1 ∨ s.kind = 2) /\ s.text.length < 1000000000 /\ 0 <= s.n /\ s.n <= (1000000 : Nat)) /\
 iS (eR (bC l) (bC m)) = dT tab l /\ iT (eR (bC l) (bC m)) = dT tab m /\ (bC l).length <= 320 /\ (bC m).length <= 320 := by
 have n1 := o0 l;have n2 := o0 m
 have cnt : ∀ x : List Int, (bC x).length <= (dT tab x).length := fun x => by
  have : ∀ k i, (fK tab (dT tab x) k i).length <= (dT tab x).length - i := by
   intro k
   induction k with
   | zero => intro i; exact qm _
   | succ k ih =>
     intro i;rw [fK];split
     ·rename_i hi;obtain ⟨x1, x2, _⟩ := mT (rows := tab) hi;have := ih (cE tab (dT tab x) i);rw [qc]; omega
     ·exact qm _
  exact Nat.le_trans (this _ 0) (qi _)
 have c1 := cnt l;have c2 := cnt m;obtain ⟨s1, s2, s3, s4⟩ := zia (bC l) (bC m);have fl : ∀ x : List Int, (bC x).flatten = dT tab x := fun x => zsh tab _;rw [fl] at s2 s3;have hm2 : ((bC l).length + 1) * ((bC m).length + 1) <= 321 * 321 := Nat.mul_le_mul (by omega) (by omega)
 -- the bounds of what is laid
 have bd : ∀ (M : Nat) (ops : List (Int × List Int)) (S : List DStep) (a b : Nat), BdS S a b -> (∀ o ∈ ops, o.2.length <= M) -> BdS (ops.foldl dH S) (a + ops.length) (b + ops.length * M) := by
  intro M ops
  induction ops with
  | nil => intro S a b h _; simpa using h
  | cons o ops ih =>
    intro S a b h ho;have := ih (dH S o) (a + 1) (b + M) (zm6 (k := o.1) (c := o.2) h (ho o qh)) fun x hx => ho x (qd _ hx);rw [List.foldl_cons, qc];rw [show a + 1 + ops.length = a + (ops.length + 1) by omega, show b + M + ops.length * M = b + (ops.length + 1) * M by rw [Nat.add_mul]; omega] at this;exact this
 have mem : ∀ (n : Nat) (A B : List (List Int)), A.length + B.length <= n -> (bN A B).length <= A.length + B.length /\ ∀ o ∈ bN A B, o.2 ∈ A ∨ o.2 ∈ B := by
  intro n
  induction n with
  | zero =>
    intro A B h;have : A = [] := qj (by omega);have : B = [] := qj (by omega);subst A; subst B;rw [sZ]; exact ⟨qi _, fun o ho => by cases ho⟩
  | succ n ih =>
    intro A B h
    match A, B with
    | [], [] => rw [sZ]; exact ⟨qi _, fun o ho => by cases ho⟩
    | a :: xs, [] =>
      obtain ⟨i1, i2⟩ := ih xs [] (by simp only [qc, qv] at h ⊢; omega);rw [vV];refine ⟨by simp only [qc] at i1 ⊢; omega, fun o ho => ?_⟩;rcases List.mem_cons.1 ho with rfl | ho
      ·exact .inl qh
      ·exact (i2 o ho).imp (qd _) id
    | [], b :: bs =>
      obtain ⟨i1, i2⟩ := ih [] bs (by simp only [qc, qv] at h ⊢; omega);rw [vW];refine ⟨by simp only [qc] at i1 ⊢; omega, fun o ho => ?_⟩;rcases List.mem_cons.1 ho with rfl | ho
      ·exact .inr qh
      ·exact (i2 o ho).imp id (qd _)
    | a :: xs, b :: bs =>
      rw [s6];simp only [qc] at h;split
      ·obtain ⟨i1, i2⟩ := ih xs bs (by omega);refine ⟨by simp only [qc] at i1 ⊢; omega, fun o ho => ?_⟩;rcases List.mem_cons.1 ho with rfl | ho
       ·exact .inl qh
       ·exact (i2 o ho).imp (qd _) (qd _)
      ·split
       ·obtain ⟨i1, i2⟩ := ih xs (b :: bs) (by simp only [qc]; omega);refine ⟨by simp only [qc] at i1 ⊢; omega, fun o ho => ?_⟩;rcases List.mem_cons.1 ho with rfl | ho
        ·exact .inl qh
        ·exact (i2 o ho).imp (qd _) id
       ·obtain ⟨i1, i2⟩ := ih (a :: xs) bs (by simp only [qc]; omega);refine ⟨by simp only [qc] at i1 ⊢; omega, fun o ho => ?_⟩;rcases List.mem_cons.1 ho with rfl | ho
        ·exact .inr qh
        ·exact (i2 o ho).imp id (qd _)
 obtain ⟨m1, m2⟩ := mem _ (bC l) (bC m) (qi _);have o1 := tK l (by omega);have o2 := tK m (by omega);have hb := bd 100000 (bN (bC l) (bC m)) [] 0 0 zm5 fun o ho => (m2 o ho).elim (fun h => (o1 _ h).2) fun h => (o2 _ h).2;rw [Nat.zero_add, Nat.zero_add] at hb;obtain ⟨b1, b2⟩ := hb;have hlen : (eR (bC l) (bC m)).length <= (bN (bC l) (bC m)).length := b1;have hmul : (bN (bC l) (bC m)).length * 100000 <= 640 * 100000 := Nat.mul_le_mul_right _ (by omega);refine ⟨by omega, by omega, fun s hs => ?_, s2, s3, by omega, by omega⟩;have := b2 s hs;exact ⟨(s1 s hs).1, by omega, this.1, by omega⟩
theorem z0h (xs ys : List (List Int)) (a b : List Int) : aU (xs ++ [a]) (ys ++ [b]) = if a = b then aU xs ys + 1 else max (aU xs (ys ++ [b])) (aU (xs ++ [a]) ys) := by
 rw [<- vT (xs ++ [a]), <- vT xs, <- vT xs (ys ++ [b]), <- vT (xs ++ [a]) ys];simp only [List.reverse_append, List.reverse_cons, List.reverse_nil, List.nil_append, List.singleton_append];rw [oI]
def cN (A B : List (List Int)) (i : Nat) : List Int := (List.range (B.length + 1)).map fun k => ((aU (A.take i) (B.take k) : Nat) : Int)
theorem iF (A B : List (List Int)) (i : Nat) : (cN A B i).length = B.length + 1 := by simp [cN]
theorem tL (A B : List (List Int)) (i k : Nat) (h : k <= B.length) : (cN A B i).getD k 0 = (aU (A.take i) (B.take k) : Nat) := by
 simp only [cN, qo, List.getElem?_map];rw [List.getElem?_range (by omega)]; rfl
theorem z0i (A B : List (List Int)) : cN A B 0 = qw (B.length + 1) 0 := by
 apply List.ext_getElem
 ·simp [cN]
 ·intro k h1 h2;simp [cN, oG]
theorem z0j {L : List Int} {m k : Nat} (h : k < m) : (L.take m).getD k 0 = L.getD k 0 := by
 simp only [qo, List.getElem?_take, if_pos h]
theorem zd7 (A B : List (List Int)) (i k : Nat) (h : k + 1 <= B.length) {v : Int} (hv : v = (aU (A.take i) (B.take (k + 1)) : Nat)) : (cN A B i).take (k + 1) ++ [v] = (cN A B i).take (k + 2) := by
 rw [show k + 2 = (k + 1) + 1 by rfl, dE (l := cN A B i) (i := k + 1) (by rw [iF]; omega), hv, <- tL A B i (k + 1) h];congr 1;simp only [qo];rw [qn (by rw [iF]; omega)]; rfl
theorem zd8 (A B : List (List Int)) (i k : Nat) (hi : i < A.length) (hk : k < B.length) : aU (A.take (i + 1)) (B.take (k + 1)) = if A.getD i [] = B.getD k [] then aU (A.take i) (B.take k) + 1 else max (aU (A.take i) (B.take (k + 1))) (aU (A.take (i + 1)) (B.take k)) := by
 have ea : A.getD i [] = A[i] := by simp [qo, hi]
 have eb : B.getD k [] = B[k] := by simp [qo, hk]
 rw [dE hi, dE hk, z0h, ea, eb]
theorem xD (L : List Int) (v : Int) : bE L ++ [[.int .i64 v]] = bE (L ++ [v]) := by simp [bE]
theorem znj (A B : List (List Int)) (i : Nat) : bE ((cN A B i).take 1) = [[.int .i64 0]] := by
 have h := tL A B i 0 (qm _);rw [qx, oH] at h;have hl := iF A B i
 match cN A B i, h, hl with
 | x :: r, h, _ => simp [qo] at h; simp [bE, h]
theorem z0k (A B : List (List Int)) (i : Nat) (h : 1 <= B.length) {v : Int} (hv : v = (aU (A.take i) (B.take 1) : Nat)) : ([[.int .i64 0], [.int .i64 v]] : LL) = bE ((cN A B i).take 2) := by
 rw [<- zd7 A B i 0 h hv, <- xD, znj]; rfl
section
variable {QA QB : List (Bool × Bool × List Int)} {A B : List (List Int)}
theorem z0l (n f n2 f2 : Bool) (hA : QA.map (fun q => q.2.2) = A) (hB : QB.map (fun q => q.2.2) = B) (bA : A.length < 100000) (bB : B.length < 100000) (hl : ∀ c ∈ A, c.length < 100000000) :
 PCall qb 16 [.sl n f (QA.map aS), .sl n2 f2 (QB.map aS)] fun v => v = .int .i64 (aU A B : Nat) := by
 have lA : (QA.map aS).length = A.length := by rw [<- hA, qe, qe]
 have lB : (QB.map aS).length = B.length := by rw [<- hB, qe, qe]
 refine zw0 n f (QA.map aS) n2 f2 (QB.map aS) B.length
  (fun x _ s => ∃ j : Nat, x = j /\ j <= B.length + 1 /\ s = bE (qw j 0)) (fun x _ _ => B.length + 2 - x.toNat)
  (fun _ _ s x => ∃ i : Nat, x = i /\ i <= A.length /\ s = bE (cN A B i)) (fun _ _ _ x => A.length - x.toNat)
  (fun _ _ _ tx _ _ _ _ _ s x y _ t => x = tx /\ ∃ i k : Nat, x = i /\ i < A.length /\ y = k /\ 1 <= k /\ k <= B.length /\ s = bE (cN A B i) /\ t = bE ((cN A B (i + 1)).take (k + 1))) (fun _ _ _ _ y _ _ => B.length - y.toNat) ?_
 unfold zll
 have gA : ∀ i : Nat, i < A.length -> aF (QA.map aS) (i : Int) 1 /\ ∃ n f, (QA.map aS).getD i [] = [.sl n f (aA (A.getD i []))] := fun i h => by
  have := qAt hA (i := (i : Int)) (by omega) (by omega);rwa [qa] at this
 have gB : ∀ k : Nat, k < B.length -> aF (QB.map aS) (k : Int) 1 /\ ∃ n f, (QB.map aS).getD k [] = [.sl n f (aA (B.getD k []))] := fun k h => by
  have := qAt hB (i := (k : Int)) (by omega) (by omega);rwa [qa] at this
 have mA : ∀ i : Nat, i < A.length -> (A.getD i []).length < 1000000000000 := fun i h => by
  have := hl (A.getD i []) (by rw [qo, qn h]; exact qf _);omega
 have w1 : ∀ i : Nat, i < 1000000 -> i64.wrap ((i : Int) + 1) = ((i + 1 : Nat) : Int) := fun i h => by rw [aC (by omega) (by omega)]; omega
 have bl : ∀ i k : Nat, aU (A.take i) (B.take k) < 1000000 := fun i k => Nat.lt_of_le_of_lt (vU _ _) (by rw [ql]; omega);refine ⟨⟨rfl, 0, rfl, qm _, rfl⟩, ?_⟩;rintro _ n0 _ ⟨j, rfl, hj, rfl⟩;rw [lA, lB];refine aD (fun hc => ?_) (fun hc => ?_)
 ·have hc : j <= B.length := by simp only [aB] at hc; omega
  rw [w1 j (by omega), xD, <- List.replicate_succ'];exact ⟨⟨fun e he => by cases he; rfl, by rw [tI, List.length_replicate]; omega⟩, rfl, ⟨j + 1, rfl, by omega, rfl⟩, by dsimp only; omega⟩
 ·have hc : j = B.length + 1 := by simp only [aB] at hc; omega
  subst hc;refine ⟨⟨rfl, 0, rfl, qm _, by rw [z0i]⟩, ?_⟩;rintro n5 f5 _ _ ⟨i, rfl, hi, rfl⟩;refine aD (fun hia => ?_) (fun hia => ?_)
  ·have hia : i < A.length := by simp only [aB] at hia; omega
   have rl : ∀ i, (bE (cN A B i)).length = B.length + 1 := fun i => by rw [tI, iF]
   have rg : ∀ i k, k <= B.length -> aF (bE (cN A B i)) (k : Int) 1 /\ (bE (cN A B i)).getD k [] = [.int .i64 (aU (A.take i) (B.take k) : Nat)] := fun i k h => by
    refine ⟨lE _ _ (by rw [iF]; omega), ?_⟩;rw [i6 _ _ (by rw [iF]; omega), tL A B i k h]
   have tg : ∀ i m k, k < m -> m <= B.length + 1 -> aF (bE ((cN A B i).take m)) (k : Int) 1 /\ (bE ((cN A B i).take m)).getD k [] = [.int .i64 (aU (A.take i) (B.take k) : Nat)] := fun i m k h h2 => by
    have hl : ((cN A B i).take m).length = m := by rw [ql, iF]; omega
    refine ⟨lE _ _ (by omega), ?_⟩;rw [i6 _ _ (by omega), z0j h, tL A B i k (by omega)]
   refine aD (fun hB0 => ?_) (fun hB0 => ?_)
   ·have hB0 : 0 < B.length := by simp only [aB] at hB0; omega
    have w01 : i64.wrap ((0 : Int) + 1) = ((1 : Nat) : Int) := w1 0 (by omega);rw [w01];refine ⟨(rg i 1 hB0).1, (aU (A.take i) (B.take 1) : Nat), by rw [(rg i 1 hB0).2]; rfl, ⟨by decide, by decide, rfl⟩, 0, rfl, ?_⟩;obtain ⟨ga, na, fa, ea⟩ := gA i hia;obtain ⟨gb, nb, fb, eb⟩ := gB 0 hB0;have hst := zd8 A B i 0 hia hB0;have b0 := bl i 0
    have nx : ∀ v : Int, v = (aU (A.take (i + 1)) (B.take 1) : Nat) -> (i : Int) = i /\ ∃ i' k' : Nat, (i : Int) = i' /\ i' < A.length /\ ((1 : Nat) : Int) = k' /\ 1 <= k' /\ k' <= B.length /\ bE (cN A B i) = bE (cN A B i') /\ ([[.int .i64 0], [.int .i64 v]] : LL) = bE ((cN A B (i' + 1)).take (k' + 1)) := fun v hv =>
     ⟨rfl, i, 1, rfl, hia, rfl, qi _, hB0, rfl, z0k A B (i + 1) hB0 hv⟩
    have mu : B.length - (((1 : Nat) : Int)).toNat < B.length := by omega
    have ap : ∀ v : Int, iJ true ([[.int .i64 0]] : LL) [[.int .i64 v]] 1 8 := fun v => ⟨rfl, .inr (by simp), fun e he => (by simp at he; subst he; rfl), fun e he => (by cases he; rfl), by show (1 + 1) * 8 <= 140737488355328; decide⟩;refine aD (fun hm => absurd hm (by simp only [aB]; omega)) (fun hm => ?_);refine ⟨ga, na, fa, _, by rw [qa, ea]; rfl, gb, nb, fb, _, by rw [eb]; rfl, (tH na fa nb fb _ _ (mA i hia)).mono ?_⟩;rintro _ rfl;refine ⟨_, rfl, aD (fun hb => ?_) (fun hb => ?_)⟩
    ·rw [aB] at hb;rw [if_pos hb] at hst;refine ⟨(rg i 0 (qm _)).1, (aU (A.take i) (B.take 0) : Nat), by rw [(rg i 0 (qm _)).2]; rfl, ap _, ⟨rfl, nx _ (by rw [w1 _ b0, hst]), mu⟩, ?_⟩;clear hst b0 nx mu ap ga ea gb eb hm hb;rintro n51 f51 _ _ _ n01 _ ⟨hx, i', k, rfl, hi2, rfl, hk1, hk2, rfl, rfl⟩;have hii : i' = i := by omega
     subst hii;refine aD (fun hk => ?_) (fun hk => ?_)
     ·have hk : k < B.length := by simp only [aB] at hk; omega
      rw [w1 k (by omega)];obtain ⟨ga, na, fa, ea⟩ := gA i' hi2;obtain ⟨gb, nb, fb, eb⟩ := gB k hk;have t1 := tg (i' + 1) (k + 1) k (by omega) (by omega);have hst := zd8 A B i' k hi2 hk;have b1 := bl (i' + 1) (k + 1);have b0 := bl i' k;have sz : ∀ v : Int, aR ([[.int .i64 v]] : LL) 1 /\ ((bE ((cN A B (i' + 1)).take (k + 1))).length + 1) * 8 <= 140737488355328 := fun v => ⟨fun e he => by cases he; rfl, by rw [tI, ql, iF]; omega⟩
      have nx : ∀ v : Int, v = (aU (A.take (i' + 1)) (B.take (k + 1)) : Nat) -> (i' : Int) = i' /\ ∃ i'' k' : Nat, (i' : Int) = i'' /\ i'' < A.length /\ ((k + 1 : Nat) : Int) = k' /\ 1 <= k' /\ k' <= B.length /\ bE (cN A B i') = bE (cN A B i'') /\ bE ((cN A B (i' + 1)).take (k + 1)) ++ [[.int .i64 v]] = bE ((cN A B (i'' + 1)).take (k' + 1)) := fun v hv =>
       ⟨rfl, i', k + 1, rfl, hi2, rfl, by omega, hk, rfl, by rw [xD, zd7 A B (i' + 1) k hk hv]⟩
      have mu : B.length - (((k + 1 : Nat) : Int)).toNat < B.length - (k : Int).toNat := by omega
      refine ⟨(rg i' (k + 1) hk).1, (aU (A.take i') (B.take (k + 1)) : Nat), by rw [qa, (rg i' (k + 1) hk).2]; rfl, t1.1, (aU (A.take (i' + 1)) (B.take k) : Nat), by rw [qa, t1.2]; rfl, ?_⟩
      have eqc : ∀ b : Bool, b = decide (A.getD i' [] = B.getD k []) -> (b = true -> aF (bE (cN A B i')) (k : Int) 1 /\ ∃ n13 : Int, ((bE (cN A B i')).getD (k : Int).toNat []).head? = some (.int .i64 n13) /\ (aU (A.take (i' + 1)) (B.take (k + 1)) : Int) = i64.wrap (n13 + 1)) := fun b hb h => by
       rw [hb, aB] at h;rw [if_pos h] at hst;refine ⟨(rg i' k (by omega)).1, (aU (A.take i') (B.take k) : Nat), by rw [qa, (rg i' k (by omega)).2]; rfl, ?_⟩;rw [w1 _ b0, hst]
      refine aD (fun hm => ?_) (fun hm => ?_)
      ·have hm : aU (A.take i') (B.take (k + 1)) < aU (A.take (i' + 1)) (B.take k) := by simp only [aB] at hm; omega
       refine ⟨t1.1, (aU (A.take (i' + 1)) (B.take k) : Nat), by rw [qa, t1.2]; rfl, ga, na, fa, _, by rw [qa, ea]; rfl, gb, nb, fb, _, by rw [qa, eb]; rfl, (tH na fa nb fb _ _ (mA i' hi2)).mono ?_⟩;rintro _ rfl;refine ⟨_, rfl, aD (fun hb => ?_) (fun hb => ?_)⟩
       ·obtain ⟨e1, n13, e2, e3⟩ := eqc _ rfl hb;exact ⟨e1, n13, e2, sz _, rfl, nx _ e3.symm, mu⟩
       ·have hb : ¬ A.getD i' [] = B.getD k [] := by simpa using hb
        rw [if_neg hb] at hst;exact ⟨sz _, rfl, nx _ (by rw [hst]; omega), mu⟩
      ·have hm : aU (A.take (i' + 1)) (B.take k) <= aU (A.take i') (B.take (k + 1)) := by simp only [aB] at hm; omega
       refine ⟨ga, na, fa, _, by rw [qa, ea]; rfl, gb, nb, fb, _, by rw [qa, eb]; rfl, (tH na fa nb fb _ _ (mA i' hi2)).mono ?_⟩;rintro _ rfl;refine ⟨_, rfl, aD (fun hb => ?_) (fun hb => ?_)⟩
       ·obtain ⟨e1, n13, e2, e3⟩ := eqc _ rfl hb;exact ⟨e1, n13, e2, sz _, rfl, nx _ e3.symm, mu⟩
       ·have hb : ¬ A.getD i' [] = B.getD k [] := by simpa using hb
        rw [if_neg hb] at hst;exact ⟨sz _, rfl, nx _ (by rw [hst]; omega), mu⟩
     ·have hk : k = B.length := by simp only [aB] at hk; omega
      subst hk;rw [w1 i' (by omega)];exact ⟨rfl, ⟨i' + 1, rfl, hi2, by rw [qg (by rw [iF]; omega)]⟩, by dsimp only; omega⟩
    ·have hb : ¬ A.getD i [] = B.getD 0 [] := by simpa using hb
     rw [if_neg hb, qx, oH (A.take (i + 1))] at hst;refine ⟨ap _, ⟨rfl, nx _ (by rw [hst]; simp), mu⟩, ?_⟩;clear hst b0 nx mu ap ga ea gb eb hm hb;rintro n51 f51 _ _ _ n01 _ ⟨hx, i', k, rfl, hi2, rfl, hk1, hk2, rfl, rfl⟩;have hii : i' = i := by omega
     subst hii;refine aD (fun hk => ?_) (fun hk => ?_)
     ·have hk : k < B.length := by simp only [aB] at hk; omega
      rw [w1 k (by omega)];obtain ⟨ga, na, fa, ea⟩ := gA i' hi2;obtain ⟨gb, nb, fb, eb⟩ := gB k hk;have t1 := tg (i' + 1) (k + 1) k (by omega) (by omega);have hst := zd8 A B i' k hi2 hk;have b1 := bl (i' + 1) (k + 1);have b0 := bl i' k;have sz : ∀ v : Int, aR ([[.int .i64 v]] : LL) 1 /\ ((bE ((cN A B (i' + 1)).take (k + 1))).length + 1) * 8 <= 140737488355328 := fun v => ⟨fun e he => by cases he; rfl, by rw [tI, ql, iF]; omega⟩
      have nx : ∀ v : Int, v = (aU (A.take (i' + 1)) (B.take (k + 1)) : Nat) -> (i' : Int) = i' /\ ∃ i'' k' : Nat, (i' : Int) = i'' /\ i'' < A.length /\ ((k + 1 : Nat) : Int) = k' /\ 1 <= k' /\ k' <= B.length /\ bE (cN A B i') = bE (cN A B i'') /\ bE ((cN A B (i' + 1)).take (k + 1)) ++ [[.int .i64 v]] = bE ((cN A B (i'' + 1)).take (k' + 1)) := fun v hv =>
       ⟨rfl, i', k + 1, rfl, hi2, rfl, by omega, hk, rfl, by rw [xD, zd7 A B (i' + 1) k hk hv]⟩
      have mu : B.length - (((k + 1 : Nat) : Int)).toNat < B.length - (k : Int).toNat := by omega
      refine ⟨(rg i' (k + 1) hk).1, (aU (A.take i') (B.take (k + 1)) : Nat), by rw [qa, (rg i' (k + 1) hk).2]; rfl, t1.1, (aU (A.take (i' + 1)) (B.take k) : Nat), by rw [qa, t1.2]; rfl, ?_⟩
      have eqc : ∀ b : Bool, b = decide (A.getD i' [] = B.getD k []) -> (b = true -> aF (bE (cN A B i')) (k : Int) 1 /\ ∃ n13 : Int, ((bE (cN A B i')).getD (k : Int).toNat []).head? = some (.int .i64 n13) /\ (aU (A.take (i' + 1)) (B.take (k + 1)) : Int) = i64.wrap (n13 + 1)) := fun b hb h => by
       rw [hb, aB] at h;rw [if_pos h] at hst;refine ⟨(rg i' k (by omega)).1, (aU (A.take i') (B.take k) : Nat), by rw [qa, (rg i' k (by omega)).2]; rfl, ?_⟩;rw [w1 _ b0, hst]
      refine aD (fun hm => ?_) (fun hm => ?_)
      ·have hm : aU (A.take i') (B.take (k + 1)) < aU (A.take (i' + 1)) (B.take k) := by simp only [aB] at hm; omega
       refine ⟨t1.1, (aU (A.take (i' + 1)) (B.take k) : Nat), by rw [qa, t1.2]; rfl, ga, na, fa, _, by rw [qa, ea]; rfl, gb, nb, fb, _, by rw [qa, eb]; rfl, (tH na fa nb fb _ _ (mA i' hi2)).mono ?_⟩;rintro _ rfl;refine ⟨_, rfl, aD (fun hb => ?_) (fun hb => ?_)⟩
       ·obtain ⟨e1, n13, e2, e3⟩ := eqc _ rfl hb;exact ⟨e1, n13, e2, sz _, rfl, nx _ e3.symm, mu⟩
       ·have hb : ¬ A.getD i' [] = B.getD k [] := by simpa using hb
        rw [if_neg hb] at hst;exact ⟨sz _, rfl, nx _ (by rw [hst]; omega), mu⟩
      ·have hm : aU (A.take (i' + 1)) (B.take k) <= aU (A.take i') (B.take (k + 1)) := by simp only [aB] at hm; omega
       refine ⟨ga, na, fa, _, by rw [qa, ea]; rfl, gb, nb, fb, _, by rw [qa, eb]; rfl, (tH na fa nb fb _ _ (mA i' hi2)).mono ?_⟩;rintro _ rfl;refine ⟨_, rfl, aD (fun hb => ?_) (fun hb => ?_)⟩
       ·obtain ⟨e1, n13, e2, e3⟩ := eqc _ rfl hb;exact ⟨e1, n13, e2, sz _, rfl, nx _ e3.symm, mu⟩
       ·have hb : ¬ A.getD i' [] = B.getD k [] := by simpa using hb
        rw [if_neg hb] at hst;exact ⟨sz _, rfl, nx _ (by rw [hst]; omega), mu⟩
     ·have hk : k = B.length := by simp only [aB] at hk; omega
      subst hk;rw [w1 i' (by omega)];exact ⟨rfl, ⟨i' + 1, rfl, hi2, by rw [qg (by rw [iF]; omega)]⟩, by dsimp only; omega⟩
   ·have hB0 : B.length = 0 := by simp only [aB] at hB0; omega
    rw [w1 i (by omega)];refine ⟨rfl, ⟨i + 1, rfl, hia, ?_⟩, by dsimp only; omega⟩;rw [<- znj A B (i + 1), qg (by rw [iF]; omega)]
  ·have hia : i = A.length := by simp only [aB] at hia; omega
   subst hia
   have hg : (bE (cN A B A.length)).getD B.length [] = [.int .i64 (aU A B : Nat)] := by
    rw [i6 _ _ (by rw [iF]; omega), tL A B _ _ (qi _), qu, qu]
   exact ⟨lE _ _ (by rw [iF]; omega), _, by rw [qa, hg]; rfl, rfl⟩
end
theorem znk (n f n2 f2 : Bool) (l : List Int) (rl : R32 l) (hl : l.length < 10000) : PCall qb 14 [.sl n f (bK tab), .sl n2 f2 (aA l)] fun x => ∃ (n f : Bool) (Q : List (Bool × Bool × List Int)), x = .sl n f (Q.map aS) /\ Q.map (fun q => q.2.2) = bC l := by
 refine zwz _ _ _ _ _ _ ?_;unfold zlk;have hb := o0 l;refine (z0f n f n2 f2 l rl (by omega)).mono ?_;rintro _ ⟨n1, f1, rfl⟩;refine ⟨n1, f1, _, rfl, (zyz zdr n f n1 f1 zdn (dT tab l) (zdp rl) (by omega) (by omega)).mono ?_⟩;rintro _ ⟨n2, f2, Q, rfl, hQ⟩;exact ⟨n2, f2, _, rfl, n2, f2, Q, rfl, hQ⟩
theorem lawDeltaLeast {pvs : List PV} (h : sH qb 8 Tryz.f4.params.toList pvs) : PCall qb 4 pvs fun v => v = .bool true := by
 obtain ⟨v0, r0, rfl, h0, v1, r1, rfl, h1, rfl⟩ : sH qb 8 [22, 22] pvs := h;obtain ⟨nl, l, rfl, rl⟩ := zl7 h0;obtain ⟨nm, m, rfl, rm⟩ := zl7 h1;refine zw2 _ _ _ _ _ _ ?_;unfold zln;refine (zlw _ _ l 30 (by omega)).mono ?_;rintro _ ⟨n1, f1, rfl⟩;refine ⟨n1, f1, _, rfl, (zlw _ _ m 30 (by omega)).mono ?_⟩;rintro _ ⟨n2, f2, rfl⟩;refine ⟨n2, f2, _, rfl, p42.mono ?_⟩;rintro _ ⟨n3, f3, rfl⟩;refine ⟨n3, f3, _, rfl, (zly n3 f3).mono fun T hT => ?_⟩;have rl := rl.take 30;have rm := rm.take 30;have hl := zl9 l 30;have hm := zl9 m 30;generalize l.take 30 = l at rl hl ⊢;generalize m.take 30 = m at rm hm ⊢;obtain ⟨g1, g2, g3, g4, g5, g6, g7⟩ := z0g l m (by omega) (by omega);have o1 := tK l (by omega);obtain ⟨s1, _, _, s4⟩ := zia (bC l) (bC m);obtain ⟨q1, _, _, q4⟩ := zsm s1;have hlc := vU (bC l) (bC m);refine (zm8 hT n1 f1 n2 f2 l m rl rm (by omega) (by omega)).mono ?_;rintro _ (⟨_, nl, _, rfl⟩ | ⟨h, _⟩)
 rotate_left
 ·exact absurd g1 h
 refine ⟨_, rfl, rfl, _, rfl, nl, false, _, rfl, _, rfl, 0, rfl, ?_⟩;refine (znk n3 f3 n1 f1 l rl (by omega)).mono ?_;rintro _ ⟨n4, f4, QA, rfl, hA⟩;refine ⟨n4, f4, _, rfl, (znk n3 f3 n2 f2 m rm (by omega)).mono ?_⟩;rintro _ ⟨n5, f5, QB, rfl, hB⟩;have lA : (QA.map aS).length = (bC l).length := by rw [<- hA, qe, qe]
 have lB : (QB.map aS).length = (bC m).length := by rw [<- hB, qe, qe]
 have hc := fun nl f => zd3 nl f (eR (bC l) (bC m)) g2 fun s hs => ⟨(g3 s hs).2.2.1, (g3 s hs).2.2.2⟩;refine ⟨n5, f5, _, rfl, bV rfl ((hc nl false).mono ?_)⟩;rintro _ rfl;refine ⟨_, rfl, (z0l n4 f4 n5 f5 hA hB (by omega) (by omega) fun c hc => by have := (o1 c hc).2; omega).mono ?_⟩;rintro _ rfl;refine ⟨_, rfl, ?_⟩;rw [lA, lB, aC (n := ((bC l).length : Int) + (bC m).length) (by omega) (by omega), aC (n := 2 * ((aU (bC l) (bC m) : Nat) : Int)) (by omega) (by omega), aC (by omega) (by omega)];refine bV (by rw [beq_iff_eq]; omega) ((hc nl false).mono ?_);rintro _ rfl;refine ⟨_, rfl, (zzm nl false _ g2 fun s hs => ⟨(g3 s hs).1, (g3 s hs).2.1⟩).mono ?_⟩;rintro _ ⟨n6, rfl⟩;refine ⟨n6, false, _, rfl, (zd3 n6 false ((eR (bC l) (bC m)).map dP) (by rw [qe]; exact g2) fun s hs => ?_).mono ?_⟩
 ·obtain ⟨x, hx, rfl⟩ := List.mem_map.1 hs;exact ⟨(g3 x hx).2.2.1, (g3 x hx).2.2.2⟩
 rintro _ rfl;refine ⟨_, rfl, bV (by rw [q4]; simp) (awake50.mono ?_)⟩;rintro _ rfl;exact ⟨_, rfl, rfl⟩
end Go.Eng
