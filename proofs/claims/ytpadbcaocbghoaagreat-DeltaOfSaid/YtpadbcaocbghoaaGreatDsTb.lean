/- States run over the code: what each function gives, and what follows. -/
import Derived.Test.YtpadbcaocbghoaaGreatDsTa
open Go.IntKind (i64 i32)
open Go.Proofs.Tryz renaming prog → qa
open List renaming replicate → qb, drop → qc, length_append → qd, take_of_length_le → qf, append_assoc → qg, take → qi, getElem_mem → qj, nil_append → qk, length_take → ql, length_cons → qm, take_append_drop → qn, drop_zero → qp, getElem?_append_right → qt, drop_of_length_le → qu, drop_eq_getElem_cons → qv, length_nil → qw, cons_append → qy, getElem?_replicate → qaa, getElem?_eq_none → qab, flatMap_cons → qac, map_append → qad, getElem?_set → qae, getElem?_append_left → qaf, mem_append → qah, append_nil → qai, length_drop → qak, mem_singleton → qam, getElem?_take_of_lt → qan, mem_cons → qao, getD → qap, mem_of_mem_take → qaq, getElem?_drop → qar, flatten_cons → qau, ext_getElem? → qav, getElem?_eq_getElem → qaw, drop_append → qax, not_mem_nil → qay, length_map → qaz, getElem_cons_drop → qba, eq_nil_or_concat → qbb, mem_of_mem_drop → qbc, map_eq_nil_iff → qbe, getElem_of_mem → qbf, replicate_succ → qbg, flatMap_append → qbh, flatten_append → qbi, mem_cons_self → qbk, map_nil → qbn, take_add_one → qbp, isEmpty_iff → qbt, flatten_nil → qbu, foldl_cons → qbv, map_cons → qby
open Int renaming le_refl → qe, tdiv_eq_ediv_of_nonneg → qq, tmod_eq_emod_of_nonneg → qr, lt_or_le → qbm, le_of_lt → qbo, toNat_natCast → qbq
open Bool renaming and_eq_true → qh, not_eq_true' → qo, not_eq_true → qaj, and_true → qal, true_and → qbd, false_eq_true → qbj, or_eq_true → qbw, eq_iff_iff → qbx
open Decidable renaming not_not → qx
open Nat renaming le_refl → qz, zero_add → qag, eq_zero_or_pos → qas, reduceAdd → qat, lt_or_ge → qbl, add_mul → qbr, one_mul → qbs
namespace Go.Proofs
open Go.Shelf
def Tryz.sortSpan_ren : Go.Shelf.Ren := ⟨fun | 6 => 64 | 15 => 93 | 14 => 92 | 28 => 120 | 29 => 121 | 20 => 112 | 21 => 113 | 22 => 114 | 23 => 115 | 24 => 116 | 25 => 117 | 26 => 118 | 27 => 119 | 46 => 134 | 47 => 135 | 48 => 136 | 49 => 137 | 50 => 138 | 57 => 143 | n => n, fun | 22 => 76 | 24 => 79 | 25 => 116 | 3 => 3 | 39 => 183 | 0 => 0 | 53 => 204 | 55 => 206 | 4 => 4 | 46 => 198 | 45 => 197 | 50 => 164 | 5 => 5 | 9 => 9 | 66 => 212 | 70 => 216 | 76 => 220 | 77 => 158 | n => n, fun | n => n⟩
theorem Tryz.sortSpan : Go.Proofs.SlLaysF0.n6 qa Tryz.sortSpan_ren := {
 mixed := by kernel_rfl
 f6 := ⟨Tryz.f64.name, by decide, Tryz.func64.trans (congrArg some (by kernel_rfl))⟩
 f14 := ⟨Tryz.f92.name, by decide, Tryz.func92.trans (congrArg some (by kernel_rfl))⟩
 f15 := Tryz.func93.trans (congrArg some (by kernel_rfl))
 f20 := ⟨Tryz.f112.name, by decide, Tryz.func112.trans (congrArg some (by kernel_rfl))⟩
 f21 := ⟨Tryz.f113.name, by decide, Tryz.func113.trans (congrArg some (by kernel_rfl))⟩
 f22 := ⟨Tryz.f114.name, by decide, Tryz.func114.trans (congrArg some (by kernel_rfl))⟩
 f23 := ⟨Tryz.f115.name, by decide, Tryz.func115.trans (congrArg some (by kernel_rfl))⟩
 f24 := ⟨Tryz.f116.name, by decide, Tryz.func116.trans (congrArg some (by kernel_rfl))⟩
 f25 := ⟨Tryz.f117.name, by decide, Tryz.func117.trans (congrArg some (by kernel_rfl))⟩
 f26 := ⟨Tryz.f118.name, by decide, Tryz.func118.trans (congrArg some (by kernel_rfl))⟩
 f27 := ⟨Tryz.f119.name, by decide, Tryz.func119.trans (congrArg some (by kernel_rfl))⟩
 f28 := Tryz.func120.trans (congrArg some (by kernel_rfl))
 f29 := Tryz.func121.trans (congrArg some (by kernel_rfl))
 f46 := ⟨Tryz.f134.name, by decide, Tryz.func134.trans (congrArg some (by kernel_rfl))⟩
 f47 := Tryz.func135.trans (congrArg some (by kernel_rfl))
 f48 := Tryz.func136.trans (congrArg some (by kernel_rfl))
 f49 := ⟨Tryz.f137.name, by decide, Tryz.func137.trans (congrArg some (by kernel_rfl))⟩
 f50 := ⟨Tryz.f138.name, by decide, Tryz.func138.trans (congrArg some (by kernel_rfl))⟩
 f57 := ⟨Tryz.f143.name, by decide, Tryz.func143.trans (congrArg some (by kernel_rfl))⟩
 t0 := Tryz.underlying0
 a0 := Tryz.isAgg0
 z0 := Tryz.sizeOf0
 v0 := Tryz.zeroValue0
 t3 := Tryz.underlying3
 a3 := Tryz.isAgg3
 z3 := Tryz.sizeOf3
 v3 := Tryz.zeroValue3
 t4 := Tryz.underlying4
 a4 := Tryz.isAgg4
 z4 := Tryz.sizeOf4
 v4 := Tryz.zeroValue4
 t5 := Tryz.underlying5
 a5 := Tryz.isAgg5
 z5 := Tryz.sizeOf5
 v5 := Tryz.zeroValue5
 t9 := Tryz.underlying9
 a9 := Tryz.isAgg9
 z9 := Tryz.sizeOf9
 v9 := Tryz.zeroValue9
 t22 := Tryz.underlying76
 a22 := Tryz.isAgg76
 z22 := Tryz.sizeOf76
 v22 := Tryz.zeroValue76
 t25 := Tryz.underlying116
 a25 := Tryz.isAgg116
 z25 := Tryz.sizeOf116
 v25 := Tryz.zeroValue116
 t39 := Tryz.underlying183
 a39 := Tryz.isAgg183
 z39 := Tryz.sizeOf183
 v39 := Tryz.zeroValue183
 t45 := Tryz.underlying197
 a45 := Tryz.isAgg197
 z45 := Tryz.sizeOf197
 v45 := Tryz.zeroValue197
 t46 := Tryz.underlying198
 a46 := Tryz.isAgg198
 z46 := Tryz.sizeOf198
 v46 := Tryz.zeroValue198
 t50 := Tryz.underlying164
 a50 := Tryz.isAgg164
 z50 := Tryz.sizeOf164
 v50 := Tryz.zeroValue164
 t53 := Tryz.underlying204
 a53 := Tryz.isAgg204
 z53 := Tryz.sizeOf204
 v53 := Tryz.zeroValue204
 t55 := Tryz.underlying206
 a55 := Tryz.isAgg206
 z55 := Tryz.sizeOf206
 v55 := Tryz.zeroValue206
 t66 := Tryz.underlying212
 a66 := Tryz.isAgg212
 z66 := Tryz.sizeOf212
 v66 := Tryz.zeroValue212
 t70 := Tryz.underlying216
 a70 := Tryz.isAgg216
 z70 := Tryz.sizeOf216
 v70 := Tryz.zeroValue216
 t76 := Tryz.underlying220
 a76 := Tryz.isAgg220
 z76 := Tryz.sizeOf220
 v76 := Tryz.zeroValue220
 t77 := Tryz.underlying158
 a77 := Tryz.isAgg158
 z77 := Tryz.sizeOf158
 v77 := Tryz.zeroValue158 }
end Go.Proofs
set_option maxRecDepth 100000
set_option linter.unusedVariables false
set_option linter.unusedSimpArgs false
namespace Go.Eng
open Go Go.Proofs Go.Eng.Rows
def dX (s : Sp) : List PV := [.int .i64 s.fr, .int .i64 s.to, .int .i64 s.a, .int .i64 s.b]
def oI (x : Row) : List PV := [.int .i64 x.kind, .int .i64 x.fr, .int .i64 x.to, .int .i64 x.a, .int .i64 x.b]
def aN (l : List Sp) : List (List PV) := l.map dX
def bH (l : List Row) : List (List PV) := l.map oI
theorem jT (x : Sp) : (dX x).length = 4 := rfl
theorem qP (x : Row) : (oI x).length = 5 := rfl
theorem p96 (x : Int) : PCall qa 91 [.int .i64 x] fun v => v = .bool false := by
 refine zuf x ?_; unfold zjt; simp
def cmpS (x y : Int) : Int := if x < y then -1 else if x > y then 1 else 0
theorem p61 (x y : Int) : PCall qa 62 [.int .i64 x, .int .i64 y] fun v => v = .int .i64 (cmpS x y) := by
 refine zug x y ?_; unfold zju;refine (p96 x).mono ?_; rintro _ rfl;refine ⟨_, rfl, ?_⟩;refine (p96 y).mono ?_; rintro _ rfl;refine ⟨_, rfl, ?_⟩;simp only [qbj, if_false, cmpS, aB];by_cases h : x < y
 ·rw [if_pos h, if_pos h]
 ·rw [if_neg h, if_neg h];by_cases h : x > y
  ·rw [if_pos h, if_pos h]
  ·rw [if_neg h, if_neg h]
theorem wT (x y : Int) : cmpS x y < 0 ↔ x < y := by
 unfold cmpS;by_cases h : x < y
 ·simp [h]
 ·rw [if_neg h]; split <;> omega
theorem p60 (x y : Sp) : PCall qa 61 [.agg (dX x), .agg (dX y)] fun v => v = .int .i64 (cmpS x.fr y.fr) := by
 refine zuh _ _ _ _ _ _ _ _ ?_; unfold zjv;refine (p61 x.fr y.fr).mono ?_; rintro _ rfl;exact ⟨_, rfl, rfl⟩
theorem p62 (s : Sp) (n : Bool) (l : List Sp) (hl : Rows.Good l) (h0 : 0 <= s.fr) (h1 : s.to <= 1114111) : ACall qa 63 [.pv (.agg (dX s)), .own 0] [.sl (79, 4) false n (aN l)] fun r h' => ∃ m, r = .own 1 /\ h' = [.sl (79, 4) false n (aN l), .sl (79, 4) true m (aN (cZ l s))] := by
 refine zud _ _ _ _ _ _ (fun i fr to a b _ acc => 0 <= i /\ i <= l.length /\ a = s.a /\ b = s.b /\ ∃ t, acc = aN t /\ t ++ cZ (l.drop i.toNat) ⟨fr, to, a, b⟩ = cZ l s /\ 0 <= fr /\ to <= 1114111) (fun i _ _ _ _ _ _ => l.length - i.toNat) ?_;unfold zjr;refine ⟨⟨rfl, qe _, by omega, rfl, rfl, [], rfl, rfl, h0, h1⟩, ?_⟩;rintro i fr to a b m acc ⟨i0, i1, rfl, rfl, t, rfl, ht, b0, b1⟩;have hlen : (aN l).length = l.length := by simp [aN]
 have hll := hl.len
 have htl : t.length <= 1114113 := by
  have := zhw l s;rw [<- ht] at this;simp at this; omega
 have hszt : (aN t).length = t.length := by simp [aN]
 split
 next hc =>
  simp only [aB, hlen] at hc;have hi : i.toNat < l.length := by omega
  have hx := hl.2 l[i.toNat] (qj hi);have hw : i64.wrap (i + 1) = i + 1 := wz;have hn : (i + 1).toNat = i.toNat + 1 := by omega
  have hg : (aN l).getD i.toNat [] = dX l[i.toNat] := c7 hi;rw [drop_cons hi] at ht;refine ⟨cS jT i0 hc, l[i.toNat].fr, by rw [hg]; rfl, l[i.toNat].to, by rw [hg]; rfl, l[i.toNat].a, by rw [hg]; rfl, l[i.toNat].b, by rw [hg]; rfl, ?_⟩;simp only [cZ] at ht;rw [hw];split
  next c1 =>
   simp only [aB, gt_iff_lt] at c1;rw [if_pos c1] at ht;exact ⟨rfl, ⟨by omega, by omega, rfl, rfl, t, rfl, by rw [hn]; exact ht, b0, b1⟩, by dsimp only; omega⟩
  next c1 =>
   simp only [aB, gt_iff_lt] at c1;rw [if_neg c1] at ht;split
   next c2 =>
    simp only [aB, gt_iff_lt] at c2;rw [if_pos c2] at ht;exact ⟨rfl, ⟨by omega, by omega, rfl, rfl, t, rfl, by rw [hn]; exact ht, b0, b1⟩, by dsimp only; omega⟩
   next c2 =>
    simp only [aB, gt_iff_lt] at c2;rw [if_neg c2] at ht;have hw2 : i64.wrap (l[i.toNat].to + 1) = l[i.toNat].to + 1 := wz;have hw3 : i64.wrap (l[i.toNat].fr - 1) = l[i.toNat].fr - 1 := wz;rw [hw2, hw3];split
    next c3 =>
     simp only [aB, gt_iff_lt] at c3;rw [if_pos c3] at ht;refine ⟨⟨fun e he => by simp at he; subst he; rfl, by rw [hszt]; omega⟩, rfl, ⟨by omega, by omega, rfl, rfl, t ++ [⟨fr, l[i.toNat].fr - 1, s.a, s.b⟩], by simp [aN, dX], by rw [hn, qg]; exact ht, by omega, b1⟩, by dsimp only; omega⟩
    next c3 =>
     simp only [aB, gt_iff_lt] at c3;rw [if_neg c3] at ht;exact ⟨rfl, ⟨by omega, by omega, rfl, rfl, t, rfl, by rw [hn]; exact ht, by omega, b1⟩, by dsimp only; omega⟩
 next hc =>
  simp only [aB, hlen] at hc;have hi : l.length <= i.toNat := by omega
  rw [List.drop_eq_nil_of_le hi] at ht;simp only [cZ] at ht;split
  next c =>
   simp only [aB, gt_iff_lt] at c;rw [if_pos c] at ht;refine ⟨⟨fun e he => by simp at he; subst he; rfl, by rw [hszt]; omega⟩, m && false, rfl, ?_⟩;rw [<- ht]; simp [aN, dX]
  next c =>
   simp only [aB, gt_iff_lt] at c;rw [if_neg c] at ht;refine ⟨m, rfl, ?_⟩;rw [<- ht]; simp [aN]
theorem p63 (n : Bool) (l : List Sp) (hn : n = true -> l = []) (hl : l.length < 4611686018427387904) : ACall qa 64 [.own 0, .pv (.fn 61 [])] [.sl (79, 4) false n (aN l)] fun r h' => ∃ t : List Sp, r = .tup [] /\ h' = [.sl (79, 4) false n (aN t)] /\ t.Perm l /\ t.Pairwise (fun x y => ¬ y.fr < x.fr) := by
 have := zuy Tryz.sortSpan ⟨_, Tryz.func64, by kernel_rfl, by kernel_rfl⟩ 4 (by decide) (fun w => Tryz.isAgg79 w) (fun w => Tryz.sizeOf79 w) (fun s : Sp => [s.fr, s.to, s.a, s.b]) (fun _ => rfl) (fun x y => cmpS x.fr y.fr) ⟨fun x => ?_, fun x y z h1 h2 => ?_, fun x y z h1 h2 => ?_⟩ 61 (fun x y => p60 x y) (79, 4) rfl n l hn hl
 ·refine this.mono ?_;rintro r h' ⟨t, h1, h2, h3, h4⟩;refine ⟨t, h1, h2, h3, h4.imp fun {a b} h => ?_⟩;exact fun hlt => h ((wT _ _).2 hlt)
 ·simp [ltOf, wT]
 ·simp only [ltOf, wT, aB] at *; omega
 ·simp only [ltOf, wT, dJ] at *; omega
theorem zuz (l : List Sp) : ∀ acc, (l.foldl eR acc).length <= acc.length + l.length := by
 induction l with
 | nil => intro acc; simp
 | cons x xs ih => intro acc; have := ih (eR acc x); have := zrv acc x; simp only [qbv, qm]; omega
theorem zu0 {l : List Sp} (h : Rows.Good l) (i : Nat) : Rows.Good (l.take i) := ⟨h.1.sublist (List.take_sublist i l), fun x hx => h.2 x (qaq hx)⟩
theorem dI {α : Type} {l : List α} {i : Nat} (h : i < l.length) : l.take (i + 1) = l.take i ++ [l[i]] := by
 rw [qbp, qaw h]; rfl
theorem fX (l : List Sp) : (aN l).length = l.length := by simp [aN]
theorem jU (l : List Row) : (bH l).length = l.length := by simp [bH]
theorem p64 (n f : Bool) (l : List Sp) (hl : Rows.Good l) : PCall qa 65 [.sl n f (aN l)] fun v => ∃ n f, v = .sl n f (aN (iN l)) := by
 refine zue _ _ _ (fun i _ acc => 0 <= i /\ i <= l.length /\ acc = aN (iN (l.take i.toNat))) (fun i _ _ => l.length - i.toNat) ?_;unfold zjs;refine ⟨⟨rfl, qe _, by omega, by simp [iN, aN]⟩, ?_⟩;rintro i m acc ⟨i0, i1, rfl⟩;have hlen : (aN l).length = l.length := by simp [aN]
 have hll := hl.len;split
 next hc =>
  simp only [aB, hlen] at hc;have hi : i.toNat < l.length := by omega
  have hx := hl.2 l[i.toNat] (qj hi);have hw : i64.wrap (i + 1) = i + 1 := wz;have hn : (i + 1).toNat = i.toNat + 1 := by omega
  have hg : (aN l).getD i.toNat [] = dX l[i.toNat] := c7 hi;have hst : iN (l.take (i + 1).toNat) = eR (iN (l.take i.toNat)) l[i.toNat] := by rw [hn, dI hi]; simp only [iN, List.foldl_append, qbv, List.foldl_nil]
  have hga := (zat (zu0 hl i.toNat)).1;have hgl := zuz (l.take i.toNat) [];rw [<- iN] at hgl;simp only [qw, ql] at hgl;have hmu : l.length - (i + 1).toNat < l.length - i.toNat := by omega
  refine ⟨cS jT i0 hc, l[i.toNat].fr, by rw [hg]; rfl, l[i.toNat].to, by rw [hg]; rfl, l[i.toNat].a, by rw [hg]; rfl, l[i.toNat].b, by rw [hg]; rfl, ?_⟩;rw [hw];simp only [hst];generalize iN (l.take i.toNat) = acc at *;generalize l[i.toNat] = x at *;have hal : (aN acc).length = acc.length := by simp [aN]
  have hw2 : i64.wrap (((aN acc).length : Int) - 1) = (acc.length : Int) - 1 := by rw [hal]; exact wz
  have hsz : aU [[.int .i64 x.fr, .int .i64 x.to, .int .i64 x.a, .int .i64 x.b]] 4 /\ ((aN acc).length + 1) * 32 <= 2^47 := ⟨fun e he => by simp at he; subst he; rfl, by rw [hal]; omega⟩;have hno : acc ++ [x] = eR acc x -> aN acc ++ [[.int .i64 x.fr, .int .i64 x.to, .int .i64 x.a, .int .i64 x.b]] = aN (eR acc x) := fun h => by rw [<- h]; simp [aN, dX]
  rw [hw2];rcases qbb acc with rfl | ⟨k, y, rfl⟩
  ·rw [if_neg (by simp)];exact ⟨hsz, rfl, ⟨by omega, by omega, hno rfl⟩, hmu⟩
  ·simp only [List.concat_eq_append] at *;have hy := hga.2 y (by simp);have hkl : ((k ++ [y]).length : Int) - 1 = k.length := by simp
   rw [hkl]
   have hgk : (aN (k ++ [y])).getD ((k.length : Int)).toNat [] = dX y := by
    have : k.length < (k ++ [y]).length := by simp
    rw [show ((k.length : Int)).toNat = k.length by omega, aN, c7 this]; simp
   have hix : aD (aN (k ++ [y])) (k.length : Int) 4 := cS jT (by omega) (by simp; omega)
   have hJ : eR (k ++ [y]) x = if y.to + 1 = x.fr /\ y.a = x.a /\ y.b = x.b then k ++ [{ y with to := x.to }] else k ++ [y] ++ [x] := by
    unfold eR; rw [List.getLast?_concat]; simp only [List.dropLast_concat]
   have hw3 : i64.wrap (y.to + 1) = y.to + 1 := wz;have hfin : ¬ (y.to + 1 = x.fr /\ y.a = x.a /\ y.b = x.b) -> aN (k ++ [y]) ++ [[.int .i64 x.fr, .int .i64 x.to, .int .i64 x.a, .int .i64 x.b]] = aN (eR (k ++ [y]) x) := fun h => hno (by rw [hJ, if_neg h]);rw [if_pos (by simp)];refine ⟨hix, y.to, by rw [hgk]; rfl, ?_⟩;rw [hw3];by_cases c1 : y.to + 1 = x.fr
   ·rw [if_pos (by simpa using c1)]
    refine ⟨hix, y.a, by rw [hgk]; rfl, ?_⟩;by_cases c2 : y.a = x.a
    ·rw [if_pos (by simpa using c2)]
     refine ⟨hix, y.b, by rw [hgk]; rfl, ?_⟩;by_cases c3 : y.b = x.b
     ·rw [if_pos (by simpa using c3), hgk]
      refine ⟨hix, ⟨trivial, by show 2 <= 4; omega⟩, rfl, ⟨by omega, by omega, ?_⟩, hmu⟩;rw [hJ, if_pos ⟨c1, c2, c3⟩, show ((k.length : Int)).toNat = k.length by omega];simp [aN, dX, aW]
     ·rw [if_neg (by simpa using c3)]
      exact ⟨hsz, rfl, ⟨by omega, by omega, hfin fun h => c3 h.2.2⟩, hmu⟩
    ·rw [if_neg (by simpa using c2)]
     exact ⟨hsz, rfl, ⟨by omega, by omega, hfin fun h => c2 h.2.1⟩, hmu⟩
   ·rw [if_neg (by simpa using c1)]
    exact ⟨hsz, rfl, ⟨by omega, by omega, hfin fun h => c1 h.1⟩, hmu⟩
 next hc =>
  simp only [aB, hlen] at hc;rw [qf (by omega)];exact ⟨_, _, rfl⟩
theorem p29 (n f : Bool) (rows : List Row) (k : Int) (hlr : rows.length < 4611686018427387904) : PCall qa 41 [.sl n f (bH rows), .int .i64 k] fun v => ∃ n f, v = .sl n f (aN (aJ k rows)) := by
 refine zui _ _ _ _ (fun i n acc => 0 <= i /\ i <= rows.length /\ acc = aN (gL k (rows.take i.toNat)) /\ (n = true -> acc = [])) (fun i _ _ => rows.length - i.toNat) ?_;unfold zjw;refine ⟨⟨rfl, qe _, by omega, by simp [gL, aN], fun _ => rfl⟩, ?_⟩;rintro i m acc ⟨i0, i1, rfl, hnil⟩;have hlen : (bH rows).length = rows.length := by simp [bH]
 have hga := vX k (rows.take i.toNat);have hll := hga.len;split
 next hc =>
  simp only [aB, hlen] at hc;have hi : i.toNat < rows.length := by omega
  have hw : i64.wrap (i + 1) = i + 1 := wz;have hn : (i + 1).toNat = i.toNat + 1 := by omega
  have hg : (bH rows).getD i.toNat [] = oI rows[i.toNat] := c7 hi;have hst : gL k (rows.take (i + 1).toNat) = kW k (gL k (rows.take i.toNat)) rows[i.toNat] := by rw [hn, dI hi, zh1]
  have hmu : rows.length - (i + 1).toNat < rows.length - i.toNat := by omega
  refine ⟨cS qP i0 hc, rows[i.toNat].kind, by rw [hg]; rfl, rows[i.toNat].fr, by rw [hg]; rfl, rows[i.toNat].to, by rw [hg]; rfl, rows[i.toNat].a, by rw [hg]; rfl, rows[i.toNat].b, by rw [hg]; rfl, ?_⟩;rw [hw];simp only [hst];generalize gL k (rows.take i.toNat) = acc at *;generalize rows[i.toNat] = x at *;have hal : (aN acc).length = acc.length := by simp [aN]
  by_cases hk : x.kind = k
  ·rw [if_neg (by simpa using hk)]
   have h62 := p62 x.sp m acc hga x.sp_lo x.sp_hi;simp only [dX, Row.sp] at h62;refine h62.mono ?_;rintro _ _ ⟨m1, rfl, rfl⟩;have hrl := zhw acc x.sp;refine ⟨(m1, aN (cZ acc x.sp)), ⟨rfl, rfl⟩, ⟨by simp, trivial⟩, ⟨kB jT _, by simp only [aN, qaz]; omega⟩, ?_⟩;have happ : aN acc ++ aN (cZ acc x.sp) = aN (acc ++ cZ acc x.sp) := by simp [aN]
   simp only [happ];refine (p63 _ (acc ++ cZ acc x.sp) (fun h => ?_) (by simp only [qd]; omega)).mono ?_
   ·simp only [qh, qbt] at h;have h1 := hnil h.1;have h2 := h.2;simp only [aN, qbe] at h1 h2;simp [h1, h2];simpa [h1] using h2
   ·rintro _ _ ⟨t, rfl, rfl, hp, hs⟩;have ht := zr0 hga hk hp hs;refine ⟨aN t, ⟨rfl, rfl⟩, ⟨⟨trivial, trivial, by simp only [aN, qaz]; exact hp.length_eq.symm⟩, trivial⟩, rfl, ⟨by omega, by omega, by rw [ht], fun h => ?_⟩, hmu⟩;simp only [qh, qbt] at h;have h1 := hnil h.1;have h2 := h.2;simp only [aN, qbe] at h1 h2 ⊢;rw [h2, h1] at hp;simpa using hp
  ·rw [if_pos (by simpa using hk)]
   refine ⟨rfl, ⟨by omega, by omega, by rw [kW, if_neg hk], hnil⟩, hmu⟩
 next hc =>
  simp only [aB, hlen] at hc;rw [qf (by omega)] at hga ⊢;refine (p64 _ _ _ hga).mono ?_;rintro _ ⟨n, f, rfl⟩;exact ⟨_, _, _, rfl, _, _, rfl⟩
end Go.Eng
namespace Go.Eng.Rows
def nA (l : List Int) : Prop := l.Pairwise (· < ·)
structure EdgeOK (k : Int) (rows : List Row) (e : List Int) : Prop where
 asc : nA e
 lo : 0 ∈ e
 hi : 1114112 ∈ e
 rng : ∀ x ∈ e, 0 <= x /\ x <= 1114112
 fr : ∀ x ∈ rows, x.kind = k -> 0 <= x.fr -> x.fr <= 1114111 -> x.fr ∈ e
 to : ∀ x ∈ rows, x.kind = k -> -1 <= x.to -> x.to < 1114111 -> x.to + 1 ∈ e
structure AddOK (l : List Int) (n : Int) (i : Nat) (done : Bool) (out : List Int) : Prop where
 asc : nA out
 mem : ∀ x, x ∈ out ↔ x ∈ l.take i ∨ (done = true /\ x = n)
 len : out.length <= i + 1
 fresh : done = false -> ∀ x ∈ l.take i, x < n
 past : done = true -> ∀ x ∈ l.drop i, n < x
theorem zu1 {l : List Int} {x : Int} (h : nA l) (hx : ∀ y ∈ l, y < x) : nA (l ++ [x]) :=
 List.pairwise_append.2 ⟨h, by simp, fun y hy z hz => by simp at hz; subst hz; exact hx y hy⟩
theorem zkc {α : Type} {l : List α} {i : Nat} (h : i < l.length) : l.take (i + 1) = l.take i ++ [l[i]] := by
 rw [qbp, qaw h]; rfl
theorem zu2 {l : List Int} (h : nA l) {i : Nat} (hi : i < l.length) : (∀ y ∈ l.take i, y < l[i]) /\ ∀ y ∈ l.drop (i + 1), l[i] < y := by
 have e : l = l.take i ++ l[i] :: l.drop (i + 1) := by rw [qba]; simp
 have h' : nA (l.take i ++ l[i] :: l.drop (i + 1)) := e ▸ h;have := List.pairwise_append.1 h';exact ⟨fun y hy => this.2.2 y hy _ qbk, fun y hy => List.rel_of_pairwise_cons this.2.1 hy⟩
theorem AddOK.one {l : List Int} {n : Int} {i : Nat} {done : Bool} {out : List Int} (hl : nA l) (hi : i < l.length) (h : AddOK l n i done out) (hn : done = false -> l[i] < n) : AddOK l n (i + 1) done (out ++ [l[i]]) := by
 obtain ⟨s1, s2⟩ := zu2 hl hi;refine ⟨zu1 h.asc fun y hy => ?_, fun x => ?_, by have := h.len; simp; omega, fun hd x hx => ?_, fun hd x hx => ?_⟩
 ·rcases (h.mem y).1 hy with hy | ⟨hd, rfl⟩
  ·exact s1 y hy
  ·exact h.past hd _ (by rw [qv hi]; exact qbk)
 ·rw [zkc hi];simp only [qah, qam, h.mem];constructor
  ·rintro ((a | a) | a)
   ·exact .inl (.inl a)
   ·exact .inr a
   ·exact .inl (.inr a)
  ·rintro ((a | a) | a)
   ·exact .inl (.inl a)
   ·exact .inr a
   ·exact .inl (.inr a)
 ·rw [zkc hi] at hx;rcases List.mem_append.1 hx with hx | hx
  ·exact h.fresh hd x hx
  ·simp at hx; subst hx; exact hn hd
 ·exact h.past hd x (by rw [qv hi]; exact List.mem_cons_of_mem _ hx)
theorem EdgeOK.add {k : Int} {rows : List Row} {e : List Int} (h : EdgeOK k rows e) {n : Int} {e' : List Int} (ha : nA e') (hm : ∀ x, x ∈ e' ↔ x ∈ e ∨ (x = n /\ 0 <= n /\ n <= 1114111)) : EdgeOK k rows e' :=
 ⟨ha, (hm 0).2 (.inl h.lo), (hm _).2 (.inl h.hi), fun x hx => by
  rcases (hm x).1 hx with h1 | h1
  ·exact h.rng x h1
  ·omega, fun x hx a b c => (hm _).2 (.inl (h.fr x hx a b c)), fun x hx a b c => (hm _).2 (.inl (h.to x hx a b c))⟩
end Go.Eng.Rows
set_option linter.constructorNameAsVariable false
namespace Go.Eng
open Go Go.Proofs Go.Eng.Rows
def zu3 (rows : List Row) (k r m : Int) : Prop :=
 (m = -1 /\ (0 <= r -> r <= 1114111 -> first rows k r = none)) ∨ (0 <= m /\ ∃ h : m.toNat < rows.length, (0 <= r /\ r <= 1114111) /\ first rows k r = some (rows[m.toNat].a, rows[m.toNat].b))
theorem zu4 {rows : List Row} {k r : Int} (h : ∀ x ∈ rows, x.has k r = false) : first rows k r = none := by
 unfold first
 rw [List.find?_eq_none.2 fun x hx => by simp [h x hx]];rfl
theorem zu5 {rows : List Row} {k r : Int} {i : Nat} (hi : i < rows.length) (hb : ∀ x ∈ rows.take i, x.has k r = false) (h : rows[i].has k r = true) : first rows k r = some (rows[i].a, rows[i].b) := by
 unfold first
 have e : rows = rows.take i ++ rows[i] :: rows.drop (i + 1) := by rw [qba]; simp
 rw [show (rows.find? fun x => x.has k r) = some rows[i] by
  conv => lhs; rw [e]
  rw [List.find?_append, List.find?_eq_none.2 fun x hx => by simp [hb x hx]]
  simp only [List.find?_cons, h, Option.none_or]]
 rfl
theorem p33 (n f : Bool) (rows : List Row) (k r : Int) (hl : rows.length < 4611686018427387904) : PCall qa 130 [.sl n f (bH rows), .int .i64 k, .int .i64 r] fun v => ∃ m, v = .int .i64 m /\ zu3 rows k r m := by
 refine zuj _ _ _ _ _ (fun i => 0 <= i /\ i <= rows.length /\ ∀ x ∈ rows.take i.toNat, x.has k r = false) (fun i => rows.length - i.toNat) ?_;unfold zjx;refine aC (fun h => ?_) (fun h => ?_)
 ·simp only [qbw, aB, gt_iff_lt] at h;exact ⟨_, rfl, .inl ⟨rfl, fun a b => by omega⟩⟩
 ·simp only [qbw, aB, gt_iff_lt] at h;refine ⟨⟨rfl, qe _, by omega, fun x hx => by simp at hx⟩, ?_⟩;rintro i ⟨i0, i1, hb⟩;refine aC (fun hc => ?_) (fun hc => ?_)
  ·simp only [aB, jU] at hc;have hi : i.toNat < rows.length := by omega
   have hw : i64.wrap (i + 1) = i + 1 := wz;have hn : (i + 1).toNat = i.toNat + 1 := by omega
   have hg : (bH rows).getD i.toNat [] = oI rows[i.toNat] := c7 hi;have hix : aD (bH rows) i 5 := cS qP i0 hc;have hmu : rows.length - (i + 1).toNat < rows.length - i.toNat := by omega
   have hnx : rows[i.toNat].has k r = false -> 0 <= i + 1 /\ i + 1 <= rows.length /\ ∀ x ∈ rows.take (i + 1).toNat, x.has k r = false := fun hh => by
    refine ⟨by omega, by omega, fun x hx => ?_⟩;rw [hn, dI hi] at hx;rcases List.mem_append.1 hx with hx | hx
    ·exact hb x hx
    ·simp only [qam] at hx; subst hx; exact hh
   simp only [hw];refine ⟨hix, rows[i.toNat].kind, by rw [hg]; rfl, ?_⟩;refine aC (fun h1 => ?_) (fun h1 => ⟨rfl, hnx (by simp [Row.has]; intro a; simp [a] at h1), hmu⟩);simp only [beq_iff_eq] at h1;refine ⟨hix, rows[i.toNat].fr, by rw [hg]; rfl, ?_⟩;refine aC (fun h2 => ?_) (fun h2 => ⟨rfl, hnx (by simp only [aB] at h2; simp [Row.has, h2]), hmu⟩);simp only [aB] at h2;refine ⟨hix, rows[i.toNat].to, by rw [hg]; rfl, ?_⟩;refine aC (fun h3 => ?_) (fun h3 => ⟨rfl, hnx (by simp only [aB] at h3; simp [Row.has, h3]), hmu⟩);simp only [aB] at h3;exact ⟨_, rfl, .inr ⟨i0, hi, ⟨by omega, by omega⟩, zu5 hi hb (by simp [Row.has, h1, h2, h3])⟩⟩
  ·simp only [aB, jU] at hc;rw [qf (by omega)] at hb;exact ⟨_, rfl, .inl ⟨rfl, fun _ _ => zu4 hb⟩⟩
def nB (x : Sp) (t : Int) : Int := if x.to < t then -1 else if t < x.fr then 1 else 0
theorem p67 (x : Sp) (t : Int) : PCall qa 87 [.agg (dX x), .int .i64 t] fun v => v = .int .i64 (nB x t) := by
 refine zuk _ _ _ _ _ ?_; unfold zjy;refine aC (fun h => ?_) (fun h => aC (fun h' => ?_) (fun h' => ?_)) <;> simp only [aB, gt_iff_lt] at *
 ·simp [nB, h]
 ·simp [nB, h, h']
 ·simp [nB, h, h']
theorem zkd {i j : Int} (h0 : 0 <= i) (h1 : i <= j) (h2 : j <= 4611686018427387904 - 1) : i64.wrap ((IntKind.u64.wrap (i64.wrap (i + j))).fdiv (2 ^ 1)) = (i + j) / 2 := by
 have e1 : i64.wrap (i + j) = i + j := wz
 have e2 : IntKind.u64.wrap (i + j) = i + j := by
  unfold IntKind.wrap;simp only [IntKind.bits, IntKind.signed, Bool.false_and, qbj, if_false];exact Int.emod_eq_of_lt (by omega) (by omega)
 rw [e1, e2, Int.fdiv_eq_ediv_of_nonneg _ (by decide)];exact wz
theorem p66 (n f : Bool) (l : List Sp) (t : Int) (hl : Rows.Good l) : PCall qa 86 [.sl n f (aN l), .int .i64 t, .fn 87 []] fun v => ∃ m q, v = .tup [.int .i64 m, .bool q] /\ (q = true -> 0 <= m /\ ∃ h : m.toNat < l.length, l[m.toNat].has t) /\ (q = false -> ∀ x ∈ l, ¬ x.has t) := by
 refine zul _ _ _ _ (fun i j => 0 <= i /\ i <= j /\ j <= l.length /\ (∀ k (h : k < l.length), (k : Int) < i -> l[k].to < t) /\ (∀ k (h : k < l.length), j <= (k : Int) -> ¬ l[k].to < t)) (fun i j => (j - i).toNat) ?_;unfold zjz;have hll := hl.len
 have hmono : ∀ a b (ha : a < l.length) (hb : b < l.length), a <= b -> l[a].to <= l[b].to := fun a b ha hb h => by
  by_cases e : a = b
  ·subst e; exact qe _
  ·have := (List.pairwise_iff_getElem.1 hl.1) a b ha hb (by omega);have := hl.2 l[b] (qj hb);omega
 refine ⟨⟨by simp only [fX]; rfl, qe _, by simp only [fX]; omega, by simp only [fX]; omega, fun k h hk => by omega, fun k h hk => by simp only [fX] at hk; omega⟩, ?_⟩;rintro i j ⟨i0, ij, jn, hlo, hhi⟩;refine aC (fun hc => ?_) (fun hc => ?_)
 ·simp only [aB] at hc;have hm := zkd i0 ij (by omega);simp only [hm];have hmi : ((i + j) / 2).toNat < l.length := by omega
  have hg : (aN l).getD ((i + j) / 2).toNat [] = dX l[((i + j) / 2).toNat] := c7 hmi;have hw : i64.wrap ((i + j) / 2 + 1) = (i + j) / 2 + 1 := wz;refine ⟨cS jT (by omega) (by omega), l[((i + j) / 2).toNat].fr, by rw [hg]; rfl, l[((i + j) / 2).toNat].to, by rw [hg]; rfl, l[((i + j) / 2).toNat].a, by rw [hg]; rfl, l[((i + j) / 2).toNat].b, by rw [hg]; rfl, ?_⟩;refine (p67 l[((i + j) / 2).toNat] t).mono ?_;rintro _ rfl;refine ⟨_, rfl, ?_⟩;simp only [hw];refine aC (fun hq => ?_) (fun hq => ?_)
  ·simp only [aB] at hq
   have hlt : l[((i + j) / 2).toNat].to < t := by
    unfold nB at hq;split at hq
    ·assumption
    ·split at hq <;> omega
   refine ⟨rfl, ⟨by omega, by omega, jn, fun k h hk => ?_, hhi⟩, by omega⟩;have := hmono k ((i + j) / 2).toNat h hmi (by omega);omega
  ·simp only [aB] at hq
   have hlt : ¬ l[((i + j) / 2).toNat].to < t := by
    intro h;unfold nB at hq;rw [if_pos h] at hq;omega
   refine ⟨rfl, ⟨i0, by omega, by omega, hlo, fun k h hk => ?_⟩, by omega⟩;have := hmono ((i + j) / 2).toNat k hmi h (by omega);omega
 ·simp only [aB] at hc;have e : i = j := by omega
  subst e
  have hno : (∀ h : i.toNat < l.length, ¬ l[i.toNat].has t) -> ∀ x ∈ l, ¬ x.has t := fun hn x hx => by
   obtain ⟨k, hk, rfl⟩ := qbf hx;by_cases c : (k : Int) < i
   ·have := hlo k hk c;intro hh; have := hh.2; omega
   ·by_cases c' : (k : Int) = i
    ·have e : k = i.toNat := by omega
     subst e; exact hn hk
    ·have h1 := hhi i.toNat (by omega) (by omega);have h2 := (List.pairwise_iff_getElem.1 hl.1) i.toNat k (by omega) hk (by omega);intro hh; have := hh.1; omega
  refine aC (fun hq => ?_) (fun hq => ?_)
  ·simp only [aB, fX] at hq;have hi : i.toNat < l.length := by omega
   have hg : (aN l).getD i.toNat [] = dX l[i.toNat] := c7 hi;have h1 := hhi i.toNat hi (by omega);refine ⟨cS jT i0 hq, l[i.toNat].fr, by rw [hg]; rfl, l[i.toNat].to, by rw [hg]; rfl, l[i.toNat].a, by rw [hg]; rfl, l[i.toNat].b, by rw [hg]; rfl, ?_⟩;refine (p67 l[i.toNat] t).mono ?_;rintro _ rfl;refine ⟨_, rfl, _, _, rfl, fun hq => ?_, fun hq => hno fun hi' => ?_⟩
   ·simp only [nB, if_neg h1, beq_iff_eq] at hq;refine ⟨i0, hi, ?_, by omega⟩;by_cases c : t < l[i.toNat].fr
    ·rw [if_pos c] at hq; cases hq
    ·omega
   ·intro hh;have h2 := hh.1;simp only [nB, if_neg h1, if_neg (show ¬ t < l[i.toNat].fr by omega)] at hq;simp at hq
  ·simp only [aB, fX] at hq;exact ⟨_, _, rfl, fun h => (by cases h), fun _ => hno fun hi => absurd hi (by omega)⟩
theorem p34 (n f : Bool) (l : List Sp) (r : Int) (hl : Rows.Good l) (hr : -2147483648 <= r /\ r <= 2147483647) : PCall qa 58 [.sl n f (aN l), .int .i32 r] fun v => ∃ x q, v = .tup [.agg (dX x), .bool q] /\ (q = true -> x ∈ l /\ x.has r) /\ (q = false -> x = ⟨0, 0, 0, 0⟩ /\ ∀ x ∈ l, ¬ x.has r) := by
 refine zum _ _ _ _ ?_; unfold zj0;have hw : i64.wrap r = r := wz;rw [hw];refine (p66 n f l r hl).mono ?_;rintro _ ⟨m, q, rfl, h1, h2⟩;refine ⟨_, rfl, rfl, _, rfl, _, rfl, _, rfl, _, rfl, ?_⟩;cases q with
 | false => exact ⟨⟨0, 0, 0, 0⟩, false, rfl, fun h => (by cases h), fun _ => ⟨rfl, h2 rfl⟩⟩
 | true =>
   obtain ⟨m0, hm, hh⟩ := h1 rfl;have hg : (aN l).getD m.toNat [] = dX l[m.toNat] := c7 hm;exact ⟨cS jT m0 (by omega), l[m.toNat].fr, by rw [hg]; rfl, l[m.toNat].to, by rw [hg]; rfl, l[m.toNat].a, by rw [hg]; rfl, l[m.toNat].b, by rw [hg]; rfl, l[m.toNat], true, rfl, fun _ => ⟨qj _, hh⟩, fun h => (by cases h)⟩
def zcb : List Row := [⟨1, 768, 788, 230, 0⟩, ⟨1, 789, 789, 232, 0⟩, ⟨1, 790, 793, 220, 0⟩, ⟨1, 794, 794, 232, 0⟩, ⟨1, 795, 795, 216, 0⟩, ⟨1, 796, 800, 220, 0⟩, ⟨1, 801, 802, 202, 0⟩, ⟨1, 803, 806, 220, 0⟩, ⟨1, 807, 808, 202, 0⟩, ⟨1, 809, 819, 220, 0⟩, ⟨1, 820, 824, 1, 0⟩, ⟨1, 825, 828, 220, 0⟩, ⟨1, 829, 836, 230, 0⟩, ⟨1, 837, 837, 240, 0⟩, ⟨1, 838, 838, 230, 0⟩, ⟨1, 839, 841, 220, 0⟩, ⟨1, 842, 844, 230, 0⟩, ⟨1, 845, 846, 220, 0⟩, ⟨1, 848, 850, 230, 0⟩, ⟨1, 851, 854, 220, 0⟩, ⟨1, 855, 855, 230, 0⟩, ⟨1, 856, 856, 232, 0⟩, ⟨1, 857, 858, 220, 0⟩, ⟨1, 859, 859, 230, 0⟩, ⟨1, 860, 860, 233, 0⟩, ⟨1, 861, 862, 234, 0⟩, ⟨1, 863, 863, 233, 0⟩, ⟨1, 864, 865, 234, 0⟩, ⟨1, 866, 866, 233, 0⟩, ⟨1, 867, 879, 230, 0⟩, ⟨1, 1155, 1159, 230, 0⟩, ⟨1, 1456, 1456, 10, 0⟩, ⟨1, 1457, 1457, 11, 0⟩, ⟨1, 1458, 1458, 12, 0⟩, ⟨1, 1459, 1459, 13, 0⟩, ⟨1, 1460, 1460, 14, 0⟩, ⟨1, 1461, 1461, 15, 0⟩, ⟨1, 1462, 1462, 16, 0⟩, ⟨1, 1463, 1463, 17, 0⟩, ⟨1, 1464, 1464, 18, 0⟩, ⟨1, 1465, 1466, 19, 0⟩, ⟨1, 1467, 1467, 20, 0⟩, ⟨1, 1468, 1468, 21, 0⟩, ⟨1, 1469, 1469, 22, 0⟩, ⟨1, 1471, 1471, 23, 0⟩, ⟨1, 1473, 1473, 24, 0⟩, ⟨1, 1474, 1474, 25, 0⟩, ⟨1, 1479, 1479, 18, 0⟩, ⟨1, 1611, 1611, 27, 0⟩, ⟨1, 1612, 1612, 28, 0⟩, ⟨1, 1613, 1613, 29, 0⟩, ⟨1, 1614, 1614, 30, 0⟩, ⟨1, 1615, 1615, 31, 0⟩, ⟨1, 1616, 1616, 32, 0⟩, ⟨1, 1617, 1617, 33, 0⟩, ⟨1, 1618, 1618, 34, 0⟩, ⟨1, 1619, 1620, 230, 0⟩, ⟨1, 1621, 1622, 220, 0⟩, ⟨1, 1648, 1648, 35, 0⟩, ⟨1, 2364, 2364, 7, 0⟩, ⟨1, 2381, 2381, 9, 0⟩, ⟨1, 2385, 2385, 230, 0⟩, ⟨1, 2386, 2386, 220, 0⟩, ⟨1, 2387, 2388, 230, 0⟩, ⟨1, 2492, 2492, 7, 0⟩, ⟨1, 2509, 2509, 9, 0⟩, ⟨1, 3021, 3021, 9, 0⟩, ⟨1, 3640, 3641, 103, 0⟩, ⟨1, 3642, 3642, 9, 0⟩, ⟨1, 3656, 3659, 107, 0⟩, ⟨1, 3953, 3953, 129, 0⟩, ⟨1, 3954, 3954, 130, 0⟩, ⟨1, 3956, 3956, 132, 0⟩, ⟨1, 8400, 8401, 230, 0⟩, ⟨1, 8402, 8403, 1, 0⟩, ⟨1, 8404, 8407, 230, 0⟩, ⟨1, 8411, 8412, 230, 0⟩, ⟨1, 8417, 8417, 230, 0⟩, ⟨1, 8424, 8424, 220, 0⟩, ⟨1, 12441, 12442, 8, 0⟩, ⟨1, 65056, 65062, 230, 0⟩, ⟨1, 119141, 119141, 216, 0⟩]
theorem p72 : PCall qa 25 [] fun v => v = .sl false true (bH zcb) := by
 refine zun ?_; unfold zj1; rfl
def tab73 : List Row := [⟨2, 192, 192, 65, 768⟩, ⟨2, 193, 193, 65, 769⟩, ⟨2, 194, 194, 65, 770⟩, ⟨2, 195, 195, 65, 771⟩, ⟨2, 196, 196, 65, 776⟩, ⟨2, 197, 197, 65, 778⟩, ⟨2, 199, 199, 67, 807⟩, ⟨2, 200, 200, 69, 768⟩, ⟨2, 201, 201, 69, 769⟩, ⟨2, 202, 202, 69, 770⟩, ⟨2, 203, 203, 69, 776⟩, ⟨2, 204, 204, 73, 768⟩, ⟨2, 205, 205, 73, 769⟩, ⟨2, 206, 206, 73, 770⟩, ⟨2, 207, 207, 73, 776⟩, ⟨2, 209, 209, 78, 771⟩, ⟨2, 210, 210, 79, 768⟩, ⟨2, 211, 211, 79, 769⟩, ⟨2, 212, 212, 79, 770⟩, ⟨2, 213, 213, 79, 771⟩, ⟨2, 214, 214, 79, 776⟩, ⟨2, 217, 217, 85, 768⟩, ⟨2, 218, 218, 85, 769⟩, ⟨2, 219, 219, 85, 770⟩, ⟨2, 220, 220, 85, 776⟩, ⟨2, 221, 221, 89, 769⟩, ⟨2, 224, 224, 97, 768⟩, ⟨2, 225, 225, 97, 769⟩, ⟨2, 226, 226, 97, 770⟩, ⟨2, 227, 227, 97, 771⟩, ⟨2, 228, 228, 97, 776⟩, ⟨2, 229, 229, 97, 778⟩, ⟨2, 231, 231, 99, 807⟩, ⟨2, 232, 232, 101, 768⟩, ⟨2, 233, 233, 101, 769⟩, ⟨2, 234, 234, 101, 770⟩, ⟨2, 235, 235, 101, 776⟩, ⟨2, 236, 236, 105, 768⟩, ⟨2, 237, 237, 105, 769⟩, ⟨2, 238, 238, 105, 770⟩, ⟨2, 239, 239, 105, 776⟩, ⟨2, 241, 241, 110, 771⟩, ⟨2, 242, 242, 111, 768⟩, ⟨2, 243, 243, 111, 769⟩, ⟨2, 244, 244, 111, 770⟩, ⟨2, 245, 245, 111, 771⟩, ⟨2, 246, 246, 111, 776⟩, ⟨2, 249, 249, 117, 768⟩, ⟨2, 250, 250, 117, 769⟩, ⟨2, 251, 251, 117, 770⟩, ⟨2, 252, 252, 117, 776⟩, ⟨2, 253, 253, 121, 769⟩, ⟨2, 255, 255, 121, 776⟩, ⟨2, 256, 256, 65, 772⟩, ⟨2, 257, 257, 97, 772⟩, ⟨2, 258, 258, 65, 774⟩, ⟨2, 259, 259, 97, 774⟩, ⟨2, 260, 260, 65, 808⟩, ⟨2, 261, 261, 97, 808⟩, ⟨2, 262, 262, 67, 769⟩, ⟨2, 263, 263, 99, 769⟩, ⟨2, 268, 268, 67, 780⟩, ⟨2, 269, 269, 99, 780⟩, ⟨2, 274, 274, 69, 772⟩, ⟨2, 275, 275, 101, 772⟩, ⟨2, 280, 280, 69, 808⟩, ⟨2, 281, 281, 101, 808⟩, ⟨2, 304, 304, 73, 775⟩, ⟨2, 323, 323, 78, 769⟩, ⟨2, 324, 324, 110, 769⟩, ⟨2, 352, 352, 83, 780⟩, ⟨2, 353, 353, 115, 780⟩, ⟨2, 381, 381, 90, 780⟩, ⟨2, 382, 382, 122, 780⟩, ⟨2, 416, 416, 79, 795⟩, ⟨2, 417, 417, 111, 795⟩, ⟨2, 431, 431, 85, 795⟩, ⟨2, 432, 432, 117, 795⟩, ⟨2, 469, 469, 220, 772⟩, ⟨2, 470, 470, 252, 772⟩, ⟨2, 471, 471, 220, 769⟩, ⟨2, 472, 472, 252, 769⟩, ⟨2, 480, 480, 550, 772⟩, ⟨2, 481, 481, 551, 772⟩, ⟨2, 550, 550, 65, 775⟩, ⟨2, 551, 551, 97, 775⟩, ⟨2, 832, 832, 768, 0⟩, ⟨2, 833, 833, 769, 0⟩, ⟨2, 835, 835, 787, 0⟩, ⟨2, 836, 836, 776, 769⟩, ⟨2, 884, 884, 697, 0⟩, ⟨2, 894, 894, 59, 0⟩, ⟨2, 901, 901, 168, 769⟩, ⟨2, 902, 902, 913, 769⟩, ⟨2, 903, 903, 183, 0⟩, ⟨2, 904, 904, 917, 769⟩, ⟨2, 912, 912, 970, 769⟩, ⟨2, 940, 940, 945, 769⟩, ⟨2, 941, 941, 949, 769⟩, ⟨2, 944, 944, 971, 769⟩, ⟨2, 970, 970, 953, 776⟩, ⟨2, 971, 971, 965, 776⟩, ⟨2, 2345, 2345, 2344, 2364⟩, ⟨2, 2353, 2353, 2352, 2364⟩, ⟨2, 2356, 2356, 2355, 2364⟩, ⟨2, 2392, 2392, 2325, 2364⟩, ⟨2, 2393, 2393, 2326, 2364⟩, ⟨2, 2396, 2396, 2337, 2364⟩, ⟨2, 2507, 2507, 2503, 2494⟩, ⟨2, 2508, 2508, 2503, 2519⟩, ⟨2, 3018, 3018, 3014, 3006⟩, ⟨2, 3955, 3955, 3953, 3954⟩, ⟨2, 3957, 3957, 3953, 3956⟩, ⟨2, 7692, 7692, 68, 803⟩, ⟨2, 7693, 7693, 100, 803⟩, ⟨2, 7776, 7776, 83, 775⟩, ⟨2, 7777, 7777, 115, 775⟩, ⟨2, 7778, 7778, 83, 803⟩, ⟨2, 7779, 7779, 115, 803⟩, ⟨2, 7784, 7784, 7778, 775⟩, ⟨2, 7785, 7785, 7779, 775⟩, ⟨2, 7840, 7840, 65, 803⟩, ⟨2, 7841, 7841, 97, 803⟩, ⟨2, 7842, 7842, 65, 777⟩, ⟨2, 7843, 7843, 97, 777⟩, ⟨2, 7844, 7844, 194, 769⟩, ⟨2, 7845, 7845, 226, 769⟩, ⟨2, 7846, 7846, 194, 768⟩, ⟨2, 7847, 7847, 226, 768⟩, ⟨2, 7848, 7848, 194, 777⟩, ⟨2, 7849, 7849, 226, 777⟩, ⟨2, 7850, 7850, 194, 771⟩, ⟨2, 7851, 7851, 226, 771⟩, ⟨2, 7852, 7852, 7840, 770⟩, ⟨2, 7853, 7853, 7841, 770⟩, ⟨2, 7854, 7854, 258, 769⟩, ⟨2, 7855, 7855, 259, 769⟩, ⟨2, 7856, 7856, 258, 768⟩, ⟨2, 7857, 7857, 259, 768⟩, ⟨2, 7858, 7858, 258, 777⟩, ⟨2, 7859, 7859, 259, 777⟩, ⟨2, 7860, 7860, 258, 771⟩, ⟨2, 7861, 7861, 259, 771⟩, ⟨2, 7862, 7862, 7840, 774⟩, ⟨2, 7863, 7863, 7841, 774⟩, ⟨2, 7884, 7884, 79, 803⟩, ⟨2, 7885, 7885, 111, 803⟩, ⟨2, 7896, 7896, 7884, 770⟩, ⟨2, 7897, 7897, 7885, 770⟩, ⟨2, 7936, 7936, 945, 787⟩, ⟨2, 7937, 7937, 945, 788⟩, ⟨2, 7938, 7938, 7936, 768⟩, ⟨2, 7939, 7939, 7937, 768⟩, ⟨2, 8049, 8049, 940, 0⟩, ⟨2, 8064, 8064, 7936, 837⟩, ⟨2, 8115, 8115, 945, 837⟩, ⟨2, 8486, 8486, 937, 0⟩, ⟨2, 8490, 8490, 75, 0⟩, ⟨2, 8491, 8491, 197, 0⟩, ⟨2, 8800, 8800, 61, 824⟩, ⟨2, 8814, 8814, 60, 824⟩, ⟨2, 10972, 10972, 10973, 824⟩, ⟨2, 12364, 12364, 12363, 12441⟩, ⟨2, 12366, 12366, 12365, 12441⟩, ⟨2, 12400, 12400, 12399, 12441⟩, ⟨2, 12401, 12401, 12399, 12442⟩, ⟨2, 12460, 12460, 12459, 12441⟩, ⟨2, 12497, 12497, 12495, 12442⟩, ⟨2, 12532, 12532, 12454, 12441⟩, ⟨2, 63744, 63744, 35912, 0⟩, ⟨2, 63745, 63745, 26356, 0⟩, ⟨2, 64285, 64285, 1497, 1460⟩, ⟨2, 64287, 64287, 1522, 1463⟩, ⟨2, 64298, 64298, 1513, 1473⟩, ⟨2, 64299, 64299, 1513, 1474⟩, ⟨2, 64300, 64300, 64329, 1473⟩, ⟨2, 64329, 64329, 1513, 1468⟩, ⟨2, 119134, 119134, 119127, 119141⟩]
theorem p73 : PCall qa 26 [] fun v => v = .sl false true (bH tab73) := by
 refine zuo ?_; unfold zj2; rfl
def zcc : List Row := [⟨3, 2392, 2393, 1, 0⟩, ⟨3, 2396, 2396, 1, 0⟩, ⟨3, 10972, 10972, 1, 0⟩, ⟨3, 64285, 64285, 1, 0⟩, ⟨3, 64287, 64287, 1, 0⟩, ⟨3, 64298, 64300, 1, 0⟩, ⟨3, 64329, 64329, 1, 0⟩, ⟨3, 119134, 119134, 1, 0⟩]
theorem p74 : PCall qa 27 [] fun v => v = .sl false true (bH zcc) := by
 refine zup ?_; unfold zj3; rfl
def zcd : List Row := [⟨4, 0, 9, 3, 0⟩, ⟨4, 10, 10, 2, 0⟩, ⟨4, 11, 12, 3, 0⟩, ⟨4, 13, 13, 1, 0⟩, ⟨4, 14, 31, 3, 0⟩, ⟨4, 127, 159, 3, 0⟩, ⟨4, 173, 173, 3, 0⟩, ⟨4, 768, 879, 4, 0⟩, ⟨4, 1155, 1161, 4, 0⟩, ⟨4, 1425, 1469, 4, 0⟩, ⟨4, 1471, 1471, 4, 0⟩, ⟨4, 1473, 1474, 4, 0⟩, ⟨4, 1479, 1479, 4, 0⟩, ⟨4, 1536, 1541, 7, 0⟩, ⟨4, 1611, 1631, 4, 0⟩, ⟨4, 1648, 1648, 4, 0⟩, ⟨4, 1757, 1757, 7, 0⟩, ⟨4, 1807, 1807, 7, 0⟩, ⟨4, 2307, 2307, 8, 0⟩, ⟨4, 2362, 2362, 4, 0⟩, ⟨4, 2363, 2363, 8, 0⟩, ⟨4, 2364, 2364, 4, 0⟩, ⟨4, 2366, 2368, 8, 0⟩, ⟨4, 2369, 2376, 4, 0⟩, ⟨4, 2377, 2380, 8, 0⟩, ⟨4, 2381, 2381, 4, 0⟩, ⟨4, 2385, 2391, 4, 0⟩, ⟨4, 2434, 2435, 8, 0⟩, ⟨4, 2492, 2492, 4, 0⟩, ⟨4, 2494, 2494, 4, 0⟩, ⟨4, 2495, 2496, 8, 0⟩, ⟨4, 2503, 2504, 8, 0⟩, ⟨4, 2507, 2508, 8, 0⟩, ⟨4, 2509, 2509, 4, 0⟩, ⟨4, 2519, 2519, 4, 0⟩, ⟨4, 3006, 3006, 4, 0⟩, ⟨4, 3007, 3007, 8, 0⟩, ⟨4, 3014, 3016, 8, 0⟩, ⟨4, 3018, 3020, 8, 0⟩, ⟨4, 3021, 3021, 4, 0⟩, ⟨4, 3633, 3633, 4, 0⟩, ⟨4, 3635, 3635, 8, 0⟩, ⟨4, 3636, 3642, 4, 0⟩, ⟨4, 3655, 3662, 4, 0⟩, ⟨4, 3953, 3966, 4, 0⟩, ⟨4, 4352, 4447, 9, 0⟩, ⟨4, 4448, 4519, 10, 0⟩, ⟨4, 4520, 4607, 11, 0⟩, ⟨4, 8203, 8203, 3, 0⟩, ⟨4, 8204, 8204, 4, 0⟩, ⟨4, 8205, 8205, 5, 0⟩, ⟨4, 8206, 8207, 3, 0⟩, ⟨4, 8232, 8238, 3, 0⟩, ⟨4, 8288, 8303, 3, 0⟩, ⟨4, 8400, 8432, 4, 0⟩, ⟨4, 12330, 12335, 4, 0⟩, ⟨4, 12441, 12442, 4, 0⟩, ⟨4, 43360, 43388, 9, 0⟩, ⟨4, 55216, 55238, 10, 0⟩, ⟨4, 55243, 55291, 11, 0⟩, ⟨4, 65024, 65039, 4, 0⟩, ⟨4, 65056, 65071, 4, 0⟩, ⟨4, 65279, 65279, 3, 0⟩, ⟨4, 119141, 119141, 4, 0⟩, ⟨4, 127462, 127487, 6, 0⟩, ⟨4, 127995, 127999, 4, 0⟩, ⟨4, 917505, 917535, 3, 0⟩, ⟨4, 917536, 917631, 4, 0⟩, ⟨4, 917760, 917999, 4, 0⟩]
theorem p75 : PCall qa 28 [] fun v => v = .sl false true (bH zcd) := by
 refine zuq ?_; unfold zj4; rfl
def zce : List Row := [⟨5, 169, 169, 1, 0⟩, ⟨5, 174, 174, 1, 0⟩, ⟨5, 8252, 8252, 1, 0⟩, ⟨5, 8265, 8265, 1, 0⟩, ⟨5, 8482, 8482, 1, 0⟩, ⟨5, 8505, 8505, 1, 0⟩, ⟨5, 8596, 8601, 1, 0⟩, ⟨5, 8617, 8618, 1, 0⟩, ⟨5, 8986, 8987, 1, 0⟩, ⟨5, 9193, 9203, 1, 0⟩, ⟨5, 9728, 9733, 1, 0⟩, ⟨5, 9735, 9746, 1, 0⟩, ⟨5, 9748, 9861, 1, 0⟩, ⟨5, 9872, 9989, 1, 0⟩, ⟨5, 9992, 10002, 1, 0⟩, ⟨5, 10084, 10087, 1, 0⟩, ⟨5, 127744, 127994, 1, 0⟩, ⟨5, 128000, 128317, 1, 0⟩, ⟨5, 128326, 128591, 1, 0⟩, ⟨5, 128640, 128767, 1, 0⟩, ⟨5, 129292, 129338, 1, 0⟩, ⟨5, 129351, 129791, 1, 0⟩]
theorem p76 : PCall qa 29 [] fun v => v = .sl false true (bH zce) := by
 refine zur ?_; unfold zj5; rfl
def zcf : List Row := [⟨6, 2325, 2361, 2, 0⟩, ⟨6, 2381, 2381, 1, 0⟩, ⟨6, 2392, 2399, 2, 0⟩, ⟨6, 2453, 2472, 2, 0⟩, ⟨6, 2509, 2509, 1, 0⟩]
theorem p77 : PCall qa 30 [] fun v => v = .sl false true (bH zcf) := by
 refine zus ?_; unfold zj6; rfl
def zcg : List Row := [⟨7, 4352, 4447, 1, 0⟩, ⟨7, 8986, 8987, 1, 0⟩, ⟨7, 9193, 9196, 1, 0⟩, ⟨7, 9748, 9749, 1, 0⟩, ⟨7, 11904, 12350, 1, 0⟩, ⟨7, 12353, 13311, 1, 0⟩, ⟨7, 13312, 19903, 1, 0⟩, ⟨7, 19968, 40959, 1, 0⟩, ⟨7, 43360, 43388, 1, 0⟩, ⟨7, 44032, 55203, 1, 0⟩, ⟨7, 63744, 64255, 1, 0⟩, ⟨7, 65072, 65135, 1, 0⟩, ⟨7, 65281, 65376, 1, 0⟩, ⟨7, 65504, 65510, 1, 0⟩, ⟨7, 127744, 127994, 1, 0⟩, ⟨7, 128000, 128317, 1, 0⟩, ⟨7, 128326, 128591, 1, 0⟩, ⟨7, 128640, 128767, 1, 0⟩, ⟨7, 129292, 129338, 1, 0⟩, ⟨7, 129351, 129791, 1, 0⟩, ⟨7, 131072, 262141, 1, 0⟩]
theorem p78 : PCall qa 31 [] fun v => v = .sl false true (bH zcg) := by
 refine zut ?_; unfold zj7; rfl
def zch : List Row := [⟨8, 48, 57, 1, 0⟩, ⟨8, 65, 90, 1, 0⟩, ⟨8, 95, 95, 1, 0⟩, ⟨8, 97, 122, 1, 0⟩, ⟨8, 170, 170, 1, 0⟩, ⟨8, 181, 181, 1, 0⟩, ⟨8, 186, 186, 1, 0⟩, ⟨8, 192, 214, 1, 0⟩, ⟨8, 216, 246, 1, 0⟩, ⟨8, 248, 705, 1, 0⟩, ⟨8, 880, 883, 1, 0⟩, ⟨8, 886, 887, 1, 0⟩, ⟨8, 902, 902, 1, 0⟩, ⟨8, 904, 1023, 1, 0⟩, ⟨8, 1024, 1153, 1, 0⟩, ⟨8, 1162, 1327, 1, 0⟩, ⟨8, 1329, 1366, 1, 0⟩, ⟨8, 1488, 1514, 1, 0⟩, ⟨8, 1568, 1610, 1, 0⟩, ⟨8, 2308, 2361, 1, 0⟩, ⟨8, 2392, 2401, 1, 0⟩, ⟨8, 2437, 2489, 1, 0⟩, ⟨8, 3585, 3632, 1, 0⟩, ⟨8, 4352, 4607, 1, 0⟩, ⟨8, 7680, 8191, 1, 0⟩, ⟨8, 8486, 8486, 1, 0⟩, ⟨8, 8490, 8491, 1, 0⟩, ⟨8, 12353, 12438, 1, 0⟩, ⟨8, 12449, 12538, 1, 0⟩, ⟨8, 13312, 19903, 1, 0⟩, ⟨8, 19968, 40959, 1, 0⟩, ⟨8, 44032, 55203, 1, 0⟩, ⟨8, 63744, 64255, 1, 0⟩, ⟨8, 131072, 262141, 1, 0⟩]
theorem p79 : PCall qa 32 [] fun v => v = .sl false true (bH zch) := by
 refine zuu ?_; unfold zj8; rfl
def tab : List Row := zcb ++ tab73 ++ zcc ++ zcd ++ zce ++ zcf ++ zcg ++ zch
theorem nC (a b : List Row) : bH a ++ bH b = bH (a ++ b) := by simp [bH]
theorem p42 : PCall qa 8 [] fun v => ∃ n f, v = .sl n f (bH tab) := by
 refine zuv ?_; unfold zj9;have sz : ∀ l : List Row, aU (bH l) 5 := fun l => kB qP l;refine p72.mono ?_; rintro _ rfl;refine ⟨_, _, _, rfl, ⟨rfl, .inl rfl, by intro e he; simp at he, sz _, by simp [jU]; decide⟩, ?_⟩;refine p73.mono ?_; rintro _ rfl;refine ⟨_, _, _, rfl, ⟨sz _, by simp only [qk, nC, jU]; decide⟩, ?_⟩;refine p74.mono ?_; rintro _ rfl;refine ⟨_, _, _, rfl, ⟨sz _, by simp only [qk, nC, jU]; decide⟩, ?_⟩;refine p75.mono ?_; rintro _ rfl;refine ⟨_, _, _, rfl, ⟨sz _, by simp only [qk, nC, jU]; decide⟩, ?_⟩;refine p76.mono ?_; rintro _ rfl;refine ⟨_, _, _, rfl, ⟨sz _, by simp only [qk, nC, jU]; decide⟩, ?_⟩;refine p77.mono ?_; rintro _ rfl;refine ⟨_, _, _, rfl, ⟨sz _, by simp only [qk, nC, jU]; decide⟩, ?_⟩;refine p78.mono ?_; rintro _ rfl;refine ⟨_, _, _, rfl, ⟨sz _, by simp only [qk, nC, jU]; decide⟩, ?_⟩;refine p79.mono ?_; rintro _ rfl;refine ⟨_, _, _, rfl, ⟨sz _, by simp only [qk, nC, jU]; decide⟩, ?_⟩;simp only [qk, nC];exact ⟨_, _, rfl⟩
theorem zu6 : tab.length < 1000 := by decide
end Go.Eng
namespace Go.Eng
open Go Go.Proofs
def zci (n f : Bool) (es : LL) (z i : Int) (x3 x14 : Int) : Env × Hp := ([(1, Y6 z), (2, Y6 i), (3, Y6 x3), (12, LV.pv (PV.sl n f es)), (13, LV.pv (PV.int i64 (es.length : Int))), (14, Y6 x14)], [])
section
variable (n f : Bool) (es : LL) (z i last : Int) (J : Int -> Int -> Prop) (μ : Int -> Int -> Nat)
def zke (R : PV -> Prop) : Prop :=
 (aG (zci n f es z i last (0 : Int)) /\ J last (0 : Int)) /\ ∀ (x3 x14 : Int), J x3 x14 ->
 let K2 := fun (y0_ y1_ : Int) => aG (zci n f es z i y0_ y1_) /\ J y0_ y1_ /\ μ y0_ y1_ < μ x3 x14; if decide (x14 < (↑es.length : Int)) = true then aD es x14 3 /\ ∃ n1, (es.getD x14.toNat []).head? = some (Z6 n1) /\ ∃
  (n2 : Int), (es.getD x14.toNat []).tail.head? = some (Z6 n2) /\ ∃ n3, (es.getD x14.toNat []).tail.tail.head? = some (Z6 n3) /\
 let V1 :=
 let V2 := K2 x3 (i64.wrap (x14 + 1)); if decide (i < n1) = true then if decide (n1 <= x3) = true then K2 (i64.wrap (n1 - 1)) (i64.wrap (x14 + 1)) else V2 else V2; if decide (n1 <= i) = true then if decide (i <= n2) =
  true then R (PV.tup [Z6 n3, Z6 (if x3 < n2 then x3 else n2)]) else V1 else V1 else R (PV.tup [Z6 z, Z6 x3])
theorem zu7 {R : PV -> Prop} (h : zke n f es z i last J μ R) : PCall qa 83 [.sl n f es, .int .i64 z, .int .i64 i, .int .i64 last] R :=
 PCall.wz Tryz.func83 aR [0, 1, 2, 3, 8, 9, 11, 12, 13, 14, 15, 18, 35] (dA 2 (bN jP (zci n f es z i) J μ (fun e h => (gI e 3, gI e 14)) [] [1, 2, 3, 12, 13, 14] [])) h
end
section
variable (s : Int) (n f n2 f2 : Bool) (es bs : LL) (i : Int)
def zkf (R : PV -> Prop) : Prop :=
 if decide (i < 0) = true then R (Z6 0) else ∃ n1, some (Z6 s) = some (Z6 n1) /\ if decide (i >= n1) = true then R (Z6 0) else ∃ n3 f1 es1, some (PV.sl n2 f2 bs) = some (PV.sl n3 f1 es1) /\ ∃ n4 f3 es2, some (PV.sl n f es) = some (PV.sl n4 f3 es2) /\ aD es2 (i64.wrap (i.tdiv (128 : Int))) 1 /\ ∃ n5, (es2.getD (i64.wrap (i.tdiv (128 : Int))).toNat []).head? = some (Z6 n5) /\ aD es1 n5 128 /\ ((0 : Int) <= i.tmod (128 : Int) /\ i.tmod (128 : Int) < (↑128 : Int)) /\ ∃ n6, (qc ((i.tmod (128 : Int)).toNat * (1 : Nat)) (es1.getD n5.toNat [])).head? = some (Z6 n6) /\ R (Z6 n6)
theorem zu8 {R : PV -> Prop} (h : zkf s n f n2 f2 es bs i R) : PCall qa 94 [.ptr [.int .i64 s, .sl n f es, .sl n2 f2 bs], .int .i64 i] R :=
 PCall.wz Tryz.func94 aR [0, 1, 4, 5, 19] bE h
end
section
variable (sz : Int) (kn ev : List (PV × PV)) (ixm ixn bkm bkn : Bool) (ix bk : LL) (b : List PV)
def zkg (R : LV -> Hp -> Prop) : Prop :=
 128 <= (qc 0 b).length /\ c9 qa 161 kn /\ bI qa 161 (PV.agg (qi 128 (qc 0 b))) = true /\ (∀ (v : PV), cR (PV.agg (qi 128 (qc 0 b))) kn = some v -> ∃ n, v = Z6 n /\ R (Y6 n)
  [Ob.box [LV.box 1 0, LV.mp 2, LV.mp 3], Ob.box [Y6 sz, LV.own 4, LV.own 5], Ob.mp kn, Ob.mp ev, Ob.sl (3, 1) ixm ixn ix, Ob.sl (161, 128) bkm bkn bk]) /\ (cR (PV.agg (qi 128 (qc 0 b))) kn = none -> 128 <= (qc 0
  b).length /\ c9 qa 161 kn /\ bI qa 161 (PV.agg (qi 128 (qc 0 b))) = true /\ 128 <= (qc 0 b).length /\
 let V1 := (aU [qi 128 (qc 0 b)] 128 /\ (bk.length + 1) * 1024 <= 140737488355328) /\ R (Y6 (↑bk.length : Int)) [Ob.box [LV.box 1 0, LV.mp 2, LV.mp 3], Ob.box [Y6 sz, LV.own 4, LV.own 5], Ob.mp (bV (PV.agg (qi 128
  (qc 0 b))) (Z6 (↑bk.length : Int)) kn), Ob.mp ev, Ob.sl (3, 1) ixm ixn ix, Ob.sl (161, 128) true (bkn && false) (bk ++ [qi 128 (qc 0 b)])]; ((qi 128 (qc 0 b)).length = 128 /\ V1) /\ (qi 128
  (qc 0 b)).length = 128 /\ V1 /\ V1)
theorem zu9 {R : LV -> Hp -> Prop} (h : zkg sz kn ev ixm ixn bkm bkn ix bk b R) : ACall qa 85 [.box 0 0, .pv (.agg b)] [.box [.box 1 0, .mp 2, .mp 3], .box [.pv (.int .i64 sz), .own 4, .own 5], .mp kn, .mp ev, .sl (3, 1) ixm ixn ix, .sl (161, 128) bkm bkn bk] R :=
 ACall.wz Tryz.func85 aR [0, 1, 3, 4, 5, 6, 17] bE [0,1,2,3,4,5] h
end
def zcj (sz : Int) (ixm ixn bkm bkn : Bool) (ix bk : LL) (v x20 : Int) (m_2 : List (PV × PV)) (m_3 : List (PV × PV)) (c_6 : List PV) : Env × Hp := ([(0, LV.box 0 0), (1, Y6 v), (7, LV.box 6 0), (20, Y6 x20)], [.box [LV.box 1 0, LV.mp 2, LV.mp 3], .box [Y6 sz, LV.own 4, LV.own 5], .mp m_2, .mp m_3, .sl (3, 1) ixm ixn ix, .sl (161, 128) bkm bkn bk, .arr c_6])
section
variable (sz : Int) (kn ev : List (PV × PV)) (ixm ixn bkm bkn : Bool) (ix bk : LL) (v : Int) (J : Int -> (List (PV × PV)) -> (List (PV × PV)) -> (List PV) -> Prop) (μ : Int -> (List (PV × PV)) -> (List (PV × PV)) -> (List PV) -> Nat)
def zkh (R : LV -> Hp -> Prop) : Prop :=
 l6 .i64 ev /\ (∀ (v1 : PV), cR (Z6 v) ev = some v1 -> ∃ n, v1 = Z6 n /\ R (Y6 n) [Ob.box [LV.box 1 0, LV.mp 2, LV.mp 3], Ob.box [Y6 sz, LV.own 4, LV.own 5], Ob.mp kn, Ob.mp ev, Ob.sl (3, 1) ixm ixn ix, Ob.sl (161, 128) bkm bkn bk]) /\ (cR (Z6 v) ev = none -> (SameSt ([(0, LV.box 0 0), (1, Y6 v), (7, LV.box 6 0), (20, Y6 0)], [Ob.box [LV.box 1 0, LV.mp 2, LV.mp 3], Ob.box [Y6 sz, LV.own 4, LV.own 5], Ob.mp kn, Ob.mp ev, Ob.sl (3, 1) (bif false then true else ixm) ixn ix, Ob.sl (161, (128 : Nat)) (bif false then true else bkm) bkn bk, Ob.arr (qb 128 (Z6 0))]) (zcj sz ixm ixn bkm bkn ix bk v (0 : Int) kn ev (qb 128 (Z6 0))) /\ J (0 : Int) kn ev (qb 128 (Z6 0))) /\ ∀ (x20 : Int) (m_2 m_3 : List (PV × PV)) (c_6 : List PV), J x20 m_2 m_3 c_6 -> if decide (x20 < 128) = true then ((0 : Int) <= x20 /\ x20 < (↑128 : Int)) /\ (1 = 1 /\ 0 + x20.toNat * 1 + 1 <= c_6.length) /\ SameSt ([(0, LV.box 0 0), (1, Y6 v), (7, LV.box 6 0), (20, LV.pv (Z6 (i64.wrap (x20 + 1))))], [Ob.box [LV.box 1 0, LV.mp 2, LV.mp 3], Ob.box [Y6 sz, LV.own 4, LV.own 5], Ob.mp m_2, Ob.mp m_3, Ob.sl (3, 1) (bif false then true else ixm) ixn ix, Ob.sl (161, 128) (bif false then true else bkm) bkn bk, Ob.arr (aW c_6 (0 + x20.toNat * 1) [Z6 v])]) (zcj sz ixm ixn bkm bkn ix bk v (i64.wrap (x20 + 1)) m_2 m_3 (aW c_6 (0 + x20.toNat * 1) [Z6 v])) /\ J (i64.wrap (x20 + 1)) m_2 m_3 (aW c_6 (0 + x20.toNat * 1) [Z6 v]) /\ μ (i64.wrap (x20 + 1)) m_2 m_3 (aW c_6 (0 + x20.toNat * 1) [Z6 v]) < μ x20 m_2 m_3 c_6 else 128 <= (qc 0 c_6).length /\ ACall qa 85 [LV.box 0 0, LV.pv (PV.agg (qi 128 (qc 0 c_6)))] [Ob.box [LV.box 1 0, LV.mp 2, LV.mp 3], Ob.box [Y6 sz, LV.own 4, LV.own 5], Ob.mp m_2, Ob.mp m_3, Ob.sl (3, 1) false ixn ix, Ob.sl (161, 128) false bkn bk] fun (r : LV) (h' : Hp) => ∃ (t : Int × List (PV × PV) × Bool × LL), (r = Y6 t.1 /\ h' = [Ob.box [LV.box 1 0, LV.mp 2, LV.mp 3], Ob.box [Y6 sz, LV.own 4, LV.own 5], Ob.mp t.snd.fst, Ob.mp m_3, Ob.sl (3, 1) false ixn ix, Ob.sl (161, (128 : Nat)) true t.snd.snd.fst t.snd.snd.snd]) /\ (True /\ ((3, 1) = (3, 1) /\ ixn = ixn /\ ix.length = ix.length) /\ True /\ True /\ True /\ True /\ True) /\ l6 .i64 m_3 /\ R (Y6 t.1) [Ob.box [LV.box 1 0, LV.mp 2, LV.mp 3], Ob.box [Y6 sz, LV.own 4, LV.own 5], Ob.mp t.snd.fst, Ob.mp (bV (Z6 v) (Z6 t.1) m_3), Ob.sl (3, 1) (ixm || false) ixn ix, Ob.sl (161, 128) (bkm || true) t.snd.snd.fst t.snd.snd.snd])
theorem zva {R : LV -> Hp -> Prop} (h : zkh sz kn ev ixm ixn bkm bkn ix bk v J μ R) : ACall qa 84 [.box 0 0, .pv (.int .i64 v)] [.box [.box 1 0, .mp 2, .mp 3], .box [.pv (.int .i64 sz), .own 4, .own 5], .mp kn, .mp ev, .sl (3, 1) ixm ixn ix, .sl (161, 128) bkm bkn bk] R :=
 ACall.wz Tryz.func84 (fun zz_ => match zz_ with | 85 => some ⟨Int × List (PV × PV) × Bool × LL, fun _ hs t => (.pv (.int .i64 t.1), match hs with | [m, r, .mp _, ev, ix, .sl a _ _ _] => [m, r, .mp t.2.1, ev, ix, .sl a true t.2.2.1 t.2.2.2] | h => h), none⟩ | _ => none) [0, 1, 4, 5, 6, 7, 8, 19, 20, 21] (dA 5 (bN jQ (zcj sz ixm ixn bkm bkn ix bk v) J μ (fun e h => (gI e 20, oM h 2, oM h 3, oA h 6)) [] [0, 1, 7, 20] [])) [0,1,2,3,4,5] h
end
def zck (sz z : Int) (n f : Bool) (es : LL) (x9 x10 x11 : Int) (n_2 : Bool) (s_2 : LL) (n_3 : Bool) (s_3 : LL) (m_4 : List (PV × PV)) (m_5 : List (PV × PV)) : Env × Hp := ([(0, Y6 sz), (1, Y6 z), (2, LV.pv (PV.sl n f es)), (7, LV.box 0 0), (8, LV.box 1 0), (9, Y6 x9), (10, Y6 x10), (11, Y6 x11)], [.box [Y6 sz, LV.own 2, LV.own 3], .box [LV.box 0 0, LV.mp 4, LV.mp 5], .sl (3, 1) true n_2 s_2, .sl (161, 128) true n_3 s_3, .mp m_4, .mp m_5])
def tI (sz z : Int) (n f : Bool) (es : LL) (x9 x10 x11 x13 : Int) (n_2 : Bool) (s_2 : LL) (n_3 : Bool) (s_3 : LL) (m_4 : List (PV × PV)) (m_5 : List (PV × PV)) : Env × Hp := ([(0, Y6 sz), (1, Y6 z), (2, LV.pv (PV.sl n f es)), (7, LV.box 0 0), (8, LV.box 1 0), (9, Y6 x9), (10, Y6 x10), (11, Y6 x11), (13, Y6 x13)], [.box [Y6 sz, LV.own 2, LV.own 3], .box [LV.box 0 0, LV.mp 4, LV.mp 5], .sl (3, 1) true n_2 s_2, .sl (161, 128) true n_3 s_3, .mp m_4, .mp m_5])
def tJ (sz z : Int) (n f : Bool) (es : LL) (x9 x10 x11 x88 : Int) (c_2 : List PV) (n_3 : Bool) (s_3 : LL) (n_4 : Bool) (s_4 : LL) (m_5 : List (PV × PV)) (m_6 : List (PV × PV)) : Env × Hp := ([(0, Y6 sz), (1, Y6 z), (2, LV.pv (PV.sl n f es)), (7, LV.box 0 0), (8, LV.box 1 0), (9, Y6 x9), (10, Y6 x10), (11, Y6 x11), (14, LV.box 2 0), (88, Y6 x88)], [.box [Y6 sz, LV.own 3, LV.own 4], .box [LV.box 0 0, LV.mp 5, LV.mp 6], .arr c_2, .sl (3, 1) true n_3 s_3, .sl (161, 128) true n_4 s_4, .mp m_5, .mp m_6])
section
variable (sz z : Int) (n f : Bool) (es : LL) (J : Int -> Int -> Int -> Bool -> LL -> Bool -> LL -> (List (PV × PV)) -> (List (PV × PV)) -> Prop) (μ : Int -> Int -> Int -> Bool -> LL -> Bool -> LL -> (List (PV × PV)) -> (List (PV × PV)) -> Nat) (J2 : Int -> Int -> Int -> Int -> Bool -> LL -> Bool -> LL -> (List (PV × PV)) -> (List (PV × PV)) -> Int -> Int -> Int -> Int -> Bool -> LL -> Bool -> LL -> (List (PV × PV)) -> (List (PV × PV)) -> Prop) (μ2 : Int -> Int -> Int -> Int -> Bool -> LL -> Bool -> LL -> (List (PV × PV)) -> (List (PV × PV)) -> Nat) (J3 : Int -> Int -> Int -> Int -> (List PV) -> Bool -> LL -> Bool -> LL -> (List (PV × PV)) -> (List (PV × PV)) -> Int -> Int -> Int -> Int -> (List PV) -> Bool -> LL -> Bool -> LL -> (List (PV × PV)) -> (List (PV × PV)) -> Prop) (μ3 : Int -> Int -> Int -> Int -> (List PV) -> Bool -> LL -> Bool -> LL -> (List (PV × PV)) -> (List (PV × PV)) -> Nat)
def zki (R : PV -> Prop) : Prop :=
 if decide (sz < 1) = true then R PV.nilp else PCall qa 83 [PV.sl n f es, Z6 z, Z6 0, Z6 (i64.wrap (sz - 1))] fun v => ∃ vs, v = PV.tup vs /\ vs.length = (2 : Nat) /\ ∃ x, vs.head? = some x /\ ∃ (n1 :
  Int), x = Z6 n1 /\ ∃ x1, vs.tail.head? = some x1 /\ ∃ n2, x1 = Z6 n2 /\ (aG (zck sz z n f es n1 n2 (0 : Int) true [] true [] [] []) /\ J n1 n2 (0 : Int) true [] true [] [] []) /\ ∀ (x9 x10 x11 : Int) (n_2 : Bool) (s_2 :
  LL) (n_3 : Bool) (s_3 : LL) (m_4 m_5 : List (PV × PV)), J x9 x10 x11 n_2 s_2 n_3 s_3 m_4 m_5 ->
 let K7 := fun (y0_ y1_ y2_ : Int) (y3_ : Bool) (y4_ : LL) (y5_ : Bool) (y6_ : LL) (y7_ : List (PV × PV)) (y8_ : List (PV × PV)) => aG (zck sz z n f es y0_ y1_ y2_ y3_ y4_ y5_ y6_ y7_ y8_) /\ J y0_ y1_ y2_ y3_ y4_ y5_
  y6_ y7_ y8_ /\ μ y0_ y1_ y2_ y3_ y4_ y5_ y6_ y7_ y8_ < μ x9 x10 x11 n_2 s_2 n_3 s_3 m_4 m_5; if decide (x11 < sz) = true then if decide (x11 > x10) = true then PCall qa 83 [PV.sl n f es, Z6 z, Z6 x11, Z6 (i64.wrap (sz -
  1))] fun v1 => ∃ vs1, v1 = PV.tup vs1 /\ vs1.length = 2 /\ ∃ x2, vs1.head? = some x2 /\ ∃ n3, x2 = Z6 n3 /\ ∃ x3, vs1.tail.head? = some x3 /\ ∃ n4, x3 = Z6 n4 /\ if decide (n4 >= i64.wrap
  ((if sz < i64.wrap (x11 + 128) then sz else i64.wrap (x11 + 128)) - 1)) = true then ACall qa 84 [LV.box 0 0, Y6 n3] [Ob.box [LV.box 1 0, LV.mp 2, LV.mp 3], Ob.box [Y6 sz, LV.own 4, LV.own 5], Ob.mp m_4, Ob.mp m_5,
  Ob.sl (3, 1) false n_2 s_2, Ob.sl (161, 128) false n_3 s_3] fun (r : LV) (h' : Hp) => ∃ (t : Int × List (PV × PV) × List (PV × PV) × Bool × LL), (r = Y6 t.1 /\ h' = [Ob.box [LV.box 1 0, LV.mp 2, LV.mp 3], Ob.box [Y6 sz, LV.own 4, LV.own
  5], Ob.mp t.snd.fst, Ob.mp t.snd.snd.fst, Ob.sl (3, 1) false n_2 s_2, Ob.sl (161, 128) true t.snd.snd.snd.fst t.snd.snd.snd.snd]) /\ (True /\ ((3, 1) = (3, 1) /\ n_2 = n_2 /\ s_2.length = s_2.length) /\ True /\ True /\ True /\ True /\ True) /\
  (aG (tI sz z n f es n3 n4 x11 t.1 n_2 s_2 t.snd.snd.snd.fst t.snd.snd.snd.snd t.snd.fst t.snd.snd.fst) /\ J2 n3 n4 x11 t.1 n_2 s_2 t.snd.snd.snd.fst t.snd.snd.snd.snd t.snd.fst t.snd.snd.fst n3 n4 x11 t.1 n_2 s_2 t.snd.snd.snd.fst
  t.snd.snd.snd.snd t.snd.fst t.snd.snd.fst) /\ ∀ (x91 x101 x111 x13 : Int) (n_21 : Bool) (s_21 : LL) (n_31 : Bool) (s_31 : LL) (m_41 m_51 : List (PV × PV)), J2 n3 n4 x11 t.1 n_2 s_2 t.snd.snd.snd.fst t.snd.snd.snd.snd t.snd.fst
  t.snd.snd.fst x91 x101 x111 x13 n_21 s_21 n_31 s_31 m_41 m_51 -> if (decide (x111 < sz) && decide (x101 >= i64.wrap ((if sz < i64.wrap (x111 + 128) then sz else i64.wrap (x111 + 128)) - 1))) = true then (aU [[Z6
  x13]] 1 /\ (s_21.length + 1) * 8 <= 140737488355328) /\ aG (tI sz z n f es x91 x101 (i64.wrap (x111 + 128)) x13 (n_21 && false) (s_21 ++ [[Z6 x13]]) n_31 s_31 m_41 m_51) /\ J2 n3 n4 x11 t.1 n_2 s_2 t.snd.snd.snd.fst
  t.snd.snd.snd.snd t.snd.fst t.snd.snd.fst x91 x101 (i64.wrap (x111 + 128)) x13 (n_21 && false) (s_21 ++ [[Z6 x13]]) n_31 s_31 m_41 m_51 /\ μ2 x91 x101 (i64.wrap (x111 + 128)) x13 (n_21 && false) (s_21 ++ [[Z6 x13]]) n_31
  s_31 m_41 m_51 < μ2 x91 x101 x111 x13 n_21 s_21 n_31 s_31 m_41 m_51 else K7 x91 x101 (i64.wrap (i64.wrap (x111 - 128) + 128)) n_21 s_21 n_31 s_31 m_41 m_51 else (aG (tJ sz z n f es n3 n4 x11 (0 : Int)
  (qb 128 (Z6 0)) n_2 s_2 n_3 s_3 m_4 m_5) /\ J3 n3 n4 x11 (0 : Int) (qb 128 (Z6 0)) n_2 s_2 n_3 s_3 m_4 m_5 n3 n4 x11 (0 : Int) (qb 128 (Z6 0)) n_2 s_2 n_3 s_3 m_4 m_5) /\ ∀ (x91 x101 x111 x88 : Int) (c_2
  : List PV) (n_31 : Bool) (s_31 : LL) (n_4 : Bool) (s_4 : LL) (m_51 m_6 : List (PV × PV)), J3 n3 n4 x11 (0 : Int) (qb 128 (Z6 0)) n_2 s_2 n_3 s_3 m_4 m_5 x91 x101 x111 x88 c_2 n_31 s_31 n_4 s_4 m_51 m_6 ->
 let K20 := fun (y0_ y1_ y2_ y3_ : Int) (y4_ : List PV) (y5_ : Bool) (y6_ : LL) (y7_ : Bool) (y8_ : LL) (y9_ : List (PV × PV)) (y10_ : List (PV × PV)) => aG (tJ sz z n f es y0_ y1_ y2_ y3_ y4_ y5_ y6_ y7_ y8_
  y9_ y10_) /\ J3 n3 n4 x11 (0 : Int) (qb 128 (Z6 0)) n_2 s_2 n_3 s_3 m_4 m_5 y0_ y1_ y2_ y3_ y4_ y5_ y6_ y7_ y8_ y9_ y10_ /\ μ3 y0_ y1_ y2_ y3_ y4_ y5_ y6_ y7_ y8_ y9_ y10_ < μ3 x91 x101 x111 x88 c_2 n_31 s_31 n_4 s_4 m_51 m_6;
  if decide (x88 < 128) = true then if (decide (i64.wrap (x111 + x88) > x101) && decide (i64.wrap (x111 + x88) < sz)) = true then PCall qa 83 [PV.sl n f es, Z6 z, Z6 (i64.wrap (x111 + x88)), Z6
  (i64.wrap (sz - 1))] fun v2 => ∃ vs2, v2 = PV.tup vs2 /\ vs2.length = 2 /\ ∃ x4, vs2.head? = some x4 /\ ∃ n5, x4 = Z6 n5 /\ ∃ x5, vs2.tail.head? = some x5 /\ ∃ n6, x5 = Z6 n6 /\ ((0 :
  Int) <= x88 /\ x88 < (↑128 : Int)) /\ (1 = 1 /\ 0 + x88.toNat * 1 + 1 <= c_2.length) /\ K20 n5 n6 x111 (i64.wrap (x88 + 1)) (aW c_2 (0 + x88.toNat * 1) [Z6 n5]) n_31 s_31 n_4 s_4 m_51 m_6 else ((0 : Int) <= x88 /\ x88 < (↑128 : Int)) /\
  (1 = 1 /\ 0 + x88.toNat * 1 + 1 <= c_2.length) /\ K20 x91 x101 x111 (i64.wrap (x88 + 1)) (aW c_2 (0 + x88.toNat * 1) [Z6 x91]) n_31 s_31 n_4 s_4 m_51 m_6 else 128 <= (qc 0 c_2).length /\
 let V1 := ACall qa 85 [LV.box 0 0, LV.pv (PV.agg (qi 128 (qc 0 c_2)))] [Ob.box [LV.box 1 0, LV.mp 2, LV.mp 3], Ob.box [Y6 sz, LV.own 4, LV.own 5], Ob.mp m_51, Ob.mp m_6, Ob.sl (3, 1) false n_31 s_31, Ob.sl (161, 128)
  false n_4 s_4] fun (r : LV) (h' : Hp) => ∃ (t : Int × List (PV × PV) × Bool × LL), (r = Y6 t.1 /\ h' = [Ob.box [LV.box 1 0, LV.mp 2, LV.mp 3], Ob.box [Y6 sz, LV.own 4, LV.own 5], Ob.mp t.snd.fst, Ob.mp m_6, Ob.sl (3, 1) false n_31 s_31,
  Ob.sl (161, 128) true t.snd.snd.fst t.snd.snd.snd]) /\ (True /\ ((3, 1) = (3, 1) /\ n_31 = n_31 /\ s_31.length = s_31.length) /\ True /\ True /\ True /\ True /\ True) /\ (aU [[Z6 t.1]] 1 /\ (s_31.length + 1) * 8 <= 140737488355328) /\ K7 x91 x101
  (i64.wrap (x111 + 128)) (n_31 && false) (s_31 ++ [[Z6 t.1]]) t.snd.snd.fst t.snd.snd.snd t.snd.fst m_6; V1 /\ V1 else if decide (x10 >= i64.wrap ((if sz < i64.wrap (x11 + 128) then sz else i64.wrap (x11 +
  128)) - 1)) = true then ACall qa 84 [LV.box 0 0, Y6 x9] [Ob.box [LV.box 1 0, LV.mp 2, LV.mp 3], Ob.box [Y6 sz, LV.own 4, LV.own 5], Ob.mp m_4, Ob.mp m_5, Ob.sl (3, 1) false n_2 s_2, Ob.sl (161, 128) false n_3 s_3] fun (r : LV) (h'
  : Hp) => ∃ (t : Int × List (PV × PV) × List (PV × PV) × Bool × LL), (r = Y6 t.1 /\ h' = [Ob.box [LV.box 1 0, LV.mp 2, LV.mp 3], Ob.box [Y6 sz, LV.own 4, LV.own 5], Ob.mp t.snd.fst, Ob.mp t.snd.snd.fst, Ob.sl (3, 1) false n_2 s_2, Ob.sl
  (161, 128) true t.snd.snd.snd.fst t.snd.snd.snd.snd]) /\ (True /\ ((3, 1) = (3, 1) /\ n_2 = n_2 /\ s_2.length = s_2.length) /\ True /\ True /\ True /\ True /\ True) /\ (aG (tI sz z n f es x9 x10 x11 t.1 n_2 s_2 t.snd.snd.snd.fst
  t.snd.snd.snd.snd t.snd.fst t.snd.snd.fst) /\ J2 x9 x10 x11 t.1 n_2 s_2 t.snd.snd.snd.fst t.snd.snd.snd.snd t.snd.fst t.snd.snd.fst x9 x10 x11 t.1 n_2 s_2 t.snd.snd.snd.fst t.snd.snd.snd.snd t.snd.fst t.snd.snd.fst) /\ ∀ (x91 x101 x111 x13
  : Int) (n_21 : Bool) (s_21 : LL) (n_31 : Bool) (s_31 : LL) (m_41 m_51 : List (PV × PV)), J2 x9 x10 x11 t.1 n_2 s_2 t.snd.snd.snd.fst t.snd.snd.snd.snd t.snd.fst t.snd.snd.fst x91 x101 x111 x13 n_21 s_21 n_31 s_31 m_41 m_51 -> if (decide
  (x111 < sz) && decide (x101 >= i64.wrap ((if sz < i64.wrap (x111 + 128) then sz else i64.wrap (x111 + 128)) - 1))) = true then (aU [[Z6 x13]] 1 /\ (s_21.length + 1) * 8 <= 140737488355328) /\ aG (tI sz z n f
  es x91 x101 (i64.wrap (x111 + 128)) x13 (n_21 && false) (s_21 ++ [[Z6 x13]]) n_31 s_31 m_41 m_51) /\ J2 x9 x10 x11 t.1 n_2 s_2 t.snd.snd.snd.fst t.snd.snd.snd.snd t.snd.fst t.snd.snd.fst x91 x101 (i64.wrap (x111 + 128))
  x13 (n_21 && false) (s_21 ++ [[Z6 x13]]) n_31 s_31 m_41 m_51 /\ μ2 x91 x101 (i64.wrap (x111 + 128)) x13 (n_21 && false) (s_21 ++ [[Z6 x13]]) n_31 s_31 m_41 m_51 < μ2 x91 x101 x111 x13 n_21 s_21 n_31 s_31 m_41 m_51 else K7 x91 x101
  (i64.wrap (i64.wrap (x111 - 128) + 128)) n_21 s_21 n_31 s_31 m_41 m_51 else (aG (tJ sz z n f es x9 x10 x11 (0 : Int) (qb 128 (Z6 0)) n_2 s_2 n_3 s_3 m_4 m_5) /\ J3 x9 x10 x11 (0 : Int) (qb
  128 (Z6 0)) n_2 s_2 n_3 s_3 m_4 m_5 x9 x10 x11 (0 : Int) (qb 128 (Z6 0)) n_2 s_2 n_3 s_3 m_4 m_5) /\ ∀ (x91 x101 x111 x88 : Int) (c_2 : List PV) (n_31 : Bool) (s_31 : LL) (n_4 : Bool) (s_4 : LL) (m_51 m_6 : List (PV × PV)), J3
  x9 x10 x11 (0 : Int) (qb 128 (Z6 0)) n_2 s_2 n_3 s_3 m_4 m_5 x91 x101 x111 x88 c_2 n_31 s_31 n_4 s_4 m_51 m_6 ->
 let K20 := fun (y0_ y1_ y2_ y3_ : Int) (y4_ : List PV) (y5_ : Bool) (y6_ : LL) (y7_ : Bool) (y8_ : LL) (y9_ : List (PV × PV)) (y10_ : List (PV × PV)) => aG (tJ sz z n f es y0_ y1_ y2_ y3_ y4_ y5_ y6_ y7_ y8_
  y9_ y10_) /\ J3 x9 x10 x11 (0 : Int) (qb 128 (Z6 0)) n_2 s_2 n_3 s_3 m_4 m_5 y0_ y1_ y2_ y3_ y4_ y5_ y6_ y7_ y8_ y9_ y10_ /\ μ3 y0_ y1_ y2_ y3_ y4_ y5_ y6_ y7_ y8_ y9_ y10_ < μ3 x91 x101 x111 x88 c_2 n_31 s_31 n_4 s_4 m_51 m_6;
  if decide (x88 < 128) = true then if (decide (i64.wrap (x111 + x88) > x101) && decide (i64.wrap (x111 + x88) < sz)) = true then PCall qa 83 [PV.sl n f es, Z6 z, Z6 (i64.wrap (x111 + x88)), Z6
  (i64.wrap (sz - 1))] fun v1 => ∃ vs1, v1 = PV.tup vs1 /\ vs1.length = 2 /\ ∃ x2, vs1.head? = some x2 /\ ∃ n3, x2 = Z6 n3 /\ ∃ x3, vs1.tail.head? = some x3 /\ ∃ n4, x3 = Z6 n4 /\ ((0 :
  Int) <= x88 /\ x88 < (↑128 : Int)) /\ (1 = 1 /\ 0 + x88.toNat * 1 + 1 <= c_2.length) /\ K20 n3 n4 x111 (i64.wrap (x88 + 1)) (aW c_2 (0 + x88.toNat * 1) [Z6 n3]) n_31 s_31 n_4 s_4 m_51 m_6 else ((0 : Int) <= x88 /\ x88 < (↑128 : Int)) /\
  (1 = 1 /\ 0 + x88.toNat * 1 + 1 <= c_2.length) /\ K20 x91 x101 x111 (i64.wrap (x88 + 1)) (aW c_2 (0 + x88.toNat * 1) [Z6 x91]) n_31 s_31 n_4 s_4 m_51 m_6 else 128 <= (qc 0 c_2).length /\
 let V2 := ACall qa 85 [LV.box 0 0, LV.pv (PV.agg (qi 128 (qc 0 c_2)))] [Ob.box [LV.box 1 0, LV.mp 2, LV.mp 3], Ob.box [Y6 sz, LV.own 4, LV.own 5], Ob.mp m_51, Ob.mp m_6, Ob.sl (3, 1) false n_31 s_31, Ob.sl (161, 128)
  false n_4 s_4] fun (r : LV) (h' : Hp) => ∃ (t : Int × List (PV × PV) × Bool × LL), (r = Y6 t.1 /\ h' = [Ob.box [LV.box 1 0, LV.mp 2, LV.mp 3], Ob.box [Y6 sz, LV.own 4, LV.own 5], Ob.mp t.snd.fst, Ob.mp m_6, Ob.sl (3, 1) false n_31 s_31,
  Ob.sl (161, 128) true t.snd.snd.fst t.snd.snd.snd]) /\ (True /\ ((3, 1) = (3, 1) /\ n_31 = n_31 /\ s_31.length = s_31.length) /\ True /\ True /\ True /\ True /\ True) /\ (aU [[Z6 t.1]] 1 /\ (s_31.length + 1) * 8 <= 140737488355328) /\ K7 x91 x101
  (i64.wrap (x111 + 128)) (n_31 && false) (s_31 ++ [[Z6 t.1]]) t.snd.snd.fst t.snd.snd.snd t.snd.fst m_6; V2 /\ V2 else R (PV.ptr [Z6 sz, PV.sl n_2 false s_2, PV.sl n_3 false s_3])
theorem zvb {R : PV -> Prop} (h : zki sz z n f es J μ J2 μ2 J3 μ3 R) : PCall qa 56 [.int .i64 sz, .int .i64 z, .sl n f es] R :=
 PCall.wz Tryz.func56 (fun zz_ => match zz_ with | 85 => some ⟨Int × List (PV × PV) × Bool × LL, fun _ hs t => (.pv (.int .i64 t.1), match hs with | [m, r, .mp _, ev, ix, .sl a _ _ _] => [m, r, .mp t.2.1, ev, ix, .sl a true t.2.2.1 t.2.2.2] | h => h), none⟩ | 84 => some ⟨Int × List (PV × PV) × List (PV × PV) × Bool × LL, fun _ hs t => (.pv (.int .i64 t.1), match hs with | [m, r, .mp _, .mp _, ix, .sl a _ _ _] => [m, r, .mp t.2.1, .mp t.2.2.1, ix, .sl a true t.2.2.2.1 t.2.2.2.2] | h => h), none⟩ | _ => none) [0, 1, 2, 6, 7, 8, 9, 10, 11, 12, 13, 14, 15, 17, 36, 41, 58, 73, 88, 89, 102] (iM [(7, (bN cz9 (zck sz z n f es) J μ (fun e h => (gI e 9, gI e 10, gI e 11, oN h 2, oS h 2, oN h 3, oS h 3, oM h 4, oM h 5)) [(1000001, 3, 1), (1000002, 161, 128)] [0, 1, 2, 7, 8, 9, 10, 11] [])), (14, (iA (fQ jP) (tI sz z n f es) J2 μ2 (fun e h => (gI e 9, gI e 10, gI e 11, gI e 13, oN h 2, oS h 2, oN h 3, oS h 3, oM h 4, oM h 5)) [] [0, 1, 2, 7, 8, 9, 10, 11, 13] [])), (20, (iA (fQ eG) (tJ sz z n f es) J3 μ3 (fun e h => (gI e 9, gI e 10, gI e 11, gI e 88, oA h 2, oN h 3, oS h 3, oN h 4, oS h 4, oM h 5, oM h 6)) [] [0, 1, 2, 7, 8, 9, 10, 11, 14, 88] []))]) h
end
end Go.Eng
namespace Go.Eng
open Go
theorem HRel.markH {w : World} {I : Nat -> Prop} {G : Nat -> Pl} {h : Hp} (n0 : Nat) (mv : List Nat) (hs : HRel w I G h) : HRel w I G (markH n0 mv 0 h) /\ (∀ b, aS (Go.Eng.markH n0 mv 0 h) G b -> aS h G b) /\ Like G G h (Go.Eng.markH n0 mv 0 h) := by
 have hget : ∀ i, (Go.Eng.markH n0 mv 0 h)[i]? = (h[i]?).map (jK n0 mv i) := fun i => by rw [sN, qag]
 have hl : Like G G h (Go.Eng.markH n0 mv 0 h) := fun o ob ho => ⟨⟨_, by rw [hget, ho]; rfl, zhd ob⟩, fun _ => rfl⟩
 have split : ∀ {i : Nat} {x : Ob}, (Go.Eng.markH n0 mv 0 h)[i]? = some x -> ∃ ob, h[i]? = some ob /\ x = jK n0 mv i ob := fun {i x} hx => by
  rw [hget] at hx;cases hob : h[i]? with
  | none => rw [hob] at hx; cases hx
  | some ob => rw [hob] at hx; cases hx; exact ⟨ob, rfl, rfl⟩
 refine ⟨⟨fun i x hx => ?_, fun i j x y hx ax hy ay hb => ?_, fun i x hx ax => ?_, hs.cl⟩, fun b ⟨i, x, hx, ax, hb⟩ => ?_, hl⟩
 ·obtain ⟨ob, hob, rfl⟩ := split hx;have := hs.obs i ob hob;cases ob with
  | dead => trivial
  | box cs => obtain ⟨vs, ty, e1, e2, e3⟩ := this; exact ⟨vs, ty, e1, e2, fun k v hv => ⟨(e3 k v hv).1.mono (Keeps.refl w I) hl, (e3 k v hv).2⟩⟩
  | arr cs => exact this
  | sl ty m n es => cases n <;> exact this
  | mp kvs => exact this
  | iter ty rem cur => exact this
 ·obtain ⟨ob, hob, rfl⟩ := split hx;obtain ⟨ob2, hob2, rfl⟩ := split hy;exact hs.sep i j ob ob2 hob (mS.1 ax) hob2 (mS.1 ay) hb
 ·obtain ⟨ob, hob, rfl⟩ := split hx;exact hs.nI i ob hob (mS.1 ax)
 ·obtain ⟨ob, hob, rfl⟩ := split hx;exact ⟨i, ob, hob, mS.1 ax, hb⟩
theorem ACall.mark (n0 : Nat) (mv : List Nat) {P : Program} {f : Nat} {args : List LV} {h : Hp} {R R' : LV -> Hp -> Prop} (hc : ACall P f args h R) (hq : ∀ r h', R r h' -> R' r (markH n0 mv 0 h')) : ACall P f args h R' := by
 refine ⟨hc.1, fun w I G cargs h1 h2 h3 => (hc.2 w I G cargs h1 h2 h3).mono fun e w' ⟨cv, r, h', I', G', e1, e2, e3, e4, e5⟩ => ?_⟩;obtain ⟨m1, m2, m3⟩ := e3.markH n0 mv;refine ⟨cv, r, markH n0 mv 0 h', I', G', e1, hq _ _ e2, m1, e4.mono (Keeps.refl _ _) m3, ⟨e5.1.trans (Tr.less m2), by rw [zae]; exact e5.2, fun o ob' ho hx hf => ?_⟩⟩;rw [sN, qag] at hx;cases hob : h'[o]? with
 | none => rw [hob] at hx; cases hx
 | some ob =>
   rw [hob] at hx; cases hx;refine e5.stay o ob ho hob ?_
   revert hf
   cases ob with
   | sl ty m n es =>
     simp only [jK, Ob.fixed];cases Nat.ble n0 o || fE o mv <;> simp
   | _ => simp [jK, Ob.fixed]
end Go.Eng
namespace Go.Eng.Trie
open Go Go.Eng
theorem zcl {P : Program} : ∀ {ts us : List TypeId} {a b : List PV}, bK P ts a = true -> bK P us b = true -> bK P (ts ++ us) (a ++ b) = true
 | [], _, [], _, _, h => h
 | [], _, _ :: _, _, h, _ => by simp [bK] at h
 | t :: ts, _, [], _, h, _ => by simp [bK] at h
 | t :: ts, us, x :: r, b, h, h2 => by
   cases x with
   | int k a => simp only [bK, qh, qy] at h ⊢; exact ⟨h.1, zcl h.2 h2⟩
   | bool a => simp only [bK, qh, qy] at h ⊢; exact ⟨h.1, zcl h.2 h2⟩
   | _ => simp [bK] at h
theorem zkj : ∀ {a b c d : List PV}, a.length = b.length -> cK (a ++ c) (b ++ d) = (cK a b && cK c d)
 | [], [], _, _, _ => by simp [cK]
 | [], _ :: _, _, _, h => by simp at h
 | _ :: _, [], _, _, h => by simp at h
 | x :: a, y :: b, c, d, h => by simp only [qy, cK]; rw [zkj (by simpa using h), Bool.and_assoc]
structure Enc {α : Type} [DecidableEq α] (P : Program) (ts : List TypeId) (enc : α -> List PV) : Prop where
 ks : ∀ a, bK P ts (enc a) = true
 inj : ∀ a b, cK (enc a) (enc b) = decide (a = b)
section
variable {α : Type} {P : Program} {ts : List TypeId} {enc : α -> List PV}
def cells (enc : α -> List PV) (b : aV α) : List PV := b.1.flatMap enc
variable [DecidableEq α]
theorem Enc.len (E : Enc P ts enc) (a : α) : (enc a).length = ts.length := zJ (E.ks a)
theorem Enc.keys (E : Enc P ts enc) : ∀ l : List α, bK P (qb l.length ts).flatten (l.flatMap enc) = true
 | [] => rfl
 | a :: l => by
   simp only [qm, qbg, qau, qac];exact zcl (E.ks a) (E.keys l)
theorem Enc.flen (E : Enc P ts enc) : ∀ l : List α, (l.flatMap enc).length = l.length * ts.length
 | [] => by simp
 | a :: l => by simp only [qac, qd, qm, E.flen l, E.len a, qbr, qbs]; omega
theorem Enc.eqs (E : Enc P ts enc) : ∀ l m : List α, l.length = m.length -> cK (l.flatMap enc) (m.flatMap enc) = decide (l = m)
 | [], [], _ => rfl
 | [], _ :: _, h => by simp at h
 | _ :: _, [], h => by simp at h
 | a :: l, b :: m, h => by
   simp only [qac];rw [zkj (by rw [E.len, E.len]), E.inj, E.eqs l m (by simpa using h)]
   by_cases h1 : a = b <;> by_cases h2 : l = m <;> simp [h1, h2]
theorem Enc.cells_len (E : Enc P ts enc) (b : aV α) : (cells enc b).length = 128 * ts.length := by unfold cells; rw [E.flen, b.2]
theorem Enc.blkEq (E : Enc P ts enc) (a b : aV α) : gG (.agg (cells enc a)) (.agg (cells enc b)) = decide (a = b) := by
 show cK _ _ = _;unfold cells;rw [E.eqs _ _ (by rw [a.2, b.2])];by_cases h : a = b
 ·simp [h]
 ·have : a.1 ≠ b.1 := fun e => h (Subtype.ext e);simp [h, this]
theorem Enc.blkOk (E : Enc P ts enc) {kt : TypeId} (h1 : fM P kt = true) (h2 : g9 P kt = (qb 128 ts).flatten) (b : aV α) : bI P kt (.agg (cells enc b)) = true := by
 simp only [bI, h1, h2, qbd];have := E.keys b.1;rw [b.2] at this;exact this
theorem Enc.blksOk (E : Enc P ts enc) {kt : TypeId} (h1 : fM P kt = true) (h2 : g9 P kt = (qb 128 ts).flatten) {β : Type} {ev : β -> PV} (M : List (aV α × β)) : c9 P kt (cY (fun b => .agg (cells enc b)) ev M) := by
 intro kv h;simp only [cY, List.mem_map] at h;obtain ⟨p, _, rfl⟩ := h;exact E.blkOk h1 h2 _
theorem Enc.valEq (E : Enc P ts enc) (a b : α) : gG (.agg (enc a)) (.agg (enc b)) = decide (a = b) := E.inj a b
theorem Enc.valOk (E : Enc P ts enc) {kt : TypeId} (h1 : fM P kt = true) (h2 : g9 P kt = ts) (a : α) : bI P kt (.agg (enc a)) = true := by
 simp only [bI, h1, h2, qbd]; exact E.ks a
theorem Enc.valsOk (E : Enc P ts enc) {kt : TypeId} (h1 : fM P kt = true) (h2 : g9 P kt = ts) {β : Type} {ev : β -> PV} (M : List (α × β)) : c9 P kt (cY (fun a => .agg (enc a)) ev M) := by
 intro kv h;simp only [cY, List.mem_map] at h;obtain ⟨p, _, rfl⟩ := h;exact E.valOk h1 h2 _
theorem Enc.at (E : Enc P ts enc) : ∀ (l : List α) (j : Nat) (hj : j < l.length), (l.flatMap enc).drop (j * ts.length) = enc l[j] ++ (l.drop (j + 1)).flatMap enc
 | a :: l, 0, _ => by simp
 | a :: l, j + 1, hj => by
   simp only [qac, List.getElem_cons_succ, List.drop_succ_cons];rw [<- E.at l j (by simpa using hj), qax]
   have h1 : (enc a).length <= (j + 1) * ts.length := by rw [E.len, qbr, qbs]; omega
   rw [qu h1, qk, E.len];congr 1;rw [qbr, qbs]; omega
theorem Enc.put (E : Enc P ts enc) (l : List α) (j : Nat) (hj : j < l.length) (v : α) : aW (l.flatMap enc) (j * ts.length) (enc v) = (l.set j v).flatMap enc := by
 have hl : l = l.take j ++ l[j] :: l.drop (j + 1) := by rw [<- qv hj, qn]
 have htl : (l.take j).length = j := by rw [ql]; omega
 have hset : l.set j v = l.take j ++ v :: l.drop (j + 1) := List.set_eq_take_append_cons_drop.trans (by rw [if_pos hj]);rw [hset];unfold aW
 have e1 : l.flatMap enc = (l.take j).flatMap enc ++ (enc l[j] ++ (l.drop (j + 1)).flatMap enc) := by
  have h := congrArg (fun x : List α => x.flatMap enc) hl;simp only [qbh, qac] at h;exact h
 have l1 : ((l.take j).flatMap enc).length = j * ts.length := by rw [E.flen, htl]
 rw [e1, List.take_append_of_le_length (by omega), qf (by omega), qbh, qac, qg];congr 2;rw [qax, qu (by omega), qk, l1, E.len, qax, qu (by rw [E.len]; omega), qk, E.len];have : j * ts.length + ts.length - j * ts.length - ts.length = 0 := by omega
 rw [this, qp]
end
def bG (l : List Int) : List (List PV) := l.map fun n => [.int .i64 n]
theorem lE (l : List Int) : (bG l).length = l.length := by simp [bG]
theorem oJ (x : Int) : ([PV.int .i64 x] : List PV).length = 1 := rfl
def bL {α : Type} (enc : α -> List PV) (l : List (aV α)) : List (List PV) := l.map (cells enc)
theorem mD {α : Type} {enc : α -> List PV} (l : List (aV α)) : (bL enc l).length = l.length := by simp [bL]
end Go.Eng.Trie
namespace Go.Eng
open Go Go.Proofs Go.Eng.Trie
def encI (n : Int) : List PV := [.int .i64 n]
theorem EI : Enc qa [3] encI := ⟨fun a => by
 simp only [encI, bK, qal];rw [show Tryz.prog.underlying 3 = some (.int .i64) by kernel_rfl]
 rfl, fun a b => by simp [encI, cK, fC]; rfl⟩
def pcI (p : Pc Int) : List PV := [.int .i64 p.fr, .int .i64 p.to] ++ encI p.v
def mE (l : List (Pc Int)) : List (List PV) := l.map pcI
theorem zvc (p : Pc Int) : (pcI p).length = 3 := rfl
theorem zkk (l : List (Pc Int)) : (mE l).length = l.length := by simp [mE]
def Pc.ok {α : Type} (p : Pc α) : Prop := (-9223372036854775808 <= p.fr - 1 /\ p.fr - 1 <= 9223372036854775807)
theorem zcm (n f : Bool) (l : List (Pc Int)) (z i last : Int) (hl : l.length < 4611686018427387904) (hok : ∀ p ∈ l, Pc.ok p) :
 PCall qa 83 [.sl n f (mE l), .int .i64 z, .int .i64 i, .int .i64 last] fun v => v = .tup [.int .i64 (findL l z i last).1, .int .i64 (findL l z i last).2] := by
 refine zu7 _ _ _ _ _ _ (fun a k => 0 <= k /\ k <= l.length /\ findL l z i last = findL (l.drop k.toNat) z i a) (fun _ k => l.length - k.toNat) ?_;unfold zke;refine ⟨⟨rfl, qe _, by omega, rfl⟩, ?_⟩;rintro a k ⟨k0, k1, he⟩;refine aC (fun hc => ?_) (fun hc => ?_)
 ·simp only [aB, zkk] at hc;have hk : k.toNat < l.length := by omega
  have hw : i64.wrap (k + 1) = k + 1 := wz;have hn : (k + 1).toNat = k.toNat + 1 := by omega
  have hg : (mE l).getD k.toNat [] = pcI l[k.toNat] := c7 hk;have hix : aD (mE l) k 3 := cS zvc k0 (by omega);have hm := hok _ (qj hk);rw [drop_cons hk] at he;rw [hw];dsimp only;rw [hn];have hmu : l.length - (k.toNat + 1) < l.length - k.toNat := by omega
  refine ⟨hix, l[k.toNat].fr, by rw [hg]; rfl, l[k.toNat].to, by rw [hg]; rfl, l[k.toNat].v, by rw [hg]; rfl, ?_⟩;generalize l[k.toNat] = p at *;have hw2 : i64.wrap (p.fr - 1) = p.fr - 1 := vT hm.1 hm.2;rw [hw2];rw [zau] at he;by_cases h1 : p.fr <= i
  ·refine bW (by simpa using h1) ?_
   by_cases h2 : i <= p.to
   ·refine bW (by simpa using h2) ?_
    rw [if_pos ⟨h1, h2⟩] at he;rw [he]
   ·refine bR (by simpa using h2) ?_
    rw [if_neg (by omega), if_neg (by omega)] at he;refine bR (by simp; omega) ?_;exact ⟨rfl, ⟨by omega, by omega, he⟩, hmu⟩
  ·refine bR (by simpa using h1) ?_
   rw [if_neg (by omega)] at he;refine bW (by simp; omega) ?_;by_cases h3 : p.fr <= a
   ·refine bW (by simpa using h3) ?_
    rw [if_pos (by omega)] at he;exact ⟨rfl, ⟨by omega, by omega, he⟩, hmu⟩
   ·refine bR (by simpa using h3) ?_
    rw [if_neg (by omega)] at he;exact ⟨rfl, ⟨by omega, by omega, he⟩, hmu⟩
 ·simp only [aB, zkk] at hc;rw [qu (by omega)] at he;rw [he]; rfl
def TrieI (sz : Int) (F : Int -> Int) (v : PV) : Prop := ∃ n f n2 f2 idx blk, v = .ptr [.int .i64 sz, .sl n f (bG idx), .sl n2 f2 (bL encI blk)] /\ TOK sz F idx blk
theorem zcn {sz : Int} {F : Int -> Int} {t : PV} (ht : TrieI sz F t) (i : Int) (h1 : sz <= 1114112) : PCall qa 94 [t, .int .i64 i] fun v => v = .int .i64 (if 0 <= i /\ i < sz then F i else 0) := by
 obtain ⟨n, f, n2, f2, idx, blk, rfl, ht⟩ := ht;refine zu8 _ _ _ _ _ _ _ _ ?_;unfold zkf;refine aC (fun hc => ?_) (fun hc => ?_)
 ·simp only [aB] at hc;rw [if_neg (by omega)]
 ·simp only [aB] at hc;refine ⟨_, rfl, ?_⟩;refine aC (fun hc2 => ?_) (fun hc2 => ?_)
  ·simp only [aB, ge_iff_le] at hc2;rw [if_neg (by omega)]
  ·simp only [aB, ge_iff_le] at hc2;rw [if_pos (by omega)];obtain ⟨hq, g0, hk, hj, he⟩ := ht.get (i := i) (by omega) (by omega);have hw : i64.wrap (i.tdiv 128) = i / 128 := by rw [qq (by omega)]; exact wz
   have hm : i.tmod 128 = i % 128 := qr (by omega);have hg : (bG idx).getD (i / 128).toNat [] = [.int .i64 idx[(i / 128).toNat]] := c7 hq;have hg2 : (bL encI blk).getD idx[(i / 128).toNat].toNat [] = cells encI blk[idx[(i / 128).toNat].toNat] := c7 hk;refine ⟨_, _, _, rfl, _, _, _, rfl, ?_⟩;rw [hw];refine ⟨cS oJ (by omega) (by omega), idx[(i / 128).toNat], by rw [hg]; rfl, cS (EI.cells_len) g0 (by omega), by rw [hm]; omega, F i, ?_, rfl⟩;rw [hg2, hm];have := EI.at _ _ hj;simp only [qm, qw] at this;unfold cells;rw [this, he];rfl
def cI (b : aV Int) : List PV := cells encI b
def kvI (k : Int) : PV := .int .i64 k
def gT (kn : List (aV Int × Int)) : List (PV × PV) := cY (fun b => .agg (cI b)) kvI kn
def jV (ev : List (Int × Int)) : List (PV × PV) := cY (fun v => .int .i64 v) kvI ev
def nE (sz : Int) (kn : List (aV Int × Int)) (ev : List (Int × Int)) (ixm ixn bkm bkn : Bool) (idx : List Int) (blk : List (aV Int)) : Hp :=
 [.box [.box 1 0, .mp 2, .mp 3], .box [.pv (.int .i64 sz), .own 4, .own 5], .mp (gT kn), .mp (jV ev), .sl (3, 1) ixm ixn (bG idx), .sl (161, 128) bkm bkn (bL encI blk)]
theorem oK (b : aV Int) : (cI b).length = 128 := EI.cells_len b
theorem zco (b : aV Int) : qi 128 (qc 0 (cI b)) = cI b := by rw [qp, qf (by rw [oK]; omega)]
theorem zkl : fM qa 161 = true := by kernel_rfl
theorem zkm : g9 qa 161 = (qb 128 [3]).flatten := by kernel_rfl
theorem zvd (b : aV Int) (kn : List (aV Int × Int)) : cR (.agg (cI b)) (gT kn) = (cN b kn).map kvI := nY (ek := fun b => PV.agg (cI b)) (ev := kvI) EI.blkEq b kn
theorem zve (b : aV Int) (k : Int) (kn : List (aV Int × Int)) : bV (.agg (cI b)) (kvI k) (gT kn) = gT (cV b k kn) := kV (ek := fun b => PV.agg (cI b)) (ev := kvI) EI.blkEq b k kn
theorem okI (b : aV Int) : bI qa 161 (.agg (cI b)) = true := EI.blkOk zkl zkm b
theorem zkn (kn : List (aV Int × Int)) : c9 qa 161 (gT kn) := EI.blksOk zkl zkm kn
theorem zko {sz : Int} {F : Int -> Int} {idx : List Int} {blk : List (aV Int)} {kn : List (aV Int × Int)} {ev : List (Int × Int)} (hk : TInv sz F idx blk kn ev) (hb : blk.length <= 10000000) (ixn bkn : Bool) (b : aV Int) :
 ACall qa 85 [.box 0 0, .pv (.agg (cI b))] (nE sz kn ev false ixn false bkn idx blk) fun r h' => ∃ k kn' bn' blk', r = .pv (kvI k) /\ h' = nE sz kn' ev false ixn true bn' idx blk' /\ TInv sz F idx blk' kn' ev /\ 0 <= k /\ blk'[k.toNat]? = some b /\ blk'.length <= blk.length + 1 := by
 refine ACall.mark 1000 [5] (R := fun r h' => ∃ k kn' bm' bn' blk', r = .pv (kvI k) /\ h' = nE sz kn' ev false ixn bm' bn' idx blk' /\ TInv sz F idx blk' kn' ev /\ 0 <= k /\ blk'[k.toNat]? = some b /\ blk'.length <= blk.length + 1) ?_ ?_
 ·refine zu9 _ _ _ _ _ _ _ _ _ _ ?_;unfold zkg;rw [zco, zvd];have h128 : 128 <= (qc 0 (cI b)).length := by rw [qp, oK]; omega
  refine ⟨h128, zkn kn, okI b, fun v hv => ?_, fun hv => ?_⟩
  ·cases hg : cN b kn with
   | none => rw [hg] at hv; cases hv
   | some k =>
     rw [hg] at hv; cases hv;obtain ⟨k0, k1⟩ := hk.kn_ok b k hg;exact ⟨k, rfl, k, kn, false, bkn, blk, rfl, rfl, hk, k0, k1, by omega⟩
  ·have hsz : aU [cI b] 128 /\ ((bL encI blk).length + 1) * 1024 <= 140737488355328 := ⟨fun e he => by simp at he; subst he; exact oK b, by rw [mD]; omega⟩
   have fin : ∃ k kn' bm' bn' blk', LV.pv (.int .i64 ((bL encI blk).length : Int)) = .pv (kvI k) /\
    [Ob.box [.box 1 0, .mp 2, .mp 3], .box [.pv (.int .i64 sz), .own 4, .own 5], .mp (bV (.agg (cI b)) (.int .i64 ((bL encI blk).length : Int)) (gT kn)), .mp (jV ev), .sl (3, 1) false ixn (bG idx), .sl (161, 128) true (bkn && false) (bL encI blk ++ [cI b])] = nE sz kn' ev false ixn bm' bn' idx blk' /\ TInv sz F idx blk' kn' ev /\ 0 <= k /\ blk'[k.toNat]? = some b /\ blk'.length <= blk.length + 1 := by
    refine ⟨blk.length, cV b (blk.length : Int) kn, true, bkn && false, blk ++ [b], by rw [mD]; rfl, ?_, hk.place b, by omega, by simp, by simp⟩;have := zve b (blk.length : Int) kn;unfold kvI at this;rw [mD, this];simp [nE, bL, cI]
   exact ⟨h128, zkn kn, okI b, h128, ⟨oK b, hsz, fin⟩, oK b, ⟨hsz, fin⟩, hsz, fin⟩
 ·rintro r h' ⟨k, kn', bm', bn', blk', rfl, rfl, h1, h2, h3, h4⟩;exact ⟨k, kn', bn', blk', rfl, rfl, h1, h2, h3, h4⟩
theorem zvf (v : Int) (ev : List (Int × Int)) : cR (.int .i64 v) (jV ev) = (cN v ev).map kvI := nY (ek := fun v => PV.int .i64 v) (ev := kvI) (sQ .i64) v ev
theorem zvg (v k : Int) (ev : List (Int × Int)) : bV (.int .i64 v) (kvI k) (jV ev) = jV (cV v k ev) := kV (ek := fun v => PV.int .i64 v) (ev := kvI) (sQ .i64) v k ev
theorem zcp (l : List Int) (j : Nat) (hj : j < l.length) (v : Int) : aW (l.flatMap encI) (0 + j * 1) [.int .i64 v] = (l.set j v).flatMap encI := by
 have := EI.put l j hj v;simp only [qm, qw, qag] at this ⊢;exact this
theorem zcq (l : List Int) : (l.flatMap encI).length = l.length := by
 have := EI.flen l;simpa using this
theorem zkp : qb 128 (PV.int .i64 0) = (qb 128 (0 : Int)).flatMap encI := by
 generalize 128 = n
 induction n with
 | zero => rfl
 | succ n ih => simp only [qbg, qac, ih]; rfl
theorem zvh {l : List Int} {v : Int} (hl : l.length = 128) (h : ∀ q, q < 128 -> l[q]? = some v) : l = qb 128 v := by
 refine qav fun q => ?_;rcases qbl q 128 with hq | hq
 ·rw [h q hq, qaa, if_pos hq]
 ·rw [qab (by omega), qab (by simp; omega)]
theorem zvi {sz : Int} {F : Int -> Int} {idx : List Int} {blk : List (aV Int)} {kn : List (aV Int × Int)} {ev : List (Int × Int)} (hk : TInv sz F idx blk kn ev) (hb : blk.length <= 10000000) (ixn bkn : Bool) (v : Int) :
 ACall qa 84 [.box 0 0, .pv (.int .i64 v)] (nE sz kn ev false ixn false bkn idx blk) fun r h' => ∃ k kn' ev' bn' blk', r = .pv (kvI k) /\ h' = nE sz kn' ev' false ixn true bn' idx blk' /\ TInv sz F idx blk' kn' ev' /\ 0 <= k /\ blk'[k.toNat]? = some (rep v) /\ blk'.length <= blk.length + 1 := by
 refine ACall.mark 1000 [5] (R := fun r h' => ∃ k kn' ev' bm' bn' blk', r = .pv (kvI k) /\ h' = nE sz kn' ev' false ixn bm' bn' idx blk' /\ TInv sz F idx blk' kn' ev' /\ 0 <= k /\ blk'[k.toNat]? = some (rep v) /\ blk'.length <= blk.length + 1) ?_ ?_
 ·refine zva _ _ _ _ _ _ _ _ _ _ (fun x m2 m3 c => 0 <= x /\ x <= 128 /\ m2 = gT kn /\ m3 = jV ev /\ ∃ l : List Int, l.length = 128 /\ c = l.flatMap encI /\ ∀ q, q < x.toNat -> l[q]? = some v) (fun x _ _ _ => 128 - x.toNat) ?_;unfold zkh;rw [zvf];refine ⟨oB ev, fun u hu => ?_, fun hu => ⟨⟨rfl, qe _, by omega, rfl, rfl, qb 128 0, by simp, zkp, fun q hq => by simp at hq⟩, ?_⟩⟩
  ·cases hg : cN v ev with
   | none => rw [hg] at hu; cases hu
   | some k =>
     rw [hg] at hu; cases hu;obtain ⟨k0, k1⟩ := hk.ev_ok v k hg;exact ⟨k, rfl, k, kn, ev, false, bkn, blk, rfl, rfl, hk, k0, k1, by omega⟩
  ·rintro x _ _ _ ⟨x0, x1, rfl, rfl, l, hl, rfl, hq⟩;refine aC (fun hc => ?_) (fun hc => ?_)
   ·simp only [aB] at hc;have hw : i64.wrap (x + 1) = x + 1 := wz;have hn : (x + 1).toNat = x.toNat + 1 := by omega
    rw [zcp l x.toNat (by omega) v, hw, zcq];refine ⟨⟨x0, hc⟩, ⟨rfl, by omega⟩, rfl, ⟨by omega, by omega, rfl, rfl, l.set x.toNat v, by simpa using hl, rfl, fun q hq' => ?_⟩, by dsimp only; omega⟩
    rw [hn] at hq';rw [qae];by_cases e : x.toNat = q
    ·rw [if_pos e, if_pos (by omega)]
    ·rw [if_neg e]; exact hq q (by omega)
   ·simp only [aB] at hc;have hx : x = 128 := by omega
    subst hx;have hrep := zvh hl hq;subst hrep;have hcI : (qb 128 v).flatMap encI = cI (rep v) := rfl;rw [hcI, zco];refine ⟨by rw [qp, oK]; omega, ?_⟩;refine (zko hk hb ixn bkn (rep v)).mono ?_;rintro _ _ ⟨k, kn', bn', blk', rfl, rfl, h1, h2, h3, h4⟩;refine ⟨(k, gT kn', bn', bL encI blk'), ⟨rfl, rfl⟩, ⟨trivial, ⟨rfl, rfl, rfl⟩, trivial, trivial, trivial, trivial, trivial⟩, oB ev, ?_⟩;have := zvg v k ev;unfold kvI at this;simp only [this];exact ⟨k, kn', cV v k ev, _, bn', blk', rfl, rfl, h1.even h2 h3, h2, h3, h4⟩
 ·rintro r h' ⟨k, kn', ev', bm', bn', blk', rfl, rfl, h1, h2, h3, h4⟩;exact ⟨k, kn', ev', bn', blk', rfl, rfl, h1, h2, h3, h4⟩
theorem zvj {α : Type} {v : α} {j : Nat} {u : α} (h : (Trie.rep v).1[j]? = some u) : u = v /\ j < 128 := by
 simp only [Trie.rep, qaa] at h;split at h
 ·rename_i hj; cases h; exact ⟨rfl, hj⟩
 ·cases h
theorem zvk (sz z : Int) (n f : Bool) (l : List (Pc Int)) (hl : l.length < 4611686018427387904) (hok : ∀ p ∈ l, Pc.ok p) (hs1 : 1 <= sz) (hs2 : sz <= 1114112) :
 PCall qa 56 [.int .i64 sz, .int .i64 z, .sl n f (mE l)] fun v => TrieI sz (gM l z) v := by
 have hF := fun i => sW l z i (sz - 1);generalize hFF : gM l z = F at *
 refine zvb _ _ _ _ _
  (fun x9 x10 x11 _ s2 _ s3 m4 m5 => ∃ idx blk kn ev, s2 = bG idx /\ s3 = bL encI blk /\ m4 = gT kn /\ m5 = jV ev /\ TInv sz F idx blk kn ev /\ x11 = 128 * idx.length /\ blk.length <= idx.length /\ x11 < sz + 128 /\ (∀ j, x11 <= j -> j <= x10 -> F j = x9) /\ x10 <= sz - 1)
  (fun _ _ x11 _ _ _ _ _ _ => (sz + 128 - x11).toNat)
  (fun _ _ y11 _ _ _ _ _ _ _ x9 x10 x11 x13 _ s2 _ s3 m4 m5 => ∃ idx blk kn ev, s2 = bG idx /\ s3 = bL encI blk /\ m4 = gT kn /\ m5 = jV ev /\ TInv sz F idx blk kn ev /\ x11 = 128 * idx.length /\ x11 < sz + 128 /\ (∀ j, x11 <= j -> j <= x10 -> F j = x9) /\ x10 <= sz - 1 /\ 0 <= x13 /\ blk[x13.toNat]? = some (rep x9) /\
   ((x11 = y11 /\ x11 < sz /\ (x11 + 127 <= x10 ∨ sz - 1 <= x10) /\ blk.length <= idx.length + 1) ∨ (y11 + 128 <= x11 /\ blk.length <= idx.length)))
  (fun _ _ x11 _ _ _ _ _ _ _ => (sz + 128 - x11).toNat)
  (fun _ _ y11 _ _ _ _ _ _ _ _ x9 x10 x11 x c _ s3 _ s4 m5 m6 => ∃ idx blk kn ev, s3 = bG idx /\ s4 = bL encI blk /\ m5 = gT kn /\ m6 = jV ev /\ TInv sz F idx blk kn ev /\ x11 = 128 * idx.length /\ blk.length <= idx.length /\ x11 = y11 /\ x11 < sz /\ 0 <= x /\ x <= 128 /\ x10 <= sz - 1 /\ (∀ j, x11 + x <= j -> j <= x10 -> F j = x9) /\
   ∃ b : List Int, b.length = 128 /\ c = b.flatMap encI /\ ∀ (q : Nat) u, b[q]? = some u -> q < x.toNat -> x11 + q < sz -> u = F (x11 + q))
  (fun _ _ _ x _ _ _ _ _ _ _ => (128 - x).toNat) ?_
 unfold zki;have hw1 : i64.wrap (sz - 1) = sz - 1 := wz;rw [hw1];refine bR (by simp; omega) ?_;refine (zcm n f l z 0 (sz - 1) hl hok).mono ?_;rintro _ rfl;obtain ⟨_, f2, f3, f4⟩ := hF 0 (by omega);refine ⟨_, rfl, rfl, _, rfl, _, rfl, _, rfl, _, rfl, ⟨rfl, [], [], [], [], rfl, rfl, rfl, rfl, TInv.nil, rfl, qz _, by omega, f4, f3⟩, ?_⟩;clear f2 f3 f4;rintro v0 u0 x _ _ _ _ _ _ ⟨idx, blk, kn, ev, rfl, rfl, rfl, rfl, hk, hx, hb, hx2, hv0, hu0⟩;refine aC (fun hc => ?_) (fun hc => ?_)
 ·simp only [aB] at hc;have hw2 : i64.wrap (x + 128) = x + 128 := wz;rw [hw2]
  have hmin : ∀ a : Int, i64.wrap ((if sz < a + 128 then sz else a + 128) - 1) = (if sz < a + 128 then sz else a + 128) - 1 ∨ ¬ (0 <= a /\ a <= 1114112) := fun a => by
   by_cases ha : 0 <= a /\ a <= 1114112
   ·left; split <;> exact wz
   ·exact .inr ha
  have hmx := (hmin x).resolve_right (by omega);rw [hmx];refine aC (fun hgt => ?ga) (fun hgt => ?gb)
  case' ga =>
   refine (zcm n f l z x (sz - 1) hl hok).mono ?_;rintro _ rfl;obtain ⟨_, hux, hu, hv⟩ := hF x (by omega);refine ⟨_, rfl, rfl, _, rfl, _, rfl, _, rfl, _, rfl, ?_⟩
   revert hv hu
   generalize (findL l z x (sz - 1)).1 = v;generalize (findL l z x (sz - 1)).2 = u;clear hv0 hu0 hux;intro hu hv
  case' gb =>
   revert hv0 hu0 hgt
   generalize v0 = v;generalize u0 = u;intro hv hu hgt
  all_goals
   clear hgt;refine aC (fun hc2 => ?_) (fun hc2 => ?_)
   ·simp only [aB, ge_iff_le] at hc2;have hc3 : x + 127 <= u ∨ sz - 1 <= u := by split at hc2 <;> omega
    refine (zvi hk (by omega) _ _ v).mono ?_;rintro _ _ ⟨k, kn', ev', bn', blk', rfl, rfl, g1, g2, g3, g4⟩;refine ⟨(k, gT kn', jV ev', bn', bL encI blk'), ⟨rfl, rfl⟩, ⟨trivial, ⟨rfl, rfl, rfl⟩, trivial, trivial, trivial, trivial, trivial⟩, ⟨rfl, idx, blk', kn', ev', rfl, rfl, rfl, rfl, g1, hx, hx2, hv, hu, g2, g3, .inl ⟨rfl, hc, hc3, by omega⟩⟩, ?_⟩;rintro w t y k' _ _ _ _ _ _ ⟨idx2, blk2, kn2, ev2, rfl, rfl, rfl, rfl, hk2, hy, hy2, hw, ht, hk0, hkb, hor⟩;have hwy : i64.wrap (y + 128) = y + 128 := wz;rw [hwy, (hmin y).resolve_right (by omega)];refine aC (fun hc4 => ?_) (fun hc4 => ?_)
    ·simp only [qh, aB, ge_iff_le] at hc4;have hc5 : y + 127 <= t ∨ sz - 1 <= t := by have := hc4.2; split at this <;> omega
     refine ⟨⟨fun e he => by simp at he; subst he; rfl, by rw [lE]; omega⟩, rfl, ⟨idx2 ++ [k'], blk2, kn2, ev2, by simp [bG], rfl, rfl, rfl, hk2.push hk0 hkb fun j u' hj hlt => ?_, by simp; omega, by omega, fun j h1 h2 => hw j (by omega) h2, ht, hk0, hkb, .inr ⟨by omega, by simp; omega⟩⟩, by dsimp only; omega⟩;obtain ⟨rfl, hj2⟩ := zvj hj;exact (hw _ (by omega) (by omega)).symm
    ·have hnot : y + 128 <= y + 128 := qe _;have hw128 : i64.wrap (y - 128) = y - 128 := wz;have hback : i64.wrap (y - 128 + 128) = y := by rw [wz]; omega
     rw [hw128, hback];simp only [qh, aB, ge_iff_le, not_and] at hc4
     have hor2 : x + 128 <= y /\ blk2.length <= idx2.length := by
      rcases hor with ⟨h1, h2, h3, h4⟩ | h
      ·exfalso;have := hc4 h2;split at this <;> omega
      ·exact h
     exact ⟨rfl, ⟨idx2, blk2, kn2, ev2, rfl, rfl, rfl, rfl, hk2, hy, hor2.2, hy2, hw, ht⟩, by dsimp only; omega⟩
   ·clear hc2;refine ⟨⟨rfl, idx, blk, kn, ev, rfl, rfl, rfl, rfl, hk, hx, hb, rfl, hc, qe _, by omega, hu, fun j h1 h2 => hv j (by omega) h2, qb 128 0, by simp, zkp, fun q u' _ hq _ => by simp at hq⟩, ?_⟩;rintro w t y i _ _ _ _ _ _ _ ⟨idx2, blk2, kn2, ev2, rfl, rfl, rfl, rfl, hk2, hy, hb2, hyx, hy2, i0, i1, ht, hw, b, hbl, rfl, hbq⟩;have hwyi : i64.wrap (y + i) = y + i := wz;have hwi : i64.wrap (i + 1) = i + 1 := wz;have hwy : i64.wrap (y + 128) = y + 128 := wz;rw [hwyi, hwi, hwy]
    have step : ∀ (v' u' : Int), (∀ j, y + i <= j -> j <= u' -> F j = v') -> u' <= sz - 1 -> (y + i < sz -> F (y + i) = v') -> i < 128 ->
     ∃ idx blk kn ev, bG idx2 = bG idx /\ bL encI blk2 = bL encI blk /\ gT kn2 = gT kn /\ jV ev2 = jV ev /\ TInv sz F idx blk kn ev /\ y = 128 * idx.length /\ blk.length <= idx.length /\ y = x /\ y < sz /\ 0 <= i + 1 /\ i + 1 <= 128 /\ u' <= sz - 1 /\ (∀ j, y + (i + 1) <= j -> j <= u' -> F j = v') /\
      ∃ c : List Int, c.length = 128 /\ (b.set i.toNat v').flatMap encI = c.flatMap encI /\ ∀ (q : Nat) u, c[q]? = some u -> q < (i + 1).toNat -> y + q < sz -> u = F (y + q) := fun v' u' h1 h2 h3 h4 => by
     refine ⟨idx2, blk2, kn2, ev2, rfl, rfl, rfl, rfl, hk2, hy, hb2, hyx, hy2, by omega, by omega, h2, fun j a1 a2 => h1 j (by omega) a2, b.set i.toNat v', by simpa using hbl, rfl, fun q u hq hq2 hq3 => ?_⟩
     rw [qae] at hq;by_cases e : i.toNat = q
     ·rw [if_pos e, if_pos (by omega)] at hq;cases hq;have e2 : y + (q : Int) = y + i := by omega
      rw [e2];exact (h3 (by omega)).symm
     ·rw [if_neg e] at hq;exact hbq q u hq (by omega) hq3
    refine aC (fun hc5 => ?_) (fun hc5 => ?_)
    ·simp only [aB] at hc5;refine aC (fun hc6 => ?_) (fun hc6 => ?_)
     ·simp only [qh, aB, gt_iff_lt] at hc6;refine (zcm n f l z (y + i) (sz - 1) hl hok).mono ?_;rintro _ rfl;obtain ⟨q1, q2, q3, q4⟩ := hF (y + i) (by omega);refine ⟨_, rfl, rfl, _, rfl, _, rfl, _, rfl, _, rfl, ⟨i0, hc5⟩, ⟨rfl, by rw [zcq]; omega⟩, rfl, ?_, by dsimp only; omega⟩;rw [zcp b i.toNat (by omega)];exact step _ _ q4 q3 (fun _ => q1.symm) hc5
     ·simp only [qh, aB, gt_iff_lt, not_and] at hc6;refine ⟨⟨i0, hc5⟩, ⟨rfl, by rw [zcq]; omega⟩, rfl, ?_, by dsimp only; omega⟩;rw [zcp b i.toNat (by omega)];exact step _ _ hw ht (fun h => hw (y + i) (qe _) ((qbm t (y + i)).elim (fun h2 => absurd h (hc6 h2)) id)) hc5
    ·simp only [aB] at hc5;have hi : i = 128 := by omega
     subst hi;obtain ⟨B, hB⟩ : ∃ B : aV Int, B.1 = b := ⟨⟨b, hbl⟩, rfl⟩;subst hB;have hcI : B.1.flatMap encI = cI B := rfl;rw [hcI, zco];refine ⟨by rw [qp, oK]; omega, (fun h => ⟨h, h⟩) ?_⟩;refine (zko hk2 (by omega) _ _ B).mono ?_;rintro _ _ ⟨k, kn', bn', blk', rfl, rfl, h1, h2, h3, h4⟩;refine ⟨(k, gT kn', bn', bL encI blk'), ⟨rfl, rfl⟩, ⟨trivial, ⟨rfl, rfl, rfl⟩, trivial, trivial, trivial, trivial, trivial⟩, ⟨fun e he => by simp at he; subst he; rfl, by rw [lE]; omega⟩, rfl, ⟨idx2 ++ [k], blk', kn', ev2, by simp [bG, kvI], rfl, rfl, rfl, h1.push h2 h3 fun j u' hj hlt => ?_, by simp; omega, by simp; omega, by omega, fun j a1 a2 => hw j (by omega) a2, ht⟩, by dsimp only; omega⟩;have hj2 : j < 128 := by have := (List.getElem?_eq_some_iff.1 hj).1; simp only [hbl] at this; exact this
     rw [<- hy];exact hbq j u' hj (by omega) (by omega)
 ·simp only [aB] at hc;exact ⟨_, _, _, _, idx, blk, rfl, by omega, hk.idx_ok⟩
end Go.Eng
namespace Go.Eng
open Go Go.Proofs
def zcr (n f : Bool) (es : LL) (za zb zc zd : Bool) (i x3 x14 : Int) (h1_0 h1_1 h1_2 h1_3 : Bool) : Env × Hp := ([(2, Y6 i), (3, Y6 x3), (5, LV.box 0 0), (8, LV.box 1 0), (12, LV.pv (PV.sl n f es)), (13, LV.pv (PV.int i64 (es.length : Int))), (14, Y6 x14)], [.box [LV.pv (PV.bool za), LV.pv (PV.bool zb), LV.pv (PV.bool zc), LV.pv (PV.bool zd)], .box [.pv (.bool h1_0), .pv (.bool h1_1), .pv (.bool h1_2), .pv (.bool h1_3)]])
section
variable (n f : Bool) (es : LL) (za zb zc zd : Bool) (i last : Int) (J : Int -> Int -> Bool -> Bool -> Bool -> Bool -> Prop) (μ : Int -> Int -> Bool -> Bool -> Bool -> Bool -> Nat)
def zkq (R : PV -> Prop) : Prop :=
 (aG (zcr n f es za zb zc zd i last (0 : Int) false false false false) /\ J last (0 : Int) false false false false) /\ ∀ (x3 x14 : Int) (h1_0 h1_1 h1_2 h1_3 : Bool), J x3 x14 h1_0 h1_1 h1_2 h1_3 ->
 let K2 := fun (y0_ y1_ : Int) (y2_ y3_ y4_ y5_ : Bool) => aG (zcr n f es za zb zc zd i y0_ y1_ y2_ y3_ y4_ y5_) /\ J y0_ y1_ y2_ y3_ y4_ y5_ /\ μ y0_ y1_ y2_ y3_ y4_ y5_ < μ x3 x14 h1_0 h1_1 h1_2 h1_3;
  if decide (x14 < (↑es.length : Int)) = true then aD es x14 6 /\ ∃ n1, (es.getD x14.toNat []).head? = some (Z6 n1) /\ ∃ n2, (es.getD x14.toNat []).tail.head? = some (Z6 n2) /\ ∃ b, (es.getD x14.toNat
  []).tail.tail.head? = some (Zb b) /\ ∃ b1, (es.getD x14.toNat []).tail.tail.tail.head? = some (Zb b1) /\ ∃ b2, (es.getD x14.toNat []).tail.tail.tail.tail.head? = some (Zb b2) /\ ∃ b3, (es.getD x14.toNat
  []).tail.tail.tail.tail.tail.head? = some (Zb b3) /\
 let V1 :=
 let V2 := K2 x3 (i64.wrap (x14 + 1)) h1_0 h1_1 h1_2 h1_3; if decide (i < n1) = true then if decide (n1 <= x3) = true then K2 (i64.wrap (n1 - 1)) (i64.wrap (x14 + 1)) h1_0 h1_1 h1_2 h1_3 else V2 else V2; if decide (n1
  <= i) = true then if decide (i <= n2) = true then (R (PV.tup [PV.agg [Zb b, Zb b1, Zb b2, Zb b3], Z6 (if x3 < n2 then x3 else n2)]) /\ R (PV.tup [PV.agg [Zb b, Zb b1, Zb b2, Zb b3], Z6 (if x3 < n2 then x3 else n2)])) /\ R (PV.tup [PV.agg [Zb
  b, Zb b1, Zb b2, Zb b3], Z6 (if x3 < n2 then x3 else n2)]) else V1 else V1 else R (PV.tup [PV.agg [Zb za, Zb zb, Zb zc, Zb zd], Z6 x3])
theorem zvl {R : PV -> Prop} (h : zkq n f es za zb zc zd i last J μ R) : PCall qa 88 [.sl n f es, .agg [.bool za, .bool zb, .bool zc, .bool zd], .int .i64 i, .int .i64 last] R :=
 PCall.wz Tryz.func88 aR [0, 1, 2, 3, 5, 8, 9, 11, 12, 13, 14, 15, 18, 35] (dA 2 (bN cz6 (zcr n f es za zb zc zd i) J μ (fun e h => (gI e 3, gI e 14, hB h 1 0, hB h 1 1, hB h 1 2, hB h 1 3)) [] [2, 3, 5, 8, 12, 13, 14] [])) h
end
section
variable (sz : Int) (n f n2 f2 : Bool) (es bs : LL) (i : Int)
def zkr (R : PV -> Prop) : Prop :=
 if decide (i < 0) = true then R (PV.agg [Zb false, Zb false, Zb false, Zb false]) else ∃ n1, some (Z6 sz) = some (Z6 n1) /\ if decide (i >= n1) = true then R (PV.agg [Zb false, Zb false, Zb false, Zb false]) else ∃ n3 f1 es1, some (PV.sl n2 f2 bs) = some (PV.sl n3 f1 es1) /\ ∃ n4 f3 es2, some (PV.sl n f es) = some (PV.sl n4 f3 es2) /\ aD es2 (i64.wrap (i.tdiv (128 : Int))) 1 /\ ∃ n5, (es2.getD (i64.wrap (i.tdiv (128 : Int))).toNat []).head? = some (Z6 n5) /\ aD es1 n5 512 /\ ((0 : Int) <= i.tmod (128 : Int) /\ i.tmod (128 : Int) < (↑128 : Int)) /\ ∃ b, (qc ((i.tmod (128 : Int)).toNat * 4) (es1.getD n5.toNat [])).head? = some (Zb b) /\ ∃ b1, (qc ((i.tmod (128 : Int)).toNat * 4) (es1.getD n5.toNat [])).tail.head? = some (Zb b1) /\ ∃ b2, (qc ((i.tmod (128 : Int)).toNat * 4) (es1.getD n5.toNat [])).tail.tail.head? = some (Zb b2) /\ ∃ b3, (qc ((i.tmod (128 : Int)).toNat * 4) (es1.getD n5.toNat [])).tail.tail.tail.head? = some (Zb b3) /\ R (PV.agg [Zb b, Zb b1, Zb b2, Zb b3])
theorem zvm {R : PV -> Prop} (h : zkr sz n f n2 f2 es bs i R) : PCall qa 70 [.ptr [.int .i64 sz, .sl n f es, .sl n2 f2 bs], .int .i64 i] R :=
 PCall.wz Tryz.func70 aR [0, 1, 4, 5, 19] bE h
end
section
variable (sz : Int) (kn ev : List (PV × PV)) (ixm ixn bkm bkn : Bool) (ix bk : LL) (b : List PV)
def zks (R : LV -> Hp -> Prop) : Prop :=
 512 <= (qc 0 b).length /\ c9 qa 178 kn /\ bI qa 178 (PV.agg (qi 512 (qc 0 b))) = true /\ (∀ (v : PV), cR (PV.agg (qi 512 (qc 0 b))) kn = some v -> ∃ n, v = Z6 n /\ R (Y6 n)
  [Ob.box [LV.box 1 0, LV.mp 2, LV.mp 3], Ob.box [Y6 sz, LV.own 4, LV.own 5], Ob.mp kn, Ob.mp ev, Ob.sl (3, 1) ixm ixn ix, Ob.sl (178, 512) bkm bkn bk]) /\ (cR (PV.agg (qi 512 (qc 0 b))) kn = none -> 512 <= (qc 0
  b).length /\ c9 qa 178 kn /\ bI qa 178 (PV.agg (qi 512 (qc 0 b))) = true /\ 512 <= (qc 0 b).length /\
 let V1 := (aU [qi 512 (qc 0 b)] 512 /\ (bk.length + 1) * 512 <= 140737488355328) /\ R (Y6 (↑bk.length : Int)) [Ob.box [LV.box 1 0, LV.mp 2, LV.mp 3], Ob.box [Y6 sz, LV.own 4, LV.own 5], Ob.mp (bV (PV.agg (qi 512
  (qc 0 b))) (Z6 (↑bk.length : Int)) kn), Ob.mp ev, Ob.sl (3, 1) ixm ixn ix, Ob.sl (178, 512) true (bkn && false) (bk ++ [qi 512 (qc 0 b)])]; ((qi 512 (qc 0 b)).length = 512 /\ V1) /\ (qi 512
  (qc 0 b)).length = 512 /\ V1 /\ V1)
theorem zvn {R : LV -> Hp -> Prop} (h : zks sz kn ev ixm ixn bkm bkn ix bk b R) : ACall qa 90 [.box 0 0, .pv (.agg b)] [.box [.box 1 0, .mp 2, .mp 3], .box [.pv (.int .i64 sz), .own 4, .own 5], .mp kn, .mp ev, .sl (3, 1) ixm ixn ix, .sl (178, 512) bkm bkn bk] R :=
 ACall.wz Tryz.func90 aR [0, 1, 3, 4, 5, 6, 17] bE [0,1,2,3,4,5] h
end
def zcs (sz : Int) (ixm ixn bkm bkn : Bool) (ix bk : LL) (va vb vc vd : Bool) (x20 : Int) (m_2 : List (PV × PV)) (m_3 : List (PV × PV)) (c_7 : List PV) : Env × Hp := ([(0, LV.box 0 0), (3, LV.box 6 0), (7, LV.box 7 0), (20, Y6 x20)], [.box [LV.box 1 0, LV.mp 2, LV.mp 3], .box [Y6 sz, LV.own 4, LV.own 5], .mp m_2, .mp m_3, .sl (3, 1) ixm ixn ix, .sl (178, 512) bkm bkn bk, .box [LV.pv (PV.bool va), LV.pv (PV.bool vb), LV.pv (PV.bool vc), LV.pv (PV.bool vd)], .arr c_7])
section
variable (sz : Int) (kn ev : List (PV × PV)) (ixm ixn bkm bkn : Bool) (ix bk : LL) (va vb vc vd : Bool) (J : Int -> (List (PV × PV)) -> (List (PV × PV)) -> (List PV) -> Prop) (μ : Int -> (List (PV × PV)) -> (List (PV × PV)) -> (List PV) -> Nat)
def zkt (R : LV -> Hp -> Prop) : Prop :=
 c9 qa 112 ev /\ bI qa 112 (PV.agg [Zb va, Zb vb, Zb vc, Zb vd]) = true /\ (∀ (v : PV), cR (PV.agg [Zb va, Zb vb, Zb vc, Zb vd]) ev = some v -> ∃ n, v = Z6 n /\ R (Y6 n) [Ob.box [LV.box 1 0, LV.mp 2, LV.mp 3], Ob.box [Y6 sz, LV.own 4, LV.own 5], Ob.mp kn, Ob.mp ev, Ob.sl (3, 1) ixm ixn ix, Ob.sl (178, 512) bkm bkn bk]) /\ (cR (PV.agg [Zb va, Zb vb, Zb vc, Zb vd]) ev = none -> (SameSt ([(0, LV.box 0 0), (3, LV.box 6 0), (7, LV.box 7 0), (20, Y6 0)], [Ob.box [LV.box 1 0, LV.mp 2, LV.mp 3], Ob.box [Y6 sz, LV.own 4, LV.own 5], Ob.mp kn, Ob.mp ev, Ob.sl (3, 1) (bif false then true else ixm) ixn ix, Ob.sl (178, 512) (bif false then true else bkm) bkn bk, Ob.box [LV.pv (Zb va), LV.pv (Zb vb), LV.pv (Zb vc), LV.pv (Zb vd)], Ob.arr (qb 512 (Zb false))]) (zcs sz ixm ixn bkm bkn ix bk va vb vc vd (0 : Int) kn ev (qb 512 (Zb false))) /\ J (0 : Int) kn ev (qb 512 (Zb false))) /\ ∀ (x20 : Int) (m_2 m_3 : List (PV × PV)) (c_7 : List PV), J x20 m_2 m_3 c_7 -> if decide (x20 < 128) = true then ((0 : Int) <= x20 /\ x20 < (↑128 : Int)) /\ (4 = 4 /\ 0 + x20.toNat * 4 + 4 <= c_7.length) /\ SameSt ([(0, LV.box 0 0), (3, LV.box 6 0), (7, LV.box 7 0), (20, LV.pv (Z6 (i64.wrap (x20 + 1))))], [Ob.box [LV.box 1 0, LV.mp 2, LV.mp 3], Ob.box [Y6 sz, LV.own 4, LV.own 5], Ob.mp m_2, Ob.mp m_3, Ob.sl (3, 1) (bif false then true else ixm) ixn ix, Ob.sl (178, 512) (bif false then true else bkm) bkn bk, Ob.box [LV.pv (Zb va), LV.pv (Zb vb), LV.pv (Zb vc), LV.pv (Zb vd)], Ob.arr (aW c_7 (0 + x20.toNat * 4) [Zb va, Zb vb, Zb vc, Zb vd])]) (zcs sz ixm ixn bkm bkn ix bk va vb vc vd (i64.wrap (x20 + 1)) m_2 m_3 (aW c_7 (0 + x20.toNat * 4) [Zb va, Zb vb, Zb vc, Zb vd])) /\ J (i64.wrap (x20 + 1)) m_2 m_3 (aW c_7 (0 + x20.toNat * 4) [Zb va, Zb vb, Zb vc, Zb vd]) /\ μ (i64.wrap (x20 + 1)) m_2 m_3 (aW c_7 (0 + x20.toNat * 4) [Zb va, Zb vb, Zb vc, Zb vd]) < μ x20 m_2 m_3 c_7 else 512 <= (qc 0 c_7).length /\ ACall qa 90 [LV.box 0 0, LV.pv (PV.agg (qi 512 (qc 0 c_7)))] [Ob.box [LV.box 1 0, LV.mp 2, LV.mp 3], Ob.box [Y6 sz, LV.own 4, LV.own 5], Ob.mp m_2, Ob.mp m_3, Ob.sl (3, 1) false ixn ix, Ob.sl ((178 : Nat), 512) false bkn bk] fun (r : LV) (h' : Hp) => ∃ (t : Int × List (PV × PV) × Bool × LL), (r = Y6 t.1 /\ h' = [Ob.box [LV.box 1 0, LV.mp 2, LV.mp 3], Ob.box [Y6 sz, LV.own 4, LV.own 5], Ob.mp t.snd.fst, Ob.mp m_3, Ob.sl (3, 1) false ixn ix, Ob.sl (178, 512) true t.snd.snd.fst t.snd.snd.snd]) /\ (True /\ ((3, 1) = (3, 1) /\ ixn = ixn /\ ix.length = ix.length) /\ True /\ True /\ True /\ True /\ True) /\ c9 qa 112 m_3 /\ bI qa 112 (PV.agg [Zb va, Zb vb, Zb vc, Zb vd]) = true /\ R (Y6 t.1) [Ob.box [LV.box 1 0, LV.mp 2, LV.mp 3], Ob.box [Y6 sz, LV.own 4, LV.own 5], Ob.mp t.snd.fst, Ob.mp (bV (PV.agg [Zb va, Zb vb, Zb vc, Zb vd]) (Z6 t.1) m_3), Ob.sl (3, 1) (ixm || false) ixn ix, Ob.sl (178, 512) (bkm || true) t.snd.snd.fst t.snd.snd.snd])
theorem zvo {R : LV -> Hp -> Prop} (h : zkt sz kn ev ixm ixn bkm bkn ix bk va vb vc vd J μ R) : ACall qa 89 [.box 0 0, .pv (.agg [.bool va, .bool vb, .bool vc, .bool vd])] [.box [.box 1 0, .mp 2, .mp 3], .box [.pv (.int .i64 sz), .own 4, .own 5], .mp kn, .mp ev, .sl (3, 1) ixm ixn ix, .sl (178, 512) bkm bkn bk] R :=
 ACall.wz Tryz.func89 (fun zz_ => match zz_ with | 90 => some ⟨Int × List (PV × PV) × Bool × LL, fun _ hs t => (.pv (.int .i64 t.1), match hs with | [m, r, .mp _, ev, ix, .sl a _ _ _] => [m, r, .mp t.2.1, ev, ix, .sl a true t.2.2.1 t.2.2.2] | h => h), none⟩ | _ => none) [0, 1, 3, 4, 5, 6, 7, 8, 19, 20, 21] (dA 5 (bN jQ (zcs sz ixm ixn bkm bkn ix bk va vb vc vd) J μ (fun e h => (gI e 20, oM h 2, oM h 3, oA h 7)) [] [0, 3, 7, 20] [])) [0,1,2,3,4,5] h
end
def zct (sz : Int) (za zb zc zd : Bool) (n f : Bool) (es : LL) (x10 x11 : Int) (h3_0 h3_1 h3_2 h3_3 n_4 : Bool) (s_4 : LL) (n_5 : Bool) (s_5 : LL) (m_6 : List (PV × PV)) (m_7 : List (PV × PV)) : Env × Hp := ([(0, Y6 sz), (2, LV.pv (PV.sl n f es)), (4, LV.box 0 0), (7, LV.box 1 0), (8, LV.box 2 0), (9, LV.box 3 0), (10, Y6 x10), (11, Y6 x11)], [.box [LV.pv (PV.bool za), LV.pv (PV.bool zb), LV.pv (PV.bool zc), LV.pv (PV.bool zd)], .box [Y6 sz, LV.own 4, LV.own 5], .box [LV.box 1 0, LV.mp 6, LV.mp 7], .box [.pv (.bool h3_0), .pv (.bool h3_1), .pv (.bool h3_2), .pv (.bool h3_3)], .sl (3, 1) true n_4 s_4, .sl (178, 512) true n_5 s_5, .mp m_6, .mp m_7])
def tK (sz : Int) (za zb zc zd : Bool) (n f : Bool) (es : LL) (x10 x11 x13 : Int) (h3_0 h3_1 h3_2 h3_3 n_4 : Bool) (s_4 : LL) (n_5 : Bool) (s_5 : LL) (m_6 : List (PV × PV)) (m_7 : List (PV × PV)) : Env × Hp := ([(0, Y6 sz), (2, LV.pv (PV.sl n f es)), (4, LV.box 0 0), (7, LV.box 1 0), (8, LV.box 2 0), (9, LV.box 3 0), (10, Y6 x10), (11, Y6 x11), (13, Y6 x13)], [.box [LV.pv (PV.bool za), LV.pv (PV.bool zb), LV.pv (PV.bool zc), LV.pv (PV.bool zd)], .box [Y6 sz, LV.own 4, LV.own 5], .box [LV.box 1 0, LV.mp 6, LV.mp 7], .box [.pv (.bool h3_0), .pv (.bool h3_1), .pv (.bool h3_2), .pv (.bool h3_3)], .sl (3, 1) true n_4 s_4, .sl (178, 512) true n_5 s_5, .mp m_6, .mp m_7])
def qQ (sz : Int) (za zb zc zd : Bool) (n f : Bool) (es : LL) (x10 x11 x88 : Int) (h3_0 h3_1 h3_2 h3_3 : Bool) (c_4 : List PV) (n_5 : Bool) (s_5 : LL) (n_6 : Bool) (s_6 : LL) (m_7 : List (PV × PV)) (m_8 : List (PV × PV)) : Env × Hp := ([(0, Y6 sz), (2, LV.pv (PV.sl n f es)), (4, LV.box 0 0), (7, LV.box 1 0), (8, LV.box 2 0), (9, LV.box 3 0), (10, Y6 x10), (11, Y6 x11), (14, LV.box 4 0), (88, Y6 x88)], [.box [LV.pv (PV.bool za), LV.pv (PV.bool zb), LV.pv (PV.bool zc), LV.pv (PV.bool zd)], .box [Y6 sz, LV.own 5, LV.own 6], .box [LV.box 1 0, LV.mp 7, LV.mp 8], .box [.pv (.bool h3_0), .pv (.bool h3_1), .pv (.bool h3_2), .pv (.bool h3_3)], .arr c_4, .sl (3, 1) true n_5 s_5, .sl (178, 512) true n_6 s_6, .mp m_7, .mp m_8])
section
variable (sz : Int) (za zb zc zd : Bool) (n f : Bool) (es : LL) (J : Int -> Int -> Bool -> Bool -> Bool -> Bool -> Bool -> LL -> Bool -> LL -> (List (PV × PV)) -> (List (PV × PV)) -> Prop) (μ : Int -> Int -> Bool -> Bool -> Bool -> Bool -> Bool -> LL -> Bool -> LL -> (List (PV × PV)) -> (List (PV × PV)) -> Nat) (J2 : Int -> Int -> Int -> Bool -> Bool -> Bool -> Bool -> Bool -> LL -> Bool -> LL -> (List (PV × PV)) -> (List (PV × PV)) -> Int -> Int -> Int -> Bool -> Bool -> Bool -> Bool -> Bool -> LL -> Bool -> LL -> (List (PV × PV)) -> (List (PV × PV)) -> Prop) (μ2 : Int -> Int -> Int -> Bool -> Bool -> Bool -> Bool -> Bool -> LL -> Bool -> LL -> (List (PV × PV)) -> (List (PV × PV)) -> Nat) (J3 : Int -> Int -> Int -> Bool -> Bool -> Bool -> Bool -> (List PV) -> Bool -> LL -> Bool -> LL -> (List (PV × PV)) -> (List (PV × PV)) -> Int -> Int -> Int -> Bool -> Bool -> Bool -> Bool -> (List PV) -> Bool -> LL -> Bool -> LL -> (List (PV × PV)) -> (List (PV × PV)) -> Prop) (μ3 : Int -> Int -> Int -> Bool -> Bool -> Bool -> Bool -> (List PV) -> Bool -> LL -> Bool -> LL -> (List (PV × PV)) -> (List (PV × PV)) -> Nat)
def zku (R : PV -> Prop) : Prop :=
 if decide (sz < 1) = true then R PV.nilp else PCall qa 88 [PV.sl n f es, PV.agg [Zb za, Zb zb, Zb zc, Zb zd], Z6 0, Z6 (i64.wrap (sz - 1))] fun v => ∃ vs, v = PV.tup vs /\ vs.length = 2 /\ ∃ (x : PV),
  vs.head? = some x /\ ∃ cs, x = PV.agg cs /\ cs.length = 4 /\ ∃ b, cs.head? = some (Zb b) /\ ∃ b1, cs.tail.head? = some (Zb b1) /\ ∃ b2, cs.tail.tail.head? = some (Zb b2) /\ ∃ (b3 : Bool),
  cs.tail.tail.tail.head? = some (Zb b3) /\ ∃ x1, vs.tail.head? = some x1 /\ ∃ n1, x1 = Z6 n1 /\ (aG (zct sz za zb zc zd n f es n1 (0 : Int) b b1 b2 b3 true [] true [] [] []) /\ J n1 (0 : Int) b b1 b2 b3 true [] true [] []
  []) /\ ∀ (x10 x11 : Int) (h3_0 h3_1 h3_2 h3_3 n_4 : Bool) (s_4 : LL) (n_5 : Bool) (s_5 : LL) (m_6 m_7 : List (PV × PV)), J x10 x11 h3_0 h3_1 h3_2 h3_3 n_4 s_4 n_5 s_5 m_6 m_7 ->
 let K7 := fun (y0_ y1_ : Int) (y2_ y3_ y4_ y5_ y6_ : Bool) (y7_ : LL) (y8_ : Bool) (y9_ : LL) (y10_ : List (PV × PV)) (y11_ : List (PV × PV)) => aG (zct sz za zb zc zd n f es y0_ y1_ y2_ y3_
  y4_ y5_ y6_ y7_ y8_ y9_ y10_ y11_) /\ J y0_ y1_ y2_ y3_ y4_ y5_ y6_ y7_ y8_ y9_ y10_ y11_ /\ μ y0_ y1_ y2_ y3_ y4_ y5_ y6_ y7_ y8_ y9_ y10_ y11_ < μ x10 x11 h3_0 h3_1 h3_2 h3_3 n_4 s_4 n_5 s_5 m_6 m_7; if decide (x11 < sz) = true then if
  decide (x11 > x10) = true then PCall qa 88 [PV.sl n f es, PV.agg [Zb za, Zb zb, Zb zc, Zb zd], Z6 x11, Z6 (i64.wrap (sz - 1))] fun v1 => ∃ vs1, v1 = PV.tup vs1 /\ vs1.length = 2 /\ ∃ x2, vs1.head? =
  some x2 /\ ∃ cs1, x2 = PV.agg cs1 /\ cs1.length = 4 /\ ∃ b4, cs1.head? = some (Zb b4) /\ ∃ b5, cs1.tail.head? = some (Zb b5) /\ ∃ b6, cs1.tail.tail.head? = some (Zb b6) /\ ∃ (b7 : Bool),
  cs1.tail.tail.tail.head? = some (Zb b7) /\ ∃ x3, vs1.tail.head? = some x3 /\ ∃ n2, x3 = Z6 n2 /\ if decide (n2 >= i64.wrap ((if sz < i64.wrap (x11 + 128) then sz else i64.wrap (x11 + 128)) - 1)) = true
  then ACall qa 89 [LV.box 0 0, LV.pv (PV.agg [Zb b4, Zb b5, Zb b6, Zb b7])] [Ob.box [LV.box 1 0, LV.mp 2, LV.mp 3], Ob.box [Y6 sz, LV.own 4, LV.own 5], Ob.mp m_6, Ob.mp m_7, Ob.sl (3, 1) false n_4 s_4, Ob.sl (178, 512) false n_5
  s_5] fun (r : LV) (h' : Hp) => ∃ (t : Int × List (PV × PV) × List (PV × PV) × Bool × LL), (r = Y6 t.1 /\ h' = [Ob.box [LV.box 1 0, LV.mp 2, LV.mp 3], Ob.box [Y6 sz, LV.own 4, LV.own 5], Ob.mp t.snd.fst, Ob.mp t.snd.snd.fst, Ob.sl (3, 1)
  false n_4 s_4, Ob.sl (178, 512) true t.snd.snd.snd.fst t.snd.snd.snd.snd]) /\ (True /\ ((3, 1) = (3, 1) /\ n_4 = n_4 /\ s_4.length = s_4.length) /\ True /\ True /\ True /\ True /\ True) /\ (aG (tK sz za zb zc zd n f es n2 x11 t.1 b4 b5 b6
  b7 n_4 s_4 t.snd.snd.snd.fst t.snd.snd.snd.snd t.snd.fst t.snd.snd.fst) /\ J2 n2 x11 t.1 b4 b5 b6 b7 n_4 s_4 t.snd.snd.snd.fst t.snd.snd.snd.snd t.snd.fst t.snd.snd.fst n2 x11 t.1 b4 b5 b6 b7 n_4 s_4 t.snd.snd.snd.fst t.snd.snd.snd.snd
  t.snd.fst t.snd.snd.fst) /\ ∀ (x101 x111 x13 : Int) (h3_01 h3_11 h3_21 h3_31 n_41 : Bool) (s_41 : LL) (n_51 : Bool) (s_51 : LL) (m_61 m_71 : List (PV × PV)), J2 n2 x11 t.1 b4 b5 b6 b7 n_4 s_4 t.snd.snd.snd.fst t.snd.snd.snd.snd t.snd.fst
  t.snd.snd.fst x101 x111 x13 h3_01 h3_11 h3_21 h3_31 n_41 s_41 n_51 s_51 m_61 m_71 -> if (decide (x111 < sz) && decide (x101 >= i64.wrap ((if sz < i64.wrap (x111 + 128) then sz else i64.wrap (x111 + 128)) - 1))) =
  true then (aU [[Z6 x13]] 1 /\ (s_41.length + 1) * 8 <= 140737488355328) /\ aG (tK sz za zb zc zd n f es x101 (i64.wrap (x111 + 128)) x13 h3_01 h3_11 h3_21 h3_31 (n_41 && false) (s_41 ++ [[Z6 x13]]) n_51 s_51 m_61 m_71) /\ J2
  n2 x11 t.1 b4 b5 b6 b7 n_4 s_4 t.snd.snd.snd.fst t.snd.snd.snd.snd t.snd.fst t.snd.snd.fst x101 (i64.wrap (x111 + 128)) x13 h3_01 h3_11 h3_21 h3_31 (n_41 && false) (s_41 ++ [[Z6 x13]]) n_51 s_51 m_61 m_71 /\ μ2 x101
  (i64.wrap (x111 + 128)) x13 h3_01 h3_11 h3_21 h3_31 (n_41 && false) (s_41 ++ [[Z6 x13]]) n_51 s_51 m_61 m_71 < μ2 x101 x111 x13 h3_01 h3_11 h3_21 h3_31 n_41 s_41 n_51 s_51 m_61 m_71 else K7 x101 (i64.wrap
  (i64.wrap (x111 - 128) + 128)) h3_01 h3_11 h3_21 h3_31 n_41 s_41 n_51 s_51 m_61 m_71 else (aG (qQ sz za zb zc zd n f es n2 x11 (0 : Int) b4 b5 b6 b7 (qb 512 (Zb false)) n_4 s_4 n_5 s_5 m_6 m_7) /\ J3 n2 x11 (0 :
  Int) b4 b5 b6 b7 (qb 512 (Zb false)) n_4 s_4 n_5 s_5 m_6 m_7 n2 x11 (0 : Int) b4 b5 b6 b7 (qb 512 (Zb false)) n_4 s_4 n_5 s_5 m_6 m_7) /\ ∀ (x101 x111 x88 : Int) (h3_01 h3_11 h3_21 h3_31 : Bool) (c_4 : List PV)
  (n_51 : Bool) (s_51 : LL) (n_6 : Bool) (s_6 : LL) (m_71 m_8 : List (PV × PV)), J3 n2 x11 (0 : Int) b4 b5 b6 b7 (qb 512 (Zb false)) n_4 s_4 n_5 s_5 m_6 m_7 x101 x111 x88 h3_01 h3_11 h3_21 h3_31 c_4 n_51 s_51 n_6 s_6 m_71 m_8 ->
  if decide (x88 < 128) = true then if (decide (i64.wrap (x111 + x88) > x101) && decide (i64.wrap (x111 + x88) < sz)) = true then PCall qa 88 [PV.sl n f es, PV.agg [Zb za, Zb zb, Zb zc, Zb zd], Z6 (i64.wrap
  (x111 + x88)), Z6 (i64.wrap (sz - 1))] fun v2 => ∃ vs2, v2 = PV.tup vs2 /\ vs2.length = 2 /\ ∃ x4, vs2.head? = some x4 /\ ∃ cs2, x4 = PV.agg cs2 /\ cs2.length = 4 /\ ∃ b8, cs2.head? = some
  (Zb b8) /\ ∃ b9, cs2.tail.head? = some (Zb b9) /\ ∃ b10, cs2.tail.tail.head? = some (Zb b10) /\ ∃ b11, cs2.tail.tail.tail.head? = some (Zb b11) /\ ∃ x5, vs2.tail.head? = some x5 /\ ∃ n3, x5 = Z6 n3 /\
  ((0 : Int) <= x88 /\ x88 < (↑128 : Int)) /\ (4 = 4 /\ 0 + x88.toNat * 4 + 4 <= c_4.length) /\ aG (qQ sz za zb zc zd n f es n3 x111 (i64.wrap (x88 + 1)) b8 b9 b10 b11 (aW c_4 (0 + x88.toNat * 4) [Zb b8, Zb b9, Zb b10, Zb b11])
  n_51 s_51 n_6 s_6 m_71 m_8) /\ J3 n2 x11 (0 : Int) b4 b5 b6 b7 (qb 512 (Zb false)) n_4 s_4 n_5 s_5 m_6 m_7 n3 x111 (i64.wrap (x88 + 1)) b8 b9 b10 b11 (aW c_4 (0 + x88.toNat * 4) [Zb b8, Zb b9, Zb b10, Zb b11]) n_51
  s_51 n_6 s_6 m_71 m_8 /\ μ3 n3 x111 (i64.wrap (x88 + 1)) b8 b9 b10 b11 (aW c_4 (0 + x88.toNat * 4) [Zb b8, Zb b9, Zb b10, Zb b11]) n_51 s_51 n_6 s_6 m_71 m_8 < μ3 x101 x111 x88 h3_01 h3_11 h3_21 h3_31 c_4 n_51 s_51 n_6 s_6 m_71
  m_8 else ((0 : Int) <= x88 /\ x88 < (↑128 : Int)) /\ (4 = 4 /\ 0 + x88.toNat * 4 + 4 <= c_4.length) /\ aG (qQ sz za zb zc zd n f es x101 x111 (i64.wrap (x88 + 1)) h3_01 h3_11 h3_21 h3_31 (aW c_4 (0 + x88.toNat * (4 : Nat)) [Zb
  h3_01, Zb h3_11, Zb h3_21, Zb h3_31]) n_51 s_51 n_6 s_6 m_71 m_8) /\ J3 n2 x11 (0 : Int) b4 b5 b6 b7 (qb 512 (Zb false)) n_4 s_4 n_5 s_5 m_6 m_7 x101 x111 (i64.wrap (x88 + 1)) h3_01 h3_11 h3_21 h3_31 (aW c_4 (0 +
  x88.toNat * (4 : Nat)) [Zb h3_01, Zb h3_11, Zb h3_21, Zb h3_31]) n_51 s_51 n_6 s_6 m_71 m_8 /\ μ3 x101 x111 (i64.wrap (x88 + 1)) h3_01 h3_11 h3_21 h3_31 (aW c_4 (0 + x88.toNat * 4) [Zb h3_01, Zb h3_11, Zb h3_21, Zb h3_31]) n_51
  s_51 n_6 s_6 m_71 m_8 < μ3 x101 x111 x88 h3_01 h3_11 h3_21 h3_31 c_4 n_51 s_51 n_6 s_6 m_71 m_8 else 512 <= (qc 0 c_4).length /\
 let V1 := ACall qa 90 [LV.box 0 0, LV.pv (PV.agg (qi 512 (qc 0 c_4)))] [Ob.box [LV.box 1 0, LV.mp 2, LV.mp 3], Ob.box [Y6 sz, LV.own 4, LV.own 5], Ob.mp m_71, Ob.mp m_8, Ob.sl (3, 1) false n_51 s_51, Ob.sl (178, 512)
  false n_6 s_6] fun (r : LV) (h' : Hp) => ∃ (t : Int × List (PV × PV) × Bool × LL), (r = Y6 t.1 /\ h' = [Ob.box [LV.box 1 0, LV.mp 2, LV.mp 3], Ob.box [Y6 sz, LV.own 4, LV.own 5], Ob.mp t.snd.fst, Ob.mp m_8, Ob.sl (3, 1) false n_51 s_51,
  Ob.sl (178, 512) true t.snd.snd.fst t.snd.snd.snd]) /\ (True /\ ((3, 1) = (3, 1) /\ n_51 = n_51 /\ s_51.length = s_51.length) /\ True /\ True /\ True /\ True /\ True) /\ (aU [[Z6 t.1]] 1 /\ (s_51.length + 1) * 8 <= 140737488355328) /\ K7 x101
  (i64.wrap (x111 + 128)) h3_01 h3_11 h3_21 h3_31 (n_51 && false) (s_51 ++ [[Z6 t.1]]) t.snd.snd.fst t.snd.snd.snd t.snd.fst m_8; V1 /\ V1 else if decide (x10 >= i64.wrap ((if sz < i64.wrap (x11 + 128) then sz else
  i64.wrap (x11 + 128)) - 1)) = true then ACall qa 89 [LV.box 0 0, LV.pv (PV.agg [Zb h3_0, Zb h3_1, Zb h3_2, Zb h3_3])] [Ob.box [LV.box 1 0, LV.mp 2, LV.mp 3], Ob.box [Y6 sz, LV.own 4, LV.own 5], Ob.mp m_6, Ob.mp m_7, Ob.sl
  (3, (1 : Nat)) false n_4 s_4, Ob.sl (178, 512) false n_5 s_5] fun (r : LV) (h' : Hp) => ∃ (t : Int × List (PV × PV) × List (PV × PV) × Bool × LL), (r = Y6 t.1 /\ h' = [Ob.box [LV.box 1 0, LV.mp 2, LV.mp 3], Ob.box [Y6 sz, LV.own 4, LV.own
  5], Ob.mp t.snd.fst, Ob.mp t.snd.snd.fst, Ob.sl (3, 1) false n_4 s_4, Ob.sl (178, 512) true t.snd.snd.snd.fst t.snd.snd.snd.snd]) /\ (True /\ ((3, (1 : Nat)) = (3, 1) /\ n_4 = n_4 /\ s_4.length = s_4.length) /\ True /\ True /\ True /\ True /\
  True) /\ (aG (tK sz za zb zc zd n f es x10 x11 t.1 h3_0 h3_1 h3_2 h3_3 n_4 s_4 t.snd.snd.snd.fst t.snd.snd.snd.snd t.snd.fst t.snd.snd.fst) /\ J2 x10 x11 t.1 h3_0 h3_1 h3_2 h3_3 n_4 s_4 t.snd.snd.snd.fst t.snd.snd.snd.snd t.snd.fst
  t.snd.snd.fst x10 x11 t.1 h3_0 h3_1 h3_2 h3_3 n_4 s_4 t.snd.snd.snd.fst t.snd.snd.snd.snd t.snd.fst t.snd.snd.fst) /\ ∀ (x101 x111 x13 : Int) (h3_01 h3_11 h3_21 h3_31 n_41 : Bool) (s_41 : LL) (n_51 : Bool) (s_51 : LL) (m_61 m_71 : List
  (PV × PV)), J2 x10 x11 t.1 h3_0 h3_1 h3_2 h3_3 n_4 s_4 t.snd.snd.snd.fst t.snd.snd.snd.snd t.snd.fst t.snd.snd.fst x101 x111 x13 h3_01 h3_11 h3_21 h3_31 n_41 s_41 n_51 s_51 m_61 m_71 -> if (decide (x111 < sz) && decide (x101 >=
  i64.wrap ((if sz < i64.wrap (x111 + 128) then sz else i64.wrap (x111 + 128)) - 1))) = true then (aU [[Z6 x13]] 1 /\ (s_41.length + 1) * 8 <= 140737488355328) /\ aG (tK sz za zb zc zd n f es x101
  (i64.wrap (x111 + 128)) x13 h3_01 h3_11 h3_21 h3_31 (n_41 && false) (s_41 ++ [[Z6 x13]]) n_51 s_51 m_61 m_71) /\ J2 x10 x11 t.1 h3_0 h3_1 h3_2 h3_3 n_4 s_4 t.snd.snd.snd.fst t.snd.snd.snd.snd t.snd.fst t.snd.snd.fst x101
  (i64.wrap (x111 + 128)) x13 h3_01 h3_11 h3_21 h3_31 (n_41 && false) (s_41 ++ [[Z6 x13]]) n_51 s_51 m_61 m_71 /\ μ2 x101 (i64.wrap (x111 + 128)) x13 h3_01 h3_11 h3_21 h3_31 (n_41 && false) (s_41 ++ [[Z6 x13]]) n_51 s_51
  m_61 m_71 < μ2 x101 x111 x13 h3_01 h3_11 h3_21 h3_31 n_41 s_41 n_51 s_51 m_61 m_71 else K7 x101 (i64.wrap (i64.wrap (x111 - 128) + 128)) h3_01 h3_11 h3_21 h3_31 n_41 s_41 n_51 s_51 m_61 m_71 else (aG (qQ sz za zb
  zc zd n f es x10 x11 (0 : Int) h3_0 h3_1 h3_2 h3_3 (qb 512 (Zb false)) n_4 s_4 n_5 s_5 m_6 m_7) /\ J3 x10 x11 (0 : Int) h3_0 h3_1 h3_2 h3_3 (qb 512 (Zb false)) n_4 s_4 n_5 s_5 m_6 m_7 x10 x11 (0 : Int) h3_0 h3_1
  h3_2 h3_3 (qb 512 (Zb false)) n_4 s_4 n_5 s_5 m_6 m_7) /\ ∀ (x101 x111 x88 : Int) (h3_01 h3_11 h3_21 h3_31 : Bool) (c_4 : List PV) (n_51 : Bool) (s_51 : LL) (n_6 : Bool) (s_6 : LL) (m_71 m_8 : List (PV × PV)), J3 x10 x11 (0 :
  Int) h3_0 h3_1 h3_2 h3_3 (qb 512 (Zb false)) n_4 s_4 n_5 s_5 m_6 m_7 x101 x111 x88 h3_01 h3_11 h3_21 h3_31 c_4 n_51 s_51 n_6 s_6 m_71 m_8 ->
 let K20 := fun (y0_ y1_ y2_ : Int) (y3_ y4_ y5_ y6_ : Bool) (y7_ : List PV) (y8_ : Bool) (y9_ : LL) (y10_ : Bool) (y11_ : LL) (y12_ : List (PV × PV)) (y13_ : List (PV × PV)) => aG (qQ sz za
  zb zc zd n f es y0_ y1_ y2_ y3_ y4_ y5_ y6_ y7_ y8_ y9_ y10_ y11_ y12_ y13_) /\ J3 x10 x11 (0 : Int) h3_0 h3_1 h3_2 h3_3 (qb 512 (Zb false)) n_4 s_4 n_5 s_5 m_6 m_7 y0_ y1_ y2_ y3_ y4_ y5_ y6_ y7_ y8_ y9_ y10_ y11_ y12_ y13_ /\
  μ3 y0_ y1_ y2_ y3_ y4_ y5_ y6_ y7_ y8_ y9_ y10_ y11_ y12_ y13_ < μ3 x101 x111 x88 h3_01 h3_11 h3_21 h3_31 c_4 n_51 s_51 n_6 s_6 m_71 m_8; if decide (x88 < 128) = true then if (decide (i64.wrap (x111 + x88) > x101) && decide
  (i64.wrap (x111 + x88) < sz)) = true then PCall qa 88 [PV.sl n f es, PV.agg [Zb za, Zb zb, Zb zc, Zb zd], Z6 (i64.wrap (x111 + x88)), Z6 (i64.wrap (sz - 1))] fun v1 => ∃ vs1, v1 = PV.tup
  vs1 /\ vs1.length = 2 /\ ∃ x2, vs1.head? = some x2 /\ ∃ cs1, x2 = PV.agg cs1 /\ cs1.length = 4 /\ ∃ b4, cs1.head? = some (Zb b4) /\ ∃ b5, cs1.tail.head? = some (Zb b5) /\ ∃ b6, cs1.tail.tail.head? =
  some (Zb b6) /\ ∃ b7, cs1.tail.tail.tail.head? = some (Zb b7) /\ ∃ x3, vs1.tail.head? = some x3 /\ ∃ n2, x3 = Z6 n2 /\ ((0 : Int) <= x88 /\ x88 < (↑128 : Int)) /\ (4 = 4 /\ 0 + x88.toNat * 4 + (4 : Nat) <= c_4.length) /\
  K20 n2 x111 (i64.wrap (x88 + 1)) b4 b5 b6 b7 (aW c_4 (0 + x88.toNat * 4) [Zb b4, Zb b5, Zb b6, Zb b7]) n_51 s_51 n_6 s_6 m_71 m_8 else ((0 : Int) <= x88 /\ x88 < (↑128 : Int)) /\ (4 = 4 /\ 0 + x88.toNat * 4 + 4 <= c_4.length) /\ K20
  x101 x111 (i64.wrap (x88 + 1)) h3_01 h3_11 h3_21 h3_31 (aW c_4 (0 + x88.toNat * 4) [Zb h3_01, Zb h3_11, Zb h3_21, Zb h3_31]) n_51 s_51 n_6 s_6 m_71 m_8 else 512 <= (qc 0 c_4).length /\
 let V2 := ACall qa 90 [LV.box 0 0, LV.pv (PV.agg (qi 512 (qc 0 c_4)))] [Ob.box [LV.box 1 0, LV.mp 2, LV.mp 3], Ob.box [Y6 sz, LV.own 4, LV.own 5], Ob.mp m_71, Ob.mp m_8, Ob.sl (3, 1) false n_51 s_51, Ob.sl (178, 512)
  false n_6 s_6] fun (r : LV) (h' : Hp) => ∃ (t : Int × List (PV × PV) × Bool × LL), (r = Y6 t.1 /\ h' = [Ob.box [LV.box 1 0, LV.mp 2, LV.mp 3], Ob.box [Y6 sz, LV.own 4, LV.own 5], Ob.mp t.snd.fst, Ob.mp m_8, Ob.sl (3, 1) false n_51 s_51,
  Ob.sl (178, 512) true t.snd.snd.fst t.snd.snd.snd]) /\ (True /\ ((3, 1) = (3, 1) /\ n_51 = n_51 /\ s_51.length = s_51.length) /\ True /\ True /\ True /\ True /\ True) /\ (aU [[Z6 t.1]] 1 /\ (s_51.length + 1) * 8 <= 140737488355328) /\ K7 x101
  (i64.wrap (x111 + 128)) h3_01 h3_11 h3_21 h3_31 (n_51 && false) (s_51 ++ [[Z6 t.1]]) t.snd.snd.fst t.snd.snd.snd t.snd.fst m_8; V2 /\ V2 else R (PV.ptr [Z6 sz, PV.sl n_4 false s_4, PV.sl n_5 false s_5])
theorem zvp {R : PV -> Prop} (h : zku sz za zb zc zd n f es J μ J2 μ2 J3 μ3 R) : PCall qa 60 [.int .i64 sz, .agg [.bool za, .bool zb, .bool zc, .bool zd], .sl n f es] R :=
 PCall.wz Tryz.func60 (fun zz_ => match zz_ with | 90 => some ⟨Int × List (PV × PV) × Bool × LL, fun _ hs t => (.pv (.int .i64 t.1), match hs with | [m, r, .mp _, ev, ix, .sl a _ _ _] => [m, r, .mp t.2.1, ev, ix, .sl a true t.2.2.1 t.2.2.2] | h => h), none⟩ | 89 => some ⟨Int × List (PV × PV) × List (PV × PV) × Bool × LL, fun _ hs t => (.pv (.int .i64 t.1), match hs with | [m, r, .mp _, .mp _, ix, .sl a _ _ _] => [m, r, .mp t.2.1, .mp t.2.2.1, ix, .sl a true t.2.2.2.1 t.2.2.2.2] | h => h), none⟩ | _ => none) [0, 1, 2, 4, 6, 7, 8, 9, 10, 11, 12, 13, 14, 15, 17, 36, 41, 58, 73, 88, 89, 102] (iM [(7, (bN (fQ jQ) (zct sz za zb zc zd n f es) J μ (fun e h => (gI e 10, gI e 11, hB h 3 0, hB h 3 1, hB h 3 2, hB h 3 3, oN h 4, oS h 4, oN h 5, oS h 5, oM h 6, oM h 7)) [(1001001, 3, 1), (1001002, 178, 512)] [0, 2, 4, 7, 8, 9, 10, 11] [])), (14, (iA (fQ cz5) (tK sz za zb zc zd n f es) J2 μ2 (fun e h => (gI e 10, gI e 11, gI e 13, hB h 3 0, hB h 3 1, hB h 3 2, hB h 3 3, oN h 4, oS h 4, oN h 5, oS h 5, oM h 6, oM h 7)) [] [0, 2, 4, 7, 8, 9, 10, 11, 13] [])), (20, (iA (fQ cz6) (qQ sz za zb zc zd n f es) J3 μ3 (fun e h => (gI e 10, gI e 11, gI e 88, hB h 3 0, hB h 3 1, hB h 3 2, hB h 3 3, oA h 4, oN h 5, oS h 5, oN h 6, oS h 6, oM h 7, oM h 8)) [] [0, 2, 4, 7, 8, 9, 10, 11, 14, 88] []))]) h
end
end Go.Eng
namespace Go.Eng
open Go Go.Proofs Go.Eng.Trie
def encF (v : (Bool × Bool × Bool × Bool)) : List PV := [.bool v.1, .bool v.2.1, .bool v.2.2.1, .bool v.2.2.2]
theorem EF : Enc qa [4, 4, 4, 4] encF := ⟨fun a => by
 simp only [encF, bK, qal];rw [show Tryz.prog.underlying 4 = some (.bool) by kernel_rfl];rfl, fun a b => by
 obtain ⟨a0, a1, a2, a3⟩ := a;obtain ⟨b0, b1, b2, b3⟩ := b;simp only [encF, cK, fC, qal];rw [qbx]
 simp⟩
def pcF (p : Pc (Bool × Bool × Bool × Bool)) : List PV := [.int .i64 p.fr, .int .i64 p.to] ++ encF p.v
def mF (l : List (Pc (Bool × Bool × Bool × Bool))) : List (List PV) := l.map pcF
theorem zvq (p : Pc (Bool × Bool × Bool × Bool)) : (pcF p).length = 6 := rfl
theorem zkv (l : List (Pc (Bool × Bool × Bool × Bool))) : (mF l).length = l.length := by simp [mF]
theorem zcu (n f : Bool) (l : List (Pc (Bool × Bool × Bool × Bool))) (z : (Bool × Bool × Bool × Bool)) (i last : Int) (hl : l.length < 4611686018427387904) (hok : ∀ p ∈ l, -9223372036854775808 <= p.fr - 1 /\ p.fr - 1 <= 9223372036854775807) :
 PCall qa 88 [.sl n f (mF l), .agg (encF z), .int .i64 i, .int .i64 last] fun v => v = .tup [.agg (encF (findL l z i last).1), .int .i64 (findL l z i last).2] := by
 refine zvl _ _ _ z.1 z.2.1 z.2.2.1 z.2.2.2 _ _ (fun a k _ _ _ _ => 0 <= k /\ k <= l.length /\ findL l z i last = findL (l.drop k.toNat) z i a) (fun _ k _ _ _ _ => l.length - k.toNat) ?_;unfold zkq;refine ⟨⟨rfl, qe _, by omega, rfl⟩, ?_⟩;rintro a k _ _ _ _ ⟨k0, k1, he⟩;refine aC (fun hc => ?_) (fun hc => ?_)
 ·simp only [aB, zkv] at hc;have hk : k.toNat < l.length := by omega
  have hw : i64.wrap (k + 1) = k + 1 := wz;have hn : (k + 1).toNat = k.toNat + 1 := by omega
  have hg : (mF l).getD k.toNat [] = pcF l[k.toNat] := c7 hk;have hix : aD (mF l) k 6 := cS zvq k0 (by omega);have hm := hok _ (qj hk);rw [drop_cons hk] at he;rw [hw];dsimp only;rw [hn];have hmu : l.length - (k.toNat + 1) < l.length - k.toNat := by omega
  refine ⟨hix, l[k.toNat].fr, by rw [hg]; rfl, l[k.toNat].to, by rw [hg]; rfl, l[k.toNat].v.1, by rw [hg]; rfl, l[k.toNat].v.2.1, by rw [hg]; rfl, l[k.toNat].v.2.2.1, by rw [hg]; rfl, l[k.toNat].v.2.2.2, by rw [hg]; rfl, ?_⟩;generalize l[k.toNat] = p at *;have hw2 : i64.wrap (p.fr - 1) = p.fr - 1 := vT hm.1 hm.2;rw [hw2];rw [zau] at he;by_cases h1 : p.fr <= i
  ·refine bW (by simpa using h1) ?_
   by_cases h2 : i <= p.to
   ·refine bW (by simpa using h2) ?_
    rw [if_pos ⟨h1, h2⟩] at he;rw [he]
    repeat' (first | rfl | apply And.intro)
   ·refine bR (by simpa using h2) ?_
    rw [if_neg (by omega), if_neg (by omega)] at he;refine bR (by simp; omega) ?_;exact ⟨rfl, ⟨by omega, by omega, he⟩, hmu⟩
  ·refine bR (by simpa using h1) ?_
   rw [if_neg (by omega)] at he;refine bW (by simp; omega) ?_;by_cases h3 : p.fr <= a
   ·refine bW (by simpa using h3) ?_
    rw [if_pos (by omega)] at he;exact ⟨rfl, ⟨by omega, by omega, he⟩, hmu⟩
   ·refine bR (by simpa using h3) ?_
    rw [if_neg (by omega)] at he;exact ⟨rfl, ⟨by omega, by omega, he⟩, hmu⟩
 ·simp only [aB, zkv] at hc;rw [qu (by omega)] at he;rw [he]; rfl
def TrieF (sz : Int) (F : Int -> (Bool × Bool × Bool × Bool)) (v : PV) : Prop := ∃ n f n2 f2 idx blk, v = .ptr [.int .i64 sz, .sl n f (bG idx), .sl n2 f2 (bL encF blk)] /\ TOK sz F idx blk
theorem zkw {sz : Int} {F : Int -> (Bool × Bool × Bool × Bool)} {t : PV} (ht : TrieF sz F t) (i : Int) (h1 : sz <= 1114112) : PCall qa 70 [t, .int .i64 i] fun v => v = .agg (encF (if 0 <= i /\ i < sz then F i else (false, false, false, false))) := by
 obtain ⟨n, f, n2, f2, idx, blk, rfl, ht⟩ := ht;refine zvm _ _ _ _ _ _ _ _ ?_;unfold zkr;refine aC (fun hc => ?_) (fun hc => ?_)
 ·simp only [aB] at hc;rw [if_neg (by omega)]; rfl
 ·simp only [aB] at hc;refine ⟨_, rfl, ?_⟩;refine aC (fun hc2 => ?_) (fun hc2 => ?_)
  ·simp only [aB, ge_iff_le] at hc2;rw [if_neg (by omega)]; rfl
  ·simp only [aB, ge_iff_le] at hc2;rw [if_pos (by omega)];obtain ⟨hq, g0, hk, hj, he⟩ := ht.get (i := i) (by omega) (by omega);have hw : i64.wrap (i.tdiv 128) = i / 128 := by rw [qq (by omega)]; exact wz
   have hm : i.tmod 128 = i % 128 := qr (by omega);have hg : (bG idx).getD (i / 128).toNat [] = [.int .i64 idx[(i / 128).toNat]] := c7 hq;have hg2 : (bL encF blk).getD idx[(i / 128).toNat].toNat [] = cells encF blk[idx[(i / 128).toNat].toNat] := c7 hk;refine ⟨_, _, _, rfl, _, _, _, rfl, ?_⟩;rw [hw];have := EF.at _ _ hj;simp only [qm, qw, qag, qat] at this
   have hcell : qc ((i % 128).toNat * 4) ((bL encF blk).getD idx[(i / 128).toNat].toNat []) = encF (F i) ++ (qc ((i % 128).toNat + 1) (blk[idx[(i / 128).toNat].toNat]).1).flatMap encF := by
    rw [hg2]; unfold cells; rw [this, he]
   refine ⟨cS oJ (by omega) (by omega), idx[(i / 128).toNat], by rw [hg]; rfl, cS (EF.cells_len) g0 (by omega), by rw [hm]; omega, ?_⟩;rw [hm, hcell];exact ⟨(F i).1, rfl, (F i).2.1, rfl, (F i).2.2.1, rfl, (F i).2.2.2, rfl, rfl⟩
def cF (b : aV (Bool × Bool × Bool × Bool)) : List PV := cells encF b
def kvF (k : Int) : PV := .int .i64 k
def gU (kn : List (aV (Bool × Bool × Bool × Bool) × Int)) : List (PV × PV) := cY (fun b => .agg (cF b)) kvF kn
def iW (ev : List ((Bool × Bool × Bool × Bool) × Int)) : List (PV × PV) := cY (fun v => .agg (encF v)) kvF ev
def nF (sz : Int) (kn : List (aV (Bool × Bool × Bool × Bool) × Int)) (ev : List ((Bool × Bool × Bool × Bool) × Int)) (ixm ixn bkm bkn : Bool) (idx : List Int) (blk : List (aV (Bool × Bool × Bool × Bool))) : Hp :=
 [.box [.box 1 0, .mp 2, .mp 3], .box [.pv (.int .i64 sz), .own 4, .own 5], .mp (gU kn), .mp (iW ev), .sl (3, 1) ixm ixn (bG idx), .sl (178, 512) bkm bkn (bL encF blk)]
theorem oL (b : aV (Bool × Bool × Bool × Bool)) : (cF b).length = 512 := EF.cells_len b
theorem zcv (b : aV (Bool × Bool × Bool × Bool)) : qi 512 (qc 0 (cF b)) = cF b := by rw [qp, qf (by rw [oL]; omega)]
theorem zkx : fM qa 178 = true := by kernel_rfl
theorem zky : g9 qa 178 = (qb 128 [4, 4, 4, 4]).flatten := by kernel_rfl
theorem zkz : fM qa 112 = true := by kernel_rfl
theorem zk0 : g9 qa 112 = [4, 4, 4, 4] := by kernel_rfl
theorem zvr (b : aV (Bool × Bool × Bool × Bool)) (kn : List (aV (Bool × Bool × Bool × Bool) × Int)) : cR (.agg (cF b)) (gU kn) = (cN b kn).map kvF := nY (ek := fun b => PV.agg (cF b)) (ev := kvF) EF.blkEq b kn
theorem zvs (b : aV (Bool × Bool × Bool × Bool)) (k : Int) (kn : List (aV (Bool × Bool × Bool × Bool) × Int)) : bV (.agg (cF b)) (kvF k) (gU kn) = gU (cV b k kn) := kV (ek := fun b => PV.agg (cF b)) (ev := kvF) EF.blkEq b k kn
theorem zk1 (b : aV (Bool × Bool × Bool × Bool)) : bI qa 178 (.agg (cF b)) = true := EF.blkOk zkx zky b
theorem zk2 (kn : List (aV (Bool × Bool × Bool × Bool) × Int)) : c9 qa 178 (gU kn) := EF.blksOk zkx zky kn
theorem zk3 {sz : Int} {F : Int -> (Bool × Bool × Bool × Bool)} {idx : List Int} {blk : List (aV (Bool × Bool × Bool × Bool))} {kn : List (aV (Bool × Bool × Bool × Bool) × Int)} {ev : List ((Bool × Bool × Bool × Bool) × Int)} (hk : TInv sz F idx blk kn ev) (hb : blk.length <= 10000000) (ixn bkn : Bool) (b : aV (Bool × Bool × Bool × Bool)) :
 ACall qa 90 [.box 0 0, .pv (.agg (cF b))] (nF sz kn ev false ixn false bkn idx blk) fun r h' => ∃ k kn' bn' blk', r = .pv (kvF k) /\ h' = nF sz kn' ev false ixn true bn' idx blk' /\ TInv sz F idx blk' kn' ev /\ 0 <= k /\ blk'[k.toNat]? = some b /\ blk'.length <= blk.length + 1 := by
 refine ACall.mark 1000 [5] (R := fun r h' => ∃ k kn' bm' bn' blk', r = .pv (kvF k) /\ h' = nF sz kn' ev false ixn bm' bn' idx blk' /\ TInv sz F idx blk' kn' ev /\ 0 <= k /\ blk'[k.toNat]? = some b /\ blk'.length <= blk.length + 1) ?_ ?_
 ·refine zvn _ _ _ _ _ _ _ _ _ _ ?_;unfold zks;rw [zcv, zvr];have h128 : 512 <= (qc 0 (cF b)).length := by rw [qp, oL]; omega
  refine ⟨h128, zk2 kn, zk1 b, fun v hv => ?_, fun hv => ?_⟩
  ·cases hg : cN b kn with
   | none => rw [hg] at hv; cases hv
   | some k =>
     rw [hg] at hv; cases hv;obtain ⟨k0, k1⟩ := hk.kn_ok b k hg;exact ⟨k, rfl, k, kn, false, bkn, blk, rfl, rfl, hk, k0, k1, by omega⟩
  ·have hsz : aU [cF b] 512 /\ ((bL encF blk).length + 1) * 512 <= 140737488355328 := ⟨fun e he => by simp at he; subst he; exact oL b, by rw [mD]; omega⟩
   have fin : ∃ k kn' bm' bn' blk', LV.pv (.int .i64 ((bL encF blk).length : Int)) = .pv (kvF k) /\
    [Ob.box [.box 1 0, .mp 2, .mp 3], .box [.pv (.int .i64 sz), .own 4, .own 5], .mp (bV (.agg (cF b)) (.int .i64 ((bL encF blk).length : Int)) (gU kn)), .mp (iW ev), .sl (3, 1) false ixn (bG idx), .sl (178, 512) true (bkn && false) (bL encF blk ++ [cF b])] = nF sz kn' ev false ixn bm' bn' idx blk' /\ TInv sz F idx blk' kn' ev /\ 0 <= k /\ blk'[k.toNat]? = some b /\ blk'.length <= blk.length + 1 := by
    refine ⟨blk.length, cV b (blk.length : Int) kn, true, bkn && false, blk ++ [b], by rw [mD]; rfl, ?_, hk.place b, by omega, by simp, by simp⟩;have := zvs b (blk.length : Int) kn;unfold kvF at this;rw [mD, this];simp [nF, bL, cF]
   exact ⟨h128, zk2 kn, zk1 b, h128, ⟨oL b, hsz, fin⟩, oL b, ⟨hsz, fin⟩, hsz, fin⟩
 ·rintro r h' ⟨k, kn', bm', bn', blk', rfl, rfl, h1, h2, h3, h4⟩;exact ⟨k, kn', bn', blk', rfl, rfl, h1, h2, h3, h4⟩
theorem zvt (v : (Bool × Bool × Bool × Bool)) (ev : List ((Bool × Bool × Bool × Bool) × Int)) : cR (.agg (encF v)) (iW ev) = (cN v ev).map kvF := nY (ek := fun v => PV.agg (encF v)) (ev := kvF) EF.valEq v ev
theorem zvu (v : (Bool × Bool × Bool × Bool)) (k : Int) (ev : List ((Bool × Bool × Bool × Bool) × Int)) : bV (.agg (encF v)) (kvF k) (iW ev) = iW (cV v k ev) := kV (ek := fun v => PV.agg (encF v)) (ev := kvF) EF.valEq v k ev
theorem zk4 (v : (Bool × Bool × Bool × Bool)) : bI qa 112 (.agg (encF v)) = true := EF.valOk zkz zk0 v
theorem zk5 (ev : List ((Bool × Bool × Bool × Bool) × Int)) : c9 qa 112 (iW ev) := EF.valsOk zkz zk0 ev
theorem zcw (l : List (Bool × Bool × Bool × Bool)) (j : Nat) (hj : j < l.length) (v : (Bool × Bool × Bool × Bool)) : aW (l.flatMap encF) (0 + j * 4) (encF v) = (l.set j v).flatMap encF := by
 have := EF.put l j hj v;simp only [qm, qw, qag, qat] at this ⊢;exact this
theorem zcx (l : List (Bool × Bool × Bool × Bool)) : (l.flatMap encF).length = l.length * 4 := EF.flen l
theorem zk6 : qb 512 (PV.bool false) = (qb 128 ((false, false, false, false) : (Bool × Bool × Bool × Bool))).flatMap encF := by rfl
theorem zvv {l : List (Bool × Bool × Bool × Bool)} {v : (Bool × Bool × Bool × Bool)} (hl : l.length = 128) (h : ∀ q, q < 128 -> l[q]? = some v) : l = qb 128 v := by
 refine qav fun q => ?_;rcases qbl q 128 with hq | hq
 ·rw [h q hq, qaa, if_pos hq]
 ·rw [qab (by omega), qab (by simp; omega)]
theorem zvw {sz : Int} {F : Int -> (Bool × Bool × Bool × Bool)} {idx : List Int} {blk : List (aV (Bool × Bool × Bool × Bool))} {kn : List (aV (Bool × Bool × Bool × Bool) × Int)} {ev : List ((Bool × Bool × Bool × Bool) × Int)} (hk : TInv sz F idx blk kn ev) (hb : blk.length <= 10000000) (ixn bkn : Bool) (v : (Bool × Bool × Bool × Bool)) :
 ACall qa 89 [.box 0 0, .pv (.agg (encF v))] (nF sz kn ev false ixn false bkn idx blk) fun r h' => ∃ k kn' ev' bn' blk', r = .pv (kvF k) /\ h' = nF sz kn' ev' false ixn true bn' idx blk' /\ TInv sz F idx blk' kn' ev' /\ 0 <= k /\ blk'[k.toNat]? = some (rep v) /\ blk'.length <= blk.length + 1 := by
 refine ACall.mark 1000 [5] (R := fun r h' => ∃ k kn' ev' bm' bn' blk', r = .pv (kvF k) /\ h' = nF sz kn' ev' false ixn bm' bn' idx blk' /\ TInv sz F idx blk' kn' ev' /\ 0 <= k /\ blk'[k.toNat]? = some (rep v) /\ blk'.length <= blk.length + 1) ?_ ?_
 ·refine zvo _ _ _ _ _ _ _ _ _ v.1 v.2.1 v.2.2.1 v.2.2.2 (fun x m2 m3 c => 0 <= x /\ x <= 128 /\ m2 = gU kn /\ m3 = iW ev /\ ∃ l : List (Bool × Bool × Bool × Bool), l.length = 128 /\ c = l.flatMap encF /\ ∀ q, q < x.toNat -> l[q]? = some v) (fun x _ _ _ => 128 - x.toNat) ?_;unfold zkt;rw [show [.bool v.1, .bool v.2.1, .bool v.2.2.1, .bool v.2.2.2] = encF v from rfl, zvt];refine ⟨zk5 ev, zk4 v, fun u hu => ?_, fun hu => ⟨⟨rfl, qe _, by omega, rfl, rfl, qb 128 (false, false, false, false), by simp, zk6, fun q hq => by simp at hq⟩, ?_⟩⟩
  ·cases hg : cN v ev with
   | none => rw [hg] at hu; cases hu
   | some k =>
     rw [hg] at hu; cases hu;obtain ⟨k0, k1⟩ := hk.ev_ok v k hg;exact ⟨k, rfl, k, kn, ev, false, bkn, blk, rfl, rfl, hk, k0, k1, by omega⟩
  ·rintro x _ _ _ ⟨x0, x1, rfl, rfl, l, hl, rfl, hq⟩;refine aC (fun hc => ?_) (fun hc => ?_)
   ·simp only [aB] at hc;have hw : i64.wrap (x + 1) = x + 1 := wz;have hn : (x + 1).toNat = x.toNat + 1 := by omega
    rw [zcw l x.toNat (by omega) v, hw, zcx];refine ⟨⟨x0, hc⟩, ⟨rfl, by omega⟩, rfl, ⟨by omega, by omega, rfl, rfl, l.set x.toNat v, by simpa using hl, rfl, fun q hq' => ?_⟩, by dsimp only; omega⟩
    rw [hn] at hq';rw [qae];by_cases e : x.toNat = q
    ·rw [if_pos e, if_pos (by omega)]
    ·rw [if_neg e]; exact hq q (by omega)
   ·simp only [aB] at hc;have hx : x = 128 := by omega
    subst hx;have hrep := zvv hl hq;subst hrep;have hcI : (qb 128 v).flatMap encF = cF (rep v) := rfl;rw [hcI, zcv];refine ⟨by rw [qp, oL]; omega, ?_⟩;refine (zk3 hk hb ixn bkn (rep v)).mono ?_;rintro _ _ ⟨k, kn', bn', blk', rfl, rfl, h1, h2, h3, h4⟩;refine ⟨(k, gU kn', bn', bL encF blk'), ⟨rfl, rfl⟩, ⟨trivial, ⟨rfl, rfl, rfl⟩, trivial, trivial, trivial, trivial, trivial⟩, zk5 ev, zk4 v, ?_⟩;have := zvu v k ev;unfold kvF at this;simp only [this];exact ⟨k, kn', cV v k ev, _, bn', blk', rfl, rfl, h1.even h2 h3, h2, h3, h4⟩
 ·rintro r h' ⟨k, kn', ev', bm', bn', blk', rfl, rfl, h1, h2, h3, h4⟩;exact ⟨k, kn', ev', bn', blk', rfl, rfl, h1, h2, h3, h4⟩
theorem zvx {v : (Bool × Bool × Bool × Bool)} {j : Nat} {u : (Bool × Bool × Bool × Bool)} (h : (Trie.rep v).1[j]? = some u) : u = v /\ j < 128 := by
 simp only [Trie.rep, qaa] at h;split at h
 ·rename_i hj; cases h; exact ⟨rfl, hj⟩
 ·cases h
theorem zvy (sz : Int) (z : (Bool × Bool × Bool × Bool)) (n f : Bool) (l : List (Pc (Bool × Bool × Bool × Bool))) (hl : l.length < 4611686018427387904) (hok : ∀ p ∈ l, -9223372036854775808 <= p.fr - 1 /\ p.fr - 1 <= 9223372036854775807) (hs1 : 1 <= sz) (hs2 : sz <= 1114112) :
 PCall qa 60 [.int .i64 sz, .agg (encF z), .sl n f (mF l)] fun v => TrieF sz (gM l z) v := by
 have hF := fun i => sW l z i (sz - 1);generalize hFF : gM l z = F at *
 refine zvp _ z.1 z.2.1 z.2.2.1 z.2.2.2 _ _ _
  (fun x10 x11 va vb vc vd _ s2 _ s3 m4 m5 => ∃ idx blk kn ev, s2 = bG idx /\ s3 = bL encF blk /\ m4 = gU kn /\ m5 = iW ev /\ TInv sz F idx blk kn ev /\ x11 = 128 * idx.length /\ blk.length <= idx.length /\ x11 < sz + 128 /\ (∀ j, x11 <= j -> j <= x10 -> F j = (va, vb, vc, vd)) /\ x10 <= sz - 1)
  (fun _ x11 _ _ _ _ _ _ _ _ _ _ => (sz + 128 - x11).toNat)
  (fun _ y11 _ _ _ _ _ _ _ _ _ _ _ x10 x11 x13 va vb vc vd _ s2 _ s3 m4 m5 => ∃ idx blk kn ev, s2 = bG idx /\ s3 = bL encF blk /\ m4 = gU kn /\ m5 = iW ev /\ TInv sz F idx blk kn ev /\ x11 = 128 * idx.length /\ x11 < sz + 128 /\ (∀ j, x11 <= j -> j <= x10 -> F j = (va, vb, vc, vd)) /\ x10 <= sz - 1 /\ 0 <= x13 /\ blk[x13.toNat]? = some (rep (va, vb, vc, vd)) /\
   ((x11 = y11 /\ x11 < sz /\ (x11 + 127 <= x10 ∨ sz - 1 <= x10) /\ blk.length <= idx.length + 1) ∨ (y11 + 128 <= x11 /\ blk.length <= idx.length)))
  (fun _ x11 _ _ _ _ _ _ _ _ _ _ _ => (sz + 128 - x11).toNat)
  (fun _ y11 _ _ _ _ _ _ _ _ _ _ _ _ x10 x11 x va vb vc vd c _ s3 _ s4 m5 m6 => ∃ idx blk kn ev, s3 = bG idx /\ s4 = bL encF blk /\ m5 = gU kn /\ m6 = iW ev /\ TInv sz F idx blk kn ev /\ x11 = 128 * idx.length /\ blk.length <= idx.length /\ x11 = y11 /\ x11 < sz /\ 0 <= x /\ x <= 128 /\ x10 <= sz - 1 /\ (∀ j, x11 + x <= j -> j <= x10 -> F j = (va, vb, vc, vd)) /\
   ∃ b : List (Bool × Bool × Bool × Bool), b.length = 128 /\ c = b.flatMap encF /\ ∀ (q : Nat) u, b[q]? = some u -> q < x.toNat -> x11 + q < sz -> u = F (x11 + q))
  (fun _ _ x _ _ _ _ _ _ _ _ _ _ _ => (128 - x).toNat) ?_
 unfold zku;have hw1 : i64.wrap (sz - 1) = sz - 1 := wz;rw [hw1];refine bR (by simp; omega) ?_;refine (zcu n f l z 0 (sz - 1) hl hok).mono ?_;rintro _ rfl;obtain ⟨_, f2, f3, f4⟩ := hF 0 (by omega);refine ⟨_, rfl, rfl, _, rfl, _, rfl, rfl, _, rfl, _, rfl, _, rfl, _, rfl, _, rfl, _, rfl, ⟨rfl, [], [], [], [], rfl, rfl, rfl, rfl, TInv.nil, rfl, qz _, by omega, f4, f3⟩, ?_⟩;clear f2 f3 f4;rintro u0 x v0a v0b v0c v0d _ _ _ _ _ _ ⟨idx, blk, kn, ev, rfl, rfl, rfl, rfl, hk, hx, hb, hx2, hv0, hu0⟩;refine aC (fun hc => ?_) (fun hc => ?_)
 ·simp only [aB] at hc;have hw2 : i64.wrap (x + 128) = x + 128 := wz;rw [hw2]
  have hmin : ∀ a : Int, i64.wrap ((if sz < a + 128 then sz else a + 128) - 1) = (if sz < a + 128 then sz else a + 128) - 1 ∨ ¬ (0 <= a /\ a <= 1114112) := fun a => by
   by_cases ha : 0 <= a /\ a <= 1114112
   ·left; split <;> exact wz
   ·exact .inr ha
  have hmx := (hmin x).resolve_right (by omega);rw [hmx];refine aC (fun hgt => ?ga) (fun hgt => ?gb)
  case' ga =>
   refine (zcu n f l z x (sz - 1) hl hok).mono ?_;rintro _ rfl;obtain ⟨_, hux, hu, hv⟩ := hF x (by omega);refine ⟨_, rfl, rfl, _, rfl, _, rfl, rfl, _, rfl, _, rfl, _, rfl, _, rfl, _, rfl, _, rfl, ?_⟩
   revert hv hu
   generalize (findL l z x (sz - 1)).1 = v;generalize (findL l z x (sz - 1)).2 = u;clear hv0 hu0 hux;intro hu hv
  case' gb =>
   obtain ⟨v, rfl, rfl, rfl, rfl⟩ : ∃ v : (Bool × Bool × Bool × Bool), v.1 = v0a /\ v.2.1 = v0b /\ v.2.2.1 = v0c /\ v.2.2.2 = v0d := ⟨(v0a, v0b, v0c, v0d), rfl, rfl, rfl, rfl⟩
   revert hv0 hu0 hgt
   generalize u0 = u;intro hu hgt hv
  all_goals
   clear hgt;refine aC (fun hc2 => ?_) (fun hc2 => ?_)
   ·simp only [aB, ge_iff_le] at hc2;have hc3 : x + 127 <= u ∨ sz - 1 <= u := by split at hc2 <;> omega
    refine (zvw hk (by omega) _ _ v).mono ?_;rintro _ _ ⟨k, kn', ev', bn', blk', rfl, rfl, g1, g2, g3, g4⟩;refine ⟨(k, gU kn', iW ev', bn', bL encF blk'), ⟨rfl, rfl⟩, ⟨trivial, ⟨rfl, rfl, rfl⟩, trivial, trivial, trivial, trivial, trivial⟩, ⟨rfl, idx, blk', kn', ev', rfl, rfl, rfl, rfl, g1, hx, hx2, hv, hu, g2, g3, .inl ⟨rfl, hc, hc3, by omega⟩⟩, ?_⟩;rintro t y k' wa wb wc wd _ _ _ _ _ _ ⟨idx2, blk2, kn2, ev2, rfl, rfl, rfl, rfl, hk2, hy, hy2, hw, ht, hk0, hkb, hor⟩;have hwy : i64.wrap (y + 128) = y + 128 := wz;rw [hwy, (hmin y).resolve_right (by omega)];refine aC (fun hc4 => ?_) (fun hc4 => ?_)
    ·simp only [qh, aB, ge_iff_le] at hc4;have hc5 : y + 127 <= t ∨ sz - 1 <= t := by have := hc4.2; split at this <;> omega
     refine ⟨⟨fun e he => by simp at he; subst he; rfl, by rw [lE]; omega⟩, rfl, ⟨idx2 ++ [k'], blk2, kn2, ev2, by simp [bG], rfl, rfl, rfl, hk2.push hk0 hkb fun j u' hj hlt => ?_, by simp; omega, by omega, fun j h1 h2 => hw j (by omega) h2, ht, hk0, hkb, .inr ⟨by omega, by simp; omega⟩⟩, by dsimp only; omega⟩;obtain ⟨rfl, hj2⟩ := zvx hj;exact (hw _ (by omega) (by omega)).symm
    ·have hw128 : i64.wrap (y - 128) = y - 128 := wz;have hback : i64.wrap (y - 128 + 128) = y := by rw [wz]; omega
     rw [hw128, hback];simp only [qh, aB, ge_iff_le, not_and] at hc4
     have hor2 : x + 128 <= y /\ blk2.length <= idx2.length := by
      rcases hor with ⟨h1, h2, h3, h4⟩ | h
      ·exfalso;have := hc4 h2;split at this <;> omega
      ·exact h
     exact ⟨rfl, ⟨idx2, blk2, kn2, ev2, rfl, rfl, rfl, rfl, hk2, hy, hor2.2, hy2, hw, ht⟩, by dsimp only; omega⟩
   ·clear hc2;refine ⟨⟨rfl, idx, blk, kn, ev, rfl, rfl, rfl, rfl, hk, hx, hb, rfl, hc, qe _, by omega, hu, fun j h1 h2 => hv j (by omega) h2, qb 128 (false, false, false, false), by simp, zk6, fun q u' _ hq _ => by simp at hq⟩, ?_⟩;rintro t y i wa wb wc wd _ _ _ _ _ _ _ ⟨idx2, blk2, kn2, ev2, rfl, rfl, rfl, rfl, hk2, hy, hb2, hyx, hy2, i0, i1, ht, hw, b, hbl, rfl, hbq⟩;obtain ⟨w, rfl, rfl, rfl, rfl⟩ : ∃ v : (Bool × Bool × Bool × Bool), v.1 = wa /\ v.2.1 = wb /\ v.2.2.1 = wc /\ v.2.2.2 = wd := ⟨(wa, wb, wc, wd), rfl, rfl, rfl, rfl⟩;have hwyi : i64.wrap (y + i) = y + i := wz;have hwi : i64.wrap (i + 1) = i + 1 := wz;have hwy : i64.wrap (y + 128) = y + 128 := wz;rw [hwyi, hwi, hwy]
    have step : ∀ (v' : (Bool × Bool × Bool × Bool)) (u' : Int), (∀ j, y + i <= j -> j <= u' -> F j = v') -> u' <= sz - 1 -> (y + i < sz -> F (y + i) = v') -> i < 128 ->
     ∃ idx blk kn ev, bG idx2 = bG idx /\ bL encF blk2 = bL encF blk /\ gU kn2 = gU kn /\ iW ev2 = iW ev /\ TInv sz F idx blk kn ev /\ y = 128 * idx.length /\ blk.length <= idx.length /\ y = x /\ y < sz /\ 0 <= i + 1 /\ i + 1 <= 128 /\ u' <= sz - 1 /\ (∀ j, y + (i + 1) <= j -> j <= u' -> F j = v') /\
      ∃ c : List (Bool × Bool × Bool × Bool), c.length = 128 /\ (b.set i.toNat v').flatMap encF = c.flatMap encF /\ ∀ (q : Nat) u, c[q]? = some u -> q < (i + 1).toNat -> y + q < sz -> u = F (y + q) := fun v' u' h1 h2 h3 h4 => by
     refine ⟨idx2, blk2, kn2, ev2, rfl, rfl, rfl, rfl, hk2, hy, hb2, hyx, hy2, by omega, by omega, h2, fun j a1 a2 => h1 j (by omega) a2, b.set i.toNat v', by simpa using hbl, rfl, fun q u hq hq2 hq3 => ?_⟩
     rw [qae] at hq;by_cases e : i.toNat = q
     ·rw [if_pos e, if_pos (by omega)] at hq;cases hq;have e2 : y + (q : Int) = y + i := by omega
      rw [e2];exact (h3 (by omega)).symm
     ·rw [if_neg e] at hq;exact hbq q u hq (by omega) hq3
    refine aC (fun hc5 => ?_) (fun hc5 => ?_)
    ·simp only [aB] at hc5;refine aC (fun hc6 => ?_) (fun hc6 => ?_)
     ·simp only [qh, aB, gt_iff_lt] at hc6;refine (zcu n f l z (y + i) (sz - 1) hl hok).mono ?_;rintro _ rfl;obtain ⟨q1, q2, q3, q4⟩ := hF (y + i) (by omega);refine ⟨_, rfl, rfl, _, rfl, _, rfl, rfl, _, rfl, _, rfl, _, rfl, _, rfl, _, rfl, _, rfl, ⟨i0, hc5⟩, ⟨rfl, by rw [zcx]; omega⟩, rfl, ?_, by dsimp only; omega⟩;have hput := zcw b i.toNat (by omega) (findL l z (y + i) (sz - 1)).1;unfold encF at hput ⊢;rw [hput];exact step _ _ q4 q3 (fun _ => q1.symm) hc5
     ·simp only [qh, aB, gt_iff_lt, not_and] at hc6;refine ⟨⟨i0, hc5⟩, ⟨rfl, by rw [zcx]; omega⟩, rfl, ?_, by dsimp only; omega⟩;have hput := zcw b i.toNat (by omega) w;unfold encF at hput ⊢;rw [hput];exact step _ _ hw ht (fun h => hw _ (qe _) ((qbm t (y + i)).elim (fun h2 => absurd h (hc6 h2)) id)) hc5
    ·simp only [aB] at hc5;have hi : i = 128 := by omega
     subst hi;obtain ⟨B, hB⟩ : ∃ B : aV (Bool × Bool × Bool × Bool), B.1 = b := ⟨⟨b, hbl⟩, rfl⟩;subst hB;have hcI : B.1.flatMap encF = cF B := rfl;rw [hcI, zcv];refine ⟨by rw [qp, oL]; omega, (fun h => ⟨h, h⟩) ?_⟩;refine (zk3 hk2 (by omega) _ _ B).mono ?_;rintro _ _ ⟨k, kn', bn', blk', rfl, rfl, h1, h2, h3, h4⟩;refine ⟨(k, gU kn', bn', bL encF blk'), ⟨rfl, rfl⟩, ⟨trivial, ⟨rfl, rfl, rfl⟩, trivial, trivial, trivial, trivial, trivial⟩, ⟨fun e he => by simp at he; subst he; rfl, by rw [lE]; omega⟩, rfl, ⟨idx2 ++ [k], blk', kn', ev2, by simp [bG, kvF], rfl, rfl, rfl, h1.push h2 h3 fun j u' hj hlt => ?_, by simp; omega, by simp; omega, by omega, fun j a1 a2 => hw j (by omega) a2, ht⟩, by dsimp only; omega⟩;have hj2 : j < 128 := by have := (List.getElem?_eq_some_iff.1 hj).1; simp only [hbl] at this; exact this
     rw [<- hy];exact hbq j u' hj (by omega) (by omega)
 ·simp only [aB] at hc;exact ⟨_, _, _, _, idx, blk, rfl, by omega, hk.idx_ok⟩
end Go.Eng
namespace Go.Eng
open Go Go.Proofs
def zcy (n f : Bool) (es : LL) (za zb : Int) (i x3 x14 h1_0 h1_1 : Int) : Env × Hp := ([(2, Y6 i), (3, Y6 x3), (5, LV.box 0 0), (8, LV.box 1 0), (12, LV.pv (PV.sl n f es)), (13, LV.pv (PV.int i64 (es.length : Int))), (14, Y6 x14)], [.box [LV.pv (PV.int i32 za), LV.pv (PV.int i32 zb)], .box [.pv (.int i32 h1_0), .pv (.int i32 h1_1)]])
section
variable (n f : Bool) (es : LL) (za zb : Int) (i last : Int) (J : Int -> Int -> Int -> Int -> Prop) (μ : Int -> Int -> Int -> Int -> Nat)
def zk7 (R : PV -> Prop) : Prop :=
 (aG (zcy n f es za zb i last (0 : Int) (0 : Int) (0 : Int)) /\ J last (0 : Int) (0 : Int) (0 : Int)) /\ ∀ (x3 x14 h1_0 h1_1 : Int), J x3 x14 h1_0 h1_1 ->
 let K2 := fun (y0_ y1_ y2_ y3_ : Int) => aG (zcy n f es za zb i y0_ y1_ y2_ y3_) /\ J y0_ y1_ y2_ y3_ /\ μ y0_ y1_ y2_ y3_ < μ x3 x14 h1_0 h1_1; if decide (x14 < (↑es.length : Int)) = true then aD es x14 4 /\ ∃
  (n1 : Int), (es.getD x14.toNat []).head? = some (Z6 n1) /\ ∃ n2, (es.getD x14.toNat []).tail.head? = some (Z6 n2) /\ ∃ n3, (es.getD x14.toNat []).tail.tail.head? = some (Z3 n3) /\ ∃ n4, (es.getD x14.toNat
  []).tail.tail.tail.head? = some (Z3 n4) /\
 let V1 :=
 let V2 := K2 x3 (i64.wrap (x14 + 1)) h1_0 h1_1; if decide (i < n1) = true then if decide (n1 <= x3) = true then K2 (i64.wrap (n1 - 1)) (i64.wrap (x14 + 1)) h1_0 h1_1 else V2 else V2; if decide (n1 <= i) = true then if
  decide (i <= n2) = true then (R (PV.tup [PV.agg [Z3 n3, Z3 n4], Z6 (if x3 < n2 then x3 else n2)]) /\ R (PV.tup [PV.agg [Z3 n3, Z3 n4], Z6 (if x3 < n2 then x3 else n2)])) /\ R (PV.tup [PV.agg [Z3 n3, Z3 n4], Z6 (if x3 < n2 then x3 else n2)])
  else V1 else V1 else R (PV.tup [PV.agg [Z3 za, Z3 zb], Z6 x3])
theorem zvz {R : PV -> Prop} (h : zk7 n f es za zb i last J μ R) : PCall qa 66 [.sl n f es, .agg [.int .i32 za, .int .i32 zb], .int .i64 i, .int .i64 last] R :=
 PCall.wz Tryz.func66 aR [0, 1, 2, 3, 5, 8, 9, 11, 12, 13, 14, 15, 18, 35] (dA 2 (bN jQ (zcy n f es za zb i) J μ (fun e h => (gI e 3, gI e 14, hI h 1 0, hI h 1 1)) [] [2, 3, 5, 8, 12, 13, 14] [])) h
end
section
variable (sz : Int) (n f n2 f2 : Bool) (es bs : LL) (i : Int)
def zk8 (R : PV -> Prop) : Prop :=
 if decide (i < 0) = true then R (PV.agg [Z3 0, Z3 0]) else ∃ n1, some (Z6 sz) = some (Z6 n1) /\ if decide (i >= n1) = true then R (PV.agg [Z3 0, Z3 0]) else ∃ n3 f1 es1, some (PV.sl n2 f2 bs) = some (PV.sl n3 f1 es1) /\ ∃ n4 f3 es2, some (PV.sl n f es) = some (PV.sl n4 f3 es2) /\ aD es2 (i64.wrap (i.tdiv (128 : Int))) 1 /\ ∃ n5, (es2.getD (i64.wrap (i.tdiv (128 : Int))).toNat []).head? = some (Z6 n5) /\ aD es1 n5 256 /\ ((0 : Int) <= i.tmod (128 : Int) /\ i.tmod (128 : Int) < (↑128 : Int)) /\ ∃ n6, (qc ((i.tmod (128 : Int)).toNat * 2) (es1.getD n5.toNat [])).head? = some (Z3 n6) /\ ∃ n7, (qc ((i.tmod (128 : Int)).toNat * 2) (es1.getD n5.toNat [])).tail.head? = some (Z3 n7) /\ R (PV.agg [Z3 n6, Z3 n7])
theorem zv0 {R : PV -> Prop} (h : zk8 sz n f n2 f2 es bs i R) : PCall qa 43 [.ptr [.int .i64 sz, .sl n f es, .sl n2 f2 bs], .int .i64 i] R :=
 PCall.wz Tryz.func43 aR [0, 1, 4, 5, 19] bE h
end
section
variable (sz : Int) (kn ev : List (PV × PV)) (ixm ixn bkm bkn : Bool) (ix bk : LL) (b : List PV)
def zk9 (R : LV -> Hp -> Prop) : Prop :=
 256 <= (qc 0 b).length /\ c9 qa 131 kn /\ bI qa 131 (PV.agg (qi 256 (qc 0 b))) = true /\ (∀ (v : PV), cR (PV.agg (qi 256 (qc 0 b))) kn = some v -> ∃ n, v = Z6 n /\ R (Y6 n)
  [Ob.box [LV.box 1 0, LV.mp 2, LV.mp 3], Ob.box [Y6 sz, LV.own 4, LV.own 5], Ob.mp kn, Ob.mp ev, Ob.sl (3, 1) ixm ixn ix, Ob.sl (131, 256) bkm bkn bk]) /\ (cR (PV.agg (qi 256 (qc 0 b))) kn = none -> 256 <= (qc 0
  b).length /\ c9 qa 131 kn /\ bI qa 131 (PV.agg (qi 256 (qc 0 b))) = true /\ 256 <= (qc 0 b).length /\
 let V1 := (aU [qi 256 (qc 0 b)] 256 /\ (bk.length + 1) * 1024 <= 140737488355328) /\ R (Y6 (↑bk.length : Int)) [Ob.box [LV.box 1 0, LV.mp 2, LV.mp 3], Ob.box [Y6 sz, LV.own 4, LV.own 5], Ob.mp (bV (PV.agg (qi 256
  (qc 0 b))) (Z6 (↑bk.length : Int)) kn), Ob.mp ev, Ob.sl (3, 1) ixm ixn ix, Ob.sl (131, 256) true (bkn && false) (bk ++ [qi 256 (qc 0 b)])]; ((qi 256 (qc 0 b)).length = 256 /\ V1) /\ (qi 256
  (qc 0 b)).length = 256 /\ V1 /\ V1)
theorem zv1 {R : LV -> Hp -> Prop} (h : zk9 sz kn ev ixm ixn bkm bkn ix bk b R) : ACall qa 68 [.box 0 0, .pv (.agg b)] [.box [.box 1 0, .mp 2, .mp 3], .box [.pv (.int .i64 sz), .own 4, .own 5], .mp kn, .mp ev, .sl (3, 1) ixm ixn ix, .sl (131, 256) bkm bkn bk] R :=
 ACall.wz Tryz.func68 aR [0, 1, 3, 4, 5, 6, 17] bE [0,1,2,3,4,5] h
end
def zcz (sz : Int) (ixm ixn bkm bkn : Bool) (ix bk : LL) (va vb : Int) (x20 : Int) (m_2 : List (PV × PV)) (m_3 : List (PV × PV)) (c_7 : List PV) : Env × Hp := ([(0, LV.box 0 0), (3, LV.box 6 0), (7, LV.box 7 0), (20, Y6 x20)], [.box [LV.box 1 0, LV.mp 2, LV.mp 3], .box [Y6 sz, LV.own 4, LV.own 5], .mp m_2, .mp m_3, .sl (3, 1) ixm ixn ix, .sl (131, 256) bkm bkn bk, .box [LV.pv (PV.int i32 va), LV.pv (PV.int i32 vb)], .arr c_7])
section
variable (sz : Int) (kn ev : List (PV × PV)) (ixm ixn bkm bkn : Bool) (ix bk : LL) (va vb : Int) (J : Int -> (List (PV × PV)) -> (List (PV × PV)) -> (List PV) -> Prop) (μ : Int -> (List (PV × PV)) -> (List (PV × PV)) -> (List PV) -> Nat)
def zla (R : LV -> Hp -> Prop) : Prop :=
 c9 qa 81 ev /\ bI qa 81 (PV.agg [Z3 va, Z3 vb]) = true /\ (∀ (v : PV), cR (PV.agg [Z3 va, Z3 vb]) ev = some v -> ∃ n, v = Z6 n /\ R (Y6 n) [Ob.box [LV.box 1 0, LV.mp 2, LV.mp 3], Ob.box [Y6 sz, LV.own 4, LV.own 5], Ob.mp kn, Ob.mp ev, Ob.sl (3, 1) ixm ixn ix, Ob.sl (131, 256) bkm bkn bk]) /\ (cR (PV.agg [Z3 va, Z3 vb]) ev = none -> (SameSt ([(0, LV.box 0 0), (3, LV.box 6 0), (7, LV.box 7 0), (20, Y6 0)], [Ob.box [LV.box 1 0, LV.mp 2, LV.mp 3], Ob.box [Y6 sz, LV.own 4, LV.own 5], Ob.mp kn, Ob.mp ev, Ob.sl (3, 1) (bif false then true else ixm) ixn ix, Ob.sl (131, 256) (bif false then true else bkm) bkn bk, Ob.box [LV.pv (Z3 va), LV.pv (Z3 vb)], Ob.arr (qb 256 (Z3 0))]) (zcz sz ixm ixn bkm bkn ix bk va vb (0 : Int) kn ev (qb 256 (Z3 0))) /\ J (0 : Int) kn ev (qb 256 (Z3 0))) /\ ∀ (x20 : Int) (m_2 m_3 : List (PV × PV)) (c_7 : List PV), J x20 m_2 m_3 c_7 -> if decide (x20 < 128) = true then ((0 : Int) <= x20 /\ x20 < (↑128 : Int)) /\ (2 = (2 : Nat) /\ 0 + x20.toNat * 2 + 2 <= c_7.length) /\ SameSt ([(0, LV.box 0 0), (3, LV.box 6 0), (7, LV.box 7 0), (20, LV.pv (Z6 (i64.wrap (x20 + 1))))], [Ob.box [LV.box 1 0, LV.mp 2, LV.mp 3], Ob.box [Y6 sz, LV.own 4, LV.own 5], Ob.mp m_2, Ob.mp m_3, Ob.sl (3, 1) (bif false then true else ixm) ixn ix, Ob.sl (131, 256) (bif false then true else bkm) bkn bk, Ob.box [LV.pv (Z3 va), LV.pv (Z3 vb)], Ob.arr (aW c_7 (0 + x20.toNat * 2) [Z3 va, Z3 vb])]) (zcz sz ixm ixn bkm bkn ix bk va vb (i64.wrap (x20 + 1)) m_2 m_3 (aW c_7 ((0 : Nat) + x20.toNat * 2) [Z3 va, Z3 vb])) /\ J (i64.wrap (x20 + 1)) m_2 m_3 (aW c_7 ((0 : Nat) + x20.toNat * 2) [Z3 va, Z3 vb]) /\ μ (i64.wrap (x20 + 1)) m_2 m_3 (aW c_7 (0 + x20.toNat * 2) [Z3 va, Z3 vb]) < μ x20 m_2 m_3 c_7 else 256 <= (qc 0 c_7).length /\ ACall qa 68 [LV.box 0 0, LV.pv (PV.agg (qi 256 (qc 0 c_7)))] [Ob.box [LV.box 1 0, LV.mp 2, LV.mp 3], Ob.box [Y6 sz, LV.own 4, LV.own 5], Ob.mp m_2, Ob.mp m_3, Ob.sl ((3 : Nat), 1) false ixn ix, Ob.sl (131, 256) false bkn bk] fun (r : LV) (h' : Hp) => ∃ (t : Int × List (PV × PV) × Bool × LL), (r = Y6 t.1 /\ h' = [Ob.box [LV.box 1 0, LV.mp 2, LV.mp 3], Ob.box [Y6 sz, LV.own 4, LV.own 5], Ob.mp t.snd.fst, Ob.mp m_3, Ob.sl (3, 1) false ixn ix, Ob.sl (131, 256) true t.snd.snd.fst t.snd.snd.snd]) /\ (True /\ ((3, 1) = (3, (1 : Nat)) /\ ixn = ixn /\ ix.length = ix.length) /\ True /\ True /\ True /\ True /\ True) /\ c9 qa 81 m_3 /\ bI qa 81 (PV.agg [Z3 va, Z3 vb]) = true /\ R (Y6 t.1) [Ob.box [LV.box 1 0, LV.mp 2, LV.mp 3], Ob.box [Y6 sz, LV.own 4, LV.own 5], Ob.mp t.snd.fst, Ob.mp (bV (PV.agg [Z3 va, Z3 vb]) (Z6 t.1) m_3), Ob.sl (3, 1) (ixm || false) ixn ix, Ob.sl (131, 256) (bkm || true) t.snd.snd.fst t.snd.snd.snd])
theorem zv2 {R : LV -> Hp -> Prop} (h : zla sz kn ev ixm ixn bkm bkn ix bk va vb J μ R) : ACall qa 67 [.box 0 0, .pv (.agg [.int .i32 va, .int .i32 vb])] [.box [.box 1 0, .mp 2, .mp 3], .box [.pv (.int .i64 sz), .own 4, .own 5], .mp kn, .mp ev, .sl (3, 1) ixm ixn ix, .sl (131, 256) bkm bkn bk] R :=
 ACall.wz Tryz.func67 (fun zz_ => match zz_ with | 68 => some ⟨Int × List (PV × PV) × Bool × LL, fun _ hs t => (.pv (.int .i64 t.1), match hs with | [m, r, .mp _, ev, ix, .sl a _ _ _] => [m, r, .mp t.2.1, ev, ix, .sl a true t.2.2.1 t.2.2.2] | h => h), none⟩ | _ => none) [0, 1, 3, 4, 5, 6, 7, 8, 19, 20, 21] (dA 5 (bN jQ (zcz sz ixm ixn bkm bkn ix bk va vb) J μ (fun e h => (gI e 20, oM h 2, oM h 3, oA h 7)) [] [0, 3, 7, 20] [])) [0,1,2,3,4,5] h
end
def zc0 (sz : Int) (za zb : Int) (n f : Bool) (es : LL) (x10 x11 h3_0 h3_1 : Int) (n_4 : Bool) (s_4 : LL) (n_5 : Bool) (s_5 : LL) (m_6 : List (PV × PV)) (m_7 : List (PV × PV)) : Env × Hp := ([(0, Y6 sz), (2, LV.pv (PV.sl n f es)), (4, LV.box 0 0), (7, LV.box 1 0), (8, LV.box 2 0), (9, LV.box 3 0), (10, Y6 x10), (11, Y6 x11)], [.box [LV.pv (PV.int i32 za), LV.pv (PV.int i32 zb)], .box [Y6 sz, LV.own 4, LV.own 5], .box [LV.box 1 0, LV.mp 6, LV.mp 7], .box [.pv (.int i32 h3_0), .pv (.int i32 h3_1)], .sl (3, 1) true n_4 s_4, .sl (131, 256) true n_5 s_5, .mp m_6, .mp m_7])
def tL (sz : Int) (za zb : Int) (n f : Bool) (es : LL) (x10 x11 x13 h3_0 h3_1 : Int) (n_4 : Bool) (s_4 : LL) (n_5 : Bool) (s_5 : LL) (m_6 : List (PV × PV)) (m_7 : List (PV × PV)) : Env × Hp := ([(0, Y6 sz), (2, LV.pv (PV.sl n f es)), (4, LV.box 0 0), (7, LV.box 1 0), (8, LV.box 2 0), (9, LV.box 3 0), (10, Y6 x10), (11, Y6 x11), (13, Y6 x13)], [.box [LV.pv (PV.int i32 za), LV.pv (PV.int i32 zb)], .box [Y6 sz, LV.own 4, LV.own 5], .box [LV.box 1 0, LV.mp 6, LV.mp 7], .box [.pv (.int i32 h3_0), .pv (.int i32 h3_1)], .sl (3, 1) true n_4 s_4, .sl (131, 256) true n_5 s_5, .mp m_6, .mp m_7])
def qR (sz : Int) (za zb : Int) (n f : Bool) (es : LL) (x10 x11 x88 h3_0 h3_1 : Int) (c_4 : List PV) (n_5 : Bool) (s_5 : LL) (n_6 : Bool) (s_6 : LL) (m_7 : List (PV × PV)) (m_8 : List (PV × PV)) : Env × Hp := ([(0, Y6 sz), (2, LV.pv (PV.sl n f es)), (4, LV.box 0 0), (7, LV.box 1 0), (8, LV.box 2 0), (9, LV.box 3 0), (10, Y6 x10), (11, Y6 x11), (14, LV.box 4 0), (88, Y6 x88)], [.box [LV.pv (PV.int i32 za), LV.pv (PV.int i32 zb)], .box [Y6 sz, LV.own 5, LV.own 6], .box [LV.box 1 0, LV.mp 7, LV.mp 8], .box [.pv (.int i32 h3_0), .pv (.int i32 h3_1)], .arr c_4, .sl (3, 1) true n_5 s_5, .sl (131, 256) true n_6 s_6, .mp m_7, .mp m_8])
section
variable (sz : Int) (za zb : Int) (n f : Bool) (es : LL) (J : Int -> Int -> Int -> Int -> Bool -> LL -> Bool -> LL -> (List (PV × PV)) -> (List (PV × PV)) -> Prop) (μ : Int -> Int -> Int -> Int -> Bool -> LL -> Bool -> LL -> (List (PV × PV)) -> (List (PV × PV)) -> Nat) (J2 : Int -> Int -> Int -> Int -> Int -> Bool -> LL -> Bool -> LL -> (List (PV × PV)) -> (List (PV × PV)) -> Int -> Int -> Int -> Int -> Int -> Bool -> LL -> Bool -> LL -> (List (PV × PV)) -> (List (PV × PV)) -> Prop) (μ2 : Int -> Int -> Int -> Int -> Int -> Bool -> LL -> Bool -> LL -> (List (PV × PV)) -> (List (PV × PV)) -> Nat) (J3 : Int -> Int -> Int -> Int -> Int -> (List PV) -> Bool -> LL -> Bool -> LL -> (List (PV × PV)) -> (List (PV × PV)) -> Int -> Int -> Int -> Int -> Int -> (List PV) -> Bool -> LL -> Bool -> LL -> (List (PV × PV)) -> (List (PV × PV)) -> Prop) (μ3 : Int -> Int -> Int -> Int -> Int -> (List PV) -> Bool -> LL -> Bool -> LL -> (List (PV × PV)) -> (List (PV × PV)) -> Nat)
def zlb (R : PV -> Prop) : Prop :=
 if decide (sz < 1) = true then R PV.nilp else PCall qa 66 [PV.sl n f es, PV.agg [Z3 za, Z3 zb], Z6 0, Z6 (i64.wrap (sz - 1))] fun v => ∃ vs, v = PV.tup vs /\ vs.length = 2 /\ ∃ x, vs.head? = some x /\ ∃
  (cs : List PV), x = PV.agg cs /\ cs.length = 2 /\ ∃ n1, cs.head? = some (Z3 n1) /\ ∃ n2, cs.tail.head? = some (Z3 n2) /\ ∃ x1, vs.tail.head? = some x1 /\ ∃ n3, x1 = Z6 n3 /\ (aG (zc0 sz za zb n f es n3 (0 :
  Int) n1 n2 true [] true [] [] []) /\ J n3 (0 : Int) n1 n2 true [] true [] [] []) /\ ∀ (x10 x11 h3_0 h3_1 : Int) (n_4 : Bool) (s_4 : LL) (n_5 : Bool) (s_5 : LL) (m_6 m_7 : List (PV × PV)), J x10 x11 h3_0 h3_1 n_4 s_4 n_5 s_5 m_6 m_7 ->
 let K7 := fun (y0_ y1_ y2_ y3_ : Int) (y4_ : Bool) (y5_ : LL) (y6_ : Bool) (y7_ : LL) (y8_ : List (PV × PV)) (y9_ : List (PV × PV)) => aG (zc0 sz za zb n f es y0_ y1_ y2_ y3_ y4_ y5_ y6_ y7_ y8_ y9_) /\ J y0_
  y1_ y2_ y3_ y4_ y5_ y6_ y7_ y8_ y9_ /\ μ y0_ y1_ y2_ y3_ y4_ y5_ y6_ y7_ y8_ y9_ < μ x10 x11 h3_0 h3_1 n_4 s_4 n_5 s_5 m_6 m_7; if decide (x11 < sz) = true then if decide (x11 > x10) = true then PCall qa 66 [PV.sl n f es, PV.agg
  [Z3 za, Z3 zb], Z6 x11, Z6 (i64.wrap (sz - 1))] fun v1 => ∃ vs1, v1 = PV.tup vs1 /\ vs1.length = 2 /\ ∃ x2, vs1.head? = some x2 /\ ∃ cs1, x2 = PV.agg cs1 /\ cs1.length = 2 /\ ∃ (n4 : Int),
  cs1.head? = some (Z3 n4) /\ ∃ n5, cs1.tail.head? = some (Z3 n5) /\ ∃ x3, vs1.tail.head? = some x3 /\ ∃ n6, x3 = Z6 n6 /\ if decide (n6 >= i64.wrap ((if sz < i64.wrap (x11 + 128) then sz else
  i64.wrap (x11 + 128)) - 1)) = true then ACall qa 67 [LV.box 0 0, LV.pv (PV.agg [Z3 n4, Z3 n5])] [Ob.box [LV.box 1 0, LV.mp 2, LV.mp 3], Ob.box [Y6 sz, LV.own 4, LV.own 5], Ob.mp m_6, Ob.mp m_7, Ob.sl (3, 1) false n_4 s_4,
  Ob.sl (131, 256) false n_5 s_5] fun (r : LV) (h' : Hp) => ∃ (t : Int × List (PV × PV) × List (PV × PV) × Bool × LL), (r = Y6 t.1 /\ h' = [Ob.box [LV.box 1 0, LV.mp 2, LV.mp 3], Ob.box [Y6 sz, LV.own 4, LV.own 5], Ob.mp t.snd.fst, Ob.mp
  t.snd.snd.fst, Ob.sl (3, 1) false n_4 s_4, Ob.sl (131, 256) true t.snd.snd.snd.fst t.snd.snd.snd.snd]) /\ (True /\ ((3, 1) = (3, 1) /\ n_4 = n_4 /\ s_4.length = s_4.length) /\ True /\ True /\ True /\ True /\ True) /\ (aG (tL sz za zb n f es
  n6 x11 t.1 n4 n5 n_4 s_4 t.snd.snd.snd.fst t.snd.snd.snd.snd t.snd.fst t.snd.snd.fst) /\ J2 n6 x11 t.1 n4 n5 n_4 s_4 t.snd.snd.snd.fst t.snd.snd.snd.snd t.snd.fst t.snd.snd.fst n6 x11 t.1 n4 n5 n_4 s_4 t.snd.snd.snd.fst t.snd.snd.snd.snd
  t.snd.fst t.snd.snd.fst) /\ ∀ (x101 x111 x13 h3_01 h3_11 : Int) (n_41 : Bool) (s_41 : LL) (n_51 : Bool) (s_51 : LL) (m_61 m_71 : List (PV × PV)), J2 n6 x11 t.1 n4 n5 n_4 s_4 t.snd.snd.snd.fst t.snd.snd.snd.snd t.snd.fst t.snd.snd.fst x101
  x111 x13 h3_01 h3_11 n_41 s_41 n_51 s_51 m_61 m_71 -> if (decide (x111 < sz) && decide (x101 >= i64.wrap ((if sz < i64.wrap (x111 + 128) then sz else i64.wrap (x111 + 128)) - 1))) = true then (aU [[Z6 x13]] 1 /\
  (s_41.length + 1) * 8 <= 140737488355328) /\ aG (tL sz za zb n f es x101 (i64.wrap (x111 + 128)) x13 h3_01 h3_11 (n_41 && false) (s_41 ++ [[Z6 x13]]) n_51 s_51 m_61 m_71) /\ J2 n6 x11 t.1 n4 n5 n_4 s_4 t.snd.snd.snd.fst
  t.snd.snd.snd.snd t.snd.fst t.snd.snd.fst x101 (i64.wrap (x111 + 128)) x13 h3_01 h3_11 (n_41 && false) (s_41 ++ [[Z6 x13]]) n_51 s_51 m_61 m_71 /\ μ2 x101 (i64.wrap (x111 + 128)) x13 h3_01 h3_11 (n_41 && false) (s_41 ++
  [[Z6 x13]]) n_51 s_51 m_61 m_71 < μ2 x101 x111 x13 h3_01 h3_11 n_41 s_41 n_51 s_51 m_61 m_71 else K7 x101 (i64.wrap (i64.wrap (x111 - 128) + 128)) h3_01 h3_11 n_41 s_41 n_51 s_51 m_61 m_71 else (aG (qR sz za zb n f
  es n6 x11 (0 : Int) n4 n5 (qb 256 (Z3 0)) n_4 s_4 n_5 s_5 m_6 m_7) /\ J3 n6 x11 (0 : Int) n4 n5 (qb 256 (Z3 0)) n_4 s_4 n_5 s_5 m_6 m_7 n6 x11 (0 : Int) n4 n5 (qb 256 (Z3 0)) n_4 s_4 n_5 s_5 m_6 m_7) /\
  ∀ (x101 x111 x88 h3_01 h3_11 : Int) (c_4 : List PV) (n_51 : Bool) (s_51 : LL) (n_6 : Bool) (s_6 : LL) (m_71 m_8 : List (PV × PV)), J3 n6 x11 (0 : Int) n4 n5 (qb 256 (Z3 0)) n_4 s_4 n_5 s_5 m_6 m_7 x101 x111 x88 h3_01 h3_11
  c_4 n_51 s_51 n_6 s_6 m_71 m_8 ->
 let K20 := fun (y0_ y1_ y2_ y3_ y4_ : Int) (y5_ : List PV) (y6_ : Bool) (y7_ : LL) (y8_ : Bool) (y9_ : LL) (y10_ : List (PV × PV)) (y11_ : List (PV × PV)) => aG (qR sz za zb n f es y0_ y1_ y2_ y3_ y4_
  y5_ y6_ y7_ y8_ y9_ y10_ y11_) /\ J3 n6 x11 (0 : Int) n4 n5 (qb 256 (Z3 0)) n_4 s_4 n_5 s_5 m_6 m_7 y0_ y1_ y2_ y3_ y4_ y5_ y6_ y7_ y8_ y9_ y10_ y11_ /\ μ3 y0_ y1_ y2_ y3_ y4_ y5_ y6_ y7_ y8_ y9_ y10_ y11_ < μ3 x101 x111 x88
  h3_01 h3_11 c_4 n_51 s_51 n_6 s_6 m_71 m_8; if decide (x88 < 128) = true then if (decide (i64.wrap (x111 + x88) > x101) && decide (i64.wrap (x111 + x88) < sz)) = true then PCall qa 66 [PV.sl n f es, PV.agg [Z3 za,
  Z3 zb], Z6 (i64.wrap (x111 + x88)), Z6 (i64.wrap (sz - 1))] fun v2 => ∃ vs2, v2 = PV.tup vs2 /\ vs2.length = 2 /\ ∃ x4, vs2.head? = some x4 /\ ∃ cs2, x4 = PV.agg cs2 /\ cs2.length = 2 /\ ∃
  (n7 : Int), cs2.head? = some (Z3 n7) /\ ∃ n8, cs2.tail.head? = some (Z3 n8) /\ ∃ x5, vs2.tail.head? = some x5 /\ ∃ n9, x5 = Z6 n9 /\ ((0 : Int) <= x88 /\ x88 < (↑128 : Int)) /\ (2 = 2 /\ 0 + x88.toNat * 2 + 2 <= c_4.length)
  /\ K20 n9 x111 (i64.wrap (x88 + 1)) n7 n8 (aW c_4 (0 + x88.toNat * 2) [Z3 n7, Z3 n8]) n_51 s_51 n_6 s_6 m_71 m_8 else ((0 : Int) <= x88 /\ x88 < (↑128 : Int)) /\ (2 = 2 /\ 0 + x88.toNat * 2 + 2 <= c_4.length) /\ K20 x101 x111
  (i64.wrap (x88 + 1)) h3_01 h3_11 (aW c_4 (0 + x88.toNat * 2) [Z3 h3_01, Z3 h3_11]) n_51 s_51 n_6 s_6 m_71 m_8 else 256 <= (qc 0 c_4).length /\
 let V1 := ACall qa 68 [LV.box 0 0, LV.pv (PV.agg (qi 256 (qc 0 c_4)))] [Ob.box [LV.box 1 0, LV.mp 2, LV.mp 3], Ob.box [Y6 sz, LV.own 4, LV.own 5], Ob.mp m_71, Ob.mp m_8, Ob.sl (3, 1) false n_51 s_51, Ob.sl (131, 256)
  false n_6 s_6] fun (r : LV) (h' : Hp) => ∃ (t : Int × List (PV × PV) × Bool × LL), (r = Y6 t.1 /\ h' = [Ob.box [LV.box 1 0, LV.mp 2, LV.mp 3], Ob.box [Y6 sz, LV.own 4, LV.own 5], Ob.mp t.snd.fst, Ob.mp m_8, Ob.sl (3, 1) false n_51 s_51,
  Ob.sl (131, 256) true t.snd.snd.fst t.snd.snd.snd]) /\ (True /\ ((3, 1) = (3, 1) /\ n_51 = n_51 /\ s_51.length = s_51.length) /\ True /\ True /\ True /\ True /\ True) /\ (aU [[Z6 t.1]] 1 /\ (s_51.length + 1) * 8 <= 140737488355328) /\ K7 x101
  (i64.wrap (x111 + 128)) h3_01 h3_11 (n_51 && false) (s_51 ++ [[Z6 t.1]]) t.snd.snd.fst t.snd.snd.snd t.snd.fst m_8; V1 /\ V1 else if decide (x10 >= i64.wrap ((if sz < i64.wrap (x11 + 128) then sz else
  i64.wrap (x11 + 128)) - 1)) = true then ACall qa 67 [LV.box 0 0, LV.pv (PV.agg [Z3 h3_0, Z3 h3_1])] [Ob.box [LV.box 1 0, LV.mp 2, LV.mp 3], Ob.box [Y6 sz, LV.own 4, LV.own 5], Ob.mp m_6, Ob.mp m_7, Ob.sl (3, 1) false n_4
  s_4, Ob.sl (131, 256) false n_5 s_5] fun (r : LV) (h' : Hp) => ∃ (t : Int × List (PV × PV) × List (PV × PV) × Bool × LL), (r = Y6 t.1 /\ h' = [Ob.box [LV.box 1 0, LV.mp 2, LV.mp 3], Ob.box [Y6 sz, LV.own 4, LV.own 5], Ob.mp t.snd.fst,
  Ob.mp t.snd.snd.fst, Ob.sl (3, 1) false n_4 s_4, Ob.sl (131, 256) true t.snd.snd.snd.fst t.snd.snd.snd.snd]) /\ (True /\ ((3, 1) = (3, 1) /\ n_4 = n_4 /\ s_4.length = s_4.length) /\ True /\ True /\ True /\ True /\ True) /\ (aG (tL sz za zb
  n f es x10 x11 t.1 h3_0 h3_1 n_4 s_4 t.snd.snd.snd.fst t.snd.snd.snd.snd t.snd.fst t.snd.snd.fst) /\ J2 x10 x11 t.1 h3_0 h3_1 n_4 s_4 t.snd.snd.snd.fst t.snd.snd.snd.snd t.snd.fst t.snd.snd.fst x10 x11 t.1 h3_0 h3_1 n_4 s_4
  t.snd.snd.snd.fst t.snd.snd.snd.snd t.snd.fst t.snd.snd.fst) /\ ∀ (x101 x111 x13 h3_01 h3_11 : Int) (n_41 : Bool) (s_41 : LL) (n_51 : Bool) (s_51 : LL) (m_61 m_71 : List (PV × PV)), J2 x10 x11 t.1 h3_0 h3_1 n_4 s_4 t.snd.snd.snd.fst
  t.snd.snd.snd.snd t.snd.fst t.snd.snd.fst x101 x111 x13 h3_01 h3_11 n_41 s_41 n_51 s_51 m_61 m_71 -> if (decide (x111 < sz) && decide (x101 >= i64.wrap ((if sz < i64.wrap (x111 + 128) then sz else i64.wrap (x111 +
  128)) - 1))) = true then (aU [[Z6 x13]] 1 /\ (s_41.length + 1) * 8 <= 140737488355328) /\ aG (tL sz za zb n f es x101 (i64.wrap (x111 + 128)) x13 h3_01 h3_11 (n_41 && false) (s_41 ++ [[Z6 x13]]) n_51 s_51 m_61 m_71) /\ J2
  x10 x11 t.1 h3_0 h3_1 n_4 s_4 t.snd.snd.snd.fst t.snd.snd.snd.snd t.snd.fst t.snd.snd.fst x101 (i64.wrap (x111 + 128)) x13 h3_01 h3_11 (n_41 && false) (s_41 ++ [[Z6 x13]]) n_51 s_51 m_61 m_71 /\ μ2 x101 (i64.wrap (x111 +
  128)) x13 h3_01 h3_11 (n_41 && false) (s_41 ++ [[Z6 x13]]) n_51 s_51 m_61 m_71 < μ2 x101 x111 x13 h3_01 h3_11 n_41 s_41 n_51 s_51 m_61 m_71 else K7 x101 (i64.wrap (i64.wrap (x111 - 128) + 128)) h3_01 h3_11 n_41 s_41 n_51
  s_51 m_61 m_71 else (aG (qR sz za zb n f es x10 x11 (0 : Int) h3_0 h3_1 (qb 256 (Z3 0)) n_4 s_4 n_5 s_5 m_6 m_7) /\ J3 x10 x11 (0 : Int) h3_0 h3_1 (qb 256 (Z3 0)) n_4 s_4 n_5 s_5 m_6 m_7 x10 x11 (0 : Int)
  h3_0 h3_1 (qb 256 (Z3 0)) n_4 s_4 n_5 s_5 m_6 m_7) /\ ∀ (x101 x111 x88 h3_01 h3_11 : Int) (c_4 : List PV) (n_51 : Bool) (s_51 : LL) (n_6 : Bool) (s_6 : LL) (m_71 m_8 : List (PV × PV)), J3 x10 x11 (0 : Int) h3_0 h3_1
  (qb 256 (Z3 0)) n_4 s_4 n_5 s_5 m_6 m_7 x101 x111 x88 h3_01 h3_11 c_4 n_51 s_51 n_6 s_6 m_71 m_8 -> if decide (x88 < 128) = true then if (decide (i64.wrap (x111 + x88) > x101) && decide (i64.wrap (x111 + x88) <
  sz)) = true then PCall qa 66 [PV.sl n f es, PV.agg [Z3 za, Z3 zb], Z6 (i64.wrap (x111 + x88)), Z6 (i64.wrap (sz - 1))] fun v1 => ∃ vs1, v1 = PV.tup vs1 /\ vs1.length = 2 /\ ∃ x2, vs1.head? =
  some x2 /\ ∃ cs1, x2 = PV.agg cs1 /\ cs1.length = 2 /\ ∃ n4, cs1.head? = some (Z3 n4) /\ ∃ n5, cs1.tail.head? = some (Z3 n5) /\ ∃ x3, vs1.tail.head? = some x3 /\ ∃ n6, x3 = Z6 n6 /\ ((0 : Int) <= x88 /\
  x88 < (↑128 : Int)) /\ (2 = 2 /\ 0 + x88.toNat * 2 + 2 <= c_4.length) /\ aG (qR sz za zb n f es n6 x111 (i64.wrap (x88 + 1)) n4 n5 (aW c_4 (0 + x88.toNat * (2 : Nat)) [Z3 n4, Z3 n5]) n_51 s_51 n_6 s_6 m_71 m_8) /\ J3 x10 x11
  (0 : Int) h3_0 h3_1 (qb 256 (Z3 0)) n_4 s_4 n_5 s_5 m_6 m_7 n6 x111 (i64.wrap (x88 + 1)) n4 n5 (aW c_4 (0 + x88.toNat * (2 : Nat)) [Z3 n4, Z3 n5]) n_51 s_51 n_6 s_6 m_71 m_8 /\ μ3 n6 x111 (i64.wrap (x88 + 1))
  n4 n5 (aW c_4 (0 + x88.toNat * 2) [Z3 n4, Z3 n5]) n_51 s_51 n_6 s_6 m_71 m_8 < μ3 x101 x111 x88 h3_01 h3_11 c_4 n_51 s_51 n_6 s_6 m_71 m_8 else ((0 : Int) <= x88 /\ x88 < (↑128 : Int)) /\ (2 = 2 /\ 0 + x88.toNat * 2 + 2 <= c_4.length) /\
  aG (qR sz za zb n f es x101 x111 (i64.wrap (x88 + 1)) h3_01 h3_11 (aW c_4 (0 + x88.toNat * 2) [Z3 h3_01, Z3 h3_11]) n_51 s_51 n_6 s_6 m_71 m_8) /\ J3 x10 x11 (0 : Int) h3_0 h3_1 (qb 256 (Z3 0)) n_4 s_4 n_5 s_5
  m_6 m_7 x101 x111 (i64.wrap (x88 + 1)) h3_01 h3_11 (aW c_4 (0 + x88.toNat * 2) [Z3 h3_01, Z3 h3_11]) n_51 s_51 n_6 s_6 m_71 m_8 /\ μ3 x101 x111 (i64.wrap (x88 + 1)) h3_01 h3_11 (aW c_4 (0 + x88.toNat * 2) [Z3 h3_01, Z3
  h3_11]) n_51 s_51 n_6 s_6 m_71 m_8 < μ3 x101 x111 x88 h3_01 h3_11 c_4 n_51 s_51 n_6 s_6 m_71 m_8 else 256 <= (qc 0 c_4).length /\
 let V2 := ACall qa 68 [LV.box 0 0, LV.pv (PV.agg (qi 256 (qc 0 c_4)))] [Ob.box [LV.box 1 0, LV.mp 2, LV.mp 3], Ob.box [Y6 sz, LV.own 4, LV.own 5], Ob.mp m_71, Ob.mp m_8, Ob.sl (3, 1) false n_51 s_51, Ob.sl (131, 256)
  false n_6 s_6] fun (r : LV) (h' : Hp) => ∃ (t : Int × List (PV × PV) × Bool × LL), (r = Y6 t.1 /\ h' = [Ob.box [LV.box 1 0, LV.mp 2, LV.mp 3], Ob.box [Y6 sz, LV.own 4, LV.own 5], Ob.mp t.snd.fst, Ob.mp m_8, Ob.sl (3, 1) false n_51 s_51,
  Ob.sl (131, 256) true t.snd.snd.fst t.snd.snd.snd]) /\ (True /\ ((3, 1) = (3, 1) /\ n_51 = n_51 /\ s_51.length = s_51.length) /\ True /\ True /\ True /\ True /\ True) /\ (aU [[Z6 t.1]] 1 /\ (s_51.length + 1) * 8 <= 140737488355328) /\ K7 x101
  (i64.wrap (x111 + 128)) h3_01 h3_11 (n_51 && false) (s_51 ++ [[Z6 t.1]]) t.snd.snd.fst t.snd.snd.snd t.snd.fst m_8; V2 /\ V2 else R (PV.ptr [Z6 sz, PV.sl n_4 false s_4, PV.sl n_5 false s_5])
theorem zv3 {R : PV -> Prop} (h : zlb sz za zb n f es J μ J2 μ2 J3 μ3 R) : PCall qa 42 [.int .i64 sz, .agg [.int .i32 za, .int .i32 zb], .sl n f es] R :=
 PCall.wz Tryz.func42 (fun zz_ => match zz_ with | 68 => some ⟨Int × List (PV × PV) × Bool × LL, fun _ hs t => (.pv (.int .i64 t.1), match hs with | [m, r, .mp _, ev, ix, .sl a _ _ _] => [m, r, .mp t.2.1, ev, ix, .sl a true t.2.2.1 t.2.2.2] | h => h), none⟩ | 67 => some ⟨Int × List (PV × PV) × List (PV × PV) × Bool × LL, fun _ hs t => (.pv (.int .i64 t.1), match hs with | [m, r, .mp _, .mp _, ix, .sl a _ _ _] => [m, r, .mp t.2.1, .mp t.2.2.1, ix, .sl a true t.2.2.2.1 t.2.2.2.2] | h => h), none⟩ | _ => none) [0, 1, 2, 4, 6, 7, 8, 9, 10, 11, 12, 13, 14, 15, 17, 36, 41, 58, 73, 88, 89, 102] (iM [(7, (bN (fQ jP) (zc0 sz za zb n f es) J μ (fun e h => (gI e 10, gI e 11, hI h 3 0, hI h 3 1, oN h 4, oS h 4, oN h 5, oS h 5, oM h 6, oM h 7)) [(1001001, 3, 1), (1001002, 131, 256)] [0, 2, 4, 7, 8, 9, 10, 11] [])), (14, (iA (fQ eG) (tL sz za zb n f es) J2 μ2 (fun e h => (gI e 10, gI e 11, gI e 13, hI h 3 0, hI h 3 1, oN h 4, oS h 4, oN h 5, oS h 5, oM h 6, oM h 7)) [] [0, 2, 4, 7, 8, 9, 10, 11, 13] [])), (20, (iA (fQ jQ) (qR sz za zb n f es) J3 μ3 (fun e h => (gI e 10, gI e 11, gI e 88, hI h 3 0, hI h 3 1, oA h 4, oN h 5, oS h 5, oN h 6, oS h 6, oM h 7, oM h 8)) [] [0, 2, 4, 7, 8, 9, 10, 11, 14, 88] []))]) h
end
end Go.Eng
namespace Go.Eng
open Go Go.Proofs Go.Eng.Trie
def encP (v : (Int × Int)) : List PV := [.int .i32 v.1, .int .i32 v.2]
theorem EP : Enc qa [21, 21] encP := ⟨fun a => by
 simp only [encP, bK, qal];rw [show Tryz.prog.underlying 21 = some (.int .i32) by kernel_rfl];rfl, fun a b => by
 obtain ⟨a0, a1⟩ := a;obtain ⟨b0, b1⟩ := b;simp only [encP, cK, fC, qal];rw [qbx]
 simp⟩
def pcP (p : Pc (Int × Int)) : List PV := [.int .i64 p.fr, .int .i64 p.to] ++ encP p.v
def mG (l : List (Pc (Int × Int))) : List (List PV) := l.map pcP
theorem zv4 (p : Pc (Int × Int)) : (pcP p).length = 4 := rfl
theorem zlc (l : List (Pc (Int × Int))) : (mG l).length = l.length := by simp [mG]
theorem zc1 (n f : Bool) (l : List (Pc (Int × Int))) (z : (Int × Int)) (i last : Int) (hl : l.length < 4611686018427387904) (hok : ∀ p ∈ l, -9223372036854775808 <= p.fr - 1 /\ p.fr - 1 <= 9223372036854775807) :
 PCall qa 66 [.sl n f (mG l), .agg (encP z), .int .i64 i, .int .i64 last] fun v => v = .tup [.agg (encP (findL l z i last).1), .int .i64 (findL l z i last).2] := by
 refine zvz _ _ _ z.1 z.2 _ _ (fun a k _ _ => 0 <= k /\ k <= l.length /\ findL l z i last = findL (l.drop k.toNat) z i a) (fun _ k _ _ => l.length - k.toNat) ?_;unfold zk7;refine ⟨⟨rfl, qe _, by omega, rfl⟩, ?_⟩;rintro a k _ _ ⟨k0, k1, he⟩;refine aC (fun hc => ?_) (fun hc => ?_)
 ·simp only [aB, zlc] at hc;have hk : k.toNat < l.length := by omega
  have hw : i64.wrap (k + 1) = k + 1 := wz;have hn : (k + 1).toNat = k.toNat + 1 := by omega
  have hg : (mG l).getD k.toNat [] = pcP l[k.toNat] := c7 hk;have hix : aD (mG l) k 4 := cS zv4 k0 (by omega);have hm := hok _ (qj hk);rw [drop_cons hk] at he;rw [hw];dsimp only;rw [hn];have hmu : l.length - (k.toNat + 1) < l.length - k.toNat := by omega
  refine ⟨hix, l[k.toNat].fr, by rw [hg]; rfl, l[k.toNat].to, by rw [hg]; rfl, l[k.toNat].v.1, by rw [hg]; rfl, l[k.toNat].v.2, by rw [hg]; rfl, ?_⟩;generalize l[k.toNat] = p at *;have hw2 : i64.wrap (p.fr - 1) = p.fr - 1 := vT hm.1 hm.2;rw [hw2];rw [zau] at he;by_cases h1 : p.fr <= i
  ·refine bW (by simpa using h1) ?_
   by_cases h2 : i <= p.to
   ·refine bW (by simpa using h2) ?_
    rw [if_pos ⟨h1, h2⟩] at he;rw [he]
    repeat' (first | rfl | apply And.intro)
   ·refine bR (by simpa using h2) ?_
    rw [if_neg (by omega), if_neg (by omega)] at he;refine bR (by simp; omega) ?_;exact ⟨rfl, ⟨by omega, by omega, he⟩, hmu⟩
  ·refine bR (by simpa using h1) ?_
   rw [if_neg (by omega)] at he;refine bW (by simp; omega) ?_;by_cases h3 : p.fr <= a
   ·refine bW (by simpa using h3) ?_
    rw [if_pos (by omega)] at he;exact ⟨rfl, ⟨by omega, by omega, he⟩, hmu⟩
   ·refine bR (by simpa using h3) ?_
    rw [if_neg (by omega)] at he;exact ⟨rfl, ⟨by omega, by omega, he⟩, hmu⟩
 ·simp only [aB, zlc] at hc;rw [qu (by omega)] at he;rw [he]; rfl
def TrieP (sz : Int) (F : Int -> (Int × Int)) (v : PV) : Prop := ∃ n f n2 f2 idx blk, v = .ptr [.int .i64 sz, .sl n f (bG idx), .sl n2 f2 (bL encP blk)] /\ TOK sz F idx blk
theorem p84 {sz : Int} {F : Int -> (Int × Int)} {t : PV} (ht : TrieP sz F t) (i : Int) (h1 : sz <= 1114112) : PCall qa 43 [t, .int .i64 i] fun v => v = .agg (encP (if 0 <= i /\ i < sz then F i else (0, 0))) := by
 obtain ⟨n, f, n2, f2, idx, blk, rfl, ht⟩ := ht;refine zv0 _ _ _ _ _ _ _ _ ?_;unfold zk8;refine aC (fun hc => ?_) (fun hc => ?_)
 ·simp only [aB] at hc;rw [if_neg (by omega)]; rfl
 ·simp only [aB] at hc;refine ⟨_, rfl, ?_⟩;refine aC (fun hc2 => ?_) (fun hc2 => ?_)
  ·simp only [aB, ge_iff_le] at hc2;rw [if_neg (by omega)]; rfl
  ·simp only [aB, ge_iff_le] at hc2;rw [if_pos (by omega)];obtain ⟨hq, g0, hk, hj, he⟩ := ht.get (i := i) (by omega) (by omega);have hw : i64.wrap (i.tdiv 128) = i / 128 := by rw [qq (by omega)]; exact wz
   have hm : i.tmod 128 = i % 128 := qr (by omega);have hg : (bG idx).getD (i / 128).toNat [] = [.int .i64 idx[(i / 128).toNat]] := c7 hq;have hg2 : (bL encP blk).getD idx[(i / 128).toNat].toNat [] = cells encP blk[idx[(i / 128).toNat].toNat] := c7 hk;refine ⟨_, _, _, rfl, _, _, _, rfl, ?_⟩;rw [hw];have := EP.at _ _ hj;simp only [qm, qw, qag, qat] at this
   have hcell : qc ((i % 128).toNat * 2) ((bL encP blk).getD idx[(i / 128).toNat].toNat []) = encP (F i) ++ (qc ((i % 128).toNat + 1) (blk[idx[(i / 128).toNat].toNat]).1).flatMap encP := by
    rw [hg2]; unfold cells; rw [this, he]
   refine ⟨cS oJ (by omega) (by omega), idx[(i / 128).toNat], by rw [hg]; rfl, cS (EP.cells_len) g0 (by omega), by rw [hm]; omega, ?_⟩;rw [hm, hcell];exact ⟨(F i).1, rfl, (F i).2, rfl, rfl⟩
def cP (b : aV (Int × Int)) : List PV := cells encP b
def kvP (k : Int) : PV := .int .i64 k
def gV (kn : List (aV (Int × Int) × Int)) : List (PV × PV) := cY (fun b => .agg (cP b)) kvP kn
def iX (ev : List ((Int × Int) × Int)) : List (PV × PV) := cY (fun v => .agg (encP v)) kvP ev
def nG (sz : Int) (kn : List (aV (Int × Int) × Int)) (ev : List ((Int × Int) × Int)) (ixm ixn bkm bkn : Bool) (idx : List Int) (blk : List (aV (Int × Int))) : Hp :=
 [.box [.box 1 0, .mp 2, .mp 3], .box [.pv (.int .i64 sz), .own 4, .own 5], .mp (gV kn), .mp (iX ev), .sl (3, 1) ixm ixn (bG idx), .sl (131, 256) bkm bkn (bL encP blk)]
theorem oO (b : aV (Int × Int)) : (cP b).length = 256 := EP.cells_len b
theorem zc2 (b : aV (Int × Int)) : qi 256 (qc 0 (cP b)) = cP b := by rw [qp, qf (by rw [oO]; omega)]
theorem zld : fM qa 131 = true := by kernel_rfl
theorem zle : g9 qa 131 = (qb 128 [21, 21]).flatten := by kernel_rfl
theorem zc3 : fM qa 81 = true := by kernel_rfl
theorem zc4 : g9 qa 81 = [21, 21] := by kernel_rfl
theorem zv5 (b : aV (Int × Int)) (kn : List (aV (Int × Int) × Int)) : cR (.agg (cP b)) (gV kn) = (cN b kn).map kvP := nY (ek := fun b => PV.agg (cP b)) (ev := kvP) EP.blkEq b kn
theorem zv6 (b : aV (Int × Int)) (k : Int) (kn : List (aV (Int × Int) × Int)) : bV (.agg (cP b)) (kvP k) (gV kn) = gV (cV b k kn) := kV (ek := fun b => PV.agg (cP b)) (ev := kvP) EP.blkEq b k kn
theorem zlf (b : aV (Int × Int)) : bI qa 131 (.agg (cP b)) = true := EP.blkOk zld zle b
theorem zlg (kn : List (aV (Int × Int) × Int)) : c9 qa 131 (gV kn) := EP.blksOk zld zle kn
theorem zlh {sz : Int} {F : Int -> (Int × Int)} {idx : List Int} {blk : List (aV (Int × Int))} {kn : List (aV (Int × Int) × Int)} {ev : List ((Int × Int) × Int)} (hk : TInv sz F idx blk kn ev) (hb : blk.length <= 10000000) (ixn bkn : Bool) (b : aV (Int × Int)) :
 ACall qa 68 [.box 0 0, .pv (.agg (cP b))] (nG sz kn ev false ixn false bkn idx blk) fun r h' => ∃ k kn' bn' blk', r = .pv (kvP k) /\ h' = nG sz kn' ev false ixn true bn' idx blk' /\ TInv sz F idx blk' kn' ev /\ 0 <= k /\ blk'[k.toNat]? = some b /\ blk'.length <= blk.length + 1 := by
 refine ACall.mark 1000 [5] (R := fun r h' => ∃ k kn' bm' bn' blk', r = .pv (kvP k) /\ h' = nG sz kn' ev false ixn bm' bn' idx blk' /\ TInv sz F idx blk' kn' ev /\ 0 <= k /\ blk'[k.toNat]? = some b /\ blk'.length <= blk.length + 1) ?_ ?_
 ·refine zv1 _ _ _ _ _ _ _ _ _ _ ?_;unfold zk9;rw [zc2, zv5];have h128 : 256 <= (qc 0 (cP b)).length := by rw [qp, oO]; omega
  refine ⟨h128, zlg kn, zlf b, fun v hv => ?_, fun hv => ?_⟩
  ·cases hg : cN b kn with
   | none => rw [hg] at hv; cases hv
   | some k =>
     rw [hg] at hv; cases hv;obtain ⟨k0, k1⟩ := hk.kn_ok b k hg;exact ⟨k, rfl, k, kn, false, bkn, blk, rfl, rfl, hk, k0, k1, by omega⟩
  ·have hsz : aU [cP b] 256 /\ ((bL encP blk).length + 1) * 1024 <= 140737488355328 := ⟨fun e he => by simp at he; subst he; exact oO b, by rw [mD]; omega⟩
   have fin : ∃ k kn' bm' bn' blk', LV.pv (.int .i64 ((bL encP blk).length : Int)) = .pv (kvP k) /\
    [Ob.box [.box 1 0, .mp 2, .mp 3], .box [.pv (.int .i64 sz), .own 4, .own 5], .mp (bV (.agg (cP b)) (.int .i64 ((bL encP blk).length : Int)) (gV kn)), .mp (iX ev), .sl (3, 1) false ixn (bG idx), .sl (131, 256) true (bkn && false) (bL encP blk ++ [cP b])] = nG sz kn' ev false ixn bm' bn' idx blk' /\ TInv sz F idx blk' kn' ev /\ 0 <= k /\ blk'[k.toNat]? = some b /\ blk'.length <= blk.length + 1 := by
    refine ⟨blk.length, cV b (blk.length : Int) kn, true, bkn && false, blk ++ [b], by rw [mD]; rfl, ?_, hk.place b, by omega, by simp, by simp⟩;have := zv6 b (blk.length : Int) kn;unfold kvP at this;rw [mD, this];simp [nG, bL, cP]
   exact ⟨h128, zlg kn, zlf b, h128, ⟨oO b, hsz, fin⟩, oO b, ⟨hsz, fin⟩, hsz, fin⟩
 ·rintro r h' ⟨k, kn', bm', bn', blk', rfl, rfl, h1, h2, h3, h4⟩;exact ⟨k, kn', bn', blk', rfl, rfl, h1, h2, h3, h4⟩
theorem zv7 (v : (Int × Int)) (ev : List ((Int × Int) × Int)) : cR (.agg (encP v)) (iX ev) = (cN v ev).map kvP := nY (ek := fun v => PV.agg (encP v)) (ev := kvP) EP.valEq v ev
theorem zv8 (v : (Int × Int)) (k : Int) (ev : List ((Int × Int) × Int)) : bV (.agg (encP v)) (kvP k) (iX ev) = iX (cV v k ev) := kV (ek := fun v => PV.agg (encP v)) (ev := kvP) EP.valEq v k ev
theorem zc5 (v : (Int × Int)) : bI qa 81 (.agg (encP v)) = true := EP.valOk zc3 zc4 v
theorem zli (ev : List ((Int × Int) × Int)) : c9 qa 81 (iX ev) := EP.valsOk zc3 zc4 ev
theorem zc6 (l : List (Int × Int)) (j : Nat) (hj : j < l.length) (v : (Int × Int)) : aW (l.flatMap encP) (0 + j * 2) (encP v) = (l.set j v).flatMap encP := by
 have := EP.put l j hj v;simp only [qm, qw, qag, qat] at this ⊢;exact this
theorem zc7 (l : List (Int × Int)) : (l.flatMap encP).length = l.length * 2 := EP.flen l
theorem zlj : qb 256 (PV.int .i32 0) = (qb 128 ((0, 0) : (Int × Int))).flatMap encP := by rfl
theorem zv9 {l : List (Int × Int)} {v : (Int × Int)} (hl : l.length = 128) (h : ∀ q, q < 128 -> l[q]? = some v) : l = qb 128 v := by
 refine qav fun q => ?_;rcases qbl q 128 with hq | hq
 ·rw [h q hq, qaa, if_pos hq]
 ·rw [qab (by omega), qab (by simp; omega)]
theorem zwa {sz : Int} {F : Int -> (Int × Int)} {idx : List Int} {blk : List (aV (Int × Int))} {kn : List (aV (Int × Int) × Int)} {ev : List ((Int × Int) × Int)} (hk : TInv sz F idx blk kn ev) (hb : blk.length <= 10000000) (ixn bkn : Bool) (v : (Int × Int)) :
 ACall qa 67 [.box 0 0, .pv (.agg (encP v))] (nG sz kn ev false ixn false bkn idx blk) fun r h' => ∃ k kn' ev' bn' blk', r = .pv (kvP k) /\ h' = nG sz kn' ev' false ixn true bn' idx blk' /\ TInv sz F idx blk' kn' ev' /\ 0 <= k /\ blk'[k.toNat]? = some (rep v) /\ blk'.length <= blk.length + 1 := by
 refine ACall.mark 1000 [5] (R := fun r h' => ∃ k kn' ev' bm' bn' blk', r = .pv (kvP k) /\ h' = nG sz kn' ev' false ixn bm' bn' idx blk' /\ TInv sz F idx blk' kn' ev' /\ 0 <= k /\ blk'[k.toNat]? = some (rep v) /\ blk'.length <= blk.length + 1) ?_ ?_
 ·refine zv2 _ _ _ _ _ _ _ _ _ v.1 v.2 (fun x m2 m3 c => 0 <= x /\ x <= 128 /\ m2 = gV kn /\ m3 = iX ev /\ ∃ l : List (Int × Int), l.length = 128 /\ c = l.flatMap encP /\ ∀ q, q < x.toNat -> l[q]? = some v) (fun x _ _ _ => 128 - x.toNat) ?_;unfold zla;rw [show [.int .i32 v.1, .int .i32 v.2] = encP v from rfl, zv7];refine ⟨zli ev, zc5 v, fun u hu => ?_, fun hu => ⟨⟨rfl, qe _, by omega, rfl, rfl, qb 128 (0, 0), by simp, zlj, fun q hq => by simp at hq⟩, ?_⟩⟩
  ·cases hg : cN v ev with
   | none => rw [hg] at hu; cases hu
   | some k =>
     rw [hg] at hu; cases hu;obtain ⟨k0, k1⟩ := hk.ev_ok v k hg;exact ⟨k, rfl, k, kn, ev, false, bkn, blk, rfl, rfl, hk, k0, k1, by omega⟩
  ·rintro x _ _ _ ⟨x0, x1, rfl, rfl, l, hl, rfl, hq⟩;refine aC (fun hc => ?_) (fun hc => ?_)
   ·simp only [aB] at hc;have hw : i64.wrap (x + 1) = x + 1 := wz;have hn : (x + 1).toNat = x.toNat + 1 := by omega
    rw [zc6 l x.toNat (by omega) v, hw, zc7];refine ⟨⟨x0, hc⟩, ⟨rfl, by omega⟩, rfl, ⟨by omega, by omega, rfl, rfl, l.set x.toNat v, by simpa using hl, rfl, fun q hq' => ?_⟩, by dsimp only; omega⟩
    rw [hn] at hq';rw [qae];by_cases e : x.toNat = q
    ·rw [if_pos e, if_pos (by omega)]
    ·rw [if_neg e]; exact hq q (by omega)
   ·simp only [aB] at hc;have hx : x = 128 := by omega
    subst hx;have hrep := zv9 hl hq;subst hrep;have hcI : (qb 128 v).flatMap encP = cP (rep v) := rfl;rw [hcI, zc2];refine ⟨by rw [qp, oO]; omega, ?_⟩;refine (zlh hk hb ixn bkn (rep v)).mono ?_;rintro _ _ ⟨k, kn', bn', blk', rfl, rfl, h1, h2, h3, h4⟩;refine ⟨(k, gV kn', bn', bL encP blk'), ⟨rfl, rfl⟩, ⟨trivial, ⟨rfl, rfl, rfl⟩, trivial, trivial, trivial, trivial, trivial⟩, zli ev, zc5 v, ?_⟩;have := zv8 v k ev;unfold kvP at this;simp only [this];exact ⟨k, kn', cV v k ev, _, bn', blk', rfl, rfl, h1.even h2 h3, h2, h3, h4⟩
 ·rintro r h' ⟨k, kn', ev', bm', bn', blk', rfl, rfl, h1, h2, h3, h4⟩;exact ⟨k, kn', ev', bn', blk', rfl, rfl, h1, h2, h3, h4⟩
theorem zwb {v : (Int × Int)} {j : Nat} {u : (Int × Int)} (h : (Trie.rep v).1[j]? = some u) : u = v /\ j < 128 := by
 simp only [Trie.rep, qaa] at h;split at h
 ·rename_i hj; cases h; exact ⟨rfl, hj⟩
 ·cases h
theorem p83 (sz : Int) (z : (Int × Int)) (n f : Bool) (l : List (Pc (Int × Int))) (hl : l.length < 4611686018427387904) (hok : ∀ p ∈ l, -9223372036854775808 <= p.fr - 1 /\ p.fr - 1 <= 9223372036854775807) (hs1 : 1 <= sz) (hs2 : sz <= 1114112) :
 PCall qa 42 [.int .i64 sz, .agg (encP z), .sl n f (mG l)] fun v => TrieP sz (gM l z) v := by
 have hF := fun i => sW l z i (sz - 1);generalize hFF : gM l z = F at *
 refine zv3 _ z.1 z.2 _ _ _
  (fun x10 x11 va vb _ s2 _ s3 m4 m5 => ∃ idx blk kn ev, s2 = bG idx /\ s3 = bL encP blk /\ m4 = gV kn /\ m5 = iX ev /\ TInv sz F idx blk kn ev /\ x11 = 128 * idx.length /\ blk.length <= idx.length /\ x11 < sz + 128 /\ (∀ j, x11 <= j -> j <= x10 -> F j = (va, vb)) /\ x10 <= sz - 1)
  (fun _ x11 _ _ _ _ _ _ _ _ => (sz + 128 - x11).toNat)
  (fun _ y11 _ _ _ _ _ _ _ _ _ x10 x11 x13 va vb _ s2 _ s3 m4 m5 => ∃ idx blk kn ev, s2 = bG idx /\ s3 = bL encP blk /\ m4 = gV kn /\ m5 = iX ev /\ TInv sz F idx blk kn ev /\ x11 = 128 * idx.length /\ x11 < sz + 128 /\ (∀ j, x11 <= j -> j <= x10 -> F j = (va, vb)) /\ x10 <= sz - 1 /\ 0 <= x13 /\ blk[x13.toNat]? = some (rep (va, vb)) /\
   ((x11 = y11 /\ x11 < sz /\ (x11 + 127 <= x10 ∨ sz - 1 <= x10) /\ blk.length <= idx.length + 1) ∨ (y11 + 128 <= x11 /\ blk.length <= idx.length)))
  (fun _ x11 _ _ _ _ _ _ _ _ _ => (sz + 128 - x11).toNat)
  (fun _ y11 _ _ _ _ _ _ _ _ _ _ x10 x11 x va vb c _ s3 _ s4 m5 m6 => ∃ idx blk kn ev, s3 = bG idx /\ s4 = bL encP blk /\ m5 = gV kn /\ m6 = iX ev /\ TInv sz F idx blk kn ev /\ x11 = 128 * idx.length /\ blk.length <= idx.length /\ x11 = y11 /\ x11 < sz /\ 0 <= x /\ x <= 128 /\ x10 <= sz - 1 /\ (∀ j, x11 + x <= j -> j <= x10 -> F j = (va, vb)) /\
   ∃ b : List (Int × Int), b.length = 128 /\ c = b.flatMap encP /\ ∀ (q : Nat) u, b[q]? = some u -> q < x.toNat -> x11 + q < sz -> u = F (x11 + q))
  (fun _ _ x _ _ _ _ _ _ _ _ _ => (128 - x).toNat) ?_
 unfold zlb;have hw1 : i64.wrap (sz - 1) = sz - 1 := wz;rw [hw1];refine bR (by simp; omega) ?_;refine (zc1 n f l z 0 (sz - 1) hl hok).mono ?_;rintro _ rfl;obtain ⟨_, f2, f3, f4⟩ := hF 0 (by omega);refine ⟨_, rfl, rfl, _, rfl, _, rfl, rfl, _, rfl, _, rfl, _, rfl, _, rfl, ⟨rfl, [], [], [], [], rfl, rfl, rfl, rfl, TInv.nil, rfl, qz _, by omega, f4, f3⟩, ?_⟩;clear f2 f3 f4;rintro u0 x v0a v0b _ _ _ _ _ _ ⟨idx, blk, kn, ev, rfl, rfl, rfl, rfl, hk, hx, hb, hx2, hv0, hu0⟩;refine aC (fun hc => ?_) (fun hc => ?_)
 ·simp only [aB] at hc;have hw2 : i64.wrap (x + 128) = x + 128 := wz;rw [hw2]
  have hmin : ∀ a : Int, i64.wrap ((if sz < a + 128 then sz else a + 128) - 1) = (if sz < a + 128 then sz else a + 128) - 1 ∨ ¬ (0 <= a /\ a <= 1114112) := fun a => by
   by_cases ha : 0 <= a /\ a <= 1114112
   ·left; split <;> exact wz
   ·exact .inr ha
  have hmx := (hmin x).resolve_right (by omega);rw [hmx];refine aC (fun hgt => ?ga) (fun hgt => ?gb)
  case' ga =>
   refine (zc1 n f l z x (sz - 1) hl hok).mono ?_;rintro _ rfl;obtain ⟨_, hux, hu, hv⟩ := hF x (by omega);refine ⟨_, rfl, rfl, _, rfl, _, rfl, rfl, _, rfl, _, rfl, _, rfl, _, rfl, ?_⟩
   revert hv hu
   generalize (findL l z x (sz - 1)).1 = v;generalize (findL l z x (sz - 1)).2 = u;clear hv0 hu0 hux;intro hu hv
  case' gb =>
   obtain ⟨v, rfl, rfl⟩ : ∃ v : (Int × Int), v.1 = v0a /\ v.2 = v0b := ⟨(v0a, v0b), rfl, rfl⟩
   revert hv0 hu0 hgt
   generalize u0 = u;intro hu hgt hv
  all_goals
   clear hgt;refine aC (fun hc2 => ?_) (fun hc2 => ?_)
   ·simp only [aB, ge_iff_le] at hc2;have hc3 : x + 127 <= u ∨ sz - 1 <= u := by split at hc2 <;> omega
    refine (zwa hk (by omega) _ _ v).mono ?_;rintro _ _ ⟨k, kn', ev', bn', blk', rfl, rfl, g1, g2, g3, g4⟩;refine ⟨(k, gV kn', iX ev', bn', bL encP blk'), ⟨rfl, rfl⟩, ⟨trivial, ⟨rfl, rfl, rfl⟩, trivial, trivial, trivial, trivial, trivial⟩, ⟨rfl, idx, blk', kn', ev', rfl, rfl, rfl, rfl, g1, hx, hx2, hv, hu, g2, g3, .inl ⟨rfl, hc, hc3, by omega⟩⟩, ?_⟩;rintro t y k' wa wb _ _ _ _ _ _ ⟨idx2, blk2, kn2, ev2, rfl, rfl, rfl, rfl, hk2, hy, hy2, hw, ht, hk0, hkb, hor⟩;have hwy : i64.wrap (y + 128) = y + 128 := wz;rw [hwy, (hmin y).resolve_right (by omega)];refine aC (fun hc4 => ?_) (fun hc4 => ?_)
    ·simp only [qh, aB, ge_iff_le] at hc4;have hc5 : y + 127 <= t ∨ sz - 1 <= t := by have := hc4.2; split at this <;> omega
     refine ⟨⟨fun e he => by simp at he; subst he; rfl, by rw [lE]; omega⟩, rfl, ⟨idx2 ++ [k'], blk2, kn2, ev2, by simp [bG], rfl, rfl, rfl, hk2.push hk0 hkb fun j u' hj hlt => ?_, by simp; omega, by omega, fun j h1 h2 => hw j (by omega) h2, ht, hk0, hkb, .inr ⟨by omega, by simp; omega⟩⟩, by dsimp only; omega⟩;obtain ⟨rfl, hj2⟩ := zwb hj;exact (hw _ (by omega) (by omega)).symm
    ·have hw128 : i64.wrap (y - 128) = y - 128 := wz;have hback : i64.wrap (y - 128 + 128) = y := by rw [wz]; omega
     rw [hw128, hback];simp only [qh, aB, ge_iff_le, not_and] at hc4
     have hor2 : x + 128 <= y /\ blk2.length <= idx2.length := by
      rcases hor with ⟨h1, h2, h3, h4⟩ | h
      ·exfalso;have := hc4 h2;split at this <;> omega
      ·exact h
     exact ⟨rfl, ⟨idx2, blk2, kn2, ev2, rfl, rfl, rfl, rfl, hk2, hy, hor2.2, hy2, hw, ht⟩, by dsimp only; omega⟩
   ·clear hc2;refine ⟨⟨rfl, idx, blk, kn, ev, rfl, rfl, rfl, rfl, hk, hx, hb, rfl, hc, qe _, by omega, hu, fun j h1 h2 => hv j (by omega) h2, qb 128 (0, 0), by simp, zlj, fun q u' _ hq _ => by simp at hq⟩, ?_⟩;rintro t y i wa wb _ _ _ _ _ _ _ ⟨idx2, blk2, kn2, ev2, rfl, rfl, rfl, rfl, hk2, hy, hb2, hyx, hy2, i0, i1, ht, hw, b, hbl, rfl, hbq⟩;obtain ⟨w, rfl, rfl⟩ : ∃ v : (Int × Int), v.1 = wa /\ v.2 = wb := ⟨(wa, wb), rfl, rfl⟩;have hwyi : i64.wrap (y + i) = y + i := wz;have hwi : i64.wrap (i + 1) = i + 1 := wz;have hwy : i64.wrap (y + 128) = y + 128 := wz;rw [hwyi, hwi, hwy]
    have step : ∀ (v' : (Int × Int)) (u' : Int), (∀ j, y + i <= j -> j <= u' -> F j = v') -> u' <= sz - 1 -> (y + i < sz -> F (y + i) = v') -> i < 128 ->
     ∃ idx blk kn ev, bG idx2 = bG idx /\ bL encP blk2 = bL encP blk /\ gV kn2 = gV kn /\ iX ev2 = iX ev /\ TInv sz F idx blk kn ev /\ y = 128 * idx.length /\ blk.length <= idx.length /\ y = x /\ y < sz /\ 0 <= i + 1 /\ i + 1 <= 128 /\ u' <= sz - 1 /\ (∀ j, y + (i + 1) <= j -> j <= u' -> F j = v') /\
      ∃ c : List (Int × Int), c.length = 128 /\ (b.set i.toNat v').flatMap encP = c.flatMap encP /\ ∀ (q : Nat) u, c[q]? = some u -> q < (i + 1).toNat -> y + q < sz -> u = F (y + q) := fun v' u' h1 h2 h3 h4 => by
     refine ⟨idx2, blk2, kn2, ev2, rfl, rfl, rfl, rfl, hk2, hy, hb2, hyx, hy2, by omega, by omega, h2, fun j a1 a2 => h1 j (by omega) a2, b.set i.toNat v', by simpa using hbl, rfl, fun q u hq hq2 hq3 => ?_⟩
     rw [qae] at hq;by_cases e : i.toNat = q
     ·rw [if_pos e, if_pos (by omega)] at hq;cases hq;have e2 : y + (q : Int) = y + i := by omega
      rw [e2];exact (h3 (by omega)).symm
     ·rw [if_neg e] at hq;exact hbq q u hq (by omega) hq3
    refine aC (fun hc5 => ?_) (fun hc5 => ?_)
    ·simp only [aB] at hc5;refine aC (fun hc6 => ?_) (fun hc6 => ?_)
     ·simp only [qh, aB, gt_iff_lt] at hc6;refine (zc1 n f l z (y + i) (sz - 1) hl hok).mono ?_;rintro _ rfl;obtain ⟨q1, q2, q3, q4⟩ := hF (y + i) (by omega);refine ⟨_, rfl, rfl, _, rfl, _, rfl, rfl, _, rfl, _, rfl, _, rfl, _, rfl, ⟨i0, hc5⟩, ⟨rfl, by rw [zc7]; omega⟩, rfl, ?_, by dsimp only; omega⟩;have hput := zc6 b i.toNat (by omega) (findL l z (y + i) (sz - 1)).1;unfold encP at hput ⊢;rw [hput];exact step _ _ q4 q3 (fun _ => q1.symm) hc5
     ·simp only [qh, aB, gt_iff_lt, not_and] at hc6;refine ⟨⟨i0, hc5⟩, ⟨rfl, by rw [zc7]; omega⟩, rfl, ?_, by dsimp only; omega⟩;have hput := zc6 b i.toNat (by omega) w;unfold encP at hput ⊢;rw [hput];exact step _ _ hw ht (fun h => hw _ (qe _) ((qbm t (y + i)).elim (fun h2 => absurd h (hc6 h2)) id)) hc5
    ·simp only [aB] at hc5;have hi : i = 128 := by omega
     subst hi;obtain ⟨B, hB⟩ : ∃ B : aV (Int × Int), B.1 = b := ⟨⟨b, hbl⟩, rfl⟩;subst hB;have hcI : B.1.flatMap encP = cP B := rfl;rw [hcI, zc2];refine ⟨by rw [qp, oO]; omega, (fun h => ⟨h, h⟩) ?_⟩;refine (zlh hk2 (by omega) _ _ B).mono ?_;rintro _ _ ⟨k, kn', bn', blk', rfl, rfl, h1, h2, h3, h4⟩;refine ⟨(k, gV kn', bn', bL encP blk'), ⟨rfl, rfl⟩, ⟨trivial, ⟨rfl, rfl, rfl⟩, trivial, trivial, trivial, trivial, trivial⟩, ⟨fun e he => by simp at he; subst he; rfl, by rw [lE]; omega⟩, rfl, ⟨idx2 ++ [k], blk', kn', ev2, by simp [bG, kvP], rfl, rfl, rfl, h1.push h2 h3 fun j u' hj hlt => ?_, by simp; omega, by simp; omega, by omega, fun j a1 a2 => hw j (by omega) a2, ht⟩, by dsimp only; omega⟩;have hj2 : j < 128 := by have := (List.getElem?_eq_some_iff.1 hj).1; simp only [hbl] at this; exact this
     rw [<- hy];exact hbq j u' hj (by omega) (by omega)
 ·simp only [aB] at hc;exact ⟨_, _, _, _, idx, blk, rfl, by omega, hk.idx_ok⟩
end Go.Eng
namespace Go.Eng
open Go Go.Proofs Go.Eng.Rows Go.Eng.Trie
theorem TrieI.congr {sz : Int} {F G : Int -> Int} {v : PV} (h : TrieI sz F v) (hFG : ∀ i, 0 <= i -> i < sz -> F i = G i) : TrieI sz G v := by
 obtain ⟨n, f, n2, f2, idx, blk, rfl, h1, h2⟩ := h;refine ⟨n, f, n2, f2, idx, blk, rfl, h1, fun q k hq => ?_⟩;obtain ⟨k0, b, hb, hv⟩ := h2 q k hq;exact ⟨k0, b, hb, fun j u hj hlt => by rw [<- hFG _ (by omega) hlt]; exact hv j u hj hlt⟩
theorem TrieP.congr {sz : Int} {F G : Int -> Int × Int} {v : PV} (h : TrieP sz F v) (hFG : ∀ i, 0 <= i -> i < sz -> F i = G i) : TrieP sz G v := by
 obtain ⟨n, f, n2, f2, idx, blk, rfl, h1, h2⟩ := h;refine ⟨n, f, n2, f2, idx, blk, rfl, h1, fun q k hq => ?_⟩;obtain ⟨k0, b, hb, hv⟩ := h2 q k hq;exact ⟨k0, b, hb, fun j u hj hlt => by rw [<- hFG _ (by omega) hlt]; exact hv j u hj hlt⟩
theorem TrieF.congr {sz : Int} {F G : Int -> Fl} {v : PV} (h : TrieF sz F v) (hFG : ∀ i, 0 <= i -> i < sz -> F i = G i) : TrieF sz G v := by
 obtain ⟨n, f, n2, f2, idx, blk, rfl, h1, h2⟩ := h;refine ⟨n, f, n2, f2, idx, blk, rfl, h1, fun q k hq => ?_⟩;obtain ⟨k0, b, hb, hv⟩ := h2 q k hq;exact ⟨k0, b, hb, fun j u hj hlt => by rw [<- hFG _ (by omega) hlt]; exact hv j u hj hlt⟩
def toI (s : Sp) : Pc Int := ⟨s.fr, s.to, s.a⟩
theorem zc8 (n f : Bool) (rows : List Row) (k : Int) (hl : rows.length < 1000000) : PCall qa 39 [.sl n f (bH rows), .int .i64 k] fun v => TrieI 1114112 (aF rows k) v := by
 have hg := oC k rows;have hlen := hg.len;refine zt4 _ _ _ _ (fun _ _ s10 x11 x12 m s => s10 = aN (aJ k rows) /\ x11 = (aJ k rows).length /\ 0 <= x12 /\ x12 <= x11 /\ s = mE (((aJ k rows).take x12.toNat).map toI)) (fun _ _ _ x11 x12 _ _ => (x11 - x12).toNat) ?_;unfold zji;refine (p29 _ _ rows k (by omega)).mono ?_;rintro _ ⟨n1, f1, rfl⟩;refine ⟨_, _, _, rfl, ⟨rfl, rfl, by rw [fX], qe _, by rw [fX]; omega, rfl⟩, ?_⟩;rintro _ _ _ x11 i m _ ⟨rfl, rfl, i0, i1, rfl⟩;refine aC (fun hc => ?_) (fun hc => ?_)
 ·simp only [aB] at hc;have hi : i.toNat < (aJ k rows).length := by omega
  have hw : i64.wrap (i + 1) = i + 1 := wz;have hn : (i + 1).toNat = i.toNat + 1 := by omega
  have hgd : (aN (aJ k rows)).getD i.toNat [] = dX (aJ k rows)[i.toNat] := c7 hi;have hix : aD (aN (aJ k rows)) i 4 := cS jT i0 (by omega);refine ⟨hix, (aJ k rows)[i.toNat].fr, by rw [hgd]; rfl, (aJ k rows)[i.toNat].to, by rw [hgd]; rfl, (aJ k rows)[i.toNat].a, by rw [hgd]; rfl, (aJ k rows)[i.toNat].b, by rw [hgd]; rfl, ⟨fun e he => by simp at he; subst he; rfl, by simp [mE]; omega⟩, rfl, ?_⟩;rw [hw];refine ⟨⟨rfl, rfl, by omega, by omega, ?_⟩, by dsimp only; omega⟩;rw [hn, dI hi, qad];unfold mE;rw [qad];rfl
 ·simp only [aB] at hc;rw [qf (by omega)];refine (zvk 1114112 0 _ _ _ (by simp; omega) (fun p hp => ?_) (by omega) (by omega)).mono fun v hv => hv.congr fun i h0 h1 => zr6 rows k i;obtain ⟨s, hs, rfl⟩ := List.mem_map.1 hp;have := hg.2 s hs;exact ⟨by simp only [toI]; omega, by simp only [toI]; omega⟩

def wU (ll : List (Bool × Bool × List Sp)) : List (List PV) := ll.map fun x => [.sl x.1 x.2.1 (aN x.2.2)]
abbrev wV (M : List (Int × Bool)) : List (PV × PV) := cY (fun n => .int .i64 n) (fun b => .bool b) M
def jW (ll : List (Bool × Bool × List Sp)) : List Sp := (ll.map (·.2.2)).flatten
def qS (l : List Sp) : List Int := l.flatMap fun s => [s.fr, s.to + 1]
theorem zwc (l : List Sp) (s : Sp) (x : Int) : x ∈ qS (l ++ [s]) ↔ x ∈ qS l ∨ x = s.fr ∨ x = s.to + 1 := by
 simp [qS]
def JM (done : List Sp) (m : List (PV × PV)) : Prop := ∃ M : List (Int × Bool), m = wV M /\ (M.map (·.1)).Nodup /\ M.length <= 1 + 2 * done.length /\ ∀ x, x ∈ M.map (·.1) ↔ x = 0 ∨ x ∈ qS done
theorem zwd (n f : Bool) (ll : List (Bool × Bool × List Sp)) (hl : ll.length < 1000) (hg : ∀ x ∈ ll, Rows.Good x.2.2) :
 PCall qa 57 [.sl n f (wU ll)] fun v => ∃ n f t, v = .sl n f (bG t) /\ t.length < 4000000000 /\ ∀ x, x ∈ t ↔ mV (ll.map (·.2.2)) x := by
 have hlen : ∀ k, (jW (ll.take k)).length <= 1114112 * k := fun k => by
  induction k with
  | zero => simp [jW]
  | succ k ih =>
    by_cases hk : k < ll.length
    ·rw [dI hk];have := (hg _ (qj hk)).len;simp only [jW, qad, qbi, qd, qby, qbn, qau, qbu, qai] at ih ⊢;omega
    ·rw [qf (by omega)];rw [qf (by omega)] at ih;omega
 refine zt5 _ _ _ (fun i m => 0 <= i /\ i <= ll.length /\ JM (jW (ll.take i.toNat)) m) (fun i _ => ll.length - i.toNat)
  (fun i _ _ _ _ _ _ i' n18 f18 s18 x19 k m => i' = i /\ 0 <= i /\ ∃ hi : i.toNat < ll.length, s18 = aN ll[i.toNat].2.2 /\ x19 = ll[i.toNat].2.2.length /\ 0 <= k /\ k <= x19 /\ JM (jW (ll.take i.toNat) ++ ll[i.toNat].2.2.take k.toNat) m) (fun _ _ _ _ x19 k _ => (x19 - k).toNat)
  (fun m s r _ => ∃ (A : List Int) (R : List (Int × Bool)) (K : List Int), s = bG A /\ r = wV R /\ (A ++ R.map (·.1)).Perm K /\ K.length < 4000000000 /\ (∀ x, x ∈ K ↔ mV (ll.map (·.2.2)) x)) (fun _ _ r _ => r.length) ?_
 unfold zjj;refine ⟨fun kv hkv => (by cases hkv), ⟨rfl, qe _, by omega, [(0, true)], rfl, by simp, by simp [jW], fun x => by simp [jW, qS]⟩, ?_⟩;rintro i _ ⟨i0, i1, M, rfl, hnd, hml, hmem⟩;have hlc : (wU ll).length = ll.length := by simp [wU]
 refine aC (fun hc => ?_) (fun hc => ?_)
 ·simp only [aB, hlc] at hc;have hi : i.toNat < ll.length := by omega
  have hw : i64.wrap (i + 1) = i + 1 := wz;have hn : (i + 1).toNat = i.toNat + 1 := by omega
  have hgd : (wU ll).getD i.toNat [] = [.sl ll[i.toNat].1 ll[i.toNat].2.1 (aN ll[i.toNat].2.2)] := c7 hi;have hgi := hg _ (qj hi);have hgl := hgi.len;have hsl := hlen i.toNat;refine ⟨cS (enc := fun x : Bool × Bool × List Sp => [PV.sl x.1 x.2.1 (aN x.2.2)]) (fun _ => rfl) i0 hc, _, _, _, by rw [hgd]; rfl, ⟨rfl, rfl, i0, hi, rfl, by rw [fX], qe _, by rw [fX]; omega, M, rfl, hnd, by simpa using hml, by simpa using hmem⟩, ?_⟩
  rintro i' n18 f18 _ _ k _ ⟨rfl, _, _, rfl, rfl, k0, k1, M, rfl, hnd, hml, hmem⟩;rw [qd, ql] at hml;refine aC (fun hc2 => ?_) (fun hc2 => ?_)
  ·simp only [aB] at hc2;have hk : k.toNat < ll[i'.toNat].2.2.length := by omega
   have hwk : i64.wrap (k + 1) = k + 1 := wz;have hnk : (k + 1).toNat = k.toNat + 1 := by omega
   have hgk : (aN ll[i'.toNat].2.2).getD k.toNat [] = dX ll[i'.toNat].2.2[k.toNat] := c7 hk;have hix : aD (aN ll[i'.toNat].2.2) k 4 := cS jT k0 (by omega);have hr := hgi.2 _ (qj hk);have hts : ll[i'.toNat].2.2.take (k.toNat + 1) = ll[i'.toNat].2.2.take k.toNat ++ [ll[i'.toNat].2.2[k.toNat]] := dI hk;generalize ll[i'.toNat].2.2[k.toNat] = s at *;have hwt : i64.wrap (s.to + 1) = s.to + 1 := wz;have set1 := kV (ek := fun n => PV.int .i64 n) (ev := fun b => PV.bool b) (sQ .i64) s.fr true M;have set2 := kV (ek := fun n => PV.int .i64 n) (ev := fun b => PV.bool b) (sQ .i64) (s.to + 1) true (cV s.fr true M)
   have fin : (JM (jW (ll.take i'.toNat) ++ ll[i'.toNat].2.2.take (k.toNat + 1)) (bV (.int .i64 (s.to + 1)) (.bool true) (bV (.int .i64 s.fr) (.bool true) (wV M)))) := by
    refine ⟨cV (s.to + 1) true (cV s.fr true M), by rw [set1, set2], zho (zho hnd), ?_, fun x => ?_⟩
    ·have e1 := zhq s.fr true M;have e2 := zhq (s.to + 1) true (cV s.fr true M);rw [hts, qd, qd, ql];simp only [qm, qw];omega
    ·rw [zhp, zhp, hmem, hts, <- qg, zwc];constructor
     ·rintro ((h | h) | h)
      ·exact h.elim .inl fun h => .inr (.inl h)
      ·exact .inr (.inr (.inl h))
      ·exact .inr (.inr (.inr h))
     ·rintro (h | h | h | h)
      ·exact .inl (.inl (.inl h))
      ·exact .inl (.inl (.inr h))
      ·exact .inl (.inr h)
      ·exact .inr h
   have hk1 : l6 .i64 (bV (.int .i64 s.fr) (.bool true) (wV M)) := by rw [set1]; exact oB _
   refine ⟨hix, s.fr, by rw [hgk]; rfl, s.to, by rw [hgk]; rfl, s.a, by rw [hgk]; rfl, s.b, by rw [hgk]; rfl, ?_⟩;rw [hwt, hwk];have hmu : ((ll[i'.toNat].2.2.length : Int) - (k + 1)).toNat < ((ll[i'.toNat].2.2.length : Int) - k).toNat := by omega
   rw [<- hnk] at fin;refine ⟨⟨?_, ?_⟩, ?_⟩ <;> exact ⟨oB M, hk1, rfl, ⟨rfl, i0, hi, rfl, rfl, by omega, by omega, fin⟩, hmu⟩
  ·simp only [aB] at hc2;have htl : ll[i'.toNat].2.2.take k.toNat = ll[i'.toNat].2.2 := qf (by omega);rw [htl] at hmem
   have hso : jW (ll.take (i' + 1).toNat) = jW (ll.take i'.toNat) ++ ll[i'.toNat].2.2 := by
    rw [hn, dI hi]; simp only [jW, qad, qby, qbn, qbi, qau, qbu, qai]
   rw [hw];refine ⟨rfl, ⟨by omega, by omega, M, rfl, hnd, ?_, fun x => ?_⟩, by dsimp only; omega⟩
   ·rw [hso, qd]; omega
   ·rw [hmem, hso]
 ·simp only [aB, hlc] at hc;rw [qf (by omega)] at hmem hml
  have hM : M.length < 4000000000 := by
   have := hlen ll.length;rw [qf (qz _)] at this;omega
  refine ⟨⟨rfl, [], M, M.map (·.1), rfl, rfl, List.Perm.refl _, by simpa using hM, fun x => ?_⟩, ?_⟩
  ·rw [hmem];unfold mV qS jW;simp only [List.mem_flatMap, List.mem_flatten, qao, qay, or_false];constructor
   ·rintro (h | ⟨s, ⟨l, hl, hs⟩, h⟩)
    ·exact .inl h
    ·exact .inr ⟨l, hl, s, hs, h⟩
   ·rintro (h | ⟨l, hl, s, hs, h⟩)
    ·exact .inl h
    ·exact .inr ⟨s, ⟨l, hl, hs⟩, h⟩
  ·rintro m _ _ q ⟨A, R, K, rfl, rfl, hp, hKl, hKm⟩;have hlen2 := hp.length_eq;simp only [qd, qaz] at hlen2;refine ⟨fun hr => ?_, fun j k v hj => ?_⟩
   ·have hR : R = [] := by cases R with | nil => rfl | cons => simp [cY] at hr
    subst hR;simp only [qbn, qai] at hp;simp only [qw] at hlen2;exact ⟨_, _, A, rfl, by omega, fun x => by rw [hp.mem_iff, hKm]⟩
   ·obtain ⟨hjl, rfl, rfl, hpe, he⟩ := zro hj;refine ⟨R[j].1, rfl, R[j].2, rfl, _, rfl, _, rfl, ⟨fun e he => by simp at he; subst he; rfl, by rw [lE]; omega⟩, rfl, ⟨A ++ [R[j].1], R.eraseIdx j, K, by simp [bG], he, ?_, hKl, hKm⟩, ?_⟩
    ·refine List.Perm.trans ?_ hp;rw [qg];refine List.Perm.append_left A ?_;simpa using hpe.map (·.1)
    ·dsimp only;rw [he, zhn, zhn, List.length_eraseIdx_of_lt hjl]; omega
theorem qT {i : Int} (h0 : 0 <= i) (h1 : i < 4) : i = 0 ∨ i = 1 ∨ i = 2 ∨ i = 3 := by omega
def dK (l0 l1 l2 l3 : List Sp) (i : Nat) : List Sp := [l0, l1, l2, l3].getD i []
theorem at4 (n0 f0 n1 f1 n2 f2 n3 f3 : Bool) (l0 l1 l2 l3 : List Sp) {i : Int} (h0 : 0 <= i) (h1 : i < 4) : ∃ n f, [PV.sl n0 f0 (aN l0), .sl n1 f1 (aN l1), .sl n2 f2 (aN l2), .sl n3 f3 (aN l3)].getD i.toNat .unit = .sl n f (aN (dK l0 l1 l2 l3 i.toNat)) := by
 rcases qT h0 h1 with rfl | rfl | rfl | rfl
 ·exact ⟨n0, f0, rfl⟩
 ·exact ⟨n1, f1, rfl⟩
 ·exact ⟨n2, f2, rfl⟩
 ·exact ⟨n3, f3, rfl⟩
theorem zwe (l0 l1 l2 l3 : List Sp) {i : Int} (h0 : 0 <= i) (h1 : i < 4) : ([l0, l1, l2, l3].take (i + 1).toNat) = ([l0, l1, l2, l3].take i.toNat) ++ [dK l0 l1 l2 l3 i.toNat] := by
 rcases qT h0 h1 with rfl | rfl | rfl | rfl <;> rfl
theorem zwf (l0 l1 l2 l3 : List Sp) {i : Int} (h0 : 0 <= i) (h1 : i < 4) : dK l0 l1 l2 l3 i.toNat ∈ [l0, l1, l2, l3] := by
 rcases qT h0 h1 with rfl | rfl | rfl | rfl <;> simp [dK]
theorem zwg (a last : Int) (n0 f0 n1 f1 n2 f2 n3 f3 : Bool) (l0 l1 l2 l3 : List Sp) (hg : ∀ l ∈ [l0, l1, l2, l3], Rows.Good l) :
 PCall qa 59 [.int .i64 a, .int .i64 last, .agg [.sl n0 f0 (aN l0), .sl n1 f1 (aN l1), .sl n2 f2 (aN l2), .sl n3 f3 (aN l3)]] fun v => v = .int .i64 (eI a last [l0, l1, l2, l3].flatten) := by
 refine zt6 _ _ _ _ _ _ _ _ _ _ _ _ _ _
  (fun x _ _ s0 _ _ s1 _ _ s2 _ _ s3 i => s0 = aN l0 /\ s1 = aN l1 /\ s2 = aN l2 /\ s3 = aN l3 /\ 0 <= i /\ i <= 4 /\ x = eI a last ([l0, l1, l2, l3].take i.toNat).flatten) (fun _ _ _ _ _ _ _ _ _ _ _ _ _ i => (4 - i).toNat)
  (fun _ _ _ _ _ _ _ _ _ _ _ _ _ i _ _ _ _ _ x _ _ s0 _ _ s1 _ _ s2 _ _ s3 i' _ _ s15 x16 k => s0 = aN l0 /\ s1 = aN l1 /\ s2 = aN l2 /\ s3 = aN l3 /\ i = i' /\ s15 = aN (dK l0 l1 l2 l3 i.toNat) /\ x16 = (dK l0 l1 l2 l3 i.toNat).length /\ 0 <= k /\ k <= x16 /\
   x = eI a last (([l0, l1, l2, l3].take i.toNat).flatten ++ (dK l0 l1 l2 l3 i.toNat).take k.toNat)) (fun _ _ _ _ _ _ _ _ _ _ _ _ _ _ _ _ _ x16 k => (x16 - k).toNat) ?_
 unfold zjk;refine ⟨_, _, _, rfl, _, _, _, rfl, _, _, _, rfl, _, _, _, rfl, ⟨rfl, rfl, rfl, rfl, rfl, qe _, by omega, rfl⟩, ?_⟩;rintro _ n0 f0 _ n1 f1 _ n2 f2 _ n3 f3 _ i ⟨rfl, rfl, rfl, rfl, i0, i1, rfl⟩;have hw : i64.wrap (i + 1) = i + 1 := wz;refine aC (fun hc => ?_) (fun hc => ?_)
 ·simp only [aB] at hc;obtain ⟨m, g, hat⟩ := at4 n0 f0 n1 f1 n2 f2 n3 f3 l0 l1 l2 l3 i0 hc;have hgi := hg _ (zwf l0 l1 l2 l3 i0 hc);have hgl := hgi.len;refine ⟨⟨i0, hc, by simp; omega⟩, m, g, _, hat, ⟨rfl, rfl, rfl, rfl, rfl, rfl, rfl, by rw [fX], qe _, by rw [fX]; omega, by simp⟩, ?_⟩;rintro _ n0 f0 _ n1 f1 _ n2 f2 _ n3 f3 _ _ n15 f15 _ _ k ⟨rfl, rfl, rfl, rfl, rfl, rfl, rfl, k0, k1, rfl⟩;have htk := zwe l0 l1 l2 l3 i0 hc;refine aC (fun hc2 => ?_) (fun hc2 => ?_)
  ·simp only [aB] at hc2;have hk : k.toNat < (dK l0 l1 l2 l3 i.toNat).length := by omega
   have hwk : i64.wrap (k + 1) = k + 1 := wz;have hnk : (k + 1).toNat = k.toNat + 1 := by omega
   have hgk : (aN (dK l0 l1 l2 l3 i.toNat)).getD k.toNat [] = dX (dK l0 l1 l2 l3 i.toNat)[k.toNat] := c7 hk;have hix : aD (aN (dK l0 l1 l2 l3 i.toNat)) k 4 := cS jT k0 (by omega);have hr := hgi.2 _ (qj hk);have hts : (dK l0 l1 l2 l3 i.toNat).take (k.toNat + 1) = (dK l0 l1 l2 l3 i.toNat).take k.toNat ++ [(dK l0 l1 l2 l3 i.toNat)[k.toNat]] := dI hk;have hmu : (((dK l0 l1 l2 l3 i.toNat).length : Int) - (k + 1)).toNat < (((dK l0 l1 l2 l3 i.toNat).length : Int) - k).toNat := by omega
   refine ⟨hix, (dK l0 l1 l2 l3 i.toNat)[k.toNat].fr, by rw [hgk]; rfl, (dK l0 l1 l2 l3 i.toNat)[k.toNat].to, by rw [hgk]; rfl, (dK l0 l1 l2 l3 i.toNat)[k.toNat].a, by rw [hgk]; rfl, (dK l0 l1 l2 l3 i.toNat)[k.toNat].b, by rw [hgk]; rfl, ?_⟩;rw [hwk];generalize (dK l0 l1 l2 l3 i.toNat)[k.toNat] = s at *;have hws : i64.wrap (s.fr - 1) = s.fr - 1 := wz;rw [hws]
   have hstep : eI a last (([l0, l1, l2, l3].take i.toNat).flatten ++ (dK l0 l1 l2 l3 i.toNat).take (k + 1).toNat) = if s.fr > a /\ s.fr <= eI a last (([l0, l1, l2, l3].take i.toNat).flatten ++ (dK l0 l1 l2 l3 i.toNat).take k.toNat) then s.fr - 1 else eI a last (([l0, l1, l2, l3].take i.toNat).flatten ++ (dK l0 l1 l2 l3 i.toNat).take k.toNat) := by
    rw [hnk, hts, <- qg, zh3]; rfl
   refine aC (fun h1 => aC (fun h2 => ?_) (fun h2 => ?_)) (fun h1 => ?_)
   ·simp only [aB] at h1 h2;rw [if_pos ⟨h1, h2⟩] at hstep;exact ⟨rfl, ⟨rfl, rfl, rfl, rfl, rfl, rfl, rfl, by omega, by omega, hstep.symm⟩, hmu⟩
   ·simp only [aB] at h1 h2;rw [if_neg (fun h => h2 h.2)] at hstep;exact ⟨rfl, ⟨rfl, rfl, rfl, rfl, rfl, rfl, rfl, by omega, by omega, hstep.symm⟩, hmu⟩
   ·simp only [aB] at h1;rw [if_neg (fun h => h1 h.1)] at hstep;exact ⟨rfl, ⟨rfl, rfl, rfl, rfl, rfl, rfl, rfl, by omega, by omega, hstep.symm⟩, hmu⟩
  ·simp only [aB] at hc2;have htl : (dK l0 l1 l2 l3 i.toNat).take k.toNat = (dK l0 l1 l2 l3 i.toNat) := qf (by omega);rw [hw, htl];refine ⟨rfl, ⟨rfl, rfl, rfl, rfl, by omega, by omega, ?_⟩, by dsimp only; omega⟩;rw [htk]; simp
 ·simp only [aB] at hc;have : i = 4 := by omega
  subst this;rfl
def kd (q : Nat) : Int := [5, 7, 8, 3].getD q 0
def k4 (rows : List Row) (q : Nat) : List Sp := aJ (kd q) rows
theorem zwh (rows : List Row) {i : Int} (h0 : 0 <= i) (h1 : i < 4) : dK (aJ 5 rows) (aJ 7 rows) (aJ 8 rows) (aJ 3 rows) i.toNat = k4 rows i.toNat := by
 rcases qT h0 h1 with rfl | rfl | rfl | rfl <;> rfl
def CellsK (rows : List Row) (i : Int) (c : List PV) : Prop := c.length = 4 /\ ∀ q : Nat, (q : Int) < i -> ∃ n f, c[q]? = some (.sl n f (aN (k4 rows q)))
def HasC (rows : List Row) (a i : Int) (c : List PV) : Prop := c.length = 4 /\ ∀ q : Nat, (q : Int) < i -> c[q]? = some (.bool (cE rows (kd q) a))
theorem zlk {c : List PV} (hl : c.length = 4) {i : Int} (h0 : 0 <= i) (h1 : i < 4) (v : PV) : (aW c (0 + i.toNat * 1) [v]).length = 4 /\ ∀ q : Nat, (aW c (0 + i.toNat * 1) [v])[q]? = if q = i.toNat then some v else c[q]? := by
 have hle : (0 + i.toNat * 1) + [v].length <= c.length := by simp; omega
 refine ⟨by rw [mL _ _ _ hle, hl], fun q => ?_⟩;rw [pB _ _ _ hle];simp only [qag, Nat.mul_one, qm, qw];by_cases hq : q = i.toNat
 ·subst hq; rw [if_pos (by omega), if_pos rfl]; simp
 ·rw [if_neg (by omega), if_neg hq]
theorem CellsK.put {rows : List Row} {i : Int} {c : List PV} (h : CellsK rows i c) (h0 : 0 <= i) (h1 : i < 4) (n f : Bool) : CellsK rows (i + 1) (aW c (0 + i.toNat * 1) [.sl n f (aN (k4 rows i.toNat))]) := by
 obtain ⟨e1, e2⟩ := zlk h.1 h0 h1 (.sl n f (aN (k4 rows i.toNat)));refine ⟨e1, fun q hq => ?_⟩;rw [e2];by_cases hqi : q = i.toNat
 ·subst hqi; rw [if_pos rfl]; exact ⟨n, f, rfl⟩
 ·rw [if_neg hqi]; exact h.2 q (by omega)
theorem HasC.put {rows : List Row} {a i : Int} {c : List PV} (h : HasC rows a i c) (h0 : 0 <= i) (h1 : i < 4) {b : Bool} (hb : b = cE rows (kd i.toNat) a) : HasC rows a (i + 1) (aW c (0 + i.toNat * 1) [.bool b]) := by
 obtain ⟨e1, e2⟩ := zlk h.1 h0 h1 (.bool b);refine ⟨e1, fun q hq => ?_⟩;rw [e2];by_cases hqi : q = i.toNat
 ·subst hqi; rw [if_pos rfl, hb]
 ·rw [if_neg hqi]; exact h.2 q (by omega)
theorem eq4 {c : List PV} {a0 a1 a2 a3 : PV} (hl : c.length = 4) (h0 : c[0]? = some a0) (h1 : c[1]? = some a1) (h2 : c[2]? = some a2) (h3 : c[3]? = some a3) : c = [a0, a1, a2, a3] := by
 match c, hl with
 | [b0, b1, b2, b3], _ => simp at h0 h1 h2 h3; rw [h0, h1, h2, h3]
theorem CellsK.all {rows : List Row} {c : List PV} (h : CellsK rows 4 c) : ∃ n0 f0 n1 f1 n2 f2 n3 f3, c = [.sl n0 f0 (aN (aJ 5 rows)), .sl n1 f1 (aN (aJ 7 rows)), .sl n2 f2 (aN (aJ 8 rows)), .sl n3 f3 (aN (aJ 3 rows))] := by
 obtain ⟨n0, f0, e0⟩ := h.2 0 (by omega);obtain ⟨n1, f1, e1⟩ := h.2 1 (by omega);obtain ⟨n2, f2, e2⟩ := h.2 2 (by omega);obtain ⟨n3, f3, e3⟩ := h.2 3 (by omega);exact ⟨n0, f0, n1, f1, n2, f2, n3, f3, eq4 h.1 e0 e1 e2 e3⟩
theorem HasC.all {rows : List Row} {a : Int} {c : List PV} (h : HasC rows a 4 c) : c = [.bool (dV rows a).1, .bool (dV rows a).2.1, .bool (dV rows a).2.2.1, .bool (dV rows a).2.2.2] :=
 eq4 h.1 (h.2 0 (by omega)) (h.2 1 (by omega)) (h.2 2 (by omega)) (h.2 3 (by omega))
theorem zwi {i : Int} (h0 : 0 <= i) (h1 : i < 4) : [PV.int .i64 5, .int .i64 7, .int .i64 8, .int .i64 3].getD i.toNat .unit = .int .i64 (kd i.toNat) := by
 rcases qT h0 h1 with rfl | rfl | rfl | rfl <;> rfl
theorem zll (rows : List Row) : ∀ l ∈ l4 rows, Rows.Good l := by
 intro l hl;simp only [l4, qao, qay, or_false] at hl;rcases hl with rfl | rfl | rfl | rfl <;> exact oC _ _
theorem zwj (rows : List Row) {i : Int} (h0 : 0 <= i) (h1 : i < 4) : (l4 rows).take (i + 1).toNat = (l4 rows).take i.toNat ++ [k4 rows i.toNat] := by
 rcases qT h0 h1 with rfl | rfl | rfl | rfl <;> rfl
theorem zwk {rows : List Row} {x : Int} (h : mV (l4 rows) x) : 0 <= x /\ x <= 1114112 := by
 rcases h with rfl | ⟨l, hl, s, hs, h⟩
 ·omega
 ·have := (zll rows l hl).2 s hs;omega
def TrP (rows : List Row) (t : List Int) (i : Int) (s : List (List PV)) : Prop := ∃ P : List (Pc Fl), s = mF P /\ (P.length : Int) <= i /\ PiecesOK rows (t.take i.toNat) P
theorem zwl (n f : Bool) (rows : List Row) (hl : rows.length < 1000000) : PCall qa 40 [.sl n f (bH rows)] fun v => TrieF 1114112 (dV rows) v := by
 refine zt7 _ _ _
  (fun a b c d i c0 => a = 5 /\ b = 7 /\ c = 8 /\ d = 3 /\ 0 <= i /\ i <= 4 /\ CellsK rows i c0) (fun _ _ _ _ i _ => (4 - i).toNat)
  (fun p4 _ _ s29 x30 i _ s => CellsK rows 4 p4 /\ ∃ t, s29 = bG t /\ x30 = t.length /\ t.length < 4000000000 /\ (∀ x, x ∈ t ↔ mV (l4 rows) x) /\ 0 <= i /\ i <= x30 /\ TrP rows t i s) (fun _ _ _ _ x30 i _ _ => (x30 - i).toNat)
  (fun p4 a _ _ _ s29 x30 i _ _ _ _ _ _ _ _ _ _ _ _ _ _ s _ p4' a' x11 _ _ s29' x30' i' _ _ s0 _ _ s1 _ _ s2 _ _ s3 k _ s' c1 => p4 = p4' /\ a = a' /\ s29 = s29' /\ x30 = x30' /\ i = i' /\ s = s' /\ s0 = aN (aJ 5 rows) /\ s1 = aN (aJ 7 rows) /\ s2 = aN (aJ 8 rows) /\ s3 = aN (aJ 3 rows) /\
   0 <= k /\ k <= 4 /\ HasC rows a k c1 /\ LastOK ((l4 rows).take k.toNat) a x11) (fun _ _ _ _ _ _ _ _ _ _ _ _ _ _ _ _ _ _ _ _ k _ _ _ => (4 - k).toNat) ?_
 unfold zjl;refine ⟨⟨rfl, qz _⟩, _, rfl, _, rfl, _, rfl, _, rfl, ⟨rfl, rfl, rfl, rfl, rfl, qe _, by omega, rfl, fun q hq => absurd hq (by omega)⟩, ?_⟩;rintro _ _ _ _ i c0 ⟨rfl, rfl, rfl, rfl, i0, i1, hck⟩;have hw : i64.wrap (i + 1) = i + 1 := wz;refine aC (fun hc => ?_) (fun hc => ?_)
 ·simp only [aB] at hc;refine ⟨⟨i0, hc, by simp; omega⟩, kd i.toNat, zwi i0 hc, ?_⟩;refine (p29 _ _ rows (kd i.toNat) (by omega)).mono ?_;rintro _ ⟨n1, f1, rfl⟩;rw [hw];exact ⟨_, _, _, rfl, ⟨i0, hc⟩, ⟨rfl, by rw [hck.1]; omega⟩, rfl, ⟨rfl, rfl, rfl, rfl, by omega, by omega, hck.put i0 hc n1 f1⟩, by dsimp only; omega⟩
 ·simp only [aB] at hc;have : i = 4 := by omega
  subst this;obtain ⟨n0, f0, n1, f1, n2, f2, n3, f3, rfl⟩ := hck.all;refine ⟨⟨⟨by simp, by simp⟩, rfl⟩, ?_⟩;refine (zwd false true [(n0, f0, aJ 5 rows), (n1, f1, aJ 7 rows), (n2, f2, aJ 8 rows), (n3, f3, aJ 3 rows)] (by simp) (fun x hx => ?_)).mono ?_
  ·simp only [qao, qay, or_false] at hx;rcases hx with rfl | rfl | rfl | rfl <;> exact oC _ _
  rintro _ ⟨n4, f4, t, rfl, htl, ht⟩;refine ⟨_, _, _, rfl, ⟨rfl, hck, t, rfl, by rw [lE], htl, ht, qe _, by rw [lE]; omega, [], rfl, qe _, PiecesOK.nil rows⟩, ?_⟩;clear ht htl;rintro p4 n29 f29 _ _ i m _ ⟨hck, t, rfl, rfl, htl, ht, i0, i1, P, rfl, hPl, hP⟩;have hw : i64.wrap (i + 1) = i + 1 := wz;refine aC (fun hc => ?_) (fun hc => ?_)
  ·simp only [aB] at hc;have hi : i.toNat < t.length := by omega
   have hn : (i + 1).toNat = i.toNat + 1 := by omega
   have hgd : (bG t).getD i.toNat [] = [.int .i64 t[i.toNat]] := c7 hi;have hts : t.take (i.toNat + 1) = t.take i.toNat ++ [t[i.toNat]] := dI hi;have hcut := (ht t[i.toNat]).1 (qj hi);have hrng := zwk hcut;obtain ⟨n0, f0, n1, f1, n2, f2, n3, f3, rfl⟩ := hck.all
   refine ⟨cS oJ i0 (by omega), t[i.toNat], by rw [hgd]; rfl, _, _, _, rfl, _, _, _, rfl, _, _, _, rfl, _, _, _, rfl,
    ⟨rfl, rfl, rfl, rfl, rfl, rfl, rfl, rfl, rfl, rfl, rfl, qe _, by omega, ⟨rfl, fun q hq => absurd hq (by omega)⟩, LastOK.nil _⟩, ?_⟩
   generalize t[i.toNat] = a at *;rintro _ _ x11 n29 f29 _ _ _ n0 f0 _ n1 f1 _ n2 f2 _ n3 f3 _ k m' _ c1 ⟨rfl, rfl, rfl, rfl, rfl, rfl, rfl, rfl, rfl, rfl, k0, k1, hhas, hlast⟩;have hwk : i64.wrap (k + 1) = k + 1 := wz;refine aC (fun hc2 => ?_) (fun hc2 => ?_)
   ·simp only [aB] at hc2;obtain ⟨n4, f4, hat⟩ := at4 n0 f0 n1 f1 n2 f2 n3 f3 (aJ 5 rows) (aJ 7 rows) (aJ 8 rows) (aJ 3 rows) k0 hc2;rw [zwh rows k0 hc2] at hat;refine ⟨⟨k0, hc2, by simp; omega⟩, n4, f4, _, hat, ?_⟩;have hwa : i32.wrap a = a := dC (by omega) (by omega);rw [hwa];refine (p34 _ _ (k4 rows k.toNat) a (oC _ _) (by omega)).mono ?_;rintro _ ⟨x, q, rfl, hq1, hq2⟩;have htk := zwj rows k0 hc2;have hmu : (4 - (k + 1)).toNat < (4 - k).toNat := by omega
    refine ⟨_, rfl, rfl, _, rfl, _, rfl, rfl, x.fr, rfl, x.to, rfl, x.a, rfl, x.b, rfl, _, rfl, q, rfl, ?_⟩;rw [hwk];have hsz : ([PV.bool true].length : Nat) = 1 /\ 0 + k.toNat * 1 + 1 <= c1.length := ⟨rfl, by rw [hhas.1]; omega⟩;cases q with
    | true =>
      obtain ⟨hx1, hx2⟩ := hq1 rfl
      have hv : (x.a == 1) = cE rows (kd k.toNat) a := by
       unfold cE; rw [oD hx1 hx2]; rfl
      refine bW rfl ⟨⟨k0, hc2⟩, hsz, bW rfl ⟨rfl, ⟨rfl, rfl, rfl, rfl, rfl, rfl, rfl, rfl, rfl, rfl, by omega, by omega, hhas.put k0 hc2 hv, ?_⟩, hmu⟩⟩;rw [htk];have := hlast.some hx1 hx2 (oC _ _);exact this
    | false =>
      obtain ⟨_, hno⟩ := hq2 rfl
      have hv : false = cE rows (kd k.toNat) a := by
       unfold cE; rw [vY hno]
      refine bR (by simp) ⟨⟨k0, hc2⟩, hsz, bR (by simp) ⟨rfl, ⟨rfl, rfl, rfl, rfl, rfl, rfl, rfl, rfl, rfl, rfl, by omega, by omega, hhas.put k0 hc2 hv, ?_⟩, hmu⟩⟩;rw [htk];exact hlast.none hno
   ·simp only [aB] at hc2;have : k = 4 := by omega
    subst this;have hc1 := hhas.all;subst hc1;have hmu : ((t.length : Int) - (i + 1)).toNat < ((t.length : Int) - i).toNat := by omega
    refine ⟨_, rfl, _, rfl, _, rfl, _, rfl, ?_⟩;rw [hw];refine aC (fun hc3 => ?_) (fun hc3 => ?_)
    ·refine ⟨_, _, _, rfl, _, _, _, rfl, _, _, _, rfl, _, _, _, rfl, ⟨by omega, by omega⟩, _, rfl, ⟨by omega, by omega⟩, _, rfl, ⟨by omega, by omega⟩, _, rfl, ⟨by omega, by omega⟩, _, rfl, ?_⟩;refine (zwg a x11 _ _ _ _ _ _ _ _ (aJ 5 rows) (aJ 7 rows) (aJ 8 rows) (aJ 3 rows) (zll rows)).mono ?_;rintro _ rfl;refine ⟨_, rfl, ⟨fun e he => by simp at he; subst he; rfl, by simp [mF]; omega⟩, rfl, ⟨hck, t, rfl, rfl, htl, ht, by omega, by omega, P ++ [⟨a, eI a x11 (l4 rows).flatten, dV rows a⟩], ?_, by simp; omega, ?_⟩, hmu⟩
     ·unfold mF; rw [qad]; rfl
     ·rw [hn, hts]; exact hP.put hrng.1 hrng.2 hlast
    ·refine ⟨rfl, ⟨hck, t, rfl, rfl, htl, ht, by omega, by omega, P, rfl, by omega, ?_⟩, hmu⟩;rw [hn, hts];refine hP.skip ?_
     revert hc3
     generalize dV rows a = fl;obtain ⟨b0, b1, b2, b3⟩ := fl;cases b0 <;> cases b1 <;> cases b2 <;> cases b3 <;> simp
  ·simp only [aB] at hc;rw [qf (by omega)] at hP;refine (zvy 1114112 (false, false, false, false) _ _ P (by omega) (fun p hp => ?_) (by omega) (by omega)).mono fun v hv => hv.congr fun i h0 h1 => hP.val ht h0 (by omega);have := (hP.sound p hp).1;omega
structure Tri (rows : List Row) (tc tg tj tf tp : PV) : Prop where
 c : TrieI 1114112 (aF rows 1) tc
 g : TrieI 1114112 (aF rows 4) tg
 j : TrieI 1114112 (aF rows 6) tj
 f : TrieF 1114112 (dV rows) tf
 p : TrieP 1114112 (aI rows) tp
theorem TrieI.ptr {sz : Int} {F : Int -> Int} {v : PV} (h : TrieI sz F v) : ∃ ps, v = .ptr ps := by
 obtain ⟨n, f, n2, f2, idx, blk, rfl, _⟩ := h; exact ⟨_, rfl⟩
theorem TrieF.ptr {sz : Int} {F : Int -> Fl} {v : PV} (h : TrieF sz F v) : ∃ ps, v = .ptr ps := by
 obtain ⟨n, f, n2, f2, idx, blk, rfl, _⟩ := h; exact ⟨_, rfl⟩
theorem TrieP.ptr {sz : Int} {F : Int -> Int × Int} {v : PV} (h : TrieP sz F v) : ∃ ps, v = .ptr ps := by
 obtain ⟨n, f, n2, f2, idx, blk, rfl, _⟩ := h; exact ⟨_, rfl⟩
theorem zc9 {rows : List Row} {k r : Int} (h : ¬ (0 <= r /\ r < 1114112)) : cD rows k r = none := by
 unfold cD; rw [if_neg (by omega)]
theorem zda (rows : List Row) (k r : Int) : (if 0 <= r /\ r < 1114112 then aF rows k r else 0) = aF rows k r := by
 split
 ·rfl
 ·rename_i h; unfold aF; rw [zc9 h]
theorem zlm (rows : List Row) (r : Int) : (if 0 <= r /\ r < 1114112 then aI rows r else (0, 0)) = aI rows r := by
 split
 ·rfl
 ·rename_i h; unfold aI; rw [zc9 h]
theorem zln (rows : List Row) (r : Int) : (if 0 <= r /\ r < 1114112 then dV rows r else (false, false, false, false)) = dV rows r := by
 split
 ·rfl
 ·rename_i h; unfold dV cE; simp only [zc9 h]
section
variable {rows : List Row} {tc tg tj tf tp : PV} (M S : List (PV × PV))
theorem wW (ht : Tri rows tc tg tj tf tp) {r : Int} (hr : -2147483648 <= r /\ r <= 2147483647) : PCall qa 71 [.ptr [tc, tg, tj, tf, tp, .mp M, .mp S], .int .i32 r] fun v => v = .int .i64 (aF rows 1 r) := by
 refine zt8 _ _ _ _ _ _ _ _ ?_;unfold zjm;obtain ⟨ps, rfl⟩ := ht.c.ptr;refine .inl ⟨ps, rfl, ?_⟩;have hw : i64.wrap r = r := wz;rw [hw];refine (zcn ht.c r (by omega)).mono ?_;rintro _ rfl;exact ⟨_, rfl, by rw [zda]⟩
theorem zdb (ht : Tri rows tc tg tj tf tp) {r : Int} (hr : -2147483648 <= r /\ r <= 2147483647) : PCall qa 69 [.ptr [tc, tg, tj, tf, tp, .mp M, .mp S], .int .i32 r] fun v =>
 v = .tup [.int .i32 (aI rows r).1, .int .i32 (aI rows r).2, .bool (!decide (aI rows r = (0, 0)))] := by
 refine zt9 _ _ _ _ _ _ _ _ ?_;unfold zjn;obtain ⟨ps, rfl⟩ := ht.p.ptr;refine .inl ⟨ps, rfl, ?_⟩;have hw : i64.wrap r = r := wz;rw [hw];refine (p84 ht.p r (by omega)).mono ?_;rintro _ rfl;rw [zlm];refine ⟨_, rfl, rfl, _, rfl, _, rfl, ?_⟩;generalize aI rows r = p;obtain ⟨a, b⟩ := p;simp only [cond_false, qal];congr 4;by_cases h1 : a = 0 <;> by_cases h2 : b = 0 <;> simp [h1, h2]
theorem zwm (hp : dN rows) (ht : Tri rows tc tg tj tf tp) {r : Int} (hr : -2147483648 <= r /\ r <= 2147483647) : PCall qa 44 [.ptr [tc, tg, tj, tf, tp, .mp M, .mp S], .int .i32 r] fun v => v = .bool (eC rows r) := by
 refine zua _ _ _ _ _ _ _ _ ?_;unfold zjo;refine (zdb M S ht hr).mono ?_;rintro _ rfl;have hrng := pX hp r;have hf : cE rows 3 r = (dV rows r).2.2.2 := rfl;refine ⟨_, rfl, rfl, _, rfl, _, rfl, _, rfl, _, rfl, _, rfl, _, rfl, ?_⟩;have hw : i64.wrap r = r := wz;rw [hw];refine aC (fun h1 => aC (fun h2 => ?_) (fun h2 => ?_)) (fun h1 => ?_)
 ·simp only [qo, dJ] at h1;simp only [beq_iff_eq] at h2;unfold eC; simp [h1, h2]
 ·simp only [qo, dJ] at h1;simp only [beq_iff_eq] at h2;obtain ⟨ps, hps⟩ := ht.f.ptr;refine .inl ⟨ps, by rw [hps], ?_⟩;rw [<- hps];refine (zkw ht.f r (by omega)).mono ?_;rintro _ rfl;rw [zln];refine ⟨_, rfl, rfl, _, rfl, _, rfl, _, rfl, _, rfl, ?_⟩;refine aC (fun h3 => ?_) (fun h3 => ?_)
  ·rw [<- hf] at h3;unfold eC; simp [h1, h2, h3]
  ·rw [<- hf] at h3;refine (wW M S ht hr).mono ?_;rintro _ rfl;refine ⟨_, rfl, ?_⟩;refine aC (fun h4 => ?_) (fun h4 => ?_)
   ·simp only [bne_iff_ne, ne_eq] at h4;unfold eC; simp [h1, h2, h4]
   ·simp only [bne_iff_ne, ne_eq, qx] at h4;refine (wW M S ht (by omega)).mono ?_;rintro _ rfl;refine ⟨_, rfl, ?_⟩;unfold eC;simp only [qaj] at h3;simp only [h1, h2, h3, h4, decide_false, Bool.not_false, qbd, Bool.false_or, decide_true, Bool.not_true];rfl
 ·simp only [qo, dJ, qx] at h1;unfold eC; simp [h1]
end
abbrev eU (M : List ((Int × Int) × Int)) : List (PV × PV) := cY (fun p => .agg (encP p)) (fun n => .int .i32 n) M
abbrev kE (S : List (Int × Bool)) : List (PV × PV) := cY (fun n => .int .i32 n) (fun b => .bool b) S
def wX (made : List ((Int × Int) × Int)) (p : Int × Int) : PV := match cN p made with
 | some r => .tup [.int .i32 r, .bool true]
 | none => .tup [.int .i32 0, .bool false]
theorem wY (p : Int × Int) : bI qa 81 (.agg (encP p)) = true := zc5 p
theorem wZ (made : List ((Int × Int) × Int)) : c9 qa 81 (eU made) := by
 unfold eU; exact EP.valsOk zc3 zc4 made
theorem zdc (made : List ((Int × Int) × Int)) (p : Int × Int) : cR (.agg (encP p)) (eU made) = (cN p made).map fun n => .int .i32 n := nY (ek := fun p => PV.agg (encP p)) (ev := fun n => PV.int .i32 n) EP.valEq p made
theorem zwn (tc tg tj tf tp : PV) (S : List (PV × PV)) (made : List ((Int × Int) × Int)) (a b : Int) : PCall qa 107 [.ptr [tc, tg, tj, tf, tp, .mp (eU made), .mp S], .int .i32 a, .int .i32 b] fun v =>
 v = if b = 0 then .tup [.int .i32 0, .bool false] else wX made (a, b) := by
 refine zub _ _ _ _ _ _ _ _ _ ?_;unfold zjp;refine aC (fun h => ?_) (fun h => ?_)
 ·simp only [beq_iff_eq] at h; rw [if_pos h]
 ·simp only [beq_iff_eq] at h; rw [if_neg h];have hg := zdc made (a, b);refine .inl ⟨_, rfl, wZ made, wY (a, b), fun v hv => ?_, fun hv => ?_⟩
  ·have hv : cR (.agg (encP (a, b))) (eU made) = some v := hv;rw [hg] at hv;unfold wX;cases h : cN (a, b) made with
   | none => rw [h] at hv; cases hv
   | some r => rw [h] at hv; cases hv; exact ⟨r, rfl, rfl⟩
  ·have hv : cR (.agg (encP (a, b))) (eU made) = none := hv;rw [hg] at hv;unfold wX;cases h : cN (a, b) made with
   | none => rfl
   | some r => rw [h] at hv; cases hv
def fY (rows : List Row) (v : PV) : Prop := ∃ tc tg tj tf tp made sec, v = .ptr [tc, tg, tj, tf, tp, .mp (eU made), .mp (kE sec)] /\ Tri rows tc tg tj tf tp /\ MadeOK rows (fun r => 0 <= r /\ r <= 1114111) made sec
def toP (s : Sp) : Pc (Int × Int) := ⟨s.fr, s.to, (s.a, s.b)⟩
theorem tM {v : PV} (h : ∃ ps, v = .ptr ps) : gD v = true := by obtain ⟨ps, rfl⟩ := h; rfl
def oP (l : List Sp) (r : Int) : Prop := ∃ s ∈ l, s.has r
theorem zwo (n f : Bool) (rows : List Row) (hl : rows.length < 1000000) (hp : dN rows) : PCall qa 10 [.sl n f (bH rows)] (fY rows) := by
 have hg := oC 2 rows;have hlen := hg.len
 refine zuc _ _ _
  (fun _ _ s5 _ _ s28 x29 i h0 h1 h2 h3 _ s m2 m3 => s5 = aN (aJ 2 rows) /\ s28 = aN (aJ 2 rows) /\ x29 = (aJ 2 rows).length /\ 0 <= i /\ i <= x29 /\ TrieI 1114112 (aF rows 1) h0 /\ TrieI 1114112 (aF rows 4) h1 /\ TrieI 1114112 (aF rows 6) h2 /\ TrieF 1114112 (dV rows) h3 /\
   s = mG (((aJ 2 rows).take i.toNat).map toP) /\ m2 = [] /\ m3 = []) (fun _ _ _ _ _ _ x29 i _ _ _ _ _ _ _ _ => (x29 - i).toNat)
  (fun _ _ s5 x29 i h0 h1 h2 h3 h4 m2 m3 => s5 = aN (aJ 2 rows) /\ x29 = (aJ 2 rows).length /\ 0 <= i /\ i <= x29 /\ Tri rows h0 h1 h2 h3 h4 /\ ∃ made sec, m2 = eU made /\ m3 = kE sec /\ MadeOK rows (oP ((aJ 2 rows).take i.toNat)) made sec) (fun _ _ _ x29 i _ _ _ _ _ _ _ => (x29 - i).toNat)
  (fun _ _ _ _ _ i _ _ _ _ _ _ _ _ _ _ _ r _ _ s5 x29 i' h0 h1 h2 h3 h4 a b c d m2 m3 => s5 = aN (aJ 2 rows) /\ x29 = (aJ 2 rows).length /\ i = i' /\ 0 <= i /\ Tri rows h0 h1 h2 h3 h4 /\ ∃ hi : i.toNat < (aJ 2 rows).length, a = (aJ 2 rows)[i.toNat].fr /\ b = (aJ 2 rows)[i.toNat].to /\ a <= r /\ r <= b + 1 /\
   ∃ made sec, m2 = eU made /\ m3 = kE sec /\ MadeOK rows (fun x => oP ((aJ 2 rows).take i.toNat) x ∨ (a <= x /\ x < r)) made sec) (fun r _ _ _ _ _ _ _ _ _ _ _ b _ _ _ _ => (b + 1 - r).toNat) ?_
 unfold zjq;refine (zc8 _ _ rows 1 hl).mono fun v hv => (zc8 _ _ rows 4 hl).mono fun v1 hv1 => (zc8 _ _ rows 6 hl).mono fun v2 hv2 => (zwl _ _ rows hl).mono fun v3 hv3 => ⟨tM hv.ptr, tM hv1.ptr, tM hv2.ptr, tM hv3.ptr, ?_⟩;refine (p29 _ _ rows 2 (by omega)).mono ?_;rintro _ ⟨n1, f1, rfl⟩;refine ⟨_, _, _, rfl, ⟨rfl, rfl, rfl, by rw [fX], qe _, by rw [fX]; omega, hv, hv1, hv2, hv3, rfl, rfl, rfl⟩, ?_⟩;clear hv hv1 hv2 hv3;rintro n5 f5 _ n28 f28 _ _ i v v1 v2 v3 m _ _ _ ⟨rfl, rfl, rfl, i0, i1, hv, hv1, hv2, hv3, rfl, rfl, rfl⟩;have hw : i64.wrap (i + 1) = i + 1 := wz;refine aC (fun hc => ?_) (fun hc => ?_)
 ·simp only [aB] at hc;have hi : i.toNat < (aJ 2 rows).length := by omega
  have hn : (i + 1).toNat = i.toNat + 1 := by omega
  have hgd : (aN (aJ 2 rows)).getD i.toNat [] = dX (aJ 2 rows)[i.toNat] := c7 hi;have hix : aD (aN (aJ 2 rows)) i 4 := cS jT i0 (by omega);have hsr := zh6 hp (qj hi);refine ⟨hix, (aJ 2 rows)[i.toNat].fr, by rw [hgd]; rfl, (aJ 2 rows)[i.toNat].to, by rw [hgd]; rfl, (aJ 2 rows)[i.toNat].a, by rw [hgd]; rfl, (aJ 2 rows)[i.toNat].b, by rw [hgd]; rfl, ⟨fun e he => by simp at he; subst he; rfl, by simp [mG]; omega⟩, rfl, ?_⟩;have w1 : i32.wrap (aJ 2 rows)[i.toNat].a = (aJ 2 rows)[i.toNat].a := dC (by omega) (by omega);have w2 : i32.wrap (aJ 2 rows)[i.toNat].b = (aJ 2 rows)[i.toNat].b := dC (by omega) (by omega);rw [hw, w1, w2];refine ⟨⟨rfl, rfl, rfl, by omega, by omega, hv, hv1, hv2, hv3, ?_, rfl, rfl⟩, by dsimp only; omega⟩;rw [hn, dI hi, qad];unfold mG;rw [qad];rfl
 ·simp only [aB] at hc;rw [qf (by omega)];refine (p83 1114112 (0, 0) _ _ ((aJ 2 rows).map toP) (by simp; omega) (fun p hp' => ?_) (by omega) (by omega)).mono fun v4 hv4 => ?_
  ·obtain ⟨s, hs, rfl⟩ := List.mem_map.1 hp';have := hg.2 s hs;simp only [toP]; omega
  have hv4 : TrieP 1114112 (aI rows) v4 := hv4.congr fun i h0 h1 => zr7 rows i;refine ⟨tM hv4.ptr, ⟨rfl, rfl, by rw [fX], qe _, by rw [fX]; omega, ⟨hv, hv1, hv2, hv3, hv4⟩, [], [], rfl, rfl, (MadeOK.nil rows).same fun r hr => ⟨False.elim, fun ⟨s, hs, _⟩ => by cases hs⟩⟩, ?_⟩;clear hv hv1 hv2 hv3 hv4 hw hc i0 i1;rintro n5 f5 _ _ i v v1 v2 v3 v4 _ _ ⟨rfl, rfl, i0, i1, htri, made, sec, rfl, rfl, hm⟩;have hw : i64.wrap (i + 1) = i + 1 := wz;refine aC (fun hc => ?_) (fun hc => ?_)
  ·simp only [aB] at hc;have hi : i.toNat < (aJ 2 rows).length := by omega
   have hn : (i + 1).toNat = i.toNat + 1 := by omega
   have hgd : (aN (aJ 2 rows)).getD i.toNat [] = dX (aJ 2 rows)[i.toNat] := c7 hi;have hix : aD (aN (aJ 2 rows)) i 4 := cS jT i0 (by omega);have hsr := hg.2 _ (qj hi);have hts : (aJ 2 rows).take (i.toNat + 1) = (aJ 2 rows).take i.toNat ++ [(aJ 2 rows)[i.toNat]] := dI hi
   have hlt : ∀ x, oP ((aJ 2 rows).take i.toNat) x -> x < (aJ 2 rows)[i.toNat].fr := fun x ⟨s, hs, hx⟩ => by
    obtain ⟨j, hj, rfl⟩ := qbf hs;rw [ql] at hj;rw [List.getElem_take] at hx;have := (List.pairwise_iff_getElem.1 hg.1) j i.toNat (by omega) hi (by omega);unfold Sp.has at hx;omega
   have w1 : i32.wrap (aJ 2 rows)[i.toNat].fr = (aJ 2 rows)[i.toNat].fr := dC (by omega) (by omega);refine ⟨hix, (aJ 2 rows)[i.toNat].fr, by rw [hgd]; rfl, (aJ 2 rows)[i.toNat].to, by rw [hgd]; rfl, (aJ 2 rows)[i.toNat].a, by rw [hgd]; rfl, (aJ 2 rows)[i.toNat].b, by rw [hgd]; rfl, ?_⟩;rw [w1];refine ⟨⟨rfl, rfl, rfl, rfl, i0, htri, hi, rfl, rfl, qe _, by omega, made, sec, rfl, rfl, hm.same fun r hr => ⟨.inl, fun h => h.elim id fun h => by omega⟩⟩, ?_⟩;clear htri hm;rintro r n5 f5 _ _ _ v v1 v2 v3 v4 _ _ c d _ _ ⟨rfl, rfl, rfl, _, htri, _, rfl, rfl, r0, r1, made, sec, rfl, rfl, hm⟩;have hwr : i64.wrap r = r := wz;have hwr1 : i32.wrap (r + 1) = r + 1 := dC (by omega) (by omega);rw [hwr];refine aC (fun hc2 => ?_) (fun hc2 => ?_)
   ·simp only [aB] at hc2;have hhas : (aJ 2 rows)[i.toNat].has r := ⟨r0, hc2⟩;have hpr := zsb (qj hi) hhas
    have hpne : aI rows r ≠ (0, 0) := by
     have := zh6 hp (qj hi);rw [hpr]; intro e; injection e with e1 e2; omega
    have hmax : ∀ x, (oP ((aJ 2 rows).take i.toNat) x ∨ ((aJ 2 rows)[i.toNat].fr <= x /\ x < r)) -> x < r := fun x hx => by
     rcases hx with hx | hx
     ·have := hlt x hx; omega
     ·exact hx.2
    have hD : ∀ x, ((oP ((aJ 2 rows).take i.toNat) x ∨ ((aJ 2 rows)[i.toNat].fr <= x /\ x < r)) ∨ x = r) ↔ (oP ((aJ 2 rows).take i.toNat) x ∨ ((aJ 2 rows)[i.toNat].fr <= x /\ x < r + 1)) := fun x => by
     constructor
     ·rintro ((h | h) | h)
      ·exact .inl h
      ·exact .inr (by omega)
      ·exact .inr (by omega)
     ·rintro (h | h)
      ·exact .inl (.inl h)
      ·by_cases e : x = r
       ·exact .inr e
       ·exact .inl (.inr (by omega))
    have hmu : ((aJ 2 rows)[i.toNat].to + 1 - (r + 1)).toNat < ((aJ 2 rows)[i.toNat].to + 1 - r).toNat := by omega
    refine (p84 htri.p r (by omega)).mono ?_;rintro _ rfl;rw [zlm];refine ⟨_, rfl, rfl, _, rfl, _, rfl, wZ made, wY (aI rows r), fun v7 hv7 => ?_, fun hv7 => ?_⟩
    ·have hv7 : cR (.agg (encP (aI rows r))) (eU made) = some v7 := hv7;rw [zdc] at hv7;cases hk : cN (aI rows r) made with
     | none => rw [hk] at hv7; cases hv7
     | some q =>
       rw [hk] at hv7; cases hv7;refine ⟨q, rfl, ?_⟩;rw [hwr1];exact ⟨rfl, ⟨rfl, rfl, rfl, i0, htri, hi, rfl, rfl, by omega, by omega, made, sec, rfl, rfl, (hm.known hmax hk).same fun x hx => hD x⟩, hmu⟩
    ·have hv7 : cR (.agg (encP (aI rows r))) (eU made) = none := hv7;rw [zdc] at hv7;have hk : cN (aI rows r) made = none := by cases h : cN (aI rows r) made with | none => rfl | some q => rw [h] at hv7; cases hv7
     refine (zwm _ _ hp htri (by omega)).mono ?_;rintro _ rfl;refine ⟨_, rfl, rfl, ?_⟩;rw [hwr1];refine aC (fun ho => ?_) (fun ho => ?_)
     ·simp only [qo] at ho;have hm' := (hm.put hmax hk ⟨hpne, ho⟩).same fun x hx => hD x;obtain ⟨e1, e2⟩ := zh5 (.agg (encP (aI rows r))) (gH (.agg (encP (aI rows r))) (.int .i32 0) (eU made)) (.int .i32 r) (eU made);obtain ⟨e3, e4⟩ := zh5 (.int .i32 (aI rows r).2) (gH (.int .i32 (aI rows r).2) (.bool false) (kE sec)) (.bool true) (kE sec);have e1 := e1.trans (kV (ek := fun p => PV.agg (encP p)) (ev := fun n => PV.int .i32 n) EP.valEq (aI rows r) r made);have e3 := e3.trans (kV (ek := fun n => PV.int .i32 n) (ev := fun b => PV.bool b) (sQ .i32) (aI rows r).2 true sec);have b1 : (0 : Int) <= (fG (.agg (encP (aI rows r))) (eU made) : Nat) /\ ((fG (.agg (encP (aI rows r))) (eU made) : Nat) : Int).toNat < (bV (.agg (encP (aI rows r))) (gH (.agg (encP (aI rows r))) (.int .i32 0) (eU made)) (eU made)).length := ⟨by omega, by rw [qbq]; exact e2⟩;have b2 : (0 : Int) <= (fG (.int .i32 (aI rows r).2) (kE sec) : Nat) /\ ((fG (.int .i32 (aI rows r).2) (kE sec) : Nat) : Int).toNat < (bV (.int .i32 (aI rows r).2) (gH (.int .i32 (aI rows r).2) (.bool false) (kE sec)) (kE sec)).length := ⟨by omega, by rw [qbq]; exact e4⟩;refine ⟨⟨wZ made, wY _, b1, oB sec, b2, ?_⟩, wZ made, wY _, ⟨b1, oB sec, b2, ?_⟩, b1, oB sec, b2, ?_⟩
      all_goals exact ⟨rfl, ⟨rfl, rfl, rfl, i0, htri, hi, rfl, rfl, by omega, by omega, cV (aI rows r) r made, cV (aI rows r).2 true sec, e1, e3, hm'⟩, hmu⟩
     ·simp only [qo, Bool.not_eq_false] at ho;exact ⟨rfl, ⟨rfl, rfl, rfl, i0, htri, hi, rfl, rfl, by omega, by omega, made, sec, rfl, rfl, (hm.out ho).same fun x hx => hD x⟩, hmu⟩
   ·simp only [aB] at hc2;rw [hw];refine ⟨rfl, ⟨rfl, rfl, by omega, by omega, htri, made, sec, rfl, rfl, ?_⟩, by dsimp only; omega⟩;rw [hn, hts];refine hm.same fun x hx => ?_;unfold oP;constructor
    ·rintro (⟨s, hs, h⟩ | h)
     ·exact ⟨s, List.mem_append_left _ hs, h⟩
     ·exact ⟨_, List.mem_append_right _ (List.mem_singleton.2 rfl), by unfold Sp.has; omega⟩
    ·rintro ⟨s, hs, h⟩;rcases List.mem_append.1 hs with hs | hs
     ·exact .inl ⟨s, hs, h⟩
     ·simp only [qam] at hs; subst hs;unfold Sp.has at h; exact .inr (by omega)
  ·simp only [aB] at hc;rw [qf (by omega)] at hm;refine ⟨v, v1, v2, v3, v4, made, sec, rfl, htri, hm.same fun r hr => ?_⟩;constructor
   ·rintro ⟨s, hs, h⟩;have := hg.2 s hs;unfold Sp.has at h;omega
   ·intro _;exact zsc hr.1
theorem kF (a b : List Int) : aA (a ++ b) = aA a ++ aA b := by simp [aA]
theorem eV (a : List Int) : aU (aA a) 1 := kB (enc := fun n => [PV.int .i32 n]) (fun _ => rfl) a
def R32 (l : List Int) : Prop := ∀ x ∈ l, -2147483648 <= x /\ x <= 2147483647
theorem zwp (x : Int) : ([PV.int .i32 x] : List PV).length = 1 := rfl
theorem iE {l : List Int} {i : Int} (h0 : 0 <= i) (hi : i.toNat < l.length) : aD (aA l) i 1 /\ (aA l).getD i.toNat [] = [.int .i32 l[i.toNat]] :=
 ⟨cS zwp h0 (by omega), c7 hi⟩
theorem zlo (r : Int) : PCall qa 131 [.int .i32 r] fun v => v = .bool (bZ r) := by
 refine ztx _ ?_; unfold zi8;unfold bZ;by_cases h1 : 44032 <= r <;> by_cases h2 : r <= 55203 <;> simp [h1, h2] <;> omega
theorem pIs (r : Int) : PCall qa 99 [.int .i32 r] fun v => v = .bool (bZ r) := by
 refine ztz _ ?_; unfold zja;unfold bZ;by_cases h1 : 44032 <= r <;> by_cases h2 : r <= 55203 <;> simp [h1, h2]
theorem zlp {r : Int} (h : bZ r = true) : (44032 <= r /\ r <= 55203) /\ i32.wrap (r - 44032) = r - 44032 /\ i32.wrap (4352 + i32.wrap ((r - 44032).tdiv 588)) = 4352 + (r - 44032) / 588 /\
 i32.wrap (4449 + (i32.wrap ((r - 44032).tdiv 28)).tmod 21) = 4449 + (r - 44032) / 28 % 21 /\ i32.wrap (4519 + (r - 44032).tmod 28) = 4519 + (r - 44032) % 28 := by
 simp only [bZ, qh, aB] at h;have e1 : (r - 44032).tdiv 588 = (r - 44032) / 588 := qq (by omega);have e2 : (r - 44032).tdiv 28 = (r - 44032) / 28 := qq (by omega);have e3 : (r - 44032).tmod 28 = (r - 44032) % 28 := qr (by omega);have w1 : i32.wrap ((r - 44032) / 588) = (r - 44032) / 588 := dC (by omega) (by omega);have w2 : i32.wrap ((r - 44032) / 28) = (r - 44032) / 28 := dC (by omega) (by omega);have e4 : ((r - 44032) / 28).tmod 21 = (r - 44032) / 28 % 21 := qr (by omega);rw [e1, e2, e3, w1, w2, e4];exact ⟨h, dC (by omega) (by omega), dC (by omega) (by omega), dC (by omega) (by omega), dC (by omega) (by omega)⟩
theorem zlq (r : Int) : PCall qa 108 [.int .i32 r] fun v => if bZ r then v = .sl false true (aA (eJ r)) else v = .sl true true [] := by
 refine zty _ ?_; unfold zi9;refine (zlo r).mono ?_;rintro _ rfl;refine ⟨_, rfl, ?_⟩;cases h : bZ r with
 | false => exact bW rfl rfl
 | true =>
   obtain ⟨hr, a1, a2, a3, a4⟩ := zlp h;refine bR (by simp) ?_;rw [a1, a2, a3, a4];refine ⟨⟨rfl, by omega⟩, ⟨by omega, by omega⟩, _, rfl, ?_⟩;by_cases hc : (r - 44032) % 28 = 0
   ·refine bW (by simp; omega) ⟨⟨by unfold dS; simp, rfl⟩, ?_⟩;simp [eJ, hc, aA]
   ·refine bR (by simp; omega) ⟨⟨by unfold dS; simp, rfl⟩, ?_⟩;simp [eJ, hc, aA]
def zdd (L : List Int) (r1 : LV) (h' : Hp) : Prop := (∃ nl, r1 = .own 0 /\ h' = [.sl (21, 1) true nl (aA L)]) ∨ (r1 = .pv (.sl false true (aA L)) /\ h' = [])
def FullR (L : List Int) (r1 : LV) (h' : Hp) : Prop := (∃ m nl, r1 = .own 0 /\ h' = [.sl (21, 1) m nl (aA L)]) ∨ (r1 = .pv (.sl false true (aA L)) /\ h' = [])
theorem FullR.mark {f : Nat} {args : List LV} {L : List Int} (h : ACall qa f args [] (FullR L)) : ACall qa f args [] (zdd L) := by
 refine ACall.mark 0 [] h ?_;rintro r h' (⟨m, nl, rfl, rfl⟩ | ⟨rfl, rfl⟩)
 ·exact .inl ⟨nl, rfl, rfl⟩
 ·exact .inr ⟨rfl, rfl⟩
theorem zde {r : Int} (hs : bZ r = true) : ACall qa 100 [.pv (.int .i32 r)] [] (zdd (eJ r)) := by
 refine FullR.mark (zjb _ ?_); unfold zbs;refine (pIs r).mono ?_;rintro _ rfl;refine ⟨_, rfl, ?_⟩;rw [hs];refine bR (by simp) ?_;obtain ⟨hr, a1, a2, a3, a4⟩ := zlp hs;have w0 : i64.wrap r = r := wz;have w1 : i64.wrap (r - 44032) = r - 44032 := wz;have e1 : (r - 44032).tdiv 588 = (r - 44032) / 588 := qq (by omega);have e2 : (r - 44032).tdiv 28 = (r - 44032) / 28 := qq (by omega);have e3 : (r - 44032).tmod 28 = (r - 44032) % 28 := qr (by omega);have w2 : i64.wrap ((r - 44032) / 588) = (r - 44032) / 588 := wz;have w3 : i64.wrap ((r - 44032) / 28) = (r - 44032) / 28 := wz;have e4 : ((r - 44032) / 28).tmod 21 = (r - 44032) / 28 % 21 := qr (by omega);rw [w0, w1, e1, e2, e3, w2, w3, e4];have w4 : i64.wrap (4352 + (r - 44032) / 588) = 4352 + (r - 44032) / 588 := wz;have w5 : i64.wrap (4449 + (r - 44032) / 28 % 21) = 4449 + (r - 44032) / 28 % 21 := wz;have w6 : i64.wrap (4519 + (r - 44032) % 28) = 4519 + (r - 44032) % 28 := wz;rw [w4, w5, w6];have w7 : i32.wrap (4352 + (r - 44032) / 588) = 4352 + (r - 44032) / 588 := dC (by omega) (by omega);have w8 : i32.wrap (4449 + (r - 44032) / 28 % 21) = 4449 + (r - 44032) / 28 % 21 := dC (by omega) (by omega);have w9 : i32.wrap (4519 + (r - 44032) % 28) = 4519 + (r - 44032) % 28 := dC (by omega) (by omega);rw [w7, w8, w9];by_cases hc : (r - 44032) % 28 = 0
 ·refine bR (by simp [hc]) (.inr ⟨by simp [eJ, hc, aA], rfl⟩)
 ·refine bW (by simp [hc]) ⟨?_, .inl ⟨false, false, rfl, by simp [eJ, hc, aA]⟩⟩;exact ⟨rfl, .inr (by simp), eV [_, _], eV [_], by simp⟩
section
variable {rows : List Row}
theorem pA (n f : Bool) (k r : Int) (hl : rows.length < 1000000) (hr : -9223372036854775808 <= r /\ r <= 9223372036854775807) : PCall qa 140 [.sl n f (bH rows), .int .i64 k, .int .i64 r] fun v => v = .int .i64 (aF rows k r) := by
 refine zt0 _ _ _ _ _ ?_; unfold zjc;refine (p33 n f rows k r (by omega)).mono ?_;rintro _ ⟨m, rfl, hm⟩;refine ⟨m, rfl, ?_⟩;rcases hm with ⟨rfl, hn⟩ | ⟨m0, hm, hr2, hf⟩
 ·refine bW (by simp) ?_;unfold aF cD;split
  ·rename_i p hp;split at hp
   ·rename_i hr2; rw [hn hr2.1 hr2.2] at hp; cases hp
   ·cases hp
  ·rfl
 ·refine bR (by simp; omega) ?_;have hg : (bH rows).getD m.toNat [] = oI rows[m.toNat] := c7 hm;refine ⟨cS qP m0 (by omega), rows[m.toNat].a, by rw [hg]; rfl, ?_⟩;unfold aF cD;rw [if_pos hr2, hf]
theorem nH (n f : Bool) (k r : Int) (hl : rows.length < 1000000) (hr : -2147483648 <= r /\ r <= 2147483647) : PCall qa 128 [.sl n f (bH rows), .int .i64 k, .int .i32 r] fun v => v = .int .i64 (aF rows k r) := by
 refine zt1 _ _ _ _ _ ?_; unfold zjd;have hw : i64.wrap r = r := wz;rw [hw];refine (pA n f k r hl (by omega)).mono ?_;rintro _ rfl;exact ⟨_, rfl, rfl⟩
theorem xA (n f : Bool) (r : Int) (hl : rows.length < 1000000) (hr : -2147483648 <= r /\ r <= 2147483647) : PCall qa 96 [.sl n f (bH rows), .int .i32 r] fun v => v = .int .i64 (aF rows 1 r) := by
 refine zt3 _ _ _ _ ?_; unfold zjf;refine (nH n f 1 r hl hr).mono ?_;rintro _ rfl;exact ⟨_, rfl, rfl⟩
theorem xB (hp : dN rows) (n f : Bool) (r : Int) (hl : rows.length < 1000000) (hr : -2147483648 <= r /\ r <= 2147483647) : PCall qa 101 [.sl n f (bH rows), .int .i32 r] fun v =>
 v = .tup [.int .i32 (aI rows r).1, .int .i32 (aI rows r).2, .bool (!decide (aI rows r = (0, 0)))] := by
 refine zt2 _ _ _ _ ?_; unfold zje;have hw : i64.wrap r = r := wz;rw [hw];refine (p33 n f rows 2 r (by omega)).mono ?_;rintro _ ⟨m, rfl, hm⟩;refine ⟨m, rfl, ?_⟩;rcases hm with ⟨rfl, hn⟩ | ⟨m0, hm, hr2, hf⟩
 ·refine bW (by simp) ?_
  have : aI rows r = (0, 0) := by
   unfold aI cD;split
   ·rename_i p hp;split at hp
    ·rename_i hr2; rw [hn hr2.1 hr2.2] at hp; cases hp
    ·cases hp
   ·rfl
  rw [this]; rfl
 ·refine bR (by simp; omega) ?_;have hg : (bH rows).getD m.toNat [] = oI rows[m.toNat] := c7 hm;have hfg : cD rows 2 r = some (rows[m.toNat].a, rows[m.toNat].b) := by unfold cD; rw [if_pos hr2]; exact hf
  have hne := zsa hp hfg;have hpg : aI rows r = (rows[m.toNat].a, rows[m.toNat].b) := by unfold aI; rw [hfg]
  have hrng := pX hp r;obtain ⟨y, hy, hk, ha, hb2, _⟩ := kX hfg;have hya := hp y hy hk;rw [hpg] at hrng hne ⊢;simp only at hrng ha hb2;have w1 : i32.wrap rows[m.toNat].a = rows[m.toNat].a := dC (by omega) (by omega);have w2 : i32.wrap rows[m.toNat].b = rows[m.toNat].b := dC (by omega) (by omega);have hix : aD (bH rows) m 5 := cS qP m0 (by omega);refine ⟨hix, rows[m.toNat].a, by rw [hg]; rfl, ?_⟩;refine bR (by simp; omega) ⟨hix, rows[m.toNat].a, by rw [hg]; rfl, hix, rows[m.toNat].b, by rw [hg]; rfl, ?_⟩;rw [w1, w2];simp [hne]
end
section
variable {rows : List Row}
theorem zwq (hp : dN rows) (n f : Bool) (hl : rows.length < 1000000) : ∀ (d : Nat) (r : Int), d <= 8 -> (-2147483648 <= r /\ r <= 2147483647) ->
 ACall qa 77 [.pv (.sl n f (bH rows)), .pv (.int .i32 r), .pv (.int .i64 d)] [] (zdd (aX rows d r)) := by
 intro d
 induction d with
 | zero =>
   intro r hd hr;refine FullR.mark (zjg _ _ _ _ _ ?_); unfold zbt;refine (pIs r).mono ?_;rintro _ rfl;refine ⟨_, rfl, ?_⟩;refine aC (fun hs => ?_) (fun hs => ?_)
   ·rw [kY hs];refine (zde hs).mono ?_;rintro r1 h' (⟨nl, rfl, rfl⟩ | ⟨rfl, rfl⟩)
    ·exact .inl ⟨(nl, _), ⟨rfl, rfl⟩, trivial, .inl ⟨true, nl, rfl, rfl⟩⟩
    ·exact .inr ⟨_, ⟨rfl, rfl⟩, trivial, .inr ⟨rfl, rfl⟩⟩
   ·simp only [qaj] at hs;refine (xB hp n f r hl hr).mono ?_;rintro _ rfl;refine ⟨_, rfl, rfl, _, rfl, _, rfl, _, rfl, _, rfl, _, rfl, _, rfl, ?_⟩;refine bW (by simp) (.inr ⟨?_, rfl⟩);simp [aX, hs, aA]
 | succ d ih =>
   intro r hd hr;have hg := pX hp r;have hw : i64.wrap (((d + 1 : Nat) : Int) - 1) = (d : Int) := by rw [show (((d + 1 : Nat) : Int) - 1) = (d : Int) by omega]; exact wz
   refine FullR.mark (zjg _ _ _ _ _ ?_); unfold zbt;rw [hw];refine (pIs r).mono ?_;rintro _ rfl;refine ⟨_, rfl, ?_⟩;refine aC (fun hs => ?_) (fun hs => ?_)
   ·rw [kY hs];refine (zde hs).mono ?_;rintro r1 h' (⟨nl, rfl, rfl⟩ | ⟨rfl, rfl⟩)
    ·exact .inl ⟨(nl, _), ⟨rfl, rfl⟩, trivial, .inl ⟨true, nl, rfl, rfl⟩⟩
    ·exact .inr ⟨_, ⟨rfl, rfl⟩, trivial, .inr ⟨rfl, rfl⟩⟩
   ·simp only [qaj] at hs;refine (xB hp n f r hl hr).mono ?_;rintro _ rfl;refine ⟨_, rfl, rfl, _, rfl, _, rfl, _, rfl, _, rfl, _, rfl, _, rfl, ?_⟩;by_cases h0 : aI rows r = (0, 0)
    ·refine bW (by simp [h0]) (.inr ⟨?_, rfl⟩);rw [pY hs h0]; rfl
    ·refine bR (by simp [h0]; omega) ?_;have hpow : 2 ^ d <= 2 ^ 8 := Nat.pow_le_pow_right (by omega) (by omega);have ea := mW rows d (aI rows r).1;have eb := mW rows d (aI rows r).2;have na := zia rows d (aI rows r).2
     have heq : aX rows (d + 1) r = aX rows d (aI rows r).1 ++ (if (aI rows r).2 = 0 then [] else aX rows d (aI rows r).2) := by
      rw [aX]; simp [hs, h0]
     rw [heq];refine (ih (aI rows r).1 (by omega) (by omega)).mono ?_
     have second : ∀ (K : LV -> Hp -> Prop), (aI rows r).2 ≠ 0 -> (∀ nl, K (.own 0) [.sl (21, 1) true nl (aA (aX rows d (aI rows r).2))]) -> K (.pv (.sl false true (aA (aX rows d (aI rows r).2)))) [] -> ACall qa 77 [.pv (.sl n f (bH rows)), .pv (.int .i32 (aI rows r).2), .pv (.int .i64 d)] [] K := fun K _ k1 k2 => by
      refine (ih (aI rows r).2 (by omega) (by omega)).mono ?_;rintro r1 h' (⟨nl, rfl, rfl⟩ | ⟨rfl, rfl⟩)
      ·exact k1 nl
      ·exact k2
     have sz : ∀ L : List Int, L.length <= 768 -> ((aA (aX rows d (aI rows r).1)).length + (aA L).length) * 4 <= 140737488355328 := fun L h => by simp only [bX]; omega
     rintro r1 h' (⟨nl, rfl, rfl⟩ | ⟨rfl, rfl⟩)
     ·refine .inl ⟨(nl, _), ⟨rfl, rfl⟩, trivial, aC (fun hb => ?_) (fun hb => ?_)⟩
      ·simp only [bne_iff_ne, ne_eq] at hb;rw [if_neg hb];refine second _ hb (fun nl2 => .inl ⟨(nl2, _), ⟨rfl, rfl⟩, trivial, ⟨eV _, sz _ (by omega)⟩, .inl ⟨true, _, rfl, by rw [kF]; rfl⟩⟩) (.inr ⟨_, ⟨rfl, rfl⟩, trivial, ⟨eV _, sz _ (by omega)⟩, .inl ⟨true, _, rfl, by rw [kF]; rfl⟩⟩)
      ·simp only [bne_iff_ne, ne_eq, qx] at hb;rw [if_pos hb, qai];exact .inl ⟨true, nl, rfl, rfl⟩
     ·refine .inr ⟨_, ⟨rfl, rfl⟩, trivial, aC (fun hb => ?_) (fun hb => ?_)⟩
      ·simp only [bne_iff_ne, ne_eq] at hb;rw [if_neg hb];have ap : gZ true (aA (aX rows d (aI rows r).1)) (aA (aX rows d (aI rows r).2)) 1 4 := ⟨rfl, .inr (by simpa [aA] using na), eV _, eV _, sz _ (by omega)⟩
       refine second _ hb (fun nl2 => .inl ⟨(nl2, _), ⟨rfl, rfl⟩, trivial, ap, .inl ⟨false, _, rfl, by rw [kF]; rfl⟩⟩) (.inr ⟨_, ⟨rfl, rfl⟩, trivial, ap, .inl ⟨false, _, rfl, by rw [kF]⟩⟩)
      ·simp only [bne_iff_ne, ne_eq, qx] at hb;rw [if_pos hb, qai];exact .inr ⟨rfl, rfl⟩
end
section
variable {rows : List Row} {tc tg tj tf tp : PV} (M S : List (PV × PV))
def zwr (T : PV) (L : List Int) (r1 : LV) (h' : Hp) : Prop := ∃ nl, r1 = .tup [] /\ h' = [.box [.pv T, .own 1], .sl (21, 1) true nl (aA L)]
theorem zws (hp : dN rows) (ht : Tri rows tc tg tj tf tp) : ∀ (d : Nat) (r : Int) (nl : Bool) (pre : List Int), d <= 8 -> (-2147483648 <= r /\ r <= 2147483647) -> pre.length + 3 * 2 ^ d <= 1000000000 ->
 ACall qa 81 [.box 0 0, .pv (.int .i32 r), .pv (.int .i64 d)] [.box [.pv (.ptr [tc, tg, tj, tf, tp, .mp M, .mp S]), .own 1], .sl (21, 1) false nl (aA pre)] (zwr (.ptr [tc, tg, tj, tf, tp, .mp M, .mp S]) (pre ++ aX rows d r)) := by
 intro d
 induction d with
 | zero =>
   intro r nl pre hd hr hb;refine zjh _ _ _ _ _ _ _ _ _ _ _ ?_; unfold zbu;refine (zlq r).mono ?_;intro v hv;by_cases hs : bZ r = true
   ·rw [if_pos hs] at hv; subst hv;refine ⟨_, _, _, rfl, bW (by simp) ⟨⟨eV _, ?_⟩, _, rfl, by rw [kY hs, kF]⟩⟩;have := sY r;simp only [bX]; omega
   ·rw [if_neg hs] at hv; subst hv;simp only [qaj] at hs;refine ⟨_, _, _, rfl, bR (by simp) ?_⟩;refine (zdb M S ht hr).mono ?_;rintro _ rfl;refine ⟨_, rfl, rfl, _, rfl, _, rfl, _, rfl, _, rfl, _, rfl, _, rfl, bW (by simp) ⟨⟨eV [_], ?_⟩, nl && false, rfl, ?_⟩⟩
    ·simp only [bX]; omega
    ·have : aX rows 0 r = [r] := by simp [aX, hs]
     rw [this, kF]; rfl
 | succ d ih =>
   intro r nl pre hd hr hb;have hg := pX hp r;have hw : i64.wrap (((d + 1 : Nat) : Int) - 1) = (d : Int) := by rw [show (((d + 1 : Nat) : Int) - 1) = (d : Int) by omega]; exact wz
   have h2 : 2 ^ (d + 1) = 2 * 2 ^ d := by rw [Nat.pow_succ]; omega
   have h3 : 1 <= 2 ^ d := Nat.one_le_two_pow;refine zjh _ _ _ _ _ _ _ _ _ _ _ ?_; unfold zbu;rw [hw];refine (zlq r).mono ?_;intro v hv;by_cases hs : bZ r = true
   ·rw [if_pos hs] at hv; subst hv;refine ⟨_, _, _, rfl, bW (by simp) ⟨⟨eV _, ?_⟩, _, rfl, by rw [kY hs, kF]⟩⟩;have := sY r;simp only [bX]; omega
   ·rw [if_neg hs] at hv; subst hv;simp only [qaj] at hs;refine ⟨_, _, _, rfl, bR (by simp) ?_⟩;refine (zdb M S ht hr).mono ?_;rintro _ rfl;refine ⟨_, rfl, rfl, _, rfl, _, rfl, _, rfl, _, rfl, _, rfl, _, rfl, ?_⟩;by_cases h0 : aI rows r = (0, 0)
    ·refine bW (by simp [h0]) ⟨⟨eV [_], ?_⟩, nl && false, rfl, ?_⟩
     ·simp only [bX]; omega
     ·rw [pY hs h0, kF]; rfl
    ·refine bR (by simp [h0]; omega) ?_;have ea := mW rows d (aI rows r).1
     have heq : aX rows (d + 1) r = aX rows d (aI rows r).1 ++ (if (aI rows r).2 = 0 then [] else aX rows d (aI rows r).2) := by
      rw [aX]; simp [hs, h0]
     rw [heq];refine (ih (aI rows r).1 nl pre (by omega) (by omega) (by omega)).mono ?_;rintro r1 h' ⟨nl1, rfl, rfl⟩;refine ⟨(nl1, _), ⟨rfl, rfl⟩, ⟨trivial, trivial, trivial⟩, aC (fun hb2 => ?_) (fun hb2 => ?_)⟩
     ·simp only [bne_iff_ne, ne_eq] at hb2;rw [if_neg hb2];refine (ih (aI rows r).2 nl1 (pre ++ aX rows d (aI rows r).1) (by omega) (by omega) (by rw [qd]; omega)).mono ?_;rintro r2 h2 ⟨nl2, rfl, rfl⟩;exact ⟨(nl2, _), ⟨rfl, rfl⟩, ⟨trivial, trivial, trivial⟩, nl2, rfl, by rw [<- qg]; rfl⟩
     ·simp only [bne_iff_ne, ne_eq, qx] at hb2;rw [if_pos hb2, qai];exact ⟨nl1, rfl, rfl⟩
end
end Go.Eng
namespace Go.Eng
open Go Go.Proofs Go.Eng.Rows Go.Eng.Srt
def lF (T : PV) (key : Int -> Int) : Prop := ∀ a b : Int, (-2147483648 <= a /\ a <= 2147483647) -> (-2147483648 <= b /\ b <= 2147483647) -> PCall qa 111 [.int .i32 a, .int .i32 b, .ptr [T]] fun v => ∃ n : Int, v = .int .i64 n /\ (n < 0 ↔ key a < key b)
theorem dP {D : List Int} {k : Nat} {v : Int} (h : D[k]? = some v) : (aA D).getD k [] = [.int .i32 v] := by
 simp [aA, qap, h]
theorem zlr (D : List Int) (k : Nat) (v : Int) : (aA D).set k [.int .i32 v] = aA (D.set k v) := by simp [aA, List.map_set]
theorem nJ {D : List Int} (h : R32 D) {k : Nat} {v : Int} (hv : D[k]? = some v) : -2147483648 <= v /\ v <= 2147483647 := h v (List.mem_of_getElem? hv)
theorem xC (D : List Int) {i j : Nat} {x y : Int} (hi : D[i]? = some x) (hj : D[j]? = some y) (hij : i ≠ j) (p q : Int) :
 ((aA D).set i (.int .i32 p :: zq (qc 1 ((aA D).getD i [])))).set j (.int .i32 q :: zq (qc 1 (((aA D).set i (.int .i32 p :: zq (qc 1 ((aA D).getD i [])))).getD j []))) = aA ((D.set i p).set j q) /\
 ((aA D).getD i []).length = 1 /\ ((aA D).getD j []).length = 1 /\ (((aA D).set i (.int .i32 p :: zq (qc 1 ((aA D).getD i [])))).getD j []).length = 1 := by
 rw [dP hi, dP hj];have e1 : (aA D).set i (.int .i32 p :: zq (qc 1 [PV.int .i32 x])) = aA (D.set i p) := zlr D i p;have hj2 : (D.set i p)[j]? = some y := by rw [List.getElem?_set_ne hij]; exact hj
 rw [e1, dP hj2];exact ⟨zlr _ _ _, rfl, rfl, rfl⟩
def zwt (key : Int -> Int) (nl : Bool) (T : PV) (P S R : List Int) (r : LV) (h' : Hp) : Prop := ∃ S' : List Int, r = .tup [] /\ h' = [.sl (21, 1) false nl (aA (P ++ S' ++ R)), .box [.pv T]] /\ Srtd key S' /\ Stab key S S'
section
variable {key : Int -> Int} {T : PV}
theorem zls (hc : lF T key) (lo hi : Nat) (nl : Bool) (P S R : List Int) (a b : Int) (ha : 0 <= a) (hP : P.length = lo + a.toNat) (hb : b = a + S.length) (hhi : (lo : Int) + b <= hi) (hr : R32 (P ++ S ++ R)) (hlen : hi < 1000000000000) :
 ACall qa 141 [.sub 0 lo hi, .pv (.int .i64 a), .pv (.int .i64 b), .fn 111 [.box 1 0]] [.sl (21, 1) false nl (aA (P ++ S ++ R)), .box [.pv T]] (zwt key nl T P S R) := by
 refine zts _ _ _ _ _ _ _
  (fun i s => ∃ A B, s = aA (P ++ (A ++ B) ++ R) /\ Srtd key A /\ Stab key S (A ++ B) /\ (i <= b -> (A.length : Int) = i - a) /\ a < i /\ (b < i -> S = [])) (fun i _ => (b + 1 - i).toNat)
  (fun i _ _ i' j s => i = i' /\ ∃ A x B C, s = aA (P ++ (A ++ x :: (B ++ C)) ++ R) /\ (A.length : Int) = j - a /\ (B.length : Int) = i - j /\ Srtd key (A ++ B) /\ (∀ y ∈ B, key x < key y) /\ Stab key S (A ++ x :: (B ++ C)) /\ a <= j) (fun _ j _ => (j - a).toNat) ?_
 unfold zi3;have hwa : i64.wrap (a + 1) = a + 1 := wz;rw [hwa];refine ⟨⟨rfl, S.take 1, S.drop 1, by rw [qn], ?_, by rw [qn]; exact .refl _, fun h => ?_, by omega, fun h => ?_⟩, ?_⟩
 ·cases S with
  | nil => exact List.Pairwise.nil
  | cons x l => exact List.pairwise_singleton _ _
 ·cases S with
  | nil => simp at hb; omega
  | cons x l => simp; omega
 ·cases S with
  | nil => rfl
  | cons x l => simp at hb; omega
 rintro i _ ⟨A, B, rfl, hA, hst, hAB, hi0, hi1⟩;refine aC (fun hc1 => ?_) (fun hc1 => ?_)
 ·simp only [aB] at hc1;have hlAB := hst.len;rw [qd] at hlAB;have hiw : i64.wrap (i + 1) = i + 1 := wz;cases B with
  | nil =>
    have := hAB (by omega);simp at hlAB; omega
  | cons x C =>
    have hAl := hAB (by omega);refine ⟨⟨rfl, rfl, A, x, [], C, rfl, hAl, by simp, by simpa using hA, fun y hy => (by cases hy), hst, by omega⟩, ?_⟩
    clear hst hlAB hA hAl hAB;rintro _ j _ ⟨rfl, A, x, B, C, rfl, hAl, hBl, hAB, hxB, hst, hja⟩
    have hR : R32 (P ++ (A ++ x :: (B ++ C)) ++ R) := fun y hy => hr y (by
     simp only [qah] at hy ⊢;rcases hy with (hy | hy) | hy
     ·exact .inl (.inl hy)
     ·exact .inl (.inr (hst.mem.2 (by simpa using hy)))
     ·exact .inr hy)
    have hlen2 := hst.len;simp only [qd, qm] at hlen2
    have fin : (∀ y ∈ A, key y <= key x) -> ∃ A' B', aA (P ++ (A ++ x :: (B ++ C)) ++ R) = aA (P ++ (A' ++ B') ++ R) /\ Srtd key A' /\ Stab key S (A' ++ B') /\ (i + 1 <= b -> (A'.length : Int) = i + 1 - a) /\ a < i + 1 /\ (b < i + 1 -> S = []) := fun hAx => by
     refine ⟨A ++ x :: B, C, by simp, ?_, by simpa using hst, fun _ => by simp; omega, by omega, fun h => by omega⟩
     obtain ⟨s1, s2, s3⟩ := kC.1 hAB;refine kC.2 ⟨s1, List.pairwise_cons.2 ⟨fun y hy => qbo (hxB y hy), s2⟩, fun y hy z hz => ?_⟩;rcases List.mem_cons.1 hz with rfl | hz
     ·exact hAx y hy
     ·exact s3 y hy z hz
    have hmu1 : (b + 1 - (i + 1)).toNat < (b + 1 - i).toNat := by omega
    refine aC (fun hc2 => ?_) (fun hc2 => ?_)
    ·simp only [aB, gt_iff_lt] at hc2;have hwj : i64.wrap (j - 1) = j - 1 := wz;rw [hwj]
     obtain ⟨A0, y, rfl⟩ : ∃ A0 y, A = A0 ++ [y] := by
      rcases qbb A with h | ⟨A0, y, h⟩
      ·subst h; simp at hAl; omega
      ·exact ⟨A0, y, by simpa using h⟩
     simp only [qd, qm, qw] at hAl;have hD : P ++ (A0 ++ [y] ++ x :: (B ++ C)) ++ R = (P ++ A0) ++ y :: x :: (B ++ C ++ R) := by simp
     have hk : lo + (j - 1).toNat = (P ++ A0).length := by simp; omega
     have hk1 : lo + j.toNat = (P ++ A0).length + 1 := by simp; omega
     have gy : (P ++ (A0 ++ [y] ++ x :: (B ++ C)) ++ R)[lo + (j - 1).toNat]? = some y := by rw [hD, hk]; simp
     have gx : (P ++ (A0 ++ [y] ++ x :: (B ++ C)) ++ R)[lo + j.toNat]? = some x := by
      rw [hD, hk1, qt (by omega)]; simp
     obtain ⟨t1, t2, t3, t4⟩ := xC _ gx gy (by omega) y x
     have hsw : ((P ++ (A0 ++ [y] ++ x :: (B ++ C)) ++ R).set (lo + j.toNat) y).set (lo + (j - 1).toNat) x = P ++ (A0 ++ x :: ((y :: B) ++ C)) ++ R := by
      rw [hD, hk, hk1, zib]; simp
     rw [hsw] at t1;refine ⟨⟨by omega, by omega, t2⟩, x, by rw [dP gx]; rfl, ⟨by omega, by omega, t3⟩, y, by rw [dP gy]; rfl, ?_⟩;refine (hc x y (nJ hR gx) (nJ hR gy)).mono ?_;rintro _ ⟨n2, rfl, hn2⟩;refine ⟨n2, rfl, rfl, aC (fun hlt => ?_) (fun hlt => ?_)⟩
     ·simp only [aB] at hlt;have hkey := hn2.1 hlt;refine ⟨⟨by omega, by omega, t3⟩, y, by rw [dP gy]; rfl, ⟨by omega, by omega, t2⟩, x, by rw [dP gx]; rfl, ⟨by omega, by omega, t2⟩, ?_⟩;have hsrt : Srtd key (A0 ++ y :: B) := by simpa using hAB
      have hst2 : Stab key S (A0 ++ x :: ((y :: B) ++ C)) := by
       refine hst.trans ?_;have := Stab.rot1 (key := key) (u := A0) (v := B ++ C) (a := [y]) (b := [x]) (fun p hp q hq => by simp at hp hq; subst hp; subst hq; omega);simpa using this
      have hle1 : 1 <= ((aA (P ++ (A0 ++ [y] ++ x :: (B ++ C)) ++ R)).getD (lo + j.toNat) []).length := by rw [t2]; exact qz _
      refine ⟨?_, ?_⟩
      all_goals
       refine ⟨⟨rfl, hle1⟩, ⟨by omega, by omega, t4⟩, ⟨rfl, by rw [t4]; exact qz _⟩, ?_⟩;exact ⟨rfl, ⟨rfl, A0, x, y :: B, C, t1, by omega, by rw [qm]; omega, hsrt, fun z hz => (by rcases List.mem_cons.1 hz with rfl | hz; exact hkey; exact hxB z hz), hst2, by omega⟩, by dsimp only; omega⟩
     ·simp only [aB] at hlt;have hkey : ¬ key x < key y := fun h => hlt (hn2.2 h);rw [hiw];refine ⟨rfl, fin fun z hz => ?_, hmu1⟩;rcases List.mem_append.1 hz with hz | hz
      ·have := (kC.1 (kC.1 hAB).1).2.2 z hz y (by simp);omega
      ·simp only [qam] at hz; subst hz; omega
    ·simp only [aB, gt_iff_lt] at hc2;have hA0 : A = [] := List.length_eq_zero_iff.1 (by omega);subst hA0;rw [hiw];exact ⟨rfl, fin fun z hz => (by cases hz), hmu1⟩
 ·simp only [aB] at hc1
  have hB : B = [] := by
   by_cases hib : i <= b
   ·have h1 := hAB hib;have h2 := hst.len;rw [qd] at h2;exact List.length_eq_zero_iff.1 (by omega)
   ·have h0 := hi1 (by omega);subst h0;have h2 := hst.len;rw [qd] at h2;exact List.length_eq_zero_iff.1 (by simp at h2; omega)
  subst hB;exact ⟨A, rfl, by simp, hA, by simpa using hst⟩
end
section
variable {T : PV}
theorem zdg (lo hi : Nat) (nl : Bool) (P X Q Y R : List Int) (a b n : Int) (ha : 0 <= a) (hP : P.length = lo + a.toNat) (hX : (X.length : Int) = n) (hY : (Y.length : Int) = n) (hQ : b = a + n + Q.length) (hhi : (lo : Int) + b + n <= hi) (hlen : hi < 1000000000000) :
 ACall qa 145 [.sub 0 lo hi, .pv (.int .i64 a), .pv (.int .i64 b), .pv (.int .i64 n), .fn 111 [.box 1 0]] [.sl (21, 1) false nl (aA (P ++ (X ++ (Q ++ (Y ++ R))))), .box [.pv T]]
  fun r h' => r = .tup [] /\ h' = [.sl (21, 1) false nl (aA (P ++ (Y ++ (Q ++ (X ++ R))))), .box [.pv T]] := by
 refine ztt _ _ _ _ _ _ _ _
  (fun i s => 0 <= i /\ i <= n /\ s = aA (P ++ (Y.take i.toNat ++ (X.drop i.toNat ++ (Q ++ (X.take i.toNat ++ (Y.drop i.toNat ++ R))))))) (fun i _ => (n - i).toNat) ?_
 unfold zi4;refine ⟨⟨rfl, qe _, by omega, by simp⟩, ?_⟩;rintro i _ ⟨i0, i1, rfl⟩;refine aC (fun hc => ?_) (fun hc => ?_)
 ·simp only [aB] at hc;have hix : i.toNat < X.length := by omega
  have hiy : i.toNat < Y.length := by omega
  have wb : i64.wrap (b + i) = b + i := wz;have wa : i64.wrap (a + i) = a + i := wz;have wi : i64.wrap (i + 1) = i + 1 := wz;have hn : (i + 1).toNat = i.toNat + 1 := by omega
  rw [wb, wa, wi];have lt : (Y.take i.toNat).length = i.toNat := by rw [ql]; omega
  have ltx : (X.take i.toNat).length = i.toNat := by rw [ql]; omega
  have dx : X.drop i.toNat = X[i.toNat] :: X.drop (i.toNat + 1) := qv hix;have dy : Y.drop i.toNat = Y[i.toNat] :: Y.drop (i.toNat + 1) := qv hiy;have tx : X.take (i.toNat + 1) = X.take i.toNat ++ [X[i.toNat]] := dI hix;have ty : Y.take (i.toNat + 1) = Y.take i.toNat ++ [Y[i.toNat]] := dI hiy;have ldx : (X.drop (i.toNat + 1)).length = X.length - (i.toNat + 1) := qak;obtain ⟨D, hDe⟩ : ∃ D, D = P ++ (Y.take i.toNat ++ (X.drop i.toNat ++ (Q ++ (X.take i.toNat ++ (Y.drop i.toNat ++ R))))) := ⟨_, rfl⟩;rw [<- hDe];have hD : D = (P ++ Y.take i.toNat) ++ X[i.toNat] :: ((X.drop (i.toNat + 1) ++ Q ++ X.take i.toNat) ++ Y[i.toNat] :: (Y.drop (i.toNat + 1) ++ R)) := by rw [hDe, dx, dy]; simp only [qg, qy, qk]
  have hka : lo + (a + i).toNat = (P ++ Y.take i.toNat).length := by rw [qd, lt]; omega
  have hkb : lo + (b + i).toNat = (P ++ Y.take i.toNat).length + 1 + (X.drop (i.toNat + 1) ++ Q ++ X.take i.toNat).length := by simp only [qd, lt, ltx, ldx]; omega
  have hsw : (D.set (lo + (a + i).toNat) Y[i.toNat]).set (lo + (b + i).toNat) X[i.toNat] = P ++ (Y.take (i + 1).toNat ++ (X.drop (i + 1).toNat ++ (Q ++ (X.take (i + 1).toNat ++ (Y.drop (i + 1).toNat ++ R))))) := by
   rw [hD, hka, hkb, zsl, hn, tx, ty]; simp only [qg, qy, qk]
  have gx : D[lo + (a + i).toNat]? = some X[i.toNat] := by rw [hD, hka, pZ]
  have gy : D[lo + (b + i).toNat]? = some Y[i.toNat] := by
   have e : ∀ (u v w : List Int) (x y : Int), u ++ x :: (v ++ y :: w) = (u ++ x :: v) ++ y :: w := fun u v w x y => by simp
   have e2 : ∀ (u v : List Int) (x : Int), u.length + 1 + v.length = (u ++ x :: v).length := fun u v x => by simp; omega
   rw [hD, hkb, e, e2 _ _ X[i.toNat], pZ]
  obtain ⟨t1, t2, t3, t4⟩ := xC _ gx gy (by omega) Y[i.toNat] X[i.toNat];rw [hsw] at t1;have hla : 1 <= ((aA D).getD (lo + (a + i).toNat) []).length := by rw [t2]; exact qz _
  refine ⟨⟨by omega, by omega, t3⟩, Y[i.toNat], by rw [dP gy]; rfl, ⟨by omega, by omega, t2⟩, X[i.toNat], by rw [dP gx]; rfl, ⟨by omega, by omega, t2⟩, ?_⟩;refine ⟨?_, ?_⟩
  all_goals exact ⟨⟨rfl, hla⟩, ⟨by omega, by omega, t4⟩, ⟨rfl, by rw [t4]; exact qz _⟩, rfl, ⟨by omega, by omega, t1⟩, by dsimp only; omega⟩
 ·simp only [aB] at hc;have hi : i = n := by omega
  subst hi;rw [qf (by omega), qf (by omega), qu (by omega), qu (by omega)];exact ⟨rfl, by simp⟩
theorem zwu (lo hi : Nat) (nl : Bool) (P X Y R : List Int) (a m b : Int) (ha : 0 <= a) (hP : P.length = lo + a.toNat) (hX : m = a + X.length) (hY : b = m + Y.length) (hx : X ≠ []) (hy : Y ≠ []) (hhi : (lo : Int) + b <= hi) (hlen : hi < 1000000000000) :
 ACall qa 144 [.sub 0 lo hi, .pv (.int .i64 a), .pv (.int .i64 m), .pv (.int .i64 b), .fn 111 [.box 1 0]] [.sl (21, 1) false nl (aA (P ++ (X ++ (Y ++ R)))), .box [.pv T]]
  fun r h' => r = .tup [] /\ h' = [.sl (21, 1) false nl (aA (P ++ (Y ++ (X ++ R)))), .box [.pv T]] := by
 have hxl := List.length_pos_iff.2 hx;have hyl := List.length_pos_iff.2 hy
 refine ztu _ _ _ _ _ _ _ _
  (fun i j s => 0 < i /\ 0 < j /\ i + j <= b - a /\ ∃ P1 U V R1 : List Int, s = aA (P1 ++ (U ++ (V ++ R1))) /\ P1 ++ (V ++ (U ++ R1)) = P ++ (Y ++ (X ++ R)) /\ (U.length : Int) = i /\ (V.length : Int) = j /\ ((P1.length : Int) + i = lo + m) /\ (lo : Int) + a <= P1.length /\ m + j <= b) (fun i j _ => (i + j).toNat) ?_
 unfold zi5;have w1 : i64.wrap (m - a) = X.length := by rw [wz]; omega
 have w2 : i64.wrap (b - m) = Y.length := by rw [wz]; omega
 rw [w1, w2];refine ⟨⟨rfl, by omega, by omega, by omega, P, X, Y, R, rfl, rfl, rfl, rfl, by omega, by omega, by omega⟩, ?_⟩;rintro i j _ ⟨i0, j0, hij, P1, U, V, R1, rfl, he, hU, hV, hP1, hPa, hmj⟩;have wmi : i64.wrap (m - i) = m - i := wz;rw [wmi];have lens : ∀ (s t : List Int), s.length = t.length -> (aA s).length = (aA t).length := fun s t h => by simp [h]
 refine aC (fun hne => ?_) (fun hne => ?_)
 ·simp only [bne_iff_ne, ne_eq] at hne;refine aC (fun hgt => ?_) (fun hgt => ?_)
  ·simp only [aB, gt_iff_lt] at hgt;have w3 : i64.wrap (i - j) = i - j := wz;rw [w3];obtain ⟨U1, U2, rfl, hU1⟩ : ∃ U1 U2, U = U1 ++ U2 /\ (U1.length : Int) = j := ⟨U.take j.toNat, U.drop j.toNat, by rw [qn], by rw [ql]; omega⟩;rw [qd] at hU;have := zdg (T := T) lo hi nl P1 U1 U2 V R1 (m - i) m j (by omega) (by omega) hU1 hV (by omega) (by omega) hlen;rw [show P1 ++ (U1 ++ U2 ++ (V ++ R1)) = P1 ++ (U1 ++ (U2 ++ (V ++ R1))) by simp];refine this.mono ?_;rintro r h' ⟨rfl, rfl⟩;refine ⟨_, ⟨rfl, rfl⟩, ⟨trivial, ⟨rfl, rfl, lens _ _ (by simp only [qd]; omega)⟩, trivial⟩, rfl, ⟨by omega, by omega, by omega, P1 ++ V, U2, U1, R1, by simp, by rw [<- he]; simp, by omega, hU1, by rw [qd]; omega, by rw [qd]; omega, by omega⟩, by dsimp only; omega⟩
  ·simp only [aB, gt_iff_lt] at hgt;have w3 : i64.wrap (j - i) = j - i := wz;have w4 : i64.wrap (m + j) = m + j := wz;have w5 : i64.wrap (m + j - i) = m + j - i := wz;rw [w4, w5, w3];obtain ⟨V1, V2, rfl, hV1⟩ : ∃ V1 V2, V = V1 ++ V2 /\ (V1.length : Int) = j - i := ⟨V.take (j - i).toNat, V.drop (j - i).toNat, by rw [qn], by rw [ql]; omega⟩;rw [qd] at hV;have := zdg (T := T) lo hi nl P1 U V1 V2 R1 (m - i) (m + j - i) i (by omega) (by omega) hU (by omega) (by omega) (by omega) hlen;rw [show P1 ++ (U ++ (V1 ++ V2 ++ R1)) = P1 ++ (U ++ (V1 ++ (V2 ++ R1))) by simp];refine this.mono ?_;rintro r h' ⟨rfl, rfl⟩;refine ⟨_, ⟨rfl, rfl⟩, ⟨trivial, ⟨rfl, rfl, lens _ _ (by simp only [qd]; omega)⟩, trivial⟩, rfl, ⟨by omega, by omega, by omega, P1, V2, V1, U ++ R1, by simp, by rw [<- he]; simp, by omega, hV1, by omega, by omega, by omega⟩, by dsimp only; omega⟩
 ·simp only [bne_iff_ne, ne_eq, qx] at hne;have := zdg (T := T) lo hi nl P1 U [] V R1 (m - i) m i (by omega) (by omega) hU (by omega) (by simp) (by omega) hlen;refine ACall.mono (by simpa using this) ?_
  rintro r h' ⟨rfl, rfl⟩;refine ⟨_, ⟨rfl, rfl⟩, ⟨trivial, ⟨rfl, rfl, lens _ _ (by simp only [qd]; omega)⟩, trivial⟩, rfl, ?_⟩;rw [<- he]
end
def lG (key : Int -> Int) (nl : Bool) (T : PV) (P S R : List Int) (r : LV) (h' : Hp) : Prop := ∃ S' : List Int, r = .tup [] /\ h' = [.sl (21, 1) false nl (aA (P ++ (S' ++ R))), .box [.pv T]] /\ Srtd key S' /\ Stab key S S'
section
variable {key : Int -> Int} {T : PV}
theorem tN {i j : Int} (h0 : 0 <= i) (h1 : i <= j) (h2 : j <= 1000000000000) : i64.wrap ((IntKind.u64.wrap (i64.wrap (i + j))).fdiv (2 ^ 1)) = (i + j) / 2 := zkd h0 h1 (by omega)
theorem zwv (hc : lF T key) (lo hi : Nat) (nl : Bool) (P Y R : List Int) (x : Int) (a m b : Int) (ha : 0 <= a) (hP : P.length = lo + a.toNat) (hm : m = a + 1) (hb : b = m + Y.length) (hhi : (lo : Int) + b <= hi) (hr : R32 (P ++ ([x] ++ (Y ++ R)))) (hlen : hi < 1000000000000) (hY : Srtd key Y) :
 ACall qa 142 [.sub 0 lo hi, .pv (.int .i64 a), .pv (.int .i64 m), .pv (.int .i64 b), .fn 111 [.box 1 0]] [.sl (21, 1) false nl (aA (P ++ ([x] ++ (Y ++ R)))), .box [.pv T]] (lG key nl T P ([x] ++ Y) R) := by
 have hat : ∀ h : Int, m <= h -> h < b -> (P ++ ([x] ++ (Y ++ R)))[lo + h.toNat]? = some (Y.getD (h - m).toNat 0) := fun h h1 h2 => by
  have e : P ++ ([x] ++ (Y ++ R)) = (P ++ [x]) ++ (Y ++ R) := by simp
  rw [e, qt (by simp; omega), show lo + h.toNat - (P ++ [x]).length = (h - m).toNat by simp; omega, qaf (by omega)];exact s7 (by omega)
 have hax : (P ++ ([x] ++ (Y ++ R)))[lo + a.toNat]? = some x := by rw [<- hP]; exact pZ P (Y ++ R) x
 refine zbo _ _ _ _ _ _ _ _
  (fun i j s => s = aA (P ++ ([x] ++ (Y ++ R))) /\ m <= i /\ i <= j /\ j <= b /\ (∀ h, m <= h -> h < i -> key (Y.getD (h - m).toNat 0) < key x) /\ (∀ h, j <= h -> h < b -> ¬ key (Y.getD (h - m).toNat 0) < key x)) (fun i j _ => (j - i).toNat)
  (fun i k s => m <= i /\ i <= b /\ (∀ h, m <= h -> h < i -> key (Y.getD (h - m).toNat 0) < key x) /\ (∀ h, i <= h -> h < b -> ¬ key (Y.getD (h - m).toNat 0) < key x) /\ a <= k /\ k <= i - 1 /\ s = aA (P ++ (Y.take (k - a).toNat ++ (x :: (Y.drop (k - a).toNat ++ R))))) (fun i k _ => (i - 1 - k).toNat)
  (fun _ _ _ => True) (fun _ _ _ => 0) (fun _ _ _ => True) (fun _ _ _ => 0) (fun _ _ _ => True) (fun _ _ _ => 0) ?_
 unfold wR;have w1 : i64.wrap (m - a) = 1 := by rw [wz]; omega
 refine bW (by rw [w1]; rfl) ⟨⟨rfl, rfl, qe _, by omega, qe _, fun h h1 h2 => by omega, fun h h1 h2 => by omega⟩, ?_⟩;rintro i j _ ⟨rfl, i0, hij, hjb, hlt, hge⟩;refine aC (fun hc1 => ?_) (fun hc1 => ?_)
 ·simp only [aB] at hc1;rw [tN (by omega) (by omega) (by omega)];obtain ⟨h, hh⟩ : ∃ h, h = (i + j) / 2 := ⟨_, rfl⟩;rw [<- hh];have b1 : i <= h /\ h < j := by omega
  have gy := hat h (by omega) (by omega);have wh : i64.wrap (h + 1) = h + 1 := wz;rw [wh];refine ⟨⟨by omega, by omega, by rw [dP gy]; rfl⟩, _, by rw [dP gy]; rfl, ⟨by omega, by omega, by rw [dP hax]; rfl⟩, x, by rw [dP hax]; rfl, ?_⟩;refine (hc _ x (nJ hr gy) (nJ hr hax)).mono ?_;rintro _ ⟨n2, rfl, hn2⟩;refine ⟨n2, rfl, rfl, aC (fun hl => ?_) (fun hl => ?_)⟩
  ·simp only [aB] at hl;have hk := hn2.1 hl;refine ⟨rfl, ⟨rfl, by omega, by omega, by omega, fun q q1 q2 => ?_, hge⟩, by dsimp only; omega⟩;have := hY.get (i := (q - m).toNat) (j := (h - m).toNat) (by omega) (by omega);omega
  ·simp only [aB] at hl;have hk : ¬ key (Y.getD (h - m).toNat 0) < key x := fun h => hl (hn2.2 h);refine ⟨rfl, ⟨rfl, by omega, by omega, by omega, hlt, fun q q1 q2 => ?_⟩, by dsimp only; omega⟩;have := hY.get (i := (h - m).toNat) (j := (q - m).toNat) (by omega) (by omega);omega
 ·simp only [aB] at hc1;have : i = j := by omega
  subst this;refine ⟨⟨rfl, i0, hjb, hlt, hge, qe _, by omega, by simp⟩, ?_⟩;clear hc1 hij hjb hlt hge i0;rintro i k _ ⟨i0, ib, hlt, hge, k0, k1, rfl⟩;have wi : i64.wrap (i - 1) = i - 1 := wz;rw [wi];refine aC (fun hc2 => ?_) (fun hc2 => ?_)
  ·simp only [aB] at hc2;have wk : i64.wrap (k + 1) = k + 1 := wz;rw [wk];have hlk : (k - a).toNat < Y.length := by omega
   have hn : (k + 1 - a).toNat = (k - a).toNat + 1 := by omega
   have dy : Y.drop (k - a).toNat = Y[(k - a).toNat] :: Y.drop ((k - a).toNat + 1) := qv hlk;have ty : Y.take ((k - a).toNat + 1) = Y.take (k - a).toNat ++ [Y[(k - a).toNat]] := dI hlk;have lt : (Y.take (k - a).toNat).length = (k - a).toNat := by rw [ql]; omega
   obtain ⟨D, hDe⟩ : ∃ D, D = P ++ (Y.take (k - a).toNat ++ (x :: (Y.drop (k - a).toNat ++ R))) := ⟨_, rfl⟩
   have hRD : R32 D := fun y hy => hr y (by
    rw [hDe] at hy;simp only [qah, qao] at hy ⊢;rcases hy with hy | hy | hy | hy | hy
    ·exact .inl hy
    ·exact .inr (.inr (.inl (qaq hy)))
    ·exact .inr (.inl (by simp [hy]))
    ·exact .inr (.inr (.inl (qbc hy)))
    ·exact .inr (.inr (.inr hy)))
   rw [<- hDe];have hD : D = (P ++ Y.take (k - a).toNat) ++ x :: Y[(k - a).toNat] :: (Y.drop ((k - a).toNat + 1) ++ R) := by rw [hDe, dy]; simp only [qg, qy, qk]
   have hk0 : lo + k.toNat = (P ++ Y.take (k - a).toNat).length := by rw [qd, lt]; omega
   have hk1 : lo + (k + 1).toNat = (P ++ Y.take (k - a).toNat).length + 1 := by rw [qd, lt]; omega
   have gx : D[lo + k.toNat]? = some x := by rw [hD, hk0, pZ]
   have gy : D[lo + (k + 1).toNat]? = some Y[(k - a).toNat] := by rw [hD, hk1, qt (by omega)]; simp
   have hsw : (D.set (lo + k.toNat) Y[(k - a).toNat]).set (lo + (k + 1).toNat) x = P ++ (Y.take (k + 1 - a).toNat ++ (x :: (Y.drop (k + 1 - a).toNat ++ R))) := by
    rw [hD, hk0, hk1, zsm, hn, ty]; simp only [qg, qy, qk]
   obtain ⟨t1, t2, t3, t4⟩ := xC D gx gy (by omega) Y[(k - a).toNat] x;rw [hsw] at t1;have hla : 1 <= ((aA D).getD (lo + k.toNat) []).length := by rw [t2]; exact qz _
   refine ⟨⟨by omega, by omega, t3⟩, Y[(k - a).toNat], by rw [dP gy]; rfl, ⟨by omega, by omega, t2⟩, x, by rw [dP gx]; rfl, ⟨by omega, by omega, t2⟩, ?_⟩;refine ⟨?_, ?_⟩
   all_goals exact ⟨⟨rfl, hla⟩, ⟨by omega, by omega, t4⟩, ⟨rfl, by rw [t4]; exact qz _⟩, rfl, ⟨i0, ib, hlt, hge, by omega, by omega, t1⟩, by dsimp only; omega⟩
  ·simp only [aB] at hc2;have hk : (k - a).toNat = (i - m).toNat := by omega
   rw [hk]
   have h1 : ∀ y ∈ Y.take (i - m).toNat, key y < key x := fun y hy => by
    obtain ⟨q, hq, rfl⟩ := mX hy;rw [ql] at hq;have e : (Y.take (i - m).toNat).getD q 0 = Y.getD q 0 := by simp only [qap]; rw [qan (by omega)]
    rw [e];have := hlt (m + q) (by omega) (by omega);rwa [show (m + (q : Int) - m).toNat = q by omega] at this
   have h2 : ∀ y ∈ Y.drop (i - m).toNat, key x <= key y := fun y hy => by
    obtain ⟨q, hq, rfl⟩ := mX hy;rw [qak] at hq;have e : (Y.drop (i - m).toNat).getD q 0 = Y.getD ((i - m).toNat + q) 0 := by simp only [qap, qar]
    rw [e];have := hge (i + q) (by omega) (by omega);rw [show (i + (q : Int) - m).toNat = (i - m).toNat + q by omega] at this;omega
   have hYs : Srtd key (Y.take (i - m).toNat ++ Y.drop (i - m).toNat) := by rw [qn]; exact hY
   refine ⟨Y.take (i - m).toNat ++ x :: Y.drop (i - m).toNat, rfl, by simp, zic hYs (fun y hy => qbo (h1 y hy)) h2, ?_⟩;have := Stab.rot1 (key := key) (u := []) (v := Y.drop (i - m).toNat) (a := [x]) (b := Y.take (i - m).toNat) (fun p hp q hq => by simp at hp; subst hp; have := h1 q hq; omega);simpa using this
end
section
variable {key : Int -> Int} {T : PV}
theorem zww (hc : lF T key) (lo hi : Nat) (nl : Bool) (P X R : List Int) (y : Int) (a m b : Int) (ha : 0 <= a) (hP : P.length = lo + a.toNat) (hm : m = a + X.length) (hX1 : X.length ≠ 1) (hb : b = m + 1) (hhi : (lo : Int) + b <= hi) (hr : R32 (P ++ (X ++ ([y] ++ R)))) (hlen : hi < 1000000000000) (hX : Srtd key X) :
 ACall qa 142 [.sub 0 lo hi, .pv (.int .i64 a), .pv (.int .i64 m), .pv (.int .i64 b), .fn 111 [.box 1 0]] [.sl (21, 1) false nl (aA (P ++ (X ++ ([y] ++ R)))), .box [.pv T]] (lG key nl T P (X ++ [y]) R) := by
 have hat : ∀ h : Int, a <= h -> h < m -> (P ++ (X ++ ([y] ++ R)))[lo + h.toNat]? = some (X.getD (h - a).toNat 0) := fun h h1 h2 => by
  rw [qt (by omega), show lo + h.toNat - P.length = (h - a).toNat by omega, qaf (by omega)];exact s7 (by omega)
 have hay : (P ++ (X ++ ([y] ++ R)))[lo + m.toNat]? = some y := by
  have e : P ++ (X ++ ([y] ++ R)) = (P ++ X) ++ y :: R := by simp
  rw [e, show lo + m.toNat = (P ++ X).length by simp; omega, pZ]
 refine zbo _ _ _ _ _ _ _ _
  (fun _ _ _ => True) (fun _ _ _ => 0) (fun _ _ _ => True) (fun _ _ _ => 0)
  (fun i j s => s = aA (P ++ (X ++ ([y] ++ R))) /\ a <= i /\ i <= j /\ j <= m /\ (∀ h, a <= h -> h < i -> ¬ key y < key (X.getD (h - a).toNat 0)) /\ (∀ h, j <= h -> h < m -> key y < key (X.getD (h - a).toNat 0))) (fun i j _ => (j - i).toNat)
  (fun i k s => a <= i /\ i <= m /\ (∀ h, a <= h -> h < i -> ¬ key y < key (X.getD (h - a).toNat 0)) /\ (∀ h, i <= h -> h < m -> key y < key (X.getD (h - a).toNat 0)) /\ i <= k /\ k <= m /\ s = aA (P ++ (X.take (k - a).toNat ++ (y :: (X.drop (k - a).toNat ++ R))))) (fun i k _ => (k - i).toNat)
  (fun _ _ _ => True) (fun _ _ _ => 0) ?_
 unfold wR;have w1 : i64.wrap (m - a) = X.length := by rw [wz]; omega
 have w2 : i64.wrap (b - m) = 1 := by rw [wz]; omega
 refine bR (by rw [w1]; simp; omega) (bW (by rw [w2]; rfl) ⟨⟨rfl, rfl, qe _, by omega, qe _, fun h h1 h2 => by omega, fun h h1 h2 => by omega⟩, ?_⟩);rintro i j _ ⟨rfl, i0, hij, hjb, hlt, hge⟩;refine aC (fun hc1 => ?_) (fun hc1 => ?_)
 ·simp only [aB] at hc1;rw [tN (by omega) (by omega) (by omega)];obtain ⟨h, hh⟩ : ∃ h, h = (i + j) / 2 := ⟨_, rfl⟩;rw [<- hh];have b1 : i <= h /\ h < j := by omega
  have gx := hat h (by omega) (by omega);have wh : i64.wrap (h + 1) = h + 1 := wz;rw [wh];refine ⟨⟨by omega, by omega, by rw [dP hay]; rfl⟩, y, by rw [dP hay]; rfl, ⟨by omega, by omega, by rw [dP gx]; rfl⟩, _, by rw [dP gx]; rfl, ?_⟩;refine (hc y _ (nJ hr hay) (nJ hr gx)).mono ?_;rintro _ ⟨n2, rfl, hn2⟩;refine ⟨n2, rfl, rfl, aC (fun hl => ?_) (fun hl => ?_)⟩
  ·simp only [qo, dJ] at hl;have hk : ¬ key y < key (X.getD (h - a).toNat 0) := fun h => hl (hn2.2 h);refine ⟨rfl, ⟨rfl, by omega, by omega, by omega, fun q q1 q2 => ?_, hge⟩, by dsimp only; omega⟩;have := hX.get (i := (q - a).toNat) (j := (h - a).toNat) (by omega) (by omega);omega
  ·simp only [qo, dJ, qx] at hl;have hk := hn2.1 hl;refine ⟨rfl, ⟨rfl, by omega, by omega, by omega, hlt, fun q q1 q2 => ?_⟩, by dsimp only; omega⟩;have := hX.get (i := (h - a).toNat) (j := (q - a).toNat) (by omega) (by omega);omega
 ·simp only [aB] at hc1;have : i = j := by omega
  subst this;have hml : (m - a).toNat = X.length := by omega
  refine ⟨⟨rfl, i0, hjb, hlt, hge, by omega, qe _, by rw [hml]; simp⟩, ?_⟩;clear hc1 hij hjb hlt hge i0;rintro i k _ ⟨i0, ib, hlt, hge, k0, k1, rfl⟩;refine aC (fun hc2 => ?_) (fun hc2 => ?_)
  ·simp only [aB, gt_iff_lt] at hc2;have wk : i64.wrap (k - 1) = k - 1 := wz;rw [wk];have hlk : (k - 1 - a).toNat < X.length := by omega
   have hn : (k - a).toNat = (k - 1 - a).toNat + 1 := by omega
   have dx : X.drop (k - 1 - a).toNat = X[(k - 1 - a).toNat] :: X.drop ((k - 1 - a).toNat + 1) := qv hlk;have tx : X.take ((k - 1 - a).toNat + 1) = X.take (k - 1 - a).toNat ++ [X[(k - 1 - a).toNat]] := dI hlk;have lt : (X.take (k - 1 - a).toNat).length = (k - 1 - a).toNat := by rw [ql]; omega
   obtain ⟨D, hDe⟩ : ∃ D, D = P ++ (X.take (k - a).toNat ++ (y :: (X.drop (k - a).toNat ++ R))) := ⟨_, rfl⟩
   have hRD : R32 D := fun z hz => hr z (by
    rw [hDe] at hz;simp only [qah, qao] at hz ⊢;rcases hz with hz | hz | hz | hz | hz
    ·exact .inl hz
    ·exact .inr (.inl (qaq hz))
    ·exact .inr (.inr (.inl (by simp [hz])))
    ·exact .inr (.inl (qbc hz))
    ·exact .inr (.inr (.inr hz)))
   rw [<- hDe];have hD : D = (P ++ X.take (k - 1 - a).toNat) ++ X[(k - 1 - a).toNat] :: y :: (X.drop ((k - 1 - a).toNat + 1) ++ R) := by rw [hDe, hn, tx]; simp only [qg, qy, qk]
   have hk0 : lo + (k - 1).toNat = (P ++ X.take (k - 1 - a).toNat).length := by rw [qd, lt]; omega
   have hk1 : lo + k.toNat = (P ++ X.take (k - 1 - a).toNat).length + 1 := by rw [qd, lt]; omega
   have gx : D[lo + (k - 1).toNat]? = some X[(k - 1 - a).toNat] := by rw [hD, hk0, pZ]
   have gy : D[lo + k.toNat]? = some y := by rw [hD, hk1, qt (by omega)]; simp
   have hsw : (D.set (lo + k.toNat) X[(k - 1 - a).toNat]).set (lo + (k - 1).toNat) y = P ++ (X.take (k - 1 - a).toNat ++ (y :: (X.drop (k - 1 - a).toNat ++ R))) := by
    rw [hD, hk0, hk1, zib, dx]; simp only [qg, qy, qk]
   obtain ⟨t1, t2, t3, t4⟩ := xC D gy gx (by omega) X[(k - 1 - a).toNat] y;rw [hsw] at t1;have hla : 1 <= ((aA D).getD (lo + k.toNat) []).length := by rw [t2]; exact qz _
   refine ⟨⟨by omega, by omega, t3⟩, X[(k - 1 - a).toNat], by rw [dP gx]; rfl, ⟨by omega, by omega, t2⟩, y, by rw [dP gy]; rfl, ⟨by omega, by omega, t2⟩, ?_⟩;refine ⟨?_, ?_⟩
   all_goals exact ⟨⟨rfl, hla⟩, ⟨by omega, by omega, t4⟩, ⟨rfl, by rw [t4]; exact qz _⟩, rfl, ⟨i0, ib, hlt, hge, by omega, by omega, t1⟩, by dsimp only; omega⟩
  ·simp only [aB, gt_iff_lt] at hc2;have hk : k = i := by omega
   subst hk
   have h1 : ∀ z ∈ X.take (k - a).toNat, key z <= key y := fun z hz => by
    obtain ⟨q, hq, rfl⟩ := mX hz;rw [ql] at hq;have e : (X.take (k - a).toNat).getD q 0 = X.getD q 0 := by simp only [qap]; rw [qan (by omega)]
    rw [e];have := hlt (a + q) (by omega) (by omega);rw [show (a + (q : Int) - a).toNat = q by omega] at this;omega
   have h2 : ∀ z ∈ X.drop (k - a).toNat, key y < key z := fun z hz => by
    obtain ⟨q, hq, rfl⟩ := mX hz;rw [qak] at hq;have e : (X.drop (k - a).toNat).getD q 0 = X.getD ((k - a).toNat + q) 0 := by simp only [qap, qar]
    rw [e];have := hge (k + q) (by omega) (by omega);rwa [show (k + (q : Int) - a).toNat = (k - a).toNat + q by omega] at this
   have hXs : Srtd key (X.take (k - a).toNat ++ X.drop (k - a).toNat) := by rw [qn]; exact hX
   refine ⟨X.take (k - a).toNat ++ y :: X.drop (k - a).toNat, rfl, by simp, zic hXs h1 (fun z hz => qbo (h2 z hz)), ?_⟩;have := Stab.rot1 (key := key) (u := X.take (k - a).toNat) (v := []) (a := X.drop (k - a).toNat) (b := [y]) (fun p hp q hq => by simp at hq; subst hq; have := h2 p hp; omega);rw [<- qg, qn] at this;simpa using this
end
section
variable {key : Int -> Int} {T : PV} (lo hi : Nat) (nl : Bool)
abbrev lH (nl : Bool) (T : PV) (t : List (List PV)) : Hp := [.sl (21, 1) false nl t, .box [.pv T]]
abbrev zdh (nl : Bool) (T : PV) (t : List (List PV)) (K : List (List PV) -> Prop) : LV -> Hp -> Prop := fun r h' => ∃ t1, (r = .tup [] /\ h' = lH nl T t1) /\ (True /\ ((21, 1) = (21, 1) /\ nl = nl /\ t.length = t1.length) /\ True) /\ K t1
def xD (T : PV) (mid e b : Int) (Q : LV -> Hp -> Prop) (t : List (List PV)) : Prop :=
 if (decide (mid < e) && decide (e < b)) = true then ACall qa 142 [.sub 0 lo hi, .pv (.int .i64 mid), .pv (.int .i64 e), .pv (.int .i64 b), .fn 111 [.box 1 0]] (lH nl T t) (zdh nl T t fun t1 => Q (.tup []) (lH nl T t1)) else Q (.tup []) (lH nl T t)
def xE (T : PV) (a s mid e b : Int) (Q : LV -> Hp -> Prop) (t : List (List PV)) : Prop :=
 if (decide (a < s) && decide (s < mid)) = true then ACall qa 142 [.sub 0 lo hi, .pv (.int .i64 a), .pv (.int .i64 s), .pv (.int .i64 mid), .fn 111 [.box 1 0]] (lH nl T t) (zdh nl T t (xD lo hi nl T mid e b Q)) else xD lo hi nl T mid e b Q t
def zdi (T : PV) (a s m mid e b : Int) (Q : LV -> Hp -> Prop) (t : List (List PV)) : Prop :=
 if (decide (s < m) && decide (m < e)) = true then ACall qa 144 [.sub 0 lo hi, .pv (.int .i64 s), .pv (.int .i64 m), .pv (.int .i64 e), .fn 111 [.box 1 0]] (lH nl T t) (zdh nl T t (xE lo hi nl T a s mid e b Q)) else xE lo hi nl T a s mid e b Q t
theorem R32.of {l m : List Int} (h : R32 l) (hm : ∀ x ∈ m, x ∈ l) : R32 m := fun x hx => h x (hm x hx)
def zlt (T : PV) (key : Int -> Int) (N : Int) : Prop := ∀ (P X Y R : List Int) (a m b : Int), 0 <= a -> P.length = lo + a.toNat -> m = a + X.length -> b = m + Y.length -> X ≠ [] -> Y ≠ [] -> (lo : Int) + b <= hi -> R32 (P ++ (X ++ (Y ++ R))) -> Srtd key X -> Srtd key Y -> b - a < N ->
 ACall qa 142 [.sub 0 lo hi, .pv (.int .i64 a), .pv (.int .i64 m), .pv (.int .i64 b), .fn 111 [.box 1 0]] (lH nl T (aA (P ++ (X ++ (Y ++ R))))) (lG key nl T P (X ++ Y) R)
theorem zwx {N : Int} (ih : zlt lo hi nl T key N) (hlen : hi < 1000000000000) (P X1 X2 Y1 Y2 R : List Int) (a s m mid e b : Int) (ha : 0 <= a) (hP : P.length = lo + a.toNat) (h1 : s = a + X1.length) (h2 : m = s + X2.length) (h3 : e = m + Y1.length) (h4 : b = e + Y2.length) (h5 : mid = s + Y1.length)
 (hhi : (lo : Int) + b <= hi) (hr : R32 (P ++ (X1 ++ (X2 ++ (Y1 ++ (Y2 ++ R)))))) (hX : Srtd key (X1 ++ X2)) (hY : Srtd key (Y1 ++ Y2)) (f1 : ∀ x ∈ X2, ∀ y ∈ Y1, key y < key x) (f2 : ∀ x ∈ X1, ∀ y ∈ Y2, key x <= key y) (n1 : mid - a < N) (n2 : b - mid < N) :
 zdi lo hi nl T a s m mid e b (lG key nl T P ((X1 ++ X2) ++ (Y1 ++ Y2)) R) (aA (P ++ (X1 ++ (X2 ++ (Y1 ++ (Y2 ++ R)))))) := by
 have hl1 : ∀ {u v : List Int}, u.length = v.length -> (aA u).length = (aA v).length := fun h => by simp [h]
 obtain ⟨x1, x2, x3⟩ := kC.1 hX;obtain ⟨y1, y2, y3⟩ := kC.1 hY
 have t3 : ∀ S1 : List Int, Srtd key S1 -> Stab key (X1 ++ Y1) S1 -> xD lo hi nl T mid e b (lG key nl T P ((X1 ++ X2) ++ (Y1 ++ Y2)) R) (aA (P ++ (S1 ++ (X2 ++ (Y2 ++ R))))) := fun S1 s1 k1 => by
  have kl := k1.len;rw [qd] at kl
  have fin : ∀ S2 : List Int, Srtd key S2 -> Stab key (X2 ++ Y2) S2 -> lG key nl T P ((X1 ++ X2) ++ (Y1 ++ Y2)) R (.tup []) (lH nl T (aA (P ++ (S1 ++ (S2 ++ R))))) := fun S2 s2 k2 => by
   obtain ⟨c1, c2⟩ := zsn hX hY f1 f2 s1 k1 s2 k2;exact ⟨S1 ++ S2, rfl, by simp, c1, c2⟩
  unfold xD;refine aC (fun hc => ?_) (fun hc => ?_)
  ·simp only [qh, aB] at hc;have nx : X2 ≠ [] := fun h => by subst h; simp at h2; omega
   have ny : Y2 ≠ [] := fun h => by subst h; simp at h4; omega
   have := ih (P ++ S1) X2 Y2 R mid e b (by omega) (by rw [qd]; omega) (by omega) h4 nx ny hhi (hr.of fun x hx => by
    simp only [qah] at hx ⊢;rcases hx with (hx | hx) | hx | hx | hx
    ·exact .inl hx
    ·rcases List.mem_append.1 (k1.mem.2 hx) with hx | hx
     ·exact .inr (.inl hx)
     ·exact .inr (.inr (.inr (.inl hx)))
    ·exact .inr (.inr (.inl hx))
    ·exact .inr (.inr (.inr (.inr (.inl hx))))
    ·exact .inr (.inr (.inr (.inr (.inr hx))))) x2 y2 n2
   rw [show P ++ (S1 ++ (X2 ++ (Y2 ++ R))) = (P ++ S1) ++ (X2 ++ (Y2 ++ R)) by simp];refine this.mono ?_;rintro r h' ⟨S2, rfl, rfl, s2, k2⟩;refine ⟨_, ⟨rfl, rfl⟩, ⟨trivial, ⟨rfl, rfl, hl1 ?_⟩, trivial⟩, ?_⟩
   ·have := k2.len;simp only [qd] at this ⊢; omega
   ·have := fin S2 s2 k2;rw [<- qg P] at this;exact this
  ·simp only [qh, aB] at hc
   have hz : X2 = [] ∨ Y2 = [] := by
    rcases qas X2.length with h | h
    ·exact .inl (List.length_eq_zero_iff.1 h)
    ·exact .inr (List.length_eq_zero_iff.1 (by omega))
   have s2 : Srtd key (X2 ++ Y2) := by
    rcases hz with h | h
    ·subst h; exact y2
    ·subst h; simpa using x2
   have := fin (X2 ++ Y2) s2 (.refl _);rw [qg X2 Y2] at this;exact this
 have t2 : xE lo hi nl T a s mid e b (lG key nl T P ((X1 ++ X2) ++ (Y1 ++ Y2)) R) (aA (P ++ (X1 ++ (Y1 ++ (X2 ++ (Y2 ++ R)))))) := by
  unfold xE;refine aC (fun hc => ?_) (fun hc => ?_)
  ·simp only [qh, aB] at hc;have nx : X1 ≠ [] := fun h => by subst h; simp at h1; omega
   have ny : Y1 ≠ [] := fun h => by subst h; simp at h5; omega
   refine (ih P X1 Y1 (X2 ++ (Y2 ++ R)) a s mid ha hP h1 h5 nx ny (by omega) (hr.of fun x hx => by
    simp only [qah] at hx ⊢;rcases hx with hx | hx | hx | hx | hx | hx
    ·exact .inl hx
    ·exact .inr (.inl hx)
    ·exact .inr (.inr (.inr (.inl hx)))
    ·exact .inr (.inr (.inl hx))
    ·exact .inr (.inr (.inr (.inr (.inl hx))))
    ·exact .inr (.inr (.inr (.inr (.inr hx))))) x1 y1 n1).mono ?_
   rintro r h' ⟨S1, rfl, rfl, s1, k1⟩;refine ⟨_, ⟨rfl, rfl⟩, ⟨trivial, ⟨rfl, rfl, hl1 ?_⟩, trivial⟩, t3 S1 s1 k1⟩;have := k1.len;simp only [qd] at this ⊢; omega
  ·simp only [qh, aB] at hc
   have hz : X1 = [] ∨ Y1 = [] := by
    rcases qas X1.length with h | h
    ·exact .inl (List.length_eq_zero_iff.1 h)
    ·exact .inr (List.length_eq_zero_iff.1 (by omega))
   have s2 : Srtd key (X1 ++ Y1) := by
    rcases hz with h | h
    ·subst h; exact y1
    ·subst h; simpa using x1
   have := t3 (X1 ++ Y1) s2 (.refl _);rw [qg X1 Y1] at this;exact this
 unfold zdi;refine aC (fun hc => ?_) (fun hc => ?_)
 ·simp only [qh, aB] at hc;have nx : X2 ≠ [] := fun h => by subst h; simp at h2; omega
  have ny : Y1 ≠ [] := fun h => by subst h; simp at h3; omega
  have := zwu (T := T) lo hi nl (P ++ X1) X2 Y1 (Y2 ++ R) s m e (by omega) (by rw [qd]; omega) h2 h3 nx ny (by omega) hlen;rw [show P ++ (X1 ++ (X2 ++ (Y1 ++ (Y2 ++ R)))) = (P ++ X1) ++ (X2 ++ (Y1 ++ (Y2 ++ R))) by simp];refine this.mono ?_;rintro r h' ⟨rfl, rfl⟩;refine ⟨_, ⟨rfl, rfl⟩, ⟨trivial, ⟨rfl, rfl, hl1 ?_⟩, trivial⟩, ?_⟩
  ·simp only [qd]; omega
  ·rw [qg P]; exact t2
 ·simp only [qh, aB] at hc
  have hz : X2 = [] ∨ Y1 = [] := by
   rcases qas X2.length with h | h
   ·exact .inl (List.length_eq_zero_iff.1 h)
   ·exact .inr (List.length_eq_zero_iff.1 (by omega))
  have e : P ++ (X1 ++ (X2 ++ (Y1 ++ (Y2 ++ R)))) = P ++ (X1 ++ (Y1 ++ (X2 ++ (Y2 ++ R)))) := by
   rcases hz with h | h <;> subst h <;> simp
  rw [e]; exact t2
end
section
variable {key : Int -> Int} {T : PV}
theorem zlu (hc : lF T key) (lo hi : Nat) (nl : Bool) (hlen : hi < 1000000000000) : ∀ N : Nat, zlt lo hi nl T key N := by
 intro N
 induction N with
 | zero =>
   intro P X Y R a m b ha hP hm hb hx hy hhi hr hX hY hN;omega
 | succ N ih =>
   intro P X Y R a m b ha hP hm hb hx hy hhi hr hX hY hN;have hxl := List.length_pos_iff.2 hx;have hyl := List.length_pos_iff.2 hy;by_cases hx1 : X.length = 1
   ·obtain ⟨x, rfl⟩ := List.length_eq_one_iff.1 hx1;exact zwv hc lo hi nl P Y R x a m b ha hP (by simpa using hm) hb hhi hr hlen hY
   by_cases hy1 : Y.length = 1
   ·obtain ⟨y, rfl⟩ := List.length_eq_one_iff.1 hy1;exact zww hc lo hi nl P X R y a m b ha hP hm hx1 (by simpa using hb) hhi hr hlen hX
   obtain ⟨mid, hmid⟩ : ∃ mid, mid = (a + b) / 2 := ⟨_, rfl⟩
   have hat : ∀ h : Int, a <= h -> h < m -> (P ++ (X ++ (Y ++ R)))[lo + h.toNat]? = some (X.getD (h - a).toNat 0) := fun h h1 h2 => by
    rw [qt (by omega), show lo + h.toNat - P.length = (h - a).toNat by omega, qaf (by omega)];exact s7 (by omega)
   have hbt : ∀ h : Int, m <= h -> h < b -> (P ++ (X ++ (Y ++ R)))[lo + h.toNat]? = some (Y.getD (h - m).toNat 0) := fun h h1 h2 => by
    rw [<- qg, qt (by rw [qd]; omega), show lo + h.toNat - (P ++ X).length = (h - m).toNat by rw [qd]; omega, qaf (by omega)];exact s7 (by omega)
   obtain ⟨s0, hs0⟩ : ∃ s0, s0 = if m > mid then mid + m - b else a := ⟨_, rfl⟩;obtain ⟨r0, hr0⟩ : ∃ r0, r0 = if m > mid then mid else m := ⟨_, rfl⟩
   have rng : a <= s0 /\ s0 <= r0 /\ r0 <= m /\ mid + m - s0 <= b /\ m <= mid + m - r0 := by
    rw [hs0, hr0]; split <;> omega
   refine zbo _ _ _ _ _ _ _ _
    (fun _ _ _ => True) (fun _ _ _ => 0) (fun _ _ _ => True) (fun _ _ _ => 0) (fun _ _ _ => True) (fun _ _ _ => 0) (fun _ _ _ => True) (fun _ _ _ => 0)
    (fun i j s => s = aA (P ++ (X ++ (Y ++ R))) /\ s0 <= i /\ i <= j /\ j <= r0 /\ (∀ c, s0 <= c -> c < i -> ¬ key (Y.getD (mid - 1 - c).toNat 0) < key (X.getD (c - a).toNat 0)) /\ (∀ c, j <= c -> c < r0 -> key (Y.getD (mid - 1 - c).toNat 0) < key (X.getD (c - a).toNat 0))) (fun i j _ => (j - i).toNat) ?_
   unfold wR;have w1 : i64.wrap (m - a) = X.length := by rw [wz]; omega
   have w2 : i64.wrap (b - m) = Y.length := by rw [wz]; omega
   have w3 : i64.wrap (mid + m) = mid + m := wz;have w4 : i64.wrap (mid + m - b) = mid + m - b := wz;have w5 : i64.wrap (mid + m - 1) = mid + m - 1 := wz;rw [w1, w2, tN ha (by omega) (by omega), <- hmid, w3, w4, w5]
   -- what the loop is, and what follows it
   have body : ∀ (x20 x21 : Int) (s : List (List PV)), (s = aA (P ++ (X ++ (Y ++ R))) /\ s0 <= x20 /\ x20 <= x21 /\ x21 <= r0 /\ (∀ c, s0 <= c -> c < x20 -> ¬ key (Y.getD (mid - 1 - c).toNat 0) < key (X.getD (c - a).toNat 0)) /\ (∀ c, x21 <= c -> c < r0 -> key (Y.getD (mid - 1 - c).toNat 0) < key (X.getD (c - a).toNat 0))) ->
    (x20 < x21 -> ∃ h, h = (x20 + x21) / 2 /\ i64.wrap (mid + m - 1 - h) = mid + m - 1 - h /\ i64.wrap (h + 1) = h + 1 /\ (0 <= mid + m - 1 - h /\ mid + m - 1 - h < (hi : Int) - lo /\ (s.getD (lo + (mid + m - 1 - h).toNat) []).length = 1) /\ (0 <= h /\ h < (hi : Int) - lo /\ (s.getD (lo + h.toNat) []).length = 1) /\
     ∃ n n1, (qc 0 (s.getD (lo + (mid + m - 1 - h).toNat) [])).head? = some (PV.int .i32 n) /\ (qc 0 (s.getD (lo + h.toNat) [])).head? = some (PV.int .i32 n1) /\ (-2147483648 <= n /\ n <= 2147483647) /\ (-2147483648 <= n1 /\ n1 <= 2147483647) /\
     (¬ key n < key n1 -> (s = aA (P ++ (X ++ (Y ++ R))) /\ s0 <= h + 1 /\ h + 1 <= x21 /\ x21 <= r0 /\ (∀ c, s0 <= c -> c < h + 1 -> ¬ key (Y.getD (mid - 1 - c).toNat 0) < key (X.getD (c - a).toNat 0)) /\ (∀ c, x21 <= c -> c < r0 -> key (Y.getD (mid - 1 - c).toNat 0) < key (X.getD (c - a).toNat 0))) /\ (x21 - (h + 1)).toNat < (x21 - x20).toNat) /\
     (key n < key n1 -> (s = aA (P ++ (X ++ (Y ++ R))) /\ s0 <= x20 /\ x20 <= h /\ h <= r0 /\ (∀ c, s0 <= c -> c < x20 -> ¬ key (Y.getD (mid - 1 - c).toNat 0) < key (X.getD (c - a).toNat 0)) /\ (∀ c, h <= c -> c < r0 -> key (Y.getD (mid - 1 - c).toNat 0) < key (X.getD (c - a).toNat 0))) /\ (h - x20).toNat < (x21 - x20).toNat)) /\
    (¬ x20 < x21 -> i64.wrap (mid + m - x20) = mid + m - x20 /\ zdi lo hi nl T a x20 m mid (mid + m - x20) b (lG key nl T P (X ++ Y) R) s) := by
    rintro i j _ ⟨rfl, i0, hij, hjr, hge, hlt⟩;refine ⟨fun hc1 => ?_, fun hc1 => ?_⟩
    ·obtain ⟨h, hh⟩ : ∃ h, h = (i + j) / 2 := ⟨_, rfl⟩;have b1 : i <= h /\ h < j := by omega
     have gx := hat h (by omega) (by omega);have gy := hbt (mid + m - 1 - h) (by omega) (by omega);rw [show (mid + m - 1 - h - m).toNat = (mid - 1 - h).toNat by omega] at gy;refine ⟨h, hh, wz, wz, ⟨by omega, by omega, by rw [dP gy]; rfl⟩, ⟨by omega, by omega, by rw [dP gx]; rfl⟩, _, _, by rw [dP gy]; rfl, by rw [dP gx]; rfl, nJ hr gy, nJ hr gx, fun hk => ?_, fun hk => ?_⟩
     ·refine ⟨⟨rfl, by omega, by omega, hjr, fun c c1 c2 => ?_, hlt⟩, by omega⟩;have u := hX.get (i := (c - a).toNat) (j := (h - a).toNat) (by omega) (by omega);have v := hY.get (i := (mid - 1 - h).toNat) (j := (mid - 1 - c).toNat) (by omega) (by omega);omega
     ·refine ⟨⟨rfl, i0, by omega, by omega, hge, fun c c1 c2 => ?_⟩, by omega⟩;have u := hX.get (i := (h - a).toNat) (j := (c - a).toNat) (by omega) (by omega);have v := hY.get (i := (mid - 1 - c).toNat) (j := (mid - 1 - h).toNat) (by omega) (by omega);omega
    ·have hij2 : i = j := by omega
     subst hij2;refine ⟨wz, ?_⟩;have l1 : (X.take (i - a).toNat).length = (i - a).toNat := by rw [ql]; omega
     have l2 : (X.drop (i - a).toNat).length = X.length - (i - a).toNat := qak;have l3 : (Y.take (mid - i).toNat).length = (mid - i).toNat := by rw [ql]; omega
     have l4 : (Y.drop (mid - i).toNat).length = Y.length - (mid - i).toNat := qak;have eX : X.take (i - a).toNat ++ X.drop (i - a).toNat = X := qn _ _;have eY : Y.take (mid - i).toNat ++ Y.drop (mid - i).toNat = Y := qn _ _;have tk : ∀ (L : List Int) (k q : Nat), q < k -> (L.take k).getD q 0 = L.getD q 0 := fun L k q h => by simp only [qap]; rw [qan h]
     have dk : ∀ (L : List Int) (k q : Nat), (L.drop k).getD q 0 = L.getD (k + q) 0 := fun L k q => by simp only [qap, qar]
     have f1 : ∀ x ∈ X.drop (i - a).toNat, ∀ y ∈ Y.take (mid - i).toNat, key y < key x := fun x hx y hy => by
      obtain ⟨q, hq, rfl⟩ := mX hx;obtain ⟨p, hp, rfl⟩ := mX hy;rw [l2] at hq;rw [l3] at hp;rw [tk _ _ _ hp, dk];have hir : i < r0 := by rw [hr0]; split <;> omega
      have k0 := hlt i (qe _) hir;have u := hX.get (i := (i - a).toNat) (j := (i - a).toNat + q) (by omega) (by omega);have v := hY.get (i := p) (j := (mid - 1 - i).toNat) (by omega) (by omega);omega
     have f2 : ∀ x ∈ X.take (i - a).toNat, ∀ y ∈ Y.drop (mid - i).toNat, key x <= key y := fun x hx y hy => by
      obtain ⟨q, hq, rfl⟩ := mX hx;obtain ⟨p, hp, rfl⟩ := mX hy;rw [l1] at hq;rw [l4] at hp;rw [tk _ _ _ hq, dk];have his : s0 <= i - 1 := by rw [hs0]; split <;> omega
      have k0 := hge (i - 1) his (by omega);rw [show (mid - 1 - (i - 1)).toNat = (mid - i).toNat by omega] at k0;have u := hX.get (i := q) (j := (i - 1 - a).toNat) (by omega) (by omega);have v := hY.get (i := (mid - i).toNat) (j := (mid - i).toNat + p) (by omega) (by omega);omega
     have := zwx lo hi nl (N := N) ih hlen P (X.take (i - a).toNat) (X.drop (i - a).toNat) (Y.take (mid - i).toNat) (Y.drop (mid - i).toNat) R a i m mid (mid + m - i) b ha hP (by omega) (by omega) (by omega) (by omega) (by omega) hhi
      (by rw [<- qg (Y.take _), eY, <- qg (X.take _), eX]; exact hr) (by rw [eX]; exact hX) (by rw [eY]; exact hY) f1 f2 (by omega) (by omega)
     rw [<- qg (Y.take _) _ R, eY, <- qg (X.take _) _ (Y ++ R), eX] at this;exact this
   refine bR (by simp; omega) (bR (by simp; omega) ?_);refine aC (fun hm2 => ?_) (fun hm2 => ?_)
   ·simp only [aB] at hm2;rw [if_pos hm2] at hs0 hr0;refine ⟨⟨rfl, rfl, by omega, by omega, by omega, fun c c1 c2 => by omega, fun c c1 c2 => by omega⟩, ?_⟩;rintro i j s hJ;obtain ⟨b1, b2⟩ := body i j s hJ;refine aC (fun hc1 => ?_) (fun hc1 => ?_)
    ·simp only [aB] at hc1;obtain ⟨h, hh, e1, e2, e3, e4, n, n1, g1, g2, r1, r2, k1, k2⟩ := b1 hc1;rw [tN (by omega) (by omega) (by omega), <- hh, e1, e2];refine ⟨e3, n, g1, e4, n1, g2, ?_⟩;refine (hc n n1 r1 r2).mono ?_;rintro _ ⟨n2, rfl, hn2⟩;refine ⟨n2, rfl, rfl, aC (fun hl => ?_) (fun hl => ?_)⟩
     ·simp only [qo, dJ] at hl;obtain ⟨q1, q2⟩ := k1 fun h => hl (hn2.2 h);exact ⟨rfl, q1, q2⟩
     ·simp only [qo, dJ, qx] at hl;obtain ⟨q1, q2⟩ := k2 (hn2.1 hl);exact ⟨rfl, q1, q2⟩
    ·simp only [aB] at hc1;obtain ⟨e1, e2⟩ := b2 hc1;rw [e1];exact e2
   ·simp only [aB] at hm2;rw [if_neg hm2] at hs0 hr0;refine ⟨⟨rfl, rfl, by omega, by omega, by omega, fun c c1 c2 => by omega, fun c c1 c2 => by omega⟩, ?_⟩;rintro i j s hJ;obtain ⟨b1, b2⟩ := body i j s hJ;refine aC (fun hc1 => ?_) (fun hc1 => ?_)
    ·simp only [aB] at hc1;obtain ⟨h, hh, e1, e2, e3, e4, n, n1, g1, g2, r1, r2, k1, k2⟩ := b1 hc1;rw [tN (by omega) (by omega) (by omega), <- hh, e1, e2];refine ⟨e3, n, g1, e4, n1, g2, ?_⟩;refine (hc n n1 r1 r2).mono ?_;rintro _ ⟨n2, rfl, hn2⟩;refine ⟨n2, rfl, rfl, aC (fun hl => ?_) (fun hl => ?_)⟩
     ·simp only [qo, dJ] at hl;obtain ⟨q1, q2⟩ := k1 fun h => hl (hn2.2 h);exact ⟨rfl, q1, q2⟩
     ·simp only [qo, dJ, qx] at hl;obtain ⟨q1, q2⟩ := k2 (hn2.1 hl);exact ⟨rfl, q1, q2⟩
    ·simp only [aB] at hc1;obtain ⟨e1, e2⟩ := b2 hc1;rw [e1];exact e2
end
end Go.Eng
