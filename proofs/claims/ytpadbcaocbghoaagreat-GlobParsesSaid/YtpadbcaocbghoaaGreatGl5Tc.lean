/- States run over the code: what each function gives, and what follows. -/
import Derived.Test.YtpadbcaocbghoaaGreatGl5Tb
open Go.IntKind (i64 i32)
open Go.Proofs.Tryz renaming prog → qa
open List renaming length_map → qb, length_append → qd, length_singleton → qe, length_cons → qf, drop → qj, getElem_mem → qk, take_of_length_le → ql, map_append → qm, length_take → qn, eq_nil_of_length_eq_zero → qq, append_assoc → qr, length_nil → qt, drop_eq_nil_of_le → qu, drop_eq_getElem_cons → qw, length → qz, nil_append → qaa, getElem?_eq_getElem → qac, mem_cons_self → qad, append_nil → qae, drop_of_length_le → qaf, mem_of_mem_take → qag, mem_cons_of_mem → qah, getElem_map → qai, flatMap_append → qak, flatMap_singleton → qan, cons_append → qao, dropLast_append_of_ne_nil → qap, drop_append_of_le_length → qaq, mem_singleton → qar, take → qas, getD → qat, flatten_cons → qav, getElem_append_right → qaw, getLast?_eq_getElem? → qax, contains_cons → qba, foldl_append → qbc, contains_nil → qbd, getLast?_map → qbe, take_zero → qbh
open Bool renaming and_eq_true → qc, or_eq_true → qg, and_eq_false_iff → qv, or_eq_false_iff → qx, not_eq_true' → qy, true_and → qab, false_and → qam, and_comm → qay, or_assoc → qaz, not_not → qbb, not_false → qbg, or_false → qbi, false_or → qbj, not_true → qbk
open Int renaming toNat_natCast → qh, le_refl → qo, tmod_eq_emod_of_nonneg → qaj
open Decidable renaming not_not → qi
open Nat renaming le_refl → qp, zero_add → qal
open Option renaming toList → qau, getD_some → qbf, isSome → qbl
set_option linter.unusedVariables false
set_option linter.unusedSimpArgs false
set_option maxRecDepth 100000
set_option linter.constructorNameAsVariable false
namespace Go.Eng
open Go Go.Proofs Go.Eng.Rows Go.Eng.Trie Go.Eng.Srt
theorem zjj : tab.length < 1000000 := by have := zqy; omega
theorem zjk (n f : Bool) : PCall qa 10 [.sl n f (bB tab)] (d7 tab) := zso n f tab zjj uZ
theorem R32.take {l : List Int} (h : R32 l) (k : Nat) : R32 (l.take k) := fun x hx => h x (qag hx)
section
variable {rows : List Row} {v : PV}
theorem zt9 {ts : List PV} {key : Int -> Int} (hT : ∀ r : Int, (-2147483648 <= r /\ r <= 2147483647) -> PCall qa 71 [.ptr ts, .int .i32 r] fun v => v = .int .i64 (key r)) : jS (.ptr ts) key := by
 intro a b ha hb;refine zo6 _ _ _ ?_; unfold zfm;refine .inl ⟨ts, rfl, .inl ⟨ts, rfl, ?_⟩⟩;refine (hT a ha).mono ?_;rintro _ rfl;refine ⟨_, rfl, ?_⟩;refine (hT b hb).mono ?_;rintro _ rfl;refine ⟨_, rfl, ?_⟩;refine (p61 _ _).mono ?_;rintro _ rfl;refine ⟨_, rfl, _, rfl, ?_⟩;unfold cmpS; split <;> (try split) <;> omega
theorem zua (hk : dY rows) (hv : d7 rows v) (n f : Bool) (L : List Int) (hr : R32 L) (hL : L.length < 1000000000000) : PCall qa 82 [v, .sl n f (aA L)] fun x => ∃ n f, x = .sl n f (aA (cK (aD rows 1) L)) := by
 obtain ⟨tc, tg, tj, tf, tp, made, sec, rfl, ht, hm⟩ := hv;have hT : ∀ r : Int, (-2147483648 <= r /\ r <= 2147483647) -> PCall qa 71 [.ptr [tc, tg, tj, tf, tp, .mp (d6 made), .mp (i6 sec)], .int .i32 r] fun v => v = .int .i64 (aD rows 1 r) := fun r hr => uI _ _ ht hr;exact PCall.ofA (args := [_, _]) (ztn hk hT (zt9 hT) L hr hL) fun r h' ⟨hr, hh⟩ => by subst hr; subst hh; exact ⟨_, rfl, _, _, rfl⟩
theorem zjl (hp : cT rows) {l : List Int} (h : R32 l) : R32 (l.flatMap (aV rows 8)) := fun x hx => by
 obtain ⟨r, hr, h2⟩ := List.mem_flatMap.1 hx;rcases uN hp 8 r x h2 with rfl | h3
 ·exact h x hr
 ·omega
theorem u6 (rows : List Row) (l : List Int) : (l.flatMap (aV rows 8)).length <= 768 * l.length := by
 induction l with
 | nil => simp
 | cons x l ih =>
   have := lZ rows 8 x;rw [List.flatMap_cons, qd, qf]; omega
theorem zjm (rows : List Row) {l : List Int} {i : Nat} (hi : i < l.length) : (l.take (i + 1)).flatMap (aV rows 8) = (l.take i).flatMap (aV rows 8) ++ aV rows 8 l[i] := by
 rw [cZ hi, qak]; simp
theorem zub (hp : cT rows) (hk : dY rows) (hv : d7 rows v) (n f : Bool) (L : List Int) (hr : R32 L) (hL : L.length < 1000000) : PCall qa 55 [v, .sl n f (aA L)] fun x => ∃ n f, x = .sl n f (aA (jV rows L)) := by
 have hv' := hv;obtain ⟨tc, tg, tj, tf, tp, made, sec, rfl, ht, hm⟩ := hv;refine ztr _ _ _ _ _ _ _ _ _ _ (fun i h0 _ s => h0 = .ptr [tc, tg, tj, tf, tp, .mp (d6 made), .mp (i6 sec)] /\ 0 <= i /\ i <= L.length /\ s = aA ((L.take i.toNat).flatMap (aV rows 8))) (fun i _ _ _ => L.length - i.toNat) ?_;unfold zjf;refine ⟨rfl, ⟨rfl, rfl, qo _, by omega, rfl⟩, ?_⟩;rintro i h0 n1 _ ⟨rfl, i0, i1, rfl⟩;refine aC (fun hc => ?_) (fun hc => ?_)
 ·simp only [aB, bG] at hc;have hi : i.toNat < L.length := by omega
  obtain ⟨g1, g2⟩ := fX i0 hi;have hx := hr _ (qk hi);have hw : i64.wrap (i + 1) = i + 1 := aF (by omega) (by omega);have hfl := u6 rows (L.take i.toNat);rw [qn] at hfl;refine ⟨g1, L[i.toNat], by rw [g2]; rfl, ?_⟩;refine (zsu _ _ hp ht 8 _ n1 _ (by omega) hx (by omega)).mono ?_;rintro r h' ⟨nl, rfl, rfl⟩;rw [hw];exact ⟨(nl, _), ⟨rfl, rfl⟩, ⟨trivial, trivial, trivial⟩, rfl, ⟨rfl, by omega, by omega, by rw [show (i + 1).toNat = i.toNat + 1 by omega, zjm rows hi]; rfl⟩, by dsimp only; omega⟩
 ·simp only [aB, bG] at hc;rw [ql (by omega)];have hfl := u6 rows L;refine (zua hk hv' n1 false _ (zjl hp hr) (by omega)).mono ?_;rintro _ ⟨n2, f2, rfl⟩;exact ⟨_, _, _, rfl, _, _, rfl⟩
theorem zuc (hp : cT rows) (hk : dY rows) (n f n2 f2 : Bool) (hrl : rows.length < 1000000) (L : List Int) (hr : R32 L) (hL : L.length < 1000000) : PCall qa 52 [.sl n f (bB rows), .sl n2 f2 (aA L)] fun x => ∃ n f, x = .sl n f (aA (jV rows L)) := by
 refine zts _ _ _ _ _ _ (fun i _ s => 0 <= i /\ i <= L.length /\ s = aA ((L.take i.toNat).flatMap (aV rows 8))) (fun i _ _ => L.length - i.toNat) ?_;unfold zjg;refine ⟨⟨rfl, qo _, by omega, rfl⟩, ?_⟩;rintro i n1 _ ⟨i0, i1, rfl⟩;refine aC (fun hc => ?_) (fun hc => ?_)
 ·simp only [aB, bG] at hc;have hi : i.toNat < L.length := by omega
  obtain ⟨g1, g2⟩ := fX i0 hi;have hx := hr _ (qk hi);have hw : i64.wrap (i + 1) = i + 1 := aF (by omega) (by omega);have hfl := u6 rows (L.take i.toNat);rw [qn] at hfl;have hf1 := lZ rows 8 L[i.toNat]
  have he : aA ((L.take i.toNat).flatMap (aV rows 8)) ++ aA (aV rows 8 L[i.toNat]) = aA ((L.take (i + 1).toNat).flatMap (aV rows 8)) := by
   rw [show (i + 1).toNat = i.toNat + 1 by omega, zjm rows hi, fQ]
  refine ⟨g1, L[i.toNat], by rw [g2]; rfl, ?_⟩;rw [hw];refine (zss hp n f hrl 8 _ (by omega) hx).mono ?_;rintro r h' (⟨nl, rfl, rfl⟩ | ⟨rfl, rfl⟩)
  ·exact .inl ⟨(nl, _), ⟨rfl, rfl⟩, trivial, ⟨dL _, by simp only [bG, qb]; omega⟩, rfl, ⟨by omega, by omega, he⟩, by dsimp only; omega⟩
  ·exact .inr ⟨_, ⟨rfl, rfl⟩, trivial, ⟨dL _, by rw [bG, bG]; omega⟩, rfl, ⟨by omega, by omega, he⟩, by dsimp only; omega⟩
 ·simp only [aB, bG] at hc;rw [ql (by omega)];have hfl := u6 rows L;refine (zt8 hk n f n1 false _ hrl (by omega) (zjl hp hr)).mono ?_;rintro _ ⟨n2, f2, rfl⟩;exact ⟨_, _, _, rfl, _, _, rfl⟩
theorem zjn (hk : dY rows) {l : List Int} (h : l.length < 1000000) : (jV rows l).length < 1000000000000 := by
 have := zji hk l; omega
end
end Go.Eng
namespace Go.Eng.Rows
open Go Go.Eng Go.Eng.Trie Go.Eng.Srt
def d8 (a b : Int) : Option Int :=
 if (4352 <= a /\ a < 4371) /\ 4449 <= b /\ b < 4470 then some (44032 + ((a - 4352) * 21 + (b - 4449)) * 28)
 else if (bO a = true /\ (a - 44032) % 28 = 0) /\ 4519 < b /\ b < 4547 then some (a + (b - 4519)) else none
def dR (rows : List Row) (a b : Int) (x : Row) : Bool := decide (x.kind = 2) && (decide (x.a = a) && (decide (x.b = b) && (!decide (b = 0) && !dQ rows x.fr)))
def cmpS (rows : List Row) (a b : Int) (o : Option Int) (x : Row) : Option Int :=
 if dR rows a b x then (match o with | none => some x.fr | some r => if x.fr < r then some x.fr else some r) else o
def l8 (rows : List Row) (a b : Int) : Option Int := rows.foldl (cmpS rows a b) none
def eR (rows : List Row) (a b : Int) : Option Int := match d8 a b with | some r => some r | none => l8 rows a b
theorem zjo (rows : List Row) (a b : Int) (l : List Row) : match l.foldl (cmpS rows a b) none with
 | none => ∀ x ∈ l, dR rows a b x = false
 | some r => (∃ x ∈ l, dR rows a b x = true /\ x.fr = r) /\ ∀ x ∈ l, dR rows a b x = true -> r <= x.fr := by
 have : ∀ (m : List Row), match m.reverse.foldl (cmpS rows a b) none with
  | none => ∀ x ∈ m, dR rows a b x = false
  | some r => (∃ x ∈ m, dR rows a b x = true /\ x.fr = r) /\ ∀ x ∈ m, dR rows a b x = true -> r <= x.fr := by
  intro m
  induction m with
  | nil => intro x hx; cases hx
  | cons y m ih =>
    rw [List.reverse_cons, qbc, List.foldl_cons, List.foldl_nil];generalize m.reverse.foldl (cmpS rows a b) none = o at ih;unfold cmpS;cases hc : dR rows a b y with
    | false =>
      simp only [Bool.false_eq_true, if_false];cases o with
      | none => intro x hx; rcases List.mem_cons.1 hx with rfl | hx; exact hc; exact ih x hx
      | some r =>
        obtain ⟨⟨x, h1, h2⟩, h3⟩ := ih;exact ⟨⟨x, qah _ h1, h2⟩, fun z hz hz2 => by rcases List.mem_cons.1 hz with rfl | hz; rw [hc] at hz2; cases hz2; exact h3 z hz hz2⟩
    | true =>
      simp only [if_true];cases o with
      | none =>
        refine ⟨⟨y, qad, hc, rfl⟩, fun z hz hz2 => ?_⟩;rcases List.mem_cons.1 hz with rfl | hz
        ·exact qo _
        ·have := ih z hz; rw [this] at hz2; cases hz2
      | some r =>
        obtain ⟨⟨x, h1, h2, h4⟩, h3⟩ := ih;by_cases hlt : y.fr < r
        ·simp only [hlt, if_true];refine ⟨⟨y, qad, hc, rfl⟩, fun z hz hz2 => ?_⟩;rcases List.mem_cons.1 hz with rfl | hz
         ·exact qo _
         ·have := h3 z hz hz2; omega
        ·simp only [hlt, if_false];refine ⟨⟨x, qah _ h1, h2, h4⟩, fun z hz hz2 => ?_⟩;rcases List.mem_cons.1 hz with rfl | hz
         ·omega
         ·exact h3 z hz hz2
 have h := this l.reverse;rw [List.reverse_reverse] at h;generalize l.foldl (cmpS rows a b) none = o at h ⊢;cases o with
 | none => intro x hx; exact h x (List.mem_reverse.2 hx)
 | some r => exact ⟨by obtain ⟨⟨x, h1, h2⟩, _⟩ := h; exact ⟨x, List.mem_reverse.1 h1, h2⟩, fun x hx => h.2 x (List.mem_reverse.2 hx)⟩
theorem u7 {rows : List Row} (h1 : dG rows) {x : Row} (hx : x ∈ rows) (hk : x.kind = 2) : aJ rows x.fr = (x.a, x.b) /\ 0 <= x.fr /\ x.fr <= 1114111 := by
 obtain ⟨e1, e2, e3⟩ := h1 x hx hk;have hf : bY rows 2 x.fr = some (x.a, x.b) := by unfold bY; rw [if_pos e2]; exact e3
 exact ⟨by unfold aJ; rw [hf], e2⟩
theorem zjp {rows : List Row} (h1 : dG rows) {r : Int} (h : aJ rows r ≠ (0, 0)) : ∃ x ∈ rows, x.kind = 2 /\ x.fr = r /\ aJ rows r = (x.a, x.b) := by
 cases hf : bY rows 2 r with
 | none => exact absurd (by unfold aJ; rw [hf]) h
 | some p =>
   obtain ⟨y, hy, hk, f1, f2⟩ := zt1 hf;obtain ⟨e1, _⟩ := h1 y hy hk;have hr : y.fr = r := by omega
   have := (u7 h1 hy hk).1;rw [hr] at this;exact ⟨y, hy, hk, hr, this⟩
theorem zbk {rows : List Row} (h1 : dG rows) {a b r : Int} (h : l8 rows a b = some r) : aJ rows r = (a, b) /\ b ≠ 0 /\ dQ rows r = false /\ (0 <= r /\ r <= 1114111) /\ ∃ x ∈ rows, x.kind = 2 /\ x.fr = r := by
 have := zjo rows a b rows;unfold l8 at h;rw [h] at this;obtain ⟨⟨x, hx, hc, rfl⟩, _⟩ := this;simp only [dR, qc, aB, qy, c6] at hc;obtain ⟨hk, ha, hb, h0, ho⟩ := hc;obtain ⟨hp, hr⟩ := u7 h1 hx hk;exact ⟨by rw [hp, ha, hb], h0, ho, hr, x, hx, hk, rfl⟩
theorem zud {rows : List Row} (hp : cT rows) (h1 : dG rows) {made : List ((Int × Int) × Int)} {sec : List (Int × Bool)} (hm : MadeOK rows (fun r => 0 <= r /\ r <= 1114111) made sec) (a b : Int) :
 (if b = 0 then none else bU (a, b) made) = l8 rows a b := by
 have hc := zjo rows a b rows
 have good : ∀ x ∈ rows, dR rows a b x = true -> b ≠ 0 /\ (0 <= x.fr /\ x.fr <= 1114111) /\ kT rows x.fr /\ aJ rows x.fr = (a, b) := fun x hx hc => by
  simp only [dR, qc, aB, qy, c6] at hc;obtain ⟨hk, ha, hb, h0, ho⟩ := hc;obtain ⟨e, hr⟩ := u7 h1 hx hk;refine ⟨h0, hr, ⟨?_, ho⟩, by rw [e, ha, hb]⟩;rw [e]; intro q; exact h0 (hb.symm.trans (Prod.mk.inj q).2)
 have back : ∀ r, b ≠ 0 -> kT rows r -> aJ rows r = (a, b) -> ∃ x ∈ rows, dR rows a b x = true /\ x.fr = r := fun r h0 hg hpr => by
  obtain ⟨x, hx, hk, hfr, hq⟩ := zjp h1 hg.1;have ho := hg.2;rw [hq] at hpr;cases hpr;refine ⟨x, hx, ?_, hfr⟩;simp only [dR, qc, aB, qy, c6];exact ⟨hk, trivial, trivial, h0, by rw [hfr]; exact ho⟩
 unfold l8;generalize rows.foldl (cmpS rows a b) none = o at hc ⊢;split
 ·rename_i h0;cases o with
  | none => rfl
  | some r => obtain ⟨⟨x, hx, hb, _⟩, _⟩ := hc; exact absurd h0 (good x hx hb).1
 ·rename_i h0;cases hg : bU (a, b) made with
  | none =>
    cases o with
    | none => rfl
    | some r =>
      obtain ⟨⟨x, hx, hb, _⟩, _⟩ := hc;obtain ⟨_, g1, g2, g3⟩ := good x hx hb;exact absurd g3 (hm.m2 _ hg _ g1 g2)
  | some r =>
    obtain ⟨d1, d2, d3, d4⟩ := hm.m1 _ _ hg;obtain ⟨x, hx, hb, hfr⟩ := back r h0 d2 d3;cases o with
    | none => have := hc x hx; rw [this] at hb; cases hb
    | some s =>
      obtain ⟨⟨y, hy, hyb, rfl⟩, hl⟩ := hc;obtain ⟨_, g1, g2, g3⟩ := good y hy hyb;have k1 := hl x hx hb;have k2 := d4 _ g1 g2 g3;rw [hfr] at k1;exact congrArg some (Int.le_antisymm k2 k1)
theorem zbl {a b r : Int} (h : d8 a b = some r) : bO r = true := by
 unfold d8 at h;split at h
 ·rename_i hc; cases h; simp only [bO, qc, aB]; omega
 ·split at h
  ·rename_i hc; cases h; simp only [bO, qc, aB] at hc ⊢; omega
  ·cases h
theorem zue {rows : List Row} (h1 : dG rows) {a b r : Int} (h : eR rows a b = some r) : 0 <= r /\ r <= 1114111 := by
 unfold eR at h;split at h
 ·rename_i s hj; cases h; have := zbl hj; simp only [bO, qc, aB] at this; omega
 ·exact (zbk h1 h).2.2.2.1
structure CSt where
 P : List Int
 s : Option Int
 M : List Int
def dB (key : Int -> Int) (M : List Int) : Int := match M.getLast? with | some m => key m | none => 0
def CSt.out (st : CSt) : List Int := st.P ++ (st.s.toList ++ st.M)
def cE (key : Int -> Int) (st : CSt) (r : Int) : CSt := if key r = 0 then ⟨st.out, some r, []⟩ else ⟨st.P, st.s, st.M ++ [r]⟩
def bZ (rows : List Row) (st : CSt) (r : Int) : CSt := match st.s with
 | none => cE (aD rows 1) st r
 | some a => if st.M = [] ∨ dB (aD rows 1) st.M < aD rows 1 r then (match eR rows a r with
   | some c => ⟨st.P, some c, st.M⟩
   | none => cE (aD rows 1) st r) else cE (aD rows 1) st r
def bH (rows : List Row) (l : List Int) : CSt := l.foldl (bZ rows) ⟨[], none, []⟩
def fY (rows : List Row) (l : List Int) : List Int := (bH rows l).out
theorem fZ (rows : List Row) (l : List Int) (r : Int) : bH rows (l ++ [r]) = bZ rows (bH rows l) r := by simp [bH]
theorem l9 (key : Int -> Int) (st : CSt) (r : Int) : (cE key st r).out = st.out ++ [r] := by
 unfold cE; split <;> simp [CSt.out]
theorem oY (rows : List Row) (st : CSt) (r : Int) : bZ rows st r = cE (aD rows 1) st r ∨ ∃ a c, st.s = some a /\ eR rows a r = some c /\ (st.M = [] ∨ dB (aD rows 1) st.M < aD rows 1 r) /\ bZ rows st r = ⟨st.P, some c, st.M⟩ := by
 unfold bZ;split
 ·exact .inl rfl
 ·rename_i a ha;split
  ·rename_i hf;cases hc : eR rows a r with
   | none => exact .inl rfl
   | some c => exact .inr ⟨a, c, ha, hc, hf, rfl⟩
  ·exact .inl rfl
theorem zbm (rows : List Row) (l : List Int) : (fY rows l).length <= l.length := by
 unfold fY
 induction l using iO with
 | h0 => simp [bH, CSt.out]
 | h1 l r ih =>
   rw [fZ, qd, qe];rcases oY rows (bH rows l) r with e | ⟨a, c, hs, _, _, e⟩
   ·rw [e, l9, qd, qe]; omega
   ·rw [e]; simp only [CSt.out, hs, qau, qd, qf] at ih ⊢; omega
theorem zbn {rows : List Row} (h1 : dG rows) (l : List Int) : ∀ x ∈ fY rows l, x ∈ l ∨ (0 <= x /\ x <= 1114111) := by
 unfold fY
 induction l using iO with
 | h0 => intro x hx; simp [bH, CSt.out] at hx
 | h1 l r ih =>
   rw [fZ];rcases oY rows (bH rows l) r with e | ⟨a, c, hs, hc, _, e⟩
   ·rw [e, l9];intro x hx;rcases List.mem_append.1 hx with hx | hx
    ·exact (ih x hx).imp (fun h => List.mem_append.2 (.inl h)) id
    ·exact .inl (List.mem_append.2 (.inr hx))
   ·rw [e];intro x hx;simp only [CSt.out, qau, List.mem_append, List.mem_cons, List.not_mem_nil, or_false] at hx ih;rcases hx with hx | rfl | hx
    ·exact (ih x (.inl hx)).imp (fun h => List.mem_append.2 (.inl h)) id
    ·exact .inr (zue h1 hc)
    ·exact (ih x (.inr (.inr hx))).imp (fun h => List.mem_append.2 (.inl h)) id
structure TabC (rows : List Row) : Prop where
 one : dG rows
 closed : zt0 rows
 cls : dY rows
 syl : ∀ x ∈ rows, x.kind = 2 -> bO x.fr = false
 deep : ∀ x ∈ rows, x.kind = 2 -> aV rows 7 x.fr = aV rows 8 x.fr
theorem TabC.full7 {rows : List Row} (h : TabC rows) (r : Int) : aV rows 7 r = aV rows 8 r := by
 by_cases hs : bO r = true
 ·rw [kU hs, kU hs]
 ·simp only [Bool.not_eq_true] at hs;by_cases h0 : aJ rows r = (0, 0)
  ·rw [rH hs h0, rH hs h0]
  ·obtain ⟨x, hx, hk, rfl, _⟩ := zjp h.one h0;exact h.deep x hx hk
theorem TabC.join {rows : List Row} (h : TabC rows) {a b c : Int} (ha : dN rows a = true ∨ bO a = true) (hj : d8 a b = some c) : aV rows 8 c = aV rows 8 a ++ [b] := by
 rw [kU (zbl hj)];unfold d8 at hj;split at hj
 ·rename_i hc;cases hj
  have hr : dN rows a = true := by
   rcases ha with ha | ha
   ·exact ha
   ·simp only [bO, qc, aB] at ha; omega
  rw [u5 hr];unfold dX;rw [if_pos (by omega)];simp only [qao, qaa, List.cons.injEq, and_true];omega
 ·split at hj
  ·rename_i hc;cases hj;obtain ⟨⟨hs, h0⟩, h1, h2⟩ := hc;rw [kU hs];simp only [bO, qc, aB] at hs;unfold dX;rw [if_neg (by omega), if_pos h0];simp only [qao, qaa, List.cons.injEq, and_true];omega
  ·cases hj
theorem TabC.lead {rows : List Row} (h : TabC rows) {a : Int} (ha : 4352 <= a /\ a < 4371) : dN rows a = true := by
 have hx := h.closed (44032 + (a - 4352) * 588) a;refine hx ?_;have hs : bO (44032 + (a - 4352) * 588) = true := by simp only [bO, qc, aB]; omega
 rw [kU hs];unfold dX;rw [if_pos (by omega), show 4352 + (44032 + (a - 4352) * 588 - 44032) / 588 = a by omega];exact qad
theorem TabC.pair {rows : List Row} (h : TabC rows) {a b c : Int} (hb : dN rows b = true) (hc : eR rows a b = some c) : aV rows 8 c = aV rows 8 a ++ [b] := by
 unfold eR at hc;split at hc
 ·rename_i s hj;cases hc;refine h.join ?_ hj;unfold d8 at hj;split at hj
  ·rename_i hq; exact .inl (h.lead hq.1)
  ·split at hj
   ·rename_i hq; exact .inr hq.1.1
   ·cases hj
 ·obtain ⟨hp, h0, _, _, x, hx, hk, rfl⟩ := zbk h.one hc;have hs := h.syl x hx hk;have hn : aJ rows x.fr ≠ (0, 0) := by rw [hp]; intro e; cases e; exact h0 rfl
  rw [show (8 : Nat) = 7 + 1 from rfl];rw [aV, if_neg (by rw [hs]; simp), if_neg hn, hp];simp only;rw [if_neg h0, h.full7, u5 hb]
theorem rO (key : Int -> Int) (M : List Int) (r : Int) : dB key (M ++ [r]) = key r := by simp [dB]
structure InvC (rows : List Row) (st : CSt) (p : List Int) : Prop where
 e : Eqv (aD rows 1) (st.out.flatMap (aV rows 8)) p
 m : ∀ m ∈ st.M, aD rows 1 m ≠ 0 /\ dN rows m = true /\ aD rows 1 m <= dB (aD rows 1) st.M
 q : st.M ≠ [] -> ∃ p' q, p = p' ++ [q] /\ dB (aD rows 1) st.M <= aD rows 1 q
theorem InvC.app {rows : List Row} {st : CSt} {p : List Int} (h : InvC rows st p) {r : Int} (hr : dN rows r = true) (hc : cU (aD rows 1) (p ++ [r])) : InvC rows (cE (aD rows 1) st r) (p ++ [r]) := by
 have he : Eqv (aD rows 1) ((cE (aD rows 1) st r).out.flatMap (aV rows 8)) (p ++ [r]) := by
  rw [l9, qak, qan, u5 hr];simpa using h.e.app [] [r]
 refine ⟨he, ?_, ?_⟩
 ·unfold cE;split
  ·intro m hm; cases hm
  ·rename_i h0;intro m hm;simp only at hm ⊢;rw [rO];rcases List.mem_append.1 hm with hm | hm
   ·obtain ⟨k1, k2, k3⟩ := h.m m hm;refine ⟨k1, k2, ?_⟩;obtain ⟨p', q, rfl, hq⟩ := h.q (List.ne_nil_of_mem hm);have := (nA.1 hc).2.2 q r (by simp) rfl h0;omega
   ·rw [qar] at hm; subst hm; exact ⟨h0, hr, qo _⟩
 ·unfold cE;split
  ·intro hn; exact absurd rfl hn
  ·intro _; exact ⟨p, r, rfl, by simp only; rw [rO]; exact qo _⟩
theorem InvC.step {rows : List Row} (ht : TabC rows) {st : CSt} {p : List Int} (h : InvC rows st p) {r : Int} (hr : dN rows r = true) (hc : cU (aD rows 1) (p ++ [r])) : InvC rows (bZ rows st r) (p ++ [r]) := by
 rcases oY rows st r with e | ⟨a, c, hs, hpc, hf, e⟩
 ·rw [e]; exact h.app hr hc
 ·rw [e];have hM : st.M.flatMap (aV rows 8) = st.M := zjh fun m hm => (h.m m hm).2.1;have he := h.e;simp only [CSt.out, hs, qau, qak, qan, hM] at he;have hlt : st.M ≠ [] -> dB (aD rows 1) st.M < aD rows 1 r := fun hn => hf.elim (fun e => absurd e hn) id;refine ⟨?_, h.m, fun hn => ⟨p, r, rfl, Int.le_of_lt (hlt hn)⟩⟩;simp only [CSt.out, qau, qak, qan, hM, ht.pair hr hpc];refine Eqv.trans ?_ (by simpa using he.app [] [r])
  by_cases hn : st.M = []
  ·rw [hn]; simp; exact .refl _
  ·have h3 : dB (aD rows 1) st.M < aD rows 1 r := hlt hn
   have hr0 : aD rows 1 r ≠ 0 := by
    intro e0;obtain ⟨m, hm⟩ := List.exists_mem_of_ne_nil _ hn;obtain ⟨k1, _, k3⟩ := h.m m hm;have := ht.cls m; omega
   have := (Eqv.ahead (key := aD rows 1) hr0 (B := st.M) [] fun m hm => ⟨(h.m m hm).1, by have := (h.m m hm).2.2; omega⟩).symm.app (st.P.flatMap (aV rows 8) ++ aV rows 8 a) [];simpa using this
theorem zuf {rows : List Row} (ht : TabC rows) {l : List Int} (hr : ∀ x ∈ l, dN rows x = true) (hc : cU (aD rows 1) l) : InvC rows (bH rows l) l := by
 revert hr hc
 induction l using iO with
 | h0 => intro _ _; exact ⟨.refl _, (fun m hm => by cases hm), fun hn => absurd rfl hn⟩
 | h1 l r ih =>
   intro hr hc;rw [fZ];exact (ih (fun x hx => hr x (by simp [hx])) (nA.1 hc).1).step ht (hr r (by simp)) hc
def dC (rows : List Row) (l : List Int) : List Int := fY rows (jV rows l)
end Go.Eng.Rows
namespace Go.Eng
open Go Go.Proofs Go.Eng.Rows Go.Eng.Trie
end Go.Eng
namespace Go.Eng.Rows
open Go Go.Eng Go.Eng.Trie Go.Eng.Srt
def Comp (rows : List Row) (s : List Int) : Prop := ∃ d, (∀ x ∈ d, dN rows x = true) /\ cU (aD rows 1) d /\ fY rows d = s
section
variable {rows : List Row}
def jW (rows : List Row) (s : Option Int) (M : List Int) (r : Int) : Option Int := match s with
 | none => none
 | some a => if M = [] ∨ dB (aD rows 1) M < aD rows 1 r then eR rows a r else none
theorem kW (st : CSt) (r : Int) : bZ rows st r = match jW rows st.s st.M r with | some c => ⟨st.P, some c, st.M⟩ | none => cE (aD rows 1) st r := by
 unfold bZ jW;cases st.s with
 | none => rfl
 | some a =>
   simp only;split
   ·rfl
   ·rfl
theorem zbo {s : Option Int} {M : List Int} {r c : Int} (h : jW rows s M r = some c) : ∃ a, s = some a /\ eR rows a r = some c /\ (M = [] ∨ dB (aD rows 1) M < aD rows 1 r) := by
 unfold jW at h;cases s with
 | none => cases h
 | some a =>
   simp only at h;split at h
   ·rename_i hf; exact ⟨a, rfl, h, hf⟩
   ·cases h
theorem kX {d : List Int} {x : Int} : cU (aD rows 1) (d ++ [x]) ↔ cU (aD rows 1) d /\ (∀ z, d.getLast? = some z -> aD rows 1 x ≠ 0 -> aD rows 1 z <= aD rows 1 x) := by
 rw [nA];constructor
 ·rintro ⟨h1, _, h3⟩; exact ⟨h1, fun z hz hx => h3 z x hz rfl hx⟩
 ·rintro ⟨h1, h3⟩; exact ⟨h1, trivial, fun z x' hz hx' h0 => by simp at hx'; subst hx'; exact h3 z hz h0⟩
theorem zbp {d : List Int} {r x : Int} (h : cU (aD rows 1) (d ++ [r] ++ [x])) (hx : aD rows 1 x ≠ 0) : aD rows 1 r <= aD rows 1 x := (kX.1 h).2 r (by simp) hx
def Wit (rows : List Row) (d : List Int) (st : CSt) : Prop := ∃ e, (∀ x ∈ e, dN rows x = true) /\ bH rows e = st /\ (st.out = [] -> e = []) /\ cU (aD rows 1) e /\ ∀ x, cU (aD rows 1) (d ++ [x]) -> cU (aD rows 1) (e ++ [x])
theorem Wit.snoc {d : List Int} {st : CSt} (h : Wit rows d st) {r : Int} (hr : dN rows r = true) (hc : cU (aD rows 1) (d ++ [r])) (hn : (bZ rows st r).out ≠ []) : Wit rows (d ++ [r]) (bZ rows st r) := by
 obtain ⟨e, h1, h2, h3, h4, h5⟩ := h;refine ⟨e ++ [r], fun x hx => ?_, by rw [fZ, h2], fun hq => absurd hq hn, h5 r hc, fun x hx => ?_⟩
 ·rcases List.mem_append.1 hx with hx | hx
  ·exact h1 x hx
  ·rw [qar] at hx; subst hx; exact hr
 ·exact kX.2 ⟨h5 r hc, fun z hz h0 => by simp at hz; subst hz; exact zbp hx h0⟩
theorem zbq {key : Int -> Int} {M : List Int} (h : M ≠ []) : ∃ m ∈ M, dB key M = key m := by
 rcases M.eq_nil_or_concat with rfl | ⟨D, z, rfl⟩
 ·exact absurd rfl h
 ·exact ⟨z, by simp, by simp [dB]⟩
theorem zjq {d : List Int} (h : (bH rows d).out = []) : d = [] := by
 revert h
 induction d using iO with
 | h0 => exact fun _ => rfl
 | h1 d r ih =>
   rw [fZ, kW];intro h;split at h
   ·simp [CSt.out] at h
   ·rw [l9] at h; simp at h
theorem rP {d : List Int} (h : (bH rows d).s = none) : (bH rows d).P = [] := by
 revert h
 induction d using iO with
 | h0 => exact fun _ => rfl
 | h1 d r ih =>
   rw [fZ, kW];split
   ·intro h; cases h
   ·unfold cE;split
    ·intro h; cases h
    ·exact ih
theorem zug (ht : TabC rows) {d : List Int} (hr : ∀ x ∈ d, dN rows x = true) (hc : cU (aD rows 1) d) (hn : (bH rows d).M ≠ []) :
 Wit rows d ⟨(bH rows d).P, (bH rows d).s, (bH rows d).M.dropLast⟩ := by
 revert hr hc hn
 induction d using iO with
 | h0 => intro _ _ hn; exact absurd rfl hn
 | h1 d r ih =>
   intro hr hc;have hr1 : ∀ x ∈ d, dN rows x = true := fun x hx => hr x (by simp [hx]);have hc1 := (kX.1 hc).1;have hinv := zuf ht hr1 hc1;have hrr := hr r (by simp);rw [fZ];have ih := ih hr1 hc1;have hon := zjq (rows := rows) (d := d);generalize hsd : bH rows d = st at *;rw [kW];cases hd : jW rows st.s st.M r with
   | none =>
     simp only;unfold cE;split
     ·intro hn; exact absurd rfl hn
     ·rename_i h0;intro _;simp only [List.dropLast_concat];refine ⟨d, hr1, hsd, fun h => hon h, hc1, fun x hx => kX.2 ⟨hc1, fun z hz hx0 => ?_⟩⟩;have := (kX.1 hc).2 z hz h0;have := zbp hx hx0;omega
   | some c =>
     simp only;intro hn;obtain ⟨a, hs, hp, hf⟩ := zbo hd;have hlt := hf.elim (fun e => absurd e hn) id;have hw := (ih hn).snoc hrr hc
     have he : bZ rows ⟨st.P, st.s, st.M.dropLast⟩ r = ⟨st.P, some c, st.M.dropLast⟩ := by
      rw [kW]
      have : jW rows st.s st.M.dropLast r = some c := by
       unfold jW;rw [hs];simp only;rw [if_pos, hp];by_cases hdl : st.M.dropLast = []
       ·exact .inl hdl
       ·obtain ⟨m, hm, e⟩ := zbq (key := aD rows 1) hdl;have := (hinv.m m (List.dropLast_subset _ hm)).2.2;exact .inr (by omega)
      simp only [this]
     rw [he] at hw;exact hw (by simp [CSt.out])
def fC (st : CSt) : CSt := match st.s, st.P with
 | none, P => ⟨P, none, st.M.tail⟩
 | some _, [] => ⟨[], none, st.M⟩
 | some c, _ :: P => ⟨P, some c, st.M⟩
theorem zuh {st : CSt} (h : st.s = none -> st.P = []) : (fC st).out = st.out.tail := by
 obtain ⟨P, s, M⟩ := st;cases s with
 | none =>
   have hp : P = [] := h rfl;subst hp;simp [fC, CSt.out]
 | some c => cases P <;> simp [fC, CSt.out]
theorem zui (hk : dY rows) (M : List Int) : 0 <= dB (aD rows 1) M := by
 by_cases h : M = []
 ·subst h; exact qo _
 ·obtain ⟨m, _, e⟩ := zbq (key := aD rows 1) h;rw [e]; exact hk m
theorem zuj (ht : TabC rows) {d : List Int} (hr : ∀ x ∈ d, dN rows x = true) (hc : cU (aD rows 1) d) (hn : d ≠ []) : Wit rows d (fC (bH rows d)) := by
 revert hr hc hn
 induction d using iO with
 | h0 => intro _ _ hn; exact absurd rfl hn
 | h1 d r ih =>
   intro hr hc _;have hr1 : ∀ x ∈ d, dN rows x = true := fun x hx => hr x (by simp [hx]);have hc1 := (kX.1 hc).1;have hrr := hr r (by simp);by_cases hd0 : d = []
   ·subst hd0;refine ⟨[], fun x hx => (by cases hx), ?_, fun _ => rfl, trivial, fun x _ => trivial⟩;rw [fZ];show _ = fC (cE (aD rows 1) ⟨[], none, []⟩ r);unfold cE;split <;> rfl
   ·have ih := ih hr1 hc1 hd0;have hP := rP (rows := rows) (d := d);have hon : (bH rows d).out ≠ [] := fun h => hd0 (zjq h);rw [fZ];generalize bH rows d = st at *
    have key : (fC (bZ rows st r) = bZ rows (fC st) r /\ (bZ rows (fC st) r).out ≠ []) -> Wit rows (d ++ [r]) (fC (bZ rows st r)) := fun ⟨h1, h2⟩ => by
     rw [h1]; exact ih.snoc hrr hc h2
    obtain ⟨P, s, M⟩ := st;cases s with
    | none =>
      obtain rfl : P = [] := hP rfl;cases M with
      | nil => exact absurd rfl hon
      | cons m M =>
        refine key ?_;have e1 : bZ rows ⟨[], none, m :: M⟩ r = cE (aD rows 1) ⟨[], none, m :: M⟩ r := rfl;have e2 : bZ rows (fC ⟨[], none, m :: M⟩) r = cE (aD rows 1) ⟨[], none, M⟩ r := rfl;rw [e1, e2, l9];refine ⟨?_, by simp⟩;unfold cE;split <;> simp [fC, CSt.out]
    | some c =>
      cases P with
      | cons p P =>
        refine key ?_;have e2 : fC ⟨p :: P, some c, M⟩ = ⟨P, some c, M⟩ := rfl;rw [e2, kW, kW];simp only;cases jW rows (some c) M r with
        | none => simp only; rw [l9]; refine ⟨?_, by simp⟩; unfold cE; split <;> simp [fC, CSt.out]
        | some c' => exact ⟨rfl, by simp [CSt.out]⟩
      | nil =>
        have e2 : fC ⟨[], some c, M⟩ = ⟨[], none, M⟩ := rfl;have e3 : bZ rows ⟨[], none, M⟩ r = cE (aD rows 1) ⟨[], none, M⟩ r := rfl;cases hdec : jW rows (some c) M r with
        | none =>
          refine key ?_;rw [e2, e3, kW];simp only [hdec];rw [l9];refine ⟨?_, by simp⟩;unfold cE;split <;> simp [fC, CSt.out]
        | some c' =>
          obtain ⟨a, _, hp, hf⟩ := zbo hdec
          have e4 : fC (bZ rows ⟨[], some c, M⟩ r) = ⟨[], none, M⟩ := by
           rw [kW]; simp only [hdec]; rfl
          rw [e4];rw [e2] at ih;obtain ⟨e, h1, h2, h3, h4, h5⟩ := ih;refine ⟨e, h1, h2, h3, h4, fun x hx => kX.2 ⟨h4, fun z hz hx0 => ?_⟩⟩;by_cases h0 : aD rows 1 r = 0
          ·have hl := zui ht.cls M;have hM : M = [] := hf.elim id fun h => by omega
           subst hM;have := h3 rfl;subst this;simp at hz
          ·have k1 := (kX.1 (h5 r hc)).2 z hz h0;have k2 := zbp hx hx0;omega
theorem zuk {d : List Int} (hr : ∀ x ∈ d, dN rows x = true) (hc : cU (aD rows 1) d) (hn : (bH rows d).s ≠ none) : ∃ e, (∀ x ∈ e, dN rows x = true) /\ cU (aD rows 1) e /\ (bH rows e).out = (bH rows d).P := by
 revert hr hc hn
 induction d using iO with
 | h0 => intro _ _ hn; exact absurd rfl hn
 | h1 d r ih =>
   intro hr hc;have hr1 : ∀ x ∈ d, dN rows x = true := fun x hx => hr x (by simp [hx]);have hc1 := (kX.1 hc).1;have ih := ih hr1 hc1;rw [fZ, kW];cases hd : jW rows (bH rows d).s (bH rows d).M r with
   | none =>
     simp only;unfold cE;split
     ·intro _; exact ⟨d, hr1, hc1, rfl⟩
     ·exact ih
   | some c =>
     obtain ⟨a, hs, _⟩ := zbo hd;intro _;exact ih (by rw [hs]; simp)
theorem Comp.nil : Comp rows [] := ⟨[], fun x hx => (by cases hx), trivial, rfl⟩
theorem Comp.tail (ht : TabC rows) {s : List Int} (h : Comp rows s) : Comp rows s.tail := by
 obtain ⟨d, h1, h2, rfl⟩ := h;by_cases hd : d = []
 ·subst hd; exact .nil
 ·obtain ⟨e, k1, k2, _, k4, _⟩ := zuj ht h1 h2 hd;exact ⟨e, k1, k4, by unfold fY; rw [k2, zuh rP]⟩
theorem Comp.dropLast (ht : TabC rows) {s : List Int} (h : Comp rows s) : Comp rows s.dropLast := by
 obtain ⟨d, h1, h2, rfl⟩ := h;unfold fY;by_cases hM : (bH rows d).M = []
 ·cases hs : (bH rows d).s with
  | none =>
    have : (bH rows d).out = [] := by simp [CSt.out, rP hs, hs, hM]
    rw [this]; exact .nil
  | some c =>
    obtain ⟨e, k1, k2, k3⟩ := zuk h1 h2 (by rw [hs]; simp);refine ⟨e, k1, k2, ?_⟩;unfold fY;rw [k3];simp [CSt.out, hs, hM]
 ·obtain ⟨e, k1, k2, _, k4, _⟩ := zug ht h1 h2 hM;refine ⟨e, k1, k4, ?_⟩;unfold fY;rw [k2];simp only [CSt.out];rw [qap (by simp [hM]), qap hM]
theorem Comp.drop (ht : TabC rows) {s : List Int} (h : Comp rows s) : ∀ k, Comp rows (s.drop k)
 | 0 => h
 | k + 1 => by
   have := (Comp.drop ht h k).tail ht;rwa [List.tail_drop] at this
theorem Comp.take (ht : TabC rows) {s : List Int} (h : Comp rows s) (k : Nat) : Comp rows (s.take k) := by
 have : ∀ n, Comp rows (s.take (s.length - n)) := by
  intro n
  induction n with
  | zero => rw [Nat.sub_zero, List.take_length]; exact h
  | succ n ih =>
    have := ih.dropLast ht;rw [List.dropLast_eq_take, List.take_take, qn] at this;rwa [show min (min (s.length - n) s.length - 1) (s.length - n) = s.length - (n + 1) by omega] at this
 by_cases hk : k <= s.length
 ·have := this (s.length - k);rwa [show s.length - (s.length - k) = k by omega] at this
 ·rw [ql (by omega)]; exact h
end
end Go.Eng.Rows
namespace Go.Eng
open Go Go.Proofs
section
variable (a b : Int)
def zjr (R : PV -> Prop) : Prop :=
 if (decide (a >= 4352) && decide (a < 4371) && decide (b >= 4449) && decide (b < 4470)) = true then R (PV.tup [Z3 (i32.wrap ((44032 : Int) + i32.wrap (i32.wrap (i32.wrap (i32.wrap (i32.wrap (a - 4352) * 21) + b) - 4449) * 28))), Zb true]) else PCall qa 131 [Z3 a] fun v => ∃ b1, v = Zb b1 /\ if (b1 && (i32.wrap (a - 44032)).tmod (28 : Int) == 0 && decide (b > 4519) && decide (b < 4547)) = true then R (PV.tup [Z3 (i32.wrap (i32.wrap (a + b) - 4519)), Zb true]) else R (PV.tup [Z3 0, Zb false])
theorem zul {R : PV -> Prop} (h : zjr a b R) : PCall qa 106 [.int .i32 a, .int .i32 b] R :=
 PCall.wz Tryz.func106 aP [0, 1, 4, 5, 6, 29] aZ h
end
section
variable (tc tg tj tf tp : PV) (M S : List (PV × PV)) (a b : Int)
def zjs (R : PV -> Prop) : Prop :=
 PCall qa 106 [Z3 a, Z3 b] fun v => ∃ vs, v = PV.tup vs /\ vs.length = 2 /\ ∃ x, vs.head? = some x /\ ∃ n, x = Z3 n /\ ∃ x1, vs.tail.head? = some x1 /\ ∃ b1, x1 = Zb b1 /\ if b1 = true then R (PV.tup [Z3 n, Zb true]) else PCall qa 107 [PV.ptr [tc, tg, tj, tf, tp, PV.mp M, PV.mp S], Z3 a, Z3 b] fun v1 => ∃ vs1, v1 = PV.tup vs1 /\ vs1.length = 2 /\ ∃ x2, vs1.head? = some x2 /\ ∃ n1, x2 = Z3 n1 /\ ∃ x3, vs1.tail.head? = some x3 /\ ∃ b2, x3 = Zb b2 /\ R (PV.tup [Z3 n1, Zb b2])
theorem zum {R : PV -> Prop} (h : zjs tc tg tj tf tp M S a b R) : PCall qa 80 [.ptr [tc, tg, tj, tf, tp, .mp M, .mp S], .int .i32 a, .int .i32 b] R :=
 PCall.wz Tryz.func80 aP [0, 1, 2, 6, 7, 8, 9, 16] aZ h
end
def zbr (tc tg tj tf tp : PV) (M S : List (PV × PV)) (n f : Bool) (es : LL) (x6 x7 x16 : Int) (n_0 : Bool) (s_0 : LL) : Env × Hp := ([(0, LV.pv (PV.ptr [tc, tg, tj, tf, tp, PV.mp M, PV.mp S])), (5, LV.own 0), (6, Y6 x6), (7, Y6 x7), (14, LV.pv (PV.sl n f es)), (15, LV.pv (PV.int i64 (es.length : Int))), (16, Y6 x16)], [.sl (21, 1) true n_0 s_0])
section
variable (tc tg tj tf tp : PV) (M S : List (PV × PV)) (n f : Bool) (es : LL) (J : Int -> Int -> Int -> Bool -> LL -> Prop) (μ : Int -> Int -> Int -> Bool -> LL -> Nat)
def zjt (R : PV -> Prop) : Prop :=
 (aH (zbr tc tg tj tf tp M S n f es (-1 : Int) (0 : Int) (0 : Int) true []) /\ J (-1 : Int) (0 : Int) (0 : Int) true []) /\ ∀ (x6 x7 x16 : Int) (n_0 : Bool) (s_0 : LL), J x6 x7 x16 n_0 s_0 ->
 let K5 := fun (y0_ y1_ y2_ : Int) (y3_ : Bool) (y4_ : LL) => aH (zbr tc tg tj tf tp M S n f es y0_ y1_ y2_ y3_ y4_) /\ J y0_ y1_ y2_ y3_ y4_ /\ μ y0_ y1_ y2_ y3_ y4_ < μ x6 x7 x16 n_0 s_0; if decide (x16 < (↑es.length :
  Int)) = true then aI es x16 1 /\ ∃ n1, (es.getD x16.toNat []).head? = some (Z3 n1) /\ PCall qa 71 [PV.ptr [tc, tg, tj, tf, tp, PV.mp M, PV.mp S], Z3 n1] fun v => ∃ n2, v = Z6 n2 /\
 let V1 := if (n2 == 0) = true then (aQ [[Z3 n1]] 1 /\ (s_0.length + 1) * 4 <= 140737488355328) /\ K5 (↑s_0.length : Int) n2 (i64.wrap (x16 + 1)) (n_0 && false) (s_0 ++ [[Z3 n1]]) else (aQ [[Z3 n1]] 1 /\ (s_0.length + 1) * 4 <=
  140737488355328) /\ K5 x6 n2 (i64.wrap (x16 + 1)) (n_0 && false) (s_0 ++ [[Z3 n1]]); if (decide (x6 >= 0) && (x6 == i64.wrap ((↑s_0.length : Int) - 1) || x7 != 0 && decide (x7 < n2))) = true then aI s_0 x6 1 /\ ∃ (n3 :
  Int), (qj 0 (s_0.getD x6.toNat [])).head? = some (Z3 n3) /\ PCall qa 80 [PV.ptr [tc, tg, tj, tf, tp, PV.mp M, PV.mp S], Z3 n3, Z3 n1] fun v1 => ∃ vs, v1 = PV.tup vs /\ vs.length = 2 /\ ∃ x, vs.head? =
  some x /\ ∃ n4, x = Z3 n4 /\ ∃ x1, vs.tail.head? = some x1 /\ ∃ b, x1 = Zb b /\ if b = true then aI s_0 x6 1 /\ (1 = 1 /\ 1 <= (s_0.getD x6.toNat []).length) /\ K5 x6 x7 (i64.wrap (x16 + 1)) n_0 (s_0.set
  x6.toNat (Z3 n4 :: zq (qj 1 (s_0.getD x6.toNat [])))) else V1 else V1 else R (PV.sl n_0 false s_0)
theorem zun {R : PV -> Prop} (h : zjt tc tg tj tf tp M S n f es J μ R) : PCall qa 54 [.ptr [tc, tg, tj, tf, tp, .mp M, .mp S], .sl n f es] R :=
 PCall.wz Tryz.func54 aP [0, 1, 4, 5, 6, 7, 9, 10, 11, 12, 13, 14, 15, 16, 17, 41, 52, 58] (cA 5 (bC cz5 (zbr tc tg tj tf tp M S n f es) J μ (fun e h => (gI e 6, gI e 7, gI e 16, oN h 0, oS h 0)) [(5, 21, 1)] [0, 5, 6, 7, 14, 15, 16] [])) h
end
section
variable (tc tg tj tf tp : PV) (M S : List (PV × PV)) (n f : Bool) (es : LL)
def zju (R : PV -> Prop) : Prop :=
 PCall qa 55 [PV.ptr [tc, tg, tj, tf, tp, PV.mp M, PV.mp S], PV.sl n f es] fun v => ∃ n1 f1 es1, v = PV.sl n1 f1 es1 /\ PCall qa 54 [PV.ptr [tc, tg, tj, tf, tp, PV.mp M, PV.mp S], PV.sl n1 f1 es1] fun v1 => ∃ n2 f2 es2, v1 = PV.sl n2 f2 es2 /\ R (PV.sl n2 f2 es2)
theorem zuo {R : PV -> Prop} (h : zju tc tg tj tf tp M S n f es R) : PCall qa 34 [.ptr [tc, tg, tj, tf, tp, .mp M, .mp S], .sl n f es] R :=
 PCall.wz Tryz.func34 aP [0, 1, 4] aZ h
end
end Go.Eng
namespace Go.Eng
open Go Go.Proofs Go.Eng.Rows Go.Eng.Trie Go.Eng.Srt
def jX : Option Int -> PV
 | some r => .tup [.int .i32 r, .bool true]
 | none => .tup [.int .i32 0, .bool false]
theorem zup {a b : Int} (ha : -2147483648 <= a /\ a <= 2147483647) (hb : -2147483648 <= b /\ b <= 2147483647) : PCall qa 106 [.int .i32 a, .int .i32 b] fun v => v = jX (d8 a b) := by
 refine zul _ _ ?_; unfold zjr;refine aC (fun hc => ?_) (fun hc => ?_)
 ·simp only [qc, aB, ge_iff_le] at hc;have w1 : i32.wrap (a - 4352) = a - 4352 := cS (by omega) (by omega);have w2 : i32.wrap ((a - 4352) * 21) = (a - 4352) * 21 := cS (by omega) (by omega);have w3 : i32.wrap ((a - 4352) * 21 + b) = (a - 4352) * 21 + b := cS (by omega) (by omega);have w4 : i32.wrap ((a - 4352) * 21 + b - 4449) = (a - 4352) * 21 + b - 4449 := cS (by omega) (by omega);have w5 : i32.wrap (((a - 4352) * 21 + b - 4449) * 28) = ((a - 4352) * 21 + b - 4449) * 28 := cS (by omega) (by omega);have w6 : i32.wrap (44032 + ((a - 4352) * 21 + b - 4449) * 28) = 44032 + ((a - 4352) * 21 + b - 4449) * 28 := cS (by omega) (by omega);rw [w1, w2, w3, w4, w5, w6];unfold d8;rw [if_pos (by omega)];simp only [jX];rw [show (a - 4352) * 21 + b - 4449 = (a - 4352) * 21 + (b - 4449) by omega]
 ·simp only [qc, aB, ge_iff_le] at hc;refine (ziw a).mono ?_;rintro _ rfl;refine ⟨_, rfl, ?_⟩;have hn : ¬ ((4352 <= a /\ a < 4371) /\ 4449 <= b /\ b < 4470) := by omega
  cases hs : bO a with
  | false =>
    refine bA (by simp) ?_;unfold d8; rw [if_neg hn, if_neg (by rw [hs]; simp)]; rfl
  | true =>
    have hr := hs;simp only [bO, qc, aB] at hr;have w1 : i32.wrap (a - 44032) = a - 44032 := cS (by omega) (by omega);have e3 : (a - 44032).tmod 28 = (a - 44032) % 28 := qaj (by omega);rw [w1, e3];refine aC (fun h2 => ?_) (fun h2 => ?_)
    ·simp only [qc, aB, gt_iff_lt, beq_iff_eq, qab] at h2;have w2 : i32.wrap (a + b) = a + b := cS (by omega) (by omega);have w3 : i32.wrap (a + b - 4519) = a + b - 4519 := cS (by omega) (by omega);rw [w2, w3];unfold d8; rw [if_neg hn, if_pos ⟨⟨hs, h2.1.1⟩, h2.1.2, h2.2⟩];simp only [jX];rw [show a + b - 4519 = a + (b - 4519) by omega]
    ·simp only [qc, aB, gt_iff_lt, beq_iff_eq, qab] at h2;unfold d8; rw [if_neg hn, if_neg (by omega)]; rfl
section
variable {rows : List Row} {v : PV}
theorem zuq (hp : cT rows) (h1 : dG rows) (hv : d7 rows v) {a b : Int} (ha : -2147483648 <= a /\ a <= 2147483647) (hb : -2147483648 <= b /\ b <= 2147483647) : PCall qa 80 [v, .int .i32 a, .int .i32 b] fun x => x = jX (eR rows a b) := by
 obtain ⟨tc, tg, tj, tf, tp, made, sec, rfl, ht, hm⟩ := hv;refine zum _ _ _ _ _ _ _ _ _ ?_; unfold zjs;refine (zup ha hb).mono ?_;rintro _ rfl;unfold eR;cases d8 a b with
 | some r =>
   exact ⟨_, rfl, rfl, _, rfl, _, rfl, _, rfl, _, rfl, bD rfl rfl⟩
 | none =>
   refine ⟨_, rfl, rfl, _, rfl, _, rfl, _, rfl, _, rfl, bA (by simp) ?_⟩;refine (zsn _ _ _ _ _ _ made a b).mono ?_;rintro _ rfl;rw [<- zud hp h1 hm a b];unfold uJ;split
   ·exact ⟨_, rfl, rfl, _, rfl, _, rfl, _, rfl, _, rfl, rfl⟩
   ·cases bU (a, b) made with
    | none => exact ⟨_, rfl, rfl, _, rfl, _, rfl, _, rfl, _, rfl, rfl⟩
    | some r => exact ⟨_, rfl, rfl, _, rfl, _, rfl, _, rfl, _, rfl, rfl⟩
def cW (st : CSt) : Int := match st.s with | none => -1 | some _ => st.P.length
theorem zjv {d : List Int} : ∀ m ∈ (bH rows d).M, aD rows 1 m ≠ 0 := by
 induction d using iO with
 | h0 => intro m hm; cases hm
 | h1 d r ih =>
   rw [fZ];rcases oY rows (bH rows d) r with e | ⟨a, c, hs, hp, _, e⟩
   ·rw [e];unfold cE;split
    ·intro m hm; cases hm
    ·rename_i h0;intro m hm;rcases List.mem_append.1 hm with hm | hm
     ·exact ih m hm
     ·rw [qar] at hm; subst hm; exact h0
   ·rw [e]; exact ih
def JC (rows : List Row) (L : List Int) (x6 x7 i : Int) (s : List (List PV)) : Prop := (0 <= i /\ i <= L.length) /\ s = aA (bH rows (L.take i.toNat)).out /\ x6 = cW (bH rows (L.take i.toNat)) /\ x7 = dB (aD rows 1) (bH rows (L.take i.toNat)).M
theorem JC.next {L : List Int} {i : Int} (h0 : 0 <= i) (hi : i.toNat < L.length) {st : CSt} (he : bZ rows (bH rows (L.take i.toNat)) L[i.toNat] = st) : JC rows L (cW st) (dB (aD rows 1) st.M) (i + 1) (aA st.out) := by
 have e : bH rows (L.take (i + 1).toNat) = st := by
  rw [show (i + 1).toNat = i.toNat + 1 by omega, cZ hi, fZ, he]
 exact ⟨⟨by omega, by omega⟩, by rw [e], by rw [e], by rw [e]⟩
theorem zur (hp : cT rows) (h1 : dG rows) (hv : d7 rows v) (n f : Bool) (L : List Int) (hr : R32 L) (hL : L.length < 1000000000000) : PCall qa 54 [v, .sl n f (aA L)] fun x => ∃ n f, x = .sl n f (aA (fY rows L)) := by
 have hv' := hv;obtain ⟨tc, tg, tj, tf, tp, made, sec, rfl, ht, hm⟩ := hv;refine zun _ _ _ _ _ _ _ _ _ _ (fun x6 x7 i _ s => JC rows L x6 x7 i s) (fun _ _ i _ _ => L.length - i.toNat) ?_;unfold zjt;refine ⟨⟨rfl, ⟨qo _, by omega⟩, rfl, rfl, rfl⟩, ?_⟩;rintro x6 x7 i n0 _ ⟨⟨i0, i1⟩, rfl, rfl, rfl⟩;refine aC (fun hc => ?_) (fun hc => ?_)
 ·simp only [aB, bG] at hc;have hi : i.toNat < L.length := by omega
  obtain ⟨g1, g2⟩ := fX i0 hi;have hx := hr _ (qk hi);have hw : i64.wrap (i + 1) = i + 1 := aF (by omega) (by omega);refine ⟨g1, L[i.toNat], by rw [g2]; rfl, ?_⟩;refine (uI _ _ ht hx).mono ?_;rintro _ rfl;refine ⟨_, rfl, ?_⟩;rw [hw];have hlen := zbm rows (L.take i.toNat);have hrng := zbn h1 (L.take i.toNat);have hnz := zjv (rows := rows) (d := L.take i.toNat);have hnP := rP (rows := rows) (d := L.take i.toNat);rw [qn] at hlen;unfold fY at hlen hrng;have next := fun st => JC.next (rows := rows) (st := st) i0 hi
  generalize bH rows (L.take i.toNat) = st at *;have hmu : L.length - (i + 1).toNat < L.length - i.toNat := by omega
  have hsz : aQ [[PV.int .i32 L[i.toNat]]] 1 /\ ((aA st.out).length + 1) * 4 <= 140737488355328 := ⟨dL [_], by rw [bG]; omega⟩;have hout : aA st.out ++ [[PV.int .i32 L[i.toNat]]] = aA (st.out ++ [L[i.toNat]]) := by rw [fQ]; rfl
  have hl : ((aA st.out).length : Int) = st.out.length := by rw [bG]
  have app0 : bZ rows st L[i.toNat] = cE (aD rows 1) st L[i.toNat] -> aD rows 1 L[i.toNat] = 0 -> JC rows L (aA st.out).length (aD rows 1 L[i.toNat]) (i + 1) (aA st.out ++ [[PV.int .i32 L[i.toNat]]]) := fun he h0 => by
   have := next _ (he.trans (by unfold cE; rw [if_pos h0]))
   rw [hout, hl, h0];simpa [cW, dB, CSt.out] using this
  have app1 : bZ rows st L[i.toNat] = cE (aD rows 1) st L[i.toNat] -> aD rows 1 L[i.toNat] ≠ 0 -> JC rows L (cW st) (aD rows 1 L[i.toNat]) (i + 1) (aA st.out ++ [[PV.int .i32 L[i.toNat]]]) := fun he h0 => by
   have := next _ (he.trans (by unfold cE; rw [if_neg h0]))
   rw [hout];simp only [rO] at this;have e2 : st.out ++ [L[i.toNat]] = CSt.out ⟨st.P, st.s, st.M ++ [L[i.toNat]]⟩ := by simp [CSt.out]
   rw [e2];exact this
  refine aC (fun hf => ?_) (fun hf => ?_)
  ·simp only [qc, aB, qg, beq_iff_eq, bne_iff_ne, ne_eq, ge_iff_le] at hf;obtain ⟨hf1, hf2⟩ := hf;cases hs : st.s with
   | none => simp [cW, hs] at hf1
   | some a =>
     have hsi : cW st = st.P.length := by simp [cW, hs]
     have hol : st.out.length = st.P.length + 1 + st.M.length := by simp [CSt.out, hs]; omega
     have hw2 : i64.wrap ((aA st.out).length - 1) = st.out.length - 1 := by rw [hl]; exact aF (by omega) (by omega)
     have hfree : st.M = [] ∨ dB (aD rows 1) st.M < aD rows 1 L[i.toNat] := by
      rcases hf2 with h | h
      ·rw [hw2, hsi] at h;exact .inl (qq (by omega))
      ·exact .inr h.2
     have hat : st.out[st.P.length]'(by omega) = a := by simp [CSt.out, hs]
     obtain ⟨k1, k2⟩ := fX (l := st.out) (i := cW st) (by omega) (by omega);have hta : (cW st).toNat = st.P.length := by omega
     have k3 : (aA st.out).getD (cW st).toNat [] = [PV.int .i32 a] := by
      rw [k2]; simp only [hta, hat]
     have ha : -2147483648 <= a /\ a <= 2147483647 := by
      rcases hrng a (by simp [CSt.out, hs]) with h | h
      ·exact hr a (qag h)
      ·omega
     refine ⟨k1, a, by rw [k3]; rfl, ?_⟩;refine (zuq hp h1 hv' ha hx).mono ?_;rintro _ rfl;cases hpc : eR rows a L[i.toNat] with
     | some c =>
       refine ⟨_, rfl, rfl, _, rfl, _, rfl, _, rfl, _, rfl, bD rfl ⟨k1, ⟨rfl, by rw [k3]; exact qp _⟩, rfl, ?_, by dsimp only; omega⟩⟩;rw [k3, hta]
       have he : bZ rows st L[i.toNat] = ⟨st.P, some c, st.M⟩ := by
        unfold bZ; rw [hs]; simp only; rw [if_pos hfree, hpc]
       have := next _ he
       have e2 : (aA st.out).set st.P.length [PV.int .i32 c] = aA (CSt.out ⟨st.P, some c, st.M⟩) := by
        simp [CSt.out, hs, aA]
       have e3 : cW ⟨st.P, some c, st.M⟩ = cW st := by rw [hsi]; rfl
       rw [e3] at this;show JC rows L (cW st) (dB (aD rows 1) st.M) (i + 1) ((aA st.out).set st.P.length [PV.int .i32 c]);rw [e2];exact this
     | none =>
       have he : bZ rows st L[i.toNat] = cE (aD rows 1) st L[i.toNat] := by
        unfold bZ; rw [hs]; simp only; rw [if_pos hfree, hpc]
       refine ⟨_, rfl, rfl, _, rfl, _, rfl, _, rfl, _, rfl, bA (by simp) (aC (fun h0 => ?_) (fun h0 => ?_))⟩
       ·exact ⟨hsz, rfl, app0 he (by simpa using h0), by dsimp only; omega⟩
       ·exact ⟨hsz, rfl, app1 he (by simpa using h0), by dsimp only; omega⟩
  ·simp only [qc, aB, qg, beq_iff_eq, bne_iff_ne, ne_eq, ge_iff_le] at hf
   have he : bZ rows st L[i.toNat] = cE (aD rows 1) st L[i.toNat] := by
    rcases oY rows st L[i.toNat] with e | ⟨a, c, hs, hpc, hfree, e⟩
    ·exact e
    ·have hsi : cW st = st.P.length := by simp [cW, hs]
     have hol : st.out.length = st.P.length + 1 + st.M.length := by simp [CSt.out, hs]; omega
     have hw2 : i64.wrap ((aA st.out).length - 1) = st.out.length - 1 := by rw [hl]; exact aF (by omega) (by omega)
     refine absurd ⟨by omega, ?_⟩ hf;by_cases hM : st.M = []
     ·left; rw [hw2, hsi, hol, hM]; simp
     ·right;obtain ⟨m, hm, e⟩ := zbq (key := aD rows 1) hM;exact ⟨by rw [e]; exact hnz m hm, hfree.elim (fun e => absurd e hM) id⟩
   refine aC (fun h0 => ?_) (fun h0 => ?_)
   ·exact ⟨hsz, rfl, app0 he (by simpa using h0), by dsimp only; omega⟩
   ·exact ⟨hsz, rfl, app1 he (by simpa using h0), by dsimp only; omega⟩
 ·simp only [aB, bG] at hc;rw [ql (by omega)];exact ⟨_, _, rfl⟩
theorem zjw (hp : cT rows) (h1 : dG rows) (hk : dY rows) (hv : d7 rows v) (n f : Bool) (L : List Int) (hr : R32 L) (hL : L.length < 1000000) : PCall qa 34 [v, .sl n f (aA L)] fun x => ∃ n f, x = .sl n f (aA (dC rows L)) := by
 have hv' := hv;obtain ⟨tc, tg, tj, tf, tp, made, sec, rfl, ht, hm⟩ := hv;refine zuo _ _ _ _ _ _ _ _ _ _ ?_; unfold zju;refine (zub hp hk hv' n f L hr hL).mono ?_;rintro _ ⟨n1, f1, rfl⟩;refine ⟨_, _, _, rfl, ?_⟩;refine (zur hp h1 hv' _ _ _ (zbh hk hp hr) (zjn hk hL)).mono ?_;rintro _ ⟨n2, f2, rfl⟩;exact ⟨_, _, _, rfl, _, _, rfl⟩
theorem zbs (hp : cT rows) (h1 : dG rows) (hk : dY rows) {l : List Int} (h : R32 l) : R32 (dC rows l) := fun x hx => by
 rcases zbn h1 _ x hx with h2 | h2
 ·exact zbh hk hp h x h2
 ·omega
theorem u9 (hk : dY rows) (l : List Int) : (dC rows l).length <= 768 * l.length := Nat.le_trans (zbm rows _) (zji hk l)
end
theorem v22 : Tryz.prog.underlying 22 = some (.slice 21) := by kernel_rfl
theorem v21 : Tryz.prog.underlying 21 = some (.int .i32) := by kernel_rfl
theorem zus {v : PV} (h : oK qa 8 22 v) : ∃ nl l, v = .sl nl false (aA l) /\ R32 l := by
 obtain ⟨nl, l, e, hl, _, hr⟩ := zoz v22 v21 (zo0 (by kernel_rfl) h);cases e;exact ⟨nl, l, rfl, hr⟩
end Go.Eng
namespace Go.Eng.Rows
open Go Go.Eng Go.Eng.Trie Go.Eng.Srt
def eD (L : List Int) (a b : Nat) : List Int := (L.take b).drop a
def zut (rows : List Row) (L want : List Int) (a b : Nat) : Bool := decide (jV rows (eD L a b) = want)
def fTo (p : Nat -> Bool) (b : Nat) : Nat -> Option Nat
 | 0 => none
 | k + 1 => if p b then some b else fTo p (b + 1) k
def zjx (rows : List Row) (L want : List Int) (a : Nat) : Nat -> Option (Nat × Nat)
 | 0 => none
 | k + 1 => match fTo (zut rows L want a) a (L.length + 1 - a) with
   | some b => some (a, b)
   | none => zjx rows L want (a + 1) k
def findL (rows : List Row) (L want : List Int) : Option (Nat × Nat) := zjx rows L want 0 (L.length + 1)
end Go.Eng.Rows
namespace Go.Eng
open Go Go.Proofs
end Go.Eng
namespace Go.Eng
open Go Go.Proofs Go.Eng.Rows Go.Eng.Trie Go.Eng.Srt
theorem zuu (l : List Int) (k : Nat) : (l.take k).length <= k := by rw [qn]; omega
theorem zjy {len : Nat} {i j : Int} (h0 : 0 <= i) (h1 : i <= j) (h2 : j <= len) : eU len (some i) (some j) none := ⟨h0, h1, h2, trivial⟩
theorem zjz (L : List Int) (i j : Nat) : qj i (qas j (aA L)) = aA (eD L i j) := by simp [aA, eD]
theorem R32.sub {L : List Int} (h : R32 L) (i j : Nat) : R32 (eD L i j) := fun x hx => h x (qag (List.mem_of_mem_drop hx))
theorem zuv (L : List Int) (i j : Nat) : (eD L i j).length <= L.length := by unfold eD; rw [List.length_drop, qn]; omega
theorem w3 : Tryz.prog.underlying 3 = some (.int .i64) := by kernel_rfl
end Go.Eng

namespace Go.Eng.Srt
open Go Go.Eng
section
variable {key : Int -> Int} (hk : ∀ x, 0 <= key x)
include hk
end
end Go.Eng.Srt
namespace Go.Eng.Rows
open Go Go.Eng Go.Eng.Trie Go.Eng.Srt
section
variable {rows : List Row}
def CSt.pre (Q : List Int) (st : CSt) : CSt := ⟨Q ++ st.P, st.s, st.M⟩
end
end Go.Eng.Rows

namespace Go.Eng.Rows
open Go Go.Eng Go.Eng.Trie Go.Eng.Srt
theorem zuw {L : List Int} {j b : Nat} (h : j <= b) (hb : b <= L.length) : L.drop j = eD L j b ++ L.drop b := by
 have h1 : L = L.take b ++ L.drop b := (List.take_append_drop b L).symm;have h2 : L.drop j = (L.take b ++ L.drop b).drop j := by rw [<- h1]
 rw [h2, qaq (by rw [qn]; omega)]; rfl
theorem zux {L : List Int} {a i : Nat} (h : a < i) (hi : i <= L.length) : eD L a i = L.getD a 0 :: eD L (a + 1) i := by
 unfold eD;rw [qw (by rw [qn]; omega), List.getElem_take];simp only [qat, qac (show a < L.length by omega), qbf]
theorem drop_cons {L : List Int} {b : Nat} (h : b < L.length) : L.drop b = L.getD b 0 :: L.drop (b + 1) := by
 rw [qw h];simp only [qat, qac h, qbf]
section
variable {rows : List Row}
end
section
variable (p : List Int -> Option (Nat × Nat)) (ls : List (List Int)) (s : Int)
end
section
variable {p : List Int -> Option (Nat × Nat)} {ls : List (List Int)} {s : Int}
end
section
variable (p : List Int -> Option (Nat × Nat)) (L : List Int)
end
def Inc (n : Nat) : Nat -> List (Nat × Nat) -> Prop
 | i, [] => i <= n
 | i, (a, b) :: ps => i <= a /\ a < b /\ Inc n b ps
theorem Inc.le {n : Nat} : ∀ {ps : List (Nat × Nat)} {i : Nat}, Inc n i ps -> i <= n
 | [], i, h => h
 | (a, b) :: ps, i, h => by have := h.2.2.le; have := h.1; have := h.2.1; omega
theorem Inc.len {n : Nat} : ∀ {ps : List (Nat × Nat)} {i : Nat}, Inc n i ps -> ps.length + i <= n
 | [], i, h => by have : i <= n := h; simpa using this
 | (a, b) :: ps, i, h => by have := h.2.2.len; have := h.1; have := h.2.1; rw [qf]; omega
section
variable {p : List Int -> Option (Nat × Nat)} {L : List Int}
end
def aL (rows : List Row) (r : Int) : Int := if 44032 <= r /\ r <= 55203 then (if (r - 44032).tmod 28 = 0 then 12 else 13) else aD rows 4 r
def bQ (rows : List Row) (r : Int) : Int := if aD rows 6 r ≠ 0 then aD rows 6 r else if (aL rows r = 4 ∨ aL rows r = 5) /\ r ≠ 8204 then 3 else 0
def cQ (b : Int) : Bool := decide (b = 3) || (decide (b = 1) || decide (b = 2))
def nB (a b : Int) : Bool :=
 if a = 9 then decide (b = 9) || (decide (b = 10) || (decide (b = 12) || decide (b = 13)))
 else if a = 12 ∨ a = 10 then decide (b = 10) || decide (b = 11)
 else if a = 13 ∨ a = 11 then decide (b = 11) else false
def gV (a b : Int) : Bool :=
 if a = 1 then decide (b = 2) else if a = 2 ∨ a = 3 then false
 else if b = 1 ∨ b = 2 ∨ b = 3 then false else if b = 4 ∨ b = 5 ∨ b = 8 then true
 else if a = 7 then true else nB a b
structure SSt where
 (some : Bool) (last pict conj : Int) (odd : Bool)
def dO (rows : List Row) (st : SSt) (r : Int) : SSt :=
 ⟨true, aL rows r,
  if bP rows 5 r = true then 1 else if st.pict = 1 /\ aL rows r = 4 then 1 else if st.pict = 1 /\ aL rows r = 5 then 2 else 0,
  if bQ rows r = 2 then 1 else if st.conj ≠ 0 /\ bQ rows r = 1 then 2 else if st.conj ≠ 0 /\ bQ rows r = 3 then st.conj else 0,
  decide (aL rows r = 6) && !st.odd⟩
def rQ (rows : List Row) (st : SSt) (r : Int) : Bool :=
 !gV st.last (aL rows r) && (!(decide (st.pict = 2) && bP rows 5 r) && (!(decide (st.conj = 2) && decide (bQ rows r = 2)) && !(st.odd && decide (aL rows r = 6))))
def oZ (rows : List Row) (st : SSt) (r : Int) : Bool := !st.some || rQ rows st r
def st0 : SSt := ⟨false, 0, 0, 0, false⟩
def aX (rows : List Row) (L : List Int) (a : Nat) : Nat -> SSt
 | 0 => st0
 | k + 1 => dO rows (aX rows L a k) (L.getD (a + k) 0)
def fD (rows : List Row) (L : List Int) (i : Nat) : Bool := oZ rows (aX rows L 0 i) (L.getD i 0)
structure eE (rows : List Row) : Prop where
 pict : ∀ r, bP rows 5 r = true -> cQ (aL rows r) = false /\ aL rows r ≠ 5
 conj : ∀ r, bQ rows r = 0 ∨ bQ rows r = 1 ∨ bQ rows r = 2 ∨ bQ rows r = 3
 cons : ∀ r, bQ rows r ≠ 0 -> cQ (aL rows r) = false
 join : ∀ r, bQ rows r = 1 ∨ bQ rows r = 3 -> aL rows r = 4 ∨ aL rows r = 5 ∨ aL rows r = 8
theorem zuy {a b : Int} (h : cQ a = true ∨ cQ b = true) (h2 : ¬(a = 1 /\ b = 2)) : gV a b = false := by
 unfold cQ at h;simp only [qg, aB] at h;unfold gV;by_cases h1 : a = 1
 ·rw [if_pos h1]; exact decide_eq_false fun h3 => h2 ⟨h1, h3⟩
 ·rw [if_neg h1];by_cases h3 : a = 2 ∨ a = 3
  ·rw [if_pos h3]
  ·rw [if_neg h3, if_pos (by omega)]
theorem zuz {a b : Int} (h : cQ a = false) (h2 : cQ b = false) (h3 : b = 4 ∨ b = 5 ∨ b = 8) : gV a b = true := by
 unfold cQ at h h2;simp only [qx, c6] at h h2;unfold gV;rw [if_neg h.2.1, if_neg (by omega), if_neg (by omega), if_pos h3]
section
variable {rows : List Row} {L : List Int}
theorem zbt {a k : Nat} : (aX rows L a (k + 1)).last = aL rows (L.getD (a + k) 0) := rfl
theorem zu0 {a k : Nat} : (aX rows L a (k + 1)).some = true := rfl
theorem zj0 {a : Nat} (ht : eE rows) : ∀ k, (aX rows L a k).pict ≠ 0 -> cQ (aX rows L a k).last = false
 | 0, h => absurd rfl h
 | k + 1, h => by
   rw [zbt];by_cases h1 : bP rows 5 (L.getD (a + k) 0) = true
   ·exact (ht.pict _ h1).1
   ·have h' : (if (aX rows L a k).pict = 1 /\ aL rows (L.getD (a + k) 0) = 4 then (1 : Int) else if (aX rows L a k).pict = 1 /\ aL rows (L.getD (a + k) 0) = 5 then 2 else 0) ≠ 0 := by
     have h2 : (dO rows (aX rows L a k) (L.getD (a + k) 0)).pict ≠ 0 := h;unfold dO at h2; simp only [if_neg h1] at h2; exact h2
    have : aL rows (L.getD (a + k) 0) = 4 ∨ aL rows (L.getD (a + k) 0) = 5 := by
     split at h'
     ·rename_i h3; exact .inl h3.2
     ·split at h'
      ·rename_i h3; exact .inr h3.2
      ·exact absurd rfl h'
    unfold cQ;rcases this with e | e <;> rw [e] <;> rfl
theorem zj1 {a : Nat} (ht : eE rows) : ∀ k, (aX rows L a k).conj ≠ 0 -> cQ (aX rows L a k).last = false
 | 0, h => absurd rfl h
 | k + 1, h => by
   rw [zbt];apply ht.cons;intro h0;apply h;show (dO rows (aX rows L a k) (L.getD (a + k) 0)).conj = 0;unfold dO;simp only [h0];rw [if_neg (by decide), if_neg (fun h => absurd h.2 (by decide)), if_neg (fun h => absurd h.2 (by decide))]
theorem zj2 (k : Nat) : fD rows L (k + 1) = rQ rows (aX rows L 0 (k + 1)) (L.getD (k + 1) 0) := by
 unfold fD oZ; rw [zu0]; rfl
theorem zj3 (ht : eE rows) {a : Nat} (hb : fD rows L a = true) : ∀ k, aX rows L a (k + 1) = aX rows L 0 (a + (k + 1))
 | 0 => by
   cases a with
   | zero => rfl
   | succ a =>
     rw [zj2] at hb;show dO rows st0 (L.getD (a + 1 + 0) 0) = dO rows (aX rows L 0 (a + 1)) (L.getD (0 + (a + 1)) 0);rw [show a + 1 + 0 = a + 1 by omega, show 0 + (a + 1) = a + 1 by omega];have hp := zj0 (a := 0) (L := L) ht (a + 1);have hc := zj1 (a := 0) (L := L) ht (a + 1);generalize aX rows L 0 (a + 1) = st at *;generalize L.getD (a + 1) 0 = r at *;unfold rQ at hb;simp only [qc, qy, qv] at hb;obtain ⟨h1, h2, h3, h4⟩ := hb
     have hs : aL rows r = 4 ∨ aL rows r = 5 ∨ aL rows r = 8 -> cQ st.last = true := fun h => by
      cases hh : cQ st.last with
      | true => rfl
      | false => rw [zuz hh (by unfold cQ; rcases h with e | e | e <;> rw [e] <;> rfl) h] at h1; cases h1
     unfold dO st0
     have e1 : (if bP rows 5 r = true then (1 : Int) else if (0 : Int) = 1 /\ aL rows r = 4 then 1 else if (0 : Int) = 1 /\ aL rows r = 5 then 2 else 0) = (if bP rows 5 r = true then 1 else if st.pict = 1 /\ aL rows r = 4 then 1 else if st.pict = 1 /\ aL rows r = 5 then 2 else 0) := by
      by_cases h5 : bP rows 5 r = true
      ·rw [if_pos h5, if_pos h5]
      ·rw [if_neg h5, if_neg h5, if_neg (by omega), if_neg (by omega)]
       have : ∀ b, (b = 4 ∨ b = 5 ∨ b = 8) -> ¬(st.pict = 1 /\ aL rows r = b) := fun b hb h => by
        have := hs (by rw [h.2]; exact hb);rw [hp (by omega)] at this; cases this
       rw [if_neg (this 4 (by omega)), if_neg (this 5 (by omega))]
     have e2 : (if bQ rows r = 2 then (1 : Int) else if (0 : Int) ≠ 0 /\ bQ rows r = 1 then 2 else if (0 : Int) ≠ 0 /\ bQ rows r = 3 then 0 else 0) = (if bQ rows r = 2 then 1 else if st.conj ≠ 0 /\ bQ rows r = 1 then 2 else if st.conj ≠ 0 /\ bQ rows r = 3 then st.conj else 0) := by
      by_cases h5 : bQ rows r = 2
      ·rw [if_pos h5, if_pos h5]
      ·rw [if_neg h5, if_neg h5, if_neg (by omega), if_neg (by omega)]
       have : ∀ c, (c = 1 ∨ c = 3) -> ¬(st.conj ≠ 0 /\ bQ rows r = c) := fun c hc2 h => by
        have := hs (ht.join r (by rw [h.2]; exact hc2));rw [hc h.1] at this; cases this
       rw [if_neg (this 1 (by omega)), if_neg (this 3 (by omega))]
     have e3 : (decide (aL rows r = 6) && !false) = (decide (aL rows r = 6) && !st.odd) := by
      rcases h4 with h4 | h4
      ·rw [h4]
      ·rw [h4]; rfl
     dsimp only at e1 e2 e3 ⊢;rw [e1, e2, e3]
 | k + 1 => by
   show dO rows (aX rows L a (k + 1)) (L.getD (a + (k + 1)) 0) = dO rows (aX rows L 0 (a + (k + 1))) (L.getD (0 + (a + (k + 1))) 0);rw [zj3 ht hb k, qal]
theorem zu1 (ht : eE rows) {a : Nat} (hb : fD rows L a = true) (k : Nat) : oZ rows (aX rows L a (k + 1)) (L.getD (a + (k + 1)) 0) = fD rows L (a + (k + 1)) := by
 rw [zj3 ht hb k]; rfl
end
def fR (rows : List Row) (L : List Int) : Nat -> Nat -> Nat
 | 0, i => i
 | k + 1, i => if fD rows L i = true then i else fR rows L k (i + 1)
def bX (rows : List Row) (L : List Int) (a : Nat) : Nat := fR rows L (L.length - (a + 1)) (a + 1)
theorem zj4 (rows : List Row) (L : List Int) : ∀ k i, i <= fR rows L k i /\ fR rows L k i <= i + k /\ (fR rows L k i = i + k ∨ fD rows L (fR rows L k i) = true)
 | 0, i => ⟨qp _, qp _, .inl rfl⟩
 | k + 1, i => by
   rw [fR];split
   ·rename_i h; exact ⟨qp _, by omega, .inr h⟩
   ·obtain ⟨h1, h2, h3⟩ := zj4 rows L k (i + 1);exact ⟨by omega, by omega, h3.imp (fun e => by omega) id⟩
def jY (rows : List Row) (L : List Int) : Nat -> Nat -> List (List Int)
 | 0, _ => []
 | k + 1, i => if i < L.length then eD L i (bX rows L i) :: jY rows L k (bX rows L i) else []
def cR (rows : List Row) (L : List Int) (i : Nat) : List (List Int) := jY rows L (L.length + 1) i
theorem o0 {rows : List Row} {L : List Int} {i : Nat} (h : i < L.length) : i < bX rows L i /\ bX rows L i <= L.length /\ (bX rows L i = L.length ∨ fD rows L (bX rows L i) = true) := by
 obtain ⟨h1, h2, h3⟩ := zj4 rows L (L.length - (i + 1)) (i + 1);unfold bX;exact ⟨by omega, by omega, h3.imp (fun e => by omega) id⟩
theorem zj5 (rows : List Row) (L : List Int) : ∀ k i, L.length + 1 <= k + i -> jY rows L k i = jY rows L (k + 1) i
 | 0, i, h => by rw [jY, jY, if_neg (by omega)]
 | k + 1, i, h => by
   rw [jY, jY];by_cases hi : i < L.length
   ·rw [if_pos hi, if_pos hi, zj5 rows L k _ (by have := (o0 (rows := rows) hi).1; omega)]
   ·rw [if_neg hi, if_neg hi]
theorem o7 {rows : List Row} {L : List Int} {i : Nat} (h : L.length <= i) : cR rows L i = [] := by unfold cR; rw [jY, if_neg (by omega)]
theorem vA {rows : List Row} {L : List Int} {i : Nat} (h : i < L.length) : cR rows L i = eD L i (bX rows L i) :: cR rows L (bX rows L i) := by
 have := (o0 (rows := rows) h).1;unfold cR;rw [<- zj5 rows L L.length (bX rows L i) (by omega), jY, if_pos h]
section
variable {rows : List Row} {L : List Int}
theorem zu2 (ht : eE rows) (k : Nat) : fD rows L (k + 1) =
 (if aL rows (L.getD k 0) = 1 /\ aL rows (L.getD (k + 1) 0) = 2 then false
  else if cQ (aL rows (L.getD k 0)) = true ∨ cQ (aL rows (L.getD (k + 1) 0)) = true then true
  else if nB (aL rows (L.getD k 0)) (aL rows (L.getD (k + 1) 0)) = true ∨ (aL rows (L.getD (k + 1) 0) = 4 ∨ aL rows (L.getD (k + 1) 0) = 5 ∨ aL rows (L.getD (k + 1) 0) = 8 ∨ aL rows (L.getD k 0) = 7) then false
  else !(decide (bQ rows (L.getD (k + 1) 0) = 2) && decide ((aX rows L 0 (k + 1)).conj = 2)) && (!(bP rows 5 (L.getD (k + 1) 0) && decide ((aX rows L 0 (k + 1)).pict = 2)) && !(decide (aL rows (L.getD (k + 1) 0) = 6) && (aX rows L 0 (k + 1)).odd))) := by
 rw [zj2];have hl : (aX rows L 0 (k + 1)).last = aL rows (L.getD k 0) := by rw [zbt, qal]
 have hp := zj0 (a := 0) (L := L) ht (k + 1);have hc := zj1 (a := 0) (L := L) ht (k + 1)
 have ho : (aX rows L 0 (k + 1)).odd = true -> aL rows (L.getD k 0) = 6 := fun h => by
  have h' : (decide (aL rows (L.getD (0 + k) 0) = 6) && !(aX rows L 0 k).odd) = true := h;simp only [qc, aB, qal] at h'; exact h'.1
 have h5 := ht.pict (L.getD (k + 1) 0);have h6 := ht.cons (L.getD (k + 1) 0);rw [hl] at hp hc;generalize aX rows L 0 (k + 1) = st at *;generalize L.getD (k + 1) 0 = r at *;generalize L.getD k 0 = q at *;unfold rQ;rw [hl]
 have hhard : cQ (aL rows q) = true ∨ cQ (aL rows r) = true -> (!(decide (st.pict = 2) && bP rows 5 r) && (!(decide (st.conj = 2) && decide (bQ rows r = 2)) && !(st.odd && decide (aL rows r = 6)))) = true := fun h => by
  have g1 : (decide (st.pict = 2) && bP rows 5 r) = false := by
   rw [qv, c6];rcases h with h | h
   ·exact .inl fun e => by rw [hp (by omega)] at h; cases h
   ·right;cases ht5 : bP rows 5 r with
    | false => rfl
    | true => rw [(h5 ht5).1] at h; cases h
  have g2 : (decide (st.conj = 2) && decide (bQ rows r = 2)) = false := by
   rw [qv, c6, c6];rcases h with h | h
   ·exact .inl fun e => by rw [hc (by omega)] at h; cases h
   ·exact .inr fun e => by rw [h6 (by omega)] at h; cases h
  have g3 : (st.odd && decide (aL rows r = 6)) = false := by
   rw [qv, c6];rcases h with h | h
   ·left;cases hod : st.odd with
    | false => rfl
    | true => rw [ho hod] at h; cases h
   ·exact .inr fun e => by rw [e] at h; cases h
  rw [g1, g2, g3]; rfl
 by_cases c1 : aL rows q = 1 /\ aL rows r = 2
 ·rw [if_pos c1];have : gV (aL rows q) (aL rows r) = true := by rw [c1.1, c1.2]; rfl
  rw [this]; rfl
 rw [if_neg c1];by_cases c2 : cQ (aL rows q) = true ∨ cQ (aL rows r) = true
 ·rw [if_pos c2, hhard c2, zuy c2 c1]; rfl
 rw [if_neg c2]
 have c3 : cQ (aL rows q) = false /\ cQ (aL rows r) = false := by
  constructor
  ·cases h : cQ (aL rows q) with
   | false => rfl
   | true => exact absurd (.inl h) c2
  ·cases h : cQ (aL rows r) with
   | false => rfl
   | true => exact absurd (.inr h) c2
 have hst : gV (aL rows q) (aL rows r) = true ↔ (nB (aL rows q) (aL rows r) = true ∨ (aL rows r = 4 ∨ aL rows r = 5 ∨ aL rows r = 8 ∨ aL rows q = 7)) := by
  obtain ⟨q1, q2⟩ := c3;generalize aL rows q = a at *;generalize aL rows r = b at *;unfold cQ at q1 q2;simp only [qx, c6] at q1 q2;unfold gV;rw [if_neg q1.2.1, if_neg (by omega), if_neg (by omega)];by_cases d1 : b = 4 ∨ b = 5 ∨ b = 8
  ·rw [if_pos d1]; exact ⟨fun _ => .inr (by omega), fun _ => rfl⟩
  ·rw [if_neg d1];by_cases d2 : a = 7
   ·rw [if_pos d2]; exact ⟨fun _ => .inr (by omega), fun _ => rfl⟩
   ·rw [if_neg d2]; exact ⟨fun h => .inl h, fun h => h.resolve_right (by omega)⟩
 by_cases c4 : nB (aL rows q) (aL rows r) = true ∨ (aL rows r = 4 ∨ aL rows r = 5 ∨ aL rows r = 8 ∨ aL rows q = 7)
 ·rw [if_pos c4, hst.2 c4]; rfl
 ·rw [if_neg c4]
  have : gV (aL rows q) (aL rows r) = false := by
   cases h : gV (aL rows q) (aL rows r) with
   | false => rfl
   | true => exact absurd (hst.1 h) c4
  rw [this];simp only [qbg, qab];rw [qay (decide (bQ rows r = 2)), qay (bP rows 5 r), qay (decide (aL rows r = 6))];cases (decide (st.conj = 2) && decide (bQ rows r = 2)) <;> cases (decide (st.pict = 2) && bP rows 5 r) <;> rfl
theorem zu3 (k : Nat) : (aX rows L 0 (k + 1)).conj = if bQ rows (L.getD k 0) = 2 then 1 else if (aX rows L 0 k).conj ≠ 0 /\ bQ rows (L.getD k 0) = 1 then 2 else if (aX rows L 0 k).conj ≠ 0 /\ bQ rows (L.getD k 0) = 3 then (aX rows L 0 k).conj else 0 := by
 show (dO rows (aX rows L 0 k) (L.getD (0 + k) 0)).conj = _;rw [qal]; rfl
theorem zj6 (k : Nat) : (aX rows L 0 (k + 1)).pict = if bP rows 5 (L.getD k 0) = true then 1 else if (aX rows L 0 k).pict = 1 /\ aL rows (L.getD k 0) = 4 then 1 else if (aX rows L 0 k).pict = 1 /\ aL rows (L.getD k 0) = 5 then 2 else 0 := by
 show (dO rows (aX rows L 0 k) (L.getD (0 + k) 0)).pict = _;rw [qal]; rfl
theorem zu4 (k : Nat) : (aX rows L 0 (k + 1)).odd = (decide (aL rows (L.getD k 0) = 6) && !(aX rows L 0 k).odd) := by
 show (dO rows (aX rows L 0 k) (L.getD (0 + k) 0)).odd = _;rw [qal]; rfl
end
end Go.Eng.Rows

namespace Go.Eng.Rows
open Go Go.Eng Go.Eng.Trie Go.Eng.Srt
def vB (rows : List Row) (hard : List Int) (lo hi : Int) : Bool := rows.all fun y => !(decide (y.kind = 4) && hard.contains y.a) || (decide (y.to < lo) || decide (hi < y.fr))
theorem zj7 {rows : List Row} {hard : List Int} {lo hi r : Int} (h : vB rows hard lo hi = true) (h0 : hard.contains 0 = false) (h1 : hard.contains 12 = false) (h2 : hard.contains 13 = false) (hr : lo <= r /\ r <= hi) : hard.contains (aL rows r) = false := by
 unfold aL;split
 ·split <;> assumption
 ·unfold aD;cases hf : bY rows 4 r with
  | none => exact h0
  | some p =>
    obtain ⟨x, hx, hk, ha, _, h3, h4, _⟩ := jR hf;dsimp only;rw [<- ha];have := List.all_eq_true.1 h x hx;simp only [qg, qy, qv, aB, c6] at this;rcases this with (h5 | h5) | h5 | h5
    ·exact absurd hk h5
    ·exact h5
    ·omega
    ·omega
def zu5 (rows : List Row) : Bool := rows.all fun x =>
 (!(decide (x.kind = 5) && decide (x.a = 1)) || vB rows [1, 2, 3, 5] x.fr x.to) &&
 (!decide (x.kind = 6) || (vB rows [1, 2, 3] x.fr x.to && ((decide (0 <= x.a) && decide (x.a <= 2)) && (!decide (x.a = 1) || (decide (x.fr = x.to) && (decide (aL rows x.fr = 4) || (decide (aL rows x.fr = 5) || decide (aL rows x.fr = 8))))))))
theorem zu6 {b : Int} (h : ([1, 2, 3] : List Int).contains b = false) : cQ b = false := by
 simp only [qba, qbd, qbi, qx, beq_eq_false_iff_ne, ne_eq] at h;unfold cQ;simp only [qx, c6]; omega
theorem zu7 {rows : List Row} (h : zu5 rows = true) : eE rows := by
 have hall := List.all_eq_true.1 h
 have h6 : ∀ r, aD rows 6 r ≠ 0 -> ∃ x ∈ rows, x.kind = 6 /\ x.a = aD rows 6 r /\ x.fr <= r /\ r <= x.to := fun r hr => by
  unfold aD at hr ⊢;cases hf : bY rows 6 r with
  | none => rw [hf] at hr; exact absurd rfl hr
  | some p =>
    obtain ⟨x, hx, hk, ha, _, h3, h4, _⟩ := jR hf;exact ⟨x, hx, hk, ha, h3, h4⟩
 have g6 : ∀ x ∈ rows, x.kind = 6 -> vB rows [1, 2, 3] x.fr x.to = true /\ (0 <= x.a /\ x.a <= 2) /\ (x.a ≠ 1 ∨ (x.fr = x.to /\ (aL rows x.fr = 4 ∨ aL rows x.fr = 5 ∨ aL rows x.fr = 8))) := fun x hx hk => by
  have := hall x hx;simp only [qc, qg, qy, aB, c6] at this;rcases this.2 with h | h
  ·exact absurd hk h
  ·exact h
 refine ⟨fun r hr => ?_, fun r => ?_, fun r hr => ?_, fun r hr => ?_⟩
 ·unfold bP at hr;cases hf : bY rows 5 r with
  | none => rw [hf] at hr; cases hr
  | some p =>
    rw [hf] at hr;obtain ⟨x, hx, hk, ha, _, h3, h4, _⟩ := jR hf;have := hall x hx;simp only [qc, qg, qy, qv, c6] at this;rcases this.1 with (h5 | h5) | h5
    ·exact absurd hk h5
    ·exact absurd (ha.trans (of_decide_eq_true hr)) h5
    ·have := zj7 h5 (by decide) (by decide) (by decide) ⟨h3, h4⟩;simp only [qba, qbd, qbi, qx, beq_eq_false_iff_ne, ne_eq] at this;refine ⟨?_, this.2.2.2⟩;unfold cQ;simp only [qx, c6]; exact ⟨this.2.2.1, this.1, this.2.1⟩
 ·unfold bQ;split
  ·rename_i hn;obtain ⟨x, hx, hk, ha, _, _⟩ := h6 r hn;have := (g6 x hx hk).2.1;omega
  ·split
   ·exact .inr (.inr (.inr rfl))
   ·exact .inl rfl
 ·unfold bQ at hr;split at hr
  ·rename_i hn;obtain ⟨x, hx, hk, ha, h3, h4⟩ := h6 r hn;exact zu6 (zj7 (g6 x hx hk).1 (by decide) (by decide) (by decide) ⟨h3, h4⟩)
  ·split at hr
   ·rename_i h4;unfold cQ;rcases h4.1 with e | e <;> rw [e] <;> rfl
   ·exact absurd rfl hr
 ·unfold bQ at hr;split at hr
  ·rename_i hn;obtain ⟨x, hx, hk, ha, h3, h4⟩ := h6 r hn;obtain ⟨_, g2, g3⟩ := g6 x hx hk;have h1 : x.a = 1 := by omega
   obtain ⟨g4, g5⟩ := g3.resolve_left (fun h => h h1);rw [show r = x.fr by omega]; exact g5
  ·split at hr
   ·rename_i h4;rcases h4.1 with e | e
    ·exact .inl e
    ·exact .inr (.inl e)
   ·omega
end Go.Eng.Rows
namespace Go.Eng
open Go.Eng.Rows
theorem zbu : eE tab := zu7 (by kernel_rfl)
end Go.Eng


namespace Go.Eng.Srt
open Go Go.Eng
end Go.Eng.Srt
namespace Go.Eng.Rows
open Go Go.Eng Go.Eng.Trie Go.Eng.Srt
section
variable {rows : List Row}
end
section
variable (ks : List (List Int))
end
section
variable {ks : List (List Int)} {want : List Int}
end
section
variable {rows : List Row} {L : List Int}
theorem zj8 : ∀ (n i : Nat), L.length - i <= n -> (cR rows L i).flatten = L.drop i
 | 0, i, h => by rw [o7 (by omega), qu (by omega)]; rfl
 | n + 1, i, h => by
   by_cases hi : i < L.length
   ·obtain ⟨h1, h2, _⟩ := o0 (rows := rows) hi;rw [vA hi, qav, zj8 n _ (by omega), zuw (j := i) (b := bX rows L i) (by omega) h2]
   ·rw [o7 (by omega), qu (by omega)]; rfl
theorem zj9 (rows : List Row) (L : List Int) : (cR rows L 0).flatten = L := by rw [zj8 L.length 0 (by omega)]; rfl
theorem zka : ∀ (n i : Nat), L.length - i <= n -> ∀ c ∈ cR rows L i, c ≠ []
 | 0, i, h, c, hc => by rw [o7 (by omega)] at hc; cases hc
 | n + 1, i, h, c, hc => by
   by_cases hi : i < L.length
   ·obtain ⟨h1, h2, _⟩ := o0 (rows := rows) hi;rw [vA hi] at hc;rcases List.mem_cons.1 hc with rfl | hc
    ·rw [zux h1 h2]; exact List.cons_ne_nil _ _
    ·exact zka n _ (by omega) c hc
   ·rw [o7 (by omega)] at hc; cases hc
end
end Go.Eng.Rows

namespace Go.Eng
open Go Go.Proofs
section
variable (tc tg tj tf tp : PV) (M S : List (PV × PV)) (r : Int)
def zkb (R : PV -> Prop) : Prop :=
 if (decide (r >= 44032) && decide (r <= 55203) && (i32.wrap (r - 44032)).tmod (28 : Int) == 0) = true then R (Z6 12) else if (decide (r >= 44032) && decide (r <= 55203)) = true then R (Z6 13) else (∃ ps, some tg = some (PV.ptr ps) /\ PCall qa 94 [PV.ptr ps, Z6 (i64.wrap r)] fun v => ∃ n, v = Z6 n /\ R (Z6 n)) ∨ some tg = some PV.nilp /\ PCall qa 94 [PV.nilp, Z6 (i64.wrap r)] fun v => ∃ n, v = Z6 n /\ R (Z6 n)
theorem zu8 {R : PV -> Prop} (h : zkb tg r R) : PCall qa 102 [.ptr [tc, tg, tj, tf, tp, .mp M, .mp S], .int .i32 r] R :=
 PCall.wz Tryz.func102 aP [0, 1, 4, 5, 18, 25] aZ h
end
section
variable (tc tg tj tf tp : PV) (M S : List (PV × PV)) (r : Int)
def zkc (R : PV -> Prop) : Prop :=
 let V1 := PCall qa 102 [PV.ptr [tc, tg, tj, tf, tp, PV.mp M, PV.mp S], Z3 r] fun v1 => ∃ n1, v1 = Z6 n1 /\ if ((n1 == 4 || n1 == 5) && r != 8204) = true then R (Z6 3) else R (Z6 0); (∃ ps, some tj = some (PV.ptr ps) /\ PCall qa 94 [PV.ptr ps, Z6 (i64.wrap r)] fun v => ∃ n, v = Z6 n /\ if (n != 0) = true then R (Z6 n) else V1) ∨ some tj = some PV.nilp /\ PCall qa 94 [PV.nilp, Z6 (i64.wrap r)] fun v => ∃ n, v = Z6 n /\ if (n != 0) = true then R (Z6 n) else V1
theorem zu9 {R : PV -> Prop} (h : zkc tc tg tj tf tp M S r R) : PCall qa 104 [.ptr [tc, tg, tj, tf, tp, .mp M, .mp S], .int .i32 r] R :=
 PCall.wz Tryz.func104 aP [0, 1, 4, 5, 6, 8, 17, 31] aZ h
end
section
variable (tc tg tj tf tp : PV) (M S : List (PV × PV)) (r : Int)
def zkd (R : PV -> Prop) : Prop :=
 (∃ ps, some tf = some (PV.ptr ps) /\ PCall qa 70 [PV.ptr ps, Z6 (i64.wrap r)] fun v => ∃ cs, v = PV.agg cs /\ cs.length = 4 /\ ∃ b, cs.head? = some (Zb b) /\ ∃ b1, cs.tail.head? = some (Zb b1) /\ ∃ b2, cs.tail.tail.head? = some (Zb b2) /\ ∃ b3, cs.tail.tail.tail.head? = some (Zb b3) /\ R (Zb b)) ∨ some tf = some PV.nilp /\ PCall qa 70 [PV.nilp, Z6 (i64.wrap r)] fun v => ∃ cs, v = PV.agg cs /\ cs.length = 4 /\ ∃ b, cs.head? = some (Zb b) /\ ∃ b1, cs.tail.head? = some (Zb b1) /\ ∃ b2, cs.tail.tail.head? = some (Zb b2) /\ ∃ b3, cs.tail.tail.tail.head? = some (Zb b3) /\ R (Zb b)
theorem zva {R : PV -> Prop} (h : zkd tf r R) : PCall qa 103 [.ptr [tc, tg, tj, tf, tp, .mp M, .mp S], .int .i32 r] R :=
 PCall.wz Tryz.func103 aP [0, 1, 4] aZ h
end
section
variable (n f : Bool) (es : LL) (r : Int)
def zke (R : PV -> Prop) : Prop :=
 if (decide (r >= 44032) && decide (r <= 55203)) = true then if ((i32.wrap (r - 44032)).tmod (28 : Int) == 0) = true then R (Z6 12) else R (Z6 13) else PCall qa 128 [PV.sl n f es, Z6 4, Z3 r] fun v => ∃ n1, v = Z6 n1 /\ R (Z6 n1)
theorem zvb {R : PV -> Prop} (h : zke n f es r R) : PCall qa 122 [.sl n f es, .int .i32 r] R :=
 PCall.wz Tryz.func122 aP [0, 1, 4, 10, 14] aZ h
end
section
variable (n f : Bool) (es : LL) (r : Int)
def zkf (R : PV -> Prop) : Prop :=
 PCall qa 128 [PV.sl n f es, Z6 6, Z3 r] fun v => ∃ n1, v = Z6 n1 /\ if (n1 != 0) = true then R (Z6 n1) else PCall qa 122 [PV.sl n f es, Z3 r] fun v1 => ∃ n2, v1 = Z6 n2 /\ if ((n2 == 4 || n2 == 5) && r != 8204) = true then R (Z6 3) else R (Z6 0)
theorem zvc {R : PV -> Prop} (h : zkf n f es r R) : PCall qa 139 [.sl n f es, .int .i32 r] R :=
 PCall.wz Tryz.func139 aP [0, 1, 4, 5, 6, 11, 25] aZ h
end
section
variable (a b : Int)
def zkg (R : PV -> Prop) : Prop :=
 let X := if (a == 13) = true then if (a == 13) = true then R (Zb (b == 11)) else R (Zb false) else if (a == 11) = true then R (Zb (b == 11)) else R (Zb false)
 let A := if (a == 7) = true then R (Zb true) else if (a == 9) = true then R (Zb (b == 9 || b == 10 || b == 12 || b == 13)) else if (a == 12) = true then if (a == 12) = true then R (Zb (b == 10 || b == 11)) else X else if (a == 10) = true then R (Zb (b == 10 || b == 11)) else X
 let B := if (b == 4) = true then if (b == 4) = true then R (Zb true) else A else if (b == 5) = true then if (b == 5) = true then R (Zb true) else A else if (b == 8) = true then R (Zb true) else A
 let C := if (b == 1) = true then if (b == 1) = true then R (Zb false) else B else if (b == 2) = true then if (b == 2) = true then R (Zb false) else B else if (b == 3) = true then R (Zb false) else B
 if (a == 1) = true then R (Zb (b == 2)) else if (a == 2) = true then if (a == 2) = true then R (Zb false) else C else if (a == 3) = true then R (Zb false) else C
theorem zvd {R : PV -> Prop} (h : zkg a b R) : PCall qa 105 [.int .i64 a, .int .i64 b] R :=
 PCall.wz Tryz.func105 aP [0, 1, 4, 5, 6, 10, 13, 14, 18, 22, 23, 25, 41, 50] aZ h
end
section
variable (so od : Bool) (la pi co : Int) (tc tg tj tf tp : PV) (M S : List (PV × PV)) (r : Int)
def zkh (R : PV -> Prop) : Prop :=
 PCall qa 102 [PV.ptr [tc, tg, tj, tf, tp, PV.mp M, PV.mp S], Z3 r] fun v => ∃ n, v = Z6 n /\ PCall qa 103 [PV.ptr [tc, tg, tj, tf, tp, PV.mp M, PV.mp S], Z3 r] fun v1 => ∃ b, v1 = Zb b /\ PCall
 qa 104 [PV.ptr [tc, tg, tj, tf, tp, PV.mp M, PV.mp S], Z3 r] fun v2 => ∃ n1, v2 = Z6 n1 /\ PCall qa 105 [Z6 la, Z6 n] fun v3 => ∃ b1, v3 = Zb b1 /\
 let C : Int -> Bool -> Bool -> Prop := fun p o c => if (n1 == 2) = true then R (PV.tup [PV.agg [Zb true, Z6 n, Z6 p, Z6 1, Zb o], Zb c]) else if (co != 0 && n1 == 1) = true then R (PV.tup [PV.agg [Zb true, Z6 n, Z6 p, Z6 2, Zb o], Zb c]) else if (co != 0 && n1 == 3) = true then R (PV.tup [PV.agg [Zb true, Z6 n, Z6 p, Z6 co, Zb o], Zb c]) else R (PV.tup [PV.agg [Zb true, Z6 n, Z6 p, Z6 0, Zb o], Zb c])
 let D : Bool -> Bool -> Prop := fun o c => if b = true then C 1 o c else if (pi == 1 && n == 4) = true then C 1 o c else if (pi == 1 && n == 5) = true then C 2 o c else C 0 o c
 let E : Bool -> Prop := fun c => if (n == 6) = true then D (!od) c else D false c
 if (!b1) = true then if (!(pi == 2 && b)) = true then if (!(co == 2 && n1 == 2)) = true then E (!so || !(od && n == 6)) else E (!so || false) else E (!so || false) else E (!so || false)
theorem zve {R : PV -> Prop} (h : zkh so od la pi co tc tg tj tf tp M S r R) : PCall qa 79 [.agg [.bool so, .int .i64 la, .int .i64 pi, .int .i64 co, .bool od], .ptr [tc, tg, tj, tf, tp, .mp M, .mp S], .int .i32 r] R :=
 PCall.wz Tryz.func79 aP [0, 1, 2, 3, 6, 7, 8, 9, 10, 11, 12, 64, 67, 76, 85, 89, 98] aZ h
end
def zbv (tc tg tj tf tp : PV) (M S : List (PV × PV)) (n f : Bool) (es : LL) (x2 : Int) (h0_0 : Bool) (h0_1 h0_2 h0_3 : Int) (h0_4 : Bool) : Env × Hp := ([(0, LV.pv (PV.ptr [tc, tg, tj, tf, tp, PV.mp M, PV.mp S])), (1, LV.pv (PV.sl n f es)), (2, Y6 x2), (7, LV.box 0 0)], [.box [.pv (.bool h0_0), Y6 h0_1, Y6 h0_2, Y6 h0_3, .pv (.bool h0_4)]])
section
variable (tc tg tj tf tp : PV) (M S : List (PV × PV)) (n f : Bool) (es : LL) (k : Int) (J : Int -> Bool -> Int -> Int -> Int -> Bool -> Prop) (μ : Int -> Bool -> Int -> Int -> Int -> Bool -> Nat)
def zki (R : PV -> Prop) : Prop :=
 if (decide (k < 0) || decide (k >= (↑es.length : Int))) = true then R (Z6 (↑es.length : Int)) else aI es k 1 /\ ∃ n1, (es.getD k.toNat []).head? = some (Z3 n1) /\ PCall qa 79 [PV.agg [Zb false, Z6 0, Z6 0, Z6 0, Zb false],
  PV.ptr [tc, tg, tj, tf, tp, PV.mp M, PV.mp S], Z3 n1] fun v => ∃ vs, v = PV.tup vs /\ vs.length = 2 /\ ∃ x, vs.head? = some x /\ ∃ cs, x = PV.agg cs /\ cs.length = 5 /\ ∃ b, cs.head? = some (Zb b)
  /\ ∃ n2, cs.tail.head? = some (Z6 n2) /\ ∃ n3, cs.tail.tail.head? = some (Z6 n3) /\ ∃ n4, cs.tail.tail.tail.head? = some (Z6 n4) /\ ∃ b1, cs.tail.tail.tail.tail.head? = some (Zb b1) /\ ∃ (x1 : PV),
  vs.tail.head? = some x1 /\ ∃ b2, x1 = Zb b2 /\ (aH (zbv tc tg tj tf tp M S n f es (i64.wrap (k + 1)) b n2 n3 n4 b1) /\ J (i64.wrap (k + 1)) b n2 n3 n4 b1) /\ ∀ (x2 : Int) (h0_0 : Bool) (h0_1 h0_2 h0_3 : Int)
  (h0_4 : Bool), J x2 h0_0 h0_1 h0_2 h0_3 h0_4 ->
 let K5 := fun (y0_ : Int) (y1_ : Bool) (y2_ y3_ y4_ : Int) (y5_ : Bool) => aH (zbv tc tg tj tf tp M S n f es y0_ y1_ y2_ y3_ y4_ y5_) /\ J y0_ y1_ y2_ y3_ y4_ y5_ /\ μ y0_ y1_ y2_ y3_ y4_ y5_ < μ x2 h0_0 h0_1 h0_2 h0_3
  h0_4; if decide (x2 < (↑es.length : Int)) = true then aI es x2 1 /\ ∃ n5, (es.getD x2.toNat []).head? = some (Z3 n5) /\ (PCall qa 79 [PV.agg [Zb h0_0, Z6 h0_1, Z6 h0_2, Z6 h0_3, Zb h0_4], PV.ptr [tc, tg, tj, tf, tp, PV.mp
  M, PV.mp S], Z3 n5] fun v1 => ∃ vs1, v1 = PV.tup vs1 /\ vs1.length = 2 /\ ∃ x3, vs1.head? = some x3 /\ ∃ cs1, x3 = PV.agg cs1 /\ cs1.length = 5 /\ ∃ b3, cs1.head? = some (Zb b3) /\ ∃ (n6 : Int),
  cs1.tail.head? = some (Z6 n6) /\ ∃ n7, cs1.tail.tail.head? = some (Z6 n7) /\ ∃ n8, cs1.tail.tail.tail.head? = some (Z6 n8) /\ ∃ b4, cs1.tail.tail.tail.tail.head? = some (Zb b4) /\ ∃ x4, vs1.tail.head? = some
  x4 /\ ∃ b5, x4 = Zb b5 /\
 let V1 := if b5 = true then R (Z6 x2) else K5 (i64.wrap (x2 + 1)) b3 n6 n7 n8 b4; V1 /\ V1 /\ V1) /\ PCall qa 79 [PV.agg [Zb h0_0, Z6 h0_1, Z6 h0_2, Z6 h0_3, Zb h0_4], PV.ptr [tc, tg, tj, tf, tp, PV.mp M, PV.mp S], Z3 n5] fun
  (v1 : PV) => ∃ vs1, v1 = PV.tup vs1 /\ vs1.length = 2 /\ ∃ x3, vs1.head? = some x3 /\ ∃ cs1, x3 = PV.agg cs1 /\ cs1.length = 5 /\ ∃ b3, cs1.head? = some (Zb b3) /\ ∃ n6, cs1.tail.head? = some (Z6
  n6) /\ ∃ n7, cs1.tail.tail.head? = some (Z6 n7) /\ ∃ n8, cs1.tail.tail.tail.head? = some (Z6 n8) /\ ∃ b4, cs1.tail.tail.tail.tail.head? = some (Zb b4) /\ ∃ x4, vs1.tail.head? = some x4 /\ ∃ b5, x4 = Zb
  b5 /\
 let V2 := if b5 = true then R (Z6 x2) else K5 (i64.wrap (x2 + 1)) b3 n6 n7 n8 b4; V2 /\ V2 else R (Z6 x2)
theorem zvf {R : PV -> Prop} (h : zki tc tg tj tf tp M S n f es k J μ R) : PCall qa 53 [.ptr [tc, tg, tj, tf, tp, .mp M, .mp S], .sl n f es, .int .i64 k] R :=
 PCall.wz Tryz.func53 aP [0, 1, 2, 6, 7, 9, 10, 18, 36, 49] (cA 5 (bC cz6 (zbv tc tg tj tf tp M S n f es) J μ (fun e h => (gI e 2, hB h 0 0, hI h 0 1, hI h 0 2, hI h 0 3, hB h 0 4)) [] [0, 1, 2, 7] [])) h
end
def zbw (tc tg tj tf tp : PV) (M S : List (PV × PV)) (n f : Bool) (es : LL) (x6 : Int) (n_0 : Bool) (s_0 : LL) : Env × Hp := ([(0, LV.pv (PV.ptr [tc, tg, tj, tf, tp, PV.mp M, PV.mp S])), (1, LV.pv (PV.sl n f es)), (5, LV.own 0), (6, Y6 x6)], [.sl (22, 1) true n_0 s_0])
section
variable (tc tg tj tf tp : PV) (M S : List (PV × PV)) (n f : Bool) (es : LL) (J : Int -> Bool -> LL -> Prop) (μ : Int -> Bool -> LL -> Nat)
def zkj (R : PV -> Prop) : Prop :=
 (aH (zbw tc tg tj tf tp M S n f es (0 : Int) true []) /\ J (0 : Int) true []) /\ ∀ (x6 : Int) (n_0 : Bool) (s_0 : LL), J x6 n_0 s_0 -> if decide (x6 < (↑es.length : Int)) = true then PCall qa 53 [PV.ptr [tc, tg, tj, tf, tp, PV.mp M, PV.mp S], PV.sl n f es, Z6 x6] fun v => ∃ n1, v = Z6 n1 /\ (eU es.length (some x6) (some n1) none /\ aQ es 1) /\ PCall qa 47 [PV.sl n (f && decide (n1 = (↑es.length : Int))) (qj x6.toNat (qas n1.toNat es))] fun v1 => ∃ n2 f1 es1, v1 = PV.sl n2 f1 es1 /\ (aQ [[PV.sl n2 f1 es1]] 1 /\ (s_0.length + 1) * 24 <= 140737488355328) /\ aH (zbw tc tg tj tf tp M S n f es n1 (n_0 && false) (s_0 ++ [[PV.sl n2 f1 es1]])) /\ J n1 (n_0 && false) (s_0 ++ [[PV.sl n2 f1 es1]]) /\ μ n1 (n_0 && false) (s_0 ++ [[PV.sl n2 f1 es1]]) < μ x6 n_0 s_0 else R (PV.sl n_0 false s_0)
theorem zvg {R : PV -> Prop} (h : zkj tc tg tj tf tp M S n f es J μ R) : PCall qa 33 [.ptr [tc, tg, tj, tf, tp, .mp M, .mp S], .sl n f es] R :=
 PCall.wz Tryz.func33 aP [0, 1, 4, 5, 6, 7, 11] (cA 3 (bC dU (zbw tc tg tj tf tp M S n f es) J μ (fun e h => (gI e 6, oN h 0, oS h 0)) [(5, 22, 1)] [0, 1, 5, 6] [])) h
end
section
variable (a : Int)
def zkk (R : PV -> Prop) : Prop :=
 R (Zb (a == 3 || a == 1 || a == 2))
theorem zvh {R : PV -> Prop} (h : zkk a R) : PCall qa 123 [.int .i64 a] R :=
 PCall.wz Tryz.func123 aP [0, 2] aZ h
end
section
variable (a b : Int)
def zkl (R : PV -> Prop) : Prop :=
 if (a == 9) = true then R (Zb (b == 9 || b == 10 || b == 12 || b == 13)) else if (a == 12 || a == 10) = true then R (Zb (b == 10 || b == 11)) else if (a == 13 || a == 11) = true then R (Zb (b == 11)) else R (Zb false)
theorem zvi {R : PV -> Prop} (h : zkl a b R) : PCall qa 124 [.int .i64 a, .int .i64 b] R :=
 PCall.wz Tryz.func124 aP [0, 1, 4, 6, 26, 38] aZ h
end
def zbx (n f : Bool) (es : LL) (n2 f2 : Bool) (ss : LL) (x7 : Bool) (x8 : Int) : Env × Hp := ([(0, LV.pv (PV.sl n f es)), (1, LV.pv (PV.sl n2 f2 ss)), (7, .pv (.bool x7)), (8, Y6 x8)], [])
section
variable (n f : Bool) (es : LL) (n2 f2 : Bool) (ss : LL) (k : Int) (J : Bool -> Int -> Prop) (μ : Bool -> Int -> Nat)
def zkm (R : PV -> Prop) : Prop :=
 aI ss k 1 /\ ∃ n1, (ss.getD k.toNat []).head? = some (Z3 n1) /\ PCall qa 139 [PV.sl n f es, Z3 n1] fun v => ∃ n3, v = Z6 n3 /\ if (n3 != 2) = true then R (Zb false) else (aH (zbx n f es n2 f2 ss false (i64.wrap (k - 1))) /\ J false (i64.wrap (k - 1))) /\ ∀ (x7 : Bool) (x8 : Int), J x7 x8 ->
 let K5 := fun (y0_ : Bool) (y1_ : Int) => aH (zbx n f es n2 f2 ss y0_ y1_) /\ J y0_ y1_ /\ μ y0_ y1_ < μ x7 x8; if decide (x8 >= 0) = true then aI ss x8 1 /\ ∃ n4, (ss.getD x8.toNat []).head? = some (Z3 n4) /\ PCall qa 139 [PV.sl n f es, Z3 n4] fun v1 => ∃ n5, v1 = Z6 n5 /\ if (n5 == 2) = true then R (Zb x7) else if (n5 == 0) = true then R (Zb false) else if (n5 == 1) = true then K5 true (i64.wrap (x8 - 1)) else K5 x7 (i64.wrap (x8 - 1)) else R (Zb false)
theorem zvj {R : PV -> Prop} (h : zkm n f es n2 f2 ss k J μ R) : PCall qa 125 [.sl n f es, .sl n2 f2 ss, .int .i64 k] R :=
 PCall.wz Tryz.func125 aP [0, 1, 2, 6, 7, 8, 9, 16, 20, 30, 33, 35] (cA 5 (bC iX (zbx n f es n2 f2 ss) J μ (fun e h => (gB e 7, gI e 8)) [] [0, 1, 7, 8] [])) h
end
def zby (n f : Bool) (es : LL) (n2 f2 : Bool) (ss : LL) (x7 : Int) : Env × Hp := ([(0, LV.pv (PV.sl n f es)), (1, LV.pv (PV.sl n2 f2 ss)), (7, Y6 x7)], [])
section
variable (n f : Bool) (es : LL) (n2 f2 : Bool) (ss : LL) (k : Int) (J : Int -> Prop) (μ : Int -> Nat)
def zkn (R : PV -> Prop) : Prop :=
 aI ss k 1 /\ ∃ n1, (ss.getD k.toNat []).head? = some (Z3 n1) /\ PCall qa 128 [PV.sl n f es, Z6 5, Z3 n1] fun v => ∃ n3, v = Z6 n3 /\ if (n3 != 1) = true then R (Zb false) else aI ss (i64.wrap (k - 1)) 1 /\ ∃ n4, (ss.getD (i64.wrap (k - 1)).toNat []).head? = some (Z3 n4) /\ PCall qa 122 [PV.sl n f es, Z3 n4] fun v1 => ∃ n5, v1 = Z6 n5 /\ if (n5 != 5) = true then R (Zb false) else (aH (zby n f es n2 f2 ss (i64.wrap (k - 2))) /\ J (i64.wrap (k - 2))) /\ ∀ (x7 : Int), J x7 -> if decide (x7 >= 0) = true then aI ss x7 1 /\ ∃ n6, (ss.getD x7.toNat []).head? = some (Z3 n6) /\ PCall qa 128 [PV.sl n f es, Z6 5, Z3 n6] fun v2 => ∃ n7, v2 = Z6 n7 /\ if (n7 == 1) = true then R (Zb true) else aI ss x7 1 /\ ∃ n8, (ss.getD x7.toNat []).head? = some (Z3 n8) /\ PCall qa 122 [PV.sl n f es, Z3 n8] fun v3 => ∃ n9, v3 = Z6 n9 /\ if (n9 != 4) = true then R (Zb false) else aH (zby n f es n2 f2 ss (i64.wrap (x7 - 1))) /\ J (i64.wrap (x7 - 1)) /\ μ (i64.wrap (x7 - 1)) < μ x7 else R (Zb false)
theorem zvk {R : PV -> Prop} (h : zkn n f es n2 f2 ss k J μ R) : PCall qa 126 [.sl n f es, .sl n2 f2 ss, .int .i64 k] R :=
 PCall.wz Tryz.func126 aP [0, 1, 2, 6, 7, 24, 28, 37, 44] (cA 4 (bC cz1 (zby n f es n2 f2 ss) J μ (fun e h => (((gI e 7), ()))) [] [0, 1, 7] [])) h
end
def zbz (n f : Bool) (es : LL) (n2 f2 : Bool) (ss : LL) (x7 x8 : Int) : Env × Hp := ([(0, LV.pv (PV.sl n f es)), (1, LV.pv (PV.sl n2 f2 ss)), (7, Y6 x7), (8, Y6 x8)], [])
section
variable (n f : Bool) (es : LL) (n2 f2 : Bool) (ss : LL) (k : Int) (J : Int -> Int -> Prop) (μ : Int -> Int -> Nat)
def zko (R : PV -> Prop) : Prop :=
 aI ss k 1 /\ ∃ n1, (ss.getD k.toNat []).head? = some (Z3 n1) /\ PCall qa 122 [PV.sl n f es, Z3 n1] fun v => ∃ n3, v = Z6 n3 /\ if (n3 != 6) = true then R (Zb false) else (aH (zbz n f es n2 f2 ss (0 : Int) (i64.wrap (k - 1))) /\ J (0 : Int) (i64.wrap (k - 1))) /\ ∀ (x7 x8 : Int), J x7 x8 -> if decide (x8 >= 0) = true then aI ss x8 1 /\ ∃ n4, (ss.getD x8.toNat []).head? = some (Z3 n4) /\ PCall qa 122 [PV.sl n f es, Z3 n4] fun v1 => ∃ n5, v1 = Z6 n5 /\ if (n5 == 6) = true then aH (zbz n f es n2 f2 ss (i64.wrap (x7 + 1)) (i64.wrap (x8 - 1))) /\ J (i64.wrap (x7 + 1)) (i64.wrap (x8 - 1)) /\ μ (i64.wrap (x7 + 1)) (i64.wrap (x8 - 1)) < μ x7 x8 else R (Zb (x7.tmod (2 : Int) == 1)) else R (Zb (x7.tmod (2 : Int) == 1))
theorem zvl {R : PV -> Prop} (h : zko n f es n2 f2 ss k J μ R) : PCall qa 127 [.sl n f es, .sl n2 f2 ss, .int .i64 k] R :=
 PCall.wz Tryz.func127 aP [0, 1, 2, 6, 7, 8, 15, 28] (cA 5 (bC iX (zbz n f es n2 f2 ss) J μ (fun e h => (gI e 7, gI e 8)) [] [0, 1, 7, 8] [])) h
end
section
variable (n f : Bool) (es : LL) (n2 f2 : Bool) (ss : LL) (k : Int)
def zkp (R : PV -> Prop) : Prop :=
 if (k == 0) = true then R (Zb true) else aI ss (i64.wrap (k - 1)) 1 /\ ∃ n1, (ss.getD (i64.wrap (k - 1)).toNat []).head? = some (Z3 n1) /\ aI ss k 1 /\ ∃ n3, (ss.getD k.toNat []).head? = some (Z3 n3) /\ PCall qa 122 [PV.sl n f es, Z3 n1] fun v => ∃ n4, v = Z6 n4 /\ PCall qa 122 [PV.sl n f es, Z3 n3] fun v1 => ∃ n5, v1 = Z6 n5 /\ if (n4 == 1 && n5 == 2) = true then R (Zb false) else PCall qa 123 [Z6 n4] fun v2 => ∃ b, v2 = Zb b /\ if b = true then R (Zb true) else PCall qa 123 [Z6 n5] fun v3 => ∃ b1, v3 = Zb b1 /\ if b1 = true then R (Zb true) else PCall qa 124 [Z6 n4, Z6 n5] fun v4 => ∃ b2, v4 = Zb b2 /\ if (b2 || n5 == 4 || n5 == 5 || n5 == 8 || n4 == 7) = true then R (Zb false) else PCall qa 125 [PV.sl n f es, PV.sl n2 f2 ss, Z6 k] fun v5 => ∃ b3, v5 = Zb b3 /\ if (!b3) = true then PCall qa 126 [PV.sl n f es, PV.sl n2 f2 ss, Z6 k] fun v6 => ∃ b4, v6 = Zb b4 /\ if (!b4) = true then PCall qa 127 [PV.sl n f es, PV.sl n2 f2 ss, Z6 k] fun v7 => ∃ b5, v7 = Zb b5 /\ R (Zb !b5) else R (Zb false) else R (Zb false)
theorem zvm {R : PV -> Prop} (h : zkp n f es n2 f2 ss k R) : PCall qa 95 [.sl n f es, .sl n2 f2 ss, .int .i64 k] R :=
 PCall.wz Tryz.func95 aP [0, 1, 2, 6, 7, 8, 10, 29, 35, 54] aZ h
end
def zb0 (n f : Bool) (es : LL) (n2 f2 : Bool) (ss : LL) (x7 : Int) : Env × Hp := ([(0, LV.pv (PV.sl n f es)), (1, LV.pv (PV.sl n2 f2 ss)), (7, Y6 x7)], [])
section
variable (n f : Bool) (es : LL) (n2 f2 : Bool) (ss : LL) (k : Int) (J : Int -> Prop) (μ : Int -> Nat)
def zkq (R : PV -> Prop) : Prop :=
 (aH (zb0 n f es n2 f2 ss (i64.wrap (k + 1))) /\ J (i64.wrap (k + 1))) /\ ∀ (x7 : Int), J x7 -> if decide (x7 < (↑ss.length : Int)) = true then PCall qa 95 [PV.sl n f es, PV.sl n2 f2 ss, Z6 x7] fun v => ∃ b, v = Zb b /\ if b = true then R (Z6 x7) else aH (zb0 n f es n2 f2 ss (i64.wrap (x7 + 1))) /\ J (i64.wrap (x7 + 1)) /\ μ (i64.wrap (x7 + 1)) < μ x7 else R (Z6 (↑ss.length : Int))
theorem zvn {R : PV -> Prop} (h : zkq n f es n2 f2 ss k J μ R) : PCall qa 72 [.sl n f es, .sl n2 f2 ss, .int .i64 k] R :=
 PCall.wz Tryz.func72 aP [0, 1, 2, 6, 7, 13, 19] (cA 2 (bC cz1 (zb0 n f es n2 f2 ss) J μ (fun e h => (((gI e 7), ()))) [] [0, 1, 7] [])) h
end
def zb1 (n f : Bool) (es : LL) (n2 f2 : Bool) (ss : LL) (x6 : Int) (n_0 : Bool) (s_0 : LL) : Env × Hp := ([(0, LV.pv (PV.sl n f es)), (1, LV.pv (PV.sl n2 f2 ss)), (5, LV.own 0), (6, Y6 x6)], [.sl (22, 1) true n_0 s_0])
section
variable (n f : Bool) (es : LL) (n2 f2 : Bool) (ss : LL) (J : Int -> Bool -> LL -> Prop) (μ : Int -> Bool -> LL -> Nat)
def zkr (R : PV -> Prop) : Prop :=
 (aH (zb1 n f es n2 f2 ss (0 : Int) true []) /\ J (0 : Int) true []) /\ ∀ (x6 : Int) (n_0 : Bool) (s_0 : LL), J x6 n_0 s_0 -> if decide (x6 < (↑ss.length : Int)) = true then PCall qa 72 [PV.sl n f es, PV.sl n2 f2 ss, Z6 x6] fun v => ∃ n1, v = Z6 n1 /\ (eU ss.length (some x6) (some n1) none /\ aQ ss 1) /\ (aQ [[PV.sl n2 (f2 && decide (n1 = (↑ss.length : Int))) (qj x6.toNat (qas n1.toNat ss))]] 1 /\ (s_0.length + 1) * 24 <= 140737488355328) /\ aH (zb1 n f es n2 f2 ss n1 (n_0 && false) (s_0 ++ [[PV.sl n2 (f2 && decide (n1 = (↑ss.length : Int))) (qj x6.toNat (qas n1.toNat ss))]])) /\ J n1 (n_0 && false) (s_0 ++ [[PV.sl n2 (f2 && decide (n1 = (↑ss.length : Int))) (qj x6.toNat (qas n1.toNat ss))]]) /\ μ n1 (n_0 && false) (s_0 ++ [[PV.sl n2 (f2 && decide (n1 = (↑ss.length : Int))) (qj x6.toNat (qas n1.toNat ss))]]) < μ x6 n_0 s_0 else R (PV.sl n_0 false s_0)
theorem zvo {R : PV -> Prop} (h : zkr n f es n2 f2 ss J μ R) : PCall qa 46 [.sl n f es, .sl n2 f2 ss] R :=
 PCall.wz Tryz.func46 aP [0, 1, 4, 5, 6, 7, 11] (cA 3 (bC dU (zb1 n f es n2 f2 ss) J μ (fun e h => (gI e 6, oN h 0, oS h 0)) [(5, 22, 1)] [0, 1, 5, 6] [])) h
end
end Go.Eng
namespace Go.Eng
open Go Go.Proofs Go.Eng.Rows Go.Eng.Trie Go.Eng.Srt
def zb2 (st : SSt) : PV := .agg [.bool st.some, .int .i64 st.last, .int .i64 st.pict, .int .i64 st.conj, .bool st.odd]
theorem zks {r : Int} (h : 44032 <= r /\ r <= 55203) : i32.wrap (r - 44032) = r - 44032 := cS (by omega) (by omega)
section
variable {rows : List Row} {v : PV}
theorem zkt (hv : d7 rows v) {r : Int} (hr : -2147483648 <= r /\ r <= 2147483647) : PCall qa 102 [v, .int .i32 r] fun x => x = .int .i64 (aL rows r) := by
 obtain ⟨tc, tg, tj, tf, tp, made, sec, rfl, ht, hm⟩ := hv;refine zu8 _ _ _ _ _ _ _ _ ?_; unfold zkb;by_cases hh : 44032 <= r /\ r <= 55203
 ·rw [zks hh];by_cases hm28 : (r - 44032).tmod 28 = 0
  ·refine bD (by simp [hh, hm28]) ?_;unfold aL; rw [if_pos hh, if_pos hm28]
  ·refine bA (by simp [hm28]) (bD (by simp [hh]) ?_);unfold aL; rw [if_pos hh, if_neg hm28]
 ·refine bA (by simp; omega) (bA (by simp; omega) ?_);obtain ⟨ps, rfl⟩ := ht.g.ptr;refine .inl ⟨ps, rfl, ?_⟩;have hw : i64.wrap r = r := aF (by omega) (by omega);rw [hw];refine (zV ht.g r (by omega)).mono ?_;rintro _ rfl;refine ⟨_, rfl, ?_⟩;rw [zaq]; unfold aL; rw [if_neg hh]
theorem zvp (hv : d7 rows v) {r : Int} (hr : -2147483648 <= r /\ r <= 2147483647) : PCall qa 104 [v, .int .i32 r] fun x => x = .int .i64 (bQ rows r) := by
 have hb := zkt hv hr;obtain ⟨tc, tg, tj, tf, tp, made, sec, rfl, ht, hm⟩ := hv;refine zu9 _ _ _ _ _ _ _ _ ?_; unfold zkc;obtain ⟨ps, rfl⟩ := ht.j.ptr;refine .inl ⟨ps, rfl, ?_⟩;have hw : i64.wrap r = r := aF (by omega) (by omega);rw [hw];refine (zV ht.j r (by omega)).mono ?_;rintro _ rfl;refine ⟨_, rfl, ?_⟩;rw [zaq];unfold bQ;refine aC (fun hc => ?_) (fun hc => ?_)
 ·simp only [bne_iff_ne, ne_eq] at hc;rw [if_pos hc]
 ·simp only [bne_iff_ne, ne_eq, qi] at hc;rw [if_neg (fun h => h hc)];refine hb.mono ?_;rintro _ rfl;refine ⟨_, rfl, aC (fun h2 => ?_) (fun h2 => ?_)⟩
  ·simp only [qc, qg, beq_iff_eq, bne_iff_ne, ne_eq] at h2;rw [if_pos h2]
  ·simp only [qc, qg, beq_iff_eq, bne_iff_ne, ne_eq] at h2;rw [if_neg h2]
theorem zvq (hv : d7 rows v) {r : Int} (hr : -2147483648 <= r /\ r <= 2147483647) : PCall qa 103 [v, .int .i32 r] fun x => x = .bool (bP rows 5 r) := by
 obtain ⟨tc, tg, tj, tf, tp, made, sec, rfl, ht, hm⟩ := hv;refine zva _ _ _ _ _ _ _ _ ?_; unfold zkd;obtain ⟨ps, rfl⟩ := ht.f.ptr;refine .inl ⟨ps, rfl, ?_⟩;have hw : i64.wrap r = r := aF (by omega) (by omega);rw [hw];refine (zhx ht.f r (by omega)).mono ?_;rintro _ rfl;rw [zir];exact ⟨_, rfl, rfl, _, rfl, _, rfl, _, rfl, _, rfl, rfl⟩
theorem nC (n f : Bool) (hl : rows.length < 1000000) {r : Int} (hr : -2147483648 <= r /\ r <= 2147483647) : PCall qa 122 [.sl n f (bB rows), .int .i32 r] fun x => x = .int .i64 (aL rows r) := by
 refine zvb _ _ _ _ ?_; unfold zke;refine aC (fun hh => ?_) (fun hh => ?_)
 ·simp only [qc, aB, ge_iff_le] at hh;rw [zks hh];unfold aL; rw [if_pos hh];refine aC (fun h2 => ?_) (fun h2 => ?_)
  ·simp only [beq_iff_eq] at h2; rw [if_pos h2]
  ·simp only [beq_iff_eq] at h2; rw [if_neg h2]
 ·simp only [qc, aB, ge_iff_le] at hh;refine (l5 n f 4 r hl hr).mono ?_;rintro _ rfl;unfold aL; rw [if_neg hh];exact ⟨_, rfl, rfl⟩
theorem zku (n f : Bool) (hl : rows.length < 1000000) {r : Int} (hr : -2147483648 <= r /\ r <= 2147483647) : PCall qa 139 [.sl n f (bB rows), .int .i32 r] fun x => x = .int .i64 (bQ rows r) := by
 refine zvc _ _ _ _ ?_; unfold zkf;refine (l5 n f 6 r hl hr).mono ?_;rintro _ rfl;refine ⟨_, rfl, ?_⟩;unfold bQ;refine aC (fun hc => ?_) (fun hc => ?_)
 ·simp only [bne_iff_ne, ne_eq] at hc;rw [if_pos hc]
 ·simp only [bne_iff_ne, ne_eq, qi] at hc;rw [if_neg (fun h => h hc)];refine (nC n f hl hr).mono ?_;rintro _ rfl;refine ⟨_, rfl, aC (fun h2 => ?_) (fun h2 => ?_)⟩
  ·simp only [qc, qg, beq_iff_eq, bne_iff_ne, ne_eq] at h2;rw [if_pos h2]
  ·simp only [qc, qg, beq_iff_eq, bne_iff_ne, ne_eq] at h2;rw [if_neg h2]
theorem zvr (a b : Int) : PCall qa 105 [.int .i64 a, .int .i64 b] fun x => x = .bool (gV a b) := by
 refine zvd _ _ ?_; unfold zkg;simp only [beq_iff_eq];have hd : ∀ x y : Int, (x == y) = decide (x = y) := fun x y => by by_cases h : x = y <;> simp [h]
 simp only [hd];unfold gV nB;rcases (by omega : b = 1 ∨ b = 2 ∨ b = 3 ∨ b = 4 ∨ b = 5 ∨ b = 8 ∨ (b ≠ 1 /\ b ≠ 2 /\ b ≠ 3 /\ b ≠ 4 /\ b ≠ 5 /\ b ≠ 8)) with rfl | rfl | rfl | rfl | rfl | rfl | ⟨b1, b2, b3, b4, b5, b8⟩
 all_goals
  rcases (by omega : a = 1 ∨ a = 2 ∨ a = 3 ∨ a = 7 ∨ a = 9 ∨ a = 10 ∨ a = 11 ∨ a = 12 ∨ a = 13 ∨ (a ≠ 1 /\ a ≠ 2 /\ a ≠ 3 /\ a ≠ 7 /\ a ≠ 9 /\ a ≠ 10 /\ a ≠ 11 /\ a ≠ 12 /\ a ≠ 13)) with rfl | rfl | rfl | rfl | rfl | rfl | rfl | rfl | rfl | ⟨a1, a2, a3, a7, a9, a10, a11, a12, a13⟩
 all_goals simp [*, qaz]
theorem zvs (hv : d7 rows v) (st : SSt) {r : Int} (hr : -2147483648 <= r /\ r <= 2147483647) : PCall qa 79 [zb2 st, v, .int .i32 r] fun x => x = .tup [zb2 (dO rows st r), .bool (oZ rows st r)] := by
 have h1 := zkt hv hr;have h2 := zvq hv hr;have h3 := zvp hv hr;obtain ⟨tc, tg, tj, tf, tp, made, sec, rfl, ht, hm⟩ := hv;obtain ⟨so, la, pi, co, od⟩ := st;refine zve _ _ _ _ _ _ _ _ _ _ _ _ _ ?_; unfold zkh;refine h1.mono ?_;rintro _ rfl;refine ⟨_, rfl, ?_⟩;refine h2.mono ?_;rintro _ rfl;refine ⟨_, rfl, ?_⟩;refine h3.mono ?_;rintro _ rfl;refine ⟨_, rfl, ?_⟩;refine (zvr la (aL rows r)).mono ?_;rintro _ rfl;refine ⟨_, rfl, ?_⟩;unfold dO oZ rQ zb2;dsimp only;have hd : ∀ x y : Int, (x == y) = decide (x = y) := fun x y => by by_cases h : x = y <;> simp [h]
 have hd2 : ∀ x y : Int, (x != y) = !decide (x = y) := fun x y => by by_cases h : x = y <;> simp [h]
 simp only [hd, hd2];generalize gV la (aL rows r) = b1;generalize bP rows 5 r = b;generalize bQ rows r = c;generalize aL rows r = n;by_cases n6 : n = 6
 ·subst n6;cases b1 <;> cases b <;> by_cases p2 : pi = 2 <;> by_cases c2 : c = 2 <;> by_cases k2 : co = 2 <;> by_cases c1 : c = 1 <;> by_cases c3 : c = 3 <;> by_cases k0 : co = 0 <;> first | omega | simp [*]
 ·by_cases p1 : pi = 1
  ·subst p1;by_cases n4 : n = 4
   ·subst n4;cases b1 <;> cases b <;> by_cases c2 : c = 2 <;> by_cases k2 : co = 2 <;> by_cases c1 : c = 1 <;> by_cases c3 : c = 3 <;> by_cases k0 : co = 0 <;> first | omega | simp [*]
   ·by_cases n5 : n = 5
    ·subst n5;cases b1 <;> cases b <;> by_cases c2 : c = 2 <;> by_cases k2 : co = 2 <;> by_cases c1 : c = 1 <;> by_cases c3 : c = 3 <;> by_cases k0 : co = 0 <;> first | omega | simp [*]
    ·cases b1 <;> cases b <;> by_cases c2 : c = 2 <;> by_cases k2 : co = 2 <;> by_cases c1 : c = 1 <;> by_cases c3 : c = 3 <;> by_cases k0 : co = 0 <;> first | omega | simp [*]
  ·cases b1 <;> cases b <;> by_cases p2 : pi = 2 <;> by_cases c2 : c = 2 <;> by_cases k2 : co = 2 <;> by_cases c1 : c = 1 <;> by_cases c3 : c = 3 <;> by_cases k0 : co = 0 <;> first | omega | simp [*]
end
theorem fE {L : List Int} (h : R32 L) (i : Nat) : -2147483648 <= L.getD i 0 /\ L.getD i 0 <= 2147483647 := by
 by_cases hi : i < L.length
 ·rw [show L.getD i 0 = L[i] by simp [qat, hi]]; exact h _ (qk hi)
 ·rw [show L.getD i 0 = 0 by simp [qat, hi]]; omega
theorem fS {l : List Int} {i : Int} (h0 : 0 <= i) (hi : i.toNat < l.length) : aI (aA l) i 1 /\ (aA l).getD i.toNat [] = [.int .i32 (l.getD i.toNat 0)] := by
 obtain ⟨h1, h2⟩ := fX h0 hi;exact ⟨h1, by rw [h2]; simp [qat, hi]⟩
theorem zkv : ∀ {C : List (List Int)}, (∀ c ∈ C, c ≠ []) -> C.length <= C.flatten.length
 | [], _ => qp _
 | c :: C, h => by
   have h1 := List.length_pos_iff.2 (h c qad);have := zkv fun x hx => h x (qah c hx);rw [qav, qd, qf]; omega
theorem vC (rows : List Row) (L : List Int) : (cR rows L 0).length <= L.length := by
 have := zkv (zka (rows := rows) (L := L) L.length 0 (by omega));rwa [zj9] at this
theorem zvt {C : List (List Int)} {c : List Int} (h : c ∈ C) : c.length <= C.flatten.length := by
 induction C with
 | nil => cases h
 | cons d C ih =>
   rw [qav, qd];rcases List.mem_cons.1 h with rfl | h
   ·omega
   ·have := ih h; omega
theorem zvu {rows : List Row} {L c : List Int} (h : c ∈ cR rows L 0) : c.length <= L.length := by
 have := zvt h;rwa [zj9] at this
theorem vD {α : Type} {l : List α} {i : Nat} (d : α) (h : i < l.length) : l.getD i d = l[i] := by simp [qat, h]
theorem PCall.vac {P : Program} {f : Nat} {args args' : List PV} {Q Q' : PV -> Prop} (h : PCall P f args' Q') {k : Nat} {fl : Bool} {es : List (List PV)} (hk : args[k]? = some (.sl true fl es)) (hne : es ≠ []) : PCall P f args Q :=
 ⟨h.1, fun w I G cargs _ _ h3 => by
  have := h3 k (.pv (.sl true fl es)) (by rw [List.getElem?_map, hk]; rfl);generalize cargs.getD k undef = c at this;cases this with
  | pv _ _ h =>
    generalize hx : es = xs at h;cases h with
    | slnil => exact absurd hx hne⟩
theorem zkw {L : List Int} (h : L ≠ []) : aA L ≠ [] := fun e => h (by cases L with | nil => rfl | cons a b => cases e)
section
variable {rows : List Row} {v : PV}
theorem zkx {L : List Int} {i : Nat} (hi : i < L.length) (hb : fD rows L i = false) : fR rows L (L.length - i) i = fR rows L (L.length - (i + 1)) (i + 1) := by
 rw [show L.length - i = (L.length - (i + 1)) + 1 by omega, fR, if_neg (by rw [hb]; decide)]
theorem zky {L : List Int} {i : Nat} (hi : i < L.length) (hb : fD rows L i = true) : fR rows L (L.length - i) i = i := by
 rw [show L.length - i = (L.length - (i + 1)) + 1 by omega, fR, if_pos hb]
theorem zvv (ht : eE rows) (hv : d7 rows v) (n f : Bool) (L : List Int) (hr : R32 L) (hL : L.length < 1000000000000) (k : Int) (k0 : 0 <= k) (k1 : k < L.length) (hb : fD rows L k.toNat = true) :
 PCall qa 53 [v, .sl n f (aA L), .int .i64 k] fun x => x = .int .i64 (bX rows L k.toNat : Nat) := by
 have hs := fun st {r : Int} hr => zvs hv st (r := r) hr;obtain ⟨tc, tg, tj, tf, tp, made, sec, rfl, ht', hm⟩ := hv
 refine zvf _ _ _ _ _ _ _ _ _ _ _
  (fun i so la pi co od => (k + 1 <= i /\ i <= L.length) /\ aX rows L k.toNat (i.toNat - k.toNat) = ⟨so, la, pi, co, od⟩ /\ bX rows L k.toNat = fR rows L (L.length - i.toNat) i.toNat) (fun i _ _ _ _ _ => L.length - i.toNat) ?_
 unfold zki;have hl8 : ((aA L).length : Int) = L.length := by rw [bG]
 rw [hl8];refine bA (by simp; omega) ?_;have hk : k.toNat < L.length := by omega
 obtain ⟨g1, g2⟩ := fS k0 hk;have hw : i64.wrap (k + 1) = k + 1 := aF (by omega) (by omega);refine ⟨g1, _, by rw [g2]; rfl, ?_⟩;refine (hs st0 (fE hr k.toNat)).mono ?_;rintro _ rfl;rw [hw];refine ⟨_, rfl, rfl, _, rfl, _, rfl, rfl, _, rfl, _, rfl, _, rfl, _, rfl, _, rfl, _, rfl, _, rfl, ⟨rfl, ⟨by omega, by omega⟩, ?_, ?_⟩, ?_⟩
 ·rw [show (k + 1).toNat - k.toNat = 1 by omega]; rfl
 ·rw [show (k + 1).toNat = k.toNat + 1 by omega]; rfl
 rintro i so la pi co od ⟨⟨i0, i1⟩, hst, hn⟩;refine aC (fun hc => ?_) (fun hc => ?_)
 ·simp only [aB] at hc;have hi : i.toNat < L.length := by omega
  obtain ⟨j, hj⟩ : ∃ j, i.toNat = k.toNat + (j + 1) := ⟨i.toNat - k.toNat - 1, by omega⟩;obtain ⟨g1, g2⟩ := fS (l := L) (i := i) (by omega) hi;have hwi : i64.wrap (i + 1) = i + 1 := aF (by omega) (by omega)
  have hcut : oZ rows ⟨so, la, pi, co, od⟩ (L.getD i.toNat 0) = fD rows L i.toNat := by
   rw [<- hst, hj, show k.toNat + (j + 1) - k.toNat = j + 1 by omega];exact zu1 ht hb j
  have hstep : aX rows L k.toNat ((i + 1).toNat - k.toNat) = dO rows ⟨so, la, pi, co, od⟩ (L.getD i.toNat 0) := by
   rw [<- hst, show (i + 1).toNat - k.toNat = (i.toNat - k.toNat) + 1 by omega];show dO rows _ (L.getD (k.toNat + (i.toNat - k.toNat)) 0) = _;rw [show k.toNat + (i.toNat - k.toNat) = i.toNat by omega]
  have body : ∀ K : Prop, K -> if fD rows L i.toNat = true then (PV.int .i64 i = .int .i64 (bX rows L k.toNat : Nat)) else K /\ ((k + 1 <= i + 1 /\ i + 1 <= L.length) /\ aX rows L k.toNat ((i + 1).toNat - k.toNat) = ⟨(dO rows ⟨so, la, pi, co, od⟩ (L.getD i.toNat 0)).some, (dO rows ⟨so, la, pi, co, od⟩ (L.getD i.toNat 0)).last, (dO rows ⟨so, la, pi, co, od⟩ (L.getD i.toNat 0)).pict, (dO rows ⟨so, la, pi, co, od⟩ (L.getD i.toNat 0)).conj, (dO rows ⟨so, la, pi, co, od⟩ (L.getD i.toNat 0)).odd⟩ /\ bX rows L k.toNat = fR rows L (L.length - (i + 1).toNat) (i + 1).toNat) /\ L.length - (i + 1).toNat < L.length - i.toNat := fun K hK => by
   split
   ·rename_i hbi;rw [hn, zky hi hbi, show ((i.toNat : Nat) : Int) = i by omega]
   ·rename_i hbi;refine ⟨hK, ⟨⟨by omega, by omega⟩, by rw [hstep], ?_⟩, by omega⟩;rw [hn, zkx hi (by simpa using hbi), show (i + 1).toNat = i.toNat + 1 by omega]
  have call := hs ⟨so, la, pi, co, od⟩ (fE hr i.toNat);rw [hcut] at call;rw [hwi];refine ⟨g1, _, by rw [g2]; rfl, call.mono ?_, call.mono ?_⟩
  ·rintro _ rfl;exact ⟨_, rfl, rfl, _, rfl, _, rfl, rfl, _, rfl, _, rfl, _, rfl, _, rfl, _, rfl, _, rfl, _, rfl, body _ rfl, body _ rfl, body _ rfl⟩
  ·rintro _ rfl;exact ⟨_, rfl, rfl, _, rfl, _, rfl, rfl, _, rfl, _, rfl, _, rfl, _, rfl, _, rfl, _, rfl, _, rfl, body _ rfl, body _ rfl⟩
 ·simp only [aB] at hc;have hie : i.toNat = L.length := by omega
  rw [hn, show L.length - i.toNat = 0 by omega];show _ = PV.int .i64 ((i.toNat : Nat) : Int);rw [show ((i.toNat : Nat) : Int) = i by omega]
theorem zb3 (n f : Bool) (l : List Int) (hn : n = true -> l = []) (hl : l.length < 1000000000000) : PCall qa 47 [.sl n f (aA l)] fun x => x = .sl n false (aA l) :=
 PCall.ofA (args := [_]) (zjc n f (aA l) (fun h => by rw [hn h]; rfl) ⟨rfl, .inl rfl, fun e he => (by cases he), dL _, by simp only [qt, bG]; omega⟩) fun r h' ⟨hr, hh⟩ => by subst hr; subst hh; exact ⟨_, rfl, rfl⟩
def eF (q : Bool × Bool × List Int) : List PV := [.sl q.1 q.2.1 (aA q.2.2)]
theorem vE (q : Bool × Bool × List Int) : (eF q).length = 1 := rfl
theorem zkz (ht : eE rows) (hv : d7 rows v) (n f : Bool) (L : List Int) (hn0 : n = true -> L = []) (hr : R32 L) (hL : L.length < 100000000) :
 PCall qa 33 [v, .sl n f (aA L)] fun x => ∃ (n : Bool) (Q : List (Bool × Bool × List Int)), x = .sl n false (Q.map eF) /\ Q.map (fun q => q.2.2) = cR rows L 0 /\ (∀ q ∈ Q, q.1 = true -> q.2.2 = []) /\ (n = true -> Q = []) := by
 have hnx := fun k k0 k1 hb => zvv ht hv n f L hr (by omega) k k0 k1 hb;obtain ⟨tc, tg, tj, tf, tp, made, sec, rfl, ht', hm⟩ := hv
 refine zvg _ _ _ _ _ _ _ _ _ _
  (fun i n s => (0 <= i /\ i <= L.length) /\ (i.toNat = L.length ∨ fD rows L i.toNat = true) /\ ∃ Q : List (Bool × Bool × List Int), s = Q.map eF /\ cR rows L 0 = Q.map (fun q => q.2.2) ++ cR rows L i.toNat /\ (∀ q ∈ Q, q.1 = true -> q.2.2 = []) /\ (n = true -> Q = []) /\ Q.length <= i.toNat) (fun i _ _ => L.length - i.toNat) ?_
 unfold zkj;have hl8 : ((aA L).length : Int) = L.length := by rw [bG]
 rw [hl8];refine ⟨⟨rfl, ⟨qo _, by omega⟩, .inr rfl, [], rfl, rfl, (fun q hq => by cases hq), (fun _ => rfl), qp _⟩, ?_⟩;rintro i n2 _ ⟨⟨i0, i1⟩, hbeg, Q, rfl, hcl, hq, hnq, hql⟩;refine aC (fun hc => ?_) (fun hc => ?_)
 ·simp only [aB] at hc;have hi : i.toNat < L.length := by omega
  have hb := hbeg.resolve_left (by omega);obtain ⟨x1, x2, x3⟩ := o0 (rows := rows) hi;refine (hnx i i0 hc hb).mono ?_;rintro _ rfl;refine ⟨_, rfl, ⟨zjy i0 (by omega) (by rw [bG]; omega), dL _⟩, ?_⟩;rw [show (((bX rows L i.toNat : Nat) : Int)).toNat = bX rows L i.toNat by omega, zjz];have hsl := zuv L i.toNat (bX rows L i.toNat);have hsn : n = true -> eD L i.toNat (bX rows L i.toNat) = [] := fun h => by rw [hn0 h] at hi; cases hi
  refine (zb3 n _ (eD L i.toNat (bX rows L i.toNat)) hsn (by omega)).mono ?_;rintro _ rfl;refine ⟨_, _, _, rfl, ⟨mP (enc := eF) vE [(n, false, eD L i.toNat (bX rows L i.toNat))], by rw [qb]; omega⟩, rfl, ⟨⟨by omega, by omega⟩, ?_, Q ++ [(n, false, eD L i.toNat (bX rows L i.toNat))], by rw [qm]; rfl, ?_, fun q hq2 => ?_, fun h => by simp at h, ?_⟩, ?_⟩
  ·rw [show (((bX rows L i.toNat : Nat) : Int)).toNat = bX rows L i.toNat by omega]; exact x3
  ·rw [show (((bX rows L i.toNat : Nat) : Int)).toNat = bX rows L i.toNat by omega, hcl, vA hi, qm, qr]; rfl
  ·rcases List.mem_append.1 hq2 with hq2 | hq2
   ·exact hq q hq2
   ·rw [List.mem_singleton.1 hq2]; exact hsn
  ·rw [show (((bX rows L i.toNat : Nat) : Int)).toNat = bX rows L i.toNat by omega, qd, qe]; omega
  ·dsimp only; omega
 ·simp only [aB] at hc;rw [o7 (i := i.toNat) (by omega), qae] at hcl;exact ⟨n2, Q, rfl, hcl.symm, hq, hnq⟩
theorem zk0 (ht : eE rows) (hv : d7 rows v) (n f : Bool) (L : List Int) (hr : R32 L) (hL : L.length < 100000000) :
 PCall qa 33 [v, .sl n f (aA L)] fun x => ∃ (n : Bool) (Q : List (Bool × Bool × List Int)), x = .sl n false (Q.map eF) /\ Q.map (fun q => q.2.2) = cR rows L 0 := by
 by_cases h : n = true -> L = []
 ·exact (zkz ht hv n f L h hr hL).mono fun x ⟨n, Q, h1, h2, _⟩ => ⟨n, Q, h1, h2⟩
 ·have hn : n = true := by cases n with | true => rfl | false => exact absurd (fun h => by cases h) h
  subst hn;exact PCall.vac (zkz ht hv false f L (fun h => by cases h) hr hL) (k := 1) rfl (zkw fun e => h fun _ => e)
theorem qAt {C : List (List Int)} {Q : List (Bool × Bool × List Int)} (hQ : Q.map (fun q => q.2.2) = C) {i : Int} (i0 : 0 <= i) (hi : i.toNat < C.length) : aI (Q.map eF) i 1 /\ ∃ n f, (Q.map eF).getD i.toNat [] = [.sl n f (aA (C.getD i.toNat []))] := by
 subst hQ;rw [qb] at hi;refine ⟨bT vE i0 (by omega), Q[i.toNat].1, Q[i.toNat].2.1, ?_⟩;rw [cG hi, vD [] (by rw [qb]; exact hi), qai]; rfl
end
end Go.Eng
namespace Go.Eng.Rows
open Go Go.Eng Go.Eng.Trie Go.Eng.Srt
def gA (p : Int × List Int) (c : List Int) : Bool := decide (p.1 = 1) || (decide (p.1 = 0) && decide (p.2 = c))
def bL : List (Int × List Int) -> List (List Int) -> Bool
 | [], [] => true
 | [], _ :: _ => false
 | p :: ps, [] => decide (p.1 = 2) && bL ps []
 | p :: ps, c :: cs => if p.1 = 2 then bL ps (c :: cs) || bL (p :: ps) cs else gA p c && bL ps cs
 termination_by P C => P.length + C.length
theorem nE : bL [] [] = true := by rw [bL]
theorem nF (c : List Int) (cs : List (List Int)) : bL [] (c :: cs) = false := by rw [bL]
theorem mA (p : Int × List Int) (ps : List (Int × List Int)) : bL (p :: ps) [] = (decide (p.1 = 2) && bL ps []) := by rw [bL]
theorem iP (p : Int × List Int) (ps : List (Int × List Int)) (c : List Int) (cs : List (List Int)) : bL (p :: ps) (c :: cs) = if p.1 = 2 then bL ps (c :: cs) || bL (p :: ps) cs else gA p c && bL ps cs := by rw [bL]
inductive Deal : List (Int × List Int) -> List (List Int) -> Prop
 | nil : Deal [] []
 | one {p : Int × List Int} {c : List Int} {ps : List (Int × List Int)} {cs : List (List Int)} (h : p.1 ≠ 2) (h1 : gA p c = true) (h2 : Deal ps cs) : Deal (p :: ps) (c :: cs)
 | many {p : Int × List Int} {D : List (List Int)} {ps : List (Int × List Int)} {cs : List (List Int)} (h : p.1 = 2) (h2 : Deal ps cs) : Deal (p :: ps) (D ++ cs)
theorem Deal.app {P Q : List (Int × List Int)} {C D : List (List Int)} (h : Deal P C) (k : Deal Q D) : Deal (P ++ Q) (C ++ D) := by
 induction h with
 | nil => exact k
 | one h h1 _ ih => exact .one h h1 ih
 | many h _ ih => rw [qr]; exact .many h ih
theorem zk1 {p : Int × List Int} {ps : List (Int × List Int)} (h : p.1 = 2) {cs : List (List Int)} (h2 : bL ps cs = true) : ∀ D : List (List Int), bL (p :: ps) (D ++ cs) = true
 | [] => by
   cases cs with
   | nil => rw [qaa, mA, h2, decide_eq_true h]; rfl
   | cons c cs => rw [qaa, iP, if_pos h, h2]; rfl
 | d :: D => by rw [qao, iP, if_pos h, zk1 h h2 D, Bool.or_true]
theorem zk2 {P : List (Int × List Int)} {C : List (List Int)} (h : Deal P C) : bL P C = true := by
 induction h with
 | nil => exact nE
 | one h h1 _ ih => rw [iP, if_neg h, h1, ih]; rfl
 | many h _ ih => exact zk1 h ih _
theorem rR : ∀ (n : Nat) {P : List (Int × List Int)} {C : List (List Int)}, P.length + C.length <= n -> bL P C = true -> Deal P C
 | _, [], [], _, _ => .nil
 | _, [], c :: cs, _, h => by rw [nF] at h; cases h
 | 0, p :: ps, C, hn, h => by simp at hn
 | n + 1, p :: ps, [], hn, h => by
   rw [mA, qc, aB] at h;exact Deal.many (D := []) h.1 (rR n (by simp only [qf] at hn; omega) h.2)
 | n + 1, p :: ps, c :: cs, hn, h => by
   simp only [qf] at hn;rw [iP] at h;split at h
   ·rename_i hp;rw [qg] at h;rcases h with h | h
    ·exact Deal.many (D := []) hp (rR n (by simp only [qf]; omega) h)
    ·have := rR n (by simp only [qf]; omega) h;cases this with
     | one h3 _ _ => exact absurd hp h3
     | many _ h2 => rw [<- qao]; exact .many hp h2
   ·rename_i hp;rw [qc] at h;exact .one hp h.1 (rR n (by omega) h.2)
theorem nG {P : List (Int × List Int)} {C : List (List Int)} : bL P C = true ↔ Deal P C := ⟨rR _ (qp _), zk2⟩
inductive Ones : List (Int × List Int) -> List (List Int) -> Prop
 | nil : Ones [] []
 | cons {p : Int × List Int} {c : List Int} {ps : List (Int × List Int)} {cs : List (List Int)} (h : p.1 ≠ 2) (h1 : gA p c = true) (h2 : Ones ps cs) : Ones (p :: ps) (c :: cs)
theorem Ones.deal {P : List (Int × List Int)} {C : List (List Int)} (h : Ones P C) : Deal P C := by
 induction h with
 | nil => exact .nil
 | cons h h1 _ ih => exact .one h h1 ih
theorem Ones.snoc {P : List (Int × List Int)} {C : List (List Int)} (h : Ones P C) {p : Int × List Int} {c : List Int} (h1 : p.1 ≠ 2) (h2 : gA p c = true) : Ones (P ++ [p]) (C ++ [c]) := by
 induction h with
 | nil => exact .cons h1 h2 .nil
 | cons h h1 _ ih => exact .cons h h1 ih
theorem Ones.len {P : List (Int × List Int)} {C : List (List Int)} (h : Ones P C) : P.length = C.length := by
 induction h with
 | nil => rfl
 | cons h h1 _ ih => rw [qf, qf, ih]
theorem Ones.split {P : List (Int × List Int)} {C : List (List Int)} (h : Ones P C) {R : List (Int × List Int)} : ∀ {D : List (List Int)}, Deal (P ++ R) D -> ∃ E cs, D = E ++ cs /\ E.length = P.length /\ Deal R cs := by
 induction h with
 | nil => exact fun {D} hd => ⟨[], D, rfl, rfl, hd⟩
 | cons h h1 _ ih =>
   intro D hd;cases hd with
   | one _ _ h2 =>
     obtain ⟨E, cs, e, hl, hd⟩ := ih h2;exact ⟨_ :: E, cs, by rw [e]; rfl, by rw [qf, qf, hl], hd⟩
   | many h3 _ => exact absurd h3 h
theorem o9 {p : Int × List Int} (hp : p.1 = 2) {P : List (Int × List Int)} {C : List (List Int)} : Deal (p :: P) C ↔ ∃ D cs, C = D ++ cs /\ Deal P cs := by
 constructor
 ·intro h;cases h with
  | one h _ _ => exact absurd hp h
  | many _ h2 => exact ⟨_, _, rfl, h2⟩
 ·rintro ⟨D, cs, rfl, h⟩;exact .many hp h
def nH (P : List (Int × List Int)) : Bool := P.all fun p => decide (p.1 = 2)
theorem zb4 : ∀ P : List (Int × List Int), bL P [] = nH P
 | [] => nE
 | p :: P => by rw [mA, zb4 P]; rfl
section
variable {Q P : List (Int × List Int)} {E C : List (List Int)} {x y : Int × List Int}
theorem zvw (hx : x.1 = 2) (hy : y.1 = 2) (h : Ones Q E) : bL (x :: (Q ++ y :: P)) (E ++ C) = bL (y :: P) C := by
 apply Bool.eq_iff_iff.2;rw [nG, nG, o9 hx];constructor
 ·rintro ⟨D, cs, e, hd⟩;obtain ⟨E', cs', rfl, hl, hd2⟩ := h.split hd;obtain ⟨D2, cs2, rfl, hd3⟩ := (o9 hy).1 hd2;rw [o9 hy];have hl2 := h.len;have e2 : E ++ C = (D ++ (E' ++ D2)) ++ cs2 := by rw [e]; simp only [qr]
  have e3 : C = (E ++ C).drop E.length := (List.drop_left' rfl).symm;rw [e2, qaq (by simp only [qd]; omega)] at e3;exact ⟨_, cs2, e3, hd3⟩
 ·intro hd;exact ⟨[], _, rfl, h.deal.app hd⟩
theorem zvx (hx : x.1 = 2) {c : List Int} (h : Ones Q E) (hm : bL P (c :: C) = false) (hone : ∀ p ps, P = p :: ps -> p.1 ≠ 2) {f : List Int} {F : List (List Int)} (hf : E ++ c :: C = f :: F) :
 bL (x :: (Q ++ P)) (f :: F) = bL (x :: (Q ++ P)) F := by
 rw [iP, if_pos hx]
 have : bL (Q ++ P) (f :: F) = false := by
  cases hb : bL (Q ++ P) (f :: F) with
  | false => rfl
  | true =>
    rw [nG, <- hf] at hb;obtain ⟨E', cs', e, hl, hd⟩ := h.split hb;have hl2 := h.len;obtain ⟨rfl, rfl⟩ := List.append_inj e (by omega);rw [zk2 hd] at hm; cases hm
 rw [this]; rfl
theorem zvy (hx : x.1 = 2) (h : Ones Q E) : bL (x :: (Q ++ P)) E = nH P := by
 rw [<- zb4];apply Bool.eq_iff_iff.2;rw [nG, nG, o9 hx];constructor
 ·rintro ⟨D, cs, e, hd⟩;obtain ⟨E', cs', rfl, hl, hd2⟩ := h.split hd;have hl2 := h.len;have hlen := congrArg qz e;simp only [qd] at hlen;have : cs' = [] := qq (by omega);rwa [this] at hd2
 ·intro hd;refine ⟨[], E, rfl, ?_⟩;have := h.deal.app hd;rwa [qae] at this
end
def kY (P : List (Int × List Int)) (C : List (List Int)) (a i star fr : Int) : Prop :=
 (0 <= a /\ a <= P.length) /\ (0 <= i /\ i <= C.length) /\
  ((star = -1 /\ fr = 0 /\ bL P C = bL (P.drop a.toNat) (C.drop i.toNat)) ∨
   (0 <= star /\ star < a /\ 0 <= fr /\ fr <= i /\ ∃ Q E, P.drop (star.toNat + 1) = Q ++ P.drop a.toNat /\ C.drop fr.toNat = E ++ C.drop i.toNat /\ Ones Q E /\ bL P C = bL ((2, []) :: P.drop (star.toNat + 1)) (C.drop fr.toNat)))
section
variable {P : List (Int × List Int)} {C : List (List Int)} {a i star fr : Int}
theorem zvz : kY P C 0 0 (-1) 0 := ⟨⟨by omega, by omega⟩, ⟨by omega, by omega⟩, .inl ⟨rfl, rfl, rfl⟩⟩
theorem gW {α : Type} {l : List α} {k : Nat} (h : k < l.length) : l.drop k = l[k] :: l.drop (k + 1) := qw h
theorem zk3 {x : Int × List Int} (hx : x.1 = 2) (P : List (Int × List Int)) (C : List (List Int)) : bL (x :: P) C = bL ((2, []) :: P) C := by
 apply Bool.eq_iff_iff.2;rw [nG, nG, o9 hx, o9 rfl]
theorem zv0 (h : kY P C a i star fr) (ha : a.toNat < P.length) (hp : P[a.toNat].1 = 2) : kY P C (a + 1) i a i := by
 obtain ⟨⟨a0, a1⟩, ⟨i0, i1⟩, h⟩ := h;have e1 : (a + 1).toNat = a.toNat + 1 := by omega
 refine ⟨⟨by omega, by omega⟩, ⟨i0, i1⟩, .inr ⟨a0, by omega, i0, qo _, [], [], by rw [e1]; rfl, rfl, .nil, ?_⟩⟩;rcases h with ⟨_, _, e⟩ | ⟨s0, s1, f0, f1, Q, E, g1, g2, g3, e⟩
 ·rw [e, gW ha, zk3 hp]
 ·rw [e, g1, g2, gW ha, zvw rfl hp g3, zk3 hp]
theorem zv1 (h : kY P C a i star fr) (ha : a.toNat < P.length) (hi : i.toNat < C.length) (hp : P[a.toNat].1 ≠ 2) (h1 : gA P[a.toNat] C[i.toNat] = true) : kY P C (a + 1) (i + 1) star fr := by
 obtain ⟨⟨a0, a1⟩, ⟨i0, i1⟩, h⟩ := h;have e1 : (a + 1).toNat = a.toNat + 1 := by omega
 have e2 : (i + 1).toNat = i.toNat + 1 := by omega
 refine ⟨⟨by omega, by omega⟩, ⟨by omega, by omega⟩, ?_⟩;rw [e1, e2];rcases h with ⟨s0, f0, e⟩ | ⟨s0, s1, f0, f1, Q, E, g1, g2, g3, e⟩
 ·left;refine ⟨s0, f0, ?_⟩;rw [e, gW ha, gW hi, iP, if_neg hp, h1]; rfl
 ·right;refine ⟨s0, by omega, f0, by omega, Q ++ [P[a.toNat]], E ++ [C[i.toNat]], ?_, ?_, g3.snoc hp h1, e⟩
  ·rw [g1, gW ha, qr]; rfl
  ·rw [g2, gW hi, qr]; rfl
theorem zk4 (h : kY P C a i star fr) (hi : i.toNat < C.length) (hm : ∀ h : a.toNat < P.length, P[a.toNat].1 ≠ 2 /\ gA P[a.toNat] C[i.toNat] = false) :
 (star = -1 -> bL P C = false) /\ (0 <= star -> kY P C (star + 1) (fr + 1) star (fr + 1)) := by
 obtain ⟨⟨a0, a1⟩, ⟨i0, i1⟩, h⟩ := h
 have hf : bL (P.drop a.toNat) (C.drop i.toNat) = false := by
  rw [gW hi];by_cases ha : a.toNat < P.length
  ·rw [gW ha, iP, if_neg (hm ha).1, (hm ha).2]; rfl
  ·rw [qu (by omega), nF]
 rcases h with ⟨s0, f0, e⟩ | ⟨s0, s1, f0, f1, Q, E, g1, g2, g3, e⟩
 ·exact ⟨fun _ => by rw [e, hf], fun h => by omega⟩
 ·refine ⟨fun h => by omega, fun _ => ⟨⟨by omega, by omega⟩, ⟨by omega, by omega⟩, .inr ⟨s0, by omega, by omega, qo _, [], [], ?_, rfl, .nil, ?_⟩⟩⟩
  ·rw [show (star + 1).toNat = star.toNat + 1 by omega]; rfl
  ·have hfl : fr.toNat < C.length := by omega
   rw [e, show (fr + 1).toNat = fr.toNat + 1 by omega, gW hfl, g1];refine zvx rfl g3 (C := C.drop (i.toNat + 1)) (c := C[i.toNat]) (by rw [<- gW hi]; exact hf) (fun p ps hps => ?_) (by rw [<- gW hi, <- g2, gW hfl]);by_cases ha : a.toNat < P.length
   ·rw [gW ha] at hps;cases hps; exact (hm ha).1
   ·rw [qu (by omega)] at hps; cases hps
theorem zv2 (h : kY P C a i star fr) (hi : ¬i.toNat < C.length) : bL P C = nH (P.drop a.toNat) := by
 obtain ⟨⟨a0, a1⟩, ⟨i0, i1⟩, h⟩ := h;have hc : C.drop i.toNat = [] := qu (by omega);rcases h with ⟨s0, f0, e⟩ | ⟨s0, s1, f0, f1, Q, E, g1, g2, g3, e⟩
 ·rw [e, hc, zb4]
 ·rw [e, g1, g2, hc, qae, zvy rfl g3]
end
def jZ (p c : Nat) (a i fr : Int) : Nat := (c + 1 - fr.toNat) * (p + c + 2) + (p - a.toNat) + (c - i.toNat)
theorem zv3 {p c : Nat} {a i fr : Int} (h0 : 0 <= a) (h1 : a.toNat < p) (h2 : fr <= i) : jZ p c (a + 1) i i < jZ p c a i fr := by
 unfold jZ;have : (c + 1 - i.toNat) * (p + c + 2) <= (c + 1 - fr.toNat) * (p + c + 2) := Nat.mul_le_mul_right _ (by omega);omega
theorem zv4 {p c : Nat} {a i fr : Int} (h0 : 0 <= a) (h1 : a.toNat < p) : jZ p c (a + 1) (i + 1) fr < jZ p c a i fr := by
 unfold jZ; omega
theorem zk5 {p c : Nat} {a i fr b j : Int} (h0 : 0 <= fr) (h1 : fr <= c) : jZ p c b j (fr + 1) < jZ p c a i fr := by
 unfold jZ
 have : (c + 1 - fr.toNat) * (p + c + 2) = (c + 1 - (fr + 1).toNat) * (p + c + 2) + (p + c + 2) := by
  rw [show c + 1 - fr.toNat = (c + 1 - (fr + 1).toNat) + 1 by omega, Nat.succ_mul]
 omega
def fF (rows : List Row) (l : List Int) : List (Int × List Int) := (cR rows (dC rows l) 0).map fun c => (0, c)
def j5 (o : List (Int × List Int)) : List (Int × List Int) := match o.getLast? with
 | some p => if p.1 = 2 then o else o ++ [(2, [])]
 | none => o ++ [(2, [])]
def prs (rows : List Row) (out : List (Int × List Int)) (plain : List Int) : List Int -> Option (List (Int × List Int))
 | [] => some (out ++ fF rows plain)
 | c :: l => if c = 92 then (match l with
  | [] => none
  | d :: l' => prs rows out (plain ++ [d]) l')
   else if c = 42 then prs rows (j5 (out ++ fF rows plain)) [] l else if c = 63 then prs rows (out ++ fF rows plain ++ [(1, [])]) [] l else prs rows out (plain ++ [c]) l
section
variable {rows : List Row} {out : List (Int × List Int)} {plain l : List Int} {c : Int}
theorem pB : prs rows out plain [] = some (out ++ fF rows plain) := by rw [prs]
theorem rS : prs rows out plain (42 :: l) = prs rows (j5 (out ++ fF rows plain)) [] l := by rw [prs.eq_def]; dsimp only; rw [if_neg (by decide), if_pos rfl]
theorem rT : prs rows out plain (63 :: l) = prs rows (out ++ fF rows plain ++ [(1, [])]) [] l := by rw [prs.eq_def]; dsimp only; rw [if_neg (by decide), if_neg (by decide), if_pos rfl]
theorem pC (h1 : c ≠ 92) (h2 : c ≠ 42) (h3 : c ≠ 63) : prs rows out plain (c :: l) = prs rows out (plain ++ [c]) l := by rw [prs.eq_def]; dsimp only; rw [if_neg h1, if_neg h2, if_neg h3]
theorem vF : prs rows out plain [92] = none := by rw [prs.eq_def]; dsimp only; rw [if_pos rfl]
theorem vG {d : Int} : prs rows out plain (92 :: d :: l) = prs rows out (plain ++ [d]) l := by rw [prs.eq_def]; dsimp only; rw [if_pos rfl]
end
def eS : List (Int × List Int) -> Prop
 | p :: q :: r => ¬(p.1 = 2 /\ q.1 = 2) /\ eS (q :: r)
 | _ => True
theorem rU : ∀ {A B : List (Int × List Int)}, eS A -> eS B -> (∀ p q, A.getLast? = some p -> B.head? = some q -> ¬(p.1 = 2 /\ q.1 = 2)) -> eS (A ++ B)
 | [], B, _, hb, _ => hb
 | [p], [], _, _, _ => trivial
 | [p], q :: B, _, hb, h => ⟨h p q rfl rfl, hb⟩
 | p :: q :: A, B, ha, hb, h => ⟨ha.1, rU (A := q :: A) ha.2 hb fun x y hx hy => h x y (by rw [List.getLast?_cons_cons]; exact hx) hy⟩
theorem zk6 : ∀ {A : List (Int × List Int)}, eS A -> ∀ (i : Nat) (h : i + 1 < A.length), ¬(A[i].1 = 2 /\ A[i + 1].1 = 2)
 | p :: q :: r, h, 0, _ => h.1
 | p :: q :: r, h, i + 1, hi => zk6 (A := q :: r) h.2 i (by simpa using hi)
theorem zb5 {rows : List Row} {A : List (Int × List Int)} (h : eS A) (l : List Int) : eS (A ++ fF rows l) := by
 have hz : ∀ p ∈ fF rows l, p.1 = 0 := fun p hp => by
  obtain ⟨c, _, rfl⟩ := List.mem_map.1 hp; rfl
 refine rU h ?_ fun p q _ hq hpq => ?_
 ·revert hz
  generalize fF rows l = B;intro hz
  induction B with
  | nil => trivial
  | cons p B ih =>
    cases B with
    | nil => trivial
    | cons q B => exact ⟨fun h => by have := hz p qad; omega, ih fun x hx => hz x (qah _ hx)⟩
 ·have := hz q (List.mem_of_mem_head? hq); omega
theorem zv5 {A : List (Int × List Int)} (h : eS A) {p : Int × List Int} (hp : p.1 ≠ 2) : eS (A ++ [p]) :=
 rU h trivial fun x y _ hy hxy => by cases hy; exact hp hxy.2
theorem zv6 {A : List (Int × List Int)} (h : eS A) : eS (j5 A) := by
 unfold j5;cases hl : A.getLast? with
 | none => exact rU h trivial fun x y hx _ _ => by rw [hl] at hx; cases hx
 | some p =>
   dsimp only;split
   ·exact h
   ·rename_i hp;exact rU h trivial fun x y hx _ hxy => by rw [hl] at hx; cases hx; exact hp hxy.1
theorem rV {rows : List Row} : ∀ (n : Nat) {out : List (Int × List Int)} {plain l : List Int} {P : List (Int × List Int)}, l.length <= n -> eS out -> prs rows out plain l = some P -> eS P
 | _, out, plain, [], P, _, h, e => by rw [pB] at e; cases e; exact zb5 h _
 | 0, out, plain, c :: l, P, hn, h, e => by simp at hn
 | n + 1, out, plain, c :: l, P, hn, h, e => by
   simp only [qf] at hn;by_cases h1 : c = 92
   ·subst h1;cases l with
    | nil => rw [vF] at e; cases e
    | cons d l => rw [vG] at e; exact rV n (by simp only [qf] at hn; omega) h e
   ·by_cases h2 : c = 42
    ·subst h2; rw [rS] at e; exact rV n (by omega) (zv6 (zb5 h _)) e
    ·by_cases h3 : c = 63
     ·subst h3; rw [rT] at e; exact rV n (by omega) (zv5 (zb5 h _) (by decide)) e
     ·rw [pC h1 h2 h3] at e; exact rV n (by omega) h e
section
variable {P : List (Int × List Int)} {C : List (List Int)}
end
def i9 (P : List (Int × List Int)) : Prop := ∀ p ∈ P, p.1 = 0 ∨ p.1 = 1 ∨ p.1 = 2
theorem rW {A B : List (Int × List Int)} (h : i9 A) (k : i9 B) : i9 (A ++ B) := fun p hp => (List.mem_append.1 hp).elim (h p) (k p)
theorem zb6 (rows : List Row) (l : List Int) : i9 (fF rows l) := fun p hp => by
 obtain ⟨c, _, rfl⟩ := List.mem_map.1 hp; exact .inl rfl
theorem zv7 {A : List (Int × List Int)} (h : i9 A) : i9 (j5 A) := by
 have h2 : i9 (A ++ [(2, [])]) := rW h fun p hp => by rw [List.mem_singleton.1 hp]; exact .inr (.inr rfl)
 unfold j5;cases A.getLast? with
 | none => exact h2
 | some p =>
   dsimp only;split
   ·exact h
   ·exact h2
theorem rX {rows : List Row} : ∀ (n : Nat) {out : List (Int × List Int)} {plain l : List Int} {P : List (Int × List Int)}, l.length <= n -> i9 out -> prs rows out plain l = some P -> i9 P
 | _, out, plain, [], P, _, h, e => by rw [pB] at e; cases e; exact rW h (zb6 rows _)
 | 0, out, plain, c :: l, P, hn, h, e => by simp at hn
 | n + 1, out, plain, c :: l, P, hn, h, e => by
   simp only [qf] at hn;by_cases h1 : c = 92
   ·subst h1;cases l with
    | nil => rw [vF] at e; cases e
    | cons d l => rw [vG] at e; exact rX n (by simp only [qf] at hn; omega) h e
   ·by_cases h2 : c = 42
    ·subst h2; rw [rS] at e; exact rX n (by omega) (zv7 (rW h (zb6 rows _))) e
    ·by_cases h3 : c = 63
     ·subst h3; rw [rT] at e;exact rX n (by omega) (rW (rW h (zb6 rows _)) fun p hp => by rw [List.mem_singleton.1 hp]; exact .inr (.inl rfl)) e
     ·rw [pC h1 h2 h3] at e; exact rX n (by omega) h e
end Go.Eng.Rows
namespace Go.Eng
open Go Go.Proofs
section
variable (k : Int) (n f : Bool) (es : LL) (n2 f2 : Bool) (ss : LL)
def zk7 (R : PV -> Prop) : Prop :=
 if (k == 1) = true then R (Zb true) else if (k == 0) = true then PCall qa 36 [PV.sl n f es, PV.sl n2 f2 ss] fun v => ∃ b, v = Zb b /\ R (Zb b) else R (Zb false)
theorem zv8 {R : PV -> Prop} (h : zk7 k n f es n2 f2 ss R) : PCall qa 73 [.agg [.int .i64 k, .sl n f es], .sl n2 f2 ss] R :=
 PCall.wz Tryz.func73 aP [0, 1, 2, 4] aZ h
end
def zb7 (np fp : Bool) (ps : LL) (n7 f7 : Bool) (s7 : LL) (x8 x9 x10 x11 : Int) : Env × Hp := ([(3, LV.box 0 0), (7, .pv (.sl n7 f7 s7)), (8, Y6 x8), (9, Y6 x9), (10, Y6 x10), (11, Y6 x11)], [.box [LV.pv (PV.sl np fp ps)]])
def zb8 (np fp : Bool) (ps : LL) (x8 : Int) : Env × Hp := ([(3, LV.box 0 0), (8, Y6 x8)], [.box [LV.pv (PV.sl np fp ps)]])
section
variable (np fp : Bool) (ps : LL) (tc tg tj tf tp : PV) (M S : List (PV × PV)) (n f : Bool) (es : LL) (J : Bool -> Bool -> LL -> Int -> Int -> Int -> Int -> Prop) (μ : Bool -> Bool -> LL -> Int -> Int -> Int -> Int -> Nat) (J2 : Int -> Prop) (μ2 : Int -> Nat)
def zk8 (R : PV -> Prop) : Prop :=
 PCall qa 34 [PV.ptr [tc, tg, tj, tf, tp, PV.mp M, PV.mp S], PV.sl n f es] fun v => ∃ n1 f1 es1, v = PV.sl n1 f1 es1 /\ PCall qa 33 [PV.ptr [tc, tg, tj, tf, tp, PV.mp M, PV.mp S], PV.sl n1
  f1 es1] fun v1 => ∃ n2 f2 es2, v1 = PV.sl n2 f2 es2 /\ (aH (zb7 np fp ps n2 f2 es2 (0 : Int) (0 : Int) (-1 : Int) (0 : Int)) /\ J n2 f2 es2 (0 : Int) (0 : Int) (-1 : Int) (0 : Int)) /\ ∀ (n7 f7 :
  Bool) (s7 : LL) (x8 x9 x10 x11 : Int), J n7 f7 s7 x8 x9 x10 x11 ->
 let K4 := fun (y0_ y1_ : Bool) (y2_ : LL) (y3_ y4_ y5_ y6_ : Int) => aH (zb7 np fp ps y0_ y1_ y2_ y3_ y4_ y5_ y6_) /\ J y0_ y1_ y2_ y3_ y4_ y5_ y6_ /\ μ y0_ y1_ y2_ y3_ y4_ y5_ y6_ < μ n7 f7 s7 x8 x9 x10
  x11; if decide (x9 < (↑s7.length : Int)) = true then
 let V1 :=
 let V2 := if decide (x10 >= 0) = true then K4 n7 f7 s7 (i64.wrap (x10 + 1)) (i64.wrap (x11 + 1)) x10 (i64.wrap (x11 + 1)) else R (Zb false); if decide (x8 < (↑ps.length : Int)) = true then aI ps x8 2 /\ ∃ (n4 :
  Int), (ps.getD x8.toNat []).head? = some (Z6 n4) /\ ∃ n5 f3 es3, (ps.getD x8.toNat []).tail.head? = some (PV.sl n5 f3 es3) /\ aI s7 x9 1 /\ ∃ n6 f4 es4, (s7.getD x9.toNat
  []).head? = some (PV.sl n6 f4 es4) /\ PCall qa 73 [PV.agg [Z6 n4, PV.sl n5 f3 es3], PV.sl n6 f4 es4] fun v2 => ∃ b, v2 = Zb b /\ if b = true then K4 n7 f7 s7 (i64.wrap (x8 + 1)) (i64.wrap (x9 + 1)) x10
  x11 else V2 else V2; if decide (x8 < (↑ps.length : Int)) = true then aI ps x8 2 /\ ∃ n3, (qj 0 (ps.getD x8.toNat [])).head? = some (Z6 n3) /\ if (n3 == 2) = true then K4 n7 f7 s7 (i64.wrap (x8 + 1)) x9 x8 x9 else
  V1 else V1 else (aH (zb8 np fp ps x8) /\ J2 x8) /\ ∀ (x81 : Int), J2 x81 -> if decide (x81 < (↑ps.length : Int)) = true then aI ps x81 2 /\ ∃ n3, (qj 0 (ps.getD x81.toNat [])).head? = some (Z6 n3) /\ if (n3 == 2) =
  true then aH (zb8 np fp ps (i64.wrap (x81 + 1))) /\ J2 (i64.wrap (x81 + 1)) /\ μ2 (i64.wrap (x81 + 1)) < μ2 x81 else R (Zb (x81 == (↑ps.length : Int))) else R (Zb (x81 == (↑ps.length : Int)))
theorem zv9 {R : PV -> Prop} (h : zk8 np fp ps tc tg tj tf tp M S n f es J μ J2 μ2 R) : PCall qa 50 [.agg [.sl np fp ps], .ptr [tc, tg, tj, tf, tp, .mp M, .mp S], .sl n f es] R :=
 PCall.wz Tryz.func50 aP [0, 1, 2, 3, 6, 7, 8, 9, 10, 11, 20, 21, 40, 62, 83] (gK [(4, (bC lR (zb7 np fp ps) J μ (fun e h => (gN e 7, gF e 7, gS e 7, gI e 8, gI e 9, gI e 10, gI e 11)) [] [3, 7, 8, 9, 10, 11] [])), (13, (bC cz1 (zb8 np fp ps) J2 μ2 (fun e h => (((gI e 8), ()))) [] [3, 8] []))]) h
end
def zb9 (np fp : Bool) (ps : LL) (x9 : Int) (n_0 : Bool) (s_0 : LL) : Env × Hp := ([(3, LV.own 0), (7, LV.pv (PV.sl np fp ps)), (8, LV.pv (PV.int i64 (ps.length : Int))), (9, Y6 x9)], [.sl (52, 2) true n_0 s_0])
section
variable (np fp : Bool) (ps : LL) (J : Int -> Bool -> LL -> Prop) (μ : Int -> Bool -> LL -> Nat)
def zk9 (R : PV -> Prop) : Prop :=
 (aH (zb9 np fp ps (0 : Int) true []) /\ J (0 : Int) true []) /\ ∀ (x9 : Int) (n_0 : Bool) (s_0 : LL), J x9 n_0 s_0 -> if decide (x9 < (↑ps.length : Int)) = true then aI ps x9 2 /\ ∃ n, (ps.getD x9.toNat []).head? = some (Z6 n) /\ ∃ n1 f es, (ps.getD x9.toNat []).tail.head? = some (PV.sl n1 f es) /\ PCall qa 47 [PV.sl n1 f es] fun v => ∃ n2 f1 es1, v = PV.sl n2 f1 es1 /\ (aQ [[Z6 n, PV.sl n2 f1 es1]] 2 /\ (s_0.length + 1) * 32 <= 140737488355328) /\ aH (zb9 np fp ps (i64.wrap (x9 + 1)) (n_0 && false) (s_0 ++ [[Z6 n, PV.sl n2 f1 es1]])) /\ J (i64.wrap (x9 + 1)) (n_0 && false) (s_0 ++ [[Z6 n, PV.sl n2 f1 es1]]) /\ μ (i64.wrap (x9 + 1)) (n_0 && false) (s_0 ++ [[Z6 n, PV.sl n2 f1 es1]]) < μ x9 n_0 s_0 else R (PV.sl n_0 false s_0)
theorem zwa {R : PV -> Prop} (h : zk9 np fp ps J μ R) : PCall qa 20 [.agg [.sl np fp ps]] R :=
 PCall.wz Tryz.func20 aP [0, 1, 2, 3, 5, 7, 8, 9, 10] (cA 3 (bC dU (zb9 np fp ps) J μ (fun e h => (gI e 9, oN h 0, oS h 0)) [(3, 52, 2)] [3, 7, 8, 9] [])) h
end
def zca (tc tg tj tf tp : PV) (M S : List (PV × PV)) (n2 : Bool) (ss : LL) (n9 f9 : Bool) (s9 : LL) (x10 x11 : Int) (n_4 : Bool) (s_4 : LL) : Env × Hp := ([(1, LV.box 1 0), (2, LV.box 2 0), (9, .pv (.sl n9 f9 s9)), (10, Y6 x10), (11, Y6 x11)], [.box [LV.pv (PV.ptr [tc, tg, tj, tf, tp, PV.mp M, PV.mp S])], .box [LV.pv (PV.sl n2 false ss)], .box [LV.own 4], .dead, .sl (52, 2) true n_4 s_4])
def zla (tc tg tj tf tp : PV) (M S : List (PV × PV)) (n2 f2 : Bool) (n1 m1 m2 : Bool) (ps ss : LL) (J : Bool -> Bool -> LL -> Int -> Int -> Bool -> LL -> Prop) (μ : Bool -> Bool -> LL -> Int -> Int -> Bool -> LL -> Nat) (R : LV -> Hp -> Prop) : Prop :=
 PCall qa 34 [PV.ptr [tc, tg, tj, tf, tp, PV.mp M, PV.mp S], PV.sl n2 false ss] fun v => ∃ n f es, v = PV.sl n f es /\ PCall qa 33 [PV.ptr [tc, tg, tj, tf, tp, PV.mp M, PV.mp S], PV.sl n f es] fun v1 => ∃ n3 f1 es1, v1 = PV.sl n3 f1 es1 /\ (aH (zca tc tg tj tf tp M S n2 ss n3 f1 es1 (↑es1.length : Int) (0 : Int) n1 ps) /\ J n3 f1 es1 (↑es1.length : Int) (0 : Int) n1 ps) /\ ∀ (n9 f9 : Bool) (s9 : LL) (x10 x11 : Int) (n_4 : Bool) (s_4 : LL), J n9 f9 s9 x10 x11 n_4 s_4 -> if decide (x11 < x10) = true then aI s9 x11 1 /\ ∃ n4 f3 es2, (s9.getD x11.toNat []).head? = some (PV.sl n4 f3 es2) /\ (aQ [[Z6 0, PV.sl n4 f3 es2]] 2 /\ (s_4.length + 1) * 32 <= 140737488355328) /\ aH (zca tc tg tj tf tp M S n2 ss n9 f9 s9 x10 (i64.wrap (x11 + 1)) (n_4 && false) (s_4 ++ [[Z6 0, PV.sl n4 f3 es2]])) /\ J n9 f9 s9 x10 (i64.wrap (x11 + 1)) (n_4 && false) (s_4 ++ [[Z6 0, PV.sl n4 f3 es2]]) /\ μ n9 f9 s9 x10 (i64.wrap (x11 + 1)) (n_4 && false) (s_4 ++ [[Z6 0, PV.sl n4 f3 es2]]) < μ n9 f9 s9 x10 x11 n_4 s_4 else R (LV.tup []) [Ob.box [LV.pv (PV.ptr [tc, tg, tj, tf, tp, PV.mp M, PV.mp S])], Ob.box [LV.pv (PV.sl true true [])], Ob.box [LV.own 4], Ob.dead, Ob.sl (52, 2) true n_4 s_4]
theorem zwb (tc tg tj tf tp : PV) (M S : List (PV × PV)) (n2 f2 : Bool) (n1 m1 m2 : Bool) (ps ss : LL) (J : Bool -> Bool -> LL -> Int -> Int -> Bool -> LL -> Prop) (μ : Bool -> Bool -> LL -> Int -> Int -> Bool -> LL -> Nat) {R : LV -> Hp -> Prop} (h : zla tc tg tj tf tp M S n2 f2 n1 m1 m2 ps ss J μ R) : ACall qa 48 [.box 0 0, .box 1 0, .box 2 0] [.box [.pv (.ptr [tc, tg, tj, tf, tp, .mp M, .mp S])], .box [.own 3], .box [.own 4], .sl (21, 1) m1 n2 ss, .sl (52, 2) m2 n1 ps] R :=
 ACall.wz Tryz.func48 aP [0, 1, 2, 4, 9, 10, 11, 12] (cA 1 (bC lR (zca tc tg tj tf tp M S n2 ss) J μ (fun e h => (gN e 9, gF e 9, gS e 9, gI e 10, gI e 11, oN h 4, oS h 4)) [] [1, 2, 9, 10, 11] [4])) [0, 1, 2, 3, 4] h

def zcb (tc tg tj tf tp : PV) (M S : List (PV × PV)) (n f : Bool) (es : LL) (x9 : Int) (n_4 : Bool) (s_4 : LL) (n_5 : Bool) (s_5 : LL) : Env × Hp := ([(6, LV.box 0 0), (4, LV.box 1 0), (8, LV.fn 48 [LV.box 2 0, LV.box 3 0, LV.box 0 0]), (1, LV.pv (PV.sl n f es)), (7, LV.box 3 0), (9, Y6 x9)], [.box [LV.own 4], .box [LV.pv (PV.sl true true [])], .box [LV.pv (PV.ptr [tc, tg, tj, tf, tp, PV.mp M, PV.mp S])], .box [LV.own 5], .sl (52, 2) true n_4 s_4, .sl (21, 1) true n_5 s_5])
section
variable (tc tg tj tf tp : PV) (M S : List (PV × PV)) (n f : Bool) (es : LL) (J : Int -> Bool -> LL -> Bool -> LL -> Prop) (μ : Int -> Bool -> LL -> Bool -> LL -> Nat)
def zlb (R : PV -> Prop) : Prop :=
 (aH (zcb tc tg tj tf tp M S n f es (0 : Int) true [] true []) /\ J (0 : Int) true [] true []) /\ ∀ (x9 : Int) (n_4 : Bool) (s_4 : LL) (n_5 : Bool) (s_5 : LL), J x9 n_4 s_4 n_5 s_5 ->
 let K5 := fun (y0_ : Int) (y1_ : Bool) (y2_ : LL) (y3_ : Bool) (y4_ : LL) => aH (zcb tc tg tj tf tp M S n f es y0_ y1_ y2_ y3_ y4_) /\ J y0_ y1_ y2_ y3_ y4_ /\ μ y0_ y1_ y2_ y3_ y4_ < μ x9 n_4 s_4 n_5 s_5; if decide (x9 < (↑es.length :
  Int)) = true then aI es x9 1 /\ ∃ n1, (es.getD x9.toNat []).head? = some (Z3 n1) /\
 let V1 := ACall qa 48 [LV.box 0 0, LV.box 1 0, LV.box 2 0] [Ob.box [LV.pv (PV.ptr [tc, tg, tj, tf, tp, PV.mp M, PV.mp S])], Ob.box [LV.own 3], Ob.box [LV.own 4], Ob.sl (21, 1) false n_5 s_5, Ob.sl (52, 2) false n_4 s_4] fun (r : LV)
  (h' : Hp) => ∃ (t : Bool × LL), (r = LV.tup [] /\ h' = [Ob.box [LV.pv (PV.ptr [tc, tg, tj, tf, tp, PV.mp M, PV.mp S])], Ob.box [LV.pv (PV.sl true true [])], Ob.box [LV.own 4], Ob.dead, Ob.sl (52, 2) true t.fst t.snd]) /\ (True /\ True /\ True
  /\ True /\ True /\ True) /\ aI es x9 1 /\ ∃ n2, (es.getD x9.toNat []).head? = some (Z3 n2) /\ if (!n2 == 42) = true then (aQ [[Z6 1, PV.sl true true []]] 2 /\ (t.snd.length + 1) * 32 <= 140737488355328) /\ K5 (i64.wrap (x9 +
  1)) (t.fst && false) (t.snd ++ [[Z6 1, PV.sl true true []]]) true [] else
 let V2 := (aQ [[Z6 2, PV.sl true true []]] 2 /\ (t.snd.length + 1) * 32 <= 140737488355328) /\ K5 (i64.wrap (x9 + 1)) (t.fst && false) (t.snd ++ [[Z6 2, PV.sl true true []]]) true []; if ((↑t.snd.length : Int) == 0) = true then V2
  else aI t.snd (i64.wrap ((↑t.snd.length : Int) - 1)) 2 /\ ∃ n3, (qj 0 (t.snd.getD (i64.wrap ((↑t.snd.length : Int) - 1)).toNat [])).head? = some (Z6 n3) /\ if (n3 != 2) = true then V2 else K5
  (i64.wrap (x9 + 1)) t.fst t.snd true [];
 let V3 := if (n1 == 92) = true then if (i64.wrap (x9 + 1) == (↑es.length : Int)) = true then R (PV.tup [PV.agg [PV.sl true true []], Z6 4]) else aI es (i64.wrap (x9 + 1)) 1 /\ ∃ n2, (es.getD (i64.wrap (x9
  + 1)).toNat []).head? = some (Z3 n2) /\ (aQ [[Z3 n2]] 1 /\ (s_5.length + 1) * 4 <= 140737488355328) /\ K5 (i64.wrap (i64.wrap (x9 + 1) + 1)) n_4 s_4 (n_5 && false) (s_5 ++ [[Z3 n2]]) else aI es x9 1 /\ ∃ (n2 : Int),
  (es.getD x9.toNat []).head? = some (Z3 n2) /\ (aQ [[Z3 n2]] 1 /\ (s_5.length + 1) * 4 <= 140737488355328) /\ K5 (i64.wrap (x9 + 1)) n_4 s_4 (n_5 && false) (s_5 ++ [[Z3 n2]]); if (n1 == 42) = true then if (n1 == 42) = true then V1
  else V3 else if (n1 == 63) = true then V1 else V3 else ACall qa 48 [LV.box 0 0, LV.box 1 0, LV.box 2 0] [Ob.box [LV.pv (PV.ptr [tc, tg, tj, tf, tp, PV.mp M, PV.mp S])], Ob.box [LV.own 3], Ob.box [LV.own 4], Ob.sl (21, (1 : Nat))
  false n_5 s_5, Ob.sl (52, 2) false n_4 s_4] fun (r : LV) (h' : Hp) => ∃ (t : Bool × LL), (r = LV.tup [] /\ h' = [Ob.box [LV.pv (PV.ptr [tc, tg, tj, tf, tp, PV.mp M, PV.mp S])], Ob.box [LV.pv (PV.sl true true [])], Ob.box [LV.own 4],
  Ob.dead, Ob.sl (52, 2) true t.fst t.snd]) /\ (True /\ True /\ True /\ True /\ True /\ True) /\ if decide ((↑t.snd.length : Int) > 1000) = true then R (PV.tup [PV.agg [PV.sl true true []], Z6 7]) else R (PV.tup [PV.agg [PV.sl t.fst false t.snd],
  Z6 0])
theorem zwc {R : PV -> Prop} (h : zlb tc tg tj tf tp M S n f es J μ R) : PCall qa 18 [.ptr [tc, tg, tj, tf, tp, .mp M, .mp S], .sl n f es] R :=
 PCall.wz Tryz.func18 (fun zz_ => match zz_ with | 6000000 => some ⟨Bool × LL, fun _ hs t => (.tup [], match hs with | [a, .box _, c, _, .sl ty _ _ _] => [a, .box [.pv (.sl true true [])], c, .dead, .sl ty true t.1 t.2] | h => h), none⟩ | 6000048 => some ⟨Bool × LL, fun _ hs t => (.tup [], match hs with | [a, .box _, c, _, .sl ty _ _ _] => [a, .box [.pv (.sl true true [])], c, .dead, .sl ty true t.1 t.2] | h => h), none⟩ | _ => none) [0, 1, 2, 4, 5, 6, 7, 8, 9, 10, 11, 16, 22, 30, 41, 62, 69, 76, 90] (cA 5 (bC cz5 (zcb tc tg tj tf tp M S n f es) J μ (fun e h => (gI e 9, oN h 4, oS h 4, oN h 5, oS h 5)) [(1002000, 52, 2), (1003000, 21, 1), (1000000, 52, 2)] [6, 4, 8, 1, 7, 9] [])) h
end
def zcc (n f : Bool) (es : LL) (n2 f2 : Bool) (ss : LL) (x8 : Int) (n_0 : Bool) (s_0 : LL) (n_1 : Bool) (s_1 : LL) : Env × Hp := ([(0, LV.pv (PV.sl n f es)), (1, LV.pv (PV.sl n2 f2 ss)), (6, LV.own 0), (7, LV.own 1), (8, Y6 x8)], [.sl (53, 2) true n_0 s_0, .sl (21, 1) true n_1 s_1])
section
variable (n f : Bool) (es : LL) (n2 f2 : Bool) (ss : LL) (J : Int -> Bool -> LL -> Bool -> LL -> Prop) (μ : Int -> Bool -> LL -> Bool -> LL -> Nat)
def zlc (R : PV -> Prop) : Prop :=
 (aH (zcc n f es n2 f2 ss (0 : Int) true [] true []) /\ J (0 : Int) true [] true []) /\ ∀ (x8 : Int) (n_0 : Bool) (s_0 : LL) (n_1 : Bool) (s_1 : LL), J x8 n_0 s_0 n_1 s_1 ->
 let K4 := fun (y0_ : Int) (y1_ : Bool) (y2_ : LL) (y3_ : Bool) (y4_ : LL) => aH (zcc n f es n2 f2 ss y0_ y1_ y2_ y3_ y4_) /\ J y0_ y1_ y2_ y3_ y4_ /\ μ y0_ y1_ y2_ y3_ y4_ < μ x8 n_0 s_0 n_1 s_1; if decide (x8 < (↑ss.length : Int)) =
  true then aI ss x8 1 /\ ∃ n1, (ss.getD x8.toNat []).head? = some (Z3 n1) /\ if (n1 == 92) = true then if (x8 == i64.wrap ((↑ss.length : Int) - 1)) = true then R (PV.tup [PV.sl true true [], Z6 4]) else aI ss
  (i64.wrap (x8 + 1)) 1 /\ ∃ n3, (ss.getD (i64.wrap (x8 + 1)).toNat []).head? = some (Z3 n3) /\ (aQ [[Z3 n3]] 1 /\ (s_1.length + 1) * 4 <= 140737488355328) /\ K4 (i64.wrap (i64.wrap (x8 + 1) + 1)) n_0
  s_0 (n_1 && false) (s_1 ++ [[Z3 n3]]) else aI ss x8 1 /\ ∃ n3, (ss.getD x8.toNat []).head? = some (Z3 n3) /\
 let V1 := ACall qa 49 [LV.pv (PV.sl n f es), LV.own 0, LV.own 1] [Ob.sl (53, 2) false n_0 s_0, Ob.sl (21, 1) false n_1 s_1] fun (r : LV) (h' : Hp) => ∃ (t : Bool × LL), (r = LV.own 0 /\ h' = [Ob.sl (53, 2) true t.fst t.snd, Ob.dead])
  /\ (True /\ True /\ True) /\ aI ss x8 1 /\ ∃ n5, (ss.getD x8.toNat []).head? = some (Z3 n5) /\ if (n5 == 63) = true then (aQ [[Z6 1, PV.sl true true []]] 2 /\ (t.snd.length + 1) * 32 <= 140737488355328) /\ K4 (i64.wrap (x8 +
  1)) (t.fst && false) (t.snd ++ [[Z6 1, PV.sl true true []]]) true [] else
 let V2 := (aQ [[Z6 2, PV.sl true true []]] 2 /\ (t.snd.length + 1) * 32 <= 140737488355328) /\ K4 (i64.wrap (x8 + 1)) (t.fst && false) (t.snd ++ [[Z6 2, PV.sl true true []]]) true []; if ((↑t.snd.length : Int) == 0) = true then V2
  else aI t.snd (i64.wrap ((↑t.snd.length : Int) - 1)) 2 /\ ∃ n6, (qj 0 (t.snd.getD (i64.wrap ((↑t.snd.length : Int) - 1)).toNat [])).head? = some (Z6 n6) /\ if (n6 != 2) = true then V2 else K4
  (i64.wrap (x8 + 1)) t.fst t.snd true []; if (n3 != 42) = true then aI ss x8 1 /\ ∃ n4, (ss.getD x8.toNat []).head? = some (Z3 n4) /\ if (n4 != 63) = true then aI ss x8 1 /\ ∃ n5, (ss.getD x8.toNat []).head? =
  some (Z3 n5) /\ (aQ [[Z3 n5]] 1 /\ (s_1.length + 1) * 4 <= 140737488355328) /\ K4 (i64.wrap (x8 + 1)) n_0 s_0 (n_1 && false) (s_1 ++ [[Z3 n5]]) else V1 else V1 else ACall qa 49 [LV.pv (PV.sl n f es), LV.own 0, LV.own 1]
  [Ob.sl (53, 2) false n_0 s_0, Ob.sl (21, 1) false n_1 s_1] fun (r : LV) (h' : Hp) => ∃ (t : Bool × LL), (r = LV.own 0 /\ h' = [Ob.sl (53, (2 : Nat)) true t.fst t.snd, Ob.dead]) /\ (True /\ True /\ True) /\ if decide ((↑t.snd.length : Int) >
  1000) = true then R (PV.tup [PV.sl true true [], Z6 7]) else R (PV.tup [PV.sl t.fst false t.snd, Z6 0])
theorem zwd {R : PV -> Prop} (h : zlc n f es n2 f2 ss J μ R) : PCall qa 19 [.sl n f es, .sl n2 f2 ss] R :=
 PCall.wz Tryz.func19 (fun zz_ => match zz_ with | 49 => some ⟨Bool × LL, fun _ hs t => (.own 0, match hs with | [.sl ty _ _ _, _] => [.sl ty true t.1 t.2, .dead] | h => h), none⟩ | _ => none) [0, 1, 4, 5, 6, 7, 8, 12, 19, 24, 45, 61, 78, 89] (cA 4 (bC cz5 (zcc n f es n2 f2 ss) J μ (fun e h => (gI e 8, oN h 0, oS h 0, oN h 1, oS h 1)) [(6, 53, 2), (7, 21, 1)] [0, 1, 6, 7, 8] [])) h
end
def zcd  (n7 f7 : Bool) (s7 : LL) (x8 : Int) (n_0 : Bool) (s_0 : LL) : Env × Hp := ([(1, LV.own 0), (7, .pv (.sl n7 f7 s7)), (8, Y6 x8)], [.sl (53, 2) true n_0 s_0, .dead])
section
variable (n f : Bool) (es : LL) (m1 n1 : Bool) (ps : LL) (m2 n3 : Bool) (s3 : LL) (J : Bool -> Bool -> LL -> Int -> Bool -> LL -> Prop) (μ : Bool -> Bool -> LL -> Int -> Bool -> LL -> Nat)
def zld (R : LV -> Hp -> Prop) : Prop :=
 PCall qa 24 [PV.sl n f es, PV.sl n3 false s3] fun v => ∃ n2 f1 es1, v = PV.sl n2 f1 es1 /\ PCall qa 46 [PV.sl n f es, PV.sl n2 f1 es1] fun v1 => ∃ n4 f2 es2, v1 = PV.sl n4 f2 es2 /\ (aH (zcd n4 f2 es2 (0 : Int) n1 ps) /\ J n4 f2 es2 (0 : Int) n1 ps) /\ ∀ (n7 f7 : Bool) (s7 : LL) (x8 : Int) (n_0 : Bool) (s_0 : LL), J n7 f7 s7 x8 n_0 s_0 -> if decide (x8 < (↑s7.length : Int)) = true then aI s7 x8 1 /\ ∃ n5 f3 es3, (s7.getD x8.toNat []).head? = some (PV.sl n5 f3 es3) /\ (aQ [[Z6 0, PV.sl n5 f3 es3]] 2 /\ (s_0.length + 1) * 32 <= 140737488355328) /\ aH (zcd n7 f7 s7 (i64.wrap (x8 + 1)) (n_0 && false) (s_0 ++ [[Z6 0, PV.sl n5 f3 es3]])) /\ J n7 f7 s7 (i64.wrap (x8 + 1)) (n_0 && false) (s_0 ++ [[Z6 0, PV.sl n5 f3 es3]]) /\ μ n7 f7 s7 (i64.wrap (x8 + 1)) (n_0 && false) (s_0 ++ [[Z6 0, PV.sl n5 f3 es3]]) < μ n7 f7 s7 x8 n_0 s_0 else R (LV.own 0) [Ob.sl (53, 2) true n_0 s_0, Ob.dead]
theorem zwe {R : LV -> Hp -> Prop} (h : zld n f es n1 ps n3 s3 J μ R) : ACall qa 49 [.pv (.sl n f es), .own 0, .own 1] [.sl (53, 2) m1 n1 ps, .sl (21, 1) m2 n3 s3] R :=
 ACall.wz Tryz.func49 aP [0, 1, 2, 6, 7, 8, 17] (cA 3 (bC cz6 zcd J μ (fun e h => (gN e 7, gF e 7, gS e 7, gI e 8, oN h 0, oS h 0)) [] [1, 7, 8] [0])) [0, 1] h
end
def zle  (R : PV -> Prop) : Prop :=
 PCall qa 8 [] fun v => ∃ n f es, v = PV.sl n f es /\ PCall qa 10 [PV.sl n f es] fun v1 => PCall qa 18 [v1, PV.sl false true [[Z3 97], [Z3 42], [Z3 99]]] fun v2 => ∃ vs, v2 = PV.tup vs /\ vs.length = 2 /\ ∃ x, vs.head? = some x /\ ∃ cs, x = PV.agg cs /\ cs.length = 1 /\ ∃ n1 f1 es1, cs.head? = some (PV.sl n1 f1 es1) /\ ∃ x1, vs.tail.head? = some x1 /\ ∃ n2, x1 = Z6 n2 /\ PCall qa 18 [v1, PV.sl false true [[Z3 63]]] fun v3 => ∃ vs1, v3 = PV.tup vs1 /\ vs1.length = 2 /\ ∃ x2, vs1.head? = some x2 /\ ∃ cs1, x2 = PV.agg cs1 /\ cs1.length = 1 /\ ∃ n3 f2 es2, cs1.head? = some (PV.sl n3 f2 es2) /\ ∃ x3, vs1.tail.head? = some x3 /\ ∃ n4, x3 = Z6 n4 /\ if (n2 == 0 && n4 == 0) = true then PCall qa 50 [PV.agg [PV.sl n1 f1 es1], v1, PV.sl false true [[Z3 97], [Z3 99]]] fun v4 => ∃ b, v4 = Zb b /\ if b = true then PCall qa 50 [PV.agg [PV.sl n1 f1 es1], v1, PV.sl false true [[Z3 97], [Z3 98], [Z3 98], [Z3 99]]] fun v5 => ∃ b1, v5 = Zb b1 /\ if b1 = true then PCall qa 50 [PV.agg [PV.sl n1 f1 es1], v1, PV.sl false true [[Z3 97], [Z3 99], [Z3 98]]] fun v6 => ∃ b2, v6 = Zb b2 /\ if (!b2) = true then PCall qa 50 [PV.agg [PV.sl n3 f2 es2], v1, PV.sl false true [[Z3 101], [Z3 769]]] fun v7 => ∃ b3, v7 = Zb b3 /\ if b3 = true then PCall qa 50 [PV.agg [PV.sl n3 f2 es2], v1, PV.sl false true [[Z3 101], [Z3 97]]] fun v8 => ∃ b4, v8 = Zb b4 /\ R (Zb !b4) else R (Zb false) else R (Zb false) else R (Zb false) else R (Zb false) else R (Zb false)
theorem zwf  {R : PV -> Prop} (h : zle  R) : PCall qa 22 [] R :=
 PCall.wz Tryz.func22 aP [0, 1, 2, 3, 4, 5] aZ h

def zce  (n6 f6 : Bool) (s6 : LL) (n8 f8 : Bool) (s8 : LL) (x9 : Int) : Env × Hp := ([(6, .pv (.sl n6 f6 s6)), (8, .pv (.sl n8 f8 s8)), (9, Y6 x9)], [])
section
variable (n f : Bool) (es : LL) (J : Bool -> Bool -> LL -> Bool -> Bool -> LL -> Int -> Prop) (μ : Bool -> Bool -> LL -> Bool -> Bool -> LL -> Int -> Nat)
def zlf (R : PV -> Prop) : Prop :=
 PCall qa 7 [PV.sl n f es, Z6 80] fun v => ∃ n1 f1 es1, v = PV.sl n1 f1 es1 /\ PCall qa 8 [] fun v1 => ∃ n2 f2 es2, v1 = PV.sl n2 f2 es2 /\ PCall qa 10 [PV.sl n2 f2 es2] fun v2 => PCall qa 18 [v2, PV.sl n1 f1 es1] fun v3 => ∃ vs, v3 = PV.tup vs /\ vs.length = 2 /\ ∃ x, vs.head? = some x /\ ∃ cs, x = PV.agg cs /\ cs.length = 1 /\ ∃ n3 f3 es3, cs.head? = some (PV.sl n3 f3 es3) /\ ∃ x1, vs.tail.head? = some x1 /\ ∃ n4, x1 = Z6 n4 /\ PCall qa 19 [PV.sl n2 f2 es2, PV.sl n1 f1 es1] fun v4 => ∃ vs1, v4 = PV.tup vs1 /\ vs1.length = 2 /\ ∃ x2, vs1.head? = some x2 /\ ∃ n5 f4 es4, x2 = PV.sl n5 f4 es4 /\ ∃ x3, vs1.tail.head? = some x3 /\ ∃ n6, x3 = Z6 n6 /\ PCall qa 20 [PV.agg [PV.sl n3 f3 es3]] fun v5 => ∃ n7 f5 es5, v5 = PV.sl n7 f5 es5 /\ if (n4 != n6 || (↑es5.length : Int) != (↑es4.length : Int)) = true then R (Zb false) else (aH (zce n5 f4 es4 n7 f5 es5 (0 : Int)) /\ J n5 f4 es4 n7 f5 es5 (0 : Int)) /\ ∀ (n61 f6 : Bool) (s6 : LL) (n8 f8 : Bool) (s8 : LL) (x9 : Int), J n61 f6 s6 n8 f8 s8 x9 -> if decide (x9 < (↑s8.length : Int)) = true then aI s8 x9 2 /\ ∃ n9, (qj 0 (s8.getD x9.toNat [])).head? = some (Z6 n9) /\ aI s6 x9 2 /\ ∃ n10, (qj 0 (s6.getD x9.toNat [])).head? = some (Z6 n10) /\ if (n9 != n10) = true then R (Zb false) else aI s8 x9 2 /\ ∃ n11 f7 es6, (qj 1 (s8.getD x9.toNat [])).head? = some (PV.sl n11 f7 es6) /\ aI s6 x9 2 /\ ∃ n12 f9 es7, (qj 1 (s6.getD x9.toNat [])).head? = some (PV.sl n12 f9 es7) /\ PCall qa 21 [PV.sl n11 f7 es6, PV.sl n12 f9 es7] fun v6 => ∃ b, v6 = Zb b /\ if (!b) = true then R (Zb false) else
 let V1 := aH (zce n61 f6 s6 n8 f8 s8 (i64.wrap (x9 + 1))) /\ J n61 f6 s6 n8 f8 s8 (i64.wrap (x9 + 1)) /\ μ n61 f6 s6 n8 f8 s8 (i64.wrap (x9 + 1)) < μ n61 f6 s6 n8 f8 s8 x9; if decide (x9 > 0) = true then aI s8 x9 2 /\ ∃ n13, (qj 0 (s8.getD x9.toNat [])).head? = some (Z6 n13) /\ if (n13 == 2) = true then aI s8 (i64.wrap (x9 - 1)) 2 /\ ∃ n14, (qj 0 (s8.getD (i64.wrap (x9 - 1)).toNat [])).head? = some (Z6 n14) /\ if (n14 == 2) = true then R (Zb false) else V1 else V1 else V1 else PCall qa 22 [] fun v6 => ∃ b, v6 = Zb b /\ R (Zb b)
theorem zwg {R : PV -> Prop} (h : zlf n f es J μ R) : PCall qa 5 [.sl n f es] R :=
 PCall.wz Tryz.func5 aP [0, 2, 3, 4, 5, 6, 7, 8, 9, 37, 41, 89] (cA 9 (bC lR zce J μ (fun e h => (gN e 6, gF e 6, gS e 6, gN e 8, gF e 8, gS e 8, gI e 9)) [] [6, 8, 9] [])) h
end
end Go.Eng
namespace Go.Eng
open Go Go.Proofs Go.Eng.Rows Go.Eng.Trie Go.Eng.Srt
abbrev PtF := Int × Bool × Bool × List Int
def pT (q : PtF) : List PV := [.int .i64 q.1, .sl q.2.1 q.2.2.1 (aA q.2.2.2)]
theorem zcf (q : PtF) : (pT q).length = 2 := rfl
def pE (q : PtF) : Int × List Int := (q.1, q.2.2.2)
theorem zwh (k : Int) (n f n2 f2 : Bool) (c d : List Int) (hl : c.length < 1000000000000) : PCall qa 73 [.agg [.int .i64 k, .sl n f (aA c)], .sl n2 f2 (aA d)] fun x => x = .bool (gA (k, c) d) := by
 refine zv8 _ _ _ _ _ _ _ ?_; unfold zk7 gA;refine aC (fun h => ?_) (fun h => ?_)
 ·simp only [beq_iff_eq] at h;simp [h]
 ·simp only [beq_iff_eq] at h;refine aC (fun h0 => ?_) (fun h0 => ?_)
  ·simp only [beq_iff_eq] at h0;refine (zt7 n f n2 f2 c d hl).mono ?_;rintro _ rfl;refine ⟨_, rfl, ?_⟩;simp [h0]
  ·simp only [beq_iff_eq] at h0;simp [h, h0]
section
variable {rows : List Row} {v : PV}
theorem pAt {Q : List PtF} {i : Int} (i0 : 0 <= i) (hi : i.toNat < Q.length) : aI (Q.map pT) i 2 /\ (Q.map pT).getD i.toNat [] = pT Q[i.toNat] := ⟨bT zcf i0 (by omega), cG hi⟩
theorem zwi (hts : eE rows) (hp : cT rows) (h1 : dG rows) (hk : dY rows) (hv : d7 rows v) (np fp n f : Bool) (Q : List PtF) (hQ : ∀ q ∈ Q, q.2.2.2.length < 1000000000) (hQl : Q.length < 1000000) (L : List Int) (hr : R32 L) (hL : L.length < 100000) :
 PCall qa 50 [.agg [.sl np fp (Q.map pT)], v, .sl n f (aA L)] fun x => x = .bool (bL (Q.map pE) (cR rows (dC rows L) 0)) := by
 have c1 := zjw hp h1 hk hv n f L hr (by omega);have hnl := u9 hk L;have hnr := zbs hp h1 hk hr;have c2 := fun n f => zk0 hts hv n f (dC rows L) hnr (by omega);have hcc := vC rows (dC rows L);obtain ⟨tc, tg, tj, tf, tp, made, sec, rfl, ht', hm⟩ := hv;generalize cR rows (dC rows L) 0 = C at *
 refine zv9 _ _ _ _ _ _ _ _ _ _ _ _ _
  (fun n7 f7 s7 a i st fr => (∃ K : List (Bool × Bool × List Int), s7 = K.map eF /\ K.map (fun q => q.2.2) = C) /\ (-1 <= st /\ 0 <= fr /\ fr <= i) /\ kY (Q.map pE) C a i st fr) (fun _ _ _ a i _ fr => jZ Q.length C.length a i fr)
  (fun a => (0 <= a /\ a <= Q.length) /\ bL (Q.map pE) C = nH ((Q.map pE).drop a.toNat)) (fun a => Q.length - a.toNat) ?_
 unfold zk8;refine c1.mono ?_;rintro _ ⟨n1, f1, rfl⟩;refine ⟨_, _, _, rfl, ?_⟩;refine (c2 n1 f1).mono ?_;rintro _ ⟨n2, K, rfl, hK⟩;have hPl : (Q.map pE).length = Q.length := qb _;refine ⟨_, _, _, rfl, ⟨rfl, ⟨K, rfl, hK⟩, ⟨by omega, by omega, by omega⟩, zvz⟩, ?_⟩;rintro n7 f7 _ a i st fr ⟨⟨K, rfl, hK⟩, ⟨st0, fr0, fr1⟩, hI⟩;have hKl : (K.map eF).length = C.length := by rw [qb, <- hK, qb]
 have hQlen : ((Q.map pT).length : Int) = Q.length := by rw [qb]
 rw [hKl, hQlen];obtain ⟨⟨a0, a1⟩, ⟨i0, i1⟩, _⟩ := id hI;rw [hPl] at a1;have hwa : i64.wrap (a + 1) = a + 1 := aF (by omega) (by omega);have hwi : i64.wrap (i + 1) = i + 1 := aF (by omega) (by omega);refine aC (fun hc => ?_) (fun hc => ?_)
 ·simp only [aB] at hc;have hi : i.toNat < C.length := by omega
  have hst1 : st < Q.length := by
   obtain ⟨_, _, h⟩ := hI;rcases h with ⟨h, _⟩ | ⟨_, h, _⟩ <;> omega
  have hws : i64.wrap (st + 1) = st + 1 := aF (by omega) (by omega);have hwf : i64.wrap (fr + 1) = fr + 1 := aF (by omega) (by omega);rw [hwa, hwi, hws, hwf];by_cases ha : a < Q.length
  ·have hal : a.toNat < Q.length := by omega
   have halE : a.toNat < (Q.map pE).length := by omega
   obtain ⟨g1, g2⟩ := pAt a0 hal;obtain ⟨k1, n6, f4, k2⟩ := qAt hK i0 hi;have hE : (Q.map pE)[a.toNat] = pE Q[a.toNat] := qai _;refine bD (by simpa using ha) ⟨g1, _, by rw [List.drop_zero, g2]; rfl, aC (fun h2 => ?_) (fun h2 => ?_)⟩
   ·simp only [beq_iff_eq] at h2;exact ⟨rfl, ⟨⟨K, rfl, hK⟩, ⟨by omega, by omega, by omega⟩, zv0 hI halE (by rw [hE]; exact h2)⟩, zv3 a0 hal fr1⟩
   ·simp only [beq_iff_eq] at h2;refine bD (by simpa using ha) ⟨g1, _, by rw [g2]; rfl, _, _, _, by rw [g2]; rfl, k1, _, _, _, by rw [k2]; rfl, ?_⟩
    refine (zwh _ _ _ _ _ _ _ (by have := hQ _ (qk hal); omega)).mono ?_;rintro _ rfl;refine ⟨_, rfl, aC (fun h3 => ?_) (fun h3 => ?_)⟩
    ·rw [vD [] hi] at h3;exact ⟨rfl, ⟨⟨K, rfl, hK⟩, ⟨by omega, by omega, by omega⟩, zv1 hI halE hi (by rw [hE]; exact h2) (by rw [hE]; exact h3)⟩, zv4 a0 hal⟩
    ·rw [vD [] hi] at h3;obtain ⟨m1, m2⟩ := zk4 hI hi fun h => ⟨by rw [hE]; exact h2, by rw [hE]; exact Bool.eq_false_iff.2 h3⟩;refine aC (fun h => ?_) (fun h => ?_)
     ·simp only [aB, ge_iff_le] at h;exact ⟨rfl, ⟨⟨K, rfl, hK⟩, ⟨by omega, by omega, by omega⟩, m2 h⟩, zk5 fr0 (by omega)⟩
     ·simp only [aB, ge_iff_le] at h;rw [m1 (by omega)]
  ·obtain ⟨m1, m2⟩ := zk4 hI hi fun h => absurd h (by omega);refine bA (by simpa using ha) (bA (by simpa using ha) (aC (fun h => ?_) (fun h => ?_)))
   ·simp only [aB, ge_iff_le] at h;exact ⟨rfl, ⟨⟨K, rfl, hK⟩, ⟨by omega, by omega, by omega⟩, m2 h⟩, zk5 fr0 (by omega)⟩
   ·simp only [aB, ge_iff_le] at h;rw [m1 (by omega)]
 ·simp only [aB] at hc;have he := zv2 hI (by omega);refine ⟨⟨rfl, ⟨a0, a1⟩, he⟩, ?_⟩;rintro b ⟨⟨b0, b1⟩, hb⟩;have hwb : i64.wrap (b + 1) = b + 1 := aF (by omega) (by omega)
  have last : ¬b.toNat < Q.length -> PV.bool (b == (Q.length : Int)) = PV.bool (bL (Q.map pE) C) := fun h => by
   rw [hb, qu (by rw [hPl]; omega)];have : b = Q.length := by omega
   simp [this, nH]
  refine aC (fun h => ?_) (fun h => ?_)
  ·simp only [aB] at h;have hbq : b.toNat < Q.length := by omega
   obtain ⟨g1, g2⟩ := pAt b0 hbq
   have hd : (Q.map pE).drop b.toNat = pE Q[b.toNat] :: (Q.map pE).drop (b.toNat + 1) := by
    rw [qw (by rw [hPl]; exact hbq), qai]
   refine ⟨g1, _, by rw [g2]; rfl, ?_⟩;rw [hwb];refine aC (fun h2 => ?_) (fun h2 => ?_)
   ·simp only [beq_iff_eq] at h2;refine ⟨rfl, ⟨⟨by omega, by omega⟩, ?_⟩, by dsimp only; omega⟩;rw [hb, hd, show (b + 1).toNat = b.toNat + 1 by omega];show (decide ((pE Q[b.toNat]).1 = 2) && nH _) = _;rw [decide_eq_true (show (pE Q[b.toNat]).1 = 2 from h2), qab]
   ·simp only [beq_iff_eq] at h2;rw [hb, hd];show PV.bool (b == (Q.length : Int)) = PV.bool (decide ((pE Q[b.toNat]).1 = 2) && nH _);rw [decide_eq_false (show ¬(pE Q[b.toNat]).1 = 2 from h2), qam];have : ¬b = Q.length := by omega
    simp [this]
  ·simp only [aB] at h;exact last (by omega)
end
end Go.Eng
namespace Go.Eng.Rows
open Go Go.Eng Go.Eng.Trie Go.Eng.Srt
section
variable {rows : List Row}
theorem zwj {r : Int} (h : dQ rows r = false) (hn : aJ rows r ≠ (0, 0)) : (aJ rows r).2 ≠ 0 /\ aD rows 1 r = 0 /\ aD rows 1 (aJ rows r).1 = 0 := by
 unfold dQ at h;simp [hn] at h;exact ⟨h.1, h.2.2.1, h.2.2.2⟩
theorem zwk (h1 : dG rows) (hks : ∀ r, bO r = true -> aD rows 1 r = 0) {a b c : Int} (h : eR rows a b = some c) : aD rows 1 c = 0 := by
 unfold eR at h;split at h
 ·rename_i s hj; cases h; exact hks _ (zbl hj)
 ·obtain ⟨q1, q2, q3, _⟩ := zbk h1 h;exact (zwj q3 (by rw [q1]; intro e; exact q2 (Prod.mk.inj e).2)).2.1
theorem zwl (h1 : dG rows) (hks : ∀ r, bO r = true -> aD rows 1 r = 0) (d : List Int) : ∀ a, (bH rows d).s = some a -> aD rows 1 a = 0 := by
 induction d using iO with
 | h0 => intro a h; cases h
 | h1 d r ih =>
   rw [fZ];rcases oY rows (bH rows d) r with e | ⟨b, c, hs, hp, _, e⟩
   ·rw [e];unfold cE;split
    ·rename_i h0; intro a h; cases h; exact h0
    ·exact ih
   ·rw [e];intro a h; cases h; exact zwk h1 hks hp
end
end Go.Eng.Rows
namespace Go.Eng
open Go Go.Proofs
section
variable (n f : Bool) (es : LL) (r : Int)
def zlg (R : PV -> Prop) : Prop :=
 PCall qa 101 [PV.sl n f es, Z3 r] fun v => ∃ vs, v = PV.tup vs /\ vs.length = 3 /\ ∃ x, vs.head? = some x /\ ∃ n1, x = Z3 n1 /\ ∃ x1, vs.tail.head? = some x1 /\ ∃ n2, x1 = Z3 n2 /\ ∃ x2, vs.tail.tail.head? = some x2 /\ ∃ b, x2 = Zb b /\ if (!b) = true then R (Zb false) else if (n2 == 0) = true then R (Zb true) else PCall qa 128 [PV.sl n f es, Z6 3, Z3 r] fun v1 => ∃ n3, v1 = Z6 n3 /\ if (n3 == 1) = true then R (Zb true) else PCall qa 128 [PV.sl n f es, Z6 1, Z3 r] fun v2 => ∃ n4, v2 = Z6 n4 /\ if (n4 != 0) = true then R (Zb true) else PCall qa 128 [PV.sl n f es, Z6 1, Z3 n1] fun v3 => ∃ n5, v3 = Z6 n5 /\ R (Zb (n5 != 0))
theorem zwm {R : PV -> Prop} (h : zlg n f es r R) : PCall qa 129 [.sl n f es, .int .i32 r] R :=
 PCall.wz Tryz.func129 aP [0, 1, 4, 5, 6, 7, 16] aZ h
end
end Go.Eng
namespace Go.Eng
open Go Go.Proofs
open Go Go.Proofs Go.Eng.Rows Go.Eng.Trie
end Go.Eng
namespace Go.Eng
open Go Go.Proofs Go.Eng.Rows Go.Eng.Trie
section
variable {rows : List Row}
theorem zlh (i : Int) : bP rows 3 i = decide (aD rows 3 i = 1) := by
 unfold bP aD;cases bY rows 3 i with
 | none => rfl
 | some p => rfl
theorem zwn (hp : cT rows) (n f : Bool) (r : Int) (hl : rows.length < 1000000) (hr : -2147483648 <= r /\ r <= 2147483647) : PCall qa 129 [.sl n f (bB rows), .int .i32 r] fun v => v = .bool (dQ rows r) := by
 refine zwm _ _ _ _ ?_; unfold zlg;refine (uP hp n f r hl hr).mono ?_;rintro _ rfl;have hrng := oV hp r;refine ⟨_, rfl, rfl, _, rfl, _, rfl, _, rfl, _, rfl, _, rfl, _, rfl, ?_⟩;refine aC (fun h1 => ?_) (fun h1 => aC (fun h2 => ?_) (fun h2 => ?_))
 ·simp only [qbb, aB] at h1;unfold dQ; simp [h1]
 ·simp only [qbb, aB] at h1;simp only [beq_iff_eq] at h2;unfold dQ; simp [h1, h2]
 ·simp only [qbb, aB] at h1;simp only [beq_iff_eq] at h2;refine (l5 n f 3 r hl hr).mono ?_;rintro _ rfl;refine ⟨_, rfl, ?_⟩;refine aC (fun h4 => ?_) (fun h4 => ?_)
  ·simp only [beq_iff_eq] at h4;unfold dQ; rw [zlh]; simp [h1, h2, h4]
  ·simp only [beq_iff_eq] at h4;refine (l5 n f 1 r hl hr).mono ?_;rintro _ rfl;refine ⟨_, rfl, ?_⟩;refine aC (fun h5 => ?_) (fun h5 => ?_)
   ·simp only [bne_iff_ne, ne_eq] at h5;unfold dQ; simp [h1, h2, h5]
   ·simp only [bne_iff_ne, ne_eq, qi] at h5;refine (l5 n f 1 _ hl (by omega)).mono ?_;rintro _ rfl;refine ⟨_, rfl, ?_⟩;unfold dQ; rw [zlh];simp only [h1, h2, h4, h5, decide_false, qbg, qab, qbj, decide_true, qbk];rfl
end
end Go.Eng
namespace Go.Eng
open Go Go.Proofs
section
variable (a b : Int)
def zli (R : PV -> Prop) : Prop :=
 if (decide (a >= 4352) && decide (a <= 4370) && decide (b >= 4449) && decide (b <= 4469)) = true then R (PV.tup [Z3 (i32.wrap (i64.wrap (i64.wrap ((44032 : Int) + i64.wrap (i64.wrap (i64.wrap a - 4352) * 588)) + i64.wrap (i64.wrap (i64.wrap b - 4449) * 28)))), Zb true]) else ACall qa 100 [LV.pv (Z3 a)] [] fun (r : LV) (h' : Hp) => (∃ (t : Bool × LL), (r = LV.own 0 /\ h' = [Ob.sl (21, 1) true t.fst t.snd]) /\ True /\ if ((↑t.snd.length : Int) == 2 && decide (b >= 4520) && decide (b <= 4546)) = true then R (PV.tup [Z3 (i32.wrap (a + i32.wrap (b - 4519))), Zb true]) else R (PV.tup [Z3 0, Zb false])) ∨ ∃ (t : Bool × LL), (r = LV.pv (PV.sl t.fst true t.snd) /\ h' = []) /\ True /\ if ((↑t.snd.length : Int) == 2 && decide (b >= 4520) && decide (b <= 4546)) = true then R (PV.tup [Z3 (i32.wrap (a + i32.wrap (b - 4519))), Zb true]) else R (PV.tup [Z3 0, Zb false])
theorem zwo {R : PV -> Prop} (h : zli a b R) : PCall qa 97 [.int .i32 a, .int .i32 b] R :=
 PCall.wz Tryz.func97 (fun zz_ => match zz_ with | 100 => some ⟨Bool × LL, fun _ hs t => (.own hs.length, hs ++ [.sl (21, 1) true t.1 t.2]), some ⟨Bool × LL, fun _ hs t => (.pv (.sl t.1 true t.2), hs)⟩⟩ | _ => none) [0, 1, 4, 5, 6, 20, 44] aZ h
end
def zcg (n f : Bool) (es : LL) (a b : Int) (x8 : Int) (x9 : Bool) (x10 : Int) : Env × Hp := ([(0, LV.pv (PV.sl n f es)), (1, LV.pv (PV.int i32 a)), (2, LV.pv (PV.int i32 b)), (8, .pv (.int i32 x8)), (9, .pv (.bool x9)), (10, Y6 x10)], [])
section
variable (n f : Bool) (es : LL) (a b : Int) (J : Int -> Bool -> Int -> Prop) (μ : Int -> Bool -> Int -> Nat)
def zlj (R : PV -> Prop) : Prop :=
 (aH (zcg n f es a b (0 : Int) false (0 : Int)) /\ J (0 : Int) false (0 : Int)) /\ ∀ (x8 : Int) (x9 : Bool) (x10 : Int), J x8 x9 x10 ->
 let K4 := fun (y0_ : Int) (y1_ : Bool) (y2_ : Int) => aH (zcg n f es a b y0_ y1_ y2_) /\ J y0_ y1_ y2_ /\ μ y0_ y1_ y2_ < μ x8 x9 x10; if decide (x10 < (↑es.length : Int)) = true then aI es x10 5 /\ ∃ n1, (qj 0 (es.getD x10.toNat [])).head? = some (Z6 n1) /\
 let V1 := K4 x8 x9 (i64.wrap (x10 + 1)); if (n1 != 2) = true then V1 else aI es x10 5 /\ ∃ n2, (qj 3 (es.getD x10.toNat [])).head? = some (Z6 n2) /\ if (n2 != i64.wrap a) = true then V1 else aI es x10 5 /\ ∃ n3, (qj 4 (es.getD x10.toNat [])).head? = some (Z6 n3) /\ if (n3 != i64.wrap b || b == 0) = true then V1 else aI es x10 5 /\ ∃ n4, (qj 1 (es.getD x10.toNat [])).head? = some (Z6 n4) /\ PCall qa 101 [PV.sl n f es, Z3 (i32.wrap n4)] fun v => ∃ vs, v = PV.tup vs /\ vs.length = 3 /\ ∃ x, vs.head? = some x /\ ∃ n5, x = Z3 n5 /\ ∃ x1, vs.tail.head? = some x1 /\ ∃ n6, x1 = Z3 n6 /\ ∃ x2, vs.tail.tail.head? = some x2 /\ ∃ b1, x2 = Zb b1 /\ if (b1 && n5 == a && n6 == b) = true then PCall qa 129 [PV.sl n f es, Z3 (i32.wrap n4)] fun v1 => ∃ b2, v1 = Zb b2 /\ if (!b2 && (!x9 || decide (i32.wrap n4 < x8))) = true then K4 (i32.wrap n4) true (i64.wrap (x10 + 1)) else V1 else V1 else R (PV.tup [Z3 x8, Zb x9])
theorem zwp {R : PV -> Prop} (h : zlj n f es a b J μ R) : PCall qa 98 [.sl n f es, .int .i32 a, .int .i32 b] R :=
 PCall.wz Tryz.func98 aP [0, 1, 2, 6, 7, 8, 9, 10, 11, 12, 13, 14, 18, 50, 89] (cA 4 (bC dU (zcg n f es a b) J μ (fun e h => (gI e 8, gB e 9, gI e 10)) [] [0, 1, 2, 8, 9, 10] [])) h
end
section
variable (n f : Bool) (es : LL) (a b : Int)
def zlk (R : PV -> Prop) : Prop :=
 PCall qa 97 [Z3 a, Z3 b] fun v => ∃ vs, v = PV.tup vs /\ vs.length = 2 /\ ∃ x, vs.head? = some x /\ ∃ n1, x = Z3 n1 /\ ∃ x1, vs.tail.head? = some x1 /\ ∃ b1, x1 = Zb b1 /\ if b1 = true then R (PV.tup [Z3 n1, Zb true]) else PCall qa 98 [PV.sl n f es, Z3 a, Z3 b] fun v1 => ∃ vs1, v1 = PV.tup vs1 /\ vs1.length = 2 /\ ∃ x2, vs1.head? = some x2 /\ ∃ n2, x2 = Z3 n2 /\ ∃ x3, vs1.tail.head? = some x3 /\ ∃ b2, x3 = Zb b2 /\ R (PV.tup [Z3 n2, Zb b2])
theorem zwq {R : PV -> Prop} (h : zlk n f es a b R) : PCall qa 76 [.sl n f es, .int .i32 a, .int .i32 b] R :=
 PCall.wz Tryz.func76 aP [0, 1, 2, 6, 7, 8, 9, 16] aZ h
end
def zch (n f : Bool) (es : LL) (n2 f2 : Bool) (ss : LL) (x5 : Int) : Env × Hp := ([(0, LV.pv (PV.sl n f es)), (1, LV.pv (PV.sl n2 f2 ss)), (5, Y6 x5)], [])
section
variable (n f : Bool) (es : LL) (n2 f2 : Bool) (ss : LL) (J : Int -> Prop) (μ : Int -> Nat)
def zll (R : PV -> Prop) : Prop :=
 (aH (zch n f es n2 f2 ss (i64.wrap ((↑ss.length : Int) - 1))) /\ J (i64.wrap ((↑ss.length : Int) - 1))) /\ ∀ (x5 : Int), J x5 -> if decide (x5 >= 0) = true then aI ss x5 1 /\ ∃ n1, (ss.getD x5.toNat []).head? = some (Z3 n1) /\ PCall qa 96 [PV.sl n f es, Z3 n1] fun v => ∃ n3, v = Z6 n3 /\ if (n3 == 0) = true then R (Z6 x5) else aH (zch n f es n2 f2 ss (i64.wrap (x5 - 1))) /\ J (i64.wrap (x5 - 1)) /\ μ (i64.wrap (x5 - 1)) < μ x5 else R (Z6 (-1 : Int))
theorem zwr {R : PV -> Prop} (h : zll n f es n2 f2 ss J μ R) : PCall qa 74 [.sl n f es, .sl n2 f2 ss] R :=
 PCall.wz Tryz.func74 aP [0, 1, 4, 5, 10, 19] (cA 2 (bC cz1 (zch n f es n2 f2 ss) J μ (fun e h => (((gI e 5), ()))) [] [0, 1, 5] [])) h
end
section
variable (n f : Bool) (es : LL) (n2 f2 : Bool) (ss : LL) (k r : Int)
def zlm (R : PV -> Prop) : Prop :=
 if (k == i64.wrap ((↑ss.length : Int) - 1)) = true then R (Zb true) else aI ss (i64.wrap ((↑ss.length : Int) - 1)) 1 /\ ∃ n1, (ss.getD (i64.wrap ((↑ss.length : Int) - 1)).toNat []).head? = some (Z3 n1) /\ PCall qa 96 [PV.sl n f es, Z3 n1] fun v => ∃ n3, v = Z6 n3 /\ PCall qa 96 [PV.sl n f es, Z3 r] fun v1 => ∃ n4, v1 = Z6 n4 /\ R (Zb (decide (n3 < n4)))
theorem zws {R : PV -> Prop} (h : zlm n f es ss k r R) : PCall qa 75 [.sl n f es, .sl n2 f2 ss, .int .i64 k, .int .i32 r] R :=
 PCall.wz Tryz.func75 aP [0, 1, 2, 3, 8, 13] aZ h
end
def zci (n f : Bool) (es : LL) (n2 f2 : Bool) (ss : LL) (x6 : Int) (n_0 : Bool) (s_0 : LL) : Env × Hp := ([(0, LV.pv (PV.sl n f es)), (1, LV.pv (PV.sl n2 f2 ss)), (5, LV.own 0), (6, Y6 x6)], [.sl (21, 1) true n_0 s_0])
section
variable (n f : Bool) (es : LL) (n2 f2 : Bool) (ss : LL) (J : Int -> Bool -> LL -> Prop) (μ : Int -> Bool -> LL -> Nat)
def zln (R : PV -> Prop) : Prop :=
 (aH (zci n f es n2 f2 ss (0 : Int) true []) /\ J (0 : Int) true []) /\ ∀ (x6 : Int) (n_0 : Bool) (s_0 : LL), J x6 n_0 s_0 ->
 let K3 := fun (y0_ : Int) (y1_ : Bool) (y2_ : LL) => aH (zci n f es n2 f2 ss y0_ y1_ y2_) /\ J y0_ y1_ y2_ /\ μ y0_ y1_ y2_ < μ x6 n_0 s_0; if decide (x6 < (↑ss.length : Int)) = true then PCall qa 74 [PV.sl n f es, PV.sl n_0 false s_0] fun v => ∃ n1, v = Z6 n1 /\ true = true /\
 let V1 := aI ss x6 1 /\ ∃ n7, (ss.getD x6.toNat []).head? = some (Z3 n7) /\ (aQ [[Z3 n7]] 1 /\ (s_0.length + 1) * 4 <= 140737488355328) /\ K3 (i64.wrap (x6 + 1)) (n_0 && false) (s_0 ++ [[Z3 n7]]); if decide (n1 >= 0) = true then aI ss x6 1 /\ ∃ n3, (ss.getD x6.toNat []).head? = some (Z3 n3) /\ PCall qa 75 [PV.sl n f es, PV.sl n_0 false s_0, Z6 n1, Z3 n3] fun v1 => ∃ b, v1 = Zb b /\ true = true /\ if b = true then aI s_0 n1 1 /\ ∃ n4, (qj 0 (s_0.getD n1.toNat [])).head? = some (Z3 n4) /\ aI ss x6 1 /\ ∃ n5, (ss.getD x6.toNat []).head? = some (Z3 n5) /\ PCall qa 76 [PV.sl n f es, Z3 n4, Z3 n5] fun v2 => ∃ vs, v2 = PV.tup vs /\ vs.length = 2 /\ ∃ x, vs.head? = some x /\ ∃ n6, x = Z3 n6 /\ ∃ x1, vs.tail.head? = some x1 /\ ∃ b1, x1 = Zb b1 /\ if b1 = true then aI s_0 n1 1 /\ (1 = 1 /\ 1 <= (s_0.getD n1.toNat []).length) /\ K3 (i64.wrap (x6 + 1)) n_0 (s_0.set n1.toNat (Z3 n6 :: zq (qj 1 (s_0.getD n1.toNat [])))) else V1 else V1 else V1 else R (PV.sl n_0 false s_0)
theorem zwt {R : PV -> Prop} (h : zln n f es n2 f2 ss J μ R) : PCall qa 51 [.sl n f es, .sl n2 f2 ss] R :=
 PCall.wz Tryz.func51 aP [0, 1, 4, 5, 6, 7, 8, 9, 13, 30, 44] (cA 3 (bC dU (zci n f es n2 f2 ss) J μ (fun e h => (gI e 6, oN h 0, oS h 0)) [(5, 21, 1)] [0, 1, 5, 6] [])) h
end
section
variable (n f : Bool) (es : LL) (n2 f2 : Bool) (ss : LL)
def zlo (R : PV -> Prop) : Prop :=
 PCall qa 52 [PV.sl n f es, PV.sl n2 f2 ss] fun v => ∃ n1 f1 es1, v = PV.sl n1 f1 es1 /\ PCall qa 51 [PV.sl n f es, PV.sl n1 f1 es1] fun v1 => ∃ n3 f3 es2, v1 = PV.sl n3 f3 es2 /\ R (PV.sl n3 f3 es2)
theorem zwu {R : PV -> Prop} (h : zlo n f es n2 f2 ss R) : PCall qa 24 [.sl n f es, .sl n2 f2 ss] R :=
 PCall.wz Tryz.func24 aP [0, 1, 4] aZ h
end
end Go.Eng
namespace Go.Eng
open Go Go.Proofs Go.Eng.Rows Go.Eng.Trie Go.Eng.Srt
theorem zwv {r : Int} (hs : bO r = false) : ACall qa 100 [.pv (.int .i32 r)] [] fun r1 h' => r1 = .pv (.sl true true []) /\ h' = [] := by
 refine zfv _ ?_; unfold yT;refine (pIs r).mono ?_;rintro _ rfl;refine ⟨_, rfl, ?_⟩;rw [hs];exact bD rfl ⟨rfl, rfl⟩
theorem zww {a b : Int} (ha : -2147483648 <= a /\ a <= 2147483647) (hb : -2147483648 <= b /\ b <= 2147483647) : PCall qa 97 [.int .i32 a, .int .i32 b] fun v => v = jX (d8 a b) := by
 refine zwo _ _ ?_; unfold zli;have wa : i64.wrap a = a := aF (by omega) (by omega);have wb : i64.wrap b = b := aF (by omega) (by omega);rw [wa, wb];refine aC (fun hc => ?_) (fun hc => ?_)
 ·simp only [qc, aB, ge_iff_le] at hc;have w1 : i64.wrap (a - 4352) = a - 4352 := aF (by omega) (by omega);have w2 : i64.wrap ((a - 4352) * 588) = (a - 4352) * 588 := aF (by omega) (by omega);have w3 : i64.wrap (44032 + (a - 4352) * 588) = 44032 + (a - 4352) * 588 := aF (by omega) (by omega);have w4 : i64.wrap (b - 4449) = b - 4449 := aF (by omega) (by omega);have w5 : i64.wrap ((b - 4449) * 28) = (b - 4449) * 28 := aF (by omega) (by omega);rw [w1, w2, w3, w4, w5];have w6 : i64.wrap (44032 + (a - 4352) * 588 + (b - 4449) * 28) = 44032 + (a - 4352) * 588 + (b - 4449) * 28 := aF (by omega) (by omega);rw [w6];have w7 : i32.wrap (44032 + (a - 4352) * 588 + (b - 4449) * 28) = 44032 + (a - 4352) * 588 + (b - 4449) * 28 := cS (by omega) (by omega);rw [w7];unfold d8;rw [if_pos (by omega)];simp only [jX];rw [show 44032 + (a - 4352) * 588 + (b - 4449) * 28 = 44032 + ((a - 4352) * 21 + (b - 4449)) * 28 by omega]
 ·simp only [qc, aB, ge_iff_le] at hc;have hn : ¬ ((4352 <= a /\ a < 4371) /\ 4449 <= b /\ b < 4470) := by omega
  have fin : ∀ (l : List (List PV)), (((l.length : Int) = 2 ↔ (bO a = true /\ (a - 44032) % 28 = 0))) -> (if (((l.length : Int)) == 2 && decide (b >= 4520) && decide (b <= 4546)) = true then (PV.tup [.int .i32 (i32.wrap (a + i32.wrap (b - 4519))), .bool true] : PV) = jX (d8 a b) else (PV.tup [.int .i32 0, .bool false] : PV) = jX (d8 a b)) := fun l hl => by
   refine aC (fun h2 => ?_) (fun h2 => ?_)
   ·simp only [qc, aB, beq_iff_eq, ge_iff_le] at h2;have hs := hl.1 h2.1.1;have hr := hs.1;simp only [bO, qc, aB] at hr;have w1 : i32.wrap (b - 4519) = b - 4519 := cS (by omega) (by omega);have w2 : i32.wrap (a + (b - 4519)) = a + (b - 4519) := cS (by omega) (by omega);rw [w1, w2];unfold d8; rw [if_neg hn, if_pos ⟨hs, by omega, by omega⟩]; rfl
   ·simp only [qc, aB, beq_iff_eq, ge_iff_le] at h2;unfold d8; rw [if_neg hn, if_neg (fun h => h2 ⟨⟨hl.2 h.1, by omega⟩, by omega⟩)]; rfl
  cases hs : bO a with
  | false =>
    refine (zwv hs).mono ?_;rintro _ _ ⟨rfl, rfl⟩;exact .inr ⟨(true, []), ⟨rfl, rfl⟩, trivial, fin [] (by rw [hs]; simp)⟩
  | true =>
    have hl : ((aA (dX a)).length : Int) = 2 ↔ (bO a = true /\ (a - 44032) % 28 = 0) := by
     rw [bG, hs];unfold dX;split <;> simp [*]
    refine (zav hs).mono ?_;rintro r1 h' (⟨nl, rfl, rfl⟩ | ⟨rfl, rfl⟩)
    ·exact .inl ⟨(nl, _), ⟨rfl, rfl⟩, trivial, fin _ hl⟩
    ·exact .inr ⟨(false, _), ⟨rfl, rfl⟩, trivial, fin _ hl⟩
section
variable {rows : List Row}
def pD (o : Option Int) : Int := o.getD 0
theorem zwx (hp : cT rows) (h1 : dG rows) (n f : Bool) {a b : Int} (hl : rows.length < 1000000) (ha : -2147483648 <= a /\ a <= 2147483647) (hb : -2147483648 <= b /\ b <= 2147483647) :
 PCall qa 98 [.sl n f (bB rows), .int .i32 a, .int .i32 b] fun v => v = jX (l8 rows a b) := by
 refine zwp _ _ _ _ _ (fun x8 x9 i => (0 <= i /\ i <= rows.length) /\ x8 = pD ((rows.take i.toNat).foldl (Rows.cmpS rows a b) none) /\ x9 = ((rows.take i.toNat).foldl (Rows.cmpS rows a b) none).isSome) (fun _ _ i => rows.length - i.toNat) ?_;unfold zlj;refine ⟨⟨rfl, ⟨qo _, by omega⟩, rfl, rfl⟩, ?_⟩;rintro x8 x9 i ⟨⟨i0, i1⟩, h8, h9⟩;have wa : i64.wrap a = a := aF (by omega) (by omega);have wb : i64.wrap b = b := aF (by omega) (by omega);rw [wa, wb];refine aC (fun hc => ?_) (fun hc => ?_)
 ·simp only [aB, iL] at hc;have hi : i.toNat < rows.length := by omega
  have hw : i64.wrap (i + 1) = i + 1 := aF (by omega) (by omega);have hg : (bB rows).getD i.toNat [] = mU rows[i.toNat] := cG hi;have hix : aI (bB rows) i 5 := bT oL i0 (by omega);have hmem := qk hi
  have hst : (rows.take (i + 1).toNat).foldl (Rows.cmpS rows a b) none = Rows.cmpS rows a b ((rows.take i.toNat).foldl (Rows.cmpS rows a b) none) rows[i.toNat] := by
   rw [show (i + 1).toNat = i.toNat + 1 by omega, cZ hi, qbc]; rfl
  rw [hw];generalize (rows.take i.toNat).foldl (Rows.cmpS rows a b) none = o at *;generalize rows[i.toNat] = x at *
  have skip : dR rows a b x = false -> (0 <= i + 1 /\ i + 1 <= rows.length) /\ x8 = pD ((rows.take (i + 1).toNat).foldl (Rows.cmpS rows a b) none) /\ x9 = ((rows.take (i + 1).toNat).foldl (Rows.cmpS rows a b) none).isSome := fun h => by
   rw [hst]; unfold Rows.cmpS; rw [h]; exact ⟨⟨by omega, by omega⟩, h8, h9⟩
  have hmu : rows.length - (i + 1).toNat < rows.length - i.toNat := by omega
  refine ⟨hix, x.kind, by rw [hg]; rfl, aC (fun c1 => ?_) (fun c1 => ?_)⟩
  ·simp only [bne_iff_ne, ne_eq] at c1;exact ⟨rfl, skip (by simp [dR, c1]), hmu⟩
  simp only [bne_iff_ne, ne_eq, qi] at c1;refine ⟨hix, x.a, by rw [hg]; rfl, aC (fun c2 => ?_) (fun c2 => ?_)⟩
  ·simp only [bne_iff_ne, ne_eq] at c2;exact ⟨rfl, skip (by simp [dR, c2]), hmu⟩
  simp only [bne_iff_ne, ne_eq, qi] at c2;refine ⟨hix, x.b, by rw [hg]; rfl, aC (fun c3 => ?_) (fun c3 => ?_)⟩
  ·simp only [qg, bne_iff_ne, ne_eq, beq_iff_eq] at c3;refine ⟨rfl, skip ?_, hmu⟩;rcases c3 with c3 | c3
   ·simp [dR, c3]
   ·simp [dR, c3]
  simp only [qg, bne_iff_ne, ne_eq, beq_iff_eq, not_or, qi] at c3;obtain ⟨hpx, hfr⟩ := u7 h1 hmem c1;have wf : i32.wrap x.fr = x.fr := cS (by omega) (by omega);refine ⟨hix, x.fr, by rw [hg]; rfl, ?_⟩;rw [wf];refine (uP hp n f x.fr hl (by omega)).mono ?_;rintro _ rfl;rw [hpx, c2, c3.1];refine ⟨_, rfl, rfl, _, rfl, _, rfl, _, rfl, _, rfl, _, rfl, _, rfl, bD (by simp [c3.2]) ?_⟩;refine (zwn hp n f x.fr hl (by omega)).mono ?_;rintro _ rfl;refine ⟨_, rfl, ?_⟩;cases ho : dQ rows x.fr with
  | true => exact bA (by simp) ⟨rfl, skip (by simp [dR, ho]), hmu⟩
  | false =>
    have hcb : dR rows a b x = true := by simp [dR, c1, c2, c3.1, c3.2, ho]
    cases o with
    | none =>
      simp only [qbl] at h9;refine bD (by rw [h9]; rfl) ⟨rfl, ⟨⟨by omega, by omega⟩, ?_, ?_⟩, hmu⟩
      ·rw [hst]; simp [Rows.cmpS, hcb, pD]
      ·rw [hst]; simp [Rows.cmpS, hcb]
    | some r =>
      simp only [qbl] at h9;simp only [pD, Option.getD] at h8;refine aC (fun c4 => ?_) (fun c4 => ?_)
      ·rw [h9, h8] at c4;simp at c4;refine ⟨rfl, ⟨⟨by omega, by omega⟩, ?_, ?_⟩, hmu⟩
       ·rw [hst]; simp [Rows.cmpS, hcb, pD, c4]
       ·rw [hst]; simp [Rows.cmpS, hcb, c4]
      ·rw [h9, h8] at c4;simp at c4;refine ⟨rfl, ⟨⟨by omega, by omega⟩, ?_, ?_⟩, hmu⟩
       ·have hlt : ¬ x.fr < r := by omega
        rw [hst, h8]; simp [Rows.cmpS, hcb, pD, hlt]
       ·rw [hst, h9]; simp [Rows.cmpS, hcb]; split <;> rfl
 ·simp only [aB, iL] at hc;rw [ql (by omega)] at h8 h9;unfold l8;rw [h8, h9];cases rows.foldl (Rows.cmpS rows a b) none <;> rfl
theorem zwy (hp : cT rows) (h1 : dG rows) (n f : Bool) {a b : Int} (hl : rows.length < 1000000) (ha : -2147483648 <= a /\ a <= 2147483647) (hb : -2147483648 <= b /\ b <= 2147483647) :
 PCall qa 76 [.sl n f (bB rows), .int .i32 a, .int .i32 b] fun v => v = jX (eR rows a b) := by
 refine zwq _ _ _ _ _ ?_; unfold zlk;refine (zww ha hb).mono ?_;rintro _ rfl;unfold eR;cases d8 a b with
 | some r => exact ⟨_, rfl, rfl, _, rfl, _, rfl, _, rfl, _, rfl, bD rfl rfl⟩
 | none =>
   refine ⟨_, rfl, rfl, _, rfl, _, rfl, _, rfl, _, rfl, bA (by simp) ?_⟩;refine (zwx hp h1 n f hl ha hb).mono ?_;rintro _ rfl;cases l8 rows a b with
   | none => exact ⟨_, rfl, rfl, _, rfl, _, rfl, _, rfl, _, rfl, rfl⟩
   | some r => exact ⟨_, rfl, rfl, _, rfl, _, rfl, _, rfl, _, rfl, rfl⟩
theorem zwz {st : CSt} (h0 : st.s = none -> st.P = []) (h1 : ∀ a, st.s = some a -> aD rows 1 a = 0) (h2 : ∀ m ∈ st.M, aD rows 1 m ≠ 0) :
 (cW st = -1 /\ ∀ k (h : k < st.out.length), aD rows 1 st.out[k] ≠ 0) ∨ (∃ k : Nat, cW st = (k : Int) /\ ∃ h : k < st.out.length, aD rows 1 st.out[k] = 0 /\ ∀ j (hj : j < st.out.length), k < j -> aD rows 1 st.out[j] ≠ 0) := by
 cases hs : st.s with
 | none =>
   have hP := h0 hs;have ho : st.out = st.M := by simp [CSt.out, hs, hP]
   refine .inl ⟨by simp [cW, hs], fun k hk => h2 _ ?_⟩;have := qk hk;rw [<- ho]; exact this
 | some a =>
   have ho : st.out = st.P ++ a :: st.M := by simp [CSt.out, hs]
   refine .inr ⟨st.P.length, by simp [cW, hs], by rw [ho]; simp, ?_, fun j hj hlt => h2 _ ?_⟩
   ·simp only [ho, qaw (qp _), Nat.sub_self, List.getElem_cons_zero]; exact h1 a hs
   ·simp only [ho];rw [qaw (by omega), List.getElem_cons];rw [dif_neg (by omega)];exact qk _
theorem zw0 (n f n2 f2 : Bool) (hl : rows.length < 1000000) (L : List Int) (hr : R32 L) (hL : L.length < 1000000000000) :
 PCall qa 74 [.sl n f (bB rows), .sl n2 f2 (aA L)] fun v => ∃ x : Int, v = .int .i64 x /\ ((x = -1 /\ ∀ k (h : k < L.length), aD rows 1 L[k] ≠ 0) ∨ (∃ k : Nat, x = (k : Int) /\ ∃ h : k < L.length, aD rows 1 L[k] = 0 /\ ∀ j (hj : j < L.length), k < j -> aD rows 1 L[j] ≠ 0)) := by
 refine zwr _ _ _ _ _ _ (fun x => (-1 <= x /\ x < L.length) /\ ∀ j (hj : j < L.length), x < j -> aD rows 1 L[j] ≠ 0) (fun x => (x + 1).toNat) ?_;unfold zll;have hw : i64.wrap ((aA L).length - 1) = L.length - 1 := by rw [bG]; exact aF (by omega) (by omega)
 rw [hw];refine ⟨⟨rfl, ⟨by omega, by omega⟩, fun j hj h => by omega⟩, ?_⟩;rintro x ⟨⟨x0, x1⟩, hx⟩;refine aC (fun hc => ?_) (fun hc => ?_)
 ·simp only [aB, ge_iff_le] at hc;have hi : x.toNat < L.length := by omega
  obtain ⟨g1, g2⟩ := fX hc hi;have hw1 : i64.wrap (x - 1) = x - 1 := aF (by omega) (by omega);refine ⟨g1, L[x.toNat], by rw [g2]; rfl, ?_⟩;refine (uO n f _ hl (hr _ (qk hi))).mono ?_;rintro _ rfl;refine ⟨_, rfl, ?_⟩;rw [hw1];refine aC (fun h0 => ?_) (fun h0 => ?_)
  ·simp only [beq_iff_eq] at h0;exact ⟨x, rfl, .inr ⟨x.toNat, by omega, hi, h0, fun j hj hlt => hx j hj (by omega)⟩⟩
  ·simp only [beq_iff_eq] at h0;refine ⟨rfl, ⟨⟨by omega, by omega⟩, fun j hj hlt => ?_⟩, by dsimp only; omega⟩;by_cases he : j = x.toNat
   ·subst he; exact h0
   ·exact hx j hj (by omega)
 ·simp only [aB, ge_iff_le] at hc;exact ⟨-1, rfl, .inl ⟨rfl, fun k hk => hx k hk (by omega)⟩⟩
theorem zw1 (n f n2 f2 : Bool) (hl : rows.length < 1000000) (L : List Int) (hr : R32 L) (hL : L.length < 1000000000000) (h0 : 0 < L.length) (k : Int) {r : Int} (hx : -2147483648 <= r /\ r <= 2147483647) :
 PCall qa 75 [.sl n f (bB rows), .sl n2 f2 (aA L), .int .i64 k, .int .i32 r] fun v => v = .bool (decide (k = L.length - 1) || decide (dB (aD rows 1) L < aD rows 1 r)) := by
 refine zws _ _ _ _ _ _ _ _ ?_; unfold zlm;have hw : i64.wrap ((aA L).length - 1) = L.length - 1 := by rw [bG]; exact aF (by omega) (by omega)
 rw [hw];refine aC (fun hc => ?_) (fun hc => ?_)
 ·simp only [beq_iff_eq] at hc; simp [hc]
 ·simp only [beq_iff_eq] at hc;have hi : ((L.length : Int) - 1).toNat < L.length := by omega
  obtain ⟨g1, g2⟩ := fX (l := L) (i := (L.length : Int) - 1) (by omega) hi;refine ⟨g1, L[((L.length : Int) - 1).toNat], by rw [g2]; rfl, ?_⟩;refine (uO n f _ hl (hr _ (qk hi))).mono ?_;rintro _ rfl;refine ⟨_, rfl, ?_⟩;refine (uO n f _ hl hx).mono ?_;rintro _ rfl;refine ⟨_, rfl, ?_⟩
  have : dB (aD rows 1) L = aD rows 1 L[((L.length : Int) - 1).toNat] := by
   unfold dB;rw [qax, qac (by omega)];simp only;congr 2;omega
  rw [this]; simp [hc]
theorem zw2 (hp : cT rows) (h1 : dG rows) (hs0 : ∀ (d : List Int) a, (bH rows d).s = some a -> aD rows 1 a = 0) (n f n2 f2 : Bool) (hl : rows.length < 1000000) (L : List Int) (hr : R32 L) (hL : L.length < 1000000000000) :
 PCall qa 51 [.sl n f (bB rows), .sl n2 f2 (aA L)] fun x => ∃ n f, x = .sl n f (aA (fY rows L)) := by
 refine zwt _ _ _ _ _ _ (fun i _ s => (0 <= i /\ i <= L.length) /\ s = aA (bH rows (L.take i.toNat)).out) (fun i _ _ => L.length - i.toNat) ?_;unfold zln;refine ⟨⟨rfl, ⟨qo _, by omega⟩, rfl⟩, ?_⟩;rintro i n0 _ ⟨⟨i0, i1⟩, rfl⟩;refine aC (fun hc => ?_) (fun hc => ?_)
 ·simp only [aB, bG] at hc;have hi : i.toNat < L.length := by omega
  obtain ⟨g1, g2⟩ := fX i0 hi;have hx := hr _ (qk hi);have hw : i64.wrap (i + 1) = i + 1 := aF (by omega) (by omega);rw [hw];have hlen := zbm rows (L.take i.toNat);have hrng := zbn h1 (L.take i.toNat);have hnz := zjv (rows := rows) (d := L.take i.toNat);have hnP := rP (rows := rows) (d := L.take i.toNat);have hsk := hs0 (L.take i.toNat);rw [qn] at hlen;unfold fY at hlen hrng
  have next : ∀ st2, bZ rows (bH rows (L.take i.toNat)) L[i.toNat] = st2 -> (0 <= i + 1 /\ i + 1 <= L.length) /\ aA st2.out = aA (bH rows (L.take (i + 1).toNat)).out := fun st2 he => by
   rw [show (i + 1).toNat = i.toNat + 1 by omega, cZ hi, fZ, he]; exact ⟨⟨by omega, by omega⟩, rfl⟩
  generalize bH rows (L.take i.toNat) = st at *;have hmu : L.length - (i + 1).toNat < L.length - i.toNat := by omega
  have hr2 : R32 st.out := fun y hy => by
   rcases hrng y hy with h | h
   ·exact hr y (qag h)
   ·omega
  have hsz : aQ [[PV.int .i32 L[i.toNat]]] 1 /\ ((aA st.out).length + 1) * 4 <= 140737488355328 := ⟨dL [_], by rw [bG]; omega⟩
  have app : bZ rows st L[i.toNat] = cE (aD rows 1) st L[i.toNat] -> (0 <= i + 1 /\ i + 1 <= L.length) /\ aA st.out ++ [[PV.int .i32 L[i.toNat]]] = aA (bH rows (L.take (i + 1).toNat)).out := fun he => by
   obtain ⟨k1, k2⟩ := next _ he
   rw [l9, fQ] at k2;exact ⟨k1, k2⟩
  refine (zw0 n f n0 false hl st.out hr2 (by omega)).mono ?_;rintro _ ⟨x, rfl, hst⟩
  have hxs : x = cW st := by
   rcases zwz hnP hsk hnz with ⟨e, h⟩ | ⟨k, e, hk, h, h'⟩
   ·rcases hst with ⟨e2, _⟩ | ⟨k2, e2, hk2, q, _⟩
    ·omega
    ·exact absurd q (h k2 hk2)
   ·rcases hst with ⟨e2, q⟩ | ⟨k2, e2, hk2, q, q'⟩
    ·exact absurd h (q k hk)
    ·rcases Nat.lt_trichotomy k k2 with hlt | rfl | hlt
     ·exact absurd q (h' k2 hk2 hlt)
     ·omega
     ·exact absurd h (q' k hk hlt)
  clear hst;subst hxs;refine ⟨_, rfl, rfl, aC (fun hf => ?_) (fun hf => ?_)⟩
  ·simp only [aB, ge_iff_le] at hf;cases hs : st.s with
   | none => simp [cW, hs] at hf
   | some a =>
     have hsi : cW st = st.P.length := by simp [cW, hs]
     have hol : st.out.length = st.P.length + 1 + st.M.length := by simp [CSt.out, hs]; omega
     refine ⟨g1, L[i.toNat], by rw [g2]; rfl, ?_⟩;refine (zw1 n f n0 false hl st.out hr2 (by omega) (by omega) (cW st) hx).mono ?_;rintro _ rfl
     have hfree : (decide (cW st = st.out.length - 1) || decide (dB (aD rows 1) st.out < aD rows 1 L[i.toNat])) = true ↔ (st.M = [] ∨ dB (aD rows 1) st.M < aD rows 1 L[i.toNat]) := by
      simp only [qg, aB];by_cases hM : st.M = []
      ·refine ⟨fun _ => .inl hM, fun _ => .inl ?_⟩;rw [hsi, hol, hM]; simp
      ·obtain ⟨D, m, hDm⟩ := (List.eq_nil_or_concat _).resolve_left hM
       have e : dB (aD rows 1) st.out = dB (aD rows 1) st.M := by
        have e2 : st.out = (st.P ++ a :: D) ++ [m] := by simp [CSt.out, hDm, hs]
        rw [e2, hDm, List.concat_eq_append, rO, rO]
       rw [e];refine or_congr ⟨fun h => ?_, fun h => absurd h hM⟩ Iff.rfl;rw [hsi, hol] at h;exact qq (by omega)
     refine ⟨_, rfl, rfl, aC (fun hfr => ?_) (fun hfr => ?_)⟩
     ·have hfr := hfree.1 hfr;have hat : st.out[st.P.length]'(by omega) = a := by simp [CSt.out, hs]
      obtain ⟨k1, k2⟩ := fX (l := st.out) (i := cW st) (by omega) (by omega);have hta : (cW st).toNat = st.P.length := by omega
      have k3 : (aA st.out).getD (cW st).toNat [] = [PV.int .i32 a] := by
       rw [k2]; simp only [hta, hat]
      have ha : -2147483648 <= a /\ a <= 2147483647 := hr2 a (by simp [CSt.out, hs]);refine ⟨k1, a, by rw [k3]; rfl, g1, L[i.toNat], by rw [g2]; rfl, ?_⟩;refine (zwy hp h1 n f hl ha hx).mono ?_;rintro _ rfl;cases hpc : eR rows a L[i.toNat] with
      | some c =>
        refine ⟨_, rfl, rfl, _, rfl, _, rfl, _, rfl, _, rfl, bD rfl ⟨k1, ⟨rfl, by rw [k3]; exact qp _⟩, rfl, ?_, by dsimp only; omega⟩⟩;rw [k3, hta]
        have he : bZ rows st L[i.toNat] = ⟨st.P, some c, st.M⟩ := by
         unfold bZ; rw [hs]; simp only; rw [if_pos hfr, hpc]
        have e2 : (aA st.out).set st.P.length [PV.int .i32 c] = aA (CSt.out ⟨st.P, some c, st.M⟩) := by
         simp [CSt.out, hs, aA]
        obtain ⟨q1, q2⟩ := next _ he
        exact ⟨q1, e2.trans q2⟩
      | none =>
        have he : bZ rows st L[i.toNat] = cE (aD rows 1) st L[i.toNat] := by
         unfold bZ; rw [hs]; simp only; rw [if_pos hfr, hpc]
        exact ⟨_, rfl, rfl, _, rfl, _, rfl, _, rfl, _, rfl, bA (by simp) ⟨g1, L[i.toNat], by rw [g2]; rfl, hsz, rfl, app he, by dsimp only; omega⟩⟩
     ·have hfr := fun h => hfr (hfree.2 h)
      have he : bZ rows st L[i.toNat] = cE (aD rows 1) st L[i.toNat] := by
       unfold bZ; rw [hs]; simp only; rw [if_neg hfr]
      exact ⟨g1, L[i.toNat], by rw [g2]; rfl, hsz, rfl, app he, by dsimp only; omega⟩
  ·simp only [aB, ge_iff_le] at hf
   have hs : st.s = none := by
    cases hs : st.s with
    | none => rfl
    | some a => exact absurd (by simp [cW, hs]) hf
   have he : bZ rows st L[i.toNat] = cE (aD rows 1) st L[i.toNat] := by
    unfold bZ; rw [hs]
   exact ⟨g1, L[i.toNat], by rw [g2]; rfl, hsz, rfl, app he, by dsimp only; omega⟩
 ·simp only [aB, bG] at hc;rw [ql (by omega)];exact ⟨_, _, rfl⟩
theorem zw3 (hp : cT rows) (h1 : dG rows) (hk : dY rows) (hs0 : ∀ (d : List Int) a, (bH rows d).s = some a -> aD rows 1 a = 0) (n f n2 f2 : Bool) (hl : rows.length < 1000000) (L : List Int) (hr : R32 L) (hL : L.length < 1000000) :
 PCall qa 24 [.sl n f (bB rows), .sl n2 f2 (aA L)] fun x => ∃ n f, x = .sl n f (aA (dC rows L)) := by
 refine zwu _ _ _ _ _ _ ?_; unfold zlo;refine (zuc hp hk n f n2 f2 hl L hr hL).mono ?_;rintro _ ⟨n1, f1, rfl⟩;refine ⟨_, _, _, rfl, ?_⟩;refine (zw2 hp h1 hs0 n f n1 f1 hl _ (zbh hk hp hr) (zjn hk hL)).mono ?_;rintro _ ⟨n3, f3, rfl⟩;exact ⟨_, _, _, rfl, _, _, rfl⟩
end
end Go.Eng
namespace Go.Eng.Rows
open Go Go.Eng Go.Eng.Trie Go.Eng.Srt
def zw4 (rows : List Row) (a b : Int) : Bool := rows.all fun x => !decide (x.kind = 1) || (decide (x.to < a) || decide (b < x.fr))
theorem zw5 {rows : List Row} {a b r : Int} (h : zw4 rows a b = true) (h1 : a <= r) (h2 : r <= b) : aD rows 1 r = 0 := by
 unfold aD;cases hf : bY rows 1 r with
 | none => rfl
 | some p =>
   obtain ⟨x, hx, hk, _, _, f1, f2, _⟩ := jR hf;have := List.all_eq_true.1 h x hx;simp only [hk, decide_true, qbk, qbj, qg, aB] at this;omega
end Go.Eng.Rows
namespace Go.Eng
open Go Go.Proofs Go.Eng.Rows Go.Eng.Trie
theorem zw6 : ∀ r, bO r = true -> aD tab 1 r = 0 := fun r hs => by
 simp only [bO, qc, aB] at hs;exact zw5 (a := 44032) (b := 55203) (by kernel_rfl) hs.1 hs.2
theorem zw7 : ∀ (d : List Int) a, (bH tab d).s = some a -> aD tab 1 a = 0 := zwl u4 zw6
end Go.Eng
namespace Go.Eng
open Go Go.Proofs Go.Eng.Rows Go.Eng.Trie Go.Eng.Srt
end Go.Eng
namespace Go.Eng
open Go Go.Proofs Go.Eng.Rows Go.Eng.Trie Go.Eng.Srt
abbrev TxG := List (Bool × Bool × List Int)
def jP (k : Bool × Bool × List Int) : PtF := (0, k.1, k.2.1, k.2.2)
theorem kZ (q : PtF) : aQ [pT q] 2 := mP (enc := pT) zcf [q]
theorem lB (Q : List PtF) (q : PtF) : Q.map pT ++ [pT q] = (Q ++ [q]).map pT := by rw [qm]; rfl
theorem mB {i : Nat} (h : i < 1000000000000) : i64.wrap ((i : Int) + 1) = ((i + 1 : Nat) : Int) := by rw [aF (by omega) (by omega)]; omega
theorem zlp {K : TxG} {i : Nat} (h : i < K.length) : aI (K.map eF) (i : Int) 1 /\ (K.map eF).getD i [] = eF K[i] := ⟨bT vE (by omega) (by omega), cG h⟩
theorem pF {Q : List PtF} {i : Nat} (h : i < Q.length) : aI (Q.map pT) (i : Int) 2 /\ (Q.map pT).getD i [] = pT Q[i] := ⟨bT zcf (by omega) (by omega), cG h⟩
theorem zw8 (rows : List Row) {K : TxG} {pl : List Int} (h : K.map (fun q => q.2.2) = cR rows (dC rows pl) 0) (Q : List PtF) : (Q ++ K.map jP).map pE = Q.map pE ++ fF rows pl := by
 rw [qm, List.map_map];congr 1;unfold fF;rw [<- h, List.map_map];rfl
section
variable {rows : List Row} {v : PV}
def vH (rows : List Row) (Q : List PtF) (pl : List Int) (Q' : List PtF) : Prop := Q'.map pE = Q.map pE ++ fF rows pl /\ (∀ q ∈ Q', q ∈ Q ∨ q.2.2.2.length <= 768 * pl.length) /\ Q'.length <= Q.length + 768 * pl.length
theorem zlq (hk : dY rows) {K : TxG} {pl : List Int} (h : K.map (fun q => q.2.2) = cR rows (dC rows pl) 0) (Q : List PtF) : vH rows Q pl (Q ++ K.map jP) := by
 have hl := congrArg qz h;rw [qb] at hl;have h1 := vC rows (dC rows pl);have h2 := u9 hk pl;refine ⟨zw8 rows h Q, fun q hq => ?_, by rw [qd, qb]; omega⟩;rcases List.mem_append.1 hq with hq | hq
 ·exact .inl hq
 ·obtain ⟨k, hk, rfl⟩ := List.mem_map.1 hq;right;have : k.2.2 ∈ cR rows (dC rows pl) 0 := by rw [<- h]; exact List.mem_map.2 ⟨k, hk, rfl⟩
  have := zvu this;show k.2.2.length <= _;omega
theorem zw9 (hts : eE rows) (hp : cT rows) (h1 : dG rows) (hk : dY rows) (hv : d7 rows v) (n2 n1 : Bool) (Q : List PtF) (pl : List Int) (hr : R32 pl) (hl : pl.length < 10000) (hQ : Q.length < 100000000) :
 ACall qa 48 [.box 0 0, .box 1 0, .box 2 0] [.box [.pv v], .box [.own 3], .box [.own 4], .sl (21, 1) false n2 (aA pl), .sl (52, 2) false n1 (Q.map pT)] fun r h' =>
  ∃ n' Q', r = .tup [] /\ h' = [.box [.pv v], .box [.pv (.sl true true [])], .box [.own 4], .dead, .sl (52, 2) true n' (Q'.map pT)] /\ vH rows Q pl Q' := by
 have c1 := fun f => zjw hp h1 hk hv n2 f pl hr (by omega);have hnl := u9 hk pl;have c2 := fun n f => zk0 hts hv n f (dC rows pl) (zbs hp h1 hk hr) (by omega);have hcc := vC rows (dC rows pl);obtain ⟨tc, tg, tj, tf, tp, made, sec, rfl, ht', hm⟩ := hv
 refine zwb _ _ _ _ _ _ _ n2 false n1 false false _ _
  (fun _ _ s9 x10 x11 _ s4 => ∃ (i : Nat) (K : TxG), x11 = i /\ x10 = K.length /\ i <= K.length /\ s9 = K.map eF /\ K.map (fun q => q.2.2) = cR rows (dC rows pl) 0 /\ s4 = (Q ++ (K.take i).map jP).map pT) (fun _ _ _ x10 x11 _ _ => (x10 - x11).toNat) ?_
 unfold zla;refine (c1 false).mono ?_;rintro _ ⟨n3, f3, rfl⟩;refine ⟨_, _, _, rfl, (c2 n3 f3).mono ?_⟩;rintro _ ⟨n4, K, rfl, hK⟩;refine ⟨_, _, _, rfl, ⟨rfl, 0, K, rfl, by rw [qb], by omega, rfl, hK, by rw [qbh, List.map_nil, qae]⟩, ?_⟩;clear hK K;rintro n9 f9 _ _ _ n5 _ ⟨i, K, rfl, rfl, i1, rfl, hK, rfl⟩;have hKl := congrArg qz hK;rw [qb] at hKl;rw [qh, mB (by omega)];refine aC (fun hc => ?_) (fun hc => ?_)
 ·simp only [aB] at hc;have hi : i < K.length := by omega
  obtain ⟨g1, g2⟩ := zlp hi;refine ⟨g1, K[i].1, K[i].2.1, aA K[i].2.2, by rw [g2]; rfl, ⟨kZ (jP K[i]), by rw [qb, qd, qb, qn]; omega⟩, rfl, ⟨i + 1, K, rfl, rfl, by omega, rfl, hK, ?_⟩, by dsimp only; omega⟩;have e : (K.take (i + 1)).map jP = (K.take i).map jP ++ [jP K[i]] := by rw [cZ hi, qm]; rfl
  rw [e, <- qr];exact lB _ (jP K[i])
 ·simp only [aB] at hc;rw [ql (by omega)];exact ⟨n5, _, rfl, rfl, zlq hk hK Q⟩
theorem vI {L : List Int} {i : Nat} (h : i < L.length) : L.drop i = L.getD i 0 :: L.drop (i + 1) := by rw [qw h, vD 0 h]
def PtOK (m : Nat) (Q : List PtF) : Prop := ∀ q ∈ Q, q.2.2.2.length <= m
theorem PtOK.app {m : Nat} {Q Q' : List PtF} {pl : List Int} (h : PtOK m Q) (ha : vH rows Q pl Q') (hm : 768 * pl.length <= m) : PtOK m Q' := fun q hq => by
 rcases ha.2.1 q hq with h1 | h1
 ·exact h q h1
 ·omega
theorem PtOK.snoc {m : Nat} {Q : List PtF} (h : PtOK m Q) {q : PtF} (hq : q.2.2.2.length <= m) : PtOK m (Q ++ [q]) := fun x hx => by
 rcases List.mem_append.1 hx with hx | hx
 ·exact h x hx
 ·rw [List.mem_singleton.1 hx]; exact hq
def j6 : PtF := (1, true, true, [])
def d9 : PtF := (2, true, true, [])
theorem zlr {Q : List PtF} (h : Q = [] ∨ ∃ q, Q.getLast? = some q /\ q.1 ≠ 2) : j5 (Q.map pE) = (Q ++ [d9]).map pE := by
 unfold j5;rw [qbe];rcases h with rfl | ⟨q, h, hq⟩
 ·rfl
 ·rw [h];show (if (pE q).1 = 2 then _ else _) = _;rw [if_neg (show ¬(pE q).1 = 2 from hq), qm]; rfl
theorem zls {Q : List PtF} {q : PtF} (h : Q.getLast? = some q) (hq : q.1 = 2) : j5 (Q.map pE) = Q.map pE := by
 unfold j5;rw [qbe, h];show (if (pE q).1 = 2 then _ else _) = _;rw [if_pos (show (pE q).1 = 2 from hq)]
theorem zlt {α : Type} {Q : List α} (h : 0 < Q.length) : Q.getLast? = some (Q[Q.length - 1]) := by
 rw [qax, qac (by omega)]
def eT (rows : List Row) (L : List Int) (ok : List PtF -> PV -> Prop) (e4 e7 : PV) (x : PV) : Prop := match prs rows [] [] L with
 | some P => if 1000 < P.length then x = e7 else ∃ Q, ok Q x /\ Q.map pE = P /\ PtOK (768 * L.length) Q
 | none => x = e4
theorem zxa (hts : eE rows) (hp : cT rows) (h1 : dG rows) (hk : dY rows) (hv : d7 rows v) (n f : Bool) (L : List Int) (hr : R32 L) (hL : L.length < 10000) :
 PCall qa 18 [v, .sl n f (aA L)] (eT rows L (fun Q x => ∃ n, x = .tup [.agg [.sl n false (Q.map pT)], .int .i64 0]) (.tup [.agg [.sl true true []], .int .i64 4]) (.tup [.agg [.sl true true []], .int .i64 7])) := by
 have fl := fun n2 n1 Q pl hr hl hQ => zw9 hts hp h1 hk hv n2 n1 Q pl hr hl hQ;obtain ⟨tc, tg, tj, tf, tp, made, sec, rfl, ht', hm⟩ := hv
 refine zwc _ _ _ _ _ _ _ _ _ _
  (fun x _ s4 _ s5 => ∃ (i : Nat) (Q : List PtF) (pl : List Int), x = i /\ i <= L.length /\ s4 = Q.map pT /\ s5 = aA pl /\ prs rows [] [] L = prs rows (Q.map pE) pl (L.drop i) /\ Q.length + 768 * pl.length <= 769 * i /\ R32 pl /\ pl.length <= i /\ PtOK (768 * L.length) Q)
  (fun x _ _ _ _ => L.length - x.toNat) ?_
 unfold zlb;rw [show ((aA L).length : Int) = L.length by rw [bG]];refine ⟨⟨rfl, 0, [], [], rfl, by omega, rfl, rfl, rfl, by simp, fun x hx => by simp at hx, by simp, fun q hq => by simp at hq⟩, ?_⟩;rintro _ n4 _ n5 _ ⟨i, Q, pl, rfl, i1, rfl, rfl, hP, hB, hpl, hpi, hQ⟩;have hQl : Q.length <= 769 * i := by omega
 refine aC (fun hc => ?_) (fun hc => ?_)
 ·simp only [aB] at hc;have hi : i < L.length := by omega
  have e1 := mB (i := i) (by omega);have e2 := mB (i := i + 1) (by omega);have g := fS (l := L) (i := (i : Int)) (by omega) (by omega);rw [qh] at g;obtain ⟨g1, g2⟩ := g;have hd := vI hi;rw [hd] at hP;rw [e1, e2, qh];have hwr := fE hr i
  have plain1 : R32 (pl ++ [L.getD i 0]) := fun x hx => by
   rcases List.mem_append.1 hx with hx | hx
   ·exact hpl x hx
   ·rw [List.mem_singleton.1 hx]; exact hwr
  generalize hcc : L.getD i 0 = c at *;refine ⟨g1, c, by rw [g2]; rfl, ?_⟩;by_cases h42 : c = 42
  ·subst h42;refine bD rfl (bD rfl ?_);refine (fl n5 n4 Q pl hpl (by omega) (by omega)).mono ?_;rintro r h' ⟨n', Q', rfl, rfl, hA⟩;obtain ⟨hA1, hA2, hA3⟩ := id hA;refine ⟨(n', Q'.map pT), ⟨rfl, rfl⟩, ⟨trivial, trivial, trivial, trivial, trivial, trivial⟩, g1, 42, by rw [g2]; rfl, bA (by decide) ?_⟩;rw [rS, <- hA1] at hP;have hlq : ((Q'.map pT).length : Int) = Q'.length := by rw [qb]
   have V2 : (Q' = [] ∨ ∃ q, Q'.getLast? = some q /\ q.1 ≠ 2) -> prs rows [] [] L = prs rows ((Q' ++ [d9]).map pE) [] (L.drop (i + 1)) := fun hx => by rw [<- zlr hx]; exact hP
   have room : ((Q'.map pT).length + 1) * 32 <= 140737488355328 := by rw [qb]; omega
   have okS := (hQ.app hA (by omega)).snoc (q := d9) (by simp [d9]);dsimp only;rw [hlq];refine aC (fun h0 => ?_) (fun h0 => ?_)
   ·simp only [beq_iff_eq] at h0;have : Q' = [] := qq (by omega);exact ⟨⟨kZ d9, room⟩, rfl, ⟨i + 1, Q' ++ [d9], [], rfl, by omega, lB Q' d9, rfl, V2 (.inl this), by rw [qd, qe, qt]; omega, fun x hx => by simp at hx, by simp, okS⟩, by first | omega | (dsimp only; omega)⟩
   ·simp only [beq_iff_eq] at h0;have hpos : 0 < Q'.length := by omega
    have hlast := zlt hpos;have hw : i64.wrap ((Q'.length : Int) - 1) = ((Q'.length - 1 : Nat) : Int) := by rw [aF (by omega) (by omega)]; omega
    rw [hw, qh];obtain ⟨k1, k2⟩ := pF (Q := Q') (i := Q'.length - 1) (by omega);refine ⟨k1, Q'[Q'.length - 1].1, by rw [k2]; rfl, aC (fun h2 => ?_) (fun h2 => ?_)⟩
    ·simp only [bne_iff_ne, ne_eq] at h2;exact ⟨⟨kZ d9, room⟩, rfl, ⟨i + 1, Q' ++ [d9], [], rfl, by omega, lB Q' d9, rfl, V2 (.inr ⟨_, hlast, h2⟩), by rw [qd, qe, qt]; omega, fun x hx => by simp at hx, by simp, okS⟩, by first | omega | (dsimp only; omega)⟩
    ·simp only [bne_iff_ne, ne_eq, qi] at h2;rw [zls hlast h2] at hP;exact ⟨rfl, ⟨i + 1, Q', [], rfl, by omega, rfl, rfl, hP, by simp only [qt]; omega, fun x hx => by simp at hx, by simp, hQ.app hA (by omega)⟩, by first | omega | (dsimp only; omega)⟩
  ·refine bA (by simpa using h42) ?_
   by_cases h63 : c = 63
   ·subst h63;refine bD rfl ?_;refine (fl n5 n4 Q pl hpl (by omega) (by omega)).mono ?_;rintro r h' ⟨n', Q', rfl, rfl, hA⟩;obtain ⟨hA1, hA2, hA3⟩ := id hA;refine ⟨(n', Q'.map pT), ⟨rfl, rfl⟩, ⟨trivial, trivial, trivial, trivial, trivial, trivial⟩, g1, 63, by rw [g2]; rfl, bD (by decide) ?_⟩;rw [rT, <- hA1] at hP;exact ⟨⟨kZ j6, by dsimp only; rw [qb]; omega⟩, rfl, ⟨i + 1, Q' ++ [j6], [], rfl, by omega, lB Q' j6, rfl, by rw [hP, qm]; rfl, by rw [qd, qe, qt]; omega, fun x hx => by simp at hx, by simp, (hQ.app hA (by omega)).snoc (q := j6) (by simp [j6])⟩, by first | omega | (dsimp only; omega)⟩
   ·refine bA (by simpa using h63) ?_
    by_cases h92 : c = 92
    ·subst h92;refine bD rfl (aC (fun h => ?_) (fun h => ?_))
     ·simp only [beq_iff_eq] at h;rw [qaf (by omega), vF] at hP;unfold eT;rw [hP]
     ·simp only [beq_iff_eq] at h;have hi2 : i + 1 < L.length := by omega
      have k := fS (l := L) (i := ((i + 1 : Nat) : Int)) (by omega) (by omega);rw [qh] at k;obtain ⟨k1, k2⟩ := k;rw [vI hi2, vG] at hP;have hw2 := fE hr (i + 1);rw [qh];refine ⟨k1, _, by rw [k2]; rfl, ⟨dL [L.getD (i + 1) 0], by rw [bG]; omega⟩, rfl, ⟨i + 1 + 1, Q, pl ++ [L.getD (i + 1) 0], rfl, by omega, rfl, (fQ pl [L.getD (i + 1) 0]).symm, hP, by rw [qd, qe]; omega, fun x hx => ?_, by rw [qd, qe]; omega, hQ⟩, by first | omega | (dsimp only; omega)⟩
      rcases List.mem_append.1 hx with hx | hx
      ·exact hpl x hx
      ·rw [List.mem_singleton.1 hx]; exact hw2
    ·refine bA (by simpa using h92) ?_
     rw [pC h92 h42 h63] at hP;exact ⟨g1, c, by rw [g2]; rfl, ⟨dL [c], by rw [bG]; omega⟩, rfl, ⟨i + 1, Q, pl ++ [c], rfl, by omega, rfl, (fQ pl [c]).symm, hP, by rw [qd, qe]; omega, plain1, by rw [qd, qe]; omega, hQ⟩, by first | omega | (dsimp only; omega)⟩
 ·simp only [aB] at hc;have hil : i = L.length := by omega
  refine (fl n5 n4 Q pl hpl (by omega) (by omega)).mono ?_;rintro r h' ⟨n', Q', rfl, rfl, hA⟩;refine ⟨(n', Q'.map pT), ⟨rfl, rfl⟩, ⟨trivial, trivial, trivial, trivial, trivial, trivial⟩, ?_⟩;rw [hil, qaf (qp _), pB, <- hA.1] at hP;have hPl : (Q'.map pE).length = Q'.length := qb _;dsimp only;rw [show ((Q'.map pT).length : Int) = Q'.length by rw [qb]];refine aC (fun h => ?_) (fun h => ?_)
  ·simp only [aB, gt_iff_lt] at h;unfold eT;rw [hP];show ite _ _ _;rw [if_pos (by omega)]
  ·simp only [aB, gt_iff_lt] at h;unfold eT;rw [hP];show ite _ _ _;rw [if_neg (by omega)];exact ⟨Q', ⟨_, rfl⟩, rfl, hQ.app hA (by omega)⟩
end
section
variable {rows : List Row}
theorem vJ (r : Int) : (aD rows 5 r = 1) ↔ bP rows 5 r = true := by
 unfold aD bP;cases bY rows 5 r with
 | none => simp
 | some p => simp
theorem zlu (a : Int) : PCall qa 123 [.int .i64 a] fun x => x = .bool (cQ a) := by
 refine zvh _ ?_; unfold zkk cQ;have hd : ∀ x y : Int, (x == y) = decide (x = y) := fun x y => by by_cases h : x = y <;> simp [h]
 simp only [hd, qaz]
theorem zxb (a b : Int) : PCall qa 124 [.int .i64 a, .int .i64 b] fun x => x = .bool (nB a b) := by
 refine zvi _ _ ?_; unfold zkl nB;have hd : ∀ x y : Int, (x == y) = decide (x = y) := fun x y => by by_cases h : x = y <;> simp [h]
 simp only [hd];by_cases h9 : a = 9
 ·rw [if_pos (by simp [h9]), if_pos h9]; simp only [qaz]
 ·rw [if_neg (by simp [h9]), if_neg h9];by_cases h12 : a = 12 ∨ a = 10
  ·rw [if_pos (by simpa using h12), if_pos h12]
  ·rw [if_neg (by simpa using h12), if_neg h12]
   by_cases h13 : a = 13 ∨ a = 11
   ·rw [if_pos (by simpa using h13), if_pos h13]
   ·rw [if_neg (by simpa using h13), if_neg h13]
def pG (rows : List Row) (L : List Int) (x : Bool) (j : Nat) : Bool := if x = true then decide ((aX rows L 0 j).conj ≠ 0) else decide ((aX rows L 0 j).conj = 2)
theorem zxc (ht : eE rows) (L : List Int) (x : Bool) (j : Nat) : pG rows L x (j + 1) =
 if bQ rows (L.getD j 0) = 2 then x else if bQ rows (L.getD j 0) = 0 then false else if bQ rows (L.getD j 0) = 1 then pG rows L true j else pG rows L x j := by
 unfold pG;rw [zu3];rcases ht.conj (L.getD j 0) with h | h | h | h <;> rw [h]
 ·cases x <;> simp
 ·by_cases h0 : (aX rows L 0 j).conj = 0
  ·cases x <;> simp [h0]
  ·cases x <;> simp [h0]
 ·cases x <;> simp
 ·by_cases h0 : (aX rows L 0 j).conj = 0
  ·cases x <;> simp [h0]
  ·cases x <;> simp [h0]
def nJ (rows : List Row) (L : List Int) (j : Nat) : Bool := decide ((aX rows L 0 j).pict = 1)
theorem zxd (L : List Int) (j : Nat) : nJ rows L (j + 1) = if bP rows 5 (L.getD j 0) = true then true else if aL rows (L.getD j 0) ≠ 4 then false else nJ rows L j := by
 unfold nJ;rw [zj6];generalize L.getD j 0 = r;generalize (aX rows L 0 j).pict = p;by_cases h1 : bP rows 5 r = true
 ·rw [if_pos h1, if_pos h1]; rfl
 ·rw [if_neg h1, if_neg h1];by_cases h2 : aL rows r = 4
  ·by_cases h3 : p = 1
   ·simp [h2, h3]
   ·simp [h2, h3]
  ·by_cases h3 : aL rows r = 5
   ·by_cases h4 : p = 1 <;> simp [h3, h4]
   ·simp [h2, h3]
theorem zxe (ht : eE rows) (L : List Int) (k : Nat) : decide ((aX rows L 0 (k + 1)).pict = 2) = (decide (aL rows (L.getD k 0) = 5) && nJ rows L k) := by
 unfold nJ;rw [zj6];generalize L.getD k 0 = r;generalize (aX rows L 0 k).pict = p;by_cases h1 : bP rows 5 r = true
 ·have := (ht.pict _ h1).2;rw [if_pos h1]; simp [this]
 ·rw [if_neg h1];by_cases h3 : p = 1
  ·by_cases h5 : aL rows r = 5
   ·simp [h3, h5]
   ·by_cases h4 : aL rows r = 4 <;> simp [h3, h5, h4]
  ·simp [h3]
def rY (rows : List Row) (L : List Int) (x : Int) (j : Nat) : Bool := if x.tmod 2 = 1 then !(aX rows L 0 j).odd else (aX rows L 0 j).odd
theorem zxf (L : List Int) {x : Int} (h0 : 0 <= x) (j : Nat) : rY rows L x (j + 1) = if aL rows (L.getD j 0) = 6 then rY rows L (x + 1) j else decide (x.tmod 2 = 1) := by
 unfold rY;rw [zu4];rw [qaj h0, qaj (by omega : 0 <= x + 1)];generalize aL rows (L.getD j 0) = b;generalize (aX rows L 0 j).odd = o;by_cases h6 : b = 6
 ·rw [if_pos h6, h6];by_cases hx : x % 2 = 1
  ·rw [if_pos hx, if_neg (by omega)]; simp
  ·rw [if_neg hx, if_pos (by omega)]; simp
 ·rw [if_neg h6];by_cases hx : x % 2 = 1
  ·rw [if_pos hx]; simp [h6, hx]
  ·rw [if_neg hx]; simp [h6, hx]
variable (ht : eE rows) (n f n2 f2 : Bool) (hl : rows.length < 1000000) (L : List Int) (hr : R32 L) (hL : L.length < 1000000000000)
include ht hl hr hL
theorem zxg (k : Nat) (hk : k + 1 < L.length) : PCall qa 125 [.sl n f (bB rows), .sl n2 f2 (aA L), .int .i64 ((k + 1 : Nat) : Int)] fun x => x = .bool (decide (bQ rows (L.getD (k + 1) 0) = 2) && decide ((aX rows L 0 (k + 1)).conj = 2)) := by
 refine zvj _ _ _ _ _ _ _ (fun x j => (-1 <= j /\ j < L.length) /\ decide ((aX rows L 0 (k + 1)).conj = 2) = pG rows L x (j + 1).toNat) (fun _ j => (j + 1).toNat) ?_;unfold zkm;obtain ⟨g1, g2⟩ := fS (l := L) (i := ((k + 1 : Nat) : Int)) (by omega) (by omega);rw [show (((k + 1 : Nat) : Int)).toNat = k + 1 by omega] at g2 ⊢;refine ⟨g1, _, by rw [g2]; rfl, ?_⟩;refine (zku n f hl (fE hr _)).mono ?_;rintro _ rfl;refine ⟨_, rfl, aC (fun hc => ?_) (fun hc => ?_)⟩
 ·simp only [bne_iff_ne, ne_eq] at hc;rw [decide_eq_false hc, qam]
 ·simp only [bne_iff_ne, ne_eq, qi] at hc;rw [hc];have hw : i64.wrap (((k + 1 : Nat) : Int) - 1) = (k : Int) := by rw [aF (by omega) (by omega)]; omega
  rw [hw];refine ⟨⟨rfl, ⟨by omega, by omega⟩, by rw [show ((k : Int) + 1).toNat = k + 1 by omega]; rfl⟩, ?_⟩;rintro x j ⟨⟨j0, j1⟩, he⟩;simp only [decide_true, qab];rw [he];refine aC (fun h => ?_) (fun h => ?_)
  ·simp only [aB, ge_iff_le] at h;obtain ⟨g1, g2⟩ := fS (l := L) (i := j) h (by omega);refine ⟨g1, _, by rw [g2]; rfl, ?_⟩;have hs := zxc ht L x j.toNat;rw [show j.toNat + 1 = (j + 1).toNat by omega] at hs;have hwj : i64.wrap (j - 1) = j - 1 := aF (by omega) (by omega);rw [hwj];refine (zku n f hl (fE hr _)).mono ?_;rintro _ rfl;refine ⟨_, rfl, aC (fun h2 => ?_) (fun h2 => aC (fun h0 => ?_) (fun h0 => aC (fun h1 => ?_) (fun h1 => ?_)))⟩
   ·simp only [beq_iff_eq] at h2;rw [hs, if_pos h2]
   ·simp only [beq_iff_eq] at h2 h0;rw [hs, if_neg h2, if_pos h0]
   ·simp only [beq_iff_eq] at h2 h0 h1;rw [if_neg h2, if_neg h0, if_pos h1] at hs;exact ⟨rfl, ⟨⟨by omega, by omega⟩, by rw [hs, show (j - 1 + 1).toNat = j.toNat by omega]⟩, by first | omega | (dsimp only; omega)⟩
   ·simp only [beq_iff_eq] at h2 h0 h1;rw [if_neg h2, if_neg h0, if_neg h1] at hs;exact ⟨rfl, ⟨⟨by omega, by omega⟩, by rw [hs, show (j - 1 + 1).toNat = j.toNat by omega]⟩, by first | omega | (dsimp only; omega)⟩
  ·simp only [aB, ge_iff_le] at h;rw [show (j + 1).toNat = 0 by omega];unfold pG;cases x <;> rfl
theorem zxh (k : Nat) (hk : k + 1 < L.length) : PCall qa 126 [.sl n f (bB rows), .sl n2 f2 (aA L), .int .i64 ((k + 1 : Nat) : Int)] fun x => x = .bool (bP rows 5 (L.getD (k + 1) 0) && decide ((aX rows L 0 (k + 1)).pict = 2)) := by
 refine zvk _ _ _ _ _ _ _ (fun j => (-1 <= j /\ j < L.length) /\ nJ rows L k = nJ rows L (j + 1).toNat) (fun j => (j + 1).toNat) ?_;unfold zkn;rw [zxe ht];obtain ⟨g1, g2⟩ := fS (l := L) (i := ((k + 1 : Nat) : Int)) (by omega) (by omega);rw [show (((k + 1 : Nat) : Int)).toNat = k + 1 by omega] at g2 ⊢;refine ⟨g1, _, by rw [g2]; rfl, ?_⟩;refine (l5 n f 5 _ hl (fE hr _)).mono ?_;rintro _ rfl;refine ⟨_, rfl, aC (fun hc => ?_) (fun hc => ?_)⟩
 ·simp only [bne_iff_ne, ne_eq, vJ] at hc;rw [Bool.eq_false_iff.2 hc, qam]
 simp only [bne_iff_ne, ne_eq, qi, vJ] at hc;rw [hc];have hw : i64.wrap (((k + 1 : Nat) : Int) - 1) = (k : Int) := by rw [aF (by omega) (by omega)]; omega
 have hw2 : i64.wrap (((k + 1 : Nat) : Int) - 2) = (k : Int) - 1 := by rw [aF (by omega) (by omega)]; omega
 rw [hw, hw2];obtain ⟨k1, k2⟩ := fS (l := L) (i := (k : Int)) (by omega) (by omega);refine ⟨k1, _, by rw [k2]; rfl, ?_⟩;rw [show ((k : Int)).toNat = k by omega];refine (nC n f hl (fE hr _)).mono ?_;rintro _ rfl;refine ⟨_, rfl, aC (fun h5 => ?_) (fun h5 => ?_)⟩
 ·simp only [bne_iff_ne, ne_eq] at h5;rw [decide_eq_false h5, qam, Bool.and_false]
 simp only [bne_iff_ne, ne_eq, qi] at h5;rw [h5];simp only [decide_true, qab];refine ⟨⟨rfl, ⟨by omega, by omega⟩, by rw [show ((k : Int) - 1 + 1).toNat = k by omega]⟩, ?_⟩;rintro j ⟨⟨j0, j1⟩, he⟩;rw [he];refine aC (fun h => ?_) (fun h => ?_)
 ·simp only [aB, ge_iff_le] at h;obtain ⟨g1, g2⟩ := fS (l := L) (i := j) h (by omega);refine ⟨g1, _, by rw [g2]; rfl, ?_⟩;have hs := zxd (rows := rows) L j.toNat;rw [show j.toNat + 1 = (j + 1).toNat by omega] at hs;have hwj : i64.wrap (j - 1) = j - 1 := aF (by omega) (by omega);rw [hwj];refine (l5 n f 5 _ hl (fE hr _)).mono ?_;rintro _ rfl;refine ⟨_, rfl, aC (fun h2 => ?_) (fun h2 => ?_)⟩
  ·simp only [beq_iff_eq, vJ] at h2;rw [hs, if_pos h2]
  ·simp only [beq_iff_eq, vJ] at h2;refine ⟨g1, _, by rw [g2]; rfl, ?_⟩;refine (nC n f hl (fE hr _)).mono ?_;rintro _ rfl;refine ⟨_, rfl, aC (fun h4 => ?_) (fun h4 => ?_)⟩
   ·simp only [bne_iff_ne, ne_eq] at h4;rw [hs, if_neg h2, if_pos h4]
   ·simp only [bne_iff_ne, ne_eq, qi] at h4;rw [if_neg h2, if_neg (fun h => h h4)] at hs;exact ⟨rfl, ⟨⟨by omega, by omega⟩, by rw [hs, show (j - 1 + 1).toNat = j.toNat by omega]⟩, by first | omega | (dsimp only; omega)⟩
 ·simp only [aB, ge_iff_le] at h;rw [show (j + 1).toNat = 0 by omega]; rfl
theorem zxi (k : Nat) (hk : k + 1 < L.length) : PCall qa 127 [.sl n f (bB rows), .sl n2 f2 (aA L), .int .i64 ((k + 1 : Nat) : Int)] fun x => x = .bool (decide (aL rows (L.getD (k + 1) 0) = 6) && (aX rows L 0 (k + 1)).odd) := by
 have _ht := ht;refine zvl _ _ _ _ _ _ _ (fun x j => (-1 <= j /\ j < L.length) /\ (0 <= x /\ x + j <= k) /\ (aX rows L 0 (k + 1)).odd = rY rows L x (j + 1).toNat) (fun _ j => (j + 1).toNat) ?_;unfold zko;obtain ⟨g1, g2⟩ := fS (l := L) (i := ((k + 1 : Nat) : Int)) (by omega) (by omega);rw [show (((k + 1 : Nat) : Int)).toNat = k + 1 by omega] at g2 ⊢;refine ⟨g1, _, by rw [g2]; rfl, ?_⟩;refine (nC n f hl (fE hr _)).mono ?_;rintro _ rfl;refine ⟨_, rfl, aC (fun hc => ?_) (fun hc => ?_)⟩
 ·simp only [bne_iff_ne, ne_eq] at hc;rw [decide_eq_false hc, qam]
 simp only [bne_iff_ne, ne_eq, qi] at hc;rw [hc];have hw : i64.wrap (((k + 1 : Nat) : Int) - 1) = (k : Int) := by rw [aF (by omega) (by omega)]; omega
 rw [hw];refine ⟨⟨rfl, ⟨by omega, by omega⟩, ⟨qo _, by omega⟩, by rw [show ((k : Int) + 1).toNat = k + 1 by omega]; rfl⟩, ?_⟩;rintro x j ⟨⟨j0, j1⟩, ⟨x0, x1⟩, he⟩;simp only [decide_true, qab];rw [he];have hx : ∀ y : Int, (y.tmod 2 == 1) = decide (y.tmod 2 = 1) := fun y => by by_cases h : y.tmod 2 = 1 <;> simp [h]
 refine aC (fun h => ?_) (fun h => ?_)
 ·simp only [aB, ge_iff_le] at h;obtain ⟨g1, g2⟩ := fS (l := L) (i := j) h (by omega);refine ⟨g1, _, by rw [g2]; rfl, ?_⟩;have hs := zxf (rows := rows) L x0 j.toNat;rw [show j.toNat + 1 = (j + 1).toNat by omega] at hs;have hwj : i64.wrap (j - 1) = j - 1 := aF (by omega) (by omega);have hwx : i64.wrap (x + 1) = x + 1 := aF (by omega) (by omega);rw [hwj, hwx];refine (nC n f hl (fE hr _)).mono ?_;rintro _ rfl;refine ⟨_, rfl, aC (fun h6 => ?_) (fun h6 => ?_)⟩
  ·simp only [beq_iff_eq] at h6;rw [if_pos h6] at hs;exact ⟨rfl, ⟨⟨by omega, by omega⟩, ⟨by omega, by omega⟩, by rw [hs, show (j - 1 + 1).toNat = j.toNat by omega]⟩, by first | omega | (dsimp only; omega)⟩
  ·simp only [beq_iff_eq] at h6;rw [hs, if_neg h6, hx]
 ·simp only [aB, ge_iff_le] at h;rw [show (j + 1).toNat = 0 by omega, hx];unfold rY;show _ = PV.bool (if x.tmod 2 = 1 then !false else false);by_cases h1 : x.tmod 2 = 1 <;> simp [h1]
theorem zxj (k : Int) (k0 : 0 <= k) (k1 : k < L.length) : PCall qa 95 [.sl n f (bB rows), .sl n2 f2 (aA L), .int .i64 k] fun x => x = .bool (fD rows L k.toNat) := by
 refine zvm _ _ _ _ _ _ _ ?_; unfold zkp;refine aC (fun h0 => ?_) (fun h0 => ?_)
 ·simp only [beq_iff_eq] at h0;rw [h0]; rfl
 simp only [beq_iff_eq] at h0;obtain ⟨j, rfl⟩ : ∃ j : Nat, k = ((j + 1 : Nat) : Int) := ⟨k.toNat - 1, by omega⟩;have hw : i64.wrap (((j + 1 : Nat) : Int) - 1) = (j : Int) := by rw [aF (by omega) (by omega)]; omega
 rw [hw, show (((j + 1 : Nat) : Int)).toNat = j + 1 by omega, zu2 ht];obtain ⟨g1, g2⟩ := fS (l := L) (i := (j : Int)) (by omega) (by omega);obtain ⟨k1, k2⟩ := fS (l := L) (i := ((j + 1 : Nat) : Int)) (by omega) (by omega);rw [show (((j + 1 : Nat) : Int)).toNat = j + 1 by omega] at k2;rw [show ((j : Int)).toNat = j by omega] at g2 ⊢;refine ⟨g1, _, by rw [g2]; rfl, k1, _, by rw [k2]; rfl, ?_⟩;have c1 := zxg ht n f n2 f2 hl L hr hL j (by omega);have c2 := zxh ht n f n2 f2 hl L hr hL j (by omega);have c3 := zxi ht n f n2 f2 hl L hr hL j (by omega);refine (nC n f hl (fE hr _)).mono ?_;rintro _ rfl;refine ⟨_, rfl, ?_⟩;refine (nC n f hl (fE hr _)).mono ?_;rintro _ rfl;refine ⟨_, rfl, ?_⟩;generalize aL rows (L.getD j 0) = a at *;generalize hb : aL rows (L.getD (j + 1) 0) = b at *;refine aC (fun h1 => ?_) (fun h1 => ?_)
 ·simp only [qc, beq_iff_eq] at h1;rw [if_pos h1]
 simp only [qc, beq_iff_eq] at h1;rw [if_neg h1];refine (zlu a).mono ?_;rintro _ rfl;refine ⟨_, rfl, aC (fun h2 => ?_) (fun h2 => ?_)⟩
 ·rw [if_pos (.inl h2)]
 refine (zlu b).mono ?_;rintro _ rfl;refine ⟨_, rfl, aC (fun h3 => ?_) (fun h3 => ?_)⟩
 ·rw [if_pos (.inr h3)]
 rw [if_neg (fun h => h.elim h2 h3)];refine (zxb a b).mono ?_;rintro _ rfl;refine ⟨_, rfl, aC (fun h4 => ?_) (fun h4 => ?_)⟩
 ·simp only [qg, beq_iff_eq] at h4;rw [if_pos (by rcases h4 with (((h | h) | h) | h) | h; exact .inl h; exact .inr (.inl h); exact .inr (.inr (.inl h)); exact .inr (.inr (.inr (.inl h))); exact .inr (.inr (.inr (.inr h))))]
 simp only [qg, beq_iff_eq] at h4;rw [if_neg (by rintro (h | h | h | h | h); exact h4 (.inl (.inl (.inl (.inl h)))); exact h4 (.inl (.inl (.inl (.inr h)))); exact h4 (.inl (.inl (.inr h))); exact h4 (.inl (.inr h)); exact h4 (.inr h))];refine c1.mono ?_;rintro _ rfl;refine ⟨_, rfl, ?_⟩;generalize (decide (bQ rows (L.getD (j + 1) 0) = 2) && decide ((aX rows L 0 (j + 1)).conj = 2)) = x1;cases x1 with
 | true => exact bA (by simp) rfl
 | false =>
   refine bD rfl ?_;refine c2.mono ?_;rintro _ rfl;refine ⟨_, rfl, ?_⟩;generalize (bP rows 5 (L.getD (j + 1) 0) && decide ((aX rows L 0 (j + 1)).pict = 2)) = x2;cases x2 with
   | true => exact bA (by simp) rfl
   | false =>
     refine bD rfl ?_;refine c3.mono ?_;rintro _ rfl;exact ⟨_, rfl, rfl⟩
theorem zxk (k : Int) (k0 : 0 <= k) (k1 : k < L.length) : PCall qa 72 [.sl n f (bB rows), .sl n2 f2 (aA L), .int .i64 k] fun x => x = .int .i64 (bX rows L k.toNat : Nat) := by
 refine zvn _ _ _ _ _ _ _ (fun i => (k + 1 <= i /\ i <= L.length) /\ bX rows L k.toNat = fR rows L (L.length - i.toNat) i.toNat) (fun i => L.length - i.toNat) ?_;unfold zkq;have hl8 : ((aA L).length : Int) = L.length := by rw [bG]
 have hw : i64.wrap (k + 1) = k + 1 := aF (by omega) (by omega);rw [hl8, hw];refine ⟨⟨rfl, ⟨by omega, by omega⟩, by rw [show (k + 1).toNat = k.toNat + 1 by omega]; rfl⟩, ?_⟩;rintro i ⟨⟨i0, i1⟩, hn⟩;refine aC (fun hc => ?_) (fun hc => ?_)
 ·simp only [aB] at hc;have hi : i.toNat < L.length := by omega
  have hwi : i64.wrap (i + 1) = i + 1 := aF (by omega) (by omega);rw [hwi];refine (zxj ht n f n2 f2 hl L hr hL i (by omega) hc).mono ?_;rintro _ rfl;refine ⟨_, rfl, aC (fun hb => ?_) (fun hb => ?_)⟩
  ·rw [hn, zky hi hb, show ((i.toNat : Nat) : Int) = i by omega]
  ·refine ⟨rfl, ⟨⟨by omega, by omega⟩, ?_⟩, by first | omega | (dsimp only; omega)⟩
   rw [hn, zkx hi (by simpa using hb), show (i + 1).toNat = i.toNat + 1 by omega]
 ·simp only [aB] at hc;rw [hn, show L.length - i.toNat = 0 by omega];show _ = PV.int .i64 ((i.toNat : Nat) : Int);rw [show ((i.toNat : Nat) : Int) = (L.length : Int) by omega]
theorem zxl (hL2 : L.length < 100000000) : PCall qa 46 [.sl n f (bB rows), .sl n2 f2 (aA L)] fun x => ∃ (n f : Bool) (Q : List (Bool × Bool × List Int)), x = .sl n f (Q.map eF) /\ Q.map (fun q => q.2.2) = cR rows L 0 := by
 refine zvo _ _ _ _ _ _
  (fun i n s => (0 <= i /\ i <= L.length) /\ ∃ Q : List (Bool × Bool × List Int), s = Q.map eF /\ cR rows L 0 = Q.map (fun q => q.2.2) ++ cR rows L i.toNat /\ Q.length <= i.toNat) (fun i _ _ => L.length - i.toNat) ?_
 unfold zkr;have hl8 : ((aA L).length : Int) = L.length := by rw [bG]
 rw [hl8];refine ⟨⟨rfl, ⟨qo _, by omega⟩, [], rfl, rfl, qp _⟩, ?_⟩;rintro i n3 _ ⟨⟨i0, i1⟩, Q, rfl, hcl, hql⟩;refine aC (fun hc => ?_) (fun hc => ?_)
 ·simp only [aB] at hc;have hi : i.toNat < L.length := by omega
  obtain ⟨x1, x2, x3⟩ := o0 (rows := rows) hi;refine (zxk ht n f n2 f2 hl L hr hL i i0 hc).mono ?_;rintro _ rfl;refine ⟨_, rfl, ⟨zjy i0 (by omega) (by rw [bG]; omega), dL _⟩, ?_⟩;rw [show (((bX rows L i.toNat : Nat) : Int)).toNat = bX rows L i.toNat by omega, zjz];refine ⟨⟨mP (enc := eF) vE [(n2, _, eD L i.toNat (bX rows L i.toNat))], by rw [qb]; omega⟩, rfl, ⟨⟨by omega, by omega⟩, Q ++ [(n2, _, eD L i.toNat (bX rows L i.toNat))], by rw [qm]; rfl, ?_, ?_⟩, ?_⟩
  ·rw [show (((bX rows L i.toNat : Nat) : Int)).toNat = bX rows L i.toNat by omega, hcl, vA hi, qm, qr]; rfl
  ·rw [show (((bX rows L i.toNat : Nat) : Int)).toNat = bX rows L i.toNat by omega, qd, qe]; omega
  ·dsimp only; omega
 ·simp only [aB] at hc;rw [o7 (i := i.toNat) (by omega), qae] at hcl;exact ⟨n3, false, Q, rfl, hcl.symm⟩
end
section
variable {rows : List Row} {v : PV}
theorem zxm (hts : eE rows) (hp : cT rows) (h1 : dG rows) (hk : dY rows) (hs0 : ∀ (d : List Int) a, (bH rows d).s = some a -> aD rows 1 a = 0) (n f : Bool) (hrl : rows.length < 1000000) (n2 n1 : Bool) (Q : List PtF) (pl : List Int) (hr : R32 pl) (hl : pl.length < 10000) (hQ : Q.length < 100000000) :
 ACall qa 49 [.pv (.sl n f (bB rows)), .own 0, .own 1] [.sl (53, 2) false n1 (Q.map pT), .sl (21, 1) false n2 (aA pl)] fun r h' =>
  ∃ n' Q', r = .own 0 /\ h' = [.sl (53, 2) true n' (Q'.map pT), .dead] /\ vH rows Q pl Q' := by
 have hnl := u9 hk pl;have hcc := vC rows (dC rows pl)
 refine zwe _ _ _ false n1 _ false n2 _
  (fun _ _ s7 x8 _ s0 => ∃ (i : Nat) (K : TxG), x8 = i /\ i <= K.length /\ s7 = K.map eF /\ K.map (fun q => q.2.2) = cR rows (dC rows pl) 0 /\ s0 = (Q ++ (K.take i).map jP).map pT) (fun _ _ s7 x8 _ _ => s7.length - x8.toNat) ?_
 unfold zld;refine (zw3 hp h1 hk hs0 n f n2 false hrl pl hr (by omega)).mono ?_;rintro _ ⟨n3, f3, rfl⟩;refine ⟨_, _, _, rfl, (zxl hts n f n3 f3 hrl (dC rows pl) (zbs hp h1 hk hr) (by omega) (by omega)).mono ?_⟩;rintro _ ⟨n4, f4, K, rfl, hK⟩;refine ⟨_, _, _, rfl, ⟨rfl, 0, K, rfl, by omega, rfl, hK, by rw [qbh, List.map_nil, qae]⟩, ?_⟩;clear hK K;rintro n9 f9 _ _ n5 _ ⟨i, K, rfl, i1, rfl, hK, rfl⟩;have hKl := congrArg qz hK;rw [qb] at hKl;rw [qh, mB (by omega), show ((K.map eF).length : Int) = K.length by rw [qb]];refine aC (fun hc => ?_) (fun hc => ?_)
 ·simp only [aB] at hc;have hi : i < K.length := by omega
  obtain ⟨g1, g2⟩ := zlp hi;refine ⟨g1, K[i].1, K[i].2.1, aA K[i].2.2, by rw [g2]; rfl, ⟨kZ (jP K[i]), by rw [qb, qd, qb, qn]; omega⟩, rfl, ⟨i + 1, K, rfl, by omega, rfl, hK, ?_⟩, by dsimp only; rw [qb]; omega⟩;have e : (K.take (i + 1)).map jP = (K.take i).map jP ++ [jP K[i]] := by rw [cZ hi, qm]; rfl
  rw [e, <- qr];exact lB _ (jP K[i])
 ·simp only [aB] at hc;rw [ql (by omega)];exact ⟨n5, _, rfl, rfl, zlq hk hK Q⟩
theorem zxn (hts : eE rows) (hp : cT rows) (h1 : dG rows) (hk : dY rows) (hs0 : ∀ (d : List Int) a, (bH rows d).s = some a -> aD rows 1 a = 0) (n f n2 f2 : Bool) (hrl : rows.length < 1000000) (L : List Int) (hr : R32 L) (hL : L.length < 10000) :
 PCall qa 19 [.sl n f (bB rows), .sl n2 f2 (aA L)] (eT rows L (fun Q x => ∃ n, x = .tup [.sl n false (Q.map pT), .int .i64 0]) (.tup [.sl true true [], .int .i64 4]) (.tup [.sl true true [], .int .i64 7])) := by
 have fl := fun n2 n1 Q pl hr hl hQ => zxm hts hp h1 hk hs0 n f hrl n2 n1 Q pl hr hl hQ
 refine zwd _ _ _ _ _ _
  (fun x _ s4 _ s5 => ∃ (i : Nat) (Q : List PtF) (pl : List Int), x = i /\ i <= L.length /\ s4 = Q.map pT /\ s5 = aA pl /\ prs rows [] [] L = prs rows (Q.map pE) pl (L.drop i) /\ Q.length + 768 * pl.length <= 769 * i /\ R32 pl /\ pl.length <= i /\ PtOK (768 * L.length) Q)
  (fun x _ _ _ _ => L.length - x.toNat) ?_
 unfold zlc;rw [show ((aA L).length : Int) = L.length by rw [bG]];refine ⟨⟨rfl, 0, [], [], rfl, by omega, rfl, rfl, rfl, by simp, fun x hx => by simp at hx, by simp, fun q hq => by simp at hq⟩, ?_⟩;rintro _ n4 _ n5 _ ⟨i, Q, pl, rfl, i1, rfl, rfl, hP, hB, hpl, hpi, hQ⟩;have hQl : Q.length <= 769 * i := by omega
 refine aC (fun hc => ?_) (fun hc => ?_)
 ·simp only [aB] at hc;have hi : i < L.length := by omega
  have e1 := mB (i := i) (by omega);have e2 := mB (i := i + 1) (by omega);have e3 : i64.wrap ((L.length : Int) - 1) = (L.length : Int) - 1 := aF (by omega) (by omega);have g := fS (l := L) (i := (i : Int)) (by omega) (by omega);rw [qh] at g;obtain ⟨g1, g2⟩ := g;have hd := vI hi;rw [hd] at hP;rw [e1, e2, e3, qh];have hwr := fE hr i
  have plain1 : R32 (pl ++ [L.getD i 0]) := fun x hx => by
   rcases List.mem_append.1 hx with hx | hx
   ·exact hpl x hx
   ·rw [List.mem_singleton.1 hx]; exact hwr
  generalize hcc : L.getD i 0 = c at *;refine ⟨g1, c, by rw [g2]; rfl, ?_⟩;by_cases h92 : c = 92
  ·subst h92;refine bD rfl (aC (fun h => ?_) (fun h => ?_))
   ·simp only [beq_iff_eq] at h;rw [qaf (by omega), vF] at hP;unfold eT;rw [hP]
   ·simp only [beq_iff_eq] at h;have hi2 : i + 1 < L.length := by omega
    have k := fS (l := L) (i := ((i + 1 : Nat) : Int)) (by omega) (by omega);rw [qh] at k;obtain ⟨k1, k2⟩ := k;rw [vI hi2, vG] at hP;have hw2 := fE hr (i + 1);rw [qh];refine ⟨k1, _, by rw [k2]; rfl, ⟨dL [L.getD (i + 1) 0], by rw [bG]; omega⟩, rfl, ⟨i + 1 + 1, Q, pl ++ [L.getD (i + 1) 0], rfl, by omega, rfl, (fQ pl [L.getD (i + 1) 0]).symm, hP, by rw [qd, qe]; omega, fun x hx => ?_, by rw [qd, qe]; omega, hQ⟩, by first | omega | (dsimp only; omega)⟩
    rcases List.mem_append.1 hx with hx | hx
    ·exact hpl x hx
    ·rw [List.mem_singleton.1 hx]; exact hw2
  ·refine bA (by simpa using h92) ⟨g1, c, by rw [g2]; rfl, ?_⟩
   by_cases h42 : c = 42
   ·subst h42;refine bA (by decide) ?_;refine (fl n5 n4 Q pl hpl (by omega) (by omega)).mono ?_;rintro r h' ⟨n', Q', rfl, rfl, hA⟩;obtain ⟨hA1, hA2, hA3⟩ := id hA;refine ⟨(n', Q'.map pT), ⟨rfl, rfl⟩, ⟨trivial, trivial, trivial⟩, g1, 42, by rw [g2]; rfl, bA (by decide) ?_⟩;rw [rS, <- hA1] at hP;have hlq : ((Q'.map pT).length : Int) = Q'.length := by rw [qb]
    have V2 : (Q' = [] ∨ ∃ q, Q'.getLast? = some q /\ q.1 ≠ 2) -> prs rows [] [] L = prs rows ((Q' ++ [d9]).map pE) [] (L.drop (i + 1)) := fun hx => by rw [<- zlr hx]; exact hP
    have room : ((Q'.map pT).length + 1) * 32 <= 140737488355328 := by rw [qb]; omega
    have okS := (hQ.app hA (by omega)).snoc (q := d9) (by simp [d9]);dsimp only;rw [hlq];refine aC (fun h0 => ?_) (fun h0 => ?_)
    ·simp only [beq_iff_eq] at h0;have : Q' = [] := qq (by omega);exact ⟨⟨kZ d9, room⟩, rfl, ⟨i + 1, Q' ++ [d9], [], rfl, by omega, lB Q' d9, rfl, V2 (.inl this), by rw [qd, qe, qt]; omega, fun x hx => by simp at hx, by simp, okS⟩, by first | omega | (dsimp only; omega)⟩
    ·simp only [beq_iff_eq] at h0;have hpos : 0 < Q'.length := by omega
     have hlast := zlt hpos;have hw : i64.wrap ((Q'.length : Int) - 1) = ((Q'.length - 1 : Nat) : Int) := by rw [aF (by omega) (by omega)]; omega
     rw [hw, qh];obtain ⟨k1, k2⟩ := pF (Q := Q') (i := Q'.length - 1) (by omega);refine ⟨k1, Q'[Q'.length - 1].1, by rw [k2]; rfl, aC (fun h2 => ?_) (fun h2 => ?_)⟩
     ·simp only [bne_iff_ne, ne_eq] at h2;exact ⟨⟨kZ d9, room⟩, rfl, ⟨i + 1, Q' ++ [d9], [], rfl, by omega, lB Q' d9, rfl, V2 (.inr ⟨_, hlast, h2⟩), by rw [qd, qe, qt]; omega, fun x hx => by simp at hx, by simp, okS⟩, by first | omega | (dsimp only; omega)⟩
     ·simp only [bne_iff_ne, ne_eq, qi] at h2;rw [zls hlast h2] at hP;exact ⟨rfl, ⟨i + 1, Q', [], rfl, by omega, rfl, rfl, hP, by simp only [qt]; omega, fun x hx => by simp at hx, by simp, hQ.app hA (by omega)⟩, by first | omega | (dsimp only; omega)⟩
   ·refine bD (by simpa using h42) ⟨g1, c, by rw [g2]; rfl, ?_⟩
    by_cases h63 : c = 63
    ·subst h63;refine bA (by decide) ?_;refine (fl n5 n4 Q pl hpl (by omega) (by omega)).mono ?_;rintro r h' ⟨n', Q', rfl, rfl, hA⟩;obtain ⟨hA1, hA2, hA3⟩ := id hA;refine ⟨(n', Q'.map pT), ⟨rfl, rfl⟩, ⟨trivial, trivial, trivial⟩, g1, 63, by rw [g2]; rfl, bD (by decide) ?_⟩;rw [rT, <- hA1] at hP;exact ⟨⟨kZ j6, by dsimp only; rw [qb]; omega⟩, rfl, ⟨i + 1, Q' ++ [j6], [], rfl, by omega, lB Q' j6, rfl, by rw [hP, qm]; rfl, by rw [qd, qe, qt]; omega, fun x hx => by simp at hx, by simp, (hQ.app hA (by omega)).snoc (q := j6) (by simp [j6])⟩, by first | omega | (dsimp only; omega)⟩
    ·refine bD (by simpa using h63) ?_
     rw [pC h92 h42 h63] at hP;exact ⟨g1, c, by rw [g2]; rfl, ⟨dL [c], by rw [bG]; omega⟩, rfl, ⟨i + 1, Q, pl ++ [c], rfl, by omega, rfl, (fQ pl [c]).symm, hP, by rw [qd, qe]; omega, plain1, by rw [qd, qe]; omega, hQ⟩, by first | omega | (dsimp only; omega)⟩
 ·simp only [aB] at hc;have hil : i = L.length := by omega
  refine (fl n5 n4 Q pl hpl (by omega) (by omega)).mono ?_;rintro r h' ⟨n', Q', rfl, rfl, hA⟩;refine ⟨(n', Q'.map pT), ⟨rfl, rfl⟩, ⟨trivial, trivial, trivial⟩, ?_⟩;rw [hil, qaf (qp _), pB, <- hA.1] at hP;have hPl : (Q'.map pE).length = Q'.length := qb _;dsimp only;rw [show ((Q'.map pT).length : Int) = Q'.length by rw [qb]];refine aC (fun h => ?_) (fun h => ?_)
  ·simp only [aB, gt_iff_lt] at h;unfold eT;rw [hP];show ite _ _ _;rw [if_pos (by omega)]
  ·simp only [aB, gt_iff_lt] at h;unfold eT;rw [hP];show ite _ _ _;rw [if_neg (by omega)];exact ⟨Q', ⟨_, rfl⟩, rfl, hQ.app hA (by omega)⟩
theorem zxo (np fp : Bool) (Q : List PtF) (hQ : ∀ q ∈ Q, q.2.2.2.length < 1000000000) (hQl : Q.length < 1000000) :
 PCall qa 20 [.agg [.sl np fp (Q.map pT)]] fun x => ∃ (n : Bool) (Q' : List PtF), x = .sl n false (Q'.map pT) /\ Q'.map pE = Q.map pE := by
 refine zwa _ _ _ (fun x _ s => ∃ (i : Nat) (Q' : List PtF), x = i /\ i <= Q.length /\ s = Q'.map pT /\ Q'.map pE = (Q.take i).map pE) (fun x _ _ => Q.length - x.toNat) ?_;unfold zk9;rw [show ((Q.map pT).length : Int) = Q.length by rw [qb]];refine ⟨⟨rfl, 0, [], rfl, by omega, rfl, rfl⟩, ?_⟩;rintro _ n0 _ ⟨i, Q', rfl, i1, rfl, hE⟩;rw [qh, mB (by omega)];refine aC (fun hc => ?_) (fun hc => ?_)
 ·simp only [aB] at hc;have hi : i < Q.length := by omega
  obtain ⟨g1, g2⟩ := pF hi;have hl := congrArg qz hE;rw [qb, qb, qn] at hl
  have cl : PCall qa 47 [.sl Q[i].2.1 Q[i].2.2.1 (aA Q[i].2.2.2)] fun x => ∃ n f, x = .sl n f (aA Q[i].2.2.2) := by
   have hlen := hQ _ (qk hi);by_cases h : Q[i].2.1 = true -> Q[i].2.2.2 = []
   ·exact (zb3 _ _ _ h (by omega)).mono fun x hx => ⟨_, _, hx⟩
   ·have hn : Q[i].2.1 = true := by
     cases hb : Q[i].2.1 with
     | true => rfl
     | false => rw [hb] at h; exact absurd (fun h => by cases h) h
    rw [hn];exact PCall.vac (zb3 false Q[i].2.2.1 Q[i].2.2.2 (fun h => by cases h) (by omega)) (k := 0) rfl (zkw fun e => h fun _ => e)
  refine ⟨g1, _, by rw [g2]; rfl, _, _, _, by rw [g2]; rfl, cl.mono ?_⟩;rintro _ ⟨n2, f2, rfl⟩;refine ⟨n2, f2, _, rfl, ⟨kZ (Q[i].1, n2, f2, Q[i].2.2.2), by rw [qb]; omega⟩, rfl, ⟨i + 1, Q' ++ [(Q[i].1, n2, f2, Q[i].2.2.2)], rfl, by omega, lB Q' (Q[i].1, n2, f2, Q[i].2.2.2), ?_⟩, by first | omega | (dsimp only; omega)⟩
  rw [qm, hE, cZ hi, qm]; rfl
 ·simp only [aB] at hc;rw [ql (by omega)] at hE;exact ⟨n0, Q', rfl, hE⟩
end
theorem zxp {rows : List Row} {L : List Int} {x y : PV} (hx : eT rows L (fun Q x => ∃ n, x = .tup [.agg [.sl n false (Q.map pT)], .int .i64 0]) (.tup [.agg [.sl true true []], .int .i64 4]) (.tup [.agg [.sl true true []], .int .i64 7]) x)
 (hy : eT rows L (fun Q x => ∃ n, x = .tup [.sl n false (Q.map pT), .int .i64 0]) (.tup [.sl true true [], .int .i64 4]) (.tup [.sl true true [], .int .i64 7]) y) :
 ∃ (e : Int) (A B : List PtF) (n f n2 f2 : Bool), x = .tup [.agg [.sl n f (A.map pT)], .int .i64 e] /\ y = .tup [.sl n2 f2 (B.map pT), .int .i64 e] /\ A.map pE = B.map pE /\ eS (A.map pE) /\ i9 (A.map pE) /\ PtOK (768 * L.length) A /\ PtOK (768 * L.length) B /\ A.length <= 1000 /\ B.length <= 1000 := by
 unfold eT at hx hy
 have none7 : ∀ e : Int, ∃ (e' : Int) (A B : List PtF) (n f n2 f2 : Bool), PV.tup [.agg [.sl true true []], .int .i64 e] = .tup [.agg [.sl n f (A.map pT)], .int .i64 e'] /\ PV.tup [.sl true true [], .int .i64 e] = .tup [.sl n2 f2 (B.map pT), .int .i64 e'] /\ A.map pE = B.map pE /\ eS (A.map pE) /\ i9 (A.map pE) /\ PtOK (768 * L.length) A /\ PtOK (768 * L.length) B /\ A.length <= 1000 /\ B.length <= 1000 :=
  fun e => ⟨e, [], [], true, true, true, true, rfl, rfl, rfl, trivial, (fun p hp => by cases hp), (fun q hq => by cases hq), (fun q hq => by cases hq), by simp, by simp⟩
 cases hP : prs rows [] [] L with
 | none =>
   rw [hP] at hx hy;rw [hx, hy]; exact none7 4
 | some P =>
   rw [hP] at hx hy;dsimp only at hx hy;by_cases h : 1000 < P.length
   ·rw [if_pos h] at hx hy;rw [hx, hy]; exact none7 7
   ·rw [if_neg h] at hx hy;obtain ⟨A, ⟨n, rfl⟩, hA, hA2⟩ := hx;obtain ⟨B, ⟨n2, rfl⟩, hB, hB2⟩ := hy;have hAl : A.length = P.length := by rw [<- hA, qb]
    have hBl : B.length = P.length := by rw [<- hB, qb]
    exact ⟨0, A, B, n, false, n2, false, rfl, rfl, hA.trans hB.symm, by rw [hA]; exact rV (out := []) _ (qp _) trivial hP, by rw [hA]; exact rX (out := []) _ (qp _) (fun p hp => by cases hp) hP, hA2, hB2, by omega, by omega⟩
section
variable {t : PV}
theorem zcj (ht : d7 tab t) (n f : Bool) (L : List Int) (hr : R32 L) (hL : L.length < 10000) : PCall qa 18 [t, .sl n f (aA L)] (eT tab L (fun Q x => ∃ n, x = .tup [.agg [.sl n false (Q.map pT)], .int .i64 0]) (.tup [.agg [.sl true true []], .int .i64 4]) (.tup [.agg [.sl true true []], .int .i64 7])) := zxa zbu uZ u4 zbg ht n f L hr hL
theorem rZ (ht : d7 tab t) (np fp n f : Bool) (Q : List PtF) {m : Nat} (hQ : PtOK m Q) (hm : m < 1000000000) (hQl : Q.length <= 1000) (L : List Int) (hr : R32 L) (hL : L.length < 100000) :
 PCall qa 50 [.agg [.sl np fp (Q.map pT)], t, .sl n f (aA L)] fun x => x = .bool (bL (Q.map pE) (cR tab (dC tab L) 0)) := zwi zbu uZ u4 zbg ht np fp n f Q (fun q hq => by have := hQ q hq; omega) (by omega) L hr hL
end
theorem zxq : fF tab [97] = [(0, [97])] := by kernel_rfl
theorem zxr : fF tab [99] = [(0, [99])] := by kernel_rfl
theorem zlv : fF tab [] = [] := by kernel_rfl
theorem zxs : cR tab (dC tab [97, 99]) 0 = [[97], [99]] := by kernel_rfl
theorem zxt : cR tab (dC tab [97, 98, 98, 99]) 0 = [[97], [98], [98], [99]] := by kernel_rfl
theorem zxu : cR tab (dC tab [97, 99, 98]) 0 = [[97], [99], [98]] := by kernel_rfl
theorem zxv : cR tab (dC tab [101, 769]) 0 = [[233]] := by kernel_rfl
theorem zxw : cR tab (dC tab [101, 97]) 0 = [[101], [97]] := by kernel_rfl
theorem zxx : prs tab [] [] [97, 42, 99] = some [(0, [97]), (2, []), (0, [99])] := by
 rw [pC (by decide) (by decide) (by decide), qaa, rS, qaa, zxq, pC (by decide) (by decide) (by decide), qaa, pB, zxr]; rfl
theorem zxy : prs tab [] [] [63] = some [(1, [])] := by
 rw [rT, zlv, pB, zlv]; rfl
theorem awake43 : PCall qa 22 [] fun v => v = .bool true := by
 refine zwf ?_; unfold zle;refine p42.mono ?_;rintro _ ⟨n, f, rfl⟩;refine ⟨_, _, _, rfl, ?_⟩;refine (zjk n f).mono fun t ht => ?_;refine (zcj ht false true [97, 42, 99] (fun x hx => by simp at hx; omega) (by simp)).mono fun x hx => ?_;unfold eT at hx;rw [zxx] at hx;dsimp only at hx;rw [if_neg (by decide)] at hx;obtain ⟨A, ⟨n1, rfl⟩, hA, hA2⟩ := hx;have hAl : A.length <= 1000 := by have := congrArg qz hA; rw [qb] at this; simp at this; omega
 refine ⟨_, rfl, rfl, _, rfl, _, rfl, rfl, _, _, _, rfl, _, rfl, _, rfl, ?_⟩;refine (zcj ht false true [63] (fun x hx => by simp at hx; omega) (by simp)).mono fun x hx => ?_;unfold eT at hx;rw [zxy] at hx;dsimp only at hx;rw [if_neg (by decide)] at hx;obtain ⟨B, ⟨n2, rfl⟩, hB, hB2⟩ := hx;have hBl : B.length <= 1000 := by have := congrArg qz hB; rw [qb] at this; simp at this; omega
 refine ⟨_, rfl, rfl, _, rfl, _, rfl, rfl, _, _, _, rfl, _, rfl, _, rfl, bD rfl ?_⟩;refine (rZ ht _ _ false true A hA2 (by simp) hAl [97, 99] (fun x hx => by simp at hx; omega) (by simp)).mono ?_;rintro _ rfl;rw [hA, zxs];refine ⟨_, rfl, bD (by simp [iP, mA, nE, nF, gA]) ?_⟩;refine (rZ ht _ _ false true A hA2 (by simp) hAl [97, 98, 98, 99] (fun x hx => by simp at hx; omega) (by simp)).mono ?_;rintro _ rfl;rw [hA, zxt];refine ⟨_, rfl, bD (by simp [iP, mA, nE, nF, gA]) ?_⟩;refine (rZ ht _ _ false true A hA2 (by simp) hAl [97, 99, 98] (fun x hx => by simp at hx; omega) (by simp)).mono ?_;rintro _ rfl;rw [hA, zxu];refine ⟨_, rfl, bD (by simp [iP, mA, nE, nF, gA]) ?_⟩;refine (rZ ht _ _ false true B hB2 (by simp) hBl [101, 769] (fun x hx => by simp at hx; omega) (by simp)).mono ?_;rintro _ rfl;rw [hB, zxv];refine ⟨_, rfl, bD (by simp [iP, mA, nE, nF, gA]) ?_⟩;refine (rZ ht _ _ false true B hB2 (by simp) hBl [101, 97] (fun x hx => by simp at hx; omega) (by simp)).mono ?_;rintro _ rfl;rw [hB, zxw];exact ⟨_, rfl, by simp [iP, mA, nE, nF, gA]⟩
theorem zxz : PCall qa 22 [] fun v5 => ∃ b1, v5 = Zb b1 /\ PV.bool b1 = .bool true := awake43.mono fun x hx => ⟨true, hx, rfl⟩
theorem zx0 {L : List Int} {x : PV} (hx : eT tab L (fun Q x => ∃ n, x = .tup [.agg [.sl n false (Q.map pT)], .int .i64 0]) (.tup [.agg [.sl true true []], .int .i64 4]) (.tup [.agg [.sl true true []], .int .i64 7]) x) : ∃ (A : List PtF) (e : Int) (n f : Bool), x = .tup [.agg [.sl n f (A.map pT)], .int .i64 e] := by
 unfold eT at hx;cases hP : prs tab [] [] L with
 | none => rw [hP] at hx; exact ⟨[], 4, true, true, hx⟩
 | some P =>
   rw [hP] at hx; dsimp only at hx;by_cases h : 1000 < P.length
   ·rw [if_pos h] at hx; exact ⟨[], 7, true, true, hx⟩
   ·rw [if_neg h] at hx;obtain ⟨A, ⟨n, rfl⟩, _⟩ := hx;exact ⟨A, 0, n, false, rfl⟩
theorem zx1 (n f : Bool) (l : List Int) (rl : R32 l) : PCall qa 5 [.sl n f (aA l)] fun v => v = .bool true := by
 refine zwg _ _ _
  (fun _ _ s6 _ _ s8 x9 => ∃ (i : Nat) (A B : List PtF), x9 = i /\ i <= A.length /\ s6 = B.map pT /\ s8 = A.map pT /\ A.map pE = B.map pE /\ eS (A.map pE) /\ PtOK 61440 A /\ A.length <= 1000) (fun _ _ _ _ _ s8 x9 => s8.length - x9.toNat) ?_
 unfold zlf;refine (zt3 n f l 80 (by omega)).mono ?_;rintro _ ⟨n1, f1, rfl⟩;have la := zuu l 80;have ra := rl.take 80;generalize l.take 80 = L at *;refine ⟨_, _, _, rfl, p42.mono ?_⟩;rintro _ ⟨n2, f2, rfl⟩;refine ⟨_, _, _, rfl, (zjk n2 f2).mono fun t ht => ?_⟩;refine (zcj ht n1 f1 L ra (by omega)).mono fun x hx => ?_;have key := zxn zbu uZ u4 zbg zw7 n2 f2 n1 f1 zjj L ra (by omega);have two : ∀ y, eT tab L (fun Q x => ∃ n, x = .tup [.sl n false (Q.map pT), .int .i64 0]) (.tup [.sl true true [], .int .i64 4]) (.tup [.sl true true [], .int .i64 7]) y -> _ := fun y hy => zxp hx hy;obtain ⟨vs, e0, n3, f3, hx0⟩ := zx0 hx;subst hx0;refine ⟨_, rfl, rfl, _, rfl, _, rfl, rfl, _, _, _, rfl, _, rfl, _, rfl, key.mono fun y hy => ?_⟩;obtain ⟨e, A, B, n4, f4, n5, f5, hxe, rfl, hE, hN, hK, hA, hB, hAl, hBl⟩ := two y hy;injection hxe with hxe;simp only [List.cons.injEq, PV.agg.injEq, PV.sl.injEq, PV.int.injEq, and_true, true_and] at hxe;obtain ⟨⟨rfl, rfl, hm⟩, rfl⟩ := hxe;rw [hm];refine ⟨_, rfl, rfl, _, rfl, _, _, _, rfl, _, rfl, _, rfl, (zxo _ _ A (fun q hq => by have := hA q hq; omega) (by omega)).mono ?_⟩;rintro _ ⟨n6, X, rfl, hX⟩;have hXl : X.length = A.length := by have := congrArg qz hX; rwa [qb, qb] at this
 have hBA : B.length = A.length := by have := congrArg qz hE; rw [qb, qb] at this; omega
 have hXok : PtOK 61440 X := fun q hq => by
  have h1 : pE q ∈ A.map pE := by rw [<- hX]; exact List.mem_map.2 ⟨q, hq, rfl⟩
  obtain ⟨a, ha, hae⟩ := List.mem_map.1 h1;have h2 := hA a ha;have h3 : (pE q).2 = q.2.2.2 := rfl;have h4 : (pE a).2 = a.2.2.2 := rfl;rw [<- h3, <- hae, h4]; omega
 refine ⟨_, _, _, rfl, bA (by rw [qb, qb, hXl, hBA]; simp) ⟨⟨rfl, 0, X, B, rfl, by omega, rfl, rfl, hX.trans hE, by rw [hX]; exact hN, hXok, by omega⟩, ?_⟩⟩;clear hXok hBA hXl hX two hx hy key hm hE hN hK hA hB hAl hBl A B X;rintro n7 f7 _ n8 f8 _ _ ⟨i, A, B, rfl, i1, rfl, rfl, hE, hN, hA, hAl⟩;have hBl : B.length = A.length := by have := congrArg qz hE; rw [qb, qb] at this; omega
 rw [qh, mB (by omega), show ((A.map pT).length : Int) = A.length by rw [qb]];refine aC (fun hc => ?_) (fun hc => zxz);simp only [aB] at hc;have hi : i < A.length := by omega
 have hiB : i < B.length := by omega
 obtain ⟨g1, g2⟩ := pF hi;obtain ⟨k1, k2⟩ := pF hiB
 have hEi : pE A[i] = pE B[i] := by
  have h1 : (A.map pE)[i]'(by rw [qb]; exact hi) = (B.map pE)[i]'(by rw [qb]; exact hiB) := by simp only [hE]
  simpa using h1
 have e1 : A[i].1 = B[i].1 := congrArg (fun z : Int × List Int => z.1) hEi;have e2 : A[i].2.2.2 = B[i].2.2.2 := congrArg (fun z : Int × List Int => z.2) hEi;refine ⟨g1, A[i].1, by rw [g2]; rfl, k1, B[i].1, by rw [k2]; rfl, bA (by rw [e1]; simp) ⟨g1, A[i].2.1, A[i].2.2.1, aA A[i].2.2.2, by rw [g2]; rfl, k1, B[i].2.1, B[i].2.2.1, aA B[i].2.2.2, by rw [k2]; rfl, (zt6 _ _ _ _ _ _ (by have := hA _ (qk hi); omega)).mono ?_⟩⟩;rintro _ rfl;refine ⟨_, rfl, bA (by rw [e2]; simp) ?_⟩;have next : ∃ (i_1 : Nat) (A_1 B_1 : List PtF), ((i + 1 : Nat) : Int) = i_1 /\ i_1 <= A_1.length /\ B.map pT = B_1.map pT /\ A.map pT = A_1.map pT /\ A_1.map pE = B_1.map pE /\ eS (A_1.map pE) /\ PtOK 61440 A_1 /\ A_1.length <= 1000 := ⟨i + 1, A, B, rfl, by omega, rfl, rfl, hE, hN, hA, hAl⟩
 refine aC (fun h => ?_) (fun h => ⟨rfl, next, by first | omega | (dsimp only; rw [qb]; omega)⟩)
 simp only [aB, gt_iff_lt] at h;obtain ⟨j, rfl⟩ : ∃ j, i = j + 1 := ⟨i - 1, by omega⟩;have hw : i64.wrap (((j + 1 : Nat) : Int) - 1) = (j : Int) := by rw [aF (by omega) (by omega)]; omega
 rw [hw, qh];obtain ⟨p1, p2⟩ := pF (Q := A) (i := j) (by omega);refine ⟨g1, A[j + 1].1, by rw [g2]; rfl, aC (fun h2 => ?_) (fun h2 => ⟨rfl, next, by first | omega | (dsimp only; rw [qb]; omega)⟩)⟩
 refine ⟨p1, A[j].1, by rw [p2]; rfl, bA ?_ ⟨rfl, next, by first | omega | (dsimp only; rw [qb]; omega)⟩⟩
 simp only [beq_iff_eq] at h2 ⊢;intro h3;have hno := zk6 hN j (by rw [qb]; omega);rw [qai, qai] at hno;exact hno ⟨h3, h2⟩
theorem lawGlobParses {pvs : List PV} (h : qV qa 8 Tryz.f5.params.toList pvs) : PCall qa 5 pvs fun v => v = .bool true := by
 obtain ⟨v0, r0, rfl, h0, rfl⟩ : qV qa 8 [22] pvs := h;obtain ⟨nl, l, rfl, hr⟩ := zus h0;exact zx1 _ _ l hr
end Go.Eng
