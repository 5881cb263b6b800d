/- States run over the code: what each function gives, and what follows. -/
import Derived.Test.YtijgnoilmmppcaaGreatFo4Tb
open Go.IntKind (i64 i32)
set_option linter.unusedVariables false
set_option linter.unusedSimpArgs false
namespace Go.Eng.Srt
open Go Go.Eng
section
variable (key : Int -> Int)
def eC (x y : Int) : Bool := decide (key x ≠ 0) && decide (key x < key y)
def qG (x : Int) : List Int -> List Int
 | [] => [x]
 | y :: r => if eC key x y = true then y :: qG x r else x :: y :: r
def ins (l : List Int) (x : Int) : List Int := (qG key x l.reverse).reverse
def bU (l : List Int) : List Int := l.foldl (ins key) []
inductive Eqv : List Int -> List Int -> Prop
 | refl (a : List Int) : Eqv a a
 | swap (u v w : List Int) (x y : Int) (hx : key x ≠ 0) (hy : key y ≠ 0) (hxy : key x ≠ key y) (h : Eqv (u ++ y :: x :: v) w) : Eqv (u ++ x :: y :: v) w
def bZ : List Int -> Prop
 | x :: y :: r => (key y ≠ 0 -> key x <= key y) /\ bZ (y :: r)
 | _ => True
end
variable {key : Int -> Int}
theorem mC {x y : Int} : eC key x y = true ↔ key x ≠ 0 /\ key x < key y := by simp [eC]
theorem qH {x y : Int} : eC key x y = false ↔ key x = 0 ∨ key y <= key x := by
 simp only [eC, Bool.and_eq_false_imp, decide_eq_true_eq, decide_eq_false_iff_not]
 constructor
 ·intro h; by_cases h0 : key x = 0
  ·exact .inl h0
  ·exact .inr (by have := h h0; omega)
 ·rintro (h | h) h0
  ·exact absurd h h0
  ·omega
theorem zhm {x : Int} : ∀ {B A : List Int}, (∀ y ∈ B, eC key x y = true) -> (A = [] ∨ ∃ z A', A = z :: A' /\ eC key x z = false) -> qG key x (B ++ A) = B ++ x :: A
 | [], A, _, h => by
   rcases h with rfl | ⟨z, A', rfl, h⟩
   ·rfl
   ·simp [qG, h]
 | y :: B, A, hB, h => by
   rw [List.cons_append, qG, if_pos (hB y List.mem_cons_self), zhm (fun z hz => hB z (List.mem_cons_of_mem _ hz)) h]; rfl
theorem kZ {x : Int} {A B : List Int} (h1 : ∀ y ∈ B, eC key x y = true) (h2 : A = [] ∨ ∃ A' z, A = A' ++ [z] /\ eC key x z = false) : ins key (A ++ B) x = A ++ x :: B := by
 unfold ins
 rw [List.reverse_append, zhm (fun y hy => h1 y (List.mem_reverse.1 hy)) (h2.elim (fun e => .inl (by rw [e]; rfl)) fun ⟨A', z, e, h⟩ => .inr ⟨z, A'.reverse, by rw [e]; simp, h⟩)]
 simp
theorem tN (l : List Int) (x : Int) : ∃ A B, l = A ++ B /\ (∀ y ∈ B, eC key x y = true) /\ (A = [] ∨ ∃ A' z, A = A' ++ [z] /\ eC key x z = false) := by
 have : ∀ r : List Int, ∃ B A, r = B ++ A /\ (∀ y ∈ B, eC key x y = true) /\ (A = [] ∨ ∃ z A', A = z :: A' /\ eC key x z = false) := by
  intro r
  induction r with
  | nil => exact ⟨[], [], rfl, (fun y hy => by cases hy), .inl rfl⟩
  | cons y r ih =>
    cases hp : eC key x y with
    | true =>
      obtain ⟨B, A, e, h1, h2⟩ := ih
      exact ⟨y :: B, A, by rw [e]; rfl, fun z hz => by rcases List.mem_cons.1 hz with rfl | hz; exact hp; exact h1 z hz, h2⟩
    | false => exact ⟨[], y :: r, rfl, (fun y hy => by cases hy), .inr ⟨y, r, rfl, hp⟩⟩
 obtain ⟨B, A, e, h1, h2⟩ := this l.reverse
 refine ⟨A.reverse, B.reverse, by rw [<- List.reverse_append, <- e]; simp, fun y hy => h1 y (List.mem_reverse.1 hy), h2.elim (fun e => .inl (by rw [e]; rfl)) fun ⟨z, A', e, h⟩ => .inr ⟨A'.reverse, z, by rw [e]; simp, h⟩⟩
theorem zhn {l : List Int} {x y : Int} (hx : key x ≠ 0) (hxy : key x < key y) : ins key (ins key l y) x = ins key (ins key l x) y := by
 obtain ⟨B1, B2, rfl, b1, b2⟩ := tN (key := key) l y
 obtain ⟨C1, C2, rfl, c1, c2⟩ := tN (key := key) B1 x
 have px : ∀ z ∈ B2, eC key x z = true := fun z hz => mC.2 ⟨hx, by have := (mC.1 (b1 z hz)).2; omega⟩
 rw [kZ b1 b2]
 have e1 : C1 ++ C2 ++ y :: B2 = C1 ++ (C2 ++ y :: B2) := by simp
 have e2 : C1 ++ C2 ++ B2 = C1 ++ (C2 ++ B2) := by simp
 rw [e1, kZ (B := C2 ++ y :: B2) (fun z hz => ?_) c2, e2, kZ (B := C2 ++ B2) (fun z hz => ?_) c2]
 ·have e3 : C1 ++ x :: (C2 ++ B2) = (C1 ++ x :: C2) ++ B2 := by simp
  rw [e3, kZ b1 (.inr ?_)]
  ·simp
  ·rcases C2.eq_nil_or_concat with rfl | ⟨D, z, rfl⟩
   ·exact ⟨C1, x, rfl, qH.2 (.inr (by omega))⟩
   ·refine ⟨C1 ++ x :: D, z, by simp, ?_⟩
    rcases b2 with e | ⟨A', z', e, h⟩
    ·simp at e
    ·have : z = z' := by
      have := congrArg List.getLast? e
      simp at this; exact this
     rw [this]; exact h
 ·rcases List.mem_append.1 hz with hz | hz
  ·exact c1 z hz
  ·exact px z hz
 ·rcases List.mem_append.1 hz with hz | hz
  ·exact c1 z hz
  ·rcases List.mem_cons.1 hz with rfl | hz
   ·exact mC.2 ⟨hx, hxy⟩
   ·exact px z hz
theorem zr3 {l : List Int} {x y : Int} (hx : key x ≠ 0) (hy : key y ≠ 0) (hxy : key x ≠ key y) : ins key (ins key l x) y = ins key (ins key l y) x := by
 rcases Int.lt_or_gt_of_ne hxy with h | h
 ·exact (zhn hx h).symm
 ·exact zhn hy h
theorem tO (l : List Int) (x : Int) : bU key (l ++ [x]) = ins key (bU key l) x := by simp [bU]
theorem Eqv.trans {a b c : List Int} (h : Eqv key a b) (k : Eqv key b c) : Eqv key a c := by
 induction h with
 | refl a => exact k
 | swap u v w x y hx hy hxy h ih => exact .swap u v c x y hx hy hxy (ih k)
theorem Eqv.app {a b : List Int} (h : Eqv key a b) (p q : List Int) : Eqv key (p ++ (a ++ q)) (p ++ (b ++ q)) := by
 induction h with
 | refl a => exact .refl _
 | swap u v w x y hx hy hxy h ih =>
   have := Eqv.swap (p ++ u) (v ++ q) _ x y hx hy hxy (by simpa using ih)
   simpa using this
theorem Eqv.symm {a b : List Int} (h : Eqv key a b) : Eqv key b a := by
 induction h with
 | refl a => exact .refl _
 | swap u v w x y hx hy hxy h ih => exact ih.trans (.swap u v _ y x hy hx (Ne.symm hxy) (.refl _))
theorem z8 {a b : List Int} (h : Eqv key a b) : bU key a = bU key b := by
 induction h with
 | refl a => rfl
 | swap u v w x y hx hy hxy h ih =>
   rw [<- ih]
   simp only [bU, List.foldl_append, List.foldl_cons]
   rw [zr3 hx hy hxy]
theorem Eqv.len {a b : List Int} (h : Eqv key a b) : a.length = b.length := by
 induction h with
 | refl a => rfl
 | swap u v w x y hx hy hxy h ih => rw [<- ih]; simp
theorem Eqv.mem {a b : List Int} (h : Eqv key a b) {z : Int} : z ∈ a ↔ z ∈ b := by
 induction h with
 | refl a => exact Iff.rfl
 | swap u v w x y hx hy hxy h ih => rw [<- ih]; simp only [List.mem_append, List.mem_cons]; exact or_congr_right ⟨fun h => h.elim (fun e => .inr (.inl e)) (fun h => h.elim .inl fun h => .inr (.inr h)), fun h => h.elim (fun e => .inr (.inl e)) (fun h => h.elim .inl fun h => .inr (.inr h))⟩
theorem Eqv.ahead {x : Int} (hx : key x ≠ 0) : ∀ {B : List Int} (q : List Int), (∀ y ∈ B, key y ≠ 0 /\ key y ≠ key x) -> Eqv key (B ++ x :: q) (x :: (B ++ q))
 | [], q, _ => .refl _
 | y :: B, q, h => by
   have h1 := Eqv.ahead hx (B := B) q fun z hz => h z (List.mem_cons_of_mem _ hz)
   have h2 := h1.app [y] []
   simp only [List.append_nil, List.cons_append, List.nil_append] at h2
   obtain ⟨hy, hyx⟩ := h y List.mem_cons_self
   exact h2.trans (.swap [] (B ++ q) _ y x hy hx hyx (.refl _))
theorem zr4 (hk : ∀ x, 0 <= key x) (l : List Int) (x : Int) : Eqv key (l ++ [x]) (ins key l x) := by
 obtain ⟨A, B, rfl, h1, h2⟩ := tN (key := key) l x
 rw [kZ h1 h2]
 by_cases hB : B = []
 ·subst hB; simp; exact .refl _
 ·obtain ⟨y, hy⟩ := List.exists_mem_of_ne_nil B hB
  have hx := (mC.1 (h1 y hy)).1
  have := (Eqv.ahead hx (B := B) [] fun z hz => by have := (mC.1 (h1 z hz)).2; have := hk x; omega).app A []
  simpa using this
theorem fX {p : List Int -> Prop} (h0 : p []) (h1 : ∀ l x, p l -> p (l ++ [x])) (l : List Int) : p l := by
 have : ∀ r : List Int, p r.reverse := by
  intro r
  induction r with
  | nil => exact h0
  | cons x r ih => rw [List.reverse_cons]; exact h1 _ _ ih
 have := this l.reverse
 rwa [List.reverse_reverse] at this
theorem nN (hk : ∀ x, 0 <= key x) (l : List Int) : Eqv key l (bU key l) := by
 induction l using fX with
 | h0 => exact .refl _
 | h1 l x ih =>
   rw [tO]
   have := ih.app [] [x]
   exact Eqv.trans (by simpa using this) (zr4 hk _ x)
theorem zr5 (hk : ∀ x, 0 <= key x) (l : List Int) : bU key (bU key l) = bU key l := (z8 (nN hk l)).symm
theorem j5 : ∀ {A B : List Int}, bZ key (A ++ B) ↔ bZ key A /\ bZ key B /\ (∀ z x, A.getLast? = some z -> B.head? = some x -> key x ≠ 0 -> key z <= key x)
 | [], B => by simp [bZ]
 | [a], [] => by simp [bZ]
 | [a], b :: B => by simp [bZ, and_comm]
 | a :: c :: A, B => by
   have := j5 (A := c :: A) (B := B)
   simp only [List.cons_append, bZ] at this ⊢
   rw [this, List.getLast?_cons_cons, and_assoc]
theorem zr6 {l : List Int} {x : Int} (h : bZ key l) : bZ key (ins key l x) := by
 obtain ⟨A, B, rfl, h1, h2⟩ := tN (key := key) l x
 rw [kZ h1 h2]
 obtain ⟨q1, q2, q3⟩ := j5.1 h
 refine j5.2 ⟨q1, ?_, fun z x' hz hx' hx0 => ?_⟩
 ·cases B with
  | nil => trivial
  | cons y B => exact ⟨fun _ => Int.le_of_lt (mC.1 (h1 y List.mem_cons_self)).2, q2⟩
 ·simp only [List.head?_cons, Option.some.injEq] at hx'
  subst hx'
  rcases h2 with rfl | ⟨A', z', rfl, hp⟩
  ·cases hz
  ·simp at hz; subst hz
   rcases qH.1 hp with h | h
   ·exact absurd h hx0
   ·exact h
theorem zr7 (l : List Int) : bZ key (bU key l) := by
 induction l using fX with
 | h0 => trivial
 | h1 l x ih => rw [tO]; exact zr6 ih
theorem zho {l : List Int} (h : bZ key l) : bU key l = l := by
 revert h
 induction l using fX with
 | h0 => exact fun _ => rfl
 | h1 l x ih =>
   intro h
   obtain ⟨q1, q2, q3⟩ := j5.1 h
   rw [tO, ih q1]
   have := kZ (key := key) (x := x) (A := l) (B := []) (fun y hy => by cases hy) (by
    rcases l.eq_nil_or_concat with rfl | ⟨D, z, rfl⟩
    ·exact .inl rfl
    ·refine .inr ⟨D, z, by simp, qH.2 ?_⟩
     by_cases hx : key x = 0
     ·exact .inl hx
     ·exact .inr (q3 z x (by simp) rfl hx))
   simpa using this
theorem zhp : ∀ {S' S : List Int}, Stab key S S' -> (∀ x ∈ S, key x ≠ 0) -> Eqv key S S'
 | [], S, h, _ => by have := h.len; cases S with | nil => exact .refl _ | cons => simp at this
 | y :: r, S, h, h0 => by
   have hf := h.2 (key y)
   rw [List.filter_cons, if_pos (by simp)] at hf
   obtain ⟨A, B, rfl, hA, hB⟩ := List.filter_eq_cons_iff.1 hf
   have hy : key y ≠ 0 := h0 y (by simp)
   have hA' : ∀ z ∈ A, key z ≠ key y := fun z hz => by have := hA z hz; simpa using this
   have e1 := Eqv.ahead hy (B := A) B fun z hz => ⟨h0 z (by simp [hz]), hA' z hz⟩
   have hs : Stab key (A ++ B) r := by
    refine ⟨(List.perm_cons y).1 ((List.perm_middle.symm).trans h.1), fun c => ?_⟩
    have := h.2 c
    rw [List.filter_append, List.filter_cons, List.filter_cons] at this
    rw [List.filter_append]
    by_cases hc : key y = c
    ·have hn : A.filter (fun x => decide (key x = c)) = [] := List.filter_eq_nil_iff.2 fun z hz => by simp only [decide_eq_true_eq]; intro e; exact hA' z hz (e.trans hc.symm)
     rw [hn] at this ⊢
     simp only [hc, decide_true, if_true, List.nil_append, List.cons.injEq, true_and] at this
     exact this
    ·simp only [hc, decide_false, Bool.false_eq_true, if_false] at this
     exact this
   have e2 := (zhp hs fun z hz => h0 z (by rcases List.mem_append.1 hz with hz | hz <;> simp [hz])).app [y] []
   simp only [List.append_nil, List.cons_append, List.nil_append] at e2
   exact e1.trans e2
theorem zhq : ∀ {S : List Int}, Srtd key S -> bZ key S
 | [], _ => trivial
 | [a], _ => trivial
 | a :: b :: S, h => ⟨fun _ => (List.pairwise_cons.1 h).1 b List.mem_cons_self, zhq (List.pairwise_cons.1 h).2⟩
theorem tP (L : List Int) {i j : Nat} (hij : i <= j) (hj : j <= L.length) : L = L.take i ++ ((L.take j).drop i ++ L.drop j) /\ (L.take i).length = i /\ ((L.take j).drop i).length = j - i := by
 refine ⟨?_, by rw [List.length_take]; omega, by rw [List.length_drop, List.length_take]; omega⟩
 have h1 : L = L.take j ++ L.drop j := (List.take_append_drop j L).symm
 have h2 : L.take j = (L.take j).take i ++ (L.take j).drop i := (List.take_append_drop i _).symm
 rw [List.take_take, Nat.min_eq_left hij] at h2
 rw [<- List.append_assoc, <- h2]; exact h1
theorem zr8 (hk : ∀ x, 0 <= key x) {L : List Int} {i j : Nat} (hij : i <= j) (hj : j <= L.length) (hb : i = 0 ∨ key (L.getD (i - 1) 0) = 0) (hnz : ∀ k, i <= k -> k < j -> key (L.getD k 0) ≠ 0) (hend : j = L.length ∨ key (L.getD j 0) = 0)
 (hc : bZ key (L.take i)) {S' : List Int} (hs : Srtd key S') (hst : Stab key ((L.take j).drop i) S') :
 Eqv key L (L.take i ++ (S' ++ L.drop j)) /\ bZ key ((L.take i ++ (S' ++ L.drop j)).take (j + 1)) /\ (j < L.length -> key ((L.take i ++ (S' ++ L.drop j)).getD j 0) = 0) := by
 obtain ⟨c1, c2, c3⟩ := tP L hij hj
 have hl : S'.length = j - i := by rw [<- hst.len]; exact c3
 refine ⟨?_, ?_, fun hlt => ?_⟩
 ·have hm : ∀ x ∈ (L.take j).drop i, key x ≠ 0 := fun x hx => by
   obtain ⟨k, hk1, hk2⟩ := List.getElem_of_mem hx
   have := hnz (i + k) (by omega) (by omega)
   rw [List.getElem_drop, List.getElem_take] at hk2
   have hl2 : i + k < L.length := by omega
   simp only [List.getD, List.getElem?_eq_getElem hl2, Option.getD_some, hk2] at this
   exact this
  have := (zhp hst hm).app (L.take i) (L.drop j)
  rwa [<- c1] at this
 ·rw [List.take_append, c2, List.take_of_length_le (by omega), List.take_append, hl, List.take_of_length_le (by omega : S'.length <= j + 1 - i), show j + 1 - i - (j - i) = 1 by omega]
  have hR : ∀ x, ((L.drop j).take 1).head? = some x -> key x = 0 := fun x hx => by
   rcases hend with e | e
   ·rw [List.drop_eq_nil_of_le (by omega)] at hx; cases hx
   ·rcases Nat.lt_or_ge j L.length with h' | h'
    ·rw [List.drop_eq_getElem_cons h'] at hx
     simp only [List.take_succ_cons, List.head?_cons, Option.some.injEq] at hx
     rw [<- hx]
     simpa [List.getD, List.getElem?_eq_getElem h'] using e
    ·rw [List.drop_eq_nil_of_le h'] at hx; cases hx
  refine j5.2 ⟨hc, j5.2 ⟨zhq hs, ?_, fun z x _ hx h0 => absurd (hR x hx) h0⟩, fun z x hz hx h0 => ?_⟩
  ·cases L.drop j with
   | nil => trivial
   | cons a r => trivial
  ·have : key z = 0 := by
    rcases hb with rfl | hb
    ·simp at hz
    ·rw [List.getLast?_eq_getElem?, c2] at hz
     by_cases h0 : i = 0
     ·subst h0; simp at hz
     ·rw [List.getElem?_take, if_pos (by omega)] at hz
      simpa [List.getD, hz] using hb
   rw [this]; exact hk x
 ·rcases hend with e | e
  ·omega
  ·rw [<- List.append_assoc]
   simp only [List.getD] at e ⊢
   rw [List.getElem?_append_right (by simp only [List.length_append]; omega), List.length_append, c2, hl, List.getElem?_drop, show j + (j - (i + (j - i))) = j by omega]
   exact e
theorem zr9 {S : List Int} (h : S.length <= 1) : Srtd key S := by
 match S, h with
 | [], _ => exact List.Pairwise.nil
 | [a], _ => exact List.pairwise_singleton _ _
end Go.Eng.Srt


set_option maxRecDepth 100000
namespace Go.Eng
open Go Go.Proofs Go.Eng.Rows Go.Eng.Srt
section
variable {Z : World -> (Nat -> Prop) -> (Nat -> Pl) -> Hp -> Prop} {key : Int -> Int} {nl : Bool} {T : PV} {l : Nat} {y : Value} {es : List (List PV)}
theorem eI0 (Q : Qt) : dI Tryz.prog (fun _ => none) 5 39 lM (fun _ => none) (dN (cM Tryz.f161)) (fF [.pv (.raw y), .box 4 0, .box 3 0] 0) (aM nl T es) Q = Q .normal (eN y 0) (aM nl T es) := by kernel_rfl
theorem eI1 (i : Int) (Q : Qt) : dI Tryz.prog (fun _ => none) 5 39 lM (fun _ => none) (dN (cL Tryz.f161)) (eN y i) (aM nl T es) Q =
 if decide (i < (es.length : Int)) = true then Q .normal [(0, .pv (.raw y)), (1, .box 4 0), (2, .box 3 0), (4, .pv (.int .i64 i)), (9, .pv (.bool (decide (i < (es.length : Int)))))] (aM nl T es)
 else Q (.exit 0) [(0, .pv (.raw y)), (1, .box 4 0), (2, .box 3 0), (4, .pv (.int .i64 i)), (9, .pv (.bool (decide (i < (es.length : Int)))))] (aM nl T es) := by kernel_rfl
theorem eI3 (i : Int) (Q : Qt) : dI Tryz.prog (fun _ => none) 5 39 lM (fun _ => none) (dN (cB Tryz.f161)) (eN y i) (aM nl T es) Q = Q .normal (eM y i i) (aM nl T es) := by kernel_rfl
theorem eI2 (i : Int) (Q : Qt) : dI Tryz.prog (fun _ => none) 5 39 lM (fun _ => none) (cT (cT (cL Tryz.f161))) (eN y i) (aM nl T es) Q = Q .normal (eN y (i64.wrap (i + 1))) (aM nl T es) := by kernel_rfl
def zaa (y : Value) (i f : Int) (b : Bool) : Env := [(0, .pv (.raw y)), (1, .box 4 0), (2, .box 3 0), (4, .pv (.int .i64 i)), (5, .pv (.int .i64 f)), (25, .pv (.bool b))]
theorem eI4 (i f : Int) (J : Int -> Prop) (μ : Int -> Nat) (Q : Qt) : dI Tryz.prog (fun _ => none) 5 39 lM (fun zz_ => match zz_ with | 4 => some ⟨Int × Unit, fun s => (eM y s.1 f, aM nl T es), fun _ s => J s.1, fun s => μ s.1, fun e h => (gI e 4, ()), [], [0, 1, 2, 4, 5], [], fun p => ∀ (x4 : Int), p (x4, ()), fun p h s => h s.1⟩ | _ => none) (dN (cT (cB Tryz.f161))) (eM y i f) (aM nl T es) Q =
 ((SameSt (eM y i f, aM nl T es) (eM y i f, aM nl T es) /\ J i) /\ ∀ (x4 : Int), J x4 -> if decide (x4 < (es.length : Int)) = true then aK es x4 1 /\ ∃ (n : Int), (List.drop 0 (es.getD x4.toNat [])).head? = some (.int .i32 n) /\ PCall Tryz.prog 80 [T, .int .i32 n] fun (v : PV) => ∃ (n1 : Int), v = .int .i64 n1 /\
  if (n1 != (0 : Int)) = true then SameSt (eM y (i64.wrap (x4 + 1)) f, aM nl T es) (eM y (i64.wrap (x4 + 1)) f, aM nl T es) /\ J (i64.wrap (x4 + 1)) /\ μ (i64.wrap (x4 + 1)) < μ x4
  else Q .normal (zaa y x4 f (n1 != (0 : Int))) (aM nl T es)
   else Q .normal (zaa y x4 f false) (aM nl T es)) := by kernel_rfl
theorem zab : cM Tryz.f161 = .seq (dN (cM Tryz.f161)) (.block 0 (.loop (cL Tryz.f161))) /\
 cL Tryz.f161 = .seq (dN (cL Tryz.f161)) (.seq (.block 1 (cB Tryz.f161)) (cT (cT (cL Tryz.f161)))) /\
 cB Tryz.f161 = .seq (dN (cB Tryz.f161)) (.seq (dN (cT (cB Tryz.f161))) (.seq (dJ Tryz.f161) (.cond (.tmp 38) .ret .skip))) := ⟨by kernel_rfl, by kernel_rfl, by kernel_rfl⟩
theorem CodeZ.le {P : Program} {N : Nat} {c : Code} {e e' : Env} {h : Hp} {Q : Qt} (hl : LeE e' e) (hK : CodeZ Z P N c e' h Q) : CodeZ Z P N c e h Q :=
 fun w I G a Qx hs hz hq => hK w I G a Qx (hs.le hl.le) hz hq
theorem zsa (hk : ∀ x, 0 <= key x) (hT : ∀ r : Int, (-2147483648 <= r /\ r <= 2147483647) -> PCall Tryz.prog 80 [T, .int .i32 r] fun v => v = .int .i64 (key r)) 
 (hZ : ∀ w I G h w' I' G' h', Z w I G h -> HRel w I G h -> HRel w' I' G' h' -> TrN 5 w I G h w' I' G' h' -> Z w' I' G' h') (L0 : List Int) (hY : z7 Z key nl T l L0.length) (hr : R32 L0) (hL : L0.length < 1000000000000) :
 CodeZ Z Tryz.prog 39 (cM Tryz.f161) (fF [.pv (.raw (.func (.yield l) #[] #[])), .box 4 0, .box 3 0] 0) (aM nl T (aA L0)) fun x e h => x = .normal /\ h = aM nl T (aA (bU key L0)) := by
 obtain ⟨y, hy⟩ : ∃ y : Value, y = .func (.yield l) #[] #[] := ⟨_, rfl⟩
 rw [zab.1, <- hy]
 refine CodeZ.seq (CodeZ.of (n0 := 5) hZ (gY (Eq.mpr (eI0 _) ?_)))
 show CodeZ Z Tryz.prog 39 (.block 0 (.loop (cL Tryz.f161))) (eN y 0) (aM nl T (aA L0)) _
 refine CodeZ.block (CodeZ.loop (σ := Nat × List Int) (fun s => (eN y s.1, aM nl T (aA s.2))) (fun s => s.1 <= L0.length + 1 /\ Eqv key L0 s.2 /\ bZ key (s.2.take s.1) /\ (s.1 = 0 ∨ L0.length < s.1 ∨ key (s.2.getD (s.1 - 1) 0) = 0)) (fun s => L0.length + 1 - s.1) (0, L0) (LeE.le ⟨rfl, rfl, rfl, rfl, trivial⟩) rfl ⟨by omega, .refl _, by simp [bZ], .inl rfl⟩ ?_)
 rintro ⟨i, L⟩ ⟨hi, hq, hc, hb⟩
 have hlen := hq.len
 have hr' : R32 L := fun x hx => hr x (hq.mem.2 hx)
 dsimp only at hi hq hc hb hlen ⊢
 rw [zab.2.1]
 refine CodeZ.seq (CodeZ.of (n0 := 5) hZ (gY (Eq.mpr (eI1 _ _) ?_)))
 by_cases hlt : i < L.length
 ·rw [if_pos (by simpa using hlt)]
  show CodeZ Z Tryz.prog 39 (.seq (.block 1 (cB Tryz.f161)) (cT (cT (cL Tryz.f161)))) _ _ _
  refine CodeZ.le (e' := eN y i) ⟨rfl, rfl, rfl, rfl, trivial⟩ (CodeZ.seq (CodeZ.block ?_))
  rw [zab.2.2]
  refine CodeZ.seq (CodeZ.of (n0 := 5) hZ (gY (Eq.mpr (eI3 _ _) ?_)))
  show CodeZ Z Tryz.prog 39 (.seq (dN (cT (cB Tryz.f161))) (.seq (dJ Tryz.f161) (.cond (.tmp 38) .ret .skip))) (eM y i i) _ _
  refine CodeZ.seq (CodeZ.of (n0 := 5) hZ (gY (Eq.mpr (eI4 _ _ (fun x => ∃ j : Nat, x = j /\ i <= j /\ j <= L.length /\ ∀ k, i <= k -> k < j -> key (L.getD k 0) ≠ 0) (fun x => ((L.length : Int) - x).toNat) _) ?_)))
  refine ⟨⟨rfl, i, rfl, Nat.le_refl _, by omega, fun k h1 h2 => by omega⟩, ?_⟩
  rintro _ ⟨j, rfl, hij, hj, hnz⟩
  -- what follows the row of marks
  have rest : ∀ b, (j = L.length ∨ key (L.getD j 0) = 0) -> CodeZ Z Tryz.prog 39 (.seq (dJ Tryz.f161) (.cond (.tmp 38) .ret .skip)) (zaa y j i b) (aM nl T (aA L)) fun x e h => match x with
   | .normal => CodeZ Z Tryz.prog 39 (cT (cT (cL Tryz.f161))) e h fun x e h => match x with
     | .normal => ∃ s' : Nat × List Int, (∀ i v, get (eN y s'.1) i = some v -> get e i = some v) /\ h = aM nl T (aA s'.2) /\ (s'.1 <= L0.length + 1 /\ Eqv key L0 s'.2 /\ bZ key (s'.2.take s'.1) /\ (s'.1 = 0 ∨ L0.length < s'.1 ∨ key (s'.2.getD (s'.1 - 1) 0) = 0)) /\ L0.length + 1 - s'.1 < L0.length + 1 - i
     | _ => False
   | _ => False := fun b hend => by
   refine CodeZ.le (e' := eM y j i) ⟨rfl, rfl, rfl, rfl, rfl, trivial⟩ (CodeZ.seq ?_)
   rw [hy]
   refine (zr2 hY hZ L i j hij hj hr' (by omega) hlen.symm).mono ?_
   rintro _ _ _ ⟨L', rfl, hL', rfl, rfl⟩
   refine CodeZ.cond (t := false) rfl ?_
   simp only [Bool.false_eq_true, if_false]
   refine CodeZ.skip ?_
   rw [<- hy]
   refine CodeZ.le (e' := eN y j) ⟨rfl, rfl, rfl, rfl, trivial⟩ (CodeZ.of (n0 := 5) hZ (gY (Eq.mpr (eI2 _ _) ?_)))
   have wj : i64.wrap ((j : Int) + 1) = ((j + 1 : Nat) : Int) := by rw [aC (by omega) (by omega)]; omega
   rw [wj]
   have hb' : i = 0 ∨ key (L.getD (i - 1) 0) = 0 := by
    rcases hb with h | h | h
    ·exact .inl h
    ·omega
    ·exact .inr h
   obtain ⟨S', hs, hst, rfl⟩ : ∃ S', Srtd key S' /\ Stab key ((L.take j).drop i) S' /\ L' = L.take i ++ (S' ++ L.drop j) := by
    by_cases h1 : i + 1 < j
    ·rw [if_pos h1] at hL'
     obtain ⟨S', e, h2, h3⟩ := hL'
     exact ⟨S', h2, h3, e⟩
    ·rw [if_neg h1] at hL'
     obtain ⟨c1, c2, c3⟩ := tP L hij hj
     exact ⟨_, zr9 (by omega), Stab.refl _, hL'.trans c1⟩
   obtain ⟨g1, g2, g3⟩ := zr8 hk hij hj hb' hnz hend hc hs hst
   refine ⟨(j + 1, _), LeE.le ⟨rfl, rfl, rfl, rfl, trivial⟩, rfl, ⟨by dsimp only; omega, hq.trans g1, g2, ?_⟩, by dsimp only; omega⟩
   rcases Nat.lt_or_ge j L.length with h | h
   ·exact .inr (.inr (g3 h))
   ·exact .inr (.inl (by dsimp only; omega))
  by_cases hjl : j < L.length
  ·rw [if_pos (by simpa using hjl)]
   refine ⟨bW (enc := fun n => [PV.int .i32 n]) (l := L) (fun _ => rfl) (by omega) (by omega), L.getD j 0, by rw [Int.toNat_natCast, zd6 hjl]; rfl, (hT _ (hr' _ (List.mem_of_getElem? (qE hjl)))).mono ?_⟩
   rintro _ rfl
   refine ⟨_, rfl, ?_⟩
   by_cases hz : key (L.getD j 0) = 0
   ·rw [if_neg (by simpa using hz)]
    exact (rest _ (.inr hz)).mono fun x e h hx => by cases x <;> first | exact hx.elim | exact CodeZ.mono hx fun x e h hx => (by cases x <;> first | exact hx | exact hx.elim)
   ·rw [if_pos (by simpa using hz)]
    have wj : i64.wrap ((j : Int) + 1) = ((j + 1 : Nat) : Int) := by rw [aC (by omega) (by omega)]; omega
    rw [wj]
    refine ⟨rfl, ⟨j + 1, rfl, by omega, hjl, fun k h1 h2 => ?_⟩, by omega⟩
    rcases Nat.lt_or_ge k j with h | h
    ·exact hnz k h1 h
    ·have : k = j := by omega
     subst this; exact hz
  ·rw [if_neg (by simpa using hjl)]
   exact (rest _ (.inl (by omega))).mono fun x e h hx => by cases x <;> first | exact hx.elim | exact CodeZ.mono hx fun x e h hx => (by cases x <;> first | exact hx | exact hx.elim)
 ·rw [if_neg (by simpa using hlt)]
  refine ⟨rfl, ?_⟩
  rw [List.take_of_length_le (by omega)] at hc
  rw [z8 hq, zho hc]
end
end Go.Eng



namespace Go.Eng
open Go Go.Proofs Go.Eng.Rows Go.Eng.Srt
section
variable {w w' : World} {I I' : Nat -> Prop} {G G' : Nat -> Pl} {h h' : Hp}
theorem HRel.off (hh : HRel w I G h) {l : Nat} (o : Obj) (hI : ¬ I l) (ho : ¬ aW h G l) : HRel (w.putObj l o) I G h := by
 have hw : ∀ b, b ≠ l -> (w.putObj l o).heap[b]? = w.heap[b]? := fun b hb => World.putObj_heap_other hb
 have hk : Keeps w I (w.putObj l o) I := ⟨fun b hb _ => hw b fun e => hI (e ▸ hb), fun b hb _ => hb⟩
 have blk : ∀ (i : Nat) x, h[i]? = some x -> x.alive (G i) -> (G i).blk ≠ l := fun i x hx ha e => ho ⟨i, x, hx, ha, e⟩
 refine ⟨fun i x hx => ?_, hh.sep, hh.nI, fun b hb => by rw [World.putObj_size]; exact hh.cl b hb⟩
 have := hh.obs i x hx
 cases x with
 | dead => trivial
 | box cs => obtain ⟨vs, ty, e1, e2, e3⟩ := this; exact ⟨vs, ty, by rw [hw _ (blk i _ hx trivial)]; exact e1, e2, fun k v hv => ⟨(e3 k v hv).1.mono hk (.refl _ _), (e3 k v hv).2⟩⟩
 | arr cs => obtain ⟨vs, ty, e1, e2, e3⟩ := this; exact ⟨vs, ty, by rw [hw _ (blk i _ hx trivial)]; exact e1, e2, fun k v hv => ⟨(e3 k v hv).1.mono hk.1 hk.2, (e3 k v hv).2⟩⟩
 | sl ty m n es =>
   cases n with
   | true => exact this
   | false =>
     obtain ⟨e1, e2, e3, e3', e4, e5⟩ := this
     refine ⟨e1, e2, e3, e3', e4, fun hc => ?_⟩
     obtain ⟨vs, f1, f2, f3⟩ := e5 hc
     exact ⟨vs, by rw [hw _ (blk i _ hx ⟨rfl, hc⟩)]; exact f1, f2, fun i' e he k v hv => ⟨(f3 i' e he k v hv).1.mono hk.1 hk.2, (f3 i' e he k v hv).2⟩⟩
 | mp kvs => obtain ⟨es, ck, e1, e2, e3⟩ := this; exact ⟨es, ck, by rw [hw _ (blk i _ hx trivial)]; exact e1, e2, fun k kv hv => ⟨(e3 k kv hv).1.mono hk.1 hk.2, (e3 k kv hv).2.mono hk.1 hk.2⟩⟩
 | iter ty rem cur => exact IterRel.mono this (hw _ (blk i _ hx trivial)) hk
theorem j6 (hh : HRel w I G h) {b : Nat} {o : Obj} (ho : w.heap[b]? = some o) (hn : (match o with | .cells .. => true | .map .. => true | .mapIter .. => true | _ => false) = false) : ¬ aW h G b := by
 rintro ⟨i, ob, hi, ha, rfl⟩
 have := hh.obs i ob hi
 cases ob with
 | dead => exact ha
 | box cs => obtain ⟨vs, ty, e1, _⟩ := this; rw [ho] at e1; cases e1; cases hn
 | arr cs => obtain ⟨vs, ty, e1, _⟩ := this; rw [ho] at e1; cases e1; cases hn
 | sl ty m n es =>
   cases n with
   | true => exact absurd ha.1 (by simp)
   | false => obtain ⟨vs, e1, _⟩ := this.2.2.2.2.2 ha.2; rw [ho] at e1; cases e1; cases hn
 | mp kvs => obtain ⟨es, ck, e1, _⟩ := this; rw [ho] at e1; cases e1; cases hn
 | iter ty rem cur => obtain ⟨_, _, _, _, _, _, e1, _⟩ := this; rw [ho] at e1; cases e1; cases hn
theorem Tr.off {own own' : Nat -> Prop} (t : Tr w I own w' I' own') {l : Nat} (hl : w.heap.size <= l) (o : Obj) : Tr w I own (w'.putObj l o) I' own' :=
 ⟨t.os, t.tape, t.output, by rw [World.putObj_size]; exact t.size, fun b hb hn => (World.putObj_heap_other (by omega)).trans (t.keep b hb hn), t.i1, t.i2, t.own2,
  fun a ha => (World.frozen?_of_block (World.putObj_heap_other (by omega))).trans (t.frz a ha), t.drawn⟩
theorem TrN.off {n0 : Nat} (t : TrN n0 w I G h w' I' G' h') {l : Nat} (hl : w.heap.size <= l) (o : Obj) : TrN n0 w I G h (w'.putObj l o) I' G' h' := ⟨t.t.off hl o, t.len, t.stay⟩
theorem qI (hh : HRel w I G h) (t : Tr w I (aW h G) w' I' (aW h' G')) : Keeps w I w' I' :=
 ⟨fun b hb hlt => t.keep b hlt fun ⟨o, ob, h1, h2, e⟩ => hh.nI o ob h1 h2 (e ▸ hb), fun b hb _ => t.i1 b hb⟩
theorem Keeps.trans {w1 w2 : World} {I1 I2 : Nat -> Prop} (h : Keeps w I w1 I1) (hs : w.heap.size <= w1.heap.size) (k : Keeps w1 I1 w2 I2) : Keeps w I w2 I2 :=
 ⟨fun b hb hlt => (k.1 b (h.2 b hb hlt) (Nat.lt_of_lt_of_le hlt hs)).trans (h.1 b hb hlt), fun b hb hlt => k.2 b (h.2 b hb hlt) (Nat.lt_of_lt_of_le hlt hs)⟩
theorem Keeps.off {l : Nat} (hI : ¬ I l) (o : Obj) : Keeps w I (w.putObj l o) I := ⟨fun b hb _ => World.putObj_heap_other fun e => hI (e ▸ hb), fun b hb _ => hb⟩
structure ZR (W0 : World) (I0 : Nat -> Prop) (G0 : Nat -> Pl) (h0 : Hp) (l D : Nat) (rec : Loop) (W : World) (I : Nat -> Prop) (G : Nat -> Pl) (h : Hp) : Prop where
 t : TrN 5 W0 I0 G0 h0 W I G h
 hl : W.heap[l]? = some (.loop rec)
 hD : W.heap[D]? = some (.deferred (some []))
 nl : ¬ I l
 nD : ¬ I D
theorem ZR.step {W0 : World} {I0 : Nat -> Prop} {G0 : Nat -> Pl} {h0 : Hp} {l D : Nat} {rec : Loop} (z : ZR W0 I0 G0 h0 l D rec w I G h) (hh : HRel w I G h) (t : TrN 5 w I G h w' I' G' h') : ZR W0 I0 G0 h0 l D rec w' I' G' h' := by
 have l1 := (Array.getElem?_eq_some_iff.1 z.hl).1
 have l2 := (Array.getElem?_eq_some_iff.1 z.hD).1
 have n1 := j6 hh z.hl rfl
 have n2 := j6 hh z.hD rfl
 exact ⟨z.t.trans t, (t.t.keep l l1 n1).trans z.hl, (t.t.keep D l2 n2).trans z.hD, fun x => (t.t.i2 l x).elim z.nl (fun x => x.elim n1 fun x => by omega), fun x => (t.t.i2 D x).elim z.nD (fun x => x.elim n2 fun x => by omega)⟩
end
section
variable {key : Int -> Int} {nl : Bool} {T : PV}
theorem zac {G G' : Nat -> Pl} {es es' : List (List PV)} (hl : es.length = es'.length) (hG : ∀ o, o < 5 -> G' o = G o) : Like G G' (aM nl T es) (aM nl T es') := by
 intro o ob ho
 have hlt : o < 5 := (List.getElem?_eq_some_iff.1 ho).1
 refine ⟨?_, fun _ => hG o hlt⟩
 match o, ho with
 | 0, ho => cases ho; exact ⟨_, rfl, trivial⟩
 | 1, ho => cases ho; exact ⟨_, rfl, rfl, rfl, hl⟩
 | 2, ho => cases ho; exact ⟨_, rfl, trivial⟩
 | 3, ho => cases ho; exact ⟨_, rfl, trivial⟩
 | 4, ho => cases ho; exact ⟨_, rfl, trivial⟩
theorem tQ {w w' : World} {I I' : Nat -> Prop} {G G' : Nat -> Pl} {es es' : List (List PV)} (t : TrN 5 w I G (aM nl T es) w' I' G' (aM nl T es')) : ∀ o, o < 5 -> G' o = G o := by
 intro o ho
 have hs := t.stay (Nat.le_refl _)
 match o, ho with
 | 0, _ => exact (hs 0 _ (by omega) rfl rfl).1
 | 1, _ => exact (hs 1 _ (by omega) rfl rfl).1
 | 2, _ => exact (hs 2 _ (by omega) rfl rfl).1
 | 3, _ => exact (hs 3 _ (by omega) rfl rfl).1
 | 4, _ => exact (hs 4 _ (by omega) rfl rfl).1
theorem eA3 (es : List (List PV)) (i f : Int) (K : Env -> Hp -> Prop) : cA Tryz.prog (fun _ => none) 22 (cJ (dN (fQ (cU Tryz.f121)))).toList (cJ (dN (fQ (cU Tryz.f121)))).toList (eO f i) (aM nl T es) K = K ((6, .pv (.int .i64 f)) :: eO f i) (aM nl T es) := by kernel_rfl
theorem eA4 (es : List (List PV)) (i f : Int) (K : Env -> Hp -> Prop) : cA Tryz.prog (fun _ => none) 22 (cJ (cT (fQ (cU Tryz.f121)))).toList (cJ (cT (fQ (cU Tryz.f121)))).toList ((6, .pv (.int .i64 f)) :: eO f i) (aM nl T es) K = K ((7, .pv (.int .i64 i)) :: (6, .pv (.int .i64 f)) :: eO f i) (aM nl T es) := by kernel_rfl
theorem eA5 (es : List (List PV)) (i f : Int) (K : Env -> Hp -> Prop) : cA Tryz.prog wK 22 (cJ (iL (fR (cU Tryz.f121)))).toList (cJ (iL (fR (cU Tryz.f121)))).toList ((7, .pv (.int .i64 i)) :: (6, .pv (.int .i64 f)) :: eO f i) (aM nl T es) K =
 (dB es.length (some f) (some i) none /\ ACall Tryz.prog 144 [.sub 0 f.toNat i.toNat, .fn 145 [.box 1 0]] [.sl (21, 1) false nl es, .box [.pv T]] fun (r : LV) (h' : Hp) => ∃ (t : List (List PV)), (r = .tup [] /\ h' = [.sl (21, 1) false nl t, .box [.pv T]]) /\
  (True /\ (((21, 1) : Nat × Nat) = (21, 1) /\ nl = nl /\ es.length = t.length) /\ True) /\ K ((20, .tup []) :: (19, .fn 145 [.box 0 0]) :: (18, .sub 1 f.toNat i.toNat) :: (17, .pv (.int .i64 i)) :: (16, .pv (.int .i64 f)) :: (15, .own 1) :: (7, .pv (.int .i64 i)) :: (6, .pv (.int .i64 f)) :: eO f i) (aM nl T t)) := by kernel_rfl
theorem zhr : fQ (cU Tryz.f121) = .seq (.region 3 (cJ (dN (fQ (cU Tryz.f121)))) false) (.region 4 (cJ (cT (fQ (cU Tryz.f121)))) false) /\ fR (cU Tryz.f121) = .block 1 (.region 5 (cJ (iL (fR (cU Tryz.f121)))) false) /\
 cU Tryz.f121 = .rangeFunc (.tmp 12) #[13, 14] (fQ (cU Tryz.f121)) (fR (cU Tryz.f121)) /\ iY (cJ (dN (fQ (cU Tryz.f121)))).toList = true /\ iY (cJ (cT (fQ (cU Tryz.f121)))).toList = true /\ iY (cJ (iL (fR (cU Tryz.f121)))).toList = true :=
 ⟨by kernel_rfl, by kernel_rfl, by kernel_rfl, by kernel_rfl, by kernel_rfl, by kernel_rfl⟩
theorem zsb (hc : jA T key) {W0 : World} {I0 : Nat -> Prop} {G0 : Nat -> Pl} {L0 : List Int} {a : Act} {v12 : LV} (hs0 : SRel W0 I0 G0 [(2, .box 0 0), (5, .box 2 0), (12, v12)] (aM nl T (aA L0)) 22 a) (rec : Loop)
 (r1 : rec.state = .ready) (r2 : rec.pending = none) (r3 : rec.tmps = a.tmps) (r4 : rec.params = #[13, 14]) (r5 : rec.assign = fQ (cU Tryz.f121)) (r6 : rec.body = fR (cU Tryz.f121)) :
 z7 (ZR W0 I0 G0 (aM nl T (aA L0)) (W0.heap.size + 1) W0.heap.size rec) key nl T (W0.heap.size + 1) L0.length := by
 intro w I G L f i hh hz hfi hil hr hLn hN
 obtain ⟨l, hl⟩ : ∃ l, l = W0.heap.size + 1 := ⟨_, rfl⟩
 have hWl : W0.heap.size <= l := by omega
 rw [<- hl] at hz ⊢
 refine ⟨_, _, _, _, run_yield (P := Tryz.prog) hz.hl (by rw [r4]; rfl), roundIn_of_wpIn trivial ?_⟩
 have hlt := (Array.getElem?_eq_some_iff.1 hz.hl).1
 have hel : ∀ L' : List Int, L'.length = L.length -> (aA L0).length = (aA L').length := fun L' h => by simp [hN, h]
 have hs : SRel w I G (eO f i) (aM nl T (aA L)) 22 { tmps := (a.tmps.setIfInBounds 13 (.int .i64 f)).setIfInBounds 14 (.int .i64 i), defers := [] } := by
  have h1 := hs0.he.mono (qI hs0.hh hz.t.t) (zac (hel L rfl) (tQ hz.t))
  have h2 := h1.set (d := 13) (v := .pv (.int .i64 f)) (by rw [hs0.hn]; omega) (.pv _ _ (.int .i64 f)) (fun _ _ _ e => by cases e)
  have h3 := h2.set (d := 14) (v := .pv (.int .i64 i)) (by simp [hs0.hn]) (.pv _ _ (.int .i64 i)) (fun _ _ _ e => by cases e)
  exact ⟨hh, fun k v hk => h3 k v ((LeE.le (e' := eO f i) ⟨rfl, rfl, rfl, rfl, trivial⟩) k v hk), by simp [hs0.hn]⟩
 obtain ⟨q1, q2, q3, q4, q5, q6⟩ := zhr
 rw [r5, q1, r4, r3]
 have hfold : ∀ x y : Value, (((#[13, 14] : Array Tmp).zip #[x, y]).foldl (fun tmps (t, a) => tmps.setIfInBounds t a) a.tmps) = (a.tmps.setIfInBounds 13 x).setIfInBounds 14 y := fun x y => by simp
 rw [hfold]
 refine wpIn_seq ?_
 show Code.wpIn (wd (some l)) 0 Tryz.prog _ (Exit.then (Code.wpIn (wd (some l)) 0 Tryz.prog _ _) _) { tmps := (a.tmps.setIfInBounds 13 (.int .i64 f)).setIfInBounds 14 (.int .i64 i), defers := [] } w
 refine wL q4 (by rw [eA3]; exact ⟨rfl, rfl⟩ : cA Tryz.prog (fun _ => none) 22 _ _ _ _ (fun e' h' => e' = _ /\ h' = _)) hs ?_ ?_
 ·exact fun a w h => h
 rintro _ _ w1 I1 G1 a1 ⟨rfl, rfl⟩ hs1 hd1 ht1
 refine wL q5 (by rw [eA4]; exact ⟨rfl, rfl⟩ : cA Tryz.prog (fun _ => none) 22 _ _ _ _ (fun e' h' => e' = _ /\ h' = _)) hs1 ?_ ?_
 ·exact fun a w h => h
 rintro _ _ w2 I2 G2 a2 ⟨rfl, rfl⟩ hs2 hd2 ht2
 have z1 := hz.step hh ht1.toN
 have z2 := z1.step hs1.hh ht2.toN
 refine ⟨_, run_beginRound z2.hl r1, ?_⟩
 have n2 := j6 hs2.hh z2.hl rfl
 have l2 := (Array.getElem?_eq_some_iff.1 z2.hl).1
 have hs3 : SRel (w2.putObj l (.loop { rec with state := .busy })) I2 G2 _ _ 22 a2 := ⟨hs2.hh.off _ z2.nl n2, hs2.he.mono (Keeps.off z2.nl _) (.refl _ _), hs2.hn⟩
 have hp3 : (w2.putObj l (.loop { rec with state := .busy })).heap[l]? = some (.loop { rec with state := .busy }) := World.putObj_heap_same l2
 have hb : ∀ {c : Code} {Q a w}, c = fR (cU Tryz.f121) -> Code.wpIn (wd (some l)) 0 Tryz.prog (.block 1 (.region 5 (cJ (iL (fR (cU Tryz.f121)))) false)) Q a w -> Code.wpIn (wd (some l)) 0 Tryz.prog c Q a w := fun e h => by rw [e, q2]; exact h
 refine hb r6 ?_
 have h5 : cA Tryz.prog wK 22 (cJ (iL (fR (cU Tryz.f121)))).toList (cJ (iL (fR (cU Tryz.f121)))).toList ((7, .pv (.int .i64 i)) :: (6, .pv (.int .i64 f)) :: eO f i) (aM nl T (aA L)) (fun _ h' => ∃ L', YQ key L f i L' /\ h' = aM nl T (aA L')) := by
  rw [eA5, Int.toNat_natCast, Int.toNat_natCast]
  obtain ⟨c1, c2, c3⟩ := tP L (show f <= i by omega) hil
  have e : aA L = aA (L.take f ++ ((L.take i).drop f ++ L.drop i)) := congrArg aA c1
  refine ⟨⟨by simp, by simp; omega, by simp; omega, trivial⟩, ?_⟩
  rw [e]
  refine (zrx hc f i nl (L.take f) ((L.take i).drop f) (L.drop i) c2 (by omega) (by rw [<- c1]; exact hr) (by omega)).mono ?_
  rintro r h' ⟨S', rfl, rfl, s1, k1⟩
  refine ⟨_, ⟨rfl, rfl⟩, ⟨trivial, ⟨rfl, rfl, ?_⟩, trivial⟩, _, ⟨S', rfl, s1, k1⟩, rfl⟩
  have := k1.len
  simp only [aS, List.length_append]; omega
 refine wpIn_block ?_
 show Code.wpIn (wd (some l)) 0 Tryz.prog _ _ _ _
 refine wL (H := wK) (ro := some l) (n := 0) (id := 5) q6 h5 hs3 ?_ ?_
 ·exact fun a w h => h
 rintro e4 _ w4 I4 G4 a4 ⟨L', hYQ, rfl⟩ hs4 hd4 ht4
 have n3 := j6 hs3.hh hp3 rfl
 have hl4 : w4.heap[l]? = some (.loop { rec with state := .busy }) := (ht4.t.keep l (by rw [World.putObj_size]; exact l2) n3).trans hp3
 have l4 := (Array.getElem?_eq_some_iff.1 hl4).1
 have nI4 : ∀ b, ¬ I2 b -> ¬ aW (aM nl T (aA L)) G2 b -> b < w2.heap.size -> ¬ I4 b := fun b x y z h => (ht4.t.i2 b h).elim x fun h => h.elim y fun h => by rw [World.putObj_size] at h; omega
 have nl4 := nI4 l z2.nl n2 l2
 have hDne : W0.heap.size ≠ l := by omega
 have nD2 := j6 hs2.hh z2.hD rfl
 have lD := (Array.getElem?_eq_some_iff.1 z2.hD).1
 have hrec : ({ { rec with state := .busy } with state := if (none : Option Code).isNone then .ready else .done, pending := none } : Loop) = rec := by
  cases rec; simp only at r1 r2; subst r1; subst r2; rfl
 have hrun := run_endRound (P := Tryz.prog) none hl4
 rw [hrec] at hrun
 have hLL : L'.length = L.length := by
  obtain ⟨S', rfl, s1, k1⟩ := hYQ
  obtain ⟨c1, c2, c3⟩ := tP L (show f <= i by omega) hil
  have := k1.len
  rw [List.length_append, List.length_append, c2, <- this, c3, List.length_drop]; omega
 have tB : TrN 5 W0 I0 G0 (aM nl T (aA L0)) (w4.putObj l (.loop rec)) I4 G4 (aM nl T (aA L')) := ((z2.t.off hWl _).trans ht4.toN).off hWl _
 refine ⟨_, _, hrun, rfl, L', I4, G4, hYQ, hs4.hh.off _ nl4 (j6 hs4.hh hl4 rfl), ?_, zac (by simp [hLL]) (fun o ho => (tQ tB o ho).trans (tQ hz.t o ho).symm), ⟨tB, World.putObj_heap_same l4, ?_, nl4, nI4 _ z2.nD nD2 lD⟩⟩
 ·have k1 := (qI hh ht1.t).trans ht1.t.size (qI hs1.hh ht2.t)
  have s2 := Nat.le_trans ht1.t.size ht2.t.size
  have k2 := (k1.trans s2 (Keeps.off z2.nl (.loop { rec with state := .busy }))).trans (by rw [World.putObj_size]; exact s2) (qI hs3.hh ht4.t)
  exact k2.trans (by have := ht4.t.size; rw [World.putObj_size] at this; omega) (Keeps.off nl4 _)
 ·rw [World.putObj_heap_other hDne]
  exact (ht4.t.keep _ (by rw [World.putObj_size]; exact lD) (j6 hs3.hh ((World.putObj_heap_other hDne).trans z2.hD) rfl)).trans ((World.putObj_heap_other hDne).trans z2.hD)
end
end Go.Eng


set_option linter.constructorNameAsVariable false
namespace Go.Eng
open Go Go.Proofs
section
variable (nl fl : Bool) (es : LL)
def zhs (R : LV -> Hp -> Prop) : Prop :=
 if (bif true then nl else !nl) = true then R (LV.pv (PV.sl true true [])) [] else kE true [] es 1 4 /\ R (LV.own 0) [Ob.sl (21, 1) false false ([] ++ es)]
theorem zsc {R : LV -> Hp -> Prop} (h : zhs nl es R) : ACall Tryz.prog 63 [.pv (.sl nl fl es)] [] R :=
 ACall.ofA Tryz.func63 (by kernel_rfl) (by kernel_rfl) (zl (by kernel_rfl)) (Eq.mpr (by kernel_rfl : nC Tryz.prog (fun _ => none) Tryz.f63 [0, 2, 4] (fun _ => none) (Tryz.f63.body.getD .skip) [.pv (.sl nl fl es)] [] R = _) h)
end
section
variable (nl : Bool) (ts : List PV) (es : LL)
def zsd (R : LV -> Hp -> Prop) : Prop :=
 R (LV.fn 161 [LV.box 2 0, LV.box 1 0]) [Ob.sl (21, 1) false nl es, Ob.box [LV.pv (PV.ptr ts)], Ob.box [LV.own 0]]
theorem zse {R : LV -> Hp -> Prop} (h : zsd nl ts es R) : ACall Tryz.prog 143 [.pv (.ptr ts), .own 0] [.sl (21, 1) false nl es] R :=
 ACall.of Tryz.func143 (by kernel_rfl) (by kernel_rfl) (zl (by kernel_rfl)) (Eq.mpr (by kernel_rfl : dW Tryz.prog (fun _ => none) Tryz.f143 [0, 1, 2, 3, 4] (fun _ => none) [0, 1, 2] (Tryz.f143.body.getD .skip) [.pv (.ptr ts), .own 0] [.sl (21, 1) false nl es] R = _) h)
end
end Go.Eng



namespace Go.Eng
open Go Go.Proofs Go.Eng.Rows Go.Eng.Srt
theorem ACall.nilOwn {P : Program} {f : Nat} {args : List LV} {Q Q' : LV -> Hp -> Prop} {ty : Nat × Nat} (hc : ACall P f args [] Q) (hq : ∀ r h', Q r h' -> Q' r h' ∨ ∃ fl, r = .pv (.sl true fl []) /\ h' = [] /\ Q' (.own 0) [.sl ty false true []]) : ACall P f args [] Q' :=
 ⟨hc.1, fun w I G cargs h1 h2 h3 => (hc.2 w I G cargs h1 h2 h3).mono fun e w' ⟨cv, r, h', I', G', e1, e2, e3, e4, e5⟩ => (hq r h' e2).elim (fun q => ⟨cv, r, h', I', G', e1, q, e3, e4, e5⟩) fun ⟨fl, hr, hh, q⟩ => by
  subst hr; subst hh
  have hcv : cv = .slice none 0 0 := by cases e4 with | pv _ _ h => cases h; rfl
  subst hcv
  have one : ∀ {o : Nat} {ob : Ob}, [Ob.sl ty false true []][o]? = some ob -> ob = .sl ty false true [] := fun {o ob} h => by
   cases o with
   | zero => cases h; rfl
   | succ o => simp at h
  have dead : ∀ {p : Pl}, ¬ (Ob.sl ty false true []).alive p := fun h => by cases h.1
  have noB : ∀ b, ¬ aW [Ob.sl ty false true []] G' b := fun b ⟨o, ob, ho, ha, _⟩ => by rw [one ho] at ha; exact dead ha
  refine ⟨_, .own 0, [.sl ty false true []], I', G', e1, q, ⟨fun o ob ho => by rw [one ho]; rfl, fun o o' ob ob' ho ha => by rw [one ho] at ha; exact (dead ha).elim, fun o ob ho ha => by rw [one ho] at ha; exact (dead ha).elim, e3.cl⟩, .ownNil 0 ty false [] rfl, ?_, by simp, fun o ob' ho => by simp at ho⟩
  have t := e5.t
  exact ⟨t.os, t.tape, t.output, t.size, t.keep, t.i1, t.i2, fun b hb => (noB b hb).elim, t.frz, t.drawn⟩⟩
theorem zht (nl fl : Bool) (es : List (List PV)) (hn : nl = true -> es = []) (ha : kE true [] es 1 4) : ACall Tryz.prog 63 [.pv (.sl nl fl es)] [] fun r h' => r = .own 0 /\ h' = [.sl (21, 1) false nl es] := by
 refine ACall.nilOwn (ty := (21, 1)) (Q := fun r h' => (nl = true /\ r = .pv (.sl true true []) /\ h' = []) ∨ (nl = false /\ r = .own 0 /\ h' = [.sl (21, 1) false nl es])) (zsc nl fl es ?_) ?_
 ·unfold zhs
  cases nl with
  | true => exact .inl ⟨rfl, rfl, rfl⟩
  | false => exact ⟨ha, .inr ⟨rfl, rfl, by simp⟩⟩
 ·rintro r h' (⟨rfl, rfl, rfl⟩ | ⟨rfl, rfl, rfl⟩)
  ·rw [hn rfl]; exact .inr ⟨true, rfl, rfl, rfl, rfl⟩
  ·exact .inl ⟨rfl, rfl⟩
theorem tR {P : Program} {n0 N : Nat} {c : Code} {e E : Env} {h Hh : Hp} (hS : CodeS P n0 N c e h fun x e' h' => x = .normal /\ e' = E /\ h' = Hh) {w : World} {I : Nat -> Prop} {G : Nat -> Pl} {a : Act} (hs : SRel w I G e h N a) {Q : Exit -> Act -> World -> Prop}
 (hq : ∀ w' I' G' a', SRel w' I' G' E Hh N a' -> a'.defers = a.defers -> TrN n0 w I G h w' I' G' Hh -> Q .normal a' w') : c.wp P Q a w :=
 hS w I G a Q hs fun x e' h' w' I' G' a' hk hs' hd ht => by obtain ⟨rfl, rfl, rfl⟩ := hk; exact hq w' I' G' a' hs' hd ht
section
variable {nl fl : Bool} {ts : List PV} {es : List (List PV)}
theorem eB0 (Q : Qt) : dI Tryz.prog (fun _ => none) 0 22 [1, 2, 4] (fun _ => none) (cO0 Tryz.f121) (fF [.pv (.ptr ts), .pv (.sl nl fl es)] 0) [] Q = Q .normal [(1, .pv (.sl nl fl es)), (2, .box 0 0), (4, .pv (.sl true true []))] [.box [.pv (.ptr ts)]] := by kernel_rfl
theorem eB1 (Q : Qt) : dI Tryz.prog zej 0 22 [2, 5] (fun _ => none) (cO1 Tryz.f121) [(1, .pv (.sl nl fl es)), (2, .box 0 0)] [.box [.pv (.ptr ts)]] Q =
 ACall Tryz.prog 63 [.pv (.sl nl fl es)] [] fun (r : LV) (h' : Hp) => ∃ (_ : Unit), (r = .own 0 /\ h' = [.sl (21, 1) false nl es]) /\ True /\ Q .normal [(2, .box 0 0), (5, .box 2 0)] [.box [.pv (.ptr ts)], .sl (21, 1) false nl es, .box [.own 1]] := by kernel_rfl
theorem eB2 (Q : Qt) : dI Tryz.prog zej 0 22 [2, 5, 12] (fun _ => none) (cO2 Tryz.f121) [(2, .box 0 0), (5, .box 2 0)] [.box [.pv (.ptr ts)], .sl (21, 1) false nl es, .box [.own 1]] Q =
 ACall Tryz.prog 143 [.pv (.ptr ts), .own 0] [.sl (21, 1) false nl es] fun (r : LV) (h' : Hp) => ∃ (_ : Unit), (r = .fn 161 [.box 2 0, .box 1 0] /\ h' = [.sl (21, 1) false nl es, .box [.pv (.ptr ts)], .box [.own 0]]) /\
  ((((21, 1) : Nat × Nat) = (21, 1) /\ nl = nl /\ es.length = es.length) /\ True) /\ Q .normal [(2, .box 0 0), (5, .box 2 0), (12, .fn 161 [.box 4 0, .box 3 0])] (aM nl (.ptr ts) es) := by kernel_rfl
theorem eB6 (Q : Qt) : dI Tryz.prog (fun _ => none) 5 22 [4] (fun _ => none) (cO6 Tryz.f121) [(2, .box 0 0), (5, .box 2 0)] (aM nl (.ptr ts) es) Q = Q .normal [(4, .own 1)] (aM nl (.ptr ts) es) := by kernel_rfl
theorem zad : cM Tryz.f121 = .seq (cO0 Tryz.f121) (.seq (cO1 Tryz.f121) (.seq (.seq (cO2 Tryz.f121) (.block 0 (cU Tryz.f121))) (.seq (cO6 Tryz.f121) .ret))) /\ Tryz.f121.body = some (cM Tryz.f121) /\ Tryz.f121.ntmps = 22 /\
 Tryz.f161.body = some (cM Tryz.f161) /\ Tryz.f161.ntmps = 39 /\ Tryz.f121.results = #[.tmp 4] /\ Tryz.f161.results = #[] /\ Tryz.f121.body.isNone = false /\ (Tryz.f121.name == "runtime.NumGoroutine") = false /\ Tryz.f161.body.isNone = false /\ (Tryz.f161.name == "runtime.NumGoroutine") = false :=
 ⟨by kernel_rfl, by kernel_rfl, by kernel_rfl, by kernel_rfl, by kernel_rfl, by kernel_rfl, by kernel_rfl, by kernel_rfl, by kernel_rfl, by kernel_rfl, by kernel_rfl⟩
variable {key : Int -> Int}
theorem Tr.alloc0 {w : World} {I own : Nat -> Prop} (o : Obj) : Tr w I own (w.alloc o) I own :=
 ⟨rfl, rfl, rfl, by simp, fun b hb _ => cZ w o hb, fun _ h => h, fun _ h => .inl h, fun _ h => .inl h, fun a ha => World.frozen?_of_block (cZ w o ha), Nat.le_refl _⟩
theorem KA.alloc0 (w : World) (o : Obj) : KA w (w.alloc o) := ⟨by simp, fun b hb => cZ w o hb⟩
theorem zsf (hk : ∀ x, 0 <= key x) (hT : ∀ r : Int, (-2147483648 <= r /\ r <= 2147483647) -> PCall Tryz.prog 80 [.ptr ts, .int .i32 r] fun v => v = .int .i64 (key r)) (hc : jA (.ptr ts) key) (L : List Int) (hr : R32 L) (hL : L.length < 1000000000000)
 {w3 : World} {I3 : Nat -> Prop} {G3 : Nat -> Pl} {a3 : Act} {v12 : LV} (hs3 : SRel w3 I3 G3 [(2, .box 0 0), (5, .box 2 0), (12, v12)] (aM nl (.ptr ts) (aA L)) 22 a3) (rec : Loop) (r1 : rec.state = .ready) (r2 : rec.pending = none) (r3 : rec.tmps = a3.tmps) (r4 : rec.params = #[13, 14])
 (r5 : rec.assign = fQ (cU Tryz.f121)) (r6 : rec.body = fR (cU Tryz.f121)) (vs : Array Value) (hvsz : vs.size = 2) (hvs : ∀ (k : Nat) v, [LV.box 4 0, LV.box 3 0][k]? = some v -> LRel w3 I3 G3 (aM nl (.ptr ts) (aA L)) v (vs.getD k undef)) :
 Calls Tryz.prog 161 (#[Value.func (.yield (w3.heap.size + 1)) #[] #[]] ++ vs) ((w3.alloc (.deferred (some []))).alloc (.loop rec)) fun e w4 => (∃ v, e = .returned v) /\ ∃ I4 G4, HRel w4 I4 G4 (aM nl (.ptr ts) (aA (bU key L))) /\
  ZR w3 I3 G3 (aM nl (.ptr ts) (aA L)) (w3.heap.size + 1) w3.heap.size rec w4 I4 G4 (aM nl (.ptr ts) (aA (bU key L))) := by
 obtain ⟨k1, k2, k3, k4, k5, k6, k7, k8, k9, k10, k11⟩ := zad
 obtain ⟨W1, hW1⟩ : ∃ W1, W1 = (w3.alloc (.deferred (some []))).alloc (.loop rec) := ⟨_, rfl⟩
 rw [<- hW1]
 have tA : Tr w3 I3 (aW (aM nl (.ptr ts) (aA L)) G3) W1 I3 (aW (aM nl (.ptr ts) (aA L)) G3) := by rw [hW1]; exact (Tr.alloc0 _).trans (Tr.alloc0 _)
 have ka : KA w3 W1 := by rw [hW1]; exact (KA.alloc0 _ _).trans (KA.alloc0 _ _)
 have hl1 : W1.heap[w3.heap.size + 1]? = some (.loop rec) := by rw [hW1]; have := World.alloc_heap_new (w3.alloc (.deferred (some []))) (.loop rec); rwa [World.size_alloc] at this
 have hD1 : W1.heap[w3.heap.size]? = some (.deferred (some [])) := by rw [hW1]; exact (cZ _ _ (by simp)).trans (World.alloc_heap_new w3 _)
 have z1 : ZR w3 I3 G3 (aM nl (.ptr ts) (aA L)) (w3.heap.size + 1) w3.heap.size rec W1 I3 G3 (aM nl (.ptr ts) (aA L)) := ⟨(TrH.same tA).toN, hl1, hD1, fun h => by have := hs3.hh.cl _ h; omega, fun h => by have := hs3.hh.cl _ h; omega⟩
 have hRd := zsb hc hs3 rec r1 r2 r3 r4 r5 r6
 have hwalk := zsa hk hT (fun w I G h w' I' G' h' z hh _ t => z.step hh t) L hRd hr hL
 have hsW : SRel W1 I3 G3 (fF [.pv (.raw (Value.func (.yield (w3.heap.size + 1)) #[] #[])), .box 4 0, .box 3 0] 0) (aM nl (.ptr ts) (aA L)) 39 { tmps := (#[Value.func (.yield (w3.heap.size + 1)) #[] #[]] ++ vs) ++ Array.replicate (39 - (#[Value.func (.yield (w3.heap.size + 1)) #[] #[]] ++ vs).size) undef, defers := [] } := by
  obtain ⟨y, hy⟩ : ∃ y, y = Value.func (.yield (w3.heap.size + 1)) #[] #[] := ⟨_, rfl⟩
  rw [<- hy]
  obtain ⟨x0, x1, rfl⟩ : ∃ x0 x1, vs = #[x0, x1] := by
   obtain ⟨l⟩ := vs
   match l, hvsz with
   | [a, b], _ => exact ⟨a, b, rfl⟩
  have hk : Keeps w3 I3 W1 I3 := ⟨fun b _ hb => ka.2 b hb, fun b hb _ => hb⟩
  have h1 := (hvs 0 _ rfl).mono hk (.refl _ _)
  have h2 := (hvs 1 _ rfl).mono hk (.refl _ _)
  have e0 : ∀ r : Array Value, (#[y] ++ #[x0, x1] ++ r).getD 0 undef = y := fun r => by rw [Array.getD_eq_getD_getElem?, Array.getElem?_append_left (by simp)]; rfl
  have e1 : ∀ r : Array Value, (#[y] ++ #[x0, x1] ++ r).getD 1 undef = x0 := fun r => by rw [Array.getD_eq_getD_getElem?, Array.getElem?_append_left (by simp)]; rfl
  have e2 : ∀ r : Array Value, (#[y] ++ #[x0, x1] ++ r).getD 2 undef = x1 := fun r => by rw [Array.getD_eq_getD_getElem?, Array.getElem?_append_left (by simp)]; rfl
  refine ⟨hs3.hh.ka ka, ?_, by simp⟩
  have he : ERel W1 I3 G3 (aM nl (.ptr ts) (aA L)) [(0, .pv (.raw y)), (1, .box 4 0), (2, .box 3 0)] (#[y] ++ #[x0, x1] ++ Array.replicate (39 - (#[y] ++ #[x0, x1]).size) undef) :=
   ((ERel.nil _ _ _ _ _).cons (s := 2) (v := .box 3 0) (by rw [e2]; exact h2)).cons (s := 1) (v := .box 4 0) (by rw [e1]; exact h1) |>.cons (s := 0) (v := .pv (.raw y)) (by rw [e0]; exact .pv _ _ (.raw _))
  exact he
 refine calls_of_wp Tryz.func161 k4 ?_
 rw [k5]
 refine hwalk W1 I3 G3 _ _ hsW z1 ?_
 rintro x e' _ w4 I4 G4 a4 ⟨rfl, rfl⟩ hs4 hd4 z4
 exact ⟨hd4, _, results_none k7 _ _ _, ⟨_, rfl⟩, I4, G4, hs4.hh, z4⟩
theorem zsg (hk : ∀ x, 0 <= key x) (L : List Int) {w w3 w4 : World} {I I3 I4 : Nat -> Prop} {G G3 G4 : Nat -> Pl} {a3 : Act} {v12 : LV} (hs3 : SRel w3 I3 G3 [(2, .box 0 0), (5, .box 2 0), (12, v12)] (aM nl (.ptr ts) (aA L)) 22 a3) (hd30 : a3.defers = []) {rec : Loop}
 (ht3 : Tr w I (aW [] G) w3 I3 (aW (aM nl (.ptr ts) (aA L)) G3)) (hh4 : HRel w4 I4 G4 (aM nl (.ptr ts) (aA (bU key L)))) (z4 : ZR w3 I3 G3 (aM nl (.ptr ts) (aA L)) (w3.heap.size + 1) w3.heap.size rec w4 I4 G4 (aM nl (.ptr ts) (aA (bU key L)))) :
 (Code.seq (cO6 Tryz.f121) .ret).wp Tryz.prog (bodyPostM Fence.wide 0 Tryz.prog Tryz.f121 fun e w' => ∃ cv r h' I' G', e = .returned cv /\ (r = .own 0 /\ h' = [.sl (21, 1) false nl (aA (bU key L))]) /\ HRel w' I' G' h' /\ LRel w' I' G' h' r cv /\ TrH w I G [] w' I' G' h')
  { tmps := a3.tmps, defers := [{ target := .collected w3.heap.size, args := #[] }] ++ a3.defers } (w4.putObj (w3.heap.size + 1) (.loop { rec with state := .exhausted })) := by
 obtain ⟨k1, k2, k3, k4, k5, k6, k7, k8, k9, k10, k11⟩ := zad
 have hll := (nN (key := key) hk L).len
 have n4 := j6 hh4 z4.hl rfl
 have l4 := (Array.getElem?_eq_some_iff.1 z4.hl).1
 have z5 : ZR w3 I3 G3 (aM nl (.ptr ts) (aA L)) (w3.heap.size + 1) w3.heap.size { rec with state := .exhausted } (w4.putObj (w3.heap.size + 1) (.loop { rec with state := .exhausted })) I4 G4 (aM nl (.ptr ts) (aA (bU key L))) :=
  ⟨z4.t.off (by omega) _, World.putObj_heap_same l4, (World.putObj_heap_other (by omega)).trans z4.hD, z4.nl, z4.nD⟩
 have hs5 : SRel (w4.putObj (w3.heap.size + 1) (.loop { rec with state := .exhausted })) I4 G4 [(2, .box 0 0), (5, .box 2 0)] (aM nl (.ptr ts) (aA (bU key L))) 22 { tmps := a3.tmps, defers := [{ target := .collected w3.heap.size, args := #[] }] ++ a3.defers } :=
  ⟨hh4.off _ z4.nl n4, fun i v hi => ((hs3.he.mono (qI hs3.hh z4.t.t) (zac (by simp [hll]) (tQ z4.t))).mono (Keeps.off z4.nl _) (.refl _ _)) i v ((LeE.le (e' := [(2, .box 0 0), (5, .box 2 0)]) ⟨rfl, rfl, trivial⟩) i v hi), hs3.hn⟩
 refine wp_seq (tR (E := [(4, .own 1)]) (Hh := aM nl (.ptr ts) (aA (bU key L))) (gY (Eq.mpr (eB6 _) ⟨rfl, rfl, rfl⟩)) hs5 fun w6 I6 G6 a6 hs6 hd6 ht6 => ?_)
 have z6 := z5.step hs5.hh ht6
 refine wp_ret ?_
 show LeavesInM Fence.wide 0 Tryz.prog _ a6.tmps _ a6.defers .returning w6
 rw [hd6, hd30]
 refine ⟨by simp, .inl ⟨_, _, rfl, run_takeDeferred z6.hD, ?_⟩⟩
 refine ⟨_, results_tmp k6 _ _ _, ?_⟩
 have hh7 := hs6.hh.off (.deferred none) z6.nD (j6 hs6.hh z6.hD rfl)
 have hv7 : LRel (w6.putObj w3.heap.size (.deferred none)) I6 G6 (aM nl (.ptr ts) (aA (bU key L))) (.own 1) (a6.tmps.getD 4 undef) := LRel.mono (hs6.he 4 _ rfl) (Keeps.off z6.nD (.deferred none)) (.refl _ _)
 have hs7 : SRel (w6.putObj w3.heap.size (.deferred none)) I6 G6 [(4, .own 1)] (aM nl (.ptr ts) (aA (bU key L))) 22 a6 := ⟨hh7, (ERel.nil _ _ _ _ _).cons (s := 4) (v := .own 1) hv7, hs6.hn⟩
 obtain ⟨s1, s2⟩ := hs7.sub [1] [] rfl
 have g2 := LRel.mapV (pI (os := [1])) (Keeps.refl _ _) hv7
 have ht := (ht3.trans z6.t.t).off (l := w3.heap.size) ht3.size (.deferred none)
 exact ⟨_, .own 0, _, I6, _, rfl, ⟨rfl, rfl⟩, s1.hh, g2, ⟨ht.trans (Tr.less s2), Nat.zero_le _, fun o ob ho => by simp at ho⟩⟩
theorem zsh (hk : ∀ x, 0 <= key x) (hT : ∀ r : Int, (-2147483648 <= r /\ r <= 2147483647) -> PCall Tryz.prog 80 [.ptr ts, .int .i32 r] fun v => v = .int .i64 (key r)) (hc : jA (.ptr ts) key) (L : List Int) (hr : R32 L) (hL : L.length < 1000000000000) :
 ACall Tryz.prog 121 [.pv (.ptr ts), .pv (.sl nl fl (aA L))] [] fun r h' => r = .own 0 /\ h' = [.sl (21, 1) false nl (aA (bU key L))] := by
 obtain ⟨k1, k2, k3, k4, k5, k6, k7, k8, k9, k10, k11⟩ := zad
 refine ⟨⟨_, Tryz.func121, k8, k9⟩, fun w I G cargs hh hsz hrel => ?_⟩
 simp only [List.length_map, List.length_cons, List.length_nil] at hsz
 have hn : nl = true -> L = [] := fun hn => by
  subst hn
  have h1 := hrel 1 _ rfl
  generalize cargs.getD 1 undef = c1 at h1
  cases h1 with
  | pv _ _ h1 =>
    generalize hes : aA L = es at h1
    cases h1 with
    | slnil => exact List.map_eq_nil_iff.1 hes
 refine (callsIn_wide (n := 0)).1 (callsIn_of_wp_marks Tryz.func121 k2 trivial (wpIn_wide.2 ?_))
 rw [k3]
 have hs : SRel w I G (fF [.pv (.ptr ts), .pv (.sl nl fl (aA L))] 0) [] 22 { tmps := cargs ++ Array.replicate (22 - cargs.size) undef, defers := [] } := by
  refine ⟨hh, fun i v hi => ?_, by simp; omega⟩
  obtain ⟨_, h2⟩ := pU hi
  rw [Nat.sub_zero] at h2
  have hlt : i < cargs.size := by have := (List.getElem?_eq_some_iff.1 h2).1; simp at this; omega
  have := hrel i v h2
  have e1 : (cargs ++ Array.replicate (22 - cargs.size) undef).getD i undef = cargs.getD i undef := by
   rw [Array.getD_eq_getD_getElem?, Array.getD_eq_getD_getElem?, Array.getElem?_append_left hlt]
  simp only [e1]
  exact VRel.of_plain this
 rw [k1]
 -- what begins it
 refine wp_seq (tR (E := [(1, .pv (.sl nl fl (aA L))), (2, .box 0 0), (4, .pv (.sl true true []))]) (Hh := [.box [.pv (.ptr ts)]]) (gY (Eq.mpr (eB0 _) ⟨rfl, rfl, rfl⟩)) hs fun w1 I1 G1 a1 hs1 hd1 ht1 => ?_)
 have hs1' := hs1.le (LeE.le (e' := [(1, .pv (.sl nl fl (aA L))), (2, .box 0 0)]) ⟨rfl, rfl, trivial⟩)
 refine wp_seq (tR (E := [(2, .box 0 0), (5, .box 2 0)]) (Hh := [.box [.pv (.ptr ts)], .sl (21, 1) false nl (aA L), .box [.own 1]]) (gY (Eq.mpr (eB1 _) ((zht nl fl (aA L) (fun h => by rw [hn h]; rfl) ?_).mono fun r h' hq => ⟨(), hq, trivial, rfl, rfl, rfl⟩))) hs1' fun w2 I2 G2 a2 hs2 hd2 ht2 => ?_)
 ·exact ⟨rfl, .inl rfl, fun e he => (by cases he), fun e he => by obtain ⟨x, _, rfl⟩ := List.mem_map.1 (List.mem_of_mem_head? he); rfl, by simp; omega⟩
 refine wp_seq (wp_seq (tR (E := [(2, .box 0 0), (5, .box 2 0), (12, .fn 161 [.box 4 0, .box 3 0])]) (Hh := aM nl (.ptr ts) (aA L)) (gY (Eq.mpr (eB2 _) (zse nl ts (aA L) ?_))) hs2 fun w3 I3 G3 a3 hs3 hd3 ht3 => ?_))
 ·exact ⟨(), ⟨rfl, rfl⟩, ⟨⟨rfl, rfl, rfl⟩, trivial⟩, rfl, rfl, rfl⟩
 -- the loop
 have hd30 : a3.defers = [] := hd3.trans (hd2.trans hd1)
 obtain ⟨q1, q2, q3, _, _, _⟩ := zhr
 refine wp_block ?_
 rw [q3]
 obtain ⟨vs, hv12, hvsz, hvs⟩ : ∃ vs : Array Value, a3.tmps.getD 12 undef = .func (.func 161) #[] vs /\ vs.size = 2 /\ ∀ (k : Nat) v, [LV.box 4 0, LV.box 3 0][k]? = some v -> LRel w3 I3 G3 (aM nl (.ptr ts) (aA L)) v (vs.getD k undef) := by
  have := hs3.he 12 _ rfl
  generalize a3.tmps.getD 12 undef = cv at this
  cases this with
  | fn f cs vs h1 h6 => exact ⟨vs, rfl, h1, h6⟩
 refine (wpIn_wide (n := 0)).1 (wpIn_rangeFunc (F := Fence.wide) fun fn _ => ?_)
 obtain ⟨rec, hrec⟩ : ∃ rec : Loop, rec = { state := .ready, pending := none, fn := fn, tmps := a3.tmps, params := #[13, 14], assign := fQ (cU Tryz.f121), body := fR (cU Tryz.f121), defers := w3.heap.size } := ⟨_, rfl⟩
 refine ⟨w3.heap.size + 1, [{ target := .collected w3.heap.size, args := #[] }], (w3.alloc (.deferred (some []))).alloc (.loop rec), { target := .fn (.func 161) vs, args := #[.func (.yield (w3.heap.size + 1)) #[] #[]] }, (w3.alloc (.deferred (some []))).alloc (.loop rec), 161,
  #[.func (.yield (w3.heap.size + 1)) #[] #[]] ++ vs, (w3.alloc (.deferred (some []))).alloc (.loop rec), ?_, ?_, fun _ _ => trivial, ?_, fun x => (by cases x), ?_⟩
 ·rw [hrec]; exact run_enterLoop_outer _ _ _ _ _
 ·have he : a3.eval (.tmp 12) = .func (.func 161) #[] vs := hv12
  simp only [resolve, he]
  simp [go_sem]
 ·simp only [invoke]
  exact uT ⟨_, Tryz.func161, k10, k11⟩
 refine (callsIn_wide).2 (Calls.mono (zsf hk hT hc L hr hL hs3 rec (by rw [hrec]) (by rw [hrec]) (by rw [hrec]) (by rw [hrec]) (by rw [hrec]) (by rw [hrec]) vs hvsz hvs) ?_)
 rintro e w4 ⟨⟨v, rfl⟩, I4, G4, hh4, z4⟩
 have hp : rec.pending = none := by rw [hrec]
 refine ⟨none, _, (run_endLoop z4.hl (by rw [hrec]; simp)).trans (congrArg (fun j => Result.ok j _) hp), ?_⟩
 exact zsg hk L hs3 hd30 ((ht1.t.trans ht2.t).trans ht3.t) hh4 z4
end
end Go.Eng



namespace Go.Eng
open Go Go.Proofs
section
variable (n f : Bool) (es : LL) (k : Int)
def zhu (R : PV -> Prop) : Prop :=
 if decide ((↑es.length : Int) > k) = true then (dB es.length none (some k) none /\ aT es 1) /\ R (PV.sl n (f && decide (k = (↑es.length : Int))) (List.drop 0 (List.take k.toNat es))) else R (PV.sl n f es)
theorem zsi {R : PV -> Prop} (h : zhu n f es k R) : PCall Tryz.prog 14 [.sl n f es, .int .i64 k] R :=
 PCall.of Tryz.func14 (by kernel_rfl) (by kernel_rfl) (zl (by kernel_rfl)) (Eq.mpr (by kernel_rfl : aO Tryz.prog (fun _ => none) Tryz.f14 [0, 1, 4, 8] (fun _ => none) (Tryz.f14.body.getD .skip) [.sl n f es, .int .i64 k] R = _) h)
end
def zae (n f : Bool) (es : LL) (n2 f2 : Bool) (es2 : LL) (x5 : Int) : Env × Hp := ([(0, LV.pv (PV.sl n f es)), (1, LV.pv (PV.sl n2 f2 es2)), (5, Y6 x5)], [])
section
variable (n f : Bool) (es : LL) (n2 f2 : Bool) (es2 : LL) (J : Int -> Prop) (μ : Int -> Nat)
def zaf (R : PV -> Prop) : Prop :=
 if ((↑es.length : Int) != (↑es2.length : Int)) = true then R (Zb false) else (aG (zae n f es n2 f2 es2 (0 : Int)) /\ J (0 : Int)) /\ ∀ (x5 : Int), J x5 -> if decide (x5 < (↑es.length : Int)) = true then aK es x5 1 /\ ∃ (n1 : Int),
 (es.getD x5.toNat []).head? = some (Z3 n1) /\ aK es2 x5 1 /\ ∃ n3, (es2.getD x5.toNat []).head? = some (Z3 n3) /\ if (n1 != n3) = true then R (Zb false) else aG (zae n f es n2 f2 es2 (i64.wrap (x5 + 1))) /\ J
 (i64.wrap (x5 + 1)) /\ μ (i64.wrap (x5 + 1)) < μ x5 else R (Zb true)
theorem zsj {R : PV -> Prop} (h : zaf n f es n2 f2 es2 J μ R) : PCall Tryz.prog 26 [.sl n f es, .sl n2 f2 es2] R :=
 PCall.of Tryz.func26 (by kernel_rfl) (by kernel_rfl) (zl (by kernel_rfl)) (Eq.mpr (by kernel_rfl : aO Tryz.prog (fun _ => none) Tryz.f26 [0, 1, 4, 5, 10, 14, 25] (fun zz_ => match zz_ with | 4 => some ⟨Int × Unit, fun s => zae n f es n2 f2 es2 s.1, fun _ s => J s.1, fun s => μ s.1, fun e h => (((gI e 5), ())), [], [0, 1, 5], [], fun p => ∀ (x5 : Int), p (x5, ()), fun p h s => h s.1⟩ | _ => none) (Tryz.f26.body.getD .skip) [.sl n f es, .sl n2 f2 es2] R = _) h)
end
def zag (n f : Bool) (es : LL) (n2 f2 : Bool) (ss : LL) (x7 : Int) (n_0 : Bool) (s_0 : LL) (n_1 : Bool) (s_1 : LL) : Env × Hp := ([(0, LV.pv (PV.sl n f es)), (1, LV.pv (PV.sl n2 f2 ss)), (5, LV.own 0), (6, LV.own 1), (7, Y6 x7)], [.sl (21, 1) true n_0 s_0, .sl (3, 1) true n_1 s_1])
def zah (n f : Bool) (es : LL) (n2 f2 : Bool) (ss : LL) (x7 x8 x9 : Int) (n_0 : Bool) (s_0 : LL) (n_1 : Bool) (s_1 : LL) : Env × Hp := ([(0, LV.pv (PV.sl n f es)), (1, LV.pv (PV.sl n2 f2 ss)), (5, LV.own 0), (6, LV.own 1), (7, Y6 x7), (8, Y6 x8), (9, Y6 x9)], [.sl (21, 1) true n_0 s_0, .sl (3, 1) true n_1 s_1])
section
variable (n f : Bool) (es : LL) (n2 f2 : Bool) (ss : LL) (J : Int -> Bool -> LL -> Bool -> LL -> Prop) (μ : Int -> Bool -> LL -> Bool -> LL -> Nat) (J2 : Int -> Int -> Int -> Bool -> LL -> Bool -> LL -> Int -> Int -> Int -> Bool -> LL -> Bool -> LL -> Prop) (μ2 : Int -> Int -> Int -> Bool -> LL -> Bool -> LL -> Nat)
def zhv (R : PV -> Prop) : Prop :=
 (aG (zag n f es n2 f2 ss (0 : Int) true [] true []) /\ J (0 : Int) true [] true []) /\ ∀ (x7 : Int) (n_0 : Bool) (s_0 : LL) (n_1 : Bool) (s_1 : LL), J x7 n_0 s_0 n_1 s_1 -> if decide (x7 < (↑ss.length : Int)) = true then aK ss x7 1 /\
  ∃ n1, (ss.getD x7.toNat []).head? = some (Z3 n1) /\ PCall Tryz.prog 75 [PV.sl n f es, Z3 n1] fun v => ∃ n3, v = Z6 n3 /\ aK ss x7 1 /\ ∃ n4, (ss.getD x7.toNat []).head? = some (Z3 n4) /\ (aT [[Z3 n4]] 1 /\
  (s_0.length + 1) * 4 <= 140737488355328) /\ (aT [[Z6 n3]] 1 /\ (s_1.length + 1) * 8 <= 140737488355328) /\ (aG (zah n f es n2 f2 ss x7 n3 (↑s_0.length : Int) (n_0 && false) (s_0 ++ [[Z3 n4]]) (n_1 && false) (s_1 ++ [[Z6 n3]])) /\ J2 x7
  n3 (↑s_0.length : Int) (n_0 && false) (s_0 ++ [[Z3 n4]]) (n_1 && false) (s_1 ++ [[Z6 n3]]) x7 n3 (↑s_0.length : Int) (n_0 && false) (s_0 ++ [[Z3 n4]]) (n_1 && false) (s_1 ++ [[Z6 n3]])) /\ ∀ (x71 x8 x9 : Int) (n_01 : Bool) (s_01 : LL)
  (n_11 : Bool) (s_11 : LL), J2 x7 n3 (↑s_0.length : Int) (n_0 && false) (s_0 ++ [[Z3 n4]]) (n_1 && false) (s_1 ++ [[Z6 n3]]) x71 x8 x9 n_01 s_01 n_11 s_11 ->
 let V1 := aG (zag n f es n2 f2 ss (i64.wrap (x71 + 1)) n_01 s_01 n_11 s_11) /\ J (i64.wrap (x71 + 1)) n_01 s_01 n_11 s_11 /\ μ (i64.wrap (x71 + 1)) n_01 s_01 n_11 s_11 < μ x7 n_0 s_0 n_1 s_1; if (decide (x9 > 0)
  && x8 != 0) = true then aK s_11 (i64.wrap (x9 - 1)) 1 /\ ∃ n5, (List.drop 0 (s_11.getD (i64.wrap (x9 - 1)).toNat [])).head? = some (Z6 n5) /\ if decide (n5 > x8) = true then aK s_01 (i64.wrap (x9 - 1))
  1 /\ ∃ n6, (List.drop 0 (s_01.getD (i64.wrap (x9 - 1)).toNat [])).head? = some (Z3 n6) /\ aK s_01 x9 1 /\ (1 = 1 /\ 1 <= (s_01.getD x9.toNat []).length) /\ aK s_11 (i64.wrap (x9 - 1)) 1 /\ ∃ n7, (List.drop
  0 (s_11.getD (i64.wrap (x9 - 1)).toNat [])).head? = some (Z6 n7) /\ aK s_11 x9 1 /\ (1 = 1 /\ 1 <= (s_11.getD x9.toNat []).length) /\ aK ss x71 1 /\ ∃ n8, (ss.getD x71.toNat []).head? = some (Z3 n8) /\ aK (s_01.set
  x9.toNat (Z3 n6 :: zq (List.drop 1 (s_01.getD x9.toNat [])))) (i64.wrap (x9 - 1)) 1 /\ (1 = 1 /\ 1 <= ((s_01.set x9.toNat (Z3 n6 :: zq (List.drop 1 (s_01.getD x9.toNat [])))).getD
  (i64.wrap (x9 - 1)).toNat []).length) /\ aK (s_11.set x9.toNat (Z6 n7 :: zq (List.drop 1 (s_11.getD x9.toNat [])))) (i64.wrap (x9 - 1)) 1 /\ (1 = 1 /\ 1 <= ((s_11.set x9.toNat (Z6 n7 ::
  zq (List.drop 1 (s_11.getD x9.toNat [])))).getD (i64.wrap (x9 - 1)).toNat []).length) /\ aG (zah n f es n2 f2 ss x71 x8 (i64.wrap (x9 - 1)) n_01 ((s_01.set x9.toNat (Z3 n6 :: List.append._f
  [] PUnit.unit (List.drop 1 (s_01.getD x9.toNat [])))).set (i64.wrap (x9 - 1)).toNat (Z3 n8 :: zq (List.drop 1 ((s_01.set x9.toNat (Z3 n6 :: zq (List.drop 1 (s_01.getD x9.toNat
  [])))).getD (i64.wrap (x9 - 1)).toNat [])))) n_11 ((s_11.set x9.toNat (Z6 n7 :: zq (List.drop 1 (s_11.getD x9.toNat [])))).set (i64.wrap (x9 - 1)).toNat (Z6 x8 :: zq
  (List.drop 1 ((s_11.set x9.toNat (Z6 n7 :: zq (List.drop 1 (s_11.getD x9.toNat [])))).getD (i64.wrap (x9 - 1)).toNat []))))) /\ J2 x7 n3 (↑s_0.length : Int) (n_0 && false) (s_0 ++ [[Z3 n4]]) (n_1 &&
  false) (s_1 ++ [[Z6 n3]]) x71 x8 (i64.wrap (x9 - 1)) n_01 ((s_01.set x9.toNat (Z3 n6 :: zq (List.drop 1 (s_01.getD x9.toNat [])))).set (i64.wrap (x9 - 1)).toNat (Z3 n8 :: List.append._f []
  PUnit.unit (List.drop 1 ((s_01.set x9.toNat (Z3 n6 :: zq (List.drop 1 (s_01.getD x9.toNat [])))).getD (i64.wrap (x9 - 1)).toNat [])))) n_11 ((s_11.set x9.toNat (Z6 n7 :: zq
  (List.drop 1 (s_11.getD x9.toNat [])))).set (i64.wrap (x9 - 1)).toNat (Z6 x8 :: zq (List.drop 1 ((s_11.set x9.toNat (Z6 n7 :: zq (List.drop 1 (s_11.getD x9.toNat [])))).getD
  (i64.wrap (x9 - 1)).toNat [])))) /\ μ2 x71 x8 (i64.wrap (x9 - 1)) n_01 ((s_01.set x9.toNat (Z3 n6 :: zq (List.drop 1 (s_01.getD x9.toNat [])))).set (i64.wrap (x9 - 1)).toNat (Z3 n8 ::
  zq (List.drop 1 ((s_01.set x9.toNat (Z3 n6 :: zq (List.drop 1 (s_01.getD x9.toNat [])))).getD (i64.wrap (x9 - 1)).toNat [])))) n_11 ((s_11.set x9.toNat (Z6 n7 :: List.append._f
  [] PUnit.unit (List.drop 1 (s_11.getD x9.toNat [])))).set (i64.wrap (x9 - 1)).toNat (Z6 x8 :: zq (List.drop 1 ((s_11.set x9.toNat (Z6 n7 :: zq (List.drop 1 (s_11.getD x9.toNat
  [])))).getD (i64.wrap (x9 - 1)).toNat [])))) < μ2 x71 x8 x9 n_01 s_01 n_11 s_11 else V1 else V1 else R (PV.sl n_0 false s_0)
theorem zsk {R : PV -> Prop} (h : zhv n f es n2 f2 ss J μ J2 μ2 R) : PCall Tryz.prog 74 [.sl n f es, .sl n2 f2 ss] R :=
 PCall.of Tryz.func74 (by kernel_rfl) (by kernel_rfl) (zl (by kernel_rfl)) (Eq.mpr (by kernel_rfl : aO Tryz.prog (fun _ => none) Tryz.f74 [0, 1, 4, 5, 6, 7, 8, 9, 13, 49] (fun zz_ => match zz_ with | 4 => some ⟨Int × Bool × LL × Bool × LL, fun s => zag n f es n2 f2 ss s.1 s.2.1 s.2.2.1 s.2.2.2.1 s.2.2.2.2, fun _ s => J s.1 s.2.1 s.2.2.1 s.2.2.2.1 s.2.2.2.2, fun s => μ s.1 s.2.1 s.2.2.1 s.2.2.2.1 s.2.2.2.2, fun e h => (gI e 7, oN h 0, oS h 0, oN h 1, oS h 1), [(5, 21, 1), (6, 3, 1)], [0, 1, 5, 6, 7], [], fun p => ∀ (x7 : Int) (n_0 : Bool) (s_0 : LL) (n_1 : Bool) (s_1 : LL), p (x7, n_0, s_0, n_1, s_1), fun p h s => h s.1 s.2.1 s.2.2.1 s.2.2.2.1 s.2.2.2.2⟩ | 10 => some ⟨Int × Int × Int × Bool × LL × Bool × LL, fun s => zah n f es n2 f2 ss s.1 s.2.1 s.2.2.1 s.2.2.2.1 s.2.2.2.2.1 s.2.2.2.2.2.1 s.2.2.2.2.2.2, fun t s => J2 t.1 t.2.1 t.2.2.1 t.2.2.2.1 t.2.2.2.2.1 t.2.2.2.2.2.1 t.2.2.2.2.2.2 s.1 s.2.1 s.2.2.1 s.2.2.2.1 s.2.2.2.2.1 s.2.2.2.2.2.1 s.2.2.2.2.2.2, fun s => μ2 s.1 s.2.1 s.2.2.1 s.2.2.2.1 s.2.2.2.2.1 s.2.2.2.2.2.1 s.2.2.2.2.2.2, fun e h => (gI e 7, gI e 8, gI e 9, oN h 0, oS h 0, oN h 1, oS h 1), [], [0, 1, 5, 6, 7, 8, 9], [], fun p => ∀ (x7 x8 x9 : Int) (n_0 : Bool) (s_0 : LL) (n_1 : Bool) (s_1 : LL), p (x7, x8, x9, n_0, s_0, n_1, s_1), fun p h s => h s.1 s.2.1 s.2.2.1 s.2.2.2.1 s.2.2.2.2.1 s.2.2.2.2.2.1 s.2.2.2.2.2.2⟩ | _ => none) (Tryz.f74.body.getD .skip) [.sl n f es, .sl n2 f2 ss] R = _) h)
end
def zai (n f : Bool) (es : LL) (n2 f2 : Bool) (ss : LL) (x6 : Int) (n_0 : Bool) (s_0 : LL) : Env × Hp := ([(0, LV.pv (PV.sl n f es)), (1, LV.pv (PV.sl n2 f2 ss)), (5, LV.own 0), (6, Y6 x6)], [.sl (21, 1) true n_0 s_0])
section
variable (n f : Bool) (es : LL) (n2 f2 : Bool) (ss : LL) (J : Int -> Bool -> LL -> Prop) (μ : Int -> Bool -> LL -> Nat)
def zhw (R : PV -> Prop) : Prop :=
 (aG (zai n f es n2 f2 ss (0 : Int) true []) /\ J (0 : Int) true []) /\ ∀ (x6 : Int) (n_0 : Bool) (s_0 : LL), J x6 n_0 s_0 ->
 let K3 := fun (y0_ : Int) (y1_ : Bool) (y2_ : LL) => aG (zai n f es n2 f2 ss y0_ y1_ y2_) /\ J y0_ y1_ y2_ /\ μ y0_ y1_ y2_ < μ x6 n_0 s_0; if decide (x6 < (↑ss.length : Int)) = true then aK ss x6 1 /\ ∃ n1, (ss.getD x6.toNat
  []).head? = some (Z3 n1) /\ ACall Tryz.prog 73 [LV.pv (PV.sl n f es), LV.pv (Z3 n1), Y6 8] [] fun (r : LV) (h' : Hp) => (∃ (t : Bool × LL), (r = LV.own 0 /\ h' = [Ob.sl (21, 1) true t.fst t.snd]) /\ True /\ (aT t.snd 1 /\ (s_0.length +
  t.snd.length) * 4 <= 140737488355328) /\ K3 (i64.wrap (x6 + 1)) (n_0 && t.snd.isEmpty) (s_0 ++ t.snd)) ∨ ∃ (t : LL), (r = LV.pv (PV.sl false true t) /\ h' = []) /\ True /\ (aT t 1 /\ (s_0.length + t.length) * 4 <= 140737488355328) /\
  K3 (i64.wrap (x6 + 1)) (n_0 && t.isEmpty) (s_0 ++ t) else PCall Tryz.prog 74 [PV.sl n f es, PV.sl n_0 false s_0] fun v => ∃ n1 f1 es1, v = PV.sl n1 f1 es1 /\ R (PV.sl n1 f1 es1)
theorem zsl {R : PV -> Prop} (h : zhw n f es n2 f2 ss J μ R) : PCall Tryz.prog 32 [.sl n f es, .sl n2 f2 ss] R :=
 PCall.of Tryz.func32 (by kernel_rfl) (by kernel_rfl) (zl (by kernel_rfl)) (Eq.mpr (by kernel_rfl : aO Tryz.prog (fun zz_ => match zz_ with | 73 => some ⟨Bool × LL, fun _ hs t => (.own hs.length, hs ++ [.sl (21, 1) true t.1 t.2]), some ⟨LL, fun _ hs t => (.pv (.sl false true t), hs)⟩⟩ | _ => none) Tryz.f32 [0, 1, 4, 5, 6, 10] (fun zz_ => match zz_ with | 3 => some ⟨Int × Bool × LL, fun s => zai n f es n2 f2 ss s.1 s.2.1 s.2.2, fun _ s => J s.1 s.2.1 s.2.2, fun s => μ s.1 s.2.1 s.2.2, fun e h => (gI e 6, oN h 0, oS h 0), [(5, 21, 1)], [0, 1, 5, 6], [], fun p => ∀ (x6 : Int) (n_0 : Bool) (s_0 : LL), p (x6, n_0, s_0), fun p h s => h s.1 s.2.1 s.2.2⟩ | _ => none) (Tryz.f32.body.getD .skip) [.sl n f es, .sl n2 f2 ss] R = _) h)
end
def zaj (n f : Bool) (es : LL) (n2 f2 : Bool) (ss : LL) (x13 : Int) : Env × Hp := ([(0, LV.pv (PV.sl n f es)), (1, LV.pv (PV.sl n2 f2 ss)), (12, Y6 ↑es.length), (13, Y6 x13)], [])
section
variable (n f : Bool) (es : LL) (n2 f2 : Bool) (ss : LL) (J : Int -> Prop) (μ : Int -> Nat)
def zak (R : PV -> Prop) : Prop :=
 if ((↑es.length : Int) != (↑ss.length : Int)) = true then R (Zb false) else (aG (zaj n f es n2 f2 ss (0 : Int)) /\ J (0 : Int)) /\ ∀ (x13 : Int), J x13 -> if decide (x13 < (↑es.length : Int)) = true then aK es x13 1 /\ ∃ (n1 : Int),
 (es.getD x13.toNat []).head? = some (Z3 n1) /\ aK ss x13 1 /\ ∃ n3, (ss.getD x13.toNat []).head? = some (Z3 n3) /\ if (n1 != n3) = true then R (Zb false) else aG (zaj n f es n2 f2 ss (i64.wrap (x13 + 1))) /\ J
 (i64.wrap (x13 + 1)) /\ μ (i64.wrap (x13 + 1)) < μ x13 else R (Zb true)
theorem zsm {R : PV -> Prop} (h : zak n f es n2 f2 ss J μ R) : PCall Tryz.prog 70 [.sl n f es, .sl n2 f2 ss] R :=
 PCall.of Tryz.func70 (by kernel_rfl) (by kernel_rfl) (zl (by kernel_rfl)) (Eq.mpr (by kernel_rfl : aO Tryz.prog (fun _ => none) Tryz.f70 [0, 1, 4, 5, 10, 12, 13, 14, 24] (fun zz_ => match zz_ with | 4 => some ⟨Int × Unit, fun s => zaj n f es n2 f2 ss s.1, fun _ s => J s.1, fun s => μ s.1, fun e h => (((gI e 13), ())), [], [0, 1, 12, 13], [], fun p => ∀ (x13 : Int), p (x13, ()), fun p h s => h s.1⟩ | _ => none) (Tryz.f70.body.getD .skip) [.sl n f es, .sl n2 f2 ss] R = _) h)
end
end Go.Eng



namespace Go.Eng.Rows
open Go Go.Eng Go.Eng.Trie
def qJ (rows : List Row) : Bool -> Int -> List Int -> Int
 | m, _, [] => if m then 2 else 0
 | m, last, r :: l => if (decide (ofQ rows r = 1) || (!decide (aB rows 1 r = 0) && decide (aB rows 1 r < last))) then 1 else qJ rows (m || decide (ofQ rows r = 2)) (aB rows 1 r) l
def zsn (rows : List Row) : Bool := rows.all fun x => !decide (x.kind = 2) || ((decide (1 <= x.a) && decide (x.a <= 1114111)) && (decide (0 <= x.b) && decide (x.b <= 1114111)))
theorem zso {rows : List Row} (h : zsn rows = true) : cX rows := fun x hx hk => by
 have := List.all_eq_true.1 h x hx
 simpa [hk] using this
def zsp (rows : List Row) : Bool := rows.all fun x => !decide (x.kind = 2) || (decide (x.fr = x.to) && ((decide (0 <= x.fr) && decide (x.fr <= 1114111)) && decide (first rows 2 x.fr = some (x.a, x.b))))
theorem zhx {rows : List Row} (h : zsp rows = true) : eB rows := fun x hx hk => by
 have := List.all_eq_true.1 h x hx
 simpa [hk] using this
def zsq (rows : List Row) : Bool := rows.all fun x => !decide (x.kind = 1) || decide (0 <= x.a)
def cY (rows : List Row) : Prop := ∀ r, 0 <= aB rows 1 r
theorem zsr {rows : List Row} (h : zsq rows = true) : cY rows := fun r => by
 unfold aB
 cases hf : bM rows 1 r with
 | none => exact Int.le_refl _
 | some p =>
   obtain ⟨x, hx, hk, ha, _⟩ := i7 hf
   have := List.all_eq_true.1 h x hx
   simp only [hk, decide_true, Bool.not_true, Bool.false_or, decide_eq_true_eq] at this
   simp only; omega
end Go.Eng.Rows



namespace Go.Eng
open Go Go.Proofs Go.Eng.Rows Go.Eng.Trie
theorem fY : cX tab := zso (by kernel_rfl)
theorem tS : eB tab := zhx (by kernel_rfl)
theorem eD : cY tab := zsr (by kernel_rfl)
theorem q1 : qJ tab false 0 [101, 769] = 2 := by kernel_rfl
theorem q2 : qJ tab false 0 [233] = 0 := by kernel_rfl
theorem q3 : qJ tab false 0 [769, 807] = 1 := by kernel_rfl
theorem q4 : qJ tab false 0 [8491] = 1 := by kernel_rfl
theorem q5 : zS tab 101 = true := by kernel_rfl
theorem q6 : zS tab 769 = false := by kernel_rfl
theorem q7 : zS tab 4449 = false := by kernel_rfl
end Go.Eng



namespace Go.Eng.Rows
open Go Go.Eng Go.Eng.Trie Go.Eng.Srt
def cS (rows : List Row) (l : List Int) : List Int := bU (aB rows 1) (l.flatMap (aQ rows 8))
def bV (rows : List Row) (x : Int) : Bool := !bN x && decide (aH rows x = (0, 0))
def qK (rows : List Row) : Prop := ∀ r, ∀ x ∈ aQ rows 8 r, bV rows x = true
def zhy (rows : List Row) : Bool := (rows.all fun x => !decide (x.kind = 2) || (aQ rows 8 x.fr).all (bV rows)) && ((List.range 19).all fun n => bV rows (4352 + n)) && ((List.range 21).all fun n => bV rows (4449 + n)) && ((List.range 28).all fun n => bV rows (4519 + n))
theorem zhz {rows : List Row} {r : Int} {p : Int × Int} (h : bM rows 2 r = some p) : ∃ x ∈ rows, x.kind = 2 /\ x.fr <= r /\ r <= x.to := by
 obtain ⟨x, h1, h2, _, _, h3, h4, _⟩ := i7 h
 exact ⟨x, h1, h2, h3, h4⟩
theorem zal {p : Int -> Bool} {n : Nat} {b x : Int} (h : ((List.range n).all fun k => p (b + k)) = true) (h1 : b <= x) (h2 : x < b + n) : p x = true := by
 have := List.all_eq_true.1 h (x - b).toNat (List.mem_range.2 (by omega))
 rwa [show b + ((x - b).toNat : Int) = x by omega] at this
theorem zss {rows : List Row} (h1 : eB rows) (h : zhy rows = true) : qK rows := by
 simp only [zhy, Bool.and_eq_true] at h
 obtain ⟨⟨⟨c1, c2⟩, c3⟩, c4⟩ := h
 intro r x hx
 by_cases hs : bN r = true
 ·rw [i9 hs] at hx
  simp only [bN, Bool.and_eq_true, decide_eq_true_eq] at hs
  unfold dP at hx
  have k1 : bV rows (4352 + (r - 44032) / 588) = true := zal c2 (by omega) (by omega)
  have k2 : bV rows (4449 + (r - 44032) / 28 % 21) = true := zal c3 (by omega) (by omega)
  have k3 : bV rows (4519 + (r - 44032) % 28) = true := zal c4 (by omega) (by omega)
  split at hx <;> simp only [List.mem_cons, List.not_mem_nil, or_false] at hx
  ·rcases hx with rfl | rfl
   ·exact k1
   ·exact k2
  ·rcases hx with rfl | rfl | rfl
   ·exact k1
   ·exact k2
   ·exact k3
 ·simp only [Bool.not_eq_true] at hs
  by_cases h0 : aH rows r = (0, 0)
  ·rw [nL hs h0, List.mem_singleton] at hx
   subst hx
   simp [bV, hs, h0]
  ·have : ∃ p, bM rows 2 r = some p := by
    unfold aH at h0
    cases hf : bM rows 2 r with
    | none => rw [hf] at h0; exact absurd rfl h0
    | some p => exact ⟨p, rfl⟩
   obtain ⟨p, hp⟩ := this
   obtain ⟨y, hy, hk, f1, f2⟩ := zhz hp
   obtain ⟨e1, _⟩ := h1 y hy hk
   have hr : y.fr = r := by omega
   have := List.all_eq_true.1 c1 y hy
   simp only [hk, decide_true, Bool.not_true, Bool.false_or, hr] at this
   exact List.all_eq_true.1 this x hx
theorem tT {rows : List Row} {x : Int} (h : bV rows x = true) (d : Nat) : aQ rows d x = [x] := by
 simp only [bV, Bool.and_eq_true, Bool.not_eq_true', decide_eq_true_eq] at h
 exact nL h.1 h.2
theorem zam {rows : List Row} : ∀ {l : List Int}, (∀ x ∈ l, bV rows x = true) -> l.flatMap (aQ rows 8) = l
 | [], _ => rfl
 | x :: l, h => by
   rw [List.flatMap_cons, tT (h x List.mem_cons_self), zam fun y hy => h y (List.mem_cons_of_mem _ hy)]; rfl
section
variable {rows : List Row} (hk : cY rows)
include hk
theorem zh0 {l : List Int} {x : Int} : x ∈ cS rows l ↔ ∃ r ∈ l, x ∈ aQ rows 8 r := by
 unfold cS
 rw [<- (nN hk _).mem, List.mem_flatMap]
theorem zh1 (hc : qK rows) (l : List Int) : ∀ x ∈ cS rows l, bV rows x = true := fun x hx => by
 obtain ⟨r, _, h⟩ := (zh0 hk).1 hx
 exact hc r x h
theorem qL (hp : cX rows) {l : List Int} (h : ∀ x ∈ l, -2147483648 <= x /\ x <= 2147483647) : ∀ x ∈ cS rows l, -2147483648 <= x /\ x <= 2147483647 := fun x hx => by
 obtain ⟨r, hr, h2⟩ := (zh0 hk).1 hx
 rcases tH hp 8 r x h2 with rfl | h3
 ·exact h x hr
 ·omega
theorem qM (l : List Int) : (cS rows l).length <= 768 * l.length := by
 unfold cS
 rw [<- (nN hk _).len]
 induction l with
 | nil => simp
 | cons x l ih =>
   have := kV rows 8 x
   rw [List.flatMap_cons, List.length_append, List.length_cons]; omega
theorem zst (hc : qK rows) (l : List Int) : cS rows (cS rows l) = cS rows l := by
 have h := zam (zh1 hk hc l)
 unfold cS at h ⊢
 rw [h, zr5 hk]
end
theorem zsu (rows : List Row) (l : List Int) : bZ (aB rows 1) (cS rows l) := zr7 _
end Go.Eng.Rows



namespace Go.Eng
open Go Go.Proofs Go.Eng.Rows Go.Eng.Trie
theorem zh2 {α : Type} (p : α -> Bool) : ∀ {A : List α} (B : List α), (∀ x ∈ A, p x = false) -> (A ++ B).find? p = B.find? p
 | [], B, _ => rfl
 | a :: A, B, h => by
   rw [List.cons_append, List.find?_cons, h a List.mem_cons_self]
   exact zh2 p B fun x hx => h x (List.mem_cons_of_mem _ hx)
theorem zh3 {α : Type} (p : α -> Bool) : ∀ (A : List α) {B : List α}, (∀ x ∈ B, p x = false) -> (A ++ B).find? p = A.find? p
 | [], B, h => List.find?_eq_none.2 fun x hx => by rw [h x hx]; simp
 | a :: A, B, h => by
   rw [List.cons_append, List.find?_cons, List.find?_cons]
   cases p a with
   | true => rfl
   | false => exact zh3 p A h
def noK (k : Int) (l : List Row) : Bool := l.all fun x => !decide (x.kind = k)
theorem zh4 {k r : Int} {l : List Row} (h : noK k l = true) : ∀ x ∈ l, x.has k r = false := fun x hx => by
 have := List.all_eq_true.1 h x hx
 simp only [Bool.not_eq_true', decide_eq_false_iff_not] at this
 simp [Row.has, this]
theorem zsv {A B C : List Row} {k : Int} (h1 : noK k A = true) (h2 : noK k C = true) (r : Int) : bM (A ++ (B ++ C)) k r = bM B k r := by
 unfold bM first
 rw [zh2 _ _ (zh4 h1), zh3 _ _ (zh4 h2)]
theorem zh5 : tab = yE ++ (tab73 ++ (yF ++ yG ++ yH ++ yI ++ yJ ++ yK)) := by unfold tab; simp only [List.append_assoc]
theorem zh6 : aH tab = aH tab73 := funext fun r => by
 unfold aH; rw [zh5, zsv (by kernel_rfl) (by kernel_rfl)]
theorem zsw {A B : List Row} (h : aH A = aH B) : ∀ d, aQ A d = aQ B d := fun d => by
 induction d with
 | zero => rfl
 | succ d ih => funext r; simp only [aQ, h, ih]
theorem zsx {A B : List Row} (h : aH A = aH B) : bV A = bV B := funext fun r => by simp only [bV, h]
theorem zan (d : Nat) : aQ tab d = aQ tab73 d := zsw zh6 d
theorem zsy : bV tab = bV tab73 := zsx zh6
theorem zh7 {x : Row} (hx : x ∈ tab) (hk : x.kind = 2) : x ∈ tab73 := by
 rw [zh5] at hx
 have no : ∀ {l : List Row}, noK 2 l = true -> x ∉ l := fun h hx => by
  have := List.all_eq_true.1 h x hx
  simp [hk] at this
 rcases List.mem_append.1 hx with h | h
 ·exact absurd h (no (by kernel_rfl))
 ·rcases List.mem_append.1 h with h | h
  ·exact h
  ·exact absurd h (no (by kernel_rfl))
theorem zsz : eB tab73 := zhx (by kernel_rfl)
end Go.Eng



namespace Go.Eng
open Go Go.Proofs Go.Eng.Rows Go.Eng.Trie
theorem zs0 : qK tab := fun r x hx => by
 rw [zsy]
 rw [zan] at hx
 exact zss zsz (by kernel_rfl) r x hx
end Go.Eng



namespace Go.Eng
open Go Go.Proofs Go.Eng.Rows Go.Eng.Trie Go.Eng.Srt
theorem PCall.ofA {P : Program} {f : Nat} {args : List PV} {Q : LV -> Hp -> Prop} {R : PV -> Prop} (hc : ACall P f (args.map .pv) [] Q) (hq : ∀ r h', Q r h' -> ∃ p, iQ h' r = some p /\ R p) : PCall P f args R :=
 ⟨hc.1, fun w I G cargs h1 h2 h3 => (hc.2 w I G cargs h1 h2 h3).mono fun e w' ⟨cv, r, h', I', G', e1, e2, e3, e4, e5⟩ => by
  obtain ⟨p, hp, hR⟩ := hq r h' e2
  have ht := e5.t
  have hno : ∀ b, ¬ aW [] G b := fun b ⟨o, ob, ho, _⟩ => by simp at ho
  exact ⟨cv, .pv p, [], AllB I' h' G', G', e1, ⟨p, rfl, hR⟩, HRel.nil G' (fun b hb => hb.elim (e3.cl b) e3.blk_lt), .pv _ _ (o7 e3 e4 hp),
   ⟨⟨ht.os, ht.tape, ht.output, ht.size, ht.keep, fun b hb => .inl (ht.i1 b hb), fun b hb => hb.elim (ht.i2 b) (fun ho => (ht.own2 b ho).elim (fun x => absurd x (hno b)) (fun x => .inr (.inr x))), fun b hb => absurd hb (fun ⟨o, ob, ho, _⟩ => by simp at ho), ht.frz, ht.drawn⟩, Nat.le_refl _, fun o ob ho => by simp at ho⟩⟩⟩
theorem zh8 (n f : Bool) (l : List Int) (k : Nat) (hk : k < 1000) : PCall Tryz.prog 14 [.sl n f (aA l), .int .i64 k] fun v => ∃ n f, v = .sl n f (aA (l.take k)) := by
 refine zsi _ _ _ _ ?_; unfold zhu
 refine aD (fun hc => ?_) (fun hc => ?_)
 ·simp only [decide_eq_true_eq, aS] at hc
  refine ⟨⟨by unfold dB; simp; omega, dC _⟩, n, _, by rw [show ((k : Int)).toNat = k by omega]; simp only [aA, List.map_take, List.drop_zero]; rfl⟩
 ·simp only [decide_eq_true_eq, aS] at hc
  rw [List.take_of_length_le (by omega)]
  exact ⟨_, _, rfl⟩
theorem zs1 (n f n2 f2 : Bool) (l m : List Int) (hl : l.length < 1000000000000) : zaf n f (aA l) n2 f2 (aA m) (fun i => 0 <= i /\ i <= l.length /\ l.take i.toNat = m.take i.toNat) (fun i => l.length - i.toNat) fun v => v = .bool (decide (l = m)) := by
 unfold zaf
 refine aD (fun hc => ?_) (fun hc => ?_)
 ·simp only [aS, bne_iff_ne, ne_eq] at hc
  have : l ≠ m := fun e => hc (by rw [e])
  simp [this]
 ·simp only [aS, bne_iff_ne, ne_eq, Decidable.not_not] at hc
  have hlm : l.length = m.length := by omega
  refine ⟨⟨rfl, Int.le_refl _, by omega, rfl⟩, ?_⟩
  rintro i ⟨i0, i1, he⟩
  refine aD (fun h => ?_) (fun h => ?_)
  ·simp only [decide_eq_true_eq, aS] at h
   have hi : i.toNat < l.length := by omega
   have hj : i.toNat < m.length := by omega
   obtain ⟨g1, g2⟩ := e9 i0 hi
   obtain ⟨k1, k2⟩ := e9 i0 hj
   have hw : i64.wrap (i + 1) = i + 1 := aC (by omega) (by omega)
   refine ⟨g1, l[i.toNat], by rw [g2]; rfl, k1, m[i.toNat], by rw [k2]; rfl, aD (fun hc2 => ?_) (fun hc2 => ?_)⟩
   ·simp only [bne_iff_ne, ne_eq] at hc2
    have : l ≠ m := fun e => hc2 (by subst e; rfl)
    simp [this]
   ·simp only [bne_iff_ne, ne_eq, Decidable.not_not] at hc2
    rw [hw]
    exact ⟨rfl, ⟨by omega, by omega, by rw [show (i + 1).toNat = i.toNat + 1 by omega, cG hi, cG hj, he, hc2]⟩, by dsimp only; omega⟩
  ·simp only [decide_eq_true_eq, aS] at h
   rw [List.take_of_length_le (by omega), List.take_of_length_le (by omega)] at he
   simp [he]
theorem zs2 (n f n2 f2 : Bool) (l m : List Int) (hl : l.length < 1000000000000) : zak n f (aA l) n2 f2 (aA m) (fun i => 0 <= i /\ i <= l.length /\ l.take i.toNat = m.take i.toNat) (fun i => l.length - i.toNat) fun v => v = .bool (decide (l = m)) := by
 unfold zak
 refine aD (fun hc => ?_) (fun hc => ?_)
 ·simp only [aS, bne_iff_ne, ne_eq] at hc
  have : l ≠ m := fun e => hc (by rw [e])
  simp [this]
 ·simp only [aS, bne_iff_ne, ne_eq, Decidable.not_not] at hc
  have hlm : l.length = m.length := by omega
  refine ⟨⟨rfl, Int.le_refl _, by omega, rfl⟩, ?_⟩
  rintro i ⟨i0, i1, he⟩
  refine aD (fun h => ?_) (fun h => ?_)
  ·simp only [decide_eq_true_eq, aS] at h
   have hi : i.toNat < l.length := by omega
   have hj : i.toNat < m.length := by omega
   obtain ⟨g1, g2⟩ := e9 i0 hi
   obtain ⟨k1, k2⟩ := e9 i0 hj
   have hw : i64.wrap (i + 1) = i + 1 := aC (by omega) (by omega)
   refine ⟨g1, l[i.toNat], by rw [g2]; rfl, k1, m[i.toNat], by rw [k2]; rfl, aD (fun hc2 => ?_) (fun hc2 => ?_)⟩
   ·simp only [bne_iff_ne, ne_eq] at hc2
    have : l ≠ m := fun e => hc2 (by subst e; rfl)
    simp [this]
   ·simp only [bne_iff_ne, ne_eq, Decidable.not_not] at hc2
    rw [hw]
    exact ⟨rfl, ⟨by omega, by omega, by rw [show (i + 1).toNat = i.toNat + 1 by omega, cG hi, cG hj, he, hc2]⟩, by dsimp only; omega⟩
  ·simp only [decide_eq_true_eq, aS] at h
   rw [List.take_of_length_le (by omega), List.take_of_length_le (by omega)] at he
   simp [he]
theorem zh9 (n f n2 f2 : Bool) (l m : List Int) (hl : l.length < 1000000000000) : PCall Tryz.prog 26 [.sl n f (aA l), .sl n2 f2 (aA m)] fun v => v = .bool (decide (l = m)) :=
 zsj _ _ _ _ _ _ _ _ (zs1 n f n2 f2 l m hl)
theorem zia (n f n2 f2 : Bool) (l m : List Int) (hl : l.length < 1000000000000) : PCall Tryz.prog 70 [.sl n f (aA l), .sl n2 f2 (aA m)] fun v => v = .bool (decide (l = m)) :=
 zsm _ _ _ _ _ _ (fun i => 0 <= i /\ i <= l.length /\ l.take i.toNat = m.take i.toNat) (fun i => l.length - i.toNat) (zs2 n f n2 f2 l m hl)
section
variable {rows : List Row}
end
end Go.Eng



namespace Go.Eng
open Go Go.Proofs Go.Eng.Rows Go.Eng.Trie Go.Eng.Srt
section
variable {rows : List Row}
theorem set1 {es : List (List PV)} {k : Nat} {v x : PV} (h : es.getD k [] = [x]) : es.set k (v :: zq (List.drop 1 (es.getD k []))) = es.set k [v] := by rw [h]; rfl
theorem zao (A : List Int) (x : Int) (B : List Int) : (aA (A ++ x :: B)).getD A.length [] = [.int .i32 x] := by
 rw [zd6 (by simp)]; simp
theorem zap (A : List Int) (x : Int) (B : List Int) : (aX (A ++ x :: B)).getD A.length [] = [.int .i64 x] := by
 simp [aX]
theorem zs3 (hk : cY rows) (n f n2 f2 : Bool) (L : List Int) (hrl : rows.length < 1000000) (hL : L.length < 1000000000) (hr : R32 L) :
 PCall Tryz.prog 74 [.sl n f (aZ rows), .sl n2 f2 (aA L)] fun v => ∃ n f, v = .sl n f (aA (bU (aB rows 1) L)) := by
 have olen : ∀ l, (bU (aB rows 1) l).length = l.length := fun l => ((nN (key := aB rows 1) hk l).len).symm
 refine zsk _ _ _ _ _ _
  (fun i _ s0 _ s1 => 0 <= i /\ i <= L.length /\ s0 = aA (bU (aB rows 1) (L.take i.toNat)) /\ s1 = aX ((bU (aB rows 1) (L.take i.toNat)).map (aB rows 1))) (fun i _ _ _ _ => L.length - i.toNat)
  (fun i0 _ _ _ _ _ _ i c k _ s0 _ s1 => i = i0 /\ 0 <= i /\ i.toNat < L.length /\ ∃ x A B, L[i.toNat]? = some x /\ c = aB rows 1 x /\ k = (A.length : Nat) /\ bU (aB rows 1) (L.take i.toNat) = A ++ B /\ (∀ y ∈ B, eC (aB rows 1) x y = true) /\ s0 = aA (A ++ x :: B) /\ s1 = aX ((A ++ x :: B).map (aB rows 1))) (fun _ _ k _ _ _ _ => k.toNat) ?_
 unfold zhv
 refine ⟨⟨rfl, Int.le_refl _, by omega, by simp [bU, aA], by simp [bU, aX]⟩, ?_⟩
 rintro i n0 _ n1 _ ⟨i0, i1, rfl, rfl⟩
 refine aD (fun hc => ?_) (fun hc => ?_)
 ·simp only [decide_eq_true_eq, aS] at hc
  have hi : i.toNat < L.length := by omega
  obtain ⟨g1, g2⟩ := e9 i0 hi
  have hx := hr _ (List.getElem_mem hi)
  have hw : i64.wrap (i + 1) = i + 1 := aC (by omega) (by omega)
  have hol := olen (L.take i.toNat)
  rw [List.length_take] at hol
  refine ⟨g1, L[i.toNat], by rw [g2]; rfl, ?_⟩
  refine (qC n f _ hrl hx).mono ?_
  rintro _ rfl
  refine ⟨_, rfl, g1, L[i.toNat], by rw [g2]; rfl, ⟨dC [_], by rw [aS]; omega⟩, ⟨pW (enc := fun n => [PV.int .i64 n]) (fun _ => rfl) [_], by rw [i6, List.length_map]; omega⟩, ⟨rfl, ?_⟩, ?_⟩
  ·refine ⟨rfl, i0, hi, L[i.toNat], bU (aB rows 1) (L.take i.toNat), [], List.getElem?_eq_getElem hi, rfl, by simp, by simp, fun y hy => (by cases hy), by simp [aA], by simp [aX]⟩
  ·rintro i' c k n01 _ n11 _ ⟨rfl, _, _, x, A, B, hxi, rfl, rfl, hord, hB, rfl, rfl⟩
   have hwi : i64.wrap (i' + 1) = i' + 1 := aC (by omega) (by omega)
   have hAB : A.length + B.length = min i'.toNat L.length := by rw [<- hol, hord, List.length_append]
   have hxe : L[i'.toNat] = x := (List.getElem?_eq_some_iff.1 hxi).2
   -- the end of the walk back
   have done : (A = [] ∨ ∃ A' z, A = A' ++ [z] /\ eC (aB rows 1) x z = false) -> 0 <= i' + 1 /\ i' + 1 <= L.length /\ aA (A ++ x :: B) = aA (bU (aB rows 1) (L.take (i' + 1).toNat)) /\ aX ((A ++ x :: B).map (aB rows 1)) = aX ((bU (aB rows 1) (L.take (i' + 1).toNat)).map (aB rows 1)) := fun h => by
    have : bU (aB rows 1) (L.take (i' + 1).toNat) = A ++ x :: B := by
     rw [show (i' + 1).toNat = i'.toNat + 1 by omega, cG hi, tO, hord, hxe, kZ hB h]
    rw [this]
    exact ⟨by omega, by omega, rfl, rfl⟩
   have hmu : L.length - (i' + 1).toNat < L.length - i'.toNat := by omega
   refine aD (fun h1 => ?_) (fun h1 => ?_)
   ·simp only [Bool.and_eq_true, decide_eq_true_eq, bne_iff_ne, ne_eq] at h1
    obtain ⟨A', z, rfl⟩ : ∃ A' z, A = A' ++ [z] := by
     rcases A.eq_nil_or_concat with rfl | ⟨D, z, rfl⟩
     ·simp at h1
     ·exact ⟨D, z, by simp⟩
    have lA : (A' ++ [z]).length = A'.length + 1 := by simp
    rw [lA] at hAB
    have hwk : i64.wrap ((((A' ++ [z]).length : Nat) : Int) - 1) = (A'.length : Nat) := by rw [lA, aC (by omega) (by omega)]; omega
    have e0 : (A' ++ [z]) ++ x :: B = A' ++ z :: (x :: B) := by simp
    rw [hwk, e0]
    simp only [List.map_append, List.map_cons, Int.toNat_natCast]
    rw [lA]
    generalize hk2 : aB rows 1 = key at *
    have i1 : aK (aA (A' ++ z :: x :: B)) ((A'.length : Nat) : Int) 1 := bW (enc := fun n => [PV.int .i32 n]) (fun _ => rfl) (by omega) (by simp; omega)
    have i2 : aK (aA (A' ++ z :: x :: B)) ((A'.length + 1 : Nat) : Int) 1 := bW (enc := fun n => [PV.int .i32 n]) (fun _ => rfl) (by omega) (by simp; omega)
    have j1 : aK (aX (A'.map key ++ key z :: key x :: B.map key)) ((A'.length : Nat) : Int) 1 := bW lZ (by omega) (by simp; omega)
    have j2 : aK (aX (A'.map key ++ key z :: key x :: B.map key)) ((A'.length + 1 : Nat) : Int) 1 := bW lZ (by omega) (by simp; omega)
    have i3 : aK (aA (A' ++ z :: z :: B)) ((A'.length : Nat) : Int) 1 := bW (enc := fun n => [PV.int .i32 n]) (fun _ => rfl) (by omega) (by simp; omega)
    have j3 : aK (aX (A'.map key ++ key z :: key z :: B.map key)) ((A'.length : Nat) : Int) 1 := bW lZ (by omega) (by simp; omega)
    have gz := zao A' z (x :: B)
    have gx : (aA (A' ++ z :: x :: B)).getD (A'.length + 1) [] = [.int .i32 x] := by have := zao (A' ++ [z]) x B; simpa using this
    have hz : (aX (A'.map key ++ key z :: key x :: B.map key)).getD A'.length [] = [.int .i64 (key z)] := by have := zap (A'.map key) (key z) (key x :: B.map key); simpa using this
    have hx2 : (aX (A'.map key ++ key z :: key x :: B.map key)).getD (A'.length + 1) [] = [.int .i64 (key x)] := by have := zap (A'.map key ++ [key z]) (key x) (B.map key); simpa using this
    have gz2 := zao A' z (z :: B)
    have hz2 : (aX (A'.map key ++ key z :: key z :: B.map key)).getD A'.length [] = [.int .i64 (key z)] := by have := zap (A'.map key) (key z) (key z :: B.map key); simpa using this
    have s1 : (aA (A' ++ z :: x :: B)).set (A'.length + 1) [.int .i32 z] = aA (A' ++ z :: z :: B) := by
     have := qD (A' ++ [z]) B x z
     have e : (aA (A' ++ z :: x :: B)).set (A'.length + 1) [.int .i32 z] = aA ((A' ++ z :: x :: B).set (A'.length + 1) z) := by simp [aA, List.map_set]
     rw [e]; simp at this ⊢
    have s2 : (aA (A' ++ z :: z :: B)).set A'.length [.int .i32 x] = aA (A' ++ x :: z :: B) := by simp [aA]
    have t1 : (aX (A'.map key ++ key z :: key x :: B.map key)).set (A'.length + 1) [.int .i64 (key z)] = aX (A'.map key ++ key z :: key z :: B.map key) := by simp [aX]
    have t2 : (aX (A'.map key ++ key z :: key z :: B.map key)).set A'.length [.int .i64 (key x)] = aX (A'.map key ++ key x :: key z :: B.map key) := by simp [aX]
    refine ⟨j1, key z, by rw [hz]; rfl, aD (fun h2 => ?_) (fun h2 => ?_)⟩
    ·simp only [decide_eq_true_eq] at h2
     refine ⟨i1, z, by rw [gz]; rfl, i2, ⟨trivial, by rw [gx]; exact Nat.le_refl _⟩, j1, key z, by rw [hz]; rfl, j2, ⟨trivial, by rw [hx2]; exact Nat.le_refl _⟩, g1, x, by rw [g2, hxe]; rfl, ?_⟩
     rw [set1 gx, set1 hx2, s1, t1, set1 gz2, set1 hz2, s2, t2]
     refine ⟨i3, ⟨trivial, by rw [gz2]; exact Nat.le_refl _⟩, j3, ⟨trivial, by rw [hz2]; exact Nat.le_refl _⟩, rfl, ⟨trivial, i0, hi, x, A', z :: B, hxi, rfl, rfl, by rw [hord]; simp, fun y hy => ?_, rfl, by simp⟩, by simp⟩
     rcases List.mem_cons.1 hy with rfl | hy
     ·exact mC.2 ⟨h1.2, h2⟩
     ·exact hB y hy
    ·simp only [decide_eq_true_eq] at h2
     rw [hwi]
     obtain ⟨d1, d2, d3, d4⟩ := done (.inr ⟨A', z, rfl, qH.2 (.inr (by omega))⟩)
     refine ⟨rfl, ⟨d1, d2, ?_, ?_⟩, hmu⟩
     ·rw [<- d3, e0]
     ·rw [<- d4]; simp
   ·have hA : A = [] ∨ aB rows 1 x = 0 := by
     simp only [Bool.and_eq_true, decide_eq_true_eq, bne_iff_ne, ne_eq, not_and, Decidable.not_not] at h1
     by_cases hA : A = []
     ·exact .inl hA
     ·exact .inr (h1 (by have := List.length_pos_iff.2 hA; omega))
    rw [hwi]
    refine ⟨rfl, done ?_, hmu⟩
    rcases hA with h | h
    ·exact .inl h
    ·rcases A.eq_nil_or_concat with rfl | ⟨D, z, rfl⟩
     ·exact .inl rfl
     ·exact .inr ⟨D, z, by simp, qH.2 (.inl h)⟩
 ·simp only [decide_eq_true_eq, aS] at hc
  rw [List.take_of_length_le (by omega)]
  exact ⟨_, _, rfl⟩
end
end Go.Eng



namespace Go.Eng
open Go Go.Proofs Go.Eng.Rows Go.Eng.Trie Go.Eng.Srt
theorem qN : tab.length < 1000000 := by have := zpr; omega
theorem zib (n f : Bool) : PCall Tryz.prog 17 [.sl n f (aZ tab)] (dT tab) := zrg n f tab qN fY
theorem R32.take {l : List Int} (h : R32 l) (k : Nat) : R32 (l.take k) := fun x hx => h x (List.mem_of_mem_take hx)
section
variable {rows : List Row} {v : PV}
theorem zs4 {ts : List PV} {key : Int -> Int} (hT : ∀ r : Int, (-2147483648 <= r /\ r <= 2147483647) -> PCall Tryz.prog 80 [.ptr ts, .int .i32 r] fun v => v = .int .i64 (key r)) : jA (.ptr ts) key := by
 intro a b ha hb
 refine zn0 _ _ _ ?_; unfold zel
 refine .inl ⟨ts, rfl, .inl ⟨ts, rfl, ?_⟩⟩
 refine (hT a ha).mono ?_
 rintro _ rfl
 refine ⟨_, rfl, ?_⟩
 refine (hT b hb).mono ?_
 rintro _ rfl
 refine ⟨_, rfl, ?_⟩
 refine (p61 _ _).mono ?_
 rintro _ rfl
 refine ⟨_, rfl, _, rfl, ?_⟩
 unfold cmpS; split <;> (try split) <;> omega
theorem zic (hp : cX rows) {l : List Int} (h : R32 l) : R32 (l.flatMap (aQ rows 8)) := fun x hx => by
 obtain ⟨r, hr, h2⟩ := List.mem_flatMap.1 hx
 rcases tH hp 8 r x h2 with rfl | h3
 ·exact h x hr
 ·omega
theorem tU (rows : List Row) (l : List Int) : (l.flatMap (aQ rows 8)).length <= 768 * l.length := by
 induction l with
 | nil => simp
 | cons x l ih =>
   have := kV rows 8 x
   rw [List.flatMap_cons, List.length_append, List.length_cons]; omega
theorem zid (rows : List Row) {l : List Int} {i : Nat} (hi : i < l.length) : (l.take (i + 1)).flatMap (aQ rows 8) = (l.take i).flatMap (aQ rows 8) ++ aQ rows 8 l[i] := by
 rw [cG hi, List.flatMap_append]; simp
theorem zaq (hp : cX rows) (hk : cY rows) (n f n2 f2 : Bool) (hrl : rows.length < 1000000) (L : List Int) (hr : R32 L) (hL : L.length < 1000000) : PCall Tryz.prog 32 [.sl n f (aZ rows), .sl n2 f2 (aA L)] fun x => ∃ n f, x = .sl n f (aA (cS rows L)) := by
 refine zsl _ _ _ _ _ _ (fun i _ s => 0 <= i /\ i <= L.length /\ s = aA ((L.take i.toNat).flatMap (aQ rows 8))) (fun i _ _ => L.length - i.toNat) ?_
 unfold zhw
 refine ⟨⟨rfl, Int.le_refl _, by omega, rfl⟩, ?_⟩
 rintro i n1 _ ⟨i0, i1, rfl⟩
 refine aD (fun hc => ?_) (fun hc => ?_)
 ·simp only [decide_eq_true_eq, aS] at hc
  have hi : i.toNat < L.length := by omega
  obtain ⟨g1, g2⟩ := e9 i0 hi
  have hx := hr _ (List.getElem_mem hi)
  have hw : i64.wrap (i + 1) = i + 1 := aC (by omega) (by omega)
  have hfl := tU rows (L.take i.toNat)
  rw [List.length_take] at hfl
  have hf1 := kV rows 8 L[i.toNat]
  have he : aA ((L.take i.toNat).flatMap (aQ rows 8)) ++ aA (aQ rows 8 L[i.toNat]) = aA ((L.take (i + 1).toNat).flatMap (aQ rows 8)) := by
   rw [show (i + 1).toNat = i.toNat + 1 by omega, zid rows hi, fW]
  refine ⟨g1, L[i.toNat], by rw [g2]; rfl, ?_⟩
  rw [hw]
  refine (zrl hp n f hrl 8 _ (by omega) hx).mono ?_
  rintro r h' (⟨nl, rfl, rfl⟩ | ⟨rfl, rfl⟩)
  ·exact .inl ⟨(nl, _), ⟨rfl, rfl⟩, trivial, ⟨dC _, by simp only [aS, List.length_map]; omega⟩, rfl, ⟨by omega, by omega, he⟩, by dsimp only; omega⟩
  ·exact .inr ⟨_, ⟨rfl, rfl⟩, trivial, ⟨dC _, by rw [aS, aS]; omega⟩, rfl, ⟨by omega, by omega, he⟩, by dsimp only; omega⟩
 ·simp only [decide_eq_true_eq, aS] at hc
  rw [List.take_of_length_le (by omega)]
  have hfl := tU rows L
  refine (zs3 hk n f n1 false _ hrl (by omega) (zic hp hr)).mono ?_
  rintro _ ⟨n2, f2, rfl⟩
  exact ⟨_, _, _, rfl, _, _, rfl⟩
theorem zar (hk : cY rows) {l : List Int} (h : l.length < 1000000) : (cS rows l).length < 1000000000000 := by
 have := qM hk l; omega
end
end Go.Eng



namespace Go.Eng.Rows
open Go Go.Eng Go.Eng.Trie Go.Eng.Srt
def fZ (a b : Int) : Option Int :=
 if (4352 <= a /\ a < 4371) /\ 4449 <= b /\ b < 4470 then some (44032 + ((a - 4352) * 21 + (b - 4449)) * 28)
 else if (bN a = true /\ (a - 44032) % 28 = 0) /\ 4519 < b /\ b < 4547 then some (a + (b - 4519)) else none
def eE (rows : List Row) (a b : Int) (x : Row) : Bool := decide (x.kind = 2) && (decide (x.a = a) && (decide (x.b = b) && (!decide (b = 0) && !dO rows x.fr)))
def cmpS (rows : List Row) (a b : Int) (o : Option Int) (x : Row) : Option Int :=
 if eE rows a b x then (match o with | none => some x.fr | some r => if x.fr < r then some x.fr else some r) else o
def nO (rows : List Row) (a b : Int) : Option Int := rows.foldl (cmpS rows a b) none
def fG (rows : List Row) (a b : Int) : Option Int := match fZ a b with | some r => some r | none => nO rows a b
theorem zs5 (rows : List Row) (a b : Int) (l : List Row) : match l.foldl (cmpS rows a b) none with
 | none => ∀ x ∈ l, eE rows a b x = false
 | some r => (∃ x ∈ l, eE rows a b x = true /\ x.fr = r) /\ ∀ x ∈ l, eE rows a b x = true -> r <= x.fr := by
 have : ∀ (m : List Row), match m.reverse.foldl (cmpS rows a b) none with
  | none => ∀ x ∈ m, eE rows a b x = false
  | some r => (∃ x ∈ m, eE rows a b x = true /\ x.fr = r) /\ ∀ x ∈ m, eE rows a b x = true -> r <= x.fr := by
  intro m
  induction m with
  | nil => intro x hx; cases hx
  | cons y m ih =>
    rw [List.reverse_cons, List.foldl_append, List.foldl_cons, List.foldl_nil]
    generalize m.reverse.foldl (cmpS rows a b) none = o at ih
    unfold cmpS
    cases hc : eE rows a b y with
    | false =>
      simp only [Bool.false_eq_true, if_false]
      cases o with
      | none => intro x hx; rcases List.mem_cons.1 hx with rfl | hx; exact hc; exact ih x hx
      | some r =>
        obtain ⟨⟨x, h1, h2⟩, h3⟩ := ih
        exact ⟨⟨x, List.mem_cons_of_mem _ h1, h2⟩, fun z hz hz2 => by rcases List.mem_cons.1 hz with rfl | hz; rw [hc] at hz2; cases hz2; exact h3 z hz hz2⟩
    | true =>
      simp only [if_true]
      cases o with
      | none =>
        refine ⟨⟨y, List.mem_cons_self, hc, rfl⟩, fun z hz hz2 => ?_⟩
        rcases List.mem_cons.1 hz with rfl | hz
        ·exact Int.le_refl _
        ·have := ih z hz; rw [this] at hz2; cases hz2
      | some r =>
        obtain ⟨⟨x, h1, h2, h4⟩, h3⟩ := ih
        by_cases hlt : y.fr < r
        ·simp only [hlt, if_true]
         refine ⟨⟨y, List.mem_cons_self, hc, rfl⟩, fun z hz hz2 => ?_⟩
         rcases List.mem_cons.1 hz with rfl | hz
         ·exact Int.le_refl _
         ·have := h3 z hz hz2; omega
        ·simp only [hlt, if_false]
         refine ⟨⟨x, List.mem_cons_of_mem _ h1, h2, h4⟩, fun z hz hz2 => ?_⟩
         rcases List.mem_cons.1 hz with rfl | hz
         ·omega
         ·exact h3 z hz hz2
 have h := this l.reverse
 rw [List.reverse_reverse] at h
 generalize l.foldl (cmpS rows a b) none = o at h ⊢
 cases o with
 | none => intro x hx; exact h x (List.mem_reverse.2 hx)
 | some r => exact ⟨by obtain ⟨⟨x, h1, h2⟩, _⟩ := h; exact ⟨x, List.mem_reverse.1 h1, h2⟩, fun x hx => h.2 x (List.mem_reverse.2 hx)⟩
theorem zas {rows : List Row} (h1 : eB rows) {x : Row} (hx : x ∈ rows) (hk : x.kind = 2) : aH rows x.fr = (x.a, x.b) /\ 0 <= x.fr /\ x.fr <= 1114111 := by
 obtain ⟨e1, e2, e3⟩ := h1 x hx hk
 have hf : bM rows 2 x.fr = some (x.a, x.b) := by unfold bM; rw [if_pos e2]; exact e3
 exact ⟨by unfold aH; rw [hf], e2⟩
theorem zs6 {rows : List Row} (h1 : eB rows) {r : Int} (h : aH rows r ≠ (0, 0)) : ∃ x ∈ rows, x.kind = 2 /\ x.fr = r /\ aH rows r = (x.a, x.b) := by
 cases hf : bM rows 2 r with
 | none => exact absurd (by unfold aH; rw [hf]) h
 | some p =>
   obtain ⟨y, hy, hk, f1, f2⟩ := zhz hf
   obtain ⟨e1, _⟩ := h1 y hy hk
   have hr : y.fr = r := by omega
   have := (zas h1 hy hk).1
   rw [hr] at this
   exact ⟨y, hy, hk, hr, this⟩
theorem zat {rows : List Row} (h1 : eB rows) {a b r : Int} (h : nO rows a b = some r) : aH rows r = (a, b) /\ b ≠ 0 /\ dO rows r = false /\ (0 <= r /\ r <= 1114111) /\ ∃ x ∈ rows, x.kind = 2 /\ x.fr = r := by
 have := zs5 rows a b rows
 unfold nO at h
 rw [h] at this
 obtain ⟨⟨x, hx, hc, rfl⟩, _⟩ := this
 simp only [eE, Bool.and_eq_true, decide_eq_true_eq, Bool.not_eq_true', decide_eq_false_iff_not] at hc
 obtain ⟨hk, ha, hb, h0, ho⟩ := hc
 obtain ⟨hp, hr⟩ := zas h1 hx hk
 exact ⟨by rw [hp, ha, hb], h0, ho, hr, x, hx, hk, rfl⟩
theorem zau {a b r : Int} (h : fZ a b = some r) : bN r = true := by
 unfold fZ at h
 split at h
 ·rename_i hc; cases h; simp only [bN, Bool.and_eq_true, decide_eq_true_eq]; omega
 ·split at h
  ·rename_i hc; cases h; simp only [bN, Bool.and_eq_true, decide_eq_true_eq] at hc ⊢; omega
  ·cases h
theorem zs7 {rows : List Row} (h1 : eB rows) {a b r : Int} (h : fG rows a b = some r) : 0 <= r /\ r <= 1114111 := by
 unfold fG at h
 split at h
 ·rename_i s hj; cases h; have := zau hj; simp only [bN, Bool.and_eq_true, decide_eq_true_eq] at this; omega
 ·exact (zat h1 h).2.2.2.1
structure CSt where
 P : List Int
 s : Option Int
 M : List Int
def dK (key : Int -> Int) (M : List Int) : Int := match M.getLast? with | some m => key m | none => 0
def CSt.out (st : CSt) : List Int := st.P ++ (st.s.toList ++ st.M)
def cV (key : Int -> Int) (st : CSt) (r : Int) : CSt := if key r = 0 then ⟨st.out, some r, []⟩ else ⟨st.P, st.s, st.M ++ [r]⟩
def cO (rows : List Row) (st : CSt) (r : Int) : CSt := match st.s with
 | none => cV (aB rows 1) st r
 | some a => if st.M = [] ∨ dK (aB rows 1) st.M < aB rows 1 r then (match fG rows a r with
   | some c => ⟨st.P, some c, st.M⟩
   | none => cV (aB rows 1) st r) else cV (aB rows 1) st r
def bE (rows : List Row) (l : List Int) : CSt := l.foldl (cO rows) ⟨[], none, []⟩
def gA (rows : List Row) (l : List Int) : List Int := (bE rows l).out
theorem fH (rows : List Row) (l : List Int) (r : Int) : bE rows (l ++ [r]) = cO rows (bE rows l) r := by simp [bE]
theorem lB (key : Int -> Int) (st : CSt) (r : Int) : (cV key st r).out = st.out ++ [r] := by
 unfold cV; split <;> simp [CSt.out]
theorem qO (rows : List Row) (st : CSt) (r : Int) : cO rows st r = cV (aB rows 1) st r ∨ ∃ a c, st.s = some a /\ fG rows a r = some c /\ (st.M = [] ∨ dK (aB rows 1) st.M < aB rows 1 r) /\ cO rows st r = ⟨st.P, some c, st.M⟩ := by
 unfold cO
 split
 ·exact .inl rfl
 ·rename_i a ha
  split
  ·rename_i hf
   cases hc : fG rows a r with
   | none => exact .inl rfl
   | some c => exact .inr ⟨a, c, ha, hc, hf, rfl⟩
  ·exact .inl rfl
theorem zie (rows : List Row) (l : List Int) : (gA rows l).length <= l.length := by
 unfold gA
 induction l using fX with
 | h0 => simp [bE, CSt.out]
 | h1 l r ih =>
   rw [fH, List.length_append, List.length_singleton]
   rcases qO rows (bE rows l) r with e | ⟨a, c, hs, _, _, e⟩
   ·rw [e, lB, List.length_append, List.length_singleton]; omega
   ·rw [e]; simp only [CSt.out, hs, Option.toList, List.length_append, List.length_cons] at ih ⊢; omega
theorem zif {rows : List Row} (h1 : eB rows) (l : List Int) : ∀ x ∈ gA rows l, x ∈ l ∨ (0 <= x /\ x <= 1114111) := by
 unfold gA
 induction l using fX with
 | h0 => intro x hx; simp [bE, CSt.out] at hx
 | h1 l r ih =>
   rw [fH]
   rcases qO rows (bE rows l) r with e | ⟨a, c, hs, hc, _, e⟩
   ·rw [e, lB]
    intro x hx
    rcases List.mem_append.1 hx with hx | hx
    ·exact (ih x hx).imp (fun h => List.mem_append.2 (.inl h)) id
    ·exact .inl (List.mem_append.2 (.inr hx))
   ·rw [e]
    intro x hx
    simp only [CSt.out, Option.toList, List.mem_append, List.mem_cons, List.not_mem_nil, or_false] at hx ih
    rcases hx with hx | rfl | hx
    ·exact (ih x (.inl hx)).imp (fun h => List.mem_append.2 (.inl h)) id
    ·exact .inr (zs7 h1 hc)
    ·exact (ih x (.inr (.inr hx))).imp (fun h => List.mem_append.2 (.inl h)) id
structure TabC (rows : List Row) : Prop where
 one : eB rows
 closed : qK rows
 cls : cY rows
 syl : ∀ x ∈ rows, x.kind = 2 -> bN x.fr = false
 deep : ∀ x ∈ rows, x.kind = 2 -> aQ rows 7 x.fr = aQ rows 8 x.fr
theorem TabC.full7 {rows : List Row} (h : TabC rows) (r : Int) : aQ rows 7 r = aQ rows 8 r := by
 by_cases hs : bN r = true
 ·rw [i9 hs, i9 hs]
 ·simp only [Bool.not_eq_true] at hs
  by_cases h0 : aH rows r = (0, 0)
  ·rw [nL hs h0, nL hs h0]
  ·obtain ⟨x, hx, hk, rfl, _⟩ := zs6 h.one h0
   exact h.deep x hx hk
theorem TabC.join {rows : List Row} (h : TabC rows) {a b c : Int} (ha : bV rows a = true ∨ bN a = true) (hj : fZ a b = some c) : aQ rows 8 c = aQ rows 8 a ++ [b] := by
 rw [i9 (zau hj)]
 unfold fZ at hj
 split at hj
 ·rename_i hc
  cases hj
  have hr : bV rows a = true := by
   rcases ha with ha | ha
   ·exact ha
   ·simp only [bN, Bool.and_eq_true, decide_eq_true_eq] at ha; omega
  rw [tT hr]
  unfold dP
  rw [if_pos (by omega)]
  simp only [List.cons_append, List.nil_append, List.cons.injEq, and_true]
  omega
 ·split at hj
  ·rename_i hc
   cases hj
   obtain ⟨⟨hs, h0⟩, h1, h2⟩ := hc
   rw [i9 hs]
   simp only [bN, Bool.and_eq_true, decide_eq_true_eq] at hs
   unfold dP
   rw [if_neg (by omega), if_pos h0]
   simp only [List.cons_append, List.nil_append, List.cons.injEq, and_true]
   omega
  ·cases hj
theorem TabC.lead {rows : List Row} (h : TabC rows) {a : Int} (ha : 4352 <= a /\ a < 4371) : bV rows a = true := by
 have hx := h.closed (44032 + (a - 4352) * 588) a
 refine hx ?_
 have hs : bN (44032 + (a - 4352) * 588) = true := by simp only [bN, Bool.and_eq_true, decide_eq_true_eq]; omega
 rw [i9 hs]
 unfold dP
 rw [if_pos (by omega), show 4352 + (44032 + (a - 4352) * 588 - 44032) / 588 = a by omega]
 exact List.mem_cons_self
theorem TabC.pair {rows : List Row} (h : TabC rows) {a b c : Int} (hb : bV rows b = true) (hc : fG rows a b = some c) : aQ rows 8 c = aQ rows 8 a ++ [b] := by
 unfold fG at hc
 split at hc
 ·rename_i s hj
  cases hc
  refine h.join ?_ hj
  unfold fZ at hj
  split at hj
  ·rename_i hq; exact .inl (h.lead hq.1)
  ·split at hj
   ·rename_i hq; exact .inr hq.1.1
   ·cases hj
 ·obtain ⟨hp, h0, _, _, x, hx, hk, rfl⟩ := zat h.one hc
  have hs := h.syl x hx hk
  have hn : aH rows x.fr ≠ (0, 0) := by rw [hp]; intro e; cases e; exact h0 rfl
  rw [show (8 : Nat) = 7 + 1 from rfl]
  rw [aQ, if_neg (by rw [hs]; simp), if_neg hn, hp]
  simp only
  rw [if_neg h0, h.full7, tT hb]
theorem tV (key : Int -> Int) (M : List Int) (r : Int) : dK key (M ++ [r]) = key r := by simp [dK]
structure InvC (rows : List Row) (st : CSt) (p : List Int) : Prop where
 e : Eqv (aB rows 1) (st.out.flatMap (aQ rows 8)) p
 m : ∀ m ∈ st.M, aB rows 1 m ≠ 0 /\ bV rows m = true /\ aB rows 1 m <= dK (aB rows 1) st.M
 q : st.M ≠ [] -> ∃ p' q, p = p' ++ [q] /\ dK (aB rows 1) st.M <= aB rows 1 q
theorem InvC.app {rows : List Row} {st : CSt} {p : List Int} (h : InvC rows st p) {r : Int} (hr : bV rows r = true) (hc : bZ (aB rows 1) (p ++ [r])) : InvC rows (cV (aB rows 1) st r) (p ++ [r]) := by
 have he : Eqv (aB rows 1) ((cV (aB rows 1) st r).out.flatMap (aQ rows 8)) (p ++ [r]) := by
  rw [lB, List.flatMap_append, List.flatMap_singleton, tT hr]
  simpa using h.e.app [] [r]
 refine ⟨he, ?_, ?_⟩
 ·unfold cV
  split
  ·intro m hm; cases hm
  ·rename_i h0
   intro m hm
   simp only at hm ⊢
   rw [tV]
   rcases List.mem_append.1 hm with hm | hm
   ·obtain ⟨k1, k2, k3⟩ := h.m m hm
    refine ⟨k1, k2, ?_⟩
    obtain ⟨p', q, rfl, hq⟩ := h.q (List.ne_nil_of_mem hm)
    have := (j5.1 hc).2.2 q r (by simp) rfl h0
    omega
   ·rw [List.mem_singleton] at hm; subst hm; exact ⟨h0, hr, Int.le_refl _⟩
 ·unfold cV
  split
  ·intro hn; exact absurd rfl hn
  ·intro _; exact ⟨p, r, rfl, by simp only; rw [tV]; exact Int.le_refl _⟩
theorem InvC.step {rows : List Row} (ht : TabC rows) {st : CSt} {p : List Int} (h : InvC rows st p) {r : Int} (hr : bV rows r = true) (hc : bZ (aB rows 1) (p ++ [r])) : InvC rows (cO rows st r) (p ++ [r]) := by
 rcases qO rows st r with e | ⟨a, c, hs, hpc, hf, e⟩
 ·rw [e]; exact h.app hr hc
 ·rw [e]
  have hM : st.M.flatMap (aQ rows 8) = st.M := zam fun m hm => (h.m m hm).2.1
  have he := h.e
  simp only [CSt.out, hs, Option.toList, List.flatMap_append, List.flatMap_singleton, hM] at he
  have hlt : st.M ≠ [] -> dK (aB rows 1) st.M < aB rows 1 r := fun hn => hf.elim (fun e => absurd e hn) id
  refine ⟨?_, h.m, fun hn => ⟨p, r, rfl, Int.le_of_lt (hlt hn)⟩⟩
  simp only [CSt.out, Option.toList, List.flatMap_append, List.flatMap_singleton, hM, ht.pair hr hpc]
  refine Eqv.trans ?_ (by simpa using he.app [] [r])
  by_cases hn : st.M = []
  ·rw [hn]; simp; exact .refl _
  ·have h3 : dK (aB rows 1) st.M < aB rows 1 r := hlt hn
   have hr0 : aB rows 1 r ≠ 0 := by
    intro e0
    obtain ⟨m, hm⟩ := List.exists_mem_of_ne_nil _ hn
    obtain ⟨k1, _, k3⟩ := h.m m hm
    have := ht.cls m; omega
   have := (Eqv.ahead (key := aB rows 1) hr0 (B := st.M) [] fun m hm => ⟨(h.m m hm).1, by have := (h.m m hm).2.2; omega⟩).symm.app (st.P.flatMap (aQ rows 8) ++ aQ rows 8 a) []
   simpa using this
theorem zig {rows : List Row} (ht : TabC rows) {l : List Int} (hr : ∀ x ∈ l, bV rows x = true) (hc : bZ (aB rows 1) l) : InvC rows (bE rows l) l := by
 revert hr hc
 induction l using fX with
 | h0 => intro _ _; exact ⟨.refl _, (fun m hm => by cases hm), fun hn => absurd rfl hn⟩
 | h1 l r ih =>
   intro hr hc
   rw [fH]
   exact (ih (fun x hx => hr x (by simp [hx])) (j5.1 hc).1).step ht (hr r (by simp)) hc
theorem zs8 {rows : List Row} (ht : TabC rows) {l : List Int} (hr : ∀ x ∈ l, bV rows x = true) (hc : bZ (aB rows 1) l) : cS rows (gA rows l) = l := by
 show bU (aB rows 1) ((bE rows l).out.flatMap (aQ rows 8)) = l
 rw [z8 (zig ht hr hc).e, zho hc]
def lC (rows : List Row) (l : List Int) : List Int := gA rows (cS rows l)
theorem zs9 {rows : List Row} (ht : TabC rows) (l : List Int) : cS rows (lC rows l) = cS rows l := zs8 ht (zh1 ht.cls ht.closed l) (zsu rows l)
def zta (rows : List Row) : Bool := rows.all fun x => !decide (x.kind = 2) || (!bN x.fr && decide (aQ rows 7 x.fr = aQ rows 8 x.fr))
end Go.Eng.Rows



namespace Go.Eng
open Go Go.Proofs Go.Eng.Rows Go.Eng.Trie
theorem zih : zta tab73 = true := by kernel_rfl
theorem zii : TabC tab where
 one := tS
 closed := zs0
 cls := eD
 syl := fun x hx hk => by
  have := List.all_eq_true.1 zih x (zh7 hx hk)
  simp only [hk, decide_true, Bool.not_true, Bool.false_or, Bool.and_eq_true, Bool.not_eq_true'] at this
  exact this.1
 deep := fun x hx hk => by
  have := List.all_eq_true.1 zih x (zh7 hx hk)
  simp only [hk, decide_true, Bool.not_true, Bool.false_or, Bool.and_eq_true, decide_eq_true_eq] at this
  rw [zan, zan]; exact this.2
end Go.Eng



namespace Go.Eng.Rows
open Go Go.Eng Go.Eng.Trie Go.Eng.Srt
def Comp (rows : List Row) (s : List Int) : Prop := ∃ d, (∀ x ∈ d, bV rows x = true) /\ bZ (aB rows 1) d /\ gA rows d = s
section
variable {rows : List Row}
def jD (rows : List Row) (s : Option Int) (M : List Int) (r : Int) : Option Int := match s with
 | none => none
 | some a => if M = [] ∨ dK (aB rows 1) M < aB rows 1 r then fG rows a r else none
theorem j7 (st : CSt) (r : Int) : cO rows st r = match jD rows st.s st.M r with | some c => ⟨st.P, some c, st.M⟩ | none => cV (aB rows 1) st r := by
 unfold cO jD
 cases st.s with
 | none => rfl
 | some a =>
   simp only
   split
   ·rfl
   ·rfl
theorem zav {s : Option Int} {M : List Int} {r c : Int} (h : jD rows s M r = some c) : ∃ a, s = some a /\ fG rows a r = some c /\ (M = [] ∨ dK (aB rows 1) M < aB rows 1 r) := by
 unfold jD at h
 cases s with
 | none => cases h
 | some a =>
   simp only at h
   split at h
   ·rename_i hf; exact ⟨a, rfl, h, hf⟩
   ·cases h
theorem j8 {d : List Int} {x : Int} : bZ (aB rows 1) (d ++ [x]) ↔ bZ (aB rows 1) d /\ (∀ z, d.getLast? = some z -> aB rows 1 x ≠ 0 -> aB rows 1 z <= aB rows 1 x) := by
 rw [j5]
 constructor
 ·rintro ⟨h1, _, h3⟩; exact ⟨h1, fun z hz hx => h3 z x hz rfl hx⟩
 ·rintro ⟨h1, h3⟩; exact ⟨h1, trivial, fun z x' hz hx' h0 => by simp at hx'; subst hx'; exact h3 z hz h0⟩
theorem zaw {d : List Int} {r x : Int} (h : bZ (aB rows 1) (d ++ [r] ++ [x])) (hx : aB rows 1 x ≠ 0) : aB rows 1 r <= aB rows 1 x := (j8.1 h).2 r (by simp) hx
def Wit (rows : List Row) (d : List Int) (st : CSt) : Prop := ∃ e, (∀ x ∈ e, bV rows x = true) /\ bE rows e = st /\ (st.out = [] -> e = []) /\ bZ (aB rows 1) e /\ ∀ x, bZ (aB rows 1) (d ++ [x]) -> bZ (aB rows 1) (e ++ [x])
theorem Wit.snoc {d : List Int} {st : CSt} (h : Wit rows d st) {r : Int} (hr : bV rows r = true) (hc : bZ (aB rows 1) (d ++ [r])) (hn : (cO rows st r).out ≠ []) : Wit rows (d ++ [r]) (cO rows st r) := by
 obtain ⟨e, h1, h2, h3, h4, h5⟩ := h
 refine ⟨e ++ [r], fun x hx => ?_, by rw [fH, h2], fun hq => absurd hq hn, h5 r hc, fun x hx => ?_⟩
 ·rcases List.mem_append.1 hx with hx | hx
  ·exact h1 x hx
  ·rw [List.mem_singleton] at hx; subst hx; exact hr
 ·exact j8.2 ⟨h5 r hc, fun z hz h0 => by simp at hz; subst hz; exact zaw hx h0⟩
theorem zij {key : Int -> Int} {M : List Int} (h : M ≠ []) : ∃ m ∈ M, dK key M = key m := by
 rcases M.eq_nil_or_concat with rfl | ⟨D, z, rfl⟩
 ·exact absurd rfl h
 ·exact ⟨z, by simp, by simp [dK]⟩
theorem zik {d : List Int} (h : (bE rows d).out = []) : d = [] := by
 revert h
 induction d using fX with
 | h0 => exact fun _ => rfl
 | h1 d r ih =>
   rw [fH, j7]
   intro h
   split at h
   ·simp [CSt.out] at h
   ·rw [lB] at h; simp at h
theorem tW {d : List Int} (h : (bE rows d).s = none) : (bE rows d).P = [] := by
 revert h
 induction d using fX with
 | h0 => exact fun _ => rfl
 | h1 d r ih =>
   rw [fH, j7]
   split
   ·intro h; cases h
   ·unfold cV
    split
    ·intro h; cases h
    ·exact ih
theorem ztb (ht : TabC rows) {d : List Int} (hr : ∀ x ∈ d, bV rows x = true) (hc : bZ (aB rows 1) d) (hn : (bE rows d).M ≠ []) :
 Wit rows d ⟨(bE rows d).P, (bE rows d).s, (bE rows d).M.dropLast⟩ := by
 revert hr hc hn
 induction d using fX with
 | h0 => intro _ _ hn; exact absurd rfl hn
 | h1 d r ih =>
   intro hr hc
   have hr1 : ∀ x ∈ d, bV rows x = true := fun x hx => hr x (by simp [hx])
   have hc1 := (j8.1 hc).1
   have hinv := zig ht hr1 hc1
   have hrr := hr r (by simp)
   rw [fH]
   have ih := ih hr1 hc1
   have hon := zik (rows := rows) (d := d)
   generalize hsd : bE rows d = st at *
   rw [j7]
   cases hd : jD rows st.s st.M r with
   | none =>
     simp only
     unfold cV
     split
     ·intro hn; exact absurd rfl hn
     ·rename_i h0
      intro _
      simp only [List.dropLast_concat]
      refine ⟨d, hr1, hsd, fun h => hon h, hc1, fun x hx => j8.2 ⟨hc1, fun z hz hx0 => ?_⟩⟩
      have := (j8.1 hc).2 z hz h0
      have := zaw hx hx0
      omega
   | some c =>
     simp only
     intro hn
     obtain ⟨a, hs, hp, hf⟩ := zav hd
     have hlt := hf.elim (fun e => absurd e hn) id
     have hw := (ih hn).snoc hrr hc
     have he : cO rows ⟨st.P, st.s, st.M.dropLast⟩ r = ⟨st.P, some c, st.M.dropLast⟩ := by
      rw [j7]
      have : jD rows st.s st.M.dropLast r = some c := by
       unfold jD
       rw [hs]
       simp only
       rw [if_pos, hp]
       by_cases hdl : st.M.dropLast = []
       ·exact .inl hdl
       ·obtain ⟨m, hm, e⟩ := zij (key := aB rows 1) hdl
        have := (hinv.m m (List.dropLast_subset _ hm)).2.2
        exact .inr (by omega)
      simp only [this]
     rw [he] at hw
     exact hw (by simp [CSt.out])
def eK (st : CSt) : CSt := match st.s, st.P with
 | none, P => ⟨P, none, st.M.tail⟩
 | some _, [] => ⟨[], none, st.M⟩
 | some c, _ :: P => ⟨P, some c, st.M⟩
theorem ztc {st : CSt} (h : st.s = none -> st.P = []) : (eK st).out = st.out.tail := by
 obtain ⟨P, s, M⟩ := st
 cases s with
 | none =>
   have hp : P = [] := h rfl
   subst hp
   simp [eK, CSt.out]
 | some c => cases P <;> simp [eK, CSt.out]
theorem ztd (hk : cY rows) (M : List Int) : 0 <= dK (aB rows 1) M := by
 by_cases h : M = []
 ·subst h; exact Int.le_refl _
 ·obtain ⟨m, _, e⟩ := zij (key := aB rows 1) h
  rw [e]; exact hk m
theorem zte (ht : TabC rows) {d : List Int} (hr : ∀ x ∈ d, bV rows x = true) (hc : bZ (aB rows 1) d) (hn : d ≠ []) : Wit rows d (eK (bE rows d)) := by
 revert hr hc hn
 induction d using fX with
 | h0 => intro _ _ hn; exact absurd rfl hn
 | h1 d r ih =>
   intro hr hc _
   have hr1 : ∀ x ∈ d, bV rows x = true := fun x hx => hr x (by simp [hx])
   have hc1 := (j8.1 hc).1
   have hrr := hr r (by simp)
   by_cases hd0 : d = []
   ·subst hd0
    refine ⟨[], fun x hx => (by cases hx), ?_, fun _ => rfl, trivial, fun x _ => trivial⟩
    rw [fH]
    show _ = eK (cV (aB rows 1) ⟨[], none, []⟩ r)
    unfold cV
    split <;> rfl
   ·have ih := ih hr1 hc1 hd0
    have hP := tW (rows := rows) (d := d)
    have hon : (bE rows d).out ≠ [] := fun h => hd0 (zik h)
    rw [fH]
    generalize bE rows d = st at *
    have key : (eK (cO rows st r) = cO rows (eK st) r /\ (cO rows (eK st) r).out ≠ []) -> Wit rows (d ++ [r]) (eK (cO rows st r)) := fun ⟨h1, h2⟩ => by
     rw [h1]; exact ih.snoc hrr hc h2
    obtain ⟨P, s, M⟩ := st
    cases s with
    | none =>
      obtain rfl : P = [] := hP rfl
      cases M with
      | nil => exact absurd rfl hon
      | cons m M =>
        refine key ?_
        have e1 : cO rows ⟨[], none, m :: M⟩ r = cV (aB rows 1) ⟨[], none, m :: M⟩ r := rfl
        have e2 : cO rows (eK ⟨[], none, m :: M⟩) r = cV (aB rows 1) ⟨[], none, M⟩ r := rfl
        rw [e1, e2, lB]
        refine ⟨?_, by simp⟩
        unfold cV
        split <;> simp [eK, CSt.out]
    | some c =>
      cases P with
      | cons p P =>
        refine key ?_
        have e2 : eK ⟨p :: P, some c, M⟩ = ⟨P, some c, M⟩ := rfl
        rw [e2, j7, j7]
        simp only
        cases jD rows (some c) M r with
        | none => simp only; rw [lB]; refine ⟨?_, by simp⟩; unfold cV; split <;> simp [eK, CSt.out]
        | some c' => exact ⟨rfl, by simp [CSt.out]⟩
      | nil =>
        have e2 : eK ⟨[], some c, M⟩ = ⟨[], none, M⟩ := rfl
        have e3 : cO rows ⟨[], none, M⟩ r = cV (aB rows 1) ⟨[], none, M⟩ r := rfl
        cases hdec : jD rows (some c) M r with
        | none =>
          refine key ?_
          rw [e2, e3, j7]
          simp only [hdec]
          rw [lB]
          refine ⟨?_, by simp⟩
          unfold cV
          split <;> simp [eK, CSt.out]
        | some c' =>
          obtain ⟨a, _, hp, hf⟩ := zav hdec
          have e4 : eK (cO rows ⟨[], some c, M⟩ r) = ⟨[], none, M⟩ := by
           rw [j7]; simp only [hdec]; rfl
          rw [e4]
          rw [e2] at ih
          obtain ⟨e, h1, h2, h3, h4, h5⟩ := ih
          refine ⟨e, h1, h2, h3, h4, fun x hx => j8.2 ⟨h4, fun z hz hx0 => ?_⟩⟩
          by_cases h0 : aB rows 1 r = 0
          ·have hl := ztd ht.cls M
           have hM : M = [] := hf.elim id fun h => by omega
           subst hM
           have := h3 rfl
           subst this
           simp at hz
          ·have k1 := (j8.1 (h5 r hc)).2 z hz h0
           have k2 := zaw hx hx0
           omega
theorem ztf {d : List Int} (hr : ∀ x ∈ d, bV rows x = true) (hc : bZ (aB rows 1) d) (hn : (bE rows d).s ≠ none) : ∃ e, (∀ x ∈ e, bV rows x = true) /\ bZ (aB rows 1) e /\ (bE rows e).out = (bE rows d).P := by
 revert hr hc hn
 induction d using fX with
 | h0 => intro _ _ hn; exact absurd rfl hn
 | h1 d r ih =>
   intro hr hc
   have hr1 : ∀ x ∈ d, bV rows x = true := fun x hx => hr x (by simp [hx])
   have hc1 := (j8.1 hc).1
   have ih := ih hr1 hc1
   rw [fH, j7]
   cases hd : jD rows (bE rows d).s (bE rows d).M r with
   | none =>
     simp only
     unfold cV
     split
     ·intro _; exact ⟨d, hr1, hc1, rfl⟩
     ·exact ih
   | some c =>
     obtain ⟨a, hs, _⟩ := zav hd
     intro _
     exact ih (by rw [hs]; simp)
theorem Comp.nil : Comp rows [] := ⟨[], fun x hx => (by cases hx), trivial, rfl⟩
theorem Comp.tail (ht : TabC rows) {s : List Int} (h : Comp rows s) : Comp rows s.tail := by
 obtain ⟨d, h1, h2, rfl⟩ := h
 by_cases hd : d = []
 ·subst hd; exact .nil
 ·obtain ⟨e, k1, k2, _, k4, _⟩ := zte ht h1 h2 hd
  exact ⟨e, k1, k4, by unfold gA; rw [k2, ztc tW]⟩
theorem Comp.dropLast (ht : TabC rows) {s : List Int} (h : Comp rows s) : Comp rows s.dropLast := by
 obtain ⟨d, h1, h2, rfl⟩ := h
 unfold gA
 by_cases hM : (bE rows d).M = []
 ·cases hs : (bE rows d).s with
  | none =>
    have : (bE rows d).out = [] := by simp [CSt.out, tW hs, hs, hM]
    rw [this]; exact .nil
  | some c =>
    obtain ⟨e, k1, k2, k3⟩ := ztf h1 h2 (by rw [hs]; simp)
    refine ⟨e, k1, k2, ?_⟩
    unfold gA
    rw [k3]
    simp [CSt.out, hs, hM]
 ·obtain ⟨e, k1, k2, _, k4, _⟩ := ztb ht h1 h2 hM
  refine ⟨e, k1, k4, ?_⟩
  unfold gA
  rw [k2]
  simp only [CSt.out]
  rw [List.dropLast_append_of_ne_nil (by simp [hM]), List.dropLast_append_of_ne_nil hM]
theorem Comp.drop (ht : TabC rows) {s : List Int} (h : Comp rows s) : ∀ k, Comp rows (s.drop k)
 | 0 => h
 | k + 1 => by
   have := (Comp.drop ht h k).tail ht
   rwa [List.tail_drop] at this
theorem Comp.take (ht : TabC rows) {s : List Int} (h : Comp rows s) (k : Nat) : Comp rows (s.take k) := by
 have : ∀ n, Comp rows (s.take (s.length - n)) := by
  intro n
  induction n with
  | zero => rw [Nat.sub_zero, List.take_length]; exact h
  | succ n ih =>
    have := ih.dropLast ht
    rw [List.dropLast_eq_take, List.take_take, List.length_take] at this
    rwa [show min (min (s.length - n) s.length - 1) (s.length - n) = s.length - (n + 1) by omega] at this
 by_cases hk : k <= s.length
 ·have := this (s.length - k)
  rwa [show s.length - (s.length - k) = k by omega] at this
 ·rw [List.take_of_length_le (by omega)]; exact h
end
end Go.Eng.Rows



namespace Go.Eng
open Go Go.Proofs
end Go.Eng



namespace Go.Eng
open Go Go.Proofs Go.Eng.Rows Go.Eng.Trie Go.Eng.Srt
def nP : Option Int -> PV
 | some r => .tup [.int .i32 r, .bool true]
 | none => .tup [.int .i32 0, .bool false]
section
variable {rows : List Row} {v : PV}
def eL (st : CSt) : Int := match st.s with | none => -1 | some _ => st.P.length
theorem ztg {d : List Int} : ∀ m ∈ (bE rows d).M, aB rows 1 m ≠ 0 := by
 induction d using fX with
 | h0 => intro m hm; cases hm
 | h1 d r ih =>
   rw [fH]
   rcases qO rows (bE rows d) r with e | ⟨a, c, hs, hp, _, e⟩
   ·rw [e]
    unfold cV
    split
    ·intro m hm; cases hm
    ·rename_i h0
     intro m hm
     rcases List.mem_append.1 hm with hm | hm
     ·exact ih m hm
     ·rw [List.mem_singleton] at hm; subst hm; exact h0
   ·rw [e]; exact ih
def JC (rows : List Row) (L : List Int) (x6 x7 i : Int) (s : List (List PV)) : Prop := (0 <= i /\ i <= L.length) /\ s = aA (bE rows (L.take i.toNat)).out /\ x6 = eL (bE rows (L.take i.toNat)) /\ x7 = dK (aB rows 1) (bE rows (L.take i.toNat)).M
theorem JC.next {L : List Int} {i : Int} (h0 : 0 <= i) (hi : i.toNat < L.length) {st : CSt} (he : cO rows (bE rows (L.take i.toNat)) L[i.toNat] = st) : JC rows L (eL st) (dK (aB rows 1) st.M) (i + 1) (aA st.out) := by
 have e : bE rows (L.take (i + 1).toNat) = st := by
  rw [show (i + 1).toNat = i.toNat + 1 by omega, cG hi, fH, he]
 exact ⟨⟨by omega, by omega⟩, by rw [e], by rw [e], by rw [e]⟩
theorem zth (hp : cX rows) (h1 : eB rows) (hk : cY rows) {l : List Int} (h : R32 l) : R32 (lC rows l) := fun x hx => by
 rcases zif h1 _ x hx with h2 | h2
 ·exact qL hk hp h x h2
 ·omega
theorem zti (hk : cY rows) (l : List Int) : (lC rows l).length <= 768 * l.length := Nat.le_trans (zie rows _) (qM hk l)
end
end Go.Eng



namespace Go.Eng
open Go Go.Proofs Go.Eng.Rows Go.Eng.Trie Go.Eng.Srt
theorem v22 : Tryz.prog.underlying 23 = some (.slice 21) := by kernel_rfl
theorem v21 : Tryz.prog.underlying 21 = some (.int .i32) := by kernel_rfl
theorem zil {v : PV} (h : nE Tryz.prog 8 23 v) : ∃ nl l, v = .sl nl false (aA l) /\ R32 l := by
 obtain ⟨nl, l, e, hl, _, hr⟩ := znt v22 v21 (znu (by kernel_rfl) h)
 cases e
 exact ⟨nl, l, rfl, hr⟩
end Go.Eng



namespace Go.Eng.Rows
open Go Go.Eng Go.Eng.Trie Go.Eng.Srt
def dD (L : List Int) (a b : Nat) : List Int := (L.take b).drop a
def ztj (rows : List Row) (L want : List Int) (a b : Nat) : Bool := decide (cS rows (dD L a b) = want)
def fTo (p : Nat -> Bool) (b : Nat) : Nat -> Option Nat
 | 0 => none
 | k + 1 => if p b then some b else fTo p (b + 1) k
def zim (rows : List Row) (L want : List Int) (a : Nat) : Nat -> Option (Nat × Nat)
 | 0 => none
 | k + 1 => match fTo (ztj rows L want a) a (L.length + 1 - a) with
   | some b => some (a, b)
   | none => zim rows L want (a + 1) k
def findL (rows : List Row) (L want : List Int) : Option (Nat × Nat) := zim rows L want 0 (L.length + 1)
end Go.Eng.Rows



namespace Go.Eng
open Go Go.Proofs
end Go.Eng



namespace Go.Eng
open Go Go.Proofs Go.Eng.Rows Go.Eng.Trie Go.Eng.Srt
theorem ztk {l : List Int} (h : R32 l) : R32 (lC tab l) := zth fY tS eD h
theorem ztl {l : List Int} (h : R32 l) : R32 (cS tab l) := qL eD fY h
theorem zin (l : List Int) (k : Nat) : (l.take k).length <= k := by rw [List.length_take]; omega
theorem zax {len : Nat} {i j : Int} (h0 : 0 <= i) (h1 : i <= j) (h2 : j <= len) : dB len (some i) (some j) none := ⟨h0, h1, h2, trivial⟩
theorem zay (L : List Int) (i j : Nat) : List.drop i (List.take j (aA L)) = aA (dD L i j) := by simp [aA, dD]
theorem R32.sub {L : List Int} (h : R32 L) (i j : Nat) : R32 (dD L i j) := fun x hx => h x (List.mem_of_mem_take (List.mem_of_mem_drop hx))
theorem zio (L : List Int) (i j : Nat) : (dD L i j).length <= L.length := by unfold dD; rw [List.length_drop, List.length_take]; omega
theorem w3 : Tryz.prog.underlying 3 = some (.int .i64) := by kernel_rfl
end Go.Eng



namespace Go.Eng
open Go Go.Proofs
section
variable (T : PV) (r : Int)
def ziq (R : PV -> Prop) : Prop :=
 (∃ ps, some T = some (PV.ptr ps) /\ PCall Tryz.prog 80 [PV.ptr ps, Z3 r] fun v => ∃ n, v = Z6 n /\ R (Zb (n != 0))) ∨ some T = some PV.nilp /\ PCall Tryz.prog 80 [PV.nilp, Z3 r] fun v => ∃ n, v = Z6 n /\
 R (Zb (n != 0))
theorem ztm {R : PV -> Prop} (h : ziq T r R) : PCall Tryz.prog 79 [.int .i32 r, .ptr [T]] R :=
 PCall.of Tryz.func79 (by kernel_rfl) (by kernel_rfl) (zl (by kernel_rfl)) (Eq.mpr (by kernel_rfl : aO Tryz.prog (fun _ => none) Tryz.f79 [0, 1, 3] (fun _ => none) (Tryz.f79.body.getD .skip) [.int .i32 r, .ptr [T]] R = _) h)
end
def zaz (n f : Bool) (es : LL) (T : PV) (x8 : Int) : Env × Hp := ([(0, LV.pv (PV.sl n f es)), (1, LV.pv (PV.fn 79 [PV.ptr [T]])), (7, Y6 ↑es.length), (8, Y6 x8)], [])
section
variable (n f : Bool) (es : LL) (T : PV) (J : Int -> Prop) (μ : Int -> Nat)
def zir (R : PV -> Prop) : Prop :=
 (aG (zaz n f es T (0 : Int)) /\ J (0 : Int)) /\ ∀ (x8 : Int), J x8 -> if decide (x8 < (↑es.length : Int)) = true then aK es x8 1 /\ ∃ n1, (es.getD x8.toNat []).head? = some (Z3 n1) /\ PCall Tryz.prog 79 [Z3 n1, PV.ptr [T]] fun
 (v : PV) => ∃ b, v = Zb b /\ if b = true then R (Z6 x8) else aG (zaz n f es T (i64.wrap (x8 + 1))) /\ J (i64.wrap (x8 + 1)) /\ μ (i64.wrap (x8 + 1)) < μ x8 else R (Z6 (-1 : Int))
theorem ztn {R : PV -> Prop} (h : zir n f es T J μ R) : PCall Tryz.prog 119 [.sl n f es, .fn 79 [.ptr [T]]] R :=
 PCall.of Tryz.func119 (by kernel_rfl) (by kernel_rfl) (zl (by kernel_rfl)) (Eq.mpr (by kernel_rfl : aO Tryz.prog (fun _ => none) Tryz.f119 [0, 1, 4, 5, 7, 8, 9, 16] (fun zz_ => match zz_ with | 2 => some ⟨Int × Unit, fun s => zaz n f es T s.1, fun _ s => J s.1, fun s => μ s.1, fun e h => (((gI e 8), ())), [], [0, 1, 7, 8], [], fun p => ∀ (x8 : Int), p (x8, ()), fun p h s => h s.1⟩ | _ => none) (Tryz.f119.body.getD .skip) [.sl n f es, .fn 79 [.ptr [T]]] R = _) h)
end
def za0 (nl : Bool) (es : LL) (T : PV) (x5 x6 : Int) (s_0 : LL) : Env × Hp := ([(0, LV.own 0), (1, LV.fn 79 [LV.box 1 0]), (5, Y6 x5), (6, Y6 x6)], [.sl (21, 1) false nl s_0, .box [LV.pv T]])
section
variable (nl : Bool) (es : LL) (T : PV) (J : Int -> Int -> LL -> Prop) (μ : Int -> Int -> LL -> Nat)
def zis (R : LV -> Hp -> Prop) : Prop :=
 PCall Tryz.prog 119 [PV.sl nl false es, PV.fn 79 [PV.ptr [T]]] fun v => ∃ n, v = Z6 n /\ true = true /\ if (n == (-1 : Int)) = true then R (LV.own 0) [Ob.sl (21, 1) false nl es, Ob.box [LV.pv T]] else (aG (za0 nl es T n
  (i64.wrap (n + 1)) es) /\ J n (i64.wrap (n + 1)) es) /\ ∀ (x5 x6 : Int) (s_0 : LL), J x5 x6 s_0 ->
 let K5 := fun (y0_ y1_ : Int) (y2_ : LL) => aG (za0 nl es T y0_ y1_ y2_) /\ J y0_ y1_ y2_ /\ μ y0_ y1_ y2_ < μ x5 x6 s_0; if decide (x6 < (↑s_0.length : Int)) = true then aK s_0 x6 1 /\ ∃ n1, (List.drop 0 (s_0.getD
  x6.toNat [])).head? = some (Z3 n1) /\ PCall Tryz.prog 79 [Z3 n1, PV.ptr [T]] fun v1 => ∃ b, v1 = Zb b /\ true = true /\ if (!b) = true then aK s_0 x5 1 /\ (1 = 1 /\ 1 <= (s_0.getD x5.toNat []).length) /\ K5 (i64.wrap
  (x5 + 1)) (i64.wrap (x6 + 1)) (s_0.set x5.toNat (Z3 n1 :: zq (List.drop 1 (s_0.getD x5.toNat [])))) else K5 x5 (i64.wrap (x6 + 1)) s_0 else dB s_0.length (some x5) none none /\ dB (aP s_0
  x5.toNat (List.replicate ((↑s_0.length : Int).toNat - x5.toNat) [Z3 0])).length none (some x5) none /\ R (LV.sub 0 0 x5.toNat) [Ob.sl (21, 1) false nl (aP s_0 x5.toNat (List.replicate ((↑s_0.length : Int).toNat - x5.toNat) [Z3 0])),
  Ob.box [LV.pv T]]
theorem zto {R : LV -> Hp -> Prop} (h : zis nl es T J μ R) : ACall Tryz.prog 77 [.own 0, .fn 79 [.box 1 0]] [.sl (21, 1) false nl es, .box [.pv T]] R :=
 ACall.of Tryz.func77 (by kernel_rfl) (by kernel_rfl) (zl (by kernel_rfl)) (Eq.mpr (by kernel_rfl : dW Tryz.prog (fun _ => none) Tryz.f77 [0, 1, 4, 5, 6, 7, 12, 19, 29] (fun zz_ => match zz_ with | 5 => some ⟨Int × Int × LL, fun s => za0 nl es T s.1 s.2.1 s.2.2, fun _ s => J s.1 s.2.1 s.2.2, fun s => μ s.1 s.2.1 s.2.2, fun e h => (gI e 5, gI e 6, oS h 0), [], [0, 1, 5, 6], [], fun p => ∀ (x5 x6 : Int) (s_0 : LL), p (x5, x6, s_0), fun p h s => h s.1 s.2.1 s.2.2⟩ | _ => none) [0, 1] (Tryz.f77.body.getD .skip) [.own 0, .fn 79 [.box 1 0]] [.sl (21, 1) false nl es, .box [.pv T]] R = _) h)
end
def za1 (tc tg tj tf tp : PV) (M S : List (PV × PV)) (n f : Bool) (es : LL) (x12 : Int) (h0_0 : PV) (n_1 : Bool) (s_1 : LL) : Env × Hp := ([(0, LV.pv (PV.ptr [tc, tg, tj, tf, tp, PV.mp M, PV.mp S])), (5, LV.box 0 0), (10, LV.pv (PV.sl n f es)), (11, Y6 ↑es.length), (12, Y6 x12)], [.box [.pv h0_0, LV.own 1], .sl (21, 1) true n_1 s_1])
section
variable (tc tg tj tf tp : PV) (M S : List (PV × PV)) (n f : Bool) (es : LL) (J : Int -> PV -> Bool -> LL -> Prop) (μ : Int -> PV -> Bool -> LL -> Nat)
def zit (R : LV -> Hp -> Prop) : Prop :=
 eQ (PV.ptr [tc, tg, tj, tf, tp, PV.mp M, PV.mp S]) = true /\ (aG (za1 tc tg tj tf tp M S n f es (0 : Int) (PV.ptr [tc, tg, tj, tf, tp, PV.mp M, PV.mp S]) true []) /\ J (0 : Int) (PV.ptr [tc, tg, tj, tf, tp, PV.mp M, PV.mp S]) true
 []) /\ ∀ (x12 : Int) (h0_0 : PV) (n_1 : Bool) (s_1 : LL), J x12 h0_0 n_1 s_1 -> if decide (x12 < (↑es.length : Int)) = true then aK es x12 1 /\ ∃ n1, (es.getD x12.toNat []).head? = some (Z3 n1) /\ ACall Tryz.prog 120 [LV.box 0 0,
 LV.pv (Z3 n1), Y6 8] [Ob.box [LV.pv h0_0, LV.own 1], Ob.sl (21, 1) false n_1 s_1] fun (r : LV) (h' : Hp) => ∃ (t : Bool × LL), (r = LV.tup [] /\ h' = [Ob.box [LV.pv h0_0, LV.own 1], Ob.sl (21, 1) true t.fst t.snd]) /\ (True /\ True /\ True) /\
 aG (za1 tc tg tj tf tp M S n f es (i64.wrap (x12 + 1)) h0_0 t.fst t.snd) /\ J (i64.wrap (x12 + 1)) h0_0 t.fst t.snd /\ μ (i64.wrap (x12 + 1)) h0_0 t.fst t.snd < μ x12 h0_0 n_1 s_1 else ACall Tryz.prog 121 [LV.pv
 (PV.ptr [tc, tg, tj, tf, tp, PV.mp M, PV.mp S]), LV.own 0] [Ob.sl (21, 1) false n_1 s_1] fun (r : LV) (h' : Hp) => ∃ (t : Bool × LL), (r = LV.own 1 /\ h' = [Ob.sl (21, 1) false n_1 s_1, Ob.sl (21, 1) false t.fst t.snd]) /\ (((21, 1) = (21, 1)
 /\ n_1 = n_1 /\ s_1.length = s_1.length) /\ True) /\ R (LV.own 0) [Ob.sl (21, 1) false t.fst t.snd]
theorem ztp {R : LV -> Hp -> Prop} (h : zit tc tg tj tf tp M S n f es J μ R) : ACall Tryz.prog 78 [.pv (.ptr [tc, tg, tj, tf, tp, .mp M, .mp S]), .pv (.sl n f es)] [] R :=
 ACall.ofA Tryz.func78 (by kernel_rfl) (by kernel_rfl) (zl (by kernel_rfl)) (Eq.mpr (by kernel_rfl : nC Tryz.prog (fun zz_ => match zz_ with | 120 => some ⟨Bool × LL, fun _ hs t => (.tup [], match hs with | [.box (x :: _), .sl ty _ _ _] => [.box [x, .own 1], .sl ty true t.1 t.2] | [.box (x :: _)] => [.box [x, .own 1], .sl (21, 1) true t.1 t.2] | h => h), none⟩ | 121 => some ⟨Bool × LL, fun _ hs t => (.own hs.length, hs ++ [.sl (21, 1) false t.1 t.2]), none⟩ | _ => none) Tryz.f78 [0, 1, 4, 5, 7, 10, 11, 12, 13] (fun zz_ => match zz_ with | 3 => some ⟨Int × PV × Bool × LL, fun s => za1 tc tg tj tf tp M S n f es s.1 s.2.1 s.2.2.1 s.2.2.2, fun _ s => J s.1 s.2.1 s.2.2.1 s.2.2.2, fun s => μ s.1 s.2.1 s.2.2.1 s.2.2.2, fun e h => (gI e 12, hP h 0 0, oN h 1, oS h 1), [(1000001, 21, 1)], [0, 5, 10, 11, 12], [], fun p => ∀ (x12 : Int) (h0_0 : PV) (n_1 : Bool) (s_1 : LL), p (x12, h0_0, n_1, s_1), fun p h s => h s.1 s.2.1 s.2.2.1 s.2.2.2⟩ | _ => none) (Tryz.f78.body.getD .skip) [.pv (.ptr [tc, tg, tj, tf, tp, .mp M, .mp S]), .pv (.sl n f es)] [] R = _) h)
end
section
variable (tc tg tj tf tp : PV) (M S : List (PV × PV)) (n f : Bool) (es : LL)
def ziu (R : PV -> Prop) : Prop :=
 ACall Tryz.prog 78 [LV.pv (PV.ptr [tc, tg, tj, tf, tp, PV.mp M, PV.mp S]), LV.pv (PV.sl n f es)] [] fun (r : LV) (h' : Hp) => ∃ (t : Bool × LL), (r = LV.own 0 /\ h' = [Ob.sl (21, 1) false t.fst t.snd]) /\ True /\ ACall Tryz.prog 77 [LV.own 0,
 LV.fn 79 [LV.box 1 0]] [Ob.sl (21, 1) false t.fst t.snd, Ob.box [LV.pv (PV.ptr [tc, tg, tj, tf, tp, PV.mp M, PV.mp S])]] fun (r1 : LV) (h'1 : Hp) => (∃ (t1 : LL), (r1 = LV.own 0 /\ h'1 = [Ob.sl (21, 1) false t.fst t1, Ob.box [LV.pv (PV.ptr
 [tc, tg, tj, tf, tp, PV.mp M, PV.mp S])]]) /\ (True /\ ((21, 1) = (21, 1) /\ t.fst = t.fst /\ t.snd.length = t1.length) /\ True) /\ R (PV.sl t.fst false t1)) ∨ ∃ (t1 : LL × Nat), (r1 = LV.sub 0 0 t1.snd /\ h'1 = [Ob.sl (21, 1) false t.fst t1.fst,
 Ob.box [LV.pv (PV.ptr [tc, tg, tj, tf, tp, PV.mp M, PV.mp S])]]) /\ (True /\ ((21, 1) = ((21 : Nat), 1) /\ t.fst = t.fst /\ t.snd.length = t1.fst.length) /\ True) /\ R (PV.sl t.fst false (List.take (t1.snd - 0) (List.drop 0 t1.fst)))
theorem ztq {R : PV -> Prop} (h : ziu tc tg tj tf tp M S n f es R) : PCall Tryz.prog 35 [.ptr [tc, tg, tj, tf, tp, .mp M, .mp S], .sl n f es] R :=
 PCall.of Tryz.func35 (by kernel_rfl) (by kernel_rfl) (zl (by kernel_rfl)) (Eq.mpr (by kernel_rfl : aO Tryz.prog (fun zz_ => match zz_ with | 78 => some ⟨Bool × LL, fun _ hs t => (.own hs.length, hs ++ [.sl (21, 1) false t.1 t.2]), none⟩ | 77 => some ⟨LL, fun _ hs t => (.own 0, match hs with | [.sl ty m nl _, b] => [.sl ty m nl t, b] | h => h), some ⟨LL × Nat, fun _ hs t => (.sub 0 0 t.2, match hs with | [.sl ty m nl _, b] => [.sl ty m nl t.1, b] | h => h)⟩⟩ | _ => none) Tryz.f35 [0, 1, 2, 4] (fun _ => none) (Tryz.f35.body.getD .skip) [.ptr [tc, tg, tj, tf, tp, .mp M, .mp S], .sl n f es] R = _) h)
end
section
variable (tc tg tj tf tp : PV) (M S : List (PV × PV)) (n f : Bool) (es : LL) (n2 f2 : Bool) (ss : LL)
def ziv (R : PV -> Prop) : Prop :=
 PCall Tryz.prog 35 [PV.ptr [tc, tg, tj, tf, tp, PV.mp M, PV.mp S], PV.sl n f es] fun v => ∃ n1 f1 es1, v = PV.sl n1 f1 es1 /\ PCall Tryz.prog 35 [PV.ptr [tc, tg, tj, tf, tp, PV.mp M, PV.mp S], PV.sl n2 f2
 ss] fun v1 => ∃ n3 f3 es2, v1 = PV.sl n3 f3 es2 /\ PCall Tryz.prog 70 [PV.sl n1 f1 es1, PV.sl n3 f3 es2] fun v2 => ∃ b, v2 = Zb b /\ R (Zb b)
theorem ztr {R : PV -> Prop} (h : ziv tc tg tj tf tp M S n f es n2 f2 ss R) : PCall Tryz.prog 31 [.ptr [tc, tg, tj, tf, tp, .mp M, .mp S], .sl n f es, .sl n2 f2 ss] R :=
 PCall.of Tryz.func31 (by kernel_rfl) (by kernel_rfl) (zl (by kernel_rfl)) (Eq.mpr (by kernel_rfl : aO Tryz.prog (fun _ => none) Tryz.f31 [0, 1, 2, 6] (fun _ => none) (Tryz.f31.body.getD .skip) [.ptr [tc, tg, tj, tf, tp, .mp M, .mp S], .sl n f es, .sl n2 f2 ss] R = _) h)
end
def za2 (tc tg tj tf tp : PV) (M S : List (PV × PV)) (n f : Bool) (es : LL) (x6 : Int) (n11 f11 : Bool) (s11 : LL) (x12 x13 : Int) (n_0 : Bool) (s_0 : LL) : Env × Hp := ([(0, LV.pv (PV.ptr [tc, tg, tj, tf, tp, PV.mp M, PV.mp S])), (5, LV.own 0), (6, Y6 x6), (11, .pv (.sl n11 f11 s11)), (12, Y6 x12), (13, Y6 x13)], [.sl (102, 3) true n_0 s_0])
section
variable (tc tg tj tf tp : PV) (M S : List (PV × PV)) (n f : Bool) (es : LL) (J : Int -> Bool -> Bool -> LL -> Int -> Int -> Bool -> LL -> Prop) (μ : Int -> Bool -> Bool -> LL -> Int -> Int -> Bool -> LL -> Nat)
def ziw (R : PV -> Prop) : Prop :=
 PCall Tryz.prog 81 [PV.ptr [tc, tg, tj, tf, tp, PV.mp M, PV.mp S], PV.sl n f es] fun v => ∃ n1 f1 es1, v = PV.sl n1 f1 es1 /\ (aG (za2 tc tg tj tf tp M S n f es (0 : Int) n1 f1 es1 (↑es1.length :
 Int) (0 : Int) true []) /\ J (0 : Int) n1 f1 es1 (↑es1.length : Int) (0 : Int) true []) /\ ∀ (x6 : Int) (n11 f11 : Bool) (s11 : LL) (x12 x13 : Int) (n_0 : Bool) (s_0 : LL), J x6 n11 f11 s11 x12 x13 n_0 s_0 -> if decide (x13 < x12) = true then
 aK s11 x13 1 /\ ∃ n2 f2 es2, (s11.getD x13.toNat []).head? = some (PV.sl n2 f2 es2) /\ PCall Tryz.prog 35 [PV.ptr [tc, tg, tj, tf, tp, PV.mp M, PV.mp S], PV.sl n2 f2 es2] fun v1 => ∃ n3, ∃ (f3
 : Bool), ∃ es3, v1 = PV.sl n3 f3 es3 /\ (aT [[Z6 x6, Z6 (i64.wrap (x6 + (↑es2.length : Int))), PV.sl n3 f3 es3]] 3 /\ (s_0.length + 1) * (40 : Nat) <= 140737488355328) /\ aG (za2 tc tg tj tf tp M S n f es (i64.wrap
 (x6 + (↑es2.length : Int))) n11 f11 s11 x12 (i64.wrap (x13 + 1)) (n_0 && false) (s_0 ++ [[Z6 x6, Z6 (i64.wrap (x6 + (↑es2.length : Int))), PV.sl n3 f3 es3]])) /\ J (i64.wrap (x6 + (↑es2.length : Int))) n11 f11 s11 x12
 (i64.wrap (x13 + 1)) (n_0 && false) (s_0 ++ [[Z6 x6, Z6 (i64.wrap (x6 + (↑es2.length : Int))), PV.sl n3 f3 es3]]) /\ μ (i64.wrap (x6 + (↑es2.length : Int))) n11 f11 s11 x12 (i64.wrap (x13 + 1)) (n_0 && false)
 (s_0 ++ [[Z6 x6, Z6 (i64.wrap (x6 + (↑es2.length : Int))), PV.sl n3 f3 es3]]) < μ x6 n11 f11 s11 x12 x13 n_0 s_0 else R (PV.sl n_0 false s_0)
theorem zts {R : PV -> Prop} (h : ziw tc tg tj tf tp M S n f es J μ R) : PCall Tryz.prog 69 [.ptr [tc, tg, tj, tf, tp, .mp M, .mp S], .sl n f es] R :=
 PCall.of Tryz.func69 (by kernel_rfl) (by kernel_rfl) (zl (by kernel_rfl)) (Eq.mpr (by kernel_rfl : aO Tryz.prog (fun _ => none) Tryz.f69 [0, 1, 4, 5, 6, 8, 11, 12, 13, 14] (fun zz_ => match zz_ with | 4 => some ⟨Int × Bool × Bool × LL × Int × Int × Bool × LL, fun s => za2 tc tg tj tf tp M S n f es s.1 s.2.1 s.2.2.1 s.2.2.2.1 s.2.2.2.2.1 s.2.2.2.2.2.1 s.2.2.2.2.2.2.1 s.2.2.2.2.2.2.2, fun _ s => J s.1 s.2.1 s.2.2.1 s.2.2.2.1 s.2.2.2.2.1 s.2.2.2.2.2.1 s.2.2.2.2.2.2.1 s.2.2.2.2.2.2.2, fun s => μ s.1 s.2.1 s.2.2.1 s.2.2.2.1 s.2.2.2.2.1 s.2.2.2.2.2.1 s.2.2.2.2.2.2.1 s.2.2.2.2.2.2.2, fun e h => (gI e 6, gN e 11, gF e 11, gS e 11, gI e 12, gI e 13, oN h 0, oS h 0), [(5, 102, 3)], [0, 5, 6, 11, 12, 13], [], fun p => ∀ (x6 : Int) (n11 f11 : Bool) (s11 : LL) (x12 x13 : Int) (n_0 : Bool) (s_0 : LL), p (x6, n11, f11, s11, x12, x13, n_0, s_0), fun p h s => h s.1 s.2.1 s.2.2.1 s.2.2.2.1 s.2.2.2.2.1 s.2.2.2.2.2.1 s.2.2.2.2.2.2.1 s.2.2.2.2.2.2.2⟩ | _ => none) (Tryz.f69.body.getD .skip) [.ptr [tc, tg, tj, tf, tp, .mp M, .mp S], .sl n f es] R = _) h)
end
def za3 (tc tg tj tf tp : PV) (M S : List (PV × PV)) (n f : Bool) (es : LL) (n2 f2 : Bool) (ss : LL) (n9 f9 : Bool) (s9 : LL) (n10 f10 : Bool) (s10 : LL) (x26 x27 : Int) : Env × Hp := ([(9, .pv (.sl n9 f9 s9)), (10, .pv (.sl n10 f10 s10)), (26, Y6 x26), (27, Y6 x27)], [])
def za4 (tc tg tj tf tp : PV) (M S : List (PV × PV)) (n f : Bool) (es : LL) (n2 f2 : Bool) (ss : LL) (n9 f9 : Bool) (s9 : LL) (n10 f10 : Bool) (s10 : LL) (x11 : Int) (n12 f12 : Bool) (s12 : LL) (x13 : Bool) (x26 x27 : Int) (n33 f33 : Bool) (s33 : LL) (x34 x35 : Int) : Env × Hp := ([(9, .pv (.sl n9 f9 s9)), (10, .pv (.sl n10 f10 s10)), (11, Y6 x11), (12, .pv (.sl n12 f12 s12)), (13, .pv (.bool x13)), (26, Y6 x26), (27, Y6 x27), (33, .pv (.sl n33 f33 s33)), (34, Y6 x34), (35, Y6 x35)], [])
section
variable (tc tg tj tf tp : PV) (M S : List (PV × PV)) (n f : Bool) (es : LL) (n2 f2 : Bool) (ss : LL) (J : Bool -> Bool -> LL -> Bool -> Bool -> LL -> Int -> Int -> Prop) (μ : Bool -> Bool -> LL -> Bool -> Bool -> LL -> Int -> Int -> Nat) (J2 : Bool -> Bool -> LL -> Bool -> Bool -> LL -> Int -> Bool -> Bool -> LL -> Bool -> Int -> Int -> Bool -> Bool -> LL -> Int -> Int -> Bool -> Bool -> LL -> Bool -> Bool -> LL -> Int -> Bool -> Bool -> LL -> Bool -> Int -> Int -> Bool -> Bool -> LL -> Int -> Int -> Prop) (μ2 : Bool -> Bool -> LL -> Bool -> Bool -> LL -> Int -> Bool -> Bool -> LL -> Bool -> Int -> Int -> Bool -> Bool -> LL -> Int -> Int -> Nat)
def zix (R : PV -> Prop) : Prop :=
 PCall Tryz.prog 35 [PV.ptr [tc, tg, tj, tf, tp, PV.mp M, PV.mp S], PV.sl n2 f2 ss] fun v => ∃ n1 f1 es1, v = PV.sl n1 f1 es1 /\ if ((↑es1.length : Int) == 0) = true then R (PV.tup [Z6 0, Z6 0, Zb true])
  else PCall Tryz.prog 69 [PV.ptr [tc, tg, tj, tf, tp, PV.mp M, PV.mp S], PV.sl n f es] fun v1 => ∃ n3 f3 es2, v1 = PV.sl n3 f3 es2 /\ (aG (za3 tc tg tj tf tp M S n f es n2 f2 ss n1 f1 es1 n3 f3 es2
  (↑es2.length : Int) (0 : Int)) /\ J n1 f1 es1 n3 f3 es2 (↑es2.length : Int) (0 : Int)) /\ ∀ (n9 f9 : Bool) (s9 : LL) (n10 f10 : Bool) (s10 : LL) (x26 x27 : Int), J n9 f9 s9 n10 f10 s10 x26 x27 -> if decide (x27 < x26) = true then (dB
  s10.length (some x27) none none /\ aT s10 3) /\ (aG (za4 tc tg tj tf tp M S n f es n2 f2 ss n9 f9 s9 n10 f10 s10 x27 n9 f9 s9 true x26 x27 n10 (f10 && decide ((↑s10.length : Int) = (↑s10.length : Int))) (List.drop x27.toNat
  (List.take (↑s10.length : Int).toNat s10)) (↑(List.drop x27.toNat (List.take (↑s10.length : Int).toNat s10)).length : Int) (0 : Int)) /\ J2 n9 f9 s9 n10 f10 s10 x27 n9 f9 s9 true x26 x27 n10 (f10 && decide ((↑s10.length : Int) =
  (↑s10.length : Int))) (List.drop x27.toNat (List.take (↑s10.length : Int).toNat s10)) (↑(List.drop x27.toNat (List.take (↑s10.length : Int).toNat s10)).length : Int) (0 : Int) n9 f9 s9 n10 f10 s10 x27 n9 f9 s9 true x26 x27 n10 (f10 &&
  decide ((↑s10.length : Int) = (↑s10.length : Int))) (List.drop x27.toNat (List.take (↑s10.length : Int).toNat s10)) (↑(List.drop x27.toNat (List.take (↑s10.length : Int).toNat s10)).length : Int) (0 : Int)) /\ ∀ (n91 f91 : Bool) (s91 :
  LL) (n101 f101 : Bool) (s101 : LL) (x11 : Int) (n12 f12 : Bool) (s12 : LL) (x13 : Bool) (x261 x271 : Int) (n33 f33 : Bool) (s33 : LL) (x34 x35 : Int), J2 n9 f9 s9 n10 f10 s10 x27 n9 f9 s9 true x26 x27 n10 (f10 && decide ((↑s10.length :
  Int) = (↑s10.length : Int))) (List.drop x27.toNat (List.take (↑s10.length : Int).toNat s10)) (↑(List.drop x27.toNat (List.take (↑s10.length : Int).toNat s10)).length : Int) (0 : Int) n91 f91 s91 n101 f101 s101 x11 n12 f12 s12 x13 x261
  x271 n33 f33 s33 x34 x35 ->
 let V1 := aG (za3 tc tg tj tf tp M S n f es n2 f2 ss n91 f91 s91 n101 f101 s101 x261 (i64.wrap (x271 + 1))) /\ J n91 f91 s91 n101 f101 s101 x261 (i64.wrap (x271 + 1)) /\ μ n91 f91 s91 n101 f101 s101 x261
  (i64.wrap (x271 + 1)) < μ n9 f9 s9 n10 f10 s10 x26 x27; if decide (x35 < x34) = true then aK s33 x35 3 /\ ∃ n4, (s33.getD x35.toNat []).head? = some (Z6 n4) /\ ∃ n5, (s33.getD x35.toNat []).tail.head? = some (Z6
  n5) /\ ∃ n6 f4 es3, (s33.getD x35.toNat []).tail.tail.head? = some (PV.sl n6 f4 es3) /\ if decide ((↑es3.length : Int) > (↑s12.length : Int)) = true then V1 else (dB s12.length none (some (↑es3.length :
  Int)) none /\ aT s12 1) /\ PCall Tryz.prog 70 [PV.sl n6 f4 es3, PV.sl n12 (f12 && decide ((↑es3.length : Int) = (↑s12.length : Int))) (List.drop 0 (List.take (↑es3.length : Int).toNat s12))] fun v2 => ∃ b, v2 = Zb b /\ if
  (!b) = true then V1 else (dB s12.length (some (↑es3.length : Int)) none none /\ aT s12 1) /\ if ((↑(List.drop (↑es3.length : Int).toNat (List.take (↑s12.length : Int).toNat s12)).length : Int) == 0) = true then aK s101 x11 3 /\ ∃ (n7
  : Int), (List.drop 0 (s101.getD x11.toNat [])).head? = some (Z6 n7) /\ R (PV.tup [Z6 n7, Z6 n5, Zb true]) else aG (za4 tc tg tj tf tp M S n f es n2 f2 ss n91 f91 s91 n101 f101 s101 x11 n12 (f12 && decide ((↑s12.length : Int) =
  (↑s12.length : Int))) (List.drop (↑es3.length : Int).toNat (List.take (↑s12.length : Int).toNat s12)) x13 x261 x271 n33 f33 s33 x34 (i64.wrap (x35 + 1))) /\ J2 n9 f9 s9 n10 f10 s10 x27 n9 f9 s9 true x26 x27 n10 (f10 && decide
  ((↑s10.length : Int) = (↑s10.length : Int))) (List.drop x27.toNat (List.take (↑s10.length : Int).toNat s10)) (↑(List.drop x27.toNat (List.take (↑s10.length : Int).toNat s10)).length : Int) (0 : Int) n91 f91 s91 n101 f101 s101 x11 n12
  (f12 && decide ((↑s12.length : Int) = (↑s12.length : Int))) (List.drop (↑es3.length : Int).toNat (List.take (↑s12.length : Int).toNat s12)) x13 x261 x271 n33 f33 s33 x34 (i64.wrap (x35 + 1)) /\ μ2 n91 f91 s91 n101 f101 s101 x11
  n12 (f12 && decide ((↑s12.length : Int) = (↑s12.length : Int))) (List.drop (↑es3.length : Int).toNat (List.take (↑s12.length : Int).toNat s12)) x13 x261 x271 n33 f33 s33 x34 (i64.wrap (x35 + 1)) < μ2 n91 f91 s91 n101 f101 s101
  x11 n12 f12 s12 x13 x261 x271 n33 f33 s33 x34 x35 else if x13 = true then R (PV.tup [Z6 0, Z6 0, Zb false]) else V1 else R (PV.tup [Z6 0, Z6 0, Zb false])
theorem ztt {R : PV -> Prop} (h : zix tc tg tj tf tp M S n f es n2 f2 ss J μ J2 μ2 R) : PCall Tryz.prog 27 [.ptr [tc, tg, tj, tf, tp, .mp M, .mp S], .sl n f es, .sl n2 f2 ss] R :=
 PCall.of Tryz.func27 (by kernel_rfl) (by kernel_rfl) (zl (by kernel_rfl)) (Eq.mpr (by kernel_rfl : aO Tryz.prog (fun _ => none) Tryz.f27 [0, 1, 2, 6, 7, 8, 9, 10, 11, 12, 13, 15, 21, 26, 27, 28, 33, 34, 35, 36, 55, 63, 72] (fun zz_ => match zz_ with | 6 => some ⟨Bool × Bool × LL × Bool × Bool × LL × Int × Int, fun s => za3 tc tg tj tf tp M S n f es n2 f2 ss s.1 s.2.1 s.2.2.1 s.2.2.2.1 s.2.2.2.2.1 s.2.2.2.2.2.1 s.2.2.2.2.2.2.1 s.2.2.2.2.2.2.2, fun _ s => J s.1 s.2.1 s.2.2.1 s.2.2.2.1 s.2.2.2.2.1 s.2.2.2.2.2.1 s.2.2.2.2.2.2.1 s.2.2.2.2.2.2.2, fun s => μ s.1 s.2.1 s.2.2.1 s.2.2.2.1 s.2.2.2.2.1 s.2.2.2.2.2.1 s.2.2.2.2.2.2.1 s.2.2.2.2.2.2.2, fun e h => (gN e 9, gF e 9, gS e 9, gN e 10, gF e 10, gS e 10, gI e 26, gI e 27), [], [9, 10, 26, 27], [], fun p => ∀ (n9 f9 : Bool) (s9 : LL) (n10 f10 : Bool) (s10 : LL) (x26 x27 : Int), p (n9, f9, s9, n10, f10, s10, x26, x27), fun p h s => h s.1 s.2.1 s.2.2.1 s.2.2.2.1 s.2.2.2.2.1 s.2.2.2.2.2.1 s.2.2.2.2.2.2.1 s.2.2.2.2.2.2.2⟩ | 10 => some ⟨Bool × Bool × LL × Bool × Bool × LL × Int × Bool × Bool × LL × Bool × Int × Int × Bool × Bool × LL × Int × Int, fun s => za4 tc tg tj tf tp M S n f es n2 f2 ss s.1 s.2.1 s.2.2.1 s.2.2.2.1 s.2.2.2.2.1 s.2.2.2.2.2.1 s.2.2.2.2.2.2.1 s.2.2.2.2.2.2.2.1 s.2.2.2.2.2.2.2.2.1 s.2.2.2.2.2.2.2.2.2.1 s.2.2.2.2.2.2.2.2.2.2.1 s.2.2.2.2.2.2.2.2.2.2.2.1 s.2.2.2.2.2.2.2.2.2.2.2.2.1 s.2.2.2.2.2.2.2.2.2.2.2.2.2.1 s.2.2.2.2.2.2.2.2.2.2.2.2.2.2.1 s.2.2.2.2.2.2.2.2.2.2.2.2.2.2.2.1 s.2.2.2.2.2.2.2.2.2.2.2.2.2.2.2.2.1 s.2.2.2.2.2.2.2.2.2.2.2.2.2.2.2.2.2, fun t s => J2 t.1 t.2.1 t.2.2.1 t.2.2.2.1 t.2.2.2.2.1 t.2.2.2.2.2.1 t.2.2.2.2.2.2.1 t.2.2.2.2.2.2.2.1 t.2.2.2.2.2.2.2.2.1 t.2.2.2.2.2.2.2.2.2.1 t.2.2.2.2.2.2.2.2.2.2.1 t.2.2.2.2.2.2.2.2.2.2.2.1 t.2.2.2.2.2.2.2.2.2.2.2.2.1 t.2.2.2.2.2.2.2.2.2.2.2.2.2.1 t.2.2.2.2.2.2.2.2.2.2.2.2.2.2.1 t.2.2.2.2.2.2.2.2.2.2.2.2.2.2.2.1 t.2.2.2.2.2.2.2.2.2.2.2.2.2.2.2.2.1 t.2.2.2.2.2.2.2.2.2.2.2.2.2.2.2.2.2 s.1 s.2.1 s.2.2.1 s.2.2.2.1 s.2.2.2.2.1 s.2.2.2.2.2.1 s.2.2.2.2.2.2.1 s.2.2.2.2.2.2.2.1 s.2.2.2.2.2.2.2.2.1 s.2.2.2.2.2.2.2.2.2.1 s.2.2.2.2.2.2.2.2.2.2.1 s.2.2.2.2.2.2.2.2.2.2.2.1 s.2.2.2.2.2.2.2.2.2.2.2.2.1 s.2.2.2.2.2.2.2.2.2.2.2.2.2.1 s.2.2.2.2.2.2.2.2.2.2.2.2.2.2.1 s.2.2.2.2.2.2.2.2.2.2.2.2.2.2.2.1 s.2.2.2.2.2.2.2.2.2.2.2.2.2.2.2.2.1 s.2.2.2.2.2.2.2.2.2.2.2.2.2.2.2.2.2, fun s => μ2 s.1 s.2.1 s.2.2.1 s.2.2.2.1 s.2.2.2.2.1 s.2.2.2.2.2.1 s.2.2.2.2.2.2.1 s.2.2.2.2.2.2.2.1 s.2.2.2.2.2.2.2.2.1 s.2.2.2.2.2.2.2.2.2.1 s.2.2.2.2.2.2.2.2.2.2.1 s.2.2.2.2.2.2.2.2.2.2.2.1 s.2.2.2.2.2.2.2.2.2.2.2.2.1 s.2.2.2.2.2.2.2.2.2.2.2.2.2.1 s.2.2.2.2.2.2.2.2.2.2.2.2.2.2.1 s.2.2.2.2.2.2.2.2.2.2.2.2.2.2.2.1 s.2.2.2.2.2.2.2.2.2.2.2.2.2.2.2.2.1 s.2.2.2.2.2.2.2.2.2.2.2.2.2.2.2.2.2, fun e h => (gN e 9, gF e 9, gS e 9, gN e 10, gF e 10, gS e 10, gI e 11, gN e 12, gF e 12, gS e 12, gB e 13, gI e 26, gI e 27, gN e 33, gF e 33, gS e 33, gI e 34, gI e 35), [], [9, 10, 11, 12, 13, 26, 27, 33, 34, 35], [], fun p => ∀ (n9 f9 : Bool) (s9 : LL) (n10 f10 : Bool) (s10 : LL) (x11 : Int) (n12 f12 : Bool) (s12 : LL) (x13 : Bool) (x26 x27 : Int) (n33 f33 : Bool) (s33 : LL) (x34 x35 : Int), p (n9, f9, s9, n10, f10, s10, x11, n12, f12, s12, x13, x26, x27, n33, f33, s33, x34, x35), fun p h s => h s.1 s.2.1 s.2.2.1 s.2.2.2.1 s.2.2.2.2.1 s.2.2.2.2.2.1 s.2.2.2.2.2.2.1 s.2.2.2.2.2.2.2.1 s.2.2.2.2.2.2.2.2.1 s.2.2.2.2.2.2.2.2.2.1 s.2.2.2.2.2.2.2.2.2.2.1 s.2.2.2.2.2.2.2.2.2.2.2.1 s.2.2.2.2.2.2.2.2.2.2.2.2.1 s.2.2.2.2.2.2.2.2.2.2.2.2.2.1 s.2.2.2.2.2.2.2.2.2.2.2.2.2.2.1 s.2.2.2.2.2.2.2.2.2.2.2.2.2.2.2.1 s.2.2.2.2.2.2.2.2.2.2.2.2.2.2.2.2.1 s.2.2.2.2.2.2.2.2.2.2.2.2.2.2.2.2.2⟩ | _ => none) (Tryz.f27.body.getD .skip) [.ptr [tc, tg, tj, tf, tp, .mp M, .mp S], .sl n f es, .sl n2 f2 ss] R = _) h)
end
def za5 (tc tg tj tf tp : PV) (M S : List (PV × PV)) (n f : Bool) (es : LL) (n10 f10 : Bool) (s10 : LL) (x11 x12 : Int) (n_0 : Bool) (s_0 : LL) : Env × Hp := ([(1, LV.pv (PV.sl n f es)), (5, LV.own 0), (10, .pv (.sl n10 f10 s10)), (11, Y6 x11), (12, Y6 x12)], [.sl (21, 1) true n_0 s_0])
section
variable (tc tg tj tf tp : PV) (M S : List (PV × PV)) (n f : Bool) (es : LL) (J : Bool -> Bool -> LL -> Int -> Int -> Bool -> LL -> Prop) (μ : Bool -> Bool -> LL -> Int -> Int -> Bool -> LL -> Nat)
def ziy (R : PV -> Prop) : Prop :=
 PCall Tryz.prog 69 [PV.ptr [tc, tg, tj, tf, tp, PV.mp M, PV.mp S], PV.sl n f es] fun v => ∃ n1 f1 es1, v = PV.sl n1 f1 es1 /\ (aG (za5 tc tg tj tf tp M S n f es n1 f1 es1 (↑es1.length : Int) (0 :
  Int) true []) /\ J n1 f1 es1 (↑es1.length : Int) (0 : Int) true []) /\ ∀ (n10 f10 : Bool) (s10 : LL) (x11 x12 : Int) (n_0 : Bool) (s_0 : LL), J n10 f10 s10 x11 x12 n_0 s_0 ->
 let K3 := fun (y0_ y1_ : Bool) (y2_ : LL) (y3_ y4_ : Int) (y5_ : Bool) (y6_ : LL) => aG (za5 tc tg tj tf tp M S n f es y0_ y1_ y2_ y3_ y4_ y5_ y6_) /\ J y0_ y1_ y2_ y3_ y4_ y5_ y6_ /\ μ y0_ y1_ y2_ y3_ y4_ y5_ y6_ < μ
  n10 f10 s10 x11 x12 n_0 s_0; if decide (x12 < x11) = true then aK s10 x12 3 /\ ∃ n2, (s10.getD x12.toNat []).head? = some (Z6 n2) /\ ∃ n3, (s10.getD x12.toNat []).tail.head? = some (Z6 n3) /\ ∃ n4, ∃ (f2 : Bool),
  ∃ es2, (s10.getD x12.toNat []).tail.tail.head? = some (PV.sl n4 f2 es2) /\ if ((↑es2.length : Int) == 0) = true then (dB es.length (some n2) (some n3) none /\ aT es 1) /\ (aT (List.drop n2.toNat (List.take n3.toNat es)) 1 /\
  (s_0.length + (List.drop n2.toNat (List.take n3.toNat es)).length) * 4 <= 140737488355328) /\ K3 n10 f10 s10 x11 (i64.wrap (x12 + 1)) (n_0 && (List.drop n2.toNat (List.take n3.toNat es)).isEmpty) (s_0 ++ List.drop n2.toNat
  (List.take n3.toNat es)) else (aT es2 1 /\ (s_0.length + es2.length) * 4 <= 140737488355328) /\ K3 n10 f10 s10 x11 (i64.wrap (x12 + 1)) (n_0 && es2.isEmpty) (s_0 ++ es2) else R (PV.sl n_0 false s_0)
theorem ztu {R : PV -> Prop} (h : ziy tc tg tj tf tp M S n f es J μ R) : PCall Tryz.prog 37 [.ptr [tc, tg, tj, tf, tp, .mp M, .mp S], .sl n f es] R :=
 PCall.of Tryz.func37 (by kernel_rfl) (by kernel_rfl) (zl (by kernel_rfl)) (Eq.mpr (by kernel_rfl : aO Tryz.prog (fun _ => none) Tryz.f37 [0, 1, 4, 5, 7, 10, 11, 12, 13, 19] (fun zz_ => match zz_ with | 3 => some ⟨Bool × Bool × LL × Int × Int × Bool × LL, fun s => za5 tc tg tj tf tp M S n f es s.1 s.2.1 s.2.2.1 s.2.2.2.1 s.2.2.2.2.1 s.2.2.2.2.2.1 s.2.2.2.2.2.2, fun _ s => J s.1 s.2.1 s.2.2.1 s.2.2.2.1 s.2.2.2.2.1 s.2.2.2.2.2.1 s.2.2.2.2.2.2, fun s => μ s.1 s.2.1 s.2.2.1 s.2.2.2.1 s.2.2.2.2.1 s.2.2.2.2.2.1 s.2.2.2.2.2.2, fun e h => (gN e 10, gF e 10, gS e 10, gI e 11, gI e 12, oN h 0, oS h 0), [(5, 21, 1)], [1, 5, 10, 11, 12], [], fun p => ∀ (n10 f10 : Bool) (s10 : LL) (x11 x12 : Int) (n_0 : Bool) (s_0 : LL), p (n10, f10, s10, x11, x12, n_0, s_0), fun p h s => h s.1 s.2.1 s.2.2.1 s.2.2.2.1 s.2.2.2.2.1 s.2.2.2.2.2.1 s.2.2.2.2.2.2⟩ | _ => none) (Tryz.f37.body.getD .skip) [.ptr [tc, tg, tj, tf, tp, .mp M, .mp S], .sl n f es] R = _) h)
end
def za6 (n f : Bool) (es : LL) (n2 f2 : Bool) (ss : LL) (n6 f6 : Bool) (s6 : LL) (x7 : Int) (n_0 : Bool) (s_0 : LL) : Env × Hp := ([(0, LV.pv (PV.sl n f es)), (5, LV.own 0), (6, .pv (.sl n6 f6 s6)), (7, Y6 x7)], [.sl (21, 1) true n_0 s_0])
section
variable (n f : Bool) (es : LL) (n2 f2 : Bool) (ss : LL) (J : Bool -> Bool -> LL -> Int -> Bool -> LL -> Prop) (μ : Bool -> Bool -> LL -> Int -> Bool -> LL -> Nat)
def ziz (R : PV -> Prop) : Prop :=
 PCall Tryz.prog 32 [PV.sl n f es, PV.sl n2 f2 ss] fun v => ∃ n1 f1 es1, v = PV.sl n1 f1 es1 /\ (aG (za6 n f es n2 f2 ss n1 f1 es1 (0 : Int) true []) /\ J n1 f1 es1 (0 : Int) true []) /\ ∀ (n6 f6 :
  Bool) (s6 : LL) (x7 : Int) (n_0 : Bool) (s_0 : LL), J n6 f6 s6 x7 n_0 s_0 ->
 let K4 := fun (y0_ y1_ : Bool) (y2_ : LL) (y3_ : Int) (y4_ : Bool) (y5_ : LL) => aG (za6 n f es n2 f2 ss y0_ y1_ y2_ y3_ y4_ y5_) /\ J y0_ y1_ y2_ y3_ y4_ y5_ /\ μ y0_ y1_ y2_ y3_ y4_ y5_ < μ n6 f6 s6 x7 n_0 s_0; if decide (x7
  < (↑s6.length : Int)) = true then aK s6 x7 1 /\ ∃ n3, (s6.getD x7.toNat []).head? = some (Z3 n3) /\ PCall Tryz.prog 75 [PV.sl n f es, Z3 n3] fun v1 => ∃ n4, v1 = Z6 n4 /\ if (n4 == 0) = true then aK s6 x7 1 /\ ∃
  (n5 : Int), (s6.getD x7.toNat []).head? = some (Z3 n5) /\ (aT [[Z3 n5]] 1 /\ (s_0.length + 1) * 4 <= 140737488355328) /\ K4 n6 f6 s6 (i64.wrap (x7 + 1)) (n_0 && false) (s_0 ++ [[Z3 n5]]) else K4 n6 f6 s6 (i64.wrap (x7 + 1))
  n_0 s_0 else R (PV.sl n_0 false s_0)
theorem ztv {R : PV -> Prop} (h : ziz n f es n2 f2 ss J μ R) : PCall Tryz.prog 33 [.sl n f es, .sl n2 f2 ss] R :=
 PCall.of Tryz.func33 (by kernel_rfl) (by kernel_rfl) (zl (by kernel_rfl)) (Eq.mpr (by kernel_rfl : aO Tryz.prog (fun _ => none) Tryz.f33 [0, 1, 4, 5, 6, 7, 14, 23] (fun zz_ => match zz_ with | 4 => some ⟨Bool × Bool × LL × Int × Bool × LL, fun s => za6 n f es n2 f2 ss s.1 s.2.1 s.2.2.1 s.2.2.2.1 s.2.2.2.2.1 s.2.2.2.2.2, fun _ s => J s.1 s.2.1 s.2.2.1 s.2.2.2.1 s.2.2.2.2.1 s.2.2.2.2.2, fun s => μ s.1 s.2.1 s.2.2.1 s.2.2.2.1 s.2.2.2.2.1 s.2.2.2.2.2, fun e h => (gN e 6, gF e 6, gS e 6, gI e 7, oN h 0, oS h 0), [(5, 21, 1)], [0, 5, 6, 7], [], fun p => ∀ (n6 f6 : Bool) (s6 : LL) (x7 : Int) (n_0 : Bool) (s_0 : LL), p (n6, f6, s6, x7, n_0, s_0), fun p h s => h s.1 s.2.1 s.2.2.1 s.2.2.2.1 s.2.2.2.2.1 s.2.2.2.2.2⟩ | _ => none) (Tryz.f33.body.getD .skip) [.sl n f es, .sl n2 f2 ss] R = _) h)
end
def za7  (R : PV -> Prop) : Prop :=
 PCall Tryz.prog 16 [] fun v => ∃ n f es, v = PV.sl n f es /\ PCall Tryz.prog 17 [PV.sl n f es] fun v1 => PCall Tryz.prog 27 [v1, PV.sl false true [[Z3 120], [Z3 233], [Z3 121]], PV.sl false true
 [[Z3 101]]] fun v2 => ∃ vs, v2 = PV.tup vs /\ vs.length = 3 /\ ∃ x, vs.head? = some x /\ ∃ n1, x = Z6 n1 /\ ∃ x1, vs.tail.head? = some x1 /\ ∃ n2, x1 = Z6 n2 /\ ∃ x2, vs.tail.tail.head? =
 some x2 /\ ∃ b, x2 = Zb b /\ if (n1 == 1 && n2 == 2 && b) = true then PCall Tryz.prog 35 [v1, PV.sl false true [[Z3 7785]]] fun v3 => ∃ n3 f1 es1, v3 = PV.sl n3 f1 es1 /\ PCall Tryz.prog 26 [PV.sl
 n3 f1 es1, PV.sl false true [[Z3 115]]] fun v4 => ∃ b1, v4 = Zb b1 /\ if b1 = true then PCall Tryz.prog 37 [v1, PV.sl false true [[Z3 233], [Z3 769]]] fun v5 => ∃ n4 f2 es2, v5 = PV.sl n4
 f2 es2 /\ PCall Tryz.prog 26 [PV.sl n4 f2 es2, PV.sl false true [[Z3 101]]] fun v6 => ∃ b2, v6 = Zb b2 /\ R (Zb b2) else R (Zb false) else R (Zb false)
theorem ztw  {R : PV -> Prop} (h : za7  R) : PCall Tryz.prog 29 [] R :=
 PCall.of Tryz.func29 (by kernel_rfl) (by kernel_rfl) (zl (by kernel_rfl)) (Eq.mpr (by kernel_rfl : aO Tryz.prog (fun _ => none) Tryz.f29 [0, 1, 2, 3, 4] (fun _ => none) (Tryz.f29.body.getD .skip) [] R = za7  R) h)

section
variable (n f : Bool) (es : LL) (n2 f2 : Bool) (ss : LL)
def zi0 (R : PV -> Prop) : Prop :=
 PCall Tryz.prog 14 [PV.sl n f es, Z6 30] fun v => ∃ n1 f1 es1, v = PV.sl n1 f1 es1 /\ PCall Tryz.prog 14 [PV.sl n2 f2 ss, Z6 10] fun v1 => ∃ n3 f3 es2, v1 = PV.sl n3
  f3 es2 /\ PCall Tryz.prog 16 [] fun v2 => ∃ n4 f4 es3, v2 = PV.sl n4 f4 es3 /\ PCall Tryz.prog 17 [PV.sl n4 f4 es3] fun v3 => PCall Tryz.prog 27 [v3, PV.sl n1 f1 es1, PV.sl n3 f3 es2] fun (v4 :
  PV) => ∃ vs, v4 = PV.tup vs /\ vs.length = 3 /\ ∃ x, vs.head? = some x /\ ∃ n5, x = Z6 n5 /\ ∃ x1, vs.tail.head? = some x1 /\ ∃ n6, x1 = Z6 n6 /\ ∃ x2, vs.tail.tail.head? = some x2 /\ ∃ (b :
  Bool), x2 = Zb b /\ PCall Tryz.prog 30 [PV.sl n4 f4 es3, PV.sl n3 f3 es2] fun v5 => ∃ n7 f5 es4, v5 = PV.sl n7 f5 es4 /\ PCall Tryz.prog 27 [v3, PV.sl n1 f1 es1, PV.sl n7 f5 es4] fun v6 => ∃ (vs1
  : List PV), v6 = PV.tup vs1 /\ vs1.length = 3 /\ ∃ x3, vs1.head? = some x3 /\ ∃ n8, x3 = Z6 n8 /\ ∃ x4, vs1.tail.head? = some x4 /\ ∃ n9, x4 = Z6 n9 /\ ∃ x5, vs1.tail.tail.head? = some x5 /\ ∃ (b1 : Bool),
  x5 = Zb b1 /\ if (n5 != n8 || n6 != n9 || b != b1) = true then R (Zb false) else PCall Tryz.prog 32 [PV.sl n4 f4 es3, PV.sl n3 f3 es2] fun v7 => ∃ n10 f6 es5, v7 = PV.sl n10 f6 es5 /\ PCall Tryz.prog 31
  [v3, PV.sl n3 f3 es2, PV.sl n10 f6 es5] fun v8 => ∃ b2, v8 = Zb b2 /\ if (!b2) = true then R (Zb false) else
 let V1 := if (n5 == 0 && n6 == 0) = true then PCall Tryz.prog 29 [] fun v9 => ∃ b3, v9 = Zb b3 /\ R (Zb b3) else R (Zb false); if (!b) = true then V1 else PCall Tryz.prog 33 [PV.sl n4 f4 es3, PV.sl n3 f3 es2] fun (v9 : PV) =>
  ∃ n11 f7 es6, v9 = PV.sl n11 f7 es6 /\ if ((↑es6.length : Int) == 0) = true then V1 else if (decide (n5 < n6) && decide (n6 <= (↑es1.length : Int))) = true then PCall Tryz.prog 34 [PV.sl n4 f4 es3, PV.sl n1
  f1 es1, Z6 n5] fun v10 => ∃ b3, v10 = Zb b3 /\ if b3 = true then PCall Tryz.prog 34 [PV.sl n4 f4 es3, PV.sl n1 f1 es1, Z6 n6] fun v11 => ∃ b4, v11 = Zb b4 /\ if b4 = true then (dB es1.length (some n5) (some
  n6) none /\ aT es1 1) /\ PCall Tryz.prog 31 [v3, PV.sl n1 (f1 && decide (n6 = (↑es1.length : Int))) (List.drop n5.toNat (List.take n6.toNat es1)), PV.sl n3 f3 es2] fun v12 => ∃ b5, v12 = Zb b5 /\ if b5 = true then PCall
  Tryz.prog 29 [] fun v13 => ∃ b6, v13 = Zb b6 /\ R (Zb b6) else R (Zb false) else R (Zb false) else R (Zb false) else R (Zb false)
theorem ztx {R : PV -> Prop} (h : zi0 n f es n2 f2 ss R) : PCall Tryz.prog 7 [.sl n f es, .sl n2 f2 ss] R :=
 PCall.of Tryz.func7 (by kernel_rfl) (by kernel_rfl) (zl (by kernel_rfl)) (Eq.mpr (by kernel_rfl : aO Tryz.prog (fun _ => none) Tryz.f7 [0, 1, 4, 5, 6, 7, 8, 9, 10, 11, 12, 59, 68] (fun _ => none) (Tryz.f7.body.getD .skip) [.sl n f es, .sl n2 f2 ss] R = _) h)
end
end Go.Eng



namespace Go.Eng
open Go Go.Proofs Go.Eng.Rows Go.Eng.Trie Go.Eng.Srt
theorem zty {L : List Int} {i : Nat} {e : List PV} (h : (aA L)[i]? = some e) : ∃ x, e = [.int .i32 x] := by
 unfold aA at h
 rw [List.getElem?_map] at h
 cases hx : L[i]? with
 | none => rw [hx] at h; cases h
 | some x => rw [hx] at h; cases h; exact ⟨x, rfl⟩
theorem ACall.lend {P : Program} {f : Nat} {p : PV} {ty ty2 : Nat × Nat} {m m2 n : Bool} {es : List (List PV)} {Φ : Bool -> List Int -> Prop} (hc : ACall P f [.pv p, .pv (.sl n false es)] [] fun r h' => ∃ n2 L, r = .own 0 /\ h' = [.sl ty2 m2 n2 (aA L)] /\ Φ n2 L) :
 ACall P f [.pv p, .own 0] [.sl ty m n es] fun r h' => ∃ n2 L, r = .own 1 /\ h' = [.sl ty m n es, .sl ty2 m2 n2 (aA L)] /\ Φ n2 L :=
 ⟨hc.1, fun w I G cargs hh hsz hrel => by
  have hcl : ∀ b, AllB I [Ob.sl ty m n es] G b -> b < w.heap.size := fun b hb => hb.elim (hh.cl b) hh.blk_lt
  have h0 := hrel 0 _ rfl
  have h1 := hrel 1 _ rfl
  have hrep := o7 hh h1 (rfl : iQ [Ob.sl ty m n es] (.own 0) = some (.sl n false es))
  refine (hc.2 w (AllB I [Ob.sl ty m n es] G) G cargs (HRel.nil G hcl) hsz fun i v hi => ?_).mono ?_
  ·match i, hi with
   | 0, hi =>
     cases hi
     generalize cargs.getD 0 undef = c0 at h0
     cases h0 with
     | pv _ _ h0 => exact .pv _ _ (h0.mono (fun _ _ _ => rfl) (fun b hb _ => .inl hb))
   | 1, hi => cases hi; exact .pv _ _ hrep
  rintro e w' ⟨cv, r, h', I2, G2, e1, ⟨n2, L, rfl, rfl, hφ⟩, e3, e4, e5⟩
  have t := e5.t
  have noN : ∀ b, ¬aW [] G b := fun b ⟨o, ob, ho, _⟩ => by simp at ho
  have hk : Keeps w I w' I := ⟨fun b _ hlt => t.keep b hlt (noN b), fun b hb _ => hb⟩
  have o0 := hh.obs 0 _ rfl
  have x0 := e3.obs 0 _ rfl
  have two : ∀ {o : Nat} {ob : Ob}, [Ob.sl ty m n es, Ob.sl ty2 m2 n2 (aA L)][o]? = some ob -> (o = 0 /\ ob = .sl ty m n es) ∨ (o = 1 /\ ob = .sl ty2 m2 n2 (aA L)) := fun {o ob} h => by
   match o, h with
   | 0, h => cases h; exact .inl ⟨rfl, rfl⟩
   | 1, h => cases h; exact .inr ⟨rfl, rfl⟩
   | o + 2, h => simp at h
  have lt0 : (Ob.sl ty m n es).alive (G 0) -> (G 0).blk < w.heap.size := fun ha => hh.blk_lt ⟨0, _, rfl, ha, rfl⟩
  have ge1 : (Ob.sl ty2 m2 n2 (aA L)).alive (G2 0) -> w.heap.size <= (G2 0).blk := fun ha => (t.own2 _ ⟨0, _, rfl, ha, rfl⟩).elim (fun h => absurd h (noN _)) id
  refine ⟨cv, .own 1, _, I, fun o => if o = 0 then G 0 else G2 0, e1, ⟨n2, L, rfl, rfl, hφ⟩, ⟨fun o ob ho => ?_, fun o o' ob ob' ho ha ho' ha' hb => ?_, fun o ob ho ha => ?_, fun b hb => Nat.lt_of_lt_of_le (hh.cl b hb) t.size⟩, ?_, ⟨⟨t.os, t.tape, t.output, t.size, fun b hb _ => t.keep b hb (noN b), fun b hb => hb, fun b hb => .inl hb, fun b hb => ?_, t.frz, t.drawn⟩, by simp, fun o ob' ho hx hf => ?_⟩⟩
  ·rcases two ho with ⟨rfl, rfl⟩ | ⟨rfl, rfl⟩
   ·show ORel w' I _ _ (G 0) _
    cases n with
    | true => exact o0
    | false =>
      obtain ⟨q1, q2, q3, q4, q5, q6⟩ := o0
      refine ⟨q1, q2, q3, q4, q5, fun hcap => ?_⟩
      obtain ⟨vs, f1, f2, f3⟩ := q6 hcap
      exact ⟨vs, (t.keep _ (lt0 ⟨rfl, hcap⟩) (noN _)).trans f1, f2, fun i e he k u hu => ⟨(f3 i e he k u hu).1.mono hk.1 hk.2, (f3 i e he k u hu).2⟩⟩
   ·show ORel w' I _ _ (G2 0) _
    cases n2 with
    | true => exact x0
    | false =>
      obtain ⟨q1, q2, q3, q4, q5, q6⟩ := x0
      refine ⟨q1, q2, q3, q4, q5, fun hcap => ?_⟩
      obtain ⟨vs, f1, f2, f3⟩ := q6 hcap
      refine ⟨vs, f1, f2, fun i e he k u hu => ?_⟩
      obtain ⟨g1, g2⟩ := f3 i e he k u hu
      refine ⟨?_, g2⟩
      obtain ⟨x, rfl⟩ := zty he
      match k, hu with
      | 0, hu =>
        cases hu
        generalize vs.getD _ undef = c at g1
        cases g1; exact .int _ _
      | k + 1, hu => simp at hu
  ·rcases two ho with ⟨rfl, rfl⟩ | ⟨rfl, rfl⟩ <;> rcases two ho' with ⟨rfl, rfl⟩ | ⟨rfl, rfl⟩
   ·rfl
   ·have := lt0 ha
    have h2 := ge1 ha'
    have hb : (G 0).blk = (G2 0).blk := hb
    omega
   ·have := lt0 ha'
    have h2 := ge1 ha
    have hb : (G2 0).blk = (G 0).blk := hb
    omega
   ·rfl
  ·rcases two ho with ⟨rfl, rfl⟩ | ⟨rfl, rfl⟩
   ·exact hh.nI 0 _ rfl ha
   ·intro hI
    exact e3.nI 0 _ rfl ha (t.i1 _ (.inl hI))
  ·cases e4 with
   | ownNil _ _ _ _ g1 => cases g1; exact .ownNil 1 _ _ _ rfl
   | own _ _ _ _ ad g0 g1 =>
     cases g1
     exact .own (G := fun o => if o = 0 then G 0 else G2 0) 1 _ _ _ ad g0 rfl
  ·obtain ⟨o, ob, ho, ha, hbl⟩ := hb
   rcases two ho with ⟨rfl, rfl⟩ | ⟨rfl, rfl⟩
   ·exact .inl ⟨0, _, rfl, ha, hbl⟩
   ·exact .inr (by have := ge1 ha; have hbl : (G2 0).blk = b := hbl; omega)
  ·have : o = 0 := by simp at ho; exact ho
   subst this
   cases hx
   exact ⟨rfl, _, rfl, hf⟩⟩
section
variable {rows : List Row} {v : PV}
theorem ztz (hp : cX rows) (hk : cY rows) (hv : dT rows v) (n f : Bool) (L : List Int) (hr : R32 L) (hL : L.length < 1000000) : ACall Tryz.prog 78 [.pv v, .pv (.sl n f (aA L))] [] fun r h' => ∃ nl, r = .own 0 /\ h' = [.sl (21, 1) false nl (aA (cS rows L))] := by
 obtain ⟨tc, tg, tj, tf, tp, made, sec, rfl, ht, hm⟩ := hv
 have hT : ∀ r : Int, (-2147483648 <= r /\ r <= 2147483647) -> PCall Tryz.prog 80 [.ptr [tc, tg, tj, tf, tp, .mp (eA made), .mp (iB sec)], .int .i32 r] fun v => v = .int .i64 (aB rows 1 r) := fun r hr => tF _ _ ht hr
 refine ztp _ _ _ _ _ _ _ _ _ _ (fun i h0 _ s => h0 = .ptr [tc, tg, tj, tf, tp, .mp (eA made), .mp (iB sec)] /\ 0 <= i /\ i <= L.length /\ s = aA ((L.take i.toNat).flatMap (aQ rows 8))) (fun i _ _ _ => L.length - i.toNat) ?_
 unfold zit
 refine ⟨rfl, ⟨rfl, rfl, Int.le_refl _, by omega, rfl⟩, ?_⟩
 rintro i h0 n1 _ ⟨rfl, i0, i1, rfl⟩
 refine aD (fun hc => ?_) (fun hc => ?_)
 ·simp only [decide_eq_true_eq, aS] at hc
  have hi : i.toNat < L.length := by omega
  obtain ⟨g1, g2⟩ := e9 i0 hi
  have hx := hr _ (List.getElem_mem hi)
  have hw : i64.wrap (i + 1) = i + 1 := aC (by omega) (by omega)
  have hfl := tU rows (L.take i.toNat)
  rw [List.length_take] at hfl
  refine ⟨g1, L[i.toNat], by rw [g2]; rfl, ?_⟩
  refine (zrn _ _ hp ht 8 _ n1 _ (by omega) hx (by omega)).mono ?_
  rintro r h' ⟨nl, rfl, rfl⟩
  rw [hw]
  exact ⟨(nl, _), ⟨rfl, rfl⟩, ⟨trivial, trivial, trivial⟩, rfl, ⟨rfl, by omega, by omega, by rw [show (i + 1).toNat = i.toNat + 1 by omega, zid rows hi]; rfl⟩, by dsimp only; omega⟩
 ·simp only [decide_eq_true_eq, aS] at hc
  rw [List.take_of_length_le (by omega)]
  have hfl := tU rows L
  have hord : ACall Tryz.prog 121 [.pv (.ptr [tc, tg, tj, tf, tp, .mp (eA made), .mp (iB sec)]), .pv (.sl n1 false (aA (L.flatMap (aQ rows 8))))] [] fun r h' => ∃ n2 L2, r = .own 0 /\ h' = [.sl (21, 1) false n2 (aA L2)] /\ L2 = cS rows L :=
   (zsh hk hT (zs4 hT) _ (zic hp hr) (by omega)).mono fun r h' ⟨h1, h2⟩ => ⟨_, _, h1, h2, rfl⟩
  refine (ACall.lend (ty := (21, 1)) (m := false) hord).mono ?_
  rintro _ _ ⟨n2, L2, rfl, rfl, rfl⟩
  exact ⟨(n2, _), ⟨rfl, rfl⟩, ⟨⟨rfl, rfl, rfl⟩, trivial⟩, n2, rfl, rfl⟩
end
end Go.Eng



namespace Go.Eng.Srt
open Go Go.Eng
section
variable {key : Int -> Int} (hk : ∀ x, 0 <= key x)
include hk
end
end Go.Eng.Srt
namespace Go.Eng.Rows
open Go Go.Eng Go.Eng.Trie Go.Eng.Srt
section
variable {rows : List Row}
def CSt.pre (Q : List Int) (st : CSt) : CSt := ⟨Q ++ st.P, st.s, st.M⟩
end
end Go.Eng.Rows



namespace Go.Eng.Rows
open Go Go.Eng Go.Eng.Trie Go.Eng.Srt
theorem zt0 {L : List Int} {j b : Nat} (h : j <= b) (hb : b <= L.length) : L.drop j = dD L j b ++ L.drop b := by
 have h1 : L = L.take b ++ L.drop b := (List.take_append_drop b L).symm
 have h2 : L.drop j = (L.take b ++ L.drop b).drop j := by rw [<- h1]
 rw [h2, List.drop_append_of_le_length (by rw [List.length_take]; omega)]; rfl
theorem zt1 {L : List Int} {a i : Nat} (h : a < i) (hi : i <= L.length) : dD L a i = L.getD a 0 :: dD L (a + 1) i := by
 unfold dD
 rw [List.drop_eq_getElem_cons (by rw [List.length_take]; omega), List.getElem_take]
 simp only [List.getD, List.getElem?_eq_getElem (show a < L.length by omega), Option.getD_some]
theorem drop_cons {L : List Int} {b : Nat} (h : b < L.length) : L.drop b = L.getD b 0 :: L.drop (b + 1) := by
 rw [List.drop_eq_getElem_cons h]
 simp only [List.getD, List.getElem?_eq_getElem h, Option.getD_some]
section
variable {rows : List Row}
end
end Go.Eng.Rows



namespace Go.Eng.Rows
open Go Go.Eng Go.Eng.Trie Go.Eng.Srt
section
variable (p : List Int -> Option (Nat × Nat)) (ls : List (List Int)) (s : Int)
end
section
variable {p : List Int -> Option (Nat × Nat)} {ls : List (List Int)} {s : Int}
end
section
variable (p : List Int -> Option (Nat × Nat)) (L : List Int)
end
def Inc (n : Nat) : Nat -> List (Nat × Nat) -> Prop
 | i, [] => i <= n
 | i, (a, b) :: ps => i <= a /\ a < b /\ Inc n b ps
theorem Inc.le {n : Nat} : ∀ {ps : List (Nat × Nat)} {i : Nat}, Inc n i ps -> i <= n
 | [], i, h => h
 | (a, b) :: ps, i, h => by have := h.2.2.le; have := h.1; have := h.2.1; omega
theorem Inc.len {n : Nat} : ∀ {ps : List (Nat × Nat)} {i : Nat}, Inc n i ps -> ps.length + i <= n
 | [], i, h => by have : i <= n := h; simpa using this
 | (a, b) :: ps, i, h => by have := h.2.2.len; have := h.1; have := h.2.1; rw [List.length_cons]; omega
section
variable {p : List Int -> Option (Nat × Nat)} {L : List Int}
end
end Go.Eng.Rows



namespace Go.Eng.Rows
open Go Go.Eng Go.Eng.Trie Go.Eng.Srt
def aJ (rows : List Row) (r : Int) : Int := if 44032 <= r /\ r <= 55203 then (if (r - 44032).tmod 28 = 0 then 12 else 13) else aB rows 4 r
def bQ (rows : List Row) (r : Int) : Int := if aB rows 6 r ≠ 0 then aB rows 6 r else if (aJ rows r = 4 ∨ aJ rows r = 5) /\ r ≠ 8204 then 3 else 0
def cK (b : Int) : Bool := decide (b = 3) || (decide (b = 1) || decide (b = 2))
def mD (a b : Int) : Bool :=
 if a = 9 then decide (b = 9) || (decide (b = 10) || (decide (b = 12) || decide (b = 13)))
 else if a = 12 ∨ a = 10 then decide (b = 10) || decide (b = 11)
 else if a = 13 ∨ a = 11 then decide (b = 11) else false
def gD (a b : Int) : Bool :=
 if a = 1 then decide (b = 2) else if a = 2 ∨ a = 3 then false
 else if b = 1 ∨ b = 2 ∨ b = 3 then false else if b = 4 ∨ b = 5 ∨ b = 8 then true
 else if a = 7 then true else mD a b
structure SSt where
 (some : Bool) (last pict conj : Int) (odd : Bool)
def dL (rows : List Row) (st : SSt) (r : Int) : SSt :=
 ⟨true, aJ rows r,
  if bP rows 5 r = true then 1 else if st.pict = 1 /\ aJ rows r = 4 then 1 else if st.pict = 1 /\ aJ rows r = 5 then 2 else 0,
  if bQ rows r = 2 then 1 else if st.conj ≠ 0 /\ bQ rows r = 1 then 2 else if st.conj ≠ 0 /\ bQ rows r = 3 then st.conj else 0,
  decide (aJ rows r = 6) && !st.odd⟩
def qP (rows : List Row) (st : SSt) (r : Int) : Bool :=
 !gD st.last (aJ rows r) && (!(decide (st.pict = 2) && bP rows 5 r) && (!(decide (st.conj = 2) && decide (bQ rows r = 2)) && !(st.odd && decide (aJ rows r = 6))))
def nQ (rows : List Row) (st : SSt) (r : Int) : Bool := !st.some || qP rows st r
def st0 : SSt := ⟨false, 0, 0, 0, false⟩
def aY (rows : List Row) (L : List Int) (a : Nat) : Nat -> SSt
 | 0 => st0
 | k + 1 => dL rows (aY rows L a k) (L.getD (a + k) 0)
def c8 (rows : List Row) (L : List Int) (i : Nat) : Bool := nQ rows (aY rows L 0 i) (L.getD i 0)
structure fA (rows : List Row) : Prop where
 pict : ∀ r, bP rows 5 r = true -> cK (aJ rows r) = false /\ aJ rows r ≠ 5
 conj : ∀ r, bQ rows r = 0 ∨ bQ rows r = 1 ∨ bQ rows r = 2 ∨ bQ rows r = 3
 cons : ∀ r, bQ rows r ≠ 0 -> cK (aJ rows r) = false
 join : ∀ r, bQ rows r = 1 ∨ bQ rows r = 3 -> aJ rows r = 4 ∨ aJ rows r = 5 ∨ aJ rows r = 8
theorem zt2 {a b : Int} (h : cK a = true ∨ cK b = true) (h2 : ¬(a = 1 /\ b = 2)) : gD a b = false := by
 unfold cK at h
 simp only [Bool.or_eq_true, decide_eq_true_eq] at h
 unfold gD
 by_cases h1 : a = 1
 ·rw [if_pos h1]; exact decide_eq_false fun h3 => h2 ⟨h1, h3⟩
 ·rw [if_neg h1]
  by_cases h3 : a = 2 ∨ a = 3
  ·rw [if_pos h3]
  ·rw [if_neg h3, if_pos (by omega)]
theorem zt3 {a b : Int} (h : cK a = false) (h2 : cK b = false) (h3 : b = 4 ∨ b = 5 ∨ b = 8) : gD a b = true := by
 unfold cK at h h2
 simp only [Bool.or_eq_false_iff, decide_eq_false_iff_not] at h h2
 unfold gD
 rw [if_neg h.2.1, if_neg (by omega), if_neg (by omega), if_pos h3]
section
variable {rows : List Row} {L : List Int}
theorem za8 {a k : Nat} : (aY rows L a (k + 1)).last = aJ rows (L.getD (a + k) 0) := rfl
theorem zt4 {a k : Nat} : (aY rows L a (k + 1)).some = true := rfl
theorem zi1 {a : Nat} (ht : fA rows) : ∀ k, (aY rows L a k).pict ≠ 0 -> cK (aY rows L a k).last = false
 | 0, h => absurd rfl h
 | k + 1, h => by
   rw [za8]
   by_cases h1 : bP rows 5 (L.getD (a + k) 0) = true
   ·exact (ht.pict _ h1).1
   ·have h' : (if (aY rows L a k).pict = 1 /\ aJ rows (L.getD (a + k) 0) = 4 then (1 : Int) else if (aY rows L a k).pict = 1 /\ aJ rows (L.getD (a + k) 0) = 5 then 2 else 0) ≠ 0 := by
     have h2 : (dL rows (aY rows L a k) (L.getD (a + k) 0)).pict ≠ 0 := h
     unfold dL at h2; simp only [if_neg h1] at h2; exact h2
    have : aJ rows (L.getD (a + k) 0) = 4 ∨ aJ rows (L.getD (a + k) 0) = 5 := by
     split at h'
     ·rename_i h3; exact .inl h3.2
     ·split at h'
      ·rename_i h3; exact .inr h3.2
      ·exact absurd rfl h'
    unfold cK
    rcases this with e | e <;> rw [e] <;> rfl
theorem zi2 {a : Nat} (ht : fA rows) : ∀ k, (aY rows L a k).conj ≠ 0 -> cK (aY rows L a k).last = false
 | 0, h => absurd rfl h
 | k + 1, h => by
   rw [za8]
   apply ht.cons
   intro h0
   apply h
   show (dL rows (aY rows L a k) (L.getD (a + k) 0)).conj = 0
   unfold dL
   simp only [h0]
   rw [if_neg (by decide), if_neg (fun h => absurd h.2 (by decide)), if_neg (fun h => absurd h.2 (by decide))]
theorem zi3 (k : Nat) : c8 rows L (k + 1) = qP rows (aY rows L 0 (k + 1)) (L.getD (k + 1) 0) := by
 unfold c8 nQ; rw [zt4]; rfl
theorem zi4 (ht : fA rows) {a : Nat} (hb : c8 rows L a = true) : ∀ k, aY rows L a (k + 1) = aY rows L 0 (a + (k + 1))
 | 0 => by
   cases a with
   | zero => rfl
   | succ a =>
     rw [zi3] at hb
     show dL rows st0 (L.getD (a + 1 + 0) 0) = dL rows (aY rows L 0 (a + 1)) (L.getD (0 + (a + 1)) 0)
     rw [show a + 1 + 0 = a + 1 by omega, show 0 + (a + 1) = a + 1 by omega]
     have hp := zi1 (a := 0) (L := L) ht (a + 1)
     have hc := zi2 (a := 0) (L := L) ht (a + 1)
     generalize aY rows L 0 (a + 1) = st at *
     generalize L.getD (a + 1) 0 = r at *
     unfold qP at hb
     simp only [Bool.and_eq_true, Bool.not_eq_true', Bool.and_eq_false_iff] at hb
     obtain ⟨h1, h2, h3, h4⟩ := hb
     have hs : aJ rows r = 4 ∨ aJ rows r = 5 ∨ aJ rows r = 8 -> cK st.last = true := fun h => by
      cases hh : cK st.last with
      | true => rfl
      | false => rw [zt3 hh (by unfold cK; rcases h with e | e | e <;> rw [e] <;> rfl) h] at h1; cases h1
     unfold dL st0
     have e1 : (if bP rows 5 r = true then (1 : Int) else if (0 : Int) = 1 /\ aJ rows r = 4 then 1 else if (0 : Int) = 1 /\ aJ rows r = 5 then 2 else 0) = (if bP rows 5 r = true then 1 else if st.pict = 1 /\ aJ rows r = 4 then 1 else if st.pict = 1 /\ aJ rows r = 5 then 2 else 0) := by
      by_cases h5 : bP rows 5 r = true
      ·rw [if_pos h5, if_pos h5]
      ·rw [if_neg h5, if_neg h5, if_neg (by omega), if_neg (by omega)]
       have : ∀ b, (b = 4 ∨ b = 5 ∨ b = 8) -> ¬(st.pict = 1 /\ aJ rows r = b) := fun b hb h => by
        have := hs (by rw [h.2]; exact hb)
        rw [hp (by omega)] at this; cases this
       rw [if_neg (this 4 (by omega)), if_neg (this 5 (by omega))]
     have e2 : (if bQ rows r = 2 then (1 : Int) else if (0 : Int) ≠ 0 /\ bQ rows r = 1 then 2 else if (0 : Int) ≠ 0 /\ bQ rows r = 3 then 0 else 0) = (if bQ rows r = 2 then 1 else if st.conj ≠ 0 /\ bQ rows r = 1 then 2 else if st.conj ≠ 0 /\ bQ rows r = 3 then st.conj else 0) := by
      by_cases h5 : bQ rows r = 2
      ·rw [if_pos h5, if_pos h5]
      ·rw [if_neg h5, if_neg h5, if_neg (by omega), if_neg (by omega)]
       have : ∀ c, (c = 1 ∨ c = 3) -> ¬(st.conj ≠ 0 /\ bQ rows r = c) := fun c hc2 h => by
        have := hs (ht.join r (by rw [h.2]; exact hc2))
        rw [hc h.1] at this; cases this
       rw [if_neg (this 1 (by omega)), if_neg (this 3 (by omega))]
     have e3 : (decide (aJ rows r = 6) && !false) = (decide (aJ rows r = 6) && !st.odd) := by
      rcases h4 with h4 | h4
      ·rw [h4]
      ·rw [h4]; rfl
     dsimp only at e1 e2 e3 ⊢
     rw [e1, e2, e3]
 | k + 1 => by
   show dL rows (aY rows L a (k + 1)) (L.getD (a + (k + 1)) 0) = dL rows (aY rows L 0 (a + (k + 1))) (L.getD (0 + (a + (k + 1))) 0)
   rw [zi4 ht hb k, Nat.zero_add]
theorem zt5 (ht : fA rows) {a : Nat} (hb : c8 rows L a = true) (k : Nat) : nQ rows (aY rows L a (k + 1)) (L.getD (a + (k + 1)) 0) = c8 rows L (a + (k + 1)) := by
 rw [zi4 ht hb k]; rfl
end
def fI (rows : List Row) (L : List Int) : Nat -> Nat -> Nat
 | 0, i => i
 | k + 1, i => if c8 rows L i = true then i else fI rows L k (i + 1)
def bX (rows : List Row) (L : List Int) (a : Nat) : Nat := fI rows L (L.length - (a + 1)) (a + 1)
theorem zi5 (rows : List Row) (L : List Int) : ∀ k i, i <= fI rows L k i /\ fI rows L k i <= i + k /\ (fI rows L k i = i + k ∨ c8 rows L (fI rows L k i) = true)
 | 0, i => ⟨Nat.le_refl _, Nat.le_refl _, .inl rfl⟩
 | k + 1, i => by
   rw [fI]
   split
   ·rename_i h; exact ⟨Nat.le_refl _, by omega, .inr h⟩
   ·obtain ⟨h1, h2, h3⟩ := zi5 rows L k (i + 1)
    exact ⟨by omega, by omega, h3.imp (fun e => by omega) id⟩
def jE (rows : List Row) (L : List Int) : Nat -> Nat -> List (List Int)
 | 0, _ => []
 | k + 1, i => if i < L.length then dD L i (bX rows L i) :: jE rows L k (bX rows L i) else []
def bF (rows : List Row) (L : List Int) (i : Nat) : List (List Int) := jE rows L (L.length + 1) i
theorem nR {rows : List Row} {L : List Int} {i : Nat} (h : i < L.length) : i < bX rows L i /\ bX rows L i <= L.length /\ (bX rows L i = L.length ∨ c8 rows L (bX rows L i) = true) := by
 obtain ⟨h1, h2, h3⟩ := zi5 rows L (L.length - (i + 1)) (i + 1)
 unfold bX
 exact ⟨by omega, by omega, h3.imp (fun e => by omega) id⟩
theorem zi6 (rows : List Row) (L : List Int) : ∀ k i, L.length + 1 <= k + i -> jE rows L k i = jE rows L (k + 1) i
 | 0, i, h => by rw [jE, jE, if_neg (by omega)]
 | k + 1, i, h => by
   rw [jE, jE]
   by_cases hi : i < L.length
   ·rw [if_pos hi, if_pos hi, zi6 rows L k _ (by have := (nR (rows := rows) hi).1; omega)]
   ·rw [if_neg hi, if_neg hi]
theorem mE {rows : List Row} {L : List Int} {i : Nat} (h : L.length <= i) : bF rows L i = [] := by unfold bF; rw [jE, if_neg (by omega)]
theorem tX {rows : List Row} {L : List Int} {i : Nat} (h : i < L.length) : bF rows L i = dD L i (bX rows L i) :: bF rows L (bX rows L i) := by
 have := (nR (rows := rows) h).1
 unfold bF
 rw [<- zi6 rows L L.length (bX rows L i) (by omega), jE, if_pos h]
section
variable {rows : List Row} {L : List Int}
theorem zt6 (ht : fA rows) (k : Nat) : c8 rows L (k + 1) =
 (if aJ rows (L.getD k 0) = 1 /\ aJ rows (L.getD (k + 1) 0) = 2 then false
  else if cK (aJ rows (L.getD k 0)) = true ∨ cK (aJ rows (L.getD (k + 1) 0)) = true then true
  else if mD (aJ rows (L.getD k 0)) (aJ rows (L.getD (k + 1) 0)) = true ∨ (aJ rows (L.getD (k + 1) 0) = 4 ∨ aJ rows (L.getD (k + 1) 0) = 5 ∨ aJ rows (L.getD (k + 1) 0) = 8 ∨ aJ rows (L.getD k 0) = 7) then false
  else !(decide (bQ rows (L.getD (k + 1) 0) = 2) && decide ((aY rows L 0 (k + 1)).conj = 2)) && (!(bP rows 5 (L.getD (k + 1) 0) && decide ((aY rows L 0 (k + 1)).pict = 2)) && !(decide (aJ rows (L.getD (k + 1) 0) = 6) && (aY rows L 0 (k + 1)).odd))) := by
 rw [zi3]
 have hl : (aY rows L 0 (k + 1)).last = aJ rows (L.getD k 0) := by rw [za8, Nat.zero_add]
 have hp := zi1 (a := 0) (L := L) ht (k + 1)
 have hc := zi2 (a := 0) (L := L) ht (k + 1)
 have ho : (aY rows L 0 (k + 1)).odd = true -> aJ rows (L.getD k 0) = 6 := fun h => by
  have h' : (decide (aJ rows (L.getD (0 + k) 0) = 6) && !(aY rows L 0 k).odd) = true := h
  simp only [Bool.and_eq_true, decide_eq_true_eq, Nat.zero_add] at h'; exact h'.1
 have h5 := ht.pict (L.getD (k + 1) 0)
 have h6 := ht.cons (L.getD (k + 1) 0)
 rw [hl] at hp hc
 generalize aY rows L 0 (k + 1) = st at *
 generalize L.getD (k + 1) 0 = r at *
 generalize L.getD k 0 = q at *
 unfold qP
 rw [hl]
 have hhard : cK (aJ rows q) = true ∨ cK (aJ rows r) = true -> (!(decide (st.pict = 2) && bP rows 5 r) && (!(decide (st.conj = 2) && decide (bQ rows r = 2)) && !(st.odd && decide (aJ rows r = 6)))) = true := fun h => by
  have g1 : (decide (st.pict = 2) && bP rows 5 r) = false := by
   rw [Bool.and_eq_false_iff, decide_eq_false_iff_not]
   rcases h with h | h
   ·exact .inl fun e => by rw [hp (by omega)] at h; cases h
   ·right
    cases ht5 : bP rows 5 r with
    | false => rfl
    | true => rw [(h5 ht5).1] at h; cases h
  have g2 : (decide (st.conj = 2) && decide (bQ rows r = 2)) = false := by
   rw [Bool.and_eq_false_iff, decide_eq_false_iff_not, decide_eq_false_iff_not]
   rcases h with h | h
   ·exact .inl fun e => by rw [hc (by omega)] at h; cases h
   ·exact .inr fun e => by rw [h6 (by omega)] at h; cases h
  have g3 : (st.odd && decide (aJ rows r = 6)) = false := by
   rw [Bool.and_eq_false_iff, decide_eq_false_iff_not]
   rcases h with h | h
   ·left
    cases hod : st.odd with
    | false => rfl
    | true => rw [ho hod] at h; cases h
   ·exact .inr fun e => by rw [e] at h; cases h
  rw [g1, g2, g3]; rfl
 by_cases c1 : aJ rows q = 1 /\ aJ rows r = 2
 ·rw [if_pos c1]
  have : gD (aJ rows q) (aJ rows r) = true := by rw [c1.1, c1.2]; rfl
  rw [this]; rfl
 rw [if_neg c1]
 by_cases c2 : cK (aJ rows q) = true ∨ cK (aJ rows r) = true
 ·rw [if_pos c2, hhard c2, zt2 c2 c1]; rfl
 rw [if_neg c2]
 have c3 : cK (aJ rows q) = false /\ cK (aJ rows r) = false := by
  constructor
  ·cases h : cK (aJ rows q) with
   | false => rfl
   | true => exact absurd (.inl h) c2
  ·cases h : cK (aJ rows r) with
   | false => rfl
   | true => exact absurd (.inr h) c2
 have hst : gD (aJ rows q) (aJ rows r) = true ↔ (mD (aJ rows q) (aJ rows r) = true ∨ (aJ rows r = 4 ∨ aJ rows r = 5 ∨ aJ rows r = 8 ∨ aJ rows q = 7)) := by
  obtain ⟨q1, q2⟩ := c3
  generalize aJ rows q = a at *
  generalize aJ rows r = b at *
  unfold cK at q1 q2
  simp only [Bool.or_eq_false_iff, decide_eq_false_iff_not] at q1 q2
  unfold gD
  rw [if_neg q1.2.1, if_neg (by omega), if_neg (by omega)]
  by_cases d1 : b = 4 ∨ b = 5 ∨ b = 8
  ·rw [if_pos d1]; exact ⟨fun _ => .inr (by omega), fun _ => rfl⟩
  ·rw [if_neg d1]
   by_cases d2 : a = 7
   ·rw [if_pos d2]; exact ⟨fun _ => .inr (by omega), fun _ => rfl⟩
   ·rw [if_neg d2]; exact ⟨fun h => .inl h, fun h => h.resolve_right (by omega)⟩
 by_cases c4 : mD (aJ rows q) (aJ rows r) = true ∨ (aJ rows r = 4 ∨ aJ rows r = 5 ∨ aJ rows r = 8 ∨ aJ rows q = 7)
 ·rw [if_pos c4, hst.2 c4]; rfl
 ·rw [if_neg c4]
  have : gD (aJ rows q) (aJ rows r) = false := by
   cases h : gD (aJ rows q) (aJ rows r) with
   | false => rfl
   | true => exact absurd (hst.1 h) c4
  rw [this]
  simp only [Bool.not_false, Bool.true_and]
  rw [Bool.and_comm (decide (bQ rows r = 2)), Bool.and_comm (bP rows 5 r), Bool.and_comm (decide (aJ rows r = 6))]
  cases (decide (st.conj = 2) && decide (bQ rows r = 2)) <;> cases (decide (st.pict = 2) && bP rows 5 r) <;> rfl
theorem zt7 (k : Nat) : (aY rows L 0 (k + 1)).conj = if bQ rows (L.getD k 0) = 2 then 1 else if (aY rows L 0 k).conj ≠ 0 /\ bQ rows (L.getD k 0) = 1 then 2 else if (aY rows L 0 k).conj ≠ 0 /\ bQ rows (L.getD k 0) = 3 then (aY rows L 0 k).conj else 0 := by
 show (dL rows (aY rows L 0 k) (L.getD (0 + k) 0)).conj = _
 rw [Nat.zero_add]; rfl
theorem zi7 (k : Nat) : (aY rows L 0 (k + 1)).pict = if bP rows 5 (L.getD k 0) = true then 1 else if (aY rows L 0 k).pict = 1 /\ aJ rows (L.getD k 0) = 4 then 1 else if (aY rows L 0 k).pict = 1 /\ aJ rows (L.getD k 0) = 5 then 2 else 0 := by
 show (dL rows (aY rows L 0 k) (L.getD (0 + k) 0)).pict = _
 rw [Nat.zero_add]; rfl
theorem zt8 (k : Nat) : (aY rows L 0 (k + 1)).odd = (decide (aJ rows (L.getD k 0) = 6) && !(aY rows L 0 k).odd) := by
 show (dL rows (aY rows L 0 k) (L.getD (0 + k) 0)).odd = _
 rw [Nat.zero_add]; rfl
end
end Go.Eng.Rows



namespace Go.Eng.Rows
open Go Go.Eng Go.Eng.Trie Go.Eng.Srt
def tY (rows : List Row) (hard : List Int) (lo hi : Int) : Bool := rows.all fun y => !(decide (y.kind = 4) && hard.contains y.a) || (decide (y.to < lo) || decide (hi < y.fr))
theorem zi8 {rows : List Row} {hard : List Int} {lo hi r : Int} (h : tY rows hard lo hi = true) (h0 : hard.contains 0 = false) (h1 : hard.contains 12 = false) (h2 : hard.contains 13 = false) (hr : lo <= r /\ r <= hi) : hard.contains (aJ rows r) = false := by
 unfold aJ
 split
 ·split <;> assumption
 ·unfold aB
  cases hf : bM rows 4 r with
  | none => exact h0
  | some p =>
    obtain ⟨x, hx, hk, ha, _, h3, h4, _⟩ := i7 hf
    dsimp only
    rw [<- ha]
    have := List.all_eq_true.1 h x hx
    simp only [Bool.or_eq_true, Bool.not_eq_true', Bool.and_eq_false_iff, decide_eq_true_eq, decide_eq_false_iff_not] at this
    rcases this with (h5 | h5) | h5 | h5
    ·exact absurd hk h5
    ·exact h5
    ·omega
    ·omega
def zt9 (rows : List Row) : Bool := rows.all fun x =>
 (!(decide (x.kind = 5) && decide (x.a = 1)) || tY rows [1, 2, 3, 5] x.fr x.to) &&
 (!decide (x.kind = 6) || (tY rows [1, 2, 3] x.fr x.to && ((decide (0 <= x.a) && decide (x.a <= 2)) && (!decide (x.a = 1) || (decide (x.fr = x.to) && (decide (aJ rows x.fr = 4) || (decide (aJ rows x.fr = 5) || decide (aJ rows x.fr = 8))))))))
theorem zua {b : Int} (h : ([1, 2, 3] : List Int).contains b = false) : cK b = false := by
 simp only [List.contains_cons, List.contains_nil, Bool.or_false, Bool.or_eq_false_iff, beq_eq_false_iff_ne, ne_eq] at h
 unfold cK
 simp only [Bool.or_eq_false_iff, decide_eq_false_iff_not]; omega
theorem zub {rows : List Row} (h : zt9 rows = true) : fA rows := by
 have hall := List.all_eq_true.1 h
 have h6 : ∀ r, aB rows 6 r ≠ 0 -> ∃ x ∈ rows, x.kind = 6 /\ x.a = aB rows 6 r /\ x.fr <= r /\ r <= x.to := fun r hr => by
  unfold aB at hr ⊢
  cases hf : bM rows 6 r with
  | none => rw [hf] at hr; exact absurd rfl hr
  | some p =>
    obtain ⟨x, hx, hk, ha, _, h3, h4, _⟩ := i7 hf
    exact ⟨x, hx, hk, ha, h3, h4⟩
 have g6 : ∀ x ∈ rows, x.kind = 6 -> tY rows [1, 2, 3] x.fr x.to = true /\ (0 <= x.a /\ x.a <= 2) /\ (x.a ≠ 1 ∨ (x.fr = x.to /\ (aJ rows x.fr = 4 ∨ aJ rows x.fr = 5 ∨ aJ rows x.fr = 8))) := fun x hx hk => by
  have := hall x hx
  simp only [Bool.and_eq_true, Bool.or_eq_true, Bool.not_eq_true', decide_eq_true_eq, decide_eq_false_iff_not] at this
  rcases this.2 with h | h
  ·exact absurd hk h
  ·exact h
 refine ⟨fun r hr => ?_, fun r => ?_, fun r hr => ?_, fun r hr => ?_⟩
 ·unfold bP at hr
  cases hf : bM rows 5 r with
  | none => rw [hf] at hr; cases hr
  | some p =>
    rw [hf] at hr
    obtain ⟨x, hx, hk, ha, _, h3, h4, _⟩ := i7 hf
    have := hall x hx
    simp only [Bool.and_eq_true, Bool.or_eq_true, Bool.not_eq_true', Bool.and_eq_false_iff, decide_eq_false_iff_not] at this
    rcases this.1 with (h5 | h5) | h5
    ·exact absurd hk h5
    ·exact absurd (ha.trans (of_decide_eq_true hr)) h5
    ·have := zi8 h5 (by decide) (by decide) (by decide) ⟨h3, h4⟩
     simp only [List.contains_cons, List.contains_nil, Bool.or_false, Bool.or_eq_false_iff, beq_eq_false_iff_ne, ne_eq] at this
     refine ⟨?_, this.2.2.2⟩
     unfold cK
     simp only [Bool.or_eq_false_iff, decide_eq_false_iff_not]; exact ⟨this.2.2.1, this.1, this.2.1⟩
 ·unfold bQ
  split
  ·rename_i hn
   obtain ⟨x, hx, hk, ha, _, _⟩ := h6 r hn
   have := (g6 x hx hk).2.1
   omega
  ·split
   ·exact .inr (.inr (.inr rfl))
   ·exact .inl rfl
 ·unfold bQ at hr
  split at hr
  ·rename_i hn
   obtain ⟨x, hx, hk, ha, h3, h4⟩ := h6 r hn
   exact zua (zi8 (g6 x hx hk).1 (by decide) (by decide) (by decide) ⟨h3, h4⟩)
  ·split at hr
   ·rename_i h4
    unfold cK
    rcases h4.1 with e | e <;> rw [e] <;> rfl
   ·exact absurd rfl hr
 ·unfold bQ at hr
  split at hr
  ·rename_i hn
   obtain ⟨x, hx, hk, ha, h3, h4⟩ := h6 r hn
   obtain ⟨_, g2, g3⟩ := g6 x hx hk
   have h1 : x.a = 1 := by omega
   obtain ⟨g4, g5⟩ := g3.resolve_left (fun h => h h1)
   rw [show r = x.fr by omega]; exact g5
  ·split at hr
   ·rename_i h4
    rcases h4.1 with e | e
    ·exact .inl e
    ·exact .inr (.inl e)
   ·omega
end Go.Eng.Rows
namespace Go.Eng
open Go.Eng.Rows
theorem qQ : fA tab := zub (by kernel_rfl)
end Go.Eng



namespace Go.Eng.Srt
open Go Go.Eng
theorem zuc {key : Int -> Int} {a b : List Int} (h : Eqv key a b) : a.filter (fun r => decide (key r = 0)) = b.filter (fun r => decide (key r = 0)) := by
 induction h with
 | refl => rfl
 | swap u v w x y hx hy hxy _ ih =>
   rw [<- ih]
   simp [List.filter_append, List.filter_cons, hx, hy]
end Go.Eng.Srt
namespace Go.Eng.Rows
open Go Go.Eng Go.Eng.Trie Go.Eng.Srt
def bH (rows : List Row) (l : List Int) : List Int := (cS rows l).filter fun r => decide (aB rows 1 r = 0)
section
variable {rows : List Row}
theorem tZ (hk : cY rows) (l : List Int) : bH rows l = (l.flatMap (aQ rows 8)).filter fun r => decide (aB rows 1 r = 0) := (zuc (nN hk _)).symm
theorem zud (hk : cY rows) (a b : List Int) : bH rows (a ++ b) = bH rows a ++ bH rows b := by
 rw [tZ hk, tZ hk, tZ hk, List.flatMap_append, List.filter_append]
theorem zue (hk : cY rows) : bH rows [] = [] := by rw [tZ hk]; rfl
theorem zi9 (hk : cY rows) : ∀ C : List (List Int), bH rows C.flatten = (C.map (bH rows)).flatten
 | [] => zue hk
 | c :: C => by rw [List.flatten_cons, zud hk, List.map_cons, List.flatten_cons, zi9 hk C]
theorem zuf (ht : TabC rows) (l : List Int) : bH rows (cS rows l) = bH rows l := by
 unfold bH; rw [zst ht.cls ht.closed]
theorem zug (ht : TabC rows) (l : List Int) : bH rows (lC rows l) = bH rows l := by
 unfold bH; rw [zs9 ht]
theorem qR (hk : cY rows) (l : List Int) : (bH rows l).length <= 768 * l.length := Nat.le_trans (List.length_filter_le _ _) (qM hk l)
def gE (rows : List Row) (c : List Int) : List Int := if bH rows c = [] then c else bH rows c
end
def bJ (C : List (List Int)) (i : Nat) : Nat := (C.take i).flatten.length
theorem t6 {C : List (List Int)} {i : Nat} (h : i < C.length) : bJ C (i + 1) = bJ C i + (C.getD i []).length := by
 unfold bJ
 rw [<- List.take_append_getElem h, List.flatten_append, List.length_append]
 simp [List.getD, h]
theorem zuh (C : List (List Int)) : bJ C 0 = 0 := by simp [bJ]
theorem qS (C : List (List Int)) (i : Nat) : bJ C i <= C.flatten.length := by
 have := congrArg (List.length ∘ List.flatten) (List.take_append_drop i C)
 simp only [Function.comp, List.flatten_append, List.length_append] at this
 unfold bJ; omega
theorem zui {C : List (List Int)} {i : Nat} (h : C.length <= i) : bJ C i = C.flatten.length := by unfold bJ; rw [List.take_of_length_le h]
theorem zuj (C : List (List Int)) (i : Nat) : C.flatten.take (bJ C i) = (C.take i).flatten := by
 have : C.flatten = (C.take i).flatten ++ (C.drop i).flatten := by rw [<- List.flatten_append, List.take_append_drop]
 rw [this]; exact List.take_left'  rfl
theorem zja (C : List (List Int)) {i k : Nat} (h : i <= k) : dD C.flatten (bJ C i) (bJ C k) = ((C.take k).drop i).flatten := by
 unfold dD
 rw [zuj]
 have e : (C.take k).flatten = (C.take i).flatten ++ ((C.take k).drop i).flatten := by
  rw [<- List.flatten_append]; congr 1
  have := List.take_append_drop i (C.take k)
  rw [List.take_take, Nat.min_eq_left h] at this; exact this.symm
 rw [e]; exact List.drop_left' rfl
section
variable (ks : List (List Int))
def inK (rest : List Int) (k : Nat) : Nat -> Option Nat
 | 0 => none
 | n + 1 => if ks.getD k [] = rest.take (ks.getD k []).length then
  (if rest.length = (ks.getD k []).length then some k else inK (rest.drop (ks.getD k []).length) (k + 1) n) else none
def fJ (want key : List Int) (k : Nat) : Nat -> Option Nat
 | 0 => none
 | n + 1 => if key ++ ks.getD k [] = want then some k else fJ want (key ++ ks.getD k []) (k + 1) n
def fB (want : List Int) (i : Nat) : Nat -> Option (Nat × Nat)
 | 0 => none
 | n + 1 => match fJ ks want [] i (n + 1) with
   | some k => some (i, k)
   | none => fB want (i + 1) n
end
section
variable {ks : List (List Int)} {want : List Int}
theorem zjb : ∀ {n k : Nat} {key : List Int}, ¬key <+: want -> fJ ks want key k n = none
 | 0, _, _, _ => rfl
 | n + 1, k, key, h => by
   rw [fJ, if_neg fun e => h ⟨_, e⟩]
   exact zjb fun h2 => h (List.IsPrefix.trans ⟨_, rfl⟩ h2)
theorem zjc : ∀ {n k : Nat} {key rest : List Int}, rest ≠ [] -> key ++ rest = want -> inK ks rest k n = fJ ks want key k n
 | 0, _, _, _, _, _ => rfl
 | n + 1, k, key, rest, h0, h => by
   rw [inK, fJ]
   by_cases hp : ks.getD k [] = rest.take (ks.getD k []).length
   ·rw [if_pos hp]
    have e : rest = ks.getD k [] ++ rest.drop (ks.getD k []).length := by
     conv => lhs; rw [<- List.take_append_drop (ks.getD k []).length rest, <- hp]
    have el : rest.length = (ks.getD k []).length + (rest.drop (ks.getD k []).length).length := by
     conv => lhs; rw [e, List.length_append]
    by_cases hl : rest.length = (ks.getD k []).length
    ·rw [if_pos hl, if_pos]
     rw [<- h]
     have : rest.drop (ks.getD k []).length = [] := List.eq_nil_of_length_eq_zero (by omega)
     rw [this, List.append_nil] at e
     rw [<- e]
    ·rw [if_neg hl, if_neg]
     ·exact zjc (fun e2 => by rw [e2] at el; simp only [List.length_nil] at el; omega) (by rw [List.append_assoc, <- e, h])
     ·intro e2
      have := congrArg List.length e2
      rw [<- h, List.length_append, List.length_append] at this
      omega
   ·rw [if_neg hp]
    have hn : ¬ks.getD k [] <+: rest := fun ⟨t, e⟩ => hp (by rw [<- e]; exact (List.take_left' rfl).symm)
    have hn2 : ¬key ++ ks.getD k [] <+: want := fun ⟨t, e⟩ => by
     rw [<- h, List.append_assoc] at e
     exact hn ⟨t, List.append_cancel_left e⟩
    rw [if_neg fun e => hn2 ⟨[], by rw [List.append_nil]; exact e⟩]
    exact (zjb hn2).symm
def j9 (ks : List (List Int)) (k : Nat) : Nat := (ks.drop k).flatten.length
theorem za9 {k : Nat} (h : k < ks.length) : j9 ks k = (ks.getD k []).length + j9 ks (k + 1) := by
 unfold j9
 rw [List.drop_eq_getElem_cons h, List.flatten_cons, List.length_append]
 simp [List.getD, h]
theorem zjd : ∀ {n k : Nat} {key : List Int}, k + n = ks.length -> key.length + j9 ks k < want.length -> fJ ks want key k n = none
 | 0, _, _, _, _ => rfl
 | n + 1, k, key, h, hl => by
   have hs := za9 (ks := ks) (k := k) (by omega)
   rw [fJ, if_neg]
   ·exact zjd (by omega) (by rw [List.length_append]; omega)
   ·intro e
    have := congrArg List.length e
    rw [List.length_append] at this; omega
theorem zje : ∀ {n i : Nat}, i + n = ks.length -> j9 ks i < want.length -> fB ks want i n = none
 | 0, _, _, _ => rfl
 | n + 1, i, h, hl => by
   rw [fB, zjd (by omega) (by simpa using hl)]
   dsimp only
   have := za9 (ks := ks) (k := i) (by omega)
   exact zje (by omega) (by omega)
theorem zjf : ∀ {n k : Nat} {key : List Int} {m : Nat}, k + n = ks.length -> fJ ks want key k n = some m -> k <= m /\ m < ks.length /\ key ++ ((ks.take (m + 1)).drop k).flatten = want
 | 0, _, _, _, _, h => by cases h
 | n + 1, k, key, m, hk, h => by
   rw [fJ] at h
   have hd : ∀ j, k < j -> (ks.take j).drop k = ks.getD k [] :: (ks.take j).drop (k + 1) := fun j hj => by
    have hl : k < (ks.take j).length := by rw [List.length_take]; omega
    rw [List.drop_eq_getElem_cons hl]
    simp [List.getD, show k < ks.length by omega]
   split at h
   ·rename_i he
    cases h
    refine ⟨Nat.le_refl _, by omega, ?_⟩
    rw [hd _ (by omega), List.drop_eq_nil_of_le (by rw [List.length_take]; omega), List.flatten_cons]
    simpa using he
   ·obtain ⟨h1, h2, h3⟩ := zjf (by omega) h
    refine ⟨by omega, h2, ?_⟩
    rw [hd _ (by omega), List.flatten_cons, <- List.append_assoc]; exact h3
theorem zjg : ∀ {n i a m : Nat}, i + n = ks.length -> fB ks want i n = some (a, m) -> a <= m /\ m < ks.length /\ ((ks.take (m + 1)).drop a).flatten = want
 | 0, _, _, _, _, h => by cases h
 | n + 1, i, a, m, hk, h => by
   rw [fB] at h
   cases hr : fJ ks want [] i (n + 1) with
   | some k =>
     rw [hr] at h; cases h
     have := zjf hk hr
     exact ⟨this.1, this.2.1, by simpa using this.2.2⟩
   | none => rw [hr] at h; exact zjg (by omega) h
end
def gG (rows : List Row) (L P : List Int) : Option (Nat × Nat) :=
 if bH rows P = [] then some (0, 0) else (fB ((bF rows L 0).map (bH rows)) (bH rows P) 0 (bF rows L 0).length).map fun p => (bJ (bF rows L 0) p.1, bJ (bF rows L 0) (p.2 + 1))
section
variable {rows : List Row} {L : List Int}
theorem zjh : ∀ (n i : Nat), L.length - i <= n -> (bF rows L i).flatten = L.drop i
 | 0, i, h => by rw [mE (by omega), List.drop_eq_nil_of_le (by omega)]; rfl
 | n + 1, i, h => by
   by_cases hi : i < L.length
   ·obtain ⟨h1, h2, _⟩ := nR (rows := rows) hi
    rw [tX hi, List.flatten_cons, zjh n _ (by omega), zt0 (j := i) (b := bX rows L i) (by omega) h2]
   ·rw [mE (by omega), List.drop_eq_nil_of_le (by omega)]; rfl
theorem mF (rows : List Row) (L : List Int) : (bF rows L 0).flatten = L := by rw [zjh L.length 0 (by omega)]; rfl
theorem zba : ∀ (n i : Nat), L.length - i <= n -> ∀ c ∈ bF rows L i, c ≠ []
 | 0, i, h, c, hc => by rw [mE (by omega)] at hc; cases hc
 | n + 1, i, h, c, hc => by
   by_cases hi : i < L.length
   ·obtain ⟨h1, h2, _⟩ := nR (rows := rows) hi
    rw [tX hi] at hc
    rcases List.mem_cons.1 hc with rfl | hc
    ·rw [zt1 h1 h2]; exact List.cons_ne_nil _ _
    ·exact zba n _ (by omega) c hc
   ·rw [mE (by omega)] at hc; cases hc
theorem zji : ∀ (n i k : Nat), L.length - i <= n -> i <= L.length -> (i = L.length ∨ c8 rows L i = true) -> (i + bJ (bF rows L i) k = L.length ∨ c8 rows L (i + bJ (bF rows L i) k) = true)
 | 0, i, k, h, h1, h2 => by rw [mE (by omega)]; simpa [bJ] using h2
 | n + 1, i, k, h, h1, h2 => by
   by_cases hi : i < L.length
   ·obtain ⟨g1, g2, g3⟩ := nR (rows := rows) hi
    rw [tX hi]
    cases k with
    | zero => rw [zuh]; exact h2
    | succ k =>
      have : bJ (dD L i (bX rows L i) :: bF rows L (bX rows L i)) (k + 1) = (bX rows L i - i) + bJ (bF rows L (bX rows L i)) k := by
       unfold bJ
       rw [List.take_succ_cons, List.flatten_cons, List.length_append]
       congr 1
       unfold dD; rw [List.length_drop, List.length_take]; omega
      rw [this, show i + (bX rows L i - i + bJ (bF rows L (bX rows L i)) k) = bX rows L i + bJ (bF rows L (bX rows L i)) k by omega]
      exact zji n _ k (by omega) g2 g3
   ·rw [mE (by omega)]; simpa [bJ] using h2
theorem zjj (k : Nat) : bJ (bF rows L 0) k = L.length ∨ c8 rows L (bJ (bF rows L 0) k) = true := by
 have := zji (rows := rows) (L := L) L.length 0 k (by omega) (by omega) (.inr rfl)
 simpa using this
theorem zuk (hk : cY rows) {P : List Int} {a b : Nat} (hP : bH rows P ≠ []) (h : gG rows L P = some (a, b)) :
 a < b /\ b <= L.length /\ (a = L.length ∨ c8 rows L a = true) /\ (b = L.length ∨ c8 rows L b = true) /\ bH rows (dD L a b) = bH rows P := by
 unfold gG at h
 rw [if_neg hP] at h
 cases ho : fB ((bF rows L 0).map (bH rows)) (bH rows P) 0 (bF rows L 0).length with
 | none => rw [ho] at h; cases h
 | some p =>
   obtain ⟨i, m⟩ := p
   rw [ho] at h; cases h
   obtain ⟨h1, h2, h3⟩ := zjg (by rw [List.length_map]; omega) ho
   rw [List.length_map] at h2
   have hlt : bJ (bF rows L 0) i < bJ (bF rows L 0) (m + 1) := by
    have hmono : ∀ j, bJ (bF rows L 0) i <= bJ (bF rows L 0) (i + j) := fun j => by
     induction j with
     | zero => exact Nat.le_refl _
     | succ j ih =>
       by_cases hj : i + j < (bF rows L 0).length
       ·have := t6 hj
        rw [show i + (j + 1) = i + j + 1 by omega]; omega
       ·rw [zui (i := i + (j + 1)) (by omega)]; exact qS _ _
    have h4 := hmono (m - i)
    rw [show i + (m - i) = m by omega] at h4
    have h5 := t6 h2
    have h6 : (bF rows L 0).getD m [] ≠ [] := by
     rw [show (bF rows L 0).getD m [] = (bF rows L 0)[m] by simp [List.getD, h2]]
     exact zba L.length 0 (by omega) _ (List.getElem_mem h2)
    have := List.length_pos_iff.2 h6
    omega
   refine ⟨hlt, ?_, zjj _, zjj _, ?_⟩
   ·have := qS (bF rows L 0) (m + 1)
    rwa [mF] at this
   ·have := zja (bF rows L 0) (i := i) (k := m + 1) (by omega)
    rw [mF] at this
    rw [this, zi9 hk, List.map_drop, List.map_take]
    exact h3
theorem zul {P Q : List Int} (h : bH rows P = bH rows Q) : gG rows L P = gG rows L Q := by unfold gG; rw [h]
end
end Go.Eng.Rows



namespace Go.Eng
open Go Go.Proofs
section
variable (tc tg tj tf tp : PV) (M S : List (PV × PV)) (r : Int)
def zjk (R : PV -> Prop) : Prop :=
 if (decide (r >= 44032) && decide (r <= 55203) && (i32.wrap (r - 44032)).tmod (28 : Int) == 0) = true then R (Z6 12) else if (decide (r >= 44032) && decide (r <= 55203)) = true then R (Z6 13) else (∃ ps, some tg = some
 (PV.ptr ps) /\ PCall Tryz.prog 122 [PV.ptr ps, Z6 (i64.wrap r)] fun v => ∃ n, v = Z6 n /\ R (Z6 n)) ∨ some tg = some PV.nilp /\ PCall Tryz.prog 122 [PV.nilp, Z6 (i64.wrap r)] fun v => ∃ n, v = Z6 n /\
 R (Z6 n)
theorem zum {R : PV -> Prop} (h : zjk tg r R) : PCall Tryz.prog 163 [.ptr [tc, tg, tj, tf, tp, .mp M, .mp S], .int .i32 r] R :=
 PCall.of Tryz.func163 (by kernel_rfl) (by kernel_rfl) (zl (by kernel_rfl)) (Eq.mpr (by kernel_rfl : aO Tryz.prog (fun _ => none) Tryz.f163 [0, 1, 4, 5, 18, 25] (fun _ => none) (Tryz.f163.body.getD .skip) [.ptr [tc, tg, tj, tf, tp, .mp M, .mp S], .int .i32 r] R = _) h)
end
section
variable (tc tg tj tf tp : PV) (M S : List (PV × PV)) (r : Int)
def zjl (R : PV -> Prop) : Prop :=
 let V1 := PCall Tryz.prog 163 [PV.ptr [tc, tg, tj, tf, tp, PV.mp M, PV.mp S], Z3 r] fun v1 => ∃ n1, v1 = Z6 n1 /\ if ((n1 == 4 || n1 == 5) && r != 8204) = true then R (Z6 3) else R (Z6 0); (∃ ps, some tj = some
  (PV.ptr ps) /\ PCall Tryz.prog 122 [PV.ptr ps, Z6 (i64.wrap r)] fun v => ∃ n, v = Z6 n /\ if (n != 0) = true then R (Z6 n) else V1) ∨ some tj = some PV.nilp /\ PCall Tryz.prog 122 [PV.nilp, Z6 (i64.wrap r)] fun
  (v : PV) => ∃ n, v = Z6 n /\ if (n != 0) = true then R (Z6 n) else V1
theorem zun {R : PV -> Prop} (h : zjl tc tg tj tf tp M S r R) : PCall Tryz.prog 165 [.ptr [tc, tg, tj, tf, tp, .mp M, .mp S], .int .i32 r] R :=
 PCall.of Tryz.func165 (by kernel_rfl) (by kernel_rfl) (zl (by kernel_rfl)) (Eq.mpr (by kernel_rfl : aO Tryz.prog (fun _ => none) Tryz.f165 [0, 1, 4, 5, 6, 8, 17, 31] (fun _ => none) (Tryz.f165.body.getD .skip) [.ptr [tc, tg, tj, tf, tp, .mp M, .mp S], .int .i32 r] R = _) h)
end
section
variable (tc tg tj tf tp : PV) (M S : List (PV × PV)) (r : Int)
def zjm (R : PV -> Prop) : Prop :=
 (∃ ps, some tf = some (PV.ptr ps) /\ PCall Tryz.prog 102 [PV.ptr ps, Z6 (i64.wrap r)] fun v => ∃ cs, v = PV.agg cs /\ cs.length = 4 /\ ∃ b, cs.head? = some (Zb b) /\ ∃ b1, cs.tail.head? =
 some (Zb b1) /\ ∃ b2, cs.tail.tail.head? = some (Zb b2) /\ ∃ b3, cs.tail.tail.tail.head? = some (Zb b3) /\ R (Zb b)) ∨ some tf = some PV.nilp /\ PCall Tryz.prog 102 [PV.nilp, Z6 (i64.wrap r)] fun v => ∃ (cs :
 List PV), v = PV.agg cs /\ cs.length = 4 /\ ∃ b, cs.head? = some (Zb b) /\ ∃ b1, cs.tail.head? = some (Zb b1) /\ ∃ b2, cs.tail.tail.head? = some (Zb b2) /\ ∃ b3, cs.tail.tail.tail.head? = some (Zb b3) /\ R (Zb
 b)
theorem zuo {R : PV -> Prop} (h : zjm tf r R) : PCall Tryz.prog 164 [.ptr [tc, tg, tj, tf, tp, .mp M, .mp S], .int .i32 r] R :=
 PCall.of Tryz.func164 (by kernel_rfl) (by kernel_rfl) (zl (by kernel_rfl)) (Eq.mpr (by kernel_rfl : aO Tryz.prog (fun _ => none) Tryz.f164 [0, 1, 4] (fun _ => none) (Tryz.f164.body.getD .skip) [.ptr [tc, tg, tj, tf, tp, .mp M, .mp S], .int .i32 r] R = _) h)
end
section
variable (n f : Bool) (es : LL) (r : Int)
def zjn (R : PV -> Prop) : Prop :=
 if (decide (r >= 44032) && decide (r <= 55203)) = true then if ((i32.wrap (r - 44032)).tmod (28 : Int) == 0) = true then R (Z6 12) else R (Z6 13) else PCall Tryz.prog 112 [PV.sl n f es, Z6 4, Z3 r] fun v => ∃ n1, v = Z6
 n1 /\ R (Z6 n1)
theorem zup {R : PV -> Prop} (h : zjn n f es r R) : PCall Tryz.prog 113 [.sl n f es, .int .i32 r] R :=
 PCall.of Tryz.func113 (by kernel_rfl) (by kernel_rfl) (zl (by kernel_rfl)) (Eq.mpr (by kernel_rfl : aO Tryz.prog (fun _ => none) Tryz.f113 [0, 1, 4, 10, 14] (fun _ => none) (Tryz.f113.body.getD .skip) [.sl n f es, .int .i32 r] R = _) h)
end
section
variable (n f : Bool) (es : LL) (r : Int)
def zjo (R : PV -> Prop) : Prop :=
 PCall Tryz.prog 112 [PV.sl n f es, Z6 6, Z3 r] fun v => ∃ n1, v = Z6 n1 /\ if (n1 != 0) = true then R (Z6 n1) else PCall Tryz.prog 113 [PV.sl n f es, Z3 r] fun v1 => ∃ n2, v1 = Z6 n2 /\ if ((n2 == 4 || n2 == 5) &&
 r != 8204) = true then R (Z6 3) else R (Z6 0)
theorem zuq {R : PV -> Prop} (h : zjo n f es r R) : PCall Tryz.prog 141 [.sl n f es, .int .i32 r] R :=
 PCall.of Tryz.func141 (by kernel_rfl) (by kernel_rfl) (zl (by kernel_rfl)) (Eq.mpr (by kernel_rfl : aO Tryz.prog (fun _ => none) Tryz.f141 [0, 1, 4, 5, 6, 11, 25] (fun _ => none) (Tryz.f141.body.getD .skip) [.sl n f es, .int .i32 r] R = _) h)
end
section
variable (a b : Int)
def zjp (R : PV -> Prop) : Prop :=
 let X := if (a == 13) = true then if (a == 13) = true then R (Zb (b == 11)) else R (Zb false) else if (a == 11) = true then R (Zb (b == 11)) else R (Zb false)
 let A := if (a == 7) = true then R (Zb true) else if (a == 9) = true then R (Zb (b == 9 || b == 10 || b == 12 || b == 13)) else if (a == 12) = true then if (a == 12) = true then R (Zb (b == 10 || b == 11)) else X else if (a == 10) = true then R (Zb (b == 10 || b == 11)) else X
 let B := if (b == 4) = true then if (b == 4) = true then R (Zb true) else A else if (b == 5) = true then if (b == 5) = true then R (Zb true) else A else if (b == 8) = true then R (Zb true) else A
 let C := if (b == 1) = true then if (b == 1) = true then R (Zb false) else B else if (b == 2) = true then if (b == 2) = true then R (Zb false) else B else if (b == 3) = true then R (Zb false) else B
 if (a == 1) = true then R (Zb (b == 2)) else if (a == 2) = true then if (a == 2) = true then R (Zb false) else C else if (a == 3) = true then R (Zb false) else C
theorem zur {R : PV -> Prop} (h : zjp a b R) : PCall Tryz.prog 166 [.int .i64 a, .int .i64 b] R :=
 PCall.of Tryz.func166 (by kernel_rfl) (by kernel_rfl) (zl (by kernel_rfl)) (Eq.mpr (by kernel_rfl : aO Tryz.prog (fun _ => none) Tryz.f166 [0, 1, 4, 5, 6, 10, 13, 14, 18, 22, 23, 25, 41, 50] (fun _ => none) (Tryz.f166.body.getD .skip) [.int .i64 a, .int .i64 b] R = _) h)
end
section
variable (so od : Bool) (la pi co : Int) (tc tg tj tf tp : PV) (M S : List (PV × PV)) (r : Int)
def zjq (R : PV -> Prop) : Prop :=
 PCall Tryz.prog 163 [PV.ptr [tc, tg, tj, tf, tp, PV.mp M, PV.mp S], Z3 r] fun v => ∃ n, v = Z6 n /\ PCall Tryz.prog 164 [PV.ptr [tc, tg, tj, tf, tp, PV.mp M, PV.mp S], Z3 r] fun v1 => ∃ b, v1 = Zb b /\ PCall
 Tryz.prog 165 [PV.ptr [tc, tg, tj, tf, tp, PV.mp M, PV.mp S], Z3 r] fun v2 => ∃ n1, v2 = Z6 n1 /\ PCall Tryz.prog 166 [Z6 la, Z6 n] fun v3 => ∃ b1, v3 = Zb b1 /\
 let C : Int -> Bool -> Bool -> Prop := fun p o c => if (n1 == 2) = true then R (PV.tup [PV.agg [Zb true, Z6 n, Z6 p, Z6 1, Zb o], Zb c]) else if (co != 0 && n1 == 1) = true then R (PV.tup [PV.agg [Zb true, Z6 n, Z6 p, Z6 2, Zb o], Zb c]) else if (co != 0 && n1 == 3) = true then R (PV.tup [PV.agg [Zb true, Z6 n, Z6 p, Z6 co, Zb o], Zb c]) else R (PV.tup [PV.agg [Zb true, Z6 n, Z6 p, Z6 0, Zb o], Zb c])
 let D : Bool -> Bool -> Prop := fun o c => if b = true then C 1 o c else if (pi == 1 && n == 4) = true then C 1 o c else if (pi == 1 && n == 5) = true then C 2 o c else C 0 o c
 let E : Bool -> Prop := fun c => if (n == 6) = true then D (!od) c else D false c
 if (!b1) = true then if (!(pi == 2 && b)) = true then if (!(co == 2 && n1 == 2)) = true then E (!so || !(od && n == 6)) else E (!so || false) else E (!so || false) else E (!so || false)
theorem zus {R : PV -> Prop} (h : zjq so od la pi co tc tg tj tf tp M S r R) : PCall Tryz.prog 146 [.agg [.bool so, .int .i64 la, .int .i64 pi, .int .i64 co, .bool od], .ptr [tc, tg, tj, tf, tp, .mp M, .mp S], .int .i32 r] R :=
 PCall.of Tryz.func146 (by kernel_rfl) (by kernel_rfl) (zl (by kernel_rfl)) (Eq.mpr (by kernel_rfl : aO Tryz.prog (fun _ => none) Tryz.f146 [0, 1, 2, 3, 6, 7, 8, 9, 10, 11, 12, 64, 67, 76, 85, 89, 98] (fun _ => none) (Tryz.f146.body.getD .skip) [.agg [.bool so, .int .i64 la, .int .i64 pi, .int .i64 co, .bool od], .ptr [tc, tg, tj, tf, tp, .mp M, .mp S], .int .i32 r] R = _) h)
end
def zbb (tc tg tj tf tp : PV) (M S : List (PV × PV)) (n f : Bool) (es : LL) (k x2 : Int) (h0_0 : Bool) (h0_1 h0_2 h0_3 : Int) (h0_4 : Bool) : Env × Hp := ([(0, LV.pv (PV.ptr [tc, tg, tj, tf, tp, PV.mp M, PV.mp S])), (1, LV.pv (PV.sl n f es)), (2, Y6 x2), (7, LV.box 0 0)], [.box [.pv (.bool h0_0), Y6 h0_1, Y6 h0_2, Y6 h0_3, .pv (.bool h0_4)]])
section
variable (tc tg tj tf tp : PV) (M S : List (PV × PV)) (n f : Bool) (es : LL) (k : Int) (J : Int -> Bool -> Int -> Int -> Int -> Bool -> Prop) (μ : Int -> Bool -> Int -> Int -> Int -> Bool -> Nat)
def zjr (R : PV -> Prop) : Prop :=
 if (decide (k < 0) || decide (k >= (↑es.length : Int))) = true then R (Z6 (↑es.length : Int)) else aK es k 1 /\ ∃ n1, (es.getD k.toNat []).head? = some (Z3 n1) /\ PCall Tryz.prog 146 [PV.agg [Zb false, Z6 0, Z6 0, Z6 0, Zb false],
  PV.ptr [tc, tg, tj, tf, tp, PV.mp M, PV.mp S], Z3 n1] fun v => ∃ vs, v = PV.tup vs /\ vs.length = 2 /\ ∃ x, vs.head? = some x /\ ∃ cs, x = PV.agg cs /\ cs.length = 5 /\ ∃ b, cs.head? = some (Zb b)
  /\ ∃ n2, cs.tail.head? = some (Z6 n2) /\ ∃ n3, cs.tail.tail.head? = some (Z6 n3) /\ ∃ n4, cs.tail.tail.tail.head? = some (Z6 n4) /\ ∃ b1, cs.tail.tail.tail.tail.head? = some (Zb b1) /\ ∃ (x1 : PV),
  vs.tail.head? = some x1 /\ ∃ b2, x1 = Zb b2 /\ (aG (zbb tc tg tj tf tp M S n f es k (i64.wrap (k + 1)) b n2 n3 n4 b1) /\ J (i64.wrap (k + 1)) b n2 n3 n4 b1) /\ ∀ (x2 : Int) (h0_0 : Bool) (h0_1 h0_2 h0_3 : Int)
  (h0_4 : Bool), J x2 h0_0 h0_1 h0_2 h0_3 h0_4 ->
 let K5 := fun (y0_ : Int) (y1_ : Bool) (y2_ y3_ y4_ : Int) (y5_ : Bool) => aG (zbb tc tg tj tf tp M S n f es k y0_ y1_ y2_ y3_ y4_ y5_) /\ J y0_ y1_ y2_ y3_ y4_ y5_ /\ μ y0_ y1_ y2_ y3_ y4_ y5_ < μ x2 h0_0 h0_1 h0_2
  h0_3 h0_4; if decide (x2 < (↑es.length : Int)) = true then aK es x2 1 /\ ∃ n5, (es.getD x2.toNat []).head? = some (Z3 n5) /\ (PCall Tryz.prog 146 [PV.agg [Zb h0_0, Z6 h0_1, Z6 h0_2, Z6 h0_3, Zb h0_4], PV.ptr [tc, tg, tj, tf, tp,
  PV.mp M, PV.mp S], Z3 n5] fun v1 => ∃ vs1, v1 = PV.tup vs1 /\ vs1.length = 2 /\ ∃ x3, vs1.head? = some x3 /\ ∃ cs1, x3 = PV.agg cs1 /\ cs1.length = 5 /\ ∃ b3, cs1.head? = some (Zb b3) /\ ∃ (n6 :
  Int), cs1.tail.head? = some (Z6 n6) /\ ∃ n7, cs1.tail.tail.head? = some (Z6 n7) /\ ∃ n8, cs1.tail.tail.tail.head? = some (Z6 n8) /\ ∃ b4, cs1.tail.tail.tail.tail.head? = some (Zb b4) /\ ∃ x4, vs1.tail.head? =
  some x4 /\ ∃ b5, x4 = Zb b5 /\
 let V1 := if b5 = true then R (Z6 x2) else K5 (i64.wrap (x2 + 1)) b3 n6 n7 n8 b4; V1 /\ V1 /\ V1) /\ PCall Tryz.prog 146 [PV.agg [Zb h0_0, Z6 h0_1, Z6 h0_2, Z6 h0_3, Zb h0_4], PV.ptr [tc, tg, tj, tf, tp, PV.mp M, PV.mp S], Z3 n5] fun
  (v1 : PV) => ∃ vs1, v1 = PV.tup vs1 /\ vs1.length = 2 /\ ∃ x3, vs1.head? = some x3 /\ ∃ cs1, x3 = PV.agg cs1 /\ cs1.length = 5 /\ ∃ b3, cs1.head? = some (Zb b3) /\ ∃ n6, cs1.tail.head? = some (Z6
  n6) /\ ∃ n7, cs1.tail.tail.head? = some (Z6 n7) /\ ∃ n8, cs1.tail.tail.tail.head? = some (Z6 n8) /\ ∃ b4, cs1.tail.tail.tail.tail.head? = some (Zb b4) /\ ∃ x4, vs1.tail.head? = some x4 /\ ∃ b5, x4 = Zb
  b5 /\
 let V2 := if b5 = true then R (Z6 x2) else K5 (i64.wrap (x2 + 1)) b3 n6 n7 n8 b4; V2 /\ V2 else R (Z6 x2)
theorem zut {R : PV -> Prop} (h : zjr tc tg tj tf tp M S n f es k J μ R) : PCall Tryz.prog 123 [.ptr [tc, tg, tj, tf, tp, .mp M, .mp S], .sl n f es, .int .i64 k] R :=
 PCall.of Tryz.func123 (by kernel_rfl) (by kernel_rfl) (zl (by kernel_rfl)) (Eq.mpr (by kernel_rfl : aO Tryz.prog (fun _ => none) Tryz.f123 [0, 1, 2, 6, 7, 9, 10, 18, 36, 49] (fun zz_ => match zz_ with | 5 => some ⟨Int × Bool × Int × Int × Int × Bool, fun s => zbb tc tg tj tf tp M S n f es k s.1 s.2.1 s.2.2.1 s.2.2.2.1 s.2.2.2.2.1 s.2.2.2.2.2, fun _ s => J s.1 s.2.1 s.2.2.1 s.2.2.2.1 s.2.2.2.2.1 s.2.2.2.2.2, fun s => μ s.1 s.2.1 s.2.2.1 s.2.2.2.1 s.2.2.2.2.1 s.2.2.2.2.2, fun e h => (gI e 2, hB h 0 0, hI h 0 1, hI h 0 2, hI h 0 3, hB h 0 4), [], [0, 1, 2, 7], [], fun p => ∀ (x2 : Int) (h0_0 : Bool) (h0_1 h0_2 h0_3 : Int) (h0_4 : Bool), p (x2, h0_0, h0_1, h0_2, h0_3, h0_4), fun p h s => h s.1 s.2.1 s.2.2.1 s.2.2.2.1 s.2.2.2.2.1 s.2.2.2.2.2⟩ | _ => none) (Tryz.f123.body.getD .skip) [.ptr [tc, tg, tj, tf, tp, .mp M, .mp S], .sl n f es, .int .i64 k] R = _) h)
end
def zbc (tc tg tj tf tp : PV) (M S : List (PV × PV)) (n f : Bool) (es : LL) (x6 : Int) (n_0 : Bool) (s_0 : LL) : Env × Hp := ([(0, LV.pv (PV.ptr [tc, tg, tj, tf, tp, PV.mp M, PV.mp S])), (1, LV.pv (PV.sl n f es)), (5, LV.own 0), (6, Y6 x6)], [.sl (23, 1) true n_0 s_0])
section
variable (tc tg tj tf tp : PV) (M S : List (PV × PV)) (n f : Bool) (es : LL) (J : Int -> Bool -> LL -> Prop) (μ : Int -> Bool -> LL -> Nat)
def zjs (R : PV -> Prop) : Prop :=
 (aG (zbc tc tg tj tf tp M S n f es (0 : Int) true []) /\ J (0 : Int) true []) /\ ∀ (x6 : Int) (n_0 : Bool) (s_0 : LL), J x6 n_0 s_0 -> if decide (x6 < (↑es.length : Int)) = true then PCall Tryz.prog 123 [PV.ptr [tc, tg, tj, tf, tp, PV.mp
 M, PV.mp S], PV.sl n f es, Z6 x6] fun v => ∃ n1, v = Z6 n1 /\ (dB es.length (some x6) (some n1) none /\ aT es 1) /\ PCall Tryz.prog 63 [PV.sl n (f && decide (n1 = (↑es.length : Int))) (List.drop x6.toNat (List.take n1.toNat
 es))] fun v1 => ∃ n2 f1 es1, v1 = PV.sl n2 f1 es1 /\ (aT [[PV.sl n2 f1 es1]] 1 /\ (s_0.length + 1) * 24 <= 140737488355328) /\ aG (zbc tc tg tj tf tp M S n f es n1 (n_0 && false) (s_0 ++ [[PV.sl n2 f1
 es1]])) /\ J n1 (n_0 && false) (s_0 ++ [[PV.sl n2 f1 es1]]) /\ μ n1 (n_0 && false) (s_0 ++ [[PV.sl n2 f1 es1]]) < μ x6 n_0 s_0 else R (PV.sl n_0 false s_0)
theorem zuu {R : PV -> Prop} (h : zjs tc tg tj tf tp M S n f es J μ R) : PCall Tryz.prog 81 [.ptr [tc, tg, tj, tf, tp, .mp M, .mp S], .sl n f es] R :=
 PCall.of Tryz.func81 (by kernel_rfl) (by kernel_rfl) (zl (by kernel_rfl)) (Eq.mpr (by kernel_rfl : aO Tryz.prog (fun _ => none) Tryz.f81 [0, 1, 4, 5, 6, 7, 11] (fun zz_ => match zz_ with | 3 => some ⟨Int × Bool × LL, fun s => zbc tc tg tj tf tp M S n f es s.1 s.2.1 s.2.2, fun _ s => J s.1 s.2.1 s.2.2, fun s => μ s.1 s.2.1 s.2.2, fun e h => (gI e 6, oN h 0, oS h 0), [(5, 23, 1)], [0, 1, 5, 6], [], fun p => ∀ (x6 : Int) (n_0 : Bool) (s_0 : LL), p (x6, n_0, s_0), fun p h s => h s.1 s.2.1 s.2.2⟩ | _ => none) (Tryz.f81.body.getD .skip) [.ptr [tc, tg, tj, tf, tp, .mp M, .mp S], .sl n f es] R = _) h)
end
section
variable (a : Int)
def zjt (R : PV -> Prop) : Prop :=
 R (Zb (a == 3 || a == 1 || a == 2))
theorem zuv {R : PV -> Prop} (h : zjt a R) : PCall Tryz.prog 114 [.int .i64 a] R :=
 PCall.of Tryz.func114 (by kernel_rfl) (by kernel_rfl) (zl (by kernel_rfl)) (Eq.mpr (by kernel_rfl : aO Tryz.prog (fun _ => none) Tryz.f114 [0, 2] (fun _ => none) (Tryz.f114.body.getD .skip) [.int .i64 a] R = _) h)
end
section
variable (a b : Int)
def zju (R : PV -> Prop) : Prop :=
 if (a == 9) = true then R (Zb (b == 9 || b == 10 || b == 12 || b == 13)) else if (a == 12 || a == 10) = true then R (Zb (b == 10 || b == 11)) else if (a == 13 || a == 11) = true then R (Zb (b == 11)) else R (Zb false)
theorem zuw {R : PV -> Prop} (h : zju a b R) : PCall Tryz.prog 115 [.int .i64 a, .int .i64 b] R :=
 PCall.of Tryz.func115 (by kernel_rfl) (by kernel_rfl) (zl (by kernel_rfl)) (Eq.mpr (by kernel_rfl : aO Tryz.prog (fun _ => none) Tryz.f115 [0, 1, 4, 6, 26, 38] (fun _ => none) (Tryz.f115.body.getD .skip) [.int .i64 a, .int .i64 b] R = _) h)
end
def zbd (n f : Bool) (es : LL) (n2 f2 : Bool) (ss : LL) (k : Int) (x7 : Bool) (x8 : Int) : Env × Hp := ([(0, LV.pv (PV.sl n f es)), (1, LV.pv (PV.sl n2 f2 ss)), (7, .pv (.bool x7)), (8, Y6 x8)], [])
section
variable (n f : Bool) (es : LL) (n2 f2 : Bool) (ss : LL) (k : Int) (J : Bool -> Int -> Prop) (μ : Bool -> Int -> Nat)
def zjv (R : PV -> Prop) : Prop :=
 aK ss k 1 /\ ∃ n1, (ss.getD k.toNat []).head? = some (Z3 n1) /\ PCall Tryz.prog 141 [PV.sl n f es, Z3 n1] fun v => ∃ n3, v = Z6 n3 /\ if (n3 != 2) = true then R (Zb false) else (aG (zbd n f es n2 f2 ss k false
  (i64.wrap (k - 1))) /\ J false (i64.wrap (k - 1))) /\ ∀ (x7 : Bool) (x8 : Int), J x7 x8 ->
 let K5 := fun (y0_ : Bool) (y1_ : Int) => aG (zbd n f es n2 f2 ss k y0_ y1_) /\ J y0_ y1_ /\ μ y0_ y1_ < μ x7 x8; if decide (x8 >= 0) = true then aK ss x8 1 /\ ∃ n4, (ss.getD x8.toNat []).head? = some (Z3 n4) /\ PCall Tryz.prog
  141 [PV.sl n f es, Z3 n4] fun v1 => ∃ n5, v1 = Z6 n5 /\ if (n5 == 2) = true then R (Zb x7) else if (n5 == 0) = true then R (Zb false) else if (n5 == 1) = true then K5 true (i64.wrap (x8 - 1)) else K5 x7
  (i64.wrap (x8 - 1)) else R (Zb false)
theorem zux {R : PV -> Prop} (h : zjv n f es n2 f2 ss k J μ R) : PCall Tryz.prog 116 [.sl n f es, .sl n2 f2 ss, .int .i64 k] R :=
 PCall.of Tryz.func116 (by kernel_rfl) (by kernel_rfl) (zl (by kernel_rfl)) (Eq.mpr (by kernel_rfl : aO Tryz.prog (fun _ => none) Tryz.f116 [0, 1, 2, 6, 7, 8, 9, 16, 20, 30, 33, 35] (fun zz_ => match zz_ with | 5 => some ⟨Bool × Int, fun s => zbd n f es n2 f2 ss k s.1 s.2, fun _ s => J s.1 s.2, fun s => μ s.1 s.2, fun e h => (gB e 7, gI e 8), [], [0, 1, 7, 8], [], fun p => ∀ (x7 : Bool) (x8 : Int), p (x7, x8), fun p h s => h s.1 s.2⟩ | _ => none) (Tryz.f116.body.getD .skip) [.sl n f es, .sl n2 f2 ss, .int .i64 k] R = _) h)
end
def zbe (n f : Bool) (es : LL) (n2 f2 : Bool) (ss : LL) (k x7 : Int) : Env × Hp := ([(0, LV.pv (PV.sl n f es)), (1, LV.pv (PV.sl n2 f2 ss)), (7, Y6 x7)], [])
section
variable (n f : Bool) (es : LL) (n2 f2 : Bool) (ss : LL) (k : Int) (J : Int -> Prop) (μ : Int -> Nat)
def zjw (R : PV -> Prop) : Prop :=
 aK ss k 1 /\ ∃ n1, (ss.getD k.toNat []).head? = some (Z3 n1) /\ PCall Tryz.prog 112 [PV.sl n f es, Z6 5, Z3 n1] fun v => ∃ n3, v = Z6 n3 /\ if (n3 != 1) = true then R (Zb false) else aK ss (i64.wrap (k - 1))
 1 /\ ∃ n4, (ss.getD (i64.wrap (k - 1)).toNat []).head? = some (Z3 n4) /\ PCall Tryz.prog 113 [PV.sl n f es, Z3 n4] fun v1 => ∃ n5, v1 = Z6 n5 /\ if (n5 != 5) = true then R (Zb false) else (aG (zbe n f es n2
 f2 ss k (i64.wrap (k - 2))) /\ J (i64.wrap (k - 2))) /\ ∀ (x7 : Int), J x7 -> if decide (x7 >= 0) = true then aK ss x7 1 /\ ∃ n6, (ss.getD x7.toNat []).head? = some (Z3 n6) /\ PCall Tryz.prog 112 [PV.sl n f es, Z6 5, Z3
 n6] fun v2 => ∃ n7, v2 = Z6 n7 /\ if (n7 == 1) = true then R (Zb true) else aK ss x7 1 /\ ∃ n8, (ss.getD x7.toNat []).head? = some (Z3 n8) /\ PCall Tryz.prog 113 [PV.sl n f es, Z3 n8] fun v3 => ∃ n9, v3 =
 Z6 n9 /\ if (n9 != 4) = true then R (Zb false) else aG (zbe n f es n2 f2 ss k (i64.wrap (x7 - 1))) /\ J (i64.wrap (x7 - 1)) /\ μ (i64.wrap (x7 - 1)) < μ x7 else R (Zb false)
theorem zuy {R : PV -> Prop} (h : zjw n f es n2 f2 ss k J μ R) : PCall Tryz.prog 117 [.sl n f es, .sl n2 f2 ss, .int .i64 k] R :=
 PCall.of Tryz.func117 (by kernel_rfl) (by kernel_rfl) (zl (by kernel_rfl)) (Eq.mpr (by kernel_rfl : aO Tryz.prog (fun _ => none) Tryz.f117 [0, 1, 2, 6, 7, 24, 28, 37, 44] (fun zz_ => match zz_ with | 4 => some ⟨Int × Unit, fun s => zbe n f es n2 f2 ss k s.1, fun _ s => J s.1, fun s => μ s.1, fun e h => (((gI e 7), ())), [], [0, 1, 7], [], fun p => ∀ (x7 : Int), p (x7, ()), fun p h s => h s.1⟩ | _ => none) (Tryz.f117.body.getD .skip) [.sl n f es, .sl n2 f2 ss, .int .i64 k] R = _) h)
end
def zbf (n f : Bool) (es : LL) (n2 f2 : Bool) (ss : LL) (k x7 x8 : Int) : Env × Hp := ([(0, LV.pv (PV.sl n f es)), (1, LV.pv (PV.sl n2 f2 ss)), (7, Y6 x7), (8, Y6 x8)], [])
section
variable (n f : Bool) (es : LL) (n2 f2 : Bool) (ss : LL) (k : Int) (J : Int -> Int -> Prop) (μ : Int -> Int -> Nat)
def zjx (R : PV -> Prop) : Prop :=
 aK ss k 1 /\ ∃ n1, (ss.getD k.toNat []).head? = some (Z3 n1) /\ PCall Tryz.prog 113 [PV.sl n f es, Z3 n1] fun v => ∃ n3, v = Z6 n3 /\ if (n3 != 6) = true then R (Zb false) else (aG (zbf n f es n2 f2 ss k (0 :
 Int) (i64.wrap (k - 1))) /\ J (0 : Int) (i64.wrap (k - 1))) /\ ∀ (x7 x8 : Int), J x7 x8 -> if decide (x8 >= 0) = true then aK ss x8 1 /\ ∃ n4, (ss.getD x8.toNat []).head? = some (Z3 n4) /\ PCall Tryz.prog 113 [PV.sl n f
 es, Z3 n4] fun v1 => ∃ n5, v1 = Z6 n5 /\ if (n5 == 6) = true then aG (zbf n f es n2 f2 ss k (i64.wrap (x7 + 1)) (i64.wrap (x8 - 1))) /\ J (i64.wrap (x7 + 1)) (i64.wrap (x8 - 1)) /\ μ
 (i64.wrap (x7 + 1)) (i64.wrap (x8 - 1)) < μ x7 x8 else R (Zb (x7.tmod (2 : Int) == 1)) else R (Zb (x7.tmod (2 : Int) == 1))
theorem zuz {R : PV -> Prop} (h : zjx n f es n2 f2 ss k J μ R) : PCall Tryz.prog 118 [.sl n f es, .sl n2 f2 ss, .int .i64 k] R :=
 PCall.of Tryz.func118 (by kernel_rfl) (by kernel_rfl) (zl (by kernel_rfl)) (Eq.mpr (by kernel_rfl : aO Tryz.prog (fun _ => none) Tryz.f118 [0, 1, 2, 6, 7, 8, 15, 28] (fun zz_ => match zz_ with | 5 => some ⟨Int × Int, fun s => zbf n f es n2 f2 ss k s.1 s.2, fun _ s => J s.1 s.2, fun s => μ s.1 s.2, fun e h => (gI e 7, gI e 8), [], [0, 1, 7, 8], [], fun p => ∀ (x7 x8 : Int), p (x7, x8), fun p h s => h s.1 s.2⟩ | _ => none) (Tryz.f118.body.getD .skip) [.sl n f es, .sl n2 f2 ss, .int .i64 k] R = _) h)
end
section
variable (n f : Bool) (es : LL) (n2 f2 : Bool) (ss : LL) (k : Int)
def zjy (R : PV -> Prop) : Prop :=
 if (k == 0) = true then R (Zb true) else aK ss (i64.wrap (k - 1)) 1 /\ ∃ n1, (ss.getD (i64.wrap (k - 1)).toNat []).head? = some (Z3 n1) /\ aK ss k 1 /\ ∃ n3, (ss.getD k.toNat []).head? = some (Z3 n3) /\
 PCall Tryz.prog 113 [PV.sl n f es, Z3 n1] fun v => ∃ n4, v = Z6 n4 /\ PCall Tryz.prog 113 [PV.sl n f es, Z3 n3] fun v1 => ∃ n5, v1 = Z6 n5 /\ if (n4 == 1 && n5 == 2) = true then R (Zb false) else PCall Tryz.prog
 114 [Z6 n4] fun v2 => ∃ b, v2 = Zb b /\ if b = true then R (Zb true) else PCall Tryz.prog 114 [Z6 n5] fun v3 => ∃ b1, v3 = Zb b1 /\ if b1 = true then R (Zb true) else PCall Tryz.prog 115 [Z6 n4, Z6 n5] fun (v4 :
 PV) => ∃ b2, v4 = Zb b2 /\ if (b2 || n5 == 4 || n5 == 5 || n5 == 8 || n4 == 7) = true then R (Zb false) else PCall Tryz.prog 116 [PV.sl n f es, PV.sl n2 f2 ss, Z6 k] fun v5 => ∃ b3, v5 = Zb b3 /\ if (!b3) = true then
 PCall Tryz.prog 117 [PV.sl n f es, PV.sl n2 f2 ss, Z6 k] fun v6 => ∃ b4, v6 = Zb b4 /\ if (!b4) = true then PCall Tryz.prog 118 [PV.sl n f es, PV.sl n2 f2 ss, Z6 k] fun v7 => ∃ b5, v7 = Zb b5 /\ R (Zb !b5) else R
 (Zb false) else R (Zb false)
theorem zu0 {R : PV -> Prop} (h : zjy n f es n2 f2 ss k R) : PCall Tryz.prog 76 [.sl n f es, .sl n2 f2 ss, .int .i64 k] R :=
 PCall.of Tryz.func76 (by kernel_rfl) (by kernel_rfl) (zl (by kernel_rfl)) (Eq.mpr (by kernel_rfl : aO Tryz.prog (fun _ => none) Tryz.f76 [0, 1, 2, 6, 7, 8, 10, 29, 35, 54] (fun _ => none) (Tryz.f76.body.getD .skip) [.sl n f es, .sl n2 f2 ss, .int .i64 k] R = _) h)
end
section
variable (n f : Bool) (es : LL) (n2 f2 : Bool) (ss : LL) (k : Int)
def zjz (R : PV -> Prop) : Prop :=
 if (decide (k < 0) || decide (k > (↑ss.length : Int))) = true then R (Zb false) else if (k == (↑ss.length : Int)) = true then R (Zb true) else PCall Tryz.prog 76 [PV.sl n f es, PV.sl n2 f2 ss, Z6 k] fun v => ∃ b, v = Zb b /\ R
 (Zb b)
theorem zu1 {R : PV -> Prop} (h : zjz n f es n2 f2 ss k R) : PCall Tryz.prog 34 [.sl n f es, .sl n2 f2 ss, .int .i64 k] R :=
 PCall.of Tryz.func34 (by kernel_rfl) (by kernel_rfl) (zl (by kernel_rfl)) (Eq.mpr (by kernel_rfl : aO Tryz.prog (fun _ => none) Tryz.f34 [0, 1, 2, 6, 14] (fun _ => none) (Tryz.f34.body.getD .skip) [.sl n f es, .sl n2 f2 ss, .int .i64 k] R = _) h)
end
end Go.Eng



namespace Go.Eng
open Go Go.Proofs Go.Eng.Rows Go.Eng.Trie Go.Eng.Srt
def zbg (st : SSt) : PV := .agg [.bool st.some, .int .i64 st.last, .int .i64 st.pict, .int .i64 st.conj, .bool st.odd]
theorem zj0 {r : Int} (h : 44032 <= r /\ r <= 55203) : i32.wrap (r - 44032) = r - 44032 := dM (by omega) (by omega)
section
variable {rows : List Row} {v : PV}
theorem zj1 (hv : dT rows v) {r : Int} (hr : -2147483648 <= r /\ r <= 2147483647) : PCall Tryz.prog 163 [v, .int .i32 r] fun x => x = .int .i64 (aJ rows r) := by
 obtain ⟨tc, tg, tj, tf, tp, made, sec, rfl, ht, hm⟩ := hv
 refine zum _ _ _ _ _ _ _ _ ?_; unfold zjk
 by_cases hh : 44032 <= r /\ r <= 55203
 ·rw [zj0 hh]
  by_cases hm28 : (r - 44032).tmod 28 = 0
  ·refine bG (by simp [hh, hm28]) ?_
   unfold aJ; rw [if_pos hh, if_pos hm28]
  ·refine bK (by simp [hm28]) (bG (by simp [hh]) ?_)
   unfold aJ; rw [if_pos hh, if_neg hm28]
 ·refine bK (by simp; omega) (bK (by simp; omega) ?_)
  obtain ⟨ps, rfl⟩ := ht.g.ptr
  refine .inl ⟨ps, rfl, ?_⟩
  have hw : i64.wrap r = r := aC (by omega) (by omega)
  rw [hw]
  refine (yV ht.g r (by omega)).mono ?_
  rintro _ rfl
  refine ⟨_, rfl, ?_⟩
  rw [zO]; unfold aJ; rw [if_neg hh]
theorem zu2 (hv : dT rows v) {r : Int} (hr : -2147483648 <= r /\ r <= 2147483647) : PCall Tryz.prog 165 [v, .int .i32 r] fun x => x = .int .i64 (bQ rows r) := by
 have hb := zj1 hv hr
 obtain ⟨tc, tg, tj, tf, tp, made, sec, rfl, ht, hm⟩ := hv
 refine zun _ _ _ _ _ _ _ _ ?_; unfold zjl
 obtain ⟨ps, rfl⟩ := ht.j.ptr
 refine .inl ⟨ps, rfl, ?_⟩
 have hw : i64.wrap r = r := aC (by omega) (by omega)
 rw [hw]
 refine (yV ht.j r (by omega)).mono ?_
 rintro _ rfl
 refine ⟨_, rfl, ?_⟩
 rw [zO]
 unfold bQ
 refine aD (fun hc => ?_) (fun hc => ?_)
 ·simp only [bne_iff_ne, ne_eq] at hc
  rw [if_pos hc]
 ·simp only [bne_iff_ne, ne_eq, Decidable.not_not] at hc
  rw [if_neg (fun h => h hc)]
  refine hb.mono ?_
  rintro _ rfl
  refine ⟨_, rfl, aD (fun h2 => ?_) (fun h2 => ?_)⟩
  ·simp only [Bool.and_eq_true, Bool.or_eq_true, beq_iff_eq, bne_iff_ne, ne_eq] at h2
   rw [if_pos h2]
  ·simp only [Bool.and_eq_true, Bool.or_eq_true, beq_iff_eq, bne_iff_ne, ne_eq] at h2
   rw [if_neg h2]
theorem zu3 (hv : dT rows v) {r : Int} (hr : -2147483648 <= r /\ r <= 2147483647) : PCall Tryz.prog 164 [v, .int .i32 r] fun x => x = .bool (bP rows 5 r) := by
 obtain ⟨tc, tg, tj, tf, tp, made, sec, rfl, ht, hm⟩ := hv
 refine zuo _ _ _ _ _ _ _ _ ?_; unfold zjm
 obtain ⟨ps, rfl⟩ := ht.f.ptr
 refine .inl ⟨ps, rfl, ?_⟩
 have hw : i64.wrap r = r := aC (by omega) (by omega)
 rw [hw]
 refine (zge ht.f r (by omega)).mono ?_
 rintro _ rfl
 rw [zg7]
 exact ⟨_, rfl, rfl, _, rfl, _, rfl, _, rfl, _, rfl, rfl⟩
theorem mG (n f : Bool) (hl : rows.length < 1000000) {r : Int} (hr : -2147483648 <= r /\ r <= 2147483647) : PCall Tryz.prog 113 [.sl n f (aZ rows), .int .i32 r] fun x => x = .int .i64 (aJ rows r) := by
 refine zup _ _ _ _ ?_; unfold zjn
 refine aD (fun hh => ?_) (fun hh => ?_)
 ·simp only [Bool.and_eq_true, decide_eq_true_eq, ge_iff_le] at hh
  rw [zj0 hh]
  unfold aJ; rw [if_pos hh]
  refine aD (fun h2 => ?_) (fun h2 => ?_)
  ·simp only [beq_iff_eq] at h2; rw [if_pos h2]
  ·simp only [beq_iff_eq] at h2; rw [if_neg h2]
 ·simp only [Bool.and_eq_true, decide_eq_true_eq, ge_iff_le] at hh
  refine (kW n f 4 r hl hr).mono ?_
  rintro _ rfl
  unfold aJ; rw [if_neg hh]
  exact ⟨_, rfl, rfl⟩
theorem zj2 (n f : Bool) (hl : rows.length < 1000000) {r : Int} (hr : -2147483648 <= r /\ r <= 2147483647) : PCall Tryz.prog 141 [.sl n f (aZ rows), .int .i32 r] fun x => x = .int .i64 (bQ rows r) := by
 refine zuq _ _ _ _ ?_; unfold zjo
 refine (kW n f 6 r hl hr).mono ?_
 rintro _ rfl
 refine ⟨_, rfl, ?_⟩
 unfold bQ
 refine aD (fun hc => ?_) (fun hc => ?_)
 ·simp only [bne_iff_ne, ne_eq] at hc
  rw [if_pos hc]
 ·simp only [bne_iff_ne, ne_eq, Decidable.not_not] at hc
  rw [if_neg (fun h => h hc)]
  refine (mG n f hl hr).mono ?_
  rintro _ rfl
  refine ⟨_, rfl, aD (fun h2 => ?_) (fun h2 => ?_)⟩
  ·simp only [Bool.and_eq_true, Bool.or_eq_true, beq_iff_eq, bne_iff_ne, ne_eq] at h2
   rw [if_pos h2]
  ·simp only [Bool.and_eq_true, Bool.or_eq_true, beq_iff_eq, bne_iff_ne, ne_eq] at h2
   rw [if_neg h2]
theorem zu4 (a b : Int) : PCall Tryz.prog 166 [.int .i64 a, .int .i64 b] fun x => x = .bool (gD a b) := by
 refine zur _ _ ?_; unfold zjp
 simp only [beq_iff_eq]
 have hd : ∀ x y : Int, (x == y) = decide (x = y) := fun x y => by by_cases h : x = y <;> simp [h]
 simp only [hd]
 unfold gD mD
 rcases (by omega : b = 1 ∨ b = 2 ∨ b = 3 ∨ b = 4 ∨ b = 5 ∨ b = 8 ∨ (b ≠ 1 /\ b ≠ 2 /\ b ≠ 3 /\ b ≠ 4 /\ b ≠ 5 /\ b ≠ 8)) with rfl | rfl | rfl | rfl | rfl | rfl | ⟨b1, b2, b3, b4, b5, b8⟩
 all_goals
  rcases (by omega : a = 1 ∨ a = 2 ∨ a = 3 ∨ a = 7 ∨ a = 9 ∨ a = 10 ∨ a = 11 ∨ a = 12 ∨ a = 13 ∨ (a ≠ 1 /\ a ≠ 2 /\ a ≠ 3 /\ a ≠ 7 /\ a ≠ 9 /\ a ≠ 10 /\ a ≠ 11 /\ a ≠ 12 /\ a ≠ 13)) with rfl | rfl | rfl | rfl | rfl | rfl | rfl | rfl | rfl | ⟨a1, a2, a3, a7, a9, a10, a11, a12, a13⟩
 all_goals simp [*, Bool.or_assoc]
theorem zu5 (hv : dT rows v) (st : SSt) {r : Int} (hr : -2147483648 <= r /\ r <= 2147483647) : PCall Tryz.prog 146 [zbg st, v, .int .i32 r] fun x => x = .tup [zbg (dL rows st r), .bool (nQ rows st r)] := by
 have h1 := zj1 hv hr
 have h2 := zu3 hv hr
 have h3 := zu2 hv hr
 obtain ⟨tc, tg, tj, tf, tp, made, sec, rfl, ht, hm⟩ := hv
 obtain ⟨so, la, pi, co, od⟩ := st
 refine zus _ _ _ _ _ _ _ _ _ _ _ _ _ ?_; unfold zjq
 refine h1.mono ?_
 rintro _ rfl
 refine ⟨_, rfl, ?_⟩
 refine h2.mono ?_
 rintro _ rfl
 refine ⟨_, rfl, ?_⟩
 refine h3.mono ?_
 rintro _ rfl
 refine ⟨_, rfl, ?_⟩
 refine (zu4 la (aJ rows r)).mono ?_
 rintro _ rfl
 refine ⟨_, rfl, ?_⟩
 unfold dL nQ qP zbg
 dsimp only
 have hd : ∀ x y : Int, (x == y) = decide (x = y) := fun x y => by by_cases h : x = y <;> simp [h]
 have hd2 : ∀ x y : Int, (x != y) = !decide (x = y) := fun x y => by by_cases h : x = y <;> simp [h]
 simp only [hd, hd2]
 generalize gD la (aJ rows r) = b1
 generalize bP rows 5 r = b
 generalize bQ rows r = c
 generalize aJ rows r = n
 by_cases n6 : n = 6
 ·subst n6
  cases b1 <;> cases b <;> by_cases p2 : pi = 2 <;> by_cases c2 : c = 2 <;> by_cases k2 : co = 2 <;> by_cases c1 : c = 1 <;> by_cases c3 : c = 3 <;> by_cases k0 : co = 0 <;> first | omega | simp [*]
 ·by_cases p1 : pi = 1
  ·subst p1
   by_cases n4 : n = 4
   ·subst n4
    cases b1 <;> cases b <;> by_cases c2 : c = 2 <;> by_cases k2 : co = 2 <;> by_cases c1 : c = 1 <;> by_cases c3 : c = 3 <;> by_cases k0 : co = 0 <;> first | omega | simp [*]
   ·by_cases n5 : n = 5
    ·subst n5
     cases b1 <;> cases b <;> by_cases c2 : c = 2 <;> by_cases k2 : co = 2 <;> by_cases c1 : c = 1 <;> by_cases c3 : c = 3 <;> by_cases k0 : co = 0 <;> first | omega | simp [*]
    ·cases b1 <;> cases b <;> by_cases c2 : c = 2 <;> by_cases k2 : co = 2 <;> by_cases c1 : c = 1 <;> by_cases c3 : c = 3 <;> by_cases k0 : co = 0 <;> first | omega | simp [*]
  ·cases b1 <;> cases b <;> by_cases p2 : pi = 2 <;> by_cases c2 : c = 2 <;> by_cases k2 : co = 2 <;> by_cases c1 : c = 1 <;> by_cases c3 : c = 3 <;> by_cases k0 : co = 0 <;> first | omega | simp [*]
end
end Go.Eng



namespace Go.Eng
open Go Go.Proofs Go.Eng.Rows Go.Eng.Trie Go.Eng.Srt
theorem gH {L : List Int} (h : R32 L) (i : Nat) : -2147483648 <= L.getD i 0 /\ L.getD i 0 <= 2147483647 := by
 by_cases hi : i < L.length
 ·rw [show L.getD i 0 = L[i] by simp [List.getD, hi]]; exact h _ (List.getElem_mem hi)
 ·rw [show L.getD i 0 = 0 by simp [List.getD, hi]]; omega
theorem iC {l : List Int} {i : Int} (h0 : 0 <= i) (hi : i.toNat < l.length) : aK (aA l) i 1 /\ (aA l).getD i.toNat [] = [.int .i32 (l.getD i.toNat 0)] := by
 obtain ⟨h1, h2⟩ := e9 h0 hi
 exact ⟨h1, by rw [h2]; simp [List.getD, hi]⟩
section
variable {rows : List Row} {v : PV}
theorem zu6 {L : List Int} {i : Nat} (hi : i < L.length) (hb : c8 rows L i = false) : fI rows L (L.length - i) i = fI rows L (L.length - (i + 1)) (i + 1) := by
 rw [show L.length - i = (L.length - (i + 1)) + 1 by omega, fI, if_neg (by rw [hb]; decide)]
theorem zu7 {L : List Int} {i : Nat} (hi : i < L.length) (hb : c8 rows L i = true) : fI rows L (L.length - i) i = i := by
 rw [show L.length - i = (L.length - (i + 1)) + 1 by omega, fI, if_pos hb]
theorem zu8 (ht : fA rows) (hv : dT rows v) (n f : Bool) (L : List Int) (hr : R32 L) (hL : L.length < 1000000000000) (k : Int) (k0 : 0 <= k) (k1 : k < L.length) (hb : c8 rows L k.toNat = true) :
 PCall Tryz.prog 123 [v, .sl n f (aA L), .int .i64 k] fun x => x = .int .i64 (bX rows L k.toNat : Nat) := by
 have hs := fun st {r : Int} hr => zu5 hv st (r := r) hr
 obtain ⟨tc, tg, tj, tf, tp, made, sec, rfl, ht', hm⟩ := hv
 refine zut _ _ _ _ _ _ _ _ _ _ _
  (fun i so la pi co od => (k + 1 <= i /\ i <= L.length) /\ aY rows L k.toNat (i.toNat - k.toNat) = ⟨so, la, pi, co, od⟩ /\ bX rows L k.toNat = fI rows L (L.length - i.toNat) i.toNat) (fun i _ _ _ _ _ => L.length - i.toNat) ?_
 unfold zjr
 have hl8 : ((aA L).length : Int) = L.length := by rw [aS]
 rw [hl8]
 refine bK (by simp; omega) ?_
 have hk : k.toNat < L.length := by omega
 obtain ⟨g1, g2⟩ := iC k0 hk
 have hw : i64.wrap (k + 1) = k + 1 := aC (by omega) (by omega)
 refine ⟨g1, _, by rw [g2]; rfl, ?_⟩
 refine (hs st0 (gH hr k.toNat)).mono ?_
 rintro _ rfl
 rw [hw]
 refine ⟨_, rfl, rfl, _, rfl, _, rfl, rfl, _, rfl, _, rfl, _, rfl, _, rfl, _, rfl, _, rfl, _, rfl, ⟨rfl, ⟨by omega, by omega⟩, ?_, ?_⟩, ?_⟩
 ·rw [show (k + 1).toNat - k.toNat = 1 by omega]; rfl
 ·rw [show (k + 1).toNat = k.toNat + 1 by omega]; rfl
 rintro i so la pi co od ⟨⟨i0, i1⟩, hst, hn⟩
 refine aD (fun hc => ?_) (fun hc => ?_)
 ·simp only [decide_eq_true_eq] at hc
  have hi : i.toNat < L.length := by omega
  obtain ⟨j, hj⟩ : ∃ j, i.toNat = k.toNat + (j + 1) := ⟨i.toNat - k.toNat - 1, by omega⟩
  obtain ⟨g1, g2⟩ := iC (l := L) (i := i) (by omega) hi
  have hwi : i64.wrap (i + 1) = i + 1 := aC (by omega) (by omega)
  have hcut : nQ rows ⟨so, la, pi, co, od⟩ (L.getD i.toNat 0) = c8 rows L i.toNat := by
   rw [<- hst, hj, show k.toNat + (j + 1) - k.toNat = j + 1 by omega]
   exact zt5 ht hb j
  have hstep : aY rows L k.toNat ((i + 1).toNat - k.toNat) = dL rows ⟨so, la, pi, co, od⟩ (L.getD i.toNat 0) := by
   rw [<- hst, show (i + 1).toNat - k.toNat = (i.toNat - k.toNat) + 1 by omega]
   show dL rows _ (L.getD (k.toNat + (i.toNat - k.toNat)) 0) = _
   rw [show k.toNat + (i.toNat - k.toNat) = i.toNat by omega]
  have body : ∀ K : Prop, K -> if c8 rows L i.toNat = true then (PV.int .i64 i = .int .i64 (bX rows L k.toNat : Nat)) else K /\ ((k + 1 <= i + 1 /\ i + 1 <= L.length) /\ aY rows L k.toNat ((i + 1).toNat - k.toNat) = ⟨(dL rows ⟨so, la, pi, co, od⟩ (L.getD i.toNat 0)).some, (dL rows ⟨so, la, pi, co, od⟩ (L.getD i.toNat 0)).last, (dL rows ⟨so, la, pi, co, od⟩ (L.getD i.toNat 0)).pict, (dL rows ⟨so, la, pi, co, od⟩ (L.getD i.toNat 0)).conj, (dL rows ⟨so, la, pi, co, od⟩ (L.getD i.toNat 0)).odd⟩ /\ bX rows L k.toNat = fI rows L (L.length - (i + 1).toNat) (i + 1).toNat) /\ L.length - (i + 1).toNat < L.length - i.toNat := fun K hK => by
   split
   ·rename_i hbi
    rw [hn, zu7 hi hbi, show ((i.toNat : Nat) : Int) = i by omega]
   ·rename_i hbi
    refine ⟨hK, ⟨⟨by omega, by omega⟩, by rw [hstep], ?_⟩, by omega⟩
    rw [hn, zu6 hi (by simpa using hbi), show (i + 1).toNat = i.toNat + 1 by omega]
  have call := hs ⟨so, la, pi, co, od⟩ (gH hr i.toNat)
  rw [hcut] at call
  rw [hwi]
  refine ⟨g1, _, by rw [g2]; rfl, call.mono ?_, call.mono ?_⟩
  ·rintro _ rfl
   exact ⟨_, rfl, rfl, _, rfl, _, rfl, rfl, _, rfl, _, rfl, _, rfl, _, rfl, _, rfl, _, rfl, _, rfl, body _ rfl, body _ rfl, body _ rfl⟩
  ·rintro _ rfl
   exact ⟨_, rfl, rfl, _, rfl, _, rfl, rfl, _, rfl, _, rfl, _, rfl, _, rfl, _, rfl, _, rfl, _, rfl, body _ rfl, body _ rfl⟩
 ·simp only [decide_eq_true_eq] at hc
  have hie : i.toNat = L.length := by omega
  rw [hn, show L.length - i.toNat = 0 by omega]
  show _ = PV.int .i64 ((i.toNat : Nat) : Int)
  rw [show ((i.toNat : Nat) : Int) = i by omega]
theorem zu9 (n f : Bool) (l : List Int) (hn : n = true -> l = []) (hl : l.length < 1000000000000) : PCall Tryz.prog 63 [.sl n f (aA l)] fun x => x = .sl n false (aA l) :=
 PCall.ofA (args := [_]) (zht n f (aA l) (fun h => by rw [hn h]; rfl) ⟨rfl, .inl rfl, fun e he => (by cases he), dC _, by simp only [List.length_nil, aS]; omega⟩) fun r h' ⟨hr, hh⟩ => by subst hr; subst hh; exact ⟨_, rfl, rfl⟩
def clT (q : Bool × Bool × List Int) : List PV := [.sl q.1 q.2.1 (aA q.2.2)]
theorem zj3 (q : Bool × Bool × List Int) : (clT q).length = 1 := rfl
theorem zva (ht : fA rows) (hv : dT rows v) (n f : Bool) (L : List Int) (hn0 : n = true -> L = []) (hr : R32 L) (hL : L.length < 100000000) :
 PCall Tryz.prog 81 [v, .sl n f (aA L)] fun x => ∃ (n : Bool) (Q : List (Bool × Bool × List Int)), x = .sl n false (Q.map clT) /\ Q.map (fun q => q.2.2) = bF rows L 0 /\ (∀ q ∈ Q, q.1 = true -> q.2.2 = []) /\ (n = true -> Q = []) := by
 have hnx := fun k k0 k1 hb => zu8 ht hv n f L hr (by omega) k k0 k1 hb
 obtain ⟨tc, tg, tj, tf, tp, made, sec, rfl, ht', hm⟩ := hv
 refine zuu _ _ _ _ _ _ _ _ _ _
  (fun i n s => (0 <= i /\ i <= L.length) /\ (i.toNat = L.length ∨ c8 rows L i.toNat = true) /\ ∃ Q : List (Bool × Bool × List Int), s = Q.map clT /\ bF rows L 0 = Q.map (fun q => q.2.2) ++ bF rows L i.toNat /\ (∀ q ∈ Q, q.1 = true -> q.2.2 = []) /\ (n = true -> Q = []) /\ Q.length <= i.toNat) (fun i _ _ => L.length - i.toNat) ?_
 unfold zjs
 have hl8 : ((aA L).length : Int) = L.length := by rw [aS]
 rw [hl8]
 refine ⟨⟨rfl, ⟨Int.le_refl _, by omega⟩, .inr rfl, [], rfl, rfl, (fun q hq => by cases hq), (fun _ => rfl), Nat.le_refl _⟩, ?_⟩
 rintro i n2 _ ⟨⟨i0, i1⟩, hbeg, Q, rfl, hcl, hq, hnq, hql⟩
 refine aD (fun hc => ?_) (fun hc => ?_)
 ·simp only [decide_eq_true_eq] at hc
  have hi : i.toNat < L.length := by omega
  have hb := hbeg.resolve_left (by omega)
  obtain ⟨x1, x2, x3⟩ := nR (rows := rows) hi
  refine (hnx i i0 hc hb).mono ?_
  rintro _ rfl
  refine ⟨_, rfl, ⟨zax i0 (by omega) (by rw [aS]; omega), dC _⟩, ?_⟩
  rw [show (((bX rows L i.toNat : Nat) : Int)).toNat = bX rows L i.toNat by omega, zay]
  have hsl := zio L i.toNat (bX rows L i.toNat)
  have hsn : n = true -> dD L i.toNat (bX rows L i.toNat) = [] := fun h => by rw [hn0 h] at hi; cases hi
  refine (zu9 n _ (dD L i.toNat (bX rows L i.toNat)) hsn (by omega)).mono ?_
  rintro _ rfl
  refine ⟨_, _, _, rfl, ⟨pW (enc := clT) zj3 [(n, false, dD L i.toNat (bX rows L i.toNat))], by rw [List.length_map]; omega⟩, rfl, ⟨⟨by omega, by omega⟩, ?_, Q ++ [(n, false, dD L i.toNat (bX rows L i.toNat))], by rw [List.map_append]; rfl, ?_, fun q hq2 => ?_, fun h => by simp at h, ?_⟩, ?_⟩
  ·rw [show (((bX rows L i.toNat : Nat) : Int)).toNat = bX rows L i.toNat by omega]; exact x3
  ·rw [show (((bX rows L i.toNat : Nat) : Int)).toNat = bX rows L i.toNat by omega, hcl, tX hi, List.map_append, List.append_assoc]; rfl
  ·rcases List.mem_append.1 hq2 with hq2 | hq2
   ·exact hq q hq2
   ·rw [List.mem_singleton.1 hq2]; exact hsn
  ·rw [show (((bX rows L i.toNat : Nat) : Int)).toNat = bX rows L i.toNat by omega, List.length_append, List.length_singleton]; omega
  ·dsimp only; omega
 ·simp only [decide_eq_true_eq] at hc
  rw [mE (i := i.toNat) (by omega), List.append_nil] at hcl
  exact ⟨n2, Q, rfl, hcl.symm, hq, hnq⟩
end
end Go.Eng



namespace Go.Eng
open Go Go.Proofs Go.Eng.Rows Go.Eng.Trie Go.Eng.Srt
section
variable {rows : List Row}
theorem t7 (r : Int) : (aB rows 5 r = 1) ↔ bP rows 5 r = true := by
 unfold aB bP
 cases bM rows 5 r with
 | none => simp
 | some p => simp
theorem zj4 (a : Int) : PCall Tryz.prog 114 [.int .i64 a] fun x => x = .bool (cK a) := by
 refine zuv _ ?_; unfold zjt cK
 have hd : ∀ x y : Int, (x == y) = decide (x = y) := fun x y => by by_cases h : x = y <;> simp [h]
 simp only [hd, Bool.or_assoc]
theorem zvb (a b : Int) : PCall Tryz.prog 115 [.int .i64 a, .int .i64 b] fun x => x = .bool (mD a b) := by
 refine zuw _ _ ?_; unfold zju mD
 have hd : ∀ x y : Int, (x == y) = decide (x = y) := fun x y => by by_cases h : x = y <;> simp [h]
 simp only [hd]
 by_cases h9 : a = 9
 ·rw [if_pos (by simp [h9]), if_pos h9]; simp only [Bool.or_assoc]
 ·rw [if_neg (by simp [h9]), if_neg h9]
  by_cases h12 : a = 12 ∨ a = 10
  ·rw [if_pos (by simpa using h12), if_pos h12]
  ·rw [if_neg (by simpa using h12), if_neg h12]
   by_cases h13 : a = 13 ∨ a = 11
   ·rw [if_pos (by simpa using h13), if_pos h13]
   ·rw [if_neg (by simpa using h13), if_neg h13]
def nS (rows : List Row) (L : List Int) (x : Bool) (j : Nat) : Bool := if x = true then decide ((aY rows L 0 j).conj ≠ 0) else decide ((aY rows L 0 j).conj = 2)
theorem zvc (ht : fA rows) (L : List Int) (x : Bool) (j : Nat) : nS rows L x (j + 1) =
 if bQ rows (L.getD j 0) = 2 then x else if bQ rows (L.getD j 0) = 0 then false else if bQ rows (L.getD j 0) = 1 then nS rows L true j else nS rows L x j := by
 unfold nS
 rw [zt7]
 rcases ht.conj (L.getD j 0) with h | h | h | h <;> rw [h]
 ·cases x <;> simp
 ·by_cases h0 : (aY rows L 0 j).conj = 0
  ·cases x <;> simp [h0]
  ·cases x <;> simp [h0]
 ·cases x <;> simp
 ·by_cases h0 : (aY rows L 0 j).conj = 0
  ·cases x <;> simp [h0]
  ·cases x <;> simp [h0]
def mH (rows : List Row) (L : List Int) (j : Nat) : Bool := decide ((aY rows L 0 j).pict = 1)
theorem zvd (L : List Int) (j : Nat) : mH rows L (j + 1) = if bP rows 5 (L.getD j 0) = true then true else if aJ rows (L.getD j 0) ≠ 4 then false else mH rows L j := by
 unfold mH
 rw [zi7]
 generalize L.getD j 0 = r
 generalize (aY rows L 0 j).pict = p
 by_cases h1 : bP rows 5 r = true
 ·rw [if_pos h1, if_pos h1]; rfl
 ·rw [if_neg h1, if_neg h1]
  by_cases h2 : aJ rows r = 4
  ·by_cases h3 : p = 1
   ·simp [h2, h3]
   ·simp [h2, h3]
  ·by_cases h3 : aJ rows r = 5
   ·by_cases h4 : p = 1 <;> simp [h3, h4]
   ·simp [h2, h3]
theorem zve (ht : fA rows) (L : List Int) (k : Nat) : decide ((aY rows L 0 (k + 1)).pict = 2) = (decide (aJ rows (L.getD k 0) = 5) && mH rows L k) := by
 unfold mH
 rw [zi7]
 generalize L.getD k 0 = r
 generalize (aY rows L 0 k).pict = p
 by_cases h1 : bP rows 5 r = true
 ·have := (ht.pict _ h1).2
  rw [if_pos h1]; simp [this]
 ·rw [if_neg h1]
  by_cases h3 : p = 1
  ·by_cases h5 : aJ rows r = 5
   ·simp [h3, h5]
   ·by_cases h4 : aJ rows r = 4 <;> simp [h3, h5, h4]
  ·simp [h3]
def qT (rows : List Row) (L : List Int) (x : Int) (j : Nat) : Bool := if x.tmod 2 = 1 then !(aY rows L 0 j).odd else (aY rows L 0 j).odd
theorem zvf (L : List Int) {x : Int} (h0 : 0 <= x) (j : Nat) : qT rows L x (j + 1) = if aJ rows (L.getD j 0) = 6 then qT rows L (x + 1) j else decide (x.tmod 2 = 1) := by
 unfold qT
 rw [zt8]
 rw [Int.tmod_eq_emod_of_nonneg h0, Int.tmod_eq_emod_of_nonneg (by omega : 0 <= x + 1)]
 generalize aJ rows (L.getD j 0) = b
 generalize (aY rows L 0 j).odd = o
 by_cases h6 : b = 6
 ·rw [if_pos h6, h6]
  by_cases hx : x % 2 = 1
  ·rw [if_pos hx, if_neg (by omega)]; simp
  ·rw [if_neg hx, if_pos (by omega)]; simp
 ·rw [if_neg h6]
  by_cases hx : x % 2 = 1
  ·rw [if_pos hx]; simp [h6, hx]
  ·rw [if_neg hx]; simp [h6, hx]
variable (ht : fA rows) (n f n2 f2 : Bool) (hl : rows.length < 1000000) (L : List Int) (hr : R32 L) (hL : L.length < 1000000000000)
include ht hl hr hL
theorem zvg (k : Nat) (hk : k + 1 < L.length) : PCall Tryz.prog 116 [.sl n f (aZ rows), .sl n2 f2 (aA L), .int .i64 ((k + 1 : Nat) : Int)] fun x => x = .bool (decide (bQ rows (L.getD (k + 1) 0) = 2) && decide ((aY rows L 0 (k + 1)).conj = 2)) := by
 refine zux _ _ _ _ _ _ _ (fun x j => (-1 <= j /\ j < L.length) /\ decide ((aY rows L 0 (k + 1)).conj = 2) = nS rows L x (j + 1).toNat) (fun _ j => (j + 1).toNat) ?_
 unfold zjv
 obtain ⟨g1, g2⟩ := iC (l := L) (i := ((k + 1 : Nat) : Int)) (by omega) (by omega)
 rw [show (((k + 1 : Nat) : Int)).toNat = k + 1 by omega] at g2 ⊢
 refine ⟨g1, _, by rw [g2]; rfl, ?_⟩
 refine (zj2 n f hl (gH hr _)).mono ?_
 rintro _ rfl
 refine ⟨_, rfl, aD (fun hc => ?_) (fun hc => ?_)⟩
 ·simp only [bne_iff_ne, ne_eq] at hc
  rw [decide_eq_false hc, Bool.false_and]
 ·simp only [bne_iff_ne, ne_eq, Decidable.not_not] at hc
  rw [hc]
  have hw : i64.wrap (((k + 1 : Nat) : Int) - 1) = (k : Int) := by rw [aC (by omega) (by omega)]; omega
  rw [hw]
  refine ⟨⟨rfl, ⟨by omega, by omega⟩, by rw [show ((k : Int) + 1).toNat = k + 1 by omega]; rfl⟩, ?_⟩
  rintro x j ⟨⟨j0, j1⟩, he⟩
  simp only [decide_true, Bool.true_and]
  rw [he]
  refine aD (fun h => ?_) (fun h => ?_)
  ·simp only [decide_eq_true_eq, ge_iff_le] at h
   obtain ⟨g1, g2⟩ := iC (l := L) (i := j) h (by omega)
   refine ⟨g1, _, by rw [g2]; rfl, ?_⟩
   have hs := zvc ht L x j.toNat
   rw [show j.toNat + 1 = (j + 1).toNat by omega] at hs
   have hwj : i64.wrap (j - 1) = j - 1 := aC (by omega) (by omega)
   rw [hwj]
   refine (zj2 n f hl (gH hr _)).mono ?_
   rintro _ rfl
   refine ⟨_, rfl, aD (fun h2 => ?_) (fun h2 => aD (fun h0 => ?_) (fun h0 => aD (fun h1 => ?_) (fun h1 => ?_)))⟩
   ·simp only [beq_iff_eq] at h2
    rw [hs, if_pos h2]
   ·simp only [beq_iff_eq] at h2 h0
    rw [hs, if_neg h2, if_pos h0]
   ·simp only [beq_iff_eq] at h2 h0 h1
    rw [if_neg h2, if_neg h0, if_pos h1] at hs
    exact ⟨rfl, ⟨⟨by omega, by omega⟩, by rw [hs, show (j - 1 + 1).toNat = j.toNat by omega]⟩, by first | omega | (dsimp only; omega)⟩
   ·simp only [beq_iff_eq] at h2 h0 h1
    rw [if_neg h2, if_neg h0, if_neg h1] at hs
    exact ⟨rfl, ⟨⟨by omega, by omega⟩, by rw [hs, show (j - 1 + 1).toNat = j.toNat by omega]⟩, by first | omega | (dsimp only; omega)⟩
  ·simp only [decide_eq_true_eq, ge_iff_le] at h
   rw [show (j + 1).toNat = 0 by omega]
   unfold nS
   cases x <;> rfl
theorem zvh (k : Nat) (hk : k + 1 < L.length) : PCall Tryz.prog 117 [.sl n f (aZ rows), .sl n2 f2 (aA L), .int .i64 ((k + 1 : Nat) : Int)] fun x => x = .bool (bP rows 5 (L.getD (k + 1) 0) && decide ((aY rows L 0 (k + 1)).pict = 2)) := by
 refine zuy _ _ _ _ _ _ _ (fun j => (-1 <= j /\ j < L.length) /\ mH rows L k = mH rows L (j + 1).toNat) (fun j => (j + 1).toNat) ?_
 unfold zjw
 rw [zve ht]
 obtain ⟨g1, g2⟩ := iC (l := L) (i := ((k + 1 : Nat) : Int)) (by omega) (by omega)
 rw [show (((k + 1 : Nat) : Int)).toNat = k + 1 by omega] at g2 ⊢
 refine ⟨g1, _, by rw [g2]; rfl, ?_⟩
 refine (kW n f 5 _ hl (gH hr _)).mono ?_
 rintro _ rfl
 refine ⟨_, rfl, aD (fun hc => ?_) (fun hc => ?_)⟩
 ·simp only [bne_iff_ne, ne_eq, t7] at hc
  rw [Bool.eq_false_iff.2 hc, Bool.false_and]
 simp only [bne_iff_ne, ne_eq, Decidable.not_not, t7] at hc
 rw [hc]
 have hw : i64.wrap (((k + 1 : Nat) : Int) - 1) = (k : Int) := by rw [aC (by omega) (by omega)]; omega
 have hw2 : i64.wrap (((k + 1 : Nat) : Int) - 2) = (k : Int) - 1 := by rw [aC (by omega) (by omega)]; omega
 rw [hw, hw2]
 obtain ⟨k1, k2⟩ := iC (l := L) (i := (k : Int)) (by omega) (by omega)
 refine ⟨k1, _, by rw [k2]; rfl, ?_⟩
 rw [show ((k : Int)).toNat = k by omega]
 refine (mG n f hl (gH hr _)).mono ?_
 rintro _ rfl
 refine ⟨_, rfl, aD (fun h5 => ?_) (fun h5 => ?_)⟩
 ·simp only [bne_iff_ne, ne_eq] at h5
  rw [decide_eq_false h5, Bool.false_and, Bool.and_false]
 simp only [bne_iff_ne, ne_eq, Decidable.not_not] at h5
 rw [h5]
 simp only [decide_true, Bool.true_and]
 refine ⟨⟨rfl, ⟨by omega, by omega⟩, by rw [show ((k : Int) - 1 + 1).toNat = k by omega]⟩, ?_⟩
 rintro j ⟨⟨j0, j1⟩, he⟩
 rw [he]
 refine aD (fun h => ?_) (fun h => ?_)
 ·simp only [decide_eq_true_eq, ge_iff_le] at h
  obtain ⟨g1, g2⟩ := iC (l := L) (i := j) h (by omega)
  refine ⟨g1, _, by rw [g2]; rfl, ?_⟩
  have hs := zvd (rows := rows) L j.toNat
  rw [show j.toNat + 1 = (j + 1).toNat by omega] at hs
  have hwj : i64.wrap (j - 1) = j - 1 := aC (by omega) (by omega)
  rw [hwj]
  refine (kW n f 5 _ hl (gH hr _)).mono ?_
  rintro _ rfl
  refine ⟨_, rfl, aD (fun h2 => ?_) (fun h2 => ?_)⟩
  ·simp only [beq_iff_eq, t7] at h2
   rw [hs, if_pos h2]
  ·simp only [beq_iff_eq, t7] at h2
   refine ⟨g1, _, by rw [g2]; rfl, ?_⟩
   refine (mG n f hl (gH hr _)).mono ?_
   rintro _ rfl
   refine ⟨_, rfl, aD (fun h4 => ?_) (fun h4 => ?_)⟩
   ·simp only [bne_iff_ne, ne_eq] at h4
    rw [hs, if_neg h2, if_pos h4]
   ·simp only [bne_iff_ne, ne_eq, Decidable.not_not] at h4
    rw [if_neg h2, if_neg (fun h => h h4)] at hs
    exact ⟨rfl, ⟨⟨by omega, by omega⟩, by rw [hs, show (j - 1 + 1).toNat = j.toNat by omega]⟩, by first | omega | (dsimp only; omega)⟩
 ·simp only [decide_eq_true_eq, ge_iff_le] at h
  rw [show (j + 1).toNat = 0 by omega]; rfl
theorem zvi (k : Nat) (hk : k + 1 < L.length) : PCall Tryz.prog 118 [.sl n f (aZ rows), .sl n2 f2 (aA L), .int .i64 ((k + 1 : Nat) : Int)] fun x => x = .bool (decide (aJ rows (L.getD (k + 1) 0) = 6) && (aY rows L 0 (k + 1)).odd) := by
 have _ht := ht
 refine zuz _ _ _ _ _ _ _ (fun x j => (-1 <= j /\ j < L.length) /\ (0 <= x /\ x + j <= k) /\ (aY rows L 0 (k + 1)).odd = qT rows L x (j + 1).toNat) (fun _ j => (j + 1).toNat) ?_
 unfold zjx
 obtain ⟨g1, g2⟩ := iC (l := L) (i := ((k + 1 : Nat) : Int)) (by omega) (by omega)
 rw [show (((k + 1 : Nat) : Int)).toNat = k + 1 by omega] at g2 ⊢
 refine ⟨g1, _, by rw [g2]; rfl, ?_⟩
 refine (mG n f hl (gH hr _)).mono ?_
 rintro _ rfl
 refine ⟨_, rfl, aD (fun hc => ?_) (fun hc => ?_)⟩
 ·simp only [bne_iff_ne, ne_eq] at hc
  rw [decide_eq_false hc, Bool.false_and]
 simp only [bne_iff_ne, ne_eq, Decidable.not_not] at hc
 rw [hc]
 have hw : i64.wrap (((k + 1 : Nat) : Int) - 1) = (k : Int) := by rw [aC (by omega) (by omega)]; omega
 rw [hw]
 refine ⟨⟨rfl, ⟨by omega, by omega⟩, ⟨Int.le_refl _, by omega⟩, by rw [show ((k : Int) + 1).toNat = k + 1 by omega]; rfl⟩, ?_⟩
 rintro x j ⟨⟨j0, j1⟩, ⟨x0, x1⟩, he⟩
 simp only [decide_true, Bool.true_and]
 rw [he]
 have hx : ∀ y : Int, (y.tmod 2 == 1) = decide (y.tmod 2 = 1) := fun y => by by_cases h : y.tmod 2 = 1 <;> simp [h]
 refine aD (fun h => ?_) (fun h => ?_)
 ·simp only [decide_eq_true_eq, ge_iff_le] at h
  obtain ⟨g1, g2⟩ := iC (l := L) (i := j) h (by omega)
  refine ⟨g1, _, by rw [g2]; rfl, ?_⟩
  have hs := zvf (rows := rows) L x0 j.toNat
  rw [show j.toNat + 1 = (j + 1).toNat by omega] at hs
  have hwj : i64.wrap (j - 1) = j - 1 := aC (by omega) (by omega)
  have hwx : i64.wrap (x + 1) = x + 1 := aC (by omega) (by omega)
  rw [hwj, hwx]
  refine (mG n f hl (gH hr _)).mono ?_
  rintro _ rfl
  refine ⟨_, rfl, aD (fun h6 => ?_) (fun h6 => ?_)⟩
  ·simp only [beq_iff_eq] at h6
   rw [if_pos h6] at hs
   exact ⟨rfl, ⟨⟨by omega, by omega⟩, ⟨by omega, by omega⟩, by rw [hs, show (j - 1 + 1).toNat = j.toNat by omega]⟩, by first | omega | (dsimp only; omega)⟩
  ·simp only [beq_iff_eq] at h6
   rw [hs, if_neg h6, hx]
 ·simp only [decide_eq_true_eq, ge_iff_le] at h
  rw [show (j + 1).toNat = 0 by omega, hx]
  unfold qT
  show _ = PV.bool (if x.tmod 2 = 1 then !false else false)
  by_cases h1 : x.tmod 2 = 1 <;> simp [h1]
theorem zvj (k : Int) (k0 : 0 <= k) (k1 : k < L.length) : PCall Tryz.prog 76 [.sl n f (aZ rows), .sl n2 f2 (aA L), .int .i64 k] fun x => x = .bool (c8 rows L k.toNat) := by
 refine zu0 _ _ _ _ _ _ _ ?_; unfold zjy
 refine aD (fun h0 => ?_) (fun h0 => ?_)
 ·simp only [beq_iff_eq] at h0
  rw [h0]; rfl
 simp only [beq_iff_eq] at h0
 obtain ⟨j, rfl⟩ : ∃ j : Nat, k = ((j + 1 : Nat) : Int) := ⟨k.toNat - 1, by omega⟩
 have hw : i64.wrap (((j + 1 : Nat) : Int) - 1) = (j : Int) := by rw [aC (by omega) (by omega)]; omega
 rw [hw, show (((j + 1 : Nat) : Int)).toNat = j + 1 by omega, zt6 ht]
 obtain ⟨g1, g2⟩ := iC (l := L) (i := (j : Int)) (by omega) (by omega)
 obtain ⟨k1, k2⟩ := iC (l := L) (i := ((j + 1 : Nat) : Int)) (by omega) (by omega)
 rw [show (((j + 1 : Nat) : Int)).toNat = j + 1 by omega] at k2
 rw [show ((j : Int)).toNat = j by omega] at g2 ⊢
 refine ⟨g1, _, by rw [g2]; rfl, k1, _, by rw [k2]; rfl, ?_⟩
 have c1 := zvg ht n f n2 f2 hl L hr hL j (by omega)
 have c2 := zvh ht n f n2 f2 hl L hr hL j (by omega)
 have c3 := zvi ht n f n2 f2 hl L hr hL j (by omega)
 refine (mG n f hl (gH hr _)).mono ?_
 rintro _ rfl
 refine ⟨_, rfl, ?_⟩
 refine (mG n f hl (gH hr _)).mono ?_
 rintro _ rfl
 refine ⟨_, rfl, ?_⟩
 generalize aJ rows (L.getD j 0) = a at *
 generalize hb : aJ rows (L.getD (j + 1) 0) = b at *
 refine aD (fun h1 => ?_) (fun h1 => ?_)
 ·simp only [Bool.and_eq_true, beq_iff_eq] at h1
  rw [if_pos h1]
 simp only [Bool.and_eq_true, beq_iff_eq] at h1
 rw [if_neg h1]
 refine (zj4 a).mono ?_
 rintro _ rfl
 refine ⟨_, rfl, aD (fun h2 => ?_) (fun h2 => ?_)⟩
 ·rw [if_pos (.inl h2)]
 refine (zj4 b).mono ?_
 rintro _ rfl
 refine ⟨_, rfl, aD (fun h3 => ?_) (fun h3 => ?_)⟩
 ·rw [if_pos (.inr h3)]
 rw [if_neg (fun h => h.elim h2 h3)]
 refine (zvb a b).mono ?_
 rintro _ rfl
 refine ⟨_, rfl, aD (fun h4 => ?_) (fun h4 => ?_)⟩
 ·simp only [Bool.or_eq_true, beq_iff_eq] at h4
  rw [if_pos (by rcases h4 with (((h | h) | h) | h) | h; exact .inl h; exact .inr (.inl h); exact .inr (.inr (.inl h)); exact .inr (.inr (.inr (.inl h))); exact .inr (.inr (.inr (.inr h))))]
 simp only [Bool.or_eq_true, beq_iff_eq] at h4
 rw [if_neg (by rintro (h | h | h | h | h); exact h4 (.inl (.inl (.inl (.inl h)))); exact h4 (.inl (.inl (.inl (.inr h)))); exact h4 (.inl (.inl (.inr h))); exact h4 (.inl (.inr h)); exact h4 (.inr h))]
 refine c1.mono ?_
 rintro _ rfl
 refine ⟨_, rfl, ?_⟩
 generalize (decide (bQ rows (L.getD (j + 1) 0) = 2) && decide ((aY rows L 0 (j + 1)).conj = 2)) = x1
 cases x1 with
 | true => exact bK (by simp) rfl
 | false =>
   refine bG rfl ?_
   refine c2.mono ?_
   rintro _ rfl
   refine ⟨_, rfl, ?_⟩
   generalize (bP rows 5 (L.getD (j + 1) 0) && decide ((aY rows L 0 (j + 1)).pict = 2)) = x2
   cases x2 with
   | true => exact bK (by simp) rfl
   | false =>
     refine bG rfl ?_
     refine c3.mono ?_
     rintro _ rfl
     exact ⟨_, rfl, rfl⟩
theorem zvk (k : Int) : PCall Tryz.prog 34 [.sl n f (aZ rows), .sl n2 f2 (aA L), .int .i64 k] fun x => x = .bool (decide (0 <= k /\ k <= L.length) && (decide (k = L.length) || c8 rows L k.toNat)) := by
 refine zu1 _ _ _ _ _ _ _ ?_; unfold zjz
 have hl8 : ((aA L).length : Int) = L.length := by rw [aS]
 rw [hl8]
 refine aD (fun hc => ?_) (fun hc => ?_)
 ·simp only [Bool.or_eq_true, decide_eq_true_eq] at hc
  rw [decide_eq_false (by omega)]; rfl
 ·simp only [Bool.or_eq_true, decide_eq_true_eq] at hc
  rw [decide_eq_true (by omega : 0 <= k /\ k <= L.length)]
  refine aD (fun h => ?_) (fun h => ?_)
  ·simp only [beq_iff_eq] at h
   rw [decide_eq_true h]; rfl
  ·simp only [beq_iff_eq] at h
   rw [decide_eq_false h]
   refine (zvj ht n f n2 f2 hl L hr hL k (by omega) (by omega)).mono ?_
   rintro _ rfl
   exact ⟨_, rfl, rfl⟩
end
end Go.Eng



namespace Go.Eng
open Go Go.Proofs Go.Eng.Rows Go.Eng.Trie Go.Eng.Srt
theorem zj5 {len : Nat} {j : Int} (h0 : 0 <= j) (h2 : j <= len) : dB len none (some j) none := ⟨Int.le_refl _, h0, h2, trivial⟩
theorem zbh {len : Nat} {i : Int} (h0 : 0 <= i) (h2 : i <= len) : dB len (some i) none none := ⟨h0, h2, Int.le_refl _, trivial⟩
section
variable {rows : List Row} {v : PV}
theorem zj6 (hv : dT rows v) {r : Int} (hr : -2147483648 <= r /\ r <= 2147483647) : PCall Tryz.prog 79 [.int .i32 r, .ptr [v]] fun x => x = .bool (aB rows 1 r != 0) := by
 obtain ⟨tc, tg, tj, tf, tp, made, sec, rfl, ht, hm⟩ := hv
 refine ztm _ _ ?_; unfold ziq
 refine .inl ⟨_, rfl, ?_⟩
 refine (tF _ _ ht hr).mono ?_
 rintro _ rfl
 exact ⟨_, rfl, rfl⟩
theorem zvl (hv : dT rows v) (n f : Bool) (L : List Int) (hr : R32 L) (hL : L.length < 1000000000000) : PCall Tryz.prog 119 [.sl n f (aA L), .fn 79 [.ptr [v]]] fun x => ∃ m : Int, x = .int .i64 m /\
 ((m = -1 /\ ∀ x ∈ L, aB rows 1 x = 0) ∨ (0 <= m /\ m < L.length /\ (∀ x ∈ L.take m.toNat, aB rows 1 x = 0) /\ aB rows 1 (L.getD m.toNat 0) ≠ 0)) := by
 refine ztn _ _ _ _ (fun i => (0 <= i /\ i <= L.length) /\ ∀ x ∈ L.take i.toNat, aB rows 1 x = 0) (fun i => L.length - i.toNat) ?_
 unfold zir
 refine ⟨⟨rfl, ⟨Int.le_refl _, by omega⟩, fun x hx => by simp at hx⟩, ?_⟩
 rintro i ⟨⟨i0, i1⟩, hz⟩
 refine aD (fun hc => ?_) (fun hc => ?_)
 ·simp only [decide_eq_true_eq, aS] at hc
  have hi : i.toNat < L.length := by omega
  obtain ⟨g1, g2⟩ := iC i0 hi
  have hw : i64.wrap (i + 1) = i + 1 := aC (by omega) (by omega)
  rw [hw]
  refine ⟨g1, _, by rw [g2]; rfl, ?_⟩
  refine (zj6 hv (gH hr _)).mono ?_
  rintro _ rfl
  refine ⟨_, rfl, aD (fun h => ?_) (fun h => ?_)⟩
  ·simp only [bne_iff_ne, ne_eq] at h
   exact ⟨i, rfl, .inr ⟨i0, hc, hz, h⟩⟩
  ·simp only [bne_iff_ne, ne_eq, Decidable.not_not] at h
   refine ⟨rfl, ⟨⟨by omega, by omega⟩, fun x hx => ?_⟩, by dsimp only; omega⟩
   rw [show (i + 1).toNat = i.toNat + 1 by omega, cG hi] at hx
   rcases List.mem_append.1 hx with hx | hx
   ·exact hz x hx
   ·rw [List.mem_singleton.1 hx]
    rw [show L.getD i.toNat 0 = L[i.toNat] by simp [List.getD, hi]] at h; exact h
 ·simp only [decide_eq_true_eq, aS] at hc
  rw [List.take_of_length_le (by omega)] at hz
  exact ⟨-1, rfl, .inl ⟨rfl, hz⟩⟩
def kA (rows : List Row) (r : Int) : Bool := decide (aB rows 1 r = 0)
theorem zvm (hv : dT rows v) (nl : Bool) (L : List Int) (hr : R32 L) (hL : L.length < 1000000000000) : ACall Tryz.prog 77 [.own 0, .fn 79 [.box 1 0]] [.sl (21, 1) false nl (aA L), .box [.pv v]] fun r h' =>
 (r = .own 0 /\ L.filter (kA rows) = L /\ h' = [.sl (21, 1) false nl (aA L), .box [.pv v]]) ∨
 (∃ es k, r = .sub 0 0 k /\ h' = [.sl (21, 1) false nl es, .box [.pv v]] /\ es.length = L.length /\ es.take k = aA (L.filter (kA rows))) := by
 refine zto nl (aA L) v (fun i j s => (0 <= i /\ i < j /\ j <= L.length) /\ ∃ M : List Int, s = aA M /\ M.length = L.length /\ M.take i.toNat = (L.take j.toNat).filter (kA rows) /\ M.drop j.toNat = L.drop j.toNat) (fun _ j _ => L.length - j.toNat) ?_
 unfold zis
 refine (zvl hv nl false L hr hL).mono ?_
 rintro _ ⟨m, rfl, hm⟩
 refine ⟨m, rfl, rfl, ?_⟩
 rcases hm with ⟨rfl, hall⟩ | ⟨m0, m1, hall, hne⟩
 ·refine bG rfl (.inl ⟨rfl, ?_, rfl⟩)
  exact List.filter_eq_self.2 fun x hx => decide_eq_true (hall x hx)
 ·refine bK (by simp; omega) ?_
  have hmi : m.toNat < L.length := by omega
  have hw : i64.wrap (m + 1) = m + 1 := aC (by omega) (by omega)
  rw [hw]
  refine ⟨⟨rfl, ⟨m0, by omega, by omega⟩, L, rfl, rfl, ?_, rfl⟩, ?_⟩
  ·rw [show (m + 1).toNat = m.toNat + 1 by omega, cG hmi, List.filter_append]
   have e1 : (L.take m.toNat).filter (kA rows) = L.take m.toNat := List.filter_eq_self.2 fun x hx => decide_eq_true (hall x hx)
   have e2 : [L[m.toNat]].filter (kA rows) = [] := by
    rw [show L.getD m.toNat 0 = L[m.toNat] by simp [List.getD, hmi]] at hne
    simp [kA, hne]
   rw [e1, e2, List.append_nil]
  rintro i j _ ⟨⟨i0, ij, j1⟩, M, rfl, hml, htk, hdr⟩
  refine aD (fun hc => ?_) (fun hc => ?_)
  ·simp only [decide_eq_true_eq, aS] at hc
   have hj : j.toNat < L.length := by omega
   have hjM : j.toNat < M.length := by omega
   have hiM : i.toNat < M.length := by omega
   obtain ⟨g1, g2⟩ := e9 (l := M) (i := j) (by omega) hjM
   obtain ⟨k1, k2⟩ := e9 (l := M) (i := i) i0 hiM
   have hMj : M[j.toNat] = L[j.toNat] := by
    have := congrArg (fun l => l[0]?) hdr
    simpa [hj, hjM] using this
   have hdr2 : M.drop (j.toNat + 1) = L.drop (j.toNat + 1) := by
    have := congrArg (List.drop 1) hdr
    rwa [List.drop_drop, List.drop_drop] at this
   have hwi : i64.wrap (i + 1) = i + 1 := aC (by omega) (by omega)
   have hwj : i64.wrap (j + 1) = j + 1 := aC (by omega) (by omega)
   rw [hwi, hwj]
   refine ⟨g1, _, by rw [List.drop_zero, g2]; rfl, ?_⟩
   rw [hMj]
   refine (zj6 hv (hr _ (List.getElem_mem hj))).mono ?_
   rintro _ rfl
   refine ⟨_, rfl, rfl, aD (fun h => ?_) (fun h => ?_)⟩
   ·simp only [Bool.not_eq_true', bne_eq_false_iff_eq] at h
    refine ⟨k1, ⟨rfl, by rw [k2]; exact Nat.le_refl _⟩, ?_⟩
    rw [set1 k2, show (aA M).set i.toNat [PV.int .i32 L[j.toNat]] = aA (M.set i.toNat L[j.toNat]) by simp [aA, List.map_set]]
    refine ⟨rfl, ⟨⟨by omega, by omega, by omega⟩, M.set i.toNat L[j.toNat], rfl, by rw [List.length_set]; exact hml, ?_, ?_⟩, by dsimp only; omega⟩
    ·rw [show (i + 1).toNat = i.toNat + 1 by omega, show (j + 1).toNat = j.toNat + 1 by omega, cG (by rw [List.length_set]; exact hiM), cG hj, List.filter_append, List.take_set_of_le (Nat.le_refl _), htk, List.getElem_set_self]
     congr 1
     simp [kA, h]
    ·rw [show (j + 1).toNat = j.toNat + 1 by omega, List.drop_set_of_lt (by omega), hdr2]
   ·simp only [Bool.not_eq_true', bne_eq_false_iff_eq] at h
    refine ⟨rfl, ⟨⟨i0, by omega, by omega⟩, M, rfl, hml, ?_, ?_⟩, by dsimp only; omega⟩
    ·rw [show (j + 1).toNat = j.toNat + 1 by omega, cG hj, List.filter_append, htk]
     have : [L[j.toNat]].filter (kA rows) = [] := by simp [kA, h]
     rw [this, List.append_nil]
    ·rw [show (j + 1).toNat = j.toNat + 1 by omega, hdr2]
  ·simp only [decide_eq_true_eq, aS] at hc
   have hsl : (aP (aA M) i.toNat (List.replicate (((aA M).length : Int).toNat - i.toNat) [PV.int .i32 0])).length = M.length := by
    rw [iG _ _ _ (by rw [List.length_replicate, aS]; omega), aS]
   refine ⟨zbh i0 (by rw [aS]; omega), zj5 i0 (by rw [hsl]; omega), .inr ⟨_, i.toNat, rfl, rfl, by rw [hsl]; exact hml, ?_⟩⟩
   rw [List.take_of_length_le (l := L) (by omega)] at htk
   rw [<- htk]
   unfold aP
   rw [List.append_assoc, List.take_append_of_le_length (by rw [List.length_take, aS]; omega), List.take_take, Nat.min_self]
   simp [aA]
theorem qU (hp : cX rows) (hk : cY rows) (hv : dT rows v) (n f : Bool) (L : List Int) (hr : R32 L) (hL : L.length < 1000000) : PCall Tryz.prog 35 [v, .sl n f (aA L)] fun x => ∃ n f, x = .sl n f (aA (bH rows L)) := by
 have hv' := hv
 have h1 := ztz hp hk hv n f L hr hL
 obtain ⟨tc, tg, tj, tf, tp, made, sec, rfl, ht, hm⟩ := hv
 refine ztq _ _ _ _ _ _ _ _ _ _ ?_; unfold ziu
 refine h1.mono ?_
 rintro _ _ ⟨nl, rfl, rfl⟩
 refine ⟨(nl, _), ⟨rfl, rfl⟩, trivial, ?_⟩
 refine (zvm hv' nl (cS rows L) (qL hk hp hr) (zar hk hL)).mono ?_
 rintro _ _ (⟨rfl, he, rfl⟩ | ⟨es, k, rfl, rfl, hl, he⟩)
 ·refine .inl ⟨_, ⟨rfl, rfl⟩, ⟨trivial, ⟨rfl, rfl, rfl⟩, trivial⟩, nl, false, ?_⟩
  rw [<- he]; rfl
 ·refine .inr ⟨(es, k), ⟨rfl, rfl⟩, ⟨trivial, ⟨rfl, rfl, by rw [hl]; exact List.length_map _⟩, trivial⟩, nl, false, ?_⟩
  show PV.sl nl false (List.take (k - 0) (List.drop 0 es)) = _
  rw [Nat.sub_zero, List.drop_zero, he]; rfl
theorem zj7 (hp : cX rows) (hk : cY rows) (hv : dT rows v) (n f n2 f2 : Bool) (a b : List Int) (ha : R32 a) (hb : R32 b) (la : a.length < 1000000) (lb : b.length < 1000000) : PCall Tryz.prog 31 [v, .sl n f (aA a), .sl n2 f2 (aA b)] fun x => x = .bool (decide (bH rows a = bH rows b)) := by
 have h1 := qU hp hk hv n f a ha la
 have h2 := qU hp hk hv n2 f2 b hb lb
 have hl := qR hk a
 obtain ⟨tc, tg, tj, tf, tp, made, sec, rfl, ht, hm⟩ := hv
 refine ztr _ _ _ _ _ _ _ _ _ _ _ _ _ ?_; unfold ziv
 refine h1.mono ?_
 rintro _ ⟨n3, f3, rfl⟩
 refine ⟨_, _, _, rfl, ?_⟩
 refine h2.mono ?_
 rintro _ ⟨n4, f4, rfl⟩
 refine ⟨_, _, _, rfl, ?_⟩
 refine (zia n3 f3 n4 f4 _ _ (by omega)).mono ?_
 rintro _ rfl
 exact ⟨_, rfl, rfl⟩
end
end Go.Eng



namespace Go.Eng
open Go Go.Proofs Go.Eng.Rows Go.Eng.Trie Go.Eng.Srt
theorem zj8 : ∀ {C : List (List Int)}, (∀ c ∈ C, c ≠ []) -> C.length <= C.flatten.length
 | [], _ => Nat.le_refl _
 | c :: C, h => by
   have h1 := List.length_pos_iff.2 (h c List.mem_cons_self)
   have := zj8 fun x hx => h x (List.mem_cons_of_mem c hx)
   rw [List.flatten_cons, List.length_append, List.length_cons]; omega
theorem zbi (rows : List Row) (L : List Int) : (bF rows L 0).length <= L.length := by
 have := zj8 (zba (rows := rows) (L := L) L.length 0 (by omega))
 rwa [mF] at this
theorem zvn {rows : List Row} {L c : List Int} (h : c ∈ bF rows L 0) : ∀ x ∈ c, x ∈ L := fun x hx => by
 have : x ∈ (bF rows L 0).flatten := List.mem_flatten.2 ⟨c, h, hx⟩
 rwa [mF] at this
theorem zvo {rows : List Row} {L c : List Int} (hr : R32 L) (h : c ∈ bF rows L 0) : R32 c := fun x hx => hr x (zvn h x hx)
theorem zvp {C : List (List Int)} {c : List Int} (h : c ∈ C) : c.length <= C.flatten.length := by
 induction C with
 | nil => cases h
 | cons d C ih =>
   rw [List.flatten_cons, List.length_append]
   rcases List.mem_cons.1 h with rfl | h
   ·omega
   ·have := ih h; omega
theorem zj9 {rows : List Row} {L c : List Int} (h : c ∈ bF rows L 0) : c.length <= L.length := by
 have := zvp h
 rwa [mF] at this
theorem mI {α : Type} {l : List α} {i : Nat} (d : α) (h : i < l.length) : l.getD i d = l[i] := by simp [List.getD, h]
def qV (rows : List Row) (C : List (List Int)) (s : List (List PV)) : Prop := s.length = C.length /\ ∀ i, i < C.length -> ∃ n f, s.getD i [] = [.int .i64 (bJ C i : Nat), .int .i64 (bJ C (i + 1) : Nat), .sl n f (aA (bH rows (C.getD i [])))]
def qW : Option (Nat × Nat) -> PV
 | some (a, b) => .tup [.int .i64 a, .int .i64 b, .bool true]
 | none => .tup [.int .i64 0, .int .i64 0, .bool false]
section
variable {rows : List Row} {v : PV}
theorem qAt {C : List (List Int)} {Q : List (Bool × Bool × List Int)} (hQ : Q.map (fun q => q.2.2) = C) {i : Int} (i0 : 0 <= i) (hi : i.toNat < C.length) : aK (Q.map clT) i 1 /\ ∃ n f, (Q.map clT).getD i.toNat [] = [.sl n f (aA (C.getD i.toNat []))] := by
 subst hQ
 rw [List.length_map] at hi
 refine ⟨bW zj3 i0 (by omega), Q[i.toNat].1, Q[i.toNat].2.1, ?_⟩
 rw [cN hi, mI [] (by rw [List.length_map]; exact hi), List.getElem_map]; rfl
theorem zka (ht : fA rows) (hp : cX rows) (hk : cY rows) (hv : dT rows v) (n f : Bool) (L : List Int) (hn0 : n = true -> L = []) (hr : R32 L) (hL : L.length < 100000) :
 PCall Tryz.prog 69 [v, .sl n f (aA L)] fun x => ∃ (n f : Bool) (s : List (List PV)), x = .sl n f s /\ qV rows (bF rows L 0) s := by
 have h1 := zva ht hv n f L hn0 hr (by omega)
 have h2 := fun n f c hc => qU hp hk hv n f c (zvo (rows := rows) hr hc) (by have := zj9 hc; omega)
 obtain ⟨tc, tg, tj, tf, tp, made, sec, rfl, ht', hm⟩ := hv
 have hcc := zbi rows L
 have hfl : (bF rows L 0).flatten.length = L.length := by rw [mF]
 generalize bF rows L 0 = C at *
 refine zts _ _ _ _ _ _ _ _ _ _
  (fun x6 n11 f11 s11 x12 x13 _ s => (∃ Q : List (Bool × Bool × List Int), s11 = Q.map clT /\ Q.map (fun q => q.2.2) = C) /\ x12 = C.length /\ (0 <= x13 /\ x13 <= C.length) /\ x6 = (bJ C x13.toNat : Nat) /\ s.length = x13.toNat /\
   ∀ i, i < x13.toNat -> ∃ n f, s.getD i [] = [.int .i64 (bJ C i : Nat), .int .i64 (bJ C (i + 1) : Nat), .sl n f (aA (bH rows (C.getD i [])))]) (fun _ _ _ _ _ x13 _ _ => C.length - x13.toNat) ?_
 unfold ziw
 refine h1.mono ?_
 rintro _ ⟨n1, Q, rfl, hQ, _, _⟩
 refine ⟨_, _, _, rfl, ⟨rfl, ⟨Q, rfl, hQ⟩, by rw [List.length_map, <- hQ, List.length_map], ⟨Int.le_refl _, by omega⟩, by simp [bJ], rfl, fun i hi => by simp at hi⟩, ?_⟩
 rintro x6 n11 f11 _ _ x13 n0 s ⟨⟨Q, rfl, hQ⟩, rfl, ⟨i0, i1⟩, rfl, hsl, hs⟩
 refine aD (fun hc => ?_) (fun hc => ?_)
 ·simp only [decide_eq_true_eq] at hc
  have hi : x13.toNat < C.length := by omega
  obtain ⟨g1, n2, f2, g2⟩ := qAt hQ i0 hi
  have hmem : C.getD x13.toNat [] ∈ C := by rw [mI [] hi]; exact List.getElem_mem hi
  have hps := t6 hi
  have hpl := qS C (x13.toNat + 1)
  have hw : i64.wrap (((bJ C x13.toNat : Nat) : Int) + ((aA (C.getD x13.toNat [])).length : Int)) = (bJ C (x13.toNat + 1) : Nat) := by
   rw [aS, aC (by omega) (by omega)]; omega
  have hwi : i64.wrap (x13 + 1) = x13 + 1 := aC (by omega) (by omega)
  refine ⟨g1, _, _, _, by rw [g2]; rfl, ?_⟩
  refine (h2 n2 f2 _ hmem).mono ?_
  rintro _ ⟨n3, f3, rfl⟩
  rw [hw, hwi]
  refine ⟨_, _, _, rfl, ⟨fun e he => by cases he; rfl, by omega⟩, rfl, ⟨⟨Q, rfl, hQ⟩, rfl, ⟨by omega, by omega⟩, by rw [show (x13 + 1).toNat = x13.toNat + 1 by omega], by rw [List.length_append, List.length_singleton]; omega, fun i hil => ?_⟩, by dsimp only; omega⟩
  by_cases hie : i < x13.toNat
  ·obtain ⟨n4, f4, h4⟩ := hs i hie
   exact ⟨n4, f4, by rw [<- h4]; simp [List.getD, List.getElem?_append_left (show i < s.length by omega)]⟩
  ·have : i = x13.toNat := by omega
   subst this
   exact ⟨n3, f3, by rw [List.getD, List.getElem?_append_right (by omega), hsl, Nat.sub_self]; rfl⟩
 ·simp only [decide_eq_true_eq] at hc
  have hxe : x13.toNat = C.length := by omega
  exact ⟨n0, false, s, rfl, by omega, fun i hi => hs i (by omega)⟩
theorem zkb (ht : fA rows) (hp : cX rows) (hk : cY rows) (hv : dT rows v) (n f n2 f2 : Bool) (L P : List Int) (hn0 : n = true -> L = []) (hr : R32 L) (hL : L.length < 100000) (hr2 : R32 P) (hL2 : P.length < 1000000) :
 PCall Tryz.prog 27 [v, .sl n f (aA L), .sl n2 f2 (aA P)] fun x => x = qW (gG rows L P) := by
 have h1 := zka ht hp hk hv n f L hn0 hr hL
 have h2 := qU hp hk hv n2 f2 P hr2 hL2
 have hwl := qR hk P
 have hkl := fun (c : List Int) (hc : c ∈ bF rows L 0) => (Nat.le_trans (qR hk c) (Nat.mul_le_mul_left 768 (zj9 hc)))
 obtain ⟨tc, tg, tj, tf, tp, made, sec, rfl, ht', hm⟩ := hv
 have hcc := zbi rows L
 unfold gG
 generalize hwant : bH rows P = want at *
 generalize bF rows L 0 = C at *
 obtain ⟨ks, hks⟩ : ∃ ks, ks = C.map (bH rows) := ⟨_, rfl⟩
 have hksl : ks.length = C.length := by rw [hks, List.length_map]
 have hkg : ∀ i, i < C.length -> ks.getD i [] = bH rows (C.getD i []) := fun i hi => by
  rw [hks, mI [] (by rw [List.length_map]; exact hi), List.getElem_map, mI [] hi]
 rw [<- hks]
 refine ztt _ _ _ _ _ _ _ _ _ _ _ _ _
  (fun n9 f9 s9 n10 f10 s10 x26 x27 => s9 = aA want /\ qV rows C s10 /\ x26 = C.length /\ (0 <= x27 /\ x27 <= C.length) /\ fB ks want 0 C.length = fB ks want x27.toNat (C.length - x27.toNat)) (fun _ _ _ _ _ _ _ x27 => C.length - x27.toNat)
  (fun _ _ _ _ _ _ _ _ _ _ _ _ y27 _ _ _ _ _ n9 f9 s9 n10 f10 s10 x11 n12 f12 s12 x13 x26 x27 n33 f33 s33 x34 x35 => s9 = aA want /\ qV rows C s10 /\ x26 = C.length /\ (y27 = x27 /\ y27 = x11 /\ x13 = true) /\ (0 <= y27 /\ y27 < C.length) /\ s33 = s10.drop y27.toNat /\ x34 = C.length - y27 /\ (0 <= x35 /\ x35 <= x34) /\
   fB ks want 0 C.length = fB ks want y27.toNat (C.length - y27.toNat) /\
   ∃ rest key : List Int, s12 = aA rest /\ rest ≠ [] /\ key ++ rest = want /\ key.length + j9 ks (y27.toNat + x35.toNat) = j9 ks y27.toNat /\ fJ ks want [] y27.toNat (C.length - y27.toNat) = inK ks rest (y27.toNat + x35.toNat) (C.length - y27.toNat - x35.toNat))
  (fun _ _ _ _ _ _ _ _ _ _ _ _ _ _ _ _ x34 x35 => (x34 - x35).toNat) ?_
 unfold zix
 refine h2.mono ?_
 rintro _ ⟨n1, f1, rfl⟩
 refine ⟨_, _, _, rfl, aD (fun hc => ?_) (fun hc => ?_)⟩
 ·simp only [beq_iff_eq, aS] at hc
  have : want = [] := List.eq_nil_of_length_eq_zero (by omega)
  rw [if_pos this]; rfl
 simp only [beq_iff_eq, aS] at hc
 have hw0 : want ≠ [] := fun e => by rw [e] at hc; exact hc rfl
 rw [if_neg hw0]
 refine h1.mono ?_
 rintro _ ⟨n3, f3, s, rfl, hs⟩
 refine ⟨_, _, _, rfl, ⟨rfl, rfl, hs, by rw [hs.1], ⟨Int.le_refl _, by omega⟩, rfl⟩, ?_⟩
 rintro n9 f9 _ n10 f10 s10 _ i ⟨rfl, hs10, rfl, ⟨i0, i1⟩, ho⟩
 have hdl : List.take ((s10.length : Int)).toNat s10 = s10 := List.take_of_length_le (by omega)
 have szd : ∀ s10 : List (List PV), qV rows C s10 -> aT s10 3 := fun s hs e he => by
  cases hl : s with
  | nil => rw [hl] at he; cases he
  | cons a b =>
    obtain ⟨n4, f4, h4⟩ := hs.2 0 (by have := hs.1; rw [hl, List.length_cons] at this; omega)
    rw [hl] at he h4
    cases he
    rw [show e = _ from h4]; rfl
 refine aD (fun hc2 => ?_) (fun hc2 => ?_)
 ·simp only [decide_eq_true_eq] at hc2
  have hi : i.toNat < C.length := by omega
  rw [hdl]
  have hdrl : (s10.drop i.toNat).length = C.length - i.toNat := by rw [List.length_drop, hs10.1]
  refine ⟨⟨zbh i0 (by rw [hs10.1]; omega), szd _ hs10⟩, ⟨rfl, rfl, hs10, rfl, ⟨rfl, rfl, rfl⟩, ⟨i0, hc2⟩, rfl, by rw [hdrl]; omega, ⟨Int.le_refl _, by omega⟩, ho, want, [], rfl, hw0, rfl, by simp, ?_⟩, ?_⟩
  ·show fJ ks want [] i.toNat (C.length - i.toNat) = inK ks want i.toNat (C.length - i.toNat)
   exact (zjc (key := []) hw0 rfl).symm
  rintro n91 f91 _ n101 f101 s101 _ n12 f12 _ _ _ _ n33 f33 _ _ j ⟨rfl, hs101, rfl, ⟨rfl, rfl, rfl⟩, ⟨_, _⟩, rfl, rfl, ⟨j0, j1⟩, ho2, rest, key, rfl, hrest, hkey, hsz, href⟩
  have hrl : rest.length <= want.length := by rw [<- hkey, List.length_append]; omega
  have hwi : i64.wrap (i + 1) = i + 1 := aC (by omega) (by omega)
  have outNext : fJ ks want [] i.toNat (C.length - i.toNat) = none -> fB ks want i.toNat (C.length - i.toNat) = fB ks want (i + 1).toNat (C.length - (i + 1).toNat) := fun h => by
   rw [show C.length - i.toNat = (C.length - (i + 1).toNat) + 1 by omega, fB, show C.length - (i + 1).toNat + 1 = C.length - i.toNat by omega, h, show (i + 1).toNat = i.toNat + 1 by omega]
  rw [hwi]
  refine aD (fun hc3 => ?_) (fun hc3 => ?_)
  ·simp only [decide_eq_true_eq] at hc3
   have hij : i.toNat + j.toNat < C.length := by omega
   obtain ⟨n4, f4, hg⟩ := hs101.2 _ hij
   have hg2 : (s101.drop i.toNat).getD j.toNat [] = s101.getD (i.toNat + j.toNat) [] := by simp [List.getD, List.getElem?_drop]
   have hkj := hkg _ hij
   have hsz2 := za9 (ks := ks) (k := i.toNat + j.toNat) (by omega)
   have hwj : i64.wrap (j + 1) = j + 1 := aC (by omega) (by omega)
   rw [show C.length - i.toNat - j.toNat = (C.length - i.toNat - (j + 1).toNat) + 1 by omega, inK, hkj] at href
   rw [hkj] at hsz2
   have hkl2 := hkl _ (show C.getD (i.toNat + j.toNat) [] ∈ C by rw [mI [] hij]; exact List.getElem_mem hij)
   generalize bH rows (C.getD (i.toNat + j.toNat) []) = kk at *
   refine ⟨⟨j0, by rw [List.length_drop, hs101.1]; omega, by rw [hg2, hg]; rfl⟩, _, by rw [hg2, hg]; rfl, _, by rw [hg2, hg]; rfl, _, _, _, by rw [hg2, hg]; rfl, ?_⟩
   rw [hwj]
   have hnp : ∀ h : ¬kk = rest.take kk.length, True := fun _ => trivial
   refine aD (fun hc4 => ?_) (fun hc4 => ?_)
   ·simp only [decide_eq_true_eq, aS, gt_iff_lt] at hc4
    have hne : ¬kk = rest.take kk.length := fun e => by
     have := congrArg List.length e
     rw [List.length_take] at this; omega
    rw [if_neg hne] at href
    exact ⟨rfl, ⟨rfl, hs101, rfl, ⟨by omega, by omega⟩, by rw [ho2, outNext href]⟩, by dsimp only; omega⟩
   ·simp only [decide_eq_true_eq, aS, gt_iff_lt] at hc4
    have htk : List.drop 0 (List.take ((aA kk).length : Int).toNat (aA rest)) = aA (rest.take kk.length) := by simp [aA]
    have hdk : List.drop ((aA kk).length : Int).toNat (List.take ((aA rest).length : Int).toNat (aA rest)) = aA (rest.drop kk.length) := by rw [List.take_of_length_le (by omega)]; simp [aA]
    rw [htk, hdk]
    refine ⟨⟨zj5 (by omega) (by rw [aS, aS]; omega), dC _⟩, ?_⟩
    refine (zia n4 f4 n12 _ kk (rest.take kk.length) (by omega)).mono ?_
    rintro _ rfl
    refine ⟨_, rfl, aD (fun h5 => ?_) (fun h5 => ?_)⟩
    ·simp only [Bool.not_eq_true', decide_eq_false_iff_not] at h5
     rw [if_neg h5] at href
     exact ⟨rfl, ⟨rfl, hs101, rfl, ⟨by omega, by omega⟩, by rw [ho2, outNext href]⟩, by dsimp only; omega⟩
    ·simp only [Bool.not_eq_true', decide_eq_false_iff_not, Decidable.not_not] at h5
     rw [if_pos h5] at href
     refine ⟨⟨zbh (by omega) (by rw [aS, aS]; omega), dC _⟩, aD (fun h6 => ?_) (fun h6 => ?_)⟩
     ·simp only [beq_iff_eq, aS, List.length_drop] at h6
      rw [if_pos (by omega)] at href
      obtain ⟨n5, f5, hg5⟩ := hs101.2 i.toNat (by omega)
      refine ⟨⟨by omega, by rw [hs101.1]; omega, by rw [hg5]; rfl⟩, _, by rw [hg5]; rfl, ?_⟩
      rw [ho2, show C.length - i.toNat = (C.length - (i + 1).toNat) + 1 by omega, fB, show C.length - (i + 1).toNat + 1 = C.length - i.toNat by omega, href]
      rfl
     ·simp only [beq_iff_eq, aS, List.length_drop] at h6
      rw [if_neg (by omega)] at href
      refine ⟨rfl, ⟨rfl, hs101, rfl, ⟨rfl, rfl, rfl⟩, ⟨by omega, by omega⟩, rfl, rfl, ⟨by omega, by omega⟩, ho2, rest.drop kk.length, key ++ kk, rfl, fun e => ?_, ?_, ?_, ?_⟩, by dsimp only; omega⟩
      ·have := congrArg List.length e
       rw [List.length_drop, List.length_nil] at this; omega
      ·rw [List.append_assoc, <- hkey]
       congr 1
       have := List.take_append_drop kk.length rest
       rw [<- h5] at this; exact this
      ·rw [List.length_append, show i.toNat + (j + 1).toNat = i.toNat + j.toNat + 1 by omega]; omega
      ·rw [href, show i.toNat + (j + 1).toNat = i.toNat + j.toNat + 1 by omega]
  ·simp only [decide_eq_true_eq] at hc3
   refine bG rfl ?_
   have hje : i.toNat + j.toNat = C.length := by omega
   rw [hje] at hsz
   have hz : j9 ks C.length = 0 := by unfold j9; rw [<- hksl, List.drop_length]; rfl
   rw [ho2, zje (by omega) (by rw [<- hkey, List.length_append]; have := List.length_pos_iff.2 hrest; omega)]; rfl
 ·simp only [decide_eq_true_eq] at hc2
  rw [ho, show C.length - i.toNat = 0 by omega]; rfl
end
end Go.Eng



namespace Go.Eng
open Go Go.Proofs Go.Eng.Rows Go.Eng.Trie Go.Eng.Srt
section
variable {rows : List Row} {v : PV}
def t8 (rows : List Row) (L : List Int) : List Int := (bF rows L 0).flatMap (gE rows)
theorem zvq (hk : cY rows) (c : List Int) : (gE rows c).length <= 768 * c.length := by
 unfold gE
 split
 ·omega
 ·exact qR hk c
theorem zkc (hk : cY rows) : ∀ C : List (List Int), (C.flatMap (gE rows)).length <= 768 * C.flatten.length
 | [] => Nat.le_refl _
 | c :: C => by
   have := zvq hk c
   have := zkc hk C
   rw [List.flatMap_cons, List.flatten_cons, List.length_append, List.length_append]; omega
theorem zkd (hk : cY rows) (C : List (List Int)) (i : Nat) : ((C.take i).flatMap (gE rows)).length <= 768 * C.flatten.length := by
 have h1 := zkc hk (C.take i)
 have h2 := qS C i
 unfold bJ at h2; omega
theorem zvr {C : List (List Int)} {i : Nat} (hi : i < C.length) : dD C.flatten (bJ C i) (bJ C (i + 1)) = C.getD i [] := by
 rw [zja C (by omega), cG hi, List.drop_left' (by rw [List.length_take]; omega), mI [] hi]; simp
theorem zvs {C : List (List Int)} {i : Nat} (hi : i < C.length) : (C.take (i + 1)).flatMap (gE rows) = (C.take i).flatMap (gE rows) ++ gE rows (C.getD i []) := by
 rw [cG hi, List.flatMap_append, mI [] hi]; simp
theorem zke (ht : fA rows) (hp : cX rows) (hk : cY rows) (hv : dT rows v) (n f : Bool) (L : List Int) (hn0 : n = true -> L = []) (hr : R32 L) (hL : L.length < 100000) :
 PCall Tryz.prog 37 [v, .sl n f (aA L)] fun x => ∃ n f, x = .sl n f (aA (t8 rows L)) := by
 have h1 := zka ht hp hk hv n f L hn0 hr hL
 obtain ⟨tc, tg, tj, tf, tp, made, sec, rfl, ht', hm⟩ := hv
 have hcc := zbi rows L
 have hfl := mF rows L
 unfold t8
 generalize bF rows L 0 = C at *
 refine ztu _ _ _ _ _ _ _ _ _ _
  (fun n10 f10 s10 x11 x12 _ s => qV rows C s10 /\ x11 = C.length /\ (0 <= x12 /\ x12 <= C.length) /\ s = aA ((C.take x12.toNat).flatMap (gE rows))) (fun _ _ _ _ x12 _ _ => C.length - x12.toNat) ?_
 unfold ziy
 refine h1.mono ?_
 rintro _ ⟨n1, f1, s, rfl, hs⟩
 refine ⟨_, _, _, rfl, ⟨rfl, hs, by rw [hs.1], ⟨Int.le_refl _, by omega⟩, rfl⟩, ?_⟩
 rintro n10 f10 s10 _ i n0 _ ⟨hs10, rfl, ⟨i0, i1⟩, rfl⟩
 refine aD (fun hc => ?_) (fun hc => ?_)
 ·simp only [decide_eq_true_eq] at hc
  have hi : i.toNat < C.length := by omega
  obtain ⟨n2, f2, hg⟩ := hs10.2 _ hi
  have hwi : i64.wrap (i + 1) = i + 1 := aC (by omega) (by omega)
  have hb1 := zkd hk C i.toNat
  have hb2 := zkd hk C (i.toNat + 1)
  have hsn := zvs (rows := rows) hi
  have hlen := congrArg List.length hsn
  rw [List.length_append] at hlen
  have hll : C.flatten.length = L.length := by rw [hfl]
  have hnx : (i + 1).toNat = i.toNat + 1 := by omega
  refine ⟨⟨i0, by rw [hs10.1]; omega, by rw [hg]; rfl⟩, _, by rw [hg]; rfl, _, by rw [hg]; rfl, _, _, _, by rw [hg]; rfl, ?_⟩
  rw [hwi]
  refine aD (fun h0 => ?_) (fun h0 => ?_)
  ·simp only [beq_iff_eq, aS] at h0
   have hk0 : bH rows (C.getD i.toNat []) = [] := List.eq_nil_of_length_eq_zero (by omega)
   have hbc : gE rows (C.getD i.toNat []) = C.getD i.toNat [] := by unfold gE; rw [if_pos hk0]
   rw [hbc] at hsn hlen
   have hp1 := qS C (i.toNat + 1)
   have hps := t6 hi
   rw [show (((bJ C i.toNat : Nat) : Int)).toNat = bJ C i.toNat by omega, show (((bJ C (i.toNat + 1) : Nat) : Int)).toNat = bJ C (i.toNat + 1) by omega, zay, <- hfl, zvr hi, <- fW, <- hsn]
   refine ⟨⟨zax (by omega) (by omega) (by rw [aS]; omega), dC _⟩, ⟨dC _, by rw [aS, aS]; omega⟩, rfl, ⟨hs10, rfl, ⟨by omega, by omega⟩, by rw [hnx]⟩, by dsimp only; omega⟩
  ·simp only [beq_iff_eq, aS] at h0
   have hk0 : bH rows (C.getD i.toNat []) ≠ [] := fun e => by rw [e] at h0; exact h0 rfl
   have hbc : gE rows (C.getD i.toNat []) = bH rows (C.getD i.toNat []) := by unfold gE; rw [if_neg hk0]
   rw [hbc] at hsn hlen
   rw [<- fW, <- hsn]
   refine ⟨⟨dC _, by rw [aS, aS]; omega⟩, rfl, ⟨hs10, rfl, ⟨by omega, by omega⟩, by rw [hnx]⟩, by dsimp only; omega⟩
 ·simp only [decide_eq_true_eq] at hc
  rw [List.take_of_length_le (by omega)]
  exact ⟨_, _, rfl⟩
theorem zvt (hp : cX rows) (hk : cY rows) (n f n2 f2 : Bool) (hrl : rows.length < 1000000) (L : List Int) (hr : R32 L) (hL : L.length < 1000000) : PCall Tryz.prog 33 [.sl n f (aZ rows), .sl n2 f2 (aA L)] fun x => ∃ n f, x = .sl n f (aA (bH rows L)) := by
 have hll := zar hk hL
 have hnl := qM hk L
 have hrr := qL hk hp hr
 refine ztv _ _ _ _ _ _ (fun n6 f6 s6 i _ s => s6 = aA (cS rows L) /\ (0 <= i /\ i <= (cS rows L).length) /\ s = aA (((cS rows L).take i.toNat).filter fun r => decide (aB rows 1 r = 0))) (fun _ _ _ i _ _ => (cS rows L).length - i.toNat) ?_
 unfold ziz
 refine (zaq hp hk n f n2 f2 hrl L hr hL).mono ?_
 rintro _ ⟨n1, f1, rfl⟩
 unfold bH
 generalize cS rows L = D at *
 refine ⟨_, _, _, rfl, ⟨rfl, rfl, ⟨Int.le_refl _, by omega⟩, rfl⟩, ?_⟩
 rintro n6 f6 _ i n0 _ ⟨rfl, ⟨i0, i1⟩, rfl⟩
 refine aD (fun hc => ?_) (fun hc => ?_)
 ·simp only [decide_eq_true_eq, aS] at hc
  have hi : i.toNat < D.length := by omega
  obtain ⟨g1, g2⟩ := e9 i0 hi
  have hw : i64.wrap (i + 1) = i + 1 := aC (by omega) (by omega)
  have hcl : ((D.take i.toNat).filter fun r => decide (aB rows 1 r = 0)).length <= i.toNat := Nat.le_trans (List.length_filter_le _ _) (by rw [List.length_take]; omega)
  have hnx : (i + 1).toNat = i.toNat + 1 := by omega
  refine ⟨g1, _, by rw [g2]; rfl, ?_⟩
  refine (qC n f _ hrl (hrr _ (List.getElem_mem hi))).mono ?_
  rintro _ rfl
  rw [hw]
  refine ⟨_, rfl, aD (fun h => ?_) (fun h => ?_)⟩
  ·simp only [beq_iff_eq] at h
   have e : aA ((D.take i.toNat).filter fun r => decide (aB rows 1 r = 0)) ++ [[PV.int .i32 D[i.toNat]]] = aA ((D.take (i + 1).toNat).filter fun r => decide (aB rows 1 r = 0)) := by
    rw [hnx, cG hi, List.filter_append, fW]
    congr 1
    simp [h, aA]
   refine ⟨g1, _, by rw [g2]; rfl, ⟨dC [_], by rw [aS]; omega⟩, ?_⟩
   rw [e]
   exact ⟨rfl, ⟨rfl, ⟨by omega, by omega⟩, rfl⟩, by dsimp only; omega⟩
  ·simp only [beq_iff_eq] at h
   refine ⟨rfl, ⟨rfl, ⟨by omega, by omega⟩, ?_⟩, by dsimp only; omega⟩
   rw [hnx, cG hi, List.filter_append]
   have : ([D[i.toNat]].filter fun r => decide (aB rows 1 r = 0)) = [] := by simp [h]
   rw [this, List.append_nil]
 ·simp only [decide_eq_true_eq, aS] at hc
  rw [List.take_of_length_le (by omega)]
  exact ⟨_, _, rfl⟩
end
end Go.Eng



namespace Go.Eng.Rows
open Go Go.Eng Go.Eng.Trie Go.Eng.Srt
section
variable {rows : List Row}
theorem zvu {r : Int} (h : dO rows r = false) (hn : aH rows r ≠ (0, 0)) : (aH rows r).2 ≠ 0 /\ aB rows 1 r = 0 /\ aB rows 1 (aH rows r).1 = 0 := by
 unfold dO at h
 simp [hn] at h
 exact ⟨h.1, h.2.2.1, h.2.2.2⟩
theorem zvv (h1 : eB rows) (hks : ∀ r, bN r = true -> aB rows 1 r = 0) {a b c : Int} (h : fG rows a b = some c) : aB rows 1 c = 0 := by
 unfold fG at h
 split at h
 ·rename_i s hj; cases h; exact hks _ (zau hj)
 ·obtain ⟨q1, q2, q3, _⟩ := zat h1 h
  exact (zvu q3 (by rw [q1]; intro e; exact q2 (Prod.mk.inj e).2)).2.1
theorem zvw (h1 : eB rows) (hks : ∀ r, bN r = true -> aB rows 1 r = 0) (d : List Int) : ∀ a, (bE rows d).s = some a -> aB rows 1 a = 0 := by
 induction d using fX with
 | h0 => intro a h; cases h
 | h1 d r ih =>
   rw [fH]
   rcases qO rows (bE rows d) r with e | ⟨b, c, hs, hp, _, e⟩
   ·rw [e]
    unfold cV
    split
    ·rename_i h0; intro a h; cases h; exact h0
    ·exact ih
   ·rw [e]
    intro a h; cases h; exact zvv h1 hks hp
end
end Go.Eng.Rows



namespace Go.Eng
open Go Go.Proofs
section
variable (n f : Bool) (es : LL) (r : Int)
def zkf (R : PV -> Prop) : Prop :=
 PCall Tryz.prog 111 [PV.sl n f es, Z3 r] fun v => ∃ vs, v = PV.tup vs /\ vs.length = 3 /\ ∃ x, vs.head? = some x /\ ∃ n1, x = Z3 n1 /\ ∃ x1, vs.tail.head? = some x1 /\ ∃ n2, x1 = Z3 n2 /\ ∃ (x2 :
 PV), vs.tail.tail.head? = some x2 /\ ∃ b, x2 = Zb b /\ if (!b) = true then R (Zb false) else if (n2 == 0) = true then R (Zb true) else PCall Tryz.prog 112 [PV.sl n f es, Z6 3, Z3 r] fun v1 => ∃ n3, v1 = Z6 n3 /\ if (n3
 == 1) = true then R (Zb true) else PCall Tryz.prog 112 [PV.sl n f es, Z6 1, Z3 r] fun v2 => ∃ n4, v2 = Z6 n4 /\ if (n4 != 0) = true then R (Zb true) else PCall Tryz.prog 112 [PV.sl n f es, Z6 1, Z3 n1] fun v3 => ∃ (n5 :
 Int), v3 = Z6 n5 /\ R (Zb (n5 != 0))
theorem zvx {R : PV -> Prop} (h : zkf n f es r R) : PCall Tryz.prog 159 [.sl n f es, .int .i32 r] R :=
 PCall.of Tryz.func159 (by kernel_rfl) (by kernel_rfl) (zl (by kernel_rfl)) (Eq.mpr (by kernel_rfl : aO Tryz.prog (fun _ => none) Tryz.f159 [0, 1, 4, 5, 6, 7, 16] (fun _ => none) (Tryz.f159.body.getD .skip) [.sl n f es, .int .i32 r] R = _) h)
end
end Go.Eng



namespace Go.Eng
open Go Go.Proofs
end Go.Eng



namespace Go.Eng
open Go Go.Proofs Go.Eng.Rows Go.Eng.Trie
end Go.Eng



namespace Go.Eng
open Go Go.Proofs Go.Eng.Rows Go.Eng.Trie
section
variable {rows : List Row}
theorem zkg (i : Int) : bP rows 3 i = decide (aB rows 3 i = 1) := by
 unfold bP aB
 cases bM rows 3 i with
 | none => rfl
 | some p => rfl
theorem zvy (hp : cX rows) (n f : Bool) (r : Int) (hl : rows.length < 1000000) (hr : -2147483648 <= r /\ r <= 2147483647) : PCall Tryz.prog 159 [.sl n f (aZ rows), .int .i32 r] fun v => v = .bool (dO rows r) := by
 refine zvx _ _ _ _ ?_; unfold zkf
 refine (tI hp n f r hl hr).mono ?_
 rintro _ rfl
 have hrng := nK hp r
 refine ⟨_, rfl, rfl, _, rfl, _, rfl, _, rfl, _, rfl, _, rfl, _, rfl, ?_⟩
 refine aD (fun h1 => ?_) (fun h1 => aD (fun h2 => ?_) (fun h2 => ?_))
 ·simp only [Bool.not_not, decide_eq_true_eq] at h1
  unfold dO; simp [h1]
 ·simp only [Bool.not_not, decide_eq_true_eq] at h1
  simp only [beq_iff_eq] at h2
  unfold dO; simp [h1, h2]
 ·simp only [Bool.not_not, decide_eq_true_eq] at h1
  simp only [beq_iff_eq] at h2
  refine (kW n f 3 r hl hr).mono ?_
  rintro _ rfl
  refine ⟨_, rfl, ?_⟩
  refine aD (fun h4 => ?_) (fun h4 => ?_)
  ·simp only [beq_iff_eq] at h4
   unfold dO; rw [zkg]; simp [h1, h2, h4]
  ·simp only [beq_iff_eq] at h4
   refine (kW n f 1 r hl hr).mono ?_
   rintro _ rfl
   refine ⟨_, rfl, ?_⟩
   refine aD (fun h5 => ?_) (fun h5 => ?_)
   ·simp only [bne_iff_ne, ne_eq] at h5
    unfold dO; simp [h1, h2, h5]
   ·simp only [bne_iff_ne, ne_eq, Decidable.not_not] at h5
    refine (kW n f 1 _ hl (by omega)).mono ?_
    rintro _ rfl
    refine ⟨_, rfl, ?_⟩
    unfold dO; rw [zkg]
    simp only [h1, h2, h4, h5, decide_false, Bool.not_false, Bool.true_and, Bool.false_or, decide_true, Bool.not_true]
    rfl
end
end Go.Eng


