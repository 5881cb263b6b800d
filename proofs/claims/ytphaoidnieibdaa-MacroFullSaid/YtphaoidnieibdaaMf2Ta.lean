/- States run over the code: what each function gives, and what follows. -/
import Derived.Test.YtphaoidnieibdaaEngb
import Derived.RangeFuncRecord
import Derived.Defers
import Derived.RangeFuncLeaves
import Derived.Shelf.SlMaps.Clone
import Derived.Shelf.SortM.So_math_bits_LenIn
import Derived.Sort.EveryDepth
open Go.IntKind (i64 i32)
open List renaming drop → qa, mem_cons_of_mem → qf, length_map → qg, length_cons → qh, mem_cons_self → qj, getElem?_append_left → qk, getElem?_eq_getElem → qo, length_append → qq, getElem_append_left → qr, mem_of_getElem? → qu, map_append → qv, map_cons → qy, getElem?_map → qz, getElem_mem → qaf, getElem?_cons_zero → qag, length_nil → qah, range' → qai, getElem?_eq_none → qak, length_singleton → qal, range_eq_range' → qam, mem_map_of_mem → qan, getElem?_take → qao, map_set → qas, cons_append → qaw, filter_cons → qax, length_set → qaz
open Go.Proofs.Try renaming prog → qc
open Array renaming getD_eq_getD_getElem? → qd, replicate → ql, getElem?_append_left → qn, getElem?_eq_none → qt, getElem?_setIfInBounds → qw, eraseIdxIfInBounds → qad
open Nat renaming le_refl → qe, eq_of_beq_eq_true → qp, zero_le → qx, lt_or_ge → qac, le_trans → qae, beq → qaj, lt_of_lt_of_le → qar, lt_trichotomy → qav
open Bool renaming false_eq_true → qi, false_ne_true → qat
open Int renaming toNat_natCast → qm, emod_eq_of_lt → qab, natCast_nonneg → qau
open Go.Result renaming andThen_ok → qaa
open Go.Sem renaming run_bind → qap, run_pure → qaq
open Option renaming map_some → qay
set_option linter.unusedVariables false
set_option linter.unusedSimpArgs false
namespace Go.Eng
open Go
abbrev wd (ro : Option Nat) : Fence := { Fence.wide with round := ro }
section
variable {P : Program} {n : Nat} {ro : Option Nat}
theorem uU {f : FuncId} {args : Array Value} {w : World} {R : Ending -> World -> Prop} (h : Calls P f args w R) : CallsIn (wd ro) n P f args w R := (callsIn_wide (n := n)).2 h
theorem za6 {row : String} {args : Array Value} {w : World} {R : Value -> World -> Prop} (h : Rows P row args w R) : RowsIn (wd ro) n P row args w R :=
 fun c cs _ => let ⟨v, w', r, s⟩ := h c cs; ⟨v, w', r, stepsIn_wide.2 s⟩
theorem za7 {o : Oper} {a : Act} {next next' : Act -> World -> Prop} {Q : Exit -> Act -> World -> Prop} (hn : ∀ a w, next a w -> next' a w) : ∀ {r : Result Next}, o.upon P a next Q r -> o.uponIn (wd ro) n P a next' Q r
 | .ok (.value _) _, h => hn _ _ h
 | .ok .skip _, h => hn _ _ h
 | .ok (.defer _) _, h => hn _ _ h
 | .ok (.enter f args) w, h => ⟨(fun x => by cases x), uU (Calls.mono h fun e w' q => by cases e <;> first | exact hn _ _ q | exact q)⟩
 | .ok (.row row args) w, h => ⟨(fun x => by cases x), za6 (Rows.mono h fun v w' q => hn _ _ q)⟩
 | .halt (.panic v) w, h => h
theorem kF {ops : Array Oper} {Q : Exit -> Act -> World -> Prop} (hnd : ∀ (i : Nat) o c, ops[i]? = some o -> o.op ≠ .defer c) (hQ : ∀ a w, ¬ Q .outgrown a w) : ∀ {l : List Nat} {a : Act} {w : World}, wpOps P ops Q l a w -> wpOpsIn (wd ro) n P ops Q l a w
 | [], _, _, h => h
 | i :: rest, a, w, h => by
   simp only [wpOps, wpOpsIn] at h ⊢;cases ho : ops[i]? with
   | none => simp only [ho] at h ⊢; exact kF hnd hQ h
   | some o =>
     simp only [ho] at h ⊢;split at h
     ·rename_i hw;rw [if_pos hw];rcases h with h | ⟨_, a1, w1, hq⟩
      ·refine ⟨fun _ _ => trivial, ?_⟩;rw [Oper.semAt_eq _ _ _ (fun c => hnd i o c ho)];exact za7 (fun _ _ q => kF hnd hQ q) h
      ·exact absurd hq (hQ _ _)
     ·rename_i hw;rw [if_neg hw];exact ⟨fun _ _ => trivial, kF hnd hQ h⟩
theorem za8 {F : Fence} {o : Oper} {a : Act} {next next' K : Act -> World -> Prop} {Q : Exit -> Act -> World -> Prop} (hn : ∀ a w, next a w -> next' a w) : ∀ {r : Result Next}, o.uponIn F n P a next (Exit.then K Q) r -> o.uponIn F n P a next' Q r
 | .ok (.value _) _, h => hn _ _ h
 | .ok .skip _, h => hn _ _ h
 | .ok (.defer _) _, h => hn _ _ h
 | .ok (.enter f args) w, h => ⟨h.1, CallsIn.mono h.2 fun e w' q => by cases e <;> first | exact hn _ _ q | exact q⟩
 | .ok (.row row args) w, h => ⟨h.1, RowsIn.mono h.2 fun v w' q => hn _ _ q⟩
 | .ok (.round l f tmps assign body) w, h => ⟨h.1, RoundIn.mono h.2 fun e w' q => by cases e <;> first | exact hn _ _ q | exact q⟩
 | .halt (.panic v) w, h => h
theorem mL {F : Fence} {ops : Array Oper} {Q : Exit -> Act -> World -> Prop} {l2 : List Nat} : ∀ {l1 : List Nat} {a : Act} {w : World}, wpOpsIn F n P ops (Exit.then (wpOpsIn F n P ops Q l2) Q) l1 a w -> wpOpsIn F n P ops Q (l1 ++ l2) a w
 | [], _, _, h => h
 | i :: rest, a, w, h => by
   simp only [wpOpsIn, qaw] at h ⊢;cases ho : ops[i]? with
   | none => simp only [ho] at h ⊢; exact mL h
   | some o =>
     simp only [ho] at h ⊢;split at h
     ·rename_i hw;rw [if_pos hw];exact ⟨h.1, za8 (fun _ _ q => mL q) h.2⟩
     ·rename_i hw;rw [if_neg hw];exact ⟨h.1, mL h.2⟩
end
section
variable {H : Nat -> Option HSpec} {P : Program} {n N : Nat} {ro : Option Nat}
def cX : List Oper -> Bool
 | [] => true
 | o :: r => (match o.op with | .defer _ => false | _ => true) && cX r
theorem uV {ops : Array Oper} (h : cX ops.toList = true) : ∀ (i : Nat) o c, ops[i]? = some o -> o.op ≠ .defer c := by
 have key : ∀ {l : List Oper}, cX l = true -> ∀ (i : Nat) o c, l[i]? = some o -> o.op ≠ .defer c := by
  intro l
  induction l with
  | nil => intro _ i o c hi; cases hi
  | cons x r ih =>
    intro hx i o c hi;simp only [cX, Bool.and_eq_true] at hx;cases i with
    | zero => simp at hi; subst hi; intro e; rw [e] at hx; exact absurd hx.1 (by simp)
    | succ i => exact ih hx.2 i o c (by simpa using hi)
 intro i o c hi;exact key h i o c (by simpa using hi)
theorem uW {id : Nat} {ops : Array Oper} {e : Env} {h : Hp} {K : Env -> Hp -> Prop} (hd : cX ops.toList = true) (hK : aU P H N ops.toList ops.toList e h K) {w : World} {I : Nat -> Prop} {G : Nat -> Pl} {a : Act} (hs : SRel w I G e h N a)
 {Q : Exit -> Act -> World -> Prop} (hQ : ∀ a w, ¬ Q .outgrown a w) (hq : ∀ e' h' w' I' G' a', K e' h' -> SRel w' I' G' e' h' N a' -> a'.defers = a.defers -> TrH w I G h w' I' G' h' -> Q .normal a' w') : (Code.region id ops false).wpIn (wd ro) n P Q a w := by
 refine wpIn_region (kF (uV hd) hQ ?_);have := mD (Qx := Q) ops.toList 0 e h (fun j _ => by simp) hK w I G a hs hq;simpa [qam] using this
theorem za9 {ops : Array Oper} {l : List Oper} {k : Nat} {e : Env} {h : Hp} {K : Env -> Hp -> Prop} (hd : cX ops.toList = true) (hl : ∀ j, j < l.length -> l[j]? = ops[k + j]?) (hK : aU P H N ops.toList l e h K) {w : World} {I : Nat -> Prop} {G : Nat -> Pl} {a : Act} (hs : SRel w I G e h N a)
 {Q : Exit -> Act -> World -> Prop} (hQ : ∀ a w, ¬ Q .outgrown a w) (hq : ∀ e' h' w' I' G' a', K e' h' -> SRel w' I' G' e' h' N a' -> a'.defers = a.defers -> TrH w I G h w' I' G' h' -> Q .normal a' w') : wpOpsIn (wd ro) n P ops Q (qai k l.length) a w :=
 kF (uV hd) hQ (mD (Qx := Q) l k e h hl hK w I G a hs hq)
end
section
variable {H : Nat -> Option HSpec} {P : Program} {n0 N : Nat} {Z : World -> (Nat -> Prop) -> (Nat -> Pl) -> Hp -> Prop}
def CodeZ (Z : World -> (Nat -> Prop) -> (Nat -> Pl) -> Hp -> Prop) (P : Program) (N : Nat) (c : Code) (e : Env) (h : Hp) (Q : Qt) : Prop :=
 ∀ (w : World) (I : Nat -> Prop) (G : Nat -> Pl) (a : Act) (Qx : Exit -> Act -> World -> Prop), SRel w I G e h N a -> Z w I G h ->
  (∀ x e' h' w' I' G' a', Q x e' h' -> SRel w' I' G' e' h' N a' -> a'.defers = a.defers -> Z w' I' G' h' -> Qx x.to a' w') -> c.wp P Qx a w
theorem CodeZ.of (hZ : ∀ w I G h w' I' G' h', Z w I G h -> HRel w I G h -> HRel w' I' G' h' -> TrN n0 w I G h w' I' G' h' -> Z w' I' G' h') {c : Code} {e : Env} {h : Hp} {Q : Qt} (hK : CodeS P n0 N c e h Q) : CodeZ Z P N c e h Q :=
 fun w I G a Qx hs hz hq => hK w I G a Qx hs fun x e' h' w' I' G' a' hk hs' hd ht => hq x e' h' w' I' G' a' hk hs' hd (hZ _ _ _ _ _ _ _ _ hz hs.hh hs'.hh ht)
theorem CodeZ.skip {e : Env} {h : Hp} {Q : Qt} (hK : Q .normal e h) : CodeZ Z P N .skip e h Q :=
 fun w I G a Qx hs hz hq => wp_skip (hq .normal e h w I G a hK hs rfl hz)
theorem CodeZ.ret {e : Env} {h : Hp} {Q : Qt} (hK : Q .ret e h) : CodeZ Z P N .ret e h Q :=
 fun w I G a Qx hs hz hq => wp_ret (hq .ret e h w I G a hK hs rfl hz)
theorem CodeZ.seq {x y : Code} {e : Env} {h : Hp} {Q : Qt} (hK : CodeZ Z P N x e h fun q e h => match q with | .normal => CodeZ Z P N y e h Q | q => Q q e h) : CodeZ Z P N (.seq x y) e h Q := by
 intro w I G a Qx hs hz hq;refine wp_seq (hK w I G a _ hs hz fun q e' h' w' I' G' a' hk hs' hd hz' => ?_);cases q with
 | normal => exact hk w' I' G' a' Qx hs' hz' fun q2 e2 h2 w2 I2 G2 a2 hk2 hs2 hd2 hz2 => hq q2 e2 h2 w2 I2 G2 a2 hk2 hs2 (hd2.trans hd) hz2
 | exit n => exact hq (.exit n) e' h' w' I' G' a' hk hs' hd hz'
 | ret => exact hq .ret e' h' w' I' G' a' hk hs' hd hz'
theorem CodeZ.cond {c : Operand} {x y : Code} {e : Env} {h : Hp} {Q : Qt} {t : Bool} (hc : aF [] e c = some (.pv (.bool t))) (hK : if t = true then CodeZ Z P N x e h Q else CodeZ Z P N y e h Q) : CodeZ Z P N (.cond c x y) e h Q := by
 intro w I G a Qx hs hz hq;refine wp_cond (aC hs.he (AOK.nil _) hc).bool_eq ?_;cases t with
 | true => simp only [if_true] at hK ⊢; exact hK w I G a Qx hs hz hq
 | false => simp only [qi, if_false] at hK ⊢; exact hK w I G a Qx hs hz hq
theorem CodeZ.block {id : Nat} {c : Code} {e : Env} {h : Hp} {Q : Qt}
 (hK : CodeZ Z P N c e h fun q e h => match q with | .exit n => (bif qaj n id then Q .normal e h else Q (.exit n) e h) | q => Q q e h) : CodeZ Z P N (.block id c) e h Q := by
 intro w I G a Qx hs hz hq;refine wp_block (hK w I G a _ hs hz fun q e' h' w' I' G' a' hk hs' hd hz' => ?_);cases q with
 | normal => exact hq .normal e' h' w' I' G' a' hk hs' hd hz'
 | ret => exact hq .ret e' h' w' I' G' a' hk hs' hd hz'
 | exit n =>
   simp only [Ex.to, Exit.inBlock];cases hb : qaj n id with
   | true =>
     simp only [hb, cond_true] at hk;rw [if_pos (qp hb)];exact hq .normal e' h' w' I' G' a' hk hs' hd hz'
   | false =>
     simp only [hb, cond_false] at hk;rw [if_neg (fun e => by subst e; simp at hb)];exact hq (.exit n) e' h' w' I' G' a' hk hs' hd hz'
theorem CodeZ.mono {c : Code} {e : Env} {h : Hp} {Q Q' : Qt} (hK : CodeZ Z P N c e h Q) (hq : ∀ x e h, Q x e h -> Q' x e h) : CodeZ Z P N c e h Q' :=
 fun w I G a Qx hs hz hq' => hK w I G a Qx hs hz fun x e' h' w' I' G' a' hk => hq' x e' h' w' I' G' a' (hq _ _ _ hk)
theorem SRel.le {w : World} {I : Nat -> Prop} {G : Nat -> Pl} {e e' : Env} {h : Hp} {a : Act} (hs : SRel w I G e h N a) (hl : ∀ i v, get e' i = some v -> get e i = some v) : SRel w I G e' h N a := ⟨hs.hh, fun i v hi => hs.he i v (hl i v hi), hs.hn⟩
def LeE : Env -> Env -> Prop
 | [], _ => True
 | (i, v) :: r, e => get e i = some v /\ LeE r e
theorem LeE.le : ∀ {e' e : Env}, LeE e' e -> ∀ i v, get e' i = some v -> get e i = some v
 | [], _, _, i, v, h => by cases h
 | (k, x) :: r, e, hl, i, v, h => by
   simp only [get] at h;cases hb : qaj k i with
   | true => rw [hb] at h; have := qp hb; subst this; cases h; exact hl.1
   | false => rw [hb] at h; exact hl.2.le i v h
theorem CodeZ.loop {c : Code} {e : Env} {h : Hp} {Q : Qt} {σ : Type} (S : σ -> Env × Hp) (J : σ -> Prop) (μ : σ -> Nat) (s0 : σ) (he : ∀ i v, get (S s0).1 i = some v -> get e i = some v) (hh : h = (S s0).2) (hJ : J s0)
 (hb : ∀ s, J s -> CodeZ Z P N c (S s).1 (S s).2 fun x e h => match x with | .normal => ∃ s', (∀ i v, get (S s').1 i = some v -> get e i = some v) /\ h = (S s').2 /\ J s' /\ μ s' < μ s | x => Q x e h) : CodeZ Z P N (.loop c) e h Q := by
 intro w I G a Qx hs hz hq;subst hh
 refine wp_loop_ghost (fun n a1 w1 => ∃ s I1 G1, μ s = n /\ J s /\ SRel w1 I1 G1 (S s).1 (S s).2 N a1 /\ a1.defers = a.defers /\ Z w1 I1 G1 (S s).2) (μ s0)
  ⟨s0, I, G, rfl, hJ, hs.le he, rfl, hz⟩ ?_
 rintro n a1 w1 ⟨s, I1, G1, rfl, hj, hs1, hd1, hz1⟩;refine hb s hj w1 I1 G1 a1 _ hs1 hz1 fun x e2 h2 w2 I2 G2 a2 hk hs2 hd2 hz2 => ?_;cases x with
 | normal =>
   obtain ⟨s', hf, rfl, hj', hlt⟩ := hk;exact ⟨μ s', hlt, s', I2, G2, rfl, hj', hs2.le hf, hd2.trans hd1, hz2⟩
 | exit n => exact hq (.exit n) e2 h2 w2 I2 G2 a2 hk hs2 (hd2.trans hd1) hz2
 | ret => exact hq .ret e2 h2 w2 I2 G2 a2 hk hs2 (hd2.trans hd1) hz2
end
section
variable {w w' w2 : World} {I I' I2 : Nat -> Prop} {G G' G2 : Nat -> Pl} {h h' h2 : Hp}
theorem HRel.frame (hh : HRel w I G h) (hb : ∀ b, aD h G b -> w'.heap[b]? = w.heap[b]?) (hk : Keeps w I w' I') (hn : ∀ b, aD h G b -> ¬ I' b) (hc : ∀ b, I' b -> b < w'.heap.size) : HRel w' I' G h := by
 have blk : ∀ (i : Nat) x, h[i]? = some x -> x.alive (G i) -> w'.heap[(G i).blk]? = w.heap[(G i).blk]? := fun i x hx ha => hb _ ⟨i, x, hx, ha, rfl⟩;refine ⟨fun i x hx => ?_, hh.sep, fun i x hx ha => hn _ ⟨i, x, hx, ha, rfl⟩, hc⟩;have := hh.obs i x hx;cases x with
 | dead => trivial
 | box cs => obtain ⟨vs, ty, e1, e2, e3⟩ := this; exact ⟨vs, ty, by rw [blk i _ hx trivial]; exact e1, e2, fun k v hv => ⟨(e3 k v hv).1.mono hk (.refl _ _), (e3 k v hv).2⟩⟩
 | arr cs => obtain ⟨vs, ty, e1, e2, e3⟩ := this; exact ⟨vs, ty, by rw [blk i _ hx trivial]; exact e1, e2, fun k v hv => ⟨(e3 k v hv).1.mono hk.1 hk.2, (e3 k v hv).2⟩⟩
 | sl ty m n es =>
   cases n with
   | true => exact this
   | false =>
     obtain ⟨e1, e2, e3, e3', e4, e5⟩ := this;refine ⟨e1, e2, e3, e3', e4, fun hc => ?_⟩;obtain ⟨vs, f1, f2, f3⟩ := e5 hc;exact ⟨vs, by rw [blk i _ hx ⟨rfl, hc⟩]; exact f1, f2, fun i' e he k v hv => ⟨(f3 i' e he k v hv).1.mono hk.1 hk.2, (f3 i' e he k v hv).2⟩⟩
 | mp kvs => obtain ⟨es, ck, e1, e2, e3⟩ := this; exact ⟨es, ck, by rw [blk i _ hx trivial]; exact e1, e2, fun k kv hv => ⟨(e3 k kv hv).1.mono hk.1 hk.2, (e3 k kv hv).2.mono hk.1 hk.2⟩⟩
 | iter ty rem cur => exact IterRel.mono this (blk i _ hx trivial) hk
theorem HRel.beside (hh : HRel w I G h) (h2r : HRel w I G2 h2) (hs : ∀ b, aD h G b -> ¬ aD h2 G2 b) (t : Tr w I (aD h2 G2) w' I' (aD h' G')) (hc : ∀ b, I' b -> b < w'.heap.size) :
 HRel w' I' G h /\ Keeps w I w' I' /\ ∀ b, aD h G b -> ¬ aD h' G' b := by
 have hk : Keeps w I w' I' := ⟨fun b hb hlt => t.keep b hlt fun ⟨o, ob, h1, h2, e⟩ => h2r.nI o ob h1 h2 (e ▸ hb), fun b hb _ => t.i1 b hb⟩;refine ⟨hh.frame (fun b hb => t.keep b (hh.blk_lt hb) (hs b hb)) hk (fun b hb hI => ?_) hc, hk, fun b hb ho => ?_⟩
 ·rcases t.i2 b hI with q | q | q
  ·obtain ⟨o, ob, q1, q2, rfl⟩ := hb; exact hh.nI o ob q1 q2 q
  ·exact hs b hb q
  ·exact absurd (hh.blk_lt hb) (Nat.not_lt.2 q)
 ·rcases t.own2 b ho with q | q
  ·exact hs b hb q
  ·exact absurd (hh.blk_lt hb) (Nat.not_lt.2 q)
end
section
variable {α : Type} {Z : α -> World -> (Nat -> Prop) -> (Nat -> Pl) -> Hp -> Prop} {P : Program} {n0 N : Nat}
def CodeY (Z : α -> World -> (Nat -> Prop) -> (Nat -> Pl) -> Hp -> Prop) (P : Program) (N : Nat) (c : Code) (s : α) (e : Env) (h : Hp) (Q : α -> Qt) : Prop :=
 ∀ (w : World) (I : Nat -> Prop) (G : Nat -> Pl) (a : Act) (Qx : Exit -> Act -> World -> Prop), SRel w I G e h N a -> Z s w I G h ->
  (∀ s' x e' h' w' I' G' a', Q s' x e' h' -> SRel w' I' G' e' h' N a' -> a'.defers = a.defers -> Z s' w' I' G' h' -> Qx x.to a' w') -> c.wp P Qx a w
def kG (Z : α -> World -> (Nat -> Prop) -> (Nat -> Pl) -> Hp -> Prop) (n0 : Nat) : Prop := ∀ s w I G h w' I' G' h', Z s w I G h -> HRel w I G h -> HRel w' I' G' h' -> TrN n0 w I G h w' I' G' h' -> Z s w' I' G' h'
theorem CodeY.of (hZ : kG Z n0) {c : Code} {s : α} {e : Env} {h : Hp} {Q : α -> Qt} (hK : CodeS P n0 N c e h (Q s)) : CodeY Z P N c s e h Q :=
 fun w I G a Qx hs hz hq => hK w I G a Qx hs fun x e' h' w' I' G' a' hk hs' hd ht => hq s x e' h' w' I' G' a' hk hs' hd (hZ _ _ _ _ _ _ _ _ _ hz hs.hh hs'.hh ht)
theorem CodeY.skip {s : α} {e : Env} {h : Hp} {Q : α -> Qt} (hK : Q s .normal e h) : CodeY Z P N .skip s e h Q :=
 fun w I G a Qx hs hz hq => wp_skip (hq s .normal e h w I G a hK hs rfl hz)
theorem CodeY.ret {s : α} {e : Env} {h : Hp} {Q : α -> Qt} (hK : Q s .ret e h) : CodeY Z P N .ret s e h Q :=
 fun w I G a Qx hs hz hq => wp_ret (hq s .ret e h w I G a hK hs rfl hz)
theorem CodeY.exit {n : Nat} {s : α} {e : Env} {h : Hp} {Q : α -> Qt} (hK : Q s (.exit n) e h) : CodeY Z P N (.exit n) s e h Q :=
 fun w I G a Qx hs hz hq => wp_exit (hq s (.exit n) e h w I G a hK hs rfl hz)
theorem CodeY.seq {x y : Code} {s : α} {e : Env} {h : Hp} {Q : α -> Qt} (hK : CodeY Z P N x s e h fun s q e h => match q with | .normal => CodeY Z P N y s e h Q | q => Q s q e h) : CodeY Z P N (.seq x y) s e h Q := by
 intro w I G a Qx hs hz hq;refine wp_seq (hK w I G a _ hs hz fun s' q e' h' w' I' G' a' hk hs' hd hz' => ?_);cases q with
 | normal => exact hk w' I' G' a' Qx hs' hz' fun s2 q2 e2 h2 w2 I2 G2 a2 hk2 hs2 hd2 hz2 => hq s2 q2 e2 h2 w2 I2 G2 a2 hk2 hs2 (hd2.trans hd) hz2
 | exit n => exact hq s' (.exit n) e' h' w' I' G' a' hk hs' hd hz'
 | ret => exact hq s' .ret e' h' w' I' G' a' hk hs' hd hz'
theorem CodeY.cond {c : Operand} {x y : Code} {s : α} {e : Env} {h : Hp} {Q : α -> Qt} {t : Bool} (hc : aF [] e c = some (.pv (.bool t))) (hK : if t = true then CodeY Z P N x s e h Q else CodeY Z P N y s e h Q) : CodeY Z P N (.cond c x y) s e h Q := by
 intro w I G a Qx hs hz hq;refine wp_cond (aC hs.he (AOK.nil _) hc).bool_eq ?_;cases t with
 | true => simp only [if_true] at hK ⊢; exact hK w I G a Qx hs hz hq
 | false => simp only [qi, if_false] at hK ⊢; exact hK w I G a Qx hs hz hq
theorem CodeY.block {id : Nat} {c : Code} {s : α} {e : Env} {h : Hp} {Q : α -> Qt}
 (hK : CodeY Z P N c s e h fun s q e h => match q with | .exit n => (bif qaj n id then Q s .normal e h else Q s (.exit n) e h) | q => Q s q e h) : CodeY Z P N (.block id c) s e h Q := by
 intro w I G a Qx hs hz hq;refine wp_block (hK w I G a _ hs hz fun s' q e' h' w' I' G' a' hk hs' hd hz' => ?_);cases q with
 | normal => exact hq s' .normal e' h' w' I' G' a' hk hs' hd hz'
 | ret => exact hq s' .ret e' h' w' I' G' a' hk hs' hd hz'
 | exit n =>
   simp only [Ex.to, Exit.inBlock];cases hb : qaj n id with
   | true =>
     simp only [hb, cond_true] at hk;rw [if_pos (qp hb)];exact hq s' .normal e' h' w' I' G' a' hk hs' hd hz'
   | false =>
     simp only [hb, cond_false] at hk;rw [if_neg (fun e => by subst e; simp at hb)];exact hq s' (.exit n) e' h' w' I' G' a' hk hs' hd hz'
theorem CodeY.mono {c : Code} {s : α} {e : Env} {h : Hp} {Q Q' : α -> Qt} (hK : CodeY Z P N c s e h Q) (hq : ∀ s x e h, Q s x e h -> Q' s x e h) : CodeY Z P N c s e h Q' :=
 fun w I G a Qx hs hz hq' => hK w I G a Qx hs hz fun s' x e' h' w' I' G' a' hk => hq' s' x e' h' w' I' G' a' (hq _ _ _ _ hk)
theorem CodeY.le {c : Code} {s : α} {e e' : Env} {h : Hp} {Q : α -> Qt} (hl : LeE e' e) (hK : CodeY Z P N c s e' h Q) : CodeY Z P N c s e h Q :=
 fun w I G a Qx hs hz hq => hK w I G a Qx (hs.le hl.le) hz hq
theorem CodeY.loop {c : Code} {s : α} {e : Env} {h : Hp} {Q : α -> Qt} {σ : Type} (S : σ -> Env × Hp) (A : σ -> α) (J : σ -> Prop) (μ : σ -> Nat) (s0 : σ) (he : LeE (S s0).1 e) (hh : h = (S s0).2) (ha : s = A s0) (hJ : J s0)
 (hb : ∀ u, J u -> CodeY Z P N c (A u) (S u).1 (S u).2 fun s' x e h => match x with | .normal => ∃ u', LeE (S u').1 e /\ h = (S u').2 /\ s' = A u' /\ J u' /\ μ u' < μ u | x => Q s' x e h) : CodeY Z P N (.loop c) s e h Q := by
 intro w I G a Qx hs hz hq;subst hh;subst ha
 refine wp_loop_ghost (fun n a1 w1 => ∃ u I1 G1, μ u = n /\ J u /\ SRel w1 I1 G1 (S u).1 (S u).2 N a1 /\ a1.defers = a.defers /\ Z (A u) w1 I1 G1 (S u).2) (μ s0)
  ⟨s0, I, G, rfl, hJ, hs.le he.le, rfl, hz⟩ ?_
 rintro n a1 w1 ⟨u, I1, G1, rfl, hj, hs1, hd1, hz1⟩;refine hb u hj w1 I1 G1 a1 _ hs1 hz1 fun s' x e2 h2 w2 I2 G2 a2 hk hs2 hd2 hz2 => ?_;cases x with
 | normal =>
   obtain ⟨u', hf, rfl, rfl, hj', hlt⟩ := hk;exact ⟨μ u', hlt, u', I2, G2, rfl, hj', hs2.le hf.le, hd2.trans hd1, hz2⟩
 | exit n => exact hq s' (.exit n) e2 h2 w2 I2 G2 a2 hk hs2 (hd2.trans hd1) hz2
 | ret => exact hq s' .ret e2 h2 w2 I2 G2 a2 hk hs2 (hd2.trans hd1) hz2
end
section
variable {H : Nat -> Option HSpec} {P : Program} {N : Nat} {ops : Array Oper} {Φ : Act -> World -> Prop} {k : Nat} {a : Act} {w : World}
def OpsN (P : Program) (ops : Array Oper) (k : Nat) (Φ : Act -> World -> Prop) (a : Act) (w : World) : Prop := wpOpsIn (wd none) 0 P ops (fun x a w => x = .normal /\ Φ a w) (qai k (ops.size - k)) a w
theorem mN {id : Nat} {Q : Exit -> Act -> World -> Prop} (h : OpsN P ops 0 Φ a w) (hq : ∀ a' w', Φ a' w' -> Q .normal a' w') : (Code.region id ops false).wp P Q a w := by
 refine wp_mono (Q := fun x a w => x = .normal /\ Φ a w) ((wpIn_wide (n := 0)).1 (wpIn_region (F := wd none) ?_)) ?_
 ·rw [qam]; exact h
 ·rintro x a' w' ⟨rfl, hp⟩; exact hq _ _ hp
theorem OpsN.last (hk : ops.size <= k) (h : Φ a w) : OpsN P ops k Φ a w := by
 unfold OpsN;rw [Nat.sub_eq_zero_of_le hk];exact ⟨rfl, h⟩
theorem OpsN.step (hd : cX ops.toList = true) (j : Nat) {e : Env} {h : Hp} {K : Env -> Hp -> Prop} (hj : k + j <= ops.size) (hK : aU P H N ops.toList ((ops.toList.drop k).take j) e h K) {I : Nat -> Prop} {G : Nat -> Pl} (hs : SRel w I G e h N a)
 (hq : ∀ e' h' w' I' G' a', K e' h' -> SRel w' I' G' e' h' N a' -> a'.defers = a.defers -> TrH w I G h w' I' G' h' -> OpsN P ops (k + j) Φ a' w') : OpsN P ops k Φ a w := by
 unfold OpsN;rw [show ops.size - k = j + (ops.size - (k + j)) by omega, <- List.range'_append_1];refine mL ?_;have hl : ((ops.toList.drop k).take j).length = j := by simp; omega
 have := za9 (ro := none) (n := 0) (k := k) (Q := Exit.then (wpOpsIn (wd none) 0 P ops (fun x a w => x = .normal /\ Φ a w) (qai (k + j) (ops.size - (k + j)))) fun x a w => x = .normal /\ Φ a w) hd (fun i hi => by
  rw [qao, if_pos (by omega), List.getElem?_drop]; simp) hK hs (fun a w h => nomatch h.1) hq
 rw [hl] at this;exact this
theorem OpsN.one {o : Oper} (ho : ops[k]? = some o) (hg : o.guard = none) (h : o.wpIn (wd none) 0 P a w (fun a w => OpsN P ops (k + 1) Φ a w) (fun x a w => x = .normal /\ Φ a w)) : OpsN P ops k Φ a w := by
 have hlt : k < ops.size := (Array.getElem?_eq_some_iff.1 ho).1;unfold OpsN;rw [show ops.size - k = (ops.size - (k + 1)) + 1 by omega, List.range'_succ];simp only [wpOpsIn, ho];rw [if_pos (by simp [Region.wanted, hg])];exact h
theorem OpsN.value {o : Oper} (ho : ops[k]? = some o) (hg : o.guard = none) {v : Value} (hr : (execOp a.eval o).run P w = .ok (.value v) w) (h : OpsN P ops (k + 1) Φ (a.put o.dst v) w) : OpsN P ops k Φ a w := by
 refine OpsN.one ho hg ⟨fun _ _ => trivial, ?_⟩;show o.uponIn (wd none) 0 P a _ _ ((o.semAt none a.eval).run P w);rw [Oper.semAt_none, hr];exact h
theorem OpsN.call {o : Oper} (ho : ops[k]? = some o) (hg : o.guard = none) {f : Nat} {args : Array Value} (hr : (execOp a.eval o).run P w = .ok (.enter f args) w) {R : Value -> World -> Prop} (hc : Calls P f args w fun e w' => ∃ cv, e = .returned cv /\ R cv w')
 (h : ∀ cv w', R cv w' -> OpsN P ops (k + 1) Φ (a.put o.dst cv) w') : OpsN P ops k Φ a w := by
 refine OpsN.one ho hg ⟨fun _ _ => trivial, ?_⟩;show o.uponIn (wd none) 0 P a _ _ ((o.semAt none a.eval).run P w);rw [Oper.semAt_none, hr];refine ⟨(fun x => by cases x), (uU hc).mono ?_⟩;rintro e w' ⟨cv, rfl, hR⟩;exact h cv w' hR
end
theorem SRel.unm {w : World} {I : Nat -> Prop} {G : Nat -> Pl} {e : Env} {h : Hp} {N : Nat} {a : Act} (hs : SRel w I G e h N a) : SRel w I G e (unm h) N a :=
 ⟨(oB hs.hh).1, hs.he.mono (Keeps.refl w I) (oB hs.hh).2.2, hs.hn⟩
theorem SRel.view {w : World} {I : Nat -> Prop} {G : Nat -> Pl} {e : Env} {h : Hp} {N : Nat} {a : Act} (hs : SRel w I G e h N a) {d : Nat} {v : LV} (hv : LRel w I G h v (a.tmps.getD d undef)) : SRel w I G ((d, v) :: e) h N a := by
 refine ⟨hs.hh, fun i u hi => ?_, hs.hn⟩;simp only [get] at hi;cases hb : qaj d i with
 | true => rw [hb] at hi; cases hi; have := qp hb; subst this; exact VRel.of_plain hv
 | false => rw [hb] at hi; exact hs.he i u hi
end Go.Eng
namespace Go.Eng
open Go
open Go.ChangeMaps (setBlock)
def StackM (w : World) (b : Nat) (st : List Int) : Prop := ∃ es ck, w.heap[b]? = some (.map es ck) /\ es.size = st.length /\ ∀ (j : Nat) x, st[j]? = some x -> (es.getD j default).key = .int .i32 x /\ (es.getD j default).val = .bool true
def dL (st : List Int) : List (PV × PV) := st.map fun x => (PV.int .i32 x, PV.bool true)
theorem mO (x : Int) : ∀ (st : List Int), (x ∉ st /\ aR (.int .i32 x) (dL st) = none) ∨ ∃ j, j < st.length /\ st[j]? = some x /\ aR (.int .i32 x) (dL st) = some j
 | [] => .inl ⟨by simp, rfl⟩
 | y :: r => by
   have he : cP (.int .i32 x) (.int .i32 y) = decide (x = y) := by
    simp [cP, cN, l3]; rfl
   simp only [dL, qy, aR, he];by_cases e : x = y
   ·subst e;exact .inr ⟨0, by simp, rfl, by simp⟩
   ·rw [decide_eq_false e];rcases mO x r with ⟨h1, h2⟩ | ⟨j, h1, h2, h3⟩
    ·refine .inl ⟨by simp [e, h1], ?_⟩;have : aR (.int .i32 x) (r.map fun x => (PV.int .i32 x, PV.bool true)) = none := h2;rw [this]; rfl
    ·refine .inr ⟨j + 1, by simp; omega, by simpa using h2, ?_⟩
     have : aR (.int .i32 x) (r.map fun x => (PV.int .i32 x, PV.bool true)) = some j := h3;rw [this]; rfl
theorem pP (st : List Int) : (dL st).length = st.length := by simp [dL]
section
variable {P : Program} {w : World} {b : Nat} {st : List Int} {t kt et : TypeId}
theorem pQ (hk : P.underlying kt = some (.int .i32)) (st : List Int) : e9 P kt (dL st) := fun kv h => by
 obtain ⟨x, _, rfl⟩ := List.mem_map.1 h;simp [bA, hk, l3]
theorem mP (hk : P.underlying kt = some (.int .i32)) (x : Int) : bA P kt (.int .i32 x) = true := by simp [bA, hk, l3]
theorem StackM.reps {es : Array MapEntry} (h : ∀ (j : Nat) x, st[j]? = some x -> (es.getD j default).key = .int .i32 x /\ (es.getD j default).val = .bool true) : ∀ (j : Nat) kv, (dL st)[j]? = some kv -> Rep w (fun _ => False) kv.1 (es.getD j default).key := fun j kv hj => by
 simp only [dL, qz] at hj;cases hx : st[j]? with
 | none => rw [hx] at hj; cases hj
 | some x => rw [hx] at hj; cases hj; rw [(h j x hx).1]; exact .int _ _
theorem zba (ht : P.underlying t = some (.map kt et)) (hk : P.underlying kt = some (.int .i32)) {ti : TypeInfo} (hi : P.info? et = some ti) (hz : ti.zero = some (.bool false)) (hs : StackM w b st) (x : Int) :
 (Instr.lookup t (.map (some b)) (.int .i32 x) false).run P w = .ok (.bool (decide (x ∈ st))) w := by
 obtain ⟨es, ck, h1, h2, h3⟩ := hs;rw [tP (I := fun _ => False) ht hi hz (.inr ⟨b, ck, rfl, h1⟩) (kvs := dL st) (by rw [pP]; exact h2) (mP hk x) (.int _ _) (pQ hk st) (StackM.reps h3) false];rcases mO x st with ⟨e1, e2⟩ | ⟨j, e1, e2, e3⟩
 ·rw [e2, decide_eq_false e1]; rfl
 ·rw [e3, decide_eq_true (qu e2)];simp only [qi, if_false];rw [(h3 j x e2).2]
theorem zbb (ht : P.underlying t = some (.map kt et)) (hk : P.underlying kt = some (.int .i32)) (hs : StackM w b st) {x : Int} (hx : x ∉ st) :
 ∃ o, (Instr.mapUpdate t (.map (some b)) (.int .i32 x) (.bool true)).run P w = .ok () (setBlock w b o) /\ StackM (setBlock w b o) b (st ++ [x]) := by
 obtain ⟨es, ck, h1, h2, h3⟩ := hs;refine ⟨_, tL (I := fun _ => False) ht h1 (kvs := dL st) (by rw [pP]; exact h2) (mP hk x) (.int _ _) (pQ hk st) (StackM.reps h3) (.bool true), ?_⟩;rcases mO x st with ⟨e1, e2⟩ | ⟨j, e1, e2, e3⟩
 ·rw [e2]
  have hlt : b < w.heap.size := by
   rcases qac b w.heap.size with h | h
   ·exact h
   ·rw [qt h] at h1; cases h1
  refine ⟨es.push { key := .int .i32 x, val := .bool true, born := ck }, ck + 1, by simp [setBlock, fO, hlt], by simp [h2], fun j y hj => ?_⟩;rcases qav j st.length with hj' | hj' | hj'
  ·rw [qk hj'] at hj;have := h3 j y hj
   have e : (es.push { key := .int .i32 x, val := .bool true, born := ck }).getD j default = es.getD j default := by
    simp [qd, Array.getElem?_push, show j ≠ es.size by omega]
   rw [e]; exact this
  ·subst hj';rw [List.getElem?_append_right (qe _)] at hj;simp only [Nat.sub_self, qag, Option.some.injEq] at hj;subst hj
   have e : (es.push { key := .int .i32 x, val := .bool true, born := ck }).getD st.length default = { key := .int .i32 x, val := .bool true, born := ck } := by
    rw [qd, <- h2, Array.getElem?_push_size]; rfl
   rw [e]; exact ⟨rfl, rfl⟩
  ·rw [qak (by simp; omega)] at hj; cases hj
 ·exact absurd (qu e2) hx
theorem zbc (ht : P.underlying t = some (.map kt et)) (hk : P.underlying kt = some (.int .i32)) {x : Int} (hs : StackM w b (st ++ [x])) (hx : x ∉ st) (t2 ty : TypeId) :
 ∃ o, (Builtin.delete_ #[t, t2] ty #[.map (some b), .int .i32 x]).run P w = .ok (.tuple #[]) (setBlock w b o) /\ StackM (setBlock w b o) b st := by
 obtain ⟨es, ck, h1, h2, h3⟩ := hs
 have hlt : b < w.heap.size := by
  rcases qac b w.heap.size with h | h
  ·exact h
  ·rw [qt h] at h1; cases h1
 have hf := lZ (P := P) (w := w) (I := fun _ => False) (mP hk x) (Rep.int .i32 x) (es := es) (kvs := dL (st ++ [x])) (by rw [pP]; exact h2) (pQ hk _) (StackM.reps h3)
 have hp : aR (.int .i32 x) (dL (st ++ [x])) = some st.length := by
  rcases mO x (st ++ [x]) with ⟨e1, _⟩ | ⟨j, e1, e2, e3⟩
  ·exact absurd (by simp) e1
  ·rw [e3];rcases qac j st.length with hj | hj
   ·rw [qk hj] at e2;exact absurd (qu e2) hx
   ·congr 1;rw [qq, qal] at e1;omega
 rw [hp] at hf;rw [qq, qal] at h2;refine ⟨Obj.map (es.eraseIdxIfInBounds st.length) ck, ?_, es.eraseIdxIfInBounds st.length, ck, by simp [setBlock, hlt], ?_, fun j y hj => ?_⟩
 ·unfold Builtin.delete_;simp only [List.getElem?_toArray, qag, List.getElem?_cons_succ, underlying, qap, run_program, qaa, ht, qaq, f0 h1, j4 (mP hk x) (Rep.int (w := w) (I := fun _ => False) .i32 x), hf, qay, iF h1]
 ·simp [qad, h2]
 ·have hjl := (List.getElem?_eq_some_iff.1 hj).1;have := h3 j y (by rw [qk hjl]; exact hj)
  have e : (es.eraseIdxIfInBounds st.length).getD j default = es.getD j default := by
   have hb : st.length < es.size := by omega
   simp only [qad, hb, dif_pos, qd];rw [Array.getElem?_eraseIdx, if_pos hjl]
  rw [e]; exact this
end
end Go.Eng
namespace Go.Eng
open Go
section
variable {P : Program}
theorem zbd {fr : Frame} {cs : List Frame} {w w' : World} {d : Deferred} {ds : List Deferred} {b : Builtin} {ts : Array TypeId} {t : TypeId} {ks : Array Bool} {v : Value} (hm : fr.mode ≠ .run) (hd : fr.defers = d :: ds) (ht : d.target = .builtin b ts t ks)
 (hi : (invoke d.target d.args).run P w = .ok (.value v) w') : step P (lone fr cs w) = .next (lone { fr with defers := ds } cs w') := by
 obtain ⟨t, a⟩ := d;simp only at ht hi;subst ht;refine step_lone_go ?_;cases hmode : fr.mode with
 | run => exact absurd hmode hm
 | returning => simp [stepG, unwind, callDeferred, hmode, hd, hi]
 | panicking chain => simp [stepG, unwind, callDeferred, hmode, hd, hi]
def iS (P : Program) (fn : Func) (R : Ending -> World -> Prop) (a : Act) (w : World) : Prop := match a.defers with
 | [] => ∃ v, (results fn a.tmps).run P w = .ok v w /\ R (.returned v) w
 | [d] => ∃ b ts t ks u w' v, d.target = .builtin b ts t ks /\ (invoke d.target d.args).run P w = .ok (.value u) w' /\ (results fn a.tmps).run P w' = .ok v w' /\ R (.returned v) w'
 | _ => False
def zbe (P : Program) (fn : Func) (R : Ending -> World -> Prop) : Exit -> Act -> World -> Prop
 | .normal, a, w | .ret, a, w => iS P fn R a w
 | _, _, _ => False
theorem zbf {f : FuncId} {fn : Func} {c : Code} {args : Array Value} {w : World} {R : Ending -> World -> Prop} (hf : P.funcs[f]? = some fn) (hb : fn.body = some c)
 (h : c.wp P (zbe P fn R) { tmps := args ++ ql (fn.ntmps - args.size) undef, defers := [] } w) : Calls P f args w R := by
 intro cs
 let b : Frame := { (default : Frame) with fn := f, kind := .normal }
 have henter : Frame.enter P f args .normal = b.at { tmps := args ++ ql (fn.ntmps - args.size) undef, defers := [] } [.code c] := by
  simp [Frame.enter, Frame.at, hf, hb, b]
 obtain ⟨e, a', w', hq, harr⟩ := h b [] cs;rw [<- henter] at harr
 have key : ∀ todo, iS P fn R a' w' -> ∃ e' w'' fr', R e' w'' /\ Comes P (lone { b.at a' todo with mode := .returning } cs w') (lone fr' cs w'') e' /\ fr'.fn = f /\ fr'.leaving P w'' e' := fun todo hl => by
  unfold iS at hl;split at hl
  ·rename_i hd;obtain ⟨v, hr, hR⟩ := hl;exact ⟨.returned v, w', _, hR, Steps.refl P _, rfl, rfl, hd, rfl, fn, hf, hr⟩
  ·rename_i d hd;obtain ⟨bb, ts, t, ks, u, w2, v, h1, h2, h3, h4⟩ := hl;exact ⟨.returned v, w2, _, h4, Steps.one (zbd (fr := { b.at a' todo with mode := .returning }) (by simp) hd h1 h2), rfl, rfl, rfl, rfl, fn, hf, h3⟩
  ·exact hl.elim
 cases e with
 | normal =>
   obtain ⟨e', w'', fr', hR, hs, hfn, hl⟩ := key [] hq;exact ⟨e', w'', fr', hR, Comes.of_steps (Steps.trans harr (.one step_end)) hs, hfn, hl⟩
 | ret =>
   obtain ⟨todo, hs₀⟩ := harr;obtain ⟨e', w'', fr', hR, hs, hfn, hl⟩ := key todo hq;exact ⟨e', w'', fr', hR, Comes.of_steps hs₀ hs, hfn, hl⟩
 | panic chain => exact hq.elim
 | exit id => exact hq.elim
 | goto l => exact hq.elim
 | outgrown => exact hq.elim
theorem zbg {o : Oper} {a : Act} {next next' K : Act -> World -> Prop} {Q : Exit -> Act -> World -> Prop} (hn : ∀ a w, next a w -> next' a w) : ∀ {r : Result Next}, o.upon P a next (Exit.then K Q) r -> o.upon P a next' Q r
 | .ok (.value _) _, h => hn _ _ h
 | .ok .skip _, h => hn _ _ h
 | .ok (.defer _) _, h => hn _ _ h
 | .ok (.enter f args) w, h => Calls.mono h fun e w' q => by cases e <;> first | exact hn _ _ q | exact q
 | .ok (.row row args) w, h => Rows.mono h fun v w' q => hn _ _ q
 | .halt (.panic v) w, h => h
theorem mQ {ops : Array Oper} {Q : Exit -> Act -> World -> Prop} {l2 : List Nat} : ∀ {l1 : List Nat} {a : Act} {w : World}, wpOps P ops (Exit.then (wpOps P ops Q l2) Q) l1 a w -> wpOps P ops Q (l1 ++ l2) a w
 | [], _, _, h => h
 | i :: rest, a, w, h => by
   simp only [wpOps, qaw] at h ⊢;cases ho : ops[i]? with
   | none => simp only [ho] at h ⊢; exact mQ h
   | some o =>
     simp only [ho] at h ⊢;split at h
     ·rename_i hw;rw [if_pos hw];exact h.imp (fun h => zbg (fun _ _ q => mQ q) h) fun h => ⟨h.1, h.2⟩
     ·rename_i hw;rw [if_neg hw];exact mQ h
end
end Go.Eng
set_option maxRecDepth 100000
namespace Go.Eng
open Go Go.Proofs
def aV : Code -> Code | .seq a _ => a | _ => .skip
def aJ : Code -> Code | .seq _ b => b | _ => .skip
def eD : Code -> Code | .block _ c => c | .loop c => c | _ => .skip
def gR : Code -> Array Oper | .region _ o _ => o | _ => #[]
def mM (f : Func) : Code := f.body.getD .skip
def gS : Code -> Code | .cond _ a _ => a | _ => .skip
def zbh : Code -> Code | .cond _ _ a => a | _ => .skip
def xA (f : Func) : Code := aV (mM f)
def xB (f : Func) : Code := aV (aJ (mM f))
def xC (f : Func) : Code := eD (aV (aJ (aJ (mM f))))
def xC2 (f : Func) : Code := zbh (aJ (xC f))
def xR (f : Func) : Code := aJ (aJ (aJ (mM f)))
def xL (f : Func) : Code := aV (aJ (aJ (xR f)))
def xLp (f : Func) : Code := eD (eD (aJ (xL f)))
def xLb (f : Func) : Code := eD (aV (aJ (aJ (xLp f))))
def aO (kvs : List (PV × PV)) (y : Value) (n : Int) (nl : Bool) (T : List (List PV)) : Hp := [.box [.pv (.mp kvs), .own 1, .pv (.raw y), .pv (.int .i64 n)], .sl (30, 4) true nl T]
end Go.Eng
namespace Go.Eng.Rows
structure Row where
 kind : Int
 fr : Int
 to : Int
 a : Int
 b : Int
deriving DecidableEq
structure Sp where
 fr : Int
 to : Int
 a : Int
 b : Int
deriving DecidableEq, Inhabited
def Sp.has (x : Sp) (r : Int) : Prop := x.fr <= r /\ r <= x.to
def kH : List Sp -> Sp -> List Sp
 | [], s => if s.fr <= s.to then [s] else []
 | x :: xs, s => if x.to < s.fr then kH xs s else if s.to < x.fr then kH xs s else
   if s.fr < x.fr then { s with to := x.fr - 1 } :: kH xs { s with fr := x.to + 1 } else kH xs { s with fr := x.to + 1 }
def Rise (l : List Sp) : Prop := l.Pairwise fun x y => x.to < y.fr
def In (l : List Sp) : Prop := ∀ x ∈ l, 0 <= x.fr /\ x.fr <= x.to /\ x.to <= 1114111
def Good (l : List Sp) : Prop := Rise l /\ In l
def Apart (x y : Sp) : Prop := x.to < y.fr ∨ y.to < x.fr
theorem Rise.apart {l : List Sp} (h : Rise l) : l.Pairwise Apart := h.imp fun h => .inl h
theorem Good.len_aux {l : List Sp} (h : Good l) : ∀ c : Int, 0 <= c -> (∀ x ∈ l, c <= x.fr) -> c <= 1114112 -> (l.length : Int) <= 1114112 - c := by
 obtain ⟨h1, h2⟩ := h
 induction l with
 | nil => intro c h0 hc h; simp; omega
 | cons x xs ih =>
   intro c h0 hc hm;have hx := h2 x (qj);have hcx := hc x (qj);have := ih (List.Pairwise.of_cons h1) (fun y hy => h2 y (qf _ hy)) (x.to + 1) (by omega) (fun y hy => by have := List.rel_of_pairwise_cons h1 hy; omega) (by omega);simp only [qh];omega
theorem Good.len {l : List Sp} (h : Good l) : l.length <= 1114112 := by
 have := h.len_aux 0 (Int.le_refl _) (fun x hx => (h.2 x hx).1) (by omega);omega
def zbi (acc : List Sp) (x : Sp) : List Sp :=
 match acc.getLast? with
 | some y => if y.to + 1 = x.fr /\ y.a = x.a /\ y.b = x.b then acc.dropLast ++ [{ y with to := x.to }] else acc ++ [x]
 | none => acc ++ [x]
def zbj (l : List Sp) : List Sp := l.foldl zbi []
def Split (l : List Sp) : Prop := ∀ (i : Nat) (h : i + 1 < l.length), ¬ (l[i].to + 1 = l[i+1].fr /\ l[i].a = l[i+1].a /\ l[i].b = l[i+1].b)
theorem Split.append {l : List Sp} {x : Sp} (h : Split l) (hl : ∀ y, l.getLast? = some y -> ¬ (y.to + 1 = x.fr /\ y.a = x.a /\ y.b = x.b)) : Split (l ++ [x]) := by
 intro i hi;simp only [qq, qh, qah] at hi;by_cases h1 : i + 1 < l.length
 ·have := h i h1;rw [qr (by omega), qr h1];exact this
 ·have e : i + 1 = l.length := by omega
  have := hl l[i] (by rw [List.getLast?_eq_getElem?, qo (by omega)]; congr 2; omega);rw [qr (by omega), List.getElem_append_right (by omega)];simpa using this
def ins (x : Sp) : List Sp -> List Sp
 | [] => [x]
 | y :: l => if y.fr < x.fr then y :: ins x l else x :: y :: l
def uX : List Sp -> List Sp
 | [] => []
 | x :: l => ins x (uX l)
def Row.sp (x : Row) : Sp := ⟨if x.fr < 0 then 0 else x.fr, if 1114111 < x.to then 1114111 else x.to, x.a, x.b⟩
def zbk (k : Int) (l : List Sp) (x : Row) : List Sp := if x.kind = k then uX (l ++ kH l x.sp) else l
def zbl (k : Int) (rows : List Row) : List Sp := rows.foldl (zbk k) []
def ofL (k : Int) (rows : List Row) : List Sp := zbj (zbl k rows)
def Row.has (x : Row) (k r : Int) : Bool := decide (x.kind = k) && (decide (x.fr <= r) && decide (r <= x.to))
def first (rows : List Row) (k r : Int) : Option (Int × Int) := (rows.find? fun x => x.has k r).map fun x => (x.a, x.b)
example : ofL 1 [⟨1, 5, 9, 7, 0⟩, ⟨1, 8, 12, 8, 0⟩] = [⟨5, 9, 7, 0⟩, ⟨10, 12, 8, 0⟩] := by decide
end Go.Eng.Rows
namespace Go.Eng.Trie
open Go Go.Eng
variable {α : Type}
def dM (α : Type) := { l : List α // l.length = 128 }
instance [DecidableEq α] : DecidableEq (dM α) := fun a b => if h : a.1 = b.1 then isTrue (Subtype.ext h) else isFalse fun e => h (by rw [e])
def rep (v : α) : dM α := ⟨List.replicate 128 v, by simp⟩
variable {sz : Int} {F : Int -> α} {idx : List Int} {blk : List (dM α)}
structure TOK (sz : Int) (F : Int -> α) (idx : List Int) (blk : List (dM α)) : Prop where
 len : sz <= 128 * idx.length
 ok : ∀ (q : Nat) k, idx[q]? = some k -> 0 <= k /\ ∃ b : dM α, blk[k.toNat]? = some b /\ ∀ (j : Nat) u, b.1[j]? = some u -> (128 * q + j : Int) < sz -> u = F (128 * q + j)
theorem TOK.get (h : TOK sz F idx blk) {i : Int} (h0 : 0 <= i) (h1 : i < sz) : ∃ (hq : (i / 128).toNat < idx.length), 0 <= idx[(i / 128).toNat] /\ ∃ (hk : idx[(i / 128).toNat].toNat < blk.length), ∃ (hj : (i % 128).toNat < (blk[idx[(i / 128).toNat].toNat]).1.length), (blk[idx[(i / 128).toNat].toNat]).1[(i % 128).toNat] = F i := by
 have hl := h.len;have hq : (i / 128).toNat < idx.length := by omega
 obtain ⟨g0, b, g1, g2⟩ := h.ok (i / 128).toNat _ (qo hq);obtain ⟨hk, hb⟩ := List.getElem?_eq_some_iff.1 g1;have hj : (i % 128).toNat < (blk[idx[(i / 128).toNat].toNat]).1.length := by rw [(blk[idx[(i / 128).toNat].toNat]).2]; omega
 refine ⟨hq, g0, hk, hj, ?_⟩;have hj' : (i % 128).toNat < b.1.length := by rw [b.2]; omega
 have := g2 (i % 128).toNat _ (qo hj') (by omega);have e : (128 * ((i / 128).toNat : Int) + ((i % 128).toNat : Int)) = i := by omega
 rw [e] at this;simp only [hb];exact this
theorem more {b c : dM α} {k : Nat} (h : blk[k]? = some b) : (blk ++ [c])[k]? = some b := by
 have := (List.getElem?_eq_some_iff.1 h).1;rw [qk this]; exact h
variable [DecidableEq α]
structure TInv (sz : Int) (F : Int -> α) (idx : List Int) (blk : List (dM α)) (kn : List (dM α × Int)) (ev : List (α × Int)) : Prop where
 kn_ok : ∀ b k, aT b kn = some k -> 0 <= k /\ blk[k.toNat]? = some b
 ev_ok : ∀ v k, aT v ev = some k -> 0 <= k /\ blk[k.toNat]? = some (rep v)
 idx_ok : ∀ (q : Nat) k, idx[q]? = some k -> 0 <= k /\ ∃ b : dM α, blk[k.toNat]? = some b /\ ∀ (j : Nat) u, b.1[j]? = some u -> (128 * q + j : Int) < sz -> u = F (128 * q + j)
variable {kn : List (dM α × Int)} {ev : List (α × Int)}
theorem TInv.nil : TInv sz F [] [] [] [] := ⟨fun _ _ h => (by cases h), fun _ _ h => (by cases h), fun _ _ h => (by simp at h)⟩
theorem TInv.place (h : TInv sz F idx blk kn ev) (b : dM α) : TInv sz F idx (blk ++ [b]) (aM b (blk.length : Int) kn) ev := by
 refine ⟨fun c k hc => ?_, fun v k hv => ?_, fun q k hq => ?_⟩
 ·rw [pO] at hc;split at hc
  ·rename_i e;cases hc;exact ⟨by omega, by simp [e]⟩
  ·exact ⟨(h.kn_ok c k hc).1, more (h.kn_ok c k hc).2⟩
 ·exact ⟨(h.ev_ok v k hv).1, more (h.ev_ok v k hv).2⟩
 ·obtain ⟨h1, c, h2, h3⟩ := h.idx_ok q k hq;exact ⟨h1, c, more h2, h3⟩
theorem TInv.push (h : TInv sz F idx blk kn ev) {b : dM α} {k : Int} (h0 : 0 <= k) (hk : blk[k.toNat]? = some b) (hb : ∀ (j : Nat) u, b.1[j]? = some u -> (128 * idx.length + j : Int) < sz -> u = F (128 * idx.length + j)) : TInv sz F (idx ++ [k]) blk kn ev := by
 refine ⟨h.kn_ok, h.ev_ok, fun q k' hq => ?_⟩;rcases qav q idx.length with hl | hl | hl
 ·rw [qk hl] at hq;exact h.idx_ok q k' hq
 ·subst hl;simp at hq;subst hq;exact ⟨h0, b, hk, hb⟩
 ·rw [qak (by simp; omega)] at hq; cases hq
end Go.Eng.Trie
namespace Go.Eng.Rows
open Go Go.Eng Go.Eng.Trie
end Go.Eng.Rows
namespace Go.Eng.Rows
open Go Go.Eng
structure MKey where
 kind : Int
 rune : Int
 mt : Bool
 text : List Int
structure MStep where
 key : MKey
 call : Bool
 name : Int
abbrev Bk := List (Int × List MStep)
def bF (b : Bk) (x : Int) : Option (List MStep) := match b with
 | [] => none
 | (k, l) :: r => if k = x then some l else bF r x
abbrev MW := List MKey × Nat
def cF (f : Int -> MW -> Except Int MW) : List MStep -> MW -> Except Int MW
 | [], w => .ok w
 | x :: l, w => if 20000 <= w.2 then .error 7 else if x.call = true then (match f x.name (w.1, w.2 + 1) with | .ok w' => cF f l w' | .error e => .error e) else cF f l (w.1 ++ [x.key], w.2 + 1)
def bL (b : Bk) : Nat -> List Int -> Int -> MW -> Except Int MW
 | 0, _, _, _ => .error 6
 | d + 1, op, nm, w => match bF b nm with
   | none => .error 5
   | some l => if nm ∈ op then .error 6 else cF (fun m => bL b d (op ++ [nm]) m) l w
theorem uY {f g : Int -> MW -> Except Int MW} : ∀ {l : List MStep} {w : MW}, (∀ x ∈ l, ∀ w, f x.name w = g x.name w) -> cF f l w = cF g l w
 | [], w, _ => rfl
 | x :: l, w, h => by
   have ih := fun w => uY (l := l) (w := w) fun y hy => h y (qf _ hy);simp only [cF, h x qj];split
   ·rfl
   ·split
    ·split
     ·exact ih _
     ·rfl
    ·exact ih _
def fX (b : Bk) (op : List Int) : Nat := ((b.map (·.1)).filter fun x => decide (x ∉ op)).length
theorem uZ : ∀ {b : Bk} {x : Int} {l : List MStep}, bF b x = some l -> x ∈ b.map (·.1)
 | (k, l') :: r, x, l, h => by
   simp only [bF] at h;split at h
   ·rename_i e; subst e; simp
   ·simp only [qy, List.mem_cons]; exact .inr (uZ h)
theorem u4 {α : Type} (p q : α -> Bool) (hpq : ∀ x, q x = true -> p x = true) : ∀ (l : List α) (a : α), a ∈ l -> p a = true -> q a = false -> (l.filter q).length < (l.filter p).length
 | x :: l, a, ha, h1, h2 => by
   have le : ∀ l : List α, (l.filter q).length <= (l.filter p).length := by
    intro l
    induction l with
    | nil => exact qe _
    | cons y l ih =>
      simp only [qax];cases hq : q y with
      | true => rw [hpq y hq]; simp only [if_true, qh]; omega
      | false => cases hp : p y <;> simp only [if_true, qi, if_false, qh] <;> omega
   simp only [qax];rcases List.mem_cons.1 ha with rfl | ha
   ·rw [h1, h2];have := le l;simp only [if_true, qi, if_false, qh]; omega
   ·have ih := u4 p q hpq l a ha h1 h2;cases hq : q x with
    | true => rw [hpq x hq]; simp only [if_true, qh]; omega
    | false => cases hp : p x <;> simp only [if_true, qi, if_false, qh] <;> omega
theorem zbm {b : Bk} {op : List Int} {nm : Int} {l : List MStep} (h : bF b nm = some l) (hn : nm ∉ op) : fX b (op ++ [nm]) < fX b op :=
 u4 _ _ (fun x hx => by simp at hx ⊢; exact hx.1) _ nm (uZ h) (by simpa using hn) (by simp)
theorem u5 {b c : Bk} (h : ∀ x, bF b x = bF c x) : ∀ (d : Nat) (op : List Int) (nm : Int) (w : MW), bL b d op nm w = bL c d op nm w
 | 0, _, _, _ => rfl
 | d + 1, op, nm, w => by
   rw [bL, bL, h nm];split
   ·rfl
   ·split
    ·rfl
    ·exact uY fun x _ w => u5 h d _ _ w
def zbn (b : Bk) (ks : List MKey) (n : Nat) : Prop := bF b 0 = some (ks.map fun k => ⟨k, false, 0⟩) /\ ∀ i, i < n -> ∃ x y : MStep, bF b ((i + 1 : Nat) : Int) = some [x, y] /\ (x.call = true /\ x.name = i) /\ (y.call = true /\ y.name = i)
end Go.Eng.Rows
namespace Go.Eng
open Go Go.Proofs Go.Eng.Rows
open Go.ChangeMaps (setBlock)
abbrev GKey := Bool × Bool × MKey
abbrev GS := Bool × Bool × MStep
abbrev GB := List (Int × Bool × Bool × List GS)
def bO (x : GKey) : List PV := [.int .i64 x.2.2.kind, .int .i32 x.2.2.rune, .bool x.2.2.mt, .sl x.1 x.2.1 (aI x.2.2.text)]
def encGS (x : GS) : List PV := [.int .i64 x.2.2.key.kind, .int .i32 x.2.2.key.rune, .bool x.2.2.key.mt, .sl x.1 x.2.1 (aI x.2.2.key.text), .bool x.2.2.call, .int .i32 x.2.2.name]
def aN (B : GB) : List (PV × PV) := bS (fun n => .int .i32 n) (fun x => .sl x.1 x.2.1 (x.2.2.map encGS)) B
def aS (B : GB) : Bk := B.map fun p => (p.1, p.2.2.2.map (·.2.2))
theorem eE : ∀ (B : GB) (x : Int), bF (aS B) x = (aT x B).map fun y => y.2.2.map (·.2.2)
 | [], x => rfl
 | (k, y) :: r, x => by
   simp only [aS, qy, bF, aT];by_cases h : k = x
   ·subst h; simp
   ·have h' : ¬ x = k := fun e => h e.symm;rw [if_neg h, if_neg h'];exact eE r x
theorem iT (B : GB) (nm : Int) : cJ (.int .i32 nm) (aN B) = (aT nm B).map fun x => .sl x.1 x.2.1 (x.2.2.map encGS) := za2 (fun a b => uR _ a b) nm B
def cR (f : Func) : Array Oper := gR (aV (xC2 f))
def cS (f : Func) : Array Oper := gR (aV (xR f))
def bV (f : Func) : Array Oper := gR (aV (aJ (xR f)))
def xT (f : Func) : Code := aJ (aJ (xLb f))
def xTc (f : Func) : Code := gS (aJ (aV (xT f)))
def cY (f : Func) : Array Oper := gR (aV (aV (xTc f)))
def u6 (f : Func) : Code := aJ (aV (xTc f))
abbrev sH (kvs : List (PV × PV)) (y : Value) (n : Int) (nl : Bool) (T : List (List PV)) (ks : List PV) : Hp := [.box [.pv (.mp kvs), .own 1, .pv (.raw y), .pv (.int .i64 n)], .sl (30, 4) true nl T, .box (ks.map .pv)]
abbrev e1 (nm : Int) : Env := [(0, .box 0 0), (1, .pv (.int .i32 nm))]
abbrev eL (n5 f5 : Bool) (es : List (List PV)) (i : Int) : Env := [(0, .box 0 0), (40, .pv (.sl n5 f5 es)), (41, .pv (.int .i64 (es.length : Int))), (42, .pv (.int .i64 i))]
abbrev eF (n5 f5 : Bool) (es : List (List PV)) (i : Int) : Env := [(0, .box 0 0), (8, .box 2 0), (40, .pv (.sl n5 f5 es)), (41, .pv (.int .i64 (es.length : Int))), (42, .pv (.int .i64 i))]
theorem zbo : mM Try.f25 = .seq (xA Try.f25) (.seq (xB Try.f25) (.seq (.block 0 (xC Try.f25)) (.seq (.region 6 (cS Try.f25) false) (.seq (.region 7 (bV Try.f25) false) (.seq (xL Try.f25) (aJ (aJ (aJ (xR Try.f25))))))))) := by kernel_rfl
theorem zbp : xC Try.f25 = .seq (aV (xC Try.f25)) (.cond (.tmp 20) (gS (aJ (xC Try.f25))) (.seq (.region 4 (cR Try.f25) false) (.cond (.tmp 23) (gS (aJ (xC2 Try.f25))) .skip))) := by kernel_rfl
theorem zbq : xL Try.f25 = .seq (aV (xL Try.f25)) (.block 1 (.loop (.seq (aV (xLp Try.f25)) (.seq (.cond (.tmp 43) .skip (.exit 1)) (.seq (.block 2 (.seq (aV (xLb Try.f25)) (.seq (aV (aJ (xLb Try.f25))) (xT Try.f25)))) (aJ (aJ (aJ (xLp Try.f25))))))))) := by kernel_rfl
theorem zbr : xT Try.f25 = .seq (.seq (aV (aV (xT Try.f25))) (.cond (.tmp 59) (.seq (.seq (.region 15 (cY Try.f25) false) (u6 Try.f25)) (.exit 2)) .skip)) (aJ (xT Try.f25)) := by kernel_rfl
theorem pR : cX (cR Try.f25).toList = true /\ cX (cS Try.f25).toList = true /\ cX ((bV Try.f25).toList.take 5) = true /\ cX (cY Try.f25).toList = true := ⟨by kernel_rfl, by kernel_rfl, by kernel_rfl, by kernel_rfl⟩
section
variable {kvs : List (PV × PV)} {y : Value} {n : Int} {nl : Bool} {T : List (List PV)} {nm : Int}
theorem nA (Q : Qt) : bC qc (fun _ => none) 2 79 [0, 1] (fun _ => none) (xA Try.f25) (cL [.box 0 0, .pv (.int .i32 nm)] 0) (aO kvs y n nl T) Q = Q .normal (e1 nm) (aO kvs y n nl T) := by kernel_rfl
theorem nB (Q : Qt) : bC qc (fun _ => none) 2 79 [0, 1, 5, 6] (fun _ => none) (xB Try.f25) (e1 nm) (aO kvs y n nl T) Q =
 (fN .i32 kvs /\ (∀ v, cJ (.int .i32 nm) kvs = some v -> ∃ n1 f es, v = .sl n1 f es /\ Q .normal [(0, .box 0 0), (1, .pv (.int .i32 nm)), (5, .pv (.sl n1 f es)), (6, .pv (.bool true))] (aO kvs y n nl T)) /\
  (cJ (.int .i32 nm) kvs = none -> Q .normal [(0, .box 0 0), (1, .pv (.int .i32 nm)), (5, .pv (.sl true true [])), (6, .pv (.bool false))] (aO kvs y n nl T))) := by kernel_rfl
theorem nC1 (v5 : PV) (ok : Bool) (Q : Qt) : bC qc (fun _ => none) 2 79 [0, 1, 5, 20] (fun _ => none) (aV (xC Try.f25)) [(0, .box 0 0), (1, .pv (.int .i32 nm)), (5, .pv v5), (6, .pv (.bool ok))] (aO kvs y n nl T) Q = Q .normal [(0, .box 0 0), (1, .pv (.int .i32 nm)), (5, .pv v5), (20, .pv (.bool !ok))] (aO kvs y n nl T) := by kernel_rfl
theorem nC2 (Q : Qt) : bC qc (fun _ => none) 2 79 [4] (fun _ => none) (gS (aJ (xC Try.f25))) (e1 nm) (aO kvs y n nl T) Q = Q .ret [(4, .pv (.int .i64 5))] (aO kvs y n nl T) := by kernel_rfl
theorem nC4 (v5 : PV) (K : Env -> Hp -> Prop) : aU qc (fun _ => none) 79 (cR Try.f25).toList (((cR Try.f25).toList.drop 0).take 5) [(0, .box 0 0), (1, .pv (.int .i32 nm)), (5, .pv v5)] (aO kvs y n nl T) K =
 K [(28, .pv (.int .i32 nm)), (27, .pv (.raw y)), (26, .box 0 2), (25, .box 0 0), (24, .box 0 0), (0, .box 0 0), (1, .pv (.int .i32 nm)), (5, .pv v5)] (aO kvs y n nl T) := by kernel_rfl
theorem zbs (v5 : PV) (b : Bool) (K : Env -> Hp -> Prop) : aU qc (fun _ => none) 79 (cR Try.f25).toList (((cR Try.f25).toList.drop 6).take 1) [(29, .pv (.bool b)), (0, .box 0 0), (1, .pv (.int .i32 nm)), (5, .pv v5)] (aO kvs y n nl T) K =
 K [(23, .pv (.bool b)), (29, .pv (.bool b)), (0, .box 0 0), (1, .pv (.int .i32 nm)), (5, .pv v5)] (aO kvs y n nl T) := by kernel_rfl
theorem nC5 (Q : Qt) : bC qc (fun _ => none) 2 79 [4] (fun _ => none) (gS (aJ (xC2 Try.f25))) (e1 nm) (aO kvs y n nl T) Q = Q .ret [(4, .pv (.int .i64 6))] (aO kvs y n nl T) := by kernel_rfl
theorem nC6 (v5 : PV) (K : Env -> Hp -> Prop) : aU qc (fun _ => none) 79 (cS Try.f25).toList (((cS Try.f25).toList.drop 0).take 5) [(0, .box 0 0), (1, .pv (.int .i32 nm)), (5, .pv v5)] (aO kvs y n nl T) K =
 K [(34, .pv (.int .i32 nm)), (33, .pv (.raw y)), (32, .box 0 2), (31, .box 0 0), (30, .box 0 0), (0, .box 0 0), (1, .pv (.int .i32 nm)), (5, .pv v5)] (aO kvs y n nl T) := by kernel_rfl
theorem nC7 (v5 : PV) (K : Env -> Hp -> Prop) : aU qc (fun _ => none) 79 (bV Try.f25).toList ((bV Try.f25).toList.take 5) [(0, .box 0 0), (1, .pv (.int .i32 nm)), (5, .pv v5)] (aO kvs y n nl T) K =
 K [(39, .pv (.int .i32 nm)), (38, .pv (.raw y)), (37, .box 0 2), (36, .box 0 0), (35, .box 0 0), (0, .box 0 0), (1, .pv (.int .i32 nm)), (5, .pv v5)] (aO kvs y n nl T) := by kernel_rfl
theorem zbt (Q : Qt) : bC qc (fun _ => none) 2 79 [4] (fun _ => none) (aJ (aJ (aJ (xR Try.f25)))) [(0, .box 0 0)] (aO kvs y n nl T) Q = Q .ret [(4, .pv (.int .i64 0))] (aO kvs y n nl T) := by kernel_rfl
end
section
variable {kvs : List (PV × PV)} {y : Value} {n : Int} {nl : Bool} {T : List (List PV)} {n5 f5 : Bool} {es : List (List PV)} {i : Int} {k1 k2 : Int} {k3 kn kf k5 : Bool} {kt : List (List PV)} {k6 : Int}
theorem nL8 (Q : Qt) : bC qc (fun _ => none) 2 79 [0, 40, 41, 42] (fun _ => none) (aV (xL Try.f25)) [(0, .box 0 0), (5, .pv (.sl n5 f5 es))] (aO kvs y n nl T) Q = Q .normal (eL n5 f5 es 0) (aO kvs y n nl T) := by kernel_rfl
theorem nL9 (Q : Qt) : bC qc (fun _ => none) 2 79 [0, 40, 41, 42, 43] (fun _ => none) (aV (xLp Try.f25)) (eL n5 f5 es i) (aO kvs y n nl T) Q = Q .normal [(0, .box 0 0), (40, .pv (.sl n5 f5 es)), (41, .pv (.int .i64 (es.length : Int))), (42, .pv (.int .i64 i)), (43, .pv (.bool (decide (i < (es.length : Int)))))] (aO kvs y n nl T) := by kernel_rfl
theorem zbu (Q : Qt) : bC qc (fun _ => none) 2 79 [0, 8, 40, 41, 42] (fun _ => none) (aV (xLb Try.f25)) (eL n5 f5 es i) (aO kvs y n nl T) Q =
 (aB es i 6 /\ ∃ n1, (es.getD i.toNat []).head? = some (.int .i64 n1) /\ ∃ n2, (es.getD i.toNat []).tail.head? = some (.int .i32 n2) /\ ∃ b, (es.getD i.toNat []).tail.tail.head? = some (.bool b) /\ ∃ n3 f es1, (es.getD i.toNat []).tail.tail.tail.head? = some (.sl n3 f es1) /\
  ∃ b1, (es.getD i.toNat []).tail.tail.tail.tail.head? = some (.bool b1) /\ ∃ n4, (es.getD i.toNat []).tail.tail.tail.tail.tail.head? = some (.int .i32 n4) /\
  Q .normal (eF n5 f5 es i) (sH kvs y n nl T [.int .i64 n1, .int .i32 n2, .bool b, .sl n3 f es1, .bool b1, .int .i32 n4])) := by kernel_rfl
theorem zbv (Q : Qt) : bC qc (fun _ => none) 2 79 [0, 4, 8, 40, 41, 42, 57] (fun _ => none) (aV (aJ (xLb Try.f25))) (eF n5 f5 es i) (sH kvs y n nl T [.int .i64 k1, .int .i32 k2, .bool k3, .sl kn kf kt, .bool k5, .int .i32 k6]) Q =
 (if decide (i64.wrap (n + (1 : Int)) > (20000 : Int)) = true then
  Q .ret [(0, .box 0 0), (4, .pv (.int .i64 7)), (8, .box 2 0), (40, .pv (.sl n5 f5 es)), (41, .pv (.int .i64 (es.length : Int))), (42, .pv (.int .i64 i)), (57, .pv (.bool (decide (i64.wrap (n + (1 : Int)) > (20000 : Int)))))] (sH kvs y (i64.wrap (n + (1 : Int))) nl T [.int .i64 k1, .int .i32 k2, .bool k3, .sl kn kf kt, .bool k5, .int .i32 k6])
 else Q .normal [(0, .box 0 0), (8, .box 2 0), (40, .pv (.sl n5 f5 es)), (41, .pv (.int .i64 (es.length : Int))), (42, .pv (.int .i64 i)), (57, .pv (.bool (decide (i64.wrap (n + (1 : Int)) > (20000 : Int)))))] (sH kvs y (i64.wrap (n + (1 : Int))) nl T [.int .i64 k1, .int .i32 k2, .bool k3, .sl kn kf kt, .bool k5, .int .i32 k6])) := by kernel_rfl
theorem zbw (Q : Qt) : bC qc (fun _ => none) 2 79 [0, 8, 40, 41, 42, 59] (fun _ => none) (aV (aV (xT Try.f25))) (eF n5 f5 es i) (sH kvs y n nl T [.int .i64 k1, .int .i32 k2, .bool k3, .sl kn kf kt, .bool k5, .int .i32 k6]) Q =
 Q .normal [(0, .box 0 0), (8, .box 2 0), (40, .pv (.sl n5 f5 es)), (41, .pv (.int .i64 (es.length : Int))), (42, .pv (.int .i64 i)), (59, .pv (.bool k5))] (sH kvs y n nl T [.int .i64 k1, .int .i32 k2, .bool k3, .sl kn kf kt, .bool k5, .int .i32 k6]) := by kernel_rfl
theorem zbx (K : Env -> Hp -> Prop) : aU qc (fun _ => none) 79 (cY Try.f25).toList (((cY Try.f25).toList.drop 0).take 3) (eF n5 f5 es i) (sH kvs y n nl T [.int .i64 k1, .int .i32 k2, .bool k3, .sl kn kf kt, .bool k5, .int .i32 k6]) K =
 K ((62, .pv (.int .i32 k6)) :: (61, .box 2 5) :: (60, .box 0 0) :: eF n5 f5 es i) (sH kvs y n nl T [.int .i64 k1, .int .i32 k2, .bool k3, .sl kn kf kt, .bool k5, .int .i32 k6]) := by kernel_rfl
theorem zby (r : Int) (K : Env -> Hp -> Prop) : aU qc (fun _ => none) 79 (cY Try.f25).toList (((cY Try.f25).toList.drop 4).take 1) ((63, .pv (.int .i64 r)) :: eL n5 f5 es i) (aO kvs y n nl T) K = K ((9, .pv (.int .i64 r)) :: (63, .pv (.int .i64 r)) :: eL n5 f5 es i) (aO kvs y n nl T) := by kernel_rfl
theorem zbz (r : Int) (Q : Qt) : bC qc (fun _ => none) 2 79 [0, 4, 9, 40, 41, 42, 65] (fun _ => none) (u6 Try.f25) ((9, .pv (.int .i64 r)) :: eL n5 f5 es i) (aO kvs y n nl T) Q =
 (if (r != (0 : Int)) = true then Q .ret [(0, .box 0 0), (4, .pv (.int .i64 r)), (9, .pv (.int .i64 r)), (40, .pv (.sl n5 f5 es)), (41, .pv (.int .i64 (es.length : Int))), (42, .pv (.int .i64 i)), (65, .pv (.bool (r != (0 : Int))))] (aO kvs y n nl T)
 else Q .normal [(0, .box 0 0), (9, .pv (.int .i64 r)), (40, .pv (.sl n5 f5 es)), (41, .pv (.int .i64 (es.length : Int))), (42, .pv (.int .i64 i)), (65, .pv (.bool (r != (0 : Int))))] (aO kvs y n nl T)) := by kernel_rfl
theorem zb0 (Q : Qt) : bC qc (fun _ => none) 2 79 [0, 40, 41, 42] (fun _ => none) (aJ (xT Try.f25)) (eF n5 f5 es i) (sH kvs y n nl T [.int .i64 k1, .int .i32 k2, .bool k3, .sl kn kf kt, .bool k5, .int .i32 k6]) Q =
 ((cH [[PV.int .i64 k1, .int .i32 k2, .bool k3, .sl kn kf kt]] 4 /\ (T.length + 1) * 40 <= 140737488355328) /\ Q .normal (eL n5 f5 es i) (sH kvs y n (nl && false) (T ++ [[.int .i64 k1, .int .i32 k2, .bool k3, .sl kn kf kt]]) [.int .i64 k1, .int .i32 k2, .bool k3, .sl kn kf kt, .bool k5, .int .i32 k6])) := by kernel_rfl
theorem zb1 (Q : Qt) : bC qc (fun _ => none) 2 79 [0, 40, 41, 42] (fun _ => none) (aJ (aJ (aJ (xLp Try.f25)))) (eL n5 f5 es i) (aO kvs y n nl T) Q = Q .normal (eL n5 f5 es (i64.wrap (i + 1))) (aO kvs y n nl T) := by kernel_rfl
end
theorem mR : (cR Try.f25)[5]? = some ((cR Try.f25).toList.getD 5 default) /\ ((cR Try.f25).toList.getD 5 default).dst = some 29 /\ ((cR Try.f25).toList.getD 5 default).guard = none /\ ((cR Try.f25).toList.getD 5 default).op = .lookup 69 (.tmp 27) (.tmp 28) false /\ (cR Try.f25).size = 7 /\
 (cS Try.f25)[5]? = some ((cS Try.f25).toList.getD 5 default) /\ ((cS Try.f25).toList.getD 5 default).dst = none /\ ((cS Try.f25).toList.getD 5 default).guard = none /\ ((cS Try.f25).toList.getD 5 default).op = .mapUpdate 69 (.tmp 33) (.tmp 34) (.const (.bool true)) /\ (cS Try.f25).size = 6 /\
 (bV Try.f25)[5]? = some ((bV Try.f25).toList.getD 5 default) /\ ((bV Try.f25).toList.getD 5 default).dst = none /\ ((bV Try.f25).toList.getD 5 default).guard = none /\ ((bV Try.f25).toList.getD 5 default).op = .defer { callee := .builtin .delete, args := #[.tmp 38, .tmp 39], argTypes := #[69, 21] } /\ (bV Try.f25).size = 6 /\
 (cY Try.f25)[3]? = some ((cY Try.f25).toList.getD 3 default) /\ ((cY Try.f25).toList.getD 3 default).dst = some 63 /\ ((cY Try.f25).toList.getD 3 default).guard = none /\ ((cY Try.f25).toList.getD 3 default).op = .call { callee := .value (.func 25), args := #[.tmp 60, .tmp 62], argTypes := #[68, 21] } /\ (cY Try.f25).size = 5 :=
 ⟨by kernel_rfl, by kernel_rfl, by kernel_rfl, by kernel_rfl, by kernel_rfl, by kernel_rfl, by kernel_rfl, by kernel_rfl, by kernel_rfl, by kernel_rfl, by kernel_rfl, by kernel_rfl, by kernel_rfl, by kernel_rfl, by kernel_rfl, by kernel_rfl, by kernel_rfl, by kernel_rfl, by kernel_rfl, by kernel_rfl⟩
structure NmZ (bk : Nat) (w0 : World) (I0 : Nat -> Prop) (G0 : Nat -> Pl) (o0 : Nat -> Prop) (st : List Int) (w : World) (I : Nat -> Prop) (G : Nat -> Pl) (h : Hp) : Prop where
 t : Tr w0 I0 o0 w I (fun b => aD h G b ∨ b = bk)
 len : 2 <= h.length
 stay : ∀ (o : Nat) ob, o < 2 -> h[o]? = some ob -> ob.fixed = true -> G o = G0 o
 st : StackM w bk st
 nI : ¬ I bk
 nO : ¬ aD h G bk
theorem StackM.lt {w : World} {b : Nat} {st : List Int} (h : StackM w b st) : b < w.heap.size := by
 obtain ⟨es, ck, h1, _⟩ := h;rcases qac b w.heap.size with h' | h'
 ·exact h'
 ·rw [qt h'] at h1; cases h1
theorem StackM.same {w w' : World} {b : Nat} {st : List Int} (h : StackM w b st) (e : w'.heap[b]? = w.heap[b]?) : StackM w' b st := by
 obtain ⟨es, ck, h1, h2⟩ := h;exact ⟨es, ck, e.trans h1, h2⟩
theorem Tr.also {w w' : World} {I I' own own' : Nat -> Prop} (h : Tr w I own w' I' own') (bk : Nat) : Tr w I (fun b => own b ∨ b = bk) w' I' (fun b => own' b ∨ b = bk) :=
 ⟨h.os, h.tape, h.output, h.size, fun b hb hn => h.keep b hb fun ho => hn (.inl ho), h.i1, fun b hb => (h.i2 b hb).imp id fun x => x.imp .inl id, fun b hb => hb.elim (fun ho => (h.own2 b ho).imp .inl id) fun e => .inl (.inr e), h.frz, h.drawn⟩
section
variable {bk : Nat} {w0 : World} {I0 : Nat -> Prop} {G0 : Nat -> Pl} {o0 : Nat -> Prop}
theorem NmZ.stab : kG (NmZ bk w0 I0 G0 o0) 2 := by
 rintro st w I G h w' I' G' h' ⟨t0, l0, s0, m0, n1, n2⟩ hh hh' t;have hlt := m0.lt;refine ⟨t0.trans (t.t.also bk), t.len l0, fun o ob ho hx hf => ?_, m0.same (t.t.keep bk hlt n2), fun hi => ?_, fun ho => ?_⟩
 ·obtain ⟨e1, ob0, e2, e3⟩ := t.stay l0 o ob ho hx hf;exact e1.trans (s0 o ob0 ho e2 e3)
 ·rcases t.t.i2 bk hi with q | q | q
  ·exact n1 q
  ·exact n2 q
  ·omega
 ·rcases t.t.own2 bk ho with q | q
  ·exact n2 q
  ·omega
abbrev CN (bk : Nat) (w0 : World) (I0 : Nat -> Prop) (G0 : Nat -> Pl) (o0 : Nat -> Prop) := CodeY (NmZ bk w0 I0 G0 o0) qc 79
theorem NmZ.turn {st st' : List Int} {w : World} {I : Nat -> Prop} {G : Nat -> Pl} {h : Hp} (hz : NmZ bk w0 I0 G0 o0 st w I G h) (hh : HRel w I G h) {o : Obj} (hs : StackM (setBlock w bk o) bk st') :
 HRel (setBlock w bk o) I G h /\ Keeps w I (setBlock w bk o) I /\ NmZ bk w0 I0 G0 o0 st' (setBlock w bk o) I G h := by
 obtain ⟨t0, l0, s0, m0, n1, n2⟩ := hz;have hlt := m0.lt;obtain ⟨es0, ck0, e0, _⟩ := m0;obtain ⟨es1, ck1, e1, _⟩ := id hs
 have ho : o = .map es1 ck1 := by
  rw [Go.ChangeMaps.heap_setBlock_same e0] at e1; exact Option.some.inj e1
 have hoth : ∀ b, b ≠ bk -> (setBlock w bk o).heap[b]? = w.heap[b]? := fun b hb => Go.ChangeMaps.heap_setBlock_other e0 _ hb;have hsz : (setBlock w bk o).heap.size = w.heap.size := by simp [setBlock]
 have hk : Keeps w I (setBlock w bk o) I := ⟨fun b hb _ => hoth b fun e => n1 (e ▸ hb), fun b hb _ => hb⟩;refine ⟨hh.frame (fun b hb => hoth b fun e => n2 (e ▸ hb)) hk (fun b ⟨q, ob, q1, q2, q3⟩ hi => hh.nI q ob q1 q2 (q3 ▸ hi)) (fun b hb => by rw [hsz]; exact hh.cl b hb), hk, ?_, l0, s0, hs, n1, n2⟩;refine t0.trans ⟨rfl, rfl, rfl, by rw [hsz]; exact qe _, fun b _ hn => hoth b fun e => hn (.inr e), fun _ x => x, fun _ x => .inl x, fun _ x => .inl x, fun a _ => ?_, qe _⟩;rw [ho]; exact Go.ChangeMaps.frozen?_setBlock e0 a
theorem pS : Try.prog.underlying 69 = some (.map 21 4) /\ Try.prog.underlying 21 = some (.int .i32) /\ ∃ ti, Try.prog.info? 4 = some ti /\ ti.zero = some (.bool false) := by
 refine ⟨by kernel_rfl, by kernel_rfl, ?_⟩;have h : (Try.prog.info? 4).bind (·.zero) = some (.bool false) := by kernel_rfl
 cases hi : Try.prog.info? 4 with
 | none => rw [hi] at h; cases h
 | some ti => rw [hi] at h; exact ⟨ti, rfl, h⟩
variable {kvs : List (PV × PV)} {n : Int} {nl : Bool} {T : List (List PV)} {nm : Int} {st : List Int}
theorem mS {w : World} {I : Nat -> Prop} {G : Nat -> Pl} {h : Hp} {v cv : Value} (hr : LRel w I G h (.pv (.raw v)) cv) : cv = v := by cases hr with | pv _ _ h1 => cases h1; rfl
theorem zb2 (v5 : PV) {Q : List Int -> Qt} (hK : Q st .normal [(23, .pv (.bool (decide (nm ∈ st)))), (29, .pv (.bool (decide (nm ∈ st)))), (0, .box 0 0), (1, .pv (.int .i32 nm)), (5, .pv v5)] (aO kvs (.map (some bk)) n nl T)) :
 CN bk w0 I0 G0 o0 (.region 4 (cR Try.f25) false) st [(0, .box 0 0), (1, .pv (.int .i32 nm)), (5, .pv v5)] (aO kvs (.map (some bk)) n nl T) Q := by
 intro w I G a Qx hs hz hq;obtain ⟨d4, _, _, _⟩ := pR;obtain ⟨p1, p2, p3, p4, p5, _⟩ := mR;obtain ⟨m1, m2, ti, m3, m4⟩ := pS
 refine mN (Φ := fun a' w' => ∃ I' G', SRel w' I' G' [(23, .pv (.bool (decide (nm ∈ st)))), (29, .pv (.bool (decide (nm ∈ st)))), (0, .box 0 0), (1, .pv (.int .i32 nm)), (5, .pv v5)] (aO kvs (.map (some bk)) n nl T) 79 a' /\ a'.defers = a.defers /\ NmZ bk w0 I0 G0 o0 st w' I' G' (aO kvs (.map (some bk)) n nl T)) ?_
  (fun a' w' ⟨I', G', q1, q2, q3⟩ => hq st .normal _ _ w' I' G' a' hK q1 q2 q3)
 refine OpsN.step d4 5 (by rw [p5]; omega) (by rw [nC4]; exact ⟨rfl, rfl⟩ : aU qc (fun _ => none) 79 _ _ _ _ (fun e' h' => e' = _ /\ h' = _)) hs ?_;rintro _ _ w1 I1 G1 a1 ⟨rfl, rfl⟩ hs1 hd1 ht1;have hz1 := NmZ.stab _ _ _ _ _ _ _ _ _ hz hs.hh hs1.hh ht1.toN;have v27 : a1.eval (.tmp 27) = .map (some bk) := mS (hs1.he 27 _ rfl);have v28 : a1.eval (.tmp 28) = .int .i32 nm := (hs1.he 28 _ rfl : LRel w1 I1 G1 _ (.pv (.int .i32 nm)) _).int_eq;refine OpsN.value p1 p3 (v := .bool (decide (nm ∈ st))) ?_ ?_
 ·unfold execOp;rw [p4];simp only [v27, v28];refine aY ?_;exact zba m1 m2 m3 m4 hz1.st nm
 obtain ⟨hs2, hd2⟩ := fA (o := (cR Try.f25).toList.getD 5 default) (v := .pv (.bool (decide (nm ∈ st)))) (N := 79) (by unfold dG; rw [p2]; rfl) hs1.hn hs1.hh hs1.he (.pv _ _ (.bool _));have hs2 : SRel w1 I1 G1 [(29, .pv (.bool (decide (nm ∈ st)))), (0, .box 0 0), (1, .pv (.int .i32 nm)), (5, .pv v5)] (aO kvs (.map (some bk)) n nl T) 79 _ := hs2.le (LeE.le (by unfold put; rw [p2]; exact ⟨rfl, rfl, rfl, rfl, trivial⟩));refine OpsN.step d4 1 (by rw [p5]; exact qe _) (by rw [zbs]; exact ⟨rfl, rfl⟩ : aU qc (fun _ => none) 79 _ _ _ _ (fun e' h' => e' = _ /\ h' = _)) hs2 ?_;rintro _ _ w3 I3 G3 a3 ⟨rfl, rfl⟩ hs3 hd3 ht3;exact OpsN.last (by rw [p5]; exact qe _) ⟨I3, G3, hs3, hd3.trans (hd2.trans hd1), NmZ.stab _ _ _ _ _ _ _ _ _ hz1 hs1.hh hs3.hh ht3.toN⟩
theorem zb3 (v5 : PV) (hn : nm ∉ st) {Q : List Int -> Qt} (hK : Q (st ++ [nm]) .normal [(0, .box 0 0), (1, .pv (.int .i32 nm)), (5, .pv v5)] (aO kvs (.map (some bk)) n nl T)) :
 CN bk w0 I0 G0 o0 (.region 6 (cS Try.f25) false) st [(0, .box 0 0), (1, .pv (.int .i32 nm)), (5, .pv v5)] (aO kvs (.map (some bk)) n nl T) Q := by
 intro w I G a Qx hs hz hq;obtain ⟨_, d6, _, _⟩ := pR;obtain ⟨_, _, _, _, _, p1, p2, p3, p4, p5, _⟩ := mR;obtain ⟨m1, m2, ti, m3, m4⟩ := pS
 refine mN (Φ := fun a' w' => ∃ I' G', SRel w' I' G' [(0, .box 0 0), (1, .pv (.int .i32 nm)), (5, .pv v5)] (aO kvs (.map (some bk)) n nl T) 79 a' /\ a'.defers = a.defers /\ NmZ bk w0 I0 G0 o0 (st ++ [nm]) w' I' G' (aO kvs (.map (some bk)) n nl T)) ?_
  (fun a' w' ⟨I', G', q1, q2, q3⟩ => hq (st ++ [nm]) .normal _ _ w' I' G' a' hK q1 q2 q3)
 refine OpsN.step d6 5 (by rw [p5]; omega) (by rw [nC6]; exact ⟨rfl, rfl⟩ : aU qc (fun _ => none) 79 _ _ _ _ (fun e' h' => e' = _ /\ h' = _)) hs ?_;rintro _ _ w1 I1 G1 a1 ⟨rfl, rfl⟩ hs1 hd1 ht1;have hz1 := NmZ.stab _ _ _ _ _ _ _ _ _ hz hs.hh hs1.hh ht1.toN;have v33 : a1.eval (.tmp 33) = .map (some bk) := mS (hs1.he 33 _ rfl);have v34 : a1.eval (.tmp 34) = .int .i32 nm := (hs1.he 34 _ rfl : LRel w1 I1 G1 _ (.pv (.int .i32 nm)) _).int_eq;obtain ⟨ob, r1, r2⟩ := zbb m1 m2 hz1.st hn;obtain ⟨g1, g2, g3⟩ := hz1.turn hs1.hh r2
 have hrun : (execOp a1.eval ((cS Try.f25).toList.getD 5 default)).run qc w1 = .ok .skip (setBlock w1 bk ob) := by
  unfold execOp;rw [p4];simp only [v33, v34];show (do Instr.mapUpdate 69 (.map (some bk)) (.int .i32 nm) (.bool true); Pure.pure Next.skip : Sem Next).run qc w1 = _;simp only [qap, r1, qaa, qaq]
 refine OpsN.one p1 p3 ⟨fun _ _ => trivial, ?_⟩;show Oper.uponIn (wd none) 0 qc _ a1 _ _ (((((cS Try.f25).toList.getD 5 default)).semAt none a1.eval).run qc w1);rw [Oper.semAt_none, hrun];show OpsN _ _ _ _ (a1.put ((cS Try.f25).toList.getD 5 default).dst undef) _;rw [p2];refine OpsN.last (by rw [p5]; exact qe _) ⟨I1, G1, ?_, hd1, g3⟩;have hs2 : SRel w1 I1 G1 [(0, .box 0 0), (1, .pv (.int .i32 nm)), (5, .pv v5)] (aO kvs (.map (some bk)) n nl T) 79 a1 := hs1.le (LeE.le ⟨rfl, rfl, rfl, trivial⟩);exact ⟨g1, hs2.he.mono g2 (.refl _ _), hs2.hn⟩
end
section
variable {bk : Nat} {w0 : World} {I0 : Nat -> Prop} {G0 : Nat -> Pl} {o0 : Nat -> Prop} {kvs : List (PV × PV)} {n : Int} {nl : Bool} {T : List (List PV)} {nm : Int} {st : List Int}
def u7 (bk : Nat) (nm : Int) (d : Deferred) : Prop := ∃ ty ks, d = { target := .builtin .delete #[69, 21] ty ks, args := #[.map (some bk), .int .i32 nm] }
theorem zb4 (v5 : PV) {w : World} {I : Nat -> Prop} {G : Nat -> Pl} {a : Act} {Qx : Exit -> Act -> World -> Prop} (hs : SRel w I G [(0, .box 0 0), (1, .pv (.int .i32 nm)), (5, .pv v5)] (aO kvs (.map (some bk)) n nl T) 79 a) (hz : NmZ bk w0 I0 G0 o0 st w I G (aO kvs (.map (some bk)) n nl T))
 (hq : ∀ d w' I' G' a', u7 bk nm d -> SRel w' I' G' [(0, .box 0 0), (1, .pv (.int .i32 nm)), (5, .pv v5)] (aO kvs (.map (some bk)) n nl T) 79 a' -> a'.defers = d :: a.defers -> NmZ bk w0 I0 G0 o0 st w' I' G' (aO kvs (.map (some bk)) n nl T) -> Qx .normal a' w') :
 (Code.region 7 (bV Try.f25) false).wp qc Qx a w := by
 obtain ⟨_, _, _, _, _, _, _, _, _, _, p1, p2, p3, p4, p5, _⟩ := mR;refine wp_region ?_;rw [p5, show List.range 6 = qai 0 5 ++ [5] from rfl];refine mQ ?_;have hl : ((bV Try.f25).toList.take 5).length = 5 := by rw [List.length_take, Array.length_toList, p5]; rfl
 have := mD (H := fun _ => none) (P := qc) (N := 79) (ops := bV Try.f25) (Qx := Exit.then (wpOps qc (bV Try.f25) Qx [5]) Qx) ((bV Try.f25).toList.take 5) 0 _ _ (fun j hj => by rw [qao, if_pos (by omega)]; simp)
  (by rw [nC7]; exact ⟨rfl, rfl⟩ : aU qc (fun _ => none) 79 _ _ _ (aO kvs (.map (some bk)) n nl T) (fun e' h' => e' = _ /\ h' = _)) w I G a hs ?_
 ·rwa [hl] at this
 rintro _ _ w1 I1 G1 a1 ⟨rfl, rfl⟩ hs1 hd1 ht1;have hz1 := NmZ.stab _ _ _ _ _ _ _ _ _ hz hs.hh hs1.hh ht1.toN;have v38 : a1.eval (.tmp 38) = .map (some bk) := mS (hs1.he 38 _ rfl);have v39 : a1.eval (.tmp 39) = .int .i32 nm := (hs1.he 39 _ rfl : LRel w1 I1 G1 _ (.pv (.int .i32 nm)) _).int_eq;show wpOps qc (bV Try.f25) Qx [5] a1 w1;simp only [wpOps, p1];rw [if_pos (show Region.wanted ((bV Try.f25).toList.getD 5 default) _ = true by unfold Region.wanted; rw [p3])];refine .inl ?_
 have hrun : (execOp a1.eval ((bV Try.f25).toList.getD 5 default)).run qc w1 = .ok (.defer { target := .builtin .delete #[69, 21] ((bV Try.f25).toList.getD 5 default).type #[false, false], args := #[.map (some bk), .int .i32 nm] }) w1 := by
  unfold execOp;rw [p4];simp [resolve, v38, v39]
 unfold Oper.wp;rw [hrun, Oper.upon_defer, p2];exact hq _ w1 I1 G1 _ ⟨_, _, rfl⟩ ⟨hs1.hh, (hs1.le (e' := [(0, .box 0 0), (1, .pv (.int .i32 nm)), (5, .pv v5)]) (LeE.le ⟨rfl, rfl, rfl, trivial⟩)).he, hs1.hn⟩ (by show _ :: a1.defers = _; rw [hd1]) hz1
def fC : Except Int MW -> Int -> Int -> List GKey -> Prop
 | .ok w, r, n', Q' => r = 0 /\ n' = (w.2 : Int) /\ Q'.map (·.2.2) = w.1 /\ w.2 <= 20000 /\ Q'.length <= w.2
 | .error e, r, _, _ => r = e /\ e ≠ 0
abbrev aK (B : GB) (bk : Nat) (n : Int) (nl : Bool) (Q : List GKey) : Hp := aO (aN B) (.map (some bk)) n nl (Q.map bO)
def pT (B : GB) (d : Nat) : Prop := ∀ (st : List Int) (nm : Int) (n : Nat) (nl : Bool) (Q : List GKey) (bk : Nat) (p : Value) (w : World) (I : Nat -> Prop) (G : Nat -> Pl), fX (aS B) st < d -> n <= 20000 -> Q.length <= n -> HRel w I G (aK B bk n nl Q) -> LRel w I G (aK B bk n nl Q) (.box 0 0) p ->
 StackM w bk st -> ¬ I bk -> ¬ aD (aK B bk n nl Q) G bk -> Calls qc 25 #[p, .int .i32 nm] w fun e w' => ∃ (r n' : Int) (nl' : Bool) (Q' : List GKey) (I' : Nat -> Prop) (G' : Nat -> Pl), e = .returned (.int .i64 r) /\ fC (bL (aS B) d st nm (Q.map (·.2.2), n)) r n' Q' /\ HRel w' I' G' (aK B bk n' nl' Q') /\
  NmZ bk w I G (fun b => aD (aK B bk n nl Q) G b ∨ b = bk) st w' I' G' (aK B bk n' nl' Q')
theorem u9 : jE qc 25 := ⟨_, Try.func25, by kernel_rfl, by kernel_rfl⟩
theorem zb5 {B : GB} {d : Nat} (ih : pT B d) (hd : fX (aS B) st < d) {n : Nat} (hn : n <= 20000) {Q : List GKey} (hQ : Q.length <= n) {n5 f5 : Bool} {es : List (List PV)} {i k1 k2 : Int} {k3 kn kf k5 : Bool} {kt : List (List PV)} {k6 : Int} {Ψ : List Int -> Qt}
 (hK : ∀ (r n' : Int) (nl' : Bool) (Q' : List GKey), fC (bL (aS B) d st k6 (Q.map (·.2.2), n)) r n' Q' -> Ψ st .normal ((9, .pv (.int .i64 r)) :: (63, .pv (.int .i64 r)) :: eL n5 f5 es i) (aK B bk n' nl' Q')) :
 CN bk w0 I0 G0 o0 (.region 15 (cY Try.f25) false) st (eF n5 f5 es i) (sH (aN B) (.map (some bk)) n nl (Q.map bO) [.int .i64 k1, .int .i32 k2, .bool k3, .sl kn kf kt, .bool k5, .int .i32 k6]) Ψ := by
 intro w I G a Qx hs hz hq;obtain ⟨_, _, _, d15⟩ := pR;obtain ⟨_, _, _, _, _, _, _, _, _, _, _, _, _, _, _, p1, p2, p3, p4, p5⟩ := mR
 refine mN (Φ := fun a' w' => ∃ (r n' : Int) (nl' : Bool) (Q' : List GKey) (I' : Nat -> Prop) (G' : Nat -> Pl), fC (bL (aS B) d st k6 (Q.map (·.2.2), n)) r n' Q' /\ SRel w' I' G' ((9, .pv (.int .i64 r)) :: (63, .pv (.int .i64 r)) :: eL n5 f5 es i) (aK B bk n' nl' Q') 79 a' /\ a'.defers = a.defers /\ NmZ bk w0 I0 G0 o0 st w' I' G' (aK B bk n' nl' Q')) ?_
  (fun a' w' ⟨r, n', nl', Q', I', G', q0, q1, q2, q3⟩ => hq st .normal _ _ w' I' G' a' (hK r n' nl' Q' q0) q1 q2 q3)
 refine OpsN.step d15 3 (by rw [p5]; omega) (by rw [zbx]; exact ⟨rfl, rfl⟩ : aU qc (fun _ => none) 79 _ _ _ _ (fun e' h' => e' = _ /\ h' = _)) hs ?_;rintro _ _ w1 I1 G1 a1 ⟨rfl, rfl⟩ hs1 hd1 ht1;have hz1 := NmZ.stab _ _ _ _ _ _ _ _ _ hz hs.hh hs1.hh ht1.toN;obtain ⟨G2, hs2, t2⟩ := Fits.srel (n0 := 2) (e' := [(0, .box 0 0), (40, .pv (.sl n5 f5 es)), (41, .pv (.int .i64 (es.length : Int))), (42, .pv (.int .i64 i)), (60, .box 0 0), (62, .pv (.int .i32 k6))]) (h' := aK B bk n nl Q) ⟨[], [0, 1], [0, 40, 41, 42, 60, 62], [], rfl, rfl, rfl, rfl⟩ hs1;have hz2 := NmZ.stab _ _ _ _ _ _ _ _ _ hz1 hs1.hh hs2.hh t2;have v62 : a1.eval (.tmp 62) = .int .i32 k6 := (hs2.he 62 _ rfl : LRel w1 I1 G2 _ (.pv (.int .i32 k6)) _).int_eq;have hrun := lS (P := qc) (w := w1) p4 rfl (a := a1) (f := 25) (cc := #[]) rfl u9;have ea : (#[Operand.tmp 60, Operand.tmp 62].map a1.eval ++ #[] : Array Value) = #[a1.eval (.tmp 60), .int .i32 k6] := by rw [<- v62]; simp
 rw [ea] at hrun;rw [Nat.zero_add]
 refine OpsN.call (R := fun cv w' => ∃ (r n' : Int) (nl' : Bool) (Q' : List GKey) (I' : Nat -> Prop) (G' : Nat -> Pl), cv = .int .i64 r /\ fC (bL (aS B) d st k6 (Q.map (·.2.2), n)) r n' Q' /\ HRel w' I' G' (aK B bk n' nl' Q') /\ NmZ bk w1 I1 G2 (fun b => aD (aK B bk n nl Q) G2 b ∨ b = bk) st w' I' G' (aK B bk n' nl' Q')) p1 p3 hrun
  ((ih st k6 n nl Q bk _ w1 I1 G2 hd hn hQ hs2.hh (hs2.he 60 _ rfl) hz2.st hz2.nI hz2.nO).mono fun e w' ⟨r, n', nl', Q', I', G', q1, q2, q3, q4⟩ => ⟨_, q1, r, n', nl', Q', I', G', rfl, q2, q3, q4⟩) ?_
 rintro _ w3 ⟨r, n', nl', Q', I3, G3, rfl, q2, q3, q4⟩;have hk : Keeps w1 I1 w3 I3 := ⟨fun b hb hlt => q4.t.keep b hlt fun ho => ho.elim (fun ⟨o, ob, h1, h2, e⟩ => hs2.hh.nI o ob h1 h2 (e ▸ hb)) fun e => hz2.nI (e ▸ hb), fun b hb _ => q4.t.i1 b hb⟩;have hG : G3 0 = G2 0 := q4.stay 0 _ (by omega) rfl rfl
 have hs3 : SRel w3 I3 G3 (eL n5 f5 es i) (aK B bk n' nl' Q') 79 a1 := by
  have s0 : SRel w3 I3 G3 [] (aK B bk n' nl' Q') 79 a1 := ⟨q3, ERel.nil _ _ _ _ _, hs2.hn⟩;have x42 : LRel w1 I1 G2 (aK B bk n nl Q) (.pv (.int .i64 i)) _ := hs2.he 42 _ rfl;have x41 : LRel w1 I1 G2 (aK B bk n nl Q) (.pv (.int .i64 (es.length : Int))) _ := hs2.he 41 _ rfl;have x40 : LRel w1 I1 G2 (aK B bk n nl Q) (.pv (.sl n5 f5 es)) _ := hs2.he 40 _ rfl;have x0 : LRel w1 I1 G2 (aK B bk n nl Q) (.box 0 0) _ := hs2.he 0 _ rfl
  have tree : ∀ {v : PV} {cv : Value}, LRel w1 I1 G2 (aK B bk n nl Q) (.pv v) cv -> LRel w3 I3 G3 (aK B bk n' nl' Q') (.pv v) cv := fun h => by
   cases h with | pv _ _ h => exact .pv _ _ (h.mono hk.1 hk.2)
  refine (((s0.view (d := 42) (tree x42)).view (d := 41) (tree x41)).view (d := 40) (tree x40)).view (d := 0) (v := .box 0 0) ?_;generalize a1.tmps.getD 0 undef = cv at x0;cases x0 with
  | box _ _ cs h1 => rw [<- hG]; exact .box 0 0 _ rfl
  | arr _ _ cs h1 => cases h1
 have hz3 : NmZ bk w0 I0 G0 o0 st w3 I3 G3 (aK B bk n' nl' Q') := by
  refine ⟨hz2.t.trans q4.t, q4.len, fun o ob ho hx hf => ?_, q4.st, q4.nI, q4.nO⟩;rw [q4.stay o ob ho hx hf]
  match o, ho, hx with
  | 0, _, hx => exact hz2.stay 0 _ (by omega) rfl rfl
  | 1, _, hx => cases hx; cases hf
 obtain ⟨hs4, hd4⟩ := fA (o := (cY Try.f25).toList.getD 3 default) (v := .pv (.int .i64 r)) (N := 79) (by unfold dG; rw [p2]; rfl) hs3.hn hs3.hh hs3.he (.pv _ _ (.int _ _));have hs4 : SRel w3 I3 G3 ((63, .pv (.int .i64 r)) :: eL n5 f5 es i) (aK B bk n' nl' Q') 79 _ := hs4.le (LeE.le (by unfold put; rw [p2]; exact ⟨rfl, rfl, rfl, rfl, rfl, trivial⟩));refine OpsN.step d15 1 (by rw [p5]; exact qe _) (by rw [zby]; exact ⟨rfl, rfl⟩ : aU qc (fun _ => none) 79 _ _ _ _ (fun e' h' => e' = _ /\ h' = _)) hs4 ?_;rintro _ _ w5 I5 G5 a5 ⟨rfl, rfl⟩ hs5 hd5 ht5;exact OpsN.last (by rw [p5]; exact qe _) ⟨r, n', nl', Q', I5, G5, q2, hs5, hd5.trans (hd4.trans hd1), NmZ.stab _ _ _ _ _ _ _ _ _ hz3 hs4.hh hs5.hh ht5.toN⟩
end
set_option linter.constructorNameAsVariable false
section
variable {α : Type} {Z : α -> World -> (Nat -> Prop) -> (Nat -> Pl) -> Hp -> Prop} {P : Program} {n0 N : Nat}
theorem CodeY.awE (hZ : kG Z n0) {H : Nat -> Option HSpec} {l : List Nat} {L : Nat -> Option LSpec} {x : Code} {s : α} {e : Env} {h : Hp} {Q : α -> Qt} {X : Prop} (he : bC P H n0 N l L x e h (Q s) = X) (hX : X) : CodeY Z P N x s e h Q := CodeY.of hZ (iO (he.symm ▸ hX))
theorem CodeY.fit (hZ : kG Z n0) {c : Code} {s : α} {e e' : Env} {h h' : Hp} {Q : α -> Qt} (hf : Fits n0 e h e' h') (hK : CodeY Z P N c s e' h' Q) : CodeY Z P N c s e h Q := by
 intro w I G a Qx hs hz hq;obtain ⟨G', hs', ho⟩ := hf.srel hs;exact hK w I G' a Qx hs' (hZ _ _ _ _ _ _ _ _ _ hz hs.hh hs'.hh ho) hq
end
theorem zb6 {P : Program} {f : Nat} {fn : Func} {c : Code} {args : List LV} {h : Hp} (hf : P.funcs[f]? = some fn) (hb : fn.body = some c) (hl : args.length <= fn.ntmps) {w : World} {I : Nat -> Prop} {G : Nat -> Pl} {cargs : Array Value} (hh : HRel w I G h) (hsz : cargs.size = args.length)
 (hrel : ∀ (i : Nat) v, args[i]? = some v -> LRel w I G h v (cargs.getD i undef)) {R : Ending -> World -> Prop}
 (hK : ∀ (a : Act) (Qx : Exit -> Act -> World -> Prop), SRel w I G (cL args 0) h fn.ntmps a -> a.defers = [] -> (∀ a' w', iS P fn R a' w' -> Qx .normal a' w' /\ Qx .ret a' w') -> c.wp P Qx a w) : Calls P f cargs w R := by
 refine zbf hf hb ?_
 have hs : SRel w I G (cL args 0) h fn.ntmps { tmps := cargs ++ ql (fn.ntmps - cargs.size) undef, defers := [] } := by
  refine ⟨hh, fun i v hi => ?_, by simp; omega⟩;obtain ⟨_, h2⟩ := j9 hi;rw [Nat.sub_zero] at h2;have hlt : i < cargs.size := by have := (List.getElem?_eq_some_iff.1 h2).1; omega
  have := hrel i v h2
  have e1 : (cargs ++ ql (fn.ntmps - cargs.size) undef).getD i undef = cargs.getD i undef := by
   rw [qd, qd, qn hlt]
  simp only [e1];exact VRel.of_plain this
 exact hK _ _ hs rfl fun a' w' hl => ⟨hl, hl⟩
def BkOK (B : GB) : Prop := ∀ p ∈ B, p.2.2.2.length <= 1000
theorem vA (f : Int -> MW -> Except Int MW) (x : MStep) (l : List MStep) (w : MW) : cF f (x :: l) w = if 20000 <= w.2 then .error 7 else if x.call = true then (match f x.name (w.1, w.2 + 1) with | .ok w' => cF f l w' | .error e => .error e) else cF f l (w.1 ++ [x.key], w.2 + 1) := rfl
section
variable {bk : Nat} {w0 : World} {I0 : Nat -> Prop} {G0 : Nat -> Pl} {o0 : Nat -> Prop}
abbrev QLp (B : GB) (bk : Nat) (ST : List Int) (X : Except Int MW) : List Int -> Qt := fun s' x e h => s' = ST /\ match x with
 | .normal => ∃ (n' : Int) (nl' : Bool) (Q' : List GKey), LeE [(0, .box 0 0)] e /\ h = aK B bk n' nl' Q' /\ fC X 0 n' Q'
 | .ret => ∃ (r n' : Int) (nl' : Bool) (Q' : List GKey), Fits 2 e h [(4, .pv (.int .i64 r))] (aK B bk n' nl' Q') /\ fC X r n' Q'
 | _ => False

theorem zb7 {B : GB} {d : Nat} (ih : pT B d) {ST : List Int} (hd : fX (aS B) ST < d) {l : List GS} (hl : l.length <= 1000) {n5 f5 : Bool} {n : Nat} {nl : Bool} {Q : List GKey} (hn : n <= 20000) (hQ : Q.length <= n) :
 CN bk w0 I0 G0 o0 (xL Try.f25) ST [(0, .box 0 0), (5, .pv (.sl n5 f5 (l.map encGS)))] (aK B bk n nl Q) (QLp B bk ST (cF (fun m => bL (aS B) d ST m) (l.map (·.2.2)) (Q.map (·.2.2), n))) := by
 rw [zbq];refine CodeY.seq (CodeY.awE NmZ.stab (nL8 _) ?_);show CN bk w0 I0 G0 o0 (.block 1 (.loop _)) ST _ _ _;have hlen : (l.map encGS).length = l.length := by simp
 refine CodeY.block (CodeY.loop (σ := Nat × Nat × Bool × List GKey) (fun u => (eL n5 f5 (l.map encGS) u.1, aK B bk u.2.1 u.2.2.1 u.2.2.2)) (fun _ => ST)
  (fun u => u.1 <= l.length /\ u.2.1 <= 20000 /\ u.2.2.2.length <= u.2.1 /\ cF (fun m => bL (aS B) d ST m) ((l.map (·.2.2)).drop u.1) (u.2.2.2.map (·.2.2), u.2.1) = cF (fun m => bL (aS B) d ST m) (l.map (·.2.2)) (Q.map (·.2.2), n)) (fun u => l.length - u.1) (0, n, nl, Q) ⟨rfl, rfl, rfl, rfl, trivial⟩ rfl rfl ⟨qx _, hn, hQ, rfl⟩ ?_)
 rintro ⟨i, m, bl, K⟩ ⟨hi, hm, hK, hg⟩;dsimp only at hi hm hK hg ⊢;refine CodeY.seq (CodeY.awE NmZ.stab (nL9 _) ?_);refine CodeY.seq (CodeY.cond (t := decide ((i : Int) < ((l.map encGS).length : Int))) rfl ?_);by_cases hlt : i < l.length
 rotate_left
 ·rw [if_neg (by rw [hlen]; simp only [aW]; omega)];refine CodeY.exit ⟨rfl, m, bl, K, ⟨rfl, trivial⟩, rfl, ?_⟩;rw [<- hg, List.drop_of_length_le (by simp; omega)];exact ⟨rfl, rfl, rfl, hm, hK⟩
 rw [if_pos (by rw [hlen]; simp only [aW]; omega)];refine CodeY.skip ?_
 have hdrop : (l.map (·.2.2)).drop i = (l[i]).2.2 :: (l.map (·.2.2)).drop (i + 1) := by
  rw [List.drop_eq_getElem_cons (by simpa using hlt)]; simp
 rw [hdrop, vA] at hg;have wi : i64.wrap ((i : Int) + 1) = ((i + 1 : Nat) : Int) := by rw [aE (by omega) (by omega)]; omega
 have wm : i64.wrap ((m : Int) + 1) = ((m + 1 : Nat) : Int) := by rw [aE (by omega) (by omega)]; omega
 -- what ends a round
 have done : ∀ (m' : Nat) (bl' : Bool) (K' : List GKey) (e : Env) (h : Hp), Fits 2 e h (eL n5 f5 (l.map encGS) i) (aK B bk m' bl' K') -> m' <= 20000 -> K'.length <= m' -> cF (fun m => bL (aS B) d ST m) ((l.map (·.2.2)).drop (i + 1)) (K'.map (·.2.2), m') = cF (fun m => bL (aS B) d ST m) (l.map (·.2.2)) (Q.map (·.2.2), n) ->
  CN bk w0 I0 G0 o0 (aJ (aJ (aJ (xLp Try.f25)))) ST e h fun s' x e h => x = .normal /\ ∃ u' : Nat × Nat × Bool × List GKey, LeE (eL n5 f5 (l.map encGS) u'.1) e /\ h = aK B bk u'.2.1 u'.2.2.1 u'.2.2.2 /\ s' = ST /\ (u'.1 <= l.length /\ u'.2.1 <= 20000 /\ u'.2.2.2.length <= u'.2.1 /\ cF (fun m => bL (aS B) d ST m) ((l.map (·.2.2)).drop u'.1) (u'.2.2.2.map (·.2.2), u'.2.1) = cF (fun m => bL (aS B) d ST m) (l.map (·.2.2)) (Q.map (·.2.2), n)) /\ l.length - u'.1 < l.length - i := fun m' bl' K' e h hf h1 h2 h3 => by
  refine CodeY.fit NmZ.stab hf (CodeY.awE NmZ.stab (zb1 _) ?_);rw [wi];exact ⟨rfl, (i + 1, m', bl', K'), ⟨rfl, rfl, rfl, rfl, trivial⟩, rfl, rfl, ⟨hlt, h1, h2, h3⟩, by dsimp only; omega⟩
 refine CodeY.seq (CodeY.le (e' := eL n5 f5 (l.map encGS) i) ⟨rfl, rfl, rfl, rfl, trivial⟩ (CodeY.block (CodeY.seq (CodeY.awE NmZ.stab (zbu _) ?_))));rw [qm, fV hlt];refine ⟨fW (i := (i : Int)) (l := l) (enc := encGS) (fun _ => rfl) (by omega) (by omega), _, rfl, _, rfl, _, rfl, _, _, _, rfl, _, rfl, _, rfl, ?_⟩;refine CodeY.seq (CodeY.awE NmZ.stab (zbv _) ?_);rw [wm];refine aH (fun hc => ?_) (fun hc => ?_)
 ·simp only [aW] at hc;rw [if_pos (by dsimp only; omega)] at hg;refine ⟨rfl, 7, _, bl, K, ⟨[], [0, 1], [4], [], rfl, rfl, rfl, rfl⟩, ?_⟩;rw [<- hg]; exact ⟨rfl, by omega⟩
 simp only [aW] at hc;rw [if_neg (by dsimp only; omega)] at hg;show CN bk w0 I0 G0 o0 (xT Try.f25) ST _ _ _;rw [zbr];refine CodeY.le (e' := eF n5 f5 (l.map encGS) i) ⟨rfl, rfl, rfl, rfl, rfl, trivial⟩ (CodeY.seq (CodeY.seq (CodeY.awE NmZ.stab (zbw _) ?_)));refine CodeY.cond (t := l[i].2.2.call) rfl ?_;refine aH (fun hcall => ?_) (fun hcall => ?_)
 ·rw [if_pos hcall] at hg;refine CodeY.le (e' := eF n5 f5 (l.map encGS) i) ⟨rfl, rfl, rfl, rfl, rfl, trivial⟩ (CodeY.seq (CodeY.seq (zb5 ih hd (n := m + 1) (by omega) (by omega) ?_)));intro r n' bl' K' hres;refine CodeY.le (e' := (9, .pv (.int .i64 r)) :: eL n5 f5 (l.map encGS) i) ⟨rfl, rfl, rfl, rfl, rfl, trivial⟩ (CodeY.awE NmZ.stab (zbz _ _) ?_);generalize bL (aS B) d ST l[i].2.2.name (K.map (·.2.2), m + 1) = X at hg hres;cases X with
  | error e =>
    obtain ⟨rfl, he⟩ := hres;rw [if_pos (by simpa using he)]
    refine ⟨rfl, r, n', bl', K', ⟨[], [0, 1], [4], [], rfl, rfl, rfl, rfl⟩, ?_⟩;rw [<- hg]; exact ⟨rfl, he⟩
  | ok w =>
    obtain ⟨rfl, rfl, hk, h1, h2⟩ := hres;rw [if_neg (by simp)];refine CodeY.exit ?_;refine (done w.2 bl' K' _ _ ?_ h1 h2 ?_).mono (by rintro s' x e h ⟨rfl, hx⟩; exact hx)
    ·exact ⟨[], [0, 1], [0, 40, 41, 42], [], rfl, rfl, rfl, rfl⟩
    ·rw [hk]; exact hg
 ·rw [if_neg hcall] at hg;refine CodeY.skip (CodeY.le (e' := eF n5 f5 (l.map encGS) i) ⟨rfl, rfl, rfl, rfl, rfl, trivial⟩ (CodeY.awE NmZ.stab (zb0 _) ?_));refine ⟨⟨fun e he => by cases he; rfl, by simp; omega⟩, ?_⟩;refine (done (m + 1) (bl && false) (K ++ [(l[i].1, l[i].2.1, l[i].2.2.key)]) _ _ ?_ (by omega) (by simp; omega) ?_).mono (by rintro s' x e h ⟨rfl, hx⟩; exact hx)
  ·refine ⟨[], [0, 1], [0, 40, 41, 42], [], rfl, rfl, rfl, ?_⟩;rw [aK, qv]; rfl
  ·rw [qv]; exact hg
end
end Go.Eng
namespace Go.Eng
open Go
section
variable {w w' : World} {I I' : Nat -> Prop} {G G' : Nat -> Pl} {h h' : Hp}
theorem HRel.atOff (hh : HRel w I G h) {l : Nat} (o : Obj) (hI : ¬ I l) (ho : ¬ aD h G l) : HRel (w.putObj l o) I G h := by
 have hw : ∀ b, b ≠ l -> (w.putObj l o).heap[b]? = w.heap[b]? := fun b hb => World.putObj_heap_other hb;have hk : Keeps w I (w.putObj l o) I := ⟨fun b hb _ => hw b fun e => hI (e ▸ hb), fun b hb _ => hb⟩;exact hh.frame (fun b hb => hw b fun e => ho (e ▸ hb)) hk (fun b ⟨i, x, hx, ha, e⟩ hi => hh.nI i x hx ha (e ▸ hi)) fun b hb => by rw [World.putObj_size]; exact hh.cl b hb
theorem fD (hh : HRel w I G h) {b : Nat} {o : Obj} (ho : w.heap[b]? = some o) (hn : (match o with | .cells .. => true | .map .. => true | .mapIter .. => true | _ => false) = false) : ¬ aD h G b := by
 rintro ⟨i, ob, hi, ha, rfl⟩;have := hh.obs i ob hi;cases ob with
 | dead => exact ha
 | box cs => obtain ⟨vs, ty, e1, _⟩ := this; rw [ho] at e1; cases e1; cases hn
 | arr cs => obtain ⟨vs, ty, e1, _⟩ := this; rw [ho] at e1; cases e1; cases hn
 | sl ty m n es =>
   cases n with
   | true => exact absurd ha.1 (by simp)
   | false => obtain ⟨vs, e1, _⟩ := this.2.2.2.2.2 ha.2; rw [ho] at e1; cases e1; cases hn
 | mp kvs => obtain ⟨es, ck, e1, _⟩ := this; rw [ho] at e1; cases e1; cases hn
 | iter ty rem cur => obtain ⟨_, _, _, _, _, _, e1, _⟩ := this; rw [ho] at e1; cases e1; cases hn
theorem Tr.atOff {own own' : Nat -> Prop} (t : Tr w I own w' I' own') {l : Nat} (hl : w.heap.size <= l) (o : Obj) : Tr w I own (w'.putObj l o) I' own' :=
 ⟨t.os, t.tape, t.output, by rw [World.putObj_size]; exact t.size, fun b hb hn => (World.putObj_heap_other (by omega)).trans (t.keep b hb hn), t.i1, t.i2, t.own2,
  fun a ha => (World.frozen?_of_block (World.putObj_heap_other (by omega))).trans (t.frz a ha), t.drawn⟩
theorem Keeps.thn {w1 w2 : World} {I1 I2 : Nat -> Prop} (h : Keeps w I w1 I1) (hs : w.heap.size <= w1.heap.size) (k : Keeps w1 I1 w2 I2) : Keeps w I w2 I2 :=
 ⟨fun b hb hlt => (k.1 b (h.2 b hb hlt) (qar hlt hs)).trans (h.1 b hb hlt), fun b hb hlt => k.2 b (h.2 b hb hlt) (qar hlt hs)⟩
theorem Keeps.atOff {l : Nat} (hI : ¬ I l) (o : Obj) : Keeps w I (w.putObj l o) I := ⟨fun b hb _ => World.putObj_heap_other fun e => hI (e ▸ hb), fun b hb _ => hb⟩
theorem Tr.beside {own own' : Nat -> Prop} (t : Tr w I own w' I' own') (X : Nat -> Prop) : Tr w I (fun b => own b ∨ X b) w' I' (fun b => own' b ∨ X b) :=
 ⟨t.os, t.tape, t.output, t.size, fun b hb hn => t.keep b hb fun x => hn (.inl x), t.i1, fun b hb => (t.i2 b hb).imp id fun x => x.imp .inl id, fun b hb => hb.elim (fun x => (t.own2 b x).imp .inl id) fun x => .inl (.inr x), t.frz, t.drawn⟩
theorem Tr.flip {o1 o2 o3 o4 : Nat -> Prop} (t : Tr w I (fun b => o1 b ∨ o2 b) w' I' (fun b => o3 b ∨ o4 b)) : Tr w I (fun b => o2 b ∨ o1 b) w' I' (fun b => o4 b ∨ o3 b) := by
 have e1 : (fun b => o2 b ∨ o1 b) = (fun b => o1 b ∨ o2 b) := by funext b; exact propext or_comm
 have e2 : (fun b => o4 b ∨ o3 b) = (fun b => o3 b ∨ o4 b) := by funext b; exact propext or_comm
 rw [e1, e2]; exact t
theorem Tr.flip' {own o3 o4 : Nat -> Prop} (t : Tr w I own w' I' (fun b => o3 b ∨ o4 b)) : Tr w I own w' I' (fun b => o4 b ∨ o3 b) := by
 have e2 : (fun b => o4 b ∨ o3 b) = (fun b => o3 b ∨ o4 b) := by funext b; exact propext or_comm
 rw [e2]; exact t
theorem Tr.alloc1 {w : World} {I own : Nat -> Prop} (o : Obj) : Tr w I own (w.alloc o) I own :=
 ⟨rfl, rfl, rfl, by simp, fun b hb _ => bG w o hb, fun _ h => h, fun _ h => .inl h, fun _ h => .inl h, fun a ha => World.frozen?_of_block (bG w o ha), qe _⟩
theorem KA.alloc1 (w : World) (o : Obj) : KA w (w.alloc o) := ⟨by simp, fun b hb => bG w o hb⟩
end
structure Two (w : World) (I : Nat -> Prop) (G : Nat -> Pl) (h : Hp) (G2 : Nat -> Pl) (h2 : Hp) : Prop where
 a : HRel w I G h
 b : HRel w I G2 h2
 s : ∀ b, aD h G b -> ¬ aD h2 G2 b
section
variable {w w' : World} {I I' : Nat -> Prop} {G G2 G2' : Nat -> Pl} {h h2 h2' : Hp}
theorem Two.step (t : Two w I G h G2 h2) (hb : HRel w' I' G2' h2') (tr : Tr w I (aD h2 G2) w' I' (aD h2' G2')) : Two w' I' G h G2' h2' /\ Keeps w I w' I' := by
 obtain ⟨q1, q2, q3⟩ := t.a.beside t.b t.s tr hb.cl;exact ⟨⟨q1, hb, q3⟩, q2⟩
theorem Two.flip (t : Two w I G h G2 h2) : Two w I G2 h2 G h := ⟨t.b, t.a, fun b x y => t.s b y x⟩
theorem Two.off (t : Two w I G h G2 h2) {l : Nat} (o o' : Obj) (hI : ¬ I l) (hl : w.heap[l]? = some o) (hn : (match o with | .cells .. => true | .map .. => true | .mapIter .. => true | _ => false) = false) : Two (w.putObj l o') I G h G2 h2 :=
 ⟨t.a.atOff o' hI (fD t.a hl hn), t.b.atOff o' hI (fD t.b hl hn), t.s⟩
end
end Go.Eng
namespace Go.Eng
open Go Go.Proofs Go.Eng.Rows
def kLp (f : Func) : Code := eD (eD (aJ (mM f)))
def kR2 (f : Func) : Code := aV (eD (aJ (aJ (kLp f))))
def cG (f : Func) : Array Oper := gR (aV (aJ (eD (aJ (aJ (kLp f))))))
def sAs : Code -> Code | .rangeFunc _ _ a _ => a | _ => .skip
def sBd : Code -> Code | .rangeFunc _ _ _ b => b | _ => .skip
def cT (f : Func) : Code := eD (aJ (aV (aJ (mM f))))
def oAs (f : Func) : Array Oper := gR (sAs (cT f))
def oBd (f : Func) : Array Oper := gR (eD (sBd (cT f)))
abbrev fY (kvs rem : List (PV × PV)) (cur : Option (PV × PV)) : Hp := [.box [.pv (.mp kvs)], .iter (21, 33) rem cur]
abbrev bQ (nl : Bool) (T : List (List PV)) : Hp := [.box [.own 1], .sl (21, 1) true nl T]
abbrev eK (y : Value) : Env := [(0, .pv (.raw y)), (5, .it 1)]
section
variable {kvs rem : List (PV × PV)} {cur : Option (PV × PV)} {y : Value} {k : Int} {nl : Bool} {T : List (List PV)}
theorem qK0 (Q : Qt) : bC qc (fun _ => none) 1 14 [0, 5] (fun _ => none) (aV (mM Try.f35)) (cL [.pv (.raw y), .box 0 0] 0) [.box [.pv (.mp kvs)]] Q = Q .normal (eK y) (fY kvs kvs none) := by kernel_rfl
theorem qK1 (Q : Qt) : bC qc (fun _ => none) 1 14 [0, 5, 7] (fun _ => none) (aV (kLp Try.f35)) (eK y) (fY kvs rem cur) Q =
 ((rem = [] -> Q .normal [(0, .pv (.raw y)), (5, .it 1), (7, .pv (.bool false))] (fY kvs rem cur)) /\ ∀ (j : Nat) (k v : PV), rem[j]? = some (k, v) -> ∃ n : Int, k = .int .i32 n /\ ∃ (n1 f : Bool) (es : List (List PV)), v = .sl n1 f es /\
   Q .normal [(0, .pv (.raw y)), (5, .it 1), (7, .pv (.bool true))] (fY kvs (rem.eraseIdx j) (some (.int .i32 n, .sl n1 f es)))) := by kernel_rfl
theorem qK2 (v : PV) (Q : Qt) : bC qc (fun _ => none) 1 14 [0, 3, 5] (fun _ => none) (kR2 Try.f35) (eK y) (fY kvs rem (some (.int .i32 k, v))) Q =
 ∃ n : Int, PV.int .i32 k = .int .i32 n /\ ∃ (n1 f : Bool) (es : List (List PV)), v = .sl n1 f es /\ Q .normal [(0, .pv (.raw y)), (3, .pv (.int .i32 n)), (5, .it 1)] (fY kvs rem (some (.int .i32 k, v))) := by kernel_rfl
theorem qK3 (h : Hp) (K : Env -> Hp -> Prop) : aU qc (fun _ => none) 14 (cG Try.f35).toList (((cG Try.f35).toList.drop 0).take 2) [(0, .pv (.raw y)), (3, .pv (.int .i32 k)), (5, .it 1)] h K = K [(11, .pv (.int .i32 k)), (10, .pv (.raw y)), (0, .pv (.raw y)), (3, .pv (.int .i32 k)), (5, .it 1)] h := by kernel_rfl
theorem zb8 (h : Hp) (K : Env -> Hp -> Prop) : aU qc (fun _ => none) 14 (cG Try.f35).toList (((cG Try.f35).toList.drop 3).take 1) [(12, .pv (.bool true)), (0, .pv (.raw y)), (5, .it 1)] h K = K [(13, .pv (.bool false)), (12, .pv (.bool true)), (0, .pv (.raw y)), (5, .it 1)] h := by kernel_rfl
theorem qS0 (Q : Qt) : bC qc (fun _ => none) 1 13 [1, 2] (fun _ => none) (aV (mM Try.f36)) (cL [.pv (.sl true true []), .fn 35 [.box 0 0]] 0) [.box [.pv (.mp kvs)]] Q = Q .normal [(1, .fn 35 [.box 0 0]), (2, .box 1 0)] [.box [.pv (.mp kvs)], .box [.pv (.sl true true [])]] := by kernel_rfl
theorem qS1 (Q : Qt) : bC qc (fun _ => none) 1 13 [2, 6] (fun _ => none) (aV (aV (aJ (mM Try.f36)))) [(1, .fn 35 [.box 0 0]), (2, .box 1 0)] [.box [.pv (.mp kvs)], .box [.pv (.sl true true [])]] Q = Q .normal [(2, .box 1 0), (6, .fn 35 [.box 0 0])] [.box [.pv (.mp kvs)], .box [.pv (.sl true true [])]] := by kernel_rfl
theorem qAs (K : Env -> Hp -> Prop) : aU qc (fun _ => none) 13 (oAs Try.f36).toList (oAs Try.f36).toList [(2, .box 0 0), (7, .pv (.int .i32 k))] (bQ nl T) K = K [(5, .pv (.int .i32 k)), (2, .box 0 0), (7, .pv (.int .i32 k))] (bQ nl T) := by kernel_rfl
theorem qBd (K : Env -> Hp -> Prop) : aU qc (fun _ => none) 13 (oBd Try.f36).toList (oBd Try.f36).toList [(5, .pv (.int .i32 k)), (2, .box 0 0), (7, .pv (.int .i32 k))] (bQ nl T) K =
 ((cH [[PV.int .i32 k]] 1 /\ (T.length + 1) * 4 <= 140737488355328) /\ K [(11, .own 1), (10, .pv (.sl false true [[.int .i32 k]])), (9, .pv (.int .i32 k)), (8, .bot), (5, .pv (.int .i32 k)), (2, .box 0 0), (7, .pv (.int .i32 k))] (bQ (nl && false) (T ++ [[.int .i32 k]]))) := by kernel_rfl
theorem qS4 (Q : Qt) : bC qc (fun _ => none) 1 13 [4] (fun _ => none) (aV (aJ (aJ (mM Try.f36)))) [(2, .box 0 0)] (bQ nl T) Q = Q .normal [(4, .own 1)] (bQ nl T) := by kernel_rfl
end
theorem zb9 : mM Try.f35 = .seq (aV (mM Try.f35)) (.block 0 (.loop (.seq (aV (kLp Try.f35)) (.seq (.cond (.tmp 7) .skip (.exit 0)) (.block 1 (.seq (kR2 Try.f35) (.seq (.region 3 (cG Try.f35) false) (.cond (.tmp 13) .ret .skip)))))))) := by kernel_rfl
theorem pU : mM Try.f36 = .seq (aV (mM Try.f36)) (.seq (.seq (aV (aV (aJ (mM Try.f36)))) (.block 0 (cT Try.f36))) (.seq (aV (aJ (aJ (mM Try.f36)))) .ret)) /\ cT Try.f36 = .rangeFunc (.tmp 6) #[7] (sAs (cT Try.f36)) (sBd (cT Try.f36)) /\ sAs (cT Try.f36) = .region 2 (oAs Try.f36) false /\ sBd (cT Try.f36) = .block 1 (.region 3 (oBd Try.f36) false) /\
 cX (oAs Try.f36).toList = true /\ cX (oBd Try.f36).toList = true /\ cX (cG Try.f35).toList = true := ⟨by kernel_rfl, by kernel_rfl, by kernel_rfl, by kernel_rfl, by kernel_rfl, by kernel_rfl, by kernel_rfl⟩
theorem zca : (cG Try.f35)[2]? = some ((cG Try.f35).toList.getD 2 default) /\ ((cG Try.f35).toList.getD 2 default).dst = some 12 /\ ((cG Try.f35).toList.getD 2 default).guard = none /\ ((cG Try.f35).toList.getD 2 default).op = .call { callee := .value (.tmp 10), args := #[.tmp 11], argTypes := #[21] } /\ (cG Try.f35).size = 4 :=
 ⟨by kernel_rfl, by kernel_rfl, by kernel_rfl, by kernel_rfl, by kernel_rfl⟩
def SeqZ (W0 : World) (I0 : Nat -> Prop) (o0 : Nat -> Prop) (P0 : Pl) (rec : Loop) (s : List Int) (w : World) (I : Nat -> Prop) (G : Nat -> Pl) (h : Hp) : Prop :=
 ∃ (G2 : Nat -> Pl) (nl : Bool), Tr W0 I0 o0 w I (fun b => aD h G b ∨ aD (bQ nl (aI s)) G2 b) /\ Two w I G h G2 (bQ nl (aI s)) /\ G2 0 = P0 /\ w.heap[W0.heap.size + 1]? = some (.loop rec) /\ w.heap[W0.heap.size]? = some (.deferred (some [])) /\ ¬ I (W0.heap.size + 1) /\ ¬ I W0.heap.size
section
variable {W0 : World} {I0 : Nat -> Prop} {o0 : Nat -> Prop} {P0 : Pl} {rec : Loop}
theorem SeqZ.stab {n0 : Nat} : kG (SeqZ W0 I0 o0 P0 rec) n0 := by
 rintro s w I G h w' I' G' h' ⟨G2, nl, t0, two, g0, hl, hD, nI1, nI2⟩ hh hh' t;obtain ⟨q1, _⟩ := two.flip.step hh' t.t;have l1 := (Array.getElem?_eq_some_iff.1 hl).1;have l2 := (Array.getElem?_eq_some_iff.1 hD).1;have n1 := fD hh hl rfl;have n2 := fD hh hD rfl;exact ⟨G2, nl, t0.trans (t.t.beside _), q1.flip, g0, (t.t.keep _ l1 n1).trans hl, (t.t.keep _ l2 n2).trans hD, fun x => (t.t.i2 _ x).elim nI1 (fun x => x.elim n1 fun x => by omega), fun x => (t.t.i2 _ x).elim nI2 (fun x => x.elim n2 fun x => by omega)⟩
theorem zcb {a : Act} (ha : a.tmps.size = 13) (h2 : a.tmps.getD 2 undef = .pointer (some ⟨P0.blk, P0.off + 0, none⟩)) (r1 : rec.state = .ready) (r2 : rec.pending = none) (r3 : rec.tmps = a.tmps) (r4 : rec.params = #[7]) (r5 : rec.assign = sAs (cT Try.f36)) (r6 : rec.body = sBd (cT Try.f36))
 {s : List Int} (hs : s.length < 1000000) {w : World} {I : Nat -> Prop} {G : Nat -> Pl} {h : Hp} (hz : SeqZ W0 I0 o0 P0 rec s w I G h) (x : Int) :
 ∃ fn tmps assign body, (Instr.yield (W0.heap.size + 1) #[.int .i32 x]).run qc w = .ok (.round (W0.heap.size + 1) fn tmps assign body) w /\ RoundIn Fence.wide 0 qc (W0.heap.size + 1) fn tmps assign body w fun e w' =>
  e = .returned (.bool true) /\ ∃ I', HRel w' I' G h /\ Keeps w I w' I' /\ SeqZ W0 I0 o0 P0 rec (s ++ [x]) w' I' G h := by
 obtain ⟨G2, nl, t0, two, g0, hl, hD, nI1, nI2⟩ := hz;obtain ⟨l, hll⟩ : ∃ l, l = W0.heap.size + 1 := ⟨_, rfl⟩;have hWl : W0.heap.size <= l := by omega
 rw [<- hll] at hl nI1 ⊢;refine ⟨_, _, _, _, run_yield (P := qc) hl (by rw [r4]; rfl), roundIn_of_wpIn trivial ?_⟩;obtain ⟨_, _, q3, q4, q5, q6, _⟩ := pU
 have hs0 : SRel w I G2 [(2, .box 0 0), (7, .pv (.int .i32 x))] (bQ nl (aI s)) 13 { tmps := a.tmps.setIfInBounds 7 (.int .i32 x), defers := [] } := by
  refine ⟨two.b, ?_, by simp [ha]⟩;refine ((ERel.nil _ _ _ _ _).cons (s := 7) (v := .pv (.int .i32 x)) ?_).cons (s := 2) (v := .box 0 0) ?_
  ·have : (a.tmps.setIfInBounds 7 (.int .i32 x)).getD 7 undef = .int .i32 x := by
    rw [qd, qw]; simp [ha]
   simp only [this]; exact .pv _ _ (.int _ _)
  ·have : (a.tmps.setIfInBounds 7 (.int .i32 x)).getD 2 undef = .pointer (some ⟨P0.blk, P0.off + 0, none⟩) := by
    rw [<- h2, qd, qd, qw]; simp
   simp only [this]; rw [<- g0]; exact .box 0 0 _ rfl
 rw [r5, q3, r4, r3];have hfold : (((#[7] : Array Tmp).zip #[Value.int .i32 x]).foldl (fun tmps (t, a) => tmps.setIfInBounds t a) a.tmps) = a.tmps.setIfInBounds 7 (.int .i32 x) := by simp
 rw [hfold];refine uW q5 (by rw [qAs]; exact ⟨rfl, rfl⟩ : aU qc (fun _ => none) 13 _ _ _ _ (fun e' h' => e' = _ /\ h' = _)) hs0 ?_ ?_
 ·exact fun a w h => h
 rintro _ _ w1 I1 G3 a1 ⟨rfl, rfl⟩ hs1 hd1 ht1;obtain ⟨two1, k1⟩ := two.step hs1.hh ht1.t;have l0 := (Array.getElem?_eq_some_iff.1 hl).1;have lD := (Array.getElem?_eq_some_iff.1 hD).1
 have st : ∀ {w : World} {I : Nat -> Prop} {G2 : Nat -> Pl} {nl : Bool} {T : List (List PV)} {w1 : World} {I1 : Nat -> Prop} {G3 : Nat -> Pl} {nl1 : Bool} {T1 : List (List PV)} {rc : Loop}, HRel w I G2 (bQ nl T) -> w.heap[l]? = some (.loop rc) -> w.heap[W0.heap.size]? = some (.deferred (some [])) -> ¬ I l -> ¬ I W0.heap.size -> Tr w I (aD (bQ nl T) G2) w1 I1 (aD (bQ nl1 T1) G3) ->
  w1.heap[l]? = some (.loop rc) /\ w1.heap[W0.heap.size]? = some (.deferred (some [])) /\ ¬ I1 l /\ ¬ I1 W0.heap.size := fun hh hl hD n1 n2 t => by
  have l1 := (Array.getElem?_eq_some_iff.1 hl).1;have l2 := (Array.getElem?_eq_some_iff.1 hD).1;have m1 := fD hh hl rfl;have m2 := fD hh hD rfl;exact ⟨(t.keep _ l1 m1).trans hl, (t.keep _ l2 m2).trans hD, fun x => (t.i2 _ x).elim n1 (fun x => x.elim m1 fun x => by omega), fun x => (t.i2 _ x).elim n2 (fun x => x.elim m2 fun x => by omega)⟩
 obtain ⟨hl1, hD1, n1, n1'⟩ := st hs0.hh hl hD nI1 nI2 ht1.t;refine ⟨_, run_beginRound hl1 r1, ?_⟩;have lw1 := (Array.getElem?_eq_some_iff.1 hl1).1;have two2 := two1.off (.loop rec) (.loop { rec with state := .busy }) n1 hl1 rfl;have hs2 : SRel (w1.putObj l (.loop { rec with state := .busy })) I1 G3 _ _ 13 a1 := ⟨two2.b, hs1.he.mono (Keeps.atOff n1 _) (.refl _ _), hs1.hn⟩;have hl2 : (w1.putObj l (.loop { rec with state := .busy })).heap[l]? = some (.loop { rec with state := .busy }) := World.putObj_heap_same lw1;have hDne : W0.heap.size ≠ l := by omega
 have hD2 : (w1.putObj l (.loop { rec with state := .busy })).heap[W0.heap.size]? = some (.deferred (some [])) := (World.putObj_heap_other hDne).trans hD1;have hb : ∀ {c : Code} {Q a w}, c = sBd (cT Try.f36) -> Code.wpIn (wd (some l)) 0 qc (.block 1 (.region 3 (oBd Try.f36) false)) Q a w -> Code.wpIn (wd (some l)) 0 qc c Q a w := fun e h => by rw [e, q4]; exact h
 refine hb r6 (wpIn_block ?_);show Code.wpIn (wd (some l)) 0 qc _ _ _ _;refine uW (ro := some l) (n := 0) (id := 3) q6 (by rw [qBd]; exact ⟨⟨fun e he => by cases he; rfl, by simp only [gQ]; omega⟩, rfl⟩ : aU qc (fun _ => none) 13 _ _ _ _ (fun _ h' => h' = bQ (nl && false) (aI s ++ [[.int .i32 x]]))) hs2 ?_ ?_
 ·exact fun a w h => h
 rintro e4 _ w4 I4 G4 a4 rfl hs4 hd4 ht4;obtain ⟨two4, k4⟩ := two2.step hs4.hh ht4.t;obtain ⟨hl4, hD4, n4, n4'⟩ := st hs2.hh hl2 hD2 n1 n1' ht4.t
 have hrec : ({ { rec with state := .busy } with state := if (none : Option Code).isNone then .ready else .done, pending := none } : Loop) = rec := by
  cases rec; simp only at r1 r2; subst r1; subst r2; rfl
 have hrun := run_endRound (P := qc) none hl4;rw [hrec] at hrun;have lw4 := (Array.getElem?_eq_some_iff.1 hl4).1;have two5 := two4.off (.loop { rec with state := .busy }) (.loop rec) n4 hl4 rfl;have eT : aI s ++ [[PV.int .i32 x]] = aI (s ++ [x]) := by simp [aI]
 rw [eT] at two5 ht4;refine ⟨_, _, hrun, rfl, I4, two5.a, ?_, G4, nl && false, ?_, two5, ?_, ?_, ?_, ?_, n4'⟩
 ·have s2 : w.heap.size <= w1.heap.size := ht1.t.size;have s4 : w1.heap.size <= w4.heap.size := by have := ht4.t.size; rwa [World.putObj_size] at this
  have kA := k1.thn s2 (Keeps.atOff (l := l) n1 (.loop { rec with state := .busy }));have kB := kA.thn (by rw [World.putObj_size]; exact s2) k4;exact kB.thn (qae s2 s4) (Keeps.atOff n4 _)
 ·have tA := (t0.trans (ht1.t.beside (aD h G)).flip).atOff hWl (.loop { rec with state := .busy });exact (tA.trans (ht4.t.beside (aD h G)).flip).atOff hWl (.loop rec)
 ·exact ((ht4.stay 0 _ (Nat.succ_pos _) rfl rfl).1.trans (ht1.stay 0 _ (Nat.succ_pos _) rfl rfl).1).trans g0
 ·rw [<- hll]; exact World.putObj_heap_same lw4
 ·exact (World.putObj_heap_other hDne).trans hD4
 ·rw [<- hll]; exact n4
end
end Go.Eng
namespace Go.Eng
open Go Go.Proofs Go.Eng.Rows
open Go.ChangeMaps (setBlock)
theorem vB {w : World} {I : Nat -> Prop} {G : Nat -> Pl} {h : Hp} {a : Act} {r : Int} (hs : SRel w I G [(4, .pv (.int .i64 r))] h 79 a) : (results Try.f25 a.tmps).run qc w = .ok (.int .i64 r) w := by
 obtain ⟨v, hv, cv, h1, h2⟩ := pJ (P := qc) (fn := Try.f25) (K := fun v => v = .pv (.int .i64 r)) hs.hh hs.he (Eq.mpr (by kernel_rfl : dV qc [(4, .pv (.int .i64 r))] h Try.f25.results.toList (gP fun v => v = .pv (.int .i64 r)) = (LV.pv (.int .i64 r) = .pv (.int .i64 r))) rfl);subst hv;rw [h1, h2.int_eq]
def xCe (f : Func) : Code := .seq (aV (xC f)) (.cond (.tmp 20) (gS (aJ (xC f))) (.seq (.region 4 (cR f) false) (.cond (.tmp 23) (gS (aJ (xC2 f))) .skip)))
theorem zcc : Try.f25.body = some (mM Try.f25) := by kernel_rfl
theorem vC (B : GB) (hB : BkOK B) : ∀ d, pT B d
 | 0 => fun st nm n nl Q bk p w I G hlt => absurd hlt (Nat.not_lt_zero _)
 | d + 1 => by
   intro st nm n nl Q bk p w I G hlt hn hQ hh hp hst hnI hnO;have ih := vC B hB d;obtain ⟨m1, m2, _⟩ := pS;have hz0 : NmZ bk w I G (fun b => aD (aK B bk n nl Q) G b ∨ b = bk) st w I G (aK B bk n nl Q) := ⟨Tr.refl _ _ _, qe 2, fun _ _ _ _ _ => rfl, hst, hnI, hnO⟩;refine zb6 (args := [.box 0 0, .pv (.int .i32 nm)]) Try.func25 zcc (Nat.le_of_ble_eq_true (by kernel_rfl)) hh rfl (fun i u hi => ?_) fun a Qx hs hd hq => ?_
   ·match i, hi with
    | 0, hi => cases hi; exact hp
    | 1, hi => cases hi; exact .pv _ _ (.int _ _)
   have hs : SRel w I G (cL [.box 0 0, .pv (.int .i32 nm)] 0) (aK B bk n nl Q) 79 a := hs;generalize hX : bL (aS B) (d + 1) st nm (Q.map (·.2.2), n) = X at hq ⊢;rw [bL, eE] at hX
   -- the two ends
   have fin0 : ∀ (r n' : Int) (nl' : Bool) (Q' : List GKey) (w' : World) (I' : Nat -> Prop) (G' : Nat -> Pl) (a' : Act), SRel w' I' G' [(4, .pv (.int .i64 r))] (aK B bk n' nl' Q') 79 a' -> a'.defers = [] -> NmZ bk w I G (fun b => aD (aK B bk n nl Q) G b ∨ b = bk) st w' I' G' (aK B bk n' nl' Q') -> fC X r n' Q' -> Qx .ret a' w' := fun r n' nl' Q' w' I' G' a' h1 h2 h3 h4 =>
    (hq a' w' (by unfold iS; rw [h2]; exact ⟨_, vB h1, r, n', nl', Q', I', G', rfl, h4, h1.hh, h3⟩)).2
   have fin1 : nm ∉ st -> ∀ (d0 : Deferred) (r n' : Int) (nl' : Bool) (Q' : List GKey) (w' : World) (I' : Nat -> Prop) (G' : Nat -> Pl) (a' : Act), u7 bk nm d0 -> SRel w' I' G' [(4, .pv (.int .i64 r))] (aK B bk n' nl' Q') 79 a' -> a'.defers = [d0] ->
    NmZ bk w I G (fun b => aD (aK B bk n nl Q) G b ∨ b = bk) (st ++ [nm]) w' I' G' (aK B bk n' nl' Q') -> fC X r n' Q' -> Qx .ret a' w' := fun hnst d0 r n' nl' Q' w' I' G' a' h0 h1 h2 h3 h4 => by
    obtain ⟨ty, ks, rfl⟩ := h0;obtain ⟨o, r1, r2⟩ := zbc m1 m2 h3.st hnst 21 ty;obtain ⟨g1, g2, g3⟩ := h3.turn h1.hh r2;refine (hq a' w' ?_).2;unfold iS; rw [h2]
    have hinv : (invoke (.builtin .delete #[69, 21] ty ks) #[.map (some bk), .int .i32 nm]).run qc w' = .ok (.value (.tuple #[])) (setBlock w' bk o) := by
     show (do let v <- Builtin.delete_ #[69, 21] ty #[.map (some bk), .int .i32 nm]; Pure.pure (Next.value v) : Sem Next).run qc w' = _;simp only [qap, r1, qaa, qaq]
    exact ⟨_, _, _, _, _, _, _, rfl, hinv, vB ⟨g1, h1.he.mono g2 (.refl _ _), h1.hn⟩, r, n', nl', Q', I', G', rfl, h4, g1, g3⟩
   rw [zbo]
   -- what the name stands for
   refine wp_seq ((CodeY.awE NmZ.stab (nA _) ⟨rfl, rfl, rfl, rfl⟩ : CN bk w I G _ (xA Try.f25) st _ _ (fun s2 x e h => st = s2 /\ x = .normal /\ e = e1 nm /\ h = aK B bk n nl Q)) w I G a _ hs hz0 ?_);rintro _ _ _ _ w1 I1 G1 a1 ⟨rfl, rfl, rfl, rfl⟩ hs1 hd1 hz1;show Code.wp qc _ Qx a1 w1
   have cB : CN bk w I G (fun b => aD (aK B bk n nl Q) G b ∨ b = bk) (xB Try.f25) st (e1 nm) (aK B bk n nl Q) (fun s2 x e h => st = s2 /\ x = .normal /\ h = aK B bk n nl Q /\ ((∃ y, aT nm B = some y /\ e = [(0, .box 0 0), (1, .pv (.int .i32 nm)), (5, .pv (.sl y.1 y.2.1 (y.2.2.map encGS))), (6, .pv (.bool true))]) ∨
    (aT nm B = none /\ e = [(0, .box 0 0), (1, .pv (.int .i32 nm)), (5, .pv (.sl true true [])), (6, .pv (.bool false))]))) := by
    refine CodeY.awE NmZ.stab (nB _) ⟨kE _, fun v hv => ?_, fun hv => ?_⟩
    ·rw [iT] at hv;cases hy : aT nm B with
     | none => rw [hy] at hv; cases hv
     | some y => rw [hy] at hv; cases hv; exact ⟨_, _, _, rfl, rfl, rfl, rfl, .inl ⟨y, rfl, rfl⟩⟩
    ·rw [iT] at hv;cases hy : aT nm B with
     | none => exact ⟨rfl, rfl, rfl, .inr ⟨rfl, rfl⟩⟩
     | some y => rw [hy] at hv; cases hv
   refine wp_seq (cB w1 I1 G1 a1 _ hs1 hz1 ?_);rintro _ _ _ _ w2 I2 G2 a2 ⟨rfl, rfl, rfl, hor⟩ hs2 hd2 hz2;show Code.wp qc _ Qx a2 w2;rw [show xC Try.f25 = xCe Try.f25 from zbp];rcases hor with ⟨y, hy, rfl⟩ | ⟨hy, rfl⟩
   rotate_left
   ·rw [hy] at hX;subst hX;have cC : CN bk w I G (fun b => aD (aK B bk n nl Q) G b ∨ b = bk) (.block 0 (xCe Try.f25)) st [(0, .box 0 0), (1, .pv (.int .i32 nm)), (5, .pv (.sl true true [])), (6, .pv (.bool false))] (aK B bk n nl Q) (fun s2 x e h => st = s2 /\ x = .ret /\ e = [(4, .pv (.int .i64 5))] /\ h = aK B bk n nl Q) := CodeY.block (CodeY.seq (CodeY.awE NmZ.stab (nC1 _ _ _) (CodeY.cond (t := true) rfl (CodeY.le (e' := e1 nm) ⟨rfl, rfl, trivial⟩ (CodeY.awE NmZ.stab (nC2 _) ⟨rfl, rfl, rfl, rfl⟩)))));refine wp_seq (cC w2 I2 G2 a2 _ hs2 hz2 ?_);rintro _ _ _ _ w3 I3 G3 a3 ⟨rfl, rfl, rfl, rfl⟩ hs3 hd3 hz3;exact fin0 5 n nl Q w3 I3 G3 a3 hs3 (hd3.trans (hd2.trans (hd1.trans hd))) hz3 ⟨rfl, by decide⟩
   rw [hy] at hX;dsimp only [qay] at hX
   have cC : CN bk w I G (fun b => aD (aK B bk n nl Q) G b ∨ b = bk) (.block 0 (xCe Try.f25)) st [(0, .box 0 0), (1, .pv (.int .i32 nm)), (5, .pv (.sl y.1 y.2.1 (y.2.2.map encGS))), (6, .pv (.bool true))] (aK B bk n nl Q) (fun s2 x e h => st = s2 /\ h = aK B bk n nl Q /\ ((nm ∈ st /\ x = .ret /\ e = [(4, .pv (.int .i64 6))]) ∨ (nm ∉ st /\ x = .normal /\ LeE [(0, .box 0 0), (1, .pv (.int .i32 nm)), (5, .pv (.sl y.1 y.2.1 (y.2.2.map encGS)))] e))) := by
    refine CodeY.block (CodeY.seq (CodeY.awE NmZ.stab (nC1 _ _ _) (CodeY.cond (t := false) rfl ?_)));simp only [qi, if_false];refine CodeY.le (e' := [(0, .box 0 0), (1, .pv (.int .i32 nm)), (5, .pv (.sl y.1 y.2.1 (y.2.2.map encGS)))]) ⟨rfl, rfl, rfl, trivial⟩ (CodeY.seq (zb2 _ (CodeY.cond (t := decide (nm ∈ st)) rfl ?_)));by_cases hm : nm ∈ st
    ·rw [if_pos (by simpa using hm)]
     exact CodeY.le (e' := e1 nm) ⟨rfl, rfl, trivial⟩ (CodeY.awE NmZ.stab (nC5 _) ⟨rfl, rfl, .inl ⟨hm, rfl, rfl⟩⟩)
    ·rw [if_neg (by simpa using hm)]
     exact CodeY.skip ⟨rfl, rfl, .inr ⟨hm, rfl, ⟨rfl, rfl, rfl, trivial⟩⟩⟩
   refine wp_seq (cC w2 I2 G2 a2 _ hs2 hz2 ?_);rintro _ _ e3 _ w3 I3 G3 a3 ⟨rfl, rfl, hor⟩ hs3 hd3 hz3;rcases hor with ⟨hm, rfl, rfl⟩ | ⟨hm, rfl, he3⟩
   ·rw [if_pos hm] at hX;subst hX;exact fin0 6 n nl Q w3 I3 G3 a3 hs3 (hd3.trans (hd2.trans (hd1.trans hd))) hz3 ⟨rfl, by decide⟩
   rw [if_neg hm] at hX
   have hl1 : fX (aS B) (st ++ [nm]) < d := by
    have := zbm (b := aS B) (op := st) (nm := nm) (l := y.2.2.map (·.2.2)) (by rw [eE, hy]; rfl) hm;omega
   show Code.wp qc _ Qx a3 w3;refine wp_seq ((zb3 _ hm ⟨rfl, rfl, rfl, rfl⟩ : CN bk w I G _ (.region 6 (cS Try.f25) false) st _ _ (fun s2 x e h => st ++ [nm] = s2 /\ x = .normal /\ e = [(0, .box 0 0), (1, .pv (.int .i32 nm)), (5, .pv (.sl y.1 y.2.1 (y.2.2.map encGS)))] /\ h = aK B bk n nl Q)) w3 I3 G3 a3 _ (hs3.le he3.le) hz3 ?_);rintro _ _ _ _ w4 I4 G4 a4 ⟨rfl, rfl, rfl, rfl⟩ hs4 hd4 hz4;show Code.wp qc _ Qx a4 w4;refine wp_seq (zb4 _ hs4 hz4 ?_);intro d0 w5 I5 G5 a5 hd0 hs5 hd5 hz5;have hd5 : a5.defers = [d0] := by rw [hd5, hd4, hd3, hd2, hd1, hd]
   show Code.wp qc _ Qx a5 w5
   have hyB : y.2.2.length <= 1000 := by
    have : ∃ k, (k, y) ∈ B := by
     revert hy; clear hB ih hz0 hX fin0 fin1 cB cC
     generalize B = B';intro hy
     induction B' with
     | nil => cases hy
     | cons p r ih =>
       obtain ⟨k, z⟩ := p;simp only [aT] at hy;split at hy
       ·cases hy; exact ⟨k, qj⟩
       ·obtain ⟨k', h⟩ := ih hy; exact ⟨k', qf _ h⟩
    obtain ⟨k, hk⟩ := this;exact hB _ hk
   refine wp_seq (zb7 (o0 := fun b => aD (aK B bk n nl Q) G b ∨ b = bk) (w0 := w) (I0 := I) (G0 := G) ih hl1 hyB hn hQ w5 I5 G5 a5 _ (hs5.le (LeE.le ⟨rfl, rfl, trivial⟩)) hz5 ?_);rintro _ x e6 h6 w6 I6 G6 a6 ⟨rfl, hx⟩ hs6 hd6 hz6;cases x with
   | exit k => exact hx.elim
   | ret =>
     obtain ⟨r, n', nl', Q', hf, hres⟩ := hx;obtain ⟨G7, hs7, t7⟩ := hf.srel hs6;exact fin1 hm d0 r n' nl' Q' w6 I6 G7 a6 hd0 hs7 (hd6.trans hd5) (NmZ.stab _ _ _ _ _ _ _ _ _ hz6 hs6.hh hs7.hh t7) (hX ▸ hres)
   | normal =>
     obtain ⟨n', nl', Q', hle, rfl, hres⟩ := hx;show Code.wp qc _ Qx a6 w6;refine (CodeY.awE NmZ.stab (zbt _) ⟨rfl, rfl, rfl, rfl⟩ : CN bk w I G _ (aJ (aJ (aJ (xR Try.f25)))) _ _ _ (fun s2 x e h => st ++ [nm] = s2 /\ x = .ret /\ e = [(4, .pv (.int .i64 0))] /\ h = aK B bk n' nl' Q')) w6 I6 G6 a6 _ (hs6.le hle.le) hz6 ?_;rintro _ _ _ _ w8 I8 G8 a8 ⟨rfl, rfl, rfl, rfl⟩ hs8 hd8 hz8;exact fin1 hm d0 0 n' nl' Q' w8 I8 G8 a8 hd0 hs8 (hd8.trans (hd6.trans hd5)) hz8 (hX ▸ hres)
end Go.Eng
namespace Go.Eng
open Go Go.Proofs
def pV  (x23 x24 : Int) (h0_0 : PV) (n_1 : Bool) (s_1 : LL) : Env × Hp := ([(6, LV.box 0 0), (23, Y6 x23), (24, Y6 x24)], [.box [.pv h0_0, LV.own 1, LV.bot, LV.bot], .sl (30, 4) true n_1 s_1])
section
variable (kvs : List (PV × PV)) (nm : Int) (J : Int -> Int -> PV -> Bool -> LL -> Prop) (μ : Int -> Int -> PV -> Bool -> LL -> Nat)
def vD (R : PV -> Prop) : Prop :=
 ACall qc 25 [LV.box 0 0, LV.pv (Z3 nm)] [Ob.box [LV.pv (PV.mp kvs), LV.pv (PV.sl true true []), LV.mp 1, Y6 0], Ob.mp []] fun (r : LV) (h' : Hp) => ∃ (t : Int × Bool × LL), (r = Y6 t.1 /\ h' = [Ob.box [LV.pv (PV.mp kvs), LV.own 2, LV.bot, LV.bot], Ob.dead, Ob.sl (30, 4) true t.snd.fst t.snd.snd]) /\ (True /\ True /\ True) /\ if (t.1 != 0) = true then R (PV.tup [PV.sl true true [], Z6 t.1]) else (aL (pV (↑t.snd.snd.length : Int) (0 : Int) (PV.mp kvs) t.snd.fst t.snd.snd) /\ J (↑t.snd.snd.length : Int) (0 : Int) (PV.mp kvs) t.snd.fst t.snd.snd) /\ ∀ (x23 x24 : Int) (h0_0 : PV) (n_1 : Bool) (s_1 : LL), J x23 x24 h0_0 n_1 s_1 -> if decide (x24 < x23) = true then aB s_1 x24 4 /\ ∃ n f es, (qa 3 (s_1.getD x24.toNat [])).head? = some (PV.sl n f es) /\ PCall qc 26 [PV.sl n f es] fun v => ∃ n1 f1 es1, v = PV.sl n1 f1 es1 /\ aB s_1 x24 4 /\ (1 = 1 /\ 4 <= (s_1.getD x24.toNat []).length) /\ aL (pV x23 (i64.wrap (x24 + 1)) h0_0 n_1 (s_1.set x24.toNat (bH (s_1.getD x24.toNat []) 3 [PV.sl n1 f1 es1]))) /\ J x23 (i64.wrap (x24 + 1)) h0_0 n_1 (s_1.set x24.toNat (bH (s_1.getD x24.toNat []) 3 [PV.sl n1 f1 es1])) /\ μ x23 (i64.wrap (x24 + 1)) h0_0 n_1 (s_1.set x24.toNat (bH (s_1.getD x24.toNat []) 3 [PV.sl n1 f1 es1])) < μ x23 x24 h0_0 n_1 s_1 else R (PV.tup [PV.sl n_1 false s_1, Z6 0])
theorem zcd {R : PV -> Prop} (h : vD kvs nm J μ R) : PCall qc 8 [.agg [.mp kvs], .int .i32 nm] R :=
 PCall.wz Try.func8 (fun zz_ => match zz_ with | 25 => some ⟨Int × Bool × LL, fun vs hs t => (.pv (.int .i64 t.1), match hs with | [.box (a :: _), _] => [.box [a, .own 2, .bot, .bot], .dead, .sl (30, 4) true t.2.1 t.2.2] | h => h), none⟩ | _ => none) [0, 1, 2, 4, 5, 6, 7, 8, 17, 23, 24, 25] (fT 6 (cM cz5 pV J μ (fun e h => (gI e 23, gI e 24, hP h 0 0, oN h 1, oS h 1)) [] [6, 23, 24] [])) h
end
end Go.Eng
namespace Go.Eng
open Go Go.Proofs Go.Eng.Rows
open Go.ChangeMaps (setBlock)
theorem zce (b : Bk) : fX b [] <= b.length := by
 unfold fX;refine qae (List.length_filter_le _ _) ?_;simp
theorem zcf {B : GB} (hB : BkOK B) (nm : Int) : ACall qc 25 [.box 0 0, .pv (.int .i32 nm)] [.box [.pv (.mp (aN B)), .pv (.sl true true []), .mp 1, .pv (.int .i64 0)], .mp []] fun r h' => ∃ t : Int × Bool × List (List PV),
 (r = .pv (.int .i64 t.1) /\ h' = [.box [.pv (.mp (aN B)), .own 2, .bot, .bot], .dead, .sl (30, 4) true t.2.1 t.2.2]) /\ ∃ (n' : Int) (Q' : List GKey), t.2.2 = Q'.map bO /\ fC (bL (aS B) (B.length + 1) [] nm ([], 0)) t.1 n' Q' := by
 refine ⟨u9, fun w I G cargs hh hsz hrel => ?_⟩;have h1a := hrel 1 _ rfl;have hp := hrel 0 _ rfl
 have hc : cargs = #[cargs.getD 0 undef, .int .i32 nm] := by
  have := h1a.int_eq;obtain ⟨l⟩ := cargs
  match l, hsz with
  | [a, b], _ => simp at this; rw [this]; rfl
 obtain ⟨vs, ty, b1, b2, b3⟩ := hh.obs 0 _ rfl;obtain ⟨es, ck, m1, m2, m3⟩ := hh.obs 1 _ rfl;have hne : (G 0).blk ≠ (G 1).blk := fun e => absurd (hh.sep 0 1 _ _ rfl trivial rfl trivial e) (by decide);obtain ⟨G1, hG1⟩ : ∃ G1 : Nat -> Pl, G1 = fun o => if o = 0 then G 0 else ⟨0, 0, 0, 0⟩ := ⟨_, rfl⟩;have g10 : G1 0 = G 0 := by rw [hG1]; rfl
 have hcell : ∀ (k : Nat) v, [LV.pv (.mp (aN B)), .own 1, .pv (.raw (.map (some (G 1).blk))), .pv (.int .i64 (0 : Int))][k]? = some v -> LRel w I G1 (aK B (G 1).blk 0 true []) v (vs.getD ((G 0).off + k) undef) /\ (vs.getD ((G 0).off + k) undef).oneCell' = true := by
  intro k v hk
  match k, hk with
  | 0, hk =>
    cases hk;obtain ⟨q1, q2⟩ := b3 0 _ rfl;refine ⟨?_, q2⟩;cases q1 with | pv _ _ h => exact .pv _ _ h
  | 1, hk =>
    cases hk;obtain ⟨q1, q2⟩ := b3 1 _ rfl;refine ⟨?_, q2⟩;generalize vs.getD ((G 0).off + 1) undef = u at q1;cases q1 with | pv _ _ h => cases h; exact .ownNil 1 _ _ _ rfl
  | 2, hk =>
    cases hk;obtain ⟨q1, q2⟩ := b3 2 _ rfl;refine ⟨?_, q2⟩;generalize vs.getD ((G 0).off + 2) undef = u at q1;cases q1 with | mp _ _ h => exact .pv _ _ (.raw _)
  | 3, hk =>
    cases hk;obtain ⟨q1, q2⟩ := b3 3 _ rfl;refine ⟨?_, q2⟩;cases q1 with | pv _ _ h => exact .pv _ _ h
 have hh1 : HRel w I G1 (aK B (G 1).blk 0 true []) := by
  refine ⟨fun o ob ho => ?_, fun o o' ob ob' ho ha ho' ha' e => ?_, fun o ob ho ha => ?_, hh.cl⟩
  ·match o, ho with
   | 0, ho => cases ho; rw [g10]; exact ⟨vs, ty, b1, b2, hcell⟩
   | 1, ho => cases ho; exact rfl
  ·match o, ho with
   | 0, ho =>
     match o', ho' with
     | 0, _ => rfl
     | 1, ho' => cases ho'; exact absurd ha'.1 (by decide)
   | 1, ho => cases ho; exact absurd ha.1 (by decide)
  ·match o, ho with
   | 0, ho => rw [g10]; exact hh.nI 0 _ rfl trivial
   | 1, ho => cases ho; exact absurd ha.1 (by decide)
 have own1 : ∀ b, aD (aK B (G 1).blk 0 true []) G1 b ↔ b = (G 0).blk := fun b => by
  constructor
  ·rintro ⟨o, ob, ho, ha, e⟩
   match o, ho with
   | 0, ho => rw [<- e, g10]
   | 1, ho => cases ho; exact absurd ha.1 (by decide)
  ·rintro rfl;exact ⟨0, _, rfl, trivial, by rw [g10]⟩
 have own0 : ∀ b, aD [Ob.box [.pv (.mp (aN B)), .pv (.sl true true []), .mp 1, .pv (.int .i64 0)], .mp []] G b ↔ b = (G 0).blk ∨ b = (G 1).blk := fun b => by
  constructor
  ·rintro ⟨o, ob, ho, ha, e⟩
   match o, ho with
   | 0, ho => exact .inl e.symm
   | 1, ho => exact .inr e.symm
  ·rintro (rfl | rfl)
   ·exact ⟨0, _, rfl, trivial, rfl⟩
   ·exact ⟨1, _, rfl, trivial, rfl⟩
 have hp1 : LRel w I G1 (aK B (G 1).blk 0 true []) (.box 0 0) (cargs.getD 0 undef) := by
  generalize cargs.getD 0 undef = u at hp;cases hp with
  | box _ _ cs h => rw [<- g10]; exact .box 0 0 _ rfl
  | arr _ _ cs h => cases h
 rw [hc]
 refine (vC B hB (B.length + 1) [] nm 0 true [] (G 1).blk _ w I G1 (Nat.lt_succ_of_le (qae (zce _) (by simp [aS]))) (qx _) (qe _) hh1 hp1
  ⟨es, ck, m1, m2.1, fun j x h => by cases h⟩ (hh.nI 1 _ rfl trivial) (fun ho => hne ((own1 _).1 ho).symm)).mono ?_
 rintro e w' ⟨r, n', nl', Q', I', G', rfl, hres, hh', hz⟩;obtain ⟨G3, hG3⟩ : ∃ G3 : Nat -> Pl, G3 = fun o => if o = 0 then G' 0 else if o = 2 then G' 1 else ⟨0, 0, 0, 0⟩ := ⟨_, rfl⟩;have g30 : G3 0 = G' 0 := by rw [hG3]; rfl
 have g32 : G3 2 = G' 1 := by rw [hG3]; rfl
 have e0 : G' 0 = G 0 := (hz.stay 0 _ (by decide) rfl rfl).trans g10;obtain ⟨vs', ty', c1, c2, c3⟩ := hh'.obs 0 _ rfl
 have back : ∀ {o : Nat} {ob : Ob}, [Ob.box [.pv (.mp (aN B)), .own 2, .bot, .bot], .dead, .sl (30, 4) true nl' (Q'.map bO)][o]? = some ob -> ob.alive (G3 o) -> ∃ (o2 : Nat) (ob2 : Ob), (aK B (G 1).blk n' nl' Q')[o2]? = some ob2 /\ ob2.alive (G' o2) /\ G3 o = G' o2 /\ (o = 0 /\ o2 = 0 ∨ o = 2 /\ o2 = 1) := fun {o ob} ho ha => by
  match o, ho with
  | 0, ho => exact ⟨0, _, rfl, trivial, g30, .inl ⟨rfl, rfl⟩⟩
  | 1, ho => cases ho; exact ha.elim
  | 2, ho => cases ho; rw [g32] at ha; exact ⟨1, _, rfl, ha, g32, .inr ⟨rfl, rfl⟩⟩
 have hh3 : HRel w' I' G3 [.box [.pv (.mp (aN B)), .own 2, .bot, .bot], .dead, .sl (30, 4) true nl' (Q'.map bO)] := by
  refine ⟨fun o ob ho => ?_, fun o o' ob ob' ho ha ho' ha' e => ?_, fun o ob ho ha => ?_, hh'.cl⟩
  ·match o, ho with
   | 0, ho =>
     cases ho;rw [g30];refine ⟨vs', ty', c1, c2, fun k v hk => ?_⟩
     match k, hk with
     | 0, hk =>
       cases hk;obtain ⟨q1, q2⟩ := c3 0 _ rfl;refine ⟨?_, q2⟩;cases q1 with | pv _ _ h => exact .pv _ _ h
     | 1, hk =>
       cases hk;obtain ⟨q1, q2⟩ := c3 1 _ rfl;refine ⟨?_, q2⟩;generalize vs'.getD ((G' 0).off + 1) undef = u at q1;cases q1 with
       | ownNil _ _ _ _ h => cases h; exact .ownNil 2 _ _ _ rfl
       | own _ _ _ _ ad h0 h => cases h; rw [<- g32]; exact .own 2 _ _ _ ad (by rw [g32]; exact h0) rfl
     | 2, hk => cases hk; exact ⟨.bot _, (c3 2 _ rfl).2⟩
     | 3, hk => cases hk; exact ⟨.bot _, (c3 3 _ rfl).2⟩
   | 1, ho => cases ho; trivial
   | 2, ho => cases ho; rw [g32]; have := hh'.obs 1 _ rfl; cases nl' <;> exact this
  ·obtain ⟨p, pb, p1, p2, p3, p4⟩ := back ho ha;obtain ⟨q, qb, q1, q2, q3, q4⟩ := back ho' ha';have := hh'.sep p q pb qb p1 p2 q1 q2 (by rw [<- p3, <- q3]; exact e);omega
  ·obtain ⟨p, pb, p1, p2, p3, p4⟩ := back ho ha;rw [p3]; exact hh'.nI p pb p1 p2
 refine ⟨_, _, _, I', G3, rfl, ⟨(r, nl', Q'.map bO), ⟨rfl, rfl⟩, n', Q', rfl, hres⟩, hh3, .pv _ _ (.int _ _), ⟨?_, by simp, fun o ob' ho hx hf => ?_⟩⟩
 ·have t := hz.t
  have e1 : (fun b => aD (aK B (G 1).blk 0 true []) G1 b ∨ b = (G 1).blk) = aD [Ob.box [.pv (.mp (aN B)), .pv (.sl true true []), .mp 1, .pv (.int .i64 0)], .mp []] G := by
   funext b; exact propext (by rw [own1, own0])
  have t : Tr w I (fun b => aD (aK B (G 1).blk 0 true []) G1 b ∨ b = (G 1).blk) w' I' (fun b => aD (aK B (G 1).blk n' nl' Q') G' b ∨ b = (G 1).blk) := t;rw [e1] at t;refine t.trans (Tr.less fun b ⟨o, ob, ho, ha, e⟩ => ?_);obtain ⟨p, pb, p1, p2, p3, p4⟩ := back ho ha;exact .inl ⟨p, pb, p1, p2, by rw [<- p3]; exact e⟩
 ·match o, ho, hx with
  | 0, _, hx => exact ⟨g30.trans e0, _, rfl, rfl⟩
  | 1, _, hx => cases hx; cases hf
end Go.Eng
namespace Go.Proofs
open Go.Shelf
def Try.cloneM_ren : Go.Shelf.Ren := ⟨fun | 5 => 23 | 7 => 32 | n => n, fun | 23 => 22 | 25 => 21 | 3 => 33 | 4 => 4 | 20 => 20 | 0 => 0 | n => n, fun | n => n⟩
theorem Try.cloneM : Go.Proofs.SlLaysW.n5 qc Try.cloneM_ren := {
 mixed := by kernel_rfl
 f5 := ⟨Try.f23.name, by decide, Try.func23.trans (congrArg some (by kernel_rfl))⟩
 f7 := Try.func32.trans (congrArg some (by kernel_rfl))
 t4 := Try.underlying4
 a4 := Try.isAgg4
 z4 := Try.sizeOf4
 v4 := Try.zeroValue4
 t20 := Try.underlying20
 a20 := Try.isAgg20
 z20 := Try.sizeOf20
 v20 := Try.zeroValue20
 t23 := Try.underlying22
 a23 := Try.isAgg22
 z23 := Try.sizeOf22
 v23 := Try.zeroValue22 }
end Go.Proofs
namespace Go.Eng
open Go Go.Proofs
section
variable (n f : Bool) (es : LL)
def pW (R : PV -> Prop) : Prop :=
 if (bif true then n else !n) = true then R (PV.sl true true []) else nU true [] es 1 4 /\ R (PV.sl false false ([] ++ es))
theorem vE {R : PV -> Prop} (h : pW n es R) : PCall qc 26 [.sl n f es] R :=
 PCall.wz Try.func26 bZ [0, 2, 4] bU h
end
def pX (n f : Bool) (es : LL) (n2 f2 : Bool) (es2 : LL) (x5 : Int) : Env × Hp := ([(0, LV.pv (PV.sl n f es)), (1, LV.pv (PV.sl n2 f2 es2)), (5, Y6 x5)], [])
section
variable (n f : Bool) (es : LL) (n2 f2 : Bool) (es2 : LL) (J : Int -> Prop) (μ : Int -> Nat)
def vF (R : PV -> Prop) : Prop :=
 if ((↑es.length : Int) != (↑es2.length : Int)) = true then R (Zb false) else (aL (pX n f es n2 f2 es2 (0 : Int)) /\ J (0 : Int)) /\ ∀ (x5 : Int), J x5 -> if decide (x5 < (↑es.length : Int)) = true then aB es x5 1 /\ ∃ n1, (es.getD x5.toNat []).head? = some (Z3 n1) /\ aB es2 x5 1 /\ ∃ n3, (es2.getD x5.toNat []).head? = some (Z3 n3) /\ if (n1 != n3) = true then R (Zb false) else aL (pX n f es n2 f2 es2 (i64.wrap (x5 + 1))) /\ J (i64.wrap (x5 + 1)) /\ μ (i64.wrap (x5 + 1)) < μ x5 else R (Zb true)
theorem zcg {R : PV -> Prop} (h : vF n f es n2 f2 es2 J μ R) : PCall qc 10 [.sl n f es, .sl n2 f2 es2] R :=
 PCall.wz Try.func10 bZ [0, 1, 4, 5, 10, 14, 25] (fT 4 (cM cz1 (pX n f es n2 f2 es2) J μ (fun e h => (((gI e 5), ()))) [] [0, 1, 5] [])) h
end
def pY (n f : Bool) (es : LL) (x11 : Int) (n_0 : Bool) (s_0 : LL) : Env × Hp := ([(3, LV.own 0), (9, LV.pv (PV.sl n f es)), (10, LV.pv (PV.int i64 (es.length : Int))), (11, Y6 x11)], [.sl (32, 6) true n_0 s_0])
section
variable (n f : Bool) (es : LL) (J : Int -> Bool -> LL -> Prop) (μ : Int -> Bool -> LL -> Nat)
def vG (R : PV -> Prop) : Prop :=
 ((0 : Int) <= 0 /\ (0 : Int) <= (↑es.length : Int) /\ (↑48 : Int) * (↑es.length : Int) <= 281474976710656 /\ (↑es.length : Int) <= 9223372036854775807) /\ (aL (pY n f es (0 : Int) false []) /\ J (0 : Int) false []) /\ ∀ (x11 : Int) (n_0 : Bool) (s_0 : LL), J x11 n_0 s_0 -> if decide (x11 < (↑es.length : Int)) = true then aB es x11 6 /\ ∃ n1, (es.getD x11.toNat []).head? = some (Z6 n1) /\ ∃ n2, (es.getD x11.toNat []).tail.head? = some (Z3 n2) /\ ∃ b, (es.getD x11.toNat []).tail.tail.head? = some (Zb b) /\ ∃ n3 f1 es1, (es.getD x11.toNat []).tail.tail.tail.head? = some (PV.sl n3 f1 es1) /\ ∃ b1, (es.getD x11.toNat []).tail.tail.tail.tail.head? = some (Zb b1) /\ ∃ n4, (es.getD x11.toNat []).tail.tail.tail.tail.tail.head? = some (Z3 n4) /\ PCall qc 26 [PV.sl n3 f1 es1] fun v => ∃ n5 f2 es2, v = PV.sl n5 f2 es2 /\ (cH [[Z6 n1, Z3 n2, Zb b, PV.sl n5 f2 es2, Zb b1, Z3 n4]] 6 /\ (s_0.length + 1) * 48 <= 140737488355328) /\ aL (pY n f es (i64.wrap (x11 + 1)) (n_0 && false) (s_0 ++ [[Z6 n1, Z3 n2, Zb b, PV.sl n5 f2 es2, Zb b1, Z3 n4]])) /\ J (i64.wrap (x11 + 1)) (n_0 && false) (s_0 ++ [[Z6 n1, Z3 n2, Zb b, PV.sl n5 f2 es2, Zb b1, Z3 n4]]) /\ μ (i64.wrap (x11 + 1)) (n_0 && false) (s_0 ++ [[Z6 n1, Z3 n2, Zb b, PV.sl n5 f2 es2, Zb b1, Z3 n4]]) < μ x11 n_0 s_0 else R (PV.sl n_0 false s_0)
theorem zch {R : PV -> Prop} (h : vG n f es J μ R) : PCall qc 24 [.sl n f es] R :=
 PCall.wz Try.func24 bZ [0, 2, 3, 5, 9, 10, 11, 12] (fT 3 (cM dJ (pY n f es) J μ (fun e h => (gI e 11, oN h 0, oS h 0)) [] [3, 9, 10, 11] [])) h
end
section
variable (kvs : List (PV × PV)) (nm : Int) (n f : Bool) (es : LL)
def mT (R : PV -> Prop) : Prop :=
 fN .i32 kvs /\
 let V1 := ACall qc 23 [LV.pv (PV.mp kvs)] [] fun (r : LV) (h' : Hp) => ∃ (t : Unit), (r = LV.mp 0 /\ h' = [Ob.mp kvs]) /\ True /\ PCall qc 24 [PV.sl n f es] fun v1 => ∃ n2 f2 es2, v1 = PV.sl n2
  f2 es2 /\ fN .i32 kvs /\ R (PV.tup [PV.agg [PV.mp (c8 (Z3 nm) (PV.sl n2 f2 es2) kvs)], Z6 0]); (∀ (v : PV), cJ (Z3 nm) kvs = some v -> ∃ n1 f1 es1, v = PV.sl n1 f1 es1 /\ if decide ((↑es.length :
  Int) > 1000) = true then R (PV.tup [PV.agg [PV.mp kvs], Z6 7]) else V1) /\ (cJ (Z3 nm) kvs = none -> if decide ((↑es.length : Int) > 1000) = true then R (PV.tup [PV.agg [PV.mp kvs], Z6 7]) else if ((↑kvs.length : Int) == 100) = true
  then R (PV.tup [PV.agg [PV.mp kvs], Z6 3]) else V1)
theorem pZ {R : PV -> Prop} (h : mT kvs nm n f es R) : PCall qc 7 [.agg [.mp kvs], .int .i32 nm, .sl n f es] R :=
 PCall.wz Try.func7 (fun zz_ => match zz_ with | 23 => some ⟨Unit, fun vs _ _ => (.mp 0, match vs with | [.pv (.mp kvs)] => [.mp kvs] | _ => []), none⟩ | _ => none) [0, 1, 2, 3, 6, 7, 9, 10, 18, 23, 37] bU h
end
section
variable (nm : Int) (n f : Bool) (es : LL)
def vH (R : PV -> Prop) : Prop :=
 fN .i32 [] /\
 let V1 := if decide ((↑es.length : Int) > 1000) = true then R (PV.tup [PV.agg [PV.nilm], Z6 7]) else ACall qc 23 [LV.pv PV.nilm] [] fun (r : LV) (h' : Hp) => ∃ (t : Unit), (r = LV.pv PV.nilm /\ h' = []) /\ True /\ PCall qc 24
  [PV.sl n f es] fun v1 => ∃ n2 f2 es2, v1 = PV.sl n2 f2 es2 /\ fN .i32 [] /\ R (PV.tup [PV.agg [PV.mp (c8 (Z3 nm) (PV.sl n2 f2 es2) [])], Z6 0]); (∀ (v : PV), cJ (Z3 nm) [] = some v -> ∃ (n1
  : Bool), ∃ f1 es1, v = PV.sl n1 f1 es1 /\ V1) /\ (cJ (Z3 nm) [] = none -> V1)
theorem zci {R : PV -> Prop} (h : vH nm n f es R) : PCall qc 7 [.agg [.nilm], .int .i32 nm, .sl n f es] R :=
 PCall.wz Try.func7 (fun zz_ => match zz_ with | 23 => some ⟨Unit, fun _ _ _ => (.pv .nilm, []), none⟩ | _ => none) [0, 1, 2, 3, 6, 7, 9, 10, 18, 23, 37] bU h
end
def vI  (R : PV -> Prop) : Prop :=
 R (PV.agg [Zb true, PV.sl true true []])
theorem zcj  {R : PV -> Prop} (h : vI  R) : PCall qc 13 [] R :=
 PCall.wz Try.func13 bZ [0] bU h

section
variable (on : Bool) (kk kr : Int) (km : Bool) (n f : Bool) (es : LL) (n2 f2 : Bool) (ss : LL)
def p0 (R : PV -> Prop) : Prop :=
 if (!on) = true then R (PV.tup [PV.agg [Zb on, PV.sl n2 f2 ss], Zb true]) else if ((↑ss.length : Int) == 1000) = true then R (PV.tup [PV.agg [Zb on, PV.sl n2 f2 ss], Zb false]) else PCall qc 26 [PV.sl n f es] fun v => ∃ n1 f1 es1, v = PV.sl n1 f1 es1 /\ (iD ss.length none (some (↑ss.length : Int)) (some (↑ss.length : Int)) /\ cH ss 6) /\ nU (decide ((↑ss.length : Int) = (↑ss.length : Int))) (qa 0 (List.take (↑ss.length : Int).toNat ss)) [[Z6 kk, Z3 kr, Zb km, PV.sl n1 f1 es1, Zb false, Z3 0]] 6 48 /\ R (PV.tup [PV.agg [Zb on, PV.sl (n2 && false) false (qa 0 (List.take (↑ss.length : Int).toNat ss) ++ [[Z6 kk, Z3 kr, Zb km, PV.sl n1 f1 es1, Zb false, Z3 0]])], Zb true])
theorem vJ {R : PV -> Prop} (h : p0 on kk kr km n f es n2 f2 ss R) : PCall qc 12 [.agg [.bool on, .sl n2 f2 ss], .agg [.int .i64 kk, .int .i32 kr, .bool km, .sl n f es]] R :=
 PCall.wz Try.func12 bZ [0, 1, 2, 3, 4, 5, 8, 13] bU h
end
def p6 (n f : Bool) (es : LL) (n2 f2 : Bool) (ss : LL) (x5 : Int) : Env × Hp := ([(0, LV.pv (PV.sl n f es)), (1, LV.pv (PV.sl n2 f2 ss)), (5, Y6 x5)], [])
section
variable (n f : Bool) (es : LL) (n2 f2 : Bool) (ss : LL) (J : Int -> Prop) (μ : Int -> Nat)
def vK (R : PV -> Prop) : Prop :=
 if ((↑es.length : Int) != (↑ss.length : Int)) = true then R (Zb false) else (aL (p6 n f es n2 f2 ss (0 : Int)) /\ J (0 : Int)) /\ ∀ (x5 : Int), J x5 -> if decide (x5 < (↑es.length : Int)) = true then aB es x5 4 /\ ∃ n1, (qa 0 (es.getD x5.toNat [])).head? = some (Z6 n1) /\ aB ss x5 4 /\ ∃ n3, (qa 0 (ss.getD x5.toNat [])).head? = some (Z6 n3) /\ if (n1 != n3) = true then R (Zb false) else aB es x5 4 /\ ∃ n4, (qa 1 (es.getD x5.toNat [])).head? = some (Z3 n4) /\ aB ss x5 4 /\ ∃ n5, (qa 1 (ss.getD x5.toNat [])).head? = some (Z3 n5) /\ if (n4 != n5) = true then R (Zb false) else aB es x5 4 /\ ∃ b, (qa 2 (es.getD x5.toNat [])).head? = some (Zb b) /\ aB ss x5 4 /\ ∃ b1, (qa 2 (ss.getD x5.toNat [])).head? = some (Zb b1) /\ if (b != b1) = true then R (Zb false) else aB es x5 4 /\ ∃ n6 f1 es1, (qa 3 (es.getD x5.toNat [])).head? = some (PV.sl n6 f1 es1) /\ aB ss x5 4 /\ ∃ n7 f3 es2, (qa 3 (ss.getD x5.toNat [])).head? = some (PV.sl n7 f3 es2) /\ PCall qc 10 [PV.sl n6 f1 es1, PV.sl n7 f3 es2] fun v => ∃ b2, v = Zb b2 /\ if (!b2) = true then R (Zb false) else aL (p6 n f es n2 f2 ss (i64.wrap (x5 + 1))) /\ J (i64.wrap (x5 + 1)) /\ μ (i64.wrap (x5 + 1)) < μ x5 else R (Zb true)
theorem zck {R : PV -> Prop} (h : vK n f es n2 f2 ss J μ R) : PCall qc 15 [.sl n f es, .sl n2 f2 ss] R :=
 PCall.wz Try.func15 bZ [0, 1, 4, 5, 10, 14, 67] (fT 4 (cM cz1 (p6 n f es n2 f2 ss) J μ (fun e h => (((gI e 5), ()))) [] [0, 1, 5] [])) h
end
def vL  (R : PV -> Prop) : Prop :=
 ACall qc 7 [LV.pv (PV.agg [PV.nilm]), LV.pv (Z3 97), LV.pv (PV.sl false true [[Z6 1, Z3 120, Zb false, PV.sl true true [], Zb false, Z3 0], [Z6 0, Z3 0, Zb false, PV.sl true true [], Zb true, Z3 98]])] [] fun (r : LV) (h' : Hp) => ∃ (t : List (PV × PV) × Int), (r = LV.pv (PV.tup [PV.agg [PV.mp t.fst], Z6 t.2]) /\ h' = []) /\ True /\ ACall qc 7 [LV.pv (PV.agg [PV.mp t.fst]), LV.pv (Z3 98), LV.pv (PV.sl false true [[Z6 1, Z3 121, Zb false, PV.sl true true [], Zb false, Z3 0]])] [] fun (r1 : LV) (h'1 : Hp) => ∃ (t1 : List (PV × PV) × Int), (r1 = LV.pv (PV.tup [PV.agg [PV.mp t1.fst], Z6 t1.2]) /\ h'1 = []) /\ True /\ ACall qc 8 [LV.pv (PV.agg [PV.mp t1.fst]), LV.pv (Z3 97)] [] fun (r2 : LV) (h'2 : Hp) => ∃ (t2 : Bool × Bool × LL × Int), (r2 = LV.pv (PV.tup [PV.sl t2.fst t2.snd.fst t2.snd.snd.fst, Z6 t2.snd.snd.2]) /\ h'2 = []) /\ True /\ ACall qc 7 [LV.pv (PV.agg [PV.mp t1.fst]), LV.pv (Z3 98), LV.pv (PV.sl false true [[Z6 0, Z3 0, Zb false, PV.sl true true [], Zb true, Z3 97]])] [] fun (r3 : LV) (h'3 : Hp) => ∃ (t3 : List (PV × PV) × Int), (r3 = LV.pv (PV.tup [PV.agg [PV.mp t3.fst], Z6 t3.2]) /\ h'3 = []) /\ True /\ ACall qc 8 [LV.pv (PV.agg [PV.mp t3.fst]), LV.pv (Z3 97)] [] fun (r4 : LV) (h'4 : Hp) => ∃ (t4 : Bool × Bool × LL × Int), (r4 = LV.pv (PV.tup [PV.sl t4.fst t4.snd.fst t4.snd.snd.fst, Z6 t4.snd.snd.2]) /\ h'4 = []) /\ True /\ PCall qc 15 [PV.sl t2.fst t2.snd.fst t2.snd.snd.fst, PV.sl false true [[Z6 1, Z3 120, Zb false, PV.sl true true []], [Z6 1, Z3 121, Zb false, PV.sl true true []]]] fun v => ∃ b, v = Zb b /\ R (Zb (b && t2.snd.snd.2 == 0 && t4.snd.snd.2 == 6))
theorem zcl  {R : PV -> Prop} (h : vL  R) : PCall qc 9 [] R :=
 PCall.wz Try.func9 (fun zz_ => match zz_ with | 7 => some ⟨List (PV × PV) × Int, fun _ hs t => (.pv (.tup [.agg [.mp t.1], .int .i64 t.2]), hs), none⟩ | 8 => some ⟨Bool × Bool × LL × Int, fun _ _ t => (.pv (.tup [.sl t.1 t.2.1 t.2.2.1, .int .i64 t.2.2.2]), []), none⟩ | _ => none) [0, 1, 2, 3, 4, 5, 6, 9] bU h

end Go.Eng
namespace Go.Eng
open Go Go.Proofs Go.Eng.Rows
theorem zcm (a : List Int) : cH (aI a) 1 := uP (enc := fun n => [PV.int .i32 n]) (fun _ => rfl) a
theorem zcn {l : List Int} {i : Int} (h0 : 0 <= i) (hi : i.toNat < l.length) : aB (aI l) i 1 /\ (aI l).getD i.toNat [] = [.int .i32 l[i.toNat]] :=
 ⟨fW (enc := fun n => [PV.int .i32 n]) (fun _ => rfl) h0 (by omega), fV hi⟩
theorem zco {α : Type} {l : List α} {i : Nat} (h : i < l.length) : l.take (i + 1) = l.take i ++ [l[i]] := by
 rw [List.take_add_one, qo h]; rfl
theorem iU {i : Nat} (h : i < 1000000000000) : i64.wrap ((i : Int) + 1) = ((i + 1 : Nat) : Int) := by rw [aE (by omega) (by omega)]; omega
theorem PCall.empty {P : Program} {f : Nat} {args args' : List PV} {Q Q' : PV -> Prop} (h : PCall P f args' Q') {k : Nat} {fl : Bool} {es : List (List PV)} (hk : args[k]? = some (.sl true fl es)) (hne : es ≠ []) : PCall P f args Q :=
 ⟨h.1, fun w I G cargs _ _ h3 => by
  have := h3 k (.pv (.sl true fl es)) (by rw [qz, hk]; rfl);generalize cargs.getD k undef = c at this;cases this with
  | pv _ _ h =>
    generalize hx : es = xs at h;cases h with
    | slnil => exact absurd hx hne⟩
theorem p7 (n f : Bool) (l : List Int) (hl : l.length < 1000000000000) : PCall qc 26 [.sl n f (aI l)] fun x => ∃ n f, x = .sl n f (aI l) := by
 have hc : PCall qc 26 [.sl false f (aI l)] fun x => ∃ n f, x = .sl n f (aI l) := by
  refine vE _ _ _ ?_; unfold pW;exact ⟨⟨rfl, .inl rfl, fun e he => (by cases he), zcm _, by simp only [qah, gQ]; omega⟩, _, _, rfl⟩
 cases n with
 | false => exact hc
 | true =>
   by_cases h : l = []
   ·subst h;refine vE _ _ _ ?_; unfold pW;exact ⟨_, _, rfl⟩
   ·exact PCall.empty hc (k := 0) rfl (fun e => h (by cases l with | nil => rfl | cons a b => cases e))
theorem zcp (n f n2 f2 : Bool) (l : List Int) (hl : l.length < 1000000000000) : PCall qc 10 [.sl n f (aI l), .sl n2 f2 (aI l)] fun v => v = .bool true := by
 refine zcg _ _ _ _ _ _ (fun i => 0 <= i /\ i <= l.length) (fun i => l.length - i.toNat) ?_;unfold vF;rw [if_neg (by simp)];refine ⟨⟨rfl, Int.le_refl _, by omega⟩, ?_⟩;rintro i ⟨i0, i1⟩;refine aH (fun h => ?_) (fun h => rfl);simp only [aW, gQ] at h;have hi : i.toNat < l.length := by omega
 obtain ⟨g1, g2⟩ := zcn i0 hi;have hw : i64.wrap (i + 1) = i + 1 := aE (by omega) (by omega);refine ⟨g1, l[i.toNat], by rw [g2]; rfl, g1, l[i.toNat], by rw [g2]; rfl, ?_⟩;rw [if_neg (by simp), hw];exact ⟨rfl, ⟨by omega, by omega⟩, by dsimp only; omega⟩
def bP (k : MKey) : Prop := k.text.length < 1000000
theorem p8 (x : GKey) : (bO x).length = 4 := rfl
theorem vM (x : GS) : (encGS x).length = 6 := rfl
theorem zcq (n f n2 f2 : Bool) (A B : List GKey) (h : A.map (·.2.2) = B.map (·.2.2)) (hk : ∀ x ∈ A, bP x.2.2) (hl : A.length < 1000000000) : PCall qc 15 [.sl n f (A.map bO), .sl n2 f2 (B.map bO)] fun v => v = .bool true := by
 have hlen : A.length = B.length := by have := congrArg List.length h; simpa using this
 have la : (A.map bO).length = A.length := qg _;have lb : (B.map bO).length = B.length := qg _;refine zck _ _ _ _ _ _ (fun x => ∃ i : Nat, x = i /\ i <= A.length) (fun x => A.length - x.toNat) ?_;unfold vK;rw [la, lb, if_neg (by simp; omega)];refine ⟨⟨rfl, 0, rfl, qx _⟩, ?_⟩;rintro _ ⟨i, rfl, hi⟩;refine aH (fun hc => ?_) (fun hc => rfl);simp only [aW] at hc;have h1 : i < A.length := by omega
 have h2 : i < B.length := by omega
 have e : A[i].2.2 = B[i].2.2 := by
  have := congrArg (fun l => l[i]?) h;simpa [h1, h2] using this
 rw [qm, fV h1, fV h2, iU (by omega)];have ia : aB (A.map bO) (i : Int) 4 := fW (l := A) p8 (by omega) (by omega);have ib : aB (B.map bO) (i : Int) 4 := fW (l := B) p8 (by omega) (by omega);refine ⟨ia, _, rfl, ib, _, rfl, b7 (by rw [e]; simp) ⟨ia, _, rfl, ib, _, rfl, b7 (by rw [e]; simp) ⟨ia, _, rfl, ib, _, rfl, b7 (by rw [e]; simp) ⟨ia, _, _, _, rfl, ib, _, _, _, rfl, ?_⟩⟩⟩⟩;rw [e];refine (zcp _ _ _ _ _ (by have := hk _ (qaf h1); rw [e] at this; unfold bP at this; omega)).mono ?_;rintro _ rfl;refine ⟨_, rfl, b7 (by simp) ⟨rfl, ⟨i + 1, rfl, h1⟩, by dsimp only; omega⟩⟩
theorem vN (n f : Bool) (L : List GS) (hl : L.length < 100000) (hk : ∀ x ∈ L, bP x.2.2.key) : PCall qc 24 [.sl n f (L.map encGS)] fun v => ∃ (n' f' : Bool) (L' : List GS), v = .sl n' f' (L'.map encGS) /\ L'.map (·.2.2) = L.map (·.2.2) := by
 have ll : (L.map encGS).length = L.length := qg _;refine zch _ _ _ (fun x n' s => ∃ (i : Nat) (L' : List GS), x = i /\ i <= L.length /\ s = L'.map encGS /\ L'.map (·.2.2) = (L.map (·.2.2)).take i) (fun x _ _ => L.length - x.toNat) ?_;unfold vG;rw [ll];refine ⟨⟨by omega, by omega, by omega, by omega⟩, ⟨rfl, 0, [], rfl, qx _, rfl, rfl⟩, ?_⟩;rintro _ n' _ ⟨i, L', rfl, hi, rfl, hL⟩;refine aH (fun hc => ?_) (fun hc => ?_)
 ·simp only [aW] at hc;have h1 : i < L.length := by omega
  have hl' : L'.length = i := by have := congrArg List.length hL; simp at this; omega
  rw [qm, fV h1, iU (by omega)];refine ⟨fW (l := L) vM (by omega) (by omega), _, rfl, _, rfl, _, rfl, _, _, _, rfl, _, rfl, _, rfl, ?_⟩;refine (p7 _ _ _ (by have := hk _ (qaf h1); unfold bP at this; omega)).mono ?_;rintro _ ⟨n1, f1, rfl⟩;refine ⟨_, _, _, rfl, ⟨fun e he => by cases he; rfl, by simp only [qg]; omega⟩, rfl, ⟨i + 1, L' ++ [(n1, f1, L[i].2.2)], rfl, h1, by rw [qv]; rfl, ?_⟩, by dsimp only; omega⟩;rw [qv, hL, zco (by simpa using h1)]
  simp
 ·simp only [aW] at hc;refine ⟨_, _, L', rfl, ?_⟩;rw [hL, List.take_of_length_le (by simp; omega)]
theorem zcr (kvs : List (PV × PV)) : ACall qc 23 [.pv (.mp kvs)] [] fun r h' => r = .mp 0 /\ h' = [.mp kvs] := by
 refine ⟨⟨_, Try.func23, by kernel_rfl, by kernel_rfl⟩, fun w I G cargs hh hsz hrel => ?_⟩;have h0 := hrel 0 _ rfl;obtain ⟨l⟩ := cargs
 match l, hsz with
 | [c], _ =>
   have h0 : LRel w I G [] (.pv (.mp kvs)) c := h0;cases h0 with
   | pv _ _ h =>
     cases h with
     | mp _ b ck es h3 h4 h1 h5 h6 =>
       refine (AnyW.maps_Clone Try.cloneM b es ck w h4).mono ?_;rintro e w' ⟨rfl, rfl⟩;have hk : Keeps w I (w.alloc (.map es ck)) I := .alloc w I I _ fun _ x => x;have hp := hh.push (.map es ck) (.mp kvs) ⟨w.heap.size, 0, 0, 0⟩ rfl ⟨es, ck, gC w _, h1, fun i kv hi => ⟨(h5 i kv hi).mono hk.1 hk.2, (h6 i kv hi).mono hk.1 hk.2⟩⟩;refine ⟨_, .mp 0, _, I, _, rfl, ⟨rfl, rfl⟩, hp, ?_, TrH.push (.map es ck) (.mp kvs) ⟨w.heap.size, 0, 0, 0⟩ rfl⟩;have := LRel.mp (w := w.alloc (.map es ck)) (I := I) (G := aG G 0 ⟨w.heap.size, 0, 0, 0⟩) (h := [.mp kvs]) 0 kvs rfl;simpa [aG] using this
theorem aCloneN : ACall qc 23 [.pv .nilm] [] fun r h' => r = .pv .nilm /\ h' = [] := by
 refine ⟨⟨_, Try.func23, by kernel_rfl, by kernel_rfl⟩, fun w I G cargs hh hsz hrel => ?_⟩;have h0 := hrel 0 _ rfl;obtain ⟨l⟩ := cargs
 match l, hsz with
 | [c], _ =>
   have h0 : LRel w I G [] (.pv .nilm) c := h0;cases h0 with
   | pv _ _ h =>
     cases h;refine (AnyW.maps_Clone_nil Try.cloneM w).mono ?_;rintro e w' ⟨rfl, rfl⟩;exact ⟨_, _, _, I, G, rfl, ⟨rfl, rfl⟩, hh, .pv _ _ .nilm, TrH.refl _ _ _ _⟩
theorem PCall.acall {P : Program} {f : Nat} {ps : List PV} {Q : PV -> Prop} (hc : PCall P f ps Q) : ACall P f (ps.map .pv) [] fun r h' => ∃ v, r = .pv v /\ h' = [] /\ Q v :=
 ⟨hc.1, fun w I G cargs h1 h2 h3 => (hc.2 w I G cargs h1 h2 h3).mono fun e w' ⟨cv, r, h', I', G', e1, ⟨v, hr, hq⟩, e3, e4, e5⟩ => by
  subst hr;refine ⟨cv, .pv v, [], I', G', e1, ⟨v, rfl, rfl, hq⟩, HRel.nil G' e3.cl, ?_, ⟨e5.t.trans (Tr.less fun b ⟨o, ob, ho, _⟩ => by simp at ho), qe _, fun o ob' ho => by simp at ho⟩⟩
  cases e4 with | pv _ _ h => exact .pv _ _ h⟩
abbrev GE := Bool × Bool × List GS
def BTx (B : GB) : Prop := ∀ p ∈ B, ∀ x ∈ p.2.2.2, bP x.2.2.key
theorem p9 {nm : Int} {y : GE} : ∀ {B : GB} {p : Int × GE}, p ∈ aM nm y B -> p = (nm, y) ∨ p ∈ B
 | [], p, h => by simp [aM] at h; exact .inl h
 | (k, z) :: r, p, h => by
   simp only [aM] at h;split at h
   ·rcases List.mem_cons.1 h with h | h
    ·exact .inl h
    ·exact .inr (qf _ h)
   ·rcases List.mem_cons.1 h with h | h
    ·exact .inr (by rw [h]; exact qj)
    ·exact (p9 h).imp id (qf _)
theorem vO {nm : Int} {y : GE} : ∀ {B : GB}, aT nm B = some y -> (nm, y) ∈ B
 | (k, z) :: r, h => by
   simp only [aT] at h;split at h
   ·rename_i e; cases h; rw [e]; exact qj
   ·exact qf _ (vO h)
theorem BkOK.set {B : GB} {nm : Int} {y : GE} (hB : BkOK B) (hy : y.2.2.length <= 1000) : BkOK (aM nm y B) := fun p hp => (p9 hp).elim (fun e => by rw [e]; exact hy) (hB p)
theorem BTx.set {B : GB} {nm : Int} {y : GE} (hB : BTx B) (hy : ∀ x ∈ y.2.2, bP x.2.2.key) : BTx (aM nm y B) := fun p hp => (p9 hp).elim (fun e => by rw [e]; exact hy) (hB p)
theorem qA {α β : Type} {f : α -> β} {P : β -> Prop} {l m : List α} (h : l.map f = m.map f) (hm : ∀ x ∈ m, P (f x)) : ∀ x ∈ l, P (f x) := fun x hx => by
 have : f x ∈ m.map f := h ▸ qan hx;obtain ⟨y, hy, e⟩ := List.mem_map.1 this;rw [<- e]; exact hm y hy
theorem mU (B : GB) (nm : Int) (n f : Bool) (L : List GS) (hl : L.length <= 1000) (hk : ∀ x ∈ L, bP x.2.2.key) (hf : (aT nm B).isSome = true ∨ B.length ≠ 100) : PCall qc 7 [.agg [.mp (aN B)], .int .i32 nm, .sl n f (L.map encGS)] fun v =>
 ∃ y : GE, v = .tup [.agg [.mp (aN (aM nm y B))], .int .i64 0] /\ y.2.2.map (·.2.2) = L.map (·.2.2) := by
 refine pZ _ _ _ _ _ ?_;unfold mT;have ll : (L.map encGS).length = L.length := qg _;have lb : (aN B).length = B.length := uQ B;rw [ll, lb]
 have rest : ACall qc 23 [LV.pv (PV.mp (aN B))] [] fun (r : LV) (h' : Hp) => ∃ (t : Unit), (r = LV.mp 0 /\ h' = [Ob.mp (aN B)]) /\ True /\ PCall qc 24 [PV.sl n f (L.map encGS)] fun (v1 : PV) => ∃ (n2 : Bool), ∃ (f2 : Bool), ∃ (es2 : List (List PV)), v1 = PV.sl n2
  f2 es2 /\ fN .i32 (aN B) /\ ∃ y : GE, PV.tup [PV.agg [PV.mp (c8 (.int .i32 nm) (PV.sl n2 f2 es2) (aN B))], .int .i64 0] = .tup [.agg [.mp (aN (aM nm y B))], .int .i64 0] /\ y.2.2.map (·.2.2) = L.map (·.2.2) := by
  refine (zcr _).mono ?_;rintro r h' ⟨rfl, rfl⟩;refine ⟨(), ⟨rfl, rfl⟩, trivial, (vN n f L (by omega) hk).mono ?_⟩;rintro _ ⟨n2, f2, L', rfl, hL⟩;refine ⟨n2, f2, _, rfl, kE _, (n2, f2, L'), ?_, hL⟩;rw [show c8 (.int .i32 nm) (PV.sl n2 f2 (L'.map encGS)) (aN B) = aN (aM nm (n2, f2, L') B) from za3 (ek := fun n => .int .i32 n) (ev := fun (x : GE) => .sl x.1 x.2.1 (x.2.2.map encGS)) (fun a b => uR _ a b) nm (n2, f2, L') B]
 refine ⟨kE _, fun v hv => ?_, fun hv => ?_⟩
 ·rw [iT] at hv;cases hy : aT nm B with
  | none => rw [hy] at hv; cases hv
  | some y =>
    rw [hy] at hv; cases hv;exact ⟨_, _, _, rfl, b7 (by simp only [aW]; omega) rest⟩
 ·rw [iT] at hv;cases hy : aT nm B with
  | some y => rw [hy] at hv; cases hv
  | none =>
    rw [hy] at hf;have hne : B.length ≠ 100 := hf.resolve_left (by simp);exact b7 (by simp only [aW]; omega) (b7 (by simp only [beq_iff_eq]; omega) rest)
theorem vP (nm : Int) (n f : Bool) (L : List GS) (hl : L.length <= 1000) (hk : ∀ x ∈ L, bP x.2.2.key) : PCall qc 7 [.agg [.nilm], .int .i32 nm, .sl n f (L.map encGS)] fun v =>
 ∃ y : GE, v = .tup [.agg [.mp (aN (aM nm y []))], .int .i64 0] /\ y.2.2.map (·.2.2) = L.map (·.2.2) := by
 refine zci _ _ _ _ ?_;unfold vH;have ll : (L.map encGS).length = L.length := qg _;rw [ll];refine ⟨(fun kv h => by cases h), ?_⟩;refine ⟨fun v hv => (by cases hv), fun _ => ?_⟩;refine b7 (by simp only [aW]; omega) (aCloneN.mono ?_);rintro r h' ⟨rfl, rfl⟩;refine ⟨(), ⟨rfl, rfl⟩, trivial, (vN n f L (by omega) hk).mono ?_⟩;rintro _ ⟨n2, f2, L', rfl, hL⟩;exact ⟨n2, f2, _, rfl, (fun kv h => by cases h), (n2, f2, L'), rfl, hL⟩
theorem qB {P : MKey -> Prop} {f : Int -> MW -> Except Int MW} (hf : ∀ nm w w', f nm w = .ok w' -> (∀ k ∈ w.1, P k) -> ∀ k ∈ w'.1, P k) : ∀ {l : List MStep} {w w' : MW}, (∀ x ∈ l, P x.key) -> (∀ k ∈ w.1, P k) -> cF f l w = .ok w' -> ∀ k ∈ w'.1, P k
 | [], w, w', _, hw, h => by cases h; exact hw
 | x :: l, w, w', hl, hw, h => by
   rw [vA] at h;split at h
   ·cases h
   ·split at h
    ·split at h
     ·rename_i w2 h2;exact qB hf (fun y hy => hl y (qf _ hy)) (hf _ _ _ h2 hw) h
     ·cases h
    ·refine qB hf (fun y hy => hl y (qf _ hy)) (fun k hk => ?_) h;rcases List.mem_append.1 hk with hk | hk
     ·exact hw k hk
     ·rw [List.mem_singleton.1 hk]; exact hl x qj
theorem vQ {P : MKey -> Prop} {b : Bk} (hb : ∀ nm l, bF b nm = some l -> ∀ x ∈ l, P x.key) : ∀ (d : Nat) (op : List Int) (nm : Int) (w w' : MW), bL b d op nm w = .ok w' -> (∀ k ∈ w.1, P k) -> ∀ k ∈ w'.1, P k
 | 0, op, nm, w, w', h, hw => by cases h
 | d + 1, op, nm, w, w', h, hw => by
   rw [bL] at h;split at h
   ·cases h
   ·rename_i l hl;split at h
    ·cases h
    ·exact qB (fun nm w w' h hw => vQ hb d _ nm w w' h hw) (hb nm l hl) hw h
theorem BTx.find {B : GB} (hB : BTx B) (nm : Int) (l : List MStep) (h : bF (aS B) nm = some l) : ∀ x ∈ l, bP x.key := by
 rw [eE] at h;cases hy : aT nm B with
 | none => rw [hy] at h; cases h
 | some y =>
   rw [hy] at h; cases h;intro x hx;obtain ⟨z, hz, rfl⟩ := List.mem_map.1 hx;exact hB _ (vO hy) z hz
def vR : Except Int MW -> Int -> List GKey -> Prop
 | .ok w, r, Q => r = 0 /\ Q.map (·.2.2) = w.1
 | .error e, r, Q => r = e /\ e ≠ 0 /\ Q = []
def eG (b : Bk) (nm : Int) : Except Int MW := bL b (b.length + 1) [] nm ([], 0)
theorem zcs (q : GKey) (n f : Bool) : bH (bO q) 3 [PV.sl n f (aI q.2.2.text)] = bO (n, f, q.2.2) := rfl
theorem vS {B : GB} (hB : BkOK B) (hT : BTx B) (nm : Int) : PCall qc 8 [.agg [.mp (aN B)], .int .i32 nm] fun v => ∃ (n f : Bool) (Q : List GKey) (r : Int), v = .tup [.sl n f (Q.map bO), .int .i64 r] /\ vR (eG (aS B) nm) r Q := by
 refine zcd _ _ (fun x y _ _ s => ∃ (i : Nat) (Q : List GKey), x = Q.length /\ y = i /\ i <= Q.length /\ s = Q.map bO /\ Q.length < 100000 /\ (∀ q ∈ Q, bP q.2.2) /\ vR (eG (aS B) nm) 0 Q) (fun x y _ _ _ => (x - y).toNat) ?_;unfold vD;refine (zcf hB nm).mono ?_;rintro r h' ⟨⟨r0, nl, T⟩, ⟨rfl, rfl⟩, n', Q, hT', hres⟩;dsimp only at hT' hres;subst hT';refine ⟨(r0, nl, Q.map bO), ⟨rfl, rfl⟩, ⟨trivial, trivial, trivial⟩, ?_⟩;have hlen : (aS B).length = B.length := by simp [aS]
 have hX : bL (aS B) (B.length + 1) [] nm ([], 0) = eG (aS B) nm := by unfold eG; rw [hlen]
 rw [hX] at hres;have hlq : (Q.map bO).length = Q.length := qg _;dsimp only;cases hx : eG (aS B) nm with
 | error e =>
   rw [hx] at hres;obtain ⟨rfl, he⟩ := hres;exact iQ (by simpa using he) ⟨true, true, [], _, rfl, rfl, he, rfl⟩
 | ok w =>
   rw [hx] at hres;obtain ⟨rfl, rfl, h1, h2, h3⟩ := hres;rw [if_neg (by simp), hlq]
   have hkq : ∀ q ∈ Q, bP q.2.2 := fun q hq => by
    refine vQ (P := bP) hT.find _ _ _ _ w hx (by simp) q.2.2 ?_;rw [<- h1]; exact qan hq
   refine ⟨⟨rfl, 0, Q, rfl, rfl, qx _, rfl, by omega, hkq, rfl, h1⟩, ?_⟩;rintro _ _ _ nn _ ⟨i, K, rfl, rfl, hi, rfl, hK, hKT, hKr⟩;refine aH (fun hc => ?_) (fun hc => ⟨_, _, K, 0, rfl, hKr⟩);simp only [aW] at hc;have h1 : i < K.length := by omega
   have ix : aB (K.map bO) (i : Int) 4 := fW (l := K) p8 (by omega) (by omega);rw [qm, fV h1, iU (by omega)];refine ⟨ix, _, _, _, rfl, (p7 _ _ _ (by have := hKT _ (qaf h1); unfold bP at this; omega)).mono ?_⟩;rintro _ ⟨n1, f1, rfl⟩
   have hm : (K.set i (n1, f1, K[i].2.2)).map (·.2.2) = K.map (·.2.2) := by
    rw [qas];have e : K[i].2.2 = (K.map (·.2.2))[i]'(by simpa using h1) := by simp
    show (K.map (·.2.2)).set i K[i].2.2 = _;rw [e];exact List.set_getElem_self _
   refine ⟨_, _, _, rfl, ix, ⟨rfl, qe 4⟩, ?_⟩;rw [zcs, <- qas];refine ⟨rfl, ⟨i + 1, _, by simp, rfl, by rw [qaz]; omega, rfl, by simpa using hK, qA hm hKT, ?_⟩, by omega⟩
   exact ⟨rfl, hm.trans hKr.2⟩
section
variable {W0 : World} {I0 : Nat -> Prop} {o0 : Nat -> Prop} {P0 : Pl} {rec : Loop}
def qC (W0 : World) (I0 : Nat -> Prop) (o0 : Nat -> Prop) (P0 : Pl) (rec : Loop) : Prop := ∀ {s : List Int}, s.length < 1000000 -> ∀ {w : World} {I : Nat -> Prop} {G : Nat -> Pl} {h : Hp}, SeqZ W0 I0 o0 P0 rec s w I G h -> ∀ x : Int,
 ∃ fn tmps assign body, (Instr.yield (W0.heap.size + 1) #[.int .i32 x]).run qc w = .ok (.round (W0.heap.size + 1) fn tmps assign body) w /\ RoundIn Fence.wide 0 qc (W0.heap.size + 1) fn tmps assign body w fun e w' =>
  e = .returned (.bool true) /\ ∃ I', HRel w' I' G h /\ Keeps w I w' I' /\ SeqZ W0 I0 o0 P0 rec (s ++ [x]) w' I' G h
abbrev yS (W0 : World) : Value := .func (.yield (W0.heap.size + 1)) #[] #[]
theorem zct (hR : qC W0 I0 o0 P0 rec) {s : List Int} (hl : s.length < 1000000) {k : Int} {h : Hp} {Q : List Int -> Qt} (hK : Q (s ++ [k]) .normal [(13, .pv (.bool false)), (12, .pv (.bool true)), (0, .pv (.raw (yS W0))), (5, .it 1)] h) :
 CodeY (SeqZ W0 I0 o0 P0 rec) qc 14 (.region 3 (cG Try.f35) false) s [(0, .pv (.raw (yS W0))), (3, .pv (.int .i32 k)), (5, .it 1)] h Q := by
 intro w I G a Qx hs hz hq;obtain ⟨_, _, _, _, _, _, d3⟩ := pU;obtain ⟨p1, p2, p3, p4, p5⟩ := zca
 refine mN (Φ := fun a' w' => ∃ I' G', SRel w' I' G' [(13, .pv (.bool false)), (12, .pv (.bool true)), (0, .pv (.raw (yS W0))), (5, .it 1)] h 14 a' /\ a'.defers = a.defers /\ SeqZ W0 I0 o0 P0 rec (s ++ [k]) w' I' G' h) ?_
  (fun a' w' ⟨I', G', q1, q2, q3⟩ => hq (s ++ [k]) .normal _ _ w' I' G' a' hK q1 q2 q3)
 refine OpsN.step d3 2 (by rw [p5]; omega) (by rw [qK3]; exact ⟨rfl, rfl⟩ : aU qc (fun _ => none) 14 _ _ _ _ (fun e' h' => e' = _ /\ h' = _)) hs ?_;rintro _ h w1 I1 G1 a1 ⟨rfl, rfl⟩ hs1 hd1 ht1;have hz1 := SeqZ.stab (n0 := 0) _ _ _ _ _ _ _ _ _ hz hs.hh hs1.hh ht1.toN;have v10 : a1.eval (.tmp 10) = yS W0 := mS (hs1.he 10 _ rfl);have v11 : a1.eval (.tmp 11) = .int .i32 k := (hs1.he 11 _ rfl : LRel w1 I1 G1 _ (.pv (.int .i32 k)) _).int_eq;obtain ⟨fn, tmps, assign, body, hy, hRd⟩ := hR hl hz1 k
 have hrun : (execOp a1.eval ((cG Try.f35).toList.getD 2 default)).run qc w1 = .ok (.round (W0.heap.size + 1) fn tmps assign body) w1 := by
  unfold execOp;rw [p4]
  have hres : resolve a1.eval { callee := .value (.tmp 10), args := #[.tmp 11], argTypes := #[21] } ((cG Try.f35).toList.getD 2 default).type = pure { target := .fn (.yield (W0.heap.size + 1)) #[], args := #[.int .i32 k] } := by
   simp [resolve, v10, v11, Deferred.ofValue]
  simp only [hres, pure_bind];exact hy
 refine OpsN.one p1 p3 ⟨fun _ _ => trivial, ?_⟩;show Oper.uponIn (wd none) 0 qc _ a1 _ _ ((((cG Try.f35).toList.getD 2 default).semAt none a1.eval).run qc w1);rw [Oper.semAt_none, hrun];refine ⟨(fun x => by cases x), hRd.mono ?_⟩;rintro e w2 ⟨rfl, I2, h2, k2, z2⟩;obtain ⟨hs2, hd2⟩ := fA (o := (cG Try.f35).toList.getD 2 default) (v := .pv (.bool true)) (N := 14) (by unfold dG; rw [p2]; rfl) hs1.hn h2 (hs1.he.mono k2 (.refl _ _)) (.pv _ _ (.bool true));have hs2 : SRel w2 I2 G1 [(12, .pv (.bool true)), (0, .pv (.raw (yS W0))), (5, .it 1)] h 14 _ := hs2.le (LeE.le (by unfold put; rw [p2]; exact ⟨rfl, rfl, rfl, trivial⟩));refine OpsN.step d3 1 (by rw [p5]; exact qe _) (by rw [zb8]; exact ⟨rfl, rfl⟩ : aU qc (fun _ => none) 14 _ _ _ _ (fun e' h' => e' = _ /\ h' = _)) hs2 ?_;rintro _ h w3 I3 G3 a3 ⟨rfl, rfl⟩ hs3 hd3 ht3;exact OpsN.last (by rw [p5]; exact qe _) ⟨I3, G3, hs3, hd3.trans (hd2.trans hd1), SeqZ.stab (n0 := 0) _ _ _ _ _ _ _ _ _ z2 hs2.hh hs3.hh ht3.toN⟩
theorem zcu (hR : qC W0 I0 o0 P0 rec) (B : GB) (hB : B.length <= 1000) : CodeY (SeqZ W0 I0 o0 P0 rec) qc 14 (mM Try.f35) [] (cL [.pv (.raw (yS W0)), .box 0 0] 0) [.box [.pv (.mp (aN B))]] fun s x e h => x = .normal /\ s.Perm (B.map (·.1)) := by
 rw [zb9];refine CodeY.seq (CodeY.awE (n0 := 1) SeqZ.stab (qK0 _) ?_);show CodeY (SeqZ W0 I0 o0 P0 rec) qc 14 (.block 0 (.loop _)) [] (eK (yS W0)) (fY (aN B) (aN B) none) _;refine CodeY.block (CodeY.loop (σ := List Int × GB × Option (PV × PV)) (fun u => (eK (yS W0), fY (aN B) (aN u.2.1) u.2.2)) (fun u => u.1) (fun u => (u.1 ++ u.2.1.map (·.1)).Perm (B.map (·.1))) (fun u => u.2.1.length) ([], B, none) ⟨rfl, rfl, trivial⟩ rfl rfl (List.Perm.refl _) ?_);rintro ⟨s, M, cur⟩ hJ;have hlen := hJ.length_eq;simp only [qq, qg] at hlen;dsimp only at hJ ⊢;refine CodeY.seq (CodeY.awE (n0 := 1) SeqZ.stab (qK1 _) ⟨fun hM => ?_, fun j k v hj => ?_⟩)
 ·have hM : M = [] := List.map_eq_nil_iff.1 hM;subst hM;refine CodeY.seq (CodeY.cond (t := false) rfl ?_);rw [if_neg qat];exact CodeY.exit ⟨rfl, by simpa using hJ⟩
 ·obtain ⟨hj', rfl, rfl, hp, he⟩ := za5 hj;refine ⟨_, rfl, _, _, _, rfl, ?_⟩;refine CodeY.seq (CodeY.cond (t := true) rfl ?_);rw [if_pos rfl];refine CodeY.skip ?_;rw [show (aN M).eraseIdx j = aN (M.eraseIdx j) from he];refine CodeY.le (e' := eK (yS W0)) ⟨rfl, rfl, trivial⟩ (CodeY.block (CodeY.seq (CodeY.awE (n0 := 1) SeqZ.stab (qK2 _ _) ⟨_, rfl, _, _, _, rfl, ?_⟩)));refine CodeY.seq (zct hR (by omega) ?_);refine CodeY.cond (t := false) rfl ?_;rw [if_neg qat];refine CodeY.skip ⟨(s ++ [M[j].1], M.eraseIdx j, _), ⟨rfl, rfl, trivial⟩, rfl, rfl, ?_, ?_⟩
  ·have h2 := hp.map (fun p : Int × GE => p.1);simp only [qy] at h2;refine List.Perm.trans ?_ hJ;rw [List.append_assoc];exact (List.Perm.refl s).append h2
  ·have := List.length_eraseIdx_of_lt hj';dsimp only; omega
end
theorem qD {P : Program} {n0 N : Nat} {c : Code} {e E : Env} {h Hh : Hp} (hS : CodeS P n0 N c e h fun x e' h' => x = .normal /\ e' = E /\ h' = Hh) {w : World} {I : Nat -> Prop} {G : Nat -> Pl} {a : Act} (hs : SRel w I G e h N a) {Q : Exit -> Act -> World -> Prop}
 (hq : ∀ w' I' G' a', SRel w' I' G' E Hh N a' -> a'.defers = a.defers -> TrN n0 w I G h w' I' G' Hh -> Q .normal a' w') : c.wp P Q a w :=
 hS w I G a Q hs fun x e' h' w' I' G' a' hk hs' hd ht => by obtain ⟨rfl, rfl, rfl⟩ := hk; exact hq w' I' G' a' hs' hd ht
theorem vT : Try.f36.body = some (mM Try.f36) /\ Try.f36.ntmps = 13 /\ Try.f36.results = #[.tmp 4] /\ Try.f36.body.isNone = false /\ (Try.f36.name == "runtime.NumGoroutine") = false /\ Try.f35.body = some (mM Try.f35) /\ Try.f35.ntmps = 14 /\ Try.f35.results = #[] /\ Try.f35.body.isNone = false /\ (Try.f35.name == "runtime.NumGoroutine") = false :=
 ⟨by kernel_rfl, by kernel_rfl, by kernel_rfl, by kernel_rfl, by kernel_rfl, by kernel_rfl, by kernel_rfl, by kernel_rfl, by kernel_rfl, by kernel_rfl⟩
abbrev dN (B : GB) : Hp := [.box [.pv (.mp (aN B))], .box [.pv (.sl true true [])]]
theorem zcv (B : GB) (hB : B.length <= 1000) {w3 : World} {I3 : Nat -> Prop} {G3 : Nat -> Pl} {a3 : Act} (hs3 : SRel w3 I3 G3 [(2, .box 1 0), (6, .fn 35 [.box 0 0])] (dN B) 13 a3) (rec : Loop) (r1 : rec.state = .ready) (r2 : rec.pending = none) (r3 : rec.tmps = a3.tmps) (r4 : rec.params = #[7])
 (r5 : rec.assign = sAs (cT Try.f36)) (r6 : rec.body = sBd (cT Try.f36)) (vs : Array Value) (hvsz : vs.size = 1) (hvs : LRel w3 I3 G3 (dN B) (.box 0 0) (vs.getD 0 undef)) :
 Calls qc 35 (#[yS w3] ++ vs) ((w3.alloc (.deferred (some []))).alloc (.loop rec)) fun e w4 => (∃ v, e = .returned v) /\ ∃ s I4 G4 h4, s.Perm (B.map (·.1)) /\ HRel w4 I4 G4 h4 /\ SeqZ w3 I3 (aD (dN B) G3) (G3 1) rec s w4 I4 G4 h4 := by
 obtain ⟨k1, k2, k3, k4, k5, k6, k7, k8, k9, k10⟩ := vT;obtain ⟨W1, hW1⟩ : ∃ W1, W1 = (w3.alloc (.deferred (some []))).alloc (.loop rec) := ⟨_, rfl⟩;rw [<- hW1];have ka : KA w3 W1 := by rw [hW1]; exact (KA.alloc1 _ _).trans (KA.alloc1 _ _)
 have tA : ∀ own : Nat -> Prop, Tr w3 I3 own W1 I3 own := fun own => by rw [hW1]; exact (Tr.alloc1 _).trans (Tr.alloc1 _)
 have hl1 : W1.heap[w3.heap.size + 1]? = some (.loop rec) := by rw [hW1]; have := World.alloc_heap_new (w3.alloc (.deferred (some []))) (.loop rec); rwa [World.size_alloc] at this
 have hD1 : W1.heap[w3.heap.size]? = some (.deferred (some [])) := by rw [hW1]; exact (bG _ _ (by simp)).trans (World.alloc_heap_new w3 _)
 -- the two families
 obtain ⟨G2, hG2⟩ : ∃ G2 : Nat -> Pl, G2 = fun o => if o = 0 then G3 1 else ⟨0, 0, 0, 0⟩ := ⟨_, rfl⟩;have g20 : G2 0 = G3 1 := by rw [hG2]; rfl
 have hh := hs3.hh
 have ownA : ∀ b, aD (bQ true (aI [])) G2 b -> b = (G3 1).blk := fun b ⟨o, ob, ho, ha, e⟩ => by
  match o, ho with
  | 0, ho => rw [<- e, g20]
  | 1, ho => cases ho; exact absurd ha.1 (by decide)
 have hA : HRel w3 I3 G2 (bQ true (aI [])) := by
  refine ⟨fun o ob ho => ?_, fun o o' ob ob' ho ha ho' ha' e => ?_, fun o ob ho ha => ?_, hh.cl⟩
  ·match o, ho with
   | 0, ho =>
     cases ho;obtain ⟨vs, ty, b1, b2, b3⟩ := hh.obs 1 _ rfl;rw [g20];refine ⟨vs, ty, b1, b2, fun k v hk => ?_⟩
     match k, hk with
     | 0, hk =>
       cases hk;obtain ⟨q1, q2⟩ := b3 0 _ rfl;refine ⟨?_, q2⟩;generalize vs.getD ((G3 1).off + 0) undef = u at q1;cases q1 with | pv _ _ h => cases h; exact .ownNil 1 _ _ _ rfl
   | 1, ho => cases ho; exact rfl
  ·match o, ho with
   | 0, ho =>
     match o', ho' with
     | 0, _ => rfl
     | 1, ho' => cases ho'; exact absurd ha'.1 (by decide)
   | 1, ho => cases ho; exact absurd ha.1 (by decide)
  ·rw [ownA _ ⟨o, ob, ho, ha, rfl⟩]; exact hh.nI 1 _ rfl trivial
 have hM : HRel w3 I3 G3 [.box [.pv (.mp (aN B))]] := by
  refine ⟨fun o ob ho => ?_, fun o o' ob ob' ho ha ho' ha' e => ?_, fun o ob ho ha => ?_, hh.cl⟩
  ·match o, ho with
   | 0, ho =>
     cases ho;obtain ⟨vs, ty, b1, b2, b3⟩ := hh.obs 0 _ rfl;refine ⟨vs, ty, b1, b2, fun k v hk => ?_⟩
     match k, hk with
     | 0, hk =>
       cases hk;obtain ⟨q1, q2⟩ := b3 0 _ rfl;refine ⟨?_, q2⟩;cases q1 with | pv _ _ h => exact .pv _ _ h
  ·match o, ho, o', ho' with
   | 0, _, 0, _ => rfl
  ·match o, ho with
   | 0, ho => exact hh.nI 0 _ rfl trivial
 have hne : (G3 0).blk ≠ (G3 1).blk := fun e => absurd (hh.sep 0 1 _ _ rfl trivial rfl trivial e) (by decide)
 have ownM : ∀ b, aD [Ob.box [.pv (.mp (aN B))]] G3 b -> b = (G3 0).blk := fun b ⟨o, ob, ho, ha, e⟩ => by
  match o, ho with
  | 0, ho => exact e.symm
 have two : Two W1 I3 G3 [.box [.pv (.mp (aN B))]] G2 (bQ true (aI [])) := ⟨hM.ka ka, hA.ka ka, fun b x y => hne ((ownM b x).symm.trans (ownA b y))⟩
 have z1 : SeqZ w3 I3 (aD (dN B) G3) (G3 1) rec [] W1 I3 G3 [.box [.pv (.mp (aN B))]] :=
  ⟨G2, true, (tA _).trans (Tr.less fun b hb => hb.elim (fun x => ⟨0, _, rfl, trivial, (ownM b x).symm⟩) fun x => ⟨1, _, rfl, trivial, (ownA b x).symm⟩), two, g20, hl1, hD1, fun h => by have := hh.cl _ h; omega, fun h => by have := hh.cl _ h; omega⟩
 have h2 : a3.tmps.getD 2 undef = .pointer (some ⟨(G3 1).blk, (G3 1).off + 0, none⟩) := by
  have : LRel w3 I3 G3 (dN B) (.box 1 0) (a3.tmps.getD 2 undef) := hs3.he 2 _ rfl;generalize a3.tmps.getD 2 undef = u at this;cases this with
  | box _ _ _ _ => rfl
  | arr _ _ _ h => cases h
 have hR : qC w3 I3 (aD (dN B) G3) (G3 1) rec := fun {s} hs {w} {I} {G} {h} hz x => zcb hs3.hn h2 r1 r2 r3 r4 r5 r6 hs hz x
 obtain ⟨x0, rfl⟩ : ∃ x0, vs = #[x0] := by
  obtain ⟨l⟩ := vs
  match l, hvsz with
  | [a], _ => exact ⟨a, rfl⟩
 have hvs : LRel w3 I3 G3 (dN B) (.box 0 0) x0 := hvs
 have hsW : SRel W1 I3 G3 (cL [.pv (.raw (yS w3)), .box 0 0] 0) [.box [.pv (.mp (aN B))]] 14 { tmps := (#[yS w3] ++ #[x0]) ++ ql (14 - (#[yS w3] ++ #[x0]).size) undef, defers := [] } := by
  have e0 : ∀ r : Array Value, (#[yS w3] ++ #[x0] ++ r).getD 0 undef = yS w3 := fun r => by rw [qd, qn (by simp)]; rfl
  have e1 : ∀ r : Array Value, (#[yS w3] ++ #[x0] ++ r).getD 1 undef = x0 := fun r => by rw [qd, qn (by simp)]; rfl
  refine ⟨two.a, ?_, by simp⟩
  have hx : LRel W1 I3 G3 [.box [.pv (.mp (aN B))]] (.box 0 0) x0 := by
   cases hvs with
   | box _ _ _ _ => exact .box 0 0 _ rfl
   | arr _ _ _ h => cases h
  have he : ERel W1 I3 G3 [.box [.pv (.mp (aN B))]] [(0, .pv (.raw (yS w3))), (1, .box 0 0)] (#[yS w3] ++ #[x0] ++ ql (14 - (#[yS w3] ++ #[x0]).size) undef) :=
   ((ERel.nil _ _ _ _ _).cons (s := 1) (v := .box 0 0) (by rw [e1]; exact hx)).cons (s := 0) (v := .pv (.raw (yS w3))) (by rw [e0]; exact .pv _ _ (.raw _))
  exact he
 refine calls_of_wp Try.func35 k6 ?_;rw [k7];refine zcu hR B hB W1 I3 G3 _ _ hsW z1 ?_;rintro s x e' h4 w4 I4 G4 a4 ⟨rfl, hp⟩ hs4 hd4 z4;exact ⟨hd4, _, results_none k8 _ _ _, ⟨_, rfl⟩, s, I4, G4, h4, hp, hs4.hh, z4⟩
theorem zcw (B : GB) (hB : B.length <= 1000) : ACall qc 36 [.pv (.sl true true []), .fn 35 [.box 0 0]] [.box [.pv (.mp (aN B))]] fun r h' => ∃ t : Bool × List (List PV), (r = .own 1 /\ h' = [.dead, .sl (21, 1) true t.1 t.2]) /\ ∃ s : List Int, t.2 = aI s /\ s.Perm (B.map (·.1)) := by
 obtain ⟨k1, k2, k3, k4, k5, k6, k7, k8, k9, k10⟩ := vT;obtain ⟨q1, q2, _⟩ := pU;refine ⟨⟨_, Try.func36, k4, k5⟩, fun w I G cargs hh hsz hrel => ?_⟩;simp only [qh, qah] at hsz;refine (callsIn_wide (n := 0)).1 (callsIn_of_wp_marks Try.func36 k1 trivial (wpIn_wide.2 ?_));rw [k2]
 have hs : SRel w I G (cL [.pv (.sl true true []), .fn 35 [.box 0 0]] 0) [.box [.pv (.mp (aN B))]] 13 { tmps := cargs ++ ql (13 - cargs.size) undef, defers := [] } := by
  refine ⟨hh, fun i v hi => ?_, by simp; omega⟩;obtain ⟨_, h2⟩ := j9 hi;rw [Nat.sub_zero] at h2;have hlt : i < cargs.size := by have := (List.getElem?_eq_some_iff.1 h2).1; simp at this; omega
  have := hrel i v h2
  have e1 : (cargs ++ ql (13 - cargs.size) undef).getD i undef = cargs.getD i undef := by
   rw [qd, qd, qn hlt]
  simp only [e1];exact VRel.of_plain this
 rw [q1];refine wp_seq (qD (E := [(1, .fn 35 [.box 0 0]), (2, .box 1 0)]) (Hh := dN B) (n0 := 1) (iO (Eq.mpr (qS0 _) ⟨rfl, rfl, rfl⟩)) hs fun w1 I1 G1 a1 hs1 hd1 ht1 => ?_);refine wp_seq (wp_seq (qD (E := [(2, .box 1 0), (6, .fn 35 [.box 0 0])]) (Hh := dN B) (n0 := 1) (iO (Eq.mpr (qS1 _) ⟨rfl, rfl, rfl⟩)) hs1 fun w3 I3 G3 a3 hs3 hd3 ht3 => ?_));have hd30 : a3.defers = [] := hd3.trans hd1;refine wp_block ?_;rw [q2]
 obtain ⟨vs, hv6, hvsz, hvs⟩ : ∃ vs : Array Value, a3.tmps.getD 6 undef = .func (.func 35) #[] vs /\ vs.size = 1 /\ LRel w3 I3 G3 (dN B) (.box 0 0) (vs.getD 0 undef) := by
  have := hs3.he 6 _ rfl;generalize a3.tmps.getD 6 undef = cv at this;cases this with
  | fn f cs vs h1 h6 => exact ⟨vs, rfl, h1, h6 0 _ rfl⟩
 refine (wpIn_wide (n := 0)).1 (wpIn_rangeFunc (F := Fence.wide) fun fn _ => ?_);obtain ⟨rec, hrec⟩ : ∃ rec : Loop, rec = { state := .ready, pending := none, fn := fn, tmps := a3.tmps, params := #[7], assign := sAs (cT Try.f36), body := sBd (cT Try.f36), defers := w3.heap.size } := ⟨_, rfl⟩
 refine ⟨w3.heap.size + 1, [{ target := .collected w3.heap.size, args := #[] }], (w3.alloc (.deferred (some []))).alloc (.loop rec), { target := .fn (.func 35) vs, args := #[yS w3] }, (w3.alloc (.deferred (some []))).alloc (.loop rec), 35,
  #[yS w3] ++ vs, (w3.alloc (.deferred (some []))).alloc (.loop rec), ?_, ?_, fun _ _ => trivial, ?_, fun x => (by cases x), ?_⟩
 ·rw [hrec]; exact run_enterLoop_outer _ _ _ _ _
 ·have he : a3.eval (.tmp 6) = .func (.func 35) #[] vs := hv6;simp only [resolve, he];simp [go_sem]
 ·simp only [invoke];exact sK ⟨_, Try.func35, k9, k10⟩
 refine (callsIn_wide).2 (Calls.mono (zcv B hB hs3 rec (by rw [hrec]) (by rw [hrec]) (by rw [hrec]) (by rw [hrec]) (by rw [hrec]) (by rw [hrec]) vs hvsz hvs) ?_);rintro e w4 ⟨⟨v, rfl⟩, s, I4, G4, h4, hp, hh4, G2, nl, t4, two, g0, hl, hD, n1, n2⟩;have hpn : rec.pending = none := by rw [hrec]
 refine ⟨none, _, (run_endLoop hl (by rw [hrec]; simp)).trans (congrArg (fun j => Result.ok j _) hpn), ?_⟩
 -- what follows the loop
 have two5 := two.off (.loop rec) (.loop { rec with state := .exhausted }) n1 hl rfl;have lw4 := (Array.getElem?_eq_some_iff.1 hl).1;have hD5 : (w4.putObj (w3.heap.size + 1) (.loop { rec with state := .exhausted })).heap[w3.heap.size]? = some (.deferred (some [])) := (World.putObj_heap_other (by omega)).trans hD
 have h2 : a3.tmps.getD 2 undef = .pointer (some ⟨(G3 1).blk, (G3 1).off + 0, none⟩) := by
  have : LRel w3 I3 G3 (dN B) (.box 1 0) (a3.tmps.getD 2 undef) := hs3.he 2 _ rfl;generalize a3.tmps.getD 2 undef = u at this;cases this with
  | box _ _ _ _ => rfl
  | arr _ _ _ h => cases h
 have hs5 : SRel (w4.putObj (w3.heap.size + 1) (.loop { rec with state := .exhausted })) I4 G2 [(2, .box 0 0)] (bQ nl (aI s)) 13 { tmps := a3.tmps, defers := [{ target := .collected w3.heap.size, args := #[] }] ++ a3.defers } := by
  refine ⟨two5.b, (ERel.nil _ _ _ _ _).cons (s := 2) (v := .box 0 0) ?_, hs3.hn⟩;simp only [h2];rw [<- g0]; exact .box 0 0 _ rfl
 show (Code.seq (aV (aJ (aJ (mM Try.f36)))) .ret).wp qc _ { tmps := a3.tmps, defers := [{ target := .collected w3.heap.size, args := #[] }] ++ a3.defers } _;refine wp_seq (qD (E := [(4, .own 1)]) (Hh := bQ nl (aI s)) (n0 := 1) (iO (Eq.mpr (qS4 _) ⟨rfl, rfl, rfl⟩)) hs5 fun w6 I6 G6 a6 hs6 hd6 ht6 => ?_);refine wp_ret ?_;show LeavesInM Fence.wide 0 qc _ a6.tmps _ a6.defers .returning w6;rw [hd6, hd30];have hD6 : w6.heap[w3.heap.size]? = some (.deferred (some [])) := (ht6.t.keep _ (Array.getElem?_eq_some_iff.1 hD5).1 (fD hs5.hh hD5 rfl)).trans hD5;have lD5 := (Array.getElem?_eq_some_iff.1 hD5).1;have n6 : ¬ I6 w3.heap.size := fun x => (ht6.t.i2 _ x).elim n2 fun x => x.elim (fD hs5.hh hD5 rfl) fun x => by omega
 refine ⟨by simp, .inl ⟨_, _, rfl, run_takeDeferred hD6, ?_⟩⟩;refine ⟨_, results_tmp k3 _ _ _, ?_⟩;have hh7 := hs6.hh.atOff (.deferred none) n6 (fD hs6.hh hD6 rfl);have hv7 : LRel (w6.putObj w3.heap.size (.deferred none)) I6 G6 (bQ nl (aI s)) (.own 1) (a6.tmps.getD 4 undef) := LRel.mono (hs6.he 4 _ rfl) (Keeps.atOff n6 (.deferred none)) (.refl _ _);have hs7 : SRel (w6.putObj w3.heap.size (.deferred none)) I6 G6 [(4, .own 1)] (bQ nl (aI s)) 13 a6 := ⟨hh7, (ERel.nil _ _ _ _ _).cons (s := 4) (v := .own 1) hv7, hs6.hn⟩;obtain ⟨s1, s2⟩ := hs7.sub [2, 1] [] rfl;have g2 := LRel.mapV (lW (os := [2, 1])) (Keeps.refl _ _) hv7;have tB : Tr w3 I3 (aD (dN B) G3) w6 I6 (fun b => aD (bQ nl (aI s)) G6 b ∨ aD h4 G4 b) := ((t4.atOff (l := w3.heap.size + 1) (by omega) (.loop { rec with state := .exhausted })).flip'.trans (ht6.t.beside (aD h4 G4)));have ht := ((ht1.t.trans ht3.t).trans tB).atOff (l := w3.heap.size) (qae ht1.t.size ht3.t.size) (.deferred none)
 exact ⟨_, .own 1, _, I6, _, rfl, ⟨(nl, aI s), ⟨rfl, rfl⟩, s, rfl, hp⟩, s1.hh, g2, ⟨ht.trans (Tr.less fun b hb => .inl (s2 b hb)), Nat.le_succ 1, fun o ob' ho hx hf => by
  match o, ho, hx with
  | 0, _, hx => cases hx; cases hf⟩⟩
end Go.Eng
namespace Go.Eng
open Go Go.Proofs
section
variable (kvs : List (PV × PV))
def vU (R : LV -> Hp -> Prop) : Prop :=
 R (LV.fn 35 [LV.box 0 0]) [Ob.box [LV.pv (PV.mp kvs)]]
theorem zcx {R : LV -> Hp -> Prop} (h : vU kvs R) : ACall qc 31 [.pv (.mp kvs)] [] R :=
 ACall.wz Try.func31 bZ [0, 1, 2] bU [0] h
end
section
variable (kvs : List (PV × PV))
def vV (R : LV -> Hp -> Prop) : Prop :=
 ACall qc 36 [LV.pv (PV.sl true true []), LV.fn 35 [LV.box 0 0]] [Ob.box [LV.pv (PV.mp kvs)]] fun (r : LV) (h' : Hp) => ∃ (t : Bool × LL), (r = LV.own 1 /\ h' = [Ob.dead, Ob.sl (21, 1) true t.fst t.snd]) /\ (True /\ True) /\ R (LV.own 1) [Ob.dead, Ob.sl (21, 1) true t.fst t.snd]
theorem zcy {R : LV -> Hp -> Prop} (h : vV kvs R) : ACall qc 33 [.fn 35 [.box 0 0]] [.box [.pv (.mp kvs)]] R :=
 ACall.wz Try.func33 (fun zz_ => match zz_ with | 31 => some ⟨Unit, fun vs _ _ => (.fn 35 [.box 0 0], match vs with | [.pv v] => [.box [.pv v]] | _ => []), none⟩ | 36 => some ⟨Bool × LL, fun _ _ t => (.own 1, [.dead, .sl (21, 1) true t.1 t.2]), none⟩ | 33 => some ⟨Bool × LL, fun _ _ t => (.own 1, [.dead, .sl (21, 1) true t.1 t.2]), none⟩ | 30 => some ⟨Bool × LL, fun _ _ t => (.own 1, [.dead, .sl (21, 1) true t.1 t.2]), none⟩ | 34 => some ⟨LL, fun _ hs t => (.tup [], match hs with | [.sl ty m nl _] => [.sl ty m nl t] | h => h), none⟩ | _ => none) [0, 2] bU [0, 1] h
end
section
variable (kvs : List (PV × PV))
def vW (R : LV -> Hp -> Prop) : Prop :=
 ACall qc 33 [LV.fn 35 [LV.box 0 0]] [Ob.box [LV.pv (PV.mp kvs)]] fun (r : LV) (h' : Hp) => ∃ (t : Bool × LL), (r = LV.own 1 /\ h' = [Ob.dead, Ob.sl (21, 1) true t.fst t.snd]) /\ (True /\ True) /\ ACall qc 34 [LV.own 0] [Ob.sl (21, 1) false t.fst t.snd] fun (r1 : LV) (h'1 : Hp) => ∃ (t1 : LL), (r1 = LV.tup [] /\ h'1 = [Ob.sl (21, 1) false t.fst t1]) /\ (((21, 1) = (21, (1 : Nat)) /\ t.fst = t.fst /\ t.snd.length = t1.length) /\ True) /\ R (LV.own 1) [Ob.dead, Ob.sl (21, 1) true t.fst t1]
theorem zcz {R : LV -> Hp -> Prop} (h : vW kvs R) : ACall qc 30 [.fn 35 [.box 0 0]] [.box [.pv (.mp kvs)]] R :=
 ACall.wz Try.func30 (fun zz_ => match zz_ with | 31 => some ⟨Unit, fun vs _ _ => (.fn 35 [.box 0 0], match vs with | [.pv v] => [.box [.pv v]] | _ => []), none⟩ | 36 => some ⟨Bool × LL, fun _ _ t => (.own 1, [.dead, .sl (21, 1) true t.1 t.2]), none⟩ | 33 => some ⟨Bool × LL, fun _ _ t => (.own 1, [.dead, .sl (21, 1) true t.1 t.2]), none⟩ | 30 => some ⟨Bool × LL, fun _ _ t => (.own 1, [.dead, .sl (21, 1) true t.1 t.2]), none⟩ | 34 => some ⟨LL, fun _ hs t => (.tup [], match hs with | [.sl ty m nl _] => [.sl ty m nl t] | h => h), none⟩ | _ => none) [0, 2, 3] bU [0, 1] h
end
section
variable (kvs : List (PV × PV))
def vX (R : PV -> Prop) : Prop :=
 ACall qc 31 [LV.pv (PV.mp kvs)] [] fun (r : LV) (h' : Hp) => ∃ (t : Unit), (r = LV.fn 35 [LV.box 0 0] /\ h' = [Ob.box [LV.pv (PV.mp kvs)]]) /\ True /\ ACall qc 30 [LV.fn 35 [LV.box 0 0]] [Ob.box [LV.pv (PV.mp kvs)]] fun (r1 : LV) (h'1 : Hp) => ∃ (t1 : Bool × LL), (r1 = LV.own 1 /\ h'1 = [Ob.dead, Ob.sl (21, 1) true t1.fst t1.snd]) /\ (True /\ True) /\ R (PV.sl t1.fst false t1.snd)
theorem zc0 {R : PV -> Prop} (h : vX kvs R) : PCall qc 19 [.agg [.mp kvs]] R :=
 PCall.wz Try.func19 (fun zz_ => match zz_ with | 31 => some ⟨Unit, fun vs _ _ => (.fn 35 [.box 0 0], match vs with | [.pv v] => [.box [.pv v]] | _ => []), none⟩ | 36 => some ⟨Bool × LL, fun _ _ t => (.own 1, [.dead, .sl (21, 1) true t.1 t.2]), none⟩ | 33 => some ⟨Bool × LL, fun _ _ t => (.own 1, [.dead, .sl (21, 1) true t.1 t.2]), none⟩ | 30 => some ⟨Bool × LL, fun _ _ t => (.own 1, [.dead, .sl (21, 1) true t.1 t.2]), none⟩ | 34 => some ⟨LL, fun _ hs t => (.tup [], match hs with | [.sl ty m nl _] => [.sl ty m nl t] | h => h), none⟩ | _ => none) [0, 1, 2] bU h
end
section
variable (x : Int)
def vY (R : PV -> Prop) : Prop :=
 R (Zb (x != x))
theorem zc1 {R : PV -> Prop} (h : vY x R) : PCall qc 55 [.int .i32 x] R :=
 PCall.wz Try.func55 bZ [0, 2] bU h
end
section
variable (x y : Int)
def vZ (R : PV -> Prop) : Prop :=
 PCall qc 55 [Z3 x] fun v => ∃ b, v = Zb b /\ if b = true then PCall qc 55 [Z3 y] fun v1 => ∃ b1, v1 = Zb b1 /\ R (Zb (!b1 || decide (x < y))) else R (Zb (decide (x < y)))
theorem zc2 {R : PV -> Prop} (h : vZ x y R) : PCall qc 45 [.int .i32 x, .int .i32 y] R :=
 PCall.wz Try.func45 bZ [0, 1, 4] bU h
end
section
variable (nl : Bool) (es : LL)
def v6 (R : LV -> Hp -> Prop) : Prop :=
 PCall qc 38 [PV.int .u64 (IntKind.u64.wrap (↑es.length : Int))] fun v => ∃ n, v = Z6 n /\ ACall qc 37 [LV.own 0, Y6 0, Y6 (↑es.length : Int), Y6 n] [Ob.sl (21, 1) false nl es] fun (r : LV) (h' : Hp) => ∃ (t : LL), (r = LV.tup [] /\ h' = [Ob.sl (21, 1) false nl t]) /\ (((21, 1) = (21, 1) /\ nl = nl /\ es.length = t.length) /\ True) /\ R (LV.tup []) [Ob.sl (21, 1) false nl t]
theorem zc3 {R : LV -> Hp -> Prop} (h : v6 nl es R) : ACall qc 34 [.own 0] [.sl (21, 1) false nl es] R :=
 ACall.wz Try.func34 (fun zz_ => match zz_ with | 39 => some ⟨LL, fun _ hs t => (.tup [], match hs with | [.sl ty m nl _] => [.sl ty m nl t] | h => h), none⟩ | 50 => some ⟨LL, fun _ hs t => (.tup [], match hs with | [.sl ty m nl _] => [.sl ty m nl t] | h => h), none⟩ | 40 => some ⟨LL, fun _ hs t => (.tup [], match hs with | [.sl ty m nl _] => [.sl ty m nl t] | h => h), none⟩ | 41 => some ⟨LL, fun _ hs t => (.tup [], match hs with | [.sl ty m nl _] => [.sl ty m nl t] | h => h), none⟩ | 43 => some ⟨LL, fun _ hs t => (.tup [], match hs with | [.sl ty m nl _] => [.sl ty m nl t] | h => h), none⟩ | 37 => some ⟨LL, fun _ hs t => (.tup [], match hs with | [.sl ty m nl _] => [.sl ty m nl t] | h => h), none⟩ | 44 => some ⟨Bool × LL, fun _ hs t => (.pv (.bool t.1), match hs with | [.sl ty m nl _] => [.sl ty m nl t.2] | h => h), none⟩ | 46 => some ⟨Int × LL, fun _ hs t => (.pv (.int .i64 t.1), match hs with | [.sl ty m nl _] => [.sl ty m nl t.2] | h => h), none⟩ | 47 => some ⟨Int × Bool × LL, fun _ hs t => (.pv (.tup [.int .i64 t.1, .bool t.2.1]), match hs with | [.sl ty m nl _] => [.sl ty m nl t.2.2] | h => h), none⟩ | 42 => some ⟨Int × Int, fun _ hs t => (.pv (.tup [.int .i64 t.1, .int .i64 t.2]), hs), none⟩ | 56 => some ⟨Int × Int × Int, fun _ hs t => (.pv (.tup [.int .i64 t.1, .int .i64 t.2.1]), match hs with | [s, .box _] => [s, .box [.pv (.int .i64 t.2.2)]] | h => h), none⟩ | 54 => some ⟨Int × Int, fun _ hs t => (.pv (.int .i64 t.1), match hs with | [s, .box _] => [s, .box [.pv (.int .i64 t.2)]] | h => h), none⟩ | 53 => some ⟨Int × Int, fun _ hs t => (.pv (.int .i64 t.1), match hs with | [s, .box _] => [s, .box [.pv (.int .i64 t.2)]] | h => h), none⟩ | 52 => some ⟨Int, fun _ hs t => (.pv (.int .u64 t), [.box [.pv (.int .u64 t)]]), none⟩ | _ => none) [0, 2] bU [0] h
end
def mV (nl : Bool) (a b : Int) (x6 : Int) (s_0 : LL) : Env × Hp := ([(0, LV.own 0), (1, Y6 a), (2, Y6 b), (6, Y6 x6)], [.sl (21, 1) false nl s_0])
def mW (nl : Bool) (a b : Int) (x6 x7 : Int) (s_0 : LL) : Env × Hp := ([(0, LV.own 0), (1, Y6 a), (2, Y6 b), (6, Y6 x6), (7, Y6 x7)], [.sl (21, 1) false nl s_0])
section
variable (nl : Bool) (es : LL) (a b : Int) (J : Int -> LL -> Prop) (μ : Int -> LL -> Nat) (J2 : Int -> Int -> LL -> Int -> Int -> LL -> Prop) (μ2 : Int -> Int -> LL -> Nat)
def v7 (R : LV -> Hp -> Prop) : Prop :=
 (aL (mV nl a b (i64.wrap (a + 1)) es) /\ J (i64.wrap (a + 1)) es) /\ ∀ (x6 : Int) (s_0 : LL), J x6 s_0 -> if decide (x6 < b) = true then (aL (mW nl a b x6 x6 s_0) /\ J2 x6 x6 s_0 x6 x6 s_0) /\ ∀ (x61 x7 : Int) (s_01
  : LL), J2 x6 x6 s_0 x61 x7 s_01 ->
 let V1 := aL (mV nl a b (i64.wrap (x61 + 1)) s_01) /\ J (i64.wrap (x61 + 1)) s_01 /\ μ (i64.wrap (x61 + 1)) s_01 < μ x6 s_0; if decide (x7 > a) = true then aB s_01 x7 1 /\ ∃ n, (qa 0 (s_01.getD
  x7.toNat [])).head? = some (Z3 n) /\ aB s_01 (i64.wrap (x7 - 1)) 1 /\ ∃ n1, (qa 0 (s_01.getD (i64.wrap (x7 - 1)).toNat [])).head? = some (Z3 n1) /\ PCall qc 45 [Z3 n, Z3 n1] fun v => ∃ (b1 :
  Bool), v = Zb b1 /\ if b1 = true then aB s_01 (i64.wrap (x7 - 1)) 1 /\ ∃ n2, (qa 0 (s_01.getD (i64.wrap (x7 - 1)).toNat [])).head? = some (Z3 n2) /\ aB s_01 x7 1 /\ ∃ n3, (qa 0 (s_01.getD
  x7.toNat [])).head? = some (Z3 n3) /\ aB s_01 x7 1 /\
 let V2 := (1 = 1 /\ 1 <= (s_01.getD x7.toNat []).length) /\ aB (s_01.set x7.toNat (Z3 n2 :: (qa 1 (s_01.getD x7.toNat [])))) (i64.wrap (x7 - 1)) 1 /\ (1 = 1 /\ 1 <= ((s_01.set x7.toNat (Z3 n2 :: (qa 1 (s_01.getD x7.toNat
  [])))).getD (i64.wrap (x7 - 1)).toNat []).length) /\ aL (mW nl a b x61 (i64.wrap (x7 - 1)) ((s_01.set x7.toNat (Z3 n2 :: (qa 1 (s_01.getD x7.toNat [])))).set (i64.wrap (x7 - 1)).toNat (Z3 n3 ::
  (qa 1 ((s_01.set x7.toNat (Z3 n2 :: (qa 1 (s_01.getD x7.toNat [])))).getD (i64.wrap (x7 - 1)).toNat []))))) /\ J2 x6 x6 s_0 x61 (i64.wrap (x7 - 1)) ((s_01.set x7.toNat (Z3 n2 :: (qa 1 (s_01.getD
  x7.toNat [])))).set (i64.wrap (x7 - 1)).toNat (Z3 n3 :: (qa 1 ((s_01.set x7.toNat (Z3 n2 :: (qa 1 (s_01.getD x7.toNat [])))).getD (i64.wrap (x7 - 1)).toNat [])))) /\ μ2 x61 (i64.wrap (x7 - 1))
  ((s_01.set x7.toNat (Z3 n2 :: (qa 1 (s_01.getD x7.toNat [])))).set (i64.wrap (x7 - 1)).toNat (Z3 n3 :: (qa 1 ((s_01.set x7.toNat (Z3 n2 :: (qa 1 (s_01.getD x7.toNat [])))).getD (i64.wrap (x7 -
  1)).toNat [])))) < μ2 x61 x7 s_01; V2 /\ V2 else V1 else V1 else R (LV.tup []) [Ob.sl (21, 1) false nl s_0]
theorem zc4 {R : LV -> Hp -> Prop} (h : v7 nl es a b J μ J2 μ2 R) : ACall qc 39 [.own 0, .pv (.int .i64 a), .pv (.int .i64 b)] [.sl (21, 1) false nl es] R :=
 ACall.wz Try.func39 bZ [0, 1, 2, 6, 7, 12, 30] (lkz [(1, (cM cz2 (mV nl a b) J μ (fun e h => (gI e 6, oS h 0)) [] [0, 1, 2, 6] [])), (4, (fU dJ (mW nl a b) J2 μ2 (fun e h => (gI e 6, gI e 7, oS h 0)) [] [0, 1, 2, 6, 7] []))]) [0] h
end
def qE (nl : Bool) (b c x8 : Int) (s_0 : LL) : Env × Hp := ([(0, LV.own 0), (2, Y6 b), (3, Y6 c), (8, Y6 x8)], [.sl (21, 1) false nl s_0])
section
variable (nl : Bool) (es : LL) (a b : Int) (c : Int) (J : Int -> LL -> Prop) (μ : Int -> LL -> Nat)
def v8 (R : LV -> Hp -> Prop) : Prop :=
 (aL (qE nl b c a es) /\ J a es) /\ ∀ (x8 : Int) (s_0 : LL), J x8 s_0 ->
 let K1 := fun (y0_ : Int) (y1_ : LL) => aL (qE nl b c y0_ y1_) /\ J y0_ y1_ /\ μ y0_ y1_ < μ x8 s_0; if decide (i64.wrap (i64.wrap ((2 : Int) * x8) + 1) >= b) = true then R (LV.tup []) [Ob.sl (21, 1) false nl s_0] else
 let V1 := aB s_0 (i64.wrap (c + x8)) 1 /\ ∃ n2, (qa 0 (s_0.getD (i64.wrap (c + x8)).toNat [])).head? = some (Z3 n2) /\ aB s_0 (i64.wrap (c + i64.wrap (i64.wrap ((2 : Int) * x8) +
  1))) 1 /\ ∃ n3, (qa 0 (s_0.getD (i64.wrap (c + i64.wrap (i64.wrap ((2 : Int) * x8) + 1))).toNat [])).head? = some (Z3 n3) /\ PCall qc 45 [Z3 n2, Z3 n3] fun v1 => ∃ b2, v1 = Zb b2
  /\ if (!b2) = true then R (LV.tup []) [Ob.sl (21, 1) false nl s_0] else aB s_0 (i64.wrap (c + i64.wrap (i64.wrap ((2 : Int) * x8) + 1))) 1 /\ ∃ n4, (qa 0 (s_0.getD (i64.wrap (c +
  i64.wrap (i64.wrap ((2 : Int) * x8) + 1))).toNat [])).head? = some (Z3 n4) /\ aB s_0 (i64.wrap (c + x8)) 1 /\ ∃ n5, (qa 0 (s_0.getD (i64.wrap (c + x8)).toNat [])).head? = some (Z3 n5) /\
  aB s_0 (i64.wrap (c + x8)) 1 /\
 let V2 := (1 = 1 /\ 1 <= (s_0.getD (i64.wrap (c + x8)).toNat []).length) /\ aB (s_0.set (i64.wrap (c + x8)).toNat (Z3 n4 :: (qa 1 (s_0.getD (i64.wrap (c + x8)).toNat [])))) (i64.wrap (c +
  i64.wrap (i64.wrap ((2 : Int) * x8) + 1))) 1 /\ (1 = 1 /\ 1 <= ((s_0.set (i64.wrap (c + x8)).toNat (Z3 n4 :: (qa 1 (s_0.getD (i64.wrap (c + x8)).toNat [])))).getD (i64.wrap (c +
  i64.wrap (i64.wrap ((2 : Int) * x8) + 1))).toNat []).length) /\ K1 (i64.wrap (i64.wrap ((2 : Int) * x8) + 1)) ((s_0.set (i64.wrap (c + x8)).toNat (Z3 n4 :: (qa 1 (s_0.getD (i64.wrap
  (c + x8)).toNat [])))).set (i64.wrap (c + i64.wrap (i64.wrap ((2 : Int) * x8) + 1))).toNat (Z3 n5 :: (qa 1 ((s_0.set (i64.wrap (c + x8)).toNat (Z3 n4 :: (qa 1 (s_0.getD (i64.wrap (c +
  x8)).toNat [])))).getD (i64.wrap (c + i64.wrap (i64.wrap ((2 : Int) * x8) + 1))).toNat [])))); V2 /\ V2; if decide (i64.wrap (i64.wrap (i64.wrap ((2 : Int) * x8) + 1) + 1) < b) = true then
  aB s_0 (i64.wrap (c + i64.wrap (i64.wrap ((2 : Int) * x8) + 1))) 1 /\ ∃ n, (qa 0 (s_0.getD (i64.wrap (c + i64.wrap (i64.wrap ((2 : Int) * x8) + 1))).toNat [])).head? = some
  (Z3 n) /\ aB s_0 (i64.wrap (i64.wrap (c + i64.wrap (i64.wrap ((2 : Int) * x8) + 1)) + 1)) 1 /\ ∃ n1, (qa 0 (s_0.getD (i64.wrap (i64.wrap (c + i64.wrap
  (i64.wrap ((2 : Int) * x8) + 1)) + 1)).toNat [])).head? = some (Z3 n1) /\ PCall qc 45 [Z3 n, Z3 n1] fun v => ∃ b1, v = Zb b1 /\ if b1 = true then aB s_0 (i64.wrap (c + x8)) 1 /\ ∃ (n2 : Int),
  (qa 0 (s_0.getD (i64.wrap (c + x8)).toNat [])).head? = some (Z3 n2) /\ aB s_0 (i64.wrap (c + i64.wrap (i64.wrap (i64.wrap ((2 : Int) * x8) + 1) + 1))) 1 /\ ∃ n3, (qa 0
  (s_0.getD (i64.wrap (c + i64.wrap (i64.wrap (i64.wrap ((2 : Int) * x8) + 1) + 1))).toNat [])).head? = some (Z3 n3) /\ PCall qc 45 [Z3 n2, Z3 n3] fun v1 => ∃ b2, v1 = Zb b2 /\ if (!b2) =
  true then R (LV.tup []) [Ob.sl ((21 : Nat), 1) false nl s_0] else aB s_0 (i64.wrap (c + i64.wrap (i64.wrap (i64.wrap ((2 : Int) * x8) + 1) + 1))) 1 /\ ∃ n4, (qa 0 (s_0.getD
  (i64.wrap (c + i64.wrap (i64.wrap (i64.wrap ((2 : Int) * x8) + 1) + 1))).toNat [])).head? = some (Z3 n4) /\ aB s_0 (i64.wrap (c + x8)) 1 /\ ∃ n5, (qa 0 (s_0.getD (i64.wrap
  (c + x8)).toNat [])).head? = some (Z3 n5) /\ aB s_0 (i64.wrap (c + x8)) 1 /\
 let V3 := (1 = 1 /\ 1 <= (s_0.getD (i64.wrap (c + x8)).toNat []).length) /\ aB (s_0.set (i64.wrap (c + x8)).toNat (Z3 n4 :: (qa 1 (s_0.getD (i64.wrap (c + x8)).toNat [])))) (i64.wrap (c +
  i64.wrap (i64.wrap (i64.wrap ((2 : Int) * x8) + 1) + 1))) 1 /\ (1 = (1 : Nat) /\ 1 <= ((s_0.set (i64.wrap (c + x8)).toNat (Z3 n4 :: (qa 1 (s_0.getD (i64.wrap (c + x8)).toNat [])))).getD
  (i64.wrap (c + i64.wrap (i64.wrap (i64.wrap ((2 : Int) * x8) + 1) + 1))).toNat []).length) /\ K1 (i64.wrap (i64.wrap (i64.wrap ((2 : Int) * x8) + 1) + 1)) ((s_0.set (i64.wrap
  (c + x8)).toNat (Z3 n4 :: (qa 1 (s_0.getD (i64.wrap (c + x8)).toNat [])))).set (i64.wrap (c + i64.wrap (i64.wrap (i64.wrap ((2 : Int) * x8) + 1) + 1))).toNat (Z3 n5 :: (qa 1 ((s_0.set
  (i64.wrap (c + x8)).toNat (Z3 n4 :: (qa 1 (s_0.getD (i64.wrap (c + x8)).toNat [])))).getD (i64.wrap (c + i64.wrap (i64.wrap (i64.wrap ((2 : Int) * x8) + 1) + 1))).toNat [])))); V3 /\
  V3 else V1 else V1
theorem zc5 {R : LV -> Hp -> Prop} (h : v8 nl es a b c J μ R) : ACall qc 50 [.own 0, .pv (.int .i64 a), .pv (.int .i64 b), .pv (.int .i64 c)] [.sl (21, 1) false nl es] R :=
 ACall.wz Try.func50 bZ [0, 1, 2, 3, 8, 9, 16, 36, 52] (fT 1 (cM cz2 (qE nl b c) J μ (fun e h => (gI e 8, oS h 0)) [] [0, 2, 3, 8] [])) [0] h
end
def qF (nl : Bool) (a b : Int) (x9 : Int) (s_0 : LL) : Env × Hp := ([(0, LV.own 0), (6, Y6 a), (7, Y6 0), (8, LV.pv (PV.int i64 (i64.wrap (b - a)))), (9, Y6 x9)], [.sl (21, 1) false nl s_0])
def qG (nl : Bool) (a x10 : Int) (s_0 : LL) : Env × Hp := ([(0, LV.own 0), (6, Y6 a), (7, Y6 0), (10, Y6 x10)], [.sl (21, 1) false nl s_0])
section
variable (nl : Bool) (es : LL) (a b : Int) (J : Int -> LL -> Prop) (μ : Int -> LL -> Nat) (J2 : Int -> LL -> Prop) (μ2 : Int -> LL -> Nat)
def wA (R : LV -> Hp -> Prop) : Prop :=
 (aL (qF nl a b (i64.wrap ((i64.wrap (i64.wrap (b - a) - 1)).tdiv (2 : Int))) es) /\ J (i64.wrap ((i64.wrap (i64.wrap (b - a) - 1)).tdiv (2 : Int))) es) /\ ∀ (x9 : Int) (s_0 : LL), J x9
  s_0 -> if decide (x9 >= 0) = true then ACall qc 50 [LV.own 0, Y6 x9, LV.pv (Z6 (i64.wrap (b - a))), Y6 a] [Ob.sl (21, 1) false nl s_0] fun (r : LV) (h' : Hp) => ∃ (t : LL), (r = LV.tup [] /\ h' = [Ob.sl (21, 1) false nl t]) /\
  (((21, 1) = (21, 1) /\ nl = nl /\ s_0.length = t.length) /\ True) /\ aL (qF nl a b (i64.wrap (x9 - 1)) t) /\ J (i64.wrap (x9 - 1)) t /\ μ (i64.wrap (x9 - 1)) t < μ x9 s_0 else (aL (qG nl a (i64.wrap
  (i64.wrap (b - a) - 1)) s_0) /\ J2 (i64.wrap (i64.wrap (b - a) - 1)) s_0) /\ ∀ (x10 : Int) (s_01 : LL), J2 x10 s_01 -> if decide (x10 >= 0) = true then aB s_01 (i64.wrap (a + x10)) 1 /\ ∃ (n : Int),
  (qa 0 (s_01.getD (i64.wrap (a + x10)).toNat [])).head? = some (Z3 n) /\ aB s_01 a 1 /\ ∃ n1, (qa 0 (s_01.getD a.toNat [])).head? = some (Z3 n1) /\ aB s_01 a 1 /\
 let V1 := (1 = 1 /\ 1 <= (s_01.getD a.toNat []).length) /\ aB (s_01.set a.toNat (Z3 n :: (qa 1 (s_01.getD a.toNat [])))) (i64.wrap (a + x10)) 1 /\ (1 = 1 /\ 1 <= ((s_01.set a.toNat (Z3 n :: (qa 1 (s_01.getD a.toNat
  [])))).getD (i64.wrap (a + x10)).toNat []).length) /\ ACall qc 50 [LV.own 0, Y6 0, Y6 x10, Y6 a] [Ob.sl (21, 1) false nl ((s_01.set a.toNat (Z3 n :: (qa 1 (s_01.getD a.toNat [])))).set (i64.wrap (a +
  x10)).toNat (Z3 n1 :: (qa 1 ((s_01.set a.toNat (Z3 n :: (qa 1 (s_01.getD a.toNat [])))).getD (i64.wrap (a + x10)).toNat []))))] fun (r : LV) (h' : Hp) => ∃ (t : LL), (r = LV.tup [] /\ h' = [Ob.sl ((21 : Nat), 1) false
  nl t]) /\ (((21, 1) = (21, 1) /\ nl = nl /\ ((s_01.set a.toNat (Z3 n :: (qa 1 (s_01.getD a.toNat [])))).set (i64.wrap (a + x10)).toNat (Z3 n1 :: (qa 1 ((s_01.set a.toNat (Z3 n :: (qa 1 (s_01.getD a.toNat
  [])))).getD (i64.wrap (a + x10)).toNat [])))).length = t.length) /\ True) /\ aL (qG nl a (i64.wrap (x10 - 1)) t) /\ J2 (i64.wrap (x10 - 1)) t /\ μ2 (i64.wrap (x10 - 1)) t < μ2 x10 s_01; V1 /\ V1 else R
  (LV.tup []) [Ob.sl (21, 1) false nl s_01]
theorem zc6 {R : LV -> Hp -> Prop} (h : wA nl es a b J μ J2 μ2 R) : ACall qc 40 [.own 0, .pv (.int .i64 a), .pv (.int .i64 b)] [.sl (21, 1) false nl es] R :=
 ACall.wz Try.func40 (fun zz_ => match zz_ with | 39 => some ⟨LL, fun _ hs t => (.tup [], match hs with | [.sl ty m nl _] => [.sl ty m nl t] | h => h), none⟩ | 50 => some ⟨LL, fun _ hs t => (.tup [], match hs with | [.sl ty m nl _] => [.sl ty m nl t] | h => h), none⟩ | 40 => some ⟨LL, fun _ hs t => (.tup [], match hs with | [.sl ty m nl _] => [.sl ty m nl t] | h => h), none⟩ | 41 => some ⟨LL, fun _ hs t => (.tup [], match hs with | [.sl ty m nl _] => [.sl ty m nl t] | h => h), none⟩ | 43 => some ⟨LL, fun _ hs t => (.tup [], match hs with | [.sl ty m nl _] => [.sl ty m nl t] | h => h), none⟩ | 37 => some ⟨LL, fun _ hs t => (.tup [], match hs with | [.sl ty m nl _] => [.sl ty m nl t] | h => h), none⟩ | 44 => some ⟨Bool × LL, fun _ hs t => (.pv (.bool t.1), match hs with | [.sl ty m nl _] => [.sl ty m nl t.2] | h => h), none⟩ | 46 => some ⟨Int × LL, fun _ hs t => (.pv (.int .i64 t.1), match hs with | [.sl ty m nl _] => [.sl ty m nl t.2] | h => h), none⟩ | 47 => some ⟨Int × Bool × LL, fun _ hs t => (.pv (.tup [.int .i64 t.1, .bool t.2.1]), match hs with | [.sl ty m nl _] => [.sl ty m nl t.2.2] | h => h), none⟩ | 42 => some ⟨Int × Int, fun _ hs t => (.pv (.tup [.int .i64 t.1, .int .i64 t.2]), hs), none⟩ | 56 => some ⟨Int × Int × Int, fun _ hs t => (.pv (.tup [.int .i64 t.1, .int .i64 t.2.1]), match hs with | [s, .box _] => [s, .box [.pv (.int .i64 t.2.2)]] | h => h), none⟩ | 54 => some ⟨Int × Int, fun _ hs t => (.pv (.int .i64 t.1), match hs with | [s, .box _] => [s, .box [.pv (.int .i64 t.2)]] | h => h), none⟩ | 53 => some ⟨Int × Int, fun _ hs t => (.pv (.int .i64 t.1), match hs with | [s, .box _] => [s, .box [.pv (.int .i64 t.2)]] | h => h), none⟩ | 52 => some ⟨Int, fun _ hs t => (.pv (.int .u64 t), [.box [.pv (.int .u64 t)]]), none⟩ | _ => none) [0, 1, 2, 6, 7, 8, 9, 10, 19, 30] (lkz [(4, (cM cz2 (qF nl a b) J μ (fun e h => (gI e 9, oS h 0)) [] [0, 6, 7, 8, 9] [])), (8, (cM cz2 (qG nl a) J2 μ2 (fun e h => (gI e 10, oS h 0)) [] [0, 6, 7, 10] []))]) [0] h
end
def qH (nl : Bool) (x6 x7 : Int) (s_0 : LL) : Env × Hp := ([(0, LV.own 0), (6, Y6 x6), (7, Y6 x7)], [.sl (21, 1) false nl s_0])
section
variable (nl : Bool) (es : LL) (a b : Int) (J : Int -> Int -> LL -> Prop) (μ : Int -> Int -> LL -> Nat)
def wB (R : LV -> Hp -> Prop) : Prop :=
 (aL (qH nl a (i64.wrap (b - 1)) es) /\ J a (i64.wrap (b - 1)) es) /\ ∀ (x6 x7 : Int) (s_0 : LL), J x6 x7 s_0 -> if decide (x6 < x7) = true then aB s_0 x7 1 /\ ∃ n, (qa 0 (s_0.getD x7.toNat [])).head? = some (Z3 n) /\ aB s_0 x6 1 /\ ∃ n1, (qa 0 (s_0.getD x6.toNat [])).head? = some (Z3 n1) /\ aB s_0 x6 1 /\ (1 = 1 /\ 1 <= (s_0.getD x6.toNat []).length) /\ aB (s_0.set x6.toNat (Z3 n :: (qa 1 (s_0.getD x6.toNat [])))) x7 1 /\ (1 = 1 /\ (1 : Nat) <= ((s_0.set x6.toNat (Z3 n :: (qa 1 (s_0.getD x6.toNat [])))).getD x7.toNat []).length) /\ aL (qH nl (i64.wrap (x6 + 1)) (i64.wrap (x7 - 1)) ((s_0.set x6.toNat (Z3 n :: (qa 1 (s_0.getD x6.toNat [])))).set x7.toNat (Z3 n1 :: (qa 1 ((s_0.set x6.toNat (Z3 n :: (qa 1 (s_0.getD x6.toNat [])))).getD x7.toNat []))))) /\ J (i64.wrap (x6 + 1)) (i64.wrap (x7 - 1)) ((s_0.set x6.toNat (Z3 n :: (qa 1 (s_0.getD x6.toNat [])))).set x7.toNat (Z3 n1 :: (qa 1 ((s_0.set x6.toNat (Z3 n :: (qa 1 (s_0.getD x6.toNat [])))).getD x7.toNat [])))) /\ μ (i64.wrap (x6 + 1)) (i64.wrap (x7 - 1)) ((s_0.set x6.toNat (Z3 n :: (qa 1 (s_0.getD x6.toNat [])))).set x7.toNat (Z3 n1 :: (qa 1 ((s_0.set x6.toNat (Z3 n :: (qa 1 (s_0.getD x6.toNat [])))).getD x7.toNat [])))) < μ x6 x7 s_0 else R (LV.tup []) [Ob.sl (21, (1 : Nat)) false nl s_0]
theorem zc7 {R : LV -> Hp -> Prop} (h : wB nl es a b J μ R) : ACall qc 43 [.own 0, .pv (.int .i64 a), .pv (.int .i64 b)] [.sl (21, 1) false nl es] R :=
 ACall.wz Try.func43 bZ [0, 1, 2, 6, 7, 13] (fT 2 (cM dJ (qH nl) J μ (fun e h => (gI e 6, gI e 7, oS h 0)) [] [0, 6, 7] [])) [0] h
end
section
variable (nl : Bool) (es : LL) (a b s : Int)
def wC (R : LV -> Hp -> Prop) : Prop :=
 aB es b 1 /\ ∃ n, (qa 0 (es.getD b.toNat [])).head? = some (Z3 n) /\ aB es a 1 /\ ∃ n1, (qa 0 (es.getD a.toNat [])).head? = some (Z3 n1) /\ PCall qc 45 [Z3 n, Z3 n1] fun v => ∃ b1, v = Zb b1 /\ if b1 = true then R (LV.tup [Y6 b, Y6 a]) [Ob.sl (21, 1) false nl es, Ob.box [LV.pv (Z6 (i64.wrap (s + 1)))]] else R (LV.tup [Y6 a, Y6 b]) [Ob.sl (21, 1) false nl es, Ob.box [Y6 s]]
theorem zc8 {R : LV -> Hp -> Prop} (h : wC nl es a b s R) : ACall qc 56 [.own 0, .pv (.int .i64 a), .pv (.int .i64 b), .box 1 0] [.sl (21, 1) false nl es, .box [.pv (.int .i64 s)]] R :=
 ACall.wz Try.func56 bZ [0, 1, 2, 3, 8, 9, 18] bU [0, 1] h
end
section
variable (nl : Bool) (es : LL) (a b c s : Int)
def wD (R : LV -> Hp -> Prop) : Prop :=
 ACall qc 56 [LV.own 0, Y6 a, Y6 b, LV.box 1 0] [Ob.sl (21, 1) false nl es, Ob.box [Y6 s]] fun (r : LV) (h' : Hp) => ∃ (t : Int × Int × Int), (r = LV.pv (PV.tup [Z6 t.1, Z6 t.snd.1]) /\ h' = [Ob.sl (21, 1) false nl es, Ob.box [Y6 t.snd.2]]) /\ (True /\ ((21, 1) = (21, 1) /\ nl = nl /\ es.length = es.length) /\ True) /\ ACall qc 56 [LV.own 0, Y6 t.snd.1, Y6 c, LV.box 1 0] [Ob.sl (21, 1) false nl es, Ob.box [Y6 t.snd.2]] fun (r1 : LV) (h'1 : Hp) => ∃ (t1 : Int × Int × Int), (r1 = LV.pv (PV.tup [Z6 t1.1, Z6 t1.snd.1]) /\ h'1 = [Ob.sl (21, 1) false nl es, Ob.box [Y6 t1.snd.2]]) /\ (True /\ ((21, 1) = (21, 1) /\ nl = nl /\ es.length = es.length) /\ True) /\ ACall qc 56 [LV.own 0, Y6 t.1, Y6 t1.1, LV.box 1 0] [Ob.sl (21, 1) false nl es, Ob.box [Y6 t1.snd.2]] fun (r2 : LV) (h'2 : Hp) => ∃ (t2 : Int × Int × Int), (r2 = LV.pv (PV.tup [Z6 t2.1, Z6 t2.snd.1]) /\ h'2 = [Ob.sl (21, 1) false nl es, Ob.box [Y6 t2.snd.2]]) /\ (True /\ ((21, 1) = (21, 1) /\ nl = nl /\ es.length = es.length) /\ True) /\ R (Y6 t2.snd.1) [Ob.sl (21, 1) false nl es, Ob.box [Y6 t2.snd.2]]
theorem zc9 {R : LV -> Hp -> Prop} (h : wD nl es a b c s R) : ACall qc 54 [.own 0, .pv (.int .i64 a), .pv (.int .i64 b), .pv (.int .i64 c), .box 1 0] [.sl (21, 1) false nl es, .box [.pv (.int .i64 s)]] R :=
 ACall.wz Try.func54 (fun zz_ => match zz_ with | 39 => some ⟨LL, fun _ hs t => (.tup [], match hs with | [.sl ty m nl _] => [.sl ty m nl t] | h => h), none⟩ | 50 => some ⟨LL, fun _ hs t => (.tup [], match hs with | [.sl ty m nl _] => [.sl ty m nl t] | h => h), none⟩ | 40 => some ⟨LL, fun _ hs t => (.tup [], match hs with | [.sl ty m nl _] => [.sl ty m nl t] | h => h), none⟩ | 41 => some ⟨LL, fun _ hs t => (.tup [], match hs with | [.sl ty m nl _] => [.sl ty m nl t] | h => h), none⟩ | 43 => some ⟨LL, fun _ hs t => (.tup [], match hs with | [.sl ty m nl _] => [.sl ty m nl t] | h => h), none⟩ | 37 => some ⟨LL, fun _ hs t => (.tup [], match hs with | [.sl ty m nl _] => [.sl ty m nl t] | h => h), none⟩ | 44 => some ⟨Bool × LL, fun _ hs t => (.pv (.bool t.1), match hs with | [.sl ty m nl _] => [.sl ty m nl t.2] | h => h), none⟩ | 46 => some ⟨Int × LL, fun _ hs t => (.pv (.int .i64 t.1), match hs with | [.sl ty m nl _] => [.sl ty m nl t.2] | h => h), none⟩ | 47 => some ⟨Int × Bool × LL, fun _ hs t => (.pv (.tup [.int .i64 t.1, .bool t.2.1]), match hs with | [.sl ty m nl _] => [.sl ty m nl t.2.2] | h => h), none⟩ | 42 => some ⟨Int × Int, fun _ hs t => (.pv (.tup [.int .i64 t.1, .int .i64 t.2]), hs), none⟩ | 56 => some ⟨Int × Int × Int, fun _ hs t => (.pv (.tup [.int .i64 t.1, .int .i64 t.2.1]), match hs with | [s, .box _] => [s, .box [.pv (.int .i64 t.2.2)]] | h => h), none⟩ | 54 => some ⟨Int × Int, fun _ hs t => (.pv (.int .i64 t.1), match hs with | [s, .box _] => [s, .box [.pv (.int .i64 t.2)]] | h => h), none⟩ | 53 => some ⟨Int × Int, fun _ hs t => (.pv (.int .i64 t.1), match hs with | [s, .box _] => [s, .box [.pv (.int .i64 t.2)]] | h => h), none⟩ | 52 => some ⟨Int, fun _ hs t => (.pv (.int .u64 t), [.box [.pv (.int .u64 t)]]), none⟩ | _ => none) [0, 1, 2, 3, 4, 10] bU [0, 1] h
end
section
variable (nl : Bool) (es : LL) (a s : Int)
def wE (R : LV -> Hp -> Prop) : Prop :=
 ACall qc 54 [LV.own 0, LV.pv (Z6 (i64.wrap (a - 1))), Y6 a, LV.pv (Z6 (i64.wrap (a + 1))), LV.box 1 0] [Ob.sl (21, 1) false nl es, Ob.box [Y6 s]] fun (r : LV) (h' : Hp) => ∃ (t : Int × Int), (r = Y6 t.1 /\ h' = [Ob.sl (21, 1) false nl es, Ob.box [Y6 t.2]]) /\ (True /\ ((21, 1) = (21, 1) /\ nl = nl /\ es.length = es.length) /\ True) /\ R (Y6 t.1) [Ob.sl (21, 1) false nl es, Ob.box [Y6 t.2]]
theorem zda {R : LV -> Hp -> Prop} (h : wE nl es a s R) : ACall qc 53 [.own 0, .pv (.int .i64 a), .box 1 0] [.sl (21, 1) false nl es, .box [.pv (.int .i64 s)]] R :=
 ACall.wz Try.func53 (fun zz_ => match zz_ with | 39 => some ⟨LL, fun _ hs t => (.tup [], match hs with | [.sl ty m nl _] => [.sl ty m nl t] | h => h), none⟩ | 50 => some ⟨LL, fun _ hs t => (.tup [], match hs with | [.sl ty m nl _] => [.sl ty m nl t] | h => h), none⟩ | 40 => some ⟨LL, fun _ hs t => (.tup [], match hs with | [.sl ty m nl _] => [.sl ty m nl t] | h => h), none⟩ | 41 => some ⟨LL, fun _ hs t => (.tup [], match hs with | [.sl ty m nl _] => [.sl ty m nl t] | h => h), none⟩ | 43 => some ⟨LL, fun _ hs t => (.tup [], match hs with | [.sl ty m nl _] => [.sl ty m nl t] | h => h), none⟩ | 37 => some ⟨LL, fun _ hs t => (.tup [], match hs with | [.sl ty m nl _] => [.sl ty m nl t] | h => h), none⟩ | 44 => some ⟨Bool × LL, fun _ hs t => (.pv (.bool t.1), match hs with | [.sl ty m nl _] => [.sl ty m nl t.2] | h => h), none⟩ | 46 => some ⟨Int × LL, fun _ hs t => (.pv (.int .i64 t.1), match hs with | [.sl ty m nl _] => [.sl ty m nl t.2] | h => h), none⟩ | 47 => some ⟨Int × Bool × LL, fun _ hs t => (.pv (.tup [.int .i64 t.1, .bool t.2.1]), match hs with | [.sl ty m nl _] => [.sl ty m nl t.2.2] | h => h), none⟩ | 42 => some ⟨Int × Int, fun _ hs t => (.pv (.tup [.int .i64 t.1, .int .i64 t.2]), hs), none⟩ | 56 => some ⟨Int × Int × Int, fun _ hs t => (.pv (.tup [.int .i64 t.1, .int .i64 t.2.1]), match hs with | [s, .box _] => [s, .box [.pv (.int .i64 t.2.2)]] | h => h), none⟩ | 54 => some ⟨Int × Int, fun _ hs t => (.pv (.int .i64 t.1), match hs with | [s, .box _] => [s, .box [.pv (.int .i64 t.2)]] | h => h), none⟩ | 53 => some ⟨Int × Int, fun _ hs t => (.pv (.int .i64 t.1), match hs with | [s, .box _] => [s, .box [.pv (.int .i64 t.2)]] | h => h), none⟩ | 52 => some ⟨Int, fun _ hs t => (.pv (.int .u64 t), [.box [.pv (.int .u64 t)]]), none⟩ | _ => none) [0, 1, 2, 6] bU [0, 1] h
end
section
variable (nl : Bool) (es : LL) (a b : Int)
def wF (R : LV -> Hp -> Prop) : Prop :=
 if decide (i64.wrap (b - a) >= 8) = true then if decide (i64.wrap (b - a) >= 50) = true then ACall qc 53 [LV.own 0, LV.pv (Z6 (i64.wrap (a + i64.wrap (i64.wrap ((i64.wrap (b - a)).tdiv (4 : Int)) * 1)))), LV.box 1 0] [Ob.sl (21, 1) false nl es, Ob.box [Y6 0]] fun (r : LV) (h' : Hp) => ∃ (t : Int × Int), (r = Y6 t.1 /\ h' = [Ob.sl (21, 1) false nl es, Ob.box [Y6 t.2]]) /\ (True /\ ((21, 1) = (21, 1) /\ nl = nl /\ es.length = es.length) /\ True) /\ ACall qc 53 [LV.own 0, LV.pv (Z6 (i64.wrap (a + i64.wrap (i64.wrap ((i64.wrap (b - a)).tdiv (4 : Int)) * 2)))), LV.box 1 0] [Ob.sl (21, 1) false nl es, Ob.box [Y6 t.2]] fun (r1 : LV) (h'1 : Hp) => ∃ (t1 : Int × Int), (r1 = Y6 t1.1 /\ h'1 = [Ob.sl (21, 1) false nl es, Ob.box [Y6 t1.2]]) /\ (True /\ ((21, 1) = (21, 1) /\ nl = nl /\ es.length = es.length) /\ True) /\ ACall qc 53 [LV.own 0, LV.pv (Z6 (i64.wrap (a + i64.wrap (i64.wrap ((i64.wrap (b - a)).tdiv (4 : Int)) * 3)))), LV.box 1 0] [Ob.sl (21, 1) false nl es, Ob.box [Y6 t1.2]] fun (r2 : LV) (h'2 : Hp) => ∃ (t2 : Int × Int), (r2 = Y6 t2.1 /\ h'2 = [Ob.sl (21, 1) false nl es, Ob.box [Y6 t2.2]]) /\ (True /\ ((21, 1) = (21, (1 : Nat)) /\ nl = nl /\ es.length = es.length) /\ True) /\ ACall qc 54 [LV.own 0, Y6 t.1, Y6 t1.1, Y6 t2.1, LV.box 1 0] [Ob.sl (21, 1) false nl es, Ob.box [Y6 t2.2]] fun (r3 : LV) (h'3 : Hp) => ∃ (t3 : Int × Int), (r3 = Y6 t3.1 /\ h'3 = [Ob.sl (21, 1) false nl es, Ob.box [Y6 t3.2]]) /\ (True /\ ((21, 1) = (21, 1) /\ nl = nl /\ es.length = es.length) /\ True) /\ if (t3.2 == 0) = true then R (LV.tup [Y6 t3.1, Y6 1]) [Ob.sl (21, 1) false nl es] else if (t3.2 == 12) = true then R (LV.tup [Y6 t3.1, Y6 2]) [Ob.sl (21, 1) false nl es] else R (LV.tup [Y6 t3.1, Y6 0]) [Ob.sl (21, 1) false nl es] else ACall qc 54 [LV.own 0, LV.pv (Z6 (i64.wrap (a + i64.wrap (i64.wrap ((i64.wrap (b - a)).tdiv (4 : Int)) * 1)))), LV.pv (Z6 (i64.wrap (a + i64.wrap (i64.wrap ((i64.wrap (b - a)).tdiv (4 : Int)) * 2)))), LV.pv (Z6 (i64.wrap (a + i64.wrap (i64.wrap ((i64.wrap (b - a)).tdiv (4 : Int)) * 3)))), LV.box 1 0] [Ob.sl (21, (1 : Nat)) false nl es, Ob.box [Y6 0]] fun (r : LV) (h' : Hp) => ∃ (t : Int × Int), (r = Y6 t.1 /\ h' = [Ob.sl (21, 1) false nl es, Ob.box [Y6 t.2]]) /\ (True /\ (((21 : Nat), 1) = (21, 1) /\ nl = nl /\ es.length = es.length) /\ True) /\ if (t.2 == 0) = true then R (LV.tup [Y6 t.1, Y6 1]) [Ob.sl (21, 1) false nl es] else if (t.2 == 12) = true then R (LV.tup [Y6 t.1, Y6 2]) [Ob.sl (21, 1) false nl es] else R (LV.tup [Y6 t.1, Y6 0]) [Ob.sl (21, 1) false nl es] else R (LV.tup [LV.pv (Z6 (i64.wrap (a + i64.wrap (i64.wrap ((i64.wrap (b - a)).tdiv (4 : Int)) * 2)))), Y6 1]) [Ob.sl (21, 1) false nl es]
theorem zdb {R : LV -> Hp -> Prop} (h : wF nl es a b R) : ACall qc 42 [.own 0, .pv (.int .i64 a), .pv (.int .i64 b)] [.sl (21, 1) false nl es] R :=
 ACall.wz Try.func42 (fun zz_ => match zz_ with | 39 => some ⟨LL, fun _ hs t => (.tup [], match hs with | [.sl ty m nl _] => [.sl ty m nl t] | h => h), none⟩ | 50 => some ⟨LL, fun _ hs t => (.tup [], match hs with | [.sl ty m nl _] => [.sl ty m nl t] | h => h), none⟩ | 40 => some ⟨LL, fun _ hs t => (.tup [], match hs with | [.sl ty m nl _] => [.sl ty m nl t] | h => h), none⟩ | 41 => some ⟨LL, fun _ hs t => (.tup [], match hs with | [.sl ty m nl _] => [.sl ty m nl t] | h => h), none⟩ | 43 => some ⟨LL, fun _ hs t => (.tup [], match hs with | [.sl ty m nl _] => [.sl ty m nl t] | h => h), none⟩ | 37 => some ⟨LL, fun _ hs t => (.tup [], match hs with | [.sl ty m nl _] => [.sl ty m nl t] | h => h), none⟩ | 44 => some ⟨Bool × LL, fun _ hs t => (.pv (.bool t.1), match hs with | [.sl ty m nl _] => [.sl ty m nl t.2] | h => h), none⟩ | 46 => some ⟨Int × LL, fun _ hs t => (.pv (.int .i64 t.1), match hs with | [.sl ty m nl _] => [.sl ty m nl t.2] | h => h), none⟩ | 47 => some ⟨Int × Bool × LL, fun _ hs t => (.pv (.tup [.int .i64 t.1, .bool t.2.1]), match hs with | [.sl ty m nl _] => [.sl ty m nl t.2.2] | h => h), none⟩ | 42 => some ⟨Int × Int, fun _ hs t => (.pv (.tup [.int .i64 t.1, .int .i64 t.2]), hs), none⟩ | 56 => some ⟨Int × Int × Int, fun _ hs t => (.pv (.tup [.int .i64 t.1, .int .i64 t.2.1]), match hs with | [s, .box _] => [s, .box [.pv (.int .i64 t.2.2)]] | h => h), none⟩ | 54 => some ⟨Int × Int, fun _ hs t => (.pv (.int .i64 t.1), match hs with | [s, .box _] => [s, .box [.pv (.int .i64 t.2)]] | h => h), none⟩ | 53 => some ⟨Int × Int, fun _ hs t => (.pv (.int .i64 t.1), match hs with | [s, .box _] => [s, .box [.pv (.int .i64 t.2)]] | h => h), none⟩ | 52 => some ⟨Int, fun _ hs t => (.pv (.int .u64 t), [.box [.pv (.int .u64 t)]]), none⟩ | _ => none) [0, 1, 2, 6, 7, 8, 9, 10, 11, 12, 32, 34, 49, 51, 54] bU [0] h
end
section
variable (x : Int)
def wG (R : LV -> Hp -> Prop) : Prop :=
 R (LV.pv (PV.int .u64 (IntKind.u64.wrap (↑(BitVec.ofInt IntKind.u64.bits (IntKind.u64.wrap (↑(BitVec.ofInt IntKind.u64.bits (IntKind.u64.wrap (↑(BitVec.ofInt IntKind.u64.bits x ^^^ BitVec.ofInt IntKind.u64.bits (IntKind.u64.wrap (x * 2 ^ 13))).toNat : Int)) ^^^ BitVec.ofInt IntKind.u64.bits ((IntKind.u64.wrap (↑(BitVec.ofInt IntKind.u64.bits x ^^^ BitVec.ofInt IntKind.u64.bits (IntKind.u64.wrap (x * 2 ^ 13))).toNat : Int)).fdiv ((2 : Int) ^ (7 : Nat)))).toNat : Int)) ^^^ BitVec.ofInt IntKind.u64.bits (IntKind.u64.wrap (IntKind.u64.wrap (↑(BitVec.ofInt IntKind.u64.bits (IntKind.u64.wrap (↑(BitVec.ofInt IntKind.u64.bits x ^^^ BitVec.ofInt IntKind.u64.bits (IntKind.u64.wrap (x * 2 ^ 13))).toNat : Int)) ^^^ BitVec.ofInt IntKind.u64.bits ((IntKind.u64.wrap (↑(BitVec.ofInt IntKind.u64.bits x ^^^ BitVec.ofInt IntKind.u64.bits (IntKind.u64.wrap (x * 2 ^ 13))).toNat : Int)).fdiv ((2 : Int) ^ 7))).toNat : Int) * 2 ^ 17))).toNat : Int)))) [Ob.box [LV.pv (PV.int .u64 (IntKind.u64.wrap (↑(BitVec.ofInt IntKind.u64.bits (IntKind.u64.wrap (↑(BitVec.ofInt IntKind.u64.bits (IntKind.u64.wrap (↑(BitVec.ofInt IntKind.u64.bits x ^^^ BitVec.ofInt IntKind.u64.bits (IntKind.u64.wrap (x * 2 ^ 13))).toNat : Int)) ^^^ BitVec.ofInt IntKind.u64.bits ((IntKind.u64.wrap (↑(BitVec.ofInt IntKind.u64.bits x ^^^ BitVec.ofInt IntKind.u64.bits (IntKind.u64.wrap (x * 2 ^ 13))).toNat : Int)).fdiv ((2 : Int) ^ 7))).toNat : Int)) ^^^ BitVec.ofInt IntKind.u64.bits (IntKind.u64.wrap (IntKind.u64.wrap (↑(BitVec.ofInt IntKind.u64.bits (IntKind.u64.wrap (↑(BitVec.ofInt IntKind.u64.bits x ^^^ BitVec.ofInt IntKind.u64.bits (IntKind.u64.wrap (x * 2 ^ 13))).toNat : Int)) ^^^ BitVec.ofInt IntKind.u64.bits ((IntKind.u64.wrap (↑(BitVec.ofInt IntKind.u64.bits x ^^^ BitVec.ofInt IntKind.u64.bits (IntKind.u64.wrap (x * 2 ^ 13))).toNat : Int)).fdiv ((2 : Int) ^ 7))).toNat : Int) * 2 ^ 17))).toNat : Int)))]]
theorem zdc {R : LV -> Hp -> Prop} (h : wG x R) : ACall qc 52 [.box 0 0] [.box [.pv (.int .u64 x)]] R :=
 ACall.wz Try.func52 bZ [0, 2] bU [0] h
end
section
variable (x : Int)
def wH (R : PV -> Prop) : Prop :=
 PCall qc 38 [PV.int .u64 (IntKind.u64.wrap x)] fun v => ∃ n, v = Z6 n /\ (0 : Int) <= n /\ R (PV.int .u64 (IntKind.u64.wrap ((1 : Int) * 2 ^ min n.toNat 64)))
theorem zdd {R : PV -> Prop} (h : wH x R) : PCall qc 51 [.int .i64 x] R :=
 PCall.wz Try.func51 bZ [0, 2] bU h
end
def qI (nl : Bool) (a b : Int) (x8 x9 : Int) (s_0 : LL) (h1_0 : Int) : Env × Hp := ([(0, LV.own 0), (1, Y6 a), (6, LV.pv (PV.int i64 (i64.wrap (b - a)))), (7, LV.box 1 0), (8, .pv (.int IntKind.u64 x8)), (9, Y6 x9)], [.sl (21, 1) false nl s_0, .box [.pv (.int IntKind.u64 h1_0)]])
section
variable (nl : Bool) (es : LL) (a b : Int) (J : Int -> Int -> LL -> Int -> Prop) (μ : Int -> Int -> LL -> Int -> Nat)
def wI (R : LV -> Hp -> Prop) : Prop :=
 if decide (i64.wrap (b - a) >= 8) = true then PCall qc 51 [Z6 (i64.wrap (b - a))] fun v => ∃ n, v = PV.int .u64 n /\ (aL (qI nl a b n (i64.wrap (i64.wrap (a + i64.wrap
  (i64.wrap ((i64.wrap (b - a)).tdiv (4 : Int)) * 2)) - 1)) es (IntKind.u64.wrap (i64.wrap (b - a)))) /\ J n (i64.wrap (i64.wrap (a + i64.wrap (i64.wrap ((i64.wrap (b -
  a)).tdiv (4 : Int)) * 2)) - 1)) es (IntKind.u64.wrap (i64.wrap (b - a)))) /\ ∀ (x8 x9 : Int) (s_0 : LL) (h1_0 : Int), J x8 x9 s_0 h1_0 ->
 let K5 := fun (y0_ y1_ : Int) (y2_ : LL) (y3_ : Int) => aL (qI nl a b y0_ y1_ y2_ y3_) /\ J y0_ y1_ y2_ y3_ /\ μ y0_ y1_ y2_ y3_ < μ x8 x9 s_0 h1_0; if decide (x9 <= i64.wrap (i64.wrap (a + i64.wrap
  (i64.wrap ((i64.wrap (b - a)).tdiv (4 : Int)) * 2)) + 1)) = true then ACall qc 52 [LV.box 0 0] [Ob.box [LV.pv (PV.int .u64 h1_0)]] fun (r : LV) (h' : Hp) => ∃ (t : Int), (r = LV.pv (PV.int .u64 t) /\ h' = [Ob.box
  [LV.pv (PV.int .u64 t)]]) /\ (True /\ True) /\ if decide (i64.wrap (IntKind.u64.wrap (↑(BitVec.ofInt IntKind.u64.bits t &&& BitVec.ofInt IntKind.u64.bits (IntKind.u64.wrap (x8 - 1))).toNat : Int)) >= i64.wrap (b - a)) = true
  then aB s_0 (i64.wrap (a + i64.wrap (i64.wrap (IntKind.u64.wrap (↑(BitVec.ofInt IntKind.u64.bits t &&& BitVec.ofInt IntKind.u64.bits (IntKind.u64.wrap (x8 - 1))).toNat : Int)) - i64.wrap (b - a)))) 1 /\
  ∃ n1, (qa 0 (s_0.getD (i64.wrap (a + i64.wrap (i64.wrap (IntKind.u64.wrap (↑(BitVec.ofInt IntKind.u64.bits t &&& BitVec.ofInt IntKind.u64.bits (IntKind.u64.wrap (x8 - 1))).toNat : Int)) -
  i64.wrap (b - a)))).toNat [])).head? = some (Z3 n1) /\ aB s_0 x9 1 /\ ∃ n2, (qa 0 (s_0.getD x9.toNat [])).head? = some (Z3 n2) /\ aB s_0 x9 1 /\
 let V1 := (1 = 1 /\ 1 <= (s_0.getD x9.toNat []).length) /\ aB (s_0.set x9.toNat (Z3 n1 :: (qa 1 (s_0.getD x9.toNat [])))) (i64.wrap (a + i64.wrap (i64.wrap (IntKind.u64.wrap (↑(BitVec.ofInt IntKind.u64.bits t
  &&& BitVec.ofInt IntKind.u64.bits (IntKind.u64.wrap (x8 - 1))).toNat : Int)) - i64.wrap (b - a)))) 1 /\ (1 = 1 /\ (1 : Nat) <= ((s_0.set x9.toNat (Z3 n1 :: (qa 1 (s_0.getD x9.toNat [])))).getD (i64.wrap (a +
  i64.wrap (i64.wrap (IntKind.u64.wrap (↑(BitVec.ofInt IntKind.u64.bits t &&& BitVec.ofInt IntKind.u64.bits (IntKind.u64.wrap (x8 - 1))).toNat : Int)) - i64.wrap (b - a)))).toNat []).length) /\ K5 x8
  (i64.wrap (x9 + 1)) ((s_0.set x9.toNat (Z3 n1 :: (qa 1 (s_0.getD x9.toNat [])))).set (i64.wrap (a + i64.wrap (i64.wrap (IntKind.u64.wrap (↑(BitVec.ofInt IntKind.u64.bits t &&& BitVec.ofInt
  IntKind.u64.bits (IntKind.u64.wrap (x8 - 1))).toNat : Int)) - i64.wrap (b - a)))).toNat (Z3 n2 :: (qa 1 ((s_0.set x9.toNat (Z3 n1 :: (qa 1 (s_0.getD x9.toNat [])))).getD (i64.wrap (a + i64.wrap
  (i64.wrap (IntKind.u64.wrap (↑(BitVec.ofInt IntKind.u64.bits t &&& BitVec.ofInt IntKind.u64.bits (IntKind.u64.wrap (x8 - 1))).toNat : Int)) - i64.wrap (b - a)))).toNat [])))) t; V1 /\ V1 else aB s_0 (i64.wrap (a
  + i64.wrap (IntKind.u64.wrap (↑(BitVec.ofInt IntKind.u64.bits t &&& BitVec.ofInt IntKind.u64.bits (IntKind.u64.wrap (x8 - 1))).toNat : Int)))) 1 /\ ∃ n1, (qa 0 (s_0.getD (i64.wrap (a + i64.wrap
  (IntKind.u64.wrap (↑(BitVec.ofInt IntKind.u64.bits t &&& BitVec.ofInt IntKind.u64.bits (IntKind.u64.wrap (x8 - 1))).toNat : Int)))).toNat [])).head? = some (Z3 n1) /\ aB s_0 x9 1 /\ ∃ n2, (qa 0 (s_0.getD x9.toNat
  [])).head? = some (Z3 n2) /\ aB s_0 x9 1 /\
 let V2 := (1 = 1 /\ 1 <= (s_0.getD x9.toNat []).length) /\ aB (s_0.set x9.toNat (Z3 n1 :: (qa 1 (s_0.getD x9.toNat [])))) (i64.wrap (a + i64.wrap (IntKind.u64.wrap (↑(BitVec.ofInt IntKind.u64.bits t &&& BitVec.ofInt
  IntKind.u64.bits (IntKind.u64.wrap (x8 - 1))).toNat : Int)))) 1 /\ (1 = 1 /\ 1 <= ((s_0.set x9.toNat (Z3 n1 :: (qa 1 (s_0.getD x9.toNat [])))).getD (i64.wrap (a + i64.wrap (IntKind.u64.wrap (↑(BitVec.ofInt
  IntKind.u64.bits t &&& BitVec.ofInt IntKind.u64.bits (IntKind.u64.wrap (x8 - 1))).toNat : Int)))).toNat []).length) /\ K5 x8 (i64.wrap (x9 + 1)) ((s_0.set x9.toNat (Z3 n1 :: (qa 1 (s_0.getD x9.toNat [])))).set
  (i64.wrap (a + i64.wrap (IntKind.u64.wrap (↑(BitVec.ofInt IntKind.u64.bits t &&& BitVec.ofInt IntKind.u64.bits (IntKind.u64.wrap (x8 - 1))).toNat : Int)))).toNat (Z3 n2 :: (qa 1 ((s_0.set x9.toNat (Z3 n1 ::
  (qa 1 (s_0.getD x9.toNat [])))).getD (i64.wrap (a + i64.wrap (IntKind.u64.wrap (↑(BitVec.ofInt IntKind.u64.bits t &&& BitVec.ofInt IntKind.u64.bits (IntKind.u64.wrap (x8 - 1))).toNat : Int)))).toNat [])))) t; V2 /\
  V2 else R (LV.tup []) [Ob.sl (21, 1) false nl s_0] else R (LV.tup []) [Ob.sl (21, 1) false nl es]
theorem zde {R : LV -> Hp -> Prop} (h : wI nl es a b J μ R) : ACall qc 41 [.own 0, .pv (.int .i64 a), .pv (.int .i64 b)] [.sl (21, 1) false nl es] R :=
 ACall.wz Try.func41 (fun zz_ => match zz_ with | 39 => some ⟨LL, fun _ hs t => (.tup [], match hs with | [.sl ty m nl _] => [.sl ty m nl t] | h => h), none⟩ | 50 => some ⟨LL, fun _ hs t => (.tup [], match hs with | [.sl ty m nl _] => [.sl ty m nl t] | h => h), none⟩ | 40 => some ⟨LL, fun _ hs t => (.tup [], match hs with | [.sl ty m nl _] => [.sl ty m nl t] | h => h), none⟩ | 41 => some ⟨LL, fun _ hs t => (.tup [], match hs with | [.sl ty m nl _] => [.sl ty m nl t] | h => h), none⟩ | 43 => some ⟨LL, fun _ hs t => (.tup [], match hs with | [.sl ty m nl _] => [.sl ty m nl t] | h => h), none⟩ | 37 => some ⟨LL, fun _ hs t => (.tup [], match hs with | [.sl ty m nl _] => [.sl ty m nl t] | h => h), none⟩ | 44 => some ⟨Bool × LL, fun _ hs t => (.pv (.bool t.1), match hs with | [.sl ty m nl _] => [.sl ty m nl t.2] | h => h), none⟩ | 46 => some ⟨Int × LL, fun _ hs t => (.pv (.int .i64 t.1), match hs with | [.sl ty m nl _] => [.sl ty m nl t.2] | h => h), none⟩ | 47 => some ⟨Int × Bool × LL, fun _ hs t => (.pv (.tup [.int .i64 t.1, .bool t.2.1]), match hs with | [.sl ty m nl _] => [.sl ty m nl t.2.2] | h => h), none⟩ | 42 => some ⟨Int × Int, fun _ hs t => (.pv (.tup [.int .i64 t.1, .int .i64 t.2]), hs), none⟩ | 56 => some ⟨Int × Int × Int, fun _ hs t => (.pv (.tup [.int .i64 t.1, .int .i64 t.2.1]), match hs with | [s, .box _] => [s, .box [.pv (.int .i64 t.2.2)]] | h => h), none⟩ | 54 => some ⟨Int × Int, fun _ hs t => (.pv (.int .i64 t.1), match hs with | [s, .box _] => [s, .box [.pv (.int .i64 t.2)]] | h => h), none⟩ | 53 => some ⟨Int × Int, fun _ hs t => (.pv (.int .i64 t.1), match hs with | [s, .box _] => [s, .box [.pv (.int .i64 t.2)]] | h => h), none⟩ | 52 => some ⟨Int, fun _ hs t => (.pv (.int .u64 t), [.box [.pv (.int .u64 t)]]), none⟩ | _ => none) [0, 1, 2, 6, 7, 8, 9, 10, 15, 33, 43] (fT 5 (cM cz4 (qI nl a b) J μ (fun e h => (gI e 8, gI e 9, oS h 0, hI h 1 0)) [] [0, 1, 6, 7, 8, 9] [])) [0] h
end
end Go.Eng
namespace Go.Eng
open Go Go.Proofs Go.Eng.Rows
theorem iV {L : List Int} {k : Nat} (h : k < L.length) : aB (aI L) (k : Int) 1 := fW (enc := fun n => [PV.int .i32 n]) (l := L) (fun _ => rfl) (by omega) (by omega)
theorem mX {L : List Int} {k : Nat} (h : k < L.length) : (aI L).getD k [] = [.int .i32 (L.getD k 0)] := by
 rw [show (aI L).getD k [] = [.int .i32 L[k]] from fV (enc := fun n => [PV.int .i32 n]) h];simp [List.getD, h]
theorem mY {L : List Int} {k : Nat} (h : k < L.length) : (qa 0 ((aI L).getD k [])).head? = some (.int .i32 (L.getD k 0)) := by rw [mX h]; rfl
theorem wJ {L : List Int} {k : Nat} (h : k < L.length) : 1 <= ((aI L).getD k []).length := by rw [mX h]; exact qe 1
theorem qJ {L : List Int} {k : Nat} (h : k < L.length) (n : Int) : (aI L).set k (.int .i32 n :: qa 1 ((aI L).getD k [])) = aI (L.set k n) := by
 rw [mX h]; simp only [aI, qas]; rfl
def sw (L : List Int) (i j : Nat) : List Int := (L.set i (L.getD j 0)).set j (L.getD i 0)
theorem zdf {L : List Int} {i j : Nat} (hi : i < L.length) (hj : j < L.length) : (sw L i j).Perm L := by
 have : ((L.set i L[j]).set j L[i]).Perm L := List.set_set_perm hi hj;simpa [sw, List.getD, hi, hj] using this
theorem wK {L : List Int} {i j : Nat} (hi : i < L.length) (hj : j < L.length) (k : Nat) : (sw L i j).getD k 0 = if k = j then L.getD i 0 else if k = i then L.getD j 0 else L.getD k 0 := by
 simp only [sw, List.getD_eq_getElem?_getD, List.getElem?_set, qaz];by_cases h1 : k = j
 ·subst h1; simp [hj]
 ·rw [if_neg (fun e => h1 e.symm), if_neg h1];by_cases h2 : k = i
  ·subst h2; simp [hi]
  ·rw [if_neg (fun e => h2 e.symm), if_neg h2]
theorem zdg (x : Int) : PCall qc 55 [.int .i32 x] fun v => v = .bool false := by
 refine zc1 _ ?_;unfold vY;simp
theorem cU (x y : Int) : PCall qc 45 [.int .i32 x, .int .i32 y] fun v => v = .bool (decide (x < y)) := by
 refine zc2 _ _ ?_;unfold vZ;refine (zdg x).mono ?_;rintro _ rfl;exact ⟨_, rfl, b7 (by simp) rfl⟩
def SP (L : List Int) (n : Nat) : Prop := ∀ p q : Nat, p < q -> q < n -> L.getD p 0 <= L.getD q 0
def SI (L : List Int) (i j : Nat) : Prop := ∀ p q : Nat, p < q -> q <= i -> q ≠ j -> L.getD p 0 <= L.getD q 0
theorem SI.swap {L : List Int} {i j : Nat} (h : SI L i (j + 1)) (hj : j + 1 < L.length) (hi : j + 1 <= i) (hlt : L.getD (j + 1) 0 < L.getD j 0) : SI (sw L (j + 1) j) i j := by
 intro p q hpq hq hne;rw [wK hj (by omega), wK hj (by omega), if_neg hne];by_cases h1 : q = j + 1
 ·rw [if_pos h1];by_cases h2 : p = j
  ·rw [if_pos h2]; omega
  ·rw [if_neg h2, if_neg (by omega)]; exact h p j (by omega) (by omega) (by omega)
 ·rw [if_neg h1];by_cases h2 : p = j
  ·rw [if_pos h2]; exact h (j + 1) q (by omega) hq h1
  ·rw [if_neg h2];by_cases h3 : p = j + 1
   ·rw [if_pos h3]; exact h j q (by omega) hq h1
   ·rw [if_neg h3]; exact h p q hpq hq h1
theorem SI.done {L : List Int} {i j : Nat} (h : SI L i j) (hj : j = 0 ∨ L.getD (j - 1) 0 <= L.getD j 0) : SP L (i + 1) := by
 intro p q hpq hq;by_cases e : q = j
 ·subst e;rcases hj with hj | hj
  ·omega
  ·by_cases e2 : p = q - 1
   ·rw [e2]; exact hj
   ·exact Int.le_trans (h p (q - 1) (by omega) (by omega) (by omega)) hj
 ·exact h p q hpq (by omega) e
abbrev hSl (nl : Bool) (L : List Int) : Hp := [.sl (21, 1) false nl (aI L)]
theorem zdh (nl : Bool) (L : List Int) (a b : Nat) (hab : a <= b) (hb : b <= L.length) (hl : L.length < 1000000) : ACall qc 39 [.own 0, .pv (.int .i64 a), .pv (.int .i64 b)] (hSl nl L) fun r h' => ∃ L', r = .tup [] /\ h' = hSl nl L' /\ L'.Perm L /\ (a = 0 -> SP L' b) := by
 refine zc4 _ _ _ _
  (fun x s => ∃ (i : Nat) (M : List Int), x = i /\ a < i /\ (i <= b ∨ i = a + 1) /\ s = aI M /\ M.Perm L /\ (a = 0 -> SP M i)) (fun x _ => b + 1 - x.toNat)
  (fun x0 _ _ x y s => x = x0 /\ ∃ (i j : Nat) (M : List Int), x0 = i /\ y = j /\ i < b /\ a <= j /\ j <= i /\ s = aI M /\ M.Perm L /\ (a = 0 -> SI M i j)) (fun _ y _ => y.toNat) ?_
 unfold v7;have wa : i64.wrap ((a : Int) + 1) = ((a + 1 : Nat) : Int) := by rw [aE (by omega) (by omega)]; omega
 rw [wa];refine ⟨⟨rfl, a + 1, L, rfl, by omega, .inr rfl, rfl, List.Perm.refl _, fun e p q h1 h2 => by omega⟩, ?_⟩;rintro _ _ ⟨i, M, rfl, hi, hib, rfl, hM, hS⟩;have hMl := hM.length_eq;refine aH (fun hc => ?_) (fun hc => ?_)
 rotate_left
 ·simp only [aW] at hc;refine ⟨M, rfl, rfl, hM, fun e p q h1 h2 => hS e p q h1 ?_⟩;omega
 simp only [aW] at hc;refine ⟨⟨rfl, rfl, i, i, M, rfl, rfl, by omega, by omega, qe _, rfl, hM, fun e p q h1 h2 h3 => hS e p q h1 (by omega)⟩, ?_⟩;rintro _ _ _ ⟨rfl, i', j, K, e, rfl, hib', haj, hji, rfl, hK, hI⟩;have e : i = i' := by omega
 subst e;have hKl := hK.length_eq;have wi : i64.wrap ((i : Int) + 1) = ((i + 1 : Nat) : Int) := iU (by omega);rw [wi]
 have fin : (a = 0 -> (j = 0 ∨ K.getD (j - 1) 0 <= K.getD j 0)) -> aL (mV nl a b ((i + 1 : Nat) : Int) (aI K)) /\ (∃ (i' : Nat) (M : List Int), ((i + 1 : Nat) : Int) = i' /\ a < i' /\ (i' <= b ∨ i' = a + 1) /\ aI K = aI M /\ M.Perm L /\ (a = 0 -> SP M i')) /\ b + 1 - (((i + 1 : Nat) : Int)).toNat < b + 1 - ((i : Int)).toNat := fun h =>
  ⟨rfl, ⟨i + 1, K, rfl, by omega, .inl (by omega), rfl, hK, fun e => (hI e).done (h e)⟩, by omega⟩
 refine aH (fun hj => ?_) (fun hj => fin fun e => .inl (by simp only [aW] at hj; omega));simp only [aW] at hj;obtain ⟨k, rfl⟩ : ∃ k, j = k + 1 := ⟨j - 1, by omega⟩;have hk1 : k + 1 < K.length := by omega
 have hk0 : k < K.length := by omega
 have wj : i64.wrap (((k + 1 : Nat) : Int) - 1) = ((k : Nat) : Int) := by rw [aE (by omega) (by omega)]; omega
 rw [wj, qm, qm];refine ⟨iV hk1, _, mY hk1, iV hk0, _, mY hk0, (cU _ _).mono ?_⟩;rintro _ rfl;refine ⟨_, rfl, aH (fun hless => ?_) (fun hless => fin fun _ => .inr ?_)⟩
 ·simp only [aW] at hless;refine ⟨iV hk0, _, mY hk0, iV hk1, _, mY hk1, iV hk1, ?_⟩;rw [qJ hk1];have hk0' : k < (K.set (k + 1) (K.getD k 0)).length := by simpa using hk0
  rw [qJ hk0']
  have V : (1 = 1 /\ 1 <= ((aI K).getD (k + 1) []).length) /\ aB (aI (K.set (k + 1) (K.getD k 0))) ((k : Nat) : Int) 1 /\ (1 = 1 /\ 1 <= ((aI (K.set (k + 1) (K.getD k 0))).getD k []).length) /\ aL (mW nl a b i ((k : Nat) : Int) (aI (sw K (k + 1) k))) /\ ((i : Int) = i /\ ∃ (i' j : Nat) (M : List Int), (i : Int) = i' /\ ((k : Nat) : Int) = j /\ i' < b /\ a <= j /\ j <= i' /\ aI (sw K (k + 1) k) = aI M /\ M.Perm L /\ (a = 0 -> SI M i' j)) /\ ((k : Nat) : Int).toNat < (((k + 1 : Nat) : Int)).toNat :=
   ⟨⟨rfl, wJ hk1⟩, iV hk0', ⟨rfl, wJ hk0'⟩, rfl, ⟨rfl, i, k, sw K (k + 1) k, rfl, rfl, hib', by omega, by omega, rfl, (zdf hk1 hk0).trans hK, fun e => (hI e).swap hk1 hji hless⟩, by omega⟩
  exact ⟨V, V⟩
 ·simp only [aW] at hless;show K.getD k 0 <= K.getD (k + 1) 0;omega
end Go.Eng
namespace Go.Proofs
open Go.Shelf
def Try.lenM_ren : Go.Shelf.Ren := ⟨fun | 8 => 38 | 19 => 48 | 20 => 49 | n => n, fun | 3 => 3 | 4 => 4 | 5 => 5 | 9 => 9 | 32 => 88 | 44 => 99 | 46 => 101 | 0 => 0 | n => n, fun | n => n⟩
theorem Try.lenM : Go.Proofs.SlLaysM.n8 qc Try.lenM_ren := {
 mixed := by kernel_rfl
 f8 := Try.func38.trans (congrArg some (by kernel_rfl))
 f19 := Try.func48.trans (congrArg some (by kernel_rfl))
 f20 := Try.func49.trans (congrArg some (by kernel_rfl))
 t3 := Try.underlying3
 a3 := Try.isAgg3
 z3 := Try.sizeOf3
 v3 := Try.zeroValue3
 t4 := Try.underlying4
 a4 := Try.isAgg4
 z4 := Try.sizeOf4
 v4 := Try.zeroValue4
 t5 := Try.underlying5
 a5 := Try.isAgg5
 z5 := Try.sizeOf5
 v5 := Try.zeroValue5
 t9 := Try.underlying9
 a9 := Try.isAgg9
 z9 := Try.sizeOf9
 v9 := Try.zeroValue9
 t32 := Try.underlying88
 a32 := Try.isAgg88
 z32 := Try.sizeOf88
 v32 := Try.zeroValue88
 t44 := Try.underlying99
 a44 := Try.isAgg99
 z44 := Try.sizeOf99
 v44 := Try.zeroValue99
 t46 := Try.underlying101
 a46 := Try.isAgg101
 z46 := Try.sizeOf101
 v46 := Try.zeroValue101 }
end Go.Proofs
namespace Go.Eng
open Go Go.Proofs Go.Eng.Rows
def YL (N : Nat) (s : List (List PV)) : Prop := ∃ M : List Int, s = aI M /\ M.length = N
def qK (s : List (List PV)) (x : Int) : Int := match (s.getD x.toNat []).head? with | some (.int _ n) => n | _ => 0
theorem YL.len {N : Nat} {s : List (List PV)} (h : YL N s) : s.length = N := by obtain ⟨M, rfl, h⟩ := h; rw [gQ]; exact h
theorem YL.eq {N : Nat} {s t : List (List PV)} (h : YL N s) (h' : YL N t) : s.length = t.length := h.len.trans h'.len.symm
theorem YL.ix {N : Nat} {s : List (List PV)} (h : YL N s) {x : Int} (h0 : 0 <= x) (h1 : x < N) : aB s x 1 := by
 obtain ⟨M, rfl, rfl⟩ := h;exact fW (enc := fun n => [PV.int .i32 n]) (l := M) (fun _ => rfl) h0 h1
theorem YL.gd {N : Nat} {s : List (List PV)} (h : YL N s) {x : Int} (h0 : 0 <= x) (h1 : x < N) : s.getD x.toNat [] = [.int .i32 (qK s x)] := by
 obtain ⟨M, rfl, rfl⟩ := h;have hk : x.toNat < M.length := by omega
 unfold qK;rw [mX hk]; rfl
theorem YL.rd {N : Nat} {s : List (List PV)} (h : YL N s) {x : Int} (h0 : 0 <= x) (h1 : x < N) : (qa 0 (s.getD x.toNat [])).head? = some (.int .i32 (qK s x)) := by rw [h.gd h0 h1]; rfl
theorem YL.ln {N : Nat} {s : List (List PV)} (h : YL N s) {x : Int} (h0 : 0 <= x) (h1 : x < N) : 1 = 1 /\ 1 <= (s.getD x.toNat []).length := by rw [h.gd h0 h1]; exact ⟨rfl, qe 1⟩
theorem YL.st {N : Nat} {s : List (List PV)} (h : YL N s) {x : Int} (h0 : 0 <= x) (h1 : x < N) {v : Int} : YL N (s.set x.toNat (.int .i32 v :: qa 1 (s.getD x.toNat []))) := by
 obtain ⟨M, rfl, rfl⟩ := h;have hk : x.toNat < M.length := by omega
 exact ⟨M.set x.toNat v, qJ hk v, by simp⟩
abbrev Trn (f : Nat) (args : List LV) (nl : Bool) (s : List (List PV)) (N : Nat) : Prop := ACall qc f args [.sl (21, 1) false nl s] fun r h' => ∃ s', r = .tup [] /\ h' = [.sl (21, 1) false nl s'] /\ YL N s'
theorem ACall.tups {P : Program} {f : Nat} {args : List LV} {h : Hp} {Q Q' : LV -> Hp -> Prop} (hc : ACall P f args h Q) (hq : ∀ r h', Q r h' -> ∃ vs : List PV, r = .tup (vs.map .pv) /\ Q' (.pv (.tup vs)) h') : ACall P f args h Q' :=
 ⟨hc.1, fun w I G cargs h1 h2 h3 => (hc.2 w I G cargs h1 h2 h3).mono fun e w' ⟨cv, r, h', I', G', e1, e2, e3, e4, e5⟩ => by
  obtain ⟨vs, rfl, q⟩ := hq r h' e2;refine ⟨cv, .pv (.tup vs), h', I', G', e1, q, e3, ?_, e5⟩;cases e4 with
  | tup _ cs k1 k2 => exact .pv _ _ (.tup vs cs (by simpa using k1) fun k v hk => by
   have := k2 k (.pv v) (by rw [qz, hk]; rfl)
   cases this with | pv _ _ h => exact h)⟩
theorem y2 {p : Prop} (h : p) : p /\ p := ⟨h, h⟩
theorem eH {p q : Prop} (h : p) (f : p -> q) : q := f h
theorem qL {x : Int} (h : 0 <= x) (k : Int) : x.tdiv k = x / k := Int.tdiv_eq_ediv_of_nonneg h
section
variable {N : Nat} {nl : Bool} {s : List (List PV)}
theorem wL (hN : N < 1000000) (h : YL N s) {lo hi first : Int} (h0 : 0 <= lo) (h1 : lo <= N) (h2 : 0 <= first) (h3 : 0 <= hi) (h4 : first + hi <= N) : Trn 50 [.own 0, .pv (.int .i64 lo), .pv (.int .i64 hi), .pv (.int .i64 first)] nl s N := by
 refine zc5 _ _ _ _ _ (fun x s => 0 <= x /\ x <= N /\ YL N s) (fun x _ => (hi - x).toNat) ?_;unfold v8;refine ⟨⟨rfl, h0, h1, h⟩, ?_⟩;clear h;rintro x s ⟨x0, x1, h⟩;have w1 : i64.wrap ((2 : Int) * x) = 2 * x := aE (by omega) (by omega);have w2 : i64.wrap ((2 : Int) * x + 1) = 2 * x + 1 := aE (by omega) (by omega);have w3 : i64.wrap ((2 : Int) * x + 1 + 1) = 2 * x + 1 + 1 := aE (by omega) (by omega);have w4 : i64.wrap (first + x) = first + x := aE (by omega) (by omega)
 have w5 : i64.wrap (first + (2 * x + 1)) = first + (2 * x + 1) := aE (by omega) (by omega)
 have w6 : i64.wrap (first + (2 * x + 1) + 1) = first + (2 * x + 1) + 1 := aE (by omega) (by omega)
 have w7 : i64.wrap (first + (2 * x + 1 + 1)) = first + (2 * x + 1 + 1) := aE (by omega) (by omega)
 rw [w1, w2, w3, w4, w5, w6, w7];refine aH (fun hc => ⟨s, rfl, rfl, h⟩) (fun hc => ?_);simp only [aW] at hc;refine aH (fun hc1 => have hc1 := of_decide_eq_true hc1; ⟨h.ix (by omega) (by omega), _, h.rd (by omega) (by omega), h.ix (by omega) (by omega), _, h.rd (by omega) (by omega), (cU _ _).mono fun v hv => ⟨_, hv, aH (fun _ => ?_) (fun _ => ?_)⟩⟩) (fun _ => ?_)
 all_goals
  refine ⟨h.ix (by omega) (by omega), _, h.rd (by omega) (by omega), h.ix (by omega) (by omega), _, h.rd (by omega) (by omega), (cU _ _).mono fun v hv => ⟨_, hv, aH (fun _ => ⟨s, rfl, rfl, h⟩) (fun _ => ?_)⟩⟩;refine ⟨h.ix (by omega) (by omega), _, h.rd (by omega) (by omega), h.ix (by omega) (by omega), _, h.rd (by omega) (by omega), h.ix (by omega) (by omega), ?_⟩;exact y2 ⟨h.ln (by omega) (by omega), (h.st (by omega) (by omega)).ix (by omega) (by omega), (h.st (by omega) (by omega)).ln (by omega) (by omega), rfl, ⟨by omega, by omega, (h.st (by omega) (by omega)).st (by omega) (by omega)⟩, by dsimp only; omega⟩
theorem zdi (hN : N < 1000000) (h : YL N s) {a b : Int} (h0 : 0 <= a) (h1 : a < b) (h2 : b <= N) : Trn 40 [.own 0, .pv (.int .i64 a), .pv (.int .i64 b)] nl s N := by
 refine zc6 _ _ _ _ (fun x s => -1 <= x /\ x <= N /\ YL N s) (fun x _ => (x + 1).toNat) (fun x s => -1 <= x /\ x < b - a /\ YL N s) (fun x _ => (x + 1).toNat) ?_;unfold wA;have w1 : i64.wrap (b - a) = b - a := aE (by omega) (by omega);have w2 : i64.wrap (b - a - 1) = b - a - 1 := aE (by omega) (by omega);rw [w1, w2, qL (by omega)];have w3 : i64.wrap ((b - a - 1) / 2) = (b - a - 1) / 2 := aE (by omega) (by omega);rw [w3];refine ⟨⟨rfl, by omega, by omega, h⟩, ?_⟩;clear h;rintro x s ⟨x0, x1, h⟩;refine aH (fun hc => ?_) (fun hc => ?_)
 ·simp only [aW] at hc;have w4 : i64.wrap (x - 1) = x - 1 := aE (by omega) (by omega);rw [w4];refine (wL hN h (by omega) (by omega) h0 (by omega) (by omega)).mono ?_;rintro _ _ ⟨t, rfl, rfl, ht⟩;exact ⟨t, ⟨rfl, rfl⟩, ⟨⟨rfl, rfl, h.eq ht⟩, trivial⟩, rfl, ⟨by omega, by omega, ht⟩, by dsimp only; omega⟩
 refine ⟨⟨rfl, by omega, by omega, h⟩, ?_⟩;clear h hc x0 x1;rintro y s ⟨y0, y1, h⟩;refine aH (fun hc => ?_) (fun hc => ⟨s, rfl, rfl, h⟩);simp only [aW] at hc;have w4 : i64.wrap (y - 1) = y - 1 := aE (by omega) (by omega);have w5 : i64.wrap (a + y) = a + y := aE (by omega) (by omega);rw [w4, w5];refine ⟨h.ix (by omega) (by omega), _, h.rd (by omega) (by omega), h.ix (by omega) (by omega), _, h.rd (by omega) (by omega), h.ix (by omega) (by omega), y2 ⟨h.ln (by omega) (by omega), (h.st (by omega) (by omega)).ix (by omega) (by omega), (h.st (by omega) (by omega)).ln (by omega) (by omega), ?_⟩⟩;have h' := fun v v' => (h.st (x := a) (v := v) (by omega) (by omega)).st (x := a + y) (v := v') (by omega) (by omega);refine (wL hN (h' _ _) (by omega) (by omega) h0 (by omega) (by omega)).mono ?_;rintro _ _ ⟨t, rfl, rfl, ht⟩;exact ⟨t, ⟨rfl, rfl⟩, ⟨⟨rfl, rfl, (h' _ _).eq ht⟩, trivial⟩, rfl, ⟨by omega, by omega, ht⟩, by dsimp only; omega⟩
theorem zdj (hN : N < 1000000) (h : YL N s) {a b : Int} (h0 : 0 <= a) (h1 : a < b) (h2 : b <= N) : Trn 43 [.own 0, .pv (.int .i64 a), .pv (.int .i64 b)] nl s N := by
 refine zc7 _ _ _ _ (fun x y s => 0 <= x /\ x <= N /\ -1 <= y /\ y < b /\ YL N s) (fun x y _ => (y + 1 - x).toNat) ?_;unfold wB;have w1 : i64.wrap (b - 1) = b - 1 := aE (by omega) (by omega);rw [w1];refine ⟨⟨rfl, by omega, by omega, by omega, by omega, h⟩, ?_⟩;clear h;rintro x y s ⟨x0, x1, y0, y1, h⟩;refine aH (fun hc => ?_) (fun hc => ⟨s, rfl, rfl, h⟩);simp only [aW] at hc;have w2 : i64.wrap (x + 1) = x + 1 := aE (by omega) (by omega);have w3 : i64.wrap (y - 1) = y - 1 := aE (by omega) (by omega);rw [w2, w3];exact ⟨h.ix (by omega) (by omega), _, h.rd (by omega) (by omega), h.ix (by omega) (by omega), _, h.rd (by omega) (by omega), h.ix (by omega) (by omega), h.ln (by omega) (by omega), (h.st (by omega) (by omega)).ix (by omega) (by omega), (h.st (by omega) (by omega)).ln (by omega) (by omega), rfl, ⟨by omega, by omega, by omega, by omega, (h.st (by omega) (by omega)).st (by omega) (by omega)⟩, by dsimp only; omega⟩
theorem qM {p q : Int} (h : YL N s) (hp : 0 <= p) (hq : q <= N) {a b : Int} (k : Int) (ha : p <= a /\ a < q) (hb : p <= b /\ b < q) : ACall qc 56 [.own 0, .pv (.int .i64 a), .pv (.int .i64 b), .box 1 0] [.sl (21, 1) false nl s, .box [.pv (.int .i64 k)]] fun r h' => ∃ t : Int × Int × Int, (r = .pv (.tup [.int .i64 t.1, .int .i64 t.2.1]) /\ h' = [.sl (21, 1) false nl s, .box [.pv (.int .i64 t.2.2)]]) /\ (p <= t.1 /\ t.1 < q) /\ (p <= t.2.1 /\ t.2.1 < q) := by
 refine ACall.tups (Q := fun r h' => ∃ t : Int × Int × Int, (r = .tup [.pv (.int .i64 t.1), .pv (.int .i64 t.2.1)] /\ h' = [.sl (21, 1) false nl s, .box [.pv (.int .i64 t.2.2)]]) /\ (p <= t.1 /\ t.1 < q) /\ (p <= t.2.1 /\ t.2.1 < q)) ?_ ?_
 ·refine zc8 _ _ _ _ _ ?_;unfold wC;exact ⟨h.ix (by omega) (by omega), _, h.rd (by omega) (by omega), h.ix (by omega) (by omega), _, h.rd (by omega) (by omega), (cU _ _).mono fun v hv => ⟨_, hv, aH (fun _ => ⟨(b, a, _), ⟨rfl, rfl⟩, hb, ha⟩) (fun _ => ⟨(a, b, _), ⟨rfl, rfl⟩, ha, hb⟩)⟩⟩
 ·rintro _ _ ⟨t, ⟨rfl, rfl⟩, h1, h2⟩;exact ⟨[.int .i64 t.1, .int .i64 t.2.1], rfl, t, ⟨rfl, rfl⟩, h1, h2⟩
abbrev wM (f : Nat) (args : List LV) (nl : Bool) (s : List (List PV)) (k p q : Int) : Prop := ACall qc f args [.sl (21, 1) false nl s, .box [.pv (.int .i64 k)]] fun r h' => ∃ t : Int × Int, (r = .pv (.int .i64 t.1) /\ h' = [.sl (21, 1) false nl s, .box [.pv (.int .i64 t.2)]]) /\ p <= t.1 /\ t.1 < q
theorem qN {p q : Int} (h : YL N s) (hp : 0 <= p) (hq : q <= N) {a b c : Int} (k : Int) (ha : p <= a /\ a < q) (hb : p <= b /\ b < q) (hc : p <= c /\ c < q) : wM 54 [.own 0, .pv (.int .i64 a), .pv (.int .i64 b), .pv (.int .i64 c), .box 1 0] nl s k p q := by
 refine zc9 _ _ _ _ _ _ ?_;unfold wD;refine (qM h hp hq k ha hb).mono ?_;rintro _ _ ⟨t, ⟨rfl, rfl⟩, t1, t2⟩;refine ⟨t, ⟨rfl, rfl⟩, ⟨trivial, ⟨rfl, rfl, rfl⟩, trivial⟩, (qM h hp hq _ t2 hc).mono ?_⟩;rintro _ _ ⟨u, ⟨rfl, rfl⟩, u1, u2⟩;refine ⟨u, ⟨rfl, rfl⟩, ⟨trivial, ⟨rfl, rfl, rfl⟩, trivial⟩, (qM h hp hq _ t1 u1).mono ?_⟩;rintro _ _ ⟨v, ⟨rfl, rfl⟩, v1, v2⟩;exact ⟨v, ⟨rfl, rfl⟩, ⟨trivial, ⟨rfl, rfl, rfl⟩, trivial⟩, (v.2.1, v.2.2), ⟨rfl, rfl⟩, v2.1, v2.2⟩
theorem qO (hN : N < 1000000) {p q : Int} (h : YL N s) (hp : 0 <= p) (hq : q <= N) {a : Int} (k : Int) (h1 : p + 1 <= a) (h2 : a + 1 < q) : wM 53 [.own 0, .pv (.int .i64 a), .box 1 0] nl s k p q := by
 refine zda _ _ _ _ ?_;unfold wE;have w2 : i64.wrap (a + 1) = a + 1 := aE (by omega) (by omega);have w3 : i64.wrap (a - 1) = a - 1 := aE (by omega) (by omega);rw [w2, w3];refine (qN h hp hq k (by omega) (by omega) (by omega)).mono ?_;rintro _ _ ⟨t, ⟨rfl, rfl⟩, t1, t2⟩;exact ⟨t, ⟨rfl, rfl⟩, ⟨trivial, ⟨rfl, rfl, rfl⟩, trivial⟩, t, ⟨rfl, rfl⟩, t1, t2⟩
theorem wN (hN : N < 1000000) (h : YL N s) {a b : Int} (h0 : 0 <= a) (h1 : a + 12 < b) (h2 : b <= N) : ACall qc 42 [.own 0, .pv (.int .i64 a), .pv (.int .i64 b)] [.sl (21, 1) false nl s] fun r h' => ∃ t : Int × Int, (r = .pv (.tup [.int .i64 t.1, .int .i64 t.2]) /\ h' = [.sl (21, 1) false nl s]) /\ a <= t.1 /\ t.1 < b := by
 refine ACall.tups (Q := fun r h' => ∃ t : Int × Int, (r = .tup [.pv (.int .i64 t.1), .pv (.int .i64 t.2)] /\ h' = [.sl (21, 1) false nl s]) /\ a <= t.1 /\ t.1 < b) ?_ ?_
 rotate_left
 ·rintro _ _ ⟨t, ⟨rfl, rfl⟩, h1, h2⟩;exact ⟨[.int .i64 t.1, .int .i64 t.2], rfl, t, ⟨rfl, rfl⟩, h1, h2⟩
 refine zdb _ _ _ _ ?_;unfold wF;have w1 : i64.wrap (b - a) = b - a := aE (by omega) (by omega);rw [w1, qL (by omega)];obtain ⟨l, hl⟩ : ∃ l, (b - a) / 4 = l := ⟨_, rfl⟩;rw [hl];have w2 : i64.wrap l = l := aE (by omega) (by omega);rw [w2];have w3 : i64.wrap (l * 1) = l := by rw [aE (by omega) (by omega)]; omega
 have w4 : i64.wrap (l * 2) = 2 * l := by rw [aE (by omega) (by omega)]; omega
 have w5 : i64.wrap (l * 3) = 3 * l := by rw [aE (by omega) (by omega)]; omega
 rw [w3, w4, w5];have w6 : i64.wrap (a + l) = a + l := aE (by omega) (by omega);have w7 : i64.wrap (a + 2 * l) = a + 2 * l := aE (by omega) (by omega);have w8 : i64.wrap (a + 3 * l) = a + 3 * l := aE (by omega) (by omega);rw [w6, w7, w8];refine aH (fun _ => ?_) (fun _ => ⟨(a + 2 * l, 1), ⟨rfl, rfl⟩, by dsimp only; omega, by dsimp only; omega⟩);have tri : YL N s -> True := fun _ => trivial;refine aH (fun _ => ?_) (fun _ => ?_)
 ·refine (qO hN h h0 h2 _ (by omega) (by omega)).mono ?_;rintro _ _ ⟨t, ⟨rfl, rfl⟩, t1⟩;refine ⟨t, ⟨rfl, rfl⟩, ⟨trivial, ⟨rfl, rfl, rfl⟩, trivial⟩, (qO hN h h0 h2 _ (by omega) (by omega)).mono ?_⟩;rintro _ _ ⟨u, ⟨rfl, rfl⟩, u1⟩;refine ⟨u, ⟨rfl, rfl⟩, ⟨trivial, ⟨rfl, rfl, rfl⟩, trivial⟩, (qO hN h h0 h2 _ (by omega) (by omega)).mono ?_⟩;rintro _ _ ⟨v, ⟨rfl, rfl⟩, v1⟩;refine ⟨v, ⟨rfl, rfl⟩, ⟨trivial, ⟨rfl, rfl, rfl⟩, trivial⟩, (qN h h0 h2 _ t1 u1 v1).mono ?_⟩;rintro _ _ ⟨x, ⟨rfl, rfl⟩, x1⟩;exact ⟨x, ⟨rfl, rfl⟩, ⟨trivial, ⟨rfl, rfl, rfl⟩, trivial⟩, aH (fun _ => ⟨(x.1, 1), ⟨rfl, rfl⟩, x1⟩) fun _ => aH (fun _ => ⟨(x.1, 2), ⟨rfl, rfl⟩, x1⟩) fun _ => ⟨(x.1, 0), ⟨rfl, rfl⟩, x1⟩⟩
 ·refine (qN h h0 h2 _ (by omega) (by omega) (by omega)).mono ?_;rintro _ _ ⟨x, ⟨rfl, rfl⟩, x1⟩;exact ⟨x, ⟨rfl, rfl⟩, ⟨trivial, ⟨rfl, rfl, rfl⟩, trivial⟩, aH (fun _ => ⟨(x.1, 1), ⟨rfl, rfl⟩, x1⟩) fun _ => aH (fun _ => ⟨(x.1, 2), ⟨rfl, rfl⟩, x1⟩) fun _ => ⟨(x.1, 0), ⟨rfl, rfl⟩, x1⟩⟩
end
end Go.Eng
namespace Go.Eng
open Go Go.Proofs
def qP (nl : Bool) (a b : Int) (x7 x8 : Int) (s_0 : LL) : Env × Hp := ([(0, LV.own 0), (1, Y6 a), (2, Y6 b), (7, Y6 x7), (8, Y6 x8)], [.sl (21, 1) false nl s_0])
def qQ (nl : Bool) (a b : Int) (x7 x8 : Int) (s_0 : LL) : Env × Hp := ([(0, LV.own 0), (1, Y6 a), (2, Y6 b), (7, Y6 x7), (8, Y6 x8)], [.sl (21, 1) false nl s_0])
def qR (nl : Bool) (a b : Int) (x7 x8 x9 : Int) (s_0 : LL) : Env × Hp := ([(0, LV.own 0), (1, Y6 a), (2, Y6 b), (7, Y6 x7), (8, Y6 x8), (9, Y6 x9)], [.sl (21, 1) false nl s_0])
def kI (nl : Bool) (a b : Int) (x7 x8 x10 : Int) (s_0 : LL) : Env × Hp := ([(0, LV.own 0), (1, Y6 a), (2, Y6 b), (7, Y6 x7), (8, Y6 x8), (10, Y6 x10)], [.sl (21, 1) false nl s_0])
section
variable (nl : Bool) (es : LL) (a b : Int) (J : Int -> Int -> LL -> Prop) (μ : Int -> Int -> LL -> Nat) (J2 : Int -> Int -> LL -> Int -> Int -> LL -> Prop) (μ2 : Int -> Int -> LL -> Nat) (J3 : Int -> Int -> Int -> LL -> Int -> Int -> Int -> LL -> Prop) (μ3 : Int -> Int -> Int -> LL -> Nat) (J4 : Int -> Int -> Int -> LL -> Int -> Int -> Int -> LL -> Prop) (μ4 : Int -> Int -> Int -> LL -> Nat)
def wO (R : LV -> Hp -> Prop) : Prop :=
 (aL (qP nl a b (i64.wrap (a + 1)) (0 : Int) es) /\ J (i64.wrap (a + 1)) (0 : Int) es) /\ ∀ (x7 x8 : Int) (s_0 : LL), J x7 x8 s_0 ->
 let K3 := fun (y0_ y1_ : Int) (y2_ : LL) => aL (qP nl a b y0_ y1_ y2_) /\ J y0_ y1_ y2_ /\ μ y0_ y1_ y2_ < μ x7 x8 s_0; if decide (x8 < 5) = true then (aL (qQ nl a b x7 x8 s_0) /\ J2 x7 x8 s_0 x7 x8 s_0) /\ ∀ (x71 x81 :
  Int) (s_01 : LL), J2 x7 x8 s_0 x71 x81 s_01 ->
 let V1 := if (x71 == b) = true then R (LV.pv (Zb true)) [Ob.sl (21, 1) false nl s_01] else if decide (i64.wrap (b - a) < 50) = true then R (LV.pv (Zb false)) [Ob.sl (21, (1 : Nat)) false nl s_01] else aB s_01 (i64.wrap
  (x71 - 1)) 1 /\ ∃ n2, (qa 0 (s_01.getD (i64.wrap (x71 - 1)).toNat [])).head? = some (Z3 n2) /\ aB s_01 x71 1 /\ ∃ n3, (qa 0 (s_01.getD x71.toNat [])).head? = some (Z3 n3) /\ aB s_01 x71 1 /\
 let V2 := (1 = 1 /\ 1 <= (s_01.getD x71.toNat []).length) /\ aB (s_01.set x71.toNat (Z3 n2 :: (qa 1 (s_01.getD x71.toNat [])))) (i64.wrap (x71 - 1)) 1 /\ (1 = 1 /\ 1 <= ((s_01.set x71.toNat (Z3 n2 :: (qa 1 (s_01.getD
  x71.toNat [])))).getD (i64.wrap (x71 - 1)).toNat []).length) /\ if decide (i64.wrap (x71 - a) >= 2) = true then (aL (qR nl a b x71 x81 (i64.wrap (x71 - 1)) ((s_01.set x71.toNat (Z3 n2 :: (qa 1
  (s_01.getD x71.toNat [])))).set (i64.wrap (x71 - 1)).toNat (Z3 n3 :: (qa 1 ((s_01.set x71.toNat (Z3 n2 :: (qa 1 (s_01.getD x71.toNat [])))).getD (i64.wrap (x71 - 1)).toNat []))))) /\ J3 x71 x81
  (i64.wrap (x71 - 1)) ((s_01.set x71.toNat (Z3 n2 :: (qa 1 (s_01.getD x71.toNat [])))).set (i64.wrap (x71 - 1)).toNat (Z3 n3 :: (qa 1 ((s_01.set x71.toNat (Z3 n2 :: (qa 1 (s_01.getD x71.toNat
  [])))).getD (i64.wrap (x71 - 1)).toNat [])))) x71 x81 (i64.wrap (x71 - 1)) ((s_01.set x71.toNat (Z3 n2 :: (qa 1 (s_01.getD x71.toNat [])))).set (i64.wrap (x71 - 1)).toNat (Z3 n3 :: (qa 1 ((s_01.set
  x71.toNat (Z3 n2 :: (qa 1 (s_01.getD x71.toNat [])))).getD (i64.wrap (x71 - 1)).toNat []))))) /\ ∀ (x72 x82 x9 : Int) (s_02 : LL), J3 x71 x81 (i64.wrap (x71 - 1)) ((s_01.set x71.toNat (Z3 n2 :: (qa 1
  (s_01.getD x71.toNat [])))).set (i64.wrap (x71 - 1)).toNat (Z3 n3 :: (qa 1 ((s_01.set x71.toNat (Z3 n2 :: (qa 1 (s_01.getD x71.toNat [])))).getD (i64.wrap (x71 - 1)).toNat [])))) x72 x82 x9 s_02 ->
 let V3 := if decide (i64.wrap (b - x72) >= 2) = true then (aL (kI nl a b x72 x82 (i64.wrap (x72 + 1)) s_02) /\ J4 x72 x82 (i64.wrap (x72 + 1)) s_02 x72 x82 (i64.wrap (x72 + 1)) s_02) /\ ∀ (x73 x83 x10 :
  Int) (s_03 : LL), J4 x72 x82 (i64.wrap (x72 + 1)) s_02 x73 x83 x10 s_03 ->
 let V4 := K3 x73 (i64.wrap (x83 + 1)) s_03; if decide (x10 < b) = true then aB s_03 x10 1 /\ ∃ n6, (qa 0 (s_03.getD x10.toNat [])).head? = some (Z3 n6) /\ aB s_03 (i64.wrap (x10 - 1)) 1 /\ ∃ (n7 : Int),
  (qa 0 (s_03.getD (i64.wrap (x10 - 1)).toNat [])).head? = some (Z3 n7) /\ PCall qc 45 [Z3 n6, Z3 n7] fun v2 => ∃ b3, v2 = Zb b3 /\ if (!b3) = true then V4 else aB s_03 (i64.wrap (x10 - 1)) 1 /\
  ∃ n8, (qa 0 (s_03.getD (i64.wrap (x10 - 1)).toNat [])).head? = some (Z3 n8) /\ aB s_03 x10 1 /\ ∃ n9, (qa 0 (s_03.getD x10.toNat [])).head? = some (Z3 n9) /\ aB s_03 x10 1 /\
 let V5 := (1 = 1 /\ 1 <= (s_03.getD x10.toNat []).length) /\ aB (s_03.set x10.toNat (Z3 n8 :: (qa 1 (s_03.getD x10.toNat [])))) (i64.wrap (x10 - 1)) 1 /\ (1 = 1 /\ 1 <= ((s_03.set x10.toNat (Z3 n8 :: (qa 1 (s_03.getD
  x10.toNat [])))).getD (i64.wrap (x10 - 1)).toNat []).length) /\ aL (kI nl a b x73 x83 (i64.wrap (x10 + 1)) ((s_03.set x10.toNat (Z3 n8 :: (qa 1 (s_03.getD x10.toNat [])))).set (i64.wrap (x10 -
  1)).toNat (Z3 n9 :: (qa 1 ((s_03.set x10.toNat (Z3 n8 :: (qa 1 (s_03.getD x10.toNat [])))).getD (i64.wrap (x10 - 1)).toNat []))))) /\ J4 x72 x82 (i64.wrap (x72 + 1)) s_02 x73 x83 (i64.wrap (x10 + 1))
  ((s_03.set x10.toNat (Z3 n8 :: (qa 1 (s_03.getD x10.toNat [])))).set (i64.wrap (x10 - 1)).toNat (Z3 n9 :: (qa 1 ((s_03.set x10.toNat (Z3 n8 :: (qa 1 (s_03.getD x10.toNat [])))).getD (i64.wrap (x10 -
  1)).toNat [])))) /\ μ4 x73 x83 (i64.wrap (x10 + 1)) ((s_03.set x10.toNat (Z3 n8 :: (qa 1 (s_03.getD x10.toNat [])))).set (i64.wrap (x10 - 1)).toNat (Z3 n9 :: (qa 1 ((s_03.set x10.toNat (Z3 n8 :: (qa 1
  (s_03.getD x10.toNat [])))).getD (i64.wrap (x10 - 1)).toNat [])))) < μ4 x73 x83 x10 s_03; V5 /\ V5 else V4 else K3 x72 (i64.wrap (x82 + 1)) s_02; if decide (x9 >= 1) = true then aB s_02 x9 1 /\ ∃ n4, (qa 0
  (s_02.getD x9.toNat [])).head? = some (Z3 n4) /\ aB s_02 (i64.wrap (x9 - 1)) 1 /\ ∃ n5, (qa 0 (s_02.getD (i64.wrap (x9 - 1)).toNat [])).head? = some (Z3 n5) /\ PCall qc 45 [Z3 n4, Z3 n5] fun (v1 : PV)
  => ∃ b2, v1 = Zb b2 /\ if (!b2) = true then V3 else aB s_02 (i64.wrap (x9 - 1)) 1 /\ ∃ n6, (qa 0 (s_02.getD (i64.wrap (x9 - 1)).toNat [])).head? = some (Z3 n6) /\ aB s_02 x9 1 /\ ∃ (n7 : Int),
  (qa 0 (s_02.getD x9.toNat [])).head? = some (Z3 n7) /\ aB s_02 x9 1 /\
 let V6 := (1 = 1 /\ 1 <= (s_02.getD x9.toNat []).length) /\ aB (s_02.set x9.toNat (Z3 n6 :: (qa 1 (s_02.getD x9.toNat [])))) (i64.wrap (x9 - 1)) 1 /\ (1 = 1 /\ 1 <= ((s_02.set x9.toNat (Z3 n6 :: (qa 1 (s_02.getD x9.toNat
  [])))).getD (i64.wrap (x9 - 1)).toNat []).length) /\ aL (qR nl a b x72 x82 (i64.wrap (x9 - 1)) ((s_02.set x9.toNat (Z3 n6 :: (qa 1 (s_02.getD x9.toNat [])))).set (i64.wrap (x9 - 1)).toNat (Z3 n7 ::
  (qa 1 ((s_02.set x9.toNat (Z3 n6 :: (qa 1 (s_02.getD x9.toNat [])))).getD (i64.wrap (x9 - 1)).toNat []))))) /\ J3 x71 x81 (i64.wrap (x71 - 1)) ((s_01.set x71.toNat (Z3 n2 :: (qa 1 (s_01.getD x71.toNat
  [])))).set (i64.wrap (x71 - 1)).toNat (Z3 n3 :: (qa 1 ((s_01.set x71.toNat (Z3 n2 :: (qa 1 (s_01.getD x71.toNat [])))).getD (i64.wrap (x71 - 1)).toNat [])))) x72 x82 (i64.wrap (x9 - 1)) ((s_02.set
  x9.toNat (Z3 n6 :: (qa 1 (s_02.getD x9.toNat [])))).set (i64.wrap (x9 - 1)).toNat (Z3 n7 :: (qa 1 ((s_02.set x9.toNat (Z3 n6 :: (qa 1 (s_02.getD x9.toNat [])))).getD (i64.wrap (x9 - 1)).toNat [])))) /\
  μ3 x72 x82 (i64.wrap (x9 - 1)) ((s_02.set x9.toNat (Z3 n6 :: (qa 1 (s_02.getD x9.toNat [])))).set (i64.wrap (x9 - 1)).toNat (Z3 n7 :: (qa 1 ((s_02.set x9.toNat (Z3 n6 :: (qa 1 (s_02.getD x9.toNat
  [])))).getD (i64.wrap (x9 - 1)).toNat [])))) < μ3 x72 x82 x9 s_02; V6 /\ V6 else V3 else if decide (i64.wrap (b - x71) >= 2) = true then (aL (kI nl a b x71 x81 (i64.wrap (x71 + 1)) ((s_01.set x71.toNat (Z3 n2
  :: (qa 1 (s_01.getD x71.toNat [])))).set (i64.wrap (x71 - 1)).toNat (Z3 n3 :: (qa 1 ((s_01.set x71.toNat (Z3 n2 :: (qa 1 (s_01.getD x71.toNat [])))).getD (i64.wrap (x71 - 1)).toNat []))))) /\ J4 x71
  x81 (i64.wrap (x71 + 1)) ((s_01.set x71.toNat (Z3 n2 :: (qa 1 (s_01.getD x71.toNat [])))).set (i64.wrap (x71 - 1)).toNat (Z3 n3 :: (qa 1 ((s_01.set x71.toNat (Z3 n2 :: (qa 1 (s_01.getD x71.toNat
  [])))).getD (i64.wrap (x71 - 1)).toNat [])))) x71 x81 (i64.wrap (x71 + 1)) ((s_01.set x71.toNat (Z3 n2 :: (qa 1 (s_01.getD x71.toNat [])))).set (i64.wrap (x71 - 1)).toNat (Z3 n3 :: (qa 1 ((s_01.set
  x71.toNat (Z3 n2 :: (qa 1 (s_01.getD x71.toNat [])))).getD (i64.wrap (x71 - 1)).toNat []))))) /\ ∀ (x72 x82 x10 : Int) (s_02 : LL), J4 x71 x81 (i64.wrap (x71 + 1)) ((s_01.set x71.toNat (Z3 n2 :: (qa 1
  (s_01.getD x71.toNat [])))).set (i64.wrap (x71 - 1)).toNat (Z3 n3 :: (qa 1 ((s_01.set x71.toNat (Z3 n2 :: (qa 1 (s_01.getD x71.toNat [])))).getD (i64.wrap (x71 - 1)).toNat [])))) x72 x82 x10 s_02 ->
 let V7 := K3 x72 (i64.wrap (x82 + 1)) s_02; if decide (x10 < b) = true then aB s_02 x10 1 /\ ∃ n4, (qa 0 (s_02.getD x10.toNat [])).head? = some (Z3 n4) /\ aB s_02 (i64.wrap (x10 - 1)) 1 /\ ∃ (n5 : Int),
  (qa 0 (s_02.getD (i64.wrap (x10 - 1)).toNat [])).head? = some (Z3 n5) /\ PCall qc 45 [Z3 n4, Z3 n5] fun v1 => ∃ b2, v1 = Zb b2 /\ if (!b2) = true then V7 else aB s_02 (i64.wrap (x10 - 1)) 1 /\
  ∃ n6, (qa 0 (s_02.getD (i64.wrap (x10 - 1)).toNat [])).head? = some (Z3 n6) /\ aB s_02 x10 1 /\ ∃ n7, (qa 0 (s_02.getD x10.toNat [])).head? = some (Z3 n7) /\ aB s_02 x10 1 /\
 let V8 := (1 = 1 /\ 1 <= (s_02.getD x10.toNat []).length) /\ aB (s_02.set x10.toNat (Z3 n6 :: (qa 1 (s_02.getD x10.toNat [])))) (i64.wrap (x10 - 1)) 1 /\ (1 = 1 /\ 1 <= ((s_02.set x10.toNat (Z3 n6 :: (qa 1 (s_02.getD
  x10.toNat [])))).getD (i64.wrap (x10 - 1)).toNat []).length) /\ aL (kI nl a b x72 x82 (i64.wrap (x10 + 1)) ((s_02.set x10.toNat (Z3 n6 :: (qa 1 (s_02.getD x10.toNat [])))).set (i64.wrap (x10 -
  1)).toNat (Z3 n7 :: (qa 1 ((s_02.set x10.toNat (Z3 n6 :: (qa 1 (s_02.getD x10.toNat [])))).getD (i64.wrap (x10 - 1)).toNat []))))) /\ J4 x71 x81 (i64.wrap (x71 + 1)) ((s_01.set x71.toNat (Z3 n2 :: (qa
  1 (s_01.getD x71.toNat [])))).set (i64.wrap (x71 - 1)).toNat (Z3 n3 :: (qa 1 ((s_01.set x71.toNat (Z3 n2 :: (qa 1 (s_01.getD x71.toNat [])))).getD (i64.wrap (x71 - 1)).toNat [])))) x72 x82 (i64.wrap
  (x10 + 1)) ((s_02.set x10.toNat (Z3 n6 :: (qa 1 (s_02.getD x10.toNat [])))).set (i64.wrap (x10 - 1)).toNat (Z3 n7 :: (qa 1 ((s_02.set x10.toNat (Z3 n6 :: (qa 1 (s_02.getD x10.toNat [])))).getD
  (i64.wrap (x10 - 1)).toNat [])))) /\ μ4 x72 x82 (i64.wrap (x10 + 1)) ((s_02.set x10.toNat (Z3 n6 :: (qa 1 (s_02.getD x10.toNat [])))).set (i64.wrap (x10 - 1)).toNat (Z3 n7 :: (qa 1 ((s_02.set
  x10.toNat (Z3 n6 :: (qa 1 (s_02.getD x10.toNat [])))).getD (i64.wrap (x10 - 1)).toNat [])))) < μ4 x72 x82 x10 s_02; V8 /\ V8 else V7 else K3 x71 (i64.wrap (x81 + 1)) ((s_01.set x71.toNat (Z3 n2 :: (qa 1
  (s_01.getD x71.toNat [])))).set (i64.wrap (x71 - 1)).toNat (Z3 n3 :: (qa 1 ((s_01.set x71.toNat (Z3 n2 :: (qa 1 (s_01.getD x71.toNat [])))).getD (i64.wrap (x71 - 1)).toNat [])))); V2 /\ V2; if decide (x71 <
  b) = true then aB s_01 x71 1 /\ ∃ n, (qa 0 (s_01.getD x71.toNat [])).head? = some (Z3 n) /\ aB s_01 (i64.wrap (x71 - 1)) 1 /\ ∃ n1, (qa 0 (s_01.getD (i64.wrap (x71 - 1)).toNat [])).head? =
  some (Z3 n1) /\ PCall qc 45 [Z3 n, Z3 n1] fun v => ∃ b1, v = Zb b1 /\ if (!b1) = true then aL (qQ nl a b (i64.wrap (x71 + 1)) x81 s_01) /\ J2 x7 x8 s_0 (i64.wrap (x71 + 1)) x81 s_01 /\ μ2
  (i64.wrap (x71 + 1)) x81 s_01 < μ2 x71 x81 s_01 else V1 else V1 else R (LV.pv (Zb false)) [Ob.sl (21, (1 : Nat)) false nl s_0]
theorem zdk {R : LV -> Hp -> Prop} (h : wO nl es a b J μ J2 μ2 J3 μ3 J4 μ4 R) : ACall qc 44 [.own 0, .pv (.int .i64 a), .pv (.int .i64 b)] [.sl (21, 1) false nl es] R :=
 ACall.wz Try.func44 bZ [0, 1, 2, 6, 7, 8, 9, 10, 14, 32, 37, 41, 61, 65, 78, 98, 103, 116] (lkz [(3, (cM dJ (qP nl a b) J μ (fun e h => (gI e 7, gI e 8, oS h 0)) [] [0, 1, 2, 7, 8] [])), (5, (fU dJ (qQ nl a b) J2 μ2 (fun e h => (gI e 7, gI e 8, oS h 0)) [] [0, 1, 2, 7, 8] [])), (14, (fU cz4 (qR nl a b) J3 μ3 (fun e h => (gI e 7, gI e 8, gI e 9, oS h 0)) [] [0, 1, 2, 7, 8, 9] [])), (20, (fU cz4 (kI nl a b) J4 μ4 (fun e h => (gI e 7, gI e 8, gI e 10, oS h 0)) [] [0, 1, 2, 7, 8, 10] []))]) [0] h
end
def kJ (nl : Bool) (a x9 x10 : Int) (s_0 : LL) : Env × Hp := ([(0, LV.own 0), (1, Y6 a), (9, Y6 x9), (10, Y6 x10)], [.sl (21, 1) false nl s_0])
def qS (nl : Bool) (a x9 x10 : Int) (s_0 : LL) : Env × Hp := ([(0, LV.own 0), (1, Y6 a), (9, Y6 x9), (10, Y6 x10)], [.sl (21, 1) false nl s_0])
section
variable (nl : Bool) (es : LL) (a b : Int) (c : Int) (J : Int -> Int -> LL -> Int -> Int -> LL -> Prop) (μ : Int -> Int -> LL -> Nat) (J2 : Int -> Int -> LL -> Int -> Int -> LL -> Prop) (μ2 : Int -> Int -> LL -> Nat)
def wP (R : LV -> Hp -> Prop) : Prop :=
 aB es c 1 /\ ∃ n, (qa 0 (es.getD c.toNat [])).head? = some (Z3 n) /\ aB es a 1 /\ ∃ n1, (qa 0 (es.getD a.toNat [])).head? = some (Z3 n1) /\ aB es a 1 /\ (1 = 1 /\ 1 <= (es.getD a.toNat []).length) /\ aB
  (es.set a.toNat (Z3 n :: (qa 1 (es.getD a.toNat [])))) c 1 /\ (1 = 1 /\ 1 <= ((es.set a.toNat (Z3 n :: (qa 1 (es.getD a.toNat [])))).getD c.toNat []).length) /\ (aL (kJ nl a (i64.wrap (a + 1)) (i64.wrap (b
  - 1)) ((es.set a.toNat (Z3 n :: (qa 1 (es.getD a.toNat [])))).set c.toNat (Z3 n1 :: (qa 1 ((es.set a.toNat (Z3 n :: (qa 1 (es.getD a.toNat [])))).getD c.toNat []))))) /\ J (i64.wrap (a + 1)) (i64.wrap
  (b - 1)) ((es.set a.toNat (Z3 n :: (qa 1 (es.getD a.toNat [])))).set c.toNat (Z3 n1 :: (qa 1 ((es.set a.toNat (Z3 n :: (qa 1 (es.getD a.toNat [])))).getD c.toNat [])))) (i64.wrap (a + 1)) (i64.wrap (b
  - 1)) ((es.set a.toNat (Z3 n :: (qa 1 (es.getD a.toNat [])))).set c.toNat (Z3 n1 :: (qa 1 ((es.set a.toNat (Z3 n :: (qa 1 (es.getD a.toNat [])))).getD c.toNat []))))) /\ ∀ (x9 x10 : Int) (s_0 : LL), J
  (i64.wrap (a + 1)) (i64.wrap (b - 1)) ((es.set a.toNat (Z3 n :: (qa 1 (es.getD a.toNat [])))).set c.toNat (Z3 n1 :: (qa 1 ((es.set a.toNat (Z3 n :: (qa 1 (es.getD a.toNat [])))).getD c.toNat [])))) x9
  x10 s_0 -> (aL (kJ nl a x9 x10 s_0) /\ J x9 x10 s_0 x9 x10 s_0) /\ ∀ (x91 x101 : Int) (s_01 : LL), J x9 x10 s_0 x91 x101 s_01 ->
 let V1 := (aL (qS nl a x91 x101 s_01) /\ J2 x91 x101 s_01 x91 x101 s_01) /\ ∀ (x92 x102 : Int) (s_02 : LL), J2 x91 x101 s_01 x92 x102 s_02 ->
 let V2 := if decide (x92 > x102) = true then R (Y6 x92) [Ob.sl (21, 1) false nl s_02] else aB s_02 x102 1 /\ ∃ n6, (qa 0 (s_02.getD x102.toNat [])).head? = some (Z3 n6) /\ aB s_02 x92 1 /\ ∃ n7, (qa 0
  (s_02.getD x92.toNat [])).head? = some (Z3 n7) /\ aB s_02 x92 1 /\ (1 = 1 /\ 1 <= (s_02.getD x92.toNat []).length) /\ aB (s_02.set x92.toNat (Z3 n6 :: (qa 1 (s_02.getD x92.toNat [])))) x102 1 /\ (1 = 1 /\ 1 <= ((s_02.set x92.toNat
  (Z3 n6 :: (qa 1 (s_02.getD x92.toNat [])))).getD x102.toNat []).length) /\ aL (kJ nl a (i64.wrap (x92 + 1)) (i64.wrap (x102 - 1)) ((s_02.set x92.toNat (Z3 n6 :: (qa 1 (s_02.getD x92.toNat [])))).set
  x102.toNat (Z3 n7 :: (qa 1 ((s_02.set x92.toNat (Z3 n6 :: (qa 1 (s_02.getD x92.toNat [])))).getD x102.toNat []))))) /\ J (i64.wrap (a + 1)) (i64.wrap (b - 1)) ((es.set a.toNat (Z3 n :: (qa 1 (es.getD
  a.toNat [])))).set c.toNat (Z3 n1 :: (qa 1 ((es.set a.toNat (Z3 n :: (qa 1 (es.getD a.toNat [])))).getD c.toNat [])))) (i64.wrap (x92 + 1)) (i64.wrap (x102 - 1)) ((s_02.set x92.toNat (Z3 n6 :: (qa 1
  (s_02.getD x92.toNat [])))).set x102.toNat (Z3 n7 :: (qa 1 ((s_02.set x92.toNat (Z3 n6 :: (qa 1 (s_02.getD x92.toNat [])))).getD x102.toNat [])))) /\ μ (i64.wrap (x92 + 1)) (i64.wrap (x102 - 1)) ((s_02.set
  x92.toNat (Z3 n6 :: (qa 1 (s_02.getD x92.toNat [])))).set x102.toNat (Z3 n7 :: (qa 1 ((s_02.set x92.toNat (Z3 n6 :: (qa 1 (s_02.getD x92.toNat [])))).getD x102.toNat [])))) < μ x9 x10 s_0; if decide (x92 <= x102) =
  true then aB s_02 a 1 /\ ∃ n4, (qa 0 (s_02.getD a.toNat [])).head? = some (Z3 n4) /\ aB s_02 x102 1 /\ ∃ n5, (qa 0 (s_02.getD x102.toNat [])).head? = some (Z3 n5) /\ PCall qc 45 [Z3 n4, Z3 n5] fun
  (v1 : PV) => ∃ b2, v1 = Zb b2 /\ if b2 = true then aL (qS nl a x92 (i64.wrap (x102 - 1)) s_02) /\ J2 x91 x101 s_01 x92 (i64.wrap (x102 - 1)) s_02 /\ μ2 x92 (i64.wrap (x102 - 1)) s_02 < μ2 x92 x102 s_02
  else V2 else V2; if decide (x91 <= x101) = true then aB s_01 a 1 /\ ∃ n2, (qa 0 (s_01.getD a.toNat [])).head? = some (Z3 n2) /\ aB s_01 x91 1 /\ ∃ n3, (qa 0 (s_01.getD x91.toNat [])).head? = some (Z3 n3) /\
  PCall qc 45 [Z3 n2, Z3 n3] fun v => ∃ b1, v = Zb b1 /\ if (!b1) = true then aL (kJ nl a (i64.wrap (x91 + 1)) x101 s_01) /\ J x9 x10 s_0 (i64.wrap (x91 + 1)) x101 s_01 /\ μ (i64.wrap (x91 +
  1)) x101 s_01 < μ x91 x101 s_01 else V1 else V1
theorem zdl {R : LV -> Hp -> Prop} (h : wP nl es a b c J μ J2 μ2 R) : ACall qc 46 [.own 0, .pv (.int .i64 a), .pv (.int .i64 b), .pv (.int .i64 c)] [.sl (21, 1) false nl es] R :=
 ACall.wz Try.func46 bZ [0, 1, 2, 3, 8, 9, 10, 43, 59, 64] (lkz [(3, (fU dJ (kJ nl a) J μ (fun e h => (gI e 9, gI e 10, oS h 0)) [] [0, 1, 9, 10] [])), (5, (fU dJ (qS nl a) J2 μ2 (fun e h => (gI e 9, gI e 10, oS h 0)) [] [0, 1, 9, 10] []))]) [0] h
end
def qT (nl : Bool) (a b : Int) (x10 : Int) (s_0 : LL) : Env × Hp := ([(0, LV.own 0), (1, Y6 a), (10, Y6 x10), (11, LV.pv (PV.int i64 (i64.wrap (b - 1))))], [.sl (21, 1) false nl s_0])
def qU (nl : Bool) (a x10 x11 : Int) (s_0 : LL) : Env × Hp := ([(0, LV.own 0), (1, Y6 a), (10, Y6 x10), (11, Y6 x11)], [.sl (21, 1) false nl s_0])
def kK (nl : Bool) (a x10 x11 : Int) (s_0 : LL) : Env × Hp := ([(0, LV.own 0), (1, Y6 a), (10, Y6 x10), (11, Y6 x11)], [.sl (21, 1) false nl s_0])
def qV (nl : Bool) (a x10 x11 : Int) (s_0 : LL) : Env × Hp := ([(0, LV.own 0), (1, Y6 a), (10, Y6 x10), (11, Y6 x11)], [.sl (21, 1) false nl s_0])
section
variable (nl : Bool) (es : LL) (a b : Int) (c : Int) (J : Int -> LL -> Prop) (μ : Int -> LL -> Nat) (J2 : Int -> Int -> LL -> Prop) (μ2 : Int -> Int -> LL -> Nat) (J3 : Int -> Int -> LL -> Int -> Int -> LL -> Prop) (μ3 : Int -> Int -> LL -> Nat) (J4 : Int -> Int -> LL -> Int -> Int -> LL -> Prop) (μ4 : Int -> Int -> LL -> Nat)
def wQ (R : LV -> Hp -> Prop) : Prop :=
 aB es c 1 /\ ∃ n, (qa 0 (es.getD c.toNat [])).head? = some (Z3 n) /\ aB es a 1 /\ ∃ n1, (qa 0 (es.getD a.toNat [])).head? = some (Z3 n1) /\ aB es a 1 /\ (1 = 1 /\ 1 <= (es.getD a.toNat []).length) /\ aB
  (es.set a.toNat (Z3 n :: (qa 1 (es.getD a.toNat [])))) c 1 /\ (1 = 1 /\ 1 <= ((es.set a.toNat (Z3 n :: (qa 1 (es.getD a.toNat [])))).getD c.toNat []).length) /\ (aL (qT nl a b (i64.wrap (a + 1)) ((es.set a.toNat
  (Z3 n :: (qa 1 (es.getD a.toNat [])))).set c.toNat (Z3 n1 :: (qa 1 ((es.set a.toNat (Z3 n :: (qa 1 (es.getD a.toNat [])))).getD c.toNat []))))) /\ J (i64.wrap (a + 1)) ((es.set a.toNat (Z3 n :: (qa 1
  (es.getD a.toNat [])))).set c.toNat (Z3 n1 :: (qa 1 ((es.set a.toNat (Z3 n :: (qa 1 (es.getD a.toNat [])))).getD c.toNat []))))) /\ ∀ (x10 : Int) (s_0 : LL), J x10 s_0 ->
 let V1 := (aL (qU nl a x10 (i64.wrap (b - 1)) s_0) /\ J2 x10 (i64.wrap (b - 1)) s_0) /\ ∀ (x101 x11 : Int) (s_01 : LL), J2 x101 x11 s_01 ->
 let V2 := if decide (x101 > x11) = true then aB s_01 a 1 /\ ∃ n6, (qa 0 (s_01.getD a.toNat [])).head? = some (Z3 n6) /\ aB s_01 x11 1 /\ ∃ n7, (qa 0 (s_01.getD x11.toNat [])).head? = some (Z3 n7) /\ aB
  s_01 x11 1 /\ (1 = 1 /\ 1 <= (s_01.getD x11.toNat []).length) /\ aB (s_01.set x11.toNat (Z3 n6 :: (qa 1 (s_01.getD x11.toNat [])))) a 1 /\ (1 = 1 /\ 1 <= ((s_01.set x11.toNat (Z3 n6 :: (qa 1 (s_01.getD x11.toNat [])))).getD
  a.toNat []).length) /\ R (LV.tup [Y6 x11, LV.pv (Zb true)]) [Ob.sl (21, 1) false nl ((s_01.set x11.toNat (Z3 n6 :: (qa 1 (s_01.getD x11.toNat [])))).set a.toNat (Z3 n7 :: (qa 1 ((s_01.set x11.toNat (Z3 n6 :: (qa 1
  (s_01.getD x11.toNat [])))).getD a.toNat []))))] else aB s_01 x11 1 /\ ∃ n6, (qa 0 (s_01.getD x11.toNat [])).head? = some (Z3 n6) /\ aB s_01 x101 1 /\ ∃ n7, (qa 0 (s_01.getD x101.toNat [])).head? = some
  (Z3 n7) /\ aB s_01 x101 1 /\ (1 = 1 /\ 1 <= (s_01.getD x101.toNat []).length) /\ aB (s_01.set x101.toNat (Z3 n6 :: (qa 1 (s_01.getD x101.toNat [])))) x11 1 /\ (1 = 1 /\ 1 <= ((s_01.set x101.toNat (Z3 n6 :: (qa 1 (s_01.getD
  x101.toNat [])))).getD x11.toNat []).length) /\ (aL (kK nl a (i64.wrap (x101 + 1)) (i64.wrap (x11 - 1)) ((s_01.set x101.toNat (Z3 n6 :: (qa 1 (s_01.getD x101.toNat [])))).set x11.toNat (Z3 n7 :: (qa 1
  ((s_01.set x101.toNat (Z3 n6 :: (qa 1 (s_01.getD x101.toNat [])))).getD x11.toNat []))))) /\ J3 (i64.wrap (x101 + 1)) (i64.wrap (x11 - 1)) ((s_01.set x101.toNat (Z3 n6 :: (qa 1 (s_01.getD x101.toNat
  [])))).set x11.toNat (Z3 n7 :: (qa 1 ((s_01.set x101.toNat (Z3 n6 :: (qa 1 (s_01.getD x101.toNat [])))).getD x11.toNat [])))) (i64.wrap (x101 + 1)) (i64.wrap (x11 - 1)) ((s_01.set x101.toNat (Z3 n6 ::
  (qa 1 (s_01.getD x101.toNat [])))).set x11.toNat (Z3 n7 :: (qa 1 ((s_01.set x101.toNat (Z3 n6 :: (qa 1 (s_01.getD x101.toNat [])))).getD x11.toNat []))))) /\ ∀ (x102 x111 : Int) (s_02 : LL), J3 (i64.wrap (x101
  + 1)) (i64.wrap (x11 - 1)) ((s_01.set x101.toNat (Z3 n6 :: (qa 1 (s_01.getD x101.toNat [])))).set x11.toNat (Z3 n7 :: (qa 1 ((s_01.set x101.toNat (Z3 n6 :: (qa 1 (s_01.getD x101.toNat [])))).getD x11.toNat
  [])))) x102 x111 s_02 -> (aL (kK nl a x102 x111 s_02) /\ J3 x102 x111 s_02 x102 x111 s_02) /\ ∀ (x103 x112 : Int) (s_03 : LL), J3 x102 x111 s_02 x103 x112 s_03 ->
 let V3 := (aL (qV nl a x103 x112 s_03) /\ J4 x103 x112 s_03 x103 x112 s_03) /\ ∀ (x104 x113 : Int) (s_04 : LL), J4 x103 x112 s_03 x104 x113 s_04 ->
 let V4 := if decide (x104 > x113) = true then aB s_04 a 1 /\ ∃ n12, (qa 0 (s_04.getD a.toNat [])).head? = some (Z3 n12) /\ aB s_04 x113 1 /\ ∃ n13, (qa 0 (s_04.getD x113.toNat [])).head? = some (Z3 n13) /\
  aB s_04 x113 1 /\ (1 = 1 /\ 1 <= (s_04.getD x113.toNat []).length) /\ aB (s_04.set x113.toNat (Z3 n12 :: (qa 1 (s_04.getD x113.toNat [])))) a 1 /\ (1 = 1 /\ 1 <= ((s_04.set x113.toNat (Z3 n12 :: (qa 1 (s_04.getD x113.toNat
  [])))).getD a.toNat []).length) /\ R (LV.tup [Y6 x113, LV.pv (Zb false)]) [Ob.sl (21, 1) false nl ((s_04.set x113.toNat (Z3 n12 :: (qa 1 (s_04.getD x113.toNat [])))).set a.toNat (Z3 n13 :: (qa 1 ((s_04.set x113.toNat (Z3 n12
  :: (qa 1 (s_04.getD x113.toNat [])))).getD a.toNat []))))] else aB s_04 x113 1 /\ ∃ n12, (qa 0 (s_04.getD x113.toNat [])).head? = some (Z3 n12) /\ aB s_04 x104 1 /\ ∃ n13, (qa 0 (s_04.getD
  x104.toNat [])).head? = some (Z3 n13) /\ aB s_04 x104 1 /\ (1 = 1 /\ 1 <= (s_04.getD x104.toNat []).length) /\ aB (s_04.set x104.toNat (Z3 n12 :: (qa 1 (s_04.getD x104.toNat [])))) x113 1 /\ (1 = 1 /\ 1 <= ((s_04.set x104.toNat (Z3
  n12 :: (qa 1 (s_04.getD x104.toNat [])))).getD x113.toNat []).length) /\ aL (kK nl a (i64.wrap (x104 + 1)) (i64.wrap (x113 - 1)) ((s_04.set x104.toNat (Z3 n12 :: (qa 1 (s_04.getD x104.toNat [])))).set
  x113.toNat (Z3 n13 :: (qa 1 ((s_04.set x104.toNat (Z3 n12 :: (qa 1 (s_04.getD x104.toNat [])))).getD x113.toNat []))))) /\ J3 (i64.wrap (x101 + 1)) (i64.wrap (x11 - 1)) ((s_01.set x101.toNat (Z3 n6 ::
  (qa 1 (s_01.getD x101.toNat [])))).set x11.toNat (Z3 n7 :: (qa 1 ((s_01.set x101.toNat (Z3 n6 :: (qa 1 (s_01.getD x101.toNat [])))).getD x11.toNat [])))) (i64.wrap (x104 + 1)) (i64.wrap (x113 - 1))
  ((s_04.set x104.toNat (Z3 n12 :: (qa 1 (s_04.getD x104.toNat [])))).set x113.toNat (Z3 n13 :: (qa 1 ((s_04.set x104.toNat (Z3 n12 :: (qa 1 (s_04.getD x104.toNat [])))).getD x113.toNat [])))) /\ μ3 (i64.wrap
  (x104 + 1)) (i64.wrap (x113 - 1)) ((s_04.set x104.toNat (Z3 n12 :: (qa 1 (s_04.getD x104.toNat [])))).set x113.toNat (Z3 n13 :: (qa 1 ((s_04.set x104.toNat (Z3 n12 :: (qa 1 (s_04.getD x104.toNat [])))).getD
  x113.toNat [])))) < μ3 x102 x111 s_02; if decide (x104 <= x113) = true then aB s_04 x113 1 /\ ∃ n10, (qa 0 (s_04.getD x113.toNat [])).head? = some (Z3 n10) /\ aB s_04 a 1 /\ ∃ n11, (qa 0 (s_04.getD a.toNat
  [])).head? = some (Z3 n11) /\ PCall qc 45 [Z3 n10, Z3 n11] fun v3 => ∃ b4, v3 = Zb b4 /\ if (!b4) = true then aL (qV nl a x104 (i64.wrap (x113 - 1)) s_04) /\ J4 x103 x112 s_03 x104 (i64.wrap (x113
  - 1)) s_04 /\ μ4 x104 (i64.wrap (x113 - 1)) s_04 < μ4 x104 x113 s_04 else V4 else V4; if decide (x103 <= x112) = true then aB s_03 x103 1 /\ ∃ n8, (qa 0 (s_03.getD x103.toNat [])).head? = some (Z3 n8) /\ aB s_03
  a 1 /\ ∃ n9, (qa 0 (s_03.getD a.toNat [])).head? = some (Z3 n9) /\ PCall qc 45 [Z3 n8, Z3 n9] fun v2 => ∃ b3, v2 = Zb b3 /\ if b3 = true then aL (kK nl a (i64.wrap (x103 + 1)) x112 s_03) /\
  J3 x102 x111 s_02 (i64.wrap (x103 + 1)) x112 s_03 /\ μ3 (i64.wrap (x103 + 1)) x112 s_03 < μ3 x103 x112 s_03 else V3 else V3; if decide (x101 <= x11) = true then aB s_01 x11 1 /\ ∃ n4, (qa 0 (s_01.getD
  x11.toNat [])).head? = some (Z3 n4) /\ aB s_01 a 1 /\ ∃ n5, (qa 0 (s_01.getD a.toNat [])).head? = some (Z3 n5) /\ PCall qc 45 [Z3 n4, Z3 n5] fun v1 => ∃ b2, v1 = Zb b2 /\ if (!b2) = true then aL
  (qU nl a x101 (i64.wrap (x11 - 1)) s_01) /\ J2 x101 (i64.wrap (x11 - 1)) s_01 /\ μ2 x101 (i64.wrap (x11 - 1)) s_01 < μ2 x101 x11 s_01 else V2 else V2; if decide (x10 <= i64.wrap (b - 1)) = true then aB
  s_0 x10 1 /\ ∃ n2, (qa 0 (s_0.getD x10.toNat [])).head? = some (Z3 n2) /\ aB s_0 a 1 /\ ∃ n3, (qa 0 (s_0.getD a.toNat [])).head? = some (Z3 n3) /\ PCall qc 45 [Z3 n2, Z3 n3] fun v => ∃ (b1 :
  Bool), v = Zb b1 /\ if b1 = true then aL (qT nl a b (i64.wrap (x10 + 1)) s_0) /\ J (i64.wrap (x10 + 1)) s_0 /\ μ (i64.wrap (x10 + 1)) s_0 < μ x10 s_0 else V1 else V1
theorem zdm {R : LV -> Hp -> Prop} (h : wQ nl es a b c J μ J2 μ2 J3 μ3 J4 μ4 R) : ACall qc 47 [.own 0, .pv (.int .i64 a), .pv (.int .i64 b), .pv (.int .i64 c)] [.sl (21, 1) false nl es] R :=
 ACall.wz Try.func47 bZ [0, 1, 2, 3, 8, 9, 10, 11, 43, 60, 65, 112, 129, 134] (lkz [(3, (cM cz2 (qT nl a b) J μ (fun e h => (gI e 10, oS h 0)) [] [0, 1, 10, 11] [])), (5, (cM dJ (qU nl a) J2 μ2 (fun e h => (gI e 10, gI e 11, oS h 0)) [] [0, 1, 10, 11] [])), (13, (fU dJ (kK nl a) J3 μ3 (fun e h => (gI e 10, gI e 11, oS h 0)) [] [0, 1, 10, 11] [])), (15, (fU dJ (qV nl a) J4 μ4 (fun e h => (gI e 10, gI e 11, oS h 0)) [] [0, 1, 10, 11] []))]) [0] h
end
def qW (nl : Bool) (x1 x2 x3 : Int) (x8 x9 : Bool) (s_0 : LL) : Env × Hp := ([(0, LV.own 0), (1, Y6 x1), (2, Y6 x2), (3, Y6 x3), (8, .pv (.bool x8)), (9, .pv (.bool x9))], [.sl (21, 1) false nl s_0])
section
variable (nl : Bool) (es : LL) (a b : Int) (c : Int) (J : Int -> Int -> Int -> Bool -> Bool -> LL -> Prop) (μ : Int -> Int -> Int -> Bool -> Bool -> LL -> Nat)
def wR (R : LV -> Hp -> Prop) : Prop :=
 (aL (qW nl a b c true true es) /\ J a b c true true es) /\ ∀ (x1 x2 x3 : Int) (x8 x9 : Bool) (s_0 : LL), J x1 x2 x3 x8 x9 s_0 ->
 let K2 := fun (y0_ y1_ y2_ : Int) (y3_ y4_ : Bool) (y5_ : LL) => aL (qW nl y0_ y1_ y2_ y3_ y4_ y5_) /\ J y0_ y1_ y2_ y3_ y4_ y5_ /\ μ y0_ y1_ y2_ y3_ y4_ y5_ < μ x1 x2 x3 x8 x9 s_0; if decide (i64.wrap
  (x2 - x1) <= 12) = true then ACall qc 39 [LV.own 0, Y6 x1, Y6 x2] [Ob.sl (21, 1) false nl s_0] fun (r : LV) (h' : Hp) => ∃ (t : LL), (r = LV.tup [] /\ h' = [Ob.sl (21, 1) false nl t]) /\ (((21, 1) = (21, (1 : Nat)) /\ nl = nl /\
  s_0.length = t.length) /\ True) /\ R (LV.tup []) [Ob.sl (21, 1) false nl t] else if (x3 == 0) = true then ACall qc 40 [LV.own 0, Y6 x1, Y6 x2] [Ob.sl ((21 : Nat), 1) false nl s_0] fun (r : LV) (h' : Hp) => ∃ (t : LL), (r = LV.tup [] /\
  h' = [Ob.sl (21, 1) false nl t]) /\ (((21, 1) = (21, 1) /\ nl = nl /\ s_0.length = t.length) /\ True) /\ R (LV.tup []) [Ob.sl (21, 1) false nl t] else if (!x8) = true then ACall qc 41 [LV.own 0, Y6 x1, Y6 x2] [Ob.sl (21, 1) false nl
  s_0] fun (r : LV) (h' : Hp) => ∃ (t : LL), (r = LV.tup [] /\ h' = [Ob.sl (21, 1) false nl t]) /\ (((21, 1) = (21, 1) /\ nl = nl /\ s_0.length = t.length) /\ True) /\ ACall qc 42 [LV.own 0, Y6 x1, Y6 x2] [Ob.sl (21, 1) false nl t] fun (r1
  : LV) (h'1 : Hp) => ∃ (t1 : Int × Int), (r1 = LV.pv (PV.tup [Z6 t1.1, Z6 t1.2]) /\ h'1 = [Ob.sl (21, 1) false nl t]) /\ (((21, 1) = (21, 1) /\ nl = nl /\ t.length = t.length) /\ True) /\ if (t1.2 == 2) = true then ACall qc 43 [LV.own 0,
  Y6 x1, Y6 x2] [Ob.sl (21, 1) false nl t] fun (r2 : LV) (h'2 : Hp) => ∃ (t2 : LL), (r2 = LV.tup [] /\ h'2 = [Ob.sl (21, 1) false nl t2]) /\ (((21, 1) = (21, 1) /\ nl = nl /\ t.length = t2.length) /\ True) /\ if (x8 && x9 && true) = true then
  ACall qc 44 [LV.own 0, Y6 x1, Y6 x2] [Ob.sl (21, 1) false nl t2] fun (r3 : LV) (h'3 : Hp) => ∃ (t3 : Bool × LL), (r3 = LV.pv (Zb t3.fst) /\ h'3 = [Ob.sl ((21 : Nat), 1) false nl t3.snd]) /\ (((21, 1) = (21, 1) /\ nl = nl /\ t2.length =
  t3.snd.length) /\ True) /\ if t3.fst = true then R (LV.tup []) [Ob.sl (21, 1) false nl t3.snd] else
 let V1 := ACall qc 47 [LV.own 0, Y6 x1, Y6 x2, LV.pv (Z6 (i64.wrap (i64.wrap (x2 - 1) - i64.wrap (t1.1 - x1))))] [Ob.sl (21, 1) false nl t3.snd] fun (r4 : LV) (h'4 : Hp) => ∃ (t4 : Int × Bool × LL), (r4 = LV.pv
  (PV.tup [Z6 t4.1, Zb t4.snd.fst]) /\ h'4 = [Ob.sl (21, 1) false nl t4.snd.snd]) /\ (((21, 1) = (21, 1) /\ nl = nl /\ t3.snd.length = t4.snd.snd.length) /\ True) /\ if decide (i64.wrap (t4.1 - x1) < i64.wrap (x2 - t4.1)) = true
  then ACall qc 37 [LV.own 0, Y6 x1, Y6 t4.1, LV.pv (Z6 (i64.wrap (x3 - 1)))] [Ob.sl (21, 1) false nl t4.snd.snd] fun (r5 : LV) (h'5 : Hp) => ∃ (t5 : LL), (r5 = LV.tup [] /\ h'5 = [Ob.sl (21, 1) false nl t5]) /\ (((21, 1) = (21,
  1) /\ nl = nl /\ t4.snd.snd.length = t5.length) /\ True) /\ K2 (i64.wrap (t4.1 + 1)) x2 (i64.wrap (x3 - 1)) (decide (i64.wrap (t4.1 - x1) >= i64.wrap ((i64.wrap (x2 - x1)).tdiv (8 : Int)))) t4.snd.fst
  t5 else ACall qc 37 [LV.own 0, LV.pv (Z6 (i64.wrap (t4.1 + 1))), Y6 x2, LV.pv (Z6 (i64.wrap (x3 - 1)))] [Ob.sl (21, 1) false nl t4.snd.snd] fun (r5 : LV) (h'5 : Hp) => ∃ (t5 : LL), (r5 = LV.tup [] /\ h'5 = [Ob.sl (21,
  1) false nl t5]) /\ (((21, 1) = (21, 1) /\ nl = nl /\ t4.snd.snd.length = t5.length) /\ True) /\ K2 x1 t4.1 (i64.wrap (x3 - 1)) (decide (i64.wrap (x2 - t4.1) >= i64.wrap ((i64.wrap (x2 - x1)).tdiv (8 : Int))))
  t4.snd.fst t5; if decide (x1 > 0) = true then aB t3.snd (i64.wrap (x1 - 1)) 1 /\ ∃ n, (qa 0 (t3.snd.getD (i64.wrap (x1 - 1)).toNat [])).head? = some (Z3 n) /\ aB t3.snd (i64.wrap
  (i64.wrap (x2 - 1) - i64.wrap (t1.1 - x1))) 1 /\ ∃ n1, (qa 0 (t3.snd.getD (i64.wrap (i64.wrap (x2 - 1) - i64.wrap (t1.1 - x1))).toNat [])).head? = some (Z3 n1) /\ PCall qc 45 [Z3
  n, Z3 n1] fun v => ∃ b1, v = Zb b1 /\ if (!b1) = true then ACall qc 46 [LV.own 0, Y6 x1, Y6 x2, LV.pv (Z6 (i64.wrap (i64.wrap (x2 - 1) - i64.wrap (t1.1 - x1))))] [Ob.sl (21, 1) false nl t3.snd]
  fun (r4 : LV) (h'4 : Hp) => ∃ (t4 : Int × LL), (r4 = Y6 t4.1 /\ h'4 = [Ob.sl (21, (1 : Nat)) false nl t4.snd]) /\ (((21, 1) = (21, 1) /\ nl = nl /\ t3.snd.length = t4.snd.length) /\ True) /\ K2 t4.1 x2 (i64.wrap (x3 - 1)) x8 x9 t4.snd
  else V1 else V1 else
 let V2 := ACall qc 47 [LV.own 0, Y6 x1, Y6 x2, LV.pv (Z6 (i64.wrap (i64.wrap (x2 - 1) - i64.wrap (t1.1 - x1))))] [Ob.sl (21, 1) false nl t2] fun (r3 : LV) (h'3 : Hp) => ∃ (t3 : Int × Bool × LL), (r3 = LV.pv
  (PV.tup [Z6 t3.1, Zb t3.snd.fst]) /\ h'3 = [Ob.sl (21, 1) false nl t3.snd.snd]) /\ (((21, 1) = (21, 1) /\ nl = nl /\ t2.length = t3.snd.snd.length) /\ True) /\ if decide (i64.wrap (t3.1 - x1) < i64.wrap (x2 - t3.1)) = true then
  ACall qc 37 [LV.own 0, Y6 x1, Y6 t3.1, LV.pv (Z6 (i64.wrap (x3 - 1)))] [Ob.sl (21, 1) false nl t3.snd.snd] fun (r4 : LV) (h'4 : Hp) => ∃ (t4 : LL), (r4 = LV.tup [] /\ h'4 = [Ob.sl (21, 1) false nl t4]) /\ (((21, 1) = (21, 1) /\
  nl = nl /\ t3.snd.snd.length = t4.length) /\ True) /\ K2 (i64.wrap (t3.1 + 1)) x2 (i64.wrap (x3 - 1)) (decide (i64.wrap (t3.1 - x1) >= i64.wrap ((i64.wrap (x2 - x1)).tdiv (8 : Int)))) t3.snd.fst t4
  else ACall qc 37 [LV.own 0, LV.pv (Z6 (i64.wrap (t3.1 + 1))), Y6 x2, LV.pv (Z6 (i64.wrap (x3 - 1)))] [Ob.sl (21, 1) false nl t3.snd.snd] fun (r4 : LV) (h'4 : Hp) => ∃ (t4 : LL), (r4 = LV.tup [] /\ h'4 = [Ob.sl (21, 1)
  false nl t4]) /\ (((21, 1) = (21, 1) /\ nl = nl /\ t3.snd.snd.length = t4.length) /\ True) /\ K2 x1 t3.1 (i64.wrap (x3 - 1)) (decide (i64.wrap (x2 - t3.1) >= i64.wrap ((i64.wrap (x2 - x1)).tdiv (8 : Int))))
  t3.snd.fst t4; if decide (x1 > 0) = true then aB t2 (i64.wrap (x1 - 1)) 1 /\ ∃ n, (qa 0 (t2.getD (i64.wrap (x1 - 1)).toNat [])).head? = some (Z3 n) /\ aB t2 (i64.wrap (i64.wrap (x2 - 1)
  - i64.wrap (t1.1 - x1))) 1 /\ ∃ n1, (qa 0 (t2.getD (i64.wrap (i64.wrap (x2 - 1) - i64.wrap (t1.1 - x1))).toNat [])).head? = some (Z3 n1) /\ PCall qc 45 [Z3 n, Z3 n1] fun v => ∃ (b1
  : Bool), v = Zb b1 /\ if (!b1) = true then ACall qc 46 [LV.own 0, Y6 x1, Y6 x2, LV.pv (Z6 (i64.wrap (i64.wrap (x2 - 1) - i64.wrap (t1.1 - x1))))] [Ob.sl (21, 1) false nl t2] fun (r3 : LV) (h'3 : Hp) => ∃ (t3 :
  Int × LL), (r3 = Y6 t3.1 /\ h'3 = [Ob.sl (21, 1) false nl t3.snd]) /\ (((21, 1) = (21, 1) /\ nl = nl /\ t2.length = t3.snd.length) /\ True) /\ K2 t3.1 x2 (i64.wrap (x3 - 1)) x8 x9 t3.snd else V2 else V2 else if (x8 && x9 && t1.2 == 1)
  = true then ACall qc 44 [LV.own 0, Y6 x1, Y6 x2] [Ob.sl (21, 1) false nl t] fun (r2 : LV) (h'2 : Hp) => ∃ (t2 : Bool × LL), (r2 = LV.pv (Zb t2.fst) /\ h'2 = [Ob.sl (21, 1) false nl t2.snd]) /\ (((21, 1) = (21, 1) /\ nl = nl /\ t.length
  = t2.snd.length) /\ True) /\ if t2.fst = true then R (LV.tup []) [Ob.sl (21, 1) false nl t2.snd] else
 let V3 := ACall qc 47 [LV.own 0, Y6 x1, Y6 x2, Y6 t1.1] [Ob.sl (21, 1) false nl t2.snd] fun (r3 : LV) (h'3 : Hp) => ∃ (t3 : Int × Bool × LL), (r3 = LV.pv (PV.tup [Z6 t3.1, Zb t3.snd.fst]) /\ h'3 = [Ob.sl (21, 1) false nl t3.snd.snd]) /\
  (((21, 1) = (21, 1) /\ nl = nl /\ t2.snd.length = t3.snd.snd.length) /\ True) /\ if decide (i64.wrap (t3.1 - x1) < i64.wrap (x2 - t3.1)) = true then ACall qc 37 [LV.own 0, Y6 x1, Y6 t3.1, LV.pv (Z6 (i64.wrap (x3
  - 1)))] [Ob.sl (21, 1) false nl t3.snd.snd] fun (r4 : LV) (h'4 : Hp) => ∃ (t4 : LL), (r4 = LV.tup [] /\ h'4 = [Ob.sl (21, 1) false nl t4]) /\ (((21, 1) = (21, 1) /\ nl = nl /\ t3.snd.snd.length = t4.length) /\ True) /\ K2 (i64.wrap
  (t3.1 + 1)) x2 (i64.wrap (x3 - 1)) (decide (i64.wrap (t3.1 - x1) >= i64.wrap ((i64.wrap (x2 - x1)).tdiv (8 : Int)))) t3.snd.fst t4 else ACall qc 37 [LV.own 0, LV.pv (Z6 (i64.wrap (t3.1 + 1))),
  Y6 x2, LV.pv (Z6 (i64.wrap (x3 - 1)))] [Ob.sl (21, 1) false nl t3.snd.snd] fun (r4 : LV) (h'4 : Hp) => ∃ (t4 : LL), (r4 = LV.tup [] /\ h'4 = [Ob.sl (21, (1 : Nat)) false nl t4]) /\ (((21, 1) = (21, 1) /\ nl = nl /\ t3.snd.snd.length =
  t4.length) /\ True) /\ K2 x1 t3.1 (i64.wrap (x3 - 1)) (decide (i64.wrap (x2 - t3.1) >= i64.wrap ((i64.wrap (x2 - x1)).tdiv (8 : Int)))) t3.snd.fst t4; if decide (x1 > 0) = true then aB t2.snd
  (i64.wrap (x1 - 1)) 1 /\ ∃ n, (qa 0 (t2.snd.getD (i64.wrap (x1 - 1)).toNat [])).head? = some (Z3 n) /\ aB t2.snd t1.1 1 /\ ∃ n1, (qa 0 (t2.snd.getD t1.1.toNat [])).head? = some (Z3 n1) /\
  PCall qc 45 [Z3 n, Z3 n1] fun v => ∃ b1, v = Zb b1 /\ if (!b1) = true then ACall qc 46 [LV.own 0, Y6 x1, Y6 x2, Y6 t1.1] [Ob.sl (21, 1) false nl t2.snd] fun (r3 : LV) (h'3 : Hp) => ∃ (t3 : Int × LL), (r3 = Y6
  t3.1 /\ h'3 = [Ob.sl (21, 1) false nl t3.snd]) /\ (((21, 1) = ((21 : Nat), 1) /\ nl = nl /\ t2.snd.length = t3.snd.length) /\ True) /\ K2 t3.1 x2 (i64.wrap (x3 - 1)) x8 x9 t3.snd else V3 else V3 else
 let V4 := ACall qc 47 [LV.own 0, Y6 x1, Y6 x2, Y6 t1.1] [Ob.sl (21, 1) false nl t] fun (r2 : LV) (h'2 : Hp) => ∃ (t2 : Int × Bool × LL), (r2 = LV.pv (PV.tup [Z6 t2.1, Zb t2.snd.fst]) /\ h'2 = [Ob.sl (21, 1) false nl t2.snd.snd]) /\
  (((21, 1) = (21, 1) /\ nl = nl /\ t.length = t2.snd.snd.length) /\ True) /\ if decide (i64.wrap (t2.1 - x1) < i64.wrap (x2 - t2.1)) = true then ACall qc 37 [LV.own 0, Y6 x1, Y6 t2.1, LV.pv (Z6 (i64.wrap (x3 -
  1)))] [Ob.sl (21, 1) false nl t2.snd.snd] fun (r3 : LV) (h'3 : Hp) => ∃ (t3 : LL), (r3 = LV.tup [] /\ h'3 = [Ob.sl (21, 1) false nl t3]) /\ (((21, 1) = (21, 1) /\ nl = nl /\ t2.snd.snd.length = t3.length) /\ True) /\ K2 (i64.wrap (t2.1
  + 1)) x2 (i64.wrap (x3 - 1)) (decide (i64.wrap (t2.1 - x1) >= i64.wrap ((i64.wrap (x2 - x1)).tdiv (8 : Int)))) t2.snd.fst t3 else ACall qc 37 [LV.own 0, LV.pv (Z6 (i64.wrap (t2.1 + 1))), Y6
  x2, LV.pv (Z6 (i64.wrap (x3 - 1)))] [Ob.sl (21, 1) false nl t2.snd.snd] fun (r3 : LV) (h'3 : Hp) => ∃ (t3 : LL), (r3 = LV.tup [] /\ h'3 = [Ob.sl (21, 1) false nl t3]) /\ (((21, 1) = (21, 1) /\ nl = nl /\ t2.snd.snd.length = t3.length)
  /\ True) /\ K2 x1 t2.1 (i64.wrap (x3 - 1)) (decide (i64.wrap (x2 - t2.1) >= i64.wrap ((i64.wrap (x2 - x1)).tdiv (8 : Int)))) t2.snd.fst t3; if decide (x1 > 0) = true then aB t (i64.wrap (x1 - 1)) 1
  /\ ∃ n, (qa 0 (t.getD (i64.wrap (x1 - 1)).toNat [])).head? = some (Z3 n) /\ aB t t1.1 1 /\ ∃ n1, (qa 0 (t.getD t1.1.toNat [])).head? = some (Z3 n1) /\ PCall qc 45 [Z3 n, Z3 n1] fun v => ∃
  (b1 : Bool), v = Zb b1 /\ if (!b1) = true then ACall qc 46 [LV.own 0, Y6 x1, Y6 x2, Y6 t1.1] [Ob.sl (21, 1) false nl t] fun (r2 : LV) (h'2 : Hp) => ∃ (t2 : Int × LL), (r2 = Y6 t2.1 /\ h'2 = [Ob.sl (21, 1) false nl t2.snd]) /\ (((21, 1)
  = (21, 1) /\ nl = nl /\ t.length = t2.snd.length) /\ True) /\ K2 t2.1 x2 (i64.wrap (x3 - 1)) x8 x9 t2.snd else V4 else V4 else ACall qc 42 [LV.own 0, Y6 x1, Y6 x2] [Ob.sl (21, 1) false nl s_0] fun (r : LV) (h' : Hp) => ∃ (t :
  Int × Int), (r = LV.pv (PV.tup [Z6 t.1, Z6 t.2]) /\ h' = [Ob.sl (21, 1) false nl s_0]) /\ (((21, 1) = (21, 1) /\ nl = nl /\ s_0.length = s_0.length) /\ True) /\ if (t.2 == 2) = true then ACall qc 43 [LV.own 0, Y6 x1, Y6 x2] [Ob.sl (21,
  1) false nl s_0] fun (r1 : LV) (h'1 : Hp) => ∃ (t1 : LL), (r1 = LV.tup [] /\ h'1 = [Ob.sl (21, 1) false nl t1]) /\ (((21, 1) = (21, 1) /\ nl = nl /\ s_0.length = t1.length) /\ True) /\ if (x8 && x9 && true) = true then ACall qc 44 [LV.own
  0, Y6 x1, Y6 x2] [Ob.sl (21, 1) false nl t1] fun (r2 : LV) (h'2 : Hp) => ∃ (t2 : Bool × LL), (r2 = LV.pv (Zb t2.fst) /\ h'2 = [Ob.sl (21, 1) false nl t2.snd]) /\ (((21, 1) = (21, 1) /\ nl = nl /\ t1.length = t2.snd.length) /\ True) /\ if t2.fst
  = true then R (LV.tup []) [Ob.sl (21, 1) false nl t2.snd] else
 let V5 := ACall qc 47 [LV.own 0, Y6 x1, Y6 x2, LV.pv (Z6 (i64.wrap (i64.wrap (x2 - 1) - i64.wrap (t.1 - x1))))] [Ob.sl (21, 1) false nl t2.snd] fun (r3 : LV) (h'3 : Hp) => ∃ (t3 : Int × Bool × LL), (r3 = LV.pv
  (PV.tup [Z6 t3.1, Zb t3.snd.fst]) /\ h'3 = [Ob.sl (21, 1) false nl t3.snd.snd]) /\ (((21, 1) = (21, 1) /\ nl = nl /\ t2.snd.length = t3.snd.snd.length) /\ True) /\ if decide (i64.wrap (t3.1 - x1) < i64.wrap (x2 - t3.1)) = true
  then ACall qc 37 [LV.own 0, Y6 x1, Y6 t3.1, Y6 x3] [Ob.sl (21, 1) false nl t3.snd.snd] fun (r4 : LV) (h'4 : Hp) => ∃ (t4 : LL), (r4 = LV.tup [] /\ h'4 = [Ob.sl ((21 : Nat), 1) false nl t4]) /\ (((21, 1) = (21, 1) /\ nl = nl /\
  t3.snd.snd.length = t4.length) /\ True) /\ K2 (i64.wrap (t3.1 + 1)) x2 x3 (decide (i64.wrap (t3.1 - x1) >= i64.wrap ((i64.wrap (x2 - x1)).tdiv (8 : Int)))) t3.snd.fst t4 else ACall qc 37 [LV.own 0,
  LV.pv (Z6 (i64.wrap (t3.1 + 1))), Y6 x2, Y6 x3] [Ob.sl (21, 1) false nl t3.snd.snd] fun (r4 : LV) (h'4 : Hp) => ∃ (t4 : LL), (r4 = LV.tup [] /\ h'4 = [Ob.sl (21, (1 : Nat)) false nl t4]) /\ (((21, 1) = (21, 1) /\ nl = nl /\
  t3.snd.snd.length = t4.length) /\ True) /\ K2 x1 t3.1 x3 (decide (i64.wrap (x2 - t3.1) >= i64.wrap ((i64.wrap (x2 - x1)).tdiv (8 : Int)))) t3.snd.fst t4; if decide (x1 > 0) = true then aB t2.snd (i64.wrap
  (x1 - 1)) 1 /\ ∃ n, (qa 0 (t2.snd.getD (i64.wrap (x1 - 1)).toNat [])).head? = some (Z3 n) /\ aB t2.snd (i64.wrap (i64.wrap (x2 - 1) - i64.wrap (t.1 - x1))) 1 /\ ∃ n1, (qa 0
  (t2.snd.getD (i64.wrap (i64.wrap (x2 - 1) - i64.wrap (t.1 - x1))).toNat [])).head? = some (Z3 n1) /\ PCall qc 45 [Z3 n, Z3 n1] fun v => ∃ b1, v = Zb b1 /\ if (!b1) = true then ACall qc 46
  [LV.own 0, Y6 x1, Y6 x2, LV.pv (Z6 (i64.wrap (i64.wrap (x2 - 1) - i64.wrap (t.1 - x1))))] [Ob.sl (21, 1) false nl t2.snd] fun (r3 : LV) (h'3 : Hp) => ∃ (t3 : Int × LL), (r3 = Y6 t3.1 /\ h'3 = [Ob.sl (21, 1) false nl
  t3.snd]) /\ (((21, 1) = (21, 1) /\ nl = nl /\ t2.snd.length = t3.snd.length) /\ True) /\ K2 t3.1 x2 x3 x8 x9 t3.snd else V5 else V5 else
 let V6 := ACall qc 47 [LV.own 0, Y6 x1, Y6 x2, LV.pv (Z6 (i64.wrap (i64.wrap (x2 - 1) - i64.wrap (t.1 - x1))))] [Ob.sl (21, 1) false nl t1] fun (r2 : LV) (h'2 : Hp) => ∃ (t2 : Int × Bool × LL), (r2 = LV.pv
  (PV.tup [Z6 t2.1, Zb t2.snd.fst]) /\ h'2 = [Ob.sl (21, 1) false nl t2.snd.snd]) /\ (((21, 1) = (21, 1) /\ nl = nl /\ t1.length = t2.snd.snd.length) /\ True) /\ if decide (i64.wrap (t2.1 - x1) < i64.wrap (x2 - t2.1)) = true then
  ACall qc 37 [LV.own 0, Y6 x1, Y6 t2.1, Y6 x3] [Ob.sl (21, 1) false nl t2.snd.snd] fun (r3 : LV) (h'3 : Hp) => ∃ (t3 : LL), (r3 = LV.tup [] /\ h'3 = [Ob.sl (21, 1) false nl t3]) /\ (((21, 1) = (21, 1) /\ nl = nl /\ t2.snd.snd.length =
  t3.length) /\ True) /\ K2 (i64.wrap (t2.1 + 1)) x2 x3 (decide (i64.wrap (t2.1 - x1) >= i64.wrap ((i64.wrap (x2 - x1)).tdiv (8 : Int)))) t2.snd.fst t3 else ACall qc 37 [LV.own 0, LV.pv (Z6
  (i64.wrap (t2.1 + 1))), Y6 x2, Y6 x3] [Ob.sl (21, 1) false nl t2.snd.snd] fun (r3 : LV) (h'3 : Hp) => ∃ (t3 : LL), (r3 = LV.tup [] /\ h'3 = [Ob.sl (21, 1) false nl t3]) /\ (((21, 1) = (21, 1) /\ nl = nl /\ t2.snd.snd.length =
  t3.length) /\ True) /\ K2 x1 t2.1 x3 (decide (i64.wrap (x2 - t2.1) >= i64.wrap ((i64.wrap (x2 - x1)).tdiv (8 : Int)))) t2.snd.fst t3; if decide (x1 > 0) = true then aB t1 (i64.wrap (x1 - 1)) 1 /\ ∃ (n :
  Int), (qa 0 (t1.getD (i64.wrap (x1 - 1)).toNat [])).head? = some (Z3 n) /\ aB t1 (i64.wrap (i64.wrap (x2 - 1) - i64.wrap (t.1 - x1))) 1 /\ ∃ n1, (qa 0 (t1.getD (i64.wrap
  (i64.wrap (x2 - 1) - i64.wrap (t.1 - x1))).toNat [])).head? = some (Z3 n1) /\ PCall qc 45 [Z3 n, Z3 n1] fun v => ∃ b1, v = Zb b1 /\ if (!b1) = true then ACall qc 46 [LV.own 0, Y6 x1, Y6 x2, LV.pv
  (Z6 (i64.wrap (i64.wrap (x2 - 1) - i64.wrap (t.1 - x1))))] [Ob.sl (21, 1) false nl t1] fun (r2 : LV) (h'2 : Hp) => ∃ (t2 : Int × LL), (r2 = Y6 t2.1 /\ h'2 = [Ob.sl (21, 1) false nl t2.snd]) /\ (((21, 1) = (21, 1) /\
  nl = nl /\ t1.length = t2.snd.length) /\ True) /\ K2 t2.1 x2 x3 x8 x9 t2.snd else V6 else V6 else if (x8 && x9 && t.2 == 1) = true then ACall qc 44 [LV.own 0, Y6 x1, Y6 x2] [Ob.sl (21, 1) false nl s_0] fun (r1 : LV) (h'1 : Hp) => ∃ (t1
  : Bool × LL), (r1 = LV.pv (Zb t1.fst) /\ h'1 = [Ob.sl (21, 1) false nl t1.snd]) /\ (((21, 1) = (21, 1) /\ nl = nl /\ s_0.length = t1.snd.length) /\ True) /\ if t1.fst = true then R (LV.tup []) [Ob.sl (21, 1) false nl t1.snd] else
 let V7 := ACall qc 47 [LV.own 0, Y6 x1, Y6 x2, Y6 t.1] [Ob.sl (21, 1) false nl t1.snd] fun (r2 : LV) (h'2 : Hp) => ∃ (t2 : Int × Bool × LL), (r2 = LV.pv (PV.tup [Z6 t2.1, Zb t2.snd.fst]) /\ h'2 = [Ob.sl (21, 1) false nl t2.snd.snd]) /\
  (((21, 1) = (21, 1) /\ nl = nl /\ t1.snd.length = t2.snd.snd.length) /\ True) /\ if decide (i64.wrap (t2.1 - x1) < i64.wrap (x2 - t2.1)) = true then ACall qc 37 [LV.own 0, Y6 x1, Y6 t2.1, Y6 x3] [Ob.sl (21, 1) false nl
  t2.snd.snd] fun (r3 : LV) (h'3 : Hp) => ∃ (t3 : LL), (r3 = LV.tup [] /\ h'3 = [Ob.sl (21, 1) false nl t3]) /\ (((21, 1) = (21, 1) /\ nl = nl /\ t2.snd.snd.length = t3.length) /\ True) /\ K2 (i64.wrap (t2.1 + 1)) x2 x3 (decide
  (i64.wrap (t2.1 - x1) >= i64.wrap ((i64.wrap (x2 - x1)).tdiv (8 : Int)))) t2.snd.fst t3 else ACall qc 37 [LV.own 0, LV.pv (Z6 (i64.wrap (t2.1 + 1))), Y6 x2, Y6 x3] [Ob.sl ((21 : Nat), 1) false nl
  t2.snd.snd] fun (r3 : LV) (h'3 : Hp) => ∃ (t3 : LL), (r3 = LV.tup [] /\ h'3 = [Ob.sl (21, 1) false nl t3]) /\ (((21, 1) = (21, 1) /\ nl = nl /\ t2.snd.snd.length = t3.length) /\ True) /\ K2 x1 t2.1 x3 (decide (i64.wrap (x2 - t2.1) >=
  i64.wrap ((i64.wrap (x2 - x1)).tdiv (8 : Int)))) t2.snd.fst t3; if decide (x1 > 0) = true then aB t1.snd (i64.wrap (x1 - 1)) 1 /\ ∃ n, (qa 0 (t1.snd.getD (i64.wrap (x1 - 1)).toNat
  [])).head? = some (Z3 n) /\ aB t1.snd t.1 1 /\ ∃ n1, (qa 0 (t1.snd.getD t.1.toNat [])).head? = some (Z3 n1) /\ PCall qc 45 [Z3 n, Z3 n1] fun v => ∃ b1, v = Zb b1 /\ if (!b1) = true then ACall qc
  46 [LV.own 0, Y6 x1, Y6 x2, Y6 t.1] [Ob.sl (21, 1) false nl t1.snd] fun (r2 : LV) (h'2 : Hp) => ∃ (t2 : Int × LL), (r2 = Y6 t2.1 /\ h'2 = [Ob.sl (21, 1) false nl t2.snd]) /\ (((21, 1) = (21, 1) /\ nl = nl /\ t1.snd.length = t2.snd.length) /\
  True) /\ K2 t2.1 x2 x3 x8 x9 t2.snd else V7 else V7 else
 let V8 := ACall qc 47 [LV.own 0, Y6 x1, Y6 x2, Y6 t.1] [Ob.sl (21, 1) false nl s_0] fun (r1 : LV) (h'1 : Hp) => ∃ (t1 : Int × Bool × LL), (r1 = LV.pv (PV.tup [Z6 t1.1, Zb t1.snd.fst]) /\ h'1 = [Ob.sl (21, 1) false nl t1.snd.snd]) /\
  (((21, 1) = (21, 1) /\ nl = nl /\ s_0.length = t1.snd.snd.length) /\ True) /\ if decide (i64.wrap (t1.1 - x1) < i64.wrap (x2 - t1.1)) = true then ACall qc 37 [LV.own 0, Y6 x1, Y6 t1.1, Y6 x3] [Ob.sl (21, 1) false nl
  t1.snd.snd] fun (r2 : LV) (h'2 : Hp) => ∃ (t2 : LL), (r2 = LV.tup [] /\ h'2 = [Ob.sl (21, 1) false nl t2]) /\ (((21, 1) = (21, 1) /\ nl = nl /\ t1.snd.snd.length = t2.length) /\ True) /\ K2 (i64.wrap (t1.1 + 1)) x2 x3 (decide
  (i64.wrap (t1.1 - x1) >= i64.wrap ((i64.wrap (x2 - x1)).tdiv (8 : Int)))) t1.snd.fst t2 else ACall qc 37 [LV.own 0, LV.pv (Z6 (i64.wrap (t1.1 + 1))), Y6 x2, Y6 x3] [Ob.sl (21, 1) false nl t1.snd.snd]
  fun (r2 : LV) (h'2 : Hp) => ∃ (t2 : LL), (r2 = LV.tup [] /\ h'2 = [Ob.sl (21, 1) false nl t2]) /\ (((21, 1) = (21, 1) /\ nl = nl /\ t1.snd.snd.length = t2.length) /\ True) /\ K2 x1 t1.1 x3 (decide (i64.wrap (x2 - t1.1) >=
  i64.wrap ((i64.wrap (x2 - x1)).tdiv (8 : Int)))) t1.snd.fst t2; if decide (x1 > 0) = true then aB s_0 (i64.wrap (x1 - 1)) 1 /\ ∃ n, (qa 0 (s_0.getD (i64.wrap (x1 - 1)).toNat [])).head? =
  some (Z3 n) /\ aB s_0 t.1 1 /\ ∃ n1, (qa 0 (s_0.getD t.1.toNat [])).head? = some (Z3 n1) /\ PCall qc 45 [Z3 n, Z3 n1] fun v => ∃ b1, v = Zb b1 /\ if (!b1) = true then ACall qc 46 [LV.own 0, Y6 x1,
  Y6 x2, Y6 t.1] [Ob.sl (21, 1) false nl s_0] fun (r1 : LV) (h'1 : Hp) => ∃ (t1 : Int × LL), (r1 = Y6 t1.1 /\ h'1 = [Ob.sl (21, 1) false nl t1.snd]) /\ (((21, 1) = (21, 1) /\ nl = nl /\ s_0.length = t1.snd.length) /\ True) /\ K2 t1.1 x2 x3 x8 x9
  t1.snd else V8 else V8
theorem zdn {R : LV -> Hp -> Prop} (h : wR nl es a b c J μ R) : ACall qc 37 [.own 0, .pv (.int .i64 a), .pv (.int .i64 b), .pv (.int .i64 c)] [.sl (21, 1) false nl es] R :=
 ACall.wz Try.func37 (fun zz_ => match zz_ with | 39 => some ⟨LL, fun _ hs t => (.tup [], match hs with | [.sl ty m nl _] => [.sl ty m nl t] | h => h), none⟩ | 50 => some ⟨LL, fun _ hs t => (.tup [], match hs with | [.sl ty m nl _] => [.sl ty m nl t] | h => h), none⟩ | 40 => some ⟨LL, fun _ hs t => (.tup [], match hs with | [.sl ty m nl _] => [.sl ty m nl t] | h => h), none⟩ | 41 => some ⟨LL, fun _ hs t => (.tup [], match hs with | [.sl ty m nl _] => [.sl ty m nl t] | h => h), none⟩ | 43 => some ⟨LL, fun _ hs t => (.tup [], match hs with | [.sl ty m nl _] => [.sl ty m nl t] | h => h), none⟩ | 37 => some ⟨LL, fun _ hs t => (.tup [], match hs with | [.sl ty m nl _] => [.sl ty m nl t] | h => h), none⟩ | 44 => some ⟨Bool × LL, fun _ hs t => (.pv (.bool t.1), match hs with | [.sl ty m nl _] => [.sl ty m nl t.2] | h => h), none⟩ | 46 => some ⟨Int × LL, fun _ hs t => (.pv (.int .i64 t.1), match hs with | [.sl ty m nl _] => [.sl ty m nl t.2] | h => h), none⟩ | 47 => some ⟨Int × Bool × LL, fun _ hs t => (.pv (.tup [.int .i64 t.1, .bool t.2.1]), match hs with | [.sl ty m nl _] => [.sl ty m nl t.2.2] | h => h), none⟩ | 42 => some ⟨Int × Int, fun _ hs t => (.pv (.tup [.int .i64 t.1, .int .i64 t.2]), hs), none⟩ | 56 => some ⟨Int × Int × Int, fun _ hs t => (.pv (.tup [.int .i64 t.1, .int .i64 t.2.1]), match hs with | [s, .box _] => [s, .box [.pv (.int .i64 t.2.2)]] | h => h), none⟩ | 54 => some ⟨Int × Int, fun _ hs t => (.pv (.int .i64 t.1), match hs with | [s, .box _] => [s, .box [.pv (.int .i64 t.2)]] | h => h), none⟩ | 53 => some ⟨Int × Int, fun _ hs t => (.pv (.int .i64 t.1), match hs with | [s, .box _] => [s, .box [.pv (.int .i64 t.2)]] | h => h), none⟩ | 52 => some ⟨Int, fun _ hs t => (.pv (.int .u64 t), [.box [.pv (.int .u64 t)]]), none⟩ | _ => none) [0, 1, 2, 3, 8, 9, 10, 11, 12, 13, 14, 15, 16, 17, 18, 23, 29, 35, 50, 68, 72, 87, 113] (fT 2 (cM cz6 (qW nl) J μ (fun e h => (gI e 1, gI e 2, gI e 3, gB e 8, gB e 9, oS h 0)) [] [0, 1, 2, 3, 8, 9] [])) [0] h
end
end Go.Eng
namespace Go.Eng
open Go Go.Proofs Go.Eng.Rows
theorem wS (x : Int) (h0 : 0 <= x) (h1 : x <= 18446744073709551615) : PCall qc 38 [.int .u64 x] fun v => v = .int .i64 (Go.Lib.bitLen x.toNat) := by
 refine ⟨⟨_, Try.func38, by kernel_rfl, by kernel_rfl⟩, fun w I G cargs hh hsz hrel => ?_⟩;have h := hrel 0 _ rfl;obtain ⟨l⟩ := cargs
 match l, hsz with
 | [c], _ =>
   have h : LRel w I G [] (.pv (.int .u64 x)) c := h;have hc : c = .int .u64 x := by cases h with | pv _ _ h => cases h; rfl
   subst hc;refine Calls.mono (calls_of_every_depth fun D => AnySM.bits_LenIn Try.lenM D x w h0 h1) ?_;rintro e w' ⟨rfl, rfl⟩;exact ⟨_, .pv (.int .i64 _), [], I, G, rfl, ⟨_, rfl, rfl⟩, hh, .pv _ _ (.int _ _), TrH.refl _ _ _ _⟩
abbrev mZ (f : Nat) (args : List LV) (nl : Bool) (L : List Int) (Q : List Int -> Prop) : Prop := ACall qc f args (hSl nl L) fun r h' => ∃ L', r = .tup [] /\ h' = hSl nl L' /\ L'.length = L.length /\ Q L'
theorem zdo {nl : Bool} {L : List Int} {Q : List Int -> Prop} (hl : L.length < 1000000) (h : ∀ c : Int, mZ 37 [.own 0, .pv (.int .i64 0), .pv (.int .i64 (L.length : Int)), .pv (.int .i64 c)] nl L Q) : mZ 34 [.own 0] nl L Q := by
 refine zc3 _ _ ?_;unfold v6;rw [gQ]
 have hw : IntKind.u64.wrap (L.length : Int) = L.length := by
  unfold IntKind.wrap;simp only [IntKind.bits, IntKind.signed];have : (L.length : Int) % 18446744073709551616 = L.length := qab (by omega) (by omega);simp [this]
 rw [hw];refine (wS _ (by omega) (by omega)).mono ?_;rintro _ rfl;refine ⟨_, rfl, (h _).mono ?_⟩;rintro r h' ⟨L', rfl, rfl, hL, hQ⟩;exact ⟨_, ⟨rfl, rfl⟩, ⟨⟨rfl, rfl, by simp [hL]⟩, trivial⟩, L', rfl, rfl, hL, hQ⟩
theorem zdp {B : GB} (hB : B.length <= 1000) {Q : List Int -> Prop} (h : ∀ (nl : Bool) (s : List Int), s.Perm (B.map (·.1)) -> mZ 34 [.own 0] nl s Q) : PCall qc 19 [.agg [.mp (aN B)]] fun v => ∃ (n : Bool) (l : List Int), v = .sl n false (aI l) /\ l.length = B.length /\ Q l := by
 have collect : ACall qc 33 [.fn 35 [.box 0 0]] [.box [.pv (.mp (aN B))]] fun r h' => ∃ t : Bool × List (List PV), (r = .own 1 /\ h' = [.dead, .sl (21, 1) true t.1 t.2]) /\ ∃ s : List Int, t.2 = aI s /\ s.Perm (B.map (·.1)) := by
  refine zcy _ ?_;unfold vV;refine (zcw B hB).mono ?_;rintro r h' ⟨t, ⟨rfl, rfl⟩, ht⟩;exact ⟨t, ⟨rfl, rfl⟩, ⟨trivial, trivial⟩, t, ⟨rfl, rfl⟩, ht⟩
 have sorted : ACall qc 30 [.fn 35 [.box 0 0]] [.box [.pv (.mp (aN B))]] fun r h' => ∃ t : Bool × List (List PV), (r = .own 1 /\ h' = [.dead, .sl (21, 1) true t.1 t.2]) /\ ∃ l : List Int, t.2 = aI l /\ l.length = B.length /\ Q l := by
  refine zcz _ ?_;unfold vW;refine collect.mono ?_;rintro r h' ⟨⟨nl, T⟩, ⟨rfl, rfl⟩, s, hs, hp⟩;dsimp only at hs;subst hs;refine ⟨(nl, aI s), ⟨rfl, rfl⟩, ⟨trivial, trivial⟩, (h nl s hp).mono ?_⟩;rintro r h' ⟨L', rfl, rfl, hL, hQ⟩;have hlen : s.length = B.length := by rw [hp.length_eq, qg]
  exact ⟨aI L', ⟨rfl, rfl⟩, ⟨⟨rfl, rfl, by simp [hL]⟩, trivial⟩, (nl, aI L'), ⟨rfl, rfl⟩, L', rfl, by rw [hL, hlen], hQ⟩
 refine zc0 _ ?_;unfold vX;refine (zcx (R := fun r h' => r = .fn 35 [.box 0 0] /\ h' = [.box [.pv (.mp (aN B))]]) _ ?_).mono ?_
 ·unfold vU; exact ⟨rfl, rfl⟩
 rintro r h' ⟨rfl, rfl⟩;refine ⟨(), ⟨rfl, rfl⟩, trivial, sorted.mono ?_⟩;rintro r h' ⟨⟨nl, T⟩, ⟨rfl, rfl⟩, l, hl, hll, hQ⟩;dsimp only at hl;subst hl;exact ⟨(nl, aI l), ⟨rfl, rfl⟩, ⟨trivial, trivial⟩, nl, l, rfl, hll, hQ⟩
theorem wU {z : Int} (h0 : 0 <= z) (h1 : z < 9223372036854775808) : IntKind.u64.wrap z = z := by
 unfold IntKind.wrap;simp only [IntKind.bits, IntKind.signed];have : z % 18446744073709551616 = z := qab (by omega) (by omega);simp [this]
theorem zdr : ∀ n : Fin 1024, n.val ≠ 0 -> 2 ^ Go.Lib.bitLen n.val <= 2 * n.val /\ Go.Lib.bitLen n.val <= 10 := by decide +kernel
theorem zds {x : Int} (h0 : 0 < x) (h1 : x <= 1000) : PCall qc 51 [.int .i64 x] fun v => ∃ m : Nat, v = .int .u64 m /\ 1 <= m /\ (m : Int) <= 2 * x := by
 refine zdd _ ?_;unfold wH;rw [wU (by omega) (by omega)];refine (wS x (by omega) (by omega)).mono ?_;rintro _ rfl;have hb := zdr ⟨x.toNat, by omega⟩ (by dsimp only; omega);dsimp only at hb;refine ⟨_, rfl, qau _, 2 ^ Go.Lib.bitLen x.toNat, ?_, Nat.one_le_two_pow, by omega⟩;rw [qm, Nat.min_eq_left (by omega)];have e : (1 : Int) * 2 ^ Go.Lib.bitLen x.toNat = ((2 ^ Go.Lib.bitLen x.toNat : Nat) : Int) := by simp
 rw [e, wU (qau _) (by omega)]
theorem zdt (x : Int) : ACall qc 52 [.box 0 0] [.box [.pv (.int .u64 x)]] fun r h' => ∃ t : Int, r = .pv (.int .u64 t) /\ h' = [.box [.pv (.int .u64 t)]] := by
 refine zdc _ ?_;unfold wG;exact ⟨_, rfl, rfl⟩
theorem zdu (t : Int) {m : Nat} (h1 : 1 <= m) (h2 : m <= 100000) : ∃ q : Nat, q < m /\ i64.wrap (IntKind.u64.wrap (((BitVec.ofInt IntKind.u64.bits t &&& BitVec.ofInt IntKind.u64.bits (IntKind.u64.wrap ((m : Int) - 1))).toNat : Nat) : Int)) = q := by
 rw [wU (z := (m : Int) - 1) (by omega) (by omega)]
 have hm : (BitVec.ofInt IntKind.u64.bits ((m : Int) - 1)).toNat = m - 1 := by
  rw [BitVec.toNat_ofInt];show (((m : Int) - 1) % ((2 ^ 64 : Nat) : Int)).toNat = m - 1;rw [qab (by omega) (by omega)]; omega
 have h : (BitVec.ofInt IntKind.u64.bits t &&& BitVec.ofInt IntKind.u64.bits ((m : Int) - 1)).toNat <= m - 1 := by
  rw [BitVec.toNat_and, hm];exact Nat.and_le_right
 generalize (BitVec.ofInt IntKind.u64.bits t &&& BitVec.ofInt IntKind.u64.bits ((m : Int) - 1)).toNat = q at h ⊢;exact ⟨q, by omega, by rw [wU (by omega) (by omega), aE (by omega) (by omega)]⟩
section
variable {N : Nat} {nl : Bool} {s : List (List PV)}
theorem zdv (hN : N <= 1000) (h : YL N s) {a b : Int} (h0 : 0 <= a) (h1 : a + 12 < b) (h2 : b <= N) : Trn 41 [.own 0, .pv (.int .i64 a), .pv (.int .i64 b)] nl s N := by
 refine zde _ _ _ _ (fun x y s _ => (∃ m : Nat, x = m /\ 1 <= m /\ (m : Int) <= 2 * (b - a)) /\ a + 2 * ((b - a) / 4) - 1 <= y /\ y <= a + 2 * ((b - a) / 4) + 2 /\ YL N s) (fun _ y _ _ => (a + 2 * ((b - a) / 4) + 2 - y).toNat) ?_;unfold wI;have w1 : i64.wrap (b - a) = b - a := aE (by omega) (by omega);rw [w1, qL (by omega)];obtain ⟨l, hl⟩ : ∃ l, (b - a) / 4 = l := ⟨_, rfl⟩;rw [hl];have w2 : i64.wrap l = l := aE (by omega) (by omega);rw [w2];have w4 : i64.wrap (l * 2) = 2 * l := by rw [aE (by omega) (by omega)]; omega
 rw [w4];have w7 : i64.wrap (a + 2 * l) = a + 2 * l := aE (by omega) (by omega);rw [w7];have w8 : i64.wrap (a + 2 * l - 1) = a + 2 * l - 1 := aE (by omega) (by omega);have w9 : i64.wrap (a + 2 * l + 1) = a + 2 * l + 1 := aE (by omega) (by omega);rw [w8, w9];refine aH (fun _ => ?_) (fun _ => ⟨s, rfl, rfl, h⟩);refine (zds (by omega) (by omega)).mono ?_;rintro _ ⟨m, rfl, hm1, hm2⟩;refine ⟨_, rfl, ⟨rfl, ⟨m, rfl, hm1, hm2⟩, by omega, by omega, h⟩, ?_⟩;clear h hm1 hm2;rintro _ y s u ⟨⟨m, rfl, hm1, hm2⟩, y0, y1, h⟩;refine aH (fun hc => ?_) (fun _ => ⟨s, rfl, rfl, h⟩);simp only [aW] at hc;refine (zdt u).mono ?_;rintro _ _ ⟨t, rfl, rfl⟩;obtain ⟨q, hq, hw⟩ := zdu t hm1 (by omega);refine ⟨t, ⟨rfl, rfl⟩, ⟨trivial, trivial⟩, ?_⟩;rw [hw];clear hw w1 w2 w4 w7 w8 w9;have v1 : i64.wrap ((q : Int) - (b - a)) = (q : Int) - (b - a) := aE (by omega) (by omega);have v2 : i64.wrap (a + ((q : Int) - (b - a))) = a + ((q : Int) - (b - a)) := aE (by omega) (by omega);have v3 : i64.wrap (a + (q : Int)) = a + (q : Int) := aE (by omega) (by omega);have v4 : i64.wrap (y + 1) = y + 1 := aE (by omega) (by omega);rw [v1, v2, v3, v4];clear v1 v2 v3 v4;refine aH (fun hc2 => ?_) (fun hc2 => ?_)
 all_goals
  simp only [aW] at hc2;exact ⟨h.ix (by omega) (by omega), _, h.rd (by omega) (by omega), h.ix (by omega) (by omega), _, h.rd (by omega) (by omega), h.ix (by omega) (by omega), y2 ⟨h.ln (by omega) (by omega), (h.st (by omega) (by omega)).ix (by omega) (by omega), (h.st (by omega) (by omega)).ln (by omega) (by omega), rfl, ⟨⟨m, rfl, hm1, hm2⟩, by omega, by omega, (h.st (by omega) (by omega)).st (by omega) (by omega)⟩, by dsimp only; omega⟩⟩
end
section
variable {N : Nat} {nl : Bool} {s : List (List PV)}
def PJ (N : Nat) (a b ex ey : Int) (x y : Int) (s : List (List PV)) : Prop := ex <= x /\ y <= ey /\ a + 1 <= x /\ x <= b /\ a <= y /\ y < b /\ YL N s
theorem zdw (hN : N < 1000000) (h : YL N s) {a b c : Int} (h0 : 0 <= a) (h1 : a < b) (h2 : b <= N) (hc : a <= c) (hc2 : c < b) : ACall qc 46 [.own 0, .pv (.int .i64 a), .pv (.int .i64 b), .pv (.int .i64 c)] [.sl (21, 1) false nl s] fun r h' => ∃ t : Int × List (List PV), (r = .pv (.int .i64 t.1) /\ h' = [.sl (21, 1) false nl t.2]) /\ YL N t.2 /\ a < t.1 /\ t.1 <= b := by
 refine zdl _ _ _ _ _ (fun ex ey _ x y s => PJ N a b ex ey x y s) (fun x y _ => (y + 1 - x).toNat) (fun ex ey _ x y s => PJ N a b ex ey x y s) (fun x y _ => (y + 1 - x).toNat) ?_;unfold wP;have w1 : i64.wrap (a + 1) = a + 1 := aE (by omega) (by omega);have w2 : i64.wrap (b - 1) = b - 1 := aE (by omega) (by omega);rw [w1, w2];refine ⟨h.ix (by omega) (by omega), _, h.rd (by omega) (by omega), h.ix (by omega) (by omega), _, h.rd (by omega) (by omega), h.ix (by omega) (by omega), h.ln (by omega) (by omega), (h.st (by omega) (by omega)).ix (by omega) (by omega), (h.st (by omega) (by omega)).ln (by omega) (by omega), ⟨rfl, by omega, by omega, by omega, by omega, by omega, by omega, (h.st (by omega) (by omega)).st (by omega) (by omega)⟩, ?_⟩;clear h;rintro x y s ⟨b1, b2, b3, b4, b5, b6, h⟩;refine ⟨⟨rfl, by omega, by omega, by omega, by omega, by omega, by omega, h⟩, ?_⟩;clear h;rintro x1 y1 s ⟨d1, d2, d3, d4, d5, d6, h⟩;have w3 : i64.wrap (x1 + 1) = x1 + 1 := aE (by omega) (by omega);rw [w3];refine eH ?_ fun V => aH (fun hc => have hc := of_decide_eq_true hc; ⟨h.ix (by omega) (by omega), _, h.rd (by omega) (by omega), h.ix (by omega) (by omega), _, h.rd (by omega) (by omega), (cU _ _).mono fun v hv => ⟨_, hv, aH (fun _ => ⟨rfl, ⟨by omega, by omega, by omega, by omega, by omega, by omega, h⟩, by dsimp only; omega⟩) (fun _ => V)⟩⟩) (fun _ => V)
 focus
  refine ⟨⟨rfl, by omega, by omega, by omega, by omega, by omega, by omega, h⟩, ?_⟩;clear h;rintro x2 y2 s ⟨e1, e2, e3, e4, e5, e6, h⟩;have w4 : i64.wrap (x2 + 1) = x2 + 1 := aE (by omega) (by omega);have w5 : i64.wrap (y2 - 1) = y2 - 1 := aE (by omega) (by omega);rw [w4, w5];refine eH ?_ fun V => aH (fun hc => have hc := of_decide_eq_true hc; ⟨h.ix (by omega) (by omega), _, h.rd (by omega) (by omega), h.ix (by omega) (by omega), _, h.rd (by omega) (by omega), (cU _ _).mono fun v hv => ⟨_, hv, aH (fun _ => ⟨rfl, ⟨by omega, by omega, by omega, by omega, by omega, by omega, h⟩, by dsimp only; omega⟩) (fun _ => V)⟩⟩) (fun _ => V)
  focus
   refine aH (fun _ => ⟨(x2, s), ⟨rfl, rfl⟩, h, by dsimp only; omega, by dsimp only; omega⟩) (fun hg => ?_);simp only [aW] at hg;exact ⟨h.ix (by omega) (by omega), _, h.rd (by omega) (by omega), h.ix (by omega) (by omega), _, h.rd (by omega) (by omega), h.ix (by omega) (by omega), h.ln (by omega) (by omega), (h.st (by omega) (by omega)).ix (by omega) (by omega), (h.st (by omega) (by omega)).ln (by omega) (by omega), rfl, ⟨by omega, by omega, by omega, by omega, by omega, by omega, (h.st (by omega) (by omega)).st (by omega) (by omega)⟩, by dsimp only; omega⟩
theorem zdx (hN : N < 1000000) (h : YL N s) {a b c : Int} (h0 : 0 <= a) (h1 : a < b) (h2 : b <= N) (hc : a <= c) (hc2 : c < b) : ACall qc 47 [.own 0, .pv (.int .i64 a), .pv (.int .i64 b), .pv (.int .i64 c)] [.sl (21, 1) false nl s] fun r h' => ∃ t : Int × Bool × List (List PV), (r = .pv (.tup [.int .i64 t.1, .bool t.2.1]) /\ h' = [.sl (21, 1) false nl t.2.2]) /\ YL N t.2.2 /\ a <= t.1 /\ t.1 < b := by
 refine ACall.tups (Q := fun r h' => ∃ t : Int × Bool × List (List PV), (r = .tup [.pv (.int .i64 t.1), .pv (.bool t.2.1)] /\ h' = [.sl (21, 1) false nl t.2.2]) /\ YL N t.2.2 /\ a <= t.1 /\ t.1 < b) ?_ ?_
 rotate_left
 ·rintro _ _ ⟨t, ⟨rfl, rfl⟩, h1⟩;exact ⟨[.int .i64 t.1, .bool t.2.1], rfl, t, ⟨rfl, rfl⟩, h1⟩
 refine zdm _ _ _ _ _ (fun x s => a + 1 <= x /\ x <= b /\ YL N s) (fun x _ => (b - x).toNat) (fun x y s => a + 1 <= x /\ x <= b /\ a <= y /\ y < b /\ YL N s) (fun x y _ => (y + 1 - x).toNat) (fun ex ey _ x y s => PJ N a b ex ey x y s) (fun x y _ => (y + 1 - x).toNat) (fun ex ey _ x y s => PJ N a b ex ey x y s) (fun x y _ => (y + 1 - x).toNat) ?_;unfold wQ;have w1 : i64.wrap (a + 1) = a + 1 := aE (by omega) (by omega);have w2 : i64.wrap (b - 1) = b - 1 := aE (by omega) (by omega);rw [w1, w2];refine ⟨h.ix (by omega) (by omega), _, h.rd (by omega) (by omega), h.ix (by omega) (by omega), _, h.rd (by omega) (by omega), h.ix (by omega) (by omega), h.ln (by omega) (by omega), (h.st (by omega) (by omega)).ix (by omega) (by omega), (h.st (by omega) (by omega)).ln (by omega) (by omega), ⟨rfl, by omega, by omega, (h.st (by omega) (by omega)).st (by omega) (by omega)⟩, ?_⟩;clear h;rintro x s ⟨b3, b4, h⟩;have w3 : i64.wrap (x + 1) = x + 1 := aE (by omega) (by omega);rw [w3];refine eH ?_ fun V => aH (fun hc => have hc := of_decide_eq_true hc; ⟨h.ix (by omega) (by omega), _, h.rd (by omega) (by omega), h.ix (by omega) (by omega), _, h.rd (by omega) (by omega), (cU _ _).mono fun v hv => ⟨_, hv, aH (fun _ => ⟨rfl, ⟨by omega, by omega, h⟩, by dsimp only; omega⟩) (fun _ => V)⟩⟩) (fun _ => V)
 focus
  refine ⟨⟨rfl, by omega, by omega, by omega, by omega, h⟩, ?_⟩;clear h;rintro x1 y1 s ⟨d3, d4, d5, d6, h⟩;have w4 : i64.wrap (x1 + 1) = x1 + 1 := aE (by omega) (by omega);have w5 : i64.wrap (y1 - 1) = y1 - 1 := aE (by omega) (by omega);rw [w4, w5];refine eH ?_ fun V => aH (fun hc => have hc := of_decide_eq_true hc; ⟨h.ix (by omega) (by omega), _, h.rd (by omega) (by omega), h.ix (by omega) (by omega), _, h.rd (by omega) (by omega), (cU _ _).mono fun v hv => ⟨_, hv, aH (fun _ => ⟨rfl, ⟨by omega, by omega, by omega, by omega, h⟩, by dsimp only; omega⟩) (fun _ => V)⟩⟩) (fun _ => V)
  focus
   refine aH (fun _ => ⟨h.ix (by omega) (by omega), _, h.rd (by omega) (by omega), h.ix (by omega) (by omega), _, h.rd (by omega) (by omega), h.ix (by omega) (by omega), h.ln (by omega) (by omega), (h.st (by omega) (by omega)).ix (by omega) (by omega), (h.st (by omega) (by omega)).ln (by omega) (by omega), (y1, true, _), ⟨rfl, rfl⟩, (h.st (by omega) (by omega)).st (by omega) (by omega), by dsimp only; omega, by dsimp only; omega⟩) (fun hg => ?_);simp only [aW] at hg;refine ⟨h.ix (by omega) (by omega), _, h.rd (by omega) (by omega), h.ix (by omega) (by omega), _, h.rd (by omega) (by omega), h.ix (by omega) (by omega), h.ln (by omega) (by omega), (h.st (by omega) (by omega)).ix (by omega) (by omega), (h.st (by omega) (by omega)).ln (by omega) (by omega), ⟨rfl, by omega, by omega, by omega, by omega, by omega, by omega, (h.st (by omega) (by omega)).st (by omega) (by omega)⟩, ?_⟩;clear h;rintro x2 y2 s ⟨e1, e2, e3, e4, e5, e6, h⟩;refine ⟨⟨rfl, by omega, by omega, by omega, by omega, by omega, by omega, h⟩, ?_⟩;clear h;rintro x3 y3 s ⟨f1, f2, f3, f4, f5, f6, h⟩;have w6 : i64.wrap (x3 + 1) = x3 + 1 := aE (by omega) (by omega);rw [w6];refine eH ?_ fun V => aH (fun hc => have hc := of_decide_eq_true hc; ⟨h.ix (by omega) (by omega), _, h.rd (by omega) (by omega), h.ix (by omega) (by omega), _, h.rd (by omega) (by omega), (cU _ _).mono fun v hv => ⟨_, hv, aH (fun _ => ⟨rfl, ⟨by omega, by omega, by omega, by omega, by omega, by omega, h⟩, by dsimp only; omega⟩) (fun _ => V)⟩⟩) (fun _ => V)
   focus
    refine ⟨⟨rfl, by omega, by omega, by omega, by omega, by omega, by omega, h⟩, ?_⟩;clear h;rintro x4 y4 s ⟨g1, g2, g3, g4, g5, g6, h⟩;have w7 : i64.wrap (x4 + 1) = x4 + 1 := aE (by omega) (by omega);have w8 : i64.wrap (y4 - 1) = y4 - 1 := aE (by omega) (by omega);rw [w7, w8];refine eH ?_ fun V => aH (fun hc => have hc := of_decide_eq_true hc; ⟨h.ix (by omega) (by omega), _, h.rd (by omega) (by omega), h.ix (by omega) (by omega), _, h.rd (by omega) (by omega), (cU _ _).mono fun v hv => ⟨_, hv, aH (fun _ => ⟨rfl, ⟨by omega, by omega, by omega, by omega, by omega, by omega, h⟩, by dsimp only; omega⟩) (fun _ => V)⟩⟩) (fun _ => V)
    focus
     refine aH (fun _ => ⟨h.ix (by omega) (by omega), _, h.rd (by omega) (by omega), h.ix (by omega) (by omega), _, h.rd (by omega) (by omega), h.ix (by omega) (by omega), h.ln (by omega) (by omega), (h.st (by omega) (by omega)).ix (by omega) (by omega), (h.st (by omega) (by omega)).ln (by omega) (by omega), (y4, false, _), ⟨rfl, rfl⟩, (h.st (by omega) (by omega)).st (by omega) (by omega), by dsimp only; omega, by dsimp only; omega⟩) (fun hg => ?_);simp only [aW] at hg;exact ⟨h.ix (by omega) (by omega), _, h.rd (by omega) (by omega), h.ix (by omega) (by omega), _, h.rd (by omega) (by omega), h.ix (by omega) (by omega), h.ln (by omega) (by omega), (h.st (by omega) (by omega)).ix (by omega) (by omega), (h.st (by omega) (by omega)).ln (by omega) (by omega), rfl, ⟨by omega, by omega, by omega, by omega, by omega, by omega, (h.st (by omega) (by omega)).st (by omega) (by omega)⟩, by dsimp only; omega⟩
end
end Go.Eng
