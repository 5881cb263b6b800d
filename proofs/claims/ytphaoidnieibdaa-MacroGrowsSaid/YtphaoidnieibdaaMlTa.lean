/- States run over the code: what each function gives, and what follows. -/
import Derived.Test.YtphaoidnieibdaaEngb
import Derived.RangeFuncRecord
import Derived.Defers
import Derived.Shelf.SlMaps.Clone
open Go.IntKind (i64 i32)
open Go.Proofs.Try renaming prog → qa
open List renaming length_map → qc, length_cons → qe, mem_cons_of_mem → qg, mem_cons_self → qj, drop → qk, getElem?_append_left → ql, map_append → qm, length → qo, length_nil → qp, getElem?_eq_getElem → qq, take_of_length_le → qr, getElem_append_left → qu, map_cons → qw, getElem_mem → qx, length_singleton → qy, mem_of_getElem? → qz, mem_map_of_mem → qab, length_append → qac, getElem?_cons_zero → qah, range' → qai, getElem?_eq_none → qak, replicate → qal, getElem?_take → qan, take → qar, mem_map → qas, getElem?_map → qat, append_assoc → qav, cons_append → qax, filter_cons → qay, length_take → qaz, drop_zero → qbb
open Nat renaming le_refl → qd, zero_le → qn, eq_of_beq_eq_true → qt, lt_or_ge → qaf, beq → qaj, pow_le_pow_right → qam, le_trans → qaq, lt_trichotomy → qau
open Int renaming toNat_natCast → qf, le_refl → qaw
open Bool renaming false_eq_true → qh, and_eq_true → qae
open Array renaming getD_eq_getD_getElem? → qi, getElem?_eq_none → qv, replicate → qaa, eraseIdxIfInBounds → qag
open Go.Result renaming andThen_ok → qad
open Go.Sem renaming run_bind → qao, run_pure → qap
open Option renaming map_some → qba
set_option linter.unusedVariables false
set_option linter.unusedSimpArgs false
namespace Go.Eng
open Go
abbrev wd (ro : Option Nat) : Fence := { Fence.wide with round := ro }
section
variable {P : Program} {n : Nat} {ro : Option Nat}
theorem tF {f : FuncId} {args : Array Value} {w : World} {R : Ending -> World -> Prop} (h : Calls P f args w R) : CallsIn (wd ro) n P f args w R := (callsIn_wide (n := n)).2 h
theorem yQ {row : String} {args : Array Value} {w : World} {R : Value -> World -> Prop} (h : Rows P row args w R) : RowsIn (wd ro) n P row args w R :=
 fun c cs _ => let ⟨v, w', r, s⟩ := h c cs; ⟨v, w', r, stepsIn_wide.2 s⟩
theorem yR {o : Oper} {a : Act} {next next' : Act -> World -> Prop} {Q : Exit -> Act -> World -> Prop} (hn : ∀ a w, next a w -> next' a w) : ∀ {r : Result Next}, o.upon P a next Q r -> o.uponIn (wd ro) n P a next' Q r
 | .ok (.value _) _, h => hn _ _ h
 | .ok .skip _, h => hn _ _ h
 | .ok (.defer _) _, h => hn _ _ h
 | .ok (.enter f args) w, h => ⟨(fun x => by cases x), tF (Calls.mono h fun e w' q => by cases e <;> first | exact hn _ _ q | exact q)⟩
 | .ok (.row row args) w, h => ⟨(fun x => by cases x), yQ (Rows.mono h fun v w' q => hn _ _ q)⟩
 | .halt (.panic v) w, h => h
theorem lQ {ops : Array Oper} {Q : Exit -> Act -> World -> Prop} (hnd : ∀ (i : Nat) o c, ops[i]? = some o -> o.op ≠ .defer c) (hQ : ∀ a w, ¬ Q .outgrown a w) : ∀ {l : List Nat} {a : Act} {w : World}, wpOps P ops Q l a w -> wpOpsIn (wd ro) n P ops Q l a w
 | [], _, _, h => h
 | i :: rest, a, w, h => by
   simp only [wpOps, wpOpsIn] at h ⊢;cases ho : ops[i]? with
   | none => simp only [ho] at h ⊢; exact lQ hnd hQ h
   | some o =>
     simp only [ho] at h ⊢;split at h
     ·rename_i hw;rw [if_pos hw];rcases h with h | ⟨_, a1, w1, hq⟩
      ·refine ⟨fun _ _ => trivial, ?_⟩;rw [Oper.semAt_eq _ _ _ (fun c => hnd i o c ho)];exact yR (fun _ _ q => lQ hnd hQ q) h
      ·exact absurd hq (hQ _ _)
     ·rename_i hw;rw [if_neg hw];exact ⟨fun _ _ => trivial, lQ hnd hQ h⟩
theorem yS {F : Fence} {o : Oper} {a : Act} {next next' K : Act -> World -> Prop} {Q : Exit -> Act -> World -> Prop} (hn : ∀ a w, next a w -> next' a w) : ∀ {r : Result Next}, o.uponIn F n P a next (Exit.then K Q) r -> o.uponIn F n P a next' Q r
 | .ok (.value _) _, h => hn _ _ h
 | .ok .skip _, h => hn _ _ h
 | .ok (.defer _) _, h => hn _ _ h
 | .ok (.enter f args) w, h => ⟨h.1, CallsIn.mono h.2 fun e w' q => by cases e <;> first | exact hn _ _ q | exact q⟩
 | .ok (.row row args) w, h => ⟨h.1, RowsIn.mono h.2 fun v w' q => hn _ _ q⟩
 | .ok (.round l f tmps assign body) w, h => ⟨h.1, RoundIn.mono h.2 fun e w' q => by cases e <;> first | exact hn _ _ q | exact q⟩
 | .halt (.panic v) w, h => h
theorem lR {F : Fence} {ops : Array Oper} {Q : Exit -> Act -> World -> Prop} {l2 : List Nat} : ∀ {l1 : List Nat} {a : Act} {w : World}, wpOpsIn F n P ops (Exit.then (wpOpsIn F n P ops Q l2) Q) l1 a w -> wpOpsIn F n P ops Q (l1 ++ l2) a w
 | [], _, _, h => h
 | i :: rest, a, w, h => by
   simp only [wpOpsIn, qax] at h ⊢;cases ho : ops[i]? with
   | none => simp only [ho] at h ⊢; exact lR h
   | some o =>
     simp only [ho] at h ⊢;split at h
     ·rename_i hw;rw [if_pos hw];exact ⟨h.1, yS (fun _ _ q => lR q) h.2⟩
     ·rename_i hw;rw [if_neg hw];exact ⟨h.1, lR h.2⟩
end
section
variable {H : Nat -> Option HSpec} {P : Program} {n N : Nat} {ro : Option Nat}
def dY : List Oper -> Bool
 | [] => true
 | o :: r => (match o.op with | .defer _ => false | _ => true) && dY r
theorem yT {ops : Array Oper} (h : dY ops.toList = true) : ∀ (i : Nat) o c, ops[i]? = some o -> o.op ≠ .defer c := by
 have key : ∀ {l : List Oper}, dY l = true -> ∀ (i : Nat) o c, l[i]? = some o -> o.op ≠ .defer c := by
  intro l
  induction l with
  | nil => intro _ i o c hi; cases hi
  | cons x r ih =>
    intro hx i o c hi;simp only [dY, qae] at hx;cases i with
    | zero => simp at hi; subst hi; intro e; rw [e] at hx; exact absurd hx.1 (by simp)
    | succ i => exact ih hx.2 i o c (by simpa using hi)
 intro i o c hi;exact key h i o c (by simpa using hi)
theorem yU {ops : Array Oper} {l : List Oper} {k : Nat} {e : Env} {h : Hp} {K : Env -> Hp -> Prop} (hd : dY ops.toList = true) (hl : ∀ j, j < l.length -> l[j]? = ops[k + j]?) (hK : aT P H N ops.toList l e h K) {w : World} {I : Nat -> Prop} {G : Nat -> Pl} {a : Act} (hs : SRel w I G e h N a)
 {Q : Exit -> Act -> World -> Prop} (hQ : ∀ a w, ¬ Q .outgrown a w) (hq : ∀ e' h' w' I' G' a', K e' h' -> SRel w' I' G' e' h' N a' -> a'.defers = a.defers -> TrH w I G h w' I' G' h' -> Q .normal a' w') : wpOpsIn (wd ro) n P ops Q (qai k l.length) a w :=
 lQ (yT hd) hQ (nV (Qx := Q) l k e h hl hK w I G a hs hq)
end
section
variable {H : Nat -> Option HSpec} {P : Program} {n0 N : Nat} {Z : World -> (Nat -> Prop) -> (Nat -> Pl) -> Hp -> Prop}
def CodeZ (Z : World -> (Nat -> Prop) -> (Nat -> Pl) -> Hp -> Prop) (P : Program) (N : Nat) (c : Code) (e : Env) (h : Hp) (Q : Qt) : Prop :=
 ∀ (w : World) (I : Nat -> Prop) (G : Nat -> Pl) (a : Act) (Qx : Exit -> Act -> World -> Prop), SRel w I G e h N a -> Z w I G h ->
  (∀ x e' h' w' I' G' a', Q x e' h' -> SRel w' I' G' e' h' N a' -> a'.defers = a.defers -> Z w' I' G' h' -> Qx x.to a' w') -> c.wp P Qx a w
theorem CodeZ.of (hZ : ∀ w I G h w' I' G' h', Z w I G h -> HRel w I G h -> HRel w' I' G' h' -> TrN n0 w I G h w' I' G' h' -> Z w' I' G' h') {c : Code} {e : Env} {h : Hp} {Q : Qt} (hK : CodeS P n0 N c e h Q) : CodeZ Z P N c e h Q :=
 fun w I G a Qx hs hz hq => hK w I G a Qx hs fun x e' h' w' I' G' a' hk hs' hd ht => hq x e' h' w' I' G' a' hk hs' hd (hZ _ _ _ _ _ _ _ _ hz hs.hh hs'.hh ht)
theorem CodeZ.skip {e : Env} {h : Hp} {Q : Qt} (hK : Q .normal e h) : CodeZ Z P N .skip e h Q :=
 fun w I G a Qx hs hz hq => wp_skip (hq .normal e h w I G a hK hs rfl hz)
theorem CodeZ.ret {e : Env} {h : Hp} {Q : Qt} (hK : Q .ret e h) : CodeZ Z P N .ret e h Q :=
 fun w I G a Qx hs hz hq => wp_ret (hq .ret e h w I G a hK hs rfl hz)
theorem CodeZ.seq {x y : Code} {e : Env} {h : Hp} {Q : Qt} (hK : CodeZ Z P N x e h fun q e h => match q with | .normal => CodeZ Z P N y e h Q | q => Q q e h) : CodeZ Z P N (.seq x y) e h Q := by
 intro w I G a Qx hs hz hq;refine wp_seq (hK w I G a _ hs hz fun q e' h' w' I' G' a' hk hs' hd hz' => ?_);cases q with
 | normal => exact hk w' I' G' a' Qx hs' hz' fun q2 e2 h2 w2 I2 G2 a2 hk2 hs2 hd2 hz2 => hq q2 e2 h2 w2 I2 G2 a2 hk2 hs2 (hd2.trans hd) hz2
 | exit n => exact hq (.exit n) e' h' w' I' G' a' hk hs' hd hz'
 | ret => exact hq .ret e' h' w' I' G' a' hk hs' hd hz'
theorem CodeZ.cond {c : Operand} {x y : Code} {e : Env} {h : Hp} {Q : Qt} {t : Bool} (hc : aC [] e c = some (.pv (.bool t))) (hK : if t = true then CodeZ Z P N x e h Q else CodeZ Z P N y e h Q) : CodeZ Z P N (.cond c x y) e h Q := by
 intro w I G a Qx hs hz hq;refine wp_cond (aB hs.he (AOK.nil _) hc).bool_eq ?_;cases t with
 | true => simp only [if_true] at hK ⊢; exact hK w I G a Qx hs hz hq
 | false => simp only [qh, if_false] at hK ⊢; exact hK w I G a Qx hs hz hq
theorem CodeZ.block {id : Nat} {c : Code} {e : Env} {h : Hp} {Q : Qt}
 (hK : CodeZ Z P N c e h fun q e h => match q with | .exit n => (bif qaj n id then Q .normal e h else Q (.exit n) e h) | q => Q q e h) : CodeZ Z P N (.block id c) e h Q := by
 intro w I G a Qx hs hz hq;refine wp_block (hK w I G a _ hs hz fun q e' h' w' I' G' a' hk hs' hd hz' => ?_);cases q with
 | normal => exact hq .normal e' h' w' I' G' a' hk hs' hd hz'
 | ret => exact hq .ret e' h' w' I' G' a' hk hs' hd hz'
 | exit n =>
   simp only [Ex.to, Exit.inBlock];cases hb : qaj n id with
   | true =>
     simp only [hb, cond_true] at hk;rw [if_pos (qt hb)];exact hq .normal e' h' w' I' G' a' hk hs' hd hz'
   | false =>
     simp only [hb, cond_false] at hk;rw [if_neg (fun e => by subst e; simp at hb)];exact hq (.exit n) e' h' w' I' G' a' hk hs' hd hz'
theorem CodeZ.mono {c : Code} {e : Env} {h : Hp} {Q Q' : Qt} (hK : CodeZ Z P N c e h Q) (hq : ∀ x e h, Q x e h -> Q' x e h) : CodeZ Z P N c e h Q' :=
 fun w I G a Qx hs hz hq' => hK w I G a Qx hs hz fun x e' h' w' I' G' a' hk => hq' x e' h' w' I' G' a' (hq _ _ _ hk)
theorem SRel.le {w : World} {I : Nat -> Prop} {G : Nat -> Pl} {e e' : Env} {h : Hp} {a : Act} (hs : SRel w I G e h N a) (hl : ∀ i v, get e' i = some v -> get e i = some v) : SRel w I G e' h N a := ⟨hs.hh, fun i v hi => hs.he i v (hl i v hi), hs.hn⟩
def LeE : Env -> Env -> Prop
 | [], _ => True
 | (i, v) :: r, e => get e i = some v /\ LeE r e
theorem LeE.le : ∀ {e' e : Env}, LeE e' e -> ∀ i v, get e' i = some v -> get e i = some v
 | [], _, _, i, v, h => by cases h
 | (k, x) :: r, e, hl, i, v, h => by
   simp only [get] at h;cases hb : qaj k i with
   | true => rw [hb] at h; have := qt hb; subst this; cases h; exact hl.1
   | false => rw [hb] at h; exact hl.2.le i v h
theorem CodeZ.loop {c : Code} {e : Env} {h : Hp} {Q : Qt} {σ : Type} (S : σ -> Env × Hp) (J : σ -> Prop) (μ : σ -> Nat) (s0 : σ) (he : ∀ i v, get (S s0).1 i = some v -> get e i = some v) (hh : h = (S s0).2) (hJ : J s0)
 (hb : ∀ s, J s -> CodeZ Z P N c (S s).1 (S s).2 fun x e h => match x with | .normal => ∃ s', (∀ i v, get (S s').1 i = some v -> get e i = some v) /\ h = (S s').2 /\ J s' /\ μ s' < μ s | x => Q x e h) : CodeZ Z P N (.loop c) e h Q := by
 intro w I G a Qx hs hz hq;subst hh
 refine wp_loop_ghost (fun n a1 w1 => ∃ s I1 G1, μ s = n /\ J s /\ SRel w1 I1 G1 (S s).1 (S s).2 N a1 /\ a1.defers = a.defers /\ Z w1 I1 G1 (S s).2) (μ s0)
  ⟨s0, I, G, rfl, hJ, hs.le he, rfl, hz⟩ ?_
 rintro n a1 w1 ⟨s, I1, G1, rfl, hj, hs1, hd1, hz1⟩;refine hb s hj w1 I1 G1 a1 _ hs1 hz1 fun x e2 h2 w2 I2 G2 a2 hk hs2 hd2 hz2 => ?_;cases x with
 | normal =>
   obtain ⟨s', hf, rfl, hj', hlt⟩ := hk;exact ⟨μ s', hlt, s', I2, G2, rfl, hj', hs2.le hf, hd2.trans hd1, hz2⟩
 | exit n => exact hq (.exit n) e2 h2 w2 I2 G2 a2 hk hs2 (hd2.trans hd1) hz2
 | ret => exact hq .ret e2 h2 w2 I2 G2 a2 hk hs2 (hd2.trans hd1) hz2
end
section
variable {w w' w2 : World} {I I' I2 : Nat -> Prop} {G G' G2 : Nat -> Pl} {h h' h2 : Hp}
theorem HRel.frame (hh : HRel w I G h) (hb : ∀ b, aE h G b -> w'.heap[b]? = w.heap[b]?) (hk : Keeps w I w' I') (hn : ∀ b, aE h G b -> ¬ I' b) (hc : ∀ b, I' b -> b < w'.heap.size) : HRel w' I' G h := by
 have blk : ∀ (i : Nat) x, h[i]? = some x -> x.alive (G i) -> w'.heap[(G i).blk]? = w.heap[(G i).blk]? := fun i x hx ha => hb _ ⟨i, x, hx, ha, rfl⟩;refine ⟨fun i x hx => ?_, hh.sep, fun i x hx ha => hn _ ⟨i, x, hx, ha, rfl⟩, hc⟩;have := hh.obs i x hx;cases x with
 | dead => trivial
 | box cs => obtain ⟨vs, ty, e1, e2, e3⟩ := this; exact ⟨vs, ty, by rw [blk i _ hx trivial]; exact e1, e2, fun k v hv => ⟨(e3 k v hv).1.mono hk (.refl _ _), (e3 k v hv).2⟩⟩
 | arr cs => obtain ⟨vs, ty, e1, e2, e3⟩ := this; exact ⟨vs, ty, by rw [blk i _ hx trivial]; exact e1, e2, fun k v hv => ⟨(e3 k v hv).1.mono hk.1 hk.2, (e3 k v hv).2⟩⟩
 | sl ty m n es =>
   cases n with
   | true => exact this
   | false =>
     obtain ⟨e1, e2, e3, e3', e4, e5⟩ := this;refine ⟨e1, e2, e3, e3', e4, fun hc => ?_⟩;obtain ⟨vs, f1, f2, f3⟩ := e5 hc;exact ⟨vs, by rw [blk i _ hx ⟨rfl, hc⟩]; exact f1, f2, fun i' e he k v hv => ⟨(f3 i' e he k v hv).1.mono hk.1 hk.2, (f3 i' e he k v hv).2⟩⟩
 | mp kvs => obtain ⟨es, ck, e1, e2, e3⟩ := this; exact ⟨es, ck, by rw [blk i _ hx trivial]; exact e1, e2, fun k kv hv => ⟨(e3 k kv hv).1.mono hk.1 hk.2, (e3 k kv hv).2.mono hk.1 hk.2⟩⟩
 | iter ty rem cur => exact IterRel.mono this (blk i _ hx trivial) hk
end
section
variable {α : Type} {Z : α -> World -> (Nat -> Prop) -> (Nat -> Pl) -> Hp -> Prop} {P : Program} {n0 N : Nat}
def CodeY (Z : α -> World -> (Nat -> Prop) -> (Nat -> Pl) -> Hp -> Prop) (P : Program) (N : Nat) (c : Code) (s : α) (e : Env) (h : Hp) (Q : α -> Qt) : Prop :=
 ∀ (w : World) (I : Nat -> Prop) (G : Nat -> Pl) (a : Act) (Qx : Exit -> Act -> World -> Prop), SRel w I G e h N a -> Z s w I G h ->
  (∀ s' x e' h' w' I' G' a', Q s' x e' h' -> SRel w' I' G' e' h' N a' -> a'.defers = a.defers -> Z s' w' I' G' h' -> Qx x.to a' w') -> c.wp P Qx a w
def lS (Z : α -> World -> (Nat -> Prop) -> (Nat -> Pl) -> Hp -> Prop) (n0 : Nat) : Prop := ∀ s w I G h w' I' G' h', Z s w I G h -> HRel w I G h -> HRel w' I' G' h' -> TrN n0 w I G h w' I' G' h' -> Z s w' I' G' h'
theorem CodeY.of (hZ : lS Z n0) {c : Code} {s : α} {e : Env} {h : Hp} {Q : α -> Qt} (hK : CodeS P n0 N c e h (Q s)) : CodeY Z P N c s e h Q :=
 fun w I G a Qx hs hz hq => hK w I G a Qx hs fun x e' h' w' I' G' a' hk hs' hd ht => hq s x e' h' w' I' G' a' hk hs' hd (hZ _ _ _ _ _ _ _ _ _ hz hs.hh hs'.hh ht)
theorem CodeY.skip {s : α} {e : Env} {h : Hp} {Q : α -> Qt} (hK : Q s .normal e h) : CodeY Z P N .skip s e h Q :=
 fun w I G a Qx hs hz hq => wp_skip (hq s .normal e h w I G a hK hs rfl hz)
theorem CodeY.ret {s : α} {e : Env} {h : Hp} {Q : α -> Qt} (hK : Q s .ret e h) : CodeY Z P N .ret s e h Q :=
 fun w I G a Qx hs hz hq => wp_ret (hq s .ret e h w I G a hK hs rfl hz)
theorem CodeY.exit {n : Nat} {s : α} {e : Env} {h : Hp} {Q : α -> Qt} (hK : Q s (.exit n) e h) : CodeY Z P N (.exit n) s e h Q :=
 fun w I G a Qx hs hz hq => wp_exit (hq s (.exit n) e h w I G a hK hs rfl hz)
theorem CodeY.seq {x y : Code} {s : α} {e : Env} {h : Hp} {Q : α -> Qt} (hK : CodeY Z P N x s e h fun s q e h => match q with | .normal => CodeY Z P N y s e h Q | q => Q s q e h) : CodeY Z P N (.seq x y) s e h Q := by
 intro w I G a Qx hs hz hq;refine wp_seq (hK w I G a _ hs hz fun s' q e' h' w' I' G' a' hk hs' hd hz' => ?_);cases q with
 | normal => exact hk w' I' G' a' Qx hs' hz' fun s2 q2 e2 h2 w2 I2 G2 a2 hk2 hs2 hd2 hz2 => hq s2 q2 e2 h2 w2 I2 G2 a2 hk2 hs2 (hd2.trans hd) hz2
 | exit n => exact hq s' (.exit n) e' h' w' I' G' a' hk hs' hd hz'
 | ret => exact hq s' .ret e' h' w' I' G' a' hk hs' hd hz'
theorem CodeY.cond {c : Operand} {x y : Code} {s : α} {e : Env} {h : Hp} {Q : α -> Qt} {t : Bool} (hc : aC [] e c = some (.pv (.bool t))) (hK : if t = true then CodeY Z P N x s e h Q else CodeY Z P N y s e h Q) : CodeY Z P N (.cond c x y) s e h Q := by
 intro w I G a Qx hs hz hq;refine wp_cond (aB hs.he (AOK.nil _) hc).bool_eq ?_;cases t with
 | true => simp only [if_true] at hK ⊢; exact hK w I G a Qx hs hz hq
 | false => simp only [qh, if_false] at hK ⊢; exact hK w I G a Qx hs hz hq
theorem CodeY.block {id : Nat} {c : Code} {s : α} {e : Env} {h : Hp} {Q : α -> Qt}
 (hK : CodeY Z P N c s e h fun s q e h => match q with | .exit n => (bif qaj n id then Q s .normal e h else Q s (.exit n) e h) | q => Q s q e h) : CodeY Z P N (.block id c) s e h Q := by
 intro w I G a Qx hs hz hq;refine wp_block (hK w I G a _ hs hz fun s' q e' h' w' I' G' a' hk hs' hd hz' => ?_);cases q with
 | normal => exact hq s' .normal e' h' w' I' G' a' hk hs' hd hz'
 | ret => exact hq s' .ret e' h' w' I' G' a' hk hs' hd hz'
 | exit n =>
   simp only [Ex.to, Exit.inBlock];cases hb : qaj n id with
   | true =>
     simp only [hb, cond_true] at hk;rw [if_pos (qt hb)];exact hq s' .normal e' h' w' I' G' a' hk hs' hd hz'
   | false =>
     simp only [hb, cond_false] at hk;rw [if_neg (fun e => by subst e; simp at hb)];exact hq s' (.exit n) e' h' w' I' G' a' hk hs' hd hz'
theorem CodeY.mono {c : Code} {s : α} {e : Env} {h : Hp} {Q Q' : α -> Qt} (hK : CodeY Z P N c s e h Q) (hq : ∀ s x e h, Q s x e h -> Q' s x e h) : CodeY Z P N c s e h Q' :=
 fun w I G a Qx hs hz hq' => hK w I G a Qx hs hz fun s' x e' h' w' I' G' a' hk => hq' s' x e' h' w' I' G' a' (hq _ _ _ _ hk)
theorem CodeY.le {c : Code} {s : α} {e e' : Env} {h : Hp} {Q : α -> Qt} (hl : LeE e' e) (hK : CodeY Z P N c s e' h Q) : CodeY Z P N c s e h Q :=
 fun w I G a Qx hs hz hq => hK w I G a Qx (hs.le hl.le) hz hq
theorem CodeY.loop {c : Code} {s : α} {e : Env} {h : Hp} {Q : α -> Qt} {σ : Type} (S : σ -> Env × Hp) (A : σ -> α) (J : σ -> Prop) (μ : σ -> Nat) (s0 : σ) (he : LeE (S s0).1 e) (hh : h = (S s0).2) (ha : s = A s0) (hJ : J s0)
 (hb : ∀ u, J u -> CodeY Z P N c (A u) (S u).1 (S u).2 fun s' x e h => match x with | .normal => ∃ u', LeE (S u').1 e /\ h = (S u').2 /\ s' = A u' /\ J u' /\ μ u' < μ u | x => Q s' x e h) : CodeY Z P N (.loop c) s e h Q := by
 intro w I G a Qx hs hz hq;subst hh;subst ha
 refine wp_loop_ghost (fun n a1 w1 => ∃ u I1 G1, μ u = n /\ J u /\ SRel w1 I1 G1 (S u).1 (S u).2 N a1 /\ a1.defers = a.defers /\ Z (A u) w1 I1 G1 (S u).2) (μ s0)
  ⟨s0, I, G, rfl, hJ, hs.le he.le, rfl, hz⟩ ?_
 rintro n a1 w1 ⟨u, I1, G1, rfl, hj, hs1, hd1, hz1⟩;refine hb u hj w1 I1 G1 a1 _ hs1 hz1 fun s' x e2 h2 w2 I2 G2 a2 hk hs2 hd2 hz2 => ?_;cases x with
 | normal =>
   obtain ⟨u', hf, rfl, rfl, hj', hlt⟩ := hk;exact ⟨μ u', hlt, u', I2, G2, rfl, hj', hs2.le hf.le, hd2.trans hd1, hz2⟩
 | exit n => exact hq s' (.exit n) e2 h2 w2 I2 G2 a2 hk hs2 (hd2.trans hd1) hz2
 | ret => exact hq s' .ret e2 h2 w2 I2 G2 a2 hk hs2 (hd2.trans hd1) hz2
end
section
variable {H : Nat -> Option HSpec} {P : Program} {N : Nat} {ops : Array Oper} {Φ : Act -> World -> Prop} {k : Nat} {a : Act} {w : World}
def OpsN (P : Program) (ops : Array Oper) (k : Nat) (Φ : Act -> World -> Prop) (a : Act) (w : World) : Prop := wpOpsIn (wd none) 0 P ops (fun x a w => x = .normal /\ Φ a w) (qai k (ops.size - k)) a w
theorem oU {id : Nat} {Q : Exit -> Act -> World -> Prop} (h : OpsN P ops 0 Φ a w) (hq : ∀ a' w', Φ a' w' -> Q .normal a' w') : (Code.region id ops false).wp P Q a w := by
 refine wp_mono (Q := fun x a w => x = .normal /\ Φ a w) ((wpIn_wide (n := 0)).1 (wpIn_region (F := wd none) ?_)) ?_
 ·rw [List.range_eq_range']; exact h
 ·rintro x a' w' ⟨rfl, hp⟩; exact hq _ _ hp
theorem OpsN.last (hk : ops.size <= k) (h : Φ a w) : OpsN P ops k Φ a w := by
 unfold OpsN;rw [Nat.sub_eq_zero_of_le hk];exact ⟨rfl, h⟩
theorem OpsN.step (hd : dY ops.toList = true) (j : Nat) {e : Env} {h : Hp} {K : Env -> Hp -> Prop} (hj : k + j <= ops.size) (hK : aT P H N ops.toList ((ops.toList.drop k).take j) e h K) {I : Nat -> Prop} {G : Nat -> Pl} (hs : SRel w I G e h N a)
 (hq : ∀ e' h' w' I' G' a', K e' h' -> SRel w' I' G' e' h' N a' -> a'.defers = a.defers -> TrH w I G h w' I' G' h' -> OpsN P ops (k + j) Φ a' w') : OpsN P ops k Φ a w := by
 unfold OpsN;rw [show ops.size - k = j + (ops.size - (k + j)) by omega, <- List.range'_append_1];refine lR ?_;have hl : ((ops.toList.drop k).take j).length = j := by simp; omega
 have := yU (ro := none) (n := 0) (k := k) (Q := Exit.then (wpOpsIn (wd none) 0 P ops (fun x a w => x = .normal /\ Φ a w) (qai (k + j) (ops.size - (k + j)))) fun x a w => x = .normal /\ Φ a w) hd (fun i hi => by
  rw [qan, if_pos (by omega), List.getElem?_drop]; simp) hK hs (fun a w h => nomatch h.1) hq
 rw [hl] at this;exact this
theorem OpsN.one {o : Oper} (ho : ops[k]? = some o) (hg : o.guard = none) (h : o.wpIn (wd none) 0 P a w (fun a w => OpsN P ops (k + 1) Φ a w) (fun x a w => x = .normal /\ Φ a w)) : OpsN P ops k Φ a w := by
 have hlt : k < ops.size := (Array.getElem?_eq_some_iff.1 ho).1;unfold OpsN;rw [show ops.size - k = (ops.size - (k + 1)) + 1 by omega, List.range'_succ];simp only [wpOpsIn, ho];rw [if_pos (by simp [Region.wanted, hg])];exact h
theorem OpsN.value {o : Oper} (ho : ops[k]? = some o) (hg : o.guard = none) {v : Value} (hr : (execOp a.eval o).run P w = .ok (.value v) w) (h : OpsN P ops (k + 1) Φ (a.put o.dst v) w) : OpsN P ops k Φ a w := by
 refine OpsN.one ho hg ⟨fun _ _ => trivial, ?_⟩;show o.uponIn (wd none) 0 P a _ _ ((o.semAt none a.eval).run P w);rw [Oper.semAt_none, hr];exact h
theorem OpsN.call {o : Oper} (ho : ops[k]? = some o) (hg : o.guard = none) {f : Nat} {args : Array Value} (hr : (execOp a.eval o).run P w = .ok (.enter f args) w) {R : Value -> World -> Prop} (hc : Calls P f args w fun e w' => ∃ cv, e = .returned cv /\ R cv w')
 (h : ∀ cv w', R cv w' -> OpsN P ops (k + 1) Φ (a.put o.dst cv) w') : OpsN P ops k Φ a w := by
 refine OpsN.one ho hg ⟨fun _ _ => trivial, ?_⟩;show o.uponIn (wd none) 0 P a _ _ ((o.semAt none a.eval).run P w);rw [Oper.semAt_none, hr];refine ⟨(fun x => by cases x), (tF hc).mono ?_⟩;rintro e w' ⟨cv, rfl, hR⟩;exact h cv w' hR
end
theorem SRel.unm {w : World} {I : Nat -> Prop} {G : Nat -> Pl} {e : Env} {h : Hp} {N : Nat} {a : Act} (hs : SRel w I G e h N a) : SRel w I G e (unm h) N a :=
 ⟨(mV hs.hh).1, hs.he.mono (Keeps.refl w I) (mV hs.hh).2.2, hs.hn⟩
theorem SRel.view {w : World} {I : Nat -> Prop} {G : Nat -> Pl} {e : Env} {h : Hp} {N : Nat} {a : Act} (hs : SRel w I G e h N a) {d : Nat} {v : LV} (hv : LRel w I G h v (a.tmps.getD d undef)) : SRel w I G ((d, v) :: e) h N a := by
 refine ⟨hs.hh, fun i u hi => ?_, hs.hn⟩;simp only [get] at hi;cases hb : qaj d i with
 | true => rw [hb] at hi; cases hi; have := qt hb; subst this; exact VRel.of_plain hv
 | false => rw [hb] at hi; exact hs.he i u hi
end Go.Eng
namespace Go.Eng
open Go
open Go.ChangeMaps (setBlock)
def StackM (w : World) (b : Nat) (st : List Int) : Prop := ∃ es ck, w.heap[b]? = some (.map es ck) /\ es.size = st.length /\ ∀ (j : Nat) x, st[j]? = some x -> (es.getD j default).key = .int .i32 x /\ (es.getD j default).val = .bool true
def dB (st : List Int) : List (PV × PV) := st.map fun x => (PV.int .i32 x, PV.bool true)
theorem lT (x : Int) : ∀ (st : List Int), (x ∉ st /\ aL (.int .i32 x) (dB st) = none) ∨ ∃ j, j < st.length /\ st[j]? = some x /\ aL (.int .i32 x) (dB st) = some j
 | [] => .inl ⟨by simp, rfl⟩
 | y :: r => by
   have he : cG (.int .i32 x) (.int .i32 y) = decide (x = y) := by
    simp [cG, cE, kZ]; rfl
   simp only [dB, qw, aL, he];by_cases e : x = y
   ·subst e;exact .inr ⟨0, by simp, rfl, by simp⟩
   ·rw [decide_eq_false e];rcases lT x r with ⟨h1, h2⟩ | ⟨j, h1, h2, h3⟩
    ·refine .inl ⟨by simp [e, h1], ?_⟩;have : aL (.int .i32 x) (r.map fun x => (PV.int .i32 x, PV.bool true)) = none := h2;rw [this]; rfl
    ·refine .inr ⟨j + 1, by simp; omega, by simpa using h2, ?_⟩
     have : aL (.int .i32 x) (r.map fun x => (PV.int .i32 x, PV.bool true)) = some j := h3;rw [this]; rfl
theorem oV (st : List Int) : (dB st).length = st.length := by simp [dB]
section
variable {P : Program} {w : World} {b : Nat} {st : List Int} {t kt et : TypeId}
theorem oW (hk : P.underlying kt = some (.int .i32)) (st : List Int) : eK P kt (dB st) := fun kv h => by
 obtain ⟨x, _, rfl⟩ := List.mem_map.1 h;simp [aS, hk, kZ]
theorem lU (hk : P.underlying kt = some (.int .i32)) (x : Int) : aS P kt (.int .i32 x) = true := by simp [aS, hk, kZ]
theorem StackM.reps {es : Array MapEntry} (h : ∀ (j : Nat) x, st[j]? = some x -> (es.getD j default).key = .int .i32 x /\ (es.getD j default).val = .bool true) : ∀ (j : Nat) kv, (dB st)[j]? = some kv -> Rep w (fun _ => False) kv.1 (es.getD j default).key := fun j kv hj => by
 simp only [dB, qat] at hj;cases hx : st[j]? with
 | none => rw [hx] at hj; cases hj
 | some x => rw [hx] at hj; cases hj; rw [(h j x hx).1]; exact .int _ _
theorem yV (ht : P.underlying t = some (.map kt et)) (hk : P.underlying kt = some (.int .i32)) {ti : TypeInfo} (hi : P.info? et = some ti) (hz : ti.zero = some (.bool false)) (hs : StackM w b st) (x : Int) :
 (Instr.lookup t (.map (some b)) (.int .i32 x) false).run P w = .ok (.bool (decide (x ∈ st))) w := by
 obtain ⟨es, ck, h1, h2, h3⟩ := hs;rw [sE (I := fun _ => False) ht hi hz (.inr ⟨b, ck, rfl, h1⟩) (kvs := dB st) (by rw [oV]; exact h2) (lU hk x) (.int _ _) (oW hk st) (StackM.reps h3) false];rcases lT x st with ⟨e1, e2⟩ | ⟨j, e1, e2, e3⟩
 ·rw [e2, decide_eq_false e1]; rfl
 ·rw [e3, decide_eq_true (qz e2)];simp only [qh, if_false];rw [(h3 j x e2).2]
theorem yW (ht : P.underlying t = some (.map kt et)) (hk : P.underlying kt = some (.int .i32)) (hs : StackM w b st) {x : Int} (hx : x ∉ st) :
 ∃ o, (Instr.mapUpdate t (.map (some b)) (.int .i32 x) (.bool true)).run P w = .ok () (setBlock w b o) /\ StackM (setBlock w b o) b (st ++ [x]) := by
 obtain ⟨es, ck, h1, h2, h3⟩ := hs;refine ⟨_, sA (I := fun _ => False) ht h1 (kvs := dB st) (by rw [oV]; exact h2) (lU hk x) (.int _ _) (oW hk st) (StackM.reps h3) (.bool true), ?_⟩;rcases lT x st with ⟨e1, e2⟩ | ⟨j, e1, e2, e3⟩
 ·rw [e2]
  have hlt : b < w.heap.size := by
   rcases qaf b w.heap.size with h | h
   ·exact h
   ·rw [qv h] at h1; cases h1
  refine ⟨es.push { key := .int .i32 x, val := .bool true, born := ck }, ck + 1, by simp [setBlock, fB, hlt], by simp [h2], fun j y hj => ?_⟩;rcases qau j st.length with hj' | hj' | hj'
  ·rw [ql hj'] at hj;have := h3 j y hj
   have e : (es.push { key := .int .i32 x, val := .bool true, born := ck }).getD j default = es.getD j default := by
    simp [qi, Array.getElem?_push, show j ≠ es.size by omega]
   rw [e]; exact this
  ·subst hj';rw [List.getElem?_append_right (qd _)] at hj;simp only [Nat.sub_self, qah, Option.some.injEq] at hj;subst hj
   have e : (es.push { key := .int .i32 x, val := .bool true, born := ck }).getD st.length default = { key := .int .i32 x, val := .bool true, born := ck } := by
    rw [qi, <- h2, Array.getElem?_push_size]; rfl
   rw [e]; exact ⟨rfl, rfl⟩
  ·rw [qak (by simp; omega)] at hj; cases hj
 ·exact absurd (qz e2) hx
theorem yX (ht : P.underlying t = some (.map kt et)) (hk : P.underlying kt = some (.int .i32)) {x : Int} (hs : StackM w b (st ++ [x])) (hx : x ∉ st) (t2 ty : TypeId) :
 ∃ o, (Builtin.delete_ #[t, t2] ty #[.map (some b), .int .i32 x]).run P w = .ok (.tuple #[]) (setBlock w b o) /\ StackM (setBlock w b o) b st := by
 obtain ⟨es, ck, h1, h2, h3⟩ := hs
 have hlt : b < w.heap.size := by
  rcases qaf b w.heap.size with h | h
  ·exact h
  ·rw [qv h] at h1; cases h1
 have hf := kW (P := P) (w := w) (I := fun _ => False) (lU hk x) (Rep.int .i32 x) (es := es) (kvs := dB (st ++ [x])) (by rw [oV]; exact h2) (oW hk _) (StackM.reps h3)
 have hp : aL (.int .i32 x) (dB (st ++ [x])) = some st.length := by
  rcases lT x (st ++ [x]) with ⟨e1, _⟩ | ⟨j, e1, e2, e3⟩
  ·exact absurd (by simp) e1
  ·rw [e3];rcases qaf j st.length with hj | hj
   ·rw [ql hj] at e2;exact absurd (qz e2) hx
   ·congr 1;rw [qac, qy] at e1;omega
 rw [hp] at hf;rw [qac, qy] at h2;refine ⟨Obj.map (es.eraseIdxIfInBounds st.length) ck, ?_, es.eraseIdxIfInBounds st.length, ck, by simp [setBlock, hlt], ?_, fun j y hj => ?_⟩
 ·unfold Builtin.delete_;simp only [List.getElem?_toArray, qah, List.getElem?_cons_succ, underlying, qao, run_program, qad, ht, qap, fO h1, jN (lU hk x) (Rep.int (w := w) (I := fun _ => False) .i32 x), hf, qba, hE h1]
 ·simp [qag, h2]
 ·have hjl := (List.getElem?_eq_some_iff.1 hj).1;have := h3 j y (by rw [ql hjl]; exact hj)
  have e : (es.eraseIdxIfInBounds st.length).getD j default = es.getD j default := by
   have hb : st.length < es.size := by omega
   simp only [qag, hb, dif_pos, qi];rw [Array.getElem?_eraseIdx, if_pos hjl]
  rw [e]; exact this
end
end Go.Eng
namespace Go.Eng
open Go
section
variable {P : Program}
theorem yY {fr : Frame} {cs : List Frame} {w w' : World} {d : Deferred} {ds : List Deferred} {b : Builtin} {ts : Array TypeId} {t : TypeId} {ks : Array Bool} {v : Value} (hm : fr.mode ≠ .run) (hd : fr.defers = d :: ds) (ht : d.target = .builtin b ts t ks)
 (hi : (invoke d.target d.args).run P w = .ok (.value v) w') : step P (lone fr cs w) = .next (lone { fr with defers := ds } cs w') := by
 obtain ⟨t, a⟩ := d;simp only at ht hi;subst ht;refine step_lone_go ?_;cases hmode : fr.mode with
 | run => exact absurd hmode hm
 | returning => simp [stepG, unwind, callDeferred, hmode, hd, hi]
 | panicking chain => simp [stepG, unwind, callDeferred, hmode, hd, hi]
def iF (P : Program) (fn : Func) (R : Ending -> World -> Prop) (a : Act) (w : World) : Prop := match a.defers with
 | [] => ∃ v, (results fn a.tmps).run P w = .ok v w /\ R (.returned v) w
 | [d] => ∃ b ts t ks u w' v, d.target = .builtin b ts t ks /\ (invoke d.target d.args).run P w = .ok (.value u) w' /\ (results fn a.tmps).run P w' = .ok v w' /\ R (.returned v) w'
 | _ => False
def yZ (P : Program) (fn : Func) (R : Ending -> World -> Prop) : Exit -> Act -> World -> Prop
 | .normal, a, w | .ret, a, w => iF P fn R a w
 | _, _, _ => False
theorem y4 {f : FuncId} {fn : Func} {c : Code} {args : Array Value} {w : World} {R : Ending -> World -> Prop} (hf : P.funcs[f]? = some fn) (hb : fn.body = some c)
 (h : c.wp P (yZ P fn R) { tmps := args ++ qaa (fn.ntmps - args.size) undef, defers := [] } w) : Calls P f args w R := by
 intro cs
 let b : Frame := { (default : Frame) with fn := f, kind := .normal }
 have henter : Frame.enter P f args .normal = b.at { tmps := args ++ qaa (fn.ntmps - args.size) undef, defers := [] } [.code c] := by
  simp [Frame.enter, Frame.at, hf, hb, b]
 obtain ⟨e, a', w', hq, harr⟩ := h b [] cs;rw [<- henter] at harr
 have key : ∀ todo, iF P fn R a' w' -> ∃ e' w'' fr', R e' w'' /\ Comes P (lone { b.at a' todo with mode := .returning } cs w') (lone fr' cs w'') e' /\ fr'.fn = f /\ fr'.leaving P w'' e' := fun todo hl => by
  unfold iF at hl;split at hl
  ·rename_i hd;obtain ⟨v, hr, hR⟩ := hl;exact ⟨.returned v, w', _, hR, Steps.refl P _, rfl, rfl, hd, rfl, fn, hf, hr⟩
  ·rename_i d hd;obtain ⟨bb, ts, t, ks, u, w2, v, h1, h2, h3, h4⟩ := hl;exact ⟨.returned v, w2, _, h4, Steps.one (yY (fr := { b.at a' todo with mode := .returning }) (by simp) hd h1 h2), rfl, rfl, rfl, rfl, fn, hf, h3⟩
  ·exact hl.elim
 cases e with
 | normal =>
   obtain ⟨e', w'', fr', hR, hs, hfn, hl⟩ := key [] hq;exact ⟨e', w'', fr', hR, Comes.of_steps (Steps.trans harr (.one step_end)) hs, hfn, hl⟩
 | ret =>
   obtain ⟨todo, hs₀⟩ := harr;obtain ⟨e', w'', fr', hR, hs, hfn, hl⟩ := key todo hq;exact ⟨e', w'', fr', hR, Comes.of_steps hs₀ hs, hfn, hl⟩
 | panic chain => exact hq.elim
 | exit id => exact hq.elim
 | goto l => exact hq.elim
 | outgrown => exact hq.elim
theorem y5 {o : Oper} {a : Act} {next next' K : Act -> World -> Prop} {Q : Exit -> Act -> World -> Prop} (hn : ∀ a w, next a w -> next' a w) : ∀ {r : Result Next}, o.upon P a next (Exit.then K Q) r -> o.upon P a next' Q r
 | .ok (.value _) _, h => hn _ _ h
 | .ok .skip _, h => hn _ _ h
 | .ok (.defer _) _, h => hn _ _ h
 | .ok (.enter f args) w, h => Calls.mono h fun e w' q => by cases e <;> first | exact hn _ _ q | exact q
 | .ok (.row row args) w, h => Rows.mono h fun v w' q => hn _ _ q
 | .halt (.panic v) w, h => h
theorem lV {ops : Array Oper} {Q : Exit -> Act -> World -> Prop} {l2 : List Nat} : ∀ {l1 : List Nat} {a : Act} {w : World}, wpOps P ops (Exit.then (wpOps P ops Q l2) Q) l1 a w -> wpOps P ops Q (l1 ++ l2) a w
 | [], _, _, h => h
 | i :: rest, a, w, h => by
   simp only [wpOps, qax] at h ⊢;cases ho : ops[i]? with
   | none => simp only [ho] at h ⊢; exact lV h
   | some o =>
     simp only [ho] at h ⊢;split at h
     ·rename_i hw;rw [if_pos hw];exact h.imp (fun h => y5 (fun _ _ q => lV q) h) fun h => ⟨h.1, h.2⟩
     ·rename_i hw;rw [if_neg hw];exact lV h
end
end Go.Eng
set_option maxRecDepth 100000
namespace Go.Eng
open Go Go.Proofs
def a7 : Code -> Code | .seq a _ => a | _ => .skip
def aM : Code -> Code | .seq _ b => b | _ => .skip
def mIn : Code -> Code | .block _ c => c | .loop c => c | _ => .skip
def lW : Code -> Array Oper | .region _ o _ => o | _ => #[]
def mM (f : Func) : Code := f.body.getD .skip
def gJ : Code -> Code | .cond _ a _ => a | _ => .skip
def y6 : Code -> Code | .cond _ _ a => a | _ => .skip
def xA (f : Func) : Code := a7 (mM f)
def xB (f : Func) : Code := a7 (aM (mM f))
def xC (f : Func) : Code := mIn (a7 (aM (aM (mM f))))
def xC2 (f : Func) : Code := y6 (aM (xC f))
def xR (f : Func) : Code := aM (aM (aM (mM f)))
def xL (f : Func) : Code := a7 (aM (aM (xR f)))
def xLp (f : Func) : Code := mIn (mIn (aM (xL f)))
def xLb (f : Func) : Code := mIn (a7 (aM (aM (xLp f))))
def aI (kvs : List (PV × PV)) (y : Value) (n : Int) (nl : Bool) (T : List (List PV)) : Hp := [.box [.pv (.mp kvs), .own 1, .pv (.raw y), .pv (.int .i64 n)], .sl (30, 4) true nl T]
end Go.Eng
namespace Go.Eng.Rows
structure Row where
 kind : Int
 fr : Int
 to : Int
 a : Int
 b : Int
deriving DecidableEq
structure Sp where
 fr : Int
 to : Int
 a : Int
 b : Int
deriving DecidableEq, Inhabited
def Sp.has (x : Sp) (r : Int) : Prop := x.fr <= r /\ r <= x.to
def jU : List Sp -> Sp -> List Sp
 | [], s => if s.fr <= s.to then [s] else []
 | x :: xs, s => if x.to < s.fr then jU xs s else if s.to < x.fr then jU xs s else
   if s.fr < x.fr then { s with to := x.fr - 1 } :: jU xs { s with fr := x.to + 1 } else jU xs { s with fr := x.to + 1 }
def Rise (l : List Sp) : Prop := l.Pairwise fun x y => x.to < y.fr
def In (l : List Sp) : Prop := ∀ x ∈ l, 0 <= x.fr /\ x.fr <= x.to /\ x.to <= 1114111
def Good (l : List Sp) : Prop := Rise l /\ In l
def Apart (x y : Sp) : Prop := x.to < y.fr ∨ y.to < x.fr
theorem Rise.apart {l : List Sp} (h : Rise l) : l.Pairwise Apart := h.imp fun h => .inl h
theorem Good.len_aux {l : List Sp} (h : Good l) : ∀ c : Int, 0 <= c -> (∀ x ∈ l, c <= x.fr) -> c <= 1114112 -> (l.length : Int) <= 1114112 - c := by
 obtain ⟨h1, h2⟩ := h
 induction l with
 | nil => intro c h0 hc h; simp; omega
 | cons x xs ih =>
   intro c h0 hc hm;have hx := h2 x (qj);have hcx := hc x (qj);have := ih (List.Pairwise.of_cons h1) (fun y hy => h2 y (qg _ hy)) (x.to + 1) (by omega) (fun y hy => by have := List.rel_of_pairwise_cons h1 hy; omega) (by omega);simp only [qe];omega
theorem Good.len {l : List Sp} (h : Good l) : l.length <= 1114112 := by
 have := h.len_aux 0 (qaw _) (fun x hx => (h.2 x hx).1) (by omega);omega
def y7 (acc : List Sp) (x : Sp) : List Sp :=
 match acc.getLast? with
 | some y => if y.to + 1 = x.fr /\ y.a = x.a /\ y.b = x.b then acc.dropLast ++ [{ y with to := x.to }] else acc ++ [x]
 | none => acc ++ [x]
def y8 (l : List Sp) : List Sp := l.foldl y7 []
def Split (l : List Sp) : Prop := ∀ (i : Nat) (h : i + 1 < l.length), ¬ (l[i].to + 1 = l[i+1].fr /\ l[i].a = l[i+1].a /\ l[i].b = l[i+1].b)
theorem Split.append {l : List Sp} {x : Sp} (h : Split l) (hl : ∀ y, l.getLast? = some y -> ¬ (y.to + 1 = x.fr /\ y.a = x.a /\ y.b = x.b)) : Split (l ++ [x]) := by
 intro i hi;simp only [qac, qe, qp] at hi;by_cases h1 : i + 1 < l.length
 ·have := h i h1;rw [qu (by omega), qu h1];exact this
 ·have e : i + 1 = l.length := by omega
  have := hl l[i] (by rw [List.getLast?_eq_getElem?, qq (by omega)]; congr 2; omega);rw [qu (by omega), List.getElem_append_right (by omega)];simpa using this
def ins (x : Sp) : List Sp -> List Sp
 | [] => [x]
 | y :: l => if y.fr < x.fr then y :: ins x l else x :: y :: l
def tG : List Sp -> List Sp
 | [] => []
 | x :: l => ins x (tG l)
def Row.sp (x : Row) : Sp := ⟨if x.fr < 0 then 0 else x.fr, if 1114111 < x.to then 1114111 else x.to, x.a, x.b⟩
def y9 (k : Int) (l : List Sp) (x : Row) : List Sp := if x.kind = k then tG (l ++ jU l x.sp) else l
def zA (k : Int) (rows : List Row) : List Sp := rows.foldl (y9 k) []
def ofL (k : Int) (rows : List Row) : List Sp := y8 (zA k rows)
def Row.has (x : Row) (k r : Int) : Bool := decide (x.kind = k) && (decide (x.fr <= r) && decide (r <= x.to))
def first (rows : List Row) (k r : Int) : Option (Int × Int) := (rows.find? fun x => x.has k r).map fun x => (x.a, x.b)
example : ofL 1 [⟨1, 5, 9, 7, 0⟩, ⟨1, 8, 12, 8, 0⟩] = [⟨5, 9, 7, 0⟩, ⟨10, 12, 8, 0⟩] := by decide
end Go.Eng.Rows
namespace Go.Eng.Trie
open Go Go.Eng
variable {α : Type}
def dC (α : Type) := { l : List α // l.length = 128 }
instance [DecidableEq α] : DecidableEq (dC α) := fun a b => if h : a.1 = b.1 then isTrue (Subtype.ext h) else isFalse fun e => h (by rw [e])
def rep (v : α) : dC α := ⟨qal 128 v, by simp⟩
variable {sz : Int} {F : Int -> α} {idx : List Int} {blk : List (dC α)}
structure TOK (sz : Int) (F : Int -> α) (idx : List Int) (blk : List (dC α)) : Prop where
 len : sz <= 128 * idx.length
 ok : ∀ (q : Nat) k, idx[q]? = some k -> 0 <= k /\ ∃ b : dC α, blk[k.toNat]? = some b /\ ∀ (j : Nat) u, b.1[j]? = some u -> (128 * q + j : Int) < sz -> u = F (128 * q + j)
theorem TOK.get (h : TOK sz F idx blk) {i : Int} (h0 : 0 <= i) (h1 : i < sz) : ∃ (hq : (i / 128).toNat < idx.length), 0 <= idx[(i / 128).toNat] /\ ∃ (hk : idx[(i / 128).toNat].toNat < blk.length), ∃ (hj : (i % 128).toNat < (blk[idx[(i / 128).toNat].toNat]).1.length), (blk[idx[(i / 128).toNat].toNat]).1[(i % 128).toNat] = F i := by
 have hl := h.len;have hq : (i / 128).toNat < idx.length := by omega
 obtain ⟨g0, b, g1, g2⟩ := h.ok (i / 128).toNat _ (qq hq);obtain ⟨hk, hb⟩ := List.getElem?_eq_some_iff.1 g1;have hj : (i % 128).toNat < (blk[idx[(i / 128).toNat].toNat]).1.length := by rw [(blk[idx[(i / 128).toNat].toNat]).2]; omega
 refine ⟨hq, g0, hk, hj, ?_⟩;have hj' : (i % 128).toNat < b.1.length := by rw [b.2]; omega
 have := g2 (i % 128).toNat _ (qq hj') (by omega);have e : (128 * ((i / 128).toNat : Int) + ((i % 128).toNat : Int)) = i := by omega
 rw [e] at this;simp only [hb];exact this
theorem more {b c : dC α} {k : Nat} (h : blk[k]? = some b) : (blk ++ [c])[k]? = some b := by
 have := (List.getElem?_eq_some_iff.1 h).1;rw [ql this]; exact h
variable [DecidableEq α]
structure TInv (sz : Int) (F : Int -> α) (idx : List Int) (blk : List (dC α)) (kn : List (dC α × Int)) (ev : List (α × Int)) : Prop where
 kn_ok : ∀ b k, aU b kn = some k -> 0 <= k /\ blk[k.toNat]? = some b
 ev_ok : ∀ v k, aU v ev = some k -> 0 <= k /\ blk[k.toNat]? = some (rep v)
 idx_ok : ∀ (q : Nat) k, idx[q]? = some k -> 0 <= k /\ ∃ b : dC α, blk[k.toNat]? = some b /\ ∀ (j : Nat) u, b.1[j]? = some u -> (128 * q + j : Int) < sz -> u = F (128 * q + j)
variable {kn : List (dC α × Int)} {ev : List (α × Int)}
theorem TInv.nil : TInv sz F [] [] [] [] := ⟨fun _ _ h => (by cases h), fun _ _ h => (by cases h), fun _ _ h => (by simp at h)⟩
theorem TInv.place (h : TInv sz F idx blk kn ev) (b : dC α) : TInv sz F idx (blk ++ [b]) (aF b (blk.length : Int) kn) ev := by
 refine ⟨fun c k hc => ?_, fun v k hv => ?_, fun q k hq => ?_⟩
 ·rw [oR] at hc;split at hc
  ·rename_i e;cases hc;exact ⟨by omega, by simp [e]⟩
  ·exact ⟨(h.kn_ok c k hc).1, more (h.kn_ok c k hc).2⟩
 ·exact ⟨(h.ev_ok v k hv).1, more (h.ev_ok v k hv).2⟩
 ·obtain ⟨h1, c, h2, h3⟩ := h.idx_ok q k hq;exact ⟨h1, c, more h2, h3⟩
theorem TInv.push (h : TInv sz F idx blk kn ev) {b : dC α} {k : Int} (h0 : 0 <= k) (hk : blk[k.toNat]? = some b) (hb : ∀ (j : Nat) u, b.1[j]? = some u -> (128 * idx.length + j : Int) < sz -> u = F (128 * idx.length + j)) : TInv sz F (idx ++ [k]) blk kn ev := by
 refine ⟨h.kn_ok, h.ev_ok, fun q k' hq => ?_⟩;rcases qau q idx.length with hl | hl | hl
 ·rw [ql hl] at hq;exact h.idx_ok q k' hq
 ·subst hl;simp at hq;subst hq;exact ⟨h0, b, hk, hb⟩
 ·rw [qak (by simp; omega)] at hq; cases hq
end Go.Eng.Trie
namespace Go.Eng.Rows
open Go Go.Eng Go.Eng.Trie
end Go.Eng.Rows
namespace Go.Eng.Rows
open Go Go.Eng
structure MKey where
 kind : Int
 rune : Int
 mt : Bool
 text : List Int
structure MStep where
 key : MKey
 call : Bool
 name : Int
abbrev Bk := List (Int × List MStep)
def bD (b : Bk) (x : Int) : Option (List MStep) := match b with
 | [] => none
 | (k, l) :: r => if k = x then some l else bD r x
abbrev MW := List MKey × Nat
def bN (f : Int -> MW -> Except Int MW) : List MStep -> MW -> Except Int MW
 | [], w => .ok w
 | x :: l, w => if 20000 <= w.2 then .error 7 else if x.call = true then (match f x.name (w.1, w.2 + 1) with | .ok w' => bN f l w' | .error e => .error e) else bN f l (w.1 ++ [x.key], w.2 + 1)
def aY (b : Bk) : Nat -> List Int -> Int -> MW -> Except Int MW
 | 0, _, _, _ => .error 6
 | d + 1, op, nm, w => match bD b nm with
   | none => .error 5
   | some l => if nm ∈ op then .error 6 else bN (fun m => aY b d (op ++ [nm]) m) l w
theorem tH {f g : Int -> MW -> Except Int MW} : ∀ {l : List MStep} {w : MW}, (∀ x ∈ l, ∀ w, f x.name w = g x.name w) -> bN f l w = bN g l w
 | [], w, _ => rfl
 | x :: l, w, h => by
   have ih := fun w => tH (l := l) (w := w) fun y hy => h y (qg _ hy);simp only [bN, h x qj];split
   ·rfl
   ·split
    ·split
     ·exact ih _
     ·rfl
    ·exact ih _
def fJ (b : Bk) (op : List Int) : Nat := ((b.map (·.1)).filter fun x => decide (x ∉ op)).length
theorem tI : ∀ {b : Bk} {x : Int} {l : List MStep}, bD b x = some l -> x ∈ b.map (·.1)
 | (k, l') :: r, x, l, h => by
   simp only [bD] at h;split at h
   ·rename_i e; subst e; simp
   ·simp only [qw, List.mem_cons]; exact .inr (tI h)
theorem tJ {α : Type} (p q : α -> Bool) (hpq : ∀ x, q x = true -> p x = true) : ∀ (l : List α) (a : α), a ∈ l -> p a = true -> q a = false -> (l.filter q).length < (l.filter p).length
 | x :: l, a, ha, h1, h2 => by
   have le : ∀ l : List α, (l.filter q).length <= (l.filter p).length := by
    intro l
    induction l with
    | nil => exact qd _
    | cons y l ih =>
      simp only [qay];cases hq : q y with
      | true => rw [hpq y hq]; simp only [if_true, qe]; omega
      | false => cases hp : p y <;> simp only [if_true, qh, if_false, qe] <;> omega
   simp only [qay];rcases List.mem_cons.1 ha with rfl | ha
   ·rw [h1, h2];have := le l;simp only [if_true, qh, if_false, qe]; omega
   ·have ih := tJ p q hpq l a ha h1 h2;cases hq : q x with
    | true => rw [hpq x hq]; simp only [if_true, qe]; omega
    | false => cases hp : p x <;> simp only [if_true, qh, if_false, qe] <;> omega
theorem zB {b : Bk} {op : List Int} {nm : Int} {l : List MStep} (h : bD b nm = some l) (hn : nm ∉ op) : fJ b (op ++ [nm]) < fJ b op :=
 tJ _ _ (fun x hx => by simp at hx ⊢; exact hx.1) _ nm (tI h) (by simpa using hn) (by simp)
theorem tK {b c : Bk} (h : ∀ x, bD b x = bD c x) : ∀ (d : Nat) (op : List Int) (nm : Int) (w : MW), aY b d op nm w = aY c d op nm w
 | 0, _, _, _ => rfl
 | d + 1, op, nm, w => by
   rw [aY, aY, h nm];split
   ·rfl
   ·split
    ·rfl
    ·exact tH fun x _ w => tK h d _ _ w
def bH (c : Nat) : Nat -> Nat
 | 0 => c
 | i + 1 => 2 + 2 * bH c i
def dZ (ks : List MKey) : Nat -> List MKey
 | 0 => ks
 | i + 1 => dZ ks i ++ dZ ks i
theorem tL (k : MKey) : ∀ i, dZ [k] i = qal (2 ^ i) k
 | 0 => rfl
 | i + 1 => by rw [dZ, tL k i, Nat.pow_succ, Nat.mul_two, List.replicate_append_replicate]
theorem oX (c : Nat) : ∀ i, bH c i + 2 = 2 ^ i * (c + 2)
 | 0 => by simp [bH]
 | i + 1 => by
   have := oX c i;rw [bH, Nat.pow_succ, Nat.mul_comm (2 ^ i) 2, Nat.mul_assoc]; omega
def oY (b : Bk) (ks : List MKey) (n : Nat) : Prop := bD b 0 = some (ks.map fun k => ⟨k, false, 0⟩) /\ ∀ i, i < n -> ∃ x y : MStep, bD b ((i + 1 : Nat) : Int) = some [x, y] /\ (x.call = true /\ x.name = i) /\ (y.call = true /\ y.name = i)
theorem oZ {b : Bk} {ks : List MKey} {n : Nat} (hk : ks.length <= 1) (h : oY b ks n) : ∀ (i d : Nat) (op : List Int) (w : MW), i <= n -> i < d -> (∀ j : Nat, j <= i -> ((j : Nat) : Int) ∉ op) ->
 aY b d op i w = if w.2 + bH ks.length i <= 20000 then .ok (w.1 ++ dZ ks i, w.2 + bH ks.length i) else if i = 0 /\ ks = [] then .ok w else .error 7
 | 0, d + 1, op, w, hi, hd, hop => by
   rw [aY, show ((0 : Nat) : Int) = 0 from rfl, h.1];simp only;rw [if_neg (show ¬ (0 : Int) ∈ op from hop 0 (qd _))]
   match ks, hk with
   | [], _ => simp [bN, dZ, bH]
   | [k], _ =>
     simp only [qw, List.map_nil, bN, dZ, bH, qy, qh, if_false, reduceCtorEq, and_false];by_cases hw : 20000 <= w.2
     ·rw [if_pos hw, if_neg (by omega)]
     ·rw [if_neg hw, if_pos (by omega)]
 | i + 1, d + 1, op, w, hi, hd, hop => by
   obtain ⟨x, y, hf, ⟨x1, x2⟩, ⟨y1, y2⟩⟩ := h.2 i (by omega);rw [aY, hf];simp only;rw [if_neg (hop (i + 1) (qd _))]
   have hop' : ∀ j : Nat, j <= i -> ((j : Nat) : Int) ∉ op ++ [((i + 1 : Nat) : Int)] := fun j hj hm => by
    rcases List.mem_append.1 hm with hm | hm
    ·exact hop j (by omega) hm
    ·have := List.mem_singleton.1 hm; omega
   have ih := fun w => oZ hk h i d (op ++ [((i + 1 : Nat) : Int)]) w (by omega) (by omega) hop';have hc : ¬ (i + 1 = 0 /\ ks = []) := fun e => by omega
   rw [if_neg hc];have hg : bH ks.length (i + 1) = 2 + 2 * bH ks.length i := rfl;have ho : dZ ks (i + 1) = dZ ks i ++ dZ ks i := rfl;simp only [bN, x1, x2, y1, y2, if_true, ih];by_cases h1 : 20000 <= w.2
   ·rw [if_pos h1, if_neg (show ¬ w.2 + bH ks.length (i + 1) <= 20000 by omega)]
   ·rw [if_neg h1];by_cases h2 : w.2 + 1 + bH ks.length i <= 20000
    ·rw [if_pos h2];simp only;by_cases h3 : 20000 <= w.2 + 1 + bH ks.length i
     ·rw [if_pos h3, if_neg (show ¬ w.2 + bH ks.length (i + 1) <= 20000 by omega)]
     ·rw [if_neg h3];by_cases h4 : w.2 + 1 + bH ks.length i + 1 + bH ks.length i <= 20000
      ·rw [if_pos h4, if_pos (show w.2 + bH ks.length (i + 1) <= 20000 by omega)];rw [hg, ho, show w.2 + 1 + bH ks.length i + 1 + bH ks.length i = w.2 + (2 + 2 * bH ks.length i) by omega, qav]
      ·rw [if_neg h4, if_neg (show ¬ w.2 + bH ks.length (i + 1) <= 20000 by omega)];by_cases h5 : i = 0 /\ ks = []
       ·obtain ⟨rfl, rfl⟩ := h5;simp only [bH, qp] at h4 h3 hg;omega
       ·rw [if_neg h5]
    ·rw [if_neg h2, if_neg (show ¬ w.2 + bH ks.length (i + 1) <= 20000 by omega)];by_cases h5 : i = 0 /\ ks = []
     ·obtain ⟨rfl, rfl⟩ := h5;simp only [bH, qp] at h2;omega
     ·rw [if_neg h5]
end Go.Eng.Rows
namespace Go.Eng
open Go Go.Proofs Go.Eng.Rows
open Go.ChangeMaps (setBlock)
abbrev GKey := Bool × Bool × MKey
abbrev GS := Bool × Bool × MStep
abbrev GB := List (Int × Bool × Bool × List GS)
def aR (x : GKey) : List PV := [.int .i64 x.2.2.kind, .int .i32 x.2.2.rune, .bool x.2.2.mt, .sl x.1 x.2.1 (bW x.2.2.text)]
def encGS (x : GS) : List PV := [.int .i64 x.2.2.key.kind, .int .i32 x.2.2.key.rune, .bool x.2.2.key.mt, .sl x.1 x.2.1 (bW x.2.2.key.text), .bool x.2.2.call, .int .i32 x.2.2.name]
def bK (B : GB) : List (PV × PV) := cD (fun n => .int .i32 n) (fun x => .sl x.1 x.2.1 (x.2.2.map encGS)) B
def aH (B : GB) : Bk := B.map fun p => (p.1, p.2.2.2.map (·.2.2))
theorem eP : ∀ (B : GB) (x : Int), bD (aH B) x = (aU x B).map fun y => y.2.2.map (·.2.2)
 | [], x => rfl
 | (k, y) :: r, x => by
   simp only [aH, qw, bD, aU];by_cases h : k = x
   ·subst h; simp
   ·have h' : ¬ x = k := fun e => h e.symm;rw [if_neg h, if_neg h'];exact eP r x
theorem lX (B : GB) (nm : Int) : b9 (.int .i32 nm) (bK B) = (aU nm B).map fun x => .sl x.1 x.2.1 (x.2.2.map encGS) := yN (fun a b => tE _ a b) nm B
def cI (f : Func) : Array Oper := lW (a7 (xC2 f))
def cJ (f : Func) : Array Oper := lW (a7 (xR f))
def bR (f : Func) : Array Oper := lW (a7 (aM (xR f)))
def xT (f : Func) : Code := aM (aM (xLb f))
def xTc (f : Func) : Code := gJ (aM (a7 (xT f)))
def cN (f : Func) : Array Oper := lW (a7 (a7 (xTc f)))
def tM (f : Func) : Code := aM (a7 (xTc f))
abbrev sH (kvs : List (PV × PV)) (y : Value) (n : Int) (nl : Bool) (T : List (List PV)) (ks : List PV) : Hp := [.box [.pv (.mp kvs), .own 1, .pv (.raw y), .pv (.int .i64 n)], .sl (30, 4) true nl T, .box (ks.map .pv)]
abbrev e1 (nm : Int) : Env := [(0, .box 0 0), (1, .pv (.int .i32 nm))]
abbrev eL (n5 f5 : Bool) (es : List (List PV)) (i : Int) : Env := [(0, .box 0 0), (40, .pv (.sl n5 f5 es)), (41, .pv (.int .i64 (es.length : Int))), (42, .pv (.int .i64 i))]
abbrev d3 (n5 f5 : Bool) (es : List (List PV)) (i : Int) : Env := [(0, .box 0 0), (8, .box 2 0), (40, .pv (.sl n5 f5 es)), (41, .pv (.int .i64 (es.length : Int))), (42, .pv (.int .i64 i))]
theorem zC : mM Try.f25 = .seq (xA Try.f25) (.seq (xB Try.f25) (.seq (.block 0 (xC Try.f25)) (.seq (.region 6 (cJ Try.f25) false) (.seq (.region 7 (bR Try.f25) false) (.seq (xL Try.f25) (aM (aM (aM (xR Try.f25))))))))) := by kernel_rfl
theorem zD : xC Try.f25 = .seq (a7 (xC Try.f25)) (.cond (.tmp 20) (gJ (aM (xC Try.f25))) (.seq (.region 4 (cI Try.f25) false) (.cond (.tmp 23) (gJ (aM (xC2 Try.f25))) .skip))) := by kernel_rfl
theorem zE : xL Try.f25 = .seq (a7 (xL Try.f25)) (.block 1 (.loop (.seq (a7 (xLp Try.f25)) (.seq (.cond (.tmp 43) .skip (.exit 1)) (.seq (.block 2 (.seq (a7 (xLb Try.f25)) (.seq (a7 (aM (xLb Try.f25))) (xT Try.f25)))) (aM (aM (aM (xLp Try.f25))))))))) := by kernel_rfl
theorem zF : xT Try.f25 = .seq (.seq (a7 (a7 (xT Try.f25))) (.cond (.tmp 59) (.seq (.seq (.region 15 (cN Try.f25) false) (tM Try.f25)) (.exit 2)) .skip)) (aM (xT Try.f25)) := by kernel_rfl
theorem o1 : dY (cI Try.f25).toList = true /\ dY (cJ Try.f25).toList = true /\ dY ((bR Try.f25).toList.take 5) = true /\ dY (cN Try.f25).toList = true := ⟨by kernel_rfl, by kernel_rfl, by kernel_rfl, by kernel_rfl⟩
section
variable {kvs : List (PV × PV)} {y : Value} {n : Int} {nl : Bool} {T : List (List PV)} {nm : Int}
theorem nA (Q : Qt) : aW qa (fun _ => none) 2 79 [0, 1] (fun _ => none) (xA Try.f25) (dK [.box 0 0, .pv (.int .i32 nm)] 0) (aI kvs y n nl T) Q = Q .normal (e1 nm) (aI kvs y n nl T) := by kernel_rfl
theorem nB (Q : Qt) : aW qa (fun _ => none) 2 79 [0, 1, 5, 6] (fun _ => none) (xB Try.f25) (e1 nm) (aI kvs y n nl T) Q =
 (fA .i32 kvs /\ (∀ v, b9 (.int .i32 nm) kvs = some v -> ∃ n1 f es, v = .sl n1 f es /\ Q .normal [(0, .box 0 0), (1, .pv (.int .i32 nm)), (5, .pv (.sl n1 f es)), (6, .pv (.bool true))] (aI kvs y n nl T)) /\
  (b9 (.int .i32 nm) kvs = none -> Q .normal [(0, .box 0 0), (1, .pv (.int .i32 nm)), (5, .pv (.sl true true [])), (6, .pv (.bool false))] (aI kvs y n nl T))) := by kernel_rfl
theorem nC1 (v5 : PV) (ok : Bool) (Q : Qt) : aW qa (fun _ => none) 2 79 [0, 1, 5, 20] (fun _ => none) (a7 (xC Try.f25)) [(0, .box 0 0), (1, .pv (.int .i32 nm)), (5, .pv v5), (6, .pv (.bool ok))] (aI kvs y n nl T) Q = Q .normal [(0, .box 0 0), (1, .pv (.int .i32 nm)), (5, .pv v5), (20, .pv (.bool !ok))] (aI kvs y n nl T) := by kernel_rfl
theorem nC2 (Q : Qt) : aW qa (fun _ => none) 2 79 [4] (fun _ => none) (gJ (aM (xC Try.f25))) (e1 nm) (aI kvs y n nl T) Q = Q .ret [(4, .pv (.int .i64 5))] (aI kvs y n nl T) := by kernel_rfl
theorem nC4 (v5 : PV) (K : Env -> Hp -> Prop) : aT qa (fun _ => none) 79 (cI Try.f25).toList (((cI Try.f25).toList.drop 0).take 5) [(0, .box 0 0), (1, .pv (.int .i32 nm)), (5, .pv v5)] (aI kvs y n nl T) K =
 K [(28, .pv (.int .i32 nm)), (27, .pv (.raw y)), (26, .box 0 2), (25, .box 0 0), (24, .box 0 0), (0, .box 0 0), (1, .pv (.int .i32 nm)), (5, .pv v5)] (aI kvs y n nl T) := by kernel_rfl
theorem zG (v5 : PV) (b : Bool) (K : Env -> Hp -> Prop) : aT qa (fun _ => none) 79 (cI Try.f25).toList (((cI Try.f25).toList.drop 6).take 1) [(29, .pv (.bool b)), (0, .box 0 0), (1, .pv (.int .i32 nm)), (5, .pv v5)] (aI kvs y n nl T) K =
 K [(23, .pv (.bool b)), (29, .pv (.bool b)), (0, .box 0 0), (1, .pv (.int .i32 nm)), (5, .pv v5)] (aI kvs y n nl T) := by kernel_rfl
theorem nC5 (Q : Qt) : aW qa (fun _ => none) 2 79 [4] (fun _ => none) (gJ (aM (xC2 Try.f25))) (e1 nm) (aI kvs y n nl T) Q = Q .ret [(4, .pv (.int .i64 6))] (aI kvs y n nl T) := by kernel_rfl
theorem nC6 (v5 : PV) (K : Env -> Hp -> Prop) : aT qa (fun _ => none) 79 (cJ Try.f25).toList (((cJ Try.f25).toList.drop 0).take 5) [(0, .box 0 0), (1, .pv (.int .i32 nm)), (5, .pv v5)] (aI kvs y n nl T) K =
 K [(34, .pv (.int .i32 nm)), (33, .pv (.raw y)), (32, .box 0 2), (31, .box 0 0), (30, .box 0 0), (0, .box 0 0), (1, .pv (.int .i32 nm)), (5, .pv v5)] (aI kvs y n nl T) := by kernel_rfl
theorem nC7 (v5 : PV) (K : Env -> Hp -> Prop) : aT qa (fun _ => none) 79 (bR Try.f25).toList ((bR Try.f25).toList.take 5) [(0, .box 0 0), (1, .pv (.int .i32 nm)), (5, .pv v5)] (aI kvs y n nl T) K =
 K [(39, .pv (.int .i32 nm)), (38, .pv (.raw y)), (37, .box 0 2), (36, .box 0 0), (35, .box 0 0), (0, .box 0 0), (1, .pv (.int .i32 nm)), (5, .pv v5)] (aI kvs y n nl T) := by kernel_rfl
theorem zH (Q : Qt) : aW qa (fun _ => none) 2 79 [4] (fun _ => none) (aM (aM (aM (xR Try.f25)))) [(0, .box 0 0)] (aI kvs y n nl T) Q = Q .ret [(4, .pv (.int .i64 0))] (aI kvs y n nl T) := by kernel_rfl
end
section
variable {kvs : List (PV × PV)} {y : Value} {n : Int} {nl : Bool} {T : List (List PV)} {n5 f5 : Bool} {es : List (List PV)} {i : Int} {k1 k2 : Int} {k3 kn kf k5 : Bool} {kt : List (List PV)} {k6 : Int}
theorem nL8 (Q : Qt) : aW qa (fun _ => none) 2 79 [0, 40, 41, 42] (fun _ => none) (a7 (xL Try.f25)) [(0, .box 0 0), (5, .pv (.sl n5 f5 es))] (aI kvs y n nl T) Q = Q .normal (eL n5 f5 es 0) (aI kvs y n nl T) := by kernel_rfl
theorem nL9 (Q : Qt) : aW qa (fun _ => none) 2 79 [0, 40, 41, 42, 43] (fun _ => none) (a7 (xLp Try.f25)) (eL n5 f5 es i) (aI kvs y n nl T) Q = Q .normal [(0, .box 0 0), (40, .pv (.sl n5 f5 es)), (41, .pv (.int .i64 (es.length : Int))), (42, .pv (.int .i64 i)), (43, .pv (.bool (decide (i < (es.length : Int)))))] (aI kvs y n nl T) := by kernel_rfl
theorem zI (Q : Qt) : aW qa (fun _ => none) 2 79 [0, 8, 40, 41, 42] (fun _ => none) (a7 (xLb Try.f25)) (eL n5 f5 es i) (aI kvs y n nl T) Q =
 (bA es i 6 /\ ∃ n1, (es.getD i.toNat []).head? = some (.int .i64 n1) /\ ∃ n2, (es.getD i.toNat []).tail.head? = some (.int .i32 n2) /\ ∃ b, (es.getD i.toNat []).tail.tail.head? = some (.bool b) /\ ∃ n3 f es1, (es.getD i.toNat []).tail.tail.tail.head? = some (.sl n3 f es1) /\
  ∃ b1, (es.getD i.toNat []).tail.tail.tail.tail.head? = some (.bool b1) /\ ∃ n4, (es.getD i.toNat []).tail.tail.tail.tail.tail.head? = some (.int .i32 n4) /\
  Q .normal (d3 n5 f5 es i) (sH kvs y n nl T [.int .i64 n1, .int .i32 n2, .bool b, .sl n3 f es1, .bool b1, .int .i32 n4])) := by kernel_rfl
theorem zJ (Q : Qt) : aW qa (fun _ => none) 2 79 [0, 4, 8, 40, 41, 42, 57] (fun _ => none) (a7 (aM (xLb Try.f25))) (d3 n5 f5 es i) (sH kvs y n nl T [.int .i64 k1, .int .i32 k2, .bool k3, .sl kn kf kt, .bool k5, .int .i32 k6]) Q =
 (if decide (i64.wrap (n + (1 : Int)) > (20000 : Int)) = true then
  Q .ret [(0, .box 0 0), (4, .pv (.int .i64 7)), (8, .box 2 0), (40, .pv (.sl n5 f5 es)), (41, .pv (.int .i64 (es.length : Int))), (42, .pv (.int .i64 i)), (57, .pv (.bool (decide (i64.wrap (n + (1 : Int)) > (20000 : Int)))))] (sH kvs y (i64.wrap (n + (1 : Int))) nl T [.int .i64 k1, .int .i32 k2, .bool k3, .sl kn kf kt, .bool k5, .int .i32 k6])
 else Q .normal [(0, .box 0 0), (8, .box 2 0), (40, .pv (.sl n5 f5 es)), (41, .pv (.int .i64 (es.length : Int))), (42, .pv (.int .i64 i)), (57, .pv (.bool (decide (i64.wrap (n + (1 : Int)) > (20000 : Int)))))] (sH kvs y (i64.wrap (n + (1 : Int))) nl T [.int .i64 k1, .int .i32 k2, .bool k3, .sl kn kf kt, .bool k5, .int .i32 k6])) := by kernel_rfl
theorem zK (Q : Qt) : aW qa (fun _ => none) 2 79 [0, 8, 40, 41, 42, 59] (fun _ => none) (a7 (a7 (xT Try.f25))) (d3 n5 f5 es i) (sH kvs y n nl T [.int .i64 k1, .int .i32 k2, .bool k3, .sl kn kf kt, .bool k5, .int .i32 k6]) Q =
 Q .normal [(0, .box 0 0), (8, .box 2 0), (40, .pv (.sl n5 f5 es)), (41, .pv (.int .i64 (es.length : Int))), (42, .pv (.int .i64 i)), (59, .pv (.bool k5))] (sH kvs y n nl T [.int .i64 k1, .int .i32 k2, .bool k3, .sl kn kf kt, .bool k5, .int .i32 k6]) := by kernel_rfl
theorem zL (K : Env -> Hp -> Prop) : aT qa (fun _ => none) 79 (cN Try.f25).toList (((cN Try.f25).toList.drop 0).take 3) (d3 n5 f5 es i) (sH kvs y n nl T [.int .i64 k1, .int .i32 k2, .bool k3, .sl kn kf kt, .bool k5, .int .i32 k6]) K =
 K ((62, .pv (.int .i32 k6)) :: (61, .box 2 5) :: (60, .box 0 0) :: d3 n5 f5 es i) (sH kvs y n nl T [.int .i64 k1, .int .i32 k2, .bool k3, .sl kn kf kt, .bool k5, .int .i32 k6]) := by kernel_rfl
theorem zM (r : Int) (K : Env -> Hp -> Prop) : aT qa (fun _ => none) 79 (cN Try.f25).toList (((cN Try.f25).toList.drop 4).take 1) ((63, .pv (.int .i64 r)) :: eL n5 f5 es i) (aI kvs y n nl T) K = K ((9, .pv (.int .i64 r)) :: (63, .pv (.int .i64 r)) :: eL n5 f5 es i) (aI kvs y n nl T) := by kernel_rfl
theorem zN (r : Int) (Q : Qt) : aW qa (fun _ => none) 2 79 [0, 4, 9, 40, 41, 42, 65] (fun _ => none) (tM Try.f25) ((9, .pv (.int .i64 r)) :: eL n5 f5 es i) (aI kvs y n nl T) Q =
 (if (r != (0 : Int)) = true then Q .ret [(0, .box 0 0), (4, .pv (.int .i64 r)), (9, .pv (.int .i64 r)), (40, .pv (.sl n5 f5 es)), (41, .pv (.int .i64 (es.length : Int))), (42, .pv (.int .i64 i)), (65, .pv (.bool (r != (0 : Int))))] (aI kvs y n nl T)
 else Q .normal [(0, .box 0 0), (9, .pv (.int .i64 r)), (40, .pv (.sl n5 f5 es)), (41, .pv (.int .i64 (es.length : Int))), (42, .pv (.int .i64 i)), (65, .pv (.bool (r != (0 : Int))))] (aI kvs y n nl T)) := by kernel_rfl
theorem zO (Q : Qt) : aW qa (fun _ => none) 2 79 [0, 40, 41, 42] (fun _ => none) (aM (xT Try.f25)) (d3 n5 f5 es i) (sH kvs y n nl T [.int .i64 k1, .int .i32 k2, .bool k3, .sl kn kf kt, .bool k5, .int .i32 k6]) Q =
 ((bY [[PV.int .i64 k1, .int .i32 k2, .bool k3, .sl kn kf kt]] 4 /\ (T.length + 1) * 40 <= 140737488355328) /\ Q .normal (eL n5 f5 es i) (sH kvs y n (nl && false) (T ++ [[.int .i64 k1, .int .i32 k2, .bool k3, .sl kn kf kt]]) [.int .i64 k1, .int .i32 k2, .bool k3, .sl kn kf kt, .bool k5, .int .i32 k6])) := by kernel_rfl
theorem zP (Q : Qt) : aW qa (fun _ => none) 2 79 [0, 40, 41, 42] (fun _ => none) (aM (aM (aM (xLp Try.f25)))) (eL n5 f5 es i) (aI kvs y n nl T) Q = Q .normal (eL n5 f5 es (i64.wrap (i + 1))) (aI kvs y n nl T) := by kernel_rfl
end
theorem lY : (cI Try.f25)[5]? = some ((cI Try.f25).toList.getD 5 default) /\ ((cI Try.f25).toList.getD 5 default).dst = some 29 /\ ((cI Try.f25).toList.getD 5 default).guard = none /\ ((cI Try.f25).toList.getD 5 default).op = .lookup 69 (.tmp 27) (.tmp 28) false /\ (cI Try.f25).size = 7 /\
 (cJ Try.f25)[5]? = some ((cJ Try.f25).toList.getD 5 default) /\ ((cJ Try.f25).toList.getD 5 default).dst = none /\ ((cJ Try.f25).toList.getD 5 default).guard = none /\ ((cJ Try.f25).toList.getD 5 default).op = .mapUpdate 69 (.tmp 33) (.tmp 34) (.const (.bool true)) /\ (cJ Try.f25).size = 6 /\
 (bR Try.f25)[5]? = some ((bR Try.f25).toList.getD 5 default) /\ ((bR Try.f25).toList.getD 5 default).dst = none /\ ((bR Try.f25).toList.getD 5 default).guard = none /\ ((bR Try.f25).toList.getD 5 default).op = .defer { callee := .builtin .delete, args := #[.tmp 38, .tmp 39], argTypes := #[69, 21] } /\ (bR Try.f25).size = 6 /\
 (cN Try.f25)[3]? = some ((cN Try.f25).toList.getD 3 default) /\ ((cN Try.f25).toList.getD 3 default).dst = some 63 /\ ((cN Try.f25).toList.getD 3 default).guard = none /\ ((cN Try.f25).toList.getD 3 default).op = .call { callee := .value (.func 25), args := #[.tmp 60, .tmp 62], argTypes := #[68, 21] } /\ (cN Try.f25).size = 5 :=
 ⟨by kernel_rfl, by kernel_rfl, by kernel_rfl, by kernel_rfl, by kernel_rfl, by kernel_rfl, by kernel_rfl, by kernel_rfl, by kernel_rfl, by kernel_rfl, by kernel_rfl, by kernel_rfl, by kernel_rfl, by kernel_rfl, by kernel_rfl, by kernel_rfl, by kernel_rfl, by kernel_rfl, by kernel_rfl, by kernel_rfl⟩
structure NmZ (bk : Nat) (w0 : World) (I0 : Nat -> Prop) (G0 : Nat -> Pl) (o0 : Nat -> Prop) (st : List Int) (w : World) (I : Nat -> Prop) (G : Nat -> Pl) (h : Hp) : Prop where
 t : Tr w0 I0 o0 w I (fun b => aE h G b ∨ b = bk)
 len : 2 <= h.length
 stay : ∀ (o : Nat) ob, o < 2 -> h[o]? = some ob -> ob.fixed = true -> G o = G0 o
 st : StackM w bk st
 nI : ¬ I bk
 nO : ¬ aE h G bk
theorem StackM.lt {w : World} {b : Nat} {st : List Int} (h : StackM w b st) : b < w.heap.size := by
 obtain ⟨es, ck, h1, _⟩ := h;rcases qaf b w.heap.size with h' | h'
 ·exact h'
 ·rw [qv h'] at h1; cases h1
theorem StackM.same {w w' : World} {b : Nat} {st : List Int} (h : StackM w b st) (e : w'.heap[b]? = w.heap[b]?) : StackM w' b st := by
 obtain ⟨es, ck, h1, h2⟩ := h;exact ⟨es, ck, e.trans h1, h2⟩
theorem Tr.also {w w' : World} {I I' own own' : Nat -> Prop} (h : Tr w I own w' I' own') (bk : Nat) : Tr w I (fun b => own b ∨ b = bk) w' I' (fun b => own' b ∨ b = bk) :=
 ⟨h.os, h.tape, h.output, h.size, fun b hb hn => h.keep b hb fun ho => hn (.inl ho), h.i1, fun b hb => (h.i2 b hb).imp id fun x => x.imp .inl id, fun b hb => hb.elim (fun ho => (h.own2 b ho).imp .inl id) fun e => .inl (.inr e), h.frz, h.drawn⟩
section
variable {bk : Nat} {w0 : World} {I0 : Nat -> Prop} {G0 : Nat -> Pl} {o0 : Nat -> Prop}
theorem NmZ.stab : lS (NmZ bk w0 I0 G0 o0) 2 := by
 rintro st w I G h w' I' G' h' ⟨t0, l0, s0, m0, n1, n2⟩ hh hh' t;have hlt := m0.lt;refine ⟨t0.trans (t.t.also bk), t.len l0, fun o ob ho hx hf => ?_, m0.same (t.t.keep bk hlt n2), fun hi => ?_, fun ho => ?_⟩
 ·obtain ⟨e1, ob0, e2, e3⟩ := t.stay l0 o ob ho hx hf;exact e1.trans (s0 o ob0 ho e2 e3)
 ·rcases t.t.i2 bk hi with q | q | q
  ·exact n1 q
  ·exact n2 q
  ·omega
 ·rcases t.t.own2 bk ho with q | q
  ·exact n2 q
  ·omega
abbrev CN (bk : Nat) (w0 : World) (I0 : Nat -> Prop) (G0 : Nat -> Pl) (o0 : Nat -> Prop) := CodeY (NmZ bk w0 I0 G0 o0) qa 79
theorem NmZ.turn {st st' : List Int} {w : World} {I : Nat -> Prop} {G : Nat -> Pl} {h : Hp} (hz : NmZ bk w0 I0 G0 o0 st w I G h) (hh : HRel w I G h) {o : Obj} (hs : StackM (setBlock w bk o) bk st') :
 HRel (setBlock w bk o) I G h /\ Keeps w I (setBlock w bk o) I /\ NmZ bk w0 I0 G0 o0 st' (setBlock w bk o) I G h := by
 obtain ⟨t0, l0, s0, m0, n1, n2⟩ := hz;have hlt := m0.lt;obtain ⟨es0, ck0, e0, _⟩ := m0;obtain ⟨es1, ck1, e1, _⟩ := id hs
 have ho : o = .map es1 ck1 := by
  rw [Go.ChangeMaps.heap_setBlock_same e0] at e1; exact Option.some.inj e1
 have hoth : ∀ b, b ≠ bk -> (setBlock w bk o).heap[b]? = w.heap[b]? := fun b hb => Go.ChangeMaps.heap_setBlock_other e0 _ hb;have hsz : (setBlock w bk o).heap.size = w.heap.size := by simp [setBlock]
 have hk : Keeps w I (setBlock w bk o) I := ⟨fun b hb _ => hoth b fun e => n1 (e ▸ hb), fun b hb _ => hb⟩;refine ⟨hh.frame (fun b hb => hoth b fun e => n2 (e ▸ hb)) hk (fun b ⟨q, ob, q1, q2, q3⟩ hi => hh.nI q ob q1 q2 (q3 ▸ hi)) (fun b hb => by rw [hsz]; exact hh.cl b hb), hk, ?_, l0, s0, hs, n1, n2⟩;refine t0.trans ⟨rfl, rfl, rfl, by rw [hsz]; exact qd _, fun b _ hn => hoth b fun e => hn (.inr e), fun _ x => x, fun _ x => .inl x, fun _ x => .inl x, fun a _ => ?_, qd _⟩;rw [ho]; exact Go.ChangeMaps.frozen?_setBlock e0 a
theorem o3 : Try.prog.underlying 69 = some (.map 21 4) /\ Try.prog.underlying 21 = some (.int .i32) /\ ∃ ti, Try.prog.info? 4 = some ti /\ ti.zero = some (.bool false) := by
 refine ⟨by kernel_rfl, by kernel_rfl, ?_⟩;have h : (Try.prog.info? 4).bind (·.zero) = some (.bool false) := by kernel_rfl
 cases hi : Try.prog.info? 4 with
 | none => rw [hi] at h; cases h
 | some ti => rw [hi] at h; exact ⟨ti, rfl, h⟩
variable {kvs : List (PV × PV)} {n : Int} {nl : Bool} {T : List (List PV)} {nm : Int} {st : List Int}
theorem o4 {w : World} {I : Nat -> Prop} {G : Nat -> Pl} {h : Hp} {v cv : Value} (hr : LRel w I G h (.pv (.raw v)) cv) : cv = v := by cases hr with | pv _ _ h1 => cases h1; rfl
theorem zQ (v5 : PV) {Q : List Int -> Qt} (hK : Q st .normal [(23, .pv (.bool (decide (nm ∈ st)))), (29, .pv (.bool (decide (nm ∈ st)))), (0, .box 0 0), (1, .pv (.int .i32 nm)), (5, .pv v5)] (aI kvs (.map (some bk)) n nl T)) :
 CN bk w0 I0 G0 o0 (.region 4 (cI Try.f25) false) st [(0, .box 0 0), (1, .pv (.int .i32 nm)), (5, .pv v5)] (aI kvs (.map (some bk)) n nl T) Q := by
 intro w I G a Qx hs hz hq;obtain ⟨d4, _, _, _⟩ := o1;obtain ⟨p1, p2, p3, p4, p5, _⟩ := lY;obtain ⟨m1, m2, ti, m3, m4⟩ := o3
 refine oU (Φ := fun a' w' => ∃ I' G', SRel w' I' G' [(23, .pv (.bool (decide (nm ∈ st)))), (29, .pv (.bool (decide (nm ∈ st)))), (0, .box 0 0), (1, .pv (.int .i32 nm)), (5, .pv v5)] (aI kvs (.map (some bk)) n nl T) 79 a' /\ a'.defers = a.defers /\ NmZ bk w0 I0 G0 o0 st w' I' G' (aI kvs (.map (some bk)) n nl T)) ?_
  (fun a' w' ⟨I', G', q1, q2, q3⟩ => hq st .normal _ _ w' I' G' a' hK q1 q2 q3)
 refine OpsN.step d4 5 (by rw [p5]; omega) (by rw [nC4]; exact ⟨rfl, rfl⟩ : aT qa (fun _ => none) 79 _ _ _ _ (fun e' h' => e' = _ /\ h' = _)) hs ?_;rintro _ _ w1 I1 G1 a1 ⟨rfl, rfl⟩ hs1 hd1 ht1;have hz1 := NmZ.stab _ _ _ _ _ _ _ _ _ hz hs.hh hs1.hh ht1.toN;have v27 : a1.eval (.tmp 27) = .map (some bk) := o4 (hs1.he 27 _ rfl);have v28 : a1.eval (.tmp 28) = .int .i32 nm := (hs1.he 28 _ rfl : LRel w1 I1 G1 _ (.pv (.int .i32 nm)) _).int_eq;refine OpsN.value p1 p3 (v := .bool (decide (nm ∈ st))) ?_ ?_
 ·unfold execOp;rw [p4];simp only [v27, v28];refine aO ?_;exact yV m1 m2 m3 m4 hz1.st nm
 obtain ⟨hs2, hd2⟩ := fD (o := (cI Try.f25).toList.getD 5 default) (v := .pv (.bool (decide (nm ∈ st)))) (N := 79) (by unfold dH; rw [p2]; rfl) hs1.hn hs1.hh hs1.he (.pv _ _ (.bool _));have hs2 : SRel w1 I1 G1 [(29, .pv (.bool (decide (nm ∈ st)))), (0, .box 0 0), (1, .pv (.int .i32 nm)), (5, .pv v5)] (aI kvs (.map (some bk)) n nl T) 79 _ := hs2.le (LeE.le (by unfold put; rw [p2]; exact ⟨rfl, rfl, rfl, rfl, trivial⟩));refine OpsN.step d4 1 (by rw [p5]; exact qd _) (by rw [zG]; exact ⟨rfl, rfl⟩ : aT qa (fun _ => none) 79 _ _ _ _ (fun e' h' => e' = _ /\ h' = _)) hs2 ?_;rintro _ _ w3 I3 G3 a3 ⟨rfl, rfl⟩ hs3 hd3 ht3;exact OpsN.last (by rw [p5]; exact qd _) ⟨I3, G3, hs3, hd3.trans (hd2.trans hd1), NmZ.stab _ _ _ _ _ _ _ _ _ hz1 hs1.hh hs3.hh ht3.toN⟩
theorem zR (v5 : PV) (hn : nm ∉ st) {Q : List Int -> Qt} (hK : Q (st ++ [nm]) .normal [(0, .box 0 0), (1, .pv (.int .i32 nm)), (5, .pv v5)] (aI kvs (.map (some bk)) n nl T)) :
 CN bk w0 I0 G0 o0 (.region 6 (cJ Try.f25) false) st [(0, .box 0 0), (1, .pv (.int .i32 nm)), (5, .pv v5)] (aI kvs (.map (some bk)) n nl T) Q := by
 intro w I G a Qx hs hz hq;obtain ⟨_, d6, _, _⟩ := o1;obtain ⟨_, _, _, _, _, p1, p2, p3, p4, p5, _⟩ := lY;obtain ⟨m1, m2, ti, m3, m4⟩ := o3
 refine oU (Φ := fun a' w' => ∃ I' G', SRel w' I' G' [(0, .box 0 0), (1, .pv (.int .i32 nm)), (5, .pv v5)] (aI kvs (.map (some bk)) n nl T) 79 a' /\ a'.defers = a.defers /\ NmZ bk w0 I0 G0 o0 (st ++ [nm]) w' I' G' (aI kvs (.map (some bk)) n nl T)) ?_
  (fun a' w' ⟨I', G', q1, q2, q3⟩ => hq (st ++ [nm]) .normal _ _ w' I' G' a' hK q1 q2 q3)
 refine OpsN.step d6 5 (by rw [p5]; omega) (by rw [nC6]; exact ⟨rfl, rfl⟩ : aT qa (fun _ => none) 79 _ _ _ _ (fun e' h' => e' = _ /\ h' = _)) hs ?_;rintro _ _ w1 I1 G1 a1 ⟨rfl, rfl⟩ hs1 hd1 ht1;have hz1 := NmZ.stab _ _ _ _ _ _ _ _ _ hz hs.hh hs1.hh ht1.toN;have v33 : a1.eval (.tmp 33) = .map (some bk) := o4 (hs1.he 33 _ rfl);have v34 : a1.eval (.tmp 34) = .int .i32 nm := (hs1.he 34 _ rfl : LRel w1 I1 G1 _ (.pv (.int .i32 nm)) _).int_eq;obtain ⟨ob, r1, r2⟩ := yW m1 m2 hz1.st hn;obtain ⟨g1, g2, g3⟩ := hz1.turn hs1.hh r2
 have hrun : (execOp a1.eval ((cJ Try.f25).toList.getD 5 default)).run qa w1 = .ok .skip (setBlock w1 bk ob) := by
  unfold execOp;rw [p4];simp only [v33, v34];show (do Instr.mapUpdate 69 (.map (some bk)) (.int .i32 nm) (.bool true); Pure.pure Next.skip : Sem Next).run qa w1 = _;simp only [qao, r1, qad, qap]
 refine OpsN.one p1 p3 ⟨fun _ _ => trivial, ?_⟩;show Oper.uponIn (wd none) 0 qa _ a1 _ _ (((((cJ Try.f25).toList.getD 5 default)).semAt none a1.eval).run qa w1);rw [Oper.semAt_none, hrun];show OpsN _ _ _ _ (a1.put ((cJ Try.f25).toList.getD 5 default).dst undef) _;rw [p2];refine OpsN.last (by rw [p5]; exact qd _) ⟨I1, G1, ?_, hd1, g3⟩;have hs2 : SRel w1 I1 G1 [(0, .box 0 0), (1, .pv (.int .i32 nm)), (5, .pv v5)] (aI kvs (.map (some bk)) n nl T) 79 a1 := hs1.le (LeE.le ⟨rfl, rfl, rfl, trivial⟩);exact ⟨g1, hs2.he.mono g2 (.refl _ _), hs2.hn⟩
end
section
variable {bk : Nat} {w0 : World} {I0 : Nat -> Prop} {G0 : Nat -> Pl} {o0 : Nat -> Prop} {kvs : List (PV × PV)} {n : Int} {nl : Bool} {T : List (List PV)} {nm : Int} {st : List Int}
def tN (bk : Nat) (nm : Int) (d : Deferred) : Prop := ∃ ty ks, d = { target := .builtin .delete #[69, 21] ty ks, args := #[.map (some bk), .int .i32 nm] }
theorem zS (v5 : PV) {w : World} {I : Nat -> Prop} {G : Nat -> Pl} {a : Act} {Qx : Exit -> Act -> World -> Prop} (hs : SRel w I G [(0, .box 0 0), (1, .pv (.int .i32 nm)), (5, .pv v5)] (aI kvs (.map (some bk)) n nl T) 79 a) (hz : NmZ bk w0 I0 G0 o0 st w I G (aI kvs (.map (some bk)) n nl T))
 (hq : ∀ d w' I' G' a', tN bk nm d -> SRel w' I' G' [(0, .box 0 0), (1, .pv (.int .i32 nm)), (5, .pv v5)] (aI kvs (.map (some bk)) n nl T) 79 a' -> a'.defers = d :: a.defers -> NmZ bk w0 I0 G0 o0 st w' I' G' (aI kvs (.map (some bk)) n nl T) -> Qx .normal a' w') :
 (Code.region 7 (bR Try.f25) false).wp qa Qx a w := by
 obtain ⟨_, _, _, _, _, _, _, _, _, _, p1, p2, p3, p4, p5, _⟩ := lY;refine wp_region ?_;rw [p5, show List.range 6 = qai 0 5 ++ [5] from rfl];refine lV ?_;have hl : ((bR Try.f25).toList.take 5).length = 5 := by rw [qaz, Array.length_toList, p5]; rfl
 have := nV (H := fun _ => none) (P := qa) (N := 79) (ops := bR Try.f25) (Qx := Exit.then (wpOps qa (bR Try.f25) Qx [5]) Qx) ((bR Try.f25).toList.take 5) 0 _ _ (fun j hj => by rw [qan, if_pos (by omega)]; simp)
  (by rw [nC7]; exact ⟨rfl, rfl⟩ : aT qa (fun _ => none) 79 _ _ _ (aI kvs (.map (some bk)) n nl T) (fun e' h' => e' = _ /\ h' = _)) w I G a hs ?_
 ·rwa [hl] at this
 rintro _ _ w1 I1 G1 a1 ⟨rfl, rfl⟩ hs1 hd1 ht1;have hz1 := NmZ.stab _ _ _ _ _ _ _ _ _ hz hs.hh hs1.hh ht1.toN;have v38 : a1.eval (.tmp 38) = .map (some bk) := o4 (hs1.he 38 _ rfl);have v39 : a1.eval (.tmp 39) = .int .i32 nm := (hs1.he 39 _ rfl : LRel w1 I1 G1 _ (.pv (.int .i32 nm)) _).int_eq;show wpOps qa (bR Try.f25) Qx [5] a1 w1;simp only [wpOps, p1];rw [if_pos (show Region.wanted ((bR Try.f25).toList.getD 5 default) _ = true by unfold Region.wanted; rw [p3])];refine .inl ?_
 have hrun : (execOp a1.eval ((bR Try.f25).toList.getD 5 default)).run qa w1 = .ok (.defer { target := .builtin .delete #[69, 21] ((bR Try.f25).toList.getD 5 default).type #[false, false], args := #[.map (some bk), .int .i32 nm] }) w1 := by
  unfold execOp;rw [p4];simp [resolve, v38, v39]
 unfold Oper.wp;rw [hrun, Oper.upon_defer, p2];exact hq _ w1 I1 G1 _ ⟨_, _, rfl⟩ ⟨hs1.hh, (hs1.le (e' := [(0, .box 0 0), (1, .pv (.int .i32 nm)), (5, .pv v5)]) (LeE.le ⟨rfl, rfl, rfl, trivial⟩)).he, hs1.hn⟩ (by show _ :: a1.defers = _; rw [hd1]) hz1
def eQ : Except Int MW -> Int -> Int -> List GKey -> Prop
 | .ok w, r, n', Q' => r = 0 /\ n' = (w.2 : Int) /\ Q'.map (·.2.2) = w.1 /\ w.2 <= 20000 /\ Q'.length <= w.2
 | .error e, r, _, _ => r = e /\ e ≠ 0
abbrev aG (B : GB) (bk : Nat) (n : Int) (nl : Bool) (Q : List GKey) : Hp := aI (bK B) (.map (some bk)) n nl (Q.map aR)
def o5 (B : GB) (d : Nat) : Prop := ∀ (st : List Int) (nm : Int) (n : Nat) (nl : Bool) (Q : List GKey) (bk : Nat) (p : Value) (w : World) (I : Nat -> Prop) (G : Nat -> Pl), fJ (aH B) st < d -> n <= 20000 -> Q.length <= n -> HRel w I G (aG B bk n nl Q) -> LRel w I G (aG B bk n nl Q) (.box 0 0) p ->
 StackM w bk st -> ¬ I bk -> ¬ aE (aG B bk n nl Q) G bk -> Calls qa 25 #[p, .int .i32 nm] w fun e w' => ∃ (r n' : Int) (nl' : Bool) (Q' : List GKey) (I' : Nat -> Prop) (G' : Nat -> Pl), e = .returned (.int .i64 r) /\ eQ (aY (aH B) d st nm (Q.map (·.2.2), n)) r n' Q' /\ HRel w' I' G' (aG B bk n' nl' Q') /\
  NmZ bk w I G (fun b => aE (aG B bk n nl Q) G b ∨ b = bk) st w' I' G' (aG B bk n' nl' Q')
theorem tO : iT qa 25 := ⟨_, Try.func25, by kernel_rfl, by kernel_rfl⟩
theorem zT {B : GB} {d : Nat} (ih : o5 B d) (hd : fJ (aH B) st < d) {n : Nat} (hn : n <= 20000) {Q : List GKey} (hQ : Q.length <= n) {n5 f5 : Bool} {es : List (List PV)} {i k1 k2 : Int} {k3 kn kf k5 : Bool} {kt : List (List PV)} {k6 : Int} {Ψ : List Int -> Qt}
 (hK : ∀ (r n' : Int) (nl' : Bool) (Q' : List GKey), eQ (aY (aH B) d st k6 (Q.map (·.2.2), n)) r n' Q' -> Ψ st .normal ((9, .pv (.int .i64 r)) :: (63, .pv (.int .i64 r)) :: eL n5 f5 es i) (aG B bk n' nl' Q')) :
 CN bk w0 I0 G0 o0 (.region 15 (cN Try.f25) false) st (d3 n5 f5 es i) (sH (bK B) (.map (some bk)) n nl (Q.map aR) [.int .i64 k1, .int .i32 k2, .bool k3, .sl kn kf kt, .bool k5, .int .i32 k6]) Ψ := by
 intro w I G a Qx hs hz hq;obtain ⟨_, _, _, d15⟩ := o1;obtain ⟨_, _, _, _, _, _, _, _, _, _, _, _, _, _, _, p1, p2, p3, p4, p5⟩ := lY
 refine oU (Φ := fun a' w' => ∃ (r n' : Int) (nl' : Bool) (Q' : List GKey) (I' : Nat -> Prop) (G' : Nat -> Pl), eQ (aY (aH B) d st k6 (Q.map (·.2.2), n)) r n' Q' /\ SRel w' I' G' ((9, .pv (.int .i64 r)) :: (63, .pv (.int .i64 r)) :: eL n5 f5 es i) (aG B bk n' nl' Q') 79 a' /\ a'.defers = a.defers /\ NmZ bk w0 I0 G0 o0 st w' I' G' (aG B bk n' nl' Q')) ?_
  (fun a' w' ⟨r, n', nl', Q', I', G', q0, q1, q2, q3⟩ => hq st .normal _ _ w' I' G' a' (hK r n' nl' Q' q0) q1 q2 q3)
 refine OpsN.step d15 3 (by rw [p5]; omega) (by rw [zL]; exact ⟨rfl, rfl⟩ : aT qa (fun _ => none) 79 _ _ _ _ (fun e' h' => e' = _ /\ h' = _)) hs ?_;rintro _ _ w1 I1 G1 a1 ⟨rfl, rfl⟩ hs1 hd1 ht1;have hz1 := NmZ.stab _ _ _ _ _ _ _ _ _ hz hs.hh hs1.hh ht1.toN;obtain ⟨G2, hs2, t2⟩ := Fits.srel (n0 := 2) (e' := [(0, .box 0 0), (40, .pv (.sl n5 f5 es)), (41, .pv (.int .i64 (es.length : Int))), (42, .pv (.int .i64 i)), (60, .box 0 0), (62, .pv (.int .i32 k6))]) (h' := aG B bk n nl Q) ⟨[], [0, 1], [0, 40, 41, 42, 60, 62], [], rfl, rfl, rfl, rfl⟩ hs1;have hz2 := NmZ.stab _ _ _ _ _ _ _ _ _ hz1 hs1.hh hs2.hh t2;have v62 : a1.eval (.tmp 62) = .int .i32 k6 := (hs2.he 62 _ rfl : LRel w1 I1 G2 _ (.pv (.int .i32 k6)) _).int_eq;have hrun := kQ (P := qa) (w := w1) p4 rfl (a := a1) (f := 25) (cc := #[]) rfl tO;have ea : (#[Operand.tmp 60, Operand.tmp 62].map a1.eval ++ #[] : Array Value) = #[a1.eval (.tmp 60), .int .i32 k6] := by rw [<- v62]; simp
 rw [ea] at hrun;rw [Nat.zero_add]
 refine OpsN.call (R := fun cv w' => ∃ (r n' : Int) (nl' : Bool) (Q' : List GKey) (I' : Nat -> Prop) (G' : Nat -> Pl), cv = .int .i64 r /\ eQ (aY (aH B) d st k6 (Q.map (·.2.2), n)) r n' Q' /\ HRel w' I' G' (aG B bk n' nl' Q') /\ NmZ bk w1 I1 G2 (fun b => aE (aG B bk n nl Q) G2 b ∨ b = bk) st w' I' G' (aG B bk n' nl' Q')) p1 p3 hrun
  ((ih st k6 n nl Q bk _ w1 I1 G2 hd hn hQ hs2.hh (hs2.he 60 _ rfl) hz2.st hz2.nI hz2.nO).mono fun e w' ⟨r, n', nl', Q', I', G', q1, q2, q3, q4⟩ => ⟨_, q1, r, n', nl', Q', I', G', rfl, q2, q3, q4⟩) ?_
 rintro _ w3 ⟨r, n', nl', Q', I3, G3, rfl, q2, q3, q4⟩;have hk : Keeps w1 I1 w3 I3 := ⟨fun b hb hlt => q4.t.keep b hlt fun ho => ho.elim (fun ⟨o, ob, h1, h2, e⟩ => hs2.hh.nI o ob h1 h2 (e ▸ hb)) fun e => hz2.nI (e ▸ hb), fun b hb _ => q4.t.i1 b hb⟩;have hG : G3 0 = G2 0 := q4.stay 0 _ (by omega) rfl rfl
 have hs3 : SRel w3 I3 G3 (eL n5 f5 es i) (aG B bk n' nl' Q') 79 a1 := by
  have s0 : SRel w3 I3 G3 [] (aG B bk n' nl' Q') 79 a1 := ⟨q3, ERel.nil _ _ _ _ _, hs2.hn⟩;have x42 : LRel w1 I1 G2 (aG B bk n nl Q) (.pv (.int .i64 i)) _ := hs2.he 42 _ rfl;have x41 : LRel w1 I1 G2 (aG B bk n nl Q) (.pv (.int .i64 (es.length : Int))) _ := hs2.he 41 _ rfl;have x40 : LRel w1 I1 G2 (aG B bk n nl Q) (.pv (.sl n5 f5 es)) _ := hs2.he 40 _ rfl;have x0 : LRel w1 I1 G2 (aG B bk n nl Q) (.box 0 0) _ := hs2.he 0 _ rfl
  have tree : ∀ {v : PV} {cv : Value}, LRel w1 I1 G2 (aG B bk n nl Q) (.pv v) cv -> LRel w3 I3 G3 (aG B bk n' nl' Q') (.pv v) cv := fun h => by
   cases h with | pv _ _ h => exact .pv _ _ (h.mono hk.1 hk.2)
  refine (((s0.view (d := 42) (tree x42)).view (d := 41) (tree x41)).view (d := 40) (tree x40)).view (d := 0) (v := .box 0 0) ?_;generalize a1.tmps.getD 0 undef = cv at x0;cases x0 with
  | box _ _ cs h1 => rw [<- hG]; exact .box 0 0 _ rfl
  | arr _ _ cs h1 => cases h1
 have hz3 : NmZ bk w0 I0 G0 o0 st w3 I3 G3 (aG B bk n' nl' Q') := by
  refine ⟨hz2.t.trans q4.t, q4.len, fun o ob ho hx hf => ?_, q4.st, q4.nI, q4.nO⟩;rw [q4.stay o ob ho hx hf]
  match o, ho, hx with
  | 0, _, hx => exact hz2.stay 0 _ (by omega) rfl rfl
  | 1, _, hx => cases hx; cases hf
 obtain ⟨hs4, hd4⟩ := fD (o := (cN Try.f25).toList.getD 3 default) (v := .pv (.int .i64 r)) (N := 79) (by unfold dH; rw [p2]; rfl) hs3.hn hs3.hh hs3.he (.pv _ _ (.int _ _));have hs4 : SRel w3 I3 G3 ((63, .pv (.int .i64 r)) :: eL n5 f5 es i) (aG B bk n' nl' Q') 79 _ := hs4.le (LeE.le (by unfold put; rw [p2]; exact ⟨rfl, rfl, rfl, rfl, rfl, trivial⟩));refine OpsN.step d15 1 (by rw [p5]; exact qd _) (by rw [zM]; exact ⟨rfl, rfl⟩ : aT qa (fun _ => none) 79 _ _ _ _ (fun e' h' => e' = _ /\ h' = _)) hs4 ?_;rintro _ _ w5 I5 G5 a5 ⟨rfl, rfl⟩ hs5 hd5 ht5;exact OpsN.last (by rw [p5]; exact qd _) ⟨r, n', nl', Q', I5, G5, q2, hs5, hd5.trans (hd4.trans hd1), NmZ.stab _ _ _ _ _ _ _ _ _ hz3 hs4.hh hs5.hh ht5.toN⟩
end
set_option linter.constructorNameAsVariable false
section
variable {α : Type} {Z : α -> World -> (Nat -> Prop) -> (Nat -> Pl) -> Hp -> Prop} {P : Program} {n0 N : Nat}
theorem CodeY.awE (hZ : lS Z n0) {H : Nat -> Option HSpec} {l : List Nat} {L : Nat -> Option LSpec} {x : Code} {s : α} {e : Env} {h : Hp} {Q : α -> Qt} {X : Prop} (he : aW P H n0 N l L x e h (Q s) = X) (hX : X) : CodeY Z P N x s e h Q := CodeY.of hZ (oG (he.symm ▸ hX))
theorem CodeY.fit (hZ : lS Z n0) {c : Code} {s : α} {e e' : Env} {h h' : Hp} {Q : α -> Qt} (hf : Fits n0 e h e' h') (hK : CodeY Z P N c s e' h' Q) : CodeY Z P N c s e h Q := by
 intro w I G a Qx hs hz hq;obtain ⟨G', hs', ho⟩ := hf.srel hs;exact hK w I G' a Qx hs' (hZ _ _ _ _ _ _ _ _ _ hz hs.hh hs'.hh ho) hq
end
theorem zU {P : Program} {f : Nat} {fn : Func} {c : Code} {args : List LV} {h : Hp} (hf : P.funcs[f]? = some fn) (hb : fn.body = some c) (hl : args.length <= fn.ntmps) {w : World} {I : Nat -> Prop} {G : Nat -> Pl} {cargs : Array Value} (hh : HRel w I G h) (hsz : cargs.size = args.length)
 (hrel : ∀ (i : Nat) v, args[i]? = some v -> LRel w I G h v (cargs.getD i undef)) {R : Ending -> World -> Prop}
 (hK : ∀ (a : Act) (Qx : Exit -> Act -> World -> Prop), SRel w I G (dK args 0) h fn.ntmps a -> a.defers = [] -> (∀ a' w', iF P fn R a' w' -> Qx .normal a' w' /\ Qx .ret a' w') -> c.wp P Qx a w) : Calls P f cargs w R := by
 refine y4 hf hb ?_
 have hs : SRel w I G (dK args 0) h fn.ntmps { tmps := cargs ++ qaa (fn.ntmps - cargs.size) undef, defers := [] } := by
  refine ⟨hh, fun i v hi => ?_, by simp; omega⟩;obtain ⟨_, h2⟩ := lN hi;rw [Nat.sub_zero] at h2;have hlt : i < cargs.size := by have := (List.getElem?_eq_some_iff.1 h2).1; omega
  have := hrel i v h2
  have e1 : (cargs ++ qaa (fn.ntmps - cargs.size) undef).getD i undef = cargs.getD i undef := by
   rw [qi, qi, Array.getElem?_append_left hlt]
  simp only [e1];exact VRel.of_plain this
 exact hK _ _ hs rfl fun a' w' hl => ⟨hl, hl⟩
def BkOK (B : GB) : Prop := ∀ p ∈ B, p.2.2.2.length <= 1000
theorem o6 (f : Int -> MW -> Except Int MW) (x : MStep) (l : List MStep) (w : MW) : bN f (x :: l) w = if 20000 <= w.2 then .error 7 else if x.call = true then (match f x.name (w.1, w.2 + 1) with | .ok w' => bN f l w' | .error e => .error e) else bN f l (w.1 ++ [x.key], w.2 + 1) := rfl
section
variable {bk : Nat} {w0 : World} {I0 : Nat -> Prop} {G0 : Nat -> Pl} {o0 : Nat -> Prop}
abbrev QLp (B : GB) (bk : Nat) (ST : List Int) (X : Except Int MW) : List Int -> Qt := fun s' x e h => s' = ST /\ match x with
 | .normal => ∃ (n' : Int) (nl' : Bool) (Q' : List GKey), LeE [(0, .box 0 0)] e /\ h = aG B bk n' nl' Q' /\ eQ X 0 n' Q'
 | .ret => ∃ (r n' : Int) (nl' : Bool) (Q' : List GKey), Fits 2 e h [(4, .pv (.int .i64 r))] (aG B bk n' nl' Q') /\ eQ X r n' Q'
 | _ => False

theorem zV {B : GB} {d : Nat} (ih : o5 B d) {ST : List Int} (hd : fJ (aH B) ST < d) {l : List GS} (hl : l.length <= 1000) {n5 f5 : Bool} {n : Nat} {nl : Bool} {Q : List GKey} (hn : n <= 20000) (hQ : Q.length <= n) :
 CN bk w0 I0 G0 o0 (xL Try.f25) ST [(0, .box 0 0), (5, .pv (.sl n5 f5 (l.map encGS)))] (aG B bk n nl Q) (QLp B bk ST (bN (fun m => aY (aH B) d ST m) (l.map (·.2.2)) (Q.map (·.2.2), n))) := by
 rw [zE];refine CodeY.seq (CodeY.awE NmZ.stab (nL8 _) ?_);show CN bk w0 I0 G0 o0 (.block 1 (.loop _)) ST _ _ _;have hlen : (l.map encGS).length = l.length := by simp
 refine CodeY.block (CodeY.loop (σ := Nat × Nat × Bool × List GKey) (fun u => (eL n5 f5 (l.map encGS) u.1, aG B bk u.2.1 u.2.2.1 u.2.2.2)) (fun _ => ST)
  (fun u => u.1 <= l.length /\ u.2.1 <= 20000 /\ u.2.2.2.length <= u.2.1 /\ bN (fun m => aY (aH B) d ST m) ((l.map (·.2.2)).drop u.1) (u.2.2.2.map (·.2.2), u.2.1) = bN (fun m => aY (aH B) d ST m) (l.map (·.2.2)) (Q.map (·.2.2), n)) (fun u => l.length - u.1) (0, n, nl, Q) ⟨rfl, rfl, rfl, rfl, trivial⟩ rfl rfl ⟨qn _, hn, hQ, rfl⟩ ?_)
 rintro ⟨i, m, bl, K⟩ ⟨hi, hm, hK, hg⟩;dsimp only at hi hm hK hg ⊢;refine CodeY.seq (CodeY.awE NmZ.stab (nL9 _) ?_);refine CodeY.seq (CodeY.cond (t := decide ((i : Int) < ((l.map encGS).length : Int))) rfl ?_);by_cases hlt : i < l.length
 rotate_left
 ·rw [if_neg (by rw [hlen]; simp only [a9]; omega)];refine CodeY.exit ⟨rfl, m, bl, K, ⟨rfl, trivial⟩, rfl, ?_⟩;rw [<- hg, List.drop_of_length_le (by simp; omega)];exact ⟨rfl, rfl, rfl, hm, hK⟩
 rw [if_pos (by rw [hlen]; simp only [a9]; omega)];refine CodeY.skip ?_
 have hdrop : (l.map (·.2.2)).drop i = (l[i]).2.2 :: (l.map (·.2.2)).drop (i + 1) := by
  rw [List.drop_eq_getElem_cons (by simpa using hlt)]; simp
 rw [hdrop, o6] at hg;have wi : i64.wrap ((i : Int) + 1) = ((i + 1 : Nat) : Int) := by rw [gE (by omega) (by omega)]; omega
 have wm : i64.wrap ((m : Int) + 1) = ((m + 1 : Nat) : Int) := by rw [gE (by omega) (by omega)]; omega
 -- what ends a round
 have done : ∀ (m' : Nat) (bl' : Bool) (K' : List GKey) (e : Env) (h : Hp), Fits 2 e h (eL n5 f5 (l.map encGS) i) (aG B bk m' bl' K') -> m' <= 20000 -> K'.length <= m' -> bN (fun m => aY (aH B) d ST m) ((l.map (·.2.2)).drop (i + 1)) (K'.map (·.2.2), m') = bN (fun m => aY (aH B) d ST m) (l.map (·.2.2)) (Q.map (·.2.2), n) ->
  CN bk w0 I0 G0 o0 (aM (aM (aM (xLp Try.f25)))) ST e h fun s' x e h => x = .normal /\ ∃ u' : Nat × Nat × Bool × List GKey, LeE (eL n5 f5 (l.map encGS) u'.1) e /\ h = aG B bk u'.2.1 u'.2.2.1 u'.2.2.2 /\ s' = ST /\ (u'.1 <= l.length /\ u'.2.1 <= 20000 /\ u'.2.2.2.length <= u'.2.1 /\ bN (fun m => aY (aH B) d ST m) ((l.map (·.2.2)).drop u'.1) (u'.2.2.2.map (·.2.2), u'.2.1) = bN (fun m => aY (aH B) d ST m) (l.map (·.2.2)) (Q.map (·.2.2), n)) /\ l.length - u'.1 < l.length - i := fun m' bl' K' e h hf h1 h2 h3 => by
  refine CodeY.fit NmZ.stab hf (CodeY.awE NmZ.stab (zP _) ?_);rw [wi];exact ⟨rfl, (i + 1, m', bl', K'), ⟨rfl, rfl, rfl, rfl, trivial⟩, rfl, rfl, ⟨hlt, h1, h2, h3⟩, by dsimp only; omega⟩
 refine CodeY.seq (CodeY.le (e' := eL n5 f5 (l.map encGS) i) ⟨rfl, rfl, rfl, rfl, trivial⟩ (CodeY.block (CodeY.seq (CodeY.awE NmZ.stab (zI _) ?_))));rw [qf, dA hlt];refine ⟨dM (i := (i : Int)) (l := l) (enc := encGS) (fun _ => rfl) (by omega) (by omega), _, rfl, _, rfl, _, rfl, _, _, _, rfl, _, rfl, _, rfl, ?_⟩;refine CodeY.seq (CodeY.awE NmZ.stab (zJ _) ?_);rw [wm];refine cW (fun hc => ?_) (fun hc => ?_)
 ·simp only [a9] at hc;rw [if_pos (by dsimp only; omega)] at hg;refine ⟨rfl, 7, _, bl, K, ⟨[], [0, 1], [4], [], rfl, rfl, rfl, rfl⟩, ?_⟩;rw [<- hg]; exact ⟨rfl, by omega⟩
 simp only [a9] at hc;rw [if_neg (by dsimp only; omega)] at hg;show CN bk w0 I0 G0 o0 (xT Try.f25) ST _ _ _;rw [zF];refine CodeY.le (e' := d3 n5 f5 (l.map encGS) i) ⟨rfl, rfl, rfl, rfl, rfl, trivial⟩ (CodeY.seq (CodeY.seq (CodeY.awE NmZ.stab (zK _) ?_)));refine CodeY.cond (t := l[i].2.2.call) rfl ?_;refine cW (fun hcall => ?_) (fun hcall => ?_)
 ·rw [if_pos hcall] at hg;refine CodeY.le (e' := d3 n5 f5 (l.map encGS) i) ⟨rfl, rfl, rfl, rfl, rfl, trivial⟩ (CodeY.seq (CodeY.seq (zT ih hd (n := m + 1) (by omega) (by omega) ?_)));intro r n' bl' K' hres;refine CodeY.le (e' := (9, .pv (.int .i64 r)) :: eL n5 f5 (l.map encGS) i) ⟨rfl, rfl, rfl, rfl, rfl, trivial⟩ (CodeY.awE NmZ.stab (zN _ _) ?_);generalize aY (aH B) d ST l[i].2.2.name (K.map (·.2.2), m + 1) = X at hg hres;cases X with
  | error e =>
    obtain ⟨rfl, he⟩ := hres;rw [if_pos (by simpa using he)]
    refine ⟨rfl, r, n', bl', K', ⟨[], [0, 1], [4], [], rfl, rfl, rfl, rfl⟩, ?_⟩;rw [<- hg]; exact ⟨rfl, he⟩
  | ok w =>
    obtain ⟨rfl, rfl, hk, h1, h2⟩ := hres;rw [if_neg (by simp)];refine CodeY.exit ?_;refine (done w.2 bl' K' _ _ ?_ h1 h2 ?_).mono (by rintro s' x e h ⟨rfl, hx⟩; exact hx)
    ·exact ⟨[], [0, 1], [0, 40, 41, 42], [], rfl, rfl, rfl, rfl⟩
    ·rw [hk]; exact hg
 ·rw [if_neg hcall] at hg;refine CodeY.skip (CodeY.le (e' := d3 n5 f5 (l.map encGS) i) ⟨rfl, rfl, rfl, rfl, rfl, trivial⟩ (CodeY.awE NmZ.stab (zO _) ?_));refine ⟨⟨fun e he => by cases he; rfl, by simp; omega⟩, ?_⟩;refine (done (m + 1) (bl && false) (K ++ [(l[i].1, l[i].2.1, l[i].2.2.key)]) _ _ ?_ (by omega) (by simp; omega) ?_).mono (by rintro s' x e h ⟨rfl, hx⟩; exact hx)
  ·refine ⟨[], [0, 1], [0, 40, 41, 42], [], rfl, rfl, rfl, ?_⟩;rw [aG, qm]; rfl
  ·rw [qm]; exact hg
end
theorem tP {w : World} {I : Nat -> Prop} {G : Nat -> Pl} {h : Hp} {a : Act} {r : Int} (hs : SRel w I G [(4, .pv (.int .i64 r))] h 79 a) : (results Try.f25 a.tmps).run qa w = .ok (.int .i64 r) w := by
 obtain ⟨v, hv, cv, h1, h2⟩ := oJ (P := qa) (fn := Try.f25) (K := fun v => v = .pv (.int .i64 r)) hs.hh hs.he (Eq.mpr (by kernel_rfl : dL qa [(4, .pv (.int .i64 r))] h Try.f25.results.toList (gD fun v => v = .pv (.int .i64 r)) = (LV.pv (.int .i64 r) = .pv (.int .i64 r))) rfl);subst hv;rw [h1, h2.int_eq]
def xCe (f : Func) : Code := .seq (a7 (xC f)) (.cond (.tmp 20) (gJ (aM (xC f))) (.seq (.region 4 (cI f) false) (.cond (.tmp 23) (gJ (aM (xC2 f))) .skip)))
theorem zW : Try.f25.body = some (mM Try.f25) := by kernel_rfl
theorem tQ (B : GB) (hB : BkOK B) : ∀ d, o5 B d
 | 0 => fun st nm n nl Q bk p w I G hlt => absurd hlt (Nat.not_lt_zero _)
 | d + 1 => by
   intro st nm n nl Q bk p w I G hlt hn hQ hh hp hst hnI hnO;have ih := tQ B hB d;obtain ⟨m1, m2, _⟩ := o3;have hz0 : NmZ bk w I G (fun b => aE (aG B bk n nl Q) G b ∨ b = bk) st w I G (aG B bk n nl Q) := ⟨Tr.refl _ _ _, qd 2, fun _ _ _ _ _ => rfl, hst, hnI, hnO⟩;refine zU (args := [.box 0 0, .pv (.int .i32 nm)]) Try.func25 zW (Nat.le_of_ble_eq_true (by kernel_rfl)) hh rfl (fun i u hi => ?_) fun a Qx hs hd hq => ?_
   ·match i, hi with
    | 0, hi => cases hi; exact hp
    | 1, hi => cases hi; exact .pv _ _ (.int _ _)
   have hs : SRel w I G (dK [.box 0 0, .pv (.int .i32 nm)] 0) (aG B bk n nl Q) 79 a := hs;generalize hX : aY (aH B) (d + 1) st nm (Q.map (·.2.2), n) = X at hq ⊢;rw [aY, eP] at hX
   -- the two ends
   have fin0 : ∀ (r n' : Int) (nl' : Bool) (Q' : List GKey) (w' : World) (I' : Nat -> Prop) (G' : Nat -> Pl) (a' : Act), SRel w' I' G' [(4, .pv (.int .i64 r))] (aG B bk n' nl' Q') 79 a' -> a'.defers = [] -> NmZ bk w I G (fun b => aE (aG B bk n nl Q) G b ∨ b = bk) st w' I' G' (aG B bk n' nl' Q') -> eQ X r n' Q' -> Qx .ret a' w' := fun r n' nl' Q' w' I' G' a' h1 h2 h3 h4 =>
    (hq a' w' (by unfold iF; rw [h2]; exact ⟨_, tP h1, r, n', nl', Q', I', G', rfl, h4, h1.hh, h3⟩)).2
   have fin1 : nm ∉ st -> ∀ (d0 : Deferred) (r n' : Int) (nl' : Bool) (Q' : List GKey) (w' : World) (I' : Nat -> Prop) (G' : Nat -> Pl) (a' : Act), tN bk nm d0 -> SRel w' I' G' [(4, .pv (.int .i64 r))] (aG B bk n' nl' Q') 79 a' -> a'.defers = [d0] ->
    NmZ bk w I G (fun b => aE (aG B bk n nl Q) G b ∨ b = bk) (st ++ [nm]) w' I' G' (aG B bk n' nl' Q') -> eQ X r n' Q' -> Qx .ret a' w' := fun hnst d0 r n' nl' Q' w' I' G' a' h0 h1 h2 h3 h4 => by
    obtain ⟨ty, ks, rfl⟩ := h0;obtain ⟨o, r1, r2⟩ := yX m1 m2 h3.st hnst 21 ty;obtain ⟨g1, g2, g3⟩ := h3.turn h1.hh r2;refine (hq a' w' ?_).2;unfold iF; rw [h2]
    have hinv : (invoke (.builtin .delete #[69, 21] ty ks) #[.map (some bk), .int .i32 nm]).run qa w' = .ok (.value (.tuple #[])) (setBlock w' bk o) := by
     show (do let v <- Builtin.delete_ #[69, 21] ty #[.map (some bk), .int .i32 nm]; Pure.pure (Next.value v) : Sem Next).run qa w' = _;simp only [qao, r1, qad, qap]
    exact ⟨_, _, _, _, _, _, _, rfl, hinv, tP ⟨g1, h1.he.mono g2 (.refl _ _), h1.hn⟩, r, n', nl', Q', I', G', rfl, h4, g1, g3⟩
   rw [zC]
   -- what the name stands for
   refine wp_seq ((CodeY.awE NmZ.stab (nA _) ⟨rfl, rfl, rfl, rfl⟩ : CN bk w I G _ (xA Try.f25) st _ _ (fun s2 x e h => st = s2 /\ x = .normal /\ e = e1 nm /\ h = aG B bk n nl Q)) w I G a _ hs hz0 ?_);rintro _ _ _ _ w1 I1 G1 a1 ⟨rfl, rfl, rfl, rfl⟩ hs1 hd1 hz1;show Code.wp qa _ Qx a1 w1
   have cB : CN bk w I G (fun b => aE (aG B bk n nl Q) G b ∨ b = bk) (xB Try.f25) st (e1 nm) (aG B bk n nl Q) (fun s2 x e h => st = s2 /\ x = .normal /\ h = aG B bk n nl Q /\ ((∃ y, aU nm B = some y /\ e = [(0, .box 0 0), (1, .pv (.int .i32 nm)), (5, .pv (.sl y.1 y.2.1 (y.2.2.map encGS))), (6, .pv (.bool true))]) ∨
    (aU nm B = none /\ e = [(0, .box 0 0), (1, .pv (.int .i32 nm)), (5, .pv (.sl true true [])), (6, .pv (.bool false))]))) := by
    refine CodeY.awE NmZ.stab (nB _) ⟨oT _, fun v hv => ?_, fun hv => ?_⟩
    ·rw [lX] at hv;cases hy : aU nm B with
     | none => rw [hy] at hv; cases hv
     | some y => rw [hy] at hv; cases hv; exact ⟨_, _, _, rfl, rfl, rfl, rfl, .inl ⟨y, rfl, rfl⟩⟩
    ·rw [lX] at hv;cases hy : aU nm B with
     | none => exact ⟨rfl, rfl, rfl, .inr ⟨rfl, rfl⟩⟩
     | some y => rw [hy] at hv; cases hv
   refine wp_seq (cB w1 I1 G1 a1 _ hs1 hz1 ?_);rintro _ _ _ _ w2 I2 G2 a2 ⟨rfl, rfl, rfl, hor⟩ hs2 hd2 hz2;show Code.wp qa _ Qx a2 w2;rw [show xC Try.f25 = xCe Try.f25 from zD];rcases hor with ⟨y, hy, rfl⟩ | ⟨hy, rfl⟩
   rotate_left
   ·rw [hy] at hX;subst hX;have cC : CN bk w I G (fun b => aE (aG B bk n nl Q) G b ∨ b = bk) (.block 0 (xCe Try.f25)) st [(0, .box 0 0), (1, .pv (.int .i32 nm)), (5, .pv (.sl true true [])), (6, .pv (.bool false))] (aG B bk n nl Q) (fun s2 x e h => st = s2 /\ x = .ret /\ e = [(4, .pv (.int .i64 5))] /\ h = aG B bk n nl Q) := CodeY.block (CodeY.seq (CodeY.awE NmZ.stab (nC1 _ _ _) (CodeY.cond (t := true) rfl (CodeY.le (e' := e1 nm) ⟨rfl, rfl, trivial⟩ (CodeY.awE NmZ.stab (nC2 _) ⟨rfl, rfl, rfl, rfl⟩)))));refine wp_seq (cC w2 I2 G2 a2 _ hs2 hz2 ?_);rintro _ _ _ _ w3 I3 G3 a3 ⟨rfl, rfl, rfl, rfl⟩ hs3 hd3 hz3;exact fin0 5 n nl Q w3 I3 G3 a3 hs3 (hd3.trans (hd2.trans (hd1.trans hd))) hz3 ⟨rfl, by decide⟩
   rw [hy] at hX;dsimp only [qba] at hX
   have cC : CN bk w I G (fun b => aE (aG B bk n nl Q) G b ∨ b = bk) (.block 0 (xCe Try.f25)) st [(0, .box 0 0), (1, .pv (.int .i32 nm)), (5, .pv (.sl y.1 y.2.1 (y.2.2.map encGS))), (6, .pv (.bool true))] (aG B bk n nl Q) (fun s2 x e h => st = s2 /\ h = aG B bk n nl Q /\ ((nm ∈ st /\ x = .ret /\ e = [(4, .pv (.int .i64 6))]) ∨ (nm ∉ st /\ x = .normal /\ LeE [(0, .box 0 0), (1, .pv (.int .i32 nm)), (5, .pv (.sl y.1 y.2.1 (y.2.2.map encGS)))] e))) := by
    refine CodeY.block (CodeY.seq (CodeY.awE NmZ.stab (nC1 _ _ _) (CodeY.cond (t := false) rfl ?_)));simp only [qh, if_false];refine CodeY.le (e' := [(0, .box 0 0), (1, .pv (.int .i32 nm)), (5, .pv (.sl y.1 y.2.1 (y.2.2.map encGS)))]) ⟨rfl, rfl, rfl, trivial⟩ (CodeY.seq (zQ _ (CodeY.cond (t := decide (nm ∈ st)) rfl ?_)));by_cases hm : nm ∈ st
    ·rw [if_pos (by simpa using hm)]
     exact CodeY.le (e' := e1 nm) ⟨rfl, rfl, trivial⟩ (CodeY.awE NmZ.stab (nC5 _) ⟨rfl, rfl, .inl ⟨hm, rfl, rfl⟩⟩)
    ·rw [if_neg (by simpa using hm)]
     exact CodeY.skip ⟨rfl, rfl, .inr ⟨hm, rfl, ⟨rfl, rfl, rfl, trivial⟩⟩⟩
   refine wp_seq (cC w2 I2 G2 a2 _ hs2 hz2 ?_);rintro _ _ e3 _ w3 I3 G3 a3 ⟨rfl, rfl, hor⟩ hs3 hd3 hz3;rcases hor with ⟨hm, rfl, rfl⟩ | ⟨hm, rfl, he3⟩
   ·rw [if_pos hm] at hX;subst hX;exact fin0 6 n nl Q w3 I3 G3 a3 hs3 (hd3.trans (hd2.trans (hd1.trans hd))) hz3 ⟨rfl, by decide⟩
   rw [if_neg hm] at hX
   have hl1 : fJ (aH B) (st ++ [nm]) < d := by
    have := zB (b := aH B) (op := st) (nm := nm) (l := y.2.2.map (·.2.2)) (by rw [eP, hy]; rfl) hm;omega
   show Code.wp qa _ Qx a3 w3;refine wp_seq ((zR _ hm ⟨rfl, rfl, rfl, rfl⟩ : CN bk w I G _ (.region 6 (cJ Try.f25) false) st _ _ (fun s2 x e h => st ++ [nm] = s2 /\ x = .normal /\ e = [(0, .box 0 0), (1, .pv (.int .i32 nm)), (5, .pv (.sl y.1 y.2.1 (y.2.2.map encGS)))] /\ h = aG B bk n nl Q)) w3 I3 G3 a3 _ (hs3.le he3.le) hz3 ?_);rintro _ _ _ _ w4 I4 G4 a4 ⟨rfl, rfl, rfl, rfl⟩ hs4 hd4 hz4;show Code.wp qa _ Qx a4 w4;refine wp_seq (zS _ hs4 hz4 ?_);intro d0 w5 I5 G5 a5 hd0 hs5 hd5 hz5;have hd5 : a5.defers = [d0] := by rw [hd5, hd4, hd3, hd2, hd1, hd]
   show Code.wp qa _ Qx a5 w5
   have hyB : y.2.2.length <= 1000 := by
    have : ∃ k, (k, y) ∈ B := by
     revert hy; clear hB ih hz0 hX fin0 fin1 cB cC
     generalize B = B';intro hy
     induction B' with
     | nil => cases hy
     | cons p r ih =>
       obtain ⟨k, z⟩ := p;simp only [aU] at hy;split at hy
       ·cases hy; exact ⟨k, qj⟩
       ·obtain ⟨k', h⟩ := ih hy; exact ⟨k', qg _ h⟩
    obtain ⟨k, hk⟩ := this;exact hB _ hk
   refine wp_seq (zV (o0 := fun b => aE (aG B bk n nl Q) G b ∨ b = bk) (w0 := w) (I0 := I) (G0 := G) ih hl1 hyB hn hQ w5 I5 G5 a5 _ (hs5.le (LeE.le ⟨rfl, rfl, trivial⟩)) hz5 ?_);rintro _ x e6 h6 w6 I6 G6 a6 ⟨rfl, hx⟩ hs6 hd6 hz6;cases x with
   | exit k => exact hx.elim
   | ret =>
     obtain ⟨r, n', nl', Q', hf, hres⟩ := hx;obtain ⟨G7, hs7, t7⟩ := hf.srel hs6;exact fin1 hm d0 r n' nl' Q' w6 I6 G7 a6 hd0 hs7 (hd6.trans hd5) (NmZ.stab _ _ _ _ _ _ _ _ _ hz6 hs6.hh hs7.hh t7) (hX ▸ hres)
   | normal =>
     obtain ⟨n', nl', Q', hle, rfl, hres⟩ := hx;show Code.wp qa _ Qx a6 w6;refine (CodeY.awE NmZ.stab (zH _) ⟨rfl, rfl, rfl, rfl⟩ : CN bk w I G _ (aM (aM (aM (xR Try.f25)))) _ _ _ (fun s2 x e h => st ++ [nm] = s2 /\ x = .ret /\ e = [(4, .pv (.int .i64 0))] /\ h = aG B bk n' nl' Q')) w6 I6 G6 a6 _ (hs6.le hle.le) hz6 ?_;rintro _ _ _ _ w8 I8 G8 a8 ⟨rfl, rfl, rfl, rfl⟩ hs8 hd8 hz8;exact fin1 hm d0 0 n' nl' Q' w8 I8 G8 a8 hd0 hs8 (hd8.trans (hd6.trans hd5)) hz8 (hX ▸ hres)
end Go.Eng
namespace Go.Eng
open Go Go.Proofs
def o7  (x23 x24 : Int) (h0_0 : PV) (n_1 : Bool) (s_1 : LL) : Env × Hp := ([(6, LV.box 0 0), (23, Y6 x23), (24, Y6 x24)], [.box [.pv h0_0, LV.own 1, LV.bot, LV.bot], .sl (30, 4) true n_1 s_1])
section
variable (kvs : List (PV × PV)) (nm : Int) (J : Int -> Int -> PV -> Bool -> LL -> Prop) (μ : Int -> Int -> PV -> Bool -> LL -> Nat)
def tR (R : PV -> Prop) : Prop :=
 ACall qa 25 [LV.box 0 0, LV.pv (Z3 nm)] [Ob.box [LV.pv (PV.mp kvs), LV.pv (PV.sl true true []), LV.mp 1, Y6 0], Ob.mp []] fun (r : LV) (h' : Hp) => ∃ (t : Int × Bool × LL), (r = Y6 t.1 /\ h' = [Ob.box [LV.pv (PV.mp kvs), LV.own 2, LV.bot, LV.bot], Ob.dead, Ob.sl (30, 4) true t.snd.fst t.snd.snd]) /\ (True /\ True /\ True) /\ if (t.1 != 0) = true then R (PV.tup [PV.sl true true [], Z6 t.1]) else (bV (o7 (↑t.snd.snd.length : Int) (0 : Int) (PV.mp kvs) t.snd.fst t.snd.snd) /\ J (↑t.snd.snd.length : Int) (0 : Int) (PV.mp kvs) t.snd.fst t.snd.snd) /\ ∀ (x23 x24 : Int) (h0_0 : PV) (n_1 : Bool) (s_1 : LL), J x23 x24 h0_0 n_1 s_1 -> if decide (x24 < x23) = true then bA s_1 x24 4 /\ ∃ n f es, (qk 3 (s_1.getD x24.toNat [])).head? = some (PV.sl n f es) /\ PCall qa 26 [PV.sl n f es] fun v => ∃ n1 f1 es1, v = PV.sl n1 f1 es1 /\ bA s_1 x24 4 /\ (1 = 1 /\ 4 <= (s_1.getD x24.toNat []).length) /\ bV (o7 x23 (i64.wrap (x24 + 1)) h0_0 n_1 (s_1.set x24.toNat (bC (s_1.getD x24.toNat []) 3 [PV.sl n1 f1 es1]))) /\ J x23 (i64.wrap (x24 + 1)) h0_0 n_1 (s_1.set x24.toNat (bC (s_1.getD x24.toNat []) 3 [PV.sl n1 f1 es1])) /\ μ x23 (i64.wrap (x24 + 1)) h0_0 n_1 (s_1.set x24.toNat (bC (s_1.getD x24.toNat []) 3 [PV.sl n1 f1 es1])) < μ x23 x24 h0_0 n_1 s_1 else R (PV.tup [PV.sl n_1 false s_1, Z6 0])
theorem zX {R : PV -> Prop} (h : tR kvs nm J μ R) : PCall qa 8 [.agg [.mp kvs], .int .i32 nm] R :=
 PCall.wz Try.func8 (fun zz_ => match zz_ with | 25 => some ⟨Int × Bool × LL, fun vs hs t => (.pv (.int .i64 t.1), match hs with | [.box (a :: _), _] => [.box [a, .own 2, .bot, .bot], .dead, .sl (30, 4) true t.2.1 t.2.2] | h => h), none⟩ | _ => none) [0, 1, 2, 4, 5, 6, 7, 8, 17, 23, 24, 25] (lz1 6 (eO cz5 o7 J μ (fun e h => (gI e 23, gI e 24, hP h 0 0, oN h 1, oS h 1)) [] [6, 23, 24] [])) h
end
end Go.Eng
namespace Go.Eng
open Go Go.Proofs Go.Eng.Rows
open Go.ChangeMaps (setBlock)
theorem zY (b : Bk) : fJ b [] <= b.length := by
 unfold fJ;refine qaq (List.length_filter_le _ _) ?_;simp
theorem zZ {B : GB} (hB : BkOK B) (nm : Int) : ACall qa 25 [.box 0 0, .pv (.int .i32 nm)] [.box [.pv (.mp (bK B)), .pv (.sl true true []), .mp 1, .pv (.int .i64 0)], .mp []] fun r h' => ∃ t : Int × Bool × List (List PV),
 (r = .pv (.int .i64 t.1) /\ h' = [.box [.pv (.mp (bK B)), .own 2, .bot, .bot], .dead, .sl (30, 4) true t.2.1 t.2.2]) /\ ∃ (n' : Int) (Q' : List GKey), t.2.2 = Q'.map aR /\ eQ (aY (aH B) (B.length + 1) [] nm ([], 0)) t.1 n' Q' := by
 refine ⟨tO, fun w I G cargs hh hsz hrel => ?_⟩;have h1a := hrel 1 _ rfl;have hp := hrel 0 _ rfl
 have hc : cargs = #[cargs.getD 0 undef, .int .i32 nm] := by
  have := h1a.int_eq;obtain ⟨l⟩ := cargs
  match l, hsz with
  | [a, b], _ => simp at this; rw [this]; rfl
 obtain ⟨vs, ty, b1, b2, b3⟩ := hh.obs 0 _ rfl;obtain ⟨es, ck, m1, m2, m3⟩ := hh.obs 1 _ rfl;have hne : (G 0).blk ≠ (G 1).blk := fun e => absurd (hh.sep 0 1 _ _ rfl trivial rfl trivial e) (by decide);obtain ⟨G1, hG1⟩ : ∃ G1 : Nat -> Pl, G1 = fun o => if o = 0 then G 0 else ⟨0, 0, 0, 0⟩ := ⟨_, rfl⟩;have g10 : G1 0 = G 0 := by rw [hG1]; rfl
 have hcell : ∀ (k : Nat) v, [LV.pv (.mp (bK B)), .own 1, .pv (.raw (.map (some (G 1).blk))), .pv (.int .i64 (0 : Int))][k]? = some v -> LRel w I G1 (aG B (G 1).blk 0 true []) v (vs.getD ((G 0).off + k) undef) /\ (vs.getD ((G 0).off + k) undef).oneCell' = true := by
  intro k v hk
  match k, hk with
  | 0, hk =>
    cases hk;obtain ⟨q1, q2⟩ := b3 0 _ rfl;refine ⟨?_, q2⟩;cases q1 with | pv _ _ h => exact .pv _ _ h
  | 1, hk =>
    cases hk;obtain ⟨q1, q2⟩ := b3 1 _ rfl;refine ⟨?_, q2⟩;generalize vs.getD ((G 0).off + 1) undef = u at q1;cases q1 with | pv _ _ h => cases h; exact .ownNil 1 _ _ _ rfl
  | 2, hk =>
    cases hk;obtain ⟨q1, q2⟩ := b3 2 _ rfl;refine ⟨?_, q2⟩;generalize vs.getD ((G 0).off + 2) undef = u at q1;cases q1 with | mp _ _ h => exact .pv _ _ (.raw _)
  | 3, hk =>
    cases hk;obtain ⟨q1, q2⟩ := b3 3 _ rfl;refine ⟨?_, q2⟩;cases q1 with | pv _ _ h => exact .pv _ _ h
 have hh1 : HRel w I G1 (aG B (G 1).blk 0 true []) := by
  refine ⟨fun o ob ho => ?_, fun o o' ob ob' ho ha ho' ha' e => ?_, fun o ob ho ha => ?_, hh.cl⟩
  ·match o, ho with
   | 0, ho => cases ho; rw [g10]; exact ⟨vs, ty, b1, b2, hcell⟩
   | 1, ho => cases ho; exact rfl
  ·match o, ho with
   | 0, ho =>
     match o', ho' with
     | 0, _ => rfl
     | 1, ho' => cases ho'; exact absurd ha'.1 (by decide)
   | 1, ho => cases ho; exact absurd ha.1 (by decide)
  ·match o, ho with
   | 0, ho => rw [g10]; exact hh.nI 0 _ rfl trivial
   | 1, ho => cases ho; exact absurd ha.1 (by decide)
 have own1 : ∀ b, aE (aG B (G 1).blk 0 true []) G1 b ↔ b = (G 0).blk := fun b => by
  constructor
  ·rintro ⟨o, ob, ho, ha, e⟩
   match o, ho with
   | 0, ho => rw [<- e, g10]
   | 1, ho => cases ho; exact absurd ha.1 (by decide)
  ·rintro rfl;exact ⟨0, _, rfl, trivial, by rw [g10]⟩
 have own0 : ∀ b, aE [Ob.box [.pv (.mp (bK B)), .pv (.sl true true []), .mp 1, .pv (.int .i64 0)], .mp []] G b ↔ b = (G 0).blk ∨ b = (G 1).blk := fun b => by
  constructor
  ·rintro ⟨o, ob, ho, ha, e⟩
   match o, ho with
   | 0, ho => exact .inl e.symm
   | 1, ho => exact .inr e.symm
  ·rintro (rfl | rfl)
   ·exact ⟨0, _, rfl, trivial, rfl⟩
   ·exact ⟨1, _, rfl, trivial, rfl⟩
 have hp1 : LRel w I G1 (aG B (G 1).blk 0 true []) (.box 0 0) (cargs.getD 0 undef) := by
  generalize cargs.getD 0 undef = u at hp;cases hp with
  | box _ _ cs h => rw [<- g10]; exact .box 0 0 _ rfl
  | arr _ _ cs h => cases h
 rw [hc]
 refine (tQ B hB (B.length + 1) [] nm 0 true [] (G 1).blk _ w I G1 (Nat.lt_succ_of_le (qaq (zY _) (by simp [aH]))) (qn _) (qd _) hh1 hp1
  ⟨es, ck, m1, m2.1, fun j x h => by cases h⟩ (hh.nI 1 _ rfl trivial) (fun ho => hne ((own1 _).1 ho).symm)).mono ?_
 rintro e w' ⟨r, n', nl', Q', I', G', rfl, hres, hh', hz⟩;obtain ⟨G3, hG3⟩ : ∃ G3 : Nat -> Pl, G3 = fun o => if o = 0 then G' 0 else if o = 2 then G' 1 else ⟨0, 0, 0, 0⟩ := ⟨_, rfl⟩;have g30 : G3 0 = G' 0 := by rw [hG3]; rfl
 have g32 : G3 2 = G' 1 := by rw [hG3]; rfl
 have e0 : G' 0 = G 0 := (hz.stay 0 _ (by decide) rfl rfl).trans g10;obtain ⟨vs', ty', c1, c2, c3⟩ := hh'.obs 0 _ rfl
 have back : ∀ {o : Nat} {ob : Ob}, [Ob.box [.pv (.mp (bK B)), .own 2, .bot, .bot], .dead, .sl (30, 4) true nl' (Q'.map aR)][o]? = some ob -> ob.alive (G3 o) -> ∃ (o2 : Nat) (ob2 : Ob), (aG B (G 1).blk n' nl' Q')[o2]? = some ob2 /\ ob2.alive (G' o2) /\ G3 o = G' o2 /\ (o = 0 /\ o2 = 0 ∨ o = 2 /\ o2 = 1) := fun {o ob} ho ha => by
  match o, ho with
  | 0, ho => exact ⟨0, _, rfl, trivial, g30, .inl ⟨rfl, rfl⟩⟩
  | 1, ho => cases ho; exact ha.elim
  | 2, ho => cases ho; rw [g32] at ha; exact ⟨1, _, rfl, ha, g32, .inr ⟨rfl, rfl⟩⟩
 have hh3 : HRel w' I' G3 [.box [.pv (.mp (bK B)), .own 2, .bot, .bot], .dead, .sl (30, 4) true nl' (Q'.map aR)] := by
  refine ⟨fun o ob ho => ?_, fun o o' ob ob' ho ha ho' ha' e => ?_, fun o ob ho ha => ?_, hh'.cl⟩
  ·match o, ho with
   | 0, ho =>
     cases ho;rw [g30];refine ⟨vs', ty', c1, c2, fun k v hk => ?_⟩
     match k, hk with
     | 0, hk =>
       cases hk;obtain ⟨q1, q2⟩ := c3 0 _ rfl;refine ⟨?_, q2⟩;cases q1 with | pv _ _ h => exact .pv _ _ h
     | 1, hk =>
       cases hk;obtain ⟨q1, q2⟩ := c3 1 _ rfl;refine ⟨?_, q2⟩;generalize vs'.getD ((G' 0).off + 1) undef = u at q1;cases q1 with
       | ownNil _ _ _ _ h => cases h; exact .ownNil 2 _ _ _ rfl
       | own _ _ _ _ ad h0 h => cases h; rw [<- g32]; exact .own 2 _ _ _ ad (by rw [g32]; exact h0) rfl
     | 2, hk => cases hk; exact ⟨.bot _, (c3 2 _ rfl).2⟩
     | 3, hk => cases hk; exact ⟨.bot _, (c3 3 _ rfl).2⟩
   | 1, ho => cases ho; trivial
   | 2, ho => cases ho; rw [g32]; have := hh'.obs 1 _ rfl; cases nl' <;> exact this
  ·obtain ⟨p, pb, p1, p2, p3, p4⟩ := back ho ha;obtain ⟨q, qb, q1, q2, q3, q4⟩ := back ho' ha';have := hh'.sep p q pb qb p1 p2 q1 q2 (by rw [<- p3, <- q3]; exact e);omega
  ·obtain ⟨p, pb, p1, p2, p3, p4⟩ := back ho ha;rw [p3]; exact hh'.nI p pb p1 p2
 refine ⟨_, _, _, I', G3, rfl, ⟨(r, nl', Q'.map aR), ⟨rfl, rfl⟩, n', Q', rfl, hres⟩, hh3, .pv _ _ (.int _ _), ⟨?_, by simp, fun o ob' ho hx hf => ?_⟩⟩
 ·have t := hz.t
  have e1 : (fun b => aE (aG B (G 1).blk 0 true []) G1 b ∨ b = (G 1).blk) = aE [Ob.box [.pv (.mp (bK B)), .pv (.sl true true []), .mp 1, .pv (.int .i64 0)], .mp []] G := by
   funext b; exact propext (by rw [own1, own0])
  have t : Tr w I (fun b => aE (aG B (G 1).blk 0 true []) G1 b ∨ b = (G 1).blk) w' I' (fun b => aE (aG B (G 1).blk n' nl' Q') G' b ∨ b = (G 1).blk) := t;rw [e1] at t;refine t.trans (Tr.less fun b ⟨o, ob, ho, ha, e⟩ => ?_);obtain ⟨p, pb, p1, p2, p3, p4⟩ := back ho ha;exact .inl ⟨p, pb, p1, p2, by rw [<- p3]; exact e⟩
 ·match o, ho, hx with
  | 0, _, hx => exact ⟨g30.trans e0, _, rfl, rfl⟩
  | 1, _, hx => cases hx; cases hf
end Go.Eng
namespace Go.Proofs
open Go.Shelf
def Try.cloneM_ren : Go.Shelf.Ren := ⟨fun | 5 => 23 | 7 => 32 | n => n, fun | 23 => 22 | 25 => 21 | 3 => 33 | 4 => 4 | 20 => 20 | 0 => 0 | n => n, fun | n => n⟩
theorem Try.cloneM : Go.Proofs.SlLaysW.n5 qa Try.cloneM_ren := {
 mixed := by kernel_rfl
 f5 := ⟨Try.f23.name, by decide, Try.func23.trans (congrArg some (by kernel_rfl))⟩
 f7 := Try.func32.trans (congrArg some (by kernel_rfl))
 t4 := Try.underlying4
 a4 := Try.isAgg4
 z4 := Try.sizeOf4
 v4 := Try.zeroValue4
 t20 := Try.underlying20
 a20 := Try.isAgg20
 z20 := Try.sizeOf20
 v20 := Try.zeroValue20
 t23 := Try.underlying22
 a23 := Try.isAgg22
 z23 := Try.sizeOf22
 v23 := Try.zeroValue22 }
end Go.Proofs
namespace Go.Eng
open Go Go.Proofs
section
variable (n f : Bool) (es : LL)
def o8 (R : PV -> Prop) : Prop :=
 if (bif true then n else !n) = true then R (PV.sl true true []) else mN true [] es 1 4 /\ R (PV.sl false false ([] ++ es))
theorem tS {R : PV -> Prop} (h : o8 n es R) : PCall qa 26 [.sl n f es] R :=
 PCall.wz Try.func26 eN [0, 2, 4] fH h
end
section
variable (n f : Bool) (es : LL) (k : Int)
def tT (R : PV -> Prop) : Prop :=
 if decide ((↑es.length : Int) > k) = true then (eZ es.length none (some k) none /\ bY es 1) /\ R (PV.sl n (f && decide (k = (↑es.length : Int))) (qk 0 (qar k.toNat es))) else R (PV.sl n f es)
theorem z0 {R : PV -> Prop} (h : tT n f es k R) : PCall qa 27 [.sl n f es, .int .i64 k] R :=
 PCall.wz Try.func27 eN [0, 1, 4, 8] fH h
end
def o9 (n f : Bool) (es : LL) (n2 f2 : Bool) (es2 : LL) (x5 : Int) : Env × Hp := ([(0, LV.pv (PV.sl n f es)), (1, LV.pv (PV.sl n2 f2 es2)), (5, Y6 x5)], [])
section
variable (n f : Bool) (es : LL) (n2 f2 : Bool) (es2 : LL) (J : Int -> Prop) (μ : Int -> Nat)
def tU (R : PV -> Prop) : Prop :=
 if ((↑es.length : Int) != (↑es2.length : Int)) = true then R (Zb false) else (bV (o9 n f es n2 f2 es2 (0 : Int)) /\ J (0 : Int)) /\ ∀ (x5 : Int), J x5 -> if decide (x5 < (↑es.length : Int)) = true then bA es x5 1 /\ ∃ n1, (es.getD x5.toNat []).head? = some (Z3 n1) /\ bA es2 x5 1 /\ ∃ n3, (es2.getD x5.toNat []).head? = some (Z3 n3) /\ if (n1 != n3) = true then R (Zb false) else bV (o9 n f es n2 f2 es2 (i64.wrap (x5 + 1))) /\ J (i64.wrap (x5 + 1)) /\ μ (i64.wrap (x5 + 1)) < μ x5 else R (Zb true)
theorem z3 {R : PV -> Prop} (h : tU n f es n2 f2 es2 J μ R) : PCall qa 10 [.sl n f es, .sl n2 f2 es2] R :=
 PCall.wz Try.func10 eN [0, 1, 4, 5, 10, 14, 25] (lz1 4 (eO cz1 (o9 n f es n2 f2 es2) J μ (fun e h => (((gI e 5), ()))) [] [0, 1, 5] [])) h
end
def pA (n f : Bool) (es : LL) (x11 : Int) (n_0 : Bool) (s_0 : LL) : Env × Hp := ([(3, LV.own 0), (9, LV.pv (PV.sl n f es)), (10, LV.pv (PV.int i64 (es.length : Int))), (11, Y6 x11)], [.sl (32, 6) true n_0 s_0])
section
variable (n f : Bool) (es : LL) (J : Int -> Bool -> LL -> Prop) (μ : Int -> Bool -> LL -> Nat)
def tV (R : PV -> Prop) : Prop :=
 ((0 : Int) <= 0 /\ (0 : Int) <= (↑es.length : Int) /\ (↑48 : Int) * (↑es.length : Int) <= 281474976710656 /\ (↑es.length : Int) <= 9223372036854775807) /\ (bV (pA n f es (0 : Int) false []) /\ J (0 : Int) false []) /\ ∀ (x11 : Int) (n_0 : Bool) (s_0 : LL), J x11 n_0 s_0 -> if decide (x11 < (↑es.length : Int)) = true then bA es x11 6 /\ ∃ n1, (es.getD x11.toNat []).head? = some (Z6 n1) /\ ∃ n2, (es.getD x11.toNat []).tail.head? = some (Z3 n2) /\ ∃ b, (es.getD x11.toNat []).tail.tail.head? = some (Zb b) /\ ∃ n3 f1 es1, (es.getD x11.toNat []).tail.tail.tail.head? = some (PV.sl n3 f1 es1) /\ ∃ b1, (es.getD x11.toNat []).tail.tail.tail.tail.head? = some (Zb b1) /\ ∃ n4, (es.getD x11.toNat []).tail.tail.tail.tail.tail.head? = some (Z3 n4) /\ PCall qa 26 [PV.sl n3 f1 es1] fun v => ∃ n5 f2 es2, v = PV.sl n5 f2 es2 /\ (bY [[Z6 n1, Z3 n2, Zb b, PV.sl n5 f2 es2, Zb b1, Z3 n4]] 6 /\ (s_0.length + 1) * 48 <= 140737488355328) /\ bV (pA n f es (i64.wrap (x11 + 1)) (n_0 && false) (s_0 ++ [[Z6 n1, Z3 n2, Zb b, PV.sl n5 f2 es2, Zb b1, Z3 n4]])) /\ J (i64.wrap (x11 + 1)) (n_0 && false) (s_0 ++ [[Z6 n1, Z3 n2, Zb b, PV.sl n5 f2 es2, Zb b1, Z3 n4]]) /\ μ (i64.wrap (x11 + 1)) (n_0 && false) (s_0 ++ [[Z6 n1, Z3 n2, Zb b, PV.sl n5 f2 es2, Zb b1, Z3 n4]]) < μ x11 n_0 s_0 else R (PV.sl n_0 false s_0)
theorem z5 {R : PV -> Prop} (h : tV n f es J μ R) : PCall qa 24 [.sl n f es] R :=
 PCall.wz Try.func24 eN [0, 2, 3, 5, 9, 10, 11, 12] (lz1 3 (eO cz3 (pA n f es) J μ (fun e h => (gI e 11, oN h 0, oS h 0)) [] [3, 9, 10, 11] [])) h
end
section
variable (kvs : List (PV × PV)) (nm : Int) (n f : Bool) (es : LL)
def tW (R : PV -> Prop) : Prop :=
 fA .i32 kvs /\
 let V1 := ACall qa 23 [LV.pv (PV.mp kvs)] [] fun (r : LV) (h' : Hp) => ∃ (t : Unit), (r = LV.mp 0 /\ h' = [Ob.mp kvs]) /\ True /\ PCall qa 24 [PV.sl n f es] fun v1 => ∃ n2 f2 es2, v1 = PV.sl n2
  f2 es2 /\ fA .i32 kvs /\ R (PV.tup [PV.agg [PV.mp (cU (Z3 nm) (PV.sl n2 f2 es2) kvs)], Z6 0]); (∀ (v : PV), b9 (Z3 nm) kvs = some v -> ∃ n1 f1 es1, v = PV.sl n1 f1 es1 /\ if decide ((↑es.length :
  Int) > 1000) = true then R (PV.tup [PV.agg [PV.mp kvs], Z6 7]) else V1) /\ (b9 (Z3 nm) kvs = none -> if decide ((↑es.length : Int) > 1000) = true then R (PV.tup [PV.agg [PV.mp kvs], Z6 7]) else if ((↑kvs.length : Int) == 100) = true
  then R (PV.tup [PV.agg [PV.mp kvs], Z6 3]) else V1)
theorem z6 {R : PV -> Prop} (h : tW kvs nm n f es R) : PCall qa 7 [.agg [.mp kvs], .int .i32 nm, .sl n f es] R :=
 PCall.wz Try.func7 (fun zz_ => match zz_ with | 23 => some ⟨Unit, fun vs _ _ => (.mp 0, match vs with | [.pv (.mp kvs)] => [.mp kvs] | _ => []), none⟩ | _ => none) [0, 1, 2, 3, 6, 7, 9, 10, 18, 23, 37] fH h
end
section
variable (nm : Int) (n f : Bool) (es : LL)
def tX (R : PV -> Prop) : Prop :=
 fA .i32 [] /\
 let V1 := if decide ((↑es.length : Int) > 1000) = true then R (PV.tup [PV.agg [PV.nilm], Z6 7]) else ACall qa 23 [LV.pv PV.nilm] [] fun (r : LV) (h' : Hp) => ∃ (t : Unit), (r = LV.pv PV.nilm /\ h' = []) /\ True /\ PCall qa 24
  [PV.sl n f es] fun v1 => ∃ n2 f2 es2, v1 = PV.sl n2 f2 es2 /\ fA .i32 [] /\ R (PV.tup [PV.agg [PV.mp (cU (Z3 nm) (PV.sl n2 f2 es2) [])], Z6 0]); (∀ (v : PV), b9 (Z3 nm) [] = some v -> ∃ (n1
  : Bool), ∃ f1 es1, v = PV.sl n1 f1 es1 /\ V1) /\ (b9 (Z3 nm) [] = none -> V1)
theorem z7 {R : PV -> Prop} (h : tX nm n f es R) : PCall qa 7 [.agg [.nilm], .int .i32 nm, .sl n f es] R :=
 PCall.wz Try.func7 (fun zz_ => match zz_ with | 23 => some ⟨Unit, fun _ _ _ => (.pv .nilm, []), none⟩ | _ => none) [0, 1, 2, 3, 6, 7, 9, 10, 18, 23, 37] fH h
end
def tY  (R : PV -> Prop) : Prop :=
 R (PV.agg [Zb true, PV.sl true true []])
theorem z8  {R : PV -> Prop} (h : tY  R) : PCall qa 13 [] R :=
 PCall.wz Try.func13 eN [0] fH h

section
variable (on : Bool) (kk kr : Int) (km : Bool) (n f : Bool) (es : LL) (n2 f2 : Bool) (ss : LL)
def pB (R : PV -> Prop) : Prop :=
 if (!on) = true then R (PV.tup [PV.agg [Zb on, PV.sl n2 f2 ss], Zb true]) else if ((↑ss.length : Int) == 1000) = true then R (PV.tup [PV.agg [Zb on, PV.sl n2 f2 ss], Zb false]) else PCall qa 26 [PV.sl n f es] fun v => ∃ n1 f1 es1, v = PV.sl n1 f1 es1 /\ (eZ ss.length none (some (↑ss.length : Int)) (some (↑ss.length : Int)) /\ bY ss 6) /\ mN (decide ((↑ss.length : Int) = (↑ss.length : Int))) (qk 0 (qar (↑ss.length : Int).toNat ss)) [[Z6 kk, Z3 kr, Zb km, PV.sl n1 f1 es1, Zb false, Z3 0]] 6 48 /\ R (PV.tup [PV.agg [Zb on, PV.sl (n2 && false) false (qk 0 (qar (↑ss.length : Int).toNat ss) ++ [[Z6 kk, Z3 kr, Zb km, PV.sl n1 f1 es1, Zb false, Z3 0]])], Zb true])
theorem tZ {R : PV -> Prop} (h : pB on kk kr km n f es n2 f2 ss R) : PCall qa 12 [.agg [.bool on, .sl n2 f2 ss], .agg [.int .i64 kk, .int .i32 kr, .bool km, .sl n f es]] R :=
 PCall.wz Try.func12 eN [0, 1, 2, 3, 4, 5, 8, 13] fH h
end
section
variable (on : Bool)  (n2 f2 : Bool) (ss : LL)
def t5 (R : PV -> Prop) : Prop :=
 PCall qa 24 [PV.sl n2 f2 ss] fun v => ∃ n f es, v = PV.sl n f es /\ R (PV.tup [PV.agg [Zb false, PV.sl true true []], PV.sl n f es])
theorem z9 {R : PV -> Prop} (h : t5 n2 f2 ss R) : PCall qa 14 [.agg [.bool on, .sl n2 f2 ss]] R :=
 PCall.wz Try.func14 eN [0, 1, 2, 3] fH h
end
def pC (n f : Bool) (es : LL) (k x6 : Int) (n_0 : Bool) (s_0 : LL) : Env × Hp := ([(0, LV.pv (PV.sl n f es)), (1, Y6 k), (5, LV.own 0), (6, Y6 x6)], [.sl (30, 4) true n_0 s_0])
section
variable (n f : Bool) (es : LL) (k : Int) (J : Int -> Bool -> LL -> Prop) (μ : Int -> Bool -> LL -> Nat)
def t6 (R : PV -> Prop) : Prop :=
 (bV (pC n f es k (0 : Int) true []) /\ J (0 : Int) true []) /\ ∀ (x6 : Int) (n_0 : Bool) (s_0 : LL), J x6 n_0 s_0 -> if (decide (x6 < (↑es.length : Int)) && decide (x6 < k)) = true then bA es x6 4 /\ ∃ n1, (es.getD x6.toNat []).head? = some (Z6 n1) /\ ∃ n2, (es.getD x6.toNat []).tail.head? = some (Z3 n2) /\ ∃ b, (es.getD x6.toNat []).tail.tail.head? = some (Zb b) /\ ∃ n3 f1 es1, (es.getD x6.toNat []).tail.tail.tail.head? = some (PV.sl n3 f1 es1) /\ PCall qa 27 [PV.sl n3 f1 es1, Z6 15] fun v => ∃ n4 f2 es2, v = PV.sl n4 f2 es2 /\ (bY [[Z6 n1, Z3 n2, Zb b, PV.sl n4 f2 es2]] 4 /\ (s_0.length + 1) * 40 <= 140737488355328) /\ bV (pC n f es k (i64.wrap (x6 + 1)) (n_0 && false) (s_0 ++ [[Z6 n1, Z3 n2, Zb b, PV.sl n4 f2 es2]])) /\ J (i64.wrap (x6 + 1)) (n_0 && false) (s_0 ++ [[Z6 n1, Z3 n2, Zb b, PV.sl n4 f2 es2]]) /\ μ (i64.wrap (x6 + 1)) (n_0 && false) (s_0 ++ [[Z6 n1, Z3 n2, Zb b, PV.sl n4 f2 es2]]) < μ x6 n_0 s_0 else R (PV.sl n_0 false s_0)
theorem zaa {R : PV -> Prop} (h : t6 n f es k J μ R) : PCall qa 11 [.sl n f es, .int .i64 k] R :=
 PCall.wz Try.func11 eN [0, 1, 4, 5, 6, 7, 16] (lz1 3 (eO cz3 (pC n f es k) J μ (fun e h => (gI e 6, oN h 0, oS h 0)) [(5, 30, 4)] [0, 1, 5, 6] [])) h
end
def pD (n f : Bool) (es : LL) (n2 f2 : Bool) (ss : LL) (x5 : Int) : Env × Hp := ([(0, LV.pv (PV.sl n f es)), (1, LV.pv (PV.sl n2 f2 ss)), (5, Y6 x5)], [])
section
variable (n f : Bool) (es : LL) (n2 f2 : Bool) (ss : LL) (J : Int -> Prop) (μ : Int -> Nat)
def t8 (R : PV -> Prop) : Prop :=
 if ((↑es.length : Int) != (↑ss.length : Int)) = true then R (Zb false) else (bV (pD n f es n2 f2 ss (0 : Int)) /\ J (0 : Int)) /\ ∀ (x5 : Int), J x5 -> if decide (x5 < (↑es.length : Int)) = true then bA es x5 4 /\ ∃ n1, (qk 0 (es.getD x5.toNat [])).head? = some (Z6 n1) /\ bA ss x5 4 /\ ∃ n3, (qk 0 (ss.getD x5.toNat [])).head? = some (Z6 n3) /\ if (n1 != n3) = true then R (Zb false) else bA es x5 4 /\ ∃ n4, (qk 1 (es.getD x5.toNat [])).head? = some (Z3 n4) /\ bA ss x5 4 /\ ∃ n5, (qk 1 (ss.getD x5.toNat [])).head? = some (Z3 n5) /\ if (n4 != n5) = true then R (Zb false) else bA es x5 4 /\ ∃ b, (qk 2 (es.getD x5.toNat [])).head? = some (Zb b) /\ bA ss x5 4 /\ ∃ b1, (qk 2 (ss.getD x5.toNat [])).head? = some (Zb b1) /\ if (b != b1) = true then R (Zb false) else bA es x5 4 /\ ∃ n6 f1 es1, (qk 3 (es.getD x5.toNat [])).head? = some (PV.sl n6 f1 es1) /\ bA ss x5 4 /\ ∃ n7 f3 es2, (qk 3 (ss.getD x5.toNat [])).head? = some (PV.sl n7 f3 es2) /\ PCall qa 10 [PV.sl n6 f1 es1, PV.sl n7 f3 es2] fun v => ∃ b2, v = Zb b2 /\ if (!b2) = true then R (Zb false) else bV (pD n f es n2 f2 ss (i64.wrap (x5 + 1))) /\ J (i64.wrap (x5 + 1)) /\ μ (i64.wrap (x5 + 1)) < μ x5 else R (Zb true)
theorem zab {R : PV -> Prop} (h : t8 n f es n2 f2 ss J μ R) : PCall qa 15 [.sl n f es, .sl n2 f2 ss] R :=
 PCall.wz Try.func15 eN [0, 1, 4, 5, 10, 14, 67] (lz1 4 (eO cz1 (pD n f es n2 f2 ss) J μ (fun e h => (((gI e 5), ()))) [] [0, 1, 5] [])) h
end
def t9  (R : PV -> Prop) : Prop :=
 ACall qa 7 [LV.pv (PV.agg [PV.nilm]), LV.pv (Z3 97), LV.pv (PV.sl false true [[Z6 1, Z3 120, Zb false, PV.sl true true [], Zb false, Z3 0], [Z6 0, Z3 0, Zb false, PV.sl true true [], Zb true, Z3 98]])] [] fun (r : LV) (h' : Hp) => ∃ (t : List (PV × PV) × Int), (r = LV.pv (PV.tup [PV.agg [PV.mp t.fst], Z6 t.2]) /\ h' = []) /\ True /\ ACall qa 7 [LV.pv (PV.agg [PV.mp t.fst]), LV.pv (Z3 98), LV.pv (PV.sl false true [[Z6 1, Z3 121, Zb false, PV.sl true true [], Zb false, Z3 0]])] [] fun (r1 : LV) (h'1 : Hp) => ∃ (t1 : List (PV × PV) × Int), (r1 = LV.pv (PV.tup [PV.agg [PV.mp t1.fst], Z6 t1.2]) /\ h'1 = []) /\ True /\ ACall qa 8 [LV.pv (PV.agg [PV.mp t1.fst]), LV.pv (Z3 97)] [] fun (r2 : LV) (h'2 : Hp) => ∃ (t2 : Bool × Bool × LL × Int), (r2 = LV.pv (PV.tup [PV.sl t2.fst t2.snd.fst t2.snd.snd.fst, Z6 t2.snd.snd.2]) /\ h'2 = []) /\ True /\ ACall qa 7 [LV.pv (PV.agg [PV.mp t1.fst]), LV.pv (Z3 98), LV.pv (PV.sl false true [[Z6 0, Z3 0, Zb false, PV.sl true true [], Zb true, Z3 97]])] [] fun (r3 : LV) (h'3 : Hp) => ∃ (t3 : List (PV × PV) × Int), (r3 = LV.pv (PV.tup [PV.agg [PV.mp t3.fst], Z6 t3.2]) /\ h'3 = []) /\ True /\ ACall qa 8 [LV.pv (PV.agg [PV.mp t3.fst]), LV.pv (Z3 97)] [] fun (r4 : LV) (h'4 : Hp) => ∃ (t4 : Bool × Bool × LL × Int), (r4 = LV.pv (PV.tup [PV.sl t4.fst t4.snd.fst t4.snd.snd.fst, Z6 t4.snd.snd.2]) /\ h'4 = []) /\ True /\ PCall qa 15 [PV.sl t2.fst t2.snd.fst t2.snd.snd.fst, PV.sl false true [[Z6 1, Z3 120, Zb false, PV.sl true true []], [Z6 1, Z3 121, Zb false, PV.sl true true []]]] fun v => ∃ b, v = Zb b /\ R (Zb (b && t2.snd.snd.2 == 0 && t4.snd.snd.2 == 6))
theorem zac  {R : PV -> Prop} (h : t9  R) : PCall qa 9 [] R :=
 PCall.wz Try.func9 (fun zz_ => match zz_ with | 7 => some ⟨List (PV × PV) × Int, fun _ hs t => (.pv (.tup [.agg [.mp t.1], .int .i64 t.2]), hs), none⟩ | 8 => some ⟨Bool × Bool × LL × Int, fun _ _ t => (.pv (.tup [.sl t.1 t.2.1 t.2.2.1, .int .i64 t.2.2.2]), []), none⟩ | _ => none) [0, 1, 2, 3, 4, 5, 6, 9] fH h

def pE  (x0 x4 x5 : Int) (h0_0 : PV) : Env × Hp := ([(0, Y6 x0), (3, LV.box 0 0), (4, Y6 x4), (5, Y6 x5)], [.box [.pv h0_0]])
section
variable (k : Int) (J : Int -> Int -> Int -> PV -> Prop) (μ : Int -> Int -> Int -> PV -> Nat)
def uA (R : PV -> Prop) : Prop :=
 ACall qa 7 [LV.pv (PV.agg [PV.nilm]), LV.pv (Z3 0), LV.pv (PV.sl false true [[Z6 1, Z3 120, Zb false, PV.sl true true [], Zb false, Z3 0]])] [] fun (r : LV) (h' : Hp) => ∃ (t : List (PV × PV) × Int), (r = LV.pv (PV.tup [PV.agg [PV.mp t.fst], Z6 t.2]) /\ h' = []) /\ True /\ (bV (pE (i64.wrap (↑(BitVec.ofInt i64.bits k &&& BitVec.ofInt i64.bits (31 : Int)).toNat : Int)) t.2 (1 : Int) (PV.mp t.fst)) /\ J (i64.wrap (↑(BitVec.ofInt i64.bits k &&& BitVec.ofInt i64.bits (31 : Int)).toNat : Int)) t.2 (1 : Int) (PV.mp t.fst)) /\ ∀ (x0 x4 x5 : Int) (h0_0 : PV), J x0 x4 x5 h0_0 -> if (decide (x5 <= x0) && x4 == 0) = true then ACall qa 7 [LV.pv (PV.agg [h0_0]), LV.pv (Z3 (i32.wrap x5)), LV.pv (PV.sl false true [[Z6 0, Z3 0, Zb false, PV.sl true true [], Zb true, Z3 (i32.wrap (i64.wrap (x5 - 1)))], [Z6 0, Z3 0, Zb false, PV.sl true true [], Zb true, Z3 (i32.wrap (i64.wrap (x5 - 1)))]])] [] fun (r1 : LV) (h'1 : Hp) => ∃ (t1 : List (PV × PV) × Int), (r1 = LV.pv (PV.tup [PV.agg [PV.mp t1.fst], Z6 t1.2]) /\ h'1 = []) /\ True /\ bV (pE x0 t1.2 (i64.wrap (x5 + 1)) (PV.mp t1.fst)) /\ J x0 t1.2 (i64.wrap (x5 + 1)) (PV.mp t1.fst) /\ μ x0 t1.2 (i64.wrap (x5 + 1)) (PV.mp t1.fst) < μ x0 x4 x5 h0_0 else if (x4 != 0) = true then R (Zb false) else ACall qa 8 [LV.pv (PV.agg [h0_0]), LV.pv (Z3 (i32.wrap x0))] [] fun (r1 : LV) (h'1 : Hp) => ∃ (t1 : Bool × Bool × LL × Int), (r1 = LV.pv (PV.tup [PV.sl t1.fst t1.snd.fst t1.snd.snd.fst, Z6 t1.snd.snd.2]) /\ h'1 = []) /\ True /\ ACall qa 7 [LV.pv (PV.agg [h0_0]), LV.pv (Z3 0), LV.pv (PV.sl true true [])] [] fun (r2 : LV) (h'2 : Hp) => ∃ (t2 : List (PV × PV) × Int), (r2 = LV.pv (PV.tup [PV.agg [PV.mp t2.fst], Z6 t2.2]) /\ h'2 = []) /\ True /\ ACall qa 8 [LV.pv (PV.agg [PV.mp t2.fst]), LV.pv (Z3 31)] [] fun (r3 : LV) (h'3 : Hp) => ∃ (t3 : Bool × Bool × LL × Int), (r3 = LV.pv (PV.tup [PV.sl t3.fst t3.snd.fst t3.snd.snd.fst, Z6 t3.snd.snd.2]) /\ h'3 = []) /\ True /\ if (x0 == 31 && ((↑t3.snd.snd.fst.length : Int) != 0 || t3.snd.snd.2 != 7)) = true then R (Zb false) else if decide (x0 > 12) = true then if ((↑t1.snd.snd.fst.length : Int) == 0 && t1.snd.snd.2 == 7) = true then PCall qa 9 [] fun v => ∃ b, v = Zb b /\ R (Zb b) else R (Zb false) else (0 : Int) <= x0 /\ if ((↑t1.snd.snd.fst.length : Int) == i64.wrap ((1 : Int) * 2 ^ min x0.toNat 64) && t1.snd.snd.2 == 0) = true then bA t1.snd.snd.fst (0 : Int) 4 /\ ∃ n, (qk 1 (t1.snd.snd.fst.getD 0 [])).head? = some (Z3 n) /\ PCall qa 10 [PV.sl false true [[Z3 n]], PV.sl false true [[Z3 120]]] fun v => ∃ b, v = Zb b /\ if b = true then PCall qa 9 [] fun v1 => ∃ b1, v1 = Zb b1 /\ R (Zb b1) else R (Zb false) else R (Zb false)
theorem zad {R : PV -> Prop} (h : uA k J μ R) : PCall qa 3 [.int .i64 k] R :=
 PCall.wz Try.func3 (fun zz_ => match zz_ with | 7 => some ⟨List (PV × PV) × Int, fun _ hs t => (.pv (.tup [.agg [.mp t.1], .int .i64 t.2]), hs), none⟩ | 8 => some ⟨Bool × Bool × LL × Int, fun _ _ t => (.pv (.tup [.sl t.1 t.2.1 t.2.2.1, .int .i64 t.2.2.2]), []), none⟩ | _ => none) [0, 2, 3, 4, 5, 6, 7, 8, 10, 11, 28, 48, 76, 78] (lz1 5 (eO cz4 pE J μ (fun e h => (gI e 0, gI e 4, gI e 5, hP h 0 0)) [] [0, 3, 4, 5] [])) h
end
end Go.Eng
namespace Go.Eng
open Go Go.Proofs Go.Eng.Rows
theorem uB (a : List Int) : bY (bW a) 1 := tC (enc := fun n => [PV.int .i32 n]) (fun _ => rfl) a
theorem zae {l : List Int} {i : Int} (h0 : 0 <= i) (hi : i.toNat < l.length) : bA (bW l) i 1 /\ (bW l).getD i.toNat [] = [.int .i32 l[i.toNat]] :=
 ⟨dM (enc := fun n => [PV.int .i32 n]) (fun _ => rfl) h0 (by omega), dA hi⟩
theorem uC {α : Type} {l : List α} {i : Nat} (h : i < l.length) : l.take (i + 1) = l.take i ++ [l[i]] := by
 rw [List.take_add_one, qq h]; rfl
theorem fK {i : Nat} (h : i < 1000000000000) : i64.wrap ((i : Int) + 1) = ((i + 1 : Nat) : Int) := by rw [gE (by omega) (by omega)]; omega
theorem PCall.empty {P : Program} {f : Nat} {args args' : List PV} {Q Q' : PV -> Prop} (h : PCall P f args' Q') {k : Nat} {fl : Bool} {es : List (List PV)} (hk : args[k]? = some (.sl true fl es)) (hne : es ≠ []) : PCall P f args Q :=
 ⟨h.1, fun w I G cargs _ _ h3 => by
  have := h3 k (.pv (.sl true fl es)) (by rw [qat, hk]; rfl);generalize cargs.getD k undef = c at this;cases this with
  | pv _ _ h =>
    generalize hx : es = xs at h;cases h with
    | slnil => exact absurd hx hne⟩
theorem pF (n f : Bool) (l : List Int) (hl : l.length < 1000000000000) : PCall qa 26 [.sl n f (bW l)] fun x => ∃ n f, x = .sl n f (bW l) := by
 have hc : PCall qa 26 [.sl false f (bW l)] fun x => ∃ n f, x = .sl n f (bW l) := by
  refine tS _ _ _ ?_; unfold o8;exact ⟨⟨rfl, .inl rfl, fun e he => (by cases he), uB _, by simp only [qp, lO]; omega⟩, _, _, rfl⟩
 cases n with
 | false => exact hc
 | true =>
   by_cases h : l = []
   ·subst h;refine tS _ _ _ ?_; unfold o8;exact ⟨_, _, rfl⟩
   ·exact PCall.empty hc (k := 0) rfl (fun e => h (by cases l with | nil => rfl | cons a b => cases e))
theorem zaf (n f : Bool) (l : List Int) (k : Nat) (hk : k < 1000) : PCall qa 27 [.sl n f (bW l), .int .i64 k] fun v => ∃ n f, v = .sl n f (bW (l.take k)) := by
 refine z0 _ _ _ _ ?_; unfold tT;refine cW (fun hc => ?_) (fun hc => ?_)
 ·simp only [a9, lO] at hc;refine ⟨⟨by unfold eZ; simp; omega, uB _⟩, n, _, by rw [show ((k : Int)).toNat = k by omega]; simp only [bW, List.map_take, qbb]; rfl⟩
 ·simp only [a9, lO] at hc;rw [qr (by omega)];exact ⟨_, _, rfl⟩
theorem uD (n f n2 f2 : Bool) (l : List Int) (hl : l.length < 1000000000000) : PCall qa 10 [.sl n f (bW l), .sl n2 f2 (bW l)] fun v => v = .bool true := by
 refine z3 _ _ _ _ _ _ (fun i => 0 <= i /\ i <= l.length) (fun i => l.length - i.toNat) ?_;unfold tU;rw [if_neg (by simp)];refine ⟨⟨rfl, qaw _, by omega⟩, ?_⟩;rintro i ⟨i0, i1⟩;refine cW (fun h => ?_) (fun h => rfl);simp only [a9, lO] at h;have hi : i.toNat < l.length := by omega
 obtain ⟨g1, g2⟩ := zae i0 hi;have hw : i64.wrap (i + 1) = i + 1 := gE (by omega) (by omega);refine ⟨g1, l[i.toNat], by rw [g2]; rfl, g1, l[i.toNat], by rw [g2]; rfl, ?_⟩;rw [if_neg (by simp), hw];exact ⟨rfl, ⟨by omega, by omega⟩, by dsimp only; omega⟩
def aZ (k : MKey) : Prop := k.text.length < 1000000
theorem fL (x : GKey) : (aR x).length = 4 := rfl
theorem uE (x : GS) : (encGS x).length = 6 := rfl
theorem uF (n f n2 f2 : Bool) (A B : List GKey) (h : A.map (·.2.2) = B.map (·.2.2)) (hk : ∀ x ∈ A, aZ x.2.2) (hl : A.length < 1000000000) : PCall qa 15 [.sl n f (A.map aR), .sl n2 f2 (B.map aR)] fun v => v = .bool true := by
 have hlen : A.length = B.length := by have := congrArg qo h; simpa using this
 have la : (A.map aR).length = A.length := qc _;have lb : (B.map aR).length = B.length := qc _;refine zab _ _ _ _ _ _ (fun x => ∃ i : Nat, x = i /\ i <= A.length) (fun x => A.length - x.toNat) ?_;unfold t8;rw [la, lb, if_neg (by simp; omega)];refine ⟨⟨rfl, 0, rfl, qn _⟩, ?_⟩;rintro _ ⟨i, rfl, hi⟩;refine cW (fun hc => ?_) (fun hc => rfl);simp only [a9] at hc;have h1 : i < A.length := by omega
 have h2 : i < B.length := by omega
 have e : A[i].2.2 = B[i].2.2 := by
  have := congrArg (fun l => l[i]?) h;simpa [h1, h2] using this
 rw [qf, dA h1, dA h2, fK (by omega)];have ia : bA (A.map aR) (i : Int) 4 := dM (l := A) fL (by omega) (by omega);have ib : bA (B.map aR) (i : Int) 4 := dM (l := B) fL (by omega) (by omega);refine ⟨ia, _, rfl, ib, _, rfl, bQ (by rw [e]; simp) ⟨ia, _, rfl, ib, _, rfl, bQ (by rw [e]; simp) ⟨ia, _, rfl, ib, _, rfl, bQ (by rw [e]; simp) ⟨ia, _, _, _, rfl, ib, _, _, _, rfl, ?_⟩⟩⟩⟩;rw [e];refine (uD _ _ _ _ _ (by have := hk _ (qx h1); rw [e] at this; unfold aZ at this; omega)).mono ?_;rintro _ rfl;refine ⟨_, rfl, bQ (by simp) ⟨rfl, ⟨i + 1, rfl, h1⟩, by dsimp only; omega⟩⟩
theorem pG (n f : Bool) (L : List GS) (hl : L.length < 100000) (hk : ∀ x ∈ L, aZ x.2.2.key) : PCall qa 24 [.sl n f (L.map encGS)] fun v => ∃ (n' f' : Bool) (L' : List GS), v = .sl n' f' (L'.map encGS) /\ L'.map (·.2.2) = L.map (·.2.2) := by
 have ll : (L.map encGS).length = L.length := qc _;refine z5 _ _ _ (fun x n' s => ∃ (i : Nat) (L' : List GS), x = i /\ i <= L.length /\ s = L'.map encGS /\ L'.map (·.2.2) = (L.map (·.2.2)).take i) (fun x _ _ => L.length - x.toNat) ?_;unfold tV;rw [ll];refine ⟨⟨by omega, by omega, by omega, by omega⟩, ⟨rfl, 0, [], rfl, qn _, rfl, rfl⟩, ?_⟩;rintro _ n' _ ⟨i, L', rfl, hi, rfl, hL⟩;refine cW (fun hc => ?_) (fun hc => ?_)
 ·simp only [a9] at hc;have h1 : i < L.length := by omega
  have hl' : L'.length = i := by have := congrArg qo hL; simp at this; omega
  rw [qf, dA h1, fK (by omega)];refine ⟨dM (l := L) uE (by omega) (by omega), _, rfl, _, rfl, _, rfl, _, _, _, rfl, _, rfl, _, rfl, ?_⟩;refine (pF _ _ _ (by have := hk _ (qx h1); unfold aZ at this; omega)).mono ?_;rintro _ ⟨n1, f1, rfl⟩;refine ⟨_, _, _, rfl, ⟨fun e he => by cases he; rfl, by simp only [qc]; omega⟩, rfl, ⟨i + 1, L' ++ [(n1, f1, L[i].2.2)], rfl, h1, by rw [qm]; rfl, ?_⟩, by dsimp only; omega⟩;rw [qm, hL, uC (by simpa using h1)]
  simp
 ·simp only [a9] at hc;refine ⟨_, _, L', rfl, ?_⟩;rw [hL, qr (by simp; omega)]
theorem zag (kvs : List (PV × PV)) : ACall qa 23 [.pv (.mp kvs)] [] fun r h' => r = .mp 0 /\ h' = [.mp kvs] := by
 refine ⟨⟨_, Try.func23, by kernel_rfl, by kernel_rfl⟩, fun w I G cargs hh hsz hrel => ?_⟩;have h0 := hrel 0 _ rfl;obtain ⟨l⟩ := cargs
 match l, hsz with
 | [c], _ =>
   have h0 : LRel w I G [] (.pv (.mp kvs)) c := h0;cases h0 with
   | pv _ _ h =>
     cases h with
     | mp _ b ck es h3 h4 h1 h5 h6 =>
       refine (AnyW.maps_Clone Try.cloneM b es ck w h4).mono ?_;rintro e w' ⟨rfl, rfl⟩;have hk : Keeps w I (w.alloc (.map es ck)) I := .alloc w I I _ fun _ x => x;have hp := hh.push (.map es ck) (.mp kvs) ⟨w.heap.size, 0, 0, 0⟩ rfl ⟨es, ck, fR w _, h1, fun i kv hi => ⟨(h5 i kv hi).mono hk.1 hk.2, (h6 i kv hi).mono hk.1 hk.2⟩⟩;refine ⟨_, .mp 0, _, I, _, rfl, ⟨rfl, rfl⟩, hp, ?_, TrH.push (.map es ck) (.mp kvs) ⟨w.heap.size, 0, 0, 0⟩ rfl⟩;have := LRel.mp (w := w.alloc (.map es ck)) (I := I) (G := aD G 0 ⟨w.heap.size, 0, 0, 0⟩) (h := [.mp kvs]) 0 kvs rfl;simpa [aD] using this
theorem aCloneN : ACall qa 23 [.pv .nilm] [] fun r h' => r = .pv .nilm /\ h' = [] := by
 refine ⟨⟨_, Try.func23, by kernel_rfl, by kernel_rfl⟩, fun w I G cargs hh hsz hrel => ?_⟩;have h0 := hrel 0 _ rfl;obtain ⟨l⟩ := cargs
 match l, hsz with
 | [c], _ =>
   have h0 : LRel w I G [] (.pv .nilm) c := h0;cases h0 with
   | pv _ _ h =>
     cases h;refine (AnyW.maps_Clone_nil Try.cloneM w).mono ?_;rintro e w' ⟨rfl, rfl⟩;exact ⟨_, _, _, I, G, rfl, ⟨rfl, rfl⟩, hh, .pv _ _ .nilm, TrH.refl _ _ _ _⟩
theorem PCall.acall {P : Program} {f : Nat} {ps : List PV} {Q : PV -> Prop} (hc : PCall P f ps Q) : ACall P f (ps.map .pv) [] fun r h' => ∃ v, r = .pv v /\ h' = [] /\ Q v :=
 ⟨hc.1, fun w I G cargs h1 h2 h3 => (hc.2 w I G cargs h1 h2 h3).mono fun e w' ⟨cv, r, h', I', G', e1, ⟨v, hr, hq⟩, e3, e4, e5⟩ => by
  subst hr;refine ⟨cv, .pv v, [], I', G', e1, ⟨v, rfl, rfl, hq⟩, HRel.nil G' e3.cl, ?_, ⟨e5.t.trans (Tr.less fun b ⟨o, ob, ho, _⟩ => by simp at ho), qd _, fun o ob' ho => by simp at ho⟩⟩
  cases e4 with | pv _ _ h => exact .pv _ _ h⟩
abbrev GE := Bool × Bool × List GS
def BTx (B : GB) : Prop := ∀ p ∈ B, ∀ x ∈ p.2.2.2, aZ x.2.2.key
theorem pH {nm : Int} {y : GE} : ∀ {B : GB} {p : Int × GE}, p ∈ aF nm y B -> p = (nm, y) ∨ p ∈ B
 | [], p, h => by simp [aF] at h; exact .inl h
 | (k, z) :: r, p, h => by
   simp only [aF] at h;split at h
   ·rcases List.mem_cons.1 h with h | h
    ·exact .inl h
    ·exact .inr (qg _ h)
   ·rcases List.mem_cons.1 h with h | h
    ·exact .inr (by rw [h]; exact qj)
    ·exact (pH h).imp id (qg _)
theorem pI {nm : Int} {y : GE} : ∀ {B : GB}, aU nm B = some y -> (nm, y) ∈ B
 | (k, z) :: r, h => by
   simp only [aU] at h;split at h
   ·rename_i e; cases h; rw [e]; exact qj
   ·exact qg _ (pI h)
theorem BkOK.set {B : GB} {nm : Int} {y : GE} (hB : BkOK B) (hy : y.2.2.length <= 1000) : BkOK (aF nm y B) := fun p hp => (pH hp).elim (fun e => by rw [e]; exact hy) (hB p)
theorem BTx.set {B : GB} {nm : Int} {y : GE} (hB : BTx B) (hy : ∀ x ∈ y.2.2, aZ x.2.2.key) : BTx (aF nm y B) := fun p hp => (pH hp).elim (fun e => by rw [e]; exact hy) (hB p)
theorem pJ {α β : Type} {f : α -> β} {P : β -> Prop} {l m : List α} (h : l.map f = m.map f) (hm : ∀ x ∈ m, P (f x)) : ∀ x ∈ l, P (f x) := fun x hx => by
 have : f x ∈ m.map f := h ▸ qab hx;obtain ⟨y, hy, e⟩ := List.mem_map.1 this;rw [<- e]; exact hm y hy
theorem lZ (B : GB) (nm : Int) (n f : Bool) (L : List GS) (hl : L.length <= 1000) (hk : ∀ x ∈ L, aZ x.2.2.key) (hf : (aU nm B).isSome = true ∨ B.length ≠ 100) : PCall qa 7 [.agg [.mp (bK B)], .int .i32 nm, .sl n f (L.map encGS)] fun v =>
 ∃ y : GE, v = .tup [.agg [.mp (bK (aF nm y B))], .int .i64 0] /\ y.2.2.map (·.2.2) = L.map (·.2.2) := by
 refine z6 _ _ _ _ _ ?_;unfold tW;have ll : (L.map encGS).length = L.length := qc _;have lb : (bK B).length = B.length := yM B;rw [ll, lb]
 have rest : ACall qa 23 [LV.pv (PV.mp (bK B))] [] fun (r : LV) (h' : Hp) => ∃ (t : Unit), (r = LV.mp 0 /\ h' = [Ob.mp (bK B)]) /\ True /\ PCall qa 24 [PV.sl n f (L.map encGS)] fun (v1 : PV) => ∃ (n2 : Bool), ∃ (f2 : Bool), ∃ (es2 : List (List PV)), v1 = PV.sl n2
  f2 es2 /\ fA .i32 (bK B) /\ ∃ y : GE, PV.tup [PV.agg [PV.mp (cU (.int .i32 nm) (PV.sl n2 f2 es2) (bK B))], .int .i64 0] = .tup [.agg [.mp (bK (aF nm y B))], .int .i64 0] /\ y.2.2.map (·.2.2) = L.map (·.2.2) := by
  refine (zag _).mono ?_;rintro r h' ⟨rfl, rfl⟩;refine ⟨(), ⟨rfl, rfl⟩, trivial, (pG n f L (by omega) hk).mono ?_⟩;rintro _ ⟨n2, f2, L', rfl, hL⟩;refine ⟨n2, f2, _, rfl, oT _, (n2, f2, L'), ?_, hL⟩;rw [show cU (.int .i32 nm) (PV.sl n2 f2 (L'.map encGS)) (bK B) = bK (aF nm (n2, f2, L') B) from yO (ek := fun n => .int .i32 n) (ev := fun (x : GE) => .sl x.1 x.2.1 (x.2.2.map encGS)) (fun a b => tE _ a b) nm (n2, f2, L') B]
 refine ⟨oT _, fun v hv => ?_, fun hv => ?_⟩
 ·rw [lX] at hv;cases hy : aU nm B with
  | none => rw [hy] at hv; cases hv
  | some y =>
    rw [hy] at hv; cases hv;exact ⟨_, _, _, rfl, bQ (by simp only [a9]; omega) rest⟩
 ·rw [lX] at hv;cases hy : aU nm B with
  | some y => rw [hy] at hv; cases hv
  | none =>
    rw [hy] at hf;have hne : B.length ≠ 100 := hf.resolve_left (by simp);exact bQ (by simp only [a9]; omega) (bQ (by simp only [beq_iff_eq]; omega) rest)
theorem pK (nm : Int) (n f : Bool) (L : List GS) (hl : L.length <= 1000) (hk : ∀ x ∈ L, aZ x.2.2.key) : PCall qa 7 [.agg [.nilm], .int .i32 nm, .sl n f (L.map encGS)] fun v =>
 ∃ y : GE, v = .tup [.agg [.mp (bK (aF nm y []))], .int .i64 0] /\ y.2.2.map (·.2.2) = L.map (·.2.2) := by
 refine z7 _ _ _ _ ?_;unfold tX;have ll : (L.map encGS).length = L.length := qc _;rw [ll];refine ⟨(fun kv h => by cases h), ?_⟩;refine ⟨fun v hv => (by cases hv), fun _ => ?_⟩;refine bQ (by simp only [a9]; omega) (aCloneN.mono ?_);rintro r h' ⟨rfl, rfl⟩;refine ⟨(), ⟨rfl, rfl⟩, trivial, (pG n f L (by omega) hk).mono ?_⟩;rintro _ ⟨n2, f2, L', rfl, hL⟩;exact ⟨n2, f2, _, rfl, (fun kv h => by cases h), (n2, f2, L'), rfl, hL⟩
theorem pL {P : MKey -> Prop} {f : Int -> MW -> Except Int MW} (hf : ∀ nm w w', f nm w = .ok w' -> (∀ k ∈ w.1, P k) -> ∀ k ∈ w'.1, P k) : ∀ {l : List MStep} {w w' : MW}, (∀ x ∈ l, P x.key) -> (∀ k ∈ w.1, P k) -> bN f l w = .ok w' -> ∀ k ∈ w'.1, P k
 | [], w, w', _, hw, h => by cases h; exact hw
 | x :: l, w, w', hl, hw, h => by
   rw [o6] at h;split at h
   ·cases h
   ·split at h
    ·split at h
     ·rename_i w2 h2;exact pL hf (fun y hy => hl y (qg _ hy)) (hf _ _ _ h2 hw) h
     ·cases h
    ·refine pL hf (fun y hy => hl y (qg _ hy)) (fun k hk => ?_) h;rcases List.mem_append.1 hk with hk | hk
     ·exact hw k hk
     ·rw [List.mem_singleton.1 hk]; exact hl x qj
theorem uG {P : MKey -> Prop} {b : Bk} (hb : ∀ nm l, bD b nm = some l -> ∀ x ∈ l, P x.key) : ∀ (d : Nat) (op : List Int) (nm : Int) (w w' : MW), aY b d op nm w = .ok w' -> (∀ k ∈ w.1, P k) -> ∀ k ∈ w'.1, P k
 | 0, op, nm, w, w', h, hw => by cases h
 | d + 1, op, nm, w, w', h, hw => by
   rw [aY] at h;split at h
   ·cases h
   ·rename_i l hl;split at h
    ·cases h
    ·exact pL (fun nm w w' h hw => uG hb d _ nm w w' h hw) (hb nm l hl) hw h
theorem BTx.find {B : GB} (hB : BTx B) (nm : Int) (l : List MStep) (h : bD (aH B) nm = some l) : ∀ x ∈ l, aZ x.key := by
 rw [eP] at h;cases hy : aU nm B with
 | none => rw [hy] at h; cases h
 | some y =>
   rw [hy] at h; cases h;intro x hx;obtain ⟨z, hz, rfl⟩ := List.mem_map.1 hx;exact hB _ (pI hy) z hz
def uH : Except Int MW -> Int -> List GKey -> Prop
 | .ok w, r, Q => r = 0 /\ Q.map (·.2.2) = w.1
 | .error e, r, Q => r = e /\ e ≠ 0 /\ Q = []
def cO (b : Bk) (nm : Int) : Except Int MW := aY b (b.length + 1) [] nm ([], 0)
theorem zah (q : GKey) (n f : Bool) : bC (aR q) 3 [PV.sl n f (bW q.2.2.text)] = aR (n, f, q.2.2) := rfl
theorem jV {B : GB} (hB : BkOK B) (hT : BTx B) (nm : Int) : PCall qa 8 [.agg [.mp (bK B)], .int .i32 nm] fun v => ∃ (n f : Bool) (Q : List GKey) (r : Int), v = .tup [.sl n f (Q.map aR), .int .i64 r] /\ uH (cO (aH B) nm) r Q := by
 refine zX _ _ (fun x y _ _ s => ∃ (i : Nat) (Q : List GKey), x = Q.length /\ y = i /\ i <= Q.length /\ s = Q.map aR /\ Q.length < 100000 /\ (∀ q ∈ Q, aZ q.2.2) /\ uH (cO (aH B) nm) 0 Q) (fun x y _ _ _ => (x - y).toNat) ?_;unfold tR;refine (zZ hB nm).mono ?_;rintro r h' ⟨⟨r0, nl, T⟩, ⟨rfl, rfl⟩, n', Q, hT', hres⟩;dsimp only at hT' hres;subst hT';refine ⟨(r0, nl, Q.map aR), ⟨rfl, rfl⟩, ⟨trivial, trivial, trivial⟩, ?_⟩;have hlen : (aH B).length = B.length := by simp [aH]
 have hX : aY (aH B) (B.length + 1) [] nm ([], 0) = cO (aH B) nm := by unfold cO; rw [hlen]
 rw [hX] at hres;have hlq : (Q.map aR).length = Q.length := qc _;dsimp only;cases hx : cO (aH B) nm with
 | error e =>
   rw [hx] at hres;obtain ⟨rfl, he⟩ := hres;exact gH (by simpa using he) ⟨true, true, [], _, rfl, rfl, he, rfl⟩
 | ok w =>
   rw [hx] at hres;obtain ⟨rfl, rfl, h1, h2, h3⟩ := hres;rw [if_neg (by simp), hlq]
   have hkq : ∀ q ∈ Q, aZ q.2.2 := fun q hq => by
    refine uG (P := aZ) hT.find _ _ _ _ w hx (by simp) q.2.2 ?_;rw [<- h1]; exact qab hq
   refine ⟨⟨rfl, 0, Q, rfl, rfl, qn _, rfl, by omega, hkq, rfl, h1⟩, ?_⟩;rintro _ _ _ nn _ ⟨i, K, rfl, rfl, hi, rfl, hK, hKT, hKr⟩;refine cW (fun hc => ?_) (fun hc => ⟨_, _, K, 0, rfl, hKr⟩);simp only [a9] at hc;have h1 : i < K.length := by omega
   have ix : bA (K.map aR) (i : Int) 4 := dM (l := K) fL (by omega) (by omega);rw [qf, dA h1, fK (by omega)];refine ⟨ix, _, _, _, rfl, (pF _ _ _ (by have := hKT _ (qx h1); unfold aZ at this; omega)).mono ?_⟩;rintro _ ⟨n1, f1, rfl⟩
   have hm : (K.set i (n1, f1, K[i].2.2)).map (·.2.2) = K.map (·.2.2) := by
    rw [List.map_set];have e : K[i].2.2 = (K.map (·.2.2))[i]'(by simpa using h1) := by simp
    show (K.map (·.2.2)).set i K[i].2.2 = _;rw [e];exact List.set_getElem_self _
   refine ⟨_, _, _, rfl, ix, ⟨rfl, qd 4⟩, ?_⟩;rw [zah, <- List.map_set];refine ⟨rfl, ⟨i + 1, _, by simp, rfl, by rw [List.length_set]; omega, rfl, by simpa using hK, pJ hm hKT, ?_⟩, by omega⟩
   exact ⟨rfl, hm.trans hKr.2⟩
theorem dN (B : GB) (nm : Int) (y : GE) (x : Int) : bD (aH (aF nm y B)) x = if x = nm then some (y.2.2.map (·.2.2)) else bD (aH B) x := by
 rw [eP, eP, oR];split <;> rfl
theorem l3 (B : GB) : (aH B).length = B.length := by simp [aH]
theorem jW {nm : Int} {y : GE} {B : GB} (h : aU nm B = none) : (aF nm y B).length = B.length + 1 := by
 have := congrArg qo (lP nm y B);rw [qc, if_neg (tD.1 h)] at this;simpa using this
theorem eR {L : List GS} {l : List MStep} (h : L.map (·.2.2) = l) (hl : ∀ x ∈ l, aZ x.key) : ∀ x ∈ L, aZ x.2.2.key := fun x hx => hl _ (h ▸ qab hx)
theorem gK {L : List GS} {l : List MStep} (h : L.map (·.2.2) = l) : L.length = l.length := by rw [<- h]; simp
def kX : MKey := ⟨1, 120, false, []⟩
def kY : MKey := ⟨1, 121, false, []⟩
def cK (nm : Int) : MStep := ⟨⟨0, 0, false, []⟩, true, nm⟩
def st46 (k : MKey) : MStep := ⟨k, false, 0⟩
def fM (s : MStep) : GS := (true, true, s)
theorem uI {b c : Bk} (h : ∀ x, bD b x = bD c x) (hl : b.length = c.length) (nm : Int) : cO b nm = cO c nm := by
 unfold cO; rw [hl]; exact tK h _ _ _ _
theorem dO {k : MKey} (h : k.text = []) : aZ k := by unfold aZ; rw [h]; decide
theorem awake46 : PCall qa 9 [] fun v => v = .bool true := by
 refine zac ?_;unfold t9;refine ((pK 97 false true [fM (st46 kX), fM (cK 98)] (by decide) (by intro x hx; simp at hx; rcases hx with rfl | rfl <;> exact dO rfl)).acall).mono ?_;rintro _ _ ⟨_, rfl, rfl, y1, rfl, h1⟩;refine ⟨(_, _), ⟨rfl, rfl⟩, trivial, ?_⟩;refine ((lZ (aF 97 y1 []) 98 false true [fM (st46 kY)] (by decide) (by intro x hx; simp at hx; subst hx; exact dO rfl) (.inr (by rw [jW rfl]; decide))).acall).mono ?_;rintro _ _ ⟨_, rfl, rfl, y2, rfl, h2⟩;refine ⟨(_, _), ⟨rfl, rfl⟩, trivial, ?_⟩;have f1 : ∀ x, bD (aH (aF 97 y1 [])) x = if x = 97 then some [st46 kX, cK 98] else none := fun x => by rw [dN, h1]; rfl
 have f2 : ∀ x, bD (aH (aF 98 y2 (aF 97 y1 []))) x = if x = 98 then some [st46 kY] else if x = 97 then some [st46 kX, cK 98] else none := fun x => by rw [dN, h2, f1]; rfl
 have l1 : (aF 97 y1 ([] : GB)).length = 1 := by rw [jW rfl]; rfl
 have l2 : (aF 98 y2 (aF 97 y1 ([] : GB))).length = 2 := by
  rw [jW, l1];have := f1 98; rw [eP] at this;cases h : aU 98 (aF 97 y1 ([] : GB)) with
  | none => rfl
  | some y => rw [h] at this; simp at this
 have b1 : BkOK (aF 98 y2 (aF 97 y1 [])) := (BkOK.set (BkOK.set (fun p h => by cases h) (by rw [gK h1]; decide)) (by rw [gK h2]; decide));have t1 : BTx (aF 98 y2 (aF 97 y1 [])) := (BTx.set (BTx.set (fun p h => by cases h) (eR h1 (by intro x hx; simp at hx; rcases hx with rfl | rfl <;> exact dO rfl))) (eR h2 (by intro x hx; simp at hx; subst hx; exact dO rfl)))
 have x1 : cO (aH (aF 98 y2 (aF 97 y1 []))) 97 = .ok ([kX, kY], 3) :=
  (uI (c := [(98, [st46 kY]), (97, [st46 kX, cK 98])]) (fun x => by rw [f2]; simp only [bD, eq_comm]) (by rw [l3, l2]; rfl) 97).trans rfl
 refine ((jV b1 t1 97).acall).mono ?_;rintro _ _ ⟨_, rfl, rfl, n3, f3, Q, r, rfl, hr⟩;rw [x1] at hr;obtain ⟨rfl, hQ⟩ := hr;refine ⟨(_, _, _, _), ⟨rfl, rfl⟩, trivial, ?_⟩;refine ((lZ (aF 98 y2 (aF 97 y1 [])) 98 false true [fM (cK 97)] (by decide) (by intro x hx; simp at hx; subst hx; exact dO rfl) (.inr (by rw [l2]; decide))).acall).mono ?_;rintro _ _ ⟨_, rfl, rfl, y3, rfl, h3⟩;refine ⟨(_, _), ⟨rfl, rfl⟩, trivial, ?_⟩
 have f4 : ∀ x, bD (aH (aF 98 y3 (aF 98 y2 (aF 97 y1 [])))) x = if x = 98 then some [cK 97] else if x = 97 then some [st46 kX, cK 98] else none := fun x => by
  rw [dN, h3, f2]; by_cases e : x = 98 <;> simp [e, fM]
 have l4 : (aF 98 y3 (aF 98 y2 (aF 97 y1 ([] : GB)))).length = 2 := by
  have := congrArg qo (lP 98 y3 (aF 98 y2 (aF 97 y1 ([] : GB))));rw [qc, if_pos (yP.2 (.inr rfl)), qc, l2] at this;exact this
 have x2 : cO (aH (aF 98 y3 (aF 98 y2 (aF 97 y1 [])))) 97 = .error 6 :=
  (uI (c := [(98, [cK 97]), (97, [st46 kX, cK 98])]) (fun x => by rw [f4]; simp only [bD, eq_comm]) (by rw [l3, l4]; rfl) 97).trans rfl
 refine ((jV (b1.set (nm := 98) (y := y3) (by rw [gK h3]; decide)) (t1.set (nm := 98) (y := y3) (eR h3 (by intro x hx; simp at hx; subst hx; exact dO rfl))) 97).acall).mono ?_;rintro _ _ ⟨_, rfl, rfl, n5, f5, Q5, r5, rfl, hr5⟩;rw [x2] at hr5;obtain ⟨rfl, _, rfl⟩ := hr5;refine ⟨(_, _, _, _), ⟨rfl, rfl⟩, trivial, ?_⟩;refine (uF n3 f3 false true Q [(true, true, kX), (true, true, kY)] hQ (by have := pJ (P := aZ) (m := [((true, true, kX) : GKey), (true, true, kY)]) hQ (by intro x hx; simp at hx; rcases hx with rfl | rfl <;> exact dO rfl); exact this) (by have := congrArg qo hQ; simp at this; omega)).mono ?_;rintro _ rfl;exact ⟨_, rfl, rfl⟩
theorem zai (k : Int) : ∃ n : Nat, n <= 31 /\ i64.wrap ((BitVec.ofInt i64.bits k &&& BitVec.ofInt i64.bits (31 : Int)).toNat : Int) = n := by
 have h : (BitVec.ofInt i64.bits k &&& BitVec.ofInt i64.bits (31 : Int)).toNat <= 31 := by
  rw [BitVec.toNat_and];refine qaq Nat.and_le_right ?_;decide
 exact ⟨_, h, gE (by omega) (by omega)⟩
structure GrowB (B : GB) (i : Nat) : Prop where
 bk : BkOK B
 tx : BTx B
 len : B.length = i
 zero : bD (aH B) 0 = some [st46 kX]
 up : ∀ j : Nat, 1 <= j -> j < i -> bD (aH B) j = some [cK ((j - 1 : Nat) : Int), cK ((j - 1 : Nat) : Int)]
 no : ∀ x : Int, (i : Int) <= x -> bD (aH B) x = none
theorem zaj {B : GB} {x : Int} (h : bD (aH B) x = none) : aU x B = none := by
 rw [eP] at h;cases e : aU x B with
 | none => rfl
 | some y => rw [e] at h; cases h
theorem GrowB.more {B : GB} {i : Nat} (h : GrowB B i) (hi : 1 <= i) {y : GE} (hy : y.2.2.map (·.2.2) = [cK ((i - 1 : Nat) : Int), cK ((i - 1 : Nat) : Int)]) : GrowB (aF i y B) (i + 1) := by
 have hn := zaj (h.no i (qaw _));refine ⟨h.bk.set (by rw [gK hy]; simp), h.tx.set (eR hy (by intro x hx; simp at hx; subst hx; exact dO rfl)), by rw [jW hn, h.len], ?_, fun j h1 h2 => ?_, fun x hx => ?_⟩
 ·rw [dN, if_neg (by omega)]; exact h.zero
 ·rw [dN];by_cases e : j = i
  ·subst e; rw [if_pos rfl, hy]
  ·rw [if_neg (by omega)]; exact h.up j h1 (by omega)
 ·rw [dN, if_neg (by omega)]; exact h.no x (by omega)
theorem GrowB.grows {B : GB} {n : Nat} (h : GrowB B (n + 1)) : oY (aH B) [kX] n := ⟨h.zero, fun i hi => ⟨_, _, h.up (i + 1) (by omega) (by omega), ⟨rfl, rfl⟩, ⟨rfl, rfl⟩⟩⟩
theorem zak (k : Int) : PCall qa 3 [.int .i64 k] fun v => v = .bool true := by
 obtain ⟨n, hn, hw⟩ := zai k;refine zad _ (fun x y z p => x = n /\ y = 0 /\ ∃ (i : Nat) (B : GB), z = i /\ p = .mp (bK B) /\ 1 <= i /\ i <= n + 1 /\ GrowB B i) (fun _ _ z _ => 40 - z.toNat) ?_;unfold uA;rw [hw];refine ((pK 0 false true [fM (st46 kX)] (by decide) (by intro x hx; simp at hx; subst hx; exact dO rfl)).acall).mono ?_;rintro _ _ ⟨_, rfl, rfl, y0, rfl, h0⟩;refine ⟨(_, _), ⟨rfl, rfl⟩, trivial, ?_⟩
 have g1 : GrowB (aF 0 y0 []) 1 := by
  refine ⟨BkOK.set (fun p h => by cases h) (by rw [gK h0]; decide), BTx.set (fun p h => by cases h) (eR h0 (by intro x hx; simp at hx; subst hx; exact dO rfl)), by rw [jW rfl]; rfl, ?_, fun j h1 h2 => by omega, fun x hx => ?_⟩
  ·rw [dN, if_pos rfl, h0]; rfl
  ·rw [dN, if_neg (by omega)]; rfl
 refine ⟨⟨rfl, rfl, rfl, 1, _, rfl, rfl, qd _, by omega, g1⟩, ?_⟩;rintro _ _ _ _ ⟨rfl, rfl, i, B, rfl, rfl, hi1, hi2, hB⟩;refine cW (fun hc => ?_) (fun hc => ?_)
 ·have hle : i <= n := by simpa using hc
  have w1 : i64.wrap ((i : Int) - 1) = ((i - 1 : Nat) : Int) := by rw [gE (by omega) (by omega)]; omega
  rw [w1, oL (n := (i : Int)) (by omega) (by omega), oL (n := ((i - 1 : Nat) : Int)) (by omega) (by omega), fK (by omega)];refine ((lZ B i false true [fM (cK ((i - 1 : Nat) : Int)), fM (cK ((i - 1 : Nat) : Int))] (by simp) (by intro x hx; simp at hx; subst hx; exact dO rfl) (.inr (by rw [hB.len]; omega))).acall).mono ?_;rintro _ _ ⟨_, rfl, rfl, y, rfl, hy⟩;exact ⟨(_, _), ⟨rfl, rfl⟩, trivial, rfl, ⟨rfl, rfl, i + 1, _, rfl, rfl, by omega, by omega, hB.more hi1 hy⟩, by dsimp only; omega⟩
 have hle : i = n + 1 := by
  have : ¬ (i : Int) <= n := fun h => hc (by simpa using h)
  omega
 subst hle;rw [if_neg (by simp), oL (n := (n : Int)) (by omega) (by omega)];have hx := oZ (b := aH B) (ks := [kX]) (n := n) (by decide) hB.grows n ((aH B).length + 1) [] ([], 0) (qd _) (by rw [l3, hB.len]; omega) (fun j _ h => by cases h);have hx : cO (aH B) n = _ := hx;have hcost := oX [kX].length n;rw [if_neg (show ¬ (n = 0 /\ [kX] = []) from fun h => by cases h.2)] at hx;simp only [Nat.zero_add, List.nil_append] at hx;refine ((jV hB.bk hB.tx n).acall).mono ?_;rintro _ _ ⟨_, rfl, rfl, n1, f1, Q, r, rfl, hr⟩;rw [hx] at hr;refine ⟨(_, _, _, _), ⟨rfl, rfl⟩, trivial, ?_⟩;refine ((lZ B 0 true true [] (by decide) (by intro x hx; cases hx) (.inr (by rw [hB.len]; omega))).acall).mono ?_;rintro _ _ ⟨_, rfl, rfl, y2, rfl, h2⟩;refine ⟨(_, _), ⟨rfl, rfl⟩, trivial, ?_⟩;have b2 : BkOK (aF 0 y2 B) := hB.bk.set (by rw [gK h2]; decide);have t2 : BTx (aF 0 y2 B) := hB.tx.set (eR h2 (by intro x hx; simp at hx));refine ((jV b2 t2 31).acall).mono ?_;rintro _ _ ⟨_, rfl, rfl, n3, f3, Q3, r3, rfl, hr3⟩;refine ⟨(_, _, _, _), ⟨rfl, rfl⟩, trivial, ?_⟩;dsimp only
 have h31 : n = 31 -> Q3 = [] /\ r3 = 7 := fun e => by
  have gr : oY (aH (aF 0 y2 B)) [] n := ⟨by rw [dN, if_pos rfl, h2]; rfl, fun i hi => ⟨_, _, by rw [dN, if_neg (by omega)]; exact hB.up (i + 1) (by omega) (by omega), ⟨rfl, rfl⟩, ⟨rfl, rfl⟩⟩⟩
  have hl : (aF 0 y2 B).length = n + 1 := by
   have h0 : (0 : Int) ∈ B.map (·.1) := by
    have := hB.zero;rw [eP] at this;cases e : aU 0 B with
    | none => rw [e] at this; cases this
    | some y => exact List.mem_map.2 ⟨_, pI e, rfl⟩
   have := congrArg qo (lP 0 y2 B);rw [if_pos h0, qc, qc, hB.len] at this;exact this
  have hx3 := oZ (b := aH (aF 0 y2 B)) (ks := []) (n := n) (by decide) gr n ((aH (aF 0 y2 B)).length + 1) [] ([], 0) (qd _) (by rw [l3, hl]; omega) (fun j _ h => by cases h);have hc0 := oX 0 n;rw [e] at hc0;rw [if_neg (by rw [e]; simp only [qp]; omega), if_neg (by omega)] at hx3;have hx3 : cO (aH (aF 0 y2 B)) n = _ := hx3;rw [show ((n : Nat) : Int) = 31 by omega] at hx3;rw [hx3] at hr3;exact ⟨hr3.2.2, hr3.1⟩
 refine bQ (fun h => ?_) ?_
 ·simp only [qae, beq_iff_eq, Bool.or_eq_true, bne_iff_ne, ne_eq, qc] at h;obtain ⟨e, h⟩ := h;obtain ⟨rfl, rfl⟩ := h31 (by omega);simp at h
 refine cW (fun h12 => ?_) (fun h12 => ?_)
 ·simp only [a9] at h12;have hp : 2 ^ 13 <= 2 ^ n := qam (by decide) (by omega);rw [if_neg (by simp only [qe, qp] at hcost ⊢; omega)] at hr;obtain ⟨rfl, _, rfl⟩ := hr;refine gH rfl (awake46.mono ?_);rintro _ rfl;exact ⟨_, rfl, rfl⟩
 ·simp only [a9] at h12;have hp : 2 ^ n <= 2 ^ 12 := qam (by decide) (by omega);have hp0 : 0 < 2 ^ n := Nat.pow_pos (by decide);rw [if_pos (by simp only [qe, qp] at hcost ⊢; omega), tL] at hr;obtain ⟨rfl, hQ⟩ := hr;have hQ : Q.map (·.2.2) = qal (2 ^ n) kX := hQ;have hlq : Q.length = 2 ^ n := by have := congrArg qo hQ; simpa using this
  refine ⟨by omega, gH ?_ ?_⟩
  ·have e1 : ((1 : Int) * 2 ^ min ((n : Int)).toNat 64) = ((2 ^ n : Nat) : Int) := by
    rw [qf, Nat.min_eq_left (by omega)]; simp
   rw [e1, gE (by omega) (by omega), qc, hlq];simp
  ·have h0 : 0 < Q.length := by omega
   have hk : Q[0].2.2 = kX := by
    have := congrArg (fun l => l[0]?) hQ;simpa [h0, hp0] using this
   refine ⟨dM (l := Q) fL (by omega) (by omega), 120, ?_, ?_⟩
   ·rw [dA h0];show some (PV.int .i32 Q[0].2.2.rune) = _;rw [hk]; rfl
   ·refine (uD false true false true [120] (by decide)).mono ?_;rintro _ rfl;refine ⟨_, rfl, gH rfl (awake46.mono ?_)⟩;rintro _ rfl;exact ⟨_, rfl, rfl⟩
theorem uJ : Try.prog.underlying 3 = some (.int .i64) := by kernel_rfl
theorem zal {v : PV} (h : fI qa 8 3 v) : ∃ n : Int, v = .int .i64 n := by
 obtain ⟨m, e, _⟩ := jT uJ (oP (by kernel_rfl) h);cases e;exact ⟨m, rfl⟩
theorem lawMacroGrows {pvs : List PV} (h : gG qa 8 Try.f3.params.toList pvs) : PCall qa 3 pvs fun v => v = .bool true := by
 obtain ⟨v0, r0, rfl, h0, rfl⟩ : gG qa 8 [3] pvs := h;obtain ⟨k, rfl⟩ := zal h0;exact zak k
end Go.Eng
namespace Go.Eng
open Go Go.Proofs
def pM (n2 f2 : Bool) (nm : Int) (n0 f0 : Bool) (s0 : LL) (n1 f1 : Bool) (s1 : LL) (n2 f2 : Bool) (s2 : LL) (x10 : Int) (h0_0 hn0_1 hf0_1 : Bool) (hs0_1 : LL) : Env × Hp := ([(0, .pv (.sl n0 f0 s0)), (1, .pv (.sl n1 f1 s1)), (2, .pv (.sl n2 f2 s2)), (3, LV.pv (PV.int i32 nm)), (9, LV.box 0 0), (10, Y6 x10)], [.box [.pv (.bool h0_0), .pv (.sl hn0_1 hf0_1 hs0_1)]])
def pN (n2 f2 : Bool) (nm : Int) (n1 f1 : Bool) (s1 : LL) (n2 f2 : Bool) (s2 : LL) (x13 : Int) (h0_0 hn0_1 hf0_1 : Bool) (hs0_1 : LL) : Env × Hp := ([(1, .pv (.sl n1 f1 s1)), (2, .pv (.sl n2 f2 s2)), (3, LV.pv (PV.int i32 nm)), (9, LV.box 0 0), (13, Y6 x13)], [.box [.pv (.bool h0_0), .pv (.sl hn0_1 hf0_1 hs0_1)]])
def pO (n2 f2 : Bool) (nm : Int) (n1 f1 : Bool) (s1 : LL) (n2 f2 : Bool) (s2 : LL) (n16 f16 : Bool) (s16 : LL) (x17 : Int) (h0_0 hn0_1 hf0_1 : Bool) (hs0_1 : LL) : Env × Hp := ([(1, .pv (.sl n1 f1 s1)), (2, .pv (.sl n2 f2 s2)), (3, LV.pv (PV.int i32 nm)), (9, LV.box 0 0), (16, .pv (.sl n16 f16 s16)), (17, Y6 x17)], [.box [.pv (.bool h0_0), .pv (.sl hn0_1 hf0_1 hs0_1)]])
section
variable (n f : Bool) (es : LL) (n2 f2 : Bool) (ss : LL) (n3 f3 : Bool) (s3 : LL) (nm : Int) (J : Bool -> Bool -> LL -> Bool -> Bool -> LL -> Bool -> Bool -> LL -> Int -> Bool -> Bool -> Bool -> LL -> Prop) (μ : Bool -> Bool -> LL -> Bool -> Bool -> LL -> Bool -> Bool -> LL -> Int -> Bool -> Bool -> Bool -> LL -> Nat) (J2 : Bool -> Bool -> LL -> Bool -> Bool -> LL -> Int -> Bool -> Bool -> Bool -> LL -> Prop) (μ2 : Bool -> Bool -> LL -> Bool -> Bool -> LL -> Int -> Bool -> Bool -> Bool -> LL -> Nat) (J3 : Bool -> Bool -> LL -> Bool -> Bool -> LL -> Bool -> Bool -> LL -> Int -> Bool -> Bool -> Bool -> LL -> Prop) (μ3 : Bool -> Bool -> LL -> Bool -> Bool -> LL -> Bool -> Bool -> LL -> Int -> Bool -> Bool -> Bool -> LL -> Nat)
def uK (R : PV -> Prop) : Prop :=
 PCall qa 11 [PV.sl n f es, Z6 10] fun v => ∃ n1 f1 es1, v = PV.sl n1 f1 es1 /\ PCall qa 11 [PV.sl n2 f2 ss, Z6 30] fun v1 => ∃ n4 f4 es2, v1 = PV.sl n4 f4
  es2 /\ PCall qa 11 [PV.sl n3 f3 s3, Z6 10] fun v2 => ∃ n5 f5 es3, v2 = PV.sl n5 f5 es3 /\ (bV (pM n2 f2 nm n1 f1 es1 n4 f4 es2 n5 f5 es3 (0 : Int) false true true []) /\ J n1 f1 es1 n4 f4 es2
  n5 f5 es3 (0 : Int) false true true []) /\ ∀ (n0 f0 : Bool) (s0 : LL) (n11 f11 : Bool) (s1 : LL) (n21 f21 : Bool) (s2 : LL) (x10 : Int) (h0_0 hn0_1 hf0_1 : Bool) (hs0_1 : LL), J n0 f0 s0 n11 f11 s1 n21 f21 s2 x10 h0_0 hn0_1 hf0_1 hs0_1 ->
 let K6 := fun (y0_ y1_ : Bool) (y2_ : LL) (y3_ y4_ : Bool) (y5_ : LL) (y6_ y7_ : Bool) (y8_ : LL) (y9_ : Int) (y10_ y11_ y12_ : Bool) (y13_ : LL) => bV (pM n2 f2 nm y0_ y1_ y2_ y3_ y4_ y5_
  y6_ y7_ y8_ y9_ y10_ y11_ y12_ y13_) /\ J y0_ y1_ y2_ y3_ y4_ y5_ y6_ y7_ y8_ y9_ y10_ y11_ y12_ y13_ /\ μ y0_ y1_ y2_ y3_ y4_ y5_ y6_ y7_ y8_ y9_ y10_ y11_ y12_ y13_ < μ n0 f0 s0 n11 f11 s1 n21 f21 s2 x10 h0_0 hn0_1 hf0_1 hs0_1; if decide
  (x10 < (↑s0.length : Int)) = true then bA s0 x10 4 /\ ∃ n6, (s0.getD x10.toNat []).head? = some (Z6 n6) /\ ∃ n7, (s0.getD x10.toNat []).tail.head? = some (Z3 n7) /\ ∃ b, (s0.getD x10.toNat []).tail.tail.head? =
  some (Zb b) /\ ∃ n8 f6 es4, (s0.getD x10.toNat []).tail.tail.tail.head? = some (PV.sl n8 f6 es4) /\ (ACall qa 12 [LV.pv (PV.agg [Zb h0_0, PV.sl hn0_1 hf0_1 hs0_1]), LV.pv (PV.agg [Z6 n6, Z3 n7, Zb b,
  PV.sl n8 f6 es4])] [] fun (r : LV) (h' : Hp) => ∃ (t : Bool × Bool × Bool × LL × Bool), (r = LV.pv (PV.tup [PV.agg [Zb t.fst, PV.sl t.snd.fst t.snd.snd.fst t.snd.snd.snd.fst], Zb t.snd.snd.snd.snd]) /\ h' = []) /\ True /\
 let V1 := if (!t.snd.snd.snd.snd) = true then R (Zb false) else if t.fst = true then R (Zb false) else K6 n0 f0 s0 n11 f11 s1 n21 f21 s2 (i64.wrap (x10 + 1)) t.fst t.snd.fst t.snd.snd.fst t.snd.snd.snd.fst; V1 /\ V1 /\ V1) /\ ACall
  qa 12 [LV.pv (PV.agg [Zb h0_0, PV.sl hn0_1 hf0_1 hs0_1]), LV.pv (PV.agg [Z6 n6, Z3 n7, Zb b, PV.sl n8 f6 es4])] [] fun (r : LV) (h' : Hp) => ∃ (t : Bool × Bool × Bool × LL × Bool), (r = LV.pv (PV.tup [PV.agg [Zb t.fst, PV.sl
  t.snd.fst t.snd.snd.fst t.snd.snd.snd.fst], Zb t.snd.snd.snd.snd]) /\ h' = []) /\ True /\
 let V2 := if (!t.snd.snd.snd.snd) = true then R (Zb false) else if t.fst = true then R (Zb false) else K6 n0 f0 s0 n11 f11 s1 n21 f21 s2 (i64.wrap (x10 + 1)) t.fst t.snd.fst t.snd.snd.fst t.snd.snd.snd.fst; V2 /\ V2 else ACall
  qa 13 [] [] fun (r : LV) (h' : Hp) => ∃ (t : Unit), (r = LV.pv (PV.agg [Zb true, PV.sl true true []]) /\ h' = []) /\ True /\ (bV (pN n2 f2 nm n11 f11 s1 n21 f21 s2 (0 : Int) true true true []) /\ J2 n11 f11 s1 n21 f21 s2 (0 :
  Int) true true true []) /\ ∀ (n12 f12 : Bool) (s11 : LL) (n22 f22 : Bool) (s21 : LL) (x13 : Int) (h0_01 hn0_11 hf0_11 : Bool) (hs0_11 : LL), J2 n12 f12 s11 n22 f22 s21 x13 h0_01 hn0_11 hf0_11 hs0_11 ->
 let K14 := fun (y0_ y1_ : Bool) (y2_ : LL) (y3_ y4_ : Bool) (y5_ : LL) (y6_ : Int) (y7_ y8_ y9_ : Bool) (y10_ : LL) => bV (pN n2 f2 nm y0_ y1_ y2_ y3_ y4_ y5_ y6_ y7_ y8_ y9_ y10_) /\ J2 y0_ y1_ y2_
  y3_ y4_ y5_ y6_ y7_ y8_ y9_ y10_ /\ μ2 y0_ y1_ y2_ y3_ y4_ y5_ y6_ y7_ y8_ y9_ y10_ < μ2 n12 f12 s11 n22 f22 s21 x13 h0_01 hn0_11 hf0_11 hs0_11; if decide (x13 < (↑s11.length : Int)) = true then bA s11 x13 4 /\ ∃ n6, (s11.getD
  x13.toNat []).head? = some (Z6 n6) /\ ∃ n7, (s11.getD x13.toNat []).tail.head? = some (Z3 n7) /\ ∃ b, (s11.getD x13.toNat []).tail.tail.head? = some (Zb b) /\ ∃ n8 f6 es4, (s11.getD x13.toNat
  []).tail.tail.tail.head? = some (PV.sl n8 f6 es4) /\ (ACall qa 12 [LV.pv (PV.agg [Zb h0_01, PV.sl hn0_11 hf0_11 hs0_11]), LV.pv (PV.agg [Z6 n6, Z3 n7, Zb b, PV.sl n8 f6 es4])] [] fun (r1 : LV) (h'1 : Hp) => ∃ (t1 : Bool × Bool × Bool
  × LL × Bool), (r1 = LV.pv (PV.tup [PV.agg [Zb t1.fst, PV.sl t1.snd.fst t1.snd.snd.fst t1.snd.snd.snd.fst], Zb t1.snd.snd.snd.snd]) /\ h'1 = []) /\ True /\
 let V3 := if (!t1.snd.snd.snd.snd) = true then R (Zb false) else if (!t1.fst) = true then R (Zb false) else K14 n12 f12 s11 n22 f22 s21 (i64.wrap (x13 + 1)) t1.fst t1.snd.fst t1.snd.snd.fst t1.snd.snd.snd.fst; V3 /\ V3 /\ V3) /\ ACall
  qa 12 [LV.pv (PV.agg [Zb h0_01, PV.sl hn0_11 hf0_11 hs0_11]), LV.pv (PV.agg [Z6 n6, Z3 n7, Zb b, PV.sl n8 f6 es4])] [] fun (r1 : LV) (h'1 : Hp) => ∃ (t1 : Bool × Bool × Bool × LL × Bool), (r1 = LV.pv (PV.tup [PV.agg [Zb t1.fst,
  PV.sl t1.snd.fst t1.snd.snd.fst t1.snd.snd.snd.fst], Zb t1.snd.snd.snd.snd]) /\ h'1 = []) /\ True /\
 let V4 := if (!t1.snd.snd.snd.snd) = true then R (Zb false) else if (!t1.fst) = true then R (Zb false) else K14 n12 f12 s11 n22 f22 s21 (i64.wrap (x13 + 1)) t1.fst t1.snd.fst t1.snd.snd.fst t1.snd.snd.snd.fst; V4 /\ V4 else ACall
  qa 14 [LV.pv (PV.agg [Zb h0_01, PV.sl hn0_11 hf0_11 hs0_11])] [] fun (r1 : LV) (h'1 : Hp) => ∃ (t1 : Bool × Bool × LL), (r1 = LV.pv (PV.tup [PV.agg [Zb false, PV.sl true true []], PV.sl t1.fst t1.snd.fst t1.snd.snd]) /\ h'1 = []) /\
  True /\ (bV (pO n2 f2 nm n12 f12 s11 n22 f22 s21 t1.fst t1.snd.fst t1.snd.snd (0 : Int) false true true []) /\ J3 n12 f12 s11 n22 f22 s21 t1.fst t1.snd.fst t1.snd.snd (0 : Int) false true true []) /\ ∀ (n13 f13 : Bool) (s12 : LL) (n23
  f23 : Bool) (s22 : LL) (n16 f16 : Bool) (s16 : LL) (x17 : Int) (h0_02 hn0_12 hf0_12 : Bool) (hs0_12 : LL), J3 n13 f13 s12 n23 f23 s22 n16 f16 s16 x17 h0_02 hn0_12 hf0_12 hs0_12 -> if decide (x17 < (↑s22.length : Int)) = true then bA
  s22 x17 4 /\ ∃ n6, (s22.getD x17.toNat []).head? = some (Z6 n6) /\ ∃ n7, (s22.getD x17.toNat []).tail.head? = some (Z3 n7) /\ ∃ b, (s22.getD x17.toNat []).tail.tail.head? = some (Zb b) /\ ∃ n8, ∃ (f6 :
  Bool), ∃ es4, (s22.getD x17.toNat []).tail.tail.tail.head? = some (PV.sl n8 f6 es4) /\ ACall qa 12 [LV.pv (PV.agg [Zb h0_02, PV.sl hn0_12 hf0_12 hs0_12]), LV.pv (PV.agg [Z6 n6, Z3 n7, Zb b, PV.sl n8 f6 es4])] [] fun (r2 : LV)
  (h'2 : Hp) => ∃ (t2 : Bool × Bool × Bool × LL × Bool), (r2 = LV.pv (PV.tup [PV.agg [Zb t2.fst, PV.sl t2.snd.fst t2.snd.snd.fst t2.snd.snd.snd.fst], Zb t2.snd.snd.snd.snd]) /\ h'2 = []) /\ True /\
 let V5 := bV (pO n2 f2 nm n13 f13 s12 n23 f23 s22 n16 f16 s16 (i64.wrap (x17 + 1)) t2.fst t2.snd.fst t2.snd.snd.fst t2.snd.snd.snd.fst) /\ J3 n13 f13 s12 n23 f23 s22 n16 f16 s16 (i64.wrap (x17 + 1)) t2.fst t2.snd.fst
  t2.snd.snd.fst t2.snd.snd.snd.fst /\ μ3 n13 f13 s12 n23 f23 s22 n16 f16 s16 (i64.wrap (x17 + 1)) t2.fst t2.snd.fst t2.snd.snd.fst t2.snd.snd.snd.fst < μ3 n13 f13 s12 n23 f23 s22 n16 f16 s16 x17 h0_02 hn0_12 hf0_12 hs0_12; V5 /\ V5
  else ACall qa 14 [LV.pv (PV.agg [Zb h0_02, PV.sl hn0_12 hf0_12 hs0_12])] [] fun (r2 : LV) (h'2 : Hp) => ∃ (t2 : Bool × Bool × LL), (r2 = LV.pv (PV.tup [PV.agg [Zb false, PV.sl true true []], PV.sl t2.fst t2.snd.fst t2.snd.snd]) /\
  h'2 = []) /\ True /\ ACall qa 7 [LV.pv (PV.agg [PV.nilm]), LV.pv (Z3 nm), LV.pv (PV.sl n16 f16 s16)] [] fun (r3 : LV) (h'3 : Hp) => ∃ (t3 : List (PV × PV) × Int), (r3 = LV.pv (PV.tup [PV.agg [PV.mp t3.fst], Z6 t3.2]) /\ h'3 = []) /\
  True /\ ACall qa 8 [LV.pv (PV.agg [PV.mp t3.fst]), LV.pv (Z3 nm)] [] fun (r4 : LV) (h'4 : Hp) => ∃ (t4 : Bool × Bool × LL × Int), (r4 = LV.pv (PV.tup [PV.sl t4.fst t4.snd.fst t4.snd.snd.fst, Z6 t4.snd.snd.2]) /\ h'4 = []) /\ True /\ if
  ((↑t2.snd.snd.length : Int) == 0 && t3.2 == 0 && t4.snd.snd.2 == 0) = true then PCall qa 15 [PV.sl t4.fst t4.snd.fst t4.snd.snd.fst, PV.sl n13 f13 s12] fun v3 => ∃ b, v3 = Zb b /\ if b = true then PCall qa 9 []
  fun v4 => ∃ b1, v4 = Zb b1 /\ R (Zb b1) else R (Zb false) else R (Zb false)
theorem zam {R : PV -> Prop} (h : uK n f es n2 f2 ss n3 f3 s3 nm J μ J2 μ2 J3 μ3 R) : PCall qa 4 [.sl n f es, .sl n2 f2 ss, .sl n3 f3 s3, .int .i32 nm] R :=
 PCall.wz Try.func4 (fun zz_ => match zz_ with | 7 => some ⟨List (PV × PV) × Int, fun _ hs t => (.pv (.tup [.agg [.mp t.1], .int .i64 t.2]), hs), none⟩ | 8 => some ⟨Bool × Bool × LL × Int, fun _ _ t => (.pv (.tup [.sl t.1 t.2.1 t.2.2.1, .int .i64 t.2.2.2]), []), none⟩ | 12 => some ⟨Bool × Bool × Bool × LL × Bool, fun _ _ t => (.pv (.tup [.agg [.bool t.1, .sl t.2.1 t.2.2.1 t.2.2.2.1], .bool t.2.2.2.2]), []), none⟩ | 14 => some ⟨Bool × Bool × LL, fun _ _ t => (.pv (.tup [.agg [.bool false, .sl true true []], .sl t.1 t.2.1 t.2.2]), []), none⟩ | 13 => some ⟨Unit, fun _ _ _ => (.pv (.agg [.bool true, .sl true true []]), []), none⟩ | 20 => some ⟨Bool × Bool × LL × Bool, fun _ _ t => (.pv (.tup [.sl t.1 t.2.1 t.2.2.1, .bool t.2.2.2]), []), none⟩ | 18 => some ⟨Bool × Bool × LL × Int, fun _ _ t => (.pv (.tup [.sl t.1 t.2.1 t.2.2.1, .int .i64 t.2.2.2]), []), none⟩ | _ => none) [0, 1, 2, 3, 8, 9, 10, 11, 12, 13, 14, 15, 16, 17, 19, 20, 21, 22, 23, 33, 50, 56, 74, 84] (lkz [(6, (eO (czy cz6) (pM n2 f2 nm) J μ (fun e h => (gN e 0, gF e 0, gS e 0, gN e 1, gF e 1, gS e 1, gN e 2, gF e 2, gS e 2, gI e 10, hB h 0 0, hN h 0 1, hF h 0 1, hS h 0 1)) [] [0, 1, 2, 3, 9, 10] [])), (14, (eO (czy cz3) (pN n2 f2 nm) J2 μ2 (fun e h => (gN e 1, gF e 1, gS e 1, gN e 2, gF e 2, gS e 2, gI e 13, hB h 0 0, hN h 0 1, hF h 0 1, hS h 0 1)) [] [1, 2, 3, 9, 13] [])), (22, (eO (czy cz6) (pO n2 f2 nm) J3 μ3 (fun e h => (gN e 1, gF e 1, gS e 1, gN e 2, gF e 2, gS e 2, gN e 16, gF e 16, gS e 16, gI e 17, hB h 0 0, hN h 0 1, hF h 0 1, hS h 0 1)) [] [1, 2, 3, 9, 16, 17] []))]) h
end
end Go.Eng
namespace Go.Eng
open Go Go.Proofs Go.Eng.Rows
def KL (s : List (List PV)) (k : Nat) : Prop := ∃ A : List GKey, s = A.map aR /\ A.length <= k /\ ∀ q ∈ A, aZ q.2.2
theorem pP (n f : Bool) (A : List GKey) (k : Nat) (hk : k <= 1000) : PCall qa 11 [.sl n f (A.map aR), .int .i64 k] fun v => ∃ n f s, v = .sl n f s /\ KL s k := by
 refine zaa _ _ _ _ (fun x n' s => ∃ (i : Nat) (A' : List GKey), x = i /\ i <= A.length /\ i <= k /\ s = A'.map aR /\ A'.length = i /\ ∀ q ∈ A', aZ q.2.2) (fun x _ _ => A.length - x.toNat) ?_;unfold t6;have ll : (A.map aR).length = A.length := qc _;rw [ll];refine ⟨⟨rfl, 0, [], rfl, qn _, qn _, rfl, rfl, fun q h => by cases h⟩, ?_⟩;rintro _ n' _ ⟨i, A', rfl, hi, hik, rfl, hl, hA⟩;refine cW (fun hc => ?_) (fun hc => ⟨_, _, _, rfl, A', rfl, by omega, hA⟩);simp only [qae, a9] at hc;have h1 : i < A.length := by omega
 rw [qf, dA h1, fK (by omega)];refine ⟨dM (l := A) fL (by omega) (by omega), _, rfl, _, rfl, _, rfl, _, _, _, rfl, (zaf _ _ _ 15 (by decide)).mono ?_⟩;rintro _ ⟨n1, f1, rfl⟩;refine ⟨_, _, _, rfl, ⟨fun e he => by cases he; rfl, by simp only [qc]; omega⟩, rfl, ⟨i + 1, A' ++ [(n1, f1, ⟨A[i].2.2.kind, A[i].2.2.rune, A[i].2.2.mt, A[i].2.2.text.take 15⟩)], rfl, h1, by omega, by rw [qm]; rfl, by simp [hl], fun q hq => ?_⟩, by dsimp only; omega⟩;rcases List.mem_append.1 hq with hq | hq
 ·exact hA q hq
 ·rw [List.mem_singleton.1 hq];show (A[i].2.2.text.take 15).length < 1000000;rw [qaz]; omega
theorem uL (q : GKey) (n2 f2 : Bool) (L : List GS) : PCall qa 12 [.agg [.bool false, .sl n2 f2 (L.map encGS)], .agg (aR q)] fun v => v = .tup [.agg [.bool false, .sl n2 f2 (L.map encGS)], .bool true] := by
 refine tZ _ _ _ _ _ _ _ _ _ _ ?_;unfold pB;exact gH rfl rfl
theorem zan (q : GKey) (hq : aZ q.2.2) (n2 f2 : Bool) (L : List GS) (hl : L.length < 1000) : PCall qa 12 [.agg [.bool true, .sl n2 f2 (L.map encGS)], .agg (aR q)] fun v => ∃ (n f : Bool) (L' : List GS), v = .tup [.agg [.bool true, .sl n f (L'.map encGS)], .bool true] /\ L'.map (·.2.2) = L.map (·.2.2) ++ [st46 q.2.2] := by
 refine tZ _ _ _ _ _ _ _ _ _ _ ?_;unfold pB;have ll : (L.map encGS).length = L.length := qc _;have hsz : bY (L.map encGS) 6 := tC (enc := encGS) uE L;rw [ll];refine bQ (by simp) (bQ (by simp only [beq_iff_eq]; omega) ((pF _ _ _ (by unfold aZ at hq; omega)).mono ?_));rintro _ ⟨n1, f1, rfl⟩;have ht : qk 0 (qar ((L.length : Int)).toNat (L.map encGS)) = L.map encGS := by rw [qf, qbb, qr (by rw [ll]; exact qd _)]
 rw [ht];refine ⟨_, _, _, rfl, ⟨⟨by simp, by simp, by simp, by simp⟩, hsz⟩, ⟨by simp, .inr (by simp), hsz, fun e he => by cases he; rfl, by rw [ll]; simp; omega⟩, n2 && false, false, L ++ [(n1, f1, st46 q.2.2)], ?_, by rw [qm]; rfl⟩;rw [qm]; rfl
theorem uM (on n2 f2 : Bool) (L : List GS) (hl : L.length < 100000) (hk : ∀ x ∈ L, aZ x.2.2.key) : PCall qa 14 [.agg [.bool on, .sl n2 f2 (L.map encGS)]] fun v => ∃ (n f : Bool) (L' : List GS), v = .tup [.agg [.bool false, .sl true true []], .sl n f (L'.map encGS)] /\ L'.map (·.2.2) = L.map (·.2.2) := by
 refine z9 _ _ _ _ ?_;unfold t5;refine (pG n2 f2 L hl hk).mono ?_;rintro _ ⟨n, f, L', rfl, h⟩;exact ⟨n, f, _, rfl, n, f, L', rfl, h⟩
theorem mStart : PCall qa 13 [] fun v => v = .agg [.bool true, .sl true true []] := by
 refine z8 ?_;unfold tY;rfl
theorem uN (f : Int -> MW -> Except Int MW) : ∀ (l : List MKey) (w : MW), w.2 + l.length <= 20000 -> bN f (l.map st46) w = .ok (w.1 ++ l, w.2 + l.length)
 | [], w, _ => by simp [bN]
 | k :: l, w, h => by
   simp only [qe] at h;rw [qw, o6, if_neg (by omega), if_neg (by simp [st46]), uN f l _ (by dsimp only; omega)];simp only [st46, qav, List.singleton_append, qe];congr 2; omega
theorem KL.len {s : List (List PV)} {k : Nat} (h : KL s k) : s.length <= k := by obtain ⟨A, rfl, h1, _⟩ := h; simpa using h1
theorem zao (n f : Bool) (A0 : List GKey) (n2 f2 : Bool) (A1 : List GKey) (n3 f3 : Bool) (A2 : List GKey) (nm : Int) : PCall qa 4 [.sl n f (A0.map aR), .sl n2 f2 (A1.map aR), .sl n3 f3 (A2.map aR), .int .i32 nm] fun v => v = .bool true := by
 refine zam _ _ _ _ _ _ _ _ _ _
  (fun _ _ s0 _ _ s1 _ _ s2 x h0 _ _ hs => KL s0 10 /\ KL s1 30 /\ KL s2 10 /\ h0 = false /\ hs = [] /\ ∃ i : Nat, x = i /\ i <= s0.length) (fun _ _ s0 _ _ _ _ _ _ x _ _ _ _ => s0.length - x.toNat)
  (fun _ _ s1 _ _ s2 x h0 _ _ hs => KL s2 10 /\ h0 = true /\ ∃ (i : Nat) (A : List GKey) (L : List GS), x = i /\ i <= A.length /\ A.length <= 30 /\ (∀ q ∈ A, aZ q.2.2) /\ s1 = A.map aR /\ hs = L.map encGS /\ L.map (·.2.2) = ((A.map (·.2.2)).take i).map st46) (fun _ _ s1 _ _ _ x _ _ _ _ => s1.length - x.toNat)
  (fun _ _ s1 _ _ s2 _ _ s16 x h0 _ _ hs => KL s2 10 /\ h0 = false /\ hs = [] /\ (∃ (A : List GKey) (L : List GS), A.length <= 30 /\ (∀ q ∈ A, aZ q.2.2) /\ s1 = A.map aR /\ s16 = L.map encGS /\ L.map (·.2.2) = (A.map (·.2.2)).map st46) /\ ∃ i : Nat, x = i /\ i <= s2.length) (fun _ _ _ _ _ s2 _ _ _ x _ _ _ _ => s2.length - x.toNat) ?_
 unfold uK;refine (pP n f A0 10 (by decide)).mono ?_;rintro _ ⟨n1, f1, s0, rfl, k0⟩;refine ⟨_, _, _, rfl, (pP n2 f2 A1 30 (by decide)).mono ?_⟩;rintro _ ⟨n4, f4, s1, rfl, k1⟩;refine ⟨_, _, _, rfl, (pP n3 f3 A2 10 (by decide)).mono ?_⟩;rintro _ ⟨n5, f5, s2, rfl, k2⟩;refine ⟨_, _, _, rfl, ⟨rfl, k0, k1, k2, rfl, rfl, 0, rfl, qn _⟩, ?_⟩;clear k0 k1 k2;rintro m0 g0 s0 m1 g1 s1 m2 g2 s2 _ _ hn hf _ ⟨⟨B0, rfl, b1, b2⟩, k1, k2, rfl, rfl, i, rfl, hi⟩;have lb : (B0.map aR).length = B0.length := qc _;rw [lb] at hi ⊢;refine cW (fun hc => ?_) (fun hc => ?_)
 ·simp only [a9] at hc;have h1 : i < B0.length := by omega
  rw [qf, dA h1, fK (by omega)];refine ⟨dM (l := B0) fL (by omega) (by omega), _, rfl, _, rfl, _, rfl, _, _, _, rfl, ?_⟩;have call := (uL B0[i] hn hf []).acall;constructor
  ·refine call.mono ?_;rintro _ _ ⟨_, rfl, rfl, rfl⟩;refine ⟨(false, hn, hf, [], true), ⟨rfl, rfl⟩, trivial, ?_⟩;refine ⟨?_, ?_, ?_⟩ <;> exact bQ (by simp) (bQ (by simp) ⟨rfl, ⟨⟨B0, rfl, b1, b2⟩, k1, k2, rfl, rfl, i + 1, rfl, by rw [lb]; exact h1⟩, by dsimp only; rw [lb]; omega⟩)
  ·refine call.mono ?_;rintro _ _ ⟨_, rfl, rfl, rfl⟩;refine ⟨(false, hn, hf, [], true), ⟨rfl, rfl⟩, trivial, ?_⟩;refine ⟨?_, ?_⟩ <;> exact bQ (by simp) (bQ (by simp) ⟨rfl, ⟨⟨B0, rfl, b1, b2⟩, k1, k2, rfl, rfl, i + 1, rfl, by rw [lb]; exact h1⟩, by dsimp only; rw [lb]; omega⟩)
 refine (mStart.acall).mono ?_;rintro _ _ ⟨_, rfl, rfl, rfl⟩;obtain ⟨A, rfl, a1, a2⟩ := k1;refine ⟨(), ⟨rfl, rfl⟩, trivial, ⟨rfl, k2, rfl, 0, A, [], rfl, qn _, a1, a2, rfl, rfl, rfl⟩, ?_⟩;clear k2 hc hi i;rintro m1 g1 _ m2 g2 s2 _ _ hn hf _ ⟨k2, rfl, i, C, L, rfl, hi, c1, c2, rfl, rfl, hL⟩;have lc : (C.map aR).length = C.length := qc _;rw [lc];have hlL : L.length = i := by have := congrArg qo hL; simp at this; omega
 refine cW (fun hc => ?_) (fun hc => ?_)
 ·simp only [a9] at hc;have h1 : i < C.length := by omega
  rw [qf, dA h1, fK (by omega)];refine ⟨dM (l := C) fL (by omega) (by omega), _, rfl, _, rfl, _, rfl, _, _, _, rfl, ?_⟩;have call := (zan C[i] (c2 _ (qx h1)) hn hf L (by omega)).acall
  have ht : ((C.map (·.2.2)).take (i + 1)).map st46 = ((C.map (·.2.2)).take i).map st46 ++ [st46 C[i].2.2] := by
   rw [uC (by simpa using h1), qm]; simp
  constructor
  ·refine call.mono ?_;rintro _ _ ⟨_, rfl, rfl, n6, f6, L', rfl, hL'⟩;refine ⟨(true, n6, f6, _, true), ⟨rfl, rfl⟩, trivial, ?_⟩;refine ⟨?_, ?_, ?_⟩ <;> exact bQ (by simp) (bQ (by simp) ⟨rfl, ⟨k2, rfl, i + 1, C, L', rfl, h1, c1, c2, rfl, rfl, by rw [hL', hL, ht]⟩, by dsimp only; rw [lc]; omega⟩)
  ·refine call.mono ?_;rintro _ _ ⟨_, rfl, rfl, n6, f6, L', rfl, hL'⟩;refine ⟨(true, n6, f6, _, true), ⟨rfl, rfl⟩, trivial, ?_⟩;refine ⟨?_, ?_⟩ <;> exact bQ (by simp) (bQ (by simp) ⟨rfl, ⟨k2, rfl, i + 1, C, L', rfl, h1, c1, c2, rfl, rfl, by rw [hL', hL, ht]⟩, by dsimp only; rw [lc]; omega⟩)
 simp only [a9] at hc;have hie : i = C.length := by omega
 have hL : L.map (·.2.2) = (C.map (·.2.2)).map st46 := by rw [hL, qr (by simp; omega)]
 have hLk : ∀ x ∈ L, aZ x.2.2.key := eR hL (by
  intro x hx;simp only [qas] at hx;obtain ⟨_, ⟨q, hq, rfl⟩, rfl⟩ := hx
  exact c2 q hq)
 refine ((uM true hn hf L (by omega) hLk).acall).mono ?_;rintro _ _ ⟨_, rfl, rfl, n7, f7, L7, rfl, h7⟩;refine ⟨(_, _, _), ⟨rfl, rfl⟩, trivial, ⟨rfl, k2, rfl, rfl, ⟨C, L7, c1, c2, rfl, rfl, h7.trans hL⟩, 0, rfl, qn _⟩, ?_⟩;clear k2 hc hi hie hL hLk hlL lc;rintro m1 g1 _ m2 g2 _ m3 g3 _ _ _ hn' hf' _ ⟨⟨D, rfl, d1, d2⟩, rfl, rfl, ⟨E, M, e1, e2, rfl, rfl, hM⟩, j, rfl, hj⟩;have ld : (D.map aR).length = D.length := qc _;rw [ld] at hj ⊢;refine cW (fun hc => ?_) (fun hc => ?_)
 ·simp only [a9] at hc;have h1 : j < D.length := by omega
  rw [qf, dA h1, fK (by omega)];refine ⟨dM (l := D) fL (by omega) (by omega), _, rfl, _, rfl, _, rfl, _, _, _, rfl, ((uL D[j] hn' hf' []).acall).mono ?_⟩;rintro _ _ ⟨_, rfl, rfl, rfl⟩;refine ⟨(false, hn', hf', [], true), ⟨rfl, rfl⟩, trivial, ?_⟩;refine ⟨?_, ?_⟩ <;> exact ⟨rfl, ⟨⟨D, rfl, d1, d2⟩, rfl, rfl, ⟨E, M, e1, e2, rfl, rfl, hM⟩, j + 1, rfl, by rw [ld]; exact h1⟩, by dsimp only; rw [ld]; omega⟩
 refine ((uM false hn' hf' [] (by decide) (by intro x h; cases h)).acall).mono ?_;rintro _ _ ⟨_, rfl, rfl, n8, f8, L8, rfl, h8⟩;have h8 : L8 = [] := by simpa using h8
 subst h8;refine ⟨(_, _, _), ⟨rfl, rfl⟩, trivial, ?_⟩;have lM : M.length = E.length := by have := congrArg qo hM; simpa using this
 have kM : ∀ x ∈ M, aZ x.2.2.key := eR hM (by
  intro x hx;simp only [qas] at hx;obtain ⟨_, ⟨q, hq, rfl⟩, rfl⟩ := hx
  exact e2 q hq)
 refine ((pK nm m3 g3 M (by omega) kM).acall).mono ?_;rintro _ _ ⟨_, rfl, rfl, y, rfl, hy⟩;refine ⟨(_, _), ⟨rfl, rfl⟩, trivial, ?_⟩;have hy2 : y.2.2.map (·.2.2) = (E.map (·.2.2)).map st46 := hy.trans hM;have bB : BkOK (aF nm y []) := BkOK.set (fun p h => by cases h) (by rw [gK hy2]; simp; omega)
 have tB : BTx (aF nm y []) := BTx.set (fun p h => by cases h) (eR hy2 (by
  intro x hx;simp only [qas] at hx;obtain ⟨_, ⟨q, hq, rfl⟩, rfl⟩ := hx
  exact e2 q hq))
 have hx : cO (aH (aF nm y [])) nm = .ok (E.map (·.2.2), E.length) := by
  unfold cO;rw [aY, dN, if_pos rfl, hy2];simp only;rw [if_neg (by simp), uN _ _ _ (by simp; omega)];simp
 refine ((jV bB tB nm).acall).mono ?_;rintro _ _ ⟨_, rfl, rfl, n9, f9, Q, r, rfl, hr⟩;rw [hx] at hr;obtain ⟨rfl, hQ⟩ := hr;refine ⟨(_, _, _, _), ⟨rfl, rfl⟩, trivial, gH rfl ?_⟩;have hlQ : Q.length = E.length := by have := congrArg qo hQ; simpa using this
 refine (uF n9 f9 m1 g1 Q E hQ (pJ (P := aZ) hQ e2) (by omega)).mono ?_;rintro _ rfl;refine ⟨_, rfl, gH rfl (awake46.mono ?_)⟩;rintro _ rfl;exact ⟨_, rfl, rfl⟩
theorem pQ : Try.prog.underlying 21 = some (.int .i32) /\ Try.prog.underlying 28 = some (.slice 21) /\ Try.prog.underlying 4 = some .bool /\ Try.prog.underlying 34 = some (.slice 30) /\ jS qa 30 = some [(3, 0, 1), (21, 1, 1), (4, 2, 1), (28, 3, 1)] /\ Try.prog.cellsOf 30 = 4 :=
 ⟨by kernel_rfl, by kernel_rfl, by kernel_rfl, by kernel_rfl, by kernel_rfl, by kernel_rfl⟩
theorem zap {v : PV} (h : fI qa 8 21 v) : ∃ n : Int, v = .int .i32 n := by
 obtain ⟨m, e, _⟩ := jT pQ.1 (oP (by kernel_rfl) h);cases e;exact ⟨m, rfl⟩
theorem zaq {n : Nat} {ps : List PV} (h : bM qa (n + 3) 30 ps) : ∃ q : GKey, ps = aR q := by
 obtain ⟨u1, u2, u3, u4, u5, u6⟩ := pQ;obtain ⟨h1, h2⟩ := yJ u5 h;rw [u6] at h1
 match ps, h1 with
 | [a, b, c, d], _ =>
   obtain ⟨x, ea, _⟩ := jT uJ (h2 _ (.head _));obtain ⟨y, eb, _⟩ := jT u1 (h2 _ (.tail _ (.head _)));obtain ⟨z, ec⟩ := yK u3 (h2 _ (.tail _ (.tail _ (.head _))));obtain ⟨nl, l, ed, _⟩ := yL u2 u1 (h2 _ (.tail _ (.tail _ (.tail _ (.head _)))));simp at ea eb ec ed;subst ea; subst eb; subst ec; subst ed;exact ⟨(nl, false, ⟨x, y, z, l⟩), rfl⟩
theorem pR {v : PV} (h : fI qa 8 34 v) : ∃ (nl : Bool) (A : List GKey), v = .sl nl false (A.map aR) := by
 obtain ⟨nl, es, e, _, _, h3⟩ := tA pQ.2.2.2.1 (oP (by kernel_rfl) h);cases e
 obtain ⟨m, rfl, _⟩ := oO (f := aR) (Q := fun _ => True) (l := es) fun x hx => by
  obtain ⟨q, e⟩ := zaq (h3 x hx);exact ⟨q, e, trivial⟩
 exact ⟨nl, m, rfl⟩
theorem lawMacroRecords {pvs : List PV} (h : gG qa 8 Try.f4.params.toList pvs) : PCall qa 4 pvs fun v => v = .bool true := by
 obtain ⟨v0, r0, rfl, h0, v1, r1, rfl, h1, v2, r2, rfl, h2, v3, r3, rfl, h3, rfl⟩ : gG qa 8 [34, 34, 34, 21] pvs := h;obtain ⟨n, A, rfl⟩ := pR h0;obtain ⟨n1, A1, rfl⟩ := pR h1;obtain ⟨n2, A2, rfl⟩ := pR h2;obtain ⟨k, rfl⟩ := zap h3;exact zao n false A n1 false A1 n2 false A2 k
end Go.Eng
