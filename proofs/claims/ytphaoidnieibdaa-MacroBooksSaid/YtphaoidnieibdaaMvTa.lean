/- States run over the code: what each function gives, and what follows. -/
import Derived.Test.YtphaoidnieibdaaEngb
import Derived.RangeFuncRecord
import Derived.Defers
import Derived.RangeFuncLeaves
import Derived.Shelf.SlMaps.Clone
import Derived.Shelf.SortM.So_math_bits_LenIn
import Derived.Sort.EveryDepth
open Go.IntKind (i64 i32)
open Go.Proofs.Try renaming prog → qa
open List renaming drop → qc, length_map → qd, mem_cons_of_mem → qh, mem_cons_self → qi, map_append → qk, getElem_mem → ql, length_append → qm, getElem?_eq_getElem → qn, length → qo, length_cons → qp, getElem?_append_left → qr, drop_eq_getElem_cons → qv, mem_map_of_mem → qw, drop_of_length_le → qx, getElem_append_left → qab, take_of_length_le → qad, map_cons → qae, length_singleton → qaf, mem_of_getElem? → qag, getD_eq_getElem?_getD → qal, length_take → qap, getElem?_cons_zero → qar, length_nil → qas, range' → qat, getElem?_eq_none → qav, length_filter_le → qaw, range_eq_range' → qax, getElem?_take → qay, map_set → qbc, getElem?_map → qbf, cons_append → qbi, filter_cons → qbj, length_set → qbk
open Array renaming getD_eq_getD_getElem? → qe, replicate → qt, getElem?_append_left → qu, getElem?_eq_none → qac, getElem?_setIfInBounds → qaj, eraseIdxIfInBounds → qao
open Int renaming toNat_natCast → qf, ofNat → qz, lt_trans → qbe, le_refl → qbh
open Nat renaming le_refl → qg, zero_le → qj, eq_of_beq_eq_true → qy, not_lt_zero → qai, succ → qak, lt_or_ge → qan, le_trans → qaq, beq → qau, lt_of_lt_of_le → qbb, lt_trichotomy → qbg
open Bool renaming false_eq_true → qq, and_eq_true → qaa, false_ne_true → qbd
open Option renaming map_some → qah
open Go.Result renaming andThen_ok → qam
open Go.Sem renaming run_bind → qaz, run_pure → qba
set_option linter.unusedVariables false
set_option linter.unusedSimpArgs false
namespace Go.Eng
open Go
abbrev wd (ro : Option Nat) : Fence := { Fence.wide with round := ro }
section
variable {P : Program} {n : Nat} {ro : Option Nat}
theorem u0 {f : FuncId} {args : Array Value} {w : World} {R : Ending -> World -> Prop} (h : Calls P f args w R) : CallsIn (wd ro) n P f args w R := (callsIn_wide (n := n)).2 h
theorem za2 {row : String} {args : Array Value} {w : World} {R : Value -> World -> Prop} (h : Rows P row args w R) : RowsIn (wd ro) n P row args w R :=
 fun c cs _ => let ⟨v, w', r, s⟩ := h c cs; ⟨v, w', r, stepsIn_wide.2 s⟩
theorem za3 {o : Oper} {a : Act} {next next' : Act -> World -> Prop} {Q : Exit -> Act -> World -> Prop} (hn : ∀ a w, next a w -> next' a w) : ∀ {r : Result Next}, o.upon P a next Q r -> o.uponIn (wd ro) n P a next' Q r
 | .ok (.value _) _, h => hn _ _ h
 | .ok .skip _, h => hn _ _ h
 | .ok (.defer _) _, h => hn _ _ h
 | .ok (.enter f args) w, h => ⟨(fun x => by cases x), u0 (Calls.mono h fun e w' q => by cases e <;> first | exact hn _ _ q | exact q)⟩
 | .ok (.row row args) w, h => ⟨(fun x => by cases x), za2 (Rows.mono h fun v w' q => hn _ _ q)⟩
 | .halt (.panic v) w, h => h
theorem kI {ops : Array Oper} {Q : Exit -> Act -> World -> Prop} (hnd : ∀ (i : Nat) o c, ops[i]? = some o -> o.op ≠ .defer c) (hQ : ∀ a w, ¬ Q .outgrown a w) : ∀ {l : List Nat} {a : Act} {w : World}, wpOps P ops Q l a w -> wpOpsIn (wd ro) n P ops Q l a w
 | [], _, _, h => h
 | i :: rest, a, w, h => by
   simp only [wpOps, wpOpsIn] at h ⊢;cases ho : ops[i]? with
   | none => simp only [ho] at h ⊢; exact kI hnd hQ h
   | some o =>
     simp only [ho] at h ⊢;split at h
     ·rename_i hw;rw [if_pos hw];rcases h with h | ⟨_, a1, w1, hq⟩
      ·refine ⟨fun _ _ => trivial, ?_⟩;rw [Oper.semAt_eq _ _ _ (fun c => hnd i o c ho)];exact za3 (fun _ _ q => kI hnd hQ q) h
      ·exact absurd hq (hQ _ _)
     ·rename_i hw;rw [if_neg hw];exact ⟨fun _ _ => trivial, kI hnd hQ h⟩
theorem za4 {F : Fence} {o : Oper} {a : Act} {next next' K : Act -> World -> Prop} {Q : Exit -> Act -> World -> Prop} (hn : ∀ a w, next a w -> next' a w) : ∀ {r : Result Next}, o.uponIn F n P a next (Exit.then K Q) r -> o.uponIn F n P a next' Q r
 | .ok (.value _) _, h => hn _ _ h
 | .ok .skip _, h => hn _ _ h
 | .ok (.defer _) _, h => hn _ _ h
 | .ok (.enter f args) w, h => ⟨h.1, CallsIn.mono h.2 fun e w' q => by cases e <;> first | exact hn _ _ q | exact q⟩
 | .ok (.row row args) w, h => ⟨h.1, RowsIn.mono h.2 fun v w' q => hn _ _ q⟩
 | .ok (.round l f tmps assign body) w, h => ⟨h.1, RoundIn.mono h.2 fun e w' q => by cases e <;> first | exact hn _ _ q | exact q⟩
 | .halt (.panic v) w, h => h
theorem mU {F : Fence} {ops : Array Oper} {Q : Exit -> Act -> World -> Prop} {l2 : List Nat} : ∀ {l1 : List Nat} {a : Act} {w : World}, wpOpsIn F n P ops (Exit.then (wpOpsIn F n P ops Q l2) Q) l1 a w -> wpOpsIn F n P ops Q (l1 ++ l2) a w
 | [], _, _, h => h
 | i :: rest, a, w, h => by
   simp only [wpOpsIn, qbi] at h ⊢;cases ho : ops[i]? with
   | none => simp only [ho] at h ⊢; exact mU h
   | some o =>
     simp only [ho] at h ⊢;split at h
     ·rename_i hw;rw [if_pos hw];exact ⟨h.1, za4 (fun _ _ q => mU q) h.2⟩
     ·rename_i hw;rw [if_neg hw];exact ⟨h.1, mU h.2⟩
end
section
variable {H : Nat -> Option HSpec} {P : Program} {n N : Nat} {ro : Option Nat}
def c5 : List Oper -> Bool
 | [] => true
 | o :: r => (match o.op with | .defer _ => false | _ => true) && c5 r
theorem u7 {ops : Array Oper} (h : c5 ops.toList = true) : ∀ (i : Nat) o c, ops[i]? = some o -> o.op ≠ .defer c := by
 have key : ∀ {l : List Oper}, c5 l = true -> ∀ (i : Nat) o c, l[i]? = some o -> o.op ≠ .defer c := by
  intro l
  induction l with
  | nil => intro _ i o c hi; cases hi
  | cons x r ih =>
    intro hx i o c hi;simp only [c5, qaa] at hx;cases i with
    | zero => simp at hi; subst hi; intro e; rw [e] at hx; exact absurd hx.1 (by simp)
    | succ i => exact ih hx.2 i o c (by simpa using hi)
 intro i o c hi;exact key h i o c (by simpa using hi)
theorem u9 {id : Nat} {ops : Array Oper} {e : Env} {h : Hp} {K : Env -> Hp -> Prop} (hd : c5 ops.toList = true) (hK : aT P H N ops.toList ops.toList e h K) {w : World} {I : Nat -> Prop} {G : Nat -> Pl} {a : Act} (hs : SRel w I G e h N a)
 {Q : Exit -> Act -> World -> Prop} (hQ : ∀ a w, ¬ Q .outgrown a w) (hq : ∀ e' h' w' I' G' a', K e' h' -> SRel w' I' G' e' h' N a' -> a'.defers = a.defers -> TrH w I G h w' I' G' h' -> Q .normal a' w') : (Code.region id ops false).wpIn (wd ro) n P Q a w := by
 refine wpIn_region (kI (u7 hd) hQ ?_);have := mI (Qx := Q) ops.toList 0 e h (fun j _ => by simp) hK w I G a hs hq;simpa [qax] using this
theorem za5 {ops : Array Oper} {l : List Oper} {k : Nat} {e : Env} {h : Hp} {K : Env -> Hp -> Prop} (hd : c5 ops.toList = true) (hl : ∀ j, j < l.length -> l[j]? = ops[k + j]?) (hK : aT P H N ops.toList l e h K) {w : World} {I : Nat -> Prop} {G : Nat -> Pl} {a : Act} (hs : SRel w I G e h N a)
 {Q : Exit -> Act -> World -> Prop} (hQ : ∀ a w, ¬ Q .outgrown a w) (hq : ∀ e' h' w' I' G' a', K e' h' -> SRel w' I' G' e' h' N a' -> a'.defers = a.defers -> TrH w I G h w' I' G' h' -> Q .normal a' w') : wpOpsIn (wd ro) n P ops Q (qat k l.length) a w :=
 kI (u7 hd) hQ (mI (Qx := Q) l k e h hl hK w I G a hs hq)
end
section
variable {H : Nat -> Option HSpec} {P : Program} {n0 N : Nat} {Z : World -> (Nat -> Prop) -> (Nat -> Pl) -> Hp -> Prop}
def CodeZ (Z : World -> (Nat -> Prop) -> (Nat -> Pl) -> Hp -> Prop) (P : Program) (N : Nat) (c : Code) (e : Env) (h : Hp) (Q : Qt) : Prop :=
 ∀ (w : World) (I : Nat -> Prop) (G : Nat -> Pl) (a : Act) (Qx : Exit -> Act -> World -> Prop), SRel w I G e h N a -> Z w I G h ->
  (∀ x e' h' w' I' G' a', Q x e' h' -> SRel w' I' G' e' h' N a' -> a'.defers = a.defers -> Z w' I' G' h' -> Qx x.to a' w') -> c.wp P Qx a w
theorem CodeZ.of (hZ : ∀ w I G h w' I' G' h', Z w I G h -> HRel w I G h -> HRel w' I' G' h' -> TrN n0 w I G h w' I' G' h' -> Z w' I' G' h') {c : Code} {e : Env} {h : Hp} {Q : Qt} (hK : CodeS P n0 N c e h Q) : CodeZ Z P N c e h Q :=
 fun w I G a Qx hs hz hq => hK w I G a Qx hs fun x e' h' w' I' G' a' hk hs' hd ht => hq x e' h' w' I' G' a' hk hs' hd (hZ _ _ _ _ _ _ _ _ hz hs.hh hs'.hh ht)
theorem CodeZ.skip {e : Env} {h : Hp} {Q : Qt} (hK : Q .normal e h) : CodeZ Z P N .skip e h Q :=
 fun w I G a Qx hs hz hq => wp_skip (hq .normal e h w I G a hK hs rfl hz)
theorem CodeZ.ret {e : Env} {h : Hp} {Q : Qt} (hK : Q .ret e h) : CodeZ Z P N .ret e h Q :=
 fun w I G a Qx hs hz hq => wp_ret (hq .ret e h w I G a hK hs rfl hz)
theorem CodeZ.seq {x y : Code} {e : Env} {h : Hp} {Q : Qt} (hK : CodeZ Z P N x e h fun q e h => match q with | .normal => CodeZ Z P N y e h Q | q => Q q e h) : CodeZ Z P N (.seq x y) e h Q := by
 intro w I G a Qx hs hz hq;refine wp_seq (hK w I G a _ hs hz fun q e' h' w' I' G' a' hk hs' hd hz' => ?_);cases q with
 | normal => exact hk w' I' G' a' Qx hs' hz' fun q2 e2 h2 w2 I2 G2 a2 hk2 hs2 hd2 hz2 => hq q2 e2 h2 w2 I2 G2 a2 hk2 hs2 (hd2.trans hd) hz2
 | exit n => exact hq (.exit n) e' h' w' I' G' a' hk hs' hd hz'
 | ret => exact hq .ret e' h' w' I' G' a' hk hs' hd hz'
theorem CodeZ.cond {c : Operand} {x y : Code} {e : Env} {h : Hp} {Q : Qt} {t : Bool} (hc : aF [] e c = some (.pv (.bool t))) (hK : if t = true then CodeZ Z P N x e h Q else CodeZ Z P N y e h Q) : CodeZ Z P N (.cond c x y) e h Q := by
 intro w I G a Qx hs hz hq;refine wp_cond (aB hs.he (AOK.nil _) hc).bool_eq ?_;cases t with
 | true => simp only [if_true] at hK ⊢; exact hK w I G a Qx hs hz hq
 | false => simp only [qq, if_false] at hK ⊢; exact hK w I G a Qx hs hz hq
theorem CodeZ.block {id : Nat} {c : Code} {e : Env} {h : Hp} {Q : Qt}
 (hK : CodeZ Z P N c e h fun q e h => match q with | .exit n => (bif qau n id then Q .normal e h else Q (.exit n) e h) | q => Q q e h) : CodeZ Z P N (.block id c) e h Q := by
 intro w I G a Qx hs hz hq;refine wp_block (hK w I G a _ hs hz fun q e' h' w' I' G' a' hk hs' hd hz' => ?_);cases q with
 | normal => exact hq .normal e' h' w' I' G' a' hk hs' hd hz'
 | ret => exact hq .ret e' h' w' I' G' a' hk hs' hd hz'
 | exit n =>
   simp only [Ex.to, Exit.inBlock];cases hb : qau n id with
   | true =>
     simp only [hb, cond_true] at hk;rw [if_pos (qy hb)];exact hq .normal e' h' w' I' G' a' hk hs' hd hz'
   | false =>
     simp only [hb, cond_false] at hk;rw [if_neg (fun e => by subst e; simp at hb)];exact hq (.exit n) e' h' w' I' G' a' hk hs' hd hz'
theorem CodeZ.mono {c : Code} {e : Env} {h : Hp} {Q Q' : Qt} (hK : CodeZ Z P N c e h Q) (hq : ∀ x e h, Q x e h -> Q' x e h) : CodeZ Z P N c e h Q' :=
 fun w I G a Qx hs hz hq' => hK w I G a Qx hs hz fun x e' h' w' I' G' a' hk => hq' x e' h' w' I' G' a' (hq _ _ _ hk)
theorem SRel.le {w : World} {I : Nat -> Prop} {G : Nat -> Pl} {e e' : Env} {h : Hp} {a : Act} (hs : SRel w I G e h N a) (hl : ∀ i v, get e' i = some v -> get e i = some v) : SRel w I G e' h N a := ⟨hs.hh, fun i v hi => hs.he i v (hl i v hi), hs.hn⟩
def LeE : Env -> Env -> Prop
 | [], _ => True
 | (i, v) :: r, e => get e i = some v /\ LeE r e
theorem LeE.le : ∀ {e' e : Env}, LeE e' e -> ∀ i v, get e' i = some v -> get e i = some v
 | [], _, _, i, v, h => by cases h
 | (k, x) :: r, e, hl, i, v, h => by
   simp only [get] at h;cases hb : qau k i with
   | true => rw [hb] at h; have := qy hb; subst this; cases h; exact hl.1
   | false => rw [hb] at h; exact hl.2.le i v h
theorem CodeZ.loop {c : Code} {e : Env} {h : Hp} {Q : Qt} {σ : Type} (S : σ -> Env × Hp) (J : σ -> Prop) (μ : σ -> Nat) (s0 : σ) (he : ∀ i v, get (S s0).1 i = some v -> get e i = some v) (hh : h = (S s0).2) (hJ : J s0)
 (hb : ∀ s, J s -> CodeZ Z P N c (S s).1 (S s).2 fun x e h => match x with | .normal => ∃ s', (∀ i v, get (S s').1 i = some v -> get e i = some v) /\ h = (S s').2 /\ J s' /\ μ s' < μ s | x => Q x e h) : CodeZ Z P N (.loop c) e h Q := by
 intro w I G a Qx hs hz hq;subst hh
 refine wp_loop_ghost (fun n a1 w1 => ∃ s I1 G1, μ s = n /\ J s /\ SRel w1 I1 G1 (S s).1 (S s).2 N a1 /\ a1.defers = a.defers /\ Z w1 I1 G1 (S s).2) (μ s0)
  ⟨s0, I, G, rfl, hJ, hs.le he, rfl, hz⟩ ?_
 rintro n a1 w1 ⟨s, I1, G1, rfl, hj, hs1, hd1, hz1⟩;refine hb s hj w1 I1 G1 a1 _ hs1 hz1 fun x e2 h2 w2 I2 G2 a2 hk hs2 hd2 hz2 => ?_;cases x with
 | normal =>
   obtain ⟨s', hf, rfl, hj', hlt⟩ := hk;exact ⟨μ s', hlt, s', I2, G2, rfl, hj', hs2.le hf, hd2.trans hd1, hz2⟩
 | exit n => exact hq (.exit n) e2 h2 w2 I2 G2 a2 hk hs2 (hd2.trans hd1) hz2
 | ret => exact hq .ret e2 h2 w2 I2 G2 a2 hk hs2 (hd2.trans hd1) hz2
end
section
variable {w w' w2 : World} {I I' I2 : Nat -> Prop} {G G' G2 : Nat -> Pl} {h h' h2 : Hp}
theorem HRel.frame (hh : HRel w I G h) (hb : ∀ b, aC h G b -> w'.heap[b]? = w.heap[b]?) (hk : Keeps w I w' I') (hn : ∀ b, aC h G b -> ¬ I' b) (hc : ∀ b, I' b -> b < w'.heap.size) : HRel w' I' G h := by
 have blk : ∀ (i : Nat) x, h[i]? = some x -> x.alive (G i) -> w'.heap[(G i).blk]? = w.heap[(G i).blk]? := fun i x hx ha => hb _ ⟨i, x, hx, ha, rfl⟩;refine ⟨fun i x hx => ?_, hh.sep, fun i x hx ha => hn _ ⟨i, x, hx, ha, rfl⟩, hc⟩;have := hh.obs i x hx;cases x with
 | dead => trivial
 | box cs => obtain ⟨vs, ty, e1, e2, e3⟩ := this; exact ⟨vs, ty, by rw [blk i _ hx trivial]; exact e1, e2, fun k v hv => ⟨(e3 k v hv).1.mono hk (.refl _ _), (e3 k v hv).2⟩⟩
 | arr cs => obtain ⟨vs, ty, e1, e2, e3⟩ := this; exact ⟨vs, ty, by rw [blk i _ hx trivial]; exact e1, e2, fun k v hv => ⟨(e3 k v hv).1.mono hk.1 hk.2, (e3 k v hv).2⟩⟩
 | sl ty m n es =>
   cases n with
   | true => exact this
   | false =>
     obtain ⟨e1, e2, e3, e3', e4, e5⟩ := this;refine ⟨e1, e2, e3, e3', e4, fun hc => ?_⟩;obtain ⟨vs, f1, f2, f3⟩ := e5 hc;exact ⟨vs, by rw [blk i _ hx ⟨rfl, hc⟩]; exact f1, f2, fun i' e he k v hv => ⟨(f3 i' e he k v hv).1.mono hk.1 hk.2, (f3 i' e he k v hv).2⟩⟩
 | mp kvs => obtain ⟨es, ck, e1, e2, e3⟩ := this; exact ⟨es, ck, by rw [blk i _ hx trivial]; exact e1, e2, fun k kv hv => ⟨(e3 k kv hv).1.mono hk.1 hk.2, (e3 k kv hv).2.mono hk.1 hk.2⟩⟩
 | iter ty rem cur => exact IterRel.mono this (blk i _ hx trivial) hk
theorem HRel.beside (hh : HRel w I G h) (h2r : HRel w I G2 h2) (hs : ∀ b, aC h G b -> ¬ aC h2 G2 b) (t : Tr w I (aC h2 G2) w' I' (aC h' G')) (hc : ∀ b, I' b -> b < w'.heap.size) :
 HRel w' I' G h /\ Keeps w I w' I' /\ ∀ b, aC h G b -> ¬ aC h' G' b := by
 have hk : Keeps w I w' I' := ⟨fun b hb hlt => t.keep b hlt fun ⟨o, ob, h1, h2, e⟩ => h2r.nI o ob h1 h2 (e ▸ hb), fun b hb _ => t.i1 b hb⟩;refine ⟨hh.frame (fun b hb => t.keep b (hh.blk_lt hb) (hs b hb)) hk (fun b hb hI => ?_) hc, hk, fun b hb ho => ?_⟩
 ·rcases t.i2 b hI with q | q | q
  ·obtain ⟨o, ob, q1, q2, rfl⟩ := hb; exact hh.nI o ob q1 q2 q
  ·exact hs b hb q
  ·exact absurd (hh.blk_lt hb) (Nat.not_lt.2 q)
 ·rcases t.own2 b ho with q | q
  ·exact hs b hb q
  ·exact absurd (hh.blk_lt hb) (Nat.not_lt.2 q)
end
section
variable {α : Type} {Z : α -> World -> (Nat -> Prop) -> (Nat -> Pl) -> Hp -> Prop} {P : Program} {n0 N : Nat}
def CodeY (Z : α -> World -> (Nat -> Prop) -> (Nat -> Pl) -> Hp -> Prop) (P : Program) (N : Nat) (c : Code) (s : α) (e : Env) (h : Hp) (Q : α -> Qt) : Prop :=
 ∀ (w : World) (I : Nat -> Prop) (G : Nat -> Pl) (a : Act) (Qx : Exit -> Act -> World -> Prop), SRel w I G e h N a -> Z s w I G h ->
  (∀ s' x e' h' w' I' G' a', Q s' x e' h' -> SRel w' I' G' e' h' N a' -> a'.defers = a.defers -> Z s' w' I' G' h' -> Qx x.to a' w') -> c.wp P Qx a w
def kJ (Z : α -> World -> (Nat -> Prop) -> (Nat -> Pl) -> Hp -> Prop) (n0 : Nat) : Prop := ∀ s w I G h w' I' G' h', Z s w I G h -> HRel w I G h -> HRel w' I' G' h' -> TrN n0 w I G h w' I' G' h' -> Z s w' I' G' h'
theorem CodeY.of (hZ : kJ Z n0) {c : Code} {s : α} {e : Env} {h : Hp} {Q : α -> Qt} (hK : CodeS P n0 N c e h (Q s)) : CodeY Z P N c s e h Q :=
 fun w I G a Qx hs hz hq => hK w I G a Qx hs fun x e' h' w' I' G' a' hk hs' hd ht => hq s x e' h' w' I' G' a' hk hs' hd (hZ _ _ _ _ _ _ _ _ _ hz hs.hh hs'.hh ht)
theorem CodeY.skip {s : α} {e : Env} {h : Hp} {Q : α -> Qt} (hK : Q s .normal e h) : CodeY Z P N .skip s e h Q :=
 fun w I G a Qx hs hz hq => wp_skip (hq s .normal e h w I G a hK hs rfl hz)
theorem CodeY.ret {s : α} {e : Env} {h : Hp} {Q : α -> Qt} (hK : Q s .ret e h) : CodeY Z P N .ret s e h Q :=
 fun w I G a Qx hs hz hq => wp_ret (hq s .ret e h w I G a hK hs rfl hz)
theorem CodeY.exit {n : Nat} {s : α} {e : Env} {h : Hp} {Q : α -> Qt} (hK : Q s (.exit n) e h) : CodeY Z P N (.exit n) s e h Q :=
 fun w I G a Qx hs hz hq => wp_exit (hq s (.exit n) e h w I G a hK hs rfl hz)
theorem CodeY.seq {x y : Code} {s : α} {e : Env} {h : Hp} {Q : α -> Qt} (hK : CodeY Z P N x s e h fun s q e h => match q with | .normal => CodeY Z P N y s e h Q | q => Q s q e h) : CodeY Z P N (.seq x y) s e h Q := by
 intro w I G a Qx hs hz hq;refine wp_seq (hK w I G a _ hs hz fun s' q e' h' w' I' G' a' hk hs' hd hz' => ?_);cases q with
 | normal => exact hk w' I' G' a' Qx hs' hz' fun s2 q2 e2 h2 w2 I2 G2 a2 hk2 hs2 hd2 hz2 => hq s2 q2 e2 h2 w2 I2 G2 a2 hk2 hs2 (hd2.trans hd) hz2
 | exit n => exact hq s' (.exit n) e' h' w' I' G' a' hk hs' hd hz'
 | ret => exact hq s' .ret e' h' w' I' G' a' hk hs' hd hz'
theorem CodeY.cond {c : Operand} {x y : Code} {s : α} {e : Env} {h : Hp} {Q : α -> Qt} {t : Bool} (hc : aF [] e c = some (.pv (.bool t))) (hK : if t = true then CodeY Z P N x s e h Q else CodeY Z P N y s e h Q) : CodeY Z P N (.cond c x y) s e h Q := by
 intro w I G a Qx hs hz hq;refine wp_cond (aB hs.he (AOK.nil _) hc).bool_eq ?_;cases t with
 | true => simp only [if_true] at hK ⊢; exact hK w I G a Qx hs hz hq
 | false => simp only [qq, if_false] at hK ⊢; exact hK w I G a Qx hs hz hq
theorem CodeY.block {id : Nat} {c : Code} {s : α} {e : Env} {h : Hp} {Q : α -> Qt}
 (hK : CodeY Z P N c s e h fun s q e h => match q with | .exit n => (bif qau n id then Q s .normal e h else Q s (.exit n) e h) | q => Q s q e h) : CodeY Z P N (.block id c) s e h Q := by
 intro w I G a Qx hs hz hq;refine wp_block (hK w I G a _ hs hz fun s' q e' h' w' I' G' a' hk hs' hd hz' => ?_);cases q with
 | normal => exact hq s' .normal e' h' w' I' G' a' hk hs' hd hz'
 | ret => exact hq s' .ret e' h' w' I' G' a' hk hs' hd hz'
 | exit n =>
   simp only [Ex.to, Exit.inBlock];cases hb : qau n id with
   | true =>
     simp only [hb, cond_true] at hk;rw [if_pos (qy hb)];exact hq s' .normal e' h' w' I' G' a' hk hs' hd hz'
   | false =>
     simp only [hb, cond_false] at hk;rw [if_neg (fun e => by subst e; simp at hb)];exact hq s' (.exit n) e' h' w' I' G' a' hk hs' hd hz'
theorem CodeY.mono {c : Code} {s : α} {e : Env} {h : Hp} {Q Q' : α -> Qt} (hK : CodeY Z P N c s e h Q) (hq : ∀ s x e h, Q s x e h -> Q' s x e h) : CodeY Z P N c s e h Q' :=
 fun w I G a Qx hs hz hq' => hK w I G a Qx hs hz fun s' x e' h' w' I' G' a' hk => hq' s' x e' h' w' I' G' a' (hq _ _ _ _ hk)
theorem CodeY.le {c : Code} {s : α} {e e' : Env} {h : Hp} {Q : α -> Qt} (hl : LeE e' e) (hK : CodeY Z P N c s e' h Q) : CodeY Z P N c s e h Q :=
 fun w I G a Qx hs hz hq => hK w I G a Qx (hs.le hl.le) hz hq
theorem CodeY.loop {c : Code} {s : α} {e : Env} {h : Hp} {Q : α -> Qt} {σ : Type} (S : σ -> Env × Hp) (A : σ -> α) (J : σ -> Prop) (μ : σ -> Nat) (s0 : σ) (he : LeE (S s0).1 e) (hh : h = (S s0).2) (ha : s = A s0) (hJ : J s0)
 (hb : ∀ u, J u -> CodeY Z P N c (A u) (S u).1 (S u).2 fun s' x e h => match x with | .normal => ∃ u', LeE (S u').1 e /\ h = (S u').2 /\ s' = A u' /\ J u' /\ μ u' < μ u | x => Q s' x e h) : CodeY Z P N (.loop c) s e h Q := by
 intro w I G a Qx hs hz hq;subst hh;subst ha
 refine wp_loop_ghost (fun n a1 w1 => ∃ u I1 G1, μ u = n /\ J u /\ SRel w1 I1 G1 (S u).1 (S u).2 N a1 /\ a1.defers = a.defers /\ Z (A u) w1 I1 G1 (S u).2) (μ s0)
  ⟨s0, I, G, rfl, hJ, hs.le he.le, rfl, hz⟩ ?_
 rintro n a1 w1 ⟨u, I1, G1, rfl, hj, hs1, hd1, hz1⟩;refine hb u hj w1 I1 G1 a1 _ hs1 hz1 fun s' x e2 h2 w2 I2 G2 a2 hk hs2 hd2 hz2 => ?_;cases x with
 | normal =>
   obtain ⟨u', hf, rfl, rfl, hj', hlt⟩ := hk;exact ⟨μ u', hlt, u', I2, G2, rfl, hj', hs2.le hf.le, hd2.trans hd1, hz2⟩
 | exit n => exact hq s' (.exit n) e2 h2 w2 I2 G2 a2 hk hs2 (hd2.trans hd1) hz2
 | ret => exact hq s' .ret e2 h2 w2 I2 G2 a2 hk hs2 (hd2.trans hd1) hz2
end
section
variable {H : Nat -> Option HSpec} {P : Program} {N : Nat} {ops : Array Oper} {Φ : Act -> World -> Prop} {k : Nat} {a : Act} {w : World}
def OpsN (P : Program) (ops : Array Oper) (k : Nat) (Φ : Act -> World -> Prop) (a : Act) (w : World) : Prop := wpOpsIn (wd none) 0 P ops (fun x a w => x = .normal /\ Φ a w) (qat k (ops.size - k)) a w
theorem mV {id : Nat} {Q : Exit -> Act -> World -> Prop} (h : OpsN P ops 0 Φ a w) (hq : ∀ a' w', Φ a' w' -> Q .normal a' w') : (Code.region id ops false).wp P Q a w := by
 refine wp_mono (Q := fun x a w => x = .normal /\ Φ a w) ((wpIn_wide (n := 0)).1 (wpIn_region (F := wd none) ?_)) ?_
 ·rw [qax]; exact h
 ·rintro x a' w' ⟨rfl, hp⟩; exact hq _ _ hp
theorem OpsN.last (hk : ops.size <= k) (h : Φ a w) : OpsN P ops k Φ a w := by
 unfold OpsN;rw [Nat.sub_eq_zero_of_le hk];exact ⟨rfl, h⟩
theorem OpsN.step (hd : c5 ops.toList = true) (j : Nat) {e : Env} {h : Hp} {K : Env -> Hp -> Prop} (hj : k + j <= ops.size) (hK : aT P H N ops.toList ((ops.toList.drop k).take j) e h K) {I : Nat -> Prop} {G : Nat -> Pl} (hs : SRel w I G e h N a)
 (hq : ∀ e' h' w' I' G' a', K e' h' -> SRel w' I' G' e' h' N a' -> a'.defers = a.defers -> TrH w I G h w' I' G' h' -> OpsN P ops (k + j) Φ a' w') : OpsN P ops k Φ a w := by
 unfold OpsN;rw [show ops.size - k = j + (ops.size - (k + j)) by omega, <- List.range'_append_1];refine mU ?_;have hl : ((ops.toList.drop k).take j).length = j := by simp; omega
 have := za5 (ro := none) (n := 0) (k := k) (Q := Exit.then (wpOpsIn (wd none) 0 P ops (fun x a w => x = .normal /\ Φ a w) (qat (k + j) (ops.size - (k + j)))) fun x a w => x = .normal /\ Φ a w) hd (fun i hi => by
  rw [qay, if_pos (by omega), List.getElem?_drop]; simp) hK hs (fun a w h => nomatch h.1) hq
 rw [hl] at this;exact this
theorem OpsN.one {o : Oper} (ho : ops[k]? = some o) (hg : o.guard = none) (h : o.wpIn (wd none) 0 P a w (fun a w => OpsN P ops (k + 1) Φ a w) (fun x a w => x = .normal /\ Φ a w)) : OpsN P ops k Φ a w := by
 have hlt : k < ops.size := (Array.getElem?_eq_some_iff.1 ho).1;unfold OpsN;rw [show ops.size - k = (ops.size - (k + 1)) + 1 by omega, List.range'_succ];simp only [wpOpsIn, ho];rw [if_pos (by simp [Region.wanted, hg])];exact h
theorem OpsN.value {o : Oper} (ho : ops[k]? = some o) (hg : o.guard = none) {v : Value} (hr : (execOp a.eval o).run P w = .ok (.value v) w) (h : OpsN P ops (k + 1) Φ (a.put o.dst v) w) : OpsN P ops k Φ a w := by
 refine OpsN.one ho hg ⟨fun _ _ => trivial, ?_⟩;show o.uponIn (wd none) 0 P a _ _ ((o.semAt none a.eval).run P w);rw [Oper.semAt_none, hr];exact h
theorem OpsN.call {o : Oper} (ho : ops[k]? = some o) (hg : o.guard = none) {f : Nat} {args : Array Value} (hr : (execOp a.eval o).run P w = .ok (.enter f args) w) {R : Value -> World -> Prop} (hc : Calls P f args w fun e w' => ∃ cv, e = .returned cv /\ R cv w')
 (h : ∀ cv w', R cv w' -> OpsN P ops (k + 1) Φ (a.put o.dst cv) w') : OpsN P ops k Φ a w := by
 refine OpsN.one ho hg ⟨fun _ _ => trivial, ?_⟩;show o.uponIn (wd none) 0 P a _ _ ((o.semAt none a.eval).run P w);rw [Oper.semAt_none, hr];refine ⟨(fun x => by cases x), (u0 hc).mono ?_⟩;rintro e w' ⟨cv, rfl, hR⟩;exact h cv w' hR
end
theorem SRel.unm {w : World} {I : Nat -> Prop} {G : Nat -> Pl} {e : Env} {h : Hp} {N : Nat} {a : Act} (hs : SRel w I G e h N a) : SRel w I G e (unm h) N a :=
 ⟨(oK hs.hh).1, hs.he.mono (Keeps.refl w I) (oK hs.hh).2.2, hs.hn⟩
theorem SRel.view {w : World} {I : Nat -> Prop} {G : Nat -> Pl} {e : Env} {h : Hp} {N : Nat} {a : Act} (hs : SRel w I G e h N a) {d : Nat} {v : LV} (hv : LRel w I G h v (a.tmps.getD d undef)) : SRel w I G ((d, v) :: e) h N a := by
 refine ⟨hs.hh, fun i u hi => ?_, hs.hn⟩;simp only [get] at hi;cases hb : qau d i with
 | true => rw [hb] at hi; cases hi; have := qy hb; subst this; exact VRel.of_plain hv
 | false => rw [hb] at hi; exact hs.he i u hi
end Go.Eng
namespace Go.Eng
open Go
open Go.ChangeMaps (setBlock)
def StackM (w : World) (b : Nat) (st : List Int) : Prop := ∃ es ck, w.heap[b]? = some (.map es ck) /\ es.size = st.length /\ ∀ (j : Nat) x, st[j]? = some x -> (es.getD j default).key = .int .i32 x /\ (es.getD j default).val = .bool true
def dP (st : List Int) : List (PV × PV) := st.map fun x => (PV.int .i32 x, PV.bool true)
theorem mW (x : Int) : ∀ (st : List Int), (x ∉ st /\ aS (.int .i32 x) (dP st) = none) ∨ ∃ j, j < st.length /\ st[j]? = some x /\ aS (.int .i32 x) (dP st) = some j
 | [] => .inl ⟨by simp, rfl⟩
 | y :: r => by
   have he : cQ (.int .i32 x) (.int .i32 y) = decide (x = y) := by
    simp [cQ, cO, l9]; rfl
   simp only [dP, qae, aS, he];by_cases e : x = y
   ·subst e;exact .inr ⟨0, by simp, rfl, by simp⟩
   ·rw [decide_eq_false e];rcases mW x r with ⟨h1, h2⟩ | ⟨j, h1, h2, h3⟩
    ·refine .inl ⟨by simp [e, h1], ?_⟩;have : aS (.int .i32 x) (r.map fun x => (PV.int .i32 x, PV.bool true)) = none := h2;rw [this]; rfl
    ·refine .inr ⟨j + 1, by simp; omega, by simpa using h2, ?_⟩
     have : aS (.int .i32 x) (r.map fun x => (PV.int .i32 x, PV.bool true)) = some j := h3;rw [this]; rfl
theorem p0 (st : List Int) : (dP st).length = st.length := by simp [dP]
section
variable {P : Program} {w : World} {b : Nat} {st : List Int} {t kt et : TypeId}
theorem p6 (hk : P.underlying kt = some (.int .i32)) (st : List Int) : eZ P kt (dP st) := fun kv h => by
 obtain ⟨x, _, rfl⟩ := List.mem_map.1 h;simp [a7, hk, l9]
theorem mX (hk : P.underlying kt = some (.int .i32)) (x : Int) : a7 P kt (.int .i32 x) = true := by simp [a7, hk, l9]
theorem StackM.reps {es : Array MapEntry} (h : ∀ (j : Nat) x, st[j]? = some x -> (es.getD j default).key = .int .i32 x /\ (es.getD j default).val = .bool true) : ∀ (j : Nat) kv, (dP st)[j]? = some kv -> Rep w (fun _ => False) kv.1 (es.getD j default).key := fun j kv hj => by
 simp only [dP, qbf] at hj;cases hx : st[j]? with
 | none => rw [hx] at hj; cases hj
 | some x => rw [hx] at hj; cases hj; rw [(h j x hx).1]; exact .int _ _
theorem za6 (ht : P.underlying t = some (.map kt et)) (hk : P.underlying kt = some (.int .i32)) {ti : TypeInfo} (hi : P.info? et = some ti) (hz : ti.zero = some (.bool false)) (hs : StackM w b st) (x : Int) :
 (Instr.lookup t (.map (some b)) (.int .i32 x) false).run P w = .ok (.bool (decide (x ∈ st))) w := by
 obtain ⟨es, ck, h1, h2, h3⟩ := hs;rw [tX (I := fun _ => False) ht hi hz (.inr ⟨b, ck, rfl, h1⟩) (kvs := dP st) (by rw [p0]; exact h2) (mX hk x) (.int _ _) (p6 hk st) (StackM.reps h3) false];rcases mW x st with ⟨e1, e2⟩ | ⟨j, e1, e2, e3⟩
 ·rw [e2, decide_eq_false e1]; rfl
 ·rw [e3, decide_eq_true (qag e2)];simp only [qq, if_false];rw [(h3 j x e2).2]
theorem za7 (ht : P.underlying t = some (.map kt et)) (hk : P.underlying kt = some (.int .i32)) (hs : StackM w b st) {x : Int} (hx : x ∉ st) :
 ∃ o, (Instr.mapUpdate t (.map (some b)) (.int .i32 x) (.bool true)).run P w = .ok () (setBlock w b o) /\ StackM (setBlock w b o) b (st ++ [x]) := by
 obtain ⟨es, ck, h1, h2, h3⟩ := hs;refine ⟨_, tT (I := fun _ => False) ht h1 (kvs := dP st) (by rw [p0]; exact h2) (mX hk x) (.int _ _) (p6 hk st) (StackM.reps h3) (.bool true), ?_⟩;rcases mW x st with ⟨e1, e2⟩ | ⟨j, e1, e2, e3⟩
 ·rw [e2]
  have hlt : b < w.heap.size := by
   rcases qan b w.heap.size with h | h
   ·exact h
   ·rw [qac h] at h1; cases h1
  refine ⟨es.push { key := .int .i32 x, val := .bool true, born := ck }, ck + 1, by simp [setBlock, fM, hlt], by simp [h2], fun j y hj => ?_⟩;rcases qbg j st.length with hj' | hj' | hj'
  ·rw [qr hj'] at hj;have := h3 j y hj
   have e : (es.push { key := .int .i32 x, val := .bool true, born := ck }).getD j default = es.getD j default := by
    simp [qe, Array.getElem?_push, show j ≠ es.size by omega]
   rw [e]; exact this
  ·subst hj';rw [List.getElem?_append_right (qg _)] at hj;simp only [Nat.sub_self, qar, Option.some.injEq] at hj;subst hj
   have e : (es.push { key := .int .i32 x, val := .bool true, born := ck }).getD st.length default = { key := .int .i32 x, val := .bool true, born := ck } := by
    rw [qe, <- h2, Array.getElem?_push_size]; rfl
   rw [e]; exact ⟨rfl, rfl⟩
  ·rw [qav (by simp; omega)] at hj; cases hj
 ·exact absurd (qag e2) hx
theorem za8 (ht : P.underlying t = some (.map kt et)) (hk : P.underlying kt = some (.int .i32)) {x : Int} (hs : StackM w b (st ++ [x])) (hx : x ∉ st) (t2 ty : TypeId) :
 ∃ o, (Builtin.delete_ #[t, t2] ty #[.map (some b), .int .i32 x]).run P w = .ok (.tuple #[]) (setBlock w b o) /\ StackM (setBlock w b o) b st := by
 obtain ⟨es, ck, h1, h2, h3⟩ := hs
 have hlt : b < w.heap.size := by
  rcases qan b w.heap.size with h | h
  ·exact h
  ·rw [qac h] at h1; cases h1
 have hf := l8 (P := P) (w := w) (I := fun _ => False) (mX hk x) (Rep.int .i32 x) (es := es) (kvs := dP (st ++ [x])) (by rw [p0]; exact h2) (p6 hk _) (StackM.reps h3)
 have hp : aS (.int .i32 x) (dP (st ++ [x])) = some st.length := by
  rcases mW x (st ++ [x]) with ⟨e1, _⟩ | ⟨j, e1, e2, e3⟩
  ·exact absurd (by simp) e1
  ·rw [e3];rcases qan j st.length with hj | hj
   ·rw [qr hj] at e2;exact absurd (qag e2) hx
   ·congr 1;rw [qm, qaf] at e1;omega
 rw [hp] at hf;rw [qm, qaf] at h2;refine ⟨Obj.map (es.eraseIdxIfInBounds st.length) ck, ?_, es.eraseIdxIfInBounds st.length, ck, by simp [setBlock, hlt], ?_, fun j y hj => ?_⟩
 ·unfold Builtin.delete_;simp only [List.getElem?_toArray, qar, List.getElem?_cons_succ, underlying, qaz, run_program, qam, ht, qba, fV h1, j6 (mX hk x) (Rep.int (w := w) (I := fun _ => False) .i32 x), hf, qah, iJ h1]
 ·simp [qao, h2]
 ·have hjl := (List.getElem?_eq_some_iff.1 hj).1;have := h3 j y (by rw [qr hjl]; exact hj)
  have e : (es.eraseIdxIfInBounds st.length).getD j default = es.getD j default := by
   have hb : st.length < es.size := by omega
   simp only [qao, hb, dif_pos, qe];rw [Array.getElem?_eraseIdx, if_pos hjl]
  rw [e]; exact this
end
end Go.Eng
namespace Go.Eng
open Go
section
variable {P : Program}
theorem za9 {fr : Frame} {cs : List Frame} {w w' : World} {d : Deferred} {ds : List Deferred} {b : Builtin} {ts : Array TypeId} {t : TypeId} {ks : Array Bool} {v : Value} (hm : fr.mode ≠ .run) (hd : fr.defers = d :: ds) (ht : d.target = .builtin b ts t ks)
 (hi : (invoke d.target d.args).run P w = .ok (.value v) w') : step P (lone fr cs w) = .next (lone { fr with defers := ds } cs w') := by
 obtain ⟨t, a⟩ := d;simp only at ht hi;subst ht;refine step_lone_go ?_;cases hmode : fr.mode with
 | run => exact absurd hmode hm
 | returning => simp [stepG, unwind, callDeferred, hmode, hd, hi]
 | panicking chain => simp [stepG, unwind, callDeferred, hmode, hd, hi]
def iU (P : Program) (fn : Func) (R : Ending -> World -> Prop) (a : Act) (w : World) : Prop := match a.defers with
 | [] => ∃ v, (results fn a.tmps).run P w = .ok v w /\ R (.returned v) w
 | [d] => ∃ b ts t ks u w' v, d.target = .builtin b ts t ks /\ (invoke d.target d.args).run P w = .ok (.value u) w' /\ (results fn a.tmps).run P w' = .ok v w' /\ R (.returned v) w'
 | _ => False
def zba (P : Program) (fn : Func) (R : Ending -> World -> Prop) : Exit -> Act -> World -> Prop
 | .normal, a, w | .ret, a, w => iU P fn R a w
 | _, _, _ => False
theorem zbb {f : FuncId} {fn : Func} {c : Code} {args : Array Value} {w : World} {R : Ending -> World -> Prop} (hf : P.funcs[f]? = some fn) (hb : fn.body = some c)
 (h : c.wp P (zba P fn R) { tmps := args ++ qt (fn.ntmps - args.size) undef, defers := [] } w) : Calls P f args w R := by
 intro cs
 let b : Frame := { (default : Frame) with fn := f, kind := .normal }
 have henter : Frame.enter P f args .normal = b.at { tmps := args ++ qt (fn.ntmps - args.size) undef, defers := [] } [.code c] := by
  simp [Frame.enter, Frame.at, hf, hb, b]
 obtain ⟨e, a', w', hq, harr⟩ := h b [] cs;rw [<- henter] at harr
 have key : ∀ todo, iU P fn R a' w' -> ∃ e' w'' fr', R e' w'' /\ Comes P (lone { b.at a' todo with mode := .returning } cs w') (lone fr' cs w'') e' /\ fr'.fn = f /\ fr'.leaving P w'' e' := fun todo hl => by
  unfold iU at hl;split at hl
  ·rename_i hd;obtain ⟨v, hr, hR⟩ := hl;exact ⟨.returned v, w', _, hR, Steps.refl P _, rfl, rfl, hd, rfl, fn, hf, hr⟩
  ·rename_i d hd;obtain ⟨bb, ts, t, ks, u, w2, v, h1, h2, h3, h4⟩ := hl;exact ⟨.returned v, w2, _, h4, Steps.one (za9 (fr := { b.at a' todo with mode := .returning }) (by simp) hd h1 h2), rfl, rfl, rfl, rfl, fn, hf, h3⟩
  ·exact hl.elim
 cases e with
 | normal =>
   obtain ⟨e', w'', fr', hR, hs, hfn, hl⟩ := key [] hq;exact ⟨e', w'', fr', hR, Comes.of_steps (Steps.trans harr (.one step_end)) hs, hfn, hl⟩
 | ret =>
   obtain ⟨todo, hs₀⟩ := harr;obtain ⟨e', w'', fr', hR, hs, hfn, hl⟩ := key todo hq;exact ⟨e', w'', fr', hR, Comes.of_steps hs₀ hs, hfn, hl⟩
 | panic chain => exact hq.elim
 | exit id => exact hq.elim
 | goto l => exact hq.elim
 | outgrown => exact hq.elim
theorem zbc {o : Oper} {a : Act} {next next' K : Act -> World -> Prop} {Q : Exit -> Act -> World -> Prop} (hn : ∀ a w, next a w -> next' a w) : ∀ {r : Result Next}, o.upon P a next (Exit.then K Q) r -> o.upon P a next' Q r
 | .ok (.value _) _, h => hn _ _ h
 | .ok .skip _, h => hn _ _ h
 | .ok (.defer _) _, h => hn _ _ h
 | .ok (.enter f args) w, h => Calls.mono h fun e w' q => by cases e <;> first | exact hn _ _ q | exact q
 | .ok (.row row args) w, h => Rows.mono h fun v w' q => hn _ _ q
 | .halt (.panic v) w, h => h
theorem mY {ops : Array Oper} {Q : Exit -> Act -> World -> Prop} {l2 : List Nat} : ∀ {l1 : List Nat} {a : Act} {w : World}, wpOps P ops (Exit.then (wpOps P ops Q l2) Q) l1 a w -> wpOps P ops Q (l1 ++ l2) a w
 | [], _, _, h => h
 | i :: rest, a, w, h => by
   simp only [wpOps, qbi] at h ⊢;cases ho : ops[i]? with
   | none => simp only [ho] at h ⊢; exact mY h
   | some o =>
     simp only [ho] at h ⊢;split at h
     ·rename_i hw;rw [if_pos hw];exact h.imp (fun h => zbc (fun _ _ q => mY q) h) fun h => ⟨h.1, h.2⟩
     ·rename_i hw;rw [if_neg hw];exact mY h
end
end Go.Eng
set_option maxRecDepth 100000
namespace Go.Eng
open Go Go.Proofs
def aV : Code -> Code | .seq a _ => a | _ => .skip
def aI : Code -> Code | .seq _ b => b | _ => .skip
def eE : Code -> Code | .block _ c => c | .loop c => c | _ => .skip
def gT : Code -> Array Oper | .region _ o _ => o | _ => #[]
def mM (f : Func) : Code := f.body.getD .skip
def gU : Code -> Code | .cond _ a _ => a | _ => .skip
def zbd : Code -> Code | .cond _ _ a => a | _ => .skip
def xA (f : Func) : Code := aV (mM f)
def xB (f : Func) : Code := aV (aI (mM f))
def xC (f : Func) : Code := eE (aV (aI (aI (mM f))))
def xC2 (f : Func) : Code := zbd (aI (xC f))
def xR (f : Func) : Code := aI (aI (aI (mM f)))
def xL (f : Func) : Code := aV (aI (aI (xR f)))
def xLp (f : Func) : Code := eE (eE (aI (xL f)))
def xLb (f : Func) : Code := eE (aV (aI (aI (xLp f))))
def aN (kvs : List (PV × PV)) (y : Value) (n : Int) (nl : Bool) (T : List (List PV)) : Hp := [.box [.pv (.mp kvs), .own 1, .pv (.raw y), .pv (.int .i64 n)], .sl (30, 4) true nl T]
end Go.Eng
namespace Go.Eng.Rows
structure Row where
 kind : Int
 fr : Int
 to : Int
 a : Int
 b : Int
deriving DecidableEq
structure Sp where
 fr : Int
 to : Int
 a : Int
 b : Int
deriving DecidableEq, Inhabited
def Sp.has (x : Sp) (r : Int) : Prop := x.fr <= r /\ r <= x.to
def kK : List Sp -> Sp -> List Sp
 | [], s => if s.fr <= s.to then [s] else []
 | x :: xs, s => if x.to < s.fr then kK xs s else if s.to < x.fr then kK xs s else
   if s.fr < x.fr then { s with to := x.fr - 1 } :: kK xs { s with fr := x.to + 1 } else kK xs { s with fr := x.to + 1 }
def Rise (l : List Sp) : Prop := l.Pairwise fun x y => x.to < y.fr
def In (l : List Sp) : Prop := ∀ x ∈ l, 0 <= x.fr /\ x.fr <= x.to /\ x.to <= 1114111
def Good (l : List Sp) : Prop := Rise l /\ In l
def Apart (x y : Sp) : Prop := x.to < y.fr ∨ y.to < x.fr
theorem Rise.apart {l : List Sp} (h : Rise l) : l.Pairwise Apart := h.imp fun h => .inl h
theorem Good.len_aux {l : List Sp} (h : Good l) : ∀ c : Int, 0 <= c -> (∀ x ∈ l, c <= x.fr) -> c <= 1114112 -> (l.length : Int) <= 1114112 - c := by
 obtain ⟨h1, h2⟩ := h
 induction l with
 | nil => intro c h0 hc h; simp; omega
 | cons x xs ih =>
   intro c h0 hc hm;have hx := h2 x (qi);have hcx := hc x (qi);have := ih (List.Pairwise.of_cons h1) (fun y hy => h2 y (qh _ hy)) (x.to + 1) (by omega) (fun y hy => by have := List.rel_of_pairwise_cons h1 hy; omega) (by omega);simp only [qp];omega
theorem Good.len {l : List Sp} (h : Good l) : l.length <= 1114112 := by
 have := h.len_aux 0 (qbh _) (fun x hx => (h.2 x hx).1) (by omega);omega
def zbe (acc : List Sp) (x : Sp) : List Sp :=
 match acc.getLast? with
 | some y => if y.to + 1 = x.fr /\ y.a = x.a /\ y.b = x.b then acc.dropLast ++ [{ y with to := x.to }] else acc ++ [x]
 | none => acc ++ [x]
def zbf (l : List Sp) : List Sp := l.foldl zbe []
def Split (l : List Sp) : Prop := ∀ (i : Nat) (h : i + 1 < l.length), ¬ (l[i].to + 1 = l[i+1].fr /\ l[i].a = l[i+1].a /\ l[i].b = l[i+1].b)
theorem Split.append {l : List Sp} {x : Sp} (h : Split l) (hl : ∀ y, l.getLast? = some y -> ¬ (y.to + 1 = x.fr /\ y.a = x.a /\ y.b = x.b)) : Split (l ++ [x]) := by
 intro i hi;simp only [qm, qp, qas] at hi;by_cases h1 : i + 1 < l.length
 ·have := h i h1;rw [qab (by omega), qab h1];exact this
 ·have e : i + 1 = l.length := by omega
  have := hl l[i] (by rw [List.getLast?_eq_getElem?, qn (by omega)]; congr 2; omega);rw [qab (by omega), List.getElem_append_right (by omega)];simpa using this
def ins (x : Sp) : List Sp -> List Sp
 | [] => [x]
 | y :: l => if y.fr < x.fr then y :: ins x l else x :: y :: l
def vA : List Sp -> List Sp
 | [] => []
 | x :: l => ins x (vA l)
def Row.sp (x : Row) : Sp := ⟨if x.fr < 0 then 0 else x.fr, if 1114111 < x.to then 1114111 else x.to, x.a, x.b⟩
def zbg (k : Int) (l : List Sp) (x : Row) : List Sp := if x.kind = k then vA (l ++ kK l x.sp) else l
def zbh (k : Int) (rows : List Row) : List Sp := rows.foldl (zbg k) []
def ofL (k : Int) (rows : List Row) : List Sp := zbf (zbh k rows)
def Row.has (x : Row) (k r : Int) : Bool := decide (x.kind = k) && (decide (x.fr <= r) && decide (r <= x.to))
def first (rows : List Row) (k r : Int) : Option (Int × Int) := (rows.find? fun x => x.has k r).map fun x => (x.a, x.b)
example : ofL 1 [⟨1, 5, 9, 7, 0⟩, ⟨1, 8, 12, 8, 0⟩] = [⟨5, 9, 7, 0⟩, ⟨10, 12, 8, 0⟩] := by decide
end Go.Eng.Rows
namespace Go.Eng.Trie
open Go Go.Eng
variable {α : Type}
def dQ (α : Type) := { l : List α // l.length = 128 }
instance [DecidableEq α] : DecidableEq (dQ α) := fun a b => if h : a.1 = b.1 then isTrue (Subtype.ext h) else isFalse fun e => h (by rw [e])
def rep (v : α) : dQ α := ⟨List.replicate 128 v, by simp⟩
variable {sz : Int} {F : Int -> α} {idx : List Int} {blk : List (dQ α)}
structure TOK (sz : Int) (F : Int -> α) (idx : List Int) (blk : List (dQ α)) : Prop where
 len : sz <= 128 * idx.length
 ok : ∀ (q : Nat) k, idx[q]? = some k -> 0 <= k /\ ∃ b : dQ α, blk[k.toNat]? = some b /\ ∀ (j : Nat) u, b.1[j]? = some u -> (128 * q + j : Int) < sz -> u = F (128 * q + j)
theorem TOK.get (h : TOK sz F idx blk) {i : Int} (h0 : 0 <= i) (h1 : i < sz) : ∃ (hq : (i / 128).toNat < idx.length), 0 <= idx[(i / 128).toNat] /\ ∃ (hk : idx[(i / 128).toNat].toNat < blk.length), ∃ (hj : (i % 128).toNat < (blk[idx[(i / 128).toNat].toNat]).1.length), (blk[idx[(i / 128).toNat].toNat]).1[(i % 128).toNat] = F i := by
 have hl := h.len;have hq : (i / 128).toNat < idx.length := by omega
 obtain ⟨g0, b, g1, g2⟩ := h.ok (i / 128).toNat _ (qn hq);obtain ⟨hk, hb⟩ := List.getElem?_eq_some_iff.1 g1;have hj : (i % 128).toNat < (blk[idx[(i / 128).toNat].toNat]).1.length := by rw [(blk[idx[(i / 128).toNat].toNat]).2]; omega
 refine ⟨hq, g0, hk, hj, ?_⟩;have hj' : (i % 128).toNat < b.1.length := by rw [b.2]; omega
 have := g2 (i % 128).toNat _ (qn hj') (by omega);have e : (128 * ((i / 128).toNat : Int) + ((i % 128).toNat : Int)) = i := by omega
 rw [e] at this;simp only [hb];exact this
theorem more {b c : dQ α} {k : Nat} (h : blk[k]? = some b) : (blk ++ [c])[k]? = some b := by
 have := (List.getElem?_eq_some_iff.1 h).1;rw [qr this]; exact h
variable [DecidableEq α]
structure TInv (sz : Int) (F : Int -> α) (idx : List Int) (blk : List (dQ α)) (kn : List (dQ α × Int)) (ev : List (α × Int)) : Prop where
 kn_ok : ∀ b k, aM b kn = some k -> 0 <= k /\ blk[k.toNat]? = some b
 ev_ok : ∀ v k, aM v ev = some k -> 0 <= k /\ blk[k.toNat]? = some (rep v)
 idx_ok : ∀ (q : Nat) k, idx[q]? = some k -> 0 <= k /\ ∃ b : dQ α, blk[k.toNat]? = some b /\ ∀ (j : Nat) u, b.1[j]? = some u -> (128 * q + j : Int) < sz -> u = F (128 * q + j)
variable {kn : List (dQ α × Int)} {ev : List (α × Int)}
theorem TInv.nil : TInv sz F [] [] [] [] := ⟨fun _ _ h => (by cases h), fun _ _ h => (by cases h), fun _ _ h => (by simp at h)⟩
theorem TInv.place (h : TInv sz F idx blk kn ev) (b : dQ α) : TInv sz F idx (blk ++ [b]) (aL b (blk.length : Int) kn) ev := by
 refine ⟨fun c k hc => ?_, fun v k hv => ?_, fun q k hq => ?_⟩
 ·rw [pY] at hc;split at hc
  ·rename_i e;cases hc;exact ⟨by omega, by simp [e]⟩
  ·exact ⟨(h.kn_ok c k hc).1, more (h.kn_ok c k hc).2⟩
 ·exact ⟨(h.ev_ok v k hv).1, more (h.ev_ok v k hv).2⟩
 ·obtain ⟨h1, c, h2, h3⟩ := h.idx_ok q k hq;exact ⟨h1, c, more h2, h3⟩
theorem TInv.push (h : TInv sz F idx blk kn ev) {b : dQ α} {k : Int} (h0 : 0 <= k) (hk : blk[k.toNat]? = some b) (hb : ∀ (j : Nat) u, b.1[j]? = some u -> (128 * idx.length + j : Int) < sz -> u = F (128 * idx.length + j)) : TInv sz F (idx ++ [k]) blk kn ev := by
 refine ⟨h.kn_ok, h.ev_ok, fun q k' hq => ?_⟩;rcases qbg q idx.length with hl | hl | hl
 ·rw [qr hl] at hq;exact h.idx_ok q k' hq
 ·subst hl;simp at hq;subst hq;exact ⟨h0, b, hk, hb⟩
 ·rw [qav (by simp; omega)] at hq; cases hq
end Go.Eng.Trie
namespace Go.Eng.Rows
open Go Go.Eng Go.Eng.Trie
end Go.Eng.Rows
namespace Go.Eng.Rows
open Go Go.Eng
structure MKey where
 kind : Int
 rune : Int
 mt : Bool
 text : List Int
structure MStep where
 key : MKey
 call : Bool
 name : Int
abbrev Bk := List (Int × List MStep)
def bF (b : Bk) (x : Int) : Option (List MStep) := match b with
 | [] => none
 | (k, l) :: r => if k = x then some l else bF r x
abbrev MW := List MKey × Nat
def cD (f : Int -> MW -> Except Int MW) : List MStep -> MW -> Except Int MW
 | [], w => .ok w
 | x :: l, w => if 20000 <= w.2 then .error 7 else if x.call = true then (match f x.name (w.1, w.2 + 1) with | .ok w' => cD f l w' | .error e => .error e) else cD f l (w.1 ++ [x.key], w.2 + 1)
def bD (b : Bk) : Nat -> List Int -> Int -> MW -> Except Int MW
 | 0, _, _, _ => .error 6
 | d + 1, op, nm, w => match bF b nm with
   | none => .error 5
   | some l => if nm ∈ op then .error 6 else cD (fun m => bD b d (op ++ [nm]) m) l w
theorem vB {f g : Int -> MW -> Except Int MW} : ∀ {l : List MStep} {w : MW}, (∀ x ∈ l, ∀ w, f x.name w = g x.name w) -> cD f l w = cD g l w
 | [], w, _ => rfl
 | x :: l, w, h => by
   have ih := fun w => vB (l := l) (w := w) fun y hy => h y (qh _ hy);simp only [cD, h x qi];split
   ·rfl
   ·split
    ·split
     ·exact ih _
     ·rfl
    ·exact ih _
def dR (b : Bk) (op : List Int) : Nat := ((b.map (·.1)).filter fun x => decide (x ∉ op)).length
theorem vC : ∀ {b : Bk} {x : Int} {l : List MStep}, bF b x = some l -> x ∈ b.map (·.1)
 | (k, l') :: r, x, l, h => by
   simp only [bF] at h;split at h
   ·rename_i e; subst e; simp
   ·simp only [qae, List.mem_cons]; exact .inr (vC h)
theorem vD {α : Type} (p q : α -> Bool) (hpq : ∀ x, q x = true -> p x = true) : ∀ (l : List α) (a : α), a ∈ l -> p a = true -> q a = false -> (l.filter q).length < (l.filter p).length
 | x :: l, a, ha, h1, h2 => by
   have le : ∀ l : List α, (l.filter q).length <= (l.filter p).length := by
    intro l
    induction l with
    | nil => exact qg _
    | cons y l ih =>
      simp only [qbj];cases hq : q y with
      | true => rw [hpq y hq]; simp only [if_true, qp]; omega
      | false => cases hp : p y <;> simp only [if_true, qq, if_false, qp] <;> omega
   simp only [qbj];rcases List.mem_cons.1 ha with rfl | ha
   ·rw [h1, h2];have := le l;simp only [if_true, qq, if_false, qp]; omega
   ·have ih := vD p q hpq l a ha h1 h2;cases hq : q x with
    | true => rw [hpq x hq]; simp only [if_true, qp]; omega
    | false => cases hp : p x <;> simp only [if_true, qq, if_false, qp] <;> omega
theorem vE {b : Bk} {op : List Int} {nm : Int} {l : List MStep} (h : bF b nm = some l) (hn : nm ∉ op) : dR b (op ++ [nm]) < dR b op :=
 vD _ _ (fun x hx => by simp at hx ⊢; exact hx.1) _ nm (vC h) (by simpa using hn) (by simp)
theorem vF {b c : Bk} (h : ∀ x, bF b x = bF c x) : ∀ (d : Nat) (op : List Int) (nm : Int) (w : MW), bD b d op nm w = bD c d op nm w
 | 0, _, _, _ => rfl
 | d + 1, op, nm, w => by
   rw [bD, bD, h nm];split
   ·rfl
   ·split
    ·rfl
    ·exact vB fun x _ w => vF h d _ _ w
theorem vG : ∀ {l m : List Int}, l.Pairwise (· < ·) -> m.Pairwise (· < ·) -> (∀ x, x ∈ l ↔ x ∈ m) -> l = m
 | [], [], _, _, _ => rfl
 | [], y :: m, _, _, h => absurd ((h y).2 qi) (by simp)
 | x :: l, [], _, _, h => absurd ((h x).1 qi) (by simp)
 | x :: l, y :: m, hl, hm, h => by
   obtain ⟨l1, l2⟩ := List.pairwise_cons.1 hl;obtain ⟨m1, m2⟩ := List.pairwise_cons.1 hm
   have hxy : x = y := by
    rcases List.mem_cons.1 ((h x).1 qi) with e | e
    ·exact e
    ·rcases List.mem_cons.1 ((h y).2 qi) with e2 | e2
     ·exact e2.symm
     ·have := m1 x e; have := l1 y e2; omega
   subst hxy;congr 1;refine vG l2 m2 fun z => ⟨fun hz => ?_, fun hz => ?_⟩
   ·rcases List.mem_cons.1 ((h z).1 (qh _ hz)) with e | e
    ·have := l1 z hz; omega
    ·exact e
   ·rcases List.mem_cons.1 ((h z).2 (qh _ hz)) with e | e
    ·have := m1 z hz; omega
    ·exact e
def zbi (b : Bk) (ks : List MKey) (n : Nat) : Prop := bF b 0 = some (ks.map fun k => ⟨k, false, 0⟩) /\ ∀ i, i < n -> ∃ x y : MStep, bF b ((i + 1 : Nat) : Int) = some [x, y] /\ (x.call = true /\ x.name = i) /\ (y.call = true /\ y.name = i)
end Go.Eng.Rows
namespace Go.Eng
open Go Go.Proofs Go.Eng.Rows
open Go.ChangeMaps (setBlock)
abbrev GKey := Bool × Bool × MKey
abbrev GS := Bool × Bool × MStep
abbrev GB := List (Int × Bool × Bool × List GS)
def bC (x : GKey) : List PV := [.int .i64 x.2.2.kind, .int .i32 x.2.2.rune, .bool x.2.2.mt, .sl x.1 x.2.1 (aE x.2.2.text)]
def aK (x : GS) : List PV := [.int .i64 x.2.2.key.kind, .int .i32 x.2.2.key.rune, .bool x.2.2.key.mt, .sl x.1 x.2.1 (aE x.2.2.key.text), .bool x.2.2.call, .int .i32 x.2.2.name]
def aQ (B : GB) : List (PV × PV) := bY (fun n => .int .i32 n) (fun x => .sl x.1 x.2.1 (x.2.2.map aK)) B
def aH (B : GB) : Bk := B.map fun p => (p.1, p.2.2.2.map (·.2.2))
theorem cT : ∀ (B : GB) (x : Int), bF (aH B) x = (aM x B).map fun y => y.2.2.map (·.2.2)
 | [], x => rfl
 | (k, y) :: r, x => by
   simp only [aH, qae, bF, aM];by_cases h : k = x
   ·subst h; simp
   ·have h' : ¬ x = k := fun e => h e.symm;rw [if_neg h, if_neg h'];exact cT r x
theorem iV (B : GB) (nm : Int) : b9 (.int .i32 nm) (aQ B) = (aM nm B).map fun x => .sl x.1 x.2.1 (x.2.2.map aK) := zay (fun a b => uX _ a b) nm B
def cU (f : Func) : Array Oper := gT (aV (xC2 f))
def cV (f : Func) : Array Oper := gT (aV (xR f))
def b6 (f : Func) : Array Oper := gT (aV (aI (xR f)))
def xT (f : Func) : Code := aI (aI (xLb f))
def xTc (f : Func) : Code := gU (aI (aV (xT f)))
def c6 (f : Func) : Array Oper := gT (aV (aV (xTc f)))
def vH (f : Func) : Code := aI (aV (xTc f))
abbrev sH (kvs : List (PV × PV)) (y : Value) (n : Int) (nl : Bool) (T : List (List PV)) (ks : List PV) : Hp := [.box [.pv (.mp kvs), .own 1, .pv (.raw y), .pv (.int .i64 n)], .sl (30, 4) true nl T, .box (ks.map .pv)]
abbrev e1 (nm : Int) : Env := [(0, .box 0 0), (1, .pv (.int .i32 nm))]
abbrev eL (n5 f5 : Bool) (es : List (List PV)) (i : Int) : Env := [(0, .box 0 0), (40, .pv (.sl n5 f5 es)), (41, .pv (.int .i64 (es.length : Int))), (42, .pv (.int .i64 i))]
abbrev eF (n5 f5 : Bool) (es : List (List PV)) (i : Int) : Env := [(0, .box 0 0), (8, .box 2 0), (40, .pv (.sl n5 f5 es)), (41, .pv (.int .i64 (es.length : Int))), (42, .pv (.int .i64 i))]
theorem zbj : mM Try.f25 = .seq (xA Try.f25) (.seq (xB Try.f25) (.seq (.block 0 (xC Try.f25)) (.seq (.region 6 (cV Try.f25) false) (.seq (.region 7 (b6 Try.f25) false) (.seq (xL Try.f25) (aI (aI (aI (xR Try.f25))))))))) := by kernel_rfl
theorem zbk : xC Try.f25 = .seq (aV (xC Try.f25)) (.cond (.tmp 20) (gU (aI (xC Try.f25))) (.seq (.region 4 (cU Try.f25) false) (.cond (.tmp 23) (gU (aI (xC2 Try.f25))) .skip))) := by kernel_rfl
theorem zbl : xL Try.f25 = .seq (aV (xL Try.f25)) (.block 1 (.loop (.seq (aV (xLp Try.f25)) (.seq (.cond (.tmp 43) .skip (.exit 1)) (.seq (.block 2 (.seq (aV (xLb Try.f25)) (.seq (aV (aI (xLb Try.f25))) (xT Try.f25)))) (aI (aI (aI (xLp Try.f25))))))))) := by kernel_rfl
theorem zbm : xT Try.f25 = .seq (.seq (aV (aV (xT Try.f25))) (.cond (.tmp 59) (.seq (.seq (.region 15 (c6 Try.f25) false) (vH Try.f25)) (.exit 2)) .skip)) (aI (xT Try.f25)) := by kernel_rfl
theorem p7 : c5 (cU Try.f25).toList = true /\ c5 (cV Try.f25).toList = true /\ c5 ((b6 Try.f25).toList.take 5) = true /\ c5 (c6 Try.f25).toList = true := ⟨by kernel_rfl, by kernel_rfl, by kernel_rfl, by kernel_rfl⟩
section
variable {kvs : List (PV × PV)} {y : Value} {n : Int} {nl : Bool} {T : List (List PV)} {nm : Int}
theorem nA (Q : Qt) : bA qa (fun _ => none) 2 79 [0, 1] (fun _ => none) (xA Try.f25) (cM [.box 0 0, .pv (.int .i32 nm)] 0) (aN kvs y n nl T) Q = Q .normal (e1 nm) (aN kvs y n nl T) := by kernel_rfl
theorem nB (Q : Qt) : bA qa (fun _ => none) 2 79 [0, 1, 5, 6] (fun _ => none) (xB Try.f25) (e1 nm) (aN kvs y n nl T) Q =
 (e8 .i32 kvs /\ (∀ v, b9 (.int .i32 nm) kvs = some v -> ∃ n1 f es, v = .sl n1 f es /\ Q .normal [(0, .box 0 0), (1, .pv (.int .i32 nm)), (5, .pv (.sl n1 f es)), (6, .pv (.bool true))] (aN kvs y n nl T)) /\
  (b9 (.int .i32 nm) kvs = none -> Q .normal [(0, .box 0 0), (1, .pv (.int .i32 nm)), (5, .pv (.sl true true [])), (6, .pv (.bool false))] (aN kvs y n nl T))) := by kernel_rfl
theorem nC1 (v5 : PV) (ok : Bool) (Q : Qt) : bA qa (fun _ => none) 2 79 [0, 1, 5, 20] (fun _ => none) (aV (xC Try.f25)) [(0, .box 0 0), (1, .pv (.int .i32 nm)), (5, .pv v5), (6, .pv (.bool ok))] (aN kvs y n nl T) Q = Q .normal [(0, .box 0 0), (1, .pv (.int .i32 nm)), (5, .pv v5), (20, .pv (.bool !ok))] (aN kvs y n nl T) := by kernel_rfl
theorem nC2 (Q : Qt) : bA qa (fun _ => none) 2 79 [4] (fun _ => none) (gU (aI (xC Try.f25))) (e1 nm) (aN kvs y n nl T) Q = Q .ret [(4, .pv (.int .i64 5))] (aN kvs y n nl T) := by kernel_rfl
theorem nC4 (v5 : PV) (K : Env -> Hp -> Prop) : aT qa (fun _ => none) 79 (cU Try.f25).toList (((cU Try.f25).toList.drop 0).take 5) [(0, .box 0 0), (1, .pv (.int .i32 nm)), (5, .pv v5)] (aN kvs y n nl T) K =
 K [(28, .pv (.int .i32 nm)), (27, .pv (.raw y)), (26, .box 0 2), (25, .box 0 0), (24, .box 0 0), (0, .box 0 0), (1, .pv (.int .i32 nm)), (5, .pv v5)] (aN kvs y n nl T) := by kernel_rfl
theorem zbn (v5 : PV) (b : Bool) (K : Env -> Hp -> Prop) : aT qa (fun _ => none) 79 (cU Try.f25).toList (((cU Try.f25).toList.drop 6).take 1) [(29, .pv (.bool b)), (0, .box 0 0), (1, .pv (.int .i32 nm)), (5, .pv v5)] (aN kvs y n nl T) K =
 K [(23, .pv (.bool b)), (29, .pv (.bool b)), (0, .box 0 0), (1, .pv (.int .i32 nm)), (5, .pv v5)] (aN kvs y n nl T) := by kernel_rfl
theorem nC5 (Q : Qt) : bA qa (fun _ => none) 2 79 [4] (fun _ => none) (gU (aI (xC2 Try.f25))) (e1 nm) (aN kvs y n nl T) Q = Q .ret [(4, .pv (.int .i64 6))] (aN kvs y n nl T) := by kernel_rfl
theorem nC6 (v5 : PV) (K : Env -> Hp -> Prop) : aT qa (fun _ => none) 79 (cV Try.f25).toList (((cV Try.f25).toList.drop 0).take 5) [(0, .box 0 0), (1, .pv (.int .i32 nm)), (5, .pv v5)] (aN kvs y n nl T) K =
 K [(34, .pv (.int .i32 nm)), (33, .pv (.raw y)), (32, .box 0 2), (31, .box 0 0), (30, .box 0 0), (0, .box 0 0), (1, .pv (.int .i32 nm)), (5, .pv v5)] (aN kvs y n nl T) := by kernel_rfl
theorem nC7 (v5 : PV) (K : Env -> Hp -> Prop) : aT qa (fun _ => none) 79 (b6 Try.f25).toList ((b6 Try.f25).toList.take 5) [(0, .box 0 0), (1, .pv (.int .i32 nm)), (5, .pv v5)] (aN kvs y n nl T) K =
 K [(39, .pv (.int .i32 nm)), (38, .pv (.raw y)), (37, .box 0 2), (36, .box 0 0), (35, .box 0 0), (0, .box 0 0), (1, .pv (.int .i32 nm)), (5, .pv v5)] (aN kvs y n nl T) := by kernel_rfl
theorem zbo (Q : Qt) : bA qa (fun _ => none) 2 79 [4] (fun _ => none) (aI (aI (aI (xR Try.f25)))) [(0, .box 0 0)] (aN kvs y n nl T) Q = Q .ret [(4, .pv (.int .i64 0))] (aN kvs y n nl T) := by kernel_rfl
end
section
variable {kvs : List (PV × PV)} {y : Value} {n : Int} {nl : Bool} {T : List (List PV)} {n5 f5 : Bool} {es : List (List PV)} {i : Int} {k1 k2 : Int} {k3 kn kf k5 : Bool} {kt : List (List PV)} {k6 : Int}
theorem nL8 (Q : Qt) : bA qa (fun _ => none) 2 79 [0, 40, 41, 42] (fun _ => none) (aV (xL Try.f25)) [(0, .box 0 0), (5, .pv (.sl n5 f5 es))] (aN kvs y n nl T) Q = Q .normal (eL n5 f5 es 0) (aN kvs y n nl T) := by kernel_rfl
theorem nL9 (Q : Qt) : bA qa (fun _ => none) 2 79 [0, 40, 41, 42, 43] (fun _ => none) (aV (xLp Try.f25)) (eL n5 f5 es i) (aN kvs y n nl T) Q = Q .normal [(0, .box 0 0), (40, .pv (.sl n5 f5 es)), (41, .pv (.int .i64 (es.length : Int))), (42, .pv (.int .i64 i)), (43, .pv (.bool (decide (i < (es.length : Int)))))] (aN kvs y n nl T) := by kernel_rfl
theorem zbp (Q : Qt) : bA qa (fun _ => none) 2 79 [0, 8, 40, 41, 42] (fun _ => none) (aV (xLb Try.f25)) (eL n5 f5 es i) (aN kvs y n nl T) Q =
 (aD es i 6 /\ ∃ n1, (es.getD i.toNat []).head? = some (.int .i64 n1) /\ ∃ n2, (es.getD i.toNat []).tail.head? = some (.int .i32 n2) /\ ∃ b, (es.getD i.toNat []).tail.tail.head? = some (.bool b) /\ ∃ n3 f es1, (es.getD i.toNat []).tail.tail.tail.head? = some (.sl n3 f es1) /\
  ∃ b1, (es.getD i.toNat []).tail.tail.tail.tail.head? = some (.bool b1) /\ ∃ n4, (es.getD i.toNat []).tail.tail.tail.tail.tail.head? = some (.int .i32 n4) /\
  Q .normal (eF n5 f5 es i) (sH kvs y n nl T [.int .i64 n1, .int .i32 n2, .bool b, .sl n3 f es1, .bool b1, .int .i32 n4])) := by kernel_rfl
theorem zbq (Q : Qt) : bA qa (fun _ => none) 2 79 [0, 4, 8, 40, 41, 42, 57] (fun _ => none) (aV (aI (xLb Try.f25))) (eF n5 f5 es i) (sH kvs y n nl T [.int .i64 k1, .int .i32 k2, .bool k3, .sl kn kf kt, .bool k5, .int .i32 k6]) Q =
 (if decide (i64.wrap (n + (1 : Int)) > (20000 : Int)) = true then
  Q .ret [(0, .box 0 0), (4, .pv (.int .i64 7)), (8, .box 2 0), (40, .pv (.sl n5 f5 es)), (41, .pv (.int .i64 (es.length : Int))), (42, .pv (.int .i64 i)), (57, .pv (.bool (decide (i64.wrap (n + (1 : Int)) > (20000 : Int)))))] (sH kvs y (i64.wrap (n + (1 : Int))) nl T [.int .i64 k1, .int .i32 k2, .bool k3, .sl kn kf kt, .bool k5, .int .i32 k6])
 else Q .normal [(0, .box 0 0), (8, .box 2 0), (40, .pv (.sl n5 f5 es)), (41, .pv (.int .i64 (es.length : Int))), (42, .pv (.int .i64 i)), (57, .pv (.bool (decide (i64.wrap (n + (1 : Int)) > (20000 : Int)))))] (sH kvs y (i64.wrap (n + (1 : Int))) nl T [.int .i64 k1, .int .i32 k2, .bool k3, .sl kn kf kt, .bool k5, .int .i32 k6])) := by kernel_rfl
theorem zbr (Q : Qt) : bA qa (fun _ => none) 2 79 [0, 8, 40, 41, 42, 59] (fun _ => none) (aV (aV (xT Try.f25))) (eF n5 f5 es i) (sH kvs y n nl T [.int .i64 k1, .int .i32 k2, .bool k3, .sl kn kf kt, .bool k5, .int .i32 k6]) Q =
 Q .normal [(0, .box 0 0), (8, .box 2 0), (40, .pv (.sl n5 f5 es)), (41, .pv (.int .i64 (es.length : Int))), (42, .pv (.int .i64 i)), (59, .pv (.bool k5))] (sH kvs y n nl T [.int .i64 k1, .int .i32 k2, .bool k3, .sl kn kf kt, .bool k5, .int .i32 k6]) := by kernel_rfl
theorem zbs (K : Env -> Hp -> Prop) : aT qa (fun _ => none) 79 (c6 Try.f25).toList (((c6 Try.f25).toList.drop 0).take 3) (eF n5 f5 es i) (sH kvs y n nl T [.int .i64 k1, .int .i32 k2, .bool k3, .sl kn kf kt, .bool k5, .int .i32 k6]) K =
 K ((62, .pv (.int .i32 k6)) :: (61, .box 2 5) :: (60, .box 0 0) :: eF n5 f5 es i) (sH kvs y n nl T [.int .i64 k1, .int .i32 k2, .bool k3, .sl kn kf kt, .bool k5, .int .i32 k6]) := by kernel_rfl
theorem zbt (r : Int) (K : Env -> Hp -> Prop) : aT qa (fun _ => none) 79 (c6 Try.f25).toList (((c6 Try.f25).toList.drop 4).take 1) ((63, .pv (.int .i64 r)) :: eL n5 f5 es i) (aN kvs y n nl T) K = K ((9, .pv (.int .i64 r)) :: (63, .pv (.int .i64 r)) :: eL n5 f5 es i) (aN kvs y n nl T) := by kernel_rfl
theorem zbu (r : Int) (Q : Qt) : bA qa (fun _ => none) 2 79 [0, 4, 9, 40, 41, 42, 65] (fun _ => none) (vH Try.f25) ((9, .pv (.int .i64 r)) :: eL n5 f5 es i) (aN kvs y n nl T) Q =
 (if (r != (0 : Int)) = true then Q .ret [(0, .box 0 0), (4, .pv (.int .i64 r)), (9, .pv (.int .i64 r)), (40, .pv (.sl n5 f5 es)), (41, .pv (.int .i64 (es.length : Int))), (42, .pv (.int .i64 i)), (65, .pv (.bool (r != (0 : Int))))] (aN kvs y n nl T)
 else Q .normal [(0, .box 0 0), (9, .pv (.int .i64 r)), (40, .pv (.sl n5 f5 es)), (41, .pv (.int .i64 (es.length : Int))), (42, .pv (.int .i64 i)), (65, .pv (.bool (r != (0 : Int))))] (aN kvs y n nl T)) := by kernel_rfl
theorem zbv (Q : Qt) : bA qa (fun _ => none) 2 79 [0, 40, 41, 42] (fun _ => none) (aI (xT Try.f25)) (eF n5 f5 es i) (sH kvs y n nl T [.int .i64 k1, .int .i32 k2, .bool k3, .sl kn kf kt, .bool k5, .int .i32 k6]) Q =
 ((bM [[PV.int .i64 k1, .int .i32 k2, .bool k3, .sl kn kf kt]] 4 /\ (T.length + 1) * 40 <= 140737488355328) /\ Q .normal (eL n5 f5 es i) (sH kvs y n (nl && false) (T ++ [[.int .i64 k1, .int .i32 k2, .bool k3, .sl kn kf kt]]) [.int .i64 k1, .int .i32 k2, .bool k3, .sl kn kf kt, .bool k5, .int .i32 k6])) := by kernel_rfl
theorem zbw (Q : Qt) : bA qa (fun _ => none) 2 79 [0, 40, 41, 42] (fun _ => none) (aI (aI (aI (xLp Try.f25)))) (eL n5 f5 es i) (aN kvs y n nl T) Q = Q .normal (eL n5 f5 es (i64.wrap (i + 1))) (aN kvs y n nl T) := by kernel_rfl
end
theorem mZ : (cU Try.f25)[5]? = some ((cU Try.f25).toList.getD 5 default) /\ ((cU Try.f25).toList.getD 5 default).dst = some 29 /\ ((cU Try.f25).toList.getD 5 default).guard = none /\ ((cU Try.f25).toList.getD 5 default).op = .lookup 69 (.tmp 27) (.tmp 28) false /\ (cU Try.f25).size = 7 /\
 (cV Try.f25)[5]? = some ((cV Try.f25).toList.getD 5 default) /\ ((cV Try.f25).toList.getD 5 default).dst = none /\ ((cV Try.f25).toList.getD 5 default).guard = none /\ ((cV Try.f25).toList.getD 5 default).op = .mapUpdate 69 (.tmp 33) (.tmp 34) (.const (.bool true)) /\ (cV Try.f25).size = 6 /\
 (b6 Try.f25)[5]? = some ((b6 Try.f25).toList.getD 5 default) /\ ((b6 Try.f25).toList.getD 5 default).dst = none /\ ((b6 Try.f25).toList.getD 5 default).guard = none /\ ((b6 Try.f25).toList.getD 5 default).op = .defer { callee := .builtin .delete, args := #[.tmp 38, .tmp 39], argTypes := #[69, 21] } /\ (b6 Try.f25).size = 6 /\
 (c6 Try.f25)[3]? = some ((c6 Try.f25).toList.getD 3 default) /\ ((c6 Try.f25).toList.getD 3 default).dst = some 63 /\ ((c6 Try.f25).toList.getD 3 default).guard = none /\ ((c6 Try.f25).toList.getD 3 default).op = .call { callee := .value (.func 25), args := #[.tmp 60, .tmp 62], argTypes := #[68, 21] } /\ (c6 Try.f25).size = 5 :=
 ⟨by kernel_rfl, by kernel_rfl, by kernel_rfl, by kernel_rfl, by kernel_rfl, by kernel_rfl, by kernel_rfl, by kernel_rfl, by kernel_rfl, by kernel_rfl, by kernel_rfl, by kernel_rfl, by kernel_rfl, by kernel_rfl, by kernel_rfl, by kernel_rfl, by kernel_rfl, by kernel_rfl, by kernel_rfl, by kernel_rfl⟩
structure NmZ (bk : Nat) (w0 : World) (I0 : Nat -> Prop) (G0 : Nat -> Pl) (o0 : Nat -> Prop) (st : List Int) (w : World) (I : Nat -> Prop) (G : Nat -> Pl) (h : Hp) : Prop where
 t : Tr w0 I0 o0 w I (fun b => aC h G b ∨ b = bk)
 len : 2 <= h.length
 stay : ∀ (o : Nat) ob, o < 2 -> h[o]? = some ob -> ob.fixed = true -> G o = G0 o
 st : StackM w bk st
 nI : ¬ I bk
 nO : ¬ aC h G bk
theorem StackM.lt {w : World} {b : Nat} {st : List Int} (h : StackM w b st) : b < w.heap.size := by
 obtain ⟨es, ck, h1, _⟩ := h;rcases qan b w.heap.size with h' | h'
 ·exact h'
 ·rw [qac h'] at h1; cases h1
theorem StackM.same {w w' : World} {b : Nat} {st : List Int} (h : StackM w b st) (e : w'.heap[b]? = w.heap[b]?) : StackM w' b st := by
 obtain ⟨es, ck, h1, h2⟩ := h;exact ⟨es, ck, e.trans h1, h2⟩
theorem Tr.also {w w' : World} {I I' own own' : Nat -> Prop} (h : Tr w I own w' I' own') (bk : Nat) : Tr w I (fun b => own b ∨ b = bk) w' I' (fun b => own' b ∨ b = bk) :=
 ⟨h.os, h.tape, h.output, h.size, fun b hb hn => h.keep b hb fun ho => hn (.inl ho), h.i1, fun b hb => (h.i2 b hb).imp id fun x => x.imp .inl id, fun b hb => hb.elim (fun ho => (h.own2 b ho).imp .inl id) fun e => .inl (.inr e), h.frz, h.drawn⟩
section
variable {bk : Nat} {w0 : World} {I0 : Nat -> Prop} {G0 : Nat -> Pl} {o0 : Nat -> Prop}
theorem NmZ.stab : kJ (NmZ bk w0 I0 G0 o0) 2 := by
 rintro st w I G h w' I' G' h' ⟨t0, l0, s0, m0, n1, n2⟩ hh hh' t;have hlt := m0.lt;refine ⟨t0.trans (t.t.also bk), t.len l0, fun o ob ho hx hf => ?_, m0.same (t.t.keep bk hlt n2), fun hi => ?_, fun ho => ?_⟩
 ·obtain ⟨e1, ob0, e2, e3⟩ := t.stay l0 o ob ho hx hf;exact e1.trans (s0 o ob0 ho e2 e3)
 ·rcases t.t.i2 bk hi with q | q | q
  ·exact n1 q
  ·exact n2 q
  ·omega
 ·rcases t.t.own2 bk ho with q | q
  ·exact n2 q
  ·omega
abbrev CN (bk : Nat) (w0 : World) (I0 : Nat -> Prop) (G0 : Nat -> Pl) (o0 : Nat -> Prop) := CodeY (NmZ bk w0 I0 G0 o0) qa 79
theorem NmZ.turn {st st' : List Int} {w : World} {I : Nat -> Prop} {G : Nat -> Pl} {h : Hp} (hz : NmZ bk w0 I0 G0 o0 st w I G h) (hh : HRel w I G h) {o : Obj} (hs : StackM (setBlock w bk o) bk st') :
 HRel (setBlock w bk o) I G h /\ Keeps w I (setBlock w bk o) I /\ NmZ bk w0 I0 G0 o0 st' (setBlock w bk o) I G h := by
 obtain ⟨t0, l0, s0, m0, n1, n2⟩ := hz;have hlt := m0.lt;obtain ⟨es0, ck0, e0, _⟩ := m0;obtain ⟨es1, ck1, e1, _⟩ := id hs
 have ho : o = .map es1 ck1 := by
  rw [Go.ChangeMaps.heap_setBlock_same e0] at e1; exact Option.some.inj e1
 have hoth : ∀ b, b ≠ bk -> (setBlock w bk o).heap[b]? = w.heap[b]? := fun b hb => Go.ChangeMaps.heap_setBlock_other e0 _ hb;have hsz : (setBlock w bk o).heap.size = w.heap.size := by simp [setBlock]
 have hk : Keeps w I (setBlock w bk o) I := ⟨fun b hb _ => hoth b fun e => n1 (e ▸ hb), fun b hb _ => hb⟩;refine ⟨hh.frame (fun b hb => hoth b fun e => n2 (e ▸ hb)) hk (fun b ⟨q, ob, q1, q2, q3⟩ hi => hh.nI q ob q1 q2 (q3 ▸ hi)) (fun b hb => by rw [hsz]; exact hh.cl b hb), hk, ?_, l0, s0, hs, n1, n2⟩;refine t0.trans ⟨rfl, rfl, rfl, by rw [hsz]; exact qg _, fun b _ hn => hoth b fun e => hn (.inr e), fun _ x => x, fun _ x => .inl x, fun _ x => .inl x, fun a _ => ?_, qg _⟩;rw [ho]; exact Go.ChangeMaps.frozen?_setBlock e0 a
theorem p8 : Try.prog.underlying 69 = some (.map 21 4) /\ Try.prog.underlying 21 = some (.int .i32) /\ ∃ ti, Try.prog.info? 4 = some ti /\ ti.zero = some (.bool false) := by
 refine ⟨by kernel_rfl, by kernel_rfl, ?_⟩;have h : (Try.prog.info? 4).bind (·.zero) = some (.bool false) := by kernel_rfl
 cases hi : Try.prog.info? 4 with
 | none => rw [hi] at h; cases h
 | some ti => rw [hi] at h; exact ⟨ti, rfl, h⟩
variable {kvs : List (PV × PV)} {n : Int} {nl : Bool} {T : List (List PV)} {nm : Int} {st : List Int}
theorem m6 {w : World} {I : Nat -> Prop} {G : Nat -> Pl} {h : Hp} {v cv : Value} (hr : LRel w I G h (.pv (.raw v)) cv) : cv = v := by cases hr with | pv _ _ h1 => cases h1; rfl
theorem zbx (v5 : PV) {Q : List Int -> Qt} (hK : Q st .normal [(23, .pv (.bool (decide (nm ∈ st)))), (29, .pv (.bool (decide (nm ∈ st)))), (0, .box 0 0), (1, .pv (.int .i32 nm)), (5, .pv v5)] (aN kvs (.map (some bk)) n nl T)) :
 CN bk w0 I0 G0 o0 (.region 4 (cU Try.f25) false) st [(0, .box 0 0), (1, .pv (.int .i32 nm)), (5, .pv v5)] (aN kvs (.map (some bk)) n nl T) Q := by
 intro w I G a Qx hs hz hq;obtain ⟨d4, _, _, _⟩ := p7;obtain ⟨p1, p2, p3, p4, p5, _⟩ := mZ;obtain ⟨m1, m2, ti, m3, m4⟩ := p8
 refine mV (Φ := fun a' w' => ∃ I' G', SRel w' I' G' [(23, .pv (.bool (decide (nm ∈ st)))), (29, .pv (.bool (decide (nm ∈ st)))), (0, .box 0 0), (1, .pv (.int .i32 nm)), (5, .pv v5)] (aN kvs (.map (some bk)) n nl T) 79 a' /\ a'.defers = a.defers /\ NmZ bk w0 I0 G0 o0 st w' I' G' (aN kvs (.map (some bk)) n nl T)) ?_
  (fun a' w' ⟨I', G', q1, q2, q3⟩ => hq st .normal _ _ w' I' G' a' hK q1 q2 q3)
 refine OpsN.step d4 5 (by rw [p5]; omega) (by rw [nC4]; exact ⟨rfl, rfl⟩ : aT qa (fun _ => none) 79 _ _ _ _ (fun e' h' => e' = _ /\ h' = _)) hs ?_;rintro _ _ w1 I1 G1 a1 ⟨rfl, rfl⟩ hs1 hd1 ht1;have hz1 := NmZ.stab _ _ _ _ _ _ _ _ _ hz hs.hh hs1.hh ht1.toN;have v27 : a1.eval (.tmp 27) = .map (some bk) := m6 (hs1.he 27 _ rfl);have v28 : a1.eval (.tmp 28) = .int .i32 nm := (hs1.he 28 _ rfl : LRel w1 I1 G1 _ (.pv (.int .i32 nm)) _).int_eq;refine OpsN.value p1 p3 (v := .bool (decide (nm ∈ st))) ?_ ?_
 ·unfold execOp;rw [p4];simp only [v27, v28];refine aX ?_;exact za6 m1 m2 m3 m4 hz1.st nm
 obtain ⟨hs2, hd2⟩ := e9 (o := (cU Try.f25).toList.getD 5 default) (v := .pv (.bool (decide (nm ∈ st)))) (N := 79) (by unfold dM; rw [p2]; rfl) hs1.hn hs1.hh hs1.he (.pv _ _ (.bool _));have hs2 : SRel w1 I1 G1 [(29, .pv (.bool (decide (nm ∈ st)))), (0, .box 0 0), (1, .pv (.int .i32 nm)), (5, .pv v5)] (aN kvs (.map (some bk)) n nl T) 79 _ := hs2.le (LeE.le (by unfold put; rw [p2]; exact ⟨rfl, rfl, rfl, rfl, trivial⟩));refine OpsN.step d4 1 (by rw [p5]; exact qg _) (by rw [zbn]; exact ⟨rfl, rfl⟩ : aT qa (fun _ => none) 79 _ _ _ _ (fun e' h' => e' = _ /\ h' = _)) hs2 ?_;rintro _ _ w3 I3 G3 a3 ⟨rfl, rfl⟩ hs3 hd3 ht3;exact OpsN.last (by rw [p5]; exact qg _) ⟨I3, G3, hs3, hd3.trans (hd2.trans hd1), NmZ.stab _ _ _ _ _ _ _ _ _ hz1 hs1.hh hs3.hh ht3.toN⟩
theorem zby (v5 : PV) (hn : nm ∉ st) {Q : List Int -> Qt} (hK : Q (st ++ [nm]) .normal [(0, .box 0 0), (1, .pv (.int .i32 nm)), (5, .pv v5)] (aN kvs (.map (some bk)) n nl T)) :
 CN bk w0 I0 G0 o0 (.region 6 (cV Try.f25) false) st [(0, .box 0 0), (1, .pv (.int .i32 nm)), (5, .pv v5)] (aN kvs (.map (some bk)) n nl T) Q := by
 intro w I G a Qx hs hz hq;obtain ⟨_, d6, _, _⟩ := p7;obtain ⟨_, _, _, _, _, p1, p2, p3, p4, p5, _⟩ := mZ;obtain ⟨m1, m2, ti, m3, m4⟩ := p8
 refine mV (Φ := fun a' w' => ∃ I' G', SRel w' I' G' [(0, .box 0 0), (1, .pv (.int .i32 nm)), (5, .pv v5)] (aN kvs (.map (some bk)) n nl T) 79 a' /\ a'.defers = a.defers /\ NmZ bk w0 I0 G0 o0 (st ++ [nm]) w' I' G' (aN kvs (.map (some bk)) n nl T)) ?_
  (fun a' w' ⟨I', G', q1, q2, q3⟩ => hq (st ++ [nm]) .normal _ _ w' I' G' a' hK q1 q2 q3)
 refine OpsN.step d6 5 (by rw [p5]; omega) (by rw [nC6]; exact ⟨rfl, rfl⟩ : aT qa (fun _ => none) 79 _ _ _ _ (fun e' h' => e' = _ /\ h' = _)) hs ?_;rintro _ _ w1 I1 G1 a1 ⟨rfl, rfl⟩ hs1 hd1 ht1;have hz1 := NmZ.stab _ _ _ _ _ _ _ _ _ hz hs.hh hs1.hh ht1.toN;have v33 : a1.eval (.tmp 33) = .map (some bk) := m6 (hs1.he 33 _ rfl);have v34 : a1.eval (.tmp 34) = .int .i32 nm := (hs1.he 34 _ rfl : LRel w1 I1 G1 _ (.pv (.int .i32 nm)) _).int_eq;obtain ⟨ob, r1, r2⟩ := za7 m1 m2 hz1.st hn;obtain ⟨g1, g2, g3⟩ := hz1.turn hs1.hh r2
 have hrun : (execOp a1.eval ((cV Try.f25).toList.getD 5 default)).run qa w1 = .ok .skip (setBlock w1 bk ob) := by
  unfold execOp;rw [p4];simp only [v33, v34];show (do Instr.mapUpdate 69 (.map (some bk)) (.int .i32 nm) (.bool true); Pure.pure Next.skip : Sem Next).run qa w1 = _;simp only [qaz, r1, qam, qba]
 refine OpsN.one p1 p3 ⟨fun _ _ => trivial, ?_⟩;show Oper.uponIn (wd none) 0 qa _ a1 _ _ (((((cV Try.f25).toList.getD 5 default)).semAt none a1.eval).run qa w1);rw [Oper.semAt_none, hrun];show OpsN _ _ _ _ (a1.put ((cV Try.f25).toList.getD 5 default).dst undef) _;rw [p2];refine OpsN.last (by rw [p5]; exact qg _) ⟨I1, G1, ?_, hd1, g3⟩;have hs2 : SRel w1 I1 G1 [(0, .box 0 0), (1, .pv (.int .i32 nm)), (5, .pv v5)] (aN kvs (.map (some bk)) n nl T) 79 a1 := hs1.le (LeE.le ⟨rfl, rfl, rfl, trivial⟩);exact ⟨g1, hs2.he.mono g2 (.refl _ _), hs2.hn⟩
end
section
variable {bk : Nat} {w0 : World} {I0 : Nat -> Prop} {G0 : Nat -> Pl} {o0 : Nat -> Prop} {kvs : List (PV × PV)} {n : Int} {nl : Bool} {T : List (List PV)} {nm : Int} {st : List Int}
def vI (bk : Nat) (nm : Int) (d : Deferred) : Prop := ∃ ty ks, d = { target := .builtin .delete #[69, 21] ty ks, args := #[.map (some bk), .int .i32 nm] }
theorem zbz (v5 : PV) {w : World} {I : Nat -> Prop} {G : Nat -> Pl} {a : Act} {Qx : Exit -> Act -> World -> Prop} (hs : SRel w I G [(0, .box 0 0), (1, .pv (.int .i32 nm)), (5, .pv v5)] (aN kvs (.map (some bk)) n nl T) 79 a) (hz : NmZ bk w0 I0 G0 o0 st w I G (aN kvs (.map (some bk)) n nl T))
 (hq : ∀ d w' I' G' a', vI bk nm d -> SRel w' I' G' [(0, .box 0 0), (1, .pv (.int .i32 nm)), (5, .pv v5)] (aN kvs (.map (some bk)) n nl T) 79 a' -> a'.defers = d :: a.defers -> NmZ bk w0 I0 G0 o0 st w' I' G' (aN kvs (.map (some bk)) n nl T) -> Qx .normal a' w') :
 (Code.region 7 (b6 Try.f25) false).wp qa Qx a w := by
 obtain ⟨_, _, _, _, _, _, _, _, _, _, p1, p2, p3, p4, p5, _⟩ := mZ;refine wp_region ?_;rw [p5, show List.range 6 = qat 0 5 ++ [5] from rfl];refine mY ?_;have hl : ((b6 Try.f25).toList.take 5).length = 5 := by rw [qap, Array.length_toList, p5]; rfl
 have := mI (H := fun _ => none) (P := qa) (N := 79) (ops := b6 Try.f25) (Qx := Exit.then (wpOps qa (b6 Try.f25) Qx [5]) Qx) ((b6 Try.f25).toList.take 5) 0 _ _ (fun j hj => by rw [qay, if_pos (by omega)]; simp)
  (by rw [nC7]; exact ⟨rfl, rfl⟩ : aT qa (fun _ => none) 79 _ _ _ (aN kvs (.map (some bk)) n nl T) (fun e' h' => e' = _ /\ h' = _)) w I G a hs ?_
 ·rwa [hl] at this
 rintro _ _ w1 I1 G1 a1 ⟨rfl, rfl⟩ hs1 hd1 ht1;have hz1 := NmZ.stab _ _ _ _ _ _ _ _ _ hz hs.hh hs1.hh ht1.toN;have v38 : a1.eval (.tmp 38) = .map (some bk) := m6 (hs1.he 38 _ rfl);have v39 : a1.eval (.tmp 39) = .int .i32 nm := (hs1.he 39 _ rfl : LRel w1 I1 G1 _ (.pv (.int .i32 nm)) _).int_eq;show wpOps qa (b6 Try.f25) Qx [5] a1 w1;simp only [wpOps, p1];rw [if_pos (show Region.wanted ((b6 Try.f25).toList.getD 5 default) _ = true by unfold Region.wanted; rw [p3])];refine .inl ?_
 have hrun : (execOp a1.eval ((b6 Try.f25).toList.getD 5 default)).run qa w1 = .ok (.defer { target := .builtin .delete #[69, 21] ((b6 Try.f25).toList.getD 5 default).type #[false, false], args := #[.map (some bk), .int .i32 nm] }) w1 := by
  unfold execOp;rw [p4];simp [resolve, v38, v39]
 unfold Oper.wp;rw [hrun, Oper.upon_defer, p2];exact hq _ w1 I1 G1 _ ⟨_, _, rfl⟩ ⟨hs1.hh, (hs1.le (e' := [(0, .box 0 0), (1, .pv (.int .i32 nm)), (5, .pv v5)]) (LeE.le ⟨rfl, rfl, rfl, trivial⟩)).he, hs1.hn⟩ (by show _ :: a1.defers = _; rw [hd1]) hz1
def fB : Except Int MW -> Int -> Int -> List GKey -> Prop
 | .ok w, r, n', Q' => r = 0 /\ n' = (w.2 : Int) /\ Q'.map (·.2.2) = w.1 /\ w.2 <= 20000 /\ Q'.length <= w.2
 | .error e, r, _, _ => r = e /\ e ≠ 0
abbrev aJ (B : GB) (bk : Nat) (n : Int) (nl : Bool) (Q : List GKey) : Hp := aN (aQ B) (.map (some bk)) n nl (Q.map bC)
def p9 (B : GB) (d : Nat) : Prop := ∀ (st : List Int) (nm : Int) (n : Nat) (nl : Bool) (Q : List GKey) (bk : Nat) (p : Value) (w : World) (I : Nat -> Prop) (G : Nat -> Pl), dR (aH B) st < d -> n <= 20000 -> Q.length <= n -> HRel w I G (aJ B bk n nl Q) -> LRel w I G (aJ B bk n nl Q) (.box 0 0) p ->
 StackM w bk st -> ¬ I bk -> ¬ aC (aJ B bk n nl Q) G bk -> Calls qa 25 #[p, .int .i32 nm] w fun e w' => ∃ (r n' : Int) (nl' : Bool) (Q' : List GKey) (I' : Nat -> Prop) (G' : Nat -> Pl), e = .returned (.int .i64 r) /\ fB (bD (aH B) d st nm (Q.map (·.2.2), n)) r n' Q' /\ HRel w' I' G' (aJ B bk n' nl' Q') /\
  NmZ bk w I G (fun b => aC (aJ B bk n nl Q) G b ∨ b = bk) st w' I' G' (aJ B bk n' nl' Q')
theorem vJ : jH qa 25 := ⟨_, Try.func25, by kernel_rfl, by kernel_rfl⟩
theorem zb0 {B : GB} {d : Nat} (ih : p9 B d) (hd : dR (aH B) st < d) {n : Nat} (hn : n <= 20000) {Q : List GKey} (hQ : Q.length <= n) {n5 f5 : Bool} {es : List (List PV)} {i k1 k2 : Int} {k3 kn kf k5 : Bool} {kt : List (List PV)} {k6 : Int} {Ψ : List Int -> Qt}
 (hK : ∀ (r n' : Int) (nl' : Bool) (Q' : List GKey), fB (bD (aH B) d st k6 (Q.map (·.2.2), n)) r n' Q' -> Ψ st .normal ((9, .pv (.int .i64 r)) :: (63, .pv (.int .i64 r)) :: eL n5 f5 es i) (aJ B bk n' nl' Q')) :
 CN bk w0 I0 G0 o0 (.region 15 (c6 Try.f25) false) st (eF n5 f5 es i) (sH (aQ B) (.map (some bk)) n nl (Q.map bC) [.int .i64 k1, .int .i32 k2, .bool k3, .sl kn kf kt, .bool k5, .int .i32 k6]) Ψ := by
 intro w I G a Qx hs hz hq;obtain ⟨_, _, _, d15⟩ := p7;obtain ⟨_, _, _, _, _, _, _, _, _, _, _, _, _, _, _, p1, p2, p3, p4, p5⟩ := mZ
 refine mV (Φ := fun a' w' => ∃ (r n' : Int) (nl' : Bool) (Q' : List GKey) (I' : Nat -> Prop) (G' : Nat -> Pl), fB (bD (aH B) d st k6 (Q.map (·.2.2), n)) r n' Q' /\ SRel w' I' G' ((9, .pv (.int .i64 r)) :: (63, .pv (.int .i64 r)) :: eL n5 f5 es i) (aJ B bk n' nl' Q') 79 a' /\ a'.defers = a.defers /\ NmZ bk w0 I0 G0 o0 st w' I' G' (aJ B bk n' nl' Q')) ?_
  (fun a' w' ⟨r, n', nl', Q', I', G', q0, q1, q2, q3⟩ => hq st .normal _ _ w' I' G' a' (hK r n' nl' Q' q0) q1 q2 q3)
 refine OpsN.step d15 3 (by rw [p5]; omega) (by rw [zbs]; exact ⟨rfl, rfl⟩ : aT qa (fun _ => none) 79 _ _ _ _ (fun e' h' => e' = _ /\ h' = _)) hs ?_;rintro _ _ w1 I1 G1 a1 ⟨rfl, rfl⟩ hs1 hd1 ht1;have hz1 := NmZ.stab _ _ _ _ _ _ _ _ _ hz hs.hh hs1.hh ht1.toN;obtain ⟨G2, hs2, t2⟩ := Fits.srel (n0 := 2) (e' := [(0, .box 0 0), (40, .pv (.sl n5 f5 es)), (41, .pv (.int .i64 (es.length : Int))), (42, .pv (.int .i64 i)), (60, .box 0 0), (62, .pv (.int .i32 k6))]) (h' := aJ B bk n nl Q) ⟨[], [0, 1], [0, 40, 41, 42, 60, 62], [], rfl, rfl, rfl, rfl⟩ hs1;have hz2 := NmZ.stab _ _ _ _ _ _ _ _ _ hz1 hs1.hh hs2.hh t2;have v62 : a1.eval (.tmp 62) = .int .i32 k6 := (hs2.he 62 _ rfl : LRel w1 I1 G2 _ (.pv (.int .i32 k6)) _).int_eq;have hrun := lX (P := qa) (w := w1) p4 rfl (a := a1) (f := 25) (cc := #[]) rfl vJ;have ea : (#[Operand.tmp 60, Operand.tmp 62].map a1.eval ++ #[] : Array Value) = #[a1.eval (.tmp 60), .int .i32 k6] := by rw [<- v62]; simp
 rw [ea] at hrun;rw [Nat.zero_add]
 refine OpsN.call (R := fun cv w' => ∃ (r n' : Int) (nl' : Bool) (Q' : List GKey) (I' : Nat -> Prop) (G' : Nat -> Pl), cv = .int .i64 r /\ fB (bD (aH B) d st k6 (Q.map (·.2.2), n)) r n' Q' /\ HRel w' I' G' (aJ B bk n' nl' Q') /\ NmZ bk w1 I1 G2 (fun b => aC (aJ B bk n nl Q) G2 b ∨ b = bk) st w' I' G' (aJ B bk n' nl' Q')) p1 p3 hrun
  ((ih st k6 n nl Q bk _ w1 I1 G2 hd hn hQ hs2.hh (hs2.he 60 _ rfl) hz2.st hz2.nI hz2.nO).mono fun e w' ⟨r, n', nl', Q', I', G', q1, q2, q3, q4⟩ => ⟨_, q1, r, n', nl', Q', I', G', rfl, q2, q3, q4⟩) ?_
 rintro _ w3 ⟨r, n', nl', Q', I3, G3, rfl, q2, q3, q4⟩;have hk : Keeps w1 I1 w3 I3 := ⟨fun b hb hlt => q4.t.keep b hlt fun ho => ho.elim (fun ⟨o, ob, h1, h2, e⟩ => hs2.hh.nI o ob h1 h2 (e ▸ hb)) fun e => hz2.nI (e ▸ hb), fun b hb _ => q4.t.i1 b hb⟩;have hG : G3 0 = G2 0 := q4.stay 0 _ (by omega) rfl rfl
 have hs3 : SRel w3 I3 G3 (eL n5 f5 es i) (aJ B bk n' nl' Q') 79 a1 := by
  have s0 : SRel w3 I3 G3 [] (aJ B bk n' nl' Q') 79 a1 := ⟨q3, ERel.nil _ _ _ _ _, hs2.hn⟩;have x42 : LRel w1 I1 G2 (aJ B bk n nl Q) (.pv (.int .i64 i)) _ := hs2.he 42 _ rfl;have x41 : LRel w1 I1 G2 (aJ B bk n nl Q) (.pv (.int .i64 (es.length : Int))) _ := hs2.he 41 _ rfl;have x40 : LRel w1 I1 G2 (aJ B bk n nl Q) (.pv (.sl n5 f5 es)) _ := hs2.he 40 _ rfl;have x0 : LRel w1 I1 G2 (aJ B bk n nl Q) (.box 0 0) _ := hs2.he 0 _ rfl
  have tree : ∀ {v : PV} {cv : Value}, LRel w1 I1 G2 (aJ B bk n nl Q) (.pv v) cv -> LRel w3 I3 G3 (aJ B bk n' nl' Q') (.pv v) cv := fun h => by
   cases h with | pv _ _ h => exact .pv _ _ (h.mono hk.1 hk.2)
  refine (((s0.view (d := 42) (tree x42)).view (d := 41) (tree x41)).view (d := 40) (tree x40)).view (d := 0) (v := .box 0 0) ?_;generalize a1.tmps.getD 0 undef = cv at x0;cases x0 with
  | box _ _ cs h1 => rw [<- hG]; exact .box 0 0 _ rfl
  | arr _ _ cs h1 => cases h1
 have hz3 : NmZ bk w0 I0 G0 o0 st w3 I3 G3 (aJ B bk n' nl' Q') := by
  refine ⟨hz2.t.trans q4.t, q4.len, fun o ob ho hx hf => ?_, q4.st, q4.nI, q4.nO⟩;rw [q4.stay o ob ho hx hf]
  match o, ho, hx with
  | 0, _, hx => exact hz2.stay 0 _ (by omega) rfl rfl
  | 1, _, hx => cases hx; cases hf
 obtain ⟨hs4, hd4⟩ := e9 (o := (c6 Try.f25).toList.getD 3 default) (v := .pv (.int .i64 r)) (N := 79) (by unfold dM; rw [p2]; rfl) hs3.hn hs3.hh hs3.he (.pv _ _ (.int _ _));have hs4 : SRel w3 I3 G3 ((63, .pv (.int .i64 r)) :: eL n5 f5 es i) (aJ B bk n' nl' Q') 79 _ := hs4.le (LeE.le (by unfold put; rw [p2]; exact ⟨rfl, rfl, rfl, rfl, rfl, trivial⟩));refine OpsN.step d15 1 (by rw [p5]; exact qg _) (by rw [zbt]; exact ⟨rfl, rfl⟩ : aT qa (fun _ => none) 79 _ _ _ _ (fun e' h' => e' = _ /\ h' = _)) hs4 ?_;rintro _ _ w5 I5 G5 a5 ⟨rfl, rfl⟩ hs5 hd5 ht5;exact OpsN.last (by rw [p5]; exact qg _) ⟨r, n', nl', Q', I5, G5, q2, hs5, hd5.trans (hd4.trans hd1), NmZ.stab _ _ _ _ _ _ _ _ _ hz3 hs4.hh hs5.hh ht5.toN⟩
end
set_option linter.constructorNameAsVariable false
section
variable {α : Type} {Z : α -> World -> (Nat -> Prop) -> (Nat -> Pl) -> Hp -> Prop} {P : Program} {n0 N : Nat}
theorem CodeY.awE (hZ : kJ Z n0) {H : Nat -> Option HSpec} {l : List Nat} {L : Nat -> Option LSpec} {x : Code} {s : α} {e : Env} {h : Hp} {Q : α -> Qt} {X : Prop} (he : bA P H n0 N l L x e h (Q s) = X) (hX : X) : CodeY Z P N x s e h Q := CodeY.of hZ (iT (he.symm ▸ hX))
theorem CodeY.fit (hZ : kJ Z n0) {c : Code} {s : α} {e e' : Env} {h h' : Hp} {Q : α -> Qt} (hf : Fits n0 e h e' h') (hK : CodeY Z P N c s e' h' Q) : CodeY Z P N c s e h Q := by
 intro w I G a Qx hs hz hq;obtain ⟨G', hs', ho⟩ := hf.srel hs;exact hK w I G' a Qx hs' (hZ _ _ _ _ _ _ _ _ _ hz hs.hh hs'.hh ho) hq
end
theorem zb1 {P : Program} {f : Nat} {fn : Func} {c : Code} {args : List LV} {h : Hp} (hf : P.funcs[f]? = some fn) (hb : fn.body = some c) (hl : args.length <= fn.ntmps) {w : World} {I : Nat -> Prop} {G : Nat -> Pl} {cargs : Array Value} (hh : HRel w I G h) (hsz : cargs.size = args.length)
 (hrel : ∀ (i : Nat) v, args[i]? = some v -> LRel w I G h v (cargs.getD i undef)) {R : Ending -> World -> Prop}
 (hK : ∀ (a : Act) (Qx : Exit -> Act -> World -> Prop), SRel w I G (cM args 0) h fn.ntmps a -> a.defers = [] -> (∀ a' w', iU P fn R a' w' -> Qx .normal a' w' /\ Qx .ret a' w') -> c.wp P Qx a w) : Calls P f cargs w R := by
 refine zbb hf hb ?_
 have hs : SRel w I G (cM args 0) h fn.ntmps { tmps := cargs ++ qt (fn.ntmps - cargs.size) undef, defers := [] } := by
  refine ⟨hh, fun i v hi => ?_, by simp; omega⟩;obtain ⟨_, h2⟩ := kD hi;rw [Nat.sub_zero] at h2;have hlt : i < cargs.size := by have := (List.getElem?_eq_some_iff.1 h2).1; omega
  have := hrel i v h2
  have e1 : (cargs ++ qt (fn.ntmps - cargs.size) undef).getD i undef = cargs.getD i undef := by
   rw [qe, qe, qu hlt]
  simp only [e1];exact VRel.of_plain this
 exact hK _ _ hs rfl fun a' w' hl => ⟨hl, hl⟩
def BkOK (B : GB) : Prop := ∀ p ∈ B, p.2.2.2.length <= 1000
theorem qA (f : Int -> MW -> Except Int MW) (x : MStep) (l : List MStep) (w : MW) : cD f (x :: l) w = if 20000 <= w.2 then .error 7 else if x.call = true then (match f x.name (w.1, w.2 + 1) with | .ok w' => cD f l w' | .error e => .error e) else cD f l (w.1 ++ [x.key], w.2 + 1) := rfl
section
variable {bk : Nat} {w0 : World} {I0 : Nat -> Prop} {G0 : Nat -> Pl} {o0 : Nat -> Prop}
abbrev QLp (B : GB) (bk : Nat) (ST : List Int) (X : Except Int MW) : List Int -> Qt := fun s' x e h => s' = ST /\ match x with
 | .normal => ∃ (n' : Int) (nl' : Bool) (Q' : List GKey), LeE [(0, .box 0 0)] e /\ h = aJ B bk n' nl' Q' /\ fB X 0 n' Q'
 | .ret => ∃ (r n' : Int) (nl' : Bool) (Q' : List GKey), Fits 2 e h [(4, .pv (.int .i64 r))] (aJ B bk n' nl' Q') /\ fB X r n' Q'
 | _ => False

theorem zb2 {B : GB} {d : Nat} (ih : p9 B d) {ST : List Int} (hd : dR (aH B) ST < d) {l : List GS} (hl : l.length <= 1000) {n5 f5 : Bool} {n : Nat} {nl : Bool} {Q : List GKey} (hn : n <= 20000) (hQ : Q.length <= n) :
 CN bk w0 I0 G0 o0 (xL Try.f25) ST [(0, .box 0 0), (5, .pv (.sl n5 f5 (l.map aK)))] (aJ B bk n nl Q) (QLp B bk ST (cD (fun m => bD (aH B) d ST m) (l.map (·.2.2)) (Q.map (·.2.2), n))) := by
 rw [zbl];refine CodeY.seq (CodeY.awE NmZ.stab (nL8 _) ?_);show CN bk w0 I0 G0 o0 (.block 1 (.loop _)) ST _ _ _;have hlen : (l.map aK).length = l.length := by simp
 refine CodeY.block (CodeY.loop (σ := Nat × Nat × Bool × List GKey) (fun u => (eL n5 f5 (l.map aK) u.1, aJ B bk u.2.1 u.2.2.1 u.2.2.2)) (fun _ => ST)
  (fun u => u.1 <= l.length /\ u.2.1 <= 20000 /\ u.2.2.2.length <= u.2.1 /\ cD (fun m => bD (aH B) d ST m) ((l.map (·.2.2)).drop u.1) (u.2.2.2.map (·.2.2), u.2.1) = cD (fun m => bD (aH B) d ST m) (l.map (·.2.2)) (Q.map (·.2.2), n)) (fun u => l.length - u.1) (0, n, nl, Q) ⟨rfl, rfl, rfl, rfl, trivial⟩ rfl rfl ⟨qj _, hn, hQ, rfl⟩ ?_)
 rintro ⟨i, m, bl, K⟩ ⟨hi, hm, hK, hg⟩;dsimp only at hi hm hK hg ⊢;refine CodeY.seq (CodeY.awE NmZ.stab (nL9 _) ?_);refine CodeY.seq (CodeY.cond (t := decide ((i : Int) < ((l.map aK).length : Int))) rfl ?_);by_cases hlt : i < l.length
 rotate_left
 ·rw [if_neg (by rw [hlen]; simp only [aO]; omega)];refine CodeY.exit ⟨rfl, m, bl, K, ⟨rfl, trivial⟩, rfl, ?_⟩;rw [<- hg, qx (by simp; omega)];exact ⟨rfl, rfl, rfl, hm, hK⟩
 rw [if_pos (by rw [hlen]; simp only [aO]; omega)];refine CodeY.skip ?_
 have hdrop : (l.map (·.2.2)).drop i = (l[i]).2.2 :: (l.map (·.2.2)).drop (i + 1) := by
  rw [qv (by simpa using hlt)]; simp
 rw [hdrop, qA] at hg;have wi : i64.wrap ((i : Int) + 1) = ((i + 1 : Nat) : Int) := by rw [gP (by omega) (by omega)]; omega
 have wm : i64.wrap ((m : Int) + 1) = ((m + 1 : Nat) : Int) := by rw [gP (by omega) (by omega)]; omega
 -- what ends a round
 have done : ∀ (m' : Nat) (bl' : Bool) (K' : List GKey) (e : Env) (h : Hp), Fits 2 e h (eL n5 f5 (l.map aK) i) (aJ B bk m' bl' K') -> m' <= 20000 -> K'.length <= m' -> cD (fun m => bD (aH B) d ST m) ((l.map (·.2.2)).drop (i + 1)) (K'.map (·.2.2), m') = cD (fun m => bD (aH B) d ST m) (l.map (·.2.2)) (Q.map (·.2.2), n) ->
  CN bk w0 I0 G0 o0 (aI (aI (aI (xLp Try.f25)))) ST e h fun s' x e h => x = .normal /\ ∃ u' : Nat × Nat × Bool × List GKey, LeE (eL n5 f5 (l.map aK) u'.1) e /\ h = aJ B bk u'.2.1 u'.2.2.1 u'.2.2.2 /\ s' = ST /\ (u'.1 <= l.length /\ u'.2.1 <= 20000 /\ u'.2.2.2.length <= u'.2.1 /\ cD (fun m => bD (aH B) d ST m) ((l.map (·.2.2)).drop u'.1) (u'.2.2.2.map (·.2.2), u'.2.1) = cD (fun m => bD (aH B) d ST m) (l.map (·.2.2)) (Q.map (·.2.2), n)) /\ l.length - u'.1 < l.length - i := fun m' bl' K' e h hf h1 h2 h3 => by
  refine CodeY.fit NmZ.stab hf (CodeY.awE NmZ.stab (zbw _) ?_);rw [wi];exact ⟨rfl, (i + 1, m', bl', K'), ⟨rfl, rfl, rfl, rfl, trivial⟩, rfl, rfl, ⟨hlt, h1, h2, h3⟩, by dsimp only; omega⟩
 refine CodeY.seq (CodeY.le (e' := eL n5 f5 (l.map aK) i) ⟨rfl, rfl, rfl, rfl, trivial⟩ (CodeY.block (CodeY.seq (CodeY.awE NmZ.stab (zbp _) ?_))));rw [qf, bX hlt];refine ⟨b5 (i := (i : Int)) (l := l) (enc := aK) (fun _ => rfl) (by omega) (by omega), _, rfl, _, rfl, _, rfl, _, _, _, rfl, _, rfl, _, rfl, ?_⟩;refine CodeY.seq (CodeY.awE NmZ.stab (zbq _) ?_);rw [wm];refine bJ (fun hc => ?_) (fun hc => ?_)
 ·simp only [aO] at hc;rw [if_pos (by dsimp only; omega)] at hg;refine ⟨rfl, 7, _, bl, K, ⟨[], [0, 1], [4], [], rfl, rfl, rfl, rfl⟩, ?_⟩;rw [<- hg]; exact ⟨rfl, by omega⟩
 simp only [aO] at hc;rw [if_neg (by dsimp only; omega)] at hg;show CN bk w0 I0 G0 o0 (xT Try.f25) ST _ _ _;rw [zbm];refine CodeY.le (e' := eF n5 f5 (l.map aK) i) ⟨rfl, rfl, rfl, rfl, rfl, trivial⟩ (CodeY.seq (CodeY.seq (CodeY.awE NmZ.stab (zbr _) ?_)));refine CodeY.cond (t := l[i].2.2.call) rfl ?_;refine bJ (fun hcall => ?_) (fun hcall => ?_)
 ·rw [if_pos hcall] at hg;refine CodeY.le (e' := eF n5 f5 (l.map aK) i) ⟨rfl, rfl, rfl, rfl, rfl, trivial⟩ (CodeY.seq (CodeY.seq (zb0 ih hd (n := m + 1) (by omega) (by omega) ?_)));intro r n' bl' K' hres;refine CodeY.le (e' := (9, .pv (.int .i64 r)) :: eL n5 f5 (l.map aK) i) ⟨rfl, rfl, rfl, rfl, rfl, trivial⟩ (CodeY.awE NmZ.stab (zbu _ _) ?_);generalize bD (aH B) d ST l[i].2.2.name (K.map (·.2.2), m + 1) = X at hg hres;cases X with
  | error e =>
    obtain ⟨rfl, he⟩ := hres;rw [if_pos (by simpa using he)]
    refine ⟨rfl, r, n', bl', K', ⟨[], [0, 1], [4], [], rfl, rfl, rfl, rfl⟩, ?_⟩;rw [<- hg]; exact ⟨rfl, he⟩
  | ok w =>
    obtain ⟨rfl, rfl, hk, h1, h2⟩ := hres;rw [if_neg (by simp)];refine CodeY.exit ?_;refine (done w.2 bl' K' _ _ ?_ h1 h2 ?_).mono (by rintro s' x e h ⟨rfl, hx⟩; exact hx)
    ·exact ⟨[], [0, 1], [0, 40, 41, 42], [], rfl, rfl, rfl, rfl⟩
    ·rw [hk]; exact hg
 ·rw [if_neg hcall] at hg;refine CodeY.skip (CodeY.le (e' := eF n5 f5 (l.map aK) i) ⟨rfl, rfl, rfl, rfl, rfl, trivial⟩ (CodeY.awE NmZ.stab (zbv _) ?_));refine ⟨⟨fun e he => by cases he; rfl, by simp; omega⟩, ?_⟩;refine (done (m + 1) (bl && false) (K ++ [(l[i].1, l[i].2.1, l[i].2.2.key)]) _ _ ?_ (by omega) (by simp; omega) ?_).mono (by rintro s' x e h ⟨rfl, hx⟩; exact hx)
  ·refine ⟨[], [0, 1], [0, 40, 41, 42], [], rfl, rfl, rfl, ?_⟩;rw [aJ, qk]; rfl
  ·rw [qk]; exact hg
end
end Go.Eng
namespace Go.Eng
open Go
section
variable {w w' : World} {I I' : Nat -> Prop} {G G' : Nat -> Pl} {h h' : Hp}
theorem HRel.atOff (hh : HRel w I G h) {l : Nat} (o : Obj) (hI : ¬ I l) (ho : ¬ aC h G l) : HRel (w.putObj l o) I G h := by
 have hw : ∀ b, b ≠ l -> (w.putObj l o).heap[b]? = w.heap[b]? := fun b hb => World.putObj_heap_other hb;have hk : Keeps w I (w.putObj l o) I := ⟨fun b hb _ => hw b fun e => hI (e ▸ hb), fun b hb _ => hb⟩;exact hh.frame (fun b hb => hw b fun e => ho (e ▸ hb)) hk (fun b ⟨i, x, hx, ha, e⟩ hi => hh.nI i x hx ha (e ▸ hi)) fun b hb => by rw [World.putObj_size]; exact hh.cl b hb
theorem fC (hh : HRel w I G h) {b : Nat} {o : Obj} (ho : w.heap[b]? = some o) (hn : (match o with | .cells .. => true | .map .. => true | .mapIter .. => true | _ => false) = false) : ¬ aC h G b := by
 rintro ⟨i, ob, hi, ha, rfl⟩;have := hh.obs i ob hi;cases ob with
 | dead => exact ha
 | box cs => obtain ⟨vs, ty, e1, _⟩ := this; rw [ho] at e1; cases e1; cases hn
 | arr cs => obtain ⟨vs, ty, e1, _⟩ := this; rw [ho] at e1; cases e1; cases hn
 | sl ty m n es =>
   cases n with
   | true => exact absurd ha.1 (by simp)
   | false => obtain ⟨vs, e1, _⟩ := this.2.2.2.2.2 ha.2; rw [ho] at e1; cases e1; cases hn
 | mp kvs => obtain ⟨es, ck, e1, _⟩ := this; rw [ho] at e1; cases e1; cases hn
 | iter ty rem cur => obtain ⟨_, _, _, _, _, _, e1, _⟩ := this; rw [ho] at e1; cases e1; cases hn
theorem Tr.atOff {own own' : Nat -> Prop} (t : Tr w I own w' I' own') {l : Nat} (hl : w.heap.size <= l) (o : Obj) : Tr w I own (w'.putObj l o) I' own' :=
 ⟨t.os, t.tape, t.output, by rw [World.putObj_size]; exact t.size, fun b hb hn => (World.putObj_heap_other (by omega)).trans (t.keep b hb hn), t.i1, t.i2, t.own2,
  fun a ha => (World.frozen?_of_block (World.putObj_heap_other (by omega))).trans (t.frz a ha), t.drawn⟩
theorem Keeps.thn {w1 w2 : World} {I1 I2 : Nat -> Prop} (h : Keeps w I w1 I1) (hs : w.heap.size <= w1.heap.size) (k : Keeps w1 I1 w2 I2) : Keeps w I w2 I2 :=
 ⟨fun b hb hlt => (k.1 b (h.2 b hb hlt) (qbb hlt hs)).trans (h.1 b hb hlt), fun b hb hlt => k.2 b (h.2 b hb hlt) (qbb hlt hs)⟩
theorem Keeps.atOff {l : Nat} (hI : ¬ I l) (o : Obj) : Keeps w I (w.putObj l o) I := ⟨fun b hb _ => World.putObj_heap_other fun e => hI (e ▸ hb), fun b hb _ => hb⟩
theorem Tr.beside {own own' : Nat -> Prop} (t : Tr w I own w' I' own') (X : Nat -> Prop) : Tr w I (fun b => own b ∨ X b) w' I' (fun b => own' b ∨ X b) :=
 ⟨t.os, t.tape, t.output, t.size, fun b hb hn => t.keep b hb fun x => hn (.inl x), t.i1, fun b hb => (t.i2 b hb).imp id fun x => x.imp .inl id, fun b hb => hb.elim (fun x => (t.own2 b x).imp .inl id) fun x => .inl (.inr x), t.frz, t.drawn⟩
theorem Tr.flip {o1 o2 o3 o4 : Nat -> Prop} (t : Tr w I (fun b => o1 b ∨ o2 b) w' I' (fun b => o3 b ∨ o4 b)) : Tr w I (fun b => o2 b ∨ o1 b) w' I' (fun b => o4 b ∨ o3 b) := by
 have e1 : (fun b => o2 b ∨ o1 b) = (fun b => o1 b ∨ o2 b) := by funext b; exact propext or_comm
 have e2 : (fun b => o4 b ∨ o3 b) = (fun b => o3 b ∨ o4 b) := by funext b; exact propext or_comm
 rw [e1, e2]; exact t
theorem Tr.flip' {own o3 o4 : Nat -> Prop} (t : Tr w I own w' I' (fun b => o3 b ∨ o4 b)) : Tr w I own w' I' (fun b => o4 b ∨ o3 b) := by
 have e2 : (fun b => o4 b ∨ o3 b) = (fun b => o3 b ∨ o4 b) := by funext b; exact propext or_comm
 rw [e2]; exact t
theorem Tr.alloc1 {w : World} {I own : Nat -> Prop} (o : Obj) : Tr w I own (w.alloc o) I own :=
 ⟨rfl, rfl, rfl, by simp, fun b hb _ => bK w o hb, fun _ h => h, fun _ h => .inl h, fun _ h => .inl h, fun a ha => World.frozen?_of_block (bK w o ha), qg _⟩
theorem KA.alloc1 (w : World) (o : Obj) : KA w (w.alloc o) := ⟨by simp, fun b hb => bK w o hb⟩
end
structure Two (w : World) (I : Nat -> Prop) (G : Nat -> Pl) (h : Hp) (G2 : Nat -> Pl) (h2 : Hp) : Prop where
 a : HRel w I G h
 b : HRel w I G2 h2
 s : ∀ b, aC h G b -> ¬ aC h2 G2 b
section
variable {w w' : World} {I I' : Nat -> Prop} {G G2 G2' : Nat -> Pl} {h h2 h2' : Hp}
theorem Two.step (t : Two w I G h G2 h2) (hb : HRel w' I' G2' h2') (tr : Tr w I (aC h2 G2) w' I' (aC h2' G2')) : Two w' I' G h G2' h2' /\ Keeps w I w' I' := by
 obtain ⟨q1, q2, q3⟩ := t.a.beside t.b t.s tr hb.cl;exact ⟨⟨q1, hb, q3⟩, q2⟩
theorem Two.flip (t : Two w I G h G2 h2) : Two w I G2 h2 G h := ⟨t.b, t.a, fun b x y => t.s b y x⟩
theorem Two.off (t : Two w I G h G2 h2) {l : Nat} (o o' : Obj) (hI : ¬ I l) (hl : w.heap[l]? = some o) (hn : (match o with | .cells .. => true | .map .. => true | .mapIter .. => true | _ => false) = false) : Two (w.putObj l o') I G h G2 h2 :=
 ⟨t.a.atOff o' hI (fC t.a hl hn), t.b.atOff o' hI (fC t.b hl hn), t.s⟩
end
end Go.Eng
namespace Go.Eng
open Go Go.Proofs Go.Eng.Rows
def kLp (f : Func) : Code := eE (eE (aI (mM f)))
def kR2 (f : Func) : Code := aV (eE (aI (aI (kLp f))))
def cJ (f : Func) : Array Oper := gT (aV (aI (eE (aI (aI (kLp f))))))
def sAs : Code -> Code | .rangeFunc _ _ a _ => a | _ => .skip
def sBd : Code -> Code | .rangeFunc _ _ _ b => b | _ => .skip
def cW (f : Func) : Code := eE (aI (aV (aI (mM f))))
def oAs (f : Func) : Array Oper := gT (sAs (cW f))
def oBd (f : Func) : Array Oper := gT (eE (sBd (cW f)))
abbrev fS (kvs rem : List (PV × PV)) (cur : Option (PV × PV)) : Hp := [.box [.pv (.mp kvs)], .iter (21, 33) rem cur]
abbrev bV (nl : Bool) (T : List (List PV)) : Hp := [.box [.own 1], .sl (21, 1) true nl T]
abbrev eK (y : Value) : Env := [(0, .pv (.raw y)), (5, .it 1)]
section
variable {kvs rem : List (PV × PV)} {cur : Option (PV × PV)} {y : Value} {k : Int} {nl : Bool} {T : List (List PV)}
theorem qK0 (Q : Qt) : bA qa (fun _ => none) 1 14 [0, 5] (fun _ => none) (aV (mM Try.f35)) (cM [.pv (.raw y), .box 0 0] 0) [.box [.pv (.mp kvs)]] Q = Q .normal (eK y) (fS kvs kvs none) := by kernel_rfl
theorem qK1 (Q : Qt) : bA qa (fun _ => none) 1 14 [0, 5, 7] (fun _ => none) (aV (kLp Try.f35)) (eK y) (fS kvs rem cur) Q =
 ((rem = [] -> Q .normal [(0, .pv (.raw y)), (5, .it 1), (7, .pv (.bool false))] (fS kvs rem cur)) /\ ∀ (j : Nat) (k v : PV), rem[j]? = some (k, v) -> ∃ n : Int, k = .int .i32 n /\ ∃ (n1 f : Bool) (es : List (List PV)), v = .sl n1 f es /\
   Q .normal [(0, .pv (.raw y)), (5, .it 1), (7, .pv (.bool true))] (fS kvs (rem.eraseIdx j) (some (.int .i32 n, .sl n1 f es)))) := by kernel_rfl
theorem qK2 (v : PV) (Q : Qt) : bA qa (fun _ => none) 1 14 [0, 3, 5] (fun _ => none) (kR2 Try.f35) (eK y) (fS kvs rem (some (.int .i32 k, v))) Q =
 ∃ n : Int, PV.int .i32 k = .int .i32 n /\ ∃ (n1 f : Bool) (es : List (List PV)), v = .sl n1 f es /\ Q .normal [(0, .pv (.raw y)), (3, .pv (.int .i32 n)), (5, .it 1)] (fS kvs rem (some (.int .i32 k, v))) := by kernel_rfl
theorem qK3 (h : Hp) (K : Env -> Hp -> Prop) : aT qa (fun _ => none) 14 (cJ Try.f35).toList (((cJ Try.f35).toList.drop 0).take 2) [(0, .pv (.raw y)), (3, .pv (.int .i32 k)), (5, .it 1)] h K = K [(11, .pv (.int .i32 k)), (10, .pv (.raw y)), (0, .pv (.raw y)), (3, .pv (.int .i32 k)), (5, .it 1)] h := by kernel_rfl
theorem zb3 (h : Hp) (K : Env -> Hp -> Prop) : aT qa (fun _ => none) 14 (cJ Try.f35).toList (((cJ Try.f35).toList.drop 3).take 1) [(12, .pv (.bool true)), (0, .pv (.raw y)), (5, .it 1)] h K = K [(13, .pv (.bool false)), (12, .pv (.bool true)), (0, .pv (.raw y)), (5, .it 1)] h := by kernel_rfl
theorem qS0 (Q : Qt) : bA qa (fun _ => none) 1 13 [1, 2] (fun _ => none) (aV (mM Try.f36)) (cM [.pv (.sl true true []), .fn 35 [.box 0 0]] 0) [.box [.pv (.mp kvs)]] Q = Q .normal [(1, .fn 35 [.box 0 0]), (2, .box 1 0)] [.box [.pv (.mp kvs)], .box [.pv (.sl true true [])]] := by kernel_rfl
theorem qS1 (Q : Qt) : bA qa (fun _ => none) 1 13 [2, 6] (fun _ => none) (aV (aV (aI (mM Try.f36)))) [(1, .fn 35 [.box 0 0]), (2, .box 1 0)] [.box [.pv (.mp kvs)], .box [.pv (.sl true true [])]] Q = Q .normal [(2, .box 1 0), (6, .fn 35 [.box 0 0])] [.box [.pv (.mp kvs)], .box [.pv (.sl true true [])]] := by kernel_rfl
theorem qAs (K : Env -> Hp -> Prop) : aT qa (fun _ => none) 13 (oAs Try.f36).toList (oAs Try.f36).toList [(2, .box 0 0), (7, .pv (.int .i32 k))] (bV nl T) K = K [(5, .pv (.int .i32 k)), (2, .box 0 0), (7, .pv (.int .i32 k))] (bV nl T) := by kernel_rfl
theorem qBd (K : Env -> Hp -> Prop) : aT qa (fun _ => none) 13 (oBd Try.f36).toList (oBd Try.f36).toList [(5, .pv (.int .i32 k)), (2, .box 0 0), (7, .pv (.int .i32 k))] (bV nl T) K =
 ((bM [[PV.int .i32 k]] 1 /\ (T.length + 1) * 4 <= 140737488355328) /\ K [(11, .own 1), (10, .pv (.sl false true [[.int .i32 k]])), (9, .pv (.int .i32 k)), (8, .bot), (5, .pv (.int .i32 k)), (2, .box 0 0), (7, .pv (.int .i32 k))] (bV (nl && false) (T ++ [[.int .i32 k]]))) := by kernel_rfl
theorem qS4 (Q : Qt) : bA qa (fun _ => none) 1 13 [4] (fun _ => none) (aV (aI (aI (mM Try.f36)))) [(2, .box 0 0)] (bV nl T) Q = Q .normal [(4, .own 1)] (bV nl T) := by kernel_rfl
end
theorem zb4 : mM Try.f35 = .seq (aV (mM Try.f35)) (.block 0 (.loop (.seq (aV (kLp Try.f35)) (.seq (.cond (.tmp 7) .skip (.exit 0)) (.block 1 (.seq (kR2 Try.f35) (.seq (.region 3 (cJ Try.f35) false) (.cond (.tmp 13) .ret .skip)))))))) := by kernel_rfl
theorem qB : mM Try.f36 = .seq (aV (mM Try.f36)) (.seq (.seq (aV (aV (aI (mM Try.f36)))) (.block 0 (cW Try.f36))) (.seq (aV (aI (aI (mM Try.f36)))) .ret)) /\ cW Try.f36 = .rangeFunc (.tmp 6) #[7] (sAs (cW Try.f36)) (sBd (cW Try.f36)) /\ sAs (cW Try.f36) = .region 2 (oAs Try.f36) false /\ sBd (cW Try.f36) = .block 1 (.region 3 (oBd Try.f36) false) /\
 c5 (oAs Try.f36).toList = true /\ c5 (oBd Try.f36).toList = true /\ c5 (cJ Try.f35).toList = true := ⟨by kernel_rfl, by kernel_rfl, by kernel_rfl, by kernel_rfl, by kernel_rfl, by kernel_rfl, by kernel_rfl⟩
theorem zb5 : (cJ Try.f35)[2]? = some ((cJ Try.f35).toList.getD 2 default) /\ ((cJ Try.f35).toList.getD 2 default).dst = some 12 /\ ((cJ Try.f35).toList.getD 2 default).guard = none /\ ((cJ Try.f35).toList.getD 2 default).op = .call { callee := .value (.tmp 10), args := #[.tmp 11], argTypes := #[21] } /\ (cJ Try.f35).size = 4 :=
 ⟨by kernel_rfl, by kernel_rfl, by kernel_rfl, by kernel_rfl, by kernel_rfl⟩
def SeqZ (W0 : World) (I0 : Nat -> Prop) (o0 : Nat -> Prop) (P0 : Pl) (rec : Loop) (s : List Int) (w : World) (I : Nat -> Prop) (G : Nat -> Pl) (h : Hp) : Prop :=
 ∃ (G2 : Nat -> Pl) (nl : Bool), Tr W0 I0 o0 w I (fun b => aC h G b ∨ aC (bV nl (aE s)) G2 b) /\ Two w I G h G2 (bV nl (aE s)) /\ G2 0 = P0 /\ w.heap[W0.heap.size + 1]? = some (.loop rec) /\ w.heap[W0.heap.size]? = some (.deferred (some [])) /\ ¬ I (W0.heap.size + 1) /\ ¬ I W0.heap.size
section
variable {W0 : World} {I0 : Nat -> Prop} {o0 : Nat -> Prop} {P0 : Pl} {rec : Loop}
theorem SeqZ.stab {n0 : Nat} : kJ (SeqZ W0 I0 o0 P0 rec) n0 := by
 rintro s w I G h w' I' G' h' ⟨G2, nl, t0, two, g0, hl, hD, nI1, nI2⟩ hh hh' t;obtain ⟨q1, _⟩ := two.flip.step hh' t.t;have l1 := (Array.getElem?_eq_some_iff.1 hl).1;have l2 := (Array.getElem?_eq_some_iff.1 hD).1;have n1 := fC hh hl rfl;have n2 := fC hh hD rfl;exact ⟨G2, nl, t0.trans (t.t.beside _), q1.flip, g0, (t.t.keep _ l1 n1).trans hl, (t.t.keep _ l2 n2).trans hD, fun x => (t.t.i2 _ x).elim nI1 (fun x => x.elim n1 fun x => by omega), fun x => (t.t.i2 _ x).elim nI2 (fun x => x.elim n2 fun x => by omega)⟩
theorem zb6 {a : Act} (ha : a.tmps.size = 13) (h2 : a.tmps.getD 2 undef = .pointer (some ⟨P0.blk, P0.off + 0, none⟩)) (r1 : rec.state = .ready) (r2 : rec.pending = none) (r3 : rec.tmps = a.tmps) (r4 : rec.params = #[7]) (r5 : rec.assign = sAs (cW Try.f36)) (r6 : rec.body = sBd (cW Try.f36))
 {s : List Int} (hs : s.length < 1000000) {w : World} {I : Nat -> Prop} {G : Nat -> Pl} {h : Hp} (hz : SeqZ W0 I0 o0 P0 rec s w I G h) (x : Int) :
 ∃ fn tmps assign body, (Instr.yield (W0.heap.size + 1) #[.int .i32 x]).run qa w = .ok (.round (W0.heap.size + 1) fn tmps assign body) w /\ RoundIn Fence.wide 0 qa (W0.heap.size + 1) fn tmps assign body w fun e w' =>
  e = .returned (.bool true) /\ ∃ I', HRel w' I' G h /\ Keeps w I w' I' /\ SeqZ W0 I0 o0 P0 rec (s ++ [x]) w' I' G h := by
 obtain ⟨G2, nl, t0, two, g0, hl, hD, nI1, nI2⟩ := hz;obtain ⟨l, hll⟩ : ∃ l, l = W0.heap.size + 1 := ⟨_, rfl⟩;have hWl : W0.heap.size <= l := by omega
 rw [<- hll] at hl nI1 ⊢;refine ⟨_, _, _, _, run_yield (P := qa) hl (by rw [r4]; rfl), roundIn_of_wpIn trivial ?_⟩;obtain ⟨_, _, q3, q4, q5, q6, _⟩ := qB
 have hs0 : SRel w I G2 [(2, .box 0 0), (7, .pv (.int .i32 x))] (bV nl (aE s)) 13 { tmps := a.tmps.setIfInBounds 7 (.int .i32 x), defers := [] } := by
  refine ⟨two.b, ?_, by simp [ha]⟩;refine ((ERel.nil _ _ _ _ _).cons (s := 7) (v := .pv (.int .i32 x)) ?_).cons (s := 2) (v := .box 0 0) ?_
  ·have : (a.tmps.setIfInBounds 7 (.int .i32 x)).getD 7 undef = .int .i32 x := by
    rw [qe, qaj]; simp [ha]
   simp only [this]; exact .pv _ _ (.int _ _)
  ·have : (a.tmps.setIfInBounds 7 (.int .i32 x)).getD 2 undef = .pointer (some ⟨P0.blk, P0.off + 0, none⟩) := by
    rw [<- h2, qe, qe, qaj]; simp
   simp only [this]; rw [<- g0]; exact .box 0 0 _ rfl
 rw [r5, q3, r4, r3];have hfold : (((#[7] : Array Tmp).zip #[Value.int .i32 x]).foldl (fun tmps (t, a) => tmps.setIfInBounds t a) a.tmps) = a.tmps.setIfInBounds 7 (.int .i32 x) := by simp
 rw [hfold];refine u9 q5 (by rw [qAs]; exact ⟨rfl, rfl⟩ : aT qa (fun _ => none) 13 _ _ _ _ (fun e' h' => e' = _ /\ h' = _)) hs0 ?_ ?_
 ·exact fun a w h => h
 rintro _ _ w1 I1 G3 a1 ⟨rfl, rfl⟩ hs1 hd1 ht1;obtain ⟨two1, k1⟩ := two.step hs1.hh ht1.t;have l0 := (Array.getElem?_eq_some_iff.1 hl).1;have lD := (Array.getElem?_eq_some_iff.1 hD).1
 have st : ∀ {w : World} {I : Nat -> Prop} {G2 : Nat -> Pl} {nl : Bool} {T : List (List PV)} {w1 : World} {I1 : Nat -> Prop} {G3 : Nat -> Pl} {nl1 : Bool} {T1 : List (List PV)} {rc : Loop}, HRel w I G2 (bV nl T) -> w.heap[l]? = some (.loop rc) -> w.heap[W0.heap.size]? = some (.deferred (some [])) -> ¬ I l -> ¬ I W0.heap.size -> Tr w I (aC (bV nl T) G2) w1 I1 (aC (bV nl1 T1) G3) ->
  w1.heap[l]? = some (.loop rc) /\ w1.heap[W0.heap.size]? = some (.deferred (some [])) /\ ¬ I1 l /\ ¬ I1 W0.heap.size := fun hh hl hD n1 n2 t => by
  have l1 := (Array.getElem?_eq_some_iff.1 hl).1;have l2 := (Array.getElem?_eq_some_iff.1 hD).1;have m1 := fC hh hl rfl;have m2 := fC hh hD rfl;exact ⟨(t.keep _ l1 m1).trans hl, (t.keep _ l2 m2).trans hD, fun x => (t.i2 _ x).elim n1 (fun x => x.elim m1 fun x => by omega), fun x => (t.i2 _ x).elim n2 (fun x => x.elim m2 fun x => by omega)⟩
 obtain ⟨hl1, hD1, n1, n1'⟩ := st hs0.hh hl hD nI1 nI2 ht1.t;refine ⟨_, run_beginRound hl1 r1, ?_⟩;have lw1 := (Array.getElem?_eq_some_iff.1 hl1).1;have two2 := two1.off (.loop rec) (.loop { rec with state := .busy }) n1 hl1 rfl;have hs2 : SRel (w1.putObj l (.loop { rec with state := .busy })) I1 G3 _ _ 13 a1 := ⟨two2.b, hs1.he.mono (Keeps.atOff n1 _) (.refl _ _), hs1.hn⟩;have hl2 : (w1.putObj l (.loop { rec with state := .busy })).heap[l]? = some (.loop { rec with state := .busy }) := World.putObj_heap_same lw1;have hDne : W0.heap.size ≠ l := by omega
 have hD2 : (w1.putObj l (.loop { rec with state := .busy })).heap[W0.heap.size]? = some (.deferred (some [])) := (World.putObj_heap_other hDne).trans hD1;have hb : ∀ {c : Code} {Q a w}, c = sBd (cW Try.f36) -> Code.wpIn (wd (some l)) 0 qa (.block 1 (.region 3 (oBd Try.f36) false)) Q a w -> Code.wpIn (wd (some l)) 0 qa c Q a w := fun e h => by rw [e, q4]; exact h
 refine hb r6 (wpIn_block ?_);show Code.wpIn (wd (some l)) 0 qa _ _ _ _;refine u9 (ro := some l) (n := 0) (id := 3) q6 (by rw [qBd]; exact ⟨⟨fun e he => by cases he; rfl, by simp only [gQ]; omega⟩, rfl⟩ : aT qa (fun _ => none) 13 _ _ _ _ (fun _ h' => h' = bV (nl && false) (aE s ++ [[.int .i32 x]]))) hs2 ?_ ?_
 ·exact fun a w h => h
 rintro e4 _ w4 I4 G4 a4 rfl hs4 hd4 ht4;obtain ⟨two4, k4⟩ := two2.step hs4.hh ht4.t;obtain ⟨hl4, hD4, n4, n4'⟩ := st hs2.hh hl2 hD2 n1 n1' ht4.t
 have hrec : ({ { rec with state := .busy } with state := if (none : Option Code).isNone then .ready else .done, pending := none } : Loop) = rec := by
  cases rec; simp only at r1 r2; subst r1; subst r2; rfl
 have hrun := run_endRound (P := qa) none hl4;rw [hrec] at hrun;have lw4 := (Array.getElem?_eq_some_iff.1 hl4).1;have two5 := two4.off (.loop { rec with state := .busy }) (.loop rec) n4 hl4 rfl;have eT : aE s ++ [[PV.int .i32 x]] = aE (s ++ [x]) := by simp [aE]
 rw [eT] at two5 ht4;refine ⟨_, _, hrun, rfl, I4, two5.a, ?_, G4, nl && false, ?_, two5, ?_, ?_, ?_, ?_, n4'⟩
 ·have s2 : w.heap.size <= w1.heap.size := ht1.t.size;have s4 : w1.heap.size <= w4.heap.size := by have := ht4.t.size; rwa [World.putObj_size] at this
  have kA := k1.thn s2 (Keeps.atOff (l := l) n1 (.loop { rec with state := .busy }));have kB := kA.thn (by rw [World.putObj_size]; exact s2) k4;exact kB.thn (qaq s2 s4) (Keeps.atOff n4 _)
 ·have tA := (t0.trans (ht1.t.beside (aC h G)).flip).atOff hWl (.loop { rec with state := .busy });exact (tA.trans (ht4.t.beside (aC h G)).flip).atOff hWl (.loop rec)
 ·exact ((ht4.stay 0 _ (Nat.succ_pos _) rfl rfl).1.trans (ht1.stay 0 _ (Nat.succ_pos _) rfl rfl).1).trans g0
 ·rw [<- hll]; exact World.putObj_heap_same lw4
 ·exact (World.putObj_heap_other hDne).trans hD4
 ·rw [<- hll]; exact n4
end
end Go.Eng
namespace Go.Eng
open Go Go.Proofs Go.Eng.Rows
open Go.ChangeMaps (setBlock)
theorem vK {w : World} {I : Nat -> Prop} {G : Nat -> Pl} {h : Hp} {a : Act} {r : Int} (hs : SRel w I G [(4, .pv (.int .i64 r))] h 79 a) : (results Try.f25 a.tmps).run qa w = .ok (.int .i64 r) w := by
 obtain ⟨v, hv, cv, h1, h2⟩ := pS (P := qa) (fn := Try.f25) (K := fun v => v = .pv (.int .i64 r)) hs.hh hs.he (Eq.mpr (by kernel_rfl : dZ qa [(4, .pv (.int .i64 r))] h Try.f25.results.toList (gO fun v => v = .pv (.int .i64 r)) = (LV.pv (.int .i64 r) = .pv (.int .i64 r))) rfl);subst hv;rw [h1, h2.int_eq]
def xCe (f : Func) : Code := .seq (aV (xC f)) (.cond (.tmp 20) (gU (aI (xC f))) (.seq (.region 4 (cU f) false) (.cond (.tmp 23) (gU (aI (xC2 f))) .skip)))
theorem zb7 : Try.f25.body = some (mM Try.f25) := by kernel_rfl
theorem vL (B : GB) (hB : BkOK B) : ∀ d, p9 B d
 | 0 => fun st nm n nl Q bk p w I G hlt => absurd hlt (qai _)
 | d + 1 => by
   intro st nm n nl Q bk p w I G hlt hn hQ hh hp hst hnI hnO;have ih := vL B hB d;obtain ⟨m1, m2, _⟩ := p8;have hz0 : NmZ bk w I G (fun b => aC (aJ B bk n nl Q) G b ∨ b = bk) st w I G (aJ B bk n nl Q) := ⟨Tr.refl _ _ _, qg 2, fun _ _ _ _ _ => rfl, hst, hnI, hnO⟩;refine zb1 (args := [.box 0 0, .pv (.int .i32 nm)]) Try.func25 zb7 (Nat.le_of_ble_eq_true (by kernel_rfl)) hh rfl (fun i u hi => ?_) fun a Qx hs hd hq => ?_
   ·match i, hi with
    | 0, hi => cases hi; exact hp
    | 1, hi => cases hi; exact .pv _ _ (.int _ _)
   have hs : SRel w I G (cM [.box 0 0, .pv (.int .i32 nm)] 0) (aJ B bk n nl Q) 79 a := hs;generalize hX : bD (aH B) (d + 1) st nm (Q.map (·.2.2), n) = X at hq ⊢;rw [bD, cT] at hX
   -- the two ends
   have fin0 : ∀ (r n' : Int) (nl' : Bool) (Q' : List GKey) (w' : World) (I' : Nat -> Prop) (G' : Nat -> Pl) (a' : Act), SRel w' I' G' [(4, .pv (.int .i64 r))] (aJ B bk n' nl' Q') 79 a' -> a'.defers = [] -> NmZ bk w I G (fun b => aC (aJ B bk n nl Q) G b ∨ b = bk) st w' I' G' (aJ B bk n' nl' Q') -> fB X r n' Q' -> Qx .ret a' w' := fun r n' nl' Q' w' I' G' a' h1 h2 h3 h4 =>
    (hq a' w' (by unfold iU; rw [h2]; exact ⟨_, vK h1, r, n', nl', Q', I', G', rfl, h4, h1.hh, h3⟩)).2
   have fin1 : nm ∉ st -> ∀ (d0 : Deferred) (r n' : Int) (nl' : Bool) (Q' : List GKey) (w' : World) (I' : Nat -> Prop) (G' : Nat -> Pl) (a' : Act), vI bk nm d0 -> SRel w' I' G' [(4, .pv (.int .i64 r))] (aJ B bk n' nl' Q') 79 a' -> a'.defers = [d0] ->
    NmZ bk w I G (fun b => aC (aJ B bk n nl Q) G b ∨ b = bk) (st ++ [nm]) w' I' G' (aJ B bk n' nl' Q') -> fB X r n' Q' -> Qx .ret a' w' := fun hnst d0 r n' nl' Q' w' I' G' a' h0 h1 h2 h3 h4 => by
    obtain ⟨ty, ks, rfl⟩ := h0;obtain ⟨o, r1, r2⟩ := za8 m1 m2 h3.st hnst 21 ty;obtain ⟨g1, g2, g3⟩ := h3.turn h1.hh r2;refine (hq a' w' ?_).2;unfold iU; rw [h2]
    have hinv : (invoke (.builtin .delete #[69, 21] ty ks) #[.map (some bk), .int .i32 nm]).run qa w' = .ok (.value (.tuple #[])) (setBlock w' bk o) := by
     show (do let v <- Builtin.delete_ #[69, 21] ty #[.map (some bk), .int .i32 nm]; Pure.pure (Next.value v) : Sem Next).run qa w' = _;simp only [qaz, r1, qam, qba]
    exact ⟨_, _, _, _, _, _, _, rfl, hinv, vK ⟨g1, h1.he.mono g2 (.refl _ _), h1.hn⟩, r, n', nl', Q', I', G', rfl, h4, g1, g3⟩
   rw [zbj]
   -- what the name stands for
   refine wp_seq ((CodeY.awE NmZ.stab (nA _) ⟨rfl, rfl, rfl, rfl⟩ : CN bk w I G _ (xA Try.f25) st _ _ (fun s2 x e h => st = s2 /\ x = .normal /\ e = e1 nm /\ h = aJ B bk n nl Q)) w I G a _ hs hz0 ?_);rintro _ _ _ _ w1 I1 G1 a1 ⟨rfl, rfl, rfl, rfl⟩ hs1 hd1 hz1;show Code.wp qa _ Qx a1 w1
   have cB : CN bk w I G (fun b => aC (aJ B bk n nl Q) G b ∨ b = bk) (xB Try.f25) st (e1 nm) (aJ B bk n nl Q) (fun s2 x e h => st = s2 /\ x = .normal /\ h = aJ B bk n nl Q /\ ((∃ y, aM nm B = some y /\ e = [(0, .box 0 0), (1, .pv (.int .i32 nm)), (5, .pv (.sl y.1 y.2.1 (y.2.2.map aK))), (6, .pv (.bool true))]) ∨
    (aM nm B = none /\ e = [(0, .box 0 0), (1, .pv (.int .i32 nm)), (5, .pv (.sl true true [])), (6, .pv (.bool false))]))) := by
    refine CodeY.awE NmZ.stab (nB _) ⟨mT _, fun v hv => ?_, fun hv => ?_⟩
    ·rw [iV] at hv;cases hy : aM nm B with
     | none => rw [hy] at hv; cases hv
     | some y => rw [hy] at hv; cases hv; exact ⟨_, _, _, rfl, rfl, rfl, rfl, .inl ⟨y, rfl, rfl⟩⟩
    ·rw [iV] at hv;cases hy : aM nm B with
     | none => exact ⟨rfl, rfl, rfl, .inr ⟨rfl, rfl⟩⟩
     | some y => rw [hy] at hv; cases hv
   refine wp_seq (cB w1 I1 G1 a1 _ hs1 hz1 ?_);rintro _ _ _ _ w2 I2 G2 a2 ⟨rfl, rfl, rfl, hor⟩ hs2 hd2 hz2;show Code.wp qa _ Qx a2 w2;rw [show xC Try.f25 = xCe Try.f25 from zbk];rcases hor with ⟨y, hy, rfl⟩ | ⟨hy, rfl⟩
   rotate_left
   ·rw [hy] at hX;subst hX;have cC : CN bk w I G (fun b => aC (aJ B bk n nl Q) G b ∨ b = bk) (.block 0 (xCe Try.f25)) st [(0, .box 0 0), (1, .pv (.int .i32 nm)), (5, .pv (.sl true true [])), (6, .pv (.bool false))] (aJ B bk n nl Q) (fun s2 x e h => st = s2 /\ x = .ret /\ e = [(4, .pv (.int .i64 5))] /\ h = aJ B bk n nl Q) := CodeY.block (CodeY.seq (CodeY.awE NmZ.stab (nC1 _ _ _) (CodeY.cond (t := true) rfl (CodeY.le (e' := e1 nm) ⟨rfl, rfl, trivial⟩ (CodeY.awE NmZ.stab (nC2 _) ⟨rfl, rfl, rfl, rfl⟩)))));refine wp_seq (cC w2 I2 G2 a2 _ hs2 hz2 ?_);rintro _ _ _ _ w3 I3 G3 a3 ⟨rfl, rfl, rfl, rfl⟩ hs3 hd3 hz3;exact fin0 5 n nl Q w3 I3 G3 a3 hs3 (hd3.trans (hd2.trans (hd1.trans hd))) hz3 ⟨rfl, by decide⟩
   rw [hy] at hX;dsimp only [qah] at hX
   have cC : CN bk w I G (fun b => aC (aJ B bk n nl Q) G b ∨ b = bk) (.block 0 (xCe Try.f25)) st [(0, .box 0 0), (1, .pv (.int .i32 nm)), (5, .pv (.sl y.1 y.2.1 (y.2.2.map aK))), (6, .pv (.bool true))] (aJ B bk n nl Q) (fun s2 x e h => st = s2 /\ h = aJ B bk n nl Q /\ ((nm ∈ st /\ x = .ret /\ e = [(4, .pv (.int .i64 6))]) ∨ (nm ∉ st /\ x = .normal /\ LeE [(0, .box 0 0), (1, .pv (.int .i32 nm)), (5, .pv (.sl y.1 y.2.1 (y.2.2.map aK)))] e))) := by
    refine CodeY.block (CodeY.seq (CodeY.awE NmZ.stab (nC1 _ _ _) (CodeY.cond (t := false) rfl ?_)));simp only [qq, if_false];refine CodeY.le (e' := [(0, .box 0 0), (1, .pv (.int .i32 nm)), (5, .pv (.sl y.1 y.2.1 (y.2.2.map aK)))]) ⟨rfl, rfl, rfl, trivial⟩ (CodeY.seq (zbx _ (CodeY.cond (t := decide (nm ∈ st)) rfl ?_)));by_cases hm : nm ∈ st
    ·rw [if_pos (by simpa using hm)]
     exact CodeY.le (e' := e1 nm) ⟨rfl, rfl, trivial⟩ (CodeY.awE NmZ.stab (nC5 _) ⟨rfl, rfl, .inl ⟨hm, rfl, rfl⟩⟩)
    ·rw [if_neg (by simpa using hm)]
     exact CodeY.skip ⟨rfl, rfl, .inr ⟨hm, rfl, ⟨rfl, rfl, rfl, trivial⟩⟩⟩
   refine wp_seq (cC w2 I2 G2 a2 _ hs2 hz2 ?_);rintro _ _ e3 _ w3 I3 G3 a3 ⟨rfl, rfl, hor⟩ hs3 hd3 hz3;rcases hor with ⟨hm, rfl, rfl⟩ | ⟨hm, rfl, he3⟩
   ·rw [if_pos hm] at hX;subst hX;exact fin0 6 n nl Q w3 I3 G3 a3 hs3 (hd3.trans (hd2.trans (hd1.trans hd))) hz3 ⟨rfl, by decide⟩
   rw [if_neg hm] at hX
   have hl1 : dR (aH B) (st ++ [nm]) < d := by
    have := vE (b := aH B) (op := st) (nm := nm) (l := y.2.2.map (·.2.2)) (by rw [cT, hy]; rfl) hm;omega
   show Code.wp qa _ Qx a3 w3;refine wp_seq ((zby _ hm ⟨rfl, rfl, rfl, rfl⟩ : CN bk w I G _ (.region 6 (cV Try.f25) false) st _ _ (fun s2 x e h => st ++ [nm] = s2 /\ x = .normal /\ e = [(0, .box 0 0), (1, .pv (.int .i32 nm)), (5, .pv (.sl y.1 y.2.1 (y.2.2.map aK)))] /\ h = aJ B bk n nl Q)) w3 I3 G3 a3 _ (hs3.le he3.le) hz3 ?_);rintro _ _ _ _ w4 I4 G4 a4 ⟨rfl, rfl, rfl, rfl⟩ hs4 hd4 hz4;show Code.wp qa _ Qx a4 w4;refine wp_seq (zbz _ hs4 hz4 ?_);intro d0 w5 I5 G5 a5 hd0 hs5 hd5 hz5;have hd5 : a5.defers = [d0] := by rw [hd5, hd4, hd3, hd2, hd1, hd]
   show Code.wp qa _ Qx a5 w5
   have hyB : y.2.2.length <= 1000 := by
    have : ∃ k, (k, y) ∈ B := by
     revert hy; clear hB ih hz0 hX fin0 fin1 cB cC
     generalize B = B';intro hy
     induction B' with
     | nil => cases hy
     | cons p r ih =>
       obtain ⟨k, z⟩ := p;simp only [aM] at hy;split at hy
       ·cases hy; exact ⟨k, qi⟩
       ·obtain ⟨k', h⟩ := ih hy; exact ⟨k', qh _ h⟩
    obtain ⟨k, hk⟩ := this;exact hB _ hk
   refine wp_seq (zb2 (o0 := fun b => aC (aJ B bk n nl Q) G b ∨ b = bk) (w0 := w) (I0 := I) (G0 := G) ih hl1 hyB hn hQ w5 I5 G5 a5 _ (hs5.le (LeE.le ⟨rfl, rfl, trivial⟩)) hz5 ?_);rintro _ x e6 h6 w6 I6 G6 a6 ⟨rfl, hx⟩ hs6 hd6 hz6;cases x with
   | exit k => exact hx.elim
   | ret =>
     obtain ⟨r, n', nl', Q', hf, hres⟩ := hx;obtain ⟨G7, hs7, t7⟩ := hf.srel hs6;exact fin1 hm d0 r n' nl' Q' w6 I6 G7 a6 hd0 hs7 (hd6.trans hd5) (NmZ.stab _ _ _ _ _ _ _ _ _ hz6 hs6.hh hs7.hh t7) (hX ▸ hres)
   | normal =>
     obtain ⟨n', nl', Q', hle, rfl, hres⟩ := hx;show Code.wp qa _ Qx a6 w6;refine (CodeY.awE NmZ.stab (zbo _) ⟨rfl, rfl, rfl, rfl⟩ : CN bk w I G _ (aI (aI (aI (xR Try.f25)))) _ _ _ (fun s2 x e h => st ++ [nm] = s2 /\ x = .ret /\ e = [(4, .pv (.int .i64 0))] /\ h = aJ B bk n' nl' Q')) w6 I6 G6 a6 _ (hs6.le hle.le) hz6 ?_;rintro _ _ _ _ w8 I8 G8 a8 ⟨rfl, rfl, rfl, rfl⟩ hs8 hd8 hz8;exact fin1 hm d0 0 n' nl' Q' w8 I8 G8 a8 hd0 hs8 (hd8.trans (hd6.trans hd5)) hz8 (hX ▸ hres)
end Go.Eng
namespace Go.Eng
open Go Go.Proofs
def qC  (x23 x24 : Int) (h0_0 : PV) (n_1 : Bool) (s_1 : LL) : Env × Hp := ([(6, LV.box 0 0), (23, Y6 x23), (24, Y6 x24)], [.box [.pv h0_0, LV.own 1, LV.bot, LV.bot], .sl (30, 4) true n_1 s_1])
section
variable (kvs : List (PV × PV)) (nm : Int) (J : Int -> Int -> PV -> Bool -> LL -> Prop) (μ : Int -> Int -> PV -> Bool -> LL -> Nat)
def vM (R : PV -> Prop) : Prop :=
 ACall qa 25 [LV.box 0 0, LV.pv (Z3 nm)] [Ob.box [LV.pv (PV.mp kvs), LV.pv (PV.sl true true []), LV.mp 1, Y6 0], Ob.mp []] fun (r : LV) (h' : Hp) => ∃ (t : Int × Bool × LL), (r = Y6 t.1 /\ h' = [Ob.box [LV.pv (PV.mp kvs), LV.own 2, LV.bot, LV.bot], Ob.dead, Ob.sl (30, 4) true t.snd.fst t.snd.snd]) /\ (True /\ True /\ True) /\ if (t.1 != 0) = true then R (PV.tup [PV.sl true true [], Z6 t.1]) else (aU (qC (↑t.snd.snd.length : Int) (0 : Int) (PV.mp kvs) t.snd.fst t.snd.snd) /\ J (↑t.snd.snd.length : Int) (0 : Int) (PV.mp kvs) t.snd.fst t.snd.snd) /\ ∀ (x23 x24 : Int) (h0_0 : PV) (n_1 : Bool) (s_1 : LL), J x23 x24 h0_0 n_1 s_1 -> if decide (x24 < x23) = true then aD s_1 x24 4 /\ ∃ n f es, (qc 3 (s_1.getD x24.toNat [])).head? = some (PV.sl n f es) /\ PCall qa 26 [PV.sl n f es] fun v => ∃ n1 f1 es1, v = PV.sl n1 f1 es1 /\ aD s_1 x24 4 /\ (1 = 1 /\ 4 <= (s_1.getD x24.toNat []).length) /\ aU (qC x23 (i64.wrap (x24 + 1)) h0_0 n_1 (s_1.set x24.toNat (bL (s_1.getD x24.toNat []) 3 [PV.sl n1 f1 es1]))) /\ J x23 (i64.wrap (x24 + 1)) h0_0 n_1 (s_1.set x24.toNat (bL (s_1.getD x24.toNat []) 3 [PV.sl n1 f1 es1])) /\ μ x23 (i64.wrap (x24 + 1)) h0_0 n_1 (s_1.set x24.toNat (bL (s_1.getD x24.toNat []) 3 [PV.sl n1 f1 es1])) < μ x23 x24 h0_0 n_1 s_1 else R (PV.tup [PV.sl n_1 false s_1, Z6 0])
theorem zb8 {R : PV -> Prop} (h : vM kvs nm J μ R) : PCall qa 8 [.agg [.mp kvs], .int .i32 nm] R :=
 PCall.wz Try.func8 (fun zz_ => match zz_ with | 25 => some ⟨Int × Bool × LL, fun vs hs t => (.pv (.int .i64 t.1), match hs with | [.box (a :: _), _] => [.box [a, .own 2, .bot, .bot], .dead, .sl (30, 4) true t.2.1 t.2.2] | h => h), none⟩ | _ => none) [0, 1, 2, 4, 5, 6, 7, 8, 17, 23, 24, 25] (eD 6 (c4 cz5 qC J μ (fun e h => (gI e 23, gI e 24, hP h 0 0, oN h 1, oS h 1)) [] [6, 23, 24] [])) h
end
end Go.Eng
namespace Go.Eng
open Go Go.Proofs Go.Eng.Rows
open Go.ChangeMaps (setBlock)
theorem zb9 (b : Bk) : dR b [] <= b.length := by
 unfold dR;refine qaq (qaw _ _) ?_;simp
theorem zca {B : GB} (hB : BkOK B) (nm : Int) : ACall qa 25 [.box 0 0, .pv (.int .i32 nm)] [.box [.pv (.mp (aQ B)), .pv (.sl true true []), .mp 1, .pv (.int .i64 0)], .mp []] fun r h' => ∃ t : Int × Bool × List (List PV),
 (r = .pv (.int .i64 t.1) /\ h' = [.box [.pv (.mp (aQ B)), .own 2, .bot, .bot], .dead, .sl (30, 4) true t.2.1 t.2.2]) /\ ∃ (n' : Int) (Q' : List GKey), t.2.2 = Q'.map bC /\ fB (bD (aH B) (B.length + 1) [] nm ([], 0)) t.1 n' Q' := by
 refine ⟨vJ, fun w I G cargs hh hsz hrel => ?_⟩;have h1a := hrel 1 _ rfl;have hp := hrel 0 _ rfl
 have hc : cargs = #[cargs.getD 0 undef, .int .i32 nm] := by
  have := h1a.int_eq;obtain ⟨l⟩ := cargs
  match l, hsz with
  | [a, b], _ => simp at this; rw [this]; rfl
 obtain ⟨vs, ty, b1, b2, b3⟩ := hh.obs 0 _ rfl;obtain ⟨es, ck, m1, m2, m3⟩ := hh.obs 1 _ rfl;have hne : (G 0).blk ≠ (G 1).blk := fun e => absurd (hh.sep 0 1 _ _ rfl trivial rfl trivial e) (by decide);obtain ⟨G1, hG1⟩ : ∃ G1 : Nat -> Pl, G1 = fun o => if o = 0 then G 0 else ⟨0, 0, 0, 0⟩ := ⟨_, rfl⟩;have g10 : G1 0 = G 0 := by rw [hG1]; rfl
 have hcell : ∀ (k : Nat) v, [LV.pv (.mp (aQ B)), .own 1, .pv (.raw (.map (some (G 1).blk))), .pv (.int .i64 (0 : Int))][k]? = some v -> LRel w I G1 (aJ B (G 1).blk 0 true []) v (vs.getD ((G 0).off + k) undef) /\ (vs.getD ((G 0).off + k) undef).oneCell' = true := by
  intro k v hk
  match k, hk with
  | 0, hk =>
    cases hk;obtain ⟨q1, q2⟩ := b3 0 _ rfl;refine ⟨?_, q2⟩;cases q1 with | pv _ _ h => exact .pv _ _ h
  | 1, hk =>
    cases hk;obtain ⟨q1, q2⟩ := b3 1 _ rfl;refine ⟨?_, q2⟩;generalize vs.getD ((G 0).off + 1) undef = u at q1;cases q1 with | pv _ _ h => cases h; exact .ownNil 1 _ _ _ rfl
  | 2, hk =>
    cases hk;obtain ⟨q1, q2⟩ := b3 2 _ rfl;refine ⟨?_, q2⟩;generalize vs.getD ((G 0).off + 2) undef = u at q1;cases q1 with | mp _ _ h => exact .pv _ _ (.raw _)
  | 3, hk =>
    cases hk;obtain ⟨q1, q2⟩ := b3 3 _ rfl;refine ⟨?_, q2⟩;cases q1 with | pv _ _ h => exact .pv _ _ h
 have hh1 : HRel w I G1 (aJ B (G 1).blk 0 true []) := by
  refine ⟨fun o ob ho => ?_, fun o o' ob ob' ho ha ho' ha' e => ?_, fun o ob ho ha => ?_, hh.cl⟩
  ·match o, ho with
   | 0, ho => cases ho; rw [g10]; exact ⟨vs, ty, b1, b2, hcell⟩
   | 1, ho => cases ho; exact rfl
  ·match o, ho with
   | 0, ho =>
     match o', ho' with
     | 0, _ => rfl
     | 1, ho' => cases ho'; exact absurd ha'.1 (by decide)
   | 1, ho => cases ho; exact absurd ha.1 (by decide)
  ·match o, ho with
   | 0, ho => rw [g10]; exact hh.nI 0 _ rfl trivial
   | 1, ho => cases ho; exact absurd ha.1 (by decide)
 have own1 : ∀ b, aC (aJ B (G 1).blk 0 true []) G1 b ↔ b = (G 0).blk := fun b => by
  constructor
  ·rintro ⟨o, ob, ho, ha, e⟩
   match o, ho with
   | 0, ho => rw [<- e, g10]
   | 1, ho => cases ho; exact absurd ha.1 (by decide)
  ·rintro rfl;exact ⟨0, _, rfl, trivial, by rw [g10]⟩
 have own0 : ∀ b, aC [Ob.box [.pv (.mp (aQ B)), .pv (.sl true true []), .mp 1, .pv (.int .i64 0)], .mp []] G b ↔ b = (G 0).blk ∨ b = (G 1).blk := fun b => by
  constructor
  ·rintro ⟨o, ob, ho, ha, e⟩
   match o, ho with
   | 0, ho => exact .inl e.symm
   | 1, ho => exact .inr e.symm
  ·rintro (rfl | rfl)
   ·exact ⟨0, _, rfl, trivial, rfl⟩
   ·exact ⟨1, _, rfl, trivial, rfl⟩
 have hp1 : LRel w I G1 (aJ B (G 1).blk 0 true []) (.box 0 0) (cargs.getD 0 undef) := by
  generalize cargs.getD 0 undef = u at hp;cases hp with
  | box _ _ cs h => rw [<- g10]; exact .box 0 0 _ rfl
  | arr _ _ cs h => cases h
 rw [hc]
 refine (vL B hB (B.length + 1) [] nm 0 true [] (G 1).blk _ w I G1 (Nat.lt_succ_of_le (qaq (zb9 _) (by simp [aH]))) (qj _) (qg _) hh1 hp1
  ⟨es, ck, m1, m2.1, fun j x h => by cases h⟩ (hh.nI 1 _ rfl trivial) (fun ho => hne ((own1 _).1 ho).symm)).mono ?_
 rintro e w' ⟨r, n', nl', Q', I', G', rfl, hres, hh', hz⟩;obtain ⟨G3, hG3⟩ : ∃ G3 : Nat -> Pl, G3 = fun o => if o = 0 then G' 0 else if o = 2 then G' 1 else ⟨0, 0, 0, 0⟩ := ⟨_, rfl⟩;have g30 : G3 0 = G' 0 := by rw [hG3]; rfl
 have g32 : G3 2 = G' 1 := by rw [hG3]; rfl
 have e0 : G' 0 = G 0 := (hz.stay 0 _ (by decide) rfl rfl).trans g10;obtain ⟨vs', ty', c1, c2, c3⟩ := hh'.obs 0 _ rfl
 have back : ∀ {o : Nat} {ob : Ob}, [Ob.box [.pv (.mp (aQ B)), .own 2, .bot, .bot], .dead, .sl (30, 4) true nl' (Q'.map bC)][o]? = some ob -> ob.alive (G3 o) -> ∃ (o2 : Nat) (ob2 : Ob), (aJ B (G 1).blk n' nl' Q')[o2]? = some ob2 /\ ob2.alive (G' o2) /\ G3 o = G' o2 /\ (o = 0 /\ o2 = 0 ∨ o = 2 /\ o2 = 1) := fun {o ob} ho ha => by
  match o, ho with
  | 0, ho => exact ⟨0, _, rfl, trivial, g30, .inl ⟨rfl, rfl⟩⟩
  | 1, ho => cases ho; exact ha.elim
  | 2, ho => cases ho; rw [g32] at ha; exact ⟨1, _, rfl, ha, g32, .inr ⟨rfl, rfl⟩⟩
 have hh3 : HRel w' I' G3 [.box [.pv (.mp (aQ B)), .own 2, .bot, .bot], .dead, .sl (30, 4) true nl' (Q'.map bC)] := by
  refine ⟨fun o ob ho => ?_, fun o o' ob ob' ho ha ho' ha' e => ?_, fun o ob ho ha => ?_, hh'.cl⟩
  ·match o, ho with
   | 0, ho =>
     cases ho;rw [g30];refine ⟨vs', ty', c1, c2, fun k v hk => ?_⟩
     match k, hk with
     | 0, hk =>
       cases hk;obtain ⟨q1, q2⟩ := c3 0 _ rfl;refine ⟨?_, q2⟩;cases q1 with | pv _ _ h => exact .pv _ _ h
     | 1, hk =>
       cases hk;obtain ⟨q1, q2⟩ := c3 1 _ rfl;refine ⟨?_, q2⟩;generalize vs'.getD ((G' 0).off + 1) undef = u at q1;cases q1 with
       | ownNil _ _ _ _ h => cases h; exact .ownNil 2 _ _ _ rfl
       | own _ _ _ _ ad h0 h => cases h; rw [<- g32]; exact .own 2 _ _ _ ad (by rw [g32]; exact h0) rfl
     | 2, hk => cases hk; exact ⟨.bot _, (c3 2 _ rfl).2⟩
     | 3, hk => cases hk; exact ⟨.bot _, (c3 3 _ rfl).2⟩
   | 1, ho => cases ho; trivial
   | 2, ho => cases ho; rw [g32]; have := hh'.obs 1 _ rfl; cases nl' <;> exact this
  ·obtain ⟨p, pb, p1, p2, p3, p4⟩ := back ho ha;obtain ⟨q, qb, q1, q2, q3, q4⟩ := back ho' ha';have := hh'.sep p q pb qb p1 p2 q1 q2 (by rw [<- p3, <- q3]; exact e);omega
  ·obtain ⟨p, pb, p1, p2, p3, p4⟩ := back ho ha;rw [p3]; exact hh'.nI p pb p1 p2
 refine ⟨_, _, _, I', G3, rfl, ⟨(r, nl', Q'.map bC), ⟨rfl, rfl⟩, n', Q', rfl, hres⟩, hh3, .pv _ _ (.int _ _), ⟨?_, by simp, fun o ob' ho hx hf => ?_⟩⟩
 ·have t := hz.t
  have e1 : (fun b => aC (aJ B (G 1).blk 0 true []) G1 b ∨ b = (G 1).blk) = aC [Ob.box [.pv (.mp (aQ B)), .pv (.sl true true []), .mp 1, .pv (.int .i64 0)], .mp []] G := by
   funext b; exact propext (by rw [own1, own0])
  have t : Tr w I (fun b => aC (aJ B (G 1).blk 0 true []) G1 b ∨ b = (G 1).blk) w' I' (fun b => aC (aJ B (G 1).blk n' nl' Q') G' b ∨ b = (G 1).blk) := t;rw [e1] at t;refine t.trans (Tr.less fun b ⟨o, ob, ho, ha, e⟩ => ?_);obtain ⟨p, pb, p1, p2, p3, p4⟩ := back ho ha;exact .inl ⟨p, pb, p1, p2, by rw [<- p3]; exact e⟩
 ·match o, ho, hx with
  | 0, _, hx => exact ⟨g30.trans e0, _, rfl, rfl⟩
  | 1, _, hx => cases hx; cases hf
end Go.Eng
namespace Go.Proofs
open Go.Shelf
def Try.cloneM_ren : Go.Shelf.Ren := ⟨fun | 5 => 23 | 7 => 32 | n => n, fun | 23 => 22 | 25 => 21 | 3 => 33 | 4 => 4 | 20 => 20 | 0 => 0 | n => n, fun | n => n⟩
theorem Try.cloneM : Go.Proofs.SlLaysW.n5 qa Try.cloneM_ren := {
 mixed := by kernel_rfl
 f5 := ⟨Try.f23.name, by decide, Try.func23.trans (congrArg some (by kernel_rfl))⟩
 f7 := Try.func32.trans (congrArg some (by kernel_rfl))
 t4 := Try.underlying4
 a4 := Try.isAgg4
 z4 := Try.sizeOf4
 v4 := Try.zeroValue4
 t20 := Try.underlying20
 a20 := Try.isAgg20
 z20 := Try.sizeOf20
 v20 := Try.zeroValue20
 t23 := Try.underlying22
 a23 := Try.isAgg22
 z23 := Try.sizeOf22
 v23 := Try.zeroValue22 }
end Go.Proofs
namespace Go.Eng
open Go Go.Proofs
section
variable (n f : Bool) (es : LL)
def qD (R : PV -> Prop) : Prop :=
 if (bif true then n else !n) = true then R (PV.sl true true []) else oD true [] es 1 4 /\ R (PV.sl false false ([] ++ es))
theorem vN {R : PV -> Prop} (h : qD n es R) : PCall qa 26 [.sl n f es] R :=
 PCall.wz Try.func26 cS [0, 2, 4] dD h
end
def qE (n f : Bool) (es : LL) (n2 f2 : Bool) (es2 : LL) (x5 : Int) : Env × Hp := ([(0, LV.pv (PV.sl n f es)), (1, LV.pv (PV.sl n2 f2 es2)), (5, Y6 x5)], [])
section
variable (n f : Bool) (es : LL) (n2 f2 : Bool) (es2 : LL) (J : Int -> Prop) (μ : Int -> Nat)
def vO (R : PV -> Prop) : Prop :=
 if ((↑es.length : Int) != (↑es2.length : Int)) = true then R (Zb false) else (aU (qE n f es n2 f2 es2 (0 : Int)) /\ J (0 : Int)) /\ ∀ (x5 : Int), J x5 -> if decide (x5 < (↑es.length : Int)) = true then aD es x5 1 /\ ∃ n1, (es.getD x5.toNat []).head? = some (Z3 n1) /\ aD es2 x5 1 /\ ∃ n3, (es2.getD x5.toNat []).head? = some (Z3 n3) /\ if (n1 != n3) = true then R (Zb false) else aU (qE n f es n2 f2 es2 (i64.wrap (x5 + 1))) /\ J (i64.wrap (x5 + 1)) /\ μ (i64.wrap (x5 + 1)) < μ x5 else R (Zb true)
theorem zcb {R : PV -> Prop} (h : vO n f es n2 f2 es2 J μ R) : PCall qa 10 [.sl n f es, .sl n2 f2 es2] R :=
 PCall.wz Try.func10 cS [0, 1, 4, 5, 10, 14, 25] (eD 4 (c4 cz1 (qE n f es n2 f2 es2) J μ (fun e h => (((gI e 5), ()))) [] [0, 1, 5] [])) h
end
def qF (n f : Bool) (es : LL) (x11 : Int) (n_0 : Bool) (s_0 : LL) : Env × Hp := ([(3, LV.own 0), (9, LV.pv (PV.sl n f es)), (10, LV.pv (PV.int i64 (es.length : Int))), (11, Y6 x11)], [.sl (32, 6) true n_0 s_0])
section
variable (n f : Bool) (es : LL) (J : Int -> Bool -> LL -> Prop) (μ : Int -> Bool -> LL -> Nat)
def vP (R : PV -> Prop) : Prop :=
 ((0 : Int) <= 0 /\ (0 : Int) <= (↑es.length : Int) /\ (↑48 : Int) * (↑es.length : Int) <= 281474976710656 /\ (↑es.length : Int) <= 9223372036854775807) /\ (aU (qF n f es (0 : Int) false []) /\ J (0 : Int) false []) /\ ∀ (x11 : Int) (n_0 : Bool) (s_0 : LL), J x11 n_0 s_0 -> if decide (x11 < (↑es.length : Int)) = true then aD es x11 6 /\ ∃ n1, (es.getD x11.toNat []).head? = some (Z6 n1) /\ ∃ n2, (es.getD x11.toNat []).tail.head? = some (Z3 n2) /\ ∃ b, (es.getD x11.toNat []).tail.tail.head? = some (Zb b) /\ ∃ n3 f1 es1, (es.getD x11.toNat []).tail.tail.tail.head? = some (PV.sl n3 f1 es1) /\ ∃ b1, (es.getD x11.toNat []).tail.tail.tail.tail.head? = some (Zb b1) /\ ∃ n4, (es.getD x11.toNat []).tail.tail.tail.tail.tail.head? = some (Z3 n4) /\ PCall qa 26 [PV.sl n3 f1 es1] fun v => ∃ n5 f2 es2, v = PV.sl n5 f2 es2 /\ (bM [[Z6 n1, Z3 n2, Zb b, PV.sl n5 f2 es2, Zb b1, Z3 n4]] 6 /\ (s_0.length + 1) * 48 <= 140737488355328) /\ aU (qF n f es (i64.wrap (x11 + 1)) (n_0 && false) (s_0 ++ [[Z6 n1, Z3 n2, Zb b, PV.sl n5 f2 es2, Zb b1, Z3 n4]])) /\ J (i64.wrap (x11 + 1)) (n_0 && false) (s_0 ++ [[Z6 n1, Z3 n2, Zb b, PV.sl n5 f2 es2, Zb b1, Z3 n4]]) /\ μ (i64.wrap (x11 + 1)) (n_0 && false) (s_0 ++ [[Z6 n1, Z3 n2, Zb b, PV.sl n5 f2 es2, Zb b1, Z3 n4]]) < μ x11 n_0 s_0 else R (PV.sl n_0 false s_0)
theorem zcc {R : PV -> Prop} (h : vP n f es J μ R) : PCall qa 24 [.sl n f es] R :=
 PCall.wz Try.func24 cS [0, 2, 3, 5, 9, 10, 11, 12] (eD 3 (c4 cz3 (qF n f es) J μ (fun e h => (gI e 11, oN h 0, oS h 0)) [] [3, 9, 10, 11] [])) h
end
section
variable (kvs : List (PV × PV)) (nm : Int) (n f : Bool) (es : LL)
def vQ (R : PV -> Prop) : Prop :=
 e8 .i32 kvs /\
 let V1 := ACall qa 23 [LV.pv (PV.mp kvs)] [] fun (r : LV) (h' : Hp) => ∃ (t : Unit), (r = LV.mp 0 /\ h' = [Ob.mp kvs]) /\ True /\ PCall qa 24 [PV.sl n f es] fun v1 => ∃ n2 f2 es2, v1 = PV.sl n2
  f2 es2 /\ e8 .i32 kvs /\ R (PV.tup [PV.agg [PV.mp (dC (Z3 nm) (PV.sl n2 f2 es2) kvs)], Z6 0]); (∀ (v : PV), b9 (Z3 nm) kvs = some v -> ∃ n1 f1 es1, v = PV.sl n1 f1 es1 /\ if decide ((↑es.length :
  Int) > 1000) = true then R (PV.tup [PV.agg [PV.mp kvs], Z6 7]) else V1) /\ (b9 (Z3 nm) kvs = none -> if decide ((↑es.length : Int) > 1000) = true then R (PV.tup [PV.agg [PV.mp kvs], Z6 7]) else if ((↑kvs.length : Int) == 100) = true
  then R (PV.tup [PV.agg [PV.mp kvs], Z6 3]) else V1)
theorem zcd {R : PV -> Prop} (h : vQ kvs nm n f es R) : PCall qa 7 [.agg [.mp kvs], .int .i32 nm, .sl n f es] R :=
 PCall.wz Try.func7 (fun zz_ => match zz_ with | 23 => some ⟨Unit, fun vs _ _ => (.mp 0, match vs with | [.pv (.mp kvs)] => [.mp kvs] | _ => []), none⟩ | _ => none) [0, 1, 2, 3, 6, 7, 9, 10, 18, 23, 37] dD h
end
section
variable (nm : Int) (n f : Bool) (es : LL)
def vR (R : PV -> Prop) : Prop :=
 e8 .i32 [] /\
 let V1 := if decide ((↑es.length : Int) > 1000) = true then R (PV.tup [PV.agg [PV.nilm], Z6 7]) else ACall qa 23 [LV.pv PV.nilm] [] fun (r : LV) (h' : Hp) => ∃ (t : Unit), (r = LV.pv PV.nilm /\ h' = []) /\ True /\ PCall qa 24
  [PV.sl n f es] fun v1 => ∃ n2 f2 es2, v1 = PV.sl n2 f2 es2 /\ e8 .i32 [] /\ R (PV.tup [PV.agg [PV.mp (dC (Z3 nm) (PV.sl n2 f2 es2) [])], Z6 0]); (∀ (v : PV), b9 (Z3 nm) [] = some v -> ∃ (n1
  : Bool), ∃ f1 es1, v = PV.sl n1 f1 es1 /\ V1) /\ (b9 (Z3 nm) [] = none -> V1)
theorem zce {R : PV -> Prop} (h : vR nm n f es R) : PCall qa 7 [.agg [.nilm], .int .i32 nm, .sl n f es] R :=
 PCall.wz Try.func7 (fun zz_ => match zz_ with | 23 => some ⟨Unit, fun _ _ _ => (.pv .nilm, []), none⟩ | _ => none) [0, 1, 2, 3, 6, 7, 9, 10, 18, 23, 37] dD h
end
section
variable (kvs : List (PV × PV)) (nm : Int)
def vS (R : PV -> Prop) : Prop :=
 e8 .i32 kvs /\ (∀ (v : PV), b9 (Z3 nm) kvs = some v -> ∃ n f es, v = PV.sl n f es /\ PCall qa 24 [PV.sl n f es] fun v1 => ∃ n1 f1 es1, v1 = PV.sl n1 f1 es1 /\ R (PV.tup [PV.sl n1 f1 es1, Zb true])) /\ (b9 (Z3 nm) kvs = none -> PCall qa 24 [PV.sl true true []] fun v => ∃ n f es, v = PV.sl n f es /\ R (PV.tup [PV.sl n f es, Zb false]))
theorem zcf {R : PV -> Prop} (h : vS kvs nm R) : PCall qa 20 [.agg [.mp kvs], .int .i32 nm] R :=
 PCall.wz Try.func20 cS [0, 1, 2, 4, 5, 6, 7] dD h
end
def qG (n f : Bool) (es : LL) (n2 f2 : Bool) (ss : LL) (x5 : Int) : Env × Hp := ([(0, LV.pv (PV.sl n f es)), (1, LV.pv (PV.sl n2 f2 ss)), (5, Y6 x5)], [])
section
variable (n f : Bool) (es : LL) (n2 f2 : Bool) (ss : LL) (J : Int -> Prop) (μ : Int -> Nat)
def vT (R : PV -> Prop) : Prop :=
 if ((↑es.length : Int) != (↑ss.length : Int)) = true then R (Zb false) else (aU (qG n f es n2 f2 ss (0 : Int)) /\ J (0 : Int)) /\ ∀ (x5 : Int), J x5 -> if decide (x5 < (↑es.length : Int)) = true then aD es x5 4 /\ ∃ n1, (qc 0 (es.getD x5.toNat [])).head? = some (Z6 n1) /\ aD ss x5 4 /\ ∃ n3, (qc 0 (ss.getD x5.toNat [])).head? = some (Z6 n3) /\ if (n1 != n3) = true then R (Zb false) else aD es x5 4 /\ ∃ n4, (qc 1 (es.getD x5.toNat [])).head? = some (Z3 n4) /\ aD ss x5 4 /\ ∃ n5, (qc 1 (ss.getD x5.toNat [])).head? = some (Z3 n5) /\ if (n4 != n5) = true then R (Zb false) else aD es x5 4 /\ ∃ b, (qc 2 (es.getD x5.toNat [])).head? = some (Zb b) /\ aD ss x5 4 /\ ∃ b1, (qc 2 (ss.getD x5.toNat [])).head? = some (Zb b1) /\ if (b != b1) = true then R (Zb false) else aD es x5 4 /\ ∃ n6 f1 es1, (qc 3 (es.getD x5.toNat [])).head? = some (PV.sl n6 f1 es1) /\ aD ss x5 4 /\ ∃ n7 f3 es2, (qc 3 (ss.getD x5.toNat [])).head? = some (PV.sl n7 f3 es2) /\ PCall qa 10 [PV.sl n6 f1 es1, PV.sl n7 f3 es2] fun v => ∃ b2, v = Zb b2 /\ if (!b2) = true then R (Zb false) else aU (qG n f es n2 f2 ss (i64.wrap (x5 + 1))) /\ J (i64.wrap (x5 + 1)) /\ μ (i64.wrap (x5 + 1)) < μ x5 else R (Zb true)
theorem zcg {R : PV -> Prop} (h : vT n f es n2 f2 ss J μ R) : PCall qa 15 [.sl n f es, .sl n2 f2 ss] R :=
 PCall.wz Try.func15 cS [0, 1, 4, 5, 10, 14, 67] (eD 4 (c4 cz1 (qG n f es n2 f2 ss) J μ (fun e h => (((gI e 5), ()))) [] [0, 1, 5] [])) h
end
def qH (n f : Bool) (es : LL) (x4 : Int) (n_0 : Bool) (s_0 : LL) : Env × Hp := ([(0, LV.pv (PV.sl n f es)), (3, LV.own 0), (4, Y6 x4)], [.sl (75, 6) true n_0 s_0])
section
variable (n f : Bool) (es : LL) (J : Int -> Bool -> LL -> Prop) (μ : Int -> Bool -> LL -> Nat)
def vU (R : PV -> Prop) : Prop :=
 (aU (qH n f es (0 : Int) true []) /\ J (0 : Int) true []) /\ ∀ (x4 : Int) (n_0 : Bool) (s_0 : LL), J x4 n_0 s_0 ->
 let K3 := fun (y0_ : Int) (y1_ : Bool) (y2_ : LL) => aU (qH n f es y0_ y1_ y2_) /\ J y0_ y1_ y2_ /\ μ y0_ y1_ y2_ < μ x4 n_0 s_0; if (decide (x4 < (↑es.length : Int)) && decide (x4 < 12)) = true then aD es x4 6 /\ ∃ n1, (es.getD x4.toNat []).head? = some (Z6 n1) /\ ∃ n2, (es.getD x4.toNat []).tail.head? = some (Z3 n2) /\ ∃ b, (es.getD x4.toNat []).tail.tail.head? = some (Zb b) /\ ∃ n3 f1 es1, (es.getD x4.toNat []).tail.tail.tail.head? = some (PV.sl n3 f1 es1) /\ ∃ b1, (es.getD x4.toNat []).tail.tail.tail.tail.head? = some (Zb b1) /\ ∃ n4, (es.getD x4.toNat []).tail.tail.tail.tail.tail.head? = some (Z3 n4) /\ if decide ((↑es1.length : Int) > 10) = true then (gE es1.length none (some (10 : Int)) none /\ bM es1 1) /\ (bM [[Z6 n1, Z3 n2, Zb b, PV.sl n3 (f1 && decide ((10 : Int) = (↑es1.length : Int))) (qc 0 (List.take 10 es1)), Zb b1, Z3 n4]] 6 /\ (s_0.length + 1) * (48 : Nat) <= 140737488355328) /\ K3 (i64.wrap (x4 + 1)) (n_0 && false) (s_0 ++ [[Z6 n1, Z3 n2, Zb b, PV.sl n3 (f1 && decide ((10 : Int) = (↑es1.length : Int))) (qc 0 (List.take 10 es1)), Zb b1, Z3 n4]]) else (bM [[Z6 n1, Z3 n2, Zb b, PV.sl n3 f1 es1, Zb b1, Z3 n4]] 6 /\ (s_0.length + 1) * 48 <= 140737488355328) /\ K3 (i64.wrap (x4 + 1)) (n_0 && false) (s_0 ++ [[Z6 n1, Z3 n2, Zb b, PV.sl n3 f1 es1, Zb b1, Z3 n4]]) else R (PV.sl n_0 false s_0)
theorem zch {R : PV -> Prop} (h : vU n f es J μ R) : PCall qa 16 [.sl n f es] R :=
 PCall.wz Try.func16 cS [0, 2, 3, 4, 5, 13, 24] (eD 3 (c4 cz3 (qH n f es) J μ (fun e h => (gI e 4, oN h 0, oS h 0)) [(3, 75, 6)] [0, 3, 4] [])) h
end
def qI (n f : Bool) (es : LL) (x4 : Int) (n_0 : Bool) (s_0 : LL) : Env × Hp := ([(0, LV.pv (PV.sl n f es)), (3, LV.own 0), (4, Y6 x4)], [.sl (32, 6) true n_0 s_0])
section
variable (n f : Bool) (es : LL) (J : Int -> Bool -> LL -> Prop) (μ : Int -> Bool -> LL -> Nat)
def vV (R : PV -> Prop) : Prop :=
 (aU (qI n f es (0 : Int) true []) /\ J (0 : Int) true []) /\ ∀ (x4 : Int) (n_0 : Bool) (s_0 : LL), J x4 n_0 s_0 -> if decide (x4 < (↑es.length : Int)) = true then aD es x4 6 /\ ∃ n1, (es.getD x4.toNat []).head? = some (Z6 n1) /\ ∃ n2, (es.getD x4.toNat []).tail.head? = some (Z3 n2) /\ ∃ b, (es.getD x4.toNat []).tail.tail.head? = some (Zb b) /\ ∃ n3 f1 es1, (es.getD x4.toNat []).tail.tail.tail.head? = some (PV.sl n3 f1 es1) /\ ∃ b1, (es.getD x4.toNat []).tail.tail.tail.tail.head? = some (Zb b1) /\ ∃ n4, (es.getD x4.toNat []).tail.tail.tail.tail.tail.head? = some (Z3 n4) /\ PCall qa 28 [PV.agg [Z6 n1, Z3 n2, Zb b, PV.sl n3 f1 es1, Zb b1, Z3 n4]] fun v => ∃ cs, v = PV.agg cs /\ cs.length = 6 /\ ∃ n5, cs.head? = some (Z6 n5) /\ ∃ n6, cs.tail.head? = some (Z3 n6) /\ ∃ b2, cs.tail.tail.head? = some (Zb b2) /\ ∃ n7 f2 es2, cs.tail.tail.tail.head? = some (PV.sl n7 f2 es2) /\ ∃ b3, cs.tail.tail.tail.tail.head? = some (Zb b3) /\ ∃ n8, cs.tail.tail.tail.tail.tail.head? = some (Z3 n8) /\ (bM [[Z6 n5, Z3 n6, Zb b2, PV.sl n7 f2 es2, Zb b3, Z3 n8]] 6 /\ (s_0.length + 1) * 48 <= 140737488355328) /\ aU (qI n f es (i64.wrap (x4 + 1)) (n_0 && false) (s_0 ++ [[Z6 n5, Z3 n6, Zb b2, PV.sl n7 f2 es2, Zb b3, Z3 n8]])) /\ J (i64.wrap (x4 + 1)) (n_0 && false) (s_0 ++ [[Z6 n5, Z3 n6, Zb b2, PV.sl n7 f2 es2, Zb b3, Z3 n8]]) /\ μ (i64.wrap (x4 + 1)) (n_0 && false) (s_0 ++ [[Z6 n5, Z3 n6, Zb b2, PV.sl n7 f2 es2, Zb b3, Z3 n8]]) < μ x4 n_0 s_0 else R (PV.sl n_0 false s_0)
theorem zci {R : PV -> Prop} (h : vV n f es J μ R) : PCall qa 17 [.sl n f es] R :=
 PCall.wz Try.func17 cS [0, 2, 3, 4, 8] (eD 3 (c4 cz3 (qI n f es) J μ (fun e h => (gI e 4, oN h 0, oS h 0)) [(3, 32, 6)] [0, 3, 4] [])) h
end
section
variable (kk kr : Int) (km : Bool) (n f : Bool) (es : LL) (c : Bool) (nm : Int)
def vW (R : PV -> Prop) : Prop :=
 R (PV.agg [Z6 kk, Z3 kr, Zb km, PV.sl n f es, Zb c, Z3 nm])
theorem zcj {R : PV -> Prop} (h : vW kk kr km n f es c nm R) : PCall qa 28 [.agg [.int .i64 kk, .int .i32 kr, .bool km, .sl n f es, .bool c, .int .i32 nm]] R :=
 PCall.wz Try.func28 cS [0, 1, 2] dD h
end
def m7 (n f : Bool) (es : LL) (n2 f2 : Bool) (ss : LL) (x5 : Int) : Env × Hp := ([(0, LV.pv (PV.sl n f es)), (1, LV.pv (PV.sl n2 f2 ss)), (5, Y6 x5)], [])
section
variable (n f : Bool) (es : LL) (n2 f2 : Bool) (ss : LL) (J : Int -> Prop) (μ : Int -> Nat)
def vX (R : PV -> Prop) : Prop :=
 if ((↑es.length : Int) != (↑ss.length : Int)) = true then R (Zb false) else (aU (m7 n f es n2 f2 ss (0 : Int)) /\ J (0 : Int)) /\ ∀ (x5 : Int), J x5 -> if decide (x5 < (↑es.length : Int)) = true then aD es x5 6 /\ ∃ (b : Bool),
  (qc 4 (es.getD x5.toNat [])).head? = some (Zb b) /\ aD ss x5 6 /\ ∃ b1, (qc 4 (ss.getD x5.toNat [])).head? = some (Zb b1) /\ if (b != b1) = true then R (Zb false) /\ R (Zb false) else aD es x5 6 /\ ∃ (n1 : Int),
  (qc 5 (es.getD x5.toNat [])).head? = some (Z3 n1) /\ aD ss x5 6 /\ ∃ n3, (qc 5 (ss.getD x5.toNat [])).head? = some (Z3 n3) /\ if (n1 != n3) = true then R (Zb false) /\ R (Zb false) else aD es x5 6 /\ ∃ (n4 : Int),
  (qc 0 (es.getD x5.toNat [])).head? = some (Z6 n4) /\ ∃ n5, (qc 0 (es.getD x5.toNat [])).tail.head? = some (Z3 n5) /\ ∃ b2, (qc 0 (es.getD x5.toNat [])).tail.tail.head? = some (Zb b2) /\ ∃ n6, ∃
  (f1 : Bool), ∃ es1, (qc 0 (es.getD x5.toNat [])).tail.tail.tail.head? = some (PV.sl n6 f1 es1) /\ aD ss x5 6 /\ ∃ n7, (qc 0 (ss.getD x5.toNat [])).head? = some (Z6 n7) /\ ∃ n8, (qc 0 (ss.getD
  x5.toNat [])).tail.head? = some (Z3 n8) /\ ∃ b3, (qc 0 (ss.getD x5.toNat [])).tail.tail.head? = some (Zb b3) /\ ∃ n9 f3 es2, (qc 0 (ss.getD x5.toNat [])).tail.tail.tail.head? = some
  (PV.sl n9 f3 es2) /\
 let V1 := PCall qa 15 [PV.sl false true [[Z6 n4, Z3 n5, Zb b2, PV.sl n6 f1 es1]], PV.sl false true [[Z6 n7, Z3 n8, Zb b3, PV.sl n9 f3 es2]]] fun v => ∃ b4, v = Zb b4 /\ if (!b4) = true then R (Zb false) else aU
  (m7 n f es n2 f2 ss (i64.wrap (x5 + 1))) /\ J (i64.wrap (x5 + 1)) /\ μ (i64.wrap (x5 + 1)) < μ x5; V1 /\ V1 else R (Zb true)
theorem zck {R : PV -> Prop} (h : vX n f es n2 f2 ss J μ R) : PCall qa 21 [.sl n f es, .sl n2 f2 ss] R :=
 PCall.wz Try.func21 cS [0, 1, 4, 5, 10, 14, 56] (eD 4 (c4 cz1 (m7 n f es n2 f2 ss) J μ (fun e h => (((gI e 5), ()))) [] [0, 1, 5] [])) h
end
def qJ (n f : Bool) (es : LL) (nm x5 : Int) : Env × Hp := ([(0, LV.pv (PV.sl n f es)), (1, LV.pv (PV.int i32 nm)), (5, Y6 x5)], [])
section
variable (n f : Bool) (es : LL) (nm : Int) (J : Int -> Prop) (μ : Int -> Nat)
def vY (R : PV -> Prop) : Prop :=
 (aU (qJ n f es nm (0 : Int)) /\ J (0 : Int)) /\ ∀ (x5 : Int), J x5 -> if decide (x5 < (↑es.length : Int)) = true then aD es x5 2 /\ ∃ n1, (qc 0 (es.getD x5.toNat [])).head? = some (Z3 n1) /\ if (n1 == nm) = true then R (Z6 x5) else aU (qJ n f es nm (i64.wrap (x5 + 1))) /\ J (i64.wrap (x5 + 1)) /\ μ (i64.wrap (x5 + 1)) < μ x5 else R (Z6 (-1 : Int))
theorem zcl {R : PV -> Prop} (h : vY n f es nm J μ R) : PCall qa 29 [.sl n f es, .int .i32 nm] R :=
 PCall.wz Try.func29 cS [0, 1, 4, 5, 9, 18] (eD 2 (c4 cz1 (qJ n f es nm) J μ (fun e h => (((gI e 5), ()))) [] [0, 1, 5] [])) h
end
def qK (n f : Bool) (es : LL) (nm : Int) (n2 f2 : Bool) (ss : LL) (x10 : Bool) (x11 : Int) (n_0 : Bool) (s_0 : LL) : Env × Hp := ([(0, LV.pv (PV.sl n f es)), (1, LV.pv (PV.int i32 nm)), (2, LV.pv (PV.sl n2 f2 ss)), (9, LV.own 0), (10, .pv (.bool x10)), (11, Y6 x11)], [.sl (54, 2) true n_0 s_0])
section
variable (n f : Bool) (es : LL) (nm : Int) (n2 f2 : Bool) (ss : LL) (J : Bool -> Int -> Bool -> LL -> Prop) (μ : Bool -> Int -> Bool -> LL -> Nat)
def vZ (R : PV -> Prop) : Prop :=
 PCall qa 29 [PV.sl n f es, Z3 nm] fun v => ∃ n1, v = Z6 n1 /\ if decide ((↑ss.length : Int) > 1000) = true then R (PV.tup [PV.sl n f es, Z6 7]) else if (decide (n1 < 0) && decide ((↑es.length : Int) >= 100)) = true then R (PV.tup [PV.sl n f es, Z6 3]) else (aU (qK n f es nm n2 f2 ss false (0 : Int) true []) /\ J false (0 : Int) true []) /\ ∀ (x10 : Bool) (x11 : Int) (n_0 : Bool) (s_0 : LL), J x10 x11 n_0 s_0 ->
 let K9 := fun (y0_ : Bool) (y1_ : Int) (y2_ : Bool) (y3_ : LL) => aU (qK n f es nm n2 f2 ss y0_ y1_ y2_ y3_) /\ J y0_ y1_ y2_ y3_ /\ μ y0_ y1_ y2_ y3_ < μ x10 x11 n_0 s_0; if decide (x11 < (↑es.length : Int)) = true then aD es x11 2 /\ ∃ n3, (qc 0 (es.getD x11.toNat [])).head? = some (Z3 n3) /\ if (decide (n3 > nm) && !x10) = true then (bM [[Z3 nm, PV.sl n2 f2 ss]] 2 /\ (s_0.length + 1) * 32 <= 140737488355328) /\ aD es x11 2 /\ ∃ n4, (qc 0 (es.getD x11.toNat [])).head? = some (Z3 n4) /\ if (n4 == nm) = true then K9 true (i64.wrap (x11 + 1)) (n_0 && false) (s_0 ++ [[Z3 nm, PV.sl n2 f2 ss]]) else aD es x11 2 /\ ∃ n5, (es.getD x11.toNat []).head? = some (Z3 n5) /\ ∃ n6 f1 es1, (es.getD x11.toNat []).tail.head? = some (PV.sl n6 f1 es1) /\ (bM [[Z3 n5, PV.sl n6 f1 es1]] 2 /\ ((s_0 ++ [[Z3 nm, PV.sl n2 f2 ss]]).length + 1) * 32 <= 140737488355328) /\ K9 true (i64.wrap (x11 + 1)) (n_0 && false && false) (s_0 ++ [[Z3 nm, PV.sl n2 f2 ss]] ++ [[Z3 n5, PV.sl n6 f1 es1]]) else aD es x11 2 /\ ∃ n4, (qc 0 (es.getD x11.toNat [])).head? = some (Z3 n4) /\ if (n4 == nm) = true then K9 x10 (i64.wrap (x11 + 1)) n_0 s_0 else aD es x11 2 /\ ∃ n5, (es.getD x11.toNat []).head? = some (Z3 n5) /\ ∃ n6 f1 es1, (es.getD x11.toNat []).tail.head? = some (PV.sl n6 f1 es1) /\ (bM [[Z3 n5, PV.sl n6 f1 es1]] 2 /\ (s_0.length + 1) * 32 <= 140737488355328) /\ K9 x10 (i64.wrap (x11 + 1)) (n_0 && false) (s_0 ++ [[Z3 n5, PV.sl n6 f1 es1]]) else if (!x10) = true then (bM [[Z3 nm, PV.sl n2 f2 ss]] 2 /\ (s_0.length + 1) * 32 <= 140737488355328) /\ R (PV.tup [PV.sl (n_0 && false) false (s_0 ++ [[Z3 nm, PV.sl n2 f2 ss]]), Z6 0]) else R (PV.tup [PV.sl n_0 false s_0, Z6 0])
theorem zcm {R : PV -> Prop} (h : vZ n f es nm n2 f2 ss J μ R) : PCall qa 18 [.sl n f es, .int .i32 nm, .sl n2 f2 ss] R :=
 PCall.wz Try.func18 cS [0, 1, 2, 6, 7, 8, 9, 10, 11, 17, 25, 30, 43, 56, 65] (eD 9 (c4 cz4 (qK n f es nm n2 f2 ss) J μ (fun e h => (gB e 10, gI e 11, oN h 0, oS h 0)) [(9, 54, 2)] [0, 1, 2, 9, 10, 11] [])) h
end
def v6  (R : PV -> Prop) : Prop :=
 ACall qa 7 [LV.pv (PV.agg [PV.nilm]), LV.pv (Z3 97), LV.pv (PV.sl false true [[Z6 1, Z3 120, Zb false, PV.sl true true [], Zb false, Z3 0], [Z6 0, Z3 0, Zb false, PV.sl true true [], Zb true, Z3 98]])] [] fun (r : LV) (h' : Hp) => ∃ (t : List (PV × PV) × Int), (r = LV.pv (PV.tup [PV.agg [PV.mp t.fst], Z6 t.2]) /\ h' = []) /\ True /\ ACall qa 7 [LV.pv (PV.agg [PV.mp t.fst]), LV.pv (Z3 98), LV.pv (PV.sl false true [[Z6 1, Z3 121, Zb false, PV.sl true true [], Zb false, Z3 0]])] [] fun (r1 : LV) (h'1 : Hp) => ∃ (t1 : List (PV × PV) × Int), (r1 = LV.pv (PV.tup [PV.agg [PV.mp t1.fst], Z6 t1.2]) /\ h'1 = []) /\ True /\ ACall qa 8 [LV.pv (PV.agg [PV.mp t1.fst]), LV.pv (Z3 97)] [] fun (r2 : LV) (h'2 : Hp) => ∃ (t2 : Bool × Bool × LL × Int), (r2 = LV.pv (PV.tup [PV.sl t2.fst t2.snd.fst t2.snd.snd.fst, Z6 t2.snd.snd.2]) /\ h'2 = []) /\ True /\ ACall qa 7 [LV.pv (PV.agg [PV.mp t1.fst]), LV.pv (Z3 98), LV.pv (PV.sl false true [[Z6 0, Z3 0, Zb false, PV.sl true true [], Zb true, Z3 97]])] [] fun (r3 : LV) (h'3 : Hp) => ∃ (t3 : List (PV × PV) × Int), (r3 = LV.pv (PV.tup [PV.agg [PV.mp t3.fst], Z6 t3.2]) /\ h'3 = []) /\ True /\ ACall qa 8 [LV.pv (PV.agg [PV.mp t3.fst]), LV.pv (Z3 97)] [] fun (r4 : LV) (h'4 : Hp) => ∃ (t4 : Bool × Bool × LL × Int), (r4 = LV.pv (PV.tup [PV.sl t4.fst t4.snd.fst t4.snd.snd.fst, Z6 t4.snd.snd.2]) /\ h'4 = []) /\ True /\ PCall qa 15 [PV.sl t2.fst t2.snd.fst t2.snd.snd.fst, PV.sl false true [[Z6 1, Z3 120, Zb false, PV.sl true true []], [Z6 1, Z3 121, Zb false, PV.sl true true []]]] fun v => ∃ b, v = Zb b /\ R (Zb (b && t2.snd.snd.2 == 0 && t4.snd.snd.2 == 6))
theorem zcn  {R : PV -> Prop} (h : v6  R) : PCall qa 9 [] R :=
 PCall.wz Try.func9 (fun zz_ => match zz_ with | 7 => some ⟨List (PV × PV) × Int, fun _ hs t => (.pv (.tup [.agg [.mp t.1], .int .i64 t.2]), hs), none⟩ | 8 => some ⟨Bool × Bool × LL × Int, fun _ _ t => (.pv (.tup [.sl t.1 t.2.1 t.2.2.1, .int .i64 t.2.2.2]), []), none⟩ | _ => none) [0, 1, 2, 3, 4, 5, 6, 9] dD h

end Go.Eng
namespace Go.Eng
open Go Go.Proofs Go.Eng.Rows
theorem qL (a : List Int) : bM (aE a) 1 := zaw (enc := fun n => [PV.int .i32 n]) (fun _ => rfl) a
theorem v7 {l : List Int} {i : Int} (h0 : 0 <= i) (hi : i.toNat < l.length) : aD (aE l) i 1 /\ (aE l).getD i.toNat [] = [.int .i32 l[i.toNat]] :=
 ⟨b5 (enc := fun n => [PV.int .i32 n]) (fun _ => rfl) h0 (by omega), bX hi⟩
theorem qM {α : Type} {l : List α} {i : Nat} (h : i < l.length) : l.take (i + 1) = l.take i ++ [l[i]] := by
 rw [List.take_add_one, qn h]; rfl
theorem cN {i : Nat} (h : i < 1000000000000) : i64.wrap ((i : Int) + 1) = ((i + 1 : Nat) : Int) := by rw [gP (by omega) (by omega)]; omega
theorem PCall.empty {P : Program} {f : Nat} {args args' : List PV} {Q Q' : PV -> Prop} (h : PCall P f args' Q') {k : Nat} {fl : Bool} {es : List (List PV)} (hk : args[k]? = some (.sl true fl es)) (hne : es ≠ []) : PCall P f args Q :=
 ⟨h.1, fun w I G cargs _ _ h3 => by
  have := h3 k (.pv (.sl true fl es)) (by rw [qbf, hk]; rfl);generalize cargs.getD k undef = c at this;cases this with
  | pv _ _ h =>
    generalize hx : es = xs at h;cases h with
    | slnil => exact absurd hx hne⟩
theorem v8 (n f : Bool) (l : List Int) (hl : l.length < 1000000000000) : PCall qa 26 [.sl n f (aE l)] fun x => ∃ n f, x = .sl n f (aE l) := by
 have hc : PCall qa 26 [.sl false f (aE l)] fun x => ∃ n f, x = .sl n f (aE l) := by
  refine vN _ _ _ ?_; unfold qD;exact ⟨⟨rfl, .inl rfl, fun e he => (by cases he), qL _, by simp only [qas, gQ]; omega⟩, _, _, rfl⟩
 cases n with
 | false => exact hc
 | true =>
   by_cases h : l = []
   ·subst h;refine vN _ _ _ ?_; unfold qD;exact ⟨_, _, rfl⟩
   ·exact PCall.empty hc (k := 0) rfl (fun e => h (by cases l with | nil => rfl | cons a b => cases e))
theorem zco (n f n2 f2 : Bool) (l : List Int) (hl : l.length < 1000000000000) : PCall qa 10 [.sl n f (aE l), .sl n2 f2 (aE l)] fun v => v = .bool true := by
 refine zcb _ _ _ _ _ _ (fun i => 0 <= i /\ i <= l.length) (fun i => l.length - i.toNat) ?_;unfold vO;rw [if_neg (by simp)];refine ⟨⟨rfl, qbh _, by omega⟩, ?_⟩;rintro i ⟨i0, i1⟩;refine bJ (fun h => ?_) (fun h => rfl);simp only [aO, gQ] at h;have hi : i.toNat < l.length := by omega
 obtain ⟨g1, g2⟩ := v7 i0 hi;have hw : i64.wrap (i + 1) = i + 1 := gP (by omega) (by omega);refine ⟨g1, l[i.toNat], by rw [g2]; rfl, g1, l[i.toNat], by rw [g2]; rfl, ?_⟩;rw [if_neg (by simp), hw];exact ⟨rfl, ⟨by omega, by omega⟩, by dsimp only; omega⟩
def bG (k : MKey) : Prop := k.text.length < 1000000
theorem qN (x : GKey) : (bC x).length = 4 := rfl
theorem iW (x : GS) : (aK x).length = 6 := rfl
theorem qO (n f n2 f2 : Bool) (A B : List GKey) (h : A.map (·.2.2) = B.map (·.2.2)) (hk : ∀ x ∈ A, bG x.2.2) (hl : A.length < 1000000000) : PCall qa 15 [.sl n f (A.map bC), .sl n2 f2 (B.map bC)] fun v => v = .bool true := by
 have hlen : A.length = B.length := by have := congrArg qo h; simpa using this
 have la : (A.map bC).length = A.length := qd _;have lb : (B.map bC).length = B.length := qd _;refine zcg _ _ _ _ _ _ (fun x => ∃ i : Nat, x = i /\ i <= A.length) (fun x => A.length - x.toNat) ?_;unfold vT;rw [la, lb, if_neg (by simp; omega)];refine ⟨⟨rfl, 0, rfl, qj _⟩, ?_⟩;rintro _ ⟨i, rfl, hi⟩;refine bJ (fun hc => ?_) (fun hc => rfl);simp only [aO] at hc;have h1 : i < A.length := by omega
 have h2 : i < B.length := by omega
 have e : A[i].2.2 = B[i].2.2 := by
  have := congrArg (fun l => l[i]?) h;simpa [h1, h2] using this
 rw [qf, bX h1, bX h2, cN (by omega)];have ia : aD (A.map bC) (i : Int) 4 := b5 (l := A) qN (by omega) (by omega);have ib : aD (B.map bC) (i : Int) 4 := b5 (l := B) qN (by omega) (by omega);refine ⟨ia, _, rfl, ib, _, rfl, bU (by rw [e]; simp) ⟨ia, _, rfl, ib, _, rfl, bU (by rw [e]; simp) ⟨ia, _, rfl, ib, _, rfl, bU (by rw [e]; simp) ⟨ia, _, _, _, rfl, ib, _, _, _, rfl, ?_⟩⟩⟩⟩;rw [e];refine (zco _ _ _ _ _ (by have := hk _ (ql h1); rw [e] at this; unfold bG at this; omega)).mono ?_;rintro _ rfl;refine ⟨_, rfl, bU (by simp) ⟨rfl, ⟨i + 1, rfl, h1⟩, by dsimp only; omega⟩⟩
theorem qP (n f : Bool) (L : List GS) (hl : L.length < 100000) (hk : ∀ x ∈ L, bG x.2.2.key) : PCall qa 24 [.sl n f (L.map aK)] fun v => ∃ (n' f' : Bool) (L' : List GS), v = .sl n' f' (L'.map aK) /\ L'.map (·.2.2) = L.map (·.2.2) := by
 have ll : (L.map aK).length = L.length := qd _;refine zcc _ _ _ (fun x n' s => ∃ (i : Nat) (L' : List GS), x = i /\ i <= L.length /\ s = L'.map aK /\ L'.map (·.2.2) = (L.map (·.2.2)).take i) (fun x _ _ => L.length - x.toNat) ?_;unfold vP;rw [ll];refine ⟨⟨by omega, by omega, by omega, by omega⟩, ⟨rfl, 0, [], rfl, qj _, rfl, rfl⟩, ?_⟩;rintro _ n' _ ⟨i, L', rfl, hi, rfl, hL⟩;refine bJ (fun hc => ?_) (fun hc => ?_)
 ·simp only [aO] at hc;have h1 : i < L.length := by omega
  have hl' : L'.length = i := by have := congrArg qo hL; simp at this; omega
  rw [qf, bX h1, cN (by omega)];refine ⟨b5 (l := L) iW (by omega) (by omega), _, rfl, _, rfl, _, rfl, _, _, _, rfl, _, rfl, _, rfl, ?_⟩;refine (v8 _ _ _ (by have := hk _ (ql h1); unfold bG at this; omega)).mono ?_;rintro _ ⟨n1, f1, rfl⟩;refine ⟨_, _, _, rfl, ⟨fun e he => by cases he; rfl, by simp only [qd]; omega⟩, rfl, ⟨i + 1, L' ++ [(n1, f1, L[i].2.2)], rfl, h1, by rw [qk]; rfl, ?_⟩, by dsimp only; omega⟩;rw [qk, hL, qM (by simpa using h1)]
  simp
 ·simp only [aO] at hc;refine ⟨_, _, L', rfl, ?_⟩;rw [hL, qad (by simp; omega)]
theorem zcp (kvs : List (PV × PV)) : ACall qa 23 [.pv (.mp kvs)] [] fun r h' => r = .mp 0 /\ h' = [.mp kvs] := by
 refine ⟨⟨_, Try.func23, by kernel_rfl, by kernel_rfl⟩, fun w I G cargs hh hsz hrel => ?_⟩;have h0 := hrel 0 _ rfl;obtain ⟨l⟩ := cargs
 match l, hsz with
 | [c], _ =>
   have h0 : LRel w I G [] (.pv (.mp kvs)) c := h0;cases h0 with
   | pv _ _ h =>
     cases h with
     | mp _ b ck es h3 h4 h1 h5 h6 =>
       refine (AnyW.maps_Clone Try.cloneM b es ck w h4).mono ?_;rintro e w' ⟨rfl, rfl⟩;have hk : Keeps w I (w.alloc (.map es ck)) I := .alloc w I I _ fun _ x => x;have hp := hh.push (.map es ck) (.mp kvs) ⟨w.heap.size, 0, 0, 0⟩ rfl ⟨es, ck, fY w _, h1, fun i kv hi => ⟨(h5 i kv hi).mono hk.1 hk.2, (h6 i kv hi).mono hk.1 hk.2⟩⟩;refine ⟨_, .mp 0, _, I, _, rfl, ⟨rfl, rfl⟩, hp, ?_, TrH.push (.map es ck) (.mp kvs) ⟨w.heap.size, 0, 0, 0⟩ rfl⟩;have := LRel.mp (w := w.alloc (.map es ck)) (I := I) (G := aG G 0 ⟨w.heap.size, 0, 0, 0⟩) (h := [.mp kvs]) 0 kvs rfl;simpa [aG] using this
theorem aCloneN : ACall qa 23 [.pv .nilm] [] fun r h' => r = .pv .nilm /\ h' = [] := by
 refine ⟨⟨_, Try.func23, by kernel_rfl, by kernel_rfl⟩, fun w I G cargs hh hsz hrel => ?_⟩;have h0 := hrel 0 _ rfl;obtain ⟨l⟩ := cargs
 match l, hsz with
 | [c], _ =>
   have h0 : LRel w I G [] (.pv .nilm) c := h0;cases h0 with
   | pv _ _ h =>
     cases h;refine (AnyW.maps_Clone_nil Try.cloneM w).mono ?_;rintro e w' ⟨rfl, rfl⟩;exact ⟨_, _, _, I, G, rfl, ⟨rfl, rfl⟩, hh, .pv _ _ .nilm, TrH.refl _ _ _ _⟩
theorem PCall.acall {P : Program} {f : Nat} {ps : List PV} {Q : PV -> Prop} (hc : PCall P f ps Q) : ACall P f (ps.map .pv) [] fun r h' => ∃ v, r = .pv v /\ h' = [] /\ Q v :=
 ⟨hc.1, fun w I G cargs h1 h2 h3 => (hc.2 w I G cargs h1 h2 h3).mono fun e w' ⟨cv, r, h', I', G', e1, ⟨v, hr, hq⟩, e3, e4, e5⟩ => by
  subst hr;refine ⟨cv, .pv v, [], I', G', e1, ⟨v, rfl, rfl, hq⟩, HRel.nil G' e3.cl, ?_, ⟨e5.t.trans (Tr.less fun b ⟨o, ob, ho, _⟩ => by simp at ho), qg _, fun o ob' ho => by simp at ho⟩⟩
  cases e4 with | pv _ _ h => exact .pv _ _ h⟩
abbrev GE := Bool × Bool × List GS
def BTx (B : GB) : Prop := ∀ p ∈ B, ∀ x ∈ p.2.2.2, bG x.2.2.key
theorem qQ {nm : Int} {y : GE} : ∀ {B : GB} {p : Int × GE}, p ∈ aL nm y B -> p = (nm, y) ∨ p ∈ B
 | [], p, h => by simp [aL] at h; exact .inl h
 | (k, z) :: r, p, h => by
   simp only [aL] at h;split at h
   ·rcases List.mem_cons.1 h with h | h
    ·exact .inl h
    ·exact .inr (qh _ h)
   ·rcases List.mem_cons.1 h with h | h
    ·exact .inr (by rw [h]; exact qi)
    ·exact (qQ h).imp id (qh _)
theorem kL {nm : Int} {y : GE} : ∀ {B : GB}, aM nm B = some y -> (nm, y) ∈ B
 | (k, z) :: r, h => by
   simp only [aM] at h;split at h
   ·rename_i e; cases h; rw [e]; exact qi
   ·exact qh _ (kL h)
theorem BkOK.set {B : GB} {nm : Int} {y : GE} (hB : BkOK B) (hy : y.2.2.length <= 1000) : BkOK (aL nm y B) := fun p hp => (qQ hp).elim (fun e => by rw [e]; exact hy) (hB p)
theorem BTx.set {B : GB} {nm : Int} {y : GE} (hB : BTx B) (hy : ∀ x ∈ y.2.2, bG x.2.2.key) : BTx (aL nm y B) := fun p hp => (qQ hp).elim (fun e => by rw [e]; exact hy) (hB p)
theorem m8 {α β : Type} {f : α -> β} {P : β -> Prop} {l m : List α} (h : l.map f = m.map f) (hm : ∀ x ∈ m, P (f x)) : ∀ x ∈ l, P (f x) := fun x hx => by
 have : f x ∈ m.map f := h ▸ qw hx;obtain ⟨y, hy, e⟩ := List.mem_map.1 this;rw [<- e]; exact hm y hy
theorem qR (B : GB) (nm : Int) (n f : Bool) (L : List GS) (hl : L.length <= 1000) (hk : ∀ x ∈ L, bG x.2.2.key) (hf : (aM nm B).isSome = true ∨ B.length ≠ 100) : PCall qa 7 [.agg [.mp (aQ B)], .int .i32 nm, .sl n f (L.map aK)] fun v =>
 ∃ y : GE, v = .tup [.agg [.mp (aQ (aL nm y B))], .int .i64 0] /\ y.2.2.map (·.2.2) = L.map (·.2.2) := by
 refine zcd _ _ _ _ _ ?_;unfold vQ;have ll : (L.map aK).length = L.length := qd _;have lb : (aQ B).length = B.length := zax B;rw [ll, lb]
 have rest : ACall qa 23 [LV.pv (PV.mp (aQ B))] [] fun (r : LV) (h' : Hp) => ∃ (t : Unit), (r = LV.mp 0 /\ h' = [Ob.mp (aQ B)]) /\ True /\ PCall qa 24 [PV.sl n f (L.map aK)] fun (v1 : PV) => ∃ (n2 : Bool), ∃ (f2 : Bool), ∃ (es2 : List (List PV)), v1 = PV.sl n2
  f2 es2 /\ e8 .i32 (aQ B) /\ ∃ y : GE, PV.tup [PV.agg [PV.mp (dC (.int .i32 nm) (PV.sl n2 f2 es2) (aQ B))], .int .i64 0] = .tup [.agg [.mp (aQ (aL nm y B))], .int .i64 0] /\ y.2.2.map (·.2.2) = L.map (·.2.2) := by
  refine (zcp _).mono ?_;rintro r h' ⟨rfl, rfl⟩;refine ⟨(), ⟨rfl, rfl⟩, trivial, (qP n f L (by omega) hk).mono ?_⟩;rintro _ ⟨n2, f2, L', rfl, hL⟩;refine ⟨n2, f2, _, rfl, mT _, (n2, f2, L'), ?_, hL⟩;rw [show dC (.int .i32 nm) (PV.sl n2 f2 (L'.map aK)) (aQ B) = aQ (aL nm (n2, f2, L') B) from zaz (ek := fun n => .int .i32 n) (ev := fun (x : GE) => .sl x.1 x.2.1 (x.2.2.map aK)) (fun a b => uX _ a b) nm (n2, f2, L') B]
 refine ⟨mT _, fun v hv => ?_, fun hv => ?_⟩
 ·rw [iV] at hv;cases hy : aM nm B with
  | none => rw [hy] at hv; cases hv
  | some y =>
    rw [hy] at hv; cases hv;exact ⟨_, _, _, rfl, bU (by simp only [aO]; omega) rest⟩
 ·rw [iV] at hv;cases hy : aM nm B with
  | some y => rw [hy] at hv; cases hv
  | none =>
    rw [hy] at hf;have hne : B.length ≠ 100 := hf.resolve_left (by simp);exact bU (by simp only [aO]; omega) (bU (by simp only [beq_iff_eq]; omega) rest)
theorem wA (nm : Int) (n f : Bool) (L : List GS) (hl : L.length <= 1000) (hk : ∀ x ∈ L, bG x.2.2.key) : PCall qa 7 [.agg [.nilm], .int .i32 nm, .sl n f (L.map aK)] fun v =>
 ∃ y : GE, v = .tup [.agg [.mp (aQ (aL nm y []))], .int .i64 0] /\ y.2.2.map (·.2.2) = L.map (·.2.2) := by
 refine zce _ _ _ _ ?_;unfold vR;have ll : (L.map aK).length = L.length := qd _;rw [ll];refine ⟨(fun kv h => by cases h), ?_⟩;refine ⟨fun v hv => (by cases hv), fun _ => ?_⟩;refine bU (by simp only [aO]; omega) (aCloneN.mono ?_);rintro r h' ⟨rfl, rfl⟩;refine ⟨(), ⟨rfl, rfl⟩, trivial, (qP n f L (by omega) hk).mono ?_⟩;rintro _ ⟨n2, f2, L', rfl, hL⟩;exact ⟨n2, f2, _, rfl, (fun kv h => by cases h), (n2, f2, L'), rfl, hL⟩
theorem qS {P : MKey -> Prop} {f : Int -> MW -> Except Int MW} (hf : ∀ nm w w', f nm w = .ok w' -> (∀ k ∈ w.1, P k) -> ∀ k ∈ w'.1, P k) : ∀ {l : List MStep} {w w' : MW}, (∀ x ∈ l, P x.key) -> (∀ k ∈ w.1, P k) -> cD f l w = .ok w' -> ∀ k ∈ w'.1, P k
 | [], w, w', _, hw, h => by cases h; exact hw
 | x :: l, w, w', hl, hw, h => by
   rw [qA] at h;split at h
   ·cases h
   ·split at h
    ·split at h
     ·rename_i w2 h2;exact qS hf (fun y hy => hl y (qh _ hy)) (hf _ _ _ h2 hw) h
     ·cases h
    ·refine qS hf (fun y hy => hl y (qh _ hy)) (fun k hk => ?_) h;rcases List.mem_append.1 hk with hk | hk
     ·exact hw k hk
     ·rw [List.mem_singleton.1 hk]; exact hl x qi
theorem qT {P : MKey -> Prop} {b : Bk} (hb : ∀ nm l, bF b nm = some l -> ∀ x ∈ l, P x.key) : ∀ (d : Nat) (op : List Int) (nm : Int) (w w' : MW), bD b d op nm w = .ok w' -> (∀ k ∈ w.1, P k) -> ∀ k ∈ w'.1, P k
 | 0, op, nm, w, w', h, hw => by cases h
 | d + 1, op, nm, w, w', h, hw => by
   rw [bD] at h;split at h
   ·cases h
   ·rename_i l hl;split at h
    ·cases h
    ·exact qS (fun nm w w' h hw => qT hb d _ nm w w' h hw) (hb nm l hl) hw h
theorem BTx.find {B : GB} (hB : BTx B) (nm : Int) (l : List MStep) (h : bF (aH B) nm = some l) : ∀ x ∈ l, bG x.key := by
 rw [cT] at h;cases hy : aM nm B with
 | none => rw [hy] at h; cases h
 | some y =>
   rw [hy] at h; cases h;intro x hx;obtain ⟨z, hz, rfl⟩ := List.mem_map.1 hx;exact hB _ (kL hy) z hz
def qU : Except Int MW -> Int -> List GKey -> Prop
 | .ok w, r, Q => r = 0 /\ Q.map (·.2.2) = w.1
 | .error e, r, Q => r = e /\ e ≠ 0 /\ Q = []
def cX (b : Bk) (nm : Int) : Except Int MW := bD b (b.length + 1) [] nm ([], 0)
theorem zcq (q : GKey) (n f : Bool) : bL (bC q) 3 [PV.sl n f (aE q.2.2.text)] = bC (n, f, q.2.2) := rfl
theorem qV {B : GB} (hB : BkOK B) (hT : BTx B) (nm : Int) : PCall qa 8 [.agg [.mp (aQ B)], .int .i32 nm] fun v => ∃ (n f : Bool) (Q : List GKey) (r : Int), v = .tup [.sl n f (Q.map bC), .int .i64 r] /\ qU (cX (aH B) nm) r Q := by
 refine zb8 _ _ (fun x y _ _ s => ∃ (i : Nat) (Q : List GKey), x = Q.length /\ y = i /\ i <= Q.length /\ s = Q.map bC /\ Q.length < 100000 /\ (∀ q ∈ Q, bG q.2.2) /\ qU (cX (aH B) nm) 0 Q) (fun x y _ _ _ => (x - y).toNat) ?_;unfold vM;refine (zca hB nm).mono ?_;rintro r h' ⟨⟨r0, nl, T⟩, ⟨rfl, rfl⟩, n', Q, hT', hres⟩;dsimp only at hT' hres;subst hT';refine ⟨(r0, nl, Q.map bC), ⟨rfl, rfl⟩, ⟨trivial, trivial, trivial⟩, ?_⟩;have hlen : (aH B).length = B.length := by simp [aH]
 have hX : bD (aH B) (B.length + 1) [] nm ([], 0) = cX (aH B) nm := by unfold cX; rw [hlen]
 rw [hX] at hres;have hlq : (Q.map bC).length = Q.length := qd _;dsimp only;cases hx : cX (aH B) nm with
 | error e =>
   rw [hx] at hres;obtain ⟨rfl, he⟩ := hres;exact mS (by simpa using he) ⟨true, true, [], _, rfl, rfl, he, rfl⟩
 | ok w =>
   rw [hx] at hres;obtain ⟨rfl, rfl, h1, h2, h3⟩ := hres;rw [if_neg (by simp), hlq]
   have hkq : ∀ q ∈ Q, bG q.2.2 := fun q hq => by
    refine qT (P := bG) hT.find _ _ _ _ w hx (by simp) q.2.2 ?_;rw [<- h1]; exact qw hq
   refine ⟨⟨rfl, 0, Q, rfl, rfl, qj _, rfl, by omega, hkq, rfl, h1⟩, ?_⟩;rintro _ _ _ nn _ ⟨i, K, rfl, rfl, hi, rfl, hK, hKT, hKr⟩;refine bJ (fun hc => ?_) (fun hc => ⟨_, _, K, 0, rfl, hKr⟩);simp only [aO] at hc;have h1 : i < K.length := by omega
   have ix : aD (K.map bC) (i : Int) 4 := b5 (l := K) qN (by omega) (by omega);rw [qf, bX h1, cN (by omega)];refine ⟨ix, _, _, _, rfl, (v8 _ _ _ (by have := hKT _ (ql h1); unfold bG at this; omega)).mono ?_⟩;rintro _ ⟨n1, f1, rfl⟩
   have hm : (K.set i (n1, f1, K[i].2.2)).map (·.2.2) = K.map (·.2.2) := by
    rw [qbc];have e : K[i].2.2 = (K.map (·.2.2))[i]'(by simpa using h1) := by simp
    show (K.map (·.2.2)).set i K[i].2.2 = _;rw [e];exact List.set_getElem_self _
   refine ⟨_, _, _, rfl, ix, ⟨rfl, qg 4⟩, ?_⟩;rw [zcq, <- qbc];refine ⟨rfl, ⟨i + 1, _, by simp, rfl, by rw [qbk]; omega, rfl, by simpa using hK, m8 hm hKT, ?_⟩, by omega⟩
   exact ⟨rfl, hm.trans hKr.2⟩
section
variable {W0 : World} {I0 : Nat -> Prop} {o0 : Nat -> Prop} {P0 : Pl} {rec : Loop}
def qW (W0 : World) (I0 : Nat -> Prop) (o0 : Nat -> Prop) (P0 : Pl) (rec : Loop) : Prop := ∀ {s : List Int}, s.length < 1000000 -> ∀ {w : World} {I : Nat -> Prop} {G : Nat -> Pl} {h : Hp}, SeqZ W0 I0 o0 P0 rec s w I G h -> ∀ x : Int,
 ∃ fn tmps assign body, (Instr.yield (W0.heap.size + 1) #[.int .i32 x]).run qa w = .ok (.round (W0.heap.size + 1) fn tmps assign body) w /\ RoundIn Fence.wide 0 qa (W0.heap.size + 1) fn tmps assign body w fun e w' =>
  e = .returned (.bool true) /\ ∃ I', HRel w' I' G h /\ Keeps w I w' I' /\ SeqZ W0 I0 o0 P0 rec (s ++ [x]) w' I' G h
abbrev yS (W0 : World) : Value := .func (.yield (W0.heap.size + 1)) #[] #[]
theorem zcr (hR : qW W0 I0 o0 P0 rec) {s : List Int} (hl : s.length < 1000000) {k : Int} {h : Hp} {Q : List Int -> Qt} (hK : Q (s ++ [k]) .normal [(13, .pv (.bool false)), (12, .pv (.bool true)), (0, .pv (.raw (yS W0))), (5, .it 1)] h) :
 CodeY (SeqZ W0 I0 o0 P0 rec) qa 14 (.region 3 (cJ Try.f35) false) s [(0, .pv (.raw (yS W0))), (3, .pv (.int .i32 k)), (5, .it 1)] h Q := by
 intro w I G a Qx hs hz hq;obtain ⟨_, _, _, _, _, _, d3⟩ := qB;obtain ⟨p1, p2, p3, p4, p5⟩ := zb5
 refine mV (Φ := fun a' w' => ∃ I' G', SRel w' I' G' [(13, .pv (.bool false)), (12, .pv (.bool true)), (0, .pv (.raw (yS W0))), (5, .it 1)] h 14 a' /\ a'.defers = a.defers /\ SeqZ W0 I0 o0 P0 rec (s ++ [k]) w' I' G' h) ?_
  (fun a' w' ⟨I', G', q1, q2, q3⟩ => hq (s ++ [k]) .normal _ _ w' I' G' a' hK q1 q2 q3)
 refine OpsN.step d3 2 (by rw [p5]; omega) (by rw [qK3]; exact ⟨rfl, rfl⟩ : aT qa (fun _ => none) 14 _ _ _ _ (fun e' h' => e' = _ /\ h' = _)) hs ?_;rintro _ h w1 I1 G1 a1 ⟨rfl, rfl⟩ hs1 hd1 ht1;have hz1 := SeqZ.stab (n0 := 0) _ _ _ _ _ _ _ _ _ hz hs.hh hs1.hh ht1.toN;have v10 : a1.eval (.tmp 10) = yS W0 := m6 (hs1.he 10 _ rfl);have v11 : a1.eval (.tmp 11) = .int .i32 k := (hs1.he 11 _ rfl : LRel w1 I1 G1 _ (.pv (.int .i32 k)) _).int_eq;obtain ⟨fn, tmps, assign, body, hy, hRd⟩ := hR hl hz1 k
 have hrun : (execOp a1.eval ((cJ Try.f35).toList.getD 2 default)).run qa w1 = .ok (.round (W0.heap.size + 1) fn tmps assign body) w1 := by
  unfold execOp;rw [p4]
  have hres : resolve a1.eval { callee := .value (.tmp 10), args := #[.tmp 11], argTypes := #[21] } ((cJ Try.f35).toList.getD 2 default).type = pure { target := .fn (.yield (W0.heap.size + 1)) #[], args := #[.int .i32 k] } := by
   simp [resolve, v10, v11, Deferred.ofValue]
  simp only [hres, pure_bind];exact hy
 refine OpsN.one p1 p3 ⟨fun _ _ => trivial, ?_⟩;show Oper.uponIn (wd none) 0 qa _ a1 _ _ ((((cJ Try.f35).toList.getD 2 default).semAt none a1.eval).run qa w1);rw [Oper.semAt_none, hrun];refine ⟨(fun x => by cases x), hRd.mono ?_⟩;rintro e w2 ⟨rfl, I2, h2, k2, z2⟩;obtain ⟨hs2, hd2⟩ := e9 (o := (cJ Try.f35).toList.getD 2 default) (v := .pv (.bool true)) (N := 14) (by unfold dM; rw [p2]; rfl) hs1.hn h2 (hs1.he.mono k2 (.refl _ _)) (.pv _ _ (.bool true));have hs2 : SRel w2 I2 G1 [(12, .pv (.bool true)), (0, .pv (.raw (yS W0))), (5, .it 1)] h 14 _ := hs2.le (LeE.le (by unfold put; rw [p2]; exact ⟨rfl, rfl, rfl, trivial⟩));refine OpsN.step d3 1 (by rw [p5]; exact qg _) (by rw [zb3]; exact ⟨rfl, rfl⟩ : aT qa (fun _ => none) 14 _ _ _ _ (fun e' h' => e' = _ /\ h' = _)) hs2 ?_;rintro _ h w3 I3 G3 a3 ⟨rfl, rfl⟩ hs3 hd3 ht3;exact OpsN.last (by rw [p5]; exact qg _) ⟨I3, G3, hs3, hd3.trans (hd2.trans hd1), SeqZ.stab (n0 := 0) _ _ _ _ _ _ _ _ _ z2 hs2.hh hs3.hh ht3.toN⟩
theorem zcs (hR : qW W0 I0 o0 P0 rec) (B : GB) (hB : B.length <= 1000) : CodeY (SeqZ W0 I0 o0 P0 rec) qa 14 (mM Try.f35) [] (cM [.pv (.raw (yS W0)), .box 0 0] 0) [.box [.pv (.mp (aQ B))]] fun s x e h => x = .normal /\ s.Perm (B.map (·.1)) := by
 rw [zb4];refine CodeY.seq (CodeY.awE (n0 := 1) SeqZ.stab (qK0 _) ?_);show CodeY (SeqZ W0 I0 o0 P0 rec) qa 14 (.block 0 (.loop _)) [] (eK (yS W0)) (fS (aQ B) (aQ B) none) _;refine CodeY.block (CodeY.loop (σ := List Int × GB × Option (PV × PV)) (fun u => (eK (yS W0), fS (aQ B) (aQ u.2.1) u.2.2)) (fun u => u.1) (fun u => (u.1 ++ u.2.1.map (·.1)).Perm (B.map (·.1))) (fun u => u.2.1.length) ([], B, none) ⟨rfl, rfl, trivial⟩ rfl rfl (List.Perm.refl _) ?_);rintro ⟨s, M, cur⟩ hJ;have hlen := hJ.length_eq;simp only [qm, qd] at hlen;dsimp only at hJ ⊢;refine CodeY.seq (CodeY.awE (n0 := 1) SeqZ.stab (qK1 _) ⟨fun hM => ?_, fun j k v hj => ?_⟩)
 ·have hM : M = [] := List.map_eq_nil_iff.1 hM;subst hM;refine CodeY.seq (CodeY.cond (t := false) rfl ?_);rw [if_neg qbd];exact CodeY.exit ⟨rfl, by simpa using hJ⟩
 ·obtain ⟨hj', rfl, rfl, hp, he⟩ := za1 hj;refine ⟨_, rfl, _, _, _, rfl, ?_⟩;refine CodeY.seq (CodeY.cond (t := true) rfl ?_);rw [if_pos rfl];refine CodeY.skip ?_;rw [show (aQ M).eraseIdx j = aQ (M.eraseIdx j) from he];refine CodeY.le (e' := eK (yS W0)) ⟨rfl, rfl, trivial⟩ (CodeY.block (CodeY.seq (CodeY.awE (n0 := 1) SeqZ.stab (qK2 _ _) ⟨_, rfl, _, _, _, rfl, ?_⟩)));refine CodeY.seq (zcr hR (by omega) ?_);refine CodeY.cond (t := false) rfl ?_;rw [if_neg qbd];refine CodeY.skip ⟨(s ++ [M[j].1], M.eraseIdx j, _), ⟨rfl, rfl, trivial⟩, rfl, rfl, ?_, ?_⟩
  ·have h2 := hp.map (fun p : Int × GE => p.1);simp only [qae] at h2;refine List.Perm.trans ?_ hJ;rw [List.append_assoc];exact (List.Perm.refl s).append h2
  ·have := List.length_eraseIdx_of_lt hj';dsimp only; omega
end
theorem qX {P : Program} {n0 N : Nat} {c : Code} {e E : Env} {h Hh : Hp} (hS : CodeS P n0 N c e h fun x e' h' => x = .normal /\ e' = E /\ h' = Hh) {w : World} {I : Nat -> Prop} {G : Nat -> Pl} {a : Act} (hs : SRel w I G e h N a) {Q : Exit -> Act -> World -> Prop}
 (hq : ∀ w' I' G' a', SRel w' I' G' E Hh N a' -> a'.defers = a.defers -> TrN n0 w I G h w' I' G' Hh -> Q .normal a' w') : c.wp P Q a w :=
 hS w I G a Q hs fun x e' h' w' I' G' a' hk hs' hd ht => by obtain ⟨rfl, rfl, rfl⟩ := hk; exact hq w' I' G' a' hs' hd ht
theorem wB : Try.f36.body = some (mM Try.f36) /\ Try.f36.ntmps = 13 /\ Try.f36.results = #[.tmp 4] /\ Try.f36.body.isNone = false /\ (Try.f36.name == "runtime.NumGoroutine") = false /\ Try.f35.body = some (mM Try.f35) /\ Try.f35.ntmps = 14 /\ Try.f35.results = #[] /\ Try.f35.body.isNone = false /\ (Try.f35.name == "runtime.NumGoroutine") = false :=
 ⟨by kernel_rfl, by kernel_rfl, by kernel_rfl, by kernel_rfl, by kernel_rfl, by kernel_rfl, by kernel_rfl, by kernel_rfl, by kernel_rfl, by kernel_rfl⟩
abbrev dS (B : GB) : Hp := [.box [.pv (.mp (aQ B))], .box [.pv (.sl true true [])]]
theorem zct (B : GB) (hB : B.length <= 1000) {w3 : World} {I3 : Nat -> Prop} {G3 : Nat -> Pl} {a3 : Act} (hs3 : SRel w3 I3 G3 [(2, .box 1 0), (6, .fn 35 [.box 0 0])] (dS B) 13 a3) (rec : Loop) (r1 : rec.state = .ready) (r2 : rec.pending = none) (r3 : rec.tmps = a3.tmps) (r4 : rec.params = #[7])
 (r5 : rec.assign = sAs (cW Try.f36)) (r6 : rec.body = sBd (cW Try.f36)) (vs : Array Value) (hvsz : vs.size = 1) (hvs : LRel w3 I3 G3 (dS B) (.box 0 0) (vs.getD 0 undef)) :
 Calls qa 35 (#[yS w3] ++ vs) ((w3.alloc (.deferred (some []))).alloc (.loop rec)) fun e w4 => (∃ v, e = .returned v) /\ ∃ s I4 G4 h4, s.Perm (B.map (·.1)) /\ HRel w4 I4 G4 h4 /\ SeqZ w3 I3 (aC (dS B) G3) (G3 1) rec s w4 I4 G4 h4 := by
 obtain ⟨k1, k2, k3, k4, k5, k6, k7, k8, k9, k10⟩ := wB;obtain ⟨W1, hW1⟩ : ∃ W1, W1 = (w3.alloc (.deferred (some []))).alloc (.loop rec) := ⟨_, rfl⟩;rw [<- hW1];have ka : KA w3 W1 := by rw [hW1]; exact (KA.alloc1 _ _).trans (KA.alloc1 _ _)
 have tA : ∀ own : Nat -> Prop, Tr w3 I3 own W1 I3 own := fun own => by rw [hW1]; exact (Tr.alloc1 _).trans (Tr.alloc1 _)
 have hl1 : W1.heap[w3.heap.size + 1]? = some (.loop rec) := by rw [hW1]; have := World.alloc_heap_new (w3.alloc (.deferred (some []))) (.loop rec); rwa [World.size_alloc] at this
 have hD1 : W1.heap[w3.heap.size]? = some (.deferred (some [])) := by rw [hW1]; exact (bK _ _ (by simp)).trans (World.alloc_heap_new w3 _)
 -- the two families
 obtain ⟨G2, hG2⟩ : ∃ G2 : Nat -> Pl, G2 = fun o => if o = 0 then G3 1 else ⟨0, 0, 0, 0⟩ := ⟨_, rfl⟩;have g20 : G2 0 = G3 1 := by rw [hG2]; rfl
 have hh := hs3.hh
 have ownA : ∀ b, aC (bV true (aE [])) G2 b -> b = (G3 1).blk := fun b ⟨o, ob, ho, ha, e⟩ => by
  match o, ho with
  | 0, ho => rw [<- e, g20]
  | 1, ho => cases ho; exact absurd ha.1 (by decide)
 have hA : HRel w3 I3 G2 (bV true (aE [])) := by
  refine ⟨fun o ob ho => ?_, fun o o' ob ob' ho ha ho' ha' e => ?_, fun o ob ho ha => ?_, hh.cl⟩
  ·match o, ho with
   | 0, ho =>
     cases ho;obtain ⟨vs, ty, b1, b2, b3⟩ := hh.obs 1 _ rfl;rw [g20];refine ⟨vs, ty, b1, b2, fun k v hk => ?_⟩
     match k, hk with
     | 0, hk =>
       cases hk;obtain ⟨q1, q2⟩ := b3 0 _ rfl;refine ⟨?_, q2⟩;generalize vs.getD ((G3 1).off + 0) undef = u at q1;cases q1 with | pv _ _ h => cases h; exact .ownNil 1 _ _ _ rfl
   | 1, ho => cases ho; exact rfl
  ·match o, ho with
   | 0, ho =>
     match o', ho' with
     | 0, _ => rfl
     | 1, ho' => cases ho'; exact absurd ha'.1 (by decide)
   | 1, ho => cases ho; exact absurd ha.1 (by decide)
  ·rw [ownA _ ⟨o, ob, ho, ha, rfl⟩]; exact hh.nI 1 _ rfl trivial
 have hM : HRel w3 I3 G3 [.box [.pv (.mp (aQ B))]] := by
  refine ⟨fun o ob ho => ?_, fun o o' ob ob' ho ha ho' ha' e => ?_, fun o ob ho ha => ?_, hh.cl⟩
  ·match o, ho with
   | 0, ho =>
     cases ho;obtain ⟨vs, ty, b1, b2, b3⟩ := hh.obs 0 _ rfl;refine ⟨vs, ty, b1, b2, fun k v hk => ?_⟩
     match k, hk with
     | 0, hk =>
       cases hk;obtain ⟨q1, q2⟩ := b3 0 _ rfl;refine ⟨?_, q2⟩;cases q1 with | pv _ _ h => exact .pv _ _ h
  ·match o, ho, o', ho' with
   | 0, _, 0, _ => rfl
  ·match o, ho with
   | 0, ho => exact hh.nI 0 _ rfl trivial
 have hne : (G3 0).blk ≠ (G3 1).blk := fun e => absurd (hh.sep 0 1 _ _ rfl trivial rfl trivial e) (by decide)
 have ownM : ∀ b, aC [Ob.box [.pv (.mp (aQ B))]] G3 b -> b = (G3 0).blk := fun b ⟨o, ob, ho, ha, e⟩ => by
  match o, ho with
  | 0, ho => exact e.symm
 have two : Two W1 I3 G3 [.box [.pv (.mp (aQ B))]] G2 (bV true (aE [])) := ⟨hM.ka ka, hA.ka ka, fun b x y => hne ((ownM b x).symm.trans (ownA b y))⟩
 have z1 : SeqZ w3 I3 (aC (dS B) G3) (G3 1) rec [] W1 I3 G3 [.box [.pv (.mp (aQ B))]] :=
  ⟨G2, true, (tA _).trans (Tr.less fun b hb => hb.elim (fun x => ⟨0, _, rfl, trivial, (ownM b x).symm⟩) fun x => ⟨1, _, rfl, trivial, (ownA b x).symm⟩), two, g20, hl1, hD1, fun h => by have := hh.cl _ h; omega, fun h => by have := hh.cl _ h; omega⟩
 have h2 : a3.tmps.getD 2 undef = .pointer (some ⟨(G3 1).blk, (G3 1).off + 0, none⟩) := by
  have : LRel w3 I3 G3 (dS B) (.box 1 0) (a3.tmps.getD 2 undef) := hs3.he 2 _ rfl;generalize a3.tmps.getD 2 undef = u at this;cases this with
  | box _ _ _ _ => rfl
  | arr _ _ _ h => cases h
 have hR : qW w3 I3 (aC (dS B) G3) (G3 1) rec := fun {s} hs {w} {I} {G} {h} hz x => zb6 hs3.hn h2 r1 r2 r3 r4 r5 r6 hs hz x
 obtain ⟨x0, rfl⟩ : ∃ x0, vs = #[x0] := by
  obtain ⟨l⟩ := vs
  match l, hvsz with
  | [a], _ => exact ⟨a, rfl⟩
 have hvs : LRel w3 I3 G3 (dS B) (.box 0 0) x0 := hvs
 have hsW : SRel W1 I3 G3 (cM [.pv (.raw (yS w3)), .box 0 0] 0) [.box [.pv (.mp (aQ B))]] 14 { tmps := (#[yS w3] ++ #[x0]) ++ qt (14 - (#[yS w3] ++ #[x0]).size) undef, defers := [] } := by
  have e0 : ∀ r : Array Value, (#[yS w3] ++ #[x0] ++ r).getD 0 undef = yS w3 := fun r => by rw [qe, qu (by simp)]; rfl
  have e1 : ∀ r : Array Value, (#[yS w3] ++ #[x0] ++ r).getD 1 undef = x0 := fun r => by rw [qe, qu (by simp)]; rfl
  refine ⟨two.a, ?_, by simp⟩
  have hx : LRel W1 I3 G3 [.box [.pv (.mp (aQ B))]] (.box 0 0) x0 := by
   cases hvs with
   | box _ _ _ _ => exact .box 0 0 _ rfl
   | arr _ _ _ h => cases h
  have he : ERel W1 I3 G3 [.box [.pv (.mp (aQ B))]] [(0, .pv (.raw (yS w3))), (1, .box 0 0)] (#[yS w3] ++ #[x0] ++ qt (14 - (#[yS w3] ++ #[x0]).size) undef) :=
   ((ERel.nil _ _ _ _ _).cons (s := 1) (v := .box 0 0) (by rw [e1]; exact hx)).cons (s := 0) (v := .pv (.raw (yS w3))) (by rw [e0]; exact .pv _ _ (.raw _))
  exact he
 refine calls_of_wp Try.func35 k6 ?_;rw [k7];refine zcs hR B hB W1 I3 G3 _ _ hsW z1 ?_;rintro s x e' h4 w4 I4 G4 a4 ⟨rfl, hp⟩ hs4 hd4 z4;exact ⟨hd4, _, results_none k8 _ _ _, ⟨_, rfl⟩, s, I4, G4, h4, hp, hs4.hh, z4⟩
theorem zcu (B : GB) (hB : B.length <= 1000) : ACall qa 36 [.pv (.sl true true []), .fn 35 [.box 0 0]] [.box [.pv (.mp (aQ B))]] fun r h' => ∃ t : Bool × List (List PV), (r = .own 1 /\ h' = [.dead, .sl (21, 1) true t.1 t.2]) /\ ∃ s : List Int, t.2 = aE s /\ s.Perm (B.map (·.1)) := by
 obtain ⟨k1, k2, k3, k4, k5, k6, k7, k8, k9, k10⟩ := wB;obtain ⟨q1, q2, _⟩ := qB;refine ⟨⟨_, Try.func36, k4, k5⟩, fun w I G cargs hh hsz hrel => ?_⟩;simp only [qp, qas] at hsz;refine (callsIn_wide (n := 0)).1 (callsIn_of_wp_marks Try.func36 k1 trivial (wpIn_wide.2 ?_));rw [k2]
 have hs : SRel w I G (cM [.pv (.sl true true []), .fn 35 [.box 0 0]] 0) [.box [.pv (.mp (aQ B))]] 13 { tmps := cargs ++ qt (13 - cargs.size) undef, defers := [] } := by
  refine ⟨hh, fun i v hi => ?_, by simp; omega⟩;obtain ⟨_, h2⟩ := kD hi;rw [Nat.sub_zero] at h2;have hlt : i < cargs.size := by have := (List.getElem?_eq_some_iff.1 h2).1; simp at this; omega
  have := hrel i v h2
  have e1 : (cargs ++ qt (13 - cargs.size) undef).getD i undef = cargs.getD i undef := by
   rw [qe, qe, qu hlt]
  simp only [e1];exact VRel.of_plain this
 rw [q1];refine wp_seq (qX (E := [(1, .fn 35 [.box 0 0]), (2, .box 1 0)]) (Hh := dS B) (n0 := 1) (iT (Eq.mpr (qS0 _) ⟨rfl, rfl, rfl⟩)) hs fun w1 I1 G1 a1 hs1 hd1 ht1 => ?_);refine wp_seq (wp_seq (qX (E := [(2, .box 1 0), (6, .fn 35 [.box 0 0])]) (Hh := dS B) (n0 := 1) (iT (Eq.mpr (qS1 _) ⟨rfl, rfl, rfl⟩)) hs1 fun w3 I3 G3 a3 hs3 hd3 ht3 => ?_));have hd30 : a3.defers = [] := hd3.trans hd1;refine wp_block ?_;rw [q2]
 obtain ⟨vs, hv6, hvsz, hvs⟩ : ∃ vs : Array Value, a3.tmps.getD 6 undef = .func (.func 35) #[] vs /\ vs.size = 1 /\ LRel w3 I3 G3 (dS B) (.box 0 0) (vs.getD 0 undef) := by
  have := hs3.he 6 _ rfl;generalize a3.tmps.getD 6 undef = cv at this;cases this with
  | fn f cs vs h1 h6 => exact ⟨vs, rfl, h1, h6 0 _ rfl⟩
 refine (wpIn_wide (n := 0)).1 (wpIn_rangeFunc (F := Fence.wide) fun fn _ => ?_);obtain ⟨rec, hrec⟩ : ∃ rec : Loop, rec = { state := .ready, pending := none, fn := fn, tmps := a3.tmps, params := #[7], assign := sAs (cW Try.f36), body := sBd (cW Try.f36), defers := w3.heap.size } := ⟨_, rfl⟩
 refine ⟨w3.heap.size + 1, [{ target := .collected w3.heap.size, args := #[] }], (w3.alloc (.deferred (some []))).alloc (.loop rec), { target := .fn (.func 35) vs, args := #[yS w3] }, (w3.alloc (.deferred (some []))).alloc (.loop rec), 35,
  #[yS w3] ++ vs, (w3.alloc (.deferred (some []))).alloc (.loop rec), ?_, ?_, fun _ _ => trivial, ?_, fun x => (by cases x), ?_⟩
 ·rw [hrec]; exact run_enterLoop_outer _ _ _ _ _
 ·have he : a3.eval (.tmp 6) = .func (.func 35) #[] vs := hv6;simp only [resolve, he];simp [go_sem]
 ·simp only [invoke];exact sS ⟨_, Try.func35, k9, k10⟩
 refine (callsIn_wide).2 (Calls.mono (zct B hB hs3 rec (by rw [hrec]) (by rw [hrec]) (by rw [hrec]) (by rw [hrec]) (by rw [hrec]) (by rw [hrec]) vs hvsz hvs) ?_);rintro e w4 ⟨⟨v, rfl⟩, s, I4, G4, h4, hp, hh4, G2, nl, t4, two, g0, hl, hD, n1, n2⟩;have hpn : rec.pending = none := by rw [hrec]
 refine ⟨none, _, (run_endLoop hl (by rw [hrec]; simp)).trans (congrArg (fun j => Result.ok j _) hpn), ?_⟩
 -- what follows the loop
 have two5 := two.off (.loop rec) (.loop { rec with state := .exhausted }) n1 hl rfl;have lw4 := (Array.getElem?_eq_some_iff.1 hl).1;have hD5 : (w4.putObj (w3.heap.size + 1) (.loop { rec with state := .exhausted })).heap[w3.heap.size]? = some (.deferred (some [])) := (World.putObj_heap_other (by omega)).trans hD
 have h2 : a3.tmps.getD 2 undef = .pointer (some ⟨(G3 1).blk, (G3 1).off + 0, none⟩) := by
  have : LRel w3 I3 G3 (dS B) (.box 1 0) (a3.tmps.getD 2 undef) := hs3.he 2 _ rfl;generalize a3.tmps.getD 2 undef = u at this;cases this with
  | box _ _ _ _ => rfl
  | arr _ _ _ h => cases h
 have hs5 : SRel (w4.putObj (w3.heap.size + 1) (.loop { rec with state := .exhausted })) I4 G2 [(2, .box 0 0)] (bV nl (aE s)) 13 { tmps := a3.tmps, defers := [{ target := .collected w3.heap.size, args := #[] }] ++ a3.defers } := by
  refine ⟨two5.b, (ERel.nil _ _ _ _ _).cons (s := 2) (v := .box 0 0) ?_, hs3.hn⟩;simp only [h2];rw [<- g0]; exact .box 0 0 _ rfl
 show (Code.seq (aV (aI (aI (mM Try.f36)))) .ret).wp qa _ { tmps := a3.tmps, defers := [{ target := .collected w3.heap.size, args := #[] }] ++ a3.defers } _;refine wp_seq (qX (E := [(4, .own 1)]) (Hh := bV nl (aE s)) (n0 := 1) (iT (Eq.mpr (qS4 _) ⟨rfl, rfl, rfl⟩)) hs5 fun w6 I6 G6 a6 hs6 hd6 ht6 => ?_);refine wp_ret ?_;show LeavesInM Fence.wide 0 qa _ a6.tmps _ a6.defers .returning w6;rw [hd6, hd30];have hD6 : w6.heap[w3.heap.size]? = some (.deferred (some [])) := (ht6.t.keep _ (Array.getElem?_eq_some_iff.1 hD5).1 (fC hs5.hh hD5 rfl)).trans hD5;have lD5 := (Array.getElem?_eq_some_iff.1 hD5).1;have n6 : ¬ I6 w3.heap.size := fun x => (ht6.t.i2 _ x).elim n2 fun x => x.elim (fC hs5.hh hD5 rfl) fun x => by omega
 refine ⟨by simp, .inl ⟨_, _, rfl, run_takeDeferred hD6, ?_⟩⟩;refine ⟨_, results_tmp k3 _ _ _, ?_⟩;have hh7 := hs6.hh.atOff (.deferred none) n6 (fC hs6.hh hD6 rfl);have hv7 : LRel (w6.putObj w3.heap.size (.deferred none)) I6 G6 (bV nl (aE s)) (.own 1) (a6.tmps.getD 4 undef) := LRel.mono (hs6.he 4 _ rfl) (Keeps.atOff n6 (.deferred none)) (.refl _ _);have hs7 : SRel (w6.putObj w3.heap.size (.deferred none)) I6 G6 [(4, .own 1)] (bV nl (aE s)) 13 a6 := ⟨hh7, (ERel.nil _ _ _ _ _).cons (s := 4) (v := .own 1) hv7, hs6.hn⟩;obtain ⟨s1, s2⟩ := hs7.sub [2, 1] [] rfl;have g2 := LRel.mapV (l5 (os := [2, 1])) (Keeps.refl _ _) hv7;have tB : Tr w3 I3 (aC (dS B) G3) w6 I6 (fun b => aC (bV nl (aE s)) G6 b ∨ aC h4 G4 b) := ((t4.atOff (l := w3.heap.size + 1) (by omega) (.loop { rec with state := .exhausted })).flip'.trans (ht6.t.beside (aC h4 G4)));have ht := ((ht1.t.trans ht3.t).trans tB).atOff (l := w3.heap.size) (qaq ht1.t.size ht3.t.size) (.deferred none)
 exact ⟨_, .own 1, _, I6, _, rfl, ⟨(nl, aE s), ⟨rfl, rfl⟩, s, rfl, hp⟩, s1.hh, g2, ⟨ht.trans (Tr.less fun b hb => .inl (s2 b hb)), Nat.le_succ 1, fun o ob' ho hx hf => by
  match o, ho, hx with
  | 0, _, hx => cases hx; cases hf⟩⟩
end Go.Eng
namespace Go.Eng
open Go Go.Proofs
section
variable (kvs : List (PV × PV))
def wC (R : LV -> Hp -> Prop) : Prop :=
 R (LV.fn 35 [LV.box 0 0]) [Ob.box [LV.pv (PV.mp kvs)]]
theorem zcv {R : LV -> Hp -> Prop} (h : wC kvs R) : ACall qa 31 [.pv (.mp kvs)] [] R :=
 ACall.wz Try.func31 cS [0, 1, 2] dD [0] h
end
section
variable (kvs : List (PV × PV))
def wD (R : LV -> Hp -> Prop) : Prop :=
 ACall qa 36 [LV.pv (PV.sl true true []), LV.fn 35 [LV.box 0 0]] [Ob.box [LV.pv (PV.mp kvs)]] fun (r : LV) (h' : Hp) => ∃ (t : Bool × LL), (r = LV.own 1 /\ h' = [Ob.dead, Ob.sl (21, 1) true t.fst t.snd]) /\ (True /\ True) /\ R (LV.own 1) [Ob.dead, Ob.sl (21, 1) true t.fst t.snd]
theorem zcw {R : LV -> Hp -> Prop} (h : wD kvs R) : ACall qa 33 [.fn 35 [.box 0 0]] [.box [.pv (.mp kvs)]] R :=
 ACall.wz Try.func33 (fun zz_ => match zz_ with | 31 => some ⟨Unit, fun vs _ _ => (.fn 35 [.box 0 0], match vs with | [.pv v] => [.box [.pv v]] | _ => []), none⟩ | 36 => some ⟨Bool × LL, fun _ _ t => (.own 1, [.dead, .sl (21, 1) true t.1 t.2]), none⟩ | 33 => some ⟨Bool × LL, fun _ _ t => (.own 1, [.dead, .sl (21, 1) true t.1 t.2]), none⟩ | 30 => some ⟨Bool × LL, fun _ _ t => (.own 1, [.dead, .sl (21, 1) true t.1 t.2]), none⟩ | 34 => some ⟨LL, fun _ hs t => (.tup [], match hs with | [.sl ty m nl _] => [.sl ty m nl t] | h => h), none⟩ | _ => none) [0, 2] dD [0, 1] h
end
section
variable (kvs : List (PV × PV))
def wE (R : LV -> Hp -> Prop) : Prop :=
 ACall qa 33 [LV.fn 35 [LV.box 0 0]] [Ob.box [LV.pv (PV.mp kvs)]] fun (r : LV) (h' : Hp) => ∃ (t : Bool × LL), (r = LV.own 1 /\ h' = [Ob.dead, Ob.sl (21, 1) true t.fst t.snd]) /\ (True /\ True) /\ ACall qa 34 [LV.own 0] [Ob.sl (21, 1) false t.fst t.snd] fun (r1 : LV) (h'1 : Hp) => ∃ (t1 : LL), (r1 = LV.tup [] /\ h'1 = [Ob.sl (21, 1) false t.fst t1]) /\ (((21, 1) = (21, (1 : Nat)) /\ t.fst = t.fst /\ t.snd.length = t1.length) /\ True) /\ R (LV.own 1) [Ob.dead, Ob.sl (21, 1) true t.fst t1]
theorem zcx {R : LV -> Hp -> Prop} (h : wE kvs R) : ACall qa 30 [.fn 35 [.box 0 0]] [.box [.pv (.mp kvs)]] R :=
 ACall.wz Try.func30 (fun zz_ => match zz_ with | 31 => some ⟨Unit, fun vs _ _ => (.fn 35 [.box 0 0], match vs with | [.pv v] => [.box [.pv v]] | _ => []), none⟩ | 36 => some ⟨Bool × LL, fun _ _ t => (.own 1, [.dead, .sl (21, 1) true t.1 t.2]), none⟩ | 33 => some ⟨Bool × LL, fun _ _ t => (.own 1, [.dead, .sl (21, 1) true t.1 t.2]), none⟩ | 30 => some ⟨Bool × LL, fun _ _ t => (.own 1, [.dead, .sl (21, 1) true t.1 t.2]), none⟩ | 34 => some ⟨LL, fun _ hs t => (.tup [], match hs with | [.sl ty m nl _] => [.sl ty m nl t] | h => h), none⟩ | _ => none) [0, 2, 3] dD [0, 1] h
end
section
variable (kvs : List (PV × PV))
def wF (R : PV -> Prop) : Prop :=
 ACall qa 31 [LV.pv (PV.mp kvs)] [] fun (r : LV) (h' : Hp) => ∃ (t : Unit), (r = LV.fn 35 [LV.box 0 0] /\ h' = [Ob.box [LV.pv (PV.mp kvs)]]) /\ True /\ ACall qa 30 [LV.fn 35 [LV.box 0 0]] [Ob.box [LV.pv (PV.mp kvs)]] fun (r1 : LV) (h'1 : Hp) => ∃ (t1 : Bool × LL), (r1 = LV.own 1 /\ h'1 = [Ob.dead, Ob.sl (21, 1) true t1.fst t1.snd]) /\ (True /\ True) /\ R (PV.sl t1.fst false t1.snd)
theorem zcy {R : PV -> Prop} (h : wF kvs R) : PCall qa 19 [.agg [.mp kvs]] R :=
 PCall.wz Try.func19 (fun zz_ => match zz_ with | 31 => some ⟨Unit, fun vs _ _ => (.fn 35 [.box 0 0], match vs with | [.pv v] => [.box [.pv v]] | _ => []), none⟩ | 36 => some ⟨Bool × LL, fun _ _ t => (.own 1, [.dead, .sl (21, 1) true t.1 t.2]), none⟩ | 33 => some ⟨Bool × LL, fun _ _ t => (.own 1, [.dead, .sl (21, 1) true t.1 t.2]), none⟩ | 30 => some ⟨Bool × LL, fun _ _ t => (.own 1, [.dead, .sl (21, 1) true t.1 t.2]), none⟩ | 34 => some ⟨LL, fun _ hs t => (.tup [], match hs with | [.sl ty m nl _] => [.sl ty m nl t] | h => h), none⟩ | _ => none) [0, 1, 2] dD h
end
section
variable (x : Int)
def wG (R : PV -> Prop) : Prop :=
 R (Zb (x != x))
theorem zcz {R : PV -> Prop} (h : wG x R) : PCall qa 55 [.int .i32 x] R :=
 PCall.wz Try.func55 cS [0, 2] dD h
end
section
variable (x y : Int)
def wH (R : PV -> Prop) : Prop :=
 PCall qa 55 [Z3 x] fun v => ∃ b, v = Zb b /\ if b = true then PCall qa 55 [Z3 y] fun v1 => ∃ b1, v1 = Zb b1 /\ R (Zb (!b1 || decide (x < y))) else R (Zb (decide (x < y)))
theorem zc0 {R : PV -> Prop} (h : wH x y R) : PCall qa 45 [.int .i32 x, .int .i32 y] R :=
 PCall.wz Try.func45 cS [0, 1, 4] dD h
end
section
variable (nl : Bool) (es : LL)
def wI (R : LV -> Hp -> Prop) : Prop :=
 PCall qa 38 [PV.int .u64 (IntKind.u64.wrap (↑es.length : Int))] fun v => ∃ n, v = Z6 n /\ ACall qa 37 [LV.own 0, Y6 0, Y6 (↑es.length : Int), Y6 n] [Ob.sl (21, 1) false nl es] fun (r : LV) (h' : Hp) => ∃ (t : LL), (r = LV.tup [] /\ h' = [Ob.sl (21, 1) false nl t]) /\ (((21, 1) = (21, 1) /\ nl = nl /\ es.length = t.length) /\ True) /\ R (LV.tup []) [Ob.sl (21, 1) false nl t]
theorem zc1 {R : LV -> Hp -> Prop} (h : wI nl es R) : ACall qa 34 [.own 0] [.sl (21, 1) false nl es] R :=
 ACall.wz Try.func34 (fun zz_ => match zz_ with | 39 => some ⟨LL, fun _ hs t => (.tup [], match hs with | [.sl ty m nl _] => [.sl ty m nl t] | h => h), none⟩ | 50 => some ⟨LL, fun _ hs t => (.tup [], match hs with | [.sl ty m nl _] => [.sl ty m nl t] | h => h), none⟩ | 40 => some ⟨LL, fun _ hs t => (.tup [], match hs with | [.sl ty m nl _] => [.sl ty m nl t] | h => h), none⟩ | 41 => some ⟨LL, fun _ hs t => (.tup [], match hs with | [.sl ty m nl _] => [.sl ty m nl t] | h => h), none⟩ | 43 => some ⟨LL, fun _ hs t => (.tup [], match hs with | [.sl ty m nl _] => [.sl ty m nl t] | h => h), none⟩ | 37 => some ⟨LL, fun _ hs t => (.tup [], match hs with | [.sl ty m nl _] => [.sl ty m nl t] | h => h), none⟩ | 44 => some ⟨Bool × LL, fun _ hs t => (.pv (.bool t.1), match hs with | [.sl ty m nl _] => [.sl ty m nl t.2] | h => h), none⟩ | 46 => some ⟨Int × LL, fun _ hs t => (.pv (.int .i64 t.1), match hs with | [.sl ty m nl _] => [.sl ty m nl t.2] | h => h), none⟩ | 47 => some ⟨Int × Bool × LL, fun _ hs t => (.pv (.tup [.int .i64 t.1, .bool t.2.1]), match hs with | [.sl ty m nl _] => [.sl ty m nl t.2.2] | h => h), none⟩ | 42 => some ⟨Int × Int, fun _ hs t => (.pv (.tup [.int .i64 t.1, .int .i64 t.2]), hs), none⟩ | 56 => some ⟨Int × Int × Int, fun _ hs t => (.pv (.tup [.int .i64 t.1, .int .i64 t.2.1]), match hs with | [s, .box _] => [s, .box [.pv (.int .i64 t.2.2)]] | h => h), none⟩ | 54 => some ⟨Int × Int, fun _ hs t => (.pv (.int .i64 t.1), match hs with | [s, .box _] => [s, .box [.pv (.int .i64 t.2)]] | h => h), none⟩ | 53 => some ⟨Int × Int, fun _ hs t => (.pv (.int .i64 t.1), match hs with | [s, .box _] => [s, .box [.pv (.int .i64 t.2)]] | h => h), none⟩ | 52 => some ⟨Int, fun _ hs t => (.pv (.int .u64 t), [.box [.pv (.int .u64 t)]]), none⟩ | _ => none) [0, 2] dD [0] h
end
def m9 (nl : Bool) (a b : Int) (x6 : Int) (s_0 : LL) : Env × Hp := ([(0, LV.own 0), (1, Y6 a), (2, Y6 b), (6, Y6 x6)], [.sl (21, 1) false nl s_0])
def nC (nl : Bool) (a b : Int) (x6 x7 : Int) (s_0 : LL) : Env × Hp := ([(0, LV.own 0), (1, Y6 a), (2, Y6 b), (6, Y6 x6), (7, Y6 x7)], [.sl (21, 1) false nl s_0])
section
variable (nl : Bool) (es : LL) (a b : Int) (J : Int -> LL -> Prop) (μ : Int -> LL -> Nat) (J2 : Int -> Int -> LL -> Int -> Int -> LL -> Prop) (μ2 : Int -> Int -> LL -> Nat)
def wJ (R : LV -> Hp -> Prop) : Prop :=
 (aU (m9 nl a b (i64.wrap (a + 1)) es) /\ J (i64.wrap (a + 1)) es) /\ ∀ (x6 : Int) (s_0 : LL), J x6 s_0 -> if decide (x6 < b) = true then (aU (nC nl a b x6 x6 s_0) /\ J2 x6 x6 s_0 x6 x6 s_0) /\ ∀ (x61 x7 : Int) (s_01
  : LL), J2 x6 x6 s_0 x61 x7 s_01 ->
 let V1 := aU (m9 nl a b (i64.wrap (x61 + 1)) s_01) /\ J (i64.wrap (x61 + 1)) s_01 /\ μ (i64.wrap (x61 + 1)) s_01 < μ x6 s_0; if decide (x7 > a) = true then aD s_01 x7 1 /\ ∃ n, (qc 0 (s_01.getD
  x7.toNat [])).head? = some (Z3 n) /\ aD s_01 (i64.wrap (x7 - 1)) 1 /\ ∃ n1, (qc 0 (s_01.getD (i64.wrap (x7 - 1)).toNat [])).head? = some (Z3 n1) /\ PCall qa 45 [Z3 n, Z3 n1] fun v => ∃ (b1 :
  Bool), v = Zb b1 /\ if b1 = true then aD s_01 (i64.wrap (x7 - 1)) 1 /\ ∃ n2, (qc 0 (s_01.getD (i64.wrap (x7 - 1)).toNat [])).head? = some (Z3 n2) /\ aD s_01 x7 1 /\ ∃ n3, (qc 0 (s_01.getD
  x7.toNat [])).head? = some (Z3 n3) /\ aD s_01 x7 1 /\
 let V2 := (1 = 1 /\ 1 <= (s_01.getD x7.toNat []).length) /\ aD (s_01.set x7.toNat (Z3 n2 :: (qc 1 (s_01.getD x7.toNat [])))) (i64.wrap (x7 - 1)) 1 /\ (1 = 1 /\ 1 <= ((s_01.set x7.toNat (Z3 n2 :: (qc 1 (s_01.getD x7.toNat
  [])))).getD (i64.wrap (x7 - 1)).toNat []).length) /\ aU (nC nl a b x61 (i64.wrap (x7 - 1)) ((s_01.set x7.toNat (Z3 n2 :: (qc 1 (s_01.getD x7.toNat [])))).set (i64.wrap (x7 - 1)).toNat (Z3 n3 ::
  (qc 1 ((s_01.set x7.toNat (Z3 n2 :: (qc 1 (s_01.getD x7.toNat [])))).getD (i64.wrap (x7 - 1)).toNat []))))) /\ J2 x6 x6 s_0 x61 (i64.wrap (x7 - 1)) ((s_01.set x7.toNat (Z3 n2 :: (qc 1 (s_01.getD
  x7.toNat [])))).set (i64.wrap (x7 - 1)).toNat (Z3 n3 :: (qc 1 ((s_01.set x7.toNat (Z3 n2 :: (qc 1 (s_01.getD x7.toNat [])))).getD (i64.wrap (x7 - 1)).toNat [])))) /\ μ2 x61 (i64.wrap (x7 - 1))
  ((s_01.set x7.toNat (Z3 n2 :: (qc 1 (s_01.getD x7.toNat [])))).set (i64.wrap (x7 - 1)).toNat (Z3 n3 :: (qc 1 ((s_01.set x7.toNat (Z3 n2 :: (qc 1 (s_01.getD x7.toNat [])))).getD (i64.wrap (x7 -
  1)).toNat [])))) < μ2 x61 x7 s_01; V2 /\ V2 else V1 else V1 else R (LV.tup []) [Ob.sl (21, 1) false nl s_0]
theorem zc2 {R : LV -> Hp -> Prop} (h : wJ nl es a b J μ J2 μ2 R) : ACall qa 39 [.own 0, .pv (.int .i64 a), .pv (.int .i64 b)] [.sl (21, 1) false nl es] R :=
 ACall.wz Try.func39 cS [0, 1, 2, 6, 7, 12, 30] (lkz [(1, (c4 cz2 (m9 nl a b) J μ (fun e h => (gI e 6, oS h 0)) [] [0, 1, 2, 6] [])), (4, (mQz cz3 (nC nl a b) J2 μ2 (fun e h => (gI e 6, gI e 7, oS h 0)) [] [0, 1, 2, 6, 7] []))]) [0] h
end
end Go.Eng
namespace Go.Eng
open Go Go.Proofs Go.Eng.Rows
theorem iX {L : List Int} {k : Nat} (h : k < L.length) : aD (aE L) (k : Int) 1 := b5 (enc := fun n => [PV.int .i32 n]) (l := L) (fun _ => rfl) (by omega) (by omega)
theorem qY {L : List Int} {k : Nat} (h : k < L.length) : (aE L).getD k [] = [.int .i32 (L.getD k 0)] := by
 rw [show (aE L).getD k [] = [.int .i32 L[k]] from bX (enc := fun n => [PV.int .i32 n]) h];simp [List.getD, h]
theorem nD {L : List Int} {k : Nat} (h : k < L.length) : (qc 0 ((aE L).getD k [])).head? = some (.int .i32 (L.getD k 0)) := by rw [qY h]; rfl
theorem wK {L : List Int} {k : Nat} (h : k < L.length) : 1 <= ((aE L).getD k []).length := by rw [qY h]; exact qg 1
theorem wL {L : List Int} {k : Nat} (h : k < L.length) (n : Int) : (aE L).set k (.int .i32 n :: qc 1 ((aE L).getD k [])) = aE (L.set k n) := by
 rw [qY h]; simp only [aE, qbc]; rfl
def sw (L : List Int) (i j : Nat) : List Int := (L.set i (L.getD j 0)).set j (L.getD i 0)
theorem zc3 {L : List Int} {i j : Nat} (hi : i < L.length) (hj : j < L.length) : (sw L i j).Perm L := by
 have : ((L.set i L[j]).set j L[i]).Perm L := List.set_set_perm hi hj;simpa [sw, List.getD, hi, hj] using this
theorem wM {L : List Int} {i j : Nat} (hi : i < L.length) (hj : j < L.length) (k : Nat) : (sw L i j).getD k 0 = if k = j then L.getD i 0 else if k = i then L.getD j 0 else L.getD k 0 := by
 simp only [sw, qal, List.getElem?_set, qbk];by_cases h1 : k = j
 ·subst h1; simp [hj]
 ·rw [if_neg (fun e => h1 e.symm), if_neg h1];by_cases h2 : k = i
  ·subst h2; simp [hi]
  ·rw [if_neg (fun e => h2 e.symm), if_neg h2]
theorem zc4 (x : Int) : PCall qa 55 [.int .i32 x] fun v => v = .bool false := by
 refine zcz _ ?_;unfold wG;simp
theorem zc5 (x y : Int) : PCall qa 45 [.int .i32 x, .int .i32 y] fun v => v = .bool (decide (x < y)) := by
 refine zc0 _ _ ?_;unfold wH;refine (zc4 x).mono ?_;rintro _ rfl;exact ⟨_, rfl, bU (by simp) rfl⟩
def SP (L : List Int) (n : Nat) : Prop := ∀ p q : Nat, p < q -> q < n -> L.getD p 0 <= L.getD q 0
def SI (L : List Int) (i j : Nat) : Prop := ∀ p q : Nat, p < q -> q <= i -> q ≠ j -> L.getD p 0 <= L.getD q 0
theorem SI.swap {L : List Int} {i j : Nat} (h : SI L i (j + 1)) (hj : j + 1 < L.length) (hi : j + 1 <= i) (hlt : L.getD (j + 1) 0 < L.getD j 0) : SI (sw L (j + 1) j) i j := by
 intro p q hpq hq hne;rw [wM hj (by omega), wM hj (by omega), if_neg hne];by_cases h1 : q = j + 1
 ·rw [if_pos h1];by_cases h2 : p = j
  ·rw [if_pos h2]; omega
  ·rw [if_neg h2, if_neg (by omega)]; exact h p j (by omega) (by omega) (by omega)
 ·rw [if_neg h1];by_cases h2 : p = j
  ·rw [if_pos h2]; exact h (j + 1) q (by omega) hq h1
  ·rw [if_neg h2];by_cases h3 : p = j + 1
   ·rw [if_pos h3]; exact h j q (by omega) hq h1
   ·rw [if_neg h3]; exact h p q hpq hq h1
theorem SI.done {L : List Int} {i j : Nat} (h : SI L i j) (hj : j = 0 ∨ L.getD (j - 1) 0 <= L.getD j 0) : SP L (i + 1) := by
 intro p q hpq hq;by_cases e : q = j
 ·subst e;rcases hj with hj | hj
  ·omega
  ·by_cases e2 : p = q - 1
   ·rw [e2]; exact hj
   ·exact Int.le_trans (h p (q - 1) (by omega) (by omega) (by omega)) hj
 ·exact h p q hpq (by omega) e
abbrev hSl (nl : Bool) (L : List Int) : Hp := [.sl (21, 1) false nl (aE L)]
theorem zc6 (nl : Bool) (L : List Int) (a b : Nat) (hab : a <= b) (hb : b <= L.length) (hl : L.length < 1000000) : ACall qa 39 [.own 0, .pv (.int .i64 a), .pv (.int .i64 b)] (hSl nl L) fun r h' => ∃ L', r = .tup [] /\ h' = hSl nl L' /\ L'.Perm L /\ (a = 0 -> SP L' b) := by
 refine zc2 _ _ _ _
  (fun x s => ∃ (i : Nat) (M : List Int), x = i /\ a < i /\ (i <= b ∨ i = a + 1) /\ s = aE M /\ M.Perm L /\ (a = 0 -> SP M i)) (fun x _ => b + 1 - x.toNat)
  (fun x0 _ _ x y s => x = x0 /\ ∃ (i j : Nat) (M : List Int), x0 = i /\ y = j /\ i < b /\ a <= j /\ j <= i /\ s = aE M /\ M.Perm L /\ (a = 0 -> SI M i j)) (fun _ y _ => y.toNat) ?_
 unfold wJ;have wa : i64.wrap ((a : Int) + 1) = ((a + 1 : Nat) : Int) := by rw [gP (by omega) (by omega)]; omega
 rw [wa];refine ⟨⟨rfl, a + 1, L, rfl, by omega, .inr rfl, rfl, List.Perm.refl _, fun e p q h1 h2 => by omega⟩, ?_⟩;rintro _ _ ⟨i, M, rfl, hi, hib, rfl, hM, hS⟩;have hMl := hM.length_eq;refine bJ (fun hc => ?_) (fun hc => ?_)
 rotate_left
 ·simp only [aO] at hc;refine ⟨M, rfl, rfl, hM, fun e p q h1 h2 => hS e p q h1 ?_⟩;omega
 simp only [aO] at hc;refine ⟨⟨rfl, rfl, i, i, M, rfl, rfl, by omega, by omega, qg _, rfl, hM, fun e p q h1 h2 h3 => hS e p q h1 (by omega)⟩, ?_⟩;rintro _ _ _ ⟨rfl, i', j, K, e, rfl, hib', haj, hji, rfl, hK, hI⟩;have e : i = i' := by omega
 subst e;have hKl := hK.length_eq;have wi : i64.wrap ((i : Int) + 1) = ((i + 1 : Nat) : Int) := cN (by omega);rw [wi]
 have fin : (a = 0 -> (j = 0 ∨ K.getD (j - 1) 0 <= K.getD j 0)) -> aU (m9 nl a b ((i + 1 : Nat) : Int) (aE K)) /\ (∃ (i' : Nat) (M : List Int), ((i + 1 : Nat) : Int) = i' /\ a < i' /\ (i' <= b ∨ i' = a + 1) /\ aE K = aE M /\ M.Perm L /\ (a = 0 -> SP M i')) /\ b + 1 - (((i + 1 : Nat) : Int)).toNat < b + 1 - ((i : Int)).toNat := fun h =>
  ⟨rfl, ⟨i + 1, K, rfl, by omega, .inl (by omega), rfl, hK, fun e => (hI e).done (h e)⟩, by omega⟩
 refine bJ (fun hj => ?_) (fun hj => fin fun e => .inl (by simp only [aO] at hj; omega));simp only [aO] at hj;obtain ⟨k, rfl⟩ : ∃ k, j = k + 1 := ⟨j - 1, by omega⟩;have hk1 : k + 1 < K.length := by omega
 have hk0 : k < K.length := by omega
 have wj : i64.wrap (((k + 1 : Nat) : Int) - 1) = ((k : Nat) : Int) := by rw [gP (by omega) (by omega)]; omega
 rw [wj, qf, qf];refine ⟨iX hk1, _, nD hk1, iX hk0, _, nD hk0, (zc5 _ _).mono ?_⟩;rintro _ rfl;refine ⟨_, rfl, bJ (fun hless => ?_) (fun hless => fin fun _ => .inr ?_)⟩
 ·simp only [aO] at hless;refine ⟨iX hk0, _, nD hk0, iX hk1, _, nD hk1, iX hk1, ?_⟩;rw [wL hk1];have hk0' : k < (K.set (k + 1) (K.getD k 0)).length := by simpa using hk0
  rw [wL hk0']
  have V : (1 = 1 /\ 1 <= ((aE K).getD (k + 1) []).length) /\ aD (aE (K.set (k + 1) (K.getD k 0))) ((k : Nat) : Int) 1 /\ (1 = 1 /\ 1 <= ((aE (K.set (k + 1) (K.getD k 0))).getD k []).length) /\ aU (nC nl a b i ((k : Nat) : Int) (aE (sw K (k + 1) k))) /\ ((i : Int) = i /\ ∃ (i' j : Nat) (M : List Int), (i : Int) = i' /\ ((k : Nat) : Int) = j /\ i' < b /\ a <= j /\ j <= i' /\ aE (sw K (k + 1) k) = aE M /\ M.Perm L /\ (a = 0 -> SI M i' j)) /\ ((k : Nat) : Int).toNat < (((k + 1 : Nat) : Int)).toNat :=
   ⟨⟨rfl, wK hk1⟩, iX hk0', ⟨rfl, wK hk0'⟩, rfl, ⟨rfl, i, k, sw K (k + 1) k, rfl, rfl, hib', by omega, by omega, rfl, (zc3 hk1 hk0).trans hK, fun e => (hI e).swap hk1 hji hless⟩, by omega⟩
  exact ⟨V, V⟩
 ·simp only [aO] at hless;show K.getD k 0 <= K.getD (k + 1) 0;omega
end Go.Eng
namespace Go.Eng
open Go Go.Proofs
def qZ (nl : Bool) (x1 x2 x3 : Int) (x8 x9 : Bool) (s_0 : LL) : Env × Hp := ([(0, LV.own 0), (1, Y6 x1), (2, Y6 x2), (3, Y6 x3), (8, .pv (.bool x8)), (9, .pv (.bool x9))], [.sl (21, 1) false nl s_0])
section
variable (nl : Bool) (es : LL) (a b : Int) (c : Int) (J : Int -> Int -> Int -> Bool -> Bool -> LL -> Prop) (μ : Int -> Int -> Int -> Bool -> Bool -> LL -> Nat)
def wN (R : LV -> Hp -> Prop) : Prop :=
 (aU (qZ nl a b c true true es) /\ J a b c true true es) /\ ∀ (x1 x2 x3 : Int) (x8 x9 : Bool) (s_0 : LL), J x1 x2 x3 x8 x9 s_0 ->
 let K2 := fun (y0_ y1_ y2_ : Int) (y3_ y4_ : Bool) (y5_ : LL) => aU (qZ nl y0_ y1_ y2_ y3_ y4_ y5_) /\ J y0_ y1_ y2_ y3_ y4_ y5_ /\ μ y0_ y1_ y2_ y3_ y4_ y5_ < μ x1 x2 x3 x8 x9 s_0; if decide (i64.wrap
  (x2 - x1) <= 12) = true then ACall qa 39 [LV.own 0, Y6 x1, Y6 x2] [Ob.sl (21, 1) false nl s_0] fun (r : LV) (h' : Hp) => ∃ (t : LL), (r = LV.tup [] /\ h' = [Ob.sl (21, 1) false nl t]) /\ (((21, 1) = (21, (1 : Nat)) /\ nl = nl /\
  s_0.length = t.length) /\ True) /\ R (LV.tup []) [Ob.sl (21, 1) false nl t] else if (x3 == 0) = true then ACall qa 40 [LV.own 0, Y6 x1, Y6 x2] [Ob.sl ((21 : Nat), 1) false nl s_0] fun (r : LV) (h' : Hp) => ∃ (t : LL), (r = LV.tup [] /\
  h' = [Ob.sl (21, 1) false nl t]) /\ (((21, 1) = (21, 1) /\ nl = nl /\ s_0.length = t.length) /\ True) /\ R (LV.tup []) [Ob.sl (21, 1) false nl t] else if (!x8) = true then ACall qa 41 [LV.own 0, Y6 x1, Y6 x2] [Ob.sl (21, 1) false nl
  s_0] fun (r : LV) (h' : Hp) => ∃ (t : LL), (r = LV.tup [] /\ h' = [Ob.sl (21, 1) false nl t]) /\ (((21, 1) = (21, 1) /\ nl = nl /\ s_0.length = t.length) /\ True) /\ ACall qa 42 [LV.own 0, Y6 x1, Y6 x2] [Ob.sl (21, 1) false nl t] fun (r1
  : LV) (h'1 : Hp) => ∃ (t1 : Int × Int), (r1 = LV.pv (PV.tup [Z6 t1.1, Z6 t1.2]) /\ h'1 = [Ob.sl (21, 1) false nl t]) /\ (((21, 1) = (21, 1) /\ nl = nl /\ t.length = t.length) /\ True) /\ if (t1.2 == 2) = true then ACall qa 43 [LV.own 0,
  Y6 x1, Y6 x2] [Ob.sl (21, 1) false nl t] fun (r2 : LV) (h'2 : Hp) => ∃ (t2 : LL), (r2 = LV.tup [] /\ h'2 = [Ob.sl (21, 1) false nl t2]) /\ (((21, 1) = (21, 1) /\ nl = nl /\ t.length = t2.length) /\ True) /\ if (x8 && x9 && true) = true then
  ACall qa 44 [LV.own 0, Y6 x1, Y6 x2] [Ob.sl (21, 1) false nl t2] fun (r3 : LV) (h'3 : Hp) => ∃ (t3 : Bool × LL), (r3 = LV.pv (Zb t3.fst) /\ h'3 = [Ob.sl ((21 : Nat), 1) false nl t3.snd]) /\ (((21, 1) = (21, 1) /\ nl = nl /\ t2.length =
  t3.snd.length) /\ True) /\ if t3.fst = true then R (LV.tup []) [Ob.sl (21, 1) false nl t3.snd] else
 let V1 := ACall qa 47 [LV.own 0, Y6 x1, Y6 x2, LV.pv (Z6 (i64.wrap (i64.wrap (x2 - 1) - i64.wrap (t1.1 - x1))))] [Ob.sl (21, 1) false nl t3.snd] fun (r4 : LV) (h'4 : Hp) => ∃ (t4 : Int × Bool × LL), (r4 = LV.pv
  (PV.tup [Z6 t4.1, Zb t4.snd.fst]) /\ h'4 = [Ob.sl (21, 1) false nl t4.snd.snd]) /\ (((21, 1) = (21, 1) /\ nl = nl /\ t3.snd.length = t4.snd.snd.length) /\ True) /\ if decide (i64.wrap (t4.1 - x1) < i64.wrap (x2 - t4.1)) = true
  then ACall qa 37 [LV.own 0, Y6 x1, Y6 t4.1, LV.pv (Z6 (i64.wrap (x3 - 1)))] [Ob.sl (21, 1) false nl t4.snd.snd] fun (r5 : LV) (h'5 : Hp) => ∃ (t5 : LL), (r5 = LV.tup [] /\ h'5 = [Ob.sl (21, 1) false nl t5]) /\ (((21, 1) = (21,
  1) /\ nl = nl /\ t4.snd.snd.length = t5.length) /\ True) /\ K2 (i64.wrap (t4.1 + 1)) x2 (i64.wrap (x3 - 1)) (decide (i64.wrap (t4.1 - x1) >= i64.wrap ((i64.wrap (x2 - x1)).tdiv (8 : Int)))) t4.snd.fst
  t5 else ACall qa 37 [LV.own 0, LV.pv (Z6 (i64.wrap (t4.1 + 1))), Y6 x2, LV.pv (Z6 (i64.wrap (x3 - 1)))] [Ob.sl (21, 1) false nl t4.snd.snd] fun (r5 : LV) (h'5 : Hp) => ∃ (t5 : LL), (r5 = LV.tup [] /\ h'5 = [Ob.sl (21,
  1) false nl t5]) /\ (((21, 1) = (21, 1) /\ nl = nl /\ t4.snd.snd.length = t5.length) /\ True) /\ K2 x1 t4.1 (i64.wrap (x3 - 1)) (decide (i64.wrap (x2 - t4.1) >= i64.wrap ((i64.wrap (x2 - x1)).tdiv (8 : Int))))
  t4.snd.fst t5; if decide (x1 > 0) = true then aD t3.snd (i64.wrap (x1 - 1)) 1 /\ ∃ n, (qc 0 (t3.snd.getD (i64.wrap (x1 - 1)).toNat [])).head? = some (Z3 n) /\ aD t3.snd (i64.wrap
  (i64.wrap (x2 - 1) - i64.wrap (t1.1 - x1))) 1 /\ ∃ n1, (qc 0 (t3.snd.getD (i64.wrap (i64.wrap (x2 - 1) - i64.wrap (t1.1 - x1))).toNat [])).head? = some (Z3 n1) /\ PCall qa 45 [Z3
  n, Z3 n1] fun v => ∃ b1, v = Zb b1 /\ if (!b1) = true then ACall qa 46 [LV.own 0, Y6 x1, Y6 x2, LV.pv (Z6 (i64.wrap (i64.wrap (x2 - 1) - i64.wrap (t1.1 - x1))))] [Ob.sl (21, 1) false nl t3.snd]
  fun (r4 : LV) (h'4 : Hp) => ∃ (t4 : Int × LL), (r4 = Y6 t4.1 /\ h'4 = [Ob.sl (21, (1 : Nat)) false nl t4.snd]) /\ (((21, 1) = (21, 1) /\ nl = nl /\ t3.snd.length = t4.snd.length) /\ True) /\ K2 t4.1 x2 (i64.wrap (x3 - 1)) x8 x9 t4.snd
  else V1 else V1 else
 let V2 := ACall qa 47 [LV.own 0, Y6 x1, Y6 x2, LV.pv (Z6 (i64.wrap (i64.wrap (x2 - 1) - i64.wrap (t1.1 - x1))))] [Ob.sl (21, 1) false nl t2] fun (r3 : LV) (h'3 : Hp) => ∃ (t3 : Int × Bool × LL), (r3 = LV.pv
  (PV.tup [Z6 t3.1, Zb t3.snd.fst]) /\ h'3 = [Ob.sl (21, 1) false nl t3.snd.snd]) /\ (((21, 1) = (21, 1) /\ nl = nl /\ t2.length = t3.snd.snd.length) /\ True) /\ if decide (i64.wrap (t3.1 - x1) < i64.wrap (x2 - t3.1)) = true then
  ACall qa 37 [LV.own 0, Y6 x1, Y6 t3.1, LV.pv (Z6 (i64.wrap (x3 - 1)))] [Ob.sl (21, 1) false nl t3.snd.snd] fun (r4 : LV) (h'4 : Hp) => ∃ (t4 : LL), (r4 = LV.tup [] /\ h'4 = [Ob.sl (21, 1) false nl t4]) /\ (((21, 1) = (21, 1) /\
  nl = nl /\ t3.snd.snd.length = t4.length) /\ True) /\ K2 (i64.wrap (t3.1 + 1)) x2 (i64.wrap (x3 - 1)) (decide (i64.wrap (t3.1 - x1) >= i64.wrap ((i64.wrap (x2 - x1)).tdiv (8 : Int)))) t3.snd.fst t4
  else ACall qa 37 [LV.own 0, LV.pv (Z6 (i64.wrap (t3.1 + 1))), Y6 x2, LV.pv (Z6 (i64.wrap (x3 - 1)))] [Ob.sl (21, 1) false nl t3.snd.snd] fun (r4 : LV) (h'4 : Hp) => ∃ (t4 : LL), (r4 = LV.tup [] /\ h'4 = [Ob.sl (21, 1)
  false nl t4]) /\ (((21, 1) = (21, 1) /\ nl = nl /\ t3.snd.snd.length = t4.length) /\ True) /\ K2 x1 t3.1 (i64.wrap (x3 - 1)) (decide (i64.wrap (x2 - t3.1) >= i64.wrap ((i64.wrap (x2 - x1)).tdiv (8 : Int))))
  t3.snd.fst t4; if decide (x1 > 0) = true then aD t2 (i64.wrap (x1 - 1)) 1 /\ ∃ n, (qc 0 (t2.getD (i64.wrap (x1 - 1)).toNat [])).head? = some (Z3 n) /\ aD t2 (i64.wrap (i64.wrap (x2 - 1)
  - i64.wrap (t1.1 - x1))) 1 /\ ∃ n1, (qc 0 (t2.getD (i64.wrap (i64.wrap (x2 - 1) - i64.wrap (t1.1 - x1))).toNat [])).head? = some (Z3 n1) /\ PCall qa 45 [Z3 n, Z3 n1] fun v => ∃ (b1
  : Bool), v = Zb b1 /\ if (!b1) = true then ACall qa 46 [LV.own 0, Y6 x1, Y6 x2, LV.pv (Z6 (i64.wrap (i64.wrap (x2 - 1) - i64.wrap (t1.1 - x1))))] [Ob.sl (21, 1) false nl t2] fun (r3 : LV) (h'3 : Hp) => ∃ (t3 :
  Int × LL), (r3 = Y6 t3.1 /\ h'3 = [Ob.sl (21, 1) false nl t3.snd]) /\ (((21, 1) = (21, 1) /\ nl = nl /\ t2.length = t3.snd.length) /\ True) /\ K2 t3.1 x2 (i64.wrap (x3 - 1)) x8 x9 t3.snd else V2 else V2 else if (x8 && x9 && t1.2 == 1)
  = true then ACall qa 44 [LV.own 0, Y6 x1, Y6 x2] [Ob.sl (21, 1) false nl t] fun (r2 : LV) (h'2 : Hp) => ∃ (t2 : Bool × LL), (r2 = LV.pv (Zb t2.fst) /\ h'2 = [Ob.sl (21, 1) false nl t2.snd]) /\ (((21, 1) = (21, 1) /\ nl = nl /\ t.length
  = t2.snd.length) /\ True) /\ if t2.fst = true then R (LV.tup []) [Ob.sl (21, 1) false nl t2.snd] else
 let V3 := ACall qa 47 [LV.own 0, Y6 x1, Y6 x2, Y6 t1.1] [Ob.sl (21, 1) false nl t2.snd] fun (r3 : LV) (h'3 : Hp) => ∃ (t3 : Int × Bool × LL), (r3 = LV.pv (PV.tup [Z6 t3.1, Zb t3.snd.fst]) /\ h'3 = [Ob.sl (21, 1) false nl t3.snd.snd]) /\
  (((21, 1) = (21, 1) /\ nl = nl /\ t2.snd.length = t3.snd.snd.length) /\ True) /\ if decide (i64.wrap (t3.1 - x1) < i64.wrap (x2 - t3.1)) = true then ACall qa 37 [LV.own 0, Y6 x1, Y6 t3.1, LV.pv (Z6 (i64.wrap (x3
  - 1)))] [Ob.sl (21, 1) false nl t3.snd.snd] fun (r4 : LV) (h'4 : Hp) => ∃ (t4 : LL), (r4 = LV.tup [] /\ h'4 = [Ob.sl (21, 1) false nl t4]) /\ (((21, 1) = (21, 1) /\ nl = nl /\ t3.snd.snd.length = t4.length) /\ True) /\ K2 (i64.wrap
  (t3.1 + 1)) x2 (i64.wrap (x3 - 1)) (decide (i64.wrap (t3.1 - x1) >= i64.wrap ((i64.wrap (x2 - x1)).tdiv (8 : Int)))) t3.snd.fst t4 else ACall qa 37 [LV.own 0, LV.pv (Z6 (i64.wrap (t3.1 + 1))),
  Y6 x2, LV.pv (Z6 (i64.wrap (x3 - 1)))] [Ob.sl (21, 1) false nl t3.snd.snd] fun (r4 : LV) (h'4 : Hp) => ∃ (t4 : LL), (r4 = LV.tup [] /\ h'4 = [Ob.sl (21, (1 : Nat)) false nl t4]) /\ (((21, 1) = (21, 1) /\ nl = nl /\ t3.snd.snd.length =
  t4.length) /\ True) /\ K2 x1 t3.1 (i64.wrap (x3 - 1)) (decide (i64.wrap (x2 - t3.1) >= i64.wrap ((i64.wrap (x2 - x1)).tdiv (8 : Int)))) t3.snd.fst t4; if decide (x1 > 0) = true then aD t2.snd
  (i64.wrap (x1 - 1)) 1 /\ ∃ n, (qc 0 (t2.snd.getD (i64.wrap (x1 - 1)).toNat [])).head? = some (Z3 n) /\ aD t2.snd t1.1 1 /\ ∃ n1, (qc 0 (t2.snd.getD t1.1.toNat [])).head? = some (Z3 n1) /\
  PCall qa 45 [Z3 n, Z3 n1] fun v => ∃ b1, v = Zb b1 /\ if (!b1) = true then ACall qa 46 [LV.own 0, Y6 x1, Y6 x2, Y6 t1.1] [Ob.sl (21, 1) false nl t2.snd] fun (r3 : LV) (h'3 : Hp) => ∃ (t3 : Int × LL), (r3 = Y6
  t3.1 /\ h'3 = [Ob.sl (21, 1) false nl t3.snd]) /\ (((21, 1) = ((21 : Nat), 1) /\ nl = nl /\ t2.snd.length = t3.snd.length) /\ True) /\ K2 t3.1 x2 (i64.wrap (x3 - 1)) x8 x9 t3.snd else V3 else V3 else
 let V4 := ACall qa 47 [LV.own 0, Y6 x1, Y6 x2, Y6 t1.1] [Ob.sl (21, 1) false nl t] fun (r2 : LV) (h'2 : Hp) => ∃ (t2 : Int × Bool × LL), (r2 = LV.pv (PV.tup [Z6 t2.1, Zb t2.snd.fst]) /\ h'2 = [Ob.sl (21, 1) false nl t2.snd.snd]) /\
  (((21, 1) = (21, 1) /\ nl = nl /\ t.length = t2.snd.snd.length) /\ True) /\ if decide (i64.wrap (t2.1 - x1) < i64.wrap (x2 - t2.1)) = true then ACall qa 37 [LV.own 0, Y6 x1, Y6 t2.1, LV.pv (Z6 (i64.wrap (x3 -
  1)))] [Ob.sl (21, 1) false nl t2.snd.snd] fun (r3 : LV) (h'3 : Hp) => ∃ (t3 : LL), (r3 = LV.tup [] /\ h'3 = [Ob.sl (21, 1) false nl t3]) /\ (((21, 1) = (21, 1) /\ nl = nl /\ t2.snd.snd.length = t3.length) /\ True) /\ K2 (i64.wrap (t2.1
  + 1)) x2 (i64.wrap (x3 - 1)) (decide (i64.wrap (t2.1 - x1) >= i64.wrap ((i64.wrap (x2 - x1)).tdiv (8 : Int)))) t2.snd.fst t3 else ACall qa 37 [LV.own 0, LV.pv (Z6 (i64.wrap (t2.1 + 1))), Y6
  x2, LV.pv (Z6 (i64.wrap (x3 - 1)))] [Ob.sl (21, 1) false nl t2.snd.snd] fun (r3 : LV) (h'3 : Hp) => ∃ (t3 : LL), (r3 = LV.tup [] /\ h'3 = [Ob.sl (21, 1) false nl t3]) /\ (((21, 1) = (21, 1) /\ nl = nl /\ t2.snd.snd.length = t3.length)
  /\ True) /\ K2 x1 t2.1 (i64.wrap (x3 - 1)) (decide (i64.wrap (x2 - t2.1) >= i64.wrap ((i64.wrap (x2 - x1)).tdiv (8 : Int)))) t2.snd.fst t3; if decide (x1 > 0) = true then aD t (i64.wrap (x1 - 1)) 1
  /\ ∃ n, (qc 0 (t.getD (i64.wrap (x1 - 1)).toNat [])).head? = some (Z3 n) /\ aD t t1.1 1 /\ ∃ n1, (qc 0 (t.getD t1.1.toNat [])).head? = some (Z3 n1) /\ PCall qa 45 [Z3 n, Z3 n1] fun v => ∃
  (b1 : Bool), v = Zb b1 /\ if (!b1) = true then ACall qa 46 [LV.own 0, Y6 x1, Y6 x2, Y6 t1.1] [Ob.sl (21, 1) false nl t] fun (r2 : LV) (h'2 : Hp) => ∃ (t2 : Int × LL), (r2 = Y6 t2.1 /\ h'2 = [Ob.sl (21, 1) false nl t2.snd]) /\ (((21, 1)
  = (21, 1) /\ nl = nl /\ t.length = t2.snd.length) /\ True) /\ K2 t2.1 x2 (i64.wrap (x3 - 1)) x8 x9 t2.snd else V4 else V4 else ACall qa 42 [LV.own 0, Y6 x1, Y6 x2] [Ob.sl (21, 1) false nl s_0] fun (r : LV) (h' : Hp) => ∃ (t :
  Int × Int), (r = LV.pv (PV.tup [Z6 t.1, Z6 t.2]) /\ h' = [Ob.sl (21, 1) false nl s_0]) /\ (((21, 1) = (21, 1) /\ nl = nl /\ s_0.length = s_0.length) /\ True) /\ if (t.2 == 2) = true then ACall qa 43 [LV.own 0, Y6 x1, Y6 x2] [Ob.sl (21,
  1) false nl s_0] fun (r1 : LV) (h'1 : Hp) => ∃ (t1 : LL), (r1 = LV.tup [] /\ h'1 = [Ob.sl (21, 1) false nl t1]) /\ (((21, 1) = (21, 1) /\ nl = nl /\ s_0.length = t1.length) /\ True) /\ if (x8 && x9 && true) = true then ACall qa 44 [LV.own
  0, Y6 x1, Y6 x2] [Ob.sl (21, 1) false nl t1] fun (r2 : LV) (h'2 : Hp) => ∃ (t2 : Bool × LL), (r2 = LV.pv (Zb t2.fst) /\ h'2 = [Ob.sl (21, 1) false nl t2.snd]) /\ (((21, 1) = (21, 1) /\ nl = nl /\ t1.length = t2.snd.length) /\ True) /\ if t2.fst
  = true then R (LV.tup []) [Ob.sl (21, 1) false nl t2.snd] else
 let V5 := ACall qa 47 [LV.own 0, Y6 x1, Y6 x2, LV.pv (Z6 (i64.wrap (i64.wrap (x2 - 1) - i64.wrap (t.1 - x1))))] [Ob.sl (21, 1) false nl t2.snd] fun (r3 : LV) (h'3 : Hp) => ∃ (t3 : Int × Bool × LL), (r3 = LV.pv
  (PV.tup [Z6 t3.1, Zb t3.snd.fst]) /\ h'3 = [Ob.sl (21, 1) false nl t3.snd.snd]) /\ (((21, 1) = (21, 1) /\ nl = nl /\ t2.snd.length = t3.snd.snd.length) /\ True) /\ if decide (i64.wrap (t3.1 - x1) < i64.wrap (x2 - t3.1)) = true
  then ACall qa 37 [LV.own 0, Y6 x1, Y6 t3.1, Y6 x3] [Ob.sl (21, 1) false nl t3.snd.snd] fun (r4 : LV) (h'4 : Hp) => ∃ (t4 : LL), (r4 = LV.tup [] /\ h'4 = [Ob.sl ((21 : Nat), 1) false nl t4]) /\ (((21, 1) = (21, 1) /\ nl = nl /\
  t3.snd.snd.length = t4.length) /\ True) /\ K2 (i64.wrap (t3.1 + 1)) x2 x3 (decide (i64.wrap (t3.1 - x1) >= i64.wrap ((i64.wrap (x2 - x1)).tdiv (8 : Int)))) t3.snd.fst t4 else ACall qa 37 [LV.own 0,
  LV.pv (Z6 (i64.wrap (t3.1 + 1))), Y6 x2, Y6 x3] [Ob.sl (21, 1) false nl t3.snd.snd] fun (r4 : LV) (h'4 : Hp) => ∃ (t4 : LL), (r4 = LV.tup [] /\ h'4 = [Ob.sl (21, (1 : Nat)) false nl t4]) /\ (((21, 1) = (21, 1) /\ nl = nl /\
  t3.snd.snd.length = t4.length) /\ True) /\ K2 x1 t3.1 x3 (decide (i64.wrap (x2 - t3.1) >= i64.wrap ((i64.wrap (x2 - x1)).tdiv (8 : Int)))) t3.snd.fst t4; if decide (x1 > 0) = true then aD t2.snd (i64.wrap
  (x1 - 1)) 1 /\ ∃ n, (qc 0 (t2.snd.getD (i64.wrap (x1 - 1)).toNat [])).head? = some (Z3 n) /\ aD t2.snd (i64.wrap (i64.wrap (x2 - 1) - i64.wrap (t.1 - x1))) 1 /\ ∃ n1, (qc 0
  (t2.snd.getD (i64.wrap (i64.wrap (x2 - 1) - i64.wrap (t.1 - x1))).toNat [])).head? = some (Z3 n1) /\ PCall qa 45 [Z3 n, Z3 n1] fun v => ∃ b1, v = Zb b1 /\ if (!b1) = true then ACall qa 46
  [LV.own 0, Y6 x1, Y6 x2, LV.pv (Z6 (i64.wrap (i64.wrap (x2 - 1) - i64.wrap (t.1 - x1))))] [Ob.sl (21, 1) false nl t2.snd] fun (r3 : LV) (h'3 : Hp) => ∃ (t3 : Int × LL), (r3 = Y6 t3.1 /\ h'3 = [Ob.sl (21, 1) false nl
  t3.snd]) /\ (((21, 1) = (21, 1) /\ nl = nl /\ t2.snd.length = t3.snd.length) /\ True) /\ K2 t3.1 x2 x3 x8 x9 t3.snd else V5 else V5 else
 let V6 := ACall qa 47 [LV.own 0, Y6 x1, Y6 x2, LV.pv (Z6 (i64.wrap (i64.wrap (x2 - 1) - i64.wrap (t.1 - x1))))] [Ob.sl (21, 1) false nl t1] fun (r2 : LV) (h'2 : Hp) => ∃ (t2 : Int × Bool × LL), (r2 = LV.pv
  (PV.tup [Z6 t2.1, Zb t2.snd.fst]) /\ h'2 = [Ob.sl (21, 1) false nl t2.snd.snd]) /\ (((21, 1) = (21, 1) /\ nl = nl /\ t1.length = t2.snd.snd.length) /\ True) /\ if decide (i64.wrap (t2.1 - x1) < i64.wrap (x2 - t2.1)) = true then
  ACall qa 37 [LV.own 0, Y6 x1, Y6 t2.1, Y6 x3] [Ob.sl (21, 1) false nl t2.snd.snd] fun (r3 : LV) (h'3 : Hp) => ∃ (t3 : LL), (r3 = LV.tup [] /\ h'3 = [Ob.sl (21, 1) false nl t3]) /\ (((21, 1) = (21, 1) /\ nl = nl /\ t2.snd.snd.length =
  t3.length) /\ True) /\ K2 (i64.wrap (t2.1 + 1)) x2 x3 (decide (i64.wrap (t2.1 - x1) >= i64.wrap ((i64.wrap (x2 - x1)).tdiv (8 : Int)))) t2.snd.fst t3 else ACall qa 37 [LV.own 0, LV.pv (Z6
  (i64.wrap (t2.1 + 1))), Y6 x2, Y6 x3] [Ob.sl (21, 1) false nl t2.snd.snd] fun (r3 : LV) (h'3 : Hp) => ∃ (t3 : LL), (r3 = LV.tup [] /\ h'3 = [Ob.sl (21, 1) false nl t3]) /\ (((21, 1) = (21, 1) /\ nl = nl /\ t2.snd.snd.length =
  t3.length) /\ True) /\ K2 x1 t2.1 x3 (decide (i64.wrap (x2 - t2.1) >= i64.wrap ((i64.wrap (x2 - x1)).tdiv (8 : Int)))) t2.snd.fst t3; if decide (x1 > 0) = true then aD t1 (i64.wrap (x1 - 1)) 1 /\ ∃ (n :
  Int), (qc 0 (t1.getD (i64.wrap (x1 - 1)).toNat [])).head? = some (Z3 n) /\ aD t1 (i64.wrap (i64.wrap (x2 - 1) - i64.wrap (t.1 - x1))) 1 /\ ∃ n1, (qc 0 (t1.getD (i64.wrap
  (i64.wrap (x2 - 1) - i64.wrap (t.1 - x1))).toNat [])).head? = some (Z3 n1) /\ PCall qa 45 [Z3 n, Z3 n1] fun v => ∃ b1, v = Zb b1 /\ if (!b1) = true then ACall qa 46 [LV.own 0, Y6 x1, Y6 x2, LV.pv
  (Z6 (i64.wrap (i64.wrap (x2 - 1) - i64.wrap (t.1 - x1))))] [Ob.sl (21, 1) false nl t1] fun (r2 : LV) (h'2 : Hp) => ∃ (t2 : Int × LL), (r2 = Y6 t2.1 /\ h'2 = [Ob.sl (21, 1) false nl t2.snd]) /\ (((21, 1) = (21, 1) /\
  nl = nl /\ t1.length = t2.snd.length) /\ True) /\ K2 t2.1 x2 x3 x8 x9 t2.snd else V6 else V6 else if (x8 && x9 && t.2 == 1) = true then ACall qa 44 [LV.own 0, Y6 x1, Y6 x2] [Ob.sl (21, 1) false nl s_0] fun (r1 : LV) (h'1 : Hp) => ∃ (t1
  : Bool × LL), (r1 = LV.pv (Zb t1.fst) /\ h'1 = [Ob.sl (21, 1) false nl t1.snd]) /\ (((21, 1) = (21, 1) /\ nl = nl /\ s_0.length = t1.snd.length) /\ True) /\ if t1.fst = true then R (LV.tup []) [Ob.sl (21, 1) false nl t1.snd] else
 let V7 := ACall qa 47 [LV.own 0, Y6 x1, Y6 x2, Y6 t.1] [Ob.sl (21, 1) false nl t1.snd] fun (r2 : LV) (h'2 : Hp) => ∃ (t2 : Int × Bool × LL), (r2 = LV.pv (PV.tup [Z6 t2.1, Zb t2.snd.fst]) /\ h'2 = [Ob.sl (21, 1) false nl t2.snd.snd]) /\
  (((21, 1) = (21, 1) /\ nl = nl /\ t1.snd.length = t2.snd.snd.length) /\ True) /\ if decide (i64.wrap (t2.1 - x1) < i64.wrap (x2 - t2.1)) = true then ACall qa 37 [LV.own 0, Y6 x1, Y6 t2.1, Y6 x3] [Ob.sl (21, 1) false nl
  t2.snd.snd] fun (r3 : LV) (h'3 : Hp) => ∃ (t3 : LL), (r3 = LV.tup [] /\ h'3 = [Ob.sl (21, 1) false nl t3]) /\ (((21, 1) = (21, 1) /\ nl = nl /\ t2.snd.snd.length = t3.length) /\ True) /\ K2 (i64.wrap (t2.1 + 1)) x2 x3 (decide
  (i64.wrap (t2.1 - x1) >= i64.wrap ((i64.wrap (x2 - x1)).tdiv (8 : Int)))) t2.snd.fst t3 else ACall qa 37 [LV.own 0, LV.pv (Z6 (i64.wrap (t2.1 + 1))), Y6 x2, Y6 x3] [Ob.sl ((21 : Nat), 1) false nl
  t2.snd.snd] fun (r3 : LV) (h'3 : Hp) => ∃ (t3 : LL), (r3 = LV.tup [] /\ h'3 = [Ob.sl (21, 1) false nl t3]) /\ (((21, 1) = (21, 1) /\ nl = nl /\ t2.snd.snd.length = t3.length) /\ True) /\ K2 x1 t2.1 x3 (decide (i64.wrap (x2 - t2.1) >=
  i64.wrap ((i64.wrap (x2 - x1)).tdiv (8 : Int)))) t2.snd.fst t3; if decide (x1 > 0) = true then aD t1.snd (i64.wrap (x1 - 1)) 1 /\ ∃ n, (qc 0 (t1.snd.getD (i64.wrap (x1 - 1)).toNat
  [])).head? = some (Z3 n) /\ aD t1.snd t.1 1 /\ ∃ n1, (qc 0 (t1.snd.getD t.1.toNat [])).head? = some (Z3 n1) /\ PCall qa 45 [Z3 n, Z3 n1] fun v => ∃ b1, v = Zb b1 /\ if (!b1) = true then ACall qa
  46 [LV.own 0, Y6 x1, Y6 x2, Y6 t.1] [Ob.sl (21, 1) false nl t1.snd] fun (r2 : LV) (h'2 : Hp) => ∃ (t2 : Int × LL), (r2 = Y6 t2.1 /\ h'2 = [Ob.sl (21, 1) false nl t2.snd]) /\ (((21, 1) = (21, 1) /\ nl = nl /\ t1.snd.length = t2.snd.length) /\
  True) /\ K2 t2.1 x2 x3 x8 x9 t2.snd else V7 else V7 else
 let V8 := ACall qa 47 [LV.own 0, Y6 x1, Y6 x2, Y6 t.1] [Ob.sl (21, 1) false nl s_0] fun (r1 : LV) (h'1 : Hp) => ∃ (t1 : Int × Bool × LL), (r1 = LV.pv (PV.tup [Z6 t1.1, Zb t1.snd.fst]) /\ h'1 = [Ob.sl (21, 1) false nl t1.snd.snd]) /\
  (((21, 1) = (21, 1) /\ nl = nl /\ s_0.length = t1.snd.snd.length) /\ True) /\ if decide (i64.wrap (t1.1 - x1) < i64.wrap (x2 - t1.1)) = true then ACall qa 37 [LV.own 0, Y6 x1, Y6 t1.1, Y6 x3] [Ob.sl (21, 1) false nl
  t1.snd.snd] fun (r2 : LV) (h'2 : Hp) => ∃ (t2 : LL), (r2 = LV.tup [] /\ h'2 = [Ob.sl (21, 1) false nl t2]) /\ (((21, 1) = (21, 1) /\ nl = nl /\ t1.snd.snd.length = t2.length) /\ True) /\ K2 (i64.wrap (t1.1 + 1)) x2 x3 (decide
  (i64.wrap (t1.1 - x1) >= i64.wrap ((i64.wrap (x2 - x1)).tdiv (8 : Int)))) t1.snd.fst t2 else ACall qa 37 [LV.own 0, LV.pv (Z6 (i64.wrap (t1.1 + 1))), Y6 x2, Y6 x3] [Ob.sl (21, 1) false nl t1.snd.snd]
  fun (r2 : LV) (h'2 : Hp) => ∃ (t2 : LL), (r2 = LV.tup [] /\ h'2 = [Ob.sl (21, 1) false nl t2]) /\ (((21, 1) = (21, 1) /\ nl = nl /\ t1.snd.snd.length = t2.length) /\ True) /\ K2 x1 t1.1 x3 (decide (i64.wrap (x2 - t1.1) >=
  i64.wrap ((i64.wrap (x2 - x1)).tdiv (8 : Int)))) t1.snd.fst t2; if decide (x1 > 0) = true then aD s_0 (i64.wrap (x1 - 1)) 1 /\ ∃ n, (qc 0 (s_0.getD (i64.wrap (x1 - 1)).toNat [])).head? =
  some (Z3 n) /\ aD s_0 t.1 1 /\ ∃ n1, (qc 0 (s_0.getD t.1.toNat [])).head? = some (Z3 n1) /\ PCall qa 45 [Z3 n, Z3 n1] fun v => ∃ b1, v = Zb b1 /\ if (!b1) = true then ACall qa 46 [LV.own 0, Y6 x1,
  Y6 x2, Y6 t.1] [Ob.sl (21, 1) false nl s_0] fun (r1 : LV) (h'1 : Hp) => ∃ (t1 : Int × LL), (r1 = Y6 t1.1 /\ h'1 = [Ob.sl (21, 1) false nl t1.snd]) /\ (((21, 1) = (21, 1) /\ nl = nl /\ s_0.length = t1.snd.length) /\ True) /\ K2 t1.1 x2 x3 x8 x9
  t1.snd else V8 else V8
theorem zc7 {R : LV -> Hp -> Prop} (h : wN nl es a b c J μ R) : ACall qa 37 [.own 0, .pv (.int .i64 a), .pv (.int .i64 b), .pv (.int .i64 c)] [.sl (21, 1) false nl es] R :=
 ACall.wz Try.func37 (fun zz_ => match zz_ with | 39 => some ⟨LL, fun _ hs t => (.tup [], match hs with | [.sl ty m nl _] => [.sl ty m nl t] | h => h), none⟩ | 50 => some ⟨LL, fun _ hs t => (.tup [], match hs with | [.sl ty m nl _] => [.sl ty m nl t] | h => h), none⟩ | 40 => some ⟨LL, fun _ hs t => (.tup [], match hs with | [.sl ty m nl _] => [.sl ty m nl t] | h => h), none⟩ | 41 => some ⟨LL, fun _ hs t => (.tup [], match hs with | [.sl ty m nl _] => [.sl ty m nl t] | h => h), none⟩ | 43 => some ⟨LL, fun _ hs t => (.tup [], match hs with | [.sl ty m nl _] => [.sl ty m nl t] | h => h), none⟩ | 37 => some ⟨LL, fun _ hs t => (.tup [], match hs with | [.sl ty m nl _] => [.sl ty m nl t] | h => h), none⟩ | 44 => some ⟨Bool × LL, fun _ hs t => (.pv (.bool t.1), match hs with | [.sl ty m nl _] => [.sl ty m nl t.2] | h => h), none⟩ | 46 => some ⟨Int × LL, fun _ hs t => (.pv (.int .i64 t.1), match hs with | [.sl ty m nl _] => [.sl ty m nl t.2] | h => h), none⟩ | 47 => some ⟨Int × Bool × LL, fun _ hs t => (.pv (.tup [.int .i64 t.1, .bool t.2.1]), match hs with | [.sl ty m nl _] => [.sl ty m nl t.2.2] | h => h), none⟩ | 42 => some ⟨Int × Int, fun _ hs t => (.pv (.tup [.int .i64 t.1, .int .i64 t.2]), hs), none⟩ | 56 => some ⟨Int × Int × Int, fun _ hs t => (.pv (.tup [.int .i64 t.1, .int .i64 t.2.1]), match hs with | [s, .box _] => [s, .box [.pv (.int .i64 t.2.2)]] | h => h), none⟩ | 54 => some ⟨Int × Int, fun _ hs t => (.pv (.int .i64 t.1), match hs with | [s, .box _] => [s, .box [.pv (.int .i64 t.2)]] | h => h), none⟩ | 53 => some ⟨Int × Int, fun _ hs t => (.pv (.int .i64 t.1), match hs with | [s, .box _] => [s, .box [.pv (.int .i64 t.2)]] | h => h), none⟩ | 52 => some ⟨Int, fun _ hs t => (.pv (.int .u64 t), [.box [.pv (.int .u64 t)]]), none⟩ | _ => none) [0, 1, 2, 3, 8, 9, 10, 11, 12, 13, 14, 15, 16, 17, 18, 23, 29, 35, 50, 68, 72, 87, 113] (eD 2 (c4 cz6 (qZ nl) J μ (fun e h => (gI e 1, gI e 2, gI e 3, gB e 8, gB e 9, oS h 0)) [] [0, 1, 2, 3, 8, 9] [])) [0] h
end
end Go.Eng
namespace Go.Proofs
open Go.Shelf
def Try.lenM_ren : Go.Shelf.Ren := ⟨fun | 8 => 38 | 19 => 48 | 20 => 49 | n => n, fun | 3 => 3 | 4 => 4 | 5 => 5 | 9 => 9 | 32 => 88 | 44 => 99 | 46 => 101 | 0 => 0 | n => n, fun | n => n⟩
theorem Try.lenM : Go.Proofs.SlLaysM.n8 qa Try.lenM_ren := {
 mixed := by kernel_rfl
 f8 := Try.func38.trans (congrArg some (by kernel_rfl))
 f19 := Try.func48.trans (congrArg some (by kernel_rfl))
 f20 := Try.func49.trans (congrArg some (by kernel_rfl))
 t3 := Try.underlying3
 a3 := Try.isAgg3
 z3 := Try.sizeOf3
 v3 := Try.zeroValue3
 t4 := Try.underlying4
 a4 := Try.isAgg4
 z4 := Try.sizeOf4
 v4 := Try.zeroValue4
 t5 := Try.underlying5
 a5 := Try.isAgg5
 z5 := Try.sizeOf5
 v5 := Try.zeroValue5
 t9 := Try.underlying9
 a9 := Try.isAgg9
 z9 := Try.sizeOf9
 v9 := Try.zeroValue9
 t32 := Try.underlying88
 a32 := Try.isAgg88
 z32 := Try.sizeOf88
 v32 := Try.zeroValue88
 t44 := Try.underlying99
 a44 := Try.isAgg99
 z44 := Try.sizeOf99
 v44 := Try.zeroValue99
 t46 := Try.underlying101
 a46 := Try.isAgg101
 z46 := Try.sizeOf101
 v46 := Try.zeroValue101 }
end Go.Proofs
namespace Go.Eng
open Go Go.Proofs Go.Eng.Rows
theorem zc8 (x : Int) (h0 : 0 <= x) (h1 : x <= 18446744073709551615) : PCall qa 38 [.int .u64 x] fun v => v = .int .i64 (Go.Lib.bitLen x.toNat) := by
 refine ⟨⟨_, Try.func38, by kernel_rfl, by kernel_rfl⟩, fun w I G cargs hh hsz hrel => ?_⟩;have h := hrel 0 _ rfl;obtain ⟨l⟩ := cargs
 match l, hsz with
 | [c], _ =>
   have h : LRel w I G [] (.pv (.int .u64 x)) c := h;have hc : c = .int .u64 x := by cases h with | pv _ _ h => cases h; rfl
   subst hc;refine Calls.mono (calls_of_every_depth fun D => AnySM.bits_LenIn Try.lenM D x w h0 h1) ?_;rintro e w' ⟨rfl, rfl⟩;exact ⟨_, .pv (.int .i64 _), [], I, G, rfl, ⟨_, rfl, rfl⟩, hh, .pv _ _ (.int _ _), TrH.refl _ _ _ _⟩
abbrev nE (f : Nat) (args : List LV) (nl : Bool) (L : List Int) (Q : List Int -> Prop) : Prop := ACall qa f args (hSl nl L) fun r h' => ∃ L', r = .tup [] /\ h' = hSl nl L' /\ L'.length = L.length /\ Q L'
theorem zc9 (nl : Bool) (L : List Int) (c : Int) (hl : L.length <= 12) : nE 37 [.own 0, .pv (.int .i64 0), .pv (.int .i64 (L.length : Int)), .pv (.int .i64 c)] nl L fun L' => L'.Perm L /\ SP L' L.length := by
 refine zc7 _ _ _ _ _ (fun x1 x2 x3 x8 x9 s => x1 = 0 /\ x2 = L.length /\ s = aE L) (fun _ _ _ _ _ _ => 0) ?_;unfold wN;refine ⟨⟨rfl, rfl, rfl, rfl⟩, ?_⟩;rintro _ _ x3 x8 x9 _ ⟨rfl, rfl, rfl⟩;refine mS (by rw [gP (by omega) (by omega)]; simp only [aO]; omega) ?_;refine (zc6 nl L 0 L.length (qj _) (qg _) (by omega)).mono ?_;rintro r h' ⟨L', rfl, rfl, hp, hs⟩;exact ⟨_, ⟨rfl, rfl⟩, ⟨⟨rfl, rfl, by simp [hp.length_eq]⟩, trivial⟩, L', rfl, rfl, hp.length_eq, hp, hs rfl⟩
theorem zda {nl : Bool} {L : List Int} {Q : List Int -> Prop} (hl : L.length < 1000000) (h : ∀ c : Int, nE 37 [.own 0, .pv (.int .i64 0), .pv (.int .i64 (L.length : Int)), .pv (.int .i64 c)] nl L Q) : nE 34 [.own 0] nl L Q := by
 refine zc1 _ _ ?_;unfold wI;rw [gQ]
 have hw : IntKind.u64.wrap (L.length : Int) = L.length := by
  unfold IntKind.wrap;simp only [IntKind.bits, IntKind.signed];have : (L.length : Int) % 18446744073709551616 = L.length := Int.emod_eq_of_lt (by omega) (by omega);simp [this]
 rw [hw];refine (zc8 _ (by omega) (by omega)).mono ?_;rintro _ rfl;refine ⟨_, rfl, (h _).mono ?_⟩;rintro r h' ⟨L', rfl, rfl, hL, hQ⟩;exact ⟨_, ⟨rfl, rfl⟩, ⟨⟨rfl, rfl, by simp [hL]⟩, trivial⟩, L', rfl, rfl, hL, hQ⟩
theorem zdb {B : GB} (hB : B.length <= 1000) {Q : List Int -> Prop} (h : ∀ (nl : Bool) (s : List Int), s.Perm (B.map (·.1)) -> nE 34 [.own 0] nl s Q) : PCall qa 19 [.agg [.mp (aQ B)]] fun v => ∃ (n : Bool) (l : List Int), v = .sl n false (aE l) /\ l.length = B.length /\ Q l := by
 have collect : ACall qa 33 [.fn 35 [.box 0 0]] [.box [.pv (.mp (aQ B))]] fun r h' => ∃ t : Bool × List (List PV), (r = .own 1 /\ h' = [.dead, .sl (21, 1) true t.1 t.2]) /\ ∃ s : List Int, t.2 = aE s /\ s.Perm (B.map (·.1)) := by
  refine zcw _ ?_;unfold wD;refine (zcu B hB).mono ?_;rintro r h' ⟨t, ⟨rfl, rfl⟩, ht⟩;exact ⟨t, ⟨rfl, rfl⟩, ⟨trivial, trivial⟩, t, ⟨rfl, rfl⟩, ht⟩
 have sorted : ACall qa 30 [.fn 35 [.box 0 0]] [.box [.pv (.mp (aQ B))]] fun r h' => ∃ t : Bool × List (List PV), (r = .own 1 /\ h' = [.dead, .sl (21, 1) true t.1 t.2]) /\ ∃ l : List Int, t.2 = aE l /\ l.length = B.length /\ Q l := by
  refine zcx _ ?_;unfold wE;refine collect.mono ?_;rintro r h' ⟨⟨nl, T⟩, ⟨rfl, rfl⟩, s, hs, hp⟩;dsimp only at hs;subst hs;refine ⟨(nl, aE s), ⟨rfl, rfl⟩, ⟨trivial, trivial⟩, (h nl s hp).mono ?_⟩;rintro r h' ⟨L', rfl, rfl, hL, hQ⟩;have hlen : s.length = B.length := by rw [hp.length_eq, qd]
  exact ⟨aE L', ⟨rfl, rfl⟩, ⟨⟨rfl, rfl, by simp [hL]⟩, trivial⟩, (nl, aE L'), ⟨rfl, rfl⟩, L', rfl, by rw [hL, hlen], hQ⟩
 refine zcy _ ?_;unfold wF;refine (zcv (R := fun r h' => r = .fn 35 [.box 0 0] /\ h' = [.box [.pv (.mp (aQ B))]]) _ ?_).mono ?_
 ·unfold wC; exact ⟨rfl, rfl⟩
 rintro r h' ⟨rfl, rfl⟩;refine ⟨(), ⟨rfl, rfl⟩, trivial, sorted.mono ?_⟩;rintro r h' ⟨⟨nl, T⟩, ⟨rfl, rfl⟩, l, hl, hll, hQ⟩;dsimp only at hl;subst hl;exact ⟨(nl, aE l), ⟨rfl, rfl⟩, ⟨trivial, trivial⟩, nl, l, rfl, hll, hQ⟩
theorem zdc {B : GB} (hB : B.length <= 12) (hn : (B.map (·.1)).Nodup) : PCall qa 19 [.agg [.mp (aQ B)]] fun v => ∃ (n : Bool) (l : List Int), v = .sl n false (aE l) /\ l.length = B.length /\ l.Pairwise (· < ·) /\ ∀ x, x ∈ l ↔ x ∈ B.map (·.1) := by
 refine (zdb (Q := fun l => l.Perm (B.map (·.1)) /\ SP l l.length) (by omega) fun nl s hs => ?_).mono ?_
 ·have hl : s.length <= 12 := by rw [hs.length_eq, qd]; exact hB
  refine (zda (by omega) fun c => zc9 nl s c hl).mono ?_;rintro r h' ⟨L', h1, h2, h3, h4, h5⟩;exact ⟨L', h1, h2, h3, h4.trans hs, by rw [h3]; exact h5⟩
 ·rintro v ⟨n, l, h1, h2, h3, h4⟩;refine ⟨n, l, h1, h2, ?_, fun x => h3.mem_iff⟩;rw [List.pairwise_iff_getElem];intro i j hi hj hij;have h5 := h4 i j hij hj;have h6 : l.Nodup := h3.nodup_iff.2 hn
  have h7 : l[i] ≠ l[j] := fun e => by
   have := (List.pairwise_iff_getElem.1 h6) i j hi hj hij;exact this e
  simp only [qal, qn hi, qn hj, Option.getD_some] at h5;omega
end Go.Eng
namespace Go.Eng
open Go Go.Proofs
def q7 (n f : Bool) (es : LL) (nm : Int) (n3 f3 : Bool) (s3 : LL) (x9 x10 : Int) (n_0 : Bool) (s_0 : LL) (h1_1 h1_2 : Int) (hn2_0 hf2_0 : Bool) (hs2_0 : LL) (h2_1 h2_2 : Int) : Env × Hp := ([(0, LV.pv (PV.sl n f es)), (1, LV.pv (PV.int i32 nm)), (3, LV.pv (PV.sl n3 f3 s3)), (6, LV.box 1 0), (8, LV.box 2 0), (9, Y6 x9), (10, Y6 x10)], [.sl (30, 4) true n_0 s_0, .box [LV.own 0, Y6 h1_1, Y6 h1_2], .box [.pv (.sl hn2_0 hf2_0 hs2_0), Y6 h2_1, Y6 h2_2]])
def q8 (n f : Bool) (es : LL) (x9 : Int) (n11 f11 : Bool) (s11 : LL) (x12 : Int) (n_0 : Bool) (s_0 : LL) (h1_1 h1_2 : Int) (hn2_0 hf2_0 : Bool) (hs2_0 : LL) (h2_1 h2_2 : Int) : Env × Hp := ([(0, LV.pv (PV.sl n f es)), (6, LV.box 1 0), (8, LV.box 2 0), (9, Y6 x9), (11, .pv (.sl n11 f11 s11)), (12, Y6 x12)], [.sl (30, 4) true n_0 s_0, .box [LV.own 0, Y6 h1_1, Y6 h1_2], .box [.pv (.sl hn2_0 hf2_0 hs2_0), Y6 h2_1, Y6 h2_2]])
section
variable (n f : Bool) (es : LL) (nm st : Int) (m nl : Bool) (ks : LL) (n3 f3 : Bool) (s3 : LL) (J2 : Int -> Int -> Bool -> LL -> Int -> Int -> Bool -> Bool -> LL -> Int -> Int -> Prop) (μ2 : Int -> Int -> Bool -> LL -> Int -> Int -> Bool -> Bool -> LL -> Int -> Int -> Nat) (J3 : Int -> Bool -> Bool -> LL -> Int -> Bool -> LL -> Int -> Int -> Bool -> Bool -> LL -> Int -> Int -> Prop) (μ3 : Int -> Bool -> Bool -> LL -> Int -> Bool -> LL -> Int -> Int -> Bool -> Bool -> LL -> Int -> Int -> Nat)
def wO (R : LV -> Hp -> Prop) : Prop :=
 PCall qa 29 [PV.sl n f es, Z3 nm] fun v => ∃ n1, v = Z6 n1 /\ if decide (n1 < 0) = true then R (LV.pv (PV.agg [PV.sl true true [], Z6 0, Z6 5])) [Ob.sl ((30 : Nat), 4) m nl ks] else (aU (q7 n f es nm n3 f3 s3 n1
  (0 : Int) nl ks st (0 : Int) true true [] (0 : Int) (0 : Int)) /\ J2 n1 (0 : Int) nl ks st (0 : Int) true true [] (0 : Int) (0 : Int)) /\ ∀ (x9 x10 : Int) (n_0 : Bool) (s_0 : LL) (h1_1 h1_2 : Int) (hn2_0 hf2_0 : Bool) (hs2_0 : LL) (h2_1
  h2_2 : Int), J2 x9 x10 n_0 s_0 h1_1 h1_2 hn2_0 hf2_0 hs2_0 h2_1 h2_2 -> if decide (x10 < (↑s3.length : Int)) = true then aD s3 x10 1 /\ ∃ n2, (s3.getD x10.toNat []).head? = some (Z3 n2) /\ if (n2 == nm) = true then R (LV.pv
  (PV.agg [PV.sl true true [], Z6 0, Z6 6])) [Ob.sl (30, 4) true n_0 s_0] else aU (q7 n f es nm n3 f3 s3 x9 (i64.wrap (x10 + 1)) n_0 s_0 h1_1 h1_2 hn2_0 hf2_0 hs2_0 h2_1 h2_2) /\ J2 x9 (i64.wrap (x10 + 1)) n_0 s_0
  h1_1 h1_2 hn2_0 hf2_0 hs2_0 h2_1 h2_2 /\ μ2 x9 (i64.wrap (x10 + 1)) n_0 s_0 h1_1 h1_2 hn2_0 hf2_0 hs2_0 h2_1 h2_2 < μ2 x9 x10 n_0 s_0 h1_1 h1_2 hn2_0 hf2_0 hs2_0 h2_1 h2_2 else oD true [] s3 1 4 /\ (bM [[Z3 nm]] 1 /\ (([] ++
  s3).length + 1) * 4 <= 140737488355328) /\ (aU (q8 n f es x9 (s3.isEmpty && false) false ([] ++ s3 ++ [[Z3 nm]]) (0 : Int) n_0 s_0 h1_1 h1_2 hn2_0 hf2_0 hs2_0 h2_1 h2_2) /\ J3 x9 (s3.isEmpty && false) false ([] ++ s3 ++ [[Z3 nm]])
  (0 : Int) n_0 s_0 h1_1 h1_2 hn2_0 hf2_0 hs2_0 h2_1 h2_2) /\ ∀ (x91 : Int) (n11 f11 : Bool) (s11 : LL) (x12 : Int) (n_01 : Bool) (s_01 : LL) (h1_11 h1_21 : Int) (hn2_01 hf2_01 : Bool) (hs2_01 : LL) (h2_11 h2_21 : Int), J3 x91 n11 f11 s11
  x12 n_01 s_01 h1_11 h1_21 hn2_01 hf2_01 hs2_01 h2_11 h2_21 ->
 let K13 := fun (y0_ : Int) (y1_ y2_ : Bool) (y3_ : LL) (y4_ : Int) (y5_ : Bool) (y6_ : LL) (y7_ y8_ : Int) (y9_ y10_ : Bool) (y11_ : LL) (y12_ y13_ : Int) => aU (q8 n f es y0_ y1_ y2_ y3_ y4_ y5_
  y6_ y7_ y8_ y9_ y10_ y11_ y12_ y13_) /\ J3 y0_ y1_ y2_ y3_ y4_ y5_ y6_ y7_ y8_ y9_ y10_ y11_ y12_ y13_ /\ μ3 y0_ y1_ y2_ y3_ y4_ y5_ y6_ y7_ y8_ y9_ y10_ y11_ y12_ y13_ < μ3 x91 n11 f11 s11 x12 n_01 s_01 h1_11 h1_21 hn2_01 hf2_01 hs2_01
  h2_11 h2_21; aD es x91 2 /\ ∃ n2 f1 es1, (qc 1 (es.getD x91.toNat [])).head? = some (PV.sl n2 f1 es1) /\ if decide (x12 < (↑es1.length : Int)) = true then aD es x91 2 /\ ∃ n4, ∃ (f2 :
  Bool), ∃ es2, (qc 1 (es.getD x91.toNat [])).head? = some (PV.sl n4 f2 es2) /\ aD es2 x12 6 /\ ∃ n5, (es2.getD x12.toNat []).head? = some (Z6 n5) /\ ∃ n6, (es2.getD x12.toNat []).tail.head? = some (Z3 n6) /\ ∃
  (b : Bool), (es2.getD x12.toNat []).tail.tail.head? = some (Zb b) /\ ∃ n7 f4 es3, (es2.getD x12.toNat []).tail.tail.tail.head? = some (PV.sl n7 f4 es3) /\ ∃ b1, (es2.getD x12.toNat
  []).tail.tail.tail.tail.head? = some (Zb b1) /\ ∃ n8, (es2.getD x12.toNat []).tail.tail.tail.tail.tail.head? = some (Z3 n8) /\ if decide (h1_11 >= 20000) = true then R (LV.pv (PV.agg [PV.sl true true [], Z6 0, Z6 7])) [Ob.sl (30, 4)
  true n_01 s_01] else if (!b1) = true then (bM [[Z6 n5, Z3 n6, Zb b, PV.sl n7 f4 es3]] 4 /\ (s_01.length + 1) * 40 <= 140737488355328) /\ K13 x91 n11 f11 s11 (i64.wrap (x12 + 1)) (n_01 && false) (s_01 ++ [[Z6 n5, Z3 n6, Zb b, PV.sl
  n7 f4 es3]]) (i64.wrap (h1_11 + 1)) h1_21 hn2_01 hf2_01 hs2_01 h2_11 h2_21 else ACall qa 22 [LV.pv (PV.sl n f es), LV.pv (Z3 n8), LV.agg [LV.own 0, LV.pv (Z6 (i64.wrap (h1_11 + 1))), Y6 h1_21], LV.pv (PV.sl n11 f11
  s11)] [Ob.sl (30, 4) false n_01 s_01] fun (r : LV) (h' : Hp) => (∃ (t : Int × Bool × LL), (r = LV.agg [LV.own 0, Y6 t.1, Y6 0] /\ h' = [Ob.sl (30, 4) true t.snd.fst t.snd.snd]) /\ (True /\ True) /\ K13 x91 n11 f11 s11 (i64.wrap (x12 +
  1)) t.snd.fst t.snd.snd t.1 (0 : Int) hn2_01 hf2_01 hs2_01 h2_11 h2_21) ∨ ∃ (t : Nat), (r = LV.agg [LV.pv (PV.sl true true []), Y6 0, Y6 (qz t.succ)] /\ h' = [Ob.dead]) /\ (True /\ True) /\ R (LV.pv (PV.agg [PV.sl true true [], Z6 0,
  Z6 (qz t.succ)])) [Ob.dead] else R (LV.agg [LV.own 0, Y6 h1_11, Y6 h1_21]) [Ob.sl (30, 4) true n_01 s_01]
theorem zdd {R : LV -> Hp -> Prop} (h : wO n f es nm st m nl ks n3 f3 s3 J2 μ2 J3 μ3 R) : ACall qa 22 [.pv (.sl n f es), .pv (.int .i32 nm), .agg [.own 0, .pv (.int .i64 st), .pv (.int .i64 0)], .pv (.sl n3 f3 s3)] [.sl (30, 4) m nl ks] R :=
 ACall.wz Try.func22 (fun zz_ => match zz_ with | 22 => some ⟨Int × Bool × LL, fun _ _ t => (.agg [.own 0, .pv (.int .i64 t.1), .pv (.int .i64 0)], [.sl (30, 4) true t.2.1 t.2.2]), some ⟨Nat, fun _ _ t => (.agg [.pv (.sl true true []), .pv (.int .i64 0), .pv (.int .i64 (qz (qak t)))], [.dead])⟩⟩ | _ => none) [0, 1, 2, 3, 6, 8, 9, 10, 11, 12, 13, 18, 23, 31, 47, 60, 68, 84] (fun zz_ => match zz_ with | 5 => some ⟨Int × Int × Bool × LL × Int × Int × Bool × Bool × LL × Int × Int, fun s => q7 n f es nm n3 f3 s3 s.1 s.2.1 s.2.2.1 s.2.2.2.1 s.2.2.2.2.1 s.2.2.2.2.2.1 s.2.2.2.2.2.2.1 s.2.2.2.2.2.2.2.1 s.2.2.2.2.2.2.2.2.1 s.2.2.2.2.2.2.2.2.2.1 s.2.2.2.2.2.2.2.2.2.2, fun _ s => J2 s.1 s.2.1 s.2.2.1 s.2.2.2.1 s.2.2.2.2.1 s.2.2.2.2.2.1 s.2.2.2.2.2.2.1 s.2.2.2.2.2.2.2.1 s.2.2.2.2.2.2.2.2.1 s.2.2.2.2.2.2.2.2.2.1 s.2.2.2.2.2.2.2.2.2.2, fun s => μ2 s.1 s.2.1 s.2.2.1 s.2.2.2.1 s.2.2.2.2.1 s.2.2.2.2.2.1 s.2.2.2.2.2.2.1 s.2.2.2.2.2.2.2.1 s.2.2.2.2.2.2.2.2.1 s.2.2.2.2.2.2.2.2.2.1 s.2.2.2.2.2.2.2.2.2.2, fun e h => (gI e 9, gI e 10, oN h 0, oS h 0, hI h 1 1, hI h 1 2, hN h 2 0, hF h 2 0, hS h 2 0, hI h 2 1, hI h 2 2), [], [0, 1, 3, 6, 8, 9, 10], [0], fun p => ∀ (x9 x10 : Int) (n_0 : Bool) (s_0 : LL) (h1_1 h1_2 : Int) (hn2_0 hf2_0 : Bool) (hs2_0 : LL) (h2_1 h2_2 : Int), p (x9, x10, n_0, s_0, h1_1, h1_2, hn2_0, hf2_0, hs2_0, h2_1, h2_2), fun p h s => h s.1 s.2.1 s.2.2.1 s.2.2.2.1 s.2.2.2.2.1 s.2.2.2.2.2.1 s.2.2.2.2.2.2.1 s.2.2.2.2.2.2.2.1 s.2.2.2.2.2.2.2.2.1 s.2.2.2.2.2.2.2.2.2.1 s.2.2.2.2.2.2.2.2.2.2⟩ | 13 => some ⟨Int × Bool × Bool × LL × Int × Bool × LL × Int × Int × Bool × Bool × LL × Int × Int, fun s => q8 n f es s.1 s.2.1 s.2.2.1 s.2.2.2.1 s.2.2.2.2.1 s.2.2.2.2.2.1 s.2.2.2.2.2.2.1 s.2.2.2.2.2.2.2.1 s.2.2.2.2.2.2.2.2.1 s.2.2.2.2.2.2.2.2.2.1 s.2.2.2.2.2.2.2.2.2.2.1 s.2.2.2.2.2.2.2.2.2.2.2.1 s.2.2.2.2.2.2.2.2.2.2.2.2.1 s.2.2.2.2.2.2.2.2.2.2.2.2.2, fun _ s => J3 s.1 s.2.1 s.2.2.1 s.2.2.2.1 s.2.2.2.2.1 s.2.2.2.2.2.1 s.2.2.2.2.2.2.1 s.2.2.2.2.2.2.2.1 s.2.2.2.2.2.2.2.2.1 s.2.2.2.2.2.2.2.2.2.1 s.2.2.2.2.2.2.2.2.2.2.1 s.2.2.2.2.2.2.2.2.2.2.2.1 s.2.2.2.2.2.2.2.2.2.2.2.2.1 s.2.2.2.2.2.2.2.2.2.2.2.2.2, fun s => μ3 s.1 s.2.1 s.2.2.1 s.2.2.2.1 s.2.2.2.2.1 s.2.2.2.2.2.1 s.2.2.2.2.2.2.1 s.2.2.2.2.2.2.2.1 s.2.2.2.2.2.2.2.2.1 s.2.2.2.2.2.2.2.2.2.1 s.2.2.2.2.2.2.2.2.2.2.1 s.2.2.2.2.2.2.2.2.2.2.2.1 s.2.2.2.2.2.2.2.2.2.2.2.2.1 s.2.2.2.2.2.2.2.2.2.2.2.2.2, fun e h => (gI e 9, gN e 11, gF e 11, gS e 11, gI e 12, oN h 0, oS h 0, hI h 1 1, hI h 1 2, hN h 2 0, hF h 2 0, hS h 2 0, hI h 2 1, hI h 2 2), [], [0, 6, 8, 9, 11, 12], [0], fun p => ∀ (x9 : Int) (n11 f11 : Bool) (s11 : LL) (x12 : Int) (n_0 : Bool) (s_0 : LL) (h1_1 h1_2 : Int) (hn2_0 hf2_0 : Bool) (hs2_0 : LL) (h2_1 h2_2 : Int), p (x9, n11, f11, s11, x12, n_0, s_0, h1_1, h1_2, hn2_0, hf2_0, hs2_0, h2_1, h2_2), fun p h s => h s.1 s.2.1 s.2.2.1 s.2.2.2.1 s.2.2.2.2.1 s.2.2.2.2.2.1 s.2.2.2.2.2.2.1 s.2.2.2.2.2.2.2.1 s.2.2.2.2.2.2.2.2.1 s.2.2.2.2.2.2.2.2.2.1 s.2.2.2.2.2.2.2.2.2.2.1 s.2.2.2.2.2.2.2.2.2.2.2.1 s.2.2.2.2.2.2.2.2.2.2.2.2.1 s.2.2.2.2.2.2.2.2.2.2.2.2.2⟩ | 2000013 => some ⟨Unit, fun _ => ([], []), fun _ _ => True, fun _ => 0, fun _ _ => (), [], [11], [], fun p => p (), fun p h _ => h⟩ | _ => none) [0] h
end
end Go.Eng
namespace Go.Eng
open Go Go.Proofs Go.Eng.Rows
def bH (p : Int × GE) : List PV := [.int .i32 p.1, .sl p.2.1 p.2.2.1 (p.2.2.2.map aK)]
theorem gV (p : Int × GE) : (bH p).length = 2 := rfl
theorem wP (n f : Bool) (R : GB) (nm : Int) (hl : R.length < 1000000) : PCall qa 29 [.sl n f (R.map bH), .int .i32 nm] fun v => (v = .int .i64 (-1) /\ aM nm R = none) ∨ ∃ (i : Nat) (hi : i < R.length), v = .int .i64 (i : Int) /\ R[i].1 = nm /\ aM nm R = some R[i].2 := by
 have ll : (R.map bH).length = R.length := qd _;refine zcl _ _ _ _ (fun x => ∃ i : Nat, x = i /\ i <= R.length /\ aM nm R = aM nm (R.drop i)) (fun x => R.length - x.toNat) ?_;unfold vY;rw [ll];refine ⟨⟨rfl, 0, rfl, qj _, rfl⟩, ?_⟩;rintro _ ⟨i, rfl, hi, hd⟩;refine bJ (fun hc => ?_) (fun hc => ?_)
 ·simp only [aO] at hc;have h1 : i < R.length := by omega
  rw [qf, bX h1, cN (by omega)];rw [qv h1] at hd;refine ⟨b5 (l := R) gV (by omega) (by omega), _, rfl, bJ (fun he => ?_) (fun he => ?_)⟩
  ·simp only [beq_iff_eq] at he;refine .inr ⟨i, h1, rfl, he, ?_⟩;rw [hd];generalize R[i] = p at he ⊢;obtain ⟨a, b⟩ := p;simp only at he;simp only [aM]; rw [if_pos he.symm]
  ·simp only [beq_iff_eq] at he;refine ⟨rfl, ⟨i + 1, rfl, h1, ?_⟩, by dsimp only; omega⟩;rw [hd];generalize R[i] = p at he ⊢;obtain ⟨a, b⟩ := p;simp only at he;simp only [aM]; rw [if_neg fun e => he e.symm]
 ·simp only [aO] at hc;refine .inl ⟨rfl, ?_⟩;rw [hd, qx (by omega)]; rfl
theorem ACall.lets {P : Program} {f : Nat} {args : List LV} {ob : Ob} {Q Q' : LV -> Hp -> Prop} (hc : ACall P f args [ob] Q) (hq : ∀ r h', Q r h' -> Q' r h' ∨ ∃ (vs : List PV) (o : Ob), (r = .pv (.agg vs) ∨ r = .agg (vs.map .pv)) /\ h' = [o] /\ Q' (.agg (vs.map .pv)) [.dead]) : ACall P f args [ob] Q' :=
 ⟨hc.1, fun w I G cargs h1 h2 h3 => (hc.2 w I G cargs h1 h2 h3).mono fun e w' ⟨cv, r, h', I', G', e1, e2, e3, e4, e5⟩ => (hq r h' e2).elim (fun q => ⟨cv, r, h', I', G', e1, q, e3, e4, e5⟩) fun ⟨vs, o, hr, hh, q⟩ => by
  subst hh
  have dead : ∀ {i : Nat} {x : Ob}, [Ob.dead][i]? = some x -> x = .dead := fun {i x} h => by
   cases i with
   | zero => cases h; rfl
   | succ i => simp at h
  have tree : ∀ {u : PV} {c : Value} {h : Hp}, LRel w' I' G' h (.pv u) c -> LRel w' I' G' [.dead] (.pv u) c := fun h => by cases h with | pv _ _ h => exact .pv _ _ h
  refine ⟨cv, .agg (vs.map .pv), [.dead], I', G', e1, q, ⟨fun i x hx => by rw [dead hx]; trivial, fun i j x y hx ha => by rw [dead hx] at ha; exact ha.elim, fun i x hx ha => by rw [dead hx] at ha; exact ha.elim, e3.cl⟩, ?_, ⟨e5.t.trans (Tr.less fun b ⟨i, x, hx, ha, _⟩ => by rw [dead hx] at ha; exact ha.elim), qg _, fun i x hi hx hf => by rw [dead hx] at hf; cases hf⟩⟩;rcases hr with rfl | rfl
  ·cases e4 with
   | pv _ _ h =>
     cases h with
     | agg _ cs k1 k2 k3 =>
       refine .agg _ cs (by simpa using k1) (fun k v hk => ?_) (fun k v hk => ?_)
       ·obtain ⟨u, hu, rfl⟩ := fH hk; exact .pv _ _ (k2 k u hu)
       ·obtain ⟨u, hu, rfl⟩ := fH hk; exact k3 k u hu
  ·cases e4 with
   | agg _ cs k1 k2 k3 => exact .agg _ cs k1 (fun k v hk => by obtain ⟨u, hu, rfl⟩ := fH hk; exact tree (k2 k _ hk)) k3⟩
def wQ : Except Int MW -> LV -> Hp -> Prop
 | .ok w, r, h' => ∃ (nl : Bool) (K : List GKey), r = .agg [.own 0, .pv (.int .i64 (w.2 : Int)), .pv (.int .i64 0)] /\ h' = [.sl (30, 4) true nl (K.map bC)] /\ K.map (·.2.2) = w.1 /\ w.2 <= 20000 /\ K.length <= w.2
 | .error e, r, h' => ∃ t : Nat, e = qz (qak t) /\ r = .agg [.pv (.sl true true []), .pv (.int .i64 0), .pv (.int .i64 (qz (qak t)))] /\ h' = [.dead]
def zde (R : GB) (d : Nat) : Prop := ∀ (op : List Int) (nm : Int) (k : Nat) (n f m nl n3 f3 : Bool) (K : List GKey), dR (aH R) op < d -> op.length + d <= 1000 -> k <= 20000 -> K.length <= k ->
 ACall qa 22 [.pv (.sl n f (R.map bH)), .pv (.int .i32 nm), .agg [.own 0, .pv (.int .i64 k), .pv (.int .i64 0)], .pv (.sl n3 f3 (aE op))] [.sl (30, 4) m nl (K.map bC)] fun r h' => wQ (bD (aH R) d op nm (K.map (·.2.2), k)) r h'
theorem zdf (l : List Int) (x : Int) : [] ++ aE l ++ [[PV.int .i32 x]] = aE (l ++ [x]) := by simp [aE]
theorem zdg {l : List Int} {i : Nat} (h : i < l.length) (x : Int) : x ∈ l.take (i + 1) ↔ x ∈ l.take i ∨ x = l[i] := by
 rw [qM h, List.mem_append, List.mem_singleton]
theorem wR {l : List Int} {i : Nat} (h : i < l.length) : aD (aE l) (i : Int) 1 /\ (aE l).getD i [] = [.int .i32 l[i]] := by
 have := v7 (l := l) (i := (i : Int)) (by omega) (by omega);simpa using this
theorem wS (R : GB) (hR : BkOK R) (hl : R.length <= 200) : ∀ d, d <= 500 -> zde R d
 | 0, _ => fun op nm k n f m nl n3 f3 K hlt => absurd hlt (qai _)
 | d + 1, hd => by
   intro op nm k n f m nl n3 f3 K hlt hop hk hK;have ih := wS R hR hl d (by omega);have lo : (aE op).length = op.length := gQ op;have ll : (R.map bH).length = R.length := qd _;generalize hX : bD (aH R) (d + 1) op nm (K.map (·.2.2), k) = X;rw [bD, cT] at hX
   -- what the answer is, as it stands
   let Y : LV -> Hp -> Prop := fun r h' => match X with
    | .ok w => wQ (.ok w) r h'
    | .error e => ∃ (t : Nat) (o : Ob), e = qz (qak t) /\ (r = .pv (.agg [.sl true true [], .int .i64 0, .int .i64 (qz (qak t))]) ∨ r = .agg [.pv (.sl true true []), .pv (.int .i64 0), .pv (.int .i64 (qz (qak t)))]) /\ h' = [o]
   refine ACall.lets (Q := Y) ?_ ?_
   rotate_left
   ·intro r h' hy;cases X with
    | ok w => exact .inl hy
    | error e =>
      obtain ⟨t, o, he, hr, hh⟩ := hy;exact .inr ⟨_, o, hr, hh, t, he, rfl, rfl⟩
   refine zdd n f (R.map bH) nm k m nl (K.map bC) n3 f3 (aE op)
    (fun x9 x10 n0 s0 h1 h2 _ _ _ _ _ => ∃ (a i : Nat) (ha : a < R.length), x9 = a /\ R[a].1 = nm /\ aM nm R = some R[a].2 /\ x10 = i /\ i <= op.length /\ nm ∉ op.take i /\ s0 = K.map bC /\ h1 = k /\ h2 = 0) (fun _ x10 _ _ _ _ _ _ _ _ _ => op.length - x10.toNat)
    (fun x9 _ _ s11 x12 _ s0 h1 h2 _ _ _ _ _ => ∃ (a i j : Nat) (M : List GKey) (ha : a < R.length), x9 = a /\ aM nm R = some R[a].2 /\ nm ∉ op /\ s11 = aE (op ++ [nm]) /\ x12 = i /\ i <= R[a].2.2.2.length /\ s0 = M.map bC /\ h1 = j /\ h2 = 0 /\ j <= 20000 /\ M.length <= j /\
     cD (fun m => bD (aH R) d (op ++ [nm]) m) ((R[a].2.2.2.map (·.2.2)).drop i) (M.map (·.2.2), j) = X) (fun _ _ _ _ x12 _ _ _ _ _ _ _ _ _ => 2000 - x12.toNat) ?_
   unfold wO;rw [lo];refine (wP n f R nm (by omega)).mono ?_;rintro _ (⟨rfl, hno⟩ | ⟨a, ha, rfl, hnm, hget⟩)
   ·refine ⟨_, rfl, mS (by decide) ?_⟩;rw [hno] at hX;subst hX;exact ⟨4, _, rfl, .inl rfl, rfl⟩
   refine ⟨_, rfl, bU (by simp only [aO]; omega) ?_⟩;rw [hget] at hX;dsimp only [qah] at hX;have hbk : R[a].2.2.2.length <= 1000 := hR _ (ql ha);refine ⟨⟨rfl, a, 0, ha, rfl, hnm, hget, rfl, qj _, by simp, rfl, rfl, rfl⟩, ?_⟩;rintro _ _ n0 _ _ _ hn hf hs h21 h22 ⟨a', i, ha', rfl, hnm', hget', rfl, hi, hni, rfl, rfl, rfl⟩;refine bJ (fun hc => ?_) (fun hc => ?_)
   ·simp only [aO] at hc;have h1 : i < op.length := by omega
    obtain ⟨g1, g2⟩ := wR h1;rw [qf, g2, cN (by omega)];refine ⟨g1, _, rfl, ?_⟩;refine bJ (fun he => ?_) (fun he => ?_)
    ·simp only [beq_iff_eq] at he;rw [if_pos (by rw [<- he]; exact ql h1)] at hX;subst hX;exact ⟨5, _, rfl, .inl rfl, rfl⟩
    ·simp only [beq_iff_eq] at he;refine ⟨rfl, ⟨a', i + 1, ha', rfl, hnm', hget', rfl, h1, ?_, rfl, rfl, rfl⟩, by dsimp only; omega⟩;rw [zdg h1];rintro (h | h)
     ·exact hni h
     ·exact he h.symm
   simp only [aO] at hc;have hno : nm ∉ op := by rwa [qad (by omega)] at hni
   rw [if_neg hno] at hX
   have hl1 : dR (aH R) (op ++ [nm]) < d := by
    have := vE (b := aH R) (op := op) (nm := nm) (l := R[a].2.2.2.map (·.2.2)) (by rw [cT, hget]; rfl) hno;omega
   have e : R[a'].2 = R[a].2 := by rw [hget'] at hget; exact Option.some.inj hget
   rw [zdf];refine ⟨⟨rfl, .inl rfl, fun e he => (by cases he), qL _, by simp; omega⟩, ⟨fun e he => (by cases he; rfl), by simp; omega⟩, ⟨rfl, a', 0, k, K, ha', rfl, hget', hno, rfl, rfl, qj _, rfl, rfl, rfl, hk, hK, by rw [e]; exact hX⟩, ?_⟩;clear hX hn hf hs h21 h22;rintro _ n11 f11 _ _ n01 _ _ _ hn hf hs h21 h22 ⟨b, i2, j, M, hb, rfl, hgb, _, rfl, rfl, hi2, rfl, rfl, rfl, hj, hM, hX⟩;have e2 : R[b].2 = R[a].2 := by rw [hgb] at hget; exact Option.some.inj hget
   have ib : aD (R.map bH) (b : Int) 2 := b5 (l := R) gV (by omega) (by omega);rw [qf, bX hb];have hbk2 : R[b].2.2.2.length <= 1000 := hR _ (ql hb);have lm : (R[b].2.2.2.map aK).length = R[b].2.2.2.length := qd _;refine ⟨ib, _, _, _, rfl, ?_⟩;rw [lm];refine bJ (fun hc2 => ?_) (fun hc2 => ?_)
   rotate_left
   ·simp only [aO] at hc2;rw [qx (by simp; omega)] at hX;subst hX;exact ⟨n01, M, rfl, rfl, rfl, hj, hM⟩
   simp only [aO] at hc2;have h1 : i2 < R[b].2.2.2.length := by omega
   have hdrop : (R[b].2.2.2.map (·.2.2)).drop i2 = (R[b].2.2.2[i2]).2.2 :: (R[b].2.2.2.map (·.2.2)).drop (i2 + 1) := by
    rw [qv (by simpa using h1)]; simp
   rw [hdrop, qA] at hX;refine ⟨ib, _, _, _, rfl, b5 (l := R[b].2.2.2) iW (by omega) (by omega), ?_⟩;rw [qf, bX h1, cN (i := i2) (by omega), cN (i := j) (by omega)];refine ⟨_, rfl, _, rfl, _, rfl, _, _, _, rfl, _, rfl, _, rfl, ?_⟩;refine bJ (fun h20 => ?_) (fun h20 => ?_)
   ·simp only [aO] at h20;rw [if_pos (by dsimp only; omega)] at hX;subst hX;exact ⟨6, _, rfl, .inl rfl, rfl⟩
   simp only [aO] at h20;rw [if_neg (by dsimp only; omega)] at hX;refine bJ (fun hcl => ?_) (fun hcl => ?_)
   ·have hcl : R[b].2.2.2[i2].2.2.call = false := by simpa using hcl
    rw [if_neg (by rw [hcl]; decide)] at hX;refine ⟨⟨fun e he => (by cases he; rfl), by simp only [qd]; omega⟩, rfl, ⟨b, i2 + 1, j + 1, M ++ [(R[b].2.2.2[i2].1, R[b].2.2.2[i2].2.1, R[b].2.2.2[i2].2.2.key)], hb, rfl, hgb, hno, rfl, rfl, h1, by rw [qk]; rfl, rfl, rfl, by omega, by simp only [qm, qaf]; omega, ?_⟩, by dsimp only; omega⟩;rw [qk]; exact hX
   ·have hcl : R[b].2.2.2[i2].2.2.call = true := by simpa using hcl
    rw [if_pos hcl] at hX;refine (ih (op ++ [nm]) R[b].2.2.2[i2].2.2.name (j + 1) n f false n01 n11 f11 M hl1 (by simp; omega) (by omega) (by omega)).mono ?_;intro r h' hr;generalize bD (aH R) d (op ++ [nm]) R[b].2.2.2[i2].2.2.name (M.map (·.2.2), j + 1) = Z at hX hr;cases Z with
    | error e =>
      obtain ⟨t, rfl, rfl, rfl⟩ := hr;subst hX;exact .inr ⟨t, ⟨rfl, rfl⟩, ⟨trivial, trivial⟩, t, _, rfl, .inl rfl, rfl⟩
    | ok w =>
      obtain ⟨nl', K', rfl, rfl, k1, k2, k3⟩ := hr;refine .inl ⟨(_, _, _), ⟨rfl, rfl⟩, ⟨trivial, trivial⟩, rfl, ⟨b, i2 + 1, w.2, K', hb, rfl, hgb, hno, rfl, rfl, h1, rfl, rfl, rfl, k2, k3, ?_⟩, by dsimp only; omega⟩;rw [k1]; exact hX
theorem gW (B : GB) (nm : Int) (y : GE) (x : Int) : bF (aH (aL nm y B)) x = if x = nm then some (y.2.2.map (·.2.2)) else bF (aH B) x := by
 rw [cT, cT, pY];split <;> rfl
theorem iY (B : GB) : (aH B).length = B.length := by simp [aH]
theorem kM {nm : Int} {y : GE} {B : GB} (h : aM nm B = none) : (aL nm y B).length = B.length + 1 := by
 have := congrArg qo (kH nm y B);rw [qd, if_neg (pZ.1 h)] at this;simpa using this
theorem nF {L : List GS} {l : List MStep} (h : L.map (·.2.2) = l) (hl : ∀ x ∈ l, bG x.key) : ∀ x ∈ L, bG x.2.2.key := fun x hx => hl _ (h ▸ qw hx)
theorem nG {L : List GS} {l : List MStep} (h : L.map (·.2.2) = l) : L.length = l.length := by rw [<- h]; simp
def kX : MKey := ⟨1, 120, false, []⟩
def kY : MKey := ⟨1, 121, false, []⟩
def dE (nm : Int) : MStep := ⟨⟨0, 0, false, []⟩, true, nm⟩
def eG (k : MKey) : MStep := ⟨k, false, 0⟩
def g46 (s : MStep) : GS := (true, true, s)
theorem q9 {b c : Bk} (h : ∀ x, bF b x = bF c x) (hl : b.length = c.length) (nm : Int) : cX b nm = cX c nm := by
 unfold cX; rw [hl]; exact vF h _ _ _ _
theorem fT {k : MKey} (h : k.text = []) : bG k := by unfold bG; rw [h]; decide
theorem awake46 : PCall qa 9 [] fun v => v = .bool true := by
 refine zcn ?_;unfold v6;refine ((wA 97 false true [g46 (eG kX), g46 (dE 98)] (by decide) (by intro x hx; simp at hx; rcases hx with rfl | rfl <;> exact fT rfl)).acall).mono ?_;rintro _ _ ⟨_, rfl, rfl, y1, rfl, h1⟩;refine ⟨(_, _), ⟨rfl, rfl⟩, trivial, ?_⟩;refine ((qR (aL 97 y1 []) 98 false true [g46 (eG kY)] (by decide) (by intro x hx; simp at hx; subst hx; exact fT rfl) (.inr (by rw [kM rfl]; decide))).acall).mono ?_;rintro _ _ ⟨_, rfl, rfl, y2, rfl, h2⟩;refine ⟨(_, _), ⟨rfl, rfl⟩, trivial, ?_⟩;have f1 : ∀ x, bF (aH (aL 97 y1 [])) x = if x = 97 then some [eG kX, dE 98] else none := fun x => by rw [gW, h1]; rfl
 have f2 : ∀ x, bF (aH (aL 98 y2 (aL 97 y1 []))) x = if x = 98 then some [eG kY] else if x = 97 then some [eG kX, dE 98] else none := fun x => by rw [gW, h2, f1]; rfl
 have l1 : (aL 97 y1 ([] : GB)).length = 1 := by rw [kM rfl]; rfl
 have l2 : (aL 98 y2 (aL 97 y1 ([] : GB))).length = 2 := by
  rw [kM, l1];have := f1 98; rw [cT] at this;cases h : aM 98 (aL 97 y1 ([] : GB)) with
  | none => rfl
  | some y => rw [h] at this; simp at this
 have b1 : BkOK (aL 98 y2 (aL 97 y1 [])) := (BkOK.set (BkOK.set (fun p h => by cases h) (by rw [nG h1]; decide)) (by rw [nG h2]; decide));have t1 : BTx (aL 98 y2 (aL 97 y1 [])) := (BTx.set (BTx.set (fun p h => by cases h) (nF h1 (by intro x hx; simp at hx; rcases hx with rfl | rfl <;> exact fT rfl))) (nF h2 (by intro x hx; simp at hx; subst hx; exact fT rfl)))
 have x1 : cX (aH (aL 98 y2 (aL 97 y1 []))) 97 = .ok ([kX, kY], 3) :=
  (q9 (c := [(98, [eG kY]), (97, [eG kX, dE 98])]) (fun x => by rw [f2]; simp only [bF, eq_comm]) (by rw [iY, l2]; rfl) 97).trans rfl
 refine ((qV b1 t1 97).acall).mono ?_;rintro _ _ ⟨_, rfl, rfl, n3, f3, Q, r, rfl, hr⟩;rw [x1] at hr;obtain ⟨rfl, hQ⟩ := hr;refine ⟨(_, _, _, _), ⟨rfl, rfl⟩, trivial, ?_⟩;refine ((qR (aL 98 y2 (aL 97 y1 [])) 98 false true [g46 (dE 97)] (by decide) (by intro x hx; simp at hx; subst hx; exact fT rfl) (.inr (by rw [l2]; decide))).acall).mono ?_;rintro _ _ ⟨_, rfl, rfl, y3, rfl, h3⟩;refine ⟨(_, _), ⟨rfl, rfl⟩, trivial, ?_⟩
 have f4 : ∀ x, bF (aH (aL 98 y3 (aL 98 y2 (aL 97 y1 [])))) x = if x = 98 then some [dE 97] else if x = 97 then some [eG kX, dE 98] else none := fun x => by
  rw [gW, h3, f2]; by_cases e : x = 98 <;> simp [e, g46]
 have l4 : (aL 98 y3 (aL 98 y2 (aL 97 y1 ([] : GB)))).length = 2 := by
  have := congrArg qo (kH 98 y3 (aL 98 y2 (aL 97 y1 ([] : GB))));rw [qd, if_pos (za0.2 (.inr rfl)), qd, l2] at this;exact this
 have x2 : cX (aH (aL 98 y3 (aL 98 y2 (aL 97 y1 [])))) 97 = .error 6 :=
  (q9 (c := [(98, [dE 97]), (97, [eG kX, dE 98])]) (fun x => by rw [f4]; simp only [bF, eq_comm]) (by rw [iY, l4]; rfl) 97).trans rfl
 refine ((qV (b1.set (nm := 98) (y := y3) (by rw [nG h3]; decide)) (t1.set (nm := 98) (y := y3) (nF h3 (by intro x hx; simp at hx; subst hx; exact fT rfl))) 97).acall).mono ?_;rintro _ _ ⟨_, rfl, rfl, n5, f5, Q5, r5, rfl, hr5⟩;rw [x2] at hr5;obtain ⟨rfl, _, rfl⟩ := hr5;refine ⟨(_, _, _, _), ⟨rfl, rfl⟩, trivial, ?_⟩;refine (qO n3 f3 false true Q [(true, true, kX), (true, true, kY)] hQ (by have := m8 (P := bG) (m := [((true, true, kX) : GKey), (true, true, kY)]) hQ (by intro x hx; simp at hx; rcases hx with rfl | rfl <;> exact fT rfl); exact this) (by have := congrArg qo hQ; simp at this; omega)).mono ?_;rintro _ rfl;exact ⟨_, rfl, rfl⟩
theorem PCall.ofB {P : Program} {f : Nat} {args : List PV} {Q : LV -> Hp -> Prop} {R : PV -> Prop} (hc : ACall P f (args.map .pv) [] Q) (hq : ∀ r h', Q r h' -> ∃ p, eP h' r = some p /\ R p) : PCall P f args R :=
 ⟨hc.1, fun w I G cargs h1 h2 h3 => (hc.2 w I G cargs h1 h2 h3).mono fun e w' ⟨cv, r, h', I', G', e1, e2, e3, e4, e5⟩ => by
  obtain ⟨p, hp, hR⟩ := hq r h' e2;have ht := e5.t;have hno : ∀ b, ¬ aC [] G b := fun b ⟨o, ob, ho, _⟩ => by simp at ho
  exact ⟨cv, .pv p, [], AllB I' h' G', G', e1, ⟨p, rfl, hR⟩, HRel.nil G' (fun b hb => hb.elim (e3.cl b) e3.blk_lt), .pv _ _ (lV e3 e4 hp),
   ⟨⟨ht.os, ht.tape, ht.output, ht.size, ht.keep, fun b hb => .inl (ht.i1 b hb), fun b hb => hb.elim (ht.i2 b) (fun ho => (ht.own2 b ho).elim (fun x => absurd x (hno b)) (fun x => .inr (.inr x))), fun b hb => absurd hb (fun ⟨o, ob, ho, _⟩ => by simp at ho), ht.frz, ht.drawn⟩, qg _, fun o ob ho => by simp at ho⟩⟩⟩
theorem ACall.nil0 {P : Program} {f : Nat} {a0 a1 a3 : PV} {x y : PV} {ty : Nat × Nat} {m : Bool} {Q : LV -> Hp -> Prop} (hc : ACall P f [.pv a0, .pv a1, .agg [.own 0, .pv x, .pv y], .pv a3] [.sl ty m true []] Q) :
 ACall P f ([a0, a1, .agg [.sl true true [], x, y], a3].map .pv) [] Q :=
 ⟨hc.1, fun w I G cargs hh hsz hrel => by
  have one : ∀ {o : Nat} {ob : Ob}, [Ob.sl ty m true []][o]? = some ob -> o = 0 /\ ob = .sl ty m true [] := fun {o ob} h => by
   match o, h with
   | 0, h => cases h; exact ⟨rfl, rfl⟩
   | o + 1, h => simp at h
  have na : ∀ {p : Pl}, ¬ (Ob.sl ty m true []).alive p := fun {p} h => by simp [Ob.alive] at h
  have hh' : HRel w I G [Ob.sl ty m true []] := ⟨fun o ob h => by obtain ⟨rfl, rfl⟩ := one h; exact rfl, fun o o' ob ob' h a h' _ _ => by rw [(one h).1, (one h').1], fun o ob h a => by obtain ⟨rfl, rfl⟩ := one h; exact absurd a na, hh.cl⟩;have tree : ∀ {u : PV} {c : Value}, LRel w I G [] (.pv u) c -> LRel w I G [Ob.sl ty m true []] (.pv u) c := fun h => by cases h with | pv _ _ h => exact .pv _ _ h
  have ho : aC [Ob.sl ty m true []] G = aC [] G := funext fun b => propext ⟨fun ⟨o, ob, h, a, _⟩ => by obtain ⟨rfl, rfl⟩ := one h; exact absurd a na, fun ⟨o, ob, h, _⟩ => by simp at h⟩;refine (hc.2 w I G cargs hh' hsz fun i v hi => ?_).mono ?_
  ·match i, hi with
   | 0, hi => cases hi; exact tree (hrel 0 _ rfl)
   | 1, hi => cases hi; exact tree (hrel 1 _ rfl)
   | 2, hi =>
     cases hi;have := hrel 2 _ rfl;generalize cargs.getD 2 undef = c at this ⊢;cases this with
     | pv _ _ h =>
       cases h with
       | agg _ cs k1 k2 k3 =>
         refine .agg _ cs k1 (fun k v hk => ?_) (fun k v hk => ?_)
         ·match k, hk with
          | 0, hk =>
            cases hk;have := k2 0 _ rfl;generalize cs.getD 0 undef = d at this ⊢;cases this with
            | slnil => exact .ownNil 0 ty m [] rfl
          | 1, hk => cases hk; exact .pv _ _ (k2 1 _ rfl)
          | 2, hk => cases hk; exact .pv _ _ (k2 2 _ rfl)
          | k + 3, hk => simp at hk
         ·match k, hk with
          | 0, hk => exact k3 0 _ rfl
          | 1, hk => exact k3 1 _ rfl
          | 2, hk => exact k3 2 _ rfl
          | k + 3, hk => simp at hk
   | 3, hi => cases hi; exact tree (hrel 3 _ rfl)
   | i + 4, hi => simp at hi
  ·rintro e w' ⟨cv, r, h', I', G', e1, e2, e3, e4, e5⟩;have t := e5.t;rw [ho] at t
   exact ⟨cv, r, h', I', G', e1, e2, e3, e4, ⟨t, qj _, fun o ob h => by simp at h⟩⟩⟩
theorem zdh (n f : Bool) (R : GB) (nm : Int) (hR : BkOK R) (hl : R.length <= 200) : PCall qa 22 [.sl n f (R.map bH), .int .i32 nm, .agg [.sl true true [], .int .i64 0, .int .i64 0], .sl true true []] fun v => ∃ (n f : Bool) (Q : List GKey) (st r : Int), v = .agg [.sl n f (Q.map bC), .int .i64 st, .int .i64 r] /\ qU (cX (aH R) nm) r Q /\ Q.length <= 20000 := by
 have hlf : dR (aH R) [] < R.length + 1 := by
  have : dR (aH R) [] <= ((aH R).map (·.1)).length := qaw _ _;rw [qd, iY] at this;omega
 refine PCall.ofB (ACall.nil0 (ty := (30, 4)) (m := false) (wS R hR hl (R.length + 1) (by omega) [] nm 0 n f false true true true [] hlf (by simp; omega) (qj _) (qg _))) ?_;rintro r h' hr;rw [show bD (aH R) (R.length + 1) [] nm (([] : List GKey).map (·.2.2), 0) = cX (aH R) nm by unfold cX; rw [iY]; rfl] at hr;generalize cX (aH R) nm = X at hr ⊢;cases X with
 | ok w =>
   obtain ⟨nl, K, rfl, rfl, h1, h2, h3⟩ := hr;exact ⟨.agg [.sl nl false (K.map bC), .int .i64 w.2, .int .i64 0], rfl, nl, false, K, w.2, 0, rfl, ⟨rfl, h1⟩, by omega⟩
 | error e =>
   obtain ⟨t, rfl, rfl, rfl⟩ := hr;exact ⟨.agg [.sl true true [], .int .i64 0, .int .i64 (qz (qak t))], rfl, true, true, [], 0, _, rfl, ⟨rfl, (by intro h; cases h), rfl⟩, qj _⟩
theorem zdi (n f : Bool) (L : List GS) : PCall qa 16 [.sl n f (L.map aK)] fun v => ∃ (n f : Bool) (M : List GS), v = .sl n f (M.map aK) /\ M.length <= 12 /\ ∀ x ∈ M, bG x.2.2.key := by
 have ll : (L.map aK).length = L.length := qd _;refine zch _ _ _ (fun x _ s => ∃ (i : Nat) (M : List GS), x = i /\ i <= 12 /\ i <= L.length /\ s = M.map aK /\ M.length = i /\ ∀ x ∈ M, bG x.2.2.key) (fun x _ _ => 12 - x.toNat) ?_;unfold vU;rw [ll];refine ⟨⟨rfl, 0, [], rfl, by omega, qj _, rfl, rfl, fun x h => by cases h⟩, ?_⟩;rintro _ n' _ ⟨i, M, rfl, hi, hiL, rfl, hM, hK⟩;refine bJ (fun hc => ?_) (fun hc => ⟨_, _, M, rfl, by omega, hK⟩);simp only [qaa, aO] at hc;have h1 : i < L.length := by omega
 rw [qf, bX h1, cN (by omega)];refine ⟨b5 (l := L) iW (by omega) (by omega), _, rfl, _, rfl, _, rfl, _, _, _, rfl, _, rfl, _, rfl, ?_⟩;have sz : ∀ (e : List PV), e.length = 6 -> bM [e] 6 := fun e he x hx => by cases hx; exact he
 rw [gQ];refine bJ (fun h10 => ?_) (fun h10 => ?_)
 ·simp only [aO] at h10;refine ⟨⟨by unfold gE; simp; omega, qL _⟩, ⟨sz _ rfl, by rw [qd]; omega⟩, rfl, ⟨i + 1, M ++ [((L[i].1, L[i].2.1 && decide ((10 : Int) = (L[i].2.2.key.text.length : Int)), ⟨⟨L[i].2.2.key.kind, L[i].2.2.key.rune, L[i].2.2.key.mt, L[i].2.2.key.text.take 10⟩, L[i].2.2.call, L[i].2.2.name⟩) : GS)], rfl, by omega, h1, ?_, by simp [hM], fun q hq => ?_⟩, by dsimp only; omega⟩
  ·rw [qk]; simp only [qae, List.map_nil, aK, aE, List.map_take, List.drop_zero]
  ·rcases List.mem_append.1 hq with hq | hq
   ·exact hK q hq
   ·rw [List.mem_singleton.1 hq];show (L[i].2.2.key.text.take 10).length < 1000000;rw [qap]; omega
 ·simp only [aO] at h10;refine ⟨⟨sz _ rfl, by rw [qd]; omega⟩, rfl, ⟨i + 1, M ++ [L[i]], rfl, by omega, h1, by rw [qk]; rfl, by simp [hM], fun q hq => ?_⟩, by dsimp only; omega⟩;rcases List.mem_append.1 hq with hq | hq
  ·exact hK q hq
  ·rw [List.mem_singleton.1 hq];show L[i].2.2.key.text.length < 1000000;omega
theorem zdj (x : GS) : PCall qa 28 [.agg (aK x)] fun v => v = .agg (aK x) := by
 refine zcj _ _ _ _ _ _ _ _ ?_;unfold vW;rfl
theorem zdk (n f : Bool) (L : List GS) (hL : L.length <= 1000) : PCall qa 17 [.sl n f (L.map aK)] fun v => ∃ n f, v = .sl n f (L.map aK) := by
 have ll : (L.map aK).length = L.length := qd _;refine zci _ _ _ (fun x _ s => ∃ i : Nat, x = i /\ i <= L.length /\ s = (L.take i).map aK) (fun x _ _ => L.length - x.toNat) ?_;unfold vV;rw [ll];refine ⟨⟨rfl, 0, rfl, qj _, rfl⟩, ?_⟩;rintro _ n' _ ⟨i, rfl, hi, rfl⟩;refine bJ (fun hc => ?_) (fun hc => ?_)
 ·simp only [aO] at hc;have h1 : i < L.length := by omega
  rw [qf, bX h1, cN (by omega)];refine ⟨b5 (l := L) iW (by omega) (by omega), _, rfl, _, rfl, _, rfl, _, _, _, rfl, _, rfl, _, rfl, (zdj L[i]).mono ?_⟩;rintro _ rfl;refine ⟨_, rfl, rfl, _, rfl, _, rfl, _, rfl, _, _, _, rfl, _, rfl, _, rfl, ⟨fun e he => by cases he; rfl, by simp only [qd, qap]; omega⟩, rfl, ⟨i + 1, rfl, h1, by rw [qM h1, qk]; rfl⟩, by dsimp only; omega⟩
 ·simp only [aO] at hc;exact ⟨n', false, by rw [qad (by omega)]⟩
theorem zdl {B : GB} (hB : BkOK B) (hT : BTx B) {nm : Int} {y : GE} (hy : aM nm B = some y) : PCall qa 20 [.agg [.mp (aQ B)], .int .i32 nm] fun v => ∃ (n f : Bool) (L : List GS), v = .tup [.sl n f (L.map aK), .bool true] /\ L.map (·.2.2) = y.2.2.map (·.2.2) := by
 refine zcf _ _ ?_;unfold vS;refine ⟨mT _, fun v hv => ?_, fun hv => by rw [iV, hy] at hv; cases hv⟩;rw [iV, hy] at hv;cases hv;refine ⟨_, _, _, rfl, (qP y.1 y.2.1 y.2.2 (by have := hB _ (kL hy); dsimp only at this; omega) (hT _ (kL hy))).mono ?_⟩;rintro _ ⟨n, f, L, rfl, hL⟩;exact ⟨_, _, _, rfl, n, f, L, rfl, hL⟩
theorem zdm (n f n2 f2 : Bool) (A B : List GS) (h : A.map (·.2.2) = B.map (·.2.2)) (hk : ∀ x ∈ A, bG x.2.2.key) (hl : A.length < 100000) : PCall qa 21 [.sl n f (A.map aK), .sl n2 f2 (B.map aK)] fun v => v = .bool true := by
 have hlen : A.length = B.length := by have := congrArg qo h; simpa using this
 have la : (A.map aK).length = A.length := qd _;have lb : (B.map aK).length = B.length := qd _;refine zck _ _ _ _ _ _ (fun x => ∃ i : Nat, x = i /\ i <= A.length) (fun x => A.length - x.toNat) ?_;unfold vX;rw [la, lb, if_neg (by simp; omega)];refine ⟨⟨rfl, 0, rfl, qj _⟩, ?_⟩;rintro _ ⟨i, rfl, hi⟩;refine bJ (fun hc => ?_) (fun hc => rfl);simp only [aO] at hc;have h1 : i < A.length := by omega
 have h2 : i < B.length := by omega
 have e : A[i].2.2 = B[i].2.2 := by
  have := congrArg (fun l => l[i]?) h;simpa [h1, h2] using this
 rw [qf, bX h1, bX h2, cN (by omega)];have ia : aD (A.map aK) (i : Int) 6 := b5 (l := A) iW (by omega) (by omega);have ib : aD (B.map aK) (i : Int) 6 := b5 (l := B) iW (by omega) (by omega);have hkx : bG A[i].2.2.key := hk _ (ql h1);refine ⟨ia, _, rfl, ib, _, rfl, bU (by rw [e]; simp) ⟨ia, _, rfl, ib, _, rfl, bU (by rw [e]; simp) ⟨ia, _, rfl, _, rfl, _, rfl, _, _, _, rfl, ib, _, rfl, _, rfl, _, rfl, _, _, _, rfl, ?_⟩⟩⟩
 have V : PCall qa 15 [PV.sl false true [bC (A[i].1, A[i].2.1, A[i].2.2.key)], PV.sl false true [bC (B[i].1, B[i].2.1, B[i].2.2.key)]] fun v => v = .bool true :=
  qO false true false true [(A[i].1, A[i].2.1, A[i].2.2.key)] [(B[i].1, B[i].2.1, B[i].2.2.key)] (by simp [e]) (by intro x hx; rw [List.mem_singleton.1 hx]; exact hkx) (by simp)
 have W : ∀ v : PV, v = .bool true -> ∃ b4 : Bool, v = .bool b4 /\ if (!b4) = true then (PV.bool false = PV.bool true) else aU (m7 n f (A.map aK) n2 f2 (B.map aK) ((i + 1 : Nat) : Int)) /\ (∃ i_1 : Nat, ((i + 1 : Nat) : Int) = i_1 /\ i_1 <= A.length) /\ A.length - (((i + 1 : Nat) : Int)).toNat < A.length - ((i : Int)).toNat := by
  rintro _ rfl;exact ⟨_, rfl, bU (by simp) ⟨rfl, ⟨i + 1, rfl, h1⟩, by omega⟩⟩
 exact ⟨V.mono W, V.mono W⟩
def bO (nm : Int) (y : GE) : GB -> GB
 | [] => [(nm, y)]
 | (k, z) :: r => if nm < k then (nm, y) :: (k, z) :: r else if k = nm then (nm, y) :: r else (k, z) :: bO nm y r
def Asc (R : GB) : Prop := (R.map (·.1)).Pairwise (· < ·)
theorem Asc.tail {p : Int × GE} {R : GB} (h : Asc (p :: R)) : Asc R := (List.pairwise_cons.1 h).2
theorem Asc.lt {p : Int × GE} {R : GB} (h : Asc (p :: R)) : ∀ q ∈ R, p.1 < q.1 := fun q hq => (List.pairwise_cons.1 h).1 _ (qw hq)
theorem Asc.drop {R : GB} (h : Asc R) (i : Nat) : Asc (R.drop i) := by unfold Asc; rw [List.map_drop]; exact h.sublist (List.drop_sublist _ _)
theorem wT {nm : Int} {y : GE} : ∀ {R : GB}, (∀ q ∈ R, nm < q.1) -> bO nm y R = (nm, y) :: R
 | [], _ => rfl
 | (k, z) :: r, h => by rw [bO, if_pos (h _ qi)]
theorem nH {nm : Int} {y : GE} : ∀ {R : GB} {p : Int × GE}, p ∈ bO nm y R -> p = (nm, y) ∨ p ∈ R
 | [], p, h => .inl (List.mem_singleton.1 h)
 | (k, z) :: r, p, h => by
   rw [bO] at h;split at h
   ·rcases List.mem_cons.1 h with h | h
    ·exact .inl h
    ·exact .inr h
   ·split at h
    ·rcases List.mem_cons.1 h with h | h
     ·exact .inl h
     ·exact .inr (qh _ h)
    ·rcases List.mem_cons.1 h with h | h
     ·exact .inr (by rw [h]; exact qi)
     ·exact (nH h).imp id (qh _)
theorem wU {nm : Int} {y : GE} : ∀ {R : GB}, Asc R -> Asc (bO nm y R)
 | [], _ => List.pairwise_singleton _ _
 | (k, z) :: r, h => by
   rw [bO];split
   ·rename_i hlt;refine List.pairwise_cons.2 ⟨fun x hx => ?_, h⟩;obtain ⟨q, hq, rfl⟩ := List.mem_map.1 hx;rcases List.mem_cons.1 hq with rfl | hq
    ·exact hlt
    ·exact qbe hlt (h.lt q hq)
   ·split
    ·rename_i e; subst e; exact h
    ·refine List.pairwise_cons.2 ⟨fun x hx => ?_, wU h.tail⟩;obtain ⟨q, hq, rfl⟩ := List.mem_map.1 hx;rcases nH hq with rfl | hq
     ·show k < nm; omega
     ·exact h.lt q hq
theorem wV {nm : Int} {y : GE} (x : Int) : ∀ {R : GB}, aM x (bO nm y R) = if x = nm then some y else aM x R
 | [] => rfl
 | (k, z) :: r => by
   rw [bO];split
   ·rfl
   ·split
    ·rename_i e; subst e;simp only [aM];split <;> rfl
    ·rename_i h1 h2;simp only [aM];by_cases e : x = k
     ·rw [if_pos e, if_neg (by omega), if_pos e]
     ·rw [if_neg e, wV x, if_neg e]
theorem wW {nm : Int} {y : GE} : ∀ {R : GB}, (bO nm y R).length <= R.length + 1
 | [] => qg _
 | (k, z) :: r => by
   rw [bO];split
   ·exact qg _
   ·split
    ·simp
    ·have := wW (nm := nm) (y := y) (R := r);simpa using this
theorem Asc.get {R : GB} (h : Asc R) : ∀ {i : Nat} (hi : i < R.length), aM R[i].1 R = some R[i].2 := fun {i} hi => by
 induction R generalizing i with
 | nil => exact absurd hi (qai _)
 | cons p r ih =>
   obtain ⟨k, z⟩ := p;cases i with
   | zero => simp only [aM]; rw [if_pos (by simp)]; rfl
   | succ i =>
     have hi' : i < r.length := by simpa using hi
     have := h.lt _ (ql hi');simp only [aM, List.getElem_cons_succ];rw [if_neg (by dsimp only at this; omega)];exact ih h.tail hi'
theorem zdn (n f : Bool) (R : GB) (nm : Int) (n2 f2 : Bool) (L : List GS) (hR : Asc R) (hl : R.length < 100) (hL : L.length <= 1000) : PCall qa 18 [.sl n f (R.map bH), .int .i32 nm, .sl n2 f2 (L.map aK)] fun v => ∃ n f, v = .tup [.sl n f ((bO nm (n2, f2, L) R).map bH), .int .i64 0] := by
 have ll : (R.map bH).length = R.length := qd _;have lL : (L.map aK).length = L.length := qd _;refine zcm _ _ _ _ _ _ _ (fun b x _ s => ∃ (i : Nat) (S : GB), x = i /\ i <= R.length /\ s = S.map bH /\ (b = false -> S ++ bO nm (n2, f2, L) (R.drop i) = bO nm (n2, f2, L) R) /\ (b = true -> S ++ R.drop i = bO nm (n2, f2, L) R /\ ∀ p ∈ R.drop i, nm < p.1)) (fun _ x _ _ => R.length - x.toNat) ?_;unfold vZ;rw [ll, lL];have sz : ∀ (e : List PV), e.length = 2 -> bM [e] 2 := fun e he x hx => by cases hx; exact he
 refine (wP n f R nm (by omega)).mono fun v hv => ?_
 have hv : ∃ x : Int, v = .int .i64 x := by
  rcases hv with ⟨rfl, _⟩ | ⟨i, hi, rfl, _⟩
  ·exact ⟨_, rfl⟩
  ·exact ⟨_, rfl⟩
 obtain ⟨x0, rfl⟩ := hv;refine ⟨x0, rfl, bU (by simp only [aO]; omega) (bU (by simp only [qaa, aO]; omega) ?_)⟩;have tot : (bO nm (n2, f2, L) R).length <= 100 := by have := wW (nm := nm) (y := (n2, f2, L)) (R := R); omega
 refine ⟨⟨rfl, 0, [], rfl, qj _, rfl, fun _ => rfl, fun h => by cases h⟩, ?_⟩;rintro b _ n' _ ⟨i, S, rfl, hi, rfl, hF, hT⟩
 have hS : S.length <= 100 := by
  cases b with
  | false => have := congrArg qo (hF rfl); rw [qm] at this; omega
  | true => have := congrArg qo (hT rfl).1; rw [qm] at this; omega
 have lS : (S.map bH).length = S.length := qd _;refine bJ (fun hc => ?_) (fun hc => ?_)
 ·simp only [aO] at hc;have h1 : i < R.length := by omega
  have hd : R.drop i = R[i] :: R.drop (i + 1) := qv h1
  have hlow : ∀ p ∈ R.drop (i + 1), R[i].1 < p.1 := by
   have := hR.drop i;rw [hd] at this;exact this.lt
  rw [qf, bX h1, cN (by omega)];have ix : aD (R.map bH) (i : Int) 2 := b5 (l := R) gV (by omega) (by omega);rw [hd] at hF hT;refine ⟨ix, R[i].1, rfl, bJ (fun hg => ?_) (fun hg => ?_)⟩
  ·simp only [qaa, aO, Bool.not_eq_true'] at hg;obtain ⟨hg, rfl⟩ := hg;refine ⟨⟨sz _ rfl, by omega⟩, ix, R[i].1, rfl, bU (by simp only [beq_iff_eq]; omega) ⟨ix, _, rfl, _, _, _, rfl, ⟨sz _ rfl, by rw [qm, lS]; simp; omega⟩, rfl, ⟨i + 1, S ++ [(nm, n2, f2, L)] ++ [R[i]], rfl, h1, by rw [qk, qk]; rfl, fun h => (by cases h), fun _ => ⟨?_, fun p hp => qbe hg (hlow p hp)⟩⟩, by dsimp only; omega⟩⟩;rw [<- hF rfl, show bO nm (n2, f2, L) (R[i] :: R.drop (i + 1)) = (nm, n2, f2, L) :: R[i] :: R.drop (i + 1) from wT fun q hq => ?_]
   ·simp
   ·rcases List.mem_cons.1 hq with rfl | hq
    ·exact hg
    ·exact qbe hg (hlow q hq)
  ·refine ⟨ix, R[i].1, rfl, bJ (fun he => ?_) (fun he => ?_)⟩
   ·simp only [beq_iff_eq] at he;cases b with
    | true => have := (hT rfl).2 _ qi; omega
    | false =>
      refine ⟨rfl, ⟨i + 1, S, rfl, h1, rfl, fun _ => ?_, fun h => by cases h⟩, by dsimp only; omega⟩;rw [<- hF rfl, wT (R := R.drop (i + 1)) (fun q hq => he ▸ hlow q hq)];generalize R[i] = p at he;obtain ⟨k, z⟩ := p;simp only at he;rw [bO, if_neg (by omega), if_pos he]
   ·simp only [beq_iff_eq] at he;refine ⟨ix, _, rfl, _, _, _, rfl, ⟨sz _ rfl, by omega⟩, rfl, ⟨i + 1, S ++ [R[i]], rfl, h1, by rw [qk]; rfl, fun hb => ?_, fun hb => ⟨?_, fun p hp => (hT hb).2 p (qh _ hp)⟩⟩, by dsimp only; omega⟩
    ·subst hb;rw [<- hF rfl];simp only [Bool.not_false, Bool.and_true, aO] at hg;generalize R[i] = p at he hg;obtain ⟨k, z⟩ := p;simp only at he hg;rw [bO, if_neg (by omega), if_neg he]; simp
    ·rw [<- (hT hb).1]; simp
 ·simp only [aO] at hc;have hd : R.drop i = [] := qx (by omega);rw [hd] at hF hT;cases b with
  | false =>
    refine mS rfl ⟨⟨sz _ rfl, by omega⟩, n' && false, false, ?_⟩;rw [<- hF rfl, qk]; rfl
  | true =>
    refine bU (by simp) ⟨n', false, ?_⟩;rw [<- (hT rfl).1, List.append_nil]
end Go.Eng
namespace Go.Eng
open Go Go.Proofs
def rA (n f : Bool) (es : LL) (n4 f4 : Bool) (s4 : LL) (x5 : Int) (h0_0 : PV) : Env × Hp := ([(0, LV.pv (PV.sl n f es)), (3, LV.box 0 0), (4, .pv (.sl n4 f4 s4)), (5, Y6 x5)], [.box [.pv h0_0]])
def gX (n f : Bool) (es : LL) (n4 f4 : Bool) (s4 : LL) (x5 : Int) (n11 f11 : Bool) (s11 : LL) (x12 : Int) (h0_0 : PV) : Env × Hp := ([(0, LV.pv (PV.sl n f es)), (3, LV.box 0 0), (4, .pv (.sl n4 f4 s4)), (5, Y6 x5), (11, .pv (.sl n11 f11 s11)), (12, Y6 x12)], [.box [.pv h0_0]])
def rC  (n4 f4 : Bool) (s4 : LL) (x15 x16 : Int) (h0_0 : PV) : Env × Hp := ([(3, LV.box 0 0), (4, .pv (.sl n4 f4 s4)), (15, Y6 x15), (16, Y6 x16)], [.box [.pv h0_0]])
def rD  (n4 f4 : Bool) (s4 : LL) (x17 : Int) (h0_0 : PV) : Env × Hp := ([(3, LV.box 0 0), (4, .pv (.sl n4 f4 s4)), (17, Y6 x17)], [.box [.pv h0_0]])
section
variable (n f : Bool) (es : LL) (J : Bool -> Bool -> LL -> Int -> PV -> Prop) (μ : Bool -> Bool -> LL -> Int -> PV -> Nat) (J2 : Bool -> Bool -> LL -> Int -> Bool -> Bool -> LL -> Int -> PV -> Bool -> Bool -> LL -> Int -> Bool -> Bool -> LL -> Int -> PV -> Prop) (μ2 : Bool -> Bool -> LL -> Int -> Bool -> Bool -> LL -> Int -> PV -> Nat) (J3 : Bool -> Bool -> LL -> Int -> Int -> PV -> Prop) (μ3 : Bool -> Bool -> LL -> Int -> Int -> PV -> Nat) (J4 : Bool -> Bool -> LL -> Int -> PV -> Prop) (μ4 : Bool -> Bool -> LL -> Int -> PV -> Nat)
def wX (R : PV -> Prop) : Prop :=
 (aU (rA n f es true true [] (0 : Int) PV.nilm) /\ J true true [] (0 : Int) PV.nilm) /\ ∀ (n4 f4 : Bool) (s4 : LL) (x5 : Int) (h0_0 : PV), J n4 f4 s4 x5 h0_0 ->
 let K4 := fun (y0_ y1_ : Bool) (y2_ : LL) (y3_ : Int) (y4_ : PV) => aU (rA n f es y0_ y1_ y2_ y3_ y4_) /\ J y0_ y1_ y2_ y3_ y4_ /\ μ y0_ y1_ y2_ y3_ y4_ < μ n4 f4 s4 x5 h0_0; if (decide (x5 < (↑es.length : Int)) && decide (x5 <
  8)) = true then aD es x5 2 /\ ∃ n1 f1 es1, (qc 1 (es.getD x5.toNat [])).head? = some (PV.sl n1 f1 es1) /\ PCall qa 16 [PV.sl n1 f1 es1] fun v => ∃ n2 f2, ∃ (es2 :
  LL), v = PV.sl n2 f2 es2 /\ aD es x5 2 /\ ∃ n3, (qc 0 (es.getD x5.toNat [])).head? = some (Z3 n3) /\ (PCall qa 17 [PV.sl n2 f2 es2] fun v1 => ∃ n5 f3 es3, v1 = PV.sl n5 f3 es3 /\
  (ACall qa 7 [LV.pv (PV.agg [h0_0]), LV.pv (Z3 n3), LV.pv (PV.sl n5 f3 es3)] [] fun (r : LV) (h' : Hp) => ∃ (t : List (PV × PV) × Int), (r = LV.pv (PV.tup [PV.agg [PV.mp t.fst], Z6 t.2]) /\ h' = []) /\ True /\
 let V1 := aD es x5 2 /\ ∃ n6, (qc 0 (es.getD x5.toNat [])).head? = some (Z3 n6) /\ ACall qa 18 [LV.pv (PV.sl n4 f4 s4), LV.pv (Z3 n6), LV.pv (PV.sl n2 f2 es2)] [] fun (r1 : LV) (h'1 : Hp) => ∃ (t1 : Bool × Bool × LL ×
  Int), (r1 = LV.pv (PV.tup [PV.sl t1.fst t1.snd.fst t1.snd.snd.fst, Z6 t1.snd.snd.2]) /\ h'1 = []) /\ True /\ PCall qa 19 [PV.agg [PV.mp t.fst]] fun v2 => ∃ n7 f5 es4, v2 = PV.sl n7 f5 es4 /\ if (t.2
  != t1.snd.snd.2 || (↑es4.length : Int) != (↑t1.snd.snd.fst.length : Int)) = true then R (Zb false) else (aU (gX n f es t1.fst t1.snd.fst t1.snd.snd.fst x5 n7 f5 es4 (0 : Int) (PV.mp t.fst)) /\ J2 t1.fst t1.snd.fst t1.snd.snd.fst x5
  n7 f5 es4 (0 : Int) (PV.mp t.fst) t1.fst t1.snd.fst t1.snd.snd.fst x5 n7 f5 es4 (0 : Int) (PV.mp t.fst)) /\ ∀ (n41 f41 : Bool) (s41 : LL) (x51 : Int) (n11 f11 : Bool) (s11 : LL) (x12 : Int) (h0_01 : PV), J2 t1.fst t1.snd.fst
  t1.snd.snd.fst x5 n7 f5 es4 (0 : Int) (PV.mp t.fst) n41 f41 s41 x51 n11 f11 s11 x12 h0_01 -> if decide (x12 < (↑s41.length : Int)) = true then aD s41 x12 2 /\ ∃ n8, (qc 0 (s41.getD x12.toNat [])).head? = some (Z3 n8) /\
  ACall qa 20 [LV.pv (PV.agg [h0_01]), LV.pv (Z3 n8)] [] fun (r2 : LV) (h'2 : Hp) => ∃ (t2 : Bool × Bool × LL × Bool), (r2 = LV.pv (PV.tup [PV.sl t2.fst t2.snd.fst t2.snd.snd.fst, Zb t2.snd.snd.snd]) /\ h'2 = []) /\ True /\ aD s11 x12
  1 /\ ∃ n9, (s11.getD x12.toNat []).head? = some (Z3 n9) /\ aD s41 x12 2 /\ ∃ n10, (qc 0 (s41.getD x12.toNat [])).head? = some (Z3 n10) /\ if (n9 != n10 || !t2.snd.snd.snd) = true then R (Zb false) else aD s41 x12
  2 /\ ∃ n12 f6 es5, (qc 1 (s41.getD x12.toNat [])).head? = some (PV.sl n12 f6 es5) /\ PCall qa 21 [PV.sl t2.fst t2.snd.fst t2.snd.snd.fst, PV.sl n12 f6 es5] fun v3 => ∃ b, v3 = Zb b
  /\ if (!b) = true then R (Zb false) else aU (gX n f es n41 f41 s41 x51 n11 f11 s11 (i64.wrap (x12 + 1)) h0_01) /\ J2 t1.fst t1.snd.fst t1.snd.snd.fst x5 n7 f5 es4 (0 : Int) (PV.mp t.fst) n41 f41 s41 x51 n11 f11 s11
  (i64.wrap (x12 + 1)) h0_01 /\ μ2 n41 f41 s41 x51 n11 f11 s11 (i64.wrap (x12 + 1)) h0_01 < μ2 n41 f41 s41 x51 n11 f11 s11 x12 h0_01 else K4 n41 f41 s41 (i64.wrap (x51 + 1)) h0_01; V1 /\ V1 /\ V1) /\ ACall qa 7
  [LV.pv (PV.agg [h0_0]), LV.pv (Z3 n3), LV.pv (PV.sl n5 f3 es3)] [] fun (r : LV) (h' : Hp) => ∃ (t : List (PV × PV) × Int), (r = LV.pv (PV.tup [PV.agg [PV.mp t.fst], Z6 t.2]) /\ h' = []) /\ True /\
 let V2 := aD es x5 2 /\ ∃ n6, (qc 0 (es.getD x5.toNat [])).head? = some (Z3 n6) /\ ACall qa 18 [LV.pv (PV.sl n4 f4 s4), LV.pv (Z3 n6), LV.pv (PV.sl n2 f2 es2)] [] fun (r1 : LV) (h'1 : Hp) => ∃ (t1 : Bool × Bool × LL ×
  Int), (r1 = LV.pv (PV.tup [PV.sl t1.fst t1.snd.fst t1.snd.snd.fst, Z6 t1.snd.snd.2]) /\ h'1 = []) /\ True /\ PCall qa 19 [PV.agg [PV.mp t.fst]] fun v2 => ∃ n7 f5 es4, v2 = PV.sl n7 f5 es4 /\ if (t.2
  != t1.snd.snd.2 || (↑es4.length : Int) != (↑t1.snd.snd.fst.length : Int)) = true then R (Zb false) else (aU (gX n f es t1.fst t1.snd.fst t1.snd.snd.fst x5 n7 f5 es4 (0 : Int) (PV.mp t.fst)) /\ J2 t1.fst t1.snd.fst t1.snd.snd.fst x5
  n7 f5 es4 (0 : Int) (PV.mp t.fst) t1.fst t1.snd.fst t1.snd.snd.fst x5 n7 f5 es4 (0 : Int) (PV.mp t.fst)) /\ ∀ (n41 f41 : Bool) (s41 : LL) (x51 : Int) (n11 f11 : Bool) (s11 : LL) (x12 : Int) (h0_01 : PV), J2 t1.fst t1.snd.fst
  t1.snd.snd.fst x5 n7 f5 es4 (0 : Int) (PV.mp t.fst) n41 f41 s41 x51 n11 f11 s11 x12 h0_01 -> if decide (x12 < (↑s41.length : Int)) = true then aD s41 x12 2 /\ ∃ n8, (qc 0 (s41.getD x12.toNat [])).head? = some (Z3 n8) /\
  ACall qa 20 [LV.pv (PV.agg [h0_01]), LV.pv (Z3 n8)] [] fun (r2 : LV) (h'2 : Hp) => ∃ (t2 : Bool × Bool × LL × Bool), (r2 = LV.pv (PV.tup [PV.sl t2.fst t2.snd.fst t2.snd.snd.fst, Zb t2.snd.snd.snd]) /\ h'2 = []) /\ True /\ aD s11 x12
  1 /\ ∃ n9, (s11.getD x12.toNat []).head? = some (Z3 n9) /\ aD s41 x12 2 /\ ∃ n10, (qc 0 (s41.getD x12.toNat [])).head? = some (Z3 n10) /\ if (n9 != n10 || !t2.snd.snd.snd) = true then R (Zb false) else aD s41 x12
  2 /\ ∃ n12 f6 es5, (qc 1 (s41.getD x12.toNat [])).head? = some (PV.sl n12 f6 es5) /\ PCall qa 21 [PV.sl t2.fst t2.snd.fst t2.snd.snd.fst, PV.sl n12 f6 es5] fun v3 => ∃ b, v3 = Zb b
  /\ if (!b) = true then R (Zb false) else aU (gX n f es n41 f41 s41 x51 n11 f11 s11 (i64.wrap (x12 + 1)) h0_01) /\ J2 t1.fst t1.snd.fst t1.snd.snd.fst x5 n7 f5 es4 (0 : Int) (PV.mp t.fst) n41 f41 s41 x51 n11 f11 s11
  (i64.wrap (x12 + 1)) h0_01 /\ μ2 n41 f41 s41 x51 n11 f11 s11 (i64.wrap (x12 + 1)) h0_01 < μ2 n41 f41 s41 x51 n11 f11 s11 x12 h0_01 else K4 n41 f41 s41 (i64.wrap (x51 + 1)) h0_01; V2 /\ V2) /\ PCall qa 17 [PV.sl
  n2 f2 es2] fun v1 => ∃ n5 f3 es3, v1 = PV.sl n5 f3 es3 /\ ACall qa 7 [LV.pv (PV.agg [h0_0]), LV.pv (Z3 n3), LV.pv (PV.sl n5 f3 es3)] [] fun (r : LV) (h' : Hp) => ∃ (t : List (PV × PV) × Int), (r =
  LV.pv (PV.tup [PV.agg [PV.mp t.fst], Z6 t.2]) /\ h' = []) /\ True /\
 let V3 := aD es x5 2 /\ ∃ n6, (qc 0 (es.getD x5.toNat [])).head? = some (Z3 n6) /\ ACall qa 18 [LV.pv (PV.sl n4 f4 s4), LV.pv (Z3 n6), LV.pv (PV.sl n2 f2 es2)] [] fun (r1 : LV) (h'1 : Hp) => ∃ (t1 : Bool × Bool × LL ×
  Int), (r1 = LV.pv (PV.tup [PV.sl t1.fst t1.snd.fst t1.snd.snd.fst, Z6 t1.snd.snd.2]) /\ h'1 = []) /\ True /\ PCall qa 19 [PV.agg [PV.mp t.fst]] fun v2 => ∃ n7 f5 es4, v2 = PV.sl n7 f5 es4 /\ if (t.2
  != t1.snd.snd.2 || (↑es4.length : Int) != (↑t1.snd.snd.fst.length : Int)) = true then R (Zb false) else (aU (gX n f es t1.fst t1.snd.fst t1.snd.snd.fst x5 n7 f5 es4 (0 : Int) (PV.mp t.fst)) /\ J2 t1.fst t1.snd.fst t1.snd.snd.fst x5
  n7 f5 es4 (0 : Int) (PV.mp t.fst) t1.fst t1.snd.fst t1.snd.snd.fst x5 n7 f5 es4 (0 : Int) (PV.mp t.fst)) /\ ∀ (n41 f41 : Bool) (s41 : LL) (x51 : Int) (n11 f11 : Bool) (s11 : LL) (x12 : Int) (h0_01 : PV), J2 t1.fst t1.snd.fst
  t1.snd.snd.fst x5 n7 f5 es4 (0 : Int) (PV.mp t.fst) n41 f41 s41 x51 n11 f11 s11 x12 h0_01 -> if decide (x12 < (↑s41.length : Int)) = true then aD s41 x12 2 /\ ∃ n8, (qc 0 (s41.getD x12.toNat [])).head? = some (Z3 n8) /\
  ACall qa 20 [LV.pv (PV.agg [h0_01]), LV.pv (Z3 n8)] [] fun (r2 : LV) (h'2 : Hp) => ∃ (t2 : Bool × Bool × LL × Bool), (r2 = LV.pv (PV.tup [PV.sl t2.fst t2.snd.fst t2.snd.snd.fst, Zb t2.snd.snd.snd]) /\ h'2 = []) /\ True /\ aD s11 x12
  1 /\ ∃ n9, (s11.getD x12.toNat []).head? = some (Z3 n9) /\ aD s41 x12 2 /\ ∃ n10, (qc 0 (s41.getD x12.toNat [])).head? = some (Z3 n10) /\ if (n9 != n10 || !t2.snd.snd.snd) = true then R (Zb false) else aD s41 x12
  2 /\ ∃ n12 f6 es5, (qc 1 (s41.getD x12.toNat [])).head? = some (PV.sl n12 f6 es5) /\ PCall qa 21 [PV.sl t2.fst t2.snd.fst t2.snd.snd.fst, PV.sl n12 f6 es5] fun v3 => ∃ b, v3 = Zb b
  /\ if (!b) = true then R (Zb false) else aU (gX n f es n41 f41 s41 x51 n11 f11 s11 (i64.wrap (x12 + 1)) h0_01) /\ J2 t1.fst t1.snd.fst t1.snd.snd.fst x5 n7 f5 es4 (0 : Int) (PV.mp t.fst) n41 f41 s41 x51 n11 f11 s11
  (i64.wrap (x12 + 1)) h0_01 /\ μ2 n41 f41 s41 x51 n11 f11 s11 (i64.wrap (x12 + 1)) h0_01 < μ2 n41 f41 s41 x51 n11 f11 s11 x12 h0_01 else K4 n41 f41 s41 (i64.wrap (x51 + 1)) h0_01; V3 /\ V3 else (aU (rC n4 f4 s4
  (0 : Int) (0 : Int) h0_0) /\ J3 n4 f4 s4 (0 : Int) (0 : Int) h0_0) /\ ∀ (n41 f41 : Bool) (s41 : LL) (x15 x16 : Int) (h0_01 : PV), J3 n41 f41 s41 x15 x16 h0_01 -> if decide (x16 < (↑s41.length : Int)) = true then aD s41 x16 2 /\ ∃ (n1 :
  Bool), ∃ f1 es1, (qc 1 (s41.getD x16.toNat [])).head? = some (PV.sl n1 f1 es1) /\ aU (rC n41 f41 s41 (i64.wrap (x15 + (↑es1.length : Int))) (i64.wrap (x16 + 1)) h0_01) /\ J3 n41 f41 s41
  (i64.wrap (x15 + (↑es1.length : Int))) (i64.wrap (x16 + 1)) h0_01 /\ μ3 n41 f41 s41 (i64.wrap (x15 + (↑es1.length : Int))) (i64.wrap (x16 + 1)) h0_01 < μ3 n41 f41 s41 x15 x16 h0_01 else if decide (x15 > 40)
  = true then PCall qa 9 [] fun v => ∃ b, v = Zb b /\ R (Zb b) else (aU (rD n41 f41 s41 (0 : Int) h0_01) /\ J4 n41 f41 s41 (0 : Int) h0_01) /\ ∀ (n42 f42 : Bool) (s42 : LL) (x17 : Int) (h0_02 : PV), J4 n42 f42 s42
  x17 h0_02 -> if decide (x17 < (↑s42.length : Int)) = true then aD s42 x17 2 /\ ∃ n1, (qc 0 (s42.getD x17.toNat [])).head? = some (Z3 n1) /\ ACall qa 8 [LV.pv (PV.agg [h0_02]), LV.pv (Z3 n1)] [] fun (r : LV) (h' : Hp)
  => ∃ (t : Bool × Bool × LL × Int), (r = LV.pv (PV.tup [PV.sl t.fst t.snd.fst t.snd.snd.fst, Z6 t.snd.snd.2]) /\ h' = []) /\ True /\ aD s42 x17 2 /\ ∃ n2, (qc 0 (s42.getD x17.toNat [])).head? = some (Z3 n2) /\ PCall qa
  22 [PV.sl n42 f42 s42, Z3 n2, PV.agg [PV.sl true true [], Z6 0, Z6 0], PV.sl true true []] fun v => ∃ cs, v = PV.agg cs /\ cs.length = 3 /\ ∃ n3 f1 es1, cs.head? = some (PV.sl n3 f1 es1) /\ ∃
  (n5 : Int), cs.tail.head? = some (Z6 n5) /\ ∃ n6, cs.tail.tail.head? = some (Z6 n6) /\ PCall qa 15 [PV.sl t.fst t.snd.fst t.snd.snd.fst, PV.sl n3 f1 es1] fun v1 => ∃ b, v1 = Zb b /\ if (!b) = true then R (Zb
  false) else if (t.snd.snd.2 != n6) = true then R (Zb false) else aU (rD n42 f42 s42 (i64.wrap (x17 + 1)) h0_02) /\ J4 n42 f42 s42 (i64.wrap (x17 + 1)) h0_02 /\ μ4 n42 f42 s42 (i64.wrap (x17 + 1)) h0_02 < μ4
  n42 f42 s42 x17 h0_02 else PCall qa 9 [] fun v => ∃ b, v = Zb b /\ R (Zb b)
theorem zdo {R : PV -> Prop} (h : wX n f es J μ J2 μ2 J3 μ3 J4 μ4 R) : PCall qa 5 [.sl n f es] R :=
 PCall.wz Try.func5 (fun zz_ => match zz_ with | 7 => some ⟨List (PV × PV) × Int, fun _ hs t => (.pv (.tup [.agg [.mp t.1], .int .i64 t.2]), hs), none⟩ | 8 => some ⟨Bool × Bool × LL × Int, fun _ _ t => (.pv (.tup [.sl t.1 t.2.1 t.2.2.1, .int .i64 t.2.2.2]), []), none⟩ | 12 => some ⟨Bool × Bool × Bool × LL × Bool, fun _ _ t => (.pv (.tup [.agg [.bool t.1, .sl t.2.1 t.2.2.1 t.2.2.2.1], .bool t.2.2.2.2]), []), none⟩ | 14 => some ⟨Bool × Bool × LL, fun _ _ t => (.pv (.tup [.agg [.bool false, .sl true true []], .sl t.1 t.2.1 t.2.2]), []), none⟩ | 13 => some ⟨Unit, fun _ _ _ => (.pv (.agg [.bool true, .sl true true []]), []), none⟩ | 20 => some ⟨Bool × Bool × LL × Bool, fun _ _ t => (.pv (.tup [.sl t.1 t.2.1 t.2.2.1, .bool t.2.2.2]), []), none⟩ | 18 => some ⟨Bool × Bool × LL × Int, fun _ _ t => (.pv (.tup [.sl t.1 t.2.1 t.2.2.1, .int .i64 t.2.2.2]), []), none⟩ | _ => none) [0, 2, 3, 4, 5, 6, 7, 8, 9, 10, 11, 12, 13, 14, 15, 16, 17, 18, 19, 20, 28, 73, 77, 113, 117, 129, 134, 165] (lkz [(4, (c4 cz5 (rA n f es) J μ (fun e h => (gN e 4, gF e 4, gS e 4, gI e 5, hP h 0 0)) [] [0, 3, 4, 5] [])), (15, (mQz cz9 (gX n f es) J2 μ2 (fun e h => (gN e 4, gF e 4, gS e 4, gI e 5, gN e 11, gF e 11, gS e 11, gI e 12, hP h 0 0)) [] [0, 3, 4, 5, 11, 12] [])), (22, (c4 cz6 rC J3 μ3 (fun e h => (gN e 4, gF e 4, gS e 4, gI e 15, gI e 16, hP h 0 0)) [] [3, 4, 15, 16] [])), (28, (c4 cz5 rD J4 μ4 (fun e h => (gN e 4, gF e 4, gS e 4, gI e 17, hP h 0 0)) [] [3, 4, 17] []))]) h
end
end Go.Eng
namespace Go.Eng
open Go Go.Proofs Go.Eng.Rows
structure BookE (B R : GB) : Prop where
 asc : Asc R
 bk : BkOK R
 tx : BTx R
 bB : BkOK B
 tB : BTx B
 nd : (B.map (·.1)).Nodup
 find : ∀ x, bF (aH B) x = bF (aH R) x
def nJ (p : PV) (R : GB) : Prop := (p = .nilm /\ R = []) ∨ ∃ B : GB, p = .mp (aQ B) /\ BookE B R /\ B.length = R.length
theorem wY {B : GB} {x : Int} : x ∈ B.map (·.1) ↔ (bF (aH B) x).isSome = true := by
 rw [cT];cases h : aM x B with
 | none => simpa using pZ.1 h
 | some y =>
   simp only [qah, Option.isSome_some, iff_true];exact List.mem_map.2 ⟨_, kL h, rfl⟩
theorem BookE.mem {B R : GB} (h : BookE B R) (x : Int) : x ∈ B.map (·.1) ↔ x ∈ R.map (·.1) := by rw [wY, wY, h.find]
theorem zdp {nm : Int} {y : GE} {B : GB} (h : (B.map (·.1)).Nodup) : ((aL nm y B).map (·.1)).Nodup := by
 rw [kH];split
 ·exact h
 ·rename_i hn;rw [List.nodup_append];refine ⟨h, by simp, fun a ha b hb => ?_⟩;rw [List.mem_singleton.1 hb];intro e; subst e; exact hn ha
theorem zdr {nm : Int} {y : GE} {B : GB} : (aL nm y B).length <= B.length + 1 := by
 have := congrArg qo (kH nm y B);rw [qd] at this;rw [this];split <;> simp
theorem BookE.put {B R : GB} (h : BookE B R) {nm : Int} {y z : GE} (hyz : y.2.2.map (·.2.2) = z.2.2.map (·.2.2)) (hl : z.2.2.length <= 1000) (hz : ∀ x ∈ z.2.2, bG x.2.2.key) : BookE (aL nm y B) (bO nm z R) where
 asc := wU h.asc
 bk := fun p hp => (nH hp).elim (fun e => by rw [e]; exact hl) (h.bk p)
 tx := fun p hp => (nH hp).elim (fun e => by rw [e]; exact hz) (h.tx p)
 bB := h.bB.set (by have := congrArg qo hyz; simp only [qd] at this; omega)
 tB := h.tB.set (m8 (f := fun x : GS => x.2.2) (P := fun s => bG s.key) hyz hz)
 nd := zdp h.nd
 find := fun x => by
  rw [gW, h.find x, cT R, cT (bO nm z R), wV];split
  ·rw [hyz]; rfl
  ·rfl
theorem BookE.nil : BookE [] [] := ⟨List.Pairwise.nil, fun p h => (by cases h), fun p h => (by cases h), fun p h => (by cases h), fun p h => (by cases h), List.nodup_nil, fun x => rfl⟩
theorem zds {R : GB} {j : Nat} (h : j < R.length) : (R.map (·.1))[j]'(by simpa using h) = R[j].1 := by simp
theorem zdt {p : Prop} (h : p) : p /\ p /\ p := ⟨h, h, h⟩
theorem zdu {p : Prop} (h : p) : p /\ p := ⟨h, h⟩
theorem zdv {p : PV} {R : GB} (h : nJ p R) (hR : R.length < 100) (nm : Int) (n f : Bool) (L : List GS) (hl : L.length <= 1000) (hk : ∀ x ∈ L, bG x.2.2.key) (z : GE) (hz : z.2.2 = L) : PCall qa 7 [.agg [p], .int .i32 nm, .sl n f (L.map aK)] fun v => ∃ B : GB, v = .tup [.agg [.mp (aQ B)], .int .i64 0] /\ BookE B (bO nm z R) /\ B.length <= R.length + 1 := by
 subst hz;rcases h with ⟨rfl, rfl⟩ | ⟨B, rfl, hB, hlen⟩
 ·refine (wA nm n f z.2.2 hl hk).mono ?_;rintro _ ⟨y, rfl, hy⟩;exact ⟨_, rfl, BookE.nil.put hy hl hk, by simp [kM (B := []) (nm := nm) (y := y) rfl]⟩
 ·refine (qR B nm n f z.2.2 hl hk (.inr (by omega))).mono ?_;rintro _ ⟨y, rfl, hy⟩;exact ⟨_, rfl, hB.put hy hl hk, by have := zdr (nm := nm) (y := y) (B := B); omega⟩
theorem zdw (n f : Bool) (E : GB) : PCall qa 5 [.sl n f (E.map bH)] fun v => v = .bool true := by
 have lE : (E.map bH).length = E.length := qd _
 refine zdo _ _ _
  (fun _ _ s4 x5 h0 => ∃ (i : Nat) (R : GB), s4 = R.map bH /\ x5 = i /\ i <= 8 /\ R.length <= i /\ Asc R /\ BkOK R /\ BTx R /\ nJ h0 R) (fun _ _ _ x5 _ => 8 - x5.toNat)
  (fun _ _ _ y _ _ _ _ _ _ _ s4 x5 _ _ s11 x12 h0 => x5 = y /\ ∃ (i j : Nat) (B R : GB), s4 = R.map bH /\ x5 = i /\ i < 8 /\ R.length <= i + 1 /\ s11 = aE (R.map (·.1)) /\ x12 = j /\ j <= R.length /\ h0 = .mp (aQ B) /\ BookE B R /\ B.length = R.length) (fun _ _ _ _ _ _ _ x12 _ => 100 - x12.toNat)
  (fun _ _ s4 _ x16 h0 => ∃ (j : Nat) (R : GB), s4 = R.map bH /\ x16 = j /\ j <= R.length /\ R.length <= 8 /\ Asc R /\ BkOK R /\ BTx R /\ nJ h0 R) (fun _ _ s4 _ x16 _ => s4.length - x16.toNat)
  (fun _ _ s4 x17 h0 => ∃ (j : Nat) (R : GB), s4 = R.map bH /\ x17 = j /\ j <= R.length /\ R.length <= 8 /\ Asc R /\ BkOK R /\ BTx R /\ nJ h0 R) (fun _ _ s4 x17 _ => s4.length - x17.toNat) ?_
 unfold wX;rw [lE];refine ⟨⟨rfl, 0, [], rfl, rfl, by omega, qg _, List.Pairwise.nil, fun p h => (by cases h), fun p h => (by cases h), .inl ⟨rfl, rfl⟩⟩, ?_⟩;rintro n4 f4 _ _ h0 ⟨i, R, rfl, rfl, hi, hRi, hasc, hbk, htx, hP⟩;refine bJ (fun hc => ?_) (fun _ => ?_)
 ·simp only [qaa, aO] at hc;have h1 : i < E.length := by omega
  have iE : aD (E.map bH) (i : Int) 2 := b5 (l := E) gV (by omega) (by omega);rw [qf, bX h1];refine ⟨iE, _, _, _, rfl, (zdi _ _ _).mono ?_⟩;rintro _ ⟨n2, f2, M, rfl, hM, hMk⟩;have S := zdk n2 f2 M (by omega);have T := fun n5 f3 => (zdv hP (by omega) E[i].1 n5 f3 M (by omega) hMk (n2, f2, M) rfl).acall;refine ⟨n2, f2, _, rfl, iE, E[i].1, rfl, ?_⟩;refine ⟨S.mono ?_, S.mono ?_⟩ <;> rintro _ ⟨n5, f3, rfl⟩;refine ⟨_, _, _, rfl, (T n5 f3).mono ?_, (T n5 f3).mono ?_⟩
  rotate_left 2
  refine ⟨_, _, _, rfl, (T n5 f3).mono ?_⟩
  all_goals
   rintro _ _ ⟨_, rfl, rfl, B, rfl, hB, hBl⟩;refine ⟨(_, _), ⟨rfl, rfl⟩, trivial, ?_⟩
   first | refine zdt ?_ | refine zdu ?_
   refine ⟨iE, E[i].1, rfl, ((zdn n4 f4 R E[i].1 n2 f2 M hasc (by omega) (by omega)).acall).mono ?_⟩;rintro _ _ ⟨_, rfl, rfl, n6, f6, rfl⟩;refine ⟨(_, _, _, _), ⟨rfl, rfl⟩, trivial, (zdc (B := B) (by omega) hB.nd).mono ?_⟩;rintro _ ⟨n7, l, rfl, hll, hlasc, hlmem⟩;have hl : l = (bO E[i].1 (n2, f2, M) R).map (·.1) := vG hlasc hB.asc fun x => (hlmem x).trans (hB.mem x);have hlen : B.length = (bO E[i].1 (n2, f2, M) R).length := by rw [<- hll, hl, qd]
   have hlr : (bO E[i].1 (n2, f2, M) R).length <= i + 1 := by omega
   subst hl;refine ⟨_, _, _, rfl, bU (by simp [gQ]) ⟨⟨rfl, rfl, i, 0, B, _, rfl, rfl, by omega, hlr, rfl, rfl, qj _, rfl, hB, hlen⟩, ?_⟩⟩;clear hB hBl hll hlasc hlmem hlen hlr;rintro n8 f8 _ _ n11 f11 _ _ _ ⟨rfl, i', j, B, R, rfl, he, hi8, hRl, rfl, rfl, hj, rfl, hB, hlen⟩;have ei : i = i' := by exact Int.ofNat.inj he
   subst ei;have lR : (R.map bH).length = R.length := qd _;rw [lR];refine bJ (fun hc2 => ?_) (fun hc2 => ?_)
   ·simp only [aO] at hc2;have h2 : j < R.length := by omega
    have iR : aD (R.map bH) (j : Int) 2 := b5 (l := R) gV (by omega) (by omega);have hg := hB.asc.get h2;have hf := hB.find R[j].1;rw [cT, cT, hg] at hf;cases hy : aM R[j].1 B with
    | none => rw [hy] at hf; cases hf
    | some y =>
      rw [hy] at hf;have hf : y.2.2.map (·.2.2) = R[j].2.2.2.map (·.2.2) := Option.some.inj hf;obtain ⟨g1, g2⟩ := wR (l := R.map (·.1)) (i := j) (by simpa using h2)
      rw [zds h2] at g2;rw [qf, bX h2, g2, cN (by omega)];refine ⟨iR, R[j].1, rfl, ((zdl hB.bB hB.tB hy).acall).mono ?_⟩;rintro _ _ ⟨_, rfl, rfl, n9, f9, L, rfl, hL⟩;have hLR := hL.trans hf;have hLl : L.length = R[j].2.2.2.length := by have := congrArg qo hLR; simpa using this
      have hb1 : R[j].2.2.2.length <= 1000 := hB.bk _ (ql h2);refine ⟨(_, _, _, _), ⟨rfl, rfl⟩, trivial, g1, R[j].1, rfl, iR, R[j].1, rfl, bU (by simp) ⟨iR, _, _, _, rfl, (zdm n9 f9 R[j].2.1 R[j].2.2.1 L R[j].2.2.2 hLR (m8 (f := fun x : GS => x.2.2) (P := fun s => bG s.key) hLR (hB.tx _ (ql h2))) (by omega)).mono ?_⟩⟩;rintro _ rfl;exact ⟨_, rfl, bU (by simp) ⟨rfl, ⟨rfl, i, j + 1, B, R, rfl, rfl, hi8, hRl, rfl, rfl, h2, rfl, hB, hlen⟩, by dsimp only; omega⟩⟩
   ·rw [cN (by omega)];exact ⟨rfl, ⟨i + 1, R, rfl, rfl, hi8, hRl, hB.asc, hB.bk, hB.tx, .inr ⟨B, rfl, hB, hlen⟩⟩, by dsimp only; omega⟩
 refine ⟨⟨rfl, 0, R, rfl, rfl, qj _, by omega, hasc, hbk, htx, hP⟩, ?_⟩;clear hasc hbk htx hP hRi hi;rintro n5 f5 _ x15 _ h1 ⟨j, R, rfl, rfl, hj, hR8, hasc, hbk, htx, hP⟩;have lR : (R.map bH).length = R.length := qd _;rw [lR];refine bJ (fun hc => ?_) (fun _ => ?_)
 ·simp only [aO] at hc;have h2 : j < R.length := by omega
  have iR : aD (R.map bH) (j : Int) 2 := b5 (l := R) gV (by omega) (by omega);rw [qf, bX h2, cN (by omega)];exact ⟨iR, _, _, _, rfl, rfl, ⟨j + 1, R, rfl, rfl, h2, hR8, hasc, hbk, htx, hP⟩, by dsimp only; omega⟩
 refine bJ (fun _ => ?_) (fun _ => ?_)
 ·refine awake46.mono ?_;rintro _ rfl;exact ⟨_, rfl, rfl⟩
 refine ⟨⟨rfl, 0, R, rfl, rfl, qj _, hR8, hasc, hbk, htx, hP⟩, ?_⟩;clear hasc hbk htx hP hR8 lR hj;rintro n6 f6 _ _ hq ⟨j, R, rfl, rfl, hj, hR8, hasc, hbk, htx, hP⟩;have lR : (R.map bH).length = R.length := qd _;rw [lR];refine bJ (fun hc => ?_) (fun _ => ?_)
 ·simp only [aO] at hc;have h2 : j < R.length := by omega
  have iR : aD (R.map bH) (j : Int) 2 := b5 (l := R) gV (by omega) (by omega);rcases hP with ⟨rfl, rfl⟩ | ⟨B, rfl, hB, hlen⟩
  ·exact absurd h2 (qai _)
  rw [qf, bX h2, cN (by omega)];refine ⟨iR, R[j].1, rfl, ((qV hB.bB hB.tB R[j].1).acall).mono ?_⟩;rintro _ _ ⟨_, rfl, rfl, n7, f7, Q, r, rfl, hr⟩;refine ⟨(_, _, _, _), ⟨rfl, rfl⟩, trivial, iR, R[j].1, rfl, (zdh n6 f6 R R[j].1 hbk (by omega)).mono ?_⟩;rintro _ ⟨n8, f8, K, st, e, rfl, he, hK⟩;rw [q9 hB.find (by rw [iY, iY, hlen])] at hr
  have key : r = e /\ Q.map (·.2.2) = K.map (·.2.2) /\ ∀ q ∈ Q, bG q.2.2 := by
   cases hx : cX (aH R) R[j].1 with
   | ok w =>
     rw [hx] at hr he;refine ⟨hr.1.trans he.1.symm, hr.2.trans he.2.symm, fun q hq => ?_⟩;refine qT (P := bG) hB.tx.find _ _ _ _ w hx (by simp) q.2.2 ?_;rw [<- hr.2]; exact qw hq
   | error z =>
     rw [hx] at hr he;obtain ⟨rfl, _, rfl⟩ := hr;obtain ⟨rfl, _, rfl⟩ := he;exact ⟨rfl, rfl, fun q h => by cases h⟩
  obtain ⟨rfl, hQK, hQk⟩ := key;refine ⟨_, rfl, rfl, _, _, _, rfl, _, rfl, _, rfl, (qO n7 f7 n8 f8 Q K hQK hQk (by have := congrArg qo hQK; simp only [qd] at this; omega)).mono ?_⟩;rintro _ rfl;exact ⟨_, rfl, bU (by simp) (bU (by simp) ⟨rfl, ⟨j + 1, R, rfl, rfl, h2, hR8, hasc, hbk, htx, .inr ⟨B, rfl, hB, hlen⟩⟩, by dsimp only; omega⟩)⟩
 ·refine awake46.mono ?_;rintro _ rfl;exact ⟨_, rfl, rfl⟩
structure GrowB (B : GB) (i : Nat) : Prop where
 bk : BkOK B
 tx : BTx B
 len : B.length = i
 zero : bF (aH B) 0 = some [eG kX]
 up : ∀ j : Nat, 1 <= j -> j < i -> bF (aH B) j = some [dE ((j - 1 : Nat) : Int), dE ((j - 1 : Nat) : Int)]
 no : ∀ x : Int, (i : Int) <= x -> bF (aH B) x = none
theorem zdx {B : GB} {x : Int} (h : bF (aH B) x = none) : aM x B = none := by
 rw [cT] at h;cases e : aM x B with
 | none => rfl
 | some y => rw [e] at h; cases h
theorem GrowB.more {B : GB} {i : Nat} (h : GrowB B i) (hi : 1 <= i) {y : GE} (hy : y.2.2.map (·.2.2) = [dE ((i - 1 : Nat) : Int), dE ((i - 1 : Nat) : Int)]) : GrowB (aL i y B) (i + 1) := by
 have hn := zdx (h.no i (qbh _));refine ⟨h.bk.set (by rw [nG hy]; simp), h.tx.set (nF hy (by intro x hx; simp at hx; subst hx; exact fT rfl)), by rw [kM hn, h.len], ?_, fun j h1 h2 => ?_, fun x hx => ?_⟩
 ·rw [gW, if_neg (by omega)]; exact h.zero
 ·rw [gW];by_cases e : j = i
  ·subst e; rw [if_pos rfl, hy]
  ·rw [if_neg (by omega)]; exact h.up j h1 (by omega)
 ·rw [gW, if_neg (by omega)]; exact h.no x (by omega)
theorem GrowB.grows {B : GB} {n : Nat} (h : GrowB B (n + 1)) : zbi (aH B) [kX] n := ⟨h.zero, fun i hi => ⟨_, _, h.up (i + 1) (by omega) (by omega), ⟨rfl, rfl⟩, ⟨rfl, rfl⟩⟩⟩
theorem zdy : Try.prog.underlying 3 = some (.int .i64) := by kernel_rfl
end Go.Eng
namespace Go.Eng
open Go Go.Proofs
end Go.Eng
namespace Go.Eng
open Go Go.Proofs Go.Eng.Rows
def KL (s : List (List PV)) (k : Nat) : Prop := ∃ A : List GKey, s = A.map bC /\ A.length <= k /\ ∀ q ∈ A, bG q.2.2
theorem KL.len {s : List (List PV)} {k : Nat} (h : KL s k) : s.length <= k := by obtain ⟨A, rfl, h1, _⟩ := h; simpa using h1
theorem nK : Try.prog.underlying 21 = some (.int .i32) /\ Try.prog.underlying 28 = some (.slice 21) /\ Try.prog.underlying 4 = some .bool /\ Try.prog.underlying 34 = some (.slice 30) /\ gR qa 30 = some [(3, 0, 1), (21, 1, 1), (4, 2, 1), (28, 3, 1)] /\ Try.prog.cellsOf 30 = 4 :=
 ⟨by kernel_rfl, by kernel_rfl, by kernel_rfl, by kernel_rfl, by kernel_rfl, by kernel_rfl⟩
theorem zdz {n : Nat} {ps : List PV} (h : bR qa (n + 3) 30 ps) : ∃ q : GKey, ps = bC q := by
 obtain ⟨u1, u2, u3, u4, u5, u6⟩ := nK;obtain ⟨h1, h2⟩ := pV u5 h;rw [u6] at h1
 match ps, h1 with
 | [a, b, c, d], _ =>
   obtain ⟨x, ea, _⟩ := kG zdy (h2 _ (.head _));obtain ⟨y, eb, _⟩ := kG u1 (h2 _ (.tail _ (.head _)));obtain ⟨z, ec⟩ := uW u3 (h2 _ (.tail _ (.tail _ (.head _))));obtain ⟨nl, l, ed, _⟩ := zau u2 u1 (h2 _ (.tail _ (.tail _ (.tail _ (.head _)))));simp at ea eb ec ed;subst ea; subst eb; subst ec; subst ed;exact ⟨(nl, false, ⟨x, y, z, l⟩), rfl⟩
theorem iZ : Try.prog.underlying 50 = some (.slice 54) /\ Try.prog.underlying 51 = some (.slice 75) /\ gR qa 54 = some [(21, 0, 1), (51, 1, 1)] /\ Try.prog.cellsOf 54 = 2 /\ gR qa 75 = some [(30, 0, 4), (4, 4, 1), (21, 5, 1)] /\ Try.prog.cellsOf 75 = 6 :=
 ⟨by kernel_rfl, by kernel_rfl, by kernel_rfl, by kernel_rfl, by kernel_rfl, by kernel_rfl⟩
theorem zd0 {n : Nat} {ps : List PV} (h : bR qa (n + 4) 75 ps) : ∃ x : GS, ps = aK x := by
 obtain ⟨h1, h2⟩ := pV iZ.2.2.2.2.1 h;rw [iZ.2.2.2.2.2] at h1
 match ps, h1 with
 | [a, b, c, d, e, f], _ =>
   obtain ⟨q, eq⟩ := zdz (h2 _ (.head _));obtain ⟨z, ee⟩ := uW nK.2.2.1 (h2 _ (.tail _ (.head _)));obtain ⟨y, ef, _⟩ := kG nK.1 (h2 _ (.tail _ (.tail _ (.head _))));simp [bC] at eq ee ef;obtain ⟨rfl, rfl, rfl, rfl⟩ := eq;subst ee; subst ef;exact ⟨(q.1, q.2.1, ⟨q.2.2, z, y⟩), rfl⟩
theorem zd1 {n : Nat} {ps : List PV} (h : bR qa (n + 6) 54 ps) : ∃ x : Int × GE, ps = bH x := by
 obtain ⟨h1, h2⟩ := pV iZ.2.2.1 h;rw [iZ.2.2.2.1] at h1
 match ps, h1 with
 | [a, b], _ =>
   obtain ⟨x, ea, _⟩ := kG nK.1 (h2 _ (.head _));obtain ⟨nl, es, eb, _, _, h3⟩ := pW iZ.2.1 (h2 _ (.tail _ (.head _)))
   obtain ⟨m, rfl, _⟩ := mR (f := aK) (Q := fun _ => True) (l := es) fun x hx => by
    obtain ⟨q, e⟩ := zd0 (h3 x hx);exact ⟨q, e, trivial⟩
   simp at ea eb;subst ea; subst eb;exact ⟨(x, nl, false, m), rfl⟩
theorem lawMacroBooks {pvs : List PV} (h : kF qa 8 Try.f5.params.toList pvs) : PCall qa 5 pvs fun v => v = .bool true := by
 obtain ⟨v0, r0, rfl, h0, rfl⟩ : kF qa 8 [50] pvs := h;obtain ⟨nl, es, e, _, _, h3⟩ := pW iZ.1 (zav (by kernel_rfl) h0);cases e
 obtain ⟨E, rfl, _⟩ := mR (f := bH) (Q := fun _ => True) (l := es) fun x hx => by
  obtain ⟨q, e⟩ := zd1 (h3 x hx);exact ⟨q, e, trivial⟩
 exact zdw nl false E
end Go.Eng
