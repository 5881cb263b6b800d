/- States run over the code: what each function gives, and what follows. -/
import Derived.Test.YtpadbcaocbghoaaGreatEngb
import Derived.RangeFuncRecord
import Derived.Shelf.SlSortCmp.NoneTotal
import Derived.Shelf.SlSortCmp.WholeK
open Go.IntKind (i64 i32)
open Go.Proofs.Tryz renaming prog → qa
open List renaming drop → qb, mem_cons_self → qc, length_cons → qd, mem_cons_of_mem → qe, mem_singleton → qg, getElem?_eq_getElem → qi, length_append → qj, rel_of_pairwise_cons → qk, getElem_append_left → ql, flatMap_append → qm, cons_append → qn, length_nil → qp, filter_cons → qq, filter_append → qr, append_assoc → qt, foldl_cons → qv, take_of_length_le → qw, drop_eq_nil_of_le → qx, getD → qac, dropLast_concat → qad, mem_append_left → qae, getElem?_append_right → qaf, getElem_of_mem → qag, mem_append → qah, getLast?_eq_getElem? → qai, getElem?_append_left → qaj, nil_append → qak, length_map → qal, flatMap_cons → qao, flatMap_singleton → qap, length_take → qaq, nil_sublist → qar, take_append_drop → qas, append_nil → qat, dropLast_append_of_ne_nil → qau, getLast?_eq_some_getLast → qav, dropLast_concat_getLast → qaw, mem_cons → qay, getElem_append_right → qbb, exists_mem_of_ne_nil → qbc, drop_eq_getElem_cons → qbd, not_mem_nil → qbe, map_append → qbh, getElem?_eq_none → qbj, length_singleton → qbk, range_eq_range' → qbl, reverse_reverse → qbm, getLast?_concat → qbo, mem_map_of_mem → qbq, reverse_append → qbr, length_reverse → qbs, getElem?_take → qbt, getElem?_drop → qbu, take → qbw, foldl_append → qbx, reverse_cons → qby, range' → qbz, take_append → qcb, flatMap_nil → qcd, sum_append → qcg, perm_cons → qci, take_take → qcj, map_cons → qck, sum_cons → qcl
open Bool renaming and_eq_true → qf, not_eq_true' → qy, and_eq_false_iff → qab, false_eq_true → qam, or_eq_false_iff → qbn, and_comm → qbp
open Int renaming le_refl → qh, toNat_natCast → qz, le_of_lt → qbf
open Nat renaming le_refl → qo, zero_add → qu, eq_of_beq_eq_true → qaa, le_trans → qan, lt_trichotomy → qba, beq → qbi, lt_of_lt_of_le → qbv, zero_le → qca, max_eq_right → qcc, max_eq_left → qcf
open Array renaming getD_eq_getD_getElem? → qax, replicate → qce
open Option renaming toList → qaz, getD_some → qbg, none_or → qch
set_option linter.unusedVariables false
set_option linter.unusedSimpArgs false
namespace Go.Eng
open Go
abbrev wd (ro : Option Nat) : Fence := { Fence.wide with round := ro }
section
variable {P : Program} {n : Nat} {ro : Option Nat}
theorem zg5 {f : FuncId} {args : Array Value} {w : World} {R : Ending -> World -> Prop} (h : Calls P f args w R) : CallsIn (wd ro) n P f args w R := (callsIn_wide (n := n)).2 h
theorem zqq {row : String} {args : Array Value} {w : World} {R : Value -> World -> Prop} (h : Rows P row args w R) : RowsIn (wd ro) n P row args w R :=
 fun c cs _ => let ⟨v, w', r, s⟩ := h c cs; ⟨v, w', r, stepsIn_wide.2 s⟩
theorem zqr {o : Oper} {a : Act} {next next' : Act -> World -> Prop} {Q : Exit -> Act -> World -> Prop} (hn : ∀ a w, next a w -> next' a w) : ∀ {r : Result Next}, o.upon P a next Q r -> o.uponIn (wd ro) n P a next' Q r
 | .ok (.value _) _, h => hn _ _ h
 | .ok .skip _, h => hn _ _ h
 | .ok (.defer _) _, h => hn _ _ h
 | .ok (.enter f args) w, h => ⟨(fun x => by cases x), zg5 (Calls.mono h fun e w' q => by cases e <;> first | exact hn _ _ q | exact q)⟩
 | .ok (.row row args) w, h => ⟨(fun x => by cases x), zqq (Rows.mono h fun v w' q => hn _ _ q)⟩
 | .halt (.panic v) w, h => h
theorem sJ {ops : Array Oper} {Q : Exit -> Act -> World -> Prop} (hnd : ∀ (i : Nat) o c, ops[i]? = some o -> o.op ≠ .defer c) (hQ : ∀ a w, ¬ Q .outgrown a w) : ∀ {l : List Nat} {a : Act} {w : World}, wpOps P ops Q l a w -> wpOpsIn (wd ro) n P ops Q l a w
 | [], _, _, h => h
 | i :: rest, a, w, h => by
   simp only [wpOps, wpOpsIn] at h ⊢;cases ho : ops[i]? with
   | none => simp only [ho] at h ⊢; exact sJ hnd hQ h
   | some o =>
     simp only [ho] at h ⊢;split at h
     ·rename_i hw;rw [if_pos hw];rcases h with h | ⟨_, a1, w1, hq⟩
      ·refine ⟨fun _ _ => trivial, ?_⟩;rw [Oper.semAt_eq _ _ _ (fun c => hnd i o c ho)];exact zqr (fun _ _ q => sJ hnd hQ q) h
      ·exact absurd hq (hQ _ _)
     ·rename_i hw;rw [if_neg hw];exact ⟨fun _ _ => trivial, sJ hnd hQ h⟩
theorem zqs {F : Fence} {o : Oper} {a : Act} {next next' K : Act -> World -> Prop} {Q : Exit -> Act -> World -> Prop} (hn : ∀ a w, next a w -> next' a w) : ∀ {r : Result Next}, o.uponIn F n P a next (Exit.then K Q) r -> o.uponIn F n P a next' Q r
 | .ok (.value _) _, h => hn _ _ h
 | .ok .skip _, h => hn _ _ h
 | .ok (.defer _) _, h => hn _ _ h
 | .ok (.enter f args) w, h => ⟨h.1, CallsIn.mono h.2 fun e w' q => by cases e <;> first | exact hn _ _ q | exact q⟩
 | .ok (.row row args) w, h => ⟨h.1, RowsIn.mono h.2 fun v w' q => hn _ _ q⟩
 | .ok (.round l f tmps assign body) w, h => ⟨h.1, RoundIn.mono h.2 fun e w' q => by cases e <;> first | exact hn _ _ q | exact q⟩
 | .halt (.panic v) w, h => h
theorem sK {F : Fence} {ops : Array Oper} {Q : Exit -> Act -> World -> Prop} {l2 : List Nat} : ∀ {l1 : List Nat} {a : Act} {w : World}, wpOpsIn F n P ops (Exit.then (wpOpsIn F n P ops Q l2) Q) l1 a w -> wpOpsIn F n P ops Q (l1 ++ l2) a w
 | [], _, _, h => h
 | i :: rest, a, w, h => by
   simp only [wpOpsIn, qn] at h ⊢;cases ho : ops[i]? with
   | none => simp only [ho] at h ⊢; exact sK h
   | some o =>
     simp only [ho] at h ⊢;split at h
     ·rename_i hw;rw [if_pos hw];exact ⟨h.1, zqs (fun _ _ q => sK q) h.2⟩
     ·rename_i hw;rw [if_neg hw];exact ⟨h.1, sK h.2⟩
end
section
variable {H : Nat -> Option HSpec} {P : Program} {n N : Nat} {ro : Option Nat}
def dG : List Oper -> Bool
 | [] => true
 | o :: r => (match o.op with | .defer _ => false | _ => true) && dG r
theorem zg6 {ops : Array Oper} (h : dG ops.toList = true) : ∀ (i : Nat) o c, ops[i]? = some o -> o.op ≠ .defer c := by
 have key : ∀ {l : List Oper}, dG l = true -> ∀ (i : Nat) o c, l[i]? = some o -> o.op ≠ .defer c := by
  intro l
  induction l with
  | nil => intro _ i o c hi; cases hi
  | cons x r ih =>
    intro hx i o c hi;simp only [dG, qf] at hx;cases i with
    | zero => simp at hi; subst hi; intro e; rw [e] at hx; exact absurd hx.1 (by simp)
    | succ i => exact ih hx.2 i o c (by simpa using hi)
 intro i o c hi;exact key h i o c (by simpa using hi)
theorem zU {id : Nat} {ops : Array Oper} {e : Env} {h : Hp} {K : Env -> Hp -> Prop} (hd : dG ops.toList = true) (hK : aW P H N ops.toList ops.toList e h K) {w : World} {I : Nat -> Prop} {G : Nat -> Pl} {a : Act} (hs : SRel w I G e h N a)
 {Q : Exit -> Act -> World -> Prop} (hQ : ∀ a w, ¬ Q .outgrown a w) (hq : ∀ e' h' w' I' G' a', K e' h' -> SRel w' I' G' e' h' N a' -> a'.defers = a.defers -> TrH w I G h w' I' G' h' -> Q .normal a' w') : (Code.region id ops false).wpIn (wd ro) n P Q a w := by
 refine wpIn_region (sJ (zg6 hd) hQ ?_);have := zB (Qx := Q) ops.toList 0 e h (fun j _ => by simp) hK w I G a hs hq;simpa [qbl] using this
theorem vG {ops : Array Oper} {l : List Oper} {k : Nat} {e : Env} {h : Hp} {K : Env -> Hp -> Prop} (hd : dG ops.toList = true) (hl : ∀ j, j < l.length -> l[j]? = ops[k + j]?) (hK : aW P H N ops.toList l e h K) {w : World} {I : Nat -> Prop} {G : Nat -> Pl} {a : Act} (hs : SRel w I G e h N a)
 {Q : Exit -> Act -> World -> Prop} (hQ : ∀ a w, ¬ Q .outgrown a w) (hq : ∀ e' h' w' I' G' a', K e' h' -> SRel w' I' G' e' h' N a' -> a'.defers = a.defers -> TrH w I G h w' I' G' h' -> Q .normal a' w') : wpOpsIn (wd ro) n P ops Q (qbz k l.length) a w :=
 sJ (zg6 hd) hQ (zB (Qx := Q) l k e h hl hK w I G a hs hq)
end
section
variable {H : Nat -> Option HSpec} {P : Program} {n0 N : Nat} {Z : World -> (Nat -> Prop) -> (Nat -> Pl) -> Hp -> Prop}
def CodeZ (Z : World -> (Nat -> Prop) -> (Nat -> Pl) -> Hp -> Prop) (P : Program) (N : Nat) (c : Code) (e : Env) (h : Hp) (Q : Qt) : Prop :=
 ∀ (w : World) (I : Nat -> Prop) (G : Nat -> Pl) (a : Act) (Qx : Exit -> Act -> World -> Prop), SRel w I G e h N a -> Z w I G h ->
  (∀ x e' h' w' I' G' a', Q x e' h' -> SRel w' I' G' e' h' N a' -> a'.defers = a.defers -> Z w' I' G' h' -> Qx x.to a' w') -> c.wp P Qx a w
theorem CodeZ.of (hZ : ∀ w I G h w' I' G' h', Z w I G h -> HRel w I G h -> HRel w' I' G' h' -> TrN n0 w I G h w' I' G' h' -> Z w' I' G' h') {c : Code} {e : Env} {h : Hp} {Q : Qt} (hK : CodeS P n0 N c e h Q) : CodeZ Z P N c e h Q :=
 fun w I G a Qx hs hz hq => hK w I G a Qx hs fun x e' h' w' I' G' a' hk hs' hd ht => hq x e' h' w' I' G' a' hk hs' hd (hZ _ _ _ _ _ _ _ _ hz hs.hh hs'.hh ht)
theorem CodeZ.skip {e : Env} {h : Hp} {Q : Qt} (hK : Q .normal e h) : CodeZ Z P N .skip e h Q :=
 fun w I G a Qx hs hz hq => wp_skip (hq .normal e h w I G a hK hs rfl hz)
theorem CodeZ.ret {e : Env} {h : Hp} {Q : Qt} (hK : Q .ret e h) : CodeZ Z P N .ret e h Q :=
 fun w I G a Qx hs hz hq => wp_ret (hq .ret e h w I G a hK hs rfl hz)
theorem CodeZ.seq {x y : Code} {e : Env} {h : Hp} {Q : Qt} (hK : CodeZ Z P N x e h fun q e h => match q with | .normal => CodeZ Z P N y e h Q | q => Q q e h) : CodeZ Z P N (.seq x y) e h Q := by
 intro w I G a Qx hs hz hq;refine wp_seq (hK w I G a _ hs hz fun q e' h' w' I' G' a' hk hs' hd hz' => ?_);cases q with
 | normal => exact hk w' I' G' a' Qx hs' hz' fun q2 e2 h2 w2 I2 G2 a2 hk2 hs2 hd2 hz2 => hq q2 e2 h2 w2 I2 G2 a2 hk2 hs2 (hd2.trans hd) hz2
 | exit n => exact hq (.exit n) e' h' w' I' G' a' hk hs' hd hz'
 | ret => exact hq .ret e' h' w' I' G' a' hk hs' hd hz'
theorem CodeZ.cond {c : Operand} {x y : Code} {e : Env} {h : Hp} {Q : Qt} {t : Bool} (hc : aY [] e c = some (.pv (.bool t))) (hK : if t = true then CodeZ Z P N x e h Q else CodeZ Z P N y e h Q) : CodeZ Z P N (.cond c x y) e h Q := by
 intro w I G a Qx hs hz hq;refine wp_cond (aN hs.he (AOK.nil _) hc).bool_eq ?_;cases t with
 | true => simp only [if_true] at hK ⊢; exact hK w I G a Qx hs hz hq
 | false => simp only [qam, if_false] at hK ⊢; exact hK w I G a Qx hs hz hq
theorem CodeZ.block {id : Nat} {c : Code} {e : Env} {h : Hp} {Q : Qt}
 (hK : CodeZ Z P N c e h fun q e h => match q with | .exit n => (bif qbi n id then Q .normal e h else Q (.exit n) e h) | q => Q q e h) : CodeZ Z P N (.block id c) e h Q := by
 intro w I G a Qx hs hz hq;refine wp_block (hK w I G a _ hs hz fun q e' h' w' I' G' a' hk hs' hd hz' => ?_);cases q with
 | normal => exact hq .normal e' h' w' I' G' a' hk hs' hd hz'
 | ret => exact hq .ret e' h' w' I' G' a' hk hs' hd hz'
 | exit n =>
   simp only [Ex.to, Exit.inBlock];cases hb : qbi n id with
   | true =>
     simp only [hb, cond_true] at hk;rw [if_pos (qaa hb)];exact hq .normal e' h' w' I' G' a' hk hs' hd hz'
   | false =>
     simp only [hb, cond_false] at hk;rw [if_neg (fun e => by subst e; simp at hb)];exact hq (.exit n) e' h' w' I' G' a' hk hs' hd hz'
theorem CodeZ.mono {c : Code} {e : Env} {h : Hp} {Q Q' : Qt} (hK : CodeZ Z P N c e h Q) (hq : ∀ x e h, Q x e h -> Q' x e h) : CodeZ Z P N c e h Q' :=
 fun w I G a Qx hs hz hq' => hK w I G a Qx hs hz fun x e' h' w' I' G' a' hk => hq' x e' h' w' I' G' a' (hq _ _ _ hk)
theorem SRel.le {w : World} {I : Nat -> Prop} {G : Nat -> Pl} {e e' : Env} {h : Hp} {a : Act} (hs : SRel w I G e h N a) (hl : ∀ i v, get e' i = some v -> get e i = some v) : SRel w I G e' h N a := ⟨hs.hh, fun i v hi => hs.he i v (hl i v hi), hs.hn⟩
def LeE : Env -> Env -> Prop
 | [], _ => True
 | (i, v) :: r, e => get e i = some v /\ LeE r e
theorem LeE.le : ∀ {e' e : Env}, LeE e' e -> ∀ i v, get e' i = some v -> get e i = some v
 | [], _, _, i, v, h => by cases h
 | (k, x) :: r, e, hl, i, v, h => by
   simp only [get] at h;cases hb : qbi k i with
   | true => rw [hb] at h; have := qaa hb; subst this; cases h; exact hl.1
   | false => rw [hb] at h; exact hl.2.le i v h
theorem CodeZ.loop {c : Code} {e : Env} {h : Hp} {Q : Qt} {σ : Type} (S : σ -> Env × Hp) (J : σ -> Prop) (μ : σ -> Nat) (s0 : σ) (he : ∀ i v, get (S s0).1 i = some v -> get e i = some v) (hh : h = (S s0).2) (hJ : J s0)
 (hb : ∀ s, J s -> CodeZ Z P N c (S s).1 (S s).2 fun x e h => match x with | .normal => ∃ s', (∀ i v, get (S s').1 i = some v -> get e i = some v) /\ h = (S s').2 /\ J s' /\ μ s' < μ s | x => Q x e h) : CodeZ Z P N (.loop c) e h Q := by
 intro w I G a Qx hs hz hq;subst hh
 refine wp_loop_ghost (fun n a1 w1 => ∃ s I1 G1, μ s = n /\ J s /\ SRel w1 I1 G1 (S s).1 (S s).2 N a1 /\ a1.defers = a.defers /\ Z w1 I1 G1 (S s).2) (μ s0)
  ⟨s0, I, G, rfl, hJ, hs.le he, rfl, hz⟩ ?_
 rintro n a1 w1 ⟨s, I1, G1, rfl, hj, hs1, hd1, hz1⟩;refine hb s hj w1 I1 G1 a1 _ hs1 hz1 fun x e2 h2 w2 I2 G2 a2 hk hs2 hd2 hz2 => ?_;cases x with
 | normal =>
   obtain ⟨s', hf, rfl, hj', hlt⟩ := hk;exact ⟨μ s', hlt, s', I2, G2, rfl, hj', hs2.le hf, hd2.trans hd1, hz2⟩
 | exit n => exact hq (.exit n) e2 h2 w2 I2 G2 a2 hk hs2 (hd2.trans hd1) hz2
 | ret => exact hq .ret e2 h2 w2 I2 G2 a2 hk hs2 (hd2.trans hd1) hz2
end
section
variable {w w' w2 : World} {I I' I2 : Nat -> Prop} {G G' G2 : Nat -> Pl} {h h' h2 : Hp}
theorem HRel.frame (hh : HRel w I G h) (hb : ∀ b, aQ h G b -> w'.heap[b]? = w.heap[b]?) (hk : Keeps w I w' I') (hn : ∀ b, aQ h G b -> ¬ I' b) (hc : ∀ b, I' b -> b < w'.heap.size) : HRel w' I' G h := by
 have blk : ∀ (i : Nat) x, h[i]? = some x -> x.alive (G i) -> w'.heap[(G i).blk]? = w.heap[(G i).blk]? := fun i x hx ha => hb _ ⟨i, x, hx, ha, rfl⟩;refine ⟨fun i x hx => ?_, hh.sep, fun i x hx ha => hn _ ⟨i, x, hx, ha, rfl⟩, hc⟩;have := hh.obs i x hx;cases x with
 | dead => trivial
 | box cs => obtain ⟨vs, ty, e1, e2, e3⟩ := this; exact ⟨vs, ty, by rw [blk i _ hx trivial]; exact e1, e2, fun k v hv => ⟨(e3 k v hv).1.mono hk (.refl _ _), (e3 k v hv).2⟩⟩
 | arr cs => obtain ⟨vs, ty, e1, e2, e3⟩ := this; exact ⟨vs, ty, by rw [blk i _ hx trivial]; exact e1, e2, fun k v hv => ⟨(e3 k v hv).1.mono hk.1 hk.2, (e3 k v hv).2⟩⟩
 | sl ty m n es =>
   cases n with
   | true => exact this
   | false =>
     obtain ⟨e1, e2, e3, e3', e4, e5⟩ := this;refine ⟨e1, e2, e3, e3', e4, fun hc => ?_⟩;obtain ⟨vs, f1, f2, f3⟩ := e5 hc;exact ⟨vs, by rw [blk i _ hx ⟨rfl, hc⟩]; exact f1, f2, fun i' e he k v hv => ⟨(f3 i' e he k v hv).1.mono hk.1 hk.2, (f3 i' e he k v hv).2⟩⟩
 | mp kvs => obtain ⟨es, ck, e1, e2, e3⟩ := this; exact ⟨es, ck, by rw [blk i _ hx trivial]; exact e1, e2, fun k kv hv => ⟨(e3 k kv hv).1.mono hk.1 hk.2, (e3 k kv hv).2.mono hk.1 hk.2⟩⟩
 | iter ty rem cur => exact IterRel.mono this (blk i _ hx trivial) hk
theorem HRel.beside (hh : HRel w I G h) (h2r : HRel w I G2 h2) (hs : ∀ b, aQ h G b -> ¬ aQ h2 G2 b) (t : Tr w I (aQ h2 G2) w' I' (aQ h' G')) (hc : ∀ b, I' b -> b < w'.heap.size) :
 HRel w' I' G h /\ Keeps w I w' I' /\ ∀ b, aQ h G b -> ¬ aQ h' G' b := by
 have hk : Keeps w I w' I' := ⟨fun b hb hlt => t.keep b hlt fun ⟨o, ob, h1, h2, e⟩ => h2r.nI o ob h1 h2 (e ▸ hb), fun b hb _ => t.i1 b hb⟩;refine ⟨hh.frame (fun b hb => t.keep b (hh.blk_lt hb) (hs b hb)) hk (fun b hb hI => ?_) hc, hk, fun b hb ho => ?_⟩
 ·rcases t.i2 b hI with q | q | q
  ·obtain ⟨o, ob, q1, q2, rfl⟩ := hb; exact hh.nI o ob q1 q2 q
  ·exact hs b hb q
  ·exact absurd (hh.blk_lt hb) (Nat.not_lt.2 q)
 ·rcases t.own2 b ho with q | q
  ·exact hs b hb q
  ·exact absurd (hh.blk_lt hb) (Nat.not_lt.2 q)
end
section
variable {α : Type} {Z : α -> World -> (Nat -> Prop) -> (Nat -> Pl) -> Hp -> Prop} {P : Program} {n0 N : Nat}
def CodeY (Z : α -> World -> (Nat -> Prop) -> (Nat -> Pl) -> Hp -> Prop) (P : Program) (N : Nat) (c : Code) (s : α) (e : Env) (h : Hp) (Q : α -> Qt) : Prop :=
 ∀ (w : World) (I : Nat -> Prop) (G : Nat -> Pl) (a : Act) (Qx : Exit -> Act -> World -> Prop), SRel w I G e h N a -> Z s w I G h ->
  (∀ s' x e' h' w' I' G' a', Q s' x e' h' -> SRel w' I' G' e' h' N a' -> a'.defers = a.defers -> Z s' w' I' G' h' -> Qx x.to a' w') -> c.wp P Qx a w
def zg7 (Z : α -> World -> (Nat -> Prop) -> (Nat -> Pl) -> Hp -> Prop) (n0 : Nat) : Prop := ∀ s w I G h w' I' G' h', Z s w I G h -> HRel w I G h -> HRel w' I' G' h' -> TrN n0 w I G h w' I' G' h' -> Z s w' I' G' h'
theorem CodeY.of (hZ : zg7 Z n0) {c : Code} {s : α} {e : Env} {h : Hp} {Q : α -> Qt} (hK : CodeS P n0 N c e h (Q s)) : CodeY Z P N c s e h Q :=
 fun w I G a Qx hs hz hq => hK w I G a Qx hs fun x e' h' w' I' G' a' hk hs' hd ht => hq s x e' h' w' I' G' a' hk hs' hd (hZ _ _ _ _ _ _ _ _ _ hz hs.hh hs'.hh ht)
theorem CodeY.skip {s : α} {e : Env} {h : Hp} {Q : α -> Qt} (hK : Q s .normal e h) : CodeY Z P N .skip s e h Q :=
 fun w I G a Qx hs hz hq => wp_skip (hq s .normal e h w I G a hK hs rfl hz)
theorem CodeY.ret {s : α} {e : Env} {h : Hp} {Q : α -> Qt} (hK : Q s .ret e h) : CodeY Z P N .ret s e h Q :=
 fun w I G a Qx hs hz hq => wp_ret (hq s .ret e h w I G a hK hs rfl hz)
theorem CodeY.exit {n : Nat} {s : α} {e : Env} {h : Hp} {Q : α -> Qt} (hK : Q s (.exit n) e h) : CodeY Z P N (.exit n) s e h Q :=
 fun w I G a Qx hs hz hq => wp_exit (hq s (.exit n) e h w I G a hK hs rfl hz)
theorem CodeY.seq {x y : Code} {s : α} {e : Env} {h : Hp} {Q : α -> Qt} (hK : CodeY Z P N x s e h fun s q e h => match q with | .normal => CodeY Z P N y s e h Q | q => Q s q e h) : CodeY Z P N (.seq x y) s e h Q := by
 intro w I G a Qx hs hz hq;refine wp_seq (hK w I G a _ hs hz fun s' q e' h' w' I' G' a' hk hs' hd hz' => ?_);cases q with
 | normal => exact hk w' I' G' a' Qx hs' hz' fun s2 q2 e2 h2 w2 I2 G2 a2 hk2 hs2 hd2 hz2 => hq s2 q2 e2 h2 w2 I2 G2 a2 hk2 hs2 (hd2.trans hd) hz2
 | exit n => exact hq s' (.exit n) e' h' w' I' G' a' hk hs' hd hz'
 | ret => exact hq s' .ret e' h' w' I' G' a' hk hs' hd hz'
theorem CodeY.cond {c : Operand} {x y : Code} {s : α} {e : Env} {h : Hp} {Q : α -> Qt} {t : Bool} (hc : aY [] e c = some (.pv (.bool t))) (hK : if t = true then CodeY Z P N x s e h Q else CodeY Z P N y s e h Q) : CodeY Z P N (.cond c x y) s e h Q := by
 intro w I G a Qx hs hz hq;refine wp_cond (aN hs.he (AOK.nil _) hc).bool_eq ?_;cases t with
 | true => simp only [if_true] at hK ⊢; exact hK w I G a Qx hs hz hq
 | false => simp only [qam, if_false] at hK ⊢; exact hK w I G a Qx hs hz hq
theorem CodeY.block {id : Nat} {c : Code} {s : α} {e : Env} {h : Hp} {Q : α -> Qt}
 (hK : CodeY Z P N c s e h fun s q e h => match q with | .exit n => (bif qbi n id then Q s .normal e h else Q s (.exit n) e h) | q => Q s q e h) : CodeY Z P N (.block id c) s e h Q := by
 intro w I G a Qx hs hz hq;refine wp_block (hK w I G a _ hs hz fun s' q e' h' w' I' G' a' hk hs' hd hz' => ?_);cases q with
 | normal => exact hq s' .normal e' h' w' I' G' a' hk hs' hd hz'
 | ret => exact hq s' .ret e' h' w' I' G' a' hk hs' hd hz'
 | exit n =>
   simp only [Ex.to, Exit.inBlock];cases hb : qbi n id with
   | true =>
     simp only [hb, cond_true] at hk;rw [if_pos (qaa hb)];exact hq s' .normal e' h' w' I' G' a' hk hs' hd hz'
   | false =>
     simp only [hb, cond_false] at hk;rw [if_neg (fun e => by subst e; simp at hb)];exact hq s' (.exit n) e' h' w' I' G' a' hk hs' hd hz'
theorem CodeY.mono {c : Code} {s : α} {e : Env} {h : Hp} {Q Q' : α -> Qt} (hK : CodeY Z P N c s e h Q) (hq : ∀ s x e h, Q s x e h -> Q' s x e h) : CodeY Z P N c s e h Q' :=
 fun w I G a Qx hs hz hq' => hK w I G a Qx hs hz fun s' x e' h' w' I' G' a' hk => hq' s' x e' h' w' I' G' a' (hq _ _ _ _ hk)
theorem CodeY.le {c : Code} {s : α} {e e' : Env} {h : Hp} {Q : α -> Qt} (hl : LeE e' e) (hK : CodeY Z P N c s e' h Q) : CodeY Z P N c s e h Q :=
 fun w I G a Qx hs hz hq => hK w I G a Qx (hs.le hl.le) hz hq
theorem CodeY.loop {c : Code} {s : α} {e : Env} {h : Hp} {Q : α -> Qt} {σ : Type} (S : σ -> Env × Hp) (A : σ -> α) (J : σ -> Prop) (μ : σ -> Nat) (s0 : σ) (he : LeE (S s0).1 e) (hh : h = (S s0).2) (ha : s = A s0) (hJ : J s0)
 (hb : ∀ u, J u -> CodeY Z P N c (A u) (S u).1 (S u).2 fun s' x e h => match x with | .normal => ∃ u', LeE (S u').1 e /\ h = (S u').2 /\ s' = A u' /\ J u' /\ μ u' < μ u | x => Q s' x e h) : CodeY Z P N (.loop c) s e h Q := by
 intro w I G a Qx hs hz hq;subst hh;subst ha
 refine wp_loop_ghost (fun n a1 w1 => ∃ u I1 G1, μ u = n /\ J u /\ SRel w1 I1 G1 (S u).1 (S u).2 N a1 /\ a1.defers = a.defers /\ Z (A u) w1 I1 G1 (S u).2) (μ s0)
  ⟨s0, I, G, rfl, hJ, hs.le he.le, rfl, hz⟩ ?_
 rintro n a1 w1 ⟨u, I1, G1, rfl, hj, hs1, hd1, hz1⟩;refine hb u hj w1 I1 G1 a1 _ hs1 hz1 fun s' x e2 h2 w2 I2 G2 a2 hk hs2 hd2 hz2 => ?_;cases x with
 | normal =>
   obtain ⟨u', hf, rfl, rfl, hj', hlt⟩ := hk;exact ⟨μ u', hlt, u', I2, G2, rfl, hj', hs2.le hf.le, hd2.trans hd1, hz2⟩
 | exit n => exact hq s' (.exit n) e2 h2 w2 I2 G2 a2 hk hs2 (hd2.trans hd1) hz2
 | ret => exact hq s' .ret e2 h2 w2 I2 G2 a2 hk hs2 (hd2.trans hd1) hz2
end
section
variable {H : Nat -> Option HSpec} {P : Program} {N : Nat} {ops : Array Oper} {Φ : Act -> World -> Prop} {k : Nat} {a : Act} {w : World}
def OpsN (P : Program) (ops : Array Oper) (k : Nat) (Φ : Act -> World -> Prop) (a : Act) (w : World) : Prop := wpOpsIn (wd none) 0 P ops (fun x a w => x = .normal /\ Φ a w) (qbz k (ops.size - k)) a w
theorem sL {id : Nat} {Q : Exit -> Act -> World -> Prop} (h : OpsN P ops 0 Φ a w) (hq : ∀ a' w', Φ a' w' -> Q .normal a' w') : (Code.region id ops false).wp P Q a w := by
 refine wp_mono (Q := fun x a w => x = .normal /\ Φ a w) ((wpIn_wide (n := 0)).1 (wpIn_region (F := wd none) ?_)) ?_
 ·rw [qbl]; exact h
 ·rintro x a' w' ⟨rfl, hp⟩; exact hq _ _ hp
theorem OpsN.last (hk : ops.size <= k) (h : Φ a w) : OpsN P ops k Φ a w := by
 unfold OpsN;rw [Nat.sub_eq_zero_of_le hk];exact ⟨rfl, h⟩
theorem OpsN.step (hd : dG ops.toList = true) (j : Nat) {e : Env} {h : Hp} {K : Env -> Hp -> Prop} (hj : k + j <= ops.size) (hK : aW P H N ops.toList ((ops.toList.drop k).take j) e h K) {I : Nat -> Prop} {G : Nat -> Pl} (hs : SRel w I G e h N a)
 (hq : ∀ e' h' w' I' G' a', K e' h' -> SRel w' I' G' e' h' N a' -> a'.defers = a.defers -> TrH w I G h w' I' G' h' -> OpsN P ops (k + j) Φ a' w') : OpsN P ops k Φ a w := by
 unfold OpsN;rw [show ops.size - k = j + (ops.size - (k + j)) by omega, <- List.range'_append_1];refine sK ?_;have hl : ((ops.toList.drop k).take j).length = j := by simp; omega
 have := vG (ro := none) (n := 0) (k := k) (Q := Exit.then (wpOpsIn (wd none) 0 P ops (fun x a w => x = .normal /\ Φ a w) (qbz (k + j) (ops.size - (k + j)))) fun x a w => x = .normal /\ Φ a w) hd (fun i hi => by
  rw [qbt, if_pos (by omega), qbu]; simp) hK hs (fun a w h => nomatch h.1) hq
 rw [hl] at this;exact this
theorem OpsN.one {o : Oper} (ho : ops[k]? = some o) (hg : o.guard = none) (h : o.wpIn (wd none) 0 P a w (fun a w => OpsN P ops (k + 1) Φ a w) (fun x a w => x = .normal /\ Φ a w)) : OpsN P ops k Φ a w := by
 have hlt : k < ops.size := (Array.getElem?_eq_some_iff.1 ho).1;unfold OpsN;rw [show ops.size - k = (ops.size - (k + 1)) + 1 by omega, List.range'_succ];simp only [wpOpsIn, ho];rw [if_pos (by simp [Region.wanted, hg])];exact h
theorem OpsN.value {o : Oper} (ho : ops[k]? = some o) (hg : o.guard = none) {v : Value} (hr : (execOp a.eval o).run P w = .ok (.value v) w) (h : OpsN P ops (k + 1) Φ (a.put o.dst v) w) : OpsN P ops k Φ a w := by
 refine OpsN.one ho hg ⟨fun _ _ => trivial, ?_⟩;show o.uponIn (wd none) 0 P a _ _ ((o.semAt none a.eval).run P w);rw [Oper.semAt_none, hr];exact h
theorem OpsN.call {o : Oper} (ho : ops[k]? = some o) (hg : o.guard = none) {f : Nat} {args : Array Value} (hr : (execOp a.eval o).run P w = .ok (.enter f args) w) {R : Value -> World -> Prop} (hc : Calls P f args w fun e w' => ∃ cv, e = .returned cv /\ R cv w')
 (h : ∀ cv w', R cv w' -> OpsN P ops (k + 1) Φ (a.put o.dst cv) w') : OpsN P ops k Φ a w := by
 refine OpsN.one ho hg ⟨fun _ _ => trivial, ?_⟩;show o.uponIn (wd none) 0 P a _ _ ((o.semAt none a.eval).run P w);rw [Oper.semAt_none, hr];refine ⟨(fun x => by cases x), (zg5 hc).mono ?_⟩;rintro e w' ⟨cv, rfl, hR⟩;exact h cv w' hR
end
theorem SRel.unm {w : World} {I : Nat -> Prop} {G : Nat -> Pl} {e : Env} {h : Hp} {N : Nat} {a : Act} (hs : SRel w I G e h N a) : SRel w I G e (unm h) N a :=
 ⟨(yE hs.hh).1, hs.he.mono (Keeps.refl w I) (yE hs.hh).2.2, hs.hn⟩
theorem zqt {P : Program} {o : Oper} {t : TypeId} {x : Operand} (ho : o.op = .load t x) {d : TypeDesc} (hd : P.underlying t = some d) (h0 : g9 P t = false) {w : World} {I : Nat -> Prop} {G : Nat -> Pl} {e : Env} {h : Hp} {N : Nat} {a : Act} (hs : SRel w I G e h N a)
 {ob i off : Nat} (hx : aY [] e x = some (.elt ob i off)) {ty : Nat × Nat} {m : Bool} {es : List (List PV)} (hob : h[ob]? = some (.sl ty m false es)) {c : List PV} (hc : es[i]? = some c) {v : Value} (hv : c[off]? = some (.raw v)) :
 (execOp a.eval o).run P w = .ok (.value v) w := by
 have hr := aN hs.he (AOK.nil _) hx;obtain ⟨q1, q2, q3, q3', q4, q5⟩ := hs.hh.obs _ _ hob;generalize hcx : a.eval x = cx at hr;cases hr with
 | elt _ _ _ ty m es' g1 g2 =>
   have hil := (List.getElem?_eq_some_iff.1 hc).1;have hcap : (G ob).cap ≠ 0 := by omega
   obtain ⟨vs, f1, f2, f3⟩ := q5 hcap;have hsz := q4 i c hc;have hol := (List.getElem?_eq_some_iff.1 hv).1;obtain ⟨r1, r2⟩ := f3 i c hc off _ hv;have hmul : (i + 1) * (G ob).sz <= (G ob).cap * (G ob).sz := Nat.mul_le_mul_right _ (by omega);rw [Nat.add_mul] at hmul
   have hcell : w.cell? ⟨(G ob).blk, (G ob).off + i * (G ob).sz + off, none⟩ = some v := by
    rw [q3 hcap, qu, kG f1 (by omega)];rw [show vs.getD (i * (G ob).sz + off) undef = v by cases r1; rfl]
   unfold execOp;rw [ho];simp only [hcx];have := xM (P := P) (w := w) hd h0 hcell;simp only [i9, Sem.run_bind, Sem.run_pure, Result.andThen_ok, this]
theorem zV {P : Program} {f : Nat} {fn : Func} {c : Code} {args : List LV} {h : Hp} (hf : P.funcs[f]? = some fn) (hb : fn.body = some c) (hl : args.length <= fn.ntmps) {w : World} {I : Nat -> Prop} {G : Nat -> Pl} {cargs : Array Value} (hh : HRel w I G h) (hsz : cargs.size = args.length)
 (hrel : ∀ (i : Nat) v, args[i]? = some v -> LRel w I G h v (cargs.getD i undef)) {R : Ending -> World -> Prop}
 (hK : ∀ (a : Act) (Qx : Exit -> Act -> World -> Prop), SRel w I G (fG args 0) h fn.ntmps a -> a.defers = [] -> (∀ a' w', a'.defers = [] -> (∃ cv, (results fn a'.tmps).run P w' = .ok cv w' /\ R (.returned cv) w') -> Qx .normal a' w' /\ Qx .ret a' w') -> c.wp P Qx a w) : Calls P f cargs w R := by
 refine calls_of_wp hf hb ?_
 have hs : SRel w I G (fG args 0) h fn.ntmps { tmps := cargs ++ qce (fn.ntmps - cargs.size) undef, defers := [] } := by
  refine ⟨hh, fun i v hi => ?_, by simp; omega⟩;obtain ⟨_, h2⟩ := pY hi;rw [Nat.sub_zero] at h2;have hlt : i < cargs.size := by have := (List.getElem?_eq_some_iff.1 h2).1; omega
  have := hrel i v h2
  have e1 : (cargs ++ qce (fn.ntmps - cargs.size) undef).getD i undef = cargs.getD i undef := by
   rw [qax, qax, Array.getElem?_append_left hlt]
  simp only [e1];exact VRel.of_plain this
 refine hK _ _ hs rfl fun a' w' hd ⟨cv, h1, h2⟩ => ⟨⟨hd, cv, h1, h2⟩, ⟨hd, cv, h1, h2⟩⟩
theorem SRel.view {w : World} {I : Nat -> Prop} {G : Nat -> Pl} {e : Env} {h : Hp} {N : Nat} {a : Act} (hs : SRel w I G e h N a) {d : Nat} {v : LV} (hv : LRel w I G h v (a.tmps.getD d undef)) : SRel w I G ((d, v) :: e) h N a := by
 refine ⟨hs.hh, fun i u hi => ?_, hs.hn⟩;simp only [get] at hi;cases hb : qbi d i with
 | true => rw [hb] at hi; cases hi; have := qaa hb; subst this; exact VRel.of_plain hv
 | false => rw [hb] at hi; exact hs.he i u hi
end Go.Eng
namespace Go.Eng.Rows
structure Row where
 kind : Int
 fr : Int
 to : Int
 a : Int
 b : Int
deriving DecidableEq
structure Sp where
 fr : Int
 to : Int
 a : Int
 b : Int
deriving DecidableEq, Inhabited
def Sp.has (x : Sp) (r : Int) : Prop := x.fr <= r /\ r <= x.to
def c5 : List Sp -> Sp -> List Sp
 | [], s => if s.fr <= s.to then [s] else []
 | x :: xs, s => if x.to < s.fr then c5 xs s else if s.to < x.fr then c5 xs s else
   if s.fr < x.fr then { s with to := x.fr - 1 } :: c5 xs { s with fr := x.to + 1 } else c5 xs { s with fr := x.to + 1 }
def Rise (l : List Sp) : Prop := l.Pairwise fun x y => x.to < y.fr
def In (l : List Sp) : Prop := ∀ x ∈ l, 0 <= x.fr /\ x.fr <= x.to /\ x.to <= 1114111
def Good (l : List Sp) : Prop := Rise l /\ In l
def Apart (x y : Sp) : Prop := x.to < y.fr ∨ y.to < x.fr
def eH (l : List Sp) (r a b : Int) : Prop := ∃ x ∈ l, x.has r /\ x.a = a /\ x.b = b
theorem Rise.apart {l : List Sp} (h : Rise l) : l.Pairwise Apart := h.imp fun h => .inl h
theorem sM {l : List Sp} {s : Sp} (hl : Good l) : ∀ y ∈ c5 l s, s.fr <= y.fr /\ y.fr <= y.to /\ y.to <= s.to /\ y.a = s.a /\ y.b = s.b := by
 obtain ⟨h1, h2⟩ := hl
 induction l generalizing s with
 | nil =>
   intro y hy;simp only [c5] at hy;split at hy
   ·simp only [qg] at hy; subst hy; refine ⟨by omega, by omega, by omega, rfl, rfl⟩
   ·cases hy
 | cons x xs ih =>
   have hx := h2 x (qc);have ih := fun s => ih (s := s) (List.Pairwise.of_cons h1) (fun y hy => h2 y (qe _ hy));intro y hy;simp only [c5] at hy;split at hy
   ·exact ih s y hy
   ·split at hy
    ·exact ih s y hy
    ·split at hy
     ·rcases List.mem_cons.1 hy with e | hy
      ·subst e; exact ⟨qh _, by show s.fr <= x.fr - 1; omega, by show x.fr - 1 <= s.to; omega, rfl, rfl⟩
      ·have := ih _ y hy;refine ⟨by have := this.1; simp only at this; omega, this.2.1, this.2.2.1, this.2.2.2.1, this.2.2.2.2⟩
     ·have := ih _ y hy;refine ⟨by have := this.1; simp only at this; omega, this.2.1, this.2.2.1, this.2.2.2.1, this.2.2.2.2⟩
theorem zW {l : List Sp} {s : Sp} (hl : Good l) (r : Int) : (∃ y ∈ c5 l s, y.has r) ↔ s.has r /\ ∀ x ∈ l, ¬ x.has r := by
 obtain ⟨h1, h2⟩ := hl
 induction l generalizing s with
 | nil =>
   simp only [c5];split
   ·simp
   ·simp [Sp.has]; omega
 | cons x xs ih =>
   have hx := h2 x (qc);have hrise : ∀ {y}, y ∈ xs -> x.to < y.fr := fun hy => qk h1 hy;have ih := fun s => ih (s := s) (List.Pairwise.of_cons h1) (fun y hy => h2 y (qe _ hy));simp only [c5, List.forall_mem_cons];split
   ·rw [ih s]; simp only [Sp.has];exact ⟨fun ⟨a, b⟩ => ⟨a, by omega, b⟩, fun ⟨a, _, b⟩ => ⟨a, b⟩⟩
   ·split
    ·rw [ih s]; simp only [Sp.has];exact ⟨fun ⟨a, b⟩ => ⟨a, by omega, b⟩, fun ⟨a, _, b⟩ => ⟨a, b⟩⟩
    ·split
     ·rw [show (∃ y ∈ { s with to := x.fr - 1 } :: c5 xs { s with fr := x.to + 1 }, y.has r) ↔ (Sp.has { s with to := x.fr - 1 } r ∨ ∃ y ∈ c5 xs { s with fr := x.to + 1 }, y.has r) by simp, ih];simp only [Sp.has];constructor
      ·rintro (⟨a, b⟩ | ⟨⟨a, b⟩, c⟩)
       ·refine ⟨⟨a, by omega⟩, by omega, fun y hy => ?_⟩;have := hrise hy; omega
       ·exact ⟨⟨by omega, b⟩, by omega, c⟩
      ·rintro ⟨⟨a, b⟩, c, d⟩;by_cases h : r <= x.fr - 1
       ·exact .inl ⟨a, h⟩
       ·exact .inr ⟨⟨by omega, b⟩, d⟩
     ·rw [ih];simp only [Sp.has];constructor
      ·rintro ⟨⟨a, b⟩, c⟩;exact ⟨⟨by omega, b⟩, by omega, c⟩
      ·rintro ⟨⟨a, b⟩, c, d⟩;exact ⟨⟨by omega, b⟩, d⟩
theorem zqu {l : List Sp} {s : Sp} (hl : Good l) : Rise (c5 l s) := by
 obtain ⟨h1, h2⟩ := hl
 induction l generalizing s with
 | nil => simp only [c5, Rise]; split <;> simp
 | cons x xs ih =>
   have hx := h2 x (qc);have hg : Good xs := ⟨List.Pairwise.of_cons h1, fun y hy => h2 y (qe _ hy)⟩;have ih := fun s => ih (s := s) hg.1 hg.2;simp only [c5];split
   ·exact ih s
   ·split
    ·exact ih s
    ·split
     ·refine List.pairwise_cons.2 ⟨fun y hy => ?_, ih _⟩;have := (sM hg y hy).1;simp only at this ⊢; omega
     ·exact ih _
theorem zg8 (l : List Sp) (s : Sp) : (c5 l s).length <= l.length + 1 := by
 induction l generalizing s with
 | nil => simp only [c5]; split <;> simp
 | cons x xs ih =>
   simp only [c5];split
   ·have := ih s; simp; omega
   ·split
    ·have := ih s; simp; omega
    ·split
     ·have := ih { s with fr := x.to + 1 }; simp; omega
     ·have := ih { s with fr := x.to + 1 }; simp; omega
theorem Good.len_aux {l : List Sp} (h : Good l) : ∀ c : Int, 0 <= c -> (∀ x ∈ l, c <= x.fr) -> c <= 1114112 -> (l.length : Int) <= 1114112 - c := by
 obtain ⟨h1, h2⟩ := h
 induction l with
 | nil => intro c h0 hc h; simp; omega
 | cons x xs ih =>
   intro c h0 hc hm;have hx := h2 x (qc);have hcx := hc x (qc);have := ih (List.Pairwise.of_cons h1) (fun y hy => h2 y (qe _ hy)) (x.to + 1) (by omega) (fun y hy => by have := qk h1 hy; omega) (by omega);simp only [qd];omega
theorem Good.len {l : List Sp} (h : Good l) : l.length <= 1114112 := by
 have := h.len_aux 0 (qh _) (fun x hx => (h.2 x hx).1) (by omega);omega
theorem zX {l t : List Sp} {s : Sp} (hl : Good l) (h0 : 0 <= s.fr) (h1 : s.to <= 1114111) (hp : t.Perm (l ++ c5 l s)) (hs : t.Pairwise fun x y => ¬ y.fr < x.fr) : Good t := by
 have hin : In (l ++ c5 l s) := fun x hx => by
  rcases List.mem_append.1 hx with hx | hx
  ·exact hl.2 x hx
  ·have := sM hl x hx; omega
 have hap : (l ++ c5 l s).Pairwise Apart := by
  refine List.pairwise_append.2 ⟨hl.1.apart, (zqu hl).apart, fun x hx y hy => ?_⟩;have hy2 := sM hl y hy;have hx2 := hl.2 x hx;by_cases h : x.to < y.fr
  ·exact .inl h
  ·by_cases h' : y.to < x.fr
   ·exact .inr h'
   ·exfalso;have hh := ((zW hl (if x.fr <= y.fr then y.fr else x.fr)).1 ⟨y, hy, by unfold Sp.has; split <;> omega⟩).2 x hx;apply hh;unfold Sp.has;split <;> omega
 have hap2 : t.Pairwise Apart := (hp.pairwise_iff (fun h => h.symm)).2 hap;have hin2 : In t := fun x hx => hin x (hp.mem_iff.1 hx);refine ⟨?_, hin2⟩;have := (List.Pairwise.and hap2 hs);refine List.Pairwise.imp_of_mem (fun {x y} hx hy h => ?_) this;have hx := hin2 x hx;have hy := hin2 y hy;rcases h.1 with h' | h'
 ·exact h'
 ·have := h.2; omega
theorem zqv {l t : List Sp} {s : Sp} (hl : Good l) (hp : t.Perm (l ++ c5 l s)) (r a b : Int) : eH t r a b ↔ eH l r a b ∨ (s.has r /\ s.a = a /\ s.b = b /\ ∀ x ∈ l, ¬ x.has r) := by
 unfold eH;simp only [hp.mem_iff, qah];constructor
 ·rintro ⟨x, hx | hx, h1, h2, h3⟩
  ·exact .inl ⟨x, hx, h1, h2, h3⟩
  ·have h4 := sM hl x hx;have h5 := (zW hl r).1 ⟨x, hx, h1⟩;exact .inr ⟨h5.1, by omega, by omega, h5.2⟩
 ·rintro (⟨x, hx, h⟩ | ⟨h1, h2, h3, h4⟩)
  ·exact ⟨x, .inl hx, h⟩
  ·obtain ⟨y, hy, h⟩ := (zW hl r).2 ⟨h1, h4⟩;have h5 := sM hl y hy;exact ⟨y, .inr hy, h, by omega, by omega⟩
theorem zg9 : ∀ {t u : List Sp}, t.Perm u -> Good t -> Good u -> t = u
 | [], u, hp, _, _ => by simp at hp; exact hp.symm
 | x :: t, [], hp, _, _ => by simp at hp
 | x :: t, y :: u, hp, ht, hu => by
   have hxy : x = y := by
    have hx : x ∈ y :: u := hp.mem_iff.1 qc;have hy : y ∈ x :: t := hp.mem_iff.2 qc;rcases List.mem_cons.1 hx with e | hx
    ·exact e
    ·rcases List.mem_cons.1 hy with e | hy
     ·exact e.symm
     ·have h1 := qk hu.1 hx;have h2 := qk ht.1 hy;have h3 := ht.2 x qc;have h4 := hu.2 y qc;omega
   subst hxy;have hp' : t.Perm u := hp.cons_inv;rw [zg9 hp' ⟨List.Pairwise.of_cons ht.1, fun z hz => ht.2 z (qe _ hz)⟩ ⟨List.Pairwise.of_cons hu.1, fun z hz => hu.2 z (qe _ hz)⟩]
def eL (acc : List Sp) (x : Sp) : List Sp :=
 match acc.getLast? with
 | some y => if y.to + 1 = x.fr /\ y.a = x.a /\ y.b = x.b then acc.dropLast ++ [{ y with to := x.to }] else acc ++ [x]
 | none => acc ++ [x]
def iO (l : List Sp) : List Sp := l.foldl eL []
def Split (l : List Sp) : Prop := ∀ (i : Nat) (h : i + 1 < l.length), ¬ (l[i].to + 1 = l[i+1].fr /\ l[i].a = l[i+1].a /\ l[i].b = l[i+1].b)
theorem Split.append {l : List Sp} {x : Sp} (h : Split l) (hl : ∀ y, l.getLast? = some y -> ¬ (y.to + 1 = x.fr /\ y.a = x.a /\ y.b = x.b)) : Split (l ++ [x]) := by
 intro i hi;simp only [qj, qd, qp] at hi;by_cases h1 : i + 1 < l.length
 ·have := h i h1;rw [ql (by omega), ql h1];exact this
 ·have e : i + 1 = l.length := by omega
  have := hl l[i] (by rw [qai, qi (by omega)]; congr 2; omega);rw [ql (by omega), qbb (by omega)];simpa using this
theorem zqw {l : List Sp} {y z : Sp} (h : Split (l ++ [y])) (h1 : z.fr = y.fr) (h2 : z.a = y.a) (h3 : z.b = y.b) : Split (l ++ [z]) := by
 refine Split.append (fun i hi => ?_) fun u hu => ?_
 ·have := h i (by simp; omega);rw [ql (by omega), ql hi] at this;exact this
 ·have hlen : 0 < l.length := by cases l with | nil => simp at hu | cons => simp
  have := h (l.length - 1) (by simp; omega);rw [ql (by omega), qbb (by omega)] at this;rw [qai, qi (by omega)] at hu;cases hu;simpa [h1, h2, h3] using this
theorem zha {l : List Sp} {y : Sp} (h : l.getLast? = some y) : ∃ k, l = k ++ [y] := by
 refine ⟨l.dropLast, ?_⟩;have hne : l ≠ [] := by rintro rfl; simp at h
 rw [qav hne] at h;cases h;exact (qaw hne).symm
theorem zqx (acc : List Sp) (x : Sp) : (eL acc x).length <= acc.length + 1 := by
 unfold eL;split
 ·split <;> simp <;> omega
 ·simp
theorem zqy {acc : List Sp} {x : Sp} (hg : Good (acc ++ [x])) (hs : Split acc) : Good (eL acc x) /\ Split (eL acc x) /\ (∀ r a b, eH (eL acc x) r a b ↔ eH (acc ++ [x]) r a b) /\ (∀ y, (eL acc x).getLast? = some y -> y.to = x.to) := by
 unfold eL;split
 next y hy =>
  obtain ⟨k, rfl⟩ := zha hy;split
  next h =>
   obtain ⟨h1, h2, h3⟩ := h;rw [qad];obtain ⟨g1, g2⟩ := hg;have hy2 := g2 y (by simp);have hx2 := g2 x (by simp);refine ⟨⟨?_, fun z hz => ?_⟩, zqw hs rfl rfl rfl, fun r a b => ?_, fun z hz => by simp at hz; subst hz; rfl⟩
   ·have g3 := (List.pairwise_append.1 g1).1;have g4 := List.pairwise_append.1 g3;refine List.pairwise_append.2 ⟨g4.1, by simp, fun u hu v hv => ?_⟩;simp only [qg] at hv;subst hv;exact g4.2.2 u hu y (by simp)
   ·rcases List.mem_append.1 hz with hz | hz
    ·exact g2 z (by simp [hz])
    ·simp only [qg] at hz; subst hz; exact ⟨hy2.1, by show y.fr <= x.to; omega, hx2.2.2⟩
   ·simp only [eH, qah, qg, Sp.has];constructor
    ·rintro ⟨z, hz | rfl, h⟩
     ·exact ⟨z, .inl (.inl hz), h⟩
     ·obtain ⟨⟨e1, e2⟩, e3, e4⟩ := h;simp only at e1 e2 e3 e4;by_cases hr : r <= y.to
      ·exact ⟨y, .inl (.inr rfl), ⟨e1, hr⟩, e3, e4⟩
      ·exact ⟨x, .inr rfl, ⟨by omega, e2⟩, by omega, by omega⟩
    ·rintro ⟨z, (hz | rfl) | rfl, ⟨e1, e2⟩, e3, e4⟩
     ·exact ⟨z, .inl hz, ⟨e1, e2⟩, e3, e4⟩
     ·exact ⟨_, .inr rfl, ⟨e1, by show r <= x.to; omega⟩, e3, e4⟩
     ·exact ⟨_, .inr rfl, ⟨by show y.fr <= r; omega, e2⟩, by show y.a = a; omega, by show y.b = b; omega⟩
  next h =>
   refine ⟨hg, hs.append fun z hz => ?_, fun r a b => Iff.rfl, fun z hz => by simp at hz; subst hz; rfl⟩;rw [hy] at hz; cases hz; exact h
 next hy =>
  refine ⟨hg, hs.append fun z hz => ?_, fun r a b => Iff.rfl, fun z hz => by simp at hz; subst hz; rfl⟩;rw [hy] at hz; cases hz
theorem zqz {l : List Sp} : ∀ {acc : List Sp}, Good acc -> Split acc -> Good l -> (∀ y, acc.getLast? = some y -> ∀ x ∈ l, y.to < x.fr) -> Good (l.foldl eL acc) /\ Split (l.foldl eL acc) /\ ∀ r a b, eH (l.foldl eL acc) r a b ↔ eH acc r a b ∨ eH l r a b := by
 induction l with
 | nil => intro acc h1 h2 h3 h4; exact ⟨h1, h2, fun r a b => by simp [eH]⟩
 | cons x xs ih =>
   intro acc h1 h2 h3 h4;have hxs : Good xs := ⟨List.Pairwise.of_cons h3.1, fun z hz => h3.2 z (qe _ hz)⟩
   have hg : Good (acc ++ [x]) := by
    refine ⟨List.pairwise_append.2 ⟨h1.1, by simp, fun u hu v hv => ?_⟩, fun z hz => ?_⟩
    ·simp only [qg] at hv;subst hv;have hne : acc ≠ [] := by rintro rfl; simp at hu
     obtain ⟨y, hy⟩ : ∃ y, acc.getLast? = some y := ⟨_, qav hne⟩;have h5 := h4 y hy v qc;obtain ⟨k, rfl⟩ := zha hy;rcases List.mem_append.1 hu with hu | hu
     ·have := (List.pairwise_append.1 h1.1).2.2 u hu y (by simp);have := h1.2 y (by simp);omega
     ·simp only [qg] at hu; subst hu; exact h5
    ·rcases List.mem_append.1 hz with hz | hz
     ·exact h1.2 z hz
     ·simp only [qg] at hz; subst hz; exact h3.2 z qc
   obtain ⟨j1, j2, j3, j4⟩ := zqy hg h2;obtain ⟨k1, k2, k3⟩ := ih j1 j2 hxs (fun y hy z hz => by rw [j4 y hy]; exact qk h3.1 hz);refine ⟨k1, k2, fun r a b => ?_⟩;rw [qv, k3, j3];unfold eH;simp only [qah, qay, qbe, or_false];constructor
   ·rintro (⟨z, hz | rfl, h⟩ | ⟨z, hz, h⟩)
    ·exact .inl ⟨z, hz, h⟩
    ·exact .inr ⟨_, .inl rfl, h⟩
    ·exact .inr ⟨z, .inr hz, h⟩
   ·rintro (⟨z, hz, h⟩ | ⟨z, rfl | hz, h⟩)
    ·exact .inl ⟨z, .inl hz, h⟩
    ·exact .inl ⟨_, .inr rfl, h⟩
    ·exact .inr ⟨z, hz, h⟩
theorem zY {l : List Sp} (h : Good l) : Good (iO l) /\ Split (iO l) /\ ∀ r a b, eH (iO l) r a b ↔ eH l r a b := by
 have := zqz (l := l) (acc := []) ⟨List.Pairwise.nil, fun _ h => by cases h⟩ (fun i hi => by simp at hi) h (by simp);refine ⟨this.1, this.2.1, fun r a b => ?_⟩;rw [iO, this.2.2];simp [eH]
def ins (x : Sp) : List Sp -> List Sp
 | [] => [x]
 | y :: l => if y.fr < x.fr then y :: ins x l else x :: y :: l
def vH : List Sp -> List Sp
 | [] => []
 | x :: l => ins x (vH l)
theorem zhb (x : Sp) (l : List Sp) : (ins x l).Perm (x :: l) := by
 induction l with
 | nil => exact List.Perm.refl _
 | cons y l ih =>
   simp only [ins];split
   ·exact ((List.Perm.cons y ih).trans (List.Perm.swap x y l))
   ·exact List.Perm.refl _
theorem vI (l : List Sp) : (vH l).Perm l := by
 induction l with
 | nil => exact List.Perm.refl _
 | cons x l ih => exact (zhb x _).trans (List.Perm.cons x ih)
theorem zq0 {x : Sp} {l : List Sp} (h : l.Pairwise fun x y => ¬ y.fr < x.fr) : (ins x l).Pairwise fun x y => ¬ y.fr < x.fr := by
 induction l with
 | nil => simp [ins]
 | cons y l ih =>
   simp only [ins];have h1 : ∀ z ∈ l, ¬ z.fr < y.fr := fun z hz => qk h hz;split
   ·refine List.pairwise_cons.2 ⟨fun z hz => ?_, ih (List.Pairwise.of_cons h)⟩;rcases List.mem_cons.1 ((zhb x l).mem_iff.1 hz) with e | hz
    ·subst e; omega
    ·exact h1 z hz
   ·refine List.pairwise_cons.2 ⟨fun z hz => ?_, h⟩;rcases List.mem_cons.1 hz with e | hz
    ·subst e; omega
    ·have := h1 z hz; omega
theorem zhc (l : List Sp) : (vH l).Pairwise fun x y => ¬ y.fr < x.fr := by
 induction l with
 | nil => exact List.Pairwise.nil
 | cons x l ih => exact zq0 ih
def Row.sp (x : Row) : Sp := ⟨if x.fr < 0 then 0 else x.fr, if 1114111 < x.to then 1114111 else x.to, x.a, x.b⟩
theorem Row.sp_lo (x : Row) : 0 <= x.sp.fr := by simp only [Row.sp]; split <;> omega
theorem Row.sp_hi (x : Row) : x.sp.to <= 1114111 := by simp only [Row.sp]; split <;> omega
def kR (k : Int) (l : List Sp) (x : Row) : List Sp := if x.kind = k then vH (l ++ c5 l x.sp) else l
def gK (k : Int) (rows : List Row) : List Sp := rows.foldl (kR k) []
def aK (k : Int) (rows : List Row) : List Sp := iO (gK k rows)
def Row.has (x : Row) (k r : Int) : Bool := decide (x.kind = k) && (decide (x.fr <= r) && decide (r <= x.to))
def first (rows : List Row) (k r : Int) : Option (Int × Int) := (rows.find? fun x => x.has k r).map fun x => (x.a, x.b)
theorem zq1 {k : Int} {l : List Sp} (h : Good l) (x : Row) : Good (kR k l x) := by
 unfold kR;split
 ·exact zX h x.sp_lo x.sp_hi (vI _) (zhc _)
 ·exact h
theorem zq2 {k : Int} {l t : List Sp} (h : Good l) {x : Row} (hx : x.kind = k) (hp : t.Perm (l ++ c5 l x.sp)) (hs : t.Pairwise fun x y => ¬ y.fr < x.fr) : t = kR k l x := by
 unfold kR;rw [if_pos hx];exact zg9 (hp.trans (vI _).symm) (zX h x.sp_lo x.sp_hi hp hs) (zX h x.sp_lo x.sp_hi (vI _) (zhc _))
theorem zq3 {k : Int} (rows : List Row) : ∀ {l : List Sp}, Good l -> Good (rows.foldl (kR k) l) := by
 induction rows with
 | nil => intro l h; exact h
 | cons x xs ih => intro l h; exact ih (zq1 h x)
theorem vJ (k : Int) (rows : List Row) : Good (gK k rows) := zq3 rows ⟨List.Pairwise.nil, fun _ h => by cases h⟩
theorem zhd (k : Int) (rows : List Row) (x : Row) : gK k (rows ++ [x]) = kR k (gK k rows) x := by simp [gK]
theorem zq4 (rows : List Row) (x : Row) (k r : Int) : first (rows ++ [x]) k r = (first rows k r).or (if x.has k r then some (x.a, x.b) else none) := by
 unfold first
 rw [List.find?_append];cases h : rows.find? fun x => x.has k r with
 | some y => simp
 | none => simp only [qch, Option.map_none, List.find?_singleton]; split <;> rfl
theorem zq5 (k : Int) (rows : List Row) (r a b : Int) : eH (gK k rows) r a b ↔ (0 <= r /\ r <= 1114111) /\ first rows k r = some (a, b) := by
 suffices H : ∀ n, ∀ (rows : List Row), rows.length = n -> ∀ r a b, eH (gK k rows) r a b ↔ (0 <= r /\ r <= 1114111) /\ first rows k r = some (a, b) from H _ rows rfl r a b
 intro n
 induction n with
 | zero =>
   intro rows h r a b;have := List.length_eq_zero_iff.1 h;subst this;simp [gK, eH, first]
 | succ n ih =>
   intro rows h r a b
   obtain ⟨ys, x, rfl⟩ : ∃ ys x, rows = ys ++ [x] := by
    have hne : rows ≠ [] := by rintro rfl; simp at h
    exact ⟨rows.dropLast, rows.getLast hne, (qaw hne).symm⟩
   have ih := ih ys (by simpa using h)
   rw [zhd, zq4];unfold kR;split
   next hk =>
    rw [zqv (vJ k ys) (vI _), ih]
    have hno : (∀ y ∈ gK k ys, ¬ y.has r) ↔ ∀ a b, ¬ eH (gK k ys) r a b := by
     constructor
     ·rintro h a b ⟨y, hy, h1, _⟩; exact h y hy h1
     ·intro h y hy h1; exact h y.a y.b ⟨y, hy, h1, rfl, rfl⟩
    rw [hno];simp only [ih]
    have hsp : x.sp.has r ↔ (0 <= r /\ r <= 1114111) /\ x.has k r = true := by
     simp only [Sp.has, Row.sp, Row.has, qf, aB, hk, true_and];split <;> split <;> omega
    rw [hsp];cases hf : first ys k r with
    | some p =>
      simp only [Option.some_or];constructor
      ·rintro (h | ⟨⟨h1, h2⟩, _, _, h3⟩)
       ·exact h
       ·exact absurd ⟨h1, rfl⟩ (h3 p.1 p.2)
      ·exact fun h => .inl h
    | none =>
      simp only [qch, reduceCtorEq, and_false, false_or, not_false_eq_true, implies_true, and_true];constructor
      ·rintro ⟨⟨h1, h2⟩, h3, h4⟩; rw [if_pos h2, <- h3, <- h4]; exact ⟨h1, rfl⟩
      ·rintro ⟨h1, h2⟩;split at h2
       ·cases h2; exact ⟨⟨h1, by assumption⟩, rfl, rfl⟩
       ·cases h2
   next hk =>
    rw [ih];have : x.has k r = false := by simp [Row.has, hk]
    rw [this];simp
theorem oB (k : Int) (rows : List Row) : Good (aK k rows) := (zY (vJ k rows)).1
theorem zq6 (k : Int) (rows : List Row) (r a b : Int) : eH (aK k rows) r a b ↔ (0 <= r /\ r <= 1114111) /\ first rows k r = some (a, b) := by
 rw [aK, (zY (vJ k rows)).2.2, zq5]
example : aK 1 [⟨1, 5, 9, 7, 0⟩, ⟨1, 8, 12, 8, 0⟩] = [⟨5, 9, 7, 0⟩, ⟨10, 12, 8, 0⟩] := by decide
end Go.Eng.Rows
namespace Go.Eng.Trie
open Go Go.Eng
structure Pc (α : Type) where
 fr : Int
 to : Int
 v : α
variable {α : Type}
def findL : List (Pc α) -> α -> Int -> Int -> α × Int
 | [], z, _, last => (z, last)
 | p :: r, z, i, last => if p.fr <= i /\ i <= p.to then (p.v, if last < p.to then last else p.to) else if i < p.fr /\ p.fr <= last then findL r z i (p.fr - 1) else findL r z i last
theorem zZ (p : Pc α) (r : List (Pc α)) (z : α) (i last : Int) : findL (p :: r) z i last = if p.fr <= i /\ i <= p.to then (p.v, if last < p.to then last else p.to) else if i < p.fr /\ p.fr <= last then findL r z i (p.fr - 1) else findL r z i last := rfl
def gL : List (Pc α) -> α -> Int -> α
 | [], z, _ => z
 | p :: r, z, i => if p.fr <= i /\ i <= p.to then p.v else gL r z i
theorem sN : ∀ (l : List (Pc α)) (z : α) (i last : Int), i <= last -> (findL l z i last).1 = gL l z i /\ i <= (findL l z i last).2 /\ (findL l z i last).2 <= last /\ ∀ j, i <= j -> j <= (findL l z i last).2 -> gL l z j = (findL l z i last).1
 | [], z, i, last, h => ⟨rfl, h, qh _, fun _ _ _ => rfl⟩
 | p :: r, z, i, last, h => by
   unfold findL gL;by_cases h1 : p.fr <= i /\ i <= p.to
   ·rw [if_pos h1, if_pos h1];dsimp only;have : (if last < p.to then last else p.to) <= last /\ (if last < p.to then last else p.to) <= p.to /\ i <= (if last < p.to then last else p.to) := by split <;> omega
    refine ⟨rfl, this.2.2, this.1, fun j hj hj2 => ?_⟩;rw [if_pos (by omega)]
   ·rw [if_neg h1, if_neg h1];by_cases h2 : i < p.fr /\ p.fr <= last
    ·rw [if_pos h2];obtain ⟨a, b, c, d⟩ := sN r z i (p.fr - 1) (by omega);refine ⟨a, b, by omega, fun j hj hj2 => ?_⟩;rw [if_neg (by omega)];exact d j hj hj2
    ·rw [if_neg h2];obtain ⟨a, b, c, d⟩ := sN r z i last h;refine ⟨a, b, c, fun j hj hj2 => ?_⟩;rw [if_neg (by omega)];exact d j hj hj2
def aV (α : Type) := { l : List α // l.length = 128 }
instance [DecidableEq α] : DecidableEq (aV α) := fun a b => if h : a.1 = b.1 then isTrue (Subtype.ext h) else isFalse fun e => h (by rw [e])
def rep (v : α) : aV α := ⟨List.replicate 128 v, by simp⟩
variable {sz : Int} {F : Int -> α} {idx : List Int} {blk : List (aV α)}
structure TOK (sz : Int) (F : Int -> α) (idx : List Int) (blk : List (aV α)) : Prop where
 len : sz <= 128 * idx.length
 ok : ∀ (q : Nat) k, idx[q]? = some k -> 0 <= k /\ ∃ b : aV α, blk[k.toNat]? = some b /\ ∀ (j : Nat) u, b.1[j]? = some u -> (128 * q + j : Int) < sz -> u = F (128 * q + j)
theorem TOK.get (h : TOK sz F idx blk) {i : Int} (h0 : 0 <= i) (h1 : i < sz) : ∃ (hq : (i / 128).toNat < idx.length), 0 <= idx[(i / 128).toNat] /\ ∃ (hk : idx[(i / 128).toNat].toNat < blk.length), ∃ (hj : (i % 128).toNat < (blk[idx[(i / 128).toNat].toNat]).1.length), (blk[idx[(i / 128).toNat].toNat]).1[(i % 128).toNat] = F i := by
 have hl := h.len;have hq : (i / 128).toNat < idx.length := by omega
 obtain ⟨g0, b, g1, g2⟩ := h.ok (i / 128).toNat _ (qi hq);obtain ⟨hk, hb⟩ := List.getElem?_eq_some_iff.1 g1;have hj : (i % 128).toNat < (blk[idx[(i / 128).toNat].toNat]).1.length := by rw [(blk[idx[(i / 128).toNat].toNat]).2]; omega
 refine ⟨hq, g0, hk, hj, ?_⟩;have hj' : (i % 128).toNat < b.1.length := by rw [b.2]; omega
 have := g2 (i % 128).toNat _ (qi hj') (by omega);have e : (128 * ((i / 128).toNat : Int) + ((i % 128).toNat : Int)) = i := by omega
 rw [e] at this;simp only [hb];exact this
theorem z7 {b c : aV α} {k : Nat} (h : blk[k]? = some b) : (blk ++ [c])[k]? = some b := by
 have := (List.getElem?_eq_some_iff.1 h).1;rw [qaj this]; exact h
variable [DecidableEq α]
structure TInv (sz : Int) (F : Int -> α) (idx : List Int) (blk : List (aV α)) (kn : List (aV α × Int)) (ev : List (α × Int)) : Prop where
 kn_ok : ∀ b k, cR b kn = some k -> 0 <= k /\ blk[k.toNat]? = some b
 ev_ok : ∀ v k, cR v ev = some k -> 0 <= k /\ blk[k.toNat]? = some (rep v)
 idx_ok : ∀ (q : Nat) k, idx[q]? = some k -> 0 <= k /\ ∃ b : aV α, blk[k.toNat]? = some b /\ ∀ (j : Nat) u, b.1[j]? = some u -> (128 * q + j : Int) < sz -> u = F (128 * q + j)
variable {kn : List (aV α × Int)} {ev : List (α × Int)}
theorem TInv.nil : TInv sz F [] [] [] [] := ⟨fun _ _ h => (by cases h), fun _ _ h => (by cases h), fun _ _ h => (by simp at h)⟩
theorem TInv.place (h : TInv sz F idx blk kn ev) (b : aV α) : TInv sz F idx (blk ++ [b]) (cW b (blk.length : Int) kn) ev := by
 refine ⟨fun c k hc => ?_, fun v k hv => ?_, fun q k hq => ?_⟩
 ·rw [nY] at hc;split at hc
  ·rename_i e;cases hc;exact ⟨by omega, by simp [e]⟩
  ·exact ⟨(h.kn_ok c k hc).1, z7 (h.kn_ok c k hc).2⟩
 ·exact ⟨(h.ev_ok v k hv).1, z7 (h.ev_ok v k hv).2⟩
 ·obtain ⟨h1, c, h2, h3⟩ := h.idx_ok q k hq;exact ⟨h1, c, z7 h2, h3⟩
theorem TInv.even (h : TInv sz F idx blk kn ev) {v : α} {k : Int} (h0 : 0 <= k) (hk : blk[k.toNat]? = some (rep v)) : TInv sz F idx blk kn (cW v k ev) := by
 refine ⟨h.kn_ok, fun c k' hc => ?_, h.idx_ok⟩;rw [nY] at hc;split at hc
 ·rename_i e;cases hc;exact ⟨h0, by rw [e]; exact hk⟩
 ·exact h.ev_ok c k' hc
theorem TInv.push (h : TInv sz F idx blk kn ev) {b : aV α} {k : Int} (h0 : 0 <= k) (hk : blk[k.toNat]? = some b) (hb : ∀ (j : Nat) u, b.1[j]? = some u -> (128 * idx.length + j : Int) < sz -> u = F (128 * idx.length + j)) : TInv sz F (idx ++ [k]) blk kn ev := by
 refine ⟨h.kn_ok, h.ev_ok, fun q k' hq => ?_⟩;rcases qba q idx.length with hl | hl | hl
 ·rw [qaj hl] at hq;exact h.idx_ok q k' hq
 ·subst hl;simp at hq;subst hq;exact ⟨h0, b, hk, hb⟩
 ·rw [qbj (by simp; omega)] at hq; cases hq
end Go.Eng.Trie
namespace Go.Eng.Rows
open Go Go.Eng Go.Eng.Trie
def cH (rows : List Row) (k r : Int) : Option (Int × Int) := if 0 <= r /\ r <= 1114111 then first rows k r else none
def aG (rows : List Row) (k r : Int) : Int := match cH rows k r with | some p => p.1 | none => 0
def cJ (rows : List Row) (k r : Int) : Bool := match cH rows k r with | some p => decide (p.1 = 1) | none => false
def aJ (rows : List Row) (r : Int) : Int × Int := match cH rows 2 r with | some p => p | none => (0, 0)
def dX (rows : List Row) (r : Int) : Bool × Bool × Bool × Bool := (cJ rows 5 r, cJ rows 7 r, cJ rows 8 r, cJ rows 3 r)
def eD (rows : List Row) (r : Int) : Bool :=
 !decide (aJ rows r = (0, 0)) && (decide ((aJ rows r).2 = 0) || (cJ rows 3 r || (!decide (aG rows 1 r = 0) || !decide (aG rows 1 (aJ rows r).1 = 0))))
theorem zhe {rows : List Row} {k r a b : Int} : eH (aK k rows) r a b ↔ cH rows k r = some (a, b) := by
 rw [zq6];unfold cH;by_cases h : 0 <= r /\ r <= 1114111
 ·rw [if_pos h]; exact ⟨fun h => h.2, fun h2 => ⟨h, h2⟩⟩
 ·rw [if_neg h]; exact ⟨fun h2 => absurd h2.1 h, fun h2 => by cases h2⟩
theorem z8 {rows : List Row} {k r : Int} {p : Int × Int} (h : cH rows k r = some p) : ∃ s ∈ aK k rows, s.has r /\ s.a = p.1 /\ s.b = p.2 := by
 obtain ⟨s, h1, h2, h3, h4⟩ := zhe.2 (show cH rows k r = some (p.1, p.2) from h);exact ⟨s, h1, h2, h3, h4⟩
theorem oC {rows : List Row} {k r : Int} {s : Sp} (hs : s ∈ aK k rows) (h : s.has r) : cH rows k r = some (s.a, s.b) := zhe.1 ⟨s, hs, h, rfl, rfl⟩
theorem zq7 {rows : List Row} {k r : Int} (h : cH rows k r = none) : ∀ s ∈ aK k rows, ¬ s.has r := fun s hs h2 => by rw [oC hs h2] at h; cases h
theorem vK {rows : List Row} {k r : Int} (h : ∀ s ∈ aK k rows, ¬ s.has r) : cH rows k r = none := by
 cases hf : cH rows k r with
 | none => rfl
 | some p => obtain ⟨s, h1, h2, _⟩ := z8 hf; exact absurd h2 (h s h1)
theorem vL {α : Type} {F : Int -> α} {z : α} {i : Int} : ∀ {l : List (Pc α)}, (∀ p ∈ l, p.fr <= i -> i <= p.to -> p.v = F i) -> ((∀ p ∈ l, ¬ (p.fr <= i /\ i <= p.to)) -> F i = z) -> gL l z i = F i
 | [], _, h2 => (h2 (fun p hp => by cases hp)).symm
 | p :: r, h1, h2 => by
   unfold gL;by_cases h : p.fr <= i /\ i <= p.to
   ·rw [if_pos h]; exact h1 p qc h.1 h.2
   ·rw [if_neg h];refine vL (fun q hq => h1 q (qe _ hq)) fun h3 => h2 fun q hq => ?_;rcases List.mem_cons.1 hq with rfl | hq
    ·exact h
    ·exact h3 q hq
theorem zq8 (rows : List Row) (k i : Int) : gL ((aK k rows).map fun s => (⟨s.fr, s.to, s.a⟩ : Pc Int)) 0 i = aG rows k i := by
 refine vL (F := aG rows k) (fun p hp h1 h2 => ?_) (fun h => ?_)
 ·obtain ⟨s, hs, rfl⟩ := List.mem_map.1 hp;unfold aG; rw [oC hs ⟨h1, h2⟩]
 ·unfold aG; rw [vK fun s hs h2 => h _ (qbq hs) ⟨h2.1, h2.2⟩]
theorem zq9 (rows : List Row) (i : Int) : gL ((aK 2 rows).map fun s => (⟨s.fr, s.to, (s.a, s.b)⟩ : Pc (Int × Int))) (0, 0) i = aJ rows i := by
 refine vL (F := aJ rows) (fun p hp h1 h2 => ?_) (fun h => ?_)
 ·obtain ⟨s, hs, rfl⟩ := List.mem_map.1 hp;unfold aJ; rw [oC hs ⟨h1, h2⟩]
 ·unfold aJ; rw [vK fun s hs h2 => h _ (qbq hs) ⟨h2.1, h2.2⟩]
def eI (at' last : Int) : List Sp -> Int
 | [] => last
 | s :: r => if s.fr > at' /\ s.fr <= last then eI at' (s.fr - 1) r else eI at' last r
theorem sO {a : Int} : ∀ {l : List Sp} {last : Int}, eI a last l <= last
 | [], last => qh _
 | s :: r, last => by
   unfold eI;split
   ·have := sO (a := a) (l := r) (last := s.fr - 1); omega
   ·exact sO
theorem zaa {a : Int} : ∀ {l : List Sp} {last : Int}, ∀ s ∈ l, s.fr > a -> s.fr > eI a last l
 | s :: r, last, x, hx, h => by
   unfold eI;have hle1 := sO (a := a) (l := r) (last := s.fr - 1);have hle2 := sO (a := a) (l := r) (last := last);rcases List.mem_cons.1 hx with rfl | hx
   ·split <;> omega
   ·split
    ·exact zaa x hx h
    ·exact zaa x hx h
theorem zab {a i : Int} : ∀ {l : List Sp} {last : Int}, i <= last -> (∀ s ∈ l, s.fr > a -> s.fr > i) -> i <= eI a last l
 | [], last, h, _ => h
 | s :: r, last, h, h2 => by
   unfold eI;split
   ·rename_i hc;exact zab (by have := h2 s qc hc.1; omega) fun x hx => h2 x (qe _ hx)
   ·exact zab h fun x hx => h2 x (qe _ hx)
theorem zhf (a : Int) : ∀ (l m : List Sp) (last : Int), eI a last (l ++ m) = eI a (eI a last l) m
 | [], m, last => rfl
 | s :: r, m, last => by
   simp only [qn, eI];split <;> exact zhf a r m _
def mO (ll : List (List Sp)) (x : Int) : Prop := x = 0 ∨ ∃ l ∈ ll, ∃ s ∈ l, x = s.fr ∨ x = s.to + 1
theorem zra {ll : List (List Sp)} {a i : Int} (h1 : a <= i) (h2 : ∀ x, mO ll x -> x <= a ∨ i < x) {l : List Sp} (hl : l ∈ ll) {s : Sp} (hs : s ∈ l) : s.has i ↔ s.has a := by
 have c1 := h2 s.fr (.inr ⟨l, hl, s, hs, .inl rfl⟩);have c2 := h2 (s.to + 1) (.inr ⟨l, hl, s, hs, .inr rfl⟩);unfold Sp.has;omega
theorem zrb {t : List Int} {i : Int} (h0 : ∃ x ∈ t, x <= i) : ∃ a ∈ t, a <= i /\ ∀ x ∈ t, x <= a ∨ i < x := by
 induction t with
 | nil => obtain ⟨x, hx, _⟩ := h0; cases hx
 | cons y r ih =>
   by_cases hr : ∃ x ∈ r, x <= i
   ·obtain ⟨a, h1, h2, h3⟩ := ih hr;by_cases hy : y <= i /\ a < y
    ·refine ⟨y, qc, hy.1, fun x hx => ?_⟩;rcases List.mem_cons.1 hx with rfl | hx
     ·exact .inl (qh _)
     ·have := h3 x hx; omega
    ·refine ⟨a, qe _ h1, h2, fun x hx => ?_⟩;rcases List.mem_cons.1 hx with rfl | hx
     ·omega
     ·exact h3 x hx
   ·obtain ⟨x, hx, hxi⟩ := h0;rcases List.mem_cons.1 hx with rfl | hx
    ·refine ⟨x, qc, hxi, fun z hz => ?_⟩;rcases List.mem_cons.1 hz with rfl | hz
     ·exact .inl (qh _)
     ·exact .inr (Int.not_le.1 fun hle => hr ⟨z, hz, hle⟩)
    ·exact absurd ⟨x, hx, hxi⟩ hr
abbrev Fl := Bool × Bool × Bool × Bool
def l4 (rows : List Row) : List (List Sp) := [aK 5 rows, aK 7 rows, aK 8 rows, aK 3 rows]
theorem vM {rows : List Row} {k a i : Int} (h : ∀ s ∈ aK k rows, s.has i ↔ s.has a) : cH rows k i = cH rows k a := by
 cases hf : cH rows k a with
 | none => exact vK fun s hs h2 => zq7 hf s hs ((h s hs).1 h2)
 | some p =>
   obtain ⟨s, h1, h2, h3, h4⟩ := z8 hf;rw [oC h1 ((h s h1).2 h2), h3, h4]
theorem zhg {rows : List Row} {a i : Int} (h : ∀ l ∈ l4 rows, ∀ s ∈ l, s.has i ↔ s.has a) : dX rows i = dX rows a := by
 unfold dX cJ;rw [vM (h _ (by simp [l4]) : ∀ s ∈ aK 5 rows, _), vM (h _ (by simp [l4]) : ∀ s ∈ aK 7 rows, _), vM (h _ (by simp [l4]) : ∀ s ∈ aK 8 rows, _), vM (h _ (by simp [l4]) : ∀ s ∈ aK 3 rows, _)]
structure LastOK (ll : List (List Sp)) (a x : Int) : Prop where
 top : x <= 1114111
 le : ∀ l ∈ ll, ∀ s ∈ l, s.has a -> x <= s.to
 ge : ∀ i, i <= 1114111 -> (∀ l ∈ ll, ∀ s ∈ l, s.has a -> i <= s.to) -> i <= x
theorem LastOK.nil (a : Int) : LastOK [] a 1114111 := ⟨qh _, fun l hl => (by cases hl), fun i hi _ => hi⟩
theorem LastOK.some {ll : List (List Sp)} {l : List Sp} {a x : Int} (h : LastOK ll a x) {s : Sp} (hs : s ∈ l) (ha : s.has a) (hg : Good l) : LastOK (ll ++ [l]) a (if s.to < x then s.to else x) := by
 have uniq : ∀ y ∈ l, y.has a -> y.to = s.to := fun y hy hya => by
  obtain ⟨i, hi, rfl⟩ := qag hy;obtain ⟨j, hj, rfl⟩ := qag hs;have hr := List.pairwise_iff_getElem.1 hg.1;unfold Sp.has at hya ha;rcases qba i j with hij | hij | hij
  ·have := hr i j hi hj hij; omega
  ·subst hij; rfl
  ·have := hr j i hj hi hij; omega
 have h1 := h.top;refine ⟨by split <;> omega, fun m hm y hy hya => ?_, fun i hi h2 => ?_⟩
 ·rcases List.mem_append.1 hm with hm | hm
  ·have := h.le m hm y hy hya; split <;> omega
  ·simp only [qg] at hm; subst hm;have := uniq y hy hya; split <;> omega
 ·have g1 := h.ge i hi fun m hm => h2 m (qae _ hm);have g2 := h2 l (by simp) s hs ha;split <;> omega
theorem LastOK.none {ll : List (List Sp)} {l : List Sp} {a x : Int} (h : LastOK ll a x) (hn : ∀ s ∈ l, ¬ s.has a) : LastOK (ll ++ [l]) a x := by
 refine ⟨h.top, fun m hm y hy hya => ?_, fun i hi h2 => h.ge i hi fun m hm => h2 m (qae _ hm)⟩;rcases List.mem_append.1 hm with hm | hm
 ·exact h.le m hm y hy hya
 ·simp only [qg] at hm; subst hm; exact absurd hya (hn y hy)
structure PiecesOK (rows : List Row) (done : List Int) (P : List (Pc Fl)) : Prop where
 sound : ∀ p ∈ P, (0 <= p.fr /\ p.fr <= 1114112) /\ ∀ i, p.fr <= i -> i <= p.to -> p.v = dX rows i
 all : ∀ a ∈ done, dX rows a ≠ (false, false, false, false) -> ∃ p ∈ P, p.fr = a /\ ∀ i, a <= i -> i <= 1114111 -> (∀ l ∈ l4 rows, ∀ s ∈ l, (s.has i ↔ s.has a) /\ (s.fr > a -> s.fr > i)) -> i <= p.to
theorem PiecesOK.nil (rows : List Row) : PiecesOK rows [] [] := ⟨fun p hp => (by cases hp), fun a ha => (by cases ha)⟩
theorem PiecesOK.skip {rows : List Row} {done : List Int} {P : List (Pc Fl)} (h : PiecesOK rows done P) {a : Int} (ha : dX rows a = (false, false, false, false)) : PiecesOK rows (done ++ [a]) P := by
 refine ⟨h.sound, fun b hb hne => ?_⟩;rcases List.mem_append.1 hb with hb | hb
 ·exact h.all b hb hne
 ·simp only [qg] at hb; subst hb; exact absurd ha hne
theorem PiecesOK.put {rows : List Row} {done : List Int} {P : List (Pc Fl)} (h : PiecesOK rows done P) {a x : Int} (h0 : 0 <= a) (h1 : a <= 1114112) (hx : LastOK (l4 rows) a x) : PiecesOK rows (done ++ [a]) (P ++ [⟨a, eI a x (l4 rows).flatten, dX rows a⟩]) := by
 refine ⟨fun p hp => ?_, fun b hb hne => ?_⟩
 ·rcases List.mem_append.1 hp with hp | hp
  ·exact h.sound p hp
  ·simp only [qg] at hp; subst hp;refine ⟨⟨h0, h1⟩, fun i hi1 hi2 => (zhg fun l hl s hs => ?_).symm⟩;have e1 := sO (a := a) (l := (l4 rows).flatten) (last := x);have e2 := zaa (a := a) (l := (l4 rows).flatten) (last := x) s (List.mem_flatten.2 ⟨l, hl, hs⟩);have e3 := hx.le l hl s hs;simp only at hi1 hi2;unfold Sp.has at e3 ⊢;constructor
   ·rintro ⟨q1, q2⟩;by_cases hc : s.fr > a
    ·have := e2 hc; omega
    ·omega
   ·rintro ⟨q1, q2⟩;have := e3 ⟨q1, q2⟩;omega
 ·rcases List.mem_append.1 hb with hb | hb
  ·obtain ⟨p, hp, q⟩ := h.all b hb hne;exact ⟨p, qae _ hp, q⟩
  ·simp only [qg] at hb; subst hb;refine ⟨_, List.mem_append_right _ (List.mem_singleton.2 rfl), rfl, fun i hi1 hi2 hc => ?_⟩;refine zab (hx.ge i hi2 fun l hl s hs hsb => ?_) fun s hs hgt => ?_
   ·exact (((hc l hl s hs).1).2 hsb).2
   ·obtain ⟨l, hl, hs⟩ := List.mem_flatten.1 hs;exact (hc l hl s hs).2 hgt
theorem PiecesOK.val {rows : List Row} {t : List Int} {P : List (Pc Fl)} (h : PiecesOK rows t P) (ht : ∀ x, x ∈ t ↔ mO (l4 rows) x) {i : Int} (h0 : 0 <= i) (h1 : i <= 1114111) : gL P (false, false, false, false) i = dX rows i := by
 refine vL (F := dX rows) (fun p hp q1 q2 => (h.sound p hp).2 i q1 q2) fun hn => ?_;obtain ⟨a, ha, hai, hcut⟩ := zrb (t := t) (i := i) ⟨0, (ht 0).2 (.inl rfl), h0⟩;have hcut' : ∀ x, mO (l4 rows) x -> x <= a ∨ i < x := fun x hx => hcut x ((ht x).2 hx);have hsame : ∀ l ∈ l4 rows, ∀ s ∈ l, s.has i ↔ s.has a := fun l hl s hs => zra hai hcut' hl hs;by_cases hz : dX rows a = (false, false, false, false)
 ·rw [zhg hsame, hz]
 ·obtain ⟨p, hp, q1, q2⟩ := h.all a ha hz;refine absurd ⟨by omega, q2 i hai h1 fun l hl s hs => ⟨hsame l hl s hs, fun hg => ?_⟩⟩ (hn p hp);have := hcut' s.fr (.inr ⟨l, hl, s, hs, .inl rfl⟩);omega
theorem zhh (k v p : PV) (M : List (PV × PV)) : kL (fE k M) p (bX k v M) = bX k p M /\ fE k M < (bX k v M).length := by
 unfold kL fE bX;cases h : cG k M with
 | none => simp
 | some j =>
   have := nS h;simp [this]
def dN (rows : List Row) : Prop := ∀ x ∈ rows, x.kind = 2 -> (1 <= x.a /\ x.a <= 1114111) /\ 0 <= x.b /\ x.b <= 1114111
theorem kS {rows : List Row} {k r : Int} {p : Int × Int} (h : cH rows k r = some p) : ∃ x ∈ rows, x.kind = k /\ x.a = p.1 /\ x.b = p.2 /\ x.fr <= r /\ r <= x.to /\ 0 <= r /\ r <= 1114111 := by
 unfold cH at h;split at h
 ·rename_i hr;unfold first at h
  cases hf : rows.find? (fun x => x.has k r) with
  | none => rw [hf] at h; cases h
  | some x =>
    rw [hf] at h; cases h;have h1 := List.mem_of_find?_eq_some hf;have h2 := List.find?_some hf;simp only [Row.has, qf, aB] at h2;exact ⟨x, h1, h2.1, rfl, rfl, h2.2.1, h2.2.2, hr.1, hr.2⟩
 ·cases h
theorem p9 {rows : List Row} (hp : dN rows) (r : Int) : (0 <= (aJ rows r).1 /\ (aJ rows r).1 <= 1114111) /\ 0 <= (aJ rows r).2 /\ (aJ rows r).2 <= 1114111 := by
 unfold aJ;cases h : cH rows 2 r with
 | none => simp
 | some p =>
   obtain ⟨x, h1, h2, h3, h4, _⟩ := kS h;have := hp x h1 h2;simp only; omega
theorem zrc {rows : List Row} (hp : dN rows) {r : Int} {p : Int × Int} (h : cH rows 2 r = some p) : aJ rows r ≠ (0, 0) := by
 unfold aJ;rw [h];obtain ⟨x, h1, h2, h3, h4, _⟩ := kS h;have := hp x h1 h2;intro e;simp only at e;rw [e] at h3;simp only at h3;omega
theorem zrd {rows : List Row} {r : Int} {s : Sp} (hs : s ∈ aK 2 rows) (h : s.has r) : aJ rows r = (s.a, s.b) := by
 unfold aJ; rw [oC hs h]
theorem zre {rows : List Row} {r : Int} (h : aJ rows r ≠ (0, 0)) : ∃ s ∈ aK 2 rows, s.has r := by
 cases hf : cH rows 2 r with
 | none => unfold aJ at h; rw [hf] at h; exact absurd rfl h
 | some p => obtain ⟨s, h1, h2, _⟩ := z8 hf; exact ⟨s, h1, h2⟩
theorem zhi {rows : List Row} (hp : dN rows) {s : Sp} (hs : s ∈ aK 2 rows) : (1 <= s.a /\ s.a <= 1114111) /\ 0 <= s.b /\ s.b <= 1114111 := by
 have hg := (oB 2 rows).2 s hs;obtain ⟨x, h1, h2, h3, h4, _⟩ := kS (oC hs (r := s.fr) ⟨qh _, hg.2.1⟩);have := hp x h1 h2;simp only at h3 h4;omega
def lX (rows : List Row) (r : Int) : Prop := aJ rows r ≠ (0, 0) /\ eD rows r = false
structure MadeOK (rows : List Row) (D : Int -> Prop) (made : List ((Int × Int) × Int)) (sec : List (Int × Bool)) : Prop where
 m1 : ∀ p r, cR p made = some r -> D r /\ lX rows r /\ aJ rows r = p /\ ∀ r', D r' -> lX rows r' -> aJ rows r' = p -> r <= r'
 m2 : ∀ p, cR p made = none -> ∀ r', D r' -> lX rows r' -> aJ rows r' ≠ p
 s1 : ∀ b v, cR b sec = some v -> v = true /\ ∃ r, D r /\ lX rows r /\ (aJ rows r).2 = b
 s2 : ∀ b, cR b sec = none -> ∀ r', D r' -> lX rows r' -> (aJ rows r').2 ≠ b
theorem MadeOK.nil (rows : List Row) : MadeOK rows (fun _ => False) [] [] := ⟨fun p r h => (by cases h), fun p _ r' h => h.elim, fun b v h => (by cases h), fun b _ r' h => h.elim⟩
theorem MadeOK.same {rows : List Row} {D D' : Int -> Prop} {made : List ((Int × Int) × Int)} {sec : List (Int × Bool)} (h : MadeOK rows D made sec) (hd : ∀ r, lX rows r -> (D r ↔ D' r)) : MadeOK rows D' made sec :=
 ⟨fun p r hr => by
  obtain ⟨h1, h2, h3, h4⟩ := h.m1 p r hr;exact ⟨(hd r h2).1 h1, h2, h3, fun r' q1 q2 q3 => h4 r' ((hd r' q2).2 q1) q2 q3⟩,
 fun p hr r' q1 q2 => h.m2 p hr r' ((hd r' q2).2 q1) q2,
 fun b v hb => by
  obtain ⟨h1, r, h2, h3, h4⟩ := h.s1 b v hb;exact ⟨h1, r, (hd r h3).1 h2, h3, h4⟩,
 fun b hb r' q1 q2 => h.s2 b hb r' ((hd r' q2).2 q1) q2⟩
theorem MadeOK.known {rows : List Row} {D : Int -> Prop} {made : List ((Int × Int) × Int)} {sec : List (Int × Bool)} (h : MadeOK rows D made sec) {x r0 : Int} (hx : ∀ r, D r -> r < x) (hk : cR (aJ rows x) made = some r0) : MadeOK rows (fun r => D r ∨ r = x) made sec := by
 obtain ⟨k1, k2, k3, k4⟩ := h.m1 _ _ hk;refine ⟨fun p r hr => ?_, fun p hr r' q1 q2 => ?_, fun b v hb => ?_, fun b hb r' q1 q2 => ?_⟩
 ·obtain ⟨h1, h2, h3, h4⟩ := h.m1 p r hr;refine ⟨.inl h1, h2, h3, fun r' q1 q2 q3 => ?_⟩;rcases q1 with q1 | rfl
  ·exact h4 r' q1 q2 q3
  ·exact qbf (hx r h1)
 ·rcases q1 with q1 | rfl
  ·exact h.m2 p hr r' q1 q2
  ·intro e; rw [<- e, hk] at hr; cases hr
 ·obtain ⟨h1, r, h2, h3, h4⟩ := h.s1 b v hb;exact ⟨h1, r, .inl h2, h3, h4⟩
 ·rcases q1 with q1 | rfl
  ·exact h.s2 b hb r' q1 q2
  ·intro e;exact h.s2 b hb r0 k1 k2 (by rw [k3, e])
theorem MadeOK.out {rows : List Row} {D : Int -> Prop} {made : List ((Int × Int) × Int)} {sec : List (Int × Bool)} (h : MadeOK rows D made sec) {x : Int} (ho : eD rows x = true) : MadeOK rows (fun r => D r ∨ r = x) made sec :=
 h.same fun r hr => ⟨.inl, fun hd => hd.elim id fun e => by subst e; have := hr.2; rw [ho] at this; cases this⟩
theorem MadeOK.put {rows : List Row} {D : Int -> Prop} {made : List ((Int × Int) × Int)} {sec : List (Int × Bool)} (h : MadeOK rows D made sec) {x : Int} (hx : ∀ r, D r -> r < x) (hn : cR (aJ rows x) made = none) (hg : lX rows x) :
 MadeOK rows (fun r => D r ∨ r = x) (cW (aJ rows x) x made) (cW (aJ rows x).2 true sec) := by
 refine ⟨fun p r hr => ?_, fun p hr r' q1 q2 => ?_, fun b v hb => ?_, fun b hb r' q1 q2 => ?_⟩
 ·rw [nY] at hr;split at hr
  ·rename_i hp; cases hr; subst hp;refine ⟨.inr rfl, hg, rfl, fun r' q1 q2 q3 => ?_⟩;rcases q1 with q1 | rfl
   ·exact absurd q3 (h.m2 _ hn r' q1 q2)
   ·exact qh _
  ·rename_i hp;obtain ⟨h1, h2, h3, h4⟩ := h.m1 p r hr;refine ⟨.inl h1, h2, h3, fun r' q1 q2 q3 => ?_⟩;rcases q1 with q1 | rfl
   ·exact h4 r' q1 q2 q3
   ·exact qbf (hx r h1)
 ·rw [nY] at hr;split at hr
  ·cases hr
  ·rename_i hp;rcases q1 with q1 | rfl
   ·exact h.m2 p hr r' q1 q2
   ·exact fun e => hp e.symm
 ·rw [nY] at hb;split at hb
  ·rename_i hp; cases hb; exact ⟨rfl, x, .inr rfl, hg, hp.symm⟩
  ·obtain ⟨h1, r, h2, h3, h4⟩ := h.s1 b v hb;exact ⟨h1, r, .inl h2, h3, h4⟩
 ·rw [nY] at hb;split at hb
  ·cases hb
  ·rename_i hp;rcases q1 with q1 | rfl
   ·exact h.s2 b hb r' q1 q2
   ·exact fun e => hp e.symm
def cD (r : Int) : Bool := decide (44032 <= r) && decide (r <= 55203)
def eJ (r : Int) : List Int :=
 if (r - 44032) % 28 = 0 then [4352 + (r - 44032) / 588, 4449 + (r - 44032) / 28 % 21]
 else [4352 + (r - 44032) / 588, 4449 + (r - 44032) / 28 % 21, 4519 + (r - 44032) % 28]
def zrf (r : Int) : Bool := (decide (4449 <= r) && decide (r <= 4469)) || (decide (4520 <= r) && decide (r <= 4546))
def aZ (rows : List Row) : Nat -> Int -> List Int
 | 0, r => if cD r then eJ r else [r]
 | d + 1, r => if cD r then eJ r else if aJ rows r = (0, 0) then [r] else aZ rows d (aJ rows r).1 ++ (if (aJ rows r).2 = 0 then [] else aZ rows d (aJ rows r).2)
def zrg (rows : List Row) (r : Int) : Bool := rows.any fun x => decide (x.kind = 2) && (decide (x.b = r) && (!decide (r = 0) && !eD rows x.fr))
def ofQ (rows : List Row) (r : Int) : Int := if eD rows r then 1 else if zrg rows r || zrf r then 2 else 0
def zhj (rows : List Row) (r : Int) : Int := (aZ rows 8 r).headD 0
def zac (rows : List Row) (r : Int) : Bool := (decide (aG rows 1 r = 0) && decide (ofQ rows r = 0)) && (decide (aG rows 1 (zhj rows r) = 0) && decide (ofQ rows (zhj rows r) = 0))
theorem kT {rows : List Row} {d : Nat} {r : Int} (h : cD r = true) : aZ rows d r = eJ r := by cases d <;> simp [aZ, h]
theorem qA {rows : List Row} {d : Nat} {r : Int} (h : cD r = false) (h2 : aJ rows r = (0, 0)) : aZ rows d r = [r] := by cases d <;> simp [aZ, h, h2]
theorem sP (r : Int) : (eJ r).length <= 3 := by unfold eJ; split <;> simp
theorem mP (rows : List Row) : ∀ (d : Nat) (r : Int), (aZ rows d r).length <= 3 * 2 ^ d
 | 0, r => by
   unfold aZ; split
   ·have := sP r; simp; omega
   ·simp
 | d + 1, r => by
   unfold aZ;have h2 : 2 ^ (d + 1) = 2 * 2 ^ d := by rw [Nat.pow_succ]; omega
   have h3 : 1 <= 2 ^ d := Nat.one_le_two_pow;split
   ·have := sP r; omega
   ·split
    ·simp; omega
    ·have e1 := mP rows d (aJ rows r).1;rw [qj];split
     ·simp; omega
     ·have e2 := mP rows d (aJ rows r).2; omega
theorem zhk {r : Int} (h : cD r = true) : ∀ x ∈ eJ r, 0 <= x /\ x <= 1114111 := by
 simp only [cD, qf, aB] at h;intro x hx;unfold eJ at hx;split at hx <;> simp only [qay, qbe, or_false] at hx
 ·rcases hx with rfl | rfl <;> omega
 ·rcases hx with rfl | rfl | rfl <;> omega
theorem zhl (r : Int) : eJ r ≠ [] := by unfold eJ; split <;> simp
theorem zhm (rows : List Row) : ∀ (d : Nat) (r : Int), aZ rows d r ≠ []
 | 0, r => by unfold aZ; split; exact zhl r; simp
 | d + 1, r => by
   unfold aZ;split
   ·exact zhl r
   ·split
    ·simp
    ·intro e; exact zhm rows d _ (List.append_eq_nil_iff.1 e).1
theorem vN {rows : List Row} (hp : dN rows) : ∀ (d : Nat) (r : Int), ∀ x ∈ aZ rows d r, x = r ∨ (0 <= x /\ x <= 1114111)
 | 0, r => fun x hx => by
   unfold aZ at hx;split at hx
   ·rename_i h; exact .inr (zhk h x hx)
   ·simp at hx; exact .inl hx
 | d + 1, r => fun x hx => by
   unfold aZ at hx;have hg := p9 hp r;split at hx
   ·rename_i h; exact .inr (zhk h x hx)
   ·split at hx
    ·simp at hx; exact .inl hx
    ·rcases List.mem_append.1 hx with hx | hx
     ·rcases vN hp d _ x hx with rfl | h
      ·exact .inr hg.1
      ·exact .inr h
     ·split at hx
      ·cases hx
      ·rcases vN hp d _ x hx with rfl | h
       ·exact .inr hg.2
       ·exact .inr h
def eP (rows : List Row) : Prop := ∀ x ∈ rows, x.kind = 2 -> x.fr = x.to /\ (0 <= x.fr /\ x.fr <= 1114111) /\ first rows 2 x.fr = some (x.a, x.b)
def sQ (rows : List Row) : Bool -> Int -> List Int -> Int
 | m, _, [] => if m then 2 else 0
 | m, last, r :: l => if (decide (ofQ rows r = 1) || (!decide (aG rows 1 r = 0) && decide (aG rows 1 r < last))) then 1 else sQ rows (m || decide (ofQ rows r = 2)) (aG rows 1 r) l
def zrh (rows : List Row) : Bool := rows.all fun x => !decide (x.kind = 2) || ((decide (1 <= x.a) && decide (x.a <= 1114111)) && (decide (0 <= x.b) && decide (x.b <= 1114111)))
theorem zri {rows : List Row} (h : zrh rows = true) : dN rows := fun x hx hk => by
 have := List.all_eq_true.1 h x hx;simpa [hk] using this
def zrj (rows : List Row) : Bool := rows.all fun x => !decide (x.kind = 2) || (decide (x.fr = x.to) && ((decide (0 <= x.fr) && decide (x.fr <= 1114111)) && decide (first rows 2 x.fr = some (x.a, x.b))))
theorem zrk {rows : List Row} (h : zrj rows = true) : eP rows := fun x hx hk => by
 have := List.all_eq_true.1 h x hx;simpa [hk] using this
def zrl (rows : List Row) : Bool := rows.all fun x => !decide (x.kind = 1) || decide (0 <= x.a)
def iP (rows : List Row) : Prop := ∀ r, 0 <= aG rows 1 r
theorem zrm {rows : List Row} (h : zrl rows = true) : iP rows := fun r => by
 unfold aG;cases hf : cH rows 1 r with
 | none => exact qh _
 | some p =>
   obtain ⟨x, hx, hk, ha, _⟩ := kS hf;have := List.all_eq_true.1 h x hx;simp only [hk, decide_true, Bool.not_true, Bool.false_or, aB] at this;simp only; omega
end Go.Eng.Rows
namespace Go.Eng.Srt
open Go Go.Eng
section
variable {α : Type} (key : α -> Int)
def Srtd (l : List α) : Prop := l.Pairwise fun x y => key x <= key y
def Stab (l r : List α) : Prop := l.Perm r /\ ∀ c, l.filter (fun x => decide (key x = c)) = r.filter (fun x => decide (key x = c))
variable {key}
theorem Stab.refl (l : List α) : Stab key l l := ⟨List.Perm.refl _, fun _ => rfl⟩
theorem Stab.trans {a b c : List α} (h : Stab key a b) (k : Stab key b c) : Stab key a c := ⟨h.1.trans k.1, fun x => (h.2 x).trans (k.2 x)⟩
theorem Stab.symm {a b : List α} (h : Stab key a b) : Stab key b a := ⟨h.1.symm, fun x => (h.2 x).symm⟩
theorem Stab.app {a b c d : List α} (h : Stab key a b) (k : Stab key c d) : Stab key (a ++ c) (b ++ d) := ⟨h.1.append k.1, fun x => by rw [qr, qr, h.2, k.2]⟩
theorem Stab.len {a b : List α} (h : Stab key a b) : a.length = b.length := h.1.length_eq
theorem Stab.mem {a b : List α} (h : Stab key a b) {x : α} : x ∈ a ↔ x ∈ b := h.1.mem_iff
theorem Stab.rot {a b : List α} (h : ∀ x ∈ a, ∀ y ∈ b, key x ≠ key y) : Stab key (a ++ b) (b ++ a) := by
 refine ⟨List.perm_append_comm, fun c => ?_⟩;rw [qr, qr];by_cases hc : ∃ x ∈ a, key x = c
 ·obtain ⟨x, hx, hxc⟩ := hc
  have : b.filter (fun x => decide (key x = c)) = [] := List.filter_eq_nil_iff.2 fun y hy => by
   simp only [aB]; intro e; exact h x hx y hy (hxc.trans e.symm)
  rw [this]; simp
 ·have : a.filter (fun x => decide (key x = c)) = [] := List.filter_eq_nil_iff.2 fun y hy => by
   simp only [aB]; intro e; exact hc ⟨y, hy, e⟩
  rw [this]; simp
theorem Stab.rot1 {u v : List α} {a b : List α} (h : ∀ x ∈ a, ∀ y ∈ b, key x ≠ key y) : Stab key (u ++ (a ++ b) ++ v) (u ++ (b ++ a) ++ v) := ((Stab.refl u).app (.rot h)).app (.refl v)
theorem Stab.uniq : ∀ {l r : List α}, Srtd key l -> Srtd key r -> Stab key l r -> l = r
 | [], r, _, _, h => by have := h.len; cases r with | nil => rfl | cons => simp at this
 | x :: l, [], _, _, h => by have := h.len; simp at this
 | x :: l, y :: r, hl, hr, h => by
   have hk : key x = key y := by
    have h1 : key x <= key y := by
     rcases List.mem_cons.1 (h.mem.2 qc : y ∈ x :: l) with e | e
     ·rw [e]; exact qh _
     ·exact (List.pairwise_cons.1 hl).1 y e
    have h2 : key y <= key x := by
     rcases List.mem_cons.1 (h.mem.1 qc : x ∈ y :: r) with e | e
     ·rw [e]; exact qh _
     ·exact (List.pairwise_cons.1 hr).1 x e
    omega
   have hxy : x = y := by
    have := h.2 (key x);rw [qq, qq, if_pos (by simp), if_pos (by simp [hk])] at this;exact (List.cons.inj this).1
   subst hxy
   have ht : Stab key l r := ⟨(qci x).1 h.1, fun c => by
    have := h.2 c;rw [qq, qq] at this;split at this
    ·exact (List.cons.inj this).2
    ·exact this⟩
   rw [Stab.uniq (List.pairwise_cons.1 hl).2 (List.pairwise_cons.1 hr).2 ht]
theorem j6 {a b : List α} : Srtd key (a ++ b) ↔ Srtd key a /\ Srtd key b /\ ∀ x ∈ a, ∀ y ∈ b, key x <= key y := List.pairwise_append
end
section
variable {α : Type}
theorem qB (u v : List α) (x : α) : (u ++ x :: v)[u.length]? = some x := by simp
theorem sR (u v : List α) (x y : α) : (u ++ x :: v).set u.length y = u ++ y :: v := by simp
theorem zrn (u v w : List α) (x y : α) : ((u ++ x :: (v ++ y :: w)).set u.length y).set (u.length + 1 + v.length) x = u ++ y :: (v ++ x :: w) := by
 rw [sR];have e : u ++ y :: (v ++ y :: w) = (u ++ y :: v) ++ y :: w := by simp
 have e2 : u.length + 1 + v.length = (u ++ y :: v).length := by simp; omega
 rw [e, e2, sR];simp
theorem zhn (u w : List α) (x y : α) : ((u ++ x :: y :: w).set (u.length + 1) x).set u.length y = u ++ y :: x :: w := by
 have e : u ++ x :: y :: w = (u ++ [x]) ++ y :: w := by simp
 have e2 : u.length + 1 = (u ++ [x]).length := by simp
 rw [e, e2, sR];have e3 : (u ++ [x]) ++ x :: w = u ++ x :: (x :: w) := by simp
 rw [e3, sR]
theorem zro (u w : List α) (x y : α) : ((u ++ x :: y :: w).set u.length y).set (u.length + 1) x = u ++ y :: x :: w := by
 simp
end
variable {key : Int -> Int}
theorem Srtd.get {l : List Int} (h : Srtd key l) {i j : Nat} (hij : i <= j) (hj : j < l.length) : key (l.getD i 0) <= key (l.getD j 0) := by
 have hi : i < l.length := by omega
 simp only [qac, qi hi, qi hj, qbg];rcases Nat.lt_or_ge i j with h1 | h1
 ·exact (List.pairwise_iff_getElem.1 h) i j hi hj h1
 ·have : i = j := by omega
  subst this; exact qh _
theorem mQ {l : List Int} {x : Int} (h : x ∈ l) : ∃ i, i < l.length /\ l.getD i 0 = x := by
 obtain ⟨i, hi, rfl⟩ := qag h;exact ⟨i, hi, by simp [qac, hi]⟩
theorem sS {l : List Int} {i : Nat} (h : i < l.length) : l[i]? = some (l.getD i 0) := by simp [qac, h]
theorem Srtd.sub {l m : List Int} (h : Srtd key l) (hs : m.Sublist l) : Srtd key m := List.Pairwise.sublist hs h
theorem zho {x : Int} {A B : List Int} (hs : Srtd key (A ++ B)) (h1 : ∀ y ∈ A, key y <= key x) (h2 : ∀ y ∈ B, key x <= key y) : Srtd key (A ++ x :: B) := by
 obtain ⟨s1, s2, s3⟩ := j6.1 hs;refine j6.2 ⟨s1, List.pairwise_cons.2 ⟨h2, s2⟩, fun y hy z hz => ?_⟩;rcases List.mem_cons.1 hz with rfl | hz
 ·exact h1 y hy
 ·exact s3 y hy z hz
theorem zrp {X1 X2 Y1 Y2 S1 S2 : List Int} (hX : Srtd key (X1 ++ X2)) (hY : Srtd key (Y1 ++ Y2)) (f1 : ∀ x ∈ X2, ∀ y ∈ Y1, key y < key x) (f2 : ∀ x ∈ X1, ∀ y ∈ Y2, key x <= key y)
 (h1 : Srtd key S1) (k1 : Stab key (X1 ++ Y1) S1) (h2 : Srtd key S2) (k2 : Stab key (X2 ++ Y2) S2) : Srtd key (S1 ++ S2) /\ Stab key ((X1 ++ X2) ++ (Y1 ++ Y2)) (S1 ++ S2) := by
 obtain ⟨_, _, x3⟩ := j6.1 hX;obtain ⟨_, _, y3⟩ := j6.1 hY;refine ⟨j6.2 ⟨h1, h2, fun x hx y hy => ?_⟩, ?_⟩
 ·rcases List.mem_append.1 (k1.mem.2 hx) with hx | hx <;> rcases List.mem_append.1 (k2.mem.2 hy) with hy | hy
  ·exact x3 x hx y hy
  ·exact f2 x hx y hy
  ·exact qbf (f1 y hy x hx)
  ·exact y3 x hx y hy
 ·refine Stab.trans ?_ (k1.app k2);have := Stab.rot1 (key := key) (u := X1) (v := Y2) (a := X2) (b := Y1) (fun x hx y hy => by have := f1 x hx y hy; omega);simpa using this
end Go.Eng.Srt
namespace Go.Eng.Srt
open Go Go.Eng
section
variable (key : Int -> Int)
def fH (x y : Int) : Bool := decide (key x ≠ 0) && decide (key x < key y)
def sT (x : Int) : List Int -> List Int
 | [] => [x]
 | y :: r => if fH key x y = true then y :: sT x r else x :: y :: r
def ins (l : List Int) (x : Int) : List Int := (sT key x l.reverse).reverse
def c6 (l : List Int) : List Int := l.foldl (ins key) []
inductive Eqv : List Int -> List Int -> Prop
 | refl (a : List Int) : Eqv a a
 | swap (u v w : List Int) (x y : Int) (hx : key x ≠ 0) (hy : key y ≠ 0) (hxy : key x ≠ key y) (h : Eqv (u ++ y :: x :: v) w) : Eqv (u ++ x :: y :: v) w
def dC : List Int -> Prop
 | x :: y :: r => (key y ≠ 0 -> key x <= key y) /\ dC (y :: r)
 | _ => True
end
variable {key : Int -> Int}
theorem qC {x y : Int} : fH key x y = true ↔ key x ≠ 0 /\ key x < key y := by simp [fH]
theorem vO {x y : Int} : fH key x y = false ↔ key x = 0 ∨ key y <= key x := by
 simp only [fH, Bool.and_eq_false_imp, aB, dJ];constructor
 ·intro h; by_cases h0 : key x = 0
  ·exact .inl h0
  ·exact .inr (by have := h h0; omega)
 ·rintro (h | h) h0
  ·exact absurd h h0
  ·omega
theorem zhp {x : Int} : ∀ {B A : List Int}, (∀ y ∈ B, fH key x y = true) -> (A = [] ∨ ∃ z A', A = z :: A' /\ fH key x z = false) -> sT key x (B ++ A) = B ++ x :: A
 | [], A, _, h => by
   rcases h with rfl | ⟨z, A', rfl, h⟩
   ·rfl
   ·simp [sT, h]
 | y :: B, A, hB, h => by
   rw [qn, sT, if_pos (hB y qc), zhp (fun z hz => hB z (qe _ hz)) h]; rfl
theorem oD {x : Int} {A B : List Int} (h1 : ∀ y ∈ B, fH key x y = true) (h2 : A = [] ∨ ∃ A' z, A = A' ++ [z] /\ fH key x z = false) : ins key (A ++ B) x = A ++ x :: B := by
 unfold ins;rw [qbr, zhp (fun y hy => h1 y (List.mem_reverse.1 hy)) (h2.elim (fun e => .inl (by rw [e]; rfl)) fun ⟨A', z, e, h⟩ => .inr ⟨z, A'.reverse, by rw [e]; simp, h⟩)];simp
theorem zad (l : List Int) (x : Int) : ∃ A B, l = A ++ B /\ (∀ y ∈ B, fH key x y = true) /\ (A = [] ∨ ∃ A' z, A = A' ++ [z] /\ fH key x z = false) := by
 have : ∀ r : List Int, ∃ B A, r = B ++ A /\ (∀ y ∈ B, fH key x y = true) /\ (A = [] ∨ ∃ z A', A = z :: A' /\ fH key x z = false) := by
  intro r
  induction r with
  | nil => exact ⟨[], [], rfl, (fun y hy => by cases hy), .inl rfl⟩
  | cons y r ih =>
    cases hp : fH key x y with
    | true =>
      obtain ⟨B, A, e, h1, h2⟩ := ih;exact ⟨y :: B, A, by rw [e]; rfl, fun z hz => by rcases List.mem_cons.1 hz with rfl | hz; exact hp; exact h1 z hz, h2⟩
    | false => exact ⟨[], y :: r, rfl, (fun y hy => by cases hy), .inr ⟨y, r, rfl, hp⟩⟩
 obtain ⟨B, A, e, h1, h2⟩ := this l.reverse;refine ⟨A.reverse, B.reverse, by rw [<- qbr, <- e]; simp, fun y hy => h1 y (List.mem_reverse.1 hy), h2.elim (fun e => .inl (by rw [e]; rfl)) fun ⟨z, A', e, h⟩ => .inr ⟨A'.reverse, z, by rw [e]; simp, h⟩⟩
theorem zhq {l : List Int} {x y : Int} (hx : key x ≠ 0) (hxy : key x < key y) : ins key (ins key l y) x = ins key (ins key l x) y := by
 obtain ⟨B1, B2, rfl, b1, b2⟩ := zad (key := key) l y;obtain ⟨C1, C2, rfl, c1, c2⟩ := zad (key := key) B1 x;have px : ∀ z ∈ B2, fH key x z = true := fun z hz => qC.2 ⟨hx, by have := (qC.1 (b1 z hz)).2; omega⟩;rw [oD b1 b2];have e1 : C1 ++ C2 ++ y :: B2 = C1 ++ (C2 ++ y :: B2) := by simp
 have e2 : C1 ++ C2 ++ B2 = C1 ++ (C2 ++ B2) := by simp
 rw [e1, oD (B := C2 ++ y :: B2) (fun z hz => ?_) c2, e2, oD (B := C2 ++ B2) (fun z hz => ?_) c2]
 ·have e3 : C1 ++ x :: (C2 ++ B2) = (C1 ++ x :: C2) ++ B2 := by simp
  rw [e3, oD b1 (.inr ?_)]
  ·simp
  ·rcases C2.eq_nil_or_concat with rfl | ⟨D, z, rfl⟩
   ·exact ⟨C1, x, rfl, vO.2 (.inr (by omega))⟩
   ·refine ⟨C1 ++ x :: D, z, by simp, ?_⟩;rcases b2 with e | ⟨A', z', e, h⟩
    ·simp at e
    ·have : z = z' := by
      have := congrArg List.getLast? e;simp at this; exact this
     rw [this]; exact h
 ·rcases List.mem_append.1 hz with hz | hz
  ·exact c1 z hz
  ·exact px z hz
 ·rcases List.mem_append.1 hz with hz | hz
  ·exact c1 z hz
  ·rcases List.mem_cons.1 hz with rfl | hz
   ·exact qC.2 ⟨hx, hxy⟩
   ·exact px z hz
theorem zrq {l : List Int} {x y : Int} (hx : key x ≠ 0) (hy : key y ≠ 0) (hxy : key x ≠ key y) : ins key (ins key l x) y = ins key (ins key l y) x := by
 rcases Int.lt_or_gt_of_ne hxy with h | h
 ·exact (zhq hx h).symm
 ·exact zhq hy h
theorem zae (l : List Int) (x : Int) : c6 key (l ++ [x]) = ins key (c6 key l) x := by simp [c6]
theorem Eqv.trans {a b c : List Int} (h : Eqv key a b) (k : Eqv key b c) : Eqv key a c := by
 induction h with
 | refl a => exact k
 | swap u v w x y hx hy hxy h ih => exact .swap u v c x y hx hy hxy (ih k)
theorem Eqv.app {a b : List Int} (h : Eqv key a b) (p q : List Int) : Eqv key (p ++ (a ++ q)) (p ++ (b ++ q)) := by
 induction h with
 | refl a => exact .refl _
 | swap u v w x y hx hy hxy h ih =>
   have := Eqv.swap (p ++ u) (v ++ q) _ x y hx hy hxy (by simpa using ih)
   simpa using this
theorem Eqv.symm {a b : List Int} (h : Eqv key a b) : Eqv key b a := by
 induction h with
 | refl a => exact .refl _
 | swap u v w x y hx hy hxy h ih => exact ih.trans (.swap u v _ y x hy hx (Ne.symm hxy) (.refl _))
theorem zrr {a b : List Int} (h : Eqv key a b) : c6 key a = c6 key b := by
 induction h with
 | refl a => rfl
 | swap u v w x y hx hy hxy h ih =>
   rw [<- ih];simp only [c6, qbx, qv];rw [zrq hx hy hxy]
theorem Eqv.len {a b : List Int} (h : Eqv key a b) : a.length = b.length := by
 induction h with
 | refl a => rfl
 | swap u v w x y hx hy hxy h ih => rw [<- ih]; simp
theorem Eqv.mem {a b : List Int} (h : Eqv key a b) {z : Int} : z ∈ a ↔ z ∈ b := by
 induction h with
 | refl a => exact Iff.rfl
 | swap u v w x y hx hy hxy h ih => rw [<- ih]; simp only [qah, qay]; exact or_congr_right ⟨fun h => h.elim (fun e => .inr (.inl e)) (fun h => h.elim .inl fun h => .inr (.inr h)), fun h => h.elim (fun e => .inr (.inl e)) (fun h => h.elim .inl fun h => .inr (.inr h))⟩
theorem Eqv.ahead {x : Int} (hx : key x ≠ 0) : ∀ {B : List Int} (q : List Int), (∀ y ∈ B, key y ≠ 0 /\ key y ≠ key x) -> Eqv key (B ++ x :: q) (x :: (B ++ q))
 | [], q, _ => .refl _
 | y :: B, q, h => by
   have h1 := Eqv.ahead hx (B := B) q fun z hz => h z (qe _ hz);have h2 := h1.app [y] [];simp only [qat, qn, qak] at h2;obtain ⟨hy, hyx⟩ := h y qc;exact h2.trans (.swap [] (B ++ q) _ y x hy hx hyx (.refl _))
theorem zrs (hk : ∀ x, 0 <= key x) (l : List Int) (x : Int) : Eqv key (l ++ [x]) (ins key l x) := by
 obtain ⟨A, B, rfl, h1, h2⟩ := zad (key := key) l x;rw [oD h1 h2];by_cases hB : B = []
 ·subst hB; simp; exact .refl _
 ·obtain ⟨y, hy⟩ := qbc B hB;have hx := (qC.1 (h1 y hy)).1;have := (Eqv.ahead hx (B := B) [] fun z hz => by have := (qC.1 (h1 z hz)).2; have := hk x; omega).app A [];simpa using this
theorem jM {p : List Int -> Prop} (h0 : p []) (h1 : ∀ l x, p l -> p (l ++ [x])) (l : List Int) : p l := by
 have : ∀ r : List Int, p r.reverse := by
  intro r
  induction r with
  | nil => exact h0
  | cons x r ih => rw [qby]; exact h1 _ _ ih
 have := this l.reverse;rwa [qbm] at this
theorem sU (hk : ∀ x, 0 <= key x) (l : List Int) : Eqv key l (c6 key l) := by
 induction l using jM with
 | h0 => exact .refl _
 | h1 l x ih =>
   rw [zae];have := ih.app [] [x];exact Eqv.trans (by simpa using this) (zrs hk _ x)
theorem oE : ∀ {A B : List Int}, dC key (A ++ B) ↔ dC key A /\ dC key B /\ (∀ z x, A.getLast? = some z -> B.head? = some x -> key x ≠ 0 -> key z <= key x)
 | [], B => by simp [dC]
 | [a], [] => by simp [dC]
 | [a], b :: B => by simp [dC, and_comm]
 | a :: c :: A, B => by
   have := oE (A := c :: A) (B := B);simp only [qn, dC] at this ⊢;rw [this, List.getLast?_cons_cons, and_assoc]
theorem zrt {l : List Int} (h : dC key l) : c6 key l = l := by
 revert h
 induction l using jM with
 | h0 => exact fun _ => rfl
 | h1 l x ih =>
   intro h;obtain ⟨q1, q2, q3⟩ := oE.1 h;rw [zae, ih q1]
   have := oD (key := key) (x := x) (A := l) (B := []) (fun y hy => by cases hy) (by
    rcases l.eq_nil_or_concat with rfl | ⟨D, z, rfl⟩
    ·exact .inl rfl
    ·refine .inr ⟨D, z, by simp, vO.2 ?_⟩;by_cases hx : key x = 0
     ·exact .inl hx
     ·exact .inr (q3 z x (by simp) rfl hx))
   simpa using this
theorem zhr : ∀ {S' S : List Int}, Stab key S S' -> (∀ x ∈ S, key x ≠ 0) -> Eqv key S S'
 | [], S, h, _ => by have := h.len; cases S with | nil => exact .refl _ | cons => simp at this
 | y :: r, S, h, h0 => by
   have hf := h.2 (key y);rw [qq, if_pos (by simp)] at hf;obtain ⟨A, B, rfl, hA, hB⟩ := List.filter_eq_cons_iff.1 hf;have hy : key y ≠ 0 := h0 y (by simp);have hA' : ∀ z ∈ A, key z ≠ key y := fun z hz => by have := hA z hz; simpa using this
   have e1 := Eqv.ahead hy (B := A) B fun z hz => ⟨h0 z (by simp [hz]), hA' z hz⟩
   have hs : Stab key (A ++ B) r := by
    refine ⟨(qci y).1 ((List.perm_middle.symm).trans h.1), fun c => ?_⟩;have := h.2 c;rw [qr, qq, qq] at this;rw [qr];by_cases hc : key y = c
    ·have hn : A.filter (fun x => decide (key x = c)) = [] := List.filter_eq_nil_iff.2 fun z hz => by simp only [aB]; intro e; exact hA' z hz (e.trans hc.symm)
     rw [hn] at this ⊢;simp only [hc, decide_true, if_true, qak, List.cons.injEq, true_and] at this;exact this
    ·simp only [hc, decide_false, qam, if_false] at this;exact this
   have e2 := (zhr hs fun z hz => h0 z (by rcases List.mem_append.1 hz with hz | hz <;> simp [hz])).app [y] [];simp only [qat, qn, qak] at e2;exact e1.trans e2
theorem zhs : ∀ {S : List Int}, Srtd key S -> dC key S
 | [], _ => trivial
 | [a], _ => trivial
 | a :: b :: S, h => ⟨fun _ => (List.pairwise_cons.1 h).1 b qc, zhs (List.pairwise_cons.1 h).2⟩
theorem vP (L : List Int) {i j : Nat} (hij : i <= j) (hj : j <= L.length) : L = L.take i ++ ((L.take j).drop i ++ L.drop j) /\ (L.take i).length = i /\ ((L.take j).drop i).length = j - i := by
 refine ⟨?_, by rw [qaq]; omega, by rw [List.length_drop, qaq]; omega⟩;have h1 : L = L.take j ++ L.drop j := (qas j L).symm;have h2 : L.take j = (L.take j).take i ++ (L.take j).drop i := (qas i _).symm;rw [qcj, Nat.min_eq_left hij] at h2;rw [<- qt, <- h2]; exact h1
theorem zru (hk : ∀ x, 0 <= key x) {L : List Int} {i j : Nat} (hij : i <= j) (hj : j <= L.length) (hb : i = 0 ∨ key (L.getD (i - 1) 0) = 0) (hnz : ∀ k, i <= k -> k < j -> key (L.getD k 0) ≠ 0) (hend : j = L.length ∨ key (L.getD j 0) = 0)
 (hc : dC key (L.take i)) {S' : List Int} (hs : Srtd key S') (hst : Stab key ((L.take j).drop i) S') :
 Eqv key L (L.take i ++ (S' ++ L.drop j)) /\ dC key ((L.take i ++ (S' ++ L.drop j)).take (j + 1)) /\ (j < L.length -> key ((L.take i ++ (S' ++ L.drop j)).getD j 0) = 0) := by
 obtain ⟨c1, c2, c3⟩ := vP L hij hj;have hl : S'.length = j - i := by rw [<- hst.len]; exact c3
 refine ⟨?_, ?_, fun hlt => ?_⟩
 ·have hm : ∀ x ∈ (L.take j).drop i, key x ≠ 0 := fun x hx => by
   obtain ⟨k, hk1, hk2⟩ := qag hx;have := hnz (i + k) (by omega) (by omega);rw [List.getElem_drop, List.getElem_take] at hk2;have hl2 : i + k < L.length := by omega
   simp only [qac, qi hl2, qbg, hk2] at this;exact this
  have := (zhr hst hm).app (L.take i) (L.drop j);rwa [<- c1] at this
 ·rw [qcb, c2, qw (by omega), qcb, hl, qw (by omega : S'.length <= j + 1 - i), show j + 1 - i - (j - i) = 1 by omega]
  have hR : ∀ x, ((L.drop j).take 1).head? = some x -> key x = 0 := fun x hx => by
   rcases hend with e | e
   ·rw [qx (by omega)] at hx; cases hx
   ·rcases Nat.lt_or_ge j L.length with h' | h'
    ·rw [qbd h'] at hx;simp only [List.take_succ_cons, List.head?_cons, Option.some.injEq] at hx;rw [<- hx];simpa [qac, qi h'] using e
    ·rw [qx h'] at hx; cases hx
  refine oE.2 ⟨hc, oE.2 ⟨zhs hs, ?_, fun z x _ hx h0 => absurd (hR x hx) h0⟩, fun z x hz hx h0 => ?_⟩
  ·cases L.drop j with
   | nil => trivial
   | cons a r => trivial
  ·have : key z = 0 := by
    rcases hb with rfl | hb
    ·simp at hz
    ·rw [qai, c2] at hz;by_cases h0 : i = 0
     ·subst h0; simp at hz
     ·rw [qbt, if_pos (by omega)] at hz;simpa [qac, hz] using hb
   rw [this]; exact hk x
 ·rcases hend with e | e
  ·omega
  ·rw [<- qt];simp only [qac] at e ⊢;rw [qaf (by simp only [qj]; omega), qj, c2, hl, qbu, show j + (j - (i + (j - i))) = j by omega];exact e
theorem zrv {S : List Int} (h : S.length <= 1) : Srtd key S := by
 match S, h with
 | [], _ => exact List.Pairwise.nil
 | [a], _ => exact List.pairwise_singleton _ _
end Go.Eng.Srt
namespace Go.Eng.Rows
open Go Go.Eng Go.Eng.Trie Go.Eng.Srt
def jN (rows : List Row) (l : List Int) : List Int := c6 (aG rows 1) (l.flatMap (aZ rows 8))
def dZ (rows : List Row) (x : Int) : Bool := !cD x && decide (aJ rows x = (0, 0))
def zrw (rows : List Row) : Prop := ∀ r, ∀ x ∈ aZ rows 8 r, dZ rows x = true
theorem zrx {rows : List Row} {r : Int} {p : Int × Int} (h : cH rows 2 r = some p) : ∃ x ∈ rows, x.kind = 2 /\ x.fr <= r /\ r <= x.to := by
 obtain ⟨x, h1, h2, _, _, h3, h4, _⟩ := kS h;exact ⟨x, h1, h2, h3, h4⟩
theorem vQ {rows : List Row} {x : Int} (h : dZ rows x = true) (d : Nat) : aZ rows d x = [x] := by
 simp only [dZ, qf, qy, aB] at h;exact qA h.1 h.2
theorem zht {rows : List Row} : ∀ {l : List Int}, (∀ x ∈ l, dZ rows x = true) -> l.flatMap (aZ rows 8) = l
 | [], _ => rfl
 | x :: l, h => by
   rw [qao, vQ (h x qc), zht fun y hy => h y (qe _ hy)]; rfl
section
variable {rows : List Row} (hk : iP rows)
include hk
theorem zry {l : List Int} {x : Int} : x ∈ jN rows l ↔ ∃ r ∈ l, x ∈ aZ rows 8 r := by
 unfold jN;rw [<- (sU hk _).mem, List.mem_flatMap]
theorem zaf (hp : dN rows) {l : List Int} (h : ∀ x ∈ l, -2147483648 <= x /\ x <= 2147483647) : ∀ x ∈ jN rows l, -2147483648 <= x /\ x <= 2147483647 := fun x hx => by
 obtain ⟨r, hr, h2⟩ := (zry hk).1 hx;rcases vN hp 8 r x h2 with rfl | h3
 ·exact h x hr
 ·omega
theorem zrz (l : List Int) : (jN rows l).length <= 768 * l.length := by
 unfold jN;rw [<- (sU hk _).len]
 induction l with
 | nil => simp
 | cons x l ih =>
   have := mP rows 8 x;rw [qao, qj, qd]; omega
end
def eQ (a b : Int) : Option Int :=
 if (4352 <= a /\ a < 4371) /\ 4449 <= b /\ b < 4470 then some (44032 + ((a - 4352) * 21 + (b - 4449)) * 28)
 else if (cD a = true /\ (a - 44032) % 28 = 0) /\ 4519 < b /\ b < 4547 then some (a + (b - 4519)) else none
def eE (rows : List Row) (a b : Int) (x : Row) : Bool := decide (x.kind = 2) && (decide (x.a = a) && (decide (x.b = b) && (!decide (b = 0) && !eD rows x.fr)))
def cmpS (rows : List Row) (a b : Int) (o : Option Int) (x : Row) : Option Int :=
 if eE rows a b x then (match o with | none => some x.fr | some r => if x.fr < r then some x.fr else some r) else o
def mR (rows : List Row) (a b : Int) : Option Int := rows.foldl (cmpS rows a b) none
def fI (rows : List Row) (a b : Int) : Option Int := match eQ a b with | some r => some r | none => mR rows a b
theorem zhu (rows : List Row) (a b : Int) (l : List Row) : match l.foldl (cmpS rows a b) none with
 | none => ∀ x ∈ l, eE rows a b x = false
 | some r => (∃ x ∈ l, eE rows a b x = true /\ x.fr = r) /\ ∀ x ∈ l, eE rows a b x = true -> r <= x.fr := by
 have : ∀ (m : List Row), match m.reverse.foldl (cmpS rows a b) none with
  | none => ∀ x ∈ m, eE rows a b x = false
  | some r => (∃ x ∈ m, eE rows a b x = true /\ x.fr = r) /\ ∀ x ∈ m, eE rows a b x = true -> r <= x.fr := by
  intro m
  induction m with
  | nil => intro x hx; cases hx
  | cons y m ih =>
    rw [qby, qbx, qv, List.foldl_nil];generalize m.reverse.foldl (cmpS rows a b) none = o at ih;unfold cmpS;cases hc : eE rows a b y with
    | false =>
      simp only [qam, if_false];cases o with
      | none => intro x hx; rcases List.mem_cons.1 hx with rfl | hx; exact hc; exact ih x hx
      | some r =>
        obtain ⟨⟨x, h1, h2⟩, h3⟩ := ih;exact ⟨⟨x, qe _ h1, h2⟩, fun z hz hz2 => by rcases List.mem_cons.1 hz with rfl | hz; rw [hc] at hz2; cases hz2; exact h3 z hz hz2⟩
    | true =>
      simp only [if_true];cases o with
      | none =>
        refine ⟨⟨y, qc, hc, rfl⟩, fun z hz hz2 => ?_⟩;rcases List.mem_cons.1 hz with rfl | hz
        ·exact qh _
        ·have := ih z hz; rw [this] at hz2; cases hz2
      | some r =>
        obtain ⟨⟨x, h1, h2, h4⟩, h3⟩ := ih;by_cases hlt : y.fr < r
        ·simp only [hlt, if_true];refine ⟨⟨y, qc, hc, rfl⟩, fun z hz hz2 => ?_⟩;rcases List.mem_cons.1 hz with rfl | hz
         ·exact qh _
         ·have := h3 z hz hz2; omega
        ·simp only [hlt, if_false];refine ⟨⟨x, qe _ h1, h2, h4⟩, fun z hz hz2 => ?_⟩;rcases List.mem_cons.1 hz with rfl | hz
         ·omega
         ·exact h3 z hz hz2
 have h := this l.reverse;rw [qbm] at h;generalize l.foldl (cmpS rows a b) none = o at h ⊢;cases o with
 | none => intro x hx; exact h x (List.mem_reverse.2 hx)
 | some r => exact ⟨by obtain ⟨⟨x, h1, h2⟩, _⟩ := h; exact ⟨x, List.mem_reverse.1 h1, h2⟩, fun x hx => h.2 x (List.mem_reverse.2 hx)⟩
theorem vR {rows : List Row} (h1 : eP rows) {x : Row} (hx : x ∈ rows) (hk : x.kind = 2) : aJ rows x.fr = (x.a, x.b) /\ 0 <= x.fr /\ x.fr <= 1114111 := by
 obtain ⟨e1, e2, e3⟩ := h1 x hx hk;have hf : cH rows 2 x.fr = some (x.a, x.b) := by unfold cH; rw [if_pos e2]; exact e3
 exact ⟨by unfold aJ; rw [hf], e2⟩
theorem zag {rows : List Row} (h1 : eP rows) {r : Int} (h : aJ rows r ≠ (0, 0)) : ∃ x ∈ rows, x.kind = 2 /\ x.fr = r /\ aJ rows r = (x.a, x.b) := by
 cases hf : cH rows 2 r with
 | none => exact absurd (by unfold aJ; rw [hf]) h
 | some p =>
   obtain ⟨y, hy, hk, f1, f2⟩ := zrx hf;obtain ⟨e1, _⟩ := h1 y hy hk;have hr : y.fr = r := by omega
   have := (vR h1 hy hk).1;rw [hr] at this;exact ⟨y, hy, hk, hr, this⟩
theorem zah {rows : List Row} (h1 : eP rows) {a b r : Int} (h : mR rows a b = some r) : aJ rows r = (a, b) /\ b ≠ 0 /\ eD rows r = false /\ (0 <= r /\ r <= 1114111) /\ ∃ x ∈ rows, x.kind = 2 /\ x.fr = r := by
 have := zhu rows a b rows;unfold mR at h;rw [h] at this;obtain ⟨⟨x, hx, hc, rfl⟩, _⟩ := this;simp only [eE, qf, aB, qy, dJ] at hc;obtain ⟨hk, ha, hb, h0, ho⟩ := hc;obtain ⟨hp, hr⟩ := vR h1 hx hk;exact ⟨by rw [hp, ha, hb], h0, ho, hr, x, hx, hk, rfl⟩
theorem zr0 {rows : List Row} (hp : dN rows) (h1 : eP rows) {made : List ((Int × Int) × Int)} {sec : List (Int × Bool)} (hm : MadeOK rows (fun r => 0 <= r /\ r <= 1114111) made sec) (a b : Int) :
 (if b = 0 then none else cR (a, b) made) = mR rows a b := by
 have hc := zhu rows a b rows
 have good : ∀ x ∈ rows, eE rows a b x = true -> b ≠ 0 /\ (0 <= x.fr /\ x.fr <= 1114111) /\ lX rows x.fr /\ aJ rows x.fr = (a, b) := fun x hx hc => by
  simp only [eE, qf, aB, qy, dJ] at hc;obtain ⟨hk, ha, hb, h0, ho⟩ := hc;obtain ⟨e, hr⟩ := vR h1 hx hk;refine ⟨h0, hr, ⟨?_, ho⟩, by rw [e, ha, hb]⟩;rw [e]; intro q; exact h0 (hb.symm.trans (Prod.mk.inj q).2)
 have back : ∀ r, b ≠ 0 -> lX rows r -> aJ rows r = (a, b) -> ∃ x ∈ rows, eE rows a b x = true /\ x.fr = r := fun r h0 hg hpr => by
  obtain ⟨x, hx, hk, hfr, hq⟩ := zag h1 hg.1;have ho := hg.2;rw [hq] at hpr;cases hpr;refine ⟨x, hx, ?_, hfr⟩;simp only [eE, qf, aB, qy, dJ];exact ⟨hk, trivial, trivial, h0, by rw [hfr]; exact ho⟩
 unfold mR;generalize rows.foldl (cmpS rows a b) none = o at hc ⊢;split
 ·rename_i h0;cases o with
  | none => rfl
  | some r => obtain ⟨⟨x, hx, hb, _⟩, _⟩ := hc; exact absurd h0 (good x hx hb).1
 ·rename_i h0;cases hg : cR (a, b) made with
  | none =>
    cases o with
    | none => rfl
    | some r =>
      obtain ⟨⟨x, hx, hb, _⟩, _⟩ := hc;obtain ⟨_, g1, g2, g3⟩ := good x hx hb;exact absurd g3 (hm.m2 _ hg _ g1 g2)
  | some r =>
    obtain ⟨d1, d2, d3, d4⟩ := hm.m1 _ _ hg;obtain ⟨x, hx, hb, hfr⟩ := back r h0 d2 d3;cases o with
    | none => have := hc x hx; rw [this] at hb; cases hb
    | some s =>
      obtain ⟨⟨y, hy, hyb, rfl⟩, hl⟩ := hc;obtain ⟨_, g1, g2, g3⟩ := good y hy hyb;have k1 := hl x hx hb;have k2 := d4 _ g1 g2 g3;rw [hfr] at k1;exact congrArg some (Int.le_antisymm k2 k1)
theorem zai {a b r : Int} (h : eQ a b = some r) : cD r = true := by
 unfold eQ at h;split at h
 ·rename_i hc; cases h; simp only [cD, qf, aB]; omega
 ·split at h
  ·rename_i hc; cases h; simp only [cD, qf, aB] at hc ⊢; omega
  ·cases h
theorem zr1 {rows : List Row} (h1 : eP rows) {a b r : Int} (h : fI rows a b = some r) : 0 <= r /\ r <= 1114111 := by
 unfold fI at h;split at h
 ·rename_i s hj; cases h; have := zai hj; simp only [cD, qf, aB] at this; omega
 ·exact (zah h1 h).2.2.2.1
structure CSt where
 P : List Int
 s : Option Int
 M : List Int
def dO (key : Int -> Int) (M : List Int) : Int := match M.getLast? with | some m => key m | none => 0
def CSt.out (st : CSt) : List Int := st.P ++ (st.s.toList ++ st.M)
def cX (key : Int -> Int) (st : CSt) (r : Int) : CSt := if key r = 0 then ⟨st.out, some r, []⟩ else ⟨st.P, st.s, st.M ++ [r]⟩
def cV (rows : List Row) (st : CSt) (r : Int) : CSt := match st.s with
 | none => cX (aG rows 1) st r
 | some a => if st.M = [] ∨ dO (aG rows 1) st.M < aG rows 1 r then (match fI rows a r with
   | some c => ⟨st.P, some c, st.M⟩
   | none => cX (aG rows 1) st r) else cX (aG rows 1) st r
def bT (rows : List Row) (l : List Int) : CSt := l.foldl (cV rows) ⟨[], none, []⟩
def iC (rows : List Row) (l : List Int) : List Int := (bT rows l).out
theorem iD (rows : List Row) (l : List Int) (r : Int) : bT rows (l ++ [r]) = cV rows (bT rows l) r := by simp [bT]
theorem mS (key : Int -> Int) (st : CSt) (r : Int) : (cX key st r).out = st.out ++ [r] := by
 unfold cX; split <;> simp [CSt.out]
theorem qD (rows : List Row) (st : CSt) (r : Int) : cV rows st r = cX (aG rows 1) st r ∨ ∃ a c, st.s = some a /\ fI rows a r = some c /\ (st.M = [] ∨ dO (aG rows 1) st.M < aG rows 1 r) /\ cV rows st r = ⟨st.P, some c, st.M⟩ := by
 unfold cV;split
 ·exact .inl rfl
 ·rename_i a ha;split
  ·rename_i hf;cases hc : fI rows a r with
   | none => exact .inl rfl
   | some c => exact .inr ⟨a, c, ha, hc, hf, rfl⟩
  ·exact .inl rfl
theorem zaj (rows : List Row) (l : List Int) : (iC rows l).length <= l.length := by
 unfold iC
 induction l using jM with
 | h0 => simp [bT, CSt.out]
 | h1 l r ih =>
   rw [iD, qj, qbk];rcases qD rows (bT rows l) r with e | ⟨a, c, hs, _, _, e⟩
   ·rw [e, mS, qj, qbk]; omega
   ·rw [e]; simp only [CSt.out, hs, qaz, qj, qd] at ih ⊢; omega
theorem zak {rows : List Row} (h1 : eP rows) (l : List Int) : ∀ x ∈ iC rows l, x ∈ l ∨ (0 <= x /\ x <= 1114111) := by
 unfold iC
 induction l using jM with
 | h0 => intro x hx; simp [bT, CSt.out] at hx
 | h1 l r ih =>
   rw [iD];rcases qD rows (bT rows l) r with e | ⟨a, c, hs, hc, _, e⟩
   ·rw [e, mS];intro x hx;rcases List.mem_append.1 hx with hx | hx
    ·exact (ih x hx).imp (fun h => List.mem_append.2 (.inl h)) id
    ·exact .inl (List.mem_append.2 (.inr hx))
   ·rw [e];intro x hx;simp only [CSt.out, qaz, qah, qay, qbe, or_false] at hx ih;rcases hx with hx | rfl | hx
    ·exact (ih x (.inl hx)).imp (fun h => List.mem_append.2 (.inl h)) id
    ·exact .inr (zr1 h1 hc)
    ·exact (ih x (.inr (.inr hx))).imp (fun h => List.mem_append.2 (.inl h)) id
structure TabC (rows : List Row) : Prop where
 one : eP rows
 closed : zrw rows
 cls : iP rows
 syl : ∀ x ∈ rows, x.kind = 2 -> cD x.fr = false
 deep : ∀ x ∈ rows, x.kind = 2 -> aZ rows 7 x.fr = aZ rows 8 x.fr
theorem TabC.full7 {rows : List Row} (h : TabC rows) (r : Int) : aZ rows 7 r = aZ rows 8 r := by
 by_cases hs : cD r = true
 ·rw [kT hs, kT hs]
 ·simp only [Bool.not_eq_true] at hs;by_cases h0 : aJ rows r = (0, 0)
  ·rw [qA hs h0, qA hs h0]
  ·obtain ⟨x, hx, hk, rfl, _⟩ := zag h.one h0;exact h.deep x hx hk
theorem TabC.join {rows : List Row} (h : TabC rows) {a b c : Int} (ha : dZ rows a = true ∨ cD a = true) (hj : eQ a b = some c) : aZ rows 8 c = aZ rows 8 a ++ [b] := by
 rw [kT (zai hj)];unfold eQ at hj;split at hj
 ·rename_i hc;cases hj
  have hr : dZ rows a = true := by
   rcases ha with ha | ha
   ·exact ha
   ·simp only [cD, qf, aB] at ha; omega
  rw [vQ hr];unfold eJ;rw [if_pos (by omega)];simp only [qn, qak, List.cons.injEq, and_true];omega
 ·split at hj
  ·rename_i hc;cases hj;obtain ⟨⟨hs, h0⟩, h1, h2⟩ := hc;rw [kT hs];simp only [cD, qf, aB] at hs;unfold eJ;rw [if_neg (by omega), if_pos h0];simp only [qn, qak, List.cons.injEq, and_true];omega
  ·cases hj
theorem TabC.lead {rows : List Row} (h : TabC rows) {a : Int} (ha : 4352 <= a /\ a < 4371) : dZ rows a = true := by
 have hx := h.closed (44032 + (a - 4352) * 588) a;refine hx ?_;have hs : cD (44032 + (a - 4352) * 588) = true := by simp only [cD, qf, aB]; omega
 rw [kT hs];unfold eJ;rw [if_pos (by omega), show 4352 + (44032 + (a - 4352) * 588 - 44032) / 588 = a by omega];exact qc
theorem TabC.pair {rows : List Row} (h : TabC rows) {a b c : Int} (hb : dZ rows b = true) (hc : fI rows a b = some c) : aZ rows 8 c = aZ rows 8 a ++ [b] := by
 unfold fI at hc;split at hc
 ·rename_i s hj;cases hc;refine h.join ?_ hj;unfold eQ at hj;split at hj
  ·rename_i hq; exact .inl (h.lead hq.1)
  ·split at hj
   ·rename_i hq; exact .inr hq.1.1
   ·cases hj
 ·obtain ⟨hp, h0, _, _, x, hx, hk, rfl⟩ := zah h.one hc;have hs := h.syl x hx hk;have hn : aJ rows x.fr ≠ (0, 0) := by rw [hp]; intro e; cases e; exact h0 rfl
  rw [show (8 : Nat) = 7 + 1 from rfl];rw [aZ, if_neg (by rw [hs]; simp), if_neg hn, hp];simp only;rw [if_neg h0, h.full7, vQ hb]
theorem sV (key : Int -> Int) (M : List Int) (r : Int) : dO key (M ++ [r]) = key r := by simp [dO]
structure InvC (rows : List Row) (st : CSt) (p : List Int) : Prop where
 e : Eqv (aG rows 1) (st.out.flatMap (aZ rows 8)) p
 m : ∀ m ∈ st.M, aG rows 1 m ≠ 0 /\ dZ rows m = true /\ aG rows 1 m <= dO (aG rows 1) st.M
 q : st.M ≠ [] -> ∃ p' q, p = p' ++ [q] /\ dO (aG rows 1) st.M <= aG rows 1 q
theorem InvC.app {rows : List Row} {st : CSt} {p : List Int} (h : InvC rows st p) {r : Int} (hr : dZ rows r = true) (hc : dC (aG rows 1) (p ++ [r])) : InvC rows (cX (aG rows 1) st r) (p ++ [r]) := by
 have he : Eqv (aG rows 1) ((cX (aG rows 1) st r).out.flatMap (aZ rows 8)) (p ++ [r]) := by
  rw [mS, qm, qap, vQ hr];simpa using h.e.app [] [r]
 refine ⟨he, ?_, ?_⟩
 ·unfold cX;split
  ·intro m hm; cases hm
  ·rename_i h0;intro m hm;simp only at hm ⊢;rw [sV];rcases List.mem_append.1 hm with hm | hm
   ·obtain ⟨k1, k2, k3⟩ := h.m m hm;refine ⟨k1, k2, ?_⟩;obtain ⟨p', q, rfl, hq⟩ := h.q (List.ne_nil_of_mem hm);have := (oE.1 hc).2.2 q r (by simp) rfl h0;omega
   ·rw [qg] at hm; subst hm; exact ⟨h0, hr, qh _⟩
 ·unfold cX;split
  ·intro hn; exact absurd rfl hn
  ·intro _; exact ⟨p, r, rfl, by simp only; rw [sV]; exact qh _⟩
theorem InvC.step {rows : List Row} (ht : TabC rows) {st : CSt} {p : List Int} (h : InvC rows st p) {r : Int} (hr : dZ rows r = true) (hc : dC (aG rows 1) (p ++ [r])) : InvC rows (cV rows st r) (p ++ [r]) := by
 rcases qD rows st r with e | ⟨a, c, hs, hpc, hf, e⟩
 ·rw [e]; exact h.app hr hc
 ·rw [e];have hM : st.M.flatMap (aZ rows 8) = st.M := zht fun m hm => (h.m m hm).2.1;have he := h.e;simp only [CSt.out, hs, qaz, qm, qap, hM] at he;have hlt : st.M ≠ [] -> dO (aG rows 1) st.M < aG rows 1 r := fun hn => hf.elim (fun e => absurd e hn) id;refine ⟨?_, h.m, fun hn => ⟨p, r, rfl, qbf (hlt hn)⟩⟩;simp only [CSt.out, qaz, qm, qap, hM, ht.pair hr hpc];refine Eqv.trans ?_ (by simpa using he.app [] [r])
  by_cases hn : st.M = []
  ·rw [hn]; simp; exact .refl _
  ·have h3 : dO (aG rows 1) st.M < aG rows 1 r := hlt hn
   have hr0 : aG rows 1 r ≠ 0 := by
    intro e0;obtain ⟨m, hm⟩ := qbc _ hn;obtain ⟨k1, _, k3⟩ := h.m m hm;have := ht.cls m; omega
   have := (Eqv.ahead (key := aG rows 1) hr0 (B := st.M) [] fun m hm => ⟨(h.m m hm).1, by have := (h.m m hm).2.2; omega⟩).symm.app (st.P.flatMap (aZ rows 8) ++ aZ rows 8 a) [];simpa using this
theorem zr2 {rows : List Row} (ht : TabC rows) {l : List Int} (hr : ∀ x ∈ l, dZ rows x = true) (hc : dC (aG rows 1) l) : InvC rows (bT rows l) l := by
 revert hr hc
 induction l using jM with
 | h0 => intro _ _; exact ⟨.refl _, (fun m hm => by cases hm), fun hn => absurd rfl hn⟩
 | h1 l r ih =>
   intro hr hc;rw [iD];exact (ih (fun x hx => hr x (by simp [hx])) (oE.1 hc).1).step ht (hr r (by simp)) hc
def dT (rows : List Row) (l : List Int) : List Int := iC rows (jN rows l)
def Comp (rows : List Row) (s : List Int) : Prop := ∃ d, (∀ x ∈ d, dZ rows x = true) /\ dC (aG rows 1) d /\ iC rows d = s
section
variable {rows : List Row}
def kU (rows : List Row) (s : Option Int) (M : List Int) (r : Int) : Option Int := match s with
 | none => none
 | some a => if M = [] ∨ dO (aG rows 1) M < aG rows 1 r then fI rows a r else none
theorem lY (st : CSt) (r : Int) : cV rows st r = match kU rows st.s st.M r with | some c => ⟨st.P, some c, st.M⟩ | none => cX (aG rows 1) st r := by
 unfold cV kU;cases st.s with
 | none => rfl
 | some a =>
   simp only;split
   ·rfl
   ·rfl
theorem zal {s : Option Int} {M : List Int} {r c : Int} (h : kU rows s M r = some c) : ∃ a, s = some a /\ fI rows a r = some c /\ (M = [] ∨ dO (aG rows 1) M < aG rows 1 r) := by
 unfold kU at h;cases s with
 | none => cases h
 | some a =>
   simp only at h;split at h
   ·rename_i hf; exact ⟨a, rfl, h, hf⟩
   ·cases h
theorem lZ {d : List Int} {x : Int} : dC (aG rows 1) (d ++ [x]) ↔ dC (aG rows 1) d /\ (∀ z, d.getLast? = some z -> aG rows 1 x ≠ 0 -> aG rows 1 z <= aG rows 1 x) := by
 rw [oE];constructor
 ·rintro ⟨h1, _, h3⟩; exact ⟨h1, fun z hz hx => h3 z x hz rfl hx⟩
 ·rintro ⟨h1, h3⟩; exact ⟨h1, trivial, fun z x' hz hx' h0 => by simp at hx'; subst hx'; exact h3 z hz h0⟩
theorem zam {d : List Int} {r x : Int} (h : dC (aG rows 1) (d ++ [r] ++ [x])) (hx : aG rows 1 x ≠ 0) : aG rows 1 r <= aG rows 1 x := (lZ.1 h).2 r (by simp) hx
def Wit (rows : List Row) (d : List Int) (st : CSt) : Prop := ∃ e, (∀ x ∈ e, dZ rows x = true) /\ bT rows e = st /\ (st.out = [] -> e = []) /\ dC (aG rows 1) e /\ ∀ x, dC (aG rows 1) (d ++ [x]) -> dC (aG rows 1) (e ++ [x])
theorem Wit.snoc {d : List Int} {st : CSt} (h : Wit rows d st) {r : Int} (hr : dZ rows r = true) (hc : dC (aG rows 1) (d ++ [r])) (hn : (cV rows st r).out ≠ []) : Wit rows (d ++ [r]) (cV rows st r) := by
 obtain ⟨e, h1, h2, h3, h4, h5⟩ := h;refine ⟨e ++ [r], fun x hx => ?_, by rw [iD, h2], fun hq => absurd hq hn, h5 r hc, fun x hx => ?_⟩
 ·rcases List.mem_append.1 hx with hx | hx
  ·exact h1 x hx
  ·rw [qg] at hx; subst hx; exact hr
 ·exact lZ.2 ⟨h5 r hc, fun z hz h0 => by simp at hz; subst hz; exact zam hx h0⟩
theorem zan {key : Int -> Int} {M : List Int} (h : M ≠ []) : ∃ m ∈ M, dO key M = key m := by
 rcases M.eq_nil_or_concat with rfl | ⟨D, z, rfl⟩
 ·exact absurd rfl h
 ·exact ⟨z, by simp, by simp [dO]⟩
theorem zhv {d : List Int} (h : (bT rows d).out = []) : d = [] := by
 revert h
 induction d using jM with
 | h0 => exact fun _ => rfl
 | h1 d r ih =>
   rw [iD, lY];intro h;split at h
   ·simp [CSt.out] at h
   ·rw [mS] at h; simp at h
theorem sW {d : List Int} (h : (bT rows d).s = none) : (bT rows d).P = [] := by
 revert h
 induction d using jM with
 | h0 => exact fun _ => rfl
 | h1 d r ih =>
   rw [iD, lY];split
   ·intro h; cases h
   ·unfold cX;split
    ·intro h; cases h
    ·exact ih
theorem zr3 (ht : TabC rows) {d : List Int} (hr : ∀ x ∈ d, dZ rows x = true) (hc : dC (aG rows 1) d) (hn : (bT rows d).M ≠ []) :
 Wit rows d ⟨(bT rows d).P, (bT rows d).s, (bT rows d).M.dropLast⟩ := by
 revert hr hc hn
 induction d using jM with
 | h0 => intro _ _ hn; exact absurd rfl hn
 | h1 d r ih =>
   intro hr hc;have hr1 : ∀ x ∈ d, dZ rows x = true := fun x hx => hr x (by simp [hx]);have hc1 := (lZ.1 hc).1;have hinv := zr2 ht hr1 hc1;have hrr := hr r (by simp);rw [iD];have ih := ih hr1 hc1;have hon := zhv (rows := rows) (d := d);generalize hsd : bT rows d = st at *;rw [lY];cases hd : kU rows st.s st.M r with
   | none =>
     simp only;unfold cX;split
     ·intro hn; exact absurd rfl hn
     ·rename_i h0;intro _;simp only [qad];refine ⟨d, hr1, hsd, fun h => hon h, hc1, fun x hx => lZ.2 ⟨hc1, fun z hz hx0 => ?_⟩⟩;have := (lZ.1 hc).2 z hz h0;have := zam hx hx0;omega
   | some c =>
     simp only;intro hn;obtain ⟨a, hs, hp, hf⟩ := zal hd;have hlt := hf.elim (fun e => absurd e hn) id;have hw := (ih hn).snoc hrr hc
     have he : cV rows ⟨st.P, st.s, st.M.dropLast⟩ r = ⟨st.P, some c, st.M.dropLast⟩ := by
      rw [lY]
      have : kU rows st.s st.M.dropLast r = some c := by
       unfold kU;rw [hs];simp only;rw [if_pos, hp];by_cases hdl : st.M.dropLast = []
       ·exact .inl hdl
       ·obtain ⟨m, hm, e⟩ := zan (key := aG rows 1) hdl;have := (hinv.m m (List.dropLast_subset _ hm)).2.2;exact .inr (by omega)
      simp only [this]
     rw [he] at hw;exact hw (by simp [CSt.out])
def fV (st : CSt) : CSt := match st.s, st.P with
 | none, P => ⟨P, none, st.M.tail⟩
 | some _, [] => ⟨[], none, st.M⟩
 | some c, _ :: P => ⟨P, some c, st.M⟩
theorem zr4 {st : CSt} (h : st.s = none -> st.P = []) : (fV st).out = st.out.tail := by
 obtain ⟨P, s, M⟩ := st;cases s with
 | none =>
   have hp : P = [] := h rfl;subst hp;simp [fV, CSt.out]
 | some c => cases P <;> simp [fV, CSt.out]
theorem zr5 (hk : iP rows) (M : List Int) : 0 <= dO (aG rows 1) M := by
 by_cases h : M = []
 ·subst h; exact qh _
 ·obtain ⟨m, _, e⟩ := zan (key := aG rows 1) h;rw [e]; exact hk m
theorem zr6 (ht : TabC rows) {d : List Int} (hr : ∀ x ∈ d, dZ rows x = true) (hc : dC (aG rows 1) d) (hn : d ≠ []) : Wit rows d (fV (bT rows d)) := by
 revert hr hc hn
 induction d using jM with
 | h0 => intro _ _ hn; exact absurd rfl hn
 | h1 d r ih =>
   intro hr hc _;have hr1 : ∀ x ∈ d, dZ rows x = true := fun x hx => hr x (by simp [hx]);have hc1 := (lZ.1 hc).1;have hrr := hr r (by simp);by_cases hd0 : d = []
   ·subst hd0;refine ⟨[], fun x hx => (by cases hx), ?_, fun _ => rfl, trivial, fun x _ => trivial⟩;rw [iD];show _ = fV (cX (aG rows 1) ⟨[], none, []⟩ r);unfold cX;split <;> rfl
   ·have ih := ih hr1 hc1 hd0;have hP := sW (rows := rows) (d := d);have hon : (bT rows d).out ≠ [] := fun h => hd0 (zhv h);rw [iD];generalize bT rows d = st at *
    have key : (fV (cV rows st r) = cV rows (fV st) r /\ (cV rows (fV st) r).out ≠ []) -> Wit rows (d ++ [r]) (fV (cV rows st r)) := fun ⟨h1, h2⟩ => by
     rw [h1]; exact ih.snoc hrr hc h2
    obtain ⟨P, s, M⟩ := st;cases s with
    | none =>
      obtain rfl : P = [] := hP rfl;cases M with
      | nil => exact absurd rfl hon
      | cons m M =>
        refine key ?_;have e1 : cV rows ⟨[], none, m :: M⟩ r = cX (aG rows 1) ⟨[], none, m :: M⟩ r := rfl;have e2 : cV rows (fV ⟨[], none, m :: M⟩) r = cX (aG rows 1) ⟨[], none, M⟩ r := rfl;rw [e1, e2, mS];refine ⟨?_, by simp⟩;unfold cX;split <;> simp [fV, CSt.out]
    | some c =>
      cases P with
      | cons p P =>
        refine key ?_;have e2 : fV ⟨p :: P, some c, M⟩ = ⟨P, some c, M⟩ := rfl;rw [e2, lY, lY];simp only;cases kU rows (some c) M r with
        | none => simp only; rw [mS]; refine ⟨?_, by simp⟩; unfold cX; split <;> simp [fV, CSt.out]
        | some c' => exact ⟨rfl, by simp [CSt.out]⟩
      | nil =>
        have e2 : fV ⟨[], some c, M⟩ = ⟨[], none, M⟩ := rfl;have e3 : cV rows ⟨[], none, M⟩ r = cX (aG rows 1) ⟨[], none, M⟩ r := rfl;cases hdec : kU rows (some c) M r with
        | none =>
          refine key ?_;rw [e2, e3, lY];simp only [hdec];rw [mS];refine ⟨?_, by simp⟩;unfold cX;split <;> simp [fV, CSt.out]
        | some c' =>
          obtain ⟨a, _, hp, hf⟩ := zal hdec
          have e4 : fV (cV rows ⟨[], some c, M⟩ r) = ⟨[], none, M⟩ := by
           rw [lY]; simp only [hdec]; rfl
          rw [e4];rw [e2] at ih;obtain ⟨e, h1, h2, h3, h4, h5⟩ := ih;refine ⟨e, h1, h2, h3, h4, fun x hx => lZ.2 ⟨h4, fun z hz hx0 => ?_⟩⟩;by_cases h0 : aG rows 1 r = 0
          ·have hl := zr5 ht.cls M;have hM : M = [] := hf.elim id fun h => by omega
           subst hM;have := h3 rfl;subst this;simp at hz
          ·have k1 := (lZ.1 (h5 r hc)).2 z hz h0;have k2 := zam hx hx0;omega
theorem zr7 {d : List Int} (hr : ∀ x ∈ d, dZ rows x = true) (hc : dC (aG rows 1) d) (hn : (bT rows d).s ≠ none) : ∃ e, (∀ x ∈ e, dZ rows x = true) /\ dC (aG rows 1) e /\ (bT rows e).out = (bT rows d).P := by
 revert hr hc hn
 induction d using jM with
 | h0 => intro _ _ hn; exact absurd rfl hn
 | h1 d r ih =>
   intro hr hc;have hr1 : ∀ x ∈ d, dZ rows x = true := fun x hx => hr x (by simp [hx]);have hc1 := (lZ.1 hc).1;have ih := ih hr1 hc1;rw [iD, lY];cases hd : kU rows (bT rows d).s (bT rows d).M r with
   | none =>
     simp only;unfold cX;split
     ·intro _; exact ⟨d, hr1, hc1, rfl⟩
     ·exact ih
   | some c =>
     obtain ⟨a, hs, _⟩ := zal hd;intro _;exact ih (by rw [hs]; simp)
theorem Comp.nil : Comp rows [] := ⟨[], fun x hx => (by cases hx), trivial, rfl⟩
theorem Comp.tail (ht : TabC rows) {s : List Int} (h : Comp rows s) : Comp rows s.tail := by
 obtain ⟨d, h1, h2, rfl⟩ := h;by_cases hd : d = []
 ·subst hd; exact .nil
 ·obtain ⟨e, k1, k2, _, k4, _⟩ := zr6 ht h1 h2 hd;exact ⟨e, k1, k4, by unfold iC; rw [k2, zr4 sW]⟩
theorem Comp.dropLast (ht : TabC rows) {s : List Int} (h : Comp rows s) : Comp rows s.dropLast := by
 obtain ⟨d, h1, h2, rfl⟩ := h;unfold iC;by_cases hM : (bT rows d).M = []
 ·cases hs : (bT rows d).s with
  | none =>
    have : (bT rows d).out = [] := by simp [CSt.out, sW hs, hs, hM]
    rw [this]; exact .nil
  | some c =>
    obtain ⟨e, k1, k2, k3⟩ := zr7 h1 h2 (by rw [hs]; simp);refine ⟨e, k1, k2, ?_⟩;unfold iC;rw [k3];simp [CSt.out, hs, hM]
 ·obtain ⟨e, k1, k2, _, k4, _⟩ := zr3 ht h1 h2 hM;refine ⟨e, k1, k4, ?_⟩;unfold iC;rw [k2];simp only [CSt.out];rw [qau (by simp [hM]), qau hM]
theorem Comp.drop (ht : TabC rows) {s : List Int} (h : Comp rows s) : ∀ k, Comp rows (s.drop k)
 | 0 => h
 | k + 1 => by
   have := (Comp.drop ht h k).tail ht;rwa [List.tail_drop] at this
theorem Comp.take (ht : TabC rows) {s : List Int} (h : Comp rows s) (k : Nat) : Comp rows (s.take k) := by
 have : ∀ n, Comp rows (s.take (s.length - n)) := by
  intro n
  induction n with
  | zero => rw [Nat.sub_zero, List.take_length]; exact h
  | succ n ih =>
    have := ih.dropLast ht;rw [List.dropLast_eq_take, qcj, qaq] at this;rwa [show min (min (s.length - n) s.length - 1) (s.length - n) = s.length - (n + 1) by omega] at this
 by_cases hk : k <= s.length
 ·have := this (s.length - k);rwa [show s.length - (s.length - k) = k by omega] at this
 ·rw [qw (by omega)]; exact h
end
end Go.Eng.Rows

namespace Go.Eng.Srt
open Go Go.Eng
section
variable {key : Int -> Int} (hk : ∀ x, 0 <= key x)
include hk
end
end Go.Eng.Srt
namespace Go.Eng.Rows
open Go Go.Eng Go.Eng.Trie Go.Eng.Srt
section
variable {rows : List Row}
def CSt.pre (Q : List Int) (st : CSt) : CSt := ⟨Q ++ st.P, st.s, st.M⟩
end
end Go.Eng.Rows

namespace Go.Eng.Rows
open Go Go.Eng Go.Eng.Trie Go.Eng.Srt
def fJ (L : List Int) (a b : Nat) : List Int := (L.take b).drop a
def zr8 (rows : List Row) (L want : List Int) (a b : Nat) : Bool := decide (jN rows (fJ L a b) = want)
def fTo (p : Nat -> Bool) (b : Nat) : Nat -> Option Nat
 | 0 => none
 | k + 1 => if p b then some b else fTo p (b + 1) k
def zhw (rows : List Row) (L want : List Int) (a : Nat) : Nat -> Option (Nat × Nat)
 | 0 => none
 | k + 1 => match fTo (zr8 rows L want a) a (L.length + 1 - a) with
   | some b => some (a, b)
   | none => zhw rows L want (a + 1) k
def findL (rows : List Row) (L want : List Int) : Option (Nat × Nat) := zhw rows L want 0 (L.length + 1)
theorem zr9 {L : List Int} {j b : Nat} (h : j <= b) (hb : b <= L.length) : L.drop j = fJ L j b ++ L.drop b := by
 have h1 : L = L.take b ++ L.drop b := (qas b L).symm;have h2 : L.drop j = (L.take b ++ L.drop b).drop j := by rw [<- h1]
 rw [h2, List.drop_append_of_le_length (by rw [qaq]; omega)]; rfl
theorem drop_cons {L : List Int} {b : Nat} (h : b < L.length) : L.drop b = L.getD b 0 :: L.drop (b + 1) := by
 rw [qbd h];simp only [qac, qi h, qbg]
section
variable {rows : List Row}
end
section
variable (p : List Int -> Option (Nat × Nat)) (ls : List (List Int)) (s : Int)
end
section
variable {p : List Int -> Option (Nat × Nat)} {ls : List (List Int)} {s : Int}
end
section
variable (p : List Int -> Option (Nat × Nat)) (L : List Int)
end
def Inc (n : Nat) : Nat -> List (Nat × Nat) -> Prop
 | i, [] => i <= n
 | i, (a, b) :: ps => i <= a /\ a < b /\ Inc n b ps
theorem Inc.le {n : Nat} : ∀ {ps : List (Nat × Nat)} {i : Nat}, Inc n i ps -> i <= n
 | [], i, h => h
 | (a, b) :: ps, i, h => by have := h.2.2.le; have := h.1; have := h.2.1; omega
theorem Inc.len {n : Nat} : ∀ {ps : List (Nat × Nat)} {i : Nat}, Inc n i ps -> ps.length + i <= n
 | [], i, h => by have : i <= n := h; simpa using this
 | (a, b) :: ps, i, h => by have := h.2.2.len; have := h.1; have := h.2.1; rw [qd]; omega
section
variable {p : List Int -> Option (Nat × Nat)} {L : List Int}
end
def aL (rows : List Row) (r : Int) : Int := if 44032 <= r /\ r <= 55203 then (if (r - 44032).tmod 28 = 0 then 12 else 13) else aG rows 4 r
def cK (rows : List Row) (r : Int) : Int := if aG rows 6 r ≠ 0 then aG rows 6 r else if (aL rows r = 4 ∨ aL rows r = 5) /\ r ≠ 8204 then 3 else 0
def dA (b : Int) : Bool := decide (b = 3) || (decide (b = 1) || decide (b = 2))
def oF (a b : Int) : Bool :=
 if a = 9 then decide (b = 9) || (decide (b = 10) || (decide (b = 12) || decide (b = 13)))
 else if a = 12 ∨ a = 10 then decide (b = 10) || decide (b = 11)
 else if a = 13 ∨ a = 11 then decide (b = 11) else false
def iQ (a b : Int) : Bool :=
 if a = 1 then decide (b = 2) else if a = 2 ∨ a = 3 then false
 else if b = 1 ∨ b = 2 ∨ b = 3 then false else if b = 4 ∨ b = 5 ∨ b = 8 then true
 else if a = 7 then true else oF a b
structure SSt where
 (some : Bool) (last pict conj : Int) (odd : Bool)
def d0 (rows : List Row) (st : SSt) (r : Int) : SSt :=
 ⟨true, aL rows r,
  if cJ rows 5 r = true then 1 else if st.pict = 1 /\ aL rows r = 4 then 1 else if st.pict = 1 /\ aL rows r = 5 then 2 else 0,
  if cK rows r = 2 then 1 else if st.conj ≠ 0 /\ cK rows r = 1 then 2 else if st.conj ≠ 0 /\ cK rows r = 3 then st.conj else 0,
  decide (aL rows r = 6) && !st.odd⟩
def sX (rows : List Row) (st : SSt) (r : Int) : Bool :=
 !iQ st.last (aL rows r) && (!(decide (st.pict = 2) && cJ rows 5 r) && (!(decide (st.conj = 2) && decide (cK rows r = 2)) && !(st.odd && decide (aL rows r = 6))))
def qE (rows : List Row) (st : SSt) (r : Int) : Bool := !st.some || sX rows st r
def st0 : SSt := ⟨false, 0, 0, 0, false⟩
def bG (rows : List Row) (L : List Int) (a : Nat) : Nat -> SSt
 | 0 => st0
 | k + 1 => d0 rows (bG rows L a k) (L.getD (a + k) 0)
def fW (rows : List Row) (L : List Int) (i : Nat) : Bool := qE rows (bG rows L 0 i) (L.getD i 0)
structure iR (rows : List Row) : Prop where
 pict : ∀ r, cJ rows 5 r = true -> dA (aL rows r) = false /\ aL rows r ≠ 5
 conj : ∀ r, cK rows r = 0 ∨ cK rows r = 1 ∨ cK rows r = 2 ∨ cK rows r = 3
 cons : ∀ r, cK rows r ≠ 0 -> dA (aL rows r) = false
 join : ∀ r, cK rows r = 1 ∨ cK rows r = 3 -> aL rows r = 4 ∨ aL rows r = 5 ∨ aL rows r = 8
theorem zsa {a b : Int} (h : dA a = true ∨ dA b = true) (h2 : ¬(a = 1 /\ b = 2)) : iQ a b = false := by
 unfold dA at h;simp only [Bool.or_eq_true, aB] at h;unfold iQ;by_cases h1 : a = 1
 ·rw [if_pos h1]; exact decide_eq_false fun h3 => h2 ⟨h1, h3⟩
 ·rw [if_neg h1];by_cases h3 : a = 2 ∨ a = 3
  ·rw [if_pos h3]
  ·rw [if_neg h3, if_pos (by omega)]
theorem zsb {a b : Int} (h : dA a = false) (h2 : dA b = false) (h3 : b = 4 ∨ b = 5 ∨ b = 8) : iQ a b = true := by
 unfold dA at h h2;simp only [qbn, dJ] at h h2;unfold iQ;rw [if_neg h.2.1, if_neg (by omega), if_neg (by omega), if_pos h3]
section
variable {rows : List Row} {L : List Int}
theorem zao {a k : Nat} : (bG rows L a (k + 1)).last = aL rows (L.getD (a + k) 0) := rfl
theorem zsc {a k : Nat} : (bG rows L a (k + 1)).some = true := rfl
theorem zhx {a : Nat} (ht : iR rows) : ∀ k, (bG rows L a k).pict ≠ 0 -> dA (bG rows L a k).last = false
 | 0, h => absurd rfl h
 | k + 1, h => by
   rw [zao];by_cases h1 : cJ rows 5 (L.getD (a + k) 0) = true
   ·exact (ht.pict _ h1).1
   ·have h' : (if (bG rows L a k).pict = 1 /\ aL rows (L.getD (a + k) 0) = 4 then (1 : Int) else if (bG rows L a k).pict = 1 /\ aL rows (L.getD (a + k) 0) = 5 then 2 else 0) ≠ 0 := by
     have h2 : (d0 rows (bG rows L a k) (L.getD (a + k) 0)).pict ≠ 0 := h;unfold d0 at h2; simp only [if_neg h1] at h2; exact h2
    have : aL rows (L.getD (a + k) 0) = 4 ∨ aL rows (L.getD (a + k) 0) = 5 := by
     split at h'
     ·rename_i h3; exact .inl h3.2
     ·split at h'
      ·rename_i h3; exact .inr h3.2
      ·exact absurd rfl h'
    unfold dA;rcases this with e | e <;> rw [e] <;> rfl
theorem zhy {a : Nat} (ht : iR rows) : ∀ k, (bG rows L a k).conj ≠ 0 -> dA (bG rows L a k).last = false
 | 0, h => absurd rfl h
 | k + 1, h => by
   rw [zao];apply ht.cons;intro h0;apply h;show (d0 rows (bG rows L a k) (L.getD (a + k) 0)).conj = 0;unfold d0;simp only [h0];rw [if_neg (by decide), if_neg (fun h => absurd h.2 (by decide)), if_neg (fun h => absurd h.2 (by decide))]
theorem zhz (k : Nat) : fW rows L (k + 1) = sX rows (bG rows L 0 (k + 1)) (L.getD (k + 1) 0) := by
 unfold fW qE; rw [zsc]; rfl
theorem zh0 (ht : iR rows) {a : Nat} (hb : fW rows L a = true) : ∀ k, bG rows L a (k + 1) = bG rows L 0 (a + (k + 1))
 | 0 => by
   cases a with
   | zero => rfl
   | succ a =>
     rw [zhz] at hb;show d0 rows st0 (L.getD (a + 1 + 0) 0) = d0 rows (bG rows L 0 (a + 1)) (L.getD (0 + (a + 1)) 0);rw [show a + 1 + 0 = a + 1 by omega, show 0 + (a + 1) = a + 1 by omega];have hp := zhx (a := 0) (L := L) ht (a + 1);have hc := zhy (a := 0) (L := L) ht (a + 1);generalize bG rows L 0 (a + 1) = st at *;generalize L.getD (a + 1) 0 = r at *;unfold sX at hb;simp only [qf, qy, qab] at hb;obtain ⟨h1, h2, h3, h4⟩ := hb
     have hs : aL rows r = 4 ∨ aL rows r = 5 ∨ aL rows r = 8 -> dA st.last = true := fun h => by
      cases hh : dA st.last with
      | true => rfl
      | false => rw [zsb hh (by unfold dA; rcases h with e | e | e <;> rw [e] <;> rfl) h] at h1; cases h1
     unfold d0 st0
     have e1 : (if cJ rows 5 r = true then (1 : Int) else if (0 : Int) = 1 /\ aL rows r = 4 then 1 else if (0 : Int) = 1 /\ aL rows r = 5 then 2 else 0) = (if cJ rows 5 r = true then 1 else if st.pict = 1 /\ aL rows r = 4 then 1 else if st.pict = 1 /\ aL rows r = 5 then 2 else 0) := by
      by_cases h5 : cJ rows 5 r = true
      ·rw [if_pos h5, if_pos h5]
      ·rw [if_neg h5, if_neg h5, if_neg (by omega), if_neg (by omega)]
       have : ∀ b, (b = 4 ∨ b = 5 ∨ b = 8) -> ¬(st.pict = 1 /\ aL rows r = b) := fun b hb h => by
        have := hs (by rw [h.2]; exact hb);rw [hp (by omega)] at this; cases this
       rw [if_neg (this 4 (by omega)), if_neg (this 5 (by omega))]
     have e2 : (if cK rows r = 2 then (1 : Int) else if (0 : Int) ≠ 0 /\ cK rows r = 1 then 2 else if (0 : Int) ≠ 0 /\ cK rows r = 3 then 0 else 0) = (if cK rows r = 2 then 1 else if st.conj ≠ 0 /\ cK rows r = 1 then 2 else if st.conj ≠ 0 /\ cK rows r = 3 then st.conj else 0) := by
      by_cases h5 : cK rows r = 2
      ·rw [if_pos h5, if_pos h5]
      ·rw [if_neg h5, if_neg h5, if_neg (by omega), if_neg (by omega)]
       have : ∀ c, (c = 1 ∨ c = 3) -> ¬(st.conj ≠ 0 /\ cK rows r = c) := fun c hc2 h => by
        have := hs (ht.join r (by rw [h.2]; exact hc2));rw [hc h.1] at this; cases this
       rw [if_neg (this 1 (by omega)), if_neg (this 3 (by omega))]
     have e3 : (decide (aL rows r = 6) && !false) = (decide (aL rows r = 6) && !st.odd) := by
      rcases h4 with h4 | h4
      ·rw [h4]
      ·rw [h4]; rfl
     dsimp only at e1 e2 e3 ⊢;rw [e1, e2, e3]
 | k + 1 => by
   show d0 rows (bG rows L a (k + 1)) (L.getD (a + (k + 1)) 0) = d0 rows (bG rows L 0 (a + (k + 1))) (L.getD (0 + (a + (k + 1))) 0);rw [zh0 ht hb k, qu]
theorem zsd (ht : iR rows) {a : Nat} (hb : fW rows L a = true) (k : Nat) : qE rows (bG rows L a (k + 1)) (L.getD (a + (k + 1)) 0) = fW rows L (a + (k + 1)) := by
 rw [zh0 ht hb k]; rfl
end
def gM (rows : List Row) (L : List Int) : Nat -> Nat -> Nat
 | 0, i => i
 | k + 1, i => if fW rows L i = true then i else gM rows L k (i + 1)
def cE (rows : List Row) (L : List Int) (a : Nat) : Nat := gM rows L (L.length - (a + 1)) (a + 1)
theorem zh1 (rows : List Row) (L : List Int) : ∀ k i, i <= gM rows L k i /\ gM rows L k i <= i + k /\ (gM rows L k i = i + k ∨ fW rows L (gM rows L k i) = true)
 | 0, i => ⟨qo _, qo _, .inl rfl⟩
 | k + 1, i => by
   rw [gM];split
   ·rename_i h; exact ⟨qo _, by omega, .inr h⟩
   ·obtain ⟨h1, h2, h3⟩ := zh1 rows L k (i + 1);exact ⟨by omega, by omega, h3.imp (fun e => by omega) id⟩
def fK (rows : List Row) (L : List Int) : Nat -> Nat -> List (List Int)
 | 0, _ => []
 | k + 1, i => if i < L.length then fJ L i (cE rows L i) :: fK rows L k (cE rows L i) else []
def gO (rows : List Row) (L : List Int) (i : Nat) : List (List Int) := fK rows L (L.length + 1) i
theorem mT {rows : List Row} {L : List Int} {i : Nat} (h : i < L.length) : i < cE rows L i /\ cE rows L i <= L.length /\ (cE rows L i = L.length ∨ fW rows L (cE rows L i) = true) := by
 obtain ⟨h1, h2, h3⟩ := zh1 rows L (L.length - (i + 1)) (i + 1);unfold cE;exact ⟨by omega, by omega, h3.imp (fun e => by omega) id⟩
theorem zh2 (rows : List Row) (L : List Int) : ∀ k i, L.length + 1 <= k + i -> fK rows L k i = fK rows L (k + 1) i
 | 0, i, h => by rw [fK, fK, if_neg (by omega)]
 | k + 1, i, h => by
   rw [fK, fK];by_cases hi : i < L.length
   ·rw [if_pos hi, if_pos hi, zh2 rows L k _ (by have := (mT (rows := rows) hi).1; omega)]
   ·rw [if_neg hi, if_neg hi]
theorem vS {rows : List Row} {L : List Int} {i : Nat} (h : L.length <= i) : gO rows L i = [] := by unfold gO; rw [fK, if_neg (by omega)]
theorem zap {rows : List Row} {L : List Int} {i : Nat} (h : i < L.length) : gO rows L i = fJ L i (cE rows L i) :: gO rows L (cE rows L i) := by
 have := (mT (rows := rows) h).1;unfold gO;rw [<- zh2 rows L L.length (cE rows L i) (by omega), fK, if_pos h]
section
variable {rows : List Row} {L : List Int}
theorem zse (ht : iR rows) (k : Nat) : fW rows L (k + 1) =
 (if aL rows (L.getD k 0) = 1 /\ aL rows (L.getD (k + 1) 0) = 2 then false
  else if dA (aL rows (L.getD k 0)) = true ∨ dA (aL rows (L.getD (k + 1) 0)) = true then true
  else if oF (aL rows (L.getD k 0)) (aL rows (L.getD (k + 1) 0)) = true ∨ (aL rows (L.getD (k + 1) 0) = 4 ∨ aL rows (L.getD (k + 1) 0) = 5 ∨ aL rows (L.getD (k + 1) 0) = 8 ∨ aL rows (L.getD k 0) = 7) then false
  else !(decide (cK rows (L.getD (k + 1) 0) = 2) && decide ((bG rows L 0 (k + 1)).conj = 2)) && (!(cJ rows 5 (L.getD (k + 1) 0) && decide ((bG rows L 0 (k + 1)).pict = 2)) && !(decide (aL rows (L.getD (k + 1) 0) = 6) && (bG rows L 0 (k + 1)).odd))) := by
 rw [zhz];have hl : (bG rows L 0 (k + 1)).last = aL rows (L.getD k 0) := by rw [zao, qu]
 have hp := zhx (a := 0) (L := L) ht (k + 1);have hc := zhy (a := 0) (L := L) ht (k + 1)
 have ho : (bG rows L 0 (k + 1)).odd = true -> aL rows (L.getD k 0) = 6 := fun h => by
  have h' : (decide (aL rows (L.getD (0 + k) 0) = 6) && !(bG rows L 0 k).odd) = true := h;simp only [qf, aB, qu] at h'; exact h'.1
 have h5 := ht.pict (L.getD (k + 1) 0);have h6 := ht.cons (L.getD (k + 1) 0);rw [hl] at hp hc;generalize bG rows L 0 (k + 1) = st at *;generalize L.getD (k + 1) 0 = r at *;generalize L.getD k 0 = q at *;unfold sX;rw [hl]
 have hhard : dA (aL rows q) = true ∨ dA (aL rows r) = true -> (!(decide (st.pict = 2) && cJ rows 5 r) && (!(decide (st.conj = 2) && decide (cK rows r = 2)) && !(st.odd && decide (aL rows r = 6)))) = true := fun h => by
  have g1 : (decide (st.pict = 2) && cJ rows 5 r) = false := by
   rw [qab, dJ];rcases h with h | h
   ·exact .inl fun e => by rw [hp (by omega)] at h; cases h
   ·right;cases ht5 : cJ rows 5 r with
    | false => rfl
    | true => rw [(h5 ht5).1] at h; cases h
  have g2 : (decide (st.conj = 2) && decide (cK rows r = 2)) = false := by
   rw [qab, dJ, dJ];rcases h with h | h
   ·exact .inl fun e => by rw [hc (by omega)] at h; cases h
   ·exact .inr fun e => by rw [h6 (by omega)] at h; cases h
  have g3 : (st.odd && decide (aL rows r = 6)) = false := by
   rw [qab, dJ];rcases h with h | h
   ·left;cases hod : st.odd with
    | false => rfl
    | true => rw [ho hod] at h; cases h
   ·exact .inr fun e => by rw [e] at h; cases h
  rw [g1, g2, g3]; rfl
 by_cases c1 : aL rows q = 1 /\ aL rows r = 2
 ·rw [if_pos c1];have : iQ (aL rows q) (aL rows r) = true := by rw [c1.1, c1.2]; rfl
  rw [this]; rfl
 rw [if_neg c1];by_cases c2 : dA (aL rows q) = true ∨ dA (aL rows r) = true
 ·rw [if_pos c2, hhard c2, zsa c2 c1]; rfl
 rw [if_neg c2]
 have c3 : dA (aL rows q) = false /\ dA (aL rows r) = false := by
  constructor
  ·cases h : dA (aL rows q) with
   | false => rfl
   | true => exact absurd (.inl h) c2
  ·cases h : dA (aL rows r) with
   | false => rfl
   | true => exact absurd (.inr h) c2
 have hst : iQ (aL rows q) (aL rows r) = true ↔ (oF (aL rows q) (aL rows r) = true ∨ (aL rows r = 4 ∨ aL rows r = 5 ∨ aL rows r = 8 ∨ aL rows q = 7)) := by
  obtain ⟨q1, q2⟩ := c3;generalize aL rows q = a at *;generalize aL rows r = b at *;unfold dA at q1 q2;simp only [qbn, dJ] at q1 q2;unfold iQ;rw [if_neg q1.2.1, if_neg (by omega), if_neg (by omega)];by_cases d1 : b = 4 ∨ b = 5 ∨ b = 8
  ·rw [if_pos d1]; exact ⟨fun _ => .inr (by omega), fun _ => rfl⟩
  ·rw [if_neg d1];by_cases d2 : a = 7
   ·rw [if_pos d2]; exact ⟨fun _ => .inr (by omega), fun _ => rfl⟩
   ·rw [if_neg d2]; exact ⟨fun h => .inl h, fun h => h.resolve_right (by omega)⟩
 by_cases c4 : oF (aL rows q) (aL rows r) = true ∨ (aL rows r = 4 ∨ aL rows r = 5 ∨ aL rows r = 8 ∨ aL rows q = 7)
 ·rw [if_pos c4, hst.2 c4]; rfl
 ·rw [if_neg c4]
  have : iQ (aL rows q) (aL rows r) = false := by
   cases h : iQ (aL rows q) (aL rows r) with
   | false => rfl
   | true => exact absurd (hst.1 h) c4
  rw [this];simp only [Bool.not_false, Bool.true_and];rw [qbp (decide (cK rows r = 2)), qbp (cJ rows 5 r), qbp (decide (aL rows r = 6))];cases (decide (st.conj = 2) && decide (cK rows r = 2)) <;> cases (decide (st.pict = 2) && cJ rows 5 r) <;> rfl
theorem zsf (k : Nat) : (bG rows L 0 (k + 1)).conj = if cK rows (L.getD k 0) = 2 then 1 else if (bG rows L 0 k).conj ≠ 0 /\ cK rows (L.getD k 0) = 1 then 2 else if (bG rows L 0 k).conj ≠ 0 /\ cK rows (L.getD k 0) = 3 then (bG rows L 0 k).conj else 0 := by
 show (d0 rows (bG rows L 0 k) (L.getD (0 + k) 0)).conj = _;rw [qu]; rfl
theorem zh3 (k : Nat) : (bG rows L 0 (k + 1)).pict = if cJ rows 5 (L.getD k 0) = true then 1 else if (bG rows L 0 k).pict = 1 /\ aL rows (L.getD k 0) = 4 then 1 else if (bG rows L 0 k).pict = 1 /\ aL rows (L.getD k 0) = 5 then 2 else 0 := by
 show (d0 rows (bG rows L 0 k) (L.getD (0 + k) 0)).pict = _;rw [qu]; rfl
theorem zsg (k : Nat) : (bG rows L 0 (k + 1)).odd = (decide (aL rows (L.getD k 0) = 6) && !(bG rows L 0 k).odd) := by
 show (d0 rows (bG rows L 0 k) (L.getD (0 + k) 0)).odd = _;rw [qu]; rfl
end
end Go.Eng.Rows

namespace Go.Eng.Srt
open Go Go.Eng
end Go.Eng.Srt
namespace Go.Eng.Rows
open Go Go.Eng Go.Eng.Trie Go.Eng.Srt
section
variable {rows : List Row}
end
section
variable (ks : List (List Int))
end
section
variable {ks : List (List Int)} {want : List Int}
end
section
variable {rows : List Row} {L : List Int}
theorem zh4 : ∀ (n i : Nat), L.length - i <= n -> (gO rows L i).flatten = L.drop i
 | 0, i, h => by rw [vS (by omega), qx (by omega)]; rfl
 | n + 1, i, h => by
   by_cases hi : i < L.length
   ·obtain ⟨h1, h2, _⟩ := mT (rows := rows) hi;rw [zap hi, List.flatten_cons, zh4 n _ (by omega), zr9 (j := i) (b := cE rows L i) (by omega) h2]
   ·rw [vS (by omega), qx (by omega)]; rfl
theorem zsh (rows : List Row) (L : List Int) : (gO rows L 0).flatten = L := by rw [zh4 L.length 0 (by omega)]; rfl
end
end Go.Eng.Rows

namespace Go.Eng.Rows
open Go Go.Eng Go.Eng.Trie Go.Eng.Srt
def aU : List (List Int) -> List (List Int) -> Nat
 | [], _ => 0
 | _ :: _, [] => 0
 | a :: xs, b :: bs => if a = b then aU xs bs + 1 else max (aU xs (b :: bs)) (aU (a :: xs) bs)
 termination_by A B => A.length + B.length
theorem oG (B : List (List Int)) : aU [] B = 0 := by rw [aU]
theorem oH (A : List (List Int)) : aU A [] = 0 := by cases A <;> rw [aU]
theorem oI (a b : List Int) (xs bs : List (List Int)) : aU (a :: xs) (b :: bs) = if a = b then aU xs bs + 1 else max (aU xs (b :: bs)) (aU (a :: xs) bs) := by rw [aU]
theorem qF : ∀ (n : Nat) (A B : List (List Int)), A.length + B.length <= n -> ∃ S : List (List Int), S.Sublist A /\ S.Sublist B /\ S.length = aU A B
 | _, [], B, _ => ⟨[], qar _, qar _, (oG B).symm⟩
 | _, a :: xs, [], _ => ⟨[], qar _, qar _, (oH _).symm⟩
 | 0, a :: xs, b :: bs, h => by simp at h
 | n + 1, a :: xs, b :: bs, h => by
   simp only [qd] at h;rw [oI];by_cases e : a = b
   ·rw [if_pos e];obtain ⟨S, h1, h2, h3⟩ := qF n xs bs (by omega);exact ⟨a :: S, h1.cons_cons a, e ▸ h2.cons_cons a, by rw [qd, h3]⟩
   ·rw [if_neg e];by_cases hm : aU xs (b :: bs) <= aU (a :: xs) bs
    ·rw [qcc hm];obtain ⟨S, h1, h2, h3⟩ := qF n (a :: xs) bs (by simp only [qd]; omega);exact ⟨S, h1, h2.cons b, h3⟩
    ·rw [qcf (by omega)];obtain ⟨S, h1, h2, h3⟩ := qF n xs (b :: bs) (by simp only [qd]; omega);exact ⟨S, h1.cons a, h2, h3⟩
theorem sY : ∀ (n : Nat) (A B S : List (List Int)), A.length + B.length <= n -> S.Sublist A -> S.Sublist B -> S.length <= aU A B
 | _, [], B, S, _, h1, _ => by rw [List.sublist_nil.1 h1]; exact qca _
 | _, a :: xs, [], S, _, _, h2 => by rw [List.sublist_nil.1 h2]; exact qca _
 | 0, a :: xs, b :: bs, S, h, _, _ => by simp at h
 | n + 1, a :: xs, b :: bs, [], h, h1, h2 => qca _
 | n + 1, a :: xs, b :: bs, s :: S, h, h1, h2 => by
   simp only [qd] at h;rw [oI];by_cases e : a = b
   ·rw [if_pos e, qd];have := sY n xs bs S (by omega) h1.tail h2.tail;omega
   ·rw [if_neg e];by_cases hs : s = a
    ·cases h2 with
     | cons _ h3 => exact qan (sY n (a :: xs) bs (s :: S) (by simp only [qd]; omega) h1 h3) (Nat.le_max_right _ _)
     | cons_cons _ h3 => exact absurd hs.symm e
    ·cases h1 with
     | cons _ h3 => exact qan (sY n xs (b :: bs) (s :: S) (by simp only [qd]; omega) h3 h2) (Nat.le_max_left _ _)
     | cons_cons _ h3 => exact absurd rfl hs
theorem vT (A B : List (List Int)) : aU A.reverse B.reverse = aU A B := by
 apply Nat.le_antisymm
 ·obtain ⟨S, h1, h2, h3⟩ := qF _ A.reverse B.reverse (qo _);rw [<- h3, <- qbs];exact sY _ A B _ (qo _) (by simpa using h1.reverse) (by simpa using h2.reverse)
 ·obtain ⟨S, h1, h2, h3⟩ := qF _ A B (qo _);rw [<- h3, <- qbs];exact sY _ A.reverse B.reverse _ (qo _) h1.reverse h2.reverse
theorem vU (A B : List (List Int)) : aU A B <= A.length := by
 obtain ⟨S, h1, _, h3⟩ := qF _ A B (qo _);rw [<- h3]; exact h1.length_le
def bN : List (List Int) -> List (List Int) -> List (Int × List Int)
 | [], [] => []
 | a :: xs, [] => (1, a) :: bN xs []
 | [], b :: bs => (2, b) :: bN [] bs
 | a :: xs, b :: bs => if a = b then (0, a) :: bN xs bs else if aU (a :: xs) bs <= aU xs (b :: bs) then (1, a) :: bN xs (b :: bs) else (2, b) :: bN (a :: xs) bs
 termination_by A B => A.length + B.length
theorem sZ : bN [] [] = [] := by rw [bN]
theorem vV (a : List Int) (xs : List (List Int)) : bN (a :: xs) [] = (1, a) :: bN xs [] := by rw [bN]
theorem vW (b : List Int) (bs : List (List Int)) : bN [] (b :: bs) = (2, b) :: bN [] bs := by rw [bN]
theorem s6 (a b : List Int) (xs bs : List (List Int)) : bN (a :: xs) (b :: bs) = if a = b then (0, a) :: bN xs bs else if aU (a :: xs) bs <= aU xs (b :: bs) then (1, a) :: bN xs (b :: bs) else (2, b) :: bN (a :: xs) bs := by rw [bN]
structure DStep where
 kind : Int
 n : Int
 text : List Int
def dH (l : List DStep) (o : Int × List Int) : List DStep := match l.getLast? with
 | some s => if s.kind = o.1 then l.dropLast ++ [⟨s.kind, s.n + 1, s.text ++ o.2⟩] else l ++ [⟨o.1, 1, o.2⟩]
 | none => l ++ [⟨o.1, 1, o.2⟩]
theorem zh5 (o : Int × List Int) : dH [] o = [⟨o.1, 1, o.2⟩] := rfl
theorem qG (l : List DStep) (s : DStep) (o : Int × List Int) : dH (l ++ [s]) o = if s.kind = o.1 then l ++ [⟨s.kind, s.n + 1, s.text ++ o.2⟩] else l ++ [s] ++ [⟨o.1, 1, o.2⟩] := by
 unfold dH;rw [qbo, qad]
theorem kV {α : Type} (l : List α) : l = [] ∨ ∃ l' x, l = l' ++ [x] := by
 rcases List.eq_nil_or_concat l with h | ⟨l', x, h⟩
 ·exact .inl h
 ·exact .inr ⟨l', x, by rw [h, List.concat_eq_append]⟩
def iS (l : List DStep) : List Int := l.flatMap fun s => if s.kind = 2 then [] else s.text
def iT (l : List DStep) : List Int := l.flatMap fun s => if s.kind = 1 then [] else s.text
def dU (l : List DStep) : Int := (l.map fun s => if s.kind = 0 then 0 else s.n).sum
theorem zsi (l : List DStep) (o : Int × List Int) : iS (dH l o) = iS l ++ (if o.1 = 2 then [] else o.2) := by
 rcases kV l with rfl | ⟨l, s, rfl⟩
 ·simp [dH, iS]
 ·rw [qG];split
  ·rename_i h;simp only [iS, qm, qao, qcd, qat, qt];congr 1;by_cases h2 : s.kind = 2
   ·rw [if_pos h2, if_pos h2, if_pos (h ▸ h2)]; rfl
   ·rw [if_neg h2, if_neg h2, if_neg (h ▸ h2)]
  ·simp [iS, qm]
theorem zsj (l : List DStep) (o : Int × List Int) : iT (dH l o) = iT l ++ (if o.1 = 1 then [] else o.2) := by
 rcases kV l with rfl | ⟨l, s, rfl⟩
 ·simp [dH, iT]
 ·rw [qG];split
  ·rename_i h;simp only [iT, qm, qao, qcd, qat, qt];congr 1;by_cases h2 : s.kind = 1
   ·rw [if_pos h2, if_pos h2, if_pos (h ▸ h2)]; rfl
   ·rw [if_neg h2, if_neg h2, if_neg (h ▸ h2)]
  ·simp [iT, qm]
theorem zsk (l : List DStep) (o : Int × List Int) : dU (dH l o) = dU l + (if o.1 = 0 then 0 else 1) := by
 rcases kV l with rfl | ⟨l, s, rfl⟩
 ·simp [dH, dU]
 ·rw [qG];split
  ·rename_i h;simp only [dU, qbh, qcg, qck, List.map_nil, qcl, List.sum_nil];by_cases h2 : s.kind = 0
   ·rw [if_pos h2, if_pos h2, if_pos (h ▸ h2)]; omega
   ·rw [if_neg h2, if_neg h2, if_neg (h ▸ h2)]; omega
  ·simp only [dU, qbh, qcg, qck, List.map_nil, qcl, List.sum_nil]; omega
def oJ (l : List DStep) : Prop := ∀ s ∈ l, (s.kind = 0 ∨ s.kind = 1 ∨ s.kind = 2) /\ 1 <= s.n
theorem zsl {l : List DStep} (h : oJ l) {o : Int × List Int} (ho : o.1 = 0 ∨ o.1 = 1 ∨ o.1 = 2) : oJ (dH l o) := by
 rcases kV l with rfl | ⟨l, s, rfl⟩
 ·intro x hx;rw [zh5] at hx;rw [List.mem_singleton.1 hx]; exact ⟨ho, qh _⟩
 ·rw [qG];have hs := h s (by simp);split
  ·intro x hx;rcases List.mem_append.1 hx with hx | hx
   ·exact h x (qae _ hx)
   ·rw [List.mem_singleton.1 hx]; exact ⟨hs.1, by dsimp only; omega⟩
  ·intro x hx;rcases List.mem_append.1 hx with hx | hx
   ·exact h x hx
   ·rw [List.mem_singleton.1 hx]; exact ⟨ho, qh _⟩
def mU (l : List (Int × List Int)) : List Int := l.flatMap fun o => if o.1 = 2 then [] else o.2
def mV (l : List (Int × List Int)) : List Int := l.flatMap fun o => if o.1 = 1 then [] else o.2
def mW (l : List (Int × List Int)) : Int := (l.map fun o => if o.1 = 0 then 0 else 1).sum
theorem zh6 : ∀ (ops : List (Int × List Int)) (l : List DStep), iS (ops.foldl dH l) = iS l ++ mU ops
 | [], l => by simp [mU]
 | o :: ops, l => by rw [qv, zh6 ops, zsi, qt]; rfl
theorem zh7 : ∀ (ops : List (Int × List Int)) (l : List DStep), iT (ops.foldl dH l) = iT l ++ mV ops
 | [], l => by simp [mV]
 | o :: ops, l => by rw [qv, zh7 ops, zsj, qt]; rfl
theorem zh8 : ∀ (ops : List (Int × List Int)) (l : List DStep), dU (ops.foldl dH l) = dU l + mW ops
 | [], l => by simp [mW]
 | o :: ops, l => by rw [qv, zh8 ops, zsk, Int.add_assoc]; rfl
theorem zh9 : ∀ (ops : List (Int × List Int)) (l : List DStep), (∀ o ∈ ops, o.1 = 0 ∨ o.1 = 1 ∨ o.1 = 2) -> oJ l -> oJ (ops.foldl dH l)
 | [], l, _, h => h
 | o :: ops, l, ho, h => zh9 ops _ (fun x hx => ho x (qe _ hx)) (zsl h (ho o qc))
theorem qH : ∀ (n : Nat) (A B : List (List Int)), A.length + B.length <= n -> (∀ o ∈ bN A B, o.1 = 0 ∨ o.1 = 1 ∨ o.1 = 2) /\ mU (bN A B) = A.flatten /\ mV (bN A B) = B.flatten /\ mW (bN A B) + 2 * (aU A B : Int) = A.length + B.length
 | _, [], [], _ => by rw [sZ, oG]; exact ⟨fun o ho => (by cases ho), rfl, rfl, rfl⟩
 | 0, a :: xs, B, h => by simp at h
 | 0, [], b :: bs, h => by simp at h
 | n + 1, a :: xs, [], h => by
   simp only [qd, qp] at h;obtain ⟨h1, h2, h3, h4⟩ := qH n xs [] (by simp only [qp]; omega);rw [vV, oH];rw [oH] at h4;refine ⟨fun o ho => ?_, ?_, ?_, ?_⟩
   ·rcases List.mem_cons.1 ho with rfl | ho
    ·exact .inr (.inl rfl)
    ·exact h1 o ho
   ·show a ++ mU (bN xs []) = _;rw [h2]; rfl
   ·show [] ++ mV (bN xs []) = _;rw [h3]; rfl
   ·show 1 + mW (bN xs []) + _ = _;simp only [qd, qp] at h4 ⊢; omega
 | n + 1, [], b :: bs, h => by
   simp only [qd, qp] at h;obtain ⟨h1, h2, h3, h4⟩ := qH n [] bs (by simp only [qp]; omega);rw [vW, oG];rw [oG] at h4;refine ⟨fun o ho => ?_, ?_, ?_, ?_⟩
   ·rcases List.mem_cons.1 ho with rfl | ho
    ·exact .inr (.inr rfl)
    ·exact h1 o ho
   ·show [] ++ mU (bN [] bs) = _;rw [h2]; rfl
   ·show b ++ mV (bN [] bs) = _;rw [h3]; rfl
   ·show 1 + mW (bN [] bs) + _ = _;simp only [qd, qp] at h4 ⊢; omega
 | n + 1, a :: xs, b :: bs, h => by
   simp only [qd] at h;rw [s6, oI];by_cases e : a = b
   ·subst e;rw [if_pos rfl, if_pos rfl];obtain ⟨h1, h2, h3, h4⟩ := qH n xs bs (by omega);refine ⟨fun o ho => ?_, ?_, ?_, ?_⟩
    ·rcases List.mem_cons.1 ho with rfl | ho
     ·exact .inl rfl
     ·exact h1 o ho
    ·show a ++ mU (bN xs bs) = _;rw [h2]; rfl
    ·show a ++ mV (bN xs bs) = _;rw [h3]; rfl
    ·show 0 + mW (bN xs bs) + _ = _;simp only [qd]; omega
   ·rw [if_neg e, if_neg e];split
    ·rename_i hm;obtain ⟨h1, h2, h3, h4⟩ := qH n xs (b :: bs) (by simp only [qd]; omega);refine ⟨fun o ho => ?_, ?_, ?_, ?_⟩
     ·rcases List.mem_cons.1 ho with rfl | ho
      ·exact .inr (.inl rfl)
      ·exact h1 o ho
     ·show a ++ mU (bN xs (b :: bs)) = _;rw [h2]; rfl
     ·show [] ++ mV (bN xs (b :: bs)) = _;rw [h3]; rfl
     ·show 1 + mW (bN xs (b :: bs)) + _ = _;rw [qcf hm];simp only [qd] at h4 ⊢; omega
    ·rename_i hm;obtain ⟨h1, h2, h3, h4⟩ := qH n (a :: xs) bs (by simp only [qd]; omega);refine ⟨fun o ho => ?_, ?_, ?_, ?_⟩
     ·rcases List.mem_cons.1 ho with rfl | ho
      ·exact .inr (.inr rfl)
      ·exact h1 o ho
     ·show [] ++ mU (bN (a :: xs) bs) = _;rw [h2]; rfl
     ·show b ++ mV (bN (a :: xs) bs) = _;rw [h3]; rfl
     ·show 1 + mW (bN (a :: xs) bs) + _ = _;rw [qcc (by omega)];simp only [qd] at h4 ⊢; omega
def eR (A B : List (List Int)) : List DStep := (bN A B).foldl dH []
theorem zia (A B : List (List Int)) : oJ (eR A B) /\ iS (eR A B) = A.flatten /\ iT (eR A B) = B.flatten /\ dU (eR A B) + 2 * (aU A B : Int) = A.length + B.length := by
 obtain ⟨h1, h2, h3, h4⟩ := qH _ A B (qo _);refine ⟨zh9 _ _ h1 (fun s hs => by cases hs), ?_, ?_, ?_⟩
 ·unfold eR; rw [zh6, h2]; rfl
 ·unfold eR; rw [zh7, h3]; rfl
 ·unfold eR; rw [zh8, <- h4]; simp [dU]
def dP (s : DStep) : DStep := ⟨if s.kind = 1 ∨ s.kind = 2 then 3 - s.kind else s.kind, s.n, s.text⟩
theorem zsm {l : List DStep} (h : oJ l) : oJ (l.map dP) /\ iS (l.map dP) = iT l /\ iT (l.map dP) = iS l /\ dU (l.map dP) = dU l := by
 induction l with
 | nil => exact ⟨h, rfl, rfl, rfl⟩
 | cons s l ih =>
   obtain ⟨h1, h2, h3, h4⟩ := ih fun x hx => h x (qe _ hx);obtain ⟨hs, hn⟩ := h s qc;have e : dP s = ⟨if s.kind = 1 ∨ s.kind = 2 then 3 - s.kind else s.kind, s.n, s.text⟩ := rfl;refine ⟨fun x hx => ?_, ?_, ?_, ?_⟩
   ·rcases List.mem_cons.1 hx with rfl | hx
    ·rw [e]; exact ⟨by dsimp only; split <;> omega, hn⟩
    ·exact h1 x hx
   ·show (if (dP s).kind = 2 then [] else (dP s).text) ++ iS (l.map dP) = (if s.kind = 1 then [] else s.text) ++ iT l;rw [h2, e]; rcases hs with h | h | h <;> rw [h] <;> rfl
   ·show (if (dP s).kind = 1 then [] else (dP s).text) ++ iT (l.map dP) = (if s.kind = 2 then [] else s.text) ++ iS l;rw [h3, e]; rcases hs with h | h | h <;> rw [h] <;> rfl
   ·show (if (dP s).kind = 0 then 0 else (dP s).n) + dU (l.map dP) = (if s.kind = 0 then 0 else s.n) + dU l;rw [h4, e]; rcases hs with h | h | h <;> rw [h] <;> rfl
end Go.Eng.Rows
namespace Go.Eng
open Go Go.Eng.Rows
def encDS (s : DStep) : List PV := [.int .i64 s.kind, .int .i64 s.n, .sl false false (aA s.text)]
def bL (s : DStep) (x : Value) : List PV := [.int .i64 s.kind, .int .i64 s.n, .raw x]
def eZ (tS tr : Nat) (S : List DStep) (x : Value) : Hp := match S.getLast? with
 | none => [.sl (tS, 3) true true [], .dead]
 | some s => [.sl (tS, 3) true false (S.dropLast.map encDS ++ [bL s x]), .sl (tr, 1) true false (aA s.text)]
theorem zsn (tS tr : Nat) (x : Value) : eZ tS tr [] x = [.sl (tS, 3) true true [], .dead] := rfl
theorem jO (tS tr : Nat) (S : List DStep) (s : DStep) (x : Value) : eZ tS tr (S ++ [s]) x = [.sl (tS, 3) true false (S.map encDS ++ [bL s x]), .sl (tr, 1) true false (aA s.text)] := by
 unfold eZ;rw [qbo, qad]
structure l5 (tS tr : Nat) (S : List DStep) (x v : Value) (w : World) (I : Nat -> Prop) (G : Nat -> Pl) : Prop where
 hh : HRel w I G (eZ tS tr S x)
 hv : LRel w I G (eZ tS tr S x) (.own 0) v
 hx : S ≠ [] -> LRel w I G (eZ tS tr S x) (.own 1) x
def zaq (P : Program) (f tS tr : Nat) : Prop := nL P f /\ ∀ (w : World) (I : Nat -> Prop) (G : Nat -> Pl) (S : List DStep) (x v cv : Value) (k : Int) (c : List Int) (nn fl : Bool), l5 tS tr S x v w I G -> Rep w I (.sl nn fl (aA c)) cv -> c ≠ [] -> c.length < 1000000000 ->
 (0 <= k /\ k < 3) -> S.length < 1000000000 -> (∀ s ∈ S, 0 <= s.n /\ s.n < 1000000000000 /\ s.text.length < 1000000000000) ->
 Calls P f #[v, .int .i64 k, cv] w fun e w' => ∃ v' x' I' G', e = .returned v' /\ l5 tS tr (dH S (k, c)) x' v' w' I' G' /\ TrH w I G (eZ tS tr S x) w' I' G' (eZ tS tr (dH S (k, c)) x')
def OutZ (tS tr : Nat) (w0 : World) (I0 : Nat -> Prop) (s : List DStep × Value) (w : World) (I : Nat -> Prop) (G : Nat -> Pl) (h : Hp) : Prop :=
 Tr w0 I0 (fun _ => False) w I (aQ h G) /\ ∃ x G2, l5 tS tr s.1 x s.2 w I G2 /\ ∀ b, aQ (eZ tS tr s.1 x) G2 b -> w0.heap.size <= b /\ ¬ aQ h G b
theorem OutZ.stab {tS tr : Nat} {w0 : World} {I0 : Nat -> Prop} {n0 : Nat} : zg7 (OutZ tS tr w0 I0) n0 := by
 rintro s w I G h w' I' G' h' ⟨t0, x, G2, ⟨r1, r2, r3⟩, sp⟩ hh hh' t;obtain ⟨q1, q2, q3⟩ := r1.beside hh (fun b hb => (sp b hb).2) t.t hh'.cl;exact ⟨t0.trans t.t, x, G2, ⟨q1, r2.mono q2 (.refl _ _), fun hS => (r3 hS).mono q2 (.refl _ _)⟩, fun b hb => ⟨(sp b hb).1, q3 b hb⟩⟩
theorem OutZ.call {P : Program} {f tS tr : Nat} (ha : zaq P f tS tr) {w0 : World} {I0 : Nat -> Prop} {s : List DStep × Value} {w : World} {I : Nat -> Prop} {G : Nat -> Pl} {h : Hp} (hz : OutZ tS tr w0 I0 s w I G h) (hh : HRel w I G h) {cv : Value} {k : Int} {c : List Int} {nn fl : Bool}
 (hc : Rep w I (.sl nn fl (aA c)) cv) (hne : c ≠ []) (hcl : c.length < 1000000000) (hk : 0 <= k /\ k < 3) (hS : s.1.length < 1000000000) (hb : ∀ d ∈ s.1, 0 <= d.n /\ d.n < 1000000000000 /\ d.text.length < 1000000000000) :
 Calls P f #[s.2, .int .i64 k, cv] w fun e w' => ∃ v' I', e = .returned v' /\ HRel w' I' G h /\ Keeps w I w' I' /\ OutZ tS tr w0 I0 (dH s.1 (k, c), v') w' I' G h := by
 obtain ⟨t0, x, G2, r, sp⟩ := hz;refine (ha.2 w I G2 s.1 x s.2 cv k c nn fl r hc hne hcl hk hS hb).mono ?_;rintro e w' ⟨v', x', I', G', rfl, r', t⟩;obtain ⟨q1, q2, q3⟩ := hh.beside r.hh (fun b hb ho => (sp b ho).2 hb) t.t r'.hh.cl;refine ⟨v', I', rfl, q1, q2, ⟨t.t.os.trans t0.os, t.t.tape.trans t0.tape, t.t.output.trans t0.output, qan t0.size t.t.size, fun b hb _ => ?_, fun b hb => t.t.i1 b (t0.i1 b hb), fun b hb => ?_, fun b hb => t0.own2 b hb, fun a ha => ?_, qan t0.drawn t.t.drawn⟩, x', G', r', fun b hb => ⟨?_, fun ho => q3 b ho hb⟩⟩
 ·exact (t.t.keep b (qbv hb t0.size) fun ho => absurd (sp b ho).1 (Nat.not_le.2 hb)).trans (t0.keep b hb (fun x => x))
 ·rcases t.t.i2 b hb with q | q | q
  ·exact t0.i2 b q
  ·exact .inr (.inr (sp b q).1)
  ·exact .inr (.inr (qan t0.size q))
 ·exact (t.t.frz a (qbv ha t0.size)).trans (t0.frz a ha)
 ·rcases t.t.own2 b hb with q | q
  ·exact (sp b q).1
  ·exact qan t0.size q
theorem HRel.reread {w : World} {I : Nat -> Prop} {G : Nat -> Pl} {h : Hp} {o : Nat} {ty : Nat × Nat} {m m' : Bool} {es es' : List (List PV)} (hh : HRel w I G h) (ho : h[o]? = some (.sl ty m false es)) (hne : es ≠ []) (hl : es'.length = es.length)
 (hr : ∀ (i : Nat) e', es'[i]? = some e' -> ∃ e, es[i]? = some e /\ e'.length = e.length /\ ∀ (k : Nat) v', e'[k]? = some v' -> ∃ v, e[k]? = some v /\ ∀ cv, Rep w I v cv -> Rep w I v' cv) : HRel w I G (h.set o (.sl ty m' false es')) := by
 obtain ⟨q1, q2, q3, q3', q4, q5⟩ := hh.obs _ _ ho;have hcap : (G o).cap ≠ 0 := fun e => hne (List.eq_nil_of_length_eq_zero (by omega));refine hh.upd (w' := w) ho ⟨rfl, hcap⟩ (fun _ _ => rfl) (qo _) ⟨rfl, rfl, hl.symm⟩ ?_;obtain ⟨vs, f1, f2, f3⟩ := q5 hcap;refine ⟨by omega, q2, q3, q3', fun i e' he => ?_, fun _ => ⟨vs, f1, f2, fun i e' he k v' hv => ?_⟩⟩
 ·obtain ⟨e, g1, g2, _⟩ := hr i e' he;rw [g2]; exact q4 i e g1
 ·obtain ⟨e, g1, g2, g3⟩ := hr i e' he;obtain ⟨v, g4, g5⟩ := g3 k v' hv;exact ⟨g5 _ (f3 i e g1 k v g4).1, (f3 i e g1 k v g4).2⟩
theorem Rep.raw_inv {w : World} {I : Nat -> Prop} {v cv : Value} (h : Rep w I (.raw v) cv) : cv = v := by cases h; rfl
theorem zib {w : World} {I : Nat -> Prop} {G : Nat -> Pl} {tS tr : Nat} {S : List DStep} {s : DStep} {x v : Value} (r : l5 tS tr (S ++ [s]) x v w I G) :
 ∃ I2, HRel w I2 G [.sl (tS, 3) true false (S.map encDS ++ [encDS s]), .dead] /\ LRel w I2 G [.sl (tS, 3) true false (S.map encDS ++ [encDS s]), .dead] (.own 0) v /\
  TrH w I G (eZ tS tr (S ++ [s]) x) w I2 G [.sl (tS, 3) true false (S.map encDS ++ [encDS s]), .dead] := by
 have hx := r.hx (by simp);have hh := r.hh;have hv := r.hv;rw [jO] at hh hv hx ⊢;obtain ⟨I2, g1, _, g3, g4, g5⟩ := yI (os := [1]) (a := ⟨#[], []⟩) (e := []) hh (ERel.nil _ _ _ _ _) rfl
 have hR : Rep w I2 (.sl false false (aA s.text)) x := by
  have := g5 _ _ hx;rw [show kK _ [1] (.own 1) = .pv (.sl false false (aA s.text)) from rfl] at this;cases this; assumption
 have hV := g5 _ _ hv;rw [show kK _ [1] (.own 0) = .own 0 from rfl] at hV;have e : eV [Ob.sl (tS, 3) true false (S.map encDS ++ [bL s x]), Ob.sl (tr, 1) true false (aA s.text)] [1] 0 [Ob.sl (tS, 3) true false (S.map encDS ++ [bL s x]), Ob.sl (tr, 1) true false (aA s.text)] = [Ob.sl (tS, 3) true false (S.map encDS ++ [bL s x]), .dead] := rfl;rw [e] at g1 g3 hV
 have hh2 := g1.reread (o := 0) (m' := true) (es' := S.map encDS ++ [encDS s]) rfl (by simp) (by simp) (fun i e' he => by
  rcases qba i S.length with hi | hi | hi
  ·rw [qaj (by simpa using hi)] at he ⊢
   exact ⟨e', he, rfl, fun k v' hv => ⟨v', hv, fun _ h => h⟩⟩
  ·subst hi;rw [qaf (by simp)] at he ⊢;simp only [qal, Nat.sub_self, List.getElem?_cons_zero, Option.some.injEq] at he ⊢;subst he;refine ⟨_, rfl, rfl, fun k v' hv => ?_⟩
   match k, hv with
   | 0, hv => cases hv; exact ⟨_, rfl, fun _ h => h⟩
   | 1, hv => cases hv; exact ⟨_, rfl, fun _ h => h⟩
   | 2, hv => cases hv; exact ⟨_, rfl, fun cv h => by rw [h.raw_inv]; exact hR⟩
   | k + 3, hv => cases hv
  ·rw [qbj (by simp; omega)] at he; cases he)
 refine ⟨I2, hh2, hV.mono (Keeps.refl w I2) (fun o ob ho => ⟨?_, fun _ => rfl⟩), ⟨g3.t.trans (Tr.less fun b hb => ?_), g3.len, fun o ob' _ h1 h2 => ?_⟩⟩
 ·match o, ho with
  | 0, ho => cases ho; exact ⟨_, rfl, rfl, rfl, by simp⟩
  | 1, ho => cases ho; exact ⟨_, rfl, trivial⟩
 ·obtain ⟨o, ob, h1, h2, rfl⟩ := hb
  match o, h1 with
  | 0, h1 => cases h1; exact ⟨0, _, rfl, h2, rfl⟩
  | 1, h1 => cases h1; exact h2.elim
 ·match o, h1 with
  | 0, h1 => cases h1; cases h2
  | 1, h1 => cases h1; cases h2
theorem OutZ.tree {tS tr : Nat} {w0 : World} {I0 : Nat -> Prop} {s : List DStep × Value} {w : World} {I : Nat -> Prop} {G : Nat -> Pl} {h : Hp} (hz : OutZ tS tr w0 I0 s w I G h) (hh : HRel w I G h) :
 ∃ I2 nl, (nl = true -> s.1 = []) /\ Rep w I2 (.sl nl false (s.1.map encDS)) s.2 /\ HRel w I2 G h /\ Keeps w I w I2 /\ Tr w0 I0 (fun _ => False) w I2 (aQ h G) := by
 obtain ⟨S, v⟩ := s;obtain ⟨t0, x, G2, r, sp⟩ := hz;dsimp only at r sp ⊢;rcases kV S with rfl | ⟨S, s, rfl⟩
 ·refine ⟨I, true, fun _ => rfl, ?_, hh, Keeps.refl w I, t0⟩;have := r.hv;rw [zsn] at this;cases this with
  | ownNil => exact .slnil _
  | own _ _ _ _ _ _ h1 => cases h1
 ·obtain ⟨I2, g1, g2, g3⟩ := zib r;have hrep := rS g1 g2 (rfl : kH [Ob.sl (tS, 3) true false (S.map encDS ++ [encDS s]), .dead] (.own 0) = some (.sl false false (S.map encDS ++ [encDS s])))
  have hI3 : ∀ b, AllB I2 [Ob.sl (tS, 3) true false (S.map encDS ++ [encDS s]), .dead] G2 b -> I b ∨ aQ (eZ tS tr (S ++ [s]) x) G2 b := fun b hb => by
   rcases hb with hb | hb
   ·rcases g3.t.i2 b hb with q | q | q
    ·exact .inl q
    ·exact .inr q
    ·exact absurd (g1.cl b hb) (Nat.not_lt.2 q)
   ·rcases g3.t.own2 b hb with q | q
    ·exact .inr q
    ·exact absurd (g1.blk_lt hb) (Nat.not_lt.2 q)
  have hcl : ∀ b, AllB I2 [Ob.sl (tS, 3) true false (S.map encDS ++ [encDS s]), .dead] G2 b -> b < w.heap.size := fun b hb => hb.elim (g1.cl b) g1.blk_lt;have hk : Keeps w I w (AllB I2 [Ob.sl (tS, 3) true false (S.map encDS ++ [encDS s]), .dead] G2) := ⟨fun _ _ _ => rfl, fun b hb _ => .inl (g3.t.i1 b hb)⟩;refine ⟨_, false, (fun e => by cases e), ?_, hh.frame (fun _ _ => rfl) hk (fun b hb hI => ?_) hcl, hk, ⟨t0.os, t0.tape, t0.output, t0.size, t0.keep, fun b hb => .inl (g3.t.i1 b (t0.i1 b hb)), fun b hb => ?_, t0.own2, t0.frz, t0.drawn⟩⟩
  ·rw [qbh]; exact hrep
  ·rcases hI3 b hI with q | q
   ·obtain ⟨o, ob, q1, q2, rfl⟩ := hb; exact hh.nI o ob q1 q2 q
   ·exact (sp b q).2 hb
  ·rcases hI3 b hb with q | q
   ·exact t0.i2 b q
   ·exact .inr (.inr (sp b q).1)
end Go.Eng
namespace Go.Eng
open Go Go.Proofs
def bI : Code -> Code | .seq a _ => a | _ => .skip
def aX : Code -> Code | .seq _ b => b | _ => .skip
def gP : Code -> Code | .block _ c => c | .loop c => c | _ => .skip
def bU : Code -> Array Oper | .region _ o _ => o | _ => #[]
def cM (f : Func) : Code := f.body.getD .skip
def cL (f : Func) : Code := gP (gP (aX (cM f)))
def cB (f : Func) : Code := gP (bI (aX (cL f)))
def d8 (f : Func) : Code := bI (aX (aX (cB f)))
def aO (nl : Bool) (T : PV) (es : List (List PV)) : Hp := [.box [.pv T], .sl (21, 1) false nl es, .box [.own 1], .box [.pv T], .box [.own 1]]
def eM (y : Value) (i f : Int) : Env := [(0, .pv (.raw y)), (1, .box 4 0), (2, .box 3 0), (4, .pv (.int .i64 i)), (5, .pv (.int .i64 f))]
def eN (y : Value) (i : Int) : Env := [(0, .pv (.raw y)), (1, .box 4 0), (2, .box 3 0), (4, .pv (.int .i64 i))]
def lM : List Nat := [0, 1, 2, 4, 5, 9, 25, 32, 38]
def iU : Code -> Code | .rangeFunc _ _ a _ => a | _ => .skip
def iV : Code -> Code | .rangeFunc _ _ _ b => b | _ => .skip
def cO0 (f : Func) : Code := bI (cM f)
def cO1 (f : Func) : Code := bI (aX (cM f))
def cO2 (f : Func) : Code := bI (bI (aX (aX (cM f))))
def dI (f : Func) : Code := gP (aX (bI (aX (aX (cM f)))))
def cO6 (f : Func) : Code := bI (aX (aX (aX (cM f))))
def eO (f i : Int) : Env := [(2, .box 0 0), (5, .box 2 0), (13, .pv (.int .i64 f)), (14, .pv (.int .i64 i))]
def zar : Nat -> Option HSpec := fun zz_ => match zz_ with | 110 => some ⟨List (List PV), fun _ hs t => (.tup [], match hs with | [.sl ty m nl _, b] => [.sl ty m nl t, b] | h => h), none⟩ | _ => none
def zas : Nat -> Option HSpec := fun zz_ => match zz_ with | 47 => some ⟨Unit, fun vs _ _ => (.own 0, match vs with | [.pv (.sl nl _ es)] => [.sl (21, 1) false nl es] | _ => []), none⟩ | 109 => some ⟨Unit, fun vs hs _ => (.fn 132 [.box 2 0, .box 1 0], match vs with | [.pv T, _] => hs ++ [.box [.pv T], .box [.own 0]] | _ => hs), none⟩ | _ => none
end Go.Eng
set_option maxRecDepth 100000
namespace Go.Eng
open Go Go.Proofs Go.Eng.Rows
def vX : Code -> Code | .cond _ a _ => a | _ => .skip
def zat : Code -> Code | .cond _ _ a => a | _ => .skip
section
variable {H : Nat -> Option HSpec} {P : Program} {N : Nat} {ops : Array Oper}
theorem mX {id : Nat} {Q : Exit -> Act -> World -> Prop} {e : Env} {h : Hp} {K : Env -> Hp -> Prop} (hd : dG ops.toList = true) (hK : aW P H N ops.toList ops.toList e h K) {w : World} {I : Nat -> Prop} {G : Nat -> Pl} {a : Act} (hs : SRel w I G e h N a)
 (hq : ∀ e' h' w' I' G' a', K e' h' -> SRel w' I' G' e' h' N a' -> a'.defers = a.defers -> TrH w I G h w' I' G' h' -> Q .normal a' w') : (Code.region id ops false).wp P Q a w := by
 refine sL (Φ := fun a' w' => ∃ e' h' I' G', K e' h' /\ SRel w' I' G' e' h' N a' /\ a'.defers = a.defers /\ TrH w I G h w' I' G' h') (OpsN.step hd ops.size (e := e) (h := h) (K := K) (Nat.le_of_eq (qu _)) (by rw [List.drop_zero, qw (by simp)]; exact hK) hs fun e' h' w' I' G' a' k1 k2 k3 k4 => OpsN.last (by omega) ⟨e', h', I', G', k1, k2, k3, k4⟩) ?_;rintro a' w' ⟨e', h', I', G', k1, k2, k3, k4⟩;exact hq e' h' w' I' G' a' k1 k2 k3 k4
end
theorem mY {w w' : World} {I I' : Nat -> Prop} {G G' : Nat -> Pl} {h h' : Hp} {o : Nat} {x : Value} {ty ty' : Nat × Nat} {m n : Bool} {T T' : List (List PV)} (hx : LRel w I G h (.own o) x) (h1 : h[o]? = some (.sl ty m n T)) (h2 : h'[o]? = some (.sl ty' false n T')) (hl : T'.length = T.length)
 (t : TrH w I G h w' I' G' h') : LRel w' I' G' h' (.own o) x := by
 have hG := (t.stay o _ (List.getElem?_eq_some_iff.1 h1).1 h2 rfl).1;cases hx with
 | ownNil _ _ _ _ g1 =>
   rw [h1] at g1; cases g1;exact .ownNil o _ _ _ h2
 | own _ _ _ es ad g0 g1 =>
   rw [h1] at g1; cases g1;rw [<- hl, <- hG];exact .own o _ _ _ ad (hG ▸ g0) h2
theorem zic {w : World} {I : Nat -> Prop} {G : Nat -> Pl} {h : Hp} {o : Nat} {x : Value} {ty : Nat × Nat} {m : Bool} {T : List (List PV)} (hx : LRel w I G h (.own o) x) (h1 : h[o]? = some (.sl ty m false T)) : ∃ ad l c, x = .slice (some ad) l c := by
 cases hx with
 | ownNil _ _ _ _ g1 => rw [h1] at g1; cases g1
 | own _ _ _ es ad g0 g1 => exact ⟨ad, _, _, rfl⟩
def cA (m m2 : Bool) (E T : LL) : Hp := [.sl (89, 3) m false E, .sl (21, 1) m2 false T]
def gQ (nn fl : Bool) (C : LL) (k : Int) : Env := [(0, .own 0), (1, .pv (.int .i64 k)), (2, .pv (.sl nn fl C))]
def gT (nn fl : Bool) (C : LL) (k n : Int) : Env := [(0, .own 0), (1, .pv (.int .i64 k)), (2, .pv (.sl nn fl C)), (7, .pv (.int .i64 n))]
def dlX (f : Func) : Code := bI (aX (cM f))
def dlT (f : Func) : Code := vX (aX (aX (dlX f)))
def qI (f : Func) : Array Oper := bU (bI (cM f))
def qJ (f : Func) : Array Oper := bU (bI (dlX f))
def qK (f : Func) : Array Oper := bU (bI (aX (dlX f)))
def vY (f : Func) : Array Oper := bU (bI (dlT f))
def gU (f : Func) : Array Oper := bU (bI (aX (dlT f)))
def vZ (f : Func) : Array Oper := bU (bI (aX (aX (dlT f))))
def oK (f : Func) : Array Oper := bU (bI (aX (aX (cM f))))
theorem zid : Tryz.f37.body = some (.seq (.region 0 (qI Tryz.f37) false) (.seq (.seq (.region 1 (qJ Tryz.f37) false) (.seq (.region 2 (qK Tryz.f37) false) (.cond (.tmp 21) (.seq (.region 3 (vY Tryz.f37) false) (.seq (.region 4 (gU Tryz.f37) false) (.seq (.region 5 (vZ Tryz.f37) false) .ret))) .skip))) (.seq (.region 6 (oK Tryz.f37) false) .ret))) := by kernel_rfl
theorem zie : dG (qI Tryz.f37).toList = true /\ dG (qJ Tryz.f37).toList = true /\ dG (qK Tryz.f37).toList = true /\ dG (vY Tryz.f37).toList = true /\ dG (gU Tryz.f37).toList = true /\ dG (vZ Tryz.f37).toList = true /\ dG (oK Tryz.f37).toList = true :=
 ⟨by kernel_rfl, by kernel_rfl, by kernel_rfl, by kernel_rfl, by kernel_rfl, by kernel_rfl, by kernel_rfl⟩
section
variable {E T C : LL} {nn fl m m2 : Bool} {k n : Int}
theorem zso (K : Env -> Hp -> Prop) : aW qa (fun _ => none) 49 (qI Tryz.f37).toList (qI Tryz.f37).toList (gQ nn fl C k) (cA m m2 E T) K = K ((6, .pv (.sl true true [])) :: gQ nn fl C k) (cA m m2 E T) := by kernel_rfl
theorem zsp (K : Env -> Hp -> Prop) : aW qa (fun _ => none) 49 (qJ Tryz.f37).toList (qJ Tryz.f37).toList (gQ nn fl C k) (cA m m2 E T) K =
 K ((7, .pv (.int .i64 (i64.wrap ((E.length : Int) - 1)))) :: (10, .pv (.int .i64 (i64.wrap ((E.length : Int) - 1)))) :: (9, .pv (.int .i64 (E.length : Int))) :: (8, .own 0) :: gQ nn fl C k) (cA m m2 E T) := by kernel_rfl
theorem zsq (K : Env -> Hp -> Prop) : aW qa (fun _ => none) 49 (qK Tryz.f37).toList (qK Tryz.f37).toList (gT nn fl C k n) (cA m m2 E T) K =
 if decide (n >= 0) = true then aF E n 3 /\ ∃ n1 : Int, (qb 0 (E.getD n.toNat [])).head? = some (.int .i64 n1) /\
  K ((21, .pv (.bool (n1 == k))) :: (20, .spec 13 true (.pv (.bool (n1 == k)))) :: (19, .spec 13 true (.pv (.int .i64 k))) :: (18, .pv (.int .i64 n1)) :: (13, .pv (.bool true)) :: (17, .elt 0 n.toNat 0) :: (13, .pv (.bool true)) :: (16, .elt 0 n.toNat 0) :: (13, .pv (.bool true)) ::
   (15, .spec 13 true (.pv (.int .i64 n))) :: (14, .spec 13 true (.own 0)) :: (13, .pv (.bool (decide (n >= 0)))) :: (12, .pv (.bool (decide (n >= 0)))) :: (11, .pv (.int .i64 n)) :: gT nn fl C k n) (cA m m2 E T)
 else K ((21, .pv (.bool false)) :: (20, .pv .unit) :: (13, .pv (.bool false)) :: (19, .spec 13 true (.pv (.int .i64 k))) :: (18, .pv .unit) :: (13, .pv (.bool false)) :: (17, .pv .unit) :: (13, .pv (.bool false)) :: (16, .pv .unit) :: (13, .pv (.bool false)) ::
  (15, .spec 13 true (.pv (.int .i64 n))) :: (14, .spec 13 true (.own 0)) :: (13, .pv (.bool (decide (n >= 0)))) :: (12, .pv (.bool (decide (n >= 0)))) :: (11, .pv (.int .i64 n)) :: gT nn fl C k n) (cA m m2 E T) := by kernel_rfl
theorem zsr (K : Env -> Hp -> Prop) : aW qa (fun _ => none) 49 (vY Tryz.f37).toList (vY Tryz.f37).toList (gT nn fl C k n) (cA m m2 E T) K =
 (aF E n 3 /\ ∃ n1 : Int, (qb 1 (E.getD n.toNat [])).head? = some (.int .i64 n1) /\ aF E n 3 /\ (1 = 1 /\ 2 <= (E.getD n.toNat []).length) /\
  K ((29, .elt 0 n.toNat 1) :: (28, .elt 0 n.toNat 0) :: (27, .pv (.int .i64 (i64.wrap (n1 + 1)))) :: (26, .pv (.int .i64 n1)) :: (25, .elt 0 n.toNat 1) :: (24, .elt 0 n.toNat 0) :: (23, .pv (.int .i64 n)) :: (22, .own 0) :: gT nn fl C k n)
   (cA m m2 (E.set n.toNat (aT (E.getD n.toNat []) 1 [.int .i64 (i64.wrap (n1 + 1))])) T)) := by kernel_rfl
theorem zss (K : Env -> Hp -> Prop) : aW qa (fun _ => none) 49 (gU Tryz.f37).toList (((gU Tryz.f37).toList.drop 0).take 6) (gT nn fl C k n) (cA m m2 E T) K =
 (aF E n 3 /\ K ((35, .elt 0 n.toNat 2) :: (34, .elt 0 n.toNat 0) :: (33, .pv (.int .i64 n)) :: (32, .own 0) :: (31, .pv (.int .i64 n)) :: (30, .own 0) :: gT nn fl C k n) (cA m m2 E T)) := by kernel_rfl
theorem zst (K : Env -> Hp -> Prop) : aW qa (fun _ => none) 49 (gU Tryz.f37).toList (((gU Tryz.f37).toList.drop 7).take 2) [(36, .own 1), (0, .own 0), (2, .pv (.sl nn fl C)), (30, .own 0), (31, .pv (.int .i64 n))] (cA m m2 E T) K =
 ((aR C 1 /\ (T.length + C.length) * 4 <= 140737488355328) /\ K [(38, .own 1), (37, .pv (.sl nn fl C)), (36, .bot), (0, .own 0), (2, .pv (.sl nn fl C)), (30, .own 0), (31, .pv (.int .i64 n))] (cA m true E (T ++ C))) := by kernel_rfl
theorem zsu (ad : Addr) (l c : Nat) (K : Env -> Hp -> Prop) : aW qa (fun _ => none) 49 (gU Tryz.f37).toList (((gU Tryz.f37).toList.drop 9).take 3) [(38, .pv (.raw (.slice (some ad) l c))), (0, .own 0), (30, .own 0), (31, .pv (.int .i64 n))] (cA m m2 E T) K =
 (aF E n 3 /\ (1 = 1 /\ 3 <= (E.getD n.toNat []).length) /\ K [(40, .elt 0 n.toNat 2), (39, .elt 0 n.toNat 0), (38, .pv (.raw (.slice (some ad) l c))), (0, .own 0), (30, .own 0), (31, .pv (.int .i64 n))] (cA m m2 (E.set n.toNat (aT (E.getD n.toNat []) 2 [.raw (.slice (some ad) l c)])) T)) := by kernel_rfl
theorem zsv (K : Env -> Hp -> Prop) : aW qa (fun _ => none) 49 (vZ Tryz.f37).toList (vZ Tryz.f37).toList [(0, .own 0)] (cA m m2 E T) K = K [(6, .own 0), (41, .own 0), (0, .own 0)] (cA m m2 E T) := by kernel_rfl
end
theorem zsw : (gU Tryz.f37)[6]? = some ((gU Tryz.f37).toList.getD 6 default) /\ ((gU Tryz.f37).toList.getD 6 default).dst = some 36 /\ ((gU Tryz.f37).toList.getD 6 default).guard = none /\ ((gU Tryz.f37).toList.getD 6 default).op = .load 22 (.tmp 35) /\ (gU Tryz.f37).size = 12 /\
 Tryz.prog.underlying 22 = some (.slice 21) /\ g9 qa 22 = false := ⟨by kernel_rfl, by kernel_rfl, by kernel_rfl, by kernel_rfl, by kernel_rfl, by kernel_rfl, by kernel_rfl⟩
section
variable {w : World} {I : Nat -> Prop} {G : Nat -> Pl} {m m2 m' m2' : Bool} {E E' T T' : LL}
theorem fL : aQ (cA m m2 E T) G = aQ (cA m' m2' E' T') G := by
 funext b
 apply propext;constructor <;>
 ·rintro ⟨o, ob, h1, h2, h3⟩
  match o, h1 with
  | 0, h1 => cases h1; exact ⟨0, _, rfl, h2, h3⟩
  | 1, h1 => cases h1; exact ⟨1, _, rfl, h2, h3⟩
theorem zsx (hh : HRel w I G (cA m m2 E T)) : HRel w I G (cA m' m2' E T) := by
 have key : ∀ (i : Nat) x, (cA m' m2' E T)[i]? = some x -> ∃ y, (cA m m2 E T)[i]? = some y /\ (y.alive (G i) ↔ x.alive (G i)) /\ (ORel w I G (cA m m2 E T) (G i) y -> ORel w I G (cA m' m2' E T) (G i) x) := fun i x hx => by
  match i, hx with
  | 0, hx => cases hx; exact ⟨_, rfl, Iff.rfl, id⟩
  | 1, hx => cases hx; exact ⟨_, rfl, Iff.rfl, id⟩
 refine ⟨fun i x hx => ?_, fun i j x y hx ax hy ay hb => ?_, fun i x hx ax => ?_, hh.cl⟩
 ·obtain ⟨y, h1, h2, h3⟩ := key i x hx;exact h3 (hh.obs i y h1)
 ·obtain ⟨x', h1, h2, h3⟩ := key i x hx;obtain ⟨y', h4, h5, h6⟩ := key j y hy;exact hh.sep i j x' y' h1 (h2.2 ax) h4 (h5.2 ay) hb
 ·obtain ⟨x', h1, h2, h3⟩ := key i x hx;exact hh.nI i x' h1 (h2.2 ax)
theorem wB (h1 : E.length = E'.length) (h2 : T.length = T'.length) : Like G G (cA m m2 E T) (cA m' m2' E' T') := by
 intro o ob ho;refine ⟨?_, fun _ => rfl⟩
 match o, ho with
 | 0, ho => cases ho; exact ⟨_, rfl, rfl, rfl, h1⟩
 | 1, ho => cases ho; exact ⟨_, rfl, rfl, rfl, h2⟩
end
theorem wC {α : Type} (l : List α) (x d : α) : (l ++ [x]).getD l.length d = x := by simp [qac]
theorem zif {α : Type} (l : List α) (x y : α) : (l ++ [x]).set l.length y = l ++ [y] := by simp
theorem zau (l : List (List PV)) (e : List PV) (n : Nat) (hn : n = l.length) {k : Nat} (hk : e.length = k) : aF (l ++ [e]) (n : Int) k := by
 subst hn;refine ⟨by omega, by simp only [qj, qd, qp]; omega, ?_⟩;rw [qz, wC]; exact hk
theorem zav (l : List Int) : (aA l).length = l.length := by simp [aA]
theorem zsy (l l' : List Int) : aA (l ++ l') = aA l ++ aA l' := by simp [aA]
theorem zsz (S : List DStep) (s : DStep) (x v cv : Value) (c : List Int) (nn fl : Bool) {w : World} {I : Nat -> Prop} {G : Nat -> Pl} (r : l5 89 21 (S ++ [s]) x v w I G) (hc : Rep w I (.sl nn fl (aA c)) cv) (hcl : c.length < 1000000000) (hS : S.length < 1000000000)
 (hn : 0 <= s.n /\ s.n < 1000000000000 /\ s.text.length < 1000000000000) :
 Calls qa 37 #[v, .int .i64 s.kind, cv] w fun e w' => ∃ v' x' I' G', e = .returned v' /\ l5 89 21 (S ++ [⟨s.kind, s.n + 1, s.text ++ c⟩]) x' v' w' I' G' /\ TrH w I G (eZ 89 21 (S ++ [s]) x) w' I' G' (eZ 89 21 (S ++ [⟨s.kind, s.n + 1, s.text ++ c⟩]) x') := by
 obtain ⟨hh, hv, hx⟩ := r;have hx := hx (by simp);simp only [jO] at hh hv hx ⊢;have hh : HRel w I G (cA true true (S.map encDS ++ [bL s x]) (aA s.text)) := hh;have hv : LRel w I G (cA true true (S.map encDS ++ [bL s x]) (aA s.text)) (.own 0) v := hv;have hx : LRel w I G (cA true true (S.map encDS ++ [bL s x]) (aA s.text)) (.own 1) x := hx;obtain ⟨q0, q1, q2, q3, q4, q5, q6⟩ := zie;obtain ⟨p1, p2, p3, p4, p5, p6, p7⟩ := zsw;refine zV (args := [.own 0, .pv (.int .i64 s.kind), .pv (.sl nn fl (aA c))]) Tryz.func37 zid (Nat.le_of_ble_eq_true (by kernel_rfl)) hh rfl (fun i u hi => ?_) fun a Qx hs hd hq => ?_
 ·match i, hi with
  | 0, hi => cases hi; exact hv
  | 1, hi => cases hi; exact .pv _ _ (.int _ _)
  | 2, hi => cases hi; exact .pv _ _ hc
 have hs : SRel w I G (gQ nn fl (aA c) s.kind) (cA false false (S.map encDS ++ [bL s x]) (aA s.text)) 49 a := hs.unm;have hx : LRel w I G (cA false false (S.map encDS ++ [bL s x]) (aA s.text)) (.own 1) x := hx.mono (Keeps.refl w I) (wB rfl rfl);have hEl : (S.map encDS ++ [bL s x]).length = S.length + 1 := by simp
 have hidx : aF (S.map encDS ++ [bL s x]) ((S.length : Nat) : Int) 3 := zau _ _ _ (by simp) rfl
 have hget : (S.map encDS ++ [bL s x]).getD S.length [] = bL s x := by
  have := wC (S.map encDS) (bL s x) [];rwa [qal] at this
 have hset : ∀ y, (S.map encDS ++ [bL s x]).set S.length y = S.map encDS ++ [y] := fun y => by
  have := zif (S.map encDS) (bL s x) y;rwa [qal] at this
 -- the code
 refine wp_seq (mX q0 (by rw [zso]; exact ⟨rfl, rfl⟩ : aW qa (fun _ => none) 49 _ _ _ _ (fun e' h' => e' = _ /\ h' = _)) hs ?_);rintro _ _ w1 I1 G1 a1 ⟨rfl, rfl⟩ hs1 hd1 ht1;have hx1 := mY hx rfl rfl rfl ht1
 have t1 : Tr w I (aQ (cA true true (S.map encDS ++ [bL s x]) (aA s.text)) G) w1 I1 (aQ (cA true true (S.map encDS ++ [bL s x]) (aA s.text)) G1) := by
  have := ht1.t;rwa [fL (G := G) (m' := true) (m2' := true) (E' := S.map encDS ++ [bL s x]) (T' := aA s.text), fL (G := G1) (m' := true) (m2' := true) (E' := S.map encDS ++ [bL s x]) (T' := aA s.text)] at this
 refine wp_seq (wp_seq (mX q1 (by rw [zsp, hEl]; exact ⟨rfl, rfl⟩ : aW qa (fun _ => none) 49 _ _ _ _ (fun e' h' => e' = _ /\ h' = _)) (hs1.le (e' := gQ nn fl (aA c) s.kind) (LeE.le ⟨rfl, rfl, rfl, trivial⟩)) ?_));rintro _ _ w2 I2 G2 a2 ⟨rfl, rfl⟩ hs2 hd2 ht2;have hx2 := mY hx1 rfl rfl rfl ht2;have t2 := ht2.t;rw [fL (G := G1) (m' := true) (m2' := true) (E' := S.map encDS ++ [bL s x]) (T' := aA s.text), fL (G := G2) (m' := true) (m2' := true) (E' := S.map encDS ++ [bL s x]) (T' := aA s.text)] at t2;have hw : i64.wrap (((S.length + 1 : Nat) : Int) - 1) = (S.length : Nat) := by rw [aC (by omega) (by omega)]; omega
 rw [hw] at hs2;have hs2 := hs2.le (e' := gT nn fl (aA c) s.kind (S.length : Nat)) (LeE.le ⟨rfl, rfl, rfl, rfl, trivial⟩)
 refine wp_seq (mX q2 (K := fun e' h' => ∃ e0, e' = (21, .pv (.bool true)) :: e0 /\ LeE (gT nn fl (aA c) s.kind (S.length : Nat)) e' /\ h' = _) (by
  rw [zsq, if_pos (by simp), qz, hget];refine ⟨hidx, s.kind, rfl, ?_⟩;rw [beq_self_eq_true]
  exact ⟨_, rfl, ⟨rfl, rfl, rfl, rfl, trivial⟩, rfl⟩) hs2 ?_)
 rintro _ _ w3 I3 G3 a3 ⟨e0, rfl, le0, rfl⟩ hs3 hd3 ht3;have hx3 := mY hx2 rfl rfl rfl ht3;have t3 := ht3.t;rw [fL (G := G2) (m' := true) (m2' := true) (E' := S.map encDS ++ [bL s x]) (T' := aA s.text), fL (G := G3) (m' := true) (m2' := true) (E' := S.map encDS ++ [bL s x]) (T' := aA s.text)] at t3;refine wp_cond (show a3.eval (.tmp 21) = .bool true from (hs3.he 21 _ rfl).bool_eq) ?_;have hs3 := hs3.le le0.le
 refine wp_seq (mX q3 (K := fun e' h' => LeE (gT nn fl (aA c) s.kind (S.length : Nat)) e' /\ h' = cA false false (S.map encDS ++ [bL ⟨s.kind, s.n + 1, s.text⟩ x]) (aA s.text)) (by
  rw [zsr, qz, hget];refine ⟨hidx, s.n, rfl, hidx, ⟨rfl, by show 2 <= 3; omega⟩, ?_⟩;rw [aC (by omega) (by omega), hset]
  exact ⟨⟨rfl, rfl, rfl, rfl, trivial⟩, rfl⟩) hs3 ?_)
 rintro e4 _ w4 I4 G4 a4 ⟨le4, rfl⟩ hs4 hd4 ht4;have hx4 := mY hx3 rfl rfl rfl ht4;have t4 := ht4.t;rw [fL (G := G3) (m' := true) (m2' := true) (E' := S.map encDS ++ [bL s x]) (T' := aA s.text), fL (G := G4) (m' := true) (m2' := true) (E' := S.map encDS ++ [bL s x]) (T' := aA s.text)] at t4;have hs4 := hs4.le le4.le;have t4 := ((t1.trans t2).trans t3).trans t4;clear t1 t2 t3;have hidx4 : aF (S.map encDS ++ [bL ⟨s.kind, s.n + 1, s.text⟩ x]) ((S.length : Nat) : Int) 3 := zau _ _ _ (by simp) rfl
 have hget4 : (S.map encDS ++ [bL ⟨s.kind, s.n + 1, s.text⟩ x]).getD S.length [] = bL ⟨s.kind, s.n + 1, s.text⟩ x := by
  have := wC (S.map encDS) (bL ⟨s.kind, s.n + 1, s.text⟩ x) [];rwa [qal] at this
 have hset4 : ∀ y, (S.map encDS ++ [bL ⟨s.kind, s.n + 1, s.text⟩ x]).set S.length y = S.map encDS ++ [y] := fun y => by
  have := zif (S.map encDS) (bL ⟨s.kind, s.n + 1, s.text⟩ x) y;rwa [qal] at this
 have hC : aR (aA c) 1 /\ ((aA s.text).length + (aA c).length) * 4 <= 140737488355328 := by
  refine ⟨mN (enc := fun n => [.int .i32 n]) (fun _ => rfl) c, ?_⟩;rw [zav, zav]; omega
 refine wp_seq (sL (Φ := fun a' w' => ∃ x' I' G', SRel w' I' G' [(0, .own 0)] (cA false false (S.map encDS ++ [bL ⟨s.kind, s.n + 1, s.text ++ c⟩ x']) (aA (s.text ++ c))) 49 a' /\ LRel w' I' G' (cA false false (S.map encDS ++ [bL ⟨s.kind, s.n + 1, s.text ++ c⟩ x']) (aA (s.text ++ c))) (.own 1) x' /\ a'.defers = [] /\
  Tr w I (aQ (cA true true (S.map encDS ++ [bL s x]) (aA s.text)) G) w' I' (aQ (cA true true (S.map encDS ++ [bL s x]) (aA s.text)) G')) ?_ ?_)
 ·refine OpsN.step q4 6 (by rw [p5]; omega) (by rw [zss]; exact ⟨hidx4, rfl, rfl⟩ : aW qa (fun _ => none) 49 _ _ _ _ (fun e' h' => e' = _ /\ h' = _)) hs4 ?_;rintro _ _ w5 I5 G5 a5 ⟨rfl, rfl⟩ hs5 hd5 ht5;have hx5 := mY hx4 rfl rfl rfl ht5;rw [qz] at hs5;refine OpsN.value p1 p3 (zqt p4 p6 p7 hs5 (ob := 0) (i := S.length) (off := 2) rfl rfl (c := bL ⟨s.kind, s.n + 1, s.text⟩ x) (v := x) (by rw [qaf (by simp)]; simp) rfl) ?_;have hs6 := (kN (o := (gU Tryz.f37).toList.getD 6 default) (v := .own 1) (N := 49) (by unfold iM; rw [p2]; rfl) hs5.hn hs5.hh hs5.he hx5);rw [p2] at hs6;obtain ⟨hs6, hd6⟩ := hs6;rw [p2];have hs6 := hs6.le (e' := [(36, .own 1), (0, .own 0), (2, .pv (.sl nn fl (aA c))), (30, .own 0), (31, .pv (.int .i64 (S.length : Nat)))]) (by unfold put; rw [p2]; exact LeE.le ⟨rfl, rfl, rfl, rfl, rfl, trivial⟩);refine OpsN.step (k := 7) q4 2 (by rw [p5]; omega) (by rw [zst]; exact ⟨hC, rfl, rfl⟩ : aW qa (fun _ => none) 49 _ _ _ _ (fun e' h' => e' = _ /\ h' = _)) hs6 ?_;rintro _ _ w7 I7 G7 a7 ⟨rfl, rfl⟩ hs7 hd7 ht7;rw [<- zsy] at hs7 ht7;have hx7 : LRel w7 I7 G7 (cA false true (S.map encDS ++ [bL ⟨s.kind, s.n + 1, s.text⟩ x]) (aA (s.text ++ c))) (.own 1) (a7.tmps.getD 38 undef) := hs7.he 38 _ rfl;obtain ⟨ad, l, c0, ex⟩ := zic hx7 rfl;rw [ex] at hx7;have hx7 : LRel w7 I7 G7 (cA false false (S.map encDS ++ [bL ⟨s.kind, s.n + 1, s.text⟩ x]) (aA (s.text ++ c))) (.own 1) (.slice (some ad) l c0) := hx7.mono (Keeps.refl _ _) (wB rfl rfl);have hs7 : SRel w7 I7 G7 _ (cA false false (S.map encDS ++ [bL ⟨s.kind, s.n + 1, s.text⟩ x]) (aA (s.text ++ c))) 49 a7 := hs7.unm;have hs7 := (hs7.view (d := 38) (v := .pv (.raw (.slice (some ad) l c0))) (by rw [ex]; exact .pv _ _ (.raw _))).le (e' := [(38, .pv (.raw (.slice (some ad) l c0))), (0, .own 0), (30, .own 0), (31, .pv (.int .i64 (S.length : Nat)))]) (LeE.le ⟨rfl, rfl, rfl, rfl, trivial⟩)
  refine OpsN.step (k := 9) q4 3 (by rw [p5]; omega) (K := fun e' h' => LeE [(0, .own 0)] e' /\ h' = cA false false (S.map encDS ++ [bL ⟨s.kind, s.n + 1, s.text ++ c⟩ (.slice (some ad) l c0)]) (aA (s.text ++ c))) (by
   rw [zsu, qz, hget4];refine ⟨hidx4, ⟨rfl, by show 3 <= 3; omega⟩, ?_⟩;rw [hset4]
   exact ⟨⟨rfl, trivial⟩, rfl⟩) hs7 ?_
  rintro e8 _ w8 I8 G8 a8 ⟨le8, rfl⟩ hs8 hd8 ht8;have hx8 := mY hx7 rfl rfl rfl ht8;refine OpsN.last (by rw [p5]; omega) ⟨_, I8, G8, hs8.le le8.le, hx8, ?_, ?_⟩
  ·rw [hd8, hd7, hd6, hd5, hd4, hd3, hd2, hd1, hd]
  ·have t5 := ht5.t;have t7 := ht7.t;have t8 := ht8.t;rw [fL (G := G4) (m' := true) (m2' := true) (E' := S.map encDS ++ [bL s x]) (T' := aA s.text), fL (G := G5) (m' := true) (m2' := true) (E' := S.map encDS ++ [bL s x]) (T' := aA s.text)] at t5;rw [fL (G := G5) (m' := true) (m2' := true) (E' := S.map encDS ++ [bL s x]) (T' := aA s.text), fL (G := G7) (m' := true) (m2' := true) (E' := S.map encDS ++ [bL s x]) (T' := aA s.text)] at t7;rw [fL (G := G7) (m' := true) (m2' := true) (E' := S.map encDS ++ [bL s x]) (T' := aA s.text), fL (G := G8) (m' := true) (m2' := true) (E' := S.map encDS ++ [bL s x]) (T' := aA s.text)] at t8;exact ((t4.trans t5).trans t7).trans t8
 rintro a8 w8 ⟨x', I8, G8, hs8, hx8, hd8, t8⟩;refine wp_seq (mX q5 (by rw [zsv]; exact ⟨rfl, rfl⟩ : aW qa (fun _ => none) 49 _ _ _ _ (fun e' h' => e' = _ /\ h' = _)) hs8 ?_);rintro _ _ w9 I9 G9 a9 ⟨rfl, rfl⟩ hs9 hd9 ht9;have hx9 := mY hx8 rfl rfl rfl ht9;have t9 := ht9.t;rw [fL (G := G8) (m' := true) (m2' := true) (E' := S.map encDS ++ [bL s x]) (T' := aA s.text), fL (G := G9) (m' := true) (m2' := true) (E' := S.map encDS ++ [bL s x]) (T' := aA s.text)] at t9;refine wp_ret ((hq a9 w9 (hd9.trans hd8) ?_).2)
 obtain ⟨u, hu, cv', g1, g2⟩ := pX (P := qa) (fn := Tryz.f37) (K := fun u => u = .own 0) hs9.hh hs9.he (by
  have : Tryz.f37.results.toList = [.tmp 6] := by kernel_rfl
  rw [this]; exact rfl)
 subst hu;refine ⟨cv', g1, cv', x', I9, G9, rfl, ⟨?_, ?_, fun _ => ?_⟩, ⟨?_, qo _, fun o ob' ho h1 h2 => ?_⟩⟩
 ·rw [jO]; exact zsx hs9.hh
 ·rw [jO]; exact g2.mono (Keeps.refl _ _) (wB rfl rfl)
 ·rw [jO]; exact hx9.mono (Keeps.refl _ _) (wB rfl rfl)
 ·have := t8.trans t9;rwa [fL (G := G9) (m' := true) (m2' := true) (E' := S.map encDS ++ [bL ⟨s.kind, s.n + 1, s.text ++ c⟩ x']) (T' := aA (s.text ++ c))] at this
 ·match o, h1 with
  | 0, h1 => cases h1; cases h2
  | 1, h1 => cases h1; cases h2
end Go.Eng
set_option linter.constructorNameAsVariable false
namespace Go.Eng
open Go Go.Proofs
section
variable (T : PV) (a b : Int)
def zig (R : PV -> Prop) : Prop :=
 (∃ ps, some T = some (PV.ptr ps) /\ ((∃ ps1, some T = some (PV.ptr ps1) /\ PCall qa 71 [PV.ptr ps, Z3 a] fun v => ∃ n, v = Z6 n /\ PCall qa 71 [PV.ptr ps1, Z3 b] fun v1 => ∃ n1, v1 = Z6 n1 /\ PCall qa 62 [Z6 n, Z6 n1] fun v2 => ∃ n2, v2 = Z6 n2 /\ R (Z6 n2)) ∨ some T = some PV.nilp /\ PCall qa 71 [PV.ptr ps, Z3 a] fun v => ∃ n, v = Z6 n /\ PCall qa 71 [PV.nilp, Z3 b] fun v1 => ∃ n1, v1 = Z6 n1 /\ PCall qa 62 [Z6 n, Z6 n1] fun v2 => ∃ n2, v2 = Z6 n2 /\ R (Z6 n2))) ∨ some T = some PV.nilp /\ ((∃ ps, some T = some (PV.ptr ps) /\ PCall qa 71 [PV.nilp, Z3 a] fun v => ∃ n, v = Z6 n /\ PCall qa 71 [PV.ptr ps, Z3 b] fun v1 => ∃ n1, v1 = Z6 n1 /\ PCall qa 62 [Z6 n, Z6 n1] fun v2 => ∃ n2, v2 = Z6 n2 /\ R (Z6 n2)) ∨ some T = some PV.nilp /\ PCall qa 71 [PV.nilp, Z3 a] fun v => ∃ n, v = Z6 n /\ PCall qa 71 [PV.nilp, Z3 b] fun v1 => ∃ n1, v1 = Z6 n1 /\ PCall qa 62 [Z6 n, Z6 n1] fun v2 => ∃ n2, v2 = Z6 n2 /\ R (Z6 n2))
theorem zs0 {R : PV -> Prop} (h : zig T a b R) : PCall qa 111 [.int .i32 a, .int .i32 b, .ptr [T]] R :=
 PCall.wz Tryz.func111 aP [0, 1, 2, 5] bF h
end
def zaw (lo hi : Nat) (nl : Bool) (T : PV) (a b : Int) (x8 : Int) (s_0 : LL) : Env × Hp := ([(0, LV.sub 0 lo hi), (1, Y6 a), (2, Y6 b), (3, LV.fn 111 [LV.box 1 0]), (8, Y6 x8)], [.sl (21, 1) false nl s_0, .box [LV.pv T]])
def zax (lo hi : Nat) (nl : Bool) (T : PV) (a b : Int) (x8 x9 : Int) (s_0 : LL) : Env × Hp := ([(0, LV.sub 0 lo hi), (1, Y6 a), (2, Y6 b), (3, LV.fn 111 [LV.box 1 0]), (8, Y6 x8), (9, Y6 x9)], [.sl (21, 1) false nl s_0, .box [LV.pv T]])
section
variable (lo hi : Nat) (nl : Bool) (es : LL) (T : PV) (a b : Int) (J : Int -> LL -> Prop) (μ : Int -> LL -> Nat) (J2 : Int -> Int -> LL -> Int -> Int -> LL -> Prop) (μ2 : Int -> Int -> LL -> Nat)
def zih (R : LV -> Hp -> Prop) : Prop :=
 (aH (zaw lo hi nl T a b (i64.wrap (a + 1)) es) /\ J (i64.wrap (a + 1)) es) /\ ∀ (x8 : Int) (s_0 : LL), J x8 s_0 -> if decide (x8 < b) = true then (aH (zax lo hi nl T a b x8 x8 s_0) /\ J2 x8 x8 s_0 x8 x8 s_0) /\ ∀
  (x81 x9 : Int) (s_01 : LL), J2 x8 x8 s_0 x81 x9 s_01 ->
 let V1 := aH (zaw lo hi nl T a b (i64.wrap (x81 + 1)) s_01) /\ J (i64.wrap (x81 + 1)) s_01 /\ μ (i64.wrap (x81 + 1)) s_01 < μ x8 s_0; if decide (x9 > a) = true then ((0 : Int) <= x9 /\ x9 < (↑hi : Int) - (↑lo :
  Int) /\ (s_01.getD (lo + x9.toNat) []).length = 1) /\ ∃ n, (qb 0 (s_01.getD (lo + x9.toNat) [])).head? = some (Z3 n) /\
 let V2 := 0 <= i64.wrap (x9 - 1) /\ i64.wrap (x9 - 1) < (↑hi : Int) - (↑lo : Int) /\ (s_01.getD (lo + (i64.wrap (x9 - 1)).toNat) []).length = 1; V2 /\ ∃ n1, (qb 0 (s_01.getD (lo + (i64.wrap (x9 -
  1)).toNat) [])).head? = some (Z3 n1) /\ PCall qa 111 [Z3 n, Z3 n1, PV.ptr [T]] fun v => ∃ n2, v = Z6 n2 /\ true = true /\ if decide (n2 < 0) = true then V2 /\ ∃ n3, (qb 0 (s_01.getD (lo + (i64.wrap
  (x9 - 1)).toNat) [])).head? = some (Z3 n3) /\ ((0 : Int) <= x9 /\ x9 < (↑hi : Int) - (↑lo : Int) /\ (s_01.getD (lo + x9.toNat) []).length = 1) /\ ∃ n4, (qb 0 (s_01.getD (lo + x9.toNat) [])).head? = some (Z3 n4) /\ ((0 : Int) <=
  x9 /\ x9 < (↑hi : Int) - (↑lo : Int) /\ (s_01.getD (lo + x9.toNat) []).length = 1) /\
 let V3 := (1 = 1 /\ (1 : Nat) <= (s_01.getD (lo + x9.toNat) []).length) /\ ((0 : Int) <= i64.wrap (x9 - 1) /\ i64.wrap (x9 - 1) < (↑hi : Int) - (↑lo : Int) /\ ((s_01.set (lo + x9.toNat) (Z3 n3 :: zq
  (qb 1 (s_01.getD (lo + x9.toNat) [])))).getD (lo + (i64.wrap (x9 - 1)).toNat) []).length = 1) /\ (1 = 1 /\ 1 <= ((s_01.set (lo + x9.toNat) (Z3 n3 :: zq (qb 1 (s_01.getD (lo + x9.toNat)
  [])))).getD (lo + (i64.wrap (x9 - 1)).toNat) []).length) /\ aH (zax lo hi nl T a b x81 (i64.wrap (x9 - 1)) ((s_01.set (lo + x9.toNat) (Z3 n3 :: zq (qb 1 (s_01.getD (lo + x9.toNat)
  [])))).set (lo + (i64.wrap (x9 - 1)).toNat) (Z3 n4 :: zq (qb 1 ((s_01.set (lo + x9.toNat) (Z3 n3 :: zq (qb 1 (s_01.getD (lo + x9.toNat) [])))).getD (lo +
  (i64.wrap (x9 - 1)).toNat) []))))) /\ J2 x8 x8 s_0 x81 (i64.wrap (x9 - 1)) ((s_01.set (lo + x9.toNat) (Z3 n3 :: zq (qb 1 (s_01.getD (lo + x9.toNat) [])))).set (lo + (i64.wrap (x9 -
  1)).toNat) (Z3 n4 :: zq (qb 1 ((s_01.set (lo + x9.toNat) (Z3 n3 :: zq (qb 1 (s_01.getD (lo + x9.toNat) [])))).getD (lo + (i64.wrap (x9 - 1)).toNat) [])))) /\ μ2 x81
  (i64.wrap (x9 - 1)) ((s_01.set (lo + x9.toNat) (Z3 n3 :: zq (qb 1 (s_01.getD (lo + x9.toNat) [])))).set (lo + (i64.wrap (x9 - 1)).toNat) (Z3 n4 :: zq (qb 1
  ((s_01.set (lo + x9.toNat) (Z3 n3 :: zq (qb 1 (s_01.getD (lo + x9.toNat) [])))).getD (lo + (i64.wrap (x9 - 1)).toNat) [])))) < μ2 x81 x9 s_01; V3 /\ V3 else V1 else V1 else R (LV.tup []) [Ob.sl
  (21, 1) false nl s_0, Ob.box [LV.pv T]]
theorem zs1 {R : LV -> Hp -> Prop} (h : zih lo hi nl es T a b J μ J2 μ2 R) : ACall qa 141 [.sub 0 lo hi, .pv (.int .i64 a), .pv (.int .i64 b), .fn 111 [.box 1 0]] [.sl (21, 1) false nl es, .box [.pv T]] R :=
 ACall.wz Tryz.func141 aP [0, 1, 2, 3, 8, 9, 14, 34] (iN [(1, (bP jK (zaw lo hi nl T a b) J μ (fun e h => (gI e 8, oS h 0)) [] [0, 1, 2, 3, 8] [])), (4, (iB eC (zax lo hi nl T a b) J2 μ2 (fun e h => (gI e 8, gI e 9, oS h 0)) [] [0, 1, 2, 3, 8, 9] []))]) [0, 1] h
end
def zay (lo hi : Nat) (nl : Bool) (T : PV) (a b n : Int) (x10 : Int) (s_0 : LL) : Env × Hp := ([(0, LV.sub 0 lo hi), (1, Y6 a), (2, Y6 b), (3, Y6 n), (10, Y6 x10)], [.sl (21, 1) false nl s_0, .box [LV.pv T]])
section
variable (lo hi : Nat) (nl : Bool) (es : LL) (T : PV) (a b n : Int) (J : Int -> LL -> Prop) (μ : Int -> LL -> Nat)
def zii (R : LV -> Hp -> Prop) : Prop :=
 (aH (zay lo hi nl T a b n (0 : Int) es) /\ J (0 : Int) es) /\ ∀ (x10 : Int) (s_0 : LL), J x10 s_0 -> if decide (x10 < n) = true then ((0 : Int) <= i64.wrap (b + x10) /\ i64.wrap (b + x10) < (↑hi : Int) - (↑lo : Int) /\
  (s_0.getD (lo + (i64.wrap (b + x10)).toNat) []).length = 1) /\ ∃ n1, (qb 0 (s_0.getD (lo + (i64.wrap (b + x10)).toNat) [])).head? = some (Z3 n1) /\
 let V1 := 0 <= i64.wrap (a + x10) /\ i64.wrap (a + x10) < (↑hi : Int) - (↑lo : Int) /\ (s_0.getD (lo + (i64.wrap (a + x10)).toNat) []).length = 1; V1 /\ ∃ n2, (qb 0 (s_0.getD (lo + (i64.wrap (a +
  x10)).toNat) [])).head? = some (Z3 n2) /\ V1 /\
 let V2 := (1 = 1 /\ 1 <= (s_0.getD (lo + (i64.wrap (a + x10)).toNat) []).length) /\ ((0 : Int) <= i64.wrap (b + x10) /\ i64.wrap (b + x10) < (↑hi : Int) - (↑lo : Int) /\ ((s_0.set (lo + (i64.wrap (a + x10)).toNat)
  (Z3 n1 :: zq (qb 1 (s_0.getD (lo + (i64.wrap (a + x10)).toNat) [])))).getD (lo + (i64.wrap (b + x10)).toNat) []).length = (1 : Nat)) /\ (1 = 1 /\ 1 <= ((s_0.set (lo + (i64.wrap (a +
  x10)).toNat) (Z3 n1 :: zq (qb 1 (s_0.getD (lo + (i64.wrap (a + x10)).toNat) [])))).getD (lo + (i64.wrap (b + x10)).toNat) []).length) /\ aH (zay lo hi nl T a b n (i64.wrap
  (x10 + 1)) ((s_0.set (lo + (i64.wrap (a + x10)).toNat) (Z3 n1 :: zq (qb 1 (s_0.getD (lo + (i64.wrap (a + x10)).toNat) [])))).set (lo + (i64.wrap (b + x10)).toNat) (Z3 n2 ::
  zq (qb 1 ((s_0.set (lo + (i64.wrap (a + x10)).toNat) (Z3 n1 :: zq (qb 1 (s_0.getD (lo + (i64.wrap (a + x10)).toNat) [])))).getD (lo + (i64.wrap (b
  + x10)).toNat) []))))) /\ J (i64.wrap (x10 + 1)) ((s_0.set (lo + (i64.wrap (a + x10)).toNat) (Z3 n1 :: zq (qb 1 (s_0.getD (lo + (i64.wrap (a + x10)).toNat) [])))).set (lo +
  (i64.wrap (b + x10)).toNat) (Z3 n2 :: zq (qb 1 ((s_0.set (lo + (i64.wrap (a + x10)).toNat) (Z3 n1 :: zq (qb 1 (s_0.getD (lo + (i64.wrap (a +
  x10)).toNat) [])))).getD (lo + (i64.wrap (b + x10)).toNat) [])))) /\ μ (i64.wrap (x10 + 1)) ((s_0.set (lo + (i64.wrap (a + x10)).toNat) (Z3 n1 :: zq (qb 1 (s_0.getD (lo +
  (i64.wrap (a + x10)).toNat) [])))).set (lo + (i64.wrap (b + x10)).toNat) (Z3 n2 :: zq (qb 1 ((s_0.set (lo + (i64.wrap (a + x10)).toNat) (Z3 n1 :: zq
  (qb 1 (s_0.getD (lo + (i64.wrap (a + x10)).toNat) [])))).getD (lo + (i64.wrap (b + x10)).toNat) [])))) < μ x10 s_0; V2 /\ V2 else R (LV.tup []) [Ob.sl (21, 1) false nl s_0, Ob.box [LV.pv T]]
theorem zs2 {R : LV -> Hp -> Prop} (h : zii lo hi nl es T a b n J μ R) : ACall qa 145 [.sub 0 lo hi, .pv (.int .i64 a), .pv (.int .i64 b), .pv (.int .i64 n), .fn 111 [.box 1 0]] [.sl (21, 1) false nl es, .box [.pv T]] R :=
 ACall.wz Tryz.func145 aP [0, 1, 2, 3, 10, 13] (c9 1 (bP jK (zay lo hi nl T a b n) J μ (fun e h => (gI e 10, oS h 0)) [] [0, 1, 2, 3, 10] [])) [0, 1] h
end
def zaz (lo hi : Nat) (nl : Bool) (T : PV) (m x10 x11 : Int) (s_0 : LL) : Env × Hp := ([(0, LV.sub 0 lo hi), (2, Y6 m), (4, LV.fn 111 [LV.box 1 0]), (10, Y6 x10), (11, Y6 x11)], [.sl (21, 1) false nl s_0, .box [LV.pv T]])
section
variable (lo hi : Nat) (nl : Bool) (es : LL) (T : PV) (a m b : Int) (J : Int -> Int -> LL -> Prop) (μ : Int -> Int -> LL -> Nat)
def zij (R : LV -> Hp -> Prop) : Prop :=
 (aH (zaz lo hi nl T m (i64.wrap (m - a)) (i64.wrap (b - m)) es) /\ J (i64.wrap (m - a)) (i64.wrap (b - m)) es) /\ ∀ (x10 x11 : Int) (s_0 : LL), J x10 x11 s_0 ->
 let K2 := fun (y0_ y1_ : Int) (y2_ : LL) => aH (zaz lo hi nl T m y0_ y1_ y2_) /\ J y0_ y1_ y2_ /\ μ y0_ y1_ y2_ < μ x10 x11 s_0; if (x10 != x11) = true then if decide (x10 > x11) = true then ACall qa 145 [LV.sub 0 lo hi, LV.pv (Z6 (i64.wrap (m - x10))), Y6 m, Y6 x11, LV.fn 111 [LV.box 1 0]] [Ob.sl (21, 1) false nl s_0, Ob.box [LV.pv T]] fun (r : LV) (h' : Hp) => ∃ (t : LL), (r = LV.tup [] /\ h' = [Ob.sl (21, 1) false nl t, Ob.box [LV.pv T]]) /\ (True /\ ((21, 1) = (21, 1) /\ nl = nl /\ s_0.length = t.length) /\ True) /\ K2 (i64.wrap (x10 - x11)) x11 t else ACall qa 145 [LV.sub 0 lo hi, LV.pv (Z6 (i64.wrap (m - x10))), LV.pv (Z6 (i64.wrap (i64.wrap (m + x11) - x10))), Y6 x10, LV.fn 111 [LV.box 1 0]] [Ob.sl (21, 1) false nl s_0, Ob.box [LV.pv T]] fun (r : LV) (h' : Hp) => ∃ (t : LL), (r = LV.tup [] /\ h' = [Ob.sl (21, 1) false nl t, Ob.box [LV.pv T]]) /\ (True /\ ((21, 1) = (21, 1) /\ nl = nl /\ s_0.length = t.length) /\ True) /\ K2 x10 (i64.wrap (x11 - x10)) t else ACall qa 145 [LV.sub 0 lo hi, LV.pv (Z6 (i64.wrap (m - x10))), Y6 m, Y6 x10, LV.fn 111 [LV.box 1 0]] [Ob.sl ((21 : Nat), 1) false nl s_0, Ob.box [LV.pv T]] fun (r : LV) (h' : Hp) => ∃ (t : LL), (r = LV.tup [] /\ h' = [Ob.sl (21, 1) false nl t, Ob.box [LV.pv T]]) /\ (True /\ ((21, 1) = (21, (1 : Nat)) /\ nl = nl /\ s_0.length = t.length) /\ True) /\ R (LV.tup []) [Ob.sl (21, 1) false nl t, Ob.box [LV.pv T]]
theorem zs3 {R : LV -> Hp -> Prop} (h : zij lo hi nl es T a m b J μ R) : ACall qa 144 [.sub 0 lo hi, .pv (.int .i64 a), .pv (.int .i64 m), .pv (.int .i64 b), .fn 111 [.box 1 0]] [.sl (21, 1) false nl es, .box [.pv T]] R :=
 ACall.wz Tryz.func144 (fun zz_ => match zz_ with | 145 => some ⟨LL, fun _ hs t => (.tup [], match hs with | [.sl ty m nl _, b] => [.sl ty m nl t, b] | h => h), none⟩ | _ => none) [0, 1, 2, 3, 4, 10, 11, 20, 23] (c9 2 (bP eC (zaz lo hi nl T m) J μ (fun e h => (gI e 10, gI e 11, oS h 0)) [] [0, 2, 4, 10, 11] [])) [0, 1] h
end
def za0 (lo hi : Nat) (nl : Bool) (T : PV) (a x10 x11 : Int) (s_0 : LL) : Env × Hp := ([(0, LV.sub 0 lo hi), (1, Y6 a), (4, LV.fn 111 [LV.box 1 0]), (10, Y6 x10), (11, Y6 x11)], [.sl (21, 1) false nl s_0, .box [LV.pv T]])
def za1 (lo hi : Nat) (nl : Bool) (T : PV) (x10 x13 : Int) (s_0 : LL) : Env × Hp := ([(0, LV.sub 0 lo hi), (10, Y6 x10), (13, Y6 x13)], [.sl (21, 1) false nl s_0, .box [LV.pv T]])
def za2 (lo hi : Nat) (nl : Bool) (T : PV) (m x14 x15 : Int) (s_0 : LL) : Env × Hp := ([(0, LV.sub 0 lo hi), (2, Y6 m), (4, LV.fn 111 [LV.box 1 0]), (14, Y6 x14), (15, Y6 x15)], [.sl (21, 1) false nl s_0, .box [LV.pv T]])
def za3 (lo hi : Nat) (nl : Bool) (T : PV) (x14 x17 : Int) (s_0 : LL) : Env × Hp := ([(0, LV.sub 0 lo hi), (14, Y6 x14), (17, Y6 x17)], [.sl (21, 1) false nl s_0, .box [LV.pv T]])
def wD (lo hi : Nat) (nl : Bool) (T : PV) (a m b : Int) (x20 x21 : Int) (s_0 : LL) : Env × Hp := ([(0, LV.sub 0 lo hi), (1, Y6 a), (2, Y6 m), (3, Y6 b), (4, LV.fn 111 [LV.box 1 0]), (18, LV.pv (PV.int i64 (i64.wrap ((IntKind.u64.wrap (i64.wrap (a + b))).fdiv (2 ^ 1))))), (19, LV.pv (PV.int i64 (i64.wrap (i64.wrap ((IntKind.u64.wrap (i64.wrap (a + b))).fdiv (2 ^ 1)) + m)))), (20, Y6 x20), (21, Y6 x21), (22, LV.pv (PV.int i64 (i64.wrap (i64.wrap (i64.wrap ((IntKind.u64.wrap (i64.wrap (a + b))).fdiv (2 ^ 1)) + m) - 1))))], [.sl (21, 1) false nl s_0, .box [LV.pv T]])
section
variable (lo hi : Nat) (nl : Bool) (es : LL) (T : PV) (a m b : Int) (J : Int -> Int -> LL -> Prop) (μ : Int -> Int -> LL -> Nat) (J4 : Int -> Int -> LL -> Prop) (μ4 : Int -> Int -> LL -> Nat) (J2 : Int -> Int -> LL -> Prop) (μ2 : Int -> Int -> LL -> Nat) (J5 : Int -> Int -> LL -> Prop) (μ5 : Int -> Int -> LL -> Nat) (J3 : Int -> Int -> LL -> Prop) (μ3 : Int -> Int -> LL -> Nat)
def wE (R : LV -> Hp -> Prop) : Prop :=
 if (i64.wrap (m - a) == 1) = true then (aH (za0 lo hi nl T a m b es) /\ J m b es) /\ ∀ (x10 x11 : Int) (s_0 : LL), J x10 x11 s_0 ->
 let K3 := fun (y0_ y1_ : Int) (y2_ : LL) => aH (za0 lo hi nl T a y0_ y1_ y2_) /\ J y0_ y1_ y2_ /\ μ y0_ y1_ y2_ < μ x10 x11 s_0; if decide (x10 < x11) = true then ((0 : Int) <= i64.wrap ((IntKind.u64.wrap
  (i64.wrap (x10 + x11))).fdiv ((2 : Int) ^ 1)) /\ i64.wrap ((IntKind.u64.wrap (i64.wrap (x10 + x11))).fdiv ((2 : Int) ^ 1)) < (↑hi : Int) - (↑lo : Int) /\ (s_0.getD (lo + (i64.wrap ((IntKind.u64.wrap
  (i64.wrap (x10 + x11))).fdiv ((2 : Int) ^ 1))).toNat) []).length = 1) /\ ∃ n, (qb 0 (s_0.getD (lo + (i64.wrap ((IntKind.u64.wrap (i64.wrap (x10 + x11))).fdiv ((2 : Int) ^ 1))).toNat) [])).head? =
  some (Z3 n) /\ ((0 : Int) <= a /\ a < (↑hi : Int) - (↑lo : Int) /\ (s_0.getD (lo + a.toNat) []).length = 1) /\ ∃ n1, (qb 0 (s_0.getD (lo + a.toNat) [])).head? = some (Z3 n1) /\ PCall qa 111 [Z3 n, Z3 n1, PV.ptr [T]] fun
  (v : PV) => ∃ n2, v = Z6 n2 /\ true = true /\ if decide (n2 < 0) = true then K3 (i64.wrap (i64.wrap ((IntKind.u64.wrap (i64.wrap (x10 + x11))).fdiv ((2 : Int) ^ 1)) + 1)) x11 s_0 else K3 x10 (i64.wrap
  ((IntKind.u64.wrap (i64.wrap (x10 + x11))).fdiv ((2 : Int) ^ 1))) s_0 else (aH (za1 lo hi nl T x10 a s_0) /\ J4 x10 a s_0) /\ ∀ (x101 x13 : Int) (s_01 : LL), J4 x101 x13 s_01 -> if decide (x13 < i64.wrap (x101 - 1)) =
  true then ((0 : Int) <= i64.wrap (x13 + 1) /\ i64.wrap (x13 + 1) < (↑hi : Int) - (↑lo : Int) /\ (s_01.getD (lo + (i64.wrap (x13 + 1)).toNat) []).length = 1) /\ ∃ n, (qb 0 (s_01.getD (lo +
  (i64.wrap (x13 + 1)).toNat) [])).head? = some (Z3 n) /\ ((0 : Int) <= x13 /\ x13 < (↑hi : Int) - (↑lo : Int) /\ (s_01.getD (lo + x13.toNat) []).length = 1) /\ ∃ n1, (qb 0 (s_01.getD (lo + x13.toNat) [])).head? = some
  (Z3 n1) /\ ((0 : Int) <= x13 /\ x13 < (↑hi : Int) - (↑lo : Int) /\ (s_01.getD (lo + x13.toNat) []).length = 1) /\
 let V1 := (1 = 1 /\ 1 <= (s_01.getD (lo + x13.toNat) []).length) /\ ((0 : Int) <= i64.wrap (x13 + 1) /\ i64.wrap (x13 + 1) < (↑hi : Int) - (↑lo : Int) /\ ((s_01.set (lo + x13.toNat) (Z3 n :: zq
  (qb 1 (s_01.getD (lo + x13.toNat) [])))).getD (lo + (i64.wrap (x13 + 1)).toNat) []).length = 1) /\ (1 = 1 /\ 1 <= ((s_01.set (lo + x13.toNat) (Z3 n :: zq (qb 1 (s_01.getD (lo + x13.toNat)
  [])))).getD (lo + (i64.wrap (x13 + 1)).toNat) []).length) /\ aH (za1 lo hi nl T x101 (i64.wrap (x13 + 1)) ((s_01.set (lo + x13.toNat) (Z3 n :: zq (qb 1 (s_01.getD (lo + x13.toNat)
  [])))).set (lo + (i64.wrap (x13 + 1)).toNat) (Z3 n1 :: zq (qb 1 ((s_01.set (lo + x13.toNat) (Z3 n :: zq (qb 1 (s_01.getD (lo + x13.toNat) [])))).getD (lo +
  (i64.wrap (x13 + 1)).toNat) []))))) /\ J4 x101 (i64.wrap (x13 + 1)) ((s_01.set (lo + x13.toNat) (Z3 n :: zq (qb 1 (s_01.getD (lo + x13.toNat) [])))).set (lo + (i64.wrap (x13 +
  1)).toNat) (Z3 n1 :: zq (qb 1 ((s_01.set (lo + x13.toNat) (Z3 n :: zq (qb 1 (s_01.getD (lo + x13.toNat) [])))).getD (lo + (i64.wrap (x13 + 1)).toNat) [])))) /\ μ4
  x101 (i64.wrap (x13 + 1)) ((s_01.set (lo + x13.toNat) (Z3 n :: zq (qb 1 (s_01.getD (lo + x13.toNat) [])))).set (lo + (i64.wrap (x13 + 1)).toNat) (Z3 n1 :: zq
  (qb 1 ((s_01.set (lo + x13.toNat) (Z3 n :: zq (qb 1 (s_01.getD (lo + x13.toNat) [])))).getD (lo + (i64.wrap (x13 + 1)).toNat) [])))) < μ4 x101 x13 s_01; V1 /\ V1 else R (LV.tup []) [Ob.sl
  (21, 1) false nl s_01, Ob.box [LV.pv T]] else if (i64.wrap (b - m) == 1) = true then (aH (za2 lo hi nl T m a m es) /\ J2 a m es) /\ ∀ (x14 x15 : Int) (s_0 : LL), J2 x14 x15 s_0 ->
 let K15 := fun (y0_ y1_ : Int) (y2_ : LL) => aH (za2 lo hi nl T m y0_ y1_ y2_) /\ J2 y0_ y1_ y2_ /\ μ2 y0_ y1_ y2_ < μ2 x14 x15 s_0; if decide (x14 < x15) = true then ((0 : Int) <= m /\ m < (↑hi : Int) - (↑lo : Int) /\ (s_0.getD
  (lo + m.toNat) []).length = 1) /\ ∃ n, (qb 0 (s_0.getD (lo + m.toNat) [])).head? = some (Z3 n) /\ ((0 : Int) <= i64.wrap ((IntKind.u64.wrap (i64.wrap (x14 + x15))).fdiv ((2 : Int) ^ 1)) /\ i64.wrap
  ((IntKind.u64.wrap (i64.wrap (x14 + x15))).fdiv ((2 : Int) ^ 1)) < (↑hi : Int) - (↑lo : Int) /\ (s_0.getD (lo + (i64.wrap ((IntKind.u64.wrap (i64.wrap (x14 + x15))).fdiv ((2 : Int) ^ 1))).toNat) []).length = 1) /\ ∃
  (n1 : Int), (qb 0 (s_0.getD (lo + (i64.wrap ((IntKind.u64.wrap (i64.wrap (x14 + x15))).fdiv ((2 : Int) ^ 1))).toNat) [])).head? = some (Z3 n1) /\ PCall qa 111 [Z3 n, Z3 n1, PV.ptr [T]] fun v => ∃ (n2 :
  Int), v = Z6 n2 /\ true = true /\ if (!decide (n2 < 0)) = true then K15 (i64.wrap (i64.wrap ((IntKind.u64.wrap (i64.wrap (x14 + x15))).fdiv ((2 : Int) ^ 1)) + 1)) x15 s_0 else K15 x14 (i64.wrap
  ((IntKind.u64.wrap (i64.wrap (x14 + x15))).fdiv ((2 : Int) ^ 1))) s_0 else (aH (za3 lo hi nl T x14 m s_0) /\ J5 x14 m s_0) /\ ∀ (x141 x17 : Int) (s_01 : LL), J5 x141 x17 s_01 -> if decide (x17 > x141) = true then ((0 : Int) <=
  i64.wrap (x17 - 1) /\ i64.wrap (x17 - 1) < (↑hi : Int) - (↑lo : Int) /\ (s_01.getD (lo + (i64.wrap (x17 - 1)).toNat) []).length = 1) /\ ∃ n, (qb 0 (s_01.getD (lo + (i64.wrap (x17 - 1)).toNat)
  [])).head? = some (Z3 n) /\ ((0 : Int) <= x17 /\ x17 < (↑hi : Int) - (↑lo : Int) /\ (s_01.getD (lo + x17.toNat) []).length = 1) /\ ∃ n1, (qb 0 (s_01.getD (lo + x17.toNat) [])).head? = some (Z3 n1) /\ ((0 : Int) <= x17 /\ x17 <
  (↑hi : Int) - (↑lo : Int) /\ (s_01.getD (lo + x17.toNat) []).length = 1) /\
 let V2 := (1 = 1 /\ 1 <= (s_01.getD (lo + x17.toNat) []).length) /\ ((0 : Int) <= i64.wrap (x17 - 1) /\ i64.wrap (x17 - 1) < (↑hi : Int) - (↑lo : Int) /\ ((s_01.set (lo + x17.toNat) (Z3 n :: zq
  (qb 1 (s_01.getD (lo + x17.toNat) [])))).getD (lo + (i64.wrap (x17 - 1)).toNat) []).length = 1) /\ (1 = 1 /\ 1 <= ((s_01.set (lo + x17.toNat) (Z3 n :: zq (qb 1 (s_01.getD (lo + x17.toNat)
  [])))).getD (lo + (i64.wrap (x17 - 1)).toNat) []).length) /\ aH (za3 lo hi nl T x141 (i64.wrap (x17 - 1)) ((s_01.set (lo + x17.toNat) (Z3 n :: zq (qb 1 (s_01.getD (lo + x17.toNat)
  [])))).set (lo + (i64.wrap (x17 - 1)).toNat) (Z3 n1 :: zq (qb 1 ((s_01.set (lo + x17.toNat) (Z3 n :: zq (qb 1 (s_01.getD (lo + x17.toNat) [])))).getD (lo +
  (i64.wrap (x17 - 1)).toNat) []))))) /\ J5 x141 (i64.wrap (x17 - 1)) ((s_01.set (lo + x17.toNat) (Z3 n :: zq (qb 1 (s_01.getD (lo + x17.toNat) [])))).set (lo + (i64.wrap (x17 -
  1)).toNat) (Z3 n1 :: zq (qb 1 ((s_01.set (lo + x17.toNat) (Z3 n :: zq (qb 1 (s_01.getD (lo + x17.toNat) [])))).getD (lo + (i64.wrap (x17 - 1)).toNat) [])))) /\ μ5
  x141 (i64.wrap (x17 - 1)) ((s_01.set (lo + x17.toNat) (Z3 n :: zq (qb 1 (s_01.getD (lo + x17.toNat) [])))).set (lo + (i64.wrap (x17 - 1)).toNat) (Z3 n1 :: zq
  (qb 1 ((s_01.set (lo + x17.toNat) (Z3 n :: zq (qb 1 (s_01.getD (lo + x17.toNat) [])))).getD (lo + (i64.wrap (x17 - 1)).toNat) [])))) < μ5 x141 x17 s_01; V2 /\ V2 else R (LV.tup []) [Ob.sl
  (21, 1) false nl s_01, Ob.box [LV.pv T]] else
 let V3 := ∀ (x20 x21 : Int) (s_0 : LL), J3 x20 x21 s_0 ->
 let K33 := fun (y0_ y1_ : Int) (y2_ : LL) => aH (wD lo hi nl T a m b y0_ y1_ y2_) /\ J3 y0_ y1_ y2_ /\ μ3 y0_ y1_ y2_ < μ3 x20 x21 s_0; if decide (x20 < x21) = true then ((0 : Int) <= i64.wrap (i64.wrap
  (i64.wrap (i64.wrap ((IntKind.u64.wrap (i64.wrap (a + b))).fdiv ((2 : Int) ^ 1)) + m) - 1) - i64.wrap ((IntKind.u64.wrap (i64.wrap (x20 + x21))).fdiv ((2 : Int) ^ 1))) /\ i64.wrap
  (i64.wrap (i64.wrap (i64.wrap ((IntKind.u64.wrap (i64.wrap (a + b))).fdiv ((2 : Int) ^ 1)) + m) - 1) - i64.wrap ((IntKind.u64.wrap (i64.wrap (x20 + x21))).fdiv ((2 : Int) ^ 1))) < (↑hi :
  Int) - (↑lo : Int) /\ (s_0.getD (lo + (i64.wrap (i64.wrap (i64.wrap (i64.wrap ((IntKind.u64.wrap (i64.wrap (a + b))).fdiv ((2 : Int) ^ 1)) + m) - 1) - i64.wrap ((IntKind.u64.wrap
  (i64.wrap (x20 + x21))).fdiv ((2 : Int) ^ 1)))).toNat) []).length = 1) /\ ∃ n, (qb 0 (s_0.getD (lo + (i64.wrap (i64.wrap (i64.wrap (i64.wrap ((IntKind.u64.wrap (i64.wrap (a +
  b))).fdiv ((2 : Int) ^ 1)) + m) - 1) - i64.wrap ((IntKind.u64.wrap (i64.wrap (x20 + x21))).fdiv ((2 : Int) ^ 1)))).toNat) [])).head? = some (Z3 n) /\ ((0 : Int) <= i64.wrap ((IntKind.u64.wrap (i64.wrap (x20
  + x21))).fdiv ((2 : Int) ^ 1)) /\ i64.wrap ((IntKind.u64.wrap (i64.wrap (x20 + x21))).fdiv ((2 : Int) ^ 1)) < (↑hi : Int) - (↑lo : Int) /\ (s_0.getD (lo + (i64.wrap ((IntKind.u64.wrap (i64.wrap (x20 +
  x21))).fdiv ((2 : Int) ^ 1))).toNat) []).length = 1) /\ ∃ n1, (qb 0 (s_0.getD (lo + (i64.wrap ((IntKind.u64.wrap (i64.wrap (x20 + x21))).fdiv ((2 : Int) ^ 1))).toNat) [])).head? = some (Z3 n1) /\ PCall
  qa 111 [Z3 n, Z3 n1, PV.ptr [T]] fun v => ∃ n2, v = Z6 n2 /\ true = true /\ if (!decide (n2 < 0)) = true then K33 (i64.wrap (i64.wrap ((IntKind.u64.wrap (i64.wrap (x20 + x21))).fdiv ((2 : Int) ^
  1)) + 1)) x21 s_0 else K33 x20 (i64.wrap ((IntKind.u64.wrap (i64.wrap (x20 + x21))).fdiv ((2 : Int) ^ 1))) s_0 else if (decide (x20 < m) && decide (m < i64.wrap (i64.wrap (i64.wrap
  ((IntKind.u64.wrap (i64.wrap (a + b))).fdiv ((2 : Int) ^ 1)) + m) - x20))) = true then ACall qa 144 [LV.sub 0 lo hi, Y6 x20, Y6 m, LV.pv (Z6 (i64.wrap (i64.wrap (i64.wrap ((IntKind.u64.wrap
  (i64.wrap (a + b))).fdiv ((2 : Int) ^ 1)) + m) - x20))), LV.fn 111 [LV.box 1 0]] [Ob.sl (21, 1) false nl s_0, Ob.box [LV.pv T]] fun (r : LV) (h' : Hp) => ∃ (t : LL), (r = LV.tup [] /\ h' = [Ob.sl (21, 1) false nl t, Ob.box [LV.pv
  T]]) /\ (True /\ ((21, 1) = (21, 1) /\ nl = nl /\ s_0.length = t.length) /\ True) /\ if (decide (a < x20) && decide (x20 < i64.wrap ((IntKind.u64.wrap (i64.wrap (a + b))).fdiv ((2 : Int) ^ 1)))) = true then ACall qa 142
  [LV.sub 0 lo hi, Y6 a, Y6 x20, LV.pv (Z6 (i64.wrap ((IntKind.u64.wrap (i64.wrap (a + b))).fdiv ((2 : Int) ^ 1)))), LV.fn 111 [LV.box 1 0]] [Ob.sl (21, 1) false nl t, Ob.box [LV.pv T]] fun (r1 : LV) (h'1 : Hp) => ∃ (t1 :
  LL), (r1 = LV.tup [] /\ h'1 = [Ob.sl (21, 1) false nl t1, Ob.box [LV.pv T]]) /\ (True /\ ((21, 1) = (21, 1) /\ nl = nl /\ t.length = t1.length) /\ True) /\ if (decide (i64.wrap ((IntKind.u64.wrap (i64.wrap (a + b))).fdiv ((2 :
  Int) ^ 1)) < i64.wrap (i64.wrap (i64.wrap ((IntKind.u64.wrap (i64.wrap (a + b))).fdiv ((2 : Int) ^ 1)) + m) - x20)) && decide (i64.wrap (i64.wrap (i64.wrap ((IntKind.u64.wrap
  (i64.wrap (a + b))).fdiv ((2 : Int) ^ 1)) + m) - x20) < b)) = true then ACall qa 142 [LV.sub 0 lo hi, LV.pv (Z6 (i64.wrap ((IntKind.u64.wrap (i64.wrap (a + b))).fdiv ((2 : Int) ^ 1)))), LV.pv (Z6
  (i64.wrap (i64.wrap (i64.wrap ((IntKind.u64.wrap (i64.wrap (a + b))).fdiv ((2 : Int) ^ 1)) + m) - x20))), Y6 b, LV.fn 111 [LV.box 1 0]] [Ob.sl (21, 1) false nl t1, Ob.box [LV.pv T]] fun (r2 : LV) (h'2 :
  Hp) => ∃ (t2 : LL), (r2 = LV.tup [] /\ h'2 = [Ob.sl (21, 1) false nl t2, Ob.box [LV.pv T]]) /\ (True /\ ((21, 1) = (21, 1) /\ nl = nl /\ t1.length = t2.length) /\ True) /\ R (LV.tup []) [Ob.sl (21, 1) false nl t2, Ob.box [LV.pv T]] else R
  (LV.tup []) [Ob.sl (21, 1) false nl t1, Ob.box [LV.pv T]] else if (decide (i64.wrap ((IntKind.u64.wrap (i64.wrap (a + b))).fdiv ((2 : Int) ^ 1)) < i64.wrap (i64.wrap (i64.wrap ((IntKind.u64.wrap
  (i64.wrap (a + b))).fdiv ((2 : Int) ^ (1 : Nat))) + m) - x20)) && decide (i64.wrap (i64.wrap (i64.wrap ((IntKind.u64.wrap (i64.wrap (a + b))).fdiv ((2 : Int) ^ 1)) + m) - x20) < b)) = true then
  ACall qa 142 [LV.sub 0 lo hi, LV.pv (Z6 (i64.wrap ((IntKind.u64.wrap (i64.wrap (a + b))).fdiv ((2 : Int) ^ 1)))), LV.pv (Z6 (i64.wrap (i64.wrap (i64.wrap ((IntKind.u64.wrap (i64.wrap
  (a + b))).fdiv ((2 : Int) ^ 1)) + m) - x20))), Y6 b, LV.fn 111 [LV.box 1 0]] [Ob.sl (21, 1) false nl t, Ob.box [LV.pv T]] fun (r1 : LV) (h'1 : Hp) => ∃ (t1 : LL), (r1 = LV.tup [] /\ h'1 = [Ob.sl (21, 1) false nl t1, Ob.box [LV.pv T]]) /\
  (True /\ ((21, 1) = (21, 1) /\ nl = nl /\ t.length = t1.length) /\ True) /\ R (LV.tup []) [Ob.sl (21, 1) false nl t1, Ob.box [LV.pv T]] else R (LV.tup []) [Ob.sl (21, 1) false nl t, Ob.box [LV.pv T]] else if (decide (a < x20) && decide (x20 <
  i64.wrap ((IntKind.u64.wrap (i64.wrap (a + b))).fdiv ((2 : Int) ^ 1)))) = true then ACall qa 142 [LV.sub 0 lo hi, Y6 a, Y6 x20, LV.pv (Z6 (i64.wrap ((IntKind.u64.wrap (i64.wrap (a + b))).fdiv ((2 :
  Int) ^ 1)))), LV.fn 111 [LV.box 1 0]] [Ob.sl (21, 1) false nl s_0, Ob.box [LV.pv T]] fun (r : LV) (h' : Hp) => ∃ (t : LL), (r = LV.tup [] /\ h' = [Ob.sl (21, 1) false nl t, Ob.box [LV.pv T]]) /\ (True /\ ((21, 1) = (21, 1) /\ nl = nl /\
  s_0.length = t.length) /\ True) /\ if (decide (i64.wrap ((IntKind.u64.wrap (i64.wrap (a + b))).fdiv ((2 : Int) ^ 1)) < i64.wrap (i64.wrap (i64.wrap ((IntKind.u64.wrap (i64.wrap (a + b))).fdiv
  ((2 : Int) ^ 1)) + m) - x20)) && decide (i64.wrap (i64.wrap (i64.wrap ((IntKind.u64.wrap (i64.wrap (a + b))).fdiv ((2 : Int) ^ 1)) + m) - x20) < b)) = true then ACall qa 142 [LV.sub 0 lo hi, LV.pv
  (Z6 (i64.wrap ((IntKind.u64.wrap (i64.wrap (a + b))).fdiv ((2 : Int) ^ 1)))), LV.pv (Z6 (i64.wrap (i64.wrap (i64.wrap ((IntKind.u64.wrap (i64.wrap (a + b))).fdiv ((2 : Int) ^ 1)) + m) -
  x20))), Y6 b, LV.fn 111 [LV.box 1 0]] [Ob.sl (21, 1) false nl t, Ob.box [LV.pv T]] fun (r1 : LV) (h'1 : Hp) => ∃ (t1 : LL), (r1 = LV.tup [] /\ h'1 = [Ob.sl (21, 1) false nl t1, Ob.box [LV.pv T]]) /\ (True /\ ((21, 1) = (21, 1) /\ nl = nl /\
  t.length = t1.length) /\ True) /\ R (LV.tup []) [Ob.sl (21, 1) false nl t1, Ob.box [LV.pv T]] else R (LV.tup []) [Ob.sl (21, 1) false nl t, Ob.box [LV.pv T]] else if (decide (i64.wrap ((IntKind.u64.wrap (i64.wrap (a +
  b))).fdiv ((2 : Int) ^ 1)) < i64.wrap (i64.wrap (i64.wrap ((IntKind.u64.wrap (i64.wrap (a + b))).fdiv ((2 : Int) ^ 1)) + m) - x20)) && decide (i64.wrap (i64.wrap (i64.wrap
  ((IntKind.u64.wrap (i64.wrap (a + b))).fdiv ((2 : Int) ^ 1)) + m) - x20) < b)) = true then ACall qa 142 [LV.sub 0 lo hi, LV.pv (Z6 (i64.wrap ((IntKind.u64.wrap (i64.wrap (a + b))).fdiv ((2 : Int) ^ 1)))),
  LV.pv (Z6 (i64.wrap (i64.wrap (i64.wrap ((IntKind.u64.wrap (i64.wrap (a + b))).fdiv ((2 : Int) ^ 1)) + m) - x20))), Y6 b, LV.fn 111 [LV.box 1 0]] [Ob.sl (21, 1) false nl s_0, Ob.box [LV.pv T]] fun (r : LV)
  (h' : Hp) => ∃ (t : LL), (r = LV.tup [] /\ h' = [Ob.sl (21, 1) false nl t, Ob.box [LV.pv T]]) /\ (True /\ ((21, 1) = (21, 1) /\ nl = nl /\ s_0.length = t.length) /\ True) /\ R (LV.tup []) [Ob.sl (21, 1) false nl t, Ob.box [LV.pv T]] else R
  (LV.tup []) [Ob.sl (21, 1) false nl s_0, Ob.box [LV.pv T]]; if decide (m > i64.wrap ((IntKind.u64.wrap (i64.wrap (a + b))).fdiv ((2 : Int) ^ 1))) = true then (aH (wD lo hi nl T a m b (i64.wrap
  (i64.wrap (i64.wrap ((IntKind.u64.wrap (i64.wrap (a + b))).fdiv ((2 : Int) ^ 1)) + m) - b)) (i64.wrap ((IntKind.u64.wrap (i64.wrap (a + b))).fdiv ((2 : Int) ^ 1))) es) /\ J3 (i64.wrap
  (i64.wrap (i64.wrap ((IntKind.u64.wrap (i64.wrap (a + b))).fdiv ((2 : Int) ^ 1)) + m) - b)) (i64.wrap ((IntKind.u64.wrap (i64.wrap (a + b))).fdiv ((2 : Int) ^ 1))) es) /\ V3 else (aH (wD lo
  hi nl T a m b a m es) /\ J3 a m es) /\ V3
theorem za4 {R : LV -> Hp -> Prop} (h : wE lo hi nl es T a m b J μ J4 μ4 J2 μ2 J5 μ5 J3 μ3 R) : ACall qa 142 [.sub 0 lo hi, .pv (.int .i64 a), .pv (.int .i64 m), .pv (.int .i64 b), .fn 111 [.box 1 0]] [.sl (21, 1) false nl es, .box [.pv T]] R :=
 ACall.wz Tryz.func142 (fun zz_ => match zz_ with | 144 => some ⟨LL, fun _ hs t => (.tup [], match hs with | [.sl ty m nl _, b] => [.sl ty m nl t, b] | h => h), none⟩ | 142 => some ⟨LL, fun _ hs t => (.tup [], match hs with | [.sl ty m nl _, b] => [.sl ty m nl t, b] | h => h), none⟩ | _ => none) [0, 1, 2, 3, 4, 10, 11, 12, 13, 14, 15, 16, 17, 18, 19, 20, 21, 22, 23, 24, 28, 33, 50, 58, 80, 85, 103, 110, 140, 151, 171, 185, 199, 213] (iN [(3, (bP eC (za0 lo hi nl T a) J μ (fun e h => (gI e 10, gI e 11, oS h 0)) [] [0, 1, 4, 10, 11] [])), (9, (bP eC (za1 lo hi nl T) J4 μ4 (fun e h => (gI e 10, gI e 13, oS h 0)) [] [0, 10, 13] [])), (15, (bP eC (za2 lo hi nl T m) J2 μ2 (fun e h => (gI e 14, gI e 15, oS h 0)) [] [0, 2, 4, 14, 15] [])), (21, (bP eC (za3 lo hi nl T) J5 μ5 (fun e h => (gI e 14, gI e 17, oS h 0)) [] [0, 14, 17] [])), (33, (bP eC (wD lo hi nl T a m b) J3 μ3 (fun e h => (gI e 20, gI e 21, oS h 0)) [] [0, 1, 2, 3, 4, 18, 19, 20, 21, 22] []))]) [0, 1] h
end
def za5 (lo hi : Nat) (nl : Bool) (T : PV) (n x7 x8 : Int) (s_0 : LL) : Env × Hp := ([(0, LV.sub 0 lo hi), (1, Y6 n), (2, LV.fn 111 [LV.box 1 0]), (6, Y6 20), (7, Y6 x7), (8, Y6 x8)], [.sl (21, 1) false nl s_0, .box [LV.pv T]])
def za6 (lo hi : Nat) (nl : Bool) (T : PV) (n x6 : Int) (s_0 : LL) : Env × Hp := ([(0, LV.sub 0 lo hi), (1, Y6 n), (2, LV.fn 111 [LV.box 1 0]), (6, Y6 x6)], [.sl (21, 1) false nl s_0, .box [LV.pv T]])
def za7 (lo hi : Nat) (nl : Bool) (T : PV) (n x6 x7 x8 : Int) (s_0 : LL) : Env × Hp := ([(0, LV.sub 0 lo hi), (1, Y6 n), (2, LV.fn 111 [LV.box 1 0]), (6, Y6 x6), (7, Y6 x7), (8, Y6 x8)], [.sl (21, 1) false nl s_0, .box [LV.pv T]])
section
variable (lo hi : Nat) (nl : Bool) (es : LL) (T : PV) (n : Int) (J : Int -> Int -> LL -> Prop) (μ : Int -> Int -> LL -> Nat) (J2 : Int -> LL -> Prop) (μ2 : Int -> LL -> Nat) (J3 : Int -> Int -> Int -> LL -> Int -> Int -> Int -> LL -> Prop) (μ3 : Int -> Int -> Int -> LL -> Nat)
def zik (R : LV -> Hp -> Prop) : Prop :=
 (aH (za5 lo hi nl T n (0 : Int) (20 : Int) es) /\ J (0 : Int) (20 : Int) es) /\ ∀ (x7 x8 : Int) (s_0 : LL), J x7 x8 s_0 -> if decide (x8 <= n) = true then ACall qa 141 [LV.sub 0 lo hi, Y6 x7, Y6 x8, LV.fn 111 [LV.box 1 0]] [Ob.sl (21, 1) false nl s_0, Ob.box [LV.pv T]] fun (r : LV) (h' : Hp) => ∃ (t : LL), (r = LV.tup [] /\ h' = [Ob.sl (21, 1) false nl t, Ob.box [LV.pv T]]) /\ (True /\ ((21, 1) = (21, 1) /\ nl = nl /\ s_0.length = t.length) /\ True) /\ aH (za5 lo hi nl T n x8 (i64.wrap (x8 + 20)) t) /\ J x8 (i64.wrap (x8 + 20)) t /\ μ x8 (i64.wrap (x8 + 20)) t < μ x7 x8 s_0 else ACall qa 141 [LV.sub 0 lo hi, Y6 x7, Y6 n, LV.fn 111 [LV.box 1 0]] [Ob.sl (21, 1) false nl s_0, Ob.box [LV.pv T]] fun (r : LV) (h' : Hp) => ∃ (t : LL), (r = LV.tup [] /\ h' = [Ob.sl (21, 1) false nl t, Ob.box [LV.pv T]]) /\ (True /\ ((21, 1) = (21, 1) /\ nl = nl /\ s_0.length = t.length) /\ True) /\ (aH (za6 lo hi nl T n (20 : Int) t) /\ J2 (20 : Int) t) /\ ∀ (x6 : Int) (s_01 : LL), J2 x6 s_01 ->
 let K7 := fun (y0_ : Int) (y1_ : LL) => aH (za6 lo hi nl T n y0_ y1_) /\ J2 y0_ y1_ /\ μ2 y0_ y1_ < μ2 x6 s_01; if decide (x6 < n) = true then (aH (za7 lo hi nl T n x6 (0 : Int) (i64.wrap ((2 : Int) * x6)) s_01) /\ J3 x6 (0 : Int) (i64.wrap ((2 : Int) * x6)) s_01 x6 (0 : Int) (i64.wrap ((2 : Int) * x6)) s_01) /\ ∀ (x61 x71 x81 : Int) (s_02 : LL), J3 x6 (0 : Int) (i64.wrap ((2 : Int) * x6)) s_01 x61 x71 x81 s_02 -> if decide (x81 <= n) = true then ACall qa 142 [LV.sub 0 lo hi, Y6 x71, LV.pv (Z6 (i64.wrap (x71 + x61))), Y6 x81, LV.fn 111 [LV.box 1 0]] [Ob.sl (21, 1) false nl s_02, Ob.box [LV.pv T]] fun (r1 : LV) (h'1 : Hp) => ∃ (t1 : LL), (r1 = LV.tup [] /\ h'1 = [Ob.sl (21, 1) false nl t1, Ob.box [LV.pv T]]) /\ (True /\ ((21, 1) = (21, 1) /\ nl = nl /\ s_02.length = t1.length) /\ True) /\ aH (za7 lo hi nl T n x61 x81 (i64.wrap (x81 + i64.wrap ((2 : Int) * x61))) t1) /\ J3 x6 (0 : Int) (i64.wrap ((2 : Int) * x6)) s_01 x61 x81 (i64.wrap (x81 + i64.wrap ((2 : Int) * x61))) t1 /\ μ3 x61 x81 (i64.wrap (x81 + i64.wrap ((2 : Int) * x61))) t1 < μ3 x61 x71 x81 s_02 else if decide (i64.wrap (x71 + x61) < n) = true then ACall qa 142 [LV.sub 0 lo hi, Y6 x71, LV.pv (Z6 (i64.wrap (x71 + x61))), Y6 n, LV.fn 111 [LV.box 1 0]] [Ob.sl (21, 1) false nl s_02, Ob.box [LV.pv T]] fun (r1 : LV) (h'1 : Hp) => ∃ (t1 : LL), (r1 = LV.tup [] /\ h'1 = [Ob.sl (21, 1) false nl t1, Ob.box [LV.pv T]]) /\ (True /\ ((21, 1) = (21, 1) /\ nl = nl /\ s_02.length = t1.length) /\ True) /\ K7 (i64.wrap (x61 * 2)) t1 else K7 (i64.wrap (x61 * 2)) s_02 else R (LV.tup []) [Ob.sl (21, 1) false nl s_01, Ob.box [LV.pv T]]
theorem zs4 {R : LV -> Hp -> Prop} (h : zik lo hi nl es T n J μ J2 μ2 J3 μ3 R) : ACall qa 133 [.sub 0 lo hi, .pv (.int .i64 n), .fn 111 [.box 1 0]] [.sl (21, 1) false nl es, .box [.pv T]] R :=
 ACall.wz Tryz.func133 (fun zz_ => match zz_ with | 141 => some ⟨LL, fun _ hs t => (.tup [], match hs with | [.sl ty m nl _, b] => [.sl ty m nl t, b] | h => h), none⟩ | 142 => some ⟨LL, fun _ hs t => (.tup [], match hs with | [.sl ty m nl _, b] => [.sl ty m nl t, b] | h => h), none⟩ | _ => none) [0, 1, 2, 6, 7, 8, 9, 13, 30, 35, 54] (iN [(2, (bP eC (za5 lo hi nl T n) J μ (fun e h => (gI e 7, gI e 8, oS h 0)) [] [0, 1, 2, 6, 7, 8] [])), (7, (bP jK (za6 lo hi nl T n) J2 μ2 (fun e h => (gI e 6, oS h 0)) [] [0, 1, 2, 6] [])), (9, (iB jL (za7 lo hi nl T n) J3 μ3 (fun e h => (gI e 6, gI e 7, gI e 8, oS h 0)) [] [0, 1, 2, 6, 7, 8] []))]) [0, 1] h
end
section
variable (lo hi : Nat) (nl : Bool) (es : LL) (T : PV)
def zil (R : LV -> Hp -> Prop) : Prop :=
 ACall qa 133 [LV.sub 0 lo hi, LV.pv (Z6 (↑(hi - lo) : Int)), LV.fn 111 [LV.box 1 0]] [Ob.sl (21, 1) false nl es, Ob.box [LV.pv T]] fun (r : LV) (h' : Hp) => ∃ (t : LL), (r = LV.tup [] /\ h' = [Ob.sl (21, 1) false nl t, Ob.box [LV.pv T]]) /\ (True /\ ((21, 1) = (21, 1) /\ nl = nl /\ es.length = t.length) /\ True) /\ R (LV.tup []) [Ob.sl (21, 1) false nl t, Ob.box [LV.pv T]]
theorem zs5 {R : LV -> Hp -> Prop} (h : zil lo hi nl es T R) : ACall qa 110 [.sub 0 lo hi, .fn 111 [.box 1 0]] [.sl (21, 1) false nl es, .box [.pv T]] R :=
 ACall.wz Tryz.func110 (fun zz_ => match zz_ with | 133 => some ⟨LL, fun _ hs t => (.tup [], match hs with | [.sl ty m nl _, b] => [.sl ty m nl t, b] | h => h), none⟩ | _ => none) [0, 1] bF [0, 1] h
end
section
variable (r : Int)
def zim (R : PV -> Prop) : Prop :=
 R (Zb (decide (r >= 44032) && decide (r < 55204)))
theorem zs6 {R : PV -> Prop} (h : zim r R) : PCall qa 131 [.int .i32 r] R :=
 PCall.wz Tryz.func131 aP [0, 2] bF h
end
section
variable (r : Int)
def zin (R : PV -> Prop) : Prop :=
 PCall qa 131 [Z3 r] fun v => ∃ b, v = Zb b /\ if (!b) = true then R (PV.sl true true []) else (3 = 3 /\ 3 <= 3) /\ ((0 : Int) <= 2 /\ (2 : Int) < (↑3 : Int)) /\ ∃ n, some (Z3 (i32.wrap ((4519 : Int) + (i32.wrap (r - 44032)).tmod (28 : Int)))) = some (Z3 n) /\ if (n == 4519) = true then (fO 3 none (some (2 : Int)) (some (2 : Int)) /\ 3 = (3 : Nat)) /\ R (PV.sl false true [[Z3 (i32.wrap ((4352 : Int) + i32.wrap ((i32.wrap (r - 44032)).tdiv (588 : Int))))], [Z3 (i32.wrap ((4449 : Int) + (i32.wrap ((i32.wrap (r - 44032)).tdiv (28 : Int))).tmod (21 : Int)))]]) else (fO 3 none none none /\ 3 = 3) /\ R (PV.sl false true [[Z3 (i32.wrap ((4352 : Int) + i32.wrap ((i32.wrap (r - 44032)).tdiv (588 : Int))))], [Z3 (i32.wrap ((4449 : Int) + (i32.wrap ((i32.wrap (r - 44032)).tdiv (28 : Int))).tmod (21 : Int)))], [Z3 (i32.wrap ((4519 : Int) + (i32.wrap (r - 44032)).tmod (28 : Int)))]])
theorem zs7 {R : PV -> Prop} (h : zin r R) : PCall qa 108 [.int .i32 r] R :=
 PCall.wz Tryz.func108 aP [0, 2, 3, 4, 7, 23] bF h
end
section
variable (r : Int)
def zio (R : PV -> Prop) : Prop :=
 R (Zb (decide (r >= 44032) && decide (r <= 55203)))
theorem zs8 {R : PV -> Prop} (h : zio r R) : PCall qa 99 [.int .i32 r] R :=
 PCall.wz Tryz.func99 aP [0, 2] bF h
end
section
variable (r : Int)
def za8 (R : LV -> Hp -> Prop) : Prop :=
 PCall qa 99 [Z3 r] fun v => ∃ b, v = Zb b /\ if (!b) = true then R (LV.pv (PV.sl true true [])) [] else if ((i64.wrap (i64.wrap r - 44032)).tmod (28 : Int) != 0) = true then iJ true [[Z3 (i32.wrap (i64.wrap ((4352 : Int) + i64.wrap ((i64.wrap (i64.wrap r - 44032)).tdiv (588 : Int)))))], [Z3 (i32.wrap (i64.wrap ((4449 : Int) + (i64.wrap ((i64.wrap (i64.wrap r - 44032)).tdiv (28 : Int))).tmod (21 : Int))))]] [[Z3 (i32.wrap (i64.wrap ((4519 : Int) + (i64.wrap (i64.wrap r - 44032)).tmod (28 : Int))))]] 1 4 /\ R (LV.own 0) [Ob.sl (21, 1) false false [[Z3 (i32.wrap (i64.wrap ((4352 : Int) + i64.wrap ((i64.wrap (i64.wrap r - 44032)).tdiv (588 : Int)))))], [Z3 (i32.wrap (i64.wrap ((4449 : Int) + (i64.wrap ((i64.wrap (i64.wrap r - 44032)).tdiv (28 : Int))).tmod (21 : Int))))], [Z3 (i32.wrap (i64.wrap ((4519 : Int) + (i64.wrap (i64.wrap r - 44032)).tmod (28 : Int))))]]] else R (LV.pv (PV.sl false true [[Z3 (i32.wrap (i64.wrap ((4352 : Int) + i64.wrap ((i64.wrap (i64.wrap r - 44032)).tdiv (588 : Int)))))], [Z3 (i32.wrap (i64.wrap ((4449 : Int) + (i64.wrap ((i64.wrap (i64.wrap r - 44032)).tdiv (28 : Int))).tmod (21 : Int))))]])) []
theorem ziq {R : LV -> Hp -> Prop} (h : za8 r R) : ACall qa 100 [.pv (.int .i32 r)] [] R :=
 ACall.wA Tryz.func100 aP [0, 2, 3, 4, 7, 23] bF h
end
section
variable (n f : Bool) (es : LL) (k r : Int)
def zir (R : PV -> Prop) : Prop :=
 PCall qa 130 [PV.sl n f es, Z6 k, Z6 r] fun v => ∃ n1, v = Z6 n1 /\ if decide (n1 < 0) = true then R (Z6 0) else aF es n1 5 /\ ∃ n2, (qb 3 (es.getD n1.toNat [])).head? = some (Z6 n2) /\ R (Z6 n2)
theorem zs9 {R : PV -> Prop} (h : zir n f es k r R) : PCall qa 140 [.sl n f es, .int .i64 k, .int .i64 r] R :=
 PCall.wz Tryz.func140 aP [0, 1, 2, 6, 7, 13] bF h
end
section
variable (n f : Bool) (es : LL) (k r : Int)
def zis (R : PV -> Prop) : Prop :=
 PCall qa 140 [PV.sl n f es, Z6 k, Z6 (i64.wrap r)] fun v => ∃ n1, v = Z6 n1 /\ R (Z6 n1)
theorem zta {R : PV -> Prop} (h : zis n f es k r R) : PCall qa 128 [.sl n f es, .int .i64 k, .int .i32 r] R :=
 PCall.wz Tryz.func128 aP [0, 1, 2, 6] bF h
end
section
variable (n f : Bool) (es : LL) (r : Int)
def zit (R : PV -> Prop) : Prop :=
 PCall qa 130 [PV.sl n f es, Z6 2, Z6 (i64.wrap r)] fun v => ∃ n1, v = Z6 n1 /\ if decide (n1 < 0) = true then R (PV.tup [Z3 0, Z3 0, Zb false]) else aF es n1 5 /\ ∃ n2, (qb 3 (es.getD n1.toNat
  [])).head? = some (Z6 n2) /\
 let V1 := aF es n1 5 /\ ∃ n4, (qb 3 (es.getD n1.toNat [])).head? = some (Z6 n4) /\ aF es n1 5 /\ ∃ n5, (qb 4 (es.getD n1.toNat [])).head? = some (Z6 n5) /\ R (PV.tup [Z3 (i32.wrap n4), Z3
  (i32.wrap n5), Zb true]); if (n2 == 0) = true then aF es n1 5 /\ ∃ n3, (qb 4 (es.getD n1.toNat [])).head? = some (Z6 n3) /\ if (n3 == 0) = true then R (PV.tup [Z3 0, Z3 0, Zb false]) else V1 else V1
theorem ztb {R : PV -> Prop} (h : zit n f es r R) : PCall qa 101 [.sl n f es, .int .i32 r] R :=
 PCall.wz Tryz.func101 aP [0, 1, 4, 5, 6, 7, 29] bF h
end
section
variable (n f : Bool) (es : LL) (r : Int)
def ziu (R : PV -> Prop) : Prop :=
 PCall qa 128 [PV.sl n f es, Z6 1, Z3 r] fun v => ∃ n1, v = Z6 n1 /\ R (Z6 n1)
theorem ztc {R : PV -> Prop} (h : ziu n f es r R) : PCall qa 96 [.sl n f es, .int .i32 r] R :=
 PCall.wz Tryz.func96 aP [0, 1, 4] bF h
end
section
variable (n f : Bool) (es : LL) (r d : Int)
def za9 (R : LV -> Hp -> Prop) : Prop :=
 PCall qa 99 [Z3 r] fun v => ∃ b, v = Zb b /\ if b = true then ACall qa 100 [LV.pv (Z3 r)] [] fun (r1 : LV) (h' : Hp) => (∃ (t : Bool × LL), (r1 = LV.own 0 /\ h' = [Ob.sl ((21 : Nat), 1) true t.fst t.snd]) /\ True /\ R (LV.own 0) [Ob.sl (21, 1) true t.fst t.snd]) ∨ ∃ (t : LL), (r1 = LV.pv (PV.sl false true t) /\ h' = []) /\ True /\ R (LV.pv (PV.sl false true t)) [] else PCall qa 101 [PV.sl n f es, Z3 r] fun v1 => ∃ vs, v1 = PV.tup vs /\ vs.length = 3 /\ ∃ x, vs.head? = some x /\ ∃ n1, x = Z3 n1 /\ ∃ x1, vs.tail.head? = some x1 /\ ∃ n2, x1 = Z3 n2 /\ ∃ x2, vs.tail.tail.head? = some x2 /\ ∃ b1, x2 = Zb b1 /\ if (!b1 || d == 0) = true then R (LV.pv (PV.sl false true [[Z3 r]])) [] else ACall qa 77 [LV.pv (PV.sl n f es), LV.pv (Z3 n1), LV.pv (Z6 (i64.wrap (d - 1)))] [] fun (r1 : LV) (h' : Hp) => (∃ (t : Bool × LL), (r1 = LV.own 0 /\ h' = [Ob.sl (21, 1) true t.fst t.snd]) /\ True /\ if (n2 != 0) = true then ACall qa 77 [LV.pv (PV.sl n f es), LV.pv (Z3 n2), LV.pv (Z6 (i64.wrap (d - 1)))] [] fun (r2 : LV) (h'1 : Hp) => (∃ (t1 : Bool × LL), (r2 = LV.own 0 /\ h'1 = [Ob.sl (21, (1 : Nat)) true t1.fst t1.snd]) /\ True /\ (aR t1.snd 1 /\ (t.snd.length + t1.snd.length) * 4 <= 140737488355328) /\ R (LV.own 0) [Ob.sl (21, 1) true (t.fst && t1.snd.isEmpty) (t.snd ++ t1.snd)]) ∨ ∃ (t1 : LL), (r2 = LV.pv (PV.sl false true t1) /\ h'1 = []) /\ True /\ (aR t1 1 /\ (t.snd.length + t1.length) * 4 <= 140737488355328) /\ R (LV.own 0) [Ob.sl (21, 1) true (t.fst && t1.isEmpty) (t.snd ++ t1)] else R (LV.own 0) [Ob.sl (21, 1) true t.fst t.snd]) ∨ ∃ (t : LL), (r1 = LV.pv (PV.sl false true t) /\ h' = []) /\ True /\ if (n2 != 0) = true then ACall qa 77 [LV.pv (PV.sl n f es), LV.pv (Z3 n2), LV.pv (Z6 (i64.wrap (d - 1)))] [] fun (r2 : LV) (h'1 : Hp) => (∃ (t1 : Bool × LL), (r2 = LV.own 0 /\ h'1 = [Ob.sl (21, 1) true t1.fst t1.snd]) /\ True /\ iJ true t t1.snd 1 4 /\ R (LV.own 0) [Ob.sl (21, 1) false false (t ++ t1.snd)]) ∨ ∃ (t1 : LL), (r2 = LV.pv (PV.sl false true t1) /\ h'1 = []) /\ True /\ iJ true t t1 1 4 /\ R (LV.own 0) [Ob.sl (21, 1) false false (t ++ t1)] else R (LV.pv (PV.sl false true t)) []
theorem ziv {R : LV -> Hp -> Prop} (h : za9 n f es r d R) : ACall qa 77 [.pv (.sl n f es), .pv (.int .i32 r), .pv (.int .i64 d)] [] R :=
 ACall.wA Tryz.func77 (fun zz_ => match zz_ with | 77 => some ⟨Bool × LL, fun _ hs t => (.own hs.length, hs ++ [.sl (21, 1) true t.1 t.2]), some ⟨LL, fun _ hs t => (.pv (.sl false true t), hs)⟩⟩ | 100 => some ⟨Bool × LL, fun _ hs t => (.own hs.length, hs ++ [.sl (21, 1) true t.1 t.2]), some ⟨LL, fun _ hs t => (.pv (.sl false true t), hs)⟩⟩ | _ => none) [0, 1, 2, 6, 7, 8, 9, 10, 12, 27, 36] bF h
end
section
variable (tc tg tj tf tp : PV) (M S : List (PV × PV)) (nl : Bool) (es : LL) (r d : Int)
def zba (R : LV -> Hp -> Prop) : Prop :=
 PCall qa 108 [Z3 r] fun v => ∃ n f es1, v = PV.sl n f es1 /\ if (bif false then n else !n) = true then (aR es1 1 /\ (es.length + es1.length) * 4 <= (140737488355328 : Nat)) /\ R (LV.tup []) [Ob.box [LV.pv (PV.ptr [tc, tg, tj, tf, tp, PV.mp M, PV.mp S]), LV.own 1], Ob.sl (21, 1) true (nl && es1.isEmpty) (es ++ es1)] else PCall qa 69 [PV.ptr [tc, tg, tj, tf, tp, PV.mp M, PV.mp S], Z3 r] fun v1 => ∃ vs, v1 = PV.tup vs /\ vs.length = 3 /\ ∃ x, vs.head? = some x /\ ∃ n1, x = Z3 n1 /\ ∃ x1, vs.tail.head? = some x1 /\ ∃ n2, x1 = Z3 n2 /\ ∃ x2, vs.tail.tail.head? = some x2 /\ ∃ b, x2 = Zb b /\ if (!b || d == 0) = true then (aR [[Z3 r]] 1 /\ (es.length + 1) * 4 <= 140737488355328) /\ R (LV.tup []) [Ob.box [LV.pv (PV.ptr [tc, tg, tj, tf, tp, PV.mp M, PV.mp S]), LV.own 1], Ob.sl (21, 1) true (nl && false) (es ++ [[Z3 r]])] else ACall qa 81 [LV.box 0 0, LV.pv (Z3 n1), LV.pv (Z6 (i64.wrap (d - 1)))] [Ob.box [LV.pv (PV.ptr [tc, tg, tj, tf, tp, PV.mp M, PV.mp S]), LV.own 1], Ob.sl (21, 1) false nl es] fun (r1 : LV) (h' : Hp) => ∃ (t : Bool × LL), (r1 = LV.tup [] /\ h' = [Ob.box [LV.pv (PV.ptr [tc, tg, tj, tf, tp, PV.mp M, PV.mp S]), LV.own 1], Ob.sl (21, 1) true t.fst t.snd]) /\ (True /\ True /\ True) /\ if (n2 != 0) = true then ACall qa 81 [LV.box 0 0, LV.pv (Z3 n2), LV.pv (Z6 (i64.wrap (d - 1)))] [Ob.box [LV.pv (PV.ptr [tc, tg, tj, tf, tp, PV.mp M, PV.mp S]), LV.own 1], Ob.sl (21, 1) false t.fst t.snd] fun (r2 : LV) (h'1 : Hp) => ∃ (t1 : Bool × LL), (r2 = LV.tup [] /\ h'1 = [Ob.box [LV.pv (PV.ptr [tc, tg, tj, tf, tp, PV.mp M, PV.mp S]), LV.own 1], Ob.sl (21, 1) true t1.fst t1.snd]) /\ (True /\ True /\ True) /\ R (LV.tup []) [Ob.box [LV.pv (PV.ptr [tc, tg, tj, tf, tp, PV.mp M, PV.mp S]), LV.own 1], Ob.sl ((21 : Nat), 1) true t1.fst t1.snd] else R (LV.tup []) [Ob.box [LV.pv (PV.ptr [tc, tg, tj, tf, tp, PV.mp M, PV.mp S]), LV.own 1], Ob.sl (21, 1) true t.fst t.snd]
theorem ziw {R : LV -> Hp -> Prop} (h : zba tc tg tj tf tp M S nl es r d R) : ACall qa 81 [.box 0 0, .pv (.int .i32 r), .pv (.int .i64 d)] [.box [.pv (.ptr [tc, tg, tj, tf, tp, .mp M, .mp S]), .own 1], .sl (21, 1) false nl es] R :=
 ACall.wz Tryz.func81 (fun zz_ => match zz_ with | 81 => some ⟨Bool × LL, fun _ hs t => (.tup [], match hs with | [.box (x :: _), .sl ty _ _ _] => [.box [x, .own 1], .sl ty true t.1 t.2] | [.box (x :: _)] => [.box [x, .own 1], .sl (21, 1) true t.1 t.2] | h => h), none⟩ | _ => none) [0, 1, 2, 6, 7, 8, 9, 13, 38, 55] bF [0, 1] h
end
def zbb  (n10 f10 : Bool) (s10 : LL) (x11 x12 : Int) (n_0 : Bool) (s_0 : LL) : Env × Hp := ([(5, LV.own 0), (10, .pv (.sl n10 f10 s10)), (11, Y6 x11), (12, Y6 x12)], [.sl (100, 3) true n_0 s_0])
section
variable (n f : Bool) (es : LL) (k : Int) (J : Bool -> Bool -> LL -> Int -> Int -> Bool -> LL -> Prop) (μ : Bool -> Bool -> LL -> Int -> Int -> Bool -> LL -> Nat)
def zix (R : PV -> Prop) : Prop :=
 PCall qa 41 [PV.sl n f es, Z6 k] fun v => ∃ n1 f1 es1, v = PV.sl n1 f1 es1 /\ (aH (zbb n1 f1 es1 (↑es1.length : Int) (0 : Int) true []) /\ J n1 f1 es1 (↑es1.length : Int) (0 : Int) true []) /\ ∀ (n10 f10 : Bool) (s10 : LL) (x11 x12 : Int) (n_0 : Bool) (s_0 : LL), J n10 f10 s10 x11 x12 n_0 s_0 -> if decide (x12 < x11) = true then aF s10 x12 4 /\ ∃ n2, (s10.getD x12.toNat []).head? = some (Z6 n2) /\ ∃ n3, (s10.getD x12.toNat []).tail.head? = some (Z6 n3) /\ ∃ n4, (s10.getD x12.toNat []).tail.tail.head? = some (Z6 n4) /\ ∃ n5, (s10.getD x12.toNat []).tail.tail.tail.head? = some (Z6 n5) /\ (aR [[Z6 n2, Z6 n3, Z6 n4]] 3 /\ (s_0.length + 1) * 24 <= 140737488355328) /\ aH (zbb n10 f10 s10 x11 (i64.wrap (x12 + 1)) (n_0 && false) (s_0 ++ [[Z6 n2, Z6 n3, Z6 n4]])) /\ J n10 f10 s10 x11 (i64.wrap (x12 + 1)) (n_0 && false) (s_0 ++ [[Z6 n2, Z6 n3, Z6 n4]]) /\ μ n10 f10 s10 x11 (i64.wrap (x12 + 1)) (n_0 && false) (s_0 ++ [[Z6 n2, Z6 n3, Z6 n4]]) < μ n10 f10 s10 x11 x12 n_0 s_0 else PCall qa 56 [Z6 1114112, Z6 0, PV.sl n_0 false s_0] fun v1 => R v1
theorem ztd {R : PV -> Prop} (h : zix n f es k J μ R) : PCall qa 39 [.sl n f es, .int .i64 k] R :=
 PCall.wz Tryz.func39 aP [0, 1, 4, 5, 7, 10, 11, 12, 13] (c9 3 (bP cz7 zbb J μ (fun e h => (gN e 10, gF e 10, gS e 10, gI e 11, gI e 12, oN h 0, oS h 0)) [(5, 100, 3)] [5, 10, 11, 12] [])) h
end
def zbc (n f : Bool) (es : LL) (x14 : Int) (m_0 : List (PV × PV)) : Env × Hp := ([(3, LV.mp 0), (12, LV.pv (PV.sl n f es)), (13, LV.pv (PV.int i64 (es.length : Int))), (14, Y6 x14)], [.mp m_0])
def zbd (n f : Bool) (es : LL) (x14 : Int) (n18 f18 : Bool) (s18 : LL) (x19 x20 : Int) (m_0 : List (PV × PV)) : Env × Hp := ([(3, LV.mp 0), (12, LV.pv (PV.sl n f es)), (13, LV.pv (PV.int i64 (es.length : Int))), (14, Y6 x14), (18, .pv (.sl n18 f18 s18)), (19, Y6 x19), (20, Y6 x20)], [.mp m_0])
def zbe  (n_0 : Bool) (s_0 : LL) (r_1 : List (PV × PV)) (q_1 : Option (PV × PV)) : Env × Hp := ([(8, LV.own 0), (34, LV.it 1)], [.sl (3, 1) true n_0 s_0, .iter (3, 4) r_1 q_1])
section
variable (n f : Bool) (es : LL) (J : Int -> (List (PV × PV)) -> Prop) (μ : Int -> (List (PV × PV)) -> Nat) (J2 : Int -> Bool -> Bool -> LL -> Int -> Int -> (List (PV × PV)) -> Int -> Bool -> Bool -> LL -> Int -> Int -> (List (PV × PV)) -> Prop) (μ2 : Int -> Bool -> Bool -> LL -> Int -> Int -> (List (PV × PV)) -> Nat) (J3 : Bool -> LL -> (List (PV × PV)) -> (Option (PV × PV)) -> Prop) (μ3 : Bool -> LL -> (List (PV × PV)) -> (Option (PV × PV)) -> Nat)
def ziy (R : PV -> Prop) : Prop :=
 lW .i64 [] /\ (aH (zbc n f es (0 : Int) [(Z6 0, Zb true)]) /\ J (0 : Int) [(Z6 0, Zb true)]) /\ ∀ (x14 : Int) (m_0 : List (PV × PV)), J x14 m_0 -> if decide (x14 < (↑es.length : Int)) = true then aF es x14 1 /\ ∃ n1, ∃ (f1
  : Bool), ∃ es1, (es.getD x14.toNat []).head? = some (PV.sl n1 f1 es1) /\ (aH (zbd n f es x14 n1 f1 es1 (↑es1.length : Int) (0 : Int) m_0) /\ J2 x14 n1 f1 es1 (↑es1.length : Int) (0 : Int) m_0 x14 n1 f1 es1 (↑es1.length : Int)
  (0 : Int) m_0) /\ ∀ (x141 : Int) (n18 f18 : Bool) (s18 : LL) (x19 x20 : Int) (m_01 : List (PV × PV)), J2 x14 n1 f1 es1 (↑es1.length : Int) (0 : Int) m_0 x141 n18 f18 s18 x19 x20 m_01 -> if decide (x20 < x19) = true then aF s18 x20 4 /\ ∃
  (n2 : Int), (s18.getD x20.toNat []).head? = some (Z6 n2) /\ ∃ n3, (s18.getD x20.toNat []).tail.head? = some (Z6 n3) /\ ∃ n4, (s18.getD x20.toNat []).tail.tail.head? = some (Z6 n4) /\ ∃ n5, (s18.getD x20.toNat
  []).tail.tail.tail.head? = some (Z6 n5) /\
 let V1 := lW .i64 m_01 /\ lW .i64 (bX (Z6 n2) (Zb true) m_01) /\ aH (zbd n f es x141 n18 f18 s18 x19 (i64.wrap (x20 + 1)) (bX (Z6 (i64.wrap (n3 + 1))) (Zb true) (bX (Z6 n2) (Zb true) m_01))) /\ J2
  x14 n1 f1 es1 (↑es1.length : Int) (0 : Int) m_0 x141 n18 f18 s18 x19 (i64.wrap (x20 + 1)) (bX (Z6 (i64.wrap (n3 + 1))) (Zb true) (bX (Z6 n2) (Zb true) m_01)) /\ μ2 x141 n18 f18 s18 x19 (i64.wrap (x20 + 1))
  (bX (Z6 (i64.wrap (n3 + 1))) (Zb true) (bX (Z6 n2) (Zb true) m_01)) < μ2 x141 n18 f18 s18 x19 x20 m_01; (V1 /\ V1) /\ V1 else aH (zbc n f es (i64.wrap (x141 + 1)) m_01) /\ J (i64.wrap (x141 + 1)) m_01 /\
  μ (i64.wrap (x141 + 1)) m_01 < μ x14 m_0 else (aH (zbe true [] m_0 none) /\ J3 true [] m_0 none) /\ ∀ (n_0 : Bool) (s_0 : LL) (r_1 : List (PV × PV)) (q_1 : Option (PV × PV)), J3 n_0 s_0 r_1 q_1 -> (r_1 = [] -> R (PV.sl n_0
  false s_0)) /\ ∀ (j : Nat) (k v : PV), r_1[j]? = some (k, v) -> ∃ n1, k = Z6 n1 /\ ∃ b, v = Zb b /\ ∃ n2, Z6 n1 = Z6 n2 /\ ∃ b1, Zb b = Zb b1 /\ (aR [[Z6 n2]] 1 /\ (s_0.length + 1) * 8 <= 140737488355328) /\
  aH (zbe (n_0 && false) (s_0 ++ [[Z6 n2]]) (r_1.eraseIdx j) (some (Z6 n1, Zb b))) /\ J3 (n_0 && false) (s_0 ++ [[Z6 n2]]) (r_1.eraseIdx j) (some (Z6 n1, Zb b)) /\ μ3 (n_0 && false) (s_0 ++ [[Z6 n2]]) (r_1.eraseIdx j) (some (Z6 n1, Zb
  b)) < μ3 n_0 s_0 r_1 q_1
theorem zte {R : PV -> Prop} (h : ziy n f es J μ J2 μ2 J3 μ3 R) : PCall qa 57 [.sl n f es] R :=
 PCall.wz Tryz.func57 aP [0, 2, 3, 5, 7, 8, 9, 12, 13, 14, 15, 18, 19, 20, 21, 34, 36] (iN [(3, (bP jK (zbc n f es) J μ (fun e h => (gI e 14, oM h 0)) [] [3, 12, 13, 14] [])), (6, (iB cz7 (zbd n f es) J2 μ2 (fun e h => (gI e 14, gN e 18, gF e 18, gS e 18, gI e 19, gI e 20, oM h 0)) [] [3, 12, 13, 14, 18, 19, 20] [])), (13, (bP jL zbe J3 μ3 (fun e h => (oN h 0, oS h 0, oR h 1, oQ h 1)) [(8, 3, 1)] [8, 34] []))]) h
end
def zbf (at_ x1 : Int) (n11_0 f11_0 : Bool) (s11_0 : LL) (n11_1 f11_1 : Bool) (s11_1 : LL) (n11_2 f11_2 : Bool) (s11_2 : LL) (n11_3 f11_3 : Bool) (s11_3 : LL) (x12 : Int) : Env × Hp := ([(0, Y6 at_), (1, Y6 x1), (11, .pv (.agg [.sl n11_0 f11_0 s11_0, .sl n11_1 f11_1 s11_1, .sl n11_2 f11_2 s11_2, .sl n11_3 f11_3 s11_3])), (12, Y6 x12)], [])
def zbg (at_ x1 : Int) (n11_0 f11_0 : Bool) (s11_0 : LL) (n11_1 f11_1 : Bool) (s11_1 : LL) (n11_2 f11_2 : Bool) (s11_2 : LL) (n11_3 f11_3 : Bool) (s11_3 : LL) (x12 : Int) (n15 f15 : Bool) (s15 : LL) (x16 x17 : Int) : Env × Hp := ([(0, Y6 at_), (1, Y6 x1), (11, .pv (.agg [.sl n11_0 f11_0 s11_0, .sl n11_1 f11_1 s11_1, .sl n11_2 f11_2 s11_2, .sl n11_3 f11_3 s11_3])), (12, Y6 x12), (15, .pv (.sl n15 f15 s15)), (16, Y6 x16), (17, Y6 x17)], [])
section
variable (at_ last : Int) (n0 f0 n1 f1 n2 f2 n3 f3 : Bool) (e0 e1 e2 e3 : LL) (J : Int -> Bool -> Bool -> LL -> Bool -> Bool -> LL -> Bool -> Bool -> LL -> Bool -> Bool -> LL -> Int -> Prop) (μ : Int -> Bool -> Bool -> LL -> Bool -> Bool -> LL -> Bool -> Bool -> LL -> Bool -> Bool -> LL -> Int -> Nat) (J2 : Int -> Bool -> Bool -> LL -> Bool -> Bool -> LL -> Bool -> Bool -> LL -> Bool -> Bool -> LL -> Int -> Bool -> Bool -> LL -> Int -> Int -> Int -> Bool -> Bool -> LL -> Bool -> Bool -> LL -> Bool -> Bool -> LL -> Bool -> Bool -> LL -> Int -> Bool -> Bool -> LL -> Int -> Int -> Prop) (μ2 : Int -> Bool -> Bool -> LL -> Bool -> Bool -> LL -> Bool -> Bool -> LL -> Bool -> Bool -> LL -> Int -> Bool -> Bool -> LL -> Int -> Int -> Nat)
def ziz (R : PV -> Prop) : Prop :=
 ∃ n f es, some (PV.sl n0 f0 e0) = some (PV.sl n f es) /\ ∃ n4 f4 es1, some (PV.sl n1 f1 e1) = some (PV.sl n4 f4 es1) /\ ∃ n5 f5 es2, some (PV.sl n2
  f2 e2) = some (PV.sl n5 f5 es2) /\ ∃ n6 f6 es3, some (PV.sl n3 f3 e3) = some (PV.sl n6 f6 es3) /\ (aH (zbf at_ last n f es n4 f4 es1 n5 f5 es2 n6 f6 es3 (0 : Int)) /\ J last n f es n4 f4 es1 n5 f5 es2 n6
  f6 es3 (0 : Int)) /\ ∀ (x1 : Int) (n11_0 f11_0 : Bool) (s11_0 : LL) (n11_1 f11_1 : Bool) (s11_1 : LL) (n11_2 f11_2 : Bool) (s11_2 : LL) (n11_3 f11_3 : Bool) (s11_3 : LL) (x12 : Int), J x1 n11_0 f11_0 s11_0 n11_1 f11_1 s11_1 n11_2 f11_2
  s11_2 n11_3 f11_3 s11_3 x12 -> if decide (x12 < 4) = true then ((0 : Int) <= x12 /\ x12 < (↑4 : Int) /\ x12.toNat * 1 + 1 <= 4) /\ ∃ n7 f7 es4, [PV.sl n11_0 f11_0 s11_0, PV.sl n11_1 f11_1 s11_1, PV.sl n11_2 f11_2
  s11_2, PV.sl n11_3 f11_3 s11_3].getD x12.toNat PV.unit = PV.sl n7 f7 es4 /\ (aH (zbg at_ x1 n11_0 f11_0 s11_0 n11_1 f11_1 s11_1 n11_2 f11_2 s11_2 n11_3 f11_3 s11_3 x12 n7 f7 es4 (↑es4.length : Int) (0 : Int)) /\ J2 x1 n11_0 f11_0
  s11_0 n11_1 f11_1 s11_1 n11_2 f11_2 s11_2 n11_3 f11_3 s11_3 x12 n7 f7 es4 (↑es4.length : Int) (0 : Int) x1 n11_0 f11_0 s11_0 n11_1 f11_1 s11_1 n11_2 f11_2 s11_2 n11_3 f11_3 s11_3 x12 n7 f7 es4 (↑es4.length : Int) (0 : Int)) /\ ∀ (x11 :
  Int) (n11_01 f11_01 : Bool) (s11_01 : LL) (n11_11 f11_11 : Bool) (s11_11 : LL) (n11_21 f11_21 : Bool) (s11_21 : LL) (n11_31 f11_31 : Bool) (s11_31 : LL) (x121 : Int) (n15 f15 : Bool) (s15 : LL) (x16 x17 : Int), J2 x1 n11_0 f11_0 s11_0
  n11_1 f11_1 s11_1 n11_2 f11_2 s11_2 n11_3 f11_3 s11_3 x12 n7 f7 es4 (↑es4.length : Int) (0 : Int) x11 n11_01 f11_01 s11_01 n11_11 f11_11 s11_11 n11_21 f11_21 s11_21 n11_31 f11_31 s11_31 x121 n15 f15 s15 x16 x17 ->
 let K5 := fun (y0_ : Int) (y1_ y2_ : Bool) (y3_ : LL) (y4_ y5_ : Bool) (y6_ : LL) (y7_ y8_ : Bool) (y9_ : LL) (y10_ y11_ : Bool) (y12_ : LL) (y13_ : Int) (y14_ y15_ : Bool) (y16_ : LL) (y17_ :
  Int) (y18_ : Int) => aH (zbg at_ y0_ y1_ y2_ y3_ y4_ y5_ y6_ y7_ y8_ y9_ y10_ y11_ y12_ y13_ y14_ y15_ y16_ y17_ y18_) /\ J2 x1 n11_0 f11_0 s11_0 n11_1 f11_1 s11_1 n11_2 f11_2 s11_2 n11_3 f11_3 s11_3 x12 n7 f7 es4 (↑es4.length : Int)
  (0 : Int) y0_ y1_ y2_ y3_ y4_ y5_ y6_ y7_ y8_ y9_ y10_ y11_ y12_ y13_ y14_ y15_ y16_ y17_ y18_ /\ μ2 y0_ y1_ y2_ y3_ y4_ y5_ y6_ y7_ y8_ y9_ y10_ y11_ y12_ y13_ y14_ y15_ y16_ y17_ y18_ < μ2 x11 n11_01 f11_01 s11_01 n11_11 f11_11 s11_11
  n11_21 f11_21 s11_21 n11_31 f11_31 s11_31 x121 n15 f15 s15 x16 x17; if decide (x17 < x16) = true then aF s15 x17 4 /\ ∃ n8, (s15.getD x17.toNat []).head? = some (Z6 n8) /\ ∃ n9, (s15.getD x17.toNat []).tail.head? = some
  (Z6 n9) /\ ∃ n10, (s15.getD x17.toNat []).tail.tail.head? = some (Z6 n10) /\ ∃ n11, (s15.getD x17.toNat []).tail.tail.tail.head? = some (Z6 n11) /\
 let V1 := K5 x11 n11_01 f11_01 s11_01 n11_11 f11_11 s11_11 n11_21 f11_21 s11_21 n11_31 f11_31 s11_31 x121 n15 f15 s15 x16 (i64.wrap (x17 + 1)); if decide (n8 > at_) = true then if decide (n8 <= x11) = true then K5 (i64.wrap
  (n8 - 1)) n11_01 f11_01 s11_01 n11_11 f11_11 s11_11 n11_21 f11_21 s11_21 n11_31 f11_31 s11_31 x121 n15 f15 s15 x16 (i64.wrap (x17 + 1)) else V1 else V1 else aH (zbf at_ x11 n11_01 f11_01 s11_01 n11_11 f11_11 s11_11 n11_21
  f11_21 s11_21 n11_31 f11_31 s11_31 (i64.wrap (x121 + 1))) /\ J x11 n11_01 f11_01 s11_01 n11_11 f11_11 s11_11 n11_21 f11_21 s11_21 n11_31 f11_31 s11_31 (i64.wrap (x121 + 1)) /\ μ x11 n11_01 f11_01 s11_01 n11_11 f11_11 s11_11
  n11_21 f11_21 s11_21 n11_31 f11_31 s11_31 (i64.wrap (x121 + 1)) < μ x1 n11_0 f11_0 s11_0 n11_1 f11_1 s11_1 n11_2 f11_2 s11_2 n11_3 f11_3 s11_3 x12 else R (Z6 x1)
theorem ztf {R : PV -> Prop} (h : ziz at_ last n0 f0 n1 f1 n2 f2 n3 f3 e0 e1 e2 e3 J μ J2 μ2 R) : PCall qa 59 [.int .i64 at_, .int .i64 last, .agg [.sl n0 f0 e0, .sl n1 f1 e1, .sl n2 f2 e2, .sl n3 f3 e3]] R :=
 PCall.wz Tryz.func59 aP [0, 1, 2, 5, 6, 8, 10, 11, 12, 13, 15, 16, 17, 18, 30] (iN [(2, (bP (fT cz6) (zbf at_) J μ (fun e h => (gI e 1, jH e 11 0, jI e 11 0, jJ e 11 0, jH e 11 1, jI e 11 1, jJ e 11 1, jH e 11 2, jI e 11 2, jJ e 11 2, jH e 11 3, jI e 11 3, jJ e 11 3, gI e 12)) [] [0, 1, 11, 12] [])), (5, (iB (fT (fT eC)) (zbg at_) J2 μ2 (fun e h => (gI e 1, jH e 11 0, jI e 11 0, jJ e 11 0, jH e 11 1, jI e 11 1, jJ e 11 1, jH e 11 2, jI e 11 2, jJ e 11 2, jH e 11 3, jI e 11 3, jJ e 11 3, gI e 12, gN e 15, gF e 15, gS e 15, gI e 16, gI e 17)) [] [0, 1, 11, 12, 15, 16, 17] []))]) h
end
def zbh (n f : Bool) (es : LL) (x17_0 x17_1 x17_2 x17_3 x18 : Int) (c_0 : List PV) : Env × Hp := ([(0, LV.pv (PV.sl n f es)), (4, LV.box 0 0), (17, .pv (.agg [.int i64 x17_0, .int i64 x17_1, .int i64 x17_2, .int i64 x17_3])), (18, Y6 x18)], [.arr c_0])
def zbi  (p4 : List PV) (n29 f29 : Bool) (s29 : LL) (x30 x31 : Int) (n_0 : Bool) (s_0 : LL) : Env × Hp := ([(4, .pv (.ptr p4)), (7, LV.own 0), (29, .pv (.sl n29 f29 s29)), (30, Y6 x30), (31, Y6 x31)], [.sl (114, 6) true n_0 s_0])
def wF  (p4 : List PV) (x9 x11 : Int) (n29 f29 : Bool) (s29 : LL) (x30 x31 : Int) (n35_0 f35_0 : Bool) (s35_0 : LL) (n35_1 f35_1 : Bool) (s35_1 : LL) (n35_2 f35_2 : Bool) (s35_2 : LL) (n35_3 f35_3 : Bool) (s35_3 : LL) (x36 : Int) (n_0 : Bool) (s_0 : LL) (c_1 : List PV) : Env × Hp := ([(4, .pv (.ptr p4)), (7, LV.own 0), (9, Y6 x9), (10, LV.box 1 0), (11, Y6 x11), (29, .pv (.sl n29 f29 s29)), (30, Y6 x30), (31, Y6 x31), (35, .pv (.agg [.sl n35_0 f35_0 s35_0, .sl n35_1 f35_1 s35_1, .sl n35_2 f35_2 s35_2, .sl n35_3 f35_3 s35_3])), (36, Y6 x36)], [.sl (114, 6) true n_0 s_0, .arr c_1])
section
variable (n f : Bool) (es : LL) (J : Int -> Int -> Int -> Int -> Int -> (List PV) -> Prop) (μ : Int -> Int -> Int -> Int -> Int -> (List PV) -> Nat) (J2 : (List PV) -> Bool -> Bool -> LL -> Int -> Int -> Bool -> LL -> Prop) (μ2 : (List PV) -> Bool -> Bool -> LL -> Int -> Int -> Bool -> LL -> Nat) (J3 : (List PV) -> Int -> Int -> Bool -> Bool -> LL -> Int -> Int -> Bool -> Bool -> LL -> Bool -> Bool -> LL -> Bool -> Bool -> LL -> Bool -> Bool -> LL -> Int -> Bool -> LL -> (List PV) -> (List PV) -> Int -> Int -> Bool -> Bool -> LL -> Int -> Int -> Bool -> Bool -> LL -> Bool -> Bool -> LL -> Bool -> Bool -> LL -> Bool -> Bool -> LL -> Int -> Bool -> LL -> (List PV) -> Prop) (μ3 : (List PV) -> Int -> Int -> Bool -> Bool -> LL -> Int -> Int -> Bool -> Bool -> LL -> Bool -> Bool -> LL -> Bool -> Bool -> LL -> Bool -> Bool -> LL -> Int -> Bool -> LL -> (List PV) -> Nat)
def zi0 (R : PV -> Prop) : Prop :=
 (4 = 4 /\ 4 <= 4) /\ ∃ n1, some (Z6 5) = some (Z6 n1) /\ ∃ n2, some (Z6 7) = some (Z6 n2) /\ ∃ n3, some (Z6 8) = some (Z6 n3) /\ ∃ n4, some (Z6 3) = some (Z6 n4) /\ (aH (zbh n f es n1 n2 n3 n4 (0 : Int) [PV.sl
  true true [], PV.sl true true [], PV.sl true true [], PV.sl true true []]) /\ J n1 n2 n3 n4 (0 : Int) [PV.sl true true [], PV.sl true true [], PV.sl true true [], PV.sl true true []]) /\ ∀ (x17_0 x17_1 x17_2 x17_3 x18 : Int) (c_0 : List
  PV), J x17_0 x17_1 x17_2 x17_3 x18 c_0 -> if decide (x18 < 4) = true then ((0 : Int) <= x18 /\ x18 < (↑4 : Int) /\ x18.toNat * 1 + 1 <= 4) /\ ∃ n5, [Z6 x17_0, Z6 x17_1, Z6 x17_2, Z6 x17_3].getD x18.toNat PV.unit = Z6 n5 /\ PCall
  qa 41 [PV.sl n f es, Z6 n5] fun v => ∃ n6 f1 es1, v = PV.sl n6 f1 es1 /\ ((0 : Int) <= x18 /\ x18 < (↑4 : Int)) /\ (1 = 1 /\ 0 + x18.toNat * 1 + 1 <= c_0.length) /\ aH (zbh n f es x17_0 x17_1
  x17_2 x17_3 (i64.wrap (x18 + 1)) (aT c_0 (0 + x18.toNat * 1) [PV.sl n6 f1 es1])) /\ J x17_0 x17_1 x17_2 x17_3 (i64.wrap (x18 + 1)) (aT c_0 (0 + x18.toNat * 1) [PV.sl n6 f1 es1]) /\ μ x17_0 x17_1 x17_2 x17_3
  (i64.wrap (x18 + 1)) (aT c_0 (0 + x18.toNat * (1 : Nat)) [PV.sl n6 f1 es1]) < μ x17_0 x17_1 x17_2 x17_3 x18 c_0 else (fO 4 none none none /\ c_0.length = 4) /\ PCall qa 57 [PV.sl false true [qbw 1 c_0, qbw 1
  (qb 1 c_0), qbw 1 (qb 1 (qb 1 c_0)), qbw 1 (qb 1 (qb 1 (qb 1 c_0)))]] fun v => ∃ n5 f1 es1, v = PV.sl n5 f1 es1 /\ (aH (zbi (qb 0 c_0)
  n5 f1 es1 (↑es1.length : Int) (0 : Int) true []) /\ J2 (qb 0 c_0) n5 f1 es1 (↑es1.length : Int) (0 : Int) true []) /\ ∀ (p4 : List PV) (n29 f29 : Bool) (s29 : LL) (x30 x31 : Int) (n_0 : Bool) (s_0 : LL), J2 p4 n29 f29 s29 x30 x31
  n_0 s_0 ->
 let K10 := fun (y0_ : List PV) (y1_ y2_ : Bool) (y3_ : LL) (y4_ y5_ : Int) (y6_ : Bool) (y7_ : LL) => aH (zbi y0_ y1_ y2_ y3_ y4_ y5_ y6_ y7_) /\ J2 y0_ y1_ y2_ y3_ y4_ y5_ y6_ y7_ /\ μ2 y0_ y1_ y2_ y3_ y4_ y5_ y6_ y7_
  < μ2 p4 n29 f29 s29 x30 x31 n_0 s_0; if decide (x31 < x30) = true then aF s29 x31 1 /\ ∃ n6, (s29.getD x31.toNat []).head? = some (Z6 n6) /\ ∃ n7 f2 es2, p4.head? = some (PV.sl n7 f2 es2) /\ ∃ (n8 :
  Bool), ∃ f3 es3, p4.tail.head? = some (PV.sl n8 f3 es3) /\ ∃ n9 f4 es4, p4.tail.tail.head? = some (PV.sl n9 f4 es4) /\ ∃ n10 f5 es5, p4.tail.tail.tail.head? =
  some (PV.sl n10 f5 es5) /\ (aH (wF p4 n6 (1114111 : Int) n29 f29 s29 x30 x31 n7 f2 es2 n8 f3 es3 n9 f4 es4 n10 f5 es5 (0 : Int) n_0 s_0 [Zb false, Zb false, Zb false, Zb false]) /\ J3 p4 n6 (1114111 : Int) n29 f29 s29 x30 x31 n7 f2
  es2 n8 f3 es3 n9 f4 es4 n10 f5 es5 (0 : Int) n_0 s_0 [Zb false, Zb false, Zb false, Zb false] p4 n6 (1114111 : Int) n29 f29 s29 x30 x31 n7 f2 es2 n8 f3 es3 n9 f4 es4 n10 f5 es5 (0 : Int) n_0 s_0 [Zb false, Zb false, Zb false, Zb false])
  /\ ∀ (p41 : List PV) (x9 x11 : Int) (n291 f291 : Bool) (s291 : LL) (x301 x311 : Int) (n35_0 f35_0 : Bool) (s35_0 : LL) (n35_1 f35_1 : Bool) (s35_1 : LL) (n35_2 f35_2 : Bool) (s35_2 : LL) (n35_3 f35_3 : Bool) (s35_3 : LL) (x36 : Int) (n_01
  : Bool) (s_01 : LL) (c_1 : List PV), J3 p4 n6 (1114111 : Int) n29 f29 s29 x30 x31 n7 f2 es2 n8 f3 es3 n9 f4 es4 n10 f5 es5 (0 : Int) n_0 s_0 [Zb false, Zb false, Zb false, Zb false] p41 x9 x11 n291 f291 s291 x301 x311 n35_0 f35_0 s35_0
  n35_1 f35_1 s35_1 n35_2 f35_2 s35_2 n35_3 f35_3 s35_3 x36 n_01 s_01 c_1 ->
 let K15 := fun (y0_ : List PV) (y1_ y2_ : Int) (y3_ y4_ : Bool) (y5_ : LL) (y6_ y7_ : Int) (y8_ y9_ : Bool) (y10_ : LL) (y11_ y12_ : Bool) (y13_ : LL) (y14_ y15_ : Bool) (y16_ : LL) (y17_
  : Bool) (y18_ : Bool) (y19_ : LL) (y20_ : Int) (y21_ : Bool) (y22_ : LL) (y23_ : List PV) => aH (wF y0_ y1_ y2_ y3_ y4_ y5_ y6_ y7_ y8_ y9_ y10_ y11_ y12_ y13_ y14_ y15_ y16_ y17_ y18_ y19_ y20_ y21_ y22_ y23_) /\ J3 p4 n6 (1114111
  : Int) n29 f29 s29 x30 x31 n7 f2 es2 n8 f3 es3 n9 f4 es4 n10 f5 es5 (0 : Int) n_0 s_0 [Zb false, Zb false, Zb false, Zb false] y0_ y1_ y2_ y3_ y4_ y5_ y6_ y7_ y8_ y9_ y10_ y11_ y12_ y13_ y14_ y15_ y16_ y17_ y18_ y19_ y20_ y21_ y22_ y23_
  /\ μ3 y0_ y1_ y2_ y3_ y4_ y5_ y6_ y7_ y8_ y9_ y10_ y11_ y12_ y13_ y14_ y15_ y16_ y17_ y18_ y19_ y20_ y21_ y22_ y23_ < μ3 p41 x9 x11 n291 f291 s291 x301 x311 n35_0 f35_0 s35_0 n35_1 f35_1 s35_1 n35_2 f35_2 s35_2 n35_3 f35_3 s35_3 x36 n_01
  s_01 c_1; if decide (x36 < 4) = true then ((0 : Int) <= x36 /\ x36 < (↑4 : Int) /\ x36.toNat * 1 + 1 <= 4) /\ ∃ n11 f6 es6, [PV.sl n35_0 f35_0 s35_0, PV.sl n35_1 f35_1 s35_1, PV.sl n35_2 f35_2 s35_2, PV.sl n35_3
  f35_3 s35_3].getD x36.toNat PV.unit = PV.sl n11 f6 es6 /\ PCall qa 58 [PV.sl n11 f6 es6, Z3 (i32.wrap x9)] fun v1 => ∃ vs, v1 = PV.tup vs /\ vs.length = 2 /\ ∃ x, vs.head? = some x /\ ∃ (cs : List PV),
  x = PV.agg cs /\ cs.length = 4 /\ ∃ n12, cs.head? = some (Z6 n12) /\ ∃ n13, cs.tail.head? = some (Z6 n13) /\ ∃ n14, cs.tail.tail.head? = some (Z6 n14) /\ ∃ n15, cs.tail.tail.tail.head? = some (Z6 n15) /\ ∃ (x1 :
  PV), vs.tail.head? = some x1 /\ ∃ b, x1 = Zb b /\ if b = true then ((0 : Int) <= x36 /\ x36 < (↑4 : Int)) /\ (1 = 1 /\ 0 + x36.toNat * 1 + 1 <= c_1.length) /\ if b = true then aH (wF p41 x9 (if n13 < x11 then n13 else x11) n291
  f291 s291 x301 x311 n35_0 f35_0 s35_0 n35_1 f35_1 s35_1 n35_2 f35_2 s35_2 n35_3 f35_3 s35_3 (i64.wrap (x36 + 1)) n_01 s_01 (aT c_1 (0 + x36.toNat * (1 : Nat)) [Zb (n14 == 1)])) /\ J3 p4 n6 (1114111 : Int) n29 f29 s29 x30 x31 n7
  f2 es2 n8 f3 es3 n9 f4 es4 n10 f5 es5 (0 : Int) n_0 s_0 [Zb false, Zb false, Zb false, Zb false] p41 x9 (if n13 < x11 then n13 else x11) n291 f291 s291 x301 x311 n35_0 f35_0 s35_0 n35_1 f35_1 s35_1 n35_2 f35_2 s35_2 n35_3 f35_3 s35_3
  (i64.wrap (x36 + 1)) n_01 s_01 (aT c_1 (0 + x36.toNat * (1 : Nat)) [Zb (n14 == 1)]) /\ μ3 p41 x9 (if n13 < x11 then n13 else x11) n291 f291 s291 x301 x311 n35_0 f35_0 s35_0 n35_1 f35_1 s35_1 n35_2 f35_2 s35_2 n35_3 f35_3 s35_3
  (i64.wrap (x36 + 1)) n_01 s_01 (aT c_1 ((0 : Nat) + x36.toNat * 1) [Zb (n14 == 1)]) < μ3 p41 x9 x11 n291 f291 s291 x301 x311 n35_0 f35_0 s35_0 n35_1 f35_1 s35_1 n35_2 f35_2 s35_2 n35_3 f35_3 s35_3 x36 n_01 s_01 c_1 else K15 p41
  x9 x11 n291 f291 s291 x301 x311 n35_0 f35_0 s35_0 n35_1 f35_1 s35_1 n35_2 f35_2 s35_2 n35_3 f35_3 s35_3 (i64.wrap (x36 + 1)) n_01 s_01 (aT c_1 (0 + x36.toNat * 1) [Zb (n14 == 1)]) else ((0 : Int) <= x36 /\ x36 < (↑4 : Int)) /\ (1 =
  1 /\ 0 + x36.toNat * 1 + 1 <= c_1.length) /\ if b = true then K15 p41 x9 (if n13 < x11 then n13 else x11) n291 f291 s291 x301 x311 n35_0 f35_0 s35_0 n35_1 f35_1 s35_1 n35_2 f35_2 s35_2 n35_3 f35_3 s35_3 (i64.wrap (x36 + 1)) n_01
  s_01 (aT c_1 (0 + x36.toNat * 1) [Zb false]) else K15 p41 x9 x11 n291 f291 s291 x301 x311 n35_0 f35_0 s35_0 n35_1 f35_1 s35_1 n35_2 f35_2 s35_2 n35_3 f35_3 s35_3 (i64.wrap (x36 + 1)) n_01 s_01 (aT c_1 (0 + x36.toNat * 1) [Zb
  false]) else ∃ b, (qb 0 c_1).head? = some (Zb b) /\ ∃ b1, (qb 0 c_1).tail.head? = some (Zb b1) /\ ∃ b2, (qb 0 c_1).tail.tail.head? = some (Zb b2) /\ ∃ b3, (qb 0
  c_1).tail.tail.tail.head? = some (Zb b3) /\ if (bif false then b == false && (b1 == false && (b2 == false && (b3 == false && true))) else !(b == false && (b1 == false && (b2 == false && (b3 == false && true))))) = true then ∃ (n11 :
  Bool), ∃ f6 es6, p41.head? = some (PV.sl n11 f6 es6) /\ ∃ n12 f7 es7, p41.tail.head? = some (PV.sl n12 f7 es7) /\ ∃ n13 f8 es8, p41.tail.tail.head? = some
  (PV.sl n13 f8 es8) /\ ∃ n14 f9 es9, p41.tail.tail.tail.head? = some (PV.sl n14 f9 es9) /\ ((0 : Int) <= 0 /\ (0 : Int) < (↑4 : Int)) /\ ∃ b4, (qb 0 c_1).head? = some (Zb b4) /\ ((0 : Int) <= 1 /\ (1
  : Int) < (↑4 : Int)) /\ ∃ b5, (qb 1 c_1).head? = some (Zb b5) /\ ((0 : Int) <= 2 /\ (2 : Int) < (↑4 : Int)) /\ ∃ b6, (qb 2 c_1).head? = some (Zb b6) /\ ((0 : Int) <= 3 /\ (3 : Int) < (↑4 : Int)) /\ ∃ (b7 : Bool),
  (qb 3 c_1).head? = some (Zb b7) /\ PCall qa 59 [Z6 x9, Z6 x11, PV.agg [PV.sl n11 f6 es6, PV.sl n12 f7 es7, PV.sl n13 f8 es8, PV.sl n14 f9 es9]] fun v1 => ∃ n15, v1 = Z6 n15 /\ (aR [[Z6 x9, Z6 n15, Zb b4, Zb
  b5, Zb b6, Zb b7]] 6 /\ (s_01.length + 1) * 24 <= 140737488355328) /\ K10 p41 n291 f291 s291 x301 (i64.wrap (x311 + 1)) (n_01 && false) (s_01 ++ [[Z6 x9, Z6 n15, Zb b4, Zb b5, Zb b6, Zb b7]]) else K10 p41 n291 f291 s291 x301
  (i64.wrap (x311 + 1)) n_01 s_01 else PCall qa 60 [Z6 1114112, PV.agg [Zb false, Zb false, Zb false, Zb false], PV.sl n_0 false s_0] fun v1 => R v1
theorem ztg {R : PV -> Prop} (h : zi0 n f es J μ J2 μ2 J3 μ3 R) : PCall qa 40 [.sl n f es] R :=
 PCall.wz Tryz.func40 aP [0, 2, 3, 4, 5, 6, 7, 9, 10, 11, 12, 13, 14, 15, 17, 18, 19, 29, 30, 31, 32, 35, 36, 37, 55, 63] (iN [(4, (bP cz6 (zbh n f es) J μ (fun e h => (gC e 17 0, gC e 17 1, gC e 17 2, gC e 17 3, gI e 18, oA h 0)) [] [0, 4, 17, 18] [])), (10, (bP cz8 zbi J2 μ2 (fun e h => (gR e 4, gN e 29, gF e 29, gS e 29, gI e 30, gI e 31, oN h 0, oS h 0)) [(7, 114, 6)] [4, 7, 29, 30, 31] [])), (15, (iB (fT (fT cz8)) wF J3 μ3 (fun e h => (gR e 4, gI e 9, gI e 11, gN e 29, gF e 29, gS e 29, gI e 30, gI e 31, jH e 35 0, jI e 35 0, jJ e 35 0, jH e 35 1, jI e 35 1, jJ e 35 1, jH e 35 2, jI e 35 2, jJ e 35 2, jH e 35 3, jI e 35 3, jJ e 35 3, gI e 36, oN h 0, oS h 0, oA h 1)) [] [4, 7, 9, 10, 11, 29, 30, 31, 35, 36] []))]) h
end
section
variable (tc tg tj tf tp : PV) (M S : List (PV × PV)) (r : Int)
def zi1 (R : PV -> Prop) : Prop :=
 (∃ ps, some tc = some (PV.ptr ps) /\ PCall qa 94 [PV.ptr ps, Z6 (i64.wrap r)] fun v => ∃ n, v = Z6 n /\ R (Z6 n)) ∨ some tc = some PV.nilp /\ PCall qa 94 [PV.nilp, Z6 (i64.wrap r)] fun v => ∃ n, v = Z6 n /\ R (Z6 n)
theorem zth {R : PV -> Prop} (h : zi1 tc r R) : PCall qa 71 [.ptr [tc, tg, tj, tf, tp, .mp M, .mp S], .int .i32 r] R :=
 PCall.wz Tryz.func71 aP [0, 1, 4, 6] bF h
end
section
variable (tc tg tj tf tp : PV) (M S : List (PV × PV)) (r : Int)
def zi2 (R : PV -> Prop) : Prop :=
 (∃ ps, some tp = some (PV.ptr ps) /\ PCall qa 43 [PV.ptr ps, Z6 (i64.wrap r)] fun v => ∃ cs, v = PV.agg cs /\ cs.length = 2 /\ ∃ n, cs.head? = some (Z3 n) /\ ∃ n1, cs.tail.head? = some (Z3 n1) /\ R (PV.tup [Z3 n, Z3 n1, Zb (bif false then n == 0 && (n1 == 0 && true) else !(n == 0 && (n1 == 0 && true)))])) ∨ some tp = some PV.nilp /\ PCall qa 43 [PV.nilp, Z6 (i64.wrap r)] fun v => ∃ cs, v = PV.agg cs /\ cs.length = 2 /\ ∃ n, cs.head? = some (Z3 n) /\ ∃ n1, cs.tail.head? = some (Z3 n1) /\ R (PV.tup [Z3 n, Z3 n1, Zb (bif false then n == 0 && (n1 == 0 && true) else !(n == 0 && (n1 == 0 && true)))])
theorem zti {R : PV -> Prop} (h : zi2 tp r R) : PCall qa 69 [.ptr [tc, tg, tj, tf, tp, .mp M, .mp S], .int .i32 r] R :=
 PCall.wz Tryz.func69 aP [0, 1, 4, 5, 6, 7, 9] bF h
end
section
variable (tc tg tj tf tp : PV) (M S : List (PV × PV)) (r : Int)
def zi3 (R : PV -> Prop) : Prop :=
 PCall qa 69 [PV.ptr [tc, tg, tj, tf, tp, PV.mp M, PV.mp S], Z3 r] fun v => ∃ vs, v = PV.tup vs /\ vs.length = 3 /\ ∃ x, vs.head? = some x /\ ∃ n, x = Z3 n /\ ∃ x1, vs.tail.head? = some x1 /\ ∃ (n1
  : Int), x1 = Z3 n1 /\ ∃ x2, vs.tail.tail.head? = some x2 /\ ∃ b, x2 = Zb b /\ if b = true then if (n1 == 0) = true then R (Zb true) else
 let V1 := PCall qa 71 [PV.ptr [tc, tg, tj, tf, tp, PV.mp M, PV.mp S], Z3 r] fun v2 => ∃ n2, v2 = Z6 n2 /\ if (n2 != 0) = true then R (Zb true) else PCall qa 71 [PV.ptr [tc, tg, tj, tf, tp, PV.mp M, PV.mp S], Z3
  n] fun v3 => ∃ n3, v3 = Z6 n3 /\ R (Zb (n3 != 0)); (∃ ps, some tf = some (PV.ptr ps) /\ PCall qa 70 [PV.ptr ps, Z6 (i64.wrap r)] fun v1 => ∃ cs, v1 = PV.agg cs /\ cs.length = 4 /\ ∃
  (b1 : Bool), cs.head? = some (Zb b1) /\ ∃ b2, cs.tail.head? = some (Zb b2) /\ ∃ b3, cs.tail.tail.head? = some (Zb b3) /\ ∃ b4, cs.tail.tail.tail.head? = some (Zb b4) /\ if b4 = true then R (Zb true) else V1) ∨ some
  tf = some PV.nilp /\ PCall qa 70 [PV.nilp, Z6 (i64.wrap r)] fun v1 => ∃ cs, v1 = PV.agg cs /\ cs.length = 4 /\ ∃ b1, cs.head? = some (Zb b1) /\ ∃ b2, cs.tail.head? = some (Zb b2) /\ ∃ (b3 :
  Bool), cs.tail.tail.head? = some (Zb b3) /\ ∃ b4, cs.tail.tail.tail.head? = some (Zb b4) /\ if b4 = true then R (Zb true) else V1 else R (Zb false)
theorem ztj {R : PV -> Prop} (h : zi3 tc tg tj tf tp M S r R) : PCall qa 44 [.ptr [tc, tg, tj, tf, tp, .mp M, .mp S], .int .i32 r] R :=
 PCall.wz Tryz.func44 aP [0, 1, 4, 5, 6, 7] bF h
end
section
variable (tc tg tj tf tp : PV) (M S : List (PV × PV)) (a b : Int)
def zi4 (R : PV -> Prop) : Prop :=
 if (b == 0) = true then R (PV.tup [Z3 0, Zb false]) else (∃ (kvs : List (PV × PV)), some (PV.mp M) = some (PV.mp kvs) /\ c8 qa 81 kvs /\ bJ qa 81 (PV.agg [Z3 a, Z3 b]) = true /\ (∀ (v : PV), cT (PV.agg [Z3 a, Z3 b]) kvs = some v -> ∃ n, v = Z3 n /\ R (PV.tup [Z3 n, Zb true])) /\ (cT (PV.agg [Z3 a, Z3 b]) kvs = none -> R (PV.tup [Z3 0, Zb false]))) ∨ some (PV.mp M) = some PV.nilm /\ c8 qa 81 [] /\ bJ qa 81 (PV.agg [Z3 a, Z3 b]) = true /\ (∀ (v : PV), cT (PV.agg [Z3 a, Z3 b]) [] = some v -> ∃ n, v = Z3 n /\ R (PV.tup [Z3 n, Zb true])) /\ (cT (PV.agg [Z3 a, Z3 b]) [] = none -> R (PV.tup [Z3 0, Zb false]))
theorem ztk {R : PV -> Prop} (h : zi4 M a b R) : PCall qa 107 [.ptr [tc, tg, tj, tf, tp, .mp M, .mp S], .int .i32 a, .int .i32 b] R :=
 PCall.wz Tryz.func107 aP [0, 1, 2, 6, 7, 8, 9, 15] bF h
end
def zbj  (n5 f5 : Bool) (s5 : LL) (n28 f28 : Bool) (s28 : LL) (x29 x30 : Int) (h0_0 h0_1 h0_2 h0_3 : PV) (n_1 : Bool) (s_1 : LL) (m_2 : List (PV × PV)) (m_3 : List (PV × PV)) : Env × Hp := ([(3, LV.box 0 0), (4, LV.own 1), (5, .pv (.sl n5 f5 s5)), (28, .pv (.sl n28 f28 s28)), (29, Y6 x29), (30, Y6 x30)], [.box [.pv h0_0, .pv h0_1, .pv h0_2, .pv h0_3, LV.pv PV.nilp, LV.mp 2, LV.mp 3], .sl (83, 4) true n_1 s_1, .mp m_2, .mp m_3])
def zbk  (n56 f56 : Bool) (s56 : LL) (x57 x58 : Int) (h0_0 h0_1 h0_2 h0_3 h0_4 : PV) (m_1 : List (PV × PV)) (m_2 : List (PV × PV)) : Env × Hp := ([(3, LV.box 0 0), (56, .pv (.sl n56 f56 s56)), (57, Y6 x57), (58, Y6 x58)], [.box [.pv h0_0, .pv h0_1, .pv h0_2, .pv h0_3, .pv h0_4, LV.mp 1, LV.mp 2], .mp m_1, .mp m_2])
def zbl  (x10 : Int) (n56 f56 : Bool) (s56 : LL) (x57 x58 : Int) (h0_0 h0_1 h0_2 h0_3 h0_4 : PV) (h1_0 h1_1 h1_2 h1_3 : Int) (m_2 : List (PV × PV)) (m_3 : List (PV × PV)) : Env × Hp := ([(3, LV.box 0 0), (9, LV.box 1 0), (10, .pv (.int i32 x10)), (56, .pv (.sl n56 f56 s56)), (57, Y6 x57), (58, Y6 x58)], [.box [.pv h0_0, .pv h0_1, .pv h0_2, .pv h0_3, .pv h0_4, LV.mp 2, LV.mp 3], .box [Y6 h1_0, Y6 h1_1, Y6 h1_2, Y6 h1_3], .mp m_2, .mp m_3])
section
variable (n f : Bool) (es : LL) (J : Bool -> Bool -> LL -> Bool -> Bool -> LL -> Int -> Int -> PV -> PV -> PV -> PV -> Bool -> LL -> (List (PV × PV)) -> (List (PV × PV)) -> Prop) (μ : Bool -> Bool -> LL -> Bool -> Bool -> LL -> Int -> Int -> PV -> PV -> PV -> PV -> Bool -> LL -> (List (PV × PV)) -> (List (PV × PV)) -> Nat) (J2 : Bool -> Bool -> LL -> Int -> Int -> PV -> PV -> PV -> PV -> PV -> (List (PV × PV)) -> (List (PV × PV)) -> Prop) (μ2 : Bool -> Bool -> LL -> Int -> Int -> PV -> PV -> PV -> PV -> PV -> (List (PV × PV)) -> (List (PV × PV)) -> Nat) (J3 : Int -> Bool -> Bool -> LL -> Int -> Int -> PV -> PV -> PV -> PV -> PV -> Int -> Int -> Int -> Int -> (List (PV × PV)) -> (List (PV × PV)) -> Int -> Bool -> Bool -> LL -> Int -> Int -> PV -> PV -> PV -> PV -> PV -> Int -> Int -> Int -> Int -> (List (PV × PV)) -> (List (PV × PV)) -> Prop) (μ3 : Int -> Bool -> Bool -> LL -> Int -> Int -> PV -> PV -> PV -> PV -> PV -> Int -> Int -> Int -> Int -> (List (PV × PV)) -> (List (PV × PV)) -> Nat)
def zi5 (R : PV -> Prop) : Prop :=
 PCall qa 39 [PV.sl n f es, Z6 1] fun v => PCall qa 39 [PV.sl n f es, Z6 4] fun v1 => PCall qa 39 [PV.sl n f es, Z6 6] fun v2 => PCall qa 40 [PV.sl n f es] fun v3 => fZ v = true /\ fZ
  v1 = true /\ fZ v2 = true /\ fZ v3 = true /\ PCall qa 41 [PV.sl n f es, Z6 2] fun v4 => ∃ n1 f1 es1, v4 = PV.sl n1 f1 es1 /\ (aH (zbj n1 f1 es1 n1 f1 es1 (↑es1.length : Int) (0 : Int) v
  v1 v2 v3 true [] [] []) /\ J n1 f1 es1 n1 f1 es1 (↑es1.length : Int) (0 : Int) v v1 v2 v3 true [] [] []) /\ ∀ (n5 f5 : Bool) (s5 : LL) (n28 f28 : Bool) (s28 : LL) (x29 x30 : Int) (h0_0 h0_1 h0_2 h0_3 : PV) (n_1 : Bool) (s_1 : LL) (m_2 m_3
  : List (PV × PV)), J n5 f5 s5 n28 f28 s28 x29 x30 h0_0 h0_1 h0_2 h0_3 n_1 s_1 m_2 m_3 -> if decide (x30 < x29) = true then aF s28 x30 4 /\ ∃ n2, (s28.getD x30.toNat []).head? = some (Z6 n2) /\ ∃ n3, (s28.getD x30.toNat
  []).tail.head? = some (Z6 n3) /\ ∃ n4, (s28.getD x30.toNat []).tail.tail.head? = some (Z6 n4) /\ ∃ n6, (s28.getD x30.toNat []).tail.tail.tail.head? = some (Z6 n6) /\ (aR [[Z6 n2, Z6 n3, Z3 (i32.wrap n4), Z3
  (i32.wrap n6)]] 4 /\ (s_1.length + 1) * 24 <= 140737488355328) /\ aH (zbj n5 f5 s5 n28 f28 s28 x29 (i64.wrap (x30 + 1)) h0_0 h0_1 h0_2 h0_3 (n_1 && false) (s_1 ++ [[Z6 n2, Z6 n3, Z3 (i32.wrap n4), Z3
  (i32.wrap n6)]]) m_2 m_3) /\ J n5 f5 s5 n28 f28 s28 x29 (i64.wrap (x30 + 1)) h0_0 h0_1 h0_2 h0_3 (n_1 && false) (s_1 ++ [[Z6 n2, Z6 n3, Z3 (i32.wrap n4), Z3 (i32.wrap n6)]]) m_2 m_3 /\ μ n5 f5 s5 n28 f28 s28
  x29 (i64.wrap (x30 + 1)) h0_0 h0_1 h0_2 h0_3 (n_1 && false) (s_1 ++ [[Z6 n2, Z6 n3, Z3 (i32.wrap n4), Z3 (i32.wrap n6)]]) m_2 m_3 < μ n5 f5 s5 n28 f28 s28 x29 x30 h0_0 h0_1 h0_2 h0_3 n_1 s_1 m_2 m_3 else PCall
  qa 42 [Z6 1114112, PV.agg [Z3 0, Z3 0], PV.sl n_1 false s_1] fun v5 => fZ v5 = true /\ (aH (zbk n5 f5 s5 (↑s5.length : Int) (0 : Int) h0_0 h0_1 h0_2 h0_3 v5 m_2 m_3) /\ J2 n5 f5 s5 (↑s5.length : Int) (0 : Int) h0_0
  h0_1 h0_2 h0_3 v5 m_2 m_3) /\ ∀ (n56 f56 : Bool) (s56 : LL) (x57 x58 : Int) (h0_01 h0_11 h0_21 h0_31 h0_4 : PV) (m_1 m_21 : List (PV × PV)), J2 n56 f56 s56 x57 x58 h0_01 h0_11 h0_21 h0_31 h0_4 m_1 m_21 -> if decide (x58 < x57) = true then
  aF s56 x58 4 /\ ∃ n2, (s56.getD x58.toNat []).head? = some (Z6 n2) /\ ∃ n3, (s56.getD x58.toNat []).tail.head? = some (Z6 n3) /\ ∃ n4, (s56.getD x58.toNat []).tail.tail.head? = some (Z6 n4) /\ ∃ (n6 : Int),
  (s56.getD x58.toNat []).tail.tail.tail.head? = some (Z6 n6) /\ (aH (zbl (i32.wrap n2) n56 f56 s56 x57 x58 h0_01 h0_11 h0_21 h0_31 h0_4 n2 n3 n4 n6 m_1 m_21) /\ J3 (i32.wrap n2) n56 f56 s56 x57 x58 h0_01 h0_11 h0_21
  h0_31 h0_4 n2 n3 n4 n6 m_1 m_21 (i32.wrap n2) n56 f56 s56 x57 x58 h0_01 h0_11 h0_21 h0_31 h0_4 n2 n3 n4 n6 m_1 m_21) /\ ∀ (x10 : Int) (n561 f561 : Bool) (s561 : LL) (x571 x581 : Int) (h0_02 h0_12 h0_22 h0_32 h0_41 : PV) (h1_0 h1_1
  h1_2 h1_3 : Int) (m_22 m_31 : List (PV × PV)), J3 (i32.wrap n2) n56 f56 s56 x57 x58 h0_01 h0_11 h0_21 h0_31 h0_4 n2 n3 n4 n6 m_1 m_21 x10 n561 f561 s561 x571 x581 h0_02 h0_12 h0_22 h0_32 h0_41 h1_0 h1_1 h1_2 h1_3 m_22 m_31 ->
 let K14 := fun (y0_ : Int) (y1_ y2_ : Bool) (y3_ : LL) (y4_ y5_ : Int) (y6_ y7_ y8_ y9_ y10_ : PV) (y11_ y12_ y13_ y14_ : Int) (y15_ : List (PV × PV)) (y16_ : List (PV ×
  PV)) => aH (zbl y0_ y1_ y2_ y3_ y4_ y5_ y6_ y7_ y8_ y9_ y10_ y11_ y12_ y13_ y14_ y15_ y16_) /\ J3 (i32.wrap n2) n56 f56 s56 x57 x58 h0_01 h0_11 h0_21 h0_31 h0_4 n2 n3 n4 n6 m_1 m_21 y0_ y1_ y2_ y3_ y4_ y5_ y6_ y7_ y8_ y9_
  y10_ y11_ y12_ y13_ y14_ y15_ y16_ /\ μ3 y0_ y1_ y2_ y3_ y4_ y5_ y6_ y7_ y8_ y9_ y10_ y11_ y12_ y13_ y14_ y15_ y16_ < μ3 x10 n561 f561 s561 x571 x581 h0_02 h0_12 h0_22 h0_32 h0_41 h1_0 h1_1 h1_2 h1_3 m_22 m_31; if decide (i64.wrap
  x10 <= h1_1) = true then PCall qa 43 [h0_41, Z6 (i64.wrap x10)] fun v6 => ∃ cs, v6 = PV.agg cs /\ cs.length = 2 /\ ∃ n7, cs.head? = some (Z3 n7) /\ ∃ n8, cs.tail.head? = some (Z3 n8) /\ c8
  qa 81 m_22 /\ bJ qa 81 (PV.agg [Z3 n7, Z3 n8]) = true /\
 let V1 := K14 (i32.wrap (x10 + 1)) n561 f561 s561 x571 x581 h0_02 h0_12 h0_22 h0_32 h0_41 h1_0 h1_1 h1_2 h1_3 m_22 m_31; (∀ (v7 : PV), cT (PV.agg [Z3 n7, Z3 n8]) m_22 = some v7 -> ∃ n9, v7 = Z3 n9 /\ V1) /\ (cT (PV.agg
  [Z3 n7, Z3 n8]) m_22 = none -> PCall qa 44 [PV.ptr [h0_02, h0_12, h0_22, h0_32, h0_41, PV.mp m_22, PV.mp m_31], Z3 x10] fun v7 => ∃ b, v7 = Zb b /\ true = true /\ if (!b) = true then
 let V2 := ((0 : Int) <= (↑(fE (PV.agg [Z3 n7, Z3 n8]) m_22) : Int) /\ (↑(fE (PV.agg [Z3 n7, Z3 n8]) m_22) : Int).toNat < (bX (PV.agg [Z3 n7, Z3 n8]) (gG (PV.agg [Z3 n7, Z3 n8]) (Z3 0) m_22) m_22).length) /\ lW .i32 m_31 /\
  ((0 : Int) <= (↑(fE (Z3 n8) m_31) : Int) /\ (↑(fE (Z3 n8) m_31) : Int).toNat < (bX (Z3 n8) (gG (Z3 n8) (Zb false) m_31) m_31).length) /\ K14 (i32.wrap (x10 + 1)) n561 f561 s561 x571 x581 h0_02 h0_12 h0_22 h0_32 h0_41
  h1_0 h1_1 h1_2 h1_3 (kL (↑(fE (PV.agg [Z3 n7, Z3 n8]) m_22) : Int).toNat (Z3 x10) (bX (PV.agg [Z3 n7, Z3 n8]) (gG (PV.agg [Z3 n7, Z3 n8]) (Z3 0) m_22) m_22)) (kL (↑(fE (Z3 n8) m_31) : Int).toNat (Zb true) (bX
  (Z3 n8) (gG (Z3 n8) (Zb false) m_31) m_31)); (c8 qa 81 m_22 /\ bJ qa 81 (PV.agg [Z3 n7, Z3 n8]) = true /\ V2) /\ c8 qa 81 m_22 /\ bJ qa 81 (PV.agg [Z3 n7, Z3 n8]) = true /\ V2 /\ V2 else V1) else
  aH (zbk n561 f561 s561 x571 (i64.wrap (x581 + 1)) h0_02 h0_12 h0_22 h0_32 h0_41 m_22 m_31) /\ J2 n561 f561 s561 x571 (i64.wrap (x581 + 1)) h0_02 h0_12 h0_22 h0_32 h0_41 m_22 m_31 /\ μ2 n561 f561 s561 x571
  (i64.wrap (x581 + 1)) h0_02 h0_12 h0_22 h0_32 h0_41 m_22 m_31 < μ2 n56 f56 s56 x57 x58 h0_01 h0_11 h0_21 h0_31 h0_4 m_1 m_21 else R (PV.ptr [h0_01, h0_11, h0_21, h0_31, h0_4, PV.mp m_1, PV.mp m_21])
theorem ztl {R : PV -> Prop} (h : zi5 n f es J μ J2 μ2 J3 μ3 R) : PCall qa 10 [.sl n f es] R :=
 PCall.wz Tryz.func10 aP [0, 2, 3, 4, 5, 7, 9, 10, 11, 13, 28, 29, 30, 31, 56, 57, 58, 59, 69, 95] (iN [(5, (bP (fT cz8) zbj J μ (fun e h => (gN e 5, gF e 5, gS e 5, gN e 28, gF e 28, gS e 28, gI e 29, gI e 30, hP h 0 0, hP h 0 1, hP h 0 2, hP h 0 3, oN h 1, oS h 1, oM h 2, oM h 3)) [(4, 83, 4)] [3, 4, 5, 28, 29, 30] [])), (11, (bP (fT jL) zbk J2 μ2 (fun e h => (gN e 56, gF e 56, gS e 56, gI e 57, gI e 58, hP h 0 0, hP h 0 1, hP h 0 2, hP h 0 3, hP h 0 4, oM h 1, oM h 2)) [] [3, 56, 57, 58] [])), (14, (iB (fT cz9) zbl J3 μ3 (fun e h => (gI e 10, gN e 56, gF e 56, gS e 56, gI e 57, gI e 58, hP h 0 0, hP h 0 1, hP h 0 2, hP h 0 3, hP h 0 4, hI h 1 0, hI h 1 1, hI h 1 2, hI h 1 3, oM h 2, oM h 3)) [] [3, 9, 10, 56, 57, 58] []))]) h
end
def zbm (n1 : Bool) (es : LL) (x10 h1_0 h1_1 h1_2 h1_3 : Int) (n_2 : Bool) (s_2 : LL) : Env × Hp := ([(2, LV.box 1 0), (5, LV.own 2), (8, LV.own 0), (9, LV.pv (PV.int i64 (es.length : Int))), (10, Y6 x10)], [.sl (79, 4) false n1 es, .box [Y6 h1_0, Y6 h1_1, Y6 h1_2, Y6 h1_3], .sl (79, 4) true n_2 s_2])
section
variable (a b c d : Int) (n1 : Bool) (es : LL) (J : Int -> Int -> Int -> Int -> Int -> Bool -> LL -> Prop) (μ : Int -> Int -> Int -> Int -> Int -> Bool -> LL -> Nat)
def zi6 (R : LV -> Hp -> Prop) : Prop :=
 (aH (zbm n1 es (0 : Int) a b c d true []) /\ J (0 : Int) a b c d true []) /\ ∀ (x10 h1_0 h1_1 h1_2 h1_3 : Int) (n_2 : Bool) (s_2 : LL), J x10 h1_0 h1_1 h1_2 h1_3 n_2 s_2 ->
 let K3 := fun (y0_ y1_ y2_ y3_ y4_ : Int) (y5_ : Bool) (y6_ : LL) => aH (zbm n1 es y0_ y1_ y2_ y3_ y4_ y5_ y6_) /\ J y0_ y1_ y2_ y3_ y4_ y5_ y6_ /\ μ y0_ y1_ y2_ y3_ y4_ y5_ y6_ < μ x10 h1_0 h1_1 h1_2
  h1_3 n_2 s_2; if decide (x10 < (↑es.length : Int)) = true then aF es x10 4 /\ ∃ n, (qb 0 (es.getD x10.toNat [])).head? = some (Z6 n) /\ ∃ n2, (qb 0 (es.getD x10.toNat [])).tail.head? = some (Z6 n2) /\ ∃ (n3
  : Int), (qb 0 (es.getD x10.toNat [])).tail.tail.head? = some (Z6 n3) /\ ∃ n4, (qb 0 (es.getD x10.toNat [])).tail.tail.tail.head? = some (Z6 n4) /\
 let V1 := K3 (i64.wrap (x10 + 1)) h1_0 h1_1 h1_2 h1_3 n_2 s_2; if decide (n2 < h1_0) = true then V1 else if decide (n > h1_1) = true then V1 else if decide (n > h1_0) = true then (aR [[Z6 h1_0, Z6 (i64.wrap (n - 1)), Z6
  h1_2, Z6 h1_3]] 4 /\ (s_2.length + 1) * 32 <= 140737488355328) /\ K3 (i64.wrap (x10 + 1)) (i64.wrap (n2 + 1)) h1_1 h1_2 h1_3 (n_2 && false) (s_2 ++ [[Z6 h1_0, Z6 (i64.wrap (n - 1)), Z6 h1_2, Z6 h1_3]]) else K3
  (i64.wrap (x10 + 1)) (i64.wrap (n2 + 1)) h1_1 h1_2 h1_3 n_2 s_2 else if decide (h1_0 <= h1_1) = true then (aR [[Z6 h1_0, Z6 h1_1, Z6 h1_2, Z6 h1_3]] 4 /\ (s_2.length + 1) * 32 <= 140737488355328) /\ R (LV.own 1) [Ob.sl (79,
  4) false n1 es, Ob.sl ((79 : Nat), 4) true (n_2 && false) (s_2 ++ [[Z6 h1_0, Z6 h1_1, Z6 h1_2, Z6 h1_3]])] else R (LV.own 1) [Ob.sl (79, 4) false n1 es, Ob.sl (79, 4) true n_2 s_2]
theorem ztm {R : LV -> Hp -> Prop} (h : zi6 a b c d n1 es J μ R) : ACall qa 63 [.pv (.agg [.int .i64 a, .int .i64 b, .int .i64 c, .int .i64 d]), .own 0] [.sl (79, 4) false n1 es] R :=
 ACall.wz Tryz.func63 aP [0, 1, 2, 4, 5, 7, 8, 9, 10, 11, 25, 30, 53] (c9 3 (bP cz7 (zbm n1 es) J μ (fun e h => (gI e 10, hI h 1 0, hI h 1 1, hI h 1 2, hI h 1 3, oN h 2, oS h 2)) [(5, 79, 4)] [2, 5, 8, 9, 10] [])) [0, 2] h
end
def zbn (n f : Bool) (es : LL) (x9 : Int) (n_0 : Bool) (s_0 : LL) : Env × Hp := ([(3, LV.own 0), (7, LV.pv (PV.sl n f es)), (8, LV.pv (PV.int i64 (es.length : Int))), (9, Y6 x9)], [.sl (79, 4) true n_0 s_0])
section
variable (n f : Bool) (es : LL) (J : Int -> Bool -> LL -> Prop) (μ : Int -> Bool -> LL -> Nat)
def zi7 (R : PV -> Prop) : Prop :=
 (aH (zbn n f es (0 : Int) true []) /\ J (0 : Int) true []) /\ ∀ (x9 : Int) (n_0 : Bool) (s_0 : LL), J x9 n_0 s_0 ->
 let K3 := fun (y0_ : Int) (y1_ : Bool) (y2_ : LL) => aH (zbn n f es y0_ y1_ y2_) /\ J y0_ y1_ y2_ /\ μ y0_ y1_ y2_ < μ x9 n_0 s_0; if decide (x9 < (↑es.length : Int)) = true then aF es x9 4 /\ ∃ n1, (es.getD x9.toNat []).head? = some (Z6 n1) /\ ∃ n2, (es.getD x9.toNat []).tail.head? = some (Z6 n2) /\ ∃ n3, (es.getD x9.toNat []).tail.tail.head? = some (Z6 n3) /\ ∃ n4, (es.getD x9.toNat []).tail.tail.tail.head? = some (Z6 n4) /\
 let V1 := (aR [[Z6 n1, Z6 n2, Z6 n3, Z6 n4]] 4 /\ (s_0.length + 1) * 32 <= 140737488355328) /\ K3 (i64.wrap (x9 + 1)) (n_0 && false) (s_0 ++ [[Z6 n1, Z6 n2, Z6 n3, Z6 n4]]); if decide (i64.wrap ((↑s_0.length : Int) - 1) >= 0) = true then aF s_0 (i64.wrap ((↑s_0.length : Int) - 1)) 4 /\ ∃ n5, (qb 1 (s_0.getD (i64.wrap ((↑s_0.length : Int) - 1)).toNat [])).head? = some (Z6 n5) /\ if (i64.wrap (n5 + 1) == n1) = true then aF s_0 (i64.wrap ((↑s_0.length : Int) - 1)) 4 /\ ∃ n6, (qb 2 (s_0.getD (i64.wrap ((↑s_0.length : Int) - 1)).toNat [])).head? = some (Z6 n6) /\ if (n6 == n3) = true then aF s_0 (i64.wrap ((↑s_0.length : Int) - 1)) 4 /\ ∃ n7, (qb 3 (s_0.getD (i64.wrap ((↑s_0.length : Int) - 1)).toNat [])).head? = some (Z6 n7) /\ if (n7 == n4) = true then aF s_0 (i64.wrap ((↑s_0.length : Int) - 1)) 4 /\ (1 = 1 /\ 2 <= (s_0.getD (i64.wrap ((↑s_0.length : Int) - 1)).toNat []).length) /\ K3 (i64.wrap (x9 + 1)) n_0 (s_0.set (i64.wrap ((↑s_0.length : Int) - 1)).toNat (aT (s_0.getD (i64.wrap ((↑s_0.length : Int) - 1)).toNat []) 1 [Z6 n2])) else V1 else V1 else V1 else V1 else R (PV.sl n_0 false s_0)
theorem ztn {R : PV -> Prop} (h : zi7 n f es J μ R) : PCall qa 65 [.sl n f es] R :=
 PCall.wz Tryz.func65 aP [0, 2, 3, 5, 6, 7, 8, 9, 10, 48] (c9 3 (bP eC (zbn n f es) J μ (fun e h => (gI e 9, oN h 0, oS h 0)) [(3, 79, 4)] [3, 7, 8, 9] [])) h
end
section
variable (x : Int)
def zi8 (R : PV -> Prop) : Prop :=
 R (Zb (x != x))
theorem zto {R : PV -> Prop} (h : zi8 x R) : PCall qa 91 [.int .i64 x] R :=
 PCall.wz Tryz.func91 aP [0, 2] bF h
end
section
variable (x y : Int)
def zi9 (R : PV -> Prop) : Prop :=
 PCall qa 91 [Z6 x] fun v => ∃ b, v = Zb b /\ PCall qa 91 [Z6 y] fun v1 => ∃ b1, v1 = Zb b1 /\ if b = true then if b1 = true then R (Z6 0) else R (Z6 (-1 : Int)) else if b1 = true then R (Z6 1) else if decide (x < y) = true then R (Z6 (-1 : Int)) else if decide (x > y) = true then R (Z6 1) else R (Z6 0)
theorem ztp {R : PV -> Prop} (h : zi9 x y R) : PCall qa 62 [.int .i64 x, .int .i64 y] R :=
 PCall.wz Tryz.func62 aP [0, 1, 4, 5, 6, 11, 12, 13, 16, 19] bF h
end
section
variable (a b c d a2 b2 c2 d2 : Int)
def zja (R : PV -> Prop) : Prop :=
 PCall qa 62 [Z6 a, Z6 a2] fun v => ∃ n, v = Z6 n /\ R (Z6 n)
theorem ztq {R : PV -> Prop} (h : zja a a2 R) : PCall qa 61 [.agg [.int .i64 a, .int .i64 b, .int .i64 c, .int .i64 d], .agg [.int .i64 a2, .int .i64 b2, .int .i64 c2, .int .i64 d2]] R :=
 PCall.wz Tryz.func61 aP [0, 1, 2, 3, 4] bF h
end
def zbo (n f : Bool) (es : LL) (k x12 : Int) (n_0 : Bool) (s_0 : LL) : Env × Hp := ([(1, Y6 k), (5, LV.own 0), (6, LV.pv (PV.fn 61 [])), (10, LV.pv (PV.sl n f es)), (11, LV.pv (PV.int i64 (es.length : Int))), (12, Y6 x12)], [.sl (79, 4) true n_0 s_0])
section
variable (n f : Bool) (es : LL) (k : Int) (J : Int -> Bool -> LL -> Prop) (μ : Int -> Bool -> LL -> Nat)
def zjb (R : PV -> Prop) : Prop :=
 (aH (zbo n f es k (0 : Int) true []) /\ J (0 : Int) true []) /\ ∀ (x12 : Int) (n_0 : Bool) (s_0 : LL), J x12 n_0 s_0 ->
 let K4 := fun (y0_ : Int) (y1_ : Bool) (y2_ : LL) => aH (zbo n f es k y0_ y1_ y2_) /\ J y0_ y1_ y2_ /\ μ y0_ y1_ y2_ < μ x12 n_0 s_0; if decide (x12 < (↑es.length : Int)) = true then aF es x12 5 /\ ∃ n1, (es.getD x12.toNat []).head? = some (Z6 n1) /\ ∃ n2, (es.getD x12.toNat []).tail.head? = some (Z6 n2) /\ ∃ n3, (es.getD x12.toNat []).tail.tail.head? = some (Z6 n3) /\ ∃ n4, (es.getD x12.toNat []).tail.tail.tail.head? = some (Z6 n4) /\ ∃ n5, (es.getD x12.toNat []).tail.tail.tail.tail.head? = some (Z6 n5) /\ if (n1 != k) = true then K4 (i64.wrap (x12 + 1)) n_0 s_0 else ACall qa 63 [LV.pv (PV.agg [Z6 (if n2 < 0 then (0 : Int) else n2), Z6 (if (1114111 : Int) < n3 then (1114111 : Int) else n3), Z6 n4, Z6 n5]), LV.own 0] [Ob.sl (79, 4) false n_0 s_0] fun (r : LV) (h' : Hp) => ∃ (t : Bool × LL), (r = LV.own 1 /\ h' = [Ob.sl (79, 4) false n_0 s_0, Ob.sl (79, 4) true t.fst t.snd]) /\ (((79, 4) = (79, 4) /\ n_0 = n_0 /\ s_0.length = s_0.length) /\ True) /\ (aR t.snd 4 /\ (s_0.length + t.snd.length) * 32 <= (140737488355328 : Nat)) /\ ACall qa 64 [LV.own 0, LV.pv (PV.fn 61 [])] [Ob.sl (79, 4) false (n_0 && t.snd.isEmpty) (s_0 ++ t.snd)] fun (r1 : LV) (h'1 : Hp) => ∃ (t1 : LL), (r1 = LV.tup [] /\ h'1 = [Ob.sl (79, (4 : Nat)) false (n_0 && t.snd.isEmpty) t1]) /\ (((79, 4) = (79, 4) /\ (n_0 && t.snd.isEmpty) = (n_0 && t.snd.isEmpty) /\ (s_0 ++ t.snd).length = t1.length) /\ True) /\ K4 (i64.wrap (x12 + 1)) (n_0 && t.snd.isEmpty) t1 else PCall qa 65 [PV.sl n_0 false s_0] fun v => ∃ n1 f1 es1, v = PV.sl n1 f1 es1 /\ R (PV.sl n1 f1 es1)
theorem ztr {R : PV -> Prop} (h : zjb n f es k J μ R) : PCall qa 41 [.sl n f es, .int .i64 k] R :=
 PCall.wz Tryz.func41 (fun zz_ => match zz_ with | 63 => some ⟨Bool × LL, fun _ hs t => (.own 1, hs ++ [.sl (79, 4) true t.1 t.2]), none⟩ | 64 => some ⟨LL, fun _ hs t => (.tup [], match hs with | [.sl ty _ nl es] => [.sl ty false nl t] | h => h), none⟩ | _ => none) [0, 1, 4, 5, 6, 8, 9, 10, 11, 12, 13, 19] (c9 4 (bP eC (zbo n f es k) J μ (fun e h => (gI e 12, oN h 0, oS h 0)) [(5, 79, 4)] [1, 5, 6, 10, 11, 12] [])) h
end
def zbp (n f : Bool) (es : LL) (k r : Int) (x7 : Int) : Env × Hp := ([(0, LV.pv (PV.sl n f es)), (1, Y6 k), (2, Y6 r), (7, Y6 x7)], [])
section
variable (n f : Bool) (es : LL) (k r : Int) (J : Int -> Prop) (μ : Int -> Nat)
def zjc (R : PV -> Prop) : Prop :=
 if (decide (r < 0) || decide (r > 1114111)) = true then R (Z6 (-1 : Int)) else (aH (zbp n f es k r (0 : Int)) /\ J (0 : Int)) /\ ∀ (x7 : Int), J x7 -> if decide (x7 < (↑es.length : Int)) = true then aF es x7 5 /\ ∃ n1, (qb 0 (es.getD x7.toNat [])).head? = some (Z6 n1) /\
 let V1 := aH (zbp n f es k r (i64.wrap (x7 + 1))) /\ J (i64.wrap (x7 + 1)) /\ μ (i64.wrap (x7 + 1)) < μ x7; if (n1 == k) = true then aF es x7 5 /\ ∃ n2, (qb 1 (es.getD x7.toNat [])).head? = some (Z6 n2) /\ if decide (n2 <= r) = true then aF es x7 5 /\ ∃ n3, (qb 2 (es.getD x7.toNat [])).head? = some (Z6 n3) /\ if decide (r <= n3) = true then R (Z6 x7) else V1 else V1 else V1 else R (Z6 (-1 : Int))
theorem zts {R : PV -> Prop} (h : zjc n f es k r J μ R) : PCall qa 130 [.sl n f es, .int .i64 k, .int .i64 r] R :=
 PCall.wz Tryz.func130 aP [0, 1, 2, 6, 7, 13, 17, 44] (c9 4 (bP cz1 (zbp n f es k r) J μ (fun e h => (((gI e 7), ()))) [] [0, 1, 2, 7] [])) h
end
section
variable (a b c d t : Int)
def zjd (R : PV -> Prop) : Prop :=
 if decide (b < t) = true then R (Z6 (-1 : Int)) else if decide (a > t) = true then R (Z6 1) else R (Z6 0)
theorem ztt {R : PV -> Prop} (h : zjd a b t R) : PCall qa 87 [.agg [.int .i64 a, .int .i64 b, .int .i64 c, .int .i64 d], .int .i64 t] R :=
 PCall.wz Tryz.func87 aP [0, 1, 2, 4, 5, 10] bF h
end
def zbq (n f : Bool) (es : LL) (t x9 x10 : Int) : Env × Hp := ([(0, LV.pv (PV.sl n f es)), (1, Y6 t), (2, LV.pv (PV.fn 87 [])), (8, LV.pv (PV.int i64 (es.length : Int))), (9, Y6 x9), (10, Y6 x10)], [])
section
variable (n f : Bool) (es : LL) (t : Int) (J : Int -> Int -> Prop) (μ : Int -> Int -> Nat)
def zje (R : PV -> Prop) : Prop :=
 (aH (zbq n f es t (0 : Int) (↑es.length : Int)) /\ J (0 : Int) (↑es.length : Int)) /\ ∀ (x9 x10 : Int), J x9 x10 ->
 let K3 := fun (y0_ y1_ : Int) => aH (zbq n f es t y0_ y1_) /\ J y0_ y1_ /\ μ y0_ y1_ < μ x9 x10; if decide (x9 < x10) = true then aF es (i64.wrap ((IntKind.u64.wrap (i64.wrap (x9 + x10))).fdiv ((2 : Int) ^ 1))) 4 /\ ∃ n1, (es.getD (i64.wrap ((IntKind.u64.wrap (i64.wrap (x9 + x10))).fdiv ((2 : Int) ^ 1))).toNat []).head? = some (Z6 n1) /\ ∃ n2, (es.getD (i64.wrap ((IntKind.u64.wrap (i64.wrap (x9 + x10))).fdiv ((2 : Int) ^ 1))).toNat []).tail.head? = some (Z6 n2) /\ ∃ n3, (es.getD (i64.wrap ((IntKind.u64.wrap (i64.wrap (x9 + x10))).fdiv ((2 : Int) ^ 1))).toNat []).tail.tail.head? = some (Z6 n3) /\ ∃ n4, (es.getD (i64.wrap ((IntKind.u64.wrap (i64.wrap (x9 + x10))).fdiv ((2 : Int) ^ 1))).toNat []).tail.tail.tail.head? = some (Z6 n4) /\ PCall qa 87 [PV.agg [Z6 n1, Z6 n2, Z6 n3, Z6 n4], Z6 t] fun v => ∃ n5, v = Z6 n5 /\ if decide (n5 < 0) = true then K3 (i64.wrap (i64.wrap ((IntKind.u64.wrap (i64.wrap (x9 + x10))).fdiv ((2 : Int) ^ 1)) + 1)) x10 else K3 x9 (i64.wrap ((IntKind.u64.wrap (i64.wrap (x9 + x10))).fdiv ((2 : Int) ^ 1))) else if decide (x9 < (↑es.length : Int)) = true then aF es x9 4 /\ ∃ n1, (es.getD x9.toNat []).head? = some (Z6 n1) /\ ∃ n2, (es.getD x9.toNat []).tail.head? = some (Z6 n2) /\ ∃ n3, (es.getD x9.toNat []).tail.tail.head? = some (Z6 n3) /\ ∃ n4, (es.getD x9.toNat []).tail.tail.tail.head? = some (Z6 n4) /\ PCall qa 87 [PV.agg [Z6 n1, Z6 n2, Z6 n3, Z6 n4], Z6 t] fun v => ∃ n5, v = Z6 n5 /\ R (PV.tup [Z6 x9, Zb (n5 == 0)]) else R (PV.tup [Z6 x9, Zb false])
theorem ztu {R : PV -> Prop} (h : zje n f es t J μ R) : PCall qa 86 [.sl n f es, .int .i64 t, .fn 87 []] R :=
 PCall.wz Tryz.func86 aP [0, 1, 2, 6, 7, 8, 9, 10, 11, 17, 31] (c9 3 (bP jK (zbq n f es t) J μ (fun e h => (gI e 9, gI e 10)) [] [0, 1, 2, 8, 9, 10] [])) h
end
section
variable (n f : Bool) (es : LL) (r : Int)
def zjf (R : PV -> Prop) : Prop :=
 PCall qa 86 [PV.sl n f es, Z6 (i64.wrap r), PV.fn 87 []] fun v => ∃ vs, v = PV.tup vs /\ vs.length = 2 /\ ∃ x, vs.head? = some x /\ ∃ n1, x = Z6 n1 /\ ∃ x1, vs.tail.head? = some x1 /\ ∃ b, x1 = Zb b /\ if (!b) = true then R (PV.tup [PV.agg [Z6 0, Z6 0, Z6 0, Z6 0], Zb false]) else aF es n1 4 /\ ∃ n2, (es.getD n1.toNat []).head? = some (Z6 n2) /\ ∃ n3, (es.getD n1.toNat []).tail.head? = some (Z6 n3) /\ ∃ n4, (es.getD n1.toNat []).tail.tail.head? = some (Z6 n4) /\ ∃ n5, (es.getD n1.toNat []).tail.tail.tail.head? = some (Z6 n5) /\ R (PV.tup [PV.agg [Z6 n2, Z6 n3, Z6 n4, Z6 n5], Zb true])
theorem ztv {R : PV -> Prop} (h : zjf n f es r R) : PCall qa 58 [.sl n f es, .int .i32 r] R :=
 PCall.wz Tryz.func58 aP [0, 1, 4, 5, 6, 7, 16] bF h
end
def zjg  (R : PV -> Prop) : Prop :=
 R (PV.sl false true [[Z6 1, Z6 768, Z6 788, Z6 230, Z6 0], [Z6 1, Z6 789, Z6 789, Z6 232, Z6 0], [Z6 1, Z6 790, Z6 793, Z6 220, Z6 0], [Z6 1, Z6 794, Z6 794, Z6 232, Z6 0], [Z6 1, Z6 795, Z6 795, Z6 216, Z6 0], [Z6 1, Z6 796, Z6 800, Z6 220, Z6 0], [Z6 1, Z6 801, Z6 802, Z6 202, Z6 0], [Z6 1, Z6 803, Z6 806, Z6 220, Z6 0], [Z6 1, Z6 807, Z6 808, Z6 202, Z6 0], [Z6 1, Z6 809, Z6 819, Z6 220, Z6 0], [Z6 1, Z6 820, Z6 824, Z6 1, Z6 0], [Z6 1, Z6 825, Z6 828, Z6 220, Z6 0], [Z6 1, Z6 829, Z6 836, Z6 230, Z6 0], [Z6 1, Z6 837, Z6 837, Z6 240, Z6 0], [Z6 1, Z6 838, Z6 838, Z6 230, Z6 0], [Z6 1, Z6 839, Z6 841, Z6 220, Z6 0], [Z6 1, Z6 842, Z6 844, Z6 230, Z6 0], [Z6 1, Z6 845, Z6 846, Z6 220, Z6 0], [Z6 1, Z6 848, Z6 850, Z6 230, Z6 0], [Z6 1, Z6 851, Z6 854, Z6 220, Z6 0], [Z6 1, Z6 855, Z6 855, Z6 230, Z6 0], [Z6 1, Z6 856, Z6 856, Z6 232, Z6 0], [Z6 1, Z6 857, Z6 858, Z6 220, Z6 0], [Z6 1, Z6 859, Z6 859, Z6 230, Z6 0], [Z6 1, Z6 860, Z6 860, Z6 233, Z6 0], [Z6 1, Z6 861, Z6 862, Z6 234, Z6 0], [Z6 1, Z6 863, Z6 863, Z6 233, Z6 0], [Z6 1, Z6 864, Z6 865, Z6 234, Z6 0], [Z6 1, Z6 866, Z6 866, Z6 233, Z6 0], [Z6 1, Z6 867, Z6 879, Z6 230, Z6 0], [Z6 1, Z6 1155, Z6 1159, Z6 230, Z6 0], [Z6 1, Z6 1456, Z6 1456, Z6 10, Z6 0], [Z6 1, Z6 1457, Z6 1457, Z6 11, Z6 0], [Z6 1, Z6 1458, Z6 1458, Z6 12, Z6 0], [Z6 1, Z6 1459, Z6 1459, Z6 13, Z6 0], [Z6 1, Z6 1460, Z6 1460, Z6 14, Z6 0], [Z6 1, Z6 1461, Z6 1461, Z6 15, Z6 0], [Z6 1, Z6 1462, Z6 1462, Z6 16, Z6 0], [Z6 1, Z6 1463, Z6 1463, Z6 17, Z6 0], [Z6 1, Z6 1464, Z6 1464, Z6 18, Z6 0], [Z6 1, Z6 1465, Z6 1466, Z6 19, Z6 0], [Z6 1, Z6 1467, Z6 1467, Z6 20, Z6 0], [Z6 1, Z6 1468, Z6 1468, Z6 21, Z6 0], [Z6 1, Z6 1469, Z6 1469, Z6 22, Z6 0], [Z6 1, Z6 1471, Z6 1471, Z6 23, Z6 0], [Z6 1, Z6 1473, Z6 1473, Z6 24, Z6 0], [Z6 1, Z6 1474, Z6 1474, Z6 25, Z6 0], [Z6 1, Z6 1479, Z6 1479, Z6 18, Z6 0], [Z6 1, Z6 1611, Z6 1611, Z6 27, Z6 0], [Z6 1, Z6 1612, Z6 1612, Z6 28, Z6 0], [Z6 1, Z6 1613, Z6 1613, Z6 29, Z6 0], [Z6 1, Z6 1614, Z6 1614, Z6 30, Z6 0], [Z6 1, Z6 1615, Z6 1615, Z6 31, Z6 0], [Z6 1, Z6 1616, Z6 1616, Z6 32, Z6 0], [Z6 1, Z6 1617, Z6 1617, Z6 33, Z6 0], [Z6 1, Z6 1618, Z6 1618, Z6 34, Z6 0], [Z6 1, Z6 1619, Z6 1620, Z6 230, Z6 0], [Z6 1, Z6 1621, Z6 1622, Z6 220, Z6 0], [Z6 1, Z6 1648, Z6 1648, Z6 35, Z6 0], [Z6 1, Z6 2364, Z6 2364, Z6 7, Z6 0], [Z6 1, Z6 2381, Z6 2381, Z6 9, Z6 0], [Z6 1, Z6 2385, Z6 2385, Z6 230, Z6 0], [Z6 1, Z6 2386, Z6 2386, Z6 220, Z6 0], [Z6 1, Z6 2387, Z6 2388, Z6 230, Z6 0], [Z6 1, Z6 2492, Z6 2492, Z6 7, Z6 0], [Z6 1, Z6 2509, Z6 2509, Z6 9, Z6 0], [Z6 1, Z6 3021, Z6 3021, Z6 9, Z6 0], [Z6 1, Z6 3640, Z6 3641, Z6 103, Z6 0], [Z6 1, Z6 3642, Z6 3642, Z6 9, Z6 0], [Z6 1, Z6 3656, Z6 3659, Z6 107, Z6 0], [Z6 1, Z6 3953, Z6 3953, Z6 129, Z6 0], [Z6 1, Z6 3954, Z6 3954, Z6 130, Z6 0], [Z6 1, Z6 3956, Z6 3956, Z6 132, Z6 0], [Z6 1, Z6 8400, Z6 8401, Z6 230, Z6 0], [Z6 1, Z6 8402, Z6 8403, Z6 1, Z6 0], [Z6 1, Z6 8404, Z6 8407, Z6 230, Z6 0], [Z6 1, Z6 8411, Z6 8412, Z6 230, Z6 0], [Z6 1, Z6 8417, Z6 8417, Z6 230, Z6 0], [Z6 1, Z6 8424, Z6 8424, Z6 220, Z6 0], [Z6 1, Z6 12441, Z6 12442, Z6 8, Z6 0], [Z6 1, Z6 65056, Z6 65062, Z6 230, Z6 0], [Z6 1, Z6 119141, Z6 119141, Z6 216, Z6 0]])
theorem ztw  {R : PV -> Prop} (h : zjg  R) : PCall qa 25 [] R :=
 PCall.wz Tryz.func25 aP [0] bF h

def zjh  (R : PV -> Prop) : Prop :=
 R (PV.sl false true [[Z6 2, Z6 192, Z6 192, Z6 65, Z6 768], [Z6 2, Z6 193, Z6 193, Z6 65, Z6 769], [Z6 2, Z6 194, Z6 194, Z6 65, Z6 770], [Z6 2, Z6 195, Z6 195, Z6 65, Z6 771], [Z6 2, Z6 196, Z6 196, Z6 65, Z6 776], [Z6 2, Z6 197, Z6 197, Z6 65, Z6 778], [Z6 2, Z6 199, Z6 199, Z6 67, Z6 807], [Z6 2, Z6 200, Z6 200, Z6 69, Z6 768], [Z6 2, Z6 201, Z6 201, Z6 69, Z6 769], [Z6 2, Z6 202, Z6 202, Z6 69, Z6 770], [Z6 2, Z6 203, Z6 203, Z6 69, Z6 776], [Z6 2, Z6 204, Z6 204, Z6 73, Z6 768], [Z6 2, Z6 205, Z6 205, Z6 73, Z6 769], [Z6 2, Z6 206, Z6 206, Z6 73, Z6 770], [Z6 2, Z6 207, Z6 207, Z6 73, Z6 776], [Z6 2, Z6 209, Z6 209, Z6 78, Z6 771], [Z6 2, Z6 210, Z6 210, Z6 79, Z6 768], [Z6 2, Z6 211, Z6 211, Z6 79, Z6 769], [Z6 2, Z6 212, Z6 212, Z6 79, Z6 770], [Z6 2, Z6 213, Z6 213, Z6 79, Z6 771], [Z6 2, Z6 214, Z6 214, Z6 79, Z6 776], [Z6 2, Z6 217, Z6 217, Z6 85, Z6 768], [Z6 2, Z6 218, Z6 218, Z6 85, Z6 769], [Z6 2, Z6 219, Z6 219, Z6 85, Z6 770], [Z6 2, Z6 220, Z6 220, Z6 85, Z6 776], [Z6 2, Z6 221, Z6 221, Z6 89, Z6 769], [Z6 2, Z6 224, Z6 224, Z6 97, Z6 768], [Z6 2, Z6 225, Z6 225, Z6 97, Z6 769], [Z6 2, Z6 226, Z6 226, Z6 97, Z6 770], [Z6 2, Z6 227, Z6 227, Z6 97, Z6 771], [Z6 2, Z6 228, Z6 228, Z6 97, Z6 776], [Z6 2, Z6 229, Z6 229, Z6 97, Z6 778], [Z6 2, Z6 231, Z6 231, Z6 99, Z6 807], [Z6 2, Z6 232, Z6 232, Z6 101, Z6 768], [Z6 2, Z6 233, Z6 233, Z6 101, Z6 769], [Z6 2, Z6 234, Z6 234, Z6 101, Z6 770], [Z6 2, Z6 235, Z6 235, Z6 101, Z6 776], [Z6 2, Z6 236, Z6 236, Z6 105, Z6 768], [Z6 2, Z6 237, Z6 237, Z6 105, Z6 769], [Z6 2, Z6 238, Z6 238, Z6 105, Z6 770], [Z6 2, Z6 239, Z6 239, Z6 105, Z6 776], [Z6 2, Z6 241, Z6 241, Z6 110, Z6 771], [Z6 2, Z6 242, Z6 242, Z6 111, Z6 768], [Z6 2, Z6 243, Z6 243, Z6 111, Z6 769], [Z6 2, Z6 244, Z6 244, Z6 111, Z6 770], [Z6 2, Z6 245, Z6 245, Z6 111, Z6 771], [Z6 2, Z6 246, Z6 246, Z6 111, Z6 776], [Z6 2, Z6 249, Z6 249, Z6 117, Z6 768], [Z6 2, Z6 250, Z6 250, Z6 117, Z6 769], [Z6 2, Z6 251, Z6 251, Z6 117, Z6 770], [Z6 2, Z6 252, Z6 252, Z6 117, Z6 776], [Z6 2, Z6 253, Z6 253, Z6 121, Z6 769], [Z6 2, Z6 255, Z6 255, Z6 121, Z6 776], [Z6 2, Z6 256, Z6 256, Z6 65, Z6 772], [Z6 2, Z6 257, Z6 257, Z6 97, Z6 772], [Z6 2, Z6 258, Z6 258, Z6 65, Z6 774], [Z6 2, Z6 259, Z6 259, Z6 97, Z6 774], [Z6 2, Z6 260, Z6 260, Z6 65, Z6 808], [Z6 2, Z6 261, Z6 261, Z6 97, Z6 808], [Z6 2, Z6 262, Z6 262, Z6 67, Z6 769], [Z6 2, Z6 263, Z6 263, Z6 99, Z6 769], [Z6 2, Z6 268, Z6 268, Z6 67, Z6 780], [Z6 2, Z6 269, Z6 269, Z6 99, Z6 780], [Z6 2, Z6 274, Z6 274, Z6 69, Z6 772], [Z6 2, Z6 275, Z6 275, Z6 101, Z6 772], [Z6 2, Z6 280, Z6 280, Z6 69, Z6 808], [Z6 2, Z6 281, Z6 281, Z6 101, Z6 808], [Z6 2, Z6 304, Z6 304, Z6 73, Z6 775], [Z6 2, Z6 323, Z6 323, Z6 78, Z6 769], [Z6 2, Z6 324, Z6 324, Z6 110, Z6 769], [Z6 2, Z6 352, Z6 352, Z6 83, Z6 780], [Z6 2, Z6 353, Z6 353, Z6 115, Z6 780], [Z6 2, Z6 381, Z6 381, Z6 90, Z6 780], [Z6 2, Z6 382, Z6 382, Z6 122, Z6 780], [Z6 2, Z6 416, Z6 416, Z6 79, Z6 795], [Z6 2, Z6 417, Z6 417, Z6 111, Z6 795], [Z6 2, Z6 431, Z6 431, Z6 85, Z6 795], [Z6 2, Z6 432, Z6 432, Z6 117, Z6 795], [Z6 2, Z6 469, Z6 469, Z6 220, Z6 772], [Z6 2, Z6 470, Z6 470, Z6 252, Z6 772], [Z6 2, Z6 471, Z6 471, Z6 220, Z6 769], [Z6 2, Z6 472, Z6 472, Z6 252, Z6 769], [Z6 2, Z6 480, Z6 480, Z6 550, Z6 772], [Z6 2, Z6 481, Z6 481, Z6 551, Z6 772], [Z6 2, Z6 550, Z6 550, Z6 65, Z6 775], [Z6 2, Z6 551, Z6 551, Z6 97, Z6 775], [Z6 2, Z6 832, Z6 832, Z6 768, Z6 0], [Z6 2, Z6 833, Z6 833, Z6 769, Z6 0], [Z6 2, Z6 835, Z6 835, Z6 787, Z6 0], [Z6 2, Z6 836, Z6 836, Z6 776, Z6 769], [Z6 2, Z6 884, Z6 884, Z6 697, Z6 0], [Z6 2, Z6 894, Z6 894, Z6 59, Z6 0], [Z6 2, Z6 901, Z6 901, Z6 168, Z6 769], [Z6 2, Z6 902, Z6 902, Z6 913, Z6 769], [Z6 2, Z6 903, Z6 903, Z6 183, Z6 0], [Z6 2, Z6 904, Z6 904, Z6 917, Z6 769], [Z6 2, Z6 912, Z6 912, Z6 970, Z6 769], [Z6 2, Z6 940, Z6 940, Z6 945, Z6 769], [Z6 2, Z6 941, Z6 941, Z6 949, Z6 769], [Z6 2, Z6 944, Z6 944, Z6 971, Z6 769], [Z6 2, Z6 970, Z6 970, Z6 953, Z6 776], [Z6 2, Z6 971, Z6 971, Z6 965, Z6 776], [Z6 2, Z6 2345, Z6 2345, Z6 2344, Z6 2364], [Z6 2, Z6 2353, Z6 2353, Z6 2352, Z6 2364], [Z6 2, Z6 2356, Z6 2356, Z6 2355, Z6 2364], [Z6 2, Z6 2392, Z6 2392, Z6 2325, Z6 2364], [Z6 2, Z6 2393, Z6 2393, Z6 2326, Z6 2364], [Z6 2, Z6 2396, Z6 2396, Z6 2337, Z6 2364], [Z6 2, Z6 2507, Z6 2507, Z6 2503, Z6 2494], [Z6 2, Z6 2508, Z6 2508, Z6 2503, Z6 2519], [Z6 2, Z6 3018, Z6 3018, Z6 3014, Z6 3006], [Z6 2, Z6 3955, Z6 3955, Z6 3953, Z6 3954], [Z6 2, Z6 3957, Z6 3957, Z6 3953, Z6 3956], [Z6 2, Z6 7692, Z6 7692, Z6 68, Z6 803], [Z6 2, Z6 7693, Z6 7693, Z6 100, Z6 803], [Z6 2, Z6 7776, Z6 7776, Z6 83, Z6 775], [Z6 2, Z6 7777, Z6 7777, Z6 115, Z6 775], [Z6 2, Z6 7778, Z6 7778, Z6 83, Z6 803], [Z6 2, Z6 7779, Z6 7779, Z6 115, Z6 803], [Z6 2, Z6 7784, Z6 7784, Z6 7778, Z6 775], [Z6 2, Z6 7785, Z6 7785, Z6 7779, Z6 775], [Z6 2, Z6 7840, Z6 7840, Z6 65, Z6 803], [Z6 2, Z6 7841, Z6 7841, Z6 97, Z6 803], [Z6 2, Z6 7842, Z6 7842, Z6 65, Z6 777], [Z6 2, Z6 7843, Z6 7843, Z6 97, Z6 777], [Z6 2, Z6 7844, Z6 7844, Z6 194, Z6 769], [Z6 2, Z6 7845, Z6 7845, Z6 226, Z6 769], [Z6 2, Z6 7846, Z6 7846, Z6 194, Z6 768], [Z6 2, Z6 7847, Z6 7847, Z6 226, Z6 768], [Z6 2, Z6 7848, Z6 7848, Z6 194, Z6 777], [Z6 2, Z6 7849, Z6 7849, Z6 226, Z6 777], [Z6 2, Z6 7850, Z6 7850, Z6 194, Z6 771], [Z6 2, Z6 7851, Z6 7851, Z6 226, Z6 771], [Z6 2, Z6 7852, Z6 7852, Z6 7840, Z6 770], [Z6 2, Z6 7853, Z6 7853, Z6 7841, Z6 770], [Z6 2, Z6 7854, Z6 7854, Z6 258, Z6 769], [Z6 2, Z6 7855, Z6 7855, Z6 259, Z6 769], [Z6 2, Z6 7856, Z6 7856, Z6 258, Z6 768], [Z6 2, Z6 7857, Z6 7857, Z6 259, Z6 768], [Z6 2, Z6 7858, Z6 7858, Z6 258, Z6 777], [Z6 2, Z6 7859, Z6 7859, Z6 259, Z6 777], [Z6 2, Z6 7860, Z6 7860, Z6 258, Z6 771], [Z6 2, Z6 7861, Z6 7861, Z6 259, Z6 771], [Z6 2, Z6 7862, Z6 7862, Z6 7840, Z6 774], [Z6 2, Z6 7863, Z6 7863, Z6 7841, Z6 774], [Z6 2, Z6 7884, Z6 7884, Z6 79, Z6 803], [Z6 2, Z6 7885, Z6 7885, Z6 111, Z6 803], [Z6 2, Z6 7896, Z6 7896, Z6 7884, Z6 770], [Z6 2, Z6 7897, Z6 7897, Z6 7885, Z6 770], [Z6 2, Z6 7936, Z6 7936, Z6 945, Z6 787], [Z6 2, Z6 7937, Z6 7937, Z6 945, Z6 788], [Z6 2, Z6 7938, Z6 7938, Z6 7936, Z6 768], [Z6 2, Z6 7939, Z6 7939, Z6 7937, Z6 768], [Z6 2, Z6 8049, Z6 8049, Z6 940, Z6 0], [Z6 2, Z6 8064, Z6 8064, Z6 7936, Z6 837], [Z6 2, Z6 8115, Z6 8115, Z6 945, Z6 837], [Z6 2, Z6 8486, Z6 8486, Z6 937, Z6 0], [Z6 2, Z6 8490, Z6 8490, Z6 75, Z6 0], [Z6 2, Z6 8491, Z6 8491, Z6 197, Z6 0], [Z6 2, Z6 8800, Z6 8800, Z6 61, Z6 824], [Z6 2, Z6 8814, Z6 8814, Z6 60, Z6 824], [Z6 2, Z6 10972, Z6 10972, Z6 10973, Z6 824], [Z6 2, Z6 12364, Z6 12364, Z6 12363, Z6 12441], [Z6 2, Z6 12366, Z6 12366, Z6 12365, Z6 12441], [Z6 2, Z6 12400, Z6 12400, Z6 12399, Z6 12441], [Z6 2, Z6 12401, Z6 12401, Z6 12399, Z6 12442], [Z6 2, Z6 12460, Z6 12460, Z6 12459, Z6 12441], [Z6 2, Z6 12497, Z6 12497, Z6 12495, Z6 12442], [Z6 2, Z6 12532, Z6 12532, Z6 12454, Z6 12441], [Z6 2, Z6 63744, Z6 63744, Z6 35912, Z6 0], [Z6 2, Z6 63745, Z6 63745, Z6 26356, Z6 0], [Z6 2, Z6 64285, Z6 64285, Z6 1497, Z6 1460], [Z6 2, Z6 64287, Z6 64287, Z6 1522, Z6 1463], [Z6 2, Z6 64298, Z6 64298, Z6 1513, Z6 1473], [Z6 2, Z6 64299, Z6 64299, Z6 1513, Z6 1474], [Z6 2, Z6 64300, Z6 64300, Z6 64329, Z6 1473], [Z6 2, Z6 64329, Z6 64329, Z6 1513, Z6 1468], [Z6 2, Z6 119134, Z6 119134, Z6 119127, Z6 119141]])
theorem ztx  {R : PV -> Prop} (h : zjh  R) : PCall qa 26 [] R :=
 PCall.wz Tryz.func26 aP [0] bF h

def zji  (R : PV -> Prop) : Prop :=
 R (PV.sl false true [[Z6 3, Z6 2392, Z6 2393, Z6 1, Z6 0], [Z6 3, Z6 2396, Z6 2396, Z6 1, Z6 0], [Z6 3, Z6 10972, Z6 10972, Z6 1, Z6 0], [Z6 3, Z6 64285, Z6 64285, Z6 1, Z6 0], [Z6 3, Z6 64287, Z6 64287, Z6 1, Z6 0], [Z6 3, Z6 64298, Z6 64300, Z6 1, Z6 0], [Z6 3, Z6 64329, Z6 64329, Z6 1, Z6 0], [Z6 3, Z6 119134, Z6 119134, Z6 1, Z6 0]])
theorem zty  {R : PV -> Prop} (h : zji  R) : PCall qa 27 [] R :=
 PCall.wz Tryz.func27 aP [0] bF h

def zjj  (R : PV -> Prop) : Prop :=
 R (PV.sl false true [[Z6 4, Z6 0, Z6 9, Z6 3, Z6 0], [Z6 4, Z6 10, Z6 10, Z6 2, Z6 0], [Z6 4, Z6 11, Z6 12, Z6 3, Z6 0], [Z6 4, Z6 13, Z6 13, Z6 1, Z6 0], [Z6 4, Z6 14, Z6 31, Z6 3, Z6 0], [Z6 4, Z6 127, Z6 159, Z6 3, Z6 0], [Z6 4, Z6 173, Z6 173, Z6 3, Z6 0], [Z6 4, Z6 768, Z6 879, Z6 4, Z6 0], [Z6 4, Z6 1155, Z6 1161, Z6 4, Z6 0], [Z6 4, Z6 1425, Z6 1469, Z6 4, Z6 0], [Z6 4, Z6 1471, Z6 1471, Z6 4, Z6 0], [Z6 4, Z6 1473, Z6 1474, Z6 4, Z6 0], [Z6 4, Z6 1479, Z6 1479, Z6 4, Z6 0], [Z6 4, Z6 1536, Z6 1541, Z6 7, Z6 0], [Z6 4, Z6 1611, Z6 1631, Z6 4, Z6 0], [Z6 4, Z6 1648, Z6 1648, Z6 4, Z6 0], [Z6 4, Z6 1757, Z6 1757, Z6 7, Z6 0], [Z6 4, Z6 1807, Z6 1807, Z6 7, Z6 0], [Z6 4, Z6 2307, Z6 2307, Z6 8, Z6 0], [Z6 4, Z6 2362, Z6 2362, Z6 4, Z6 0], [Z6 4, Z6 2363, Z6 2363, Z6 8, Z6 0], [Z6 4, Z6 2364, Z6 2364, Z6 4, Z6 0], [Z6 4, Z6 2366, Z6 2368, Z6 8, Z6 0], [Z6 4, Z6 2369, Z6 2376, Z6 4, Z6 0], [Z6 4, Z6 2377, Z6 2380, Z6 8, Z6 0], [Z6 4, Z6 2381, Z6 2381, Z6 4, Z6 0], [Z6 4, Z6 2385, Z6 2391, Z6 4, Z6 0], [Z6 4, Z6 2434, Z6 2435, Z6 8, Z6 0], [Z6 4, Z6 2492, Z6 2492, Z6 4, Z6 0], [Z6 4, Z6 2494, Z6 2494, Z6 4, Z6 0], [Z6 4, Z6 2495, Z6 2496, Z6 8, Z6 0], [Z6 4, Z6 2503, Z6 2504, Z6 8, Z6 0], [Z6 4, Z6 2507, Z6 2508, Z6 8, Z6 0], [Z6 4, Z6 2509, Z6 2509, Z6 4, Z6 0], [Z6 4, Z6 2519, Z6 2519, Z6 4, Z6 0], [Z6 4, Z6 3006, Z6 3006, Z6 4, Z6 0], [Z6 4, Z6 3007, Z6 3007, Z6 8, Z6 0], [Z6 4, Z6 3014, Z6 3016, Z6 8, Z6 0], [Z6 4, Z6 3018, Z6 3020, Z6 8, Z6 0], [Z6 4, Z6 3021, Z6 3021, Z6 4, Z6 0], [Z6 4, Z6 3633, Z6 3633, Z6 4, Z6 0], [Z6 4, Z6 3635, Z6 3635, Z6 8, Z6 0], [Z6 4, Z6 3636, Z6 3642, Z6 4, Z6 0], [Z6 4, Z6 3655, Z6 3662, Z6 4, Z6 0], [Z6 4, Z6 3953, Z6 3966, Z6 4, Z6 0], [Z6 4, Z6 4352, Z6 4447, Z6 9, Z6 0], [Z6 4, Z6 4448, Z6 4519, Z6 10, Z6 0], [Z6 4, Z6 4520, Z6 4607, Z6 11, Z6 0], [Z6 4, Z6 8203, Z6 8203, Z6 3, Z6 0], [Z6 4, Z6 8204, Z6 8204, Z6 4, Z6 0], [Z6 4, Z6 8205, Z6 8205, Z6 5, Z6 0], [Z6 4, Z6 8206, Z6 8207, Z6 3, Z6 0], [Z6 4, Z6 8232, Z6 8238, Z6 3, Z6 0], [Z6 4, Z6 8288, Z6 8303, Z6 3, Z6 0], [Z6 4, Z6 8400, Z6 8432, Z6 4, Z6 0], [Z6 4, Z6 12330, Z6 12335, Z6 4, Z6 0], [Z6 4, Z6 12441, Z6 12442, Z6 4, Z6 0], [Z6 4, Z6 43360, Z6 43388, Z6 9, Z6 0], [Z6 4, Z6 55216, Z6 55238, Z6 10, Z6 0], [Z6 4, Z6 55243, Z6 55291, Z6 11, Z6 0], [Z6 4, Z6 65024, Z6 65039, Z6 4, Z6 0], [Z6 4, Z6 65056, Z6 65071, Z6 4, Z6 0], [Z6 4, Z6 65279, Z6 65279, Z6 3, Z6 0], [Z6 4, Z6 119141, Z6 119141, Z6 4, Z6 0], [Z6 4, Z6 127462, Z6 127487, Z6 6, Z6 0], [Z6 4, Z6 127995, Z6 127999, Z6 4, Z6 0], [Z6 4, Z6 917505, Z6 917535, Z6 3, Z6 0], [Z6 4, Z6 917536, Z6 917631, Z6 4, Z6 0], [Z6 4, Z6 917760, Z6 917999, Z6 4, Z6 0]])
theorem ztz  {R : PV -> Prop} (h : zjj  R) : PCall qa 28 [] R :=
 PCall.wz Tryz.func28 aP [0] bF h

def zjk  (R : PV -> Prop) : Prop :=
 R (PV.sl false true [[Z6 5, Z6 169, Z6 169, Z6 1, Z6 0], [Z6 5, Z6 174, Z6 174, Z6 1, Z6 0], [Z6 5, Z6 8252, Z6 8252, Z6 1, Z6 0], [Z6 5, Z6 8265, Z6 8265, Z6 1, Z6 0], [Z6 5, Z6 8482, Z6 8482, Z6 1, Z6 0], [Z6 5, Z6 8505, Z6 8505, Z6 1, Z6 0], [Z6 5, Z6 8596, Z6 8601, Z6 1, Z6 0], [Z6 5, Z6 8617, Z6 8618, Z6 1, Z6 0], [Z6 5, Z6 8986, Z6 8987, Z6 1, Z6 0], [Z6 5, Z6 9193, Z6 9203, Z6 1, Z6 0], [Z6 5, Z6 9728, Z6 9733, Z6 1, Z6 0], [Z6 5, Z6 9735, Z6 9746, Z6 1, Z6 0], [Z6 5, Z6 9748, Z6 9861, Z6 1, Z6 0], [Z6 5, Z6 9872, Z6 9989, Z6 1, Z6 0], [Z6 5, Z6 9992, Z6 10002, Z6 1, Z6 0], [Z6 5, Z6 10084, Z6 10087, Z6 1, Z6 0], [Z6 5, Z6 127744, Z6 127994, Z6 1, Z6 0], [Z6 5, Z6 128000, Z6 128317, Z6 1, Z6 0], [Z6 5, Z6 128326, Z6 128591, Z6 1, Z6 0], [Z6 5, Z6 128640, Z6 128767, Z6 1, Z6 0], [Z6 5, Z6 129292, Z6 129338, Z6 1, Z6 0], [Z6 5, Z6 129351, Z6 129791, Z6 1, Z6 0]])
theorem zt0  {R : PV -> Prop} (h : zjk  R) : PCall qa 29 [] R :=
 PCall.wz Tryz.func29 aP [0] bF h

def zjl  (R : PV -> Prop) : Prop :=
 R (PV.sl false true [[Z6 6, Z6 2325, Z6 2361, Z6 2, Z6 0], [Z6 6, Z6 2381, Z6 2381, Z6 1, Z6 0], [Z6 6, Z6 2392, Z6 2399, Z6 2, Z6 0], [Z6 6, Z6 2453, Z6 2472, Z6 2, Z6 0], [Z6 6, Z6 2509, Z6 2509, Z6 1, Z6 0]])
theorem zt1  {R : PV -> Prop} (h : zjl  R) : PCall qa 30 [] R :=
 PCall.wz Tryz.func30 aP [0] bF h

def zjm  (R : PV -> Prop) : Prop :=
 R (PV.sl false true [[Z6 7, Z6 4352, Z6 4447, Z6 1, Z6 0], [Z6 7, Z6 8986, Z6 8987, Z6 1, Z6 0], [Z6 7, Z6 9193, Z6 9196, Z6 1, Z6 0], [Z6 7, Z6 9748, Z6 9749, Z6 1, Z6 0], [Z6 7, Z6 11904, Z6 12350, Z6 1, Z6 0], [Z6 7, Z6 12353, Z6 13311, Z6 1, Z6 0], [Z6 7, Z6 13312, Z6 19903, Z6 1, Z6 0], [Z6 7, Z6 19968, Z6 40959, Z6 1, Z6 0], [Z6 7, Z6 43360, Z6 43388, Z6 1, Z6 0], [Z6 7, Z6 44032, Z6 55203, Z6 1, Z6 0], [Z6 7, Z6 63744, Z6 64255, Z6 1, Z6 0], [Z6 7, Z6 65072, Z6 65135, Z6 1, Z6 0], [Z6 7, Z6 65281, Z6 65376, Z6 1, Z6 0], [Z6 7, Z6 65504, Z6 65510, Z6 1, Z6 0], [Z6 7, Z6 127744, Z6 127994, Z6 1, Z6 0], [Z6 7, Z6 128000, Z6 128317, Z6 1, Z6 0], [Z6 7, Z6 128326, Z6 128591, Z6 1, Z6 0], [Z6 7, Z6 128640, Z6 128767, Z6 1, Z6 0], [Z6 7, Z6 129292, Z6 129338, Z6 1, Z6 0], [Z6 7, Z6 129351, Z6 129791, Z6 1, Z6 0], [Z6 7, Z6 131072, Z6 262141, Z6 1, Z6 0]])
theorem zt2  {R : PV -> Prop} (h : zjm  R) : PCall qa 31 [] R :=
 PCall.wz Tryz.func31 aP [0] bF h

def zjn  (R : PV -> Prop) : Prop :=
 R (PV.sl false true [[Z6 8, Z6 48, Z6 57, Z6 1, Z6 0], [Z6 8, Z6 65, Z6 90, Z6 1, Z6 0], [Z6 8, Z6 95, Z6 95, Z6 1, Z6 0], [Z6 8, Z6 97, Z6 122, Z6 1, Z6 0], [Z6 8, Z6 170, Z6 170, Z6 1, Z6 0], [Z6 8, Z6 181, Z6 181, Z6 1, Z6 0], [Z6 8, Z6 186, Z6 186, Z6 1, Z6 0], [Z6 8, Z6 192, Z6 214, Z6 1, Z6 0], [Z6 8, Z6 216, Z6 246, Z6 1, Z6 0], [Z6 8, Z6 248, Z6 705, Z6 1, Z6 0], [Z6 8, Z6 880, Z6 883, Z6 1, Z6 0], [Z6 8, Z6 886, Z6 887, Z6 1, Z6 0], [Z6 8, Z6 902, Z6 902, Z6 1, Z6 0], [Z6 8, Z6 904, Z6 1023, Z6 1, Z6 0], [Z6 8, Z6 1024, Z6 1153, Z6 1, Z6 0], [Z6 8, Z6 1162, Z6 1327, Z6 1, Z6 0], [Z6 8, Z6 1329, Z6 1366, Z6 1, Z6 0], [Z6 8, Z6 1488, Z6 1514, Z6 1, Z6 0], [Z6 8, Z6 1568, Z6 1610, Z6 1, Z6 0], [Z6 8, Z6 2308, Z6 2361, Z6 1, Z6 0], [Z6 8, Z6 2392, Z6 2401, Z6 1, Z6 0], [Z6 8, Z6 2437, Z6 2489, Z6 1, Z6 0], [Z6 8, Z6 3585, Z6 3632, Z6 1, Z6 0], [Z6 8, Z6 4352, Z6 4607, Z6 1, Z6 0], [Z6 8, Z6 7680, Z6 8191, Z6 1, Z6 0], [Z6 8, Z6 8486, Z6 8486, Z6 1, Z6 0], [Z6 8, Z6 8490, Z6 8491, Z6 1, Z6 0], [Z6 8, Z6 12353, Z6 12438, Z6 1, Z6 0], [Z6 8, Z6 12449, Z6 12538, Z6 1, Z6 0], [Z6 8, Z6 13312, Z6 19903, Z6 1, Z6 0], [Z6 8, Z6 19968, Z6 40959, Z6 1, Z6 0], [Z6 8, Z6 44032, Z6 55203, Z6 1, Z6 0], [Z6 8, Z6 63744, Z6 64255, Z6 1, Z6 0], [Z6 8, Z6 131072, Z6 262141, Z6 1, Z6 0]])
theorem zt3  {R : PV -> Prop} (h : zjn  R) : PCall qa 32 [] R :=
 PCall.wz Tryz.func32 aP [0] bF h

def zjo  (R : PV -> Prop) : Prop :=
 PCall qa 25 [] fun v => ∃ n f es, v = PV.sl n f es /\ iJ true [] es 5 40 /\ PCall qa 26 [] fun v1 => ∃ n1 f1 es1, v1 = PV.sl n1 f1 es1 /\ (aR es1 5 /\ (([] ++ es).length + es1.length) * 40 <= 140737488355328) /\ PCall qa 27 [] fun v2 => ∃ n2 f2 es2, v2 = PV.sl n2 f2 es2 /\ (aR es2 5 /\ (([] ++ es ++ es1).length + es2.length) * 40 <= 140737488355328) /\ PCall qa 28 [] fun v3 => ∃ n3 f3 es3, v3 = PV.sl n3 f3 es3 /\ (aR es3 5 /\ (([] ++ es ++ es1 ++ es2).length + es3.length) * 40 <= 140737488355328) /\ PCall qa 29 [] fun v4 => ∃ n4 f4 es4, v4 = PV.sl n4 f4 es4 /\ (aR es4 5 /\ (([] ++ es ++ es1 ++ es2 ++ es3).length + es4.length) * 40 <= 140737488355328) /\ PCall qa 30 [] fun v5 => ∃ n5 f5 es5, v5 = PV.sl n5 f5 es5 /\ (aR es5 5 /\ (([] ++ es ++ es1 ++ es2 ++ es3 ++ es4).length + es5.length) * (40 : Nat) <= 140737488355328) /\ PCall qa 31 [] fun v6 => ∃ n6 f6 es6, v6 = PV.sl n6 f6 es6 /\ (aR es6 5 /\ (([] ++ es ++ es1 ++ es2 ++ es3 ++ es4 ++ es5).length + es6.length) * (40 : Nat) <= 140737488355328) /\ PCall qa 32 [] fun v7 => ∃ n7 f7 es7, v7 = PV.sl n7 f7 es7 /\ (aR es7 5 /\ (([] ++ es ++ es1 ++ es2 ++ es3 ++ es4 ++ es5 ++ es6).length + es7.length) * 40 <= 140737488355328) /\ R (PV.sl (es.isEmpty && es1.isEmpty && es2.isEmpty && es3.isEmpty && es4.isEmpty && es5.isEmpty && es6.isEmpty && es7.isEmpty) false ([] ++ es ++ es1 ++ es2 ++ es3 ++ es4 ++ es5 ++ es6 ++ es7))
theorem zt4  {R : PV -> Prop} (h : zjo  R) : PCall qa 8 [] R :=
 PCall.wz Tryz.func8 aP [0, 1] bF h

end Go.Eng
