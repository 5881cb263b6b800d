/- States run over the code: what each function gives, and what follows. -/
import Derived.Test.YtpadbcaocbghoaaGreatEngb
import Derived.RangeFuncRecord
import Derived.Shelf.SlSortCmp.NoneTotal
import Derived.Shelf.SlSortCmp.WholeK
open Go.IntKind (i64 i32)
open Go.Proofs.Tryz renaming prog → qa
open List renaming drop → qb, mem_cons_self → qc, mem_cons_of_mem → qd, mem_singleton → qf, length_cons → qg, getElem?_eq_getElem → qh, length_append → qj, rel_of_pairwise_cons → qk, getElem_append_left → ql, cons_append → qm, filter_cons → qp, filter_append → qq, getD → qt, take_of_length_le → qu, dropLast_concat → qaa, getElem?_append_right → qab, getElem_of_mem → qac, mem_append → qad, getLast?_eq_getElem? → qae, getElem?_append_left → qaf, nil_append → qag, length_map → qah, getElem?_cons_zero → qam, getElem?_map → qan, flatMap_singleton → qao, nil_sublist → qaq, mem_append_left → qar, dropLast_append_of_ne_nil → qas, getLast?_eq_some_getLast → qat, flatMap_append → qau, dropLast_concat_getLast → qav, mem_cons → qax, getElem_append_right → qba, exists_mem_of_ne_nil → qbb, drop_eq_getElem_cons → qbc, not_mem_nil → qbd, length_take → qbf, length_nil → qbg, foldl_cons → qbh, drop_eq_nil_of_le → qbj, getElem?_eq_none → qbl, take_append_drop → qbm, length_singleton → qbn, range_eq_range' → qbp, reverse_reverse → qbq, getLast?_concat → qbs, mem_map_of_mem → qbu, reverse_append → qbv, length_reverse → qbw, getElem?_take → qby, getElem?_drop → qbz, take → qcb, foldl_append → qcd, reverse_cons → qce, append_assoc → qcf, flatMap_cons → qcg, range' → qch, take_append → qci, append_nil → qck, perm_cons → qcn, take_take → qco
open Bool renaming and_eq_true → qe, not_eq_true' → qv, and_eq_false_iff → qy, false_eq_true → qaj, or_eq_false_iff → qbr, and_comm → qbt
open Int renaming le_refl → qi, toNat_natCast → qw, le_of_lt → qbe
open Nat renaming le_refl → qn, zero_add → qo, mul_le_mul_right → qr, eq_of_beq_eq_true → qx, le_trans → qak, lt_of_lt_of_le → qal, zero_le → qaw, lt_trichotomy → qaz, add_mul → qbi, beq → qbk, sub_zero → qca, mul_comm → qcc
open Array renaming getD_eq_getD_getElem? → qz, getElem?_eq_getElem → qai, getElem?_modify → qbo, length_toList → qbx, replicate → qcj
open Option renaming getD_some → qap, toList → qay, map_some → qcl, none_or → qcm
set_option linter.unusedVariables false
set_option linter.unusedSimpArgs false
namespace Go.Eng
open Go
abbrev wd (ro : Option Nat) : Fence := { Fence.wide with round := ro }
section
variable {P : Program} {n : Nat} {ro : Option Nat}
theorem zht {f : FuncId} {args : Array Value} {w : World} {R : Ending -> World -> Prop} (h : Calls P f args w R) : CallsIn (wd ro) n P f args w R := (callsIn_wide (n := n)).2 h
theorem zrp {row : String} {args : Array Value} {w : World} {R : Value -> World -> Prop} (h : Rows P row args w R) : RowsIn (wd ro) n P row args w R :=
 fun c cs _ => let ⟨v, w', r, s⟩ := h c cs; ⟨v, w', r, stepsIn_wide.2 s⟩
theorem zrq {o : Oper} {a : Act} {next next' : Act -> World -> Prop} {Q : Exit -> Act -> World -> Prop} (hn : ∀ a w, next a w -> next' a w) : ∀ {r : Result Next}, o.upon P a next Q r -> o.uponIn (wd ro) n P a next' Q r
 | .ok (.value _) _, h => hn _ _ h
 | .ok .skip _, h => hn _ _ h
 | .ok (.defer _) _, h => hn _ _ h
 | .ok (.enter f args) w, h => ⟨(fun x => by cases x), zht (Calls.mono h fun e w' q => by cases e <;> first | exact hn _ _ q | exact q)⟩
 | .ok (.row row args) w, h => ⟨(fun x => by cases x), zrp (Rows.mono h fun v w' q => hn _ _ q)⟩
 | .halt (.panic v) w, h => h
theorem sR {ops : Array Oper} {Q : Exit -> Act -> World -> Prop} (hnd : ∀ (i : Nat) o c, ops[i]? = some o -> o.op ≠ .defer c) (hQ : ∀ a w, ¬ Q .outgrown a w) : ∀ {l : List Nat} {a : Act} {w : World}, wpOps P ops Q l a w -> wpOpsIn (wd ro) n P ops Q l a w
 | [], _, _, h => h
 | i :: rest, a, w, h => by
   simp only [wpOps, wpOpsIn] at h ⊢;cases ho : ops[i]? with
   | none => simp only [ho] at h ⊢; exact sR hnd hQ h
   | some o =>
     simp only [ho] at h ⊢;split at h
     ·rename_i hw;rw [if_pos hw];rcases h with h | ⟨_, a1, w1, hq⟩
      ·refine ⟨fun _ _ => trivial, ?_⟩;rw [Oper.semAt_eq _ _ _ (fun c => hnd i o c ho)];exact zrq (fun _ _ q => sR hnd hQ q) h
      ·exact absurd hq (hQ _ _)
     ·rename_i hw;rw [if_neg hw];exact ⟨fun _ _ => trivial, sR hnd hQ h⟩
theorem zrr {F : Fence} {o : Oper} {a : Act} {next next' K : Act -> World -> Prop} {Q : Exit -> Act -> World -> Prop} (hn : ∀ a w, next a w -> next' a w) : ∀ {r : Result Next}, o.uponIn F n P a next (Exit.then K Q) r -> o.uponIn F n P a next' Q r
 | .ok (.value _) _, h => hn _ _ h
 | .ok .skip _, h => hn _ _ h
 | .ok (.defer _) _, h => hn _ _ h
 | .ok (.enter f args) w, h => ⟨h.1, CallsIn.mono h.2 fun e w' q => by cases e <;> first | exact hn _ _ q | exact q⟩
 | .ok (.row row args) w, h => ⟨h.1, RowsIn.mono h.2 fun v w' q => hn _ _ q⟩
 | .ok (.round l f tmps assign body) w, h => ⟨h.1, RoundIn.mono h.2 fun e w' q => by cases e <;> first | exact hn _ _ q | exact q⟩
 | .halt (.panic v) w, h => h
theorem sS {F : Fence} {ops : Array Oper} {Q : Exit -> Act -> World -> Prop} {l2 : List Nat} : ∀ {l1 : List Nat} {a : Act} {w : World}, wpOpsIn F n P ops (Exit.then (wpOpsIn F n P ops Q l2) Q) l1 a w -> wpOpsIn F n P ops Q (l1 ++ l2) a w
 | [], _, _, h => h
 | i :: rest, a, w, h => by
   simp only [wpOpsIn, qm] at h ⊢;cases ho : ops[i]? with
   | none => simp only [ho] at h ⊢; exact sS h
   | some o =>
     simp only [ho] at h ⊢;split at h
     ·rename_i hw;rw [if_pos hw];exact ⟨h.1, zrr (fun _ _ q => sS q) h.2⟩
     ·rename_i hw;rw [if_neg hw];exact ⟨h.1, sS h.2⟩
end
section
variable {H : Nat -> Option HSpec} {P : Program} {n N : Nat} {ro : Option Nat}
def bU : List Oper -> Bool
 | [] => true
 | o :: r => (match o.op with | .defer _ => false | _ => true) && bU r
theorem zhu {ops : Array Oper} (h : bU ops.toList = true) : ∀ (i : Nat) o c, ops[i]? = some o -> o.op ≠ .defer c := by
 have key : ∀ {l : List Oper}, bU l = true -> ∀ (i : Nat) o c, l[i]? = some o -> o.op ≠ .defer c := by
  intro l
  induction l with
  | nil => intro _ i o c hi; cases hi
  | cons x r ih =>
    intro hx i o c hi;simp only [bU, qe] at hx;cases i with
    | zero => simp at hi; subst hi; intro e; rw [e] at hx; exact absurd hx.1 (by simp)
    | succ i => exact ih hx.2 i o c (by simpa using hi)
 intro i o c hi;exact key h i o c (by simpa using hi)
theorem zap {id : Nat} {ops : Array Oper} {e : Env} {h : Hp} {K : Env -> Hp -> Prop} (hd : bU ops.toList = true) (hK : aM P H N ops.toList ops.toList e h K) {w : World} {I : Nat -> Prop} {G : Nat -> Pl} {a : Act} (hs : SRel w I G e h N a)
 {Q : Exit -> Act -> World -> Prop} (hQ : ∀ a w, ¬ Q .outgrown a w) (hq : ∀ e' h' w' I' G' a', K e' h' -> SRel w' I' G' e' h' N a' -> a'.defers = a.defers -> TrH w I G h w' I' G' h' -> Q .normal a' w') : (Code.region id ops false).wpIn (wd ro) n P Q a w := by
 refine wpIn_region (sR (zhu hd) hQ ?_);have := zZ (Qx := Q) ops.toList 0 e h (fun j _ => by simp) hK w I G a hs hq;simpa [qbp] using this
theorem vU {ops : Array Oper} {l : List Oper} {k : Nat} {e : Env} {h : Hp} {K : Env -> Hp -> Prop} (hd : bU ops.toList = true) (hl : ∀ j, j < l.length -> l[j]? = ops[k + j]?) (hK : aM P H N ops.toList l e h K) {w : World} {I : Nat -> Prop} {G : Nat -> Pl} {a : Act} (hs : SRel w I G e h N a)
 {Q : Exit -> Act -> World -> Prop} (hQ : ∀ a w, ¬ Q .outgrown a w) (hq : ∀ e' h' w' I' G' a', K e' h' -> SRel w' I' G' e' h' N a' -> a'.defers = a.defers -> TrH w I G h w' I' G' h' -> Q .normal a' w') : wpOpsIn (wd ro) n P ops Q (qch k l.length) a w :=
 sR (zhu hd) hQ (zZ (Qx := Q) l k e h hl hK w I G a hs hq)
end
section
variable {H : Nat -> Option HSpec} {P : Program} {n0 N : Nat} {Z : World -> (Nat -> Prop) -> (Nat -> Pl) -> Hp -> Prop}
def CodeZ (Z : World -> (Nat -> Prop) -> (Nat -> Pl) -> Hp -> Prop) (P : Program) (N : Nat) (c : Code) (e : Env) (h : Hp) (Q : Qt) : Prop :=
 ∀ (w : World) (I : Nat -> Prop) (G : Nat -> Pl) (a : Act) (Qx : Exit -> Act -> World -> Prop), SRel w I G e h N a -> Z w I G h ->
  (∀ x e' h' w' I' G' a', Q x e' h' -> SRel w' I' G' e' h' N a' -> a'.defers = a.defers -> Z w' I' G' h' -> Qx x.to a' w') -> c.wp P Qx a w
theorem CodeZ.of (hZ : ∀ w I G h w' I' G' h', Z w I G h -> HRel w I G h -> HRel w' I' G' h' -> TrN n0 w I G h w' I' G' h' -> Z w' I' G' h') {c : Code} {e : Env} {h : Hp} {Q : Qt} (hK : CodeS P n0 N c e h Q) : CodeZ Z P N c e h Q :=
 fun w I G a Qx hs hz hq => hK w I G a Qx hs fun x e' h' w' I' G' a' hk hs' hd ht => hq x e' h' w' I' G' a' hk hs' hd (hZ _ _ _ _ _ _ _ _ hz hs.hh hs'.hh ht)
theorem CodeZ.skip {e : Env} {h : Hp} {Q : Qt} (hK : Q .normal e h) : CodeZ Z P N .skip e h Q :=
 fun w I G a Qx hs hz hq => wp_skip (hq .normal e h w I G a hK hs rfl hz)
theorem CodeZ.ret {e : Env} {h : Hp} {Q : Qt} (hK : Q .ret e h) : CodeZ Z P N .ret e h Q :=
 fun w I G a Qx hs hz hq => wp_ret (hq .ret e h w I G a hK hs rfl hz)
theorem CodeZ.seq {x y : Code} {e : Env} {h : Hp} {Q : Qt} (hK : CodeZ Z P N x e h fun q e h => match q with | .normal => CodeZ Z P N y e h Q | q => Q q e h) : CodeZ Z P N (.seq x y) e h Q := by
 intro w I G a Qx hs hz hq;refine wp_seq (hK w I G a _ hs hz fun q e' h' w' I' G' a' hk hs' hd hz' => ?_);cases q with
 | normal => exact hk w' I' G' a' Qx hs' hz' fun q2 e2 h2 w2 I2 G2 a2 hk2 hs2 hd2 hz2 => hq q2 e2 h2 w2 I2 G2 a2 hk2 hs2 (hd2.trans hd) hz2
 | exit n => exact hq (.exit n) e' h' w' I' G' a' hk hs' hd hz'
 | ret => exact hq .ret e' h' w' I' G' a' hk hs' hd hz'
theorem CodeZ.cond {c : Operand} {x y : Code} {e : Env} {h : Hp} {Q : Qt} {t : Bool} (hc : aY [] e c = some (.pv (.bool t))) (hK : if t = true then CodeZ Z P N x e h Q else CodeZ Z P N y e h Q) : CodeZ Z P N (.cond c x y) e h Q := by
 intro w I G a Qx hs hz hq;refine wp_cond (aO hs.he (AOK.nil _) hc).bool_eq ?_;cases t with
 | true => simp only [if_true] at hK ⊢; exact hK w I G a Qx hs hz hq
 | false => simp only [qaj, if_false] at hK ⊢; exact hK w I G a Qx hs hz hq
theorem CodeZ.block {id : Nat} {c : Code} {e : Env} {h : Hp} {Q : Qt}
 (hK : CodeZ Z P N c e h fun q e h => match q with | .exit n => (bif qbk n id then Q .normal e h else Q (.exit n) e h) | q => Q q e h) : CodeZ Z P N (.block id c) e h Q := by
 intro w I G a Qx hs hz hq;refine wp_block (hK w I G a _ hs hz fun q e' h' w' I' G' a' hk hs' hd hz' => ?_);cases q with
 | normal => exact hq .normal e' h' w' I' G' a' hk hs' hd hz'
 | ret => exact hq .ret e' h' w' I' G' a' hk hs' hd hz'
 | exit n =>
   simp only [Ex.to, Exit.inBlock];cases hb : qbk n id with
   | true =>
     simp only [hb, cond_true] at hk;rw [if_pos (qx hb)];exact hq .normal e' h' w' I' G' a' hk hs' hd hz'
   | false =>
     simp only [hb, cond_false] at hk;rw [if_neg (fun e => by subst e; simp at hb)];exact hq (.exit n) e' h' w' I' G' a' hk hs' hd hz'
theorem CodeZ.mono {c : Code} {e : Env} {h : Hp} {Q Q' : Qt} (hK : CodeZ Z P N c e h Q) (hq : ∀ x e h, Q x e h -> Q' x e h) : CodeZ Z P N c e h Q' :=
 fun w I G a Qx hs hz hq' => hK w I G a Qx hs hz fun x e' h' w' I' G' a' hk => hq' x e' h' w' I' G' a' (hq _ _ _ hk)
theorem SRel.le {w : World} {I : Nat -> Prop} {G : Nat -> Pl} {e e' : Env} {h : Hp} {a : Act} (hs : SRel w I G e h N a) (hl : ∀ i v, get e' i = some v -> get e i = some v) : SRel w I G e' h N a := ⟨hs.hh, fun i v hi => hs.he i v (hl i v hi), hs.hn⟩
def LeE : Env -> Env -> Prop
 | [], _ => True
 | (i, v) :: r, e => get e i = some v /\ LeE r e
theorem LeE.le : ∀ {e' e : Env}, LeE e' e -> ∀ i v, get e' i = some v -> get e i = some v
 | [], _, _, i, v, h => by cases h
 | (k, x) :: r, e, hl, i, v, h => by
   simp only [get] at h;cases hb : qbk k i with
   | true => rw [hb] at h; have := qx hb; subst this; cases h; exact hl.1
   | false => rw [hb] at h; exact hl.2.le i v h
theorem CodeZ.loop {c : Code} {e : Env} {h : Hp} {Q : Qt} {σ : Type} (S : σ -> Env × Hp) (J : σ -> Prop) (μ : σ -> Nat) (s0 : σ) (he : ∀ i v, get (S s0).1 i = some v -> get e i = some v) (hh : h = (S s0).2) (hJ : J s0)
 (hb : ∀ s, J s -> CodeZ Z P N c (S s).1 (S s).2 fun x e h => match x with | .normal => ∃ s', (∀ i v, get (S s').1 i = some v -> get e i = some v) /\ h = (S s').2 /\ J s' /\ μ s' < μ s | x => Q x e h) : CodeZ Z P N (.loop c) e h Q := by
 intro w I G a Qx hs hz hq;subst hh
 refine wp_loop_ghost (fun n a1 w1 => ∃ s I1 G1, μ s = n /\ J s /\ SRel w1 I1 G1 (S s).1 (S s).2 N a1 /\ a1.defers = a.defers /\ Z w1 I1 G1 (S s).2) (μ s0)
  ⟨s0, I, G, rfl, hJ, hs.le he, rfl, hz⟩ ?_
 rintro n a1 w1 ⟨s, I1, G1, rfl, hj, hs1, hd1, hz1⟩;refine hb s hj w1 I1 G1 a1 _ hs1 hz1 fun x e2 h2 w2 I2 G2 a2 hk hs2 hd2 hz2 => ?_;cases x with
 | normal =>
   obtain ⟨s', hf, rfl, hj', hlt⟩ := hk;exact ⟨μ s', hlt, s', I2, G2, rfl, hj', hs2.le hf, hd2.trans hd1, hz2⟩
 | exit n => exact hq (.exit n) e2 h2 w2 I2 G2 a2 hk hs2 (hd2.trans hd1) hz2
 | ret => exact hq .ret e2 h2 w2 I2 G2 a2 hk hs2 (hd2.trans hd1) hz2
end
section
variable {w w' w2 : World} {I I' I2 : Nat -> Prop} {G G' G2 : Nat -> Pl} {h h' h2 : Hp}
theorem HRel.frame (hh : HRel w I G h) (hb : ∀ b, aS h G b -> w'.heap[b]? = w.heap[b]?) (hk : Keeps w I w' I') (hn : ∀ b, aS h G b -> ¬ I' b) (hc : ∀ b, I' b -> b < w'.heap.size) : HRel w' I' G h := by
 have blk : ∀ (i : Nat) x, h[i]? = some x -> x.alive (G i) -> w'.heap[(G i).blk]? = w.heap[(G i).blk]? := fun i x hx ha => hb _ ⟨i, x, hx, ha, rfl⟩;refine ⟨fun i x hx => ?_, hh.sep, fun i x hx ha => hn _ ⟨i, x, hx, ha, rfl⟩, hc⟩;have := hh.obs i x hx;cases x with
 | dead => trivial
 | box cs => obtain ⟨vs, ty, e1, e2, e3⟩ := this; exact ⟨vs, ty, by rw [blk i _ hx trivial]; exact e1, e2, fun k v hv => ⟨(e3 k v hv).1.mono hk (.refl _ _), (e3 k v hv).2⟩⟩
 | arr cs => obtain ⟨vs, ty, e1, e2, e3⟩ := this; exact ⟨vs, ty, by rw [blk i _ hx trivial]; exact e1, e2, fun k v hv => ⟨(e3 k v hv).1.mono hk.1 hk.2, (e3 k v hv).2⟩⟩
 | sl ty m n es =>
   cases n with
   | true => exact this
   | false =>
     obtain ⟨e1, e2, e3, e3', e4, e5⟩ := this;refine ⟨e1, e2, e3, e3', e4, fun hc => ?_⟩;obtain ⟨vs, f1, f2, f3⟩ := e5 hc;exact ⟨vs, by rw [blk i _ hx ⟨rfl, hc⟩]; exact f1, f2, fun i' e he k v hv => ⟨(f3 i' e he k v hv).1.mono hk.1 hk.2, (f3 i' e he k v hv).2⟩⟩
 | mp kvs => obtain ⟨es, ck, e1, e2, e3⟩ := this; exact ⟨es, ck, by rw [blk i _ hx trivial]; exact e1, e2, fun k kv hv => ⟨(e3 k kv hv).1.mono hk.1 hk.2, (e3 k kv hv).2.mono hk.1 hk.2⟩⟩
 | iter ty rem cur => exact IterRel.mono this (blk i _ hx trivial) hk
theorem HRel.beside (hh : HRel w I G h) (h2r : HRel w I G2 h2) (hs : ∀ b, aS h G b -> ¬ aS h2 G2 b) (t : Tr w I (aS h2 G2) w' I' (aS h' G')) (hc : ∀ b, I' b -> b < w'.heap.size) :
 HRel w' I' G h /\ Keeps w I w' I' /\ ∀ b, aS h G b -> ¬ aS h' G' b := by
 have hk : Keeps w I w' I' := ⟨fun b hb hlt => t.keep b hlt fun ⟨o, ob, h1, h2, e⟩ => h2r.nI o ob h1 h2 (e ▸ hb), fun b hb _ => t.i1 b hb⟩;refine ⟨hh.frame (fun b hb => t.keep b (hh.blk_lt hb) (hs b hb)) hk (fun b hb hI => ?_) hc, hk, fun b hb ho => ?_⟩
 ·rcases t.i2 b hI with q | q | q
  ·obtain ⟨o, ob, q1, q2, rfl⟩ := hb; exact hh.nI o ob q1 q2 q
  ·exact hs b hb q
  ·exact absurd (hh.blk_lt hb) (Nat.not_lt.2 q)
 ·rcases t.own2 b ho with q | q
  ·exact hs b hb q
  ·exact absurd (hh.blk_lt hb) (Nat.not_lt.2 q)
end
section
variable {α : Type} {Z : α -> World -> (Nat -> Prop) -> (Nat -> Pl) -> Hp -> Prop} {P : Program} {n0 N : Nat}
def CodeY (Z : α -> World -> (Nat -> Prop) -> (Nat -> Pl) -> Hp -> Prop) (P : Program) (N : Nat) (c : Code) (s : α) (e : Env) (h : Hp) (Q : α -> Qt) : Prop :=
 ∀ (w : World) (I : Nat -> Prop) (G : Nat -> Pl) (a : Act) (Qx : Exit -> Act -> World -> Prop), SRel w I G e h N a -> Z s w I G h ->
  (∀ s' x e' h' w' I' G' a', Q s' x e' h' -> SRel w' I' G' e' h' N a' -> a'.defers = a.defers -> Z s' w' I' G' h' -> Qx x.to a' w') -> c.wp P Qx a w
def zaq (Z : α -> World -> (Nat -> Prop) -> (Nat -> Pl) -> Hp -> Prop) (n0 : Nat) : Prop := ∀ s w I G h w' I' G' h', Z s w I G h -> HRel w I G h -> HRel w' I' G' h' -> TrN n0 w I G h w' I' G' h' -> Z s w' I' G' h'
theorem CodeY.of (hZ : zaq Z n0) {c : Code} {s : α} {e : Env} {h : Hp} {Q : α -> Qt} (hK : CodeS P n0 N c e h (Q s)) : CodeY Z P N c s e h Q :=
 fun w I G a Qx hs hz hq => hK w I G a Qx hs fun x e' h' w' I' G' a' hk hs' hd ht => hq s x e' h' w' I' G' a' hk hs' hd (hZ _ _ _ _ _ _ _ _ _ hz hs.hh hs'.hh ht)
theorem CodeY.skip {s : α} {e : Env} {h : Hp} {Q : α -> Qt} (hK : Q s .normal e h) : CodeY Z P N .skip s e h Q :=
 fun w I G a Qx hs hz hq => wp_skip (hq s .normal e h w I G a hK hs rfl hz)
theorem CodeY.ret {s : α} {e : Env} {h : Hp} {Q : α -> Qt} (hK : Q s .ret e h) : CodeY Z P N .ret s e h Q :=
 fun w I G a Qx hs hz hq => wp_ret (hq s .ret e h w I G a hK hs rfl hz)
theorem CodeY.exit {n : Nat} {s : α} {e : Env} {h : Hp} {Q : α -> Qt} (hK : Q s (.exit n) e h) : CodeY Z P N (.exit n) s e h Q :=
 fun w I G a Qx hs hz hq => wp_exit (hq s (.exit n) e h w I G a hK hs rfl hz)
theorem CodeY.seq {x y : Code} {s : α} {e : Env} {h : Hp} {Q : α -> Qt} (hK : CodeY Z P N x s e h fun s q e h => match q with | .normal => CodeY Z P N y s e h Q | q => Q s q e h) : CodeY Z P N (.seq x y) s e h Q := by
 intro w I G a Qx hs hz hq;refine wp_seq (hK w I G a _ hs hz fun s' q e' h' w' I' G' a' hk hs' hd hz' => ?_);cases q with
 | normal => exact hk w' I' G' a' Qx hs' hz' fun s2 q2 e2 h2 w2 I2 G2 a2 hk2 hs2 hd2 hz2 => hq s2 q2 e2 h2 w2 I2 G2 a2 hk2 hs2 (hd2.trans hd) hz2
 | exit n => exact hq s' (.exit n) e' h' w' I' G' a' hk hs' hd hz'
 | ret => exact hq s' .ret e' h' w' I' G' a' hk hs' hd hz'
theorem CodeY.cond {c : Operand} {x y : Code} {s : α} {e : Env} {h : Hp} {Q : α -> Qt} {t : Bool} (hc : aY [] e c = some (.pv (.bool t))) (hK : if t = true then CodeY Z P N x s e h Q else CodeY Z P N y s e h Q) : CodeY Z P N (.cond c x y) s e h Q := by
 intro w I G a Qx hs hz hq;refine wp_cond (aO hs.he (AOK.nil _) hc).bool_eq ?_;cases t with
 | true => simp only [if_true] at hK ⊢; exact hK w I G a Qx hs hz hq
 | false => simp only [qaj, if_false] at hK ⊢; exact hK w I G a Qx hs hz hq
theorem CodeY.block {id : Nat} {c : Code} {s : α} {e : Env} {h : Hp} {Q : α -> Qt}
 (hK : CodeY Z P N c s e h fun s q e h => match q with | .exit n => (bif qbk n id then Q s .normal e h else Q s (.exit n) e h) | q => Q s q e h) : CodeY Z P N (.block id c) s e h Q := by
 intro w I G a Qx hs hz hq;refine wp_block (hK w I G a _ hs hz fun s' q e' h' w' I' G' a' hk hs' hd hz' => ?_);cases q with
 | normal => exact hq s' .normal e' h' w' I' G' a' hk hs' hd hz'
 | ret => exact hq s' .ret e' h' w' I' G' a' hk hs' hd hz'
 | exit n =>
   simp only [Ex.to, Exit.inBlock];cases hb : qbk n id with
   | true =>
     simp only [hb, cond_true] at hk;rw [if_pos (qx hb)];exact hq s' .normal e' h' w' I' G' a' hk hs' hd hz'
   | false =>
     simp only [hb, cond_false] at hk;rw [if_neg (fun e => by subst e; simp at hb)];exact hq s' (.exit n) e' h' w' I' G' a' hk hs' hd hz'
theorem CodeY.mono {c : Code} {s : α} {e : Env} {h : Hp} {Q Q' : α -> Qt} (hK : CodeY Z P N c s e h Q) (hq : ∀ s x e h, Q s x e h -> Q' s x e h) : CodeY Z P N c s e h Q' :=
 fun w I G a Qx hs hz hq' => hK w I G a Qx hs hz fun s' x e' h' w' I' G' a' hk => hq' s' x e' h' w' I' G' a' (hq _ _ _ _ hk)
theorem CodeY.le {c : Code} {s : α} {e e' : Env} {h : Hp} {Q : α -> Qt} (hl : LeE e' e) (hK : CodeY Z P N c s e' h Q) : CodeY Z P N c s e h Q :=
 fun w I G a Qx hs hz hq => hK w I G a Qx (hs.le hl.le) hz hq
theorem CodeY.loop {c : Code} {s : α} {e : Env} {h : Hp} {Q : α -> Qt} {σ : Type} (S : σ -> Env × Hp) (A : σ -> α) (J : σ -> Prop) (μ : σ -> Nat) (s0 : σ) (he : LeE (S s0).1 e) (hh : h = (S s0).2) (ha : s = A s0) (hJ : J s0)
 (hb : ∀ u, J u -> CodeY Z P N c (A u) (S u).1 (S u).2 fun s' x e h => match x with | .normal => ∃ u', LeE (S u').1 e /\ h = (S u').2 /\ s' = A u' /\ J u' /\ μ u' < μ u | x => Q s' x e h) : CodeY Z P N (.loop c) s e h Q := by
 intro w I G a Qx hs hz hq;subst hh;subst ha
 refine wp_loop_ghost (fun n a1 w1 => ∃ u I1 G1, μ u = n /\ J u /\ SRel w1 I1 G1 (S u).1 (S u).2 N a1 /\ a1.defers = a.defers /\ Z (A u) w1 I1 G1 (S u).2) (μ s0)
  ⟨s0, I, G, rfl, hJ, hs.le he.le, rfl, hz⟩ ?_
 rintro n a1 w1 ⟨u, I1, G1, rfl, hj, hs1, hd1, hz1⟩;refine hb u hj w1 I1 G1 a1 _ hs1 hz1 fun s' x e2 h2 w2 I2 G2 a2 hk hs2 hd2 hz2 => ?_;cases x with
 | normal =>
   obtain ⟨u', hf, rfl, rfl, hj', hlt⟩ := hk;exact ⟨μ u', hlt, u', I2, G2, rfl, hj', hs2.le hf.le, hd2.trans hd1, hz2⟩
 | exit n => exact hq s' (.exit n) e2 h2 w2 I2 G2 a2 hk hs2 (hd2.trans hd1) hz2
 | ret => exact hq s' .ret e2 h2 w2 I2 G2 a2 hk hs2 (hd2.trans hd1) hz2
end
section
variable {H : Nat -> Option HSpec} {P : Program} {N : Nat} {ops : Array Oper} {Φ : Act -> World -> Prop} {k : Nat} {a : Act} {w : World}
def OpsN (P : Program) (ops : Array Oper) (k : Nat) (Φ : Act -> World -> Prop) (a : Act) (w : World) : Prop := wpOpsIn (wd none) 0 P ops (fun x a w => x = .normal /\ Φ a w) (qch k (ops.size - k)) a w
theorem sT {id : Nat} {Q : Exit -> Act -> World -> Prop} (h : OpsN P ops 0 Φ a w) (hq : ∀ a' w', Φ a' w' -> Q .normal a' w') : (Code.region id ops false).wp P Q a w := by
 refine wp_mono (Q := fun x a w => x = .normal /\ Φ a w) ((wpIn_wide (n := 0)).1 (wpIn_region (F := wd none) ?_)) ?_
 ·rw [qbp]; exact h
 ·rintro x a' w' ⟨rfl, hp⟩; exact hq _ _ hp
theorem OpsN.last (hk : ops.size <= k) (h : Φ a w) : OpsN P ops k Φ a w := by
 unfold OpsN;rw [Nat.sub_eq_zero_of_le hk];exact ⟨rfl, h⟩
theorem OpsN.step (hd : bU ops.toList = true) (j : Nat) {e : Env} {h : Hp} {K : Env -> Hp -> Prop} (hj : k + j <= ops.size) (hK : aM P H N ops.toList ((ops.toList.drop k).take j) e h K) {I : Nat -> Prop} {G : Nat -> Pl} (hs : SRel w I G e h N a)
 (hq : ∀ e' h' w' I' G' a', K e' h' -> SRel w' I' G' e' h' N a' -> a'.defers = a.defers -> TrH w I G h w' I' G' h' -> OpsN P ops (k + j) Φ a' w') : OpsN P ops k Φ a w := by
 unfold OpsN;rw [show ops.size - k = j + (ops.size - (k + j)) by omega, <- List.range'_append_1];refine sS ?_;have hl : ((ops.toList.drop k).take j).length = j := by simp; omega
 have := vU (ro := none) (n := 0) (k := k) (Q := Exit.then (wpOpsIn (wd none) 0 P ops (fun x a w => x = .normal /\ Φ a w) (qch (k + j) (ops.size - (k + j)))) fun x a w => x = .normal /\ Φ a w) hd (fun i hi => by
  rw [qby, if_pos (by omega), qbz]; simp) hK hs (fun a w h => nomatch h.1) hq
 rw [hl] at this;exact this
theorem OpsN.one {o : Oper} (ho : ops[k]? = some o) (hg : o.guard = none) (h : o.wpIn (wd none) 0 P a w (fun a w => OpsN P ops (k + 1) Φ a w) (fun x a w => x = .normal /\ Φ a w)) : OpsN P ops k Φ a w := by
 have hlt : k < ops.size := (Array.getElem?_eq_some_iff.1 ho).1;unfold OpsN;rw [show ops.size - k = (ops.size - (k + 1)) + 1 by omega, List.range'_succ];simp only [wpOpsIn, ho];rw [if_pos (by simp [Region.wanted, hg])];exact h
theorem OpsN.value {o : Oper} (ho : ops[k]? = some o) (hg : o.guard = none) {v : Value} (hr : (execOp a.eval o).run P w = .ok (.value v) w) (h : OpsN P ops (k + 1) Φ (a.put o.dst v) w) : OpsN P ops k Φ a w := by
 refine OpsN.one ho hg ⟨fun _ _ => trivial, ?_⟩;show o.uponIn (wd none) 0 P a _ _ ((o.semAt none a.eval).run P w);rw [Oper.semAt_none, hr];exact h
theorem OpsN.call {o : Oper} (ho : ops[k]? = some o) (hg : o.guard = none) {f : Nat} {args : Array Value} (hr : (execOp a.eval o).run P w = .ok (.enter f args) w) {R : Value -> World -> Prop} (hc : Calls P f args w fun e w' => ∃ cv, e = .returned cv /\ R cv w')
 (h : ∀ cv w', R cv w' -> OpsN P ops (k + 1) Φ (a.put o.dst cv) w') : OpsN P ops k Φ a w := by
 refine OpsN.one ho hg ⟨fun _ _ => trivial, ?_⟩;show o.uponIn (wd none) 0 P a _ _ ((o.semAt none a.eval).run P w);rw [Oper.semAt_none, hr];refine ⟨(fun x => by cases x), (zht hc).mono ?_⟩;rintro e w' ⟨cv, rfl, hR⟩;exact h cv w' hR
end
theorem SRel.unm {w : World} {I : Nat -> Prop} {G : Nat -> Pl} {e : Env} {h : Hp} {N : Nat} {a : Act} (hs : SRel w I G e h N a) : SRel w I G e (unm h) N a :=
 ⟨(y6 hs.hh).1, hs.he.mono (Keeps.refl w I) (y6 hs.hh).2.2, hs.hn⟩
theorem zhv {P : Program} {o : Oper} {t : TypeId} {x : Operand} (ho : o.op = .load t x) {d : TypeDesc} (hd : P.underlying t = some d) (h0 : fZ P t = false) {w : World} {I : Nat -> Prop} {G : Nat -> Pl} {e : Env} {h : Hp} {N : Nat} {a : Act} (hs : SRel w I G e h N a)
 {ob i off : Nat} (hx : aY [] e x = some (.elt ob i off)) {ty : Nat × Nat} {m : Bool} {es : List (List PV)} (hob : h[ob]? = some (.sl ty m false es)) {c : List PV} (hc : es[i]? = some c) {v : Value} (hv : c[off]? = some (.raw v)) :
 (execOp a.eval o).run P w = .ok (.value v) w := by
 have hr := aO hs.he (AOK.nil _) hx;obtain ⟨q1, q2, q3, q3', q4, q5⟩ := hs.hh.obs _ _ hob;generalize hcx : a.eval x = cx at hr;cases hr with
 | elt _ _ _ ty m es' g1 g2 =>
   have hil := (List.getElem?_eq_some_iff.1 hc).1;have hcap : (G ob).cap ≠ 0 := by omega
   obtain ⟨vs, f1, f2, f3⟩ := q5 hcap;have hsz := q4 i c hc;have hol := (List.getElem?_eq_some_iff.1 hv).1;obtain ⟨r1, r2⟩ := f3 i c hc off _ hv;have hmul : (i + 1) * (G ob).sz <= (G ob).cap * (G ob).sz := qr _ (by omega);rw [qbi] at hmul
   have hcell : w.cell? ⟨(G ob).blk, (G ob).off + i * (G ob).sz + off, none⟩ = some v := by
    rw [q3 hcap, qo, kM f1 (by omega)];rw [show vs.getD (i * (G ob).sz + off) undef = v by cases r1; rfl]
   unfold execOp;rw [ho];simp only [hcx];have := yK (P := P) (w := w) hd h0 hcell;simp only [jE, Sem.run_bind, Sem.run_pure, Result.andThen_ok, this]
theorem sU {P : Program} {f : Nat} {fn : Func} {c : Code} {args : List LV} {h : Hp} (hf : P.funcs[f]? = some fn) (hb : fn.body = some c) (hl : args.length <= fn.ntmps) {w : World} {I : Nat -> Prop} {G : Nat -> Pl} {cargs : Array Value} (hh : HRel w I G h) (hsz : cargs.size = args.length)
 (hrel : ∀ (i : Nat) v, args[i]? = some v -> LRel w I G h v (cargs.getD i undef)) {R : Ending -> World -> Prop}
 (hK : ∀ (a : Act) (Qx : Exit -> Act -> World -> Prop), SRel w I G (fI args 0) h fn.ntmps a -> a.defers = [] -> (∀ a' w', a'.defers = [] -> (∃ cv, (results fn a'.tmps).run P w' = .ok cv w' /\ R (.returned cv) w') -> Qx .normal a' w' /\ Qx .ret a' w') -> c.wp P Qx a w) : Calls P f cargs w R := by
 refine calls_of_wp hf hb ?_
 have hs : SRel w I G (fI args 0) h fn.ntmps { tmps := cargs ++ qcj (fn.ntmps - cargs.size) undef, defers := [] } := by
  refine ⟨hh, fun i v hi => ?_, by simp; omega⟩;obtain ⟨_, h2⟩ := pU hi;rw [qca] at h2;have hlt : i < cargs.size := by have := (List.getElem?_eq_some_iff.1 h2).1; omega
  have := hrel i v h2
  have e1 : (cargs ++ qcj (fn.ntmps - cargs.size) undef).getD i undef = cargs.getD i undef := by
   rw [qz, qz, Array.getElem?_append_left hlt]
  simp only [e1];exact VRel.of_plain this
 refine hK _ _ hs rfl fun a' w' hd ⟨cv, h1, h2⟩ => ⟨⟨hd, cv, h1, h2⟩, ⟨hd, cv, h1, h2⟩⟩
theorem SRel.view {w : World} {I : Nat -> Prop} {G : Nat -> Pl} {e : Env} {h : Hp} {N : Nat} {a : Act} (hs : SRel w I G e h N a) {d : Nat} {v : LV} (hv : LRel w I G h v (a.tmps.getD d undef)) : SRel w I G ((d, v) :: e) h N a := by
 refine ⟨hs.hh, fun i u hi => ?_, hs.hn⟩;simp only [get] at hi;cases hb : qbk d i with
 | true => rw [hb] at hi; cases hi; have := qx hb; subst this; exact VRel.of_plain hv
 | false => rw [hb] at hi; exact hs.he i u hi
end Go.Eng
namespace Go.Eng.Rows
structure Row where
 kind : Int
 fr : Int
 to : Int
 a : Int
 b : Int
deriving DecidableEq
structure Sp where
 fr : Int
 to : Int
 a : Int
 b : Int
deriving DecidableEq, Inhabited
def Sp.has (x : Sp) (r : Int) : Prop := x.fr <= r /\ r <= x.to
def cZ : List Sp -> Sp -> List Sp
 | [], s => if s.fr <= s.to then [s] else []
 | x :: xs, s => if x.to < s.fr then cZ xs s else if s.to < x.fr then cZ xs s else
   if s.fr < x.fr then { s with to := x.fr - 1 } :: cZ xs { s with fr := x.to + 1 } else cZ xs { s with fr := x.to + 1 }
def Rise (l : List Sp) : Prop := l.Pairwise fun x y => x.to < y.fr
def In (l : List Sp) : Prop := ∀ x ∈ l, 0 <= x.fr /\ x.fr <= x.to /\ x.to <= 1114111
def Good (l : List Sp) : Prop := Rise l /\ In l
def Apart (x y : Sp) : Prop := x.to < y.fr ∨ y.to < x.fr
def eH (l : List Sp) (r a b : Int) : Prop := ∃ x ∈ l, x.has r /\ x.a = a /\ x.b = b
theorem Rise.apart {l : List Sp} (h : Rise l) : l.Pairwise Apart := h.imp fun h => .inl h
theorem sV {l : List Sp} {s : Sp} (hl : Good l) : ∀ y ∈ cZ l s, s.fr <= y.fr /\ y.fr <= y.to /\ y.to <= s.to /\ y.a = s.a /\ y.b = s.b := by
 obtain ⟨h1, h2⟩ := hl
 induction l generalizing s with
 | nil =>
   intro y hy;simp only [cZ] at hy;split at hy
   ·simp only [qf] at hy; subst hy; refine ⟨by omega, by omega, by omega, rfl, rfl⟩
   ·cases hy
 | cons x xs ih =>
   have hx := h2 x (qc);have ih := fun s => ih (s := s) (List.Pairwise.of_cons h1) (fun y hy => h2 y (qd _ hy));intro y hy;simp only [cZ] at hy;split at hy
   ·exact ih s y hy
   ·split at hy
    ·exact ih s y hy
    ·split at hy
     ·rcases List.mem_cons.1 hy with e | hy
      ·subst e; exact ⟨qi _, by show s.fr <= x.fr - 1; omega, by show x.fr - 1 <= s.to; omega, rfl, rfl⟩
      ·have := ih _ y hy;refine ⟨by have := this.1; simp only at this; omega, this.2.1, this.2.2.1, this.2.2.2.1, this.2.2.2.2⟩
     ·have := ih _ y hy;refine ⟨by have := this.1; simp only at this; omega, this.2.1, this.2.2.1, this.2.2.2.1, this.2.2.2.2⟩
theorem zar {l : List Sp} {s : Sp} (hl : Good l) (r : Int) : (∃ y ∈ cZ l s, y.has r) ↔ s.has r /\ ∀ x ∈ l, ¬ x.has r := by
 obtain ⟨h1, h2⟩ := hl
 induction l generalizing s with
 | nil =>
   simp only [cZ];split
   ·simp
   ·simp [Sp.has]; omega
 | cons x xs ih =>
   have hx := h2 x (qc);have hrise : ∀ {y}, y ∈ xs -> x.to < y.fr := fun hy => qk h1 hy;have ih := fun s => ih (s := s) (List.Pairwise.of_cons h1) (fun y hy => h2 y (qd _ hy));simp only [cZ, List.forall_mem_cons];split
   ·rw [ih s]; simp only [Sp.has];exact ⟨fun ⟨a, b⟩ => ⟨a, by omega, b⟩, fun ⟨a, _, b⟩ => ⟨a, b⟩⟩
   ·split
    ·rw [ih s]; simp only [Sp.has];exact ⟨fun ⟨a, b⟩ => ⟨a, by omega, b⟩, fun ⟨a, _, b⟩ => ⟨a, b⟩⟩
    ·split
     ·rw [show (∃ y ∈ { s with to := x.fr - 1 } :: cZ xs { s with fr := x.to + 1 }, y.has r) ↔ (Sp.has { s with to := x.fr - 1 } r ∨ ∃ y ∈ cZ xs { s with fr := x.to + 1 }, y.has r) by simp, ih];simp only [Sp.has];constructor
      ·rintro (⟨a, b⟩ | ⟨⟨a, b⟩, c⟩)
       ·refine ⟨⟨a, by omega⟩, by omega, fun y hy => ?_⟩;have := hrise hy; omega
       ·exact ⟨⟨by omega, b⟩, by omega, c⟩
      ·rintro ⟨⟨a, b⟩, c, d⟩;by_cases h : r <= x.fr - 1
       ·exact .inl ⟨a, h⟩
       ·exact .inr ⟨⟨by omega, b⟩, d⟩
     ·rw [ih];simp only [Sp.has];constructor
      ·rintro ⟨⟨a, b⟩, c⟩;exact ⟨⟨by omega, b⟩, by omega, c⟩
      ·rintro ⟨⟨a, b⟩, c, d⟩;exact ⟨⟨by omega, b⟩, d⟩
theorem zrs {l : List Sp} {s : Sp} (hl : Good l) : Rise (cZ l s) := by
 obtain ⟨h1, h2⟩ := hl
 induction l generalizing s with
 | nil => simp only [cZ, Rise]; split <;> simp
 | cons x xs ih =>
   have hx := h2 x (qc);have hg : Good xs := ⟨List.Pairwise.of_cons h1, fun y hy => h2 y (qd _ hy)⟩;have ih := fun s => ih (s := s) hg.1 hg.2;simp only [cZ];split
   ·exact ih s
   ·split
    ·exact ih s
    ·split
     ·refine List.pairwise_cons.2 ⟨fun y hy => ?_, ih _⟩;have := (sV hg y hy).1;simp only at this ⊢; omega
     ·exact ih _
theorem zhw (l : List Sp) (s : Sp) : (cZ l s).length <= l.length + 1 := by
 induction l generalizing s with
 | nil => simp only [cZ]; split <;> simp
 | cons x xs ih =>
   simp only [cZ];split
   ·have := ih s; simp; omega
   ·split
    ·have := ih s; simp; omega
    ·split
     ·have := ih { s with fr := x.to + 1 }; simp; omega
     ·have := ih { s with fr := x.to + 1 }; simp; omega
theorem Good.len_aux {l : List Sp} (h : Good l) : ∀ c : Int, 0 <= c -> (∀ x ∈ l, c <= x.fr) -> c <= 1114112 -> (l.length : Int) <= 1114112 - c := by
 obtain ⟨h1, h2⟩ := h
 induction l with
 | nil => intro c h0 hc h; simp; omega
 | cons x xs ih =>
   intro c h0 hc hm;have hx := h2 x (qc);have hcx := hc x (qc);have := ih (List.Pairwise.of_cons h1) (fun y hy => h2 y (qd _ hy)) (x.to + 1) (by omega) (fun y hy => by have := qk h1 hy; omega) (by omega);simp only [qg];omega
theorem Good.len {l : List Sp} (h : Good l) : l.length <= 1114112 := by
 have := h.len_aux 0 (qi _) (fun x hx => (h.2 x hx).1) (by omega);omega
theorem zas {l t : List Sp} {s : Sp} (hl : Good l) (h0 : 0 <= s.fr) (h1 : s.to <= 1114111) (hp : t.Perm (l ++ cZ l s)) (hs : t.Pairwise fun x y => ¬ y.fr < x.fr) : Good t := by
 have hin : In (l ++ cZ l s) := fun x hx => by
  rcases List.mem_append.1 hx with hx | hx
  ·exact hl.2 x hx
  ·have := sV hl x hx; omega
 have hap : (l ++ cZ l s).Pairwise Apart := by
  refine List.pairwise_append.2 ⟨hl.1.apart, (zrs hl).apart, fun x hx y hy => ?_⟩;have hy2 := sV hl y hy;have hx2 := hl.2 x hx;by_cases h : x.to < y.fr
  ·exact .inl h
  ·by_cases h' : y.to < x.fr
   ·exact .inr h'
   ·exfalso;have hh := ((zar hl (if x.fr <= y.fr then y.fr else x.fr)).1 ⟨y, hy, by unfold Sp.has; split <;> omega⟩).2 x hx;apply hh;unfold Sp.has;split <;> omega
 have hap2 : t.Pairwise Apart := (hp.pairwise_iff (fun h => h.symm)).2 hap;have hin2 : In t := fun x hx => hin x (hp.mem_iff.1 hx);refine ⟨?_, hin2⟩;have := (List.Pairwise.and hap2 hs);refine List.Pairwise.imp_of_mem (fun {x y} hx hy h => ?_) this;have hx := hin2 x hx;have hy := hin2 y hy;rcases h.1 with h' | h'
 ·exact h'
 ·have := h.2; omega
theorem zrt {l t : List Sp} {s : Sp} (hl : Good l) (hp : t.Perm (l ++ cZ l s)) (r a b : Int) : eH t r a b ↔ eH l r a b ∨ (s.has r /\ s.a = a /\ s.b = b /\ ∀ x ∈ l, ¬ x.has r) := by
 unfold eH;simp only [hp.mem_iff, qad];constructor
 ·rintro ⟨x, hx | hx, h1, h2, h3⟩
  ·exact .inl ⟨x, hx, h1, h2, h3⟩
  ·have h4 := sV hl x hx;have h5 := (zar hl r).1 ⟨x, hx, h1⟩;exact .inr ⟨h5.1, by omega, by omega, h5.2⟩
 ·rintro (⟨x, hx, h⟩ | ⟨h1, h2, h3, h4⟩)
  ·exact ⟨x, .inl hx, h⟩
  ·obtain ⟨y, hy, h⟩ := (zar hl r).2 ⟨h1, h4⟩;have h5 := sV hl y hy;exact ⟨y, .inr hy, h, by omega, by omega⟩
theorem zhx : ∀ {t u : List Sp}, t.Perm u -> Good t -> Good u -> t = u
 | [], u, hp, _, _ => by simp at hp; exact hp.symm
 | x :: t, [], hp, _, _ => by simp at hp
 | x :: t, y :: u, hp, ht, hu => by
   have hxy : x = y := by
    have hx : x ∈ y :: u := hp.mem_iff.1 qc;have hy : y ∈ x :: t := hp.mem_iff.2 qc;rcases List.mem_cons.1 hx with e | hx
    ·exact e
    ·rcases List.mem_cons.1 hy with e | hy
     ·exact e.symm
     ·have h1 := qk hu.1 hx;have h2 := qk ht.1 hy;have h3 := ht.2 x qc;have h4 := hu.2 y qc;omega
   subst hxy;have hp' : t.Perm u := hp.cons_inv;rw [zhx hp' ⟨List.Pairwise.of_cons ht.1, fun z hz => ht.2 z (qd _ hz)⟩ ⟨List.Pairwise.of_cons hu.1, fun z hz => hu.2 z (qd _ hz)⟩]
def eR (acc : List Sp) (x : Sp) : List Sp :=
 match acc.getLast? with
 | some y => if y.to + 1 = x.fr /\ y.a = x.a /\ y.b = x.b then acc.dropLast ++ [{ y with to := x.to }] else acc ++ [x]
 | none => acc ++ [x]
def iN (l : List Sp) : List Sp := l.foldl eR []
def Split (l : List Sp) : Prop := ∀ (i : Nat) (h : i + 1 < l.length), ¬ (l[i].to + 1 = l[i+1].fr /\ l[i].a = l[i+1].a /\ l[i].b = l[i+1].b)
theorem Split.append {l : List Sp} {x : Sp} (h : Split l) (hl : ∀ y, l.getLast? = some y -> ¬ (y.to + 1 = x.fr /\ y.a = x.a /\ y.b = x.b)) : Split (l ++ [x]) := by
 intro i hi;simp only [qj, qg, qbg] at hi;by_cases h1 : i + 1 < l.length
 ·have := h i h1;rw [ql (by omega), ql h1];exact this
 ·have e : i + 1 = l.length := by omega
  have := hl l[i] (by rw [qae, qh (by omega)]; congr 2; omega);rw [ql (by omega), qba (by omega)];simpa using this
theorem zru {l : List Sp} {y z : Sp} (h : Split (l ++ [y])) (h1 : z.fr = y.fr) (h2 : z.a = y.a) (h3 : z.b = y.b) : Split (l ++ [z]) := by
 refine Split.append (fun i hi => ?_) fun u hu => ?_
 ·have := h i (by simp; omega);rw [ql (by omega), ql hi] at this;exact this
 ·have hlen : 0 < l.length := by cases l with | nil => simp at hu | cons => simp
  have := h (l.length - 1) (by simp; omega);rw [ql (by omega), qba (by omega)] at this;rw [qae, qh (by omega)] at hu;cases hu;simpa [h1, h2, h3] using this
theorem zhy {l : List Sp} {y : Sp} (h : l.getLast? = some y) : ∃ k, l = k ++ [y] := by
 refine ⟨l.dropLast, ?_⟩;have hne : l ≠ [] := by rintro rfl; simp at h
 rw [qat hne] at h;cases h;exact (qav hne).symm
theorem zrv (acc : List Sp) (x : Sp) : (eR acc x).length <= acc.length + 1 := by
 unfold eR;split
 ·split <;> simp <;> omega
 ·simp
theorem zrw {acc : List Sp} {x : Sp} (hg : Good (acc ++ [x])) (hs : Split acc) : Good (eR acc x) /\ Split (eR acc x) /\ (∀ r a b, eH (eR acc x) r a b ↔ eH (acc ++ [x]) r a b) /\ (∀ y, (eR acc x).getLast? = some y -> y.to = x.to) := by
 unfold eR;split
 next y hy =>
  obtain ⟨k, rfl⟩ := zhy hy;split
  next h =>
   obtain ⟨h1, h2, h3⟩ := h;rw [qaa];obtain ⟨g1, g2⟩ := hg;have hy2 := g2 y (by simp);have hx2 := g2 x (by simp);refine ⟨⟨?_, fun z hz => ?_⟩, zru hs rfl rfl rfl, fun r a b => ?_, fun z hz => by simp at hz; subst hz; rfl⟩
   ·have g3 := (List.pairwise_append.1 g1).1;have g4 := List.pairwise_append.1 g3;refine List.pairwise_append.2 ⟨g4.1, by simp, fun u hu v hv => ?_⟩;simp only [qf] at hv;subst hv;exact g4.2.2 u hu y (by simp)
   ·rcases List.mem_append.1 hz with hz | hz
    ·exact g2 z (by simp [hz])
    ·simp only [qf] at hz; subst hz; exact ⟨hy2.1, by show y.fr <= x.to; omega, hx2.2.2⟩
   ·simp only [eH, qad, qf, Sp.has];constructor
    ·rintro ⟨z, hz | rfl, h⟩
     ·exact ⟨z, .inl (.inl hz), h⟩
     ·obtain ⟨⟨e1, e2⟩, e3, e4⟩ := h;simp only at e1 e2 e3 e4;by_cases hr : r <= y.to
      ·exact ⟨y, .inl (.inr rfl), ⟨e1, hr⟩, e3, e4⟩
      ·exact ⟨x, .inr rfl, ⟨by omega, e2⟩, by omega, by omega⟩
    ·rintro ⟨z, (hz | rfl) | rfl, ⟨e1, e2⟩, e3, e4⟩
     ·exact ⟨z, .inl hz, ⟨e1, e2⟩, e3, e4⟩
     ·exact ⟨_, .inr rfl, ⟨e1, by show r <= x.to; omega⟩, e3, e4⟩
     ·exact ⟨_, .inr rfl, ⟨by show y.fr <= r; omega, e2⟩, by show y.a = a; omega, by show y.b = b; omega⟩
  next h =>
   refine ⟨hg, hs.append fun z hz => ?_, fun r a b => Iff.rfl, fun z hz => by simp at hz; subst hz; rfl⟩;rw [hy] at hz; cases hz; exact h
 next hy =>
  refine ⟨hg, hs.append fun z hz => ?_, fun r a b => Iff.rfl, fun z hz => by simp at hz; subst hz; rfl⟩;rw [hy] at hz; cases hz
theorem zrx {l : List Sp} : ∀ {acc : List Sp}, Good acc -> Split acc -> Good l -> (∀ y, acc.getLast? = some y -> ∀ x ∈ l, y.to < x.fr) -> Good (l.foldl eR acc) /\ Split (l.foldl eR acc) /\ ∀ r a b, eH (l.foldl eR acc) r a b ↔ eH acc r a b ∨ eH l r a b := by
 induction l with
 | nil => intro acc h1 h2 h3 h4; exact ⟨h1, h2, fun r a b => by simp [eH]⟩
 | cons x xs ih =>
   intro acc h1 h2 h3 h4;have hxs : Good xs := ⟨List.Pairwise.of_cons h3.1, fun z hz => h3.2 z (qd _ hz)⟩
   have hg : Good (acc ++ [x]) := by
    refine ⟨List.pairwise_append.2 ⟨h1.1, by simp, fun u hu v hv => ?_⟩, fun z hz => ?_⟩
    ·simp only [qf] at hv;subst hv;have hne : acc ≠ [] := by rintro rfl; simp at hu
     obtain ⟨y, hy⟩ : ∃ y, acc.getLast? = some y := ⟨_, qat hne⟩;have h5 := h4 y hy v qc;obtain ⟨k, rfl⟩ := zhy hy;rcases List.mem_append.1 hu with hu | hu
     ·have := (List.pairwise_append.1 h1.1).2.2 u hu y (by simp);have := h1.2 y (by simp);omega
     ·simp only [qf] at hu; subst hu; exact h5
    ·rcases List.mem_append.1 hz with hz | hz
     ·exact h1.2 z hz
     ·simp only [qf] at hz; subst hz; exact h3.2 z qc
   obtain ⟨j1, j2, j3, j4⟩ := zrw hg h2;obtain ⟨k1, k2, k3⟩ := ih j1 j2 hxs (fun y hy z hz => by rw [j4 y hy]; exact qk h3.1 hz);refine ⟨k1, k2, fun r a b => ?_⟩;rw [qbh, k3, j3];unfold eH;simp only [qad, qax, qbd, or_false];constructor
   ·rintro (⟨z, hz | rfl, h⟩ | ⟨z, hz, h⟩)
    ·exact .inl ⟨z, hz, h⟩
    ·exact .inr ⟨_, .inl rfl, h⟩
    ·exact .inr ⟨z, .inr hz, h⟩
   ·rintro (⟨z, hz, h⟩ | ⟨z, rfl | hz, h⟩)
    ·exact .inl ⟨z, .inl hz, h⟩
    ·exact .inl ⟨_, .inr rfl, h⟩
    ·exact .inr ⟨z, hz, h⟩
theorem zat {l : List Sp} (h : Good l) : Good (iN l) /\ Split (iN l) /\ ∀ r a b, eH (iN l) r a b ↔ eH l r a b := by
 have := zrx (l := l) (acc := []) ⟨List.Pairwise.nil, fun _ h => by cases h⟩ (fun i hi => by simp at hi) h (by simp);refine ⟨this.1, this.2.1, fun r a b => ?_⟩;rw [iN, this.2.2];simp [eH]
def ins (x : Sp) : List Sp -> List Sp
 | [] => [x]
 | y :: l => if y.fr < x.fr then y :: ins x l else x :: y :: l
def vV : List Sp -> List Sp
 | [] => []
 | x :: l => ins x (vV l)
theorem zhz (x : Sp) (l : List Sp) : (ins x l).Perm (x :: l) := by
 induction l with
 | nil => exact List.Perm.refl _
 | cons y l ih =>
   simp only [ins];split
   ·exact ((List.Perm.cons y ih).trans (List.Perm.swap x y l))
   ·exact List.Perm.refl _
theorem vW (l : List Sp) : (vV l).Perm l := by
 induction l with
 | nil => exact List.Perm.refl _
 | cons x l ih => exact (zhz x _).trans (List.Perm.cons x ih)
theorem zry {x : Sp} {l : List Sp} (h : l.Pairwise fun x y => ¬ y.fr < x.fr) : (ins x l).Pairwise fun x y => ¬ y.fr < x.fr := by
 induction l with
 | nil => simp [ins]
 | cons y l ih =>
   simp only [ins];have h1 : ∀ z ∈ l, ¬ z.fr < y.fr := fun z hz => qk h hz;split
   ·refine List.pairwise_cons.2 ⟨fun z hz => ?_, ih (List.Pairwise.of_cons h)⟩;rcases List.mem_cons.1 ((zhz x l).mem_iff.1 hz) with e | hz
    ·subst e; omega
    ·exact h1 z hz
   ·refine List.pairwise_cons.2 ⟨fun z hz => ?_, h⟩;rcases List.mem_cons.1 hz with e | hz
    ·subst e; omega
    ·have := h1 z hz; omega
theorem zh0 (l : List Sp) : (vV l).Pairwise fun x y => ¬ y.fr < x.fr := by
 induction l with
 | nil => exact List.Pairwise.nil
 | cons x l ih => exact zry ih
def Row.sp (x : Row) : Sp := ⟨if x.fr < 0 then 0 else x.fr, if 1114111 < x.to then 1114111 else x.to, x.a, x.b⟩
theorem Row.sp_lo (x : Row) : 0 <= x.sp.fr := by simp only [Row.sp]; split <;> omega
theorem Row.sp_hi (x : Row) : x.sp.to <= 1114111 := by simp only [Row.sp]; split <;> omega
def kW (k : Int) (l : List Sp) (x : Row) : List Sp := if x.kind = k then vV (l ++ cZ l x.sp) else l
def gL (k : Int) (rows : List Row) : List Sp := rows.foldl (kW k) []
def aJ (k : Int) (rows : List Row) : List Sp := iN (gL k rows)
def Row.has (x : Row) (k r : Int) : Bool := decide (x.kind = k) && (decide (x.fr <= r) && decide (r <= x.to))
def first (rows : List Row) (k r : Int) : Option (Int × Int) := (rows.find? fun x => x.has k r).map fun x => (x.a, x.b)
theorem zrz {k : Int} {l : List Sp} (h : Good l) (x : Row) : Good (kW k l x) := by
 unfold kW;split
 ·exact zas h x.sp_lo x.sp_hi (vW _) (zh0 _)
 ·exact h
theorem zr0 {k : Int} {l t : List Sp} (h : Good l) {x : Row} (hx : x.kind = k) (hp : t.Perm (l ++ cZ l x.sp)) (hs : t.Pairwise fun x y => ¬ y.fr < x.fr) : t = kW k l x := by
 unfold kW;rw [if_pos hx];exact zhx (hp.trans (vW _).symm) (zas h x.sp_lo x.sp_hi hp hs) (zas h x.sp_lo x.sp_hi (vW _) (zh0 _))
theorem zr1 {k : Int} (rows : List Row) : ∀ {l : List Sp}, Good l -> Good (rows.foldl (kW k) l) := by
 induction rows with
 | nil => intro l h; exact h
 | cons x xs ih => intro l h; exact ih (zrz h x)
theorem vX (k : Int) (rows : List Row) : Good (gL k rows) := zr1 rows ⟨List.Pairwise.nil, fun _ h => by cases h⟩
theorem zh1 (k : Int) (rows : List Row) (x : Row) : gL k (rows ++ [x]) = kW k (gL k rows) x := by simp [gL]
theorem zr2 (rows : List Row) (x : Row) (k r : Int) : first (rows ++ [x]) k r = (first rows k r).or (if x.has k r then some (x.a, x.b) else none) := by
 unfold first
 rw [List.find?_append];cases h : rows.find? fun x => x.has k r with
 | some y => simp
 | none => simp only [qcm, Option.map_none, List.find?_singleton]; split <;> rfl
theorem zr3 (k : Int) (rows : List Row) (r a b : Int) : eH (gL k rows) r a b ↔ (0 <= r /\ r <= 1114111) /\ first rows k r = some (a, b) := by
 suffices H : ∀ n, ∀ (rows : List Row), rows.length = n -> ∀ r a b, eH (gL k rows) r a b ↔ (0 <= r /\ r <= 1114111) /\ first rows k r = some (a, b) from H _ rows rfl r a b
 intro n
 induction n with
 | zero =>
   intro rows h r a b;have := List.length_eq_zero_iff.1 h;subst this;simp [gL, eH, first]
 | succ n ih =>
   intro rows h r a b
   obtain ⟨ys, x, rfl⟩ : ∃ ys x, rows = ys ++ [x] := by
    have hne : rows ≠ [] := by rintro rfl; simp at h
    exact ⟨rows.dropLast, rows.getLast hne, (qav hne).symm⟩
   have ih := ih ys (by simpa using h)
   rw [zh1, zr2];unfold kW;split
   next hk =>
    rw [zrt (vX k ys) (vW _), ih]
    have hno : (∀ y ∈ gL k ys, ¬ y.has r) ↔ ∀ a b, ¬ eH (gL k ys) r a b := by
     constructor
     ·rintro h a b ⟨y, hy, h1, _⟩; exact h y hy h1
     ·intro h y hy h1; exact h y.a y.b ⟨y, hy, h1, rfl, rfl⟩
    rw [hno];simp only [ih]
    have hsp : x.sp.has r ↔ (0 <= r /\ r <= 1114111) /\ x.has k r = true := by
     simp only [Sp.has, Row.sp, Row.has, qe, aB, hk, true_and];split <;> split <;> omega
    rw [hsp];cases hf : first ys k r with
    | some p =>
      simp only [Option.some_or];constructor
      ·rintro (h | ⟨⟨h1, h2⟩, _, _, h3⟩)
       ·exact h
       ·exact absurd ⟨h1, rfl⟩ (h3 p.1 p.2)
      ·exact fun h => .inl h
    | none =>
      simp only [qcm, reduceCtorEq, and_false, false_or, not_false_eq_true, implies_true, and_true];constructor
      ·rintro ⟨⟨h1, h2⟩, h3, h4⟩; rw [if_pos h2, <- h3, <- h4]; exact ⟨h1, rfl⟩
      ·rintro ⟨h1, h2⟩;split at h2
       ·cases h2; exact ⟨⟨h1, by assumption⟩, rfl, rfl⟩
       ·cases h2
   next hk =>
    rw [ih];have : x.has k r = false := by simp [Row.has, hk]
    rw [this];simp
theorem oC (k : Int) (rows : List Row) : Good (aJ k rows) := (zat (vX k rows)).1
theorem zr4 (k : Int) (rows : List Row) (r a b : Int) : eH (aJ k rows) r a b ↔ (0 <= r /\ r <= 1114111) /\ first rows k r = some (a, b) := by
 rw [aJ, (zat (vX k rows)).2.2, zr3]
example : aJ 1 [⟨1, 5, 9, 7, 0⟩, ⟨1, 8, 12, 8, 0⟩] = [⟨5, 9, 7, 0⟩, ⟨10, 12, 8, 0⟩] := by decide
end Go.Eng.Rows
namespace Go.Eng.Trie
open Go Go.Eng
structure Pc (α : Type) where
 fr : Int
 to : Int
 v : α
variable {α : Type}
def findL : List (Pc α) -> α -> Int -> Int -> α × Int
 | [], z, _, last => (z, last)
 | p :: r, z, i, last => if p.fr <= i /\ i <= p.to then (p.v, if last < p.to then last else p.to) else if i < p.fr /\ p.fr <= last then findL r z i (p.fr - 1) else findL r z i last
theorem zau (p : Pc α) (r : List (Pc α)) (z : α) (i last : Int) : findL (p :: r) z i last = if p.fr <= i /\ i <= p.to then (p.v, if last < p.to then last else p.to) else if i < p.fr /\ p.fr <= last then findL r z i (p.fr - 1) else findL r z i last := rfl
def gM : List (Pc α) -> α -> Int -> α
 | [], z, _ => z
 | p :: r, z, i => if p.fr <= i /\ i <= p.to then p.v else gM r z i
theorem sW : ∀ (l : List (Pc α)) (z : α) (i last : Int), i <= last -> (findL l z i last).1 = gM l z i /\ i <= (findL l z i last).2 /\ (findL l z i last).2 <= last /\ ∀ j, i <= j -> j <= (findL l z i last).2 -> gM l z j = (findL l z i last).1
 | [], z, i, last, h => ⟨rfl, h, qi _, fun _ _ _ => rfl⟩
 | p :: r, z, i, last, h => by
   unfold findL gM;by_cases h1 : p.fr <= i /\ i <= p.to
   ·rw [if_pos h1, if_pos h1];dsimp only;have : (if last < p.to then last else p.to) <= last /\ (if last < p.to then last else p.to) <= p.to /\ i <= (if last < p.to then last else p.to) := by split <;> omega
    refine ⟨rfl, this.2.2, this.1, fun j hj hj2 => ?_⟩;rw [if_pos (by omega)]
   ·rw [if_neg h1, if_neg h1];by_cases h2 : i < p.fr /\ p.fr <= last
    ·rw [if_pos h2];obtain ⟨a, b, c, d⟩ := sW r z i (p.fr - 1) (by omega);refine ⟨a, b, by omega, fun j hj hj2 => ?_⟩;rw [if_neg (by omega)];exact d j hj hj2
    ·rw [if_neg h2];obtain ⟨a, b, c, d⟩ := sW r z i last h;refine ⟨a, b, c, fun j hj hj2 => ?_⟩;rw [if_neg (by omega)];exact d j hj hj2
def aV (α : Type) := { l : List α // l.length = 128 }
instance [DecidableEq α] : DecidableEq (aV α) := fun a b => if h : a.1 = b.1 then isTrue (Subtype.ext h) else isFalse fun e => h (by rw [e])
def rep (v : α) : aV α := ⟨List.replicate 128 v, by simp⟩
variable {sz : Int} {F : Int -> α} {idx : List Int} {blk : List (aV α)}
structure TOK (sz : Int) (F : Int -> α) (idx : List Int) (blk : List (aV α)) : Prop where
 len : sz <= 128 * idx.length
 ok : ∀ (q : Nat) k, idx[q]? = some k -> 0 <= k /\ ∃ b : aV α, blk[k.toNat]? = some b /\ ∀ (j : Nat) u, b.1[j]? = some u -> (128 * q + j : Int) < sz -> u = F (128 * q + j)
theorem TOK.get (h : TOK sz F idx blk) {i : Int} (h0 : 0 <= i) (h1 : i < sz) : ∃ (hq : (i / 128).toNat < idx.length), 0 <= idx[(i / 128).toNat] /\ ∃ (hk : idx[(i / 128).toNat].toNat < blk.length), ∃ (hj : (i % 128).toNat < (blk[idx[(i / 128).toNat].toNat]).1.length), (blk[idx[(i / 128).toNat].toNat]).1[(i % 128).toNat] = F i := by
 have hl := h.len;have hq : (i / 128).toNat < idx.length := by omega
 obtain ⟨g0, b, g1, g2⟩ := h.ok (i / 128).toNat _ (qh hq);obtain ⟨hk, hb⟩ := List.getElem?_eq_some_iff.1 g1;have hj : (i % 128).toNat < (blk[idx[(i / 128).toNat].toNat]).1.length := by rw [(blk[idx[(i / 128).toNat].toNat]).2]; omega
 refine ⟨hq, g0, hk, hj, ?_⟩;have hj' : (i % 128).toNat < b.1.length := by rw [b.2]; omega
 have := g2 (i % 128).toNat _ (qh hj') (by omega);have e : (128 * ((i / 128).toNat : Int) + ((i % 128).toNat : Int)) = i := by omega
 rw [e] at this;simp only [hb];exact this
theorem zav {b c : aV α} {k : Nat} (h : blk[k]? = some b) : (blk ++ [c])[k]? = some b := by
 have := (List.getElem?_eq_some_iff.1 h).1;rw [qaf this]; exact h
variable [DecidableEq α]
structure TInv (sz : Int) (F : Int -> α) (idx : List Int) (blk : List (aV α)) (kn : List (aV α × Int)) (ev : List (α × Int)) : Prop where
 kn_ok : ∀ b k, cN b kn = some k -> 0 <= k /\ blk[k.toNat]? = some b
 ev_ok : ∀ v k, cN v ev = some k -> 0 <= k /\ blk[k.toNat]? = some (rep v)
 idx_ok : ∀ (q : Nat) k, idx[q]? = some k -> 0 <= k /\ ∃ b : aV α, blk[k.toNat]? = some b /\ ∀ (j : Nat) u, b.1[j]? = some u -> (128 * q + j : Int) < sz -> u = F (128 * q + j)
variable {kn : List (aV α × Int)} {ev : List (α × Int)}
theorem TInv.nil : TInv sz F [] [] [] [] := ⟨fun _ _ h => (by cases h), fun _ _ h => (by cases h), fun _ _ h => (by simp at h)⟩
theorem TInv.place (h : TInv sz F idx blk kn ev) (b : aV α) : TInv sz F idx (blk ++ [b]) (cV b (blk.length : Int) kn) ev := by
 refine ⟨fun c k hc => ?_, fun v k hv => ?_, fun q k hq => ?_⟩
 ·rw [nZ] at hc;split at hc
  ·rename_i e;cases hc;exact ⟨by omega, by simp [e]⟩
  ·exact ⟨(h.kn_ok c k hc).1, zav (h.kn_ok c k hc).2⟩
 ·exact ⟨(h.ev_ok v k hv).1, zav (h.ev_ok v k hv).2⟩
 ·obtain ⟨h1, c, h2, h3⟩ := h.idx_ok q k hq;exact ⟨h1, c, zav h2, h3⟩
theorem TInv.even (h : TInv sz F idx blk kn ev) {v : α} {k : Int} (h0 : 0 <= k) (hk : blk[k.toNat]? = some (rep v)) : TInv sz F idx blk kn (cV v k ev) := by
 refine ⟨h.kn_ok, fun c k' hc => ?_, h.idx_ok⟩;rw [nZ] at hc;split at hc
 ·rename_i e;cases hc;exact ⟨h0, by rw [e]; exact hk⟩
 ·exact h.ev_ok c k' hc
theorem TInv.push (h : TInv sz F idx blk kn ev) {b : aV α} {k : Int} (h0 : 0 <= k) (hk : blk[k.toNat]? = some b) (hb : ∀ (j : Nat) u, b.1[j]? = some u -> (128 * idx.length + j : Int) < sz -> u = F (128 * idx.length + j)) : TInv sz F (idx ++ [k]) blk kn ev := by
 refine ⟨h.kn_ok, h.ev_ok, fun q k' hq => ?_⟩;rcases qaz q idx.length with hl | hl | hl
 ·rw [qaf hl] at hq;exact h.idx_ok q k' hq
 ·subst hl;simp at hq;subst hq;exact ⟨h0, b, hk, hb⟩
 ·rw [qbl (by simp; omega)] at hq; cases hq
end Go.Eng.Trie
namespace Go.Eng.Rows
open Go Go.Eng Go.Eng.Trie
def cD (rows : List Row) (k r : Int) : Option (Int × Int) := if 0 <= r /\ r <= 1114111 then first rows k r else none
def aF (rows : List Row) (k r : Int) : Int := match cD rows k r with | some p => p.1 | none => 0
def cE (rows : List Row) (k r : Int) : Bool := match cD rows k r with | some p => decide (p.1 = 1) | none => false
def aI (rows : List Row) (r : Int) : Int × Int := match cD rows 2 r with | some p => p | none => (0, 0)
def dV (rows : List Row) (r : Int) : Bool × Bool × Bool × Bool := (cE rows 5 r, cE rows 7 r, cE rows 8 r, cE rows 3 r)
def eC (rows : List Row) (r : Int) : Bool :=
 !decide (aI rows r = (0, 0)) && (decide ((aI rows r).2 = 0) || (cE rows 3 r || (!decide (aF rows 1 r = 0) || !decide (aF rows 1 (aI rows r).1 = 0))))
theorem zh2 {rows : List Row} {k r a b : Int} : eH (aJ k rows) r a b ↔ cD rows k r = some (a, b) := by
 rw [zr4];unfold cD;by_cases h : 0 <= r /\ r <= 1114111
 ·rw [if_pos h]; exact ⟨fun h => h.2, fun h2 => ⟨h, h2⟩⟩
 ·rw [if_neg h]; exact ⟨fun h2 => absurd h2.1 h, fun h2 => by cases h2⟩
theorem zaw {rows : List Row} {k r : Int} {p : Int × Int} (h : cD rows k r = some p) : ∃ s ∈ aJ k rows, s.has r /\ s.a = p.1 /\ s.b = p.2 := by
 obtain ⟨s, h1, h2, h3, h4⟩ := zh2.2 (show cD rows k r = some (p.1, p.2) from h);exact ⟨s, h1, h2, h3, h4⟩
theorem oD {rows : List Row} {k r : Int} {s : Sp} (hs : s ∈ aJ k rows) (h : s.has r) : cD rows k r = some (s.a, s.b) := zh2.1 ⟨s, hs, h, rfl, rfl⟩
theorem zr5 {rows : List Row} {k r : Int} (h : cD rows k r = none) : ∀ s ∈ aJ k rows, ¬ s.has r := fun s hs h2 => by rw [oD hs h2] at h; cases h
theorem vY {rows : List Row} {k r : Int} (h : ∀ s ∈ aJ k rows, ¬ s.has r) : cD rows k r = none := by
 cases hf : cD rows k r with
 | none => rfl
 | some p => obtain ⟨s, h1, h2, _⟩ := zaw hf; exact absurd h2 (h s h1)
theorem vZ {α : Type} {F : Int -> α} {z : α} {i : Int} : ∀ {l : List (Pc α)}, (∀ p ∈ l, p.fr <= i -> i <= p.to -> p.v = F i) -> ((∀ p ∈ l, ¬ (p.fr <= i /\ i <= p.to)) -> F i = z) -> gM l z i = F i
 | [], _, h2 => (h2 (fun p hp => by cases hp)).symm
 | p :: r, h1, h2 => by
   unfold gM;by_cases h : p.fr <= i /\ i <= p.to
   ·rw [if_pos h]; exact h1 p qc h.1 h.2
   ·rw [if_neg h];refine vZ (fun q hq => h1 q (qd _ hq)) fun h3 => h2 fun q hq => ?_;rcases List.mem_cons.1 hq with rfl | hq
    ·exact h
    ·exact h3 q hq
theorem zr6 (rows : List Row) (k i : Int) : gM ((aJ k rows).map fun s => (⟨s.fr, s.to, s.a⟩ : Pc Int)) 0 i = aF rows k i := by
 refine vZ (F := aF rows k) (fun p hp h1 h2 => ?_) (fun h => ?_)
 ·obtain ⟨s, hs, rfl⟩ := List.mem_map.1 hp;unfold aF; rw [oD hs ⟨h1, h2⟩]
 ·unfold aF; rw [vY fun s hs h2 => h _ (qbu hs) ⟨h2.1, h2.2⟩]
theorem zr7 (rows : List Row) (i : Int) : gM ((aJ 2 rows).map fun s => (⟨s.fr, s.to, (s.a, s.b)⟩ : Pc (Int × Int))) (0, 0) i = aI rows i := by
 refine vZ (F := aI rows) (fun p hp h1 h2 => ?_) (fun h => ?_)
 ·obtain ⟨s, hs, rfl⟩ := List.mem_map.1 hp;unfold aI; rw [oD hs ⟨h1, h2⟩]
 ·unfold aI; rw [vY fun s hs h2 => h _ (qbu hs) ⟨h2.1, h2.2⟩]
def eI (at' last : Int) : List Sp -> Int
 | [] => last
 | s :: r => if s.fr > at' /\ s.fr <= last then eI at' (s.fr - 1) r else eI at' last r
theorem sX {a : Int} : ∀ {l : List Sp} {last : Int}, eI a last l <= last
 | [], last => qi _
 | s :: r, last => by
   unfold eI;split
   ·have := sX (a := a) (l := r) (last := s.fr - 1); omega
   ·exact sX
theorem zax {a : Int} : ∀ {l : List Sp} {last : Int}, ∀ s ∈ l, s.fr > a -> s.fr > eI a last l
 | s :: r, last, x, hx, h => by
   unfold eI;have hle1 := sX (a := a) (l := r) (last := s.fr - 1);have hle2 := sX (a := a) (l := r) (last := last);rcases List.mem_cons.1 hx with rfl | hx
   ·split <;> omega
   ·split
    ·exact zax x hx h
    ·exact zax x hx h
theorem zay {a i : Int} : ∀ {l : List Sp} {last : Int}, i <= last -> (∀ s ∈ l, s.fr > a -> s.fr > i) -> i <= eI a last l
 | [], last, h, _ => h
 | s :: r, last, h, h2 => by
   unfold eI;split
   ·rename_i hc;exact zay (by have := h2 s qc hc.1; omega) fun x hx => h2 x (qd _ hx)
   ·exact zay h fun x hx => h2 x (qd _ hx)
theorem zh3 (a : Int) : ∀ (l m : List Sp) (last : Int), eI a last (l ++ m) = eI a (eI a last l) m
 | [], m, last => rfl
 | s :: r, m, last => by
   simp only [qm, eI];split <;> exact zh3 a r m _
def mV (ll : List (List Sp)) (x : Int) : Prop := x = 0 ∨ ∃ l ∈ ll, ∃ s ∈ l, x = s.fr ∨ x = s.to + 1
theorem zr8 {ll : List (List Sp)} {a i : Int} (h1 : a <= i) (h2 : ∀ x, mV ll x -> x <= a ∨ i < x) {l : List Sp} (hl : l ∈ ll) {s : Sp} (hs : s ∈ l) : s.has i ↔ s.has a := by
 have c1 := h2 s.fr (.inr ⟨l, hl, s, hs, .inl rfl⟩);have c2 := h2 (s.to + 1) (.inr ⟨l, hl, s, hs, .inr rfl⟩);unfold Sp.has;omega
theorem zr9 {t : List Int} {i : Int} (h0 : ∃ x ∈ t, x <= i) : ∃ a ∈ t, a <= i /\ ∀ x ∈ t, x <= a ∨ i < x := by
 induction t with
 | nil => obtain ⟨x, hx, _⟩ := h0; cases hx
 | cons y r ih =>
   by_cases hr : ∃ x ∈ r, x <= i
   ·obtain ⟨a, h1, h2, h3⟩ := ih hr;by_cases hy : y <= i /\ a < y
    ·refine ⟨y, qc, hy.1, fun x hx => ?_⟩;rcases List.mem_cons.1 hx with rfl | hx
     ·exact .inl (qi _)
     ·have := h3 x hx; omega
    ·refine ⟨a, qd _ h1, h2, fun x hx => ?_⟩;rcases List.mem_cons.1 hx with rfl | hx
     ·omega
     ·exact h3 x hx
   ·obtain ⟨x, hx, hxi⟩ := h0;rcases List.mem_cons.1 hx with rfl | hx
    ·refine ⟨x, qc, hxi, fun z hz => ?_⟩;rcases List.mem_cons.1 hz with rfl | hz
     ·exact .inl (qi _)
     ·exact .inr (Int.not_le.1 fun hle => hr ⟨z, hz, hle⟩)
    ·exact absurd ⟨x, hx, hxi⟩ hr
abbrev Fl := Bool × Bool × Bool × Bool
def l4 (rows : List Row) : List (List Sp) := [aJ 5 rows, aJ 7 rows, aJ 8 rows, aJ 3 rows]
theorem v8 {rows : List Row} {k a i : Int} (h : ∀ s ∈ aJ k rows, s.has i ↔ s.has a) : cD rows k i = cD rows k a := by
 cases hf : cD rows k a with
 | none => exact vY fun s hs h2 => zr5 hf s hs ((h s hs).1 h2)
 | some p =>
   obtain ⟨s, h1, h2, h3, h4⟩ := zaw hf;rw [oD h1 ((h s h1).2 h2), h3, h4]
theorem zh4 {rows : List Row} {a i : Int} (h : ∀ l ∈ l4 rows, ∀ s ∈ l, s.has i ↔ s.has a) : dV rows i = dV rows a := by
 unfold dV cE;rw [v8 (h _ (by simp [l4]) : ∀ s ∈ aJ 5 rows, _), v8 (h _ (by simp [l4]) : ∀ s ∈ aJ 7 rows, _), v8 (h _ (by simp [l4]) : ∀ s ∈ aJ 8 rows, _), v8 (h _ (by simp [l4]) : ∀ s ∈ aJ 3 rows, _)]
structure LastOK (ll : List (List Sp)) (a x : Int) : Prop where
 top : x <= 1114111
 le : ∀ l ∈ ll, ∀ s ∈ l, s.has a -> x <= s.to
 ge : ∀ i, i <= 1114111 -> (∀ l ∈ ll, ∀ s ∈ l, s.has a -> i <= s.to) -> i <= x
theorem LastOK.nil (a : Int) : LastOK [] a 1114111 := ⟨qi _, fun l hl => (by cases hl), fun i hi _ => hi⟩
theorem LastOK.some {ll : List (List Sp)} {l : List Sp} {a x : Int} (h : LastOK ll a x) {s : Sp} (hs : s ∈ l) (ha : s.has a) (hg : Good l) : LastOK (ll ++ [l]) a (if s.to < x then s.to else x) := by
 have uniq : ∀ y ∈ l, y.has a -> y.to = s.to := fun y hy hya => by
  obtain ⟨i, hi, rfl⟩ := qac hy;obtain ⟨j, hj, rfl⟩ := qac hs;have hr := List.pairwise_iff_getElem.1 hg.1;unfold Sp.has at hya ha;rcases qaz i j with hij | hij | hij
  ·have := hr i j hi hj hij; omega
  ·subst hij; rfl
  ·have := hr j i hj hi hij; omega
 have h1 := h.top;refine ⟨by split <;> omega, fun m hm y hy hya => ?_, fun i hi h2 => ?_⟩
 ·rcases List.mem_append.1 hm with hm | hm
  ·have := h.le m hm y hy hya; split <;> omega
  ·simp only [qf] at hm; subst hm;have := uniq y hy hya; split <;> omega
 ·have g1 := h.ge i hi fun m hm => h2 m (qar _ hm);have g2 := h2 l (by simp) s hs ha;split <;> omega
theorem LastOK.none {ll : List (List Sp)} {l : List Sp} {a x : Int} (h : LastOK ll a x) (hn : ∀ s ∈ l, ¬ s.has a) : LastOK (ll ++ [l]) a x := by
 refine ⟨h.top, fun m hm y hy hya => ?_, fun i hi h2 => h.ge i hi fun m hm => h2 m (qar _ hm)⟩;rcases List.mem_append.1 hm with hm | hm
 ·exact h.le m hm y hy hya
 ·simp only [qf] at hm; subst hm; exact absurd hya (hn y hy)
structure PiecesOK (rows : List Row) (done : List Int) (P : List (Pc Fl)) : Prop where
 sound : ∀ p ∈ P, (0 <= p.fr /\ p.fr <= 1114112) /\ ∀ i, p.fr <= i -> i <= p.to -> p.v = dV rows i
 all : ∀ a ∈ done, dV rows a ≠ (false, false, false, false) -> ∃ p ∈ P, p.fr = a /\ ∀ i, a <= i -> i <= 1114111 -> (∀ l ∈ l4 rows, ∀ s ∈ l, (s.has i ↔ s.has a) /\ (s.fr > a -> s.fr > i)) -> i <= p.to
theorem PiecesOK.nil (rows : List Row) : PiecesOK rows [] [] := ⟨fun p hp => (by cases hp), fun a ha => (by cases ha)⟩
theorem PiecesOK.skip {rows : List Row} {done : List Int} {P : List (Pc Fl)} (h : PiecesOK rows done P) {a : Int} (ha : dV rows a = (false, false, false, false)) : PiecesOK rows (done ++ [a]) P := by
 refine ⟨h.sound, fun b hb hne => ?_⟩;rcases List.mem_append.1 hb with hb | hb
 ·exact h.all b hb hne
 ·simp only [qf] at hb; subst hb; exact absurd ha hne
theorem PiecesOK.put {rows : List Row} {done : List Int} {P : List (Pc Fl)} (h : PiecesOK rows done P) {a x : Int} (h0 : 0 <= a) (h1 : a <= 1114112) (hx : LastOK (l4 rows) a x) : PiecesOK rows (done ++ [a]) (P ++ [⟨a, eI a x (l4 rows).flatten, dV rows a⟩]) := by
 refine ⟨fun p hp => ?_, fun b hb hne => ?_⟩
 ·rcases List.mem_append.1 hp with hp | hp
  ·exact h.sound p hp
  ·simp only [qf] at hp; subst hp;refine ⟨⟨h0, h1⟩, fun i hi1 hi2 => (zh4 fun l hl s hs => ?_).symm⟩;have e1 := sX (a := a) (l := (l4 rows).flatten) (last := x);have e2 := zax (a := a) (l := (l4 rows).flatten) (last := x) s (List.mem_flatten.2 ⟨l, hl, hs⟩);have e3 := hx.le l hl s hs;simp only at hi1 hi2;unfold Sp.has at e3 ⊢;constructor
   ·rintro ⟨q1, q2⟩;by_cases hc : s.fr > a
    ·have := e2 hc; omega
    ·omega
   ·rintro ⟨q1, q2⟩;have := e3 ⟨q1, q2⟩;omega
 ·rcases List.mem_append.1 hb with hb | hb
  ·obtain ⟨p, hp, q⟩ := h.all b hb hne;exact ⟨p, qar _ hp, q⟩
  ·simp only [qf] at hb; subst hb;refine ⟨_, List.mem_append_right _ (List.mem_singleton.2 rfl), rfl, fun i hi1 hi2 hc => ?_⟩;refine zay (hx.ge i hi2 fun l hl s hs hsb => ?_) fun s hs hgt => ?_
   ·exact (((hc l hl s hs).1).2 hsb).2
   ·obtain ⟨l, hl, hs⟩ := List.mem_flatten.1 hs;exact (hc l hl s hs).2 hgt
theorem PiecesOK.val {rows : List Row} {t : List Int} {P : List (Pc Fl)} (h : PiecesOK rows t P) (ht : ∀ x, x ∈ t ↔ mV (l4 rows) x) {i : Int} (h0 : 0 <= i) (h1 : i <= 1114111) : gM P (false, false, false, false) i = dV rows i := by
 refine vZ (F := dV rows) (fun p hp q1 q2 => (h.sound p hp).2 i q1 q2) fun hn => ?_;obtain ⟨a, ha, hai, hcut⟩ := zr9 (t := t) (i := i) ⟨0, (ht 0).2 (.inl rfl), h0⟩;have hcut' : ∀ x, mV (l4 rows) x -> x <= a ∨ i < x := fun x hx => hcut x ((ht x).2 hx);have hsame : ∀ l ∈ l4 rows, ∀ s ∈ l, s.has i ↔ s.has a := fun l hl s hs => zr8 hai hcut' hl hs;by_cases hz : dV rows a = (false, false, false, false)
 ·rw [zh4 hsame, hz]
 ·obtain ⟨p, hp, q1, q2⟩ := h.all a ha hz;refine absurd ⟨by omega, q2 i hai h1 fun l hl s hs => ⟨hsame l hl s hs, fun hg => ?_⟩⟩ (hn p hp);have := hcut' s.fr (.inr ⟨l, hl, s, hs, .inl rfl⟩);omega
theorem zh5 (k v p : PV) (M : List (PV × PV)) : kR (fG k M) p (bV k v M) = bV k p M /\ fG k M < (bV k v M).length := by
 unfold kR fG bV;cases h : cA k M with
 | none => simp
 | some j =>
   have := nT h;simp [this]
def dN (rows : List Row) : Prop := ∀ x ∈ rows, x.kind = 2 -> (1 <= x.a /\ x.a <= 1114111) /\ 0 <= x.b /\ x.b <= 1114111
theorem kX {rows : List Row} {k r : Int} {p : Int × Int} (h : cD rows k r = some p) : ∃ x ∈ rows, x.kind = k /\ x.a = p.1 /\ x.b = p.2 /\ x.fr <= r /\ r <= x.to /\ 0 <= r /\ r <= 1114111 := by
 unfold cD at h;split at h
 ·rename_i hr;unfold first at h
  cases hf : rows.find? (fun x => x.has k r) with
  | none => rw [hf] at h; cases h
  | some x =>
    rw [hf] at h; cases h;have h1 := List.mem_of_find?_eq_some hf;have h2 := List.find?_some hf;simp only [Row.has, qe, aB] at h2;exact ⟨x, h1, h2.1, rfl, rfl, h2.2.1, h2.2.2, hr.1, hr.2⟩
 ·cases h
theorem pX {rows : List Row} (hp : dN rows) (r : Int) : (0 <= (aI rows r).1 /\ (aI rows r).1 <= 1114111) /\ 0 <= (aI rows r).2 /\ (aI rows r).2 <= 1114111 := by
 unfold aI;cases h : cD rows 2 r with
 | none => simp
 | some p =>
   obtain ⟨x, h1, h2, h3, h4, _⟩ := kX h;have := hp x h1 h2;simp only; omega
theorem zsa {rows : List Row} (hp : dN rows) {r : Int} {p : Int × Int} (h : cD rows 2 r = some p) : aI rows r ≠ (0, 0) := by
 unfold aI;rw [h];obtain ⟨x, h1, h2, h3, h4, _⟩ := kX h;have := hp x h1 h2;intro e;simp only at e;rw [e] at h3;simp only at h3;omega
theorem zsb {rows : List Row} {r : Int} {s : Sp} (hs : s ∈ aJ 2 rows) (h : s.has r) : aI rows r = (s.a, s.b) := by
 unfold aI; rw [oD hs h]
theorem zsc {rows : List Row} {r : Int} (h : aI rows r ≠ (0, 0)) : ∃ s ∈ aJ 2 rows, s.has r := by
 cases hf : cD rows 2 r with
 | none => unfold aI at h; rw [hf] at h; exact absurd rfl h
 | some p => obtain ⟨s, h1, h2, _⟩ := zaw hf; exact ⟨s, h1, h2⟩
theorem zh6 {rows : List Row} (hp : dN rows) {s : Sp} (hs : s ∈ aJ 2 rows) : (1 <= s.a /\ s.a <= 1114111) /\ 0 <= s.b /\ s.b <= 1114111 := by
 have hg := (oC 2 rows).2 s hs;obtain ⟨x, h1, h2, h3, h4, _⟩ := kX (oD hs (r := s.fr) ⟨qi _, hg.2.1⟩);have := hp x h1 h2;simp only at h3 h4;omega
def l7 (rows : List Row) (r : Int) : Prop := aI rows r ≠ (0, 0) /\ eC rows r = false
structure MadeOK (rows : List Row) (D : Int -> Prop) (made : List ((Int × Int) × Int)) (sec : List (Int × Bool)) : Prop where
 m1 : ∀ p r, cN p made = some r -> D r /\ l7 rows r /\ aI rows r = p /\ ∀ r', D r' -> l7 rows r' -> aI rows r' = p -> r <= r'
 m2 : ∀ p, cN p made = none -> ∀ r', D r' -> l7 rows r' -> aI rows r' ≠ p
 s1 : ∀ b v, cN b sec = some v -> v = true /\ ∃ r, D r /\ l7 rows r /\ (aI rows r).2 = b
 s2 : ∀ b, cN b sec = none -> ∀ r', D r' -> l7 rows r' -> (aI rows r').2 ≠ b
theorem MadeOK.nil (rows : List Row) : MadeOK rows (fun _ => False) [] [] := ⟨fun p r h => (by cases h), fun p _ r' h => h.elim, fun b v h => (by cases h), fun b _ r' h => h.elim⟩
theorem MadeOK.same {rows : List Row} {D D' : Int -> Prop} {made : List ((Int × Int) × Int)} {sec : List (Int × Bool)} (h : MadeOK rows D made sec) (hd : ∀ r, l7 rows r -> (D r ↔ D' r)) : MadeOK rows D' made sec :=
 ⟨fun p r hr => by
  obtain ⟨h1, h2, h3, h4⟩ := h.m1 p r hr;exact ⟨(hd r h2).1 h1, h2, h3, fun r' q1 q2 q3 => h4 r' ((hd r' q2).2 q1) q2 q3⟩,
 fun p hr r' q1 q2 => h.m2 p hr r' ((hd r' q2).2 q1) q2,
 fun b v hb => by
  obtain ⟨h1, r, h2, h3, h4⟩ := h.s1 b v hb;exact ⟨h1, r, (hd r h3).1 h2, h3, h4⟩,
 fun b hb r' q1 q2 => h.s2 b hb r' ((hd r' q2).2 q1) q2⟩
theorem MadeOK.known {rows : List Row} {D : Int -> Prop} {made : List ((Int × Int) × Int)} {sec : List (Int × Bool)} (h : MadeOK rows D made sec) {x r0 : Int} (hx : ∀ r, D r -> r < x) (hk : cN (aI rows x) made = some r0) : MadeOK rows (fun r => D r ∨ r = x) made sec := by
 obtain ⟨k1, k2, k3, k4⟩ := h.m1 _ _ hk;refine ⟨fun p r hr => ?_, fun p hr r' q1 q2 => ?_, fun b v hb => ?_, fun b hb r' q1 q2 => ?_⟩
 ·obtain ⟨h1, h2, h3, h4⟩ := h.m1 p r hr;refine ⟨.inl h1, h2, h3, fun r' q1 q2 q3 => ?_⟩;rcases q1 with q1 | rfl
  ·exact h4 r' q1 q2 q3
  ·exact qbe (hx r h1)
 ·rcases q1 with q1 | rfl
  ·exact h.m2 p hr r' q1 q2
  ·intro e; rw [<- e, hk] at hr; cases hr
 ·obtain ⟨h1, r, h2, h3, h4⟩ := h.s1 b v hb;exact ⟨h1, r, .inl h2, h3, h4⟩
 ·rcases q1 with q1 | rfl
  ·exact h.s2 b hb r' q1 q2
  ·intro e;exact h.s2 b hb r0 k1 k2 (by rw [k3, e])
theorem MadeOK.out {rows : List Row} {D : Int -> Prop} {made : List ((Int × Int) × Int)} {sec : List (Int × Bool)} (h : MadeOK rows D made sec) {x : Int} (ho : eC rows x = true) : MadeOK rows (fun r => D r ∨ r = x) made sec :=
 h.same fun r hr => ⟨.inl, fun hd => hd.elim id fun e => by subst e; have := hr.2; rw [ho] at this; cases this⟩
theorem MadeOK.put {rows : List Row} {D : Int -> Prop} {made : List ((Int × Int) × Int)} {sec : List (Int × Bool)} (h : MadeOK rows D made sec) {x : Int} (hx : ∀ r, D r -> r < x) (hn : cN (aI rows x) made = none) (hg : l7 rows x) :
 MadeOK rows (fun r => D r ∨ r = x) (cV (aI rows x) x made) (cV (aI rows x).2 true sec) := by
 refine ⟨fun p r hr => ?_, fun p hr r' q1 q2 => ?_, fun b v hb => ?_, fun b hb r' q1 q2 => ?_⟩
 ·rw [nZ] at hr;split at hr
  ·rename_i hp; cases hr; subst hp;refine ⟨.inr rfl, hg, rfl, fun r' q1 q2 q3 => ?_⟩;rcases q1 with q1 | rfl
   ·exact absurd q3 (h.m2 _ hn r' q1 q2)
   ·exact qi _
  ·rename_i hp;obtain ⟨h1, h2, h3, h4⟩ := h.m1 p r hr;refine ⟨.inl h1, h2, h3, fun r' q1 q2 q3 => ?_⟩;rcases q1 with q1 | rfl
   ·exact h4 r' q1 q2 q3
   ·exact qbe (hx r h1)
 ·rw [nZ] at hr;split at hr
  ·cases hr
  ·rename_i hp;rcases q1 with q1 | rfl
   ·exact h.m2 p hr r' q1 q2
   ·exact fun e => hp e.symm
 ·rw [nZ] at hb;split at hb
  ·rename_i hp; cases hb; exact ⟨rfl, x, .inr rfl, hg, hp.symm⟩
  ·obtain ⟨h1, r, h2, h3, h4⟩ := h.s1 b v hb;exact ⟨h1, r, .inl h2, h3, h4⟩
 ·rw [nZ] at hb;split at hb
  ·cases hb
  ·rename_i hp;rcases q1 with q1 | rfl
   ·exact h.s2 b hb r' q1 q2
   ·exact fun e => hp e.symm
def bZ (r : Int) : Bool := decide (44032 <= r) && decide (r <= 55203)
def eJ (r : Int) : List Int :=
 if (r - 44032) % 28 = 0 then [4352 + (r - 44032) / 588, 4449 + (r - 44032) / 28 % 21]
 else [4352 + (r - 44032) / 588, 4449 + (r - 44032) / 28 % 21, 4519 + (r - 44032) % 28]
def zsd (r : Int) : Bool := (decide (4449 <= r) && decide (r <= 4469)) || (decide (4520 <= r) && decide (r <= 4546))
def aX (rows : List Row) : Nat -> Int -> List Int
 | 0, r => if bZ r then eJ r else [r]
 | d + 1, r => if bZ r then eJ r else if aI rows r = (0, 0) then [r] else aX rows d (aI rows r).1 ++ (if (aI rows r).2 = 0 then [] else aX rows d (aI rows r).2)
def zse (rows : List Row) (r : Int) : Bool := rows.any fun x => decide (x.kind = 2) && (decide (x.b = r) && (!decide (r = 0) && !eC rows x.fr))
def ofQ (rows : List Row) (r : Int) : Int := if eC rows r then 1 else if zse rows r || zsd r then 2 else 0
def zh7 (rows : List Row) (r : Int) : Int := (aX rows 8 r).headD 0
def zaz (rows : List Row) (r : Int) : Bool := (decide (aF rows 1 r = 0) && decide (ofQ rows r = 0)) && (decide (aF rows 1 (zh7 rows r) = 0) && decide (ofQ rows (zh7 rows r) = 0))
theorem kY {rows : List Row} {d : Nat} {r : Int} (h : bZ r = true) : aX rows d r = eJ r := by cases d <;> simp [aX, h]
theorem pY {rows : List Row} {d : Nat} {r : Int} (h : bZ r = false) (h2 : aI rows r = (0, 0)) : aX rows d r = [r] := by cases d <;> simp [aX, h, h2]
theorem sY (r : Int) : (eJ r).length <= 3 := by unfold eJ; split <;> simp
theorem mW (rows : List Row) : ∀ (d : Nat) (r : Int), (aX rows d r).length <= 3 * 2 ^ d
 | 0, r => by
   unfold aX; split
   ·have := sY r; simp; omega
   ·simp
 | d + 1, r => by
   unfold aX;have h2 : 2 ^ (d + 1) = 2 * 2 ^ d := by rw [Nat.pow_succ]; omega
   have h3 : 1 <= 2 ^ d := Nat.one_le_two_pow;split
   ·have := sY r; omega
   ·split
    ·simp; omega
    ·have e1 := mW rows d (aI rows r).1;rw [qj];split
     ·simp; omega
     ·have e2 := mW rows d (aI rows r).2; omega
theorem zh8 {r : Int} (h : bZ r = true) : ∀ x ∈ eJ r, 0 <= x /\ x <= 1114111 := by
 simp only [bZ, qe, aB] at h;intro x hx;unfold eJ at hx;split at hx <;> simp only [qax, qbd, or_false] at hx
 ·rcases hx with rfl | rfl <;> omega
 ·rcases hx with rfl | rfl | rfl <;> omega
theorem zh9 (r : Int) : eJ r ≠ [] := by unfold eJ; split <;> simp
theorem zia (rows : List Row) : ∀ (d : Nat) (r : Int), aX rows d r ≠ []
 | 0, r => by unfold aX; split; exact zh9 r; simp
 | d + 1, r => by
   unfold aX;split
   ·exact zh9 r
   ·split
    ·simp
    ·intro e; exact zia rows d _ (List.append_eq_nil_iff.1 e).1
theorem wB {rows : List Row} (hp : dN rows) : ∀ (d : Nat) (r : Int), ∀ x ∈ aX rows d r, x = r ∨ (0 <= x /\ x <= 1114111)
 | 0, r => fun x hx => by
   unfold aX at hx;split at hx
   ·rename_i h; exact .inr (zh8 h x hx)
   ·simp at hx; exact .inl hx
 | d + 1, r => fun x hx => by
   unfold aX at hx;have hg := pX hp r;split at hx
   ·rename_i h; exact .inr (zh8 h x hx)
   ·split at hx
    ·simp at hx; exact .inl hx
    ·rcases List.mem_append.1 hx with hx | hx
     ·rcases wB hp d _ x hx with rfl | h
      ·exact .inr hg.1
      ·exact .inr h
     ·split at hx
      ·cases hx
      ·rcases wB hp d _ x hx with rfl | h
       ·exact .inr hg.2
       ·exact .inr h
def eS (rows : List Row) : Prop := ∀ x ∈ rows, x.kind = 2 -> x.fr = x.to /\ (0 <= x.fr /\ x.fr <= 1114111) /\ first rows 2 x.fr = some (x.a, x.b)
def sZ (rows : List Row) : Bool -> Int -> List Int -> Int
 | m, _, [] => if m then 2 else 0
 | m, last, r :: l => if (decide (ofQ rows r = 1) || (!decide (aF rows 1 r = 0) && decide (aF rows 1 r < last))) then 1 else sZ rows (m || decide (ofQ rows r = 2)) (aF rows 1 r) l
def zsf (rows : List Row) : Bool := rows.all fun x => !decide (x.kind = 2) || ((decide (1 <= x.a) && decide (x.a <= 1114111)) && (decide (0 <= x.b) && decide (x.b <= 1114111)))
theorem zsg {rows : List Row} (h : zsf rows = true) : dN rows := fun x hx hk => by
 have := List.all_eq_true.1 h x hx;simpa [hk] using this
def zsh (rows : List Row) : Bool := rows.all fun x => !decide (x.kind = 2) || (decide (x.fr = x.to) && ((decide (0 <= x.fr) && decide (x.fr <= 1114111)) && decide (first rows 2 x.fr = some (x.a, x.b))))
theorem zsi {rows : List Row} (h : zsh rows = true) : eS rows := fun x hx hk => by
 have := List.all_eq_true.1 h x hx;simpa [hk] using this
def zsj (rows : List Row) : Bool := rows.all fun x => !decide (x.kind = 1) || decide (0 <= x.a)
def iO (rows : List Row) : Prop := ∀ r, 0 <= aF rows 1 r
theorem zsk {rows : List Row} (h : zsj rows = true) : iO rows := fun r => by
 unfold aF;cases hf : cD rows 1 r with
 | none => exact qi _
 | some p =>
   obtain ⟨x, hx, hk, ha, _⟩ := kX hf;have := List.all_eq_true.1 h x hx;simp only [hk, decide_true, Bool.not_true, Bool.false_or, aB] at this;simp only; omega
end Go.Eng.Rows
namespace Go.Eng.Srt
open Go Go.Eng
section
variable {α : Type} (key : α -> Int)
def Srtd (l : List α) : Prop := l.Pairwise fun x y => key x <= key y
def Stab (l r : List α) : Prop := l.Perm r /\ ∀ c, l.filter (fun x => decide (key x = c)) = r.filter (fun x => decide (key x = c))
variable {key}
theorem Stab.refl (l : List α) : Stab key l l := ⟨List.Perm.refl _, fun _ => rfl⟩
theorem Stab.trans {a b c : List α} (h : Stab key a b) (k : Stab key b c) : Stab key a c := ⟨h.1.trans k.1, fun x => (h.2 x).trans (k.2 x)⟩
theorem Stab.symm {a b : List α} (h : Stab key a b) : Stab key b a := ⟨h.1.symm, fun x => (h.2 x).symm⟩
theorem Stab.app {a b c d : List α} (h : Stab key a b) (k : Stab key c d) : Stab key (a ++ c) (b ++ d) := ⟨h.1.append k.1, fun x => by rw [qq, qq, h.2, k.2]⟩
theorem Stab.len {a b : List α} (h : Stab key a b) : a.length = b.length := h.1.length_eq
theorem Stab.mem {a b : List α} (h : Stab key a b) {x : α} : x ∈ a ↔ x ∈ b := h.1.mem_iff
theorem Stab.rot {a b : List α} (h : ∀ x ∈ a, ∀ y ∈ b, key x ≠ key y) : Stab key (a ++ b) (b ++ a) := by
 refine ⟨List.perm_append_comm, fun c => ?_⟩;rw [qq, qq];by_cases hc : ∃ x ∈ a, key x = c
 ·obtain ⟨x, hx, hxc⟩ := hc
  have : b.filter (fun x => decide (key x = c)) = [] := List.filter_eq_nil_iff.2 fun y hy => by
   simp only [aB]; intro e; exact h x hx y hy (hxc.trans e.symm)
  rw [this]; simp
 ·have : a.filter (fun x => decide (key x = c)) = [] := List.filter_eq_nil_iff.2 fun y hy => by
   simp only [aB]; intro e; exact hc ⟨y, hy, e⟩
  rw [this]; simp
theorem Stab.rot1 {u v : List α} {a b : List α} (h : ∀ x ∈ a, ∀ y ∈ b, key x ≠ key y) : Stab key (u ++ (a ++ b) ++ v) (u ++ (b ++ a) ++ v) := ((Stab.refl u).app (.rot h)).app (.refl v)
theorem Stab.uniq : ∀ {l r : List α}, Srtd key l -> Srtd key r -> Stab key l r -> l = r
 | [], r, _, _, h => by have := h.len; cases r with | nil => rfl | cons => simp at this
 | x :: l, [], _, _, h => by have := h.len; simp at this
 | x :: l, y :: r, hl, hr, h => by
   have hk : key x = key y := by
    have h1 : key x <= key y := by
     rcases List.mem_cons.1 (h.mem.2 qc : y ∈ x :: l) with e | e
     ·rw [e]; exact qi _
     ·exact (List.pairwise_cons.1 hl).1 y e
    have h2 : key y <= key x := by
     rcases List.mem_cons.1 (h.mem.1 qc : x ∈ y :: r) with e | e
     ·rw [e]; exact qi _
     ·exact (List.pairwise_cons.1 hr).1 x e
    omega
   have hxy : x = y := by
    have := h.2 (key x);rw [qp, qp, if_pos (by simp), if_pos (by simp [hk])] at this;exact (List.cons.inj this).1
   subst hxy
   have ht : Stab key l r := ⟨(qcn x).1 h.1, fun c => by
    have := h.2 c;rw [qp, qp] at this;split at this
    ·exact (List.cons.inj this).2
    ·exact this⟩
   rw [Stab.uniq (List.pairwise_cons.1 hl).2 (List.pairwise_cons.1 hr).2 ht]
theorem kC {a b : List α} : Srtd key (a ++ b) ↔ Srtd key a /\ Srtd key b /\ ∀ x ∈ a, ∀ y ∈ b, key x <= key y := List.pairwise_append
end
section
variable {α : Type}
theorem pZ (u v : List α) (x : α) : (u ++ x :: v)[u.length]? = some x := by simp
theorem s6 (u v : List α) (x y : α) : (u ++ x :: v).set u.length y = u ++ y :: v := by simp
theorem zsl (u v w : List α) (x y : α) : ((u ++ x :: (v ++ y :: w)).set u.length y).set (u.length + 1 + v.length) x = u ++ y :: (v ++ x :: w) := by
 rw [s6];have e : u ++ y :: (v ++ y :: w) = (u ++ y :: v) ++ y :: w := by simp
 have e2 : u.length + 1 + v.length = (u ++ y :: v).length := by simp; omega
 rw [e, e2, s6];simp
theorem zib (u w : List α) (x y : α) : ((u ++ x :: y :: w).set (u.length + 1) x).set u.length y = u ++ y :: x :: w := by
 have e : u ++ x :: y :: w = (u ++ [x]) ++ y :: w := by simp
 have e2 : u.length + 1 = (u ++ [x]).length := by simp
 rw [e, e2, s6];have e3 : (u ++ [x]) ++ x :: w = u ++ x :: (x :: w) := by simp
 rw [e3, s6]
theorem zsm (u w : List α) (x y : α) : ((u ++ x :: y :: w).set u.length y).set (u.length + 1) x = u ++ y :: x :: w := by
 simp
end
variable {key : Int -> Int}
theorem Srtd.get {l : List Int} (h : Srtd key l) {i j : Nat} (hij : i <= j) (hj : j < l.length) : key (l.getD i 0) <= key (l.getD j 0) := by
 have hi : i < l.length := by omega
 simp only [qt, qh hi, qh hj, qap];rcases Nat.lt_or_ge i j with h1 | h1
 ·exact (List.pairwise_iff_getElem.1 h) i j hi hj h1
 ·have : i = j := by omega
  subst this; exact qi _
theorem mX {l : List Int} {x : Int} (h : x ∈ l) : ∃ i, i < l.length /\ l.getD i 0 = x := by
 obtain ⟨i, hi, rfl⟩ := qac h;exact ⟨i, hi, by simp [qt, hi]⟩
theorem s7 {l : List Int} {i : Nat} (h : i < l.length) : l[i]? = some (l.getD i 0) := by simp [qt, h]
theorem Srtd.sub {l m : List Int} (h : Srtd key l) (hs : m.Sublist l) : Srtd key m := List.Pairwise.sublist hs h
theorem zic {x : Int} {A B : List Int} (hs : Srtd key (A ++ B)) (h1 : ∀ y ∈ A, key y <= key x) (h2 : ∀ y ∈ B, key x <= key y) : Srtd key (A ++ x :: B) := by
 obtain ⟨s1, s2, s3⟩ := kC.1 hs;refine kC.2 ⟨s1, List.pairwise_cons.2 ⟨h2, s2⟩, fun y hy z hz => ?_⟩;rcases List.mem_cons.1 hz with rfl | hz
 ·exact h1 y hy
 ·exact s3 y hy z hz
theorem zsn {X1 X2 Y1 Y2 S1 S2 : List Int} (hX : Srtd key (X1 ++ X2)) (hY : Srtd key (Y1 ++ Y2)) (f1 : ∀ x ∈ X2, ∀ y ∈ Y1, key y < key x) (f2 : ∀ x ∈ X1, ∀ y ∈ Y2, key x <= key y)
 (h1 : Srtd key S1) (k1 : Stab key (X1 ++ Y1) S1) (h2 : Srtd key S2) (k2 : Stab key (X2 ++ Y2) S2) : Srtd key (S1 ++ S2) /\ Stab key ((X1 ++ X2) ++ (Y1 ++ Y2)) (S1 ++ S2) := by
 obtain ⟨_, _, x3⟩ := kC.1 hX;obtain ⟨_, _, y3⟩ := kC.1 hY;refine ⟨kC.2 ⟨h1, h2, fun x hx y hy => ?_⟩, ?_⟩
 ·rcases List.mem_append.1 (k1.mem.2 hx) with hx | hx <;> rcases List.mem_append.1 (k2.mem.2 hy) with hy | hy
  ·exact x3 x hx y hy
  ·exact f2 x hx y hy
  ·exact qbe (f1 y hy x hx)
  ·exact y3 x hx y hy
 ·refine Stab.trans ?_ (k1.app k2);have := Stab.rot1 (key := key) (u := X1) (v := Y2) (a := X2) (b := Y1) (fun x hx y hy => by have := f1 x hx y hy; omega);simpa using this
end Go.Eng.Srt
namespace Go.Eng.Srt
open Go Go.Eng
section
variable (key : Int -> Int)
def fJ (x y : Int) : Bool := decide (key x ≠ 0) && decide (key x < key y)
def s8 (x : Int) : List Int -> List Int
 | [] => [x]
 | y :: r => if fJ key x y = true then y :: s8 x r else x :: y :: r
def ins (l : List Int) (x : Int) : List Int := (s8 key x l.reverse).reverse
def c5 (l : List Int) : List Int := l.foldl (ins key) []
inductive Eqv : List Int -> List Int -> Prop
 | refl (a : List Int) : Eqv a a
 | swap (u v w : List Int) (x y : Int) (hx : key x ≠ 0) (hy : key y ≠ 0) (hxy : key x ≠ key y) (h : Eqv (u ++ y :: x :: v) w) : Eqv (u ++ x :: y :: v) w
def dD : List Int -> Prop
 | x :: y :: r => (key y ≠ 0 -> key x <= key y) /\ dD (y :: r)
 | _ => True
end
variable {key : Int -> Int}
theorem qA {x y : Int} : fJ key x y = true ↔ key x ≠ 0 /\ key x < key y := by simp [fJ]
theorem wC {x y : Int} : fJ key x y = false ↔ key x = 0 ∨ key y <= key x := by
 simp only [fJ, Bool.and_eq_false_imp, aB, dJ];constructor
 ·intro h; by_cases h0 : key x = 0
  ·exact .inl h0
  ·exact .inr (by have := h h0; omega)
 ·rintro (h | h) h0
  ·exact absurd h h0
  ·omega
theorem zid {x : Int} : ∀ {B A : List Int}, (∀ y ∈ B, fJ key x y = true) -> (A = [] ∨ ∃ z A', A = z :: A' /\ fJ key x z = false) -> s8 key x (B ++ A) = B ++ x :: A
 | [], A, _, h => by
   rcases h with rfl | ⟨z, A', rfl, h⟩
   ·rfl
   ·simp [s8, h]
 | y :: B, A, hB, h => by
   rw [qm, s8, if_pos (hB y qc), zid (fun z hz => hB z (qd _ hz)) h]; rfl
theorem oE {x : Int} {A B : List Int} (h1 : ∀ y ∈ B, fJ key x y = true) (h2 : A = [] ∨ ∃ A' z, A = A' ++ [z] /\ fJ key x z = false) : ins key (A ++ B) x = A ++ x :: B := by
 unfold ins;rw [qbv, zid (fun y hy => h1 y (List.mem_reverse.1 hy)) (h2.elim (fun e => .inl (by rw [e]; rfl)) fun ⟨A', z, e, h⟩ => .inr ⟨z, A'.reverse, by rw [e]; simp, h⟩)];simp
theorem za0 (l : List Int) (x : Int) : ∃ A B, l = A ++ B /\ (∀ y ∈ B, fJ key x y = true) /\ (A = [] ∨ ∃ A' z, A = A' ++ [z] /\ fJ key x z = false) := by
 have : ∀ r : List Int, ∃ B A, r = B ++ A /\ (∀ y ∈ B, fJ key x y = true) /\ (A = [] ∨ ∃ z A', A = z :: A' /\ fJ key x z = false) := by
  intro r
  induction r with
  | nil => exact ⟨[], [], rfl, (fun y hy => by cases hy), .inl rfl⟩
  | cons y r ih =>
    cases hp : fJ key x y with
    | true =>
      obtain ⟨B, A, e, h1, h2⟩ := ih;exact ⟨y :: B, A, by rw [e]; rfl, fun z hz => by rcases List.mem_cons.1 hz with rfl | hz; exact hp; exact h1 z hz, h2⟩
    | false => exact ⟨[], y :: r, rfl, (fun y hy => by cases hy), .inr ⟨y, r, rfl, hp⟩⟩
 obtain ⟨B, A, e, h1, h2⟩ := this l.reverse;refine ⟨A.reverse, B.reverse, by rw [<- qbv, <- e]; simp, fun y hy => h1 y (List.mem_reverse.1 hy), h2.elim (fun e => .inl (by rw [e]; rfl)) fun ⟨z, A', e, h⟩ => .inr ⟨A'.reverse, z, by rw [e]; simp, h⟩⟩
theorem zie {l : List Int} {x y : Int} (hx : key x ≠ 0) (hxy : key x < key y) : ins key (ins key l y) x = ins key (ins key l x) y := by
 obtain ⟨B1, B2, rfl, b1, b2⟩ := za0 (key := key) l y;obtain ⟨C1, C2, rfl, c1, c2⟩ := za0 (key := key) B1 x;have px : ∀ z ∈ B2, fJ key x z = true := fun z hz => qA.2 ⟨hx, by have := (qA.1 (b1 z hz)).2; omega⟩;rw [oE b1 b2];have e1 : C1 ++ C2 ++ y :: B2 = C1 ++ (C2 ++ y :: B2) := by simp
 have e2 : C1 ++ C2 ++ B2 = C1 ++ (C2 ++ B2) := by simp
 rw [e1, oE (B := C2 ++ y :: B2) (fun z hz => ?_) c2, e2, oE (B := C2 ++ B2) (fun z hz => ?_) c2]
 ·have e3 : C1 ++ x :: (C2 ++ B2) = (C1 ++ x :: C2) ++ B2 := by simp
  rw [e3, oE b1 (.inr ?_)]
  ·simp
  ·rcases C2.eq_nil_or_concat with rfl | ⟨D, z, rfl⟩
   ·exact ⟨C1, x, rfl, wC.2 (.inr (by omega))⟩
   ·refine ⟨C1 ++ x :: D, z, by simp, ?_⟩;rcases b2 with e | ⟨A', z', e, h⟩
    ·simp at e
    ·have : z = z' := by
      have := congrArg List.getLast? e;simp at this; exact this
     rw [this]; exact h
 ·rcases List.mem_append.1 hz with hz | hz
  ·exact c1 z hz
  ·exact px z hz
 ·rcases List.mem_append.1 hz with hz | hz
  ·exact c1 z hz
  ·rcases List.mem_cons.1 hz with rfl | hz
   ·exact qA.2 ⟨hx, hxy⟩
   ·exact px z hz
theorem zso {l : List Int} {x y : Int} (hx : key x ≠ 0) (hy : key y ≠ 0) (hxy : key x ≠ key y) : ins key (ins key l x) y = ins key (ins key l y) x := by
 rcases Int.lt_or_gt_of_ne hxy with h | h
 ·exact (zie hx h).symm
 ·exact zie hy h
theorem za1 (l : List Int) (x : Int) : c5 key (l ++ [x]) = ins key (c5 key l) x := by simp [c5]
theorem Eqv.trans {a b c : List Int} (h : Eqv key a b) (k : Eqv key b c) : Eqv key a c := by
 induction h with
 | refl a => exact k
 | swap u v w x y hx hy hxy h ih => exact .swap u v c x y hx hy hxy (ih k)
theorem Eqv.app {a b : List Int} (h : Eqv key a b) (p q : List Int) : Eqv key (p ++ (a ++ q)) (p ++ (b ++ q)) := by
 induction h with
 | refl a => exact .refl _
 | swap u v w x y hx hy hxy h ih =>
   have := Eqv.swap (p ++ u) (v ++ q) _ x y hx hy hxy (by simpa using ih)
   simpa using this
theorem Eqv.symm {a b : List Int} (h : Eqv key a b) : Eqv key b a := by
 induction h with
 | refl a => exact .refl _
 | swap u v w x y hx hy hxy h ih => exact ih.trans (.swap u v _ y x hy hx (Ne.symm hxy) (.refl _))
theorem zsp {a b : List Int} (h : Eqv key a b) : c5 key a = c5 key b := by
 induction h with
 | refl a => rfl
 | swap u v w x y hx hy hxy h ih =>
   rw [<- ih];simp only [c5, qcd, qbh];rw [zso hx hy hxy]
theorem Eqv.len {a b : List Int} (h : Eqv key a b) : a.length = b.length := by
 induction h with
 | refl a => rfl
 | swap u v w x y hx hy hxy h ih => rw [<- ih]; simp
theorem Eqv.mem {a b : List Int} (h : Eqv key a b) {z : Int} : z ∈ a ↔ z ∈ b := by
 induction h with
 | refl a => exact Iff.rfl
 | swap u v w x y hx hy hxy h ih => rw [<- ih]; simp only [qad, qax]; exact or_congr_right ⟨fun h => h.elim (fun e => .inr (.inl e)) (fun h => h.elim .inl fun h => .inr (.inr h)), fun h => h.elim (fun e => .inr (.inl e)) (fun h => h.elim .inl fun h => .inr (.inr h))⟩
theorem Eqv.ahead {x : Int} (hx : key x ≠ 0) : ∀ {B : List Int} (q : List Int), (∀ y ∈ B, key y ≠ 0 /\ key y ≠ key x) -> Eqv key (B ++ x :: q) (x :: (B ++ q))
 | [], q, _ => .refl _
 | y :: B, q, h => by
   have h1 := Eqv.ahead hx (B := B) q fun z hz => h z (qd _ hz);have h2 := h1.app [y] [];simp only [qck, qm, qag] at h2;obtain ⟨hy, hyx⟩ := h y qc;exact h2.trans (.swap [] (B ++ q) _ y x hy hx hyx (.refl _))
theorem zsq (hk : ∀ x, 0 <= key x) (l : List Int) (x : Int) : Eqv key (l ++ [x]) (ins key l x) := by
 obtain ⟨A, B, rfl, h1, h2⟩ := za0 (key := key) l x;rw [oE h1 h2];by_cases hB : B = []
 ·subst hB; simp; exact .refl _
 ·obtain ⟨y, hy⟩ := qbb B hB;have hx := (qA.1 (h1 y hy)).1;have := (Eqv.ahead hx (B := B) [] fun z hz => by have := (qA.1 (h1 z hz)).2; have := hk x; omega).app A [];simpa using this
theorem jR {p : List Int -> Prop} (h0 : p []) (h1 : ∀ l x, p l -> p (l ++ [x])) (l : List Int) : p l := by
 have : ∀ r : List Int, p r.reverse := by
  intro r
  induction r with
  | nil => exact h0
  | cons x r ih => rw [qce]; exact h1 _ _ ih
 have := this l.reverse;rwa [qbq] at this
theorem s9 (hk : ∀ x, 0 <= key x) (l : List Int) : Eqv key l (c5 key l) := by
 induction l using jR with
 | h0 => exact .refl _
 | h1 l x ih =>
   rw [za1];have := ih.app [] [x];exact Eqv.trans (by simpa using this) (zsq hk _ x)
theorem oF : ∀ {A B : List Int}, dD key (A ++ B) ↔ dD key A /\ dD key B /\ (∀ z x, A.getLast? = some z -> B.head? = some x -> key x ≠ 0 -> key z <= key x)
 | [], B => by simp [dD]
 | [a], [] => by simp [dD]
 | [a], b :: B => by simp [dD, and_comm]
 | a :: c :: A, B => by
   have := oF (A := c :: A) (B := B);simp only [qm, dD] at this ⊢;rw [this, List.getLast?_cons_cons, and_assoc]
theorem zsr {l : List Int} (h : dD key l) : c5 key l = l := by
 revert h
 induction l using jR with
 | h0 => exact fun _ => rfl
 | h1 l x ih =>
   intro h;obtain ⟨q1, q2, q3⟩ := oF.1 h;rw [za1, ih q1]
   have := oE (key := key) (x := x) (A := l) (B := []) (fun y hy => by cases hy) (by
    rcases l.eq_nil_or_concat with rfl | ⟨D, z, rfl⟩
    ·exact .inl rfl
    ·refine .inr ⟨D, z, by simp, wC.2 ?_⟩;by_cases hx : key x = 0
     ·exact .inl hx
     ·exact .inr (q3 z x (by simp) rfl hx))
   simpa using this
theorem zif : ∀ {S' S : List Int}, Stab key S S' -> (∀ x ∈ S, key x ≠ 0) -> Eqv key S S'
 | [], S, h, _ => by have := h.len; cases S with | nil => exact .refl _ | cons => simp at this
 | y :: r, S, h, h0 => by
   have hf := h.2 (key y);rw [qp, if_pos (by simp)] at hf;obtain ⟨A, B, rfl, hA, hB⟩ := List.filter_eq_cons_iff.1 hf;have hy : key y ≠ 0 := h0 y (by simp);have hA' : ∀ z ∈ A, key z ≠ key y := fun z hz => by have := hA z hz; simpa using this
   have e1 := Eqv.ahead hy (B := A) B fun z hz => ⟨h0 z (by simp [hz]), hA' z hz⟩
   have hs : Stab key (A ++ B) r := by
    refine ⟨(qcn y).1 ((List.perm_middle.symm).trans h.1), fun c => ?_⟩;have := h.2 c;rw [qq, qp, qp] at this;rw [qq];by_cases hc : key y = c
    ·have hn : A.filter (fun x => decide (key x = c)) = [] := List.filter_eq_nil_iff.2 fun z hz => by simp only [aB]; intro e; exact hA' z hz (e.trans hc.symm)
     rw [hn] at this ⊢;simp only [hc, decide_true, if_true, qag, List.cons.injEq, true_and] at this;exact this
    ·simp only [hc, decide_false, qaj, if_false] at this;exact this
   have e2 := (zif hs fun z hz => h0 z (by rcases List.mem_append.1 hz with hz | hz <;> simp [hz])).app [y] [];simp only [qck, qm, qag] at e2;exact e1.trans e2
theorem zig : ∀ {S : List Int}, Srtd key S -> dD key S
 | [], _ => trivial
 | [a], _ => trivial
 | a :: b :: S, h => ⟨fun _ => (List.pairwise_cons.1 h).1 b qc, zig (List.pairwise_cons.1 h).2⟩
theorem wD (L : List Int) {i j : Nat} (hij : i <= j) (hj : j <= L.length) : L = L.take i ++ ((L.take j).drop i ++ L.drop j) /\ (L.take i).length = i /\ ((L.take j).drop i).length = j - i := by
 refine ⟨?_, by rw [qbf]; omega, by rw [List.length_drop, qbf]; omega⟩;have h1 : L = L.take j ++ L.drop j := (qbm j L).symm;have h2 : L.take j = (L.take j).take i ++ (L.take j).drop i := (qbm i _).symm;rw [qco, Nat.min_eq_left hij] at h2;rw [<- qcf, <- h2]; exact h1
theorem zss (hk : ∀ x, 0 <= key x) {L : List Int} {i j : Nat} (hij : i <= j) (hj : j <= L.length) (hb : i = 0 ∨ key (L.getD (i - 1) 0) = 0) (hnz : ∀ k, i <= k -> k < j -> key (L.getD k 0) ≠ 0) (hend : j = L.length ∨ key (L.getD j 0) = 0)
 (hc : dD key (L.take i)) {S' : List Int} (hs : Srtd key S') (hst : Stab key ((L.take j).drop i) S') :
 Eqv key L (L.take i ++ (S' ++ L.drop j)) /\ dD key ((L.take i ++ (S' ++ L.drop j)).take (j + 1)) /\ (j < L.length -> key ((L.take i ++ (S' ++ L.drop j)).getD j 0) = 0) := by
 obtain ⟨c1, c2, c3⟩ := wD L hij hj;have hl : S'.length = j - i := by rw [<- hst.len]; exact c3
 refine ⟨?_, ?_, fun hlt => ?_⟩
 ·have hm : ∀ x ∈ (L.take j).drop i, key x ≠ 0 := fun x hx => by
   obtain ⟨k, hk1, hk2⟩ := qac hx;have := hnz (i + k) (by omega) (by omega);rw [List.getElem_drop, List.getElem_take] at hk2;have hl2 : i + k < L.length := by omega
   simp only [qt, qh hl2, qap, hk2] at this;exact this
  have := (zif hst hm).app (L.take i) (L.drop j);rwa [<- c1] at this
 ·rw [qci, c2, qu (by omega), qci, hl, qu (by omega : S'.length <= j + 1 - i), show j + 1 - i - (j - i) = 1 by omega]
  have hR : ∀ x, ((L.drop j).take 1).head? = some x -> key x = 0 := fun x hx => by
   rcases hend with e | e
   ·rw [qbj (by omega)] at hx; cases hx
   ·rcases Nat.lt_or_ge j L.length with h' | h'
    ·rw [qbc h'] at hx;simp only [List.take_succ_cons, List.head?_cons, Option.some.injEq] at hx;rw [<- hx];simpa [qt, qh h'] using e
    ·rw [qbj h'] at hx; cases hx
  refine oF.2 ⟨hc, oF.2 ⟨zig hs, ?_, fun z x _ hx h0 => absurd (hR x hx) h0⟩, fun z x hz hx h0 => ?_⟩
  ·cases L.drop j with
   | nil => trivial
   | cons a r => trivial
  ·have : key z = 0 := by
    rcases hb with rfl | hb
    ·simp at hz
    ·rw [qae, c2] at hz;by_cases h0 : i = 0
     ·subst h0; simp at hz
     ·rw [qby, if_pos (by omega)] at hz;simpa [qt, hz] using hb
   rw [this]; exact hk x
 ·rcases hend with e | e
  ·omega
  ·rw [<- qcf];simp only [qt] at e ⊢;rw [qab (by simp only [qj]; omega), qj, c2, hl, qbz, show j + (j - (i + (j - i))) = j by omega];exact e
theorem zst {S : List Int} (h : S.length <= 1) : Srtd key S := by
 match S, h with
 | [], _ => exact List.Pairwise.nil
 | [a], _ => exact List.pairwise_singleton _ _
end Go.Eng.Srt
namespace Go.Eng.Rows
open Go Go.Eng Go.Eng.Trie Go.Eng.Srt
def jS (rows : List Row) (l : List Int) : List Int := c5 (aF rows 1) (l.flatMap (aX rows 8))
def dY (rows : List Row) (x : Int) : Bool := !bZ x && decide (aI rows x = (0, 0))
def zsu (rows : List Row) : Prop := ∀ r, ∀ x ∈ aX rows 8 r, dY rows x = true
theorem zsv {rows : List Row} {r : Int} {p : Int × Int} (h : cD rows 2 r = some p) : ∃ x ∈ rows, x.kind = 2 /\ x.fr <= r /\ r <= x.to := by
 obtain ⟨x, h1, h2, _, _, h3, h4, _⟩ := kX h;exact ⟨x, h1, h2, h3, h4⟩
theorem wE {rows : List Row} {x : Int} (h : dY rows x = true) (d : Nat) : aX rows d x = [x] := by
 simp only [dY, qe, qv, aB] at h;exact pY h.1 h.2
theorem zih {rows : List Row} : ∀ {l : List Int}, (∀ x ∈ l, dY rows x = true) -> l.flatMap (aX rows 8) = l
 | [], _ => rfl
 | x :: l, h => by
   rw [qcg, wE (h x qc), zih fun y hy => h y (qd _ hy)]; rfl
section
variable {rows : List Row} (hk : iO rows)
include hk
theorem zsw {l : List Int} {x : Int} : x ∈ jS rows l ↔ ∃ r ∈ l, x ∈ aX rows 8 r := by
 unfold jS;rw [<- (s9 hk _).mem, List.mem_flatMap]
theorem za2 (hp : dN rows) {l : List Int} (h : ∀ x ∈ l, -2147483648 <= x /\ x <= 2147483647) : ∀ x ∈ jS rows l, -2147483648 <= x /\ x <= 2147483647 := fun x hx => by
 obtain ⟨r, hr, h2⟩ := (zsw hk).1 hx;rcases wB hp 8 r x h2 with rfl | h3
 ·exact h x hr
 ·omega
theorem zsx (l : List Int) : (jS rows l).length <= 768 * l.length := by
 unfold jS;rw [<- (s9 hk _).len]
 induction l with
 | nil => simp
 | cons x l ih =>
   have := mW rows 8 x;rw [qcg, qj, qg]; omega
end
def eT (a b : Int) : Option Int :=
 if (4352 <= a /\ a < 4371) /\ 4449 <= b /\ b < 4470 then some (44032 + ((a - 4352) * 21 + (b - 4449)) * 28)
 else if (bZ a = true /\ (a - 44032) % 28 = 0) /\ 4519 < b /\ b < 4547 then some (a + (b - 4519)) else none
def eD (rows : List Row) (a b : Int) (x : Row) : Bool := decide (x.kind = 2) && (decide (x.a = a) && (decide (x.b = b) && (!decide (b = 0) && !eC rows x.fr)))
def cmpS (rows : List Row) (a b : Int) (o : Option Int) (x : Row) : Option Int :=
 if eD rows a b x then (match o with | none => some x.fr | some r => if x.fr < r then some x.fr else some r) else o
def mY (rows : List Row) (a b : Int) : Option Int := rows.foldl (cmpS rows a b) none
def fK (rows : List Row) (a b : Int) : Option Int := match eT a b with | some r => some r | none => mY rows a b
theorem zii (rows : List Row) (a b : Int) (l : List Row) : match l.foldl (cmpS rows a b) none with
 | none => ∀ x ∈ l, eD rows a b x = false
 | some r => (∃ x ∈ l, eD rows a b x = true /\ x.fr = r) /\ ∀ x ∈ l, eD rows a b x = true -> r <= x.fr := by
 have : ∀ (m : List Row), match m.reverse.foldl (cmpS rows a b) none with
  | none => ∀ x ∈ m, eD rows a b x = false
  | some r => (∃ x ∈ m, eD rows a b x = true /\ x.fr = r) /\ ∀ x ∈ m, eD rows a b x = true -> r <= x.fr := by
  intro m
  induction m with
  | nil => intro x hx; cases hx
  | cons y m ih =>
    rw [qce, qcd, qbh, List.foldl_nil];generalize m.reverse.foldl (cmpS rows a b) none = o at ih;unfold cmpS;cases hc : eD rows a b y with
    | false =>
      simp only [qaj, if_false];cases o with
      | none => intro x hx; rcases List.mem_cons.1 hx with rfl | hx; exact hc; exact ih x hx
      | some r =>
        obtain ⟨⟨x, h1, h2⟩, h3⟩ := ih;exact ⟨⟨x, qd _ h1, h2⟩, fun z hz hz2 => by rcases List.mem_cons.1 hz with rfl | hz; rw [hc] at hz2; cases hz2; exact h3 z hz hz2⟩
    | true =>
      simp only [if_true];cases o with
      | none =>
        refine ⟨⟨y, qc, hc, rfl⟩, fun z hz hz2 => ?_⟩;rcases List.mem_cons.1 hz with rfl | hz
        ·exact qi _
        ·have := ih z hz; rw [this] at hz2; cases hz2
      | some r =>
        obtain ⟨⟨x, h1, h2, h4⟩, h3⟩ := ih;by_cases hlt : y.fr < r
        ·simp only [hlt, if_true];refine ⟨⟨y, qc, hc, rfl⟩, fun z hz hz2 => ?_⟩;rcases List.mem_cons.1 hz with rfl | hz
         ·exact qi _
         ·have := h3 z hz hz2; omega
        ·simp only [hlt, if_false];refine ⟨⟨x, qd _ h1, h2, h4⟩, fun z hz hz2 => ?_⟩;rcases List.mem_cons.1 hz with rfl | hz
         ·omega
         ·exact h3 z hz hz2
 have h := this l.reverse;rw [qbq] at h;generalize l.foldl (cmpS rows a b) none = o at h ⊢;cases o with
 | none => intro x hx; exact h x (List.mem_reverse.2 hx)
 | some r => exact ⟨by obtain ⟨⟨x, h1, h2⟩, _⟩ := h; exact ⟨x, List.mem_reverse.1 h1, h2⟩, fun x hx => h.2 x (List.mem_reverse.2 hx)⟩
theorem wF {rows : List Row} (h1 : eS rows) {x : Row} (hx : x ∈ rows) (hk : x.kind = 2) : aI rows x.fr = (x.a, x.b) /\ 0 <= x.fr /\ x.fr <= 1114111 := by
 obtain ⟨e1, e2, e3⟩ := h1 x hx hk;have hf : cD rows 2 x.fr = some (x.a, x.b) := by unfold cD; rw [if_pos e2]; exact e3
 exact ⟨by unfold aI; rw [hf], e2⟩
theorem za3 {rows : List Row} (h1 : eS rows) {r : Int} (h : aI rows r ≠ (0, 0)) : ∃ x ∈ rows, x.kind = 2 /\ x.fr = r /\ aI rows r = (x.a, x.b) := by
 cases hf : cD rows 2 r with
 | none => exact absurd (by unfold aI; rw [hf]) h
 | some p =>
   obtain ⟨y, hy, hk, f1, f2⟩ := zsv hf;obtain ⟨e1, _⟩ := h1 y hy hk;have hr : y.fr = r := by omega
   have := (wF h1 hy hk).1;rw [hr] at this;exact ⟨y, hy, hk, hr, this⟩
theorem za4 {rows : List Row} (h1 : eS rows) {a b r : Int} (h : mY rows a b = some r) : aI rows r = (a, b) /\ b ≠ 0 /\ eC rows r = false /\ (0 <= r /\ r <= 1114111) /\ ∃ x ∈ rows, x.kind = 2 /\ x.fr = r := by
 have := zii rows a b rows;unfold mY at h;rw [h] at this;obtain ⟨⟨x, hx, hc, rfl⟩, _⟩ := this;simp only [eD, qe, aB, qv, dJ] at hc;obtain ⟨hk, ha, hb, h0, ho⟩ := hc;obtain ⟨hp, hr⟩ := wF h1 hx hk;exact ⟨by rw [hp, ha, hb], h0, ho, hr, x, hx, hk, rfl⟩
theorem zsy {rows : List Row} (hp : dN rows) (h1 : eS rows) {made : List ((Int × Int) × Int)} {sec : List (Int × Bool)} (hm : MadeOK rows (fun r => 0 <= r /\ r <= 1114111) made sec) (a b : Int) :
 (if b = 0 then none else cN (a, b) made) = mY rows a b := by
 have hc := zii rows a b rows
 have good : ∀ x ∈ rows, eD rows a b x = true -> b ≠ 0 /\ (0 <= x.fr /\ x.fr <= 1114111) /\ l7 rows x.fr /\ aI rows x.fr = (a, b) := fun x hx hc => by
  simp only [eD, qe, aB, qv, dJ] at hc;obtain ⟨hk, ha, hb, h0, ho⟩ := hc;obtain ⟨e, hr⟩ := wF h1 hx hk;refine ⟨h0, hr, ⟨?_, ho⟩, by rw [e, ha, hb]⟩;rw [e]; intro q; exact h0 (hb.symm.trans (Prod.mk.inj q).2)
 have back : ∀ r, b ≠ 0 -> l7 rows r -> aI rows r = (a, b) -> ∃ x ∈ rows, eD rows a b x = true /\ x.fr = r := fun r h0 hg hpr => by
  obtain ⟨x, hx, hk, hfr, hq⟩ := za3 h1 hg.1;have ho := hg.2;rw [hq] at hpr;cases hpr;refine ⟨x, hx, ?_, hfr⟩;simp only [eD, qe, aB, qv, dJ];exact ⟨hk, trivial, trivial, h0, by rw [hfr]; exact ho⟩
 unfold mY;generalize rows.foldl (cmpS rows a b) none = o at hc ⊢;split
 ·rename_i h0;cases o with
  | none => rfl
  | some r => obtain ⟨⟨x, hx, hb, _⟩, _⟩ := hc; exact absurd h0 (good x hx hb).1
 ·rename_i h0;cases hg : cN (a, b) made with
  | none =>
    cases o with
    | none => rfl
    | some r =>
      obtain ⟨⟨x, hx, hb, _⟩, _⟩ := hc;obtain ⟨_, g1, g2, g3⟩ := good x hx hb;exact absurd g3 (hm.m2 _ hg _ g1 g2)
  | some r =>
    obtain ⟨d1, d2, d3, d4⟩ := hm.m1 _ _ hg;obtain ⟨x, hx, hb, hfr⟩ := back r h0 d2 d3;cases o with
    | none => have := hc x hx; rw [this] at hb; cases hb
    | some s =>
      obtain ⟨⟨y, hy, hyb, rfl⟩, hl⟩ := hc;obtain ⟨_, g1, g2, g3⟩ := good y hy hyb;have k1 := hl x hx hb;have k2 := d4 _ g1 g2 g3;rw [hfr] at k1;exact congrArg some (Int.le_antisymm k2 k1)
theorem za5 {a b r : Int} (h : eT a b = some r) : bZ r = true := by
 unfold eT at h;split at h
 ·rename_i hc; cases h; simp only [bZ, qe, aB]; omega
 ·split at h
  ·rename_i hc; cases h; simp only [bZ, qe, aB] at hc ⊢; omega
  ·cases h
theorem zsz {rows : List Row} (h1 : eS rows) {a b r : Int} (h : fK rows a b = some r) : 0 <= r /\ r <= 1114111 := by
 unfold fK at h;split at h
 ·rename_i s hj; cases h; have := za5 hj; simp only [bZ, qe, aB] at this; omega
 ·exact (za4 h1 h).2.2.2.1
structure CSt where
 P : List Int
 s : Option Int
 M : List Int
def dO (key : Int -> Int) (M : List Int) : Int := match M.getLast? with | some m => key m | none => 0
def CSt.out (st : CSt) : List Int := st.P ++ (st.s.toList ++ st.M)
def cW (key : Int -> Int) (st : CSt) (r : Int) : CSt := if key r = 0 then ⟨st.out, some r, []⟩ else ⟨st.P, st.s, st.M ++ [r]⟩
def cT (rows : List Row) (st : CSt) (r : Int) : CSt := match st.s with
 | none => cW (aF rows 1) st r
 | some a => if st.M = [] ∨ dO (aF rows 1) st.M < aF rows 1 r then (match fK rows a r with
   | some c => ⟨st.P, some c, st.M⟩
   | none => cW (aF rows 1) st r) else cW (aF rows 1) st r
def bS (rows : List Row) (l : List Int) : CSt := l.foldl (cT rows) ⟨[], none, []⟩
def iB (rows : List Row) (l : List Int) : List Int := (bS rows l).out
theorem iC (rows : List Row) (l : List Int) (r : Int) : bS rows (l ++ [r]) = cT rows (bS rows l) r := by simp [bS]
theorem mZ (key : Int -> Int) (st : CSt) (r : Int) : (cW key st r).out = st.out ++ [r] := by
 unfold cW; split <;> simp [CSt.out]
theorem qB (rows : List Row) (st : CSt) (r : Int) : cT rows st r = cW (aF rows 1) st r ∨ ∃ a c, st.s = some a /\ fK rows a r = some c /\ (st.M = [] ∨ dO (aF rows 1) st.M < aF rows 1 r) /\ cT rows st r = ⟨st.P, some c, st.M⟩ := by
 unfold cT;split
 ·exact .inl rfl
 ·rename_i a ha;split
  ·rename_i hf;cases hc : fK rows a r with
   | none => exact .inl rfl
   | some c => exact .inr ⟨a, c, ha, hc, hf, rfl⟩
  ·exact .inl rfl
theorem za6 (rows : List Row) (l : List Int) : (iB rows l).length <= l.length := by
 unfold iB
 induction l using jR with
 | h0 => simp [bS, CSt.out]
 | h1 l r ih =>
   rw [iC, qj, qbn];rcases qB rows (bS rows l) r with e | ⟨a, c, hs, _, _, e⟩
   ·rw [e, mZ, qj, qbn]; omega
   ·rw [e]; simp only [CSt.out, hs, qay, qj, qg] at ih ⊢; omega
theorem za7 {rows : List Row} (h1 : eS rows) (l : List Int) : ∀ x ∈ iB rows l, x ∈ l ∨ (0 <= x /\ x <= 1114111) := by
 unfold iB
 induction l using jR with
 | h0 => intro x hx; simp [bS, CSt.out] at hx
 | h1 l r ih =>
   rw [iC];rcases qB rows (bS rows l) r with e | ⟨a, c, hs, hc, _, e⟩
   ·rw [e, mZ];intro x hx;rcases List.mem_append.1 hx with hx | hx
    ·exact (ih x hx).imp (fun h => List.mem_append.2 (.inl h)) id
    ·exact .inl (List.mem_append.2 (.inr hx))
   ·rw [e];intro x hx;simp only [CSt.out, qay, qad, qax, qbd, or_false] at hx ih;rcases hx with hx | rfl | hx
    ·exact (ih x (.inl hx)).imp (fun h => List.mem_append.2 (.inl h)) id
    ·exact .inr (zsz h1 hc)
    ·exact (ih x (.inr (.inr hx))).imp (fun h => List.mem_append.2 (.inl h)) id
structure TabC (rows : List Row) : Prop where
 one : eS rows
 closed : zsu rows
 cls : iO rows
 syl : ∀ x ∈ rows, x.kind = 2 -> bZ x.fr = false
 deep : ∀ x ∈ rows, x.kind = 2 -> aX rows 7 x.fr = aX rows 8 x.fr
theorem TabC.full7 {rows : List Row} (h : TabC rows) (r : Int) : aX rows 7 r = aX rows 8 r := by
 by_cases hs : bZ r = true
 ·rw [kY hs, kY hs]
 ·simp only [Bool.not_eq_true] at hs;by_cases h0 : aI rows r = (0, 0)
  ·rw [pY hs h0, pY hs h0]
  ·obtain ⟨x, hx, hk, rfl, _⟩ := za3 h.one h0;exact h.deep x hx hk
theorem TabC.join {rows : List Row} (h : TabC rows) {a b c : Int} (ha : dY rows a = true ∨ bZ a = true) (hj : eT a b = some c) : aX rows 8 c = aX rows 8 a ++ [b] := by
 rw [kY (za5 hj)];unfold eT at hj;split at hj
 ·rename_i hc;cases hj
  have hr : dY rows a = true := by
   rcases ha with ha | ha
   ·exact ha
   ·simp only [bZ, qe, aB] at ha; omega
  rw [wE hr];unfold eJ;rw [if_pos (by omega)];simp only [qm, qag, List.cons.injEq, and_true];omega
 ·split at hj
  ·rename_i hc;cases hj;obtain ⟨⟨hs, h0⟩, h1, h2⟩ := hc;rw [kY hs];simp only [bZ, qe, aB] at hs;unfold eJ;rw [if_neg (by omega), if_pos h0];simp only [qm, qag, List.cons.injEq, and_true];omega
  ·cases hj
theorem TabC.lead {rows : List Row} (h : TabC rows) {a : Int} (ha : 4352 <= a /\ a < 4371) : dY rows a = true := by
 have hx := h.closed (44032 + (a - 4352) * 588) a;refine hx ?_;have hs : bZ (44032 + (a - 4352) * 588) = true := by simp only [bZ, qe, aB]; omega
 rw [kY hs];unfold eJ;rw [if_pos (by omega), show 4352 + (44032 + (a - 4352) * 588 - 44032) / 588 = a by omega];exact qc
theorem TabC.pair {rows : List Row} (h : TabC rows) {a b c : Int} (hb : dY rows b = true) (hc : fK rows a b = some c) : aX rows 8 c = aX rows 8 a ++ [b] := by
 unfold fK at hc;split at hc
 ·rename_i s hj;cases hc;refine h.join ?_ hj;unfold eT at hj;split at hj
  ·rename_i hq; exact .inl (h.lead hq.1)
  ·split at hj
   ·rename_i hq; exact .inr hq.1.1
   ·cases hj
 ·obtain ⟨hp, h0, _, _, x, hx, hk, rfl⟩ := za4 h.one hc;have hs := h.syl x hx hk;have hn : aI rows x.fr ≠ (0, 0) := by rw [hp]; intro e; cases e; exact h0 rfl
  rw [show (8 : Nat) = 7 + 1 from rfl];rw [aX, if_neg (by rw [hs]; simp), if_neg hn, hp];simp only;rw [if_neg h0, h.full7, wE hb]
theorem tC (key : Int -> Int) (M : List Int) (r : Int) : dO key (M ++ [r]) = key r := by simp [dO]
structure InvC (rows : List Row) (st : CSt) (p : List Int) : Prop where
 e : Eqv (aF rows 1) (st.out.flatMap (aX rows 8)) p
 m : ∀ m ∈ st.M, aF rows 1 m ≠ 0 /\ dY rows m = true /\ aF rows 1 m <= dO (aF rows 1) st.M
 q : st.M ≠ [] -> ∃ p' q, p = p' ++ [q] /\ dO (aF rows 1) st.M <= aF rows 1 q
theorem InvC.app {rows : List Row} {st : CSt} {p : List Int} (h : InvC rows st p) {r : Int} (hr : dY rows r = true) (hc : dD (aF rows 1) (p ++ [r])) : InvC rows (cW (aF rows 1) st r) (p ++ [r]) := by
 have he : Eqv (aF rows 1) ((cW (aF rows 1) st r).out.flatMap (aX rows 8)) (p ++ [r]) := by
  rw [mZ, qau, qao, wE hr];simpa using h.e.app [] [r]
 refine ⟨he, ?_, ?_⟩
 ·unfold cW;split
  ·intro m hm; cases hm
  ·rename_i h0;intro m hm;simp only at hm ⊢;rw [tC];rcases List.mem_append.1 hm with hm | hm
   ·obtain ⟨k1, k2, k3⟩ := h.m m hm;refine ⟨k1, k2, ?_⟩;obtain ⟨p', q, rfl, hq⟩ := h.q (List.ne_nil_of_mem hm);have := (oF.1 hc).2.2 q r (by simp) rfl h0;omega
   ·rw [qf] at hm; subst hm; exact ⟨h0, hr, qi _⟩
 ·unfold cW;split
  ·intro hn; exact absurd rfl hn
  ·intro _; exact ⟨p, r, rfl, by simp only; rw [tC]; exact qi _⟩
theorem InvC.step {rows : List Row} (ht : TabC rows) {st : CSt} {p : List Int} (h : InvC rows st p) {r : Int} (hr : dY rows r = true) (hc : dD (aF rows 1) (p ++ [r])) : InvC rows (cT rows st r) (p ++ [r]) := by
 rcases qB rows st r with e | ⟨a, c, hs, hpc, hf, e⟩
 ·rw [e]; exact h.app hr hc
 ·rw [e];have hM : st.M.flatMap (aX rows 8) = st.M := zih fun m hm => (h.m m hm).2.1;have he := h.e;simp only [CSt.out, hs, qay, qau, qao, hM] at he;have hlt : st.M ≠ [] -> dO (aF rows 1) st.M < aF rows 1 r := fun hn => hf.elim (fun e => absurd e hn) id;refine ⟨?_, h.m, fun hn => ⟨p, r, rfl, qbe (hlt hn)⟩⟩;simp only [CSt.out, qay, qau, qao, hM, ht.pair hr hpc];refine Eqv.trans ?_ (by simpa using he.app [] [r])
  by_cases hn : st.M = []
  ·rw [hn]; simp; exact .refl _
  ·have h3 : dO (aF rows 1) st.M < aF rows 1 r := hlt hn
   have hr0 : aF rows 1 r ≠ 0 := by
    intro e0;obtain ⟨m, hm⟩ := qbb _ hn;obtain ⟨k1, _, k3⟩ := h.m m hm;have := ht.cls m; omega
   have := (Eqv.ahead (key := aF rows 1) hr0 (B := st.M) [] fun m hm => ⟨(h.m m hm).1, by have := (h.m m hm).2.2; omega⟩).symm.app (st.P.flatMap (aX rows 8) ++ aX rows 8 a) [];simpa using this
theorem zs0 {rows : List Row} (ht : TabC rows) {l : List Int} (hr : ∀ x ∈ l, dY rows x = true) (hc : dD (aF rows 1) l) : InvC rows (bS rows l) l := by
 revert hr hc
 induction l using jR with
 | h0 => intro _ _; exact ⟨.refl _, (fun m hm => by cases hm), fun hn => absurd rfl hn⟩
 | h1 l r ih =>
   intro hr hc;rw [iC];exact (ih (fun x hx => hr x (by simp [hx])) (oF.1 hc).1).step ht (hr r (by simp)) hc
def gO (rows : List Row) (l : List Int) : List Int := iB rows (jS rows l)
def Comp (rows : List Row) (s : List Int) : Prop := ∃ d, (∀ x ∈ d, dY rows x = true) /\ dD (aF rows 1) d /\ iB rows d = s
section
variable {rows : List Row}
def kZ (rows : List Row) (s : Option Int) (M : List Int) (r : Int) : Option Int := match s with
 | none => none
 | some a => if M = [] ∨ dO (aF rows 1) M < aF rows 1 r then fK rows a r else none
theorem l8 (st : CSt) (r : Int) : cT rows st r = match kZ rows st.s st.M r with | some c => ⟨st.P, some c, st.M⟩ | none => cW (aF rows 1) st r := by
 unfold cT kZ;cases st.s with
 | none => rfl
 | some a =>
   simp only;split
   ·rfl
   ·rfl
theorem za8 {s : Option Int} {M : List Int} {r c : Int} (h : kZ rows s M r = some c) : ∃ a, s = some a /\ fK rows a r = some c /\ (M = [] ∨ dO (aF rows 1) M < aF rows 1 r) := by
 unfold kZ at h;cases s with
 | none => cases h
 | some a =>
   simp only at h;split at h
   ·rename_i hf; exact ⟨a, rfl, h, hf⟩
   ·cases h
theorem l9 {d : List Int} {x : Int} : dD (aF rows 1) (d ++ [x]) ↔ dD (aF rows 1) d /\ (∀ z, d.getLast? = some z -> aF rows 1 x ≠ 0 -> aF rows 1 z <= aF rows 1 x) := by
 rw [oF];constructor
 ·rintro ⟨h1, _, h3⟩; exact ⟨h1, fun z hz hx => h3 z x hz rfl hx⟩
 ·rintro ⟨h1, h3⟩; exact ⟨h1, trivial, fun z x' hz hx' h0 => by simp at hx'; subst hx'; exact h3 z hz h0⟩
theorem za9 {d : List Int} {r x : Int} (h : dD (aF rows 1) (d ++ [r] ++ [x])) (hx : aF rows 1 x ≠ 0) : aF rows 1 r <= aF rows 1 x := (l9.1 h).2 r (by simp) hx
def Wit (rows : List Row) (d : List Int) (st : CSt) : Prop := ∃ e, (∀ x ∈ e, dY rows x = true) /\ bS rows e = st /\ (st.out = [] -> e = []) /\ dD (aF rows 1) e /\ ∀ x, dD (aF rows 1) (d ++ [x]) -> dD (aF rows 1) (e ++ [x])
theorem Wit.snoc {d : List Int} {st : CSt} (h : Wit rows d st) {r : Int} (hr : dY rows r = true) (hc : dD (aF rows 1) (d ++ [r])) (hn : (cT rows st r).out ≠ []) : Wit rows (d ++ [r]) (cT rows st r) := by
 obtain ⟨e, h1, h2, h3, h4, h5⟩ := h;refine ⟨e ++ [r], fun x hx => ?_, by rw [iC, h2], fun hq => absurd hq hn, h5 r hc, fun x hx => ?_⟩
 ·rcases List.mem_append.1 hx with hx | hx
  ·exact h1 x hx
  ·rw [qf] at hx; subst hx; exact hr
 ·exact l9.2 ⟨h5 r hc, fun z hz h0 => by simp at hz; subst hz; exact za9 hx h0⟩
theorem zba {key : Int -> Int} {M : List Int} (h : M ≠ []) : ∃ m ∈ M, dO key M = key m := by
 rcases M.eq_nil_or_concat with rfl | ⟨D, z, rfl⟩
 ·exact absurd rfl h
 ·exact ⟨z, by simp, by simp [dO]⟩
theorem zij {d : List Int} (h : (bS rows d).out = []) : d = [] := by
 revert h
 induction d using jR with
 | h0 => exact fun _ => rfl
 | h1 d r ih =>
   rw [iC, l8];intro h;split at h
   ·simp [CSt.out] at h
   ·rw [mZ] at h; simp at h
theorem tD {d : List Int} (h : (bS rows d).s = none) : (bS rows d).P = [] := by
 revert h
 induction d using jR with
 | h0 => exact fun _ => rfl
 | h1 d r ih =>
   rw [iC, l8];split
   ·intro h; cases h
   ·unfold cW;split
    ·intro h; cases h
    ·exact ih
theorem zs1 (ht : TabC rows) {d : List Int} (hr : ∀ x ∈ d, dY rows x = true) (hc : dD (aF rows 1) d) (hn : (bS rows d).M ≠ []) :
 Wit rows d ⟨(bS rows d).P, (bS rows d).s, (bS rows d).M.dropLast⟩ := by
 revert hr hc hn
 induction d using jR with
 | h0 => intro _ _ hn; exact absurd rfl hn
 | h1 d r ih =>
   intro hr hc;have hr1 : ∀ x ∈ d, dY rows x = true := fun x hx => hr x (by simp [hx]);have hc1 := (l9.1 hc).1;have hinv := zs0 ht hr1 hc1;have hrr := hr r (by simp);rw [iC];have ih := ih hr1 hc1;have hon := zij (rows := rows) (d := d);generalize hsd : bS rows d = st at *;rw [l8];cases hd : kZ rows st.s st.M r with
   | none =>
     simp only;unfold cW;split
     ·intro hn; exact absurd rfl hn
     ·rename_i h0;intro _;simp only [qaa];refine ⟨d, hr1, hsd, fun h => hon h, hc1, fun x hx => l9.2 ⟨hc1, fun z hz hx0 => ?_⟩⟩;have := (l9.1 hc).2 z hz h0;have := za9 hx hx0;omega
   | some c =>
     simp only;intro hn;obtain ⟨a, hs, hp, hf⟩ := za8 hd;have hlt := hf.elim (fun e => absurd e hn) id;have hw := (ih hn).snoc hrr hc
     have he : cT rows ⟨st.P, st.s, st.M.dropLast⟩ r = ⟨st.P, some c, st.M.dropLast⟩ := by
      rw [l8]
      have : kZ rows st.s st.M.dropLast r = some c := by
       unfold kZ;rw [hs];simp only;rw [if_pos, hp];by_cases hdl : st.M.dropLast = []
       ·exact .inl hdl
       ·obtain ⟨m, hm, e⟩ := zba (key := aF rows 1) hdl;have := (hinv.m m (List.dropLast_subset _ hm)).2.2;exact .inr (by omega)
      simp only [this]
     rw [he] at hw;exact hw (by simp [CSt.out])
def fS (st : CSt) : CSt := match st.s, st.P with
 | none, P => ⟨P, none, st.M.tail⟩
 | some _, [] => ⟨[], none, st.M⟩
 | some c, _ :: P => ⟨P, some c, st.M⟩
theorem zs2 {st : CSt} (h : st.s = none -> st.P = []) : (fS st).out = st.out.tail := by
 obtain ⟨P, s, M⟩ := st;cases s with
 | none =>
   have hp : P = [] := h rfl;subst hp;simp [fS, CSt.out]
 | some c => cases P <;> simp [fS, CSt.out]
theorem zs3 (hk : iO rows) (M : List Int) : 0 <= dO (aF rows 1) M := by
 by_cases h : M = []
 ·subst h; exact qi _
 ·obtain ⟨m, _, e⟩ := zba (key := aF rows 1) h;rw [e]; exact hk m
theorem zs4 (ht : TabC rows) {d : List Int} (hr : ∀ x ∈ d, dY rows x = true) (hc : dD (aF rows 1) d) (hn : d ≠ []) : Wit rows d (fS (bS rows d)) := by
 revert hr hc hn
 induction d using jR with
 | h0 => intro _ _ hn; exact absurd rfl hn
 | h1 d r ih =>
   intro hr hc _;have hr1 : ∀ x ∈ d, dY rows x = true := fun x hx => hr x (by simp [hx]);have hc1 := (l9.1 hc).1;have hrr := hr r (by simp);by_cases hd0 : d = []
   ·subst hd0;refine ⟨[], fun x hx => (by cases hx), ?_, fun _ => rfl, trivial, fun x _ => trivial⟩;rw [iC];show _ = fS (cW (aF rows 1) ⟨[], none, []⟩ r);unfold cW;split <;> rfl
   ·have ih := ih hr1 hc1 hd0;have hP := tD (rows := rows) (d := d);have hon : (bS rows d).out ≠ [] := fun h => hd0 (zij h);rw [iC];generalize bS rows d = st at *
    have key : (fS (cT rows st r) = cT rows (fS st) r /\ (cT rows (fS st) r).out ≠ []) -> Wit rows (d ++ [r]) (fS (cT rows st r)) := fun ⟨h1, h2⟩ => by
     rw [h1]; exact ih.snoc hrr hc h2
    obtain ⟨P, s, M⟩ := st;cases s with
    | none =>
      obtain rfl : P = [] := hP rfl;cases M with
      | nil => exact absurd rfl hon
      | cons m M =>
        refine key ?_;have e1 : cT rows ⟨[], none, m :: M⟩ r = cW (aF rows 1) ⟨[], none, m :: M⟩ r := rfl;have e2 : cT rows (fS ⟨[], none, m :: M⟩) r = cW (aF rows 1) ⟨[], none, M⟩ r := rfl;rw [e1, e2, mZ];refine ⟨?_, by simp⟩;unfold cW;split <;> simp [fS, CSt.out]
    | some c =>
      cases P with
      | cons p P =>
        refine key ?_;have e2 : fS ⟨p :: P, some c, M⟩ = ⟨P, some c, M⟩ := rfl;rw [e2, l8, l8];simp only;cases kZ rows (some c) M r with
        | none => simp only; rw [mZ]; refine ⟨?_, by simp⟩; unfold cW; split <;> simp [fS, CSt.out]
        | some c' => exact ⟨rfl, by simp [CSt.out]⟩
      | nil =>
        have e2 : fS ⟨[], some c, M⟩ = ⟨[], none, M⟩ := rfl;have e3 : cT rows ⟨[], none, M⟩ r = cW (aF rows 1) ⟨[], none, M⟩ r := rfl;cases hdec : kZ rows (some c) M r with
        | none =>
          refine key ?_;rw [e2, e3, l8];simp only [hdec];rw [mZ];refine ⟨?_, by simp⟩;unfold cW;split <;> simp [fS, CSt.out]
        | some c' =>
          obtain ⟨a, _, hp, hf⟩ := za8 hdec
          have e4 : fS (cT rows ⟨[], some c, M⟩ r) = ⟨[], none, M⟩ := by
           rw [l8]; simp only [hdec]; rfl
          rw [e4];rw [e2] at ih;obtain ⟨e, h1, h2, h3, h4, h5⟩ := ih;refine ⟨e, h1, h2, h3, h4, fun x hx => l9.2 ⟨h4, fun z hz hx0 => ?_⟩⟩;by_cases h0 : aF rows 1 r = 0
          ·have hl := zs3 ht.cls M;have hM : M = [] := hf.elim id fun h => by omega
           subst hM;have := h3 rfl;subst this;simp at hz
          ·have k1 := (l9.1 (h5 r hc)).2 z hz h0;have k2 := za9 hx hx0;omega
theorem zs5 {d : List Int} (hr : ∀ x ∈ d, dY rows x = true) (hc : dD (aF rows 1) d) (hn : (bS rows d).s ≠ none) : ∃ e, (∀ x ∈ e, dY rows x = true) /\ dD (aF rows 1) e /\ (bS rows e).out = (bS rows d).P := by
 revert hr hc hn
 induction d using jR with
 | h0 => intro _ _ hn; exact absurd rfl hn
 | h1 d r ih =>
   intro hr hc;have hr1 : ∀ x ∈ d, dY rows x = true := fun x hx => hr x (by simp [hx]);have hc1 := (l9.1 hc).1;have ih := ih hr1 hc1;rw [iC, l8];cases hd : kZ rows (bS rows d).s (bS rows d).M r with
   | none =>
     simp only;unfold cW;split
     ·intro _; exact ⟨d, hr1, hc1, rfl⟩
     ·exact ih
   | some c =>
     obtain ⟨a, hs, _⟩ := za8 hd;intro _;exact ih (by rw [hs]; simp)
theorem Comp.nil : Comp rows [] := ⟨[], fun x hx => (by cases hx), trivial, rfl⟩
theorem Comp.tail (ht : TabC rows) {s : List Int} (h : Comp rows s) : Comp rows s.tail := by
 obtain ⟨d, h1, h2, rfl⟩ := h;by_cases hd : d = []
 ·subst hd; exact .nil
 ·obtain ⟨e, k1, k2, _, k4, _⟩ := zs4 ht h1 h2 hd;exact ⟨e, k1, k4, by unfold iB; rw [k2, zs2 tD]⟩
theorem Comp.dropLast (ht : TabC rows) {s : List Int} (h : Comp rows s) : Comp rows s.dropLast := by
 obtain ⟨d, h1, h2, rfl⟩ := h;unfold iB;by_cases hM : (bS rows d).M = []
 ·cases hs : (bS rows d).s with
  | none =>
    have : (bS rows d).out = [] := by simp [CSt.out, tD hs, hs, hM]
    rw [this]; exact .nil
  | some c =>
    obtain ⟨e, k1, k2, k3⟩ := zs5 h1 h2 (by rw [hs]; simp);refine ⟨e, k1, k2, ?_⟩;unfold iB;rw [k3];simp [CSt.out, hs, hM]
 ·obtain ⟨e, k1, k2, _, k4, _⟩ := zs1 ht h1 h2 hM;refine ⟨e, k1, k4, ?_⟩;unfold iB;rw [k2];simp only [CSt.out];rw [qas (by simp [hM]), qas hM]
theorem Comp.drop (ht : TabC rows) {s : List Int} (h : Comp rows s) : ∀ k, Comp rows (s.drop k)
 | 0 => h
 | k + 1 => by
   have := (Comp.drop ht h k).tail ht;rwa [List.tail_drop] at this
theorem Comp.take (ht : TabC rows) {s : List Int} (h : Comp rows s) (k : Nat) : Comp rows (s.take k) := by
 have : ∀ n, Comp rows (s.take (s.length - n)) := by
  intro n
  induction n with
  | zero => rw [qca, List.take_length]; exact h
  | succ n ih =>
    have := ih.dropLast ht;rw [List.dropLast_eq_take, qco, qbf] at this;rwa [show min (min (s.length - n) s.length - 1) (s.length - n) = s.length - (n + 1) by omega] at this
 by_cases hk : k <= s.length
 ·have := this (s.length - k);rwa [show s.length - (s.length - k) = k by omega] at this
 ·rw [qu (by omega)]; exact h
end
end Go.Eng.Rows

namespace Go.Eng.Srt
open Go Go.Eng
section
variable {key : Int -> Int} (hk : ∀ x, 0 <= key x)
include hk
end
end Go.Eng.Srt
namespace Go.Eng.Rows
open Go Go.Eng Go.Eng.Trie Go.Eng.Srt
section
variable {rows : List Row}
def CSt.pre (Q : List Int) (st : CSt) : CSt := ⟨Q ++ st.P, st.s, st.M⟩
end
end Go.Eng.Rows

namespace Go.Eng.Rows
open Go Go.Eng Go.Eng.Trie Go.Eng.Srt
def fT (L : List Int) (a b : Nat) : List Int := (L.take b).drop a
def zs6 (rows : List Row) (L want : List Int) (a b : Nat) : Bool := decide (jS rows (fT L a b) = want)
def fTo (p : Nat -> Bool) (b : Nat) : Nat -> Option Nat
 | 0 => none
 | k + 1 => if p b then some b else fTo p (b + 1) k
def zik (rows : List Row) (L want : List Int) (a : Nat) : Nat -> Option (Nat × Nat)
 | 0 => none
 | k + 1 => match fTo (zs6 rows L want a) a (L.length + 1 - a) with
   | some b => some (a, b)
   | none => zik rows L want (a + 1) k
def findL (rows : List Row) (L want : List Int) : Option (Nat × Nat) := zik rows L want 0 (L.length + 1)
theorem drop_cons {L : List Int} {b : Nat} (h : b < L.length) : L.drop b = L.getD b 0 :: L.drop (b + 1) := by
 rw [qbc h];simp only [qt, qh h, qap]
section
variable {rows : List Row}
end
section
variable (p : List Int -> Option (Nat × Nat)) (ls : List (List Int)) (s : Int)
end
section
variable {p : List Int -> Option (Nat × Nat)} {ls : List (List Int)} {s : Int}
end
section
variable (p : List Int -> Option (Nat × Nat)) (L : List Int)
end
def Inc (n : Nat) : Nat -> List (Nat × Nat) -> Prop
 | i, [] => i <= n
 | i, (a, b) :: ps => i <= a /\ a < b /\ Inc n b ps
theorem Inc.le {n : Nat} : ∀ {ps : List (Nat × Nat)} {i : Nat}, Inc n i ps -> i <= n
 | [], i, h => h
 | (a, b) :: ps, i, h => by have := h.2.2.le; have := h.1; have := h.2.1; omega
theorem Inc.len {n : Nat} : ∀ {ps : List (Nat × Nat)} {i : Nat}, Inc n i ps -> ps.length + i <= n
 | [], i, h => by have : i <= n := h; simpa using this
 | (a, b) :: ps, i, h => by have := h.2.2.len; have := h.1; have := h.2.1; rw [qg]; omega
section
variable {p : List Int -> Option (Nat × Nat)} {L : List Int}
end
def aK (rows : List Row) (r : Int) : Int := if 44032 <= r /\ r <= 55203 then (if (r - 44032).tmod 28 = 0 then 12 else 13) else aF rows 4 r
def cG (rows : List Row) (r : Int) : Int := if aF rows 6 r ≠ 0 then aF rows 6 r else if (aK rows r = 4 ∨ aK rows r = 5) /\ r ≠ 8204 then 3 else 0
def dB (b : Int) : Bool := decide (b = 3) || (decide (b = 1) || decide (b = 2))
def oG (a b : Int) : Bool :=
 if a = 9 then decide (b = 9) || (decide (b = 10) || (decide (b = 12) || decide (b = 13)))
 else if a = 12 ∨ a = 10 then decide (b = 10) || decide (b = 11)
 else if a = 13 ∨ a = 11 then decide (b = 11) else false
def iP (a b : Int) : Bool :=
 if a = 1 then decide (b = 2) else if a = 2 ∨ a = 3 then false
 else if b = 1 ∨ b = 2 ∨ b = 3 then false else if b = 4 ∨ b = 5 ∨ b = 8 then true
 else if a = 7 then true else oG a b
structure SSt where
 (some : Bool) (last pict conj : Int) (odd : Bool)
def dZ (rows : List Row) (st : SSt) (r : Int) : SSt :=
 ⟨true, aK rows r,
  if cE rows 5 r = true then 1 else if st.pict = 1 /\ aK rows r = 4 then 1 else if st.pict = 1 /\ aK rows r = 5 then 2 else 0,
  if cG rows r = 2 then 1 else if st.conj ≠ 0 /\ cG rows r = 1 then 2 else if st.conj ≠ 0 /\ cG rows r = 3 then st.conj else 0,
  decide (aK rows r = 6) && !st.odd⟩
def tE (rows : List Row) (st : SSt) (r : Int) : Bool :=
 !iP st.last (aK rows r) && (!(decide (st.pict = 2) && cE rows 5 r) && (!(decide (st.conj = 2) && decide (cG rows r = 2)) && !(st.odd && decide (aK rows r = 6))))
def qC (rows : List Row) (st : SSt) (r : Int) : Bool := !st.some || tE rows st r
def st0 : SSt := ⟨false, 0, 0, 0, false⟩
def bF (rows : List Row) (L : List Int) (a : Nat) : Nat -> SSt
 | 0 => st0
 | k + 1 => dZ rows (bF rows L a k) (L.getD (a + k) 0)
def fU (rows : List Row) (L : List Int) (i : Nat) : Bool := qC rows (bF rows L 0 i) (L.getD i 0)
structure iQ (rows : List Row) : Prop where
 pict : ∀ r, cE rows 5 r = true -> dB (aK rows r) = false /\ aK rows r ≠ 5
 conj : ∀ r, cG rows r = 0 ∨ cG rows r = 1 ∨ cG rows r = 2 ∨ cG rows r = 3
 cons : ∀ r, cG rows r ≠ 0 -> dB (aK rows r) = false
 join : ∀ r, cG rows r = 1 ∨ cG rows r = 3 -> aK rows r = 4 ∨ aK rows r = 5 ∨ aK rows r = 8
theorem zs7 {a b : Int} (h : dB a = true ∨ dB b = true) (h2 : ¬(a = 1 /\ b = 2)) : iP a b = false := by
 unfold dB at h;simp only [Bool.or_eq_true, aB] at h;unfold iP;by_cases h1 : a = 1
 ·rw [if_pos h1]; exact decide_eq_false fun h3 => h2 ⟨h1, h3⟩
 ·rw [if_neg h1];by_cases h3 : a = 2 ∨ a = 3
  ·rw [if_pos h3]
  ·rw [if_neg h3, if_pos (by omega)]
theorem zs8 {a b : Int} (h : dB a = false) (h2 : dB b = false) (h3 : b = 4 ∨ b = 5 ∨ b = 8) : iP a b = true := by
 unfold dB at h h2;simp only [qbr, dJ] at h h2;unfold iP;rw [if_neg h.2.1, if_neg (by omega), if_neg (by omega), if_pos h3]
section
variable {rows : List Row} {L : List Int}
theorem zbb {a k : Nat} : (bF rows L a (k + 1)).last = aK rows (L.getD (a + k) 0) := rfl
theorem zs9 {a k : Nat} : (bF rows L a (k + 1)).some = true := rfl
theorem zil {a : Nat} (ht : iQ rows) : ∀ k, (bF rows L a k).pict ≠ 0 -> dB (bF rows L a k).last = false
 | 0, h => absurd rfl h
 | k + 1, h => by
   rw [zbb];by_cases h1 : cE rows 5 (L.getD (a + k) 0) = true
   ·exact (ht.pict _ h1).1
   ·have h' : (if (bF rows L a k).pict = 1 /\ aK rows (L.getD (a + k) 0) = 4 then (1 : Int) else if (bF rows L a k).pict = 1 /\ aK rows (L.getD (a + k) 0) = 5 then 2 else 0) ≠ 0 := by
     have h2 : (dZ rows (bF rows L a k) (L.getD (a + k) 0)).pict ≠ 0 := h;unfold dZ at h2; simp only [if_neg h1] at h2; exact h2
    have : aK rows (L.getD (a + k) 0) = 4 ∨ aK rows (L.getD (a + k) 0) = 5 := by
     split at h'
     ·rename_i h3; exact .inl h3.2
     ·split at h'
      ·rename_i h3; exact .inr h3.2
      ·exact absurd rfl h'
    unfold dB;rcases this with e | e <;> rw [e] <;> rfl
theorem zim {a : Nat} (ht : iQ rows) : ∀ k, (bF rows L a k).conj ≠ 0 -> dB (bF rows L a k).last = false
 | 0, h => absurd rfl h
 | k + 1, h => by
   rw [zbb];apply ht.cons;intro h0;apply h;show (dZ rows (bF rows L a k) (L.getD (a + k) 0)).conj = 0;unfold dZ;simp only [h0];rw [if_neg (by decide), if_neg (fun h => absurd h.2 (by decide)), if_neg (fun h => absurd h.2 (by decide))]
theorem zin (k : Nat) : fU rows L (k + 1) = tE rows (bF rows L 0 (k + 1)) (L.getD (k + 1) 0) := by
 unfold fU qC; rw [zs9]; rfl
theorem zio (ht : iQ rows) {a : Nat} (hb : fU rows L a = true) : ∀ k, bF rows L a (k + 1) = bF rows L 0 (a + (k + 1))
 | 0 => by
   cases a with
   | zero => rfl
   | succ a =>
     rw [zin] at hb;show dZ rows st0 (L.getD (a + 1 + 0) 0) = dZ rows (bF rows L 0 (a + 1)) (L.getD (0 + (a + 1)) 0);rw [show a + 1 + 0 = a + 1 by omega, show 0 + (a + 1) = a + 1 by omega];have hp := zil (a := 0) (L := L) ht (a + 1);have hc := zim (a := 0) (L := L) ht (a + 1);generalize bF rows L 0 (a + 1) = st at *;generalize L.getD (a + 1) 0 = r at *;unfold tE at hb;simp only [qe, qv, qy] at hb;obtain ⟨h1, h2, h3, h4⟩ := hb
     have hs : aK rows r = 4 ∨ aK rows r = 5 ∨ aK rows r = 8 -> dB st.last = true := fun h => by
      cases hh : dB st.last with
      | true => rfl
      | false => rw [zs8 hh (by unfold dB; rcases h with e | e | e <;> rw [e] <;> rfl) h] at h1; cases h1
     unfold dZ st0
     have e1 : (if cE rows 5 r = true then (1 : Int) else if (0 : Int) = 1 /\ aK rows r = 4 then 1 else if (0 : Int) = 1 /\ aK rows r = 5 then 2 else 0) = (if cE rows 5 r = true then 1 else if st.pict = 1 /\ aK rows r = 4 then 1 else if st.pict = 1 /\ aK rows r = 5 then 2 else 0) := by
      by_cases h5 : cE rows 5 r = true
      ·rw [if_pos h5, if_pos h5]
      ·rw [if_neg h5, if_neg h5, if_neg (by omega), if_neg (by omega)]
       have : ∀ b, (b = 4 ∨ b = 5 ∨ b = 8) -> ¬(st.pict = 1 /\ aK rows r = b) := fun b hb h => by
        have := hs (by rw [h.2]; exact hb);rw [hp (by omega)] at this; cases this
       rw [if_neg (this 4 (by omega)), if_neg (this 5 (by omega))]
     have e2 : (if cG rows r = 2 then (1 : Int) else if (0 : Int) ≠ 0 /\ cG rows r = 1 then 2 else if (0 : Int) ≠ 0 /\ cG rows r = 3 then 0 else 0) = (if cG rows r = 2 then 1 else if st.conj ≠ 0 /\ cG rows r = 1 then 2 else if st.conj ≠ 0 /\ cG rows r = 3 then st.conj else 0) := by
      by_cases h5 : cG rows r = 2
      ·rw [if_pos h5, if_pos h5]
      ·rw [if_neg h5, if_neg h5, if_neg (by omega), if_neg (by omega)]
       have : ∀ c, (c = 1 ∨ c = 3) -> ¬(st.conj ≠ 0 /\ cG rows r = c) := fun c hc2 h => by
        have := hs (ht.join r (by rw [h.2]; exact hc2));rw [hc h.1] at this; cases this
       rw [if_neg (this 1 (by omega)), if_neg (this 3 (by omega))]
     have e3 : (decide (aK rows r = 6) && !false) = (decide (aK rows r = 6) && !st.odd) := by
      rcases h4 with h4 | h4
      ·rw [h4]
      ·rw [h4]; rfl
     dsimp only at e1 e2 e3 ⊢;rw [e1, e2, e3]
 | k + 1 => by
   show dZ rows (bF rows L a (k + 1)) (L.getD (a + (k + 1)) 0) = dZ rows (bF rows L 0 (a + (k + 1))) (L.getD (0 + (a + (k + 1))) 0);rw [zio ht hb k, qo]
theorem zta (ht : iQ rows) {a : Nat} (hb : fU rows L a = true) (k : Nat) : qC rows (bF rows L a (k + 1)) (L.getD (a + (k + 1)) 0) = fU rows L (a + (k + 1)) := by
 rw [zio ht hb k]; rfl
end
def gP (rows : List Row) (L : List Int) : Nat -> Nat -> Nat
 | 0, i => i
 | k + 1, i => if fU rows L i = true then i else gP rows L k (i + 1)
def cH (rows : List Row) (L : List Int) (a : Nat) : Nat := gP rows L (L.length - (a + 1)) (a + 1)
theorem ziq (rows : List Row) (L : List Int) : ∀ k i, i <= gP rows L k i /\ gP rows L k i <= i + k /\ (gP rows L k i = i + k ∨ fU rows L (gP rows L k i) = true)
 | 0, i => ⟨qn _, qn _, .inl rfl⟩
 | k + 1, i => by
   rw [gP];split
   ·rename_i h; exact ⟨qn _, by omega, .inr h⟩
   ·obtain ⟨h1, h2, h3⟩ := ziq rows L k (i + 1);exact ⟨by omega, by omega, h3.imp (fun e => by omega) id⟩
def iD (rows : List Row) (L : List Int) : Nat -> Nat -> List (List Int)
 | 0, _ => []
 | k + 1, i => if i < L.length then fT L i (cH rows L i) :: iD rows L k (cH rows L i) else []
def iR (rows : List Row) (L : List Int) (i : Nat) : List (List Int) := iD rows L (L.length + 1) i
theorem qD {rows : List Row} {L : List Int} {i : Nat} (h : i < L.length) : i < cH rows L i /\ cH rows L i <= L.length /\ (cH rows L i = L.length ∨ fU rows L (cH rows L i) = true) := by
 obtain ⟨h1, h2, h3⟩ := ziq rows L (L.length - (i + 1)) (i + 1);unfold cH;exact ⟨by omega, by omega, h3.imp (fun e => by omega) id⟩
theorem zir (rows : List Row) (L : List Int) : ∀ k i, L.length + 1 <= k + i -> iD rows L k i = iD rows L (k + 1) i
 | 0, i, h => by rw [iD, iD, if_neg (by omega)]
 | k + 1, i, h => by
   rw [iD, iD];by_cases hi : i < L.length
   ·rw [if_pos hi, if_pos hi, zir rows L k _ (by have := (qD (rows := rows) hi).1; omega)]
   ·rw [if_neg hi, if_neg hi]
theorem zis {rows : List Row} {L : List Int} {i : Nat} (h : L.length <= i) : iR rows L i = [] := by unfold iR; rw [iD, if_neg (by omega)]
theorem zit {rows : List Row} {L : List Int} {i : Nat} (h : i < L.length) : iR rows L i = fT L i (cH rows L i) :: iR rows L (cH rows L i) := by
 have := (qD (rows := rows) h).1;unfold iR;rw [<- zir rows L L.length (cH rows L i) (by omega), iD, if_pos h]
section
variable {rows : List Row} {L : List Int}
theorem ztb (ht : iQ rows) (k : Nat) : fU rows L (k + 1) =
 (if aK rows (L.getD k 0) = 1 /\ aK rows (L.getD (k + 1) 0) = 2 then false
  else if dB (aK rows (L.getD k 0)) = true ∨ dB (aK rows (L.getD (k + 1) 0)) = true then true
  else if oG (aK rows (L.getD k 0)) (aK rows (L.getD (k + 1) 0)) = true ∨ (aK rows (L.getD (k + 1) 0) = 4 ∨ aK rows (L.getD (k + 1) 0) = 5 ∨ aK rows (L.getD (k + 1) 0) = 8 ∨ aK rows (L.getD k 0) = 7) then false
  else !(decide (cG rows (L.getD (k + 1) 0) = 2) && decide ((bF rows L 0 (k + 1)).conj = 2)) && (!(cE rows 5 (L.getD (k + 1) 0) && decide ((bF rows L 0 (k + 1)).pict = 2)) && !(decide (aK rows (L.getD (k + 1) 0) = 6) && (bF rows L 0 (k + 1)).odd))) := by
 rw [zin];have hl : (bF rows L 0 (k + 1)).last = aK rows (L.getD k 0) := by rw [zbb, qo]
 have hp := zil (a := 0) (L := L) ht (k + 1);have hc := zim (a := 0) (L := L) ht (k + 1)
 have ho : (bF rows L 0 (k + 1)).odd = true -> aK rows (L.getD k 0) = 6 := fun h => by
  have h' : (decide (aK rows (L.getD (0 + k) 0) = 6) && !(bF rows L 0 k).odd) = true := h;simp only [qe, aB, qo] at h'; exact h'.1
 have h5 := ht.pict (L.getD (k + 1) 0);have h6 := ht.cons (L.getD (k + 1) 0);rw [hl] at hp hc;generalize bF rows L 0 (k + 1) = st at *;generalize L.getD (k + 1) 0 = r at *;generalize L.getD k 0 = q at *;unfold tE;rw [hl]
 have hhard : dB (aK rows q) = true ∨ dB (aK rows r) = true -> (!(decide (st.pict = 2) && cE rows 5 r) && (!(decide (st.conj = 2) && decide (cG rows r = 2)) && !(st.odd && decide (aK rows r = 6)))) = true := fun h => by
  have g1 : (decide (st.pict = 2) && cE rows 5 r) = false := by
   rw [qy, dJ];rcases h with h | h
   ·exact .inl fun e => by rw [hp (by omega)] at h; cases h
   ·right;cases ht5 : cE rows 5 r with
    | false => rfl
    | true => rw [(h5 ht5).1] at h; cases h
  have g2 : (decide (st.conj = 2) && decide (cG rows r = 2)) = false := by
   rw [qy, dJ, dJ];rcases h with h | h
   ·exact .inl fun e => by rw [hc (by omega)] at h; cases h
   ·exact .inr fun e => by rw [h6 (by omega)] at h; cases h
  have g3 : (st.odd && decide (aK rows r = 6)) = false := by
   rw [qy, dJ];rcases h with h | h
   ·left;cases hod : st.odd with
    | false => rfl
    | true => rw [ho hod] at h; cases h
   ·exact .inr fun e => by rw [e] at h; cases h
  rw [g1, g2, g3]; rfl
 by_cases c1 : aK rows q = 1 /\ aK rows r = 2
 ·rw [if_pos c1];have : iP (aK rows q) (aK rows r) = true := by rw [c1.1, c1.2]; rfl
  rw [this]; rfl
 rw [if_neg c1];by_cases c2 : dB (aK rows q) = true ∨ dB (aK rows r) = true
 ·rw [if_pos c2, hhard c2, zs7 c2 c1]; rfl
 rw [if_neg c2]
 have c3 : dB (aK rows q) = false /\ dB (aK rows r) = false := by
  constructor
  ·cases h : dB (aK rows q) with
   | false => rfl
   | true => exact absurd (.inl h) c2
  ·cases h : dB (aK rows r) with
   | false => rfl
   | true => exact absurd (.inr h) c2
 have hst : iP (aK rows q) (aK rows r) = true ↔ (oG (aK rows q) (aK rows r) = true ∨ (aK rows r = 4 ∨ aK rows r = 5 ∨ aK rows r = 8 ∨ aK rows q = 7)) := by
  obtain ⟨q1, q2⟩ := c3;generalize aK rows q = a at *;generalize aK rows r = b at *;unfold dB at q1 q2;simp only [qbr, dJ] at q1 q2;unfold iP;rw [if_neg q1.2.1, if_neg (by omega), if_neg (by omega)];by_cases d1 : b = 4 ∨ b = 5 ∨ b = 8
  ·rw [if_pos d1]; exact ⟨fun _ => .inr (by omega), fun _ => rfl⟩
  ·rw [if_neg d1];by_cases d2 : a = 7
   ·rw [if_pos d2]; exact ⟨fun _ => .inr (by omega), fun _ => rfl⟩
   ·rw [if_neg d2]; exact ⟨fun h => .inl h, fun h => h.resolve_right (by omega)⟩
 by_cases c4 : oG (aK rows q) (aK rows r) = true ∨ (aK rows r = 4 ∨ aK rows r = 5 ∨ aK rows r = 8 ∨ aK rows q = 7)
 ·rw [if_pos c4, hst.2 c4]; rfl
 ·rw [if_neg c4]
  have : iP (aK rows q) (aK rows r) = false := by
   cases h : iP (aK rows q) (aK rows r) with
   | false => rfl
   | true => exact absurd (hst.1 h) c4
  rw [this];simp only [Bool.not_false, Bool.true_and];rw [qbt (decide (cG rows r = 2)), qbt (cE rows 5 r), qbt (decide (aK rows r = 6))];cases (decide (st.conj = 2) && decide (cG rows r = 2)) <;> cases (decide (st.pict = 2) && cE rows 5 r) <;> rfl
theorem ztc (k : Nat) : (bF rows L 0 (k + 1)).conj = if cG rows (L.getD k 0) = 2 then 1 else if (bF rows L 0 k).conj ≠ 0 /\ cG rows (L.getD k 0) = 1 then 2 else if (bF rows L 0 k).conj ≠ 0 /\ cG rows (L.getD k 0) = 3 then (bF rows L 0 k).conj else 0 := by
 show (dZ rows (bF rows L 0 k) (L.getD (0 + k) 0)).conj = _;rw [qo]; rfl
theorem ziu (k : Nat) : (bF rows L 0 (k + 1)).pict = if cE rows 5 (L.getD k 0) = true then 1 else if (bF rows L 0 k).pict = 1 /\ aK rows (L.getD k 0) = 4 then 1 else if (bF rows L 0 k).pict = 1 /\ aK rows (L.getD k 0) = 5 then 2 else 0 := by
 show (dZ rows (bF rows L 0 k) (L.getD (0 + k) 0)).pict = _;rw [qo]; rfl
theorem ztd (k : Nat) : (bF rows L 0 (k + 1)).odd = (decide (aK rows (L.getD k 0) = 6) && !(bF rows L 0 k).odd) := by
 show (dZ rows (bF rows L 0 k) (L.getD (0 + k) 0)).odd = _;rw [qo]; rfl
end
end Go.Eng.Rows

namespace Go.Eng.Srt
open Go Go.Eng
end Go.Eng.Srt
namespace Go.Eng.Rows
open Go Go.Eng Go.Eng.Trie Go.Eng.Srt
section
variable {rows : List Row}
end
section
variable (ks : List (List Int))
end
section
variable {ks : List (List Int)} {want : List Int}
end
section
variable {rows : List Row} {L : List Int}
end
end Go.Eng.Rows

namespace Go.Eng.Rows
open Go Go.Eng Go.Eng.Trie Go.Eng.Srt
def aZ : List (List Int) -> List (List Int) -> Nat
 | [], _ => 0
 | _ :: _, [] => 0
 | a :: xs, b :: bs => if a = b then aZ xs bs + 1 else max (aZ xs (b :: bs)) (aZ (a :: xs) bs)
 termination_by A B => A.length + B.length
theorem wG (B : List (List Int)) : aZ [] B = 0 := by rw [aZ]
theorem tF (A : List (List Int)) : aZ A [] = 0 := by cases A <;> rw [aZ]
theorem qE (a b : List Int) (xs bs : List (List Int)) : aZ (a :: xs) (b :: bs) = if a = b then aZ xs bs + 1 else max (aZ xs (b :: bs)) (aZ (a :: xs) bs) := by rw [aZ]
theorem qF : ∀ (n : Nat) (A B : List (List Int)), A.length + B.length <= n -> ∃ S : List (List Int), S.Sublist A /\ S.Sublist B /\ S.length = aZ A B
 | _, [], B, _ => ⟨[], qaq _, qaq _, (wG B).symm⟩
 | _, a :: xs, [], _ => ⟨[], qaq _, qaq _, (tF _).symm⟩
 | 0, a :: xs, b :: bs, h => by simp at h
 | n + 1, a :: xs, b :: bs, h => by
   simp only [qg] at h;rw [qE];by_cases e : a = b
   ·rw [if_pos e];obtain ⟨S, h1, h2, h3⟩ := qF n xs bs (by omega);exact ⟨a :: S, h1.cons_cons a, e ▸ h2.cons_cons a, by rw [qg, h3]⟩
   ·rw [if_neg e];by_cases hm : aZ xs (b :: bs) <= aZ (a :: xs) bs
    ·rw [Nat.max_eq_right hm];obtain ⟨S, h1, h2, h3⟩ := qF n (a :: xs) bs (by simp only [qg]; omega);exact ⟨S, h1, h2.cons b, h3⟩
    ·rw [Nat.max_eq_left (by omega)];obtain ⟨S, h1, h2, h3⟩ := qF n xs (b :: bs) (by simp only [qg]; omega);exact ⟨S, h1.cons a, h2, h3⟩
theorem tG : ∀ (n : Nat) (A B S : List (List Int)), A.length + B.length <= n -> S.Sublist A -> S.Sublist B -> S.length <= aZ A B
 | _, [], B, S, _, h1, _ => by rw [List.sublist_nil.1 h1]; exact qaw _
 | _, a :: xs, [], S, _, _, h2 => by rw [List.sublist_nil.1 h2]; exact qaw _
 | 0, a :: xs, b :: bs, S, h, _, _ => by simp at h
 | n + 1, a :: xs, b :: bs, [], h, h1, h2 => qaw _
 | n + 1, a :: xs, b :: bs, s :: S, h, h1, h2 => by
   simp only [qg] at h;rw [qE];by_cases e : a = b
   ·rw [if_pos e, qg];have := tG n xs bs S (by omega) h1.tail h2.tail;omega
   ·rw [if_neg e];by_cases hs : s = a
    ·cases h2 with
     | cons _ h3 => exact qak (tG n (a :: xs) bs (s :: S) (by simp only [qg]; omega) h1 h3) (Nat.le_max_right _ _)
     | cons_cons _ h3 => exact absurd hs.symm e
    ·cases h1 with
     | cons _ h3 => exact qak (tG n xs (b :: bs) (s :: S) (by simp only [qg]; omega) h3 h2) (Nat.le_max_left _ _)
     | cons_cons _ h3 => exact absurd rfl hs
theorem wH (A B : List (List Int)) : aZ A.reverse B.reverse = aZ A B := by
 apply Nat.le_antisymm
 ·obtain ⟨S, h1, h2, h3⟩ := qF _ A.reverse B.reverse (qn _);rw [<- h3, <- qbw];exact tG _ A B _ (qn _) (by simpa using h1.reverse) (by simpa using h2.reverse)
 ·obtain ⟨S, h1, h2, h3⟩ := qF _ A B (qn _);rw [<- h3, <- qbw];exact tG _ A.reverse B.reverse _ (qn _) h1.reverse h2.reverse
theorem zbc (A B : List (List Int)) : aZ A B <= A.length := by
 obtain ⟨S, h1, _, h3⟩ := qF _ A B (qn _);rw [<- h3]; exact h1.length_le
def cU : List (List Int) -> List (List Int) -> List (Int × List Int)
 | [], [] => []
 | a :: xs, [] => (1, a) :: cU xs []
 | [], b :: bs => (2, b) :: cU [] bs
 | a :: xs, b :: bs => if a = b then (0, a) :: cU xs bs else if aZ (a :: xs) bs <= aZ xs (b :: bs) then (1, a) :: cU xs (b :: bs) else (2, b) :: cU (a :: xs) bs
 termination_by A B => A.length + B.length
theorem tH : cU [] [] = [] := by rw [cU]
theorem wI (a : List Int) (xs : List (List Int)) : cU (a :: xs) [] = (1, a) :: cU xs [] := by rw [cU]
theorem wJ (b : List Int) (bs : List (List Int)) : cU [] (b :: bs) = (2, b) :: cU [] bs := by rw [cU]
theorem qG (a b : List Int) (xs bs : List (List Int)) : cU (a :: xs) (b :: bs) = if a = b then (0, a) :: cU xs bs else if aZ (a :: xs) bs <= aZ xs (b :: bs) then (1, a) :: cU xs (b :: bs) else (2, b) :: cU (a :: xs) bs := by rw [cU]
structure DStep where
 kind : Int
 n : Int
 text : List Int
def eK (l : List DStep) (o : Int × List Int) : List DStep := match l.getLast? with
 | some s => if s.kind = o.1 then l.dropLast ++ [⟨s.kind, s.n + 1, s.text ++ o.2⟩] else l ++ [⟨o.1, 1, o.2⟩]
 | none => l ++ [⟨o.1, 1, o.2⟩]
theorem zte (o : Int × List Int) : eK [] o = [⟨o.1, 1, o.2⟩] := rfl
theorem zbd (l : List DStep) (s : DStep) (o : Int × List Int) : eK (l ++ [s]) o = if s.kind = o.1 then l ++ [⟨s.kind, s.n + 1, s.text ++ o.2⟩] else l ++ [s] ++ [⟨o.1, 1, o.2⟩] := by
 unfold eK;rw [qbs, qaa]
theorem mB {α : Type} (l : List α) : l = [] ∨ ∃ l' x, l = l' ++ [x] := by
 rcases List.eq_nil_or_concat l with h | ⟨l', x, h⟩
 ·exact .inl h
 ·exact .inr ⟨l', x, by rw [h, List.concat_eq_append]⟩
def kD (l : List DStep) : Int := (l.map fun s => if s.kind = 0 then 0 else s.n).sum
def lC (A B : List (List Int)) : List DStep := (cU A B).foldl eK []
end Go.Eng.Rows
namespace Go.Eng
open Go Go.Eng.Rows
def aQ (s : DStep) : List PV := [.int .i64 s.kind, .int .i64 s.n, .sl false false (aA s.text)]
def bO (s : DStep) (x : Value) : List PV := [.int .i64 s.kind, .int .i64 s.n, .raw x]
def d0 (tS tr : Nat) (S : List DStep) (x : Value) : Hp := match S.getLast? with
 | none => [.sl (tS, 3) true true [], .dead]
 | some s => [.sl (tS, 3) true false (S.dropLast.map aQ ++ [bO s x]), .sl (tr, 1) true false (aA s.text)]
theorem ztf (tS tr : Nat) (x : Value) : d0 tS tr [] x = [.sl (tS, 3) true true [], .dead] := rfl
theorem dW (tS tr : Nat) (S : List DStep) (s : DStep) (x : Value) : d0 tS tr (S ++ [s]) x = [.sl (tS, 3) true false (S.map aQ ++ [bO s x]), .sl (tr, 1) true false (aA s.text)] := by
 unfold d0;rw [qbs, qaa]
structure iS (tS tr : Nat) (S : List DStep) (x v : Value) (w : World) (I : Nat -> Prop) (G : Nat -> Pl) : Prop where
 hh : HRel w I G (d0 tS tr S x)
 hv : LRel w I G (d0 tS tr S x) (.own 0) v
 hx : S ≠ [] -> LRel w I G (d0 tS tr S x) (.own 1) x
def wK (P : Program) (f tS tr : Nat) : Prop := mK P f /\ ∀ (w : World) (I : Nat -> Prop) (G : Nat -> Pl) (S : List DStep) (x v cv : Value) (k : Int) (c : List Int) (nn fl : Bool), iS tS tr S x v w I G -> Rep w I (.sl nn fl (aA c)) cv -> c ≠ [] -> c.length < 1000000000 ->
 (0 <= k /\ k < 3) -> S.length < 1000000000 -> (∀ s ∈ S, 0 <= s.n /\ s.n < 1000000000000 /\ s.text.length < 1000000000000) ->
 Calls P f #[v, .int .i64 k, cv] w fun e w' => ∃ v' x' I' G', e = .returned v' /\ iS tS tr (eK S (k, c)) x' v' w' I' G' /\ TrH w I G (d0 tS tr S x) w' I' G' (d0 tS tr (eK S (k, c)) x')
def OutZ (tS tr : Nat) (w0 : World) (I0 : Nat -> Prop) (s : List DStep × Value) (w : World) (I : Nat -> Prop) (G : Nat -> Pl) (h : Hp) : Prop :=
 Tr w0 I0 (fun _ => False) w I (aS h G) /\ ∃ x G2, iS tS tr s.1 x s.2 w I G2 /\ ∀ b, aS (d0 tS tr s.1 x) G2 b -> w0.heap.size <= b /\ ¬ aS h G b
theorem OutZ.stab {tS tr : Nat} {w0 : World} {I0 : Nat -> Prop} {n0 : Nat} : zaq (OutZ tS tr w0 I0) n0 := by
 rintro s w I G h w' I' G' h' ⟨t0, x, G2, ⟨r1, r2, r3⟩, sp⟩ hh hh' t;obtain ⟨q1, q2, q3⟩ := r1.beside hh (fun b hb => (sp b hb).2) t.t hh'.cl;exact ⟨t0.trans t.t, x, G2, ⟨q1, r2.mono q2 (.refl _ _), fun hS => (r3 hS).mono q2 (.refl _ _)⟩, fun b hb => ⟨(sp b hb).1, q3 b hb⟩⟩
theorem OutZ.call {P : Program} {f tS tr : Nat} (ha : wK P f tS tr) {w0 : World} {I0 : Nat -> Prop} {s : List DStep × Value} {w : World} {I : Nat -> Prop} {G : Nat -> Pl} {h : Hp} (hz : OutZ tS tr w0 I0 s w I G h) (hh : HRel w I G h) {cv : Value} {k : Int} {c : List Int} {nn fl : Bool}
 (hc : Rep w I (.sl nn fl (aA c)) cv) (hne : c ≠ []) (hcl : c.length < 1000000000) (hk : 0 <= k /\ k < 3) (hS : s.1.length < 1000000000) (hb : ∀ d ∈ s.1, 0 <= d.n /\ d.n < 1000000000000 /\ d.text.length < 1000000000000) :
 Calls P f #[s.2, .int .i64 k, cv] w fun e w' => ∃ v' I', e = .returned v' /\ HRel w' I' G h /\ Keeps w I w' I' /\ OutZ tS tr w0 I0 (eK s.1 (k, c), v') w' I' G h := by
 obtain ⟨t0, x, G2, r, sp⟩ := hz;refine (ha.2 w I G2 s.1 x s.2 cv k c nn fl r hc hne hcl hk hS hb).mono ?_;rintro e w' ⟨v', x', I', G', rfl, r', t⟩;obtain ⟨q1, q2, q3⟩ := hh.beside r.hh (fun b hb ho => (sp b ho).2 hb) t.t r'.hh.cl;refine ⟨v', I', rfl, q1, q2, ⟨t.t.os.trans t0.os, t.t.tape.trans t0.tape, t.t.output.trans t0.output, qak t0.size t.t.size, fun b hb _ => ?_, fun b hb => t.t.i1 b (t0.i1 b hb), fun b hb => ?_, fun b hb => t0.own2 b hb, fun a ha => ?_, qak t0.drawn t.t.drawn⟩, x', G', r', fun b hb => ⟨?_, fun ho => q3 b ho hb⟩⟩
 ·exact (t.t.keep b (qal hb t0.size) fun ho => absurd (sp b ho).1 (Nat.not_le.2 hb)).trans (t0.keep b hb (fun x => x))
 ·rcases t.t.i2 b hb with q | q | q
  ·exact t0.i2 b q
  ·exact .inr (.inr (sp b q).1)
  ·exact .inr (.inr (qak t0.size q))
 ·exact (t.t.frz a (qal ha t0.size)).trans (t0.frz a ha)
 ·rcases t.t.own2 b hb with q | q
  ·exact (sp b q).1
  ·exact qak t0.size q
theorem HRel.reread {w : World} {I : Nat -> Prop} {G : Nat -> Pl} {h : Hp} {o : Nat} {ty : Nat × Nat} {m m' : Bool} {es es' : List (List PV)} (hh : HRel w I G h) (ho : h[o]? = some (.sl ty m false es)) (hne : es ≠ []) (hl : es'.length = es.length)
 (hr : ∀ (i : Nat) e', es'[i]? = some e' -> ∃ e, es[i]? = some e /\ e'.length = e.length /\ ∀ (k : Nat) v', e'[k]? = some v' -> ∃ v, e[k]? = some v /\ ∀ cv, Rep w I v cv -> Rep w I v' cv) : HRel w I G (h.set o (.sl ty m' false es')) := by
 obtain ⟨q1, q2, q3, q3', q4, q5⟩ := hh.obs _ _ ho;have hcap : (G o).cap ≠ 0 := fun e => hne (List.eq_nil_of_length_eq_zero (by omega));refine hh.upd (w' := w) ho ⟨rfl, hcap⟩ (fun _ _ => rfl) (qn _) ⟨rfl, rfl, hl.symm⟩ ?_;obtain ⟨vs, f1, f2, f3⟩ := q5 hcap;refine ⟨by omega, q2, q3, q3', fun i e' he => ?_, fun _ => ⟨vs, f1, f2, fun i e' he k v' hv => ?_⟩⟩
 ·obtain ⟨e, g1, g2, _⟩ := hr i e' he;rw [g2]; exact q4 i e g1
 ·obtain ⟨e, g1, g2, g3⟩ := hr i e' he;obtain ⟨v, g4, g5⟩ := g3 k v' hv;exact ⟨g5 _ (f3 i e g1 k v g4).1, (f3 i e g1 k v g4).2⟩
theorem Rep.raw_inv {w : World} {I : Nat -> Prop} {v cv : Value} (h : Rep w I (.raw v) cv) : cv = v := by cases h; rfl
theorem ziv {w : World} {I : Nat -> Prop} {G : Nat -> Pl} {tS tr : Nat} {S : List DStep} {s : DStep} {x v : Value} (r : iS tS tr (S ++ [s]) x v w I G) :
 ∃ I2, HRel w I2 G [.sl (tS, 3) true false (S.map aQ ++ [aQ s]), .dead] /\ LRel w I2 G [.sl (tS, 3) true false (S.map aQ ++ [aQ s]), .dead] (.own 0) v /\
  TrH w I G (d0 tS tr (S ++ [s]) x) w I2 G [.sl (tS, 3) true false (S.map aQ ++ [aQ s]), .dead] := by
 have hx := r.hx (by simp);have hh := r.hh;have hv := r.hv;rw [dW] at hh hv hx ⊢;obtain ⟨I2, g1, _, g3, g4, g5⟩ := zA (os := [1]) (a := ⟨#[], []⟩) (e := []) hh (ERel.nil _ _ _ _ _) rfl
 have hR : Rep w I2 (.sl false false (aA s.text)) x := by
  have := g5 _ _ hx;rw [show kQ _ [1] (.own 1) = .pv (.sl false false (aA s.text)) from rfl] at this;cases this; assumption
 have hV := g5 _ _ hv;rw [show kQ _ [1] (.own 0) = .own 0 from rfl] at hV;have e : eZ [Ob.sl (tS, 3) true false (S.map aQ ++ [bO s x]), Ob.sl (tr, 1) true false (aA s.text)] [1] 0 [Ob.sl (tS, 3) true false (S.map aQ ++ [bO s x]), Ob.sl (tr, 1) true false (aA s.text)] = [Ob.sl (tS, 3) true false (S.map aQ ++ [bO s x]), .dead] := rfl;rw [e] at g1 g3 hV
 have hh2 := g1.reread (o := 0) (m' := true) (es' := S.map aQ ++ [aQ s]) rfl (by simp) (by simp) (fun i e' he => by
  rcases qaz i S.length with hi | hi | hi
  ·rw [qaf (by simpa using hi)] at he ⊢
   exact ⟨e', he, rfl, fun k v' hv => ⟨v', hv, fun _ h => h⟩⟩
  ·subst hi;rw [qab (by simp)] at he ⊢;simp only [qah, Nat.sub_self, qam, Option.some.injEq] at he ⊢;subst he;refine ⟨_, rfl, rfl, fun k v' hv => ?_⟩
   match k, hv with
   | 0, hv => cases hv; exact ⟨_, rfl, fun _ h => h⟩
   | 1, hv => cases hv; exact ⟨_, rfl, fun _ h => h⟩
   | 2, hv => cases hv; exact ⟨_, rfl, fun cv h => by rw [h.raw_inv]; exact hR⟩
   | k + 3, hv => cases hv
  ·rw [qbl (by simp; omega)] at he; cases he)
 refine ⟨I2, hh2, hV.mono (Keeps.refl w I2) (fun o ob ho => ⟨?_, fun _ => rfl⟩), ⟨g3.t.trans (Tr.less fun b hb => ?_), g3.len, fun o ob' _ h1 h2 => ?_⟩⟩
 ·match o, ho with
  | 0, ho => cases ho; exact ⟨_, rfl, rfl, rfl, by simp⟩
  | 1, ho => cases ho; exact ⟨_, rfl, trivial⟩
 ·obtain ⟨o, ob, h1, h2, rfl⟩ := hb
  match o, h1 with
  | 0, h1 => cases h1; exact ⟨0, _, rfl, h2, rfl⟩
  | 1, h1 => cases h1; exact h2.elim
 ·match o, h1 with
  | 0, h1 => cases h1; cases h2
  | 1, h1 => cases h1; cases h2
theorem OutZ.tree {tS tr : Nat} {w0 : World} {I0 : Nat -> Prop} {s : List DStep × Value} {w : World} {I : Nat -> Prop} {G : Nat -> Pl} {h : Hp} (hz : OutZ tS tr w0 I0 s w I G h) (hh : HRel w I G h) :
 ∃ I2 nl, (nl = true -> s.1 = []) /\ Rep w I2 (.sl nl false (s.1.map aQ)) s.2 /\ HRel w I2 G h /\ Keeps w I w I2 /\ Tr w0 I0 (fun _ => False) w I2 (aS h G) := by
 obtain ⟨S, v⟩ := s;obtain ⟨t0, x, G2, r, sp⟩ := hz;dsimp only at r sp ⊢;rcases mB S with rfl | ⟨S, s, rfl⟩
 ·refine ⟨I, true, fun _ => rfl, ?_, hh, Keeps.refl w I, t0⟩;have := r.hv;rw [ztf] at this;cases this with
  | ownNil => exact .slnil _
  | own _ _ _ _ _ _ h1 => cases h1
 ·obtain ⟨I2, g1, g2, g3⟩ := ziv r;have hrep := r7 g1 g2 (rfl : kN [Ob.sl (tS, 3) true false (S.map aQ ++ [aQ s]), .dead] (.own 0) = some (.sl false false (S.map aQ ++ [aQ s])))
  have hI3 : ∀ b, AllB I2 [Ob.sl (tS, 3) true false (S.map aQ ++ [aQ s]), .dead] G2 b -> I b ∨ aS (d0 tS tr (S ++ [s]) x) G2 b := fun b hb => by
   rcases hb with hb | hb
   ·rcases g3.t.i2 b hb with q | q | q
    ·exact .inl q
    ·exact .inr q
    ·exact absurd (g1.cl b hb) (Nat.not_lt.2 q)
   ·rcases g3.t.own2 b hb with q | q
    ·exact .inr q
    ·exact absurd (g1.blk_lt hb) (Nat.not_lt.2 q)
  have hcl : ∀ b, AllB I2 [Ob.sl (tS, 3) true false (S.map aQ ++ [aQ s]), .dead] G2 b -> b < w.heap.size := fun b hb => hb.elim (g1.cl b) g1.blk_lt;have hk : Keeps w I w (AllB I2 [Ob.sl (tS, 3) true false (S.map aQ ++ [aQ s]), .dead] G2) := ⟨fun _ _ _ => rfl, fun b hb _ => .inl (g3.t.i1 b hb)⟩;refine ⟨_, false, (fun e => by cases e), ?_, hh.frame (fun _ _ => rfl) hk (fun b hb hI => ?_) hcl, hk, ⟨t0.os, t0.tape, t0.output, t0.size, t0.keep, fun b hb => .inl (g3.t.i1 b (t0.i1 b hb)), fun b hb => ?_, t0.own2, t0.frz, t0.drawn⟩⟩
  ·rw [List.map_append]; exact hrep
  ·rcases hI3 b hI with q | q
   ·obtain ⟨o, ob, q1, q2, rfl⟩ := hb; exact hh.nI o ob q1 q2 q
   ·exact (sp b q).2 hb
  ·rcases hI3 b hb with q | q
   ·exact t0.i2 b q
   ·exact .inr (.inr (sp b q).1)
end Go.Eng
namespace Go.Eng
open Go Go.Proofs
def aT : Code -> Code | .seq a _ => a | _ => .skip
def aL : Code -> Code | .seq _ b => b | _ => .skip
def fA : Code -> Code | .block _ c => c | .loop c => c | _ => .skip
def bD : Code -> Array Oper | .region _ o _ => o | _ => #[]
def cM (f : Func) : Code := f.body.getD .skip
def cL (f : Func) : Code := fA (fA (aL (cM f)))
def cB (f : Func) : Code := fA (aT (aL (cL f)))
def d9 (f : Func) : Code := aT (aL (aL (cB f)))
def aP (nl : Bool) (T : PV) (es : List (List PV)) : Hp := [.box [.pv T], .sl (21, 1) false nl es, .box [.own 1], .box [.pv T], .box [.own 1]]
def eM (y : Value) (i f : Int) : Env := [(0, .pv (.raw y)), (1, .box 4 0), (2, .box 3 0), (4, .pv (.int .i64 i)), (5, .pv (.int .i64 f))]
def eN (y : Value) (i : Int) : Env := [(0, .pv (.raw y)), (1, .box 4 0), (2, .box 3 0), (4, .pv (.int .i64 i))]
def lM : List Nat := [0, 1, 2, 4, 5, 9, 25, 32, 38]
def iT : Code -> Code | .rangeFunc _ _ a _ => a | _ => .skip
def iU : Code -> Code | .rangeFunc _ _ _ b => b | _ => .skip
def cO0 (f : Func) : Code := aT (cM f)
def cO1 (f : Func) : Code := aT (aL (cM f))
def cO2 (f : Func) : Code := aT (aT (aL (aL (cM f))))
def dH (f : Func) : Code := fA (aL (aT (aL (aL (cM f)))))
def cO6 (f : Func) : Code := aT (aL (aL (aL (cM f))))
def eO (f i : Int) : Env := [(2, .box 0 0), (5, .box 2 0), (13, .pv (.int .i64 f)), (14, .pv (.int .i64 i))]
def zbe : Nat -> Option HSpec := fun zz_ => match zz_ with | 110 => some ⟨List (List PV), fun _ hs t => (.tup [], match hs with | [.sl ty m nl _, b] => [.sl ty m nl t, b] | h => h), none⟩ | _ => none
def zbf : Nat -> Option HSpec := fun zz_ => match zz_ with | 47 => some ⟨Unit, fun vs _ _ => (.own 0, match vs with | [.pv (.sl nl _ es)] => [.sl (21, 1) false nl es] | _ => []), none⟩ | 109 => some ⟨Unit, fun vs hs _ => (.fn 132 [.box 2 0, .box 1 0], match vs with | [.pv T, _] => hs ++ [.box [.pv T], .box [.own 0]] | _ => hs), none⟩ | _ => none
end Go.Eng
set_option maxRecDepth 100000
namespace Go.Eng
open Go Go.Proofs Go.Eng.Rows
def m7 : Code -> Code | .cond _ a _ => a | _ => .skip
def qH : Code -> Code | .cond _ _ a => a | _ => .skip
section
variable {H : Nat -> Option HSpec} {P : Program} {N : Nat} {ops : Array Oper}
theorem eL {id : Nat} {Q : Exit -> Act -> World -> Prop} {e : Env} {h : Hp} {K : Env -> Hp -> Prop} (hd : bU ops.toList = true) (hK : aM P H N ops.toList ops.toList e h K) {w : World} {I : Nat -> Prop} {G : Nat -> Pl} {a : Act} (hs : SRel w I G e h N a)
 (hq : ∀ e' h' w' I' G' a', K e' h' -> SRel w' I' G' e' h' N a' -> a'.defers = a.defers -> TrH w I G h w' I' G' h' -> Q .normal a' w') : (Code.region id ops false).wp P Q a w := by
 refine sT (Φ := fun a' w' => ∃ e' h' I' G', K e' h' /\ SRel w' I' G' e' h' N a' /\ a'.defers = a.defers /\ TrH w I G h w' I' G' h') (OpsN.step hd ops.size (e := e) (h := h) (K := K) (Nat.le_of_eq (qo _)) (by rw [List.drop_zero, qu (by simp)]; exact hK) hs fun e' h' w' I' G' a' k1 k2 k3 k4 => OpsN.last (by omega) ⟨e', h', I', G', k1, k2, k3, k4⟩) ?_;rintro a' w' ⟨e', h', I', G', k1, k2, k3, k4⟩;exact hq e' h' w' I' G' a' k1 k2 k3 k4
end
theorem fV {w w' : World} {I I' : Nat -> Prop} {G G' : Nat -> Pl} {h h' : Hp} {o : Nat} {x : Value} {ty ty' : Nat × Nat} {m n : Bool} {T T' : List (List PV)} (hx : LRel w I G h (.own o) x) (h1 : h[o]? = some (.sl ty m n T)) (h2 : h'[o]? = some (.sl ty' false n T')) (hl : T'.length = T.length)
 (t : TrH w I G h w' I' G' h') : LRel w' I' G' h' (.own o) x := by
 have hG := (t.stay o _ (List.getElem?_eq_some_iff.1 h1).1 h2 rfl).1;cases hx with
 | ownNil _ _ _ _ g1 =>
   rw [h1] at g1; cases g1;exact .ownNil o _ _ _ h2
 | own _ _ _ es ad g0 g1 =>
   rw [h1] at g1; cases g1;rw [<- hl, <- hG];exact .own o _ _ _ ad (hG ▸ g0) h2
theorem wL {w : World} {I : Nat -> Prop} {G : Nat -> Pl} {h : Hp} {o : Nat} {x : Value} {ty : Nat × Nat} {m : Bool} {T : List (List PV)} (hx : LRel w I G h (.own o) x) (h1 : h[o]? = some (.sl ty m false T)) : ∃ ad l c, x = .slice (some ad) l c := by
 cases hx with
 | ownNil _ _ _ _ g1 => rw [h1] at g1; cases g1
 | own _ _ _ es ad g0 g1 => exact ⟨ad, _, _, rfl⟩
def fL (tS : Nat) (m m2 : Bool) (E T : LL) : Hp := [.sl (tS, 3) m false E, .sl (21, 1) m2 false T]
def stN (tS : Nat) (nl : Bool) (E : LL) : Hp := [.sl (tS, 3) true nl E, .dead]
def qI (tS : Nat) (m nl : Bool) (E C : LL) : Hp := [.sl (tS, 3) m nl E, .dead, .sl (21, 1) false false C]
abbrev dlH := fL 89
def cX (nn fl : Bool) (C : LL) (k : Int) : Env := [(0, .own 0), (1, .pv (.int .i64 k)), (2, .pv (.sl nn fl C))]
def dE (nn fl : Bool) (C : LL) (k n : Int) : Env := [(0, .own 0), (1, .pv (.int .i64 k)), (2, .pv (.sl nn fl C)), (7, .pv (.int .i64 n))]
def dlX (f : Func) : Code := aT (aL (cM f))
def dlT (f : Func) : Code := m7 (aL (aL (dlX f)))
def qJ (f : Func) : Array Oper := bD (aT (cM f))
def qK (f : Func) : Array Oper := bD (aT (dlX f))
def qL (f : Func) : Array Oper := bD (aT (aL (dlX f)))
def wM (f : Func) : Array Oper := bD (aT (dlT f))
def gQ (f : Func) : Array Oper := bD (aT (aL (dlT f)))
def wN (f : Func) : Array Oper := bD (aT (aL (aL (dlT f))))
def oH (f : Func) : Array Oper := bD (aT (aL (aL (cM f))))
theorem ziw : Tryz.f37.body = some (.seq (.region 0 (qJ Tryz.f37) false) (.seq (.seq (.region 1 (qK Tryz.f37) false) (.seq (.region 2 (qL Tryz.f37) false) (.cond (.tmp 21) (.seq (.region 3 (wM Tryz.f37) false) (.seq (.region 4 (gQ Tryz.f37) false) (.seq (.region 5 (wN Tryz.f37) false) .ret))) .skip))) (.seq (.region 6 (oH Tryz.f37) false) .ret))) := by kernel_rfl
theorem zix : bU (qJ Tryz.f37).toList = true /\ bU (qK Tryz.f37).toList = true /\ bU (qL Tryz.f37).toList = true /\ bU (wM Tryz.f37).toList = true /\ bU (gQ Tryz.f37).toList = true /\ bU (wN Tryz.f37).toList = true /\ bU (oH Tryz.f37).toList = true := by and_intros <;> kernel_rfl
section
variable {E T C : LL} {nn fl m m2 : Bool} {k n : Int}
theorem ztg (K : Env -> Hp -> Prop) : aM qa (fun _ => none) 49 (qJ Tryz.f37).toList (qJ Tryz.f37).toList (cX nn fl C k) (dlH m m2 E T) K = K ((6, .pv (.sl true true [])) :: cX nn fl C k) (dlH m m2 E T) := by kernel_rfl
theorem zth (K : Env -> Hp -> Prop) : aM qa (fun _ => none) 49 (qK Tryz.f37).toList (qK Tryz.f37).toList (cX nn fl C k) (dlH m m2 E T) K =
 K ((7, .pv (.int .i64 (i64.wrap ((E.length : Int) - 1)))) :: (10, .pv (.int .i64 (i64.wrap ((E.length : Int) - 1)))) :: (9, .pv (.int .i64 (E.length : Int))) :: (8, .own 0) :: cX nn fl C k) (dlH m m2 E T) := by kernel_rfl
theorem zti (K : Env -> Hp -> Prop) : aM qa (fun _ => none) 49 (qL Tryz.f37).toList (qL Tryz.f37).toList (dE nn fl C k n) (dlH m m2 E T) K =
 if decide (n >= 0) = true then aD E n 3 /\ ∃ n1 : Int, (qb 0 (E.getD n.toNat [])).head? = some (.int .i64 n1) /\
  K ((21, .pv (.bool (n1 == k))) :: (20, .spec 13 true (.pv (.bool (n1 == k)))) :: (19, .spec 13 true (.pv (.int .i64 k))) :: (18, .pv (.int .i64 n1)) :: (13, .pv (.bool true)) :: (17, .elt 0 n.toNat 0) :: (13, .pv (.bool true)) :: (16, .elt 0 n.toNat 0) :: (13, .pv (.bool true)) ::
   (15, .spec 13 true (.pv (.int .i64 n))) :: (14, .spec 13 true (.own 0)) :: (13, .pv (.bool (decide (n >= 0)))) :: (12, .pv (.bool (decide (n >= 0)))) :: (11, .pv (.int .i64 n)) :: dE nn fl C k n) (dlH m m2 E T)
 else K ((21, .pv (.bool false)) :: (20, .pv .unit) :: (13, .pv (.bool false)) :: (19, .spec 13 true (.pv (.int .i64 k))) :: (18, .pv .unit) :: (13, .pv (.bool false)) :: (17, .pv .unit) :: (13, .pv (.bool false)) :: (16, .pv .unit) :: (13, .pv (.bool false)) ::
  (15, .spec 13 true (.pv (.int .i64 n))) :: (14, .spec 13 true (.own 0)) :: (13, .pv (.bool (decide (n >= 0)))) :: (12, .pv (.bool (decide (n >= 0)))) :: (11, .pv (.int .i64 n)) :: dE nn fl C k n) (dlH m m2 E T) := by kernel_rfl
theorem ztj (K : Env -> Hp -> Prop) : aM qa (fun _ => none) 49 (wM Tryz.f37).toList (wM Tryz.f37).toList (dE nn fl C k n) (dlH m m2 E T) K =
 (aD E n 3 /\ ∃ n1 : Int, (qb 1 (E.getD n.toNat [])).head? = some (.int .i64 n1) /\ aD E n 3 /\ (1 = 1 /\ 2 <= (E.getD n.toNat []).length) /\
  K ((29, .elt 0 n.toNat 1) :: (28, .elt 0 n.toNat 0) :: (27, .pv (.int .i64 (i64.wrap (n1 + 1)))) :: (26, .pv (.int .i64 n1)) :: (25, .elt 0 n.toNat 1) :: (24, .elt 0 n.toNat 0) :: (23, .pv (.int .i64 n)) :: (22, .own 0) :: dE nn fl C k n)
   (dlH m m2 (E.set n.toNat (aW (E.getD n.toNat []) 1 [.int .i64 (i64.wrap (n1 + 1))])) T)) := by kernel_rfl
theorem ztk (K : Env -> Hp -> Prop) : aM qa (fun _ => none) 49 (gQ Tryz.f37).toList (((gQ Tryz.f37).toList.drop 0).take 6) (dE nn fl C k n) (dlH m m2 E T) K =
 (aD E n 3 /\ K ((35, .elt 0 n.toNat 2) :: (34, .elt 0 n.toNat 0) :: (33, .pv (.int .i64 n)) :: (32, .own 0) :: (31, .pv (.int .i64 n)) :: (30, .own 0) :: dE nn fl C k n) (dlH m m2 E T)) := by kernel_rfl
theorem ztl (K : Env -> Hp -> Prop) : aM qa (fun _ => none) 49 (gQ Tryz.f37).toList (((gQ Tryz.f37).toList.drop 7).take 2) [(36, .own 1), (0, .own 0), (2, .pv (.sl nn fl C)), (30, .own 0), (31, .pv (.int .i64 n))] (dlH m m2 E T) K =
 ((aU C 1 /\ (T.length + C.length) * 4 <= 140737488355328) /\ K [(38, .own 1), (37, .pv (.sl nn fl C)), (36, .bot), (0, .own 0), (2, .pv (.sl nn fl C)), (30, .own 0), (31, .pv (.int .i64 n))] (dlH m true E (T ++ C))) := by kernel_rfl
theorem ztm (ad : Addr) (l c : Nat) (K : Env -> Hp -> Prop) : aM qa (fun _ => none) 49 (gQ Tryz.f37).toList (((gQ Tryz.f37).toList.drop 9).take 3) [(38, .pv (.raw (.slice (some ad) l c))), (0, .own 0), (30, .own 0), (31, .pv (.int .i64 n))] (dlH m m2 E T) K =
 (aD E n 3 /\ (1 = 1 /\ 3 <= (E.getD n.toNat []).length) /\ K [(40, .elt 0 n.toNat 2), (39, .elt 0 n.toNat 0), (38, .pv (.raw (.slice (some ad) l c))), (0, .own 0), (30, .own 0), (31, .pv (.int .i64 n))] (dlH m m2 (E.set n.toNat (aW (E.getD n.toNat []) 2 [.raw (.slice (some ad) l c)])) T)) := by kernel_rfl
theorem ztn (K : Env -> Hp -> Prop) : aM qa (fun _ => none) 49 (wN Tryz.f37).toList (wN Tryz.f37).toList [(0, .own 0)] (dlH m m2 E T) K = K [(6, .own 0), (41, .own 0), (0, .own 0)] (dlH m m2 E T) := by kernel_rfl
end
theorem zto : (gQ Tryz.f37)[6]? = some ((gQ Tryz.f37).toList.getD 6 default) /\ ((gQ Tryz.f37).toList.getD 6 default).dst = some 36 /\ ((gQ Tryz.f37).toList.getD 6 default).guard = none /\ ((gQ Tryz.f37).toList.getD 6 default).op = .load 22 (.tmp 35) /\ (gQ Tryz.f37).size = 12 /\
 Tryz.prog.underlying 22 = some (.slice 21) /\ fZ qa 22 = false := by and_intros <;> kernel_rfl
section
variable {tS : Nat} {w w' : World} {I I' : Nat -> Prop} {G G' : Nat -> Pl} {m m2 m' m2' : Bool} {E E' T T' : LL}
theorem wO : aS (fL tS m m2 E T) G = aS (fL tS m' m2' E' T') G := by
 funext b
 apply propext;constructor <;>
 ·rintro ⟨o, ob, h1, h2, h3⟩
  match o, h1 with
  | 0, h1 => cases h1; exact ⟨0, _, rfl, h2, h3⟩
  | 1, h1 => cases h1; exact ⟨1, _, rfl, h2, h3⟩
abbrev m8 (tS : Nat) (G : Nat -> Pl) : Nat -> Prop := aS (fL tS true true [] []) G
theorem fW (t : TrH w I G (fL tS m m2 E T) w' I' G' (fL tS m' m2' E' T')) : Tr w I (m8 tS G) w' I' (m8 tS G') := by
 have := t.t;rwa [wO (G := G) (m' := true) (m2' := true) (E' := []) (T' := []), wO (G := G') (m' := true) (m2' := true) (E' := []) (T' := [])] at this
theorem ziy (t : Tr w I (m8 tS G) w' I' (m8 tS G')) : Tr w I (aS (fL tS m m2 E T) G) w' I' (aS (fL tS m' m2' E' T') G') := by
 rw [wO (G := G) (m' := true) (m2' := true) (E' := []) (T' := []), wO (G := G') (m' := true) (m2' := true) (E' := []) (T' := [])];exact t
theorem ziz (hh : HRel w I G (fL tS m m2 E T)) : HRel w I G (fL tS m' m2' E T) := by
 have key : ∀ (i : Nat) x, (fL tS m' m2' E T)[i]? = some x -> ∃ y, (fL tS m m2 E T)[i]? = some y /\ (y.alive (G i) ↔ x.alive (G i)) /\ (ORel w I G (fL tS m m2 E T) (G i) y -> ORel w I G (fL tS m' m2' E T) (G i) x) := fun i x hx => by
  match i, hx with
  | 0, hx => cases hx; exact ⟨_, rfl, Iff.rfl, id⟩
  | 1, hx => cases hx; exact ⟨_, rfl, Iff.rfl, id⟩
 refine ⟨fun i x hx => ?_, fun i j x y hx ax hy ay hb => ?_, fun i x hx ax => ?_, hh.cl⟩
 ·obtain ⟨y, h1, h2, h3⟩ := key i x hx;exact h3 (hh.obs i y h1)
 ·obtain ⟨x', h1, h2, h3⟩ := key i x hx;obtain ⟨y', h4, h5, h6⟩ := key j y hy;exact hh.sep i j x' y' h1 (h2.2 ax) h4 (h5.2 ay) hb
 ·obtain ⟨x', h1, h2, h3⟩ := key i x hx;exact hh.nI i x' h1 (h2.2 ax)
theorem m9 (h1 : E.length = E'.length) (h2 : T.length = T'.length) : Like G G (fL tS m m2 E T) (fL tS m' m2' E' T') := by
 intro o ob ho;refine ⟨?_, fun _ => rfl⟩
 match o, ho with
 | 0, ho => cases ho; exact ⟨_, rfl, rfl, rfl, h1⟩
 | 1, ho => cases ho; exact ⟨_, rfl, rfl, rfl, h2⟩
end
theorem zi0 {α : Type} (l : List α) (x d : α) : (l ++ [x]).getD l.length d = x := by simp [qt]
theorem ztp {α : Type} (l : List α) (x y : α) : (l ++ [x]).set l.length y = l ++ [y] := by simp
theorem qM (S : List DStep) (e : List PV) : (S.map aQ ++ [e]).getD S.length [] = e := by
 have := zi0 (S.map aQ) e [];rwa [qah] at this
theorem wP (S : List DStep) (e y : List PV) : (S.map aQ ++ [e]).set S.length y = S.map aQ ++ [y] := by
 have := ztp (S.map aQ) e y;rwa [qah] at this
theorem qN (l : List (List PV)) (e : List PV) (n : Nat) (hn : n = l.length) {k : Nat} (hk : e.length = k) : aD (l ++ [e]) (n : Int) k := by
 subst hn;refine ⟨by omega, by simp only [qj, qg, qbg]; omega, ?_⟩;rw [qw, zi0]; exact hk
theorem qO (l : List Int) : (aA l).length = l.length := by simp [aA]
theorem zi1 (l l' : List Int) : aA (l ++ l') = aA l ++ aA l' := by simp [aA]
theorem ztq (S : List DStep) (s : DStep) (x v cv : Value) (c : List Int) (nn fl : Bool) {w : World} {I : Nat -> Prop} {G : Nat -> Pl} (r : iS 89 21 (S ++ [s]) x v w I G) (hc : Rep w I (.sl nn fl (aA c)) cv) (hcl : c.length < 1000000000) (hS : S.length < 1000000000)
 (hn : 0 <= s.n /\ s.n < 1000000000000 /\ s.text.length < 1000000000000) :
 Calls qa 37 #[v, .int .i64 s.kind, cv] w fun e w' => ∃ v' x' I' G', e = .returned v' /\ iS 89 21 (S ++ [⟨s.kind, s.n + 1, s.text ++ c⟩]) x' v' w' I' G' /\ TrH w I G (d0 89 21 (S ++ [s]) x) w' I' G' (d0 89 21 (S ++ [⟨s.kind, s.n + 1, s.text ++ c⟩]) x') := by
 obtain ⟨hh, hv, hx⟩ := r;have hx := hx (by simp);simp only [dW] at hh hv hx ⊢;have hh : HRel w I G (dlH true true (S.map aQ ++ [bO s x]) (aA s.text)) := hh;have hv : LRel w I G (dlH true true (S.map aQ ++ [bO s x]) (aA s.text)) (.own 0) v := hv;have hx : LRel w I G (dlH true true (S.map aQ ++ [bO s x]) (aA s.text)) (.own 1) x := hx;obtain ⟨q0, q1, q2, q3, q4, q5, q6⟩ := zix;obtain ⟨p1, p2, p3, p4, p5, p6, p7⟩ := zto;refine sU (args := [.own 0, .pv (.int .i64 s.kind), .pv (.sl nn fl (aA c))]) Tryz.func37 ziw (Nat.le_of_ble_eq_true (by kernel_rfl)) hh rfl (fun i u hi => ?_) fun a Qx hs hd hq => ?_
 ·match i, hi with
  | 0, hi => cases hi; exact hv
  | 1, hi => cases hi; exact .pv _ _ (.int _ _)
  | 2, hi => cases hi; exact .pv _ _ hc
 have hs : SRel w I G (cX nn fl (aA c) s.kind) (dlH false false (S.map aQ ++ [bO s x]) (aA s.text)) 49 a := hs.unm;have hx : LRel w I G (dlH false false (S.map aQ ++ [bO s x]) (aA s.text)) (.own 1) x := hx.mono (Keeps.refl w I) (m9 rfl rfl);have hEl : (S.map aQ ++ [bO s x]).length = S.length + 1 := by simp
 have hidx : aD (S.map aQ ++ [bO s x]) ((S.length : Nat) : Int) 3 := qN _ _ _ (by simp) rfl;have hget := qM S (bO s x);have hset := wP S (bO s x)
 -- the code
 refine wp_seq (eL q0 (by rw [ztg]; exact ⟨rfl, rfl⟩ : aM qa (fun _ => none) 49 _ _ _ _ (fun e' h' => e' = _ /\ h' = _)) hs ?_);rintro _ _ w1 I1 G1 a1 ⟨rfl, rfl⟩ hs1 hd1 ht1;have hx1 := fV hx rfl rfl rfl ht1;have t1 := fW ht1;refine wp_seq (wp_seq (eL q1 (by rw [zth, hEl]; exact ⟨rfl, rfl⟩ : aM qa (fun _ => none) 49 _ _ _ _ (fun e' h' => e' = _ /\ h' = _)) (hs1.le (e' := cX nn fl (aA c) s.kind) (LeE.le ⟨rfl, rfl, rfl, trivial⟩)) ?_));rintro _ _ w2 I2 G2 a2 ⟨rfl, rfl⟩ hs2 hd2 ht2;have hx2 := fV hx1 rfl rfl rfl ht2;have t2 := fW ht2;have hw : i64.wrap (((S.length + 1 : Nat) : Int) - 1) = (S.length : Nat) := by rw [wz]; omega
 rw [hw] at hs2;have hs2 := hs2.le (e' := dE nn fl (aA c) s.kind (S.length : Nat)) (LeE.le ⟨rfl, rfl, rfl, rfl, trivial⟩)
 refine wp_seq (eL q2 (K := fun e' h' => ∃ e0, e' = (21, .pv (.bool true)) :: e0 /\ LeE (dE nn fl (aA c) s.kind (S.length : Nat)) e' /\ h' = _) (by
  rw [zti, if_pos (by simp), qw, hget];refine ⟨hidx, s.kind, rfl, ?_⟩;rw [beq_self_eq_true]
  exact ⟨_, rfl, ⟨rfl, rfl, rfl, rfl, trivial⟩, rfl⟩) hs2 ?_)
 rintro _ _ w3 I3 G3 a3 ⟨e0, rfl, le0, rfl⟩ hs3 hd3 ht3;have hx3 := fV hx2 rfl rfl rfl ht3;have t3 := fW ht3;refine wp_cond (show a3.eval (.tmp 21) = .bool true from (hs3.he 21 _ rfl).bool_eq) ?_;have hs3 := hs3.le le0.le
 refine wp_seq (eL q3 (K := fun e' h' => LeE (dE nn fl (aA c) s.kind (S.length : Nat)) e' /\ h' = dlH false false (S.map aQ ++ [bO ⟨s.kind, s.n + 1, s.text⟩ x]) (aA s.text)) (by
  rw [ztj, qw, hget];refine ⟨hidx, s.n, rfl, hidx, ⟨rfl, by show 2 <= 3; omega⟩, ?_⟩;rw [wz, hset]
  exact ⟨⟨rfl, rfl, rfl, rfl, trivial⟩, rfl⟩) hs3 ?_)
 rintro e4 _ w4 I4 G4 a4 ⟨le4, rfl⟩ hs4 hd4 ht4;have hx4 := fV hx3 rfl rfl rfl ht4;have t4 := fW ht4;have hs4 := hs4.le le4.le;have t4 := ((t1.trans t2).trans t3).trans t4;clear t1 t2 t3;have hidx4 : aD (S.map aQ ++ [bO ⟨s.kind, s.n + 1, s.text⟩ x]) ((S.length : Nat) : Int) 3 := qN _ _ _ (by simp) rfl;have hget4 := qM S (bO ⟨s.kind, s.n + 1, s.text⟩ x);have hset4 := wP S (bO ⟨s.kind, s.n + 1, s.text⟩ x)
 have hC : aU (aA c) 1 /\ ((aA s.text).length + (aA c).length) * 4 <= 140737488355328 := by
  refine ⟨kB (enc := fun n => [.int .i32 n]) (fun _ => rfl) c, ?_⟩;rw [qO, qO]; omega
 refine wp_seq (sT (Φ := fun a' w' => ∃ x' I' G', SRel w' I' G' [(0, .own 0)] (dlH false false (S.map aQ ++ [bO ⟨s.kind, s.n + 1, s.text ++ c⟩ x']) (aA (s.text ++ c))) 49 a' /\ LRel w' I' G' (dlH false false (S.map aQ ++ [bO ⟨s.kind, s.n + 1, s.text ++ c⟩ x']) (aA (s.text ++ c))) (.own 1) x' /\ a'.defers = [] /\
  Tr w I (m8 89 G) w' I' (m8 89 G')) ?_ ?_)
 ·refine OpsN.step q4 6 (by rw [p5]; omega) (by rw [ztk]; exact ⟨hidx4, rfl, rfl⟩ : aM qa (fun _ => none) 49 _ _ _ _ (fun e' h' => e' = _ /\ h' = _)) hs4 ?_;rintro _ _ w5 I5 G5 a5 ⟨rfl, rfl⟩ hs5 hd5 ht5;have hx5 := fV hx4 rfl rfl rfl ht5;rw [qw] at hs5;refine OpsN.value p1 p3 (zhv p4 p6 p7 hs5 (ob := 0) (i := S.length) (off := 2) rfl rfl (c := bO ⟨s.kind, s.n + 1, s.text⟩ x) (v := x) (by rw [qab (by simp)]; simp) rfl) ?_;have hs6 := (j6 (o := (gQ Tryz.f37).toList.getD 6 default) (v := .own 1) (N := 49) (by unfold hE; rw [p2]; rfl) hs5.hn hs5.hh hs5.he hx5);rw [p2] at hs6;obtain ⟨hs6, hd6⟩ := hs6;rw [p2];have hs6 := hs6.le (e' := [(36, .own 1), (0, .own 0), (2, .pv (.sl nn fl (aA c))), (30, .own 0), (31, .pv (.int .i64 (S.length : Nat)))]) (by unfold put; rw [p2]; exact LeE.le ⟨rfl, rfl, rfl, rfl, rfl, trivial⟩);refine OpsN.step (k := 7) q4 2 (by rw [p5]; omega) (by rw [ztl]; exact ⟨hC, rfl, rfl⟩ : aM qa (fun _ => none) 49 _ _ _ _ (fun e' h' => e' = _ /\ h' = _)) hs6 ?_;rintro _ _ w7 I7 G7 a7 ⟨rfl, rfl⟩ hs7 hd7 ht7;rw [<- zi1] at hs7 ht7;have hx7 : LRel w7 I7 G7 (dlH false true (S.map aQ ++ [bO ⟨s.kind, s.n + 1, s.text⟩ x]) (aA (s.text ++ c))) (.own 1) (a7.tmps.getD 38 undef) := hs7.he 38 _ rfl;obtain ⟨ad, l, c0, ex⟩ := wL hx7 rfl;rw [ex] at hx7;have hx7 : LRel w7 I7 G7 (dlH false false (S.map aQ ++ [bO ⟨s.kind, s.n + 1, s.text⟩ x]) (aA (s.text ++ c))) (.own 1) (.slice (some ad) l c0) := hx7.mono (Keeps.refl _ _) (m9 rfl rfl);have hs7 : SRel w7 I7 G7 _ (dlH false false (S.map aQ ++ [bO ⟨s.kind, s.n + 1, s.text⟩ x]) (aA (s.text ++ c))) 49 a7 := hs7.unm;have hs7 := (hs7.view (d := 38) (v := .pv (.raw (.slice (some ad) l c0))) (by rw [ex]; exact .pv _ _ (.raw _))).le (e' := [(38, .pv (.raw (.slice (some ad) l c0))), (0, .own 0), (30, .own 0), (31, .pv (.int .i64 (S.length : Nat)))]) (LeE.le ⟨rfl, rfl, rfl, rfl, trivial⟩)
  refine OpsN.step (k := 9) q4 3 (by rw [p5]; omega) (K := fun e' h' => LeE [(0, .own 0)] e' /\ h' = dlH false false (S.map aQ ++ [bO ⟨s.kind, s.n + 1, s.text ++ c⟩ (.slice (some ad) l c0)]) (aA (s.text ++ c))) (by
   rw [ztm, qw, hget4];refine ⟨hidx4, ⟨rfl, by show 3 <= 3; omega⟩, ?_⟩;rw [hset4]
   exact ⟨⟨rfl, trivial⟩, rfl⟩) hs7 ?_
  rintro e8 _ w8 I8 G8 a8 ⟨le8, rfl⟩ hs8 hd8 ht8;have hx8 := fV hx7 rfl rfl rfl ht8;refine OpsN.last (by rw [p5]; omega) ⟨_, I8, G8, hs8.le le8.le, hx8, ?_, ?_⟩
  ·rw [hd8, hd7, hd6, hd5, hd4, hd3, hd2, hd1, hd]
  ·have t5 := fW ht5;have t7 := fW ht7;have t8 := fW ht8;exact ((t4.trans t5).trans t7).trans t8
 rintro a8 w8 ⟨x', I8, G8, hs8, hx8, hd8, t8⟩;refine wp_seq (eL q5 (by rw [ztn]; exact ⟨rfl, rfl⟩ : aM qa (fun _ => none) 49 _ _ _ _ (fun e' h' => e' = _ /\ h' = _)) hs8 ?_);rintro _ _ w9 I9 G9 a9 ⟨rfl, rfl⟩ hs9 hd9 ht9;have hx9 := fV hx8 rfl rfl rfl ht9;have t9 := fW ht9;refine wp_ret ((hq a9 w9 (hd9.trans hd8) ?_).2)
 obtain ⟨u, hu, cv', g1, g2⟩ := mU (P := qa) (fn := Tryz.f37) (K := fun u => u = .own 0) hs9.hh hs9.he (by
  have : Tryz.f37.results.toList = [.tmp 6] := by kernel_rfl
  rw [this]; exact rfl)
 subst hu;refine ⟨cv', g1, cv', x', I9, G9, rfl, ⟨?_, ?_, fun _ => ?_⟩, ⟨?_, qn _, fun o ob' ho h1 h2 => ?_⟩⟩
 ·rw [dW]; exact ziz hs9.hh
 ·rw [dW]; exact g2.mono (Keeps.refl _ _) (m9 rfl rfl)
 ·rw [dW]; exact hx9.mono (Keeps.refl _ _) (m9 rfl rfl)
 ·exact ziy (t8.trans t9)
 ·match o, h1 with
  | 0, h1 => cases h1; cases h2
  | 1, h1 => cases h1; cases h2
end Go.Eng
set_option linter.constructorNameAsVariable false
namespace Go.Eng
open Go Go.Proofs
section
variable (T : PV) (a b : Int)
def zi2 (R : PV -> Prop) : Prop :=
 (∃ ps, some T = some (PV.ptr ps) /\ ((∃ ps1, some T = some (PV.ptr ps1) /\ PCall qa 71 [PV.ptr ps, Z3 a] fun v => ∃ n, v = Z6 n /\ PCall qa 71 [PV.ptr ps1, Z3 b] fun v1 => ∃ n1, v1 = Z6 n1 /\ PCall qa 62 [Z6 n, Z6 n1] fun v2 => ∃ n2, v2 = Z6 n2 /\ R (Z6 n2)) ∨ some T = some PV.nilp /\ PCall qa 71 [PV.ptr ps, Z3 a] fun v => ∃ n, v = Z6 n /\ PCall qa 71 [PV.nilp, Z3 b] fun v1 => ∃ n1, v1 = Z6 n1 /\ PCall qa 62 [Z6 n, Z6 n1] fun v2 => ∃ n2, v2 = Z6 n2 /\ R (Z6 n2))) ∨ some T = some PV.nilp /\ ((∃ ps, some T = some (PV.ptr ps) /\ PCall qa 71 [PV.nilp, Z3 a] fun v => ∃ n, v = Z6 n /\ PCall qa 71 [PV.ptr ps, Z3 b] fun v1 => ∃ n1, v1 = Z6 n1 /\ PCall qa 62 [Z6 n, Z6 n1] fun v2 => ∃ n2, v2 = Z6 n2 /\ R (Z6 n2)) ∨ some T = some PV.nilp /\ PCall qa 71 [PV.nilp, Z3 a] fun v => ∃ n, v = Z6 n /\ PCall qa 71 [PV.nilp, Z3 b] fun v1 => ∃ n1, v1 = Z6 n1 /\ PCall qa 62 [Z6 n, Z6 n1] fun v2 => ∃ n2, v2 = Z6 n2 /\ R (Z6 n2))
theorem ztr {R : PV -> Prop} (h : zi2 T a b R) : PCall qa 111 [.int .i32 a, .int .i32 b, .ptr [T]] R :=
 PCall.wz Tryz.func111 aR [0, 1, 2, 5] bE h
end
def zbg (lo hi : Nat) (nl : Bool) (T : PV) (a b : Int) (x8 : Int) (s_0 : LL) : Env × Hp := ([(0, LV.sub 0 lo hi), (1, Y6 a), (2, Y6 b), (3, LV.fn 111 [LV.box 1 0]), (8, Y6 x8)], [.sl (21, 1) false nl s_0, .box [LV.pv T]])
def zbh (lo hi : Nat) (nl : Bool) (T : PV) (a b : Int) (x8 x9 : Int) (s_0 : LL) : Env × Hp := ([(0, LV.sub 0 lo hi), (1, Y6 a), (2, Y6 b), (3, LV.fn 111 [LV.box 1 0]), (8, Y6 x8), (9, Y6 x9)], [.sl (21, 1) false nl s_0, .box [LV.pv T]])
section
variable (lo hi : Nat) (nl : Bool) (es : LL) (T : PV) (a b : Int) (J : Int -> LL -> Prop) (μ : Int -> LL -> Nat) (J2 : Int -> Int -> LL -> Int -> Int -> LL -> Prop) (μ2 : Int -> Int -> LL -> Nat)
def zi3 (R : LV -> Hp -> Prop) : Prop :=
 (aG (zbg lo hi nl T a b (i64.wrap (a + 1)) es) /\ J (i64.wrap (a + 1)) es) /\ ∀ (x8 : Int) (s_0 : LL), J x8 s_0 -> if decide (x8 < b) = true then (aG (zbh lo hi nl T a b x8 x8 s_0) /\ J2 x8 x8 s_0 x8 x8 s_0) /\ ∀
  (x81 x9 : Int) (s_01 : LL), J2 x8 x8 s_0 x81 x9 s_01 ->
 let V1 := aG (zbg lo hi nl T a b (i64.wrap (x81 + 1)) s_01) /\ J (i64.wrap (x81 + 1)) s_01 /\ μ (i64.wrap (x81 + 1)) s_01 < μ x8 s_0; if decide (x9 > a) = true then ((0 : Int) <= x9 /\ x9 < (↑hi : Int) - (↑lo :
  Int) /\ (s_01.getD (lo + x9.toNat) []).length = 1) /\ ∃ n, (qb 0 (s_01.getD (lo + x9.toNat) [])).head? = some (Z3 n) /\
 let V2 := 0 <= i64.wrap (x9 - 1) /\ i64.wrap (x9 - 1) < (↑hi : Int) - (↑lo : Int) /\ (s_01.getD (lo + (i64.wrap (x9 - 1)).toNat) []).length = 1; V2 /\ ∃ n1, (qb 0 (s_01.getD (lo + (i64.wrap (x9 -
  1)).toNat) [])).head? = some (Z3 n1) /\ PCall qa 111 [Z3 n, Z3 n1, PV.ptr [T]] fun v => ∃ n2, v = Z6 n2 /\ true = true /\ if decide (n2 < 0) = true then V2 /\ ∃ n3, (qb 0 (s_01.getD (lo + (i64.wrap
  (x9 - 1)).toNat) [])).head? = some (Z3 n3) /\ ((0 : Int) <= x9 /\ x9 < (↑hi : Int) - (↑lo : Int) /\ (s_01.getD (lo + x9.toNat) []).length = 1) /\ ∃ n4, (qb 0 (s_01.getD (lo + x9.toNat) [])).head? = some (Z3 n4) /\ ((0 : Int) <=
  x9 /\ x9 < (↑hi : Int) - (↑lo : Int) /\ (s_01.getD (lo + x9.toNat) []).length = 1) /\
 let V3 := (1 = 1 /\ (1 : Nat) <= (s_01.getD (lo + x9.toNat) []).length) /\ ((0 : Int) <= i64.wrap (x9 - 1) /\ i64.wrap (x9 - 1) < (↑hi : Int) - (↑lo : Int) /\ ((s_01.set (lo + x9.toNat) (Z3 n3 :: zq
  (qb 1 (s_01.getD (lo + x9.toNat) [])))).getD (lo + (i64.wrap (x9 - 1)).toNat) []).length = 1) /\ (1 = 1 /\ 1 <= ((s_01.set (lo + x9.toNat) (Z3 n3 :: zq (qb 1 (s_01.getD (lo + x9.toNat)
  [])))).getD (lo + (i64.wrap (x9 - 1)).toNat) []).length) /\ aG (zbh lo hi nl T a b x81 (i64.wrap (x9 - 1)) ((s_01.set (lo + x9.toNat) (Z3 n3 :: zq (qb 1 (s_01.getD (lo + x9.toNat)
  [])))).set (lo + (i64.wrap (x9 - 1)).toNat) (Z3 n4 :: zq (qb 1 ((s_01.set (lo + x9.toNat) (Z3 n3 :: zq (qb 1 (s_01.getD (lo + x9.toNat) [])))).getD (lo +
  (i64.wrap (x9 - 1)).toNat) []))))) /\ J2 x8 x8 s_0 x81 (i64.wrap (x9 - 1)) ((s_01.set (lo + x9.toNat) (Z3 n3 :: zq (qb 1 (s_01.getD (lo + x9.toNat) [])))).set (lo + (i64.wrap (x9 -
  1)).toNat) (Z3 n4 :: zq (qb 1 ((s_01.set (lo + x9.toNat) (Z3 n3 :: zq (qb 1 (s_01.getD (lo + x9.toNat) [])))).getD (lo + (i64.wrap (x9 - 1)).toNat) [])))) /\ μ2 x81
  (i64.wrap (x9 - 1)) ((s_01.set (lo + x9.toNat) (Z3 n3 :: zq (qb 1 (s_01.getD (lo + x9.toNat) [])))).set (lo + (i64.wrap (x9 - 1)).toNat) (Z3 n4 :: zq (qb 1
  ((s_01.set (lo + x9.toNat) (Z3 n3 :: zq (qb 1 (s_01.getD (lo + x9.toNat) [])))).getD (lo + (i64.wrap (x9 - 1)).toNat) [])))) < μ2 x81 x9 s_01; V3 /\ V3 else V1 else V1 else R (LV.tup []) [Ob.sl
  (21, 1) false nl s_0, Ob.box [LV.pv T]]
theorem zts {R : LV -> Hp -> Prop} (h : zi3 lo hi nl es T a b J μ J2 μ2 R) : ACall qa 141 [.sub 0 lo hi, .pv (.int .i64 a), .pv (.int .i64 b), .fn 111 [.box 1 0]] [.sl (21, 1) false nl es, .box [.pv T]] R :=
 ACall.wz Tryz.func141 aR [0, 1, 2, 3, 8, 9, 14, 34] (iM [(1, (bN jP (zbg lo hi nl T a b) J μ (fun e h => (gI e 8, oS h 0)) [] [0, 1, 2, 3, 8] [])), (4, (iA eG (zbh lo hi nl T a b) J2 μ2 (fun e h => (gI e 8, gI e 9, oS h 0)) [] [0, 1, 2, 3, 8, 9] []))]) [0, 1] h
end
def zbi (lo hi : Nat) (nl : Bool) (T : PV) (a b n : Int) (x10 : Int) (s_0 : LL) : Env × Hp := ([(0, LV.sub 0 lo hi), (1, Y6 a), (2, Y6 b), (3, Y6 n), (10, Y6 x10)], [.sl (21, 1) false nl s_0, .box [LV.pv T]])
section
variable (lo hi : Nat) (nl : Bool) (es : LL) (T : PV) (a b n : Int) (J : Int -> LL -> Prop) (μ : Int -> LL -> Nat)
def zi4 (R : LV -> Hp -> Prop) : Prop :=
 (aG (zbi lo hi nl T a b n (0 : Int) es) /\ J (0 : Int) es) /\ ∀ (x10 : Int) (s_0 : LL), J x10 s_0 -> if decide (x10 < n) = true then ((0 : Int) <= i64.wrap (b + x10) /\ i64.wrap (b + x10) < (↑hi : Int) - (↑lo : Int) /\
  (s_0.getD (lo + (i64.wrap (b + x10)).toNat) []).length = 1) /\ ∃ n1, (qb 0 (s_0.getD (lo + (i64.wrap (b + x10)).toNat) [])).head? = some (Z3 n1) /\
 let V1 := 0 <= i64.wrap (a + x10) /\ i64.wrap (a + x10) < (↑hi : Int) - (↑lo : Int) /\ (s_0.getD (lo + (i64.wrap (a + x10)).toNat) []).length = 1; V1 /\ ∃ n2, (qb 0 (s_0.getD (lo + (i64.wrap (a +
  x10)).toNat) [])).head? = some (Z3 n2) /\ V1 /\
 let V2 := (1 = 1 /\ 1 <= (s_0.getD (lo + (i64.wrap (a + x10)).toNat) []).length) /\ ((0 : Int) <= i64.wrap (b + x10) /\ i64.wrap (b + x10) < (↑hi : Int) - (↑lo : Int) /\ ((s_0.set (lo + (i64.wrap (a + x10)).toNat)
  (Z3 n1 :: zq (qb 1 (s_0.getD (lo + (i64.wrap (a + x10)).toNat) [])))).getD (lo + (i64.wrap (b + x10)).toNat) []).length = (1 : Nat)) /\ (1 = 1 /\ 1 <= ((s_0.set (lo + (i64.wrap (a +
  x10)).toNat) (Z3 n1 :: zq (qb 1 (s_0.getD (lo + (i64.wrap (a + x10)).toNat) [])))).getD (lo + (i64.wrap (b + x10)).toNat) []).length) /\ aG (zbi lo hi nl T a b n (i64.wrap
  (x10 + 1)) ((s_0.set (lo + (i64.wrap (a + x10)).toNat) (Z3 n1 :: zq (qb 1 (s_0.getD (lo + (i64.wrap (a + x10)).toNat) [])))).set (lo + (i64.wrap (b + x10)).toNat) (Z3 n2 ::
  zq (qb 1 ((s_0.set (lo + (i64.wrap (a + x10)).toNat) (Z3 n1 :: zq (qb 1 (s_0.getD (lo + (i64.wrap (a + x10)).toNat) [])))).getD (lo + (i64.wrap (b
  + x10)).toNat) []))))) /\ J (i64.wrap (x10 + 1)) ((s_0.set (lo + (i64.wrap (a + x10)).toNat) (Z3 n1 :: zq (qb 1 (s_0.getD (lo + (i64.wrap (a + x10)).toNat) [])))).set (lo +
  (i64.wrap (b + x10)).toNat) (Z3 n2 :: zq (qb 1 ((s_0.set (lo + (i64.wrap (a + x10)).toNat) (Z3 n1 :: zq (qb 1 (s_0.getD (lo + (i64.wrap (a +
  x10)).toNat) [])))).getD (lo + (i64.wrap (b + x10)).toNat) [])))) /\ μ (i64.wrap (x10 + 1)) ((s_0.set (lo + (i64.wrap (a + x10)).toNat) (Z3 n1 :: zq (qb 1 (s_0.getD (lo +
  (i64.wrap (a + x10)).toNat) [])))).set (lo + (i64.wrap (b + x10)).toNat) (Z3 n2 :: zq (qb 1 ((s_0.set (lo + (i64.wrap (a + x10)).toNat) (Z3 n1 :: zq
  (qb 1 (s_0.getD (lo + (i64.wrap (a + x10)).toNat) [])))).getD (lo + (i64.wrap (b + x10)).toNat) [])))) < μ x10 s_0; V2 /\ V2 else R (LV.tup []) [Ob.sl (21, 1) false nl s_0, Ob.box [LV.pv T]]
theorem ztt {R : LV -> Hp -> Prop} (h : zi4 lo hi nl es T a b n J μ R) : ACall qa 145 [.sub 0 lo hi, .pv (.int .i64 a), .pv (.int .i64 b), .pv (.int .i64 n), .fn 111 [.box 1 0]] [.sl (21, 1) false nl es, .box [.pv T]] R :=
 ACall.wz Tryz.func145 aR [0, 1, 2, 3, 10, 13] (dA 1 (bN jP (zbi lo hi nl T a b n) J μ (fun e h => (gI e 10, oS h 0)) [] [0, 1, 2, 3, 10] [])) [0, 1] h
end
def zbj (lo hi : Nat) (nl : Bool) (T : PV) (m x10 x11 : Int) (s_0 : LL) : Env × Hp := ([(0, LV.sub 0 lo hi), (2, Y6 m), (4, LV.fn 111 [LV.box 1 0]), (10, Y6 x10), (11, Y6 x11)], [.sl (21, 1) false nl s_0, .box [LV.pv T]])
section
variable (lo hi : Nat) (nl : Bool) (es : LL) (T : PV) (a m b : Int) (J : Int -> Int -> LL -> Prop) (μ : Int -> Int -> LL -> Nat)
def zi5 (R : LV -> Hp -> Prop) : Prop :=
 (aG (zbj lo hi nl T m (i64.wrap (m - a)) (i64.wrap (b - m)) es) /\ J (i64.wrap (m - a)) (i64.wrap (b - m)) es) /\ ∀ (x10 x11 : Int) (s_0 : LL), J x10 x11 s_0 ->
 let K2 := fun (y0_ y1_ : Int) (y2_ : LL) => aG (zbj lo hi nl T m y0_ y1_ y2_) /\ J y0_ y1_ y2_ /\ μ y0_ y1_ y2_ < μ x10 x11 s_0; if (x10 != x11) = true then if decide (x10 > x11) = true then ACall qa 145 [LV.sub 0 lo hi, LV.pv (Z6 (i64.wrap (m - x10))), Y6 m, Y6 x11, LV.fn 111 [LV.box 1 0]] [Ob.sl (21, 1) false nl s_0, Ob.box [LV.pv T]] fun (r : LV) (h' : Hp) => ∃ (t : LL), (r = LV.tup [] /\ h' = [Ob.sl (21, 1) false nl t, Ob.box [LV.pv T]]) /\ (True /\ ((21, 1) = (21, 1) /\ nl = nl /\ s_0.length = t.length) /\ True) /\ K2 (i64.wrap (x10 - x11)) x11 t else ACall qa 145 [LV.sub 0 lo hi, LV.pv (Z6 (i64.wrap (m - x10))), LV.pv (Z6 (i64.wrap (i64.wrap (m + x11) - x10))), Y6 x10, LV.fn 111 [LV.box 1 0]] [Ob.sl (21, 1) false nl s_0, Ob.box [LV.pv T]] fun (r : LV) (h' : Hp) => ∃ (t : LL), (r = LV.tup [] /\ h' = [Ob.sl (21, 1) false nl t, Ob.box [LV.pv T]]) /\ (True /\ ((21, 1) = (21, 1) /\ nl = nl /\ s_0.length = t.length) /\ True) /\ K2 x10 (i64.wrap (x11 - x10)) t else ACall qa 145 [LV.sub 0 lo hi, LV.pv (Z6 (i64.wrap (m - x10))), Y6 m, Y6 x10, LV.fn 111 [LV.box 1 0]] [Ob.sl ((21 : Nat), 1) false nl s_0, Ob.box [LV.pv T]] fun (r : LV) (h' : Hp) => ∃ (t : LL), (r = LV.tup [] /\ h' = [Ob.sl (21, 1) false nl t, Ob.box [LV.pv T]]) /\ (True /\ ((21, 1) = (21, (1 : Nat)) /\ nl = nl /\ s_0.length = t.length) /\ True) /\ R (LV.tup []) [Ob.sl (21, 1) false nl t, Ob.box [LV.pv T]]
theorem ztu {R : LV -> Hp -> Prop} (h : zi5 lo hi nl es T a m b J μ R) : ACall qa 144 [.sub 0 lo hi, .pv (.int .i64 a), .pv (.int .i64 m), .pv (.int .i64 b), .fn 111 [.box 1 0]] [.sl (21, 1) false nl es, .box [.pv T]] R :=
 ACall.wz Tryz.func144 (fun zz_ => match zz_ with | 145 => some ⟨LL, fun _ hs t => (.tup [], match hs with | [.sl ty m nl _, b] => [.sl ty m nl t, b] | h => h), none⟩ | _ => none) [0, 1, 2, 3, 4, 10, 11, 20, 23] (dA 2 (bN eG (zbj lo hi nl T m) J μ (fun e h => (gI e 10, gI e 11, oS h 0)) [] [0, 2, 4, 10, 11] [])) [0, 1] h
end
def zbk (lo hi : Nat) (nl : Bool) (T : PV) (a x10 x11 : Int) (s_0 : LL) : Env × Hp := ([(0, LV.sub 0 lo hi), (1, Y6 a), (4, LV.fn 111 [LV.box 1 0]), (10, Y6 x10), (11, Y6 x11)], [.sl (21, 1) false nl s_0, .box [LV.pv T]])
def zbl (lo hi : Nat) (nl : Bool) (T : PV) (x10 x13 : Int) (s_0 : LL) : Env × Hp := ([(0, LV.sub 0 lo hi), (10, Y6 x10), (13, Y6 x13)], [.sl (21, 1) false nl s_0, .box [LV.pv T]])
def zbm (lo hi : Nat) (nl : Bool) (T : PV) (m x14 x15 : Int) (s_0 : LL) : Env × Hp := ([(0, LV.sub 0 lo hi), (2, Y6 m), (4, LV.fn 111 [LV.box 1 0]), (14, Y6 x14), (15, Y6 x15)], [.sl (21, 1) false nl s_0, .box [LV.pv T]])
def zbn (lo hi : Nat) (nl : Bool) (T : PV) (x14 x17 : Int) (s_0 : LL) : Env × Hp := ([(0, LV.sub 0 lo hi), (14, Y6 x14), (17, Y6 x17)], [.sl (21, 1) false nl s_0, .box [LV.pv T]])
def wQ (lo hi : Nat) (nl : Bool) (T : PV) (a m b : Int) (x20 x21 : Int) (s_0 : LL) : Env × Hp := ([(0, LV.sub 0 lo hi), (1, Y6 a), (2, Y6 m), (3, Y6 b), (4, LV.fn 111 [LV.box 1 0]), (18, LV.pv (PV.int i64 (i64.wrap ((IntKind.u64.wrap (i64.wrap (a + b))).fdiv (2 ^ 1))))), (19, LV.pv (PV.int i64 (i64.wrap (i64.wrap ((IntKind.u64.wrap (i64.wrap (a + b))).fdiv (2 ^ 1)) + m)))), (20, Y6 x20), (21, Y6 x21), (22, LV.pv (PV.int i64 (i64.wrap (i64.wrap (i64.wrap ((IntKind.u64.wrap (i64.wrap (a + b))).fdiv (2 ^ 1)) + m) - 1))))], [.sl (21, 1) false nl s_0, .box [LV.pv T]])
section
variable (lo hi : Nat) (nl : Bool) (es : LL) (T : PV) (a m b : Int) (J : Int -> Int -> LL -> Prop) (μ : Int -> Int -> LL -> Nat) (J4 : Int -> Int -> LL -> Prop) (μ4 : Int -> Int -> LL -> Nat) (J2 : Int -> Int -> LL -> Prop) (μ2 : Int -> Int -> LL -> Nat) (J5 : Int -> Int -> LL -> Prop) (μ5 : Int -> Int -> LL -> Nat) (J3 : Int -> Int -> LL -> Prop) (μ3 : Int -> Int -> LL -> Nat)
def wR (R : LV -> Hp -> Prop) : Prop :=
 if (i64.wrap (m - a) == 1) = true then (aG (zbk lo hi nl T a m b es) /\ J m b es) /\ ∀ (x10 x11 : Int) (s_0 : LL), J x10 x11 s_0 ->
 let K3 := fun (y0_ y1_ : Int) (y2_ : LL) => aG (zbk lo hi nl T a y0_ y1_ y2_) /\ J y0_ y1_ y2_ /\ μ y0_ y1_ y2_ < μ x10 x11 s_0; if decide (x10 < x11) = true then ((0 : Int) <= i64.wrap ((IntKind.u64.wrap
  (i64.wrap (x10 + x11))).fdiv ((2 : Int) ^ 1)) /\ i64.wrap ((IntKind.u64.wrap (i64.wrap (x10 + x11))).fdiv ((2 : Int) ^ 1)) < (↑hi : Int) - (↑lo : Int) /\ (s_0.getD (lo + (i64.wrap ((IntKind.u64.wrap
  (i64.wrap (x10 + x11))).fdiv ((2 : Int) ^ 1))).toNat) []).length = 1) /\ ∃ n, (qb 0 (s_0.getD (lo + (i64.wrap ((IntKind.u64.wrap (i64.wrap (x10 + x11))).fdiv ((2 : Int) ^ 1))).toNat) [])).head? =
  some (Z3 n) /\ ((0 : Int) <= a /\ a < (↑hi : Int) - (↑lo : Int) /\ (s_0.getD (lo + a.toNat) []).length = 1) /\ ∃ n1, (qb 0 (s_0.getD (lo + a.toNat) [])).head? = some (Z3 n1) /\ PCall qa 111 [Z3 n, Z3 n1, PV.ptr [T]] fun
  (v : PV) => ∃ n2, v = Z6 n2 /\ true = true /\ if decide (n2 < 0) = true then K3 (i64.wrap (i64.wrap ((IntKind.u64.wrap (i64.wrap (x10 + x11))).fdiv ((2 : Int) ^ 1)) + 1)) x11 s_0 else K3 x10 (i64.wrap
  ((IntKind.u64.wrap (i64.wrap (x10 + x11))).fdiv ((2 : Int) ^ 1))) s_0 else (aG (zbl lo hi nl T x10 a s_0) /\ J4 x10 a s_0) /\ ∀ (x101 x13 : Int) (s_01 : LL), J4 x101 x13 s_01 -> if decide (x13 < i64.wrap (x101 - 1)) =
  true then ((0 : Int) <= i64.wrap (x13 + 1) /\ i64.wrap (x13 + 1) < (↑hi : Int) - (↑lo : Int) /\ (s_01.getD (lo + (i64.wrap (x13 + 1)).toNat) []).length = 1) /\ ∃ n, (qb 0 (s_01.getD (lo +
  (i64.wrap (x13 + 1)).toNat) [])).head? = some (Z3 n) /\ ((0 : Int) <= x13 /\ x13 < (↑hi : Int) - (↑lo : Int) /\ (s_01.getD (lo + x13.toNat) []).length = 1) /\ ∃ n1, (qb 0 (s_01.getD (lo + x13.toNat) [])).head? = some
  (Z3 n1) /\ ((0 : Int) <= x13 /\ x13 < (↑hi : Int) - (↑lo : Int) /\ (s_01.getD (lo + x13.toNat) []).length = 1) /\
 let V1 := (1 = 1 /\ 1 <= (s_01.getD (lo + x13.toNat) []).length) /\ ((0 : Int) <= i64.wrap (x13 + 1) /\ i64.wrap (x13 + 1) < (↑hi : Int) - (↑lo : Int) /\ ((s_01.set (lo + x13.toNat) (Z3 n :: zq
  (qb 1 (s_01.getD (lo + x13.toNat) [])))).getD (lo + (i64.wrap (x13 + 1)).toNat) []).length = 1) /\ (1 = 1 /\ 1 <= ((s_01.set (lo + x13.toNat) (Z3 n :: zq (qb 1 (s_01.getD (lo + x13.toNat)
  [])))).getD (lo + (i64.wrap (x13 + 1)).toNat) []).length) /\ aG (zbl lo hi nl T x101 (i64.wrap (x13 + 1)) ((s_01.set (lo + x13.toNat) (Z3 n :: zq (qb 1 (s_01.getD (lo + x13.toNat)
  [])))).set (lo + (i64.wrap (x13 + 1)).toNat) (Z3 n1 :: zq (qb 1 ((s_01.set (lo + x13.toNat) (Z3 n :: zq (qb 1 (s_01.getD (lo + x13.toNat) [])))).getD (lo +
  (i64.wrap (x13 + 1)).toNat) []))))) /\ J4 x101 (i64.wrap (x13 + 1)) ((s_01.set (lo + x13.toNat) (Z3 n :: zq (qb 1 (s_01.getD (lo + x13.toNat) [])))).set (lo + (i64.wrap (x13 +
  1)).toNat) (Z3 n1 :: zq (qb 1 ((s_01.set (lo + x13.toNat) (Z3 n :: zq (qb 1 (s_01.getD (lo + x13.toNat) [])))).getD (lo + (i64.wrap (x13 + 1)).toNat) [])))) /\ μ4
  x101 (i64.wrap (x13 + 1)) ((s_01.set (lo + x13.toNat) (Z3 n :: zq (qb 1 (s_01.getD (lo + x13.toNat) [])))).set (lo + (i64.wrap (x13 + 1)).toNat) (Z3 n1 :: zq
  (qb 1 ((s_01.set (lo + x13.toNat) (Z3 n :: zq (qb 1 (s_01.getD (lo + x13.toNat) [])))).getD (lo + (i64.wrap (x13 + 1)).toNat) [])))) < μ4 x101 x13 s_01; V1 /\ V1 else R (LV.tup []) [Ob.sl
  (21, 1) false nl s_01, Ob.box [LV.pv T]] else if (i64.wrap (b - m) == 1) = true then (aG (zbm lo hi nl T m a m es) /\ J2 a m es) /\ ∀ (x14 x15 : Int) (s_0 : LL), J2 x14 x15 s_0 ->
 let K15 := fun (y0_ y1_ : Int) (y2_ : LL) => aG (zbm lo hi nl T m y0_ y1_ y2_) /\ J2 y0_ y1_ y2_ /\ μ2 y0_ y1_ y2_ < μ2 x14 x15 s_0; if decide (x14 < x15) = true then ((0 : Int) <= m /\ m < (↑hi : Int) - (↑lo : Int) /\ (s_0.getD
  (lo + m.toNat) []).length = 1) /\ ∃ n, (qb 0 (s_0.getD (lo + m.toNat) [])).head? = some (Z3 n) /\ ((0 : Int) <= i64.wrap ((IntKind.u64.wrap (i64.wrap (x14 + x15))).fdiv ((2 : Int) ^ 1)) /\ i64.wrap
  ((IntKind.u64.wrap (i64.wrap (x14 + x15))).fdiv ((2 : Int) ^ 1)) < (↑hi : Int) - (↑lo : Int) /\ (s_0.getD (lo + (i64.wrap ((IntKind.u64.wrap (i64.wrap (x14 + x15))).fdiv ((2 : Int) ^ 1))).toNat) []).length = 1) /\ ∃
  (n1 : Int), (qb 0 (s_0.getD (lo + (i64.wrap ((IntKind.u64.wrap (i64.wrap (x14 + x15))).fdiv ((2 : Int) ^ 1))).toNat) [])).head? = some (Z3 n1) /\ PCall qa 111 [Z3 n, Z3 n1, PV.ptr [T]] fun v => ∃ (n2 :
  Int), v = Z6 n2 /\ true = true /\ if (!decide (n2 < 0)) = true then K15 (i64.wrap (i64.wrap ((IntKind.u64.wrap (i64.wrap (x14 + x15))).fdiv ((2 : Int) ^ 1)) + 1)) x15 s_0 else K15 x14 (i64.wrap
  ((IntKind.u64.wrap (i64.wrap (x14 + x15))).fdiv ((2 : Int) ^ 1))) s_0 else (aG (zbn lo hi nl T x14 m s_0) /\ J5 x14 m s_0) /\ ∀ (x141 x17 : Int) (s_01 : LL), J5 x141 x17 s_01 -> if decide (x17 > x141) = true then ((0 : Int) <=
  i64.wrap (x17 - 1) /\ i64.wrap (x17 - 1) < (↑hi : Int) - (↑lo : Int) /\ (s_01.getD (lo + (i64.wrap (x17 - 1)).toNat) []).length = 1) /\ ∃ n, (qb 0 (s_01.getD (lo + (i64.wrap (x17 - 1)).toNat)
  [])).head? = some (Z3 n) /\ ((0 : Int) <= x17 /\ x17 < (↑hi : Int) - (↑lo : Int) /\ (s_01.getD (lo + x17.toNat) []).length = 1) /\ ∃ n1, (qb 0 (s_01.getD (lo + x17.toNat) [])).head? = some (Z3 n1) /\ ((0 : Int) <= x17 /\ x17 <
  (↑hi : Int) - (↑lo : Int) /\ (s_01.getD (lo + x17.toNat) []).length = 1) /\
 let V2 := (1 = 1 /\ 1 <= (s_01.getD (lo + x17.toNat) []).length) /\ ((0 : Int) <= i64.wrap (x17 - 1) /\ i64.wrap (x17 - 1) < (↑hi : Int) - (↑lo : Int) /\ ((s_01.set (lo + x17.toNat) (Z3 n :: zq
  (qb 1 (s_01.getD (lo + x17.toNat) [])))).getD (lo + (i64.wrap (x17 - 1)).toNat) []).length = 1) /\ (1 = 1 /\ 1 <= ((s_01.set (lo + x17.toNat) (Z3 n :: zq (qb 1 (s_01.getD (lo + x17.toNat)
  [])))).getD (lo + (i64.wrap (x17 - 1)).toNat) []).length) /\ aG (zbn lo hi nl T x141 (i64.wrap (x17 - 1)) ((s_01.set (lo + x17.toNat) (Z3 n :: zq (qb 1 (s_01.getD (lo + x17.toNat)
  [])))).set (lo + (i64.wrap (x17 - 1)).toNat) (Z3 n1 :: zq (qb 1 ((s_01.set (lo + x17.toNat) (Z3 n :: zq (qb 1 (s_01.getD (lo + x17.toNat) [])))).getD (lo +
  (i64.wrap (x17 - 1)).toNat) []))))) /\ J5 x141 (i64.wrap (x17 - 1)) ((s_01.set (lo + x17.toNat) (Z3 n :: zq (qb 1 (s_01.getD (lo + x17.toNat) [])))).set (lo + (i64.wrap (x17 -
  1)).toNat) (Z3 n1 :: zq (qb 1 ((s_01.set (lo + x17.toNat) (Z3 n :: zq (qb 1 (s_01.getD (lo + x17.toNat) [])))).getD (lo + (i64.wrap (x17 - 1)).toNat) [])))) /\ μ5
  x141 (i64.wrap (x17 - 1)) ((s_01.set (lo + x17.toNat) (Z3 n :: zq (qb 1 (s_01.getD (lo + x17.toNat) [])))).set (lo + (i64.wrap (x17 - 1)).toNat) (Z3 n1 :: zq
  (qb 1 ((s_01.set (lo + x17.toNat) (Z3 n :: zq (qb 1 (s_01.getD (lo + x17.toNat) [])))).getD (lo + (i64.wrap (x17 - 1)).toNat) [])))) < μ5 x141 x17 s_01; V2 /\ V2 else R (LV.tup []) [Ob.sl
  (21, 1) false nl s_01, Ob.box [LV.pv T]] else
 let V3 := ∀ (x20 x21 : Int) (s_0 : LL), J3 x20 x21 s_0 ->
 let K33 := fun (y0_ y1_ : Int) (y2_ : LL) => aG (wQ lo hi nl T a m b y0_ y1_ y2_) /\ J3 y0_ y1_ y2_ /\ μ3 y0_ y1_ y2_ < μ3 x20 x21 s_0; if decide (x20 < x21) = true then ((0 : Int) <= i64.wrap (i64.wrap
  (i64.wrap (i64.wrap ((IntKind.u64.wrap (i64.wrap (a + b))).fdiv ((2 : Int) ^ 1)) + m) - 1) - i64.wrap ((IntKind.u64.wrap (i64.wrap (x20 + x21))).fdiv ((2 : Int) ^ 1))) /\ i64.wrap
  (i64.wrap (i64.wrap (i64.wrap ((IntKind.u64.wrap (i64.wrap (a + b))).fdiv ((2 : Int) ^ 1)) + m) - 1) - i64.wrap ((IntKind.u64.wrap (i64.wrap (x20 + x21))).fdiv ((2 : Int) ^ 1))) < (↑hi :
  Int) - (↑lo : Int) /\ (s_0.getD (lo + (i64.wrap (i64.wrap (i64.wrap (i64.wrap ((IntKind.u64.wrap (i64.wrap (a + b))).fdiv ((2 : Int) ^ 1)) + m) - 1) - i64.wrap ((IntKind.u64.wrap
  (i64.wrap (x20 + x21))).fdiv ((2 : Int) ^ 1)))).toNat) []).length = 1) /\ ∃ n, (qb 0 (s_0.getD (lo + (i64.wrap (i64.wrap (i64.wrap (i64.wrap ((IntKind.u64.wrap (i64.wrap (a +
  b))).fdiv ((2 : Int) ^ 1)) + m) - 1) - i64.wrap ((IntKind.u64.wrap (i64.wrap (x20 + x21))).fdiv ((2 : Int) ^ 1)))).toNat) [])).head? = some (Z3 n) /\ ((0 : Int) <= i64.wrap ((IntKind.u64.wrap (i64.wrap (x20
  + x21))).fdiv ((2 : Int) ^ 1)) /\ i64.wrap ((IntKind.u64.wrap (i64.wrap (x20 + x21))).fdiv ((2 : Int) ^ 1)) < (↑hi : Int) - (↑lo : Int) /\ (s_0.getD (lo + (i64.wrap ((IntKind.u64.wrap (i64.wrap (x20 +
  x21))).fdiv ((2 : Int) ^ 1))).toNat) []).length = 1) /\ ∃ n1, (qb 0 (s_0.getD (lo + (i64.wrap ((IntKind.u64.wrap (i64.wrap (x20 + x21))).fdiv ((2 : Int) ^ 1))).toNat) [])).head? = some (Z3 n1) /\ PCall
  qa 111 [Z3 n, Z3 n1, PV.ptr [T]] fun v => ∃ n2, v = Z6 n2 /\ true = true /\ if (!decide (n2 < 0)) = true then K33 (i64.wrap (i64.wrap ((IntKind.u64.wrap (i64.wrap (x20 + x21))).fdiv ((2 : Int) ^
  1)) + 1)) x21 s_0 else K33 x20 (i64.wrap ((IntKind.u64.wrap (i64.wrap (x20 + x21))).fdiv ((2 : Int) ^ 1))) s_0 else if (decide (x20 < m) && decide (m < i64.wrap (i64.wrap (i64.wrap
  ((IntKind.u64.wrap (i64.wrap (a + b))).fdiv ((2 : Int) ^ 1)) + m) - x20))) = true then ACall qa 144 [LV.sub 0 lo hi, Y6 x20, Y6 m, LV.pv (Z6 (i64.wrap (i64.wrap (i64.wrap ((IntKind.u64.wrap
  (i64.wrap (a + b))).fdiv ((2 : Int) ^ 1)) + m) - x20))), LV.fn 111 [LV.box 1 0]] [Ob.sl (21, 1) false nl s_0, Ob.box [LV.pv T]] fun (r : LV) (h' : Hp) => ∃ (t : LL), (r = LV.tup [] /\ h' = [Ob.sl (21, 1) false nl t, Ob.box [LV.pv
  T]]) /\ (True /\ ((21, 1) = (21, 1) /\ nl = nl /\ s_0.length = t.length) /\ True) /\ if (decide (a < x20) && decide (x20 < i64.wrap ((IntKind.u64.wrap (i64.wrap (a + b))).fdiv ((2 : Int) ^ 1)))) = true then ACall qa 142
  [LV.sub 0 lo hi, Y6 a, Y6 x20, LV.pv (Z6 (i64.wrap ((IntKind.u64.wrap (i64.wrap (a + b))).fdiv ((2 : Int) ^ 1)))), LV.fn 111 [LV.box 1 0]] [Ob.sl (21, 1) false nl t, Ob.box [LV.pv T]] fun (r1 : LV) (h'1 : Hp) => ∃ (t1 :
  LL), (r1 = LV.tup [] /\ h'1 = [Ob.sl (21, 1) false nl t1, Ob.box [LV.pv T]]) /\ (True /\ ((21, 1) = (21, 1) /\ nl = nl /\ t.length = t1.length) /\ True) /\ if (decide (i64.wrap ((IntKind.u64.wrap (i64.wrap (a + b))).fdiv ((2 :
  Int) ^ 1)) < i64.wrap (i64.wrap (i64.wrap ((IntKind.u64.wrap (i64.wrap (a + b))).fdiv ((2 : Int) ^ 1)) + m) - x20)) && decide (i64.wrap (i64.wrap (i64.wrap ((IntKind.u64.wrap
  (i64.wrap (a + b))).fdiv ((2 : Int) ^ 1)) + m) - x20) < b)) = true then ACall qa 142 [LV.sub 0 lo hi, LV.pv (Z6 (i64.wrap ((IntKind.u64.wrap (i64.wrap (a + b))).fdiv ((2 : Int) ^ 1)))), LV.pv (Z6
  (i64.wrap (i64.wrap (i64.wrap ((IntKind.u64.wrap (i64.wrap (a + b))).fdiv ((2 : Int) ^ 1)) + m) - x20))), Y6 b, LV.fn 111 [LV.box 1 0]] [Ob.sl (21, 1) false nl t1, Ob.box [LV.pv T]] fun (r2 : LV) (h'2 :
  Hp) => ∃ (t2 : LL), (r2 = LV.tup [] /\ h'2 = [Ob.sl (21, 1) false nl t2, Ob.box [LV.pv T]]) /\ (True /\ ((21, 1) = (21, 1) /\ nl = nl /\ t1.length = t2.length) /\ True) /\ R (LV.tup []) [Ob.sl (21, 1) false nl t2, Ob.box [LV.pv T]] else R
  (LV.tup []) [Ob.sl (21, 1) false nl t1, Ob.box [LV.pv T]] else if (decide (i64.wrap ((IntKind.u64.wrap (i64.wrap (a + b))).fdiv ((2 : Int) ^ 1)) < i64.wrap (i64.wrap (i64.wrap ((IntKind.u64.wrap
  (i64.wrap (a + b))).fdiv ((2 : Int) ^ (1 : Nat))) + m) - x20)) && decide (i64.wrap (i64.wrap (i64.wrap ((IntKind.u64.wrap (i64.wrap (a + b))).fdiv ((2 : Int) ^ 1)) + m) - x20) < b)) = true then
  ACall qa 142 [LV.sub 0 lo hi, LV.pv (Z6 (i64.wrap ((IntKind.u64.wrap (i64.wrap (a + b))).fdiv ((2 : Int) ^ 1)))), LV.pv (Z6 (i64.wrap (i64.wrap (i64.wrap ((IntKind.u64.wrap (i64.wrap
  (a + b))).fdiv ((2 : Int) ^ 1)) + m) - x20))), Y6 b, LV.fn 111 [LV.box 1 0]] [Ob.sl (21, 1) false nl t, Ob.box [LV.pv T]] fun (r1 : LV) (h'1 : Hp) => ∃ (t1 : LL), (r1 = LV.tup [] /\ h'1 = [Ob.sl (21, 1) false nl t1, Ob.box [LV.pv T]]) /\
  (True /\ ((21, 1) = (21, 1) /\ nl = nl /\ t.length = t1.length) /\ True) /\ R (LV.tup []) [Ob.sl (21, 1) false nl t1, Ob.box [LV.pv T]] else R (LV.tup []) [Ob.sl (21, 1) false nl t, Ob.box [LV.pv T]] else if (decide (a < x20) && decide (x20 <
  i64.wrap ((IntKind.u64.wrap (i64.wrap (a + b))).fdiv ((2 : Int) ^ 1)))) = true then ACall qa 142 [LV.sub 0 lo hi, Y6 a, Y6 x20, LV.pv (Z6 (i64.wrap ((IntKind.u64.wrap (i64.wrap (a + b))).fdiv ((2 :
  Int) ^ 1)))), LV.fn 111 [LV.box 1 0]] [Ob.sl (21, 1) false nl s_0, Ob.box [LV.pv T]] fun (r : LV) (h' : Hp) => ∃ (t : LL), (r = LV.tup [] /\ h' = [Ob.sl (21, 1) false nl t, Ob.box [LV.pv T]]) /\ (True /\ ((21, 1) = (21, 1) /\ nl = nl /\
  s_0.length = t.length) /\ True) /\ if (decide (i64.wrap ((IntKind.u64.wrap (i64.wrap (a + b))).fdiv ((2 : Int) ^ 1)) < i64.wrap (i64.wrap (i64.wrap ((IntKind.u64.wrap (i64.wrap (a + b))).fdiv
  ((2 : Int) ^ 1)) + m) - x20)) && decide (i64.wrap (i64.wrap (i64.wrap ((IntKind.u64.wrap (i64.wrap (a + b))).fdiv ((2 : Int) ^ 1)) + m) - x20) < b)) = true then ACall qa 142 [LV.sub 0 lo hi, LV.pv
  (Z6 (i64.wrap ((IntKind.u64.wrap (i64.wrap (a + b))).fdiv ((2 : Int) ^ 1)))), LV.pv (Z6 (i64.wrap (i64.wrap (i64.wrap ((IntKind.u64.wrap (i64.wrap (a + b))).fdiv ((2 : Int) ^ 1)) + m) -
  x20))), Y6 b, LV.fn 111 [LV.box 1 0]] [Ob.sl (21, 1) false nl t, Ob.box [LV.pv T]] fun (r1 : LV) (h'1 : Hp) => ∃ (t1 : LL), (r1 = LV.tup [] /\ h'1 = [Ob.sl (21, 1) false nl t1, Ob.box [LV.pv T]]) /\ (True /\ ((21, 1) = (21, 1) /\ nl = nl /\
  t.length = t1.length) /\ True) /\ R (LV.tup []) [Ob.sl (21, 1) false nl t1, Ob.box [LV.pv T]] else R (LV.tup []) [Ob.sl (21, 1) false nl t, Ob.box [LV.pv T]] else if (decide (i64.wrap ((IntKind.u64.wrap (i64.wrap (a +
  b))).fdiv ((2 : Int) ^ 1)) < i64.wrap (i64.wrap (i64.wrap ((IntKind.u64.wrap (i64.wrap (a + b))).fdiv ((2 : Int) ^ 1)) + m) - x20)) && decide (i64.wrap (i64.wrap (i64.wrap
  ((IntKind.u64.wrap (i64.wrap (a + b))).fdiv ((2 : Int) ^ 1)) + m) - x20) < b)) = true then ACall qa 142 [LV.sub 0 lo hi, LV.pv (Z6 (i64.wrap ((IntKind.u64.wrap (i64.wrap (a + b))).fdiv ((2 : Int) ^ 1)))),
  LV.pv (Z6 (i64.wrap (i64.wrap (i64.wrap ((IntKind.u64.wrap (i64.wrap (a + b))).fdiv ((2 : Int) ^ 1)) + m) - x20))), Y6 b, LV.fn 111 [LV.box 1 0]] [Ob.sl (21, 1) false nl s_0, Ob.box [LV.pv T]] fun (r : LV)
  (h' : Hp) => ∃ (t : LL), (r = LV.tup [] /\ h' = [Ob.sl (21, 1) false nl t, Ob.box [LV.pv T]]) /\ (True /\ ((21, 1) = (21, 1) /\ nl = nl /\ s_0.length = t.length) /\ True) /\ R (LV.tup []) [Ob.sl (21, 1) false nl t, Ob.box [LV.pv T]] else R
  (LV.tup []) [Ob.sl (21, 1) false nl s_0, Ob.box [LV.pv T]]; if decide (m > i64.wrap ((IntKind.u64.wrap (i64.wrap (a + b))).fdiv ((2 : Int) ^ 1))) = true then (aG (wQ lo hi nl T a m b (i64.wrap
  (i64.wrap (i64.wrap ((IntKind.u64.wrap (i64.wrap (a + b))).fdiv ((2 : Int) ^ 1)) + m) - b)) (i64.wrap ((IntKind.u64.wrap (i64.wrap (a + b))).fdiv ((2 : Int) ^ 1))) es) /\ J3 (i64.wrap
  (i64.wrap (i64.wrap ((IntKind.u64.wrap (i64.wrap (a + b))).fdiv ((2 : Int) ^ 1)) + m) - b)) (i64.wrap ((IntKind.u64.wrap (i64.wrap (a + b))).fdiv ((2 : Int) ^ 1))) es) /\ V3 else (aG (wQ lo
  hi nl T a m b a m es) /\ J3 a m es) /\ V3
theorem zbo {R : LV -> Hp -> Prop} (h : wR lo hi nl es T a m b J μ J4 μ4 J2 μ2 J5 μ5 J3 μ3 R) : ACall qa 142 [.sub 0 lo hi, .pv (.int .i64 a), .pv (.int .i64 m), .pv (.int .i64 b), .fn 111 [.box 1 0]] [.sl (21, 1) false nl es, .box [.pv T]] R :=
 ACall.wz Tryz.func142 (fun zz_ => match zz_ with | 144 => some ⟨LL, fun _ hs t => (.tup [], match hs with | [.sl ty m nl _, b] => [.sl ty m nl t, b] | h => h), none⟩ | 142 => some ⟨LL, fun _ hs t => (.tup [], match hs with | [.sl ty m nl _, b] => [.sl ty m nl t, b] | h => h), none⟩ | _ => none) [0, 1, 2, 3, 4, 10, 11, 12, 13, 14, 15, 16, 17, 18, 19, 20, 21, 22, 23, 24, 28, 33, 50, 58, 80, 85, 103, 110, 140, 151, 171, 185, 199, 213] (iM [(3, (bN eG (zbk lo hi nl T a) J μ (fun e h => (gI e 10, gI e 11, oS h 0)) [] [0, 1, 4, 10, 11] [])), (9, (bN eG (zbl lo hi nl T) J4 μ4 (fun e h => (gI e 10, gI e 13, oS h 0)) [] [0, 10, 13] [])), (15, (bN eG (zbm lo hi nl T m) J2 μ2 (fun e h => (gI e 14, gI e 15, oS h 0)) [] [0, 2, 4, 14, 15] [])), (21, (bN eG (zbn lo hi nl T) J5 μ5 (fun e h => (gI e 14, gI e 17, oS h 0)) [] [0, 14, 17] [])), (33, (bN eG (wQ lo hi nl T a m b) J3 μ3 (fun e h => (gI e 20, gI e 21, oS h 0)) [] [0, 1, 2, 3, 4, 18, 19, 20, 21, 22] []))]) [0, 1] h
end
def zbp (lo hi : Nat) (nl : Bool) (T : PV) (n x7 x8 : Int) (s_0 : LL) : Env × Hp := ([(0, LV.sub 0 lo hi), (1, Y6 n), (2, LV.fn 111 [LV.box 1 0]), (6, Y6 20), (7, Y6 x7), (8, Y6 x8)], [.sl (21, 1) false nl s_0, .box [LV.pv T]])
def zbq (lo hi : Nat) (nl : Bool) (T : PV) (n x6 : Int) (s_0 : LL) : Env × Hp := ([(0, LV.sub 0 lo hi), (1, Y6 n), (2, LV.fn 111 [LV.box 1 0]), (6, Y6 x6)], [.sl (21, 1) false nl s_0, .box [LV.pv T]])
def zbr (lo hi : Nat) (nl : Bool) (T : PV) (n x6 x7 x8 : Int) (s_0 : LL) : Env × Hp := ([(0, LV.sub 0 lo hi), (1, Y6 n), (2, LV.fn 111 [LV.box 1 0]), (6, Y6 x6), (7, Y6 x7), (8, Y6 x8)], [.sl (21, 1) false nl s_0, .box [LV.pv T]])
section
variable (lo hi : Nat) (nl : Bool) (es : LL) (T : PV) (n : Int) (J : Int -> Int -> LL -> Prop) (μ : Int -> Int -> LL -> Nat) (J2 : Int -> LL -> Prop) (μ2 : Int -> LL -> Nat) (J3 : Int -> Int -> Int -> LL -> Int -> Int -> Int -> LL -> Prop) (μ3 : Int -> Int -> Int -> LL -> Nat)
def zi6 (R : LV -> Hp -> Prop) : Prop :=
 (aG (zbp lo hi nl T n (0 : Int) (20 : Int) es) /\ J (0 : Int) (20 : Int) es) /\ ∀ (x7 x8 : Int) (s_0 : LL), J x7 x8 s_0 -> if decide (x8 <= n) = true then ACall qa 141 [LV.sub 0 lo hi, Y6 x7, Y6 x8, LV.fn 111 [LV.box 1 0]] [Ob.sl (21, 1) false nl s_0, Ob.box [LV.pv T]] fun (r : LV) (h' : Hp) => ∃ (t : LL), (r = LV.tup [] /\ h' = [Ob.sl (21, 1) false nl t, Ob.box [LV.pv T]]) /\ (True /\ ((21, 1) = (21, 1) /\ nl = nl /\ s_0.length = t.length) /\ True) /\ aG (zbp lo hi nl T n x8 (i64.wrap (x8 + 20)) t) /\ J x8 (i64.wrap (x8 + 20)) t /\ μ x8 (i64.wrap (x8 + 20)) t < μ x7 x8 s_0 else ACall qa 141 [LV.sub 0 lo hi, Y6 x7, Y6 n, LV.fn 111 [LV.box 1 0]] [Ob.sl (21, 1) false nl s_0, Ob.box [LV.pv T]] fun (r : LV) (h' : Hp) => ∃ (t : LL), (r = LV.tup [] /\ h' = [Ob.sl (21, 1) false nl t, Ob.box [LV.pv T]]) /\ (True /\ ((21, 1) = (21, 1) /\ nl = nl /\ s_0.length = t.length) /\ True) /\ (aG (zbq lo hi nl T n (20 : Int) t) /\ J2 (20 : Int) t) /\ ∀ (x6 : Int) (s_01 : LL), J2 x6 s_01 ->
 let K7 := fun (y0_ : Int) (y1_ : LL) => aG (zbq lo hi nl T n y0_ y1_) /\ J2 y0_ y1_ /\ μ2 y0_ y1_ < μ2 x6 s_01; if decide (x6 < n) = true then (aG (zbr lo hi nl T n x6 (0 : Int) (i64.wrap ((2 : Int) * x6)) s_01) /\ J3 x6 (0 : Int) (i64.wrap ((2 : Int) * x6)) s_01 x6 (0 : Int) (i64.wrap ((2 : Int) * x6)) s_01) /\ ∀ (x61 x71 x81 : Int) (s_02 : LL), J3 x6 (0 : Int) (i64.wrap ((2 : Int) * x6)) s_01 x61 x71 x81 s_02 -> if decide (x81 <= n) = true then ACall qa 142 [LV.sub 0 lo hi, Y6 x71, LV.pv (Z6 (i64.wrap (x71 + x61))), Y6 x81, LV.fn 111 [LV.box 1 0]] [Ob.sl (21, 1) false nl s_02, Ob.box [LV.pv T]] fun (r1 : LV) (h'1 : Hp) => ∃ (t1 : LL), (r1 = LV.tup [] /\ h'1 = [Ob.sl (21, 1) false nl t1, Ob.box [LV.pv T]]) /\ (True /\ ((21, 1) = (21, 1) /\ nl = nl /\ s_02.length = t1.length) /\ True) /\ aG (zbr lo hi nl T n x61 x81 (i64.wrap (x81 + i64.wrap ((2 : Int) * x61))) t1) /\ J3 x6 (0 : Int) (i64.wrap ((2 : Int) * x6)) s_01 x61 x81 (i64.wrap (x81 + i64.wrap ((2 : Int) * x61))) t1 /\ μ3 x61 x81 (i64.wrap (x81 + i64.wrap ((2 : Int) * x61))) t1 < μ3 x61 x71 x81 s_02 else if decide (i64.wrap (x71 + x61) < n) = true then ACall qa 142 [LV.sub 0 lo hi, Y6 x71, LV.pv (Z6 (i64.wrap (x71 + x61))), Y6 n, LV.fn 111 [LV.box 1 0]] [Ob.sl (21, 1) false nl s_02, Ob.box [LV.pv T]] fun (r1 : LV) (h'1 : Hp) => ∃ (t1 : LL), (r1 = LV.tup [] /\ h'1 = [Ob.sl (21, 1) false nl t1, Ob.box [LV.pv T]]) /\ (True /\ ((21, 1) = (21, 1) /\ nl = nl /\ s_02.length = t1.length) /\ True) /\ K7 (i64.wrap (x61 * 2)) t1 else K7 (i64.wrap (x61 * 2)) s_02 else R (LV.tup []) [Ob.sl (21, 1) false nl s_01, Ob.box [LV.pv T]]
theorem ztv {R : LV -> Hp -> Prop} (h : zi6 lo hi nl es T n J μ J2 μ2 J3 μ3 R) : ACall qa 133 [.sub 0 lo hi, .pv (.int .i64 n), .fn 111 [.box 1 0]] [.sl (21, 1) false nl es, .box [.pv T]] R :=
 ACall.wz Tryz.func133 (fun zz_ => match zz_ with | 141 => some ⟨LL, fun _ hs t => (.tup [], match hs with | [.sl ty m nl _, b] => [.sl ty m nl t, b] | h => h), none⟩ | 142 => some ⟨LL, fun _ hs t => (.tup [], match hs with | [.sl ty m nl _, b] => [.sl ty m nl t, b] | h => h), none⟩ | _ => none) [0, 1, 2, 6, 7, 8, 9, 13, 30, 35, 54] (iM [(2, (bN eG (zbp lo hi nl T n) J μ (fun e h => (gI e 7, gI e 8, oS h 0)) [] [0, 1, 2, 6, 7, 8] [])), (7, (bN jP (zbq lo hi nl T n) J2 μ2 (fun e h => (gI e 6, oS h 0)) [] [0, 1, 2, 6] [])), (9, (iA jQ (zbr lo hi nl T n) J3 μ3 (fun e h => (gI e 6, gI e 7, gI e 8, oS h 0)) [] [0, 1, 2, 6, 7, 8] []))]) [0, 1] h
end
section
variable (lo hi : Nat) (nl : Bool) (es : LL) (T : PV)
def zi7 (R : LV -> Hp -> Prop) : Prop :=
 ACall qa 133 [LV.sub 0 lo hi, LV.pv (Z6 (↑(hi - lo) : Int)), LV.fn 111 [LV.box 1 0]] [Ob.sl (21, 1) false nl es, Ob.box [LV.pv T]] fun (r : LV) (h' : Hp) => ∃ (t : LL), (r = LV.tup [] /\ h' = [Ob.sl (21, 1) false nl t, Ob.box [LV.pv T]]) /\ (True /\ ((21, 1) = (21, 1) /\ nl = nl /\ es.length = t.length) /\ True) /\ R (LV.tup []) [Ob.sl (21, 1) false nl t, Ob.box [LV.pv T]]
theorem ztw {R : LV -> Hp -> Prop} (h : zi7 lo hi nl es T R) : ACall qa 110 [.sub 0 lo hi, .fn 111 [.box 1 0]] [.sl (21, 1) false nl es, .box [.pv T]] R :=
 ACall.wz Tryz.func110 (fun zz_ => match zz_ with | 133 => some ⟨LL, fun _ hs t => (.tup [], match hs with | [.sl ty m nl _, b] => [.sl ty m nl t, b] | h => h), none⟩ | _ => none) [0, 1] bE [0, 1] h
end
section
variable (r : Int)
def zi8 (R : PV -> Prop) : Prop :=
 R (Zb (decide (r >= 44032) && decide (r < 55204)))
theorem ztx {R : PV -> Prop} (h : zi8 r R) : PCall qa 131 [.int .i32 r] R :=
 PCall.wz Tryz.func131 aR [0, 2] bE h
end
section
variable (r : Int)
def zi9 (R : PV -> Prop) : Prop :=
 PCall qa 131 [Z3 r] fun v => ∃ b, v = Zb b /\ if (!b) = true then R (PV.sl true true []) else (3 = 3 /\ 3 <= 3) /\ ((0 : Int) <= 2 /\ (2 : Int) < (↑3 : Int)) /\ ∃ n, some (Z3 (i32.wrap ((4519 : Int) + (i32.wrap (r - 44032)).tmod (28 : Int)))) = some (Z3 n) /\ if (n == 4519) = true then (dS 3 none (some (2 : Int)) (some (2 : Int)) /\ 3 = (3 : Nat)) /\ R (PV.sl false true [[Z3 (i32.wrap ((4352 : Int) + i32.wrap ((i32.wrap (r - 44032)).tdiv (588 : Int))))], [Z3 (i32.wrap ((4449 : Int) + (i32.wrap ((i32.wrap (r - 44032)).tdiv (28 : Int))).tmod (21 : Int)))]]) else (dS 3 none none none /\ 3 = 3) /\ R (PV.sl false true [[Z3 (i32.wrap ((4352 : Int) + i32.wrap ((i32.wrap (r - 44032)).tdiv (588 : Int))))], [Z3 (i32.wrap ((4449 : Int) + (i32.wrap ((i32.wrap (r - 44032)).tdiv (28 : Int))).tmod (21 : Int)))], [Z3 (i32.wrap ((4519 : Int) + (i32.wrap (r - 44032)).tmod (28 : Int)))]])
theorem zty {R : PV -> Prop} (h : zi9 r R) : PCall qa 108 [.int .i32 r] R :=
 PCall.wz Tryz.func108 aR [0, 2, 3, 4, 7, 23] bE h
end
section
variable (r : Int)
def zja (R : PV -> Prop) : Prop :=
 R (Zb (decide (r >= 44032) && decide (r <= 55203)))
theorem ztz {R : PV -> Prop} (h : zja r R) : PCall qa 99 [.int .i32 r] R :=
 PCall.wz Tryz.func99 aR [0, 2] bE h
end
section
variable (r : Int)
def zbs (R : LV -> Hp -> Prop) : Prop :=
 PCall qa 99 [Z3 r] fun v => ∃ b, v = Zb b /\ if (!b) = true then R (LV.pv (PV.sl true true [])) [] else if ((i64.wrap (i64.wrap r - 44032)).tmod (28 : Int) != 0) = true then gZ true [[Z3 (i32.wrap (i64.wrap ((4352 : Int) + i64.wrap ((i64.wrap (i64.wrap r - 44032)).tdiv (588 : Int)))))], [Z3 (i32.wrap (i64.wrap ((4449 : Int) + (i64.wrap ((i64.wrap (i64.wrap r - 44032)).tdiv (28 : Int))).tmod (21 : Int))))]] [[Z3 (i32.wrap (i64.wrap ((4519 : Int) + (i64.wrap (i64.wrap r - 44032)).tmod (28 : Int))))]] 1 4 /\ R (LV.own 0) [Ob.sl (21, 1) false false [[Z3 (i32.wrap (i64.wrap ((4352 : Int) + i64.wrap ((i64.wrap (i64.wrap r - 44032)).tdiv (588 : Int)))))], [Z3 (i32.wrap (i64.wrap ((4449 : Int) + (i64.wrap ((i64.wrap (i64.wrap r - 44032)).tdiv (28 : Int))).tmod (21 : Int))))], [Z3 (i32.wrap (i64.wrap ((4519 : Int) + (i64.wrap (i64.wrap r - 44032)).tmod (28 : Int))))]]] else R (LV.pv (PV.sl false true [[Z3 (i32.wrap (i64.wrap ((4352 : Int) + i64.wrap ((i64.wrap (i64.wrap r - 44032)).tdiv (588 : Int)))))], [Z3 (i32.wrap (i64.wrap ((4449 : Int) + (i64.wrap ((i64.wrap (i64.wrap r - 44032)).tdiv (28 : Int))).tmod (21 : Int))))]])) []
theorem zjb {R : LV -> Hp -> Prop} (h : zbs r R) : ACall qa 100 [.pv (.int .i32 r)] [] R :=
 ACall.wA Tryz.func100 aR [0, 2, 3, 4, 7, 23] bE h
end
section
variable (n f : Bool) (es : LL) (k r : Int)
def zjc (R : PV -> Prop) : Prop :=
 PCall qa 130 [PV.sl n f es, Z6 k, Z6 r] fun v => ∃ n1, v = Z6 n1 /\ if decide (n1 < 0) = true then R (Z6 0) else aD es n1 5 /\ ∃ n2, (qb 3 (es.getD n1.toNat [])).head? = some (Z6 n2) /\ R (Z6 n2)
theorem zt0 {R : PV -> Prop} (h : zjc n f es k r R) : PCall qa 140 [.sl n f es, .int .i64 k, .int .i64 r] R :=
 PCall.wz Tryz.func140 aR [0, 1, 2, 6, 7, 13] bE h
end
section
variable (n f : Bool) (es : LL) (k r : Int)
def zjd (R : PV -> Prop) : Prop :=
 PCall qa 140 [PV.sl n f es, Z6 k, Z6 (i64.wrap r)] fun v => ∃ n1, v = Z6 n1 /\ R (Z6 n1)
theorem zt1 {R : PV -> Prop} (h : zjd n f es k r R) : PCall qa 128 [.sl n f es, .int .i64 k, .int .i32 r] R :=
 PCall.wz Tryz.func128 aR [0, 1, 2, 6] bE h
end
section
variable (n f : Bool) (es : LL) (r : Int)
def zje (R : PV -> Prop) : Prop :=
 PCall qa 130 [PV.sl n f es, Z6 2, Z6 (i64.wrap r)] fun v => ∃ n1, v = Z6 n1 /\ if decide (n1 < 0) = true then R (PV.tup [Z3 0, Z3 0, Zb false]) else aD es n1 5 /\ ∃ n2, (qb 3 (es.getD n1.toNat
  [])).head? = some (Z6 n2) /\
 let V1 := aD es n1 5 /\ ∃ n4, (qb 3 (es.getD n1.toNat [])).head? = some (Z6 n4) /\ aD es n1 5 /\ ∃ n5, (qb 4 (es.getD n1.toNat [])).head? = some (Z6 n5) /\ R (PV.tup [Z3 (i32.wrap n4), Z3
  (i32.wrap n5), Zb true]); if (n2 == 0) = true then aD es n1 5 /\ ∃ n3, (qb 4 (es.getD n1.toNat [])).head? = some (Z6 n3) /\ if (n3 == 0) = true then R (PV.tup [Z3 0, Z3 0, Zb false]) else V1 else V1
theorem zt2 {R : PV -> Prop} (h : zje n f es r R) : PCall qa 101 [.sl n f es, .int .i32 r] R :=
 PCall.wz Tryz.func101 aR [0, 1, 4, 5, 6, 7, 29] bE h
end
section
variable (n f : Bool) (es : LL) (r : Int)
def zjf (R : PV -> Prop) : Prop :=
 PCall qa 128 [PV.sl n f es, Z6 1, Z3 r] fun v => ∃ n1, v = Z6 n1 /\ R (Z6 n1)
theorem zt3 {R : PV -> Prop} (h : zjf n f es r R) : PCall qa 96 [.sl n f es, .int .i32 r] R :=
 PCall.wz Tryz.func96 aR [0, 1, 4] bE h
end
section
variable (n f : Bool) (es : LL) (r d : Int)
def zbt (R : LV -> Hp -> Prop) : Prop :=
 PCall qa 99 [Z3 r] fun v => ∃ b, v = Zb b /\ if b = true then ACall qa 100 [LV.pv (Z3 r)] [] fun (r1 : LV) (h' : Hp) => (∃ (t : Bool × LL), (r1 = LV.own 0 /\ h' = [Ob.sl ((21 : Nat), 1) true t.fst t.snd]) /\ True /\ R (LV.own 0) [Ob.sl (21, 1) true t.fst t.snd]) ∨ ∃ (t : LL), (r1 = LV.pv (PV.sl false true t) /\ h' = []) /\ True /\ R (LV.pv (PV.sl false true t)) [] else PCall qa 101 [PV.sl n f es, Z3 r] fun v1 => ∃ vs, v1 = PV.tup vs /\ vs.length = 3 /\ ∃ x, vs.head? = some x /\ ∃ n1, x = Z3 n1 /\ ∃ x1, vs.tail.head? = some x1 /\ ∃ n2, x1 = Z3 n2 /\ ∃ x2, vs.tail.tail.head? = some x2 /\ ∃ b1, x2 = Zb b1 /\ if (!b1 || d == 0) = true then R (LV.pv (PV.sl false true [[Z3 r]])) [] else ACall qa 77 [LV.pv (PV.sl n f es), LV.pv (Z3 n1), LV.pv (Z6 (i64.wrap (d - 1)))] [] fun (r1 : LV) (h' : Hp) => (∃ (t : Bool × LL), (r1 = LV.own 0 /\ h' = [Ob.sl (21, 1) true t.fst t.snd]) /\ True /\ if (n2 != 0) = true then ACall qa 77 [LV.pv (PV.sl n f es), LV.pv (Z3 n2), LV.pv (Z6 (i64.wrap (d - 1)))] [] fun (r2 : LV) (h'1 : Hp) => (∃ (t1 : Bool × LL), (r2 = LV.own 0 /\ h'1 = [Ob.sl (21, (1 : Nat)) true t1.fst t1.snd]) /\ True /\ (aU t1.snd 1 /\ (t.snd.length + t1.snd.length) * 4 <= 140737488355328) /\ R (LV.own 0) [Ob.sl (21, 1) true (t.fst && t1.snd.isEmpty) (t.snd ++ t1.snd)]) ∨ ∃ (t1 : LL), (r2 = LV.pv (PV.sl false true t1) /\ h'1 = []) /\ True /\ (aU t1 1 /\ (t.snd.length + t1.length) * 4 <= 140737488355328) /\ R (LV.own 0) [Ob.sl (21, 1) true (t.fst && t1.isEmpty) (t.snd ++ t1)] else R (LV.own 0) [Ob.sl (21, 1) true t.fst t.snd]) ∨ ∃ (t : LL), (r1 = LV.pv (PV.sl false true t) /\ h' = []) /\ True /\ if (n2 != 0) = true then ACall qa 77 [LV.pv (PV.sl n f es), LV.pv (Z3 n2), LV.pv (Z6 (i64.wrap (d - 1)))] [] fun (r2 : LV) (h'1 : Hp) => (∃ (t1 : Bool × LL), (r2 = LV.own 0 /\ h'1 = [Ob.sl (21, 1) true t1.fst t1.snd]) /\ True /\ gZ true t t1.snd 1 4 /\ R (LV.own 0) [Ob.sl (21, 1) false false (t ++ t1.snd)]) ∨ ∃ (t1 : LL), (r2 = LV.pv (PV.sl false true t1) /\ h'1 = []) /\ True /\ gZ true t t1 1 4 /\ R (LV.own 0) [Ob.sl (21, 1) false false (t ++ t1)] else R (LV.pv (PV.sl false true t)) []
theorem zjg {R : LV -> Hp -> Prop} (h : zbt n f es r d R) : ACall qa 77 [.pv (.sl n f es), .pv (.int .i32 r), .pv (.int .i64 d)] [] R :=
 ACall.wA Tryz.func77 (fun zz_ => match zz_ with | 77 => some ⟨Bool × LL, fun _ hs t => (.own hs.length, hs ++ [.sl (21, 1) true t.1 t.2]), some ⟨LL, fun _ hs t => (.pv (.sl false true t), hs)⟩⟩ | 100 => some ⟨Bool × LL, fun _ hs t => (.own hs.length, hs ++ [.sl (21, 1) true t.1 t.2]), some ⟨LL, fun _ hs t => (.pv (.sl false true t), hs)⟩⟩ | _ => none) [0, 1, 2, 6, 7, 8, 9, 10, 12, 27, 36] bE h
end
section
variable (tc tg tj tf tp : PV) (M S : List (PV × PV)) (nl : Bool) (es : LL) (r d : Int)
def zbu (R : LV -> Hp -> Prop) : Prop :=
 PCall qa 108 [Z3 r] fun v => ∃ n f es1, v = PV.sl n f es1 /\ if (bif false then n else !n) = true then (aU es1 1 /\ (es.length + es1.length) * 4 <= (140737488355328 : Nat)) /\ R (LV.tup []) [Ob.box [LV.pv (PV.ptr [tc, tg, tj, tf, tp, PV.mp M, PV.mp S]), LV.own 1], Ob.sl (21, 1) true (nl && es1.isEmpty) (es ++ es1)] else PCall qa 69 [PV.ptr [tc, tg, tj, tf, tp, PV.mp M, PV.mp S], Z3 r] fun v1 => ∃ vs, v1 = PV.tup vs /\ vs.length = 3 /\ ∃ x, vs.head? = some x /\ ∃ n1, x = Z3 n1 /\ ∃ x1, vs.tail.head? = some x1 /\ ∃ n2, x1 = Z3 n2 /\ ∃ x2, vs.tail.tail.head? = some x2 /\ ∃ b, x2 = Zb b /\ if (!b || d == 0) = true then (aU [[Z3 r]] 1 /\ (es.length + 1) * 4 <= 140737488355328) /\ R (LV.tup []) [Ob.box [LV.pv (PV.ptr [tc, tg, tj, tf, tp, PV.mp M, PV.mp S]), LV.own 1], Ob.sl (21, 1) true (nl && false) (es ++ [[Z3 r]])] else ACall qa 81 [LV.box 0 0, LV.pv (Z3 n1), LV.pv (Z6 (i64.wrap (d - 1)))] [Ob.box [LV.pv (PV.ptr [tc, tg, tj, tf, tp, PV.mp M, PV.mp S]), LV.own 1], Ob.sl (21, 1) false nl es] fun (r1 : LV) (h' : Hp) => ∃ (t : Bool × LL), (r1 = LV.tup [] /\ h' = [Ob.box [LV.pv (PV.ptr [tc, tg, tj, tf, tp, PV.mp M, PV.mp S]), LV.own 1], Ob.sl (21, 1) true t.fst t.snd]) /\ (True /\ True /\ True) /\ if (n2 != 0) = true then ACall qa 81 [LV.box 0 0, LV.pv (Z3 n2), LV.pv (Z6 (i64.wrap (d - 1)))] [Ob.box [LV.pv (PV.ptr [tc, tg, tj, tf, tp, PV.mp M, PV.mp S]), LV.own 1], Ob.sl (21, 1) false t.fst t.snd] fun (r2 : LV) (h'1 : Hp) => ∃ (t1 : Bool × LL), (r2 = LV.tup [] /\ h'1 = [Ob.box [LV.pv (PV.ptr [tc, tg, tj, tf, tp, PV.mp M, PV.mp S]), LV.own 1], Ob.sl (21, 1) true t1.fst t1.snd]) /\ (True /\ True /\ True) /\ R (LV.tup []) [Ob.box [LV.pv (PV.ptr [tc, tg, tj, tf, tp, PV.mp M, PV.mp S]), LV.own 1], Ob.sl ((21 : Nat), 1) true t1.fst t1.snd] else R (LV.tup []) [Ob.box [LV.pv (PV.ptr [tc, tg, tj, tf, tp, PV.mp M, PV.mp S]), LV.own 1], Ob.sl (21, 1) true t.fst t.snd]
theorem zjh {R : LV -> Hp -> Prop} (h : zbu tc tg tj tf tp M S nl es r d R) : ACall qa 81 [.box 0 0, .pv (.int .i32 r), .pv (.int .i64 d)] [.box [.pv (.ptr [tc, tg, tj, tf, tp, .mp M, .mp S]), .own 1], .sl (21, 1) false nl es] R :=
 ACall.wz Tryz.func81 (fun zz_ => match zz_ with | 81 => some ⟨Bool × LL, fun _ hs t => (.tup [], match hs with | [.box (x :: _), .sl ty _ _ _] => [.box [x, .own 1], .sl ty true t.1 t.2] | [.box (x :: _)] => [.box [x, .own 1], .sl (21, 1) true t.1 t.2] | h => h), none⟩ | _ => none) [0, 1, 2, 6, 7, 8, 9, 13, 38, 55] bE [0, 1] h
end
def zbv  (n10 f10 : Bool) (s10 : LL) (x11 x12 : Int) (n_0 : Bool) (s_0 : LL) : Env × Hp := ([(5, LV.own 0), (10, .pv (.sl n10 f10 s10)), (11, Y6 x11), (12, Y6 x12)], [.sl (100, 3) true n_0 s_0])
section
variable (n f : Bool) (es : LL) (k : Int) (J : Bool -> Bool -> LL -> Int -> Int -> Bool -> LL -> Prop) (μ : Bool -> Bool -> LL -> Int -> Int -> Bool -> LL -> Nat)
def zji (R : PV -> Prop) : Prop :=
 PCall qa 41 [PV.sl n f es, Z6 k] fun v => ∃ n1 f1 es1, v = PV.sl n1 f1 es1 /\ (aG (zbv n1 f1 es1 (↑es1.length : Int) (0 : Int) true []) /\ J n1 f1 es1 (↑es1.length : Int) (0 : Int) true []) /\ ∀ (n10 f10 : Bool) (s10 : LL) (x11 x12 : Int) (n_0 : Bool) (s_0 : LL), J n10 f10 s10 x11 x12 n_0 s_0 -> if decide (x12 < x11) = true then aD s10 x12 4 /\ ∃ n2, (s10.getD x12.toNat []).head? = some (Z6 n2) /\ ∃ n3, (s10.getD x12.toNat []).tail.head? = some (Z6 n3) /\ ∃ n4, (s10.getD x12.toNat []).tail.tail.head? = some (Z6 n4) /\ ∃ n5, (s10.getD x12.toNat []).tail.tail.tail.head? = some (Z6 n5) /\ (aU [[Z6 n2, Z6 n3, Z6 n4]] 3 /\ (s_0.length + 1) * 24 <= 140737488355328) /\ aG (zbv n10 f10 s10 x11 (i64.wrap (x12 + 1)) (n_0 && false) (s_0 ++ [[Z6 n2, Z6 n3, Z6 n4]])) /\ J n10 f10 s10 x11 (i64.wrap (x12 + 1)) (n_0 && false) (s_0 ++ [[Z6 n2, Z6 n3, Z6 n4]]) /\ μ n10 f10 s10 x11 (i64.wrap (x12 + 1)) (n_0 && false) (s_0 ++ [[Z6 n2, Z6 n3, Z6 n4]]) < μ n10 f10 s10 x11 x12 n_0 s_0 else PCall qa 56 [Z6 1114112, Z6 0, PV.sl n_0 false s_0] fun v1 => R v1
theorem zt4 {R : PV -> Prop} (h : zji n f es k J μ R) : PCall qa 39 [.sl n f es, .int .i64 k] R :=
 PCall.wz Tryz.func39 aR [0, 1, 4, 5, 7, 10, 11, 12, 13] (dA 3 (bN cz7 zbv J μ (fun e h => (gN e 10, gF e 10, gS e 10, gI e 11, gI e 12, oN h 0, oS h 0)) [(5, 100, 3)] [5, 10, 11, 12] [])) h
end
def zbw (n f : Bool) (es : LL) (x14 : Int) (m_0 : List (PV × PV)) : Env × Hp := ([(3, LV.mp 0), (12, LV.pv (PV.sl n f es)), (13, LV.pv (PV.int i64 (es.length : Int))), (14, Y6 x14)], [.mp m_0])
def zbx (n f : Bool) (es : LL) (x14 : Int) (n18 f18 : Bool) (s18 : LL) (x19 x20 : Int) (m_0 : List (PV × PV)) : Env × Hp := ([(3, LV.mp 0), (12, LV.pv (PV.sl n f es)), (13, LV.pv (PV.int i64 (es.length : Int))), (14, Y6 x14), (18, .pv (.sl n18 f18 s18)), (19, Y6 x19), (20, Y6 x20)], [.mp m_0])
def zby  (n_0 : Bool) (s_0 : LL) (r_1 : List (PV × PV)) (q_1 : Option (PV × PV)) : Env × Hp := ([(8, LV.own 0), (34, LV.it 1)], [.sl (3, 1) true n_0 s_0, .iter (3, 4) r_1 q_1])
section
variable (n f : Bool) (es : LL) (J : Int -> (List (PV × PV)) -> Prop) (μ : Int -> (List (PV × PV)) -> Nat) (J2 : Int -> Bool -> Bool -> LL -> Int -> Int -> (List (PV × PV)) -> Int -> Bool -> Bool -> LL -> Int -> Int -> (List (PV × PV)) -> Prop) (μ2 : Int -> Bool -> Bool -> LL -> Int -> Int -> (List (PV × PV)) -> Nat) (J3 : Bool -> LL -> (List (PV × PV)) -> (Option (PV × PV)) -> Prop) (μ3 : Bool -> LL -> (List (PV × PV)) -> (Option (PV × PV)) -> Nat)
def zjj (R : PV -> Prop) : Prop :=
 l6 .i64 [] /\ (aG (zbw n f es (0 : Int) [(Z6 0, Zb true)]) /\ J (0 : Int) [(Z6 0, Zb true)]) /\ ∀ (x14 : Int) (m_0 : List (PV × PV)), J x14 m_0 -> if decide (x14 < (↑es.length : Int)) = true then aD es x14 1 /\ ∃ n1, ∃ (f1
  : Bool), ∃ es1, (es.getD x14.toNat []).head? = some (PV.sl n1 f1 es1) /\ (aG (zbx n f es x14 n1 f1 es1 (↑es1.length : Int) (0 : Int) m_0) /\ J2 x14 n1 f1 es1 (↑es1.length : Int) (0 : Int) m_0 x14 n1 f1 es1 (↑es1.length : Int)
  (0 : Int) m_0) /\ ∀ (x141 : Int) (n18 f18 : Bool) (s18 : LL) (x19 x20 : Int) (m_01 : List (PV × PV)), J2 x14 n1 f1 es1 (↑es1.length : Int) (0 : Int) m_0 x141 n18 f18 s18 x19 x20 m_01 -> if decide (x20 < x19) = true then aD s18 x20 4 /\ ∃
  (n2 : Int), (s18.getD x20.toNat []).head? = some (Z6 n2) /\ ∃ n3, (s18.getD x20.toNat []).tail.head? = some (Z6 n3) /\ ∃ n4, (s18.getD x20.toNat []).tail.tail.head? = some (Z6 n4) /\ ∃ n5, (s18.getD x20.toNat
  []).tail.tail.tail.head? = some (Z6 n5) /\
 let V1 := l6 .i64 m_01 /\ l6 .i64 (bV (Z6 n2) (Zb true) m_01) /\ aG (zbx n f es x141 n18 f18 s18 x19 (i64.wrap (x20 + 1)) (bV (Z6 (i64.wrap (n3 + 1))) (Zb true) (bV (Z6 n2) (Zb true) m_01))) /\ J2
  x14 n1 f1 es1 (↑es1.length : Int) (0 : Int) m_0 x141 n18 f18 s18 x19 (i64.wrap (x20 + 1)) (bV (Z6 (i64.wrap (n3 + 1))) (Zb true) (bV (Z6 n2) (Zb true) m_01)) /\ μ2 x141 n18 f18 s18 x19 (i64.wrap (x20 + 1))
  (bV (Z6 (i64.wrap (n3 + 1))) (Zb true) (bV (Z6 n2) (Zb true) m_01)) < μ2 x141 n18 f18 s18 x19 x20 m_01; (V1 /\ V1) /\ V1 else aG (zbw n f es (i64.wrap (x141 + 1)) m_01) /\ J (i64.wrap (x141 + 1)) m_01 /\
  μ (i64.wrap (x141 + 1)) m_01 < μ x14 m_0 else (aG (zby true [] m_0 none) /\ J3 true [] m_0 none) /\ ∀ (n_0 : Bool) (s_0 : LL) (r_1 : List (PV × PV)) (q_1 : Option (PV × PV)), J3 n_0 s_0 r_1 q_1 -> (r_1 = [] -> R (PV.sl n_0
  false s_0)) /\ ∀ (j : Nat) (k v : PV), r_1[j]? = some (k, v) -> ∃ n1, k = Z6 n1 /\ ∃ b, v = Zb b /\ ∃ n2, Z6 n1 = Z6 n2 /\ ∃ b1, Zb b = Zb b1 /\ (aU [[Z6 n2]] 1 /\ (s_0.length + 1) * 8 <= 140737488355328) /\
  aG (zby (n_0 && false) (s_0 ++ [[Z6 n2]]) (r_1.eraseIdx j) (some (Z6 n1, Zb b))) /\ J3 (n_0 && false) (s_0 ++ [[Z6 n2]]) (r_1.eraseIdx j) (some (Z6 n1, Zb b)) /\ μ3 (n_0 && false) (s_0 ++ [[Z6 n2]]) (r_1.eraseIdx j) (some (Z6 n1, Zb
  b)) < μ3 n_0 s_0 r_1 q_1
theorem zt5 {R : PV -> Prop} (h : zjj n f es J μ J2 μ2 J3 μ3 R) : PCall qa 57 [.sl n f es] R :=
 PCall.wz Tryz.func57 aR [0, 2, 3, 5, 7, 8, 9, 12, 13, 14, 15, 18, 19, 20, 21, 34, 36] (iM [(3, (bN jP (zbw n f es) J μ (fun e h => (gI e 14, oM h 0)) [] [3, 12, 13, 14] [])), (6, (iA cz7 (zbx n f es) J2 μ2 (fun e h => (gI e 14, gN e 18, gF e 18, gS e 18, gI e 19, gI e 20, oM h 0)) [] [3, 12, 13, 14, 18, 19, 20] [])), (13, (bN jQ zby J3 μ3 (fun e h => (oN h 0, oS h 0, oR h 1, oQ h 1)) [(8, 3, 1)] [8, 34] []))]) h
end
def zbz (at_ x1 : Int) (n11_0 f11_0 : Bool) (s11_0 : LL) (n11_1 f11_1 : Bool) (s11_1 : LL) (n11_2 f11_2 : Bool) (s11_2 : LL) (n11_3 f11_3 : Bool) (s11_3 : LL) (x12 : Int) : Env × Hp := ([(0, Y6 at_), (1, Y6 x1), (11, .pv (.agg [.sl n11_0 f11_0 s11_0, .sl n11_1 f11_1 s11_1, .sl n11_2 f11_2 s11_2, .sl n11_3 f11_3 s11_3])), (12, Y6 x12)], [])
def zb0 (at_ x1 : Int) (n11_0 f11_0 : Bool) (s11_0 : LL) (n11_1 f11_1 : Bool) (s11_1 : LL) (n11_2 f11_2 : Bool) (s11_2 : LL) (n11_3 f11_3 : Bool) (s11_3 : LL) (x12 : Int) (n15 f15 : Bool) (s15 : LL) (x16 x17 : Int) : Env × Hp := ([(0, Y6 at_), (1, Y6 x1), (11, .pv (.agg [.sl n11_0 f11_0 s11_0, .sl n11_1 f11_1 s11_1, .sl n11_2 f11_2 s11_2, .sl n11_3 f11_3 s11_3])), (12, Y6 x12), (15, .pv (.sl n15 f15 s15)), (16, Y6 x16), (17, Y6 x17)], [])
section
variable (at_ last : Int) (n0 f0 n1 f1 n2 f2 n3 f3 : Bool) (e0 e1 e2 e3 : LL) (J : Int -> Bool -> Bool -> LL -> Bool -> Bool -> LL -> Bool -> Bool -> LL -> Bool -> Bool -> LL -> Int -> Prop) (μ : Int -> Bool -> Bool -> LL -> Bool -> Bool -> LL -> Bool -> Bool -> LL -> Bool -> Bool -> LL -> Int -> Nat) (J2 : Int -> Bool -> Bool -> LL -> Bool -> Bool -> LL -> Bool -> Bool -> LL -> Bool -> Bool -> LL -> Int -> Bool -> Bool -> LL -> Int -> Int -> Int -> Bool -> Bool -> LL -> Bool -> Bool -> LL -> Bool -> Bool -> LL -> Bool -> Bool -> LL -> Int -> Bool -> Bool -> LL -> Int -> Int -> Prop) (μ2 : Int -> Bool -> Bool -> LL -> Bool -> Bool -> LL -> Bool -> Bool -> LL -> Bool -> Bool -> LL -> Int -> Bool -> Bool -> LL -> Int -> Int -> Nat)
def zjk (R : PV -> Prop) : Prop :=
 ∃ n f es, some (PV.sl n0 f0 e0) = some (PV.sl n f es) /\ ∃ n4 f4 es1, some (PV.sl n1 f1 e1) = some (PV.sl n4 f4 es1) /\ ∃ n5 f5 es2, some (PV.sl n2
  f2 e2) = some (PV.sl n5 f5 es2) /\ ∃ n6 f6 es3, some (PV.sl n3 f3 e3) = some (PV.sl n6 f6 es3) /\ (aG (zbz at_ last n f es n4 f4 es1 n5 f5 es2 n6 f6 es3 (0 : Int)) /\ J last n f es n4 f4 es1 n5 f5 es2 n6
  f6 es3 (0 : Int)) /\ ∀ (x1 : Int) (n11_0 f11_0 : Bool) (s11_0 : LL) (n11_1 f11_1 : Bool) (s11_1 : LL) (n11_2 f11_2 : Bool) (s11_2 : LL) (n11_3 f11_3 : Bool) (s11_3 : LL) (x12 : Int), J x1 n11_0 f11_0 s11_0 n11_1 f11_1 s11_1 n11_2 f11_2
  s11_2 n11_3 f11_3 s11_3 x12 -> if decide (x12 < 4) = true then ((0 : Int) <= x12 /\ x12 < (↑4 : Int) /\ x12.toNat * 1 + 1 <= 4) /\ ∃ n7 f7 es4, [PV.sl n11_0 f11_0 s11_0, PV.sl n11_1 f11_1 s11_1, PV.sl n11_2 f11_2
  s11_2, PV.sl n11_3 f11_3 s11_3].getD x12.toNat PV.unit = PV.sl n7 f7 es4 /\ (aG (zb0 at_ x1 n11_0 f11_0 s11_0 n11_1 f11_1 s11_1 n11_2 f11_2 s11_2 n11_3 f11_3 s11_3 x12 n7 f7 es4 (↑es4.length : Int) (0 : Int)) /\ J2 x1 n11_0 f11_0
  s11_0 n11_1 f11_1 s11_1 n11_2 f11_2 s11_2 n11_3 f11_3 s11_3 x12 n7 f7 es4 (↑es4.length : Int) (0 : Int) x1 n11_0 f11_0 s11_0 n11_1 f11_1 s11_1 n11_2 f11_2 s11_2 n11_3 f11_3 s11_3 x12 n7 f7 es4 (↑es4.length : Int) (0 : Int)) /\ ∀ (x11 :
  Int) (n11_01 f11_01 : Bool) (s11_01 : LL) (n11_11 f11_11 : Bool) (s11_11 : LL) (n11_21 f11_21 : Bool) (s11_21 : LL) (n11_31 f11_31 : Bool) (s11_31 : LL) (x121 : Int) (n15 f15 : Bool) (s15 : LL) (x16 x17 : Int), J2 x1 n11_0 f11_0 s11_0
  n11_1 f11_1 s11_1 n11_2 f11_2 s11_2 n11_3 f11_3 s11_3 x12 n7 f7 es4 (↑es4.length : Int) (0 : Int) x11 n11_01 f11_01 s11_01 n11_11 f11_11 s11_11 n11_21 f11_21 s11_21 n11_31 f11_31 s11_31 x121 n15 f15 s15 x16 x17 ->
 let K5 := fun (y0_ : Int) (y1_ y2_ : Bool) (y3_ : LL) (y4_ y5_ : Bool) (y6_ : LL) (y7_ y8_ : Bool) (y9_ : LL) (y10_ y11_ : Bool) (y12_ : LL) (y13_ : Int) (y14_ y15_ : Bool) (y16_ : LL) (y17_ :
  Int) (y18_ : Int) => aG (zb0 at_ y0_ y1_ y2_ y3_ y4_ y5_ y6_ y7_ y8_ y9_ y10_ y11_ y12_ y13_ y14_ y15_ y16_ y17_ y18_) /\ J2 x1 n11_0 f11_0 s11_0 n11_1 f11_1 s11_1 n11_2 f11_2 s11_2 n11_3 f11_3 s11_3 x12 n7 f7 es4 (↑es4.length : Int)
  (0 : Int) y0_ y1_ y2_ y3_ y4_ y5_ y6_ y7_ y8_ y9_ y10_ y11_ y12_ y13_ y14_ y15_ y16_ y17_ y18_ /\ μ2 y0_ y1_ y2_ y3_ y4_ y5_ y6_ y7_ y8_ y9_ y10_ y11_ y12_ y13_ y14_ y15_ y16_ y17_ y18_ < μ2 x11 n11_01 f11_01 s11_01 n11_11 f11_11 s11_11
  n11_21 f11_21 s11_21 n11_31 f11_31 s11_31 x121 n15 f15 s15 x16 x17; if decide (x17 < x16) = true then aD s15 x17 4 /\ ∃ n8, (s15.getD x17.toNat []).head? = some (Z6 n8) /\ ∃ n9, (s15.getD x17.toNat []).tail.head? = some
  (Z6 n9) /\ ∃ n10, (s15.getD x17.toNat []).tail.tail.head? = some (Z6 n10) /\ ∃ n11, (s15.getD x17.toNat []).tail.tail.tail.head? = some (Z6 n11) /\
 let V1 := K5 x11 n11_01 f11_01 s11_01 n11_11 f11_11 s11_11 n11_21 f11_21 s11_21 n11_31 f11_31 s11_31 x121 n15 f15 s15 x16 (i64.wrap (x17 + 1)); if decide (n8 > at_) = true then if decide (n8 <= x11) = true then K5 (i64.wrap
  (n8 - 1)) n11_01 f11_01 s11_01 n11_11 f11_11 s11_11 n11_21 f11_21 s11_21 n11_31 f11_31 s11_31 x121 n15 f15 s15 x16 (i64.wrap (x17 + 1)) else V1 else V1 else aG (zbz at_ x11 n11_01 f11_01 s11_01 n11_11 f11_11 s11_11 n11_21
  f11_21 s11_21 n11_31 f11_31 s11_31 (i64.wrap (x121 + 1))) /\ J x11 n11_01 f11_01 s11_01 n11_11 f11_11 s11_11 n11_21 f11_21 s11_21 n11_31 f11_31 s11_31 (i64.wrap (x121 + 1)) /\ μ x11 n11_01 f11_01 s11_01 n11_11 f11_11 s11_11
  n11_21 f11_21 s11_21 n11_31 f11_31 s11_31 (i64.wrap (x121 + 1)) < μ x1 n11_0 f11_0 s11_0 n11_1 f11_1 s11_1 n11_2 f11_2 s11_2 n11_3 f11_3 s11_3 x12 else R (Z6 x1)
theorem zt6 {R : PV -> Prop} (h : zjk at_ last n0 f0 n1 f1 n2 f2 n3 f3 e0 e1 e2 e3 J μ J2 μ2 R) : PCall qa 59 [.int .i64 at_, .int .i64 last, .agg [.sl n0 f0 e0, .sl n1 f1 e1, .sl n2 f2 e2, .sl n3 f3 e3]] R :=
 PCall.wz Tryz.func59 aR [0, 1, 2, 5, 6, 8, 10, 11, 12, 13, 15, 16, 17, 18, 30] (iM [(2, (bN (fQ cz6) (zbz at_) J μ (fun e h => (gI e 1, jM e 11 0, jN e 11 0, jO e 11 0, jM e 11 1, jN e 11 1, jO e 11 1, jM e 11 2, jN e 11 2, jO e 11 2, jM e 11 3, jN e 11 3, jO e 11 3, gI e 12)) [] [0, 1, 11, 12] [])), (5, (iA (fQ (fQ eG)) (zb0 at_) J2 μ2 (fun e h => (gI e 1, jM e 11 0, jN e 11 0, jO e 11 0, jM e 11 1, jN e 11 1, jO e 11 1, jM e 11 2, jN e 11 2, jO e 11 2, jM e 11 3, jN e 11 3, jO e 11 3, gI e 12, gN e 15, gF e 15, gS e 15, gI e 16, gI e 17)) [] [0, 1, 11, 12, 15, 16, 17] []))]) h
end
def zb1 (n f : Bool) (es : LL) (x17_0 x17_1 x17_2 x17_3 x18 : Int) (c_0 : List PV) : Env × Hp := ([(0, LV.pv (PV.sl n f es)), (4, LV.box 0 0), (17, .pv (.agg [.int i64 x17_0, .int i64 x17_1, .int i64 x17_2, .int i64 x17_3])), (18, Y6 x18)], [.arr c_0])
def zb2  (p4 : List PV) (n29 f29 : Bool) (s29 : LL) (x30 x31 : Int) (n_0 : Bool) (s_0 : LL) : Env × Hp := ([(4, .pv (.ptr p4)), (7, LV.own 0), (29, .pv (.sl n29 f29 s29)), (30, Y6 x30), (31, Y6 x31)], [.sl (114, 6) true n_0 s_0])
def wS  (p4 : List PV) (x9 x11 : Int) (n29 f29 : Bool) (s29 : LL) (x30 x31 : Int) (n35_0 f35_0 : Bool) (s35_0 : LL) (n35_1 f35_1 : Bool) (s35_1 : LL) (n35_2 f35_2 : Bool) (s35_2 : LL) (n35_3 f35_3 : Bool) (s35_3 : LL) (x36 : Int) (n_0 : Bool) (s_0 : LL) (c_1 : List PV) : Env × Hp := ([(4, .pv (.ptr p4)), (7, LV.own 0), (9, Y6 x9), (10, LV.box 1 0), (11, Y6 x11), (29, .pv (.sl n29 f29 s29)), (30, Y6 x30), (31, Y6 x31), (35, .pv (.agg [.sl n35_0 f35_0 s35_0, .sl n35_1 f35_1 s35_1, .sl n35_2 f35_2 s35_2, .sl n35_3 f35_3 s35_3])), (36, Y6 x36)], [.sl (114, 6) true n_0 s_0, .arr c_1])
section
variable (n f : Bool) (es : LL) (J : Int -> Int -> Int -> Int -> Int -> (List PV) -> Prop) (μ : Int -> Int -> Int -> Int -> Int -> (List PV) -> Nat) (J2 : (List PV) -> Bool -> Bool -> LL -> Int -> Int -> Bool -> LL -> Prop) (μ2 : (List PV) -> Bool -> Bool -> LL -> Int -> Int -> Bool -> LL -> Nat) (J3 : (List PV) -> Int -> Int -> Bool -> Bool -> LL -> Int -> Int -> Bool -> Bool -> LL -> Bool -> Bool -> LL -> Bool -> Bool -> LL -> Bool -> Bool -> LL -> Int -> Bool -> LL -> (List PV) -> (List PV) -> Int -> Int -> Bool -> Bool -> LL -> Int -> Int -> Bool -> Bool -> LL -> Bool -> Bool -> LL -> Bool -> Bool -> LL -> Bool -> Bool -> LL -> Int -> Bool -> LL -> (List PV) -> Prop) (μ3 : (List PV) -> Int -> Int -> Bool -> Bool -> LL -> Int -> Int -> Bool -> Bool -> LL -> Bool -> Bool -> LL -> Bool -> Bool -> LL -> Bool -> Bool -> LL -> Int -> Bool -> LL -> (List PV) -> Nat)
def zjl (R : PV -> Prop) : Prop :=
 (4 = 4 /\ 4 <= 4) /\ ∃ n1, some (Z6 5) = some (Z6 n1) /\ ∃ n2, some (Z6 7) = some (Z6 n2) /\ ∃ n3, some (Z6 8) = some (Z6 n3) /\ ∃ n4, some (Z6 3) = some (Z6 n4) /\ (aG (zb1 n f es n1 n2 n3 n4 (0 : Int) [PV.sl
  true true [], PV.sl true true [], PV.sl true true [], PV.sl true true []]) /\ J n1 n2 n3 n4 (0 : Int) [PV.sl true true [], PV.sl true true [], PV.sl true true [], PV.sl true true []]) /\ ∀ (x17_0 x17_1 x17_2 x17_3 x18 : Int) (c_0 : List
  PV), J x17_0 x17_1 x17_2 x17_3 x18 c_0 -> if decide (x18 < 4) = true then ((0 : Int) <= x18 /\ x18 < (↑4 : Int) /\ x18.toNat * 1 + 1 <= 4) /\ ∃ n5, [Z6 x17_0, Z6 x17_1, Z6 x17_2, Z6 x17_3].getD x18.toNat PV.unit = Z6 n5 /\ PCall
  qa 41 [PV.sl n f es, Z6 n5] fun v => ∃ n6 f1 es1, v = PV.sl n6 f1 es1 /\ ((0 : Int) <= x18 /\ x18 < (↑4 : Int)) /\ (1 = 1 /\ 0 + x18.toNat * 1 + 1 <= c_0.length) /\ aG (zb1 n f es x17_0 x17_1
  x17_2 x17_3 (i64.wrap (x18 + 1)) (aW c_0 (0 + x18.toNat * 1) [PV.sl n6 f1 es1])) /\ J x17_0 x17_1 x17_2 x17_3 (i64.wrap (x18 + 1)) (aW c_0 (0 + x18.toNat * 1) [PV.sl n6 f1 es1]) /\ μ x17_0 x17_1 x17_2 x17_3
  (i64.wrap (x18 + 1)) (aW c_0 (0 + x18.toNat * (1 : Nat)) [PV.sl n6 f1 es1]) < μ x17_0 x17_1 x17_2 x17_3 x18 c_0 else (dS 4 none none none /\ c_0.length = 4) /\ PCall qa 57 [PV.sl false true [qcb 1 c_0, qcb 1
  (qb 1 c_0), qcb 1 (qb 1 (qb 1 c_0)), qcb 1 (qb 1 (qb 1 (qb 1 c_0)))]] fun v => ∃ n5 f1 es1, v = PV.sl n5 f1 es1 /\ (aG (zb2 (qb 0 c_0)
  n5 f1 es1 (↑es1.length : Int) (0 : Int) true []) /\ J2 (qb 0 c_0) n5 f1 es1 (↑es1.length : Int) (0 : Int) true []) /\ ∀ (p4 : List PV) (n29 f29 : Bool) (s29 : LL) (x30 x31 : Int) (n_0 : Bool) (s_0 : LL), J2 p4 n29 f29 s29 x30 x31
  n_0 s_0 ->
 let K10 := fun (y0_ : List PV) (y1_ y2_ : Bool) (y3_ : LL) (y4_ y5_ : Int) (y6_ : Bool) (y7_ : LL) => aG (zb2 y0_ y1_ y2_ y3_ y4_ y5_ y6_ y7_) /\ J2 y0_ y1_ y2_ y3_ y4_ y5_ y6_ y7_ /\ μ2 y0_ y1_ y2_ y3_ y4_ y5_ y6_ y7_
  < μ2 p4 n29 f29 s29 x30 x31 n_0 s_0; if decide (x31 < x30) = true then aD s29 x31 1 /\ ∃ n6, (s29.getD x31.toNat []).head? = some (Z6 n6) /\ ∃ n7 f2 es2, p4.head? = some (PV.sl n7 f2 es2) /\ ∃ (n8 :
  Bool), ∃ f3 es3, p4.tail.head? = some (PV.sl n8 f3 es3) /\ ∃ n9 f4 es4, p4.tail.tail.head? = some (PV.sl n9 f4 es4) /\ ∃ n10 f5 es5, p4.tail.tail.tail.head? =
  some (PV.sl n10 f5 es5) /\ (aG (wS p4 n6 (1114111 : Int) n29 f29 s29 x30 x31 n7 f2 es2 n8 f3 es3 n9 f4 es4 n10 f5 es5 (0 : Int) n_0 s_0 [Zb false, Zb false, Zb false, Zb false]) /\ J3 p4 n6 (1114111 : Int) n29 f29 s29 x30 x31 n7 f2
  es2 n8 f3 es3 n9 f4 es4 n10 f5 es5 (0 : Int) n_0 s_0 [Zb false, Zb false, Zb false, Zb false] p4 n6 (1114111 : Int) n29 f29 s29 x30 x31 n7 f2 es2 n8 f3 es3 n9 f4 es4 n10 f5 es5 (0 : Int) n_0 s_0 [Zb false, Zb false, Zb false, Zb false])
  /\ ∀ (p41 : List PV) (x9 x11 : Int) (n291 f291 : Bool) (s291 : LL) (x301 x311 : Int) (n35_0 f35_0 : Bool) (s35_0 : LL) (n35_1 f35_1 : Bool) (s35_1 : LL) (n35_2 f35_2 : Bool) (s35_2 : LL) (n35_3 f35_3 : Bool) (s35_3 : LL) (x36 : Int) (n_01
  : Bool) (s_01 : LL) (c_1 : List PV), J3 p4 n6 (1114111 : Int) n29 f29 s29 x30 x31 n7 f2 es2 n8 f3 es3 n9 f4 es4 n10 f5 es5 (0 : Int) n_0 s_0 [Zb false, Zb false, Zb false, Zb false] p41 x9 x11 n291 f291 s291 x301 x311 n35_0 f35_0 s35_0
  n35_1 f35_1 s35_1 n35_2 f35_2 s35_2 n35_3 f35_3 s35_3 x36 n_01 s_01 c_1 ->
 let K15 := fun (y0_ : List PV) (y1_ y2_ : Int) (y3_ y4_ : Bool) (y5_ : LL) (y6_ y7_ : Int) (y8_ y9_ : Bool) (y10_ : LL) (y11_ y12_ : Bool) (y13_ : LL) (y14_ y15_ : Bool) (y16_ : LL) (y17_
  : Bool) (y18_ : Bool) (y19_ : LL) (y20_ : Int) (y21_ : Bool) (y22_ : LL) (y23_ : List PV) => aG (wS y0_ y1_ y2_ y3_ y4_ y5_ y6_ y7_ y8_ y9_ y10_ y11_ y12_ y13_ y14_ y15_ y16_ y17_ y18_ y19_ y20_ y21_ y22_ y23_) /\ J3 p4 n6 (1114111
  : Int) n29 f29 s29 x30 x31 n7 f2 es2 n8 f3 es3 n9 f4 es4 n10 f5 es5 (0 : Int) n_0 s_0 [Zb false, Zb false, Zb false, Zb false] y0_ y1_ y2_ y3_ y4_ y5_ y6_ y7_ y8_ y9_ y10_ y11_ y12_ y13_ y14_ y15_ y16_ y17_ y18_ y19_ y20_ y21_ y22_ y23_
  /\ μ3 y0_ y1_ y2_ y3_ y4_ y5_ y6_ y7_ y8_ y9_ y10_ y11_ y12_ y13_ y14_ y15_ y16_ y17_ y18_ y19_ y20_ y21_ y22_ y23_ < μ3 p41 x9 x11 n291 f291 s291 x301 x311 n35_0 f35_0 s35_0 n35_1 f35_1 s35_1 n35_2 f35_2 s35_2 n35_3 f35_3 s35_3 x36 n_01
  s_01 c_1; if decide (x36 < 4) = true then ((0 : Int) <= x36 /\ x36 < (↑4 : Int) /\ x36.toNat * 1 + 1 <= 4) /\ ∃ n11 f6 es6, [PV.sl n35_0 f35_0 s35_0, PV.sl n35_1 f35_1 s35_1, PV.sl n35_2 f35_2 s35_2, PV.sl n35_3
  f35_3 s35_3].getD x36.toNat PV.unit = PV.sl n11 f6 es6 /\ PCall qa 58 [PV.sl n11 f6 es6, Z3 (i32.wrap x9)] fun v1 => ∃ vs, v1 = PV.tup vs /\ vs.length = 2 /\ ∃ x, vs.head? = some x /\ ∃ (cs : List PV),
  x = PV.agg cs /\ cs.length = 4 /\ ∃ n12, cs.head? = some (Z6 n12) /\ ∃ n13, cs.tail.head? = some (Z6 n13) /\ ∃ n14, cs.tail.tail.head? = some (Z6 n14) /\ ∃ n15, cs.tail.tail.tail.head? = some (Z6 n15) /\ ∃ (x1 :
  PV), vs.tail.head? = some x1 /\ ∃ b, x1 = Zb b /\ if b = true then ((0 : Int) <= x36 /\ x36 < (↑4 : Int)) /\ (1 = 1 /\ 0 + x36.toNat * 1 + 1 <= c_1.length) /\ if b = true then aG (wS p41 x9 (if n13 < x11 then n13 else x11) n291
  f291 s291 x301 x311 n35_0 f35_0 s35_0 n35_1 f35_1 s35_1 n35_2 f35_2 s35_2 n35_3 f35_3 s35_3 (i64.wrap (x36 + 1)) n_01 s_01 (aW c_1 (0 + x36.toNat * (1 : Nat)) [Zb (n14 == 1)])) /\ J3 p4 n6 (1114111 : Int) n29 f29 s29 x30 x31 n7
  f2 es2 n8 f3 es3 n9 f4 es4 n10 f5 es5 (0 : Int) n_0 s_0 [Zb false, Zb false, Zb false, Zb false] p41 x9 (if n13 < x11 then n13 else x11) n291 f291 s291 x301 x311 n35_0 f35_0 s35_0 n35_1 f35_1 s35_1 n35_2 f35_2 s35_2 n35_3 f35_3 s35_3
  (i64.wrap (x36 + 1)) n_01 s_01 (aW c_1 (0 + x36.toNat * (1 : Nat)) [Zb (n14 == 1)]) /\ μ3 p41 x9 (if n13 < x11 then n13 else x11) n291 f291 s291 x301 x311 n35_0 f35_0 s35_0 n35_1 f35_1 s35_1 n35_2 f35_2 s35_2 n35_3 f35_3 s35_3
  (i64.wrap (x36 + 1)) n_01 s_01 (aW c_1 ((0 : Nat) + x36.toNat * 1) [Zb (n14 == 1)]) < μ3 p41 x9 x11 n291 f291 s291 x301 x311 n35_0 f35_0 s35_0 n35_1 f35_1 s35_1 n35_2 f35_2 s35_2 n35_3 f35_3 s35_3 x36 n_01 s_01 c_1 else K15 p41
  x9 x11 n291 f291 s291 x301 x311 n35_0 f35_0 s35_0 n35_1 f35_1 s35_1 n35_2 f35_2 s35_2 n35_3 f35_3 s35_3 (i64.wrap (x36 + 1)) n_01 s_01 (aW c_1 (0 + x36.toNat * 1) [Zb (n14 == 1)]) else ((0 : Int) <= x36 /\ x36 < (↑4 : Int)) /\ (1 =
  1 /\ 0 + x36.toNat * 1 + 1 <= c_1.length) /\ if b = true then K15 p41 x9 (if n13 < x11 then n13 else x11) n291 f291 s291 x301 x311 n35_0 f35_0 s35_0 n35_1 f35_1 s35_1 n35_2 f35_2 s35_2 n35_3 f35_3 s35_3 (i64.wrap (x36 + 1)) n_01
  s_01 (aW c_1 (0 + x36.toNat * 1) [Zb false]) else K15 p41 x9 x11 n291 f291 s291 x301 x311 n35_0 f35_0 s35_0 n35_1 f35_1 s35_1 n35_2 f35_2 s35_2 n35_3 f35_3 s35_3 (i64.wrap (x36 + 1)) n_01 s_01 (aW c_1 (0 + x36.toNat * 1) [Zb
  false]) else ∃ b, (qb 0 c_1).head? = some (Zb b) /\ ∃ b1, (qb 0 c_1).tail.head? = some (Zb b1) /\ ∃ b2, (qb 0 c_1).tail.tail.head? = some (Zb b2) /\ ∃ b3, (qb 0
  c_1).tail.tail.tail.head? = some (Zb b3) /\ if (bif false then b == false && (b1 == false && (b2 == false && (b3 == false && true))) else !(b == false && (b1 == false && (b2 == false && (b3 == false && true))))) = true then ∃ (n11 :
  Bool), ∃ f6 es6, p41.head? = some (PV.sl n11 f6 es6) /\ ∃ n12 f7 es7, p41.tail.head? = some (PV.sl n12 f7 es7) /\ ∃ n13 f8 es8, p41.tail.tail.head? = some
  (PV.sl n13 f8 es8) /\ ∃ n14 f9 es9, p41.tail.tail.tail.head? = some (PV.sl n14 f9 es9) /\ ((0 : Int) <= 0 /\ (0 : Int) < (↑4 : Int)) /\ ∃ b4, (qb 0 c_1).head? = some (Zb b4) /\ ((0 : Int) <= 1 /\ (1
  : Int) < (↑4 : Int)) /\ ∃ b5, (qb 1 c_1).head? = some (Zb b5) /\ ((0 : Int) <= 2 /\ (2 : Int) < (↑4 : Int)) /\ ∃ b6, (qb 2 c_1).head? = some (Zb b6) /\ ((0 : Int) <= 3 /\ (3 : Int) < (↑4 : Int)) /\ ∃ (b7 : Bool),
  (qb 3 c_1).head? = some (Zb b7) /\ PCall qa 59 [Z6 x9, Z6 x11, PV.agg [PV.sl n11 f6 es6, PV.sl n12 f7 es7, PV.sl n13 f8 es8, PV.sl n14 f9 es9]] fun v1 => ∃ n15, v1 = Z6 n15 /\ (aU [[Z6 x9, Z6 n15, Zb b4, Zb
  b5, Zb b6, Zb b7]] 6 /\ (s_01.length + 1) * 24 <= 140737488355328) /\ K10 p41 n291 f291 s291 x301 (i64.wrap (x311 + 1)) (n_01 && false) (s_01 ++ [[Z6 x9, Z6 n15, Zb b4, Zb b5, Zb b6, Zb b7]]) else K10 p41 n291 f291 s291 x301
  (i64.wrap (x311 + 1)) n_01 s_01 else PCall qa 60 [Z6 1114112, PV.agg [Zb false, Zb false, Zb false, Zb false], PV.sl n_0 false s_0] fun v1 => R v1
theorem zt7 {R : PV -> Prop} (h : zjl n f es J μ J2 μ2 J3 μ3 R) : PCall qa 40 [.sl n f es] R :=
 PCall.wz Tryz.func40 aR [0, 2, 3, 4, 5, 6, 7, 9, 10, 11, 12, 13, 14, 15, 17, 18, 19, 29, 30, 31, 32, 35, 36, 37, 55, 63] (iM [(4, (bN cz6 (zb1 n f es) J μ (fun e h => (gC e 17 0, gC e 17 1, gC e 17 2, gC e 17 3, gI e 18, oA h 0)) [] [0, 4, 17, 18] [])), (10, (bN cz8 zb2 J2 μ2 (fun e h => (gR e 4, gN e 29, gF e 29, gS e 29, gI e 30, gI e 31, oN h 0, oS h 0)) [(7, 114, 6)] [4, 7, 29, 30, 31] [])), (15, (iA (fQ (fQ cz8)) wS J3 μ3 (fun e h => (gR e 4, gI e 9, gI e 11, gN e 29, gF e 29, gS e 29, gI e 30, gI e 31, jM e 35 0, jN e 35 0, jO e 35 0, jM e 35 1, jN e 35 1, jO e 35 1, jM e 35 2, jN e 35 2, jO e 35 2, jM e 35 3, jN e 35 3, jO e 35 3, gI e 36, oN h 0, oS h 0, oA h 1)) [] [4, 7, 9, 10, 11, 29, 30, 31, 35, 36] []))]) h
end
section
variable (tc tg tj tf tp : PV) (M S : List (PV × PV)) (r : Int)
def zjm (R : PV -> Prop) : Prop :=
 (∃ ps, some tc = some (PV.ptr ps) /\ PCall qa 94 [PV.ptr ps, Z6 (i64.wrap r)] fun v => ∃ n, v = Z6 n /\ R (Z6 n)) ∨ some tc = some PV.nilp /\ PCall qa 94 [PV.nilp, Z6 (i64.wrap r)] fun v => ∃ n, v = Z6 n /\ R (Z6 n)
theorem zt8 {R : PV -> Prop} (h : zjm tc r R) : PCall qa 71 [.ptr [tc, tg, tj, tf, tp, .mp M, .mp S], .int .i32 r] R :=
 PCall.wz Tryz.func71 aR [0, 1, 4, 6] bE h
end
section
variable (tc tg tj tf tp : PV) (M S : List (PV × PV)) (r : Int)
def zjn (R : PV -> Prop) : Prop :=
 (∃ ps, some tp = some (PV.ptr ps) /\ PCall qa 43 [PV.ptr ps, Z6 (i64.wrap r)] fun v => ∃ cs, v = PV.agg cs /\ cs.length = 2 /\ ∃ n, cs.head? = some (Z3 n) /\ ∃ n1, cs.tail.head? = some (Z3 n1) /\ R (PV.tup [Z3 n, Z3 n1, Zb (bif false then n == 0 && (n1 == 0 && true) else !(n == 0 && (n1 == 0 && true)))])) ∨ some tp = some PV.nilp /\ PCall qa 43 [PV.nilp, Z6 (i64.wrap r)] fun v => ∃ cs, v = PV.agg cs /\ cs.length = 2 /\ ∃ n, cs.head? = some (Z3 n) /\ ∃ n1, cs.tail.head? = some (Z3 n1) /\ R (PV.tup [Z3 n, Z3 n1, Zb (bif false then n == 0 && (n1 == 0 && true) else !(n == 0 && (n1 == 0 && true)))])
theorem zt9 {R : PV -> Prop} (h : zjn tp r R) : PCall qa 69 [.ptr [tc, tg, tj, tf, tp, .mp M, .mp S], .int .i32 r] R :=
 PCall.wz Tryz.func69 aR [0, 1, 4, 5, 6, 7, 9] bE h
end
section
variable (tc tg tj tf tp : PV) (M S : List (PV × PV)) (r : Int)
def zjo (R : PV -> Prop) : Prop :=
 PCall qa 69 [PV.ptr [tc, tg, tj, tf, tp, PV.mp M, PV.mp S], Z3 r] fun v => ∃ vs, v = PV.tup vs /\ vs.length = 3 /\ ∃ x, vs.head? = some x /\ ∃ n, x = Z3 n /\ ∃ x1, vs.tail.head? = some x1 /\ ∃ (n1
  : Int), x1 = Z3 n1 /\ ∃ x2, vs.tail.tail.head? = some x2 /\ ∃ b, x2 = Zb b /\ if b = true then if (n1 == 0) = true then R (Zb true) else
 let V1 := PCall qa 71 [PV.ptr [tc, tg, tj, tf, tp, PV.mp M, PV.mp S], Z3 r] fun v2 => ∃ n2, v2 = Z6 n2 /\ if (n2 != 0) = true then R (Zb true) else PCall qa 71 [PV.ptr [tc, tg, tj, tf, tp, PV.mp M, PV.mp S], Z3
  n] fun v3 => ∃ n3, v3 = Z6 n3 /\ R (Zb (n3 != 0)); (∃ ps, some tf = some (PV.ptr ps) /\ PCall qa 70 [PV.ptr ps, Z6 (i64.wrap r)] fun v1 => ∃ cs, v1 = PV.agg cs /\ cs.length = 4 /\ ∃
  (b1 : Bool), cs.head? = some (Zb b1) /\ ∃ b2, cs.tail.head? = some (Zb b2) /\ ∃ b3, cs.tail.tail.head? = some (Zb b3) /\ ∃ b4, cs.tail.tail.tail.head? = some (Zb b4) /\ if b4 = true then R (Zb true) else V1) ∨ some
  tf = some PV.nilp /\ PCall qa 70 [PV.nilp, Z6 (i64.wrap r)] fun v1 => ∃ cs, v1 = PV.agg cs /\ cs.length = 4 /\ ∃ b1, cs.head? = some (Zb b1) /\ ∃ b2, cs.tail.head? = some (Zb b2) /\ ∃ (b3 :
  Bool), cs.tail.tail.head? = some (Zb b3) /\ ∃ b4, cs.tail.tail.tail.head? = some (Zb b4) /\ if b4 = true then R (Zb true) else V1 else R (Zb false)
theorem zua {R : PV -> Prop} (h : zjo tc tg tj tf tp M S r R) : PCall qa 44 [.ptr [tc, tg, tj, tf, tp, .mp M, .mp S], .int .i32 r] R :=
 PCall.wz Tryz.func44 aR [0, 1, 4, 5, 6, 7] bE h
end
section
variable (tc tg tj tf tp : PV) (M S : List (PV × PV)) (a b : Int)
def zjp (R : PV -> Prop) : Prop :=
 if (b == 0) = true then R (PV.tup [Z3 0, Zb false]) else (∃ (kvs : List (PV × PV)), some (PV.mp M) = some (PV.mp kvs) /\ c9 qa 81 kvs /\ bI qa 81 (PV.agg [Z3 a, Z3 b]) = true /\ (∀ (v : PV), cR (PV.agg [Z3 a, Z3 b]) kvs = some v -> ∃ n, v = Z3 n /\ R (PV.tup [Z3 n, Zb true])) /\ (cR (PV.agg [Z3 a, Z3 b]) kvs = none -> R (PV.tup [Z3 0, Zb false]))) ∨ some (PV.mp M) = some PV.nilm /\ c9 qa 81 [] /\ bI qa 81 (PV.agg [Z3 a, Z3 b]) = true /\ (∀ (v : PV), cR (PV.agg [Z3 a, Z3 b]) [] = some v -> ∃ n, v = Z3 n /\ R (PV.tup [Z3 n, Zb true])) /\ (cR (PV.agg [Z3 a, Z3 b]) [] = none -> R (PV.tup [Z3 0, Zb false]))
theorem zub {R : PV -> Prop} (h : zjp M a b R) : PCall qa 107 [.ptr [tc, tg, tj, tf, tp, .mp M, .mp S], .int .i32 a, .int .i32 b] R :=
 PCall.wz Tryz.func107 aR [0, 1, 2, 6, 7, 8, 9, 15] bE h
end
def zb3  (n5 f5 : Bool) (s5 : LL) (n28 f28 : Bool) (s28 : LL) (x29 x30 : Int) (h0_0 h0_1 h0_2 h0_3 : PV) (n_1 : Bool) (s_1 : LL) (m_2 : List (PV × PV)) (m_3 : List (PV × PV)) : Env × Hp := ([(3, LV.box 0 0), (4, LV.own 1), (5, .pv (.sl n5 f5 s5)), (28, .pv (.sl n28 f28 s28)), (29, Y6 x29), (30, Y6 x30)], [.box [.pv h0_0, .pv h0_1, .pv h0_2, .pv h0_3, LV.pv PV.nilp, LV.mp 2, LV.mp 3], .sl (83, 4) true n_1 s_1, .mp m_2, .mp m_3])
def zb4  (n56 f56 : Bool) (s56 : LL) (x57 x58 : Int) (h0_0 h0_1 h0_2 h0_3 h0_4 : PV) (m_1 : List (PV × PV)) (m_2 : List (PV × PV)) : Env × Hp := ([(3, LV.box 0 0), (56, .pv (.sl n56 f56 s56)), (57, Y6 x57), (58, Y6 x58)], [.box [.pv h0_0, .pv h0_1, .pv h0_2, .pv h0_3, .pv h0_4, LV.mp 1, LV.mp 2], .mp m_1, .mp m_2])
def zb5  (x10 : Int) (n56 f56 : Bool) (s56 : LL) (x57 x58 : Int) (h0_0 h0_1 h0_2 h0_3 h0_4 : PV) (h1_0 h1_1 h1_2 h1_3 : Int) (m_2 : List (PV × PV)) (m_3 : List (PV × PV)) : Env × Hp := ([(3, LV.box 0 0), (9, LV.box 1 0), (10, .pv (.int i32 x10)), (56, .pv (.sl n56 f56 s56)), (57, Y6 x57), (58, Y6 x58)], [.box [.pv h0_0, .pv h0_1, .pv h0_2, .pv h0_3, .pv h0_4, LV.mp 2, LV.mp 3], .box [Y6 h1_0, Y6 h1_1, Y6 h1_2, Y6 h1_3], .mp m_2, .mp m_3])
section
variable (n f : Bool) (es : LL) (J : Bool -> Bool -> LL -> Bool -> Bool -> LL -> Int -> Int -> PV -> PV -> PV -> PV -> Bool -> LL -> (List (PV × PV)) -> (List (PV × PV)) -> Prop) (μ : Bool -> Bool -> LL -> Bool -> Bool -> LL -> Int -> Int -> PV -> PV -> PV -> PV -> Bool -> LL -> (List (PV × PV)) -> (List (PV × PV)) -> Nat) (J2 : Bool -> Bool -> LL -> Int -> Int -> PV -> PV -> PV -> PV -> PV -> (List (PV × PV)) -> (List (PV × PV)) -> Prop) (μ2 : Bool -> Bool -> LL -> Int -> Int -> PV -> PV -> PV -> PV -> PV -> (List (PV × PV)) -> (List (PV × PV)) -> Nat) (J3 : Int -> Bool -> Bool -> LL -> Int -> Int -> PV -> PV -> PV -> PV -> PV -> Int -> Int -> Int -> Int -> (List (PV × PV)) -> (List (PV × PV)) -> Int -> Bool -> Bool -> LL -> Int -> Int -> PV -> PV -> PV -> PV -> PV -> Int -> Int -> Int -> Int -> (List (PV × PV)) -> (List (PV × PV)) -> Prop) (μ3 : Int -> Bool -> Bool -> LL -> Int -> Int -> PV -> PV -> PV -> PV -> PV -> Int -> Int -> Int -> Int -> (List (PV × PV)) -> (List (PV × PV)) -> Nat)
def zjq (R : PV -> Prop) : Prop :=
 PCall qa 39 [PV.sl n f es, Z6 1] fun v => PCall qa 39 [PV.sl n f es, Z6 4] fun v1 => PCall qa 39 [PV.sl n f es, Z6 6] fun v2 => PCall qa 40 [PV.sl n f es] fun v3 => gD v = true /\ gD
  v1 = true /\ gD v2 = true /\ gD v3 = true /\ PCall qa 41 [PV.sl n f es, Z6 2] fun v4 => ∃ n1 f1 es1, v4 = PV.sl n1 f1 es1 /\ (aG (zb3 n1 f1 es1 n1 f1 es1 (↑es1.length : Int) (0 : Int) v
  v1 v2 v3 true [] [] []) /\ J n1 f1 es1 n1 f1 es1 (↑es1.length : Int) (0 : Int) v v1 v2 v3 true [] [] []) /\ ∀ (n5 f5 : Bool) (s5 : LL) (n28 f28 : Bool) (s28 : LL) (x29 x30 : Int) (h0_0 h0_1 h0_2 h0_3 : PV) (n_1 : Bool) (s_1 : LL) (m_2 m_3
  : List (PV × PV)), J n5 f5 s5 n28 f28 s28 x29 x30 h0_0 h0_1 h0_2 h0_3 n_1 s_1 m_2 m_3 -> if decide (x30 < x29) = true then aD s28 x30 4 /\ ∃ n2, (s28.getD x30.toNat []).head? = some (Z6 n2) /\ ∃ n3, (s28.getD x30.toNat
  []).tail.head? = some (Z6 n3) /\ ∃ n4, (s28.getD x30.toNat []).tail.tail.head? = some (Z6 n4) /\ ∃ n6, (s28.getD x30.toNat []).tail.tail.tail.head? = some (Z6 n6) /\ (aU [[Z6 n2, Z6 n3, Z3 (i32.wrap n4), Z3
  (i32.wrap n6)]] 4 /\ (s_1.length + 1) * 24 <= 140737488355328) /\ aG (zb3 n5 f5 s5 n28 f28 s28 x29 (i64.wrap (x30 + 1)) h0_0 h0_1 h0_2 h0_3 (n_1 && false) (s_1 ++ [[Z6 n2, Z6 n3, Z3 (i32.wrap n4), Z3
  (i32.wrap n6)]]) m_2 m_3) /\ J n5 f5 s5 n28 f28 s28 x29 (i64.wrap (x30 + 1)) h0_0 h0_1 h0_2 h0_3 (n_1 && false) (s_1 ++ [[Z6 n2, Z6 n3, Z3 (i32.wrap n4), Z3 (i32.wrap n6)]]) m_2 m_3 /\ μ n5 f5 s5 n28 f28 s28
  x29 (i64.wrap (x30 + 1)) h0_0 h0_1 h0_2 h0_3 (n_1 && false) (s_1 ++ [[Z6 n2, Z6 n3, Z3 (i32.wrap n4), Z3 (i32.wrap n6)]]) m_2 m_3 < μ n5 f5 s5 n28 f28 s28 x29 x30 h0_0 h0_1 h0_2 h0_3 n_1 s_1 m_2 m_3 else PCall
  qa 42 [Z6 1114112, PV.agg [Z3 0, Z3 0], PV.sl n_1 false s_1] fun v5 => gD v5 = true /\ (aG (zb4 n5 f5 s5 (↑s5.length : Int) (0 : Int) h0_0 h0_1 h0_2 h0_3 v5 m_2 m_3) /\ J2 n5 f5 s5 (↑s5.length : Int) (0 : Int) h0_0
  h0_1 h0_2 h0_3 v5 m_2 m_3) /\ ∀ (n56 f56 : Bool) (s56 : LL) (x57 x58 : Int) (h0_01 h0_11 h0_21 h0_31 h0_4 : PV) (m_1 m_21 : List (PV × PV)), J2 n56 f56 s56 x57 x58 h0_01 h0_11 h0_21 h0_31 h0_4 m_1 m_21 -> if decide (x58 < x57) = true then
  aD s56 x58 4 /\ ∃ n2, (s56.getD x58.toNat []).head? = some (Z6 n2) /\ ∃ n3, (s56.getD x58.toNat []).tail.head? = some (Z6 n3) /\ ∃ n4, (s56.getD x58.toNat []).tail.tail.head? = some (Z6 n4) /\ ∃ (n6 : Int),
  (s56.getD x58.toNat []).tail.tail.tail.head? = some (Z6 n6) /\ (aG (zb5 (i32.wrap n2) n56 f56 s56 x57 x58 h0_01 h0_11 h0_21 h0_31 h0_4 n2 n3 n4 n6 m_1 m_21) /\ J3 (i32.wrap n2) n56 f56 s56 x57 x58 h0_01 h0_11 h0_21
  h0_31 h0_4 n2 n3 n4 n6 m_1 m_21 (i32.wrap n2) n56 f56 s56 x57 x58 h0_01 h0_11 h0_21 h0_31 h0_4 n2 n3 n4 n6 m_1 m_21) /\ ∀ (x10 : Int) (n561 f561 : Bool) (s561 : LL) (x571 x581 : Int) (h0_02 h0_12 h0_22 h0_32 h0_41 : PV) (h1_0 h1_1
  h1_2 h1_3 : Int) (m_22 m_31 : List (PV × PV)), J3 (i32.wrap n2) n56 f56 s56 x57 x58 h0_01 h0_11 h0_21 h0_31 h0_4 n2 n3 n4 n6 m_1 m_21 x10 n561 f561 s561 x571 x581 h0_02 h0_12 h0_22 h0_32 h0_41 h1_0 h1_1 h1_2 h1_3 m_22 m_31 ->
 let K14 := fun (y0_ : Int) (y1_ y2_ : Bool) (y3_ : LL) (y4_ y5_ : Int) (y6_ y7_ y8_ y9_ y10_ : PV) (y11_ y12_ y13_ y14_ : Int) (y15_ : List (PV × PV)) (y16_ : List (PV ×
  PV)) => aG (zb5 y0_ y1_ y2_ y3_ y4_ y5_ y6_ y7_ y8_ y9_ y10_ y11_ y12_ y13_ y14_ y15_ y16_) /\ J3 (i32.wrap n2) n56 f56 s56 x57 x58 h0_01 h0_11 h0_21 h0_31 h0_4 n2 n3 n4 n6 m_1 m_21 y0_ y1_ y2_ y3_ y4_ y5_ y6_ y7_ y8_ y9_
  y10_ y11_ y12_ y13_ y14_ y15_ y16_ /\ μ3 y0_ y1_ y2_ y3_ y4_ y5_ y6_ y7_ y8_ y9_ y10_ y11_ y12_ y13_ y14_ y15_ y16_ < μ3 x10 n561 f561 s561 x571 x581 h0_02 h0_12 h0_22 h0_32 h0_41 h1_0 h1_1 h1_2 h1_3 m_22 m_31; if decide (i64.wrap
  x10 <= h1_1) = true then PCall qa 43 [h0_41, Z6 (i64.wrap x10)] fun v6 => ∃ cs, v6 = PV.agg cs /\ cs.length = 2 /\ ∃ n7, cs.head? = some (Z3 n7) /\ ∃ n8, cs.tail.head? = some (Z3 n8) /\ c9
  qa 81 m_22 /\ bI qa 81 (PV.agg [Z3 n7, Z3 n8]) = true /\
 let V1 := K14 (i32.wrap (x10 + 1)) n561 f561 s561 x571 x581 h0_02 h0_12 h0_22 h0_32 h0_41 h1_0 h1_1 h1_2 h1_3 m_22 m_31; (∀ (v7 : PV), cR (PV.agg [Z3 n7, Z3 n8]) m_22 = some v7 -> ∃ n9, v7 = Z3 n9 /\ V1) /\ (cR (PV.agg
  [Z3 n7, Z3 n8]) m_22 = none -> PCall qa 44 [PV.ptr [h0_02, h0_12, h0_22, h0_32, h0_41, PV.mp m_22, PV.mp m_31], Z3 x10] fun v7 => ∃ b, v7 = Zb b /\ true = true /\ if (!b) = true then
 let V2 := ((0 : Int) <= (↑(fG (PV.agg [Z3 n7, Z3 n8]) m_22) : Int) /\ (↑(fG (PV.agg [Z3 n7, Z3 n8]) m_22) : Int).toNat < (bV (PV.agg [Z3 n7, Z3 n8]) (gH (PV.agg [Z3 n7, Z3 n8]) (Z3 0) m_22) m_22).length) /\ l6 .i32 m_31 /\
  ((0 : Int) <= (↑(fG (Z3 n8) m_31) : Int) /\ (↑(fG (Z3 n8) m_31) : Int).toNat < (bV (Z3 n8) (gH (Z3 n8) (Zb false) m_31) m_31).length) /\ K14 (i32.wrap (x10 + 1)) n561 f561 s561 x571 x581 h0_02 h0_12 h0_22 h0_32 h0_41
  h1_0 h1_1 h1_2 h1_3 (kR (↑(fG (PV.agg [Z3 n7, Z3 n8]) m_22) : Int).toNat (Z3 x10) (bV (PV.agg [Z3 n7, Z3 n8]) (gH (PV.agg [Z3 n7, Z3 n8]) (Z3 0) m_22) m_22)) (kR (↑(fG (Z3 n8) m_31) : Int).toNat (Zb true) (bV
  (Z3 n8) (gH (Z3 n8) (Zb false) m_31) m_31)); (c9 qa 81 m_22 /\ bI qa 81 (PV.agg [Z3 n7, Z3 n8]) = true /\ V2) /\ c9 qa 81 m_22 /\ bI qa 81 (PV.agg [Z3 n7, Z3 n8]) = true /\ V2 /\ V2 else V1) else
  aG (zb4 n561 f561 s561 x571 (i64.wrap (x581 + 1)) h0_02 h0_12 h0_22 h0_32 h0_41 m_22 m_31) /\ J2 n561 f561 s561 x571 (i64.wrap (x581 + 1)) h0_02 h0_12 h0_22 h0_32 h0_41 m_22 m_31 /\ μ2 n561 f561 s561 x571
  (i64.wrap (x581 + 1)) h0_02 h0_12 h0_22 h0_32 h0_41 m_22 m_31 < μ2 n56 f56 s56 x57 x58 h0_01 h0_11 h0_21 h0_31 h0_4 m_1 m_21 else R (PV.ptr [h0_01, h0_11, h0_21, h0_31, h0_4, PV.mp m_1, PV.mp m_21])
theorem zuc {R : PV -> Prop} (h : zjq n f es J μ J2 μ2 J3 μ3 R) : PCall qa 10 [.sl n f es] R :=
 PCall.wz Tryz.func10 aR [0, 2, 3, 4, 5, 7, 9, 10, 11, 13, 28, 29, 30, 31, 56, 57, 58, 59, 69, 95] (iM [(5, (bN (fQ cz8) zb3 J μ (fun e h => (gN e 5, gF e 5, gS e 5, gN e 28, gF e 28, gS e 28, gI e 29, gI e 30, hP h 0 0, hP h 0 1, hP h 0 2, hP h 0 3, oN h 1, oS h 1, oM h 2, oM h 3)) [(4, 83, 4)] [3, 4, 5, 28, 29, 30] [])), (11, (bN (fQ jQ) zb4 J2 μ2 (fun e h => (gN e 56, gF e 56, gS e 56, gI e 57, gI e 58, hP h 0 0, hP h 0 1, hP h 0 2, hP h 0 3, hP h 0 4, oM h 1, oM h 2)) [] [3, 56, 57, 58] [])), (14, (iA (fQ cz9) zb5 J3 μ3 (fun e h => (gI e 10, gN e 56, gF e 56, gS e 56, gI e 57, gI e 58, hP h 0 0, hP h 0 1, hP h 0 2, hP h 0 3, hP h 0 4, hI h 1 0, hI h 1 1, hI h 1 2, hI h 1 3, oM h 2, oM h 3)) [] [3, 9, 10, 56, 57, 58] []))]) h
end
def zb6 (n1 : Bool) (es : LL) (x10 h1_0 h1_1 h1_2 h1_3 : Int) (n_2 : Bool) (s_2 : LL) : Env × Hp := ([(2, LV.box 1 0), (5, LV.own 2), (8, LV.own 0), (9, LV.pv (PV.int i64 (es.length : Int))), (10, Y6 x10)], [.sl (79, 4) false n1 es, .box [Y6 h1_0, Y6 h1_1, Y6 h1_2, Y6 h1_3], .sl (79, 4) true n_2 s_2])
section
variable (a b c d : Int) (n1 : Bool) (es : LL) (J : Int -> Int -> Int -> Int -> Int -> Bool -> LL -> Prop) (μ : Int -> Int -> Int -> Int -> Int -> Bool -> LL -> Nat)
def zjr (R : LV -> Hp -> Prop) : Prop :=
 (aG (zb6 n1 es (0 : Int) a b c d true []) /\ J (0 : Int) a b c d true []) /\ ∀ (x10 h1_0 h1_1 h1_2 h1_3 : Int) (n_2 : Bool) (s_2 : LL), J x10 h1_0 h1_1 h1_2 h1_3 n_2 s_2 ->
 let K3 := fun (y0_ y1_ y2_ y3_ y4_ : Int) (y5_ : Bool) (y6_ : LL) => aG (zb6 n1 es y0_ y1_ y2_ y3_ y4_ y5_ y6_) /\ J y0_ y1_ y2_ y3_ y4_ y5_ y6_ /\ μ y0_ y1_ y2_ y3_ y4_ y5_ y6_ < μ x10 h1_0 h1_1 h1_2
  h1_3 n_2 s_2; if decide (x10 < (↑es.length : Int)) = true then aD es x10 4 /\ ∃ n, (qb 0 (es.getD x10.toNat [])).head? = some (Z6 n) /\ ∃ n2, (qb 0 (es.getD x10.toNat [])).tail.head? = some (Z6 n2) /\ ∃ (n3
  : Int), (qb 0 (es.getD x10.toNat [])).tail.tail.head? = some (Z6 n3) /\ ∃ n4, (qb 0 (es.getD x10.toNat [])).tail.tail.tail.head? = some (Z6 n4) /\
 let V1 := K3 (i64.wrap (x10 + 1)) h1_0 h1_1 h1_2 h1_3 n_2 s_2; if decide (n2 < h1_0) = true then V1 else if decide (n > h1_1) = true then V1 else if decide (n > h1_0) = true then (aU [[Z6 h1_0, Z6 (i64.wrap (n - 1)), Z6
  h1_2, Z6 h1_3]] 4 /\ (s_2.length + 1) * 32 <= 140737488355328) /\ K3 (i64.wrap (x10 + 1)) (i64.wrap (n2 + 1)) h1_1 h1_2 h1_3 (n_2 && false) (s_2 ++ [[Z6 h1_0, Z6 (i64.wrap (n - 1)), Z6 h1_2, Z6 h1_3]]) else K3
  (i64.wrap (x10 + 1)) (i64.wrap (n2 + 1)) h1_1 h1_2 h1_3 n_2 s_2 else if decide (h1_0 <= h1_1) = true then (aU [[Z6 h1_0, Z6 h1_1, Z6 h1_2, Z6 h1_3]] 4 /\ (s_2.length + 1) * 32 <= 140737488355328) /\ R (LV.own 1) [Ob.sl (79,
  4) false n1 es, Ob.sl ((79 : Nat), 4) true (n_2 && false) (s_2 ++ [[Z6 h1_0, Z6 h1_1, Z6 h1_2, Z6 h1_3]])] else R (LV.own 1) [Ob.sl (79, 4) false n1 es, Ob.sl (79, 4) true n_2 s_2]
theorem zud {R : LV -> Hp -> Prop} (h : zjr a b c d n1 es J μ R) : ACall qa 63 [.pv (.agg [.int .i64 a, .int .i64 b, .int .i64 c, .int .i64 d]), .own 0] [.sl (79, 4) false n1 es] R :=
 ACall.wz Tryz.func63 aR [0, 1, 2, 4, 5, 7, 8, 9, 10, 11, 25, 30, 53] (dA 3 (bN cz7 (zb6 n1 es) J μ (fun e h => (gI e 10, hI h 1 0, hI h 1 1, hI h 1 2, hI h 1 3, oN h 2, oS h 2)) [(5, 79, 4)] [2, 5, 8, 9, 10] [])) [0, 2] h
end
def zb7 (n f : Bool) (es : LL) (x9 : Int) (n_0 : Bool) (s_0 : LL) : Env × Hp := ([(3, LV.own 0), (7, LV.pv (PV.sl n f es)), (8, LV.pv (PV.int i64 (es.length : Int))), (9, Y6 x9)], [.sl (79, 4) true n_0 s_0])
section
variable (n f : Bool) (es : LL) (J : Int -> Bool -> LL -> Prop) (μ : Int -> Bool -> LL -> Nat)
def zjs (R : PV -> Prop) : Prop :=
 (aG (zb7 n f es (0 : Int) true []) /\ J (0 : Int) true []) /\ ∀ (x9 : Int) (n_0 : Bool) (s_0 : LL), J x9 n_0 s_0 ->
 let K3 := fun (y0_ : Int) (y1_ : Bool) (y2_ : LL) => aG (zb7 n f es y0_ y1_ y2_) /\ J y0_ y1_ y2_ /\ μ y0_ y1_ y2_ < μ x9 n_0 s_0; if decide (x9 < (↑es.length : Int)) = true then aD es x9 4 /\ ∃ n1, (es.getD x9.toNat []).head? = some (Z6 n1) /\ ∃ n2, (es.getD x9.toNat []).tail.head? = some (Z6 n2) /\ ∃ n3, (es.getD x9.toNat []).tail.tail.head? = some (Z6 n3) /\ ∃ n4, (es.getD x9.toNat []).tail.tail.tail.head? = some (Z6 n4) /\
 let V1 := (aU [[Z6 n1, Z6 n2, Z6 n3, Z6 n4]] 4 /\ (s_0.length + 1) * 32 <= 140737488355328) /\ K3 (i64.wrap (x9 + 1)) (n_0 && false) (s_0 ++ [[Z6 n1, Z6 n2, Z6 n3, Z6 n4]]); if decide (i64.wrap ((↑s_0.length : Int) - 1) >= 0) = true then aD s_0 (i64.wrap ((↑s_0.length : Int) - 1)) 4 /\ ∃ n5, (qb 1 (s_0.getD (i64.wrap ((↑s_0.length : Int) - 1)).toNat [])).head? = some (Z6 n5) /\ if (i64.wrap (n5 + 1) == n1) = true then aD s_0 (i64.wrap ((↑s_0.length : Int) - 1)) 4 /\ ∃ n6, (qb 2 (s_0.getD (i64.wrap ((↑s_0.length : Int) - 1)).toNat [])).head? = some (Z6 n6) /\ if (n6 == n3) = true then aD s_0 (i64.wrap ((↑s_0.length : Int) - 1)) 4 /\ ∃ n7, (qb 3 (s_0.getD (i64.wrap ((↑s_0.length : Int) - 1)).toNat [])).head? = some (Z6 n7) /\ if (n7 == n4) = true then aD s_0 (i64.wrap ((↑s_0.length : Int) - 1)) 4 /\ (1 = 1 /\ 2 <= (s_0.getD (i64.wrap ((↑s_0.length : Int) - 1)).toNat []).length) /\ K3 (i64.wrap (x9 + 1)) n_0 (s_0.set (i64.wrap ((↑s_0.length : Int) - 1)).toNat (aW (s_0.getD (i64.wrap ((↑s_0.length : Int) - 1)).toNat []) 1 [Z6 n2])) else V1 else V1 else V1 else V1 else R (PV.sl n_0 false s_0)
theorem zue {R : PV -> Prop} (h : zjs n f es J μ R) : PCall qa 65 [.sl n f es] R :=
 PCall.wz Tryz.func65 aR [0, 2, 3, 5, 6, 7, 8, 9, 10, 48] (dA 3 (bN eG (zb7 n f es) J μ (fun e h => (gI e 9, oN h 0, oS h 0)) [(3, 79, 4)] [3, 7, 8, 9] [])) h
end
section
variable (x : Int)
def zjt (R : PV -> Prop) : Prop :=
 R (Zb (x != x))
theorem zuf {R : PV -> Prop} (h : zjt x R) : PCall qa 91 [.int .i64 x] R :=
 PCall.wz Tryz.func91 aR [0, 2] bE h
end
section
variable (x y : Int)
def zju (R : PV -> Prop) : Prop :=
 PCall qa 91 [Z6 x] fun v => ∃ b, v = Zb b /\ PCall qa 91 [Z6 y] fun v1 => ∃ b1, v1 = Zb b1 /\ if b = true then if b1 = true then R (Z6 0) else R (Z6 (-1 : Int)) else if b1 = true then R (Z6 1) else if decide (x < y) = true then R (Z6 (-1 : Int)) else if decide (x > y) = true then R (Z6 1) else R (Z6 0)
theorem zug {R : PV -> Prop} (h : zju x y R) : PCall qa 62 [.int .i64 x, .int .i64 y] R :=
 PCall.wz Tryz.func62 aR [0, 1, 4, 5, 6, 11, 12, 13, 16, 19] bE h
end
section
variable (a b c d a2 b2 c2 d2 : Int)
def zjv (R : PV -> Prop) : Prop :=
 PCall qa 62 [Z6 a, Z6 a2] fun v => ∃ n, v = Z6 n /\ R (Z6 n)
theorem zuh {R : PV -> Prop} (h : zjv a a2 R) : PCall qa 61 [.agg [.int .i64 a, .int .i64 b, .int .i64 c, .int .i64 d], .agg [.int .i64 a2, .int .i64 b2, .int .i64 c2, .int .i64 d2]] R :=
 PCall.wz Tryz.func61 aR [0, 1, 2, 3, 4] bE h
end
def zb8 (n f : Bool) (es : LL) (k x12 : Int) (n_0 : Bool) (s_0 : LL) : Env × Hp := ([(1, Y6 k), (5, LV.own 0), (6, LV.pv (PV.fn 61 [])), (10, LV.pv (PV.sl n f es)), (11, LV.pv (PV.int i64 (es.length : Int))), (12, Y6 x12)], [.sl (79, 4) true n_0 s_0])
section
variable (n f : Bool) (es : LL) (k : Int) (J : Int -> Bool -> LL -> Prop) (μ : Int -> Bool -> LL -> Nat)
def zjw (R : PV -> Prop) : Prop :=
 (aG (zb8 n f es k (0 : Int) true []) /\ J (0 : Int) true []) /\ ∀ (x12 : Int) (n_0 : Bool) (s_0 : LL), J x12 n_0 s_0 ->
 let K4 := fun (y0_ : Int) (y1_ : Bool) (y2_ : LL) => aG (zb8 n f es k y0_ y1_ y2_) /\ J y0_ y1_ y2_ /\ μ y0_ y1_ y2_ < μ x12 n_0 s_0; if decide (x12 < (↑es.length : Int)) = true then aD es x12 5 /\ ∃ n1, (es.getD x12.toNat []).head? = some (Z6 n1) /\ ∃ n2, (es.getD x12.toNat []).tail.head? = some (Z6 n2) /\ ∃ n3, (es.getD x12.toNat []).tail.tail.head? = some (Z6 n3) /\ ∃ n4, (es.getD x12.toNat []).tail.tail.tail.head? = some (Z6 n4) /\ ∃ n5, (es.getD x12.toNat []).tail.tail.tail.tail.head? = some (Z6 n5) /\ if (n1 != k) = true then K4 (i64.wrap (x12 + 1)) n_0 s_0 else ACall qa 63 [LV.pv (PV.agg [Z6 (if n2 < 0 then (0 : Int) else n2), Z6 (if (1114111 : Int) < n3 then (1114111 : Int) else n3), Z6 n4, Z6 n5]), LV.own 0] [Ob.sl (79, 4) false n_0 s_0] fun (r : LV) (h' : Hp) => ∃ (t : Bool × LL), (r = LV.own 1 /\ h' = [Ob.sl (79, 4) false n_0 s_0, Ob.sl (79, 4) true t.fst t.snd]) /\ (((79, 4) = (79, 4) /\ n_0 = n_0 /\ s_0.length = s_0.length) /\ True) /\ (aU t.snd 4 /\ (s_0.length + t.snd.length) * 32 <= (140737488355328 : Nat)) /\ ACall qa 64 [LV.own 0, LV.pv (PV.fn 61 [])] [Ob.sl (79, 4) false (n_0 && t.snd.isEmpty) (s_0 ++ t.snd)] fun (r1 : LV) (h'1 : Hp) => ∃ (t1 : LL), (r1 = LV.tup [] /\ h'1 = [Ob.sl (79, (4 : Nat)) false (n_0 && t.snd.isEmpty) t1]) /\ (((79, 4) = (79, 4) /\ (n_0 && t.snd.isEmpty) = (n_0 && t.snd.isEmpty) /\ (s_0 ++ t.snd).length = t1.length) /\ True) /\ K4 (i64.wrap (x12 + 1)) (n_0 && t.snd.isEmpty) t1 else PCall qa 65 [PV.sl n_0 false s_0] fun v => ∃ n1 f1 es1, v = PV.sl n1 f1 es1 /\ R (PV.sl n1 f1 es1)
theorem zui {R : PV -> Prop} (h : zjw n f es k J μ R) : PCall qa 41 [.sl n f es, .int .i64 k] R :=
 PCall.wz Tryz.func41 (fun zz_ => match zz_ with | 63 => some ⟨Bool × LL, fun _ hs t => (.own 1, hs ++ [.sl (79, 4) true t.1 t.2]), none⟩ | 64 => some ⟨LL, fun _ hs t => (.tup [], match hs with | [.sl ty _ nl es] => [.sl ty false nl t] | h => h), none⟩ | _ => none) [0, 1, 4, 5, 6, 8, 9, 10, 11, 12, 13, 19] (dA 4 (bN eG (zb8 n f es k) J μ (fun e h => (gI e 12, oN h 0, oS h 0)) [(5, 79, 4)] [1, 5, 6, 10, 11, 12] [])) h
end
def zb9 (n f : Bool) (es : LL) (k r : Int) (x7 : Int) : Env × Hp := ([(0, LV.pv (PV.sl n f es)), (1, Y6 k), (2, Y6 r), (7, Y6 x7)], [])
section
variable (n f : Bool) (es : LL) (k r : Int) (J : Int -> Prop) (μ : Int -> Nat)
def zjx (R : PV -> Prop) : Prop :=
 if (decide (r < 0) || decide (r > 1114111)) = true then R (Z6 (-1 : Int)) else (aG (zb9 n f es k r (0 : Int)) /\ J (0 : Int)) /\ ∀ (x7 : Int), J x7 -> if decide (x7 < (↑es.length : Int)) = true then aD es x7 5 /\ ∃ n1, (qb 0 (es.getD x7.toNat [])).head? = some (Z6 n1) /\
 let V1 := aG (zb9 n f es k r (i64.wrap (x7 + 1))) /\ J (i64.wrap (x7 + 1)) /\ μ (i64.wrap (x7 + 1)) < μ x7; if (n1 == k) = true then aD es x7 5 /\ ∃ n2, (qb 1 (es.getD x7.toNat [])).head? = some (Z6 n2) /\ if decide (n2 <= r) = true then aD es x7 5 /\ ∃ n3, (qb 2 (es.getD x7.toNat [])).head? = some (Z6 n3) /\ if decide (r <= n3) = true then R (Z6 x7) else V1 else V1 else V1 else R (Z6 (-1 : Int))
theorem zuj {R : PV -> Prop} (h : zjx n f es k r J μ R) : PCall qa 130 [.sl n f es, .int .i64 k, .int .i64 r] R :=
 PCall.wz Tryz.func130 aR [0, 1, 2, 6, 7, 13, 17, 44] (dA 4 (bN cz1 (zb9 n f es k r) J μ (fun e h => (((gI e 7), ()))) [] [0, 1, 2, 7] [])) h
end
section
variable (a b c d t : Int)
def zjy (R : PV -> Prop) : Prop :=
 if decide (b < t) = true then R (Z6 (-1 : Int)) else if decide (a > t) = true then R (Z6 1) else R (Z6 0)
theorem zuk {R : PV -> Prop} (h : zjy a b t R) : PCall qa 87 [.agg [.int .i64 a, .int .i64 b, .int .i64 c, .int .i64 d], .int .i64 t] R :=
 PCall.wz Tryz.func87 aR [0, 1, 2, 4, 5, 10] bE h
end
def zca (n f : Bool) (es : LL) (t x9 x10 : Int) : Env × Hp := ([(0, LV.pv (PV.sl n f es)), (1, Y6 t), (2, LV.pv (PV.fn 87 [])), (8, LV.pv (PV.int i64 (es.length : Int))), (9, Y6 x9), (10, Y6 x10)], [])
section
variable (n f : Bool) (es : LL) (t : Int) (J : Int -> Int -> Prop) (μ : Int -> Int -> Nat)
def zjz (R : PV -> Prop) : Prop :=
 (aG (zca n f es t (0 : Int) (↑es.length : Int)) /\ J (0 : Int) (↑es.length : Int)) /\ ∀ (x9 x10 : Int), J x9 x10 ->
 let K3 := fun (y0_ y1_ : Int) => aG (zca n f es t y0_ y1_) /\ J y0_ y1_ /\ μ y0_ y1_ < μ x9 x10; if decide (x9 < x10) = true then aD es (i64.wrap ((IntKind.u64.wrap (i64.wrap (x9 + x10))).fdiv ((2 : Int) ^ 1))) 4 /\ ∃ n1, (es.getD (i64.wrap ((IntKind.u64.wrap (i64.wrap (x9 + x10))).fdiv ((2 : Int) ^ 1))).toNat []).head? = some (Z6 n1) /\ ∃ n2, (es.getD (i64.wrap ((IntKind.u64.wrap (i64.wrap (x9 + x10))).fdiv ((2 : Int) ^ 1))).toNat []).tail.head? = some (Z6 n2) /\ ∃ n3, (es.getD (i64.wrap ((IntKind.u64.wrap (i64.wrap (x9 + x10))).fdiv ((2 : Int) ^ 1))).toNat []).tail.tail.head? = some (Z6 n3) /\ ∃ n4, (es.getD (i64.wrap ((IntKind.u64.wrap (i64.wrap (x9 + x10))).fdiv ((2 : Int) ^ 1))).toNat []).tail.tail.tail.head? = some (Z6 n4) /\ PCall qa 87 [PV.agg [Z6 n1, Z6 n2, Z6 n3, Z6 n4], Z6 t] fun v => ∃ n5, v = Z6 n5 /\ if decide (n5 < 0) = true then K3 (i64.wrap (i64.wrap ((IntKind.u64.wrap (i64.wrap (x9 + x10))).fdiv ((2 : Int) ^ 1)) + 1)) x10 else K3 x9 (i64.wrap ((IntKind.u64.wrap (i64.wrap (x9 + x10))).fdiv ((2 : Int) ^ 1))) else if decide (x9 < (↑es.length : Int)) = true then aD es x9 4 /\ ∃ n1, (es.getD x9.toNat []).head? = some (Z6 n1) /\ ∃ n2, (es.getD x9.toNat []).tail.head? = some (Z6 n2) /\ ∃ n3, (es.getD x9.toNat []).tail.tail.head? = some (Z6 n3) /\ ∃ n4, (es.getD x9.toNat []).tail.tail.tail.head? = some (Z6 n4) /\ PCall qa 87 [PV.agg [Z6 n1, Z6 n2, Z6 n3, Z6 n4], Z6 t] fun v => ∃ n5, v = Z6 n5 /\ R (PV.tup [Z6 x9, Zb (n5 == 0)]) else R (PV.tup [Z6 x9, Zb false])
theorem zul {R : PV -> Prop} (h : zjz n f es t J μ R) : PCall qa 86 [.sl n f es, .int .i64 t, .fn 87 []] R :=
 PCall.wz Tryz.func86 aR [0, 1, 2, 6, 7, 8, 9, 10, 11, 17, 31] (dA 3 (bN jP (zca n f es t) J μ (fun e h => (gI e 9, gI e 10)) [] [0, 1, 2, 8, 9, 10] [])) h
end
section
variable (n f : Bool) (es : LL) (r : Int)
def zj0 (R : PV -> Prop) : Prop :=
 PCall qa 86 [PV.sl n f es, Z6 (i64.wrap r), PV.fn 87 []] fun v => ∃ vs, v = PV.tup vs /\ vs.length = 2 /\ ∃ x, vs.head? = some x /\ ∃ n1, x = Z6 n1 /\ ∃ x1, vs.tail.head? = some x1 /\ ∃ b, x1 = Zb b /\ if (!b) = true then R (PV.tup [PV.agg [Z6 0, Z6 0, Z6 0, Z6 0], Zb false]) else aD es n1 4 /\ ∃ n2, (es.getD n1.toNat []).head? = some (Z6 n2) /\ ∃ n3, (es.getD n1.toNat []).tail.head? = some (Z6 n3) /\ ∃ n4, (es.getD n1.toNat []).tail.tail.head? = some (Z6 n4) /\ ∃ n5, (es.getD n1.toNat []).tail.tail.tail.head? = some (Z6 n5) /\ R (PV.tup [PV.agg [Z6 n2, Z6 n3, Z6 n4, Z6 n5], Zb true])
theorem zum {R : PV -> Prop} (h : zj0 n f es r R) : PCall qa 58 [.sl n f es, .int .i32 r] R :=
 PCall.wz Tryz.func58 aR [0, 1, 4, 5, 6, 7, 16] bE h
end
def zj1  (R : PV -> Prop) : Prop :=
 R (PV.sl false true [[Z6 1, Z6 768, Z6 788, Z6 230, Z6 0], [Z6 1, Z6 789, Z6 789, Z6 232, Z6 0], [Z6 1, Z6 790, Z6 793, Z6 220, Z6 0], [Z6 1, Z6 794, Z6 794, Z6 232, Z6 0], [Z6 1, Z6 795, Z6 795, Z6 216, Z6 0], [Z6 1, Z6 796, Z6 800, Z6 220, Z6 0], [Z6 1, Z6 801, Z6 802, Z6 202, Z6 0], [Z6 1, Z6 803, Z6 806, Z6 220, Z6 0], [Z6 1, Z6 807, Z6 808, Z6 202, Z6 0], [Z6 1, Z6 809, Z6 819, Z6 220, Z6 0], [Z6 1, Z6 820, Z6 824, Z6 1, Z6 0], [Z6 1, Z6 825, Z6 828, Z6 220, Z6 0], [Z6 1, Z6 829, Z6 836, Z6 230, Z6 0], [Z6 1, Z6 837, Z6 837, Z6 240, Z6 0], [Z6 1, Z6 838, Z6 838, Z6 230, Z6 0], [Z6 1, Z6 839, Z6 841, Z6 220, Z6 0], [Z6 1, Z6 842, Z6 844, Z6 230, Z6 0], [Z6 1, Z6 845, Z6 846, Z6 220, Z6 0], [Z6 1, Z6 848, Z6 850, Z6 230, Z6 0], [Z6 1, Z6 851, Z6 854, Z6 220, Z6 0], [Z6 1, Z6 855, Z6 855, Z6 230, Z6 0], [Z6 1, Z6 856, Z6 856, Z6 232, Z6 0], [Z6 1, Z6 857, Z6 858, Z6 220, Z6 0], [Z6 1, Z6 859, Z6 859, Z6 230, Z6 0], [Z6 1, Z6 860, Z6 860, Z6 233, Z6 0], [Z6 1, Z6 861, Z6 862, Z6 234, Z6 0], [Z6 1, Z6 863, Z6 863, Z6 233, Z6 0], [Z6 1, Z6 864, Z6 865, Z6 234, Z6 0], [Z6 1, Z6 866, Z6 866, Z6 233, Z6 0], [Z6 1, Z6 867, Z6 879, Z6 230, Z6 0], [Z6 1, Z6 1155, Z6 1159, Z6 230, Z6 0], [Z6 1, Z6 1456, Z6 1456, Z6 10, Z6 0], [Z6 1, Z6 1457, Z6 1457, Z6 11, Z6 0], [Z6 1, Z6 1458, Z6 1458, Z6 12, Z6 0], [Z6 1, Z6 1459, Z6 1459, Z6 13, Z6 0], [Z6 1, Z6 1460, Z6 1460, Z6 14, Z6 0], [Z6 1, Z6 1461, Z6 1461, Z6 15, Z6 0], [Z6 1, Z6 1462, Z6 1462, Z6 16, Z6 0], [Z6 1, Z6 1463, Z6 1463, Z6 17, Z6 0], [Z6 1, Z6 1464, Z6 1464, Z6 18, Z6 0], [Z6 1, Z6 1465, Z6 1466, Z6 19, Z6 0], [Z6 1, Z6 1467, Z6 1467, Z6 20, Z6 0], [Z6 1, Z6 1468, Z6 1468, Z6 21, Z6 0], [Z6 1, Z6 1469, Z6 1469, Z6 22, Z6 0], [Z6 1, Z6 1471, Z6 1471, Z6 23, Z6 0], [Z6 1, Z6 1473, Z6 1473, Z6 24, Z6 0], [Z6 1, Z6 1474, Z6 1474, Z6 25, Z6 0], [Z6 1, Z6 1479, Z6 1479, Z6 18, Z6 0], [Z6 1, Z6 1611, Z6 1611, Z6 27, Z6 0], [Z6 1, Z6 1612, Z6 1612, Z6 28, Z6 0], [Z6 1, Z6 1613, Z6 1613, Z6 29, Z6 0], [Z6 1, Z6 1614, Z6 1614, Z6 30, Z6 0], [Z6 1, Z6 1615, Z6 1615, Z6 31, Z6 0], [Z6 1, Z6 1616, Z6 1616, Z6 32, Z6 0], [Z6 1, Z6 1617, Z6 1617, Z6 33, Z6 0], [Z6 1, Z6 1618, Z6 1618, Z6 34, Z6 0], [Z6 1, Z6 1619, Z6 1620, Z6 230, Z6 0], [Z6 1, Z6 1621, Z6 1622, Z6 220, Z6 0], [Z6 1, Z6 1648, Z6 1648, Z6 35, Z6 0], [Z6 1, Z6 2364, Z6 2364, Z6 7, Z6 0], [Z6 1, Z6 2381, Z6 2381, Z6 9, Z6 0], [Z6 1, Z6 2385, Z6 2385, Z6 230, Z6 0], [Z6 1, Z6 2386, Z6 2386, Z6 220, Z6 0], [Z6 1, Z6 2387, Z6 2388, Z6 230, Z6 0], [Z6 1, Z6 2492, Z6 2492, Z6 7, Z6 0], [Z6 1, Z6 2509, Z6 2509, Z6 9, Z6 0], [Z6 1, Z6 3021, Z6 3021, Z6 9, Z6 0], [Z6 1, Z6 3640, Z6 3641, Z6 103, Z6 0], [Z6 1, Z6 3642, Z6 3642, Z6 9, Z6 0], [Z6 1, Z6 3656, Z6 3659, Z6 107, Z6 0], [Z6 1, Z6 3953, Z6 3953, Z6 129, Z6 0], [Z6 1, Z6 3954, Z6 3954, Z6 130, Z6 0], [Z6 1, Z6 3956, Z6 3956, Z6 132, Z6 0], [Z6 1, Z6 8400, Z6 8401, Z6 230, Z6 0], [Z6 1, Z6 8402, Z6 8403, Z6 1, Z6 0], [Z6 1, Z6 8404, Z6 8407, Z6 230, Z6 0], [Z6 1, Z6 8411, Z6 8412, Z6 230, Z6 0], [Z6 1, Z6 8417, Z6 8417, Z6 230, Z6 0], [Z6 1, Z6 8424, Z6 8424, Z6 220, Z6 0], [Z6 1, Z6 12441, Z6 12442, Z6 8, Z6 0], [Z6 1, Z6 65056, Z6 65062, Z6 230, Z6 0], [Z6 1, Z6 119141, Z6 119141, Z6 216, Z6 0]])
theorem zun  {R : PV -> Prop} (h : zj1  R) : PCall qa 25 [] R :=
 PCall.wz Tryz.func25 aR [0] bE h

def zj2  (R : PV -> Prop) : Prop :=
 R (PV.sl false true [[Z6 2, Z6 192, Z6 192, Z6 65, Z6 768], [Z6 2, Z6 193, Z6 193, Z6 65, Z6 769], [Z6 2, Z6 194, Z6 194, Z6 65, Z6 770], [Z6 2, Z6 195, Z6 195, Z6 65, Z6 771], [Z6 2, Z6 196, Z6 196, Z6 65, Z6 776], [Z6 2, Z6 197, Z6 197, Z6 65, Z6 778], [Z6 2, Z6 199, Z6 199, Z6 67, Z6 807], [Z6 2, Z6 200, Z6 200, Z6 69, Z6 768], [Z6 2, Z6 201, Z6 201, Z6 69, Z6 769], [Z6 2, Z6 202, Z6 202, Z6 69, Z6 770], [Z6 2, Z6 203, Z6 203, Z6 69, Z6 776], [Z6 2, Z6 204, Z6 204, Z6 73, Z6 768], [Z6 2, Z6 205, Z6 205, Z6 73, Z6 769], [Z6 2, Z6 206, Z6 206, Z6 73, Z6 770], [Z6 2, Z6 207, Z6 207, Z6 73, Z6 776], [Z6 2, Z6 209, Z6 209, Z6 78, Z6 771], [Z6 2, Z6 210, Z6 210, Z6 79, Z6 768], [Z6 2, Z6 211, Z6 211, Z6 79, Z6 769], [Z6 2, Z6 212, Z6 212, Z6 79, Z6 770], [Z6 2, Z6 213, Z6 213, Z6 79, Z6 771], [Z6 2, Z6 214, Z6 214, Z6 79, Z6 776], [Z6 2, Z6 217, Z6 217, Z6 85, Z6 768], [Z6 2, Z6 218, Z6 218, Z6 85, Z6 769], [Z6 2, Z6 219, Z6 219, Z6 85, Z6 770], [Z6 2, Z6 220, Z6 220, Z6 85, Z6 776], [Z6 2, Z6 221, Z6 221, Z6 89, Z6 769], [Z6 2, Z6 224, Z6 224, Z6 97, Z6 768], [Z6 2, Z6 225, Z6 225, Z6 97, Z6 769], [Z6 2, Z6 226, Z6 226, Z6 97, Z6 770], [Z6 2, Z6 227, Z6 227, Z6 97, Z6 771], [Z6 2, Z6 228, Z6 228, Z6 97, Z6 776], [Z6 2, Z6 229, Z6 229, Z6 97, Z6 778], [Z6 2, Z6 231, Z6 231, Z6 99, Z6 807], [Z6 2, Z6 232, Z6 232, Z6 101, Z6 768], [Z6 2, Z6 233, Z6 233, Z6 101, Z6 769], [Z6 2, Z6 234, Z6 234, Z6 101, Z6 770], [Z6 2, Z6 235, Z6 235, Z6 101, Z6 776], [Z6 2, Z6 236, Z6 236, Z6 105, Z6 768], [Z6 2, Z6 237, Z6 237, Z6 105, Z6 769], [Z6 2, Z6 238, Z6 238, Z6 105, Z6 770], [Z6 2, Z6 239, Z6 239, Z6 105, Z6 776], [Z6 2, Z6 241, Z6 241, Z6 110, Z6 771], [Z6 2, Z6 242, Z6 242, Z6 111, Z6 768], [Z6 2, Z6 243, Z6 243, Z6 111, Z6 769], [Z6 2, Z6 244, Z6 244, Z6 111, Z6 770], [Z6 2, Z6 245, Z6 245, Z6 111, Z6 771], [Z6 2, Z6 246, Z6 246, Z6 111, Z6 776], [Z6 2, Z6 249, Z6 249, Z6 117, Z6 768], [Z6 2, Z6 250, Z6 250, Z6 117, Z6 769], [Z6 2, Z6 251, Z6 251, Z6 117, Z6 770], [Z6 2, Z6 252, Z6 252, Z6 117, Z6 776], [Z6 2, Z6 253, Z6 253, Z6 121, Z6 769], [Z6 2, Z6 255, Z6 255, Z6 121, Z6 776], [Z6 2, Z6 256, Z6 256, Z6 65, Z6 772], [Z6 2, Z6 257, Z6 257, Z6 97, Z6 772], [Z6 2, Z6 258, Z6 258, Z6 65, Z6 774], [Z6 2, Z6 259, Z6 259, Z6 97, Z6 774], [Z6 2, Z6 260, Z6 260, Z6 65, Z6 808], [Z6 2, Z6 261, Z6 261, Z6 97, Z6 808], [Z6 2, Z6 262, Z6 262, Z6 67, Z6 769], [Z6 2, Z6 263, Z6 263, Z6 99, Z6 769], [Z6 2, Z6 268, Z6 268, Z6 67, Z6 780], [Z6 2, Z6 269, Z6 269, Z6 99, Z6 780], [Z6 2, Z6 274, Z6 274, Z6 69, Z6 772], [Z6 2, Z6 275, Z6 275, Z6 101, Z6 772], [Z6 2, Z6 280, Z6 280, Z6 69, Z6 808], [Z6 2, Z6 281, Z6 281, Z6 101, Z6 808], [Z6 2, Z6 304, Z6 304, Z6 73, Z6 775], [Z6 2, Z6 323, Z6 323, Z6 78, Z6 769], [Z6 2, Z6 324, Z6 324, Z6 110, Z6 769], [Z6 2, Z6 352, Z6 352, Z6 83, Z6 780], [Z6 2, Z6 353, Z6 353, Z6 115, Z6 780], [Z6 2, Z6 381, Z6 381, Z6 90, Z6 780], [Z6 2, Z6 382, Z6 382, Z6 122, Z6 780], [Z6 2, Z6 416, Z6 416, Z6 79, Z6 795], [Z6 2, Z6 417, Z6 417, Z6 111, Z6 795], [Z6 2, Z6 431, Z6 431, Z6 85, Z6 795], [Z6 2, Z6 432, Z6 432, Z6 117, Z6 795], [Z6 2, Z6 469, Z6 469, Z6 220, Z6 772], [Z6 2, Z6 470, Z6 470, Z6 252, Z6 772], [Z6 2, Z6 471, Z6 471, Z6 220, Z6 769], [Z6 2, Z6 472, Z6 472, Z6 252, Z6 769], [Z6 2, Z6 480, Z6 480, Z6 550, Z6 772], [Z6 2, Z6 481, Z6 481, Z6 551, Z6 772], [Z6 2, Z6 550, Z6 550, Z6 65, Z6 775], [Z6 2, Z6 551, Z6 551, Z6 97, Z6 775], [Z6 2, Z6 832, Z6 832, Z6 768, Z6 0], [Z6 2, Z6 833, Z6 833, Z6 769, Z6 0], [Z6 2, Z6 835, Z6 835, Z6 787, Z6 0], [Z6 2, Z6 836, Z6 836, Z6 776, Z6 769], [Z6 2, Z6 884, Z6 884, Z6 697, Z6 0], [Z6 2, Z6 894, Z6 894, Z6 59, Z6 0], [Z6 2, Z6 901, Z6 901, Z6 168, Z6 769], [Z6 2, Z6 902, Z6 902, Z6 913, Z6 769], [Z6 2, Z6 903, Z6 903, Z6 183, Z6 0], [Z6 2, Z6 904, Z6 904, Z6 917, Z6 769], [Z6 2, Z6 912, Z6 912, Z6 970, Z6 769], [Z6 2, Z6 940, Z6 940, Z6 945, Z6 769], [Z6 2, Z6 941, Z6 941, Z6 949, Z6 769], [Z6 2, Z6 944, Z6 944, Z6 971, Z6 769], [Z6 2, Z6 970, Z6 970, Z6 953, Z6 776], [Z6 2, Z6 971, Z6 971, Z6 965, Z6 776], [Z6 2, Z6 2345, Z6 2345, Z6 2344, Z6 2364], [Z6 2, Z6 2353, Z6 2353, Z6 2352, Z6 2364], [Z6 2, Z6 2356, Z6 2356, Z6 2355, Z6 2364], [Z6 2, Z6 2392, Z6 2392, Z6 2325, Z6 2364], [Z6 2, Z6 2393, Z6 2393, Z6 2326, Z6 2364], [Z6 2, Z6 2396, Z6 2396, Z6 2337, Z6 2364], [Z6 2, Z6 2507, Z6 2507, Z6 2503, Z6 2494], [Z6 2, Z6 2508, Z6 2508, Z6 2503, Z6 2519], [Z6 2, Z6 3018, Z6 3018, Z6 3014, Z6 3006], [Z6 2, Z6 3955, Z6 3955, Z6 3953, Z6 3954], [Z6 2, Z6 3957, Z6 3957, Z6 3953, Z6 3956], [Z6 2, Z6 7692, Z6 7692, Z6 68, Z6 803], [Z6 2, Z6 7693, Z6 7693, Z6 100, Z6 803], [Z6 2, Z6 7776, Z6 7776, Z6 83, Z6 775], [Z6 2, Z6 7777, Z6 7777, Z6 115, Z6 775], [Z6 2, Z6 7778, Z6 7778, Z6 83, Z6 803], [Z6 2, Z6 7779, Z6 7779, Z6 115, Z6 803], [Z6 2, Z6 7784, Z6 7784, Z6 7778, Z6 775], [Z6 2, Z6 7785, Z6 7785, Z6 7779, Z6 775], [Z6 2, Z6 7840, Z6 7840, Z6 65, Z6 803], [Z6 2, Z6 7841, Z6 7841, Z6 97, Z6 803], [Z6 2, Z6 7842, Z6 7842, Z6 65, Z6 777], [Z6 2, Z6 7843, Z6 7843, Z6 97, Z6 777], [Z6 2, Z6 7844, Z6 7844, Z6 194, Z6 769], [Z6 2, Z6 7845, Z6 7845, Z6 226, Z6 769], [Z6 2, Z6 7846, Z6 7846, Z6 194, Z6 768], [Z6 2, Z6 7847, Z6 7847, Z6 226, Z6 768], [Z6 2, Z6 7848, Z6 7848, Z6 194, Z6 777], [Z6 2, Z6 7849, Z6 7849, Z6 226, Z6 777], [Z6 2, Z6 7850, Z6 7850, Z6 194, Z6 771], [Z6 2, Z6 7851, Z6 7851, Z6 226, Z6 771], [Z6 2, Z6 7852, Z6 7852, Z6 7840, Z6 770], [Z6 2, Z6 7853, Z6 7853, Z6 7841, Z6 770], [Z6 2, Z6 7854, Z6 7854, Z6 258, Z6 769], [Z6 2, Z6 7855, Z6 7855, Z6 259, Z6 769], [Z6 2, Z6 7856, Z6 7856, Z6 258, Z6 768], [Z6 2, Z6 7857, Z6 7857, Z6 259, Z6 768], [Z6 2, Z6 7858, Z6 7858, Z6 258, Z6 777], [Z6 2, Z6 7859, Z6 7859, Z6 259, Z6 777], [Z6 2, Z6 7860, Z6 7860, Z6 258, Z6 771], [Z6 2, Z6 7861, Z6 7861, Z6 259, Z6 771], [Z6 2, Z6 7862, Z6 7862, Z6 7840, Z6 774], [Z6 2, Z6 7863, Z6 7863, Z6 7841, Z6 774], [Z6 2, Z6 7884, Z6 7884, Z6 79, Z6 803], [Z6 2, Z6 7885, Z6 7885, Z6 111, Z6 803], [Z6 2, Z6 7896, Z6 7896, Z6 7884, Z6 770], [Z6 2, Z6 7897, Z6 7897, Z6 7885, Z6 770], [Z6 2, Z6 7936, Z6 7936, Z6 945, Z6 787], [Z6 2, Z6 7937, Z6 7937, Z6 945, Z6 788], [Z6 2, Z6 7938, Z6 7938, Z6 7936, Z6 768], [Z6 2, Z6 7939, Z6 7939, Z6 7937, Z6 768], [Z6 2, Z6 8049, Z6 8049, Z6 940, Z6 0], [Z6 2, Z6 8064, Z6 8064, Z6 7936, Z6 837], [Z6 2, Z6 8115, Z6 8115, Z6 945, Z6 837], [Z6 2, Z6 8486, Z6 8486, Z6 937, Z6 0], [Z6 2, Z6 8490, Z6 8490, Z6 75, Z6 0], [Z6 2, Z6 8491, Z6 8491, Z6 197, Z6 0], [Z6 2, Z6 8800, Z6 8800, Z6 61, Z6 824], [Z6 2, Z6 8814, Z6 8814, Z6 60, Z6 824], [Z6 2, Z6 10972, Z6 10972, Z6 10973, Z6 824], [Z6 2, Z6 12364, Z6 12364, Z6 12363, Z6 12441], [Z6 2, Z6 12366, Z6 12366, Z6 12365, Z6 12441], [Z6 2, Z6 12400, Z6 12400, Z6 12399, Z6 12441], [Z6 2, Z6 12401, Z6 12401, Z6 12399, Z6 12442], [Z6 2, Z6 12460, Z6 12460, Z6 12459, Z6 12441], [Z6 2, Z6 12497, Z6 12497, Z6 12495, Z6 12442], [Z6 2, Z6 12532, Z6 12532, Z6 12454, Z6 12441], [Z6 2, Z6 63744, Z6 63744, Z6 35912, Z6 0], [Z6 2, Z6 63745, Z6 63745, Z6 26356, Z6 0], [Z6 2, Z6 64285, Z6 64285, Z6 1497, Z6 1460], [Z6 2, Z6 64287, Z6 64287, Z6 1522, Z6 1463], [Z6 2, Z6 64298, Z6 64298, Z6 1513, Z6 1473], [Z6 2, Z6 64299, Z6 64299, Z6 1513, Z6 1474], [Z6 2, Z6 64300, Z6 64300, Z6 64329, Z6 1473], [Z6 2, Z6 64329, Z6 64329, Z6 1513, Z6 1468], [Z6 2, Z6 119134, Z6 119134, Z6 119127, Z6 119141]])
theorem zuo  {R : PV -> Prop} (h : zj2  R) : PCall qa 26 [] R :=
 PCall.wz Tryz.func26 aR [0] bE h

def zj3  (R : PV -> Prop) : Prop :=
 R (PV.sl false true [[Z6 3, Z6 2392, Z6 2393, Z6 1, Z6 0], [Z6 3, Z6 2396, Z6 2396, Z6 1, Z6 0], [Z6 3, Z6 10972, Z6 10972, Z6 1, Z6 0], [Z6 3, Z6 64285, Z6 64285, Z6 1, Z6 0], [Z6 3, Z6 64287, Z6 64287, Z6 1, Z6 0], [Z6 3, Z6 64298, Z6 64300, Z6 1, Z6 0], [Z6 3, Z6 64329, Z6 64329, Z6 1, Z6 0], [Z6 3, Z6 119134, Z6 119134, Z6 1, Z6 0]])
theorem zup  {R : PV -> Prop} (h : zj3  R) : PCall qa 27 [] R :=
 PCall.wz Tryz.func27 aR [0] bE h

def zj4  (R : PV -> Prop) : Prop :=
 R (PV.sl false true [[Z6 4, Z6 0, Z6 9, Z6 3, Z6 0], [Z6 4, Z6 10, Z6 10, Z6 2, Z6 0], [Z6 4, Z6 11, Z6 12, Z6 3, Z6 0], [Z6 4, Z6 13, Z6 13, Z6 1, Z6 0], [Z6 4, Z6 14, Z6 31, Z6 3, Z6 0], [Z6 4, Z6 127, Z6 159, Z6 3, Z6 0], [Z6 4, Z6 173, Z6 173, Z6 3, Z6 0], [Z6 4, Z6 768, Z6 879, Z6 4, Z6 0], [Z6 4, Z6 1155, Z6 1161, Z6 4, Z6 0], [Z6 4, Z6 1425, Z6 1469, Z6 4, Z6 0], [Z6 4, Z6 1471, Z6 1471, Z6 4, Z6 0], [Z6 4, Z6 1473, Z6 1474, Z6 4, Z6 0], [Z6 4, Z6 1479, Z6 1479, Z6 4, Z6 0], [Z6 4, Z6 1536, Z6 1541, Z6 7, Z6 0], [Z6 4, Z6 1611, Z6 1631, Z6 4, Z6 0], [Z6 4, Z6 1648, Z6 1648, Z6 4, Z6 0], [Z6 4, Z6 1757, Z6 1757, Z6 7, Z6 0], [Z6 4, Z6 1807, Z6 1807, Z6 7, Z6 0], [Z6 4, Z6 2307, Z6 2307, Z6 8, Z6 0], [Z6 4, Z6 2362, Z6 2362, Z6 4, Z6 0], [Z6 4, Z6 2363, Z6 2363, Z6 8, Z6 0], [Z6 4, Z6 2364, Z6 2364, Z6 4, Z6 0], [Z6 4, Z6 2366, Z6 2368, Z6 8, Z6 0], [Z6 4, Z6 2369, Z6 2376, Z6 4, Z6 0], [Z6 4, Z6 2377, Z6 2380, Z6 8, Z6 0], [Z6 4, Z6 2381, Z6 2381, Z6 4, Z6 0], [Z6 4, Z6 2385, Z6 2391, Z6 4, Z6 0], [Z6 4, Z6 2434, Z6 2435, Z6 8, Z6 0], [Z6 4, Z6 2492, Z6 2492, Z6 4, Z6 0], [Z6 4, Z6 2494, Z6 2494, Z6 4, Z6 0], [Z6 4, Z6 2495, Z6 2496, Z6 8, Z6 0], [Z6 4, Z6 2503, Z6 2504, Z6 8, Z6 0], [Z6 4, Z6 2507, Z6 2508, Z6 8, Z6 0], [Z6 4, Z6 2509, Z6 2509, Z6 4, Z6 0], [Z6 4, Z6 2519, Z6 2519, Z6 4, Z6 0], [Z6 4, Z6 3006, Z6 3006, Z6 4, Z6 0], [Z6 4, Z6 3007, Z6 3007, Z6 8, Z6 0], [Z6 4, Z6 3014, Z6 3016, Z6 8, Z6 0], [Z6 4, Z6 3018, Z6 3020, Z6 8, Z6 0], [Z6 4, Z6 3021, Z6 3021, Z6 4, Z6 0], [Z6 4, Z6 3633, Z6 3633, Z6 4, Z6 0], [Z6 4, Z6 3635, Z6 3635, Z6 8, Z6 0], [Z6 4, Z6 3636, Z6 3642, Z6 4, Z6 0], [Z6 4, Z6 3655, Z6 3662, Z6 4, Z6 0], [Z6 4, Z6 3953, Z6 3966, Z6 4, Z6 0], [Z6 4, Z6 4352, Z6 4447, Z6 9, Z6 0], [Z6 4, Z6 4448, Z6 4519, Z6 10, Z6 0], [Z6 4, Z6 4520, Z6 4607, Z6 11, Z6 0], [Z6 4, Z6 8203, Z6 8203, Z6 3, Z6 0], [Z6 4, Z6 8204, Z6 8204, Z6 4, Z6 0], [Z6 4, Z6 8205, Z6 8205, Z6 5, Z6 0], [Z6 4, Z6 8206, Z6 8207, Z6 3, Z6 0], [Z6 4, Z6 8232, Z6 8238, Z6 3, Z6 0], [Z6 4, Z6 8288, Z6 8303, Z6 3, Z6 0], [Z6 4, Z6 8400, Z6 8432, Z6 4, Z6 0], [Z6 4, Z6 12330, Z6 12335, Z6 4, Z6 0], [Z6 4, Z6 12441, Z6 12442, Z6 4, Z6 0], [Z6 4, Z6 43360, Z6 43388, Z6 9, Z6 0], [Z6 4, Z6 55216, Z6 55238, Z6 10, Z6 0], [Z6 4, Z6 55243, Z6 55291, Z6 11, Z6 0], [Z6 4, Z6 65024, Z6 65039, Z6 4, Z6 0], [Z6 4, Z6 65056, Z6 65071, Z6 4, Z6 0], [Z6 4, Z6 65279, Z6 65279, Z6 3, Z6 0], [Z6 4, Z6 119141, Z6 119141, Z6 4, Z6 0], [Z6 4, Z6 127462, Z6 127487, Z6 6, Z6 0], [Z6 4, Z6 127995, Z6 127999, Z6 4, Z6 0], [Z6 4, Z6 917505, Z6 917535, Z6 3, Z6 0], [Z6 4, Z6 917536, Z6 917631, Z6 4, Z6 0], [Z6 4, Z6 917760, Z6 917999, Z6 4, Z6 0]])
theorem zuq  {R : PV -> Prop} (h : zj4  R) : PCall qa 28 [] R :=
 PCall.wz Tryz.func28 aR [0] bE h

def zj5  (R : PV -> Prop) : Prop :=
 R (PV.sl false true [[Z6 5, Z6 169, Z6 169, Z6 1, Z6 0], [Z6 5, Z6 174, Z6 174, Z6 1, Z6 0], [Z6 5, Z6 8252, Z6 8252, Z6 1, Z6 0], [Z6 5, Z6 8265, Z6 8265, Z6 1, Z6 0], [Z6 5, Z6 8482, Z6 8482, Z6 1, Z6 0], [Z6 5, Z6 8505, Z6 8505, Z6 1, Z6 0], [Z6 5, Z6 8596, Z6 8601, Z6 1, Z6 0], [Z6 5, Z6 8617, Z6 8618, Z6 1, Z6 0], [Z6 5, Z6 8986, Z6 8987, Z6 1, Z6 0], [Z6 5, Z6 9193, Z6 9203, Z6 1, Z6 0], [Z6 5, Z6 9728, Z6 9733, Z6 1, Z6 0], [Z6 5, Z6 9735, Z6 9746, Z6 1, Z6 0], [Z6 5, Z6 9748, Z6 9861, Z6 1, Z6 0], [Z6 5, Z6 9872, Z6 9989, Z6 1, Z6 0], [Z6 5, Z6 9992, Z6 10002, Z6 1, Z6 0], [Z6 5, Z6 10084, Z6 10087, Z6 1, Z6 0], [Z6 5, Z6 127744, Z6 127994, Z6 1, Z6 0], [Z6 5, Z6 128000, Z6 128317, Z6 1, Z6 0], [Z6 5, Z6 128326, Z6 128591, Z6 1, Z6 0], [Z6 5, Z6 128640, Z6 128767, Z6 1, Z6 0], [Z6 5, Z6 129292, Z6 129338, Z6 1, Z6 0], [Z6 5, Z6 129351, Z6 129791, Z6 1, Z6 0]])
theorem zur  {R : PV -> Prop} (h : zj5  R) : PCall qa 29 [] R :=
 PCall.wz Tryz.func29 aR [0] bE h

def zj6  (R : PV -> Prop) : Prop :=
 R (PV.sl false true [[Z6 6, Z6 2325, Z6 2361, Z6 2, Z6 0], [Z6 6, Z6 2381, Z6 2381, Z6 1, Z6 0], [Z6 6, Z6 2392, Z6 2399, Z6 2, Z6 0], [Z6 6, Z6 2453, Z6 2472, Z6 2, Z6 0], [Z6 6, Z6 2509, Z6 2509, Z6 1, Z6 0]])
theorem zus  {R : PV -> Prop} (h : zj6  R) : PCall qa 30 [] R :=
 PCall.wz Tryz.func30 aR [0] bE h

def zj7  (R : PV -> Prop) : Prop :=
 R (PV.sl false true [[Z6 7, Z6 4352, Z6 4447, Z6 1, Z6 0], [Z6 7, Z6 8986, Z6 8987, Z6 1, Z6 0], [Z6 7, Z6 9193, Z6 9196, Z6 1, Z6 0], [Z6 7, Z6 9748, Z6 9749, Z6 1, Z6 0], [Z6 7, Z6 11904, Z6 12350, Z6 1, Z6 0], [Z6 7, Z6 12353, Z6 13311, Z6 1, Z6 0], [Z6 7, Z6 13312, Z6 19903, Z6 1, Z6 0], [Z6 7, Z6 19968, Z6 40959, Z6 1, Z6 0], [Z6 7, Z6 43360, Z6 43388, Z6 1, Z6 0], [Z6 7, Z6 44032, Z6 55203, Z6 1, Z6 0], [Z6 7, Z6 63744, Z6 64255, Z6 1, Z6 0], [Z6 7, Z6 65072, Z6 65135, Z6 1, Z6 0], [Z6 7, Z6 65281, Z6 65376, Z6 1, Z6 0], [Z6 7, Z6 65504, Z6 65510, Z6 1, Z6 0], [Z6 7, Z6 127744, Z6 127994, Z6 1, Z6 0], [Z6 7, Z6 128000, Z6 128317, Z6 1, Z6 0], [Z6 7, Z6 128326, Z6 128591, Z6 1, Z6 0], [Z6 7, Z6 128640, Z6 128767, Z6 1, Z6 0], [Z6 7, Z6 129292, Z6 129338, Z6 1, Z6 0], [Z6 7, Z6 129351, Z6 129791, Z6 1, Z6 0], [Z6 7, Z6 131072, Z6 262141, Z6 1, Z6 0]])
theorem zut  {R : PV -> Prop} (h : zj7  R) : PCall qa 31 [] R :=
 PCall.wz Tryz.func31 aR [0] bE h

def zj8  (R : PV -> Prop) : Prop :=
 R (PV.sl false true [[Z6 8, Z6 48, Z6 57, Z6 1, Z6 0], [Z6 8, Z6 65, Z6 90, Z6 1, Z6 0], [Z6 8, Z6 95, Z6 95, Z6 1, Z6 0], [Z6 8, Z6 97, Z6 122, Z6 1, Z6 0], [Z6 8, Z6 170, Z6 170, Z6 1, Z6 0], [Z6 8, Z6 181, Z6 181, Z6 1, Z6 0], [Z6 8, Z6 186, Z6 186, Z6 1, Z6 0], [Z6 8, Z6 192, Z6 214, Z6 1, Z6 0], [Z6 8, Z6 216, Z6 246, Z6 1, Z6 0], [Z6 8, Z6 248, Z6 705, Z6 1, Z6 0], [Z6 8, Z6 880, Z6 883, Z6 1, Z6 0], [Z6 8, Z6 886, Z6 887, Z6 1, Z6 0], [Z6 8, Z6 902, Z6 902, Z6 1, Z6 0], [Z6 8, Z6 904, Z6 1023, Z6 1, Z6 0], [Z6 8, Z6 1024, Z6 1153, Z6 1, Z6 0], [Z6 8, Z6 1162, Z6 1327, Z6 1, Z6 0], [Z6 8, Z6 1329, Z6 1366, Z6 1, Z6 0], [Z6 8, Z6 1488, Z6 1514, Z6 1, Z6 0], [Z6 8, Z6 1568, Z6 1610, Z6 1, Z6 0], [Z6 8, Z6 2308, Z6 2361, Z6 1, Z6 0], [Z6 8, Z6 2392, Z6 2401, Z6 1, Z6 0], [Z6 8, Z6 2437, Z6 2489, Z6 1, Z6 0], [Z6 8, Z6 3585, Z6 3632, Z6 1, Z6 0], [Z6 8, Z6 4352, Z6 4607, Z6 1, Z6 0], [Z6 8, Z6 7680, Z6 8191, Z6 1, Z6 0], [Z6 8, Z6 8486, Z6 8486, Z6 1, Z6 0], [Z6 8, Z6 8490, Z6 8491, Z6 1, Z6 0], [Z6 8, Z6 12353, Z6 12438, Z6 1, Z6 0], [Z6 8, Z6 12449, Z6 12538, Z6 1, Z6 0], [Z6 8, Z6 13312, Z6 19903, Z6 1, Z6 0], [Z6 8, Z6 19968, Z6 40959, Z6 1, Z6 0], [Z6 8, Z6 44032, Z6 55203, Z6 1, Z6 0], [Z6 8, Z6 63744, Z6 64255, Z6 1, Z6 0], [Z6 8, Z6 131072, Z6 262141, Z6 1, Z6 0]])
theorem zuu  {R : PV -> Prop} (h : zj8  R) : PCall qa 32 [] R :=
 PCall.wz Tryz.func32 aR [0] bE h

def zj9  (R : PV -> Prop) : Prop :=
 PCall qa 25 [] fun v => ∃ n f es, v = PV.sl n f es /\ gZ true [] es 5 40 /\ PCall qa 26 [] fun v1 => ∃ n1 f1 es1, v1 = PV.sl n1 f1 es1 /\ (aU es1 5 /\ (([] ++ es).length + es1.length) * 40 <= 140737488355328) /\ PCall qa 27 [] fun v2 => ∃ n2 f2 es2, v2 = PV.sl n2 f2 es2 /\ (aU es2 5 /\ (([] ++ es ++ es1).length + es2.length) * 40 <= 140737488355328) /\ PCall qa 28 [] fun v3 => ∃ n3 f3 es3, v3 = PV.sl n3 f3 es3 /\ (aU es3 5 /\ (([] ++ es ++ es1 ++ es2).length + es3.length) * 40 <= 140737488355328) /\ PCall qa 29 [] fun v4 => ∃ n4 f4 es4, v4 = PV.sl n4 f4 es4 /\ (aU es4 5 /\ (([] ++ es ++ es1 ++ es2 ++ es3).length + es4.length) * 40 <= 140737488355328) /\ PCall qa 30 [] fun v5 => ∃ n5 f5 es5, v5 = PV.sl n5 f5 es5 /\ (aU es5 5 /\ (([] ++ es ++ es1 ++ es2 ++ es3 ++ es4).length + es5.length) * (40 : Nat) <= 140737488355328) /\ PCall qa 31 [] fun v6 => ∃ n6 f6 es6, v6 = PV.sl n6 f6 es6 /\ (aU es6 5 /\ (([] ++ es ++ es1 ++ es2 ++ es3 ++ es4 ++ es5).length + es6.length) * (40 : Nat) <= 140737488355328) /\ PCall qa 32 [] fun v7 => ∃ n7 f7 es7, v7 = PV.sl n7 f7 es7 /\ (aU es7 5 /\ (([] ++ es ++ es1 ++ es2 ++ es3 ++ es4 ++ es5 ++ es6).length + es7.length) * 40 <= 140737488355328) /\ R (PV.sl (es.isEmpty && es1.isEmpty && es2.isEmpty && es3.isEmpty && es4.isEmpty && es5.isEmpty && es6.isEmpty && es7.isEmpty) false ([] ++ es ++ es1 ++ es2 ++ es3 ++ es4 ++ es5 ++ es6 ++ es7))
theorem zuv  {R : PV -> Prop} (h : zj9  R) : PCall qa 8 [] R :=
 PCall.wz Tryz.func8 aR [0, 1] bE h

end Go.Eng
namespace Go.Eng
open Go Go.Proofs Go.Shelf Go.Sort
def iV (l : List Int) : List PV := l.map fun n => .int .i64 n
def fB (l : List Int) : List Value := l.map fun n => .int .i64 n
theorem zka {w : World} {I : Nat -> Prop} (l : List Int) : Rep w I (.agg (iV l)) (.agg (fB l).toArray) := by
 refine .agg _ _ (by simp [iV, fB]) (fun k v hv => ?_) (fun k v hv => ?_) <;>
 ·simp only [iV, qan] at hv;cases hq : l[k]? with
  | none => rw [hq] at hv; cases hv
  | some n =>
    rw [hq] at hv; cases hv
    have : (fB l).toArray.getD k undef = .int .i64 n := by
     have hk := (List.getElem?_eq_some_iff.1 hq);obtain ⟨hk, he⟩ := hk;simp [fB, hk, he]
    rw [this]
    first | exact .int _ _ | rfl
theorem zuw {w : World} {I : Nat -> Prop} {n : Int} {v : Value} (h : Rep w I (.int .i64 n) v) : v = .int .i64 n := by cases h; rfl
theorem PCall.grows {P : Program} {g : Nat} {ps : List PV} {n : Int} (hc : PCall P g ps fun v => v = .int .i64 n) {args : Array Value} (hsz : args.size = ps.length) (hr : ∀ (w : World) (I : Nat -> Prop) (i : Nat) p, ps[i]? = some p -> Rep w I p (args.getD i undef)) (W : World) :
 Calls P g args W fun e w' => e = .returned (.int .i64 n) /\ ∃ q os', w' = Sort.grow (W.drewN q) os' := by
 refine (hc.2 W (fun b => b < W.heap.size) (fun _ => ⟨0, 0, 0, 0⟩) args (HRel.nil _ fun b hb => hb) (by simpa using hsz) (fun i v hi => ?_)).mono fun e w' ⟨cv, r, h', I', G', e1, ⟨v, e2, hq⟩, e3, e4, e5⟩ => ?_
 ·rw [qan] at hi;cases hp : ps[i]? with
  | none => rw [hp] at hi; cases hi
  | some p => rw [hp] at hi; cases hi; exact .pv _ _ (hr _ _ i p hp)
 ·subst e2; subst hq;have := e4.int_eq;subst this;have e5 := e5.t;refine ⟨e1, w'.drawn - W.drawn, w'.heap.extract W.heap.size w'.heap.size, ?_⟩;have hno : ∀ b, ¬ aS [] (fun _ => (⟨0, 0, 0, 0⟩ : Pl)) b := fun b ⟨o, ob, ho, _⟩ => by simp at ho
  have hh : w'.heap = W.heap ++ w'.heap.extract W.heap.size w'.heap.size := by
   apply Array.ext
   ·simp; have := e5.size; omega
   ·intro i h1 h2;by_cases hi : i < W.heap.size
    ·have := e5.keep i hi (hno i);rw [qai h1, qai hi] at this;rw [Array.getElem_append_left hi];exact Option.some.inj this
    ·rw [Array.getElem_append_right (by omega)];simp only [Array.getElem_extract];congr 1; omega
  have hd : ∀ q, (W.drewN q).heap = W.heap /\ (W.drewN q).tape = W.tape /\ (W.drewN q).drawn = W.drawn + q /\ (W.drewN q).os = W.os /\ (W.drewN q).output = W.output := fun q => by
   induction q with
   | zero => exact ⟨rfl, rfl, rfl, rfl, rfl⟩
   | succ q ih =>
     obtain ⟨i1, i2, i3, i4, i5⟩ := ih;exact ⟨i1, i2, by show (W.drewN q).drawn + 1 = _; rw [i3]; omega, i4, i5⟩
  obtain ⟨d1, d2, d3, d4, d5⟩ := hd (w'.drawn - W.drawn);have hdr := e5.drawn;obtain ⟨h1, h2, h3, h4, h5⟩ := w';simp only [Sort.grow, World.mk.injEq];refine ⟨by rw [d1]; exact hh, by rw [d2]; exact e5.tape, by rw [d3]; simp only at hdr ⊢; omega, by rw [d4]; exact e5.os, by rw [d5]; exact e5.output⟩

theorem zux (l : List Int) (q : Nat) (hq : q < l.length) : (fB l)[q]! = .int .i64 (l.getD q 0) := by
 simp [fB, hq, qt]
theorem zkb (l : List Int) (q : Nat) (hq : q < l.length) : (iV l)[q]? = some (.int .i64 (l.getD q 0)) := by
 simp [iV, hq, qt]
theorem zuy {P : Program} {ρ : Go.Shelf.Ren} (L : SlLaysF0.n6 P ρ) (hcal : mK P (ρ.f 6)) (k : Nat) (hk0 : k ≠ 0) (aE : ∀ w, (isAgg (ρ.t 24)).run P w = .ok true w) (zE : ∀ w, (Go.sizeOf (ρ.t 24)).run P w = .ok k w) {α : Type} [Inhabited α] (fs : α -> List Int) (hk : ∀ x, (fs x).length = k)
 (cf : α -> α -> Int) (hO : Sort.SWO (ltOf cf)) (g : Nat) (hc : ∀ x y, PCall P g [.agg (iV (fs x)), .agg (iV (fs y))] fun v => v = .int .i64 (cf x y)) (ty : Nat × Nat) (hty : ty.2 = k) (nl : Bool) (l : List α) (hnl : nl = true -> l = []) (hl : l.length < 4611686018427387904) :
 ACall P (ρ.f 6) [.own 0, .pv (.fn g [])] [.sl ty false nl (l.map fun x => iV (fs x))] fun r h' => ∃ t : List α, r = .tup [] /\ h' = [.sl ty false nl (t.map fun x => iV (fs x))] /\ t.Perm l /\ t.Pairwise (fun a b => ¬ cf b a < 0) := by
 refine ⟨hcal, fun w I G cargs hh hsz hrel => ?_⟩;simp only [qg, qbg] at hsz;have h0 := hrel 0 (.own 0) rfl;have h1 := hrel 1 (.pv (.fn g [])) rfl
 obtain ⟨v0, v1, rfl⟩ : ∃ v0 v1, cargs = #[v0, v1] := by
  obtain ⟨c⟩ := cargs
  match c, hsz with
  | [a, b], _ => exact ⟨a, b, rfl⟩
 have e0 : (#[v0, v1] : Array Value).getD 0 undef = v0 := rfl;have e1 : (#[v0, v1] : Array Value).getD 1 undef = v1 := rfl;rw [e0] at h0;rw [e1] at h1
 have hv1 : v1 = .func (.func g) #[] #[] := by
  cases h1 with
  | pv _ _ h => cases h with
    | fn f cs vs q1 q2 => have : vs = #[] := Array.eq_empty_of_size_eq_zero (by simpa using q1); rw [this]
 subst hv1;by_cases hl0 : l = []
 ·subst hl0
  obtain ⟨p, cap, rfl⟩ : ∃ p cap, v0 = .slice p 0 cap := by
   cases h0 with
   | ownNil => exact ⟨_, _, rfl⟩
   | own o ty m es ad q0 q1 => simp at q1; obtain ⟨_, _, _, rfl⟩ := q1; exact ⟨_, _, rfl⟩
  refine (AnyF.slices_SortFunc_none L p cap _ w).mono fun e w' ⟨he, hw⟩ => ?_;subst hw;exact ⟨_, _, _, I, G, he, ⟨[], rfl, rfl, List.Perm.refl _, List.Pairwise.nil⟩, hh, .tup [] #[] rfl (fun k v hk => by simp at hk), .refl _ _ _ _⟩
 ·have hnl' : nl = false := by cases nl with | false => rfl | true => exact absurd (hnl rfl) hl0
  subst hnl';have hor := hh.obs 0 _ rfl;obtain ⟨o1, o2, o3, o4, o5, o6⟩ := hor;have hlen : 0 < l.length := List.length_pos_iff.2 hl0;simp only [qah] at o1;have hcap : (G 0).cap ≠ 0 := by omega
  have hoff := o3 hcap;obtain ⟨vs, f1, f2, f3⟩ := o6 hcap;have hs4 : (G 0).sz = k := o4.trans hty;cases h0 with
  | ownNil o ty m es q1 => simp at q1
  | own o ty' m es ad q0 q1 =>
    simp only [qam, Option.some.injEq, Ob.sl.injEq] at q1;obtain ⟨rfl, rfl, _, rfl⟩ := q1;have had := q0 hcap;subst had;rw [hoff];have hown : aS [Ob.sl ty false false (l.map fun x => iV (fs x))] G (G 0).blk := ⟨0, _, rfl, ⟨rfl, hcap⟩, rfl⟩;have hblk := hh.blk_lt hown;have kpos := Nat.pos_of_ne_zero hk0
    have hdm : ∀ {i q : Nat}, q < k -> (i * k + q) / k = i /\ (i * k + q) % k = q := fun {i q} hq => by
     constructor
     ·rw [qcc, Nat.mul_add_div kpos, Nat.div_eq_of_lt hq]; omega
     ·rw [qcc, Nat.mul_add_mod, Nat.mod_eq_of_lt hq]
    have hrow : ∀ (d : Array α) (i q : Nat), i < d.size -> q < k -> (flatK (fun x => fB (fs x)) k d)[i * k + q]! = .int .i64 ((fs d[i]!).getD q 0) := fun d i q hi hq => by
     have hlt : i * k + q < d.size * k := by
      have : (i + 1) * k <= d.size * k := qr _ hi;rw [qbi] at this; omega
     rw [get_flatK _ _ _ _ hlt, (hdm hq).1, (hdm hq).2];exact zux _ _ (by rw [hk]; exact hq)
    have hH : HoldsK (fun x => fB (fs x)) k w (G 0).blk 0 l.toArray := fun j hj => by
     simp only [size_flatK, List.size_toArray] at hj;have hi : j / k < l.length := by rw [Nat.div_lt_iff_lt_mul kpos]; exact hj
     have hq : j % k < k := Nat.mod_lt _ kpos;have hjj : j = j / k * k + j % k := by have := Nat.div_add_mod j k; rw [qcc] at this; omega
     have hlt : j < vs.size := by
      rw [f2, hs4];exact qal hj (qr _ o1)
     have hr := f3 (j / k) _ (by simp [hi]) (j % k) _ (zkb (fs l[j / k]) (j % k) (by rw [hk]; exact hq));rw [hs4, <- hjj] at hr;have hval := zuw hr.1;refine ⟨?_, ?_⟩
     ·have h2 := hrow l.toArray (j / k) (j % k) (by simpa using hi) hq
      rw [<- hjj] at h2;rw [h2, qo, kM f1 hlt, hval];simp [hi]
     ·simp [World.frozen?, f1]
    have eg : ∀ args w, (callFunc g args).run P w = .ok (.enter g args) w := fun args w => yW (hc default default).1
    have hcmp : CmpLays P g #[] (fun x => fB (fs x)) k cf (G 0).blk 0 l.toArray.size w := fun m os dk hdk x y => by
     refine PCall.grows (hc x y) rfl (fun w I i p hi => ?_) _
     match i, hi with
     | 0, hi => cases hi; exact zka _
     | 1, hi => cases hi; exact zka _
    have main := AnyQ.slices_SortFunc L k aE zE (fun x => fB (fs x)) (fun x => by simp [fB, hk]) (fun x v hv => by simp only [fB, List.mem_map] at hv; obtain ⟨n, _, rfl⟩ := hv; rfl) cf hO g #[] (G 0).blk 0 (G 0).cap l.toArray w eg hcmp hH hblk (by simpa using hl)
    have e3 : l.toArray.size = (l.map fun x => iV (fs x)).length := by simp
    rw [e3] at main;refine main.mono fun e w' ⟨he, d', n, os, hp, hs, hw⟩ => ?_;subst hw;have hds : d'.size = l.length := by rw [hp.1]; simp
    have hperm : d'.toList.Perm l := by
     have := hp.2.2;simp only [qah] at this;rw [show d'.extract 0 l.length = d' by rw [<- hds]; simp] at this;simpa using this
    have hbl : (sortWorldK (fun x => fB (fs x)) k w (G 0).blk 0 n d' os).heap[(G 0).blk]? = some (.cells (putCells id 0 (flatK (fun x => fB (fs x)) k d') vs) ty.1 (0, 0)) := by
     unfold sortWorldK putRowK putRow;rw [Sort.heap_grow_old _ _ (by simpa [Sort.mapBlock, Sort.ahead] using hblk)]
     simp only [Sort.mapBlock, Sort.ahead, qbo, if_true, f1];rfl
    have hother : ∀ b, b < w.heap.size -> b ≠ (G 0).blk -> (sortWorldK (fun x => fB (fs x)) k w (G 0).blk 0 n d' os).heap[b]? = w.heap[b]? := fun b hb hne => by
     unfold sortWorldK putRowK putRow;rw [Sort.heap_grow_old _ _ (by simpa [Sort.mapBlock, Sort.ahead] using hb)]
     simp only [Sort.mapBlock, Sort.ahead, qbo];rw [if_neg (fun e => hne e.symm)]
    have hsize : w.heap.size <= (sortWorldK (fun x => fB (fs x)) k w (G 0).blk 0 n d' os).heap.size := by
     unfold sortWorldK putRowK putRow;rw [Sort.size_grow];simp [Sort.mapBlock, Sort.ahead]
    have hkeep : Keeps w I (sortWorldK (fun x => fB (fs x)) k w (G 0).blk 0 n d' os) I := ⟨fun b hb hbs => hother b hbs (fun e => hh.nI 0 _ rfl ⟨rfl, hcap⟩ (e ▸ hb)), fun _ x _ => x⟩;refine ⟨_, _, _, I, G, he, ⟨d'.toList, rfl, rfl, hperm, ?_⟩, ⟨fun o ob ho => ?_, fun o o' ob ob' ho _ ho' _ _ => ?_, fun o ob ho ha => ?_, fun b hb => qal (hh.cl b hb) hsize⟩, .tup [] #[] rfl (fun k v hk => by simp at hk), ⟨⟨rfl, rfl, rfl, hsize, fun b hb hn => hother b hb (fun e => hn (e ▸ hown)), fun _ x => x, fun _ x => .inl x, fun b ⟨o, ob, ho, ha, hb⟩ => .inl ?_, fun a ha => ?_, Nat.le_add_right _ _⟩, qn _, fun o ob' ho hx hf => ?_⟩⟩
    ·rw [List.pairwise_iff_getElem];intro i j hi hj hij;have := hs i j (qaw _) hij (by simp at hj ⊢; omega);simp only [ltOf, dJ] at this;simp only [qbx] at hi hj;simpa [hi, hj] using this
    ·cases o with
     | succ o => simp at ho
     | zero =>
       simp only [qam, Option.some.injEq] at ho;subst ho;refine ⟨by simp; omega, o2, fun _ => hoff, o4, fun i e he => ?_, fun _ => ⟨_, hbl, by simp [putCells, f2], fun i e he q v hv => ?_⟩⟩
       ·rw [qan] at he;cases hq : d'.toList[i]? with
        | none => rw [hq] at he; cases he
        | some x => rw [hq] at he; cases he; simp [iV, hk, hs4]
       ·rw [qan] at he;cases hq : d'.toList[i]? with
        | none => rw [hq] at he; cases he
        | some x =>
          rw [hq] at he;simp only [qcl, Option.some.injEq] at he;subst he;have hi := (List.getElem?_eq_some_iff.1 hq);obtain ⟨hi, hix⟩ := hi;simp only [qbx] at hi;have hqk : q < k := by have := (List.getElem?_eq_some_iff.1 hv).1; simpa [iV, hk] using this
          rw [zkb _ _ (by rw [hk]; exact hqk)] at hv;cases hv
          have hlt : i * k + q < vs.size := by
           rw [f2, hs4];have h1 : (i + 1) * k <= (G 0).cap * k := qr _ (by omega);rw [qbi] at h1; omega
          have hlt2 : i * k + q < d'.size * k := by
           have h1 : (i + 1) * k <= d'.size * k := qr _ hi;rw [qbi] at h1; omega
          have : (putCells id 0 (flatK (fun x => fB (fs x)) k d') vs).getD (i * (G 0).sz + q) undef = .int .i64 ((fs x).getD q 0) := by
           rw [hs4];have h2 := hrow d' i q hi hqk;have h3 : d'[i]! = x := by rw [<- hix]; simp [hi]
           rw [h3] at h2;simp only [putCells, qz, Array.getElem?_mapIdx, qai hlt, qcl, qap, qca, size_flatK, qo];rw [if_pos ⟨qaw _, hlt2⟩];exact h2
          rw [this];exact ⟨.int _ _, rfl⟩
    ·cases o with
     | succ o => simp at ho
     | zero => cases o' with
       | succ o' => simp at ho'
       | zero => rfl
    ·cases o with
     | succ o => simp at ho
     | zero => exact hh.nI 0 _ rfl ⟨rfl, hcap⟩
    ·cases o with
     | succ o => simp at ho
     | zero => exact hb ▸ hown
    ·unfold sortWorldK putRowK;rw [Sort.frozen?_grow _ _ _ (by simpa [putRow, Sort.mapBlock, Sort.ahead] using ha), Sort.frozen?_putRow]
     rfl
    ·cases o with
     | succ o => simp at ho
     | zero => exact ⟨rfl, _, rfl, rfl⟩
end Go.Eng
