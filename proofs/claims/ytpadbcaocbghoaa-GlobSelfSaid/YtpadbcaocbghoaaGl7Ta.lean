/- States run over the code: what each function gives, and what follows. -/
import Derived.Test.YtpadbcaocbghoaaEngb
import Derived.RangeFuncRecord
import Derived.Shelf.SlSortCmp.NoneTotal
import Derived.Shelf.SlSortCmp.WholeK
open Go.IntKind (i64 i32)
open Go.Proofs.Try renaming prog → qa
open List renaming drop → qb, replicate → qc, mem_cons_self → qd, take → qe, mem_cons_of_mem → qf, mem_singleton → qg, rel_of_pairwise_cons → qi, nil_append → qj, getElem_append_left → ql, getElem?_eq_getElem → qm, length_cons → qn, flatMap_cons → qo, take_of_length_le → qp, drop_of_length_le → qq, cons_append → qr, getElem_mem → qu, length_nil → qv, drop_eq_getElem_cons → qx, drop_zero → qy, getElem?_map → qz, getElem?_eq_none → qab, mem_append → qac, length_map → qad, mem_append_left → qaf, getLast?_eq_some_getLast → qag, getElem_of_mem → qah, dropLast_concat_getLast → qai, length_append → qak, getLast?_eq_getElem? → qal, getElem_append_right → qam, getElem?_append_left → qan, drop_append → qao, getElem?_cons_zero → qap, getElem?_replicate → qaq, foldl_cons → qar, dropLast_concat → qau, map_eq_nil_iff → qaw, mem_map_of_mem → qax, replicate_succ → qay, flatMap_append → qaz, mem_map → qbc, append_assoc → qbd, take_add_one → qbe, getElem?_set → qbg, length_take → qbi, isEmpty_iff → qbj
open Int renaming le_refl → qh
open Bool renaming and_eq_true → qk, false_eq_true → qaj, true_and → qbm
open Nat renaming mul_le_mul_right → qt, add_mul → qaa, zero_add → qae, eq_of_beq_eq_true → qas, mul_comm → qba, lt_of_lt_of_le → qbb, lt_trichotomy → qbf, one_mul → qbh
open Array renaming getElem?_eq_getElem → qw, getElem?_modify → qat, length_toList → qav
open Option renaming map_some → qbk, none_or → qbl
namespace Go.Eng
open Go Go.Proofs
def dG : Code -> Code | .seq a _ => a | _ => .skip
def cH : Code -> Code | .seq _ b => b | _ => .skip
def iP : Code -> Code | .block _ c => c | .loop c => c | _ => .skip
def bU : Code -> Array Oper | .region _ o _ => o | _ => #[]
def cM (f : Func) : Code := f.body.getD .skip
def cL (f : Func) : Code := iP (iP (cH (cM f)))
def cB (f : Func) : Code := iP (dG (cH (cL f)))
def dC (f : Func) : Code := dG (cH (cH (cB f)))
def aK (nl : Bool) (T : PV) (es : List (List PV)) : Hp := [.box [.pv T], .sl (21, 1) false nl es, .box [.own 1], .box [.pv T], .box [.own 1]]
def eM (y : Value) (i f : Int) : Env := [(0, .pv (.raw y)), (1, .box 4 0), (2, .box 3 0), (4, .pv (.int .i64 i)), (5, .pv (.int .i64 f))]
def eN (y : Value) (i : Int) : Env := [(0, .pv (.raw y)), (1, .box 4 0), (2, .box 3 0), (4, .pv (.int .i64 i))]
def lM : List Nat := [0, 1, 2, 4, 5, 9, 25, 32, 38]
def fQ : Code -> Code | .rangeFunc _ _ a _ => a | _ => .skip
def fR : Code -> Code | .rangeFunc _ _ _ b => b | _ => .skip
def cO0 (f : Func) : Code := dG (cM f)
def cO1 (f : Func) : Code := dG (cH (cM f))
def cO2 (f : Func) : Code := dG (dG (cH (cH (cM f))))
def cJ (f : Func) : Code := iP (cH (dG (cH (cH (cM f)))))
def cO6 (f : Func) : Code := dG (cH (cH (cH (cM f))))
def eO (f i : Int) : Env := [(2, .box 0 0), (5, .box 2 0), (13, .pv (.int .i64 f)), (14, .pv (.int .i64 i))]
def wT : Nat -> Option HSpec := fun zz_ => match zz_ with | 81 => some ⟨List (List PV), fun _ hs t => (.tup [], match hs with | [.sl ty m nl _, b] => [.sl ty m nl t, b] | h => h), none⟩ | _ => none
def zd7 : Nat -> Option HSpec := fun zz_ => match zz_ with | 37 => some ⟨Unit, fun vs _ _ => (.own 0, match vs with | [.pv (.sl nl _ es)] => [.sl (21, 1) false nl es] | _ => []), none⟩ | 80 => some ⟨Unit, fun vs hs _ => (.fn 94 [.box 2 0, .box 1 0], match vs with | [.pv T, _] => hs ++ [.box [.pv T], .box [.own 0]] | _ => hs), none⟩ | _ => none
end Go.Eng
set_option linter.unusedVariables false
set_option linter.unusedSimpArgs false
namespace Go.Eng
open Go
abbrev wd (ro : Option Nat) : Fence := { Fence.wide with round := ro }
section
variable {P : Program} {n : Nat} {ro : Option Nat}
theorem zmj {f : FuncId} {args : Array Value} {w : World} {R : Ending -> World -> Prop} (h : Calls P f args w R) : CallsIn (wd ro) n P f args w R := (callsIn_wide (n := n)).2 h
theorem zmk {row : String} {args : Array Value} {w : World} {R : Value -> World -> Prop} (h : Rows P row args w R) : RowsIn (wd ro) n P row args w R :=
 fun c cs _ => let ⟨v, w', r, s⟩ := h c cs; ⟨v, w', r, stepsIn_wide.2 s⟩
theorem zml {o : Oper} {a : Act} {next next' : Act -> World -> Prop} {Q : Exit -> Act -> World -> Prop} (hn : ∀ a w, next a w -> next' a w) : ∀ {r : Result Next}, o.upon P a next Q r -> o.uponIn (wd ro) n P a next' Q r
 | .ok (.value _) _, h => hn _ _ h
 | .ok .skip _, h => hn _ _ h
 | .ok (.defer _) _, h => hn _ _ h
 | .ok (.enter f args) w, h => ⟨(fun x => by cases x), zmj (Calls.mono h fun e w' q => by cases e <;> first | exact hn _ _ q | exact q)⟩
 | .ok (.row row args) w, h => ⟨(fun x => by cases x), zmk (Rows.mono h fun v w' q => hn _ _ q)⟩
 | .halt (.panic v) w, h => h
theorem p0 {ops : Array Oper} {Q : Exit -> Act -> World -> Prop} (hnd : ∀ (i : Nat) o c, ops[i]? = some o -> o.op ≠ .defer c) (hQ : ∀ a w, ¬ Q .outgrown a w) : ∀ {l : List Nat} {a : Act} {w : World}, wpOps P ops Q l a w -> wpOpsIn (wd ro) n P ops Q l a w
 | [], _, _, h => h
 | i :: rest, a, w, h => by
   simp only [wpOps, wpOpsIn] at h ⊢;cases ho : ops[i]? with
   | none => simp only [ho] at h ⊢; exact p0 hnd hQ h
   | some o =>
     simp only [ho] at h ⊢;split at h
     ·rename_i hw;rw [if_pos hw];rcases h with h | ⟨_, a1, w1, hq⟩
      ·refine ⟨fun _ _ => trivial, ?_⟩;rw [Oper.semAt_eq _ _ _ (fun c => hnd i o c ho)];exact zml (fun _ _ q => p0 hnd hQ q) h
      ·exact absurd hq (hQ _ _)
     ·rename_i hw;rw [if_neg hw];exact ⟨fun _ _ => trivial, p0 hnd hQ h⟩
theorem zmm {F : Fence} {o : Oper} {a : Act} {next next' K : Act -> World -> Prop} {Q : Exit -> Act -> World -> Prop} (hn : ∀ a w, next a w -> next' a w) : ∀ {r : Result Next}, o.uponIn F n P a next (Exit.then K Q) r -> o.uponIn F n P a next' Q r
 | .ok (.value _) _, h => hn _ _ h
 | .ok .skip _, h => hn _ _ h
 | .ok (.defer _) _, h => hn _ _ h
 | .ok (.enter f args) w, h => ⟨h.1, CallsIn.mono h.2 fun e w' q => by cases e <;> first | exact hn _ _ q | exact q⟩
 | .ok (.row row args) w, h => ⟨h.1, RowsIn.mono h.2 fun v w' q => hn _ _ q⟩
 | .ok (.round l f tmps assign body) w, h => ⟨h.1, RoundIn.mono h.2 fun e w' q => by cases e <;> first | exact hn _ _ q | exact q⟩
 | .halt (.panic v) w, h => h
theorem sX {F : Fence} {ops : Array Oper} {Q : Exit -> Act -> World -> Prop} {l2 : List Nat} : ∀ {l1 : List Nat} {a : Act} {w : World}, wpOpsIn F n P ops (Exit.then (wpOpsIn F n P ops Q l2) Q) l1 a w -> wpOpsIn F n P ops Q (l1 ++ l2) a w
 | [], _, _, h => h
 | i :: rest, a, w, h => by
   simp only [wpOpsIn, qr] at h ⊢;cases ho : ops[i]? with
   | none => simp only [ho] at h ⊢; exact sX h
   | some o =>
     simp only [ho] at h ⊢;split at h
     ·rename_i hw;rw [if_pos hw];exact ⟨h.1, zmm (fun _ _ q => sX q) h.2⟩
     ·rename_i hw;rw [if_neg hw];exact ⟨h.1, sX h.2⟩
end
section
variable {H : Nat -> Option HSpec} {P : Program} {n N : Nat} {ro : Option Nat}
def jF : List Oper -> Bool
 | [] => true
 | o :: r => (match o.op with | .defer _ => false | _ => true) && jF r
theorem zd8 {ops : Array Oper} (h : jF ops.toList = true) : ∀ (i : Nat) o c, ops[i]? = some o -> o.op ≠ .defer c := by
 have key : ∀ {l : List Oper}, jF l = true -> ∀ (i : Nat) o c, l[i]? = some o -> o.op ≠ .defer c := by
  intro l
  induction l with
  | nil => intro _ i o c hi; cases hi
  | cons x r ih =>
    intro hx i o c hi;simp only [jF, qk] at hx;cases i with
    | zero => simp at hi; subst hi; intro e; rw [e] at hx; exact absurd hx.1 (by simp)
    | succ i => exact ih hx.2 i o c (by simpa using hi)
 intro i o c hi;exact key h i o c (by simpa using hi)
theorem wU {id : Nat} {ops : Array Oper} {e : Env} {h : Hp} {K : Env -> Hp -> Prop} (hd : jF ops.toList = true) (hK : bR P H N ops.toList ops.toList e h K) {w : World} {I : Nat -> Prop} {G : Nat -> Pl} {a : Act} (hs : SRel w I G e h N a)
 {Q : Exit -> Act -> World -> Prop} (hQ : ∀ a w, ¬ Q .outgrown a w) (hq : ∀ e' h' w' I' G' a', K e' h' -> SRel w' I' G' e' h' N a' -> a'.defers = a.defers -> TrH w I G h w' I' G' h' -> Q .normal a' w') : (Code.region id ops false).wpIn (wd ro) n P Q a w := by
 refine wpIn_region (p0 (zd8 hd) hQ ?_);have := vZ (Qx := Q) ops.toList 0 e h (fun j _ => by simp) hK w I G a hs hq;simpa [List.range_eq_range'] using this
theorem wV {ops : Array Oper} {l : List Oper} {k : Nat} {e : Env} {h : Hp} {K : Env -> Hp -> Prop} (hd : jF ops.toList = true) (hl : ∀ j, j < l.length -> l[j]? = ops[k + j]?) (hK : bR P H N ops.toList l e h K) {w : World} {I : Nat -> Prop} {G : Nat -> Pl} {a : Act} (hs : SRel w I G e h N a)
 {Q : Exit -> Act -> World -> Prop} (hQ : ∀ a w, ¬ Q .outgrown a w) (hq : ∀ e' h' w' I' G' a', K e' h' -> SRel w' I' G' e' h' N a' -> a'.defers = a.defers -> TrH w I G h w' I' G' h' -> Q .normal a' w') : wpOpsIn (wd ro) n P ops Q (List.range' k l.length) a w :=
 p0 (zd8 hd) hQ (vZ (Qx := Q) l k e h hl hK w I G a hs hq)
end
section
variable {H : Nat -> Option HSpec} {P : Program} {n0 N : Nat} {Z : World -> (Nat -> Prop) -> (Nat -> Pl) -> Hp -> Prop}
def CodeZ (Z : World -> (Nat -> Prop) -> (Nat -> Pl) -> Hp -> Prop) (P : Program) (N : Nat) (c : Code) (e : Env) (h : Hp) (Q : Qt) : Prop :=
 ∀ (w : World) (I : Nat -> Prop) (G : Nat -> Pl) (a : Act) (Qx : Exit -> Act -> World -> Prop), SRel w I G e h N a -> Z w I G h ->
  (∀ x e' h' w' I' G' a', Q x e' h' -> SRel w' I' G' e' h' N a' -> a'.defers = a.defers -> Z w' I' G' h' -> Qx x.to a' w') -> c.wp P Qx a w
theorem CodeZ.of (hZ : ∀ w I G h w' I' G' h', Z w I G h -> HRel w I G h -> HRel w' I' G' h' -> TrN n0 w I G h w' I' G' h' -> Z w' I' G' h') {c : Code} {e : Env} {h : Hp} {Q : Qt} (hK : CodeS P n0 N c e h Q) : CodeZ Z P N c e h Q :=
 fun w I G a Qx hs hz hq => hK w I G a Qx hs fun x e' h' w' I' G' a' hk hs' hd ht => hq x e' h' w' I' G' a' hk hs' hd (hZ _ _ _ _ _ _ _ _ hz hs.hh hs'.hh ht)
theorem CodeZ.skip {e : Env} {h : Hp} {Q : Qt} (hK : Q .normal e h) : CodeZ Z P N .skip e h Q :=
 fun w I G a Qx hs hz hq => wp_skip (hq .normal e h w I G a hK hs rfl hz)
theorem CodeZ.ret {e : Env} {h : Hp} {Q : Qt} (hK : Q .ret e h) : CodeZ Z P N .ret e h Q :=
 fun w I G a Qx hs hz hq => wp_ret (hq .ret e h w I G a hK hs rfl hz)
theorem CodeZ.seq {x y : Code} {e : Env} {h : Hp} {Q : Qt} (hK : CodeZ Z P N x e h fun q e h => match q with | .normal => CodeZ Z P N y e h Q | q => Q q e h) : CodeZ Z P N (.seq x y) e h Q := by
 intro w I G a Qx hs hz hq;refine wp_seq (hK w I G a _ hs hz fun q e' h' w' I' G' a' hk hs' hd hz' => ?_);cases q with
 | normal => exact hk w' I' G' a' Qx hs' hz' fun q2 e2 h2 w2 I2 G2 a2 hk2 hs2 hd2 hz2 => hq q2 e2 h2 w2 I2 G2 a2 hk2 hs2 (hd2.trans hd) hz2
 | exit n => exact hq (.exit n) e' h' w' I' G' a' hk hs' hd hz'
 | ret => exact hq .ret e' h' w' I' G' a' hk hs' hd hz'
theorem CodeZ.cond {c : Operand} {x y : Code} {e : Env} {h : Hp} {Q : Qt} {t : Bool} (hc : aP [] e c = some (.pv (.bool t))) (hK : if t = true then CodeZ Z P N x e h Q else CodeZ Z P N y e h Q) : CodeZ Z P N (.cond c x y) e h Q := by
 intro w I G a Qx hs hz hq;refine wp_cond (aL hs.he (AOK.nil _) hc).bool_eq ?_;cases t with
 | true => simp only [if_true] at hK ⊢; exact hK w I G a Qx hs hz hq
 | false => simp only [qaj, if_false] at hK ⊢; exact hK w I G a Qx hs hz hq
theorem CodeZ.block {id : Nat} {c : Code} {e : Env} {h : Hp} {Q : Qt}
 (hK : CodeZ Z P N c e h fun q e h => match q with | .exit n => (bif Nat.beq n id then Q .normal e h else Q (.exit n) e h) | q => Q q e h) : CodeZ Z P N (.block id c) e h Q := by
 intro w I G a Qx hs hz hq;refine wp_block (hK w I G a _ hs hz fun q e' h' w' I' G' a' hk hs' hd hz' => ?_);cases q with
 | normal => exact hq .normal e' h' w' I' G' a' hk hs' hd hz'
 | ret => exact hq .ret e' h' w' I' G' a' hk hs' hd hz'
 | exit n =>
   simp only [Ex.to, Exit.inBlock];cases hb : Nat.beq n id with
   | true =>
     simp only [hb, cond_true] at hk;rw [if_pos (qas hb)];exact hq .normal e' h' w' I' G' a' hk hs' hd hz'
   | false =>
     simp only [hb, cond_false] at hk;rw [if_neg (fun e => by subst e; simp at hb)];exact hq (.exit n) e' h' w' I' G' a' hk hs' hd hz'
theorem CodeZ.mono {c : Code} {e : Env} {h : Hp} {Q Q' : Qt} (hK : CodeZ Z P N c e h Q) (hq : ∀ x e h, Q x e h -> Q' x e h) : CodeZ Z P N c e h Q' :=
 fun w I G a Qx hs hz hq' => hK w I G a Qx hs hz fun x e' h' w' I' G' a' hk => hq' x e' h' w' I' G' a' (hq _ _ _ hk)
theorem SRel.le {w : World} {I : Nat -> Prop} {G : Nat -> Pl} {e e' : Env} {h : Hp} {a : Act} (hs : SRel w I G e h N a) (hl : ∀ i v, get e' i = some v -> get e i = some v) : SRel w I G e' h N a := ⟨hs.hh, fun i v hi => hs.he i v (hl i v hi), hs.hn⟩
def LeE : Env -> Env -> Prop
 | [], _ => True
 | (i, v) :: r, e => get e i = some v /\ LeE r e
theorem LeE.le : ∀ {e' e : Env}, LeE e' e -> ∀ i v, get e' i = some v -> get e i = some v
 | [], _, _, i, v, h => by cases h
 | (k, x) :: r, e, hl, i, v, h => by
   simp only [get] at h;cases hb : Nat.beq k i with
   | true => rw [hb] at h; have := qas hb; subst this; cases h; exact hl.1
   | false => rw [hb] at h; exact hl.2.le i v h
theorem CodeZ.loop {c : Code} {e : Env} {h : Hp} {Q : Qt} {σ : Type} (S : σ -> Env × Hp) (J : σ -> Prop) (μ : σ -> Nat) (s0 : σ) (he : ∀ i v, get (S s0).1 i = some v -> get e i = some v) (hh : h = (S s0).2) (hJ : J s0)
 (hb : ∀ s, J s -> CodeZ Z P N c (S s).1 (S s).2 fun x e h => match x with | .normal => ∃ s', (∀ i v, get (S s').1 i = some v -> get e i = some v) /\ h = (S s').2 /\ J s' /\ μ s' < μ s | x => Q x e h) : CodeZ Z P N (.loop c) e h Q := by
 intro w I G a Qx hs hz hq;subst hh
 refine wp_loop_ghost (fun n a1 w1 => ∃ s I1 G1, μ s = n /\ J s /\ SRel w1 I1 G1 (S s).1 (S s).2 N a1 /\ a1.defers = a.defers /\ Z w1 I1 G1 (S s).2) (μ s0)
  ⟨s0, I, G, rfl, hJ, hs.le he, rfl, hz⟩ ?_
 rintro n a1 w1 ⟨s, I1, G1, rfl, hj, hs1, hd1, hz1⟩;refine hb s hj w1 I1 G1 a1 _ hs1 hz1 fun x e2 h2 w2 I2 G2 a2 hk hs2 hd2 hz2 => ?_;cases x with
 | normal =>
   obtain ⟨s', hf, rfl, hj', hlt⟩ := hk;exact ⟨μ s', hlt, s', I2, G2, rfl, hj', hs2.le hf, hd2.trans hd1, hz2⟩
 | exit n => exact hq (.exit n) e2 h2 w2 I2 G2 a2 hk hs2 (hd2.trans hd1) hz2
 | ret => exact hq .ret e2 h2 w2 I2 G2 a2 hk hs2 (hd2.trans hd1) hz2
end
end Go.Eng
set_option maxRecDepth 100000
set_option linter.constructorNameAsVariable false
namespace Go.Eng
open Go Go.Proofs
section
variable (T : PV) (a b : Int)
def zd9 (R : PV -> Prop) : Prop :=
 (∃ ps, some T = some (PV.ptr ps) /\ ((∃ ps1, some T = some (PV.ptr ps1) /\ PCall qa 56 [PV.ptr ps, Z3 a] fun v => ∃ n, v = Z6 n /\ PCall qa 56 [PV.ptr ps1, Z3 b] fun v1 => ∃ n1, v1 = Z6 n1 /\ PCall qa 47 [Z6 n, Z6 n1] fun v2 => ∃ n2, v2 = Z6 n2 /\ R (Z6 n2)) ∨ some T = some PV.nilp /\ PCall qa 56 [PV.ptr ps, Z3 a] fun v => ∃ n, v = Z6 n /\ PCall qa 56 [PV.nilp, Z3 b] fun v1 => ∃ n1, v1 = Z6 n1 /\ PCall qa 47 [Z6 n, Z6 n1] fun v2 => ∃ n2, v2 = Z6 n2 /\ R (Z6 n2))) ∨ some T = some PV.nilp /\ ((∃ ps, some T = some (PV.ptr ps) /\ PCall qa 56 [PV.nilp, Z3 a] fun v => ∃ n, v = Z6 n /\ PCall qa 56 [PV.ptr ps, Z3 b] fun v1 => ∃ n1, v1 = Z6 n1 /\ PCall qa 47 [Z6 n, Z6 n1] fun v2 => ∃ n2, v2 = Z6 n2 /\ R (Z6 n2)) ∨ some T = some PV.nilp /\ PCall qa 56 [PV.nilp, Z3 a] fun v => ∃ n, v = Z6 n /\ PCall qa 56 [PV.nilp, Z3 b] fun v1 => ∃ n1, v1 = Z6 n1 /\ PCall qa 47 [Z6 n, Z6 n1] fun v2 => ∃ n2, v2 = Z6 n2 /\ R (Z6 n2))
theorem zmn {R : PV -> Prop} (h : zd9 T a b R) : PCall qa 82 [.int .i32 a, .int .i32 b, .ptr [T]] R :=
 PCall.wz Try.func82 aT [0, 1, 2, 5] bE h
end
def wW (lo hi : Nat) (nl : Bool) (T : PV) (a b : Int) (x8 : Int) (s_0 : LL) : Env × Hp := ([(0, LV.sub 0 lo hi), (1, Y6 a), (2, Y6 b), (3, LV.fn 82 [LV.box 1 0]), (8, Y6 x8)], [.sl (21, 1) false nl s_0, .box [LV.pv T]])
def wX (lo hi : Nat) (nl : Bool) (T : PV) (a b : Int) (x8 x9 : Int) (s_0 : LL) : Env × Hp := ([(0, LV.sub 0 lo hi), (1, Y6 a), (2, Y6 b), (3, LV.fn 82 [LV.box 1 0]), (8, Y6 x8), (9, Y6 x9)], [.sl (21, 1) false nl s_0, .box [LV.pv T]])
section
variable (lo hi : Nat) (nl : Bool) (es : LL) (T : PV) (a b : Int) (J : Int -> LL -> Prop) (μ : Int -> LL -> Nat) (J2 : Int -> Int -> LL -> Int -> Int -> LL -> Prop) (μ2 : Int -> Int -> LL -> Nat)
def zea (R : LV -> Hp -> Prop) : Prop :=
 (aF (wW lo hi nl T a b (i64.wrap (a + 1)) es) /\ J (i64.wrap (a + 1)) es) /\ ∀ (x8 : Int) (s_0 : LL), J x8 s_0 -> if decide (x8 < b) = true then (aF (wX lo hi nl T a b x8 x8 s_0) /\ J2 x8 x8 s_0 x8 x8 s_0) /\ ∀
  (x81 x9 : Int) (s_01 : LL), J2 x8 x8 s_0 x81 x9 s_01 ->
 let V1 := aF (wW lo hi nl T a b (i64.wrap (x81 + 1)) s_01) /\ J (i64.wrap (x81 + 1)) s_01 /\ μ (i64.wrap (x81 + 1)) s_01 < μ x8 s_0; if decide (x9 > a) = true then ((0 : Int) <= x9 /\ x9 < (↑hi : Int) - (↑lo :
  Int) /\ (s_01.getD (lo + x9.toNat) []).length = 1) /\ ∃ n, (qb 0 (s_01.getD (lo + x9.toNat) [])).head? = some (Z3 n) /\
 let V2 := 0 <= i64.wrap (x9 - 1) /\ i64.wrap (x9 - 1) < (↑hi : Int) - (↑lo : Int) /\ (s_01.getD (lo + (i64.wrap (x9 - 1)).toNat) []).length = 1; V2 /\ ∃ n1, (qb 0 (s_01.getD (lo + (i64.wrap (x9 -
  1)).toNat) [])).head? = some (Z3 n1) /\ PCall qa 82 [Z3 n, Z3 n1, PV.ptr [T]] fun v => ∃ n2, v = Z6 n2 /\ true = true /\ if decide (n2 < 0) = true then V2 /\ ∃ n3, (qb 0 (s_01.getD (lo + (i64.wrap
  (x9 - 1)).toNat) [])).head? = some (Z3 n3) /\ ((0 : Int) <= x9 /\ x9 < (↑hi : Int) - (↑lo : Int) /\ (s_01.getD (lo + x9.toNat) []).length = 1) /\ ∃ n4, (qb 0 (s_01.getD (lo + x9.toNat) [])).head? = some (Z3 n4) /\ ((0 : Int) <=
  x9 /\ x9 < (↑hi : Int) - (↑lo : Int) /\ (s_01.getD (lo + x9.toNat) []).length = 1) /\
 let V3 := (1 = 1 /\ 1 <= (s_01.getD (lo + x9.toNat) []).length) /\ ((0 : Int) <= i64.wrap (x9 - 1) /\ i64.wrap (x9 - 1) < (↑hi : Int) - (↑lo : Int) /\ ((s_01.set (lo + x9.toNat) (Z3 n3 :: zq (qb 1
  (s_01.getD (lo + x9.toNat) [])))).getD (lo + (i64.wrap (x9 - 1)).toNat) []).length = 1) /\ (1 = 1 /\ 1 <= ((s_01.set (lo + x9.toNat) (Z3 n3 :: zq (qb 1 (s_01.getD (lo + x9.toNat) [])))).getD (lo +
  (i64.wrap (x9 - 1)).toNat) []).length) /\ aF (wX lo hi nl T a b x81 (i64.wrap (x9 - 1)) ((s_01.set (lo + x9.toNat) (Z3 n3 :: zq (qb 1 (s_01.getD (lo + x9.toNat) [])))).set (lo +
  (i64.wrap (x9 - 1)).toNat) (Z3 n4 :: zq (qb 1 ((s_01.set (lo + x9.toNat) (Z3 n3 :: zq (qb 1 (s_01.getD (lo + x9.toNat) [])))).getD (lo + (i64.wrap (x9 -
  1)).toNat) []))))) /\ J2 x8 x8 s_0 x81 (i64.wrap (x9 - 1)) ((s_01.set (lo + x9.toNat) (Z3 n3 :: zq (qb 1 (s_01.getD (lo + x9.toNat) [])))).set (lo + (i64.wrap (x9 - 1)).toNat) (Z3 n4 ::
  zq (qb 1 ((s_01.set (lo + x9.toNat) (Z3 n3 :: zq (qb 1 (s_01.getD (lo + x9.toNat) [])))).getD (lo + (i64.wrap (x9 - 1)).toNat) [])))) /\ μ2 x81 (i64.wrap
  (x9 - 1)) ((s_01.set (lo + x9.toNat) (Z3 n3 :: zq (qb 1 (s_01.getD (lo + x9.toNat) [])))).set (lo + (i64.wrap (x9 - 1)).toNat) (Z3 n4 :: zq (qb 1 ((s_01.set (lo +
  x9.toNat) (Z3 n3 :: zq (qb 1 (s_01.getD (lo + x9.toNat) [])))).getD (lo + (i64.wrap (x9 - 1)).toNat) [])))) < μ2 x81 x9 s_01; V3 /\ V3 else V1 else V1 else R (LV.tup []) [Ob.sl (21, 1) false nl
  s_0, Ob.box [LV.pv T]]
theorem zmo {R : LV -> Hp -> Prop} (h : zea lo hi nl es T a b J μ J2 μ2 R) : ACall qa 101 [.sub 0 lo hi, .pv (.int .i64 a), .pv (.int .i64 b), .fn 82 [.box 1 0]] [.sl (21, 1) false nl es, .box [.pv T]] R :=
 ACall.wz Try.func101 aT [0, 1, 2, 3, 8, 9, 14, 34] (gY [(1, (bF kC (wW lo hi nl T a b) J μ (fun e h => (gI e 8, oS h 0)) [] [0, 1, 2, 3, 8] [])), (4, (gZ eF (wX lo hi nl T a b) J2 μ2 (fun e h => (gI e 8, gI e 9, oS h 0)) [] [0, 1, 2, 3, 8, 9] []))]) [0, 1] h
end
def wY (lo hi : Nat) (nl : Bool) (T : PV) (a b n : Int) (x10 : Int) (s_0 : LL) : Env × Hp := ([(0, LV.sub 0 lo hi), (1, Y6 a), (2, Y6 b), (3, Y6 n), (10, Y6 x10)], [.sl (21, 1) false nl s_0, .box [LV.pv T]])
section
variable (lo hi : Nat) (nl : Bool) (es : LL) (T : PV) (a b n : Int) (J : Int -> LL -> Prop) (μ : Int -> LL -> Nat)
def zeb (R : LV -> Hp -> Prop) : Prop :=
 (aF (wY lo hi nl T a b n (0 : Int) es) /\ J (0 : Int) es) /\ ∀ (x10 : Int) (s_0 : LL), J x10 s_0 -> if decide (x10 < n) = true then ((0 : Int) <= i64.wrap (b + x10) /\ i64.wrap (b + x10) < (↑hi : Int) - (↑lo : Int) /\
  (s_0.getD (lo + (i64.wrap (b + x10)).toNat) []).length = 1) /\ ∃ n1, (qb 0 (s_0.getD (lo + (i64.wrap (b + x10)).toNat) [])).head? = some (Z3 n1) /\
 let V1 := 0 <= i64.wrap (a + x10) /\ i64.wrap (a + x10) < (↑hi : Int) - (↑lo : Int) /\ (s_0.getD (lo + (i64.wrap (a + x10)).toNat) []).length = 1; V1 /\ ∃ n2, (qb 0 (s_0.getD (lo + (i64.wrap (a +
  x10)).toNat) [])).head? = some (Z3 n2) /\ V1 /\
 let V2 := (1 = 1 /\ 1 <= (s_0.getD (lo + (i64.wrap (a + x10)).toNat) []).length) /\ ((0 : Int) <= i64.wrap (b + x10) /\ i64.wrap (b + x10) < (↑hi : Int) - (↑lo : Int) /\ ((s_0.set (lo + (i64.wrap (a + x10)).toNat)
  (Z3 n1 :: zq (qb 1 (s_0.getD (lo + (i64.wrap (a + x10)).toNat) [])))).getD (lo + (i64.wrap (b + x10)).toNat) []).length = (1 : Nat)) /\ (1 = 1 /\ 1 <= ((s_0.set (lo + (i64.wrap (a +
  x10)).toNat) (Z3 n1 :: zq (qb 1 (s_0.getD (lo + (i64.wrap (a + x10)).toNat) [])))).getD (lo + (i64.wrap (b + x10)).toNat) []).length) /\ aF (wY lo hi nl T a b n (i64.wrap
  (x10 + 1)) ((s_0.set (lo + (i64.wrap (a + x10)).toNat) (Z3 n1 :: zq (qb 1 (s_0.getD (lo + (i64.wrap (a + x10)).toNat) [])))).set (lo + (i64.wrap (b + x10)).toNat) (Z3 n2 ::
  zq (qb 1 ((s_0.set (lo + (i64.wrap (a + x10)).toNat) (Z3 n1 :: zq (qb 1 (s_0.getD (lo + (i64.wrap (a + x10)).toNat) [])))).getD (lo + (i64.wrap (b
  + x10)).toNat) []))))) /\ J (i64.wrap (x10 + 1)) ((s_0.set (lo + (i64.wrap (a + x10)).toNat) (Z3 n1 :: zq (qb 1 (s_0.getD (lo + (i64.wrap (a + x10)).toNat) [])))).set (lo +
  (i64.wrap (b + x10)).toNat) (Z3 n2 :: zq (qb 1 ((s_0.set (lo + (i64.wrap (a + x10)).toNat) (Z3 n1 :: zq (qb 1 (s_0.getD (lo + (i64.wrap (a +
  x10)).toNat) [])))).getD (lo + (i64.wrap (b + x10)).toNat) [])))) /\ μ (i64.wrap (x10 + 1)) ((s_0.set (lo + (i64.wrap (a + x10)).toNat) (Z3 n1 :: zq (qb 1 (s_0.getD (lo +
  (i64.wrap (a + x10)).toNat) [])))).set (lo + (i64.wrap (b + x10)).toNat) (Z3 n2 :: zq (qb 1 ((s_0.set (lo + (i64.wrap (a + x10)).toNat) (Z3 n1 :: zq
  (qb 1 (s_0.getD (lo + (i64.wrap (a + x10)).toNat) [])))).getD (lo + (i64.wrap (b + x10)).toNat) [])))) < μ x10 s_0; V2 /\ V2 else R (LV.tup []) [Ob.sl (21, 1) false nl s_0, Ob.box [LV.pv T]]
theorem zmp {R : LV -> Hp -> Prop} (h : zeb lo hi nl es T a b n J μ R) : ACall qa 105 [.sub 0 lo hi, .pv (.int .i64 a), .pv (.int .i64 b), .pv (.int .i64 n), .fn 82 [.box 1 0]] [.sl (21, 1) false nl es, .box [.pv T]] R :=
 ACall.wz Try.func105 aT [0, 1, 2, 3, 10, 13] (dB 1 (bF kC (wY lo hi nl T a b n) J μ (fun e h => (gI e 10, oS h 0)) [] [0, 1, 2, 3, 10] [])) [0, 1] h
end
def wZ (lo hi : Nat) (nl : Bool) (T : PV) (m x10 x11 : Int) (s_0 : LL) : Env × Hp := ([(0, LV.sub 0 lo hi), (2, Y6 m), (4, LV.fn 82 [LV.box 1 0]), (10, Y6 x10), (11, Y6 x11)], [.sl (21, 1) false nl s_0, .box [LV.pv T]])
section
variable (lo hi : Nat) (nl : Bool) (es : LL) (T : PV) (a m b : Int) (J : Int -> Int -> LL -> Prop) (μ : Int -> Int -> LL -> Nat)
def zec (R : LV -> Hp -> Prop) : Prop :=
 (aF (wZ lo hi nl T m (i64.wrap (m - a)) (i64.wrap (b - m)) es) /\ J (i64.wrap (m - a)) (i64.wrap (b - m)) es) /\ ∀ (x10 x11 : Int) (s_0 : LL), J x10 x11 s_0 ->
 let K2 := fun (y0_ y1_ : Int) (y2_ : LL) => aF (wZ lo hi nl T m y0_ y1_ y2_) /\ J y0_ y1_ y2_ /\ μ y0_ y1_ y2_ < μ x10 x11 s_0; if (x10 != x11) = true then if decide (x10 > x11) = true then ACall qa 105 [LV.sub 0 lo hi, LV.pv (Z6 (i64.wrap (m - x10))), Y6 m, Y6 x11, LV.fn 82 [LV.box 1 0]] [Ob.sl (21, 1) false nl s_0, Ob.box [LV.pv T]] fun (r : LV) (h' : Hp) => ∃ (t : LL), (r = LV.tup [] /\ h' = [Ob.sl (21, 1) false nl t, Ob.box [LV.pv T]]) /\ (True /\ ((21, 1) = (21, 1) /\ nl = nl /\ s_0.length = t.length) /\ True) /\ K2 (i64.wrap (x10 - x11)) x11 t else ACall qa 105 [LV.sub 0 lo hi, LV.pv (Z6 (i64.wrap (m - x10))), LV.pv (Z6 (i64.wrap (i64.wrap (m + x11) - x10))), Y6 x10, LV.fn 82 [LV.box 1 0]] [Ob.sl (21, 1) false nl s_0, Ob.box [LV.pv T]] fun (r : LV) (h' : Hp) => ∃ (t : LL), (r = LV.tup [] /\ h' = [Ob.sl (21, 1) false nl t, Ob.box [LV.pv T]]) /\ (True /\ ((21, 1) = (21, 1) /\ nl = nl /\ s_0.length = t.length) /\ True) /\ K2 x10 (i64.wrap (x11 - x10)) t else ACall qa 105 [LV.sub 0 lo hi, LV.pv (Z6 (i64.wrap (m - x10))), Y6 m, Y6 x10, LV.fn 82 [LV.box 1 0]] [Ob.sl ((21 : Nat), 1) false nl s_0, Ob.box [LV.pv T]] fun (r : LV) (h' : Hp) => ∃ (t : LL), (r = LV.tup [] /\ h' = [Ob.sl (21, 1) false nl t, Ob.box [LV.pv T]]) /\ (True /\ ((21, 1) = (21, (1 : Nat)) /\ nl = nl /\ s_0.length = t.length) /\ True) /\ R (LV.tup []) [Ob.sl (21, 1) false nl t, Ob.box [LV.pv T]]
theorem zmq {R : LV -> Hp -> Prop} (h : zec lo hi nl es T a m b J μ R) : ACall qa 104 [.sub 0 lo hi, .pv (.int .i64 a), .pv (.int .i64 m), .pv (.int .i64 b), .fn 82 [.box 1 0]] [.sl (21, 1) false nl es, .box [.pv T]] R :=
 ACall.wz Try.func104 (fun zz_ => match zz_ with | 105 => some ⟨LL, fun _ hs t => (.tup [], match hs with | [.sl ty m nl _, b] => [.sl ty m nl t, b] | h => h), none⟩ | _ => none) [0, 1, 2, 3, 4, 10, 11, 20, 23] (dB 2 (bF eF (wZ lo hi nl T m) J μ (fun e h => (gI e 10, gI e 11, oS h 0)) [] [0, 2, 4, 10, 11] [])) [0, 1] h
end
def w7 (lo hi : Nat) (nl : Bool) (T : PV) (a x10 x11 : Int) (s_0 : LL) : Env × Hp := ([(0, LV.sub 0 lo hi), (1, Y6 a), (4, LV.fn 82 [LV.box 1 0]), (10, Y6 x10), (11, Y6 x11)], [.sl (21, 1) false nl s_0, .box [LV.pv T]])
def w8 (lo hi : Nat) (nl : Bool) (T : PV) (x10 x13 : Int) (s_0 : LL) : Env × Hp := ([(0, LV.sub 0 lo hi), (10, Y6 x10), (13, Y6 x13)], [.sl (21, 1) false nl s_0, .box [LV.pv T]])
def w9 (lo hi : Nat) (nl : Bool) (T : PV) (m x14 x15 : Int) (s_0 : LL) : Env × Hp := ([(0, LV.sub 0 lo hi), (2, Y6 m), (4, LV.fn 82 [LV.box 1 0]), (14, Y6 x14), (15, Y6 x15)], [.sl (21, 1) false nl s_0, .box [LV.pv T]])
def xA (lo hi : Nat) (nl : Bool) (T : PV) (x14 x17 : Int) (s_0 : LL) : Env × Hp := ([(0, LV.sub 0 lo hi), (14, Y6 x14), (17, Y6 x17)], [.sl (21, 1) false nl s_0, .box [LV.pv T]])
def sY (lo hi : Nat) (nl : Bool) (T : PV) (a m b : Int) (x20 x21 : Int) (s_0 : LL) : Env × Hp := ([(0, LV.sub 0 lo hi), (1, Y6 a), (2, Y6 m), (3, Y6 b), (4, LV.fn 82 [LV.box 1 0]), (18, LV.pv (PV.int i64 (i64.wrap ((IntKind.u64.wrap (i64.wrap (a + b))).fdiv (2 ^ 1))))), (19, LV.pv (PV.int i64 (i64.wrap (i64.wrap ((IntKind.u64.wrap (i64.wrap (a + b))).fdiv (2 ^ 1)) + m)))), (20, Y6 x20), (21, Y6 x21), (22, LV.pv (PV.int i64 (i64.wrap (i64.wrap (i64.wrap ((IntKind.u64.wrap (i64.wrap (a + b))).fdiv (2 ^ 1)) + m) - 1))))], [.sl (21, 1) false nl s_0, .box [LV.pv T]])
section
variable (lo hi : Nat) (nl : Bool) (es : LL) (T : PV) (a m b : Int) (J : Int -> Int -> LL -> Prop) (μ : Int -> Int -> LL -> Nat) (J4 : Int -> Int -> LL -> Prop) (μ4 : Int -> Int -> LL -> Nat) (J2 : Int -> Int -> LL -> Prop) (μ2 : Int -> Int -> LL -> Nat) (J5 : Int -> Int -> LL -> Prop) (μ5 : Int -> Int -> LL -> Nat) (J3 : Int -> Int -> LL -> Prop) (μ3 : Int -> Int -> LL -> Nat)
def sZ (R : LV -> Hp -> Prop) : Prop :=
 if (i64.wrap (m - a) == 1) = true then (aF (w7 lo hi nl T a m b es) /\ J m b es) /\ ∀ (x10 x11 : Int) (s_0 : LL), J x10 x11 s_0 ->
 let K3 := fun (y0_ y1_ : Int) (y2_ : LL) => aF (w7 lo hi nl T a y0_ y1_ y2_) /\ J y0_ y1_ y2_ /\ μ y0_ y1_ y2_ < μ x10 x11 s_0; if decide (x10 < x11) = true then ((0 : Int) <= i64.wrap ((IntKind.u64.wrap
  (i64.wrap (x10 + x11))).fdiv ((2 : Int) ^ 1)) /\ i64.wrap ((IntKind.u64.wrap (i64.wrap (x10 + x11))).fdiv ((2 : Int) ^ 1)) < (↑hi : Int) - (↑lo : Int) /\ (s_0.getD (lo + (i64.wrap ((IntKind.u64.wrap
  (i64.wrap (x10 + x11))).fdiv ((2 : Int) ^ 1))).toNat) []).length = 1) /\ ∃ n, (qb 0 (s_0.getD (lo + (i64.wrap ((IntKind.u64.wrap (i64.wrap (x10 + x11))).fdiv ((2 : Int) ^ 1))).toNat) [])).head? =
  some (Z3 n) /\ ((0 : Int) <= a /\ a < (↑hi : Int) - (↑lo : Int) /\ (s_0.getD (lo + a.toNat) []).length = 1) /\ ∃ n1, (qb 0 (s_0.getD (lo + a.toNat) [])).head? = some (Z3 n1) /\ PCall qa 82 [Z3 n, Z3 n1, PV.ptr [T]] fun (v
  : PV) => ∃ n2, v = Z6 n2 /\ true = true /\ if decide (n2 < 0) = true then K3 (i64.wrap (i64.wrap ((IntKind.u64.wrap (i64.wrap (x10 + x11))).fdiv ((2 : Int) ^ 1)) + 1)) x11 s_0 else K3 x10 (i64.wrap
  ((IntKind.u64.wrap (i64.wrap (x10 + x11))).fdiv ((2 : Int) ^ 1))) s_0 else (aF (w8 lo hi nl T x10 a s_0) /\ J4 x10 a s_0) /\ ∀ (x101 x13 : Int) (s_01 : LL), J4 x101 x13 s_01 -> if decide (x13 < i64.wrap (x101 - 1)) =
  true then ((0 : Int) <= i64.wrap (x13 + 1) /\ i64.wrap (x13 + 1) < (↑hi : Int) - (↑lo : Int) /\ (s_01.getD (lo + (i64.wrap (x13 + 1)).toNat) []).length = 1) /\ ∃ n, (qb 0 (s_01.getD (lo +
  (i64.wrap (x13 + 1)).toNat) [])).head? = some (Z3 n) /\ ((0 : Int) <= x13 /\ x13 < (↑hi : Int) - (↑lo : Int) /\ (s_01.getD (lo + x13.toNat) []).length = 1) /\ ∃ n1, (qb 0 (s_01.getD (lo + x13.toNat) [])).head? = some
  (Z3 n1) /\ ((0 : Int) <= x13 /\ x13 < (↑hi : Int) - (↑lo : Int) /\ (s_01.getD (lo + x13.toNat) []).length = 1) /\
 let V1 := (1 = 1 /\ 1 <= (s_01.getD (lo + x13.toNat) []).length) /\ ((0 : Int) <= i64.wrap (x13 + 1) /\ i64.wrap (x13 + 1) < (↑hi : Int) - (↑lo : Int) /\ ((s_01.set (lo + x13.toNat) (Z3 n :: zq
  (qb 1 (s_01.getD (lo + x13.toNat) [])))).getD (lo + (i64.wrap (x13 + 1)).toNat) []).length = 1) /\ (1 = 1 /\ 1 <= ((s_01.set (lo + x13.toNat) (Z3 n :: zq (qb 1 (s_01.getD (lo + x13.toNat)
  [])))).getD (lo + (i64.wrap (x13 + 1)).toNat) []).length) /\ aF (w8 lo hi nl T x101 (i64.wrap (x13 + 1)) ((s_01.set (lo + x13.toNat) (Z3 n :: zq (qb 1 (s_01.getD (lo + x13.toNat)
  [])))).set (lo + (i64.wrap (x13 + 1)).toNat) (Z3 n1 :: zq (qb 1 ((s_01.set (lo + x13.toNat) (Z3 n :: zq (qb 1 (s_01.getD (lo + x13.toNat) [])))).getD (lo +
  (i64.wrap (x13 + 1)).toNat) []))))) /\ J4 x101 (i64.wrap (x13 + 1)) ((s_01.set (lo + x13.toNat) (Z3 n :: zq (qb 1 (s_01.getD (lo + x13.toNat) [])))).set (lo + (i64.wrap (x13 +
  1)).toNat) (Z3 n1 :: zq (qb 1 ((s_01.set (lo + x13.toNat) (Z3 n :: zq (qb 1 (s_01.getD (lo + x13.toNat) [])))).getD (lo + (i64.wrap (x13 + 1)).toNat) [])))) /\ μ4
  x101 (i64.wrap (x13 + 1)) ((s_01.set (lo + x13.toNat) (Z3 n :: zq (qb 1 (s_01.getD (lo + x13.toNat) [])))).set (lo + (i64.wrap (x13 + 1)).toNat) (Z3 n1 :: zq
  (qb 1 ((s_01.set (lo + x13.toNat) (Z3 n :: zq (qb 1 (s_01.getD (lo + x13.toNat) [])))).getD (lo + (i64.wrap (x13 + 1)).toNat) [])))) < μ4 x101 x13 s_01; V1 /\ V1 else R (LV.tup []) [Ob.sl
  (21, 1) false nl s_01, Ob.box [LV.pv T]] else if (i64.wrap (b - m) == 1) = true then (aF (w9 lo hi nl T m a m es) /\ J2 a m es) /\ ∀ (x14 x15 : Int) (s_0 : LL), J2 x14 x15 s_0 ->
 let K15 := fun (y0_ y1_ : Int) (y2_ : LL) => aF (w9 lo hi nl T m y0_ y1_ y2_) /\ J2 y0_ y1_ y2_ /\ μ2 y0_ y1_ y2_ < μ2 x14 x15 s_0; if decide (x14 < x15) = true then ((0 : Int) <= m /\ m < (↑hi : Int) - (↑lo : Int) /\ (s_0.getD
  (lo + m.toNat) []).length = 1) /\ ∃ n, (qb 0 (s_0.getD (lo + m.toNat) [])).head? = some (Z3 n) /\ ((0 : Int) <= i64.wrap ((IntKind.u64.wrap (i64.wrap (x14 + x15))).fdiv ((2 : Int) ^ 1)) /\ i64.wrap
  ((IntKind.u64.wrap (i64.wrap (x14 + x15))).fdiv ((2 : Int) ^ 1)) < (↑hi : Int) - (↑lo : Int) /\ (s_0.getD (lo + (i64.wrap ((IntKind.u64.wrap (i64.wrap (x14 + x15))).fdiv ((2 : Int) ^ 1))).toNat) []).length = 1) /\ ∃
  (n1 : Int), (qb 0 (s_0.getD (lo + (i64.wrap ((IntKind.u64.wrap (i64.wrap (x14 + x15))).fdiv ((2 : Int) ^ 1))).toNat) [])).head? = some (Z3 n1) /\ PCall qa 82 [Z3 n, Z3 n1, PV.ptr [T]] fun v => ∃ (n2 :
  Int), v = Z6 n2 /\ true = true /\ if (!decide (n2 < 0)) = true then K15 (i64.wrap (i64.wrap ((IntKind.u64.wrap (i64.wrap (x14 + x15))).fdiv ((2 : Int) ^ 1)) + 1)) x15 s_0 else K15 x14 (i64.wrap
  ((IntKind.u64.wrap (i64.wrap (x14 + x15))).fdiv ((2 : Int) ^ 1))) s_0 else (aF (xA lo hi nl T x14 m s_0) /\ J5 x14 m s_0) /\ ∀ (x141 x17 : Int) (s_01 : LL), J5 x141 x17 s_01 -> if decide (x17 > x141) = true then ((0 : Int) <=
  i64.wrap (x17 - 1) /\ i64.wrap (x17 - 1) < (↑hi : Int) - (↑lo : Int) /\ (s_01.getD (lo + (i64.wrap (x17 - 1)).toNat) []).length = 1) /\ ∃ n, (qb 0 (s_01.getD (lo + (i64.wrap (x17 - 1)).toNat)
  [])).head? = some (Z3 n) /\ ((0 : Int) <= x17 /\ x17 < (↑hi : Int) - (↑lo : Int) /\ (s_01.getD (lo + x17.toNat) []).length = 1) /\ ∃ n1, (qb 0 (s_01.getD (lo + x17.toNat) [])).head? = some (Z3 n1) /\ ((0 : Int) <= x17 /\ x17 <
  (↑hi : Int) - (↑lo : Int) /\ (s_01.getD (lo + x17.toNat) []).length = 1) /\
 let V2 := (1 = 1 /\ 1 <= (s_01.getD (lo + x17.toNat) []).length) /\ ((0 : Int) <= i64.wrap (x17 - 1) /\ i64.wrap (x17 - 1) < (↑hi : Int) - (↑lo : Int) /\ ((s_01.set (lo + x17.toNat) (Z3 n :: zq
  (qb 1 (s_01.getD (lo + x17.toNat) [])))).getD (lo + (i64.wrap (x17 - 1)).toNat) []).length = 1) /\ (1 = 1 /\ 1 <= ((s_01.set (lo + x17.toNat) (Z3 n :: zq (qb 1 (s_01.getD (lo + x17.toNat)
  [])))).getD (lo + (i64.wrap (x17 - 1)).toNat) []).length) /\ aF (xA lo hi nl T x141 (i64.wrap (x17 - 1)) ((s_01.set (lo + x17.toNat) (Z3 n :: zq (qb 1 (s_01.getD (lo + x17.toNat)
  [])))).set (lo + (i64.wrap (x17 - 1)).toNat) (Z3 n1 :: zq (qb 1 ((s_01.set (lo + x17.toNat) (Z3 n :: zq (qb 1 (s_01.getD (lo + x17.toNat) [])))).getD (lo +
  (i64.wrap (x17 - 1)).toNat) []))))) /\ J5 x141 (i64.wrap (x17 - 1)) ((s_01.set (lo + x17.toNat) (Z3 n :: zq (qb 1 (s_01.getD (lo + x17.toNat) [])))).set (lo + (i64.wrap (x17 -
  1)).toNat) (Z3 n1 :: zq (qb 1 ((s_01.set (lo + x17.toNat) (Z3 n :: zq (qb 1 (s_01.getD (lo + x17.toNat) [])))).getD (lo + (i64.wrap (x17 - 1)).toNat) [])))) /\ μ5
  x141 (i64.wrap (x17 - 1)) ((s_01.set (lo + x17.toNat) (Z3 n :: zq (qb 1 (s_01.getD (lo + x17.toNat) [])))).set (lo + (i64.wrap (x17 - 1)).toNat) (Z3 n1 :: zq
  (qb 1 ((s_01.set (lo + x17.toNat) (Z3 n :: zq (qb 1 (s_01.getD (lo + x17.toNat) [])))).getD (lo + (i64.wrap (x17 - 1)).toNat) [])))) < μ5 x141 x17 s_01; V2 /\ V2 else R (LV.tup []) [Ob.sl
  (21, 1) false nl s_01, Ob.box [LV.pv T]] else
 let V3 := ∀ (x20 x21 : Int) (s_0 : LL), J3 x20 x21 s_0 ->
 let K33 := fun (y0_ y1_ : Int) (y2_ : LL) => aF (sY lo hi nl T a m b y0_ y1_ y2_) /\ J3 y0_ y1_ y2_ /\ μ3 y0_ y1_ y2_ < μ3 x20 x21 s_0; if decide (x20 < x21) = true then ((0 : Int) <= i64.wrap (i64.wrap
  (i64.wrap (i64.wrap ((IntKind.u64.wrap (i64.wrap (a + b))).fdiv ((2 : Int) ^ 1)) + m) - 1) - i64.wrap ((IntKind.u64.wrap (i64.wrap (x20 + x21))).fdiv ((2 : Int) ^ 1))) /\ i64.wrap
  (i64.wrap (i64.wrap (i64.wrap ((IntKind.u64.wrap (i64.wrap (a + b))).fdiv ((2 : Int) ^ 1)) + m) - 1) - i64.wrap ((IntKind.u64.wrap (i64.wrap (x20 + x21))).fdiv ((2 : Int) ^ 1))) < (↑hi :
  Int) - (↑lo : Int) /\ (s_0.getD (lo + (i64.wrap (i64.wrap (i64.wrap (i64.wrap ((IntKind.u64.wrap (i64.wrap (a + b))).fdiv ((2 : Int) ^ 1)) + m) - 1) - i64.wrap ((IntKind.u64.wrap
  (i64.wrap (x20 + x21))).fdiv ((2 : Int) ^ 1)))).toNat) []).length = 1) /\ ∃ n, (qb 0 (s_0.getD (lo + (i64.wrap (i64.wrap (i64.wrap (i64.wrap ((IntKind.u64.wrap (i64.wrap (a +
  b))).fdiv ((2 : Int) ^ 1)) + m) - 1) - i64.wrap ((IntKind.u64.wrap (i64.wrap (x20 + x21))).fdiv ((2 : Int) ^ 1)))).toNat) [])).head? = some (Z3 n) /\ ((0 : Int) <= i64.wrap ((IntKind.u64.wrap (i64.wrap (x20
  + x21))).fdiv ((2 : Int) ^ 1)) /\ i64.wrap ((IntKind.u64.wrap (i64.wrap (x20 + x21))).fdiv ((2 : Int) ^ 1)) < (↑hi : Int) - (↑lo : Int) /\ (s_0.getD (lo + (i64.wrap ((IntKind.u64.wrap (i64.wrap (x20 +
  x21))).fdiv ((2 : Int) ^ 1))).toNat) []).length = 1) /\ ∃ n1, (qb 0 (s_0.getD (lo + (i64.wrap ((IntKind.u64.wrap (i64.wrap (x20 + x21))).fdiv ((2 : Int) ^ 1))).toNat) [])).head? = some (Z3 n1) /\ PCall
  qa 82 [Z3 n, Z3 n1, PV.ptr [T]] fun v => ∃ n2, v = Z6 n2 /\ true = true /\ if (!decide (n2 < 0)) = true then K33 (i64.wrap (i64.wrap ((IntKind.u64.wrap (i64.wrap (x20 + x21))).fdiv ((2 : Int) ^
  1)) + 1)) x21 s_0 else K33 x20 (i64.wrap ((IntKind.u64.wrap (i64.wrap (x20 + x21))).fdiv ((2 : Int) ^ 1))) s_0 else if (decide (x20 < m) && decide (m < i64.wrap (i64.wrap (i64.wrap
  ((IntKind.u64.wrap (i64.wrap (a + b))).fdiv ((2 : Int) ^ 1)) + m) - x20))) = true then ACall qa 104 [LV.sub 0 lo hi, Y6 x20, Y6 m, LV.pv (Z6 (i64.wrap (i64.wrap (i64.wrap ((IntKind.u64.wrap
  (i64.wrap (a + b))).fdiv ((2 : Int) ^ 1)) + m) - x20))), LV.fn 82 [LV.box 1 0]] [Ob.sl (21, 1) false nl s_0, Ob.box [LV.pv T]] fun (r : LV) (h' : Hp) => ∃ (t : LL), (r = LV.tup [] /\ h' = [Ob.sl (21, 1) false nl t, Ob.box [LV.pv
  T]]) /\ (True /\ ((21, 1) = (21, 1) /\ nl = nl /\ s_0.length = t.length) /\ True) /\ if (decide (a < x20) && decide (x20 < i64.wrap ((IntKind.u64.wrap (i64.wrap (a + b))).fdiv ((2 : Int) ^ 1)))) = true then ACall qa 102
  [LV.sub 0 lo hi, Y6 a, Y6 x20, LV.pv (Z6 (i64.wrap ((IntKind.u64.wrap (i64.wrap (a + b))).fdiv ((2 : Int) ^ 1)))), LV.fn 82 [LV.box 1 0]] [Ob.sl (21, 1) false nl t, Ob.box [LV.pv T]] fun (r1 : LV) (h'1 : Hp) => ∃ (t1 :
  LL), (r1 = LV.tup [] /\ h'1 = [Ob.sl (21, 1) false nl t1, Ob.box [LV.pv T]]) /\ (True /\ ((21, 1) = (21, 1) /\ nl = nl /\ t.length = t1.length) /\ True) /\ if (decide (i64.wrap ((IntKind.u64.wrap (i64.wrap (a + b))).fdiv ((2 :
  Int) ^ 1)) < i64.wrap (i64.wrap (i64.wrap ((IntKind.u64.wrap (i64.wrap (a + b))).fdiv ((2 : Int) ^ 1)) + m) - x20)) && decide (i64.wrap (i64.wrap (i64.wrap ((IntKind.u64.wrap
  (i64.wrap (a + b))).fdiv ((2 : Int) ^ 1)) + m) - x20) < b)) = true then ACall qa 102 [LV.sub 0 lo hi, LV.pv (Z6 (i64.wrap ((IntKind.u64.wrap (i64.wrap (a + b))).fdiv ((2 : Int) ^ 1)))), LV.pv (Z6
  (i64.wrap (i64.wrap (i64.wrap ((IntKind.u64.wrap (i64.wrap (a + b))).fdiv ((2 : Int) ^ 1)) + m) - x20))), Y6 b, LV.fn 82 [LV.box 1 0]] [Ob.sl (21, 1) false nl t1, Ob.box [LV.pv T]] fun (r2 : LV) (h'2 : Hp)
  => ∃ (t2 : LL), (r2 = LV.tup [] /\ h'2 = [Ob.sl (21, 1) false nl t2, Ob.box [LV.pv T]]) /\ (True /\ ((21, 1) = ((21 : Nat), 1) /\ nl = nl /\ t1.length = t2.length) /\ True) /\ R (LV.tup []) [Ob.sl (21, 1) false nl t2, Ob.box [LV.pv T]] else R
  (LV.tup []) [Ob.sl (21, 1) false nl t1, Ob.box [LV.pv T]] else if (decide (i64.wrap ((IntKind.u64.wrap (i64.wrap (a + b))).fdiv ((2 : Int) ^ 1)) < i64.wrap (i64.wrap (i64.wrap ((IntKind.u64.wrap
  (i64.wrap (a + b))).fdiv ((2 : Int) ^ 1)) + m) - x20)) && decide (i64.wrap (i64.wrap (i64.wrap ((IntKind.u64.wrap (i64.wrap (a + b))).fdiv ((2 : Int) ^ 1)) + m) - x20) < b)) = true then ACall
  qa 102 [LV.sub 0 lo hi, LV.pv (Z6 (i64.wrap ((IntKind.u64.wrap (i64.wrap (a + b))).fdiv ((2 : Int) ^ 1)))), LV.pv (Z6 (i64.wrap (i64.wrap (i64.wrap ((IntKind.u64.wrap (i64.wrap (a +
  b))).fdiv ((2 : Int) ^ (1 : Nat))) + m) - x20))), Y6 b, LV.fn 82 [LV.box 1 0]] [Ob.sl (21, 1) false nl t, Ob.box [LV.pv T]] fun (r1 : LV) (h'1 : Hp) => ∃ (t1 : LL), (r1 = LV.tup [] /\ h'1 = [Ob.sl (21, 1) false nl t1, Ob.box [LV.pv T]]) /\
  (True /\ ((21, 1) = (21, 1) /\ nl = nl /\ t.length = t1.length) /\ True) /\ R (LV.tup []) [Ob.sl (21, 1) false nl t1, Ob.box [LV.pv T]] else R (LV.tup []) [Ob.sl (21, 1) false nl t, Ob.box [LV.pv T]] else if (decide (a < x20) && decide (x20 <
  i64.wrap ((IntKind.u64.wrap (i64.wrap (a + b))).fdiv ((2 : Int) ^ 1)))) = true then ACall qa 102 [LV.sub 0 lo hi, Y6 a, Y6 x20, LV.pv (Z6 (i64.wrap ((IntKind.u64.wrap (i64.wrap (a + b))).fdiv ((2 :
  Int) ^ 1)))), LV.fn 82 [LV.box 1 0]] [Ob.sl (21, 1) false nl s_0, Ob.box [LV.pv T]] fun (r : LV) (h' : Hp) => ∃ (t : LL), (r = LV.tup [] /\ h' = [Ob.sl (21, 1) false nl t, Ob.box [LV.pv T]]) /\ (True /\ ((21, 1) = (21, 1) /\ nl = nl /\
  s_0.length = t.length) /\ True) /\ if (decide (i64.wrap ((IntKind.u64.wrap (i64.wrap (a + b))).fdiv ((2 : Int) ^ 1)) < i64.wrap (i64.wrap (i64.wrap ((IntKind.u64.wrap (i64.wrap (a + b))).fdiv
  ((2 : Int) ^ (1 : Nat))) + m) - x20)) && decide (i64.wrap (i64.wrap (i64.wrap ((IntKind.u64.wrap (i64.wrap (a + b))).fdiv ((2 : Int) ^ 1)) + m) - x20) < b)) = true then ACall qa 102 [LV.sub 0 lo hi,
  LV.pv (Z6 (i64.wrap ((IntKind.u64.wrap (i64.wrap (a + b))).fdiv ((2 : Int) ^ 1)))), LV.pv (Z6 (i64.wrap (i64.wrap (i64.wrap ((IntKind.u64.wrap (i64.wrap (a + b))).fdiv ((2 : Int) ^ 1)) + m)
  - x20))), Y6 b, LV.fn 82 [LV.box 1 0]] [Ob.sl (21, 1) false nl t, Ob.box [LV.pv T]] fun (r1 : LV) (h'1 : Hp) => ∃ (t1 : LL), (r1 = LV.tup [] /\ h'1 = [Ob.sl (21, 1) false nl t1, Ob.box [LV.pv T]]) /\ (True /\ ((21, 1) = (21, 1) /\ nl = nl /\
  t.length = t1.length) /\ True) /\ R (LV.tup []) [Ob.sl (21, 1) false nl t1, Ob.box [LV.pv T]] else R (LV.tup []) [Ob.sl (21, 1) false nl t, Ob.box [LV.pv T]] else if (decide (i64.wrap ((IntKind.u64.wrap (i64.wrap (a +
  b))).fdiv ((2 : Int) ^ 1)) < i64.wrap (i64.wrap (i64.wrap ((IntKind.u64.wrap (i64.wrap (a + b))).fdiv ((2 : Int) ^ 1)) + m) - x20)) && decide (i64.wrap (i64.wrap (i64.wrap
  ((IntKind.u64.wrap (i64.wrap (a + b))).fdiv ((2 : Int) ^ 1)) + m) - x20) < b)) = true then ACall qa 102 [LV.sub 0 lo hi, LV.pv (Z6 (i64.wrap ((IntKind.u64.wrap (i64.wrap (a + b))).fdiv ((2 : Int) ^ 1)))),
  LV.pv (Z6 (i64.wrap (i64.wrap (i64.wrap ((IntKind.u64.wrap (i64.wrap (a + b))).fdiv ((2 : Int) ^ 1)) + m) - x20))), Y6 b, LV.fn 82 [LV.box 1 0]] [Ob.sl (21, 1) false nl s_0, Ob.box [LV.pv T]] fun (r : LV)
  (h' : Hp) => ∃ (t : LL), (r = LV.tup [] /\ h' = [Ob.sl (21, 1) false nl t, Ob.box [LV.pv T]]) /\ (True /\ ((21, 1) = (21, 1) /\ nl = nl /\ s_0.length = t.length) /\ True) /\ R (LV.tup []) [Ob.sl (21, (1 : Nat)) false nl t, Ob.box [LV.pv T]] else
  R (LV.tup []) [Ob.sl (21, 1) false nl s_0, Ob.box [LV.pv T]]; if decide (m > i64.wrap ((IntKind.u64.wrap (i64.wrap (a + b))).fdiv ((2 : Int) ^ 1))) = true then (aF (sY lo hi nl T a m b (i64.wrap
  (i64.wrap (i64.wrap ((IntKind.u64.wrap (i64.wrap (a + b))).fdiv ((2 : Int) ^ 1)) + m) - b)) (i64.wrap ((IntKind.u64.wrap (i64.wrap (a + b))).fdiv ((2 : Int) ^ 1))) es) /\ J3 (i64.wrap
  (i64.wrap (i64.wrap ((IntKind.u64.wrap (i64.wrap (a + b))).fdiv ((2 : Int) ^ 1)) + m) - b)) (i64.wrap ((IntKind.u64.wrap (i64.wrap (a + b))).fdiv ((2 : Int) ^ 1))) es) /\ V3 else (aF (sY lo
  hi nl T a m b a m es) /\ J3 a m es) /\ V3
theorem xB {R : LV -> Hp -> Prop} (h : sZ lo hi nl es T a m b J μ J4 μ4 J2 μ2 J5 μ5 J3 μ3 R) : ACall qa 102 [.sub 0 lo hi, .pv (.int .i64 a), .pv (.int .i64 m), .pv (.int .i64 b), .fn 82 [.box 1 0]] [.sl (21, 1) false nl es, .box [.pv T]] R :=
 ACall.wz Try.func102 (fun zz_ => match zz_ with | 104 => some ⟨LL, fun _ hs t => (.tup [], match hs with | [.sl ty m nl _, b] => [.sl ty m nl t, b] | h => h), none⟩ | 102 => some ⟨LL, fun _ hs t => (.tup [], match hs with | [.sl ty m nl _, b] => [.sl ty m nl t, b] | h => h), none⟩ | _ => none) [0, 1, 2, 3, 4, 10, 11, 12, 13, 14, 15, 16, 17, 18, 19, 20, 21, 22, 23, 24, 28, 33, 50, 58, 80, 85, 103, 110, 140, 151, 171, 185, 199, 213] (gY [(3, (bF eF (w7 lo hi nl T a) J μ (fun e h => (gI e 10, gI e 11, oS h 0)) [] [0, 1, 4, 10, 11] [])), (9, (bF eF (w8 lo hi nl T) J4 μ4 (fun e h => (gI e 10, gI e 13, oS h 0)) [] [0, 10, 13] [])), (15, (bF eF (w9 lo hi nl T m) J2 μ2 (fun e h => (gI e 14, gI e 15, oS h 0)) [] [0, 2, 4, 14, 15] [])), (21, (bF eF (xA lo hi nl T) J5 μ5 (fun e h => (gI e 14, gI e 17, oS h 0)) [] [0, 14, 17] [])), (33, (bF eF (sY lo hi nl T a m b) J3 μ3 (fun e h => (gI e 20, gI e 21, oS h 0)) [] [0, 1, 2, 3, 4, 18, 19, 20, 21, 22] []))]) [0, 1] h
end
def xC (lo hi : Nat) (nl : Bool) (T : PV) (n x7 x8 : Int) (s_0 : LL) : Env × Hp := ([(0, LV.sub 0 lo hi), (1, Y6 n), (2, LV.fn 82 [LV.box 1 0]), (6, Y6 20), (7, Y6 x7), (8, Y6 x8)], [.sl (21, 1) false nl s_0, .box [LV.pv T]])
def xD (lo hi : Nat) (nl : Bool) (T : PV) (n x6 : Int) (s_0 : LL) : Env × Hp := ([(0, LV.sub 0 lo hi), (1, Y6 n), (2, LV.fn 82 [LV.box 1 0]), (6, Y6 x6)], [.sl (21, 1) false nl s_0, .box [LV.pv T]])
def xE (lo hi : Nat) (nl : Bool) (T : PV) (n x6 x7 x8 : Int) (s_0 : LL) : Env × Hp := ([(0, LV.sub 0 lo hi), (1, Y6 n), (2, LV.fn 82 [LV.box 1 0]), (6, Y6 x6), (7, Y6 x7), (8, Y6 x8)], [.sl (21, 1) false nl s_0, .box [LV.pv T]])
section
variable (lo hi : Nat) (nl : Bool) (es : LL) (T : PV) (n : Int) (J : Int -> Int -> LL -> Prop) (μ : Int -> Int -> LL -> Nat) (J2 : Int -> LL -> Prop) (μ2 : Int -> LL -> Nat) (J3 : Int -> Int -> Int -> LL -> Int -> Int -> Int -> LL -> Prop) (μ3 : Int -> Int -> Int -> LL -> Nat)
def zed (R : LV -> Hp -> Prop) : Prop :=
 (aF (xC lo hi nl T n (0 : Int) (20 : Int) es) /\ J (0 : Int) (20 : Int) es) /\ ∀ (x7 x8 : Int) (s_0 : LL), J x7 x8 s_0 -> if decide (x8 <= n) = true then ACall qa 101 [LV.sub 0 lo hi, Y6 x7, Y6 x8, LV.fn 82 [LV.box 1 0]] [Ob.sl (21, 1) false nl s_0, Ob.box [LV.pv T]] fun (r : LV) (h' : Hp) => ∃ (t : LL), (r = LV.tup [] /\ h' = [Ob.sl (21, 1) false nl t, Ob.box [LV.pv T]]) /\ (True /\ ((21, 1) = (21, 1) /\ nl = nl /\ s_0.length = t.length) /\ True) /\ aF (xC lo hi nl T n x8 (i64.wrap (x8 + 20)) t) /\ J x8 (i64.wrap (x8 + 20)) t /\ μ x8 (i64.wrap (x8 + 20)) t < μ x7 x8 s_0 else ACall qa 101 [LV.sub 0 lo hi, Y6 x7, Y6 n, LV.fn 82 [LV.box 1 0]] [Ob.sl (21, 1) false nl s_0, Ob.box [LV.pv T]] fun (r : LV) (h' : Hp) => ∃ (t : LL), (r = LV.tup [] /\ h' = [Ob.sl (21, 1) false nl t, Ob.box [LV.pv T]]) /\ (True /\ ((21, 1) = (21, 1) /\ nl = nl /\ s_0.length = t.length) /\ True) /\ (aF (xD lo hi nl T n (20 : Int) t) /\ J2 (20 : Int) t) /\ ∀ (x6 : Int) (s_01 : LL), J2 x6 s_01 ->
 let K7 := fun (y0_ : Int) (y1_ : LL) => aF (xD lo hi nl T n y0_ y1_) /\ J2 y0_ y1_ /\ μ2 y0_ y1_ < μ2 x6 s_01; if decide (x6 < n) = true then (aF (xE lo hi nl T n x6 (0 : Int) (i64.wrap ((2 : Int) * x6)) s_01) /\ J3 x6 (0 : Int) (i64.wrap ((2 : Int) * x6)) s_01 x6 (0 : Int) (i64.wrap ((2 : Int) * x6)) s_01) /\ ∀ (x61 x71 x81 : Int) (s_02 : LL), J3 x6 (0 : Int) (i64.wrap ((2 : Int) * x6)) s_01 x61 x71 x81 s_02 -> if decide (x81 <= n) = true then ACall qa 102 [LV.sub 0 lo hi, Y6 x71, LV.pv (Z6 (i64.wrap (x71 + x61))), Y6 x81, LV.fn 82 [LV.box 1 0]] [Ob.sl (21, 1) false nl s_02, Ob.box [LV.pv T]] fun (r1 : LV) (h'1 : Hp) => ∃ (t1 : LL), (r1 = LV.tup [] /\ h'1 = [Ob.sl (21, 1) false nl t1, Ob.box [LV.pv T]]) /\ (True /\ ((21, 1) = (21, 1) /\ nl = nl /\ s_02.length = t1.length) /\ True) /\ aF (xE lo hi nl T n x61 x81 (i64.wrap (x81 + i64.wrap ((2 : Int) * x61))) t1) /\ J3 x6 (0 : Int) (i64.wrap ((2 : Int) * x6)) s_01 x61 x81 (i64.wrap (x81 + i64.wrap ((2 : Int) * x61))) t1 /\ μ3 x61 x81 (i64.wrap (x81 + i64.wrap ((2 : Int) * x61))) t1 < μ3 x61 x71 x81 s_02 else if decide (i64.wrap (x71 + x61) < n) = true then ACall qa 102 [LV.sub 0 lo hi, Y6 x71, LV.pv (Z6 (i64.wrap (x71 + x61))), Y6 n, LV.fn 82 [LV.box 1 0]] [Ob.sl (21, 1) false nl s_02, Ob.box [LV.pv T]] fun (r1 : LV) (h'1 : Hp) => ∃ (t1 : LL), (r1 = LV.tup [] /\ h'1 = [Ob.sl (21, 1) false nl t1, Ob.box [LV.pv T]]) /\ (True /\ ((21, 1) = (21, 1) /\ nl = nl /\ s_02.length = t1.length) /\ True) /\ K7 (i64.wrap (x61 * 2)) t1 else K7 (i64.wrap (x61 * 2)) s_02 else R (LV.tup []) [Ob.sl (21, 1) false nl s_01, Ob.box [LV.pv T]]
theorem zmr {R : LV -> Hp -> Prop} (h : zed lo hi nl es T n J μ J2 μ2 J3 μ3 R) : ACall qa 95 [.sub 0 lo hi, .pv (.int .i64 n), .fn 82 [.box 1 0]] [.sl (21, 1) false nl es, .box [.pv T]] R :=
 ACall.wz Try.func95 (fun zz_ => match zz_ with | 101 => some ⟨LL, fun _ hs t => (.tup [], match hs with | [.sl ty m nl _, b] => [.sl ty m nl t, b] | h => h), none⟩ | 102 => some ⟨LL, fun _ hs t => (.tup [], match hs with | [.sl ty m nl _, b] => [.sl ty m nl t, b] | h => h), none⟩ | _ => none) [0, 1, 2, 6, 7, 8, 9, 13, 30, 35, 54] (gY [(2, (bF eF (xC lo hi nl T n) J μ (fun e h => (gI e 7, gI e 8, oS h 0)) [] [0, 1, 2, 6, 7, 8] [])), (7, (bF kC (xD lo hi nl T n) J2 μ2 (fun e h => (gI e 6, oS h 0)) [] [0, 1, 2, 6] [])), (9, (gZ iO (xE lo hi nl T n) J3 μ3 (fun e h => (gI e 6, gI e 7, gI e 8, oS h 0)) [] [0, 1, 2, 6, 7, 8] []))]) [0, 1] h
end
section
variable (lo hi : Nat) (nl : Bool) (es : LL) (T : PV)
def zee (R : LV -> Hp -> Prop) : Prop :=
 ACall qa 95 [LV.sub 0 lo hi, LV.pv (Z6 (↑(hi - lo) : Int)), LV.fn 82 [LV.box 1 0]] [Ob.sl (21, 1) false nl es, Ob.box [LV.pv T]] fun (r : LV) (h' : Hp) => ∃ (t : LL), (r = LV.tup [] /\ h' = [Ob.sl (21, 1) false nl t, Ob.box [LV.pv T]]) /\ (True /\ ((21, 1) = (21, 1) /\ nl = nl /\ es.length = t.length) /\ True) /\ R (LV.tup []) [Ob.sl (21, 1) false nl t, Ob.box [LV.pv T]]
theorem zms {R : LV -> Hp -> Prop} (h : zee lo hi nl es T R) : ACall qa 81 [.sub 0 lo hi, .fn 82 [.box 1 0]] [.sl (21, 1) false nl es, .box [.pv T]] R :=
 ACall.wz Try.func81 (fun zz_ => match zz_ with | 95 => some ⟨LL, fun _ hs t => (.tup [], match hs with | [.sl ty m nl _, b] => [.sl ty m nl t, b] | h => h), none⟩ | _ => none) [0, 1] bE [0, 1] h
end
section
variable (r : Int)
def zef (R : PV -> Prop) : Prop :=
 R (Zb (decide (r >= 44032) && decide (r < 55204)))
theorem zmt {R : PV -> Prop} (h : zef r R) : PCall qa 93 [.int .i32 r] R :=
 PCall.wz Try.func93 aT [0, 2] bE h
end
section
variable (r : Int)
def zeg (R : PV -> Prop) : Prop :=
 PCall qa 93 [Z3 r] fun v => ∃ b, v = Zb b /\ if (!b) = true then R (PV.sl true true []) else (3 = 3 /\ 3 <= 3) /\ ((0 : Int) <= 2 /\ (2 : Int) < (↑3 : Int)) /\ ∃ n, some (Z3 (i32.wrap ((4519 : Int) + (i32.wrap (r - 44032)).tmod (28 : Int)))) = some (Z3 n) /\ if (n == 4519) = true then (eQ 3 none (some (2 : Int)) (some (2 : Int)) /\ 3 = (3 : Nat)) /\ R (PV.sl false true [[Z3 (i32.wrap ((4352 : Int) + i32.wrap ((i32.wrap (r - 44032)).tdiv (588 : Int))))], [Z3 (i32.wrap ((4449 : Int) + (i32.wrap ((i32.wrap (r - 44032)).tdiv (28 : Int))).tmod (21 : Int)))]]) else (eQ 3 none none none /\ 3 = 3) /\ R (PV.sl false true [[Z3 (i32.wrap ((4352 : Int) + i32.wrap ((i32.wrap (r - 44032)).tdiv (588 : Int))))], [Z3 (i32.wrap ((4449 : Int) + (i32.wrap ((i32.wrap (r - 44032)).tdiv (28 : Int))).tmod (21 : Int)))], [Z3 (i32.wrap ((4519 : Int) + (i32.wrap (r - 44032)).tmod (28 : Int)))]])
theorem zmu {R : PV -> Prop} (h : zeg r R) : PCall qa 79 [.int .i32 r] R :=
 PCall.wz Try.func79 aT [0, 2, 3, 4, 7, 23] bE h
end
section
variable (tc tg tj tf tp : PV) (M S : List (PV × PV)) (nl : Bool) (es : LL) (r d : Int)
def xF (R : LV -> Hp -> Prop) : Prop :=
 PCall qa 79 [Z3 r] fun v => ∃ n f es1, v = PV.sl n f es1 /\ if (bif false then n else !n) = true then (aS es1 1 /\ (es.length + es1.length) * 4 <= (140737488355328 : Nat)) /\ R (LV.tup []) [Ob.box [LV.pv (PV.ptr [tc, tg, tj, tf, tp, PV.mp M, PV.mp S]), LV.own 1], Ob.sl (21, 1) true (nl && es1.isEmpty) (es ++ es1)] else PCall qa 54 [PV.ptr [tc, tg, tj, tf, tp, PV.mp M, PV.mp S], Z3 r] fun v1 => ∃ vs, v1 = PV.tup vs /\ vs.length = 3 /\ ∃ x, vs.head? = some x /\ ∃ n1, x = Z3 n1 /\ ∃ x1, vs.tail.head? = some x1 /\ ∃ n2, x1 = Z3 n2 /\ ∃ x2, vs.tail.tail.head? = some x2 /\ ∃ b, x2 = Zb b /\ if (!b || d == 0) = true then (aS [[Z3 r]] 1 /\ (es.length + 1) * 4 <= 140737488355328) /\ R (LV.tup []) [Ob.box [LV.pv (PV.ptr [tc, tg, tj, tf, tp, PV.mp M, PV.mp S]), LV.own 1], Ob.sl (21, 1) true (nl && false) (es ++ [[Z3 r]])] else ACall qa 59 [LV.box 0 0, LV.pv (Z3 n1), LV.pv (Z6 (i64.wrap (d - 1)))] [Ob.box [LV.pv (PV.ptr [tc, tg, tj, tf, tp, PV.mp M, PV.mp S]), LV.own 1], Ob.sl (21, 1) false nl es] fun (r1 : LV) (h' : Hp) => ∃ (t : Bool × LL), (r1 = LV.tup [] /\ h' = [Ob.box [LV.pv (PV.ptr [tc, tg, tj, tf, tp, PV.mp M, PV.mp S]), LV.own 1], Ob.sl (21, 1) true t.fst t.snd]) /\ (True /\ True /\ True) /\ if (n2 != 0) = true then ACall qa 59 [LV.box 0 0, LV.pv (Z3 n2), LV.pv (Z6 (i64.wrap (d - 1)))] [Ob.box [LV.pv (PV.ptr [tc, tg, tj, tf, tp, PV.mp M, PV.mp S]), LV.own 1], Ob.sl (21, 1) false t.fst t.snd] fun (r2 : LV) (h'1 : Hp) => ∃ (t1 : Bool × LL), (r2 = LV.tup [] /\ h'1 = [Ob.box [LV.pv (PV.ptr [tc, tg, tj, tf, tp, PV.mp M, PV.mp S]), LV.own 1], Ob.sl (21, 1) true t1.fst t1.snd]) /\ (True /\ True /\ True) /\ R (LV.tup []) [Ob.box [LV.pv (PV.ptr [tc, tg, tj, tf, tp, PV.mp M, PV.mp S]), LV.own 1], Ob.sl ((21 : Nat), 1) true t1.fst t1.snd] else R (LV.tup []) [Ob.box [LV.pv (PV.ptr [tc, tg, tj, tf, tp, PV.mp M, PV.mp S]), LV.own 1], Ob.sl (21, 1) true t.fst t.snd]
theorem zeh {R : LV -> Hp -> Prop} (h : xF tc tg tj tf tp M S nl es r d R) : ACall qa 59 [.box 0 0, .pv (.int .i32 r), .pv (.int .i64 d)] [.box [.pv (.ptr [tc, tg, tj, tf, tp, .mp M, .mp S]), .own 1], .sl (21, 1) false nl es] R :=
 ACall.wz Try.func59 (fun zz_ => match zz_ with | 59 => some ⟨Bool × LL, fun _ hs t => (.tup [], match hs with | [.box (x :: _), .sl ty _ _ _] => [.box [x, .own 1], .sl ty true t.1 t.2] | [.box (x :: _)] => [.box [x, .own 1], .sl (21, 1) true t.1 t.2] | h => h), none⟩ | _ => none) [0, 1, 2, 6, 7, 8, 9, 13, 38, 55] bE [0, 1] h
end
def xG  (n10 f10 : Bool) (s10 : LL) (x11 x12 : Int) (n_0 : Bool) (s_0 : LL) : Env × Hp := ([(5, LV.own 0), (10, .pv (.sl n10 f10 s10)), (11, Y6 x11), (12, Y6 x12)], [.sl (84, 3) true n_0 s_0])
section
variable (n f : Bool) (es : LL) (k : Int) (J : Bool -> Bool -> LL -> Int -> Int -> Bool -> LL -> Prop) (μ : Bool -> Bool -> LL -> Int -> Int -> Bool -> LL -> Nat)
def zei (R : PV -> Prop) : Prop :=
 PCall qa 23 [PV.sl n f es, Z6 k] fun v => ∃ n1 f1 es1, v = PV.sl n1 f1 es1 /\ (aF (xG n1 f1 es1 (↑es1.length : Int) (0 : Int) true []) /\ J n1 f1 es1 (↑es1.length : Int) (0 : Int) true []) /\ ∀ (n10 f10 : Bool) (s10 : LL) (x11 x12 : Int) (n_0 : Bool) (s_0 : LL), J n10 f10 s10 x11 x12 n_0 s_0 -> if decide (x12 < x11) = true then aR s10 x12 4 /\ ∃ n2, (s10.getD x12.toNat []).head? = some (Z6 n2) /\ ∃ n3, (s10.getD x12.toNat []).tail.head? = some (Z6 n3) /\ ∃ n4, (s10.getD x12.toNat []).tail.tail.head? = some (Z6 n4) /\ ∃ n5, (s10.getD x12.toNat []).tail.tail.tail.head? = some (Z6 n5) /\ (aS [[Z6 n2, Z6 n3, Z6 n4]] 3 /\ (s_0.length + 1) * 24 <= 140737488355328) /\ aF (xG n10 f10 s10 x11 (i64.wrap (x12 + 1)) (n_0 && false) (s_0 ++ [[Z6 n2, Z6 n3, Z6 n4]])) /\ J n10 f10 s10 x11 (i64.wrap (x12 + 1)) (n_0 && false) (s_0 ++ [[Z6 n2, Z6 n3, Z6 n4]]) /\ μ n10 f10 s10 x11 (i64.wrap (x12 + 1)) (n_0 && false) (s_0 ++ [[Z6 n2, Z6 n3, Z6 n4]]) < μ n10 f10 s10 x11 x12 n_0 s_0 else PCall qa 41 [Z6 1114112, Z6 0, PV.sl n_0 false s_0] fun v1 => R v1
theorem zmv {R : PV -> Prop} (h : zei n f es k J μ R) : PCall qa 21 [.sl n f es, .int .i64 k] R :=
 PCall.wz Try.func21 aT [0, 1, 4, 5, 7, 10, 11, 12, 13] (dB 3 (bF cz7 xG J μ (fun e h => (gN e 10, gF e 10, gS e 10, gI e 11, gI e 12, oN h 0, oS h 0)) [(5, 84, 3)] [5, 10, 11, 12] [])) h
end
def xH (n f : Bool) (es : LL) (x14 : Int) (m_0 : List (PV × PV)) : Env × Hp := ([(3, LV.mp 0), (12, LV.pv (PV.sl n f es)), (13, LV.pv (PV.int i64 (es.length : Int))), (14, Y6 x14)], [.mp m_0])
def xI (n f : Bool) (es : LL) (x14 : Int) (n18 f18 : Bool) (s18 : LL) (x19 x20 : Int) (m_0 : List (PV × PV)) : Env × Hp := ([(3, LV.mp 0), (12, LV.pv (PV.sl n f es)), (13, LV.pv (PV.int i64 (es.length : Int))), (14, Y6 x14), (18, .pv (.sl n18 f18 s18)), (19, Y6 x19), (20, Y6 x20)], [.mp m_0])
def xJ  (n_0 : Bool) (s_0 : LL) (r_1 : List (PV × PV)) (q_1 : Option (PV × PV)) : Env × Hp := ([(8, LV.own 0), (34, LV.it 1)], [.sl (3, 1) true n_0 s_0, .iter (3, 4) r_1 q_1])
section
variable (n f : Bool) (es : LL) (J : Int -> (List (PV × PV)) -> Prop) (μ : Int -> (List (PV × PV)) -> Nat) (J2 : Int -> Bool -> Bool -> LL -> Int -> Int -> (List (PV × PV)) -> Int -> Bool -> Bool -> LL -> Int -> Int -> (List (PV × PV)) -> Prop) (μ2 : Int -> Bool -> Bool -> LL -> Int -> Int -> (List (PV × PV)) -> Nat) (J3 : Bool -> LL -> (List (PV × PV)) -> (Option (PV × PV)) -> Prop) (μ3 : Bool -> LL -> (List (PV × PV)) -> (Option (PV × PV)) -> Nat)
def zej (R : PV -> Prop) : Prop :=
 kB .i64 [] /\ (aF (xH n f es (0 : Int) [(Z6 0, Zb true)]) /\ J (0 : Int) [(Z6 0, Zb true)]) /\ ∀ (x14 : Int) (m_0 : List (PV × PV)), J x14 m_0 -> if decide (x14 < (↑es.length : Int)) = true then aR es x14 1 /\ ∃ n1, ∃ (f1
  : Bool), ∃ es1, (es.getD x14.toNat []).head? = some (PV.sl n1 f1 es1) /\ (aF (xI n f es x14 n1 f1 es1 (↑es1.length : Int) (0 : Int) m_0) /\ J2 x14 n1 f1 es1 (↑es1.length : Int) (0 : Int) m_0 x14 n1 f1 es1 (↑es1.length : Int)
  (0 : Int) m_0) /\ ∀ (x141 : Int) (n18 f18 : Bool) (s18 : LL) (x19 x20 : Int) (m_01 : List (PV × PV)), J2 x14 n1 f1 es1 (↑es1.length : Int) (0 : Int) m_0 x141 n18 f18 s18 x19 x20 m_01 -> if decide (x20 < x19) = true then aR s18 x20 4 /\ ∃
  (n2 : Int), (s18.getD x20.toNat []).head? = some (Z6 n2) /\ ∃ n3, (s18.getD x20.toNat []).tail.head? = some (Z6 n3) /\ ∃ n4, (s18.getD x20.toNat []).tail.tail.head? = some (Z6 n4) /\ ∃ n5, (s18.getD x20.toNat
  []).tail.tail.tail.head? = some (Z6 n5) /\
 let V1 := kB .i64 m_01 /\ kB .i64 (bA (Z6 n2) (Zb true) m_01) /\ aF (xI n f es x141 n18 f18 s18 x19 (i64.wrap (x20 + 1)) (bA (Z6 (i64.wrap (n3 + 1))) (Zb true) (bA (Z6 n2) (Zb true) m_01))) /\ J2
  x14 n1 f1 es1 (↑es1.length : Int) (0 : Int) m_0 x141 n18 f18 s18 x19 (i64.wrap (x20 + 1)) (bA (Z6 (i64.wrap (n3 + 1))) (Zb true) (bA (Z6 n2) (Zb true) m_01)) /\ μ2 x141 n18 f18 s18 x19 (i64.wrap (x20 + 1))
  (bA (Z6 (i64.wrap (n3 + 1))) (Zb true) (bA (Z6 n2) (Zb true) m_01)) < μ2 x141 n18 f18 s18 x19 x20 m_01; (V1 /\ V1) /\ V1 else aF (xH n f es (i64.wrap (x141 + 1)) m_01) /\ J (i64.wrap (x141 + 1)) m_01 /\
  μ (i64.wrap (x141 + 1)) m_01 < μ x14 m_0 else (aF (xJ true [] m_0 none) /\ J3 true [] m_0 none) /\ ∀ (n_0 : Bool) (s_0 : LL) (r_1 : List (PV × PV)) (q_1 : Option (PV × PV)), J3 n_0 s_0 r_1 q_1 -> (r_1 = [] -> R (PV.sl n_0
  false s_0)) /\ ∀ (j : Nat) (k v : PV), r_1[j]? = some (k, v) -> ∃ n1, k = Z6 n1 /\ ∃ b, v = Zb b /\ ∃ n2, Z6 n1 = Z6 n2 /\ ∃ b1, Zb b = Zb b1 /\ (aS [[Z6 n2]] 1 /\ (s_0.length + 1) * 8 <= 140737488355328) /\
  aF (xJ (n_0 && false) (s_0 ++ [[Z6 n2]]) (r_1.eraseIdx j) (some (Z6 n1, Zb b))) /\ J3 (n_0 && false) (s_0 ++ [[Z6 n2]]) (r_1.eraseIdx j) (some (Z6 n1, Zb b)) /\ μ3 (n_0 && false) (s_0 ++ [[Z6 n2]]) (r_1.eraseIdx j) (some (Z6 n1, Zb
  b)) < μ3 n_0 s_0 r_1 q_1
theorem zmw {R : PV -> Prop} (h : zej n f es J μ J2 μ2 J3 μ3 R) : PCall qa 42 [.sl n f es] R :=
 PCall.wz Try.func42 aT [0, 2, 3, 5, 7, 8, 9, 12, 13, 14, 15, 18, 19, 20, 21, 34, 36] (gY [(3, (bF kC (xH n f es) J μ (fun e h => (gI e 14, oM h 0)) [] [3, 12, 13, 14] [])), (6, (gZ cz7 (xI n f es) J2 μ2 (fun e h => (gI e 14, gN e 18, gF e 18, gS e 18, gI e 19, gI e 20, oM h 0)) [] [3, 12, 13, 14, 18, 19, 20] [])), (13, (bF iO xJ J3 μ3 (fun e h => (oN h 0, oS h 0, oR h 1, oQ h 1)) [(8, 3, 1)] [8, 34] []))]) h
end
def xK (at_ x1 : Int) (n11_0 f11_0 : Bool) (s11_0 : LL) (n11_1 f11_1 : Bool) (s11_1 : LL) (n11_2 f11_2 : Bool) (s11_2 : LL) (n11_3 f11_3 : Bool) (s11_3 : LL) (x12 : Int) : Env × Hp := ([(0, Y6 at_), (1, Y6 x1), (11, .pv (.agg [.sl n11_0 f11_0 s11_0, .sl n11_1 f11_1 s11_1, .sl n11_2 f11_2 s11_2, .sl n11_3 f11_3 s11_3])), (12, Y6 x12)], [])
def xL (at_ x1 : Int) (n11_0 f11_0 : Bool) (s11_0 : LL) (n11_1 f11_1 : Bool) (s11_1 : LL) (n11_2 f11_2 : Bool) (s11_2 : LL) (n11_3 f11_3 : Bool) (s11_3 : LL) (x12 : Int) (n15 f15 : Bool) (s15 : LL) (x16 x17 : Int) : Env × Hp := ([(0, Y6 at_), (1, Y6 x1), (11, .pv (.agg [.sl n11_0 f11_0 s11_0, .sl n11_1 f11_1 s11_1, .sl n11_2 f11_2 s11_2, .sl n11_3 f11_3 s11_3])), (12, Y6 x12), (15, .pv (.sl n15 f15 s15)), (16, Y6 x16), (17, Y6 x17)], [])
section
variable (at_ last : Int) (n0 f0 n1 f1 n2 f2 n3 f3 : Bool) (e0 e1 e2 e3 : LL) (J : Int -> Bool -> Bool -> LL -> Bool -> Bool -> LL -> Bool -> Bool -> LL -> Bool -> Bool -> LL -> Int -> Prop) (μ : Int -> Bool -> Bool -> LL -> Bool -> Bool -> LL -> Bool -> Bool -> LL -> Bool -> Bool -> LL -> Int -> Nat) (J2 : Int -> Bool -> Bool -> LL -> Bool -> Bool -> LL -> Bool -> Bool -> LL -> Bool -> Bool -> LL -> Int -> Bool -> Bool -> LL -> Int -> Int -> Int -> Bool -> Bool -> LL -> Bool -> Bool -> LL -> Bool -> Bool -> LL -> Bool -> Bool -> LL -> Int -> Bool -> Bool -> LL -> Int -> Int -> Prop) (μ2 : Int -> Bool -> Bool -> LL -> Bool -> Bool -> LL -> Bool -> Bool -> LL -> Bool -> Bool -> LL -> Int -> Bool -> Bool -> LL -> Int -> Int -> Nat)
def zek (R : PV -> Prop) : Prop :=
 ∃ n f es, some (PV.sl n0 f0 e0) = some (PV.sl n f es) /\ ∃ n4 f4 es1, some (PV.sl n1 f1 e1) = some (PV.sl n4 f4 es1) /\ ∃ n5 f5 es2, some (PV.sl n2
  f2 e2) = some (PV.sl n5 f5 es2) /\ ∃ n6 f6 es3, some (PV.sl n3 f3 e3) = some (PV.sl n6 f6 es3) /\ (aF (xK at_ last n f es n4 f4 es1 n5 f5 es2 n6 f6 es3 (0 : Int)) /\ J last n f es n4 f4 es1 n5 f5 es2 n6
  f6 es3 (0 : Int)) /\ ∀ (x1 : Int) (n11_0 f11_0 : Bool) (s11_0 : LL) (n11_1 f11_1 : Bool) (s11_1 : LL) (n11_2 f11_2 : Bool) (s11_2 : LL) (n11_3 f11_3 : Bool) (s11_3 : LL) (x12 : Int), J x1 n11_0 f11_0 s11_0 n11_1 f11_1 s11_1 n11_2 f11_2
  s11_2 n11_3 f11_3 s11_3 x12 -> if decide (x12 < 4) = true then ((0 : Int) <= x12 /\ x12 < (↑4 : Int) /\ x12.toNat * 1 + 1 <= 4) /\ ∃ n7 f7 es4, [PV.sl n11_0 f11_0 s11_0, PV.sl n11_1 f11_1 s11_1, PV.sl n11_2 f11_2
  s11_2, PV.sl n11_3 f11_3 s11_3].getD x12.toNat PV.unit = PV.sl n7 f7 es4 /\ (aF (xL at_ x1 n11_0 f11_0 s11_0 n11_1 f11_1 s11_1 n11_2 f11_2 s11_2 n11_3 f11_3 s11_3 x12 n7 f7 es4 (↑es4.length : Int) (0 : Int)) /\ J2 x1 n11_0 f11_0
  s11_0 n11_1 f11_1 s11_1 n11_2 f11_2 s11_2 n11_3 f11_3 s11_3 x12 n7 f7 es4 (↑es4.length : Int) (0 : Int) x1 n11_0 f11_0 s11_0 n11_1 f11_1 s11_1 n11_2 f11_2 s11_2 n11_3 f11_3 s11_3 x12 n7 f7 es4 (↑es4.length : Int) (0 : Int)) /\ ∀ (x11 :
  Int) (n11_01 f11_01 : Bool) (s11_01 : LL) (n11_11 f11_11 : Bool) (s11_11 : LL) (n11_21 f11_21 : Bool) (s11_21 : LL) (n11_31 f11_31 : Bool) (s11_31 : LL) (x121 : Int) (n15 f15 : Bool) (s15 : LL) (x16 x17 : Int), J2 x1 n11_0 f11_0 s11_0
  n11_1 f11_1 s11_1 n11_2 f11_2 s11_2 n11_3 f11_3 s11_3 x12 n7 f7 es4 (↑es4.length : Int) (0 : Int) x11 n11_01 f11_01 s11_01 n11_11 f11_11 s11_11 n11_21 f11_21 s11_21 n11_31 f11_31 s11_31 x121 n15 f15 s15 x16 x17 ->
 let K5 := fun (y0_ : Int) (y1_ y2_ : Bool) (y3_ : LL) (y4_ y5_ : Bool) (y6_ : LL) (y7_ y8_ : Bool) (y9_ : LL) (y10_ y11_ : Bool) (y12_ : LL) (y13_ : Int) (y14_ y15_ : Bool) (y16_ : LL) (y17_ :
  Int) (y18_ : Int) => aF (xL at_ y0_ y1_ y2_ y3_ y4_ y5_ y6_ y7_ y8_ y9_ y10_ y11_ y12_ y13_ y14_ y15_ y16_ y17_ y18_) /\ J2 x1 n11_0 f11_0 s11_0 n11_1 f11_1 s11_1 n11_2 f11_2 s11_2 n11_3 f11_3 s11_3 x12 n7 f7 es4 (↑es4.length : Int)
  (0 : Int) y0_ y1_ y2_ y3_ y4_ y5_ y6_ y7_ y8_ y9_ y10_ y11_ y12_ y13_ y14_ y15_ y16_ y17_ y18_ /\ μ2 y0_ y1_ y2_ y3_ y4_ y5_ y6_ y7_ y8_ y9_ y10_ y11_ y12_ y13_ y14_ y15_ y16_ y17_ y18_ < μ2 x11 n11_01 f11_01 s11_01 n11_11 f11_11 s11_11
  n11_21 f11_21 s11_21 n11_31 f11_31 s11_31 x121 n15 f15 s15 x16 x17; if decide (x17 < x16) = true then aR s15 x17 4 /\ ∃ n8, (s15.getD x17.toNat []).head? = some (Z6 n8) /\ ∃ n9, (s15.getD x17.toNat []).tail.head? = some
  (Z6 n9) /\ ∃ n10, (s15.getD x17.toNat []).tail.tail.head? = some (Z6 n10) /\ ∃ n11, (s15.getD x17.toNat []).tail.tail.tail.head? = some (Z6 n11) /\
 let V1 := K5 x11 n11_01 f11_01 s11_01 n11_11 f11_11 s11_11 n11_21 f11_21 s11_21 n11_31 f11_31 s11_31 x121 n15 f15 s15 x16 (i64.wrap (x17 + 1)); if decide (n8 > at_) = true then if decide (n8 <= x11) = true then K5 (i64.wrap
  (n8 - 1)) n11_01 f11_01 s11_01 n11_11 f11_11 s11_11 n11_21 f11_21 s11_21 n11_31 f11_31 s11_31 x121 n15 f15 s15 x16 (i64.wrap (x17 + 1)) else V1 else V1 else aF (xK at_ x11 n11_01 f11_01 s11_01 n11_11 f11_11 s11_11 n11_21
  f11_21 s11_21 n11_31 f11_31 s11_31 (i64.wrap (x121 + 1))) /\ J x11 n11_01 f11_01 s11_01 n11_11 f11_11 s11_11 n11_21 f11_21 s11_21 n11_31 f11_31 s11_31 (i64.wrap (x121 + 1)) /\ μ x11 n11_01 f11_01 s11_01 n11_11 f11_11 s11_11
  n11_21 f11_21 s11_21 n11_31 f11_31 s11_31 (i64.wrap (x121 + 1)) < μ x1 n11_0 f11_0 s11_0 n11_1 f11_1 s11_1 n11_2 f11_2 s11_2 n11_3 f11_3 s11_3 x12 else R (Z6 x1)
theorem zmx {R : PV -> Prop} (h : zek at_ last n0 f0 n1 f1 n2 f2 n3 f3 e0 e1 e2 e3 J μ J2 μ2 R) : PCall qa 44 [.int .i64 at_, .int .i64 last, .agg [.sl n0 f0 e0, .sl n1 f1 e1, .sl n2 f2 e2, .sl n3 f3 e3]] R :=
 PCall.wz Try.func44 aT [0, 1, 2, 5, 6, 8, 10, 11, 12, 13, 15, 16, 17, 18, 30] (gY [(2, (bF (eA cz6) (xK at_) J μ (fun e h => (gI e 1, gQ e 11 0, gT e 11 0, gU e 11 0, gQ e 11 1, gT e 11 1, gU e 11 1, gQ e 11 2, gT e 11 2, gU e 11 2, gQ e 11 3, gT e 11 3, gU e 11 3, gI e 12)) [] [0, 1, 11, 12] [])), (5, (gZ (eA (eA eF)) (xL at_) J2 μ2 (fun e h => (gI e 1, gQ e 11 0, gT e 11 0, gU e 11 0, gQ e 11 1, gT e 11 1, gU e 11 1, gQ e 11 2, gT e 11 2, gU e 11 2, gQ e 11 3, gT e 11 3, gU e 11 3, gI e 12, gN e 15, gF e 15, gS e 15, gI e 16, gI e 17)) [] [0, 1, 11, 12, 15, 16, 17] []))]) h
end
def xM (n f : Bool) (es : LL) (x17_0 x17_1 x17_2 x17_3 x18 : Int) (c_0 : List PV) : Env × Hp := ([(0, LV.pv (PV.sl n f es)), (4, LV.box 0 0), (17, .pv (.agg [.int i64 x17_0, .int i64 x17_1, .int i64 x17_2, .int i64 x17_3])), (18, Y6 x18)], [.arr c_0])
def xN  (p4 : List PV) (n29 f29 : Bool) (s29 : LL) (x30 x31 : Int) (n_0 : Bool) (s_0 : LL) : Env × Hp := ([(4, .pv (.ptr p4)), (7, LV.own 0), (29, .pv (.sl n29 f29 s29)), (30, Y6 x30), (31, Y6 x31)], [.sl (98, 6) true n_0 s_0])
def xO  (p4 : List PV) (x9 x11 : Int) (n29 f29 : Bool) (s29 : LL) (x30 x31 : Int) (n35_0 f35_0 : Bool) (s35_0 : LL) (n35_1 f35_1 : Bool) (s35_1 : LL) (n35_2 f35_2 : Bool) (s35_2 : LL) (n35_3 f35_3 : Bool) (s35_3 : LL) (x36 : Int) (n_0 : Bool) (s_0 : LL) (c_1 : List PV) : Env × Hp := ([(4, .pv (.ptr p4)), (7, LV.own 0), (9, Y6 x9), (10, LV.box 1 0), (11, Y6 x11), (29, .pv (.sl n29 f29 s29)), (30, Y6 x30), (31, Y6 x31), (35, .pv (.agg [.sl n35_0 f35_0 s35_0, .sl n35_1 f35_1 s35_1, .sl n35_2 f35_2 s35_2, .sl n35_3 f35_3 s35_3])), (36, Y6 x36)], [.sl (98, 6) true n_0 s_0, .arr c_1])
section
variable (n f : Bool) (es : LL) (J : Int -> Int -> Int -> Int -> Int -> (List PV) -> Prop) (μ : Int -> Int -> Int -> Int -> Int -> (List PV) -> Nat) (J2 : (List PV) -> Bool -> Bool -> LL -> Int -> Int -> Bool -> LL -> Prop) (μ2 : (List PV) -> Bool -> Bool -> LL -> Int -> Int -> Bool -> LL -> Nat) (J3 : (List PV) -> Int -> Int -> Bool -> Bool -> LL -> Int -> Int -> Bool -> Bool -> LL -> Bool -> Bool -> LL -> Bool -> Bool -> LL -> Bool -> Bool -> LL -> Int -> Bool -> LL -> (List PV) -> (List PV) -> Int -> Int -> Bool -> Bool -> LL -> Int -> Int -> Bool -> Bool -> LL -> Bool -> Bool -> LL -> Bool -> Bool -> LL -> Bool -> Bool -> LL -> Int -> Bool -> LL -> (List PV) -> Prop) (μ3 : (List PV) -> Int -> Int -> Bool -> Bool -> LL -> Int -> Int -> Bool -> Bool -> LL -> Bool -> Bool -> LL -> Bool -> Bool -> LL -> Bool -> Bool -> LL -> Int -> Bool -> LL -> (List PV) -> Nat)
def zel (R : PV -> Prop) : Prop :=
 (4 = 4 /\ 4 <= 4) /\ ∃ n1, some (Z6 5) = some (Z6 n1) /\ ∃ n2, some (Z6 7) = some (Z6 n2) /\ ∃ n3, some (Z6 8) = some (Z6 n3) /\ ∃ n4, some (Z6 3) = some (Z6 n4) /\ (aF (xM n f es n1 n2 n3 n4 (0 : Int) [PV.sl
  true true [], PV.sl true true [], PV.sl true true [], PV.sl true true []]) /\ J n1 n2 n3 n4 (0 : Int) [PV.sl true true [], PV.sl true true [], PV.sl true true [], PV.sl true true []]) /\ ∀ (x17_0 x17_1 x17_2 x17_3 x18 : Int) (c_0 : List
  PV), J x17_0 x17_1 x17_2 x17_3 x18 c_0 -> if decide (x18 < 4) = true then ((0 : Int) <= x18 /\ x18 < (↑4 : Int) /\ x18.toNat * 1 + 1 <= 4) /\ ∃ n5, [Z6 x17_0, Z6 x17_1, Z6 x17_2, Z6 x17_3].getD x18.toNat PV.unit = Z6 n5 /\ PCall
  qa 23 [PV.sl n f es, Z6 n5] fun v => ∃ n6 f1 es1, v = PV.sl n6 f1 es1 /\ ((0 : Int) <= x18 /\ x18 < (↑4 : Int)) /\ (1 = 1 /\ 0 + x18.toNat * 1 + 1 <= c_0.length) /\ aF (xM n f es x17_0 x17_1
  x17_2 x17_3 (i64.wrap (x18 + 1)) (aO c_0 (0 + x18.toNat * 1) [PV.sl n6 f1 es1])) /\ J x17_0 x17_1 x17_2 x17_3 (i64.wrap (x18 + 1)) (aO c_0 (0 + x18.toNat * 1) [PV.sl n6 f1 es1]) /\ μ x17_0 x17_1 x17_2 x17_3
  (i64.wrap (x18 + 1)) (aO c_0 (0 + x18.toNat * 1) [PV.sl n6 f1 es1]) < μ x17_0 x17_1 x17_2 x17_3 x18 c_0 else (eQ 4 none none none /\ c_0.length = 4) /\ PCall qa 42 [PV.sl false true [qe 1 c_0, qe 1 (qb
  1 c_0), qe 1 (qb 1 (qb 1 c_0)), qe 1 (qb 1 (qb 1 (qb 1 c_0)))]] fun v => ∃ n5 f1 es1, v = PV.sl n5 f1 es1 /\ (aF (xN (qb 0 c_0) n5 f1 es1
  (↑es1.length : Int) (0 : Int) true []) /\ J2 (qb 0 c_0) n5 f1 es1 (↑es1.length : Int) (0 : Int) true []) /\ ∀ (p4 : List PV) (n29 f29 : Bool) (s29 : LL) (x30 x31 : Int) (n_0 : Bool) (s_0 : LL), J2 p4 n29 f29 s29 x30 x31 n_0 s_0 ->
 let K10 := fun (y0_ : List PV) (y1_ y2_ : Bool) (y3_ : LL) (y4_ y5_ : Int) (y6_ : Bool) (y7_ : LL) => aF (xN y0_ y1_ y2_ y3_ y4_ y5_ y6_ y7_) /\ J2 y0_ y1_ y2_ y3_ y4_ y5_ y6_ y7_ /\ μ2 y0_ y1_ y2_ y3_ y4_ y5_ y6_ y7_
  < μ2 p4 n29 f29 s29 x30 x31 n_0 s_0; if decide (x31 < x30) = true then aR s29 x31 1 /\ ∃ n6, (s29.getD x31.toNat []).head? = some (Z6 n6) /\ ∃ n7 f2 es2, p4.head? = some (PV.sl n7 f2 es2) /\ ∃ (n8 :
  Bool), ∃ f3 es3, p4.tail.head? = some (PV.sl n8 f3 es3) /\ ∃ n9 f4 es4, p4.tail.tail.head? = some (PV.sl n9 f4 es4) /\ ∃ n10 f5 es5, p4.tail.tail.tail.head? =
  some (PV.sl n10 f5 es5) /\ (aF (xO p4 n6 (1114111 : Int) n29 f29 s29 x30 x31 n7 f2 es2 n8 f3 es3 n9 f4 es4 n10 f5 es5 (0 : Int) n_0 s_0 [Zb false, Zb false, Zb false, Zb false]) /\ J3 p4 n6 (1114111 : Int) n29 f29 s29 x30 x31 n7 f2
  es2 n8 f3 es3 n9 f4 es4 n10 f5 es5 (0 : Int) n_0 s_0 [Zb false, Zb false, Zb false, Zb false] p4 n6 (1114111 : Int) n29 f29 s29 x30 x31 n7 f2 es2 n8 f3 es3 n9 f4 es4 n10 f5 es5 (0 : Int) n_0 s_0 [Zb false, Zb false, Zb false, Zb false])
  /\ ∀ (p41 : List PV) (x9 x11 : Int) (n291 f291 : Bool) (s291 : LL) (x301 x311 : Int) (n35_0 f35_0 : Bool) (s35_0 : LL) (n35_1 f35_1 : Bool) (s35_1 : LL) (n35_2 f35_2 : Bool) (s35_2 : LL) (n35_3 f35_3 : Bool) (s35_3 : LL) (x36 : Int) (n_01
  : Bool) (s_01 : LL) (c_1 : List PV), J3 p4 n6 (1114111 : Int) n29 f29 s29 x30 x31 n7 f2 es2 n8 f3 es3 n9 f4 es4 n10 f5 es5 (0 : Int) n_0 s_0 [Zb false, Zb false, Zb false, Zb false] p41 x9 x11 n291 f291 s291 x301 x311 n35_0 f35_0 s35_0
  n35_1 f35_1 s35_1 n35_2 f35_2 s35_2 n35_3 f35_3 s35_3 x36 n_01 s_01 c_1 ->
 let K15 := fun (y0_ : List PV) (y1_ y2_ : Int) (y3_ y4_ : Bool) (y5_ : LL) (y6_ y7_ : Int) (y8_ y9_ : Bool) (y10_ : LL) (y11_ y12_ : Bool) (y13_ : LL) (y14_ y15_ : Bool) (y16_ : LL) (y17_
  : Bool) (y18_ : Bool) (y19_ : LL) (y20_ : Int) (y21_ : Bool) (y22_ : LL) (y23_ : List PV) => aF (xO y0_ y1_ y2_ y3_ y4_ y5_ y6_ y7_ y8_ y9_ y10_ y11_ y12_ y13_ y14_ y15_ y16_ y17_ y18_ y19_ y20_ y21_ y22_ y23_) /\ J3 p4 n6 (1114111
  : Int) n29 f29 s29 x30 x31 n7 f2 es2 n8 f3 es3 n9 f4 es4 n10 f5 es5 (0 : Int) n_0 s_0 [Zb false, Zb false, Zb false, Zb false] y0_ y1_ y2_ y3_ y4_ y5_ y6_ y7_ y8_ y9_ y10_ y11_ y12_ y13_ y14_ y15_ y16_ y17_ y18_ y19_ y20_ y21_ y22_ y23_
  /\ μ3 y0_ y1_ y2_ y3_ y4_ y5_ y6_ y7_ y8_ y9_ y10_ y11_ y12_ y13_ y14_ y15_ y16_ y17_ y18_ y19_ y20_ y21_ y22_ y23_ < μ3 p41 x9 x11 n291 f291 s291 x301 x311 n35_0 f35_0 s35_0 n35_1 f35_1 s35_1 n35_2 f35_2 s35_2 n35_3 f35_3 s35_3 x36 n_01
  s_01 c_1; if decide (x36 < 4) = true then ((0 : Int) <= x36 /\ x36 < (↑4 : Int) /\ x36.toNat * 1 + 1 <= 4) /\ ∃ n11 f6 es6, [PV.sl n35_0 f35_0 s35_0, PV.sl n35_1 f35_1 s35_1, PV.sl n35_2 f35_2 s35_2, PV.sl n35_3
  f35_3 s35_3].getD x36.toNat PV.unit = PV.sl n11 f6 es6 /\ PCall qa 43 [PV.sl n11 f6 es6, Z3 (i32.wrap x9)] fun v1 => ∃ vs, v1 = PV.tup vs /\ vs.length = 2 /\ ∃ x, vs.head? = some x /\ ∃ (cs : List PV),
  x = PV.agg cs /\ cs.length = 4 /\ ∃ n12, cs.head? = some (Z6 n12) /\ ∃ n13, cs.tail.head? = some (Z6 n13) /\ ∃ n14, cs.tail.tail.head? = some (Z6 n14) /\ ∃ n15, cs.tail.tail.tail.head? = some (Z6 n15) /\ ∃ (x1 :
  PV), vs.tail.head? = some x1 /\ ∃ b, x1 = Zb b /\ if b = true then ((0 : Int) <= x36 /\ x36 < (↑4 : Int)) /\ (1 = 1 /\ 0 + x36.toNat * 1 + 1 <= c_1.length) /\ if b = true then K15 p41 x9 (if n13 < x11 then n13 else x11) n291 f291 s291
  x301 x311 n35_0 f35_0 s35_0 n35_1 f35_1 s35_1 n35_2 f35_2 s35_2 n35_3 f35_3 s35_3 (i64.wrap (x36 + 1)) n_01 s_01 (aO c_1 (0 + x36.toNat * 1) [Zb (n14 == 1)]) else K15 p41 x9 x11 n291 f291 s291 x301 x311 n35_0 f35_0 s35_0 n35_1
  f35_1 s35_1 n35_2 f35_2 s35_2 n35_3 f35_3 s35_3 (i64.wrap (x36 + 1)) n_01 s_01 (aO c_1 (0 + x36.toNat * 1) [Zb (n14 == 1)]) else ((0 : Int) <= x36 /\ x36 < (↑4 : Int)) /\ (1 = 1 /\ 0 + x36.toNat * 1 + 1 <= c_1.length) /\ if b = true
  then K15 p41 x9 (if n13 < x11 then n13 else x11) n291 f291 s291 x301 x311 n35_0 f35_0 s35_0 n35_1 f35_1 s35_1 n35_2 f35_2 s35_2 n35_3 f35_3 s35_3 (i64.wrap (x36 + 1)) n_01 s_01 (aO c_1 (0 + x36.toNat * 1) [Zb false]) else K15
  p41 x9 x11 n291 f291 s291 x301 x311 n35_0 f35_0 s35_0 n35_1 f35_1 s35_1 n35_2 f35_2 s35_2 n35_3 f35_3 s35_3 (i64.wrap (x36 + 1)) n_01 s_01 (aO c_1 (0 + x36.toNat * 1) [Zb false]) else ∃ b, (qb 0 c_1).head? = some
  (Zb b) /\ ∃ b1, (qb 0 c_1).tail.head? = some (Zb b1) /\ ∃ b2, (qb 0 c_1).tail.tail.head? = some (Zb b2) /\ ∃ b3, (qb 0 c_1).tail.tail.tail.head? = some (Zb b3) /\ if (bif false then b == false
  && (b1 == false && (b2 == false && (b3 == false && true))) else !(b == false && (b1 == false && (b2 == false && (b3 == false && true))))) = true then ∃ n11 f6 es6, p41.head? = some (PV.sl n11 f6 es6) /\ ∃
  (n12 : Bool), ∃ f7 es7, p41.tail.head? = some (PV.sl n12 f7 es7) /\ ∃ n13 f8 es8, p41.tail.tail.head? = some (PV.sl n13 f8 es8) /\ ∃ n14 f9, ∃ (es9 : LL),
  p41.tail.tail.tail.head? = some (PV.sl n14 f9 es9) /\ ((0 : Int) <= 0 /\ (0 : Int) < (↑4 : Int)) /\ ∃ b4, (qb 0 c_1).head? = some (Zb b4) /\ ((0 : Int) <= 1 /\ (1 : Int) < (↑4 : Int)) /\ ∃ b5, (qb 1 c_1).head? =
  some (Zb b5) /\ ((0 : Int) <= 2 /\ (2 : Int) < (↑4 : Int)) /\ ∃ b6, (qb 2 c_1).head? = some (Zb b6) /\ ((0 : Int) <= 3 /\ (3 : Int) < (↑4 : Int)) /\ ∃ b7, (qb 3 c_1).head? = some (Zb b7) /\ PCall qa 44 [Z6
  x9, Z6 x11, PV.agg [PV.sl n11 f6 es6, PV.sl n12 f7 es7, PV.sl n13 f8 es8, PV.sl n14 f9 es9]] fun v1 => ∃ n15, v1 = Z6 n15 /\ (aS [[Z6 x9, Z6 n15, Zb b4, Zb b5, Zb b6, Zb b7]] 6 /\ (s_01.length + 1) * 24 <= 140737488355328) /\
  K10 p41 n291 f291 s291 x301 (i64.wrap (x311 + 1)) (n_01 && false) (s_01 ++ [[Z6 x9, Z6 n15, Zb b4, Zb b5, Zb b6, Zb b7]]) else K10 p41 n291 f291 s291 x301 (i64.wrap (x311 + 1)) n_01 s_01 else PCall qa 45 [Z6
  1114112, PV.agg [Zb false, Zb false, Zb false, Zb false], PV.sl n_0 false s_0] fun v1 => R v1
theorem zmy {R : PV -> Prop} (h : zel n f es J μ J2 μ2 J3 μ3 R) : PCall qa 22 [.sl n f es] R :=
 PCall.wz Try.func22 aT [0, 2, 3, 4, 5, 6, 7, 9, 10, 11, 12, 13, 14, 15, 17, 18, 19, 29, 30, 31, 32, 35, 36, 37, 55, 63] (gY [(4, (bF cz6 (xM n f es) J μ (fun e h => (gC e 17 0, gC e 17 1, gC e 17 2, gC e 17 3, gI e 18, oA h 0)) [] [0, 4, 17, 18] [])), (10, (bF cz8 xN J2 μ2 (fun e h => (gR e 4, gN e 29, gF e 29, gS e 29, gI e 30, gI e 31, oN h 0, oS h 0)) [(7, 98, 6)] [4, 7, 29, 30, 31] [])), (15, (gZ (eA (eA cz8)) xO J3 μ3 (fun e h => (gR e 4, gI e 9, gI e 11, gN e 29, gF e 29, gS e 29, gI e 30, gI e 31, gQ e 35 0, gT e 35 0, gU e 35 0, gQ e 35 1, gT e 35 1, gU e 35 1, gQ e 35 2, gT e 35 2, gU e 35 2, gQ e 35 3, gT e 35 3, gU e 35 3, gI e 36, oN h 0, oS h 0, oA h 1)) [] [4, 7, 9, 10, 11, 29, 30, 31, 35, 36] []))]) h
end
section
variable (tc tg tj tf tp : PV) (M S : List (PV × PV)) (r : Int)
def zem (R : PV -> Prop) : Prop :=
 (∃ ps, some tc = some (PV.ptr ps) /\ PCall qa 72 [PV.ptr ps, Z6 (i64.wrap r)] fun v => ∃ n, v = Z6 n /\ R (Z6 n)) ∨ some tc = some PV.nilp /\ PCall qa 72 [PV.nilp, Z6 (i64.wrap r)] fun v => ∃ n, v = Z6 n /\ R (Z6 n)
theorem zmz {R : PV -> Prop} (h : zem tc r R) : PCall qa 56 [.ptr [tc, tg, tj, tf, tp, .mp M, .mp S], .int .i32 r] R :=
 PCall.wz Try.func56 aT [0, 1, 4, 6] bE h
end
section
variable (tc tg tj tf tp : PV) (M S : List (PV × PV)) (r : Int)
def zen (R : PV -> Prop) : Prop :=
 (∃ ps, some tp = some (PV.ptr ps) /\ PCall qa 25 [PV.ptr ps, Z6 (i64.wrap r)] fun v => ∃ cs, v = PV.agg cs /\ cs.length = 2 /\ ∃ n, cs.head? = some (Z3 n) /\ ∃ n1, cs.tail.head? = some (Z3 n1) /\ R (PV.tup [Z3 n, Z3 n1, Zb (bif false then n == 0 && (n1 == 0 && true) else !(n == 0 && (n1 == 0 && true)))])) ∨ some tp = some PV.nilp /\ PCall qa 25 [PV.nilp, Z6 (i64.wrap r)] fun v => ∃ cs, v = PV.agg cs /\ cs.length = 2 /\ ∃ n, cs.head? = some (Z3 n) /\ ∃ n1, cs.tail.head? = some (Z3 n1) /\ R (PV.tup [Z3 n, Z3 n1, Zb (bif false then n == 0 && (n1 == 0 && true) else !(n == 0 && (n1 == 0 && true)))])
theorem zm0 {R : PV -> Prop} (h : zen tp r R) : PCall qa 54 [.ptr [tc, tg, tj, tf, tp, .mp M, .mp S], .int .i32 r] R :=
 PCall.wz Try.func54 aT [0, 1, 4, 5, 6, 7, 9] bE h
end
section
variable (tc tg tj tf tp : PV) (M S : List (PV × PV)) (r : Int)
def zeo (R : PV -> Prop) : Prop :=
 PCall qa 54 [PV.ptr [tc, tg, tj, tf, tp, PV.mp M, PV.mp S], Z3 r] fun v => ∃ vs, v = PV.tup vs /\ vs.length = 3 /\ ∃ x, vs.head? = some x /\ ∃ n, x = Z3 n /\ ∃ x1, vs.tail.head? = some x1 /\ ∃ (n1 :
  Int), x1 = Z3 n1 /\ ∃ x2, vs.tail.tail.head? = some x2 /\ ∃ b, x2 = Zb b /\ if b = true then if (n1 == 0) = true then R (Zb true) else
 let V1 := PCall qa 56 [PV.ptr [tc, tg, tj, tf, tp, PV.mp M, PV.mp S], Z3 r] fun v2 => ∃ n2, v2 = Z6 n2 /\ if (n2 != 0) = true then R (Zb true) else PCall qa 56 [PV.ptr [tc, tg, tj, tf, tp, PV.mp M, PV.mp S], Z3 n]
  fun v3 => ∃ n3, v3 = Z6 n3 /\ R (Zb (n3 != 0)); (∃ ps, some tf = some (PV.ptr ps) /\ PCall qa 55 [PV.ptr ps, Z6 (i64.wrap r)] fun v1 => ∃ cs, v1 = PV.agg cs /\ cs.length = 4 /\ ∃ (b1
  : Bool), cs.head? = some (Zb b1) /\ ∃ b2, cs.tail.head? = some (Zb b2) /\ ∃ b3, cs.tail.tail.head? = some (Zb b3) /\ ∃ b4, cs.tail.tail.tail.head? = some (Zb b4) /\ if b4 = true then R (Zb true) else V1) ∨ some tf
  = some PV.nilp /\ PCall qa 55 [PV.nilp, Z6 (i64.wrap r)] fun v1 => ∃ cs, v1 = PV.agg cs /\ cs.length = 4 /\ ∃ b1, cs.head? = some (Zb b1) /\ ∃ b2, cs.tail.head? = some (Zb b2) /\ ∃ (b3 :
  Bool), cs.tail.tail.head? = some (Zb b3) /\ ∃ b4, cs.tail.tail.tail.head? = some (Zb b4) /\ if b4 = true then R (Zb true) else V1 else R (Zb false)
theorem zm1 {R : PV -> Prop} (h : zeo tc tg tj tf tp M S r R) : PCall qa 26 [.ptr [tc, tg, tj, tf, tp, .mp M, .mp S], .int .i32 r] R :=
 PCall.wz Try.func26 aT [0, 1, 4, 5, 6, 7] bE h
end
section
variable (tc tg tj tf tp : PV) (M S : List (PV × PV)) (a b : Int)
def zep (R : PV -> Prop) : Prop :=
 if (b == 0) = true then R (PV.tup [Z3 0, Zb false]) else (∃ (kvs : List (PV × PV)), some (PV.mp M) = some (PV.mp kvs) /\ bV qa 70 kvs /\ aV qa 70 (PV.agg [Z3 a, Z3 b]) = true /\ (∀ (v : PV), bO (PV.agg [Z3 a, Z3 b]) kvs = some v -> ∃ n, v = Z3 n /\ R (PV.tup [Z3 n, Zb true])) /\ (bO (PV.agg [Z3 a, Z3 b]) kvs = none -> R (PV.tup [Z3 0, Zb false]))) ∨ some (PV.mp M) = some PV.nilm /\ bV qa 70 [] /\ aV qa 70 (PV.agg [Z3 a, Z3 b]) = true /\ (∀ (v : PV), bO (PV.agg [Z3 a, Z3 b]) [] = some v -> ∃ n, v = Z3 n /\ R (PV.tup [Z3 n, Zb true])) /\ (bO (PV.agg [Z3 a, Z3 b]) [] = none -> R (PV.tup [Z3 0, Zb false]))
theorem zm2 {R : PV -> Prop} (h : zep M a b R) : PCall qa 78 [.ptr [tc, tg, tj, tf, tp, .mp M, .mp S], .int .i32 a, .int .i32 b] R :=
 PCall.wz Try.func78 aT [0, 1, 2, 6, 7, 8, 9, 15] bE h
end
def xP  (n5 f5 : Bool) (s5 : LL) (n28 f28 : Bool) (s28 : LL) (x29 x30 : Int) (h0_0 h0_1 h0_2 h0_3 : PV) (n_1 : Bool) (s_1 : LL) (m_2 : List (PV × PV)) (m_3 : List (PV × PV)) : Env × Hp := ([(3, LV.box 0 0), (4, LV.own 1), (5, .pv (.sl n5 f5 s5)), (28, .pv (.sl n28 f28 s28)), (29, Y6 x29), (30, Y6 x30)], [.box [.pv h0_0, .pv h0_1, .pv h0_2, .pv h0_3, LV.pv PV.nilp, LV.mp 2, LV.mp 3], .sl (72, 4) true n_1 s_1, .mp m_2, .mp m_3])
def xQ  (n56 f56 : Bool) (s56 : LL) (x57 x58 : Int) (h0_0 h0_1 h0_2 h0_3 h0_4 : PV) (m_1 : List (PV × PV)) (m_2 : List (PV × PV)) : Env × Hp := ([(3, LV.box 0 0), (56, .pv (.sl n56 f56 s56)), (57, Y6 x57), (58, Y6 x58)], [.box [.pv h0_0, .pv h0_1, .pv h0_2, .pv h0_3, .pv h0_4, LV.mp 1, LV.mp 2], .mp m_1, .mp m_2])
def xR  (x10 : Int) (n56 f56 : Bool) (s56 : LL) (x57 x58 : Int) (h0_0 h0_1 h0_2 h0_3 h0_4 : PV) (h1_0 h1_1 h1_2 h1_3 : Int) (m_2 : List (PV × PV)) (m_3 : List (PV × PV)) : Env × Hp := ([(3, LV.box 0 0), (9, LV.box 1 0), (10, .pv (.int i32 x10)), (56, .pv (.sl n56 f56 s56)), (57, Y6 x57), (58, Y6 x58)], [.box [.pv h0_0, .pv h0_1, .pv h0_2, .pv h0_3, .pv h0_4, LV.mp 2, LV.mp 3], .box [Y6 h1_0, Y6 h1_1, Y6 h1_2, Y6 h1_3], .mp m_2, .mp m_3])
section
variable (n f : Bool) (es : LL) (J : Bool -> Bool -> LL -> Bool -> Bool -> LL -> Int -> Int -> PV -> PV -> PV -> PV -> Bool -> LL -> (List (PV × PV)) -> (List (PV × PV)) -> Prop) (μ : Bool -> Bool -> LL -> Bool -> Bool -> LL -> Int -> Int -> PV -> PV -> PV -> PV -> Bool -> LL -> (List (PV × PV)) -> (List (PV × PV)) -> Nat) (J2 : Bool -> Bool -> LL -> Int -> Int -> PV -> PV -> PV -> PV -> PV -> (List (PV × PV)) -> (List (PV × PV)) -> Prop) (μ2 : Bool -> Bool -> LL -> Int -> Int -> PV -> PV -> PV -> PV -> PV -> (List (PV × PV)) -> (List (PV × PV)) -> Nat) (J3 : Int -> Bool -> Bool -> LL -> Int -> Int -> PV -> PV -> PV -> PV -> PV -> Int -> Int -> Int -> Int -> (List (PV × PV)) -> (List (PV × PV)) -> Int -> Bool -> Bool -> LL -> Int -> Int -> PV -> PV -> PV -> PV -> PV -> Int -> Int -> Int -> Int -> (List (PV × PV)) -> (List (PV × PV)) -> Prop) (μ3 : Int -> Bool -> Bool -> LL -> Int -> Int -> PV -> PV -> PV -> PV -> PV -> Int -> Int -> Int -> Int -> (List (PV × PV)) -> (List (PV × PV)) -> Nat)
def zeq (R : PV -> Prop) : Prop :=
 PCall qa 21 [PV.sl n f es, Z6 1] fun v => PCall qa 21 [PV.sl n f es, Z6 4] fun v1 => PCall qa 21 [PV.sl n f es, Z6 6] fun v2 => PCall qa 22 [PV.sl n f es] fun v3 => eL v = true /\ eL v1
  = true /\ eL v2 = true /\ eL v3 = true /\ PCall qa 23 [PV.sl n f es, Z6 2] fun v4 => ∃ n1 f1 es1, v4 = PV.sl n1 f1 es1 /\ (aF (xP n1 f1 es1 n1 f1 es1 (↑es1.length : Int) (0 : Int) v v1 v2
  v3 true [] [] []) /\ J n1 f1 es1 n1 f1 es1 (↑es1.length : Int) (0 : Int) v v1 v2 v3 true [] [] []) /\ ∀ (n5 f5 : Bool) (s5 : LL) (n28 f28 : Bool) (s28 : LL) (x29 x30 : Int) (h0_0 h0_1 h0_2 h0_3 : PV) (n_1 : Bool) (s_1 : LL) (m_2 m_3 : List
  (PV × PV)), J n5 f5 s5 n28 f28 s28 x29 x30 h0_0 h0_1 h0_2 h0_3 n_1 s_1 m_2 m_3 -> if decide (x30 < x29) = true then aR s28 x30 4 /\ ∃ n2, (s28.getD x30.toNat []).head? = some (Z6 n2) /\ ∃ n3, (s28.getD x30.toNat
  []).tail.head? = some (Z6 n3) /\ ∃ n4, (s28.getD x30.toNat []).tail.tail.head? = some (Z6 n4) /\ ∃ n6, (s28.getD x30.toNat []).tail.tail.tail.head? = some (Z6 n6) /\ (aS [[Z6 n2, Z6 n3, Z3 (i32.wrap n4), Z3
  (i32.wrap n6)]] 4 /\ (s_1.length + 1) * 24 <= 140737488355328) /\ aF (xP n5 f5 s5 n28 f28 s28 x29 (i64.wrap (x30 + 1)) h0_0 h0_1 h0_2 h0_3 (n_1 && false) (s_1 ++ [[Z6 n2, Z6 n3, Z3 (i32.wrap n4), Z3
  (i32.wrap n6)]]) m_2 m_3) /\ J n5 f5 s5 n28 f28 s28 x29 (i64.wrap (x30 + 1)) h0_0 h0_1 h0_2 h0_3 (n_1 && false) (s_1 ++ [[Z6 n2, Z6 n3, Z3 (i32.wrap n4), Z3 (i32.wrap n6)]]) m_2 m_3 /\ μ n5 f5 s5 n28 f28 s28
  x29 (i64.wrap (x30 + 1)) h0_0 h0_1 h0_2 h0_3 (n_1 && false) (s_1 ++ [[Z6 n2, Z6 n3, Z3 (i32.wrap n4), Z3 (i32.wrap n6)]]) m_2 m_3 < μ n5 f5 s5 n28 f28 s28 x29 x30 h0_0 h0_1 h0_2 h0_3 n_1 s_1 m_2 m_3 else PCall
  qa 24 [Z6 1114112, PV.agg [Z3 0, Z3 0], PV.sl n_1 false s_1] fun v5 => eL v5 = true /\ (aF (xQ n5 f5 s5 (↑s5.length : Int) (0 : Int) h0_0 h0_1 h0_2 h0_3 v5 m_2 m_3) /\ J2 n5 f5 s5 (↑s5.length : Int) (0 : Int) h0_0 h0_1
  h0_2 h0_3 v5 m_2 m_3) /\ ∀ (n56 f56 : Bool) (s56 : LL) (x57 x58 : Int) (h0_01 h0_11 h0_21 h0_31 h0_4 : PV) (m_1 m_21 : List (PV × PV)), J2 n56 f56 s56 x57 x58 h0_01 h0_11 h0_21 h0_31 h0_4 m_1 m_21 -> if decide (x58 < x57) = true then aR
  s56 x58 4 /\ ∃ n2, (s56.getD x58.toNat []).head? = some (Z6 n2) /\ ∃ n3, (s56.getD x58.toNat []).tail.head? = some (Z6 n3) /\ ∃ n4, (s56.getD x58.toNat []).tail.tail.head? = some (Z6 n4) /\ ∃ n6, (s56.getD
  x58.toNat []).tail.tail.tail.head? = some (Z6 n6) /\ (aF (xR (i32.wrap n2) n56 f56 s56 x57 x58 h0_01 h0_11 h0_21 h0_31 h0_4 n2 n3 n4 n6 m_1 m_21) /\ J3 (i32.wrap n2) n56 f56 s56 x57 x58 h0_01 h0_11 h0_21 h0_31 h0_4 n2
  n3 n4 n6 m_1 m_21 (i32.wrap n2) n56 f56 s56 x57 x58 h0_01 h0_11 h0_21 h0_31 h0_4 n2 n3 n4 n6 m_1 m_21) /\ ∀ (x10 : Int) (n561 f561 : Bool) (s561 : LL) (x571 x581 : Int) (h0_02 h0_12 h0_22 h0_32 h0_41 : PV) (h1_0 h1_1 h1_2 h1_3 :
  Int) (m_22 m_31 : List (PV × PV)), J3 (i32.wrap n2) n56 f56 s56 x57 x58 h0_01 h0_11 h0_21 h0_31 h0_4 n2 n3 n4 n6 m_1 m_21 x10 n561 f561 s561 x571 x581 h0_02 h0_12 h0_22 h0_32 h0_41 h1_0 h1_1 h1_2 h1_3 m_22 m_31 ->
 let K14 := fun (y0_ : Int) (y1_ y2_ : Bool) (y3_ : LL) (y4_ y5_ : Int) (y6_ y7_ y8_ y9_ y10_ : PV) (y11_ y12_ y13_ y14_ : Int) (y15_ : List (PV × PV)) (y16_ : List (PV ×
  PV)) => aF (xR y0_ y1_ y2_ y3_ y4_ y5_ y6_ y7_ y8_ y9_ y10_ y11_ y12_ y13_ y14_ y15_ y16_) /\ J3 (i32.wrap n2) n56 f56 s56 x57 x58 h0_01 h0_11 h0_21 h0_31 h0_4 n2 n3 n4 n6 m_1 m_21 y0_ y1_ y2_ y3_ y4_ y5_ y6_ y7_ y8_ y9_
  y10_ y11_ y12_ y13_ y14_ y15_ y16_ /\ μ3 y0_ y1_ y2_ y3_ y4_ y5_ y6_ y7_ y8_ y9_ y10_ y11_ y12_ y13_ y14_ y15_ y16_ < μ3 x10 n561 f561 s561 x571 x581 h0_02 h0_12 h0_22 h0_32 h0_41 h1_0 h1_1 h1_2 h1_3 m_22 m_31; if decide (i64.wrap
  x10 <= h1_1) = true then PCall qa 25 [h0_41, Z6 (i64.wrap x10)] fun v6 => ∃ cs, v6 = PV.agg cs /\ cs.length = 2 /\ ∃ n7, cs.head? = some (Z3 n7) /\ ∃ n8, cs.tail.head? = some (Z3 n8) /\ bV
  qa 70 m_22 /\ aV qa 70 (PV.agg [Z3 n7, Z3 n8]) = true /\
 let V1 := K14 (i32.wrap (x10 + 1)) n561 f561 s561 x571 x581 h0_02 h0_12 h0_22 h0_32 h0_41 h1_0 h1_1 h1_2 h1_3 m_22 m_31; (∀ (v7 : PV), bO (PV.agg [Z3 n7, Z3 n8]) m_22 = some v7 -> ∃ n9, v7 = Z3 n9 /\ V1) /\ (bO (PV.agg
  [Z3 n7, Z3 n8]) m_22 = none -> PCall qa 26 [PV.ptr [h0_02, h0_12, h0_22, h0_32, h0_41, PV.mp m_22, PV.mp m_31], Z3 x10] fun v7 => ∃ b, v7 = Zb b /\ true = true /\ if (!b) = true then
 let V2 := ((0 : Int) <= (↑(d8 (PV.agg [Z3 n7, Z3 n8]) m_22) : Int) /\ (↑(d8 (PV.agg [Z3 n7, Z3 n8]) m_22) : Int).toNat < (bA (PV.agg [Z3 n7, Z3 n8]) (eS (PV.agg [Z3 n7, Z3 n8]) (Z3 0) m_22) m_22).length) /\ kB .i32 m_31 /\
  ((0 : Int) <= (↑(d8 (Z3 n8) m_31) : Int) /\ (↑(d8 (Z3 n8) m_31) : Int).toNat < (bA (Z3 n8) (eS (Z3 n8) (Zb false) m_31) m_31).length) /\ K14 (i32.wrap (x10 + 1)) n561 f561 s561 x571 x581 h0_02 h0_12 h0_22 h0_32 h0_41
  h1_0 h1_1 h1_2 h1_3 (jA (↑(d8 (PV.agg [Z3 n7, Z3 n8]) m_22) : Int).toNat (Z3 x10) (bA (PV.agg [Z3 n7, Z3 n8]) (eS (PV.agg [Z3 n7, Z3 n8]) (Z3 0) m_22) m_22)) (jA (↑(d8 (Z3 n8) m_31) : Int).toNat (Zb true) (bA
  (Z3 n8) (eS (Z3 n8) (Zb false) m_31) m_31)); (bV qa 70 m_22 /\ aV qa 70 (PV.agg [Z3 n7, Z3 n8]) = true /\ V2) /\ bV qa 70 m_22 /\ aV qa 70 (PV.agg [Z3 n7, Z3 n8]) = true /\ V2 /\ V2 else V1) else aF
  (xQ n561 f561 s561 x571 (i64.wrap (x581 + 1)) h0_02 h0_12 h0_22 h0_32 h0_41 m_22 m_31) /\ J2 n561 f561 s561 x571 (i64.wrap (x581 + 1)) h0_02 h0_12 h0_22 h0_32 h0_41 m_22 m_31 /\ μ2 n561 f561 s561 x571 (i64.wrap
  (x581 + 1)) h0_02 h0_12 h0_22 h0_32 h0_41 m_22 m_31 < μ2 n56 f56 s56 x57 x58 h0_01 h0_11 h0_21 h0_31 h0_4 m_1 m_21 else R (PV.ptr [h0_01, h0_11, h0_21, h0_31, h0_4, PV.mp m_1, PV.mp m_21])
theorem zm3 {R : PV -> Prop} (h : zeq n f es J μ J2 μ2 J3 μ3 R) : PCall qa 7 [.sl n f es] R :=
 PCall.wz Try.func7 aT [0, 2, 3, 4, 5, 7, 9, 10, 11, 13, 28, 29, 30, 31, 56, 57, 58, 59, 69, 95] (gY [(5, (bF (eA cz8) xP J μ (fun e h => (gN e 5, gF e 5, gS e 5, gN e 28, gF e 28, gS e 28, gI e 29, gI e 30, hP h 0 0, hP h 0 1, hP h 0 2, hP h 0 3, oN h 1, oS h 1, oM h 2, oM h 3)) [(4, 72, 4)] [3, 4, 5, 28, 29, 30] [])), (11, (bF (eA iO) xQ J2 μ2 (fun e h => (gN e 56, gF e 56, gS e 56, gI e 57, gI e 58, hP h 0 0, hP h 0 1, hP h 0 2, hP h 0 3, hP h 0 4, oM h 1, oM h 2)) [] [3, 56, 57, 58] [])), (14, (gZ (eA cz9) xR J3 μ3 (fun e h => (gI e 10, gN e 56, gF e 56, gS e 56, gI e 57, gI e 58, hP h 0 0, hP h 0 1, hP h 0 2, hP h 0 3, hP h 0 4, hI h 1 0, hI h 1 1, hI h 1 2, hI h 1 3, oM h 2, oM h 3)) [] [3, 9, 10, 56, 57, 58] []))]) h
end
def xS (n1 : Bool) (es : LL) (x10 h1_0 h1_1 h1_2 h1_3 : Int) (n_2 : Bool) (s_2 : LL) : Env × Hp := ([(2, LV.box 1 0), (5, LV.own 2), (8, LV.own 0), (9, LV.pv (PV.int i64 (es.length : Int))), (10, Y6 x10)], [.sl (68, 4) false n1 es, .box [Y6 h1_0, Y6 h1_1, Y6 h1_2, Y6 h1_3], .sl (68, 4) true n_2 s_2])
section
variable (a b c d : Int) (n1 : Bool) (es : LL) (J : Int -> Int -> Int -> Int -> Int -> Bool -> LL -> Prop) (μ : Int -> Int -> Int -> Int -> Int -> Bool -> LL -> Nat)
def zer (R : LV -> Hp -> Prop) : Prop :=
 (aF (xS n1 es (0 : Int) a b c d true []) /\ J (0 : Int) a b c d true []) /\ ∀ (x10 h1_0 h1_1 h1_2 h1_3 : Int) (n_2 : Bool) (s_2 : LL), J x10 h1_0 h1_1 h1_2 h1_3 n_2 s_2 ->
 let K3 := fun (y0_ y1_ y2_ y3_ y4_ : Int) (y5_ : Bool) (y6_ : LL) => aF (xS n1 es y0_ y1_ y2_ y3_ y4_ y5_ y6_) /\ J y0_ y1_ y2_ y3_ y4_ y5_ y6_ /\ μ y0_ y1_ y2_ y3_ y4_ y5_ y6_ < μ x10 h1_0 h1_1 h1_2
  h1_3 n_2 s_2; if decide (x10 < (↑es.length : Int)) = true then aR es x10 4 /\ ∃ n, (qb 0 (es.getD x10.toNat [])).head? = some (Z6 n) /\ ∃ n2, (qb 0 (es.getD x10.toNat [])).tail.head? = some (Z6 n2) /\ ∃ (n3
  : Int), (qb 0 (es.getD x10.toNat [])).tail.tail.head? = some (Z6 n3) /\ ∃ n4, (qb 0 (es.getD x10.toNat [])).tail.tail.tail.head? = some (Z6 n4) /\
 let V1 := K3 (i64.wrap (x10 + 1)) h1_0 h1_1 h1_2 h1_3 n_2 s_2; if decide (n2 < h1_0) = true then V1 else if decide (n > h1_1) = true then V1 else if decide (n > h1_0) = true then (aS [[Z6 h1_0, Z6 (i64.wrap (n - 1)), Z6
  h1_2, Z6 h1_3]] 4 /\ (s_2.length + 1) * 32 <= 140737488355328) /\ K3 (i64.wrap (x10 + 1)) (i64.wrap (n2 + 1)) h1_1 h1_2 h1_3 (n_2 && false) (s_2 ++ [[Z6 h1_0, Z6 (i64.wrap (n - 1)), Z6 h1_2, Z6 h1_3]]) else K3
  (i64.wrap (x10 + 1)) (i64.wrap (n2 + 1)) h1_1 h1_2 h1_3 n_2 s_2 else if decide (h1_0 <= h1_1) = true then (aS [[Z6 h1_0, Z6 h1_1, Z6 h1_2, Z6 h1_3]] 4 /\ (s_2.length + 1) * 32 <= 140737488355328) /\ R (LV.own 1) [Ob.sl (68,
  4) false n1 es, Ob.sl ((68 : Nat), 4) true (n_2 && false) (s_2 ++ [[Z6 h1_0, Z6 h1_1, Z6 h1_2, Z6 h1_3]])] else R (LV.own 1) [Ob.sl (68, 4) false n1 es, Ob.sl (68, 4) true n_2 s_2]
theorem zm4 {R : LV -> Hp -> Prop} (h : zer a b c d n1 es J μ R) : ACall qa 48 [.pv (.agg [.int .i64 a, .int .i64 b, .int .i64 c, .int .i64 d]), .own 0] [.sl (68, 4) false n1 es] R :=
 ACall.wz Try.func48 aT [0, 1, 2, 4, 5, 7, 8, 9, 10, 11, 25, 30, 53] (dB 3 (bF cz7 (xS n1 es) J μ (fun e h => (gI e 10, hI h 1 0, hI h 1 1, hI h 1 2, hI h 1 3, oN h 2, oS h 2)) [(5, 68, 4)] [2, 5, 8, 9, 10] [])) [0, 2] h
end
def xT (n f : Bool) (es : LL) (x9 : Int) (n_0 : Bool) (s_0 : LL) : Env × Hp := ([(3, LV.own 0), (7, LV.pv (PV.sl n f es)), (8, LV.pv (PV.int i64 (es.length : Int))), (9, Y6 x9)], [.sl (68, 4) true n_0 s_0])
section
variable (n f : Bool) (es : LL) (J : Int -> Bool -> LL -> Prop) (μ : Int -> Bool -> LL -> Nat)
def zes (R : PV -> Prop) : Prop :=
 (aF (xT n f es (0 : Int) true []) /\ J (0 : Int) true []) /\ ∀ (x9 : Int) (n_0 : Bool) (s_0 : LL), J x9 n_0 s_0 ->
 let K3 := fun (y0_ : Int) (y1_ : Bool) (y2_ : LL) => aF (xT n f es y0_ y1_ y2_) /\ J y0_ y1_ y2_ /\ μ y0_ y1_ y2_ < μ x9 n_0 s_0; if decide (x9 < (↑es.length : Int)) = true then aR es x9 4 /\ ∃ n1, (es.getD x9.toNat []).head? = some (Z6 n1) /\ ∃ n2, (es.getD x9.toNat []).tail.head? = some (Z6 n2) /\ ∃ n3, (es.getD x9.toNat []).tail.tail.head? = some (Z6 n3) /\ ∃ n4, (es.getD x9.toNat []).tail.tail.tail.head? = some (Z6 n4) /\
 let V1 := (aS [[Z6 n1, Z6 n2, Z6 n3, Z6 n4]] 4 /\ (s_0.length + 1) * 32 <= 140737488355328) /\ K3 (i64.wrap (x9 + 1)) (n_0 && false) (s_0 ++ [[Z6 n1, Z6 n2, Z6 n3, Z6 n4]]); if decide (i64.wrap ((↑s_0.length : Int) - 1) >= 0) = true then aR s_0 (i64.wrap ((↑s_0.length : Int) - 1)) 4 /\ ∃ n5, (qb 1 (s_0.getD (i64.wrap ((↑s_0.length : Int) - 1)).toNat [])).head? = some (Z6 n5) /\ if (i64.wrap (n5 + 1) == n1) = true then aR s_0 (i64.wrap ((↑s_0.length : Int) - 1)) 4 /\ ∃ n6, (qb 2 (s_0.getD (i64.wrap ((↑s_0.length : Int) - 1)).toNat [])).head? = some (Z6 n6) /\ if (n6 == n3) = true then aR s_0 (i64.wrap ((↑s_0.length : Int) - 1)) 4 /\ ∃ n7, (qb 3 (s_0.getD (i64.wrap ((↑s_0.length : Int) - 1)).toNat [])).head? = some (Z6 n7) /\ if (n7 == n4) = true then aR s_0 (i64.wrap ((↑s_0.length : Int) - 1)) 4 /\ (1 = 1 /\ 2 <= (s_0.getD (i64.wrap ((↑s_0.length : Int) - 1)).toNat []).length) /\ K3 (i64.wrap (x9 + 1)) n_0 (s_0.set (i64.wrap ((↑s_0.length : Int) - 1)).toNat (aO (s_0.getD (i64.wrap ((↑s_0.length : Int) - 1)).toNat []) 1 [Z6 n2])) else V1 else V1 else V1 else V1 else R (PV.sl n_0 false s_0)
theorem zm5 {R : PV -> Prop} (h : zes n f es J μ R) : PCall qa 50 [.sl n f es] R :=
 PCall.wz Try.func50 aT [0, 2, 3, 5, 6, 7, 8, 9, 10, 48] (dB 3 (bF eF (xT n f es) J μ (fun e h => (gI e 9, oN h 0, oS h 0)) [(3, 68, 4)] [3, 7, 8, 9] [])) h
end
section
variable (x : Int)
def zet (R : PV -> Prop) : Prop :=
 R (Zb (x != x))
theorem zm6 {R : PV -> Prop} (h : zet x R) : PCall qa 69 [.int .i64 x] R :=
 PCall.wz Try.func69 aT [0, 2] bE h
end
section
variable (x y : Int)
def zeu (R : PV -> Prop) : Prop :=
 PCall qa 69 [Z6 x] fun v => ∃ b, v = Zb b /\ PCall qa 69 [Z6 y] fun v1 => ∃ b1, v1 = Zb b1 /\ if b = true then if b1 = true then R (Z6 0) else R (Z6 (-1 : Int)) else if b1 = true then R (Z6 1) else if decide (x < y) = true then R (Z6 (-1 : Int)) else if decide (x > y) = true then R (Z6 1) else R (Z6 0)
theorem zm7 {R : PV -> Prop} (h : zeu x y R) : PCall qa 47 [.int .i64 x, .int .i64 y] R :=
 PCall.wz Try.func47 aT [0, 1, 4, 5, 6, 11, 12, 13, 16, 19] bE h
end
section
variable (a b c d a2 b2 c2 d2 : Int)
def zev (R : PV -> Prop) : Prop :=
 PCall qa 47 [Z6 a, Z6 a2] fun v => ∃ n, v = Z6 n /\ R (Z6 n)
theorem zm8 {R : PV -> Prop} (h : zev a a2 R) : PCall qa 46 [.agg [.int .i64 a, .int .i64 b, .int .i64 c, .int .i64 d], .agg [.int .i64 a2, .int .i64 b2, .int .i64 c2, .int .i64 d2]] R :=
 PCall.wz Try.func46 aT [0, 1, 2, 3, 4] bE h
end
def xU (n f : Bool) (es : LL) (k x12 : Int) (n_0 : Bool) (s_0 : LL) : Env × Hp := ([(1, Y6 k), (5, LV.own 0), (6, LV.pv (PV.fn 46 [])), (10, LV.pv (PV.sl n f es)), (11, LV.pv (PV.int i64 (es.length : Int))), (12, Y6 x12)], [.sl (68, 4) true n_0 s_0])
section
variable (n f : Bool) (es : LL) (k : Int) (J : Int -> Bool -> LL -> Prop) (μ : Int -> Bool -> LL -> Nat)
def zew (R : PV -> Prop) : Prop :=
 (aF (xU n f es k (0 : Int) true []) /\ J (0 : Int) true []) /\ ∀ (x12 : Int) (n_0 : Bool) (s_0 : LL), J x12 n_0 s_0 ->
 let K4 := fun (y0_ : Int) (y1_ : Bool) (y2_ : LL) => aF (xU n f es k y0_ y1_ y2_) /\ J y0_ y1_ y2_ /\ μ y0_ y1_ y2_ < μ x12 n_0 s_0; if decide (x12 < (↑es.length : Int)) = true then aR es x12 5 /\ ∃ n1, (es.getD x12.toNat []).head? = some (Z6 n1) /\ ∃ n2, (es.getD x12.toNat []).tail.head? = some (Z6 n2) /\ ∃ n3, (es.getD x12.toNat []).tail.tail.head? = some (Z6 n3) /\ ∃ n4, (es.getD x12.toNat []).tail.tail.tail.head? = some (Z6 n4) /\ ∃ n5, (es.getD x12.toNat []).tail.tail.tail.tail.head? = some (Z6 n5) /\ if (n1 != k) = true then K4 (i64.wrap (x12 + 1)) n_0 s_0 else ACall qa 48 [LV.pv (PV.agg [Z6 (if n2 < 0 then (0 : Int) else n2), Z6 (if (1114111 : Int) < n3 then (1114111 : Int) else n3), Z6 n4, Z6 n5]), LV.own 0] [Ob.sl (68, 4) false n_0 s_0] fun (r : LV) (h' : Hp) => ∃ (t : Bool × LL), (r = LV.own 1 /\ h' = [Ob.sl (68, 4) false n_0 s_0, Ob.sl (68, 4) true t.fst t.snd]) /\ (((68, 4) = (68, 4) /\ n_0 = n_0 /\ s_0.length = s_0.length) /\ True) /\ (aS t.snd 4 /\ (s_0.length + t.snd.length) * 32 <= (140737488355328 : Nat)) /\ ACall qa 49 [LV.own 0, LV.pv (PV.fn 46 [])] [Ob.sl (68, 4) false (n_0 && t.snd.isEmpty) (s_0 ++ t.snd)] fun (r1 : LV) (h'1 : Hp) => ∃ (t1 : LL), (r1 = LV.tup [] /\ h'1 = [Ob.sl (68, 4) false (n_0 && t.snd.isEmpty) t1]) /\ (((68, 4) = (68, 4) /\ (n_0 && t.snd.isEmpty) = (n_0 && t.snd.isEmpty) /\ (s_0 ++ t.snd).length = t1.length) /\ True) /\ K4 (i64.wrap (x12 + 1)) (n_0 && t.snd.isEmpty) t1 else PCall qa 50 [PV.sl n_0 false s_0] fun v => ∃ n1 f1 es1, v = PV.sl n1 f1 es1 /\ R (PV.sl n1 f1 es1)
theorem zm9 {R : PV -> Prop} (h : zew n f es k J μ R) : PCall qa 23 [.sl n f es, .int .i64 k] R :=
 PCall.wz Try.func23 (fun zz_ => match zz_ with | 48 => some ⟨Bool × LL, fun _ hs t => (.own 1, hs ++ [.sl (68, 4) true t.1 t.2]), none⟩ | 49 => some ⟨LL, fun _ hs t => (.tup [], match hs with | [.sl ty _ nl es] => [.sl ty false nl t] | h => h), none⟩ | _ => none) [0, 1, 4, 5, 6, 8, 9, 10, 11, 12, 13, 19] (dB 4 (bF eF (xU n f es k) J μ (fun e h => (gI e 12, oN h 0, oS h 0)) [(5, 68, 4)] [1, 5, 6, 10, 11, 12] [])) h
end
section
variable (a b c d t : Int)
def zex (R : PV -> Prop) : Prop :=
 if decide (b < t) = true then R (Z6 (-1 : Int)) else if decide (a > t) = true then R (Z6 1) else R (Z6 0)
theorem zna {R : PV -> Prop} (h : zex a b t R) : PCall qa 65 [.agg [.int .i64 a, .int .i64 b, .int .i64 c, .int .i64 d], .int .i64 t] R :=
 PCall.wz Try.func65 aT [0, 1, 2, 4, 5, 10] bE h
end
def xV (n f : Bool) (es : LL) (t x9 x10 : Int) : Env × Hp := ([(0, LV.pv (PV.sl n f es)), (1, Y6 t), (2, LV.pv (PV.fn 65 [])), (8, LV.pv (PV.int i64 (es.length : Int))), (9, Y6 x9), (10, Y6 x10)], [])
section
variable (n f : Bool) (es : LL) (t : Int) (J : Int -> Int -> Prop) (μ : Int -> Int -> Nat)
def zey (R : PV -> Prop) : Prop :=
 (aF (xV n f es t (0 : Int) (↑es.length : Int)) /\ J (0 : Int) (↑es.length : Int)) /\ ∀ (x9 x10 : Int), J x9 x10 ->
 let K3 := fun (y0_ y1_ : Int) => aF (xV n f es t y0_ y1_) /\ J y0_ y1_ /\ μ y0_ y1_ < μ x9 x10; if decide (x9 < x10) = true then aR es (i64.wrap ((IntKind.u64.wrap (i64.wrap (x9 + x10))).fdiv ((2 : Int) ^ 1))) 4 /\ ∃ n1, (es.getD (i64.wrap ((IntKind.u64.wrap (i64.wrap (x9 + x10))).fdiv ((2 : Int) ^ 1))).toNat []).head? = some (Z6 n1) /\ ∃ n2, (es.getD (i64.wrap ((IntKind.u64.wrap (i64.wrap (x9 + x10))).fdiv ((2 : Int) ^ 1))).toNat []).tail.head? = some (Z6 n2) /\ ∃ n3, (es.getD (i64.wrap ((IntKind.u64.wrap (i64.wrap (x9 + x10))).fdiv ((2 : Int) ^ 1))).toNat []).tail.tail.head? = some (Z6 n3) /\ ∃ n4, (es.getD (i64.wrap ((IntKind.u64.wrap (i64.wrap (x9 + x10))).fdiv ((2 : Int) ^ 1))).toNat []).tail.tail.tail.head? = some (Z6 n4) /\ PCall qa 65 [PV.agg [Z6 n1, Z6 n2, Z6 n3, Z6 n4], Z6 t] fun v => ∃ n5, v = Z6 n5 /\ if decide (n5 < 0) = true then K3 (i64.wrap (i64.wrap ((IntKind.u64.wrap (i64.wrap (x9 + x10))).fdiv ((2 : Int) ^ 1)) + 1)) x10 else K3 x9 (i64.wrap ((IntKind.u64.wrap (i64.wrap (x9 + x10))).fdiv ((2 : Int) ^ 1))) else if decide (x9 < (↑es.length : Int)) = true then aR es x9 4 /\ ∃ n1, (es.getD x9.toNat []).head? = some (Z6 n1) /\ ∃ n2, (es.getD x9.toNat []).tail.head? = some (Z6 n2) /\ ∃ n3, (es.getD x9.toNat []).tail.tail.head? = some (Z6 n3) /\ ∃ n4, (es.getD x9.toNat []).tail.tail.tail.head? = some (Z6 n4) /\ PCall qa 65 [PV.agg [Z6 n1, Z6 n2, Z6 n3, Z6 n4], Z6 t] fun v => ∃ n5, v = Z6 n5 /\ R (PV.tup [Z6 x9, Zb (n5 == 0)]) else R (PV.tup [Z6 x9, Zb false])
theorem znb {R : PV -> Prop} (h : zey n f es t J μ R) : PCall qa 64 [.sl n f es, .int .i64 t, .fn 65 []] R :=
 PCall.wz Try.func64 aT [0, 1, 2, 6, 7, 8, 9, 10, 11, 17, 31] (dB 3 (bF kC (xV n f es t) J μ (fun e h => (gI e 9, gI e 10)) [] [0, 1, 2, 8, 9, 10] [])) h
end
section
variable (n f : Bool) (es : LL) (r : Int)
def zez (R : PV -> Prop) : Prop :=
 PCall qa 64 [PV.sl n f es, Z6 (i64.wrap r), PV.fn 65 []] fun v => ∃ vs, v = PV.tup vs /\ vs.length = 2 /\ ∃ x, vs.head? = some x /\ ∃ n1, x = Z6 n1 /\ ∃ x1, vs.tail.head? = some x1 /\ ∃ b, x1 = Zb b /\ if (!b) = true then R (PV.tup [PV.agg [Z6 0, Z6 0, Z6 0, Z6 0], Zb false]) else aR es n1 4 /\ ∃ n2, (es.getD n1.toNat []).head? = some (Z6 n2) /\ ∃ n3, (es.getD n1.toNat []).tail.head? = some (Z6 n3) /\ ∃ n4, (es.getD n1.toNat []).tail.tail.head? = some (Z6 n4) /\ ∃ n5, (es.getD n1.toNat []).tail.tail.tail.head? = some (Z6 n5) /\ R (PV.tup [PV.agg [Z6 n2, Z6 n3, Z6 n4, Z6 n5], Zb true])
theorem znc {R : PV -> Prop} (h : zez n f es r R) : PCall qa 43 [.sl n f es, .int .i32 r] R :=
 PCall.wz Try.func43 aT [0, 1, 4, 5, 6, 7, 16] bE h
end
def ze0  (R : PV -> Prop) : Prop :=
 R (PV.sl false true [[Z6 1, Z6 768, Z6 788, Z6 230, Z6 0], [Z6 1, Z6 789, Z6 789, Z6 232, Z6 0], [Z6 1, Z6 790, Z6 793, Z6 220, Z6 0], [Z6 1, Z6 794, Z6 794, Z6 232, Z6 0], [Z6 1, Z6 795, Z6 795, Z6 216, Z6 0], [Z6 1, Z6 796, Z6 800, Z6 220, Z6 0], [Z6 1, Z6 801, Z6 802, Z6 202, Z6 0], [Z6 1, Z6 803, Z6 806, Z6 220, Z6 0], [Z6 1, Z6 807, Z6 808, Z6 202, Z6 0], [Z6 1, Z6 809, Z6 819, Z6 220, Z6 0], [Z6 1, Z6 820, Z6 824, Z6 1, Z6 0], [Z6 1, Z6 825, Z6 828, Z6 220, Z6 0], [Z6 1, Z6 829, Z6 836, Z6 230, Z6 0], [Z6 1, Z6 837, Z6 837, Z6 240, Z6 0], [Z6 1, Z6 838, Z6 838, Z6 230, Z6 0], [Z6 1, Z6 839, Z6 841, Z6 220, Z6 0], [Z6 1, Z6 842, Z6 844, Z6 230, Z6 0], [Z6 1, Z6 845, Z6 846, Z6 220, Z6 0], [Z6 1, Z6 848, Z6 850, Z6 230, Z6 0], [Z6 1, Z6 851, Z6 854, Z6 220, Z6 0], [Z6 1, Z6 855, Z6 855, Z6 230, Z6 0], [Z6 1, Z6 856, Z6 856, Z6 232, Z6 0], [Z6 1, Z6 857, Z6 858, Z6 220, Z6 0], [Z6 1, Z6 859, Z6 859, Z6 230, Z6 0], [Z6 1, Z6 860, Z6 860, Z6 233, Z6 0], [Z6 1, Z6 861, Z6 862, Z6 234, Z6 0], [Z6 1, Z6 863, Z6 863, Z6 233, Z6 0], [Z6 1, Z6 864, Z6 865, Z6 234, Z6 0], [Z6 1, Z6 866, Z6 866, Z6 233, Z6 0], [Z6 1, Z6 867, Z6 879, Z6 230, Z6 0], [Z6 1, Z6 1155, Z6 1159, Z6 230, Z6 0], [Z6 1, Z6 1456, Z6 1456, Z6 10, Z6 0], [Z6 1, Z6 1457, Z6 1457, Z6 11, Z6 0], [Z6 1, Z6 1458, Z6 1458, Z6 12, Z6 0], [Z6 1, Z6 1459, Z6 1459, Z6 13, Z6 0], [Z6 1, Z6 1460, Z6 1460, Z6 14, Z6 0], [Z6 1, Z6 1461, Z6 1461, Z6 15, Z6 0], [Z6 1, Z6 1462, Z6 1462, Z6 16, Z6 0], [Z6 1, Z6 1463, Z6 1463, Z6 17, Z6 0], [Z6 1, Z6 1464, Z6 1464, Z6 18, Z6 0], [Z6 1, Z6 1465, Z6 1466, Z6 19, Z6 0], [Z6 1, Z6 1467, Z6 1467, Z6 20, Z6 0], [Z6 1, Z6 1468, Z6 1468, Z6 21, Z6 0], [Z6 1, Z6 1469, Z6 1469, Z6 22, Z6 0], [Z6 1, Z6 1471, Z6 1471, Z6 23, Z6 0], [Z6 1, Z6 1473, Z6 1473, Z6 24, Z6 0], [Z6 1, Z6 1474, Z6 1474, Z6 25, Z6 0], [Z6 1, Z6 1479, Z6 1479, Z6 18, Z6 0], [Z6 1, Z6 1611, Z6 1611, Z6 27, Z6 0], [Z6 1, Z6 1612, Z6 1612, Z6 28, Z6 0], [Z6 1, Z6 1613, Z6 1613, Z6 29, Z6 0], [Z6 1, Z6 1614, Z6 1614, Z6 30, Z6 0], [Z6 1, Z6 1615, Z6 1615, Z6 31, Z6 0], [Z6 1, Z6 1616, Z6 1616, Z6 32, Z6 0], [Z6 1, Z6 1617, Z6 1617, Z6 33, Z6 0], [Z6 1, Z6 1618, Z6 1618, Z6 34, Z6 0], [Z6 1, Z6 1619, Z6 1620, Z6 230, Z6 0], [Z6 1, Z6 1621, Z6 1622, Z6 220, Z6 0], [Z6 1, Z6 1648, Z6 1648, Z6 35, Z6 0], [Z6 1, Z6 2364, Z6 2364, Z6 7, Z6 0], [Z6 1, Z6 2381, Z6 2381, Z6 9, Z6 0], [Z6 1, Z6 2385, Z6 2385, Z6 230, Z6 0], [Z6 1, Z6 2386, Z6 2386, Z6 220, Z6 0], [Z6 1, Z6 2387, Z6 2388, Z6 230, Z6 0], [Z6 1, Z6 2492, Z6 2492, Z6 7, Z6 0], [Z6 1, Z6 2509, Z6 2509, Z6 9, Z6 0], [Z6 1, Z6 3021, Z6 3021, Z6 9, Z6 0], [Z6 1, Z6 3640, Z6 3641, Z6 103, Z6 0], [Z6 1, Z6 3642, Z6 3642, Z6 9, Z6 0], [Z6 1, Z6 3656, Z6 3659, Z6 107, Z6 0], [Z6 1, Z6 3953, Z6 3953, Z6 129, Z6 0], [Z6 1, Z6 3954, Z6 3954, Z6 130, Z6 0], [Z6 1, Z6 3956, Z6 3956, Z6 132, Z6 0], [Z6 1, Z6 8400, Z6 8401, Z6 230, Z6 0], [Z6 1, Z6 8402, Z6 8403, Z6 1, Z6 0], [Z6 1, Z6 8404, Z6 8407, Z6 230, Z6 0], [Z6 1, Z6 8411, Z6 8412, Z6 230, Z6 0], [Z6 1, Z6 8417, Z6 8417, Z6 230, Z6 0], [Z6 1, Z6 8424, Z6 8424, Z6 220, Z6 0], [Z6 1, Z6 12441, Z6 12442, Z6 8, Z6 0], [Z6 1, Z6 65056, Z6 65062, Z6 230, Z6 0], [Z6 1, Z6 119141, Z6 119141, Z6 216, Z6 0]])
theorem znd  {R : PV -> Prop} (h : ze0  R) : PCall qa 27 [] R :=
 PCall.wz Try.func27 aT [0] bE h

def ze1  (R : PV -> Prop) : Prop :=
 R (PV.sl false true [[Z6 2, Z6 192, Z6 192, Z6 65, Z6 768], [Z6 2, Z6 193, Z6 193, Z6 65, Z6 769], [Z6 2, Z6 194, Z6 194, Z6 65, Z6 770], [Z6 2, Z6 195, Z6 195, Z6 65, Z6 771], [Z6 2, Z6 196, Z6 196, Z6 65, Z6 776], [Z6 2, Z6 197, Z6 197, Z6 65, Z6 778], [Z6 2, Z6 199, Z6 199, Z6 67, Z6 807], [Z6 2, Z6 200, Z6 200, Z6 69, Z6 768], [Z6 2, Z6 201, Z6 201, Z6 69, Z6 769], [Z6 2, Z6 202, Z6 202, Z6 69, Z6 770], [Z6 2, Z6 203, Z6 203, Z6 69, Z6 776], [Z6 2, Z6 204, Z6 204, Z6 73, Z6 768], [Z6 2, Z6 205, Z6 205, Z6 73, Z6 769], [Z6 2, Z6 206, Z6 206, Z6 73, Z6 770], [Z6 2, Z6 207, Z6 207, Z6 73, Z6 776], [Z6 2, Z6 209, Z6 209, Z6 78, Z6 771], [Z6 2, Z6 210, Z6 210, Z6 79, Z6 768], [Z6 2, Z6 211, Z6 211, Z6 79, Z6 769], [Z6 2, Z6 212, Z6 212, Z6 79, Z6 770], [Z6 2, Z6 213, Z6 213, Z6 79, Z6 771], [Z6 2, Z6 214, Z6 214, Z6 79, Z6 776], [Z6 2, Z6 217, Z6 217, Z6 85, Z6 768], [Z6 2, Z6 218, Z6 218, Z6 85, Z6 769], [Z6 2, Z6 219, Z6 219, Z6 85, Z6 770], [Z6 2, Z6 220, Z6 220, Z6 85, Z6 776], [Z6 2, Z6 221, Z6 221, Z6 89, Z6 769], [Z6 2, Z6 224, Z6 224, Z6 97, Z6 768], [Z6 2, Z6 225, Z6 225, Z6 97, Z6 769], [Z6 2, Z6 226, Z6 226, Z6 97, Z6 770], [Z6 2, Z6 227, Z6 227, Z6 97, Z6 771], [Z6 2, Z6 228, Z6 228, Z6 97, Z6 776], [Z6 2, Z6 229, Z6 229, Z6 97, Z6 778], [Z6 2, Z6 231, Z6 231, Z6 99, Z6 807], [Z6 2, Z6 232, Z6 232, Z6 101, Z6 768], [Z6 2, Z6 233, Z6 233, Z6 101, Z6 769], [Z6 2, Z6 234, Z6 234, Z6 101, Z6 770], [Z6 2, Z6 235, Z6 235, Z6 101, Z6 776], [Z6 2, Z6 236, Z6 236, Z6 105, Z6 768], [Z6 2, Z6 237, Z6 237, Z6 105, Z6 769], [Z6 2, Z6 238, Z6 238, Z6 105, Z6 770], [Z6 2, Z6 239, Z6 239, Z6 105, Z6 776], [Z6 2, Z6 241, Z6 241, Z6 110, Z6 771], [Z6 2, Z6 242, Z6 242, Z6 111, Z6 768], [Z6 2, Z6 243, Z6 243, Z6 111, Z6 769], [Z6 2, Z6 244, Z6 244, Z6 111, Z6 770], [Z6 2, Z6 245, Z6 245, Z6 111, Z6 771], [Z6 2, Z6 246, Z6 246, Z6 111, Z6 776], [Z6 2, Z6 249, Z6 249, Z6 117, Z6 768], [Z6 2, Z6 250, Z6 250, Z6 117, Z6 769], [Z6 2, Z6 251, Z6 251, Z6 117, Z6 770], [Z6 2, Z6 252, Z6 252, Z6 117, Z6 776], [Z6 2, Z6 253, Z6 253, Z6 121, Z6 769], [Z6 2, Z6 255, Z6 255, Z6 121, Z6 776], [Z6 2, Z6 256, Z6 256, Z6 65, Z6 772], [Z6 2, Z6 257, Z6 257, Z6 97, Z6 772], [Z6 2, Z6 258, Z6 258, Z6 65, Z6 774], [Z6 2, Z6 259, Z6 259, Z6 97, Z6 774], [Z6 2, Z6 260, Z6 260, Z6 65, Z6 808], [Z6 2, Z6 261, Z6 261, Z6 97, Z6 808], [Z6 2, Z6 262, Z6 262, Z6 67, Z6 769], [Z6 2, Z6 263, Z6 263, Z6 99, Z6 769], [Z6 2, Z6 268, Z6 268, Z6 67, Z6 780], [Z6 2, Z6 269, Z6 269, Z6 99, Z6 780], [Z6 2, Z6 274, Z6 274, Z6 69, Z6 772], [Z6 2, Z6 275, Z6 275, Z6 101, Z6 772], [Z6 2, Z6 280, Z6 280, Z6 69, Z6 808], [Z6 2, Z6 281, Z6 281, Z6 101, Z6 808], [Z6 2, Z6 304, Z6 304, Z6 73, Z6 775], [Z6 2, Z6 323, Z6 323, Z6 78, Z6 769], [Z6 2, Z6 324, Z6 324, Z6 110, Z6 769], [Z6 2, Z6 352, Z6 352, Z6 83, Z6 780], [Z6 2, Z6 353, Z6 353, Z6 115, Z6 780], [Z6 2, Z6 381, Z6 381, Z6 90, Z6 780], [Z6 2, Z6 382, Z6 382, Z6 122, Z6 780], [Z6 2, Z6 416, Z6 416, Z6 79, Z6 795], [Z6 2, Z6 417, Z6 417, Z6 111, Z6 795], [Z6 2, Z6 431, Z6 431, Z6 85, Z6 795], [Z6 2, Z6 432, Z6 432, Z6 117, Z6 795], [Z6 2, Z6 469, Z6 469, Z6 220, Z6 772], [Z6 2, Z6 470, Z6 470, Z6 252, Z6 772], [Z6 2, Z6 471, Z6 471, Z6 220, Z6 769], [Z6 2, Z6 472, Z6 472, Z6 252, Z6 769], [Z6 2, Z6 480, Z6 480, Z6 550, Z6 772], [Z6 2, Z6 481, Z6 481, Z6 551, Z6 772], [Z6 2, Z6 550, Z6 550, Z6 65, Z6 775], [Z6 2, Z6 551, Z6 551, Z6 97, Z6 775], [Z6 2, Z6 832, Z6 832, Z6 768, Z6 0], [Z6 2, Z6 833, Z6 833, Z6 769, Z6 0], [Z6 2, Z6 835, Z6 835, Z6 787, Z6 0], [Z6 2, Z6 836, Z6 836, Z6 776, Z6 769], [Z6 2, Z6 884, Z6 884, Z6 697, Z6 0], [Z6 2, Z6 894, Z6 894, Z6 59, Z6 0], [Z6 2, Z6 901, Z6 901, Z6 168, Z6 769], [Z6 2, Z6 902, Z6 902, Z6 913, Z6 769], [Z6 2, Z6 903, Z6 903, Z6 183, Z6 0], [Z6 2, Z6 904, Z6 904, Z6 917, Z6 769], [Z6 2, Z6 912, Z6 912, Z6 970, Z6 769], [Z6 2, Z6 940, Z6 940, Z6 945, Z6 769], [Z6 2, Z6 941, Z6 941, Z6 949, Z6 769], [Z6 2, Z6 944, Z6 944, Z6 971, Z6 769], [Z6 2, Z6 970, Z6 970, Z6 953, Z6 776], [Z6 2, Z6 971, Z6 971, Z6 965, Z6 776], [Z6 2, Z6 2345, Z6 2345, Z6 2344, Z6 2364], [Z6 2, Z6 2353, Z6 2353, Z6 2352, Z6 2364], [Z6 2, Z6 2356, Z6 2356, Z6 2355, Z6 2364], [Z6 2, Z6 2392, Z6 2392, Z6 2325, Z6 2364], [Z6 2, Z6 2393, Z6 2393, Z6 2326, Z6 2364], [Z6 2, Z6 2396, Z6 2396, Z6 2337, Z6 2364], [Z6 2, Z6 2507, Z6 2507, Z6 2503, Z6 2494], [Z6 2, Z6 2508, Z6 2508, Z6 2503, Z6 2519], [Z6 2, Z6 3018, Z6 3018, Z6 3014, Z6 3006], [Z6 2, Z6 3955, Z6 3955, Z6 3953, Z6 3954], [Z6 2, Z6 3957, Z6 3957, Z6 3953, Z6 3956], [Z6 2, Z6 7692, Z6 7692, Z6 68, Z6 803], [Z6 2, Z6 7693, Z6 7693, Z6 100, Z6 803], [Z6 2, Z6 7776, Z6 7776, Z6 83, Z6 775], [Z6 2, Z6 7777, Z6 7777, Z6 115, Z6 775], [Z6 2, Z6 7778, Z6 7778, Z6 83, Z6 803], [Z6 2, Z6 7779, Z6 7779, Z6 115, Z6 803], [Z6 2, Z6 7784, Z6 7784, Z6 7778, Z6 775], [Z6 2, Z6 7785, Z6 7785, Z6 7779, Z6 775], [Z6 2, Z6 7840, Z6 7840, Z6 65, Z6 803], [Z6 2, Z6 7841, Z6 7841, Z6 97, Z6 803], [Z6 2, Z6 7842, Z6 7842, Z6 65, Z6 777], [Z6 2, Z6 7843, Z6 7843, Z6 97, Z6 777], [Z6 2, Z6 7844, Z6 7844, Z6 194, Z6 769], [Z6 2, Z6 7845, Z6 7845, Z6 226, Z6 769], [Z6 2, Z6 7846, Z6 7846, Z6 194, Z6 768], [Z6 2, Z6 7847, Z6 7847, Z6 226, Z6 768], [Z6 2, Z6 7848, Z6 7848, Z6 194, Z6 777], [Z6 2, Z6 7849, Z6 7849, Z6 226, Z6 777], [Z6 2, Z6 7850, Z6 7850, Z6 194, Z6 771], [Z6 2, Z6 7851, Z6 7851, Z6 226, Z6 771], [Z6 2, Z6 7852, Z6 7852, Z6 7840, Z6 770], [Z6 2, Z6 7853, Z6 7853, Z6 7841, Z6 770], [Z6 2, Z6 7854, Z6 7854, Z6 258, Z6 769], [Z6 2, Z6 7855, Z6 7855, Z6 259, Z6 769], [Z6 2, Z6 7856, Z6 7856, Z6 258, Z6 768], [Z6 2, Z6 7857, Z6 7857, Z6 259, Z6 768], [Z6 2, Z6 7858, Z6 7858, Z6 258, Z6 777], [Z6 2, Z6 7859, Z6 7859, Z6 259, Z6 777], [Z6 2, Z6 7860, Z6 7860, Z6 258, Z6 771], [Z6 2, Z6 7861, Z6 7861, Z6 259, Z6 771], [Z6 2, Z6 7862, Z6 7862, Z6 7840, Z6 774], [Z6 2, Z6 7863, Z6 7863, Z6 7841, Z6 774], [Z6 2, Z6 7884, Z6 7884, Z6 79, Z6 803], [Z6 2, Z6 7885, Z6 7885, Z6 111, Z6 803], [Z6 2, Z6 7896, Z6 7896, Z6 7884, Z6 770], [Z6 2, Z6 7897, Z6 7897, Z6 7885, Z6 770], [Z6 2, Z6 7936, Z6 7936, Z6 945, Z6 787], [Z6 2, Z6 7937, Z6 7937, Z6 945, Z6 788], [Z6 2, Z6 7938, Z6 7938, Z6 7936, Z6 768], [Z6 2, Z6 7939, Z6 7939, Z6 7937, Z6 768], [Z6 2, Z6 8049, Z6 8049, Z6 940, Z6 0], [Z6 2, Z6 8064, Z6 8064, Z6 7936, Z6 837], [Z6 2, Z6 8115, Z6 8115, Z6 945, Z6 837], [Z6 2, Z6 8486, Z6 8486, Z6 937, Z6 0], [Z6 2, Z6 8490, Z6 8490, Z6 75, Z6 0], [Z6 2, Z6 8491, Z6 8491, Z6 197, Z6 0], [Z6 2, Z6 8800, Z6 8800, Z6 61, Z6 824], [Z6 2, Z6 8814, Z6 8814, Z6 60, Z6 824], [Z6 2, Z6 10972, Z6 10972, Z6 10973, Z6 824], [Z6 2, Z6 12364, Z6 12364, Z6 12363, Z6 12441], [Z6 2, Z6 12366, Z6 12366, Z6 12365, Z6 12441], [Z6 2, Z6 12400, Z6 12400, Z6 12399, Z6 12441], [Z6 2, Z6 12401, Z6 12401, Z6 12399, Z6 12442], [Z6 2, Z6 12460, Z6 12460, Z6 12459, Z6 12441], [Z6 2, Z6 12497, Z6 12497, Z6 12495, Z6 12442], [Z6 2, Z6 12532, Z6 12532, Z6 12454, Z6 12441], [Z6 2, Z6 63744, Z6 63744, Z6 35912, Z6 0], [Z6 2, Z6 63745, Z6 63745, Z6 26356, Z6 0], [Z6 2, Z6 64285, Z6 64285, Z6 1497, Z6 1460], [Z6 2, Z6 64287, Z6 64287, Z6 1522, Z6 1463], [Z6 2, Z6 64298, Z6 64298, Z6 1513, Z6 1473], [Z6 2, Z6 64299, Z6 64299, Z6 1513, Z6 1474], [Z6 2, Z6 64300, Z6 64300, Z6 64329, Z6 1473], [Z6 2, Z6 64329, Z6 64329, Z6 1513, Z6 1468], [Z6 2, Z6 119134, Z6 119134, Z6 119127, Z6 119141]])
theorem zne  {R : PV -> Prop} (h : ze1  R) : PCall qa 28 [] R :=
 PCall.wz Try.func28 aT [0] bE h

def ze2  (R : PV -> Prop) : Prop :=
 R (PV.sl false true [[Z6 3, Z6 2392, Z6 2393, Z6 1, Z6 0], [Z6 3, Z6 2396, Z6 2396, Z6 1, Z6 0], [Z6 3, Z6 10972, Z6 10972, Z6 1, Z6 0], [Z6 3, Z6 64285, Z6 64285, Z6 1, Z6 0], [Z6 3, Z6 64287, Z6 64287, Z6 1, Z6 0], [Z6 3, Z6 64298, Z6 64300, Z6 1, Z6 0], [Z6 3, Z6 64329, Z6 64329, Z6 1, Z6 0], [Z6 3, Z6 119134, Z6 119134, Z6 1, Z6 0]])
theorem znf  {R : PV -> Prop} (h : ze2  R) : PCall qa 29 [] R :=
 PCall.wz Try.func29 aT [0] bE h

def ze3  (R : PV -> Prop) : Prop :=
 R (PV.sl false true [[Z6 4, Z6 0, Z6 9, Z6 3, Z6 0], [Z6 4, Z6 10, Z6 10, Z6 2, Z6 0], [Z6 4, Z6 11, Z6 12, Z6 3, Z6 0], [Z6 4, Z6 13, Z6 13, Z6 1, Z6 0], [Z6 4, Z6 14, Z6 31, Z6 3, Z6 0], [Z6 4, Z6 127, Z6 159, Z6 3, Z6 0], [Z6 4, Z6 173, Z6 173, Z6 3, Z6 0], [Z6 4, Z6 768, Z6 879, Z6 4, Z6 0], [Z6 4, Z6 1155, Z6 1161, Z6 4, Z6 0], [Z6 4, Z6 1425, Z6 1469, Z6 4, Z6 0], [Z6 4, Z6 1471, Z6 1471, Z6 4, Z6 0], [Z6 4, Z6 1473, Z6 1474, Z6 4, Z6 0], [Z6 4, Z6 1479, Z6 1479, Z6 4, Z6 0], [Z6 4, Z6 1536, Z6 1541, Z6 7, Z6 0], [Z6 4, Z6 1611, Z6 1631, Z6 4, Z6 0], [Z6 4, Z6 1648, Z6 1648, Z6 4, Z6 0], [Z6 4, Z6 1757, Z6 1757, Z6 7, Z6 0], [Z6 4, Z6 1807, Z6 1807, Z6 7, Z6 0], [Z6 4, Z6 2307, Z6 2307, Z6 8, Z6 0], [Z6 4, Z6 2362, Z6 2362, Z6 4, Z6 0], [Z6 4, Z6 2363, Z6 2363, Z6 8, Z6 0], [Z6 4, Z6 2364, Z6 2364, Z6 4, Z6 0], [Z6 4, Z6 2366, Z6 2368, Z6 8, Z6 0], [Z6 4, Z6 2369, Z6 2376, Z6 4, Z6 0], [Z6 4, Z6 2377, Z6 2380, Z6 8, Z6 0], [Z6 4, Z6 2381, Z6 2381, Z6 4, Z6 0], [Z6 4, Z6 2385, Z6 2391, Z6 4, Z6 0], [Z6 4, Z6 2434, Z6 2435, Z6 8, Z6 0], [Z6 4, Z6 2492, Z6 2492, Z6 4, Z6 0], [Z6 4, Z6 2494, Z6 2494, Z6 4, Z6 0], [Z6 4, Z6 2495, Z6 2496, Z6 8, Z6 0], [Z6 4, Z6 2503, Z6 2504, Z6 8, Z6 0], [Z6 4, Z6 2507, Z6 2508, Z6 8, Z6 0], [Z6 4, Z6 2509, Z6 2509, Z6 4, Z6 0], [Z6 4, Z6 2519, Z6 2519, Z6 4, Z6 0], [Z6 4, Z6 3006, Z6 3006, Z6 4, Z6 0], [Z6 4, Z6 3007, Z6 3007, Z6 8, Z6 0], [Z6 4, Z6 3014, Z6 3016, Z6 8, Z6 0], [Z6 4, Z6 3018, Z6 3020, Z6 8, Z6 0], [Z6 4, Z6 3021, Z6 3021, Z6 4, Z6 0], [Z6 4, Z6 3633, Z6 3633, Z6 4, Z6 0], [Z6 4, Z6 3635, Z6 3635, Z6 8, Z6 0], [Z6 4, Z6 3636, Z6 3642, Z6 4, Z6 0], [Z6 4, Z6 3655, Z6 3662, Z6 4, Z6 0], [Z6 4, Z6 3953, Z6 3966, Z6 4, Z6 0], [Z6 4, Z6 4352, Z6 4447, Z6 9, Z6 0], [Z6 4, Z6 4448, Z6 4519, Z6 10, Z6 0], [Z6 4, Z6 4520, Z6 4607, Z6 11, Z6 0], [Z6 4, Z6 8203, Z6 8203, Z6 3, Z6 0], [Z6 4, Z6 8204, Z6 8204, Z6 4, Z6 0], [Z6 4, Z6 8205, Z6 8205, Z6 5, Z6 0], [Z6 4, Z6 8206, Z6 8207, Z6 3, Z6 0], [Z6 4, Z6 8232, Z6 8238, Z6 3, Z6 0], [Z6 4, Z6 8288, Z6 8303, Z6 3, Z6 0], [Z6 4, Z6 8400, Z6 8432, Z6 4, Z6 0], [Z6 4, Z6 12330, Z6 12335, Z6 4, Z6 0], [Z6 4, Z6 12441, Z6 12442, Z6 4, Z6 0], [Z6 4, Z6 43360, Z6 43388, Z6 9, Z6 0], [Z6 4, Z6 55216, Z6 55238, Z6 10, Z6 0], [Z6 4, Z6 55243, Z6 55291, Z6 11, Z6 0], [Z6 4, Z6 65024, Z6 65039, Z6 4, Z6 0], [Z6 4, Z6 65056, Z6 65071, Z6 4, Z6 0], [Z6 4, Z6 65279, Z6 65279, Z6 3, Z6 0], [Z6 4, Z6 119141, Z6 119141, Z6 4, Z6 0], [Z6 4, Z6 127462, Z6 127487, Z6 6, Z6 0], [Z6 4, Z6 127995, Z6 127999, Z6 4, Z6 0], [Z6 4, Z6 917505, Z6 917535, Z6 3, Z6 0], [Z6 4, Z6 917536, Z6 917631, Z6 4, Z6 0], [Z6 4, Z6 917760, Z6 917999, Z6 4, Z6 0]])
theorem zng  {R : PV -> Prop} (h : ze3  R) : PCall qa 30 [] R :=
 PCall.wz Try.func30 aT [0] bE h

def ze4  (R : PV -> Prop) : Prop :=
 R (PV.sl false true [[Z6 5, Z6 169, Z6 169, Z6 1, Z6 0], [Z6 5, Z6 174, Z6 174, Z6 1, Z6 0], [Z6 5, Z6 8252, Z6 8252, Z6 1, Z6 0], [Z6 5, Z6 8265, Z6 8265, Z6 1, Z6 0], [Z6 5, Z6 8482, Z6 8482, Z6 1, Z6 0], [Z6 5, Z6 8505, Z6 8505, Z6 1, Z6 0], [Z6 5, Z6 8596, Z6 8601, Z6 1, Z6 0], [Z6 5, Z6 8617, Z6 8618, Z6 1, Z6 0], [Z6 5, Z6 8986, Z6 8987, Z6 1, Z6 0], [Z6 5, Z6 9193, Z6 9203, Z6 1, Z6 0], [Z6 5, Z6 9728, Z6 9733, Z6 1, Z6 0], [Z6 5, Z6 9735, Z6 9746, Z6 1, Z6 0], [Z6 5, Z6 9748, Z6 9861, Z6 1, Z6 0], [Z6 5, Z6 9872, Z6 9989, Z6 1, Z6 0], [Z6 5, Z6 9992, Z6 10002, Z6 1, Z6 0], [Z6 5, Z6 10084, Z6 10087, Z6 1, Z6 0], [Z6 5, Z6 127744, Z6 127994, Z6 1, Z6 0], [Z6 5, Z6 128000, Z6 128317, Z6 1, Z6 0], [Z6 5, Z6 128326, Z6 128591, Z6 1, Z6 0], [Z6 5, Z6 128640, Z6 128767, Z6 1, Z6 0], [Z6 5, Z6 129292, Z6 129338, Z6 1, Z6 0], [Z6 5, Z6 129351, Z6 129791, Z6 1, Z6 0]])
theorem znh  {R : PV -> Prop} (h : ze4  R) : PCall qa 31 [] R :=
 PCall.wz Try.func31 aT [0] bE h

def ze5  (R : PV -> Prop) : Prop :=
 R (PV.sl false true [[Z6 6, Z6 2325, Z6 2361, Z6 2, Z6 0], [Z6 6, Z6 2381, Z6 2381, Z6 1, Z6 0], [Z6 6, Z6 2392, Z6 2399, Z6 2, Z6 0], [Z6 6, Z6 2453, Z6 2472, Z6 2, Z6 0], [Z6 6, Z6 2509, Z6 2509, Z6 1, Z6 0]])
theorem zni  {R : PV -> Prop} (h : ze5  R) : PCall qa 32 [] R :=
 PCall.wz Try.func32 aT [0] bE h

def ze6  (R : PV -> Prop) : Prop :=
 R (PV.sl false true [[Z6 7, Z6 4352, Z6 4447, Z6 1, Z6 0], [Z6 7, Z6 8986, Z6 8987, Z6 1, Z6 0], [Z6 7, Z6 9193, Z6 9196, Z6 1, Z6 0], [Z6 7, Z6 9748, Z6 9749, Z6 1, Z6 0], [Z6 7, Z6 11904, Z6 12350, Z6 1, Z6 0], [Z6 7, Z6 12353, Z6 13311, Z6 1, Z6 0], [Z6 7, Z6 13312, Z6 19903, Z6 1, Z6 0], [Z6 7, Z6 19968, Z6 40959, Z6 1, Z6 0], [Z6 7, Z6 43360, Z6 43388, Z6 1, Z6 0], [Z6 7, Z6 44032, Z6 55203, Z6 1, Z6 0], [Z6 7, Z6 63744, Z6 64255, Z6 1, Z6 0], [Z6 7, Z6 65072, Z6 65135, Z6 1, Z6 0], [Z6 7, Z6 65281, Z6 65376, Z6 1, Z6 0], [Z6 7, Z6 65504, Z6 65510, Z6 1, Z6 0], [Z6 7, Z6 127744, Z6 127994, Z6 1, Z6 0], [Z6 7, Z6 128000, Z6 128317, Z6 1, Z6 0], [Z6 7, Z6 128326, Z6 128591, Z6 1, Z6 0], [Z6 7, Z6 128640, Z6 128767, Z6 1, Z6 0], [Z6 7, Z6 129292, Z6 129338, Z6 1, Z6 0], [Z6 7, Z6 129351, Z6 129791, Z6 1, Z6 0], [Z6 7, Z6 131072, Z6 262141, Z6 1, Z6 0]])
theorem znj  {R : PV -> Prop} (h : ze6  R) : PCall qa 33 [] R :=
 PCall.wz Try.func33 aT [0] bE h

def ze7  (R : PV -> Prop) : Prop :=
 R (PV.sl false true [[Z6 8, Z6 48, Z6 57, Z6 1, Z6 0], [Z6 8, Z6 65, Z6 90, Z6 1, Z6 0], [Z6 8, Z6 95, Z6 95, Z6 1, Z6 0], [Z6 8, Z6 97, Z6 122, Z6 1, Z6 0], [Z6 8, Z6 170, Z6 170, Z6 1, Z6 0], [Z6 8, Z6 181, Z6 181, Z6 1, Z6 0], [Z6 8, Z6 186, Z6 186, Z6 1, Z6 0], [Z6 8, Z6 192, Z6 214, Z6 1, Z6 0], [Z6 8, Z6 216, Z6 246, Z6 1, Z6 0], [Z6 8, Z6 248, Z6 705, Z6 1, Z6 0], [Z6 8, Z6 880, Z6 883, Z6 1, Z6 0], [Z6 8, Z6 886, Z6 887, Z6 1, Z6 0], [Z6 8, Z6 902, Z6 902, Z6 1, Z6 0], [Z6 8, Z6 904, Z6 1023, Z6 1, Z6 0], [Z6 8, Z6 1024, Z6 1153, Z6 1, Z6 0], [Z6 8, Z6 1162, Z6 1327, Z6 1, Z6 0], [Z6 8, Z6 1329, Z6 1366, Z6 1, Z6 0], [Z6 8, Z6 1488, Z6 1514, Z6 1, Z6 0], [Z6 8, Z6 1568, Z6 1610, Z6 1, Z6 0], [Z6 8, Z6 2308, Z6 2361, Z6 1, Z6 0], [Z6 8, Z6 2392, Z6 2401, Z6 1, Z6 0], [Z6 8, Z6 2437, Z6 2489, Z6 1, Z6 0], [Z6 8, Z6 3585, Z6 3632, Z6 1, Z6 0], [Z6 8, Z6 4352, Z6 4607, Z6 1, Z6 0], [Z6 8, Z6 7680, Z6 8191, Z6 1, Z6 0], [Z6 8, Z6 8486, Z6 8486, Z6 1, Z6 0], [Z6 8, Z6 8490, Z6 8491, Z6 1, Z6 0], [Z6 8, Z6 12353, Z6 12438, Z6 1, Z6 0], [Z6 8, Z6 12449, Z6 12538, Z6 1, Z6 0], [Z6 8, Z6 13312, Z6 19903, Z6 1, Z6 0], [Z6 8, Z6 19968, Z6 40959, Z6 1, Z6 0], [Z6 8, Z6 44032, Z6 55203, Z6 1, Z6 0], [Z6 8, Z6 63744, Z6 64255, Z6 1, Z6 0], [Z6 8, Z6 131072, Z6 262141, Z6 1, Z6 0]])
theorem znk  {R : PV -> Prop} (h : ze7  R) : PCall qa 34 [] R :=
 PCall.wz Try.func34 aT [0] bE h

def ze8  (R : PV -> Prop) : Prop :=
 PCall qa 27 [] fun v => ∃ n f es, v = PV.sl n f es /\ pA true [] es 5 40 /\ PCall qa 28 [] fun v1 => ∃ n1 f1 es1, v1 = PV.sl n1 f1 es1 /\ (aS es1 5 /\ (([] ++ es).length + es1.length) * 40 <= 140737488355328) /\ PCall qa 29 [] fun v2 => ∃ n2 f2 es2, v2 = PV.sl n2 f2 es2 /\ (aS es2 5 /\ (([] ++ es ++ es1).length + es2.length) * 40 <= 140737488355328) /\ PCall qa 30 [] fun v3 => ∃ n3 f3 es3, v3 = PV.sl n3 f3 es3 /\ (aS es3 5 /\ (([] ++ es ++ es1 ++ es2).length + es3.length) * 40 <= 140737488355328) /\ PCall qa 31 [] fun v4 => ∃ n4 f4 es4, v4 = PV.sl n4 f4 es4 /\ (aS es4 5 /\ (([] ++ es ++ es1 ++ es2 ++ es3).length + es4.length) * 40 <= 140737488355328) /\ PCall qa 32 [] fun v5 => ∃ n5 f5 es5, v5 = PV.sl n5 f5 es5 /\ (aS es5 5 /\ (([] ++ es ++ es1 ++ es2 ++ es3 ++ es4).length + es5.length) * (40 : Nat) <= 140737488355328) /\ PCall qa 33 [] fun v6 => ∃ n6 f6 es6, v6 = PV.sl n6 f6 es6 /\ (aS es6 5 /\ (([] ++ es ++ es1 ++ es2 ++ es3 ++ es4 ++ es5).length + es6.length) * (40 : Nat) <= 140737488355328) /\ PCall qa 34 [] fun v7 => ∃ n7 f7 es7, v7 = PV.sl n7 f7 es7 /\ (aS es7 5 /\ (([] ++ es ++ es1 ++ es2 ++ es3 ++ es4 ++ es5 ++ es6).length + es7.length) * 40 <= 140737488355328) /\ R (PV.sl (es.isEmpty && es1.isEmpty && es2.isEmpty && es3.isEmpty && es4.isEmpty && es5.isEmpty && es6.isEmpty && es7.isEmpty) false ([] ++ es ++ es1 ++ es2 ++ es3 ++ es4 ++ es5 ++ es6 ++ es7))
theorem znl  {R : PV -> Prop} (h : ze8  R) : PCall qa 8 [] R :=
 PCall.wz Try.func8 aT [0, 1] bE h

end Go.Eng
namespace Go.Eng.Rows
structure Row where
 kind : Int
 fr : Int
 to : Int
 a : Int
 b : Int
deriving DecidableEq
structure Sp where
 fr : Int
 to : Int
 a : Int
 b : Int
deriving DecidableEq, Inhabited
def Sp.has (x : Sp) (r : Int) : Prop := x.fr <= r /\ r <= x.to
def bT : List Sp -> Sp -> List Sp
 | [], s => if s.fr <= s.to then [s] else []
 | x :: xs, s => if x.to < s.fr then bT xs s else if s.to < x.fr then bT xs s else
   if s.fr < x.fr then { s with to := x.fr - 1 } :: bT xs { s with fr := x.to + 1 } else bT xs { s with fr := x.to + 1 }
def Rise (l : List Sp) : Prop := l.Pairwise fun x y => x.to < y.fr
def In (l : List Sp) : Prop := ∀ x ∈ l, 0 <= x.fr /\ x.fr <= x.to /\ x.to <= 1114111
def Good (l : List Sp) : Prop := Rise l /\ In l
def Apart (x y : Sp) : Prop := x.to < y.fr ∨ y.to < x.fr
def dL (l : List Sp) (r a b : Int) : Prop := ∃ x ∈ l, x.has r /\ x.a = a /\ x.b = b
theorem Rise.apart {l : List Sp} (h : Rise l) : l.Pairwise Apart := h.imp fun h => .inl h
theorem p6 {l : List Sp} {s : Sp} (hl : Good l) : ∀ y ∈ bT l s, s.fr <= y.fr /\ y.fr <= y.to /\ y.to <= s.to /\ y.a = s.a /\ y.b = s.b := by
 obtain ⟨h1, h2⟩ := hl
 induction l generalizing s with
 | nil =>
   intro y hy;simp only [bT] at hy;split at hy
   ·simp only [qg] at hy; subst hy; refine ⟨by omega, by omega, by omega, rfl, rfl⟩
   ·cases hy
 | cons x xs ih =>
   have hx := h2 x (qd);have ih := fun s => ih (s := s) (List.Pairwise.of_cons h1) (fun y hy => h2 y (qf _ hy));intro y hy;simp only [bT] at hy;split at hy
   ·exact ih s y hy
   ·split at hy
    ·exact ih s y hy
    ·split at hy
     ·rcases List.mem_cons.1 hy with e | hy
      ·subst e; exact ⟨qh _, by show s.fr <= x.fr - 1; omega, by show x.fr - 1 <= s.to; omega, rfl, rfl⟩
      ·have := ih _ y hy;refine ⟨by have := this.1; simp only at this; omega, this.2.1, this.2.2.1, this.2.2.2.1, this.2.2.2.2⟩
     ·have := ih _ y hy;refine ⟨by have := this.1; simp only at this; omega, this.2.1, this.2.2.1, this.2.2.2.1, this.2.2.2.2⟩
theorem xW {l : List Sp} {s : Sp} (hl : Good l) (r : Int) : (∃ y ∈ bT l s, y.has r) ↔ s.has r /\ ∀ x ∈ l, ¬ x.has r := by
 obtain ⟨h1, h2⟩ := hl
 induction l generalizing s with
 | nil =>
   simp only [bT];split
   ·simp
   ·simp [Sp.has]; omega
 | cons x xs ih =>
   have hx := h2 x (qd);have hrise : ∀ {y}, y ∈ xs -> x.to < y.fr := fun hy => qi h1 hy;have ih := fun s => ih (s := s) (List.Pairwise.of_cons h1) (fun y hy => h2 y (qf _ hy));simp only [bT, List.forall_mem_cons];split
   ·rw [ih s]; simp only [Sp.has];exact ⟨fun ⟨a, b⟩ => ⟨a, by omega, b⟩, fun ⟨a, _, b⟩ => ⟨a, b⟩⟩
   ·split
    ·rw [ih s]; simp only [Sp.has];exact ⟨fun ⟨a, b⟩ => ⟨a, by omega, b⟩, fun ⟨a, _, b⟩ => ⟨a, b⟩⟩
    ·split
     ·rw [show (∃ y ∈ { s with to := x.fr - 1 } :: bT xs { s with fr := x.to + 1 }, y.has r) ↔ (Sp.has { s with to := x.fr - 1 } r ∨ ∃ y ∈ bT xs { s with fr := x.to + 1 }, y.has r) by simp, ih];simp only [Sp.has];constructor
      ·rintro (⟨a, b⟩ | ⟨⟨a, b⟩, c⟩)
       ·refine ⟨⟨a, by omega⟩, by omega, fun y hy => ?_⟩;have := hrise hy; omega
       ·exact ⟨⟨by omega, b⟩, by omega, c⟩
      ·rintro ⟨⟨a, b⟩, c, d⟩;by_cases h : r <= x.fr - 1
       ·exact .inl ⟨a, h⟩
       ·exact .inr ⟨⟨by omega, b⟩, d⟩
     ·rw [ih];simp only [Sp.has];constructor
      ·rintro ⟨⟨a, b⟩, c⟩;exact ⟨⟨by omega, b⟩, by omega, c⟩
      ·rintro ⟨⟨a, b⟩, c, d⟩;exact ⟨⟨by omega, b⟩, d⟩
theorem znm {l : List Sp} {s : Sp} (hl : Good l) : Rise (bT l s) := by
 obtain ⟨h1, h2⟩ := hl
 induction l generalizing s with
 | nil => simp only [bT, Rise]; split <;> simp
 | cons x xs ih =>
   have hx := h2 x (qd);have hg : Good xs := ⟨List.Pairwise.of_cons h1, fun y hy => h2 y (qf _ hy)⟩;have ih := fun s => ih (s := s) hg.1 hg.2;simp only [bT];split
   ·exact ih s
   ·split
    ·exact ih s
    ·split
     ·refine List.pairwise_cons.2 ⟨fun y hy => ?_, ih _⟩;have := (p6 hg y hy).1;simp only at this ⊢; omega
     ·exact ih _
theorem ze9 (l : List Sp) (s : Sp) : (bT l s).length <= l.length + 1 := by
 induction l generalizing s with
 | nil => simp only [bT]; split <;> simp
 | cons x xs ih =>
   simp only [bT];split
   ·have := ih s; simp; omega
   ·split
    ·have := ih s; simp; omega
    ·split
     ·have := ih { s with fr := x.to + 1 }; simp; omega
     ·have := ih { s with fr := x.to + 1 }; simp; omega
theorem Good.len_aux {l : List Sp} (h : Good l) : ∀ c : Int, 0 <= c -> (∀ x ∈ l, c <= x.fr) -> c <= 1114112 -> (l.length : Int) <= 1114112 - c := by
 obtain ⟨h1, h2⟩ := h
 induction l with
 | nil => intro c h0 hc h; simp; omega
 | cons x xs ih =>
   intro c h0 hc hm;have hx := h2 x (qd);have hcx := hc x (qd);have := ih (List.Pairwise.of_cons h1) (fun y hy => h2 y (qf _ hy)) (x.to + 1) (by omega) (fun y hy => by have := qi h1 hy; omega) (by omega);simp only [qn];omega
theorem Good.len {l : List Sp} (h : Good l) : l.length <= 1114112 := by
 have := h.len_aux 0 (qh _) (fun x hx => (h.2 x hx).1) (by omega);omega
theorem xX {l t : List Sp} {s : Sp} (hl : Good l) (h0 : 0 <= s.fr) (h1 : s.to <= 1114111) (hp : t.Perm (l ++ bT l s)) (hs : t.Pairwise fun x y => ¬ y.fr < x.fr) : Good t := by
 have hin : In (l ++ bT l s) := fun x hx => by
  rcases List.mem_append.1 hx with hx | hx
  ·exact hl.2 x hx
  ·have := p6 hl x hx; omega
 have hap : (l ++ bT l s).Pairwise Apart := by
  refine List.pairwise_append.2 ⟨hl.1.apart, (znm hl).apart, fun x hx y hy => ?_⟩;have hy2 := p6 hl y hy;have hx2 := hl.2 x hx;by_cases h : x.to < y.fr
  ·exact .inl h
  ·by_cases h' : y.to < x.fr
   ·exact .inr h'
   ·exfalso;have hh := ((xW hl (if x.fr <= y.fr then y.fr else x.fr)).1 ⟨y, hy, by unfold Sp.has; split <;> omega⟩).2 x hx;apply hh;unfold Sp.has;split <;> omega
 have hap2 : t.Pairwise Apart := (hp.pairwise_iff (fun h => h.symm)).2 hap;have hin2 : In t := fun x hx => hin x (hp.mem_iff.1 hx);refine ⟨?_, hin2⟩;have := (List.Pairwise.and hap2 hs);refine List.Pairwise.imp_of_mem (fun {x y} hx hy h => ?_) this;have hx := hin2 x hx;have hy := hin2 y hy;rcases h.1 with h' | h'
 ·exact h'
 ·have := h.2; omega
theorem znn {l t : List Sp} {s : Sp} (hl : Good l) (hp : t.Perm (l ++ bT l s)) (r a b : Int) : dL t r a b ↔ dL l r a b ∨ (s.has r /\ s.a = a /\ s.b = b /\ ∀ x ∈ l, ¬ x.has r) := by
 unfold dL;simp only [hp.mem_iff, qac];constructor
 ·rintro ⟨x, hx | hx, h1, h2, h3⟩
  ·exact .inl ⟨x, hx, h1, h2, h3⟩
  ·have h4 := p6 hl x hx;have h5 := (xW hl r).1 ⟨x, hx, h1⟩;exact .inr ⟨h5.1, by omega, by omega, h5.2⟩
 ·rintro (⟨x, hx, h⟩ | ⟨h1, h2, h3, h4⟩)
  ·exact ⟨x, .inl hx, h⟩
  ·obtain ⟨y, hy, h⟩ := (xW hl r).2 ⟨h1, h4⟩;have h5 := p6 hl y hy;exact ⟨y, .inr hy, h, by omega, by omega⟩
theorem zfa : ∀ {t u : List Sp}, t.Perm u -> Good t -> Good u -> t = u
 | [], u, hp, _, _ => by simp at hp; exact hp.symm
 | x :: t, [], hp, _, _ => by simp at hp
 | x :: t, y :: u, hp, ht, hu => by
   have hxy : x = y := by
    have hx : x ∈ y :: u := hp.mem_iff.1 qd;have hy : y ∈ x :: t := hp.mem_iff.2 qd;rcases List.mem_cons.1 hx with e | hx
    ·exact e
    ·rcases List.mem_cons.1 hy with e | hy
     ·exact e.symm
     ·have h1 := qi hu.1 hx;have h2 := qi ht.1 hy;have h3 := ht.2 x qd;have h4 := hu.2 y qd;omega
   subst hxy;have hp' : t.Perm u := hp.cons_inv;rw [zfa hp' ⟨List.Pairwise.of_cons ht.1, fun z hz => ht.2 z (qf _ hz)⟩ ⟨List.Pairwise.of_cons hu.1, fun z hz => hu.2 z (qf _ hz)⟩]
def dO (acc : List Sp) (x : Sp) : List Sp :=
 match acc.getLast? with
 | some y => if y.to + 1 = x.fr /\ y.a = x.a /\ y.b = x.b then acc.dropLast ++ [{ y with to := x.to }] else acc ++ [x]
 | none => acc ++ [x]
def fS (l : List Sp) : List Sp := l.foldl dO []
def Split (l : List Sp) : Prop := ∀ (i : Nat) (h : i + 1 < l.length), ¬ (l[i].to + 1 = l[i+1].fr /\ l[i].a = l[i+1].a /\ l[i].b = l[i+1].b)
theorem Split.append {l : List Sp} {x : Sp} (h : Split l) (hl : ∀ y, l.getLast? = some y -> ¬ (y.to + 1 = x.fr /\ y.a = x.a /\ y.b = x.b)) : Split (l ++ [x]) := by
 intro i hi;simp only [qak, qn, qv] at hi;by_cases h1 : i + 1 < l.length
 ·have := h i h1;rw [ql (by omega), ql h1];exact this
 ·have e : i + 1 = l.length := by omega
  have := hl l[i] (by rw [qal, qm (by omega)]; congr 2; omega);rw [ql (by omega), qam (by omega)];simpa using this
theorem zno {l : List Sp} {y z : Sp} (h : Split (l ++ [y])) (h1 : z.fr = y.fr) (h2 : z.a = y.a) (h3 : z.b = y.b) : Split (l ++ [z]) := by
 refine Split.append (fun i hi => ?_) fun u hu => ?_
 ·have := h i (by simp; omega);rw [ql (by omega), ql hi] at this;exact this
 ·have hlen : 0 < l.length := by cases l with | nil => simp at hu | cons => simp
  have := h (l.length - 1) (by simp; omega);rw [ql (by omega), qam (by omega)] at this;rw [qal, qm (by omega)] at hu;cases hu;simpa [h1, h2, h3] using this
theorem zfb {l : List Sp} {y : Sp} (h : l.getLast? = some y) : ∃ k, l = k ++ [y] := by
 refine ⟨l.dropLast, ?_⟩;have hne : l ≠ [] := by rintro rfl; simp at h
 rw [qag hne] at h;cases h;exact (qai hne).symm
theorem znp (acc : List Sp) (x : Sp) : (dO acc x).length <= acc.length + 1 := by
 unfold dO;split
 ·split <;> simp <;> omega
 ·simp
theorem znq {acc : List Sp} {x : Sp} (hg : Good (acc ++ [x])) (hs : Split acc) : Good (dO acc x) /\ Split (dO acc x) /\ (∀ r a b, dL (dO acc x) r a b ↔ dL (acc ++ [x]) r a b) /\ (∀ y, (dO acc x).getLast? = some y -> y.to = x.to) := by
 unfold dO;split
 next y hy =>
  obtain ⟨k, rfl⟩ := zfb hy;split
  next h =>
   obtain ⟨h1, h2, h3⟩ := h;rw [qau];obtain ⟨g1, g2⟩ := hg;have hy2 := g2 y (by simp);have hx2 := g2 x (by simp);refine ⟨⟨?_, fun z hz => ?_⟩, zno hs rfl rfl rfl, fun r a b => ?_, fun z hz => by simp at hz; subst hz; rfl⟩
   ·have g3 := (List.pairwise_append.1 g1).1;have g4 := List.pairwise_append.1 g3;refine List.pairwise_append.2 ⟨g4.1, by simp, fun u hu v hv => ?_⟩;simp only [qg] at hv;subst hv;exact g4.2.2 u hu y (by simp)
   ·rcases List.mem_append.1 hz with hz | hz
    ·exact g2 z (by simp [hz])
    ·simp only [qg] at hz; subst hz; exact ⟨hy2.1, by show y.fr <= x.to; omega, hx2.2.2⟩
   ·simp only [dL, qac, qg, Sp.has];constructor
    ·rintro ⟨z, hz | rfl, h⟩
     ·exact ⟨z, .inl (.inl hz), h⟩
     ·obtain ⟨⟨e1, e2⟩, e3, e4⟩ := h;simp only at e1 e2 e3 e4;by_cases hr : r <= y.to
      ·exact ⟨y, .inl (.inr rfl), ⟨e1, hr⟩, e3, e4⟩
      ·exact ⟨x, .inr rfl, ⟨by omega, e2⟩, by omega, by omega⟩
    ·rintro ⟨z, (hz | rfl) | rfl, ⟨e1, e2⟩, e3, e4⟩
     ·exact ⟨z, .inl hz, ⟨e1, e2⟩, e3, e4⟩
     ·exact ⟨_, .inr rfl, ⟨e1, by show r <= x.to; omega⟩, e3, e4⟩
     ·exact ⟨_, .inr rfl, ⟨by show y.fr <= r; omega, e2⟩, by show y.a = a; omega, by show y.b = b; omega⟩
  next h =>
   refine ⟨hg, hs.append fun z hz => ?_, fun r a b => Iff.rfl, fun z hz => by simp at hz; subst hz; rfl⟩;rw [hy] at hz; cases hz; exact h
 next hy =>
  refine ⟨hg, hs.append fun z hz => ?_, fun r a b => Iff.rfl, fun z hz => by simp at hz; subst hz; rfl⟩;rw [hy] at hz; cases hz
theorem znr {l : List Sp} : ∀ {acc : List Sp}, Good acc -> Split acc -> Good l -> (∀ y, acc.getLast? = some y -> ∀ x ∈ l, y.to < x.fr) -> Good (l.foldl dO acc) /\ Split (l.foldl dO acc) /\ ∀ r a b, dL (l.foldl dO acc) r a b ↔ dL acc r a b ∨ dL l r a b := by
 induction l with
 | nil => intro acc h1 h2 h3 h4; exact ⟨h1, h2, fun r a b => by simp [dL]⟩
 | cons x xs ih =>
   intro acc h1 h2 h3 h4;have hxs : Good xs := ⟨List.Pairwise.of_cons h3.1, fun z hz => h3.2 z (qf _ hz)⟩
   have hg : Good (acc ++ [x]) := by
    refine ⟨List.pairwise_append.2 ⟨h1.1, by simp, fun u hu v hv => ?_⟩, fun z hz => ?_⟩
    ·simp only [qg] at hv;subst hv;have hne : acc ≠ [] := by rintro rfl; simp at hu
     obtain ⟨y, hy⟩ : ∃ y, acc.getLast? = some y := ⟨_, qag hne⟩;have h5 := h4 y hy v qd;obtain ⟨k, rfl⟩ := zfb hy;rcases List.mem_append.1 hu with hu | hu
     ·have := (List.pairwise_append.1 h1.1).2.2 u hu y (by simp);have := h1.2 y (by simp);omega
     ·simp only [qg] at hu; subst hu; exact h5
    ·rcases List.mem_append.1 hz with hz | hz
     ·exact h1.2 z hz
     ·simp only [qg] at hz; subst hz; exact h3.2 z qd
   obtain ⟨j1, j2, j3, j4⟩ := znq hg h2;obtain ⟨k1, k2, k3⟩ := ih j1 j2 hxs (fun y hy z hz => by rw [j4 y hy]; exact qi h3.1 hz);refine ⟨k1, k2, fun r a b => ?_⟩;rw [qar, k3, j3];unfold dL;simp only [qac, List.mem_cons, List.not_mem_nil, or_false];constructor
   ·rintro (⟨z, hz | rfl, h⟩ | ⟨z, hz, h⟩)
    ·exact .inl ⟨z, hz, h⟩
    ·exact .inr ⟨_, .inl rfl, h⟩
    ·exact .inr ⟨z, .inr hz, h⟩
   ·rintro (⟨z, hz, h⟩ | ⟨z, rfl | hz, h⟩)
    ·exact .inl ⟨z, .inl hz, h⟩
    ·exact .inl ⟨_, .inr rfl, h⟩
    ·exact .inr ⟨z, hz, h⟩
theorem xY {l : List Sp} (h : Good l) : Good (fS l) /\ Split (fS l) /\ ∀ r a b, dL (fS l) r a b ↔ dL l r a b := by
 have := znr (l := l) (acc := []) ⟨List.Pairwise.nil, fun _ h => by cases h⟩ (fun i hi => by simp at hi) h (by simp);refine ⟨this.1, this.2.1, fun r a b => ?_⟩;rw [fS, this.2.2];simp [dL]
def ins (x : Sp) : List Sp -> List Sp
 | [] => [x]
 | y :: l => if y.fr < x.fr then y :: ins x l else x :: y :: l
def s6 : List Sp -> List Sp
 | [] => []
 | x :: l => ins x (s6 l)
theorem zfc (x : Sp) (l : List Sp) : (ins x l).Perm (x :: l) := by
 induction l with
 | nil => exact List.Perm.refl _
 | cons y l ih =>
   simp only [ins];split
   ·exact ((List.Perm.cons y ih).trans (List.Perm.swap x y l))
   ·exact List.Perm.refl _
theorem s8 (l : List Sp) : (s6 l).Perm l := by
 induction l with
 | nil => exact List.Perm.refl _
 | cons x l ih => exact (zfc x _).trans (List.Perm.cons x ih)
theorem zns {x : Sp} {l : List Sp} (h : l.Pairwise fun x y => ¬ y.fr < x.fr) : (ins x l).Pairwise fun x y => ¬ y.fr < x.fr := by
 induction l with
 | nil => simp [ins]
 | cons y l ih =>
   simp only [ins];have h1 : ∀ z ∈ l, ¬ z.fr < y.fr := fun z hz => qi h hz;split
   ·refine List.pairwise_cons.2 ⟨fun z hz => ?_, ih (List.Pairwise.of_cons h)⟩;rcases List.mem_cons.1 ((zfc x l).mem_iff.1 hz) with e | hz
    ·subst e; omega
    ·exact h1 z hz
   ·refine List.pairwise_cons.2 ⟨fun z hz => ?_, h⟩;rcases List.mem_cons.1 hz with e | hz
    ·subst e; omega
    ·have := h1 z hz; omega
theorem zfd (l : List Sp) : (s6 l).Pairwise fun x y => ¬ y.fr < x.fr := by
 induction l with
 | nil => exact List.Pairwise.nil
 | cons x l ih => exact zns ih
def Row.sp (x : Row) : Sp := ⟨if x.fr < 0 then 0 else x.fr, if 1114111 < x.to then 1114111 else x.to, x.a, x.b⟩
theorem Row.sp_lo (x : Row) : 0 <= x.sp.fr := by simp only [Row.sp]; split <;> omega
theorem Row.sp_hi (x : Row) : x.sp.to <= 1114111 := by simp only [Row.sp]; split <;> omega
def jG (k : Int) (l : List Sp) (x : Row) : List Sp := if x.kind = k then s6 (l ++ bT l x.sp) else l
def eU (k : Int) (rows : List Row) : List Sp := rows.foldl (jG k) []
def aH (k : Int) (rows : List Row) : List Sp := fS (eU k rows)
def Row.has (x : Row) (k r : Int) : Bool := decide (x.kind = k) && (decide (x.fr <= r) && decide (r <= x.to))
def first (rows : List Row) (k r : Int) : Option (Int × Int) := (rows.find? fun x => x.has k r).map fun x => (x.a, x.b)
theorem znt {k : Int} {l : List Sp} (h : Good l) (x : Row) : Good (jG k l x) := by
 unfold jG;split
 ·exact xX h x.sp_lo x.sp_hi (s8 _) (zfd _)
 ·exact h
theorem znu {k : Int} {l t : List Sp} (h : Good l) {x : Row} (hx : x.kind = k) (hp : t.Perm (l ++ bT l x.sp)) (hs : t.Pairwise fun x y => ¬ y.fr < x.fr) : t = jG k l x := by
 unfold jG;rw [if_pos hx];exact zfa (hp.trans (s8 _).symm) (xX h x.sp_lo x.sp_hi hp hs) (xX h x.sp_lo x.sp_hi (s8 _) (zfd _))
theorem znv {k : Int} (rows : List Row) : ∀ {l : List Sp}, Good l -> Good (rows.foldl (jG k) l) := by
 induction rows with
 | nil => intro l h; exact h
 | cons x xs ih => intro l h; exact ih (znt h x)
theorem tC (k : Int) (rows : List Row) : Good (eU k rows) := znv rows ⟨List.Pairwise.nil, fun _ h => by cases h⟩
theorem zfe (k : Int) (rows : List Row) (x : Row) : eU k (rows ++ [x]) = jG k (eU k rows) x := by simp [eU]
theorem znw (rows : List Row) (x : Row) (k r : Int) : first (rows ++ [x]) k r = (first rows k r).or (if x.has k r then some (x.a, x.b) else none) := by
 unfold first
 rw [List.find?_append];cases h : rows.find? fun x => x.has k r with
 | some y => simp
 | none => simp only [qbl, Option.map_none, List.find?_singleton]; split <;> rfl
theorem znx (k : Int) (rows : List Row) (r a b : Int) : dL (eU k rows) r a b ↔ (0 <= r /\ r <= 1114111) /\ first rows k r = some (a, b) := by
 suffices H : ∀ n, ∀ (rows : List Row), rows.length = n -> ∀ r a b, dL (eU k rows) r a b ↔ (0 <= r /\ r <= 1114111) /\ first rows k r = some (a, b) from H _ rows rfl r a b
 intro n
 induction n with
 | zero =>
   intro rows h r a b;have := List.length_eq_zero_iff.1 h;subst this;simp [eU, dL, first]
 | succ n ih =>
   intro rows h r a b
   obtain ⟨ys, x, rfl⟩ : ∃ ys x, rows = ys ++ [x] := by
    have hne : rows ≠ [] := by rintro rfl; simp at h
    exact ⟨rows.dropLast, rows.getLast hne, (qai hne).symm⟩
   have ih := ih ys (by simpa using h)
   rw [zfe, znw];unfold jG;split
   next hk =>
    rw [znn (tC k ys) (s8 _), ih]
    have hno : (∀ y ∈ eU k ys, ¬ y.has r) ↔ ∀ a b, ¬ dL (eU k ys) r a b := by
     constructor
     ·rintro h a b ⟨y, hy, h1, _⟩; exact h y hy h1
     ·intro h y hy h1; exact h y.a y.b ⟨y, hy, h1, rfl, rfl⟩
    rw [hno];simp only [ih]
    have hsp : x.sp.has r ↔ (0 <= r /\ r <= 1114111) /\ x.has k r = true := by
     simp only [Sp.has, Row.sp, Row.has, qk, aB, hk, true_and];split <;> split <;> omega
    rw [hsp];cases hf : first ys k r with
    | some p =>
      simp only [Option.some_or];constructor
      ·rintro (h | ⟨⟨h1, h2⟩, _, _, h3⟩)
       ·exact h
       ·exact absurd ⟨h1, rfl⟩ (h3 p.1 p.2)
      ·exact fun h => .inl h
    | none =>
      simp only [qbl, reduceCtorEq, and_false, false_or, not_false_eq_true, implies_true, and_true];constructor
      ·rintro ⟨⟨h1, h2⟩, h3, h4⟩; rw [if_pos h2, <- h3, <- h4]; exact ⟨h1, rfl⟩
      ·rintro ⟨h1, h2⟩;split at h2
       ·cases h2; exact ⟨⟨h1, by assumption⟩, rfl, rfl⟩
       ·cases h2
   next hk =>
    rw [ih];have : x.has k r = false := by simp [Row.has, hk]
    rw [this];simp
theorem mB (k : Int) (rows : List Row) : Good (aH k rows) := (xY (tC k rows)).1
theorem zny (k : Int) (rows : List Row) (r a b : Int) : dL (aH k rows) r a b ↔ (0 <= r /\ r <= 1114111) /\ first rows k r = some (a, b) := by
 rw [aH, (xY (tC k rows)).2.2, znx]
example : aH 1 [⟨1, 5, 9, 7, 0⟩, ⟨1, 8, 12, 8, 0⟩] = [⟨5, 9, 7, 0⟩, ⟨10, 12, 8, 0⟩] := by decide
end Go.Eng.Rows
namespace Go.Eng
open Go Go.Proofs Go.Shelf Go.Sort
def fT (l : List Int) : List PV := l.map fun n => .int .i64 n
def dV (l : List Int) : List Value := l.map fun n => .int .i64 n
theorem zff {w : World} {I : Nat -> Prop} (l : List Int) : Rep w I (.agg (fT l)) (.agg (dV l).toArray) := by
 refine .agg _ _ (by simp [fT, dV]) (fun k v hv => ?_) (fun k v hv => ?_) <;>
 ·simp only [fT, qz] at hv;cases hq : l[k]? with
  | none => rw [hq] at hv; cases hv
  | some n =>
    rw [hq] at hv; cases hv
    have : (dV l).toArray.getD k undef = .int .i64 n := by
     have hk := (List.getElem?_eq_some_iff.1 hq);obtain ⟨hk, he⟩ := hk;simp [dV, hk, he]
    rw [this]
    first | exact .int _ _ | rfl
theorem znz {w : World} {I : Nat -> Prop} {n : Int} {v : Value} (h : Rep w I (.int .i64 n) v) : v = .int .i64 n := by cases h; rfl
theorem PCall.grows {P : Program} {g : Nat} {ps : List PV} {n : Int} (hc : PCall P g ps fun v => v = .int .i64 n) {args : Array Value} (hsz : args.size = ps.length) (hr : ∀ (w : World) (I : Nat -> Prop) (i : Nat) p, ps[i]? = some p -> Rep w I p (args.getD i undef)) (W : World) :
 Calls P g args W fun e w' => e = .returned (.int .i64 n) /\ ∃ q os', w' = Sort.grow (W.drewN q) os' := by
 refine (hc.2 W (fun b => b < W.heap.size) (fun _ => ⟨0, 0, 0, 0⟩) args (HRel.nil _ fun b hb => hb) (by simpa using hsz) (fun i v hi => ?_)).mono fun e w' ⟨cv, r, h', I', G', e1, ⟨v, e2, hq⟩, e3, e4, e5⟩ => ?_
 ·rw [qz] at hi;cases hp : ps[i]? with
  | none => rw [hp] at hi; cases hi
  | some p => rw [hp] at hi; cases hi; exact .pv _ _ (hr _ _ i p hp)
 ·subst e2; subst hq;have := e4.int_eq;subst this;have e5 := e5.t;refine ⟨e1, w'.drawn - W.drawn, w'.heap.extract W.heap.size w'.heap.size, ?_⟩;have hno : ∀ b, ¬ aU [] (fun _ => (⟨0, 0, 0, 0⟩ : Pl)) b := fun b ⟨o, ob, ho, _⟩ => by simp at ho
  have hh : w'.heap = W.heap ++ w'.heap.extract W.heap.size w'.heap.size := by
   apply Array.ext
   ·simp; have := e5.size; omega
   ·intro i h1 h2;by_cases hi : i < W.heap.size
    ·have := e5.keep i hi (hno i);rw [qw h1, qw hi] at this;rw [Array.getElem_append_left hi];exact Option.some.inj this
    ·rw [Array.getElem_append_right (by omega)];simp only [Array.getElem_extract];congr 1; omega
  have hd : ∀ q, (W.drewN q).heap = W.heap /\ (W.drewN q).tape = W.tape /\ (W.drewN q).drawn = W.drawn + q /\ (W.drewN q).os = W.os /\ (W.drewN q).output = W.output := fun q => by
   induction q with
   | zero => exact ⟨rfl, rfl, rfl, rfl, rfl⟩
   | succ q ih =>
     obtain ⟨i1, i2, i3, i4, i5⟩ := ih;exact ⟨i1, i2, by show (W.drewN q).drawn + 1 = _; rw [i3]; omega, i4, i5⟩
  obtain ⟨d1, d2, d3, d4, d5⟩ := hd (w'.drawn - W.drawn);have hdr := e5.drawn;obtain ⟨h1, h2, h3, h4, h5⟩ := w';simp only [Sort.grow, World.mk.injEq];refine ⟨by rw [d1]; exact hh, by rw [d2]; exact e5.tape, by rw [d3]; simp only at hdr ⊢; omega, by rw [d4]; exact e5.os, by rw [d5]; exact e5.output⟩

theorem zn0 (l : List Int) (q : Nat) (hq : q < l.length) : (dV l)[q]! = .int .i64 (l.getD q 0) := by
 simp [dV, hq, List.getD]
theorem zfg (l : List Int) (q : Nat) (hq : q < l.length) : (fT l)[q]? = some (.int .i64 (l.getD q 0)) := by
 simp [fT, hq, List.getD]
theorem zn1 {P : Program} {ρ : Go.Shelf.Ren} (L : SlLaysF0.n6 P ρ) (hcal : oP P (ρ.f 6)) (k : Nat) (hk0 : k ≠ 0) (aE : ∀ w, (isAgg (ρ.t 24)).run P w = .ok true w) (zE : ∀ w, (Go.sizeOf (ρ.t 24)).run P w = .ok k w) {α : Type} [Inhabited α] (fs : α -> List Int) (hk : ∀ x, (fs x).length = k)
 (cf : α -> α -> Int) (hO : Sort.SWO (ltOf cf)) (g : Nat) (hc : ∀ x y, PCall P g [.agg (fT (fs x)), .agg (fT (fs y))] fun v => v = .int .i64 (cf x y)) (ty : Nat × Nat) (hty : ty.2 = k) (nl : Bool) (l : List α) (hnl : nl = true -> l = []) (hl : l.length < 4611686018427387904) :
 ACall P (ρ.f 6) [.own 0, .pv (.fn g [])] [.sl ty false nl (l.map fun x => fT (fs x))] fun r h' => ∃ t : List α, r = .tup [] /\ h' = [.sl ty false nl (t.map fun x => fT (fs x))] /\ t.Perm l /\ t.Pairwise (fun a b => ¬ cf b a < 0) := by
 refine ⟨hcal, fun w I G cargs hh hsz hrel => ?_⟩;simp only [qn, qv] at hsz;have h0 := hrel 0 (.own 0) rfl;have h1 := hrel 1 (.pv (.fn g [])) rfl
 obtain ⟨v0, v1, rfl⟩ : ∃ v0 v1, cargs = #[v0, v1] := by
  obtain ⟨c⟩ := cargs
  match c, hsz with
  | [a, b], _ => exact ⟨a, b, rfl⟩
 have e0 : (#[v0, v1] : Array Value).getD 0 undef = v0 := rfl;have e1 : (#[v0, v1] : Array Value).getD 1 undef = v1 := rfl;rw [e0] at h0;rw [e1] at h1
 have hv1 : v1 = .func (.func g) #[] #[] := by
  cases h1 with
  | pv _ _ h => cases h with
    | fn f cs vs q1 q2 => have : vs = #[] := Array.eq_empty_of_size_eq_zero (by simpa using q1); rw [this]
 subst hv1;by_cases hl0 : l = []
 ·subst hl0
  obtain ⟨p, cap, rfl⟩ : ∃ p cap, v0 = .slice p 0 cap := by
   cases h0 with
   | ownNil => exact ⟨_, _, rfl⟩
   | own o ty m es ad q0 q1 => simp at q1; obtain ⟨_, _, _, rfl⟩ := q1; exact ⟨_, _, rfl⟩
  refine (AnyF.slices_SortFunc_none L p cap _ w).mono fun e w' ⟨he, hw⟩ => ?_;subst hw;exact ⟨_, _, _, I, G, he, ⟨[], rfl, rfl, List.Perm.refl _, List.Pairwise.nil⟩, hh, .tup [] #[] rfl (fun k v hk => by simp at hk), .refl _ _ _ _⟩
 ·have hnl' : nl = false := by cases nl with | false => rfl | true => exact absurd (hnl rfl) hl0
  subst hnl';have hor := hh.obs 0 _ rfl;obtain ⟨o1, o2, o3, o4, o5, o6⟩ := hor;have hlen : 0 < l.length := List.length_pos_iff.2 hl0;simp only [qad] at o1;have hcap : (G 0).cap ≠ 0 := by omega
  have hoff := o3 hcap;obtain ⟨vs, f1, f2, f3⟩ := o6 hcap;have hs4 : (G 0).sz = k := o4.trans hty;cases h0 with
  | ownNil o ty m es q1 => simp at q1
  | own o ty' m es ad q0 q1 =>
    simp only [qap, Option.some.injEq, Ob.sl.injEq] at q1;obtain ⟨rfl, rfl, _, rfl⟩ := q1;have had := q0 hcap;subst had;rw [hoff];have hown : aU [Ob.sl ty false false (l.map fun x => fT (fs x))] G (G 0).blk := ⟨0, _, rfl, ⟨rfl, hcap⟩, rfl⟩;have hblk := hh.blk_lt hown;have kpos := Nat.pos_of_ne_zero hk0
    have hdm : ∀ {i q : Nat}, q < k -> (i * k + q) / k = i /\ (i * k + q) % k = q := fun {i q} hq => by
     constructor
     ·rw [qba, Nat.mul_add_div kpos, Nat.div_eq_of_lt hq]; omega
     ·rw [qba, Nat.mul_add_mod, Nat.mod_eq_of_lt hq]
    have hrow : ∀ (d : Array α) (i q : Nat), i < d.size -> q < k -> (flatK (fun x => dV (fs x)) k d)[i * k + q]! = .int .i64 ((fs d[i]!).getD q 0) := fun d i q hi hq => by
     have hlt : i * k + q < d.size * k := by
      have : (i + 1) * k <= d.size * k := qt _ hi;rw [qaa] at this; omega
     rw [get_flatK _ _ _ _ hlt, (hdm hq).1, (hdm hq).2];exact zn0 _ _ (by rw [hk]; exact hq)
    have hH : HoldsK (fun x => dV (fs x)) k w (G 0).blk 0 l.toArray := fun j hj => by
     simp only [size_flatK, List.size_toArray] at hj;have hi : j / k < l.length := by rw [Nat.div_lt_iff_lt_mul kpos]; exact hj
     have hq : j % k < k := Nat.mod_lt _ kpos;have hjj : j = j / k * k + j % k := by have := Nat.div_add_mod j k; rw [qba] at this; omega
     have hlt : j < vs.size := by
      rw [f2, hs4];exact qbb hj (qt _ o1)
     have hr := f3 (j / k) _ (by simp [hi]) (j % k) _ (zfg (fs l[j / k]) (j % k) (by rw [hk]; exact hq));rw [hs4, <- hjj] at hr;have hval := znz hr.1;refine ⟨?_, ?_⟩
     ·have h2 := hrow l.toArray (j / k) (j % k) (by simpa using hi) hq
      rw [<- hjj] at h2;rw [h2, qae, jT f1 hlt, hval];simp [hi]
     ·simp [World.frozen?, f1]
    have eg : ∀ args w, (callFunc g args).run P w = .ok (.enter g args) w := fun args w => uY (hc default default).1
    have hcmp : CmpLays P g #[] (fun x => dV (fs x)) k cf (G 0).blk 0 l.toArray.size w := fun m os dk hdk x y => by
     refine PCall.grows (hc x y) rfl (fun w I i p hi => ?_) _
     match i, hi with
     | 0, hi => cases hi; exact zff _
     | 1, hi => cases hi; exact zff _
    have main := AnyQ.slices_SortFunc L k aE zE (fun x => dV (fs x)) (fun x => by simp [dV, hk]) (fun x v hv => by simp only [dV, qbc] at hv; obtain ⟨n, _, rfl⟩ := hv; rfl) cf hO g #[] (G 0).blk 0 (G 0).cap l.toArray w eg hcmp hH hblk (by simpa using hl)
    have e3 : l.toArray.size = (l.map fun x => fT (fs x)).length := by simp
    rw [e3] at main;refine main.mono fun e w' ⟨he, d', n, os, hp, hs, hw⟩ => ?_;subst hw;have hds : d'.size = l.length := by rw [hp.1]; simp
    have hperm : d'.toList.Perm l := by
     have := hp.2.2;simp only [qad] at this;rw [show d'.extract 0 l.length = d' by rw [<- hds]; simp] at this;simpa using this
    have hbl : (sortWorldK (fun x => dV (fs x)) k w (G 0).blk 0 n d' os).heap[(G 0).blk]? = some (.cells (putCells id 0 (flatK (fun x => dV (fs x)) k d') vs) ty.1 (0, 0)) := by
     unfold sortWorldK putRowK putRow;rw [Sort.heap_grow_old _ _ (by simpa [Sort.mapBlock, Sort.ahead] using hblk)]
     simp only [Sort.mapBlock, Sort.ahead, qat, if_true, f1];rfl
    have hother : ∀ b, b < w.heap.size -> b ≠ (G 0).blk -> (sortWorldK (fun x => dV (fs x)) k w (G 0).blk 0 n d' os).heap[b]? = w.heap[b]? := fun b hb hne => by
     unfold sortWorldK putRowK putRow;rw [Sort.heap_grow_old _ _ (by simpa [Sort.mapBlock, Sort.ahead] using hb)]
     simp only [Sort.mapBlock, Sort.ahead, qat];rw [if_neg (fun e => hne e.symm)]
    have hsize : w.heap.size <= (sortWorldK (fun x => dV (fs x)) k w (G 0).blk 0 n d' os).heap.size := by
     unfold sortWorldK putRowK putRow;rw [Sort.size_grow];simp [Sort.mapBlock, Sort.ahead]
    have hkeep : Keeps w I (sortWorldK (fun x => dV (fs x)) k w (G 0).blk 0 n d' os) I := ⟨fun b hb hbs => hother b hbs (fun e => hh.nI 0 _ rfl ⟨rfl, hcap⟩ (e ▸ hb)), fun _ x _ => x⟩;refine ⟨_, _, _, I, G, he, ⟨d'.toList, rfl, rfl, hperm, ?_⟩, ⟨fun o ob ho => ?_, fun o o' ob ob' ho _ ho' _ _ => ?_, fun o ob ho ha => ?_, fun b hb => qbb (hh.cl b hb) hsize⟩, .tup [] #[] rfl (fun k v hk => by simp at hk), ⟨⟨rfl, rfl, rfl, hsize, fun b hb hn => hother b hb (fun e => hn (e ▸ hown)), fun _ x => x, fun _ x => .inl x, fun b ⟨o, ob, ho, ha, hb⟩ => .inl ?_, fun a ha => ?_, Nat.le_add_right _ _⟩, Nat.le_refl _, fun o ob' ho hx hf => ?_⟩⟩
    ·rw [List.pairwise_iff_getElem];intro i j hi hj hij;have := hs i j (Nat.zero_le _) hij (by simp at hj ⊢; omega);simp only [ltOf, dA] at this;simp only [qav] at hi hj;simpa [hi, hj] using this
    ·cases o with
     | succ o => simp at ho
     | zero =>
       simp only [qap, Option.some.injEq] at ho;subst ho;refine ⟨by simp; omega, o2, fun _ => hoff, o4, fun i e he => ?_, fun _ => ⟨_, hbl, by simp [putCells, f2], fun i e he q v hv => ?_⟩⟩
       ·rw [qz] at he;cases hq : d'.toList[i]? with
        | none => rw [hq] at he; cases he
        | some x => rw [hq] at he; cases he; simp [fT, hk, hs4]
       ·rw [qz] at he;cases hq : d'.toList[i]? with
        | none => rw [hq] at he; cases he
        | some x =>
          rw [hq] at he;simp only [qbk, Option.some.injEq] at he;subst he;have hi := (List.getElem?_eq_some_iff.1 hq);obtain ⟨hi, hix⟩ := hi;simp only [qav] at hi;have hqk : q < k := by have := (List.getElem?_eq_some_iff.1 hv).1; simpa [fT, hk] using this
          rw [zfg _ _ (by rw [hk]; exact hqk)] at hv;cases hv
          have hlt : i * k + q < vs.size := by
           rw [f2, hs4];have h1 : (i + 1) * k <= (G 0).cap * k := qt _ (by omega);rw [qaa] at h1; omega
          have hlt2 : i * k + q < d'.size * k := by
           have h1 : (i + 1) * k <= d'.size * k := qt _ hi;rw [qaa] at h1; omega
          have : (putCells id 0 (flatK (fun x => dV (fs x)) k d') vs).getD (i * (G 0).sz + q) undef = .int .i64 ((fs x).getD q 0) := by
           rw [hs4];have h2 := hrow d' i q hi hqk;have h3 : d'[i]! = x := by rw [<- hix]; simp [hi]
           rw [h3] at h2;simp only [putCells, Array.getD_eq_getD_getElem?, Array.getElem?_mapIdx, qw hlt, qbk, Option.getD_some, Nat.sub_zero, size_flatK, qae];rw [if_pos ⟨Nat.zero_le _, hlt2⟩];exact h2
          rw [this];exact ⟨.int _ _, rfl⟩
    ·cases o with
     | succ o => simp at ho
     | zero => cases o' with
       | succ o' => simp at ho'
       | zero => rfl
    ·cases o with
     | succ o => simp at ho
     | zero => exact hh.nI 0 _ rfl ⟨rfl, hcap⟩
    ·cases o with
     | succ o => simp at ho
     | zero => exact hb ▸ hown
    ·unfold sortWorldK putRowK;rw [Sort.frozen?_grow _ _ _ (by simpa [putRow, Sort.mapBlock, Sort.ahead] using ha), Sort.frozen?_putRow]
     rfl
    ·cases o with
     | succ o => simp at ho
     | zero => exact ⟨rfl, _, rfl, rfl⟩
end Go.Eng
namespace Go.Proofs
open Go.Shelf
def Try.sortSpan_ren : Go.Shelf.Ren := ⟨fun | 6 => 49 | 15 => 71 | 14 => 70 | 28 => 91 | 29 => 92 | 20 => 83 | 21 => 84 | 22 => 85 | 23 => 86 | 24 => 87 | 25 => 88 | 26 => 89 | 27 => 90 | 46 => 96 | 47 => 97 | 48 => 98 | 49 => 99 | 50 => 100 | 57 => 103 | n => n, fun | 22 => 65 | 24 => 68 | 25 => 100 | 3 => 3 | 39 => 163 | 0 => 0 | 53 => 181 | 55 => 183 | 4 => 4 | 46 => 175 | 45 => 174 | 50 => 145 | 5 => 5 | 9 => 9 | 66 => 186 | 70 => 190 | 76 => 194 | 77 => 139 | n => n, fun | n => n⟩
theorem Try.sortSpan : Go.Proofs.SlLaysF0.n6 qa Try.sortSpan_ren := {
 mixed := by kernel_rfl
 f6 := ⟨Try.f49.name, by decide, Try.func49.trans (congrArg some (by kernel_rfl))⟩
 f14 := ⟨Try.f70.name, by decide, Try.func70.trans (congrArg some (by kernel_rfl))⟩
 f15 := Try.func71.trans (congrArg some (by kernel_rfl))
 f20 := ⟨Try.f83.name, by decide, Try.func83.trans (congrArg some (by kernel_rfl))⟩
 f21 := ⟨Try.f84.name, by decide, Try.func84.trans (congrArg some (by kernel_rfl))⟩
 f22 := ⟨Try.f85.name, by decide, Try.func85.trans (congrArg some (by kernel_rfl))⟩
 f23 := ⟨Try.f86.name, by decide, Try.func86.trans (congrArg some (by kernel_rfl))⟩
 f24 := ⟨Try.f87.name, by decide, Try.func87.trans (congrArg some (by kernel_rfl))⟩
 f25 := ⟨Try.f88.name, by decide, Try.func88.trans (congrArg some (by kernel_rfl))⟩
 f26 := ⟨Try.f89.name, by decide, Try.func89.trans (congrArg some (by kernel_rfl))⟩
 f27 := ⟨Try.f90.name, by decide, Try.func90.trans (congrArg some (by kernel_rfl))⟩
 f28 := Try.func91.trans (congrArg some (by kernel_rfl))
 f29 := Try.func92.trans (congrArg some (by kernel_rfl))
 f46 := ⟨Try.f96.name, by decide, Try.func96.trans (congrArg some (by kernel_rfl))⟩
 f47 := Try.func97.trans (congrArg some (by kernel_rfl))
 f48 := Try.func98.trans (congrArg some (by kernel_rfl))
 f49 := ⟨Try.f99.name, by decide, Try.func99.trans (congrArg some (by kernel_rfl))⟩
 f50 := ⟨Try.f100.name, by decide, Try.func100.trans (congrArg some (by kernel_rfl))⟩
 f57 := ⟨Try.f103.name, by decide, Try.func103.trans (congrArg some (by kernel_rfl))⟩
 t0 := Try.underlying0
 a0 := Try.isAgg0
 z0 := Try.sizeOf0
 v0 := Try.zeroValue0
 t3 := Try.underlying3
 a3 := Try.isAgg3
 z3 := Try.sizeOf3
 v3 := Try.zeroValue3
 t4 := Try.underlying4
 a4 := Try.isAgg4
 z4 := Try.sizeOf4
 v4 := Try.zeroValue4
 t5 := Try.underlying5
 a5 := Try.isAgg5
 z5 := Try.sizeOf5
 v5 := Try.zeroValue5
 t9 := Try.underlying9
 a9 := Try.isAgg9
 z9 := Try.sizeOf9
 v9 := Try.zeroValue9
 t22 := Try.underlying65
 a22 := Try.isAgg65
 z22 := Try.sizeOf65
 v22 := Try.zeroValue65
 t25 := Try.underlying100
 a25 := Try.isAgg100
 z25 := Try.sizeOf100
 v25 := Try.zeroValue100
 t39 := Try.underlying163
 a39 := Try.isAgg163
 z39 := Try.sizeOf163
 v39 := Try.zeroValue163
 t45 := Try.underlying174
 a45 := Try.isAgg174
 z45 := Try.sizeOf174
 v45 := Try.zeroValue174
 t46 := Try.underlying175
 a46 := Try.isAgg175
 z46 := Try.sizeOf175
 v46 := Try.zeroValue175
 t50 := Try.underlying145
 a50 := Try.isAgg145
 z50 := Try.sizeOf145
 v50 := Try.zeroValue145
 t53 := Try.underlying181
 a53 := Try.isAgg181
 z53 := Try.sizeOf181
 v53 := Try.zeroValue181
 t55 := Try.underlying183
 a55 := Try.isAgg183
 z55 := Try.sizeOf183
 v55 := Try.zeroValue183
 t66 := Try.underlying186
 a66 := Try.isAgg186
 z66 := Try.sizeOf186
 v66 := Try.zeroValue186
 t70 := Try.underlying190
 a70 := Try.isAgg190
 z70 := Try.sizeOf190
 v70 := Try.zeroValue190
 t76 := Try.underlying194
 a76 := Try.isAgg194
 z76 := Try.sizeOf194
 v76 := Try.zeroValue194
 t77 := Try.underlying139
 a77 := Try.isAgg139
 z77 := Try.sizeOf139
 v77 := Try.zeroValue139 }
end Go.Proofs
namespace Go.Eng
open Go Go.Proofs Go.Eng.Rows
def c7 (s : Sp) : List PV := [.int .i64 s.fr, .int .i64 s.to, .int .i64 s.a, .int .i64 s.b]
def xZ (x : Row) : List PV := [.int .i64 x.kind, .int .i64 x.fr, .int .i64 x.to, .int .i64 x.a, .int .i64 x.b]
def aJ (l : List Sp) : List (List PV) := l.map c7
def cZ (l : List Row) : List (List PV) := l.map xZ
theorem g8 (x : Sp) : (c7 x).length = 4 := rfl
theorem zfh (x : Row) : (xZ x).length = 5 := rfl
theorem p96 (x : Int) : PCall qa 69 [.int .i64 x] fun v => v = .bool false := by
 refine zm6 x ?_; unfold zet; simp
def cmpS (x y : Int) : Int := if x < y then -1 else if x > y then 1 else 0
theorem p61 (x y : Int) : PCall qa 47 [.int .i64 x, .int .i64 y] fun v => v = .int .i64 (cmpS x y) := by
 refine zm7 x y ?_; unfold zeu;refine (p96 x).mono ?_; rintro _ rfl;refine ⟨_, rfl, ?_⟩;refine (p96 y).mono ?_; rintro _ rfl;refine ⟨_, rfl, ?_⟩;simp only [qaj, if_false, cmpS, aB];by_cases h : x < y
 ·rw [if_pos h, if_pos h]
 ·rw [if_neg h, if_neg h];by_cases h : x > y
  ·rw [if_pos h, if_pos h]
  ·rw [if_neg h, if_neg h]
theorem tD (x y : Int) : cmpS x y < 0 ↔ x < y := by
 unfold cmpS;by_cases h : x < y
 ·simp [h]
 ·rw [if_neg h]; split <;> omega
theorem p60 (x y : Sp) : PCall qa 46 [.agg (c7 x), .agg (c7 y)] fun v => v = .int .i64 (cmpS x.fr y.fr) := by
 refine zm8 _ _ _ _ _ _ _ _ ?_; unfold zev;refine (p61 x.fr y.fr).mono ?_; rintro _ rfl;exact ⟨_, rfl, rfl⟩
theorem p62 (s : Sp) (n : Bool) (l : List Sp) (hl : Rows.Good l) (h0 : 0 <= s.fr) (h1 : s.to <= 1114111) : ACall qa 48 [.pv (.agg (c7 s)), .own 0] [.sl (68, 4) false n (aJ l)] fun r h' => ∃ m, r = .own 1 /\ h' = [.sl (68, 4) false n (aJ l), .sl (68, 4) true m (aJ (bT l s))] := by
 refine zm4 _ _ _ _ _ _ (fun i fr to a b _ acc => 0 <= i /\ i <= l.length /\ a = s.a /\ b = s.b /\ ∃ t, acc = aJ t /\ t ++ bT (l.drop i.toNat) ⟨fr, to, a, b⟩ = bT l s /\ 0 <= fr /\ to <= 1114111) (fun i _ _ _ _ _ _ => l.length - i.toNat) ?_;unfold zer;refine ⟨⟨rfl, qh _, by omega, rfl, rfl, [], rfl, rfl, h0, h1⟩, ?_⟩;rintro i fr to a b m acc ⟨i0, i1, rfl, rfl, t, rfl, ht, b0, b1⟩;have hlen : (aJ l).length = l.length := by simp [aJ]
 have hll := hl.len
 have htl : t.length <= 1114113 := by
  have := ze9 l s;rw [<- ht] at this;simp at this; omega
 have hszt : (aJ t).length = t.length := by simp [aJ]
 split
 next hc =>
  simp only [aB, hlen] at hc;have hi : i.toNat < l.length := by omega
  have hx := hl.2 l[i.toNat] (qu hi);have hw : i64.wrap (i + 1) = i + 1 := aD (by omega) (by omega);have hn : (i + 1).toNat = i.toNat + 1 := by omega
  have hg : (aJ l).getD i.toNat [] = c7 l[i.toNat] := cC hi;rw [drop_cons hi] at ht;refine ⟨cD g8 i0 hc, l[i.toNat].fr, by rw [hg]; rfl, l[i.toNat].to, by rw [hg]; rfl, l[i.toNat].a, by rw [hg]; rfl, l[i.toNat].b, by rw [hg]; rfl, ?_⟩;simp only [bT] at ht;rw [hw];split
  next c1 =>
   simp only [aB, gt_iff_lt] at c1;rw [if_pos c1] at ht;exact ⟨rfl, ⟨by omega, by omega, rfl, rfl, t, rfl, by rw [hn]; exact ht, b0, b1⟩, by dsimp only; omega⟩
  next c1 =>
   simp only [aB, gt_iff_lt] at c1;rw [if_neg c1] at ht;split
   next c2 =>
    simp only [aB, gt_iff_lt] at c2;rw [if_pos c2] at ht;exact ⟨rfl, ⟨by omega, by omega, rfl, rfl, t, rfl, by rw [hn]; exact ht, b0, b1⟩, by dsimp only; omega⟩
   next c2 =>
    simp only [aB, gt_iff_lt] at c2;rw [if_neg c2] at ht;have hw2 : i64.wrap (l[i.toNat].to + 1) = l[i.toNat].to + 1 := aD (by omega) (by omega);have hw3 : i64.wrap (l[i.toNat].fr - 1) = l[i.toNat].fr - 1 := aD (by omega) (by omega);rw [hw2, hw3];split
    next c3 =>
     simp only [aB, gt_iff_lt] at c3;rw [if_pos c3] at ht;refine ⟨⟨fun e he => by simp at he; subst he; rfl, by rw [hszt]; omega⟩, rfl, ⟨by omega, by omega, rfl, rfl, t ++ [⟨fr, l[i.toNat].fr - 1, s.a, s.b⟩], by simp [aJ, c7], by rw [hn, qbd]; exact ht, by omega, b1⟩, by dsimp only; omega⟩
    next c3 =>
     simp only [aB, gt_iff_lt] at c3;rw [if_neg c3] at ht;exact ⟨rfl, ⟨by omega, by omega, rfl, rfl, t, rfl, by rw [hn]; exact ht, by omega, b1⟩, by dsimp only; omega⟩
 next hc =>
  simp only [aB, hlen] at hc;have hi : l.length <= i.toNat := by omega
  rw [List.drop_eq_nil_of_le hi] at ht;simp only [bT] at ht;split
  next c =>
   simp only [aB, gt_iff_lt] at c;rw [if_pos c] at ht;refine ⟨⟨fun e he => by simp at he; subst he; rfl, by rw [hszt]; omega⟩, m && false, rfl, ?_⟩;rw [<- ht]; simp [aJ, c7]
  next c =>
   simp only [aB, gt_iff_lt] at c;rw [if_neg c] at ht;refine ⟨m, rfl, ?_⟩;rw [<- ht]; simp [aJ]
theorem p63 (n : Bool) (l : List Sp) (hn : n = true -> l = []) (hl : l.length < 4611686018427387904) : ACall qa 49 [.own 0, .pv (.fn 46 [])] [.sl (68, 4) false n (aJ l)] fun r h' => ∃ t : List Sp, r = .tup [] /\ h' = [.sl (68, 4) false n (aJ t)] /\ t.Perm l /\ t.Pairwise (fun x y => ¬ y.fr < x.fr) := by
 have := zn1 Try.sortSpan ⟨_, Try.func49, by kernel_rfl, by kernel_rfl⟩ 4 (by decide) (fun w => Try.isAgg68 w) (fun w => Try.sizeOf68 w) (fun s : Sp => [s.fr, s.to, s.a, s.b]) (fun _ => rfl) (fun x y => cmpS x.fr y.fr) ⟨fun x => ?_, fun x y z h1 h2 => ?_, fun x y z h1 h2 => ?_⟩ 46 (fun x y => p60 x y) (68, 4) rfl n l hn hl
 ·refine this.mono ?_;rintro r h' ⟨t, h1, h2, h3, h4⟩;refine ⟨t, h1, h2, h3, h4.imp fun {a b} h => ?_⟩;exact fun hlt => h ((tD _ _).2 hlt)
 ·simp [ltOf, tD]
 ·simp only [ltOf, tD, aB] at *; omega
 ·simp only [ltOf, tD, dA] at *; omega
theorem zn2 (l : List Sp) : ∀ acc, (l.foldl dO acc).length <= acc.length + l.length := by
 induction l with
 | nil => intro acc; simp
 | cons x xs ih => intro acc; have := ih (dO acc x); have := znp acc x; simp only [qar, qn]; omega
theorem zn3 {l : List Sp} (h : Rows.Good l) (i : Nat) : Rows.Good (l.take i) := ⟨h.1.sublist (List.take_sublist i l), fun x hx => h.2 x (List.mem_of_mem_take hx)⟩
theorem dH {α : Type} {l : List α} {i : Nat} (h : i < l.length) : l.take (i + 1) = l.take i ++ [l[i]] := by
 rw [qbe, qm h]; rfl
theorem eH (l : List Sp) : (aJ l).length = l.length := by simp [aJ]
theorem lB (l : List Row) : (cZ l).length = l.length := by simp [cZ]
theorem p64 (n f : Bool) (l : List Sp) (hl : Rows.Good l) : PCall qa 50 [.sl n f (aJ l)] fun v => ∃ n f, v = .sl n f (aJ (fS l)) := by
 refine zm5 _ _ _ (fun i _ acc => 0 <= i /\ i <= l.length /\ acc = aJ (fS (l.take i.toNat))) (fun i _ _ => l.length - i.toNat) ?_;unfold zes;refine ⟨⟨rfl, qh _, by omega, by simp [fS, aJ]⟩, ?_⟩;rintro i m acc ⟨i0, i1, rfl⟩;have hlen : (aJ l).length = l.length := by simp [aJ]
 have hll := hl.len;split
 next hc =>
  simp only [aB, hlen] at hc;have hi : i.toNat < l.length := by omega
  have hx := hl.2 l[i.toNat] (qu hi);have hw : i64.wrap (i + 1) = i + 1 := aD (by omega) (by omega);have hn : (i + 1).toNat = i.toNat + 1 := by omega
  have hg : (aJ l).getD i.toNat [] = c7 l[i.toNat] := cC hi;have hst : fS (l.take (i + 1).toNat) = dO (fS (l.take i.toNat)) l[i.toNat] := by rw [hn, dH hi]; simp only [fS, List.foldl_append, qar, List.foldl_nil]
  have hga := (xY (zn3 hl i.toNat)).1;have hgl := zn2 (l.take i.toNat) [];rw [<- fS] at hgl;simp only [qv, qbi] at hgl;have hmu : l.length - (i + 1).toNat < l.length - i.toNat := by omega
  refine ⟨cD g8 i0 hc, l[i.toNat].fr, by rw [hg]; rfl, l[i.toNat].to, by rw [hg]; rfl, l[i.toNat].a, by rw [hg]; rfl, l[i.toNat].b, by rw [hg]; rfl, ?_⟩;rw [hw];simp only [hst];generalize fS (l.take i.toNat) = acc at *;generalize l[i.toNat] = x at *;have hal : (aJ acc).length = acc.length := by simp [aJ]
  have hw2 : i64.wrap (((aJ acc).length : Int) - 1) = (acc.length : Int) - 1 := by rw [hal]; exact aD (by omega) (by omega)
  have hsz : aS [[.int .i64 x.fr, .int .i64 x.to, .int .i64 x.a, .int .i64 x.b]] 4 /\ ((aJ acc).length + 1) * 32 <= 2^47 := ⟨fun e he => by simp at he; subst he; rfl, by rw [hal]; omega⟩;have hno : acc ++ [x] = dO acc x -> aJ acc ++ [[.int .i64 x.fr, .int .i64 x.to, .int .i64 x.a, .int .i64 x.b]] = aJ (dO acc x) := fun h => by rw [<- h]; simp [aJ, c7]
  rw [hw2];rcases List.eq_nil_or_concat acc with rfl | ⟨k, y, rfl⟩
  ·rw [if_neg (by simp)];exact ⟨hsz, rfl, ⟨by omega, by omega, hno rfl⟩, hmu⟩
  ·simp only [List.concat_eq_append] at *;have hy := hga.2 y (by simp);have hkl : ((k ++ [y]).length : Int) - 1 = k.length := by simp
   rw [hkl]
   have hgk : (aJ (k ++ [y])).getD ((k.length : Int)).toNat [] = c7 y := by
    have : k.length < (k ++ [y]).length := by simp
    rw [show ((k.length : Int)).toNat = k.length by omega, aJ, cC this]; simp
   have hix : aR (aJ (k ++ [y])) (k.length : Int) 4 := cD g8 (by omega) (by simp; omega)
   have hJ : dO (k ++ [y]) x = if y.to + 1 = x.fr /\ y.a = x.a /\ y.b = x.b then k ++ [{ y with to := x.to }] else k ++ [y] ++ [x] := by
    unfold dO; rw [List.getLast?_concat]; simp only [qau]
   have hw3 : i64.wrap (y.to + 1) = y.to + 1 := aD (by omega) (by omega);have hfin : ¬ (y.to + 1 = x.fr /\ y.a = x.a /\ y.b = x.b) -> aJ (k ++ [y]) ++ [[.int .i64 x.fr, .int .i64 x.to, .int .i64 x.a, .int .i64 x.b]] = aJ (dO (k ++ [y]) x) := fun h => hno (by rw [hJ, if_neg h]);rw [if_pos (by simp)];refine ⟨hix, y.to, by rw [hgk]; rfl, ?_⟩;rw [hw3];by_cases c1 : y.to + 1 = x.fr
   ·rw [if_pos (by simpa using c1)]
    refine ⟨hix, y.a, by rw [hgk]; rfl, ?_⟩;by_cases c2 : y.a = x.a
    ·rw [if_pos (by simpa using c2)]
     refine ⟨hix, y.b, by rw [hgk]; rfl, ?_⟩;by_cases c3 : y.b = x.b
     ·rw [if_pos (by simpa using c3), hgk]
      refine ⟨hix, ⟨trivial, by show 2 <= 4; omega⟩, rfl, ⟨by omega, by omega, ?_⟩, hmu⟩;rw [hJ, if_pos ⟨c1, c2, c3⟩, show ((k.length : Int)).toNat = k.length by omega];simp [aJ, c7, aO]
     ·rw [if_neg (by simpa using c3)]
      exact ⟨hsz, rfl, ⟨by omega, by omega, hfin fun h => c3 h.2.2⟩, hmu⟩
    ·rw [if_neg (by simpa using c2)]
     exact ⟨hsz, rfl, ⟨by omega, by omega, hfin fun h => c2 h.2.1⟩, hmu⟩
   ·rw [if_neg (by simpa using c1)]
    exact ⟨hsz, rfl, ⟨by omega, by omega, hfin fun h => c1 h.1⟩, hmu⟩
 next hc =>
  simp only [aB, hlen] at hc;rw [qp (by omega)];exact ⟨_, _, rfl⟩
theorem p29 (n f : Bool) (rows : List Row) (k : Int) (hlr : rows.length < 4611686018427387904) : PCall qa 23 [.sl n f (cZ rows), .int .i64 k] fun v => ∃ n f, v = .sl n f (aJ (aH k rows)) := by
 refine zm9 _ _ _ _ (fun i n acc => 0 <= i /\ i <= rows.length /\ acc = aJ (eU k (rows.take i.toNat)) /\ (n = true -> acc = [])) (fun i _ _ => rows.length - i.toNat) ?_;unfold zew;refine ⟨⟨rfl, qh _, by omega, by simp [eU, aJ], fun _ => rfl⟩, ?_⟩;rintro i m acc ⟨i0, i1, rfl, hnil⟩;have hlen : (cZ rows).length = rows.length := by simp [cZ]
 have hga := tC k (rows.take i.toNat);have hll := hga.len;split
 next hc =>
  simp only [aB, hlen] at hc;have hi : i.toNat < rows.length := by omega
  have hw : i64.wrap (i + 1) = i + 1 := aD (by omega) (by omega);have hn : (i + 1).toNat = i.toNat + 1 := by omega
  have hg : (cZ rows).getD i.toNat [] = xZ rows[i.toNat] := cC hi;have hst : eU k (rows.take (i + 1).toNat) = jG k (eU k (rows.take i.toNat)) rows[i.toNat] := by rw [hn, dH hi, zfe]
  have hmu : rows.length - (i + 1).toNat < rows.length - i.toNat := by omega
  refine ⟨cD zfh i0 hc, rows[i.toNat].kind, by rw [hg]; rfl, rows[i.toNat].fr, by rw [hg]; rfl, rows[i.toNat].to, by rw [hg]; rfl, rows[i.toNat].a, by rw [hg]; rfl, rows[i.toNat].b, by rw [hg]; rfl, ?_⟩;rw [hw];simp only [hst];generalize eU k (rows.take i.toNat) = acc at *;generalize rows[i.toNat] = x at *;have hal : (aJ acc).length = acc.length := by simp [aJ]
  by_cases hk : x.kind = k
  ·rw [if_neg (by simpa using hk)]
   have h62 := p62 x.sp m acc hga x.sp_lo x.sp_hi;simp only [c7, Row.sp] at h62;refine h62.mono ?_;rintro _ _ ⟨m1, rfl, rfl⟩;have hrl := ze9 acc x.sp;refine ⟨(m1, aJ (bT acc x.sp)), ⟨rfl, rfl⟩, ⟨by simp, trivial⟩, ⟨pY g8 _, by simp only [aJ, qad]; omega⟩, ?_⟩;have happ : aJ acc ++ aJ (bT acc x.sp) = aJ (acc ++ bT acc x.sp) := by simp [aJ]
   simp only [happ];refine (p63 _ (acc ++ bT acc x.sp) (fun h => ?_) (by simp only [qak]; omega)).mono ?_
   ·simp only [qk, qbj] at h;have h1 := hnil h.1;have h2 := h.2;simp only [aJ, qaw] at h1 h2;simp [h1, h2];simpa [h1] using h2
   ·rintro _ _ ⟨t, rfl, rfl, hp, hs⟩;have ht := znu hga hk hp hs;refine ⟨aJ t, ⟨rfl, rfl⟩, ⟨⟨trivial, trivial, by simp only [aJ, qad]; exact hp.length_eq.symm⟩, trivial⟩, rfl, ⟨by omega, by omega, by rw [ht], fun h => ?_⟩, hmu⟩;simp only [qk, qbj] at h;have h1 := hnil h.1;have h2 := h.2;simp only [aJ, qaw] at h1 h2 ⊢;rw [h2, h1] at hp;simpa using hp
  ·rw [if_pos (by simpa using hk)]
   refine ⟨rfl, ⟨by omega, by omega, by rw [jG, if_neg hk], hnil⟩, hmu⟩
 next hc =>
  simp only [aB, hlen] at hc;rw [qp (by omega)] at hga ⊢;refine (p64 _ _ _ hga).mono ?_;rintro _ ⟨n, f, rfl⟩;exact ⟨_, _, _, rfl, _, _, rfl⟩
end Go.Eng
namespace Go.Eng.Rows
def lC (l : List Int) : Prop := l.Pairwise (· < ·)
structure EdgeOK (k : Int) (rows : List Row) (e : List Int) : Prop where
 asc : lC e
 lo : 0 ∈ e
 hi : 1114112 ∈ e
 rng : ∀ x ∈ e, 0 <= x /\ x <= 1114112
 fr : ∀ x ∈ rows, x.kind = k -> 0 <= x.fr -> x.fr <= 1114111 -> x.fr ∈ e
 to : ∀ x ∈ rows, x.kind = k -> -1 <= x.to -> x.to < 1114111 -> x.to + 1 ∈ e
structure AddOK (l : List Int) (n : Int) (i : Nat) (done : Bool) (out : List Int) : Prop where
 asc : lC out
 mem : ∀ x, x ∈ out ↔ x ∈ l.take i ∨ (done = true /\ x = n)
 len : out.length <= i + 1
 fresh : done = false -> ∀ x ∈ l.take i, x < n
 past : done = true -> ∀ x ∈ l.drop i, n < x
theorem zn4 {l : List Int} {x : Int} (h : lC l) (hx : ∀ y ∈ l, y < x) : lC (l ++ [x]) :=
 List.pairwise_append.2 ⟨h, by simp, fun y hy z hz => by simp at hz; subst hz; exact hx y hy⟩
theorem zfi {α : Type} {l : List α} {i : Nat} (h : i < l.length) : l.take (i + 1) = l.take i ++ [l[i]] := by
 rw [qbe, qm h]; rfl
theorem zn5 {l : List Int} (h : lC l) {i : Nat} (hi : i < l.length) : (∀ y ∈ l.take i, y < l[i]) /\ ∀ y ∈ l.drop (i + 1), l[i] < y := by
 have e : l = l.take i ++ l[i] :: l.drop (i + 1) := by rw [List.getElem_cons_drop]; simp
 have h' : lC (l.take i ++ l[i] :: l.drop (i + 1)) := e ▸ h;have := List.pairwise_append.1 h';exact ⟨fun y hy => this.2.2 y hy _ qd, fun y hy => qi this.2.1 hy⟩
theorem AddOK.one {l : List Int} {n : Int} {i : Nat} {done : Bool} {out : List Int} (hl : lC l) (hi : i < l.length) (h : AddOK l n i done out) (hn : done = false -> l[i] < n) : AddOK l n (i + 1) done (out ++ [l[i]]) := by
 obtain ⟨s1, s2⟩ := zn5 hl hi;refine ⟨zn4 h.asc fun y hy => ?_, fun x => ?_, by have := h.len; simp; omega, fun hd x hx => ?_, fun hd x hx => ?_⟩
 ·rcases (h.mem y).1 hy with hy | ⟨hd, rfl⟩
  ·exact s1 y hy
  ·exact h.past hd _ (by rw [qx hi]; exact qd)
 ·rw [zfi hi];simp only [qac, qg, h.mem];constructor
  ·rintro ((a | a) | a)
   ·exact .inl (.inl a)
   ·exact .inr a
   ·exact .inl (.inr a)
  ·rintro ((a | a) | a)
   ·exact .inl (.inl a)
   ·exact .inr a
   ·exact .inl (.inr a)
 ·rw [zfi hi] at hx;rcases List.mem_append.1 hx with hx | hx
  ·exact h.fresh hd x hx
  ·simp at hx; subst hx; exact hn hd
 ·exact h.past hd x (by rw [qx hi]; exact qf _ hx)
theorem EdgeOK.add {k : Int} {rows : List Row} {e : List Int} (h : EdgeOK k rows e) {n : Int} {e' : List Int} (ha : lC e') (hm : ∀ x, x ∈ e' ↔ x ∈ e ∨ (x = n /\ 0 <= n /\ n <= 1114111)) : EdgeOK k rows e' :=
 ⟨ha, (hm 0).2 (.inl h.lo), (hm _).2 (.inl h.hi), fun x hx => by
  rcases (hm x).1 hx with h1 | h1
  ·exact h.rng x h1
  ·omega, fun x hx a b c => (hm _).2 (.inl (h.fr x hx a b c)), fun x hx a b c => (hm _).2 (.inl (h.to x hx a b c))⟩
end Go.Eng.Rows
namespace Go.Eng
open Go Go.Proofs Go.Eng.Rows
def lE (x : Sp) (t : Int) : Int := if x.to < t then -1 else if t < x.fr then 1 else 0
theorem p67 (x : Sp) (t : Int) : PCall qa 65 [.agg (c7 x), .int .i64 t] fun v => v = .int .i64 (lE x t) := by
 refine zna _ _ _ _ _ ?_; unfold zex;refine aG (fun h => ?_) (fun h => aG (fun h' => ?_) (fun h' => ?_)) <;> simp only [aB, gt_iff_lt] at *
 ·simp [lE, h]
 ·simp [lE, h, h']
 ·simp [lE, h, h']
theorem zfj {i j : Int} (h0 : 0 <= i) (h1 : i <= j) (h2 : j <= 4611686018427387904 - 1) : i64.wrap ((IntKind.u64.wrap (i64.wrap (i + j))).fdiv (2 ^ 1)) = (i + j) / 2 := by
 have e1 : i64.wrap (i + j) = i + j := aD (by omega) (by omega)
 have e2 : IntKind.u64.wrap (i + j) = i + j := by
  unfold IntKind.wrap;simp only [IntKind.bits, IntKind.signed, Bool.false_and, qaj, if_false];exact Int.emod_eq_of_lt (by omega) (by omega)
 rw [e1, e2, Int.fdiv_eq_ediv_of_nonneg _ (by decide)];exact aD (by omega) (by omega)
theorem p66 (n f : Bool) (l : List Sp) (t : Int) (hl : Rows.Good l) : PCall qa 64 [.sl n f (aJ l), .int .i64 t, .fn 65 []] fun v => ∃ m q, v = .tup [.int .i64 m, .bool q] /\ (q = true -> 0 <= m /\ ∃ h : m.toNat < l.length, l[m.toNat].has t) /\ (q = false -> ∀ x ∈ l, ¬ x.has t) := by
 refine znb _ _ _ _ (fun i j => 0 <= i /\ i <= j /\ j <= l.length /\ (∀ k (h : k < l.length), (k : Int) < i -> l[k].to < t) /\ (∀ k (h : k < l.length), j <= (k : Int) -> ¬ l[k].to < t)) (fun i j => (j - i).toNat) ?_;unfold zey;have hll := hl.len
 have hmono : ∀ a b (ha : a < l.length) (hb : b < l.length), a <= b -> l[a].to <= l[b].to := fun a b ha hb h => by
  by_cases e : a = b
  ·subst e; exact qh _
  ·have := (List.pairwise_iff_getElem.1 hl.1) a b ha hb (by omega);have := hl.2 l[b] (qu hb);omega
 refine ⟨⟨by simp only [eH]; rfl, qh _, by simp only [eH]; omega, by simp only [eH]; omega, fun k h hk => by omega, fun k h hk => by simp only [eH] at hk; omega⟩, ?_⟩;rintro i j ⟨i0, ij, jn, hlo, hhi⟩;refine aG (fun hc => ?_) (fun hc => ?_)
 ·simp only [aB] at hc;have hm := zfj i0 ij (by omega);simp only [hm];have hmi : ((i + j) / 2).toNat < l.length := by omega
  have hg : (aJ l).getD ((i + j) / 2).toNat [] = c7 l[((i + j) / 2).toNat] := cC hmi;have hw : i64.wrap ((i + j) / 2 + 1) = (i + j) / 2 + 1 := aD (by omega) (by omega);refine ⟨cD g8 (by omega) (by omega), l[((i + j) / 2).toNat].fr, by rw [hg]; rfl, l[((i + j) / 2).toNat].to, by rw [hg]; rfl, l[((i + j) / 2).toNat].a, by rw [hg]; rfl, l[((i + j) / 2).toNat].b, by rw [hg]; rfl, ?_⟩;refine (p67 l[((i + j) / 2).toNat] t).mono ?_;rintro _ rfl;refine ⟨_, rfl, ?_⟩;simp only [hw];refine aG (fun hq => ?_) (fun hq => ?_)
  ·simp only [aB] at hq
   have hlt : l[((i + j) / 2).toNat].to < t := by
    unfold lE at hq;split at hq
    ·assumption
    ·split at hq <;> omega
   refine ⟨rfl, ⟨by omega, by omega, jn, fun k h hk => ?_, hhi⟩, by omega⟩;have := hmono k ((i + j) / 2).toNat h hmi (by omega);omega
  ·simp only [aB] at hq
   have hlt : ¬ l[((i + j) / 2).toNat].to < t := by
    intro h;unfold lE at hq;rw [if_pos h] at hq;omega
   refine ⟨rfl, ⟨i0, by omega, by omega, hlo, fun k h hk => ?_⟩, by omega⟩;have := hmono ((i + j) / 2).toNat k hmi h (by omega);omega
 ·simp only [aB] at hc;have e : i = j := by omega
  subst e
  have hno : (∀ h : i.toNat < l.length, ¬ l[i.toNat].has t) -> ∀ x ∈ l, ¬ x.has t := fun hn x hx => by
   obtain ⟨k, hk, rfl⟩ := qah hx;by_cases c : (k : Int) < i
   ·have := hlo k hk c;intro hh; have := hh.2; omega
   ·by_cases c' : (k : Int) = i
    ·have e : k = i.toNat := by omega
     subst e; exact hn hk
    ·have h1 := hhi i.toNat (by omega) (by omega);have h2 := (List.pairwise_iff_getElem.1 hl.1) i.toNat k (by omega) hk (by omega);intro hh; have := hh.1; omega
  refine aG (fun hq => ?_) (fun hq => ?_)
  ·simp only [aB, eH] at hq;have hi : i.toNat < l.length := by omega
   have hg : (aJ l).getD i.toNat [] = c7 l[i.toNat] := cC hi;have h1 := hhi i.toNat hi (by omega);refine ⟨cD g8 i0 hq, l[i.toNat].fr, by rw [hg]; rfl, l[i.toNat].to, by rw [hg]; rfl, l[i.toNat].a, by rw [hg]; rfl, l[i.toNat].b, by rw [hg]; rfl, ?_⟩;refine (p67 l[i.toNat] t).mono ?_;rintro _ rfl;refine ⟨_, rfl, _, _, rfl, fun hq => ?_, fun hq => hno fun hi' => ?_⟩
   ·simp only [lE, if_neg h1, beq_iff_eq] at hq;refine ⟨i0, hi, ?_, by omega⟩;by_cases c : t < l[i.toNat].fr
    ·rw [if_pos c] at hq; cases hq
    ·omega
   ·intro hh;have h2 := hh.1;simp only [lE, if_neg h1, if_neg (show ¬ t < l[i.toNat].fr by omega)] at hq;simp at hq
  ·simp only [aB, eH] at hq;exact ⟨_, _, rfl, fun h => (by cases h), fun _ => hno fun hi => absurd hi (by omega)⟩
theorem p34 (n f : Bool) (l : List Sp) (r : Int) (hl : Rows.Good l) (hr : -2147483648 <= r /\ r <= 2147483647) : PCall qa 43 [.sl n f (aJ l), .int .i32 r] fun v => ∃ x q, v = .tup [.agg (c7 x), .bool q] /\ (q = true -> x ∈ l /\ x.has r) /\ (q = false -> x = ⟨0, 0, 0, 0⟩ /\ ∀ x ∈ l, ¬ x.has r) := by
 refine znc _ _ _ _ ?_; unfold zez;have hw : i64.wrap r = r := aD (by omega) (by omega);rw [hw];refine (p66 n f l r hl).mono ?_;rintro _ ⟨m, q, rfl, h1, h2⟩;refine ⟨_, rfl, rfl, _, rfl, _, rfl, _, rfl, _, rfl, ?_⟩;cases q with
 | false => exact ⟨⟨0, 0, 0, 0⟩, false, rfl, fun h => (by cases h), fun _ => ⟨rfl, h2 rfl⟩⟩
 | true =>
   obtain ⟨m0, hm, hh⟩ := h1 rfl;have hg : (aJ l).getD m.toNat [] = c7 l[m.toNat] := cC hm;exact ⟨cD g8 m0 (by omega), l[m.toNat].fr, by rw [hg]; rfl, l[m.toNat].to, by rw [hg]; rfl, l[m.toNat].a, by rw [hg]; rfl, l[m.toNat].b, by rw [hg]; rfl, l[m.toNat], true, rfl, fun _ => ⟨qu _, hh⟩, fun h => (by cases h)⟩
def yA : List Row := [⟨1, 768, 788, 230, 0⟩, ⟨1, 789, 789, 232, 0⟩, ⟨1, 790, 793, 220, 0⟩, ⟨1, 794, 794, 232, 0⟩, ⟨1, 795, 795, 216, 0⟩, ⟨1, 796, 800, 220, 0⟩, ⟨1, 801, 802, 202, 0⟩, ⟨1, 803, 806, 220, 0⟩, ⟨1, 807, 808, 202, 0⟩, ⟨1, 809, 819, 220, 0⟩, ⟨1, 820, 824, 1, 0⟩, ⟨1, 825, 828, 220, 0⟩, ⟨1, 829, 836, 230, 0⟩, ⟨1, 837, 837, 240, 0⟩, ⟨1, 838, 838, 230, 0⟩, ⟨1, 839, 841, 220, 0⟩, ⟨1, 842, 844, 230, 0⟩, ⟨1, 845, 846, 220, 0⟩, ⟨1, 848, 850, 230, 0⟩, ⟨1, 851, 854, 220, 0⟩, ⟨1, 855, 855, 230, 0⟩, ⟨1, 856, 856, 232, 0⟩, ⟨1, 857, 858, 220, 0⟩, ⟨1, 859, 859, 230, 0⟩, ⟨1, 860, 860, 233, 0⟩, ⟨1, 861, 862, 234, 0⟩, ⟨1, 863, 863, 233, 0⟩, ⟨1, 864, 865, 234, 0⟩, ⟨1, 866, 866, 233, 0⟩, ⟨1, 867, 879, 230, 0⟩, ⟨1, 1155, 1159, 230, 0⟩, ⟨1, 1456, 1456, 10, 0⟩, ⟨1, 1457, 1457, 11, 0⟩, ⟨1, 1458, 1458, 12, 0⟩, ⟨1, 1459, 1459, 13, 0⟩, ⟨1, 1460, 1460, 14, 0⟩, ⟨1, 1461, 1461, 15, 0⟩, ⟨1, 1462, 1462, 16, 0⟩, ⟨1, 1463, 1463, 17, 0⟩, ⟨1, 1464, 1464, 18, 0⟩, ⟨1, 1465, 1466, 19, 0⟩, ⟨1, 1467, 1467, 20, 0⟩, ⟨1, 1468, 1468, 21, 0⟩, ⟨1, 1469, 1469, 22, 0⟩, ⟨1, 1471, 1471, 23, 0⟩, ⟨1, 1473, 1473, 24, 0⟩, ⟨1, 1474, 1474, 25, 0⟩, ⟨1, 1479, 1479, 18, 0⟩, ⟨1, 1611, 1611, 27, 0⟩, ⟨1, 1612, 1612, 28, 0⟩, ⟨1, 1613, 1613, 29, 0⟩, ⟨1, 1614, 1614, 30, 0⟩, ⟨1, 1615, 1615, 31, 0⟩, ⟨1, 1616, 1616, 32, 0⟩, ⟨1, 1617, 1617, 33, 0⟩, ⟨1, 1618, 1618, 34, 0⟩, ⟨1, 1619, 1620, 230, 0⟩, ⟨1, 1621, 1622, 220, 0⟩, ⟨1, 1648, 1648, 35, 0⟩, ⟨1, 2364, 2364, 7, 0⟩, ⟨1, 2381, 2381, 9, 0⟩, ⟨1, 2385, 2385, 230, 0⟩, ⟨1, 2386, 2386, 220, 0⟩, ⟨1, 2387, 2388, 230, 0⟩, ⟨1, 2492, 2492, 7, 0⟩, ⟨1, 2509, 2509, 9, 0⟩, ⟨1, 3021, 3021, 9, 0⟩, ⟨1, 3640, 3641, 103, 0⟩, ⟨1, 3642, 3642, 9, 0⟩, ⟨1, 3656, 3659, 107, 0⟩, ⟨1, 3953, 3953, 129, 0⟩, ⟨1, 3954, 3954, 130, 0⟩, ⟨1, 3956, 3956, 132, 0⟩, ⟨1, 8400, 8401, 230, 0⟩, ⟨1, 8402, 8403, 1, 0⟩, ⟨1, 8404, 8407, 230, 0⟩, ⟨1, 8411, 8412, 230, 0⟩, ⟨1, 8417, 8417, 230, 0⟩, ⟨1, 8424, 8424, 220, 0⟩, ⟨1, 12441, 12442, 8, 0⟩, ⟨1, 65056, 65062, 230, 0⟩, ⟨1, 119141, 119141, 216, 0⟩]
theorem p72 : PCall qa 27 [] fun v => v = .sl false true (cZ yA) := by
 refine znd ?_; unfold ze0; rfl
def tab73 : List Row := [⟨2, 192, 192, 65, 768⟩, ⟨2, 193, 193, 65, 769⟩, ⟨2, 194, 194, 65, 770⟩, ⟨2, 195, 195, 65, 771⟩, ⟨2, 196, 196, 65, 776⟩, ⟨2, 197, 197, 65, 778⟩, ⟨2, 199, 199, 67, 807⟩, ⟨2, 200, 200, 69, 768⟩, ⟨2, 201, 201, 69, 769⟩, ⟨2, 202, 202, 69, 770⟩, ⟨2, 203, 203, 69, 776⟩, ⟨2, 204, 204, 73, 768⟩, ⟨2, 205, 205, 73, 769⟩, ⟨2, 206, 206, 73, 770⟩, ⟨2, 207, 207, 73, 776⟩, ⟨2, 209, 209, 78, 771⟩, ⟨2, 210, 210, 79, 768⟩, ⟨2, 211, 211, 79, 769⟩, ⟨2, 212, 212, 79, 770⟩, ⟨2, 213, 213, 79, 771⟩, ⟨2, 214, 214, 79, 776⟩, ⟨2, 217, 217, 85, 768⟩, ⟨2, 218, 218, 85, 769⟩, ⟨2, 219, 219, 85, 770⟩, ⟨2, 220, 220, 85, 776⟩, ⟨2, 221, 221, 89, 769⟩, ⟨2, 224, 224, 97, 768⟩, ⟨2, 225, 225, 97, 769⟩, ⟨2, 226, 226, 97, 770⟩, ⟨2, 227, 227, 97, 771⟩, ⟨2, 228, 228, 97, 776⟩, ⟨2, 229, 229, 97, 778⟩, ⟨2, 231, 231, 99, 807⟩, ⟨2, 232, 232, 101, 768⟩, ⟨2, 233, 233, 101, 769⟩, ⟨2, 234, 234, 101, 770⟩, ⟨2, 235, 235, 101, 776⟩, ⟨2, 236, 236, 105, 768⟩, ⟨2, 237, 237, 105, 769⟩, ⟨2, 238, 238, 105, 770⟩, ⟨2, 239, 239, 105, 776⟩, ⟨2, 241, 241, 110, 771⟩, ⟨2, 242, 242, 111, 768⟩, ⟨2, 243, 243, 111, 769⟩, ⟨2, 244, 244, 111, 770⟩, ⟨2, 245, 245, 111, 771⟩, ⟨2, 246, 246, 111, 776⟩, ⟨2, 249, 249, 117, 768⟩, ⟨2, 250, 250, 117, 769⟩, ⟨2, 251, 251, 117, 770⟩, ⟨2, 252, 252, 117, 776⟩, ⟨2, 253, 253, 121, 769⟩, ⟨2, 255, 255, 121, 776⟩, ⟨2, 256, 256, 65, 772⟩, ⟨2, 257, 257, 97, 772⟩, ⟨2, 258, 258, 65, 774⟩, ⟨2, 259, 259, 97, 774⟩, ⟨2, 260, 260, 65, 808⟩, ⟨2, 261, 261, 97, 808⟩, ⟨2, 262, 262, 67, 769⟩, ⟨2, 263, 263, 99, 769⟩, ⟨2, 268, 268, 67, 780⟩, ⟨2, 269, 269, 99, 780⟩, ⟨2, 274, 274, 69, 772⟩, ⟨2, 275, 275, 101, 772⟩, ⟨2, 280, 280, 69, 808⟩, ⟨2, 281, 281, 101, 808⟩, ⟨2, 304, 304, 73, 775⟩, ⟨2, 323, 323, 78, 769⟩, ⟨2, 324, 324, 110, 769⟩, ⟨2, 352, 352, 83, 780⟩, ⟨2, 353, 353, 115, 780⟩, ⟨2, 381, 381, 90, 780⟩, ⟨2, 382, 382, 122, 780⟩, ⟨2, 416, 416, 79, 795⟩, ⟨2, 417, 417, 111, 795⟩, ⟨2, 431, 431, 85, 795⟩, ⟨2, 432, 432, 117, 795⟩, ⟨2, 469, 469, 220, 772⟩, ⟨2, 470, 470, 252, 772⟩, ⟨2, 471, 471, 220, 769⟩, ⟨2, 472, 472, 252, 769⟩, ⟨2, 480, 480, 550, 772⟩, ⟨2, 481, 481, 551, 772⟩, ⟨2, 550, 550, 65, 775⟩, ⟨2, 551, 551, 97, 775⟩, ⟨2, 832, 832, 768, 0⟩, ⟨2, 833, 833, 769, 0⟩, ⟨2, 835, 835, 787, 0⟩, ⟨2, 836, 836, 776, 769⟩, ⟨2, 884, 884, 697, 0⟩, ⟨2, 894, 894, 59, 0⟩, ⟨2, 901, 901, 168, 769⟩, ⟨2, 902, 902, 913, 769⟩, ⟨2, 903, 903, 183, 0⟩, ⟨2, 904, 904, 917, 769⟩, ⟨2, 912, 912, 970, 769⟩, ⟨2, 940, 940, 945, 769⟩, ⟨2, 941, 941, 949, 769⟩, ⟨2, 944, 944, 971, 769⟩, ⟨2, 970, 970, 953, 776⟩, ⟨2, 971, 971, 965, 776⟩, ⟨2, 2345, 2345, 2344, 2364⟩, ⟨2, 2353, 2353, 2352, 2364⟩, ⟨2, 2356, 2356, 2355, 2364⟩, ⟨2, 2392, 2392, 2325, 2364⟩, ⟨2, 2393, 2393, 2326, 2364⟩, ⟨2, 2396, 2396, 2337, 2364⟩, ⟨2, 2507, 2507, 2503, 2494⟩, ⟨2, 2508, 2508, 2503, 2519⟩, ⟨2, 3018, 3018, 3014, 3006⟩, ⟨2, 3955, 3955, 3953, 3954⟩, ⟨2, 3957, 3957, 3953, 3956⟩, ⟨2, 7692, 7692, 68, 803⟩, ⟨2, 7693, 7693, 100, 803⟩, ⟨2, 7776, 7776, 83, 775⟩, ⟨2, 7777, 7777, 115, 775⟩, ⟨2, 7778, 7778, 83, 803⟩, ⟨2, 7779, 7779, 115, 803⟩, ⟨2, 7784, 7784, 7778, 775⟩, ⟨2, 7785, 7785, 7779, 775⟩, ⟨2, 7840, 7840, 65, 803⟩, ⟨2, 7841, 7841, 97, 803⟩, ⟨2, 7842, 7842, 65, 777⟩, ⟨2, 7843, 7843, 97, 777⟩, ⟨2, 7844, 7844, 194, 769⟩, ⟨2, 7845, 7845, 226, 769⟩, ⟨2, 7846, 7846, 194, 768⟩, ⟨2, 7847, 7847, 226, 768⟩, ⟨2, 7848, 7848, 194, 777⟩, ⟨2, 7849, 7849, 226, 777⟩, ⟨2, 7850, 7850, 194, 771⟩, ⟨2, 7851, 7851, 226, 771⟩, ⟨2, 7852, 7852, 7840, 770⟩, ⟨2, 7853, 7853, 7841, 770⟩, ⟨2, 7854, 7854, 258, 769⟩, ⟨2, 7855, 7855, 259, 769⟩, ⟨2, 7856, 7856, 258, 768⟩, ⟨2, 7857, 7857, 259, 768⟩, ⟨2, 7858, 7858, 258, 777⟩, ⟨2, 7859, 7859, 259, 777⟩, ⟨2, 7860, 7860, 258, 771⟩, ⟨2, 7861, 7861, 259, 771⟩, ⟨2, 7862, 7862, 7840, 774⟩, ⟨2, 7863, 7863, 7841, 774⟩, ⟨2, 7884, 7884, 79, 803⟩, ⟨2, 7885, 7885, 111, 803⟩, ⟨2, 7896, 7896, 7884, 770⟩, ⟨2, 7897, 7897, 7885, 770⟩, ⟨2, 7936, 7936, 945, 787⟩, ⟨2, 7937, 7937, 945, 788⟩, ⟨2, 7938, 7938, 7936, 768⟩, ⟨2, 7939, 7939, 7937, 768⟩, ⟨2, 8049, 8049, 940, 0⟩, ⟨2, 8064, 8064, 7936, 837⟩, ⟨2, 8115, 8115, 945, 837⟩, ⟨2, 8486, 8486, 937, 0⟩, ⟨2, 8490, 8490, 75, 0⟩, ⟨2, 8491, 8491, 197, 0⟩, ⟨2, 8800, 8800, 61, 824⟩, ⟨2, 8814, 8814, 60, 824⟩, ⟨2, 10972, 10972, 10973, 824⟩, ⟨2, 12364, 12364, 12363, 12441⟩, ⟨2, 12366, 12366, 12365, 12441⟩, ⟨2, 12400, 12400, 12399, 12441⟩, ⟨2, 12401, 12401, 12399, 12442⟩, ⟨2, 12460, 12460, 12459, 12441⟩, ⟨2, 12497, 12497, 12495, 12442⟩, ⟨2, 12532, 12532, 12454, 12441⟩, ⟨2, 63744, 63744, 35912, 0⟩, ⟨2, 63745, 63745, 26356, 0⟩, ⟨2, 64285, 64285, 1497, 1460⟩, ⟨2, 64287, 64287, 1522, 1463⟩, ⟨2, 64298, 64298, 1513, 1473⟩, ⟨2, 64299, 64299, 1513, 1474⟩, ⟨2, 64300, 64300, 64329, 1473⟩, ⟨2, 64329, 64329, 1513, 1468⟩, ⟨2, 119134, 119134, 119127, 119141⟩]
theorem p73 : PCall qa 28 [] fun v => v = .sl false true (cZ tab73) := by
 refine zne ?_; unfold ze1; rfl
def yB : List Row := [⟨3, 2392, 2393, 1, 0⟩, ⟨3, 2396, 2396, 1, 0⟩, ⟨3, 10972, 10972, 1, 0⟩, ⟨3, 64285, 64285, 1, 0⟩, ⟨3, 64287, 64287, 1, 0⟩, ⟨3, 64298, 64300, 1, 0⟩, ⟨3, 64329, 64329, 1, 0⟩, ⟨3, 119134, 119134, 1, 0⟩]
theorem p74 : PCall qa 29 [] fun v => v = .sl false true (cZ yB) := by
 refine znf ?_; unfold ze2; rfl
def yC : List Row := [⟨4, 0, 9, 3, 0⟩, ⟨4, 10, 10, 2, 0⟩, ⟨4, 11, 12, 3, 0⟩, ⟨4, 13, 13, 1, 0⟩, ⟨4, 14, 31, 3, 0⟩, ⟨4, 127, 159, 3, 0⟩, ⟨4, 173, 173, 3, 0⟩, ⟨4, 768, 879, 4, 0⟩, ⟨4, 1155, 1161, 4, 0⟩, ⟨4, 1425, 1469, 4, 0⟩, ⟨4, 1471, 1471, 4, 0⟩, ⟨4, 1473, 1474, 4, 0⟩, ⟨4, 1479, 1479, 4, 0⟩, ⟨4, 1536, 1541, 7, 0⟩, ⟨4, 1611, 1631, 4, 0⟩, ⟨4, 1648, 1648, 4, 0⟩, ⟨4, 1757, 1757, 7, 0⟩, ⟨4, 1807, 1807, 7, 0⟩, ⟨4, 2307, 2307, 8, 0⟩, ⟨4, 2362, 2362, 4, 0⟩, ⟨4, 2363, 2363, 8, 0⟩, ⟨4, 2364, 2364, 4, 0⟩, ⟨4, 2366, 2368, 8, 0⟩, ⟨4, 2369, 2376, 4, 0⟩, ⟨4, 2377, 2380, 8, 0⟩, ⟨4, 2381, 2381, 4, 0⟩, ⟨4, 2385, 2391, 4, 0⟩, ⟨4, 2434, 2435, 8, 0⟩, ⟨4, 2492, 2492, 4, 0⟩, ⟨4, 2494, 2494, 4, 0⟩, ⟨4, 2495, 2496, 8, 0⟩, ⟨4, 2503, 2504, 8, 0⟩, ⟨4, 2507, 2508, 8, 0⟩, ⟨4, 2509, 2509, 4, 0⟩, ⟨4, 2519, 2519, 4, 0⟩, ⟨4, 3006, 3006, 4, 0⟩, ⟨4, 3007, 3007, 8, 0⟩, ⟨4, 3014, 3016, 8, 0⟩, ⟨4, 3018, 3020, 8, 0⟩, ⟨4, 3021, 3021, 4, 0⟩, ⟨4, 3633, 3633, 4, 0⟩, ⟨4, 3635, 3635, 8, 0⟩, ⟨4, 3636, 3642, 4, 0⟩, ⟨4, 3655, 3662, 4, 0⟩, ⟨4, 3953, 3966, 4, 0⟩, ⟨4, 4352, 4447, 9, 0⟩, ⟨4, 4448, 4519, 10, 0⟩, ⟨4, 4520, 4607, 11, 0⟩, ⟨4, 8203, 8203, 3, 0⟩, ⟨4, 8204, 8204, 4, 0⟩, ⟨4, 8205, 8205, 5, 0⟩, ⟨4, 8206, 8207, 3, 0⟩, ⟨4, 8232, 8238, 3, 0⟩, ⟨4, 8288, 8303, 3, 0⟩, ⟨4, 8400, 8432, 4, 0⟩, ⟨4, 12330, 12335, 4, 0⟩, ⟨4, 12441, 12442, 4, 0⟩, ⟨4, 43360, 43388, 9, 0⟩, ⟨4, 55216, 55238, 10, 0⟩, ⟨4, 55243, 55291, 11, 0⟩, ⟨4, 65024, 65039, 4, 0⟩, ⟨4, 65056, 65071, 4, 0⟩, ⟨4, 65279, 65279, 3, 0⟩, ⟨4, 119141, 119141, 4, 0⟩, ⟨4, 127462, 127487, 6, 0⟩, ⟨4, 127995, 127999, 4, 0⟩, ⟨4, 917505, 917535, 3, 0⟩, ⟨4, 917536, 917631, 4, 0⟩, ⟨4, 917760, 917999, 4, 0⟩]
theorem p75 : PCall qa 30 [] fun v => v = .sl false true (cZ yC) := by
 refine zng ?_; unfold ze3; rfl
def yD : List Row := [⟨5, 169, 169, 1, 0⟩, ⟨5, 174, 174, 1, 0⟩, ⟨5, 8252, 8252, 1, 0⟩, ⟨5, 8265, 8265, 1, 0⟩, ⟨5, 8482, 8482, 1, 0⟩, ⟨5, 8505, 8505, 1, 0⟩, ⟨5, 8596, 8601, 1, 0⟩, ⟨5, 8617, 8618, 1, 0⟩, ⟨5, 8986, 8987, 1, 0⟩, ⟨5, 9193, 9203, 1, 0⟩, ⟨5, 9728, 9733, 1, 0⟩, ⟨5, 9735, 9746, 1, 0⟩, ⟨5, 9748, 9861, 1, 0⟩, ⟨5, 9872, 9989, 1, 0⟩, ⟨5, 9992, 10002, 1, 0⟩, ⟨5, 10084, 10087, 1, 0⟩, ⟨5, 127744, 127994, 1, 0⟩, ⟨5, 128000, 128317, 1, 0⟩, ⟨5, 128326, 128591, 1, 0⟩, ⟨5, 128640, 128767, 1, 0⟩, ⟨5, 129292, 129338, 1, 0⟩, ⟨5, 129351, 129791, 1, 0⟩]
theorem p76 : PCall qa 31 [] fun v => v = .sl false true (cZ yD) := by
 refine znh ?_; unfold ze4; rfl
def yE : List Row := [⟨6, 2325, 2361, 2, 0⟩, ⟨6, 2381, 2381, 1, 0⟩, ⟨6, 2392, 2399, 2, 0⟩, ⟨6, 2453, 2472, 2, 0⟩, ⟨6, 2509, 2509, 1, 0⟩]
theorem p77 : PCall qa 32 [] fun v => v = .sl false true (cZ yE) := by
 refine zni ?_; unfold ze5; rfl
def yF : List Row := [⟨7, 4352, 4447, 1, 0⟩, ⟨7, 8986, 8987, 1, 0⟩, ⟨7, 9193, 9196, 1, 0⟩, ⟨7, 9748, 9749, 1, 0⟩, ⟨7, 11904, 12350, 1, 0⟩, ⟨7, 12353, 13311, 1, 0⟩, ⟨7, 13312, 19903, 1, 0⟩, ⟨7, 19968, 40959, 1, 0⟩, ⟨7, 43360, 43388, 1, 0⟩, ⟨7, 44032, 55203, 1, 0⟩, ⟨7, 63744, 64255, 1, 0⟩, ⟨7, 65072, 65135, 1, 0⟩, ⟨7, 65281, 65376, 1, 0⟩, ⟨7, 65504, 65510, 1, 0⟩, ⟨7, 127744, 127994, 1, 0⟩, ⟨7, 128000, 128317, 1, 0⟩, ⟨7, 128326, 128591, 1, 0⟩, ⟨7, 128640, 128767, 1, 0⟩, ⟨7, 129292, 129338, 1, 0⟩, ⟨7, 129351, 129791, 1, 0⟩, ⟨7, 131072, 262141, 1, 0⟩]
theorem p78 : PCall qa 33 [] fun v => v = .sl false true (cZ yF) := by
 refine znj ?_; unfold ze6; rfl
def yG : List Row := [⟨8, 48, 57, 1, 0⟩, ⟨8, 65, 90, 1, 0⟩, ⟨8, 95, 95, 1, 0⟩, ⟨8, 97, 122, 1, 0⟩, ⟨8, 170, 170, 1, 0⟩, ⟨8, 181, 181, 1, 0⟩, ⟨8, 186, 186, 1, 0⟩, ⟨8, 192, 214, 1, 0⟩, ⟨8, 216, 246, 1, 0⟩, ⟨8, 248, 705, 1, 0⟩, ⟨8, 880, 883, 1, 0⟩, ⟨8, 886, 887, 1, 0⟩, ⟨8, 902, 902, 1, 0⟩, ⟨8, 904, 1023, 1, 0⟩, ⟨8, 1024, 1153, 1, 0⟩, ⟨8, 1162, 1327, 1, 0⟩, ⟨8, 1329, 1366, 1, 0⟩, ⟨8, 1488, 1514, 1, 0⟩, ⟨8, 1568, 1610, 1, 0⟩, ⟨8, 2308, 2361, 1, 0⟩, ⟨8, 2392, 2401, 1, 0⟩, ⟨8, 2437, 2489, 1, 0⟩, ⟨8, 3585, 3632, 1, 0⟩, ⟨8, 4352, 4607, 1, 0⟩, ⟨8, 7680, 8191, 1, 0⟩, ⟨8, 8486, 8486, 1, 0⟩, ⟨8, 8490, 8491, 1, 0⟩, ⟨8, 12353, 12438, 1, 0⟩, ⟨8, 12449, 12538, 1, 0⟩, ⟨8, 13312, 19903, 1, 0⟩, ⟨8, 19968, 40959, 1, 0⟩, ⟨8, 44032, 55203, 1, 0⟩, ⟨8, 63744, 64255, 1, 0⟩, ⟨8, 131072, 262141, 1, 0⟩]
theorem p79 : PCall qa 34 [] fun v => v = .sl false true (cZ yG) := by
 refine znk ?_; unfold ze7; rfl
def tab : List Row := yA ++ tab73 ++ yB ++ yC ++ yD ++ yE ++ yF ++ yG
theorem lF (a b : List Row) : cZ a ++ cZ b = cZ (a ++ b) := by simp [cZ]
theorem p42 : PCall qa 8 [] fun v => ∃ n f, v = .sl n f (cZ tab) := by
 refine znl ?_; unfold ze8;have sz : ∀ l : List Row, aS (cZ l) 5 := fun l => pY zfh l;refine p72.mono ?_; rintro _ rfl;refine ⟨_, _, _, rfl, ⟨rfl, .inl rfl, by intro e he; simp at he, sz _, by simp [lB]; decide⟩, ?_⟩;refine p73.mono ?_; rintro _ rfl;refine ⟨_, _, _, rfl, ⟨sz _, by simp only [qj, lF, lB]; decide⟩, ?_⟩;refine p74.mono ?_; rintro _ rfl;refine ⟨_, _, _, rfl, ⟨sz _, by simp only [qj, lF, lB]; decide⟩, ?_⟩;refine p75.mono ?_; rintro _ rfl;refine ⟨_, _, _, rfl, ⟨sz _, by simp only [qj, lF, lB]; decide⟩, ?_⟩;refine p76.mono ?_; rintro _ rfl;refine ⟨_, _, _, rfl, ⟨sz _, by simp only [qj, lF, lB]; decide⟩, ?_⟩;refine p77.mono ?_; rintro _ rfl;refine ⟨_, _, _, rfl, ⟨sz _, by simp only [qj, lF, lB]; decide⟩, ?_⟩;refine p78.mono ?_; rintro _ rfl;refine ⟨_, _, _, rfl, ⟨sz _, by simp only [qj, lF, lB]; decide⟩, ?_⟩;refine p79.mono ?_; rintro _ rfl;refine ⟨_, _, _, rfl, ⟨sz _, by simp only [qj, lF, lB]; decide⟩, ?_⟩;simp only [qj, lF];exact ⟨_, _, rfl⟩
theorem zn6 : tab.length < 1000 := by decide
end Go.Eng
namespace Go.Eng.Trie
open Go Go.Eng
structure Pc (α : Type) where
 fr : Int
 to : Int
 v : α
variable {α : Type}
def findL : List (Pc α) -> α -> Int -> Int -> α × Int
 | [], z, _, last => (z, last)
 | p :: r, z, i, last => if p.fr <= i /\ i <= p.to then (p.v, if last < p.to then last else p.to) else if i < p.fr /\ p.fr <= last then findL r z i (p.fr - 1) else findL r z i last
theorem yH (p : Pc α) (r : List (Pc α)) (z : α) (i last : Int) : findL (p :: r) z i last = if p.fr <= i /\ i <= p.to then (p.v, if last < p.to then last else p.to) else if i < p.fr /\ p.fr <= last then findL r z i (p.fr - 1) else findL r z i last := rfl
def eV : List (Pc α) -> α -> Int -> α
 | [], z, _ => z
 | p :: r, z, i => if p.fr <= i /\ i <= p.to then p.v else eV r z i
theorem p7 : ∀ (l : List (Pc α)) (z : α) (i last : Int), i <= last -> (findL l z i last).1 = eV l z i /\ i <= (findL l z i last).2 /\ (findL l z i last).2 <= last /\ ∀ j, i <= j -> j <= (findL l z i last).2 -> eV l z j = (findL l z i last).1
 | [], z, i, last, h => ⟨rfl, h, qh _, fun _ _ _ => rfl⟩
 | p :: r, z, i, last, h => by
   unfold findL eV;by_cases h1 : p.fr <= i /\ i <= p.to
   ·rw [if_pos h1, if_pos h1];dsimp only;have : (if last < p.to then last else p.to) <= last /\ (if last < p.to then last else p.to) <= p.to /\ i <= (if last < p.to then last else p.to) := by split <;> omega
    refine ⟨rfl, this.2.2, this.1, fun j hj hj2 => ?_⟩;rw [if_pos (by omega)]
   ·rw [if_neg h1, if_neg h1];by_cases h2 : i < p.fr /\ p.fr <= last
    ·rw [if_pos h2];obtain ⟨a, b, c, d⟩ := p7 r z i (p.fr - 1) (by omega);refine ⟨a, b, by omega, fun j hj hj2 => ?_⟩;rw [if_neg (by omega)];exact d j hj hj2
    ·rw [if_neg h2];obtain ⟨a, b, c, d⟩ := p7 r z i last h;refine ⟨a, b, c, fun j hj hj2 => ?_⟩;rw [if_neg (by omega)];exact d j hj hj2
def aN (α : Type) := { l : List α // l.length = 128 }
instance [DecidableEq α] : DecidableEq (aN α) := fun a b => if h : a.1 = b.1 then isTrue (Subtype.ext h) else isFalse fun e => h (by rw [e])
def rep (v : α) : aN α := ⟨qc 128 v, by simp⟩
variable {sz : Int} {F : Int -> α} {idx : List Int} {blk : List (aN α)}
structure TOK (sz : Int) (F : Int -> α) (idx : List Int) (blk : List (aN α)) : Prop where
 len : sz <= 128 * idx.length
 ok : ∀ (q : Nat) k, idx[q]? = some k -> 0 <= k /\ ∃ b : aN α, blk[k.toNat]? = some b /\ ∀ (j : Nat) u, b.1[j]? = some u -> (128 * q + j : Int) < sz -> u = F (128 * q + j)
theorem TOK.get (h : TOK sz F idx blk) {i : Int} (h0 : 0 <= i) (h1 : i < sz) : ∃ (hq : (i / 128).toNat < idx.length), 0 <= idx[(i / 128).toNat] /\ ∃ (hk : idx[(i / 128).toNat].toNat < blk.length), ∃ (hj : (i % 128).toNat < (blk[idx[(i / 128).toNat].toNat]).1.length), (blk[idx[(i / 128).toNat].toNat]).1[(i % 128).toNat] = F i := by
 have hl := h.len;have hq : (i / 128).toNat < idx.length := by omega
 obtain ⟨g0, b, g1, g2⟩ := h.ok (i / 128).toNat _ (qm hq);obtain ⟨hk, hb⟩ := List.getElem?_eq_some_iff.1 g1;have hj : (i % 128).toNat < (blk[idx[(i / 128).toNat].toNat]).1.length := by rw [(blk[idx[(i / 128).toNat].toNat]).2]; omega
 refine ⟨hq, g0, hk, hj, ?_⟩;have hj' : (i % 128).toNat < b.1.length := by rw [b.2]; omega
 have := g2 (i % 128).toNat _ (qm hj') (by omega);have e : (128 * ((i / 128).toNat : Int) + ((i % 128).toNat : Int)) = i := by omega
 rw [e] at this;simp only [hb];exact this
theorem yI {b c : aN α} {k : Nat} (h : blk[k]? = some b) : (blk ++ [c])[k]? = some b := by
 have := (List.getElem?_eq_some_iff.1 h).1;rw [qan this]; exact h
variable [DecidableEq α]
structure TInv (sz : Int) (F : Int -> α) (idx : List Int) (blk : List (aN α)) (kn : List (aN α × Int)) (ev : List (α × Int)) : Prop where
 kn_ok : ∀ b k, bM b kn = some k -> 0 <= k /\ blk[k.toNat]? = some b
 ev_ok : ∀ v k, bM v ev = some k -> 0 <= k /\ blk[k.toNat]? = some (rep v)
 idx_ok : ∀ (q : Nat) k, idx[q]? = some k -> 0 <= k /\ ∃ b : aN α, blk[k.toNat]? = some b /\ ∀ (j : Nat) u, b.1[j]? = some u -> (128 * q + j : Int) < sz -> u = F (128 * q + j)
variable {kn : List (aN α × Int)} {ev : List (α × Int)}
theorem TInv.nil : TInv sz F [] [] [] [] := ⟨fun _ _ h => (by cases h), fun _ _ h => (by cases h), fun _ _ h => (by simp at h)⟩
theorem TInv.place (h : TInv sz F idx blk kn ev) (b : aN α) : TInv sz F idx (blk ++ [b]) (bQ b (blk.length : Int) kn) ev := by
 refine ⟨fun c k hc => ?_, fun v k hv => ?_, fun q k hq => ?_⟩
 ·rw [l9] at hc;split at hc
  ·rename_i e;cases hc;exact ⟨by omega, by simp [e]⟩
  ·exact ⟨(h.kn_ok c k hc).1, yI (h.kn_ok c k hc).2⟩
 ·exact ⟨(h.ev_ok v k hv).1, yI (h.ev_ok v k hv).2⟩
 ·obtain ⟨h1, c, h2, h3⟩ := h.idx_ok q k hq;exact ⟨h1, c, yI h2, h3⟩
theorem TInv.even (h : TInv sz F idx blk kn ev) {v : α} {k : Int} (h0 : 0 <= k) (hk : blk[k.toNat]? = some (rep v)) : TInv sz F idx blk kn (bQ v k ev) := by
 refine ⟨h.kn_ok, fun c k' hc => ?_, h.idx_ok⟩;rw [l9] at hc;split at hc
 ·rename_i e;cases hc;exact ⟨h0, by rw [e]; exact hk⟩
 ·exact h.ev_ok c k' hc
theorem TInv.push (h : TInv sz F idx blk kn ev) {b : aN α} {k : Int} (h0 : 0 <= k) (hk : blk[k.toNat]? = some b) (hb : ∀ (j : Nat) u, b.1[j]? = some u -> (128 * idx.length + j : Int) < sz -> u = F (128 * idx.length + j)) : TInv sz F (idx ++ [k]) blk kn ev := by
 refine ⟨h.kn_ok, h.ev_ok, fun q k' hq => ?_⟩;rcases qbf q idx.length with hl | hl | hl
 ·rw [qan hl] at hq;exact h.idx_ok q k' hq
 ·subst hl;simp at hq;subst hq;exact ⟨h0, b, hk, hb⟩
 ·rw [qab (by simp; omega)] at hq; cases hq
end Go.Eng.Trie
namespace Go.Eng.Rows
open Go Go.Eng Go.Eng.Trie
def bW (rows : List Row) (k r : Int) : Option (Int × Int) := if 0 <= r /\ r <= 1114111 then first rows k r else none
def aI (rows : List Row) (k r : Int) : Int := match bW rows k r with | some p => p.1 | none => 0
def c4 (rows : List Row) (k r : Int) : Bool := match bW rows k r with | some p => decide (p.1 = 1) | none => false
def aM (rows : List Row) (r : Int) : Int × Int := match bW rows 2 r with | some p => p | none => (0, 0)
def c8 (rows : List Row) (r : Int) : Bool × Bool × Bool × Bool := (c4 rows 5 r, c4 rows 7 r, c4 rows 8 r, c4 rows 3 r)
def g9 (rows : List Row) (r : Int) : Bool :=
 !decide (aM rows r = (0, 0)) && (decide ((aM rows r).2 = 0) || (c4 rows 3 r || (!decide (aI rows 1 r = 0) || !decide (aI rows 1 (aM rows r).1 = 0))))
theorem zfk {rows : List Row} {k r a b : Int} : dL (aH k rows) r a b ↔ bW rows k r = some (a, b) := by
 rw [zny];unfold bW;by_cases h : 0 <= r /\ r <= 1114111
 ·rw [if_pos h]; exact ⟨fun h => h.2, fun h2 => ⟨h, h2⟩⟩
 ·rw [if_neg h]; exact ⟨fun h2 => absurd h2.1 h, fun h2 => by cases h2⟩
theorem yJ {rows : List Row} {k r : Int} {p : Int × Int} (h : bW rows k r = some p) : ∃ s ∈ aH k rows, s.has r /\ s.a = p.1 /\ s.b = p.2 := by
 obtain ⟨s, h1, h2, h3, h4⟩ := zfk.2 (show bW rows k r = some (p.1, p.2) from h);exact ⟨s, h1, h2, h3, h4⟩
theorem mC {rows : List Row} {k r : Int} {s : Sp} (hs : s ∈ aH k rows) (h : s.has r) : bW rows k r = some (s.a, s.b) := zfk.1 ⟨s, hs, h, rfl, rfl⟩
theorem zn7 {rows : List Row} {k r : Int} (h : bW rows k r = none) : ∀ s ∈ aH k rows, ¬ s.has r := fun s hs h2 => by rw [mC hs h2] at h; cases h
theorem tE {rows : List Row} {k r : Int} (h : ∀ s ∈ aH k rows, ¬ s.has r) : bW rows k r = none := by
 cases hf : bW rows k r with
 | none => rfl
 | some p => obtain ⟨s, h1, h2, _⟩ := yJ hf; exact absurd h2 (h s h1)
theorem tF {α : Type} {F : Int -> α} {z : α} {i : Int} : ∀ {l : List (Pc α)}, (∀ p ∈ l, p.fr <= i -> i <= p.to -> p.v = F i) -> ((∀ p ∈ l, ¬ (p.fr <= i /\ i <= p.to)) -> F i = z) -> eV l z i = F i
 | [], _, h2 => (h2 (fun p hp => by cases hp)).symm
 | p :: r, h1, h2 => by
   unfold eV;by_cases h : p.fr <= i /\ i <= p.to
   ·rw [if_pos h]; exact h1 p qd h.1 h.2
   ·rw [if_neg h];refine tF (fun q hq => h1 q (qf _ hq)) fun h3 => h2 fun q hq => ?_;rcases List.mem_cons.1 hq with rfl | hq
    ·exact h
    ·exact h3 q hq
theorem zn8 (rows : List Row) (k i : Int) : eV ((aH k rows).map fun s => (⟨s.fr, s.to, s.a⟩ : Pc Int)) 0 i = aI rows k i := by
 refine tF (F := aI rows k) (fun p hp h1 h2 => ?_) (fun h => ?_)
 ·obtain ⟨s, hs, rfl⟩ := List.mem_map.1 hp;unfold aI; rw [mC hs ⟨h1, h2⟩]
 ·unfold aI; rw [tE fun s hs h2 => h _ (qax hs) ⟨h2.1, h2.2⟩]
theorem zn9 (rows : List Row) (i : Int) : eV ((aH 2 rows).map fun s => (⟨s.fr, s.to, (s.a, s.b)⟩ : Pc (Int × Int))) (0, 0) i = aM rows i := by
 refine tF (F := aM rows) (fun p hp h1 h2 => ?_) (fun h => ?_)
 ·obtain ⟨s, hs, rfl⟩ := List.mem_map.1 hp;unfold aM; rw [mC hs ⟨h1, h2⟩]
 ·unfold aM; rw [tE fun s hs h2 => h _ (qax hs) ⟨h2.1, h2.2⟩]
def dM (at' last : Int) : List Sp -> Int
 | [] => last
 | s :: r => if s.fr > at' /\ s.fr <= last then dM at' (s.fr - 1) r else dM at' last r
theorem p8 {a : Int} : ∀ {l : List Sp} {last : Int}, dM a last l <= last
 | [], last => qh _
 | s :: r, last => by
   unfold dM;split
   ·have := p8 (a := a) (l := r) (last := s.fr - 1); omega
   ·exact p8
theorem yK {a : Int} : ∀ {l : List Sp} {last : Int}, ∀ s ∈ l, s.fr > a -> s.fr > dM a last l
 | s :: r, last, x, hx, h => by
   unfold dM;have hle1 := p8 (a := a) (l := r) (last := s.fr - 1);have hle2 := p8 (a := a) (l := r) (last := last);rcases List.mem_cons.1 hx with rfl | hx
   ·split <;> omega
   ·split
    ·exact yK x hx h
    ·exact yK x hx h
theorem yL {a i : Int} : ∀ {l : List Sp} {last : Int}, i <= last -> (∀ s ∈ l, s.fr > a -> s.fr > i) -> i <= dM a last l
 | [], last, h, _ => h
 | s :: r, last, h, h2 => by
   unfold dM;split
   ·rename_i hc;exact yL (by have := h2 s qd hc.1; omega) fun x hx => h2 x (qf _ hx)
   ·exact yL h fun x hx => h2 x (qf _ hx)
theorem zfl (a : Int) : ∀ (l m : List Sp) (last : Int), dM a last (l ++ m) = dM a (dM a last l) m
 | [], m, last => rfl
 | s :: r, m, last => by
   simp only [qr, dM];split <;> exact zfl a r m _
def lG (ll : List (List Sp)) (x : Int) : Prop := x = 0 ∨ ∃ l ∈ ll, ∃ s ∈ l, x = s.fr ∨ x = s.to + 1
theorem zoa {ll : List (List Sp)} {a i : Int} (h1 : a <= i) (h2 : ∀ x, lG ll x -> x <= a ∨ i < x) {l : List Sp} (hl : l ∈ ll) {s : Sp} (hs : s ∈ l) : s.has i ↔ s.has a := by
 have c1 := h2 s.fr (.inr ⟨l, hl, s, hs, .inl rfl⟩);have c2 := h2 (s.to + 1) (.inr ⟨l, hl, s, hs, .inr rfl⟩);unfold Sp.has;omega
theorem zob {t : List Int} {i : Int} (h0 : ∃ x ∈ t, x <= i) : ∃ a ∈ t, a <= i /\ ∀ x ∈ t, x <= a ∨ i < x := by
 induction t with
 | nil => obtain ⟨x, hx, _⟩ := h0; cases hx
 | cons y r ih =>
   by_cases hr : ∃ x ∈ r, x <= i
   ·obtain ⟨a, h1, h2, h3⟩ := ih hr;by_cases hy : y <= i /\ a < y
    ·refine ⟨y, qd, hy.1, fun x hx => ?_⟩;rcases List.mem_cons.1 hx with rfl | hx
     ·exact .inl (qh _)
     ·have := h3 x hx; omega
    ·refine ⟨a, qf _ h1, h2, fun x hx => ?_⟩;rcases List.mem_cons.1 hx with rfl | hx
     ·omega
     ·exact h3 x hx
   ·obtain ⟨x, hx, hxi⟩ := h0;rcases List.mem_cons.1 hx with rfl | hx
    ·refine ⟨x, qd, hxi, fun z hz => ?_⟩;rcases List.mem_cons.1 hz with rfl | hz
     ·exact .inl (qh _)
     ·exact .inr (Int.not_le.1 fun hle => hr ⟨z, hz, hle⟩)
    ·exact absurd ⟨x, hx, hxi⟩ hr
abbrev Fl := Bool × Bool × Bool × Bool
def l4 (rows : List Row) : List (List Sp) := [aH 5 rows, aH 7 rows, aH 8 rows, aH 3 rows]
theorem tG {rows : List Row} {k a i : Int} (h : ∀ s ∈ aH k rows, s.has i ↔ s.has a) : bW rows k i = bW rows k a := by
 cases hf : bW rows k a with
 | none => exact tE fun s hs h2 => zn7 hf s hs ((h s hs).1 h2)
 | some p =>
   obtain ⟨s, h1, h2, h3, h4⟩ := yJ hf;rw [mC h1 ((h s h1).2 h2), h3, h4]
theorem zfm {rows : List Row} {a i : Int} (h : ∀ l ∈ l4 rows, ∀ s ∈ l, s.has i ↔ s.has a) : c8 rows i = c8 rows a := by
 unfold c8 c4;rw [tG (h _ (by simp [l4]) : ∀ s ∈ aH 5 rows, _), tG (h _ (by simp [l4]) : ∀ s ∈ aH 7 rows, _), tG (h _ (by simp [l4]) : ∀ s ∈ aH 8 rows, _), tG (h _ (by simp [l4]) : ∀ s ∈ aH 3 rows, _)]
structure LastOK (ll : List (List Sp)) (a x : Int) : Prop where
 top : x <= 1114111
 le : ∀ l ∈ ll, ∀ s ∈ l, s.has a -> x <= s.to
 ge : ∀ i, i <= 1114111 -> (∀ l ∈ ll, ∀ s ∈ l, s.has a -> i <= s.to) -> i <= x
theorem LastOK.nil (a : Int) : LastOK [] a 1114111 := ⟨qh _, fun l hl => (by cases hl), fun i hi _ => hi⟩
theorem LastOK.some {ll : List (List Sp)} {l : List Sp} {a x : Int} (h : LastOK ll a x) {s : Sp} (hs : s ∈ l) (ha : s.has a) (hg : Good l) : LastOK (ll ++ [l]) a (if s.to < x then s.to else x) := by
 have uniq : ∀ y ∈ l, y.has a -> y.to = s.to := fun y hy hya => by
  obtain ⟨i, hi, rfl⟩ := qah hy;obtain ⟨j, hj, rfl⟩ := qah hs;have hr := List.pairwise_iff_getElem.1 hg.1;unfold Sp.has at hya ha;rcases qbf i j with hij | hij | hij
  ·have := hr i j hi hj hij; omega
  ·subst hij; rfl
  ·have := hr j i hj hi hij; omega
 have h1 := h.top;refine ⟨by split <;> omega, fun m hm y hy hya => ?_, fun i hi h2 => ?_⟩
 ·rcases List.mem_append.1 hm with hm | hm
  ·have := h.le m hm y hy hya; split <;> omega
  ·simp only [qg] at hm; subst hm;have := uniq y hy hya; split <;> omega
 ·have g1 := h.ge i hi fun m hm => h2 m (qaf _ hm);have g2 := h2 l (by simp) s hs ha;split <;> omega
theorem LastOK.none {ll : List (List Sp)} {l : List Sp} {a x : Int} (h : LastOK ll a x) (hn : ∀ s ∈ l, ¬ s.has a) : LastOK (ll ++ [l]) a x := by
 refine ⟨h.top, fun m hm y hy hya => ?_, fun i hi h2 => h.ge i hi fun m hm => h2 m (qaf _ hm)⟩;rcases List.mem_append.1 hm with hm | hm
 ·exact h.le m hm y hy hya
 ·simp only [qg] at hm; subst hm; exact absurd hya (hn y hy)
structure PiecesOK (rows : List Row) (done : List Int) (P : List (Pc Fl)) : Prop where
 sound : ∀ p ∈ P, (0 <= p.fr /\ p.fr <= 1114112) /\ ∀ i, p.fr <= i -> i <= p.to -> p.v = c8 rows i
 all : ∀ a ∈ done, c8 rows a ≠ (false, false, false, false) -> ∃ p ∈ P, p.fr = a /\ ∀ i, a <= i -> i <= 1114111 -> (∀ l ∈ l4 rows, ∀ s ∈ l, (s.has i ↔ s.has a) /\ (s.fr > a -> s.fr > i)) -> i <= p.to
theorem PiecesOK.nil (rows : List Row) : PiecesOK rows [] [] := ⟨fun p hp => (by cases hp), fun a ha => (by cases ha)⟩
theorem PiecesOK.skip {rows : List Row} {done : List Int} {P : List (Pc Fl)} (h : PiecesOK rows done P) {a : Int} (ha : c8 rows a = (false, false, false, false)) : PiecesOK rows (done ++ [a]) P := by
 refine ⟨h.sound, fun b hb hne => ?_⟩;rcases List.mem_append.1 hb with hb | hb
 ·exact h.all b hb hne
 ·simp only [qg] at hb; subst hb; exact absurd ha hne
theorem PiecesOK.put {rows : List Row} {done : List Int} {P : List (Pc Fl)} (h : PiecesOK rows done P) {a x : Int} (h0 : 0 <= a) (h1 : a <= 1114112) (hx : LastOK (l4 rows) a x) : PiecesOK rows (done ++ [a]) (P ++ [⟨a, dM a x (l4 rows).flatten, c8 rows a⟩]) := by
 refine ⟨fun p hp => ?_, fun b hb hne => ?_⟩
 ·rcases List.mem_append.1 hp with hp | hp
  ·exact h.sound p hp
  ·simp only [qg] at hp; subst hp;refine ⟨⟨h0, h1⟩, fun i hi1 hi2 => (zfm fun l hl s hs => ?_).symm⟩;have e1 := p8 (a := a) (l := (l4 rows).flatten) (last := x);have e2 := yK (a := a) (l := (l4 rows).flatten) (last := x) s (List.mem_flatten.2 ⟨l, hl, hs⟩);have e3 := hx.le l hl s hs;simp only at hi1 hi2;unfold Sp.has at e3 ⊢;constructor
   ·rintro ⟨q1, q2⟩;by_cases hc : s.fr > a
    ·have := e2 hc; omega
    ·omega
   ·rintro ⟨q1, q2⟩;have := e3 ⟨q1, q2⟩;omega
 ·rcases List.mem_append.1 hb with hb | hb
  ·obtain ⟨p, hp, q⟩ := h.all b hb hne;exact ⟨p, qaf _ hp, q⟩
  ·simp only [qg] at hb; subst hb;refine ⟨_, List.mem_append_right _ (List.mem_singleton.2 rfl), rfl, fun i hi1 hi2 hc => ?_⟩;refine yL (hx.ge i hi2 fun l hl s hs hsb => ?_) fun s hs hgt => ?_
   ·exact (((hc l hl s hs).1).2 hsb).2
   ·obtain ⟨l, hl, hs⟩ := List.mem_flatten.1 hs;exact (hc l hl s hs).2 hgt
theorem PiecesOK.val {rows : List Row} {t : List Int} {P : List (Pc Fl)} (h : PiecesOK rows t P) (ht : ∀ x, x ∈ t ↔ lG (l4 rows) x) {i : Int} (h0 : 0 <= i) (h1 : i <= 1114111) : eV P (false, false, false, false) i = c8 rows i := by
 refine tF (F := c8 rows) (fun p hp q1 q2 => (h.sound p hp).2 i q1 q2) fun hn => ?_;obtain ⟨a, ha, hai, hcut⟩ := zob (t := t) (i := i) ⟨0, (ht 0).2 (.inl rfl), h0⟩;have hcut' : ∀ x, lG (l4 rows) x -> x <= a ∨ i < x := fun x hx => hcut x ((ht x).2 hx);have hsame : ∀ l ∈ l4 rows, ∀ s ∈ l, s.has i ↔ s.has a := fun l hl s hs => zoa hai hcut' hl hs;by_cases hz : c8 rows a = (false, false, false, false)
 ·rw [zfm hsame, hz]
 ·obtain ⟨p, hp, q1, q2⟩ := h.all a ha hz;refine absurd ⟨by omega, q2 i hai h1 fun l hl s hs => ⟨hsame l hl s hs, fun hg => ?_⟩⟩ (hn p hp);have := hcut' s.fr (.inr ⟨l, hl, s, hs, .inl rfl⟩);omega
end Go.Eng.Rows
namespace Go.Eng
open Go Go.Proofs
def yM (n f : Bool) (es : LL) (z i : Int) (x3 x14 : Int) : Env × Hp := ([(1, Y6 z), (2, Y6 i), (3, Y6 x3), (12, LV.pv (PV.sl n f es)), (13, LV.pv (PV.int i64 (es.length : Int))), (14, Y6 x14)], [])
section
variable (n f : Bool) (es : LL) (z i last : Int) (J : Int -> Int -> Prop) (μ : Int -> Int -> Nat)
def zfn (R : PV -> Prop) : Prop :=
 (aF (yM n f es z i last (0 : Int)) /\ J last (0 : Int)) /\ ∀ (x3 x14 : Int), J x3 x14 ->
 let K2 := fun (y0_ y1_ : Int) => aF (yM n f es z i y0_ y1_) /\ J y0_ y1_ /\ μ y0_ y1_ < μ x3 x14; if decide (x14 < (↑es.length : Int)) = true then aR es x14 3 /\ ∃ n1, (es.getD x14.toNat []).head? = some (Z6 n1) /\ ∃
  (n2 : Int), (es.getD x14.toNat []).tail.head? = some (Z6 n2) /\ ∃ n3, (es.getD x14.toNat []).tail.tail.head? = some (Z6 n3) /\
 let V1 :=
 let V2 := K2 x3 (i64.wrap (x14 + 1)); if decide (i < n1) = true then if decide (n1 <= x3) = true then K2 (i64.wrap (n1 - 1)) (i64.wrap (x14 + 1)) else V2 else V2; if decide (n1 <= i) = true then if decide (i <= n2) =
  true then R (PV.tup [Z6 n3, Z6 (if x3 < n2 then x3 else n2)]) else V1 else V1 else R (PV.tup [Z6 z, Z6 x3])
theorem zoc {R : PV -> Prop} (h : zfn n f es z i last J μ R) : PCall qa 61 [.sl n f es, .int .i64 z, .int .i64 i, .int .i64 last] R :=
 PCall.wz Try.func61 aT [0, 1, 2, 3, 8, 9, 11, 12, 13, 14, 15, 18, 35] (dB 2 (bF kC (yM n f es z i) J μ (fun e h => (gI e 3, gI e 14)) [] [1, 2, 3, 12, 13, 14] [])) h
end
section
variable (s : Int) (n f n2 f2 : Bool) (es bs : LL) (i : Int)
def zfo (R : PV -> Prop) : Prop :=
 if decide (i < 0) = true then R (Z6 0) else ∃ n1, some (Z6 s) = some (Z6 n1) /\ if decide (i >= n1) = true then R (Z6 0) else ∃ n3 f1 es1, some (PV.sl n2 f2 bs) = some (PV.sl n3 f1 es1) /\ ∃ n4 f3 es2, some (PV.sl n f es) = some (PV.sl n4 f3 es2) /\ aR es2 (i64.wrap (i.tdiv (128 : Int))) 1 /\ ∃ n5, (es2.getD (i64.wrap (i.tdiv (128 : Int))).toNat []).head? = some (Z6 n5) /\ aR es1 n5 128 /\ ((0 : Int) <= i.tmod (128 : Int) /\ i.tmod (128 : Int) < (↑128 : Int)) /\ ∃ n6, (qb ((i.tmod (128 : Int)).toNat * (1 : Nat)) (es1.getD n5.toNat [])).head? = some (Z6 n6) /\ R (Z6 n6)
theorem zod {R : PV -> Prop} (h : zfo s n f n2 f2 es bs i R) : PCall qa 72 [.ptr [.int .i64 s, .sl n f es, .sl n2 f2 bs], .int .i64 i] R :=
 PCall.wz Try.func72 aT [0, 1, 4, 5, 19] bE h
end
section
variable (sz : Int) (kn ev : List (PV × PV)) (ixm ixn bkm bkn : Bool) (ix bk : LL) (b : List PV)
def zfp (R : LV -> Hp -> Prop) : Prop :=
 128 <= (qb 0 b).length /\ bV qa 142 kn /\ aV qa 142 (PV.agg (qe 128 (qb 0 b))) = true /\ (∀ (v : PV), bO (PV.agg (qe 128 (qb 0 b))) kn = some v -> ∃ n, v = Z6 n /\ R (Y6 n)
  [Ob.box [LV.box 1 0, LV.mp 2, LV.mp 3], Ob.box [Y6 sz, LV.own 4, LV.own 5], Ob.mp kn, Ob.mp ev, Ob.sl (3, 1) ixm ixn ix, Ob.sl (142, 128) bkm bkn bk]) /\ (bO (PV.agg (qe 128 (qb 0 b))) kn = none -> 128 <= (qb 0
  b).length /\ bV qa 142 kn /\ aV qa 142 (PV.agg (qe 128 (qb 0 b))) = true /\ 128 <= (qb 0 b).length /\
 let V1 := (aS [qe 128 (qb 0 b)] 128 /\ (bk.length + 1) * 1024 <= 140737488355328) /\ R (Y6 (↑bk.length : Int)) [Ob.box [LV.box 1 0, LV.mp 2, LV.mp 3], Ob.box [Y6 sz, LV.own 4, LV.own 5], Ob.mp (bA (PV.agg (qe 128
  (qb 0 b))) (Z6 (↑bk.length : Int)) kn), Ob.mp ev, Ob.sl (3, 1) ixm ixn ix, Ob.sl (142, 128) true (bkn && false) (bk ++ [qe 128 (qb 0 b)])]; ((qe 128 (qb 0 b)).length = 128 /\ V1) /\ (qe 128
  (qb 0 b)).length = 128 /\ V1 /\ V1)
theorem zoe {R : LV -> Hp -> Prop} (h : zfp sz kn ev ixm ixn bkm bkn ix bk b R) : ACall qa 63 [.box 0 0, .pv (.agg b)] [.box [.box 1 0, .mp 2, .mp 3], .box [.pv (.int .i64 sz), .own 4, .own 5], .mp kn, .mp ev, .sl (3, 1) ixm ixn ix, .sl (142, 128) bkm bkn bk] R :=
 ACall.wz Try.func63 aT [0, 1, 3, 4, 5, 6, 17] bE [0,1,2,3,4,5] h
end
def yN (sz : Int) (ixm ixn bkm bkn : Bool) (ix bk : LL) (v x20 : Int) (m_2 : List (PV × PV)) (m_3 : List (PV × PV)) (c_6 : List PV) : Env × Hp := ([(0, LV.box 0 0), (1, Y6 v), (7, LV.box 6 0), (20, Y6 x20)], [.box [LV.box 1 0, LV.mp 2, LV.mp 3], .box [Y6 sz, LV.own 4, LV.own 5], .mp m_2, .mp m_3, .sl (3, 1) ixm ixn ix, .sl (142, 128) bkm bkn bk, .arr c_6])
section
variable (sz : Int) (kn ev : List (PV × PV)) (ixm ixn bkm bkn : Bool) (ix bk : LL) (v : Int) (J : Int -> (List (PV × PV)) -> (List (PV × PV)) -> (List PV) -> Prop) (μ : Int -> (List (PV × PV)) -> (List (PV × PV)) -> (List PV) -> Nat)
def zfq (R : LV -> Hp -> Prop) : Prop :=
 kB .i64 ev /\ (∀ (v1 : PV), bO (Z6 v) ev = some v1 -> ∃ n, v1 = Z6 n /\ R (Y6 n) [Ob.box [LV.box 1 0, LV.mp 2, LV.mp 3], Ob.box [Y6 sz, LV.own 4, LV.own 5], Ob.mp kn, Ob.mp ev, Ob.sl (3, 1) ixm ixn ix, Ob.sl (142, 128) bkm bkn bk]) /\ (bO (Z6 v) ev = none -> (SameSt ([(0, LV.box 0 0), (1, Y6 v), (7, LV.box 6 0), (20, Y6 0)], [Ob.box [LV.box 1 0, LV.mp 2, LV.mp 3], Ob.box [Y6 sz, LV.own 4, LV.own 5], Ob.mp kn, Ob.mp ev, Ob.sl (3, 1) (bif false then true else ixm) ixn ix, Ob.sl (142, (128 : Nat)) (bif false then true else bkm) bkn bk, Ob.arr (qc 128 (Z6 0))]) (yN sz ixm ixn bkm bkn ix bk v (0 : Int) kn ev (qc 128 (Z6 0))) /\ J (0 : Int) kn ev (qc 128 (Z6 0))) /\ ∀ (x20 : Int) (m_2 m_3 : List (PV × PV)) (c_6 : List PV), J x20 m_2 m_3 c_6 -> if decide (x20 < 128) = true then ((0 : Int) <= x20 /\ x20 < (↑128 : Int)) /\ (1 = 1 /\ 0 + x20.toNat * 1 + 1 <= c_6.length) /\ SameSt ([(0, LV.box 0 0), (1, Y6 v), (7, LV.box 6 0), (20, LV.pv (Z6 (i64.wrap (x20 + 1))))], [Ob.box [LV.box 1 0, LV.mp 2, LV.mp 3], Ob.box [Y6 sz, LV.own 4, LV.own 5], Ob.mp m_2, Ob.mp m_3, Ob.sl (3, 1) (bif false then true else ixm) ixn ix, Ob.sl (142, 128) (bif false then true else bkm) bkn bk, Ob.arr (aO c_6 (0 + x20.toNat * 1) [Z6 v])]) (yN sz ixm ixn bkm bkn ix bk v (i64.wrap (x20 + 1)) m_2 m_3 (aO c_6 (0 + x20.toNat * 1) [Z6 v])) /\ J (i64.wrap (x20 + 1)) m_2 m_3 (aO c_6 (0 + x20.toNat * 1) [Z6 v]) /\ μ (i64.wrap (x20 + 1)) m_2 m_3 (aO c_6 (0 + x20.toNat * 1) [Z6 v]) < μ x20 m_2 m_3 c_6 else 128 <= (qb 0 c_6).length /\ ACall qa 63 [LV.box 0 0, LV.pv (PV.agg (qe 128 (qb 0 c_6)))] [Ob.box [LV.box 1 0, LV.mp 2, LV.mp 3], Ob.box [Y6 sz, LV.own 4, LV.own 5], Ob.mp m_2, Ob.mp m_3, Ob.sl (3, 1) false ixn ix, Ob.sl (142, 128) false bkn bk] fun (r : LV) (h' : Hp) => ∃ (t : Int × List (PV × PV) × Bool × LL), (r = Y6 t.1 /\ h' = [Ob.box [LV.box 1 0, LV.mp 2, LV.mp 3], Ob.box [Y6 sz, LV.own 4, LV.own 5], Ob.mp t.snd.fst, Ob.mp m_3, Ob.sl (3, 1) false ixn ix, Ob.sl (142, (128 : Nat)) true t.snd.snd.fst t.snd.snd.snd]) /\ (True /\ ((3, 1) = (3, 1) /\ ixn = ixn /\ ix.length = ix.length) /\ True /\ True /\ True /\ True /\ True) /\ kB .i64 m_3 /\ R (Y6 t.1) [Ob.box [LV.box 1 0, LV.mp 2, LV.mp 3], Ob.box [Y6 sz, LV.own 4, LV.own 5], Ob.mp t.snd.fst, Ob.mp (bA (Z6 v) (Z6 t.1) m_3), Ob.sl (3, 1) (ixm || false) ixn ix, Ob.sl (142, 128) (bkm || true) t.snd.snd.fst t.snd.snd.snd])
theorem zof {R : LV -> Hp -> Prop} (h : zfq sz kn ev ixm ixn bkm bkn ix bk v J μ R) : ACall qa 62 [.box 0 0, .pv (.int .i64 v)] [.box [.box 1 0, .mp 2, .mp 3], .box [.pv (.int .i64 sz), .own 4, .own 5], .mp kn, .mp ev, .sl (3, 1) ixm ixn ix, .sl (142, 128) bkm bkn bk] R :=
 ACall.wz Try.func62 (fun zz_ => match zz_ with | 63 => some ⟨Int × List (PV × PV) × Bool × LL, fun _ hs t => (.pv (.int .i64 t.1), match hs with | [m, r, .mp _, ev, ix, .sl a _ _ _] => [m, r, .mp t.2.1, ev, ix, .sl a true t.2.2.1 t.2.2.2] | h => h), none⟩ | _ => none) [0, 1, 4, 5, 6, 7, 8, 19, 20, 21] (dB 5 (bF iO (yN sz ixm ixn bkm bkn ix bk v) J μ (fun e h => (gI e 20, oM h 2, oM h 3, oA h 6)) [] [0, 1, 7, 20] [])) [0,1,2,3,4,5] h
end
def yO (sz z : Int) (n f : Bool) (es : LL) (x9 x10 x11 : Int) (n_2 : Bool) (s_2 : LL) (n_3 : Bool) (s_3 : LL) (m_4 : List (PV × PV)) (m_5 : List (PV × PV)) : Env × Hp := ([(0, Y6 sz), (1, Y6 z), (2, LV.pv (PV.sl n f es)), (7, LV.box 0 0), (8, LV.box 1 0), (9, Y6 x9), (10, Y6 x10), (11, Y6 x11)], [.box [Y6 sz, LV.own 2, LV.own 3], .box [LV.box 0 0, LV.mp 4, LV.mp 5], .sl (3, 1) true n_2 s_2, .sl (142, 128) true n_3 s_3, .mp m_4, .mp m_5])
def p9 (sz z : Int) (n f : Bool) (es : LL) (x9 x10 x11 x13 : Int) (n_2 : Bool) (s_2 : LL) (n_3 : Bool) (s_3 : LL) (m_4 : List (PV × PV)) (m_5 : List (PV × PV)) : Env × Hp := ([(0, Y6 sz), (1, Y6 z), (2, LV.pv (PV.sl n f es)), (7, LV.box 0 0), (8, LV.box 1 0), (9, Y6 x9), (10, Y6 x10), (11, Y6 x11), (13, Y6 x13)], [.box [Y6 sz, LV.own 2, LV.own 3], .box [LV.box 0 0, LV.mp 4, LV.mp 5], .sl (3, 1) true n_2 s_2, .sl (142, 128) true n_3 s_3, .mp m_4, .mp m_5])
def qA (sz z : Int) (n f : Bool) (es : LL) (x9 x10 x11 x88 : Int) (c_2 : List PV) (n_3 : Bool) (s_3 : LL) (n_4 : Bool) (s_4 : LL) (m_5 : List (PV × PV)) (m_6 : List (PV × PV)) : Env × Hp := ([(0, Y6 sz), (1, Y6 z), (2, LV.pv (PV.sl n f es)), (7, LV.box 0 0), (8, LV.box 1 0), (9, Y6 x9), (10, Y6 x10), (11, Y6 x11), (14, LV.box 2 0), (88, Y6 x88)], [.box [Y6 sz, LV.own 3, LV.own 4], .box [LV.box 0 0, LV.mp 5, LV.mp 6], .arr c_2, .sl (3, 1) true n_3 s_3, .sl (142, 128) true n_4 s_4, .mp m_5, .mp m_6])
section
variable (sz z : Int) (n f : Bool) (es : LL) (J : Int -> Int -> Int -> Bool -> LL -> Bool -> LL -> (List (PV × PV)) -> (List (PV × PV)) -> Prop) (μ : Int -> Int -> Int -> Bool -> LL -> Bool -> LL -> (List (PV × PV)) -> (List (PV × PV)) -> Nat) (J2 : Int -> Int -> Int -> Int -> Bool -> LL -> Bool -> LL -> (List (PV × PV)) -> (List (PV × PV)) -> Int -> Int -> Int -> Int -> Bool -> LL -> Bool -> LL -> (List (PV × PV)) -> (List (PV × PV)) -> Prop) (μ2 : Int -> Int -> Int -> Int -> Bool -> LL -> Bool -> LL -> (List (PV × PV)) -> (List (PV × PV)) -> Nat) (J3 : Int -> Int -> Int -> Int -> (List PV) -> Bool -> LL -> Bool -> LL -> (List (PV × PV)) -> (List (PV × PV)) -> Int -> Int -> Int -> Int -> (List PV) -> Bool -> LL -> Bool -> LL -> (List (PV × PV)) -> (List (PV × PV)) -> Prop) (μ3 : Int -> Int -> Int -> Int -> (List PV) -> Bool -> LL -> Bool -> LL -> (List (PV × PV)) -> (List (PV × PV)) -> Nat)
def zfr (R : PV -> Prop) : Prop :=
 if decide (sz < 1) = true then R PV.nilp else PCall qa 61 [PV.sl n f es, Z6 z, Z6 0, Z6 (i64.wrap (sz - 1))] fun v => ∃ vs, v = PV.tup vs /\ vs.length = (2 : Nat) /\ ∃ x, vs.head? = some x /\ ∃ (n1 :
  Int), x = Z6 n1 /\ ∃ x1, vs.tail.head? = some x1 /\ ∃ n2, x1 = Z6 n2 /\ (aF (yO sz z n f es n1 n2 (0 : Int) true [] true [] [] []) /\ J n1 n2 (0 : Int) true [] true [] [] []) /\ ∀ (x9 x10 x11 : Int) (n_2 : Bool) (s_2 :
  LL) (n_3 : Bool) (s_3 : LL) (m_4 m_5 : List (PV × PV)), J x9 x10 x11 n_2 s_2 n_3 s_3 m_4 m_5 ->
 let K7 := fun (y0_ y1_ y2_ : Int) (y3_ : Bool) (y4_ : LL) (y5_ : Bool) (y6_ : LL) (y7_ : List (PV × PV)) (y8_ : List (PV × PV)) => aF (yO sz z n f es y0_ y1_ y2_ y3_ y4_ y5_ y6_ y7_ y8_) /\ J y0_ y1_ y2_ y3_ y4_ y5_
  y6_ y7_ y8_ /\ μ y0_ y1_ y2_ y3_ y4_ y5_ y6_ y7_ y8_ < μ x9 x10 x11 n_2 s_2 n_3 s_3 m_4 m_5; if decide (x11 < sz) = true then if decide (x11 > x10) = true then PCall qa 61 [PV.sl n f es, Z6 z, Z6 x11, Z6 (i64.wrap (sz - 1))]
  fun v1 => ∃ vs1, v1 = PV.tup vs1 /\ vs1.length = 2 /\ ∃ x2, vs1.head? = some x2 /\ ∃ n3, x2 = Z6 n3 /\ ∃ x3, vs1.tail.head? = some x3 /\ ∃ n4, x3 = Z6 n4 /\ if decide (n4 >= i64.wrap ((if
  sz < i64.wrap (x11 + 128) then sz else i64.wrap (x11 + 128)) - 1)) = true then ACall qa 62 [LV.box 0 0, Y6 n3] [Ob.box [LV.box 1 0, LV.mp 2, LV.mp 3], Ob.box [Y6 sz, LV.own 4, LV.own 5], Ob.mp m_4, Ob.mp m_5, Ob.sl
  (3, 1) false n_2 s_2, Ob.sl (142, 128) false n_3 s_3] fun (r : LV) (h' : Hp) => ∃ (t : Int × List (PV × PV) × List (PV × PV) × Bool × LL), (r = Y6 t.1 /\ h' = [Ob.box [LV.box 1 0, LV.mp 2, LV.mp 3], Ob.box [Y6 sz, LV.own 4, LV.own 5],
  Ob.mp t.snd.fst, Ob.mp t.snd.snd.fst, Ob.sl (3, 1) false n_2 s_2, Ob.sl (142, 128) true t.snd.snd.snd.fst t.snd.snd.snd.snd]) /\ (True /\ ((3, 1) = (3, 1) /\ n_2 = n_2 /\ s_2.length = s_2.length) /\ True /\ True /\ True /\ True /\ True) /\ (aF
  (p9 sz z n f es n3 n4 x11 t.1 n_2 s_2 t.snd.snd.snd.fst t.snd.snd.snd.snd t.snd.fst t.snd.snd.fst) /\ J2 n3 n4 x11 t.1 n_2 s_2 t.snd.snd.snd.fst t.snd.snd.snd.snd t.snd.fst t.snd.snd.fst n3 n4 x11 t.1 n_2 s_2 t.snd.snd.snd.fst
  t.snd.snd.snd.snd t.snd.fst t.snd.snd.fst) /\ ∀ (x91 x101 x111 x13 : Int) (n_21 : Bool) (s_21 : LL) (n_31 : Bool) (s_31 : LL) (m_41 m_51 : List (PV × PV)), J2 n3 n4 x11 t.1 n_2 s_2 t.snd.snd.snd.fst t.snd.snd.snd.snd t.snd.fst
  t.snd.snd.fst x91 x101 x111 x13 n_21 s_21 n_31 s_31 m_41 m_51 -> if (decide (x111 < sz) && decide (x101 >= i64.wrap ((if sz < i64.wrap (x111 + 128) then sz else i64.wrap (x111 + 128)) - 1))) = true then (aS [[Z6
  x13]] 1 /\ (s_21.length + 1) * 8 <= 140737488355328) /\ aF (p9 sz z n f es x91 x101 (i64.wrap (x111 + 128)) x13 (n_21 && false) (s_21 ++ [[Z6 x13]]) n_31 s_31 m_41 m_51) /\ J2 n3 n4 x11 t.1 n_2 s_2 t.snd.snd.snd.fst
  t.snd.snd.snd.snd t.snd.fst t.snd.snd.fst x91 x101 (i64.wrap (x111 + 128)) x13 (n_21 && false) (s_21 ++ [[Z6 x13]]) n_31 s_31 m_41 m_51 /\ μ2 x91 x101 (i64.wrap (x111 + 128)) x13 (n_21 && false) (s_21 ++ [[Z6 x13]]) n_31
  s_31 m_41 m_51 < μ2 x91 x101 x111 x13 n_21 s_21 n_31 s_31 m_41 m_51 else K7 x91 x101 (i64.wrap (i64.wrap (x111 - 128) + 128)) n_21 s_21 n_31 s_31 m_41 m_51 else (aF (qA sz z n f es n3 n4 x11 (0 : Int)
  (qc 128 (Z6 0)) n_2 s_2 n_3 s_3 m_4 m_5) /\ J3 n3 n4 x11 (0 : Int) (qc 128 (Z6 0)) n_2 s_2 n_3 s_3 m_4 m_5 n3 n4 x11 (0 : Int) (qc 128 (Z6 0)) n_2 s_2 n_3 s_3 m_4 m_5) /\ ∀ (x91 x101 x111 x88 : Int) (c_2
  : List PV) (n_31 : Bool) (s_31 : LL) (n_4 : Bool) (s_4 : LL) (m_51 m_6 : List (PV × PV)), J3 n3 n4 x11 (0 : Int) (qc 128 (Z6 0)) n_2 s_2 n_3 s_3 m_4 m_5 x91 x101 x111 x88 c_2 n_31 s_31 n_4 s_4 m_51 m_6 ->
 let K20 := fun (y0_ y1_ y2_ y3_ : Int) (y4_ : List PV) (y5_ : Bool) (y6_ : LL) (y7_ : Bool) (y8_ : LL) (y9_ : List (PV × PV)) (y10_ : List (PV × PV)) => aF (qA sz z n f es y0_ y1_ y2_ y3_ y4_ y5_ y6_ y7_ y8_
  y9_ y10_) /\ J3 n3 n4 x11 (0 : Int) (qc 128 (Z6 0)) n_2 s_2 n_3 s_3 m_4 m_5 y0_ y1_ y2_ y3_ y4_ y5_ y6_ y7_ y8_ y9_ y10_ /\ μ3 y0_ y1_ y2_ y3_ y4_ y5_ y6_ y7_ y8_ y9_ y10_ < μ3 x91 x101 x111 x88 c_2 n_31 s_31 n_4 s_4 m_51 m_6;
  if decide (x88 < 128) = true then if (decide (i64.wrap (x111 + x88) > x101) && decide (i64.wrap (x111 + x88) < sz)) = true then PCall qa 61 [PV.sl n f es, Z6 z, Z6 (i64.wrap (x111 + x88)), Z6
  (i64.wrap (sz - 1))] fun v2 => ∃ vs2, v2 = PV.tup vs2 /\ vs2.length = 2 /\ ∃ x4, vs2.head? = some x4 /\ ∃ n5, x4 = Z6 n5 /\ ∃ x5, vs2.tail.head? = some x5 /\ ∃ n6, x5 = Z6 n6 /\ ((0 :
  Int) <= x88 /\ x88 < (↑128 : Int)) /\ (1 = 1 /\ 0 + x88.toNat * 1 + 1 <= c_2.length) /\ K20 n5 n6 x111 (i64.wrap (x88 + 1)) (aO c_2 (0 + x88.toNat * 1) [Z6 n5]) n_31 s_31 n_4 s_4 m_51 m_6 else ((0 : Int) <= x88 /\ x88 < (↑128 : Int)) /\
  (1 = 1 /\ 0 + x88.toNat * 1 + 1 <= c_2.length) /\ K20 x91 x101 x111 (i64.wrap (x88 + 1)) (aO c_2 (0 + x88.toNat * 1) [Z6 x91]) n_31 s_31 n_4 s_4 m_51 m_6 else 128 <= (qb 0 c_2).length /\
 let V1 := ACall qa 63 [LV.box 0 0, LV.pv (PV.agg (qe 128 (qb 0 c_2)))] [Ob.box [LV.box 1 0, LV.mp 2, LV.mp 3], Ob.box [Y6 sz, LV.own 4, LV.own 5], Ob.mp m_51, Ob.mp m_6, Ob.sl (3, 1) false n_31 s_31, Ob.sl (142, 128)
  false n_4 s_4] fun (r : LV) (h' : Hp) => ∃ (t : Int × List (PV × PV) × Bool × LL), (r = Y6 t.1 /\ h' = [Ob.box [LV.box 1 0, LV.mp 2, LV.mp 3], Ob.box [Y6 sz, LV.own 4, LV.own 5], Ob.mp t.snd.fst, Ob.mp m_6, Ob.sl (3, 1) false n_31 s_31,
  Ob.sl (142, 128) true t.snd.snd.fst t.snd.snd.snd]) /\ (True /\ ((3, 1) = (3, 1) /\ n_31 = n_31 /\ s_31.length = s_31.length) /\ True /\ True /\ True /\ True /\ True) /\ (aS [[Z6 t.1]] 1 /\ (s_31.length + 1) * 8 <= 140737488355328) /\ K7 x91 x101
  (i64.wrap (x111 + 128)) (n_31 && false) (s_31 ++ [[Z6 t.1]]) t.snd.snd.fst t.snd.snd.snd t.snd.fst m_6; V1 /\ V1 else if decide (x10 >= i64.wrap ((if sz < i64.wrap (x11 + 128) then sz else i64.wrap (x11 +
  128)) - 1)) = true then ACall qa 62 [LV.box 0 0, Y6 x9] [Ob.box [LV.box 1 0, LV.mp 2, LV.mp 3], Ob.box [Y6 sz, LV.own 4, LV.own 5], Ob.mp m_4, Ob.mp m_5, Ob.sl (3, 1) false n_2 s_2, Ob.sl (142, 128) false n_3 s_3] fun (r : LV) (h'
  : Hp) => ∃ (t : Int × List (PV × PV) × List (PV × PV) × Bool × LL), (r = Y6 t.1 /\ h' = [Ob.box [LV.box 1 0, LV.mp 2, LV.mp 3], Ob.box [Y6 sz, LV.own 4, LV.own 5], Ob.mp t.snd.fst, Ob.mp t.snd.snd.fst, Ob.sl (3, 1) false n_2 s_2, Ob.sl
  (142, 128) true t.snd.snd.snd.fst t.snd.snd.snd.snd]) /\ (True /\ ((3, 1) = (3, 1) /\ n_2 = n_2 /\ s_2.length = s_2.length) /\ True /\ True /\ True /\ True /\ True) /\ (aF (p9 sz z n f es x9 x10 x11 t.1 n_2 s_2 t.snd.snd.snd.fst
  t.snd.snd.snd.snd t.snd.fst t.snd.snd.fst) /\ J2 x9 x10 x11 t.1 n_2 s_2 t.snd.snd.snd.fst t.snd.snd.snd.snd t.snd.fst t.snd.snd.fst x9 x10 x11 t.1 n_2 s_2 t.snd.snd.snd.fst t.snd.snd.snd.snd t.snd.fst t.snd.snd.fst) /\ ∀ (x91 x101 x111 x13
  : Int) (n_21 : Bool) (s_21 : LL) (n_31 : Bool) (s_31 : LL) (m_41 m_51 : List (PV × PV)), J2 x9 x10 x11 t.1 n_2 s_2 t.snd.snd.snd.fst t.snd.snd.snd.snd t.snd.fst t.snd.snd.fst x91 x101 x111 x13 n_21 s_21 n_31 s_31 m_41 m_51 -> if (decide
  (x111 < sz) && decide (x101 >= i64.wrap ((if sz < i64.wrap (x111 + 128) then sz else i64.wrap (x111 + 128)) - 1))) = true then (aS [[Z6 x13]] 1 /\ (s_21.length + 1) * 8 <= 140737488355328) /\ aF (p9 sz z n f
  es x91 x101 (i64.wrap (x111 + 128)) x13 (n_21 && false) (s_21 ++ [[Z6 x13]]) n_31 s_31 m_41 m_51) /\ J2 x9 x10 x11 t.1 n_2 s_2 t.snd.snd.snd.fst t.snd.snd.snd.snd t.snd.fst t.snd.snd.fst x91 x101 (i64.wrap (x111 + 128))
  x13 (n_21 && false) (s_21 ++ [[Z6 x13]]) n_31 s_31 m_41 m_51 /\ μ2 x91 x101 (i64.wrap (x111 + 128)) x13 (n_21 && false) (s_21 ++ [[Z6 x13]]) n_31 s_31 m_41 m_51 < μ2 x91 x101 x111 x13 n_21 s_21 n_31 s_31 m_41 m_51 else K7 x91 x101
  (i64.wrap (i64.wrap (x111 - 128) + 128)) n_21 s_21 n_31 s_31 m_41 m_51 else (aF (qA sz z n f es x9 x10 x11 (0 : Int) (qc 128 (Z6 0)) n_2 s_2 n_3 s_3 m_4 m_5) /\ J3 x9 x10 x11 (0 : Int) (qc
  128 (Z6 0)) n_2 s_2 n_3 s_3 m_4 m_5 x9 x10 x11 (0 : Int) (qc 128 (Z6 0)) n_2 s_2 n_3 s_3 m_4 m_5) /\ ∀ (x91 x101 x111 x88 : Int) (c_2 : List PV) (n_31 : Bool) (s_31 : LL) (n_4 : Bool) (s_4 : LL) (m_51 m_6 : List (PV × PV)), J3
  x9 x10 x11 (0 : Int) (qc 128 (Z6 0)) n_2 s_2 n_3 s_3 m_4 m_5 x91 x101 x111 x88 c_2 n_31 s_31 n_4 s_4 m_51 m_6 ->
 let K20 := fun (y0_ y1_ y2_ y3_ : Int) (y4_ : List PV) (y5_ : Bool) (y6_ : LL) (y7_ : Bool) (y8_ : LL) (y9_ : List (PV × PV)) (y10_ : List (PV × PV)) => aF (qA sz z n f es y0_ y1_ y2_ y3_ y4_ y5_ y6_ y7_ y8_
  y9_ y10_) /\ J3 x9 x10 x11 (0 : Int) (qc 128 (Z6 0)) n_2 s_2 n_3 s_3 m_4 m_5 y0_ y1_ y2_ y3_ y4_ y5_ y6_ y7_ y8_ y9_ y10_ /\ μ3 y0_ y1_ y2_ y3_ y4_ y5_ y6_ y7_ y8_ y9_ y10_ < μ3 x91 x101 x111 x88 c_2 n_31 s_31 n_4 s_4 m_51 m_6;
  if decide (x88 < 128) = true then if (decide (i64.wrap (x111 + x88) > x101) && decide (i64.wrap (x111 + x88) < sz)) = true then PCall qa 61 [PV.sl n f es, Z6 z, Z6 (i64.wrap (x111 + x88)), Z6
  (i64.wrap (sz - 1))] fun v1 => ∃ vs1, v1 = PV.tup vs1 /\ vs1.length = 2 /\ ∃ x2, vs1.head? = some x2 /\ ∃ n3, x2 = Z6 n3 /\ ∃ x3, vs1.tail.head? = some x3 /\ ∃ n4, x3 = Z6 n4 /\ ((0 :
  Int) <= x88 /\ x88 < (↑128 : Int)) /\ (1 = 1 /\ 0 + x88.toNat * 1 + 1 <= c_2.length) /\ K20 n3 n4 x111 (i64.wrap (x88 + 1)) (aO c_2 (0 + x88.toNat * 1) [Z6 n3]) n_31 s_31 n_4 s_4 m_51 m_6 else ((0 : Int) <= x88 /\ x88 < (↑128 : Int)) /\
  (1 = 1 /\ 0 + x88.toNat * 1 + 1 <= c_2.length) /\ K20 x91 x101 x111 (i64.wrap (x88 + 1)) (aO c_2 (0 + x88.toNat * 1) [Z6 x91]) n_31 s_31 n_4 s_4 m_51 m_6 else 128 <= (qb 0 c_2).length /\
 let V2 := ACall qa 63 [LV.box 0 0, LV.pv (PV.agg (qe 128 (qb 0 c_2)))] [Ob.box [LV.box 1 0, LV.mp 2, LV.mp 3], Ob.box [Y6 sz, LV.own 4, LV.own 5], Ob.mp m_51, Ob.mp m_6, Ob.sl (3, 1) false n_31 s_31, Ob.sl (142, 128)
  false n_4 s_4] fun (r : LV) (h' : Hp) => ∃ (t : Int × List (PV × PV) × Bool × LL), (r = Y6 t.1 /\ h' = [Ob.box [LV.box 1 0, LV.mp 2, LV.mp 3], Ob.box [Y6 sz, LV.own 4, LV.own 5], Ob.mp t.snd.fst, Ob.mp m_6, Ob.sl (3, 1) false n_31 s_31,
  Ob.sl (142, 128) true t.snd.snd.fst t.snd.snd.snd]) /\ (True /\ ((3, 1) = (3, 1) /\ n_31 = n_31 /\ s_31.length = s_31.length) /\ True /\ True /\ True /\ True /\ True) /\ (aS [[Z6 t.1]] 1 /\ (s_31.length + 1) * 8 <= 140737488355328) /\ K7 x91 x101
  (i64.wrap (x111 + 128)) (n_31 && false) (s_31 ++ [[Z6 t.1]]) t.snd.snd.fst t.snd.snd.snd t.snd.fst m_6; V2 /\ V2 else R (PV.ptr [Z6 sz, PV.sl n_2 false s_2, PV.sl n_3 false s_3])
theorem zog {R : PV -> Prop} (h : zfr sz z n f es J μ J2 μ2 J3 μ3 R) : PCall qa 41 [.int .i64 sz, .int .i64 z, .sl n f es] R :=
 PCall.wz Try.func41 (fun zz_ => match zz_ with | 63 => some ⟨Int × List (PV × PV) × Bool × LL, fun _ hs t => (.pv (.int .i64 t.1), match hs with | [m, r, .mp _, ev, ix, .sl a _ _ _] => [m, r, .mp t.2.1, ev, ix, .sl a true t.2.2.1 t.2.2.2] | h => h), none⟩ | 62 => some ⟨Int × List (PV × PV) × List (PV × PV) × Bool × LL, fun _ hs t => (.pv (.int .i64 t.1), match hs with | [m, r, .mp _, .mp _, ix, .sl a _ _ _] => [m, r, .mp t.2.1, .mp t.2.2.1, ix, .sl a true t.2.2.2.1 t.2.2.2.2] | h => h), none⟩ | _ => none) [0, 1, 2, 6, 7, 8, 9, 10, 11, 12, 13, 14, 15, 17, 36, 41, 58, 73, 88, 89, 102] (gY [(7, (bF cz9 (yO sz z n f es) J μ (fun e h => (gI e 9, gI e 10, gI e 11, oN h 2, oS h 2, oN h 3, oS h 3, oM h 4, oM h 5)) [(1000001, 3, 1), (1000002, 142, 128)] [0, 1, 2, 7, 8, 9, 10, 11] [])), (14, (gZ (eA kC) (p9 sz z n f es) J2 μ2 (fun e h => (gI e 9, gI e 10, gI e 11, gI e 13, oN h 2, oS h 2, oN h 3, oS h 3, oM h 4, oM h 5)) [] [0, 1, 2, 7, 8, 9, 10, 11, 13] [])), (20, (gZ (eA eF) (qA sz z n f es) J3 μ3 (fun e h => (gI e 9, gI e 10, gI e 11, gI e 88, oA h 2, oN h 3, oS h 3, oN h 4, oS h 4, oM h 5, oM h 6)) [] [0, 1, 2, 7, 8, 9, 10, 11, 14, 88] []))]) h
end
end Go.Eng
namespace Go.Eng
open Go
theorem HRel.markH {w : World} {I : Nat -> Prop} {G : Nat -> Pl} {h : Hp} (n0 : Nat) (mv : List Nat) (hs : HRel w I G h) : HRel w I G (markH n0 mv 0 h) /\ (∀ b, aU (Go.Eng.markH n0 mv 0 h) G b -> aU h G b) /\ Like G G h (Go.Eng.markH n0 mv 0 h) := by
 have hget : ∀ i, (Go.Eng.markH n0 mv 0 h)[i]? = (h[i]?).map (gM n0 mv i) := fun i => by rw [pU, qae]
 have hl : Like G G h (Go.Eng.markH n0 mv 0 h) := fun o ob ho => ⟨⟨_, by rw [hget, ho]; rfl, zds ob⟩, fun _ => rfl⟩
 have split : ∀ {i : Nat} {x : Ob}, (Go.Eng.markH n0 mv 0 h)[i]? = some x -> ∃ ob, h[i]? = some ob /\ x = gM n0 mv i ob := fun {i x} hx => by
  rw [hget] at hx;cases hob : h[i]? with
  | none => rw [hob] at hx; cases hx
  | some ob => rw [hob] at hx; cases hx; exact ⟨ob, rfl, rfl⟩
 refine ⟨⟨fun i x hx => ?_, fun i j x y hx ax hy ay hb => ?_, fun i x hx ax => ?_, hs.cl⟩, fun b ⟨i, x, hx, ax, hb⟩ => ?_, hl⟩
 ·obtain ⟨ob, hob, rfl⟩ := split hx;have := hs.obs i ob hob;cases ob with
  | dead => trivial
  | box cs => obtain ⟨vs, ty, e1, e2, e3⟩ := this; exact ⟨vs, ty, e1, e2, fun k v hv => ⟨(e3 k v hv).1.mono (Keeps.refl w I) hl, (e3 k v hv).2⟩⟩
  | arr cs => exact this
  | sl ty m n es => cases n <;> exact this
  | mp kvs => exact this
  | iter ty rem cur => exact this
 ·obtain ⟨ob, hob, rfl⟩ := split hx;obtain ⟨ob2, hob2, rfl⟩ := split hy;exact hs.sep i j ob ob2 hob (kY.1 ax) hob2 (kY.1 ay) hb
 ·obtain ⟨ob, hob, rfl⟩ := split hx;exact hs.nI i ob hob (kY.1 ax)
 ·obtain ⟨ob, hob, rfl⟩ := split hx;exact ⟨i, ob, hob, kY.1 ax, hb⟩
theorem ACall.mark (n0 : Nat) (mv : List Nat) {P : Program} {f : Nat} {args : List LV} {h : Hp} {R R' : LV -> Hp -> Prop} (hc : ACall P f args h R) (hq : ∀ r h', R r h' -> R' r (markH n0 mv 0 h')) : ACall P f args h R' := by
 refine ⟨hc.1, fun w I G cargs h1 h2 h3 => (hc.2 w I G cargs h1 h2 h3).mono fun e w' ⟨cv, r, h', I', G', e1, e2, e3, e4, e5⟩ => ?_⟩;obtain ⟨m1, m2, m3⟩ := e3.markH n0 mv;refine ⟨cv, r, markH n0 mv 0 h', I', G', e1, hq _ _ e2, m1, e4.mono (Keeps.refl _ _) m3, ⟨e5.1.trans (Tr.less m2), by rw [wH]; exact e5.2, fun o ob' ho hx hf => ?_⟩⟩;rw [pU, qae] at hx;cases hob : h'[o]? with
 | none => rw [hob] at hx; cases hx
 | some ob =>
   rw [hob] at hx; cases hx;refine e5.stay o ob ho hob ?_
   revert hf
   cases ob with
   | sl ty m n es =>
     simp only [gM, Ob.fixed];cases Nat.ble n0 o || d0 o mv <;> simp
   | _ => simp [gM, Ob.fixed]
end Go.Eng
namespace Go.Eng.Trie
open Go Go.Eng
theorem yP {P : Program} : ∀ {ts us : List TypeId} {a b : List PV}, aX P ts a = true -> aX P us b = true -> aX P (ts ++ us) (a ++ b) = true
 | [], _, [], _, _, h => h
 | [], _, _ :: _, _, h, _ => by simp [aX] at h
 | t :: ts, _, [], _, h, _ => by simp [aX] at h
 | t :: ts, us, x :: r, b, h, h2 => by
   cases x with
   | int k a => simp only [aX, qk, qr] at h ⊢; exact ⟨h.1, yP h.2 h2⟩
   | bool a => simp only [aX, qk, qr] at h ⊢; exact ⟨h.1, yP h.2 h2⟩
   | _ => simp [aX] at h
theorem zfs : ∀ {a b c d : List PV}, a.length = b.length -> bK (a ++ c) (b ++ d) = (bK a b && bK c d)
 | [], [], _, _, _ => by simp [bK]
 | [], _ :: _, _, _, h => by simp at h
 | _ :: _, [], _, _, h => by simp at h
 | x :: a, y :: b, c, d, h => by simp only [qr, bK]; rw [zfs (by simpa using h), Bool.and_assoc]
structure Enc {α : Type} [DecidableEq α] (P : Program) (ts : List TypeId) (enc : α -> List PV) : Prop where
 ks : ∀ a, aX P ts (enc a) = true
 inj : ∀ a b, bK (enc a) (enc b) = decide (a = b)
section
variable {α : Type} {P : Program} {ts : List TypeId} {enc : α -> List PV}
def cells (enc : α -> List PV) (b : aN α) : List PV := b.1.flatMap enc
variable [DecidableEq α]
theorem Enc.len (E : Enc P ts enc) (a : α) : (enc a).length = ts.length := vJ (E.ks a)
theorem Enc.keys (E : Enc P ts enc) : ∀ l : List α, aX P (qc l.length ts).flatten (l.flatMap enc) = true
 | [] => rfl
 | a :: l => by
   simp only [qn, qay, List.flatten_cons, qo];exact yP (E.ks a) (E.keys l)
theorem Enc.flen (E : Enc P ts enc) : ∀ l : List α, (l.flatMap enc).length = l.length * ts.length
 | [] => by simp
 | a :: l => by simp only [qo, qak, qn, E.flen l, E.len a, qaa, qbh]; omega
theorem Enc.eqs (E : Enc P ts enc) : ∀ l m : List α, l.length = m.length -> bK (l.flatMap enc) (m.flatMap enc) = decide (l = m)
 | [], [], _ => rfl
 | [], _ :: _, h => by simp at h
 | _ :: _, [], h => by simp at h
 | a :: l, b :: m, h => by
   simp only [qo];rw [zfs (by rw [E.len, E.len]), E.inj, E.eqs l m (by simpa using h)]
   by_cases h1 : a = b <;> by_cases h2 : l = m <;> simp [h1, h2]
theorem Enc.cells_len (E : Enc P ts enc) (b : aN α) : (cells enc b).length = 128 * ts.length := by unfold cells; rw [E.flen, b.2]
theorem Enc.blkEq (E : Enc P ts enc) (a b : aN α) : eR (.agg (cells enc a)) (.agg (cells enc b)) = decide (a = b) := by
 show bK _ _ = _;unfold cells;rw [E.eqs _ _ (by rw [a.2, b.2])];by_cases h : a = b
 ·simp [h]
 ·have : a.1 ≠ b.1 := fun e => h (Subtype.ext e);simp [h, this]
theorem Enc.blkOk (E : Enc P ts enc) {kt : TypeId} (h1 : eB P kt = true) (h2 : fG P kt = (qc 128 ts).flatten) (b : aN α) : aV P kt (.agg (cells enc b)) = true := by
 simp only [aV, h1, h2, qbm];have := E.keys b.1;rw [b.2] at this;exact this
theorem Enc.blksOk (E : Enc P ts enc) {kt : TypeId} (h1 : eB P kt = true) (h2 : fG P kt = (qc 128 ts).flatten) {β : Type} {ev : β -> PV} (M : List (aN α × β)) : bV P kt (bS (fun b => .agg (cells enc b)) ev M) := by
 intro kv h;simp only [bS, qbc] at h;obtain ⟨p, _, rfl⟩ := h;exact E.blkOk h1 h2 _
theorem Enc.valEq (E : Enc P ts enc) (a b : α) : eR (.agg (enc a)) (.agg (enc b)) = decide (a = b) := E.inj a b
theorem Enc.valOk (E : Enc P ts enc) {kt : TypeId} (h1 : eB P kt = true) (h2 : fG P kt = ts) (a : α) : aV P kt (.agg (enc a)) = true := by
 simp only [aV, h1, h2, qbm]; exact E.ks a
theorem Enc.valsOk (E : Enc P ts enc) {kt : TypeId} (h1 : eB P kt = true) (h2 : fG P kt = ts) {β : Type} {ev : β -> PV} (M : List (α × β)) : bV P kt (bS (fun a => .agg (enc a)) ev M) := by
 intro kv h;simp only [bS, qbc] at h;obtain ⟨p, _, rfl⟩ := h;exact E.valOk h1 h2 _
theorem Enc.at (E : Enc P ts enc) : ∀ (l : List α) (j : Nat) (hj : j < l.length), (l.flatMap enc).drop (j * ts.length) = enc l[j] ++ (l.drop (j + 1)).flatMap enc
 | a :: l, 0, _ => by simp
 | a :: l, j + 1, hj => by
   simp only [qo, List.getElem_cons_succ, List.drop_succ_cons];rw [<- E.at l j (by simpa using hj), qao]
   have h1 : (enc a).length <= (j + 1) * ts.length := by rw [E.len, qaa, qbh]; omega
   rw [qq h1, qj, E.len];congr 1;rw [qaa, qbh]; omega
theorem Enc.put (E : Enc P ts enc) (l : List α) (j : Nat) (hj : j < l.length) (v : α) : aO (l.flatMap enc) (j * ts.length) (enc v) = (l.set j v).flatMap enc := by
 have hl : l = l.take j ++ l[j] :: l.drop (j + 1) := by rw [<- qx hj, List.take_append_drop]
 have htl : (l.take j).length = j := by rw [qbi]; omega
 have hset : l.set j v = l.take j ++ v :: l.drop (j + 1) := List.set_eq_take_append_cons_drop.trans (by rw [if_pos hj]);rw [hset];unfold aO
 have e1 : l.flatMap enc = (l.take j).flatMap enc ++ (enc l[j] ++ (l.drop (j + 1)).flatMap enc) := by
  have h := congrArg (fun x : List α => x.flatMap enc) hl;simp only [qaz, qo] at h;exact h
 have l1 : ((l.take j).flatMap enc).length = j * ts.length := by rw [E.flen, htl]
 rw [e1, List.take_append_of_le_length (by omega), qp (by omega), qaz, qo, qbd];congr 2;rw [qao, qq (by omega), qj, l1, E.len, qao, qq (by rw [E.len]; omega), qj, E.len];have : j * ts.length + ts.length - j * ts.length - ts.length = 0 := by omega
 rw [this, qy]
end
def bJ (l : List Int) : List (List PV) := l.map fun n => [.int .i64 n]
theorem kD (l : List Int) : (bJ l).length = l.length := by simp [bJ]
theorem tH (x : Int) : ([PV.int .i64 x] : List PV).length = 1 := rfl
def aY {α : Type} (enc : α -> List PV) (l : List (aN α)) : List (List PV) := l.map (cells enc)
theorem kE {α : Type} {enc : α -> List PV} (l : List (aN α)) : (aY enc l).length = l.length := by simp [aY]
end Go.Eng.Trie
namespace Go.Eng
open Go Go.Proofs Go.Eng.Trie
def encI (n : Int) : List PV := [.int .i64 n]
theorem EI : Enc qa [3] encI := ⟨fun a => by
 simp only [encI, aX, Bool.and_true];rw [show Try.prog.underlying 3 = some (.int .i64) by kernel_rfl]
 rfl, fun a b => by simp [encI, bK, dY]; rfl⟩
def pcI (p : Pc Int) : List PV := [.int .i64 p.fr, .int .i64 p.to] ++ encI p.v
def kF (l : List (Pc Int)) : List (List PV) := l.map pcI
theorem zoh (p : Pc Int) : (pcI p).length = 3 := rfl
theorem zft (l : List (Pc Int)) : (kF l).length = l.length := by simp [kF]
def Pc.ok {α : Type} (p : Pc α) : Prop := (-9223372036854775808 <= p.fr - 1 /\ p.fr - 1 <= 9223372036854775807)
theorem yQ (n f : Bool) (l : List (Pc Int)) (z i last : Int) (hl : l.length < 4611686018427387904) (hok : ∀ p ∈ l, Pc.ok p) :
 PCall qa 61 [.sl n f (kF l), .int .i64 z, .int .i64 i, .int .i64 last] fun v => v = .tup [.int .i64 (findL l z i last).1, .int .i64 (findL l z i last).2] := by
 refine zoc _ _ _ _ _ _ (fun a k => 0 <= k /\ k <= l.length /\ findL l z i last = findL (l.drop k.toNat) z i a) (fun _ k => l.length - k.toNat) ?_;unfold zfn;refine ⟨⟨rfl, qh _, by omega, rfl⟩, ?_⟩;rintro a k ⟨k0, k1, he⟩;refine aG (fun hc => ?_) (fun hc => ?_)
 ·simp only [aB, zft] at hc;have hk : k.toNat < l.length := by omega
  have hw : i64.wrap (k + 1) = k + 1 := aD (by omega) (by omega);have hn : (k + 1).toNat = k.toNat + 1 := by omega
  have hg : (kF l).getD k.toNat [] = pcI l[k.toNat] := cC hk;have hix : aR (kF l) k 3 := cD zoh k0 (by omega);have hm := hok _ (qu hk);rw [drop_cons hk] at he;rw [hw];dsimp only;rw [hn];have hmu : l.length - (k.toNat + 1) < l.length - k.toNat := by omega
  refine ⟨hix, l[k.toNat].fr, by rw [hg]; rfl, l[k.toNat].to, by rw [hg]; rfl, l[k.toNat].v, by rw [hg]; rfl, ?_⟩;generalize l[k.toNat] = p at *;have hw2 : i64.wrap (p.fr - 1) = p.fr - 1 := aD hm.1 hm.2;rw [hw2];rw [yH] at he;by_cases h1 : p.fr <= i
  ·refine bG (by simpa using h1) ?_
   by_cases h2 : i <= p.to
   ·refine bG (by simpa using h2) ?_
    rw [if_pos ⟨h1, h2⟩] at he;rw [he]
   ·refine bI (by simpa using h2) ?_
    rw [if_neg (by omega), if_neg (by omega)] at he;refine bI (by simp; omega) ?_;exact ⟨rfl, ⟨by omega, by omega, he⟩, hmu⟩
  ·refine bI (by simpa using h1) ?_
   rw [if_neg (by omega)] at he;refine bG (by simp; omega) ?_;by_cases h3 : p.fr <= a
   ·refine bG (by simpa using h3) ?_
    rw [if_pos (by omega)] at he;exact ⟨rfl, ⟨by omega, by omega, he⟩, hmu⟩
   ·refine bI (by simpa using h3) ?_
    rw [if_neg (by omega)] at he;exact ⟨rfl, ⟨by omega, by omega, he⟩, hmu⟩
 ·simp only [aB, zft] at hc;rw [qq (by omega)] at he;rw [he]; rfl
def TrieI (sz : Int) (F : Int -> Int) (v : PV) : Prop := ∃ n f n2 f2 idx blk, v = .ptr [.int .i64 sz, .sl n f (bJ idx), .sl n2 f2 (aY encI blk)] /\ TOK sz F idx blk
theorem yR {sz : Int} {F : Int -> Int} {t : PV} (ht : TrieI sz F t) (i : Int) (h1 : sz <= 1114112) : PCall qa 72 [t, .int .i64 i] fun v => v = .int .i64 (if 0 <= i /\ i < sz then F i else 0) := by
 obtain ⟨n, f, n2, f2, idx, blk, rfl, ht⟩ := ht;refine zod _ _ _ _ _ _ _ _ ?_;unfold zfo;refine aG (fun hc => ?_) (fun hc => ?_)
 ·simp only [aB] at hc;rw [if_neg (by omega)]
 ·simp only [aB] at hc;refine ⟨_, rfl, ?_⟩;refine aG (fun hc2 => ?_) (fun hc2 => ?_)
  ·simp only [aB, ge_iff_le] at hc2;rw [if_neg (by omega)]
  ·simp only [aB, ge_iff_le] at hc2;rw [if_pos (by omega)];obtain ⟨hq, g0, hk, hj, he⟩ := ht.get (i := i) (by omega) (by omega);have hw : i64.wrap (i.tdiv 128) = i / 128 := by rw [Int.tdiv_eq_ediv_of_nonneg (by omega)]; exact aD (by omega) (by omega)
   have hm : i.tmod 128 = i % 128 := Int.tmod_eq_emod_of_nonneg (by omega);have hg : (bJ idx).getD (i / 128).toNat [] = [.int .i64 idx[(i / 128).toNat]] := cC hq;have hg2 : (aY encI blk).getD idx[(i / 128).toNat].toNat [] = cells encI blk[idx[(i / 128).toNat].toNat] := cC hk;refine ⟨_, _, _, rfl, _, _, _, rfl, ?_⟩;rw [hw];refine ⟨cD tH (by omega) (by omega), idx[(i / 128).toNat], by rw [hg]; rfl, cD (EI.cells_len) g0 (by omega), by rw [hm]; omega, F i, ?_, rfl⟩;rw [hg2, hm];have := EI.at _ _ hj;simp only [qn, qv] at this;unfold cells;rw [this, he];rfl
def cI (b : aN Int) : List PV := cells encI b
def kvI (k : Int) : PV := .int .i64 k
def eW (kn : List (aN Int × Int)) : List (PV × PV) := bS (fun b => .agg (cI b)) kvI kn
def iA (ev : List (Int × Int)) : List (PV × PV) := bS (fun v => .int .i64 v) kvI ev
def lH (sz : Int) (kn : List (aN Int × Int)) (ev : List (Int × Int)) (ixm ixn bkm bkn : Bool) (idx : List Int) (blk : List (aN Int)) : Hp :=
 [.box [.box 1 0, .mp 2, .mp 3], .box [.pv (.int .i64 sz), .own 4, .own 5], .mp (eW kn), .mp (iA ev), .sl (3, 1) ixm ixn (bJ idx), .sl (142, 128) bkm bkn (aY encI blk)]
theorem mD (b : aN Int) : (cI b).length = 128 := EI.cells_len b
theorem yS (b : aN Int) : qe 128 (qb 0 (cI b)) = cI b := by rw [qy, qp (by rw [mD]; omega)]
theorem zfu : eB qa 142 = true := by kernel_rfl
theorem zfv : fG qa 142 = (qc 128 [3]).flatten := by kernel_rfl
theorem zoi (b : aN Int) (kn : List (aN Int × Int)) : bO (.agg (cI b)) (eW kn) = (bM b kn).map kvI := l8 (ek := fun b => PV.agg (cI b)) (ev := kvI) EI.blkEq b kn
theorem zoj (b : aN Int) (k : Int) (kn : List (aN Int × Int)) : bA (.agg (cI b)) (kvI k) (eW kn) = eW (bQ b k kn) := jE (ek := fun b => PV.agg (cI b)) (ev := kvI) EI.blkEq b k kn
theorem okI (b : aN Int) : aV qa 142 (.agg (cI b)) = true := EI.blkOk zfu zfv b
theorem zfw (kn : List (aN Int × Int)) : bV qa 142 (eW kn) := EI.blksOk zfu zfv kn
theorem zfx {sz : Int} {F : Int -> Int} {idx : List Int} {blk : List (aN Int)} {kn : List (aN Int × Int)} {ev : List (Int × Int)} (hk : TInv sz F idx blk kn ev) (hb : blk.length <= 10000000) (ixn bkn : Bool) (b : aN Int) :
 ACall qa 63 [.box 0 0, .pv (.agg (cI b))] (lH sz kn ev false ixn false bkn idx blk) fun r h' => ∃ k kn' bn' blk', r = .pv (kvI k) /\ h' = lH sz kn' ev false ixn true bn' idx blk' /\ TInv sz F idx blk' kn' ev /\ 0 <= k /\ blk'[k.toNat]? = some b /\ blk'.length <= blk.length + 1 := by
 refine ACall.mark 1000 [5] (R := fun r h' => ∃ k kn' bm' bn' blk', r = .pv (kvI k) /\ h' = lH sz kn' ev false ixn bm' bn' idx blk' /\ TInv sz F idx blk' kn' ev /\ 0 <= k /\ blk'[k.toNat]? = some b /\ blk'.length <= blk.length + 1) ?_ ?_
 ·refine zoe _ _ _ _ _ _ _ _ _ _ ?_;unfold zfp;rw [yS, zoi];have h128 : 128 <= (qb 0 (cI b)).length := by rw [qy, mD]; omega
  refine ⟨h128, zfw kn, okI b, fun v hv => ?_, fun hv => ?_⟩
  ·cases hg : bM b kn with
   | none => rw [hg] at hv; cases hv
   | some k =>
     rw [hg] at hv; cases hv;obtain ⟨k0, k1⟩ := hk.kn_ok b k hg;exact ⟨k, rfl, k, kn, false, bkn, blk, rfl, rfl, hk, k0, k1, by omega⟩
  ·have hsz : aS [cI b] 128 /\ ((aY encI blk).length + 1) * 1024 <= 140737488355328 := ⟨fun e he => by simp at he; subst he; exact mD b, by rw [kE]; omega⟩
   have fin : ∃ k kn' bm' bn' blk', LV.pv (.int .i64 ((aY encI blk).length : Int)) = .pv (kvI k) /\
    [Ob.box [.box 1 0, .mp 2, .mp 3], .box [.pv (.int .i64 sz), .own 4, .own 5], .mp (bA (.agg (cI b)) (.int .i64 ((aY encI blk).length : Int)) (eW kn)), .mp (iA ev), .sl (3, 1) false ixn (bJ idx), .sl (142, 128) true (bkn && false) (aY encI blk ++ [cI b])] = lH sz kn' ev false ixn bm' bn' idx blk' /\ TInv sz F idx blk' kn' ev /\ 0 <= k /\ blk'[k.toNat]? = some b /\ blk'.length <= blk.length + 1 := by
    refine ⟨blk.length, bQ b (blk.length : Int) kn, true, bkn && false, blk ++ [b], by rw [kE]; rfl, ?_, hk.place b, by omega, by simp, by simp⟩;have := zoj b (blk.length : Int) kn;unfold kvI at this;rw [kE, this];simp [lH, aY, cI]
   exact ⟨h128, zfw kn, okI b, h128, ⟨mD b, hsz, fin⟩, mD b, ⟨hsz, fin⟩, hsz, fin⟩
 ·rintro r h' ⟨k, kn', bm', bn', blk', rfl, rfl, h1, h2, h3, h4⟩;exact ⟨k, kn', bn', blk', rfl, rfl, h1, h2, h3, h4⟩
theorem zok (v : Int) (ev : List (Int × Int)) : bO (.int .i64 v) (iA ev) = (bM v ev).map kvI := l8 (ek := fun v => PV.int .i64 v) (ev := kvI) (pZ .i64) v ev
theorem zol (v k : Int) (ev : List (Int × Int)) : bA (.int .i64 v) (kvI k) (iA ev) = iA (bQ v k ev) := jE (ek := fun v => PV.int .i64 v) (ev := kvI) (pZ .i64) v k ev
theorem yT (l : List Int) (j : Nat) (hj : j < l.length) (v : Int) : aO (l.flatMap encI) (0 + j * 1) [.int .i64 v] = (l.set j v).flatMap encI := by
 have := EI.put l j hj v;simp only [qn, qv, qae] at this ⊢;exact this
theorem yU (l : List Int) : (l.flatMap encI).length = l.length := by
 have := EI.flen l;simpa using this
theorem zfy : qc 128 (PV.int .i64 0) = (qc 128 (0 : Int)).flatMap encI := by
 generalize 128 = n
 induction n with
 | zero => rfl
 | succ n ih => simp only [qay, qo, ih]; rfl
theorem zom {l : List Int} {v : Int} (hl : l.length = 128) (h : ∀ q, q < 128 -> l[q]? = some v) : l = qc 128 v := by
 refine List.ext_getElem? fun q => ?_;rcases Nat.lt_or_ge q 128 with hq | hq
 ·rw [h q hq, qaq, if_pos hq]
 ·rw [qab (by omega), qab (by simp; omega)]
theorem zon {sz : Int} {F : Int -> Int} {idx : List Int} {blk : List (aN Int)} {kn : List (aN Int × Int)} {ev : List (Int × Int)} (hk : TInv sz F idx blk kn ev) (hb : blk.length <= 10000000) (ixn bkn : Bool) (v : Int) :
 ACall qa 62 [.box 0 0, .pv (.int .i64 v)] (lH sz kn ev false ixn false bkn idx blk) fun r h' => ∃ k kn' ev' bn' blk', r = .pv (kvI k) /\ h' = lH sz kn' ev' false ixn true bn' idx blk' /\ TInv sz F idx blk' kn' ev' /\ 0 <= k /\ blk'[k.toNat]? = some (rep v) /\ blk'.length <= blk.length + 1 := by
 refine ACall.mark 1000 [5] (R := fun r h' => ∃ k kn' ev' bm' bn' blk', r = .pv (kvI k) /\ h' = lH sz kn' ev' false ixn bm' bn' idx blk' /\ TInv sz F idx blk' kn' ev' /\ 0 <= k /\ blk'[k.toNat]? = some (rep v) /\ blk'.length <= blk.length + 1) ?_ ?_
 ·refine zof _ _ _ _ _ _ _ _ _ _ (fun x m2 m3 c => 0 <= x /\ x <= 128 /\ m2 = eW kn /\ m3 = iA ev /\ ∃ l : List Int, l.length = 128 /\ c = l.flatMap encI /\ ∀ q, q < x.toNat -> l[q]? = some v) (fun x _ _ _ => 128 - x.toNat) ?_;unfold zfq;rw [zok];refine ⟨mA ev, fun u hu => ?_, fun hu => ⟨⟨rfl, qh _, by omega, rfl, rfl, qc 128 0, by simp, zfy, fun q hq => by simp at hq⟩, ?_⟩⟩
  ·cases hg : bM v ev with
   | none => rw [hg] at hu; cases hu
   | some k =>
     rw [hg] at hu; cases hu;obtain ⟨k0, k1⟩ := hk.ev_ok v k hg;exact ⟨k, rfl, k, kn, ev, false, bkn, blk, rfl, rfl, hk, k0, k1, by omega⟩
  ·rintro x _ _ _ ⟨x0, x1, rfl, rfl, l, hl, rfl, hq⟩;refine aG (fun hc => ?_) (fun hc => ?_)
   ·simp only [aB] at hc;have hw : i64.wrap (x + 1) = x + 1 := aD (by omega) (by omega);have hn : (x + 1).toNat = x.toNat + 1 := by omega
    rw [yT l x.toNat (by omega) v, hw, yU];refine ⟨⟨x0, hc⟩, ⟨rfl, by omega⟩, rfl, ⟨by omega, by omega, rfl, rfl, l.set x.toNat v, by simpa using hl, rfl, fun q hq' => ?_⟩, by dsimp only; omega⟩
    rw [hn] at hq';rw [qbg];by_cases e : x.toNat = q
    ·rw [if_pos e, if_pos (by omega)]
    ·rw [if_neg e]; exact hq q (by omega)
   ·simp only [aB] at hc;have hx : x = 128 := by omega
    subst hx;have hrep := zom hl hq;subst hrep;have hcI : (qc 128 v).flatMap encI = cI (rep v) := rfl;rw [hcI, yS];refine ⟨by rw [qy, mD]; omega, ?_⟩;refine (zfx hk hb ixn bkn (rep v)).mono ?_;rintro _ _ ⟨k, kn', bn', blk', rfl, rfl, h1, h2, h3, h4⟩;refine ⟨(k, eW kn', bn', aY encI blk'), ⟨rfl, rfl⟩, ⟨trivial, ⟨rfl, rfl, rfl⟩, trivial, trivial, trivial, trivial, trivial⟩, mA ev, ?_⟩;have := zol v k ev;unfold kvI at this;simp only [this];exact ⟨k, kn', bQ v k ev, _, bn', blk', rfl, rfl, h1.even h2 h3, h2, h3, h4⟩
 ·rintro r h' ⟨k, kn', ev', bm', bn', blk', rfl, rfl, h1, h2, h3, h4⟩;exact ⟨k, kn', ev', bn', blk', rfl, rfl, h1, h2, h3, h4⟩
theorem zoo {α : Type} {v : α} {j : Nat} {u : α} (h : (Trie.rep v).1[j]? = some u) : u = v /\ j < 128 := by
 simp only [Trie.rep, qaq] at h;split at h
 ·rename_i hj; cases h; exact ⟨rfl, hj⟩
 ·cases h
theorem zop (sz z : Int) (n f : Bool) (l : List (Pc Int)) (hl : l.length < 4611686018427387904) (hok : ∀ p ∈ l, Pc.ok p) (hs1 : 1 <= sz) (hs2 : sz <= 1114112) :
 PCall qa 41 [.int .i64 sz, .int .i64 z, .sl n f (kF l)] fun v => TrieI sz (eV l z) v := by
 have hF := fun i => p7 l z i (sz - 1);generalize hFF : eV l z = F at *
 refine zog _ _ _ _ _
  (fun x9 x10 x11 _ s2 _ s3 m4 m5 => ∃ idx blk kn ev, s2 = bJ idx /\ s3 = aY encI blk /\ m4 = eW kn /\ m5 = iA ev /\ TInv sz F idx blk kn ev /\ x11 = 128 * idx.length /\ blk.length <= idx.length /\ x11 < sz + 128 /\ (∀ j, x11 <= j -> j <= x10 -> F j = x9) /\ x10 <= sz - 1)
  (fun _ _ x11 _ _ _ _ _ _ => (sz + 128 - x11).toNat)
  (fun _ _ y11 _ _ _ _ _ _ _ x9 x10 x11 x13 _ s2 _ s3 m4 m5 => ∃ idx blk kn ev, s2 = bJ idx /\ s3 = aY encI blk /\ m4 = eW kn /\ m5 = iA ev /\ TInv sz F idx blk kn ev /\ x11 = 128 * idx.length /\ x11 < sz + 128 /\ (∀ j, x11 <= j -> j <= x10 -> F j = x9) /\ x10 <= sz - 1 /\ 0 <= x13 /\ blk[x13.toNat]? = some (rep x9) /\
   ((x11 = y11 /\ x11 < sz /\ (x11 + 127 <= x10 ∨ sz - 1 <= x10) /\ blk.length <= idx.length + 1) ∨ (y11 + 128 <= x11 /\ blk.length <= idx.length)))
  (fun _ _ x11 _ _ _ _ _ _ _ => (sz + 128 - x11).toNat)
  (fun _ _ y11 _ _ _ _ _ _ _ _ x9 x10 x11 x c _ s3 _ s4 m5 m6 => ∃ idx blk kn ev, s3 = bJ idx /\ s4 = aY encI blk /\ m5 = eW kn /\ m6 = iA ev /\ TInv sz F idx blk kn ev /\ x11 = 128 * idx.length /\ blk.length <= idx.length /\ x11 = y11 /\ x11 < sz /\ 0 <= x /\ x <= 128 /\ x10 <= sz - 1 /\ (∀ j, x11 + x <= j -> j <= x10 -> F j = x9) /\
   ∃ b : List Int, b.length = 128 /\ c = b.flatMap encI /\ ∀ (q : Nat) u, b[q]? = some u -> q < x.toNat -> x11 + q < sz -> u = F (x11 + q))
  (fun _ _ _ x _ _ _ _ _ _ _ => (128 - x).toNat) ?_
 unfold zfr;have hw1 : i64.wrap (sz - 1) = sz - 1 := aD (by omega) (by omega);rw [hw1];refine bI (by simp; omega) ?_;refine (yQ n f l z 0 (sz - 1) hl hok).mono ?_;rintro _ rfl;obtain ⟨_, f2, f3, f4⟩ := hF 0 (by omega);refine ⟨_, rfl, rfl, _, rfl, _, rfl, _, rfl, _, rfl, ⟨rfl, [], [], [], [], rfl, rfl, rfl, rfl, TInv.nil, rfl, Nat.le_refl _, by omega, f4, f3⟩, ?_⟩;clear f2 f3 f4;rintro v0 u0 x _ _ _ _ _ _ ⟨idx, blk, kn, ev, rfl, rfl, rfl, rfl, hk, hx, hb, hx2, hv0, hu0⟩;refine aG (fun hc => ?_) (fun hc => ?_)
 ·simp only [aB] at hc;have hw2 : i64.wrap (x + 128) = x + 128 := aD (by omega) (by omega);rw [hw2]
  have hmin : ∀ a : Int, i64.wrap ((if sz < a + 128 then sz else a + 128) - 1) = (if sz < a + 128 then sz else a + 128) - 1 ∨ ¬ (0 <= a /\ a <= 1114112) := fun a => by
   by_cases ha : 0 <= a /\ a <= 1114112
   ·left; split <;> exact aD (by omega) (by omega)
   ·exact .inr ha
  have hmx := (hmin x).resolve_right (by omega);rw [hmx];refine aG (fun hgt => ?ga) (fun hgt => ?gb)
  case' ga =>
   refine (yQ n f l z x (sz - 1) hl hok).mono ?_;rintro _ rfl;obtain ⟨_, hux, hu, hv⟩ := hF x (by omega);refine ⟨_, rfl, rfl, _, rfl, _, rfl, _, rfl, _, rfl, ?_⟩
   revert hv hu
   generalize (findL l z x (sz - 1)).1 = v;generalize (findL l z x (sz - 1)).2 = u;clear hv0 hu0 hux;intro hu hv
  case' gb =>
   revert hv0 hu0 hgt
   generalize v0 = v;generalize u0 = u;intro hv hu hgt
  all_goals
   clear hgt;refine aG (fun hc2 => ?_) (fun hc2 => ?_)
   ·simp only [aB, ge_iff_le] at hc2;have hc3 : x + 127 <= u ∨ sz - 1 <= u := by split at hc2 <;> omega
    refine (zon hk (by omega) _ _ v).mono ?_;rintro _ _ ⟨k, kn', ev', bn', blk', rfl, rfl, g1, g2, g3, g4⟩;refine ⟨(k, eW kn', iA ev', bn', aY encI blk'), ⟨rfl, rfl⟩, ⟨trivial, ⟨rfl, rfl, rfl⟩, trivial, trivial, trivial, trivial, trivial⟩, ⟨rfl, idx, blk', kn', ev', rfl, rfl, rfl, rfl, g1, hx, hx2, hv, hu, g2, g3, .inl ⟨rfl, hc, hc3, by omega⟩⟩, ?_⟩;rintro w t y k' _ _ _ _ _ _ ⟨idx2, blk2, kn2, ev2, rfl, rfl, rfl, rfl, hk2, hy, hy2, hw, ht, hk0, hkb, hor⟩;have hwy : i64.wrap (y + 128) = y + 128 := aD (by omega) (by omega);rw [hwy, (hmin y).resolve_right (by omega)];refine aG (fun hc4 => ?_) (fun hc4 => ?_)
    ·simp only [qk, aB, ge_iff_le] at hc4;have hc5 : y + 127 <= t ∨ sz - 1 <= t := by have := hc4.2; split at this <;> omega
     refine ⟨⟨fun e he => by simp at he; subst he; rfl, by rw [kD]; omega⟩, rfl, ⟨idx2 ++ [k'], blk2, kn2, ev2, by simp [bJ], rfl, rfl, rfl, hk2.push hk0 hkb fun j u' hj hlt => ?_, by simp; omega, by omega, fun j h1 h2 => hw j (by omega) h2, ht, hk0, hkb, .inr ⟨by omega, by simp; omega⟩⟩, by dsimp only; omega⟩;obtain ⟨rfl, hj2⟩ := zoo hj;exact (hw _ (by omega) (by omega)).symm
    ·have hnot : y + 128 <= y + 128 := qh _;have hw128 : i64.wrap (y - 128) = y - 128 := aD (by omega) (by omega);have hback : i64.wrap (y - 128 + 128) = y := by rw [aD (by omega) (by omega)]; omega
     rw [hw128, hback];simp only [qk, aB, ge_iff_le, not_and] at hc4
     have hor2 : x + 128 <= y /\ blk2.length <= idx2.length := by
      rcases hor with ⟨h1, h2, h3, h4⟩ | h
      ·exfalso;have := hc4 h2;split at this <;> omega
      ·exact h
     exact ⟨rfl, ⟨idx2, blk2, kn2, ev2, rfl, rfl, rfl, rfl, hk2, hy, hor2.2, hy2, hw, ht⟩, by dsimp only; omega⟩
   ·clear hc2;refine ⟨⟨rfl, idx, blk, kn, ev, rfl, rfl, rfl, rfl, hk, hx, hb, rfl, hc, qh _, by omega, hu, fun j h1 h2 => hv j (by omega) h2, qc 128 0, by simp, zfy, fun q u' _ hq _ => by simp at hq⟩, ?_⟩;rintro w t y i _ _ _ _ _ _ _ ⟨idx2, blk2, kn2, ev2, rfl, rfl, rfl, rfl, hk2, hy, hb2, hyx, hy2, i0, i1, ht, hw, b, hbl, rfl, hbq⟩;have hwyi : i64.wrap (y + i) = y + i := aD (by omega) (by omega);have hwi : i64.wrap (i + 1) = i + 1 := aD (by omega) (by omega);have hwy : i64.wrap (y + 128) = y + 128 := aD (by omega) (by omega);rw [hwyi, hwi, hwy]
    have step : ∀ (v' u' : Int), (∀ j, y + i <= j -> j <= u' -> F j = v') -> u' <= sz - 1 -> (y + i < sz -> F (y + i) = v') -> i < 128 ->
     ∃ idx blk kn ev, bJ idx2 = bJ idx /\ aY encI blk2 = aY encI blk /\ eW kn2 = eW kn /\ iA ev2 = iA ev /\ TInv sz F idx blk kn ev /\ y = 128 * idx.length /\ blk.length <= idx.length /\ y = x /\ y < sz /\ 0 <= i + 1 /\ i + 1 <= 128 /\ u' <= sz - 1 /\ (∀ j, y + (i + 1) <= j -> j <= u' -> F j = v') /\
      ∃ c : List Int, c.length = 128 /\ (b.set i.toNat v').flatMap encI = c.flatMap encI /\ ∀ (q : Nat) u, c[q]? = some u -> q < (i + 1).toNat -> y + q < sz -> u = F (y + q) := fun v' u' h1 h2 h3 h4 => by
     refine ⟨idx2, blk2, kn2, ev2, rfl, rfl, rfl, rfl, hk2, hy, hb2, hyx, hy2, by omega, by omega, h2, fun j a1 a2 => h1 j (by omega) a2, b.set i.toNat v', by simpa using hbl, rfl, fun q u hq hq2 hq3 => ?_⟩
     rw [qbg] at hq;by_cases e : i.toNat = q
     ·rw [if_pos e, if_pos (by omega)] at hq;cases hq;have e2 : y + (q : Int) = y + i := by omega
      rw [e2];exact (h3 (by omega)).symm
     ·rw [if_neg e] at hq;exact hbq q u hq (by omega) hq3
    refine aG (fun hc5 => ?_) (fun hc5 => ?_)
    ·simp only [aB] at hc5;refine aG (fun hc6 => ?_) (fun hc6 => ?_)
     ·simp only [qk, aB, gt_iff_lt] at hc6;refine (yQ n f l z (y + i) (sz - 1) hl hok).mono ?_;rintro _ rfl;obtain ⟨q1, q2, q3, q4⟩ := hF (y + i) (by omega);refine ⟨_, rfl, rfl, _, rfl, _, rfl, _, rfl, _, rfl, ⟨i0, hc5⟩, ⟨rfl, by rw [yU]; omega⟩, rfl, ?_, by dsimp only; omega⟩;rw [yT b i.toNat (by omega)];exact step _ _ q4 q3 (fun _ => q1.symm) hc5
     ·simp only [qk, aB, gt_iff_lt, not_and] at hc6;refine ⟨⟨i0, hc5⟩, ⟨rfl, by rw [yU]; omega⟩, rfl, ?_, by dsimp only; omega⟩;rw [yT b i.toNat (by omega)];exact step _ _ hw ht (fun h => hw (y + i) (qh _) ((Int.lt_or_le t (y + i)).elim (fun h2 => absurd h (hc6 h2)) id)) hc5
    ·simp only [aB] at hc5;have hi : i = 128 := by omega
     subst hi;obtain ⟨B, hB⟩ : ∃ B : aN Int, B.1 = b := ⟨⟨b, hbl⟩, rfl⟩;subst hB;have hcI : B.1.flatMap encI = cI B := rfl;rw [hcI, yS];refine ⟨by rw [qy, mD]; omega, (fun h => ⟨h, h⟩) ?_⟩;refine (zfx hk2 (by omega) _ _ B).mono ?_;rintro _ _ ⟨k, kn', bn', blk', rfl, rfl, h1, h2, h3, h4⟩;refine ⟨(k, eW kn', bn', aY encI blk'), ⟨rfl, rfl⟩, ⟨trivial, ⟨rfl, rfl, rfl⟩, trivial, trivial, trivial, trivial, trivial⟩, ⟨fun e he => by simp at he; subst he; rfl, by rw [kD]; omega⟩, rfl, ⟨idx2 ++ [k], blk', kn', ev2, by simp [bJ, kvI], rfl, rfl, rfl, h1.push h2 h3 fun j u' hj hlt => ?_, by simp; omega, by simp; omega, by omega, fun j a1 a2 => hw j (by omega) a2, ht⟩, by dsimp only; omega⟩;have hj2 : j < 128 := by have := (List.getElem?_eq_some_iff.1 hj).1; simp only [hbl] at this; exact this
     rw [<- hy];exact hbq j u' hj (by omega) (by omega)
 ·simp only [aB] at hc;exact ⟨_, _, _, _, idx, blk, rfl, by omega, hk.idx_ok⟩
end Go.Eng
namespace Go.Eng
open Go Go.Proofs
def yV (n f : Bool) (es : LL) (za zb zc zd : Bool) (i x3 x14 : Int) (h1_0 h1_1 h1_2 h1_3 : Bool) : Env × Hp := ([(2, Y6 i), (3, Y6 x3), (5, LV.box 0 0), (8, LV.box 1 0), (12, LV.pv (PV.sl n f es)), (13, LV.pv (PV.int i64 (es.length : Int))), (14, Y6 x14)], [.box [LV.pv (PV.bool za), LV.pv (PV.bool zb), LV.pv (PV.bool zc), LV.pv (PV.bool zd)], .box [.pv (.bool h1_0), .pv (.bool h1_1), .pv (.bool h1_2), .pv (.bool h1_3)]])
section
variable (n f : Bool) (es : LL) (za zb zc zd : Bool) (i last : Int) (J : Int -> Int -> Bool -> Bool -> Bool -> Bool -> Prop) (μ : Int -> Int -> Bool -> Bool -> Bool -> Bool -> Nat)
def zfz (R : PV -> Prop) : Prop :=
 (aF (yV n f es za zb zc zd i last (0 : Int) false false false false) /\ J last (0 : Int) false false false false) /\ ∀ (x3 x14 : Int) (h1_0 h1_1 h1_2 h1_3 : Bool), J x3 x14 h1_0 h1_1 h1_2 h1_3 ->
 let K2 := fun (y0_ y1_ : Int) (y2_ y3_ y4_ y5_ : Bool) => aF (yV n f es za zb zc zd i y0_ y1_ y2_ y3_ y4_ y5_) /\ J y0_ y1_ y2_ y3_ y4_ y5_ /\ μ y0_ y1_ y2_ y3_ y4_ y5_ < μ x3 x14 h1_0 h1_1 h1_2 h1_3;
  if decide (x14 < (↑es.length : Int)) = true then aR es x14 6 /\ ∃ n1, (es.getD x14.toNat []).head? = some (Z6 n1) /\ ∃ n2, (es.getD x14.toNat []).tail.head? = some (Z6 n2) /\ ∃ b, (es.getD x14.toNat
  []).tail.tail.head? = some (Zb b) /\ ∃ b1, (es.getD x14.toNat []).tail.tail.tail.head? = some (Zb b1) /\ ∃ b2, (es.getD x14.toNat []).tail.tail.tail.tail.head? = some (Zb b2) /\ ∃ b3, (es.getD x14.toNat
  []).tail.tail.tail.tail.tail.head? = some (Zb b3) /\
 let V1 :=
 let V2 := K2 x3 (i64.wrap (x14 + 1)) h1_0 h1_1 h1_2 h1_3; if decide (i < n1) = true then if decide (n1 <= x3) = true then K2 (i64.wrap (n1 - 1)) (i64.wrap (x14 + 1)) h1_0 h1_1 h1_2 h1_3 else V2 else V2; if decide (n1
  <= i) = true then if decide (i <= n2) = true then (R (PV.tup [PV.agg [Zb b, Zb b1, Zb b2, Zb b3], Z6 (if x3 < n2 then x3 else n2)]) /\ R (PV.tup [PV.agg [Zb b, Zb b1, Zb b2, Zb b3], Z6 (if x3 < n2 then x3 else n2)])) /\ R (PV.tup [PV.agg [Zb
  b, Zb b1, Zb b2, Zb b3], Z6 (if x3 < n2 then x3 else n2)]) else V1 else V1 else R (PV.tup [PV.agg [Zb za, Zb zb, Zb zc, Zb zd], Z6 x3])
theorem zoq {R : PV -> Prop} (h : zfz n f es za zb zc zd i last J μ R) : PCall qa 66 [.sl n f es, .agg [.bool za, .bool zb, .bool zc, .bool zd], .int .i64 i, .int .i64 last] R :=
 PCall.wz Try.func66 aT [0, 1, 2, 3, 5, 8, 9, 11, 12, 13, 14, 15, 18, 35] (dB 2 (bF cz6 (yV n f es za zb zc zd i) J μ (fun e h => (gI e 3, gI e 14, hB h 1 0, hB h 1 1, hB h 1 2, hB h 1 3)) [] [2, 3, 5, 8, 12, 13, 14] [])) h
end
section
variable (sz : Int) (n f n2 f2 : Bool) (es bs : LL) (i : Int)
def zf0 (R : PV -> Prop) : Prop :=
 if decide (i < 0) = true then R (PV.agg [Zb false, Zb false, Zb false, Zb false]) else ∃ n1, some (Z6 sz) = some (Z6 n1) /\ if decide (i >= n1) = true then R (PV.agg [Zb false, Zb false, Zb false, Zb false]) else ∃ n3 f1 es1, some (PV.sl n2 f2 bs) = some (PV.sl n3 f1 es1) /\ ∃ n4 f3 es2, some (PV.sl n f es) = some (PV.sl n4 f3 es2) /\ aR es2 (i64.wrap (i.tdiv (128 : Int))) 1 /\ ∃ n5, (es2.getD (i64.wrap (i.tdiv (128 : Int))).toNat []).head? = some (Z6 n5) /\ aR es1 n5 512 /\ ((0 : Int) <= i.tmod (128 : Int) /\ i.tmod (128 : Int) < (↑128 : Int)) /\ ∃ b, (qb ((i.tmod (128 : Int)).toNat * 4) (es1.getD n5.toNat [])).head? = some (Zb b) /\ ∃ b1, (qb ((i.tmod (128 : Int)).toNat * 4) (es1.getD n5.toNat [])).tail.head? = some (Zb b1) /\ ∃ b2, (qb ((i.tmod (128 : Int)).toNat * 4) (es1.getD n5.toNat [])).tail.tail.head? = some (Zb b2) /\ ∃ b3, (qb ((i.tmod (128 : Int)).toNat * 4) (es1.getD n5.toNat [])).tail.tail.tail.head? = some (Zb b3) /\ R (PV.agg [Zb b, Zb b1, Zb b2, Zb b3])
theorem zor {R : PV -> Prop} (h : zf0 sz n f n2 f2 es bs i R) : PCall qa 55 [.ptr [.int .i64 sz, .sl n f es, .sl n2 f2 bs], .int .i64 i] R :=
 PCall.wz Try.func55 aT [0, 1, 4, 5, 19] bE h
end
section
variable (sz : Int) (kn ev : List (PV × PV)) (ixm ixn bkm bkn : Bool) (ix bk : LL) (b : List PV)
def zf1 (R : LV -> Hp -> Prop) : Prop :=
 512 <= (qb 0 b).length /\ bV qa 159 kn /\ aV qa 159 (PV.agg (qe 512 (qb 0 b))) = true /\ (∀ (v : PV), bO (PV.agg (qe 512 (qb 0 b))) kn = some v -> ∃ n, v = Z6 n /\ R (Y6 n)
  [Ob.box [LV.box 1 0, LV.mp 2, LV.mp 3], Ob.box [Y6 sz, LV.own 4, LV.own 5], Ob.mp kn, Ob.mp ev, Ob.sl (3, 1) ixm ixn ix, Ob.sl (159, 512) bkm bkn bk]) /\ (bO (PV.agg (qe 512 (qb 0 b))) kn = none -> 512 <= (qb 0
  b).length /\ bV qa 159 kn /\ aV qa 159 (PV.agg (qe 512 (qb 0 b))) = true /\ 512 <= (qb 0 b).length /\
 let V1 := (aS [qe 512 (qb 0 b)] 512 /\ (bk.length + 1) * 512 <= 140737488355328) /\ R (Y6 (↑bk.length : Int)) [Ob.box [LV.box 1 0, LV.mp 2, LV.mp 3], Ob.box [Y6 sz, LV.own 4, LV.own 5], Ob.mp (bA (PV.agg (qe 512
  (qb 0 b))) (Z6 (↑bk.length : Int)) kn), Ob.mp ev, Ob.sl (3, 1) ixm ixn ix, Ob.sl (159, 512) true (bkn && false) (bk ++ [qe 512 (qb 0 b)])]; ((qe 512 (qb 0 b)).length = 512 /\ V1) /\ (qe 512
  (qb 0 b)).length = 512 /\ V1 /\ V1)
theorem zos {R : LV -> Hp -> Prop} (h : zf1 sz kn ev ixm ixn bkm bkn ix bk b R) : ACall qa 68 [.box 0 0, .pv (.agg b)] [.box [.box 1 0, .mp 2, .mp 3], .box [.pv (.int .i64 sz), .own 4, .own 5], .mp kn, .mp ev, .sl (3, 1) ixm ixn ix, .sl (159, 512) bkm bkn bk] R :=
 ACall.wz Try.func68 aT [0, 1, 3, 4, 5, 6, 17] bE [0,1,2,3,4,5] h
end
def yW (sz : Int) (ixm ixn bkm bkn : Bool) (ix bk : LL) (va vb vc vd : Bool) (x20 : Int) (m_2 : List (PV × PV)) (m_3 : List (PV × PV)) (c_7 : List PV) : Env × Hp := ([(0, LV.box 0 0), (3, LV.box 6 0), (7, LV.box 7 0), (20, Y6 x20)], [.box [LV.box 1 0, LV.mp 2, LV.mp 3], .box [Y6 sz, LV.own 4, LV.own 5], .mp m_2, .mp m_3, .sl (3, 1) ixm ixn ix, .sl (159, 512) bkm bkn bk, .box [LV.pv (PV.bool va), LV.pv (PV.bool vb), LV.pv (PV.bool vc), LV.pv (PV.bool vd)], .arr c_7])
section
variable (sz : Int) (kn ev : List (PV × PV)) (ixm ixn bkm bkn : Bool) (ix bk : LL) (va vb vc vd : Bool) (J : Int -> (List (PV × PV)) -> (List (PV × PV)) -> (List PV) -> Prop) (μ : Int -> (List (PV × PV)) -> (List (PV × PV)) -> (List PV) -> Nat)
def zf2 (R : LV -> Hp -> Prop) : Prop :=
 bV qa 96 ev /\ aV qa 96 (PV.agg [Zb va, Zb vb, Zb vc, Zb vd]) = true /\ (∀ (v : PV), bO (PV.agg [Zb va, Zb vb, Zb vc, Zb vd]) ev = some v -> ∃ n, v = Z6 n /\ R (Y6 n) [Ob.box [LV.box 1 0, LV.mp 2, LV.mp 3], Ob.box [Y6 sz, LV.own 4, LV.own 5], Ob.mp kn, Ob.mp ev, Ob.sl (3, 1) ixm ixn ix, Ob.sl (159, 512) bkm bkn bk]) /\ (bO (PV.agg [Zb va, Zb vb, Zb vc, Zb vd]) ev = none -> (SameSt ([(0, LV.box 0 0), (3, LV.box 6 0), (7, LV.box 7 0), (20, Y6 0)], [Ob.box [LV.box 1 0, LV.mp 2, LV.mp 3], Ob.box [Y6 sz, LV.own 4, LV.own 5], Ob.mp kn, Ob.mp ev, Ob.sl (3, 1) (bif false then true else ixm) ixn ix, Ob.sl (159, 512) (bif false then true else bkm) bkn bk, Ob.box [LV.pv (Zb va), LV.pv (Zb vb), LV.pv (Zb vc), LV.pv (Zb vd)], Ob.arr (qc 512 (Zb false))]) (yW sz ixm ixn bkm bkn ix bk va vb vc vd (0 : Int) kn ev (qc 512 (Zb false))) /\ J (0 : Int) kn ev (qc 512 (Zb false))) /\ ∀ (x20 : Int) (m_2 m_3 : List (PV × PV)) (c_7 : List PV), J x20 m_2 m_3 c_7 -> if decide (x20 < 128) = true then ((0 : Int) <= x20 /\ x20 < (↑128 : Int)) /\ (4 = 4 /\ 0 + x20.toNat * 4 + 4 <= c_7.length) /\ SameSt ([(0, LV.box 0 0), (3, LV.box 6 0), (7, LV.box 7 0), (20, LV.pv (Z6 (i64.wrap (x20 + 1))))], [Ob.box [LV.box 1 0, LV.mp 2, LV.mp 3], Ob.box [Y6 sz, LV.own 4, LV.own 5], Ob.mp m_2, Ob.mp m_3, Ob.sl (3, 1) (bif false then true else ixm) ixn ix, Ob.sl (159, 512) (bif false then true else bkm) bkn bk, Ob.box [LV.pv (Zb va), LV.pv (Zb vb), LV.pv (Zb vc), LV.pv (Zb vd)], Ob.arr (aO c_7 (0 + x20.toNat * 4) [Zb va, Zb vb, Zb vc, Zb vd])]) (yW sz ixm ixn bkm bkn ix bk va vb vc vd (i64.wrap (x20 + 1)) m_2 m_3 (aO c_7 (0 + x20.toNat * 4) [Zb va, Zb vb, Zb vc, Zb vd])) /\ J (i64.wrap (x20 + 1)) m_2 m_3 (aO c_7 (0 + x20.toNat * 4) [Zb va, Zb vb, Zb vc, Zb vd]) /\ μ (i64.wrap (x20 + 1)) m_2 m_3 (aO c_7 (0 + x20.toNat * 4) [Zb va, Zb vb, Zb vc, Zb vd]) < μ x20 m_2 m_3 c_7 else 512 <= (qb 0 c_7).length /\ ACall qa 68 [LV.box 0 0, LV.pv (PV.agg (qe 512 (qb 0 c_7)))] [Ob.box [LV.box 1 0, LV.mp 2, LV.mp 3], Ob.box [Y6 sz, LV.own 4, LV.own 5], Ob.mp m_2, Ob.mp m_3, Ob.sl (3, 1) false ixn ix, Ob.sl (159, 512) false bkn bk] fun (r : LV) (h' : Hp) => ∃ (t : Int × List (PV × PV) × Bool × LL), (r = Y6 t.1 /\ h' = [Ob.box [LV.box 1 0, LV.mp 2, LV.mp 3], Ob.box [Y6 sz, LV.own 4, LV.own 5], Ob.mp t.snd.fst, Ob.mp m_3, Ob.sl (3, 1) false ixn ix, Ob.sl (159, 512) true t.snd.snd.fst t.snd.snd.snd]) /\ (True /\ ((3, 1) = (3, 1) /\ ixn = ixn /\ ix.length = ix.length) /\ True /\ True /\ True /\ True /\ True) /\ bV qa 96 m_3 /\ aV qa 96 (PV.agg [Zb va, Zb vb, Zb vc, Zb vd]) = true /\ R (Y6 t.1) [Ob.box [LV.box 1 0, LV.mp 2, LV.mp 3], Ob.box [Y6 sz, LV.own 4, LV.own 5], Ob.mp t.snd.fst, Ob.mp (bA (PV.agg [Zb va, Zb vb, Zb vc, Zb vd]) (Z6 t.1) m_3), Ob.sl (3, 1) (ixm || false) ixn ix, Ob.sl (159, 512) (bkm || true) t.snd.snd.fst t.snd.snd.snd])
theorem zot {R : LV -> Hp -> Prop} (h : zf2 sz kn ev ixm ixn bkm bkn ix bk va vb vc vd J μ R) : ACall qa 67 [.box 0 0, .pv (.agg [.bool va, .bool vb, .bool vc, .bool vd])] [.box [.box 1 0, .mp 2, .mp 3], .box [.pv (.int .i64 sz), .own 4, .own 5], .mp kn, .mp ev, .sl (3, 1) ixm ixn ix, .sl (159, 512) bkm bkn bk] R :=
 ACall.wz Try.func67 (fun zz_ => match zz_ with | 68 => some ⟨Int × List (PV × PV) × Bool × LL, fun _ hs t => (.pv (.int .i64 t.1), match hs with | [m, r, .mp _, ev, ix, .sl a _ _ _] => [m, r, .mp t.2.1, ev, ix, .sl a true t.2.2.1 t.2.2.2] | h => h), none⟩ | _ => none) [0, 1, 3, 4, 5, 6, 7, 8, 19, 20, 21] (dB 5 (bF iO (yW sz ixm ixn bkm bkn ix bk va vb vc vd) J μ (fun e h => (gI e 20, oM h 2, oM h 3, oA h 7)) [] [0, 3, 7, 20] [])) [0,1,2,3,4,5] h
end
def yX (sz : Int) (za zb zc zd : Bool) (n f : Bool) (es : LL) (x10 x11 : Int) (h3_0 h3_1 h3_2 h3_3 n_4 : Bool) (s_4 : LL) (n_5 : Bool) (s_5 : LL) (m_6 : List (PV × PV)) (m_7 : List (PV × PV)) : Env × Hp := ([(0, Y6 sz), (2, LV.pv (PV.sl n f es)), (4, LV.box 0 0), (7, LV.box 1 0), (8, LV.box 2 0), (9, LV.box 3 0), (10, Y6 x10), (11, Y6 x11)], [.box [LV.pv (PV.bool za), LV.pv (PV.bool zb), LV.pv (PV.bool zc), LV.pv (PV.bool zd)], .box [Y6 sz, LV.own 4, LV.own 5], .box [LV.box 1 0, LV.mp 6, LV.mp 7], .box [.pv (.bool h3_0), .pv (.bool h3_1), .pv (.bool h3_2), .pv (.bool h3_3)], .sl (3, 1) true n_4 s_4, .sl (159, 512) true n_5 s_5, .mp m_6, .mp m_7])
def qB (sz : Int) (za zb zc zd : Bool) (n f : Bool) (es : LL) (x10 x11 x13 : Int) (h3_0 h3_1 h3_2 h3_3 n_4 : Bool) (s_4 : LL) (n_5 : Bool) (s_5 : LL) (m_6 : List (PV × PV)) (m_7 : List (PV × PV)) : Env × Hp := ([(0, Y6 sz), (2, LV.pv (PV.sl n f es)), (4, LV.box 0 0), (7, LV.box 1 0), (8, LV.box 2 0), (9, LV.box 3 0), (10, Y6 x10), (11, Y6 x11), (13, Y6 x13)], [.box [LV.pv (PV.bool za), LV.pv (PV.bool zb), LV.pv (PV.bool zc), LV.pv (PV.bool zd)], .box [Y6 sz, LV.own 4, LV.own 5], .box [LV.box 1 0, LV.mp 6, LV.mp 7], .box [.pv (.bool h3_0), .pv (.bool h3_1), .pv (.bool h3_2), .pv (.bool h3_3)], .sl (3, 1) true n_4 s_4, .sl (159, 512) true n_5 s_5, .mp m_6, .mp m_7])
def nN (sz : Int) (za zb zc zd : Bool) (n f : Bool) (es : LL) (x10 x11 x88 : Int) (h3_0 h3_1 h3_2 h3_3 : Bool) (c_4 : List PV) (n_5 : Bool) (s_5 : LL) (n_6 : Bool) (s_6 : LL) (m_7 : List (PV × PV)) (m_8 : List (PV × PV)) : Env × Hp := ([(0, Y6 sz), (2, LV.pv (PV.sl n f es)), (4, LV.box 0 0), (7, LV.box 1 0), (8, LV.box 2 0), (9, LV.box 3 0), (10, Y6 x10), (11, Y6 x11), (14, LV.box 4 0), (88, Y6 x88)], [.box [LV.pv (PV.bool za), LV.pv (PV.bool zb), LV.pv (PV.bool zc), LV.pv (PV.bool zd)], .box [Y6 sz, LV.own 5, LV.own 6], .box [LV.box 1 0, LV.mp 7, LV.mp 8], .box [.pv (.bool h3_0), .pv (.bool h3_1), .pv (.bool h3_2), .pv (.bool h3_3)], .arr c_4, .sl (3, 1) true n_5 s_5, .sl (159, 512) true n_6 s_6, .mp m_7, .mp m_8])
section
variable (sz : Int) (za zb zc zd : Bool) (n f : Bool) (es : LL) (J : Int -> Int -> Bool -> Bool -> Bool -> Bool -> Bool -> LL -> Bool -> LL -> (List (PV × PV)) -> (List (PV × PV)) -> Prop) (μ : Int -> Int -> Bool -> Bool -> Bool -> Bool -> Bool -> LL -> Bool -> LL -> (List (PV × PV)) -> (List (PV × PV)) -> Nat) (J2 : Int -> Int -> Int -> Bool -> Bool -> Bool -> Bool -> Bool -> LL -> Bool -> LL -> (List (PV × PV)) -> (List (PV × PV)) -> Int -> Int -> Int -> Bool -> Bool -> Bool -> Bool -> Bool -> LL -> Bool -> LL -> (List (PV × PV)) -> (List (PV × PV)) -> Prop) (μ2 : Int -> Int -> Int -> Bool -> Bool -> Bool -> Bool -> Bool -> LL -> Bool -> LL -> (List (PV × PV)) -> (List (PV × PV)) -> Nat) (J3 : Int -> Int -> Int -> Bool -> Bool -> Bool -> Bool -> (List PV) -> Bool -> LL -> Bool -> LL -> (List (PV × PV)) -> (List (PV × PV)) -> Int -> Int -> Int -> Bool -> Bool -> Bool -> Bool -> (List PV) -> Bool -> LL -> Bool -> LL -> (List (PV × PV)) -> (List (PV × PV)) -> Prop) (μ3 : Int -> Int -> Int -> Bool -> Bool -> Bool -> Bool -> (List PV) -> Bool -> LL -> Bool -> LL -> (List (PV × PV)) -> (List (PV × PV)) -> Nat)
def zf3 (R : PV -> Prop) : Prop :=
 if decide (sz < 1) = true then R PV.nilp else PCall qa 66 [PV.sl n f es, PV.agg [Zb za, Zb zb, Zb zc, Zb zd], Z6 0, Z6 (i64.wrap (sz - 1))] fun v => ∃ vs, v = PV.tup vs /\ vs.length = 2 /\ ∃ x, vs.head?
  = some x /\ ∃ cs, x = PV.agg cs /\ cs.length = 4 /\ ∃ b, cs.head? = some (Zb b) /\ ∃ b1, cs.tail.head? = some (Zb b1) /\ ∃ b2, cs.tail.tail.head? = some (Zb b2) /\ ∃ b3, cs.tail.tail.tail.head? =
  some (Zb b3) /\ ∃ x1, vs.tail.head? = some x1 /\ ∃ n1, x1 = Z6 n1 /\ (aF (yX sz za zb zc zd n f es n1 (0 : Int) b b1 b2 b3 true [] true [] [] []) /\ J n1 (0 : Int) b b1 b2 b3 true [] true [] [] []) /\ ∀ (x10 x11 : Int)
  (h3_0 h3_1 h3_2 h3_3 n_4 : Bool) (s_4 : LL) (n_5 : Bool) (s_5 : LL) (m_6 m_7 : List (PV × PV)), J x10 x11 h3_0 h3_1 h3_2 h3_3 n_4 s_4 n_5 s_5 m_6 m_7 ->
 let K7 := fun (y0_ y1_ : Int) (y2_ y3_ y4_ y5_ y6_ : Bool) (y7_ : LL) (y8_ : Bool) (y9_ : LL) (y10_ : List (PV × PV)) (y11_ : List (PV × PV)) => aF (yX sz za zb zc zd n f es y0_ y1_ y2_ y3_
  y4_ y5_ y6_ y7_ y8_ y9_ y10_ y11_) /\ J y0_ y1_ y2_ y3_ y4_ y5_ y6_ y7_ y8_ y9_ y10_ y11_ /\ μ y0_ y1_ y2_ y3_ y4_ y5_ y6_ y7_ y8_ y9_ y10_ y11_ < μ x10 x11 h3_0 h3_1 h3_2 h3_3 n_4 s_4 n_5 s_5 m_6 m_7; if decide (x11 < sz) = true then if
  decide (x11 > x10) = true then PCall qa 66 [PV.sl n f es, PV.agg [Zb za, Zb zb, Zb zc, Zb zd], Z6 x11, Z6 (i64.wrap (sz - 1))] fun v1 => ∃ vs1, v1 = PV.tup vs1 /\ vs1.length = 2 /\ ∃ x2, vs1.head? =
  some x2 /\ ∃ cs1, x2 = PV.agg cs1 /\ cs1.length = 4 /\ ∃ b4, cs1.head? = some (Zb b4) /\ ∃ b5, cs1.tail.head? = some (Zb b5) /\ ∃ b6, cs1.tail.tail.head? = some (Zb b6) /\ ∃ (b7 : Bool),
  cs1.tail.tail.tail.head? = some (Zb b7) /\ ∃ x3, vs1.tail.head? = some x3 /\ ∃ n2, x3 = Z6 n2 /\ if decide (n2 >= i64.wrap ((if sz < i64.wrap (x11 + 128) then sz else i64.wrap (x11 + 128)) - 1)) = true
  then ACall qa 67 [LV.box 0 0, LV.pv (PV.agg [Zb b4, Zb b5, Zb b6, Zb b7])] [Ob.box [LV.box 1 0, LV.mp 2, LV.mp 3], Ob.box [Y6 sz, LV.own 4, LV.own 5], Ob.mp m_6, Ob.mp m_7, Ob.sl (3, 1) false n_4 s_4, Ob.sl (159, 512) false n_5
  s_5] fun (r : LV) (h' : Hp) => ∃ (t : Int × List (PV × PV) × List (PV × PV) × Bool × LL), (r = Y6 t.1 /\ h' = [Ob.box [LV.box 1 0, LV.mp 2, LV.mp 3], Ob.box [Y6 sz, LV.own 4, LV.own 5], Ob.mp t.snd.fst, Ob.mp t.snd.snd.fst, Ob.sl (3, 1)
  false n_4 s_4, Ob.sl (159, 512) true t.snd.snd.snd.fst t.snd.snd.snd.snd]) /\ (True /\ (((3 : Nat), 1) = (3, 1) /\ n_4 = n_4 /\ s_4.length = s_4.length) /\ True /\ True /\ True /\ True /\ True) /\ (aF (qB sz za zb zc zd n f es n2 x11 t.1 b4
  b5 b6 b7 n_4 s_4 t.snd.snd.snd.fst t.snd.snd.snd.snd t.snd.fst t.snd.snd.fst) /\ J2 n2 x11 t.1 b4 b5 b6 b7 n_4 s_4 t.snd.snd.snd.fst t.snd.snd.snd.snd t.snd.fst t.snd.snd.fst n2 x11 t.1 b4 b5 b6 b7 n_4 s_4 t.snd.snd.snd.fst
  t.snd.snd.snd.snd t.snd.fst t.snd.snd.fst) /\ ∀ (x101 x111 x13 : Int) (h3_01 h3_11 h3_21 h3_31 n_41 : Bool) (s_41 : LL) (n_51 : Bool) (s_51 : LL) (m_61 m_71 : List (PV × PV)), J2 n2 x11 t.1 b4 b5 b6 b7 n_4 s_4 t.snd.snd.snd.fst
  t.snd.snd.snd.snd t.snd.fst t.snd.snd.fst x101 x111 x13 h3_01 h3_11 h3_21 h3_31 n_41 s_41 n_51 s_51 m_61 m_71 -> if (decide (x111 < sz) && decide (x101 >= i64.wrap ((if sz < i64.wrap (x111 + 128) then sz else
  i64.wrap (x111 + 128)) - 1))) = true then (aS [[Z6 x13]] 1 /\ (s_41.length + 1) * 8 <= 140737488355328) /\ aF (qB sz za zb zc zd n f es x101 (i64.wrap (x111 + 128)) x13 h3_01 h3_11 h3_21 h3_31 (n_41 && false) (s_41
  ++ [[Z6 x13]]) n_51 s_51 m_61 m_71) /\ J2 n2 x11 t.1 b4 b5 b6 b7 n_4 s_4 t.snd.snd.snd.fst t.snd.snd.snd.snd t.snd.fst t.snd.snd.fst x101 (i64.wrap (x111 + 128)) x13 h3_01 h3_11 h3_21 h3_31 (n_41 && false) (s_41 ++ [[Z6 x13]])
  n_51 s_51 m_61 m_71 /\ μ2 x101 (i64.wrap (x111 + 128)) x13 h3_01 h3_11 h3_21 h3_31 (n_41 && false) (s_41 ++ [[Z6 x13]]) n_51 s_51 m_61 m_71 < μ2 x101 x111 x13 h3_01 h3_11 h3_21 h3_31 n_41 s_41 n_51 s_51 m_61 m_71 else K7 x101
  (i64.wrap (i64.wrap (x111 - 128) + 128)) h3_01 h3_11 h3_21 h3_31 n_41 s_41 n_51 s_51 m_61 m_71 else (aF (nN sz za zb zc zd n f es n2 x11 (0 : Int) b4 b5 b6 b7 (qc 512 (Zb false)) n_4 s_4 n_5 s_5 m_6
  m_7) /\ J3 n2 x11 (0 : Int) b4 b5 b6 b7 (qc 512 (Zb false)) n_4 s_4 n_5 s_5 m_6 m_7 n2 x11 (0 : Int) b4 b5 b6 b7 (qc 512 (Zb false)) n_4 s_4 n_5 s_5 m_6 m_7) /\ ∀ (x101 x111 x88 : Int) (h3_01 h3_11 h3_21 h3_31 :
  Bool) (c_4 : List PV) (n_51 : Bool) (s_51 : LL) (n_6 : Bool) (s_6 : LL) (m_71 m_8 : List (PV × PV)), J3 n2 x11 (0 : Int) b4 b5 b6 b7 (qc 512 (Zb false)) n_4 s_4 n_5 s_5 m_6 m_7 x101 x111 x88 h3_01 h3_11 h3_21 h3_31 c_4 n_51
  s_51 n_6 s_6 m_71 m_8 ->
 let K20 := fun (y0_ y1_ y2_ : Int) (y3_ y4_ y5_ y6_ : Bool) (y7_ : List PV) (y8_ : Bool) (y9_ : LL) (y10_ : Bool) (y11_ : LL) (y12_ : List (PV × PV)) (y13_ : List (PV × PV)) => aF (nN sz za
  zb zc zd n f es y0_ y1_ y2_ y3_ y4_ y5_ y6_ y7_ y8_ y9_ y10_ y11_ y12_ y13_) /\ J3 n2 x11 (0 : Int) b4 b5 b6 b7 (qc 512 (Zb false)) n_4 s_4 n_5 s_5 m_6 m_7 y0_ y1_ y2_ y3_ y4_ y5_ y6_ y7_ y8_ y9_ y10_ y11_ y12_ y13_ /\ μ3 y0_
  y1_ y2_ y3_ y4_ y5_ y6_ y7_ y8_ y9_ y10_ y11_ y12_ y13_ < μ3 x101 x111 x88 h3_01 h3_11 h3_21 h3_31 c_4 n_51 s_51 n_6 s_6 m_71 m_8; if decide (x88 < 128) = true then if (decide (i64.wrap (x111 + x88) > x101) && decide
  (i64.wrap (x111 + x88) < sz)) = true then PCall qa 66 [PV.sl n f es, PV.agg [Zb za, Zb zb, Zb zc, Zb zd], Z6 (i64.wrap (x111 + x88)), Z6 (i64.wrap (sz - 1))] fun v2 => ∃ vs2, v2 = PV.tup
  vs2 /\ vs2.length = 2 /\ ∃ x4, vs2.head? = some x4 /\ ∃ cs2, x4 = PV.agg cs2 /\ cs2.length = 4 /\ ∃ b8, cs2.head? = some (Zb b8) /\ ∃ b9, cs2.tail.head? = some (Zb b9) /\ ∃ b10, cs2.tail.tail.head?
  = some (Zb b10) /\ ∃ b11, cs2.tail.tail.tail.head? = some (Zb b11) /\ ∃ x5, vs2.tail.head? = some x5 /\ ∃ n3, x5 = Z6 n3 /\ ((0 : Int) <= x88 /\ x88 < (↑128 : Int)) /\ (4 = 4 /\ 0 + x88.toNat * 4 + 4 <= c_4.length) /\ K20
  n3 x111 (i64.wrap (x88 + 1)) b8 b9 b10 b11 (aO c_4 (0 + x88.toNat * 4) [Zb b8, Zb b9, Zb b10, Zb b11]) n_51 s_51 n_6 s_6 m_71 m_8 else ((0 : Int) <= x88 /\ x88 < (↑128 : Int)) /\ (4 = (4 : Nat) /\ 0 + x88.toNat * 4 + 4 <= c_4.length)
  /\ K20 x101 x111 (i64.wrap (x88 + 1)) h3_01 h3_11 h3_21 h3_31 (aO c_4 (0 + x88.toNat * 4) [Zb h3_01, Zb h3_11, Zb h3_21, Zb h3_31]) n_51 s_51 n_6 s_6 m_71 m_8 else 512 <= (qb 0 c_4).length /\
 let V1 := ACall qa 68 [LV.box 0 0, LV.pv (PV.agg (qe 512 (qb 0 c_4)))] [Ob.box [LV.box 1 0, LV.mp 2, LV.mp 3], Ob.box [Y6 sz, LV.own 4, LV.own 5], Ob.mp m_71, Ob.mp m_8, Ob.sl (3, 1) false n_51 s_51, Ob.sl (159, 512)
  false n_6 s_6] fun (r : LV) (h' : Hp) => ∃ (t : Int × List (PV × PV) × Bool × LL), (r = Y6 t.1 /\ h' = [Ob.box [LV.box 1 0, LV.mp 2, LV.mp 3], Ob.box [Y6 sz, LV.own 4, LV.own 5], Ob.mp t.snd.fst, Ob.mp m_8, Ob.sl (3, 1) false n_51 s_51,
  Ob.sl (159, 512) true t.snd.snd.fst t.snd.snd.snd]) /\ (True /\ ((3, 1) = (3, 1) /\ n_51 = n_51 /\ s_51.length = s_51.length) /\ True /\ True /\ True /\ True /\ True) /\ (aS [[Z6 t.1]] 1 /\ (s_51.length + 1) * 8 <= 140737488355328) /\ K7 x101
  (i64.wrap (x111 + 128)) h3_01 h3_11 h3_21 h3_31 (n_51 && false) (s_51 ++ [[Z6 t.1]]) t.snd.snd.fst t.snd.snd.snd t.snd.fst m_8; V1 /\ V1 else if decide (x10 >= i64.wrap ((if sz < i64.wrap (x11 + 128) then sz else
  i64.wrap (x11 + 128)) - 1)) = true then ACall qa 67 [LV.box 0 0, LV.pv (PV.agg [Zb h3_0, Zb h3_1, Zb h3_2, Zb h3_3])] [Ob.box [LV.box 1 0, LV.mp 2, LV.mp 3], Ob.box [Y6 sz, LV.own 4, LV.own 5], Ob.mp m_6, Ob.mp m_7, Ob.sl
  (3, 1) false n_4 s_4, Ob.sl (159, 512) false n_5 s_5] fun (r : LV) (h' : Hp) => ∃ (t : Int × List (PV × PV) × List (PV × PV) × Bool × LL), (r = Y6 t.1 /\ h' = [Ob.box [LV.box 1 0, LV.mp 2, LV.mp 3], Ob.box [Y6 sz, LV.own 4, LV.own 5],
  Ob.mp t.snd.fst, Ob.mp t.snd.snd.fst, Ob.sl (3, 1) false n_4 s_4, Ob.sl (159, 512) true t.snd.snd.snd.fst t.snd.snd.snd.snd]) /\ (True /\ ((3, 1) = (3, 1) /\ n_4 = n_4 /\ s_4.length = s_4.length) /\ True /\ True /\ True /\ True /\ True) /\ (aF
  (qB sz za zb zc zd n f es x10 x11 t.1 h3_0 h3_1 h3_2 h3_3 n_4 s_4 t.snd.snd.snd.fst t.snd.snd.snd.snd t.snd.fst t.snd.snd.fst) /\ J2 x10 x11 t.1 h3_0 h3_1 h3_2 h3_3 n_4 s_4 t.snd.snd.snd.fst t.snd.snd.snd.snd t.snd.fst t.snd.snd.fst
  x10 x11 t.1 h3_0 h3_1 h3_2 h3_3 n_4 s_4 t.snd.snd.snd.fst t.snd.snd.snd.snd t.snd.fst t.snd.snd.fst) /\ ∀ (x101 x111 x13 : Int) (h3_01 h3_11 h3_21 h3_31 n_41 : Bool) (s_41 : LL) (n_51 : Bool) (s_51 : LL) (m_61 m_71 : List (PV × PV)), J2
  x10 x11 t.1 h3_0 h3_1 h3_2 h3_3 n_4 s_4 t.snd.snd.snd.fst t.snd.snd.snd.snd t.snd.fst t.snd.snd.fst x101 x111 x13 h3_01 h3_11 h3_21 h3_31 n_41 s_41 n_51 s_51 m_61 m_71 -> if (decide (x111 < sz) && decide (x101 >= i64.wrap ((if sz <
  i64.wrap (x111 + 128) then sz else i64.wrap (x111 + 128)) - 1))) = true then (aS [[Z6 x13]] 1 /\ (s_41.length + 1) * 8 <= 140737488355328) /\ aF (qB sz za zb zc zd n f es x101 (i64.wrap (x111 + 128)) x13
  h3_01 h3_11 h3_21 h3_31 (n_41 && false) (s_41 ++ [[Z6 x13]]) n_51 s_51 m_61 m_71) /\ J2 x10 x11 t.1 h3_0 h3_1 h3_2 h3_3 n_4 s_4 t.snd.snd.snd.fst t.snd.snd.snd.snd t.snd.fst t.snd.snd.fst x101 (i64.wrap (x111 + 128)) x13 h3_01
  h3_11 h3_21 h3_31 (n_41 && false) (s_41 ++ [[Z6 x13]]) n_51 s_51 m_61 m_71 /\ μ2 x101 (i64.wrap (x111 + 128)) x13 h3_01 h3_11 h3_21 h3_31 (n_41 && false) (s_41 ++ [[Z6 x13]]) n_51 s_51 m_61 m_71 < μ2 x101 x111 x13 h3_01 h3_11
  h3_21 h3_31 n_41 s_41 n_51 s_51 m_61 m_71 else K7 x101 (i64.wrap (i64.wrap (x111 - 128) + 128)) h3_01 h3_11 h3_21 h3_31 n_41 s_41 n_51 s_51 m_61 m_71 else (aF (nN sz za zb zc zd n f es x10 x11 (0 : Int) h3_0 h3_1
  h3_2 h3_3 (qc 512 (Zb false)) n_4 s_4 n_5 s_5 m_6 m_7) /\ J3 x10 x11 (0 : Int) h3_0 h3_1 h3_2 h3_3 (qc 512 (Zb false)) n_4 s_4 n_5 s_5 m_6 m_7 x10 x11 (0 : Int) h3_0 h3_1 h3_2 h3_3 (qc 512 (Zb false))
  n_4 s_4 n_5 s_5 m_6 m_7) /\ ∀ (x101 x111 x88 : Int) (h3_01 h3_11 h3_21 h3_31 : Bool) (c_4 : List PV) (n_51 : Bool) (s_51 : LL) (n_6 : Bool) (s_6 : LL) (m_71 m_8 : List (PV × PV)), J3 x10 x11 (0 : Int) h3_0 h3_1 h3_2 h3_3 (qc
  512 (Zb false)) n_4 s_4 n_5 s_5 m_6 m_7 x101 x111 x88 h3_01 h3_11 h3_21 h3_31 c_4 n_51 s_51 n_6 s_6 m_71 m_8 -> if decide (x88 < 128) = true then if (decide (i64.wrap (x111 + x88) > x101) && decide (i64.wrap (x111 + x88) <
  sz)) = true then PCall qa 66 [PV.sl n f es, PV.agg [Zb za, Zb zb, Zb zc, Zb zd], Z6 (i64.wrap (x111 + x88)), Z6 (i64.wrap (sz - 1))] fun v1 => ∃ vs1, v1 = PV.tup vs1 /\ vs1.length = 2 /\ ∃ (x2 : PV),
  vs1.head? = some x2 /\ ∃ cs1, x2 = PV.agg cs1 /\ cs1.length = 4 /\ ∃ b4, cs1.head? = some (Zb b4) /\ ∃ b5, cs1.tail.head? = some (Zb b5) /\ ∃ b6, cs1.tail.tail.head? = some (Zb b6) /\ ∃ (b7 : Bool),
  cs1.tail.tail.tail.head? = some (Zb b7) /\ ∃ x3, vs1.tail.head? = some x3 /\ ∃ n2, x3 = Z6 n2 /\ ((0 : Int) <= x88 /\ x88 < (↑128 : Int)) /\ (4 = 4 /\ 0 + x88.toNat * 4 + 4 <= c_4.length) /\ aF (nN sz za zb zc zd n f es n2
  x111 (i64.wrap (x88 + 1)) b4 b5 b6 b7 (aO c_4 (0 + x88.toNat * 4) [Zb b4, Zb b5, Zb b6, Zb b7]) n_51 s_51 n_6 s_6 m_71 m_8) /\ J3 x10 x11 (0 : Int) h3_0 h3_1 h3_2 h3_3 (qc 512 (Zb false)) n_4 s_4 n_5 s_5 m_6 m_7 n2
  x111 (i64.wrap (x88 + 1)) b4 b5 b6 b7 (aO c_4 (0 + x88.toNat * 4) [Zb b4, Zb b5, Zb b6, Zb b7]) n_51 s_51 n_6 s_6 m_71 m_8 /\ μ3 n2 x111 (i64.wrap (x88 + 1)) b4 b5 b6 b7 (aO c_4 (0 + x88.toNat * 4) [Zb b4, Zb b5, Zb b6,
  Zb b7]) n_51 s_51 n_6 s_6 m_71 m_8 < μ3 x101 x111 x88 h3_01 h3_11 h3_21 h3_31 c_4 n_51 s_51 n_6 s_6 m_71 m_8 else ((0 : Int) <= x88 /\ x88 < (↑128 : Int)) /\ (4 = 4 /\ 0 + x88.toNat * 4 + 4 <= c_4.length) /\ aF (nN sz za zb zc zd n f es
  x101 x111 (i64.wrap (x88 + 1)) h3_01 h3_11 h3_21 h3_31 (aO c_4 (0 + x88.toNat * (4 : Nat)) [Zb h3_01, Zb h3_11, Zb h3_21, Zb h3_31]) n_51 s_51 n_6 s_6 m_71 m_8) /\ J3 x10 x11 (0 : Int) h3_0 h3_1 h3_2 h3_3 (qc 512 (Zb
  false)) n_4 s_4 n_5 s_5 m_6 m_7 x101 x111 (i64.wrap (x88 + 1)) h3_01 h3_11 h3_21 h3_31 (aO c_4 (0 + x88.toNat * (4 : Nat)) [Zb h3_01, Zb h3_11, Zb h3_21, Zb h3_31]) n_51 s_51 n_6 s_6 m_71 m_8 /\ μ3 x101 x111 (i64.wrap
  (x88 + 1)) h3_01 h3_11 h3_21 h3_31 (aO c_4 (0 + x88.toNat * 4) [Zb h3_01, Zb h3_11, Zb h3_21, Zb h3_31]) n_51 s_51 n_6 s_6 m_71 m_8 < μ3 x101 x111 x88 h3_01 h3_11 h3_21 h3_31 c_4 n_51 s_51 n_6 s_6 m_71 m_8 else 512 <= (qb 0
  c_4).length /\
 let V2 := ACall qa 68 [LV.box 0 0, LV.pv (PV.agg (qe 512 (qb 0 c_4)))] [Ob.box [LV.box 1 0, LV.mp 2, LV.mp 3], Ob.box [Y6 sz, LV.own 4, LV.own 5], Ob.mp m_71, Ob.mp m_8, Ob.sl (3, 1) false n_51 s_51, Ob.sl (159, 512)
  false n_6 s_6] fun (r : LV) (h' : Hp) => ∃ (t : Int × List (PV × PV) × Bool × LL), (r = Y6 t.1 /\ h' = [Ob.box [LV.box 1 0, LV.mp 2, LV.mp 3], Ob.box [Y6 sz, LV.own 4, LV.own 5], Ob.mp t.snd.fst, Ob.mp m_8, Ob.sl (3, 1) false n_51 s_51,
  Ob.sl (159, 512) true t.snd.snd.fst t.snd.snd.snd]) /\ (True /\ ((3, 1) = (3, 1) /\ n_51 = n_51 /\ s_51.length = s_51.length) /\ True /\ True /\ True /\ True /\ True) /\ (aS [[Z6 t.1]] 1 /\ (s_51.length + 1) * 8 <= 140737488355328) /\ K7 x101
  (i64.wrap (x111 + 128)) h3_01 h3_11 h3_21 h3_31 (n_51 && false) (s_51 ++ [[Z6 t.1]]) t.snd.snd.fst t.snd.snd.snd t.snd.fst m_8; V2 /\ V2 else R (PV.ptr [Z6 sz, PV.sl n_4 false s_4, PV.sl n_5 false s_5])
theorem zou {R : PV -> Prop} (h : zf3 sz za zb zc zd n f es J μ J2 μ2 J3 μ3 R) : PCall qa 45 [.int .i64 sz, .agg [.bool za, .bool zb, .bool zc, .bool zd], .sl n f es] R :=
 PCall.wz Try.func45 (fun zz_ => match zz_ with | 68 => some ⟨Int × List (PV × PV) × Bool × LL, fun _ hs t => (.pv (.int .i64 t.1), match hs with | [m, r, .mp _, ev, ix, .sl a _ _ _] => [m, r, .mp t.2.1, ev, ix, .sl a true t.2.2.1 t.2.2.2] | h => h), none⟩ | 67 => some ⟨Int × List (PV × PV) × List (PV × PV) × Bool × LL, fun _ hs t => (.pv (.int .i64 t.1), match hs with | [m, r, .mp _, .mp _, ix, .sl a _ _ _] => [m, r, .mp t.2.1, .mp t.2.2.1, ix, .sl a true t.2.2.2.1 t.2.2.2.2] | h => h), none⟩ | _ => none) [0, 1, 2, 4, 6, 7, 8, 9, 10, 11, 12, 13, 14, 15, 17, 36, 41, 58, 73, 88, 89, 102] (gY [(7, (bF (eA iO) (yX sz za zb zc zd n f es) J μ (fun e h => (gI e 10, gI e 11, hB h 3 0, hB h 3 1, hB h 3 2, hB h 3 3, oN h 4, oS h 4, oN h 5, oS h 5, oM h 6, oM h 7)) [(1001001, 3, 1), (1001002, 159, 512)] [0, 2, 4, 7, 8, 9, 10, 11] [])), (14, (gZ (eA cz5) (qB sz za zb zc zd n f es) J2 μ2 (fun e h => (gI e 10, gI e 11, gI e 13, hB h 3 0, hB h 3 1, hB h 3 2, hB h 3 3, oN h 4, oS h 4, oN h 5, oS h 5, oM h 6, oM h 7)) [] [0, 2, 4, 7, 8, 9, 10, 11, 13] [])), (20, (gZ (eA cz6) (nN sz za zb zc zd n f es) J3 μ3 (fun e h => (gI e 10, gI e 11, gI e 88, hB h 3 0, hB h 3 1, hB h 3 2, hB h 3 3, oA h 4, oN h 5, oS h 5, oN h 6, oS h 6, oM h 7, oM h 8)) [] [0, 2, 4, 7, 8, 9, 10, 11, 14, 88] []))]) h
end
end Go.Eng
