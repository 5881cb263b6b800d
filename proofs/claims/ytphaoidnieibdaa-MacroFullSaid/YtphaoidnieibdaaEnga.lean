/- States run over the code: what each function gives, and what follows. -/
import Derived.WalkKit
import Derived.KernelRfl
import Derived.Maps.RangeRun
import Derived.Laws.Cover3
import Derived.Laws.StructEq
import Derived.Great.FillDense
import Derived.Great.BuildSlice
import Derived.Laws.MakeOwn
import Derived.MapKept
import Derived.WideKeyRuns
import Derived.Orders
import Derived.OrdersHeld
import Derived.StillTail
import Derived.Deep.RegionHeld3
import Derived.Scope
import Derived.Deep.LoopGhost
import Derived.RowKit3
import Derived.ProofKit
import Derived.OpenShut
import Derived.ReadAgain
import Derived.Test.YtphaoidnieibdaaProg
open Go.IntKind (i64 i32)
open Go.Result renaming andThen_ok → qa
open Nat renaming beq → qc, eq_of_beq_eq_true → qd, le_refl → qe, mul_le_mul_right → qh, add_mul → qk, zero_add → qw, lt_of_lt_of_le → qx, pos_of_ne_zero → qad, ble → qae, add_assoc → qag, le_trans → qai, le_of_ble_eq_true → qal, add_zero → qap, ne_of_lt → qaq, lt_trichotomy → qat, mul_comm → qay, mul_one → qba, lt_or_ge → qbe, mod_eq_of_lt → qbg, div_lt_iff_lt_mul → qbj, mod_lt → qbk, zero_mul → qbp, lt_succ_of_lt → qbq, mul_add_mod → qbw, div_add_mod → qbx
open Go.Sem renaming run_bind → qf, run_pure → qi, run_ite → qab
open List renaming getElem?_append_left → qg, getElem?_eq_getElem → qj, replicate → ql, getElem?_set_ne → qm, getElem?_append_right → qo, eq_nil_of_length_eq_zero → qp, getElem?_drop → qr, getElem?_map → qt, length_replicate → qu, getElem?_eq_none → qz, getElem?_take → qac, length_map → qaf, getD → qah, getElem?_cons_zero → qaj, getElem?_toArray → qak, mem_of_getElem? → qam, eq_of_mem_replicate → qar, getElem?_replicate → qas, length_cons → qau, append_nil → qax, replicate_succ → qaz, range → qbd, length_nil → qbh, getElem_of_mem → qbn, append_assoc → qbr, ext_getElem? → qbs, take_zero → qby
open Bool renaming and_eq_true → qn, not_eq_true' → qv, false_eq_true → qy, eq_false_or_eq_true → qbf, not_true → qbm, cond_eq_ite → qbt, or_eq_true → qbv, true_and → qbz
open Array renaming getD_eq_getD_getElem? → qq, getElem?_eq_none → qaa, getElem?_eq_getElem → qan, ext' → qav, eq_empty_of_size_eq_zero → qaw, range → qbb, getElem?_append_left → qbc, getElem?_modify → qbi, getElem?_range → qbl, getElem?_map → qbo
open Option renaming map_some → qao, getD_some → qbu
namespace Go.Eng
open Go
def aA (_ : Nat) : Prop := False
inductive PV where
 | unit
 | int (k : IntKind) (n : Int)
 | bool (b : Bool)
 | sl (isNil full : Bool) (es : List (List PV))
 | nilp
 | ptr (cs : List PV)
 | agg (cs : List PV)
 | tup (vs : List PV)
 | fn (f : Nat) (caps : List PV)
 | nilf
 | mp (kvs : List (PV × PV))
 | nilm
 | raw (v : Value)
deriving Inhabited
inductive LV where
 | bot
 | pv (v : PV)
 | spec (j : Nat) (want : Bool) (v : LV)
 | own (o : Nat)
 | sub (o a b : Nat)
 | elt (o : Nat) (i off : Nat)
 | box (o off : Nat)
 | agg (cs : List LV)
 | tup (vs : List LV)
 | fn (f : Nat) (caps : List LV)
 | mp (o : Nat)
 | it (o : Nat)
deriving Inhabited
inductive Ob where
 | dead
 | box (cs : List LV)
 | arr (cs : List PV)
 | sl (ty : Nat × Nat) (moved isNil : Bool) (es : List (List PV))
 | mp (kvs : List (PV × PV))
 | iter (ty : Nat × Nat) (rem : List (PV × PV)) (cur : Option (PV × PV))
deriving Inhabited

def mapOK (es : Array MapEntry) (clock n : Nat) : Prop := es.size = n /\ clock = n /\ ∀ i, i < es.size -> (es.getD i default).born = i
theorem mapOK.lt {es : Array MapEntry} {clock n : Nat} (h : mapOK es clock n) (i : Nat) (hi : i < es.size) : (es.getD i default).born < clock := by
 rw [h.2.2 i hi, h.2.1, <- h.1]; exact hi
theorem mapOK.inj {es : Array MapEntry} {clock n : Nat} (h : mapOK es clock n) (i j : Nat) (hi : i < es.size) (hj : j < es.size) (e : (es.getD i default).born = (es.getD j default).born) : i = j := by
 rw [h.2.2 i hi, h.2.2 j hj] at e; exact e
inductive Rep (w : World) (I : Nat -> Prop) : PV -> Value -> Prop where
 | unit : Rep w I .unit (.tuple #[])
 | int (k : IntKind) (n : Int) : Rep w I (.int k n) (.int k n)
 | bool (b : Bool) : Rep w I (.bool b) (.bool b)
 | slnil (full : Bool) : Rep w I (.sl true full []) (.slice none 0 0)
 | slz (full : Bool) (a : Addr) (cap : Nat) (hf : full = true -> cap = 0) : Rep w I (.sl false full []) (.slice (some a) 0 cap)
 | sl (full : Bool) (es : List (List PV)) (b off cap sz : Nat) (c : Nat -> Nat -> Value) (h1 : es.length <= cap) (h2 : full = true -> cap = es.length)
  (h3 : ∀ (i : Nat) e, es[i]? = some e -> I b /\ b < w.heap.size) (h4 : ∀ (i : Nat) e, es[i]? = some e -> e.length = sz)
  (h5 : ∀ (i : Nat) e (k : Nat) v, es[i]? = some e -> e[k]? = some v -> w.cell? ⟨b, off + i * sz + k, none⟩ = some (c i k))
  (h6 : ∀ (i : Nat) e (k : Nat) v, es[i]? = some e -> e[k]? = some v -> Rep w I v (c i k))
  (h7 : ∀ (i : Nat) e (k : Nat) v, es[i]? = some e -> e[k]? = some v -> (c i k).oneCell' = true) :
  Rep w I (.sl false full es) (.slice (some ⟨b, off, none⟩) es.length cap)
 | nilp : Rep w I .nilp (.pointer none)
 | ptr (cs : List PV) (b off : Nat) (c : Nat -> Value) (h3 : I b /\ b < w.heap.size)
  (h5 : ∀ (k : Nat) v, cs[k]? = some v -> w.cell? ⟨b, off + k, none⟩ = some (c k))
  (h6 : ∀ (k : Nat) v, cs[k]? = some v -> Rep w I v (c k)) (h7 : ∀ (k : Nat) v, cs[k]? = some v -> (c k).oneCell' = true) : Rep w I (.ptr cs) (.pointer (some ⟨b, off, none⟩))
 | agg (cs : List PV) (vs : Array Value) (h1 : vs.size = cs.length) (h6 : ∀ (k : Nat) v, cs[k]? = some v -> Rep w I v (vs.getD k undef))
  (h7 : ∀ (k : Nat) v, cs[k]? = some v -> (vs.getD k undef).oneCell' = true) : Rep w I (.agg cs) (.agg vs)
 | tup (cs : List PV) (vs : Array Value) (h1 : vs.size = cs.length) (h6 : ∀ (k : Nat) v, cs[k]? = some v -> Rep w I v (vs.getD k undef)) : Rep w I (.tup cs) (.tuple vs)
 | fn (f : Nat) (cs : List PV) (vs : Array Value) (h1 : vs.size = cs.length) (h6 : ∀ (k : Nat) v, cs[k]? = some v -> Rep w I v (vs.getD k undef)) : Rep w I (.fn f cs) (.func (.func f) #[] vs)
 | nilf : Rep w I .nilf .nilFunc
 | nilm : Rep w I .nilm (.map none)
 | raw (v : Value) : Rep w I (.raw v) v
 | mp (kvs : List (PV × PV)) (b clock : Nat) (es : Array MapEntry) (h3 : I b /\ b < w.heap.size) (h4 : w.heap[b]? = some (.map es clock)) (h1 : mapOK es clock kvs.length)
  (h5 : ∀ (i : Nat) kv, kvs[i]? = some kv -> Rep w I kv.1 (es.getD i default).key)
  (h6 : ∀ (i : Nat) kv, kvs[i]? = some kv -> Rep w I kv.2 (es.getD i default).val) : Rep w I (.mp kvs) (.map (some b))

theorem Rep.mono {w w' : World} {I I' : Nat -> Prop} {v : PV} {cv : Value} (h : Rep w I v cv)
 (hw : ∀ b, I b -> b < w.heap.size -> w'.heap[b]? = w.heap[b]?) (hI : ∀ b, I b -> b < w.heap.size -> I' b) : Rep w' I' v cv := by
 have lt : ∀ b, I b /\ b < w.heap.size -> I' b /\ b < w'.heap.size := fun b ⟨h1, h2⟩ => ⟨hI b h1 h2, by
  have := hw b h1 h2;rcases qbe b w'.heap.size with h' | h'
  ·exact h'
  ·rw [qaa h', qan h2] at this; cases this⟩
 induction h with
 | unit => exact .unit
 | int k n => exact .int k n
 | bool b => exact .bool b
 | slnil f => exact .slnil f
 | slz f a cap hf => exact .slz f a cap hf
 | sl full es b off cap sz c h1 h2 h3 h4 h5 h6 h7 ih =>
   exact .sl full es b off cap sz c h1 h2 (fun i e he => lt _ (h3 i e he)) h4 (fun i e k v he hk => by rw [World.cell?_of_block (w := w) (hw b (h3 i e he).1 (h3 i e he).2)]; exact h5 i e k v he hk) ih h7
 | nilp => exact .nilp
 | ptr cs b off c h3 h5 h6 h7 ih => exact .ptr cs b off c (lt _ h3) (fun k v hk => by rw [World.cell?_of_block (w := w) (hw b h3.1 h3.2)]; exact h5 k v hk) ih h7
 | agg cs vs h1 h6 h7 ih => exact .agg cs vs h1 ih h7
 | tup cs vs h1 h6 ih => exact .tup cs vs h1 ih
 | fn f cs vs h1 h6 ih => exact .fn f cs vs h1 ih
 | nilf => exact .nilf
 | nilm => exact .nilm
 | raw v => exact .raw v
 | mp kvs b clock es h3 h4 h1 h5 h6 ih5 ih6 => exact .mp kvs b clock es (lt _ h3) (by rw [hw b h3.1 h3.2]; exact h4) h1 ih5 ih6

abbrev Env := List (Nat × LV)
abbrev Hp := List Ob
structure Pl where
 blk : Nat
 off : Nat
 cap : Nat
 sz : Nat

inductive LRel (w : World) (I : Nat -> Prop) (G : Nat -> Pl) (h : Hp) : LV -> Value -> Prop where
 | bot (cv : Value) : LRel w I G h .bot cv
 | pv (v : PV) (cv : Value) (h1 : Rep w I v cv) : LRel w I G h (.pv v) cv
 | ownNil (o : Nat) (ty : Nat × Nat) (m : Bool) (es : List (List PV)) (h1 : h[o]? = some (.sl ty m true es)) : LRel w I G h (.own o) (.slice none 0 0)
 | own (o : Nat) (ty : Nat × Nat) (m : Bool) (es : List (List PV)) (ad : Addr) (h0 : (G o).cap ≠ 0 -> ad = ⟨(G o).blk, (G o).off, none⟩) (h1 : h[o]? = some (.sl ty m false es)) :
  LRel w I G h (.own o) (.slice (some ad) es.length (G o).cap)
 | subNil (o a b : Nat) (ty : Nat × Nat) (m : Bool) (es : List (List PV)) (h1 : h[o]? = some (.sl ty m true es)) (h2 : a = b) : LRel w I G h (.sub o a b) (.slice none 0 0)
 | sub (o a b cap : Nat) (ad : Addr) (ty : Nat × Nat) (m : Bool) (es : List (List PV)) (h1 : h[o]? = some (.sl ty m false es)) (h2 : a <= b) (h3 : b <= es.length) (h4 : b - a <= cap) (h5 : a < b -> ad = ⟨(G o).blk, (G o).off + a * (G o).sz, none⟩) :
  LRel w I G h (.sub o a b) (.slice (some ad) (b - a) cap)
 | elt (o i off : Nat) (ty : Nat × Nat) (m : Bool) (es : List (List PV)) (h1 : h[o]? = some (.sl ty m false es)) (h2 : i < es.length) :
  LRel w I G h (.elt o i off) (.pointer (some ⟨(G o).blk, (G o).off + i * (G o).sz + off, none⟩))
 | box (o off : Nat) (cs : List LV) (h1 : h[o]? = some (.box cs)) : LRel w I G h (.box o off) (.pointer (some ⟨(G o).blk, (G o).off + off, none⟩))
 | arr (o off : Nat) (cs : List PV) (h1 : h[o]? = some (.arr cs)) : LRel w I G h (.box o off) (.pointer (some ⟨(G o).blk, (G o).off + off, none⟩))
 | agg (cs : List LV) (vs : Array Value) (h1 : vs.size = cs.length) (h6 : ∀ (k : Nat) v, cs[k]? = some v -> LRel w I G h v (vs.getD k undef))
  (h7 : ∀ (k : Nat) v, cs[k]? = some v -> (vs.getD k undef).oneCell' = true) : LRel w I G h (.agg cs) (.agg vs)
 | tup (cs : List LV) (vs : Array Value) (h1 : vs.size = cs.length) (h6 : ∀ (k : Nat) v, cs[k]? = some v -> LRel w I G h v (vs.getD k undef)) : LRel w I G h (.tup cs) (.tuple vs)
 | fn (f : Nat) (cs : List LV) (vs : Array Value) (h1 : vs.size = cs.length) (h6 : ∀ (k : Nat) v, cs[k]? = some v -> LRel w I G h v (vs.getD k undef)) : LRel w I G h (.fn f cs) (.func (.func f) #[] vs)
 | mp (o : Nat) (kvs : List (PV × PV)) (h1 : h[o]? = some (.mp kvs)) : LRel w I G h (.mp o) (.map (some (G o).blk))
 | iter (o : Nat) (ty : Nat × Nat) (rem : List (PV × PV)) (cur : Option (PV × PV)) (h1 : h[o]? = some (.iter ty rem cur)) : LRel w I G h (.it o) (.pointer (some ⟨(G o).blk, 0, none⟩))

def Ob.like : Ob -> Ob -> Prop
 | .dead, _ => True
 | .box _, .box _ => True
 | .arr _, .arr _ => True
 | .sl ty _ n es, .sl ty' _ n' es' => ty = ty' /\ n = n' /\ es.length = es'.length
 | .mp _, .mp _ => True
 | .iter _ _ _, .iter _ _ _ => True
 | _, _ => False
def Like (G G' : Nat -> Pl) (h h' : Hp) : Prop := ∀ (o : Nat) ob, h[o]? = some ob -> (∃ ob', h'[o]? = some ob' /\ ob.like ob') /\ (ob ≠ .dead -> G' o = G o)
theorem Ob.like_refl (o : Ob) : o.like o := by cases o <;> simp [Ob.like]
theorem Like.refl (G : Nat -> Pl) (h : Hp) : Like G G h h := fun _ ob ho => ⟨⟨ob, ho, ob.like_refl⟩, fun _ => rfl⟩

def Keeps (w : World) (I : Nat -> Prop) (w' : World) (I' : Nat -> Prop) : Prop :=
 (∀ b, I b -> b < w.heap.size -> w'.heap[b]? = w.heap[b]?) /\ (∀ b, I b -> b < w.heap.size -> I' b)
theorem Keeps.refl (w : World) (I : Nat -> Prop) : Keeps w I w I := ⟨fun _ _ _ => rfl, fun _ h _ => h⟩

theorem LRel.mono {w w' : World} {I I' : Nat -> Prop} {G G' : Nat -> Pl} {h h' : Hp} {v : LV} {cv : Value} (hr : LRel w I G h v cv)
 (hk : Keeps w I w' I') (hl : Like G G' h h') : LRel w' I' G' h' v cv := by
 have key : ∀ (o : Nat) ob, h[o]? = some ob -> ob ≠ .dead -> ∃ ob', h'[o]? = some ob' /\ ob.like ob' /\ G' o = G o := fun o ob ho hd => by
  obtain ⟨⟨ob', h1, h2⟩, h3⟩ := hl o ob ho;exact ⟨ob', h1, h2, h3 hd⟩
 induction hr with
 | bot cv => exact .bot cv
 | pv v cv h1 => exact .pv v cv (h1.mono hk.1 hk.2)
 | ownNil o ty m es h1 =>
   obtain ⟨ob', e1, e2, e3⟩ := key o _ h1 (by simp);cases ob' <;> simp [Ob.like] at e2;obtain ⟨rfl, rfl, _⟩ := e2;exact .ownNil o _ _ _ e1
 | own o ty m es ad h0 h1 =>
   obtain ⟨ob', e1, e2, e3⟩ := key o _ h1 (by simp);cases ob' <;> simp [Ob.like] at e2;obtain ⟨rfl, rfl, e2⟩ := e2;rw [e2, <- e3];exact .own o _ _ _ ad (e3 ▸ h0) e1
 | subNil o a b ty m es h1 h2 =>
   obtain ⟨ob', e1, e2, e3⟩ := key o _ h1 (by simp);cases ob' <;> simp [Ob.like] at e2;obtain ⟨rfl, rfl, _⟩ := e2;exact .subNil o a b _ _ _ e1 h2
 | sub o a b cap ad ty m es h1 h2 h3 h4 h5 =>
   obtain ⟨ob', e1, e2, e3⟩ := key o _ h1 (by simp);cases ob' <;> simp [Ob.like] at e2;obtain ⟨rfl, rfl, e2⟩ := e2;exact .sub o a b cap ad _ _ _ e1 h2 (e2 ▸ h3) h4 (e3 ▸ h5)
 | elt o i off ty m es h1 h2 =>
   obtain ⟨ob', e1, e2, e3⟩ := key o _ h1 (by simp);cases ob' <;> simp [Ob.like] at e2;obtain ⟨rfl, rfl, e2⟩ := e2;rw [<- e3];exact .elt o i off _ _ _ e1 (e2 ▸ h2)
 | box o off cs h1 =>
   obtain ⟨ob', e1, e2, e3⟩ := key o _ h1 (by simp);cases ob' <;> simp [Ob.like] at e2;rw [<- e3];exact .box o off _ e1
 | arr o off cs h1 =>
   obtain ⟨ob', e1, e2, e3⟩ := key o _ h1 (by simp);cases ob' <;> simp [Ob.like] at e2;rw [<- e3];exact .arr o off _ e1
 | agg cs vs h1 h6 h7 ih => exact .agg cs vs h1 ih h7
 | tup cs vs h1 h6 ih => exact .tup cs vs h1 ih
 | fn f cs vs h1 h6 ih => exact .fn f cs vs h1 ih
 | mp o kvs h1 =>
   obtain ⟨ob', e1, e2, e3⟩ := key o _ h1 (by simp);cases ob' <;> simp [Ob.like] at e2;rw [<- e3];exact .mp o _ e1
 | iter o ty rem cur h1 =>
   obtain ⟨ob', e1, e2, e3⟩ := key o _ h1 (by simp);cases ob' <;> simp [Ob.like] at e2;rw [<- e3];exact .iter o _ _ _ e1

def Ob.alive (p : Pl) : Ob -> Prop
 | .dead => False
 | .sl _ _ n _ => n = false /\ p.cap ≠ 0
 | _ => True

def IterRel (w : World) (I : Nat -> Prop) (blk : Nat) (rem : List (PV × PV)) (cur : Option (PV × PV)) : Prop :=
 ∃ b es clock since seen last, w.heap[blk]? = some (.mapIter (some b) since seen last) /\ (I b /\ b < w.heap.size) /\ w.heap[b]? = some (.map es clock) /\ mapOK es clock es.size /\ since = clock /\ last = clock /\
  (leftOf es seen).size = rem.length /\ (∀ (i : Nat) kv, rem[i]? = some kv -> Rep w I kv.1 ((leftOf es seen).getD i default).key /\ Rep w I kv.2 ((leftOf es seen).getD i default).val) /\
  ∀ kv, cur = some kv -> ∃ s' e, seen = Array.push s' e.born /\ last = clock /\ e ∈ es.toList /\ Rep w I kv.1 e.key /\ Rep w I kv.2 e.val
theorem IterRel.mono {w w' : World} {I I' : Nat -> Prop} {blk : Nat} {rem : List (PV × PV)} {cur : Option (PV × PV)} (h : IterRel w I blk rem cur) (hb : w'.heap[blk]? = w.heap[blk]?) (hk : Keeps w I w' I') : IterRel w' I' blk rem cur := by
 obtain ⟨b, es, clock, since, seen, last, h1, h2, h3, h4, h5, h6, h7, h8, h9⟩ := h;have hb2 := hk.1 b h2.1 h2.2;refine ⟨b, es, clock, since, seen, last, hb.trans h1, ⟨hk.2 b h2.1 h2.2, ?_⟩, hb2.trans h3, h4, h5, h6, h7, fun i kv hi => ⟨(h8 i kv hi).1.mono hk.1 hk.2, (h8 i kv hi).2.mono hk.1 hk.2⟩, fun kv hi => ?_⟩
 ·rcases qbe b w'.heap.size with h' | h'
  ·exact h'
  ·rw [qaa h', h3] at hb2; cases hb2
 ·obtain ⟨s', e, q1, q2, q3, q4, q5⟩ := h9 kv hi;exact ⟨s', e, q1, q2, q3, q4.mono hk.1 hk.2, q5.mono hk.1 hk.2⟩
def ORel (w : World) (I : Nat -> Prop) (G : Nat -> Pl) (h : Hp) (p : Pl) : Ob -> Prop
 | .dead => True
 | .box cs => ∃ vs ty, w.heap[p.blk]? = some (.cells vs ty (0, 0)) /\ p.off + cs.length <= vs.size /\
  ∀ (k : Nat) v, cs[k]? = some v -> LRel w I G h v (vs.getD (p.off + k) undef) /\ (vs.getD (p.off + k) undef).oneCell' = true
 | .arr cs => ∃ vs ty, w.heap[p.blk]? = some (.cells vs ty (0, 0)) /\ p.off + cs.length <= vs.size /\
  ∀ (k : Nat) v, cs[k]? = some v -> Rep w I v (vs.getD (p.off + k) undef) /\ (vs.getD (p.off + k) undef).oneCell' = true
 | .sl _ _ true es => es = []
 | .sl ty _ false es => es.length <= p.cap /\ p.cap <= maxLen /\ (p.cap ≠ 0 -> p.off = 0) /\ p.sz = ty.2 /\ (∀ (i : Nat) e, es[i]? = some e -> e.length = p.sz) /\
  (p.cap ≠ 0 -> ∃ vs, w.heap[p.blk]? = some (.cells vs ty.1 (0, 0)) /\ vs.size = p.cap * p.sz /\
   ∀ (i : Nat) e, es[i]? = some e -> ∀ (k : Nat) v, e[k]? = some v -> Rep w I v (vs.getD (i * p.sz + k) undef) /\ (vs.getD (i * p.sz + k) undef).oneCell' = true)
 | .mp kvs => ∃ es clock, w.heap[p.blk]? = some (.map es clock) /\ mapOK es clock kvs.length /\
  ∀ (i : Nat) kv, kvs[i]? = some kv -> Rep w I kv.1 (es.getD i default).key /\ Rep w I kv.2 (es.getD i default).val
 | .iter _ rem cur => IterRel w I p.blk rem cur

structure HRel (w : World) (I : Nat -> Prop) (G : Nat -> Pl) (h : Hp) : Prop where
 obs : ∀ (o : Nat) ob, h[o]? = some ob -> ORel w I G h (G o) ob
 sep : ∀ (o o' : Nat) ob ob', h[o]? = some ob -> ob.alive (G o) -> h[o']? = some ob' -> ob'.alive (G o') -> (G o).blk = (G o').blk -> o = o'
 nI : ∀ (o : Nat) ob, h[o]? = some ob -> ob.alive (G o) -> ¬ I (G o).blk
 cl : ∀ b, I b -> b < w.heap.size

def aD (h : Hp) (G : Nat -> Pl) (b : Nat) : Prop := ∃ (o : Nat) (ob : Ob), h[o]? = some ob /\ ob.alive (G o) /\ (G o).blk = b

theorem HRel.blk_lt {w : World} {I : Nat -> Prop} {G : Nat -> Pl} {h : Hp} (hh : HRel w I G h) {b : Nat} (hb : aD h G b) : b < w.heap.size := by
 obtain ⟨o, ob, h1, h2, rfl⟩ := hb
 have lt : ∀ {x : Obj}, w.heap[(G o).blk]? = some x -> (G o).blk < w.heap.size := fun {x} e => by
  rcases qbe (G o).blk w.heap.size with h' | h'
  ·exact h'
  ·rw [qaa h'] at e; cases e
 have := hh.obs o ob h1;cases ob with
 | dead => exact h2.elim
 | box cs => obtain ⟨vs, ty, e, _⟩ := this; exact lt e
 | arr cs => obtain ⟨vs, ty, e, _⟩ := this; exact lt e
 | sl ty m n es =>
   cases n with
   | true => exact absurd h2.1 (by simp)
   | false => obtain ⟨vs, e, _⟩ := this.2.2.2.2.2 h2.2; exact lt e
 | mp kvs => obtain ⟨es, ck, e, _⟩ := this; exact lt e
 | iter ty rem cur => obtain ⟨_, _, _, _, _, _, e, _⟩ := this; exact lt e

structure Tr (w : World) (I : Nat -> Prop) (own : Nat -> Prop) (w' : World) (I' : Nat -> Prop) (own' : Nat -> Prop) : Prop where
 os : w'.os = w.os
 tape : w'.tape = w.tape
 output : w'.output = w.output
 size : w.heap.size <= w'.heap.size
 keep : ∀ b, b < w.heap.size -> ¬ own b -> w'.heap[b]? = w.heap[b]?
 i1 : ∀ b, I b -> I' b
 i2 : ∀ b, I' b -> I b ∨ own b ∨ w.heap.size <= b
 own2 : ∀ b, own' b -> own b ∨ w.heap.size <= b
 frz : ∀ a, a.block < w.heap.size -> w'.frozen? a = w.frozen? a
 drawn : w.drawn <= w'.drawn
theorem Tr.refl (w : World) (I own : Nat -> Prop) : Tr w I own w I own := ⟨rfl, rfl, rfl, qe _, fun _ _ _ => rfl, fun _ h => h, fun _ h => .inl h, fun _ h => .inl h, fun _ _ => rfl, qe _⟩
theorem Tr.trans {w w1 w2 : World} {I I1 I2 own own1 own2 : Nat -> Prop} (h : Tr w I own w1 I1 own1) (k : Tr w1 I1 own1 w2 I2 own2) : Tr w I own w2 I2 own2 :=
 ⟨k.os.trans h.os, k.tape.trans h.tape, k.output.trans h.output, qai h.size k.size,
  fun b hb hn => (k.keep b (qx hb h.size) (fun ho => (h.own2 b ho).elim hn (fun hx => absurd hb (Nat.not_lt.2 hx)))).trans (h.keep b hb hn),
  fun b hb => k.i1 b (h.i1 b hb),
  fun b hb => (k.i2 b hb).elim (h.i2 b) (fun hx => hx.elim (fun ho => .inr (h.own2 b ho)) (fun hx => .inr (.inr (qai h.size hx)))),
  fun b hb => (k.own2 b hb).elim (h.own2 b) (fun hx => .inr (qai h.size hx)), fun a ha => (k.frz a (qx ha h.size)).trans (h.frz a ha), qai h.drawn k.drawn⟩
def Ob.fixed : Ob -> Bool
 | .dead => false
 | .sl _ m _ _ => !m
 | _ => true
structure TrH (w : World) (I : Nat -> Prop) (G : Nat -> Pl) (h : Hp) (w' : World) (I' : Nat -> Prop) (G' : Nat -> Pl) (h' : Hp) : Prop where
 t : Tr w I (aD h G) w' I' (aD h' G')
 len : h.length <= h'.length
 stay : ∀ (o : Nat) ob', o < h.length -> h'[o]? = some ob' -> ob'.fixed = true -> G' o = G o /\ ∃ ob, h[o]? = some ob /\ ob.fixed = true
theorem TrH.refl (w : World) (I : Nat -> Prop) (G : Nat -> Pl) (h : Hp) : TrH w I G h w I G h := ⟨.refl _ _ _, qe _, fun _ ob' _ h1 h2 => ⟨rfl, ob', h1, h2⟩⟩
theorem TrH.trans {w w1 w2 : World} {I I1 I2 : Nat -> Prop} {G G1 G2 : Nat -> Pl} {h h1 h2 : Hp} (a : TrH w I G h w1 I1 G1 h1) (b : TrH w1 I1 G1 h1 w2 I2 G2 h2) : TrH w I G h w2 I2 G2 h2 :=
 ⟨a.t.trans b.t, qai a.len b.len, fun o ob' ho hx hf => by
  obtain ⟨e1, ob1, q1, q2⟩ := b.stay o ob' (qx ho a.len) hx hf;obtain ⟨e2, ob2, r1, r2⟩ := a.stay o ob1 ho q1 q2
  exact ⟨e1.trans e2, ob2, r1, r2⟩⟩
theorem TrH.same {w w' : World} {I I' : Nat -> Prop} {G : Nat -> Pl} {h : Hp} (t : Tr w I (aD h G) w' I' (aD h G)) : TrH w I G h w' I' G h := ⟨t, qe _, fun _ ob' _ h1 h2 => ⟨rfl, ob', h1, h2⟩⟩
theorem aW {p : Prop} [Decidable p] : (decide p = true) = p := decide_eq_true_eq
def get : Env -> Nat -> Option LV
 | [], _ => none
 | (i, v) :: r, k => bif qc i k then some v else get r k
def iX (d : Nat) : LV -> LV
 | .spec j w v => bif qc j d then .bot else .spec j w v
 | v => v
def kM (d : Nat) : Env -> Env
 | [] => []
 | (i, v) :: r => (i, iX d v) :: kM d r
def set (e : Env) (d : Nat) (v : LV) : Env := (d, v) :: kM d e

theorem qY (d : Nat) (i : Nat) : ∀ e : Env, get (kM d e) i = (get e i).map (iX d)
 | [] => rfl
 | (k, v) :: r => by
   simp only [kM, get];cases h : qc k i
   ·exact qY d i r
   ·rfl
theorem qZ (e : Env) (d i : Nat) (v : LV) : get (set e d v) i = if i = d then some v else (get e i).map (iX d) := by
 simp only [set, get];by_cases h : i = d
 ·subst h; simp
 ·have : qc d i = false := by
   cases hb : qc d i
   ·rfl
   ·exact absurd (qd hb).symm h
  simp [this, h, qY]

def VRel (w : World) (I : Nat -> Prop) (G : Nat -> Pl) (h : Hp) (tm : Array Value) : LV -> Value -> Prop
 | .spec j want v, cv => (tm.getD j undef = .bool want -> LRel w I G h v cv) /\ (tm.getD j undef ≠ .bool want -> cv = undef)
 | v, cv => LRel w I G h v cv
def ERel (w : World) (I : Nat -> Prop) (G : Nat -> Pl) (h : Hp) (e : Env) (tm : Array Value) : Prop :=
 ∀ (i : Nat) v, get e i = some v -> VRel w I G h tm v (tm.getD i undef)

theorem VRel.mono {w w' : World} {I I' : Nat -> Prop} {G G' : Nat -> Pl} {h h' : Hp} {tm : Array Value} {v : LV} {cv : Value} (hr : VRel w I G h tm v cv)
 (hk : Keeps w I w' I') (hl : Like G G' h h') : VRel w' I' G' h' tm v cv := by
 cases v <;> first
  | exact ⟨fun ht => LRel.mono (hr.1 ht) hk hl, hr.2⟩
  | exact LRel.mono hr hk hl
theorem ERel.mono {w w' : World} {I I' : Nat -> Prop} {G G' : Nat -> Pl} {h h' : Hp} {tm : Array Value} {e : Env} (hr : ERel w I G h e tm)
 (hk : Keeps w I w' I') (hl : Like G G' h h') : ERel w' I' G' h' e tm := fun i v hi => (hr i v hi).mono hk hl
theorem ERel.nil (w : World) (I : Nat -> Prop) (G : Nat -> Pl) (h : Hp) (tm : Array Value) : ERel w I G h [] tm := fun i v hi => by cases hi

theorem q7 {tm : Array Value} {d : Nat} (hd : d < tm.size) (cv : Value) : (tm.setIfInBounds d cv).getD d undef = cv := by
 simp [hd]
theorem kN {tm : Array Value} {d i : Nat} (h : i ≠ d) (cv : Value) : (tm.setIfInBounds d cv).getD i undef = tm.getD i undef := by
 simp [Array.getElem?_setIfInBounds_ne (Ne.symm h)]

theorem VRel.set {w : World} {I : Nat -> Prop} {G : Nat -> Pl} {h : Hp} {tm : Array Value} {d : Nat} {v : LV} {cv cu : Value} (hr : VRel w I G h tm v cv) :
 VRel w I G h (tm.setIfInBounds d cu) (iX d v) cv := by
 cases v <;> first
  | exact hr
  | (rename_i j want v
     simp only [iX];cases hb : qc j d
     ·have hne : j ≠ d := fun he => by subst he; simp at hb
      simp only [cond_false];refine ⟨fun ht => ?_, fun ht => ?_⟩ <;> rw [kN hne] at ht
      ·exact hr.1 ht
      ·exact hr.2 ht
     ·simp only [cond_true]; exact .bot cv)

theorem ERel.set {w : World} {I : Nat -> Prop} {G : Nat -> Pl} {h : Hp} {tm : Array Value} {e : Env} (hr : ERel w I G h e tm) {d : Nat} (hd : d < tm.size)
 {v : LV} {cv : Value} (hv : LRel w I G h v cv) (hns : ∀ j want u, v ≠ .spec j want u) : ERel w I G h (set e d v) (tm.setIfInBounds d cv) := by
 intro i u hi;rw [qZ] at hi;by_cases h1 : i = d
 ·subst h1;simp only [if_true, Option.some.injEq] at hi;subst hi;rw [q7 hd];cases v <;> first | exact hv | exact absurd rfl (hns _ _ _)
 ·simp only [h1, if_false] at hi;cases hg : get e i with
  | none => rw [hg] at hi; cases hi
  | some u' =>
    rw [hg] at hi;simp only [qao, Option.some.injEq] at hi;subst hi;rw [kN h1];exact (hr i u' hg).set
theorem ERel.setSpec {w : World} {I : Nat -> Prop} {G : Nat -> Pl} {h : Hp} {tm : Array Value} {e : Env} (hr : ERel w I G h e tm) {d : Nat} (hd : d < tm.size)
 {v : LV} {cv : Value} {j : Nat} {want : Bool} (hj : j ≠ d) (hv : tm.getD j undef = .bool want -> LRel w I G h v cv) (hv' : tm.getD j undef ≠ .bool want -> cv = undef) : ERel w I G h (Eng.set e d (.spec j want v)) (tm.setIfInBounds d cv) := by
 intro i u hi;rw [qZ] at hi;by_cases h1 : i = d
 ·subst h1;simp only [if_true, Option.some.injEq] at hi;subst hi;rw [q7 hd];refine ⟨fun ht => ?_, fun ht => ?_⟩ <;> rw [kN hj] at ht
  ·exact hv ht
  ·exact hv' ht
 ·simp only [h1, if_false] at hi;cases hg : get e i with
  | none => rw [hg] at hi; cases hi
  | some u' =>
    rw [hg] at hi;simp only [qao, Option.some.injEq] at hi;subst hi;rw [kN h1];exact (hr i u' hg).set

def fF : Value -> Option PV
 | .int k n => some (.int k n)
 | .bool b => some (.bool b)
 | .slice none 0 0 => some (.sl true true [])
 | .pointer none => some .nilp
 | .map none => some .nilm
 | .nilFunc => some .nilf
 | _ => none
def iY : List Value -> Option (List PV)
 | [] => some []
 | v :: r => match fF v, iY r with
   | some p, some q => some (p :: q)
   | _, _ => none
def dX : Value -> Option PV
 | .agg vs => (iY vs.toList).map .agg
 | v => fF v

theorem xE {v : Value} {p : PV} (h : fF v = some p) : v.oneCell' = true := by
 unfold fF at h;split at h <;> first | rfl | cases h
theorem q8 {w : World} {I : Nat -> Prop} {v : Value} {p : PV} (h : fF v = some p) : Rep w I p v := by
 unfold fF at h
 split at h <;> first
  | (cases h; constructor)
  | cases h
theorem q9 {w : World} {I : Nat -> Prop} : ∀ {l : List Value} {ps : List PV}, iY l = some ps -> l.length = ps.length /\ ∀ (k : Nat) p, ps[k]? = some p -> Rep w I p (l.getD k undef) /\ (l.getD k undef).oneCell' = true
 | [], ps, h => by cases h; exact ⟨rfl, fun k p hk => by simp at hk⟩
 | v :: r, ps, h => by
   unfold iY at h;split at h
   ·rename_i p q h1 h2;cases h;obtain ⟨h3, h4⟩ := q9 (w := w) (I := I) h2;refine ⟨by simp [h3], fun k u hk => ?_⟩;cases k with
    | zero => simp at hk; subst hk; exact ⟨by simpa using q8 h1, by simpa using xE h1⟩
    | succ k => simp at hk; simpa using h4 k u hk
   ·cases h
theorem iZ {w : World} {I : Nat -> Prop} {v : Value} {p : PV} (h : dX v = some p) : Rep w I p v := by
 cases v
 case agg vs =>
  simp only [dX] at h;cases hc : iY vs.toList with
  | none => rw [hc] at h; cases h
  | some ps =>
    rw [hc] at h;cases h;obtain ⟨h1, h2⟩ := q9 (w := w) (I := I) hc;exact .agg ps vs (by simpa using h1) (fun k v hk => by simpa using (h2 k v hk).1) (fun k v hk => by simpa using (h2 k v hk).2)
 all_goals exact q8 h

def i3 (j : Nat) (w : Bool) : List (Nat × Bool) -> Bool
 | [] => false
 | (j', w') :: r => (qc j j' && (w == w')) || i3 j w r
def kO (e : Env) (A : List (Nat × Bool)) : LV -> Option LV
 | .spec j w v =>
   bif i3 j w A then some v else
    match get e j with
    | some (.pv (.bool true)) => bif w then some v else none
    | some (.pv (.bool false)) => bif w then none else some v
    | _ => none
 | v => some v
def aF (A : List (Nat × Bool)) (e : Env) : Operand -> Option LV
 | .tmp t => match get e t with
   | some v => kO e A v
   | none => none
 | .const v => match dX v with
   | some p => some (.pv p)
   | none => none
 | .func f => some (.pv (.fn f []))
 | .global _ => none

theorem LRel.bool_eq {w : World} {I : Nat -> Prop} {G : Nat -> Pl} {h : Hp} {b : Bool} {cv : Value} (hr : LRel w I G h (.pv (.bool b)) cv) : cv = .bool b := by
 cases hr with | pv _ _ h1 => cases h1; rfl
theorem LRel.int_eq {w : World} {I : Nat -> Prop} {G : Nat -> Pl} {h : Hp} {k : IntKind} {n : Int} {cv : Value} (hr : LRel w I G h (.pv (.int k n)) cv) : cv = .int k n := by
 cases hr with | pv _ _ h1 => cases h1; rfl
def AOK (A : List (Nat × Bool)) (tm : Array Value) : Prop := ∀ j w, i3 j w A = true -> tm.getD j undef = .bool w
theorem AOK.nil (tm : Array Value) : AOK [] tm := fun _ _ h => by cases h
theorem AOK.cons {A : List (Nat × Bool)} {tm : Array Value} (h : AOK A tm) {j : Nat} {w : Bool} (hj : tm.getD j undef = .bool w) : AOK ((j, w) :: A) tm := by
 intro j' w' h';simp only [i3, qbv, qn] at h';rcases h' with ⟨h1, h2⟩ | h'
 ·have := qd h1; subst this;have : w' = w := by simpa using h2
  subst this; exact hj
 ·exact h _ _ h'
theorem xF {w : World} {I : Nat -> Prop} {G : Nat -> Pl} {h : Hp} {tm : Array Value} {e : Env} (hr : ERel w I G h e tm) {A : List (Nat × Bool)} (hA : AOK A tm)
 {u v : LV} {cv : Value} (hu : VRel w I G h tm u cv) (hl : kO e A u = some v) : LRel w I G h v cv := by
 cases u
 case spec j want u =>
  simp only [kO] at hl
  have hbool : ∀ b, get e j = some (.pv (.bool b)) -> tm.getD j undef = .bool b := fun b hb => by
   exact LRel.bool_eq (hr j _ hb)
  cases hc : i3 j want A with
  | true =>
    rw [hc] at hl;simp only [cond_true, Option.some.injEq] at hl;subst hl;exact hu.1 (hA _ _ hc)
  | false =>
    rw [hc] at hl;simp only [cond_false] at hl;split at hl
    ·rename_i hg;cases want <;> simp at hl;subst hl;exact hu.1 (hbool _ hg)
    ·rename_i hg;cases want <;> simp at hl;subst hl;exact hu.1 (hbool _ hg)
    ·cases hl
 all_goals (simp only [kO, Option.some.injEq] at hl; subst hl; exact hu)
theorem aC {w : World} {I : Nat -> Prop} {G : Nat -> Pl} {h : Hp} {a : Act} {e : Env} (hr : ERel w I G h e a.tmps) {A : List (Nat × Bool)} (hA : AOK A a.tmps)
 {x : Operand} {v : LV} (hx : aF A e x = some v) : LRel w I G h v (a.eval x) := by
 cases x with
 | tmp t =>
   simp only [aF] at hx;cases hg : get e t with
   | none => rw [hg] at hx; cases hx
   | some u => rw [hg] at hx; exact xF hr hA (hr t u hg) hx
 | const c =>
   simp only [aF] at hx;cases hc : dX c with
   | none => rw [hc] at hx; cases hx
   | some p => rw [hc] at hx; cases hx; exact .pv _ _ (iZ hc)
 | global g => cases hx
 | func f =>
   cases hx;exact .pv _ _ (.fn f [] #[] rfl (fun k v hk => by simp at hk))
set_option linter.unusedVariables false
set_option linter.unusedSimpArgs false
def i4 (op : BinOp) (k : IntKind) (a b : Int) : Int :=
 match op with
 | .and => k.wrap (BitVec.ofInt k.bits a &&& BitVec.ofInt k.bits b).toNat
 | .or => k.wrap (BitVec.ofInt k.bits a ||| BitVec.ofInt k.bits b).toNat
 | .xor => k.wrap (BitVec.ofInt k.bits a ^^^ BitVec.ofInt k.bits b).toNat
 | _ => k.wrap (BitVec.ofInt k.bits a &&& ~~~(BitVec.ofInt k.bits b)).toNat
def gU (k : IntKind) (a c : Int) : Int := k.wrap (a * 2 ^ min c.toNat k.bits)
def gV (k : IntKind) (a c : Int) : Int := a.fdiv (2 ^ min c.toNat k.bits)
def m9 (op : BinOp) (y : Operand) (k : IntKind) (a : Int) : Option PV :=
 match y, op with
 | .const (.int _ c), .shl => bif decide (0 <= c) then some (.int k (gU k a c)) else none
 | .const (.int _ c), .shr => bif decide (0 <= c) then some (.int k (gV k a c)) else none
 | _, _ => none
theorem rA {op : BinOp} {y : Operand} {k : IntKind} {a : Int} {r : PV} (h : m9 op y k a = some r) : ∃ ki c, y = .const (.int ki c) /\ 0 <= c /\ ((op = .shl /\ r = .int k (gU k a c)) ∨ (op = .shr /\ r = .int k (gV k a c))) := by
 unfold m9 at h;split at h
 ·rw [qbt] at h;split at h
  ·rename_i h0; simp only [aW] at h0; cases h; exact ⟨_, _, rfl, h0, .inl ⟨rfl, rfl⟩⟩
  ·cases h
 ·rw [qbt] at h;split at h
  ·rename_i h0; simp only [aW] at h0; cases h; exact ⟨_, _, rfl, h0, .inr ⟨rfl, rfl⟩⟩
  ·cases h
 ·cases h
def i5 (op : BinOp) (k : IntKind) (a b : Int) : Option PV :=
 match op with
 | .add => some (.int k (k.wrap (a + b)))
 | .sub => some (.int k (k.wrap (a - b)))
 | .mul => some (.int k (k.wrap (a * b)))
 | .eql => some (.bool (a == b))
 | .neq => some (.bool (a != b))
 | .lss => some (.bool (decide (a < b)))
 | .leq => some (.bool (decide (a <= b)))
 | .gtr => some (.bool (decide (a > b)))
 | .geq => some (.bool (decide (a >= b)))
 | .and => some (.int k (i4 .and k a b))
 | .or => some (.int k (i4 .or k a b))
 | .xor => some (.int k (i4 .xor k a b))
 | .andNot => some (.int k (i4 .andNot k a b))
 | _ => none
def bT : IntKind -> IntKind -> Bool
 | .i8, .i8 | .i16, .i16 | .i32, .i32 | .i64, .i64 | .u8, .u8 | .u16, .u16 | .u32, .u32 | .u64, .u64 => true
 | _, _ => false
theorem c0 {a b : IntKind} (h : bT a b = true) : a = b := by cases a <;> cases b <;> first | rfl | simp [bT] at h

def kP : BinOp -> Option Bool
 | .eql => some true
 | .neq => some false
 | _ => none
def i6 (eq : Bool) (n : Bool) : PV := .bool (bif eq then n else !n)

def eJ (h : Hp) : LV -> Option Bool
 | .pv (.sl n _ _) => some n
 | .own o => match h[o]? with | some (.sl _ _ n _) => some n | _ => none
 | .sub o _ _ => match h[o]? with | some (.sl _ _ n _) => some n | _ => none
 | _ => none
inductive NK where | none | sl | ptr | mp | fn
def gW : Operand -> NK
 | .const (.slice none 0 0) => .sl
 | .const (.pointer none) => .ptr
 | .const (.map none) => .mp
 | .const .nilFunc => .fn
 | _ => .none
def eM : LV -> Option Bool
 | .pv .nilp => some true
 | .pv (.ptr _) => some false
 | .box .. => some false
 | .elt .. => some false
 | _ => none
def gX : LV -> Option Bool
 | .pv .nilm => some true
 | .pv (.mp _) => some false
 | .mp _ => some false
 | _ => none
def fZ : LV -> Option Bool
 | .pv .nilf => some true
 | .pv (.fn _ _) => some false
 | .fn _ _ => some false
 | _ => none

def c9 (P : Program) (t : TypeId) : Bool := match P.underlying t with
 | some (.int _) => true
 | some .bool => true
 | _ => false
def dP (P : Program) : List Field -> Nat -> Bool
 | [], _ => true
 | f :: r, k => qc f.offset k && c9 P f.type && !(f.name == "_") && dP P r (k + 1)
def eN (P : Program) (t : TypeId) : Option Nat := match P.underlying t with
 | some (.struct fs) => bif dP P fs.toList 0 && !P.stoodInHeld t && !P.eqGuardType P.depth t then some fs.toList.length else none
 | some (.array n e) => match P.info? e with
   | some ti => bif c9 P e && qc ti.size 1 && !P.eqGuardType P.depth t then some n else none
   | none => none
 | _ => none
def cN : PV -> PV -> Bool
 | .int _ a, .int _ b => a == b
 | .bool a, .bool b => a == b
 | _, _ => false
def bE : List PV -> List PV -> Bool
 | x :: r, y :: s => cN x y && bE r s
 | _, _ => true
def aX (P : Program) : List TypeId -> List PV -> List PV -> Bool
 | [], [], [] => true
 | t :: ts, .int k _ :: r, .int k' _ :: s => bT k k' && (match P.underlying t with | some (.int _) => true | _ => false) && aX P ts r s
 | t :: ts, .bool _ :: r, .bool _ :: s => (match P.underlying t with | some .bool => true | _ => false) && aX P ts r s
 | _, _, _ => false
def i7 (P : Program) (t : TypeId) : List TypeId := match P.underlying t with
 | some (.struct fs) => fs.toList.map (·.type)
 | some (.array n e) => ql n e
 | _ => []
def kQ (P : Program) (op : BinOp) (t : TypeId) (aa bs : List PV) : Option PV :=
 match kP op, eN P t with
 | some q, some _ => bif aX P (i7 P t) aa bs then some (.bool (bif q then bE aa bs else !(bE aa bs))) else none
 | _, _ => none
def i9 (P : Program) (h : Hp) (op : BinOp) (t : TypeId) (y : Operand) (u v : LV) : Option PV :=
 match u, v with
 | .pv (.int k a), .pv (.int k' b) =>
   match m9 op y k a with
   | some r => some r
   | none =>
   bif bT k k' then
    (match i5 op k a b with
     | some r => some r
     | none => match y, op with
       | .const (.int _ c), .quo => bif c == 0 then none else some (.int k (k.wrap (a.tdiv c)))
       | .const (.int _ c), .rem => bif c == 0 then none else some (.int k (a.tmod c))
       | _, _ => none)
   else none
 | .pv (.bool a), .pv (.bool b) =>
   match P.underlying t, op with
   | some .bool, .eql => some (.bool (a == b))
   | some .bool, .neq => some (.bool (a != b))
   | _, _ => none
 | .pv (.agg aa), .pv (.agg bs) => kQ P op t aa bs
 | u, _ =>
   match kP op, gW y, P.underlying t with
   | some q, .sl, some (.slice _) => (eJ h u).map (i6 q)
   | some q, .ptr, some (.pointer _) => (eM u).map (i6 q)
   | some q, .mp, some (.map _ _) => (gX u).map (i6 q)
   | some q, .fn, some (.func _ _ _) => (fZ u).map (i6 q)
   | _, _, _ => none

theorem LRel.nilOf_eq {w : World} {I : Nat -> Prop} {G : Nat -> Pl} {h : Hp} {u : LV} {cv : Value} (hr : LRel w I G h u cv) {n : Bool} (hn : eJ h u = some n) :
 ∃ b l c, cv = .slice b l c /\ b.isNone = n := by
 cases hr with
 | pv v cv h1 =>
   cases h1 <;> simp [eJ] at hn
   ·subst hn; exact ⟨none, 0, 0, rfl, rfl⟩
   ·subst hn; exact ⟨_, _, _, rfl, rfl⟩
   ·subst hn; exact ⟨_, _, _, rfl, rfl⟩
 | ownNil o ty m es h1 => simp [eJ, h1] at hn; subst hn; exact ⟨none, 0, 0, rfl, rfl⟩
 | own o ty m es ad h0 h1 => simp [eJ, h1] at hn; subst hn; exact ⟨_, _, _, rfl, rfl⟩
 | subNil o a b ty m es h1 => simp [eJ, h1] at hn; subst hn; exact ⟨none, 0, 0, rfl, rfl⟩
 | sub o a b cap ad ty m es h1 => simp [eJ, h1] at hn; subst hn; exact ⟨_, _, _, rfl, rfl⟩
 | _ => simp [eJ] at hn
theorem LRel.nilOfPtr_eq {w : World} {I : Nat -> Prop} {G : Nat -> Pl} {h : Hp} {u : LV} {cv : Value} (hr : LRel w I G h u cv) {n : Bool} (hn : eM u = some n) :
 ∃ b, cv = .pointer b /\ b.isNone = n := by
 cases hr with
 | pv v cv h1 =>
   cases h1 <;> simp [eM] at hn <;> subst hn <;> exact ⟨_, rfl, rfl⟩
 | elt => simp [eM] at hn; subst hn; exact ⟨_, rfl, rfl⟩
 | box => simp [eM] at hn; subst hn; exact ⟨_, rfl, rfl⟩
 | arr => simp [eM] at hn; subst hn; exact ⟨_, rfl, rfl⟩
 | _ => simp [eM] at hn
theorem LRel.nilOfMap_eq {w : World} {I : Nat -> Prop} {G : Nat -> Pl} {h : Hp} {u : LV} {cv : Value} (hr : LRel w I G h u cv) {n : Bool} (hn : gX u = some n) :
 ∃ b, cv = .map b /\ b.isNone = n := by
 cases hr with
 | pv v cv h1 =>
   cases h1 <;> simp [gX] at hn <;> subst hn <;> exact ⟨_, rfl, rfl⟩
 | mp => simp [gX] at hn; subst hn; exact ⟨_, rfl, rfl⟩
 | _ => simp [gX] at hn
theorem LRel.nilOfFn_eq {w : World} {I : Nat -> Prop} {G : Nat -> Pl} {h : Hp} {u : LV} {cv : Value} (hr : LRel w I G h u cv) {n : Bool} (hn : fZ u = some n) :
 (n = true /\ cv = .nilFunc) ∨ (n = false /\ ∃ f x y, cv = .func f x y) := by
 cases hr with
 | pv v cv h1 =>
   cases h1 <;> simp [fZ] at hn <;> subst hn
   ·exact .inr ⟨rfl, _, _, _, rfl⟩
   ·exact .inl ⟨rfl, rfl⟩
 | fn => simp [fZ] at hn; subst hn; exact .inr ⟨rfl, _, _, _, rfl⟩
 | _ => simp [fZ] at hn

def dQ (P : Program) (op : BinOp) (t : TypeId) (x y : Operand) (a b : Value) (w : World) : Result Value := (do eqGuard op t x y a b; binOp op t a b : Sem Value).run P w

theorem xG {P : Program} {op : BinOp} {t : TypeId} {x y : Operand} {k : IntKind} {a b : Int} {r : PV} {w : World} {I : Nat -> Prop} (h : i5 op k a b = some r) :
 ∃ cv, dQ P op t x y (.int k a) (.int k b) w = .ok cv w /\ Rep w I r cv := by
 have hg : (eqGuard op t x y (.int k a) (.int k b)).run P w = .ok () w := by
  unfold eqGuard; cases op <;> simp
 unfold dQ;simp only [qf, hg, qa];cases op <;> simp [i5] at h <;> subst h <;> refine ⟨_, ?_, by constructor⟩ <;> simp [binOp, Op.intArith, Op.intCmp, Op.intBits, i4]

theorem xH {P : Program} {op : BinOp} {t : TypeId} {x y : Operand} {a b : Value} {w : World} (h1 : a ≠ .nilIface) (h2 : ∀ cs, a ≠ .agg cs) : (eqGuard op t x y a b).run P w = .ok () w := by
 cases op <;> first | rfl | (cases a <;> first | (exact absurd rfl h1) | (exact absurd rfl (h2 _)) | rfl | (cases b <;> rfl))
theorem dA {P : Program} {op : BinOp} {t : TypeId} {x y : Operand} {a b : Value} {w : World} (h1 : a ≠ .nilIface) (h2 : ∀ cs, a ≠ .agg cs) : dQ P op t x y a b w = (binOp op t a b).run P w := by
 unfold dQ; simp only [qf, xH h1 h2, qa]
theorem jA {P : Program} {w : World} {q : Bool} {op : BinOp} (hq : kP op = some q) {t : TypeId} {a b : Value} {n : Bool} (he : (Op.equal t a b).run P w = .ok n w)
 (h1 : ∀ k i, a ≠ .int k i) (h2 : ∀ k i, a ≠ .float k i) (h3 : ∀ k i j, a ≠ .complex k i j) (h4 : ∀ s, a ≠ .string s) :
 (binOp op t a b).run P w = .ok (.bool (bif q then n else !n)) w := by
 cases op <;> simp [kP] at hq <;> subst hq <;>
 cases a <;> first
  | exact absurd rfl (h1 _ _)
  | exact absurd rfl (h2 _ _)
  | exact absurd rfl (h3 _ _ _)
  | exact absurd rfl (h4 _)
  | (simp only [binOp, qf, he, qa, qi, cond_true, cond_false])
theorem xI {P : Program} (w : World) (t : TypeId) {ps rs : Array TypeId} {vr : Bool} (a : Value) (n : Bool) (h : P.underlying t = some (.func ps rs vr))
 (ha : (n = true /\ a = .nilFunc) ∨ (n = false /\ ∃ f x y, a = .func f x y)) : (Op.equal t a .nilFunc).run P w = .ok n w := by
 have key : ∀ d, (Op.equalIn (d + 1) t a .nilFunc).run P w = .ok n w := fun d => by
  rcases ha with ⟨rfl, rfl⟩ | ⟨rfl, f, x, y, rfl⟩ <;> simp only [Op.equalIn, underlying, qf, run_program, qa, h, qi]
 exact key 9999
theorem xJ {a : Act} {y : Operand} : (gW y = .sl -> a.eval y = .slice none 0 0) /\ (gW y = .ptr -> a.eval y = .pointer none) /\ (gW y = .mp -> a.eval y = .map none) /\
 (gW y = .fn -> a.eval y = .nilFunc) := by
 unfold gW;split <;> simp [Act.eval]

theorem gY {P : Program} {w : World} {t : TypeId} {cs : Array Value} {off : Nat} (hp : c9 P t = true) (hlt : off < cs.size) : (part t cs off).run P w = .ok (cs.getD off undef) w := by
 unfold c9 at hp;have e1 : cs[off]? = some (cs.getD off undef) := by simp [hlt]
 split at hp
 ·rename_i k hu;unfold part isAgg;simp only [underlying, qf, run_program, qa, hu, qi, qy, if_false, qab, e1]
 ·rename_i hu;unfold part isAgg;simp only [underlying, qf, run_program, qa, hu, qi, qy, if_false, qab, e1]
 ·cases hp
theorem rC {P : Program} {w : World} {I I' : Nat -> Prop} {t : TypeId} {d : Nat} {ts : List TypeId} {x y : PV} {r s : List PV} {a b : Value} (hk : aX P (t :: ts) (x :: r) (y :: s) = true) (hx : Rep w I x a) (hy : Rep w I' y b) :
 (Op.equalIn (d + 1) t a b).run P w = .ok (cN x y) w /\ aX P ts r s = true := by
 cases x <;> cases y <;> simp [aX] at hk
 case int k m k' n =>
  obtain ⟨⟨h1, h2⟩, h3⟩ := hk;have := c0 h1;subst this;cases hx; cases hy;split at h2
  ·rename_i q hu; exact ⟨run_equalIn_int w d t k q m n hu, h3⟩
  ·cases h2
 case bool m n =>
  obtain ⟨h2, h3⟩ := hk;cases hx; cases hy;split at h2
  ·rename_i hu; exact ⟨run_equalIn_bool w d t m n hu, h3⟩
  ·cases h2
theorem rD {P : Program} : ∀ {ts : List TypeId} {aa bs : List PV}, aX P ts aa bs = true -> aa.length = ts.length /\ bs.length = ts.length
 | [], [], [], _ => ⟨rfl, rfl⟩
 | [], _ :: _, _, h => by simp [aX] at h
 | [], [], _ :: _, h => by simp [aX] at h
 | t :: ts, [], bs, h => by simp [aX] at h
 | t :: ts, x :: r, [], h => by cases x <;> simp [aX] at h
 | t :: ts, x :: r, y :: s, h => by
   have : aX P ts r s = true := by cases x <;> cases y <;> simp [aX] at h <;> first | exact h.2 | cases h
   have := rD this;simp [this]
theorem nC {P : Program} {w : World} {I I' : Nat -> Prop} {d : Nat} {va vb : Array Value} : ∀ (fs : List Field) (k : Nat) (aa bs : List PV), dP P fs k = true -> aX P (fs.map (·.type)) aa bs = true -> va.size = k + aa.length -> vb.size = k + bs.length ->
 (∀ (i : Nat) v, aa[i]? = some v -> Rep w I v (va.getD (k + i) undef)) -> (∀ (i : Nat) v, bs[i]? = some v -> Rep w I' v (vb.getD (k + i) undef)) -> (Op.eqFields (d + 1) va vb fs).run P w = .ok (bE aa bs) w
 | [], k, [], [], _, _, _, _, _, _ => rfl
 | [], k, _ :: _, _, _, h, _, _, _, _ => by simp [aX] at h
 | [], k, [], _ :: _, _, h, _, _, _, _ => by simp [aX] at h
 | f :: fs, k, [], _, _, h, _, _, _, _ => by simp [aX] at h
 | f :: fs, k, x :: r, [], _, h, _, _, _, _ => by cases x <;> simp [aX] at h
 | f :: fs, k, x :: r, y :: s, h1, h2, h3, h4, h5, h6 => by
   simp only [dP, qn, qv] at h1;have ho := qd h1.1.1.1;have hne : f.name ≠ "_" := fun e => by rw [e] at h1; simp at h1
   obtain ⟨g1, g2⟩ := rC (d := d) (by simpa using h2) (h5 0 x rfl) (h6 0 y rfl)
   simp only [qau] at h3 h4;unfold Op.eqFields;rw [if_pos hne];simp only [qap] at g1;rw [ho];simp only [qf, gY h1.1.1.2 (show k < va.size by omega), gY h1.1.1.2 (show k < vb.size by omega), qa, g1];simp only [qab, bE];rcases qbf (cN x y) with he | he
   rotate_left
   ·simp [he]
   ·simp only [he, qbm, qy, if_false, qbz];exact nC fs (k + 1) r s h1.2 g2 (by omega) (by omega) (fun i v hv => by rw [show k + 1 + i = k + (i + 1) by omega]; exact h5 (i + 1) v (by simpa using hv)) (fun i v hv => by rw [show k + 1 + i = k + (i + 1) by omega]; exact h6 (i + 1) v (by simpa using hv))
theorem rE {P : Program} {w : World} {I I' : Nat -> Prop} {d : Nat} {e : TypeId} {va vb : Array Value} (hp : c9 P e = true) : ∀ (n k : Nat) (aa bs : List PV), aX P (ql n e) aa bs = true -> va.size = k + aa.length -> vb.size = k + bs.length ->
 (∀ (i : Nat) v, aa[i]? = some v -> Rep w I v (va.getD (k + i) undef)) -> (∀ (i : Nat) v, bs[i]? = some v -> Rep w I' v (vb.getD (k + i) undef)) ->
 (forIn (m := Sem) (List.range' k n) ((none, ()) : Option Bool × Unit) fun i r => do
  let a <- part e va (i * 1); let b <- part e vb (i * 1); let q <- Op.equalIn (d + 1) e a b
  if (!q) = true then pure (.done (some false, ())) else pure (.yield (none, ()))).run P w = .ok ((if bE aa bs = true then none else some false), ()) w
 | 0, k, [], [], _, _, _, _, _ => rfl
 | 0, k, _ :: _, _, h, _, _, _, _ => by simp [aX] at h
 | 0, k, [], _ :: _, h, _, _, _, _ => by simp [aX] at h
 | n + 1, k, [], _, h, _, _, _, _ => by simp [aX, qaz] at h
 | n + 1, k, x :: r, [], h, _, _, _, _ => by cases x <;> simp [aX, qaz] at h
 | n + 1, k, x :: r, y :: s, h2, h3, h4, h5, h6 => by
   rw [qaz] at h2;obtain ⟨g1, g2⟩ := rC (d := d) h2 (h5 0 x rfl) (h6 0 y rfl);simp only [qau] at h3 h4;rw [List.range'_succ, List.forIn_cons];simp only [qap] at g1;simp only [qf, qba, gY hp (show k < va.size by omega), gY hp (show k < vb.size by omega), qa, g1];simp only [qab, bE];rcases qbf (cN x y) with he | he
   rotate_left
   ·simp [he]
   ·simp only [he, qbm, qy, if_false, qbz, qf, qi, qa];have := rE (va := va) (vb := vb) hp n (k + 1) r s g2 (by omega) (by omega) (fun i v hv => by rw [show k + 1 + i = k + (i + 1) by omega]; exact h5 (i + 1) v (by simpa using hv)) (fun i v hv => by rw [show k + 1 + i = k + (i + 1) by omega]; exact h6 (i + 1) v (by simpa using hv)) (d := d)
    simp only [qba] at this;exact this
theorem rG {P : Program} {t : TypeId} {aa bs : List PV} {n : Nat} {w : World} {I I' : Nat -> Prop} {va vb : Array Value} (hf : eN P t = some n) (hs : aX P (i7 P t) aa bs = true) (a1 : va.size = aa.length)
 (a2 : ∀ (k : Nat) v, aa[k]? = some v -> Rep w I v (va.getD k undef)) (b1 : vb.size = bs.length) (b2 : ∀ (k : Nat) v, bs[k]? = some v -> Rep w I' v (vb.getD k undef)) :
 (Op.equal t (.agg va) (.agg vb)).run P w = .ok (bE aa bs) w /\ P.eqGuardType P.depth t = false := by
 unfold eN at hf;unfold i7 at hs;split at hf
 ·rename_i fs hu;cases hc : (dP P fs.toList 0 && !P.stoodInHeld t && !P.eqGuardType P.depth t) with
  | false => rw [hc] at hf; cases hf
  | true =>
    simp only [qn, qv] at hc;simp only [hu] at hs;have e1 : P.fieldsOf t = fs := by unfold Program.fieldsOf; rw [hu]
    have := run_equalIn_struct (P := P) w 9999 t va vb (by rw [e1]; exact hu) hc.1.2;refine ⟨this.trans ?_, hc.2⟩;rw [e1];exact nC (d := 9998) fs.toList 0 aa bs hc.1.1 hs (by omega) (by omega) (fun i v hv => by rw [qw]; exact a2 i v hv) (fun i v hv => by rw [qw]; exact b2 i v hv)
 ·rename_i len e hu;split at hf
  ·rename_i ti hi;cases hc : (c9 P e && qc ti.size 1 && !P.eqGuardType P.depth t) with
   | false => rw [hc] at hf; cases hf
   | true =>
     simp only [qn, qv] at hc;simp only [hu] at hs;have hsz := qd hc.1.2;refine ⟨?_, hc.2⟩;have h1 := fun d => rE (P := P) (w := w) (d := d) (va := va) (vb := vb) hc.1.1 len 0 aa bs hs (by omega) (by omega) (fun i v hv => by rw [qw]; exact a2 i v hv) (fun i v hv => by rw [qw]; exact b2 i v hv)
     have h2 : ∀ d, (Op.equalIn (d + 1 + 1) t (.agg va) (.agg vb)).run P w = .ok (bE aa bs) w := fun d => by
      unfold Op.equalIn;simp only [qf, run_underlying hu, qa, sizeOf, typeInfo, run_program, hi, qi, hsz];rw [Std.Legacy.Range.forIn_eq_forIn_range'];simp only [Std.Legacy.Range.size, Nat.sub_zero, Nat.add_sub_cancel, Nat.div_one];rw [h1 d];cases bE aa bs <;> rfl
     exact h2 9998
  ·cases hf
 ·cases hf
theorem xK {P : Program} {op : BinOp} {t : TypeId} {x y : Operand} {aa bs : List PV} {r : PV} {w : World} {I I' : Nat -> Prop} {va vb : Array Value} (h : kQ P op t aa bs = some r) (ha : Rep w I (.agg aa) (.agg va)) (hb : Rep w I' (.agg bs) (.agg vb)) :
 ∃ cv, dQ P op t x y (.agg va) (.agg vb) w = .ok cv w /\ ∀ J, Rep w J r cv := by
 unfold kQ at h;split at h
 ·rename_i q n hq hf;cases hs : aX P (i7 P t) aa bs with
  | false => rw [hs] at h; cases h
  | true =>
    rw [hs] at h;simp only [cond_true, Option.some.injEq] at h;subst h;cases ha with
    | agg _ _ a1 a2 a3 => cases hb with
      | agg _ _ b1 b2 b3 =>
        have key := rG hf hs a1 a2 b1 b2;obtain ⟨k1, k2⟩ := key;refine ⟨.bool (bif q then bE aa bs else !(bE aa bs)), ?_, fun _ => .bool _⟩
        have hg : (eqGuard op t x y (.agg va) (.agg vb)).run P w = .ok () w := by
         unfold eqGuard;cases op <;> first | rfl | simp only [qf, run_program, qa, k2, Bool.not_false, if_true, qab, qi, qy, if_false, qbm]
        unfold dQ;rw [qf, hg];exact jA hq k1 (by simp) (by simp) (by simp) (by simp)
 ·cases h
theorem xM {P : Program} {h : Hp} {op : BinOp} {t : TypeId} {x y : Operand} {u v : LV} {r : PV} {w : World} {I : Nat -> Prop} {G : Nat -> Pl} {a : Act}
 (hu : LRel w I G h u (a.eval x)) (hv : LRel w I G h v (a.eval y)) (hb : i9 P h op t y u v = some r) :
 ∃ cv, dQ P op t x y (a.eval x) (a.eval y) w = .ok cv w /\ Rep w I r cv := by
 unfold i9 at hb;split at hb
 ·rename_i k m k' n;split at hb
  ·rename_i r' hs;cases hb;rw [hu.int_eq, hv.int_eq];obtain ⟨ki, c, rfl, h0, hs⟩ := rA hs;have hc : (.int ki c : Value) = .int k' n := hv.int_eq;injection hc with e1 e2; subst e1; subst e2;have h1 : ¬ c < 0 := by omega
   rcases hs with ⟨rfl, rfl⟩ | ⟨rfl, rfl⟩ <;>
   ·refine ⟨_, ?_, .int _ _⟩;rw [dA (by simp) (by simp)];simp [binOp, Op.shift, h1, gU, gV]
  cases hk : bT k k' with
  | false => rw [hk] at hb; cases hb
  | true =>
    rw [hk] at hb;have := c0 hk;subst this;simp only [cond_true] at hb;rw [hu.int_eq, hv.int_eq];split at hb
    ·rename_i r' hi;cases hb;exact xG hi
    ·split at hb
     ·rename_i ki c _ _;have hc : (.int ki c : Value) = .int k n := hv.int_eq;injection hc with e1 e2; subst e1; subst e2;cases h0 : (c == 0 : Bool) with
      | true => rw [h0] at hb; cases hb
      | false =>
        rw [h0] at hb;cases hb;have hn : c ≠ 0 := by intro he; subst he; simp at h0
        refine ⟨_, ?_, .int _ _⟩;rw [dA (by simp) (by simp)];simp [binOp, Op.intDiv, hn]
     ·rename_i ki c _ _;have hc : (.int ki c : Value) = .int k n := hv.int_eq;injection hc with e1 e2; subst e1; subst e2;cases h0 : (c == 0 : Bool) with
      | true => rw [h0] at hb; cases hb
      | false =>
        rw [h0] at hb;cases hb;have hn : c ≠ 0 := by intro he; subst he; simp at h0
        refine ⟨_, ?_, .int _ _⟩;rw [dA (by simp) (by simp)];simp [binOp, Op.intDiv, hn]
     ·cases hb
 ·rename_i m n;rw [hu.bool_eq, hv.bool_eq, dA (by simp) (by simp)];split at hb
  ·rename_i ht; cases hb; exact ⟨.bool (m == n), by rw [run_eql_bool w t m n ht], .bool _⟩
  ·rename_i ht; cases hb; exact ⟨.bool (!(m == n)), by rw [run_neq_bool w t m n ht], .bool _⟩
  ·cases hb
 ·rename_i aa bs;generalize hcx : a.eval x = cx at hu;generalize hcy : a.eval y = cy at hv;cases hu with
  | pv _ _ h1 => cases h1 with
    | agg _ va a1 a2 a3 => cases hv with
      | pv _ _ h2 => cases h2 with
        | agg _ vb b1 b2 b3 =>
          obtain ⟨cv, g1, g2⟩ := xK (x := x) (y := y) (w := w) hb (.agg aa va a1 a2 a3) (.agg bs vb b1 b2 b3);exact ⟨cv, g1, g2 I⟩
 ·obtain ⟨n1, n2, n3, n4⟩ := xJ (a := a) (y := y);split at hb
  ·rename_i q _ hq hn ht;cases hm : eJ h u with
   | none => rw [hm] at hb; cases hb
   | some n =>
     rw [hm] at hb;cases hb;obtain ⟨b, l, c, e1, e2⟩ := hu.nilOf_eq hm;subst e2;refine ⟨.bool (bif q then b.isNone else !b.isNone), ?_, .bool _⟩;rw [dA (by rw [e1]; simp) (by rw [e1]; simp), e1, n1 hn];exact jA hq (run_equal_slice_nil w t _ b l c ht) (by simp) (by simp) (by simp) (by simp)
  ·rename_i q _ hq hn ht;cases hm : eM u with
   | none => rw [hm] at hb; cases hb
   | some n =>
     rw [hm] at hb;cases hb;obtain ⟨b, e1, e2⟩ := hu.nilOfPtr_eq hm;subst e2;refine ⟨.bool (bif q then b.isNone else !b.isNone), ?_, .bool _⟩;rw [dA (by rw [e1]; simp) (by rw [e1]; simp), e1, n2 hn];refine jA hq ?_ (by simp) (by simp) (by simp) (by simp)
     have key : ∀ d, (Op.equalIn (d + 1) t (.pointer b) (.pointer none)).run P w = .ok b.isNone w := fun d => by
      cases b <;> simp only [Op.equalIn, underlying, qf, run_program, qa, ht, qi] <;> rfl
     exact key 9999
  ·rename_i q _ _ hq hn ht;cases hm : gX u with
   | none => rw [hm] at hb; cases hb
   | some n =>
     rw [hm] at hb;cases hb;obtain ⟨b, e1, e2⟩ := hu.nilOfMap_eq hm;subst e2;refine ⟨.bool (bif q then b.isNone else !b.isNone), ?_, .bool _⟩;rw [dA (by rw [e1]; simp) (by rw [e1]; simp), e1, n3 hn];exact jA hq (run_equal_map_nil w t _ _ b ht) (by simp) (by simp) (by simp) (by simp)
  ·rename_i q _ _ _ hq hn ht;cases hm : fZ u with
   | none => rw [hm] at hb; cases hb
   | some n =>
     rw [hm] at hb;cases hb;refine ⟨.bool (bif q then n else !n), ?_, .bool _⟩;have hf := hu.nilOfFn_eq hm
     have hx : a.eval x ≠ .nilIface /\ (∀ cs, a.eval x ≠ .agg cs) /\ (∀ k i, a.eval x ≠ .int k i) /\ (∀ k i, a.eval x ≠ .float k i) /\ (∀ k i j, a.eval x ≠ .complex k i j) /\ (∀ s, a.eval x ≠ .string s) := by
      rcases hf with ⟨_, e⟩ | ⟨_, _, _, _, e⟩ <;> rw [e] <;> simp
     rw [dA hx.1 hx.2.1, n4 hn];exact jA hq (xI w t _ _ ht hf) hx.2.2.1 hx.2.2.2.1 hx.2.2.2.2.1 hx.2.2.2.2.2
  ·cases hb

def cV (A : List (Nat × Bool)) (e : Env) : List Operand -> Option (List LV)
 | [] => some []
 | x :: r => match aF A e x, cV A e r with
   | some v, some vs => some (v :: vs)
   | _, _ => none
theorem jB {w : World} {I : Nat -> Prop} {G : Nat -> Pl} {h : Hp} {a : Act} {e : Env} (hr : ERel w I G h e a.tmps) {A : List (Nat × Bool)} (hA : AOK A a.tmps) :
 ∀ {xs : List Operand} {vs : List LV}, cV A e xs = some vs -> xs.length = vs.length /\ ∀ (k : Nat) v, vs[k]? = some v -> LRel w I G h v ((xs.map a.eval).getD k undef)
 | [], vs, hx => by cases hx; exact ⟨rfl, fun k v hk => by simp at hk⟩
 | x :: r, vs, hx => by
   unfold cV at hx;split at hx
   ·rename_i v vs' h1 h2;cases hx;obtain ⟨h3, h4⟩ := jB hr hA h2;refine ⟨by simp [h3], fun k u hk => ?_⟩;cases k with
    | zero => simp at hk; subst hk; simpa using aC hr hA h1
    | succ k => simp at hk; simpa using h4 k u hk
   ·cases hx
def bW : List LV -> Option (List PV)
 | [] => some []
 | .pv v :: r => match bW r with
   | some vs => some (v :: vs)
   | none => none
 | _ :: _ => none
theorem dY : ∀ {l : List LV} {ps : List PV}, bW l = some ps -> l = ps.map .pv
 | [], ps, h => by cases h; rfl
 | v :: r, ps, h => by
   cases v
   case pv v =>
    simp only [bW] at h;cases hr : bW r with
    | none => rw [hr] at h; cases h
    | some vs => rw [hr] at h; cases h; simp [dY hr]
   all_goals simp [bW] at h

def kR (a b : Operand) (c x y : Bool) : Bool :=
 match b with
 | .const (.bool false) => c && x
 | _ => match a with
   | .const (.bool true) => c || y
   | _ => bif c then x else y
def jC (A : List (Nat × Bool)) (w : Bool) : Operand -> List (Nat × Bool)
 | .tmp s => (s, w) :: A
 | _ => A
def nD (A : List (Nat × Bool)) (e : Env) (c a b : Operand) : Option LV :=
 match aF A e c with
 | some (.pv (.bool cb)) =>
   match aF (jC A true c) e a, aF (jC A false c) e b with
   | some (.pv (.bool x)), some (.pv (.bool y)) => some (.pv (.bool (kR a b cb x y)))
   | some (.pv (.bool x)), _ => match cb with | true => some (.pv (.bool x)) | false => none
   | _, some (.pv (.bool y)) => match cb with | false => some (.pv (.bool y)) | true => none
   | _, _ => none
 | _ => none
def lenOf (h : Hp) : LV -> Option Int
 | .pv (.sl _ _ es) => some es.length
 | .own o => match h[o]? with | some (.sl _ _ _ es) => some es.length | _ => none
 | .sub _ a b => some ((b - a : Nat) : Int)
 | .pv (.mp kvs) => some kvs.length
 | .pv .nilm => some 0
 | .mp o => match h[o]? with | some (.mp kvs) => some kvs.length | _ => none
 | _ => none
def bD (P : Program) (A : List (Nat × Bool)) (e : Env) (h : Hp) : Op -> Option LV
 | .move x => aF A e x
 | .assign x => aF A e x
 | .pick c a b => nD A e c a b
 | .binOp op t x y _ => match aF A e x, aF A e y with
   | some u, some v => match i9 P h op t y u v with
     | some r => some (.pv r)
     | none => none
   | _, _ => none
 | .unOp .not _ x => match aF A e x with
   | some (.pv (.bool b)) => some (.pv (.bool (!b)))
   | _ => none
 | .unOp .neg _ x => match aF A e x with
   | some (.pv (.int k n)) => some (.pv (.int k (k.wrap (0 - n))))
   | _ => none
 | .extract x i => match aF A e x with
   | some (.pv (.tup vs)) => match vs[i]? with | some v => some (.pv v) | none => none
   | some (.tup vs) => vs[i]?
   | _ => none
 | .convert s d x => match P.underlying s, P.underlying d, aF A e x with
   | some _, some (.int k), some (.pv (.int _ n)) => some (.pv (.int k (k.wrap n)))
   | _, _, _ => none
 | .call c => match c.callee with
   | .builtin .len => match c.argTypes[0]?, c.args.toList with
     | some t, [x] => match P.underlying t, aF A e x with
       | some (.slice _), some v => match v with
         | .pv (.sl _ _ es) => some (.pv (.int .i64 es.length))
         | .own o => match h[o]? with | some (.sl _ _ _ es) => some (.pv (.int .i64 es.length)) | _ => none
         | .sub _ a b => some (.pv (.int .i64 ((b - a : Nat) : Int)))
         | _ => none
       | some (.map _ _), some v => match v with
         | .pv .nilm => some (.pv (.int .i64 0))
         | .pv (.mp kvs) => some (.pv (.int .i64 kvs.length))
         | .mp o => match h[o]? with | some (.mp kvs) => some (.pv (.int .i64 kvs.length)) | _ => none
         | _ => none
       | some (.array n _), some (.pv (.agg _)) => some (.pv (.int .i64 n))
       | _, _ => none
     | _, _ => none
   | .builtin .min => match cV A e c.args.toList with
     | some [.pv (.int k a), .pv (.int k' b)] => bif bT k k' then some (.pv (.int k (if b < a then b else a))) else none
     | _ => none
   | .builtin .max => match cV A e c.args.toList with
     | some [.pv (.int k a), .pv (.int k' b)] => bif bT k k' then some (.pv (.int k (if a < b then b else a))) else none
     | _ => none
   | _ => none
 | .makeFunc (.func f) first caps => bif first.size == 0 then
  (match cV A e caps.toList with
   | some vs => match bW vs with
     | some ps => some (.pv (.fn f ps))
     | none => some (.fn f vs)
   | none => none) else none
 | _ => none
def dR (s : Sem Value) : Sem Next := do pure (.value (<- s))
theorem aY {P : Program} {s : Sem Value} {w w' : World} {v : Value} (h : s.run P w = .ok v w') : (dR s).run P w = .ok (.value v) w' := by
 unfold dR; simp only [qf, h, qa, qi]

theorem xN {a b : Operand} {c x y : Bool} (ha : ∀ q, a = .const (.bool q) -> x = q) (hb : ∀ q, b = .const (.bool q) -> y = q) : kR a b c x y = if c then x else y := by
 unfold kR;split
 ·have := hb _ rfl; subst this; cases c <;> simp
 ·split
  ·have := ha _ rfl; subst this; cases c <;> simp
  ·cases c <;> simp

theorem xO {P : Program} {w : World} {I : Nat -> Prop} {G : Nat -> Pl} {h : Hp} {a : Act} {e : Env} (hr : ERel w I G h e a.tmps) {A : List (Nat × Bool)} (hA : AOK A a.tmps)
 {c x y : Operand} {v : LV} (hp : nD A e c x y = some v) :
 ∃ cv, (do pure (.value (if <- asBool (a.eval c) then a.eval x else a.eval y)) : Sem Next).run P w = .ok (.value cv) w /\ LRel w I G h v cv := by
 unfold nD at hp;split at hp
 ·rename_i cb hc;have ec := (aC hr hA hc).bool_eq;split at hp
  ·rename_i bx by_ hx hy;cases hp
   have hund : ∀ q, a.eval c = .bool q -> AOK (jC A q c) a.tmps := fun q hq => by
    cases c <;> first
     | exact hA.cons hq
     | exact hA
   refine ⟨.bool (kR x y cb bx by_), ?_, .pv _ _ (.bool _)⟩
   have hcx : ∀ q, x = .const (.bool q) -> bx = q := fun q hq => by
    subst hq;simp [aF, dX, fF] at hx;exact hx.symm
   have hcy : ∀ q, y = .const (.bool q) -> by_ = q := fun q hq => by
    subst hq;simp [aF, dX, fF] at hy;exact hy.symm
   rw [ec, xN hcx hcy];cases cb with
   | true =>
     have := (aC hr (hund true ec) hx).bool_eq;simp [asBool, this]
   | false =>
     have := (aC hr (hund false ec) hy).bool_eq;simp [asBool, this]
  ·rename_i bx hx _;cases cb with
   | false => cases hp
   | true =>
     cases hp
     have hA' : AOK (jC A true c) a.tmps := by
      cases c <;> first
       | exact hA.cons ec
       | exact hA
     have := (aC hr hA' hx).bool_eq;exact ⟨.bool bx, by simp [asBool, ec, this], .pv _ _ (.bool _)⟩
  ·rename_i by_ hy _;cases cb with
   | true => cases hp
   | false =>
     cases hp
     have hA' : AOK (jC A false c) a.tmps := by
      cases c <;> first
       | exact hA.cons ec
       | exact hA
     have := (aC hr hA' hy).bool_eq;exact ⟨.bool by_, by simp [asBool, ec, this], .pv _ _ (.bool _)⟩
  ·cases hp
 ·cases hp

theorem LRel.map_inv {w : World} {I : Nat -> Prop} {G : Nat -> Pl} {h : Hp} (hh : HRel w I G h) {o : Nat} {kvs : List (PV × PV)} {cv : Value} (hr : LRel w I G h (.mp o) cv) (ho : h[o]? = some (.mp kvs)) :
 ∃ es clock, cv = .map (some (G o).blk) /\ w.heap[(G o).blk]? = some (.map es clock) /\ es.size = kvs.length := by
 cases hr with
 | mp _ kvs' h1 =>
   obtain ⟨es, ck, e1, e2, _⟩ := hh.obs _ _ ho;exact ⟨es, ck, rfl, e1, e2.1⟩
theorem f0 {P : Program} {w : World} {b : Nat} {es : Array MapEntry} {ck : Nat} (h : w.heap[b]? = some (.map es ck)) : (getObj b).run P w = .ok (.map es ck) w := by
 simp only [getObj, Sem.run, h]

theorem f9 {P : Program} {w : World} {t e : TypeId} {ats : Array TypeId} {ty : TypeId} {b : Option Addr} {l c : Nat} (h0 : ats[0]? = some t) (h : P.underlying t = some (.slice e)) :
 (Builtin.len_ ats ty #[.slice b l c]).run P w = .ok (.int .i64 l) w := by
 unfold Builtin.len_;simp only [h0];simp only [underlying, qf, run_program, qa, h, qi, qak, qaj, goInt]
theorem xP {P : Program} {w : World} {t e : TypeId} {ats : Array TypeId} {ty : TypeId} {v : Value} {n : Nat} (hs : ∀ s, v ≠ .string s) (h0 : ats[0]? = some t) (h : P.underlying t = some (.array n e)) :
 (Builtin.len_ ats ty #[v]).run P w = .ok (.int .i64 n) w := by
 unfold Builtin.len_;simp only [h0];simp only [underlying, qf, run_program, qa, h, qi, qak, qaj, goInt]
theorem xQ {P : Program} {w : World} {t k e : TypeId} {ats : Array TypeId} {ty : TypeId} (h0 : ats[0]? = some t) (h : P.underlying t = some (.map k e)) :
 (Builtin.len_ ats ty #[.map none]).run P w = .ok (.int .i64 0) w := by
 unfold Builtin.len_;simp only [h0];simp only [underlying, qf, run_program, qa, h, qi, qak, qaj, goInt]
theorem rH {P : Program} {w : World} {t k e : TypeId} {ats : Array TypeId} {ty : TypeId} {b : Nat} {es : Array MapEntry} {ck : Nat} (hb : w.heap[b]? = some (.map es ck)) (h0 : ats[0]? = some t) (h : P.underlying t = some (.map k e)) :
 (Builtin.len_ ats ty #[.map (some b)]).run P w = .ok (.int .i64 es.size) w := by
 unfold Builtin.len_;simp only [h0];simp only [underlying, qf, run_program, qa, h, qi, qak, qaj, goInt, f0 hb]

theorem jD {P : Program} {w : World} {ρ : Operand -> Value} {c : Call} {ty : TypeId} {b : Builtin} (hc : c.callee = .builtin b) :
 (do let d <- resolve ρ c ty; invoke d.target d.args : Sem Next).run P w = (builtin b c.argTypes ty (c.args.map fun | .const _ => true | _ => false) (c.args.map ρ)).run P w := by
 unfold resolve;simp only [hc, qf, qi, qa, invoke];rfl

theorem rI {ρ : Operand -> Value} {c : Call} {x : Operand} (h : c.args.toList = [x]) : c.args.map ρ = #[ρ x] := by
 apply qav; simp [h]
theorem rJ {ρ : Operand -> Value} {c : Call} {l : List Value} (h : c.args.toList.map ρ = l) : c.args.map ρ = l.toArray := by
 apply qav; simp [h]
theorem xS {P : Program} {w : World} {ats : Array TypeId} {ty : TypeId} {k : IntKind} {a b : Int} : (Builtin.min_ ats ty #[.int k a, .int k b]).run P w = .ok (.int k (if b < a then b else a)) w := by
 simp [Builtin.min_, Builtin.min2]
theorem xU {P : Program} {w : World} {ats : Array TypeId} {ty : TypeId} {k : IntKind} {a b : Int} : (Builtin.max_ ats ty #[.int k a, .int k b]).run P w = .ok (.int k (if a < b then b else a)) w := by
 simp [Builtin.max_, Builtin.max2]

theorem gZ {P : Program} {w : World} {I : Nat -> Prop} {G : Nat -> Pl} {h : Hp} {a : Act} {e : Env} (hh : HRel w I G h) (hr : ERel w I G h e a.tmps) {A : List (Nat × Bool)} (hA : AOK A a.tmps)
 {o : Oper} {v : LV} (hp : bD P A e h o.op = some v) : ∃ cv, (execOp a.eval o).run P w = .ok (.value cv) w /\ LRel w I G h v cv := by
 unfold execOp;cases hop : o.op <;> rw [hop] at hp <;> simp only [bD] at hp <;> simp only
 case move x => exact ⟨_, rfl, aC hr hA hp⟩
 case assign x => exact ⟨_, rfl, aC hr hA hp⟩
 case pick c x y => exact xO hr hA hp
 case binOp op t x y yt =>
  split at hp
  ·rename_i u v' hu hv;split at hp
   ·rename_i r hb;cases hp;obtain ⟨cv, h1, h2⟩ := xM (x := x) (aC hr hA hu) (aC hr hA hv) hb;exact ⟨cv, aY h1, .pv _ _ h2⟩
   ·cases hp
  ·cases hp
 case unOp op t x =>
  cases op <;> simp only [bD] at hp
  case not =>
   split at hp
   ·rename_i b hb;cases hp;refine ⟨.bool (!b), ?_, .pv _ _ (.bool _)⟩;rw [(aC hr hA hb).bool_eq];rfl
   ·cases hp
  case neg =>
   split at hp
   ·rename_i k n hb;cases hp;refine ⟨.int k (k.wrap (0 - n)), ?_, .pv _ _ (.int _ _)⟩;rw [(aC hr hA hb).int_eq];rfl
   ·cases hp
  all_goals cases hp
 case extract x i =>
  split at hp
  ·rename_i vs hx;have hx' := aC hr hA hx;cases hx' with
   | pv _ _ h1 =>
     generalize a.eval x = cx at h1;cases h1 with
     | tup _ cvs h2 h3 =>
       split at hp
       ·rename_i u hu;cases hp;have hi : i < cvs.size := by rw [h2]; exact (List.getElem?_eq_some_iff.1 hu).1
        refine ⟨cvs.getD i undef, ?_, .pv _ _ (h3 i u hu)⟩;simp [Instr.extract, hi]
       ·cases hp
  ·rename_i vs hx;have hx' := aC hr hA hx;generalize a.eval x = cx at hx';cases hx' with
   | tup _ cvs h2 h3 =>
     have hi : i < cvs.size := by rw [h2]; exact (List.getElem?_eq_some_iff.1 hp).1
     refine ⟨cvs.getD i undef, ?_, h3 i v hp⟩;simp [Instr.extract, hi]
  ·cases hp
 case convert s d x =>
  split at hp
  ·rename_i ds k ki n hs hd hx;cases hp;refine ⟨.int k (k.wrap n), ?_, .pv _ _ (.int _ _)⟩;rw [(aC hr hA hx).int_eq];apply aY;unfold convert;simp only [underlying, qf, run_program, qa, hs, hd, qi];rfl
  ·cases hp
 case makeFunc fn first caps =>
  cases fn <;> simp only at hp
  case func f =>
   cases hf : (first.size == 0 : Bool) with
   | false => rw [hf] at hp; cases hp
   | true =>
     rw [hf] at hp;simp only [cond_true] at hp;have hfe : first = #[] := by apply qaw; simpa using hf
     subst hfe;split at hp
     ·rename_i vs hv;obtain ⟨h1, h2⟩ := jB hr hA hv;have hsz : (caps.map a.eval).size = vs.length := by simpa using h1
      have hel : ∀ (k : Nat) v, vs[k]? = some v -> LRel w I G h v ((caps.map a.eval).getD k undef) := fun k v hk => by
       have := h2 k v hk
       have e : (caps.map a.eval).getD k undef = (caps.toList.map a.eval).getD k undef := by
        have : (caps.map a.eval) = (caps.toList.map a.eval).toArray := by apply qav; simp
        rw [this]; simp
       rw [e]; exact this
      split at hp
      ·rename_i ps hps;cases hp;have hvs := dY hps;subst hvs;refine ⟨.func (.func f) #[] (caps.map a.eval), by simp [Instr.makeFunc], .pv _ _ (.fn f ps _ (by simpa using hsz) fun k v hk => ?_)⟩
       have := hel k (.pv v) (by simp [hk]);generalize (caps.map a.eval).getD k undef = cv at this;cases this; assumption
      ·cases hp;exact ⟨.func (.func f) #[] (caps.map a.eval), by simp [Instr.makeFunc], .fn f vs _ hsz hel⟩
     ·cases hp
  all_goals cases hp
 case call c =>
  split at hp
  ·rename_i hc;rw [jD hc];split at hp
   ·rename_i t x h0 hx;rw [rI hx];show ∃ cv, (dR (Builtin.len_ c.argTypes o.type #[a.eval x])).run P w = _ /\ _;split at hp
    ·rename_i e u ht hu;have hu' := aC hr hA hu;generalize a.eval x = cx at hu';split at hp
     ·cases hp;cases hu' with
      | pv _ _ h1 =>
        cases h1 with
        | slnil => exact ⟨_, aY (f9 h0 ht), .pv _ _ (.int _ _)⟩
        | slz => exact ⟨_, aY (f9 h0 ht), .pv _ _ (.int _ _)⟩
        | sl => exact ⟨_, aY (f9 h0 ht), .pv _ _ (.int _ _)⟩
     ·rename_i ob;split at hp
      ·rename_i ty m n es ho;cases hp;cases hu' with
       | ownNil _ ty' m' es' h1 =>
         have := hh.obs _ _ h1;rw [ho] at h1;cases h1;simp only [ORel] at this;subst this;exact ⟨_, aY (f9 h0 ht), .pv _ _ (.int _ _)⟩
       | own _ ty' m' es' ad h0' h1 =>
         rw [ho] at h1;cases h1;exact ⟨_, aY (f9 h0 ht), .pv _ _ (.int _ _)⟩
      ·cases hp
     ·cases hp;cases hu' with
      | sub => exact ⟨_, aY (f9 h0 ht), .pv _ _ (.int _ _)⟩
      | subNil _ _ _ ty m es q1 q2 => subst q2; refine ⟨_, aY (f9 h0 ht), ?_⟩; simp only [Nat.sub_self]; exact .pv _ _ (.int _ _)
     ·cases hp
    ·rename_i mk me u ht hu;have hu' := aC hr hA hu;generalize a.eval x = cx at hu';split at hp
     ·cases hp;cases hu' with
      | pv _ _ h1 => cases h1; exact ⟨_, aY (xQ h0 ht), .pv _ _ (.int _ _)⟩
     ·cases hp;cases hu' with
      | pv _ _ h1 =>
        cases h1 with
        | mp kvs b ck es h3 h4 h5 h6 h7 => rw [<- h5.1]; exact ⟨_, aY (rH h4 h0 ht), .pv _ _ (.int _ _)⟩
     ·split at hp
      ·rename_i kvs ho;cases hp;obtain ⟨es, ck, e1, e2, e3⟩ := LRel.map_inv hh hu' ho;subst e1;rw [<- e3];exact ⟨_, aY (rH e2 h0 ht), .pv _ _ (.int _ _)⟩
      ·cases hp
     ·cases hp
    ·rename_i n e _ ht hu;have hu' := aC hr hA hu;cases hp;refine ⟨_, aY (xP (e := e) (fun s hs => ?_) h0 ht), .pv _ _ (.int _ _)⟩;rw [hs] at hu';cases hu' with
     | pv _ _ h1 => cases h1
    ·cases hp
   ·cases hp
  ·rename_i hc;rw [jD hc];split at hp
   ·rename_i k x k' y hv;obtain ⟨h1, h2⟩ := jB hr hA hv;cases hk : bT k k' with
    | false => rw [hk] at hp; cases hp
    | true =>
      rw [hk] at hp;have := c0 hk;subst this;cases hp
      have hl : c.args.toList.map a.eval = [.int k x, .int k y] := by
       have e0 := (h2 0 _ rfl).int_eq;have e1 := (h2 1 _ rfl).int_eq;simp only [qau, qbh] at h1
       match hm : c.args.toList, h1 with
       | [p, q], _ => rw [hm] at e0 e1; simp at e0 e1; simp [e0, e1]
      rw [rJ hl];exact ⟨_, aY xS, .pv _ _ (.int _ _)⟩
   ·cases hp
  ·rename_i hc;rw [jD hc];split at hp
   ·rename_i k x k' y hv;obtain ⟨h1, h2⟩ := jB hr hA hv;cases hk : bT k k' with
    | false => rw [hk] at hp; cases hp
    | true =>
      rw [hk] at hp;have := c0 hk;subst this;cases hp
      have hl : c.args.toList.map a.eval = [.int k x, .int k y] := by
       have e0 := (h2 0 _ rfl).int_eq;have e1 := (h2 1 _ rfl).int_eq;simp only [qau, qbh] at h1
       match hm : c.args.toList, h1 with
       | [p, q], _ => rw [hm] at e0 e1; simp at e0 e1; simp [e0, e1]
      rw [rJ hl];exact ⟨_, aY xU, .pv _ _ (.int _ _)⟩
   ·cases hp
  ·cases hp
 all_goals cases hp
abbrev Kt := LV -> Env -> Hp -> Prop

def jE (P : Program) (f : Nat) : Prop := ∃ fn, P.funcs[f]? = some fn /\ fn.body.isNone = false /\ (fn.name == "runtime.NumGoroutine") = false
def ACall (P : Program) (f : Nat) (args : List LV) (h : Hp) (Q : LV -> Hp -> Prop) : Prop :=
 jE P f /\ ∀ (w : World) (I : Nat -> Prop) (G : Nat -> Pl) (cargs : Array Value), HRel w I G h -> cargs.size = args.length ->
  (∀ (i : Nat) v, args[i]? = some v -> LRel w I G h v (cargs.getD i undef)) ->
  Calls P f cargs w fun e w' => ∃ cv r h' I' G', e = .returned cv /\ Q r h' /\ HRel w' I' G' h' /\ LRel w' I' G' h' r cv /\ TrH w I G h w' I' G' h'
def PCall (P : Program) (f : Nat) (args : List PV) (Q : PV -> Prop) : Prop := ACall P f (args.map .pv) [] fun r _ => ∃ v, r = .pv v /\ Q v

theorem ACall.mono {P : Program} {f : Nat} {args : List LV} {h : Hp} {Q Q' : LV -> Hp -> Prop} (hc : ACall P f args h Q) (hq : ∀ r h', Q r h' -> Q' r h') : ACall P f args h Q' :=
 ⟨hc.1, fun w I G cargs h1 h2 h3 => (hc.2 w I G cargs h1 h2 h3).mono fun _ _ ⟨cv, r, h', I', G', e1, e2, e3⟩ => ⟨cv, r, h', I', G', e1, hq _ _ e2, e3⟩⟩
theorem PCall.mono {P : Program} {f : Nat} {args : List PV} {Q Q' : PV -> Prop} (hc : PCall P f args Q) (hq : ∀ v, Q v -> Q' v) : PCall P f args Q' :=
 ACall.mono hc fun _ _ ⟨v, e, q⟩ => ⟨v, e, hq v q⟩

def OpS (P : Program) (o : Oper) (e : Env) (h : Hp) (K : Kt) : Prop :=
 ∀ (w : World) (I : Nat -> Prop) (G : Nat -> Pl) (a : Act) (next : Act -> World -> Prop) (Qx : Exit -> Act -> World -> Prop), HRel w I G h -> ERel w I G h e a.tmps ->
  (∀ v e' h' w' I' G' cv, K v e' h' -> HRel w' I' G' h' -> ERel w' I' G' h' e' a.tmps -> LRel w' I' G' h' v cv -> TrH w I G h w' I' G' h' -> next (a.put o.dst cv) w') ->
  o.wp P a w next Qx

def KA (w w2 : World) : Prop := w.heap.size <= w2.heap.size /\ ∀ b, b < w.heap.size -> w2.heap[b]? = w.heap[b]?
theorem KA.refl (w : World) : KA w w := ⟨qe _, fun _ _ => rfl⟩
theorem KA.trans {a b c : World} (h : KA a b) (k : KA b c) : KA a c := ⟨qai h.1 k.1, fun x hx => (k.2 x (qx hx h.1)).trans (h.2 x hx)⟩
def OpK (P : Program) (o : Oper) (e : Env) (h : Hp) (K : Kt) : Prop :=
 ∀ (w : World) (I : Nat -> Prop) (G : Nat -> Pl) (a : Act) (next : Act -> World -> Prop) (Qx : Exit -> Act -> World -> Prop), HRel w I G h -> ERel w I G h e a.tmps ->
  (∀ v e' h' w' I' G' cv, K v e' h' -> HRel w' I' G' h' -> ERel w' I' G' h' e' a.tmps -> LRel w' I' G' h' v cv -> TrH w I G h w' I' G' h' -> KA w w' -> next (a.put o.dst cv) w') ->
  o.wp P a w next Qx
def OpZ (Z : World -> World -> Prop) (P : Program) (o : Oper) (e : Env) (h : Hp) (K : Kt) : Prop :=
 ∀ (w : World) (I : Nat -> Prop) (G : Nat -> Pl) (a : Act) (next : Act -> World -> Prop) (Qx : Exit -> Act -> World -> Prop), HRel w I G h -> ERel w I G h e a.tmps ->
  (∀ v e' h' w' I' G' cv, K v e' h' -> HRel w' I' G' h' -> ERel w' I' G' h' e' a.tmps -> LRel w' I' G' h' v cv -> TrH w I G h w' I' G' h' -> Z w w' -> next (a.put o.dst cv) w') ->
  o.wp P a w next Qx
theorem OpK.opS {P : Program} {o : Oper} {e : Env} {h : Hp} {K : Kt} (hk : OpK P o e h K) : OpS P o e h K :=
 fun w I G a next Qx hh he hn => hk w I G a next Qx hh he fun v e' h' w' I' G' cv h1 h2 h3 h4 h5 _ => hn v e' h' w' I' G' cv h1 h2 h3 h4 h5

theorem KA.cell {w w2 : World} (h : KA w w2) {a : Addr} {v : Value} (hc : w.cell? a = some v) : w2.cell? a = some v := by
 have := World.block_lt_of_cell? w a hc;rw [<- hc];simp only [World.cell?, h.2 _ this]
def OpV (P : Program) (o : Oper) (e : Env) (h : Hp) (K : Kt) : Prop :=
 ∃ v, K v e h /\ ∀ (w : World) (I : Nat -> Prop) (G : Nat -> Pl) (a : Act), HRel w I G h -> ERel w I G h e a.tmps -> ∃ cv, (∀ w2, KA w w2 -> (execOp a.eval o).run P w2 = .ok (.value cv) w2) /\ LRel w I G h v cv
theorem OpV.pure {P : Program} {o : Oper} {e : Env} {h : Hp} {K : Kt} {v : LV} (hK : K v e h)
 (hrun : ∀ (w : World) (I : Nat -> Prop) (G : Nat -> Pl) (a : Act), HRel w I G h -> ERel w I G h e a.tmps -> ∃ cv, (∀ w2, KA w w2 -> (execOp a.eval o).run P w2 = .ok (.value cv) w2) /\ LRel w I G h v cv) : OpV P o e h K := ⟨v, hK, hrun⟩
def OpF (P : Program) (o : Oper) (e : Env) (h : Hp) (K : Kt) : Prop :=
 ∃ v, K v e h /\ ∀ (w : World) (I : Nat -> Prop) (G : Nat -> Pl) (a : Act), HRel w I G h -> ERel w I G h e a.tmps -> ∃ cv, (∀ w2, (execOp a.eval o).run P w2 = .ok (.value cv) w2) /\ LRel w I G h v cv
theorem OpF.pure {P : Program} {o : Oper} {e : Env} {h : Hp} {K : Kt} {v : LV} (hK : K v e h)
 (hrun : ∀ (w : World) (I : Nat -> Prop) (G : Nat -> Pl) (a : Act), HRel w I G h -> ERel w I G h e a.tmps -> ∃ cv, (∀ w2, (execOp a.eval o).run P w2 = .ok (.value cv) w2) /\ LRel w I G h v cv) : OpF P o e h K := ⟨v, hK, hrun⟩
theorem OpF.opV {P : Program} {o : Oper} {e : Env} {h : Hp} {K : Kt} (hv : OpF P o e h K) : OpV P o e h K := by
 obtain ⟨v, hK, hrun⟩ := hv;exact ⟨v, hK, fun w I G a hh he => by obtain ⟨cv, h1, h2⟩ := hrun w I G a hh he; exact ⟨cv, fun w2 _ => h1 w2, h2⟩⟩
theorem OpV.opK {P : Program} {o : Oper} {e : Env} {h : Hp} {K : Kt} (hv : OpV P o e h K) : OpK P o e h K := by
 obtain ⟨v, hK, hrun⟩ := hv;intro w I G a next Qx hh he hn
 obtain ⟨cv, h1, h2⟩ := hrun w I G a hh he;unfold Oper.wp;rw [h1 w (KA.refl w)];exact hn v e h w I G cv hK hh he h2 (.refl _ _ _ _) (KA.refl w)
theorem OpV.opS {P : Program} {o : Oper} {e : Env} {h : Hp} {K : Kt} (hv : OpV P o e h K) : OpS P o e h K := by
 obtain ⟨v, hK, hrun⟩ := hv;intro w I G a next Qx hh he hn
 obtain ⟨cv, h1, h2⟩ := hrun w I G a hh he;unfold Oper.wp;rw [h1 w (KA.refl w)];exact hn v e h w I G cv hK hh he h2 (.refl _ _ _ _)

theorem OpS.pure {P : Program} {o : Oper} {e : Env} {h : Hp} {K : Kt} {v : LV} (hK : K v e h)
 (hrun : ∀ (w : World) (I : Nat -> Prop) (G : Nat -> Pl) (a : Act), HRel w I G h -> ERel w I G h e a.tmps -> ∃ cv, (execOp a.eval o).run P w = .ok (.value cv) w /\ LRel w I G h v cv) : OpS P o e h K := by
 intro w I G a next Qx hh he hn
 obtain ⟨cv, h1, h2⟩ := hrun w I G a hh he;unfold Oper.wp;rw [h1];exact hn v e h w I G cv hK hh he h2 (.refl _ _ _ _)
theorem OpS.pureP {P : Program} {A : List (Nat × Bool)} {o : Oper} {e : Env} {h : Hp} {K : Kt} {v : LV} (hp : bD P [] e h o.op = some v) (hK : K v e h) : OpS P o e h K :=
 OpS.pure hK fun w I G a hh he => gZ hh he (AOK.nil _) hp

def cellsOf : LV -> Option (List LV)
 | .pv (.agg cs) => some (cs.map .pv)
 | .pv (.tup _) => none
 | .pv .unit => none
 | .pv (.raw v) => bif v.oneCell' then some [.pv (.raw v)] else none
 | .agg cs => some cs
 | .tup _ => none
 | .bot => none
 | .spec .. => none
 | v => some [v]
theorem gA {w : World} {I : Nat -> Prop} {G : Nat -> Pl} {h : Hp} {v : LV} {cv : Value} (hr : LRel w I G h v cv) {cs : List LV} (hc : cellsOf v = some cs) :
 cv.cells.size = cs.length /\ ∀ (k : Nat) u, cs[k]? = some u -> LRel w I G h u (cv.cells.getD k undef) /\ (cv.cells.getD k undef).oneCell' = true := by
 have one : ∀ (x : Value) (y : LV), LRel w I G h y x -> x.oneCell' = true -> x.cells = #[x] -> x.cells.size = [y].length /\ ∀ (k : Nat) u, [y][k]? = some u -> LRel w I G h u (x.cells.getD k undef) /\ (x.cells.getD k undef).oneCell' = true := by
  intro x y h1 h2 h3;rw [h3];refine ⟨rfl, fun k u hk => ?_⟩;cases k with
  | zero => simp at hk; subst hk; exact ⟨h1, h2⟩
  | succ k => simp at hk
 cases hr with
 | bot => simp [cellsOf] at hc
 | pv p _ h1 =>
   cases h1 with
   | unit => simp [cellsOf] at hc
   | raw =>
     simp only [cellsOf] at hc;cases hv : cv.oneCell' with
     | false => rw [hv] at hc; cases hc
     | true => rw [hv] at hc; cases hc; exact one _ _ (.pv _ _ (.raw cv)) hv (by cases cv <;> first | rfl | cases hv)
   | tup => simp [cellsOf] at hc
   | agg ps vs e1 e2 e3 =>
     simp [cellsOf] at hc; subst hc;refine ⟨by simpa [Value.cells] using e1, fun k u hk => ?_⟩
     rw [qt] at hk;cases hp : ps[k]? with
     | none => rw [hp] at hk; cases hk
     | some p => rw [hp] at hk; cases hk; exact ⟨.pv _ _ (e2 k p hp), e3 k p hp⟩
   | int k n => simp [cellsOf] at hc; subst hc; exact one _ _ (.pv _ _ (.int k n)) rfl rfl
   | bool b => simp [cellsOf] at hc; subst hc; exact one _ _ (.pv _ _ (.bool b)) rfl rfl
   | slnil f => simp [cellsOf] at hc; subst hc; exact one _ _ (.pv _ _ (.slnil f)) rfl rfl
   | slz f a cap hf => simp [cellsOf] at hc; subst hc; exact one _ _ (.pv _ _ (.slz f a cap hf)) rfl rfl
   | sl f es b off cap sz c e1 e2 e3 e4 e5 e6 e7 => simp [cellsOf] at hc; subst hc; exact one _ _ (.pv _ _ (.sl f es b off cap sz c e1 e2 e3 e4 e5 e6 e7)) rfl rfl
   | nilp => simp [cellsOf] at hc; subst hc; exact one _ _ (.pv _ _ .nilp) rfl rfl
   | ptr cs b off c e1 e2 e3 e4 => simp [cellsOf] at hc; subst hc; exact one _ _ (.pv _ _ (.ptr cs b off c e1 e2 e3 e4)) rfl rfl
   | fn f cs vs e1 e2 => simp [cellsOf] at hc; subst hc; exact one _ _ (.pv _ _ (.fn f cs vs e1 e2)) rfl rfl
   | nilf => simp [cellsOf] at hc; subst hc; exact one _ _ (.pv _ _ .nilf) rfl rfl
   | nilm => simp [cellsOf] at hc; subst hc; exact one _ _ (.pv _ _ .nilm) rfl rfl
   | mp kvs b ck es e1 e2 e3 e4 e5 => simp [cellsOf] at hc; subst hc; exact one _ _ (.pv _ _ (.mp kvs b ck es e1 e2 e3 e4 e5)) rfl rfl
 | ownNil o ty m es e1 => simp [cellsOf] at hc; subst hc; exact one _ _ (.ownNil o ty m es e1) rfl rfl
 | own o ty m es ad e0 e1 => simp [cellsOf] at hc; subst hc; exact one _ _ (.own o ty m es ad e0 e1) rfl rfl
 | sub o a b cap off ty m es e1 e2 e3 e4 e5 => simp [cellsOf] at hc; subst hc; exact one _ _ (.sub o a b cap off ty m es e1 e2 e3 e4 e5) rfl rfl
 | subNil o a b ty m es e1 e2 => simp [cellsOf] at hc; subst hc; exact one _ _ (.subNil o a b ty m es e1 e2) rfl rfl
 | elt o i off ty m es e1 e2 => simp [cellsOf] at hc; subst hc; exact one _ _ (.elt o i off ty m es e1 e2) rfl rfl
 | box o off cs e1 => simp [cellsOf] at hc; subst hc; exact one _ _ (.box o off cs e1) rfl rfl
 | arr o off cs e1 => simp [cellsOf] at hc; subst hc; exact one _ _ (.arr o off cs e1) rfl rfl
 | fn f cs vs e1 e2 => simp [cellsOf] at hc; subst hc; exact one _ _ (.fn f cs vs e1 e2) rfl rfl
 | mp o kvs e1 => simp [cellsOf] at hc; subst hc; exact one _ _ (.mp o kvs e1) rfl rfl
 | iter o ty rem cur e1 => simp [cellsOf] at hc; subst hc; exact one _ _ (.iter o ty rem cur e1) rfl rfl
 | agg cs' vs e1 e2 e3 =>
   simp [cellsOf] at hc; subst hc;exact ⟨by simpa [Value.cells] using e1, fun k u hk => ⟨e2 k u hk, e3 k u hk⟩⟩
 | tup => simp [cellsOf] at hc

theorem bG (w : World) (o : Obj) {b : Nat} (hb : b < w.heap.size) : (w.alloc o).heap[b]? = w.heap[b]? := RowKit.Below.heap_alloc w o b hb
theorem gC (w : World) (o : Obj) : (w.alloc o).heap[w.heap.size]? = some o := heap_alloc_new w o
theorem Keeps.alloc (w : World) (I I' : Nat -> Prop) (o : Obj) (hI : ∀ b, I b -> I' b) : Keeps w I (w.alloc o) I' := ⟨fun _ _ hb => bG w o hb, fun b h _ => hI b h⟩

def aG (G : Nat -> Pl) (n : Nat) (p : Pl) : Nat -> Pl := fun i => if i = n then p else G i
theorem Like.push (G : Nat -> Pl) (h : Hp) (p : Pl) (ob : Ob) : Like G (aG G h.length p) h (h ++ [ob]) := fun o x ho => by
 have hlt : o < h.length := (List.getElem?_eq_some_iff.1 ho).1;refine ⟨⟨x, by rw [qg hlt]; exact ho, x.like_refl⟩, fun _ => ?_⟩;simp [aG, qaq hlt]

theorem HRel.push {w : World} {I : Nat -> Prop} {G : Nat -> Pl} {h : Hp} (hh : HRel w I G h) (o : Obj) (ob : Ob) (p : Pl) (hp : p.blk = w.heap.size)
 (hob : ORel (w.alloc o) I (aG G h.length p) (h ++ [ob]) p ob) : HRel (w.alloc o) I (aG G h.length p) (h ++ [ob]) := by
 have hk : Keeps w I (w.alloc o) I := .alloc w I I o fun _ x => x;have hl := Like.push G h p ob;have old : ∀ i, i < h.length -> aG G h.length p i = G i := fun i hi => by simp [aG, qaq hi]
 have new : aG G h.length p h.length = p := by simp [aG]
 have split : ∀ (i : Nat) x, (h ++ [ob])[i]? = some x -> (i < h.length /\ h[i]? = some x) ∨ (i = h.length /\ x = ob) := fun i x hx => by
  rcases qat i h.length with hi | hi | hi
  ·rw [qg hi] at hx; exact .inl ⟨hi, hx⟩
  ·subst hi; simp at hx; exact .inr ⟨rfl, hx.symm⟩
  ·rw [qz (by simp; omega)] at hx; cases hx
 have blk : ∀ (i : Nat) x, h[i]? = some x -> x.alive (G i) -> (G i).blk < w.heap.size := fun i x hx ha => hh.blk_lt ⟨i, x, hx, ha, rfl⟩;refine ⟨fun i x hx => ?_, fun i j x y hx ax hy ay hb => ?_, fun i x hx ax => ?_, fun b hb => by simp; exact qbq (hh.cl b hb)⟩
 ·rcases split i x hx with ⟨hi, hx⟩ | ⟨rfl, rfl⟩
  ·rw [old i hi];have := hh.obs i x hx;cases x with
   | dead => trivial
   | box cs =>
     obtain ⟨vs, ty, e1, e2, e3⟩ := this;exact ⟨vs, ty, by rw [bG w o (blk i _ hx trivial)]; exact e1, e2, fun k v hv => ⟨(e3 k v hv).1.mono hk hl, (e3 k v hv).2⟩⟩
   | arr cs =>
     obtain ⟨vs, ty, e1, e2, e3⟩ := this;exact ⟨vs, ty, by rw [bG w o (blk i _ hx trivial)]; exact e1, e2, fun k v hv => ⟨(e3 k v hv).1.mono hk.1 hk.2, (e3 k v hv).2⟩⟩
   | sl ty m n es =>
     cases n with
     | true => exact this
     | false =>
       obtain ⟨e1, e2, e3, e3', e4, e5⟩ := this;refine ⟨e1, e2, e3, e3', e4, fun hc => ?_⟩;obtain ⟨vs, f1, f2, f3⟩ := e5 hc;exact ⟨vs, by rw [bG w o (blk i _ hx ⟨rfl, hc⟩)]; exact f1, f2, fun i' e he k v hv => ⟨(f3 i' e he k v hv).1.mono hk.1 hk.2, (f3 i' e he k v hv).2⟩⟩
   | mp kvs =>
     obtain ⟨es, ck, e1, e2, e3⟩ := this;exact ⟨es, ck, by rw [bG w o (blk i _ hx trivial)]; exact e1, e2, fun k kv hv => ⟨(e3 k kv hv).1.mono hk.1 hk.2, (e3 k kv hv).2.mono hk.1 hk.2⟩⟩
   | iter ty rem cur => exact IterRel.mono this (bG w o (blk i _ hx trivial)) hk
  ·rw [new]; exact hob
 ·rcases split i x hx with ⟨hi, hx'⟩ | ⟨rfl, rfl⟩ <;> rcases split j y hy with ⟨hj, hy'⟩ | ⟨rfl, rfl⟩
  ·rw [old i hi] at ax hb; rw [old j hj] at ay hb;exact hh.sep i j x y hx' ax hy' ay hb
  ·rw [old i hi] at ax hb; rw [new] at hb;have := blk i x hx' ax; omega
  ·rw [old j hj] at ay hb; rw [new] at hb;have := blk j y hy' ay; omega
  ·rfl
 ·rcases split i x hx with ⟨hi, hx⟩ | ⟨rfl, rfl⟩
  ·rw [old i hi] at ax ⊢; exact hh.nI i x hx ax
  ·rw [new]; intro hI; have := hh.cl _ hI; omega
def gD : Obj -> Prop
 | .cells _ _ (_, hi) => hi = 0
 | _ => True
theorem nE {w : World} {o : Obj} (h : gD o) (a : Addr) : (w.alloc o).frozen? a = w.frozen? a := by
 by_cases e : a.block = w.heap.size
 ·have e1 : (w.alloc o).heap[a.block]? = some o := by rw [e]; exact (MapKept.heap_alloc w _).1
  have e2 : w.heap[a.block]? = none := by rw [e]; simp
  simp only [World.frozen?, e1, e2];cases o with
  | cells c t f => obtain ⟨lo, hi⟩ := f; simp only [gD] at h; subst h; simp
  | _ => rfl
 ·have : (w.alloc o).heap[a.block]? = w.heap[a.block]? := by
   rcases qbe a.block w.heap.size with hl | hl
   ·exact bG w o hl
   ·rw [qaa hl, qaa (by simp; omega)]
  simp only [World.frozen?, this]
theorem Tr.push {w : World} {I : Nat -> Prop} {G : Nat -> Pl} {h : Hp} (o : Obj) (ob : Ob) (p : Pl) (hp : p.blk = w.heap.size) (hu : gD o := by first | exact rfl | trivial) :
 Tr w I (aD h G) (w.alloc o) I (aD (h ++ [ob]) (aG G h.length p)) :=
 ⟨rfl, rfl, rfl, by simp, fun b hb _ => bG w o hb, fun _ x => x, fun _ x => .inl x, fun b ⟨i, x, hx, ax, hb⟩ => (by
  rcases qat i h.length with hi | hi | hi
  ·rw [qg hi] at hx;have : aG G h.length p i = G i := by simp [aG, qaq hi]
   rw [this] at ax hb;exact .inl ⟨i, x, hx, ax, hb⟩
  ·subst hi;have : aG G h.length p h.length = p := by simp [aG]
   rw [this, hp] at hb;exact .inr (by omega)
  ·rw [qz (by simp; omega)] at hx; cases hx), fun a _ => nE hu a, qe _⟩
theorem HRel.imm {w : World} {I : Nat -> Prop} {G : Nat -> Pl} {h : Hp} (hh : HRel w I G h) (o : Obj) : HRel (w.alloc o) (fun b => I b ∨ b = w.heap.size) G h := by
 have hk : Keeps w I (w.alloc o) (fun b => I b ∨ b = w.heap.size) := .alloc w I _ o fun _ x => .inl x;have hl := Like.refl G h;have blk : ∀ (i : Nat) x, h[i]? = some x -> x.alive (G i) -> (G i).blk < w.heap.size := fun i x hx ha => hh.blk_lt ⟨i, x, hx, ha, rfl⟩;refine ⟨fun i x hx => ?_, hh.sep, fun i x hx ax hI => ?_, fun b hb => ?_⟩
 ·have := hh.obs i x hx;cases x with
  | dead => trivial
  | box cs =>
    obtain ⟨vs, ty, e1, e2, e3⟩ := this;exact ⟨vs, ty, by rw [bG w o (blk i _ hx trivial)]; exact e1, e2, fun k v hv => ⟨(e3 k v hv).1.mono hk hl, (e3 k v hv).2⟩⟩
  | arr cs =>
    obtain ⟨vs, ty, e1, e2, e3⟩ := this;exact ⟨vs, ty, by rw [bG w o (blk i _ hx trivial)]; exact e1, e2, fun k v hv => ⟨(e3 k v hv).1.mono hk.1 hk.2, (e3 k v hv).2⟩⟩
  | sl ty m n es =>
    cases n with
    | true => exact this
    | false =>
      obtain ⟨e1, e2, e3, e3', e4, e5⟩ := this;refine ⟨e1, e2, e3, e3', e4, fun hc => ?_⟩;obtain ⟨vs, f1, f2, f3⟩ := e5 hc;exact ⟨vs, by rw [bG w o (blk i _ hx ⟨rfl, hc⟩)]; exact f1, f2, fun i' e he k v hv => ⟨(f3 i' e he k v hv).1.mono hk.1 hk.2, (f3 i' e he k v hv).2⟩⟩
  | mp kvs =>
    obtain ⟨es, ck, e1, e2, e3⟩ := this;exact ⟨es, ck, by rw [bG w o (blk i _ hx trivial)]; exact e1, e2, fun k kv hv => ⟨(e3 k kv hv).1.mono hk.1 hk.2, (e3 k kv hv).2.mono hk.1 hk.2⟩⟩
  | iter ty rem cur => exact IterRel.mono this (bG w o (blk i _ hx trivial)) hk
 ·rcases hI with hI | hI
  ·exact hh.nI i x hx ax hI
  ·have := blk i x hx ax; omega
 ·rcases hb with hb | hb
  ·simp; exact qbq (hh.cl b hb)
  ·simp; omega
theorem Tr.imm {w : World} {I own : Nat -> Prop} (o : Obj) (hu : gD o := by first | exact rfl | trivial) : Tr w I own (w.alloc o) (fun b => I b ∨ b = w.heap.size) own :=
 ⟨rfl, rfl, rfl, by simp, fun b hb _ => bG w o hb, fun _ x => .inl x, fun _ x => x.elim .inl (fun e => .inr (.inr (by omega))), fun _ x => .inl x, fun a _ => nE hu a, qe _⟩
theorem rK {G : Nat -> Pl} {h : Hp} (ob : Ob) (p : Pl) : ∀ (o : Nat) ob', o < h.length -> (h ++ [ob])[o]? = some ob' -> ob'.fixed = true -> aG G h.length p o = G o /\ ∃ ob, h[o]? = some ob /\ ob.fixed = true := fun o ob' ho hx hf => by
 rw [qg ho] at hx;exact ⟨by simp [aG, qaq ho], ob', hx, hf⟩
theorem TrH.push {w : World} {I : Nat -> Prop} {G : Nat -> Pl} {h : Hp} (o : Obj) (ob : Ob) (p : Pl) (hp : p.blk = w.heap.size) (hu : gD o := by first | exact rfl | trivial) :
 TrH w I G h (w.alloc o) I (aG G h.length p) (h ++ [ob]) := ⟨Tr.push o ob p hp hu, by simp, rK ob p⟩
theorem TrH.imm {w : World} {I : Nat -> Prop} {G : Nat -> Pl} {h : Hp} (o : Obj) (hu : gD o := by first | exact rfl | trivial) : TrH w I G h (w.alloc o) (fun b => I b ∨ b = w.heap.size) G h := .same (Tr.imm o hu)
variable {P : Program} {w : World} {I : Nat -> Prop} {G : Nat -> Pl} {h : Hp} {e : Env} {o : Oper} {t : TypeId} {K : Kt} {cv : Value} {a : Act}
theorem bI (b off n : Nat) : (⟨b, off, none⟩ : Addr).add n = ⟨b, off + n, none⟩ := by
 unfold Addr.add; split <;> simp_all
def aB (es : List (List PV)) (n : Int) (sz : Nat) : Prop := 0 <= n /\ n < es.length /\ (es.getD n.toNat []).length = sz

theorem nF {t el : TypeId} {ti : TypeInfo} {a : Addr} {len cap : Nat} {k : IntKind} {n : Int}
 (ht : P.underlying t = some (.slice el)) (hi : P.info? el = some ti) (h0 : 0 <= n) (h1 : n < len) :
 (Instr.indexAt t (.slice (some a) len cap) (.int k n)).run P w = .ok (.pointer (some (a.add (n.toNat * ti.size)))) w := by
 unfold Instr.indexAt;simp only [asIntOf, underlying, typeInfo, sizeOf, qf, run_program, qi, qa, ht, hi, if_pos (And.intro h0 h1)]
theorem kS {t el : TypeId} {ti : TypeInfo} {a : Addr} {len : Nat} {k : IntKind} {n : Int}
 (ht : P.underlying t = some (.array len el)) (hi : P.info? el = some ti) (h0 : 0 <= n) (h1 : n < len) :
 (Instr.indexAt t (.pointer (some a)) (.int k n)).run P w = .ok (.pointer (some (a.add (n.toNat * ti.size)))) w := by
 unfold Instr.indexAt;simp only [asIntOf, underlying, typeInfo, sizeOf, Instr.sureAddr, qf, run_program, qi, qa, ht, hi, if_pos (And.intro h0 h1)]

def kT (P : Program) (e : Env) (h : Hp) (t : TypeId) (x i : Operand) (K : Kt) : Prop :=
 match aF [] e x, aF [] e i with
 | some u, some (.pv (.int _ n)) =>
   match P.underlying t with
   | some (.slice el) =>
     match P.info? el with
     | some ti =>
       match u with
       | .pv (.sl _ _ es) => aB es n ti.size /\ K (.pv (.ptr (es.getD n.toNat []))) e h
       | .own o => match h[o]? with
         | some (.sl _ _ _ es) => aB es n ti.size /\ K (.elt o n.toNat 0) e h
         | _ => aA 101
       | .sub o a b => match h[o]? with
         | some (.sl _ _ _ es) => (0 <= n /\ n < (b : Int) - a /\ (es.getD (a + n.toNat) []).length = ti.size) /\ K (.elt o (a + n.toNat) 0) e h
         | _ => aA 102
       | _ => aA 103
     | none => aA 104
   | some (.array len el) =>
     match P.info? el with
     | some ti =>
       match u with
       | .pv (.ptr cs) => (0 <= n /\ n < len) /\ K (.pv (.ptr (cs.drop (n.toNat * ti.size)))) e h
       | .box o off => (0 <= n /\ n < len) /\ K (.box o (off + n.toNat * ti.size)) e h
       | .elt o i off => (0 <= n /\ n < len) /\ K (.elt o i (off + n.toNat * ti.size)) e h
       | _ => aA 105
     | none => aA 106
   | _ => aA 107
 | _, _ => aA 108

theorem Rep.ptr_drop {cs : List PV} {a : Addr} (hr : Rep w I (.ptr cs) cv) (k : Nat) :
 ∃ b off, cv = .pointer (some ⟨b, off, none⟩) /\ Rep w I (.ptr (cs.drop k)) (.pointer (some ⟨b, off + k, none⟩)) := by
 cases hr with
 | ptr _ b off c h3 h5 h6 h7 =>
   refine ⟨b, off, rfl, .ptr _ b (off + k) (fun i => c (k + i)) h3 (fun i v hv => ?_) (fun i v hv => ?_) (fun i v hv => ?_)⟩ <;> rw [qr] at hv
   ·rw [show off + k + i = off + (k + i) by omega]; exact h5 _ v hv
   ·exact h6 _ v hv
   ·exact h7 _ v hv

theorem rL {x i : Operand} (ho : o.op = .indexAddr t x i) (hK : kT P e h t x i K) : OpV P o e h K := by
 unfold kT at hK
 have run : ∀ (a : Act) (w : World) v, (Instr.indexAt t (a.eval x) (a.eval i)).run P w = .ok v w -> (execOp a.eval o).run P w = .ok (.value v) w := fun a w v hv => by
  unfold execOp; rw [ho]; exact aY hv
 split at hK
 ·rename_i u k n hu hn;split at hK
  ·rename_i el ht;split at hK
   ·rename_i ti hi;split at hK
    ·rename_i nl fl es;obtain ⟨⟨h1, h2, h3⟩, hK⟩ := hK;refine OpV.pure hK fun w I G a hh he => ?_;have hu' := aC he (AOK.nil _) hu;have hn' := (aC he (AOK.nil _) hn).int_eq;cases hu' with
     | pv _ _ hr =>
       generalize hcx : a.eval x = cx at hr;cases hr with
       | slnil => simp at h2; omega
       | slz => simp at h2; omega
       | sl _ _ b off cap sz c g1 g2 g3 g4 g5 g6 g7 =>
         refine ⟨_, fun w2 _ => run a w2 _ (by rw [hcx, hn']; exact nF ht hi h1 h2), ?_⟩;rw [bI];have hlt : n.toNat < es.length := by omega
         have hget : es[n.toNat]? = some (es.getD n.toNat []) := by simp [qah, qj hlt]
         have hsz := g4 _ _ hget;rw [h3] at hsz;subst hsz;exact .pv _ _ (.ptr _ b _ (c n.toNat) (g3 _ _ hget) (fun k v hv => g5 _ _ k v hget hv) (fun k v hv => g6 _ _ k v hget hv) (fun k v hv => g7 _ _ k v hget hv))
    ·rename_i ob;split at hK
     ·rename_i ty m nl es hob;obtain ⟨⟨h1, h2, h3⟩, hK⟩ := hK;refine OpV.pure hK fun w I G a hh he => ?_;have hu' := aC he (AOK.nil _) hu;have hn' := (aC he (AOK.nil _) hn).int_eq;generalize hcx : a.eval x = cx at hu';cases hu' with
      | ownNil _ ty' m' es' g1 =>
        have := hh.obs _ _ g1;rw [hob] at g1; cases g1;simp only [ORel] at this;subst this; simp at h2; omega
      | own _ ty' m' es' ad g0 g1 =>
        have hor := hh.obs _ _ g1;rw [hob] at g1; cases g1;have hor1 := hor.1;have g0 := g0 (by omega);subst g0;have hlt : n.toNat < es.length := by omega
        have hget : es[n.toNat]? = some (es.getD n.toNat []) := by simp [qah, qj hlt]
        have hsz := hor.2.2.2.2.1 _ _ hget;rw [h3] at hsz;refine ⟨_, fun w2 _ => run a w2 _ (by rw [hcx, hn']; exact nF ht hi h1 h2), ?_⟩;rw [bI, hsz];exact .elt ob n.toNat 0 _ _ _ hob hlt
     ·cases hK
    ·rename_i ob lo hi';split at hK
     ·rename_i ty m nl es hob;obtain ⟨⟨h1, h2, h3⟩, hK⟩ := hK;refine OpV.pure hK fun w I G a hh he => ?_;have hu' := aC he (AOK.nil _) hu;have hn' := (aC he (AOK.nil _) hn).int_eq;generalize hcx : a.eval x = cx at hu';cases hu' with
      | subNil _ _ _ ty' m' es' g1 g2 => omega
      | sub _ _ _ cap ad ty' m' es' g1 g2 g3 g4 g5 =>
        have g5 := g5 (by omega);subst g5;have hor := hh.obs _ _ g1;rw [hob] at g1; cases g1;have hlt : lo + n.toNat < es.length := by omega
        have hget : es[lo + n.toNat]? = some (es.getD (lo + n.toNat) []) := by simp [qah, qj hlt]
        have hsz := hor.2.2.2.2.1 _ _ hget;rw [h3] at hsz;refine ⟨_, fun w2 _ => run a w2 _ (by rw [hcx, hn']; exact nF ht hi h1 (by omega)), ?_⟩;rw [bI, hsz, qag, <- qk];exact .elt ob (lo + n.toNat) 0 _ _ _ hob hlt
     ·cases hK
    ·cases hK
   ·cases hK
  ·rename_i len el ht;split at hK
   ·rename_i ti hi;split at hK
    ·rename_i cs;obtain ⟨⟨h1, h2⟩, hK⟩ := hK;refine OpV.pure hK fun w I G a hh he => ?_;have hu' := aC he (AOK.nil _) hu;have hn' := (aC he (AOK.nil _) hn).int_eq;cases hu' with
     | pv _ _ hr =>
       obtain ⟨b, off, e1, e2⟩ := hr.ptr_drop (a := ⟨0, 0, none⟩) (n.toNat * ti.size);exact ⟨_, fun w2 _ => run a w2 _ (by rw [e1, hn']; exact kS ht hi h1 h2), by rw [bI]; exact .pv _ _ e2⟩
    ·rename_i ob off;obtain ⟨⟨h1, h2⟩, hK⟩ := hK;refine OpV.pure hK fun w I G a hh he => ?_;have hu' := aC he (AOK.nil _) hu;have hn' := (aC he (AOK.nil _) hn).int_eq;generalize hcx : a.eval x = cx at hu';cases hu' with
     | box _ _ cs g1 => exact ⟨_, fun w2 _ => run a w2 _ (by rw [hcx, hn']; exact kS ht hi h1 h2), by rw [bI, qag]; exact .box _ _ _ g1⟩
     | arr _ _ cs g1 => exact ⟨_, fun w2 _ => run a w2 _ (by rw [hcx, hn']; exact kS ht hi h1 h2), by rw [bI, qag]; exact .arr _ _ _ g1⟩
    ·rename_i ob i' off;obtain ⟨⟨h1, h2⟩, hK⟩ := hK;refine OpV.pure hK fun w I G a hh he => ?_;have hu' := aC he (AOK.nil _) hu;have hn' := (aC he (AOK.nil _) hn).int_eq;generalize hcx : a.eval x = cx at hu';cases hu' with
     | elt _ _ _ ty m es g1 g2 => exact ⟨_, fun w2 _ => run a w2 _ (by rw [hcx, hn']; exact kS ht hi h1 h2), by rw [bI, qag]; exact .elt _ _ _ _ _ _ g1 g2⟩
    ·cases hK
   ·cases hK
  ·cases hK
 ·cases hK

def jF (P : Program) (e : Env) (h : Hp) (s : TypeId) (x : Operand) (f : Nat) (K : Kt) : Prop :=
 match P.underlying s with
 | some (.struct fs) =>
   match fs.toList[f]? with
   | some fd =>
     match P.info? fd.type with
     | some ti =>
       bif ti.size == 0 then False else
       match aF [] e x with
       | some (.pv (.ptr cs)) => K (.pv (.ptr (cs.drop fd.offset))) e h
       | some (.box o off) => K (.box o (off + fd.offset)) e h
       | some (.elt o i off) => K (.elt o i (off + fd.offset)) e h
       | _ => aA 109
     | none => aA 110
   | none => aA 111
 | _ => aA 112
theorem kU {s : TypeId} {fs : Array Field} {f : Nat} {fd : Field} {ti : TypeInfo} {a : Addr}
 (ht : P.underlying s = some (.struct fs)) (hf : fs.toList[f]? = some fd) (hi : P.info? fd.type = some ti) (h0 : (ti.size == 0) = false) :
 (Instr.fieldAt s (.pointer (some a)) f).run P w = .ok (.pointer (some (a.add fd.offset))) w := by
 have hf' : fs[f]? = some fd := by simpa using hf
 have h0' : ti.size ≠ 0 := by simpa using h0
 unfold Instr.fieldAt;simp only [underlying, Instr.sureAddr, fieldPlace, typeInfo, sizeOf, qf, run_program, qi, qa, ht, hf', hi, if_neg h0', qab]
theorem rM {s : TypeId} {x : Operand} {f : Nat} (ho : o.op = .fieldAddr s x f) (hK : jF P e h s x f K) : OpF P o e h K := by
 unfold jF at hK
 have run : ∀ (a : Act) (w : World) v, (Instr.fieldAt s (a.eval x) f).run P w = .ok v w -> (execOp a.eval o).run P w = .ok (.value v) w := fun a w v hv => by
  unfold execOp; rw [ho]; exact aY hv
 split at hK
 ·rename_i fs ht;split at hK
  ·rename_i fd hf;split at hK
   ·rename_i ti hi;cases hz : (ti.size == 0 : Bool) with
    | true => rw [hz] at hK; cases hK
    | false =>
      rw [hz] at hK;simp only [cond_false] at hK;split at hK
      ·rename_i cs hu;refine OpF.pure hK fun w I G a hh he => ?_;have hu' := aC he (AOK.nil _) hu;cases hu' with
       | pv _ _ hr =>
         obtain ⟨b, off, e1, e2⟩ := hr.ptr_drop (a := ⟨0, 0, none⟩) fd.offset;exact ⟨_, fun w2 => run a w2 _ (by rw [e1]; exact kU ht hf hi hz), by rw [bI]; exact .pv _ _ e2⟩
      ·rename_i ob off hu;refine OpF.pure hK fun w I G a hh he => ?_;have hu' := aC he (AOK.nil _) hu;generalize hcx : a.eval x = cx at hu';cases hu' with
       | box _ _ cs g1 => exact ⟨_, fun w2 => run a w2 _ (by rw [hcx]; exact kU ht hf hi hz), by rw [bI, qag]; exact .box _ _ _ g1⟩
       | arr _ _ cs g1 => exact ⟨_, fun w2 => run a w2 _ (by rw [hcx]; exact kU ht hf hi hz), by rw [bI, qag]; exact .arr _ _ _ g1⟩
      ·rename_i ob i' off hu;refine OpF.pure hK fun w I G a hh he => ?_;have hu' := aC he (AOK.nil _) hu;generalize hcx : a.eval x = cx at hu';cases hu' with
       | elt _ _ _ ty m es g1 g2 => exact ⟨_, fun w2 => run a w2 _ (by rw [hcx]; exact kU ht hf hi hz), by rw [bI, qag]; exact .elt _ _ _ _ _ _ g1 g2⟩
      ·cases hK
   ·cases hK
  ·cases hK
 ·cases hK
theorem rN {s : TypeId} {x : Operand} {f : Nat} (ho : o.op = .fieldAddr s x f) (hK : jF P e h s x f K) : OpV P o e h K := (rM ho hK).opV
theorem xV {x i : Operand} (ho : o.op = .indexAddr t x i) (hK : kT P e h t x i K) : OpS P o e h K := (rL ho hK).opS
theorem xW {s : TypeId} {x : Operand} {f : Nat} (ho : o.op = .fieldAddr s x f) (hK : jF P e h s x f K) : OpS P o e h K := (rN ho hK).opS
inductive CK where
 | int (k : IntKind) | bool | sl | ptr | map | other
def rO (f : TypeId -> Option (List CK)) : List TypeId -> Option (List CK)
 | [] => some []
 | t :: r => match f t, rO f r with
   | some a, some b => some (a ++ b)
   | _, _ => none
def rP : Nat -> List CK -> List CK
 | 0, _ => []
 | n + 1, ks => ks ++ rP n ks
def kV (P : Program) : Nat -> TypeId -> Option (List CK)
 | 0, _ => none
 | d + 1, t =>
   match P.underlying t with
   | some (.int k) => some [.int k]
   | some .bool => some [.bool]
   | some (.slice _) => some [.sl]
   | some (.pointer _) => some [.ptr]
   | some (.map _ _) => some [.map]
   | some (.func _ _ _) => some [.other]
   | some (.struct fs) => rO (kV P d) (fs.toList.map (·.type))
   | some (.array n el) => bif qae n 8 then (match kV P d el with | some ks => some (rP n ks) | none => none) else none
   | _ => none
def c4 : List CK -> List PV -> (List PV -> Prop) -> Prop
 | [], _, K => K []
 | .int k :: s, cs, K => ∃ n, cs.head? = some (.int k n) /\ c4 s cs.tail fun r => K (.int k n :: r)
 | .bool :: s, cs, K => ∃ b, cs.head? = some (.bool b) /\ c4 s cs.tail fun r => K (.bool b :: r)
 | .sl :: s, cs, K => ∃ n f es, cs.head? = some (.sl n f es) /\ c4 s cs.tail fun r => K (.sl n f es :: r)
 | .ptr :: s, cs, K => (∃ ps, cs.head? = some (.ptr ps) /\ c4 s cs.tail fun r => K (.ptr ps :: r)) ∨ (cs.head? = some .nilp /\ c4 s cs.tail fun r => K (.nilp :: r))
 | .map :: s, cs, K => (∃ kvs, cs.head? = some (.mp kvs) /\ c4 s cs.tail fun r => K (.mp kvs :: r)) ∨ (cs.head? = some .nilm /\ c4 s cs.tail fun r => K (.nilm :: r))
 | .other :: s, cs, K => ∃ v, cs.head? = some v /\ c4 s cs.tail fun r => K (v :: r)
theorem nG : ∀ {s : List CK} {cs : List PV} {K : List PV -> Prop}, c4 s cs K -> ∃ r, K r /\ r.length = s.length /\ ∀ (k : Nat) v, r[k]? = some v -> cs[k]? = some v := by
 intro s
 induction s with
 | nil => exact fun h => ⟨[], h, rfl, fun k v hk => by simp at hk⟩
 | cons c s ih =>
   intro cs K h
   have step : ∀ {x : PV}, cs.head? = some x -> c4 s cs.tail (fun r => K (x :: r)) -> ∃ r, K r /\ r.length = (c :: s).length /\ ∀ (k : Nat) v, r[k]? = some v -> cs[k]? = some v := by
    intro x hx hl;obtain ⟨r, h1, h2, h3⟩ := ih hl;refine ⟨x :: r, h1, by simp [h2], fun k v hk => ?_⟩;cases cs with
    | nil => simp at hx
    | cons y cs =>
      simp at hx; subst hx;cases k with
      | zero => simpa using hk
      | succ k => simp at hk ⊢; exact h3 k v hk
   cases c with
   | int k => obtain ⟨n, h1, h2⟩ := h; exact step h1 h2
   | bool => obtain ⟨n, h1, h2⟩ := h; exact step h1 h2
   | sl => obtain ⟨n, f, es, h1, h2⟩ := h; exact step h1 h2
   | ptr => rcases h with ⟨n, h1, h2⟩ | ⟨h1, h2⟩ <;> exact step h1 h2
   | map => rcases h with ⟨n, h1, h2⟩ | ⟨h1, h2⟩ <;> exact step h1 h2
   | other => obtain ⟨n, h1, h2⟩ := h; exact step h1 h2
def dB (P : Program) (t : TypeId) : Bool :=
 match P.underlying t with
 | some (.struct _) => true
 | some (.array _ _) => true
 | _ => false
def ldP (P : Program) (t : TypeId) (size : Nat) (cs : List PV) (K : PV -> Prop) : Prop :=
 match dB P t, kV P 8 t with
 | false, some ks => c4 ks cs fun r => match r with | [v] => K v | _ => aA 201
 | true, some ks => bif qc ks.length size then c4 ks cs fun r => K (.agg r) else aA 202
 | true, none => size <= cs.length /\ K (.agg (cs.take size))
 | _, _ => aA 203
def jG (P : Program) (e : Env) (h : Hp) (t : TypeId) (x : Operand) (K : Kt) : Prop :=
 match P.underlying t, P.info? t with
 | some _, some ti =>
   match aF [] e x with
   | some (.pv (.ptr cs)) => ldP P t ti.size cs fun v => K (.pv v) e h
   | some (.elt o i off) => match h[o]? with
     | some (.sl _ _ _ es) => ldP P t ti.size ((es.getD i []).drop off) fun v => K (.pv v) e h
     | _ => aA 204
   | some (.box o off) => match h[o]? with
     | some (.arr cs) => ldP P t ti.size (cs.drop off) fun v => K (.pv v) e h
     | some (.box cs) => match dB P t with
       | false => match cs[off]? with | some v => K v e h | none => aA 205
       | true => bif (qc ((cs.drop off).take ti.size).length ti.size && !qc ti.size 0) then
        (match bW ((cs.drop off).take ti.size) with
         | some ps => K (.pv (.agg ps)) e h
         | none => K (.agg ((cs.drop off).take ti.size)) e h) else aA 206
     | _ => aA 207
   | _ => aA 208
 | _, _ => aA 209

theorem kW {d : TypeDesc} (hd : P.underlying t = some d) : (isAgg t).run P w = .ok (dB P t) w := by
 unfold isAgg dB;simp only [underlying, qf, run_program, qa, hd, qi];cases d <;> rfl
theorem rQ {d : TypeDesc} {a : Addr} {v : Value} (hd : P.underlying t = some d) (h0 : dB P t = false) (hc : w.cell? a = some v) :
 (Instr.loadAt t (.pointer (some a))).run P w = .ok v w := by
 unfold Instr.loadAt loadVar;simp only [Instr.sureAddr, qf, qi, qa, kW hd, h0, qy, if_false, qab, run_load, hc]
theorem rR {d : TypeDesc} {ti : TypeInfo} {a : Addr} {f : Nat -> Value} (hd : P.underlying t = some d) (hi : P.info? t = some ti) (h0 : dB P t = true)
 (hc : ∀ j, j < ti.size -> w.cell? (a.add j) = some (f j)) : (Instr.loadAt t (.pointer (some a))).run P w = .ok (.agg ((qbd ti.size).map f).toArray) w := by
 unfold Instr.loadAt loadVar;simp only [Instr.sureAddr, qf, qi, qa, kW hd, h0, if_true, qab, typeInfo, sizeOf, run_program, hi, run_loadCells w a ti.size f hc]

theorem nH {d : TypeDesc} {ti : TypeInfo} (hd : P.underlying t = some d) (hi : P.info? t = some ti) {cs : List PV} {K : PV -> Prop} (hl : ldP P t ti.size cs K) :
 ∃ v, K v /\ ∀ (w : World) (I : Nat -> Prop) (b off : Nat) (c : Nat -> Value), (∀ (k : Nat) u, cs[k]? = some u -> w.cell? ⟨b, off + k, none⟩ = some (c k)) -> (∀ (k : Nat) u, cs[k]? = some u -> Rep w I u (c k)) ->
  (∀ (k : Nat) u, cs[k]? = some u -> (c k).oneCell' = true) -> ∃ cv, (∀ w2, KA w w2 -> (Instr.loadAt t (.pointer (some ⟨b, off, none⟩))).run P w2 = .ok cv w2) /\ Rep w I v cv := by
 have agg : ∀ (r : List PV), dB P t = true -> r.length = ti.size -> (∀ (k : Nat) v, r[k]? = some v -> cs[k]? = some v) -> ∀ (w : World) (I : Nat -> Prop) (b off : Nat) (c : Nat -> Value),
  (∀ (k : Nat) u, cs[k]? = some u -> w.cell? ⟨b, off + k, none⟩ = some (c k)) -> (∀ (k : Nat) u, cs[k]? = some u -> Rep w I u (c k)) -> (∀ (k : Nat) u, cs[k]? = some u -> (c k).oneCell' = true) ->
  ∃ cv, (∀ w2, KA w w2 -> (Instr.loadAt t (.pointer (some ⟨b, off, none⟩))).run P w2 = .ok cv w2) /\ Rep w I (.agg r) cv := by
  intro r h0 hlen hsub w I b off c h5 h6 h7
  have hget : ∀ k, k < ti.size -> ∃ u, r[k]? = some u /\ cs[k]? = some u := fun k hk => by
   have : k < r.length := by omega
   exact ⟨r[k], by simp [this], hsub k _ (by simp [this])⟩
  refine ⟨_, fun w2 h2 => rR hd hi h0 (f := c) fun j hj => h2.cell ?_, .agg r _ (by simp [hlen]) (fun k v hv => ?_) (fun k v hv => ?_)⟩
  ·obtain ⟨u, _, hu⟩ := hget j hj;rw [bI]; exact h5 j u hu
  all_goals
   have hk : k < ti.size := by rw [<- hlen]; exact (List.getElem?_eq_some_iff.1 hv).1
   have e : ((qbd ti.size).map c).toArray.getD k undef = c k := by simp [hk]
   rw [e]
  ·exact h6 k v (hsub k v hv)
  ·exact h7 k v (hsub k v hv)
 unfold ldP at hl;split at hl
 ·rename_i ks h0 hk;obtain ⟨r, h1, h2, h3⟩ := nG hl
  match r, h1, h3 with
  | [v], h1, h3 =>
    have h4 := h3 0 v rfl;exact ⟨v, h1, fun w I b off c h5 h6 h7 => ⟨c 0, fun w2 h2 => rQ hd h0 (h2.cell (h5 0 v h4)), h6 0 v h4⟩⟩
 ·rename_i ks h0 hk;cases hb : qc ks.length ti.size with
  | false => rw [hb] at hl; cases hl
  | true =>
    rw [hb] at hl;obtain ⟨r, h1, h2, h3⟩ := nG hl;exact ⟨.agg r, h1, agg r h0 (h2.trans (qd hb)) h3⟩
 ·rename_i h0 hk;obtain ⟨hle, hK⟩ := hl;refine ⟨_, hK, agg _ h0 (by simp; omega) fun k v hv => ?_⟩;rw [qac] at hv;split at hv
  ·exact hv
  ·cases hv
 ·cases hl

theorem nJ {x : Operand} (ho : o.op = .load t x) (hK : jG P e h t x K) : OpV P o e h K := by
 unfold jG at hK
 have run : ∀ (a : Act) (w : World) v, (Instr.loadAt t (a.eval x)).run P w = .ok v w -> (execOp a.eval o).run P w = .ok (.value v) w := fun a w v hv => by
  unfold execOp; rw [ho]; exact aY hv
 split at hK
 ·rename_i d ti hd hi;split at hK
  ·rename_i cs hu;obtain ⟨v, hKv, hv⟩ := nH hd hi hK;refine OpV.pure hKv fun w I G a hh he => ?_;have hu' := aC he (AOK.nil _) hu;cases hu' with
   | pv _ _ hr =>
     generalize hcx : a.eval x = cx at hr;cases hr with
     | ptr _ b off c h3 h5 h6 h7 =>
       obtain ⟨cv, e1, e2⟩ := hv w I b off c h5 h6 h7;exact ⟨cv, fun w2 h2 => run a w2 _ (by rw [hcx]; exact e1 w2 h2), .pv _ _ e2⟩
  ·rename_i ob i off hu;split at hK
   ·rename_i ty m n es hob;obtain ⟨v, hKv, hv⟩ := nH hd hi hK;refine OpV.pure hKv fun w I G a hh he => ?_;have hu' := aC he (AOK.nil _) hu;generalize hcx : a.eval x = cx at hu';cases hu' with
    | elt _ _ _ ty' m' es' g1 g2 =>
      have hor := hh.obs _ _ g1;rw [hob] at g1; cases g1;obtain ⟨q1, q2, q3, q3', q4, q5⟩ := hor;have q3 := q3 (by omega);obtain ⟨vs, f1, f2, f3⟩ := q5 (by omega);have hget : es[i]? = some (es.getD i []) := by simp [qah, qj g2]
      have hcell : ∀ (k : Nat) u, ((es.getD i []).drop off)[k]? = some u -> i * (G ob).sz + (off + k) < vs.size /\ Rep w I u (vs.getD (i * (G ob).sz + (off + k)) undef) /\ (vs.getD (i * (G ob).sz + (off + k)) undef).oneCell' = true := fun k u hk => by
       rw [qr] at hk;have hlt := (List.getElem?_eq_some_iff.1 hk).1;have hsz := q4 _ _ hget;refine ⟨?_, f3 i _ hget _ u hk⟩;rw [f2];have : (i + 1) * (G ob).sz <= (G ob).cap * (G ob).sz := qh _ (by omega);rw [qk] at this;omega
      obtain ⟨cv, e1, e2⟩ := hv w I (G ob).blk ((G ob).off + i * (G ob).sz + off) (fun k => vs.getD (i * (G ob).sz + (off + k)) undef) (fun k u hk => by
       simp only [World.cell?, f1, q3];have := (hcell k u hk).1;rw [show 0 + i * (G ob).sz + off + k = i * (G ob).sz + (off + k) by omega]
       simp [this]) (fun k u hk => (hcell k u hk).2.1) (fun k u hk => (hcell k u hk).2.2)
      exact ⟨cv, fun w2 h2 => run a w2 _ (by rw [hcx]; exact e1 w2 h2), .pv _ _ e2⟩
   ·cases hK
  ·rename_i ob off hu;split at hK
   ·rename_i cs hob;obtain ⟨v, hKv, hv⟩ := nH hd hi hK;refine OpV.pure hKv fun w I G a hh he => ?_;have hu' := aC he (AOK.nil _) hu;generalize hcx : a.eval x = cx at hu';cases hu' with
    | box _ _ _ g1 => rw [hob] at g1; cases g1
    | arr _ _ cs' g1 =>
      have hor := hh.obs _ _ g1;rw [hob] at g1; cases g1;obtain ⟨vs, ty, f1, f2, f3⟩ := hor
      have hcell : ∀ (k : Nat) u, (cs.drop off)[k]? = some u -> (G ob).off + (off + k) < vs.size /\ Rep w I u (vs.getD ((G ob).off + (off + k)) undef) /\ (vs.getD ((G ob).off + (off + k)) undef).oneCell' = true := fun k u hk => by
       rw [qr] at hk;have hlt := (List.getElem?_eq_some_iff.1 hk).1;exact ⟨by omega, f3 _ u hk⟩
      obtain ⟨cv, e1, e2⟩ := hv w I (G ob).blk ((G ob).off + off) (fun k => vs.getD ((G ob).off + (off + k)) undef) (fun k u hk => by
       simp only [World.cell?, f1];have := (hcell k u hk).1;rw [show (G ob).off + off + k = (G ob).off + (off + k) by omega]
       simp [this]) (fun k u hk => (hcell k u hk).2.1) (fun k u hk => (hcell k u hk).2.2)
      exact ⟨cv, fun w2 h2 => run a w2 _ (by rw [hcx]; exact e1 w2 h2), .pv _ _ e2⟩
   ·rename_i cs hob;split at hK
    ·rename_i h0;split at hK
     ·rename_i v hv;refine OpV.pure hK fun w I G a hh he => ?_;have hu' := aC he (AOK.nil _) hu;generalize hcx : a.eval x = cx at hu';cases hu' with
      | arr _ _ _ g1 => rw [hob] at g1; cases g1
      | box _ _ cs' g1 =>
        have hor := hh.obs _ _ g1;rw [hob] at g1; cases g1;obtain ⟨vs, ty, f1, f2, f3⟩ := hor;have hlt := (List.getElem?_eq_some_iff.1 hv).1
        have hce : w.cell? ⟨(G ob).blk, (G ob).off + off, none⟩ = some (vs.getD ((G ob).off + off) undef) := by
         have : (G ob).off + off < vs.size := by omega
         simp [World.cell?, f1, this]
        exact ⟨vs.getD ((G ob).off + off) undef, fun w2 h2 => run a w2 _ (by rw [hcx]; exact rQ hd h0 (h2.cell hce)), (f3 _ _ hv).1⟩
     ·cases hK
    ·rename_i h0;cases hb : (qc ((cs.drop off).take ti.size).length ti.size && !qc ti.size 0) with
     | false => rw [hb] at hK; cases hK
     | true =>
       rw [hb] at hK;simp only [cond_true] at hK;simp only [qn, qv] at hb;have hlen := qd hb.1;have hpos : ti.size ≠ 0 := fun hz => by rw [hz] at hb; simp at hb
       have main : ∀ (w : World) (I : Nat -> Prop) (G : Nat -> Pl) (a : Act), HRel w I G h -> ERel w I G h e a.tmps -> ∃ vs : Array Value, (∀ w2, KA w w2 -> (execOp a.eval o).run P w2 = .ok (.value (.agg vs)) w2) /\ vs.size = ((cs.drop off).take ti.size).length /\
        ∀ (k : Nat) u, ((cs.drop off).take ti.size)[k]? = some u -> LRel w I G h u (vs.getD k undef) /\ (vs.getD k undef).oneCell' = true := by
        intro w I G a hh he;have hu' := aC he (AOK.nil _) hu;generalize hcx : a.eval x = cx at hu';cases hu' with
        | arr _ _ _ g1 => rw [hob] at g1; cases g1
        | box _ _ cs' g1 =>
          have hor := hh.obs _ _ g1;rw [hob] at g1; cases g1;obtain ⟨vs, ty, f1, f2, f3⟩ := hor
          have hle : off + ti.size <= cs.length := by
           simp only [List.length_take, List.length_drop] at hlen;omega
          have hce : ∀ j, j < ti.size -> w.cell? ((⟨(G ob).blk, (G ob).off + off, none⟩ : Addr).add j) = some (vs.getD ((G ob).off + off + j) undef) := fun j hj => by
           rw [bI];have : (G ob).off + off + j < vs.size := by omega
           simp [World.cell?, f1, this]
          refine ⟨((qbd ti.size).map fun k => vs.getD ((G ob).off + off + k) undef).toArray, fun w2 h2 => run a w2 _ (by rw [hcx]; exact rR hd hi h0 fun j hj => h2.cell (hce j hj)), by rw [hlen]; simp, fun k u hk => ?_⟩
          ·have hkl : k < ti.size := by rw [<- hlen]; exact (List.getElem?_eq_some_iff.1 hk).1
           rw [qac, if_pos hkl, qr] at hk
           have e2 : (((qbd ti.size).map fun k => vs.getD ((G ob).off + off + k) undef).toArray).getD k undef = vs.getD ((G ob).off + off + k) undef := by
            simp [hkl]
           rw [e2, qag];exact f3 _ _ hk
       split at hK
       ·rename_i ps hps;have hps' := dY hps;refine OpV.pure hK fun w I G a hh he => ?_;obtain ⟨vs, h1, h2, h3⟩ := main w I G a hh he;rw [hps'] at h2 h3;refine ⟨_, h1, .pv _ _ (.agg ps vs (by simpa using h2) (fun k v hv => ?_) (fun k v hv => (h3 k (.pv v) (by simp [hv])).2))⟩
        have := (h3 k (.pv v) (by simp [hv])).1;generalize vs.getD k undef = cv at this;cases this; assumption
       ·refine OpV.pure hK fun w I G a hh he => ?_;obtain ⟨vs, h1, h2, h3⟩ := main w I G a hh he;exact ⟨_, h1, .agg _ vs h2 (fun k v hv => (h3 k v hv).1) (fun k v hv => (h3 k v hv).2)⟩
   ·cases hK
  ·cases hK
 ·cases hK
theorem xX {x : Operand} (ho : o.op = .load t x) (hK : jG P e h t x K) : OpS P o e h K := (nJ ho hK).opS
def bH {α : Type} (l : List α) (off : Nat) (vs : List α) : List α := l.take off ++ vs ++ l.drop (off + vs.length)
theorem eO {α : Type} (l : List α) (off : Nat) (vs : List α) (h : off + vs.length <= l.length) : (bH l off vs).length = l.length := by
 simp [bH]; omega
theorem gE {α : Type} (l : List α) (off : Nat) (vs : List α) (h : off + vs.length <= l.length) (k : Nat) :
 (bH l off vs)[k]? = if off <= k /\ k < off + vs.length then vs[k - off]? else l[k]? := by
 unfold bH;by_cases h1 : k < off
 ·rw [if_neg (by omega), qbr, qg (by simp; omega), qac, if_pos h1]
 ·by_cases h2 : k < off + vs.length
  ·rw [if_pos ⟨by omega, h2⟩, qbr, qo (by simp; omega), qg (by simp; omega)];congr 1; simp; omega
  ·rw [if_neg (by omega), qo (by simp; omega), qr];congr 1; simp; omega

def dZ : LV -> Option (List PV)
 | .pv (.agg ps) => some ps
 | .pv (.tup _) => none
 | .pv .unit => none
 | .pv (.raw v) => bif v.oneCell' then some [.raw v] else none
 | .pv v => some [v]
 | .agg cs => bW cs
 | _ => none
theorem kZ {v : LV} {ps : List PV} (h : dZ v = some ps) : cellsOf v = some (ps.map .pv) := by
 cases v
 case pv p =>
  cases p
  case raw v =>
   simp only [dZ] at h;simp only [cellsOf];cases hv : v.oneCell' with
   | false => rw [hv] at h; cases h
   | true => rw [hv] at h; cases h; rfl
  all_goals (simp [dZ] at h; try (subst h; rfl))
 case agg cs => simp only [dZ] at h; rw [dY h]; rfl
 all_goals simp [dZ] at h

theorem HRel.upd {w w' : World} (hh : HRel w I G h) {o : Nat} {ob ob' : Ob} (ho : h[o]? = some ob) (ha : ob.alive (G o))
 (hw : ∀ b, b ≠ (G o).blk -> w'.heap[b]? = w.heap[b]?) (hs : w.heap.size <= w'.heap.size) (hl : ob.like ob') (hor : ORel w' I G (h.set o ob') (G o) ob') : HRel w' I G (h.set o ob') := by
 have hlt : o < h.length := (List.getElem?_eq_some_iff.1 ho).1;have hk : Keeps w I w' I := ⟨fun b hb _ => hw b fun e => hh.nI o ob ho ha (e ▸ hb), fun b hb _ => hb⟩
 have hL : Like G G h (h.set o ob') := fun i x hx => by
  refine ⟨?_, fun _ => rfl⟩;by_cases hi : o = i
  ·subst hi;rw [ho] at hx; cases hx;exact ⟨ob', by simp [hlt], hl⟩
  ·exact ⟨x, by rw [qm hi]; exact hx, x.like_refl⟩
 have alive' : ob'.alive (G o) -> ob.alive (G o) := fun _ => ha
 have split : ∀ (i : Nat) x, (h.set o ob')[i]? = some x -> (i = o /\ x = ob') ∨ (i ≠ o /\ h[i]? = some x) := fun i x hx => by
  by_cases hi : o = i
  ·subst hi; simp [hlt] at hx; exact .inl ⟨rfl, hx.symm⟩
  ·rw [qm hi] at hx; exact .inr ⟨fun e => hi e.symm, hx⟩
 refine ⟨fun i x hx => ?_, fun i j x y hx ax hy ay hb => ?_, fun i x hx ax => ?_, fun b hb => qx (hh.cl b hb) hs⟩
 ·rcases split i x hx with ⟨rfl, rfl⟩ | ⟨hi, hx'⟩
  ·exact hor
  ·have ne : ∀ ax : x.alive (G i), (G i).blk ≠ (G o).blk := fun ax e => hi (hh.sep i o x ob hx' ax ho ha e);have := hh.obs i x hx';cases x with
   | dead => trivial
   | box cs =>
     obtain ⟨vs, ty, e1, e2, e3⟩ := this;exact ⟨vs, ty, by rw [hw _ (ne trivial)]; exact e1, e2, fun k v hv => ⟨(e3 k v hv).1.mono hk hL, (e3 k v hv).2⟩⟩
   | arr cs =>
     obtain ⟨vs, ty, e1, e2, e3⟩ := this;exact ⟨vs, ty, by rw [hw _ (ne trivial)]; exact e1, e2, fun k v hv => ⟨(e3 k v hv).1.mono hk.1 hk.2, (e3 k v hv).2⟩⟩
   | sl ty m n es =>
     cases n with
     | true => exact this
     | false =>
       obtain ⟨e1, e2, e3, e3', e4, e5⟩ := this;refine ⟨e1, e2, e3, e3', e4, fun hc => ?_⟩;obtain ⟨vs, f1, f2, f3⟩ := e5 hc;exact ⟨vs, by rw [hw _ (ne ⟨rfl, hc⟩)]; exact f1, f2, fun i' e he k v hv => ⟨(f3 i' e he k v hv).1.mono hk.1 hk.2, (f3 i' e he k v hv).2⟩⟩
   | mp kvs =>
     obtain ⟨es, ck, e1, e2, e3⟩ := this;exact ⟨es, ck, by rw [hw _ (ne trivial)]; exact e1, e2, fun k kv hv => ⟨(e3 k kv hv).1.mono hk.1 hk.2, (e3 k kv hv).2.mono hk.1 hk.2⟩⟩
   | iter ty rem cur => exact IterRel.mono this (hw _ (ne trivial)) hk
 ·rcases split i x hx with ⟨rfl, rfl⟩ | ⟨hi, hx'⟩ <;> rcases split j y hy with ⟨rfl, rfl⟩ | ⟨hj, hy'⟩
  ·rfl
  ·exact hh.sep _ _ _ _ ho ha hy' ay hb
  ·exact hh.sep _ _ _ _ hx' ax ho ha hb
  ·exact hh.sep _ _ _ _ hx' ax hy' ay hb
 ·rcases split i x hx with ⟨rfl, rfl⟩ | ⟨hi, hx'⟩
  ·exact hh.nI _ _ ho ha
  ·exact hh.nI _ _ hx' ax
theorem Like.set {o : Nat} {ob ob' : Ob} (ho : h[o]? = some ob) (hl : ob.like ob') : Like G G h (h.set o ob') := fun i x hx => by
 have hlt : o < h.length := (List.getElem?_eq_some_iff.1 ho).1;refine ⟨?_, fun _ => rfl⟩;by_cases hi : o = i
 ·subst hi;rw [ho] at hx; cases hx;exact ⟨ob', by simp [hlt], hl⟩
 ·exact ⟨x, by rw [qm hi]; exact hx, x.like_refl⟩
theorem Keeps.upd {w w' : World} (hh : HRel w I G h) {o : Nat} {ob : Ob} (ho : h[o]? = some ob) (ha : ob.alive (G o))
 (hw : ∀ b, b ≠ (G o).blk -> w'.heap[b]? = w.heap[b]?) : Keeps w I w' I := ⟨fun b hb _ => hw b fun e => hh.nI o ob ho ha (e ▸ hb), fun b hb _ => hb⟩
theorem Tr.upd {w w' : World} {o : Nat} {ob ob' : Ob} (ho : h[o]? = some ob) (ha : ob.alive (G o))
 (hw : ∀ b, b ≠ (G o).blk -> w'.heap[b]? = w.heap[b]?) (hs : w.heap.size <= w'.heap.size) (h1 : w'.os = w.os) (h2 : w'.tape = w.tape) (h3 : w'.output = w.output) (h4 : ∀ a, w'.frozen? a = w.frozen? a) (h5 : w.drawn <= w'.drawn) :
 Tr w I (aD h G) w' I (aD (h.set o ob') G) := by
 have hlt : o < h.length := (List.getElem?_eq_some_iff.1 ho).1;refine ⟨h1, h2, h3, hs, fun b hb hn => hw b fun e => hn ⟨o, ob, ho, ha, e.symm⟩, fun _ x => x, fun _ x => .inl x, fun b ⟨i, x, hx, ax, hb⟩ => .inl ?_, fun a _ => h4 a, h5⟩;by_cases hi : o = i
 ·subst hi; exact ⟨o, ob, ho, ha, hb⟩
 ·rw [qm hi] at hx; exact ⟨i, x, hx, ax, hb⟩

theorem TrH.upd {w w' : World} {o : Nat} {ob ob' : Ob} (ho : h[o]? = some ob) (ha : ob.alive (G o))
 (hw : ∀ b, b ≠ (G o).blk -> w'.heap[b]? = w.heap[b]?) (hs : w.heap.size <= w'.heap.size) (h1 : w'.os = w.os) (h2 : w'.tape = w.tape) (h3 : w'.output = w.output) (h4 : ∀ a, w'.frozen? a = w.frozen? a) (h5 : w.drawn <= w'.drawn)
 (hf : ob'.fixed = true -> ob.fixed = true) : TrH w I G h w' I G (h.set o ob') := by
 refine ⟨Tr.upd ho ha hw hs h1 h2 h3 h4 h5, by simp, fun i x hi hx hfx => ⟨rfl, ?_⟩⟩;by_cases hio : o = i
 ·subst hio;simp [hi] at hx; subst hx;exact ⟨ob, ho, hf hfx⟩
 ·rw [qm hio] at hx; exact ⟨x, hx, hfx⟩
theorem jH (w : World) (g : Nat) (cs : Array Value) (b : Nat) (h : b ≠ g) : (w.setRow g cs).heap[b]? = w.heap[b]? := by
 simp only [World.setRow, qbi];rw [if_neg (fun e => h e.symm)]
theorem jI (w : World) (g : Nat) (cs : Array Value) (a : Addr) : (w.setRow g cs).frozen? a = w.frozen? a := by
 simp only [World.frozen?, World.setRow, qbi];by_cases e : g = a.block
 ·subst e;rw [if_pos rfl];cases hx : w.heap[a.block]? with
  | none => rfl
  | some x => cases x <;> rfl
 ·rw [if_neg e]
theorem d7 (w : World) (g : Nat) (cs : Array Value) : (w.setRow g cs).heap.size = w.heap.size := by simp [World.setRow]

def fG : PV -> Bool
 | .agg _ => false
 | .tup _ => false
 | .unit => false
 | .raw v => v.oneCell'
 | _ => true
def lA : Option TypeDesc -> Bool
 | some (.pointer _) => true
 | some (.map _ _) => true
 | _ => false
def jJ (one : Bool) (v : LV) : Option (List LV) := match one with
 | true => match v with | .pv p => some [.pv p] | v => cellsOf v
 | false => cellsOf v
theorem xY {p : PV} (h : fG p = true) : cellsOf (.pv p) = some [.pv p] := by
 cases p <;> simp [fG] at h <;> first | rfl | (simp [cellsOf, h])
theorem rS {one : Bool} {v : LV} {vs : List LV} (ho : one = true -> ∀ p, v = .pv p -> fG p = true) (hv : jJ one v = some vs) : cellsOf v = some vs := by
 unfold jJ at hv;split at hv
 ·split at hv
  ·rename_i p;rw [xY (ho rfl p rfl)]; exact hv
  ·exact hv
 ·exact hv
def nK (one : Bool) (v : LV) (K : Prop) : Prop := match one with
 | true => match v with | .pv p => fG p = true /\ K | _ => K
 | false => K
theorem xZ {one : Bool} {v : LV} {K : Prop} (h : nK one v K) : K /\ (one = true -> ∀ p, v = .pv p -> fG p = true) := by
 unfold nK at h;split at h
 ·split at h
  ·exact ⟨h.2, fun _ p hp => by cases hp; exact h.1⟩
  ·rename_i hne; exact ⟨h, fun _ p hp => absurd hp (hne p)⟩
 ·exact ⟨h, fun h1 => by cases h1⟩
def nL (P : Program) (e : Env) (h : Hp) (t : TypeId) (x y : Operand) (K : Kt) : Prop :=
 match P.info? t, aF [] e y with
 | some ti, some v =>
   match aF [] e x with
   | some (.box o off) => match h[o]? with
     | some (.box bs) => match jJ (lA (P.underlying t)) v with
       | some cs => nK (lA (P.underlying t)) v (bif (qc cs.length ti.size && qae (off + cs.length) bs.length) then K (.pv .unit) e (h.set o (.box (bH bs off cs))) else aA 301)
       | none => aA 302
     | some (.arr bs) => match dZ v with
       | some ps => (ps.length = ti.size /\ off + ps.length <= bs.length) /\ K (.pv .unit) e (h.set o (.arr (bH bs off ps)))
       | none => aA 303
     | _ => aA 304
   | some (.elt o i off) => match h[o]? with
     | some (.sl ty m n es) => match dZ v with
       | some ps => (ps.length = ti.size /\ off + ps.length <= (es.getD i []).length) /\ K (.pv .unit) e (h.set o (.sl ty m n (es.set i (bH (es.getD i []) off ps))))
       | none => aA 305
     | _ => aA 306
   | _ => aA 307
 | _, _ => aA 308

theorem jK (cur : Array Value) (p : Nat) (l : List Value) (hl : p + l.length <= cur.size) (k : Nat) :
 ((cur.toList.take p ++ l ++ cur.toList.drop (p + l.length)).toArray).getD k undef = if p <= k /\ k < p + l.length then l.getD (k - p) undef else cur.getD k undef := by
 have := gE cur.toList p l (by simpa using hl) k
 unfold bH at this;have e : ((cur.toList.take p ++ l ++ cur.toList.drop (p + l.length)).toArray).getD k undef = ((cur.toList.take p ++ l ++ cur.toList.drop (p + l.length))[k]?).getD undef := by simp
 rw [e, this];split <;> simp

theorem nM {ti : TypeInfo} {b off : Nat} {cur : Array Value} {ty : TypeId} (hi : P.info? t = some ti) (hsz : cv.cells.size = ti.size)
 (hg : w.heap[b]? = some (.cells cur ty (0, 0))) (hfit : off + cv.cells.size <= cur.size) (h1 : ∀ k, k < cv.cells.size -> (cv.cells.getD k undef).oneCell' = true) :
 (Instr.storeAt t (.pointer (some ⟨b, off, none⟩)) cv).run P w = .ok () (w.setRow b (cur.toList.take off ++ cv.cells.toList ++ cur.toList.drop (off + cv.cells.toList.length)).toArray) := by
 unfold Instr.storeAt storeVar
 have hst := run_storeCells_at P b off ty cv.cells.toList 0 cur w hg (by simpa using hfit) (fun v hv => by
  obtain ⟨k, hk, rfl⟩ := qbn hv;have hk' : k < cv.cells.size := by simpa using hk
  have := h1 k hk';have e : cv.cells.getD k undef = cv.cells.toList[k] := by simp [hk']
  rw [e] at this; exact this)
 simp only [Instr.sureAddr, qf, qi, qa, typeInfo, sizeOf, run_program, hi, hsz, ne_eq, not_true, if_false, qab, hst, qap]

theorem yA {x y : Operand} (ho : o.op = .store t x y) (hK : nL P e h t x y K) : OpS P o e h K := by
 unfold nL at hK
 have key : ∀ (w : World) (I : Nat -> Prop) (G : Nat -> Pl) (a : Act) (next : Act -> World -> Prop) (Qx : Exit -> Act -> World -> Prop) (w' : World), (Instr.storeAt t (a.eval x) (a.eval y)).run P w = .ok () w' ->
  next (a.put o.dst undef) w' -> o.wp P a w next Qx := fun w I G a next Qx w' hv hn => by
  have hrun : (execOp a.eval o).run P w = .ok .skip w' := by unfold execOp; rw [ho]; simp only [qf, hv, qa, qi]
  unfold Oper.wp; rw [hrun]; exact hn
 split at hK
 ·rename_i ti v hi hv;split at hK
  ·rename_i ob off hu;split at hK
   ·rename_i bs hob;split at hK
    ·rename_i cs hcsW;obtain ⟨hK, hone⟩ := xZ hK;have hcs := rS hone hcsW;cases hb : (qc cs.length ti.size && qae (off + cs.length) bs.length) with
     | false => rw [hb] at hK; cases hK
     | true =>
       rw [hb] at hK;simp only [cond_true] at hK;simp only [qn] at hb;have hlen := qd hb.1;have hle := qal hb.2;intro w I G a next Qx hh he hn
       have hu' := aC he (AOK.nil _) hu;have hv' := aC he (AOK.nil _) hv;obtain ⟨hc1, hc2⟩ := gA hv' hcs;generalize hcx : a.eval x = cx at hu';cases hu' with
       | arr _ _ _ g1 => rw [hob] at g1; cases g1
       | box _ _ _ g1 =>
         have hor := hh.obs _ _ hob;obtain ⟨vs, ty, f1, f2, f3⟩ := hor;have hfit : (G ob).off + off + (a.eval y).cells.size <= vs.size := by omega
         have hrun := nM (P := P) (w := w) (t := t) (b := (G ob).blk) (off := (G ob).off + off) (cv := a.eval y) hi (hc1.trans hlen) f1 hfit (fun k hk => by
          have : k < cs.length := by omega
          exact (hc2 k _ (qj this)).2)
         refine key w I G a next Qx _ (by rw [hcx]; exact hrun) ?_
         have hww : ∀ b, b ≠ (G ob).blk -> (w.setRow (G ob).blk (vs.toList.take ((G ob).off + off) ++ (a.eval y).cells.toList ++ vs.toList.drop ((G ob).off + off + (a.eval y).cells.toList.length)).toArray).heap[b]? = w.heap[b]? := fun b hb => jH _ _ _ _ hb;have hK' := Keeps.upd hh hob trivial hww;have hL : Like G G h (h.set ob (.box (bH bs off cs))) := Like.set hob trivial;refine hn _ _ _ _ _ _ undef hK (hh.upd hob trivial hww (by rw [d7]; exact qe _) trivial ?_) (he.mono hK' hL) (.pv _ _ .unit) (TrH.upd hob trivial hww (by rw [d7]; exact qe _) rfl rfl rfl (jI _ _ _) (qe _) (fun x => x));refine ⟨_, ty, setRow_heap w _ _ _ ty _ f1, by rw [eO _ _ _ hle]; simp; omega, fun k u hk => ?_⟩;rw [jK vs _ _ (by simpa using hfit)]
         rw [gE _ _ _ hle] at hk;by_cases hin : off <= k /\ k < off + cs.length
         ·rw [if_pos hin] at hk;rw [if_pos (by simp [hc1]; omega)];have := hc2 _ _ hk
          have e : (a.eval y).cells.toList.getD ((G ob).off + k - ((G ob).off + off)) undef = (a.eval y).cells.getD (k - off) undef := by
           rw [show (G ob).off + k - ((G ob).off + off) = k - off by omega]; simp
          rw [e];exact ⟨this.1.mono hK' hL, this.2⟩
         ·rw [if_neg hin] at hk;rw [if_neg (by simp [hc1]; omega)];exact ⟨(f3 k u hk).1.mono hK' hL, (f3 k u hk).2⟩
    ·cases hK
   ·rename_i bs hob;split at hK
    ·rename_i ps hps;obtain ⟨⟨hlen, hle⟩, hK⟩ := hK;intro w I G a next Qx hh he hn
     have hu' := aC he (AOK.nil _) hu;have hv' := aC he (AOK.nil _) hv;obtain ⟨hc1, hc2⟩ := gA hv' (kZ hps);simp only [qaf] at hc1;generalize hcx : a.eval x = cx at hu';cases hu' with
     | box _ _ _ g1 => rw [hob] at g1; cases g1
     | arr _ _ _ g1 =>
       have hor := hh.obs _ _ hob;obtain ⟨vs, ty, f1, f2, f3⟩ := hor;have hfit : (G ob).off + off + (a.eval y).cells.size <= vs.size := by omega
       have hrun := nM (P := P) (w := w) (t := t) (b := (G ob).blk) (off := (G ob).off + off) (cv := a.eval y) hi (hc1.trans hlen) f1 hfit (fun k hk => by
        have : k < ps.length := by omega
        exact (hc2 k (.pv ps[k]) (by simp [this])).2)
       refine key w I G a next Qx _ (by rw [hcx]; exact hrun) ?_
       have hww : ∀ b, b ≠ (G ob).blk -> (w.setRow (G ob).blk (vs.toList.take ((G ob).off + off) ++ (a.eval y).cells.toList ++ vs.toList.drop ((G ob).off + off + (a.eval y).cells.toList.length)).toArray).heap[b]? = w.heap[b]? := fun b hb => jH _ _ _ _ hb;have hK' := Keeps.upd hh hob trivial hww;have hL : Like G G h (h.set ob (.arr (bH bs off ps))) := Like.set hob trivial;refine hn _ _ _ _ _ _ undef hK (hh.upd hob trivial hww (by rw [d7]; exact qe _) trivial ?_) (he.mono hK' hL) (.pv _ _ .unit) (TrH.upd hob trivial hww (by rw [d7]; exact qe _) rfl rfl rfl (jI _ _ _) (qe _) (fun x => x));refine ⟨_, ty, setRow_heap w _ _ _ ty _ f1, by rw [eO _ _ _ hle]; simp; omega, fun k u hk => ?_⟩;rw [jK vs _ _ (by simpa using hfit)]
       rw [gE _ _ _ hle] at hk;by_cases hin : off <= k /\ k < off + ps.length
       ·rw [if_pos hin] at hk;rw [if_pos (by simp [hc1]; omega)];have := hc2 (k - off) (.pv u) (by simp [hk])
        have e : (a.eval y).cells.toList.getD ((G ob).off + k - ((G ob).off + off)) undef = (a.eval y).cells.getD (k - off) undef := by
         rw [show (G ob).off + k - ((G ob).off + off) = k - off by omega]; simp
        rw [e];refine ⟨?_, this.2⟩;have h1 := this.1;generalize (a.eval y).cells.getD (k - off) undef = cu at h1;cases h1 with | pv _ _ h1 => exact h1.mono hK'.1 hK'.2
       ·rw [if_neg hin] at hk;rw [if_neg (by simp [hc1]; omega)];exact ⟨(f3 k u hk).1.mono hK'.1 hK'.2, (f3 k u hk).2⟩
    ·cases hK
   ·cases hK
  ·rename_i ob i off hu;split at hK
   ·rename_i sty m nl es hob;split at hK
    ·rename_i ps hps;obtain ⟨⟨hlen, hle⟩, hK⟩ := hK;intro w I G a next Qx hh he hn
     have hu' := aC he (AOK.nil _) hu;have hv' := aC he (AOK.nil _) hv;obtain ⟨hc1, hc2⟩ := gA hv' (kZ hps);simp only [qaf] at hc1;generalize hcx : a.eval x = cx at hu';cases hu' with
     | elt _ _ _ ty' m' es' g1 g2 =>
       have hor := hh.obs _ _ g1;rw [hob] at g1; cases g1;obtain ⟨q1, q2, q3, q3', q4, q5⟩ := hor;have hcap : (G ob).cap ≠ 0 := by omega
       have q3 := q3 hcap;obtain ⟨vs, f1, f2, f3⟩ := q5 hcap;have hget : es[i]? = some (es.getD i []) := by simp [qah, qj g2]
       generalize es.getD i [] = e0 at *;have hsz := q4 _ _ hget;have hmul : (i + 1) * (G ob).sz <= (G ob).cap * (G ob).sz := qh _ (by omega);rw [qk] at hmul;have hfit : (G ob).off + i * (G ob).sz + off + (a.eval y).cells.size <= vs.size := by omega
       have hrun := nM (P := P) (w := w) (t := t) (b := (G ob).blk) (off := (G ob).off + i * (G ob).sz + off) (cv := a.eval y) hi (hc1.trans hlen) f1 hfit (fun k hk => by
        have : k < ps.length := by omega
        exact (hc2 k (.pv ps[k]) (by simp [this])).2)
       refine key w I G a next Qx _ (by rw [hcx]; exact hrun) ?_
       have hww : ∀ b, b ≠ (G ob).blk -> (w.setRow (G ob).blk (vs.toList.take ((G ob).off + i * (G ob).sz + off) ++ (a.eval y).cells.toList ++ vs.toList.drop ((G ob).off + i * (G ob).sz + off + (a.eval y).cells.toList.length)).toArray).heap[b]? = w.heap[b]? := fun b hb => jH _ _ _ _ hb;have hal : Ob.alive (G ob) (.sl sty m false es) := ⟨rfl, hcap⟩;have hK' := Keeps.upd hh hob hal hww;have hlk : (Ob.sl sty m false es).like (.sl sty m false (es.set i (bH e0 off ps))) := ⟨rfl, rfl, by simp⟩;have hL : Like G G h (h.set ob (.sl sty m false (es.set i (bH e0 off ps)))) := Like.set hob hlk;refine hn _ _ _ _ _ _ undef hK (hh.upd hob hal hww (by rw [d7]; exact qe _) hlk ?_) (he.mono hK' hL) (.pv _ _ .unit) (TrH.upd hob hal hww (by rw [d7]; exact qe _) rfl rfl rfl (jI _ _ _) (qe _) (fun x => x));refine ⟨by simpa using q1, q2, fun _ => q3, q3', fun i' e' he' => ?_, fun _ => ⟨_, setRow_heap w _ _ _ sty.1 _ f1, by simp; omega, fun i' e' he' k u hk => ?_⟩⟩
       ·by_cases hii : i = i'
        ·subst hii;simp [g2] at he';subst he';rw [eO _ _ _ hle]; exact hsz
        ·rw [qm hii] at he'; exact q4 _ _ he'
       ·rw [jK vs _ _ (by simpa using hfit)]
        by_cases hii : i = i'
        ·subst hii;simp [g2] at he';subst he';have hk0 := hk;rw [gE _ _ _ hle] at hk
         have hkl : k < (G ob).sz := by
          have := (List.getElem?_eq_some_iff.1 hk0).1;rw [eO _ _ _ hle, hsz] at this; exact this
         by_cases hin : off <= k /\ k < off + ps.length
         ·rw [if_pos hin] at hk;rw [if_pos (by simp [hc1, q3]; omega)];have := hc2 (k - off) (.pv u) (by simp [hk])
          have e : (a.eval y).cells.toList.getD (i * (G ob).sz + k - ((G ob).off + i * (G ob).sz + off)) undef = (a.eval y).cells.getD (k - off) undef := by
           rw [show i * (G ob).sz + k - ((G ob).off + i * (G ob).sz + off) = k - off by omega]; simp
          rw [e];refine ⟨?_, this.2⟩;have h1 := this.1;generalize (a.eval y).cells.getD (k - off) undef = cu at h1;cases h1 with | pv _ _ h1 => exact h1.mono hK'.1 hK'.2
         ·rw [if_neg hin] at hk;rw [if_neg (by simp [hc1, q3]; omega)];exact ⟨(f3 i _ hget k u hk).1.mono hK'.1 hK'.2, (f3 i _ hget k u hk).2⟩
        ·rw [qm hii] at he'
         have hkl : k < (G ob).sz := by
          have := (List.getElem?_eq_some_iff.1 hk).1;rw [q4 _ _ he'] at this; exact this
         rw [if_neg (by
          simp only [Array.length_toList, hc1, q3, qw];rcases Nat.lt_or_gt_of_ne hii with hlt | hgt
          ·have : (i + 1) * (G ob).sz <= i' * (G ob).sz := qh _ hlt;rw [qk] at this; omega
          ·have : (i' + 1) * (G ob).sz <= i * (G ob).sz := qh _ hgt
           rw [qk] at this; omega)]
         exact ⟨(f3 i' _ he' k u hk).1.mono hK'.1 hK'.2, (f3 i' _ he' k u hk).2⟩
    ·cases hK
   ·cases hK
  ·cases hK
 ·cases hK
def jL (P : Program) (t : TypeId) (v : LV) : Option Ob :=
 match P.underlying t with
 | some (.array _ _) => match dZ v with
   | some ps => some (.arr ps)
   | none => match cellsOf v with
     | some cs => some (.box cs)
     | none => none
 | some _ => match cellsOf v with
   | some cs => some (.box cs)
   | none => none
 | none => none
def lB (P : Program) (e : Env) (h : Hp) (t : TypeId) (K : Kt) : Prop :=
 match P.info? t with
 | some ti => match ti.zero with
   | some z => match dX z with
     | some p => match jL P t (.pv p) with
       | some ob => K (.box h.length 0) e (h ++ [ob])
       | none => aA 401
     | none => aA 402
   | none => aA 403
 | none => aA 404
def lC (P : Program) (e : Env) (h : Hp) (t : TypeId) (x : Operand) (K : Kt) : Prop :=
 match aF [] e x with
 | some v => match jL P t v with
   | some ob => K (.box h.length 0) e (h ++ [ob])
   | none => aA 405
 | none => aA 406

theorem yB {v : LV} {ob : Ob} (hn : jL P t v = some ob) {w : World} {I : Nat -> Prop} {G : Nat -> Pl} {h : Hp} {cv : Value} (hh : HRel w I G h) (hr : LRel w I G h v cv) :
 HRel (w.alloc (.cells cv.cells t)) I (aG G h.length ⟨w.heap.size, 0, 0, 0⟩) (h ++ [ob]) /\
 LRel (w.alloc (.cells cv.cells t)) I (aG G h.length ⟨w.heap.size, 0, 0, 0⟩) (h ++ [ob]) (.box h.length 0) (.pointer (some ⟨w.heap.size, 0, none⟩)) := by
 have hk : Keeps w I (w.alloc (.cells cv.cells t)) I := .alloc w I I _ fun _ x => x
 have hbox : ∀ cs, cellsOf v = some cs -> HRel (w.alloc (.cells cv.cells t)) I (aG G h.length ⟨w.heap.size, 0, 0, 0⟩) (h ++ [.box cs]) /\
  LRel (w.alloc (.cells cv.cells t)) I (aG G h.length ⟨w.heap.size, 0, 0, 0⟩) (h ++ [.box cs]) (.box h.length 0) (.pointer (some ⟨w.heap.size, 0, none⟩)) := fun cs hcs => by
  obtain ⟨h1, h2⟩ := gA hr hcs;have hl := Like.push G h ⟨w.heap.size, 0, 0, 0⟩ (.box cs);refine ⟨hh.push _ _ _ rfl ⟨_, t, gC w _, by simp [h1], fun k u hu => ?_⟩, ?_⟩
  ·simp only [qw];exact ⟨(h2 k u hu).1.mono hk hl, (h2 k u hu).2⟩
  ·have := LRel.box (w := w.alloc (.cells cv.cells t)) (I := I) (G := aG G h.length ⟨w.heap.size, 0, 0, 0⟩) (h := h ++ [.box cs]) h.length 0 cs (by simp);simpa [aG] using this
 have harr : ∀ ps, dZ v = some ps -> HRel (w.alloc (.cells cv.cells t)) I (aG G h.length ⟨w.heap.size, 0, 0, 0⟩) (h ++ [.arr ps]) /\
  LRel (w.alloc (.cells cv.cells t)) I (aG G h.length ⟨w.heap.size, 0, 0, 0⟩) (h ++ [.arr ps]) (.box h.length 0) (.pointer (some ⟨w.heap.size, 0, none⟩)) := fun ps hps => by
  obtain ⟨h1, h2⟩ := gA hr (kZ hps);simp only [qaf] at h1;refine ⟨hh.push _ _ _ rfl ⟨_, t, gC w _, by simp [h1], fun k u hu => ?_⟩, ?_⟩
  ·simp only [qw];have := h2 k (.pv u) (by simp [hu]);refine ⟨?_, this.2⟩;have h3 := this.1;generalize cv.cells.getD k undef = cu at h3;cases h3 with | pv _ _ h3 => exact h3.mono hk.1 hk.2
  ·have := LRel.arr (w := w.alloc (.cells cv.cells t)) (I := I) (G := aG G h.length ⟨w.heap.size, 0, 0, 0⟩) (h := h ++ [.arr ps]) h.length 0 ps (by simp);simpa [aG] using this
 unfold jL at hn;split at hn
 ·split at hn
  ·rename_i ps hps; cases hn; exact harr ps hps
  ·split at hn
   ·rename_i cs hcs; cases hn; exact hbox cs hcs
   ·cases hn
 ·split at hn
  ·rename_i cs hcs; cases hn; exact hbox cs hcs
  ·cases hn
 ·cases hn

theorem rT {v : LV} {ob : Ob} (hn : jL P t v = some ob) (hK : K (.box h.length 0) e (h ++ [ob]))
 (hrun : ∀ (w : World) (I : Nat -> Prop) (G : Nat -> Pl) (a : Act), HRel w I G h -> ERel w I G h e a.tmps -> ∃ cv, LRel w I G h v cv /\
  (execOp a.eval o).run P w = .ok (.value (.pointer (some ⟨w.heap.size, 0, none⟩))) (w.alloc (.cells cv.cells t))) : OpK P o e h K := by
 intro w I G a next Qx hh he hnx
 obtain ⟨cv, hr, h1⟩ := hrun w I G a hh he;unfold Oper.wp;rw [h1];obtain ⟨h2, h3⟩ := yB hn hh hr;exact hnx _ e _ _ I _ _ hK h2 (he.mono (.alloc w I I _ fun _ x => x) (Like.push G h _ ob)) h3 (TrH.push _ ob _ rfl) ⟨by simp, fun b hb => bG w _ hb⟩

theorem rU (ho : o.op = .alloc t) (hK : lB P e h t K) : OpK P o e h K := by
 unfold lB at hK;split at hK
 ·rename_i ti hi;split at hK
  ·rename_i z hz;split at hK
   ·rename_i p hp;split at hK
    ·rename_i ob hob;refine rT hob hK fun w I G a hh he => ⟨z, .pv _ _ (iZ hp), ?_⟩;unfold execOp; rw [ho];refine aY ?_;unfold Instr.alloc;simp only [zeroValue, typeInfo, qf, run_program, qa, hi, hz, qi, newVar, newRow, run_newObj];rfl
    ·cases hK
   ·cases hK
  ·cases hK
 ·cases hK
theorem yC (ho : o.op = .alloc t) (hK : lB P e h t K) : OpS P o e h K := (rU ho hK).opS
theorem rV {x : Operand} (ho : o.op = .box t x) (hK : lC P e h t x K) : OpK P o e h K := by
 unfold lC at hK;split at hK
 ·rename_i v hv;split at hK
  ·rename_i ob hob;refine rT hob hK fun w I G a hh he => ⟨_, aC he (AOK.nil _) hv, ?_⟩;unfold execOp; rw [ho];refine aY ?_;unfold Instr.box;simp only [qf, qa, qi, newVar, newRow, run_newObj];rfl
  ·cases hK
 ·cases hK

theorem yD {x : Operand} (ho : o.op = .box t x) (hK : lC P e h t x K) : OpS P o e h K := (rV ho hK).opS
def dC (place : Nat -> Option (Nat × Nat)) : List LV -> List (Nat × LV) -> Option (List LV)
 | cells, [] => some cells
 | cells, (i, v) :: r =>
   match place i, cellsOf v with
   | some (off, size), some cs => bif (qc cs.length size && qae (off + cs.length) cells.length) then dC place (bH cells off cs) r else none
   | _, _ => none
def g8 (e : Env) : List (Nat × Operand) -> Option (List (Nat × LV))
 | [] => some []
 | (i, x) :: r => match aF [] e x, g8 e r with
   | some v, some vs => some ((i, v) :: vs)
   | _, _ => none

theorem rW (he : ERel w I G h e a.tmps) {place : Nat -> Option (Nat × Nat)} :
 ∀ {parts : List (Nat × Operand)} {vs : List (Nat × LV)} {cells : List LV} {out : List LV} {cc : Array Value}, g8 e parts = some vs -> dC place cells vs = some out ->
  cc.size = cells.length -> (∀ (k : Nat) u, cells[k]? = some u -> LRel w I G h u (cc.getD k undef) /\ (cc.getD k undef).oneCell' = true) ->
  ∃ co, Instr.fill place cc (parts.map fun (i, x) => (i, a.eval x)) = some co /\ co.size = out.length /\ ∀ (k : Nat) u, out[k]? = some u -> LRel w I G h u (co.getD k undef) /\ (co.getD k undef).oneCell' = true := by
 intro parts
 induction parts with
 | nil =>
   intro vs cells out cc hv hf hs hc;cases hv;simp only [dC, Option.some.injEq] at hf;subst hf;exact ⟨cc, rfl, hs, hc⟩
 | cons x r ih =>
   obtain ⟨i, x⟩ := x;intro vs cells out cc hv hf hs hc;unfold g8 at hv;split at hv
   ·rename_i v vs' hx hr;cases hv;unfold dC at hf;split at hf
    ·rename_i off size cs hp hcs;cases hb : (qc cs.length size && qae (off + cs.length) cells.length) with
     | false => rw [hb] at hf; cases hf
     | true =>
       rw [hb] at hf;simp only [cond_true] at hf;simp only [qn] at hb;have hlen := qd hb.1;have hle := qal hb.2;obtain ⟨c1, c2⟩ := gA (aC he (AOK.nil _) hx) hcs;obtain ⟨f1, f2⟩ := Great.foldl_set off (a.eval x).cells.toList 0 cc
       have e0 : (a.eval x).cells.zipIdx.foldl (fun cs (c, j) => cs.setIfInBounds (off + j) c) cc = ((a.eval x).cells.toList.zipIdx 0).foldl (fun cs (x : Value × Nat) => cs.setIfInBounds (off + x.2) x.1) cc := by
        rw [<- Array.foldl_toList, Array.toList_zipIdx]
       obtain ⟨co, g1, g2, g3⟩ := ih (cc := (a.eval x).cells.zipIdx.foldl (fun cs (c, j) => cs.setIfInBounds (off + j) c) cc) hr hf
        (by rw [e0, f1, hs, eO _ _ _ hle]) (fun k u hk => by
         rw [e0]
         have hk1 : k < cells.length := by
          have := (List.getElem?_eq_some_iff.1 hk).1;rwa [eO _ _ _ hle] at this
         have f2k := f2 k;rw [gE _ _ _ hle] at hk;by_cases hin : off <= k /\ k < off + cs.length
         ·rw [if_pos hin] at hk;rw [if_pos (by simp [c1]; omega)] at f2k;have := c2 _ _ hk
          have e1 : (((a.eval x).cells.toList.zipIdx 0).foldl (fun cs (x : Value × Nat) => cs.setIfInBounds (off + x.2) x.1) cc).getD k undef = (a.eval x).cells.getD (k - off) undef := by
           rw [qq, f2k]; simp
          rw [e1]; exact this
         ·rw [if_neg hin] at hk;rw [if_neg (by simp [c1]; omega)] at f2k
          have e1 : (((a.eval x).cells.toList.zipIdx 0).foldl (fun cs (x : Value × Nat) => cs.setIfInBounds (off + x.2) x.1) cc).getD k undef = cc.getD k undef := by
           rw [qq, f2k]; simp
          rw [e1]; exact hc k u hk)
       refine ⟨co, ?_, g2, g3⟩;simp only [List.map_cons, Instr.fill, hp];rw [if_neg (by simp only [qbv, aW]; omega)];exact g1
    ·cases hf
   ·cases hv

def lE (P : Program) : List Field -> Option (List (Nat × Nat))
 | [] => some []
 | f :: r => match P.info? f.type, lE P r with
   | some i, some l => some ((f.offset, i.size) :: l)
   | _, _ => none
theorem rX : ∀ {fs : List Field} {l : List (Nat × Nat)}, lE P fs = some l -> fs.mapM (fun f => (P.info? f.type).map fun i => (f.offset, i.size)) = some l
 | [], l, h => by cases h; rfl
 | f :: r, l, h => by
   unfold lE at h;split at h
   ·rename_i i l' hi hr;cases h;simp [hi, rX hr]
   ·cases h
def rY (P : Program) (t : TypeId) : Option (Nat -> Option (Nat × Nat)) :=
 match P.underlying t with
 | some (.array _ el) => match P.info? el with
   | some ie => some fun i => some (i * ie.size, ie.size)
   | none => none
 | some (.struct fs) => match lE P fs.toList with
   | some l => some fun i => l.toArray[i]?
   | none => none
 | _ => none
def zeroCells (P : Program) (t : TypeId) : Option (List PV) :=
 match P.info? t with
 | some ti => match ti.zero with
   | some z => match dX z with
     | some p => dZ (.pv p)
     | none => none
   | none => none
 | none => none
def rZ (P : Program) (t : TypeId) (i : Nat) : Bool := match P.underlying t with
 | some (.struct fs) => match fs.toList[i]? with | some f => lA (P.underlying f.type) | none => false
 | some (.array _ et) => lA (P.underlying et)
 | _ => false
def lF (one : Nat -> Bool) (place : Nat -> Option (Nat × Nat)) : List LV -> List (Nat × LV) -> Option (List LV)
 | cells, [] => some cells
 | cells, (i, v) :: r =>
   match place i, jJ (one i) v with
   | some (off, size), some cs => bif (qc cs.length size && qae (off + cs.length) cells.length) then lF one place (bH cells off cs) r else none
   | _, _ => none
def g9 (one : Nat -> Bool) : List (Nat × LV) -> Prop -> Prop
 | [], K => K
 | (i, v) :: r, K => match one i with
   | true => match v with | .pv p => fG p = true /\ g9 one r K | _ => g9 one r K
   | false => g9 one r K
theorem lG {one : Nat -> Bool} : ∀ {l : List (Nat × LV)} {K : Prop}, g9 one l K -> K /\ ∀ iv ∈ l, one iv.1 = true -> ∀ p, iv.2 = .pv p -> fG p = true
 | [], K, h => ⟨h, fun iv hi => by cases hi⟩
 | (i, v) :: r, K, h => by
   unfold g9 at h;cases ho : one i with
   | false =>
     rw [ho] at h;obtain ⟨h1, h2⟩ := lG h;refine ⟨h1, fun iv hi h3 => ?_⟩;rcases List.mem_cons.1 hi with rfl | hi
     ·rw [ho] at h3; cases h3
     ·exact h2 iv hi h3
   | true =>
     rw [ho] at h;cases v with
     | pv p =>
       obtain ⟨h0, h⟩ := h;obtain ⟨h1, h2⟩ := lG h;refine ⟨h1, fun iv hi h3 => ?_⟩;rcases List.mem_cons.1 hi with rfl | hi
       ·intro q hq; cases hq; exact h0
       ·exact h2 iv hi h3
     | _ =>
       obtain ⟨h1, h2⟩ := lG h;refine ⟨h1, fun iv hi h3 => ?_⟩;rcases List.mem_cons.1 hi with rfl | hi
       ·intro q hq; cases hq
       ·exact h2 iv hi h3
theorem r7 {one : Nat -> Bool} {place : Nat -> Option (Nat × Nat)} : ∀ {l : List (Nat × LV)} {cells cs : List LV}, (∀ iv ∈ l, one iv.1 = true -> ∀ p, iv.2 = .pv p -> fG p = true) -> lF one place cells l = some cs -> dC place cells l = some cs
 | [], cells, cs, _, h => h
 | (i, v) :: r, cells, cs, ho, h => by
   have hc : ∀ vs, jJ (one i) v = some vs -> cellsOf v = some vs := fun vs hv => rS (fun h1 p hp => ho (i, v) List.mem_cons_self h1 p hp) hv;unfold lF at h;unfold dC;split at h
   ·rename_i off size vs h1 h2;rw [h1, hc _ h2];dsimp only;cases hb : (qc vs.length size && qae (off + vs.length) cells.length) with
    | false => rw [hb] at h; cases h
    | true =>
      rw [hb] at h;exact r7 (fun iv hi => ho iv (List.mem_cons_of_mem _ hi)) h
   ·cases h
def lH (P : Program) (e : Env) (h : Hp) (t : TypeId) (parts : List (Nat × Operand)) (K : Kt) : Prop :=
 match rY P t, zeroCells P t, g8 e parts with
 | some pl, some zs, some vs => match lF (rZ P t) pl (zs.map .pv) vs with
   | some cs => g9 (rZ P t) vs (match bW cs with
     | some ps => K (.pv (.agg ps)) e h
     | none => K (.agg cs) e h)
   | none => aA 407
 | _, _, _ => aA 408
theorem lI {zs : List PV} (hz : zeroCells P t = some zs) : ∃ ti z, P.info? t = some ti /\ ti.zero = some z /\ z.cells.size = zs.length /\
 ∀ (w : World) (I : Nat -> Prop) (k : Nat) u, zs[k]? = some u -> Rep w I u (z.cells.getD k undef) /\ (z.cells.getD k undef).oneCell' = true := by
 unfold zeroCells at hz;split at hz
 ·rename_i ti hi;split at hz
  ·rename_i z hzz;split at hz
   ·rename_i p hp
    have key : ∀ (w : World) (I : Nat -> Prop), z.cells.size = zs.length /\ ∀ (k : Nat) u, zs[k]? = some u -> Rep w I u (z.cells.getD k undef) /\ (z.cells.getD k undef).oneCell' = true := fun w I => by
     obtain ⟨c1, c2⟩ := gA (LRel.pv (w := w) (I := I) (G := fun _ => ⟨0, 0, 0, 0⟩) (h := []) p z (iZ hp)) (kZ hz);refine ⟨by simpa using c1, fun k u hu => ?_⟩
     have := c2 k (.pv u) (by simp [hu]);refine ⟨?_, this.2⟩;have h3 := this.1;generalize z.cells.getD k undef = cu at h3;cases h3; assumption
    exact ⟨ti, z, hi, hzz, (key default fun _ => False).1, fun w I => (key w I).2⟩
   ·cases hz
  ·cases hz
 ·cases hz
theorem r8 {parts : Array (Nat × Operand)} (ho : o.op = .build t parts) (hK : lH P e h t parts.toList K) : OpV P o e h K := by
 unfold lH at hK;split at hK
 ·rename_i pl zs vs hpl hzs hvs;split at hK
  ·rename_i cs hcsW;obtain ⟨hK, hones⟩ := lG hK;have hcs := r7 hones hcsW;obtain ⟨ti, z, hi, hz, z1, z2⟩ := lI hzs
   have main : ∀ (w : World) (I : Nat -> Prop) (G : Nat -> Pl) (a : Act), HRel w I G h -> ERel w I G h e a.tmps -> ∃ co : Array Value, (∀ w2, (execOp a.eval o).run P w2 = .ok (.value (.agg co)) w2) /\ co.size = cs.length /\
    ∀ (k : Nat) u, cs[k]? = some u -> LRel w I G h u (co.getD k undef) /\ (co.getD k undef).oneCell' = true := by
    intro w I G a hh he
    obtain ⟨co, g1, g2, g3⟩ := rW he (cc := z.cells) hvs hcs (by simpa using z1) (fun k u hk => by
     rw [qt] at hk;cases hq : zs[k]? with
     | none => rw [hq] at hk; cases hk
     | some q => rw [hq] at hk; cases hk; exact ⟨.pv _ _ (z2 w I k q hq).1, (z2 w I k q hq).2⟩)
    refine ⟨co, fun w => ?_, g2, g3⟩;unfold execOp; rw [ho];refine aY (run_build w t _ _ ?_);have e1 : (parts.map fun (x : Nat × Operand) => (x.1, a.eval x.2)).toList = parts.toList.map fun (i, x) => (i, a.eval x) := by simp
    rw [e1];unfold rY at hpl;unfold Program.built;split at hpl
    ·rename_i n el hu;split at hpl
     ·rename_i ie hie;cases hpl;simp only [hi, hu, hz, hie];exact g1
     ·cases hpl
    ·rename_i fs hu;split at hpl
     ·rename_i l hl;cases hpl;simp only [hi, hu, hz, rX hl];exact g1
     ·cases hpl
    ·cases hpl
   split at hK
   ·rename_i ps hps;have hps' := dY hps;refine OpV.pure hK fun w I G a hh he => ?_;obtain ⟨co, h1, h2, h3⟩ := main w I G a hh he;rw [hps'] at h2 h3;refine ⟨_, fun w2 _ => h1 w2, .pv _ _ (.agg ps co (by simpa using h2) (fun k v hv => ?_) (fun k v hv => (h3 k (.pv v) (by simp [hv])).2))⟩
    have := (h3 k (.pv v) (by simp [hv])).1;generalize co.getD k undef = cv at this;cases this; assumption
   ·refine OpV.pure hK fun w I G a hh he => ?_;obtain ⟨co, h1, h2, h3⟩ := main w I G a hh he;exact ⟨_, fun w2 _ => h1 w2, .agg _ co h2 (fun k v hv => (h3 k v hv).1) (fun k v hv => (h3 k v hv).2)⟩
  ·cases hK
 ·cases hK
theorem yE {parts : Array (Nat × Operand)} (ho : o.op = .build t parts) (hK : lH P e h t parts.toList K) : OpS P o e h K := (r8 ho hK).opS

def b8 (sz : Nat) : Nat -> List PV -> List (List PV)
 | 0, _ => []
 | n + 1, l => l.take sz :: b8 sz n (l.drop sz)
theorem nN (sz : Nat) : ∀ (n : Nat) (l : List PV), (b8 sz n l).length = n
 | 0, _ => rfl
 | n + 1, l => by simp [b8, nN sz n]
theorem jM (sz : Nat) : ∀ (n : Nat) (l : List PV) (i : Nat) (e : List PV), (b8 sz n l)[i]? = some e -> i < n /\ e = (l.drop (i * sz)).take sz
 | 0, _, i, e, h => by simp [b8] at h
 | n + 1, l, i, e, h => by
   cases i with
   | zero => simp [b8] at h; exact ⟨by omega, by simp [h]⟩
   | succ i =>
     simp only [b8, List.getElem?_cons_succ] at h;obtain ⟨h1, h2⟩ := jM sz n _ i e h;refine ⟨by omega, ?_⟩;rw [h2, List.drop_drop, qk, Nat.one_mul, Nat.add_comm]
def c5 (n : Nat) (l : List PV) : List PV :=
 match n with
 | 0 => []
 | n + 1 => l ++ c5 n l
theorem lJ (l : List PV) : ∀ n, (c5 n l).length = n * l.length
 | 0 => by simp [c5]
 | n + 1 => by simp [c5, lJ l n, qk, Nat.add_comm]
theorem r9 (l : List PV) (hl : l.length ≠ 0) : ∀ (n k : Nat) u, (c5 n l)[k]? = some u -> k < n * l.length /\ l[k % l.length]? = some u
 | 0, k, u, h => by simp [c5] at h
 | n + 1, k, u, h => by
   simp only [c5] at h;by_cases hk : k < l.length
   ·rw [qg hk] at h;rw [qbg hk];exact ⟨by rw [qk]; omega, h⟩
   ·rw [qo (by omega)] at h;obtain ⟨h1, h2⟩ := r9 l hl n _ u h;refine ⟨by rw [qk]; omega, ?_⟩;rw [Nat.mod_eq_sub_mod (by omega)]; exact h2
def jN (P : Program) (e : Env) (h : Hp) (t : TypeId) (len : Nat) (parts : List (Nat × Operand)) (K : Kt) : Prop :=
 match P.underlying t with
 | some (.slice el) => match P.info? el, zeroCells P el, g8 e parts with
   | some ie, some zs, some vs =>
     bif (qae (len * ie.size) (2 ^ 24) && !qc (len * ie.size) 0 && qc zs.length ie.size) then
      (match dC (fun i => some (i * ie.size, ie.size)) ((c5 len zs).map .pv) vs with
      | some cs => match bW cs with
        | some ps => K (.pv (.sl false true (b8 ie.size len ps))) e h
        | none => aA 409
      | none => aA 410) else aA 411
   | _, _, _ => aA 412
 | _ => aA 413
theorem yF {len : Nat} {parts : Array (Nat × Operand)} (ho : o.op = .buildSlice t len parts) (hK : jN P e h t len parts.toList K) : OpK P o e h K := by
 unfold jN at hK;split at hK
 ·rename_i el ht;split at hK
  ·rename_i ie zs vs hie hzs hvs;cases hb : (qae (len * ie.size) (2 ^ 24) && !qc (len * ie.size) 0 && qc zs.length ie.size) with
   | false => rw [hb] at hK; cases hK
   | true =>
     rw [hb] at hK;simp only [cond_true] at hK;simp only [qn, qv] at hb;have hb1 := qal hb.1.1;have hb2 : len * ie.size ≠ 0 := fun hz => by rw [hz] at hb; simp at hb
     have hb3 := qd hb.2;split at hK
     ·rename_i cs hcs;split at hK
      ·rename_i ps hps;have hps' := dY hps;subst hps';obtain ⟨ti, z, hi, hz, z1, z2⟩ := lI hzs;rw [hie] at hi; cases hi;intro w I G a next Qx hh he hn
       have hzl : zs.length ≠ 0 := fun hz => by rw [hz] at hb3; rw [<- hb3] at hb2; simp at hb2
       have hbase : ∀ (k : Nat) u, ((c5 len zs).map LV.pv)[k]? = some u -> LRel w I G h u (((qbb (len * ie.size)).map (z.cells[· % z.cells.size]!)).getD k undef) /\ (((qbb (len * ie.size)).map (z.cells[· % z.cells.size]!)).getD k undef).oneCell' = true := fun k u hk => by
        rw [qt] at hk;cases hq : (c5 len zs)[k]? with
        | none => rw [hq] at hk; cases hk
        | some q =>
          rw [hq] at hk; cases hk;obtain ⟨r1, r2⟩ := r9 zs hzl len k q hq;rw [hb3] at r1;have := z2 w I _ q r2;have hml : k % zs.length < z.cells.size := by rw [z1]; exact qbk _ (qad hzl)
          have e1 : ((qbb (len * ie.size)).map (z.cells[· % z.cells.size]!)).getD k undef = z.cells.getD (k % zs.length) undef := by
           have hml' : k % z.cells.size < z.cells.size := by rw [z1] at hml ⊢; exact hml
           simp only [r1, z1, qq, qbo, qbl, if_pos, qao, qbu];rw [getElem!_pos z.cells _ hml, qan hml]; rfl
          rw [e1];exact ⟨.pv _ _ this.1, this.2⟩
       obtain ⟨co, g1, g2, g3⟩ := rW he (cc := (qbb (len * ie.size)).map (z.cells[· % z.cells.size]!)) hvs hcs (by simp [lJ, hb3]) hbase
       have hrun : (execOp a.eval o).run P w = .ok (.value (.slice (some ⟨w.heap.size, 0, none⟩) len len)) (w.alloc (.cells co el)) := by
        unfold execOp; rw [ho];refine aY (run_buildSlice w t el len _ co ie z ht hie hz (by omega) hb2 ?_);have e1 : (parts.map fun (x : Nat × Operand) => (x.1, a.eval x.2)).toList = parts.toList.map fun (i, x) => (i, a.eval x) := by simp
        rw [e1]; exact g1
       unfold Oper.wp; rw [hrun];have hk : Keeps w I (w.alloc (.cells co el)) (fun b => I b ∨ b = w.heap.size) := .alloc w I _ _ fun _ x => .inl x;simp only [qaf] at g2
       have hpl : ps.length = len * ie.size := by
        have : ∀ {pl : Nat -> Option (Nat × Nat)} {vs : List (Nat × LV)} {cells out : List LV}, dC pl cells vs = some out -> out.length = cells.length := by
         intro pl vs
         induction vs with
         | nil => intro cells out hf; simp [dC] at hf; rw [hf]
         | cons x r ih =>
           obtain ⟨i, v⟩ := x;intro cells out hf;unfold dC at hf;split at hf
           ·rename_i off size cs hp hcs;cases hb : (qc cs.length size && qae (off + cs.length) cells.length) with
            | false => rw [hb] at hf; cases hf
            | true =>
              rw [hb] at hf;simp only [qn] at hb;rw [ih hf, eO _ _ _ (qal hb.2)]
           ·cases hf
        have := this hcs;simpa [lJ, hb3] using this
       have hel : ∀ (i : Nat) e (k : Nat) v, (b8 ie.size len ps)[i]? = some e -> e[k]? = some v -> k < ie.size /\ ps[i * ie.size + k]? = some v := fun i e k v he hk => by
        obtain ⟨_, rfl⟩ := jM _ _ _ _ _ he;rw [qac] at hk;split at hk
        ·rename_i hlt; rw [qr] at hk; exact ⟨hlt, hk⟩
        ·cases hk
       have hrep : ∀ (j : Nat) v, ps[j]? = some v -> Rep w I v (co.getD j undef) /\ (co.getD j undef).oneCell' = true := fun j v hj => by
        have := g3 j (.pv v) (by simp [hj]);refine ⟨?_, this.2⟩;have h3 := this.1;generalize co.getD j undef = cu at h3;cases h3; assumption
       have hcl := nN ie.size len ps
       have hr : Rep (w.alloc (.cells co el)) (fun b => I b ∨ b = w.heap.size) (.sl false true (b8 ie.size len ps)) (.slice (some ⟨w.heap.size, 0, none⟩) len len) := by
        have := Rep.sl (w := w.alloc (.cells co el)) (I := fun b => I b ∨ b = w.heap.size) true (b8 ie.size len ps) w.heap.size 0 len ie.size (fun i k => co.getD (i * ie.size + k) undef)
         (by omega) (fun _ => by omega) (fun _ _ _ => ⟨.inr rfl, by simp⟩) (fun i e he => by
          obtain ⟨h1, rfl⟩ := jM _ _ _ _ _ he;have : (i + 1) * ie.size <= len * ie.size := qh _ h1;rw [qk] at this
          simp; omega) (fun i e k v he hk => by
          obtain ⟨h1, h2⟩ := hel i e k v he hk;have h3 := (List.getElem?_eq_some_iff.1 h2).1;have h4 : i * ie.size + k < co.size := by omega
          rw [qw, World.cell?_alloc_new]
          simp [h4]) (fun i e k v he hk' => (hrep _ v (hel i e k v he hk').2).1.mono hk.1 hk.2) (fun i e k v he hk => (hrep _ v (hel i e k v he hk).2).2)
        rwa [hcl] at this
       exact hn _ e h _ _ G _ hK (hh.imm _) (he.mono hk (.refl _ _)) (.pv _ _ hr) (.imm _) ⟨by simp, fun b hb => bG w _ hb⟩
      ·cases hK
     ·cases hK
  ·cases hK
 ·cases hK
def nP (P : Program) (e : Env) (h : Hp) (t : TypeId) (len : Nat) (parts : List (Nat × Operand)) (K : Kt) : Prop :=
 match P.underlying t with
 | some (.slice el) => match P.info? el, zeroCells P el, g8 e parts with
   | some ie, some zs, some [(0, .pv (.agg ps))] => bif qae 65 ie.size && (qc len 1 && (qae (len * ie.size) (2 ^ 24) && !qc (len * ie.size) 0 && qc zs.length ie.size)) then ps.length = ie.size /\ K (.pv (.sl false true [ps])) e h
     else jN P e h t len parts K
   | _, _, _ => jN P e h t len parts K
 | _ => aA 413
theorem sA : ∀ (ps : List PV), bW (ps.map .pv) = some ps
 | [] => rfl
 | p :: ps => by simp [bW, sA ps]
theorem yG {len : Nat} {parts : Array (Nat × Operand)} (ho : o.op = .buildSlice t len parts) (hK : nP P e h t len parts.toList K) : OpK P o e h K := by
 refine yF ho ?_;unfold nP at hK;split at hK
 ·rename_i el ht;split at hK
  ·rename_i ie zs ps hie hzs hvs;cases hb : (qae 65 ie.size && (qc len 1 && (qae (len * ie.size) (2 ^ 24) && !qc (len * ie.size) 0 && qc zs.length ie.size))) with
   | false => rw [hb] at hK; exact hK
   | true =>
     rw [hb] at hK;obtain ⟨hl, hK⟩ := hK;have hb2 := (Bool.and_eq_true_iff.1 (Bool.and_eq_true_iff.1 hb).2);have h1 := qd hb2.1;subst h1;have hzl := qd (Bool.and_eq_true_iff.1 hb2.2).2;have hrl : ((c5 1 zs).map LV.pv).length = ie.size := by simp [lJ, hzl]
     have hfill : dC (fun i => some (i * ie.size, ie.size)) ((c5 1 zs).map LV.pv) [(0, .pv (.agg ps))] = some (ps.map LV.pv) := by
      have e1 : (qc (ps.map LV.pv).length ie.size && qae (0 * ie.size + (ps.map LV.pv).length) ((c5 1 zs).map LV.pv).length) = true := by
       rw [hrl, qaf, hl, qbp, qw]; simp
      simp only [dC, cellsOf, e1, cond_true];congr 1;simp only [bH, qbp, qby, List.nil_append, qw];rw [List.drop_of_length_le (by rw [hrl, qaf]; omega), qax]
     unfold jN;simp only [ht, hie, hzs, hvs, hb2.2, cond_true, hfill, sA]
     have hch : b8 ie.size 1 ps = [ps] := by
      simp only [b8];rw [List.take_of_length_le (by omega)]
     rw [hch]; exact hK
  ·exact hK
 ·cases hK

theorem yH (w : World) (t e : TypeId) (ie : TypeInfo) {P : Program} (ht : P.underlying t = some (.slice e)) (hie : P.info? e = some ie) :
 (Instr.buildSlice t 0 #[]).run P w = .ok (.slice (some ⟨w.heap.size, 0, none⟩) 0 0) (w.alloc (.cells #[] e)) := by
 simp [Instr.buildSlice, run_underlying ht, sizeOf, typeInfo, hie, Instr.fill, newRow];have h0 : ((qbb 0).map fun _ : Nat => (default : Value)) = #[] := qaw (by simp);rw [h0]
def lK (P : Program) (e : Env) (h : Hp) (t : TypeId) (len : Nat) (parts : List (Nat × Operand)) (K : Kt) : Prop :=
 bif qc len 0 then (match parts with
  | [] => (match P.underlying t with
    | some (.slice el) => (match P.info? el with | some _ => K (.pv (.sl false true [])) e h | none => aA 414)
    | _ => aA 413)
  | _ => aA 415)
 else nP P e h t len parts K
theorem sB {len : Nat} {parts : Array (Nat × Operand)} (ho : o.op = .buildSlice t len parts) (hK : lK P e h t len parts.toList K) : OpK P o e h K := by
 unfold lK at hK;cases hb : qc len 0 with
 | false => rw [hb] at hK; exact yG ho hK
 | true =>
   rw [hb] at hK;simp only [cond_true] at hK;have hz := qd hb;subst hz;split at hK
   ·rename_i hp;have hp' : parts = #[] := Array.toList_eq_nil_iff.1 hp;subst hp';split at hK
    ·rename_i el ht;split at hK
     ·rename_i ie hie;intro w I G a next Qx hh he hn
      have hrun : (execOp a.eval o).run P w = .ok (.value (.slice (some ⟨w.heap.size, 0, none⟩) 0 0)) (w.alloc (.cells #[] el)) := by
       unfold execOp; rw [ho];exact aY (by simpa using yH w t el ie ht hie)
      unfold Oper.wp; rw [hrun];have hk : Keeps w I (w.alloc (.cells #[] el)) (fun b => I b ∨ b = w.heap.size) := .alloc w I _ _ fun _ x => .inl x;exact hn _ e h _ _ G _ hK (hh.imm _) (he.mono hk (.refl _ _)) (.pv _ _ (.slz _ _ _ fun _ => rfl)) (.imm _) ⟨by simp, fun b hb => bG w _ hb⟩
     ·cases hK
    ·cases hK
   ·cases hK
theorem yI {len : Nat} {parts : Array (Nat × Operand)} (ho : o.op = .buildSlice t len parts) (hK : lK P e h t len parts.toList K) : OpS P o e h K := (sB ho hK).opS
def lL (P : Program) (e : Env) (h : Hp) (t : TypeId) (l c : Operand) (K : Kt) : Prop :=
 match P.underlying t with
 | some (.slice el) => match P.info? el, zeroCells P el, aF [] e l, aF [] e c with
   | some ie, some zs, some (.pv (.int _ n)), some (.pv (.int _ m)) =>
     bif (!qc ie.size 0 && qc zs.length ie.size) then
      (0 <= n /\ n <= m /\ (ie.bytes : Int) * m <= 281474976710656 /\ m <= 9223372036854775807) /\ K (.own h.length) e (h ++ [.sl (el, ie.size) false false (ql n.toNat zs)])
     else aA 4501
   | _, _, _, _ => aA 4502
 | _ => aA 4503
theorem yJ {z : Array Value} {n k : Nat} (hk : k < n) (hz : z.size ≠ 0) : (Go.madeCells z n).getD k undef = z.getD (k % z.size) undef := by
 have hml : k % z.size < z.size := qbk _ (qad hz);simp only [Go.madeCells, qq, qbo, qbl, if_pos hk, qao, qbu];rw [getElem!_pos z _ hml, qan hml]; rfl
theorem yK {l c : Operand} (ho : o.op = .makeSlice t l c) (hK : lL P e h t l c K) : OpK P o e h K := by
 unfold lL at hK;split at hK
 ·rename_i el ht;split at hK
  ·rename_i ie zs q1 n q2 m hie hzs hl hc;cases hb : (!qc ie.size 0 && qc zs.length ie.size) with
   | false => rw [hb] at hK; cases hK
   | true =>
     rw [hb] at hK;obtain ⟨⟨k1, k2, k3, k4⟩, hK⟩ := hK;simp only [qn, qv] at hb;have hb1 : ie.size ≠ 0 := fun hz => by rw [hz] at hb; simp at hb
     have hb2 : zs.length = ie.size := qd hb.2;obtain ⟨ti, z, hi, hz, z1, z2⟩ := lI hzs;rw [hie] at hi; cases hi;intro w I G a next Qx hh he hnx
     have e1 := (aC he (AOK.nil _) hl).int_eq;have e2 := (aC he (AOK.nil _) hc).int_eq
     have hrun : (execOp a.eval o).run P w = .ok (.value (.slice (some ⟨w.heap.size, 0, none⟩) n.toNat m.toNat)) (w.alloc (.cells (Go.madeCells z.cells (m.toNat * ie.size)) el)) := by
      unfold execOp; rw [ho];refine aY ?_;rw [e1, e2];exact Go.run_make w t el ie z ht hie hz q1 q2 n m k1 k2 k3 k4
     unfold Oper.wp;rw [hrun]
     have hp : HRel (w.alloc (.cells (Go.madeCells z.cells (m.toNat * ie.size)) el)) I (aG G h.length ⟨w.heap.size, 0, m.toNat, ie.size⟩) (h ++ [.sl (el, ie.size) false false (ql n.toNat zs)]) := by
      refine hh.push _ _ _ rfl ?_;refine ⟨by rw [qu]; exact Int.toNat_le_toNat k2, by unfold maxLen; show m.toNat <= _; omega, fun _ => rfl, rfl, fun i x hx => ?_, fun _ => ⟨_, gC w _, Go.size_madeCells _ _, fun i x hx k v hv => ?_⟩⟩
      ·have := qam hx;rw [qar this]; exact hb2
      ·have hin : i < n.toNat := by
        have := (List.getElem?_eq_some_iff.1 hx).1;rwa [qu] at this
       have hx' := qar (qam hx);subst hx'
       have hks : k < ie.size := by
        have := (List.getElem?_eq_some_iff.1 hv).1;omega
       have hlt : i * ie.size + k < m.toNat * ie.size := by
        have h1 : (i + 1) * ie.size <= m.toNat * ie.size := qh _ (by omega);rw [qk] at h1; omega
       have hmod : (i * ie.size + k) % z.cells.size = k := by
        rw [z1, hb2, qay, qbw, qbg hks]
       show Rep _ I v ((Go.madeCells z.cells (m.toNat * ie.size)).getD (i * ie.size + k) undef) /\ _;rw [yJ hlt (by omega), hmod];exact z2 _ I k v hv
     refine hnx _ e _ _ I _ _ hK hp (he.mono (.alloc w I I _ fun _ x => x) (Like.push G h _ _)) ?_ (TrH.push _ _ _ rfl) ⟨by simp, fun b hb => bG w _ hb⟩;have := LRel.own (w := w.alloc (.cells (Go.madeCells z.cells (m.toNat * ie.size)) el)) (I := I) (G := aG G h.length ⟨w.heap.size, 0, m.toNat, ie.size⟩) (h := h ++ [.sl (el, ie.size) false false (ql n.toNat zs)]) h.length (el, ie.size) false (ql n.toNat zs) ⟨w.heap.size, 0, none⟩ (fun _ => by simp [aG]) (by simp);simpa [aG] using this
  ·cases hK
 ·cases hK
theorem yL {l c : Operand} (ho : o.op = .makeSlice t l c) (hK : lL P e h t l c K) : OpS P o e h K := (yK ho hK).opS
def sC (P : Program) (el : TypeId) : Option (IntKind × Int) :=
 match P.info? el with
 | some ti => match ti.zero with
   | some (.int k n) => some (k, n)
   | _ => none
 | none => none
def nQ (P : Program) (e : Env) (h : Hp) (ts : List TypeId) (args : List Operand) (K : Kt) : Prop :=
 match ts, args with
 | [t], [x] => match aF [] e x, P.underlying t with
   | some (.sub o a b), some (.slice el) => match h[o]?, sC P el with
     | some (.sl ty m n es), some (k, z) => bif qc ty.2 1 then K (.tup []) e (h.set o (.sl ty m n (bH es a (ql (b - a) [.int k z])))) else aA 4601
     | _, _ => aA 4602
   | _, _ => aA 4603
 | _, _ => aA 4604
theorem yM (w : World) (t el ty : TypeId) {ti : TypeInfo} {k : IntKind} {z : Int} (ht : P.underlying t = some (.slice el)) (hi : P.info? el = some ti) (hz : ti.zero = some (.int k z)) {b off n c : Nat} (hn : 0 < n)
 {cur : Array Value} {ty' : TypeId} (hg : w.heap[b]? = some (.cells cur ty' (0, 0))) (hfit : off + n <= cur.size) :
 (Builtin.clear_ #[t] ty #[.slice (some ⟨b, off, none⟩) n c]).run P w = .ok (.tuple #[]) (w.setRow b (cur.toList.take off ++ ql n (Value.int k z) ++ cur.toList.drop (off + (ql n (Value.int k z)).length)).toArray) := by
 have hzc : (Builtin.zeroCells (Value.int k z).cells n).toList = ql n (Value.int k z) := by
  show (Builtin.zeroCells #[Value.int k z] n).toList = _;simp [Builtin.zeroCells];apply List.ext_getElem
  ·simp
  ·intro i h1 h2;simp [Nat.mod_one]
 have hst := run_storeCells_at P b off ty' (ql n (Value.int k z)) 0 cur w hg (by simpa using hfit) (by intro v hv; rw [qar hv]; rfl)
 simp only [qap] at hst;have hv : ∀ w, (zeroValue el).run P w = .ok (.int k z) w := fun w => by simp [zeroValue, typeInfo, hi, hz]
 obtain ⟨m, rfl⟩ : ∃ m, n = m + 1 := ⟨n - 1, by omega⟩;simp only [Builtin.clear_];simp [run_underlying ht, hv, hzc, hst]
theorem yN {c : Call} (h : c.argTypes.toList = [t]) : c.argTypes = #[t] := by
 have := congrArg List.toArray h;simpa using this
theorem yO {c : Call} (ho : o.op = .call c) (hc : c.callee = .builtin .clear) (hK : nQ P e h c.argTypes.toList c.args.toList K) : OpS P o e h K := by
 unfold nQ at hK;split at hK
 ·rename_i t x hat har;split at hK
  ·rename_i ob a0 b0 el hu ht;split at hK
   ·rename_i ty m n es k z hob hz;cases hb : qc ty.2 1 with
    | false => rw [hb] at hK; cases hK
    | true =>
      rw [hb] at hK;simp only [cond_true] at hK;have hsz := qd hb
      obtain ⟨ti, hi, hz0⟩ : ∃ ti, P.info? el = some ti /\ ti.zero = some (.int k z) := by
       unfold sC at hz;split at hz
       ·rename_i ti hi;split at hz
        ·rename_i k' n' hzz;cases hz; exact ⟨ti, hi, hzz⟩
        ·cases hz
       ·cases hz
      intro w I G a next Qx hh he hnx
      have hu' := aC he (AOK.nil _) hu
      have key : ∀ {w' : World}, (Builtin.clear_ c.argTypes o.type #[a.eval x]).run P w = .ok (.tuple #[]) w' -> next (a.put o.dst (.tuple #[])) w' -> o.wp P a w next Qx := fun {w'} hr hnx => by
       have hrun : (execOp a.eval o).run P w = .ok (.value (.tuple #[])) w' := by
        unfold execOp; rw [ho];show (do let d <- resolve a.eval c o.type; invoke d.target d.args : Sem Next).run P w = _;rw [jD hc, rI har];exact aY hr
       unfold Oper.wp; rw [hrun]; exact hnx
      rw [yN hat] at key;have htup : ∀ {w' I' G' h'}, LRel w' I' G' h' (.tup []) (.tuple #[]) := fun {w' I' G' h'} => .tup [] #[] rfl (fun k v hv => by simp at hv)
      have idle : bH es a0 (ql (b0 - a0) [PV.int k z]) = es -> h.set ob (.sl ty m n (bH es a0 (ql (b0 - a0) [PV.int k z]))) = h := fun hs => by
       rw [hs]
       exact qbs fun i => by
        by_cases hoi : ob = i
        ·subst hoi;have := (List.getElem?_eq_some_iff.1 hob).1;rw [List.getElem?_set_self this, hob]
        ·rw [qm hoi]
      generalize hcx : a.eval x = cx at hu' key;cases hu' with
      | subNil _ _ _ ty' m' es' g1 g2 =>
        have hor := hh.obs _ _ g1;rw [hob] at g1; cases g1;have hes : es = [] := hor;subst g2; subst hes;rw [idle (by simp [bH])] at hK;refine key (w' := w) ?_ (hnx _ _ _ _ _ _ _ hK hh he htup (TrH.refl ..));simp [Builtin.clear_, run_underlying ht]
      | sub _ _ _ cap ad ty' m' es' g1 g2 g3 g4 g5 =>
        have hor := hh.obs _ _ g1;rw [hob] at g1; cases g1;by_cases hab : a0 = b0
        ·subst hab;rw [idle (by simp [bH])] at hK;refine key (w' := w) ?_ (hnx _ _ _ _ _ _ _ hK hh he htup (TrH.refl ..));rw [Nat.sub_self]; simp [Builtin.clear_, run_underlying ht]
        ·have hlt : a0 < b0 := by omega
         have hn0 : 0 < b0 - a0 := by omega
         have hsum : a0 + (b0 - a0) = b0 := by omega
         have hle : a0 + (ql (b0 - a0) [PV.int k z]).length <= es.length := by rw [qu, hsum]; exact g3
         obtain ⟨q1, q2, q3, q3', q4, q5⟩ := hor;have hcap : (G ob).cap ≠ 0 := fun h0 => Nat.not_le.2 (Nat.lt_of_le_of_lt (Nat.zero_le a0) hlt) (qai g3 (h0 ▸ q1));have q3 := q3 hcap;have hs1 : (G ob).sz = 1 := q3'.trans hsz;obtain ⟨vs, f1, f2, f3⟩ := q5 hcap;have had := g5 hlt;rw [hs1, qba] at had f2;subst had;have hfit : (G ob).off + a0 + (b0 - a0) <= vs.size := by rw [q3, qw, hsum, f2]; exact qai g3 q1
         have hrun := yM (P := P) w t el o.type (c := cap) ht hi hz0 (n := b0 - a0) hn0 f1 hfit;refine key hrun ?_;have hww : ∀ b, b ≠ (G ob).blk -> (w.setRow (G ob).blk (vs.toList.take ((G ob).off + a0) ++ ql (b0 - a0) (Value.int k z) ++ vs.toList.drop ((G ob).off + a0 + (ql (b0 - a0) (Value.int k z)).length)).toArray).heap[b]? = w.heap[b]? := fun b hb => jH _ _ _ _ hb;have hal : Ob.alive (G ob) (.sl ty m false es) := ⟨rfl, hcap⟩;have hK' := Keeps.upd hh hob hal hww;have hlk : (Ob.sl ty m false es).like (.sl ty m false (bH es a0 (ql (b0 - a0) [PV.int k z]))) := ⟨rfl, rfl, (eO _ _ _ hle).symm⟩;have hL : Like G G h (h.set ob (.sl ty m false (bH es a0 (ql (b0 - a0) [PV.int k z])))) := Like.set hob hlk;refine hnx _ _ _ _ _ _ _ hK (hh.upd hob hal hww (by rw [d7]; exact qe _) hlk ?_) (he.mono hK' hL) htup (TrH.upd hob hal hww (by rw [d7]; exact qe _) rfl rfl rfl (jI _ _ _) (qe _) (fun x => x));refine ⟨by rw [eO _ _ _ hle]; exact q1, q2, fun _ => q3, q3', fun i' e' he' => ?_, fun _ => ⟨_, setRow_heap w _ _ _ ty.1 _ f1, by simp [hs1]; omega, fun i' e' he' j u hj => ?_⟩⟩
         ·rw [gE _ _ _ hle] at he';split at he'
          ·rw [qas] at he';split at he'
           ·cases he'; rw [hs1]; rfl
           ·cases he'
          ·exact q4 _ _ he'
         ·rw [jK vs _ _ (by simpa using hfit)]
          rw [gE _ _ _ hle] at he';rw [hs1, qba];split at he'
          ·rename_i hin;simp only [qu] at hin;rw [qas, if_pos (by omega)] at he';cases he'
           have hj0 : j = 0 := by
            have := (List.getElem?_eq_some_iff.1 hj).1;simp at this; exact this
           subst hj0;cases hj;rw [if_pos (by simp only [qu]; omega)]
           have e1 : (ql (b0 - a0) (Value.int k z)).getD (i' + 0 - ((G ob).off + a0)) undef = .int k z := by
            rw [List.getD_eq_getElem?_getD, qas, if_pos (by omega)]; rfl
           rw [e1];exact ⟨.int k z, rfl⟩
          ·rename_i hin;simp only [qu] at hin
           have hjl : j = 0 := by
            have h1 := (List.getElem?_eq_some_iff.1 hj).1;have h2 := q4 _ _ he';omega
           subst hjl;have h2 := f3 i' e' he' 0 u hj;rw [hs1, qba] at h2;rw [if_neg (by simp only [qu]; omega)];exact ⟨h2.1.mono hK'.1 hK'.2, h2.2⟩
   ·cases hK
  ·cases hK
 ·cases hK
def lM (e : Env) (h : Hp) (op : BinOp) (x y : Operand) (K : Kt) : Prop :=
 match op, aF [] e x, aF [] e y with
 | .quo, some (.pv (.int k a)), some (.pv (.int k' b)) => bif bT k k' then b ≠ 0 /\ K (.pv (.int k (k.wrap (a.tdiv b)))) e h else aA 4701
 | .rem, some (.pv (.int k a)), some (.pv (.int k' b)) => bif bT k k' then b ≠ 0 /\ K (.pv (.int k (a.tmod b))) e h else aA 4702
 | .shl, some (.pv (.int k a)), some (.pv (.int _ b)) => 0 <= b /\ K (.pv (.int k (gU k a b))) e h
 | .shr, some (.pv (.int k a)), some (.pv (.int _ b)) => 0 <= b /\ K (.pv (.int k (gV k a b))) e h
 | _, _, _ => aA 4703
theorem nR {op : BinOp} {t yt : TypeId} {x y : Operand} (ho : o.op = .binOp op t x y yt) (hK : lM e h op x y K) {w : World} {I : Nat -> Prop} {G : Nat -> Pl} {ac : Act} (he : ERel w I G h e ac.tmps) :
 ∃ v cv, K v e h /\ (∀ w2, (execOp ac.eval o).run P w2 = .ok (.value cv) w2) /\ LRel w I G h v cv := by
 unfold lM at hK;split at hK
 ·rename_i k a k' b hx hy;cases hk : bT k k' with
  | false => rw [hk] at hK; cases hK
  | true =>
    rw [hk] at hK;have := c0 hk;subst this;simp only [cond_true] at hK;have e1 := (aC he (AOK.nil _) hx).int_eq;have e2 := (aC he (AOK.nil _) hy).int_eq;refine ⟨_, _, hK.2, fun w2 => ?_, .pv _ _ (.int _ _)⟩;unfold execOp; rw [ho];refine aY ?_;show dQ P _ t x y (ac.eval x) (ac.eval y) w2 = _;rw [e1, e2, dA (by simp) (by simp)];simp [binOp, Op.intDiv, hK.1]
 ·rename_i k a k' b hx hy;cases hk : bT k k' with
  | false => rw [hk] at hK; cases hK
  | true =>
    rw [hk] at hK;have := c0 hk;subst this;simp only [cond_true] at hK;have e1 := (aC he (AOK.nil _) hx).int_eq;have e2 := (aC he (AOK.nil _) hy).int_eq;refine ⟨_, _, hK.2, fun w2 => ?_, .pv _ _ (.int _ _)⟩;unfold execOp; rw [ho];refine aY ?_;show dQ P _ t x y (ac.eval x) (ac.eval y) w2 = _;rw [e1, e2, dA (by simp) (by simp)];simp [binOp, Op.intDiv, hK.1]
 ·rename_i k a k' b hx hy;have e1 := (aC he (AOK.nil _) hx).int_eq;have e2 := (aC he (AOK.nil _) hy).int_eq;refine ⟨_, _, hK.2, fun w2 => ?_, .pv _ _ (.int _ _)⟩;unfold execOp; rw [ho];refine aY ?_;show dQ P _ t x y (ac.eval x) (ac.eval y) w2 = _;rw [e1, e2, dA (by simp) (by simp)];have h1 : ¬ b < 0 := by omega
  simp [binOp, Op.shift, h1, gU, gV]
 ·rename_i k a k' b hx hy;have e1 := (aC he (AOK.nil _) hx).int_eq;have e2 := (aC he (AOK.nil _) hy).int_eq;refine ⟨_, _, hK.2, fun w2 => ?_, .pv _ _ (.int _ _)⟩;unfold execOp; rw [ho];refine aY ?_;show dQ P _ t x y (ac.eval x) (ac.eval y) w2 = _;rw [e1, e2, dA (by simp) (by simp)];have h1 : ¬ b < 0 := by omega
  simp [binOp, Op.shift, h1, gU, gV]
 ·cases hK
theorem yP {op : BinOp} {t yt : TypeId} {x y : Operand} (ho : o.op = .binOp op t x y yt) (hK : lM e h op x y K) : OpS P o e h K := by
 intro w I G a next Qx hh he hn
 obtain ⟨v, cv, h1, h2, h3⟩ := nR (P := P) ho hK he;unfold Oper.wp;rw [h2 w];exact hn v e h w I G cv h1 hh he h3 (.refl _ _ _ _)
structure RowRep (w : World) (I : Nat -> Prop) (sz : Nat) (es : List (List PV)) (xs : List Value) : Prop where
 len : xs.length = es.length * sz
 el : ∀ (i : Nat) e, es[i]? = some e -> e.length = sz
 rep : ∀ (i : Nat) e (k : Nat) v, es[i]? = some e -> e[k]? = some v -> Rep w I v (xs.getD (i * sz + k) undef) /\ (xs.getD (i * sz + k) undef).oneCell' = true
theorem RowRep.mono {w w' : World} {I I' : Nat -> Prop} {sz : Nat} {es : List (List PV)} {xs : List Value} (h : RowRep w I sz es xs) (hk : Keeps w I w' I') : RowRep w' I' sz es xs :=
 ⟨h.len, h.el, fun i e k v he hv => ⟨(h.rep i e k v he hv).1.mono hk.1 hk.2, (h.rep i e k v he hv).2⟩⟩
theorem RowRep.one {sz : Nat} {es : List (List PV)} {xs : List Value} (h : RowRep w I sz es xs) (hsz : sz ≠ 0) : ∀ u ∈ xs, u.oneCell' = true := by
 intro u hu;obtain ⟨j, hj, rfl⟩ := qbn hu;rw [h.len] at hj
 have hi : j / sz < es.length := by
  rw [qbj (qad hsz)]; exact hj
 have hget : es[j / sz]? = some es[j / sz] := qj hi;have hl := h.el _ _ hget;have hk : j % sz < (es[j / sz]).length := by rw [hl]; exact qbk _ (qad hsz)
 have := (h.rep _ _ (j % sz) _ hget (qj hk)).2;have e : j / sz * sz + j % sz = j := by rw [qay]; exact qbx j sz
 rw [e] at this;have hj' : j < xs.length := by rw [h.len]; exact hj
 simpa [qah, hj'] using this
theorem RowRep.append {sz : Nat} {es fs : List (List PV)} {xs ys : List Value} (h : RowRep w I sz es xs) (k : RowRep w I sz fs ys) : RowRep w I sz (es ++ fs) (xs ++ ys) := by
 refine ⟨by simp [h.len, k.len, qk], fun i e he => ?_, fun i e q v he hv => ?_⟩
 ·by_cases hi : i < es.length
  ·rw [qg hi] at he; exact h.el _ _ he
  ·rw [qo (by omega)] at he; exact k.el _ _ he
 ·by_cases hi : i < es.length
  ·rw [qg hi] at he;have hq : q < sz := by have := (List.getElem?_eq_some_iff.1 hv).1; rwa [h.el _ _ he] at this
   have hlt : i * sz + q < xs.length := by
    rw [h.len];have : (i + 1) * sz <= es.length * sz := qh _ hi;rw [qk] at this; omega
   have e1 : (xs ++ ys).getD (i * sz + q) undef = xs.getD (i * sz + q) undef := by
    simp only [qah, qg hlt]
   rw [e1]; exact h.rep _ _ _ _ he hv
  ·rw [qo (by omega)] at he
   have hge : xs.length <= i * sz + q := by
    rw [h.len];have : es.length * sz <= i * sz := qh _ (by omega);omega
   have e1 : (xs ++ ys).getD (i * sz + q) undef = ys.getD ((i - es.length) * sz + q) undef := by
    simp only [qah, qo hge];congr 2;rw [h.len, Nat.sub_mul];have : es.length * sz <= i * sz := qh _ (by omega);omega
   rw [e1]; exact k.rep _ _ _ _ he hv

def dD (h : Hp) : LV -> Option (List (List PV))
 | .pv (.sl _ _ es) => some es
 | .own o => match h[o]? with | some (.sl _ _ _ es) => some es | _ => none
 | .sub o a b => match h[o]? with | some (.sl _ _ _ es) => some ((es.drop a).take (b - a)) | _ => none
 | _ => none
def cH (es : List (List PV)) (sz : Nat) : Prop := ∀ e, es.head? = some e -> e.length = sz

theorem fH {b : Nat} {vs : Array Value} {ty : TypeId} {fz : Nat × Nat} (h : w.heap[b]? = some (.cells vs ty fz)) {j : Nat} (hj : j < vs.size) : w.cell? ⟨b, j, none⟩ = some (vs.getD j undef) := by
 simp [World.cell?, h, hj]

theorem lN {u : LV} (hh : HRel w I G h) (hr : LRel w I G h u cv) {es : List (List PV)} (he : dD h u = some es) {sz : Nat} (hsz : cH es sz) :
 ∃ b n c, cv = .slice b n c /\ n = es.length /\ ∃ xs : List Value, RowRep w I sz es xs /\ ∀ (w' : World), w'.heap = w.heap -> (Builtin.firstCells sz n cv).run P w' = .ok xs.toArray w' := by
 -- from the cells' addresses
 have build : ∀ (es : List (List PV)) (b off cap sz' : Nat) (c : Nat -> Nat -> Value), cH es sz -> (∀ (i : Nat) e, es[i]? = some e -> e.length = sz') ->
  (∀ (i : Nat) e (k : Nat) v, es[i]? = some e -> e[k]? = some v -> w.cell? ⟨b, off + i * sz' + k, none⟩ = some (c i k)) -> (∀ (i : Nat) e (k : Nat) v, es[i]? = some e -> e[k]? = some v -> Rep w I v (c i k)) ->
  (∀ (i : Nat) e (k : Nat) v, es[i]? = some e -> e[k]? = some v -> (c i k).oneCell' = true) ->
  ∃ xs : List Value, RowRep w I sz es xs /\ ∀ (w' : World), w'.heap = w.heap -> (Builtin.firstCells sz es.length (.slice (some ⟨b, off, none⟩) es.length cap)).run P w' = .ok xs.toArray w' := by
  intro es b off cap sz' c hs h4 h5 h6 h7;by_cases hne : es = []
  ·subst hne;refine ⟨[], ⟨by simp, fun i e he => by simp at he, fun i e k v he => by simp at he⟩, fun w' hw => ?_⟩;simp [Builtin.firstCells, loadCells, loadCellsFrom]
  ·have hsz' : sz' = sz := by
    cases es with
    | nil => exact absurd rfl hne
    | cons e r => rw [<- h4 0 e rfl, hs e rfl]
   subst hsz';by_cases hz : sz' = 0
   ·subst hz;refine ⟨[], ⟨by simp, h4, fun i e k v he hk => ?_⟩, fun w' hw => ?_⟩
    ·have := h4 i e he; have := (List.getElem?_eq_some_iff.1 hk).1; omega
    ·simp [Builtin.firstCells, loadCells, loadCellsFrom]
   ·have hpos := qad hz
    let xs : List Value := (qbd (es.length * sz')).map fun j => c (j / sz') (j % sz')
    have hx : ∀ j, j < es.length * sz' -> ∃ e v, es[j / sz']? = some e /\ e[j % sz']? = some v := fun j hj => by
     have hi : j / sz' < es.length := by rw [qbj hpos]; exact hj
     have hk : j % sz' < (es[j / sz']).length := by rw [h4 _ _ (qj hi)]; exact qbk _ hpos
     exact ⟨_, _, qj hi, qj hk⟩
    have hidx : ∀ i k, k < sz' -> (i * sz' + k) / sz' = i /\ (i * sz' + k) % sz' = k := fun i k hk => by
     constructor
     ·rw [qay, Nat.mul_add_div hpos, Nat.div_eq_of_lt hk]; omega
     ·rw [qay, qbw, qbg hk]
    refine ⟨xs, ⟨by simp [xs], h4, fun i e k v he hk => ?_⟩, fun w' hw => ?_⟩
    ·have hkl : k < sz' := by have := (List.getElem?_eq_some_iff.1 hk).1; rwa [h4 _ _ he] at this
     have hil := (List.getElem?_eq_some_iff.1 he).1
     have hlt : i * sz' + k < es.length * sz' := by
      have : (i + 1) * sz' <= es.length * sz' := qh _ hil;rw [qk] at this; omega
     have e1 : xs.getD (i * sz' + k) undef = c i k := by
      simp [xs, qah, hlt, (hidx i k hkl).1, (hidx i k hkl).2]
     rw [e1]; exact ⟨h6 i e k v he hk, h7 i e k v he hk⟩
    ·refine run_firstCells_some (P := P) w' sz' es.length ⟨b, off, none⟩ es.length cap xs (by simp [xs]) fun j u hj => ?_;have hjl : j < es.length * sz' := by have := (List.getElem?_eq_some_iff.1 hj).1; simpa [xs] using this
     obtain ⟨e, v, g1, g2⟩ := hx j hjl;have e1 : u = c (j / sz') (j % sz') := by simp [xs, hjl] at hj; exact hj.symm
     have := h5 _ _ _ _ g1 g2;rw [bI, e1, World.cell?_of_block (w := w) (by rw [hw])];rw [show off + j = off + j / sz' * sz' + j % sz' by have := qbx j sz'; rw [qay] at this; omega];exact this
 have buildOwn : ∀ (o : Nat) (ty : Nat × Nat) (m : Bool) (es0 : List (List PV)), h[o]? = some (.sl ty m false es0) -> ∀ (i0 n cap : Nat), i0 + n <= es0.length -> cH ((es0.drop i0).take n) sz ->
  ∃ xs : List Value, RowRep w I sz ((es0.drop i0).take n) xs /\ ∀ (w' : World), w'.heap = w.heap -> (Builtin.firstCells sz n (.slice (some ⟨(G o).blk, (G o).off + i0 * (G o).sz, none⟩) n cap)).run P w' = .ok xs.toArray w' := by
  intro o ty m es0 ho i0 n cap hle hs;obtain ⟨q1, q2, q3, q3', q4, q5⟩ := hh.obs _ _ ho;have hlen : ((es0.drop i0).take n).length = n := by simp; omega
  have hget : ∀ (i : Nat) e, ((es0.drop i0).take n)[i]? = some e -> es0[i0 + i]? = some e := fun i e hi => by
   rw [qac] at hi;split at hi
   ·rw [qr] at hi; exact hi
   ·cases hi
  by_cases hcap : (G o).cap = 0
  ·have : es0 = [] := qp (by omega);subst this;have hn : n = 0 := by simp at hle; omega
   subst hn;have := build [] (G o).blk ((G o).off + i0 * (G o).sz) cap 0 (fun _ _ => undef) (fun e he => by simp at he) (fun i e he => by simp at he) (fun i e k v he => by simp at he) (fun i e k v he => by simp at he) (fun i e k v he => by simp at he);simpa using this
  ·obtain ⟨vs, f1, f2, f3⟩ := q5 hcap
   have := build ((es0.drop i0).take n) (G o).blk ((G o).off + i0 * (G o).sz) cap (G o).sz (fun i k => vs.getD ((i0 + i) * (G o).sz + k) undef) hs (fun i e he => q4 _ _ (hget i e he)) (fun i e k v he hk => by
    have hg := hget i e he;have hil := (List.getElem?_eq_some_iff.1 hg).1;have hkl : k < (G o).sz := by have := (List.getElem?_eq_some_iff.1 hk).1; rwa [q4 _ _ hg] at this
    have hmul : (i0 + i + 1) * (G o).sz <= (G o).cap * (G o).sz := qh _ (by omega);rw [qk (i0 + i)] at hmul;rw [q3 hcap, show 0 + i0 * (G o).sz + i * (G o).sz + k = (i0 + i) * (G o).sz + k by rw [qk]; omega]
    exact fH f1 (by omega)) (fun i e k v he hk => (f3 _ _ (hget i e he) k v hk).1) (fun i e k v he hk => (f3 _ _ (hget i e he) k v hk).2)
   rwa [hlen] at this
 cases hr with
 | pv p _ h1 =>
   cases h1 with
   | slnil f =>
     simp [dD] at he; subst he;exact ⟨none, 0, 0, rfl, rfl, [], ⟨by simp, fun i e he => by simp at he, fun i e k v he => by simp at he⟩, fun w' hw => by simp [Builtin.firstCells]⟩
   | slz f a cap hf =>
     simp [dD] at he; subst he;exact ⟨_, 0, cap, rfl, rfl, [], ⟨by simp, fun i e he => by simp at he, fun i e k v he => by simp at he⟩, fun w' hw => by simp [Builtin.firstCells, loadCells, loadCellsFrom]⟩
   | sl f es' b off cap sz' c h1 h2 h3 h4 h5 h6 h7 =>
     simp [dD] at he; subst he;exact ⟨_, _, _, rfl, rfl, build es' b off cap sz' c hsz h4 h5 h6 h7⟩
   | _ => simp [dD] at he
 | ownNil o ty m es' h1 =>
   have := hh.obs _ _ h1;simp only [ORel] at this;simp [dD, h1] at he; subst he;subst this;exact ⟨none, 0, 0, rfl, rfl, [], ⟨by simp, fun i e he => by simp at he, fun i e k v he => by simp at he⟩, fun w' hw => by simp [Builtin.firstCells]⟩
 | own o ty m es' ad h0 h1 =>
   simp [dD, h1] at he; subst he;by_cases hc0 : (G o).cap = 0
   ·have hor := hh.obs _ _ h1;have hle := hor.1;have : es' = [] := qp (by omega);subst this;exact ⟨_, 0, _, rfl, rfl, [], ⟨by simp, fun i e he => by simp at he, fun i e k v he => by simp at he⟩, fun w' hw => by simp [Builtin.firstCells, loadCells, loadCellsFrom]⟩
   have h0 := h0 hc0;subst h0;have := buildOwn o ty m es' h1 0 es'.length (G o).cap (by omega) (by simpa using hsz)
   simp only [qbp, qap, List.drop_zero, List.take_length] at this;exact ⟨_, _, _, rfl, rfl, this⟩
 | subNil o a b ty m es' h1 h2 =>
   have := hh.obs _ _ h1;simp only [ORel] at this;subst this; subst h2;simp [dD, h1] at he; subst he;exact ⟨none, 0, 0, rfl, rfl, [], ⟨by simp, fun i e he => by simp at he, fun i e k v he => by simp at he⟩, fun w' hw => by simp [Builtin.firstCells]⟩
 | sub o a b cap ad ty m es' h1 h2 h3 h4 h5 =>
   simp [dD, h1] at he; subst he;have := buildOwn o ty m es' h1 a (b - a) cap (by omega) hsz;refine ⟨_, _, _, rfl, by simp; omega, ?_⟩;by_cases hab : a < b
   ·rw [h5 hab]; exact this
   ·have e0 : b - a = 0 := by omega
    rw [e0] at this ⊢;obtain ⟨xs, g1, g2⟩ := this;refine ⟨xs, g1, fun w' hw => ?_⟩;have hx : xs = [] := qp (by simpa using g1.len)
    subst hx;simp [Builtin.firstCells, loadCells, loadCellsFrom]
 | _ => simp [dD] at he

def kill1 (o : Nat) : LV -> LV
 | .own o' => bif qc o' o then .bot else .own o'
 | .sub o' a b => bif qc o' o then .bot else .sub o' a b
 | .elt o' i off => bif qc o' o then .bot else .elt o' i off
 | .agg _ => .bot
 | .tup _ => .bot
 | .fn _ _ => .bot
 | .spec .. => .bot
 | v => v
def hE (o : Nat) : LV -> LV
 | .agg cs => .agg (cs.map (kill1 o))
 | .tup cs => .tup (cs.map (kill1 o))
 | .fn f cs => .fn f (cs.map (kill1 o))
 | .spec j w v => .spec j w (kill1 o v)
 | v => kill1 o v
def eP (o : Nat) : Env -> Env
 | [] => []
 | (i, v) :: r => (i, hE o v) :: eP o r
def gF (o : Nat) : Ob -> Ob
 | .box cs => .box (cs.map (kill1 o))
 | ob => ob
def bJ (o : Nat) (h : Hp) : Hp := h.map (gF o)

def jO (o : Nat) (G G' : Nat -> Pl) (h h' : Hp) : Prop := ∀ (i : Nat) ob, i ≠ o -> h[i]? = some ob -> (∃ ob', h'[i]? = some ob' /\ ob.like ob') /\ (ob ≠ .dead -> G' i = G i)
theorem LRel.kill1 {w w' : World} {I I' : Nat -> Prop} {G G' : Nat -> Pl} {h h' : Hp} {v : LV} {o : Nat} (hr : LRel w I G h v cv)
 (hk : Keeps w I w' I') (hl : jO o G G' h h') (hbox : ∀ cs, h[o]? ≠ some (.box cs)) (harr : ∀ cs, h[o]? ≠ some (.arr cs)) (hmp : (∀ cs, h[o]? ≠ some (.mp cs)) /\ ∀ t r c, h[o]? ≠ some (.iter t r c)) : LRel w' I' G' h' (kill1 o v) cv := by
 have key : ∀ (i : Nat) ob, i ≠ o -> h[i]? = some ob -> ob ≠ .dead -> ∃ ob', h'[i]? = some ob' /\ ob.like ob' /\ G' i = G i := fun i ob hi ho hd => by
  obtain ⟨⟨ob', h1, h2⟩, h3⟩ := hl i ob hi ho;exact ⟨ob', h1, h2, h3 hd⟩
 have neq : ∀ {i : Nat}, qc i o = false -> i ≠ o := fun hb e => by subst e; simp at hb
 cases hr with
 | bot => exact .bot _
 | pv p _ h1 => exact .pv _ _ (h1.mono hk.1 hk.2)
 | ownNil i ty m es h1 =>
   simp only [Eng.kill1];cases hb : qc i o with
   | true => exact .bot _
   | false =>
     obtain ⟨ob', e1, e2, e3⟩ := key i _ (neq hb) h1 (by simp);cases ob' <;> simp [Ob.like] at e2;obtain ⟨rfl, rfl, _⟩ := e2;exact .ownNil i _ _ _ e1
 | own i ty m es ad h0 h1 =>
   simp only [Eng.kill1];cases hb : qc i o with
   | true => exact .bot _
   | false =>
     obtain ⟨ob', e1, e2, e3⟩ := key i _ (neq hb) h1 (by simp);cases ob' <;> simp [Ob.like] at e2;obtain ⟨rfl, rfl, e2⟩ := e2;rw [e2, <- e3];exact .own i _ _ _ ad (e3 ▸ h0) e1
 | subNil i a b ty m es h1 h2 =>
   simp only [Eng.kill1];cases hb : qc i o with
   | true => exact .bot _
   | false =>
     obtain ⟨ob', e1, e2, e3⟩ := key i _ (neq hb) h1 (by simp);cases ob' <;> simp [Ob.like] at e2;obtain ⟨rfl, rfl, _⟩ := e2;exact .subNil i a b _ _ _ e1 h2
 | sub i a b cap ad ty m es h1 h2 h3 h4 h5 =>
   simp only [Eng.kill1];cases hb : qc i o with
   | true => exact .bot _
   | false =>
     obtain ⟨ob', e1, e2, e3⟩ := key i _ (neq hb) h1 (by simp);cases ob' <;> simp [Ob.like] at e2;obtain ⟨rfl, rfl, e2⟩ := e2;exact .sub i a b cap ad _ _ _ e1 h2 (e2 ▸ h3) h4 (e3 ▸ h5)
 | elt i j off ty m es h1 h2 =>
   simp only [Eng.kill1];cases hb : qc i o with
   | true => exact .bot _
   | false =>
     obtain ⟨ob', e1, e2, e3⟩ := key i _ (neq hb) h1 (by simp);cases ob' <;> simp [Ob.like] at e2;obtain ⟨rfl, rfl, e2⟩ := e2;rw [<- e3];exact .elt i j off _ _ _ e1 (e2 ▸ h2)
 | box i off cs h1 =>
   have hi : i ≠ o := fun e => hbox cs (e ▸ h1);obtain ⟨ob', e1, e2, e3⟩ := key i _ hi h1 (by simp);cases ob' <;> simp [Ob.like] at e2;rw [<- e3];exact .box i off _ e1
 | arr i off cs h1 =>
   have hi : i ≠ o := fun e => harr cs (e ▸ h1);obtain ⟨ob', e1, e2, e3⟩ := key i _ hi h1 (by simp);cases ob' <;> simp [Ob.like] at e2;rw [<- e3];exact .arr i off _ e1
 | agg => exact .bot _
 | tup => exact .bot _
 | fn => exact .bot _
 | mp i kvs h1 =>
   have hi : i ≠ o := fun e => hmp.1 kvs (e ▸ h1);obtain ⟨ob', e1, e2, e3⟩ := key i _ hi h1 (by simp);cases ob' <;> simp [Ob.like] at e2;rw [<- e3];exact .mp i _ e1
 | iter i ty rem cur h1 =>
   have hi : i ≠ o := fun e => hmp.2 ty rem cur (e ▸ h1);obtain ⟨ob', e1, e2, e3⟩ := key i _ hi h1 (by simp);cases ob' <;> simp [Ob.like] at e2;rw [<- e3];exact .iter i _ _ _ e1
theorem lO {cs : List LV} {o k : Nat} {u : LV} (hk : (cs.map (kill1 o))[k]? = some u) : ∃ v, cs[k]? = some v /\ u = kill1 o v := by
 rw [qt] at hk;cases hc : cs[k]? with
 | none => rw [hc] at hk; cases hk
 | some v => rw [hc] at hk; cases hk; exact ⟨v, rfl, rfl⟩
theorem VRel.kill {w w' : World} {I I' : Nat -> Prop} {G G' : Nat -> Pl} {h h' : Hp} {tm : Array Value} {v : LV} {o : Nat} (hr : VRel w I G h tm v cv)
 (hk : Keeps w I w' I') (hl : jO o G G' h h') (hbox : ∀ cs, h[o]? ≠ some (.box cs)) (harr : ∀ cs, h[o]? ≠ some (.arr cs)) (hmp : (∀ cs, h[o]? ≠ some (.mp cs)) /\ ∀ t r c, h[o]? ≠ some (.iter t r c)) : VRel w' I' G' h' tm (hE o v) cv := by
 cases v
 case spec j want u => exact ⟨fun ht => (hr.1 ht).kill1 hk hl hbox harr hmp, hr.2⟩
 case agg cs =>
  cases hr with
  | agg _ vs h1 h2 h3 =>
    refine LRel.agg (cs.map (Eng.kill1 o)) vs (by simpa using h1) (fun k u hu => ?_) (fun k u hu => ?_) <;> obtain ⟨v, e1, rfl⟩ := lO hu
    ·exact (h2 k v e1).kill1 hk hl hbox harr hmp
    ·exact h3 k v e1
 case tup cs =>
  cases hr with
  | tup _ vs h1 h2 =>
    refine LRel.tup (cs.map (Eng.kill1 o)) vs (by simpa using h1) (fun k u hu => ?_)
    obtain ⟨v, e1, rfl⟩ := lO hu;exact (h2 k v e1).kill1 hk hl hbox harr hmp
 case fn f cs =>
  cases hr with
  | fn _ _ vs h1 h2 =>
    refine LRel.fn f (cs.map (Eng.kill1 o)) vs (by simpa using h1) (fun k u hu => ?_)
    obtain ⟨v, e1, rfl⟩ := lO hu;exact (h2 k v e1).kill1 hk hl hbox harr hmp
 case own i =>
  have := LRel.kill1 (v := .own i) (o := o) hr hk hl hbox harr hmp;simp only [hE];cases hq : Eng.kill1 o (.own i) <;> rw [hq] at this <;> first | exact this | (simp only [Eng.kill1] at hq; cases hb : qc i o <;> rw [hb] at hq <;> cases hq)
 case sub i a b =>
  have := LRel.kill1 (v := .sub i a b) (o := o) hr hk hl hbox harr hmp;simp only [hE];cases hq : Eng.kill1 o (.sub i a b) <;> rw [hq] at this <;> first | exact this | (simp only [Eng.kill1] at hq; cases hb : qc i o <;> rw [hb] at hq <;> cases hq)
 case elt i a b =>
  have := LRel.kill1 (v := .elt i a b) (o := o) hr hk hl hbox harr hmp;simp only [hE];cases hq : Eng.kill1 o (.elt i a b) <;> rw [hq] at this <;> first | exact this | (simp only [Eng.kill1] at hq; cases hb : qc i o <;> rw [hb] at hq <;> cases hq)
 all_goals exact LRel.kill1 hr hk hl hbox harr hmp
theorem sD (o : Nat) (i : Nat) : ∀ e : Env, get (eP o e) i = (get e i).map (hE o)
 | [] => rfl
 | (k, v) :: r => by
   simp only [eP, get];cases h : qc k i
   ·exact sD o i r
   ·rfl
theorem ERel.kill {w w' : World} {I I' : Nat -> Prop} {G G' : Nat -> Pl} {h h' : Hp} {tm : Array Value} {o : Nat} (hr : ERel w I G h e tm)
 (hk : Keeps w I w' I') (hl : jO o G G' h h') (hbox : ∀ cs, h[o]? ≠ some (.box cs)) (harr : ∀ cs, h[o]? ≠ some (.arr cs)) (hmp : (∀ cs, h[o]? ≠ some (.mp cs)) /\ ∀ t r c, h[o]? ≠ some (.iter t r c)) : ERel w' I' G' h' (eP o e) tm := by
 intro i v hi;rw [sD] at hi;cases hg : get e i with
 | none => rw [hg] at hi; cases hi
 | some u => rw [hg] at hi; cases hi; exact (hr i u hg).kill hk hl hbox harr hmp
section
variable {P : Program} {w : World} {ats : Array TypeId} {t t' el ty : TypeId} {e2 : TypeId} {ti : TypeInfo} {z : Value} {n cap m c : Nat} {b' : Option Addr}
theorem nS (h0 : ats[0]? = some t) (h1 : ats[1]? = some t') (ht : P.underlying t = some (.slice el)) (ht' : P.underlying t' = some (.slice e2)) (hi : P.info? el = some ti)
 {base : Option Addr} (hx : (Builtin.firstCells ti.size 0 (.slice b' 0 c)).run P w = .ok #[] w) (hn : n <= cap) :
 (Builtin.append_ ats ty #[.slice base n cap, .slice b' 0 c]).run P w = .ok (.slice base n cap) w := by
 cases base <;> simp [Builtin.append_, h0, h1, run_underlying ht, run_underlying ht', sizeOf, typeInfo, hi, Builtin.lenOf, hn, hx, storeCells]
theorem yQ (h0 : ats[0]? = some t) (h1 : ats[1]? = some t') (ht : P.underlying t = some (.slice el)) (ht' : P.underlying t' = some (.slice e2)) (hi : P.info? el = some ti)
 {g : Nat} {cur : Array Value} {e' : TypeId} (hg : w.heap[g]? = some (.cells cur e' (0, 0))) {news : List Value} (hx : (Builtin.firstCells ti.size m (.slice b' m c)).run P w = .ok news.toArray w)
 (hone : ∀ u ∈ news, u.oneCell' = true) (hroom : n + m <= cap) (hfit : n * ti.size + news.length <= cur.size) :
 (Builtin.append_ ats ty #[.slice (some ⟨g, 0, none⟩) n cap, .slice b' m c]).run P w =
  .ok (.slice (some ⟨g, 0, none⟩) (n + m) cap) (w.setRow g (cur.toList.take (n * ti.size) ++ news ++ cur.toList.drop (n * ti.size + news.length)).toArray) := by
 have hst := run_storeCells_at P g (n * ti.size) e' news 0 cur w hg (by simpa using hfit) hone
 simp only [qap] at hst;simp [Builtin.append_, h0, h1, run_underlying ht, run_underlying ht', sizeOf, typeInfo, hi, Builtin.lenOf, hroom, hx, bI, hst]
theorem sE (h0 : ats[0]? = some t) (h1 : ats[1]? = some t') (ht : P.underlying t = some (.slice el)) (ht' : P.underlying t' = some (.slice e2)) (hi : P.info? el = some ti) (hzz : ti.zero = some z)
 {base : Option Addr} {olds news : List Value} (ho : (Builtin.firstCells ti.size n (.slice base n cap)).run P w.drew = .ok olds.toArray w.drew) (hx : (Builtin.firstCells ti.size m (.slice b' m c)).run P w.drew = .ok news.toArray w.drew)
 (hg : cap < n + m) (h63 : n + m <= maxLen) (hby : (n + m) * ti.bytes <= 140737488355328) :
 (Builtin.append_ ats ty #[.slice base n cap, .slice b' m c]).run P w =
  .ok (.slice (some ⟨w.heap.size, 0, none⟩) (n + m) (grownCap w (n + m) cap el))
   (w.drew.alloc (.cells (olds.toArray ++ news.toArray ++ Builtin.zeroCells z.cells (grownCap w (n + m) cap el - (n + m))) el)) := by
 have hfit := growslice_fits (bytes := ti.bytes) hg hby
 have hn : ¬ (n + m <= cap) := by omega
 have h63' : ¬ (9223372036854775807 < ((n : Int) + (m : Int))) := by simp only [maxLen] at h63; omega
 have h48' : ¬ (281474976710656 < Builtin.nextslicecap (n + m) cap * ti.bytes) := by omega
 simp [Builtin.append_, h0, h1, run_underlying ht, run_underlying ht', sizeOf, typeInfo, hi, Builtin.lenOf, hn, h63', h48', Question.forced, zeroValue, hzz, ho, hx, newRow, grownCap];congr 1;congr 1;apply qav;simp
end

def a7 (G : Nat -> Pl) (o : Nat) (p : Pl) : Nat -> Pl := fun i => if i = o then p else G i
theorem nT {o i : Nat} {x : Ob} (hx : (bJ o h)[i]? = some x) : ∃ y, h[i]? = some y /\ x = gF o y := by
 unfold bJ at hx;rw [qt] at hx;cases hc : h[i]? with
 | none => rw [hc] at hx; cases hx
 | some v => rw [hc] at hx; cases hx; exact ⟨v, rfl, rfl⟩
theorem HRel.turn {w w1 : World} (hh : HRel w I G h) {o : Nat} {ty ty' : Nat × Nat} {m nl m' nl' : Bool} {es es' : List (List PV)} (ho : h[o]? = some (.sl ty m nl es)) {p : Pl}
 (hw : ∀ b, b < w.heap.size -> (¬ (Ob.sl ty m nl es).alive (G o) ∨ b ≠ (G o).blk) -> w1.heap[b]? = w.heap[b]?) (hs : w.heap.size <= w1.heap.size)
 (hp : (Ob.sl ty' m' nl' es').alive p -> ((Ob.sl ty m nl es).alive (G o) /\ p.blk = (G o).blk) ∨ w.heap.size <= p.blk)
 (hor : ORel w1 I (a7 G o p) ((bJ o h).set o (.sl ty' m' nl' es')) p (.sl ty' m' nl' es')) :
 HRel w1 I (a7 G o p) ((bJ o h).set o (.sl ty' m' nl' es')) /\ jO o G (a7 G o p) h ((bJ o h).set o (.sl ty' m' nl' es')) /\ Keeps w I w1 I := by
 have hlt : o < h.length := (List.getElem?_eq_some_iff.1 ho).1;have hlt' : o < (bJ o h).length := by simpa [bJ] using hlt
 have hk : Keeps w I w1 I := ⟨fun b hb hbs => hw b hbs (Classical.or_iff_not_imp_left.2 fun ha e => by
  have ha' : (Ob.sl ty m nl es).alive (G o) := Classical.not_not.1 ha
  exact hh.nI o _ ho ha' (e ▸ hb)), fun b hb _ => hb⟩
 have hL : jO o G (a7 G o p) h ((bJ o h).set o (.sl ty' m' nl' es')) := fun i x hi hx => by
  refine ⟨⟨gF o x, ?_, ?_⟩, fun _ => by simp [a7, hi]⟩
  ·rw [qm (Ne.symm hi)]; simp [bJ, hx]
  ·cases x <;> simp [gF, Ob.like]
 have hbox : ∀ cs, h[o]? ≠ some (.box cs) := fun cs e => by rw [ho] at e; cases e
 have harr : ∀ cs, h[o]? ≠ some (.arr cs) := fun cs e => by rw [ho] at e; cases e
 have hmp : (∀ cs, h[o]? ≠ some (.mp cs)) /\ ∀ t r c, h[o]? ≠ some (.iter t r c) := ⟨fun cs e => by (rw [ho] at e; cases e), fun _ r c e => by rw [ho] at e; cases e⟩
 have split : ∀ (i : Nat) x, ((bJ o h).set o (.sl ty' m' nl' es'))[i]? = some x -> (i = o /\ x = .sl ty' m' nl' es') ∨ (i ≠ o /\ ∃ y, h[i]? = some y /\ x = gF o y) := fun i x hx => by
  by_cases hi : o = i
  ·subst hi; simp [hlt'] at hx; exact .inl ⟨rfl, hx.symm⟩
  ·rw [qm hi] at hx; exact .inr ⟨fun e => hi e.symm, nT hx⟩
 have alk : ∀ {y : Ob} {q : Pl}, (gF o y).alive q -> y.alive q := fun {y q} ha => by cases y <;> exact ha
 refine ⟨⟨fun i x hx => ?_, fun i j x y hx ax hy ay hb => ?_, fun i x hx ax => ?_, fun b hb => qx (hh.cl b hb) hs⟩, hL, hk⟩
 ·rcases split i x hx with ⟨rfl, rfl⟩ | ⟨hi, y, hy, rfl⟩
  ·simpa [a7] using hor
  ·have e0 : a7 G o p i = G i := by simp [a7, hi]
   rw [e0]
   have blk : y.alive (G i) -> (G i).blk < w.heap.size /\ (¬ (Ob.sl ty m nl es).alive (G o) ∨ (G i).blk ≠ (G o).blk) := fun ay =>
    ⟨hh.blk_lt ⟨i, y, hy, ay, rfl⟩, Classical.or_iff_not_imp_left.2 fun ha e => hi (hh.sep i o y _ hy ay ho (Classical.not_not.1 ha) e)⟩
   have := hh.obs i y hy;cases y with
   | dead => trivial
   | box cs =>
     obtain ⟨vs, tt, e1, e2, e3⟩ := this;have hb := blk trivial;refine ⟨vs, tt, by rw [hw _ hb.1 hb.2]; exact e1, by simpa using e2, fun k v hv => ?_⟩
     obtain ⟨u, g1, rfl⟩ := lO hv;exact ⟨(e3 k u g1).1.kill1 hk hL hbox harr hmp, (e3 k u g1).2⟩
   | arr cs =>
     obtain ⟨vs, tt, e1, e2, e3⟩ := this;have hb := blk trivial;exact ⟨vs, tt, by rw [hw _ hb.1 hb.2]; exact e1, e2, fun k v hv => ⟨(e3 k v hv).1.mono hk.1 hk.2, (e3 k v hv).2⟩⟩
   | sl t2 m2 n2 es2 =>
     cases n2 with
     | true => exact this
     | false =>
       obtain ⟨e1, e2, e3, e3', e4, e5⟩ := this;refine ⟨e1, e2, e3, e3', e4, fun hc => ?_⟩;obtain ⟨vs, f1, f2, f3⟩ := e5 hc;have hb := blk ⟨rfl, hc⟩;exact ⟨vs, by rw [hw _ hb.1 hb.2]; exact f1, f2, fun i' e he k v hv => ⟨(f3 i' e he k v hv).1.mono hk.1 hk.2, (f3 i' e he k v hv).2⟩⟩
   | mp kvs =>
     obtain ⟨es, ck, e1, e2, e3⟩ := this;have hb := blk trivial;exact ⟨es, ck, by rw [hw _ hb.1 hb.2]; exact e1, e2, fun k kv hv => ⟨(e3 k kv hv).1.mono hk.1 hk.2, (e3 k kv hv).2.mono hk.1 hk.2⟩⟩
   | iter ty rem cur =>
     have hb := blk trivial;exact IterRel.mono this (hw _ hb.1 hb.2) hk
 ·rcases split i x hx with ⟨rfl, rfl⟩ | ⟨hi, x', hx', rfl⟩ <;> rcases split j y hy with ⟨rfl, rfl⟩ | ⟨hj, y', hy', rfl⟩
  ·rfl
  ·have e0 : a7 G i p i = p := by simp [a7]
   have e1 : a7 G i p j = G j := by simp [a7, hj]
   rw [e0] at ax hb; rw [e1] at ay hb;have := hh.blk_lt ⟨j, y', hy', alk ay, rfl⟩;rcases hp ax with ⟨ha, hb'⟩ | hge
   ·exact absurd (hh.sep _ _ _ _ hy' (alk ay) ho ha (by omega)) hj
   ·omega
  ·have e0 : a7 G j p j = p := by simp [a7]
   have e1 : a7 G j p i = G i := by simp [a7, hi]
   rw [e0] at ay hb; rw [e1] at ax hb;have := hh.blk_lt ⟨i, x', hx', alk ax, rfl⟩;rcases hp ay with ⟨ha, hb'⟩ | hge
   ·exact absurd (hh.sep _ _ _ _ hx' (alk ax) ho ha (by omega)) hi
   ·omega
  ·have e0 : a7 G o p i = G i := by simp [a7, hi]
   have e1 : a7 G o p j = G j := by simp [a7, hj]
   rw [e0] at ax hb; rw [e1] at ay hb;exact hh.sep _ _ _ _ hx' (alk ax) hy' (alk ay) hb
 ·rcases split i x hx with ⟨rfl, rfl⟩ | ⟨hi, x', hx', rfl⟩
  ·have e0 : a7 G i p i = p := by simp [a7]
   rw [e0] at ax ⊢;rcases hp ax with ⟨ha, hb'⟩ | hge
   ·rw [hb']; exact hh.nI _ _ ho ha
   ·intro hI; have := hh.cl _ hI; omega
  ·have e0 : a7 G o p i = G i := by simp [a7, hi]
   rw [e0] at ax ⊢; exact hh.nI _ _ hx' (alk ax)
theorem Tr.turn {w w1 : World} {o : Nat} {ty ty' : Nat × Nat} {m nl m' nl' : Bool} {es es' : List (List PV)} (ho : h[o]? = some (.sl ty m nl es)) {p : Pl}
 (hw : ∀ b, b < w.heap.size -> (¬ (Ob.sl ty m nl es).alive (G o) ∨ b ≠ (G o).blk) -> w1.heap[b]? = w.heap[b]?) (hs : w.heap.size <= w1.heap.size)
 (hp : (Ob.sl ty' m' nl' es').alive p -> ((Ob.sl ty m nl es).alive (G o) /\ p.blk = (G o).blk) ∨ w.heap.size <= p.blk) (h1 : w1.os = w.os) (h2 : w1.tape = w.tape) (h3 : w1.output = w.output) (h4 : ∀ a, w1.frozen? a = w.frozen? a) (h5 : w.drawn <= w1.drawn) :
 Tr w I (aD h G) w1 I (aD ((bJ o h).set o (.sl ty' m' nl' es')) (a7 G o p)) := by
 have hlt : o < h.length := (List.getElem?_eq_some_iff.1 ho).1;have hlt' : o < (bJ o h).length := by simpa [bJ] using hlt
 have alk : ∀ {y : Ob} {q : Pl}, (gF o y).alive q -> y.alive q := fun {y q} ha => by cases y <;> exact ha
 refine ⟨h1, h2, h3, hs, fun b hb hn => hw b hb (Classical.or_iff_not_imp_left.2 fun ha e => hn ⟨o, _, ho, Classical.not_not.1 ha, e.symm⟩), fun _ x => x, fun _ x => .inl x, fun b ⟨i, x, hx, ax, hb⟩ => ?_, fun a _ => h4 a, h5⟩;by_cases hi : o = i
 ·subst hi;simp [hlt'] at hx;subst hx;have e0 : a7 G o p o = p := by simp [a7]
  rw [e0] at ax hb;rcases hp ax with ⟨ha, hb'⟩ | hge
  ·exact .inl ⟨o, _, ho, ha, by omega⟩
  ·exact .inr (by omega)
 ·rw [qm hi] at hx;obtain ⟨y, hy, rfl⟩ := nT hx;have e1 : a7 G o p i = G i := by simp [a7, Ne.symm hi]
  rw [e1] at ax hb;exact .inl ⟨i, y, hy, alk ax, hb⟩
theorem TrH.turn {w w1 : World} {o : Nat} {ty ty' : Nat × Nat} {m nl nl' : Bool} {es es' : List (List PV)} (ho : h[o]? = some (.sl ty m nl es)) {p : Pl}
 (hw : ∀ b, b < w.heap.size -> (¬ (Ob.sl ty m nl es).alive (G o) ∨ b ≠ (G o).blk) -> w1.heap[b]? = w.heap[b]?) (hs : w.heap.size <= w1.heap.size)
 (hp : (Ob.sl ty' true nl' es').alive p -> ((Ob.sl ty m nl es).alive (G o) /\ p.blk = (G o).blk) ∨ w.heap.size <= p.blk) (h1 : w1.os = w.os) (h2 : w1.tape = w.tape) (h3 : w1.output = w.output) (h4 : ∀ a, w1.frozen? a = w.frozen? a) (h5 : w.drawn <= w1.drawn) :
 TrH w I G h w1 I (a7 G o p) ((bJ o h).set o (.sl ty' true nl' es')) := by
 refine ⟨Tr.turn ho hw hs hp h1 h2 h3 h4 h5, by simp [bJ], fun i x hi hx hfx => ?_⟩;have hlt' : o < (bJ o h).length := by simpa [bJ] using (List.getElem?_eq_some_iff.1 ho).1
 by_cases hio : o = i
 ·subst hio;simp [hlt'] at hx; subst hx; cases hfx
 ·rw [qm hio] at hx;obtain ⟨y, hy, rfl⟩ := nT hx;exact ⟨by simp [a7, Ne.symm hio], y, hy, by cases y <;> exact hfx⟩
structure nU (full : Bool) (es ys : List (List PV)) (sz bytes : Nat) : Prop where
 full : full = true
 some : es = [] ∨ ys ≠ []
 s1 : cH es sz
 s2 : cH ys sz
 room : (es.length + ys.length) * bytes <= 140737488355328
def lP (P : Program) (e : Env) (h : Hp) (ats : List TypeId) (args : List Operand) (K : Kt) : Prop :=
 match ats, args with
 | [t, t'], [s, x] =>
   match P.underlying t, P.underlying t' with
   | some (.slice el), some (.slice _) =>
     match P.info? el, zeroCells P el with
     | some ti, some zs =>
       bif (qc zs.length ti.size && !qc ti.size 0 && !qc ti.bytes 0) then
        (match aF [] e s, aF [] e x with
        | some u, some v => match dD h v with
          | some ys => match u with
            | .pv (.sl nl full es) => nU full es ys ti.size ti.bytes /\ K (.own h.length) e (h ++ [.sl (el, ti.size) false (nl && ys.isEmpty) (es ++ ys)])
            | .own o => match h[o]? with
              | some (.sl ty m nl es) => bif (qc ty.1 el && qc ty.2 ti.size) then
               (cH ys ti.size /\ (es.length + ys.length) * ti.bytes <= 140737488355328) /\ K (.own o) (eP o e) ((bJ o h).set o (.sl ty true (nl && ys.isEmpty) (es ++ ys)))
               else aA 501
              | _ => aA 502
            | _ => aA 503
          | none => aA 504
        | _, _ => aA 505) else aA 506
     | _, _ => aA 507
   | _, _ => aA 508
 | _, _ => aA 509

theorem yR {ys : List (List PV)} {nl : Bool} : (nl && ys.isEmpty) = true ↔ nl = true /\ ys = [] := by
 cases ys <;> cases nl <;> simp

theorem HRel.add (hh : HRel w I G h) (ob : Ob) (p : Pl) (hp : ¬ ob.alive p) (hor : ORel w I (aG G h.length p) (h ++ [ob]) p ob) :
 HRel w I (aG G h.length p) (h ++ [ob]) := by
 have hk := Keeps.refl w I;have hl := Like.push G h p ob;have old : ∀ i, i < h.length -> aG G h.length p i = G i := fun i hi => by simp [aG, qaq hi]
 have new : aG G h.length p h.length = p := by simp [aG]
 have split : ∀ (i : Nat) x, (h ++ [ob])[i]? = some x -> (i < h.length /\ h[i]? = some x) ∨ (i = h.length /\ x = ob) := fun i x hx => by
  rcases qat i h.length with hi | hi | hi
  ·rw [qg hi] at hx; exact .inl ⟨hi, hx⟩
  ·subst hi; simp at hx; exact .inr ⟨rfl, hx.symm⟩
  ·rw [qz (by simp; omega)] at hx; cases hx
 refine ⟨fun i x hx => ?_, fun i j x y hx ax hy ay hb => ?_, fun i x hx ax => ?_, hh.cl⟩
 ·rcases split i x hx with ⟨hi, hx'⟩ | ⟨rfl, rfl⟩
  ·rw [old i hi];have := hh.obs i x hx';cases x with
   | dead => trivial
   | box cs =>
     obtain ⟨vs, ty, e1, e2, e3⟩ := this;exact ⟨vs, ty, e1, e2, fun k v hv => ⟨(e3 k v hv).1.mono hk hl, (e3 k v hv).2⟩⟩
   | arr cs => exact this
   | sl ty m n es => cases n <;> exact this
   | mp kvs => exact this
   | iter ty rem cur => exact this
  ·rw [new]; exact hor
 ·rcases split i x hx with ⟨hi, hx'⟩ | ⟨rfl, rfl⟩
  ·rcases split j y hy with ⟨hj, hy'⟩ | ⟨rfl, rfl⟩
   ·rw [old i hi] at ax hb; rw [old j hj] at ay hb;exact hh.sep i j x y hx' ax hy' ay hb
   ·rw [new] at ay; exact absurd ay hp
  ·rw [new] at ax; exact absurd ax hp
 ·rcases split i x hx with ⟨hi, hx'⟩ | ⟨rfl, rfl⟩
  ·rw [old i hi] at ax ⊢; exact hh.nI i x hx' ax
  ·rw [new] at ax; exact absurd ax hp
theorem Tr.add (ob : Ob) (p : Pl) (hp : ¬ ob.alive p) : Tr w I (aD h G) w I (aD (h ++ [ob]) (aG G h.length p)) :=
 ⟨rfl, rfl, rfl, qe _, fun _ _ _ => rfl, fun _ x => x, fun _ x => .inl x, fun b ⟨i, x, hx, ax, hb⟩ => (by
  rcases qat i h.length with hi | hi | hi
  ·rw [qg hi] at hx;have : aG G h.length p i = G i := by simp [aG, qaq hi]
   rw [this] at ax hb;exact .inl ⟨i, x, hx, ax, hb⟩
  ·subst hi;have e : aG G h.length p h.length = p := by simp [aG]
   simp at hx; subst hx;rw [e] at ax; exact absurd ax hp
  ·rw [qz (by simp; omega)] at hx; cases hx), fun _ _ => rfl, qe _⟩
theorem TrH.add (ob : Ob) (p : Pl) (hp : ¬ ob.alive p) : TrH w I G h w I (aG G h.length p) (h ++ [ob]) := ⟨Tr.add ob p hp, by simp, rK ob p⟩
theorem HRel.drew (hh : HRel w I G h) : HRel w.drew I G h := by
 have hk : Keeps w I w.drew I := ⟨fun _ _ _ => rfl, fun _ x _ => x⟩;refine ⟨fun i x hx => ?_, hh.sep, hh.nI, hh.cl⟩;have := hh.obs i x hx;cases x with
 | dead => trivial
 | box cs => obtain ⟨vs, ty, e1, e2, e3⟩ := this; exact ⟨vs, ty, e1, e2, fun k v hv => ⟨(e3 k v hv).1.mono hk (.refl _ _), (e3 k v hv).2⟩⟩
 | arr cs => obtain ⟨vs, ty, e1, e2, e3⟩ := this; exact ⟨vs, ty, e1, e2, fun k v hv => ⟨(e3 k v hv).1.mono hk.1 hk.2, (e3 k v hv).2⟩⟩
 | sl ty m n es =>
   cases n with
   | true => exact this
   | false =>
     obtain ⟨e1, e2, e3, e3', e4, e5⟩ := this;refine ⟨e1, e2, e3, e3', e4, fun hc => ?_⟩;obtain ⟨vs, f1, f2, f3⟩ := e5 hc;exact ⟨vs, f1, f2, fun i' e he k v hv => ⟨(f3 i' e he k v hv).1.mono hk.1 hk.2, (f3 i' e he k v hv).2⟩⟩
 | mp kvs => obtain ⟨es, ck, e1, e2, e3⟩ := this; exact ⟨es, ck, e1, e2, fun k kv hv => ⟨(e3 k kv hv).1.mono hk.1 hk.2, (e3 k kv hv).2.mono hk.1 hk.2⟩⟩
 | iter ty rem cur => exact IterRel.mono this rfl hk
theorem Tr.drew {I own : Nat -> Prop} : Tr w I own w.drew I own := ⟨rfl, rfl, rfl, qe _, fun _ _ _ => rfl, fun _ x => x, fun _ x => .inl x, fun _ x => .inl x, fun _ _ => rfl, Nat.le_succ _⟩
theorem TrH.drew : TrH w I G h w.drew I G h := .same Tr.drew

theorem yT {sz cap : Nat} {es : List (List PV)} {xs : List Value} (hr : RowRep w I sz es xs) (hsz : sz ≠ 0) {z : Value} (hz : z.cells.size = sz) (hc : es.length <= cap) :
 (xs.toArray ++ Builtin.zeroCells z.cells (cap - es.length)).size = cap * sz /\
 ∀ (i : Nat) e, es[i]? = some e -> ∀ (k : Nat) v, e[k]? = some v -> Rep w I v ((xs.toArray ++ Builtin.zeroCells z.cells (cap - es.length)).getD (i * sz + k) undef) /\
  ((xs.toArray ++ Builtin.zeroCells z.cells (cap - es.length)).getD (i * sz + k) undef).oneCell' = true := by
 refine ⟨?_, fun i e he k v hk => ?_⟩
 ·rw [Array.size_append, size_zeroCells, hz, List.size_toArray, hr.len, <- qk];congr 1; omega
 ·have hkl : k < sz := by have := (List.getElem?_eq_some_iff.1 hk).1; rwa [hr.el _ _ he] at this
  have hil := (List.getElem?_eq_some_iff.1 he).1
  have hlt : i * sz + k < xs.length := by
   rw [hr.len];have : (i + 1) * sz <= es.length * sz := qh _ hil;rw [qk] at this; omega
  have e1 : (xs.toArray ++ Builtin.zeroCells z.cells (cap - es.length)).getD (i * sz + k) undef = xs.getD (i * sz + k) undef := by
   rw [qq, qbc (by simpa using hlt)]
   simp [qah]
  rw [e1]; exact hr.rep i e k v he hk
theorem yU {ρ : Operand -> Value} {c : Call} {x y : Operand} (h : c.args.toList = [x, y]) : c.args.map ρ = #[ρ x, ρ y] := by
 apply qav; simp [h]
theorem yV {ats : Array TypeId} {t t' : TypeId} (h : ats.toList = [t, t']) : ats[0]? = some t /\ ats[1]? = some t' := by
 have : ats = #[t, t'] := by apply qav; simpa using h
 subst this; exact ⟨rfl, rfl⟩
theorem nV {sz : Nat} {xs : List Value} (h : RowRep w I sz [] xs) : xs = [] := qp (by simpa using h.len)

theorem sF {el : TypeId} {sz need old : Nat} {es : List (List PV)} {xs : List Value} (hr : RowRep w I sz es xs) (hsz : sz ≠ 0) {z : Value} (hz : z.cells.size = sz) (hn : need = es.length) (h63 : need <= maxLen)
 {w0 : World} {o : Obj} (hw : o = .cells (xs.toArray ++ Builtin.zeroCells z.cells (grownCap w0 need old el - need)) el) {G : Nat -> Pl} {h : Hp} {m : Bool} :
 ORel (w.alloc o) I G h ⟨w.heap.size, 0, grownCap w0 need old el, sz⟩ (.sl (el, sz) m false es) := by
 subst hn;have hge := grownCap_ge w0 es.length old el;have hk : Keeps w I (w.alloc o) I := .alloc w I I _ fun _ x => x;obtain ⟨g1, g2⟩ := yT hr hsz hz hge;refine ⟨hge, grownCap_le_maxLen w0 es.length old el h63, fun _ => rfl, rfl, hr.el, fun _ => ⟨_, by rw [hw]; exact gC w _, g1, fun i e he k v hv => ⟨(g2 i e he k v hv).1.mono hk.1 hk.2, (g2 i e he k v hv).2⟩⟩⟩

theorem sG {c : Call} (ho : o.op = .call c) (hc : c.callee = .builtin .append) (hK : lP P e h c.argTypes.toList c.args.toList K) : OpZ (fun w w' => (∃ s x ob, c.args.toList = [s, x] /\ aF [] e s = some (.own ob)) ∨ KA w w') P o e h K := by
 unfold lP at hK;split at hK
 ·rename_i t t' s x hat har;obtain ⟨h0, h1⟩ := yV hat;split at hK
  ·rename_i el e2 ht ht';split at hK
   ·rename_i ti zs hi hzs;cases hb : (qc zs.length ti.size && !qc ti.size 0 && !qc ti.bytes 0) with
    | false => rw [hb] at hK; cases hK
    | true =>
      rw [hb] at hK;simp only [cond_true] at hK;simp only [qn, qv] at hb;have hzl := qd hb.1.1;have hsz : ti.size ≠ 0 := fun hz => by rw [hz] at hb; simp at hb
      have hby : ti.bytes ≠ 0 := fun hz => by rw [hz] at hb; simp at hb
      obtain ⟨ti', z, hi', hz, z1, z2⟩ := lI hzs;rw [hi] at hi'; cases hi';have hzc : z.cells.size = ti.size := z1.trans hzl
      have m63 : ∀ {k : Nat}, k * ti.bytes <= 140737488355328 -> k <= maxLen := fun {k} hk => by
       have : k * 1 <= k * ti.bytes := Nat.mul_le_mul_left _ (qad hby);simp only [maxLen]; omega
      split at hK
      ·rename_i u v hu hv;split at hK
       ·rename_i ys hys;intro w I G a next Qx hh he hn
        have hu' := aC he (AOK.nil _) hu;have hv' := aC he (AOK.nil _) hv
        have key : ∀ {cv : Value} {w' : World}, (Builtin.append_ c.argTypes o.type #[a.eval s, a.eval x]).run P w = .ok cv w' -> next (a.put o.dst cv) w' -> o.wp P a w next Qx := fun {cv w'} hr hnx => by
         have hrun : (execOp a.eval o).run P w = .ok (.value cv) w' := by
          unfold execOp; rw [ho];show (do let d <- resolve a.eval c o.type; invoke d.target d.args : Sem Next).run P w = _;rw [jD hc, yU har];exact aY hr
         unfold Oper.wp; rw [hrun]; exact hnx
        split at hK
        ·rename_i nl full es;obtain ⟨⟨hfull, hsome, hs1, hs2, hroom⟩, hK⟩ := hK;obtain ⟨bs, ns, cs, es1, hns, xs, hxs, hfs⟩ := lN (P := P) hh hu' (es := es) rfl hs1;obtain ⟨bx, nx, cx, ex1, hnx, xx, hxx, hfx⟩ := lN (P := P) hh hv' hys hs2
         have hcs : cs = ns /\ (nl = true ↔ bs = none) := by
          rw [es1] at hu';cases hu' with
          | pv _ _ hr => cases hr with
            | slnil => exact ⟨rfl, by simp⟩
            | slz _ _ _ hf => exact ⟨hf hfull, by simp⟩
            | sl _ _ b off cap sz c q1 q2 => exact ⟨q2 hfull, by simp⟩
         obtain ⟨hcs, hnb⟩ := hcs;subst hcs;by_cases hye : ys = []
         ·subst hye;have hes : es = [] := hsome.resolve_right (by simp);subst hes;have hxe := nV hxx;subst hxe;simp only [qbh] at hns hnx;subst hns; subst hnx;refine key (by rw [es1, ex1]; exact nS h0 h1 ht ht' hi (by rw [<- ex1]; simpa using hfx w rfl) (qe _)) ?_
          rw [show (nl && ([] : List (List PV)).isEmpty) = nl by simp, qax] at hK;cases nl with
          | true =>
            have hbs := hnb.1 rfl;subst hbs;have hna : ¬ (Ob.sl (el, ti.size) false true []).alive ⟨0, 0, 0, 0⟩ := fun ha => by cases ha.1
            exact hn _ e _ w I _ _ hK (hh.add _ _ hna rfl) (he.mono (.refl _ _) (Like.push G h _ _)) (.ownNil h.length (el, ti.size) false [] (by simp)) (TrH.add _ _ hna) (.inr (KA.refl w))
          | false =>
            cases bs with
            | none => exact absurd (hnb.2 rfl) (by simp)
            | some a0 =>
              have hna : ¬ (Ob.sl (el, ti.size) false false []).alive ⟨0, 0, 0, ti.size⟩ := fun ha => ha.2 rfl;refine hn _ e _ w I _ _ hK (hh.add _ ⟨0, 0, 0, ti.size⟩ hna ?_) (he.mono (.refl _ _) (Like.push G h _ _)) ?_ (TrH.add _ _ hna) (.inr (KA.refl w))
              ·exact ⟨qe _, by simp [maxLen], fun hc => absurd rfl hc, rfl, fun i e he => by simp at he, fun hc => absurd rfl hc⟩
              ·have := LRel.own (w := w) (I := I) (G := aG G h.length ⟨0, 0, 0, ti.size⟩) (h := h ++ [.sl (el, ti.size) false false []]) h.length (el, ti.size) false [] a0 (by simp [aG]) (by simp);simpa [aG] using this
         ·have hm : 0 < nx := by rw [hnx]; exact List.length_pos_iff.2 hye
          rw [<- hns, <- hnx] at hroom;refine key (by rw [es1, ex1]; exact sE h0 h1 ht ht' hi hz (by rw [<- es1]; exact hfs w.drew rfl) (by rw [<- ex1]; exact hfx w.drew rfl) (by omega) (m63 hroom) hroom) ?_;have e0 : (nl && ys.isEmpty) = false := by cases ys <;> simp_all
          rw [e0] at hK;have hk : Keeps w I w.drew I := ⟨fun _ _ _ => rfl, fun _ x _ => x⟩;have hrow := (hxs.append hxx).mono hk;have hnl : cs + nx = (es ++ ys).length := by simp [hns, hnx]
          have hor := fun G' h' => sF (el := el) (need := cs + nx) (old := cs) (w0 := w) (m := false) hrow hsz hzc hnl (m63 hroom) (o := .cells ((xs ++ xx).toArray ++ Builtin.zeroCells z.cells (grownCap w (cs + nx) cs el - (cs + nx))) el) rfl (G := G') (h := h');have hsame : w.drew.alloc (.cells (xs.toArray ++ xx.toArray ++ Builtin.zeroCells z.cells (grownCap w (cs + nx) cs el - (cs + nx))) el) = w.drew.alloc (.cells ((xs ++ xx).toArray ++ Builtin.zeroCells z.cells (grownCap w (cs + nx) cs el - (cs + nx))) el) := by simp
          rw [hsame];have hH := hh.drew.push (.cells ((xs ++ xx).toArray ++ Builtin.zeroCells z.cells (grownCap w (cs + nx) cs el - (cs + nx))) el) (.sl (el, ti.size) false false (es ++ ys)) ⟨w.drew.heap.size, 0, grownCap w (cs + nx) cs el, ti.size⟩ rfl (hor _ _);refine hn _ e _ _ I _ _ hK hH ((he.mono hk (.refl _ _)).mono (.alloc w.drew I I _ fun _ x => x) (Like.push G h _ _)) ?_ (TrH.trans TrH.drew (TrH.push _ _ _ rfl)) (.inr ⟨by simp, fun b hb => bG w.drew _ hb⟩);have := LRel.own (w := w.drew.alloc (.cells ((xs ++ xx).toArray ++ Builtin.zeroCells z.cells (grownCap w (cs + nx) cs el - (cs + nx))) el)) (I := I) (G := aG G h.length ⟨w.drew.heap.size, 0, grownCap w (cs + nx) cs el, ti.size⟩) (h := h ++ [.sl (el, ti.size) false false (es ++ ys)]) h.length (el, ti.size) false (es ++ ys) _ (fun _ => rfl) (by simp);rw [<- hnl] at this;simpa [aG] using this
        ·rename_i ob;split at hK
         ·rename_i ty m nl es hob;cases hb2 : (qc ty.1 el && qc ty.2 ti.size) with
          | false => rw [hb2] at hK; cases hK
          | true =>
            rw [hb2] at hK;simp only [cond_true] at hK;simp only [qn] at hb2;have ety : ty = (el, ti.size) := Prod.ext (qd hb2.1) (qd hb2.2);subst ety;obtain ⟨⟨hs2, hroom⟩, hK⟩ := hK;have hor0 := hh.obs _ _ hob
            have hs1 : cH es ti.size := by
             cases nl with
             | true => simp only [ORel] at hor0; subst hor0; exact fun e he => by simp at he
             | false =>
               intro e he;have := hor0.2.2.2.2.1 0 e (by cases es <;> simp_all);rw [this, hor0.2.2.2.1]
            obtain ⟨bs, ns, cs, es1, hns, xs, hxs, hfs⟩ := lN (P := P) hh hu' (es := es) (by simp [dD, hob]) hs1;obtain ⟨bx, nx, cx, ex1, hnx, xx, hxx, hfx⟩ := lN (P := P) hh hv' hys hs2;rw [<- hns, <- hnx] at hroom;have hbox : ∀ cs, h[ob]? ≠ some (.box cs) := fun cs e => by rw [hob] at e; cases e
            have harr : ∀ cs, h[ob]? ≠ some (.arr cs) := fun cs e => by rw [hob] at e; cases e
            have hmp : (∀ cs, h[ob]? ≠ some (.mp cs)) /\ ∀ t r c, h[ob]? ≠ some (.iter t r c) := ⟨fun cs e => by (rw [hob] at e; cases e), fun _ r c e => by rw [hob] at e; cases e⟩;have hlt : ob < (bJ ob h).length := by simpa [bJ] using (List.getElem?_eq_some_iff.1 hob).1
            have hnl : ns + nx = (es ++ ys).length := by simp [hns, hnx]
            -- it grows
            have grow : cs < ns + nx -> o.wp P a w next Qx := fun hcap => by
             have hk : Keeps w I w.drew I := ⟨fun _ _ _ => rfl, fun _ x _ => x⟩;refine key (by rw [es1, ex1]; exact sE h0 h1 ht ht' hi hz (by rw [<- es1]; exact hfs w.drew rfl) (by rw [<- ex1]; exact hfx w.drew rfl) hcap (m63 hroom) hroom) ?_;have hrow := (hxs.append hxx).mono hk;have hsame : w.drew.alloc (.cells (xs.toArray ++ xx.toArray ++ Builtin.zeroCells z.cells (grownCap w (ns + nx) cs el - (ns + nx))) el) = w.drew.alloc (.cells ((xs ++ xx).toArray ++ Builtin.zeroCells z.cells (grownCap w (ns + nx) cs el - (ns + nx))) el) := by simp
             rw [hsame];have hor := fun G' h' => sF (el := el) (need := ns + nx) (old := cs) (w0 := w) (m := true) hrow hsz hzc hnl (m63 hroom) (o := .cells ((xs ++ xx).toArray ++ Builtin.zeroCells z.cells (grownCap w (ns + nx) cs el - (ns + nx))) el) rfl (G := G') (h := h')
             have e0 : (nl && ys.isEmpty) = false := by
              cases hq : (nl && ys.isEmpty) with
              | false => rfl
              | true =>
                obtain ⟨q1, q2⟩ := yR.1 hq;subst q1; subst q2;simp only [ORel] at hor0; subst hor0;simp at hns hnx; omega
             rw [e0] at hK;have hww : ∀ b, b < w.heap.size -> (¬ (Ob.sl (el, ti.size) m nl es).alive (G ob) ∨ b ≠ (G ob).blk) -> (w.drew.alloc (.cells ((xs ++ xx).toArray ++ Builtin.zeroCells z.cells (grownCap w (ns + nx) cs el - (ns + nx))) el)).heap[b]? = w.heap[b]? := fun b hb _ => bG w.drew _ hb;have hpp : (Ob.sl (el, ti.size) true false (es ++ ys)).alive ⟨w.drew.heap.size, 0, grownCap w (ns + nx) cs el, ti.size⟩ -> ((Ob.sl (el, ti.size) m nl es).alive (G ob) /\ (⟨w.drew.heap.size, 0, grownCap w (ns + nx) cs el, ti.size⟩ : Pl).blk = (G ob).blk) ∨ w.heap.size <= (⟨w.drew.heap.size, 0, grownCap w (ns + nx) cs el, ti.size⟩ : Pl).blk := fun _ => .inr (qe _);obtain ⟨t1, t2, t3⟩ := hh.turn hob (ty' := (el, ti.size)) (m' := true) (nl' := false) (es' := es ++ ys) hww (by simp) hpp (hor _ _);refine hn _ (eP ob e) _ _ I _ _ hK t1 (he.kill t3 t2 hbox harr hmp) ?_ (TrH.turn hob hww (by simp) hpp rfl rfl rfl (fun a => (nE (w := w.drew) (show gD (.cells _ _) from rfl) a).trans rfl) (Nat.le_succ _)) (.inl ⟨_, _, _, har, hu⟩);have := LRel.own (w := w.drew.alloc (.cells ((xs ++ xx).toArray ++ Builtin.zeroCells z.cells (grownCap w (ns + nx) cs el - (ns + nx))) el)) (I := I) (G := a7 G ob ⟨w.drew.heap.size, 0, grownCap w (ns + nx) cs el, ti.size⟩) (h := (bJ ob h).set ob (.sl (el, ti.size) true false (es ++ ys))) ob (el, ti.size) true (es ++ ys) _ (fun _ => rfl) (by simp [hlt]);rw [<- hnl] at this;simpa [a7] using this
            -- nothing is appended, or there is room
            have hself : ∀ i, a7 G ob (G ob) i = G i := fun i => by unfold a7; split <;> simp_all
            have hcase : (nl = true /\ bs = none /\ cs = 0 /\ ns = 0) ∨ (nl = false /\ (∃ ad, bs = some ad /\ ((G ob).cap ≠ 0 -> ad = ⟨(G ob).blk, (G ob).off, none⟩)) /\ cs = (G ob).cap) := by
             rw [es1] at hu';cases hu' with
             | ownNil _ ty' m' es' g1 => rw [hob] at g1; cases g1; exact .inl ⟨rfl, rfl, rfl, rfl⟩
             | own _ ty' m' es' ad g0 g1 => rw [hob] at g1; cases g1; exact .inr ⟨rfl, ⟨ad, rfl, g0⟩, rfl⟩
            by_cases hcap : cs < ns + nx
            ·exact grow hcap
            ·rcases hcase with ⟨rfl, rfl, rfl, rfl⟩ | ⟨rfl, ⟨ad, rfl, hadr⟩, rfl⟩
             ·-- nil, and nothing
              have hx0 : nx = 0 := by omega
              have hye : ys = [] := qp (by omega);subst hye;simp only [ORel] at hor0; subst hor0;have hxe := nV hxx;subst hxe;subst hx0;refine key (by rw [es1, ex1]; exact nS h0 h1 ht ht' hi (by rw [<- ex1]; simpa using hfx w rfl) (qe _)) ?_
              rw [show (true && ([] : List (List PV)).isEmpty) = true by simp, qax] at hK;have hww : ∀ b, b < w.heap.size -> (¬ (Ob.sl (el, ti.size) m true []).alive (G ob) ∨ b ≠ (G ob).blk) -> w.heap[b]? = w.heap[b]? := fun _ _ _ => rfl;have hpp : (Ob.sl (el, ti.size) true true []).alive (G ob) -> ((Ob.sl (el, ti.size) m true []).alive (G ob) /\ (G ob).blk = (G ob).blk) ∨ w.heap.size <= (G ob).blk := fun ha => by cases ha.1
              obtain ⟨t1, t2, t3⟩ := hh.turn hob (ty' := (el, ti.size)) (m' := true) (nl' := true) (es' := []) hww (qe _) hpp rfl;exact hn _ (eP ob e) _ _ I _ _ hK t1 (he.kill t3 t2 hbox harr hmp) (.ownNil ob (el, ti.size) true [] (by simp [hlt])) (TrH.turn hob hww (qe _) hpp rfl rfl rfl (fun _ => rfl) (qe _)) (.inl ⟨_, _, _, har, hu⟩)
             ·rw [show (false && ys.isEmpty) = false from rfl] at hK;obtain ⟨q1, q2, q3, q3', q4, q5⟩ := hor0;by_cases hc0 : (G ob).cap = 0
              ·have hx0 : nx = 0 := by omega
               have hn0 : ns = 0 := by omega
               have hye : ys = [] := qp (by omega);subst hye;have hxe := nV hxx;subst hxe;have hee : es = [] := qp (by omega);subst hee;subst hx0;refine key (by rw [es1, ex1]; exact nS h0 h1 ht ht' hi (by rw [<- ex1]; simpa using hfx w rfl) (by omega)) ?_
               rw [qax] at hK;have hna : ∀ m', ¬ (Ob.sl (el, ti.size) m' false []).alive (G ob) := fun _ ha => ha.2 hc0;have hww : ∀ b, b < w.heap.size -> (¬ (Ob.sl (el, ti.size) m false []).alive (G ob) ∨ b ≠ (G ob).blk) -> w.heap[b]? = w.heap[b]? := fun _ _ _ => rfl;have hpp : (Ob.sl (el, ti.size) true false []).alive (G ob) -> ((Ob.sl (el, ti.size) m false []).alive (G ob) /\ (G ob).blk = (G ob).blk) ∨ w.heap.size <= (G ob).blk := fun ha => absurd ha (hna _);obtain ⟨t1, t2, t3⟩ := hh.turn hob (ty' := (el, ti.size)) (m' := true) (nl' := false) (es' := []) hww (qe _) hpp ⟨by simp, q2, q3, q3', fun i e he => by simp at he, fun hc => absurd hc0 hc⟩;refine hn _ (eP ob e) _ _ I _ _ hK t1 (he.kill t3 t2 hbox harr hmp) ?_ (TrH.turn hob hww (qe _) hpp rfl rfl rfl (fun _ => rfl) (qe _)) (.inl ⟨_, _, _, har, hu⟩);have := LRel.own (w := w) (I := I) (G := a7 G ob (G ob)) (h := (bJ ob h).set ob (.sl (el, ti.size) true false [])) ob (el, ti.size) true [] ad (by rw [hself]; exact fun x => absurd hc0 x) (by simp [hlt]);rw [hself] at this;subst hn0;simpa using this
              ·have hadr := hadr hc0;subst hadr;obtain ⟨vs, f1, f2, f3⟩ := q5 hc0;have hoff := q3 hc0;simp only at q3' f1;rw [q3'] at f2 f3
               have hfit : ns * ti.size + xx.length <= vs.size := by
                rw [hxx.len, f2, <- hnx, <- qk];exact qh _ (by omega)
               refine key (by rw [es1, ex1, hoff]; exact yQ h0 h1 ht ht' hi f1 (by rw [<- ex1]; exact hfx w rfl) (hxx.one hsz) (by omega) hfit) ?_;have hal : ∀ m' es', (Ob.sl (el, ti.size) m' false es').alive (G ob) := fun _ _ => ⟨rfl, hc0⟩;have hww : ∀ b, b < w.heap.size -> (¬ (Ob.sl (el, ti.size) m false es).alive (G ob) ∨ b ≠ (G ob).blk) -> (w.setRow (G ob).blk (vs.toList.take (ns * ti.size) ++ xx ++ vs.toList.drop (ns * ti.size + xx.length)).toArray).heap[b]? = w.heap[b]? := fun b _ hb => jH _ _ _ _ (hb.resolve_left (fun hna => hna (hal _ _)));have hpp : (Ob.sl (el, ti.size) true false (es ++ ys)).alive (G ob) -> ((Ob.sl (el, ti.size) m false es).alive (G ob) /\ (G ob).blk = (G ob).blk) ∨ w.heap.size <= (G ob).blk := fun _ => .inl ⟨hal _ _, rfl⟩
               have hor : ORel (w.setRow (G ob).blk (vs.toList.take (ns * ti.size) ++ xx ++ vs.toList.drop (ns * ti.size + xx.length)).toArray) I (a7 G ob (G ob)) ((bJ ob h).set ob (.sl (el, ti.size) true false (es ++ ys))) (G ob) (.sl (el, ti.size) true false (es ++ ys)) := by
                have hk : Keeps w I (w.setRow (G ob).blk (vs.toList.take (ns * ti.size) ++ xx ++ vs.toList.drop (ns * ti.size + xx.length)).toArray) I := ⟨fun b hb hbs => hww b hbs (.inr fun e => hh.nI ob _ hob (hal _ _) (e ▸ hb)), fun _ x _ => x⟩;refine ⟨by simp; omega, q2, q3, q3', fun i e he => ?_, fun _ => ⟨_, setRow_heap w _ _ _ el _ f1, by rw [q3', <- f2]; simp; omega, fun i e he k v hv => ?_⟩⟩
                ·rw [q3']; exact (hxs.append hxx).el i e he
                ·rw [q3', jK vs _ _ hfit];by_cases hil : i < es.length
                 ·rw [qg hil] at he;have hkl : k < ti.size := by have := (List.getElem?_eq_some_iff.1 hv).1; rwa [q4 _ _ he, q3'] at this
                  have : (i + 1) * ti.size <= ns * ti.size := qh _ (by omega);rw [qk] at this;rw [if_neg (by omega)];exact ⟨(f3 i e he k v hv).1.mono hk.1 hk.2, (f3 i e he k v hv).2⟩
                 ·rw [qo (by omega)] at he;have hkl : k < ti.size := by have := (List.getElem?_eq_some_iff.1 hv).1; rwa [hxx.el _ _ he] at this
                  have hil2 := (List.getElem?_eq_some_iff.1 he).1;have e3 : i * ti.size = ns * ti.size + (i - es.length) * ti.size := by rw [<- qk]; congr 1; omega
                  have : (i - es.length + 1) * ti.size <= ys.length * ti.size := qh _ hil2;rw [qk] at this;rw [if_pos (by rw [hxx.len]; omega)];have := hxx.rep _ _ k v he hv;rw [show i * ti.size + k - ns * ti.size = (i - es.length) * ti.size + k by omega];exact ⟨this.1.mono hk.1 hk.2, this.2⟩
               obtain ⟨t1, t2, t3⟩ := hh.turn hob (ty' := (el, ti.size)) (m' := true) (nl' := false) (es' := es ++ ys) hww (by rw [d7]; exact qe _) hpp hor;refine hn _ (eP ob e) _ _ I _ _ hK t1 (he.kill t3 t2 hbox harr hmp) ?_ (TrH.turn hob hww (by rw [d7]; exact qe _) hpp rfl rfl rfl (jI _ _ _) (qe _)) (.inl ⟨_, _, _, har, hu⟩);have := LRel.own (w := w.setRow (G ob).blk (vs.toList.take (ns * ti.size) ++ xx ++ vs.toList.drop (ns * ti.size + xx.length)).toArray) (I := I) (G := a7 G ob (G ob)) (h := (bJ ob h).set ob (.sl (el, ti.size) true false (es ++ ys))) ob (el, ti.size) true (es ++ ys) _ (fun _ => rfl) (by simp [hlt]);rw [hself, <- hnl, hoff] at this;exact this
         ·cases hK
        ·cases hK
       ·cases hK
      ·cases hK
   ·cases hK
  ·cases hK
 ·cases hK
theorem yW {c : Call} (ho : o.op = .call c) (hc : c.callee = .builtin .append) (hK : lP P e h c.argTypes.toList c.args.toList K) : OpS P o e h K :=
 fun w I G a next Qx hh he hn => sG ho hc hK w I G a next Qx hh he fun v e' h' w' I' G' cv h1 h2 h3 h4 h5 _ => hn v e' h' w' I' G' cv h1 h2 h3 h4 h5
def bR (h : Hp) : LV -> Option PV
 | .pv v => some v
 | .own o => match h[o]? with | some (.sl _ _ n es) => some (.sl n false es) | _ => none
 | .sub o a b => match h[o]? with | some (.sl _ _ n es) => some (.sl n false ((es.drop a).take (b - a))) | _ => none
 | .elt o i off => match h[o]? with | some (.sl _ _ _ es) => some (.ptr ((es.getD i []).drop off)) | _ => none
 | .box o off => match h[o]? with
   | some (.arr cs) => some (.ptr (cs.drop off))
   | some (.box cs) => match bW cs with | some ps => some (.ptr (ps.drop off)) | none => none
   | _ => none
 | .mp o => match h[o]? with | some (.mp kvs) => some (.mp kvs) | _ => none
 | _ => none
def dE (f : LV -> Option PV) : List LV -> Option (List PV)
 | [] => some []
 | v :: r => match f v, dE f r with
   | some p, some ps => some (p :: ps)
   | _, _ => none
def eQ (h : Hp) : LV -> Option PV
 | .box o off => match h[o]? with
   | some (.box cs) => match dE (bR h) cs with | some ps => some (.ptr (ps.drop off)) | none => none
   | _ => bR h (.box o off)
 | .agg cs => match dE (bR h) cs with | some ps => some (.agg ps) | none => none
 | .fn f cs => match dE (bR h) cs with | some ps => some (.fn f ps) | none => none
 | v => bR h v
def eR (h : Hp) : LV -> Option PV
 | .tup vs => match dE (eQ h) vs with | some ps => some (.tup ps) | none => none
 | .fn f cs => match dE (eQ h) cs with | some ps => some (.fn f ps) | none => none
 | .box o off => match h[o]? with
   | some (.box cs) => match dE (eQ h) cs with | some ps => some (.ptr (ps.drop off)) | none => none
   | _ => eQ h (.box o off)
 | v => eQ h v

theorem gG {f : LV -> Option PV} : ∀ {l : List LV} {ps : List PV}, dE f l = some ps -> l.length = ps.length /\ ∀ (k : Nat) p, ps[k]? = some p -> ∃ v, l[k]? = some v /\ f v = some p
 | [], ps, h => by cases h; exact ⟨rfl, fun k p hk => by simp at hk⟩
 | v :: r, ps, h => by
   unfold dE at h;split at h
   ·rename_i p q h1 h2;cases h;obtain ⟨h3, h4⟩ := gG h2;refine ⟨by simp [h3], fun k u hk => ?_⟩;cases k with
    | zero => simp at hk; subst hk; exact ⟨v, rfl, h1⟩
    | succ k => simp at hk; simpa using h4 k u hk
   ·cases h

def AllB (I : Nat -> Prop) (h : Hp) (G : Nat -> Pl) (b : Nat) : Prop := I b ∨ aD h G b
theorem AllB.keeps (w : World) (I : Nat -> Prop) (h : Hp) (G : Nat -> Pl) : Keeps w I w (AllB I h G) := ⟨fun _ _ _ => rfl, fun _ x _ => .inl x⟩

section
variable {w : World} {I : Nat -> Prop} {G : Nat -> Pl} {h : Hp}
theorem sI (hh : HRel w I G h) {o : Nat} {ty : Nat × Nat} {m : Bool} {es : List (List PV)} (ho : h[o]? = some (.sl ty m false es)) {a n cap : Nat} {ad : Addr} (hle : a + n <= es.length) (hn : n <= cap)
 (had : 0 < n -> ad = ⟨(G o).blk, (G o).off + a * (G o).sz, none⟩) :
 Rep w (AllB I h G) (.sl false false ((es.drop a).take n)) (.slice (some ad) n cap) := by
 by_cases hn0 : n = 0
 ·subst hn0;rw [qby];exact .slz _ _ _ (fun x => by cases x)
 have had := had (by omega);subst had;obtain ⟨off, hoff⟩ : ∃ off, off = (G o).off + a * (G o).sz := ⟨_, rfl⟩;rw [<- hoff];have hoff : 0 < n -> off = (G o).off + a * (G o).sz := fun _ => hoff;obtain ⟨q1, q2, q3, q3', q4, q5⟩ := hh.obs _ _ ho;have hlen : ((es.drop a).take n).length = n := by simp; omega
 have hget : ∀ (i : Nat) e, ((es.drop a).take n)[i]? = some e -> es[a + i]? = some e /\ i < n := fun i e hi => by
  rw [qac] at hi;split at hi
  ·rw [qr] at hi; exact ⟨hi, by assumption⟩
  ·cases hi
 have hcap : ∀ {i : Nat} {e}, es[a + i]? = some e -> (G o).cap ≠ 0 := fun {i e} he => by have := (List.getElem?_eq_some_iff.1 he).1; omega
 have cellv : ∀ (i : Nat) e (k : Nat) v, ((es.drop a).take n)[i]? = some e -> e[k]? = some v -> ∃ cv, w.cell? ⟨(G o).blk, off + i * (G o).sz + k, none⟩ = some cv /\ Rep w I v cv /\ cv.oneCell' = true := fun i e k v he hk => by
  obtain ⟨hg, hi⟩ := hget i e he;have hc := hcap hg;obtain ⟨vs, f1, f2, f3⟩ := q5 hc;have hkl : k < (G o).sz := by have := (List.getElem?_eq_some_iff.1 hk).1; rwa [q4 _ _ hg] at this
  have hmul : (a + i + 1) * (G o).sz <= (G o).cap * (G o).sz := qh _ (by omega);rw [qk (a + i)] at hmul;have := f3 _ _ hg k v hk;refine ⟨_, ?_, this.1, this.2⟩;rw [hoff (by omega), q3 hc, show 0 + a * (G o).sz + i * (G o).sz + k = (a + i) * (G o).sz + k by rw [qk]; omega];exact fH f1 (by omega)
 have := Rep.sl (w := w) (I := AllB I h G) false ((es.drop a).take n) (G o).blk off cap (G o).sz (fun i k => (w.cell? ⟨(G o).blk, off + i * (G o).sz + k, none⟩).getD undef) (by omega) (fun hf => by cases hf) (fun i e he => by
  have hc := hcap (hget i e he).1;have hown : aD h G (G o).blk := ⟨o, _, ho, ⟨rfl, hc⟩, rfl⟩
  exact ⟨.inr hown, hh.blk_lt hown⟩) (fun i e he => q4 _ _ (hget i e he).1)
  (fun i e k v he hk => by obtain ⟨cv, c1, _⟩ := cellv i e k v he hk; rw [c1]; rfl)
  (fun i e k v he hk => by obtain ⟨cv, c1, c2, _⟩ := cellv i e k v he hk; rw [c1]; exact c2.mono (AllB.keeps w I h G).1 (AllB.keeps w I h G).2)
  (fun i e k v he hk => by obtain ⟨cv, c1, _, c3⟩ := cellv i e k v he hk; rw [c1]; exact c3)
 rwa [hlen] at this

theorem Rep.drop {J : Nat -> Prop} {cs : List PV} {b off : Nat} (hr : Rep w J (.ptr cs) (.pointer (some ⟨b, off, none⟩))) (k : Nat) : Rep w J (.ptr (cs.drop k)) (.pointer (some ⟨b, off + k, none⟩)) := by
 cases hr with
 | ptr _ _ _ c h3 h5 h6 h7 =>
   refine .ptr _ b (off + k) (fun i => c (k + i)) h3 (fun i v hv => ?_) (fun i v hv => ?_) (fun i v hv => ?_) <;> rw [qr] at hv
   ·rw [show off + k + i = off + (k + i) by omega]; exact h5 _ v hv
   ·exact h6 _ v hv
   ·exact h7 _ v hv

theorem jP (hh : HRel w I G h) {v : LV} {cv : Value} (hr : LRel w I G h v cv) {p : PV} (hp : bR h v = some p) : Rep w (AllB I h G) p cv := by
 have hk := AllB.keeps w I h G;cases hr with
 | bot => simp [bR] at hp
 | pv q _ h1 => simp [bR] at hp; subst hp; exact h1.mono hk.1 hk.2
 | ownNil o ty m es h1 =>
   have := hh.obs _ _ h1;simp only [ORel] at this; subst this;simp [bR, h1] at hp; subst hp;exact .slnil false
 | own o ty m es ad h0 h1 =>
   simp [bR, h1] at hp; subst hp;have hq := (hh.obs _ _ h1).1;have := sI hh h1 (a := 0) (n := es.length) (cap := (G o).cap) (ad := ad) (by omega) hq (fun _ => by rw [h0 (by omega)]; simp);simpa using this
 | subNil o a b ty m es h1 h2 =>
   have := hh.obs _ _ h1;simp only [ORel] at this; subst this; subst h2;simp [bR, h1] at hp; subst hp;exact .slnil false
 | sub o a b cap ad ty m es h1 h2 h3 h4 h5 =>
   simp [bR, h1] at hp; subst hp;exact sI hh h1 (by omega) h4 (fun hlt => h5 (by omega))
 | elt o i off ty m es h1 h2 =>
   simp [bR, h1] at hp; subst hp;obtain ⟨q1, q2, q3, q3', q4, q5⟩ := hh.obs _ _ h1;have hc : (G o).cap ≠ 0 := by omega
   obtain ⟨vs, f1, f2, f3⟩ := q5 hc;have hown : aD h G (G o).blk := ⟨o, _, h1, ⟨rfl, hc⟩, rfl⟩;have hget : es[i]? = some es[i] := qj h2
   have hptr : Rep w (AllB I h G) (.ptr es[i]) (.pointer (some ⟨(G o).blk, (G o).off + i * (G o).sz, none⟩)) := by
    have hkk : ∀ (k : Nat) v, es[i][k]? = some v -> k < (G o).sz := fun k v hv => by have := (List.getElem?_eq_some_iff.1 hv).1; rwa [q4 _ _ hget] at this
    refine .ptr _ _ _ (fun k => vs.getD (i * (G o).sz + k) undef) ⟨.inr hown, hh.blk_lt hown⟩ (fun k v hv => ?_) (fun k v hv => (f3 _ _ hget k v hv).1.mono hk.1 hk.2) (fun k v hv => (f3 _ _ hget k v hv).2);have hmul : (i + 1) * (G o).sz <= (G o).cap * (G o).sz := qh _ (by omega);rw [qk] at hmul;have := hkk k v hv;rw [q3 hc, show 0 + i * (G o).sz + k = i * (G o).sz + k by omega];exact fH f1 (by omega)
   simpa [qah, h2] using hptr.drop off
 | box o off cs h1 =>
   simp only [bR, h1] at hp;cases hc : bW cs with
   | none => rw [hc] at hp; cases hp
   | some ps =>
     rw [hc] at hp; cases hp;have hcs := dY hc;subst hcs;obtain ⟨vs, ty, f1, f2, f3⟩ := hh.obs _ _ h1;have hown : aD h G (G o).blk := ⟨o, _, h1, trivial, rfl⟩;simp only [qaf] at f2
     have f3' : ∀ (k : Nat) v, ps[k]? = some v -> Rep w I v (vs.getD ((G o).off + k) undef) /\ (vs.getD ((G o).off + k) undef).oneCell' = true := fun k v hv => by
      have := f3 k (.pv v) (by simp [hv]);refine ⟨?_, this.2⟩;have h3 := this.1;generalize vs.getD ((G o).off + k) undef = cu at h3;cases h3; assumption
     refine Rep.drop (.ptr ps _ _ (fun k => vs.getD ((G o).off + k) undef) ⟨.inr hown, hh.blk_lt hown⟩ (fun k v hv => fH f1 ?_) (fun k v hv => (f3' k v hv).1.mono hk.1 hk.2) (fun k v hv => (f3' k v hv).2)) off;have := (List.getElem?_eq_some_iff.1 hv).1;omega
 | arr o off cs h1 =>
   simp [bR, h1] at hp; subst hp;obtain ⟨vs, ty, f1, f2, f3⟩ := hh.obs _ _ h1;have hown : aD h G (G o).blk := ⟨o, _, h1, trivial, rfl⟩;refine Rep.drop (.ptr cs _ _ (fun k => vs.getD ((G o).off + k) undef) ⟨.inr hown, hh.blk_lt hown⟩ (fun k v hv => fH f1 ?_) (fun k v hv => (f3 k v hv).1.mono hk.1 hk.2) (fun k v hv => (f3 k v hv).2)) off;have := (List.getElem?_eq_some_iff.1 hv).1;omega
 | agg => simp [bR] at hp
 | tup => simp [bR] at hp
 | fn => simp [bR] at hp
 | iter => simp [bR] at hp
 | mp o kvs h1 =>
   simp [bR, h1] at hp; subst hp;obtain ⟨es, ck, f1, f2, f3⟩ := hh.obs _ _ h1;have hown : aD h G (G o).blk := ⟨o, _, h1, trivial, rfl⟩;exact .mp kvs _ ck es ⟨.inr hown, hh.blk_lt hown⟩ f1 f2 (fun i kv hv => (f3 i kv hv).1.mono hk.1 hk.2) (fun i kv hv => (f3 i kv hv).2.mono hk.1 hk.2)
theorem sJ (hh : HRel w I G h) {f : LV -> Option PV} (hf : ∀ v cv p, LRel w I G h v cv -> f v = some p -> Rep w (AllB I h G) p cv) {o : Nat} {cs : List LV} (h1 : h[o]? = some (.box cs)) {ps : List PV} (hp : dE f cs = some ps) (off : Nat) :
 Rep w (AllB I h G) (.ptr (ps.drop off)) (.pointer (some ⟨(G o).blk, (G o).off + off, none⟩)) := by
 obtain ⟨e1, e2⟩ := gG hp;obtain ⟨vs, ty, f1, f2, f3⟩ := hh.obs _ _ h1;have hown : aD h G (G o).blk := ⟨o, _, h1, trivial, rfl⟩
 have f3' : ∀ (k : Nat) v, ps[k]? = some v -> Rep w (AllB I h G) v (vs.getD ((G o).off + k) undef) /\ (vs.getD ((G o).off + k) undef).oneCell' = true := fun k v hv => by
  obtain ⟨u, g1, g2⟩ := e2 k v hv;exact ⟨hf _ _ _ (f3 k u g1).1 g2, (f3 k u g1).2⟩
 refine Rep.drop (.ptr ps _ _ (fun k => vs.getD ((G o).off + k) undef) ⟨.inr hown, hh.blk_lt hown⟩ (fun k v hv => fH f1 ?_) (fun k v hv => (f3' k v hv).1) (fun k v hv => (f3' k v hv).2)) off;have := (List.getElem?_eq_some_iff.1 hv).1;omega
theorem jQ (hh : HRel w I G h) {v : LV} {cv : Value} (hr : LRel w I G h v cv) {p : PV} (hp : eQ h v = some p) : Rep w (AllB I h G) p cv := by
 cases v
 case box o off =>
  simp only [eQ] at hp;split at hp
  ·rename_i cs hcs;split at hp
   ·rename_i ps hps;cases hp;cases hr with
    | box _ _ cs' h1 => rw [hcs] at h1; cases h1; exact sJ hh (fun v cv p h1 h2 => jP hh h1 h2) hcs hps off
    | arr _ _ cs' h1 => rw [hcs] at h1; cases h1
   ·cases hp
  ·exact jP hh hr hp
 case agg cs =>
  simp only [eQ] at hp;split at hp
  ·rename_i ps hps;cases hp;obtain ⟨e1, e2⟩ := gG hps;cases hr with
   | agg _ vs h1 h6 h7 =>
     refine .agg ps vs (by omega) (fun k v hv => ?_) (fun k v hv => ?_) <;> obtain ⟨u, g1, g2⟩ := e2 k v hv
     ·exact jP hh (h6 k u g1) g2
     ·exact h7 k u g1
  ·cases hp
 case fn f cs =>
  simp only [eQ] at hp;split at hp
  ·rename_i ps hps;cases hp;obtain ⟨e1, e2⟩ := gG hps;cases hr with
   | fn _ _ vs h1 h6 =>
     refine .fn f ps vs (by omega) (fun k v hv => ?_);obtain ⟨u, g1, g2⟩ := e2 k v hv;exact jP hh (h6 k u g1) g2
  ·cases hp
 all_goals exact jP hh hr hp
theorem lQ (hh : HRel w I G h) {v : LV} {cv : Value} (hr : LRel w I G h v cv) {p : PV} (hp : eR h v = some p) : Rep w (AllB I h G) p cv := by
 cases v
 case box o off =>
  simp only [eR] at hp;split at hp
  ·rename_i cs hcs;split at hp
   ·rename_i ps hps;cases hp;cases hr with
    | box _ _ cs' h1 => rw [hcs] at h1; cases h1; exact sJ hh (fun v cv p h1 h2 => jQ hh h1 h2) hcs hps off
    | arr _ _ cs' h1 => rw [hcs] at h1; cases h1
   ·cases hp
  ·exact jQ hh hr hp
 case tup cs =>
  simp only [eR] at hp;split at hp
  ·rename_i ps hps;cases hp;obtain ⟨e1, e2⟩ := gG hps;cases hr with
   | tup _ vs h1 h6 =>
     refine .tup ps vs (by omega) (fun k v hv => ?_);obtain ⟨u, g1, g2⟩ := e2 k v hv;exact jQ hh (h6 k u g1) g2
  ·cases hp
 case fn f cs =>
  simp only [eR] at hp;split at hp
  ·rename_i ps hps;cases hp;obtain ⟨e1, e2⟩ := gG hps;cases hr with
   | fn _ _ vs h1 h6 =>
     refine .fn f ps vs (by omega) (fun k v hv => ?_);obtain ⟨u, g1, g2⟩ := e2 k v hv;exact jQ hh (h6 k u g1) g2
  ·cases hp
 all_goals exact jQ hh hr hp

theorem yX (hh : HRel w I G h) {vs : List LV} {ps : List PV} (hp : dE (eR h) vs = some ps) {cargs : Array Value} (hr : ∀ (i : Nat) v, vs[i]? = some v -> LRel w I G h v (cargs.getD i undef)) :
 vs.length = ps.length /\ ∀ (i : Nat) p, ps[i]? = some p -> Rep w (AllB I h G) p (cargs.getD i undef) := by
 obtain ⟨h1, h2⟩ := gG hp;exact ⟨h1, fun i p hi => by obtain ⟨v, g1, g2⟩ := h2 i p hi; exact lQ hh (hr i v g1) g2⟩
end
theorem HRel.nil (G : Nat -> Pl) (h : ∀ b, I b -> b < w.heap.size) : HRel w I G [] :=
 ⟨fun o ob ho => by simp at ho, fun o o' ob ob' ho => by simp at ho, fun o ob ho => by simp at ho, h⟩
theorem HRel.keep {w w' : World} {I I' : Nat -> Prop} (hh : HRel w I G h) (hw : ∀ b, b < w.heap.size -> w'.heap[b]? = w.heap[b]?) (hI : ∀ b, I b -> I' b) (hI2 : ∀ b, I' b -> I b ∨ w.heap.size <= b)
 (hc : ∀ b, I' b -> b < w'.heap.size) : HRel w' I' G h := by
 have hk : Keeps w I w' I' := ⟨fun b hb hbs => hw b hbs, fun b hb _ => hI b hb⟩;have blk : ∀ (i : Nat) x, h[i]? = some x -> x.alive (G i) -> (G i).blk < w.heap.size := fun i x hx ha => hh.blk_lt ⟨i, x, hx, ha, rfl⟩;refine ⟨fun i x hx => ?_, hh.sep, fun i x hx ax hI' => ?_, hc⟩
 ·have := hh.obs i x hx;cases x with
  | dead => trivial
  | box cs => obtain ⟨vs, ty, e1, e2, e3⟩ := this; exact ⟨vs, ty, by rw [hw _ (blk i _ hx trivial)]; exact e1, e2, fun k v hv => ⟨(e3 k v hv).1.mono hk (.refl _ _), (e3 k v hv).2⟩⟩
  | arr cs => obtain ⟨vs, ty, e1, e2, e3⟩ := this; exact ⟨vs, ty, by rw [hw _ (blk i _ hx trivial)]; exact e1, e2, fun k v hv => ⟨(e3 k v hv).1.mono hk.1 hk.2, (e3 k v hv).2⟩⟩
  | sl ty m n es =>
    cases n with
    | true => exact this
    | false =>
      obtain ⟨e1, e2, e3, e3', e4, e5⟩ := this;refine ⟨e1, e2, e3, e3', e4, fun hc => ?_⟩;obtain ⟨vs, f1, f2, f3⟩ := e5 hc;exact ⟨vs, by rw [hw _ (blk i _ hx ⟨rfl, hc⟩)]; exact f1, f2, fun i' e he k v hv => ⟨(f3 i' e he k v hv).1.mono hk.1 hk.2, (f3 i' e he k v hv).2⟩⟩
  | mp kvs => obtain ⟨es, ck, e1, e2, e3⟩ := this; exact ⟨es, ck, by rw [hw _ (blk i _ hx trivial)]; exact e1, e2, fun k kv hv => ⟨(e3 k kv hv).1.mono hk.1 hk.2, (e3 k kv hv).2.mono hk.1 hk.2⟩⟩
  | iter ty rem cur => exact IterRel.mono this (hw _ (blk i _ hx trivial)) hk
 ·rcases hI2 _ hI' with hb | hb
  ·exact hh.nI i x hx ax hb
  ·have := blk i x hx ax; omega

def d8 : PV -> Bool
 | .int _ _ => true
 | .bool _ => true
 | .unit => true
 | _ => false
def jR : PV -> Bool
 | .tup vs => vs.all d8
 | v => d8 v
theorem yY {w w' : World} {J J' : Nat -> Prop} {v : PV} (h : d8 v = true) (hr : Rep w J v cv) : Rep w' J' v cv := by
 cases hr <;> simp [d8] at h <;> constructor
theorem yZ {w w' : World} {J J' : Nat -> Prop} {v : PV} (h : jR v = true) (hr : Rep w J v cv) : Rep w' J' v cv := by
 cases hr with
 | tup cs vs h1 h6 =>
   simp only [jR, List.all_eq_true] at h;exact .tup cs vs h1 fun k v hv => yY (h v (qam hv)) (h6 k v hv)
 | unit => exact .unit
 | int k n => exact .int k n
 | bool b => exact .bool b
 | _ => simp [jR, d8] at h

theorem sK {f : Nat} {args : Array Value} (hc : jE P f) : (callFunc f args).run P w = .ok (.enter f args) w := by
 obtain ⟨fn, h1, h2, h3⟩ := hc;unfold callFunc;simp only [qf, run_program, qa, h1, h3, h2, qy, if_false, qab, qi]

def nW (f : TypeId -> PV -> (PV -> Prop) -> Prop) : List TypeId -> List PV -> (List PV -> Prop) -> Prop
 | [], _, K => K []
 | t :: ts, vs, K => ∃ x, vs.head? = some x /\ f t x fun y => nW f ts vs.tail fun r => K (y :: r)
def c6 (P : Program) : Nat -> TypeId -> PV -> (PV -> Prop) -> Prop
 | 0, _, v, K => K v
 | d + 1, t, v, K =>
   match P.underlying t with
   | some (.int k) => ∃ n, v = .int k n /\ K (.int k n)
   | some .bool => ∃ b, v = .bool b /\ K (.bool b)
   | some (.slice _) => ∃ n f es, v = .sl n f es /\ K (.sl n f es)
   | some (.struct _) => match kV P 8 t with
     | some ks => ∃ cs, v = .agg cs /\ cs.length = ks.length /\ c4 ks cs fun r => K (.agg r)
     | none => K v
   | some (.tuple ts) => ∃ vs, v = .tup vs /\ vs.length = ts.toList.length /\ nW (c6 P d) ts.toList vs fun r => K (.tup r)
   | _ => K v
theorem eS : ∀ {d : Nat} {t : TypeId} {v : PV} {K : PV -> Prop}, c6 P d t v K -> K v := by
 intro d
 induction d with
 | zero => exact fun h => h
 | succ d ih =>
   have tup : ∀ {ts : List TypeId} {vs : List PV} {K : List PV -> Prop}, vs.length = ts.length -> nW (c6 P d) ts vs K -> K vs := by
    intro ts
    induction ts with
    | nil => intro vs K hl h; cases vs with | nil => exact h | cons => simp at hl
    | cons t ts iht =>
      intro vs K hl h;obtain ⟨x, h1, h2⟩ := h;cases vs with
      | nil => simp at h1
      | cons y vs =>
        simp at h1; subst h1;exact iht (vs := vs) (K := fun r => K (y :: r)) (by simpa using hl) (ih h2)
   intro t v K h;unfold c6 at h;split at h
   ·obtain ⟨n, rfl, h⟩ := h; exact h
   ·obtain ⟨n, rfl, h⟩ := h; exact h
   ·obtain ⟨n, f, es, rfl, h⟩ := h; exact h
   ·split at h
    ·rename_i ks hks;obtain ⟨cs, rfl, hl, h⟩ := h;obtain ⟨r, h1, h2, h3⟩ := nG h
     have : r = cs := qbs fun i => by
      by_cases hi : i < r.length
      ·have := h3 i r[i] (by simp [hi]); rw [this]; simp [hi]
      ·rw [qz (by omega), qz (by omega)]
     subst this; exact h1
    ·exact h
   ·obtain ⟨vs, rfl, hl, h⟩ := h; exact tup hl h
   ·exact h

def jS (P : Program) (e : Env) (h : Hp) (ty : TypeId) (f : Nat) (vs : List LV) (K : Kt) : Prop :=
 match bW vs with
 | some ps => PCall P f ps fun v => c6 P 4 ty v fun v => K (.pv v) e h
 | none => match dE (eR h) vs with
   | some ps => PCall P f ps fun v => c6 P 4 ty v fun v => jR v = true /\ K (.pv v) e h
   | none => aA 601
def c7 : LV -> Option (Nat × List LV)
 | .pv (.fn f caps) => some (f, caps.map .pv)
 | .fn f caps => some (f, caps)
 | _ => none
theorem lR {u : LV} (hr : LRel w I G h u cv) {f : Nat} {caps : List LV} (hf : c7 u = some (f, caps)) :
 ∃ cc : Array Value, cv = .func (.func f) #[] cc /\ cc.size = caps.length /\ ∀ (k : Nat) v, caps[k]? = some v -> LRel w I G h v (cc.getD k undef) := by
 cases hr with
 | pv p _ h1 =>
   cases h1 with
   | fn f' cs vs e1 e2 =>
     simp [c7] at hf;obtain ⟨rfl, rfl⟩ := hf;refine ⟨vs, rfl, by simpa using e1, fun k v hv => ?_⟩
     rw [qt] at hv;cases hc : cs[k]? with
     | none => rw [hc] at hv; cases hv
     | some c => rw [hc] at hv; cases hv; exact .pv _ _ (e2 k c hc)
   | _ => simp [c7] at hf
 | fn f' cs vs e1 e2 =>
   simp [c7] at hf;obtain ⟨rfl, rfl⟩ := hf;exact ⟨vs, rfl, e1, e2⟩
 | _ => simp [c7] at hf

theorem lS {c : Call} {fo : Operand} (ho : o.op = .call c) (hc : c.callee = .value fo) {a : Act} {w : World} {f : Nat} {cc : Array Value} (hf : a.eval fo = .func (.func f) #[] cc) (hcl : jE P f) :
 (execOp a.eval o).run P w = .ok (.enter f (c.args.map a.eval ++ cc)) w := by
 unfold execOp; rw [ho];show (do let d <- resolve a.eval c o.type; invoke d.target d.args : Sem Next).run P w = _;unfold resolve;simp only [hc, hf, Deferred.ofValue, qf, qi, qa, invoke, Array.empty_append, sK hcl]
theorem lT (he : ERel w I G h e a.tmps) {c : Call} {vs caps : List LV} (hv : cV [] e c.args.toList = some vs) {cc : Array Value}
 (hs : cc.size = caps.length) (hcr : ∀ (k : Nat) v, caps[k]? = some v -> LRel w I G h v (cc.getD k undef)) :
 (c.args.map a.eval ++ cc).size = (vs ++ caps).length /\ ∀ (i : Nat) v, (vs ++ caps)[i]? = some v -> LRel w I G h v ((c.args.map a.eval ++ cc).getD i undef) := by
 obtain ⟨h1, h2⟩ := jB he (AOK.nil _) hv;have hsz : (c.args.map a.eval).size = vs.length := by simpa using h1
 refine ⟨by simp [hs]; simpa using h1, fun i v hi => ?_⟩
 rw [qq];by_cases hlt : i < vs.length
 ·rw [qg hlt] at hi;rw [qbc (by omega)];have := h2 i v hi;have e1 : (c.args.toList.map a.eval).getD i undef = ((c.args.map a.eval)[i]?).getD undef := by simp
  rw [e1] at this; exact this
 ·rw [qo (by omega)] at hi;rw [Array.getElem?_append_right (by omega), hsz];have := hcr _ v hi;rwa [qq] at this

theorem nX {c : Call} {fo : Operand} {u : LV} {f : Nat} {caps vs : List LV} (ho : o.op = .call c) (hc : c.callee = .value fo) (hu : aF [] e fo = some u) (hf : c7 u = some (f, caps))
 (hv : cV [] e c.args.toList = some vs) (hK : jS P e h o.type f (vs ++ caps) K) : OpK P o e h K := by
 unfold jS at hK
 have fin : ∀ (w : World) (I : Nat -> Prop) (G : Nat -> Pl) (a : Act) (next : Act -> World -> Prop) (Qx : Exit -> Act -> World -> Prop), HRel w I G h -> ERel w I G h e a.tmps ->
  jE P f -> (∀ cc : Array Value, cc.size = caps.length -> (∀ (k : Nat) v, caps[k]? = some v -> LRel w I G h v (cc.getD k undef)) -> Calls P f (c.args.map a.eval ++ cc) w fun en w' => ∃ cv, en = .returned cv /\ next (a.put o.dst cv) w') -> o.wp P a w next Qx := by
  intro w I G a next Qx hh he hcl hcalls
  obtain ⟨cc, e1, e2, e3⟩ := lR (aC he (AOK.nil _) hu) hf;unfold Oper.wp;rw [lS ho hc e1 hcl];exact (hcalls cc e2 e3).mono fun en w' ⟨cv, h1, h2⟩ => by subst h1; exact h2
 have hno : ∀ G b, ¬ aD [] G b := fun G b ⟨o, ob, ho, _⟩ => by simp at ho
 have finA : ∀ (w : World) (I : Nat -> Prop) (G : Nat -> Pl) (a : Act) (next : Act -> World -> Prop), HRel w I G h -> ERel w I G h e a.tmps ->
  (∀ v e' h' w' I' G' cv, K v e' h' -> HRel w' I' G' h' -> ERel w' I' G' h' e' a.tmps -> LRel w' I' G' h' v cv -> TrH w I G h w' I' G' h' -> KA w w' -> next (a.put o.dst cv) w') ->
  ∀ (cv : Value) (r : LV) (h' : Hp) (I' : Nat -> Prop) (G' : Nat -> Pl) (v : PV) (w' : World), r = .pv v -> K (.pv v) e h -> HRel w' I' G' h' -> LRel w' I' G' h' r cv -> TrH w I G [] w' I' G' h' -> next (a.put o.dst cv) w' := by
  intro w I G a next hh he hn cv r h' I' G' v w' q2 q3 q4 q5 q6
  have q6 := q6.t;subst q2;have hw : ∀ b, b < w.heap.size -> w'.heap[b]? = w.heap[b]? := fun b hb => q6.keep b hb (hno G b);have hI2 : ∀ b, I' b -> I b ∨ w.heap.size <= b := fun b hb => (q6.i2 b hb).elim .inl (fun x => x.elim (fun x => absurd x (hno G b)) .inr);have hH := hh.keep hw q6.i1 hI2 q4.cl;refine hn _ e h w' I' G cv q3 hH (he.mono ⟨fun b _ hb => hw b hb, fun b hb _ => q6.i1 b hb⟩ (.refl _ _)) ?_ (.same ⟨q6.os, q6.tape, q6.output, q6.size, fun b hb _ => hw b hb, q6.i1, fun b hb => (hI2 b hb).elim .inl (fun x => .inr (.inr x)), fun b hb => .inl hb, q6.frz, q6.drawn⟩) ⟨q6.size, hw⟩;cases q5 with | pv _ _ h1 => exact .pv _ _ h1
 have finB : ∀ (w : World) (I : Nat -> Prop) (G : Nat -> Pl) (a : Act) (next : Act -> World -> Prop), HRel w I G h -> ERel w I G h e a.tmps ->
  (∀ v e' h' w' I' G' cv, K v e' h' -> HRel w' I' G' h' -> ERel w' I' G' h' e' a.tmps -> LRel w' I' G' h' v cv -> TrH w I G h w' I' G' h' -> KA w w' -> next (a.put o.dst cv) w') ->
  ∀ (cv : Value) (r : LV) (h' : Hp) (I' : Nat -> Prop) (G' : Nat -> Pl) (v : PV) (w' : World), r = .pv v -> jR v = true -> K (.pv v) e h -> HRel w' I' G' h' -> LRel w' I' G' h' r cv -> TrH w (AllB I h G) G [] w' I' G' h' -> next (a.put o.dst cv) w' := by
  intro w I G a next hh he hn cv r h' I' G' v w' q2 q2' q3 q4 q5 q6
  have q6 := q6.t;subst q2;have hw : ∀ b, b < w.heap.size -> w'.heap[b]? = w.heap[b]? := fun b hb => q6.keep b hb (hno G b);have hH := hh.keep (w' := w') (I' := I) hw (fun _ x => x) (fun _ x => .inl x) (fun b hb => qx (hh.cl b hb) q6.size);refine hn _ e h w' I G cv q3 hH (he.mono ⟨fun b _ hb => hw b hb, fun b hb _ => hb⟩ (.refl _ _)) ?_ (.same ⟨q6.os, q6.tape, q6.output, q6.size, fun b hb _ => hw b hb, fun _ x => x, fun b hb => .inl hb, fun b hb => .inl hb, q6.frz, q6.drawn⟩) ⟨q6.size, hw⟩;cases q5 with | pv _ _ h1 => exact .pv _ _ (yZ q2' h1)
 split at hK
 ·rename_i ps hps;intro w I G a next Qx hh he hn
  refine fin w I G a next Qx hh he hK.1 fun cc e2 e3 => ?_
  obtain ⟨g1, g2⟩ := lT he hv e2 e3;have hps' := dY hps
  refine (hK.2 w I G _ (HRel.nil G hh.cl) (by rw [g1, hps']) (fun i v hi => ?_)).mono fun en w' ⟨cv, r, h', I', G', q1, ⟨v, q2, q3⟩, q4, q5, q6⟩ => by
   have q3 := eS q3;refine ⟨cv, q1, ?_⟩;exact finA w I G a next hh he hn cv r h' I' G' v w' q2 q3 q4 q5 q6
  ·rw [<- hps'] at hi;have := g2 i v hi;have hm : ∃ p, v = .pv p := by rw [hps', qt] at hi; cases hq : ps[i]? <;> rw [hq] at hi <;> cases hi; exact ⟨_, rfl⟩
   obtain ⟨p, rfl⟩ := hm;generalize (c.args.map a.eval ++ cc).getD i undef = ca at this ⊢;cases this with | pv _ _ h1 => exact .pv _ _ h1
 ·split at hK
  ·rename_i ps hps;intro w I G a next Qx hh he hn
   refine fin w I G a next Qx hh he hK.1 fun cc e2 e3 => ?_
   obtain ⟨g1, g2⟩ := lT he hv e2 e3;obtain ⟨r1, r2⟩ := yX hh hps g2;have hcl' : ∀ b, AllB I h G b -> b < w.heap.size := fun b hb => hb.elim (hh.cl b) hh.blk_lt
   refine (hK.2 w (AllB I h G) G _ (HRel.nil G hcl') (by rw [g1, r1]; simp) (fun i v hi => ?_)).mono fun en w' ⟨cv, r, h', I', G', q1, ⟨v, q2, q3⟩, q4, q5, q6⟩ => by
    obtain ⟨q2', q3⟩ := eS q3;refine ⟨cv, q1, ?_⟩;exact finB w I G a next hh he hn cv r h' I' G' v w' q2 q2' q3 q4 q5 q6
   ·rw [qt] at hi;cases hq : ps[i]? with
    | none => rw [hq] at hi; cases hi
    | some p => rw [hq] at hi; cases hi; exact .pv _ _ (r2 i p hq)
  ·cases hK
theorem sL {c : Call} {fo : Operand} {u : LV} {f : Nat} {caps vs : List LV} (ho : o.op = .call c) (hc : c.callee = .value fo) (hu : aF [] e fo = some u) (hf : c7 u = some (f, caps))
 (hv : cV [] e c.args.toList = some vs) (hK : jS P e h o.type f (vs ++ caps) K) : OpS P o e h K := (nX ho hc hu hf hv hK).opS
structure SRel (w : World) (I : Nat -> Prop) (G : Nat -> Pl) (e : Env) (h : Hp) (N : Nat) (a : Act) : Prop where
 hh : HRel w I G h
 he : ERel w I G h e a.tmps
 hn : a.tmps.size = N
def idx (o : Nat) : List Nat -> Nat -> Option Nat
 | [], _ => none
 | x :: r, k => bif qc x o then some k else idx o r (k + 1)
def bM (os : List Nat) : LV -> LV
 | .pv v => .pv v
 | .own o => match idx o os 0 with | some k => .own k | none => .bot
 | .sub o a b => match idx o os 0 with | some k => .sub k a b | none => .bot
 | .elt o i off => match idx o os 0 with | some k => .elt k i off | none => .bot
 | .box o off => match idx o os 0 with | some k => .box k off | none => .bot
 | .mp o => match idx o os 0 with | some k => .mp k | none => .bot
 | .it o => match idx o os 0 with | some k => .it k | none => .bot
 | _ => .bot
def eU (os : List Nat) : LV -> LV
 | .agg cs => .agg (cs.map (bM os))
 | .tup cs => .tup (cs.map (bM os))
 | .fn f cs => .fn f (cs.map (bM os))
 | v => bM os v
def d9 (os : List Nat) : Ob -> Ob
 | .box cs => .box (cs.map (bM os))
 | ob => ob
def eV (os : List Nat) (e : Env) : List Nat -> Env
 | [] => []
 | i :: r => (i, match get e i with | some v => eU os v | none => .bot) :: eV os e r
def aQ (os : List Nat) (h : Hp) : List Nat -> Hp
 | [] => []
 | o :: r => (match h[o]? with | some ob => d9 os ob | none => .dead) :: aQ os h r
def bX : List Nat -> Bool
 | [] => true
 | x :: r => !(r.any (qc x)) && bX r
theorem gH {o : Nat} : ∀ {os : List Nat} {k0 k : Nat}, idx o os k0 = some k -> k0 <= k /\ os[k - k0]? = some o
 | [], k0, k, h => by cases h
 | x :: r, k0, k, h => by
   simp only [idx] at h;cases hb : qc x o with
   | true => rw [hb] at h; simp at h; subst h; have := qd hb; subst this; simp
   | false =>
     rw [hb] at h;obtain ⟨h1, h2⟩ := gH (os := r) h;refine ⟨by omega, ?_⟩;rw [show k - k0 = (k - (k0 + 1)) + 1 by omega];simpa using h2
theorem nY : ∀ {os : List Nat}, bX os = true -> ∀ (i j : Nat) o, os[i]? = some o -> os[j]? = some o -> i = j
 | [], _, i, j, o, h, _ => by simp at h
 | x :: r, hn, i, j, o, hi, hj => by
   simp only [bX, qn, qv] at hn
   have hx : ∀ (k : Nat), r[k]? = some x -> False := fun k hk => by
    have h1 : r.any (qc x) = true := List.any_eq_true.2 ⟨x, qam hk, Nat.beq_refl x⟩;rw [h1] at hn; cases hn.1
   cases i with
   | zero =>
     simp at hi; subst hi;cases j with
     | zero => rfl
     | succ j => simp at hj; exact (hx j hj).elim
   | succ i =>
     simp at hi;cases j with
     | zero => simp at hj; subst hj; exact (hx i hi).elim
     | succ j => simp at hj; rw [nY hn.2 i j o hi hj]
theorem fI {os : List Nat} : ∀ {l : List Nat} (k : Nat), (aQ os h l)[k]? = (l[k]?).map fun o => match h[o]? with | some ob => d9 os ob | none => .dead
 | [], k => by simp [aQ]
 | o :: r, 0 => by simp [aQ]
 | o :: r, k + 1 => by simp [aQ, fI (l := r) k]
theorem SRel.sub {N : Nat} (hs : SRel w I G e h N a) (os : List Nat) (ks : List Nat) (hn : bX os = true) :
 SRel w I (fun k => match os[k]? with | some o => G o | none => ⟨0, 0, 0, 0⟩) (eV os e ks) (aQ os h os) N a /\ ∀ b, aD (aQ os h os) (fun k => match os[k]? with | some o => G o | none => ⟨0, 0, 0, 0⟩) b -> aD h G b := by
 have hg : ∀ {o k : Nat} {ob : Ob}, idx o os 0 = some k -> h[o]? = some ob -> (aQ os h os)[k]? = some (d9 os ob) /\ (match os[k]? with | some o => G o | none => (⟨0, 0, 0, 0⟩ : Pl)) = G o := fun {o k ob} hi ho => by
  obtain ⟨_, h2⟩ := gH hi;rw [Nat.sub_zero] at h2;rw [fI, h2];simp [ho]
 have h1 : ∀ v cv, LRel w I G h v cv -> LRel w I (fun k => match os[k]? with | some o => G o | none => ⟨0, 0, 0, 0⟩) (aQ os h os) (bM os v) cv := fun v cv hr => by
  cases hr with
  | bot => exact .bot _
  | pv p _ q => exact .pv _ _ q
  | ownNil o ty m es q => simp only [bM]; cases hi : idx o os 0 with | none => exact .bot _ | some k => exact .ownNil k ty m es (hg hi q).1
  | own o ty m es ad q0 q => simp only [bM]; cases hi : idx o os 0 with | none => exact .bot _ | some k => obtain ⟨g1, g2⟩ := hg hi q; rw [<- g2] at q0 ⊢; exact .own k ty m es ad q0 g1
  | subNil o x y ty m es q q2 => simp only [bM]; cases hi : idx o os 0 with | none => exact .bot _ | some k => exact .subNil k x y ty m es (hg hi q).1 q2
  | sub o x y cap ad ty m es q q2 q3 q4 q5 => simp only [bM]; cases hi : idx o os 0 with | none => exact .bot _ | some k => obtain ⟨g1, g2⟩ := hg hi q; rw [<- g2] at q5; exact .sub k x y cap ad ty m es g1 q2 q3 q4 q5
  | elt o x y ty m es q q2 => simp only [bM]; cases hi : idx o os 0 with | none => exact .bot _ | some k => obtain ⟨g1, g2⟩ := hg hi q; rw [<- g2]; exact .elt k x y ty m es g1 q2
  | box o x cs q => simp only [bM]; cases hi : idx o os 0 with | none => exact .bot _ | some k => obtain ⟨g1, g2⟩ := hg hi q; rw [<- g2]; exact .box k x _ g1
  | arr o x cs q => simp only [bM]; cases hi : idx o os 0 with | none => exact .bot _ | some k => obtain ⟨g1, g2⟩ := hg hi q; rw [<- g2]; exact .arr k x _ g1
  | agg => exact .bot _
  | tup => exact .bot _
  | fn => exact .bot _
  | mp o kvs q => simp only [bM]; cases hi : idx o os 0 with | none => exact .bot _ | some k => obtain ⟨g1, g2⟩ := hg hi q; rw [<- g2]; exact .mp k _ g1
  | iter o ty rem cur q => simp only [bM]; cases hi : idx o os 0 with | none => exact .bot _ | some k => obtain ⟨g1, g2⟩ := hg hi q; rw [<- g2]; exact .iter k _ _ _ g1
 have hmap : ∀ {cs : List LV} {k : Nat} {u : LV}, (cs.map (bM os))[k]? = some u -> ∃ v, cs[k]? = some v /\ u = bM os v := fun {cs k u} hk => by
  rw [qt] at hk;cases hc : cs[k]? with
  | none => rw [hc] at hk; cases hk
  | some v => rw [hc] at hk; cases hk; exact ⟨v, rfl, rfl⟩
 have h2 : ∀ v cv, LRel w I G h v cv -> LRel w I (fun k => match os[k]? with | some o => G o | none => ⟨0, 0, 0, 0⟩) (aQ os h os) (eU os v) cv := fun v cv hr => by
  cases v
  case agg cs => cases hr with | agg _ vs q1 q2 q3 => refine .agg _ vs (by simpa using q1) (fun k u hu => ?_) (fun k u hu => ?_) <;> obtain ⟨v, g1, rfl⟩ := hmap hu; exact h1 _ _ (q2 k v g1); exact q3 k v g1
  case tup cs => cases hr with | tup _ vs q1 q2 => refine .tup _ vs (by simpa using q1) (fun k u hu => ?_); obtain ⟨v, g1, rfl⟩ := hmap hu; exact h1 _ _ (q2 k v g1)
  case fn f cs => cases hr with | fn _ _ vs q1 q2 => refine .fn f _ vs (by simpa using q1) (fun k u hu => ?_); obtain ⟨v, g1, rfl⟩ := hmap hu; exact h1 _ _ (q2 k v g1)
  all_goals exact h1 _ _ hr
 have split : ∀ (k : Nat) x, (aQ os h os)[k]? = some x -> x = .dead ∨ ∃ o ob, os[k]? = some o /\ h[o]? = some ob /\ x = d9 os ob := fun k x hx => by
  rw [fI] at hx;cases ho : os[k]? with
  | none => rw [ho] at hx; cases hx
  | some o =>
    rw [ho] at hx;simp only [qao, Option.some.injEq] at hx;cases hob : h[o]? with
    | none => rw [hob] at hx; exact .inl hx.symm
    | some ob => rw [hob] at hx; exact .inr ⟨o, ob, rfl, hob, hx.symm⟩
 have alk : ∀ {y : Ob} {q : Pl}, (d9 os y).alive q -> y.alive q := fun {y q} ha => by cases y <;> exact ha
 refine ⟨⟨⟨fun k x hx => ?_, fun i j x y hx ax hy ay hb => ?_, fun k x hx ax => ?_, hs.hh.cl⟩, fun i v hi => ?_, hs.hn⟩, fun b ⟨k, x, hx, ax, hb⟩ => ?_⟩
 ·rcases split k x hx with rfl | ⟨o, ob, ho, hob, rfl⟩
  ·trivial
  ·simp only [ho];have := hs.hh.obs o ob hob;cases ob with
   | dead => trivial
   | box cs =>
     obtain ⟨vs, ty, e1, e2, e3⟩ := this;refine ⟨vs, ty, e1, by simpa using e2, fun k v hv => ?_⟩
     obtain ⟨u, g1, rfl⟩ := hmap hv;exact ⟨h1 _ _ (e3 k u g1).1, (e3 k u g1).2⟩
   | arr cs => exact this
   | sl ty m n es => cases n <;> exact this
   | mp kvs => exact this
   | iter ty rem cur => exact this
 ·rcases split i x hx with rfl | ⟨o, ob, ho, hob, rfl⟩
  ·exact ax.elim
  ·rcases split j y hy with rfl | ⟨o', ob', ho', hob', rfl⟩
   ·exact ay.elim
   ·simp only [ho, ho'] at ax ay hb;have := hs.hh.sep o o' ob ob' hob (alk ax) hob' (alk ay) hb;subst this;exact nY hn i j o ho ho'
 ·rcases split k x hx with rfl | ⟨o, ob, ho, hob, rfl⟩
  ·exact ax.elim
  ·simp only [ho] at ax ⊢;exact hs.hh.nI o ob hob (alk ax)
 ·have gs : ∀ l : List Nat, get (eV os e l) i = some v -> ∃ u, (get e i = some u /\ v = eU os u) ∨ v = .bot := fun l => by
   induction l with
   | nil => intro hq; cases hq
   | cons x r ih =>
     intro hq;simp only [eV, get] at hq;cases hb : qc x i with
     | true =>
       rw [hb] at hq;have := qd hb;subst this;simp only [cond_true, Option.some.injEq] at hq;cases hg : get e x with
       | none => rw [hg] at hq; exact ⟨.bot, .inr hq.symm⟩
       | some u => rw [hg] at hq; exact ⟨u, .inl ⟨rfl, hq.symm⟩⟩
     | false => rw [hb] at hq; exact ih hq
  obtain ⟨u, ⟨g1, rfl⟩ | rfl⟩ := gs ks hi
  ·have := hs.he i u g1;cases u with
   | spec j wt u => exact LRel.bot _
   | own o =>
     have h3 := h2 _ _ this;simp only [eU, bM] at h3 ⊢;cases hq : idx o os 0 <;> rw [hq] at h3 <;> exact h3
   | sub o x y =>
     have h3 := h2 _ _ this;simp only [eU, bM] at h3 ⊢;cases hq : idx o os 0 <;> rw [hq] at h3 <;> exact h3
   | elt o x y =>
     have h3 := h2 _ _ this;simp only [eU, bM] at h3 ⊢;cases hq : idx o os 0 <;> rw [hq] at h3 <;> exact h3
   | box o x =>
     have h3 := h2 _ _ this;simp only [eU, bM] at h3 ⊢;cases hq : idx o os 0 <;> rw [hq] at h3 <;> exact h3
   | mp o =>
     have h3 := h2 _ _ this;simp only [eU, bM] at h3 ⊢;cases hq : idx o os 0 <;> rw [hq] at h3 <;> exact h3
   | it o =>
     have h3 := h2 _ _ this;simp only [eU, bM] at h3 ⊢;cases hq : idx o os 0 <;> rw [hq] at h3 <;> exact h3
   | bot => exact h2 _ _ this
   | pv p => exact h2 _ _ this
   | agg cs => exact h2 _ _ this
   | tup cs => exact h2 _ _ this
   | fn f cs => exact h2 _ _ this
  ·exact LRel.bot _
 ·rcases split k x hx with rfl | ⟨o, ob, ho, hob, rfl⟩
  ·exact ax.elim
  ·simp only [ho] at ax hb;exact ⟨o, ob, hob, alk ax, hb⟩

end Go.Eng
