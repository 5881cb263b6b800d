/- States run over the code: what each function gives, and what follows. -/
import Derived.Test.YtphaoidnieibdaaEnga
open Go.IntKind (i64 i32)
open Go.Result renaming andThen_ok → qa
open Bool renaming and_eq_true → qc, not_eq_true' → qp, false_eq_true → qu, or_eq_true → qae, cond_eq_ite → qaj, true_and → qaz, not_true → qcj
open Go.Sem renaming run_pure → qd, run_bind → qe, run_ite → qar
open List renaming getElem?_eq_getElem → qf, getElem?_map → qm, getElem?_append_left → qn, getElem?_drop → qr, getElem?_take → qv, getD_eq_getElem?_getD → qw, getElem?_append_right → qaa, mem_of_getElem? → qab, getElem?_set_ne → qac, getElem?_cons_succ → qad, getD → qaf, length_take → qai, map_cons → qak, replicate → qan, getElem?_cons_zero → qap, getElem?_set → qaq, getElem?_eq_none → qas, getElem_of_mem → qat, range' → qaw, setIfInBounds_toArray → qba, all_eq_true → qbc, length_cons → qbd, range'_succ → qbe, length_drop → qbf, eraseIdx_cons_succ → qbh, length_nil → qbi, length_map → qbj, forIn_cons → qbk, append_nil → qbl, getElem_cons_succ → qbn, getElem?_eraseIdx → qbo, length_eraseIdx → qbr, mem_cons → qbs, take_succ_cons → qbt, getD_cons_zero → qbu, length_append → qbw, filter_cons → qcd, any_eq_true → qce, nodup_cons → qcf, range → qcg, mapM_cons → qch, drop_zero → qci
open Array renaming getD_eq_getD_getElem? → qg, getElem?_eq_getElem → qx, getD → qy, replicate → qag, getElem?_setIfInBounds → qah, toList_filter → qau, getElem?_append_left → qbb, getElem?_extract → qbm, getElem?_modify → qbp, getElem?_push → qbv
open Nat renaming eq_of_beq_eq_true → qh, le_refl → qi, beq → qk, le_of_ble_eq_true → qq, zero_add → qt, sub_zero → qz, ne_of_lt → qam, ble → qao, add_mul → qav, lt_of_lt_of_le → qax, add_assoc → qay, mul_le_mul_right → qbq, beq_refl → qbx, sub_self → qby, zero_mul → qbz, add_sub_cancel → qca, lt_trichotomy → qcb, zero_le → qcc
open Option renaming map_some → qj, getD_some → ql, getD_none → qo, map_none → qal, bind_some → qbg
set_option linter.unusedVariables false
set_option linter.unusedSimpArgs false
namespace Go.Eng
open Go
variable {P : Program} {w : World} {I : Nat -> Prop} {G : Nat -> Pl} {h : Hp} {e : Env} {o : Oper} {t : TypeId} {K : Kt} {cv : Value} {a : Act}
def map1 (f : Nat -> Option Nat) : LV -> LV
 | .pv v => .pv v
 | .own o => match f o with | some k => .own k | none => .bot
 | .sub o a b => match f o with | some k => .sub k a b | none => .bot
 | .elt o i off => match f o with | some k => .elt k i off | none => .bot
 | .box o off => match f o with | some k => .box k off | none => .bot
 | .mp o => match f o with | some k => .mp k | none => .bot
 | .it o => match f o with | some k => .it k | none => .bot
 | _ => .bot
def mapV (f : Nat -> Option Nat) : LV -> LV
 | .agg cs => .agg (cs.map (map1 f))
 | .tup cs => .tup (cs.map (map1 f))
 | .fn g cs => .fn g (cs.map (map1 f))
 | .spec j w v => .spec j w (match v with
   | .agg cs => .agg (cs.map (map1 f))
   | .tup cs => .tup (cs.map (map1 f))
   | .fn g cs => .fn g (cs.map (map1 f))
   | v => map1 f v)
 | v => map1 f v
def mapO (f : Nat -> Option Nat) : Ob -> Ob
 | .box cs => .box (cs.map (map1 f))
 | ob => ob
def mapE (f : Nat -> Option Nat) : Env -> Env
 | [] => []
 | (i, v) :: r => (i, mapV f v) :: mapE f r
theorem sM (f : Nat -> Option Nat) (i : Nat) : ∀ e : Env, get (mapE f e) i = (get e i).map (mapV f)
 | [] => rfl
 | (k, v) :: r => by
   simp only [mapE, get];cases h : qk k i
   ·exact sM f i r
   ·rfl
def Ren (f : Nat -> Option Nat) (G : Nat -> Pl) (h : Hp) (G' : Nat -> Pl) (h' : Hp) : Prop :=
 ∀ (o k : Nat) ob, f o = some k -> h[o]? = some ob -> ob ≠ .dead -> ∃ ob', h'[k]? = some ob' /\ ob.like ob' /\ G' k = G o
theorem jT {α β : Type} {f : α -> β} {cs : List α} {k : Nat} {u : β} (hk : (cs.map f)[k]? = some u) : ∃ v, cs[k]? = some v /\ u = f v := by
 rw [qm] at hk;cases hc : cs[k]? with
 | none => rw [hc] at hk; cases hk
 | some v => rw [hc] at hk; cases hk; exact ⟨v, rfl, rfl⟩
section
variable {w w' : World} {I I' : Nat -> Prop} {G G' : Nat -> Pl} {h h' : Hp} {f : Nat -> Option Nat}
theorem LRel.map1 (hf : Ren f G h G' h') (hk : Keeps w I w' I') {v : LV} {cv : Value} (hr : LRel w I G h v cv) : LRel w' I' G' h' (Eng.map1 f v) cv := by
 cases hr with
 | bot => exact .bot _
 | pv p _ q => exact .pv _ _ (q.mono hk.1 hk.2)
 | ownNil o ty m es q =>
   simp only [Eng.map1];cases hi : f o with
   | none => exact .bot _
   | some k =>
     obtain ⟨ob', e1, e2, e3⟩ := hf o k _ hi q (by simp);cases ob' <;> simp [Ob.like] at e2;obtain ⟨rfl, rfl, _⟩ := e2;exact .ownNil k _ _ _ e1
 | own o ty m es ad q0 q =>
   simp only [Eng.map1];cases hi : f o with
   | none => exact .bot _
   | some k =>
     obtain ⟨ob', e1, e2, e3⟩ := hf o k _ hi q (by simp);cases ob' <;> simp [Ob.like] at e2;obtain ⟨rfl, rfl, e2⟩ := e2;rw [e2, <- e3];exact .own k _ _ _ ad (e3 ▸ q0) e1
 | subNil o x y ty m es q q2 =>
   simp only [Eng.map1];cases hi : f o with
   | none => exact .bot _
   | some k =>
     obtain ⟨ob', e1, e2, e3⟩ := hf o k _ hi q (by simp);cases ob' <;> simp [Ob.like] at e2;obtain ⟨rfl, rfl, _⟩ := e2;exact .subNil k x y _ _ _ e1 q2
 | sub o x y cap ad ty m es q q2 q3 q4 q5 =>
   simp only [Eng.map1];cases hi : f o with
   | none => exact .bot _
   | some k =>
     obtain ⟨ob', e1, e2, e3⟩ := hf o k _ hi q (by simp);cases ob' <;> simp [Ob.like] at e2;obtain ⟨rfl, rfl, e2⟩ := e2;exact .sub k x y cap ad _ _ _ e1 q2 (e2 ▸ q3) q4 (e3 ▸ q5)
 | elt o x y ty m es q q2 =>
   simp only [Eng.map1];cases hi : f o with
   | none => exact .bot _
   | some k =>
     obtain ⟨ob', e1, e2, e3⟩ := hf o k _ hi q (by simp);cases ob' <;> simp [Ob.like] at e2;obtain ⟨rfl, rfl, e2⟩ := e2;rw [<- e3];exact .elt k x y _ _ _ e1 (e2 ▸ q2)
 | box o x cs q =>
   simp only [Eng.map1];cases hi : f o with
   | none => exact .bot _
   | some k =>
     obtain ⟨ob', e1, e2, e3⟩ := hf o k _ hi q (by simp);cases ob' <;> simp [Ob.like] at e2;rw [<- e3];exact .box k x _ e1
 | arr o x cs q =>
   simp only [Eng.map1];cases hi : f o with
   | none => exact .bot _
   | some k =>
     obtain ⟨ob', e1, e2, e3⟩ := hf o k _ hi q (by simp);cases ob' <;> simp [Ob.like] at e2;rw [<- e3];exact .arr k x _ e1
 | agg => exact .bot _
 | tup => exact .bot _
 | fn => exact .bot _
 | mp o kvs q =>
   simp only [Eng.map1];cases hi : f o with
   | none => exact .bot _
   | some k =>
     obtain ⟨ob', e1, e2, e3⟩ := hf o k _ hi q (by simp);cases ob' <;> simp [Ob.like] at e2;rw [<- e3];exact .mp k _ e1
 | iter o ty rem cur q =>
   simp only [Eng.map1];cases hi : f o with
   | none => exact .bot _
   | some k =>
     obtain ⟨ob', e1, e2, e3⟩ := hf o k _ hi q (by simp);cases ob' <;> simp [Ob.like] at e2;rw [<- e3];exact .iter k _ _ _ e1
theorem LRel.mapV (hf : Ren f G h G' h') (hk : Keeps w I w' I') {v : LV} {cv : Value} (hr : LRel w I G h v cv) : LRel w' I' G' h' (Eng.mapV f v) cv := by
 cases v
 case agg cs => cases hr with | agg _ vs q1 q2 q3 => refine .agg _ vs (by simpa using q1) (fun k u hu => ?_) (fun k u hu => ?_) <;> obtain ⟨v, g1, rfl⟩ := jT hu; exact (q2 k v g1).map1 hf hk; exact q3 k v g1
 case tup cs => cases hr with | tup _ vs q1 q2 => refine .tup _ vs (by simpa using q1) (fun k u hu => ?_); obtain ⟨v, g1, rfl⟩ := jT hu; exact (q2 k v g1).map1 hf hk
 case fn g cs => cases hr with | fn _ _ vs q1 q2 => refine .fn g _ vs (by simpa using q1) (fun k u hu => ?_); obtain ⟨v, g1, rfl⟩ := jT hu; exact (q2 k v g1).map1 hf hk
 case spec => cases hr
 all_goals exact hr.map1 hf hk
theorem VRel.of_plain {tm : Array Value} {v : LV} (hr : LRel w I G h v cv) : VRel w I G h tm v cv := by
 cases v <;> first | exact hr | cases hr
theorem sN (f : Nat -> Option Nat) (v : LV) : (match v with
 | .agg cs => LV.agg (cs.map (Eng.map1 f))
 | .tup cs => .tup (cs.map (Eng.map1 f))
 | .fn g cs => .fn g (cs.map (Eng.map1 f))
 | v => Eng.map1 f v) = Eng.mapV f v ∨ ∃ j w u, v = .spec j w u := by
 cases v <;> first | exact .inl rfl | exact .inr ⟨_, _, _, rfl⟩
theorem ERel.mapE {tm : Array Value} (hf : Ren f G h G' h') (hk : Keeps w I w' I') (he : ERel w I G h e tm) : ERel w' I' G' h' (Eng.mapE f e) tm := by
 intro i v hi;rw [sM] at hi;cases hg : get e i with
 | none => rw [hg] at hi; cases hi
 | some u =>
   rw [hg] at hi;simp only [qj, Option.some.injEq] at hi;subst hi;have := he i u hg;cases u
   case spec j wt u =>
    simp only [Eng.mapV];refine ⟨fun ht => ?_, this.2⟩;have h1 := this.1 ht;rcases sN f u with hm | ⟨_, _, _, rfl⟩
    ·rw [hm]; exact h1.mapV hf hk
    ·cases h1
   all_goals exact VRel.of_plain (LRel.mapV hf hk this)
theorem ORel.mapO {p : Pl} (hf : Ren f G h G' h') (hk : Keeps w I w' I') {ob : Ob} (hb : ob.alive p -> w'.heap[p.blk]? = w.heap[p.blk]?) (ho : ORel w I G h p ob) : ORel w' I' G' h' p (Eng.mapO f ob) := by
 cases ob with
 | dead => trivial
 | box cs =>
   obtain ⟨vs, ty, e1, e2, e3⟩ := ho;refine ⟨vs, ty, by rw [hb trivial]; exact e1, by simpa using e2, fun k v hv => ?_⟩
   obtain ⟨u, g1, rfl⟩ := jT hv;exact ⟨(e3 k u g1).1.map1 hf hk, (e3 k u g1).2⟩
 | arr cs => obtain ⟨vs, ty, e1, e2, e3⟩ := ho; exact ⟨vs, ty, by rw [hb trivial]; exact e1, e2, fun k v hv => ⟨(e3 k v hv).1.mono hk.1 hk.2, (e3 k v hv).2⟩⟩
 | sl ty m n es =>
   cases n with
   | true => exact ho
   | false =>
     obtain ⟨e1, e2, e3, e3', e4, e5⟩ := ho;refine ⟨e1, e2, e3, e3', e4, fun hc => ?_⟩;obtain ⟨vs, f1, f2, f3⟩ := e5 hc;exact ⟨vs, by rw [hb ⟨rfl, hc⟩]; exact f1, f2, fun i' e he k v hv => ⟨(f3 i' e he k v hv).1.mono hk.1 hk.2, (f3 i' e he k v hv).2⟩⟩
 | mp kvs => obtain ⟨es, ck, e1, e2, e3⟩ := ho; exact ⟨es, ck, by rw [hb trivial]; exact e1, e2, fun k kv hv => ⟨(e3 k kv hv).1.mono hk.1 hk.2, (e3 k kv hv).2.mono hk.1 hk.2⟩⟩
 | iter ty rem cur => exact IterRel.mono ho (hb trivial) hk
end
theorem nZ {f : Nat -> Option Nat} {ob : Ob} {p : Pl} : (mapO f ob).alive p ↔ ob.alive p := by cases ob <;> exact Iff.rfl
theorem y5 {f : Nat -> Option Nat} {ob : Ob} : (mapO f ob).fixed = ob.fixed := by cases ob <;> rfl

def jU : LV -> Option Nat
 | .own o => some o
 | .sub o _ _ => some o
 | .elt o _ _ => some o
 | .box o _ => some o
 | .mp o => some o
 | .it o => some o
 | _ => none
def jV : LV -> List Nat
 | .agg cs => cs.filterMap jU
 | .tup cs => cs.filterMap jU
 | .fn _ cs => cs.filterMap jU
 | v => match jU v with | some o => [o] | none => []
def cI (o : Nat) : List Nat -> Bool
 | [] => false
 | x :: r => qk x o || cI o r
def jW : List Nat -> List Nat -> List Nat
 | [], acc => acc
 | o :: r, acc => bif cI o acc then jW r acc else jW r (acc ++ [o])
def y6 (h : Hp) (o : Nat) : List Nat := match h[o]? with | some (.box cs) => cs.filterMap jU | _ => []
def oA (h : Hp) : Nat -> List Nat -> List Nat
 | 0, os => os
 | n + 1, os => oA h n (jW (os.flatMap (y6 h)) os)
def aP (h : Hp) (vs : List LV) : List Nat := oA h 3 (jW (vs.flatMap jV) [])

def eW : Ob -> Ob
 | .sl ty _ n es => .sl ty false n es
 | ob => ob
def unm : Hp -> Hp
 | [] => []
 | ob :: r => eW ob :: unm r
def jX : Option Ob -> Bool
 | some (.sl _ m _ _) => m
 | _ => false
def rem (m : Bool) : Ob -> Ob
 | .sl ty m' n es => .sl ty (m || m') n es
 | ob => ob
theorem hO : ∀ {h : Hp} (i : Nat), (unm h)[i]? = (h[i]?).map eW
 | [], i => by simp [unm]
 | ob :: r, 0 => by simp [unm]
 | ob :: r, i + 1 => by simp [unm, hO (h := r) i]
theorem unm_length : ∀ {h : Hp}, (unm h).length = h.length
 | [] => rfl
 | ob :: r => by simp [unm, unm_length (h := r)]
theorem y7 (ob : Ob) : ob.like (eW ob) := by cases ob <;> simp [eW, Ob.like]
theorem hU {ob : Ob} {p : Pl} : (eW ob).alive p ↔ ob.alive p := by cases ob <;> exact Iff.rfl
theorem oB (hh : HRel w I G h) : HRel w I G (unm h) /\ (∀ b, aD (unm h) G b ↔ aD h G b) /\ Like G G h (unm h) := by
 have hl : Like G G h (unm h) := fun o ob ho => ⟨⟨_, by rw [hO, ho]; rfl, y7 ob⟩, fun _ => rfl⟩
 have split : ∀ {i : Nat} {x : Ob}, (unm h)[i]? = some x -> ∃ ob, h[i]? = some ob /\ x = eW ob := fun {i x} hx => by
  rw [hO] at hx;cases hob : h[i]? with
  | none => rw [hob] at hx; cases hx
  | some ob => rw [hob] at hx; cases hx; exact ⟨ob, rfl, rfl⟩
 refine ⟨⟨fun i x hx => ?_, fun i j x y hx ax hy ay hb => ?_, fun i x hx ax => ?_, hh.cl⟩, fun b => ⟨fun ⟨i, x, hx, ax, hb⟩ => ?_, fun ⟨i, x, hx, ax, hb⟩ => ?_⟩, hl⟩
 ·obtain ⟨ob, hob, rfl⟩ := split hx;have := hh.obs i ob hob;cases ob with
  | dead => trivial
  | box cs => obtain ⟨vs, ty, e1, e2, e3⟩ := this; exact ⟨vs, ty, e1, e2, fun k v hv => ⟨(e3 k v hv).1.mono (Keeps.refl w I) hl, (e3 k v hv).2⟩⟩
  | arr cs => exact this
  | sl ty m n es => cases n <;> exact this
  | mp kvs => exact this
  | iter ty rem cur => exact this
 ·obtain ⟨ob, hob, rfl⟩ := split hx;obtain ⟨ob2, hob2, rfl⟩ := split hy;exact hh.sep i j ob ob2 hob (hU.1 ax) hob2 (hU.1 ay) hb
 ·obtain ⟨ob, hob, rfl⟩ := split hx;exact hh.nI i ob hob (hU.1 ax)
 ·obtain ⟨ob, hob, rfl⟩ := split hx;exact ⟨i, ob, hob, hU.1 ax, hb⟩
 ·exact ⟨i, eW x, by rw [hO, hx]; rfl, hU.2 ax, hb⟩
theorem lU {m : Bool} {ob : Ob} {p : Pl} : (rem m ob).alive p ↔ ob.alive p := by cases ob <;> exact Iff.rfl
theorem y8 {p : Pl} {m : Bool} {ob : Ob} (hr : ORel w I G h p ob) : ORel w I G h p (rem m ob) := by
 cases ob with
 | sl ty m n es => cases n <;> exact hr
 | _ => exact hr
def cW (os : List Nat) (n : Nat) (k : Nat) : Option Nat := match os[k]? with | some o => some o | none => some (n + (k - os.length))
def keepK (h : Hp) (h' : Hp) (os : List Nat) (k : Nat) : Bool :=
 match os[k]? with
 | some o => match h[o]?, h'[k]? with
   | some (.sl _ _ _ _), some (.sl _ m' _ _) => !m'
   | some (.box _), some (.box _) => true
   | some (.arr _), some (.arr _) => true
   | some (.mp _), some (.mp _) => true
   | _, _ => false
 | none => false
def eX (h h' : Hp) (os : List Nat) (o : Nat) : Option Nat := match idx o os 0 with
 | some k => bif keepK h h' os k then some o else none
 | none => some o
def hY (h h' : Hp) (os : List Nat) : Nat -> Prop
 | 0 => True
 | k + 1 => (match os[k]? with
   | some o => match h[o]?, h'[k]? with
     | some (.sl ty _ n es), some (.sl ty' m' n' es') => bif !m' then ty = ty' /\ n = n' /\ es.length = es'.length else True
     | some (.sl _ true _ _), some .dead => True
     | some (.sl _ true _ _), some _ => False
     | _, _ => True
   | none => True) /\ hY h h' os k
def jY (h h' : Hp) (os : List Nat) (i : Nat) (ob : Ob) : Ob := match idx i os 0 with
 | some k => match h'[k]? with | some x => rem (jX (some ob)) (mapO (cW os h.length) x) | none => .dead
 | none => mapO (eX h h' os) ob
def fJ (h h' : Hp) (os : List Nat) : Nat -> List Ob -> List Ob
 | _, [] => []
 | i, ob :: r => jY h h' os i ob :: fJ h h' os (i + 1) r
def b9 (h h' : Hp) (os : List Nat) : Hp := fJ h h' os 0 h ++ (h'.drop os.length).map (mapO (cW os h.length))
def cO (G G' : Nat -> Pl) (h : Hp) (os : List Nat) (i : Nat) : Pl := match idx i os 0 with
 | some k => G' k
 | none => if i < h.length then G i else G' (os.length + (i - h.length))
theorem sO {h h' : Hp} {os : List Nat} : ∀ {l : List Ob} {i j : Nat}, (fJ h h' os i l)[j]? = (l[j]?).map (jY h h' os (i + j))
 | [], i, j => by simp [fJ]
 | ob :: r, i, 0 => by simp [fJ]
 | ob :: r, i, j + 1 => by
   simp only [fJ, qad];rw [sO (l := r) (i := i + 1) (j := j), show i + 1 + j = i + (j + 1) by omega]
theorem jZ {h h' : Hp} {os : List Nat} : ∀ {l : List Ob} {i : Nat}, (fJ h h' os i l).length = l.length
 | [], i => rfl
 | ob :: r, i => by simp [fJ, jZ (l := r)]
theorem oC {h h' : Hp} {os : List Nat} (i : Nat) : (b9 h h' os)[i]? = if i < h.length then (h[i]?).map (jY h h' os i) else (h'[os.length + (i - h.length)]?).map (mapO (cW os h.length)) := by
 unfold b9;by_cases hi : i < h.length
 ·rw [if_pos hi, qn (by rw [jZ]; exact hi), sO, qt]
 ·rw [if_neg hi, qaa (by rw [jZ]; omega), jZ, qm, qr]
theorem oD {o : Nat} : ∀ {os : List Nat} {k0 : Nat}, idx o os k0 = none -> ∀ (k : Nat), os[k]? ≠ some o
 | [], k0, h, k => by simp
 | x :: r, k0, h, k => by
   simp only [idx] at h;cases hb : qk x o with
   | true => rw [hb] at h; cases h
   | false =>
     rw [hb] at h;cases k with
     | zero => intro e; simp at e; subst e; simp at hb
     | succ k => simpa using oD (os := r) h k
theorem sP {os : List Nat} (hn : bX os = true) {o k : Nat} (hk : os[k]? = some o) : idx o os 0 = some k := by
 cases hi : idx o os 0 with
 | none => exact absurd hk (oD hi k)
 | some j =>
   obtain ⟨_, h2⟩ := gH hi;rw [qz] at h2;rw [nY hn j k o h2 hk]
theorem y9 {w w' : World} {I I' : Nat -> Prop} {G G' : Nat -> Pl} {h h' : Hp} {os : List Nat} (hh : HRel w I G h) (hn : bX os = true) (hlt : ∀ o ∈ os, o < h.length)
 {Gs : Nat -> Pl} (hGs : ∀ (k o : Nat), os[k]? = some o -> Gs k = G o) (hh' : HRel w' I' G' h') (ht : TrH w I Gs (unm (aQ os h os)) w' I' G' h') (hkp : hY h h' os os.length) :
 HRel w' I' (cO G G' h os) (b9 h h' os) /\ TrH w I G h w' I' (cO G G' h os) (b9 h h' os) /\ Ren (eX h h' os) G h (cO G G' h os) (b9 h h' os) /\ Ren (cW os h.length) G' h' (cO G G' h os) (b9 h h' os) /\ Keeps w I w' I' := by
 have hsl : (aQ os h os).length = os.length := by
  have : ∀ l : List Nat, (aQ os h l).length = l.length := fun l => by induction l with | nil => rfl | cons x r ih => simp [aQ, ih]
  exact this os
 have hsl' : (unm (aQ os h os)).length = os.length := unm_length.trans hsl;have hlen : os.length <= h'.length := hsl' ▸ ht.len
 have hsub : ∀ {k : Nat} {x : Ob}, (aQ os h os)[k]? = some x -> ∃ o, os[k]? = some o /\ ((∃ ob, h[o]? = some ob /\ x = d9 os ob) ∨ x = .dead) := fun {k x} hx => by
  rw [fI] at hx;cases ho : os[k]? with
  | none => rw [ho] at hx; cases hx
  | some o =>
    rw [ho] at hx;simp only [qj, Option.some.injEq] at hx;cases hob : h[o]? with
    | none => rw [hob] at hx; exact ⟨o, rfl, .inr hx.symm⟩
    | some ob => rw [hob] at hx; exact ⟨o, rfl, .inl ⟨ob, hob, hx.symm⟩⟩
 have alk : ∀ {y : Ob} {q : Pl}, (d9 os y).alive q -> y.alive q := fun {y q} ha => by cases y <;> exact ha
 -- the blocks of the objects given
 have ownS : ∀ {b}, aD (unm (aQ os h os)) Gs b -> ∃ (o : Nat) (ob : Ob), o ∈ os /\ h[o]? = some ob /\ ob.alive (G o) /\ (G o).blk = b := fun {b} ⟨k, x0, hx0, ax, hb⟩ => by
  rw [hO] at hx0
  obtain ⟨x, hx, rfl⟩ : ∃ x, (aQ os h os)[k]? = some x /\ x0 = eW x := by
   cases hq : (aQ os h os)[k]? with
   | none => rw [hq] at hx0; cases hx0
   | some x => rw [hq] at hx0; cases hx0; exact ⟨x, rfl, rfl⟩
  rw [hU] at ax;obtain ⟨o, ho, ⟨ob, hob, rfl⟩ | rfl⟩ := hsub hx
  ·rw [hGs k o ho] at ax hb;exact ⟨o, ob, qab ho, hob, alk ax, hb⟩
  ·exact ax.elim
 have ownT : ∀ {b}, aD (unm (aQ os h os)) Gs b -> aD h G b := fun {b} hx => by
  obtain ⟨o, ob, _, hob, ha, hb⟩ := ownS hx;exact ⟨o, ob, hob, ha, hb⟩
 have frame : ∀ {i : Nat} {ob : Ob}, idx i os 0 = none -> h[i]? = some ob -> ob.alive (G i) -> w'.heap[(G i).blk]? = w.heap[(G i).blk]? /\ ¬ aD h' G' (G i).blk /\ ¬ I' (G i).blk := fun {i ob} hi hob ha => by
  have hlt' := hh.blk_lt ⟨i, ob, hob, ha, rfl⟩
  have hno : ¬ aD (unm (aQ os h os)) Gs (G i).blk := fun hx => by
   obtain ⟨o, ob', ho, hob', ha', hb⟩ := ownS hx;have := hh.sep o i ob' ob hob' ha' hob ha hb;subst this;obtain ⟨k, hk⟩ := List.mem_iff_getElem?.1 ho;exact oD hi k hk
  refine ⟨ht.t.keep _ hlt' hno, fun hx => (ht.t.own2 _ hx).elim hno (fun h => by omega), fun hx => (ht.t.i2 _ hx).elim (hh.nI i ob hob ha) (fun h => h.elim hno (fun h => by omega))⟩
 have hK : Keeps w I w' I' := ⟨fun b hb hbs => ht.t.keep b hbs fun hx => by
  obtain ⟨o, ob', ho, hob', ha', rfl⟩ := ownS hx
  exact hh.nI o ob' hob' ha' hb, fun b hb _ => ht.t.i1 b hb⟩
 have gk : ∀ {k o : Nat}, os[k]? = some o -> cO G G' h os o = G' k := fun {k o} hk => by simp [cO, sP hn hk]
 have gn : ∀ {k : Nat}, os.length <= k -> cO G G' h os (h.length + (k - os.length)) = G' k := fun {k} hk => by
  have : idx (h.length + (k - os.length)) os 0 = none := by
   cases hi : idx (h.length + (k - os.length)) os 0 with
   | none => rfl
   | some j =>
     obtain ⟨_, h2⟩ := gH hi;have := hlt _ (qab h2);omega
  simp only [cO, this];rw [if_neg (by omega), show os.length + (h.length + (k - os.length) - h.length) = k by omega]
 have gf : ∀ {i : Nat}, idx i os 0 = none -> i < h.length -> cO G G' h os i = G i := fun {i} hi hl => by simp [cO, hi, hl]
 have mk : ∀ {k o : Nat}, os[k]? = some o -> (b9 h h' os)[o]? = (h'[k]?).map (fun x => rem (jX h[o]?) (mapO (cW os h.length) x)) := fun {k o} hk => by
  have hol := hlt o (qab hk);have hkl := (List.getElem?_eq_some_iff.1 hk).1;rw [oC, if_pos hol, qf hol, qf (by omega)];simp [jY, sP hn hk, qf (show k < h'.length by omega)]
 have mn : ∀ {k : Nat}, os.length <= k -> (b9 h h' os)[h.length + (k - os.length)]? = (h'[k]?).map (mapO (cW os h.length)) := fun {k} hk => by
  rw [oC, if_neg (by omega), show os.length + (h.length + (k - os.length) - h.length) = k by omega]
 have mf : ∀ {i : Nat}, idx i os 0 = none -> i < h.length -> (b9 h h' os)[i]? = (h[i]?).map (mapO (eX h h' os)) := fun {i} hi hl => by
  rw [oC, if_pos hl];cases hx : h[i]? with
  | none => rfl
  | some x => simp [jY, hi]
 have rB : Ren (cW os h.length) G' h' (cO G G' h os) (b9 h h' os) := fun k o ob hk hob _ => by
  unfold cW at hk;cases ho : os[k]? with
  | some o' =>
    rw [ho] at hk; cases hk;exact ⟨_, by rw [mk ho, hob]; rfl, by cases ob <;> simp [mapO, rem, Ob.like], gk ho⟩
  | none =>
    rw [ho] at hk; cases hk;have hge : os.length <= k := by rw [List.getElem?_eq_none_iff] at ho; exact ho
    exact ⟨_, by rw [mn hge, hob]; rfl, by cases ob <;> simp [mapO, Ob.like], gn hge⟩
 have kp : ∀ {n : Nat}, hY h h' os n -> ∀ k, k < n -> (match os[k]? with
  | some o => match h[o]?, h'[k]? with
    | some (.sl ty _ n es), some (.sl ty' m' n' es') => bif !m' then ty = ty' /\ n = n' /\ es.length = es'.length else True
    | some (.sl _ true _ _), some .dead => True
    | some (.sl _ true _ _), some _ => False
    | _, _ => True
  | none => True) := fun {n} => by
  induction n with
  | zero => intro _ k hk; omega
  | succ n ih =>
    intro h1 k hk;by_cases hkn : k = n
    ·subst hkn; exact h1.1
    ·exact ih h1.2 k (by omega)
 have rF : Ren (eX h h' os) G h (cO G G' h os) (b9 h h' os) := fun o k ob hk hob hd => by
  unfold eX at hk;have hol := (List.getElem?_eq_some_iff.1 hob).1;cases hi : idx o os 0 with
  | none =>
    rw [hi] at hk; cases hk;exact ⟨_, by rw [mf hi hol, hob]; rfl, by cases ob <;> simp [mapO, Ob.like], gf hi hol⟩
  | some j =>
    rw [hi] at hk;obtain ⟨_, hj⟩ := gH hi;rw [qz] at hj;have hjl := (List.getElem?_eq_some_iff.1 hj).1;cases hkk : keepK h h' os j with
    | false => simp only [hkk, cond_false] at hk; cases hk
    | true =>
      simp only [hkk, cond_true, Option.some.injEq] at hk;subst hk;have hq := kp hkp j hjl;unfold keepK at hkk;simp only [hj, hob] at hkk hq;have hx := mk hj;have hst := fun x (h1 : h'[j]? = some x) (h2 : x.fixed = true) => (ht.stay j x (by rw [hsl']; exact hjl) h1 h2).1;cases hob' : h'[j]? with
      | none => rw [hob'] at hkk; split at hkk <;> first | (rename_i hq1 hq2; cases hq2) | cases hkk
      | some x =>
        rw [hob'] at hkk hq hx
        have fin : x.fixed = true -> ob.like (rem (jX h[o]?) (mapO (cW os h.length) x)) -> ∃ ob', (b9 h h' os)[o]? = some ob' /\ ob.like ob' /\ cO G G' h os o = G o := fun h1 h2 =>
         ⟨_, hx, h2, by rw [gk hj, hst x hob' h1, hGs j o hj]⟩
        cases ob <;> cases x <;> simp at hkk
        ·exact fin rfl trivial
        ·exact fin rfl trivial
        ·rename_i ty m n es ty' m' n' es';simp only [hkk, Bool.not_false, cond_true] at hq;exact fin (by simp [Ob.fixed, hkk]) hq
        ·exact fin rfl trivial
 have cases3 : ∀ {i : Nat} {x : Ob}, (b9 h h' os)[i]? = some x -> (∃ ob, idx i os 0 = none /\ i < h.length /\ h[i]? = some ob /\ x = mapO (eX h h' os) ob /\ cO G G' h os i = G i) ∨ (∃ (k : Nat) (y : Ob) (m : Bool), h'[k]? = some y /\ x = rem m (mapO (cW os h.length) y) /\ cO G G' h os i = G' k /\ ((os[k]? = some i /\ m = jX h[i]?) ∨ (os.length <= k /\ i = h.length + (k - os.length)))) := fun {i x} hx => by
  by_cases hl : i < h.length
  ·cases hi : idx i os 0 with
   | none =>
     rw [mf hi hl] at hx;cases hob : h[i]? with
     | none => rw [hob] at hx; cases hx
     | some ob => rw [hob] at hx; cases hx; exact .inl ⟨ob, rfl, hl, rfl, rfl, gf hi hl⟩
   | some k =>
     obtain ⟨_, hk⟩ := gH hi;rw [qz] at hk;rw [mk hk] at hx;cases hy : h'[k]? with
     | none => rw [hy] at hx; cases hx
     | some y => rw [hy] at hx; cases hx; exact .inr ⟨k, y, _, hy, rfl, gk hk, .inl ⟨hk, rfl⟩⟩
  ·obtain ⟨k, hk⟩ : ∃ k, k = os.length + (i - h.length) := ⟨_, rfl⟩;have hge : os.length <= k := by omega
   have hik : i = h.length + (k - os.length) := by omega
   have hx2 := hx;rw [hik, mn hge] at hx2;cases hy : h'[k]? with
   | none => rw [hy] at hx2; cases hx2
   | some y => rw [hy] at hx2; cases hx2; exact .inr ⟨k, y, false, hy, by cases mapO (cW os h.length) y <;> simp [rem], (congrArg _ hik).trans (gn hge), .inr ⟨hge, hik⟩⟩
 refine ⟨⟨fun i x hx => ?_, fun i j x y hx ax hy ay hb => ?_, fun i x hx ax => ?_, hh'.cl⟩, ⟨⟨ht.t.os, ht.t.tape, ht.t.output, ht.t.size, fun b hb hno => ht.t.keep b hb fun hx => hno (ownT hx), ht.t.i1, fun b hb => (ht.t.i2 b hb).imp id (fun q => q.imp ownT id), fun b hb => ?_, ht.t.frz, ht.t.drawn⟩, ?_, fun o ob' ho hx hf => ?_⟩, rF, rB, hK⟩
 ·rcases cases3 hx with ⟨ob, hi, hl, hob, rfl, hg⟩ | ⟨k, y, m, hy, rfl, hg, _⟩
  ·rw [hg];exact (hh.obs i ob hob).mapO rF hK fun ha => (frame hi hob ha).1
  ·rw [hg];exact y8 ((hh'.obs k y hy).mapO rB ⟨fun _ _ _ => rfl, fun _ x _ => x⟩ fun _ => rfl)
 ·rcases cases3 hx with ⟨ob, hi, hl, hob, rfl, hg⟩ | ⟨k, x', m, hx', rfl, hg, hk⟩ <;> rcases cases3 hy with ⟨ob2, hi2, hl2, hob2, rfl, hg2⟩ | ⟨k2, y', m2, hy', rfl, hg2, hk2⟩ <;> rw [hg] at ax hb <;> rw [hg2] at ay hb <;> (try rw [lU] at ax) <;> (try rw [lU] at ay) <;> rw [nZ] at ax ay
  ·exact hh.sep i j ob ob2 hob ax hob2 ay hb
  ·exact absurd ⟨k2, y', hy', ay, hb.symm⟩ (frame hi hob ax).2.1
  ·exact absurd ⟨k, x', hx', ax, hb⟩ (frame hi2 hob2 ay).2.1
  ·have := hh'.sep k k2 x' y' hx' ax hy' ay hb;subst this;rcases hk with ⟨hk, _⟩ | ⟨hk, rfl⟩ <;> rcases hk2 with ⟨hk2, _⟩ | ⟨hk2, rfl⟩
   ·rw [hk] at hk2; exact Option.some.inj hk2
   ·have := (List.getElem?_eq_some_iff.1 hk).1; omega
   ·have := (List.getElem?_eq_some_iff.1 hk2).1; omega
   ·rfl
 ·rcases cases3 hx with ⟨ob, hi, hl, hob, rfl, hg⟩ | ⟨k, y, m, hy, rfl, hg, _⟩ <;> rw [hg] at ax ⊢ <;> (try rw [lU] at ax) <;> rw [nZ] at ax
  ·exact (frame hi hob ax).2.2
  ·exact hh'.nI k y hy ax
 ·obtain ⟨i, x, hx, ax, hbb⟩ := hb;rcases cases3 hx with ⟨ob, hi, hl, hob, rfl, hg⟩ | ⟨k, y, m, hy, rfl, hg, _⟩ <;> rw [hg] at ax hbb <;> (try rw [lU] at ax) <;> rw [nZ] at ax
  ·exact .inl ⟨i, ob, hob, ax, hbb⟩
  ·rcases ht.t.own2 b ⟨k, y, hy, ax, hbb⟩ with hx | hx
   ·exact .inl (ownT hx)
   ·exact .inr hx
 ·unfold b9; rw [qbw, jZ]; omega
 ·rcases cases3 hx with ⟨ob, hi, hl, hob, rfl, hg⟩ | ⟨k, y, m, hy, rfl, hg, hk⟩
  ·exact ⟨hg, ob, hob, by rw [y5] at hf; exact hf⟩
  ·have hf2 : y.fixed = true /\ (∀ ty mm n es, y = .sl ty mm n es -> m = false) := by
    cases y with
    | sl ty mm n es =>
      simp only [mapO, rem, Ob.fixed, Bool.not_or, qc, qp] at hf ⊢;exact ⟨hf.2, fun _ _ _ _ _ => hf.1⟩
    | dead => cases hf
    | box => exact ⟨rfl, fun _ _ _ _ h => by cases h⟩
    | arr => exact ⟨rfl, fun _ _ _ _ h => by cases h⟩
    | mp => exact ⟨rfl, fun _ _ _ _ h => by cases h⟩
    | iter => exact ⟨rfl, fun _ _ _ _ h => by cases h⟩
   rcases hk with ⟨hk, hm⟩ | ⟨hk, rfl⟩
   ·have hkl := (List.getElem?_eq_some_iff.1 hk).1;obtain ⟨s1, ob0, s2, s3⟩ := ht.stay k y (by rw [hsl']; exact hkl) hy hf2.1;refine ⟨by rw [hg, s1, hGs k o hk], ?_⟩;rw [hO] at s2
    obtain ⟨x1, hx1, rfl⟩ : ∃ x, (aQ os h os)[k]? = some x /\ ob0 = eW x := by
     cases hq : (aQ os h os)[k]? with
     | none => rw [hq] at s2; cases s2
     | some x => rw [hq] at s2; cases s2; exact ⟨x, rfl, rfl⟩
    obtain ⟨o', ho', ⟨ob, hob, rfl⟩ | rfl⟩ := hsub hx1
    ·rw [hk] at ho'; cases ho';refine ⟨ob, hob, ?_⟩;cases ob with
     | dead => cases s3
     | sl ty mm n es =>
       simp only [hob, jX] at hm;cases mm with
       | false => rfl
       | true =>
         exfalso;have hq := kp hkp k hkl;simp only [hk, hob, hy] at hq;cases y with
         | sl ty' mm' n' es' => have := hf2.2 _ _ _ _ rfl; rw [hm] at this; cases this
         | dead => cases hf2.1
         | box => exact hq
         | arr => exact hq
         | mp => exact hq
         | iter => exact hq
     | _ => rfl
    ·cases s3
   ·omega

structure zA where
 τ : Type
 S : List LV -> Hp -> τ -> LV × Hp
structure HSpec where
 τ : Type
 S : List LV -> Hp -> τ -> LV × Hp
 alt : Option zA
def iA (h : Hp) (os : List Nat) : Bool := bX os && os.all (fun o => Nat.blt o h.length)
def lV (τ : Type) (S : List LV -> Hp -> τ -> LV × Hp) (e : Env) (h : Hp) (vs : List LV) (K : Kt) (r : LV) (h' : Hp) : Prop := ∃ t : τ,
 (r = (S (vs.map (mapV fun o => idx o (aP h vs) 0)) (unm (aQ (aP h vs) h (aP h vs))) t).1 /\ h' = (S (vs.map (mapV fun o => idx o (aP h vs) 0)) (unm (aQ (aP h vs) h (aP h vs))) t).2) /\
 hY h (S (vs.map (mapV fun o => idx o (aP h vs) 0)) (unm (aQ (aP h vs) h (aP h vs))) t).2 (aP h vs) (aP h vs).length /\
 K (mapV (cW (aP h vs) h.length) (S (vs.map (mapV fun o => idx o (aP h vs) 0)) (unm (aQ (aP h vs) h (aP h vs))) t).1)
  (mapE (eX h (S (vs.map (mapV fun o => idx o (aP h vs) 0)) (unm (aQ (aP h vs) h (aP h vs))) t).2 (aP h vs)) e)
  (b9 h (S (vs.map (mapV fun o => idx o (aP h vs) 0)) (unm (aQ (aP h vs) h (aP h vs))) t).2 (aP h vs))
def oE (P : Program) (sp : HSpec) (e : Env) (h : Hp) (f : Nat) (vs : List LV) (K : Kt) : Prop :=
 bif iA h (aP h vs) then
  ACall P f (vs.map (mapV fun o => idx o (aP h vs) 0)) (unm (aQ (aP h vs) h (aP h vs))) fun r h' => match sp.alt with
   | none => lV sp.τ sp.S e h vs K r h'
   | some a => lV sp.τ sp.S e h vs K r h' ∨ lV a.τ a.S e h vs K r h'
 else aA 2401
theorem sQ {os : List Nat} (hk : iA h os = true) : bX os = true /\ ∀ o ∈ os, o < h.length := by
 simp only [iA, qc, qbc] at hk;exact ⟨hk.1, fun o ho => by simpa using hk.2 o ho⟩
theorem lW {os : List Nat} : Ren (fun o => idx o os 0) G h (fun k => match os[k]? with | some o => G o | none => ⟨0, 0, 0, 0⟩) (aQ os h os) := fun o k ob hi hob _ => by
 obtain ⟨_, h2⟩ := gH hi;rw [qz] at h2;refine ⟨d9 os ob, by rw [fI, h2]; simp [hob], by cases ob <;> simp [d9, Ob.like], by simp [h2]⟩
theorem zB {c : Call} {fo : Operand} {u : LV} {f : Nat} {caps vs : List LV} {sp : HSpec} (ho : o.op = .call c) (hc : c.callee = .value fo) (hu : aF [] e fo = some u) (hf : c7 u = some (f, caps))
 (hv : cV [] e c.args.toList = some vs) (hK : oE P sp e h f (vs ++ caps) K) : OpS P o e h K := by
 unfold oE at hK;cases hos : iA h (aP h (vs ++ caps)) with
 | false => rw [hos] at hK; cases hK
 | true =>
   rw [hos] at hK;simp only [cond_true] at hK
   have hK : ∃ (X : LV -> Hp -> Prop), ACall P f ((vs ++ caps).map (mapV fun o => idx o (aP h (vs ++ caps)) 0)) (unm (aQ (aP h (vs ++ caps)) h (aP h (vs ++ caps)))) X /\ ∀ r h', X r h' ->
    hY h h' (aP h (vs ++ caps)) (aP h (vs ++ caps)).length /\ K (mapV (cW (aP h (vs ++ caps)) h.length) r) (mapE (eX h h' (aP h (vs ++ caps))) e) (b9 h h' (aP h (vs ++ caps))) := by
    have one : ∀ (τ : Type) (S : List LV -> Hp -> τ -> LV × Hp) r h', lV τ S e h (vs ++ caps) K r h' -> hY h h' (aP h (vs ++ caps)) (aP h (vs ++ caps)).length /\ K (mapV (cW (aP h (vs ++ caps)) h.length) r) (mapE (eX h h' (aP h (vs ++ caps))) e) (b9 h h' (aP h (vs ++ caps))) := fun τ S r h' ⟨t, ⟨r1, r2⟩, r3, r4⟩ => by
     rw [<- r1, <- r2] at r4;rw [<- r2] at r3;exact ⟨r3, r4⟩
    refine ⟨_, hK, fun r h' hx => ?_⟩;split at hx
    ·exact one _ _ _ _ hx
    ·rcases hx with hx | hx
     ·exact one _ _ _ _ hx
     ·exact one _ _ _ _ hx
   obtain ⟨X, hK, hX⟩ := hK;generalize aP h (vs ++ caps) = os at hK hos hX;obtain ⟨hn, hlt⟩ := sQ hos;intro w I G a next Qx hh he hnx
   obtain ⟨cc, e1, e2, e3⟩ := lR (aC he (AOK.nil _) hu) hf;unfold Oper.wp;rw [lS ho hc e1 hK.1];obtain ⟨g1, g2⟩ := lT he hv e2 e3;have hs := (SRel.sub (⟨hh, he, rfl⟩ : SRel w I G e h a.tmps.size a) os [] hn).1.hh;obtain ⟨u1, u2, u3⟩ := oB hs;refine (hK.2 w I _ _ u1 (by simpa using g1) (fun i v hi => ?_)).mono fun en w' ⟨cv, r, h', I', G', q1, q2, q4, q5, q6⟩ => ?_
   ·rw [qm] at hi;cases hp : (vs ++ caps)[i]? with
    | none => rw [hp] at hi; cases hi
    | some p => rw [hp] at hi; cases hi; exact ((g2 i p hp).mapV lW (Keeps.refl w I)).mono (Keeps.refl w I) u3
   ·subst q1;obtain ⟨r3, r4⟩ := hX r h' q2;obtain ⟨m1, m2, m3, m4, m5⟩ := y9 hh hn hlt (Gs := _) (fun k o hk => by simp [hk]) q4 q6 r3;exact hnx _ _ _ w' I' _ cv r4 m1 (he.mapE m3 m5) (q5.mapV m4 (Keeps.refl w' I')) m2

def eY (os : List Nat) (o : Nat) : Option Nat := bif cI o os then none else some o
def fK (h : Hp) (os : List Nat) (v : LV) : LV :=
 bif (jV v).any (fun o => cI o os) then (match eR (aQ os h os) (mapV (fun o => idx o os 0) v) with | some p => .pv p | none => .bot) else mapV (eY os) v
def iB (h : Hp) (os : List Nat) : Env -> Env
 | [] => []
 | (i, v) :: r => (i, fK h os v) :: iB h os r
def eZ (h : Hp) (os : List Nat) (i : Nat) : Ob -> Ob := fun ob => bif cI i os then .dead else match ob with
 | .box cs => .box (cs.map (fK h os))
 | ob => ob
def cA (h : Hp) (os : List Nat) : Nat -> List Ob -> Hp
 | _, [] => []
 | i, ob :: r => eZ h os i ob :: cA h os (i + 1) r
theorem sR {os : List Nat} : ∀ {l : List Ob} {i j : Nat}, (cA h os i l)[j]? = (l[j]?).map (eZ h os (i + j))
 | [], i, j => by simp [cA]
 | ob :: r, i, 0 => by simp [cA]
 | ob :: r, i, j + 1 => by
   simp only [cA, qad];rw [sR (l := r) (i := i + 1) (j := j), show i + 1 + j = i + (j + 1) by omega]
theorem sS {os : List Nat} : ∀ {l : List Ob} {i : Nat}, (cA h os i l).length = l.length
 | [], i => rfl
 | ob :: r, i => by simp [cA, sS (l := r)]
theorem sT (h : Hp) (os : List Nat) (i : Nat) : ∀ e : Env, get (iB h os e) i = (get e i).map (fK h os)
 | [] => rfl
 | (k, v) :: r => by
   simp only [iB, get];cases hb : qk k i
   ·exact sT h os i r
   ·rfl
theorem sU {o : Nat} : ∀ {os : List Nat}, cI o os = true ↔ o ∈ os
 | [] => by simp [cI]
 | x :: r => by
   simp only [cI, qae, qbs, sU (os := r)];refine or_congr_left ⟨fun h => (qh h).symm, fun h => by subst h; exact qbx _⟩
theorem sV {os : List Nat} (hh : HRel w I G h) (he : ERel w I G h e a.tmps) (hn : bX os = true) :
 ∃ I2, HRel w I2 G (cA h os 0 h) /\ ERel w I2 G (cA h os 0 h) (iB h os e) a.tmps /\ TrH w I G h w I2 G (cA h os 0 h) /\ (∀ b, I b -> I2 b) /\
  ∀ v cv, LRel w I G h v cv -> LRel w I2 G (cA h os 0 h) (fK h os v) cv := by
 have hs := (SRel.sub (⟨hh, he, rfl⟩ : SRel w I G e h a.tmps.size a) os [] hn);obtain ⟨hs, hown⟩ := hs;have hs := hs.hh;refine ⟨AllB I (aQ os h os) (fun k => match os[k]? with | some o => G o | none => ⟨0, 0, 0, 0⟩), ?_⟩
 have hk : Keeps w I w (AllB I (aQ os h os) (fun k => match os[k]? with | some o => G o | none => ⟨0, 0, 0, 0⟩)) := AllB.keeps _ _ _ _
 have hget : ∀ i, (cA h os 0 h)[i]? = (h[i]?).map (eZ h os i) := fun i => by rw [sR, qt]
 have hren : Ren (eY os) G h G (cA h os 0 h) := fun o k ob ho hob _ => by
  unfold eY at ho;cases hm : cI o os with
  | true => rw [hm] at ho; cases ho
  | false =>
    rw [hm] at ho; cases ho;refine ⟨_, by rw [hget, hob]; rfl, ?_, rfl⟩;simp only [eZ, hm, cond_false];cases ob <;> simp [Ob.like]
 have hL : ∀ v cv, LRel w I G h v cv -> LRel w (AllB I (aQ os h os) (fun k => match os[k]? with | some o => G o | none => ⟨0, 0, 0, 0⟩)) G (cA h os 0 h) (fK h os v) cv := fun v cv hr => by
  unfold fK;cases hq : (jV v).any (fun o => cI o os) with
  | false => simp only [cond_false]; exact hr.mapV hren hk
  | true =>
    simp only [cond_true];split
    ·rename_i p hp;exact .pv _ _ (lQ hs (hr.mapV lW (Keeps.refl w I)) hp)
    ·exact .bot _
 have split : ∀ {i : Nat} {x : Ob}, (cA h os 0 h)[i]? = some x -> ∃ ob, h[i]? = some ob /\ x = eZ h os i ob := fun {i x} hx => by
  rw [hget] at hx;cases hob : h[i]? with
  | none => rw [hob] at hx; cases hx
  | some ob => rw [hob] at hx; cases hx; exact ⟨ob, rfl, rfl⟩
 have al : ∀ {i : Nat} {ob : Ob} {p : Pl}, (eZ h os i ob).alive p -> cI i os = false /\ ob.alive p := fun {i ob p} ha => by
  unfold eZ at ha;cases hm : cI i os with
  | true => rw [hm] at ha; exact ha.elim
  | false => rw [hm] at ha; cases ob <;> exact ⟨rfl, ha⟩
 have hownS : ∀ {b}, aD (aQ os h os) (fun k => match os[k]? with | some o => G o | none => ⟨0, 0, 0, 0⟩) b -> ∃ (o : Nat) (ob : Ob), o ∈ os /\ h[o]? = some ob /\ ob.alive (G o) /\ (G o).blk = b := fun {b} ⟨k, x, hx, ax, hb⟩ => by
  rw [fI] at hx;cases ho : os[k]? with
  | none => rw [ho] at hx; cases hx
  | some o =>
    simp only [ho, qj, Option.some.injEq] at hx ax hb;cases hob : h[o]? with
    | none => rw [hob] at hx; subst hx; exact ax.elim
    | some ob =>
      rw [hob] at hx; subst hx;exact ⟨o, ob, qab ho, hob, by cases ob <;> exact ax, hb⟩
 refine ⟨⟨fun i x hx => ?_, fun i j x y hx ax hy ay hb => ?_, fun i x hx ax hI => ?_, fun b hb => hb.elim (hh.cl b) hs.blk_lt⟩, fun i v hi => ?_, ⟨⟨rfl, rfl, rfl, qi _, fun _ _ _ => rfl, fun _ x => .inl x, fun b hb => hb.elim .inl (fun ho => .inr (.inl (hown b ho))), fun b hb => ?_, fun _ _ => rfl, qi _⟩, by rw [sS]; exact qi _, fun o ob' ho hx hf => ?_⟩, fun b hb => .inl hb, hL⟩
 ·obtain ⟨ob, hob, rfl⟩ := split hx;have := hh.obs i ob hob;unfold eZ;cases hm : cI i os with
  | true => exact trivial
  | false =>
    simp only [cond_false];cases ob with
    | dead => trivial
    | box cs =>
      obtain ⟨vs, ty, e1, e2, e3⟩ := this;refine ⟨vs, ty, e1, by simpa using e2, fun k v hv => ?_⟩
      obtain ⟨u, g1, rfl⟩ := jT hv;exact ⟨hL _ _ (e3 k u g1).1, (e3 k u g1).2⟩
    | arr cs => exact ORel.mapO (f := eY os) hren hk (ob := .arr cs) (fun _ => rfl) this
    | sl ty m n es => exact ORel.mapO (f := eY os) hren hk (ob := .sl ty m n es) (fun _ => rfl) this
    | mp kvs => exact ORel.mapO (f := eY os) hren hk (ob := .mp kvs) (fun _ => rfl) this
    | iter ty rem cur => exact ORel.mapO (f := eY os) hren hk (ob := .iter ty rem cur) (fun _ => rfl) this
 ·obtain ⟨ob, hob, rfl⟩ := split hx;obtain ⟨ob2, hob2, rfl⟩ := split hy;exact hh.sep i j ob ob2 hob (al ax).2 hob2 (al ay).2 hb
 ·obtain ⟨ob, hob, rfl⟩ := split hx;obtain ⟨hm, ha⟩ := al ax;rcases hI with hI | hI
  ·exact hh.nI i ob hob ha hI
  ·obtain ⟨o, ob', ho, hob', ha', hb⟩ := hownS hI;have := hh.sep o i ob' ob hob' ha' hob ha hb;subst this;rw [sU.2 ho] at hm; cases hm
 ·rw [sT] at hi;cases hg : get e i with
  | none => rw [hg] at hi; cases hi
  | some u =>
    rw [hg] at hi;simp only [qj, Option.some.injEq] at hi;subst hi;have := he i u hg;cases u
    case spec j wt u =>
     have e1 : fK h os (.spec j wt u) = mapV (eY os) (.spec j wt u) := rfl;rw [e1];simp only [Eng.mapV];refine ⟨fun ht => ?_, this.2⟩;have h1 := this.1 ht;rcases sN (eY os) u with hm | ⟨_, _, _, rfl⟩
     ·rw [hm]; exact h1.mapV hren hk
     ·cases h1
    all_goals exact VRel.of_plain (hL _ _ this)
 ·obtain ⟨i, x, hx, ax, hbb⟩ := hb;obtain ⟨ob, hob, rfl⟩ := split hx;exact .inl ⟨i, ob, hob, (al ax).2, hbb⟩
 ·obtain ⟨ob, hob, rfl⟩ := split hx;refine ⟨rfl, ob, hob, ?_⟩;unfold eZ at hf;cases hm : cI o os with
  | true => rw [hm] at hf; cases hf
  | false => rw [hm] at hf; cases ob <;> exact hf
def oF (P : Program) (e : Env) (h : Hp) (ty : TypeId) (f : Nat) (vs : List LV) (K : Kt) : Prop :=
 bif iA h (aP h vs) then (match bW (vs.map (fK h (aP h vs))) with
  | some ps => PCall P f ps fun v => c6 P 4 ty v fun v => K (.pv v) (iB h (aP h vs) e) (cA h (aP h vs) 0 h)
  | none => aA 2402) else aA 2403
theorem sW {c : Call} {fo : Operand} {u : LV} {f : Nat} {caps vs : List LV} (ho : o.op = .call c) (hc : c.callee = .value fo) (hu : aF [] e fo = some u) (hf : c7 u = some (f, caps))
 (hv : cV [] e c.args.toList = some vs) (hK : oF P e h o.type f (vs ++ caps) K) : OpK P o e h K := by
 unfold oF at hK;cases hos : iA h (aP h (vs ++ caps)) with
 | false => rw [hos] at hK; cases hK
 | true =>
   rw [hos] at hK;simp only [cond_true] at hK;generalize aP h (vs ++ caps) = os at hK hos;obtain ⟨hn, hlt⟩ := sQ hos;split at hK
   ·rename_i ps hps;intro w I G a next Qx hh he hnx
    obtain ⟨cc, e1, e2, e3⟩ := lR (aC he (AOK.nil _) hu) hf;unfold Oper.wp;rw [lS ho hc e1 hK.1];obtain ⟨g1, g2⟩ := lT he hv e2 e3;obtain ⟨I2, p1, p2, p3, p4, p5⟩ := sV (os := os) hh he hn;have hps' := dY hps;have hno : ∀ G b, ¬ aD [] G b := fun G b ⟨o, ob, ho, _⟩ => by simp at ho
    refine (hK.2 w I2 G _ (HRel.nil G p1.cl) (by rw [g1, <- hps']; simp) (fun i v hi => ?_)).mono fun en w' ⟨cv, r, h', I', G', q1, ⟨v, q2, q3⟩, q4, q5, q6⟩ => ?_
    ·rw [<- hps', qm] at hi;cases hp : (vs ++ caps)[i]? with
     | none => rw [hp] at hi; cases hi
     | some p =>
       rw [hp] at hi;simp only [qj, Option.some.injEq] at hi;have h1 := p5 _ _ (g2 i p hp);rw [hi] at h1
       have hm : ∃ q, v = .pv q := by
        have : (ps.map LV.pv)[i]? = some v := by rw [<- hps', qm, hp]; simp [hi]
        rw [qm] at this; cases hq : ps[i]? <;> rw [hq] at this <;> cases this; exact ⟨_, rfl⟩
       obtain ⟨q, rfl⟩ := hm;generalize (c.args.map a.eval ++ cc).getD i undef = ca at h1 ⊢;cases h1 with | pv _ _ h2 => exact .pv _ _ h2
    ·subst q1; subst q2;have q3 := eS q3;have q6 := q6.t;have hw : ∀ b, b < w.heap.size -> w'.heap[b]? = w.heap[b]? := fun b hb => q6.keep b hb (hno G b);have hI2 : ∀ b, I' b -> I2 b ∨ w.heap.size <= b := fun b hb => (q6.i2 b hb).elim .inl (fun x => x.elim (fun x => absurd x (hno G b)) .inr);have hH := p1.keep hw q6.i1 hI2 q4.cl;refine hnx _ _ _ w' I' G cv q3 hH (p2.mono ⟨fun b _ hb => hw b hb, fun b hb _ => q6.i1 b hb⟩ (.refl _ _)) ?_ (p3.trans (.same ⟨q6.os, q6.tape, q6.output, q6.size, fun b hb _ => hw b hb, q6.i1, fun b hb => (hI2 b hb).elim .inl (fun x => .inr (.inr x)), fun b hb => .inl hb, q6.frz, q6.drawn⟩)) ⟨q6.size, hw⟩;cases q5 with | pv _ _ h1 => exact .pv _ _ h1
   ·cases hK
def sX (P : Program) (t : TypeId) : Bool := match P.underlying t with
 | some (.int _) => true
 | some .bool => true
 | _ => false
def oG (P : Program) (t : TypeId) : Bool := match P.underlying t with
 | some (.tuple ts) => ts.toList.all (sX P)
 | _ => sX P t
def oH (H : Nat -> Option HSpec) : Operand -> Option HSpec
 | .func f => H f
 | _ => H 6000000
def zC (H : Nat -> Option HSpec) (f : Nat) (sp : HSpec) : Operand -> Option HSpec
 | .func _ => some sp
 | _ => H (6000000 + f)
def j0 (P : Program) (H : Nat -> Option HSpec) (e : Env) (h : Hp) (ty : TypeId) (fo : Operand) (f : Nat) (vs : List LV) (K : Kt) : Prop :=
 match oH H fo with
 | some sp => match zC H f sp fo with
   | some sp => oE P sp e h f vs K
   | none => aA 2398
 | none => match bW vs with
   | some _ => jS P e h ty f vs K
   | none => bif oG P ty then jS P e h ty f vs K else oF P e h ty f vs K
theorem zD {H : Nat -> Option HSpec} {c : Call} {fo : Operand} {u : LV} {f : Nat} {caps vs : List LV} (ho : o.op = .call c) (hc : c.callee = .value fo) (hu : aF [] e fo = some u) (hf : c7 u = some (f, caps))
 (hv : cV [] e c.args.toList = some vs) (hK : j0 P H e h o.type fo f (vs ++ caps) K) : OpS P o e h K := by
 unfold j0 at hK;split at hK
 ·split at hK
  ·exact zB ho hc hu hf hv hK
  ·cases hK
 ·split at hK
  ·exact sL ho hc hu hf hv hK
  ·cases hs : oG P o.type with
   | true => rw [hs] at hK; exact sL ho hc hu hf hv hK
   | false => rw [hs] at hK; exact (sW ho hc hu hf hv hK).opS
theorem zE {H : Nat -> Option HSpec} {c : Call} {fo : Operand} {u : LV} {f : Nat} {caps vs : List LV} (hst : oH H fo = none) (ho : o.op = .call c) (hc : c.callee = .value fo) (hu : aF [] e fo = some u) (hf : c7 u = some (f, caps))
 (hv : cV [] e c.args.toList = some vs) (hK : j0 P H e h o.type fo f (vs ++ caps) K) : OpK P o e h K := by
 unfold j0 at hK;rw [hst] at hK;simp only at hK;split at hK
 ·exact nX ho hc hu hf hv hK
 ·cases hs : oG P o.type with
  | true => rw [hs] at hK; exact nX ho hc hu hf hv hK
  | false => rw [hs] at hK; exact sW ho hc hu hf hv hK
def iC (e : Env) : Option Operand -> Option (Option Int)
 | none => some none
 | some x => match aF [] e x with
   | some (.pv (.int _ n)) => some (some n)
   | _ => none
theorem bK (he : ERel w I G h e a.tmps) {x : Option Operand} {r : Option Int} (hx : iC e x = some r) :
 (r = none /\ x.map a.eval = none) ∨ ∃ k n, r = some n /\ x.map a.eval = some (.int k n) := by
 cases x with
 | none => simp [iC] at hx; exact .inl ⟨hx.symm, rfl⟩
 | some x =>
   simp only [iC] at hx;split at hx
   ·rename_i k n hn;cases hx;exact .inr ⟨k, n, rfl, by simp [(aC he (AOK.nil _) hn).int_eq]⟩
   ·cases hx
def iD (len : Nat) (lo hi mx : Option Int) : Prop :=
 0 <= lo.getD 0 /\ lo.getD 0 <= hi.getD len /\ hi.getD len <= len /\ match mx with | some m => hi.isSome = true /\ hi.getD len <= m /\ m <= len | none => True
def fL (full : Bool) (len : Nat) (hi mx : Option Int) : Bool :=
 match mx with
 | some m => decide (m = hi.getD len)
 | none => full && decide (hi.getD len = len)
theorem fM {isS : Bool} {len cap : Nat} {lo hi mx : Option Int} {vl vh vm : Option Value} (hc : len <= cap) (hb : iD len lo hi mx)
 (h1 : (lo = none /\ vl = none) ∨ ∃ k n, lo = some n /\ vl = some (.int k n)) (h2 : (hi = none /\ vh = none) ∨ ∃ k n, hi = some n /\ vh = some (.int k n)) (h3 : (mx = none /\ vm = none) ∨ ∃ k n, mx = some n /\ vm = some (.int k n)) :
 ∃ m : Nat, (∀ w, (Instr.sliceBounds isS len cap vl vh vm).run P w = .ok ((lo.getD 0).toNat, (hi.getD len).toNat, m) w) /\ (hi.getD len).toNat <= m /\ m <= cap /\ (mx = none -> m = cap) /\ (∀ q, mx = some q -> m = q.toNat) := by
 obtain ⟨b1, b2, b3, b4⟩ := hb
 have bound : ∀ {w : World} {k : IntKind} {n : Int} {y : Nat} {code : BoundsCode}, 0 <= n -> n <= y -> (Instr.sliceBound (.int k n) y code).run P w = .ok n.toNat w := fun {w k n y code} h0 h1 => by
  unfold Instr.sliceBound;simp only [asIntOf, qe, qd, qa, if_pos (And.intro h0 h1)]
 rcases h1 with ⟨rfl, rfl⟩ | ⟨kl, nl, rfl, rfl⟩ <;> rcases h2 with ⟨rfl, rfl⟩ | ⟨kh, nh, rfl, rfl⟩ <;> rcases h3 with ⟨rfl, rfl⟩ | ⟨km, nm, rfl, rfl⟩ <;>
  simp only [qo, ql, Option.isSome_none, Option.isSome_some, qu, false_and, true_and] at b1 b2 b3 b4
 ·exact ⟨cap, fun w => by simp [Instr.sliceBounds], by simp only [qo]; omega, qi _, by simp, by simp⟩
 ·refine ⟨cap, fun w => ?_, by simp only [ql, qo]; omega, qi _, by simp, by simp⟩;simp only [Instr.sliceBounds, qe, qd, qa, qo, ql];rw [bound (by omega) (by omega)]; rfl
 ·refine ⟨nm.toNat, fun w => ?_, by simp only [ql, qo]; omega, by omega, by simp, by simp⟩;simp only [Instr.sliceBounds, qe, qd, qa, qo, ql];rw [bound (by omega) (by omega)];simp only [qa];rw [bound (by omega) (by omega)]; rfl
 ·refine ⟨cap, fun w => ?_, by simp only [ql, qo]; omega, qi _, by simp, by simp⟩;simp only [Instr.sliceBounds, qe, qd, qa, qo, ql];rw [bound (by omega) (by omega)]; rfl
 ·refine ⟨cap, fun w => ?_, by simp only [ql, qo]; omega, qi _, by simp, by simp⟩;simp only [Instr.sliceBounds, qe, qd, qa, qo, ql];rw [bound (by omega) (by omega)];simp only [qa];rw [bound (by omega) (by omega)]; rfl
 ·refine ⟨nm.toNat, fun w => ?_, by simp only [ql, qo]; omega, by omega, by simp, by simp⟩;simp only [Instr.sliceBounds, qe, qd, qa, qo, ql];rw [bound (by omega) (by omega)];simp only [qa];rw [bound (by omega) (by omega)];simp only [qa];rw [bound (by omega) (by omega)]; rfl

def e8 (o : Nat) (cs : List PV) : LV -> LV
 | .box o' off => bif qk o' o then .pv (.ptr (cs.drop off)) else .box o' off
 | .agg _ => .bot
 | .tup _ => .bot
 | .fn _ _ => .bot
 | .spec .. => .bot
 | v => v
def j1 (o : Nat) (cs : List PV) : Env -> Env
 | [] => []
 | (i, v) :: r => (i, e8 o cs v) :: j1 o cs r
def lX (o : Nat) (cs : List PV) : Ob -> Ob
 | .box bs => .box (bs.map (e8 o cs))
 | ob => ob
def dS (o : Nat) (cs : List PV) (h : Hp) : Hp := (h.map (lX o cs)).set o .dead
def j2 (P : Program) (e : Env) (h : Hp) (t : TypeId) (x : Operand) (lo hi mx : Option Operand) (K : Kt) : Prop :=
 match aF [] e x, iC e lo, iC e hi, iC e mx with
 | some u, some l, some g, some m =>
   match P.underlying t with
   | some (.slice el) => match P.info? el with
     | some ti => match u with
       | .pv (.sl nl full es) => (iD es.length l g m /\ cH es ti.size) /\ K (.pv (.sl nl (fL full es.length g m) ((es.take (g.getD es.length).toNat).drop (l.getD 0).toNat))) e h
       | .own o => match h[o]? with
         | some (.sl ty _ _ es) => bif qk ty.2 ti.size then iD es.length l g m /\ K (.sub o (l.getD 0).toNat (g.getD es.length).toNat) e h else aA 701
         | _ => aA 702
       | .sub o a b => match h[o]? with
         | some (.sl ty _ _ es) => bif qk ty.2 ti.size then iD (b - a) l g m /\ K (.sub o (a + (l.getD 0).toNat) (a + (g.getD (b - a : Nat)).toNat)) e h else aA 703
         | _ => aA 704
       | _ => aA 705
     | none => aA 706
   | some (.array n el) => match P.info? el with
     | some ti => match u with
       | .box o 0 => match h[o]? with
         | some (.arr cs) => (iD n l g m /\ cs.length = n * ti.size) /\
          K (.pv (.sl false (fL true n g m) (((b8 ti.size n cs).take (g.getD n).toNat).drop (l.getD 0).toNat))) (j1 o cs e) (dS o cs h)
         | _ => aA 707
       | _ => aA 708
     | none => aA 709
   | _ => aA 710
 | _, _, _, _ => aA 711

theorem oI {J : Nat -> Prop} {b off cap sz : Nat} {c : Nat -> Nat -> Value} {es : List (List PV)} {full : Bool} (h1 : es.length <= cap) (h2 : full = true -> cap = es.length) (h3 : ∀ (i : Nat) e, es[i]? = some e -> J b /\ b < w.heap.size)
 (h4 : ∀ (i : Nat) e, es[i]? = some e -> e.length = sz) (h5 : ∀ (i : Nat) e (k : Nat) v, es[i]? = some e -> e[k]? = some v -> w.cell? ⟨b, off + i * sz + k, none⟩ = some (c i k))
 (h6 : ∀ (i : Nat) e (k : Nat) v, es[i]? = some e -> e[k]? = some v -> Rep w J v (c i k)) (h7 : ∀ (i : Nat) e (k : Nat) v, es[i]? = some e -> e[k]? = some v -> (c i k).oneCell' = true)
 {l g m : Nat} (hl : l <= g) (hg : g <= es.length) (hm : g <= m) (hm2 : m <= cap) {sz' : Nat} (hsz : cH es sz') {f' : Bool} (hf : f' = true -> m = g) {off' : Nat} (ho : l < g -> off' = off + l * sz') :
 Rep w J (.sl false f' ((es.take g).drop l)) (.slice (some ⟨b, off', none⟩) (g - l) (m - l)) := by
 have hlen : ((es.take g).drop l).length = g - l := by simp; omega
 have hget : ∀ (i : Nat) e, ((es.take g).drop l)[i]? = some e -> es[l + i]? = some e /\ l + i < g := fun i e hi => by
  rw [qr, qv] at hi;split at hi
  ·exact ⟨hi, by assumption⟩
  ·cases hi
 have hsz' : ∀ (i : Nat) e, es[i]? = some e -> sz' = sz := fun i e he => by
  cases es with
  | nil => simp at he
  | cons e0 r => rw [<- h4 0 e0 rfl, hsz e0 rfl]
 have := Rep.sl (w := w) (I := J) f' ((es.take g).drop l) b off' (m - l) sz (fun i k => c (l + i) k) (by omega) (fun hff => by have := hf hff; omega) (fun i e he => h3 _ _ (hget i e he).1) (fun i e he => h4 _ _ (hget i e he).1)
  (fun i e k v he hk => by
   obtain ⟨q1, q2⟩ := hget i e he;rw [ho (by omega), hsz' _ _ q1, show off + l * sz + i * sz + k = off + (l + i) * sz + k by rw [qav]; omega]
   exact h5 _ _ k v q1 hk) (fun i e k v he hk => h6 _ _ k v (hget i e he).1 hk) (fun i e k v he hk => h7 _ _ k v (hget i e he).1 hk)
 rwa [hlen] at this
theorem gJ {t el : TypeId} {ti : TypeInfo} {a : Option Addr} {len cap : Nat} {vl vh vm : Option Value} {l g m : Nat} (ht : P.underlying t = some (.slice el)) (hi : P.info? el = some ti)
 (hb : (Instr.sliceBounds true len cap vl vh vm).run P w = .ok (l, g, m) w) :
 (Instr.sliceAt t (.slice a len cap) vl vh vm).run P w = .ok (.slice (if m = l then a else a.map (·.add (l * ti.size))) (g - l) (m - l)) w := by
 unfold Instr.sliceAt Instr.slice;simp only [underlying, qe, run_program, qa, ht, qd, hb, sizeOf, typeInfo, hi]
theorem zF {t el : TypeId} {ti : TypeInfo} {n : Nat} {a : Addr} {vl vh vm : Option Value} {l g m : Nat} (ht : P.underlying t = some (.array n el)) (hi : P.info? el = some ti)
 (hb : (Instr.sliceBounds false n n vl vh vm).run P w = .ok (l, g, m) w) :
 (Instr.sliceAt t (.pointer (some a)) vl vh vm).run P w = .ok (.slice (some (if m = l then a else a.add (l * ti.size))) (g - l) (m - l)) w := by
 unfold Instr.sliceAt;simp only [underlying, Instr.sureAddr, qe, run_program, qa, ht, qd, hb, sizeOf, typeInfo, hi]
theorem oJ {full : Bool} {len cap : Nat} {hi mx : Option Int} {m : Nat} (hf : fL full len hi mx = true) (hc : full = true -> cap = len) (hg : 0 <= hi.getD len) (h1 : mx = none -> m = cap) (h2 : ∀ q, mx = some q -> m = q.toNat) : m = (hi.getD len).toNat := by
 unfold fL at hf;cases mx with
 | none => simp at hf; rw [h1 rfl, hc hf.1, hf.2]; simp
 | some q => simp at hf; rw [h2 q rfl, hf]

theorem HRel.pub (hh : HRel w I G h) {o : Nat} {cs : List PV} (ho : h[o]? = some (.arr cs)) :
 HRel w (fun b => I b ∨ b = (G o).blk) G (dS o cs h) /\
 (∀ {tm : Array Value} {e : Env}, ERel w I G h e tm -> ERel w (fun b => I b ∨ b = (G o).blk) G (dS o cs h) (j1 o cs e) tm) /\
 TrH w I G h w (fun b => I b ∨ b = (G o).blk) G (dS o cs h) := by
 have hlt : o < h.length := (List.getElem?_eq_some_iff.1 ho).1;obtain ⟨vs, ty, f1, f2, f3⟩ := hh.obs _ _ ho;have hown : aD h G (G o).blk := ⟨o, _, ho, trivial, rfl⟩;have hk : Keeps w I w (fun b => I b ∨ b = (G o).blk) := ⟨fun _ _ _ => rfl, fun _ x _ => .inl x⟩;have hgo : (dS o cs h)[o]? = some .dead := by simp [dS, hlt]
 have hgn : ∀ (i : Nat), i ≠ o -> (dS o cs h)[i]? = (h[i]?).map (lX o cs) := fun i hi => by
  unfold dS; rw [qac (Ne.symm hi), qm]
 have hptr : ∀ off, Rep w (fun b => I b ∨ b = (G o).blk) (.ptr (cs.drop off)) (.pointer (some ⟨(G o).blk, (G o).off + off, none⟩)) := fun off => by
  refine Rep.drop (.ptr cs _ _ (fun k => vs.getD ((G o).off + k) undef) ⟨.inr rfl, hh.blk_lt hown⟩ (fun k v hv => fH f1 ?_) (fun k v hv => (f3 k v hv).1.mono hk.1 hk.2) (fun k v hv => (f3 k v hv).2)) off;have := (List.getElem?_eq_some_iff.1 hv).1;omega
 have hv : ∀ v cv, LRel w I G h v cv -> LRel w (fun b => I b ∨ b = (G o).blk) G (dS o cs h) (e8 o cs v) cv := fun v cv hr => by
  have ne : ∀ {i : Nat} {x : Ob}, h[i]? = some x -> (∀ c, x ≠ .arr c) -> i ≠ o := fun {i x} hx hna e => by subst e; rw [ho] at hx; cases hx; exact hna _ rfl
  cases hr with
  | bot => exact .bot _
  | pv p _ h1 => exact .pv _ _ (h1.mono hk.1 hk.2)
  | ownNil i t m es h1 => exact .ownNil i t m es (by rw [hgn i (ne h1 (by simp)), h1]; rfl)
  | own i t m es ad h0 h1 => exact .own i t m es ad h0 (by rw [hgn i (ne h1 (by simp)), h1]; rfl)
  | subNil i a b t m es h1 h2 => exact .subNil i a b t m es (by rw [hgn i (ne h1 (by simp)), h1]; rfl) h2
  | sub i a b cap ad t m es h1 h2 h3 h4 h5 => exact .sub i a b cap ad t m es (by rw [hgn i (ne h1 (by simp)), h1]; rfl) h2 h3 h4 h5
  | elt i a b t m es h1 h2 => exact .elt i a b t m es (by rw [hgn i (ne h1 (by simp)), h1]; rfl) h2
  | box i off bs h1 =>
    have hi := ne h1 (by simp);have : qk i o = false := by cases hb : qk i o with | false => rfl | true => exact absurd (qh hb) hi
    simp only [e8, this, cond_false];exact .box i off (bs.map (e8 o cs)) (by rw [hgn i hi, h1]; rfl)
  | arr i off bs h1 =>
    by_cases hi : i = o
    ·subst hi;rw [ho] at h1; cases h1;simp only [e8, qbx, cond_true];exact .pv _ _ (hptr off)
    ·have : qk i o = false := by cases hb : qk i o with | false => rfl | true => exact absurd (qh hb) hi
     simp only [e8, this, cond_false];exact .arr i off bs (by rw [hgn i hi, h1]; rfl)
  | agg => exact .bot _
  | tup => exact .bot _
  | fn => exact .bot _
  | mp i kvs h1 => exact .mp i kvs (by rw [hgn i (ne h1 (by simp)), h1]; rfl)
  | iter i ty rem cur h1 => exact .iter i ty rem cur (by rw [hgn i (ne h1 (by simp)), h1]; rfl)
 have split : ∀ (i : Nat) x, (dS o cs h)[i]? = some x -> (i = o /\ x = .dead) ∨ (i ≠ o /\ ∃ y, h[i]? = some y /\ x = lX o cs y) := fun i x hx => by
  by_cases hi : i = o
  ·subst hi; rw [hgo] at hx; cases hx; exact .inl ⟨rfl, rfl⟩
  ·rw [hgn i hi] at hx;cases hq : h[i]? with
   | none => rw [hq] at hx; cases hx
   | some y => rw [hq] at hx; cases hx; exact .inr ⟨hi, y, rfl, rfl⟩
 have alk : ∀ {y : Ob} {q : Pl}, (lX o cs y).alive q -> y.alive q := fun {y q} ha => by cases y <;> exact ha
 refine ⟨⟨fun i x hx => ?_, fun i j x y hx ax hy ay hb => ?_, fun i x hx ax hI => ?_, fun b hb => hb.elim (hh.cl b) (fun e => e ▸ hh.blk_lt hown)⟩, fun {tm e} he => ?_, ⟨⟨rfl, rfl, rfl, qi _, fun _ _ _ => rfl, fun _ x => .inl x, fun b hb => hb.elim .inl (fun e => .inr (.inl (e ▸ hown))), fun b ⟨i, x, hx, ax, hb⟩ => ?_, fun _ _ => rfl, qi _⟩, by simp [dS], fun i x hi hx hf => ⟨rfl, by
  rcases split i x hx with ⟨rfl, rfl⟩ | ⟨_, y, hy, rfl⟩
  ·cases hf
  ·exact ⟨y, hy, by cases y <;> exact hf⟩⟩⟩⟩
 ·rcases split i x hx with ⟨rfl, rfl⟩ | ⟨hi, y, hy, rfl⟩
  ·trivial
  ·have := hh.obs i y hy;cases y with
   | dead => trivial
   | box bs =>
     obtain ⟨vs', ty', e1, e2, e3⟩ := this;refine ⟨vs', ty', e1, by simpa using e2, fun k v hv' => ?_⟩
     rw [qm] at hv';cases hq : bs[k]? with
     | none => rw [hq] at hv'; cases hv'
     | some u => rw [hq] at hv'; cases hv'; exact ⟨hv _ _ (e3 k u hq).1, (e3 k u hq).2⟩
   | arr bs => obtain ⟨vs', ty', e1, e2, e3⟩ := this; exact ⟨vs', ty', e1, e2, fun k v hv => ⟨(e3 k v hv).1.mono hk.1 hk.2, (e3 k v hv).2⟩⟩
   | sl t m n es =>
     cases n with
     | true => exact this
     | false =>
       obtain ⟨e1, e2, e3, e3', e4, e5⟩ := this;refine ⟨e1, e2, e3, e3', e4, fun hc => ?_⟩;obtain ⟨vs', g1, g2, g3⟩ := e5 hc;exact ⟨vs', g1, g2, fun i' e he k v hv => ⟨(g3 i' e he k v hv).1.mono hk.1 hk.2, (g3 i' e he k v hv).2⟩⟩
   | mp kvs => obtain ⟨es, ck, e1, e2, e3⟩ := this; exact ⟨es, ck, e1, e2, fun k kv hv => ⟨(e3 k kv hv).1.mono hk.1 hk.2, (e3 k kv hv).2.mono hk.1 hk.2⟩⟩
   | iter ty rem cur => exact IterRel.mono this rfl hk
 ·rcases split i x hx with ⟨rfl, rfl⟩ | ⟨hi, x', hx', rfl⟩
  ·exact ax.elim
  ·rcases split j y hy with ⟨rfl, rfl⟩ | ⟨hj, y', hy', rfl⟩
   ·exact ay.elim
   ·exact hh.sep _ _ _ _ hx' (alk ax) hy' (alk ay) hb
 ·rcases split i x hx with ⟨rfl, rfl⟩ | ⟨hi, x', hx', rfl⟩
  ·exact ax.elim
  ·rcases hI with hI | hI
   ·exact hh.nI _ _ hx' (alk ax) hI
   ·exact hi (hh.sep _ _ _ _ hx' (alk ax) ho trivial hI)
 ·intro i v hi
  have gp : ∀ e : Env, get (j1 o cs e) i = (get e i).map (e8 o cs) := fun e => by
   induction e with
   | nil => rfl
   | cons x r ih =>
     obtain ⟨k, v⟩ := x;simp only [j1, get];cases hb : qk k i
     ·exact ih
     ·rfl
  rw [gp e] at hi;cases hg : get e i with
  | none => rw [hg] at hi; cases hi
  | some u =>
    rw [hg] at hi; cases hi;have := he i u hg;cases u with
    | spec j w u => exact LRel.bot _
    | own i' => exact hv _ _ this
    | box i' off =>
      have h2 := hv _ _ this;simp only [e8] at h2 ⊢;cases hb : qk i' o <;> rw [hb] at h2 <;> exact h2
    | _ => exact hv _ _ this
 ·rcases split i x hx with ⟨rfl, rfl⟩ | ⟨hi, x', hx', rfl⟩
  ·exact ax.elim
  ·exact .inl ⟨i, x', hx', alk ax, hb⟩

theorem sY {x : Operand} {lo hi mx : Option Operand} (ho : o.op = .slice t x lo hi mx) (hK : j2 P e h t x lo hi mx K) :
 OpV P o e h K ∨ (OpK P o e h K /\ ∃ ob off, aF [] e x = some (.box ob off)) := by
 unfold j2 at hK
 have run : ∀ (a : Act) (w : World) v, (Instr.sliceAt t (a.eval x) (lo.map a.eval) (hi.map a.eval) (mx.map a.eval)).run P w = .ok v w -> (execOp a.eval o).run P w = .ok (.value v) w := fun a w v hv => by
  unfold execOp; rw [ho]; exact aY hv
 split at hK
 ·rename_i u l g m hu hl hg hm;split at hK
  ·rename_i el ht;split at hK
   ·rename_i ti hti;split at hK
    ·rename_i nl full es;obtain ⟨⟨hb, hsz⟩, hK⟩ := hK;refine .inl (OpV.pure hK fun w I G a hh he => ?_);have hu' := aC he (AOK.nil _) hu;cases hu' with
     | pv _ _ hr =>
       generalize hcx : a.eval x = cx at hr;cases hr with
       | slnil =>
         obtain ⟨m', r1, r2, r3, r4, r5⟩ := fM (P := P) (isS := true) (len := 0) (cap := 0) (qi _) hb (bK he hl) (bK he hg) (bK he hm);refine ⟨_, fun w2 _ => run a w2 _ (by rw [hcx]; exact gJ ht hti (r1 w2)), ?_⟩;have e1 : ((([] : List (List PV)).take (g.getD (([] : List (List PV)).length)).toNat).drop (l.getD 0).toNat) = [] := by simp
         rw [e1];have h0 : m' = 0 := by omega
         subst h0;have h1 := hb.1; have h2 := hb.2.1; have h3 := hb.2.2.1;simp only [qbi] at h2 h3 ⊢;have e2 : (l.getD 0).toNat = 0 := by omega
         have e3 : (g.getD ((0 : Nat) : Int)).toNat = 0 := by omega
         rw [e2, e3];exact .pv _ _ (.slnil _)
       | slz _ ad cap hf =>
         obtain ⟨m', r1, r2, r3, r4, r5⟩ := fM (P := P) (isS := true) (len := 0) (cap := cap) (qcc _) hb (bK he hl) (bK he hg) (bK he hm);refine ⟨_, fun w2 _ => run a w2 _ (by rw [hcx]; exact gJ ht hti (r1 w2)), ?_⟩;have e1 : ((([] : List (List PV)).take (g.getD (([] : List (List PV)).length)).toNat).drop (l.getD 0).toNat) = [] := by simp
         rw [e1];have h1 := hb.1; have h2 := hb.2.1; have h3 := hb.2.2.1;simp only [qbi] at h2 h3 ⊢;have hff : fL full 0 g m = true -> m' = (g.getD ((0 : Nat) : Int)).toNat := fun hq => oJ hq hf (by omega) r4 r5;have e2 : (l.getD 0).toNat = 0 := by omega
         have e3 : (g.getD ((0 : Nat) : Int)).toNat = 0 := by omega
         rw [e3] at hff;rw [e2, e3];have e4 : (if m' = 0 then some ad else (some ad).map (·.add (0 * ti.size))) = some ad := by simp [Addr.add]
         rw [e4];exact .pv _ _ (.slz _ _ _ hff)
       | sl _ _ b off cap sz c g1 g2 g3 g4 g5 g6 g7 =>
         obtain ⟨m', r1, r2, r3, r4, r5⟩ := fM (P := P) (isS := true) g1 hb (bK he hl) (bK he hg) (bK he hm);refine ⟨_, fun w2 _ => run a w2 _ (by rw [hcx]; exact gJ ht hti (r1 w2)), ?_⟩;have h1 := hb.1; have h2 := hb.2.1; have h3 := hb.2.2.1;have hf : fL full es.length g m = true -> m' = (g.getD es.length).toNat := fun hf => oJ hf g2 (by omega) r4 r5;split
         ·rename_i hml;exact .pv _ _ (oI g1 g2 g3 g4 g5 g6 g7 (by omega) (by omega) r2 r3 hsz hf (fun hlt => by omega))
         ·simp only [qj, bI];exact .pv _ _ (oI g1 g2 g3 g4 g5 g6 g7 (by omega) (by omega) r2 r3 hsz hf (fun _ => rfl))
    ·rename_i ob;split at hK
     ·rename_i ty mv nl es hob;cases hq : qk ty.2 ti.size with
      | false => rw [hq] at hK; cases hK
      | true =>
        rw [hq] at hK;obtain ⟨hb, hK⟩ := hK;have hts := qh hq;refine .inl (OpV.pure hK fun w I G a hh he => ?_);have hu' := aC he (AOK.nil _) hu;generalize hcx : a.eval x = cx at hu';have h1 := hb.1; have h2 := hb.2.1; have h3 := hb.2.2.1;cases hu' with
        | ownNil _ ty' m' es' q1 =>
          have := hh.obs _ _ q1;simp only [ORel] at this;rw [hob] at q1; cases q1;subst this;obtain ⟨m', r1, r2, r3, r4, r5⟩ := fM (P := P) (isS := true) (len := 0) (cap := 0) (qi _) hb (bK he hl) (bK he hg) (bK he hm);refine ⟨_, fun w2 _ => run a w2 _ (by rw [hcx]; exact gJ ht hti (r1 w2)), ?_⟩;have h0 : m' = 0 := by omega
          subst h0;simp only [qbi] at h2 h3 ⊢;have e2 : (l.getD 0).toNat = 0 := by omega
          have e3 : (g.getD ((0 : Nat) : Int)).toNat = 0 := by omega
          rw [e2, e3];exact .subNil _ _ _ _ _ _ hob rfl
        | own _ ty' m' es' ad q0 q1 =>
          obtain ⟨p1, p2, p3, p3', p4, p5⟩ := hh.obs _ _ q1;rw [hob] at q1; cases q1;obtain ⟨m', r1, r2, r3, r4, r5⟩ := fM (P := P) (isS := true) p1 hb (bK he hl) (bK he hg) (bK he hm);refine ⟨_, fun w2 _ => run a w2 _ (by rw [hcx]; exact gJ ht hti (r1 w2)), ?_⟩;split
          ·rename_i hml;exact .sub _ _ _ _ _ _ _ _ hob (by omega) (by omega) (by omega) (fun hlt => by omega)
          ·simp only [qj, bI];exact .sub _ _ _ _ _ _ _ _ hob (by omega) (by omega) (by omega) (fun hlt => by rw [q0 (by omega), bI, p3', hts])
     ·cases hK
    ·rename_i ob a0 b0;split at hK
     ·rename_i ty mv nl es hob;cases hq : qk ty.2 ti.size with
      | false => rw [hq] at hK; cases hK
      | true =>
        rw [hq] at hK;obtain ⟨hb, hK⟩ := hK;have hts := qh hq;refine .inl (OpV.pure hK fun w I G a hh he => ?_);have hu' := aC he (AOK.nil _) hu;generalize hcx : a.eval x = cx at hu';have h1 := hb.1; have h2 := hb.2.1; have h3 := hb.2.2.1;cases hu' with
        | subNil _ _ _ ty' m' es' q1 q2 =>
          subst q2;obtain ⟨m', r1, r2, r3, r4, r5⟩ := fM (P := P) (isS := true) (len := 0) (cap := 0) (qi _) (by simpa using hb) (bK he hl) (bK he hg) (bK he hm)
          refine ⟨_, fun w2 _ => run a w2 _ (by rw [hcx]; exact gJ ht hti (r1 w2)), ?_⟩;have h0 : m' = 0 := by omega
          subst h0;simp only [qby] at h2 h3 ⊢;have e2 : (l.getD 0).toNat = 0 := by omega
          have e3 : (g.getD ((0 : Nat) : Int)).toNat = 0 := by omega
          rw [e2, e3];exact .subNil _ _ _ _ _ _ q1 rfl
        | sub _ _ _ cap ad ty' m' es' q1 q2 q3 q4 q5 =>
          have hp := hh.obs _ _ q1;have p3' := hp.2.2.2.1;clear hp;rw [hob] at q1; cases q1;obtain ⟨m', r1, r2, r3, r4, r5⟩ := fM (P := P) (isS := true) q4 hb (bK he hl) (bK he hg) (bK he hm);refine ⟨_, fun w2 _ => run a w2 _ (by rw [hcx]; exact gJ ht hti (r1 w2)), ?_⟩;have k1 : (g.getD ((b0 - a0 : Nat) : Int)).toNat <= b0 - a0 := by omega
          have k2 : (l.getD 0).toNat <= (g.getD ((b0 - a0 : Nat) : Int)).toNat := by omega
          generalize (g.getD ((b0 - a0 : Nat) : Int)).toNat = gn at *;generalize (l.getD 0).toNat = ln at *;clear hb r1 r4 r5 hK h1 h2 h3;have e1 : gn - ln = (a0 + gn) - (a0 + ln) := by omega
          rw [e1];split
          ·rename_i hml;exact .sub _ _ _ _ _ _ _ _ hob (by omega) (by omega) (by omega) (fun hlt => by omega)
          ·simp only [qj, bI];refine .sub _ _ _ _ _ _ _ _ hob (by omega) (by omega) (by omega) (fun hlt => ?_);rw [q5 (by omega), bI, p3', hts, qav, qay]
     ·cases hK
    ·cases hK
   ·cases hK
  ·rename_i n el ht;split at hK
   ·rename_i ti hti;split at hK
    ·rename_i ob;split at hK
     ·rename_i cs hob;obtain ⟨⟨hb, hlen⟩, hK⟩ := hK;refine .inr ⟨fun w I G a next Qx hh he hn => ?_, _, _, hu⟩
      have hu' := aC he (AOK.nil _) hu;generalize hcx : a.eval x = cx at hu';have h1 := hb.1; have h2 := hb.2.1; have h3 := hb.2.2.1;cases hu' with
      | box _ _ _ q1 => rw [hob] at q1; cases q1
      | arr _ _ cs' q1 =>
        obtain ⟨vs, ty, f1, f2, f3⟩ := hh.obs _ _ q1;rw [hob] at q1; cases q1;obtain ⟨m', r1, r2, r3, r4, r5⟩ := fM (P := P) (isS := false) (qi n) hb (bK he hl) (bK he hg) (bK he hm);have hrun := run a w _ (by rw [hcx]; exact zF ht hti (r1 w));unfold Oper.wp; rw [hrun];obtain ⟨t1, t2, t3⟩ := hh.pub hob;have hk : Keeps w I w (fun b => I b ∨ b = (G ob).blk) := ⟨fun _ _ _ => rfl, fun _ x _ => .inl x⟩;have hown : aD h G (G ob).blk := ⟨ob, _, hob, trivial, rfl⟩;have hcl := nN ti.size n cs
        have hel : ∀ (i : Nat) e (k : Nat) v, (b8 ti.size n cs)[i]? = some e -> e[k]? = some v -> k < ti.size /\ cs[i * ti.size + k]? = some v := fun i e k v he hk => by
         obtain ⟨_, rfl⟩ := jM _ _ _ _ _ he;rw [qv] at hk;split at hk
         ·rename_i hlt; rw [qr] at hk; exact ⟨hlt, hk⟩
         ·cases hk
        have hch : ∀ (i : Nat) e, (b8 ti.size n cs)[i]? = some e -> e.length = ti.size := fun i e he => by
         obtain ⟨h1, rfl⟩ := jM _ _ _ _ _ he;have : (i + 1) * ti.size <= n * ti.size := qbq _ h1;rw [qav] at this;simp; omega
        have hf : fL true n g m = true -> m' = (g.getD n).toNat := fun hf => oJ hf (fun _ => rfl) (by omega) r4 r5
        have rep : ∀ off', ((l.getD 0).toNat < (g.getD n).toNat -> off' = (G ob).off + (l.getD 0).toNat * ti.size) -> Rep w (fun b => I b ∨ b = (G ob).blk) (.sl false (fL true n g m) (((b8 ti.size n cs).take (g.getD n).toNat).drop (l.getD 0).toNat)) (.slice (some ⟨(G ob).blk, off', none⟩) ((g.getD n).toNat - (l.getD 0).toNat) (m' - (l.getD 0).toNat)) := fun off' hoff =>
         oI (cap := n) (sz := ti.size) (off := (G ob).off) (full := true) (c := fun i k => vs.getD ((G ob).off + (i * ti.size + k)) undef) (by omega) (fun _ => by omega) (fun _ _ _ => ⟨.inr rfl, hh.blk_lt hown⟩) hch
          (fun i e k v he hk' => by
           obtain ⟨z1, z2⟩ := hel i e k v he hk';have := (List.getElem?_eq_some_iff.1 z2).1;rw [show (G ob).off + i * ti.size + k = (G ob).off + (i * ti.size + k) by omega]
           exact fH f1 (by omega))
          (fun i e k v he hk' => (f3 _ v (hel i e k v he hk').2).1.mono hk.1 hk.2) (fun i e k v he hk' => (f3 _ v (hel i e k v he hk').2).2)
          (by omega) (by omega) r2 r3 (fun e he => hch 0 e (by rw [<- List.head?_eq_getElem?]; exact he)) hf hoff
        refine hn _ _ _ w _ G _ hK t1 (t2 he) ?_ t3 (KA.refl w);split
        ·rename_i hml;exact .pv _ _ (rep _ (fun hlt => by omega))
        ·rw [bI];exact .pv _ _ (rep _ (fun _ => by omega))
     ·cases hK
    ·cases hK
   ·cases hK
  ·cases hK
 ·cases hK
theorem sZ {x : Operand} {lo hi mx : Option Operand} (ho : o.op = .slice t x lo hi mx) (hK : j2 P e h t x lo hi mx K) : OpK P o e h K :=
 (sY ho hK).elim (fun h => h.opK) (fun h => h.1)
theorem zG {x : Operand} {lo hi mx : Option Operand} (ho : o.op = .slice t x lo hi mx) (hK : j2 P e h t x lo hi mx K) : OpS P o e h K := (sZ ho hK).opS
def cP : PV -> PV -> Bool
 | .agg aa, .agg bs => bE aa bs
 | a, b => cN a b
def gK (P : Program) (kt : TypeId) : Bool := match eN P kt with
 | some _ => true
 | none => match P.underlying kt with
   | some (.array _ e) => match P.info? e, P.underlying e with
     | some ti, some (.struct fs) => dP P fs.toList 0 && !P.stoodInHeld e && qk ti.size fs.toList.length
     | _, _ => false
   | _ => false
def j3 (P : Program) (t : TypeId) : List TypeId := match P.underlying t with
 | some (.struct fs) => fs.toList.map (·.type)
 | some (.array n e) => match P.underlying e with
   | some (.struct fs) => (qan n (fs.toList.map (·.type))).flatten
   | _ => qan n e
 | _ => []
def aZ (P : Program) : List TypeId -> List PV -> Bool
 | [], [] => true
 | t :: ts, .int k _ :: r => (match P.underlying t with | some (.int q) => bT q k | _ => false) && aZ P ts r
 | t :: ts, .bool _ :: r => (match P.underlying t with | some .bool => true | _ => false) && aZ P ts r
 | _, _ => false
def bA (P : Program) (kt : TypeId) : PV -> Bool
 | .int q _ => match P.underlying kt with | some (.int q') => bT q' q | _ => false
 | .agg aa => gK P kt && aZ P (j3 P kt) aa
 | _ => false
def e9 (P : Program) (kt : TypeId) (kvs : List (PV × PV)) : Prop := ∀ kv ∈ kvs, bA P kt kv.1 = true
theorem lY : ∀ {ts : List TypeId} {aa bs : List PV}, aZ P ts aa = true -> aZ P ts bs = true -> aX P ts aa bs = true
 | [], [], [], _, _ => rfl
 | [], _ :: _, _, h, _ => by simp [aZ] at h
 | [], [], _ :: _, _, h => by simp [aZ] at h
 | t :: ts, [], bs, h, _ => by simp [aZ] at h
 | t :: ts, x :: r, [], _, h => by simp [aZ] at h
 | t :: ts, x :: r, y :: s, h1, h2 => by
   cases x with
   | int k a => cases y with
     | int k' b =>
       simp only [aZ, qc] at h1 h2;simp only [aX, qc];cases hu : P.underlying t with
       | none => rw [hu] at h1; simp at h1
       | some d => cases d with
         | int q =>
           simp only [hu] at h1 h2;have e1 := c0 h1.1;have e2 := c0 h2.1;subst e1; subst e2;exact ⟨⟨h1.1, rfl⟩, lY h1.2 h2.2⟩
         | _ => simp [hu] at h1
     | bool b => simp only [aZ, qc] at h1 h2; cases hu : P.underlying t with
       | none => rw [hu] at h1; simp at h1
       | some d => cases d <;> simp [hu] at h1 h2
     | _ => simp [aZ] at h2
   | bool a => cases y with
     | int k' b => simp only [aZ, qc] at h1 h2; cases hu : P.underlying t with
       | none => rw [hu] at h1; simp at h1
       | some d => cases d <;> simp [hu] at h1 h2
     | bool b => simp only [aZ, qc] at h1 h2; simp only [aX, qc]; exact ⟨h1.1, lY h1.2 h2.2⟩
     | _ => simp [aZ] at h2
   | _ => simp [aZ] at h1
theorem oK : ∀ {ts : List TypeId} {aa bs : List PV}, aZ P ts aa = true -> aZ P ts bs = true -> bE aa bs = true -> aa = bs
 | [], [], [], _, _, _ => rfl
 | [], _ :: _, _, h, _, _ => by simp [aZ] at h
 | [], [], _ :: _, _, h, _ => by simp [aZ] at h
 | t :: ts, [], bs, h, _, _ => by simp [aZ] at h
 | t :: ts, x :: r, [], _, h, _ => by simp [aZ] at h
 | t :: ts, x :: r, y :: s, h1, h2, h3 => by
   have hs := lY h1 h2;simp only [bE, qc] at h3;cases x with
   | int k a => cases y with
     | int k' b =>
       simp only [aX, qc] at hs;have := c0 hs.1.1;subst this;simp only [aZ, qc] at h1 h2;have h4 : a = b := by simpa [cN] using h3.1
       rw [h4, oK h1.2 h2.2 h3.2]
     | _ => simp [cN] at h3
   | bool a => cases y with
     | bool b =>
       simp only [aZ, qc] at h1 h2;have h4 : a = b := by simpa [cN] using h3.1
       rw [h4, oK h1.2 h2.2 h3.2]
     | _ => simp [cN] at h3
   | _ => simp [cN] at h3
theorem oL {w w' : World} {I I' : Nat -> Prop} : ∀ {ts : List TypeId} {aa : List PV}, aZ P ts aa = true -> ∀ (i : Nat) v, aa[i]? = some v -> (∀ c c', Rep w I v c -> Rep w' I' v c' -> c = c') /\ ∀ c n, Rep w I v c -> Instr.sameBits n c c = true
 | [], [], _, i, v, hv => by simp at hv
 | [], _ :: _, h, _, _, _ => by simp [aZ] at h
 | t :: ts, [], h, _, _, _ => by simp [aZ] at h
 | t :: ts, x :: r, h1, 0, v, hv => by
   simp only [qap, Option.some.injEq] at hv;subst hv;cases x with
   | int k a => exact ⟨fun c c' r1 r2 => by cases r1; cases r2; rfl, fun c n r1 => by cases r1; simp [Instr.sameBits]⟩
   | bool a => exact ⟨fun c c' r1 r2 => by cases r1; cases r2; rfl, fun c n r1 => by cases r1; simp [Instr.sameBits]⟩
   | _ => simp [aZ] at h1
 | t :: ts, x :: r, h1, i + 1, v, hv => by
   have h2 : aZ P ts r = true := by
    cases x with
    | int k a => simp only [aZ, qc] at h1; exact h1.2
    | bool a => simp only [aZ, qc] at h1; exact h1.2
    | _ => simp [aZ] at h1
   exact oL h2 i v (by simpa using hv)
theorem s5 : ∀ {ts us : List TypeId} {aa bs : List PV}, aX P (ts ++ us) aa bs = true -> aX P ts (aa.take ts.length) (bs.take ts.length) = true /\ aX P us (aa.drop ts.length) (bs.drop ts.length) = true
 | [], us, aa, bs, h => ⟨by simp [aX], by simpa using h⟩
 | t :: ts, us, [], _, h => by simp [aX] at h
 | t :: ts, us, x :: r, [], h => by cases x <;> simp [aX] at h
 | t :: ts, us, x :: r, y :: s, h => by
   have key : aX P (ts ++ us) r s = true := by cases x <;> cases y <;> simp [aX] at h <;> exact h.2
   obtain ⟨g1, g2⟩ := s5 key;refine ⟨?_, by simpa using g2⟩
   simp only [qbd, qbt];cases x <;> cases y <;> simp [aX] at h ⊢ <;> exact ⟨h.1, g1⟩
theorem s6 : ∀ (n : Nat) {aa bs : List PV}, aa.length = bs.length -> bE aa bs = (bE (aa.take n) (bs.take n) && bE (aa.drop n) (bs.drop n))
 | 0, aa, bs, _ => by simp [bE]
 | n + 1, [], [], _ => by simp [bE]
 | n + 1, [], _ :: _, h => by simp at h
 | n + 1, _ :: _, [], h => by simp at h
 | n + 1, x :: r, y :: s, h => by simp only [qbt, List.drop_succ_cons, bE]; rw [s6 n (by simpa using h), Bool.and_assoc]
theorem s7 {e : TypeId} {fs : Array Field} {ti : TypeInfo} (hu : P.underlying e = some (.struct fs)) (hi : P.info? e = some ti) (cs : Array Value) (off : Nat) : (part e cs off).run P w = .ok (.agg (cs.extract off (off + ti.size))) w := by
 unfold part isAgg sizeOf typeInfo;simp only [underlying, qe, run_program, qa, hu, qd, if_true, qar, hi]
theorem s8 {I I' : Nat -> Prop} {d : Nat} {e : TypeId} {fs : Array Field} {ti : TypeInfo} {va vb : Array Value} (hu : P.underlying e = some (.struct fs)) (hi : P.info? e = some ti) (hsz : ti.size = fs.toList.length)
 (hf : dP P fs.toList 0 = true) (hheld : P.stoodInHeld e = false) : ∀ (n k : Nat) (aa bs : List PV), aX P (qan n (fs.toList.map (·.type))).flatten aa bs = true -> va.size = k * ti.size + aa.length -> vb.size = k * ti.size + bs.length ->
 (∀ (i : Nat) v, aa[i]? = some v -> Rep w I v (va.getD (k * ti.size + i) undef)) -> (∀ (i : Nat) v, bs[i]? = some v -> Rep w I' v (vb.getD (k * ti.size + i) undef)) ->
 (forIn (m := Sem) (qaw k n) ((none, ()) : Option Bool × Unit) fun i r => do
  let a <- part e va (i * ti.size); let b <- part e vb (i * ti.size); let q <- Op.equalIn (d + 1 + 1) e a b
  if (!q) = true then pure (.done (some false, ())) else pure (.yield (none, ()))).run P w = .ok ((if bE aa bs = true then none else some false), ()) w
 | 0, k, [], [], _, _, _, _, _ => rfl
 | 0, k, _ :: _, _, h, _, _, _, _ => by simp [aX] at h
 | 0, k, [], _ :: _, h, _, _, _, _ => by simp [aX] at h
 | n + 1, k, aa, bs, h2, h3, h4, h5, h6 => by
   rw [List.replicate_succ, List.flatten_cons] at h2;obtain ⟨l1, l2⟩ := rD h2;obtain ⟨g1, g2⟩ := s5 h2;have hlen : (fs.toList.map (·.type)).length = ti.size := by rw [hsz, qbj]
   rw [hlen] at g1 g2;simp only [qbw, hlen] at l1 l2;have e1 : P.fieldsOf e = fs := by unfold Program.fieldsOf; rw [hu]
   have hmul : (k + 1) * ti.size = k * ti.size + ti.size := by rw [qav, Nat.one_mul]
   have ext : ∀ (vv : Array Value) (cc : List PV), vv.size = k * ti.size + cc.length -> ti.size <= cc.length -> (vv.extract (k * ti.size) (k * ti.size + ti.size)).size = ti.size /\ ∀ i, i < ti.size -> (vv.extract (k * ti.size) (k * ti.size + ti.size)).getD i undef = vv.getD (k * ti.size + i) undef := fun vv cc hv hc => by
    refine ⟨by simp; omega, fun i hi => ?_⟩;simp only [qg];rw [qbm];rw [if_pos (by omega)]
   obtain ⟨x1, x2⟩ := ext va aa h3 (by omega);obtain ⟨y1, y2⟩ := ext vb bs h4 (by omega);have hq := run_equalIn_struct (P := P) w (d + 1) e (va.extract (k * ti.size) (k * ti.size + ti.size)) (vb.extract (k * ti.size) (k * ti.size + ti.size)) (by rw [e1]; exact hu) hheld;rw [e1] at hq
   have hq2 := nC (P := P) (w := w) (I := I) (I' := I') (d := d) fs.toList 0 (aa.take ti.size) (bs.take ti.size) hf g1 (by rw [x1, qai]; omega) (by rw [y1, qai]; omega)
    (fun i v hv => by
     have hi' : i < ti.size := by
      have := (List.getElem?_eq_some_iff.1 hv).1;rw [qai] at this; omega
     rw [qt, x2 i hi']; rw [qv, if_pos hi'] at hv; exact h5 i v hv)
    (fun i v hv => by
     have hi' : i < ti.size := by
      have := (List.getElem?_eq_some_iff.1 hv).1;rw [qai] at this; omega
     rw [qt, y2 i hi']; rw [qv, if_pos hi'] at hv; exact h6 i v hv)
   rw [qbe, qbk];simp only [qe, s7 hu hi, qa, hq, hq2];rw [s6 ti.size (aa := aa) (bs := bs) (by omega)];simp only [qar];rcases Bool.eq_false_or_eq_true (bE (aa.take ti.size) (bs.take ti.size)) with he | he
   rotate_left
   ·simp [he]
   ·simp only [he, qcj, qu, if_false, qaz, qe, qd, qa]
    exact s8 (va := va) (vb := vb) hu hi hsz hf hheld n (k + 1) (aa.drop ti.size) (bs.drop ti.size) g2 (by rw [qbf, hmul]; omega) (by rw [qbf, hmul]; omega)
     (fun i v hv => by rw [hmul, qay]; rw [qr] at hv; exact h5 _ v hv) (fun i v hv => by rw [hmul, qay]; rw [qr] at hv; exact h6 _ v hv) (d := d)
theorem zH {aa bs : List PV} {I I' : Nat -> Prop} {va vb : Array Value} (hf : gK P t = true) (hs : aX P (j3 P t) aa bs = true) (a1 : va.size = aa.length)
 (a2 : ∀ (k : Nat) v, aa[k]? = some v -> Rep w I v (va.getD k undef)) (b1 : vb.size = bs.length) (b2 : ∀ (k : Nat) v, bs[k]? = some v -> Rep w I' v (vb.getD k undef)) :
 (Op.equal t (.agg va) (.agg vb)).run P w = .ok (bE aa bs) w := by
 unfold gK at hf;split at hf
 ·rename_i n hfl;refine (rG hfl ?_ a1 a2 b1 b2).1;unfold i7;unfold j3 at hs;unfold eN at hfl;split at hfl
  ·rename_i fs hu; simp only [hu] at hs ⊢; exact hs
  ·rename_i len e hu;simp only [hu] at hs ⊢;split at hfl
   ·cases hc : c9 P e with
    | false => rw [hc] at hfl; simp at hfl
    | true =>
      split at hs
      ·rename_i fs hue; unfold c9 at hc; rw [hue] at hc; cases hc
      ·exact hs
   ·cases hfl
  ·cases hfl
 ·rename_i hfl;split at hf
  ·rename_i len e hu;split at hf
   ·rename_i ti fs hi hue;simp only [qc, qp] at hf;have hsz := qh hf.2;unfold j3 at hs;simp only [hu, hue] at hs;have h1 := fun d => s8 (P := P) (w := w) (d := d) (va := va) (vb := vb) hue hi hsz hf.1.1 hf.1.2 len 0 aa bs hs (by omega) (by omega) (fun i v hv => by rw [qbz, qt]; exact a2 i v hv) (fun i v hv => by rw [qbz, qt]; exact b2 i v hv)
    have h2 : ∀ d, (Op.equalIn (d + 1 + 1 + 1) t (.agg va) (.agg vb)).run P w = .ok (bE aa bs) w := fun d => by
     unfold Op.equalIn;simp only [qe, run_underlying hu, qa, sizeOf, typeInfo, run_program, hi, qd];rw [Std.Legacy.Range.forIn_eq_forIn_range'];simp only [Std.Legacy.Range.size, qz, qca, Nat.div_one];rw [h1 d];cases bE aa bs <;> rfl
    exact h2 9997
   ·cases hf
  ·cases hf
theorem s9 (hp : c9 P t = true) (em : Bool) (n : Nat) (v : Value) : (Instr.checkKey em (n + 1) t v).run P w = .ok () w := by
 unfold c9 at hp;split at hp
 ·rename_i q hu; unfold Instr.checkKey; simp only [underlying, qe, run_program, qa, hu, qd]
 ·rename_i hu; unfold Instr.checkKey; simp only [underlying, qe, run_program, qa, hu, qd]
 ·cases hp
theorem tC {em : Bool} {n : Nat} {va : Array Value} : ∀ (fs : List Field) (k : Nat), dP P fs k = true -> k + fs.length <= va.size ->
 (forIn (m := Sem) fs PUnit.unit fun f _ => if f.name ≠ "_" then do
  Instr.checkKey em (n + 1) f.type (<- part f.type va f.offset)
  pure (ForInStep.yield PUnit.unit) else pure (ForInStep.yield PUnit.unit)).run P w = .ok PUnit.unit w
 | [], k, _, _ => rfl
 | f :: fs, k, h1, h2 => by
   simp only [dP, qc, qp] at h1;have ho := qh h1.1.1.1;have hne : f.name ≠ "_" := fun e => by rw [e] at h1; simp at h1
   simp only [qbd] at h2;rw [qbk];simp only [hne, ne_eq, not_false_eq_true, if_true, ho, qe, gY h1.1.1.2 (show k < va.size by omega), qa, s9 h1.1.1.2, qd];exact tC fs (k + 1) h1.2 (by omega)
theorem tD {fs : Array Field} {va : Array Value} (hu : P.underlying t = some (.struct fs)) (hf : dP P fs.toList 0 = true) (hl : fs.toList.length <= va.size) (em : Bool) (n : Nat) :
 (Instr.checkKey em (n + 1 + 1) t (.agg va)).run P w = .ok () w := by
 unfold Instr.checkKey;simp only [underlying, qe, run_program, qa, hu, qd];rw [<- Array.forIn_toList];have := tC (P := P) (w := w) (em := em) (n := n) (va := va) fs.toList 0 hf (by omega);simp at this ⊢;rw [this];rfl
theorem tE {t e : TypeId} {len : Nat} {ti : TypeInfo} {va : Array Value} (hu : P.underlying t = some (.array len e)) (hi : P.info? e = some ti) {em : Bool} {n : Nat}
 (hall : ∀ i, i < len -> ∃ a, (part e va (i * ti.size)).run P w = .ok a w /\ (Instr.checkKey em n e a).run P w = .ok () w) : (Instr.checkKey em (n + 1) t (.agg va)).run P w = .ok () w := by
 unfold Instr.checkKey;simp only [underlying, qe, run_program, qa, hu, qd];rw [Std.Legacy.Range.forIn_eq_forIn_range'];simp only [Std.Legacy.Range.size, qz, qca, Nat.div_one]
 have : ∀ (k m : Nat), k + m = len -> (forIn (m := Sem) (qaw k m) PUnit.unit fun i _ => do
  Instr.checkKey em n e (<- part e va (i * (<- sizeOf e)))
  pure (ForInStep.yield PUnit.unit)).run P w = .ok PUnit.unit w := by
  intro k m
  induction m generalizing k with
  | zero => intro _; rfl
  | succ m ih =>
    intro hkm;obtain ⟨a, p1, p2⟩ := hall k (by omega);rw [qbe, qbk];simp only [qe, sizeOf, typeInfo, run_program, hi, qd, qa, p1, p2];have := ih (k + 1) (by omega);simpa [sizeOf, typeInfo, hi] using this
 have := this 0 len (by omega);simp at this ⊢;rw [this];rfl
theorem tF : ∀ {ts : List TypeId} {aa : List PV}, aZ P ts aa = true -> aa.length = ts.length
 | [], [], _ => rfl
 | [], _ :: _, h => by simp [aZ] at h
 | t :: ts, [], h => by simp [aZ] at h
 | t :: ts, x :: r, h1 => by
   have h2 : aZ P ts r = true := by
    cases x with
    | int k a => simp only [aZ, qc] at h1; exact h1.2
    | bool a => simp only [aZ, qc] at h1; exact h1.2
    | _ => simp [aZ] at h1
   simp [tF h2]
theorem j4 {kt : TypeId} {k : PV} {c : Value} (hk : bA P kt k = true) (hr : Rep w I k c) (em : Bool) : (Instr.checkKey em 10000 kt c).run P w = .ok () w := by
 unfold bA at hk;split at hk
 ·rename_i q n;cases hr;split at hk
  ·rename_i q' hu; unfold Instr.checkKey; simp only [underlying, qe, run_program, qa, hu, qd]
  ·cases hk
 ·rename_i aa;cases hr with
  | agg _ va a1 a2 a3 =>
    simp only [qc] at hk;obtain ⟨hf, hc⟩ := hk;have hl := tF hc;unfold j3 at hl;unfold gK at hf;split at hf
    ·rename_i n hfl;unfold eN at hfl;split at hfl
     ·rename_i fs hu;simp only [hu, qbj] at hl;cases hcc : (dP P fs.toList 0 && !P.stoodInHeld kt && !P.eqGuardType P.depth kt) with
      | false => rw [hcc] at hfl; cases hfl
      | true =>
        simp only [qc, qp] at hcc;exact tD hu hcc.1.1 (by omega) em 9998
     ·rename_i len e hu;split at hfl
      ·rename_i ti hi;cases hcc : (c9 P e && qk ti.size 1 && !P.eqGuardType P.depth kt) with
       | false => rw [hcc] at hfl; cases hfl
       | true =>
         simp only [qc, qp] at hcc;have hsz := qh hcc.1.2
         have hl2 : aa.length = len := by
          simp only [hu] at hl;split at hl
          ·rename_i fs hue; have := hcc.1.1; unfold c9 at this; rw [hue] at this; cases this
          ·simpa using hl
         exact tE hu hi (n := 9999) fun i hi' => ⟨_, by rw [hsz, Nat.mul_one]; exact gY hcc.1.1 (by omega), s9 hcc.1.1 em 9998 _⟩
      ·cases hfl
     ·cases hfl
    ·split at hf
     ·rename_i len e hu;split at hf
      ·rename_i ti fs hi hue;simp only [qc, qp] at hf;have hsz := qh hf.2;simp only [hu, hue] at hl;have hl2 : aa.length = len * ti.size := by rw [hl, hsz]; simp
       refine tE hu hi (n := 9999) fun i hi' => ⟨_, s7 hue hi _ _, tD hue hf.1.1 ?_ em 9997⟩;have : (i + 1) * ti.size <= len * ti.size := qbq _ hi';rw [qav, Nat.one_mul] at this;rw [Array.size_extract]; omega
      ·cases hf
     ·cases hf
 ·cases hk
theorem zI {kt : TypeId} {aa : List PV} {k : PV} (h1 : bA P kt (.agg aa) = true) (h2 : bA P kt k = true) : ∃ bs, k = .agg bs := by
 unfold bA at h1 h2;simp only [qc] at h1;split at h2
 ·rename_i q n;have hf := h1.1;unfold gK eN at hf;split at h2
  ·rename_i q' hu; simp [hu] at hf
  ·cases h2
 ·exact ⟨_, rfl⟩
 ·cases h2
theorem zJ {kt : TypeId} {k k' : PV} (h1 : bA P kt k = true) (h2 : bA P kt k' = true) (he : cP k k' = true) : k = k' := by
 cases k with
 | int q n => cases k' with
   | int q' n' =>
     simp only [bA] at h1 h2;split at h1
     ·rename_i q0 hu;simp only [hu] at h2;have e1 := c0 h1;have e2 := c0 h2;subst e1; subst e2;have : n = n' := by simpa [cP, cN] using he
      rw [this]
     ·cases h1
   | _ => simp [cP, cN] at he
 | agg aa => cases k' with
   | agg bs =>
     simp only [bA, qc] at h1 h2;rw [oK h1.2 h2.2 he]
   | _ => simp [cP, cN] at he
 | _ => simp [bA] at h1
theorem tG {w w' : World} {I I' : Nat -> Prop} {kt : TypeId} {k : PV} {c c' : Value} (h1 : bA P kt k = true) (r1 : Rep w I k c) (r2 : Rep w' I' k c') : c = c' := by
 cases k with
 | int q n => cases r1; cases r2; rfl
 | agg aa =>
   simp only [bA, qc] at h1
   cases r1 with | agg _ va a1 a2 a3 => cases r2 with | agg _ vb b1 b2 b3 =>
    congr 1;refine Array.ext (by omega) fun i hi hj => ?_;have hi' : i < aa.length := by omega
    have := (oL (w := w) (w' := w') (I := I) (I' := I') h1.2 i aa[i] (qf hi')).1 _ _ (a2 i _ (qf hi')) (b2 i _ (qf hi'));simpa [qy, hi, hj] using this
 | _ => simp [bA] at h1
theorem tH {kt : TypeId} {k : PV} {c : Value} (h1 : bA P kt k = true) (r1 : Rep w I k c) : Instr.sameBits 10000 c c = true := by
 cases k with
 | int q n => cases r1; simp [Instr.sameBits]
 | agg aa =>
   simp only [bA, qc] at h1
   cases r1 with | agg _ va a1 a2 a3 =>
    show Instr.sameBits (9999 + 1) (.agg va) (.agg va) = true;simp only [Instr.sameBits, beq_self_eq_true, qaz, qbc];intro p hp;obtain ⟨i, hi, e⟩ := qat hp;rw [List.getElem_zip] at e;rw [<- e];have hi2 : i < va.size := by simpa using hi
    have hi' : i < aa.length := by omega
    have := (oL (w := w) (w' := w) (I := I) (I' := I) h1.2 i aa[i] (qf hi')).2 _ 9999 (a2 i _ (qf hi'));simpa [qy, hi2] using this
 | _ => simp [bA] at h1
def aR (k : PV) : List (PV × PV) -> Option Nat
 | [] => none
 | (k', _) :: r => bif cP k k' then some 0 else (aR k r).map (· + 1)
def cJ (k : PV) (kvs : List (PV × PV)) : Option PV := (aR k kvs).map fun j => (kvs.getD j (.unit, .unit)).2
def c8 (k v : PV) (kvs : List (PV × PV)) : List (PV × PV) := match aR k kvs with
 | some j => kvs.set j (k, v)
 | none => kvs ++ [(k, v)]
theorem iE {k : PV} : ∀ {kvs : List (PV × PV)} {j : Nat}, aR k kvs = some j -> j < kvs.length
 | [], j, h => by cases h
 | (k', v') :: r, j, h => by
   unfold aR at h;cases hq : cP k k' with
   | true => rw [hq] at h; cases h; simp
   | false =>
     rw [hq] at h;cases hp : aR k r with
     | none => simp [hp] at h
     | some i => simp [hp] at h; have := iE hp; simp; omega
theorem oM {kt : TypeId} {k : PV} (hk : bA P kt k = true) : ∀ {kvs : List (PV × PV)} {j : Nat}, e9 P kt kvs -> aR k kvs = some j -> ∀ kv, kvs[j]? = some kv -> kv.1 = k
 | [], j, _, h, _, _ => by cases h
 | (k', v') :: r, j, hks, h, kv, hkv => by
   unfold aR at h;cases hq : cP k k' with
   | true =>
     rw [hq] at h; cases h;simp only [qap, Option.some.injEq] at hkv;subst hkv;exact (zJ hk (hks _ (by simp)) hq).symm
   | false =>
     rw [hq] at h;cases hp : aR k r with
     | none => simp [hp] at h
     | some i =>
       simp [hp] at h;subst h;exact oM hk (fun x hx => hks x (by simp [hx])) hp kv (by simpa using hkv)
theorem gL (es : Array MapEntry) (j : Nat) : es.toList.getD j default = es.getD j default := by
 rw [qw, Array.getElem?_toList, qg]
theorem tI {q : IntKind} {n : Int} : ∀ (L : List MapEntry) (kvs : List (PV × PV)) (i : Nat), L.length = kvs.length -> (∀ (j : Nat) kv, kvs[j]? = some kv -> ∃ a, kv.1 = .int q a /\ (L.getD j default).key = .int q a) ->
 Instr.findNow (.int q) (.int q n) L i = some ((aR (.int q n) kvs).map fun j => (i + j, (L.getD j default).val))
 | [], [], i, _, _ => rfl
 | [], _ :: _, _, h, _ => by cases h
 | _ :: _, [], _, h, _ => by cases h
 | e :: L, (k', v') :: r, i, h, hk => by
   obtain ⟨a, h1, h2⟩ := hk 0 (k', v') rfl;simp only [qbu] at h2;subst h1;unfold Instr.findNow aR;have ih := tI (n := n) L r (i + 1) (by simpa using h) (fun j kv hj => by simpa using hk (j + 1) kv (by simpa using hj))
   simp only [h2, Instr.sameNow, if_true, cP, cN];cases hq : (n == a) with
   | true => simp
   | false =>
     simp only [cond_false, ih];cases aR (.int q n) r with
     | none => rfl
     | some j => simp; omega
theorem tJ {kt : TypeId} {aa : List PV} {c : Value} (hk : bA P kt (.agg aa) = true) (hr : Rep w I (.agg aa) c) : ∀ (L : List MapEntry) (kvs : List (PV × PV)) (i : Nat), L.length = kvs.length -> e9 P kt kvs ->
 (∀ (j : Nat) kv, kvs[j]? = some kv -> Rep w I kv.1 (L.getD j default).key) ->
 (Instr.findAsking kt c L i).run P w = .ok ((aR (.agg aa) kvs).map fun j => (i + j, (L.getD j default).val)) w
 | [], [], i, _, _, _ => rfl
 | [], _ :: _, _, h, _, _ => by cases h
 | _ :: _, [], _, h, _, _ => by cases h
 | e :: L, (k', v') :: r, i, h, hks, hrs => by
   have hk' := hks (k', v') (by simp);have r1 := hrs 0 (k', v') rfl;simp only [qbu] at r1 hk';obtain ⟨bs, rfl⟩ := zI hk hk';have ih := tJ hk hr L r (i + 1) (by simpa using h) (fun x hx => hks x (by simp [hx])) (fun j kv hj => by simpa using hrs (j + 1) kv (by simpa using hj))
   simp only [bA, qc] at hk hk'
   have hq : (Op.equal kt c e.key).run P w = .ok (bE aa bs) w := by
    generalize e.key = ck at r1;cases hr with | agg _ va a1 a2 a3 => cases r1 with | agg _ vb b1 b2 b3 => exact zH hk.1 (lY hk.2 hk'.2) a1 a2 b1 b2
   unfold Instr.findAsking aR;simp only [qe, hq, qa, qar, cP];cases hb : bE aa bs with
   | true => simp
   | false =>
     simp only [qu, if_false, cond_false, ih];cases aR (.agg aa) r with
     | none => rfl
     | some j => simp; omega
theorem lZ {kt : TypeId} {k : PV} {c : Value} (hk : bA P kt k = true) (hr : Rep w I k c) {es : Array MapEntry} {kvs : List (PV × PV)} (hl : es.size = kvs.length) (hks : e9 P kt kvs)
 (hrs : ∀ (j : Nat) kv, kvs[j]? = some kv -> Rep w I kv.1 (es.getD j default).key) :
 (Instr.findKey kt c es.toList).run P w = .ok ((aR k kvs).map fun j => (j, (es.getD j default).val)) w := by
 cases k with
 | int q n =>
   cases hr;simp only [bA] at hk;split at hk
   ·rename_i q' hu;have := c0 hk;subst this;unfold Instr.findKey;simp only [underlying, qe, run_program, qa, hu, qd]
    rw [tI es.toList kvs 0 (by simpa using hl) (fun j kv hj => by
     have h1 := hks kv (qab hj);have h2 := hrs j kv hj;rw [gL];generalize (es.getD j default).key = cc at h2;obtain ⟨kk, vv⟩ := kv;simp only at h1 h2 ⊢;unfold bA at h1;split at h1
     ·rename_i q2 n2;simp only [hu] at h1;have := c0 h1;subst this;cases h2;exact ⟨n2, rfl, rfl⟩
     ·simp only [gK, eN, hu, Bool.false_and] at h1; cases h1
     ·cases h1)]
    simp only [qd];congr 1;cases aR (.int q' n) kvs with
    | none => rfl
    | some j => simp only [qj, qt, gL]
   ·cases hk
 | agg aa =>
   have hw : (match P.underlying kt with | some (.array _ _) | some (.struct _) => true | _ => false) = true := by
    have hk2 := hk;simp only [bA, qc] at hk2;have hf := hk2.1;unfold gK eN at hf;cases hu : P.underlying kt with
    | none => simp [hu] at hf
    | some d => cases d <;> simp [hu] at hf ⊢
   rw [run_findKey_eq w hw, tJ hk hr es.toList kvs 0 (by simpa using hl) hks (fun j kv hj => by rw [gL]; exact hrs j kv hj)]
   congr 1;cases aR (.agg aa) kvs with
   | none => rfl
   | some j => simp only [qj, qt, gL]
 | _ => simp [bA] at hk
end Go.Eng
namespace Go.Eng
open Go
open Go.ChangeMaps (setBlock)
variable {P : Program} {w : World} {I : Nat -> Prop} {G : Nat -> Pl} {h : Hp} {e : Env} {o : Oper} {t : TypeId} {K : Kt} {cv : Value} {a : Act}
def fN (q : IntKind) (kvs : List (PV × PV)) : Prop := ∀ kv ∈ kvs, ∃ n, kv.1 = .int q n
def j5 (P : Program) (kt : TypeId) (k : PV) (kvs : List (PV × PV)) (K : Prop) : Prop := match k with
 | .int q' _ => match P.underlying kt with
   | some (.int q) => bif bT q q' then fN q kvs /\ K else aA 2702
   | _ => aA 2705
 | .agg aa => e9 P kt kvs /\ bA P kt (.agg aa) = true /\ K
 | _ => aA 2704
theorem l3 (q : IntKind) : bT q q = true := by cases q <;> rfl
theorem oO {kt : TypeId} {k : PV} {kvs : List (PV × PV)} {K : Prop} (h : j5 P kt k kvs K) : bA P kt k = true /\ e9 P kt kvs /\ K := by
 unfold j5 at h;split at h
 ·rename_i q' n;split at h
  ·rename_i q hu;cases hq : bT q q' with
   | false => rw [hq] at h; cases h
   | true =>
     rw [hq] at h;obtain ⟨h1, h2⟩ := h;refine ⟨by simp only [bA, hu, hq], fun kv hkv => ?_, h2⟩;obtain ⟨m, hm⟩ := h1 kv hkv;simp only [hm, bA, hu, l3]
  ·cases h
 ·exact ⟨h.2.1, h.1, h.2.2⟩
 ·cases h
def oP (P : Program) (e : Env) (h : Hp) (t : TypeId) (r : Option Operand) (K : Kt) : Prop :=
 match r with
 | none => K (.mp h.length) e (h ++ [.mp []])
 | some _ => aA 2701
theorem tK {r : Option Operand} (ho : o.op = .makeMap t r) (hK : oP P e h t r K) : OpK P o e h K := by
 unfold oP at hK;split at hK
 ·intro w I G a next Qx hh he hnx
  unfold Oper.wp
  have h1 : (execOp a.eval o).run P w = .ok (.value (.map (some w.heap.size))) (w.alloc (.map #[] 0)) := by
   unfold execOp; rw [ho];refine aY ?_;simp only [qal, Instr.makeMap, qe, qd, qa, run_newObj]
   try rfl
  rw [h1];have hl := Like.push G h ⟨w.heap.size, 0, 0, 0⟩ (.mp []);refine hnx _ e _ _ I _ _ hK (hh.push _ _ ⟨w.heap.size, 0, 0, 0⟩ rfl ⟨#[], 0, gC w _, ⟨rfl, rfl, fun i hi => by simp at hi⟩, fun i kv hi => by simp at hi⟩) (he.mono (.alloc w I I _ fun _ x => x) hl) ?_ (TrH.push _ (.mp []) _ rfl) ⟨by simp, fun b hb => bG w _ hb⟩;have := LRel.mp (w := w.alloc (.map #[] 0)) (I := I) (G := aG G h.length ⟨w.heap.size, 0, 0, 0⟩) (h := h ++ [.mp []]) h.length [] (by simp);simpa [aG] using this
 ·cases hK
theorem iF {b : Nat} {es : Array MapEntry} {ck : Nat} (hb : w.heap[b]? = some (.map es ck)) (o' : Obj) : (setObj b o').run P w = .ok () (setBlock w b o') := by
 simp [setObj, Sem.run, hb, setBlock]
def fO (es : Array MapEntry) (ck : Nat) (key v : Value) : Option Nat -> Obj
 | some j => .map (es.modify j fun e => { e with key, val := v }) ck
 | none => .map (es.push { key, val := v, born := ck }) (ck + 1)
theorem tL {t kt et : TypeId} {k : PV} {c : Value} {b : Nat} (ht : P.underlying t = some (.map kt et)) {es : Array MapEntry} {ck : Nat} (hb : w.heap[b]? = some (.map es ck)) {kvs : List (PV × PV)} (hl : es.size = kvs.length)
 (hk : bA P kt k = true) (hr : Rep w I k c) (hks : e9 P kt kvs) (hrs : ∀ (j : Nat) kv, kvs[j]? = some kv -> Rep w I kv.1 (es.getD j default).key) (v : Value) :
 (Instr.mapUpdate t (.map (some b)) c v).run P w = .ok () (setBlock w b (fO es ck c v (aR k kvs))) := by
 unfold Instr.mapUpdate;simp only [underlying, qe, run_program, qa, ht, qd, f0 hb, j4 hk hr, lZ hk hr hl hks hrs];cases hp : aR k kvs with
 | none => simp only [qal]; exact iF hb _
 | some j =>
   have hj := iE hp;have hje : j < es.size := by omega
   have h1 := oM hk hks hp _ (qf hj);have h2 := hrs j kvs[j] (qf hj);rw [h1] at h2;have h3 := tG hk h2 hr
   have hold : ((es[j]?.map (·.key)).getD c) = c := by
    rw [qx hje];simp only [qj, ql];rw [<- h3]; simp [qy, hje]
   simp only [qj, hold, Instr.keyThatStays, tH hk hr, if_true, qe, qd, qa];exact iF hb _
def l5 (P : Program) (e : Env) (h : Hp) (t : TypeId) (m k x : Operand) (K : Kt) : Prop :=
 match P.underlying t with
 | some (.map kt _) => match aF [] e m, aF [] e k, aF [] e x with
   | some (.mp o), some (.pv k), some (.pv p) => match h[o]? with
     | some (.mp kvs) => j5 P kt k kvs (K (.pv .unit) e (h.set o (.mp (c8 k p kvs))))
     | _ => aA 2703
   | _, _, _ => aA 2701
 | _ => aA 2706
theorem oQ {R : PV -> Value -> Prop} {es : Array MapEntry} {ck : Nat} {kvs : List (PV × PV)} {k p : PV} {ck0 v : Value} (h : mapOK es ck kvs.length)
 (hr : ∀ (i : Nat) kv, kvs[i]? = some kv -> R kv.1 (es.getD i default).key /\ R kv.2 (es.getD i default).val) (hk : R k ck0) (hv : R p v) :
 ∃ es' ck', fO es ck ck0 v (aR k kvs) = .map es' ck' /\ mapOK es' ck' (c8 k p kvs).length /\ ∀ (i : Nat) kv, (c8 k p kvs)[i]? = some kv -> R kv.1 (es'.getD i default).key /\ R kv.2 (es'.getD i default).val := by
 obtain ⟨h1, h2, h3⟩ := h;unfold c8;cases hp : aR k kvs with
 | some j =>
   have hj := iE hp
   have hget : ∀ i, (es.modify j fun e => { e with key := ck0, val := v }).getD i default = if i = j then { es.getD i default with key := ck0, val := v } else es.getD i default := fun i => by
    simp only [qg, qbp];by_cases c : i = j
    ·subst c;rw [if_pos rfl, if_pos rfl, qx (by omega)];rfl
    ·rw [if_neg c, if_neg (fun e => c e.symm)]
   have hb : ∀ i, ((es.modify j fun e => { e with key := ck0, val := v }).getD i default).born = (es.getD i default).born := fun i => by rw [hget]; split <;> rfl
   refine ⟨_, _, rfl, ⟨by simp [h1], by simp [h2], fun i hi => by rw [hb]; exact h3 i (by simpa using hi)⟩, fun i kv hkv => ?_⟩
   rw [hget];simp only [qaq] at hkv;by_cases c : j = i
   ·subst c;rw [if_pos rfl, if_pos hj] at hkv;cases hkv;rw [if_pos rfl];exact ⟨hk, hv⟩
   ·rw [if_neg c] at hkv;rw [if_neg (fun e => c e.symm)];exact hr i kv hkv
 | none =>
   have hget : ∀ i, i < es.size -> (es.push { key := ck0, val := v, born := ck }).getD i default = es.getD i default := fun i hi => by
    simp only [qg, qbv];rw [if_neg (by omega)]
   have hlast : (es.push { key := ck0, val := v, born := ck }).getD es.size default = { key := ck0, val := v, born := ck } := by
    simp [qg, qbv]
   refine ⟨_, _, rfl, ⟨by simp [h1], by simp [h2], fun i hi => ?_⟩, fun i kv hkv => ?_⟩
   ·simp only [Array.size_push] at hi;by_cases c : i = es.size
    ·subst c; rw [hlast, h2, h1]
    ·rw [hget i (by omega)]; exact h3 i (by omega)
   ·by_cases c : i < kvs.length
    ·rw [qn c] at hkv;rw [hget i (by omega)];exact hr i kv hkv
    ·rw [qaa (by omega)] at hkv
     have c' : i = kvs.length := by
      rcases Nat.lt_or_ge i (kvs.length + 1) with h | h
      ·omega
      ·rw [qas (by simp; omega)] at hkv; cases hkv
     subst c';simp only [qby, qap, Option.some.injEq] at hkv;subst hkv;rw [<- h1, hlast];exact ⟨hk, hv⟩
theorem tM {m k x : Operand} (ho : o.op = .mapUpdate t m k x ∨ o.op = .insert t m k x) (hK : l5 P e h t m k x K) : OpS P o e h K := by
 unfold l5 at hK;split at hK
 ·rename_i kt et ht;split at hK
  ·rename_i ob kk p hm hk hx;split at hK
   ·rename_i kvs hob;obtain ⟨hkk, hks, hK⟩ := oO hK;intro w I G a next Qx hh he hn
    have hm' := aC he (AOK.nil _) hm;have hk' := aC he (AOK.nil _) hk;have hx' := aC he (AOK.nil _) hx;obtain ⟨_, _, hcv, _⟩ := LRel.map_inv hh hm' hob;obtain ⟨es, ck, e1, e2, e3⟩ := hh.obs _ _ hob
    have hkr : Rep w I kk (a.eval k) := by
     generalize a.eval k = cx at hk';cases hk' with | pv _ _ h1 => exact h1
    have hxr : Rep w I p (a.eval x) := by
     generalize a.eval x = cx at hx';cases hx' with | pv _ _ h1 => exact h1
    have hrun := tL ht e1 e2.1 hkk hkr hks (fun j kv hj => (e3 j kv hj).1) (a.eval x);generalize hob' : fO es ck (a.eval k) (a.eval x) (aR kk kvs) = obj at hrun
    have hrun2 : (execOp a.eval o).run P w = .ok .skip (setBlock w (G ob).blk obj) := by
     unfold execOp;rcases ho with ho | ho <;> rw [ho] <;> simp only [hcv, qe, hrun, qa, qd]
    unfold Oper.wp; rw [hrun2];have hww : ∀ b, b ≠ (G ob).blk -> (setBlock w (G ob).blk obj).heap[b]? = w.heap[b]? := fun b hb => Go.ChangeMaps.heap_setBlock_other e1 _ hb;have hsz : (setBlock w (G ob).blk obj).heap.size = w.heap.size := by simp [setBlock]
    have hK' := Keeps.upd hh hob trivial hww;have hL : Like G G h (h.set ob (.mp (c8 kk p kvs))) := Like.set hob trivial
    obtain ⟨es', ck', f1, f2, f3⟩ := oQ (R := Rep (setBlock w (G ob).blk obj) I) (k := kk) (p := p) (ck0 := a.eval k) (v := a.eval x) e2
     (fun i kv hi => ⟨(e3 i kv hi).1.mono hK'.1 hK'.2, (e3 i kv hi).2.mono hK'.1 hK'.2⟩) (hkr.mono hK'.1 hK'.2) (hxr.mono hK'.1 hK'.2)
    rw [hob'] at f1
    have hfz : ∀ b, (setBlock w (G ob).blk obj).frozen? b = w.frozen? b := fun b => by
     rw [f1]; exact Go.ChangeMaps.frozen?_setBlock e1 b
    refine hn _ _ _ _ _ _ undef hK (hh.upd hob trivial hww (by rw [hsz]; exact qi _) trivial ⟨es', ck', ?_, f2, f3⟩) (he.mono hK' hL) (.pv _ _ .unit) (TrH.upd hob trivial hww (by rw [hsz]; exact qi _) rfl rfl rfl hfz (qi _) fun _ => rfl);rw [Go.ChangeMaps.heap_setBlock_same e1, f1]
   ·cases hK
  ·cases hK
 ·cases hK
theorem tN {k v : PV} {a b : Value} (h1 : Rep w I k a) (h2 : Rep w I v b) : Rep w I (.tup [k, v]) (.tuple #[a, b]) := by
 refine .tup [k, v] #[a, b] rfl fun i u hu => ?_
 match i, hu with
 | 0, hu => cases hu; exact h1
 | 1, hu => cases hu; exact h2
def l6 (k : PV) (kvs : List (PV × PV)) : Nat := (aR k kvs).getD kvs.length
def gM (k z : PV) (kvs : List (PV × PV)) : PV := (cJ k kvs).getD z
def iG (n : Nat) (p : PV) (kvs : List (PV × PV)) : List (PV × PV) := kvs.set n ((kvs.getD n (.unit, .unit)).1, p)
def oR (P : Program) (e : Env) (h : Hp) (t : TypeId) (m k : Operand) (K : Kt) : Prop :=
 match P.underlying t with
 | some (.map kt et) => match aF [] e m, aF [] e k with
   | some (.mp o), some (.pv k) => match h[o]? with
     | some (.mp kvs) => match P.info? et with
       | some ti => match ti.zero with
         | some z => match dX z with
           | some p => j5 P kt k kvs (K (.pv (.tup [gM k p kvs, .int .i64 (l6 k kvs)])) e (h.set o (.mp (c8 k (gM k p kvs) kvs))))
           | none => aA 2721
         | none => aA 2722
       | none => aA 2723
     | _ => aA 2724
   | _, _ => aA 2725
 | _ => aA 2726
def oT (e : Env) (h : Hp) (m s x : Operand) (K : Kt) : Prop :=
 match aF [] e m, aF [] e s, aF [] e x with
 | some (.mp o), some (.pv (.int _ n)), some (.pv p) => match h[o]? with
   | some (.mp kvs) => (0 <= n /\ n.toNat < kvs.length) /\ K (.pv .unit) e (h.set o (.mp (iG n.toNat p kvs)))
   | _ => aA 2727
 | _, _, _ => aA 2728
theorem tO {tm : Array Value} (hh : HRel w I G h) (he : ERel w I G h e tm) {ob : Nat} {kvs kvs' : List (PV × PV)} (hob : h[ob]? = some (.mp kvs)) {es es' : Array MapEntry} {ck ck' : Nat} (e1 : w.heap[(G ob).blk]? = some (.map es ck))
 (h2 : mapOK es' ck' kvs'.length) (h3 : ∀ w2, Keeps w I w2 I -> ∀ (i : Nat) kv, kvs'[i]? = some kv -> Rep w2 I kv.1 (es'.getD i default).key /\ Rep w2 I kv.2 (es'.getD i default).val) :
 HRel (setBlock w (G ob).blk (.map es' ck')) I G (h.set ob (.mp kvs')) /\ ERel (setBlock w (G ob).blk (.map es' ck')) I G (h.set ob (.mp kvs')) e tm /\
  TrH w I G h (setBlock w (G ob).blk (.map es' ck')) I G (h.set ob (.mp kvs')) /\ Keeps w I (setBlock w (G ob).blk (.map es' ck')) I := by
 have hww : ∀ b, b ≠ (G ob).blk -> (setBlock w (G ob).blk (.map es' ck')).heap[b]? = w.heap[b]? := fun b hb => Go.ChangeMaps.heap_setBlock_other e1 _ hb;have hsz : (setBlock w (G ob).blk (.map es' ck')).heap.size = w.heap.size := by simp [setBlock]
 have hK' := Keeps.upd hh hob trivial hww;have hL : Like G G h (h.set ob (.mp kvs')) := Like.set hob trivial;have hfz : ∀ b, (setBlock w (G ob).blk (.map es' ck')).frozen? b = w.frozen? b := fun b => Go.ChangeMaps.frozen?_setBlock e1 b;exact ⟨hh.upd hob trivial hww (by rw [hsz]; exact qi _) trivial ⟨es', ck', Go.ChangeMaps.heap_setBlock_same e1 _, h2, h3 _ hK'⟩, he.mono hK' hL, TrH.upd hob trivial hww (by rw [hsz]; exact qi _) rfl rfl rfl hfz (qi _) fun _ => rfl, hK'⟩
theorem zK {t kt et : TypeId} {k : PV} {c : Value} {b : Nat} (ht : P.underlying t = some (.map kt et)) {ti : TypeInfo} {z : Value} (hi : P.info? et = some ti) (hz : ti.zero = some z) {es : Array MapEntry} {ck : Nat} (hb : w.heap[b]? = some (.map es ck)) {kvs : List (PV × PV)} (hm : mapOK es ck kvs.length)
 (hk : bA P kt k = true) (hr : Rep w I k c) (hks : e9 P kt kvs) (hrs : ∀ (j : Nat) kv, kvs[j]? = some kv -> Rep w I kv.1 (es.getD j default).key) :
 (Instr.mapEntry t (.map (some b)) c).run P w = .ok (.tuple #[(match aR k kvs with | some j => (es.getD j default).val | none => z), .int .i64 (l6 k kvs)])
  (setBlock w b (fO es ck c (match aR k kvs with | some j => (es.getD j default).val | none => z) (aR k kvs))) := by
 unfold Instr.mapEntry;simp only [underlying, qe, run_program, qa, ht, qd, f0 hb, j4 hk hr, lZ hk hr hm.1 hks hrs, l6];cases hp : aR k kvs with
 | none =>
   simp only [qal, zeroValue, typeInfo, qe, run_program, qa, hi, hz, qd, fO];rw [iF hb];simp only [qa, qo, hm.2.1, goInt, qd]
 | some j =>
   have hj := iE hp;have hje : j < es.size := by rw [hm.1]; exact hj
   have h1 := oM hk hks hp _ (qf hj);have h2 := hrs j kvs[j] (qf hj);rw [h1] at h2;have h3 := tG hk h2 hr
   have hold : ((es[j]?.map (·.key)).getD c) = c := by
    rw [qx hje];simp only [qj, ql];rw [<- h3]; simp [qy, hje]
   have hborn : ((es[j]?.map (fun x => (x.born : Int))).getD 0) = j := by
    rw [qx hje];simp only [qj, ql];have := hm.2.2 j hje;simp only [qy, hje, dif_pos] at this;have h2 : es[j].born = j := this;rw [h2]
   have hobj : fO es ck c (es.getD j default).val (some j) = .map (es.modify j fun e => { e with key := c }) ck := by
    simp only [fO];congr 1;apply Array.ext
    ·simp
    ·intro i hi1 hi2;simp only [Array.getElem_modify];split
     ·rename_i hji;subst hji;simp [qy, hje]
     ·rfl
   simp only [qj, hold, hborn, Instr.keyThatStays, tH hk hr, if_true, qe, qd, qa, hobj, ql];rw [iF hb];simp only [qa, goInt, qd]
theorem zL {m k : Operand} (ho : o.op = .mapEntry t m k) (hK : oR P e h t m k K) : OpS P o e h K := by
 unfold oR at hK;split at hK
 ·rename_i kt et ht;split at hK
  ·rename_i ob kk hm hk;split at hK
   ·rename_i kvs hob;split at hK
    ·rename_i ti hi;split at hK
     ·rename_i z hz;split at hK
      ·rename_i p hp;obtain ⟨hkk, hks, hK⟩ := oO hK;intro w I G a next Qx hh he hn
       have hm' := aC he (AOK.nil _) hm;have hk' := aC he (AOK.nil _) hk;obtain ⟨_, _, hcv, _⟩ := LRel.map_inv hh hm' hob;obtain ⟨es, ck, e1, e2, e3⟩ := hh.obs _ _ hob
       have hkr : Rep w I kk (a.eval k) := by
        generalize a.eval k = cx at hk';cases hk' with | pv _ _ h1 => exact h1
       have hrun := zK ht hi hz e1 e2 hkk hkr hks (fun j kv hj => (e3 j kv hj).1)
       have hvr : Rep w I (gM kk p kvs) (match aR kk kvs with | some j => (es.getD j default).val | none => z) := by
        unfold gM cJ;cases hpos : aR kk kvs with
        | none => exact iZ hp
        | some j =>
          have hj := iE hpos;have := (e3 j kvs[j] (qf hj)).2;simpa [hj] using this
       generalize (match aR kk kvs with | some j => (es.getD j default).val | none => z) = v0 at hrun hvr
       obtain ⟨es', ck', f1, f2, _⟩ := oQ (R := Rep w I) (k := kk) (p := gM kk p kvs) (ck0 := a.eval k) (v := v0) e2 e3 hkr hvr
       have f3 : ∀ w2, Keeps w I w2 I -> ∀ (i : Nat) kv, (c8 kk (gM kk p kvs) kvs)[i]? = some kv -> Rep w2 I kv.1 (es'.getD i default).key /\ Rep w2 I kv.2 (es'.getD i default).val := fun w2 hk2 => by
        obtain ⟨es2, ck2, q1, q2, q3⟩ := oQ (R := Rep w2 I) (k := kk) (p := gM kk p kvs) (ck0 := a.eval k) (v := v0) e2 (fun i kv hi => ⟨(e3 i kv hi).1.mono hk2.1 hk2.2, (e3 i kv hi).2.mono hk2.1 hk2.2⟩) (hkr.mono hk2.1 hk2.2) (hvr.mono hk2.1 hk2.2);rw [f1] at q1;injection q1 with q1 q4;subst q1;exact q3
       rw [f1] at hrun
       have hrun2 : (execOp a.eval o).run P w = .ok (.value (.tuple #[v0, .int .i64 (l6 kk kvs)])) (setBlock w (G ob).blk (.map es' ck')) := by
        unfold execOp; rw [ho];refine aY ?_;rw [hcv]; exact hrun
       unfold Oper.wp; rw [hrun2];obtain ⟨g1, g2, g3, g4⟩ := tO hh he hob e1 f2 f3;exact hn _ _ _ _ _ _ _ hK g1 g2 (.pv _ _ (tN (hvr.mono g4.1 g4.2) (.int _ _))) g3
      ·cases hK
     ·cases hK
    ·cases hK
   ·cases hK
  ·cases hK
 ·cases hK
theorem zM {b : Nat} {es : Array MapEntry} {ck m : Nat} (hb : w.heap[b]? = some (.map es ck)) (hm : mapOK es ck m) {q : IntKind} {n : Int} (hn : 0 <= n /\ n.toNat < m) (v : Value) :
 (Instr.entryStore t (.map (some b)) (.int q n) v).run P w = .ok () (setBlock w b (.map (es.modify n.toNat fun e => { e with val := v }) ck)) := by
 have hlt : n.toNat < es.size := by rw [hm.1]; exact hn.2
 have hidx : es.findIdx? (fun e => (e.born : Int) == n) = some n.toNat := by
  rw [Array.findIdx?_eq_some_iff_getElem];refine ⟨hlt, ?_, fun j hj => ?_⟩
  ·have := hm.2.2 n.toNat hlt;simp only [qy, hlt, dif_pos] at this;simp only [beq_iff_eq]
   change ((es[n.toNat].born : Nat) : Int) = n
   have h2 : es[n.toNat].born = n.toNat := this;rw [h2]; omega
  ·have hj' : j < es.size := by omega
   have := hm.2.2 j hj';simp only [qy, hj', dif_pos] at this;have h2 : es[j].born = j := this;simp only [beq_iff_eq, h2];omega
 unfold Instr.entryStore;simp only [qe, f0 hb, qa, asInt, asIntOf, qd, hidx];exact iF hb _
theorem zN {es : Array MapEntry} {ck : Nat} {kvs : List (PV × PV)} {n : Nat} {p : PV} {v : Value} (h : mapOK es ck kvs.length) (hn : n < kvs.length) :
 mapOK (es.modify n fun e => { e with val := v }) ck (iG n p kvs).length /\ ∀ {R : PV -> Value -> Prop}, (∀ (i : Nat) kv, kvs[i]? = some kv -> R kv.1 (es.getD i default).key /\ R kv.2 (es.getD i default).val) -> R p v ->
  ∀ (i : Nat) kv, (iG n p kvs)[i]? = some kv -> R kv.1 ((es.modify n fun e => { e with val := v }).getD i default).key /\ R kv.2 ((es.modify n fun e => { e with val := v }).getD i default).val := by
 obtain ⟨h1, h2, h3⟩ := h
 have hget : ∀ i, (es.modify n fun e => { e with val := v }).getD i default = if i = n then { es.getD i default with val := v } else es.getD i default := fun i => by
  simp only [qg, qbp];by_cases c : i = n
  ·subst c;rw [if_pos rfl, if_pos rfl, qx (by omega)];rfl
  ·rw [if_neg c, if_neg (fun e => c e.symm)]
 refine ⟨⟨by simp [h1, iG], by simp [h2, iG], fun i hi => ?_⟩, fun {R} hr hp i kv hkv => ?_⟩
 ·rw [hget];split
  ·exact h3 i (by simpa using hi)
  ·exact h3 i (by simpa using hi)
 ·rw [hget];unfold iG at hkv;rw [qaq] at hkv;by_cases c : n = i
  ·subst c;rw [if_pos rfl, if_pos hn] at hkv;cases hkv;rw [if_pos rfl];refine ⟨?_, hp⟩;have := (hr n kvs[n] (qf hn)).1;simpa [qaf, hn] using this
  ·rw [if_neg c] at hkv;rw [if_neg (fun e => c e.symm)];exact hr i kv hkv
theorem zO {m s x : Operand} (ho : o.op = .entryStore t m s x) (hK : oT e h m s x K) : OpS P o e h K := by
 unfold oT at hK;split at hK
 ·rename_i ob q n p hm hs hx;split at hK
  ·rename_i kvs hob;obtain ⟨hlt, hK⟩ := hK;intro w I G a next Qx hh he hn
   have hm' := aC he (AOK.nil _) hm;have hs' := aC he (AOK.nil _) hs;have hx' := aC he (AOK.nil _) hx;obtain ⟨_, _, hcv, _⟩ := LRel.map_inv hh hm' hob;obtain ⟨es, ck, e1, e2, e3⟩ := hh.obs _ _ hob
   have hxr : Rep w I p (a.eval x) := by
    generalize a.eval x = cx at hx';cases hx' with | pv _ _ h1 => exact h1
   have hse : a.eval s = .int q n := by
    generalize a.eval s = cx at hs';cases hs' with | pv _ _ h1 => cases h1; rfl
   obtain ⟨f2, f3⟩ := zN (p := p) (v := a.eval x) e2 hlt.2
   have hrun2 : (execOp a.eval o).run P w = .ok .skip (setBlock w (G ob).blk (.map (es.modify n.toNat fun e => { e with val := a.eval x }) ck)) := by
    unfold execOp; rw [ho];simp only [hcv, hse, qe, zM (t := t) e1 e2 hlt, qa, qd]
   unfold Oper.wp; rw [hrun2];obtain ⟨g1, g2, g3, g4⟩ := tO hh he hob e1 f2 fun w2 hk2 => f3 (fun i kv hi => ⟨(e3 i kv hi).1.mono hk2.1 hk2.2, (e3 i kv hi).2.mono hk2.1 hk2.2⟩) (hxr.mono hk2.1 hk2.2);exact hn _ _ _ _ _ _ undef hK g1 g2 (.pv _ _ .unit) g3
  ·cases hK
 ·cases hK
def oU (h : Hp) : LV -> Option (List (PV × PV))
 | .pv (.mp kvs) => some kvs
 | .pv .nilm => some []
 | .mp o => match h[o]? with | some (.mp kvs) => some kvs | _ => none
 | _ => none
theorem zP (hh : HRel w I G h) {u : LV} {kvs : List (PV × PV)} (hm : oU h u = some kvs) {cv : Value} (hr : LRel w I G h u cv) :
 ∃ es : Array MapEntry, es.size = kvs.length /\ (∀ (i : Nat) kv, kvs[i]? = some kv -> Rep w I kv.1 (es.getD i default).key /\ Rep w I kv.2 (es.getD i default).val) /\
  (cv = .map none /\ es = #[] ∨ ∃ b ck, cv = .map (some b) /\ w.heap[b]? = some (.map es ck)) := by
 unfold oU at hm;split at hm
 ·cases hm;cases hr with | pv _ _ h1 => cases h1 with | mp _ b ck es e1 e2 e3 e4 e5 => exact ⟨es, e3.1, fun i kv hi => ⟨e4 i kv hi, e5 i kv hi⟩, .inr ⟨b, ck, rfl, e2⟩⟩
 ·cases hm;cases hr with | pv _ _ h1 => cases h1; exact ⟨#[], rfl, fun i kv hi => by simp at hi, .inl ⟨rfl, rfl⟩⟩
 ·split at hm
  ·rename_i o kvs' ho;cases hm;obtain ⟨_, _, hcv, _⟩ := LRel.map_inv hh hr ho;obtain ⟨es, ck, e1, e2, e3⟩ := hh.obs _ _ ho;exact ⟨es, e2.1, e3, .inr ⟨_, ck, hcv, e1⟩⟩
  ·cases hm
 ·cases hm
theorem tP {t kt et : TypeId} {k : PV} {c : Value} (ht : P.underlying t = some (.map kt et)) {ti : TypeInfo} {z : Value} (hi : P.info? et = some ti) (hz : ti.zero = some z) {cv : Value} {es : Array MapEntry}
 (hcv : cv = .map none /\ es = #[] ∨ ∃ b ck, cv = .map (some b) /\ w.heap[b]? = some (.map es ck)) {kvs : List (PV × PV)} (hl : es.size = kvs.length)
 (hk : bA P kt k = true) (hr : Rep w I k c) (hks : e9 P kt kvs) (hrs : ∀ (j : Nat) kv, kvs[j]? = some kv -> Rep w I kv.1 (es.getD j default).key) (ok : Bool) :
 (Instr.lookup t cv c ok).run P w = .ok (match aR k kvs with
  | some j => if ok then .tuple #[(es.getD j default).val, .bool true] else (es.getD j default).val
  | none => if ok then .tuple #[z, .bool false] else z) w := by
 unfold Instr.lookup;have hf := lZ hk hr hl hks hrs;rcases hcv with ⟨rfl, rfl⟩ | ⟨b, ck, rfl, hb⟩
 ·simp only [underlying, qe, run_program, qa, ht, qd, j4 hk hr, hf];cases hp : aR k kvs with
  | some j => simp only [qj, qe, qd, qa]
  | none => simp only [qal, zeroValue, typeInfo, qe, run_program, qa, hi, hz, qd]
 ·simp only [underlying, qe, run_program, qa, ht, qd, f0 hb, j4 hk hr, hf];cases hp : aR k kvs with
  | some j => simp only [qj, qe, qd, qa]
  | none => simp only [qal, zeroValue, typeInfo, qe, run_program, qa, hi, hz, qd]
def oV (ok : Bool) (v : PV) (b : Bool) : LV := bif ok then .pv (.tup [v, .bool b]) else .pv v
def l7 (P : Program) (e : Env) (h : Hp) (t : TypeId) (m k : Operand) (ok : Bool) (K : Kt) : Prop :=
 match P.underlying t with
 | some (.map kt et) => match aF [] e m, aF [] e k with
   | some u, some (.pv k) => match oU h u with
     | some kvs => match P.info? et with
       | some ti => match ti.zero with
         | some z => match dX z with
           | some p => j5 P kt k kvs ((∀ v, cJ k kvs = some v -> c6 P 4 et v fun v => K (oV ok v true) e h) /\ (cJ k kvs = none -> K (oV ok p false) e h))
           | none => aA 2711
         | none => aA 2712
       | none => aA 2713
     | none => aA 2715
   | _, _ => aA 2716
 | _ => aA 2718
theorem tQ {v : PV} (hv : Rep w I v cv) (ok b : Bool) : LRel w I G h (oV ok v b) (if ok then .tuple #[cv, .bool b] else cv) := by
 cases ok with
 | false => exact .pv _ _ hv
 | true =>
   refine .pv _ _ (.tup [v, .bool b] #[cv, .bool b] rfl fun k u hu => ?_)
   match k, hu with
   | 0, hu => cases hu; exact hv
   | 1, hu => cases hu; exact .bool b
theorem tR {m k : Operand} {ok : Bool} (ho : o.op = .lookup t m k ok) (hK : l7 P e h t m k ok K) : OpK P o e h K := by
 unfold l7 at hK;split at hK
 ·rename_i kt et ht;split at hK
  ·rename_i u kk hm hk;split at hK
   ·rename_i kvs hkv;split at hK
    ·rename_i ti hi;split at hK
     ·rename_i z hz;split at hK
      ·rename_i p hp;obtain ⟨hkk, hks, hK1, hK2⟩ := oO hK;intro w I G a next Qx hh he hn
       have hm' := aC he (AOK.nil _) hm;have hk' := aC he (AOK.nil _) hk
       have hkr : Rep w I kk (a.eval k) := by
        generalize a.eval k = cx at hk';cases hk' with | pv _ _ h1 => exact h1
       obtain ⟨es, hl, hr, hcv⟩ := zP hh hkv hm';have hrun := tP ht hi hz hcv hl hkk hkr hks (fun j kv hj => (hr j kv hj).1) ok;cases hpos : aR kk kvs with
       | some j =>
         rw [hpos] at hrun;have hj := iE hpos;have hg : cJ kk kvs = some kvs[j].2 := by simp [cJ, hpos, hj]
         have hK := eS (hK1 _ hg)
         have hrun2 : (execOp a.eval o).run P w = .ok (.value (if ok then .tuple #[(es.getD j default).val, .bool true] else (es.getD j default).val)) w := by
          unfold execOp; rw [ho];exact aY hrun
         unfold Oper.wp; rw [hrun2];exact hn _ _ _ _ _ _ _ hK hh he (tQ (hr j kvs[j] (qf hj)).2 ok true) (.refl _ _ _ _) (KA.refl _)
       | none =>
         rw [hpos] at hrun;have hK := hK2 (by simp [cJ, hpos])
         have hrun2 : (execOp a.eval o).run P w = .ok (.value (if ok then .tuple #[z, .bool false] else z)) w := by
          unfold execOp; rw [ho];exact aY hrun
         unfold Oper.wp; rw [hrun2];exact hn _ _ _ _ _ _ _ hK hh he (tQ (iZ hp) ok false) (.refl _ _ _ _) (KA.refl _)
      ·cases hK
     ·cases hK
    ·cases hK
   ·cases hK
  ·cases hK
 ·cases hK
theorem zQ {m k : Operand} {ok : Bool} (ho : o.op = .lookup t m k ok) (hK : l7 P e h t m k ok K) : OpS P o e h K := (tR ho hK).opS
def fP (o : Nat) (cs : List (PV × PV)) : LV -> LV
 | .mp o' => bif qk o' o then .pv (.mp cs) else .mp o'
 | .agg _ => .bot
 | .tup _ => .bot
 | .fn _ _ => .bot
 | .spec .. => .bot
 | v => v
def j6 (o : Nat) (cs : List (PV × PV)) : Env -> Env
 | [] => []
 | (i, v) :: r => (i, fP o cs v) :: j6 o cs r
def l8 (o : Nat) (cs : List (PV × PV)) : Ob -> Ob
 | .box bs => .box (bs.map (fP o cs))
 | ob => ob
def dF (o : Nat) (cs : List (PV × PV)) (h : Hp) : Hp := (h.map (l8 o cs)).set o .dead
theorem HRel.pubM (hh : HRel w I G h) {o : Nat} {cs : List (PV × PV)} (ho : h[o]? = some (.mp cs)) :
 HRel w (fun b => I b ∨ b = (G o).blk) G (dF o cs h) /\
 (∀ {tm : Array Value} {e : Env}, ERel w I G h e tm -> ERel w (fun b => I b ∨ b = (G o).blk) G (dF o cs h) (j6 o cs e) tm) /\
 TrH w I G h w (fun b => I b ∨ b = (G o).blk) G (dF o cs h) := by
 have hlt : o < h.length := (List.getElem?_eq_some_iff.1 ho).1;obtain ⟨es0, ck0, f1, f2, f3⟩ := hh.obs _ _ ho;have hown : aD h G (G o).blk := ⟨o, _, ho, trivial, rfl⟩;have hk : Keeps w I w (fun b => I b ∨ b = (G o).blk) := ⟨fun _ _ _ => rfl, fun _ x _ => .inl x⟩;have hgo : (dF o cs h)[o]? = some .dead := by simp [dF, hlt]
 have hgn : ∀ (i : Nat), i ≠ o -> (dF o cs h)[i]? = (h[i]?).map (l8 o cs) := fun i hi => by
  unfold dF; rw [qac (Ne.symm hi), qm]
 have hmp : Rep w (fun b => I b ∨ b = (G o).blk) (.mp cs) (.map (some (G o).blk)) := .mp cs _ ck0 es0 ⟨.inr rfl, hh.blk_lt hown⟩ f1 f2 (fun i kv hi => (f3 i kv hi).1.mono hk.1 hk.2) (fun i kv hi => (f3 i kv hi).2.mono hk.1 hk.2)
 have hv : ∀ v cv, LRel w I G h v cv -> LRel w (fun b => I b ∨ b = (G o).blk) G (dF o cs h) (fP o cs v) cv := fun v cv hr => by
  have ne : ∀ {i : Nat} {x : Ob}, h[i]? = some x -> (∀ c, x ≠ .mp c) -> i ≠ o := fun {i x} hx hna e => by subst e; rw [ho] at hx; cases hx; exact hna _ rfl
  cases hr with
  | bot => exact .bot _
  | pv p _ h1 => exact .pv _ _ (h1.mono hk.1 hk.2)
  | ownNil i t m es h1 => exact .ownNil i t m es (by rw [hgn i (ne h1 (by simp)), h1]; rfl)
  | own i t m es ad h0 h1 => exact .own i t m es ad h0 (by rw [hgn i (ne h1 (by simp)), h1]; rfl)
  | subNil i a b t m es h1 h2 => exact .subNil i a b t m es (by rw [hgn i (ne h1 (by simp)), h1]; rfl) h2
  | sub i a b cap ad t m es h1 h2 h3 h4 h5 => exact .sub i a b cap ad t m es (by rw [hgn i (ne h1 (by simp)), h1]; rfl) h2 h3 h4 h5
  | elt i a b t m es h1 h2 => exact .elt i a b t m es (by rw [hgn i (ne h1 (by simp)), h1]; rfl) h2
  | box i off bs h1 => exact .box i off (bs.map (fP o cs)) (by rw [hgn i (ne h1 (by simp)), h1]; rfl)
  | arr i off bs h1 => exact .arr i off bs (by rw [hgn i (ne h1 (by simp)), h1]; rfl)
  | agg => exact .bot _
  | tup => exact .bot _
  | fn => exact .bot _
  | mp i kvs h1 =>
    by_cases hi : i = o
    ·subst hi;rw [ho] at h1; cases h1;simp only [fP, qbx, cond_true];exact .pv _ _ hmp
    ·have : qk i o = false := by cases hb : qk i o with | false => rfl | true => exact absurd (qh hb) hi
     simp only [fP, this, cond_false];exact .mp i kvs (by rw [hgn i hi, h1]; rfl)
  | iter i ty rem cur h1 => exact .iter i ty rem cur (by rw [hgn i (ne h1 (by simp)), h1]; rfl)
 have split : ∀ (i : Nat) x, (dF o cs h)[i]? = some x -> (i = o /\ x = .dead) ∨ (i ≠ o /\ ∃ y, h[i]? = some y /\ x = l8 o cs y) := fun i x hx => by
  by_cases hi : i = o
  ·subst hi; rw [hgo] at hx; cases hx; exact .inl ⟨rfl, rfl⟩
  ·rw [hgn i hi] at hx;cases hq : h[i]? with
   | none => rw [hq] at hx; cases hx
   | some y => rw [hq] at hx; cases hx; exact .inr ⟨hi, y, rfl, rfl⟩
 have alk : ∀ {y : Ob} {q : Pl}, (l8 o cs y).alive q -> y.alive q := fun {y q} ha => by cases y <;> exact ha
 refine ⟨⟨fun i x hx => ?_, fun i j x y hx ax hy ay hb => ?_, fun i x hx ax hI => ?_, fun b hb => hb.elim (hh.cl b) (fun e => e ▸ hh.blk_lt hown)⟩, fun {tm e} he => ?_, ⟨⟨rfl, rfl, rfl, qi _, fun _ _ _ => rfl, fun _ x => .inl x, fun b hb => hb.elim .inl (fun e => .inr (.inl (e ▸ hown))), fun b ⟨i, x, hx, ax, hb⟩ => ?_, fun _ _ => rfl, qi _⟩, by simp [dF], fun i x hi hx hf => ⟨rfl, by
  rcases split i x hx with ⟨rfl, rfl⟩ | ⟨_, y, hy, rfl⟩
  ·cases hf
  ·exact ⟨y, hy, by cases y <;> exact hf⟩⟩⟩⟩
 ·rcases split i x hx with ⟨rfl, rfl⟩ | ⟨hi, y, hy, rfl⟩
  ·trivial
  ·have := hh.obs i y hy;cases y with
   | dead => trivial
   | box bs =>
     obtain ⟨vs', ty', e1, e2, e3⟩ := this;refine ⟨vs', ty', e1, by simpa using e2, fun k v hv' => ?_⟩
     rw [qm] at hv';cases hq : bs[k]? with
     | none => rw [hq] at hv'; cases hv'
     | some u => rw [hq] at hv'; cases hv'; exact ⟨hv _ _ (e3 k u hq).1, (e3 k u hq).2⟩
   | arr bs => obtain ⟨vs', ty', e1, e2, e3⟩ := this; exact ⟨vs', ty', e1, e2, fun k v hv => ⟨(e3 k v hv).1.mono hk.1 hk.2, (e3 k v hv).2⟩⟩
   | sl t m n es =>
     cases n with
     | true => exact this
     | false =>
       obtain ⟨e1, e2, e3, e3', e4, e5⟩ := this;refine ⟨e1, e2, e3, e3', e4, fun hc => ?_⟩;obtain ⟨vs', g1, g2, g3⟩ := e5 hc;exact ⟨vs', g1, g2, fun i' e he k v hv => ⟨(g3 i' e he k v hv).1.mono hk.1 hk.2, (g3 i' e he k v hv).2⟩⟩
   | mp kvs => obtain ⟨es, ck, e1, e2, e3⟩ := this; exact ⟨es, ck, e1, e2, fun k kv hv => ⟨(e3 k kv hv).1.mono hk.1 hk.2, (e3 k kv hv).2.mono hk.1 hk.2⟩⟩
   | iter ty rem cur => exact IterRel.mono this rfl hk
 ·rcases split i x hx with ⟨rfl, rfl⟩ | ⟨hi, x', hx', rfl⟩
  ·exact ax.elim
  ·rcases split j y hy with ⟨rfl, rfl⟩ | ⟨hj, y', hy', rfl⟩
   ·exact ay.elim
   ·exact hh.sep _ _ _ _ hx' (alk ax) hy' (alk ay) hb
 ·rcases split i x hx with ⟨rfl, rfl⟩ | ⟨hi, x', hx', rfl⟩
  ·exact ax.elim
  ·rcases hI with hI | hI
   ·exact hh.nI _ _ hx' (alk ax) hI
   ·exact hi (hh.sep _ _ _ _ hx' (alk ax) ho trivial hI)
 ·intro i v hi
  have gp : ∀ e : Env, get (j6 o cs e) i = (get e i).map (fP o cs) := fun e => by
   induction e with
   | nil => rfl
   | cons x r ih =>
     obtain ⟨k, v⟩ := x;simp only [j6, get];cases hb : qk k i
     ·exact ih
     ·rfl
  rw [gp e] at hi;cases hg : get e i with
  | none => rw [hg] at hi; cases hi
  | some u =>
    rw [hg] at hi; cases hi;have := he i u hg;cases u with
    | spec j w u => exact LRel.bot _
    | own i' => exact hv _ _ this
    | mp i' =>
      have h2 := hv _ _ this;simp only [fP] at h2 ⊢;cases hb : qk i' o <;> rw [hb] at h2 <;> exact h2
    | _ => exact hv _ _ this
 ·rcases split i x hx with ⟨rfl, rfl⟩ | ⟨hi, x', hx', rfl⟩
  ·exact ax.elim
  ·exact .inl ⟨i, x', hx', alk ax, hb⟩

theorem tS (es : Array MapEntry) : leftOf es #[] = es := by
 unfold leftOf;exact Array.filter_eq_self.2 fun x hx => by simp
theorem zR {t kt et : TypeId} {b : Nat} {es : Array MapEntry} {ck : Nat} (ht : P.underlying t = some (.map kt et)) (hb : w.heap[b]? = some (.map es ck)) :
 (Instr.range t (.map (some b))).run P w = .ok (.pointer (some ⟨w.heap.size, 0, none⟩)) (w.alloc (.mapIter (some b) ck #[] ck)) := by
 unfold Instr.range;simp only [underlying, qe, run_program, qa, ht, qd, f0 hb, run_newObj];rfl
def oW (P : Program) (e : Env) (h : Hp) (t : TypeId) (x : Operand) (K : Kt) : Prop :=
 match P.underlying t with
 | some (.map kt et) => match aF [] e x with
   | some (.pv (.mp kvs)) => K (.it h.length) e (h ++ [.iter (kt, et) kvs none])
   | some (.mp o) => match h[o]? with
     | some (.mp kvs) => K (.it h.length) (j6 o kvs e) (dF o kvs h ++ [.iter (kt, et) kvs none])
     | _ => aA 2731
   | _ => aA 2732
 | _ => aA 2733
theorem zS (ty : Nat × Nat) {w : World} {I : Nat -> Prop} {G : Nat -> Pl} {h : Hp} (hh : HRel w I G h) {kvs : List (PV × PV)} {b : Nat} (hr : Rep w I (.mp kvs) (.map (some b))) : ∃ es ck, w.heap[b]? = some (.map es ck) /\
 HRel (w.alloc (.mapIter (some b) ck #[] ck)) I (aG G h.length ⟨w.heap.size, 0, 0, 0⟩) (h ++ [.iter ty kvs none]) /\
 LRel (w.alloc (.mapIter (some b) ck #[] ck)) I (aG G h.length ⟨w.heap.size, 0, 0, 0⟩) (h ++ [.iter ty kvs none]) (.it h.length) (.pointer (some ⟨w.heap.size, 0, none⟩)) := by
 cases hr with
 | mp _ _ ck es h3 h4 h1 h5 h6 =>
   have hk : Keeps w I (w.alloc (.mapIter (some b) ck #[] ck)) I := .alloc w I I _ fun _ x => x;refine ⟨es, ck, h4, hh.push _ _ ⟨w.heap.size, 0, 0, 0⟩ rfl ⟨b, es, ck, ck, #[], ck, gC w _, ⟨h3.1, by simp; omega⟩, by rw [bG w _ h3.2]; exact h4, ⟨rfl, h1.2.1.trans h1.1.symm, h1.2.2⟩, rfl, rfl, by rw [tS]; exact h1.1, fun i kv hi => ?_, fun kv hc => by cases hc⟩, ?_⟩
   ·rw [tS];exact ⟨(h5 i kv hi).mono hk.1 hk.2, (h6 i kv hi).mono hk.1 hk.2⟩
   ·have := LRel.iter (w := w.alloc (.mapIter (some b) ck #[] ck)) (I := I) (G := aG G h.length ⟨w.heap.size, 0, 0, 0⟩) (h := h ++ [.iter ty kvs none]) h.length ty kvs none (by simp);simpa [aG] using this
theorem zT {x : Operand} (ho : o.op = .range t x) (hK : oW P e h t x K) : OpS P o e h K := by
 have step : ∀ (w : World) (I : Nat -> Prop) (G : Nat -> Pl) (a : Act) (next : Act -> World -> Prop) (Qx : Exit -> Act -> World -> Prop) (kt et : TypeId) (kvs : List (PV × PV)) (e' : Env) (h' : Hp) (b : Nat), P.underlying t = some (.map kt et) -> HRel w I G h' -> ERel w I G h' e' a.tmps -> a.eval x = .map (some b) -> Rep w I (.mp kvs) (.map (some b)) ->
  (∀ v w' G' cv, v = .it h'.length -> HRel w' I G' (h' ++ [.iter (kt, et) kvs none]) -> ERel w' I G' (h' ++ [.iter (kt, et) kvs none]) e' a.tmps -> LRel w' I G' (h' ++ [.iter (kt, et) kvs none]) v cv -> TrH w I G h' w' I G' (h' ++ [.iter (kt, et) kvs none]) -> next (a.put o.dst cv) w') -> o.wp P a w next Qx := by
  intro w I G a next Qx kt et kvs e' h' b ht hh he hx hr hn
  obtain ⟨es, ck, h4, g1, g2⟩ := zS (kt, et) hh hr
  have hrun : (execOp a.eval o).run P w = .ok (.value (.pointer (some ⟨w.heap.size, 0, none⟩))) (w.alloc (.mapIter (some b) ck #[] ck)) := by
   unfold execOp; rw [ho];refine aY ?_;rw [hx]; exact zR ht h4
  unfold Oper.wp; rw [hrun];exact hn _ _ _ _ rfl g1 (he.mono (.alloc w I I _ fun _ x => x) (Like.push G h' _ _)) g2 (TrH.push _ (.iter (kt, et) kvs none) _ rfl)
 unfold oW at hK;split at hK
 ·rename_i kt et ht;split at hK
  ·rename_i kvs hx;intro w I G a next Qx hh he hn
   have hx' := aC he (AOK.nil _) hx
   obtain ⟨b, hb, hr⟩ : ∃ b, a.eval x = .map (some b) /\ Rep w I (.mp kvs) (.map (some b)) := by
    generalize a.eval x = cx at hx';cases hx' with | pv _ _ h1 => cases h1 with | mp _ b ck es e1 e2 e3 e4 e5 => exact ⟨b, rfl, .mp _ b ck es e1 e2 e3 e4 e5⟩
   exact step w I G a next Qx kt et kvs e h b ht hh he hb hr fun v w' G' cv hv q1 q2 q3 q4 => hn _ _ _ _ _ _ _ (hv ▸ hK) q1 q2 q3 q4
  ·rename_i ob hx;split at hK
   ·rename_i kvs hob;intro w I G a next Qx hh he hn
    have hx' := aC he (AOK.nil _) hx;obtain ⟨_, _, hcv, _⟩ := LRel.map_inv hh hx' hob;obtain ⟨es, ck, e1, e2, e3⟩ := hh.obs _ _ hob;obtain ⟨p1, p2, p3⟩ := hh.pubM hob;have hown : aD h G (G ob).blk := ⟨ob, _, hob, trivial, rfl⟩;have hr : Rep w (fun b => I b ∨ b = (G ob).blk) (.mp kvs) (.map (some (G ob).blk)) := .mp kvs _ ck es ⟨.inr rfl, hh.blk_lt hown⟩ e1 e2 (fun i kv hi => (e3 i kv hi).1.mono (fun _ _ _ => rfl) (fun _ x _ => .inl x)) (fun i kv hi => (e3 i kv hi).2.mono (fun _ _ _ => rfl) (fun _ x _ => .inl x));exact step w _ G a next Qx kt et kvs _ _ _ ht p1 (p2 he) hcv hr fun v w' G' cv hv q1 q2 q3 q4 => hn _ _ _ _ _ _ _ (by rw [hv]; simpa [dF] using hK) q1 q2 q3 (p3.trans q4)
   ·cases hK
  ·cases hK
 ·cases hK
theorem tT : ∀ (L : List MapEntry) (j : Nat) (hj : j < L.length), (L.map (·.born)).Nodup -> L.filter (fun x => !(x.born == (L[j]).born)) = L.eraseIdx j
 | x :: L, 0, _, hn => by
   simp only [qak, qcf] at hn;simp only [List.getElem_cons_zero, List.eraseIdx_cons_zero, qcd, beq_self_eq_true, qcj, qu, if_false];refine List.filter_eq_self.2 fun y hy => ?_;simp only [qp, beq_eq_false_iff_ne, ne_eq];exact fun e => hn.1 (List.mem_map.2 ⟨y, hy, e⟩)
 | x :: L, j + 1, hj, hn => by
   simp only [qak, qcf] at hn;have hj' : j < L.length := by simpa using hj
   have hne : x.born ≠ (L[j]).born := fun e => hn.1 (List.mem_map.2 ⟨L[j], List.getElem_mem hj', e.symm⟩);simp only [qbn, qbh, qcd];rw [if_pos (by simpa using hne), tT L j hj' hn.2]
theorem tU {es : Array MapEntry} {ck n : Nat} (h : mapOK es ck n) : (es.toList.map (·.born)).Nodup := by
 rw [List.nodup_iff_pairwise_ne, List.pairwise_map, List.pairwise_iff_getElem];intro i j hi hj hij e;have hi' : i < es.size := by simpa using hi
 have hj' : j < es.size := by simpa using hj
 have := h.inj i j hi' hj' (by simp only [qy, hi', hj', dif_pos]; simpa using e)
 omega
theorem zU (es : Array MapEntry) (seen : Array Nat) (b : Nat) : (leftOf es (seen.push b)).toList = (leftOf es seen).toList.filter (fun x => !(x.born == b)) := by
 unfold leftOf;simp only [qau, List.filter_filter];congr 1
 funext x
 simp only [Array.contains_push, Bool.not_or];exact Bool.and_comm _ _
theorem zV {es : Array MapEntry} {ck n : Nat} (h : mapOK es ck n) (seen : Array Nat) : ((leftOf es seen).toList.map (·.born)).Nodup := by
 unfold leftOf;rw [qau];exact (tU h).sublist (List.Sublist.map _ List.filter_sublist)
theorem zW {es : Array MapEntry} {ck n : Nat} (h : mapOK es ck n) (seen : Array Nat) (j : Nat) (hj : j < (leftOf es seen).toList.length) :
 (leftOf es (seen.push ((leftOf es seen).toList[j]).born)).toList = (leftOf es seen).toList.eraseIdx j := by
 rw [zU, tT _ j hj (zV h seen)]
def oX (P : Program) (e : Env) (h : Hp) (x : Operand) (str : Bool) (K : Kt) : Prop :=
 match aF [] e x, str with
 | some (.it o), false => match h[o]? with
   | some (.iter ty rem _) => (rem = [] -> K (.pv (.tup [.bool false])) e h) /\
    ∀ (j : Nat) k v, rem[j]? = some (k, v) -> c6 P 4 ty.1 k fun k => c6 P 4 ty.2 v fun v => K (.pv (.tup [.bool true, k, v])) e (h.set o (.iter ty (rem.eraseIdx j) (some (k, v))))
   | _ => aA 2741
 | _, _ => aA 2742
def oY (P : Program) (e : Env) (h : Hp) (x : Operand) (K : Kt) : Prop :=
 match aF [] e x with
 | some (.it o) => match h[o]? with
   | some (.iter ty _ (some kv)) => c6 P 4 ty.1 kv.1 fun k => c6 P 4 ty.2 kv.2 fun v => K (.pv (.tup [k, v])) e h
   | _ => aA 2743
 | _ => aA 2744
theorem LRel.it_inv {o : Nat} (hr : LRel w I G h (.it o) cv) : cv = .pointer (some ⟨(G o).blk, 0, none⟩) := by cases hr; rfl
theorem zX {k v u : PV} {a b c : Value} (h1 : Rep w I k a) (h2 : Rep w I v b) (h3 : Rep w I u c) : Rep w I (.tup [k, v, u]) (.tuple #[a, b, c]) := by
 refine .tup [k, v, u] #[a, b, c] rfl fun i u hu => ?_
 match i, hu with
 | 0, hu => cases hu; exact h1
 | 1, hu => cases hu; exact h2
 | 2, hu => cases hu; exact h3
theorem zY {x : Operand} (ho : o.op = .entry x) (hK : oY P e h x K) : OpS P o e h K := by
 unfold oY at hK;split at hK
 ·rename_i ob hx;split at hK
  ·rename_i ty rem kv hob;intro w I G a next Qx hh he hn
   have hcv := (aC he (AOK.nil _) hx).it_inv;obtain ⟨b, es, ck, since, seen, last, h1, h2, h3, h4, h5, h6, h7, h8, h9⟩ := hh.obs _ _ hob;obtain ⟨s', en, q1, q2, q3, q4, q5⟩ := h9 kv rfl;subst q1; subst q2
   have hrun : (execOp a.eval o).run P w = .ok (.value (.tuple #[en.key, en.val])) w := by
    unfold execOp; rw [ho];refine aY ?_;rw [hcv]; exact run_entry_at w _ b since s' es last en h1 h3 q3 (tU h4)
   unfold Oper.wp; rw [hrun];exact hn _ _ _ _ _ _ _ (eS (eS hK)) hh he (.pv _ _ (tN q4 q5)) (.refl _ _ _ _)
  ·cases hK
 ·cases hK
theorem zZ {x : Operand} {str : Bool} (ho : o.op = .next x str) (hK : oX P e h x str K) : OpS P o e h K := by
 unfold oX at hK;split at hK
 ·rename_i ob hx;split at hK
  ·rename_i ty rem cur hob;obtain ⟨hK0, hK1⟩ := hK;intro w I G a next Qx hh he hn
   have hcv := (aC he (AOK.nil _) hx).it_inv;obtain ⟨b, es, ck, since, seen, last, h1, h2, h3, h4, h5, h6, h7, h8, h9⟩ := hh.obs _ _ hob;subst h5; subst h6
   have hold : ∀ y ∈ es.toList, y.born < last := fun y hy => by
    obtain ⟨i, hi, rfl⟩ := qat hy;have hi' : i < es.size := by simpa using hi
    have := h4.lt i hi';simpa [qy, hi'] using this
   rcases run_next_at (P := P) w o.type (G ob).blk b last last seen es last h1 h3 hold (qi _) with ⟨hs, hrun⟩ | ⟨en, hen, w1, hw1, hrun⟩
   ·have hrem : rem = [] := List.length_eq_zero_iff.1 (by omega)
    have hrun2 : (execOp a.eval o).run P w = .ok (.value (.tuple #[.bool false])) w := by
     unfold execOp; rw [ho];refine aY ?_;rw [hcv]; exact hrun
    unfold Oper.wp; rw [hrun2];refine hn _ _ _ _ _ _ _ (hK0 hrem) hh he (.pv _ _ (.tup [.bool false] #[.bool false] rfl fun i u hu => ?_)) (.refl _ _ _ _)
    match i, hu with
    | 0, hu => cases hu; exact .bool false
   ·obtain ⟨j, hj, rfl⟩ := qat hen;have hj2 : j < (leftOf es seen).size := by simpa using hj
    have hj' : j < rem.length := by omega
    have hrel := h8 j rem[j] (qf hj');have hgetj : (leftOf es seen).getD j default = (leftOf es seen).toList[j] := by simp [qy, hj2]
    rw [hgetj] at hrel;have hK := eS (eS (hK1 j rem[j].1 rem[j].2 (qf hj')));have hstep := zW h4 seen j hj;generalize (leftOf es seen).toList[j] = en at *;have hw1h : w1.heap = w.heap := by rcases hw1 with rfl | rfl <;> rfl
    have hh1 : HRel w1 I G h := by
     rcases hw1 with rfl | rfl
     ·exact hh
     ·exact hh.drew
    have ht1 : TrH w I G h w1 I G h := by
     rcases hw1 with rfl | rfl
     ·exact .refl _ _ _ _
     ·exact TrH.drew
    have he1 : ERel w1 I G h e a.tmps := he.mono ⟨fun _ _ _ => by rw [hw1h], fun _ x _ => x⟩ (.refl _ _);have hlt : (G ob).blk < w.heap.size := hh.blk_lt ⟨ob, _, hob, trivial, rfl⟩;have hne : b ≠ (G ob).blk := fun e => hh.nI ob _ hob trivial (e ▸ h2.1)
    have hrun2 : (execOp a.eval o).run P w = .ok (.value (.tuple #[.bool true, en.key, en.val])) (setBlock w1 (G ob).blk (.mapIter (some b) last (seen.push en.born) last)) := by
     unfold execOp; rw [ho];refine aY ?_;rw [hcv]; exact hrun
    have hww : ∀ c, c ≠ (G ob).blk -> (setBlock w1 (G ob).blk (.mapIter (some b) last (seen.push en.born) last)).heap[c]? = w1.heap[c]? := fun c hc => by
     simp only [setBlock, qah]; rw [if_neg (fun e => hc e.symm)]
    have hsame : (setBlock w1 (G ob).blk (.mapIter (some b) last (seen.push en.born) last)).heap[(G ob).blk]? = some (.mapIter (some b) last (seen.push en.born) last) := by
     simp only [setBlock, qah, if_true]; rw [if_pos (by rw [hw1h]; exact hlt)]
    have hsz : (setBlock w1 (G ob).blk (.mapIter (some b) last (seen.push en.born) last)).heap.size = w1.heap.size := by simp [setBlock]
    have hfz : ∀ q, (setBlock w1 (G ob).blk (.mapIter (some b) last (seen.push en.born) last)).frozen? q = w1.frozen? q := fun q => by
     simp only [World.frozen?];by_cases c : q.block = (G ob).blk
     ·rw [c, hsame, hw1h, h1]
     ·rw [hww _ c]
    have hK' := Keeps.upd hh1 hob trivial hww;have hL : Like G G h (h.set ob (.iter ty (rem.eraseIdx j) (some (rem[j].1, rem[j].2)))) := Like.set hob trivial
    have up : ∀ {p : PV} {c : Value}, Rep w I p c -> Rep (setBlock w1 (G ob).blk (.mapIter (some b) last (seen.push en.born) last)) I p c := fun {p c} hr => by
     have : Rep w1 I p c := hr.mono (fun _ _ _ => by rw [hw1h]) (fun _ x _ => x);exact this.mono hK'.1 hK'.2
    unfold Oper.wp; rw [hrun2];refine hn _ _ _ _ _ _ _ hK (hh1.upd hob trivial hww (by rw [hsz]; exact qi _) trivial ?_) (he1.mono hK' hL) (.pv _ _ (zX (.bool true) (up hrel.1) (up hrel.2))) (ht1.trans (TrH.upd hob trivial hww (by rw [hsz]; exact qi _) rfl rfl rfl hfz (qi _) fun _ => rfl));refine ⟨b, es, last, last, _, last, hsame, ⟨h2.1, by rw [hsz, hw1h]; exact h2.2⟩, by rw [hww b hne, hw1h]; exact h3, h4, rfl, rfl, ?_, fun i kv hi => ?_, fun kv hc => ?_⟩
    ·have := congrArg List.length hstep;rw [qbr] at this;simp only [Array.length_toList] at this;rw [this, qbr, h7]
    ·have hg : (leftOf es (seen.push en.born)).getD i default = ((leftOf es seen).toList.eraseIdx j).getD i default := by rw [<- hstep, gL]
     rw [hg];rw [qbo] at hi;rw [qw, qbo];split at hi
     ·rename_i c;rw [if_pos c, <- qw, gL];exact ⟨up (h8 i kv hi).1, up (h8 i kv hi).2⟩
     ·rename_i c;rw [if_neg c, <- qw, gL];exact ⟨up (h8 _ kv hi).1, up (h8 _ kv hi).2⟩
    ·cases hc
     exact ⟨seen, en, rfl, rfl, by
      unfold leftOf at hen;rw [qau] at hen
      exact (List.mem_filter.1 hen).1, up hrel.1, up hrel.2⟩
  ·cases hK
 ·cases hK
end Go.Eng
namespace Go.Eng
open Go
variable {P : Program} {w : World} {I : Nat -> Prop} {G : Nat -> Pl} {h : Hp} {e : Env} {o : Oper} {t : TypeId} {K : Kt} {cv : Value} {a : Act}
variable {H : Nat -> Option HSpec}
def l9 (P : Program) (e : Env) (h : Hp) (t : TypeId) (x : Operand) (i : Nat) (K : Kt) : Prop :=
 match P.underlying t with
 | some (.struct fs) => match fs.toList[i]? with
   | some fd => match P.underlying fd.type, P.info? fd.type with
     | some _, some fi => match aF [] e x with
       | some (.pv (.agg cs)) => match dB P fd.type with
         | false => match cs[fd.offset]? with | some v => K (.pv v) e h | none => aA 801
         | true => bif (qao (fd.offset + fi.size) cs.length) then K (.pv (.agg ((cs.drop fd.offset).take fi.size))) e h else aA 802
       | some (.agg cs) => match dB P fd.type with
         | false => match cs[fd.offset]? with | some v => K v e h | none => aA 803
         | true => bif (qao (fd.offset + fi.size) cs.length) then
          (match bW ((cs.drop fd.offset).take fi.size) with
           | some ps => K (.pv (.agg ps)) e h
           | none => K (.agg ((cs.drop fd.offset).take fi.size)) e h) else aA 804
       | _ => aA 805
     | _, _ => aA 806
   | none => aA 807
 | _ => aA 808
theorem oZ {d : TypeDesc} {cs : Array Value} {off : Nat} (hd : P.underlying t = some d) (h0 : dB P t = false) (hlt : off < cs.size) : (part t cs off).run P w = .ok (cs.getD off undef) w := by
 unfold part;simp only [qe, kW hd, h0, qa, qu, if_false, qar];simp [hlt]
theorem o5 {d : TypeDesc} {ti : TypeInfo} {cs : Array Value} {off : Nat} (hd : P.underlying t = some d) (hi : P.info? t = some ti) (h0 : dB P t = true) : (part t cs off).run P w = .ok (.agg (cs.extract off (off + ti.size))) w := by
 unfold part;simp only [qe, kW hd, h0, qa, if_true, qar, sizeOf, typeInfo, run_program, hi, qd]
theorem o6 {cs : Array Value} {off n k : Nat} (hle : off + n <= cs.size) (hk : k < n) : (cs.extract off (off + n)).getD k undef = cs.getD (off + k) undef := by
 rw [qg, qg, qbm];rw [if_pos (by omega)]
theorem tV {x : Operand} {i : Nat} (ho : o.op = .field t x i) (hK : l9 P e h t x i K) : OpV P o e h K := by
 unfold l9 at hK;split at hK
 ·rename_i fs ht;split at hK
  ·rename_i fd hf;split at hK
   ·rename_i d fi hd hi
    have run : ∀ (a : Act) (w : World) (cs : Array Value) v, a.eval x = .agg cs -> (part fd.type cs fd.offset).run P w = .ok v w -> (execOp a.eval o).run P w = .ok (.value v) w := fun a w cs v hx hv => by
     unfold execOp; rw [ho];refine aY ?_;have hf' : fs[i]? = some fd := by simpa using hf
     unfold Instr.field;simp only [underlying, asAgg, qe, run_program, qa, ht, qd, hf', hx, hv]
    split at hK
    ·rename_i cs hu;split at hK
     ·rename_i h0;split at hK
      ·rename_i v hv;refine OpV.pure hK fun w I G a hh he => ?_;have hu' := aC he (AOK.nil _) hu;generalize hcx : a.eval x = cx at hu';cases hu' with
       | pv _ _ hr => cases hr with
         | agg _ vs h1 h6 h7 =>
           have hlt : fd.offset < vs.size := by have := (List.getElem?_eq_some_iff.1 hv).1; omega
           exact ⟨_, fun w2 _ => run a w2 vs _ hcx (oZ hd h0 hlt), .pv _ _ (h6 _ _ hv)⟩
      ·cases hK
     ·rename_i h0;cases hb : qao (fd.offset + fi.size) cs.length with
      | false => rw [hb] at hK; cases hK
      | true =>
        rw [hb] at hK;have hle := qq hb;refine OpV.pure hK fun w I G a hh he => ?_;have hu' := aC he (AOK.nil _) hu;generalize hcx : a.eval x = cx at hu';cases hu' with
        | pv _ _ hr => cases hr with
          | agg _ vs h1 h6 h7 =>
            refine ⟨_, fun w2 _ => run a w2 vs _ hcx (o5 hd hi h0), .pv _ _ (.agg _ _ (by simp; omega) (fun k v hv => ?_) (fun k v hv => ?_))⟩
            all_goals
             rw [qv] at hv;split at hv
             ·rename_i hk;rw [qr] at hv;rw [o6 (by omega) hk]
              first | exact h6 _ _ hv | exact h7 _ _ hv
             ·cases hv
    ·rename_i cs hu;split at hK
     ·rename_i h0;split at hK
      ·rename_i v hv;refine OpV.pure hK fun w I G a hh he => ?_;have hu' := aC he (AOK.nil _) hu;generalize hcx : a.eval x = cx at hu';cases hu' with
       | agg _ vs h1 h6 h7 =>
         have hlt : fd.offset < vs.size := by have := (List.getElem?_eq_some_iff.1 hv).1; omega
         exact ⟨_, fun w2 _ => run a w2 vs _ hcx (oZ hd h0 hlt), h6 _ _ hv⟩
      ·cases hK
     ·rename_i h0;cases hb : qao (fd.offset + fi.size) cs.length with
      | false => rw [hb] at hK; cases hK
      | true =>
        rw [hb] at hK;simp only [cond_true] at hK;have hle := qq hb
        have main : ∀ (w : World) (I : Nat -> Prop) (G : Nat -> Pl) (a : Act), HRel w I G h -> ERel w I G h e a.tmps -> ∃ vs : Array Value, (∀ w2, (execOp a.eval o).run P w2 = .ok (.value (.agg vs)) w2) /\ vs.size = ((cs.drop fd.offset).take fi.size).length /\
         ∀ (k : Nat) u, ((cs.drop fd.offset).take fi.size)[k]? = some u -> LRel w I G h u (vs.getD k undef) /\ (vs.getD k undef).oneCell' = true := by
         intro w I G a hh he;have hu' := aC he (AOK.nil _) hu;generalize hcx : a.eval x = cx at hu';cases hu' with
         | agg _ vs h1 h6 h7 =>
           refine ⟨_, fun w2 => run a w2 vs _ hcx (o5 hd hi h0), by simp; omega, fun k u hv => ?_⟩;rw [qv] at hv;split at hv
           ·rename_i hk;rw [qr] at hv;rw [o6 (by omega) hk];exact ⟨h6 _ _ hv, h7 _ _ hv⟩
           ·cases hv
        split at hK
        ·rename_i ps hps;have hps' := dY hps;refine OpV.pure hK fun w I G a hh he => ?_;obtain ⟨vs, h1, h2, h3⟩ := main w I G a hh he;rw [hps'] at h2 h3;refine ⟨_, fun w2 _ => h1 w2, .pv _ _ (.agg ps vs (by simpa using h2) (fun k v hv => ?_) (fun k v hv => (h3 k (.pv v) (by simp [hv])).2))⟩
         have := (h3 k (.pv v) (by simp [hv])).1;generalize vs.getD k undef = cv at this;cases this; assumption
        ·refine OpV.pure hK fun w I G a hh he => ?_;obtain ⟨vs, h1, h2, h3⟩ := main w I G a hh he;exact ⟨_, fun w2 _ => h1 w2, .agg _ vs h2 (fun k v hv => (h3 k v hv).1) (fun k v hv => (h3 k v hv).2)⟩
    ·cases hK
   ·cases hK
  ·cases hK
 ·cases hK
theorem z6 {x : Operand} {i : Nat} (ho : o.op = .field t x i) (hK : l9 P e h t x i K) : OpS P o e h K := (tV ho hK).opS

def j7 (e : Env) (h : Hp) (x : Operand) (K : Kt) : Prop :=
 match aF [] e x with
 | some u => match eM u with
   | some false => K u e h
   | _ => match fZ u with
     | some false => match c7 u with
       | some _ => K u e h
       | none => aA 809
     | _ => aA 810
 | none => aA 811
theorem tW {x : Operand} (ho : o.op = .nilCheck x) (hK : j7 e h x K) : OpF P o e h K := by
 unfold j7 at hK;split at hK
 ·rename_i u hu;split at hK
  ·rename_i hn;refine OpF.pure hK fun w I G a hh he => ?_;have hu' := aC he (AOK.nil _) hu;obtain ⟨b, e1, e2⟩ := hu'.nilOfPtr_eq hn;refine ⟨a.eval x, fun w2 => ?_, hu'⟩;unfold execOp; rw [ho];cases b with
   | none => cases e2
   | some a0 => simp only [e1]; rfl
  ·split at hK
   ·split at hK
    ·rename_i q hf;obtain ⟨f, caps⟩ := q;refine OpF.pure hK fun w I G a hh he => ?_;have hu' := aC he (AOK.nil _) hu;obtain ⟨cc, e1, _⟩ := lR hu' hf;refine ⟨a.eval x, fun w2 => ?_, hu'⟩;unfold execOp; rw [ho];simp only [e1]; rfl
    ·cases hK
   ·cases hK
 ·cases hK
theorem tX {x : Operand} (ho : o.op = .nilCheck x) (hK : j7 e h x K) : OpV P o e h K := (tW ho hK).opV

theorem z7 {x : Operand} (ho : o.op = .nilCheck x) (hK : j7 e h x K) : OpS P o e h K := (tX ho hK).opS

def tY (n m len : Nat) (j : Int) : Prop := 0 <= j /\ j < n /\ j.toNat * m + m <= len
def mA (P : Program) (e : Env) (h : Hp) (t : TypeId) (x i : Operand) (K : Kt) : Prop :=
 match P.underlying t with
 | some (.array n et) => match P.underlying et, P.info? et, aF [] e x, aF [] e i with
   | some _, some ei, some (.pv (.agg cs)), some (.pv (.int _ j)) => match dB P et with
     | false => bif qk ei.size 1 then tY n 1 cs.length j /\ c6 P 4 et (cs.getD j.toNat .unit) fun v => K (.pv v) e h else aA 833
     | true => tY n ei.size cs.length j /\ K (.pv (.agg ((cs.drop (j.toNat * ei.size)).take ei.size))) e h
   | _, _, _, _ => aA 831
 | _ => aA 832
theorem z8 {x i : Operand} (ho : o.op = .index t x i) (hK : mA P e h t x i K) : OpV P o e h K := by
 unfold mA at hK;split at hK
 ·rename_i n et ht;split at hK
  ·rename_i d ei cs q j hd hi hu hj
   have run : ∀ (a : Act) (w : World) (vs : Array Value) v, a.eval x = .agg vs -> a.eval i = .int q j -> (0 <= j /\ j < n) -> (part et vs (j.toNat * ei.size)).run P w = .ok v w -> (execOp a.eval o).run P w = .ok (.value v) w := fun a w vs v hx hji hr hv => by
    unfold execOp; rw [ho];refine aY ?_;unfold Instr.index;simp only [asIntOf, underlying, qe, run_program, qa, ht, qd, hx, hji, qar, sizeOf, typeInfo, hi];rw [if_pos hr];exact hv
   have hji : ∀ (w : World) (I : Nat -> Prop) (G : Nat -> Pl) (a : Act), ERel w I G h e a.tmps -> a.eval i = .int q j := fun w I G a he => by
    have hj' := aC he (AOK.nil _) hj;generalize a.eval i = cx at hj';cases hj' with | pv _ _ h1 => cases h1; rfl
   split at hK
   ·rename_i h0;cases hb : qk ei.size 1 with
    | false => rw [hb] at hK; cases hK
    | true =>
      rw [hb] at hK;simp only [cond_true] at hK;have hs1 := qh hb;obtain ⟨⟨k1, k2, k3⟩, hK⟩ := hK;have hK := eS hK;refine OpV.pure hK fun w I G a hh he => ?_;have hu' := aC he (AOK.nil _) hu;generalize hcx : a.eval x = cx at hu';cases hu' with
      | pv _ _ hr => cases hr with
        | agg _ vs h1 h6 h7 =>
          have hlt : j.toNat < cs.length := by omega
          have hlt2 : j.toNat * ei.size < vs.size := by rw [hs1]; omega
          refine ⟨_, fun w2 _ => run a w2 vs _ hcx (hji w I G a he) ⟨k1, k2⟩ (oZ hd h0 hlt2), .pv _ _ ?_⟩;rw [hs1, Nat.mul_one];exact h6 _ _ (by simp [hlt])
   ·rename_i h0;obtain ⟨⟨k1, k2, k3⟩, hK⟩ := hK;refine OpV.pure hK fun w I G a hh he => ?_;have hu' := aC he (AOK.nil _) hu;generalize hcx : a.eval x = cx at hu';cases hu' with
    | pv _ _ hr => cases hr with
      | agg _ vs h1 h6 h7 =>
        refine ⟨_, fun w2 _ => run a w2 vs _ hcx (hji w I G a he) ⟨k1, k2⟩ (o5 hd hi h0), .pv _ _ (.agg _ _ (by simp; omega) (fun k v hv => ?_) (fun k v hv => ?_))⟩
        all_goals
         rw [qv] at hv;split at hv
         ·rename_i hk;rw [qr] at hv;rw [o6 (by omega) hk]
          first | exact h6 _ _ hv | exact h7 _ _ hv
         ·cases hv
  ·cases hK
 ·cases hK
theorem zaa {x i : Operand} (ho : o.op = .index t x i) (hK : mA P e h t x i K) : OpS P o e h K := (z8 ho hK).opS

def cQ (P : Program) (H : Nat -> Option HSpec) (e : Env) (h : Hp) (o : Oper) (K : Kt) : Prop :=
 match o.op with
 | .indexAddr t x i => kT P e h t x i K
 | .fieldAddr s x f => jF P e h s x f K
 | .load t x => jG P e h t x K
 | .store t x y => nL P e h t x y K
 | .alloc t => lB P e h t K
 | .box t x => lC P e h t x K
 | .build t parts => lH P e h t parts.toList K
 | .buildSlice t n parts => lK P e h t n parts.toList K
 | .slice t x lo hi mx => j2 P e h t x lo hi mx K
 | .field t x i => l9 P e h t x i K
 | .nilCheck x => j7 e h x K
 | .call c => match c.callee with
   | .builtin .append => lP P e h c.argTypes.toList c.args.toList K
   | .builtin .clear => nQ P e h c.argTypes.toList c.args.toList K
   | .value fo => match aF [] e fo, cV [] e c.args.toList with
     | some u, some vs => match c7 u with
       | some (f, caps) => j0 P H e h o.type fo f (vs ++ caps) K
       | none => aA 812
     | _, _ => aA 813
   | _ => aA 814
 | .makeMap t r => oP P e h t r K
 | .mapUpdate t m k x => l5 P e h t m k x K
 | .lookup t m k ok => l7 P e h t m k ok K
 | .range t x => oW P e h t x K
 | .next x s => oX P e h x s K
 | .entry x => oY P e h x K
 | .mapEntry t m k => oR P e h t m k K
 | .entryStore t m s x => oT e h m s x K
 | .insert t m k x => l5 P e h t m k x K
 | .index t x i => mA P e h t x i K
 | .makeSlice t l c => lL P e h t l c K
 | .binOp op _ x y _ => lM e h op x y K
 | _ => aA 815
def bN (P : Program) (H : Nat -> Option HSpec) (e : Env) (h : Hp) (o : Oper) (K : Kt) : Prop :=
 match bD P [] e h o.op with
 | some v => K v e h
 | none => cQ P H e h o K
theorem zab (hK : cQ P H e h o K) : OpS P o e h K := by
 unfold cQ at hK;split at hK <;> rename_i hop
 ·exact xV hop hK
 ·exact xW hop hK
 ·exact xX hop hK
 ·exact yA hop hK
 ·exact yC hop hK
 ·exact yD hop hK
 ·exact yE hop hK
 ·exact yI hop hK
 ·exact zG hop hK
 ·exact z6 hop hK
 ·exact z7 hop hK
 ·split at hK
  ·rename_i hc; exact yW hop hc hK
  ·rename_i hc; exact yO hop hc hK
  ·rename_i fo hc;split at hK
   ·rename_i u vs hu hv;split at hK
    ·rename_i f caps hf; exact zD hop hc hu hf hv hK
    ·cases hK
   ·cases hK
  ·cases hK
 ·exact (tK hop hK).opS
 ·exact tM (.inl hop) hK
 ·exact zQ hop hK
 ·exact zT hop hK
 ·exact zZ hop hK
 ·exact zY hop hK
 ·exact zL hop hK
 ·exact zO hop hK
 ·exact tM (.inr hop) hK
 ·exact zaa hop hK
 ·exact yL hop hK
 ·exact yP hop hK
 ·cases hK
theorem tZ (hK : bN P H e h o K) : OpS P o e h K := by
 unfold bN at hK;split at hK
 ·rename_i v hv; exact OpS.pureP (A := []) hv hK
 ·exact zab hK
end Go.Eng
namespace Go.Eng
open Go
variable {P : Program} {w : World} {I : Nat -> Prop} {G : Nat -> Pl} {h : Hp} {e : Env} {o : Oper} {t : TypeId} {K : Kt} {cv : Value} {a : Act}
variable {H : Nat -> Option HSpec}
theorem LRel.notSpec {v : LV} (hr : LRel w I G h v cv) : ∀ j want u, v ≠ .spec j want u := by
 intro j want u e; subst e; cases hr
def put (o : Oper) (v : LV) (e : Env) : Env := match o.dst with | some d => set e d v | none => e
def dG (N : Nat) (o : Oper) : Bool := match o.dst with | some d => Nat.blt d N | none => true
def iH (all : List Oper) (j : Nat) : Option Nat := match all[j]? with | some o => o.dst | none => none
def iI (P : Program) (e : Env) (h : Hp) (s : Nat) (want : Bool) (o : Oper) : Option Env :=
 match o.dst with
 | some d => bif qk s d then none else (match bD P [(s, want)] e h o.op with
   | some v => some (set e d (.spec s want v))
   | none => none)
 | none => none
def mB : Nat -> Env -> Nat -> (Env -> Option Bool -> Prop) -> Prop
 | 0, _, _, _ => aA 2001
 | n + 1, e, s, K =>
   match get e s with
   | some (.pv (.bool b)) => if b = true then K ((s, .pv (.bool true)) :: e) (some true) else K ((s, .pv (.bool false)) :: e) (some false)
   | some (.pv .unit) => K e none
   | some (.spec j w (.pv (.bool b))) => mB n e j fun e q => match q, w with
     | some true, true => if b = true then K ((s, .pv (.bool true)) :: e) (some true) else K ((s, .pv (.bool false)) :: e) (some false)
     | some false, false => if b = true then K ((s, .pv (.bool true)) :: e) (some true) else K ((s, .pv (.bool false)) :: e) (some false)
     | _, _ => K ((s, .pv .unit) :: e) none
   | some (.spec _ _ (.pv .unit)) => K ((s, .pv .unit) :: e) none
   | _ => aA 2002
def eA (q : Option Bool) (want : Bool) : Bool :=
 match q, want with
 | some true, true => true
 | some false, false => true
 | _, _ => false
def aU (P : Program) (H : Nat -> Option HSpec) (N : Nat) (all : List Oper) : List Oper -> Env -> Hp -> (Env -> Hp -> Prop) -> Prop
 | [], e, h, K => K e h
 | o :: r, e, h, K =>
   bif dG N o then
    (match o.guard with
    | none => bN P H e h o fun v e h => aU P H N all r (put o v e) h K
    | some (j, want) => match iH all j with
      | some s => match iI P e h s want o with
        | some e' => aU P H N all r e' h K
        | none => mB 4 e s fun e q => bif eA q want then bN P H e h o fun v e h => aU P H N all r (put o v e) h K else aU P H N all r (put o (.pv .unit) e) h K
      | none => aA 2003)
   else aA 2004

theorem ERel.cons {tm : Array Value} (he : ERel w I G h e tm) {s : Nat} {v : LV} (hv : VRel w I G h tm v (tm.getD s undef)) : ERel w I G h ((s, v) :: e) tm := by
 intro i u hi;simp only [get] at hi;cases hb : qk s i with
 | true => rw [hb] at hi; have := qh hb; subst this; cases hi; exact hv
 | false => rw [hb] at hi; exact he i u hi
theorem mC {tm : Array Value} : ∀ {n : Nat} {e : Env} {s : Nat} {K : Env -> Option Bool -> Prop}, ERel w I G h e tm -> mB n e s K ->
 ∃ e' q, K e' q /\ ERel w I G h e' tm /\ match q with | some b => tm.getD s undef = .bool b | none => tm.getD s undef = undef
 | 0, e, s, K, he, hb => hb.elim
 | n + 1, e, s, K, he, hb => by
   have lit : ∀ {e' : Env} (b : Bool), ERel w I G h e' tm -> tm.getD s undef = .bool b -> (if b = true then K ((s, .pv (.bool true)) :: e') (some true) else K ((s, .pv (.bool false)) :: e') (some false)) ->
    ∃ e' q, K e' q /\ ERel w I G h e' tm /\ match q with | some b => tm.getD s undef = .bool b | none => tm.getD s undef = undef := fun {e'} b he' hs hk => by
    have hv : ∀ b, tm.getD s undef = .bool b -> VRel w I G h tm (.pv (.bool b)) (tm.getD s undef) := fun b hs => by rw [hs]; exact LRel.pv _ _ (.bool b)
    cases b with
    | true => simp only [if_true] at hk; exact ⟨_, _, hk, he'.cons (hv true hs), hs⟩
    | false => simp only [qu, if_false] at hk; exact ⟨_, _, hk, he'.cons (hv false hs), hs⟩
   unfold mB at hb;split at hb
   ·rename_i b hg;exact lit b he (LRel.bool_eq (he s _ hg)) hb
   ·rename_i hg;refine ⟨e, none, hb, he, ?_⟩;have := he s _ hg;generalize tm.getD s undef = cv at this;cases this with | pv _ _ h1 => cases h1; rfl
   ·rename_i j wt b hg;obtain ⟨e', q, hk, he', hq⟩ := mC he hb;have hs := he s _ hg;split at hk
    ·exact lit b he' (LRel.bool_eq (hs.1 hq)) hk
    ·exact lit b he' (LRel.bool_eq (hs.1 hq)) hk
    ·rename_i hn1 hn2
     have hne : tm.getD j undef ≠ .bool wt := fun e => by
      cases q with
      | none => simp only at hq; rw [hq] at e; cases e
      | some b' =>
        simp only at hq;rw [hq] at e;injection e with e;subst e;cases b'
        ·exact hn2 rfl rfl
        ·exact hn1 rfl rfl
     have hu := hs.2 hne;exact ⟨_, none, hk, he'.cons (by rw [hu]; exact LRel.pv _ _ .unit), hu⟩
   ·rename_i j wt hg;have hs := he s _ hg
    have hu : tm.getD s undef = undef := by
     by_cases hj : tm.getD j undef = .bool wt
     ·have := hs.1 hj;generalize tm.getD s undef = cv at this;cases this with | pv _ _ h1 => cases h1; rfl
     ·exact hs.2 hj
    exact ⟨_, none, hb, he.cons (by rw [hu]; exact LRel.pv _ _ .unit), hu⟩
   ·cases hb

theorem fA {N : Nat} (hd : dG N o = true) (hn : a.tmps.size = N) (hh : HRel w I G h) (he : ERel w I G h e a.tmps) {v : LV} {cv : Value} (hv : LRel w I G h v cv) :
 SRel w I G (put o v e) h N (a.put o.dst cv) /\ (a.put o.dst cv).defers = a.defers := by
 unfold put Act.put;unfold dG at hd;cases hdst : o.dst with
 | none => exact ⟨⟨hh, he, hn⟩, rfl⟩
 | some d =>
   rw [hdst] at hd;have hlt : d < a.tmps.size := by rw [hn]; exact qq hd
   exact ⟨⟨hh, he.set hlt hv hv.notSpec, by simp [hn]⟩, rfl⟩

theorem mD {N : Nat} {ops : Array Oper} {Qx : Exit -> Act -> World -> Prop} {K : Env -> Hp -> Prop} : ∀ (l : List Oper) (k : Nat) (e : Env) (h : Hp), (∀ j, j < l.length -> l[j]? = ops[k + j]?) -> aU P H N ops.toList l e h K ->
 ∀ (w : World) (I : Nat -> Prop) (G : Nat -> Pl) (a : Act), SRel w I G e h N a ->
  (∀ e' h' w' I' G' a', K e' h' -> SRel w' I' G' e' h' N a' -> a'.defers = a.defers -> TrH w I G h w' I' G' h' -> Qx .normal a' w') -> wpOps P ops Qx (qaw k l.length) a w := by
 intro l
 induction l with
 | nil =>
   intro k e h hl hK w I G a hs hq;exact hq e h w I G a hK hs rfl (.refl _ _ _ _)
 | cons o r ih =>
   intro k e h hl hK w I G a hs hq;have h0 : ops[k]? = some o := by simpa using (hl 0 (by simp)).symm
   have hl' : ∀ j, j < r.length -> r[j]? = ops[k + 1 + j]? := fun j hj => by have := hl (j + 1) (by simpa using hj); simpa [qay, Nat.add_comm 1 j] using this
   simp only [qbd, qbe];rw [wpOps_cons];unfold wpOp;simp only [h0];unfold aU at hK;cases hd : dG N o with
   | false => rw [hd] at hK; cases hK
   | true =>
     rw [hd] at hK;simp only [cond_true] at hK
     -- an operation that is carried out
     have run : ∀ {e1 : Env}, ERel w I G h e1 a.tmps -> bN P H e1 h o (fun v e h => aU P H N ops.toList r (put o v e) h K) -> o.wp P a w (wpOps P ops Qx (qaw (k + 1) r.length)) Qx := fun {e1} he1 hop => by
      refine tZ hop w I G a _ _ hs.hh he1 fun v e' h' w' I' G' cv hk hh' he' hv' htr => ?_;obtain ⟨hs', hdef⟩ := fA hd hs.hn hh' he' hv';exact ih (k + 1) _ _ hl' hk w' I' G' _ hs' fun e2 h2 w2 I2 G2 a2 hk2 hs2 hd2 ht2 => hq e2 h2 w2 I2 G2 a2 hk2 hs2 (hd2.trans hdef) (htr.trans ht2)
     have skip : ∀ {e1 : Env} {v : LV}, SRel w I G e1 h N (a.put o.dst undef) -> aU P H N ops.toList r e1 h K -> wpOps P ops Qx (qaw (k + 1) r.length) (a.put o.dst undef) w := fun {e1 v} hs1 hop =>
      ih (k + 1) _ _ hl' hop w I G _ hs1 fun e2 h2 w2 I2 G2 a2 hk2 hs2 hd2 ht2 => hq e2 h2 w2 I2 G2 a2 hk2 hs2 (hd2.trans (by unfold Act.put; cases o.dst <;> rfl)) ht2
     split at hK
     ·rename_i hg;have hw : Region.wanted o (yielded ops a.tmps) = true := by simp [Region.wanted, hg]
      rw [if_pos hw];exact .inl (run hs.he hK)
     ·rename_i j want hg;have hwd : Region.wanted o (yielded ops a.tmps) = (yielded ops a.tmps j == some want) := by simp [Region.wanted, hg]
      split at hK
      ·rename_i s hds
       have hyield : (yielded ops a.tmps j = some want ↔ a.tmps.getD s undef = .bool want) := by
        unfold iH at hds;split at hds
        ·rename_i oj hoj;have hoj' : ops[j]? = some oj := by simpa using hoj
         unfold yielded;simp only [hoj', qbg, hds];rw [qg];cases hts : a.tmps[s]? with
         | none => simp [undef]
         | some v => cases v <;> simp
        ·cases hds
       split at hK
       ·rename_i e' hsp;unfold iI at hsp;split at hsp
        ·rename_i d hdst;cases hsd : qk s d with
         | true => rw [hsd] at hsp; cases hsp
         | false =>
           rw [hsd] at hsp;simp only [cond_false] at hsp;have hne : s ≠ d := fun e => by subst e; simp at hsd
           have hlt : d < a.tmps.size := by rw [hs.hn]; unfold dG at hd; rw [hdst] at hd; exact qq hd
           split at hsp
           ·rename_i v hv;cases hsp;by_cases hwt : a.tmps.getD s undef = .bool want
            ·rw [if_pos (by rw [hwd]; simp [hyield.2 hwt])];refine .inl ?_;obtain ⟨cv, g1, g2⟩ := gZ hs.hh hs.he ((AOK.nil _).cons hwt) hv;unfold Oper.wp;rw [g1];refine ih (k + 1) _ _ hl' hK w I G _ ⟨hs.hh, ?_, by simp [Act.put, hdst, hs.hn]⟩ fun e2 h2 w2 I2 G2 a2 hk2 hs2 hd2 ht2 => hq e2 h2 w2 I2 G2 a2 hk2 hs2 (hd2.trans (by simp [Act.put, hdst])) ht2;simp only [Act.put, hdst];exact hs.he.setSpec hlt hne (fun _ => g2) (fun hc => absurd hwt hc)
            ·rw [if_neg (by rw [hwd]; simp; exact fun hc => hwt (hyield.1 hc))];refine skip (v := v) ⟨hs.hh, ?_, by simp [Act.put, hdst, hs.hn]⟩ hK;simp only [Act.put, hdst];exact hs.he.setSpec hlt hne (fun hc => absurd hc hwt) (fun _ => rfl)
           ·cases hsp
        ·cases hsp
       ·obtain ⟨e', q, hk, he', hq'⟩ := mC hs.he hK;cases hiw : eA q want with
        | true =>
          rw [hiw] at hk;have hqw : q = some want := by unfold eA at hiw; split at hiw <;> first | rfl | cases hiw
          subst hqw;rw [if_pos (by rw [hwd]; simp [hyield.2 hq'])];exact .inl (run he' hk)
        | false =>
          rw [hiw] at hk;simp only [cond_false] at hk
          have hqw : a.tmps.getD s undef ≠ .bool want := fun hc => by
           cases q with
           | none => simp only at hq'; rw [hq'] at hc; cases hc
           | some b => simp only at hq'; rw [hq'] at hc; injection hc with hc; subst hc; cases b <;> simp [eA] at hiw
          rw [if_neg (by rw [hwd]; simp; exact fun hc => hqw (hyield.1 hc))];exact skip (v := .bot) (fA hd hs.hn hs.hh he' (.pv _ _ .unit)).1 hk
      ·cases hK
end Go.Eng
namespace Go.Eng
open Go
variable {P : Program} {w : World} {I : Nat -> Prop} {G : Nat -> Pl} {h : Hp} {e : Env} {o : Oper} {t : TypeId} {K : Kt} {cv : Value} {a : Act}
variable {H : Nat -> Option HSpec}

section
variable {P : Program} {ops : Array Oper} {Q : Exit -> Act -> World -> Prop}

def wpW (P : Program) (ops : Array Oper) (Q : Exit -> Act -> World -> Prop) (X : Nat -> Bool) : Nat -> Array Bool -> Act -> World -> Prop
 | 0, listed, a, w => Region.ready .any ops listed = [] /\ Q .normal a w
 | f + 1, listed, a, w => Region.ready .any ops listed ≠ [] /\
   ∀ i ∈ Region.ready .any ops listed, wpOp P ops Q i (fun a' w' => (X i = true ∨ KA w w') /\ wpW P ops Q X f (listed.setIfInBounds i true) a' w') a w
theorem t6 {X : Nat -> Bool} : ∀ (f : Nat) (listed : Array Bool) (a : Act) (w : World), wpW P ops Q X f listed a w -> wpAny P .any ops Q f listed a w
 | 0, _, _, _, h => h
 | f + 1, _, _, _, h => ⟨fun h0 => absurd h0 h.1, fun i hi => wpOp_mono (fun a' w' h' => t6 f _ a' w' h'.2) (h.2 i hi)⟩

theorem o7 {n i : Nat} {listed : Array Bool} (hw : Region.waitsFor .any ops n i = true) (hi : listed.getD i true = false) : n ∉ Region.ready .any ops listed := fun hr => by
 obtain ⟨on, hon, e, he, hb, heq⟩ := Region.waitsFor_spec hw;obtain ⟨_, o', ho', hall⟩ := mem_ready.1 hr;have : o' = on := Option.some.inj (ho'.symm.trans hon);subst this;have h1 := hall e he hb;rw [heq, getD_both hi] at h1;cases h1

def gN (ops : Array Oper) (L0 : Array Bool) : Nat -> Nat -> Nat -> Bool
 | 0, _, _ => false
 | f + 1, j, i => Region.waitsFor .any ops j i || (qcg ops.size).any fun k => !L0.getD k true && (Region.waitsFor .any ops j k && gN ops L0 f k i)
def Closed (ops : Array Oper) (L0 listed : Array Bool) : Prop := ∀ k k', Region.waitsFor .any ops k k' = true -> L0.getD k true = false -> listed.getD k true = true -> listed.getD k' true = true
theorem Closed.self (ops : Array Oper) (L0 : Array Bool) : Closed ops L0 L0 := fun k k' _ h1 h2 => by rw [h1] at h2; cases h2
theorem t8 {listed : Array Bool} {i j : Nat} (h : listed.getD i true = true) : (listed.setIfInBounds j true).getD i true = true := by
 by_cases hij : j = i
 ·subst hij;simp only [qg, qah];simp only [if_true];split <;> rfl
 ·rw [getD_set_ne true hij]; exact h
theorem Closed.step {L0 listed : Array Bool} (hc : Closed ops L0 listed) {j : Nat} (hj : j ∈ Region.ready .any ops listed) : Closed ops L0 (listed.setIfInBounds j true) := fun k k' h1 h2 h3 => by
 by_cases hjk : j = k
 ·subst hjk;cases hk' : listed.getD k' true with
  | true => exact t8 hk'
  | false => exact absurd hj (o7 h1 hk')
 ·rw [getD_set_ne true hjk] at h3;exact t8 (hc k k' h1 h2 h3)
theorem uA {L0 listed : Array Bool} (hc : Closed ops L0 listed) : ∀ {f j i : Nat}, gN ops L0 f j i = true -> L0.getD j true = false -> listed.getD j true = true -> listed.getD i true = true
 | 0, _, _, h, _, _ => by cases h
 | f + 1, j, i, h, h1, h2 => by
   unfold gN at h;simp only [qae, qce, qc, qp] at h;rcases h with h | ⟨k, _, h3, h4, h5⟩
   ·exact hc j i h h1 h2
   ·exact uA hc h5 h3 (hc j k h4 h1 h2)
theorem zac {L0 listed : Array Bool} (hc : Closed ops L0 listed) {f j i : Nat} (h : gN ops L0 f j i = true) (hi : listed.getD i true = false) : j ∉ Region.ready .any ops listed := fun hr => by
 cases f with
 | zero => cases h
 | succ f =>
   unfold gN at h;simp only [qae, qce, qc, qp] at h;rcases h with h | ⟨k, _, h3, h4, h5⟩
   ·exact o7 h hi hr
   ·cases hk : listed.getD k true with
    | false => exact o7 h4 hk hr
    | true =>
      have := uA hc h5 h3 hk;rw [hi] at this; cases this
theorem zad {X : Nat -> Bool} {i : Nat} {oi : Oper} {v : Value} {fr : Bool} {L0 : Array Bool} {d : Nat} (hi : ops[i]? = some oi) (hsel : ∀ (j : Nat) (o : Oper) cs b, ops[j]? = some o -> o.op ≠ .select cs b)
 (hQ : ∀ c a w, Q (.panic c) (a.put oi.dst v) w -> Q (.panic c) a w) (hX : fr = true ∨ ∀ j, X j = true -> j ≠ i -> L0.getD j true = false -> gN ops L0 d j i = true) :
 ∀ (f : Nat) (listed : Array Bool) (a : Act) (w : World), Closed ops L0 listed -> (∀ j, listed.getD j true = false -> L0.getD j true = false) ->
  (∀ j oj, ops[j]? = some oj -> j ≠ i -> listed.getD j true = false -> (∀ e ∈ oj.after, Region.binds .any e = true -> e.on ≠ i) -> oi.apart ops oj = true) ->
  i ∈ Region.ready .any ops listed -> YieldsIf P ops (fun w2 => fr = true ∨ KA w w2) oi v a ->
  wpW P ops Q X f (listed.setIfInBounds i true) (a.put oi.dst v) w -> wpW P ops Q X (f + 1) listed a w := by
 have hlt : i < ops.size := (Array.getElem?_eq_some_iff.1 hi).1;intro f
 induction f with
 | zero =>
   intro listed a w _ _ _ hr hy H;refine ⟨fun h => (by rw [h] at hr; cases hr), fun j hj => ?_⟩;by_cases hji : j = i
   ·subst hji; exact hy.wpOp hi (.inr (KA.refl w)) ⟨.inr (KA.refl w), H⟩
   ·have := ready_mono hj hji;rw [H.1] at this;cases this
 | succ f ih =>
   intro listed a w hC hL hfree hr hy H;refine ⟨fun h => (by rw [h] at hr; cases hr), fun j hj => ?_⟩;by_cases hji : j = i
   ·subst hji; exact hy.wpOp hi (.inr (KA.refl w)) ⟨.inr (KA.refl w), H⟩
   ·have hiu : listed.getD i true = false := (mem_ready.1 hr).1;have hju : listed.getD j true = false := (mem_ready.1 hj).1
    have hjX : fr = true ∨ X j = false := by
     rcases hX with hX | hX
     ·exact .inl hX
     ·cases hxj : X j with
      | false => exact .inr rfl
      | true => exact absurd hj (zac hC (hX j hxj hji (hL j hju)) hiu)
    have h1 := H.2 j (ready_mono hj hji);obtain ⟨hjun, oj, hoj, hall⟩ := mem_ready.1 hj
    have hnot : ∀ e ∈ oj.after, Region.binds .any e = true -> e.on ≠ i := fun e he hb heq => by
     have h1 := hall e he hb;have h0 := (mem_ready.1 hr).1;rw [heq] at h1;rcases Nat.lt_or_ge i listed.size with h' | h'
     ·simp [h'] at h0 h1; rw [h0] at h1; cases h1
     ·simp [Array.getElem?_eq_none h'] at h1
    have h2 := wpOp_putIf hoj (hfree j oj hoj hji hjun hnot) (fun cs b => hsel i oi cs b hi) (fun cs b => hsel j oj cs b hoj) hQ hy h1
    have hfree' : ∀ k ok, ops[k]? = some ok -> k ≠ i -> (listed.setIfInBounds j true).getD k true = false ->
     (∀ e ∈ ok.after, Region.binds .any e = true -> e.on ≠ i) -> oi.apart ops ok = true := fun k ok hk hki hun hno => by
     refine hfree k ok hk hki ?_ hno;by_cases hjk : j = k
     ·subst hjk; exact hjun
     ·rw [getD_set_ne true hjk] at hun; exact hun
    have hL' : ∀ k, (listed.setIfInBounds j true).getD k true = false -> L0.getD k true = false := fun k hk => by
     refine hL k ?_;by_cases hjk : j = k
     ·subst hjk; exact hju
     ·rw [getD_set_ne true hjk] at hk; exact hk
    refine wpOp_mono (fun a' w' ⟨hy', hKA, h3⟩ => ⟨hKA, ?_⟩) h2
    have hKA : fr = true ∨ KA w w' := by
     rcases hjX with h | h
     ·exact .inl h
     ·rw [h] at hKA; exact .inr (hKA.resolve_left (by simp))
    refine ih (listed.setIfInBounds j true) a' w' (hC.step hj) hL' hfree' (ready_mono hr (Ne.symm hji)) (hy'.imp (fun ⟨q1, q2⟩ => ⟨q1, fun w2 h2 => q2 w2 (hKA.elim .inl fun k => h2.imp id k.trans)⟩) id) ?_;rw [Array.setIfInBounds_comm _ _ hji];exact h3

theorem zae {id : Nat} {X : Nat -> Bool} (hm : P.follows .mixedOrders = true) (h : wpW P ops (NoPanic Q) X ops.size (qag ops.size false) a w.drew) : (Code.region id ops true).wp P Q a w :=
 wp_region_noPanic (wp_region_any hm (t6 _ _ _ _ h))
end

theorem zaf {N : Nat} {ops : Array Oper} {Qx : Exit -> Act -> World -> Prop} {K : Env -> Hp -> Prop} {k : Nat} {Z : World -> World -> Prop} (hZ0 : ∀ w, Z w w)
 (hZ : ∀ e1 K', (o.guard = none -> e1 = e) -> bN P H e1 h o K' -> OpZ Z P o e1 h K') (h0 : ops[k]? = some o) (hK : aU P H N ops.toList [o] e h K) {w : World} {I : Nat -> Prop} {G : Nat -> Pl} {a : Act} (hs : SRel w I G e h N a) {next : Act -> World -> Prop}
 (hq : ∀ e' h' w' I' G' a', K e' h' -> SRel w' I' G' e' h' N a' -> a'.defers = a.defers -> TrH w I G h w' I' G' h' -> Z w w' -> next a' w') : wpOp P ops Qx k next a w := by
 unfold wpOp;simp only [h0];unfold aU at hK;cases hd : dG N o with
 | false => rw [hd] at hK; cases hK
 | true =>
   rw [hd] at hK;simp only [cond_true] at hK
   have run : ∀ {e1 : Env}, (o.guard = none -> e1 = e) -> ERel w I G h e1 a.tmps -> bN P H e1 h o (fun v e h => aU P H N ops.toList [] (put o v e) h K) -> o.wp P a w next Qx := fun {e1} hge he1 hop => by
    refine hZ _ _ hge hop w I G a _ _ hs.hh he1 fun v e' h' w' I' G' cv hk hh' he' hv' htr hz => ?_;obtain ⟨hs', hdef⟩ := fA hd hs.hn hh' he' hv';exact hq _ _ w' I' G' _ hk hs' hdef htr hz
   have skip : ∀ {e1 : Env}, SRel w I G e1 h N (a.put o.dst undef) -> aU P H N ops.toList [] e1 h K -> next (a.put o.dst undef) w := fun {e1} hs1 hop =>
    hq _ _ w I G _ hop hs1 (by unfold Act.put; cases o.dst <;> rfl) (.refl _ _ _ _) (hZ0 w)
   split at hK
   ·rename_i hg;have hw : Region.wanted o (yielded ops a.tmps) = true := by simp [Region.wanted, hg]
    rw [if_pos hw];exact .inl (run (fun _ => rfl) hs.he hK)
   ·rename_i j want hg;have hwd : Region.wanted o (yielded ops a.tmps) = (yielded ops a.tmps j == some want) := by simp [Region.wanted, hg]
    split at hK
    ·rename_i s hds
     have hyield : (yielded ops a.tmps j = some want ↔ a.tmps.getD s undef = .bool want) := by
      unfold iH at hds;split at hds
      ·rename_i oj hoj;have hoj' : ops[j]? = some oj := by simpa using hoj
       unfold yielded;simp only [hoj', qbg, hds];rw [qg];cases hts : a.tmps[s]? with
       | none => simp [undef]
       | some v => cases v <;> simp
      ·cases hds
     split at hK
     ·rename_i e' hsp;unfold iI at hsp;split at hsp
      ·rename_i d hdst;cases hsd : qk s d with
       | true => rw [hsd] at hsp; cases hsp
       | false =>
         rw [hsd] at hsp;simp only [cond_false] at hsp;have hne : s ≠ d := fun e => by subst e; simp at hsd
         have hlt : d < a.tmps.size := by rw [hs.hn]; unfold dG at hd; rw [hdst] at hd; exact qq hd
         split at hsp
         ·rename_i v hv;cases hsp;by_cases hwt : a.tmps.getD s undef = .bool want
          ·rw [if_pos (by rw [hwd]; simp [hyield.2 hwt])];refine .inl ?_;obtain ⟨cv, g1, g2⟩ := gZ hs.hh hs.he ((AOK.nil _).cons hwt) hv;unfold Oper.wp;rw [g1];refine hq _ _ w I G _ hK ⟨hs.hh, ?_, by simp [Act.put, hdst, hs.hn]⟩ (by simp [Act.put, hdst]) (.refl _ _ _ _) (hZ0 w);simp only [Act.put, hdst];exact hs.he.setSpec hlt hne (fun _ => g2) (fun hc => absurd hwt hc)
          ·rw [if_neg (by rw [hwd]; simp; exact fun hc => hwt (hyield.1 hc))];refine skip ⟨hs.hh, ?_, by simp [Act.put, hdst, hs.hn]⟩ hK;simp only [Act.put, hdst];exact hs.he.setSpec hlt hne (fun hc => absurd hc hwt) (fun _ => rfl)
         ·cases hsp
      ·cases hsp
     ·obtain ⟨e', q, hk, he', hq'⟩ := mC hs.he hK;cases hiw : eA q want with
      | true =>
        rw [hiw] at hk;have hqw : q = some want := by unfold eA at hiw; split at hiw <;> first | rfl | cases hiw
        subst hqw;rw [if_pos (by rw [hwd]; simp [hyield.2 hq'])];exact .inl (run (fun hn => by rw [hg] at hn; cases hn) he' hk)
      | false =>
        rw [hiw] at hk;simp only [cond_false] at hk
        have hqw : a.tmps.getD s undef ≠ .bool want := fun hc => by
         cases q with
         | none => simp only at hq'; rw [hq'] at hc; cases hc
         | some b => simp only at hq'; rw [hq'] at hc; injection hc with hc; subst hc; cases b <;> simp [eA] at hiw
        rw [if_neg (by rw [hwd]; simp; exact fun hc => hqw (hyield.1 hc))];exact skip (fA hd hs.hn hs.hh he' (.pv _ _ .unit)).1 hk
    ·cases hK
end Go.Eng
namespace Go.Eng
open Go
variable {P : Program} {w : World} {I : Nat -> Prop} {G : Nat -> Pl} {h : Hp} {e : Env} {o : Oper} {t : TypeId} {K : Kt} {cv : Value} {a : Act}
variable {H : Nat -> Option HSpec}
def eB : Option LV -> Bool
 | some (.pv p) => d8 p
 | _ => false
def o8 (e : Env) : Operand -> Bool
 | .tmp t => match get e t with
   | some (.spec j w _) => match get e j with
     | some (.pv (.bool true)) => !w
     | some (.pv (.bool false)) => w
     | _ => false
   | _ => false
 | _ => false
theorem zag (he : ERel w I G h e a.tmps) {x : Operand} (hx : o8 e x = true) : a.eval x = .tuple #[] := by
 cases x <;> simp only [o8] at hx
 case tmp t =>
  split at hx
  ·rename_i j wt v hv;have h1 := he t _ hv;split at hx
   ·rename_i hj;have h2 := LRel.bool_eq (he j _ hj);simp at hx;exact h1.2 (by rw [h2, hx]; simp)
   ·rename_i hj;have h2 := LRel.bool_eq (he j _ hj);subst hx;exact h1.2 (by rw [h2]; simp)
   ·cases hx
  ·cases hx
 all_goals cases hx
def spS (e : Env) (x : Operand) : Bool := match x with
 | .tmp t => match get e t with
   | some (.spec _ _ (.pv (.sl _ _ _))) => true
   | _ => false
 | _ => false
theorem zah (he : ERel w I G h e a.tmps) {x : Operand} (hx : spS e x = true) : (∃ b l c, a.eval x = .slice b l c) ∨ a.eval x = .tuple #[] := by
 unfold spS at hx;split at hx
 ·rename_i t;split at hx
  ·rename_i j wt n f es hv;have h1 := he t _ hv;by_cases hw : a.tmps.getD j undef = .bool wt
   ·have h2 := h1.1 hw;left;show ∃ b l c, a.tmps.getD t undef = .slice b l c;generalize a.tmps.getD t undef = cv at h2;cases h2 with
    | pv _ _ h3 => cases h3 <;> exact ⟨_, _, _, rfl⟩
   ·exact .inr (h1.2 hw)
  ·cases hx
 ·cases hx
def iJ (P : Program) (all : List Oper) (e : Env) (h : Hp) (o : Oper) : Bool :=
 match o.op with
 | .indexAddr _ _ _ => true
 | .fieldAddr _ _ _ => true
 | .load _ _ => true
 | .nilCheck _ => true
 | .field _ _ _ => true
 | .build _ _ => true
 | .move _ => true
 | .assign _ => true
 | .extract _ _ => true
 | .pick _ _ _ => true
 | .makeFunc _ _ _ => true
 | .binOp _ _ _ _ _ => true
 | .unOp _ _ _ => true
 | .convert _ _ _ => true
 | .call ⟨.builtin .len, _, _⟩ => true
 | .call ⟨.builtin .min, _, _⟩ => true
 | .call ⟨.builtin .max, _, _⟩ => true
 | .slice _ x _ _ _ => bif spS e x then true else (match aF [] e x with
   | some (.pv (.sl _ _ _)) => true
   | some (.own _) => true
   | some (.sub _ _ _) => true
   | some (.pv .unit) => true
   | _ => o8 e x)
 | _ => match o.guard with
   | none => eB (bD P [] e h o.op)
   | some (j, want) => match iH all j with
     | some s => match iI P e h s want o with
       | some _ => eB (bD P [(s, want)] e h o.op)
       | none => false
     | none => false
def cD : Op -> Bool
 | .move _ => true
 | .assign _ => true
 | .extract _ _ => true
 | .pick _ _ _ => true
 | .makeFunc _ _ _ => true
 | .binOp _ _ _ _ _ => true
 | .unOp _ _ _ => true
 | .convert _ _ _ => true
 | .call ⟨.builtin .len, _, _⟩ => true
 | .call ⟨.builtin .min, _, _⟩ => true
 | .call ⟨.builtin .max, _, _⟩ => true
 | _ => false
def dH : Op -> Bool
 | .indexAddr _ _ _ => true
 | .fieldAddr _ _ _ => true
 | .load _ _ => true
 | .nilCheck _ => true
 | .field _ _ _ => true
 | .build _ _ => true
 | _ => false
def dT : Op -> Bool
 | .move _ => true
 | .assign _ => true
 | .nilCheck _ => true
 | .fieldAddr _ _ _ => true
 | _ => false
def mE (a : Act) (o : Oper) : Prop := ∃ t x lo hi mx, o.op = .slice t x lo hi mx /\ ((∃ b l c, a.eval x = .slice b l c) ∨ a.eval x = .tuple #[])
theorem HRel.ka {w w2 : World} (hh : HRel w I G h) (hk : KA w w2) : HRel w2 I G h :=
 hh.keep hk.2 (fun _ x => x) (fun _ x => .inl x) (fun b hb => qax (hh.cl b hb) hk.1)
theorem ERel.ka {w w2 : World} {tm : Array Value} (he : ERel w I G h e tm) (hk : KA w w2) : ERel w2 I G h e tm :=
 he.mono ⟨fun b _ hb => hk.2 b hb, fun _ x _ => x⟩ (.refl _ _)
theorem uB {w w2 : World} {v : LV} {cv cv2 : Value} (hs : eB (some v) = true) (h1 : LRel w I G h v cv) (h2 : LRel w2 I G h v cv2) : cv = cv2 := by
 cases v <;> simp [eB] at hs;cases h1 with
 | pv p _ r1 =>
   cases h2 with
   | pv _ _ r2 => cases r1 <;> simp [d8] at hs <;> cases r2 <;> rfl
def iK : Op -> Bool
 | .binOp _ _ _ _ _ => true
 | .unOp _ _ _ => true
 | .convert _ _ _ => true
 | .call ⟨.builtin .len, _, _⟩ => true
 | .call ⟨.builtin .min, _, _⟩ => true
 | .call ⟨.builtin .max, _, _⟩ => true
 | _ => false
theorem zai {op : BinOp} {k : IntKind} {a b : Int} {r : PV} (h : i5 op k a b = some r) : d8 r = true := by
 cases op <;> simp [i5] at h <;> subst h <;> rfl
theorem zaj {op : BinOp} {y : Operand} {u v : LV} {r : PV} (hb : i9 P h op t y u v = some r) : d8 r = true := by
 have opt : ∀ {q : Option Bool} {b : Bool}, q.map (i6 b) = some r -> d8 r = true := fun {q b} h => by
  cases q <;> simp at h; subst h; rfl
 unfold i9 at hb;split at hb
 ·rename_i k m k' n;split at hb
  ·rename_i r' hs;cases hb;obtain ⟨_, _, _, _, hs⟩ := rA hs;rcases hs with ⟨rfl, rfl⟩ | ⟨rfl, rfl⟩ <;> rfl
  cases hk : bT k k' with
  | false => rw [hk] at hb; cases hb
  | true =>
    rw [hk] at hb;simp only [cond_true] at hb;split at hb
    ·rename_i hi; cases hb; exact zai hi
    ·split at hb
     ·rw [qaj] at hb; split at hb <;> cases hb; rfl
     ·rw [qaj] at hb; split at hb <;> cases hb; rfl
     ·cases hb
 ·split at hb <;> cases hb <;> rfl
 ·unfold kQ at hb;split at hb
  ·rw [qaj] at hb; split at hb <;> cases hb; rfl
  ·cases hb
 ·split at hb <;> first | exact opt hb | cases hb
theorem zak {A : List (Nat × Bool)} {op : Op} {v : LV} (hk : iK op = true) (hv : bD P A e h op = some v) : eB (some v) = true := by
 cases op <;> (try (simp [iK] at hk; done))
 case call c =>
  obtain ⟨ca, ar, at'⟩ := c;cases ca
  case builtin b =>
   cases b <;> (try (simp [iK] at hk; done))
   ·simp only [bD] at hv;split at hv
    ·split at hv
     ·split at hv
      ·cases hv; rfl
      ·split at hv <;> cases hv; rfl
      ·cases hv; rfl
      ·cases hv
     ·split at hv
      ·cases hv; rfl
      ·cases hv; rfl
      ·split at hv <;> cases hv; rfl
      ·cases hv
     ·cases hv; rfl
     ·cases hv
    ·cases hv
   ·simp only [bD] at hv;split at hv
    ·rw [qaj] at hv; split at hv <;> cases hv; rfl
    ·cases hv
   ·simp only [bD] at hv;split at hv
    ·rw [qaj] at hv; split at hv <;> cases hv; rfl
    ·cases hv
  all_goals simp [iK] at hk
 case binOp op t x y t' =>
  simp only [bD] at hv;split at hv
  ·split at hv
   ·rename_i hb; cases hv; exact zaj hb
   ·cases hv
  ·cases hv
 case unOp op t x =>
  cases op <;> simp only [bD] at hv <;> first
   | (split at hv <;> cases hv <;> rfl)
   | cases hv
 case convert s d x =>
  simp only [bD] at hv;split at hv <;> cases hv <;> rfl
theorem zal {c : Call} (h : cD (.call c) = true) : iK (.call c) = true := by
 obtain ⟨ca, ar, at'⟩ := c;cases ca
 case builtin b => cases b <;> first | rfl | (simp [cD] at h; done)
 all_goals simp [cD] at h
theorem uC {c : Call} (ho : o.op = .call c) (hs : cD (.call c) = true) (hK : cQ P H e h o K) : False := by
 obtain ⟨ca, ar, at'⟩ := c;cases ca
 case builtin b => cases b <;> first | (simp [cD] at hs; done) | (simp only [cQ, ho] at hK; cases hK)
 all_goals simp [cD] at hs
theorem o9 (hh : HRel w I G h) (he : ERel w I G h e a.tmps) {A : List (Nat × Bool)} (hA : AOK A a.tmps) {o : Oper} {v : LV} (hv : bD P A e h o.op = some v)
 (hc : cD o.op = true ∨ eB (some v) = true) : ∃ cv, (∀ w2, dT o.op = true ∨ KA w w2 -> (execOp a.eval o).run P w2 = .ok (.value cv) w2) /\ LRel w I G h v cv := by
 obtain ⟨cv, h1, h2⟩ := gZ hh he hA hv;refine ⟨cv, fun w2 hk => ?_, h2⟩;cases hf : dT o.op with
 | true =>
   unfold execOp at h1 ⊢;cases ho : o.op <;> rw [ho] at hf hv h1 <;> (try (simp [dT] at hf; done))
   case move x => simp only [qd] at h1 ⊢; injection h1 with h1; rw [h1]
   case assign x => simp only [qd] at h1 ⊢; injection h1 with h1; rw [h1]
   all_goals (simp only [bD] at hv; cases hv)
 | false =>
 have hk : KA w w2 := hk.resolve_left (by rw [hf]; simp);rcases hc with hc | hc
 ·by_cases hsk : iK o.op = true
  ·obtain ⟨cv2, g1, g2⟩ := gZ (hh.ka hk) (he.ka hk) hA hv;rw [g1, uB (zak hsk hv) h2 g2]
  unfold execOp at h1 ⊢;cases ho : o.op <;> rw [ho] at hc hsk <;> (try (simp [cD] at hc; done)) <;> (try exact absurd rfl hsk) <;> rw [ho] at h1
  case call c =>
   exact absurd (zal hc) hsk
  case move x => simp only [qd] at h1 ⊢; injection h1 with h1; rw [h1]
  case assign x => simp only [qd] at h1 ⊢; injection h1 with h1; rw [h1]
  case pick c x y =>
   change (do pure (.value (if <- asBool (a.eval c) then a.eval x else a.eval y)) : Sem Next).run P w = _ at h1
   show (do pure (.value (if <- asBool (a.eval c) then a.eval x else a.eval y)) : Sem Next).run P w2 = _;generalize a.eval c = cv1 at h1 ⊢;cases cv1 <;> simp only [asBool, qe, qd, qa] at h1 ⊢ <;> first | (injection h1 with h1; rw [h1]) | cases h1
  case makeFunc fn first caps =>
   change (dR (Instr.makeFunc fn (first.map a.eval) (caps.map a.eval))).run P w = _ at h1
   show (dR (Instr.makeFunc fn (first.map a.eval) (caps.map a.eval))).run P w2 = _;simp only [Instr.makeFunc, dR, qe, qd, qa] at h1 ⊢;injection h1 with h1; rw [h1]
  case extract t ix =>
   change (dR (Instr.extract (a.eval t) ix)).run P w = _ at h1
   show (dR (Instr.extract (a.eval t) ix)).run P w2 = _;unfold Instr.extract at h1 ⊢;generalize a.eval t = tv at h1 ⊢;cases tv
   case tuple vs =>
    simp only at h1 ⊢;cases hx : vs[ix]? with
    | none => rw [hx] at h1; cases h1
    | some u =>
      rw [hx] at h1;simp only [dR, qe, qd, qa] at h1 ⊢;injection h1 with h1; rw [h1]
   all_goals cases h1
 ·obtain ⟨cv2, g1, g2⟩ := gZ (hh.ka hk) (he.ka hk) hA hv;rw [g1, uB hc h2 g2]
theorem pA {A : List (Nat × Bool)} {op : Op} (hm : dH op = true) : bD P A e h op = none := by
 cases op <;> simp [dH] at hm <;> rfl
theorem uD (hm : dH o.op = true) (hK : bN P H e h o K) : OpV P o e h K := by
 unfold bN at hK;rw [pA hm] at hK;simp only [cQ] at hK;cases ho : o.op <;> rw [ho] at hm hK <;> simp [dH] at hm
 ·exact r8 ho hK
 ·exact nJ ho hK
 ·exact tX ho hK
 ·exact rN ho hK
 ·exact tV ho hK
 ·exact rL ho hK
theorem zam (hm : dH o.op = true) (hf : dT o.op = true) (hK : bN P H e h o K) : OpF P o e h K := by
 unfold bN at hK;rw [pA hm] at hK;simp only [cQ] at hK;cases ho : o.op <;> rw [ho] at hm hf hK <;> (try (simp [dH] at hm; done)) <;> (try (simp [dT] at hf; done))
 ·exact tW ho hK
 ·exact rM ho hK
theorem zan (he : ERel w I G h e a.tmps) (hm : mE a o) (hK : bN P H e h o K) : OpV P o e h K := by
 obtain ⟨t, x, lo, hi, mx, ho, hx⟩ := hm;unfold bN at hK;rw [show bD P [] e h o.op = none by rw [ho]; rfl] at hK;simp only [cQ, ho] at hK;rcases sY ho hK with hv | ⟨_, ob, off, hb⟩
 ·exact hv
 ·have := aC he (AOK.nil _) hb;rcases hx with ⟨b, l, c, hx⟩ | hx <;> rw [hx] at this <;> cases this
theorem zao {all : List Oper} (he : ERel w I G h e a.tmps) (hc : iJ P all e h o = true) : dH o.op = true ∨ mE a o ∨ cD o.op = true ∨ (match o.guard with
 | none => eB (bD P [] e h o.op) = true
 | some (j, want) => ∃ s e', iH all j = some s /\ iI P e h s want o = some e' /\ eB (bD P [(s, want)] e h o.op) = true) := by
 unfold iJ at hc;split at hc <;> rename_i ho
 any_goals (first | (rw [ho]; exact .inl rfl) | (rw [ho]; exact .inr (.inr (.inl rfl))))
 ·rename_i t x lo hi mx;refine .inr (.inl ?_);cases hsp : spS e x with
  | true => exact ⟨t, x, lo, hi, mx, ho, zah he hsp⟩
  | false =>
  rw [hsp] at hc;simp only [cond_false] at hc;split at hc
  ·rename_i hx;have := aC he (AOK.nil _) hx;generalize hcx : a.eval x = cx at this;cases this with
   | pv _ _ h1 => cases h1 <;> exact ⟨t, x, lo, hi, mx, ho, .inl ⟨_, _, _, hcx⟩⟩
  ·rename_i hx;have := aC he (AOK.nil _) hx;generalize hcx : a.eval x = cx at this;cases this <;> exact ⟨t, x, lo, hi, mx, ho, .inl ⟨_, _, _, hcx⟩⟩
  ·rename_i hx;have := aC he (AOK.nil _) hx;generalize hcx : a.eval x = cx at this;cases this <;> exact ⟨t, x, lo, hi, mx, ho, .inl ⟨_, _, _, hcx⟩⟩
  ·rename_i hx;have := aC he (AOK.nil _) hx;generalize hcx : a.eval x = cx at this;cases this with
   | pv _ _ h1 => cases h1; exact ⟨t, x, lo, hi, mx, ho, .inr hcx⟩
  ·exact ⟨t, x, lo, hi, mx, ho, .inr (zag he hc)⟩
 refine .inr (.inr (.inr ?_));split at hc
 ·exact hc
 ·rename_i j want hg;split at hc
  ·rename_i s hs;split at hc
   ·rename_i e' he'; exact ⟨s, e', hs, he', hc⟩
   ·cases hc
  ·cases hc

theorem zap {N : Nat} {ops : Array Oper} {K : Env -> Hp -> Prop} {k : Nat} (h0 : ops[k]? = some o) (hcl : iJ P ops.toList e h o = true) (hK : aU P H N ops.toList [o] e h K)
 {w : World} {I : Nat -> Prop} {G : Nat -> Pl} {a : Act} (hs : SRel w I G e h N a) :
 ∃ cv, YieldsIf P ops (fun w2 => dT o.op = true ∨ KA w w2) o cv a /\ ∃ e', K e' h /\ SRel w I G e' h N (a.put o.dst cv) /\ (a.put o.dst cv).defers = a.defers := by
 have hcl := zao hs.he hcl;have dput : ∀ cv, (a.put o.dst cv).defers = a.defers := fun cv => by unfold Act.put; cases o.dst <;> rfl
 unfold aU at hK;cases hd : dG N o with
 | false => rw [hd] at hK; cases hK
 | true =>
   rw [hd] at hK;simp only [cond_true] at hK
   have run : ∀ {e1 : Env}, ERel w I G h e1 a.tmps -> (dH o.op = true ∨ mE a o ∨ cD o.op = true ∨ eB (bD P [] e1 h o.op) = true) -> bN P H e1 h o (fun v e h => aU P H N ops.toList [] (put o v e) h K) ->
    ∃ cv, (∀ w2, dT o.op = true ∨ KA w w2 -> (execOp a.eval o).run P w2 = .ok (.value cv) w2) /\ ∃ e', K e' h /\ SRel w I G e' h N (a.put o.dst cv) := fun {e1} he1 hc hop => by
    have fin : ∀ {v cv}, K (put o v e1) h -> LRel w I G h v cv -> ∃ e', K e' h /\ SRel w I G e' h N (a.put o.dst cv) := fun {v cv} hk hr => ⟨_, hk, (fA hd hs.hn hs.hh he1 hr).1⟩;by_cases hm : dH o.op = true
    ·cases hf : dT o.op with
     | true =>
       obtain ⟨v, hk, hv⟩ := zam hm hf hop;obtain ⟨cv, g1, g2⟩ := hv w I G a hs.hh he1;exact ⟨cv, fun w2 _ => g1 w2, fin hk g2⟩
     | false =>
       obtain ⟨v, hk, hv⟩ := uD hm hop;obtain ⟨cv, g1, g2⟩ := hv w I G a hs.hh he1;exact ⟨cv, fun w2 h2 => g1 w2 (h2.resolve_left (by simp)), fin hk g2⟩
    ·rcases hc.resolve_left hm with hsl | hc
     ·obtain ⟨v, hk, hv⟩ := zan he1 hsl hop;obtain ⟨cv, g1, g2⟩ := hv w I G a hs.hh he1;obtain ⟨_, _, _, _, _, hslo, _⟩ := hsl;exact ⟨cv, fun w2 h2 => g1 w2 (h2.resolve_left (by rw [hslo]; simp [dT])), fin hk g2⟩
     unfold bN at hop;cases hev : bD P [] e1 h o.op with
     | none =>
       rcases hc with hc | hc
       ·rw [hev] at hop;cases ho : o.op
        case call c => rw [ho] at hc; exact (uC ho hc hop).elim
        case binOp op t x y yt =>
         simp only [cQ, ho] at hop;obtain ⟨v, cv, g1, g2, g3⟩ := nR (P := P) ho hop he1;exact ⟨cv, fun w2 _ => g2 w2, fin g1 g3⟩
        all_goals (rw [ho] at hc; simp only [cQ, ho] at hop; simp [cD] at hc; try cases hop)
       ·rw [hev] at hc; cases hc
     | some v =>
       rw [hev] at hop hc;obtain ⟨cv, g1, g2⟩ := o9 hs.hh he1 (AOK.nil _) hev hc;exact ⟨cv, g1, fin hop g2⟩
   have skip : ∀ {e1 : Env}, SRel w I G e1 h N (a.put o.dst undef) -> aU P H N ops.toList [] e1 h K -> ∃ e', K e' h /\ SRel w I G e' h N (a.put o.dst undef) := fun {e1} hs1 hop => ⟨e1, hop, hs1⟩;split at hK
   ·rename_i hg;have hw : Region.wanted o (yielded ops a.tmps) = true := by simp [Region.wanted, hg]
    simp only [hg] at hcl;obtain ⟨cv, g1, e', g2, g3⟩ := run hs.he hcl hK;exact ⟨cv, .inl ⟨hw, g1⟩, e', g2, g3, dput _⟩
   ·rename_i j want hg;have hwd : Region.wanted o (yielded ops a.tmps) = (yielded ops a.tmps j == some want) := by simp [Region.wanted, hg]
    split at hK
    ·rename_i s hds
     have hyield : (yielded ops a.tmps j = some want ↔ a.tmps.getD s undef = .bool want) := by
      unfold iH at hds;split at hds
      ·rename_i oj hoj;have hoj' : ops[j]? = some oj := by simpa using hoj
       unfold yielded;simp only [hoj', qbg, hds];rw [qg];cases hts : a.tmps[s]? with
       | none => simp [undef]
       | some v => cases v <;> simp
      ·cases hds
     split at hK
     ·rename_i e' hsp0;have hsp := hsp0;unfold iI at hsp;split at hsp
      ·rename_i d hdst;cases hsd : qk s d with
       | true => rw [hsd] at hsp; cases hsp
       | false =>
         rw [hsd] at hsp;simp only [cond_false] at hsp;have hne : s ≠ d := fun e => by subst e; simp at hsd
         have hlt : d < a.tmps.size := by rw [hs.hn]; unfold dG at hd; rw [hdst] at hd; exact qq hd
         split at hsp
         ·rename_i v hv;cases hsp;by_cases hwt : a.tmps.getD s undef = .bool want
          ·have hcc : cD o.op = true ∨ eB (some v) = true := by
            rcases hcl with hm | hm | hm | hm
            ·rw [pA hm] at hv; cases hv
            ·obtain ⟨t, x, lo, hi, mx, ho, hx⟩ := hm; rw [ho] at hv; cases hv
            ·exact .inl hm
            ·simp only [hg] at hm;obtain ⟨s', e'', q1, q2, q3⟩ := hm;rw [hds] at q1; cases q1;rw [hv] at q3;exact .inr q3
           obtain ⟨cv, g1, g2⟩ := o9 hs.hh hs.he ((AOK.nil _).cons hwt) hv hcc;refine ⟨cv, .inl ⟨by rw [hwd]; simp [hyield.2 hwt], g1⟩, _, hK, ⟨hs.hh, ?_, by simp [Act.put, hdst, hs.hn]⟩, dput _⟩;simp only [Act.put, hdst];exact hs.he.setSpec hlt hne (fun _ => g2) (fun hc => absurd hwt hc)
          ·obtain ⟨e1, g1, g2⟩ := skip (e1 := set e d (.spec s want v)) ⟨hs.hh, by simp only [Act.put, hdst]; exact hs.he.setSpec hlt hne (fun hc => absurd hc hwt) (fun _ => rfl), by simp [Act.put, hdst, hs.hn]⟩ hK;exact ⟨undef, .inr ⟨by rw [hwd]; simp; exact fun hc => hwt (hyield.1 hc), rfl⟩, e1, g1, g2, dput _⟩
         ·cases hsp
      ·cases hsp
     ·rename_i hspn;obtain ⟨e', q, hk, he', hq'⟩ := mC hs.he hK
      have hcc : dH o.op = true ∨ mE a o ∨ cD o.op = true := by
       rcases hcl with hm | hm | hm | hm
       ·exact .inl hm
       ·exact .inr (.inl hm)
       ·exact .inr (.inr hm)
       ·simp only [hg] at hm;obtain ⟨s', e'', q1, q2, q3⟩ := hm;rw [hds] at q1; cases q1;rw [hspn] at q2; cases q2
      cases hiw : eA q want with
      | true =>
        rw [hiw] at hk;have hqw : q = some want := by unfold eA at hiw; split at hiw <;> first | rfl | cases hiw
        subst hqw;obtain ⟨cv, g1, e1, g2, g3⟩ := run he' (hcc.imp id (fun x => x.imp id .inl)) hk;exact ⟨cv, .inl ⟨by rw [hwd]; simp [hyield.2 hq'], g1⟩, e1, g2, g3, dput _⟩
      | false =>
        rw [hiw] at hk;simp only [cond_false] at hk
        have hqw : a.tmps.getD s undef ≠ .bool want := fun hc => by
         cases q with
         | none => simp only at hq'; rw [hq'] at hc; cases hc
         | some b => simp only at hq'; rw [hq'] at hc; injection hc with hc; subst hc; cases b <;> simp [eA] at hiw
        obtain ⟨e1, g1, g2⟩ := skip (fA hd hs.hn hs.hh he' (.pv _ _ .unit)).1 hk;exact ⟨undef, .inr ⟨by rw [hwd]; simp; exact fun hc => hqw (hyield.1 hc), rfl⟩, e1, g1, g2, dput _⟩
    ·cases hK
end Go.Eng
namespace Go.Eng
open Go
variable {P : Program} {w : World} {I : Nat -> Prop} {G : Nat -> Pl} {h : Hp} {e : Env} {o : Oper} {t : TypeId} {K : Kt} {cv : Value} {a : Act}
variable {H : Nat -> Option HSpec}
def mF (H : Nat -> Option HSpec) : Op -> Bool
 | .call c => match c.callee with
   | .value fo => (oH H fo).isNone
   | _ => false
 | _ => false
def mG : Op -> Bool
 | .box _ _ => true
 | .alloc _ => true
 | .buildSlice _ _ _ => true
 | .lookup _ _ _ _ => true
 | .makeMap _ _ => true
 | .slice _ _ _ _ _ => true
 | _ => false
def mH (H : Nat -> Option HSpec) (e : Env) (o : Oper) : Bool :=
 mF H o.op || dH o.op || cD o.op || mG o.op || (match o.guard, o.op with
  | none, .call c => match c.callee, c.args.toList with
    | .builtin .append, [s, _] => match aF [] e s with
      | some (.pv _) => true
      | _ => false
    | _, _ => false
  | _, _ => false)
def fQ (H : Nat -> Option HSpec) (ops : Array Oper) (k : Nat) : Bool := match ops[k]? with
 | some o => !(dH o.op || cD o.op || mG o.op || mF H o.op || (match o.op with | .slice _ _ _ _ _ => true | _ => false))
 | none => false
def mI (H : Nat -> Option HSpec) (ops : Array Oper) (listed : List Bool) (k : Nat) (o : Oper) : Bool :=
 !fQ H ops k && (dT o.op || (qcg ops.size).all fun j => !fQ H ops j || (listed.getD j true || gN ops listed.toArray ops.size j k))
def mJ (P : Program) (H : Nat -> Option HSpec) (ops : Array Oper) (e : Env) (h : Hp) (listed : List Bool) : List Nat -> Option Nat
 | [] => none
 | k :: r => match ops[k]? with
   | some o => bif iJ P ops.toList e h o && (mI H ops listed k o && Region.free .any ops listed.toArray k) then some k else mJ P H ops e h listed r
   | none => none
def pB (p : Nat -> Prop) : Nat -> List Nat -> Prop
 | k, [] => p k
 | k, x :: r => p k /\ pB p x r
theorem uE {p : Nat -> Prop} : ∀ {k : Nat} {r : List Nat}, pB p k r -> ∀ i ∈ k :: r, p i
 | k, [], h, i, hi => by have : i = k := by simpa using hi
                         subst this; exact h
 | k, x :: r, h, i, hi => by
   rcases List.mem_cons.1 hi with rfl | hi
   ·exact h.1
   ·exact uE h.2 i hi
def iL (P : Program) (H : Nat -> Option HSpec) (N : Nat) (ops : Array Oper) : Nat -> List Bool -> Env -> Hp -> (Env -> Hp -> Prop) -> Prop
 | 0, listed, e, h, K => match Region.ready .any ops listed.toArray with
   | [] => K e h
   | _ :: _ => aA 2101
 | f + 1, listed, e, h, K => match mJ P H ops e h listed (Region.ready .any ops listed.toArray) with
   | some k => match ops[k]? with
     | some o => aU P H N ops.toList [o] e h fun e h => iL P H N ops f (listed.set k true) e h K
     | none => aA 2102
   | none => match Region.ready .any ops listed.toArray with
     | [] => aA 2103
     | k :: r => pB (fun k => match ops[k]? with
       | some o => bif fQ H ops k || mH H e o then aU P H N ops.toList [o] e h fun e h => iL P H N ops f (listed.set k true) e h K else aA 2104
       | none => aA 2105) k r
def pC (P : Program) (H : Nat -> Option HSpec) (N : Nat) (ops : Array Oper) (e : Env) (h : Hp) (K : Env -> Hp -> Prop) : Prop :=
 bif P.follows .mixedOrders && Region.noSelect ops then iL P H N ops ops.size (qan ops.size false) e h K else aA 1001

theorem uF {ops : Array Oper} {listed : List Bool} {k : Nat} : ∀ {l : List Nat}, mJ P H ops e h listed l = some k ->
 k ∈ l /\ Region.free .any ops listed.toArray k = true /\ ∃ o, ops[k]? = some o /\ iJ P ops.toList e h o = true /\ mI H ops listed k o = true
 | [], hp => by cases hp
 | x :: r, hp => by
   unfold mJ at hp;split at hp
   ·rename_i o ho;cases hb : (iJ P ops.toList e h o && (mI H ops listed x o && Region.free .any ops listed.toArray x)) with
    | true =>
      rw [hb] at hp;simp only [cond_true, Option.some.injEq] at hp;subst hp;simp only [qc] at hb;exact ⟨by simp, hb.2.2, o, ho, hb.1, hb.2.1⟩
    | false =>
      rw [hb] at hp;obtain ⟨g1, g2⟩ := uF (l := r) hp;exact ⟨by simp [g1], g2⟩
   ·cases hp

theorem OpZ.callK (hc : mF H o.op = true) (hK : bN P H e h o K) : OpK P o e h K := by
 unfold bN at hK;cases ho : o.op <;> rw [ho] at hc <;> simp [mF] at hc;rename_i c;split at hc
 ·rename_i fo hfo;have hn : bD P [] e h o.op = none := by rw [ho]; simp only [bD, hfo]
  rw [hn] at hK;simp only [cQ, ho, hfo] at hK;split at hK
  ·rename_i u vs hu hv;split at hK
   ·rename_i f caps hf; exact zE (by simpa using hc) ho hfo hu hf hv hK
   ·cases hK
  ·cases hK
 ·cases hc

theorem OpZ.allocK (hc : mG o.op = true) (hK : bN P H e h o K) : OpK P o e h K := by
 unfold bN at hK;cases ho : o.op <;> rw [ho] at hc <;> simp [mG] at hc <;> simp only [bD, cQ, ho] at hK
 all_goals first
  | exact rU ho hK
  | exact rV ho hK
  | exact sB ho hK
  | exact tK ho hK
  | exact tR ho hK
  | exact sZ ho hK
theorem OpZ.sameK (hc : cD o.op = true) (hK : bN P H e h o K) : OpK P o e h K := by
 unfold bN at hK;cases hev : bD P [] e h o.op with
 | none =>
   rw [hev] at hK;cases ho : o.op
   case call c => rw [ho] at hc; exact (uC ho hc hK).elim
   case binOp op t x y yt =>
    simp only [cQ, ho] at hK;intro w I G a next Qx hh he hn
    obtain ⟨v, cv, g1, g2, g3⟩ := nR (P := P) ho hK he;unfold Oper.wp;rw [g2 w];exact hn v e h w I G cv g1 hh he g3 (.refl _ _ _ _) (KA.refl w)
   all_goals (rw [ho] at hc; simp only [cQ, ho] at hK; simp [cD] at hc; try cases hK)
 | some v =>
   rw [hev] at hK;intro w I G a next Qx hh he hn
   obtain ⟨cv, g1, g2⟩ := o9 hh he (AOK.nil _) hev (.inl hc);unfold Oper.wp;rw [g1 w (.inr (KA.refl w))];exact hn v e h w I G cv hK hh he g2 (.refl _ _ _ _) (KA.refl w)
theorem OpZ.keepK {e e1 : Env} (hc : mH H e o = true) (hge : o.guard = none -> e1 = e) (hK : bN P H e1 h o K) : OpK P o e1 h K := by
 unfold mH at hc;simp only [qae] at hc;rcases hc with (((hc | hc) | hc) | hc) | hc
 ·exact OpZ.callK hc hK
 ·exact (uD hc hK).opK
 ·exact OpZ.sameK hc hK
 ·exact OpZ.allocK hc hK
 ·split at hc
  ·rename_i c hg ho;split at hc
   ·rename_i s x hcal har;split at hc
    ·rename_i p hp;have := hge hg;subst this;have hn : bD P [] e1 h o.op = none := by rw [ho]; simp only [bD, hcal]
     unfold bN at hK;rw [hn] at hK;simp only [cQ, ho, hcal] at hK
     exact fun w I G a next Qx hh he hnx => sG ho hcal hK w I G a next Qx hh he fun v e' h' w' I' G' cv h1 h2 h3 h4 h5 h6 => hnx v e' h' w' I' G' cv h1 h2 h3 h4 h5
      (h6.resolve_left (fun ⟨s', x', ob, q1, q2⟩ => by rw [har] at q1; cases q1; rw [hp] at q2; cases q2))
    ·cases hc
   ·cases hc
  ·cases hc
theorem zaq {N : Nat} {ops : Array Oper} {Qx : Exit -> Act -> World -> Prop} {K : Env -> Hp -> Prop} (hsel : Region.noSelect ops = true) :
 ∀ (f : Nat) (listed : List Bool) (e : Env) (h : Hp), iL P H N ops f listed e h K -> ∀ (w : World) (I : Nat -> Prop) (G : Nat -> Pl) (a : Act), SRel w I G e h N a ->
  (∀ e' h' w' I' G' a', K e' h' -> SRel w' I' G' e' h' N a' -> a'.defers = a.defers -> TrH w I G h w' I' G' h' -> Qx .normal a' w') ->
  wpW P ops (NoPanic Qx) (fQ H ops) f listed.toArray a w := by
 intro f
 induction f with
 | zero =>
   intro listed e h hK w I G a hs hq;unfold iL at hK;split at hK
   ·rename_i hr;exact ⟨hr, .normal (hq e h w I G a hK hs rfl (.refl _ _ _ _))⟩
   ·cases hK
 | succ f ih =>
   intro listed e h hK w I G a hs hq;unfold iL at hK;split at hK
   ·rename_i k hp;obtain ⟨hk, hfr, o, ho, hcl, hpk⟩ := uF hp;rw [ho] at hK;simp only at hK;obtain ⟨cv, hy, e', hk', hs', hd⟩ := zap ho hcl hK hs;simp only [mI, qc, qp, qae, qbc] at hpk;refine zad (fr := dT o.op) (L0 := listed.toArray) (d := ops.size) ho (Region.noSelect_spec hsel) (fun c a w hp => hp.elim) (hpk.2.imp id fun hx j hj hji hu => ?_) f listed.toArray a w (Closed.self _ _) (fun j h => h) (Region.free_spec ho hfr) hk hy ?_
    ·have hjl : j < ops.size := by
      unfold fQ at hj;split at hj
      ·rename_i oj hoj; exact (Array.getElem?_eq_some_iff.1 hoj).1
      ·cases hj
     have := hx j (List.mem_range.2 hjl);rw [hj] at this;simp only [Bool.true_eq_false, false_or] at this
     exact this.resolve_left (by
      have h1 : listed.toArray.getD j true = listed.getD j true := by simp [qg, qw]
      rw [h1] at hu; rw [hu]; simp)
    rw [qba];exact ih _ _ _ hk' w I G _ hs' fun e2 h2 w2 I2 G2 a2 q1 q2 q3 q4 => hq e2 h2 w2 I2 G2 a2 q1 q2 (q3.trans hd) q4
   ·split at hK
    ·cases hK
    ·rename_i k r hr;refine ⟨by rw [hr]; simp, fun i hi => ?_⟩;rw [hr] at hi;have hK := uE hK i hi;split at hK
     ·rename_i o ho;cases hb : fQ H ops i || mH H e o with
      | false => rw [hb] at hK; cases hK
      | true =>
        rw [hb] at hK;simp only [cond_true] at hK;refine zaf (Z := fun w w' => fQ H ops i = true ∨ KA w w') (fun w => .inr (KA.refl w)) (fun e1 K' hge hop => ?_) ho hK hs fun e' h' w' I' G' a' q1 q2 q3 q4 q5 => ⟨q5, ?_⟩
        ·simp only [qae] at hb;rcases hb with hb | hb
         ·exact fun w I G a next Qx hh he hnx => tZ hop w I G a next Qx hh he fun v e' h' w' I' G' cv h1 h2 h3 h4 h5 => hnx v e' h' w' I' G' cv h1 h2 h3 h4 h5 (.inl hb)
         ·exact fun w I G a next Qx hh he hnx => OpZ.keepK hb hge hop w I G a next Qx hh he fun v e' h' w' I' G' cv h1 h2 h3 h4 h5 h6 => hnx v e' h' w' I' G' cv h1 h2 h3 h4 h5 (.inr h6)
        ·rw [qba];exact ih _ _ _ q1 w' I' G' a' q2 fun e2 h2 w2 I2 G2 a2 r1 r2 r3 r4 => hq e2 h2 w2 I2 G2 a2 r1 r2 (r3.trans q3) (q4.trans r4)
     ·cases hK
theorem HRel.drewn {N : Nat} (hs : SRel w I G e h N a) : SRel w.drew I G e h N a :=
 ⟨hs.hh.ka ⟨qi _, fun _ _ => rfl⟩, hs.he.ka ⟨qi _, fun _ _ => rfl⟩, hs.hn⟩
theorem zar {N id : Nat} {ops : Array Oper} {Qx : Exit -> Act -> World -> Prop} {K : Env -> Hp -> Prop} (hK : pC P H N ops e h K) {w : World} {I : Nat -> Prop} {G : Nat -> Pl} {a : Act} (hs : SRel w I G e h N a)
 (hq : ∀ e' h' w' I' G' a', K e' h' -> SRel w' I' G' e' h' N a' -> a'.defers = a.defers -> TrH w I G h w' I' G' h' -> Qx .normal a' w') : (Code.region id ops true).wp P Qx a w := by
 unfold pC at hK;cases hb : P.follows .mixedOrders && Region.noSelect ops with
 | false => rw [hb] at hK; cases hK
 | true =>
   rw [hb] at hK;simp only [cond_true] at hK;simp only [qc] at hb;refine zae (X := fQ H ops) hb.1 ?_;have h1 := zaq (Qx := Qx) hb.2 ops.size _ e h hK w.drew I G a (HRel.drewn hs) fun e' h' w' I' G' a' q1 q2 q3 q4 => hq e' h' w' I' G' a' q1 q2 q3 (TrH.trans TrH.drew q4);have e1 : (qan ops.size false).toArray = qag ops.size false := by simp
   rwa [e1] at h1
end Go.Eng
namespace Go.Eng
open Go
variable {P : Program} {w : World} {I : Nat -> Prop} {G : Nat -> Pl} {h : Hp} {e : Env} {o : Oper} {t : TypeId} {K : Kt} {cv : Value} {a : Act}
variable {H : Nat -> Option HSpec}
inductive Ex where
 | normal
 | exit (id : Nat)
 | ret
def Ex.to : Ex -> Exit
 | .normal => .normal
 | .exit n => .exit n
 | .ret => .ret
abbrev Qt := Ex -> Env -> Hp -> Prop
structure TrN (n0 : Nat) (w : World) (I : Nat -> Prop) (G : Nat -> Pl) (h : Hp) (w' : World) (I' : Nat -> Prop) (G' : Nat -> Pl) (h' : Hp) : Prop where
 t : Tr w I (aD h G) w' I' (aD h' G')
 len : n0 <= h.length -> n0 <= h'.length
 stay : n0 <= h.length -> ∀ (o : Nat) ob', o < n0 -> h'[o]? = some ob' -> ob'.fixed = true -> G' o = G o /\ ∃ ob, h[o]? = some ob /\ ob.fixed = true
theorem TrH.toN {n0 : Nat} {w w' : World} {I I' : Nat -> Prop} {G G' : Nat -> Pl} {h h' : Hp} (a : TrH w I G h w' I' G' h') : TrN n0 w I G h w' I' G' h' :=
 ⟨a.t, fun hn => Nat.le_trans hn a.len, fun hn o ob' ho => a.stay o ob' (qax ho hn)⟩
theorem TrN.refl (n0 : Nat) (w : World) (I : Nat -> Prop) (G : Nat -> Pl) (h : Hp) : TrN n0 w I G h w I G h := (TrH.refl w I G h).toN
theorem TrN.trans {n0 : Nat} {w w1 w2 : World} {I I1 I2 : Nat -> Prop} {G G1 G2 : Nat -> Pl} {h h1 h2 : Hp} (a : TrN n0 w I G h w1 I1 G1 h1) (b : TrN n0 w1 I1 G1 h1 w2 I2 G2 h2) : TrN n0 w I G h w2 I2 G2 h2 :=
 ⟨a.t.trans b.t, fun hn => b.len (a.len hn), fun hn o ob' ho hx hf => by
  obtain ⟨e1, ob1, q1, q2⟩ := b.stay (a.len hn) o ob' ho hx hf;obtain ⟨e2, ob2, r1, r2⟩ := a.stay hn o ob1 ho q1 q2
  exact ⟨e1.trans e2, ob2, r1, r2⟩⟩
def CodeS (P : Program) (n0 : Nat) (N : Nat) (c : Code) (e : Env) (h : Hp) (Q : Qt) : Prop :=
 ∀ (w : World) (I : Nat -> Prop) (G : Nat -> Pl) (a : Act) (Qx : Exit -> Act -> World -> Prop), SRel w I G e h N a ->
  (∀ x e' h' w' I' G' a', Q x e' h' -> SRel w' I' G' e' h' N a' -> a'.defers = a.defers -> TrN n0 w I G h w' I' G' h' -> Qx x.to a' w') -> c.wp P Qx a w

theorem SRel.drew {N : Nat} (hs : SRel w I G e h N a) : SRel w.drew I G e h N a :=
 ⟨hs.hh.drew, hs.he.mono ⟨fun _ _ _ => rfl, fun _ x _ => x⟩ (.refl _ _), hs.hn⟩

theorem CodeS.skip {n0 : Nat} {N : Nat} {Q : Qt} (hK : Q .normal e h) : CodeS P n0 N .skip e h Q :=
 fun w I G a Qx hs hq => wp_skip (hq .normal e h w I G a hK hs rfl (.refl _ _ _ _ _))
theorem CodeS.scope {n0 : Nat} {N : Nat} {c : Code} {Q : Qt} (hK : CodeS P n0 N c e h Q) : CodeS P n0 N (.scope c) e h Q :=
 fun w I G a Qx hs hq => wp_scope_straight (hK w I G a (Exit.noGoto Qx) hs fun x e' h' w' I' G' a' q1 q2 q3 q4 => by cases x <;> exact hq _ e' h' w' I' G' a' q1 q2 q3 q4)
theorem CodeS.label {n0 : Nat} {N n : Nat} {Q : Qt} (hK : Q .normal e h) : CodeS P n0 N (.label n) e h Q :=
 fun w I G a Qx hs hq => wp_label (hq .normal e h w I G a hK hs rfl (.refl _ _ _ _ _))
theorem CodeS.exit {n0 : Nat} {N n : Nat} {Q : Qt} (hK : Q (.exit n) e h) : CodeS P n0 N (.exit n) e h Q :=
 fun w I G a Qx hs hq => wp_exit (hq (.exit n) e h w I G a hK hs rfl (.refl _ _ _ _ _))
theorem CodeS.ret {n0 : Nat} {N : Nat} {Q : Qt} (hK : Q .ret e h) : CodeS P n0 N .ret e h Q :=
 fun w I G a Qx hs hq => wp_ret (hq .ret e h w I G a hK hs rfl (.refl _ _ _ _ _))
theorem CodeS.seq {n0 : Nat} {N : Nat} {x y : Code} {Q : Qt} (hK : CodeS P n0 N x e h fun q e h => match q with | .normal => CodeS P n0 N y e h Q | q => Q q e h) : CodeS P n0 N (.seq x y) e h Q := by
 intro w I G a Qx hs hq;refine wp_seq (hK w I G a _ hs fun q e' h' w' I' G' a' hk hs' hd ht => ?_);cases q with
 | normal => exact hk w' I' G' a' Qx hs' fun q2 e2 h2 w2 I2 G2 a2 hk2 hs2 hd2 ht2 => hq q2 e2 h2 w2 I2 G2 a2 hk2 hs2 (hd2.trans hd) (ht.trans ht2)
 | exit n => exact hq (.exit n) e' h' w' I' G' a' hk hs' hd ht
 | ret => exact hq .ret e' h' w' I' G' a' hk hs' hd ht
theorem CodeS.cond {n0 : Nat} {N : Nat} {c : Operand} {x y : Code} {Q : Qt} {t : Bool} (hc : aF [] e c = some (.pv (.bool t))) (hK : if t = true then CodeS P n0 N x e h Q else CodeS P n0 N y e h Q) : CodeS P n0 N (.cond c x y) e h Q := by
 intro w I G a Qx hs hq;refine wp_cond (aC hs.he (AOK.nil _) hc).bool_eq ?_;cases t with
 | true => simp only [if_true] at hK ⊢; exact hK w I G a Qx hs hq
 | false => simp only [qu, if_false] at hK ⊢; exact hK w I G a Qx hs hq
theorem CodeS.block {n0 : Nat} {N id : Nat} {c : Code} {Q : Qt}
 (hK : CodeS P n0 N c e h fun q e h => match q with | .exit n => (bif qk n id then Q .normal e h else Q (.exit n) e h) | q => Q q e h) : CodeS P n0 N (.block id c) e h Q := by
 intro w I G a Qx hs hq;refine wp_block (hK w I G a _ hs fun q e' h' w' I' G' a' hk hs' hd ht => ?_);cases q with
 | normal => exact hq .normal e' h' w' I' G' a' hk hs' hd ht
 | ret => exact hq .ret e' h' w' I' G' a' hk hs' hd ht
 | exit n =>
   simp only [Ex.to, Exit.inBlock];cases hb : qk n id with
   | true =>
     simp only [hb, cond_true] at hk;rw [if_pos (qh hb)];exact hq .normal e' h' w' I' G' a' hk hs' hd ht
   | false =>
     simp only [hb, cond_false] at hk;rw [if_neg (fun e => by subst e; simp at hb)];exact hq (.exit n) e' h' w' I' G' a' hk hs' hd ht
theorem CodeS.mono {n0 : Nat} {N : Nat} {c : Code} {Q Q' : Qt} (hK : CodeS P n0 N c e h Q) (hq : ∀ x e h, Q x e h -> Q' x e h) : CodeS P n0 N c e h Q' :=
 fun w I G a Qx hs hq' => hK w I G a Qx hs fun x e' h' w' I' G' a' hk => hq' x e' h' w' I' G' a' (hq _ _ _ hk)

def adopt : List (Nat × Nat × Nat) -> Env -> Hp -> Env × Hp
 | [], e, h => (e, h)
 | (i, ty) :: r, e, h => bif qao 1000000 i then
  (match h[(i - 1000000) / 1000]? with
   | some (.box cs) => match cs[(i - 1000000) % 1000]? with
     | some (.pv (.sl true _ [])) => adopt r e ((h ++ [Ob.sl ty false true []]).set ((i - 1000000) / 1000) (Ob.box (cs.set ((i - 1000000) % 1000) (.own h.length))))
     | _ => adopt r e h
   | _ => adopt r e h)
   else match get e i with
   | some (.pv (.sl true _ [])) => adopt r ((i, .own h.length) :: e) (h ++ [.sl ty false true []])
   | _ => adopt r e h
theorem SRel.adopt {N : Nat} : ∀ {ad : List (Nat × Nat × Nat)} {e : Env} {h : Hp} {G : Nat -> Pl}, SRel w I G e h N a ->
 ∃ G', SRel w I G' (adopt ad e h).1 (adopt ad e h).2 N a /\ (∀ b, aD (Eng.adopt ad e h).2 G' b -> aD h G b) /\ ∀ o, o < h.length -> G' o = G o /\ ((Eng.adopt ad e h).2[o]? = h[o]? ∨ ∃ cs cs', h[o]? = some (.box cs) /\ (Eng.adopt ad e h).2[o]? = some (.box cs'))
 | [], e, h, G, hs => ⟨G, hs, fun b hb => hb, fun o _ => ⟨rfl, .inl rfl⟩⟩
 | (i, ty) :: r, e, h, G, hs => by
   unfold Eng.adopt;cases hbig : qao 1000000 i with
   | true =>
     simp only [cond_true];split
     ·rename_i cs hob;split
      ·rename_i f hg;generalize (i - 1000000) / 1000 = o at *;generalize (i - 1000000) % 1000 = q at *;have hol : o < h.length := (List.getElem?_eq_some_iff.1 hob).1;have hql : q < cs.length := (List.getElem?_eq_some_iff.1 hg).1;have hp : ¬ (Ob.sl ty false true []).alive ⟨0, 0, 0, 0⟩ := fun x => by cases x.1
       have hh' := hs.hh.add (.sl ty false true []) ⟨0, 0, 0, 0⟩ hp rfl;have hob' : (h ++ [Ob.sl ty false true []])[o]? = some (.box cs) := by rw [qn hol]; exact hob
       obtain ⟨vs, ty', e1, e2, e3⟩ := hh'.obs o _ hob';have hL : Like (aG G h.length ⟨0, 0, 0, 0⟩) (aG G h.length ⟨0, 0, 0, 0⟩) (h ++ [.sl ty false true []]) ((h ++ [Ob.sl ty false true []]).set o (Ob.box (cs.set q (.own h.length)))) := Like.set hob' trivial;have hK := Keeps.refl w I
       have hh2 := hh'.upd (w' := w) (ob' := .box (cs.set q (.own h.length))) hob' trivial (fun _ _ => rfl) (qi _) trivial ⟨vs, ty', e1, by simpa using e2, fun k v hk => by
        rw [qaq] at hk;by_cases hqk : q = k
        ·subst hqk;rw [if_pos rfl, if_pos hql] at hk;cases hk;obtain ⟨r1, r2⟩ := e3 q _ hg
         have hv : ∀ cv, LRel w I (aG G h.length ⟨0, 0, 0, 0⟩) (h ++ [.sl ty false true []]) (.pv (.sl true f [])) cv -> cv = .slice none 0 0 := fun cv r => by
          cases r with
          | pv _ _ h1 => cases h1 with
            | slnil => rfl
         rw [hv _ r1];exact ⟨LRel.ownNil h.length ty false [] (by rw [qac (qam hol)]; simp), rfl⟩
        ·rw [if_neg hqk] at hk
         exact ⟨(e3 k v hk).1.mono hK hL, (e3 k v hk).2⟩⟩
       have hs' : SRel w I (aG G h.length ⟨0, 0, 0, 0⟩) e ((h ++ [Ob.sl ty false true []]).set o (Ob.box (cs.set q (.own h.length)))) N a :=
        ⟨hh2, (hs.he.mono (Keeps.refl w I) (Like.push G h ⟨0, 0, 0, 0⟩ (.sl ty false true []))).mono hK hL, hs.hn⟩
       obtain ⟨G', g1, g2, g3⟩ := SRel.adopt (ad := r) hs';refine ⟨G', g1, fun b hb => ?_, fun o2 ho2 => ?_⟩
       ·obtain ⟨o2, ob, h1, h2, h3⟩ := g2 b hb;by_cases hoo : o2 = o
        ·subst hoo;refine ⟨o2, _, hob, trivial, ?_⟩;have e1 : aG G h.length ⟨0, 0, 0, 0⟩ o2 = G o2 := by simp [aG, qam hol]
         rw [e1] at h3; exact h3
        ·rw [qac (Ne.symm hoo)] at h1;rcases qcb o2 h.length with ho | ho | ho
         ·rw [qn ho] at h1;have e1 : aG G h.length ⟨0, 0, 0, 0⟩ o2 = G o2 := by simp [aG, qam ho]
          rw [e1] at h2 h3;exact ⟨o2, ob, h1, h2, h3⟩
         ·subst ho; simp at h1; subst h1; cases h2.1
         ·rw [qas (by simp; omega)] at h1; cases h1
       ·obtain ⟨q1, q2⟩ := g3 o2 (by simp; omega);refine ⟨q1.trans (by simp [aG, qam ho2]), ?_⟩;by_cases hoo : o2 = o
        ·subst hoo
         have h5 : ((h ++ [Ob.sl ty false true []]).set o2 (Ob.box (cs.set q (.own h.length))))[o2]? = some (.box (cs.set q (.own h.length))) := by
          rw [qaq, if_pos rfl, if_pos (by simp; omega)]
         rw [h5] at q2;refine .inr ?_;rcases q2 with q2 | ⟨c1, c2, _, q2⟩
         ·exact ⟨_, _, hob, q2⟩
         ·exact ⟨_, _, hob, q2⟩
        ·rw [qac (Ne.symm hoo), qn ho2] at q2;exact q2
      ·exact SRel.adopt hs
     ·exact SRel.adopt hs
   | false =>
     simp only [cond_false];split
     ·rename_i f hg;have hp : ¬ (Ob.sl ty false true []).alive ⟨0, 0, 0, 0⟩ := fun x => by cases x.1
      have hh' := hs.hh.add (.sl ty false true []) ⟨0, 0, 0, 0⟩ hp rfl
      have hv : a.tmps.getD i undef = .slice none 0 0 := by
       have := hs.he i _ hg;simp only [VRel] at this;generalize a.tmps.getD i undef = cv at this;cases this with
       | pv _ _ h1 => cases h1 with
         | slnil => rfl
      have hs' : SRel w I (aG G h.length ⟨0, 0, 0, 0⟩) ((i, .own h.length) :: e) (h ++ [.sl ty false true []]) N a :=
       ⟨hh', (hs.he.mono (Keeps.refl w I) (Like.push G h ⟨0, 0, 0, 0⟩ (.sl ty false true []))).cons (by rw [hv]; exact LRel.ownNil h.length ty false [] (by simp)), hs.hn⟩
      obtain ⟨G', g1, g2, g3⟩ := SRel.adopt (ad := r) hs';refine ⟨G', g1, fun b hb => ?_, fun o ho => ?_⟩
      rotate_left
      ·obtain ⟨q1, q2⟩ := g3 o (by simp; omega);exact ⟨q1.trans (by simp [aG, qam ho]), by rw [qn ho] at q2; exact q2⟩
      obtain ⟨o, ob, h1, h2, h3⟩ := g2 b hb;rcases qcb o h.length with ho | ho | ho
      ·rw [qn ho] at h1;have e1 : aG G h.length ⟨0, 0, 0, 0⟩ o = G o := by simp [aG, qam ho]
       rw [e1] at h2 h3;exact ⟨o, ob, h1, h2, h3⟩
      ·subst ho; simp at h1; subst h1; cases h2.1
      ·rw [qas (by simp; omega)] at h1; cases h1
     ·exact SRel.adopt hs

def fB : Nat -> Nat -> List Nat -> Bool
 | 0, _, _ => true
 | n + 1, k, x :: r => qk x k && fB n (k + 1) r
 | _ + 1, _, [] => false
def fR (n0 : Nat) (mv : List Nat) (i : Nat) : Ob -> Ob
 | .sl ty m n es => .sl ty (bif qao n0 i || cI i mv then true else m) n es
 | ob => ob
def cE (n0 : Nat) (mv : List Nat) : Nat -> List Ob -> Hp
 | _, [] => []
 | i, ob :: r => fR n0 mv i ob :: cE n0 mv (i + 1) r
theorem pD {n0 : Nat} {mv : List Nat} : ∀ {l : List Ob} {i j : Nat}, (cE n0 mv i l)[j]? = (l[j]?).map (fR n0 mv (i + j))
 | [], i, j => by simp [cE]
 | ob :: r, i, 0 => by simp [cE]
 | ob :: r, i, j + 1 => by
   simp only [cE, qad];rw [pD (l := r) (i := i + 1) (j := j), show i + 1 + j = i + (j + 1) by omega]
theorem uG {n0 : Nat} {mv : List Nat} : ∀ {l : List Ob} {i : Nat}, (cE n0 mv i l).length = l.length
 | [], i => rfl
 | ob :: r, i => by simp [cE, uG (l := r)]
theorem zas {n0 : Nat} {mv : List Nat} {i : Nat} (ob : Ob) : ob.like (fR n0 mv i ob) := by cases ob <;> simp [fR, Ob.like]
theorem mK {n0 : Nat} {mv : List Nat} {i : Nat} {ob : Ob} {p : Pl} : (fR n0 mv i ob).alive p ↔ ob.alive p := by cases ob <;> exact Iff.rfl
theorem SRel.mark {N : Nat} (n0 : Nat) (mv : List Nat) (hs : SRel w I G e h N a) : SRel w I G e (cE n0 mv 0 h) N a /\ ∀ b, aD (cE n0 mv 0 h) G b -> aD h G b := by
 have hget : ∀ i, (cE n0 mv 0 h)[i]? = (h[i]?).map (fR n0 mv i) := fun i => by rw [pD, qt]
 have hl : Like G G h (cE n0 mv 0 h) := fun o ob ho => ⟨⟨_, by rw [hget, ho]; rfl, zas ob⟩, fun _ => rfl⟩
 have split : ∀ {i : Nat} {x : Ob}, (cE n0 mv 0 h)[i]? = some x -> ∃ ob, h[i]? = some ob /\ x = fR n0 mv i ob := fun {i x} hx => by
  rw [hget] at hx;cases hob : h[i]? with
  | none => rw [hob] at hx; cases hx
  | some ob => rw [hob] at hx; cases hx; exact ⟨ob, rfl, rfl⟩
 refine ⟨⟨⟨fun i x hx => ?_, fun i j x y hx ax hy ay hb => ?_, fun i x hx ax => ?_, hs.hh.cl⟩, hs.he.mono (Keeps.refl w I) hl, hs.hn⟩, fun b ⟨i, x, hx, ax, hb⟩ => ?_⟩
 ·obtain ⟨ob, hob, rfl⟩ := split hx;have := hs.hh.obs i ob hob;cases ob with
  | dead => trivial
  | box cs => obtain ⟨vs, ty, e1, e2, e3⟩ := this; exact ⟨vs, ty, e1, e2, fun k v hv => ⟨(e3 k v hv).1.mono (Keeps.refl w I) hl, (e3 k v hv).2⟩⟩
  | arr cs => exact this
  | sl ty m n es => cases n <;> exact this
  | mp kvs => exact this
  | iter ty rem cur => exact this
 ·obtain ⟨ob, hob, rfl⟩ := split hx;obtain ⟨ob2, hob2, rfl⟩ := split hy;exact hs.hh.sep i j ob ob2 hob (mK.1 ax) hob2 (mK.1 ay) hb
 ·obtain ⟨ob, hob, rfl⟩ := split hx;exact hs.hh.nI i ob hob (mK.1 ax)
 ·obtain ⟨ob, hob, rfl⟩ := split hx;exact ⟨i, ob, hob, mK.1 ax, hb⟩
theorem pE : ∀ {n k : Nat} {os : List Nat}, fB n k os = true -> n <= os.length /\ ∀ i, i < n -> os[i]? = some (k + i)
 | 0, k, os, _ => ⟨qcc _, fun i hi => by omega⟩
 | n + 1, k, [], h => by cases h
 | n + 1, k, x :: r, h => by
   simp only [fB, qc] at h;have := qh h.1;obtain ⟨h1, h2⟩ := pE h.2;refine ⟨by simp; omega, fun i hi => ?_⟩;cases i with
   | zero => simp [this]
   | succ i => simp only [qad]; rw [h2 i (by omega)]; congr 1; omega
def Fits (n0 : Nat) (e : Env) (h : Hp) (e' : Env) (h' : Hp) : Prop := ∃ ad os ks mv, bX os = true /\ fB n0 0 os = true /\ eV os (adopt ad e h).1 ks = e' /\ cE n0 mv 0 (aQ os (adopt ad e h).2 os) = h'
theorem Tr.less {I own own' : Nat -> Prop} (h : ∀ b, own' b -> own b) : Tr w I own w I own' := ⟨rfl, rfl, rfl, qi _, fun _ _ _ => rfl, fun _ x => x, fun _ x => .inl x, fun b x => .inl (h b x), fun _ _ => rfl, qi _⟩
theorem pF {os : List Nat} : ∀ {l : List Nat}, (aQ os h l).length = l.length
 | [] => rfl
 | x :: r => by simp [aQ, pF (l := r)]
theorem Fits.srel {n0 : Nat} {e e' : Env} {h h' : Hp} {N : Nat} (hf : Fits n0 e h e' h') (hs : SRel w I G e h N a) : ∃ G', SRel w I G' e' h' N a /\ TrN n0 w I G h w I G' h' := by
 obtain ⟨ad, os, ks, mv, h1, h2, rfl, rfl⟩ := hf;obtain ⟨G1, g1, g2, g3⟩ := hs.adopt (ad := ad);obtain ⟨g4, g5⟩ := g1.sub os ks h1;obtain ⟨g6, g7⟩ := g4.mark n0 mv;obtain ⟨p1, p2⟩ := pE h2;refine ⟨_, g6, Tr.less fun b hb => g2 b (g5 b (g7 b hb)), fun _ => by rw [uG, pF]; exact p1, fun hn o ob' ho hx hf => ?_⟩;have hol : o < h.length := qax ho hn;have ho' := p2 o ho;rw [qt] at ho';obtain ⟨q1, q2⟩ := g3 o hol;refine ⟨by simp only [ho']; exact q1, ?_⟩;rw [pD, fI, ho', qt] at hx;rcases q2 with q2 | ⟨c1, c2, q2, q3⟩
 rotate_left
 ·exact ⟨_, q2, rfl⟩
 simp only [qj, q2, qf hol, Option.some.injEq] at hx;refine ⟨h[o], by simp [hol], ?_⟩;subst hx;generalize h[o] = x at hf ⊢;cases x with
 | sl ty m n es =>
   simp only [d9, fR, Ob.fixed] at hf ⊢;cases hc : (qao n0 o || cI o mv) with
   | true => rw [hc] at hf; cases hf
   | false => rw [hc] at hf; exact hf
 | _ => exact hf
def iM : List Nat -> Env -> List Nat
 | [], _ => []
 | i :: r, e => (match get e i with | some v => jV v | none => []) ++ iM r e
def dU (p : Option (List Nat)) (e : Env) (h : Hp) : Env := match p with
 | none => e
 | some ks => bif bX (iM ks e) then iB h (iM ks e) e else e
def dI (p : Option (List Nat)) (e : Env) (h : Hp) : Hp := match p with
 | none => h
 | some ks => bif bX (iM ks e) then cA h (iM ks e) 0 h else h
theorem SRel.give {n0 : Nat} {N : Nat} (p : Option (List Nat)) (hs : SRel w I G e h N a) : ∃ I2, SRel w I2 G (dU p e h) (dI p e h) N a /\ TrN n0 w I G h w I2 G (dI p e h) := by
 cases p with
 | none => exact ⟨I, hs, TrN.refl _ _ _ _ _⟩
 | some ks =>
   simp only [dU, dI];cases hn : bX (iM ks e) with
   | false => exact ⟨I, hs, TrN.refl _ _ _ _ _⟩
   | true =>
     obtain ⟨I2, g1, g2, g3, _⟩ := sV hs.hh hs.he hn;exact ⟨I2, ⟨g1, g2, hs.hn⟩, g3.toN⟩
def FitsP (p : Option (List Nat)) (n0 : Nat) (e : Env) (h : Hp) (e' : Env) (h' : Hp) : Prop := Fits n0 (dU p e h) (dI p e h) e' h'
theorem FitsP.srel {p : Option (List Nat)} {n0 : Nat} {e e' : Env} {h h' : Hp} {N : Nat} (hf : FitsP p n0 e h e' h') (hs : SRel w I G e h N a) : ∃ I' G', SRel w I' G' e' h' N a /\ TrN n0 w I G h w I' G' h' := by
 obtain ⟨I2, g1, g2⟩ := hs.give (n0 := n0) p;obtain ⟨G', g3, g4⟩ := Fits.srel hf g1;exact ⟨I2, G', g3, g2.trans g4⟩
theorem CodeS.loop (p : Option (List Nat)) {P : Program} {n0 : Nat} {N : Nat} {c : Code} {e : Env} {h : Hp} {Q : Qt} {σ : Type} (S : σ -> Env × Hp) (J : σ -> Prop) (μ : σ -> Nat) (s0 : σ) (h0 : FitsP p n0 e h (S s0).1 (S s0).2) (hJ : J s0)
 (hb : ∀ s, J s -> CodeS P n0 N c (S s).1 (S s).2 fun x e h => match x with | .normal => ∃ s', FitsP p n0 e h (S s').1 (S s').2 /\ J s' /\ μ s' < μ s | x => Q x e h) : CodeS P n0 N (.loop c) e h Q := by
 intro w I G a Qx hs hq;obtain ⟨I0, G0, hs0, ho0⟩ := h0.srel hs
 refine wp_loop_ghost (fun n a1 w1 => ∃ s I1 G1, μ s = n /\ J s /\ SRel w1 I1 G1 (S s).1 (S s).2 N a1 /\ a1.defers = a.defers /\ TrN n0 w I G h w1 I1 G1 (S s).2) (μ s0)
  ⟨s0, I0, G0, rfl, hJ, hs0, rfl, ho0⟩ ?_
 rintro n a1 w1 ⟨s, I1, G1, rfl, hj, hs1, hd1, ht1⟩;refine hb s hj w1 I1 G1 a1 _ hs1 fun x e2 h2 w2 I2 G2 a2 hk hs2 hd2 ht2 => ?_;cases x with
 | normal =>
   obtain ⟨s', hf, hj', hlt⟩ := hk;obtain ⟨I3, G3, hs3, ho3⟩ := hf.srel hs2;exact ⟨μ s', hlt, s', I3, G3, rfl, hj', hs3, hd2.trans hd1, (ht1.trans ht2).trans ho3⟩
 | exit n => exact hq (.exit n) e2 h2 w2 I2 G2 a2 hk hs2 (hd2.trans hd1) (ht1.trans ht2)
 | ret => exact hq .ret e2 h2 w2 I2 G2 a2 hk hs2 (hd2.trans hd1) (ht1.trans ht2)

theorem CodeS.peel (p : Option (List Nat)) {P : Program} {n0 : Nat} {N : Nat} {c : Code} {e : Env} {h : Hp} {Q : Qt} {σ : Type} (S : σ -> Env × Hp) (J : σ -> σ -> Prop) (μ : σ -> Nat) (M : Nat)
 (h0 : CodeS P n0 N c e h fun x e1 h1 => match x with
  | .normal => ∃ s0, FitsP p n0 e1 h1 (S s0).1 (S s0).2 /\ J s0 s0 /\ μ s0 < M /\ ∀ s, J s0 s -> CodeS P n0 N c (S s).1 (S s).2 fun x e h => match x with | .normal => ∃ s', FitsP p n0 e h (S s').1 (S s').2 /\ J s0 s' /\ μ s' < μ s | x => Q x e h
  | x => Q x e1 h1) : CodeS P n0 N (.loop c) e h Q := by
 intro w I G a Qx hs hq
 refine wp_loop_ghost (fun n a1 w1 => (n = M /\ a1 = a /\ w1 = w) ∨ ∃ s0 s I1 G1, μ s = n /\ J s0 s /\ (∀ s, J s0 s -> CodeS P n0 N c (S s).1 (S s).2 fun x e h => match x with | .normal => ∃ s', FitsP p n0 e h (S s').1 (S s').2 /\ J s0 s' /\ μ s' < μ s | x => Q x e h) /\ SRel w1 I1 G1 (S s).1 (S s).2 N a1 /\ a1.defers = a.defers /\ TrN n0 w I G h w1 I1 G1 (S s).2) M
  (.inl ⟨rfl, rfl, rfl⟩) ?_
 rintro n a1 w1 (⟨rfl, rfl, rfl⟩ | ⟨s0, s, I1, G1, rfl, hj, hb, hs1, hd1, ht1⟩)
 ·refine h0 w1 I G a1 _ hs fun x e2 h2 w2 I2 G2 a2 hk hs2 hd2 ht2 => ?_;cases x with
  | normal =>
    obtain ⟨s0, hf, hj, hlt, hb⟩ := hk;obtain ⟨I3, G3, hs3, ho3⟩ := hf.srel hs2;exact ⟨μ s0, hlt, .inr ⟨s0, s0, I3, G3, rfl, hj, hb, hs3, hd2, ht2.trans ho3⟩⟩
  | exit n => exact hq (.exit n) e2 h2 w2 I2 G2 a2 hk hs2 hd2 ht2
  | ret => exact hq .ret e2 h2 w2 I2 G2 a2 hk hs2 hd2 ht2
 ·refine hb s hj w1 I1 G1 a1 _ hs1 fun x e2 h2 w2 I2 G2 a2 hk hs2 hd2 ht2 => ?_;cases x with
  | normal =>
    obtain ⟨s', hf, hj', hlt⟩ := hk;obtain ⟨I3, G3, hs3, ho3⟩ := hf.srel hs2;exact ⟨μ s', hlt, .inr ⟨s0, s', I3, G3, rfl, hj', hb, hs3, hd2.trans hd1, (ht1.trans ht2).trans ho3⟩⟩
  | exit n => exact hq (.exit n) e2 h2 w2 I2 G2 a2 hk hs2 (hd2.trans hd1) (ht1.trans ht2)
  | ret => exact hq .ret e2 h2 w2 I2 G2 a2 hk hs2 (hd2.trans hd1) (ht1.trans ht2)

def eC : List Nat -> Env -> Env
 | [], _ => []
 | i :: r, e => match get e i with
   | some (.spec ..) => eC r e
   | some .bot => eC r e
   | some v => (i, v) :: eC r e
   | none => eC r e
theorem j8 {i : Nat} {v : LV} : ∀ {l : List Nat}, get (eC l e) i = some v -> get e i = some v
 | [], h => by cases h
 | x :: r, h => by
   unfold eC at h;split at h
   ·exact j8 h
   ·exact j8 h
   ·rename_i u _ _ hu;simp only [get] at h;cases hb : qk x i with
    | true => rw [hb] at h; have := qh hb; subst this; cases h; exact hu
    | false => rw [hb] at h; exact j8 h
   ·exact j8 h
theorem SRel.kept {N : Nat} (hs : SRel w I G e h N a) (l : List Nat) : SRel w I G (eC l e) h N a :=
 ⟨hs.hh, fun i v hi => hs.he i v (j8 hi), hs.hn⟩
theorem CodeS.region {n0 : Nat} {N : Nat} {id : Nat} {ops : Array Oper} {Q : Qt} (l : List Nat) (hK : aU P H N ops.toList ops.toList e h (fun e h => Q .normal (eC l e) h)) : CodeS P n0 N (.region id ops false) e h Q := by
 intro w I G a Qx hs hq;refine wp_region ?_;have := mD (Qx := Qx) ops.toList 0 e h (fun j _ => by simp) hK w I G a hs fun e' h' w' I' G' a' hk hs' hd ht => hq .normal _ h' w' I' G' a' hk (hs'.kept l) hd ht.toN;simpa [List.range_eq_range'] using this
structure LSpec where
 σ : Type
 S : σ -> Env × Hp
 J : σ -> σ -> Prop
 μ : σ -> Nat
 rd : Env -> Hp -> σ
 ad : List (Nat × Nat × Nat)
 ks : List Nat
 mv : List Nat
 all : (σ -> Prop) -> Prop
 ok : ∀ p, all p -> ∀ s, p s
def gI (e : Env) (i : Nat) : Int := match get e i with | some (.pv (.int _ n)) => n | _ => 0
def gB (e : Env) (i : Nat) : Bool := match get e i with | some (.pv (.bool b)) => b | _ => false
def hC (h : Hp) (k j : Nat) : LV := match h[k]? with | some (.box cs) => (match cs[j]? with | some v => v | none => .bot) | _ => .bot
def hI (h : Hp) (k j : Nat) : Int := match hC h k j with | .pv (.int _ n) => n | _ => 0
def hB (h : Hp) (k j : Nat) : Bool := match hC h k j with | .pv (.bool b) => b | _ => false
def hP (h : Hp) (k j : Nat) : PV := match hC h k j with | .pv v => v | _ => .unit
def hN (h : Hp) (k j : Nat) : Bool := match hC h k j with | .pv (.sl n _ _) => n | _ => false
def hF (h : Hp) (k j : Nat) : Bool := match hC h k j with | .pv (.sl _ f _) => f | _ => false
def hS (h : Hp) (k j : Nat) : List (List PV) := match hC h k j with | .pv (.sl _ _ es) => es | _ => []
def oN (h : Hp) (k : Nat) : Bool := match h[k]? with | some (.sl _ _ n _) => n | _ => false
def oS (h : Hp) (k : Nat) : List (List PV) := match h[k]? with | some (.sl _ _ _ es) => es | _ => []
def uH : Nat -> List Nat -> List Nat
 | 0, acc => acc
 | n + 1, acc => uH n (n :: acc)
def cK (n0 : Nat) (ks : List Nat) (e : Env) (h : Hp) : List Nat := oA h 3 (jW (ks.flatMap fun i => match get e i with | some v => jV v | none => []) (uH n0 []))
def SameSt (a b : Env × Hp) : Prop := a = b
theorem SameSt.same (a : Env × Hp) : SameSt a a := rfl
def iN (n0 : Nat) (sp : LSpec) (e : Env) (h : Hp) (K : sp.σ -> Prop) : Prop :=
 bif bX (cK n0 sp.ks (adopt sp.ad e h).1 (adopt sp.ad e h).2) && fB n0 0 (cK n0 sp.ks (adopt sp.ad e h).1 (adopt sp.ad e h).2) then
  SameSt (eV (cK n0 sp.ks (adopt sp.ad e h).1 (adopt sp.ad e h).2) (adopt sp.ad e h).1 sp.ks, cE n0 sp.mv 0 (aQ (cK n0 sp.ks (adopt sp.ad e h).1 (adopt sp.ad e h).2) (adopt sp.ad e h).2 (cK n0 sp.ks (adopt sp.ad e h).1 (adopt sp.ad e h).2)))
   (sp.S (sp.rd (eV (cK n0 sp.ks (adopt sp.ad e h).1 (adopt sp.ad e h).2) (adopt sp.ad e h).1 sp.ks) (cE n0 sp.mv 0 (aQ (cK n0 sp.ks (adopt sp.ad e h).1 (adopt sp.ad e h).2) (adopt sp.ad e h).2 (cK n0 sp.ks (adopt sp.ad e h).1 (adopt sp.ad e h).2))))) /\
  K (sp.rd (eV (cK n0 sp.ks (adopt sp.ad e h).1 (adopt sp.ad e h).2) (adopt sp.ad e h).1 sp.ks) (cE n0 sp.mv 0 (aQ (cK n0 sp.ks (adopt sp.ad e h).1 (adopt sp.ad e h).2) (adopt sp.ad e h).2 (cK n0 sp.ks (adopt sp.ad e h).1 (adopt sp.ad e h).2))))
 else aA 2310
def fS (n0 : Nat) (sp : LSpec) (e : Env) (h : Hp) : sp.σ := sp.rd (eV (cK n0 sp.ks (adopt sp.ad e h).1 (adopt sp.ad e h).2) (adopt sp.ad e h).1 sp.ks) (cE n0 sp.mv 0 (aQ (cK n0 sp.ks (adopt sp.ad e h).1 (adopt sp.ad e h).2) (adopt sp.ad e h).2 (cK n0 sp.ks (adopt sp.ad e h).1 (adopt sp.ad e h).2)))
theorem pG {n0 : Nat} {sp : LSpec} {K : sp.σ -> Prop} (hf : iN n0 sp e h K) : Fits n0 e h (sp.S (fS n0 sp e h)).1 (sp.S (fS n0 sp e h)).2 /\ K (fS n0 sp e h) := by
 unfold iN at hf;cases hc : (bX (cK n0 sp.ks (adopt sp.ad e h).1 (adopt sp.ad e h).2) && fB n0 0 (cK n0 sp.ks (adopt sp.ad e h).1 (adopt sp.ad e h).2)) with
 | false => rw [hc] at hf; cases hf
 | true =>
   rw [hc] at hf;simp only [cond_true] at hf;simp only [qc] at hc;obtain ⟨h1, h2⟩ := hf;exact ⟨⟨sp.ad, _, sp.ks, sp.mv, hc.1, hc.2, congrArg Prod.fst h1, congrArg Prod.snd h1⟩, h2⟩
theorem uI {n0 : Nat} {sp : LSpec} {K : sp.σ -> Prop} (hf : iN n0 sp e h K) : ∃ s, Fits n0 e h (sp.S s).1 (sp.S s).2 /\ K s := ⟨_, pG hf⟩
def gO : Code -> Option Nat
 | .region id _ _ => some id
 | .seq a b => match gO a with
   | some k => some k
   | none => gO b
 | .cond _ a b => match gO a with
   | some k => some k
   | none => gO b
 | .block _ c => gO c
 | .loop c => gO c
 | _ => none
def uJ (g : Option (List Nat)) (n0 : Nat) (sp : LSpec) (s0 s : sp.σ) (Q : Qt) : Qt := fun x e h => match x with
 | .normal => iN n0 sp (dU g e h) (dI g e h) fun s' => sp.J s0 s' /\ sp.μ s' < sp.μ s
 | .exit n => Q (.exit n) e h
 | .ret => Q .ret e h
def bY (L : Nat -> Option LSpec) (k : Nat) : Option (List Nat) := match L (k + 2000000) with
 | some p => some p.ks
 | none => none
def bC (P : Program) (H : Nat -> Option HSpec) (n0 : Nat) (N : Nat) (l : List Nat) (L : Nat -> Option LSpec) : Code -> Env -> Hp -> Qt -> Prop
 | .skip, e, h, Q => Q .normal e h
 | .region id ops d, e, h, Q => bif d then pC P H N ops e h (fun e h => Q .normal (eC l e) h) else aU P H N ops.toList ops.toList e h fun e h => Q .normal (eC l e) h
 | .seq a b, e, h, Q => bC P H n0 N l L a e h fun x e h => match x with
   | .normal => bC P H n0 N l L b e h Q
   | .exit n => Q (.exit n) e h
   | .ret => Q .ret e h
 | .cond c a b, e, h, Q => match aF [] e c with
   | some (.pv (.bool t)) => if t = true then bC P H n0 N l L a e h Q else bC P H n0 N l L b e h Q
   | _ => aA 1101
 | .block id c, e, h, Q => bC P H n0 N l L c e h fun x e h => match x with
   | .normal => Q .normal e h
   | .exit n => bif qk n id then Q .normal e h else Q (.exit n) e h
   | .ret => Q .ret e h
 | .loop c, e, h, Q => match gO c with
   | some k => match L k with
     | some sp => match L (k + 1000000) with
       | none => iN n0 sp (dU (bY L k) e h) (dI (bY L k) e h) (fun s => sp.J s s) /\ sp.all fun s => sp.J (fS n0 sp (dU (bY L k) e h) (dI (bY L k) e h)) s -> bC P H n0 N l L c (sp.S s).1 (sp.S s).2 (uJ (bY L k) n0 sp (fS n0 sp (dU (bY L k) e h) (dI (bY L k) e h)) s Q)
       | some p => bC P H n0 N l L c e h fun x e1 h1 => match x with
         | .normal => iN n0 sp (dU (bY L k) e1 h1) (dI (bY L k) e1 h1) (fun s => sp.J s s /\ sp.μ s < p.μ (p.rd e h)) /\ sp.all fun s => sp.J (fS n0 sp (dU (bY L k) e1 h1) (dI (bY L k) e1 h1)) s -> bC P H n0 N l L c (sp.S s).1 (sp.S s).2 (uJ (bY L k) n0 sp (fS n0 sp (dU (bY L k) e1 h1) (dI (bY L k) e1 h1)) s Q)
         | .exit n => Q (.exit n) e1 h1
         | .ret => Q .ret e1 h1
     | none => CodeS P n0 N (.loop c) e h Q
   | none => aA 1102
 | .exit n, e, h, Q => Q (.exit n) e h
 | .ret, e, h, Q => Q .ret e h
 | .scope c, e, h, Q => bC P H n0 N l L c e h Q
 | .label _, e, h, Q => Q .normal e h
 | _, _, _, _ => aA 1103
theorem iO {n0 : Nat} {N : Nat} {l : List Nat} {L : Nat -> Option LSpec} : ∀ {c : Code} {e : Env} {h : Hp} {Q : Qt}, bC P H n0 N l L c e h Q -> CodeS P n0 N c e h Q := by
 intro c
 induction c with
 | skip => exact fun hK => CodeS.skip hK
 | region id ops d =>
   intro e h Q hK;cases d with
   | true => exact fun w I G a Qx hs hq => zar hK hs fun e' h' w' I' G' a' hk hs' hd ht => hq .normal _ h' w' I' G' a' hk (hs'.kept l) hd ht.toN
   | false => exact CodeS.region l hK
 | seq a b iha ihb =>
   intro e h Q hK;refine CodeS.seq ((iha hK).mono fun x e h hq => ?_);cases x with
   | normal => exact ihb hq
   | exit n => exact hq
   | ret => exact hq
 | cond c a b iha ihb =>
   intro e h Q hK;simp only [bC] at hK;split at hK
   ·rename_i t ht;refine CodeS.cond ht ?_;cases t with
    | true => simp only [if_true] at hK ⊢; exact iha hK
    | false => simp only [qu, if_false] at hK ⊢; exact ihb hK
   ·cases hK
 | block id c ih =>
   intro e h Q hK;refine CodeS.block ((ih hK).mono fun x e h hq => ?_);cases x with
   | normal => exact hq
   | exit n => exact hq
   | ret => exact hq
 | loop c ih =>
   intro e h Q hK;simp only [bC] at hK;split at hK
   ·rename_i k hk0;split at hK
    ·rename_i sp hsp;split at hK
     ·obtain ⟨hK, h3⟩ := hK;obtain ⟨h1, h2⟩ := pG hK;refine CodeS.loop (bY L k) sp.S (sp.J (fS n0 sp (dU (bY L k) e h) (dI (bY L k) e h))) sp.μ _ h1 h2 fun s hj => (ih (sp.ok _ h3 s hj)).mono fun x e h hq => ?_;cases x with
      | normal => exact uI hq
      | exit n => exact hq
      | ret => exact hq
     ·rename_i p hp;refine CodeS.peel (bY L k) sp.S sp.J sp.μ (p.μ (p.rd e h)) ((ih hK).mono fun x e1 h1 hq => ?_);cases x with
      | normal =>
        obtain ⟨hf, h3⟩ := hq;obtain ⟨f1, f2, f3⟩ := pG hf;refine ⟨_, f1, f2, f3, fun s hj => (ih (sp.ok _ h3 s hj)).mono fun x e h hq => ?_⟩;cases x with
        | normal => exact uI hq
        | exit n => exact hq
        | ret => exact hq
      | exit n => exact hq
      | ret => exact hq
    ·exact hK
   ·exact hK.elim
 | exit n => exact fun hK => CodeS.exit hK
 | ret => exact fun hK => CodeS.ret hK
 | scope c ih => intro e h Q hK; exact CodeS.scope (ih hK)
 | label l => intro e h Q hK; exact CodeS.label hK
 | _ => intro e h Q hK; exact hK.elim

def cL : List LV -> Nat -> Env
 | [], _ => []
 | v :: r, k => (k, v) :: cL r (k + 1)
def dV (P : Program) (e : Env) (h : Hp) : List ResultVar -> (List LV -> Prop) -> Prop
 | [], K => K []
 | .tmp t :: r, K => match aF [] e (.tmp t) with
   | some v => dV P e h r fun vs => K (v :: vs)
   | none => aA 2301
 | .cell c t :: r, K => jG P e h t (.tmp c) fun v _ _ => dV P e h r fun vs => K (v :: vs)
def pH (h : Hp) (R : PV -> Prop) (v : LV) : Prop :=
 match eR h v with
 | some p => R p
 | none => aA 2302
def gP (K : LV -> Prop) : List LV -> Prop
 | [v] => K v
 | vs => K (.tup vs)
def zat (P : Program) (rs : List ResultVar) (R : PV -> Prop) : Qt := fun x e h =>
 match x with
 | .exit _ => aA 2303
 | _ => dV P e h rs (gP (pH h R))
theorem zau {v cv : Value} (h : (Instr.loadAt t v).run P w = .ok cv w) : (do loadVar t (<- asAddr v) : Sem Value).run P w = .ok cv w := by
 cases v
 case pointer a =>
  cases a with
  | none => cases h
  | some a => exact h
 all_goals cases h
theorem pI (hh : HRel w I G h) (he : ERel w I G h e a.tmps) {f : ResultVar -> Sem Value} (hf : ∀ t, f (.tmp t) = Pure.pure (a.tmps.getD t undef))
 (hf2 : ∀ c t, f (.cell c t) = (do loadVar t (<- asAddr (a.tmps.getD c undef)))) :
 ∀ {rs : List ResultVar} {K : List LV -> Prop}, dV P e h rs K -> ∃ vs, K vs /\ ∃ cs : List Value, (rs.mapM f).run P w = .ok cs w /\ cs.length = vs.length /\ ∀ (k : Nat) v, vs[k]? = some v -> LRel w I G h v (cs.getD k undef)
 | [], K, hv => ⟨[], hv, [], rfl, rfl, fun k v hk => by simp at hk⟩
 | .cell c t :: r, K, hv => by
   unfold dV at hv;obtain ⟨v, hk, hrun⟩ := nJ (o := { dst := none, op := .load t (.tmp c), type := 0, pos := "", after := #[], guard := none }) rfl hv;obtain ⟨cv, g1, g2⟩ := hrun w I G a hh he;obtain ⟨vs, hK, cs, h1, h2, h3⟩ := pI hh he hf hf2 hk
   have g3 : (Instr.loadAt t (a.tmps.getD c undef)).run P w = .ok cv w := by
    have := g1 w (KA.refl w)
    change (dR (Instr.loadAt t (a.tmps.getD c undef))).run P w = _ at this
    unfold dR at this;simp only [qe, qd] at this;cases hq : (Instr.loadAt t (a.tmps.getD c undef)).run P w with
    | ok x y => rw [hq] at this; simp only [qa] at this; injection this with e1 e2; injection e1 with e1; rw [e1, e2]
    | _ => rw [hq] at this; cases this
   refine ⟨_, hK, cv :: cs, ?_, by simp [h2], fun k u hk => ?_⟩
   ·simp only [qch, hf2];rw [qe, zau g3];simp only [qa, qe, h1, qd]
   cases k with
   | zero => simp at hk; subst hk; exact g2
   | succ k => simp at hk; simpa using h3 k u hk
 | .tmp t :: r, K, hv => by
   unfold dV at hv;split at hv
   ·rename_i v h1;obtain ⟨vs, hK, cs, g1, g2, g3⟩ := pI hh he hf hf2 hv;refine ⟨_, hK, a.tmps.getD t undef :: cs, ?_, by simp [g2], fun k u hk => ?_⟩
    ·simp only [qch, hf, qe, qd, qa, g1]
    cases k with
    | zero => simp at hk; subst hk; exact aC he (AOK.nil _) h1
    | succ k => simp at hk; simpa using g3 k u hk
   ·cases hv
theorem pJ (hh : HRel w I G h) (he : ERel w I G h e a.tmps) {fn : Func} {K : LV -> Prop} (hv : dV P e h fn.results.toList (gP K)) : ∃ v, K v /\ ∃ cv, (results fn a.tmps).run P w = .ok cv w /\ LRel w I G h v cv := by
 obtain ⟨vs, hK, cs, g1, g2, g3⟩ := pI (P := P) (f := fun | .tmp t => Pure.pure (a.tmps.getD t undef) | .cell c t => do loadVar t (<- asAddr (a.tmps.getD c undef))) hh he (fun t => rfl) (fun c t => rfl) hv
 have base : ∃ ca : Array Value, (results fn a.tmps).run P w = .ok (if h : ca.size = 1 then ca[0] else .tuple ca) w /\ ca.size = vs.length /\ ∀ (k : Nat) v, vs[k]? = some v -> LRel w I G h v (ca.getD k undef) := by
  refine ⟨cs.toArray, ?_, by simpa using g2, fun k v hk => by simpa [qaf] using g3 k v hk⟩
  unfold results;rw [qe, Array.mapM_eq_mapM_toList];simp only [qe, Sem.run_map, qd, qa]
  erw [g1]
  rfl
 obtain ⟨ca, q1, q2, q3⟩ := base;unfold gP at hK;split at hK
 ·rename_i v;have h1 : ca.size = 1 := by simpa using q2
  refine ⟨v, hK, _, q1, ?_⟩;rw [dif_pos h1];have := q3 0 v rfl;have e1 : ca.getD 0 undef = ca[0] := by simp [h1]
  rw [<- e1]; exact this
 ·rename_i hne
  have h1 : ca.size ≠ 1 := fun h1 => by
   rw [h1] at q2
   match vs, q2 with
   | [x], _ => exact hne x rfl
  refine ⟨_, hK, _, q1, ?_⟩;rw [dif_neg h1];exact .tup vs ca q2 q3

@[irreducible] def aFn (P : Program) (H : Nat -> Option HSpec) (fn : Func) (l : List Nat) (L : Nat -> Option LSpec) (c : Code) (ps : List PV) (R : PV -> Prop) : Prop := bC P H 0 fn.ntmps l L c (cL (ps.map .pv) 0) [] (zat P fn.results.toList R)
theorem j9 : ∀ {vs : List LV} {k i : Nat} {v : LV}, get (cL vs k) i = some v -> k <= i /\ vs[i - k]? = some v
 | [], k, i, v, h => by cases h
 | x :: r, k, i, v, h => by
   simp only [cL, get] at h;cases hb : qk k i with
   | true => rw [hb] at h; have := qh hb; subst this; simp at h; subst h; simp
   | false =>
     rw [hb] at h;obtain ⟨h1, h2⟩ := j9 h;refine ⟨by omega, ?_⟩;have hne : k ≠ i := fun e => by subst e; simp at hb
     rw [show i - k = (i - (k + 1)) + 1 by omega];simpa using h2
theorem PCall.of {f : Nat} {fn : Func} {c : Code} {ps : List PV} {R : PV -> Prop} (hf : P.funcs[f]? = some fn) (hb : fn.body = some c) (hn : (fn.name == "runtime.NumGoroutine") = false) (hl : ps.length <= fn.ntmps)
 {l : List Nat} {L : Nat -> Option LSpec} (hK : aFn P H fn l L c ps R) : PCall P f ps R := by
 unfold aFn at hK;refine ⟨⟨fn, hf, by rw [hb]; rfl, hn⟩, fun w I G cargs hh hsz hrel => ?_⟩;refine calls_of_wp hf hb ?_;simp only [qbj] at hsz
 have hs : SRel w I G (cL (ps.map .pv) 0) [] fn.ntmps { tmps := cargs ++ qag (fn.ntmps - cargs.size) undef, defers := [] } := by
  refine ⟨hh, fun i v hi => ?_, by simp; omega⟩;obtain ⟨_, h2⟩ := j9 hi;rw [qz] at h2;have hlt : i < cargs.size := by have := (List.getElem?_eq_some_iff.1 h2).1; simp at this; omega
  have := hrel i v h2
  have e1 : (cargs ++ qag (fn.ntmps - cargs.size) undef).getD i undef = cargs.getD i undef := by
   rw [qg, qg, qbb hlt]
  simp only [e1];rw [qm] at h2;cases hp : ps[i]? with
  | none => rw [hp] at h2; cases h2
  | some p => rw [hp] at h2; cases h2; exact this
 refine iO hK w I G _ _ hs fun x e' h' w' I' G' a' hk hs' hd ht => ?_
 have fin : dV P e' h' fn.results.toList (gP (pH h' R)) -> a'.defers = [] /\ ∃ cv, (results fn a'.tmps).run P w' = .ok cv w' /\ ∃ cv' r h2 I2 G2, Ending.returned cv = .returned cv' /\ (∃ v, r = .pv v /\ R v) /\ HRel w' I2 G2 h2 /\ LRel w' I2 G2 h2 r cv' /\
  TrH w I G [] w' I2 G2 h2 := fun h1 => by
  obtain ⟨v, hv, cv, g1, g2⟩ := pJ (P := P) hs'.hh hs'.he h1;unfold pH at hv;split at hv
  ·rename_i p h2;have hno : ∀ b, ¬ aD [] G b := fun b ⟨o, ob, ho, _⟩ => by simp at ho
   refine ⟨hd, cv, g1, cv, .pv p, [], AllB I' h' G', G', rfl, ⟨p, rfl, hv⟩, HRel.nil G' (fun b hb => hb.elim (hs'.hh.cl b) hs'.hh.blk_lt), .pv _ _ (lQ hs'.hh g2 h2), ?_⟩;have ht := ht.t;exact ⟨⟨ht.os, ht.tape, ht.output, ht.size, ht.keep, fun b hb => .inl (ht.i1 b hb), fun b hb => hb.elim (ht.i2 b) (fun ho => (ht.own2 b ho).elim (fun x => absurd x (hno b)) (fun x => .inr (.inr x))), fun b hb => absurd hb (fun ⟨o, ob, ho, _⟩ => by simp at ho), ht.frz, ht.drawn⟩, qi _, fun o ob ho => by simp at ho⟩
  ·cases hv
 cases x with
 | exit n => exact hk.elim
 | normal => exact fin hk
 | ret => exact fin hk

def zav (P : Program) (ko : List Nat) (n0 : Nat) (rs : List ResultVar) (R : LV -> Hp -> Prop) : Qt := fun x e h =>
 match x with
 | .exit _ => aA 2304
 | _ => bif bX ko && fB n0 0 ko then dV P e h rs (gP fun v => R (mapV (fun o => idx o ko 0) v) (aQ ko h ko)) else aA 2305
@[irreducible] def pK (P : Program) (H : Nat -> Option HSpec) (fn : Func) (l : List Nat) (L : Nat -> Option LSpec) (ko : List Nat) (c : Code) (args : List LV) (h : Hp) (R : LV -> Hp -> Prop) : Prop := bC P H h.length fn.ntmps l L c (cL args 0) h (zav P ko h.length fn.results.toList R)
theorem ACall.of {f : Nat} {fn : Func} {c : Code} {args : List LV} {R : LV -> Hp -> Prop} (hf : P.funcs[f]? = some fn) (hb : fn.body = some c) (hn : (fn.name == "runtime.NumGoroutine") = false) (hl : args.length <= fn.ntmps)
 {l : List Nat} {L : Nat -> Option LSpec} {ko : List Nat} (hK : pK P H fn l L ko c args h R) : ACall P f args h R := by
 unfold pK at hK;refine ⟨⟨fn, hf, by rw [hb]; rfl, hn⟩, fun w I G cargs hh hsz hrel => ?_⟩;refine calls_of_wp hf hb ?_
 have hs : SRel w I G (cL args 0) h fn.ntmps { tmps := cargs ++ qag (fn.ntmps - cargs.size) undef, defers := [] } := by
  refine ⟨hh, fun i v hi => ?_, by simp; omega⟩;obtain ⟨_, h2⟩ := j9 hi;rw [qz] at h2;have hlt : i < cargs.size := by have := (List.getElem?_eq_some_iff.1 h2).1; omega
  have := hrel i v h2
  have e1 : (cargs ++ qag (fn.ntmps - cargs.size) undef).getD i undef = cargs.getD i undef := by
   rw [qg, qg, qbb hlt]
  simp only [e1];exact VRel.of_plain this
 refine iO hK w I G _ _ hs fun x e' h' w' I' G' a' hk hs' hd ht => ?_
 have fin : (bif bX ko && fB h.length 0 ko then dV P e' h' fn.results.toList (gP fun v => R (mapV (fun o => idx o ko 0) v) (aQ ko h' ko)) else aA 2305) -> a'.defers = [] /\ ∃ cv, (results fn a'.tmps).run P w' = .ok cv w' /\ ∃ cv' r h2 I2 G2, Ending.returned cv = .returned cv' /\ R r h2 /\ HRel w' I2 G2 h2 /\ LRel w' I2 G2 h2 r cv' /\ TrH w I G h w' I2 G2 h2 := fun h1 => by
  cases hc : (bX ko && fB h.length 0 ko) with
  | false => rw [hc] at h1; cases h1
  | true =>
    rw [hc] at h1;simp only [cond_true] at h1;simp only [qc] at hc;obtain ⟨v, hv, cv, g1, g2⟩ := pJ (P := P) hs'.hh hs'.he h1;obtain ⟨s1, s2⟩ := hs'.sub ko [] hc.1;obtain ⟨p1, p2⟩ := pE hc.2;refine ⟨hd, cv, g1, cv, _, _, I', _, rfl, hv, s1.hh, g2.mapV lW (Keeps.refl w' I'), ht.t.trans (Tr.less s2), by rw [pF]; exact p1, fun o ob' ho hx hfx => ?_⟩;have ho' := p2 o ho;rw [qt] at ho';rw [fI, ho'] at hx;simp only [qj, Option.some.injEq] at hx;cases hob : h'[o]? with
    | none => rw [hob] at hx; subst hx; cases hfx
    | some x =>
      rw [hob] at hx; subst hx;obtain ⟨q1, ob, q2, q3⟩ := ht.stay (qi _) o x ho hob (by cases x <;> exact hfx);exact ⟨by simp only [ho']; exact q1, ob, q2, q3⟩
 cases x with
 | exit n => exact hk.elim
 | normal => exact fin hk
 | ret => exact fin hk
end Go.Eng
namespace Go.Eng
open Go
variable {P : Program} {w : World} {I : Nat -> Prop} {G : Nat -> Pl} {h : Hp} {e : Env} {o : Oper} {t : TypeId} {K : Kt} {cv : Value} {a : Act}
variable {H : Nat -> Option HSpec}
abbrev bZ : Nat -> Option HSpec := fun _ => none
abbrev bU : Nat -> Option LSpec := fun _ => none
def fT (a : Nat) (b : LSpec) (k : Nat) : Option LSpec := bif qk a k then some b else none
def lkz : List (Nat × LSpec) -> Nat -> Option LSpec
 | [], _ => none
 | (a, b) :: r, k => bif qk a k then some b else lkz r k
theorem PCall.wz {f : Nat} {fn : Func} {args : List PV} {R : PV -> Prop} {A : Prop} (hf : P.funcs[f]? = some fn) (H : Nat -> Option HSpec) (l : List Nat) (L : Nat -> Option LSpec) (h : A) (hb : fn.body = some (fn.body.getD .skip) := by kernel_rfl) (hn : (fn.name == "runtime.NumGoroutine") = false := by kernel_rfl) (hl : qao args.length fn.ntmps = true := by kernel_rfl) (he : aFn P H fn l L (fn.body.getD .skip) args R = A := by kernel_rfl) : PCall P f args R := PCall.of hf hb hn (qq hl) (Eq.mpr he h)
theorem ACall.wz {f : Nat} {fn : Func} {args : List LV} {g : Hp} {R : LV -> Hp -> Prop} {A : Prop} (hf : P.funcs[f]? = some fn) (H : Nat -> Option HSpec) (l : List Nat) (L : Nat -> Option LSpec) (ko : List Nat) (h : A) (hb : fn.body = some (fn.body.getD .skip) := by kernel_rfl) (hn : (fn.name == "runtime.NumGoroutine") = false := by kernel_rfl) (hl : qao args.length fn.ntmps = true := by kernel_rfl) (he : pK P H fn l L ko (fn.body.getD .skip) args g R = A := by kernel_rfl) : ACall P f args g R := ACall.of hf hb hn (qq hl) (Eq.mpr he h)
structure dW (σ : Type) where
 F : Type -> Type
 u : (X : Type) -> F X -> σ -> X
 a : (σ -> Prop) -> Prop
 k : ∀ p, a p -> ∀ s, p s
def czB {A : Type} : dW A := ⟨fun X => A -> X, fun _ f => f, fun p => ∀ a, p a, fun _ h => h⟩
def cz1 {A : Type} : dW (A × Unit) := ⟨fun X => A -> X, fun _ f s => f s.1, fun p => ∀ a, p (a, ()), fun _ h s => h s.1⟩
def czP {A B : Type} (c : dW B) : dW (A × B) := ⟨fun X => A -> c.F X, fun X f s => c.u X (f s.1) s.2, fun p => ∀ a, c.a fun b => p (a, b), fun p h s => c.k (fun b => p (s.1, b)) (h s.1) s.2⟩
def cz2 {A0 A1 : Type} : dW (A0 × A1) := czP czB
def dJ {A0 A1 A2 : Type} : dW (A0 × A1 × A2) := czP cz2
def cz4 {A0 A1 A2 A3 : Type} : dW (A0 × A1 × A2 × A3) := czP dJ
def cz5 {A0 A1 A2 A3 A4 : Type} : dW (A0 × A1 × A2 × A3 × A4) := czP cz4
def cz6 {A0 A1 A2 A3 A4 A5 : Type} : dW (A0 × A1 × A2 × A3 × A4 × A5) := czP cz5
def cM {σ : Type} (c : dW σ) (S : c.F (Env × Hp)) (J : c.F Prop) (μ : c.F Nat) (rd : Env -> Hp -> σ) (ad : List (Nat × Nat × Nat)) (ks mv : List Nat) : LSpec := ⟨σ, c.u _ S, fun _ => c.u _ J, c.u _ μ, rd, ad, ks, mv, c.a, c.k⟩
def fU {σ : Type} (c : dW σ) (S : c.F (Env × Hp)) (J : c.F (c.F Prop)) (μ : c.F Nat) (rd : Env -> Hp -> σ) (ad : List (Nat × Nat × Nat)) (ks mv : List Nat) : LSpec := ⟨σ, c.u _ S, fun t => c.u _ (c.u _ J t), c.u _ μ, rd, ad, ks, mv, c.a, c.k⟩
end Go.Eng
namespace Go.Eng
open Go Go.RowKit
variable {P : Program} {w : World} {I : Nat -> Prop} {G : Nat -> Pl} {h : Hp} {e : Env} {o : Oper} {t : TypeId} {K : Kt} {cv : Value} {a : Act}
abbrev aL (a : Env × Hp) : Prop := SameSt a a
abbrev LL := List (List PV)
abbrev Z6 (n : Int) : PV := .int .i64 n
abbrev Z3 (n : Int) : PV := .int .i32 n
abbrev Y6 (n : Int) : LV := .pv (.int .i64 n)
abbrev Zb (b : Bool) : PV := .bool b
theorem zaw {w w' : World} {may : MemPlace -> Prop} (h1 : w'.os = w.os) (h2 : w'.output = w.output) (h3 : ∀ b, b < w.heap.size -> w'.heap[b]? = w.heap[b]?) : w.keptBut w' may := by
 obtain ⟨_, _, h⟩ := World.keptBut_refl w may;refine ⟨h1, h2, fun i hi => ?_⟩;rw [h3 i hi];exact h i hi
theorem pL {n : Int} (h1 : -2147483648 <= n) (h2 : n <= 2147483647) : i32.wrap n = n := by
 unfold IntKind.wrap;simp only [IntKind.bits, IntKind.signed];simp only [qaz, aW, show (2:Int)^(32-1) = 2147483648 from rfl, show (2:Int)^32 = 4294967296 from rfl, show (2:Int)^(64-1) = 9223372036854775808 from rfl, show (2:Int)^64 = 18446744073709551616 from rfl];split <;> omega
theorem aE {n : Int} (h1 : -9223372036854775808 <= n) (h2 : n <= 9223372036854775807) : i64.wrap n = n := by
 unfold IntKind.wrap;simp only [IntKind.bits, IntKind.signed];simp only [qaz, aW, show (2:Int)^(32-1) = 2147483648 from rfl, show (2:Int)^32 = 4294967296 from rfl, show (2:Int)^(64-1) = 9223372036854775808 from rfl, show (2:Int)^64 = 18446744073709551616 from rfl];split <;> omega
def aI (l : List Int) : List (List PV) := l.map fun n => [.int .i32 n]
@[simp] theorem gQ (l : List Int) : (aI l).length = l.length := by simp [aI]
end Go.Eng
namespace Go.Eng
open Go Go.RowKit Go.ChangeShapes Go.WideShapes Go.ChangeAt
variable {P : Program} {w : World} {I : Nat -> Prop} {G : Nat -> Pl} {h : Hp} {e : Env} {o : Oper} {t : TypeId} {K : Kt} {cv : Value} {a : Act}
def dK (P : Program) : Nat -> TypeId -> List PV -> Prop
 | 0, _, _ => False
 | n + 1, t, ps => match P.underlying t with
   | some .bool => ∃ b, ps = [.bool b]
   | some (.int k) => ∃ m, ps = [.int k m] /\ (Lit.int k m).wf = true
   | some (.slice e) => ∃ nl es, ps = [.sl nl false es] /\ es.length <= maxLen /\ (nl = true -> es = []) /\ ∀ x ∈ es, dK P n e x
   | some (.struct fs) => ps.length = P.cellsOf t /\ ∀ f ∈ fs.toList, dK P n f.type ((ps.drop f.offset).take (P.cellsOf f.type))
   | _ => False
def okF (P : Program) (ok : TypeId -> Bool) (total : Nat) : List Field -> Nat -> Bool
 | [], off => qk off total
 | f :: r, off => qk f.offset off && ok f.type && okF P ok total r (off + P.cellsOf f.type)
def okT (P : Program) : Nat -> TypeId -> Bool
 | 0, _ => false
 | n + 1, t => match P.underlying t with
   | some .bool => true
   | some (.int _) => true
   | some (.slice e) => Nat.blt 0 (P.cellsOf e) && okT P n e
   | some (.struct fs) => okF P (okT P n) (P.cellsOf t) fs.toList 0
   | _ => false
theorem uK {α : Type} {Q : Nat -> α -> Prop} : ∀ (n : Nat), (∀ i, i < n -> ∃ y, Q i y) -> ∃ l : List α, l.length = n /\ ∀ (i : Nat) y, l[i]? = some y -> Q i y
 | 0, _ => ⟨[], rfl, fun i y h => by simp at h⟩
 | n + 1, h => by
   obtain ⟨l, h1, h2⟩ := uK n fun i hi => h i (by omega);obtain ⟨y, hy⟩ := h n (by omega);refine ⟨l ++ [y], by simp [h1], fun i z hz => ?_⟩;by_cases hi : i < l.length
   ·rw [qn hi] at hz; exact h2 i z hz
   ·rw [qaa (by omega)] at hz;have hz' := (List.getElem?_eq_some_iff.1 hz).1;have : i - l.length = 0 := by simp at hz'; omega
    rw [this] at hz; simp at hz; subst hz;rw [show i = n by omega]; exact hy
def CellsRep (w : World) (ps : List PV) (cs : List Value) : Prop := ps.length = cs.length /\ ∀ (k : Nat) v, ps[k]? = some v -> Rep w (fun b => b < w.heap.size) v (cs.getD k undef) /\ (cs.getD k undef).oneCell' = true
theorem CellsRep.one {p : PV} {v : Value} (h : Rep w (fun b => b < w.heap.size) p v) (h1 : v.oneCell' = true) : CellsRep w [p] [v] := by
 refine ⟨rfl, fun k u hk => ?_⟩;cases k with
 | zero => simp at hk; subst hk; exact ⟨h, h1⟩
 | succ k => simp at hk
theorem CellsRep.app {ps qs : List PV} {cs : List Value} {n : Nat} (h1 : CellsRep w ps (cs.take n)) (h2 : CellsRep w qs (cs.drop n)) (hn : n <= cs.length) : CellsRep w (ps ++ qs) cs := by
 have l1 := h1.1;have l2 := h2.1;simp only [qai, qbf] at l1 l2;refine ⟨by simp; omega, fun k v hk => ?_⟩;by_cases hl : k < ps.length
 ·rw [qn hl] at hk;have := h1.2 k v hk;have eg : (cs.take n).getD k undef = cs.getD k undef := by simp only [qaf]; rw [List.getElem?_take_of_lt (by omega)]
  rwa [eg] at this
 ·rw [qaa (by omega)] at hk;have := h2.2 _ v hk;have eg : (cs.drop n).getD (k - ps.length) undef = cs.getD k undef := by simp only [qaf, qr]; rw [show n + (k - ps.length) = k by omega]
  rwa [eg] at this
theorem pM {ok : TypeId -> Bool} {total : Nat} : ∀ {fs : List Field} {off : Nat}, okF P ok total fs off = true -> off <= total
 | [], off, h => Nat.le_of_eq (qh h)
 | f :: r, off, h => by
   simp only [okF, qc] at h;have := pM h.2;omega
theorem uL {H : Type} {ok : TypeId -> Bool} {r : TypeId -> List Value -> Option (DataW H × List MemPlace)} {T : TypeId -> List PV -> Prop}
 (hr : ∀ t, ok t = true -> ∀ cs x, r t cs = some x -> ∃ ps, T t ps /\ CellsRep w ps cs) {cs : List Value} {total : Nat} : ∀ (fs : List Field) (off : Nat), okF P ok total fs off = true -> cs.length = total ->
 (∀ f ∈ fs, ∃ x, r f.type ((cs.drop f.offset).take (P.cellsOf f.type)) = some x) ->
 ∃ ps, CellsRep w ps (cs.drop off) /\ ∀ f ∈ fs, off <= f.offset /\ T f.type ((ps.drop (f.offset - off)).take (P.cellsOf f.type))
 | [], off, h, hl, _ => by
   have := qh h;exact ⟨[], ⟨by simp; omega, fun k v hk => by simp at hk⟩, fun f hf => by simp at hf⟩
 | f :: fs, off, h, hl, hk => by
   have hle := pM h;simp only [okF, qc] at h;have ho := qh h.1.1;have hle2 := pM h.2;obtain ⟨x, hx⟩ := hk f (by simp);obtain ⟨ps, h1, h2⟩ := hr _ h.1.2 _ _ hx;obtain ⟨qs, h3, h4⟩ := uL hr fs _ h.2 hl fun g hg => hk g (by simp [hg]);rw [ho] at h2;rw [<- List.drop_drop] at h3;have hpl : ps.length = P.cellsOf f.type := by rw [h2.1]; simp; omega
   refine ⟨ps ++ qs, h2.app h3 (by simp; omega), fun g hg => ?_⟩;rcases List.mem_cons.1 hg with rfl | hg
   ·refine ⟨by omega, ?_⟩;rw [ho, qby, qci, <- hpl, List.take_left']
    ·exact h1
    ·rfl
   ·obtain ⟨g1, g2⟩ := h4 g hg;refine ⟨by omega, ?_⟩;rw [List.drop_append, List.drop_of_length_le (by omega), List.nil_append, hpl, show g.offset - off - P.cellsOf f.type = g.offset - (off + P.cellsOf f.type) by omega];exact g2
theorem zax {H : Type} {enc : TypeId × Value -> H} {held : Bool} : ∀ (d : Nat) (t : TypeId), okT P d t = true -> ∀ (n : Nat) (cs : List Value) (x : DataW H × List MemPlace),
 DataW.trod enc P w 0 (fun _ => true) held n t cs = some x -> ∃ ps, dK P d t ps /\ CellsRep w ps cs := by
 intro d
 induction d with
 | zero => intro t ht; cases ht
 | succ d ih =>
   intro t hok n cs x hx;unfold okT at hok;unfold dK;split at hok
   ·rename_i hu
    try simp only [hu]
    obtain ⟨b, rfl, _⟩ := DataW.trod_bool hu hx;exact ⟨_, ⟨_, rfl⟩, CellsRep.one (.bool _) rfl⟩
   ·rename_i k hu
    try simp only [hu]
    obtain ⟨m, rfl, _, hw⟩ := DataW.trod_int hu hx;exact ⟨_, ⟨_, rfl, hw⟩, CellsRep.one (.int _ _) rfl⟩
   ·rename_i e hu
    try simp only [hu]
    simp only [qc] at hok;have hpos : 0 < P.cellsOf e := by simpa using hok.1
    rcases DataW.trod_slice hu hx with ⟨rfl, _⟩ | ⟨a, len, cap, elems, rest, n, rfl, rfl, _, _, hle, hmax, hel, he, hr, _⟩
    ·exact ⟨_, ⟨true, [], rfl, qcc _, fun _ => rfl, fun x hx => by simp at hx⟩, CellsRep.one (.slnil _) rfl⟩
    ·obtain ⟨hrl, hr⟩ := hr rfl
     have key : ∀ i, i < cap -> ∃ (q : List PV × List Value), dK P d e q.1 /\ CellsRep w q.1 q.2 /\ w.cells? 0 (a.add (i * P.cellsOf e)) (P.cellsOf e) = some q.2 := fun i hi => by
      have : ∃ z, (w.cells? 0 (a.add (i * P.cellsOf e)) (P.cellsOf e)).bind (DataW.trod enc P w 0 (fun _ => true) held n e) = some z := by
       by_cases hl : i < len
       ·exact ⟨elems[i]'(by omega), by rw [he i hl]; simp [hel, hl]⟩
       ·have := hr (i - len) (by omega);rw [show len + (i - len) = i by omega] at this;exact ⟨rest[i - len]'(by omega), by rw [this, qf]⟩
      obtain ⟨z, hz⟩ := this;obtain ⟨cs', h1, h2⟩ := Option.bind_eq_some_iff.1 hz;obtain ⟨ps, h3, h4⟩ := ih e hok.2 n cs' z h2;exact ⟨(ps, cs'), h3, h4, h1⟩
     obtain ⟨qs, hq1, hq2⟩ := uK cap key
     have hspot : cap ≠ 0 -> a.spot = none := fun hc0 => by
      obtain ⟨q, _, _, h3⟩ := key 0 (by omega);obtain ⟨_, h4, h5⟩ := World.cells?_some h3;have := h5 0 hpos;have hq0 : 0 < q.2.length := by omega
      rw [qf hq0] at this;simp only [qbz] at this;have ea : (a.add 0).add 0 = a := by simp [Addr.add]
      rw [ea] at this;unfold World.cell? at this;split at this
      ·split at this
       ·cases this
       ·rename_i hs; simpa using hs
      ·cases this
     refine ⟨_, ⟨false, (qs.take len).map (·.1), rfl, by simp; omega, (fun h => by cases h), fun x hx => ?_⟩, CellsRep.one ?_ rfl⟩
     ·obtain ⟨q, hq, rfl⟩ := List.mem_map.1 hx;obtain ⟨i, hi⟩ := List.mem_iff_getElem?.1 (List.mem_of_mem_take hq);exact (hq2 i q hi).1
     ·by_cases hc0 : len = 0
      ·subst hc0;simp only [List.take_zero, List.map_nil];exact .slz _ _ _ (fun h => by cases h)
      ·have hsp := hspot (by omega);obtain ⟨b, off, sp⟩ := a;simp only at hsp;subst hsp;have hlen : ((qs.take len).map (·.1)).length = len := by simp; omega
       have get : ∀ (i : Nat) p, ((qs.take len).map (·.1))[i]? = some p -> ∃ q, qs[i]? = some q /\ p = q.1 := fun i p hp => by
        rw [qm, qv] at hp;split at hp
        ·cases hq : qs[i]? with
         | none => rw [hq] at hp; cases hp
         | some q => rw [hq] at hp; cases hp; exact ⟨q, rfl, rfl⟩
        ·cases hp
       have cell : ∀ (i : Nat) p (k : Nat) v, ((qs.take len).map (·.1))[i]? = some p -> p[k]? = some v -> ∃ cv, w.cell? ⟨b, off + i * P.cellsOf e + k, none⟩ = some cv /\ Rep w (fun b => b < w.heap.size) v cv /\ cv.oneCell' = true := fun i p k v hp hk => by
        obtain ⟨q, hq, rfl⟩ := get i p hp;obtain ⟨_, h2, h3⟩ := hq2 i q hq;obtain ⟨_, h4, h5⟩ := World.cells?_some h3;have hkl := (List.getElem?_eq_some_iff.1 hk).1;have hk2 : k < q.2.length := by rw [<- h2.1]; exact hkl
        have := h5 k (by omega);rw [bI, bI, qf hk2] at this;refine ⟨_, this, ?_⟩;have := h2.2 k v hk;have eg : q.2.getD k undef = q.2[k] := by simp [qaf, hk2]
        rw [eg] at this; exact this
       have := Rep.sl (w := w) (I := fun b => b < w.heap.size) false ((qs.take len).map (·.1)) b off cap (P.cellsOf e) (fun i k => (w.cell? ⟨b, off + i * P.cellsOf e + k, none⟩).getD undef) (by omega) (fun hf => by cases hf)
        (fun i p hp => by
         obtain ⟨q, hq, rfl⟩ := get i p hp;obtain ⟨_, h2, h3⟩ := hq2 i q hq;obtain ⟨_, h4, h5⟩ := World.cells?_some h3;have := h5 0 hpos;have hk2 : 0 < q.2.length := by omega
         rw [bI, bI, qf hk2] at this;have := World.block_lt_of_cell? w _ this
         exact ⟨this, this⟩)
        (fun i p hp => by
         obtain ⟨q, hq, rfl⟩ := get i p hp;obtain ⟨_, h2, h3⟩ := hq2 i q hq;obtain ⟨_, h4, h5⟩ := World.cells?_some h3
         rw [h2.1, h4])
        (fun i p k v hp hk => by obtain ⟨cv, c1, _⟩ := cell i p k v hp hk; rw [c1]; rfl)
        (fun i p k v hp hk => by obtain ⟨cv, c1, c2, _⟩ := cell i p k v hp hk; rw [c1]; exact c2)
        (fun i p k v hp hk => by obtain ⟨cv, c1, _, c3⟩ := cell i p k v hp hk; rw [c1]; exact c3)
       rw [hlen] at this;exact this
   ·rename_i fs hu
    try simp only [hu]
    obtain ⟨xs, n, rfl, _, hlen, hxl, hxs⟩ := DataW.trod_struct hu hx
    have key : ∀ f ∈ fs.toList, ∃ x, DataW.trod enc P w 0 (fun _ => true) held n f.type ((cs.drop f.offset).take (P.cellsOf f.type)) = some x := fun f hf => by
     obtain ⟨i, hi⟩ := List.mem_iff_getElem?.1 hf;have hil := (List.getElem?_eq_some_iff.1 hi).1;have h1 := hxs i f (by simpa using hi)
     exact ⟨xs[i]'(by simp at hil; omega), by rw [h1, qf]⟩
    obtain ⟨ps, h1, h2⟩ := uL (fun t ht cs x hx => ih t ht n cs x hx) fs.toList 0 hok hlen key;rw [qci] at h1;refine ⟨ps, ⟨by rw [h1.1, hlen], fun f hf => ?_⟩, h1⟩;have := (h2 f hf).2;rwa [qz] at this
   ·cases hok
def iP (P : Program) (d : Nat) (t : TypeId) (v : PV) : Prop :=
 match P.underlying t with
 | some (.struct _) => ∃ ps, v = .agg ps /\ dK P d t ps
 | _ => dK P d t [v]
def kC (P : Program) (d : Nat) : List TypeId -> List PV -> Prop
 | [], ps => ps = []
 | t :: ts, ps => ∃ v r, ps = v :: r /\ iP P d t v /\ kC P d ts r
theorem zay {H : Type} {enc : TypeId × Value -> H} {held : Bool} {r : Reach} {base : Nat} {d : Nat} (hok : okT P d t = true) {v : Value} (hv : Value.okWide P w r base t v) {x : DataW H} {ps : List MemPlace}
 (h : DataW.Trod enc P w 0 (fun _ => true) held t v x ps) : ∃ pv, iP P d t pv /\ Rep w (fun b => b < w.heap.size) pv v := by
 obtain ⟨n, hn⟩ := h;obtain ⟨qs, h1, h2⟩ := zax d t hok n _ _ hn
 have one : v.cells.toList = [v] -> dK P d t qs -> ∃ pv, dK P d t [pv] /\ Rep w (fun b => b < w.heap.size) pv v := fun hc h1 => by
  rw [hc] at h2
  match qs, h2.1 with
  | [q], _ => exact ⟨q, h1, (h2.2 0 q rfl).1⟩
 unfold iP;cases d with
 | zero => cases hok
 | succ d =>
   have hok0 := hok;unfold okT at hok;split at hok
   ·rename_i hu
    try simp only [hu]
    obtain ⟨b, hb⟩ : ∃ b, v = .bool b := by simp only [Value.okWide, hu, Cell.okWide] at hv; cases v <;> simp_all [Cell.ok]
    exact one (by rw [hb]; rfl) h1
   ·rename_i k hu
    try simp only [hu]
    obtain ⟨m, rfl⟩ := okWide_int hu hv;exact one rfl h1
   ·rename_i e hu
    try simp only [hu]
    obtain ⟨a, len, cap, rfl⟩ := okWide_slice hu hv;exact one rfl h1
   ·rename_i fs hu
    try simp only [hu]
    simp only [Value.okWide, hu] at hv;obtain ⟨cs, rfl, _, _⟩ := hv;refine ⟨.agg qs, ⟨qs, rfl, h1⟩, .agg qs cs (by have := h2.1; simpa [Value.cells] using this.symm) (fun k u hk => ?_) (fun k u hk => ?_)⟩
    ·have := (h2.2 k u hk).1; simpa [Value.cells, qaf] using this
    ·have := (h2.2 k u hk).2; simpa [Value.cells, qaf] using this
   ·cases hok
theorem uM {H : Type} {enc : TypeId × Value -> H} {held : Bool} {r : Reach} {base : Nat} {d : Nat} : ∀ {ts : List TypeId} {vs : List Value} {ds : List (DataW H)} {ps : List MemPlace}, (∀ t ∈ ts, okT P d t = true) ->
 (∀ (j : Nat) t v, ts[j]? = some t -> vs[j]? = some v -> Value.okWide P w r base t v) -> DataW.TrodAll enc P w 0 (fun _ => true) held ts vs ds ps ->
 ∃ pvs, kC P d ts pvs /\ pvs.length = vs.length /\ ds.length = ts.length /\ ∀ (i : Nat) p, pvs[i]? = some p -> Rep w (fun b => b < w.heap.size) p (vs.getD i undef)
 | [], vs, ds, ps, _, _, h => by
   cases vs <;> cases ds <;> simp [DataW.TrodAll] at h;exact ⟨[], rfl, rfl, rfl, fun i p hi => by simp at hi⟩
 | t :: ts, vs, ds, ps, ht, hv, h => by
   obtain ⟨v, vs', x, ds', p, q, rfl, rfl, rfl, h1, h2⟩ := trodAll_cons h;obtain ⟨pv, g1, g2⟩ := zay (ht t (by simp)) (hv 0 t v rfl rfl) h1;obtain ⟨pvs, g3, g4, g5, g6⟩ := uM (fun t h => ht t (by simp [h])) (fun j t v h1 h2 => hv (j + 1) t v (by simpa using h1) (by simpa using h2)) h2
   refine ⟨pv :: pvs, ⟨pv, pvs, rfl, g1, g3⟩, by simp [g4], by simp [g5], fun i u hi => ?_⟩;cases i with
   | zero => simp at hi; subst hi; exact g2
   | succ i => simp at hi; simpa using g6 i u hi
theorem PCall.lawK {f : Nat} {ps : List PV} (hc : PCall P f ps fun v => v = .bool true) {args : Array Value} {w : World} (hn : args.size = ps.length)
 (hr : ∀ (i : Nat) v, ps[i]? = some v -> Rep w (fun b => b < w.heap.size) v (args.getD i undef)) :
 Calls P f args w fun e w' => e = .returned (.bool true) /\ (w.keptBut w' (fun _ => False) /\ ∀ a, a.block < w.heap.size -> w'.frozen? a = w.frozen? a) /\ ∀ b, b < w.heap.size -> w'.heap[b]? = w.heap[b]? := by
 refine (hc.2 w (fun b => b < w.heap.size) (fun _ => ⟨0, 0, 0, 0⟩) args (HRel.nil _ fun b hb => hb) (by simpa using hn) (fun i v hi => ?_)).mono fun e w' ⟨cv, r, h', I', G', e1, ⟨v, e2, hq⟩, e3, e4, e5⟩ => ?_
 ·rw [qm] at hi;cases hp : ps[i]? with
  | none => rw [hp] at hi; cases hi
  | some p => rw [hp] at hi; cases hi; exact .pv _ _ (hr i p hp)
 ·subst e2;subst hq;have hno : ∀ b, ¬ aD [] (fun _ => (⟨0, 0, 0, 0⟩ : Pl)) b := fun b ⟨o, ob, ho, _⟩ => by simp at ho
  have e5 := e5.t;have hk : ∀ b, b < w.heap.size -> w'.heap[b]? = w.heap[b]? := fun b hb => e5.keep b hb (hno b);have := e4.bool_eq;subst this;exact ⟨e1, ⟨zaw e5.os e5.output hk, e5.frz⟩, hk⟩
theorem uN {H : Type} {enc : TypeId × Value -> H} {w w' : World} {base : Nat} {spare : Nat -> Bool} {held : Bool} : ∀ {ts : List TypeId} {vs : List Value} {ds : List (DataW H)} {ps : List MemPlace}, DataW.TrodAll enc P w base spare held ts vs ds ps ->
 (∀ p ∈ ps, w.sameAt w' p) -> DataW.TrodAll enc P w' base spare held ts vs ds ps
 | [], [], [], ps, h, _ => h
 | t :: ts, v :: vs, d :: ds, ps, ⟨p, q, ⟨n, h1⟩, h2, e⟩, hs => ⟨p, q, ⟨n, DataW.trod_carry n t _ _ h1 fun x hx => hs x (by rw [e]; exact List.mem_append_left _ hx)⟩, uN h2 (fun x hx => hs x (by rw [e]; exact List.mem_append_right _ hx)), e⟩
theorem zaz {H : Type} {enc : TypeId × Value -> H} {f : Func} {s : ChangeSpec} {apart fresh handsOn again : Bool} {W W' : World} {args : Array Value} {v : Value} {ds gs : List (DataW H)} {before pa pv : List MemPlace}
 (hW : DataW.Whole enc P f.params.toList s.vars apart W args.toList ds gs before)
 (hres : ∀ (b : Nat) (sp : Nat -> Bool) (hd : Bool), DataW.TrodAll enc P W' b sp hd f.resultTypes.toList (v.resultList f.resultTypes.size) (s.fn H (ds ++ gs)).results [])
 (hargs : ∀ sp : Nat -> Bool, (∀ p ∈ before, sp p.block = true) -> DataW.TrodAll enc P W' 0 sp true f.params.toList args.toList (s.fn H (ds ++ gs)).args pa)
 (hvars : ∀ sp : Nat -> Bool, (∀ p ∈ before, sp p.block = true) -> DataW.TrodVars enc P W' sp s.vars (s.fn H (ds ++ gs)).vars pv)
 (hps : before = pa ++ pv) (hk : W.keptBut W' (· ∈ before)) (hfz : ∀ a, a.block < W.heap.size -> W'.frozen? a = W.frozen? a)
 (hok : ∀ (j : Nat) (t : TypeId) (r : Value), f.resultTypes[j]? = some t -> (v.resultList f.resultTypes.size)[j]? = some r -> Value.okWide P W' .any 0 t r) :
 s.post enc P f apart fresh handsOn again W args v W' := by
 have hlt := hW.lt;have hold : ∀ p ∈ before, (fun b => decide (b < W.heap.size)) p.block = true := fun p hp => by simpa using hlt p hp
 refine ⟨ds, gs, before, [], pa, pv, hW, hres _ _ _, hargs _ hold, hvars _ hold, World.keptBut_mono (fun p hp => ⟨hp, ?_⟩) hk, fun _ => ?_⟩
 ·rw [hps, List.mem_append] at hp;exact Or.inr hp
 ·obtain ⟨_, _, _, _, _, hz, hn⟩ := hW;refine ⟨hok, _, _, ([] ++ pa) ++ pv, ⟨[] ++ pa, pv, trodAll_append (hargs _ (fun _ _ => rfl)) (hres _ _ _), hvars _ (fun _ _ => rfl), rfl, ?_, ?_⟩, ?_⟩
  ·intro b off hp;have hb : MemPlace.cell b off ∈ before := by rw [hps]; simpa using hp
   rw [hfz _ (hlt _ hb)];exact hz b off hb
  ·intro ha;have := hn ha;rw [hps] at this;simpa using this
  ·intro p hp _;rw [hps];simpa using hp
theorem rowStep {C : Checked} {f : FuncId} {fn : Func} {s : ChangeSpec} {apart fresh handsOn again : Bool} {tb : TypeId} {H : Type} {enc : TypeId × Value -> H} {d : Nat} (hvars : s.vars = [])
 (hspec : ∀ ds : List (DataW H), ds.length = fn.params.toList.length -> s.fn H ds = { results := [.lit (.bool true)], args := ds }) (hres : fn.resultTypes = #[tb]) (htb : C.prog.underlying tb = some .bool)
 (hp : ∀ t ∈ fn.params.toList, okT C.prog d t = true) (hpl : ∀ t ∈ fn.params.toList, t < C.prog.types.size) (hlaid : laidOutB C.prog = true) (hmaps : mapsRowed C.prog = true)
 (hfull : ((qcg C.prog.types.size).all fun t => match C.prog.underlying t with | some (.slice e) => decide (0 < C.prog.cellsOf e) | _ => true) = true)
 (law : ∀ pvs, kC C.prog d fn.params.toList pvs -> PCall C.prog f pvs fun v => v = .bool true)
 (W : World) (base : Nat) (args : Array Value) (ds gs : List (DataW H)) (before : List MemPlace) (hval : ∀ (j : Nat) t v, fn.params[j]? = some t -> args[j]? = some v -> Value.okWide C.prog W .any base t v)
 (hW : DataW.Whole enc C.prog fn.params.toList s.vars apart W args.toList ds gs before) :
 Calls C.prog f args W fun e W' => ∃ v, e = .returned v /\ s.post enc C.prog fn apart fresh handsOn again W args v W' := by
 have hlt := hW.lt;have hW0 := hW;obtain ⟨p, q, hA, hV, rfl, hfz, hnd⟩ := hW;rw [hvars] at hV;obtain ⟨rfl, rfl⟩ := trodVars_none hV;obtain ⟨pvs, h1, h2, h3, h4⟩ := uM (d := d) hp (fun j t v g1 g2 => hval j t v (by simpa using g1) (by simpa using g2)) hA
 refine (PCall.lawK (law pvs h1) (by simpa using h2.symm) (fun i v hi => by simpa [qaf] using h4 i v hi)).mono fun e W' ⟨he, hg, hk⟩ => ?_
 have hz : ∀ t e, t < C.prog.types.size -> C.prog.underlying t = some (.slice e) -> 0 < C.prog.cellsOf e := slices_full_of _ hfull;have hsp := hspec ds h3
 have hsame : ∀ x ∈ p, W.sameAt W' x := fun x hx => by
  have := hlt x (by simp [hx]);cases x with
  | cell b off => exact World.cell?_of_block (w := W) (hk b this)
  | map b => exact hk b this
 refine ⟨_, he, zaz (pa := p) (pv := []) hW0 (fun b sp hd => ?_) (fun sp hs => ?_) (fun sp hs => ?_) rfl (World.keptBut_mono (fun _ f => f.elim) hg.1) hg.2 (ok_one hres rfl (okWide_bool_mk htb _))⟩
 ·rw [qbl, hsp, hres];exact trodAll_cons_mk (shut_bool htb _) trodAll_mk0
 ·rw [qbl, hsp];exact uN (hA.respare (kids_rows hlaid hmaps) (fun t e h1 h2 => hz t e h1 h2) hpl (fun x hx => hs x (by simp [hx]))) hsame
 ·rw [qbl, hsp, hvars]; rfl
def uO (P : Program) (t : TypeId) : Option (List (TypeId × Nat × Nat)) :=
 match P.underlying t with
 | some (.struct fs) => some (fs.toList.map fun f => (f.type, f.offset, P.cellsOf f.type))
 | _ => none
theorem za0 {n : Nat} {k : IntKind} {ps : List PV} (hu : P.underlying t = some (.int k)) (h : dK P (n + 1) t ps) : ∃ m, ps = [.int k m] /\ (Lit.int k m).wf = true := by
 unfold dK at h; rw [hu] at h; exact h
theorem za1 {d : Nat} {v : PV} (hn : uO P t = none) (h : iP P d t v) : dK P d t [v] := by
 unfold iP at h;unfold uO at hn;split at h
 ·rename_i hu; rw [hu] at hn; cases hn
 ·exact h
end Go.Eng
namespace Go.Eng
open Go
variable {P : Program} {w : World} {I : Nat -> Prop} {G : Nat -> Pl} {h : Hp} {e : Env} {o : Oper} {t : TypeId} {K : Kt} {cv : Value} {a : Act}
theorem uP {α : Type} {enc : α -> List PV} {sz : Nat} (hs : ∀ x, (enc x).length = sz) (l : List α) : cH (l.map enc) sz := by
 intro e he;cases l with
 | nil => simp at he
 | cons x l => simp only [qak, List.head?_cons, Option.some.injEq] at he; subst he; exact hs x
theorem fV {α : Type} {enc : α -> List PV} {l : List α} {i : Nat} (h : i < l.length) : (l.map enc).getD i [] = enc l[i] := by
 simp [qaf, h]
theorem fW {α : Type} {enc : α -> List PV} {sz : Nat} (hs : ∀ x, (enc x).length = sz) {l : List α} {i : Int} (h0 : 0 <= i) (h : i < l.length) : aB (l.map enc) i sz := by
 refine ⟨h0, by simpa using h, ?_⟩
 rw [fV (by omega)];exact hs _
theorem iQ {c : Prop} [Decidable c] {a b : Prop} (h : c) (ha : a) : if c then a else b := by rw [if_pos h]; exact ha
theorem b7 {c : Prop} [Decidable c] {a b : Prop} (h : ¬ c) (hb : b) : if c then a else b := by rw [if_neg h]; exact hb
theorem aH {c : Prop} [Decidable c] {a b : Prop} (ha : c -> a) (hb : ¬ c -> b) : if c then a else b := by
 by_cases h : c
 ·rw [if_pos h]; exact ha h
 ·rw [if_neg h]; exact hb h
def bS {α β : Type} (ek : α -> PV) (ev : β -> PV) (M : List (α × β)) : List (PV × PV) := M.map fun p => (ek p.1, ev p.2)
def aT {α β : Type} [DecidableEq α] (a : α) : List (α × β) -> Option β
 | [] => none
 | (x, y) :: r => if a = x then some y else aT a r
def aM {α β : Type} [DecidableEq α] (a : α) (b : β) : List (α × β) -> List (α × β)
 | [] => [(a, b)]
 | (x, y) :: r => if a = x then (a, b) :: r else (x, y) :: aM a b r
theorem uQ {α β : Type} {ek : α -> PV} {ev : β -> PV} (M : List (α × β)) : (bS ek ev M).length = M.length := by simp [bS]
section
variable {α β : Type} [DecidableEq α] {ek : α -> PV} {ev : β -> PV}
theorem pN (hk : ∀ a b, cP (ek a) (ek b) = decide (a = b)) (a : α) : ∀ (M : List (α × β)), (aR (ek a) (bS ek ev M) = none /\ aT a M = none /\ ∀ b, aM a b M = M ++ [(a, b)]) ∨
 ∃ j y, aR (ek a) (bS ek ev M) = some j /\ M[j]? = some (a, y) /\ aT a M = some y /\ ∀ b, aM a b M = M.set j (a, b)
 | [] => .inl ⟨rfl, rfl, fun _ => rfl⟩
 | (x, y) :: r => by
   simp only [bS, qak, aR, hk, aT, aM];by_cases h : a = x
   ·subst h;simp only [decide_true, cond_true, if_true];exact .inr ⟨0, y, rfl, rfl, rfl, fun b => rfl⟩
   ·simp only [h, decide_false, cond_false, if_false];rcases pN hk a r with ⟨h1, h2, h3⟩ | ⟨j, z, h1, h2, h3, h4⟩
    ·refine .inl ⟨?_, h2, fun b => by rw [h3]; rfl⟩;show (aR (ek a) (bS ek ev r)).map _ = none;rw [h1]; rfl
    ·refine .inr ⟨j + 1, z, ?_, by simpa using h2, h3, fun b => by rw [h4]; rfl⟩
     show (aR (ek a) (bS ek ev r)).map _ = _;rw [h1]; rfl
theorem za2 (hk : ∀ a b, cP (ek a) (ek b) = decide (a = b)) (a : α) (M : List (α × β)) : cJ (ek a) (bS ek ev M) = (aT a M).map ev := by
 unfold cJ;rcases pN (ev := ev) hk a M with ⟨h1, h2, h3⟩ | ⟨j, z, h1, h2, h3, h4⟩
 ·rw [h1, h2]; rfl
 ·rw [h1, h3];simp only [qj, bS, qaf, qm, h2, ql]
theorem za3 (hk : ∀ a b, cP (ek a) (ek b) = decide (a = b)) (a : α) (b : β) (M : List (α × β)) : c8 (ek a) (ev b) (bS ek ev M) = bS ek ev (aM a b M) := by
 unfold c8;rcases pN (ev := ev) hk a M with ⟨h1, h2, h3⟩ | ⟨j, z, h1, h2, h3, h4⟩
 ·rw [h1, h3]; simp [bS]
 ·rw [h1, h4];simp only [bS, List.map_set]
theorem pO (x a : α) (b : β) : ∀ (M : List (α × β)), aT x (aM a b M) = if x = a then some b else aT x M
 | [] => rfl
 | (u, v) :: r => by
   simp only [aM];by_cases h : a = u
   ·subst h;simp only [if_true, aT];by_cases h2 : x = a <;> simp [h2]
   ·simp only [h, if_false, aT, pO x a b r];by_cases h2 : x = u
    ·subst h2; have : ¬ x = a := fun e => h e.symm; simp [this]
    ·simp [h2]
theorem kD {a : α} : ∀ {M : List (α × β)}, aT a M = none ↔ a ∉ M.map (·.1)
 | [] => by simp [aT]
 | (u, v) :: r => by
   simp only [aT, qak, qbs, not_or];by_cases h : a = u
   ·simp [h]
   ·simp [h, kD]
theorem iR (a : α) (b : β) (M : List (α × β)) : (aM a b M).map (·.1) = if a ∈ M.map (·.1) then M.map (·.1) else M.map (·.1) ++ [a] := by
 induction M with
 | nil => simp [aM]
 | cons p r ih =>
   obtain ⟨u, v⟩ := p;simp only [aM];by_cases h : a = u
   ·subst h; simp
   ·simp only [h, if_false, qak, ih, qbs, false_or];split <;> simp
theorem za4 {x a : α} {b : β} {M : List (α × β)} : x ∈ (aM a b M).map (·.1) ↔ x ∈ M.map (·.1) ∨ x = a := by
 rw [iR];split
 ·rename_i h; exact ⟨.inl, fun h' => h'.elim id fun e => e ▸ h⟩
 ·simp
end
theorem uR (q : IntKind) (a b : Int) : cP (.int q a) (.int q b) = decide (a = b) := by
 show (a == b) = _;by_cases h : a = b <;> simp [h]
theorem kE {q : IntKind} {β : Type} {ev : β -> PV} (M : List (Int × β)) : fN q (bS (fun n => .int q n) ev M) := by
 intro kv h;simp only [bS, List.mem_map] at h;obtain ⟨p, _, rfl⟩ := h;exact ⟨_, rfl⟩
theorem uS {α : Type} : ∀ {M : List α} {j : Nat} (hj : j < M.length), (M[j] :: M.eraseIdx j).Perm M
 | x :: M, 0, _ => List.Perm.refl _
 | x :: M, j + 1, hj => by
   simp only [qbn, qbh];exact (List.Perm.swap _ _ _).trans ((uS (by simpa using hj)).cons x)
theorem uT {α β : Type} (f : α -> β) : ∀ (M : List α) (j : Nat), (M.map f).eraseIdx j = (M.eraseIdx j).map f
 | [], _ => by simp
 | x :: M, 0 => rfl
 | x :: M, j + 1 => by simp [uT f M j]
theorem za5 {α β : Type} {ek : α -> PV} {ev : β -> PV} {M : List (α × β)} {j : Nat} {k v : PV} (h : (bS ek ev M)[j]? = some (k, v)) : ∃ (hj : j < M.length), k = ek M[j].1 /\ v = ev M[j].2 /\ (M[j] :: M.eraseIdx j).Perm M /\ (bS ek ev M).eraseIdx j = bS ek ev (M.eraseIdx j) := by
 simp only [bS, qm] at h;cases hq : M[j]? with
 | none => rw [hq] at h; cases h
 | some p =>
   rw [hq] at h; cases h;obtain ⟨hj, hp⟩ := List.getElem?_eq_some_iff.1 hq;refine ⟨hj, by rw [hp], by rw [hp], uS hj, ?_⟩;exact uT _ _ _
end Go.Eng
