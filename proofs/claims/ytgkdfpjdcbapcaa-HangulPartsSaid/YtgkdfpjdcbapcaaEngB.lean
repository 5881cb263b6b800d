/- One engine for all of this seat: abstract states, run over the code. -/
import Derived.Test.YtgkdfpjdcbapcaaEngA
import Derived.Orders
set_option linter.unusedVariables false
set_option linter.unusedSimpArgs false
namespace Go.Eng
open Go
/-- What an append asks of the lists. -/
structure ApOK (full : Bool) (es ys : List (List PV)) (sz bytes : Nat) : Prop where
  full : full = true
  some : es = [] ∨ ys ≠ []
  s1 : szOK es sz
  s2 : szOK ys sz
  room : (es.length + ys.length) * bytes ≤ 140737488355328
def aAppend (P : Program) (e : Env) (h : Hp) (ats : List TypeId) (args : List Operand) (K : Kt) : Prop :=
  match ats, args with
  | [t, t'], [s, x] =>
    match P.underlying t, P.underlying t' with
    | some (.slice el), some (.slice _) =>
      match P.info? el, zeroCells P el with
      | some ti, some zs =>
        bif (Nat.beq zs.length ti.size && !Nat.beq ti.size 0 && !Nat.beq ti.bytes 0) then
          (match opv [] e s, opv [] e x with
          | some u, some v => match elemsOf h v with
            | some ys => match u with
              | .pv (.sl nl full es) => ApOK full es ys ti.size ti.bytes ∧ K (.own h.length) e (h ++ [.sl (el, ti.size) false (nl && ys.isEmpty) (es ++ ys)])
              | .own o => match h[o]? with
                | some (.sl ty m nl es) => bif (Nat.beq ty.1 el && Nat.beq ty.2 ti.size) then
                    (szOK ys ti.size ∧ (es.length + ys.length) * ti.bytes ≤ 140737488355328) ∧ K (.own o) (killE o e) ((killH o h).set o (.sl ty true (nl && ys.isEmpty) (es ++ ys)))
                    else False
                | _ => False
              | _ => False
            | none => False
          | _, _ => False) else False
      | _, _ => False
    | _, _ => False
  | _, _ => False

theorem isEmpty_eq {ys : List (List PV)} {nl : Bool} : (nl && ys.isEmpty) = true ↔ nl = true ∧ ys = [] := by
  cases ys <;> cases nl <;> simp

/-- An object that owns no block. -/
theorem HRel.add {w : World} {I : Nat → Prop} {G : Nat → Pl} {h : Hp} (hh : HRel w I G h) (ob : Ob) (p : Pl) (hp : ¬ ob.alive p) (hor : ORel w I (addPl G h.length p) (h ++ [ob]) p ob) :
    HRel w I (addPl G h.length p) (h ++ [ob]) := by
  have hk := Keeps.refl w I
  have hl := Like.push G h p ob
  have old : ∀ i, i < h.length → addPl G h.length p i = G i := fun i hi => by simp [addPl, Nat.ne_of_lt hi]
  have new : addPl G h.length p h.length = p := by simp [addPl]
  have split : ∀ (i : Nat) x, (h ++ [ob])[i]? = some x → (i < h.length ∧ h[i]? = some x) ∨ (i = h.length ∧ x = ob) := fun i x hx => by
    rcases Nat.lt_trichotomy i h.length with hi | hi | hi
    · rw [List.getElem?_append_left hi] at hx; exact .inl ⟨hi, hx⟩
    · subst hi; simp at hx; exact .inr ⟨rfl, hx.symm⟩
    · rw [List.getElem?_eq_none (by simp; omega)] at hx; cases hx
  refine ⟨fun i x hx => ?_, fun i j x y hx ax hy ay hb => ?_, fun i x hx ax => ?_, hh.cl⟩
  · rcases split i x hx with ⟨hi, hx'⟩ | ⟨rfl, rfl⟩
    · rw [old i hi]
      have := hh.obs i x hx'
      cases x with
      | dead => trivial
      | box cs =>
        obtain ⟨vs, ty, e1, e2, e3⟩ := this
        exact ⟨vs, ty, e1, e2, fun k v hv => ⟨(e3 k v hv).1.mono hk hl, (e3 k v hv).2⟩⟩
      | arr cs => exact this
      | sl ty m n es => cases n <;> exact this
      | mp kvs => exact this
    · rw [new]; exact hor
  · rcases split i x hx with ⟨hi, hx'⟩ | ⟨rfl, rfl⟩
    · rcases split j y hy with ⟨hj, hy'⟩ | ⟨rfl, rfl⟩
      · rw [old i hi] at ax hb; rw [old j hj] at ay hb
        exact hh.sep i j x y hx' ax hy' ay hb
      · rw [new] at ay; exact absurd ay hp
    · rw [new] at ax; exact absurd ax hp
  · rcases split i x hx with ⟨hi, hx'⟩ | ⟨rfl, rfl⟩
    · rw [old i hi] at ax ⊢; exact hh.nI i x hx' ax
    · rw [new] at ax; exact absurd ax hp
theorem Tr.add {w : World} {I : Nat → Prop} {G : Nat → Pl} {h : Hp} (ob : Ob) (p : Pl) (hp : ¬ ob.alive p) : Tr w I (Owns h G) w I (Owns (h ++ [ob]) (addPl G h.length p)) :=
  ⟨rfl, rfl, rfl, Nat.le_refl _, fun _ _ _ => rfl, fun _ x => x, fun _ x => .inl x, fun b ⟨i, x, hx, ax, hb⟩ => (by
    rcases Nat.lt_trichotomy i h.length with hi | hi | hi
    · rw [List.getElem?_append_left hi] at hx
      have : addPl G h.length p i = G i := by simp [addPl, Nat.ne_of_lt hi]
      rw [this] at ax hb
      exact .inl ⟨i, x, hx, ax, hb⟩
    · subst hi
      have e : addPl G h.length p h.length = p := by simp [addPl]
      simp at hx; subst hx
      rw [e] at ax; exact absurd ax hp
    · rw [List.getElem?_eq_none (by simp; omega)] at hx; cases hx), fun _ => rfl⟩
theorem HRel.drew {w : World} {I : Nat → Prop} {G : Nat → Pl} {h : Hp} (hh : HRel w I G h) : HRel w.drew I G h := by
  have hk : Keeps w I w.drew I := ⟨fun _ _ _ => rfl, fun _ x _ => x⟩
  refine ⟨fun i x hx => ?_, hh.sep, hh.nI, hh.cl⟩
  have := hh.obs i x hx
  cases x with
  | dead => trivial
  | box cs => obtain ⟨vs, ty, e1, e2, e3⟩ := this; exact ⟨vs, ty, e1, e2, fun k v hv => ⟨(e3 k v hv).1.mono hk (.refl _ _), (e3 k v hv).2⟩⟩
  | arr cs => obtain ⟨vs, ty, e1, e2, e3⟩ := this; exact ⟨vs, ty, e1, e2, fun k v hv => ⟨(e3 k v hv).1.mono hk.1 hk.2, (e3 k v hv).2⟩⟩
  | sl ty m n es =>
    cases n with
    | true => exact this
    | false =>
      obtain ⟨e1, e2, e3, e3', e4, e5⟩ := this
      refine ⟨e1, e2, e3, e3', e4, fun hc => ?_⟩
      obtain ⟨vs, f1, f2, f3⟩ := e5 hc
      exact ⟨vs, f1, f2, fun i' e he k v hv => ⟨(f3 i' e he k v hv).1.mono hk.1 hk.2, (f3 i' e he k v hv).2⟩⟩
  | mp kvs => obtain ⟨es, ck, e1, e2, e3⟩ := this; exact ⟨es, ck, e1, e2, fun k kv hv => ⟨(e3 k kv hv).1.mono hk.1 hk.2, (e3 k kv hv).2.mono hk.1 hk.2⟩⟩
theorem Tr.drew {w : World} {I own : Nat → Prop} : Tr w I own w.drew I own := ⟨rfl, rfl, rfl, Nat.le_refl _, fun _ _ _ => rfl, fun _ x => x, fun _ x => .inl x, fun _ x => .inl x, fun _ => rfl⟩

/-- The row that a grown slice lies in. -/
theorem grown_row {w : World} {I : Nat → Prop} {sz cap : Nat} {es : List (List PV)} {xs : List Value} (hr : RowRep w I sz es xs) (hsz : sz ≠ 0) {z : Value} (hz : z.cells.size = sz) (hc : es.length ≤ cap) :
    (xs.toArray ++ Builtin.zeroCells z.cells (cap - es.length)).size = cap * sz ∧
    ∀ (i : Nat) e, es[i]? = some e → ∀ (k : Nat) v, e[k]? = some v → Rep w I v ((xs.toArray ++ Builtin.zeroCells z.cells (cap - es.length)).getD (i * sz + k) undef) ∧
      ((xs.toArray ++ Builtin.zeroCells z.cells (cap - es.length)).getD (i * sz + k) undef).oneCell' = true := by
  refine ⟨?_, fun i e he k v hk => ?_⟩
  · rw [Array.size_append, size_zeroCells, hz, List.size_toArray, hr.len, ← Nat.add_mul]
    congr 1; omega
  · have hkl : k < sz := by have := (List.getElem?_eq_some_iff.1 hk).1; rwa [hr.el _ _ he] at this
    have hil := (List.getElem?_eq_some_iff.1 he).1
    have hlt : i * sz + k < xs.length := by
      rw [hr.len]
      have : (i + 1) * sz ≤ es.length * sz := Nat.mul_le_mul_right _ hil
      rw [Nat.add_mul] at this; omega
    have e1 : (xs.toArray ++ Builtin.zeroCells z.cells (cap - es.length)).getD (i * sz + k) undef = xs.getD (i * sz + k) undef := by
      rw [Array.getD_eq_getD_getElem?, Array.getElem?_append_left (by simpa using hlt)]
      simp [List.getD]
    rw [e1]; exact hr.rep i e k v he hk
end Go.Eng
set_option linter.unusedVariables false
set_option linter.unusedSimpArgs false
namespace Go.Eng
open Go
theorem args_two {ρ : Operand → Value} {c : Call} {x y : Operand} (h : c.args.toList = [x, y]) : c.args.map ρ = #[ρ x, ρ y] := by
  apply Array.ext'; simp [h]
theorem toList_two {ats : Array TypeId} {t t' : TypeId} (h : ats.toList = [t, t']) : ats[0]? = some t ∧ ats[1]? = some t' := by
  have : ats = #[t, t'] := by apply Array.ext'; simpa using h
  subst this; exact ⟨rfl, rfl⟩
theorem rowNil {w : World} {I : Nat → Prop} {sz : Nat} {xs : List Value} (h : RowRep w I sz [] xs) : xs = [] := List.eq_nil_of_length_eq_zero (by simpa using h.len)

/-- A grown row in a new block, as an object. -/
theorem grown_obj {w : World} {I : Nat → Prop} {el : TypeId} {sz need old : Nat} {es : List (List PV)} {xs : List Value} (hr : RowRep w I sz es xs) (hsz : sz ≠ 0) {z : Value} (hz : z.cells.size = sz) (hn : need = es.length) (h63 : need ≤ maxLen)
    {w0 : World} {o : Obj} (hw : o = .cells (xs.toArray ++ Builtin.zeroCells z.cells (grownCap w0 need old el - need)) el) {G : Nat → Pl} {h : Hp} {m : Bool} :
    ORel (w.alloc o) I G h ⟨w.heap.size, 0, grownCap w0 need old el, sz⟩ (.sl (el, sz) m false es) := by
  subst hn
  have hge := grownCap_ge w0 es.length old el
  have hk : Keeps w I (w.alloc o) I := .alloc w I I _ fun _ x => x
  obtain ⟨g1, g2⟩ := grown_row hr hsz hz hge
  refine ⟨hge, grownCap_le_maxLen w0 es.length old el h63, fun _ => rfl, rfl, hr.el, fun _ => ⟨_, by rw [hw]; exact heap_alloc_self w _, g1, fun i e he k v hv => ⟨(g2 i e he k v hv).1.mono hk.1 hk.2, (g2 i e he k v hv).2⟩⟩⟩

theorem aAppend_ok {P : Program} {o : Oper} {e : Env} {h : Hp} {K : Kt} {c : Call} (ho : o.op = .call c) (hc : c.callee = .builtin .append) (hK : aAppend P e h c.argTypes.toList c.args.toList K) : OpS P o e h K := by
  unfold aAppend at hK
  split at hK
  · rename_i t t' s x hat har
    obtain ⟨h0, h1⟩ := toList_two hat
    split at hK
    · rename_i el e2 ht ht'
      split at hK
      · rename_i ti zs hi hzs
        cases hb : (Nat.beq zs.length ti.size && !Nat.beq ti.size 0 && !Nat.beq ti.bytes 0) with
        | false => rw [hb] at hK; cases hK
        | true =>
          rw [hb] at hK
          simp only [cond_true] at hK
          simp only [Bool.and_eq_true, Bool.not_eq_true'] at hb
          have hzl := Nat.eq_of_beq_eq_true hb.1.1
          have hsz : ti.size ≠ 0 := fun hz => by rw [hz] at hb; simp at hb
          have hby : ti.bytes ≠ 0 := fun hz => by rw [hz] at hb; simp at hb
          obtain ⟨ti', z, hi', hz, z1, z2⟩ := zeroCells_ok hzs
          rw [hi] at hi'; cases hi'
          have hzc : z.cells.size = ti.size := z1.trans hzl
          have m63 : ∀ {k : Nat}, k * ti.bytes ≤ 140737488355328 → k ≤ maxLen := fun {k} hk => by
            have : k * 1 ≤ k * ti.bytes := Nat.mul_le_mul_left _ (Nat.pos_of_ne_zero hby)
            simp only [maxLen]; omega
          split at hK
          · rename_i u v hu hv
            split at hK
            · rename_i ys hys
              intro w I G a next Qx hh he hn
              have hu' := opv_ok he (AOK.nil _) hu
              have hv' := opv_ok he (AOK.nil _) hv
              have key : ∀ {cv : Value} {w' : World}, (Builtin.append_ c.argTypes o.type #[a.eval s, a.eval x]).run P w = .ok cv w' → next (a.put o.dst cv) w' → o.wp P a w next Qx := fun {cv w'} hr hnx => by
                have hrun : (execOp a.eval o).run P w = .ok (.value cv) w' := by
                  unfold execOp; rw [ho]
                  show (do let d ← resolve a.eval c o.type; invoke d.target d.args : Sem Next).run P w = _
                  rw [resolve_builtin hc, args_two har]
                  exact vOf_run hr
                unfold Oper.wp; rw [hrun]; exact hnx
              split at hK
              · rename_i nl full es
                obtain ⟨⟨hfull, hsome, hs1, hs2, hroom⟩, hK⟩ := hK
                obtain ⟨bs, ns, cs, es1, hns, xs, hxs, hfs⟩ := elemsOf_ok (P := P) hh hu' (es := es) rfl hs1
                obtain ⟨bx, nx, cx, ex1, hnx, xx, hxx, hfx⟩ := elemsOf_ok (P := P) hh hv' hys hs2
                have hcs : cs = ns ∧ (nl = true ↔ bs = none) ∧ (∀ a0, bs = some a0 → a0.spot = none) := by
                  rw [es1] at hu'
                  cases hu' with
                  | pv _ _ hr => cases hr with
                    | slnil => exact ⟨rfl, by simp, by simp⟩
                    | sl _ _ b off cap sz c q1 q2 => exact ⟨q2 hfull, by simp, by simp⟩
                obtain ⟨hcs, hnb, hspot⟩ := hcs
                subst hcs
                by_cases hye : ys = []
                · subst hye
                  have hes : es = [] := hsome.resolve_right (by simp)
                  subst hes
                  have hxe := rowNil hxx
                  subst hxe
                  simp only [List.length_nil] at hns hnx
                  subst hns; subst hnx
                  refine key (by rw [es1, ex1]; exact run_append_none h0 h1 ht ht' hi (by rw [← ex1]; simpa using hfx w rfl) (Nat.le_refl _)) ?_
                  rw [show (nl && ([] : List (List PV)).isEmpty) = nl by simp, List.append_nil] at hK
                  cases nl with
                  | true =>
                    have hbs := hnb.1 rfl
                    subst hbs
                    have hna : ¬ (Ob.sl (el, ti.size) false true []).alive ⟨0, 0, 0, 0⟩ := fun ha => by cases ha.1
                    exact hn _ e _ w I _ _ hK (hh.add _ _ hna rfl) (he.mono (.refl _ _) (Like.push G h _ _)) (.ownNil h.length (el, ti.size) false [] (by simp)) (Tr.add _ _ hna)
                  | false =>
                    cases bs with
                    | none => exact absurd (hnb.2 rfl) (by simp)
                    | some a0 =>
                      obtain ⟨b, off, sp⟩ := a0
                      have := hspot _ rfl
                      simp only at this; subst this
                      have hna : ¬ (Ob.sl (el, ti.size) false false []).alive ⟨b, off, 0, ti.size⟩ := fun ha => ha.2 rfl
                      refine hn _ e _ w I _ _ hK (hh.add _ ⟨b, off, 0, ti.size⟩ hna ?_) (he.mono (.refl _ _) (Like.push G h _ _)) ?_ (Tr.add _ _ hna)
                      · exact ⟨Nat.le_refl _, by simp [maxLen], fun hc => absurd rfl hc, rfl, fun i e he => by simp at he, fun hc => absurd rfl hc⟩
                      · have := LRel.own (w := w) (I := I) (G := addPl G h.length ⟨b, off, 0, ti.size⟩) (h := h ++ [.sl (el, ti.size) false false []]) h.length (el, ti.size) false [] (by simp)
                        simpa [addPl] using this
                · have hm : 0 < nx := by rw [hnx]; exact List.length_pos_iff.2 hye
                  rw [← hns, ← hnx] at hroom
                  refine key (by rw [es1, ex1]; exact run_append_new h0 h1 ht ht' hi hz (by rw [← es1]; exact hfs w.drew rfl) (by rw [← ex1]; exact hfx w.drew rfl) (by omega) (m63 hroom) hroom) ?_
                  have e0 : (nl && ys.isEmpty) = false := by cases ys <;> simp_all
                  rw [e0] at hK
                  have hk : Keeps w I w.drew I := ⟨fun _ _ _ => rfl, fun _ x _ => x⟩
                  have hrow := (hxs.append hxx).mono hk
                  have hnl : cs + nx = (es ++ ys).length := by simp [hns, hnx]
                  have hor := fun G' h' => grown_obj (el := el) (need := cs + nx) (old := cs) (w0 := w) (m := false) hrow hsz hzc hnl (m63 hroom) (o := .cells ((xs ++ xx).toArray ++ Builtin.zeroCells z.cells (grownCap w (cs + nx) cs el - (cs + nx))) el) rfl (G := G') (h := h')
                  have hsame : w.drew.alloc (.cells (xs.toArray ++ xx.toArray ++ Builtin.zeroCells z.cells (grownCap w (cs + nx) cs el - (cs + nx))) el) = w.drew.alloc (.cells ((xs ++ xx).toArray ++ Builtin.zeroCells z.cells (grownCap w (cs + nx) cs el - (cs + nx))) el) := by simp
                  rw [hsame]
                  have hH := hh.drew.push (.cells ((xs ++ xx).toArray ++ Builtin.zeroCells z.cells (grownCap w (cs + nx) cs el - (cs + nx))) el) (.sl (el, ti.size) false false (es ++ ys)) ⟨w.drew.heap.size, 0, grownCap w (cs + nx) cs el, ti.size⟩ rfl (hor _ _)
                  refine hn _ e _ _ I _ _ hK hH ((he.mono hk (.refl _ _)).mono (.alloc w.drew I I _ fun _ x => x) (Like.push G h _ _)) ?_ (Tr.trans Tr.drew (Tr.push _ _ _ rfl))
                  have := LRel.own (w := w.drew.alloc (.cells ((xs ++ xx).toArray ++ Builtin.zeroCells z.cells (grownCap w (cs + nx) cs el - (cs + nx))) el)) (I := I) (G := addPl G h.length ⟨w.drew.heap.size, 0, grownCap w (cs + nx) cs el, ti.size⟩) (h := h ++ [.sl (el, ti.size) false false (es ++ ys)]) h.length (el, ti.size) false (es ++ ys) (by simp)
                  rw [← hnl] at this
                  simpa [addPl] using this
              · rename_i ob
                split at hK
                · rename_i ty m nl es hob
                  cases hb2 : (Nat.beq ty.1 el && Nat.beq ty.2 ti.size) with
                  | false => rw [hb2] at hK; cases hK
                  | true =>
                    rw [hb2] at hK
                    simp only [cond_true] at hK
                    simp only [Bool.and_eq_true] at hb2
                    have ety : ty = (el, ti.size) := Prod.ext (Nat.eq_of_beq_eq_true hb2.1) (Nat.eq_of_beq_eq_true hb2.2)
                    subst ety
                    obtain ⟨⟨hs2, hroom⟩, hK⟩ := hK
                    have hor0 := hh.obs _ _ hob
                    have hs1 : szOK es ti.size := by
                      cases nl with
                      | true => simp only [ORel] at hor0; subst hor0; exact fun e he => by simp at he
                      | false =>
                        intro e he
                        have := hor0.2.2.2.2.1 0 e (by cases es <;> simp_all)
                        rw [this, hor0.2.2.2.1]
                    obtain ⟨bs, ns, cs, es1, hns, xs, hxs, hfs⟩ := elemsOf_ok (P := P) hh hu' (es := es) (by simp [elemsOf, hob]) hs1
                    obtain ⟨bx, nx, cx, ex1, hnx, xx, hxx, hfx⟩ := elemsOf_ok (P := P) hh hv' hys hs2
                    rw [← hns, ← hnx] at hroom
                    have hbox : ∀ cs, h[ob]? ≠ some (.box cs) := fun cs e => by rw [hob] at e; cases e
                    have harr : ∀ cs, h[ob]? ≠ some (.arr cs) := fun cs e => by rw [hob] at e; cases e
                    have hmp : ∀ cs, h[ob]? ≠ some (.mp cs) := fun cs e => by rw [hob] at e; cases e
                    have hlt : ob < (killH ob h).length := by simpa [killH] using (List.getElem?_eq_some_iff.1 hob).1
                    have hnl : ns + nx = (es ++ ys).length := by simp [hns, hnx]
                    -- it grows
                    have grow : cs < ns + nx → o.wp P a w next Qx := fun hcap => by
                      have hk : Keeps w I w.drew I := ⟨fun _ _ _ => rfl, fun _ x _ => x⟩
                      refine key (by rw [es1, ex1]; exact run_append_new h0 h1 ht ht' hi hz (by rw [← es1]; exact hfs w.drew rfl) (by rw [← ex1]; exact hfx w.drew rfl) hcap (m63 hroom) hroom) ?_
                      have hrow := (hxs.append hxx).mono hk
                      have hsame : w.drew.alloc (.cells (xs.toArray ++ xx.toArray ++ Builtin.zeroCells z.cells (grownCap w (ns + nx) cs el - (ns + nx))) el) = w.drew.alloc (.cells ((xs ++ xx).toArray ++ Builtin.zeroCells z.cells (grownCap w (ns + nx) cs el - (ns + nx))) el) := by simp
                      rw [hsame]
                      have hor := fun G' h' => grown_obj (el := el) (need := ns + nx) (old := cs) (w0 := w) (m := true) hrow hsz hzc hnl (m63 hroom) (o := .cells ((xs ++ xx).toArray ++ Builtin.zeroCells z.cells (grownCap w (ns + nx) cs el - (ns + nx))) el) rfl (G := G') (h := h')
                      have e0 : (nl && ys.isEmpty) = false := by
                        cases hq : (nl && ys.isEmpty) with
                        | false => rfl
                        | true =>
                          obtain ⟨q1, q2⟩ := isEmpty_eq.1 hq
                          subst q1; subst q2
                          simp only [ORel] at hor0; subst hor0
                          simp at hns hnx; omega
                      rw [e0] at hK
                      have hww : ∀ b, b < w.heap.size → (¬ (Ob.sl (el, ti.size) m nl es).alive (G ob) ∨ b ≠ (G ob).blk) → (w.drew.alloc (.cells ((xs ++ xx).toArray ++ Builtin.zeroCells z.cells (grownCap w (ns + nx) cs el - (ns + nx))) el)).heap[b]? = w.heap[b]? := fun b hb _ => heap_alloc_lt w.drew _ hb
                      have hpp : (Ob.sl (el, ti.size) true false (es ++ ys)).alive ⟨w.drew.heap.size, 0, grownCap w (ns + nx) cs el, ti.size⟩ → ((Ob.sl (el, ti.size) m nl es).alive (G ob) ∧ (⟨w.drew.heap.size, 0, grownCap w (ns + nx) cs el, ti.size⟩ : Pl).blk = (G ob).blk) ∨ w.heap.size ≤ (⟨w.drew.heap.size, 0, grownCap w (ns + nx) cs el, ti.size⟩ : Pl).blk := fun _ => .inr (Nat.le_refl _)
                      obtain ⟨t1, t2, t3⟩ := hh.turn hob (ty' := (el, ti.size)) (m' := true) (nl' := false) (es' := es ++ ys) hww (by simp) hpp (hor _ _)
                      refine hn _ (killE ob e) _ _ I _ _ hK t1 (he.kill t3 t2 hbox harr hmp) ?_ (Tr.turn hob hww (by simp) hpp rfl rfl rfl (fun a => (frozen_alloc (w := w.drew) (show unfz (.cells _ _) from rfl) a).trans rfl))
                      have := LRel.own (w := w.drew.alloc (.cells ((xs ++ xx).toArray ++ Builtin.zeroCells z.cells (grownCap w (ns + nx) cs el - (ns + nx))) el)) (I := I) (G := setPl G ob ⟨w.drew.heap.size, 0, grownCap w (ns + nx) cs el, ti.size⟩) (h := (killH ob h).set ob (.sl (el, ti.size) true false (es ++ ys))) ob (el, ti.size) true (es ++ ys) (by simp [hlt])
                      rw [← hnl] at this
                      simpa [setPl] using this
                    -- nothing is appended, or there is room
                    have hself : ∀ i, setPl G ob (G ob) i = G i := fun i => by unfold setPl; split <;> simp_all
                    have hcase : (nl = true ∧ bs = none ∧ cs = 0 ∧ ns = 0) ∨ (nl = false ∧ bs = some ⟨(G ob).blk, (G ob).off, none⟩ ∧ cs = (G ob).cap) := by
                      rw [es1] at hu'
                      cases hu' with
                      | ownNil _ ty' m' es' g1 => rw [hob] at g1; cases g1; exact .inl ⟨rfl, rfl, rfl, rfl⟩
                      | own _ ty' m' es' g1 => rw [hob] at g1; cases g1; exact .inr ⟨rfl, rfl, rfl⟩
                    by_cases hcap : cs < ns + nx
                    · exact grow hcap
                    · rcases hcase with ⟨rfl, rfl, rfl, rfl⟩ | ⟨rfl, rfl, rfl⟩
                      · -- nil, and nothing
                        have hx0 : nx = 0 := by omega
                        have hye : ys = [] := List.eq_nil_of_length_eq_zero (by omega)
                        subst hye
                        simp only [ORel] at hor0; subst hor0
                        have hxe := rowNil hxx
                        subst hxe
                        subst hx0
                        refine key (by rw [es1, ex1]; exact run_append_none h0 h1 ht ht' hi (by rw [← ex1]; simpa using hfx w rfl) (Nat.le_refl _)) ?_
                        rw [show (true && ([] : List (List PV)).isEmpty) = true by simp, List.append_nil] at hK
                        have hww : ∀ b, b < w.heap.size → (¬ (Ob.sl (el, ti.size) m true []).alive (G ob) ∨ b ≠ (G ob).blk) → w.heap[b]? = w.heap[b]? := fun _ _ _ => rfl
                        have hpp : (Ob.sl (el, ti.size) true true []).alive (G ob) → ((Ob.sl (el, ti.size) m true []).alive (G ob) ∧ (G ob).blk = (G ob).blk) ∨ w.heap.size ≤ (G ob).blk := fun ha => by cases ha.1
                        obtain ⟨t1, t2, t3⟩ := hh.turn hob (ty' := (el, ti.size)) (m' := true) (nl' := true) (es' := []) hww (Nat.le_refl _) hpp rfl
                        exact hn _ (killE ob e) _ _ I _ _ hK t1 (he.kill t3 t2 hbox harr hmp) (.ownNil ob (el, ti.size) true [] (by simp [hlt])) (Tr.turn hob hww (Nat.le_refl _) hpp rfl rfl rfl (fun _ => rfl))
                      · rw [show (false && ys.isEmpty) = false from rfl] at hK
                        obtain ⟨q1, q2, q3, q3', q4, q5⟩ := hor0
                        by_cases hc0 : (G ob).cap = 0
                        · have hx0 : nx = 0 := by omega
                          have hn0 : ns = 0 := by omega
                          have hye : ys = [] := List.eq_nil_of_length_eq_zero (by omega)
                          subst hye
                          have hxe := rowNil hxx
                          subst hxe
                          have hee : es = [] := List.eq_nil_of_length_eq_zero (by omega)
                          subst hee
                          subst hx0
                          refine key (by rw [es1, ex1]; exact run_append_none h0 h1 ht ht' hi (by rw [← ex1]; simpa using hfx w rfl) (by omega)) ?_
                          rw [List.append_nil] at hK
                          have hna : ∀ m', ¬ (Ob.sl (el, ti.size) m' false []).alive (G ob) := fun _ ha => ha.2 hc0
                          have hww : ∀ b, b < w.heap.size → (¬ (Ob.sl (el, ti.size) m false []).alive (G ob) ∨ b ≠ (G ob).blk) → w.heap[b]? = w.heap[b]? := fun _ _ _ => rfl
                          have hpp : (Ob.sl (el, ti.size) true false []).alive (G ob) → ((Ob.sl (el, ti.size) m false []).alive (G ob) ∧ (G ob).blk = (G ob).blk) ∨ w.heap.size ≤ (G ob).blk := fun ha => absurd ha (hna _)
                          obtain ⟨t1, t2, t3⟩ := hh.turn hob (ty' := (el, ti.size)) (m' := true) (nl' := false) (es' := []) hww (Nat.le_refl _) hpp ⟨by simp, q2, q3, q3', fun i e he => by simp at he, fun hc => absurd hc0 hc⟩
                          refine hn _ (killE ob e) _ _ I _ _ hK t1 (he.kill t3 t2 hbox harr hmp) ?_ (Tr.turn hob hww (Nat.le_refl _) hpp rfl rfl rfl (fun _ => rfl))
                          have := LRel.own (w := w) (I := I) (G := setPl G ob (G ob)) (h := (killH ob h).set ob (.sl (el, ti.size) true false [])) ob (el, ti.size) true [] (by simp [hlt])
                          rw [hself] at this
                          subst hn0
                          simpa using this
                        · obtain ⟨vs, f1, f2, f3⟩ := q5 hc0
                          have hoff := q3 hc0
                          simp only at q3' f1
                          rw [q3'] at f2 f3
                          have hfit : ns * ti.size + xx.length ≤ vs.size := by
                            rw [hxx.len, f2, ← hnx, ← Nat.add_mul]
                            exact Nat.mul_le_mul_right _ (by omega)
                          refine key (by rw [es1, ex1, hoff]; exact run_append_in h0 h1 ht ht' hi f1 (by rw [← ex1]; exact hfx w rfl) (hxx.one hsz) (by omega) hfit) ?_
                          have hal : ∀ m' es', (Ob.sl (el, ti.size) m' false es').alive (G ob) := fun _ _ => ⟨rfl, hc0⟩
                          have hww : ∀ b, b < w.heap.size → (¬ (Ob.sl (el, ti.size) m false es).alive (G ob) ∨ b ≠ (G ob).blk) → (w.setRow (G ob).blk (vs.toList.take (ns * ti.size) ++ xx ++ vs.toList.drop (ns * ti.size + xx.length)).toArray).heap[b]? = w.heap[b]? := fun b _ hb => setRow_other _ _ _ _ (hb.resolve_left (fun hna => hna (hal _ _)))
                          have hpp : (Ob.sl (el, ti.size) true false (es ++ ys)).alive (G ob) → ((Ob.sl (el, ti.size) m false es).alive (G ob) ∧ (G ob).blk = (G ob).blk) ∨ w.heap.size ≤ (G ob).blk := fun _ => .inl ⟨hal _ _, rfl⟩
                          have hor : ORel (w.setRow (G ob).blk (vs.toList.take (ns * ti.size) ++ xx ++ vs.toList.drop (ns * ti.size + xx.length)).toArray) I (setPl G ob (G ob)) ((killH ob h).set ob (.sl (el, ti.size) true false (es ++ ys))) (G ob) (.sl (el, ti.size) true false (es ++ ys)) := by
                            have hk : Keeps w I (w.setRow (G ob).blk (vs.toList.take (ns * ti.size) ++ xx ++ vs.toList.drop (ns * ti.size + xx.length)).toArray) I := ⟨fun b hb hbs => hww b hbs (.inr fun e => hh.nI ob _ hob (hal _ _) (e ▸ hb)), fun _ x _ => x⟩
                            refine ⟨by simp; omega, q2, q3, q3', fun i e he => ?_, fun _ => ⟨_, setRow_heap w _ _ _ el _ f1, by rw [q3', ← f2]; simp; omega, fun i e he k v hv => ?_⟩⟩
                            · rw [q3']; exact (hxs.append hxx).el i e he
                            · rw [q3', getD_spl vs _ _ hfit]
                              by_cases hil : i < es.length
                              · rw [List.getElem?_append_left hil] at he
                                have hkl : k < ti.size := by have := (List.getElem?_eq_some_iff.1 hv).1; rwa [q4 _ _ he, q3'] at this
                                have : (i + 1) * ti.size ≤ ns * ti.size := Nat.mul_le_mul_right _ (by omega)
                                rw [Nat.add_mul] at this
                                rw [if_neg (by omega)]
                                exact ⟨(f3 i e he k v hv).1.mono hk.1 hk.2, (f3 i e he k v hv).2⟩
                              · rw [List.getElem?_append_right (by omega)] at he
                                have hkl : k < ti.size := by have := (List.getElem?_eq_some_iff.1 hv).1; rwa [hxx.el _ _ he] at this
                                have hil2 := (List.getElem?_eq_some_iff.1 he).1
                                have e3 : i * ti.size = ns * ti.size + (i - es.length) * ti.size := by rw [← Nat.add_mul]; congr 1; omega
                                have : (i - es.length + 1) * ti.size ≤ ys.length * ti.size := Nat.mul_le_mul_right _ hil2
                                rw [Nat.add_mul] at this
                                rw [if_pos (by rw [hxx.len]; omega)]
                                have := hxx.rep _ _ k v he hv
                                rw [show i * ti.size + k - ns * ti.size = (i - es.length) * ti.size + k by omega]
                                exact ⟨this.1.mono hk.1 hk.2, this.2⟩
                          obtain ⟨t1, t2, t3⟩ := hh.turn hob (ty' := (el, ti.size)) (m' := true) (nl' := false) (es' := es ++ ys) hww (by rw [setRow_size']; exact Nat.le_refl _) hpp hor
                          refine hn _ (killE ob e) _ _ I _ _ hK t1 (he.kill t3 t2 hbox harr hmp) ?_ (Tr.turn hob hww (by rw [setRow_size']; exact Nat.le_refl _) hpp rfl rfl rfl (frozen_setRow _ _ _))
                          have := LRel.own (w := w.setRow (G ob).blk (vs.toList.take (ns * ti.size) ++ xx ++ vs.toList.drop (ns * ti.size + xx.length)).toArray) (I := I) (G := setPl G ob (G ob)) (h := (killH ob h).set ob (.sl (el, ti.size) true false (es ++ ys))) ob (el, ti.size) true (es ++ ys) (by simp [hlt])
                          rw [hself, ← hnl, hoff] at this
                          exact this
                · cases hK
              · cases hK
            · cases hK
          · cases hK
      · cases hK
    · cases hK
  · cases hK
end Go.Eng
set_option linter.unusedVariables false
set_option linter.unusedSimpArgs false
namespace Go.Eng
open Go
/-- A local value as a tree: what it holds now. -/
def toPV1 (h : Hp) : LV → Option PV
  | .pv v => some v
  | .own o => match h[o]? with | some (.sl _ _ n es) => some (.sl n false es) | _ => none
  | .sub o a b => match h[o]? with | some (.sl _ _ n es) => some (.sl n false ((es.drop a).take (b - a))) | _ => none
  | .elt o i off => match h[o]? with | some (.sl _ _ _ es) => some (.ptr ((es.getD i []).drop off)) | _ => none
  | .box o off => match h[o]? with
    | some (.arr cs) => some (.ptr (cs.drop off))
    | some (.box cs) => match allPV cs with | some ps => some (.ptr (ps.drop off)) | none => none
    | _ => none
  | .mp o => match h[o]? with | some (.mp kvs) => some (.mp kvs) | _ => none
  | _ => none
def toPVs (f : LV → Option PV) : List LV → Option (List PV)
  | [] => some []
  | v :: r => match f v, toPVs f r with
    | some p, some ps => some (p :: ps)
    | _, _ => none
/-- Boxes whose cells are themselves local. -/
def toPV2 (h : Hp) : LV → Option PV
  | .box o off => match h[o]? with
    | some (.box cs) => match toPVs (toPV1 h) cs with | some ps => some (.ptr (ps.drop off)) | none => none
    | _ => toPV1 h (.box o off)
  | .agg cs => match toPVs (toPV1 h) cs with | some ps => some (.agg ps) | none => none
  | .fn f cs => match toPVs (toPV1 h) cs with | some ps => some (.fn f ps) | none => none
  | v => toPV1 h v
def toPV (h : Hp) : LV → Option PV
  | .tup vs => match toPVs (toPV2 h) vs with | some ps => some (.tup ps) | none => none
  | .fn f cs => match toPVs (toPV2 h) cs with | some ps => some (.fn f ps) | none => none
  | .box o off => match h[o]? with
    | some (.box cs) => match toPVs (toPV2 h) cs with | some ps => some (.ptr (ps.drop off)) | none => none
    | _ => toPV2 h (.box o off)
  | v => toPV2 h v

theorem toPVs_get {f : LV → Option PV} : ∀ {l : List LV} {ps : List PV}, toPVs f l = some ps → l.length = ps.length ∧ ∀ (k : Nat) p, ps[k]? = some p → ∃ v, l[k]? = some v ∧ f v = some p
  | [], ps, h => by cases h; exact ⟨rfl, fun k p hk => by simp at hk⟩
  | v :: r, ps, h => by
    unfold toPVs at h
    split at h
    · rename_i p q h1 h2
      cases h
      obtain ⟨h3, h4⟩ := toPVs_get h2
      refine ⟨by simp [h3], fun k u hk => ?_⟩
      cases k with
      | zero => simp at hk; subst hk; exact ⟨v, rfl, h1⟩
      | succ k => simp at hk; simpa using h4 k u hk
    · cases h

/-- All that stands, and what the objects own. -/
def AllB (I : Nat → Prop) (h : Hp) (G : Nat → Pl) (b : Nat) : Prop := I b ∨ Owns h G b
theorem AllB.keeps (w : World) (I : Nat → Prop) (h : Hp) (G : Nat → Pl) : Keeps w I w (AllB I h G) := ⟨fun _ _ _ => rfl, fun _ x _ => .inl x⟩

section
variable {w : World} {I : Nat → Prop} {G : Nat → Pl} {h : Hp}
theorem slTree (hh : HRel w I G h) {o : Nat} {ty : Nat × Nat} {m : Bool} {es : List (List PV)} (ho : h[o]? = some (.sl ty m false es)) {a n cap off : Nat} (hle : a + n ≤ es.length) (hn : n ≤ cap)
    (hoff : 0 < n → off = (G o).off + a * (G o).sz) :
    Rep w (AllB I h G) (.sl false false ((es.drop a).take n)) (.slice (some ⟨(G o).blk, off, none⟩) n cap) := by
  obtain ⟨q1, q2, q3, q3', q4, q5⟩ := hh.obs _ _ ho
  have hlen : ((es.drop a).take n).length = n := by simp; omega
  have hget : ∀ (i : Nat) e, ((es.drop a).take n)[i]? = some e → es[a + i]? = some e ∧ i < n := fun i e hi => by
    rw [List.getElem?_take] at hi
    split at hi
    · rw [List.getElem?_drop] at hi; exact ⟨hi, by assumption⟩
    · cases hi
  have hcap : ∀ {i : Nat} {e}, es[a + i]? = some e → (G o).cap ≠ 0 := fun {i e} he => by have := (List.getElem?_eq_some_iff.1 he).1; omega
  have cellv : ∀ (i : Nat) e (k : Nat) v, ((es.drop a).take n)[i]? = some e → e[k]? = some v → ∃ cv, w.cell? ⟨(G o).blk, off + i * (G o).sz + k, none⟩ = some cv ∧ Rep w I v cv ∧ cv.oneCell' = true := fun i e k v he hk => by
    obtain ⟨hg, hi⟩ := hget i e he
    have hc := hcap hg
    obtain ⟨vs, f1, f2, f3⟩ := q5 hc
    have hkl : k < (G o).sz := by have := (List.getElem?_eq_some_iff.1 hk).1; rwa [q4 _ _ hg] at this
    have hmul : (a + i + 1) * (G o).sz ≤ (G o).cap * (G o).sz := Nat.mul_le_mul_right _ (by omega)
    rw [Nat.add_mul (a + i)] at hmul
    have := f3 _ _ hg k v hk
    refine ⟨_, ?_, this.1, this.2⟩
    rw [hoff (by omega), q3 hc, show 0 + a * (G o).sz + i * (G o).sz + k = (a + i) * (G o).sz + k by rw [Nat.add_mul]; omega]
    exact cells_of_row f1 (by omega)
  have := Rep.sl (w := w) (I := AllB I h G) false ((es.drop a).take n) (G o).blk off cap (G o).sz (fun i k => (w.cell? ⟨(G o).blk, off + i * (G o).sz + k, none⟩).getD undef) (by omega) (fun hf => by cases hf) (fun i e he => by
      have hc := hcap (hget i e he).1
      have hown : Owns h G (G o).blk := ⟨o, _, ho, ⟨rfl, hc⟩, rfl⟩
      exact ⟨.inr hown, hh.blk_lt hown⟩) (fun i e he => q4 _ _ (hget i e he).1)
    (fun i e k v he hk => by obtain ⟨cv, c1, _⟩ := cellv i e k v he hk; rw [c1]; rfl)
    (fun i e k v he hk => by obtain ⟨cv, c1, c2, _⟩ := cellv i e k v he hk; rw [c1]; exact c2.mono (AllB.keeps w I h G).1 (AllB.keeps w I h G).2)
    (fun i e k v he hk => by obtain ⟨cv, c1, _, c3⟩ := cellv i e k v he hk; rw [c1]; exact c3)
  rwa [hlen] at this

theorem Rep.drop {J : Nat → Prop} {cs : List PV} {b off : Nat} (hr : Rep w J (.ptr cs) (.pointer (some ⟨b, off, none⟩))) (k : Nat) : Rep w J (.ptr (cs.drop k)) (.pointer (some ⟨b, off + k, none⟩)) := by
  cases hr with
  | ptr _ _ _ c h3 h5 h6 h7 =>
    refine .ptr _ b (off + k) (fun i => c (k + i)) h3 (fun i v hv => ?_) (fun i v hv => ?_) (fun i v hv => ?_) <;> rw [List.getElem?_drop] at hv
    · rw [show off + k + i = off + (k + i) by omega]; exact h5 _ v hv
    · exact h6 _ v hv
    · exact h7 _ v hv

theorem toPV1_ok (hh : HRel w I G h) {v : LV} {cv : Value} (hr : LRel w I G h v cv) {p : PV} (hp : toPV1 h v = some p) : Rep w (AllB I h G) p cv := by
  have hk := AllB.keeps w I h G
  cases hr with
  | bot => simp [toPV1] at hp
  | pv q _ h1 => simp [toPV1] at hp; subst hp; exact h1.mono hk.1 hk.2
  | ownNil o ty m es h1 =>
    have := hh.obs _ _ h1
    simp only [ORel] at this; subst this
    simp [toPV1, h1] at hp; subst hp
    exact .slnil false
  | own o ty m es h1 =>
    simp [toPV1, h1] at hp; subst hp
    have hq := (hh.obs _ _ h1).1
    have := slTree hh h1 (a := 0) (n := es.length) (cap := (G o).cap) (off := (G o).off) (by omega) hq (fun _ => by omega)
    simpa using this
  | subNil o a b ty m es h1 h2 =>
    have := hh.obs _ _ h1
    simp only [ORel] at this; subst this; subst h2
    simp [toPV1, h1] at hp; subst hp
    exact .slnil false
  | sub o a b cap off ty m es h1 h2 h3 h4 h5 =>
    simp [toPV1, h1] at hp; subst hp
    exact slTree hh h1 (by omega) h4 (fun hlt => h5 (by omega))
  | elt o i off ty m es h1 h2 =>
    simp [toPV1, h1] at hp; subst hp
    obtain ⟨q1, q2, q3, q3', q4, q5⟩ := hh.obs _ _ h1
    have hc : (G o).cap ≠ 0 := by omega
    obtain ⟨vs, f1, f2, f3⟩ := q5 hc
    have hown : Owns h G (G o).blk := ⟨o, _, h1, ⟨rfl, hc⟩, rfl⟩
    have hget : es[i]? = some es[i] := List.getElem?_eq_getElem h2
    have hptr : Rep w (AllB I h G) (.ptr es[i]) (.pointer (some ⟨(G o).blk, (G o).off + i * (G o).sz, none⟩)) := by
      have hkk : ∀ (k : Nat) v, es[i][k]? = some v → k < (G o).sz := fun k v hv => by have := (List.getElem?_eq_some_iff.1 hv).1; rwa [q4 _ _ hget] at this
      refine .ptr _ _ _ (fun k => vs.getD (i * (G o).sz + k) undef) ⟨.inr hown, hh.blk_lt hown⟩ (fun k v hv => ?_) (fun k v hv => (f3 _ _ hget k v hv).1.mono hk.1 hk.2) (fun k v hv => (f3 _ _ hget k v hv).2)
      have hmul : (i + 1) * (G o).sz ≤ (G o).cap * (G o).sz := Nat.mul_le_mul_right _ (by omega)
      rw [Nat.add_mul] at hmul
      have := hkk k v hv
      rw [q3 hc, show 0 + i * (G o).sz + k = i * (G o).sz + k by omega]
      exact cells_of_row f1 (by omega)
    simpa [List.getD, h2] using hptr.drop off
  | box o off cs h1 =>
    simp only [toPV1, h1] at hp
    cases hc : allPV cs with
    | none => rw [hc] at hp; cases hp
    | some ps =>
      rw [hc] at hp; cases hp
      have hcs := allPV_eq hc
      subst hcs
      obtain ⟨vs, ty, f1, f2, f3⟩ := hh.obs _ _ h1
      have hown : Owns h G (G o).blk := ⟨o, _, h1, trivial, rfl⟩
      simp only [List.length_map] at f2
      have f3' : ∀ (k : Nat) v, ps[k]? = some v → Rep w I v (vs.getD ((G o).off + k) undef) ∧ (vs.getD ((G o).off + k) undef).oneCell' = true := fun k v hv => by
        have := f3 k (.pv v) (by simp [hv])
        refine ⟨?_, this.2⟩
        have h3 := this.1
        generalize vs.getD ((G o).off + k) undef = cu at h3
        cases h3; assumption
      refine Rep.drop (.ptr ps _ _ (fun k => vs.getD ((G o).off + k) undef) ⟨.inr hown, hh.blk_lt hown⟩ (fun k v hv => cells_of_row f1 ?_) (fun k v hv => (f3' k v hv).1.mono hk.1 hk.2) (fun k v hv => (f3' k v hv).2)) off
      have := (List.getElem?_eq_some_iff.1 hv).1
      omega
  | arr o off cs h1 =>
    simp [toPV1, h1] at hp; subst hp
    obtain ⟨vs, ty, f1, f2, f3⟩ := hh.obs _ _ h1
    have hown : Owns h G (G o).blk := ⟨o, _, h1, trivial, rfl⟩
    refine Rep.drop (.ptr cs _ _ (fun k => vs.getD ((G o).off + k) undef) ⟨.inr hown, hh.blk_lt hown⟩ (fun k v hv => cells_of_row f1 ?_) (fun k v hv => (f3 k v hv).1.mono hk.1 hk.2) (fun k v hv => (f3 k v hv).2)) off
    have := (List.getElem?_eq_some_iff.1 hv).1
    omega
  | agg => simp [toPV1] at hp
  | tup => simp [toPV1] at hp
  | fn => simp [toPV1] at hp
  | mp o kvs h1 =>
    simp [toPV1, h1] at hp; subst hp
    obtain ⟨es, ck, f1, f2, f3⟩ := hh.obs _ _ h1
    have hown : Owns h G (G o).blk := ⟨o, _, h1, trivial, rfl⟩
    exact .mp kvs _ ck es ⟨.inr hown, hh.blk_lt hown⟩ f1 f2 (fun i kv hv => (f3 i kv hv).1.mono hk.1 hk.2) (fun i kv hv => (f3 i kv hv).2.mono hk.1 hk.2)
/-- Of a box whose cells a function tells as trees. -/
theorem boxTree (hh : HRel w I G h) {f : LV → Option PV} (hf : ∀ v cv p, LRel w I G h v cv → f v = some p → Rep w (AllB I h G) p cv) {o : Nat} {cs : List LV} (h1 : h[o]? = some (.box cs)) {ps : List PV} (hp : toPVs f cs = some ps) (off : Nat) :
    Rep w (AllB I h G) (.ptr (ps.drop off)) (.pointer (some ⟨(G o).blk, (G o).off + off, none⟩)) := by
  obtain ⟨e1, e2⟩ := toPVs_get hp
  obtain ⟨vs, ty, f1, f2, f3⟩ := hh.obs _ _ h1
  have hown : Owns h G (G o).blk := ⟨o, _, h1, trivial, rfl⟩
  have f3' : ∀ (k : Nat) v, ps[k]? = some v → Rep w (AllB I h G) v (vs.getD ((G o).off + k) undef) ∧ (vs.getD ((G o).off + k) undef).oneCell' = true := fun k v hv => by
    obtain ⟨u, g1, g2⟩ := e2 k v hv
    exact ⟨hf _ _ _ (f3 k u g1).1 g2, (f3 k u g1).2⟩
  refine Rep.drop (.ptr ps _ _ (fun k => vs.getD ((G o).off + k) undef) ⟨.inr hown, hh.blk_lt hown⟩ (fun k v hv => cells_of_row f1 ?_) (fun k v hv => (f3' k v hv).1) (fun k v hv => (f3' k v hv).2)) off
  have := (List.getElem?_eq_some_iff.1 hv).1
  omega
theorem toPV2_ok (hh : HRel w I G h) {v : LV} {cv : Value} (hr : LRel w I G h v cv) {p : PV} (hp : toPV2 h v = some p) : Rep w (AllB I h G) p cv := by
  cases v
  case box o off =>
    simp only [toPV2] at hp
    split at hp
    · rename_i cs hcs
      split at hp
      · rename_i ps hps
        cases hp
        cases hr with
        | box _ _ cs' h1 => rw [hcs] at h1; cases h1; exact boxTree hh (fun v cv p h1 h2 => toPV1_ok hh h1 h2) hcs hps off
        | arr _ _ cs' h1 => rw [hcs] at h1; cases h1
      · cases hp
    · exact toPV1_ok hh hr hp
  case agg cs =>
    simp only [toPV2] at hp
    split at hp
    · rename_i ps hps
      cases hp
      obtain ⟨e1, e2⟩ := toPVs_get hps
      cases hr with
      | agg _ vs h1 h6 h7 =>
        refine .agg ps vs (by omega) (fun k v hv => ?_) (fun k v hv => ?_) <;> obtain ⟨u, g1, g2⟩ := e2 k v hv
        · exact toPV1_ok hh (h6 k u g1) g2
        · exact h7 k u g1
    · cases hp
  case fn f cs =>
    simp only [toPV2] at hp
    split at hp
    · rename_i ps hps
      cases hp
      obtain ⟨e1, e2⟩ := toPVs_get hps
      cases hr with
      | fn _ _ vs h1 h6 =>
        refine .fn f ps vs (by omega) (fun k v hv => ?_)
        obtain ⟨u, g1, g2⟩ := e2 k v hv
        exact toPV1_ok hh (h6 k u g1) g2
    · cases hp
  all_goals exact toPV1_ok hh hr hp
theorem toPV_ok (hh : HRel w I G h) {v : LV} {cv : Value} (hr : LRel w I G h v cv) {p : PV} (hp : toPV h v = some p) : Rep w (AllB I h G) p cv := by
  cases v
  case box o off =>
    simp only [toPV] at hp
    split at hp
    · rename_i cs hcs
      split at hp
      · rename_i ps hps
        cases hp
        cases hr with
        | box _ _ cs' h1 => rw [hcs] at h1; cases h1; exact boxTree hh (fun v cv p h1 h2 => toPV2_ok hh h1 h2) hcs hps off
        | arr _ _ cs' h1 => rw [hcs] at h1; cases h1
      · cases hp
    · exact toPV2_ok hh hr hp
  case tup cs =>
    simp only [toPV] at hp
    split at hp
    · rename_i ps hps
      cases hp
      obtain ⟨e1, e2⟩ := toPVs_get hps
      cases hr with
      | tup _ vs h1 h6 =>
        refine .tup ps vs (by omega) (fun k v hv => ?_)
        obtain ⟨u, g1, g2⟩ := e2 k v hv
        exact toPV2_ok hh (h6 k u g1) g2
    · cases hp
  case fn f cs =>
    simp only [toPV] at hp
    split at hp
    · rename_i ps hps
      cases hp
      obtain ⟨e1, e2⟩ := toPVs_get hps
      cases hr with
      | fn _ _ vs h1 h6 =>
        refine .fn f ps vs (by omega) (fun k v hv => ?_)
        obtain ⟨u, g1, g2⟩ := e2 k v hv
        exact toPV2_ok hh (h6 k u g1) g2
    · cases hp
  all_goals exact toPV2_ok hh hr hp

theorem toPVs_ok (hh : HRel w I G h) {vs : List LV} {ps : List PV} (hp : toPVs (toPV h) vs = some ps) {cargs : Array Value} (hr : ∀ (i : Nat) v, vs[i]? = some v → LRel w I G h v (cargs.getD i undef)) :
    vs.length = ps.length ∧ ∀ (i : Nat) p, ps[i]? = some p → Rep w (AllB I h G) p (cargs.getD i undef) := by
  obtain ⟨h1, h2⟩ := toPVs_get hp
  exact ⟨h1, fun i p hi => by obtain ⟨v, g1, g2⟩ := h2 i p hi; exact toPV_ok hh (hr i v g1) g2⟩
end
theorem HRel.nil {w : World} {I : Nat → Prop} (G : Nat → Pl) (h : ∀ b, I b → b < w.heap.size) : HRel w I G [] :=
  ⟨fun o ob ho => by simp at ho, fun o o' ob ob' ho => by simp at ho, fun o ob ho => by simp at ho, h⟩
/-- Blocks that none of the objects has do not concern them. -/
theorem HRel.keep {w w' : World} {I I' : Nat → Prop} {G : Nat → Pl} {h : Hp} (hh : HRel w I G h) (hw : ∀ b, b < w.heap.size → w'.heap[b]? = w.heap[b]?) (hI : ∀ b, I b → I' b) (hI2 : ∀ b, I' b → I b ∨ w.heap.size ≤ b)
    (hc : ∀ b, I' b → b < w'.heap.size) : HRel w' I' G h := by
  have hk : Keeps w I w' I' := ⟨fun b hb hbs => hw b hbs, fun b hb _ => hI b hb⟩
  have blk : ∀ (i : Nat) x, h[i]? = some x → x.alive (G i) → (G i).blk < w.heap.size := fun i x hx ha => hh.blk_lt ⟨i, x, hx, ha, rfl⟩
  refine ⟨fun i x hx => ?_, hh.sep, fun i x hx ax hI' => ?_, hc⟩
  · have := hh.obs i x hx
    cases x with
    | dead => trivial
    | box cs => obtain ⟨vs, ty, e1, e2, e3⟩ := this; exact ⟨vs, ty, by rw [hw _ (blk i _ hx trivial)]; exact e1, e2, fun k v hv => ⟨(e3 k v hv).1.mono hk (.refl _ _), (e3 k v hv).2⟩⟩
    | arr cs => obtain ⟨vs, ty, e1, e2, e3⟩ := this; exact ⟨vs, ty, by rw [hw _ (blk i _ hx trivial)]; exact e1, e2, fun k v hv => ⟨(e3 k v hv).1.mono hk.1 hk.2, (e3 k v hv).2⟩⟩
    | sl ty m n es =>
      cases n with
      | true => exact this
      | false =>
        obtain ⟨e1, e2, e3, e3', e4, e5⟩ := this
        refine ⟨e1, e2, e3, e3', e4, fun hc => ?_⟩
        obtain ⟨vs, f1, f2, f3⟩ := e5 hc
        exact ⟨vs, by rw [hw _ (blk i _ hx ⟨rfl, hc⟩)]; exact f1, f2, fun i' e he k v hv => ⟨(f3 i' e he k v hv).1.mono hk.1 hk.2, (f3 i' e he k v hv).2⟩⟩
    | mp kvs => obtain ⟨es, ck, e1, e2, e3⟩ := this; exact ⟨es, ck, by rw [hw _ (blk i _ hx trivial)]; exact e1, e2, fun k kv hv => ⟨(e3 k kv hv).1.mono hk.1 hk.2, (e3 k kv hv).2.mono hk.1 hk.2⟩⟩
  · rcases hI2 _ hI' with hb | hb
    · exact hh.nI i x hx ax hb
    · have := blk i x hx ax; omega

def scal1 : PV → Bool
  | .int _ _ => true
  | .bool _ => true
  | .unit => true
  | _ => false
def scal : PV → Bool
  | .tup vs => vs.all scal1
  | v => scal1 v
theorem scal1_rep {w w' : World} {J J' : Nat → Prop} {v : PV} {cv : Value} (h : scal1 v = true) (hr : Rep w J v cv) : Rep w' J' v cv := by
  cases hr <;> simp [scal1] at h <;> constructor
theorem scal_rep {w w' : World} {J J' : Nat → Prop} {v : PV} {cv : Value} (h : scal v = true) (hr : Rep w J v cv) : Rep w' J' v cv := by
  cases hr with
  | tup cs vs h1 h6 =>
    simp only [scal, List.all_eq_true] at h
    exact .tup cs vs h1 fun k v hv => scal1_rep (h v (List.mem_of_getElem? hv)) (h6 k v hv)
  | unit => exact .unit
  | int k n => exact .int k n
  | bool b => exact .bool b
  | _ => simp [scal, scal1] at h

theorem run_callFunc {P : Program} {w : World} {f : Nat} {args : Array Value} (hc : callable P f) : (callFunc f args).run P w = .ok (.enter f args) w := by
  obtain ⟨fn, h1, h2, h3⟩ := hc
  unfold callFunc
  simp only [Sem.run_bind, run_program, Result.andThen_ok, h1, h3, h2, Bool.false_eq_true, if_false, Sem.run_ite, Sem.run_pure]

/-- What a call hands back, by its type. -/
def tupK (f : TypeId → PV → (PV → Prop) → Prop) : List TypeId → List PV → (List PV → Prop) → Prop
  | [], _, K => K []
  | t :: ts, vs, K => ∃ x, vs.head? = some x ∧ f t x fun y => tupK f ts vs.tail fun r => K (y :: r)
def resK (P : Program) : Nat → TypeId → PV → (PV → Prop) → Prop
  | 0, _, v, K => K v
  | d + 1, t, v, K =>
    match P.underlying t with
    | some (.int k) => ∃ n, v = .int k n ∧ K (.int k n)
    | some .bool => ∃ b, v = .bool b ∧ K (.bool b)
    | some (.slice _) => ∃ n f es, v = .sl n f es ∧ K (.sl n f es)
    | some (.struct _) => match kinds P 8 t with
      | some ks => ∃ cs, v = .agg cs ∧ cs.length = ks.length ∧ ldK ks cs fun r => K (.agg r)
      | none => K v
    | some (.tuple ts) => ∃ vs, v = .tup vs ∧ vs.length = ts.toList.length ∧ tupK (resK P d) ts.toList vs fun r => K (.tup r)
    | _ => K v
theorem resK_ok {P : Program} : ∀ {d : Nat} {t : TypeId} {v : PV} {K : PV → Prop}, resK P d t v K → K v := by
  intro d
  induction d with
  | zero => exact fun h => h
  | succ d ih =>
    have tup : ∀ {ts : List TypeId} {vs : List PV} {K : List PV → Prop}, vs.length = ts.length → tupK (resK P d) ts vs K → K vs := by
      intro ts
      induction ts with
      | nil => intro vs K hl h; cases vs with | nil => exact h | cons => simp at hl
      | cons t ts iht =>
        intro vs K hl h
        obtain ⟨x, h1, h2⟩ := h
        cases vs with
        | nil => simp at h1
        | cons y vs =>
          simp at h1; subst h1
          exact iht (vs := vs) (K := fun r => K (y :: r)) (by simpa using hl) (ih h2)
    intro t v K h
    unfold resK at h
    split at h
    · obtain ⟨n, rfl, h⟩ := h; exact h
    · obtain ⟨n, rfl, h⟩ := h; exact h
    · obtain ⟨n, f, es, rfl, h⟩ := h; exact h
    · split at h
      · rename_i ks hks
        obtain ⟨cs, rfl, hl, h⟩ := h
        obtain ⟨r, h1, h2, h3⟩ := ldK_ok h
        have : r = cs := List.ext_getElem? fun i => by
          by_cases hi : i < r.length
          · have := h3 i r[i] (by simp [hi]); rw [this]; simp [hi]
          · rw [List.getElem?_eq_none (by omega), List.getElem?_eq_none (by omega)]
        subst this; exact h1
      · exact h
    · obtain ⟨vs, rfl, hl, h⟩ := h; exact tup hl h
    · exact h

/-- A call, over trees. -/
def aCallT (P : Program) (e : Env) (h : Hp) (ty : TypeId) (f : Nat) (vs : List LV) (K : Kt) : Prop :=
  match allPV vs with
  | some ps => PCall P f ps fun v => resK P 4 ty v fun v => K (.pv v) e h
  | none => match toPVs (toPV h) vs with
    | some ps => PCall P f ps fun v => resK P 4 ty v fun v => scal v = true ∧ K (.pv v) e h
    | none => False
def fnOf : LV → Option (Nat × List LV)
  | .pv (.fn f caps) => some (f, caps.map .pv)
  | .fn f caps => some (f, caps)
  | _ => none
theorem fnOf_ok {w : World} {I : Nat → Prop} {G : Nat → Pl} {h : Hp} {u : LV} {cv : Value} (hr : LRel w I G h u cv) {f : Nat} {caps : List LV} (hf : fnOf u = some (f, caps)) :
    ∃ cc : Array Value, cv = .func (.func f) #[] cc ∧ cc.size = caps.length ∧ ∀ (k : Nat) v, caps[k]? = some v → LRel w I G h v (cc.getD k undef) := by
  cases hr with
  | pv p _ h1 =>
    cases h1 with
    | fn f' cs vs e1 e2 =>
      simp [fnOf] at hf
      obtain ⟨rfl, rfl⟩ := hf
      refine ⟨vs, rfl, by simpa using e1, fun k v hv => ?_⟩
      rw [List.getElem?_map] at hv
      cases hc : cs[k]? with
      | none => rw [hc] at hv; cases hv
      | some c => rw [hc] at hv; cases hv; exact .pv _ _ (e2 k c hc)
    | _ => simp [fnOf] at hf
  | fn f' cs vs e1 e2 =>
    simp [fnOf] at hf
    obtain ⟨rfl, rfl⟩ := hf
    exact ⟨vs, rfl, e1, e2⟩
  | _ => simp [fnOf] at hf

/-- The values of a call's arguments, and of what its function captured. -/
theorem run_callVal {P : Program} {o : Oper} {c : Call} {fo : Operand} (ho : o.op = .call c) (hc : c.callee = .value fo) {a : Act} {w : World} {f : Nat} {cc : Array Value} (hf : a.eval fo = .func (.func f) #[] cc) (hcl : callable P f) :
    (execOp a.eval o).run P w = .ok (.enter f (c.args.map a.eval ++ cc)) w := by
  unfold execOp; rw [ho]
  show (do let d ← resolve a.eval c o.type; invoke d.target d.args : Sem Next).run P w = _
  unfold resolve
  simp only [hc, hf, Deferred.ofValue, Sem.run_bind, Sem.run_pure, Result.andThen_ok, invoke, Array.empty_append, run_callFunc hcl]
theorem args_rel {w : World} {I : Nat → Prop} {G : Nat → Pl} {h : Hp} {a : Act} {e : Env} (he : ERel w I G h e a.tmps) {c : Call} {vs caps : List LV} (hv : opvs [] e c.args.toList = some vs) {cc : Array Value}
    (hs : cc.size = caps.length) (hcr : ∀ (k : Nat) v, caps[k]? = some v → LRel w I G h v (cc.getD k undef)) :
    (c.args.map a.eval ++ cc).size = (vs ++ caps).length ∧ ∀ (i : Nat) v, (vs ++ caps)[i]? = some v → LRel w I G h v ((c.args.map a.eval ++ cc).getD i undef) := by
  obtain ⟨h1, h2⟩ := opvs_ok he (AOK.nil _) hv
  have hsz : (c.args.map a.eval).size = vs.length := by simpa using h1
  refine ⟨by simp [hs]; simpa using h1, fun i v hi => ?_⟩
  rw [Array.getD_eq_getD_getElem?]
  by_cases hlt : i < vs.length
  · rw [List.getElem?_append_left hlt] at hi
    rw [Array.getElem?_append_left (by omega)]
    have := h2 i v hi
    have e1 : (c.args.toList.map a.eval).getD i undef = ((c.args.map a.eval)[i]?).getD undef := by simp
    rw [e1] at this; exact this
  · rw [List.getElem?_append_right (by omega)] at hi
    rw [Array.getElem?_append_right (by omega), hsz]
    have := hcr _ v hi
    rwa [Array.getD_eq_getD_getElem?] at this

theorem aCallT_okK {P : Program} {o : Oper} {e : Env} {h : Hp} {K : Kt} {c : Call} {fo : Operand} {u : LV} {f : Nat} {caps vs : List LV} (ho : o.op = .call c) (hc : c.callee = .value fo) (hu : opv [] e fo = some u) (hf : fnOf u = some (f, caps))
    (hv : opvs [] e c.args.toList = some vs) (hK : aCallT P e h o.type f (vs ++ caps) K) : OpK P o e h K := by
  unfold aCallT at hK
  have fin : ∀ (w : World) (I : Nat → Prop) (G : Nat → Pl) (a : Act) (next : Act → World → Prop) (Qx : Exit → Act → World → Prop), HRel w I G h → ERel w I G h e a.tmps →
      callable P f → (∀ cc : Array Value, cc.size = caps.length → (∀ (k : Nat) v, caps[k]? = some v → LRel w I G h v (cc.getD k undef)) → Calls P f (c.args.map a.eval ++ cc) w fun en w' => ∃ cv, en = .returned cv ∧ next (a.put o.dst cv) w') → o.wp P a w next Qx := by
    intro w I G a next Qx hh he hcl hcalls
    obtain ⟨cc, e1, e2, e3⟩ := fnOf_ok (opv_ok he (AOK.nil _) hu) hf
    unfold Oper.wp
    rw [run_callVal ho hc e1 hcl]
    exact (hcalls cc e2 e3).mono fun en w' ⟨cv, h1, h2⟩ => by subst h1; exact h2
  have hno : ∀ G b, ¬ Owns [] G b := fun G b ⟨o, ob, ho, _⟩ => by simp at ho
  have finA : ∀ (w : World) (I : Nat → Prop) (G : Nat → Pl) (a : Act) (next : Act → World → Prop), HRel w I G h → ERel w I G h e a.tmps →
      (∀ v e' h' w' I' G' cv, K v e' h' → HRel w' I' G' h' → ERel w' I' G' h' e' a.tmps → LRel w' I' G' h' v cv → Tr w I (Owns h G) w' I' (Owns h' G') → KA w w' → next (a.put o.dst cv) w') →
      ∀ (cv : Value) (r : LV) (h' : Hp) (I' : Nat → Prop) (G' : Nat → Pl) (v : PV) (w' : World), r = .pv v → K (.pv v) e h → HRel w' I' G' h' → LRel w' I' G' h' r cv → Tr w I (Owns [] G) w' I' (Owns h' G') → next (a.put o.dst cv) w' := by
    intro w I G a next hh he hn cv r h' I' G' v w' q2 q3 q4 q5 q6
    subst q2
    have hw : ∀ b, b < w.heap.size → w'.heap[b]? = w.heap[b]? := fun b hb => q6.keep b hb (hno G b)
    have hI2 : ∀ b, I' b → I b ∨ w.heap.size ≤ b := fun b hb => (q6.i2 b hb).elim .inl (fun x => x.elim (fun x => absurd x (hno G b)) .inr)
    have hH := hh.keep hw q6.i1 hI2 q4.cl
    refine hn _ e h w' I' G cv q3 hH (he.mono ⟨fun b _ hb => hw b hb, fun b hb _ => q6.i1 b hb⟩ (.refl _ _)) ?_ ⟨q6.os, q6.tape, q6.output, q6.size, fun b hb _ => hw b hb, q6.i1, fun b hb => (hI2 b hb).elim .inl (fun x => .inr (.inr x)), fun b hb => .inl hb, q6.frz⟩ ⟨q6.size, hw⟩
    cases q5 with | pv _ _ h1 => exact .pv _ _ h1
  have finB : ∀ (w : World) (I : Nat → Prop) (G : Nat → Pl) (a : Act) (next : Act → World → Prop), HRel w I G h → ERel w I G h e a.tmps →
      (∀ v e' h' w' I' G' cv, K v e' h' → HRel w' I' G' h' → ERel w' I' G' h' e' a.tmps → LRel w' I' G' h' v cv → Tr w I (Owns h G) w' I' (Owns h' G') → KA w w' → next (a.put o.dst cv) w') →
      ∀ (cv : Value) (r : LV) (h' : Hp) (I' : Nat → Prop) (G' : Nat → Pl) (v : PV) (w' : World), r = .pv v → scal v = true → K (.pv v) e h → HRel w' I' G' h' → LRel w' I' G' h' r cv → Tr w (AllB I h G) (Owns [] G) w' I' (Owns h' G') → next (a.put o.dst cv) w' := by
    intro w I G a next hh he hn cv r h' I' G' v w' q2 q2' q3 q4 q5 q6
    subst q2
    have hw : ∀ b, b < w.heap.size → w'.heap[b]? = w.heap[b]? := fun b hb => q6.keep b hb (hno G b)
    have hH := hh.keep (w' := w') (I' := I) hw (fun _ x => x) (fun _ x => .inl x) (fun b hb => Nat.lt_of_lt_of_le (hh.cl b hb) q6.size)
    refine hn _ e h w' I G cv q3 hH (he.mono ⟨fun b _ hb => hw b hb, fun b hb _ => hb⟩ (.refl _ _)) ?_ ⟨q6.os, q6.tape, q6.output, q6.size, fun b hb _ => hw b hb, fun _ x => x, fun b hb => .inl hb, fun b hb => .inl hb, q6.frz⟩ ⟨q6.size, hw⟩
    cases q5 with | pv _ _ h1 => exact .pv _ _ (scal_rep q2' h1)
  split at hK
  · rename_i ps hps
    intro w I G a next Qx hh he hn
    refine fin w I G a next Qx hh he hK.1 fun cc e2 e3 => ?_
    obtain ⟨g1, g2⟩ := args_rel he hv e2 e3
    have hps' := allPV_eq hps
    refine (hK.2 w I G _ (HRel.nil G hh.cl) (by rw [g1, hps']) (fun i v hi => ?_)).mono fun en w' ⟨cv, r, h', I', G', q1, ⟨v, q2, q3⟩, q4, q5, q6, _⟩ => by
      have q3 := resK_ok q3
      refine ⟨cv, q1, ?_⟩
      exact finA w I G a next hh he hn cv r h' I' G' v w' q2 q3 q4 q5 q6
    · rw [← hps'] at hi
      have := g2 i v hi
      have hm : ∃ p, v = .pv p := by rw [hps', List.getElem?_map] at hi; cases hq : ps[i]? <;> rw [hq] at hi <;> cases hi; exact ⟨_, rfl⟩
      obtain ⟨p, rfl⟩ := hm
      generalize (c.args.map a.eval ++ cc).getD i undef = ca at this ⊢
      cases this with | pv _ _ h1 => exact .pv _ _ h1
  · split at hK
    · rename_i ps hps
      intro w I G a next Qx hh he hn
      refine fin w I G a next Qx hh he hK.1 fun cc e2 e3 => ?_
      obtain ⟨g1, g2⟩ := args_rel he hv e2 e3
      obtain ⟨r1, r2⟩ := toPVs_ok hh hps g2
      have hcl' : ∀ b, AllB I h G b → b < w.heap.size := fun b hb => hb.elim (hh.cl b) hh.blk_lt
      refine (hK.2 w (AllB I h G) G _ (HRel.nil G hcl') (by rw [g1, r1]; simp) (fun i v hi => ?_)).mono fun en w' ⟨cv, r, h', I', G', q1, ⟨v, q2, q3⟩, q4, q5, q6, _⟩ => by
        obtain ⟨q2', q3⟩ := resK_ok q3
        refine ⟨cv, q1, ?_⟩
        exact finB w I G a next hh he hn cv r h' I' G' v w' q2 q2' q3 q4 q5 q6
      · rw [List.getElem?_map] at hi
        cases hq : ps[i]? with
        | none => rw [hq] at hi; cases hi
        | some p => rw [hq] at hi; cases hi; exact .pv _ _ (r2 i p hq)
    · cases hK
theorem aCallT_ok {P : Program} {o : Oper} {e : Env} {h : Hp} {K : Kt} {c : Call} {fo : Operand} {u : LV} {f : Nat} {caps vs : List LV} (ho : o.op = .call c) (hc : c.callee = .value fo) (hu : opv [] e fo = some u) (hf : fnOf u = some (f, caps))
    (hv : opvs [] e c.args.toList = some vs) (hK : aCallT P e h o.type f (vs ++ caps) K) : OpS P o e h K := (aCallT_okK ho hc hu hf hv hK).opS
end Go.Eng
set_option linter.unusedVariables false
set_option linter.unusedSimpArgs false
namespace Go.Eng
open Go
/-- An optional operand as a number. -/
def optInt (e : Env) : Option Operand → Option (Option Int)
  | none => some none
  | some x => match opv [] e x with
    | some (.pv (.int _ n)) => some (some n)
    | _ => none
theorem optInt_ok {w : World} {I : Nat → Prop} {G : Nat → Pl} {h : Hp} {a : Act} {e : Env} (he : ERel w I G h e a.tmps) {x : Option Operand} {r : Option Int} (hx : optInt e x = some r) :
    (r = none ∧ x.map a.eval = none) ∨ ∃ k n, r = some n ∧ x.map a.eval = some (.int k n) := by
  cases x with
  | none => simp [optInt] at hx; exact .inl ⟨hx.symm, rfl⟩
  | some x =>
    simp only [optInt] at hx
    split at hx
    · rename_i k n hn
      cases hx
      exact .inr ⟨k, n, rfl, by simp [(opv_ok he (AOK.nil _) hn).int_eq]⟩
    · cases hx
/-- The bounds of a slice expression over so many elements. -/
def slOK (len : Nat) (lo hi mx : Option Int) : Prop :=
  0 ≤ lo.getD 0 ∧ lo.getD 0 ≤ hi.getD len ∧ hi.getD len ≤ len ∧ match mx with | some m => hi.isSome = true ∧ hi.getD len ≤ m ∧ m ≤ len | none => True
def slFull (full : Bool) (len : Nat) (hi mx : Option Int) : Bool :=
  match mx with
  | some m => decide (m = hi.getD len)
  | none => full && decide (hi.getD len = len)
theorem run_sliceBounds {P : Program} {w : World} {isS : Bool} {len cap : Nat} {lo hi mx : Option Int} {vl vh vm : Option Value} (hc : len ≤ cap) (hb : slOK len lo hi mx)
    (h1 : (lo = none ∧ vl = none) ∨ ∃ k n, lo = some n ∧ vl = some (.int k n)) (h2 : (hi = none ∧ vh = none) ∨ ∃ k n, hi = some n ∧ vh = some (.int k n)) (h3 : (mx = none ∧ vm = none) ∨ ∃ k n, mx = some n ∧ vm = some (.int k n)) :
    ∃ m : Nat, (Instr.sliceBounds isS len cap vl vh vm).run P w = .ok ((lo.getD 0).toNat, (hi.getD len).toNat, m) w ∧ (hi.getD len).toNat ≤ m ∧ m ≤ cap ∧ (mx = none → m = cap) ∧ (∀ q, mx = some q → m = q.toNat) := by
  obtain ⟨b1, b2, b3, b4⟩ := hb
  have bound : ∀ {k : IntKind} {n : Int} {y : Nat} {code : BoundsCode}, 0 ≤ n → n ≤ y → (Instr.sliceBound (.int k n) y code).run P w = .ok n.toNat w := fun {k n y code} h0 h1 => by
    unfold Instr.sliceBound
    simp only [asIntOf, Sem.run_bind, Sem.run_pure, Result.andThen_ok, if_pos (And.intro h0 h1)]
  rcases h1 with ⟨rfl, rfl⟩ | ⟨kl, nl, rfl, rfl⟩ <;> rcases h2 with ⟨rfl, rfl⟩ | ⟨kh, nh, rfl, rfl⟩ <;> rcases h3 with ⟨rfl, rfl⟩ | ⟨km, nm, rfl, rfl⟩ <;>
    simp only [Option.getD_none, Option.getD_some, Option.isSome_none, Option.isSome_some, Bool.false_eq_true, false_and, true_and] at b1 b2 b3 b4
  · exact ⟨cap, by simp [Instr.sliceBounds], by simp only [Option.getD_none]; omega, Nat.le_refl _, by simp, by simp⟩
  · refine ⟨cap, ?_, by simp only [Option.getD_some, Option.getD_none]; omega, Nat.le_refl _, by simp, by simp⟩
    simp only [Instr.sliceBounds, Sem.run_bind, Sem.run_pure, Result.andThen_ok, Option.getD_none, Option.getD_some]
    rw [bound (by omega) (by omega)]; rfl
  · refine ⟨nm.toNat, ?_, by simp only [Option.getD_some, Option.getD_none]; omega, by omega, by simp, by simp⟩
    simp only [Instr.sliceBounds, Sem.run_bind, Sem.run_pure, Result.andThen_ok, Option.getD_none, Option.getD_some]
    rw [bound (by omega) (by omega)]
    simp only [Result.andThen_ok]
    rw [bound (by omega) (by omega)]; rfl
  · refine ⟨cap, ?_, by simp only [Option.getD_some, Option.getD_none]; omega, Nat.le_refl _, by simp, by simp⟩
    simp only [Instr.sliceBounds, Sem.run_bind, Sem.run_pure, Result.andThen_ok, Option.getD_none, Option.getD_some]
    rw [bound (by omega) (by omega)]; rfl
  · refine ⟨cap, ?_, by simp only [Option.getD_some, Option.getD_none]; omega, Nat.le_refl _, by simp, by simp⟩
    simp only [Instr.sliceBounds, Sem.run_bind, Sem.run_pure, Result.andThen_ok, Option.getD_none, Option.getD_some]
    rw [bound (by omega) (by omega)]
    simp only [Result.andThen_ok]
    rw [bound (by omega) (by omega)]; rfl
  · refine ⟨nm.toNat, ?_, by simp only [Option.getD_some, Option.getD_none]; omega, by omega, by simp, by simp⟩
    simp only [Instr.sliceBounds, Sem.run_bind, Sem.run_pure, Result.andThen_ok, Option.getD_none, Option.getD_some]
    rw [bound (by omega) (by omega)]
    simp only [Result.andThen_ok]
    rw [bound (by omega) (by omega)]
    simp only [Result.andThen_ok]
    rw [bound (by omega) (by omega)]; rfl

/-- What lies in an array's variable is handed out: it does not turn any more. -/
def pubV (o : Nat) (cs : List PV) : LV → LV
  | .box o' off => bif Nat.beq o' o then .pv (.ptr (cs.drop off)) else .box o' off
  | .agg _ => .bot
  | .tup _ => .bot
  | .fn _ _ => .bot
  | .spec .. => .bot
  | v => v
def pubE (o : Nat) (cs : List PV) : Env → Env
  | [] => []
  | (i, v) :: r => (i, pubV o cs v) :: pubE o cs r
def pubO (o : Nat) (cs : List PV) : Ob → Ob
  | .box bs => .box (bs.map (pubV o cs))
  | ob => ob
def pubH (o : Nat) (cs : List PV) (h : Hp) : Hp := (h.map (pubO o cs)).set o .dead
def aSlice (P : Program) (e : Env) (h : Hp) (t : TypeId) (x : Operand) (lo hi mx : Option Operand) (K : Kt) : Prop :=
  match opv [] e x, optInt e lo, optInt e hi, optInt e mx with
  | some u, some l, some g, some m =>
    match P.underlying t with
    | some (.slice el) => match P.info? el with
      | some ti => match u with
        | .pv (.sl nl full es) => (slOK es.length l g m ∧ szOK es ti.size) ∧ K (.pv (.sl nl (slFull full es.length g m) ((es.take (g.getD es.length).toNat).drop (l.getD 0).toNat))) e h
        | .own o => match h[o]? with
          | some (.sl ty _ _ es) => bif Nat.beq ty.2 ti.size then slOK es.length l g m ∧ K (.sub o (l.getD 0).toNat (g.getD es.length).toNat) e h else False
          | _ => False
        | .sub o a b => match h[o]? with
          | some (.sl ty _ _ es) => bif Nat.beq ty.2 ti.size then slOK (b - a) l g m ∧ K (.sub o (a + (l.getD 0).toNat) (a + (g.getD (b - a : Nat)).toNat)) e h else False
          | _ => False
        | _ => False
      | none => False
    | some (.array n el) => match P.info? el with
      | some ti => match u with
        | .box o 0 => match h[o]? with
          | some (.arr cs) => (slOK n l g m ∧ cs.length = n * ti.size) ∧
              K (.pv (.sl false (slFull true n g m) (((chunk ti.size n cs).take (g.getD n).toNat).drop (l.getD 0).toNat))) (pubE o cs e) (pubH o cs h)
          | _ => False
        | _ => False
      | none => False
    | _ => False
  | _, _, _, _ => False

theorem sl_sub_rep {w : World} {J : Nat → Prop} {b off cap sz : Nat} {c : Nat → Nat → Value} {es : List (List PV)} {full : Bool} (h1 : es.length ≤ cap) (h2 : full = true → cap = es.length) (h3 : ∀ (i : Nat) e, es[i]? = some e → J b ∧ b < w.heap.size)
    (h4 : ∀ (i : Nat) e, es[i]? = some e → e.length = sz) (h5 : ∀ (i : Nat) e (k : Nat) v, es[i]? = some e → e[k]? = some v → w.cell? ⟨b, off + i * sz + k, none⟩ = some (c i k))
    (h6 : ∀ (i : Nat) e (k : Nat) v, es[i]? = some e → e[k]? = some v → Rep w J v (c i k)) (h7 : ∀ (i : Nat) e (k : Nat) v, es[i]? = some e → e[k]? = some v → (c i k).oneCell' = true)
    {l g m : Nat} (hl : l ≤ g) (hg : g ≤ es.length) (hm : g ≤ m) (hm2 : m ≤ cap) {sz' : Nat} (hsz : szOK es sz') {f' : Bool} (hf : f' = true → m = g) {off' : Nat} (ho : l < g → off' = off + l * sz') :
    Rep w J (.sl false f' ((es.take g).drop l)) (.slice (some ⟨b, off', none⟩) (g - l) (m - l)) := by
  have hlen : ((es.take g).drop l).length = g - l := by simp; omega
  have hget : ∀ (i : Nat) e, ((es.take g).drop l)[i]? = some e → es[l + i]? = some e ∧ l + i < g := fun i e hi => by
    rw [List.getElem?_drop, List.getElem?_take] at hi
    split at hi
    · exact ⟨hi, by assumption⟩
    · cases hi
  have hsz' : ∀ (i : Nat) e, es[i]? = some e → sz' = sz := fun i e he => by
    cases es with
    | nil => simp at he
    | cons e0 r => rw [← h4 0 e0 rfl, hsz e0 rfl]
  have := Rep.sl (w := w) (I := J) f' ((es.take g).drop l) b off' (m - l) sz (fun i k => c (l + i) k) (by omega) (fun hff => by have := hf hff; omega) (fun i e he => h3 _ _ (hget i e he).1) (fun i e he => h4 _ _ (hget i e he).1)
    (fun i e k v he hk => by
      obtain ⟨q1, q2⟩ := hget i e he
      rw [ho (by omega), hsz' _ _ q1, show off + l * sz + i * sz + k = off + (l + i) * sz + k by rw [Nat.add_mul]; omega]
      exact h5 _ _ k v q1 hk) (fun i e k v he hk => h6 _ _ k v (hget i e he).1 hk) (fun i e k v he hk => h7 _ _ k v (hget i e he).1 hk)
  rwa [hlen] at this
theorem run_slice_sl {P : Program} {w : World} {t el : TypeId} {ti : TypeInfo} {a : Option Addr} {len cap : Nat} {vl vh vm : Option Value} {l g m : Nat} (ht : P.underlying t = some (.slice el)) (hi : P.info? el = some ti)
    (hb : (Instr.sliceBounds true len cap vl vh vm).run P w = .ok (l, g, m) w) :
    (Instr.sliceAt t (.slice a len cap) vl vh vm).run P w = .ok (.slice (if m = l then a else a.map (·.add (l * ti.size))) (g - l) (m - l)) w := by
  unfold Instr.sliceAt Instr.slice
  simp only [underlying, Sem.run_bind, run_program, Result.andThen_ok, ht, Sem.run_pure, hb, sizeOf, typeInfo, hi]
theorem run_slice_arr {P : Program} {w : World} {t el : TypeId} {ti : TypeInfo} {n : Nat} {a : Addr} {vl vh vm : Option Value} {l g m : Nat} (ht : P.underlying t = some (.array n el)) (hi : P.info? el = some ti)
    (hb : (Instr.sliceBounds false n n vl vh vm).run P w = .ok (l, g, m) w) :
    (Instr.sliceAt t (.pointer (some a)) vl vh vm).run P w = .ok (.slice (some (if m = l then a else a.add (l * ti.size))) (g - l) (m - l)) w := by
  unfold Instr.sliceAt
  simp only [underlying, Instr.sureAddr, Sem.run_bind, run_program, Result.andThen_ok, ht, Sem.run_pure, hb, sizeOf, typeInfo, hi]
theorem full_m {full : Bool} {len cap : Nat} {hi mx : Option Int} {m : Nat} (hf : slFull full len hi mx = true) (hc : full = true → cap = len) (hg : 0 ≤ hi.getD len) (h1 : mx = none → m = cap) (h2 : ∀ q, mx = some q → m = q.toNat) : m = (hi.getD len).toNat := by
  unfold slFull at hf
  cases mx with
  | none => simp at hf; rw [h1 rfl, hc hf.1, hf.2]; simp
  | some q => simp at hf; rw [h2 q rfl, hf]

/-- What an array's variable hands out does not turn any more. -/
theorem HRel.pub {w : World} {I : Nat → Prop} {G : Nat → Pl} {h : Hp} (hh : HRel w I G h) {o : Nat} {cs : List PV} (ho : h[o]? = some (.arr cs)) :
    HRel w (fun b => I b ∨ b = (G o).blk) G (pubH o cs h) ∧
    (∀ {tm : Array Value} {e : Env}, ERel w I G h e tm → ERel w (fun b => I b ∨ b = (G o).blk) G (pubH o cs h) (pubE o cs e) tm) ∧
    Tr w I (Owns h G) w (fun b => I b ∨ b = (G o).blk) (Owns (pubH o cs h) G) := by
  have hlt : o < h.length := (List.getElem?_eq_some_iff.1 ho).1
  obtain ⟨vs, ty, f1, f2, f3⟩ := hh.obs _ _ ho
  have hown : Owns h G (G o).blk := ⟨o, _, ho, trivial, rfl⟩
  have hk : Keeps w I w (fun b => I b ∨ b = (G o).blk) := ⟨fun _ _ _ => rfl, fun _ x _ => .inl x⟩
  have hgo : (pubH o cs h)[o]? = some .dead := by simp [pubH, hlt]
  have hgn : ∀ (i : Nat), i ≠ o → (pubH o cs h)[i]? = (h[i]?).map (pubO o cs) := fun i hi => by
    unfold pubH; rw [List.getElem?_set_ne (Ne.symm hi), List.getElem?_map]
  have hptr : ∀ off, Rep w (fun b => I b ∨ b = (G o).blk) (.ptr (cs.drop off)) (.pointer (some ⟨(G o).blk, (G o).off + off, none⟩)) := fun off => by
    refine Rep.drop (.ptr cs _ _ (fun k => vs.getD ((G o).off + k) undef) ⟨.inr rfl, hh.blk_lt hown⟩ (fun k v hv => cells_of_row f1 ?_) (fun k v hv => (f3 k v hv).1.mono hk.1 hk.2) (fun k v hv => (f3 k v hv).2)) off
    have := (List.getElem?_eq_some_iff.1 hv).1
    omega
  have hv : ∀ v cv, LRel w I G h v cv → LRel w (fun b => I b ∨ b = (G o).blk) G (pubH o cs h) (pubV o cs v) cv := fun v cv hr => by
    have ne : ∀ {i : Nat} {x : Ob}, h[i]? = some x → (∀ c, x ≠ .arr c) → i ≠ o := fun {i x} hx hna e => by subst e; rw [ho] at hx; cases hx; exact hna _ rfl
    cases hr with
    | bot => exact .bot _
    | pv p _ h1 => exact .pv _ _ (h1.mono hk.1 hk.2)
    | ownNil i t m es h1 => exact .ownNil i t m es (by rw [hgn i (ne h1 (by simp)), h1]; rfl)
    | own i t m es h1 => exact .own i t m es (by rw [hgn i (ne h1 (by simp)), h1]; rfl)
    | subNil i a b t m es h1 h2 => exact .subNil i a b t m es (by rw [hgn i (ne h1 (by simp)), h1]; rfl) h2
    | sub i a b cap off t m es h1 h2 h3 h4 h5 => exact .sub i a b cap off t m es (by rw [hgn i (ne h1 (by simp)), h1]; rfl) h2 h3 h4 h5
    | elt i a b t m es h1 h2 => exact .elt i a b t m es (by rw [hgn i (ne h1 (by simp)), h1]; rfl) h2
    | box i off bs h1 =>
      have hi := ne h1 (by simp)
      have : Nat.beq i o = false := by cases hb : Nat.beq i o with | false => rfl | true => exact absurd (Nat.eq_of_beq_eq_true hb) hi
      simp only [pubV, this, cond_false]
      exact .box i off (bs.map (pubV o cs)) (by rw [hgn i hi, h1]; rfl)
    | arr i off bs h1 =>
      by_cases hi : i = o
      · subst hi
        rw [ho] at h1; cases h1
        simp only [pubV, Nat.beq_refl, cond_true]
        exact .pv _ _ (hptr off)
      · have : Nat.beq i o = false := by cases hb : Nat.beq i o with | false => rfl | true => exact absurd (Nat.eq_of_beq_eq_true hb) hi
        simp only [pubV, this, cond_false]
        exact .arr i off bs (by rw [hgn i hi, h1]; rfl)
    | agg => exact .bot _
    | tup => exact .bot _
    | fn => exact .bot _
    | mp i kvs h1 => exact .mp i kvs (by rw [hgn i (ne h1 (by simp)), h1]; rfl)
  have split : ∀ (i : Nat) x, (pubH o cs h)[i]? = some x → (i = o ∧ x = .dead) ∨ (i ≠ o ∧ ∃ y, h[i]? = some y ∧ x = pubO o cs y) := fun i x hx => by
    by_cases hi : i = o
    · subst hi; rw [hgo] at hx; cases hx; exact .inl ⟨rfl, rfl⟩
    · rw [hgn i hi] at hx
      cases hq : h[i]? with
      | none => rw [hq] at hx; cases hx
      | some y => rw [hq] at hx; cases hx; exact .inr ⟨hi, y, rfl, rfl⟩
  have alk : ∀ {y : Ob} {q : Pl}, (pubO o cs y).alive q → y.alive q := fun {y q} ha => by cases y <;> exact ha
  refine ⟨⟨fun i x hx => ?_, fun i j x y hx ax hy ay hb => ?_, fun i x hx ax hI => ?_, fun b hb => hb.elim (hh.cl b) (fun e => e ▸ hh.blk_lt hown)⟩, fun {tm e} he => ?_, ⟨rfl, rfl, rfl, Nat.le_refl _, fun _ _ _ => rfl, fun _ x => .inl x, fun b hb => hb.elim .inl (fun e => .inr (.inl (e ▸ hown))), fun b ⟨i, x, hx, ax, hb⟩ => ?_, fun _ => rfl⟩⟩
  · rcases split i x hx with ⟨rfl, rfl⟩ | ⟨hi, y, hy, rfl⟩
    · trivial
    · have := hh.obs i y hy
      cases y with
      | dead => trivial
      | box bs =>
        obtain ⟨vs', ty', e1, e2, e3⟩ := this
        refine ⟨vs', ty', e1, by simpa using e2, fun k v hv' => ?_⟩
        rw [List.getElem?_map] at hv'
        cases hq : bs[k]? with
        | none => rw [hq] at hv'; cases hv'
        | some u => rw [hq] at hv'; cases hv'; exact ⟨hv _ _ (e3 k u hq).1, (e3 k u hq).2⟩
      | arr bs => obtain ⟨vs', ty', e1, e2, e3⟩ := this; exact ⟨vs', ty', e1, e2, fun k v hv => ⟨(e3 k v hv).1.mono hk.1 hk.2, (e3 k v hv).2⟩⟩
      | sl t m n es =>
        cases n with
        | true => exact this
        | false =>
          obtain ⟨e1, e2, e3, e3', e4, e5⟩ := this
          refine ⟨e1, e2, e3, e3', e4, fun hc => ?_⟩
          obtain ⟨vs', g1, g2, g3⟩ := e5 hc
          exact ⟨vs', g1, g2, fun i' e he k v hv => ⟨(g3 i' e he k v hv).1.mono hk.1 hk.2, (g3 i' e he k v hv).2⟩⟩
      | mp kvs => obtain ⟨es, ck, e1, e2, e3⟩ := this; exact ⟨es, ck, e1, e2, fun k kv hv => ⟨(e3 k kv hv).1.mono hk.1 hk.2, (e3 k kv hv).2.mono hk.1 hk.2⟩⟩
  · rcases split i x hx with ⟨rfl, rfl⟩ | ⟨hi, x', hx', rfl⟩
    · exact ax.elim
    · rcases split j y hy with ⟨rfl, rfl⟩ | ⟨hj, y', hy', rfl⟩
      · exact ay.elim
      · exact hh.sep _ _ _ _ hx' (alk ax) hy' (alk ay) hb
  · rcases split i x hx with ⟨rfl, rfl⟩ | ⟨hi, x', hx', rfl⟩
    · exact ax.elim
    · rcases hI with hI | hI
      · exact hh.nI _ _ hx' (alk ax) hI
      · exact hi (hh.sep _ _ _ _ hx' (alk ax) ho trivial hI)
  · intro i v hi
    have gp : ∀ e : Env, get (pubE o cs e) i = (get e i).map (pubV o cs) := fun e => by
      induction e with
      | nil => rfl
      | cons x r ih =>
        obtain ⟨k, v⟩ := x
        simp only [pubE, get]
        cases hb : Nat.beq k i
        · exact ih
        · rfl
    rw [gp e] at hi
    cases hg : get e i with
    | none => rw [hg] at hi; cases hi
    | some u =>
      rw [hg] at hi; cases hi
      have := he i u hg
      cases u with
      | spec j w u => exact LRel.bot _
      | own i' => exact hv _ _ this
      | box i' off =>
        have h2 := hv _ _ this
        simp only [pubV] at h2 ⊢
        cases hb : Nat.beq i' o <;> rw [hb] at h2 <;> exact h2
      | _ => exact hv _ _ this
  · rcases split i x hx with ⟨rfl, rfl⟩ | ⟨hi, x', hx', rfl⟩
    · exact ax.elim
    · exact .inl ⟨i, x', hx', alk ax, hb⟩

theorem aSlice_ok {P : Program} {o : Oper} {e : Env} {h : Hp} {K : Kt} {t : TypeId} {x : Operand} {lo hi mx : Option Operand} (ho : o.op = .slice t x lo hi mx) (hK : aSlice P e h t x lo hi mx K) : OpS P o e h K := by
  unfold aSlice at hK
  have run : ∀ (a : Act) (w : World) v, (Instr.sliceAt t (a.eval x) (lo.map a.eval) (hi.map a.eval) (mx.map a.eval)).run P w = .ok v w → (execOp a.eval o).run P w = .ok (.value v) w := fun a w v hv => by
    unfold execOp; rw [ho]; exact vOf_run hv
  split at hK
  · rename_i u l g m hu hl hg hm
    split at hK
    · rename_i el ht
      split at hK
      · rename_i ti hti
        split at hK
        · rename_i nl full es
          obtain ⟨⟨hb, hsz⟩, hK⟩ := hK
          refine OpS.pure hK fun w I G a hh he => ?_
          have hu' := opv_ok he (AOK.nil _) hu
          cases hu' with
          | pv _ _ hr =>
            generalize hcx : a.eval x = cx at hr
            cases hr with
            | slnil =>
              obtain ⟨m', r1, r2, r3, r4, r5⟩ := run_sliceBounds (P := P) (w := w) (isS := true) (len := 0) (cap := 0) (Nat.le_refl _) hb (optInt_ok he hl) (optInt_ok he hg) (optInt_ok he hm)
              refine ⟨_, run a w _ (by rw [hcx]; exact run_slice_sl ht hti r1), ?_⟩
              have e1 : ((([] : List (List PV)).take (g.getD (([] : List (List PV)).length)).toNat).drop (l.getD 0).toNat) = [] := by simp
              rw [e1]
              have h0 : m' = 0 := by omega
              subst h0
              have h1 := hb.1; have h2 := hb.2.1; have h3 := hb.2.2.1
              simp only [List.length_nil] at h2 h3 ⊢
              have e2 : (l.getD 0).toNat = 0 := by omega
              have e3 : (g.getD ((0 : Nat) : Int)).toNat = 0 := by omega
              rw [e2, e3]
              exact .pv _ _ (.slnil _)
            | sl _ _ b off cap sz c g1 g2 g3 g4 g5 g6 g7 =>
              obtain ⟨m', r1, r2, r3, r4, r5⟩ := run_sliceBounds (P := P) (w := w) (isS := true) g1 hb (optInt_ok he hl) (optInt_ok he hg) (optInt_ok he hm)
              refine ⟨_, run a w _ (by rw [hcx]; exact run_slice_sl ht hti r1), ?_⟩
              have h1 := hb.1; have h2 := hb.2.1; have h3 := hb.2.2.1
              have hf : slFull full es.length g m = true → m' = (g.getD es.length).toNat := fun hf => full_m hf g2 (by omega) r4 r5
              split
              · rename_i hml
                exact .pv _ _ (sl_sub_rep g1 g2 g3 g4 g5 g6 g7 (by omega) (by omega) r2 r3 hsz hf (fun hlt => by omega))
              · simp only [Option.map_some, addr_add]
                exact .pv _ _ (sl_sub_rep g1 g2 g3 g4 g5 g6 g7 (by omega) (by omega) r2 r3 hsz hf (fun _ => rfl))
        · rename_i ob
          split at hK
          · rename_i ty mv nl es hob
            cases hq : Nat.beq ty.2 ti.size with
            | false => rw [hq] at hK; cases hK
            | true =>
              rw [hq] at hK
              obtain ⟨hb, hK⟩ := hK
              have hts := Nat.eq_of_beq_eq_true hq
              refine OpS.pure hK fun w I G a hh he => ?_
              have hu' := opv_ok he (AOK.nil _) hu
              generalize hcx : a.eval x = cx at hu'
              have h1 := hb.1; have h2 := hb.2.1; have h3 := hb.2.2.1
              cases hu' with
              | ownNil _ ty' m' es' q1 =>
                have := hh.obs _ _ q1
                simp only [ORel] at this
                rw [hob] at q1; cases q1
                subst this
                obtain ⟨m', r1, r2, r3, r4, r5⟩ := run_sliceBounds (P := P) (w := w) (isS := true) (len := 0) (cap := 0) (Nat.le_refl _) hb (optInt_ok he hl) (optInt_ok he hg) (optInt_ok he hm)
                refine ⟨_, run a w _ (by rw [hcx]; exact run_slice_sl ht hti r1), ?_⟩
                have h0 : m' = 0 := by omega
                subst h0
                simp only [List.length_nil] at h2 h3 ⊢
                have e2 : (l.getD 0).toNat = 0 := by omega
                have e3 : (g.getD ((0 : Nat) : Int)).toNat = 0 := by omega
                rw [e2, e3]
                exact .subNil _ _ _ _ _ _ hob rfl
              | own _ ty' m' es' q1 =>
                obtain ⟨p1, p2, p3, p3', p4, p5⟩ := hh.obs _ _ q1
                rw [hob] at q1; cases q1
                obtain ⟨m', r1, r2, r3, r4, r5⟩ := run_sliceBounds (P := P) (w := w) (isS := true) p1 hb (optInt_ok he hl) (optInt_ok he hg) (optInt_ok he hm)
                refine ⟨_, run a w _ (by rw [hcx]; exact run_slice_sl ht hti r1), ?_⟩
                split
                · rename_i hml
                  exact .sub _ _ _ _ _ _ _ _ hob (by omega) (by omega) (by omega) (fun hlt => by omega)
                · simp only [Option.map_some, addr_add]
                  exact .sub _ _ _ _ _ _ _ _ hob (by omega) (by omega) (by omega) (fun hlt => by rw [p3', hts])
          · cases hK
        · rename_i ob a0 b0
          split at hK
          · rename_i ty mv nl es hob
            cases hq : Nat.beq ty.2 ti.size with
            | false => rw [hq] at hK; cases hK
            | true =>
              rw [hq] at hK
              obtain ⟨hb, hK⟩ := hK
              have hts := Nat.eq_of_beq_eq_true hq
              refine OpS.pure hK fun w I G a hh he => ?_
              have hu' := opv_ok he (AOK.nil _) hu
              generalize hcx : a.eval x = cx at hu'
              have h1 := hb.1; have h2 := hb.2.1; have h3 := hb.2.2.1
              cases hu' with
              | subNil _ _ _ ty' m' es' q1 q2 =>
                subst q2
                obtain ⟨m', r1, r2, r3, r4, r5⟩ := run_sliceBounds (P := P) (w := w) (isS := true) (len := 0) (cap := 0) (Nat.le_refl _) (by simpa using hb) (optInt_ok he hl) (optInt_ok he hg) (optInt_ok he hm)
                refine ⟨_, run a w _ (by rw [hcx]; exact run_slice_sl ht hti r1), ?_⟩
                have h0 : m' = 0 := by omega
                subst h0
                simp only [Nat.sub_self] at h2 h3 ⊢
                have e2 : (l.getD 0).toNat = 0 := by omega
                have e3 : (g.getD ((0 : Nat) : Int)).toNat = 0 := by omega
                rw [e2, e3]
                exact .subNil _ _ _ _ _ _ q1 rfl
              | sub _ _ _ cap off ty' m' es' q1 q2 q3 q4 q5 =>
                have hp := hh.obs _ _ q1
                have p3' := hp.2.2.2.1
                clear hp
                rw [hob] at q1; cases q1
                obtain ⟨m', r1, r2, r3, r4, r5⟩ := run_sliceBounds (P := P) (w := w) (isS := true) q4 hb (optInt_ok he hl) (optInt_ok he hg) (optInt_ok he hm)
                refine ⟨_, run a w _ (by rw [hcx]; exact run_slice_sl ht hti r1), ?_⟩
                have k1 : (g.getD ((b0 - a0 : Nat) : Int)).toNat ≤ b0 - a0 := by omega
                have k2 : (l.getD 0).toNat ≤ (g.getD ((b0 - a0 : Nat) : Int)).toNat := by omega
                generalize (g.getD ((b0 - a0 : Nat) : Int)).toNat = gn at *
                generalize (l.getD 0).toNat = ln at *
                clear hb r1 r4 r5 hK h1 h2 h3
                have e1 : gn - ln = (a0 + gn) - (a0 + ln) := by omega
                rw [e1]
                split
                · rename_i hml
                  exact .sub _ _ _ _ _ _ _ _ hob (by omega) (by omega) (by omega) (fun hlt => by omega)
                · simp only [Option.map_some, addr_add]
                  refine .sub _ _ _ _ _ _ _ _ hob (by omega) (by omega) (by omega) (fun hlt => ?_)
                  rw [q5 (by omega), p3', hts, Nat.add_mul, Nat.add_assoc]
          · cases hK
        · cases hK
      · cases hK
    · rename_i n el ht
      split at hK
      · rename_i ti hti
        split at hK
        · rename_i ob
          split at hK
          · rename_i cs hob
            obtain ⟨⟨hb, hlen⟩, hK⟩ := hK
            intro w I G a next Qx hh he hn
            have hu' := opv_ok he (AOK.nil _) hu
            generalize hcx : a.eval x = cx at hu'
            have h1 := hb.1; have h2 := hb.2.1; have h3 := hb.2.2.1
            cases hu' with
            | box _ _ _ q1 => rw [hob] at q1; cases q1
            | arr _ _ cs' q1 =>
              obtain ⟨vs, ty, f1, f2, f3⟩ := hh.obs _ _ q1
              rw [hob] at q1; cases q1
              obtain ⟨m', r1, r2, r3, r4, r5⟩ := run_sliceBounds (P := P) (w := w) (isS := false) (Nat.le_refl n) hb (optInt_ok he hl) (optInt_ok he hg) (optInt_ok he hm)
              have hrun := run a w _ (by rw [hcx]; exact run_slice_arr ht hti r1)
              unfold Oper.wp; rw [hrun]
              obtain ⟨t1, t2, t3⟩ := hh.pub hob
              have hk : Keeps w I w (fun b => I b ∨ b = (G ob).blk) := ⟨fun _ _ _ => rfl, fun _ x _ => .inl x⟩
              have hown : Owns h G (G ob).blk := ⟨ob, _, hob, trivial, rfl⟩
              have hcl := chunk_length ti.size n cs
              have hel : ∀ (i : Nat) e (k : Nat) v, (chunk ti.size n cs)[i]? = some e → e[k]? = some v → k < ti.size ∧ cs[i * ti.size + k]? = some v := fun i e k v he hk => by
                obtain ⟨_, rfl⟩ := chunk_get _ _ _ _ _ he
                rw [List.getElem?_take] at hk
                split at hk
                · rename_i hlt; rw [List.getElem?_drop] at hk; exact ⟨hlt, hk⟩
                · cases hk
              have hch : ∀ (i : Nat) e, (chunk ti.size n cs)[i]? = some e → e.length = ti.size := fun i e he => by
                obtain ⟨h1, rfl⟩ := chunk_get _ _ _ _ _ he
                have : (i + 1) * ti.size ≤ n * ti.size := Nat.mul_le_mul_right _ h1
                rw [Nat.add_mul] at this
                simp; omega
              have hf : slFull true n g m = true → m' = (g.getD n).toNat := fun hf => full_m hf (fun _ => rfl) (by omega) r4 r5
              have rep : ∀ off', ((l.getD 0).toNat < (g.getD n).toNat → off' = (G ob).off + (l.getD 0).toNat * ti.size) → Rep w (fun b => I b ∨ b = (G ob).blk) (.sl false (slFull true n g m) (((chunk ti.size n cs).take (g.getD n).toNat).drop (l.getD 0).toNat)) (.slice (some ⟨(G ob).blk, off', none⟩) ((g.getD n).toNat - (l.getD 0).toNat) (m' - (l.getD 0).toNat)) := fun off' hoff =>
                sl_sub_rep (cap := n) (sz := ti.size) (off := (G ob).off) (full := true) (c := fun i k => vs.getD ((G ob).off + (i * ti.size + k)) undef) (by omega) (fun _ => by omega) (fun _ _ _ => ⟨.inr rfl, hh.blk_lt hown⟩) hch
                  (fun i e k v he hk' => by
                    obtain ⟨z1, z2⟩ := hel i e k v he hk'
                    have := (List.getElem?_eq_some_iff.1 z2).1
                    rw [show (G ob).off + i * ti.size + k = (G ob).off + (i * ti.size + k) by omega]
                    exact cells_of_row f1 (by omega))
                  (fun i e k v he hk' => (f3 _ v (hel i e k v he hk').2).1.mono hk.1 hk.2) (fun i e k v he hk' => (f3 _ v (hel i e k v he hk').2).2)
                  (by omega) (by omega) r2 r3 (fun e he => hch 0 e (by rw [← List.head?_eq_getElem?]; exact he)) hf hoff
              refine hn _ _ _ w _ G _ hK t1 (t2 he) ?_ t3
              split
              · rename_i hml
                exact .pv _ _ (rep _ (fun hlt => by omega))
              · rw [addr_add]
                exact .pv _ _ (rep _ (fun _ => by omega))
          · cases hK
        · cases hK
      · cases hK
    · cases hK
  · cases hK
end Go.Eng
set_option linter.unusedVariables false
set_option linter.unusedSimpArgs false
namespace Go.Eng
open Go
def aField (P : Program) (e : Env) (h : Hp) (t : TypeId) (x : Operand) (i : Nat) (K : Kt) : Prop :=
  match P.underlying t with
  | some (.struct fs) => match fs.toList[i]? with
    | some fd => match P.underlying fd.type, P.info? fd.type with
      | some _, some fi => match opv [] e x with
        | some (.pv (.agg cs)) => match aggT P fd.type with
          | false => match cs[fd.offset]? with | some v => K (.pv v) e h | none => False
          | true => bif (Nat.ble (fd.offset + fi.size) cs.length) then K (.pv (.agg ((cs.drop fd.offset).take fi.size))) e h else False
        | some (.agg cs) => match aggT P fd.type with
          | false => match cs[fd.offset]? with | some v => K v e h | none => False
          | true => bif (Nat.ble (fd.offset + fi.size) cs.length) then
              (match allPV ((cs.drop fd.offset).take fi.size) with
               | some ps => K (.pv (.agg ps)) e h
               | none => K (.agg ((cs.drop fd.offset).take fi.size)) e h) else False
        | _ => False
      | _, _ => False
    | none => False
  | _ => False
theorem run_part_one {P : Program} {w : World} {t : TypeId} {d : TypeDesc} {cs : Array Value} {off : Nat} (hd : P.underlying t = some d) (h0 : aggT P t = false) (hlt : off < cs.size) : (part t cs off).run P w = .ok (cs.getD off undef) w := by
  unfold part
  simp only [Sem.run_bind, run_isAgg hd, h0, Result.andThen_ok, Bool.false_eq_true, if_false, Sem.run_ite]
  simp [hlt]
theorem run_part_agg {P : Program} {w : World} {t : TypeId} {d : TypeDesc} {ti : TypeInfo} {cs : Array Value} {off : Nat} (hd : P.underlying t = some d) (hi : P.info? t = some ti) (h0 : aggT P t = true) : (part t cs off).run P w = .ok (.agg (cs.extract off (off + ti.size))) w := by
  unfold part
  simp only [Sem.run_bind, run_isAgg hd, h0, Result.andThen_ok, if_true, Sem.run_ite, sizeOf, typeInfo, run_program, hi, Sem.run_pure]
theorem extract_get {cs : Array Value} {off n k : Nat} (hle : off + n ≤ cs.size) (hk : k < n) : (cs.extract off (off + n)).getD k undef = cs.getD (off + k) undef := by
  rw [Array.getD_eq_getD_getElem?, Array.getD_eq_getD_getElem?, Array.getElem?_extract]
  rw [if_pos (by omega)]
theorem aField_ok {P : Program} {o : Oper} {e : Env} {h : Hp} {K : Kt} {t : TypeId} {x : Operand} {i : Nat} (ho : o.op = .field t x i) (hK : aField P e h t x i K) : OpS P o e h K := by
  unfold aField at hK
  split at hK
  · rename_i fs ht
    split at hK
    · rename_i fd hf
      split at hK
      · rename_i d fi hd hi
        have run : ∀ (a : Act) (w : World) (cs : Array Value) v, a.eval x = .agg cs → (part fd.type cs fd.offset).run P w = .ok v w → (execOp a.eval o).run P w = .ok (.value v) w := fun a w cs v hx hv => by
          unfold execOp; rw [ho]
          refine vOf_run ?_
          have hf' : fs[i]? = some fd := by simpa using hf
          unfold Instr.field
          simp only [underlying, asAgg, Sem.run_bind, run_program, Result.andThen_ok, ht, Sem.run_pure, hf', hx, hv]
        split at hK
        · rename_i cs hu
          split at hK
          · rename_i h0
            split at hK
            · rename_i v hv
              refine OpS.pure hK fun w I G a hh he => ?_
              have hu' := opv_ok he (AOK.nil _) hu
              generalize hcx : a.eval x = cx at hu'
              cases hu' with
              | pv _ _ hr => cases hr with
                | agg _ vs h1 h6 h7 =>
                  have hlt : fd.offset < vs.size := by have := (List.getElem?_eq_some_iff.1 hv).1; omega
                  exact ⟨_, run a w vs _ hcx (run_part_one hd h0 hlt), .pv _ _ (h6 _ _ hv)⟩
            · cases hK
          · rename_i h0
            cases hb : Nat.ble (fd.offset + fi.size) cs.length with
            | false => rw [hb] at hK; cases hK
            | true =>
              rw [hb] at hK
              have hle := Nat.le_of_ble_eq_true hb
              refine OpS.pure hK fun w I G a hh he => ?_
              have hu' := opv_ok he (AOK.nil _) hu
              generalize hcx : a.eval x = cx at hu'
              cases hu' with
              | pv _ _ hr => cases hr with
                | agg _ vs h1 h6 h7 =>
                  refine ⟨_, run a w vs _ hcx (run_part_agg hd hi h0), .pv _ _ (.agg _ _ (by simp; omega) (fun k v hv => ?_) (fun k v hv => ?_))⟩
                  all_goals
                    rw [List.getElem?_take] at hv
                    split at hv
                    · rename_i hk
                      rw [List.getElem?_drop] at hv
                      rw [extract_get (by omega) hk]
                      first | exact h6 _ _ hv | exact h7 _ _ hv
                    · cases hv
        · rename_i cs hu
          split at hK
          · rename_i h0
            split at hK
            · rename_i v hv
              refine OpS.pure hK fun w I G a hh he => ?_
              have hu' := opv_ok he (AOK.nil _) hu
              generalize hcx : a.eval x = cx at hu'
              cases hu' with
              | agg _ vs h1 h6 h7 =>
                have hlt : fd.offset < vs.size := by have := (List.getElem?_eq_some_iff.1 hv).1; omega
                exact ⟨_, run a w vs _ hcx (run_part_one hd h0 hlt), h6 _ _ hv⟩
            · cases hK
          · rename_i h0
            cases hb : Nat.ble (fd.offset + fi.size) cs.length with
            | false => rw [hb] at hK; cases hK
            | true =>
              rw [hb] at hK
              simp only [cond_true] at hK
              have hle := Nat.le_of_ble_eq_true hb
              have main : ∀ (w : World) (I : Nat → Prop) (G : Nat → Pl) (a : Act), HRel w I G h → ERel w I G h e a.tmps → ∃ vs : Array Value, (execOp a.eval o).run P w = .ok (.value (.agg vs)) w ∧ vs.size = ((cs.drop fd.offset).take fi.size).length ∧
                  ∀ (k : Nat) u, ((cs.drop fd.offset).take fi.size)[k]? = some u → LRel w I G h u (vs.getD k undef) ∧ (vs.getD k undef).oneCell' = true := by
                intro w I G a hh he
                have hu' := opv_ok he (AOK.nil _) hu
                generalize hcx : a.eval x = cx at hu'
                cases hu' with
                | agg _ vs h1 h6 h7 =>
                  refine ⟨_, run a w vs _ hcx (run_part_agg hd hi h0), by simp; omega, fun k u hv => ?_⟩
                  rw [List.getElem?_take] at hv
                  split at hv
                  · rename_i hk
                    rw [List.getElem?_drop] at hv
                    rw [extract_get (by omega) hk]
                    exact ⟨h6 _ _ hv, h7 _ _ hv⟩
                  · cases hv
              split at hK
              · rename_i ps hps
                have hps' := allPV_eq hps
                refine OpS.pure hK fun w I G a hh he => ?_
                obtain ⟨vs, h1, h2, h3⟩ := main w I G a hh he
                rw [hps'] at h2 h3
                refine ⟨_, h1, .pv _ _ (.agg ps vs (by simpa using h2) (fun k v hv => ?_) (fun k v hv => (h3 k (.pv v) (by simp [hv])).2))⟩
                have := (h3 k (.pv v) (by simp [hv])).1
                generalize vs.getD k undef = cv at this
                cases this; assumption
              · refine OpS.pure hK fun w I G a hh he => ?_
                obtain ⟨vs, h1, h2, h3⟩ := main w I G a hh he
                exact ⟨_, h1, .agg _ vs h2 (fun k v hv => (h3 k v hv).1) (fun k v hv => (h3 k v hv).2)⟩
        · cases hK
      · cases hK
    · cases hK
  · cases hK

def aNilCheck (e : Env) (h : Hp) (x : Operand) (K : Kt) : Prop :=
  match opv [] e x with
  | some u => match nilOfPtr u with
    | some false => K u e h
    | _ => match nilOfFn u with
      | some false => match fnOf u with
        | some _ => K u e h
        | none => False
      | _ => False
  | none => False
theorem aNilCheck_okV {P : Program} {o : Oper} {e : Env} {h : Hp} {K : Kt} {x : Operand} (ho : o.op = .nilCheck x) (hK : aNilCheck e h x K) : OpV P o e h K := by
  unfold aNilCheck at hK
  split at hK
  · rename_i u hu
    split at hK
    · rename_i hn
      refine OpV.pure hK fun w I G a hh he => ?_
      have hu' := opv_ok he (AOK.nil _) hu
      obtain ⟨b, e1, e2⟩ := hu'.nilOfPtr_eq hn
      refine ⟨a.eval x, fun w2 _ => ?_, hu'⟩
      unfold execOp; rw [ho]
      cases b with
      | none => cases e2
      | some a0 => simp only [e1]; rfl
    · split at hK
      · split at hK
        · rename_i q hf
          obtain ⟨f, caps⟩ := q
          refine OpV.pure hK fun w I G a hh he => ?_
          have hu' := opv_ok he (AOK.nil _) hu
          obtain ⟨cc, e1, _⟩ := fnOf_ok hu' hf
          refine ⟨a.eval x, fun w2 _ => ?_, hu'⟩
          unfold execOp; rw [ho]
          simp only [e1]; rfl
        · cases hK
      · cases hK
  · cases hK

theorem aNilCheck_ok {P : Program} {o : Oper} {e : Env} {h : Hp} {K : Kt} {x : Operand} (ho : o.op = .nilCheck x) (hK : aNilCheck e h x K) : OpS P o e h K := (aNilCheck_okV ho hK).opS

/-! ### All operations -/
def aMem (P : Program) (e : Env) (h : Hp) (o : Oper) (K : Kt) : Prop :=
  match o.op with
  | .indexAddr t x i => aIndexAddr P e h t x i K
  | .fieldAddr s x f => aFieldAddr P e h s x f K
  | .load t x => aLoad P e h t x K
  | .store t x y => aStore P e h t x y K
  | .alloc t => aAlloc P e h t K
  | .box t x => aBox P e h t x K
  | .build t parts => aBuild P e h t parts.toList K
  | .buildSlice t n parts => aBuildSlice P e h t n parts.toList K
  | .slice t x lo hi mx => aSlice P e h t x lo hi mx K
  | .field t x i => aField P e h t x i K
  | .nilCheck x => aNilCheck e h x K
  | .call c => match c.callee with
    | .builtin .append => aAppend P e h c.argTypes.toList c.args.toList K
    | .value fo => match opv [] e fo, opvs [] e c.args.toList with
      | some u, some vs => match fnOf u with
        | some (f, caps) => aCallT P e h o.type f (vs ++ caps) K
        | none => False
      | _, _ => False
    | _ => False
  | _ => False
def aOp (P : Program) (e : Env) (h : Hp) (o : Oper) (K : Kt) : Prop :=
  match evP P [] e h o.op with
  | some v => K v e h
  | none => aMem P e h o K
theorem aMem_ok {P : Program} {o : Oper} {e : Env} {h : Hp} {K : Kt} (hK : aMem P e h o K) : OpS P o e h K := by
  unfold aMem at hK
  split at hK <;> rename_i hop
  · exact aIndexAddr_ok hop hK
  · exact aFieldAddr_ok hop hK
  · exact aLoad_ok hop hK
  · exact aStore_ok hop hK
  · exact aAlloc_ok hop hK
  · exact aBox_ok hop hK
  · exact aBuild_ok hop hK
  · exact aBuildSlice_ok hop hK
  · exact aSlice_ok hop hK
  · exact aField_ok hop hK
  · exact aNilCheck_ok hop hK
  · split at hK
    · rename_i hc; exact aAppend_ok hop hc hK
    · rename_i fo hc
      split at hK
      · rename_i u vs hu hv
        split at hK
        · rename_i f caps hf; exact aCallT_ok hop hc hu hf hv hK
        · cases hK
      · cases hK
    · cases hK
  · cases hK
theorem aOp_ok {P : Program} {o : Oper} {e : Env} {h : Hp} {K : Kt} (hK : aOp P e h o K) : OpS P o e h K := by
  unfold aOp at hK
  split at hK
  · rename_i v hv; exact OpS.pureP (A := []) hv hK
  · exact aMem_ok hK
end Go.Eng
set_option linter.unusedVariables false
set_option linter.unusedSimpArgs false
namespace Go.Eng
open Go
theorem LRel.notSpec {w : World} {I : Nat → Prop} {G : Nat → Pl} {h : Hp} {v : LV} {cv : Value} (hr : LRel w I G h v cv) : ∀ j want u, v ≠ .spec j want u := by
  intro j want u e; subst e; cases hr
def put (o : Oper) (v : LV) (e : Env) : Env := match o.dst with | some d => set e d v | none => e
def dstOK (N : Nat) (o : Oper) : Bool := match o.dst with | some d => Nat.blt d N | none => true
def dstOf (all : List Oper) (j : Nat) : Option Nat := match all[j]? with | some o => o.dst | none => none
def specE (P : Program) (e : Env) (h : Hp) (s : Nat) (want : Bool) (o : Oper) : Option Env :=
  match o.dst with
  | some d => bif Nat.beq s d then none else (match evP P [(s, want)] e h o.op with
    | some v => some (set e d (.spec s want v))
    | none => none)
  | none => none
def branchOn : Nat → Env → Nat → (Env → Option Bool → Prop) → Prop
  | 0, _, _, _ => False
  | n + 1, e, s, K =>
    match get e s with
    | some (.pv (.bool b)) => if b = true then K ((s, .pv (.bool true)) :: e) (some true) else K ((s, .pv (.bool false)) :: e) (some false)
    | some (.pv .unit) => K e none
    | some (.spec j w (.pv (.bool b))) => branchOn n e j fun e q => match q, w with
      | some true, true => if b = true then K ((s, .pv (.bool true)) :: e) (some true) else K ((s, .pv (.bool false)) :: e) (some false)
      | some false, false => if b = true then K ((s, .pv (.bool true)) :: e) (some true) else K ((s, .pv (.bool false)) :: e) (some false)
      | _, _ => K ((s, .pv .unit) :: e) none
    | _ => False
def isWanted (q : Option Bool) (want : Bool) : Bool :=
  match q, want with
  | some true, true => true
  | some false, false => true
  | _, _ => false
def aOps (P : Program) (N : Nat) (all : List Oper) : List Oper → Env → Hp → (Env → Hp → Prop) → Prop
  | [], e, h, K => K e h
  | o :: r, e, h, K =>
    bif dstOK N o then
      (match o.guard with
      | none => aOp P e h o fun v e h => aOps P N all r (put o v e) h K
      | some (j, want) => match dstOf all j with
        | some s => match specE P e h s want o with
          | some e' => aOps P N all r e' h K
          | none => branchOn 4 e s fun e q => bif isWanted q want then aOp P e h o fun v e h => aOps P N all r (put o v e) h K else aOps P N all r (put o (.pv .unit) e) h K
        | none => False)
    else False

theorem ERel.cons {w : World} {I : Nat → Prop} {G : Nat → Pl} {h : Hp} {tm : Array Value} {e : Env} (he : ERel w I G h e tm) {s : Nat} {v : LV} (hv : VRel w I G h tm v (tm.getD s undef)) : ERel w I G h ((s, v) :: e) tm := by
  intro i u hi
  simp only [get] at hi
  cases hb : Nat.beq s i with
  | true => rw [hb] at hi; have := Nat.eq_of_beq_eq_true hb; subst this; cases hi; exact hv
  | false => rw [hb] at hi; exact he i u hi
theorem branchOn_ok {w : World} {I : Nat → Prop} {G : Nat → Pl} {h : Hp} {tm : Array Value} : ∀ {n : Nat} {e : Env} {s : Nat} {K : Env → Option Bool → Prop}, ERel w I G h e tm → branchOn n e s K →
    ∃ e' q, K e' q ∧ ERel w I G h e' tm ∧ match q with | some b => tm.getD s undef = .bool b | none => tm.getD s undef = undef
  | 0, e, s, K, he, hb => hb.elim
  | n + 1, e, s, K, he, hb => by
    have lit : ∀ {e' : Env} (b : Bool), ERel w I G h e' tm → tm.getD s undef = .bool b → (if b = true then K ((s, .pv (.bool true)) :: e') (some true) else K ((s, .pv (.bool false)) :: e') (some false)) →
        ∃ e' q, K e' q ∧ ERel w I G h e' tm ∧ match q with | some b => tm.getD s undef = .bool b | none => tm.getD s undef = undef := fun {e'} b he' hs hk => by
      have hv : ∀ b, tm.getD s undef = .bool b → VRel w I G h tm (.pv (.bool b)) (tm.getD s undef) := fun b hs => by rw [hs]; exact LRel.pv _ _ (.bool b)
      cases b with
      | true => simp only [if_true] at hk; exact ⟨_, _, hk, he'.cons (hv true hs), hs⟩
      | false => simp only [Bool.false_eq_true, if_false] at hk; exact ⟨_, _, hk, he'.cons (hv false hs), hs⟩
    unfold branchOn at hb
    split at hb
    · rename_i b hg
      exact lit b he (LRel.bool_eq (he s _ hg)) hb
    · rename_i hg
      refine ⟨e, none, hb, he, ?_⟩
      have := he s _ hg
      generalize tm.getD s undef = cv at this
      cases this with | pv _ _ h1 => cases h1; rfl
    · rename_i j wt b hg
      obtain ⟨e', q, hk, he', hq⟩ := branchOn_ok he hb
      have hs := he s _ hg
      split at hk
      · exact lit b he' (LRel.bool_eq (hs.1 hq)) hk
      · exact lit b he' (LRel.bool_eq (hs.1 hq)) hk
      · rename_i hn1 hn2
        have hne : tm.getD j undef ≠ .bool wt := fun e => by
          cases q with
          | none => simp only at hq; rw [hq] at e; cases e
          | some b' =>
            simp only at hq
            rw [hq] at e
            injection e with e
            subst e
            cases b'
            · exact hn2 rfl rfl
            · exact hn1 rfl rfl
        have hu := hs.2 hne
        exact ⟨_, none, hk, he'.cons (by rw [hu]; exact LRel.pv _ _ .unit), hu⟩
    · cases hb

/-- What is known of a frame. -/
structure SRel (w : World) (I : Nat → Prop) (G : Nat → Pl) (e : Env) (h : Hp) (N : Nat) (a : Act) : Prop where
  hh : HRel w I G h
  he : ERel w I G h e a.tmps
  hn : a.tmps.size = N
theorem put_rel {w : World} {I : Nat → Prop} {G : Nat → Pl} {e : Env} {h : Hp} {N : Nat} {a : Act} {o : Oper} (hd : dstOK N o = true) (hn : a.tmps.size = N) (hh : HRel w I G h) (he : ERel w I G h e a.tmps) {v : LV} {cv : Value} (hv : LRel w I G h v cv) :
    SRel w I G (put o v e) h N (a.put o.dst cv) ∧ (a.put o.dst cv).defers = a.defers := by
  unfold put Act.put
  unfold dstOK at hd
  cases hdst : o.dst with
  | none => exact ⟨⟨hh, he, hn⟩, rfl⟩
  | some d =>
    rw [hdst] at hd
    have hlt : d < a.tmps.size := by rw [hn]; exact Nat.le_of_ble_eq_true hd
    exact ⟨⟨hh, he.set hlt hv hv.notSpec, by simp [hn]⟩, rfl⟩

/-- The operations of a region, in the order of the text. -/
theorem aOps_ok {P : Program} {N : Nat} {ops : Array Oper} {Qx : Exit → Act → World → Prop} {K : Env → Hp → Prop} : ∀ (l : List Oper) (k : Nat) (e : Env) (h : Hp), (∀ j, j < l.length → l[j]? = ops[k + j]?) → aOps P N ops.toList l e h K →
    ∀ (w : World) (I : Nat → Prop) (G : Nat → Pl) (a : Act), SRel w I G e h N a →
      (∀ e' h' w' I' G' a', K e' h' → SRel w' I' G' e' h' N a' → a'.defers = a.defers → Tr w I (Owns h G) w' I' (Owns h' G') → Qx .normal a' w') → wpOps P ops Qx (List.range' k l.length) a w := by
  intro l
  induction l with
  | nil =>
    intro k e h hl hK w I G a hs hq
    exact hq e h w I G a hK hs rfl (.refl _ _ _)
  | cons o r ih =>
    intro k e h hl hK w I G a hs hq
    have h0 : ops[k]? = some o := by simpa using (hl 0 (by simp)).symm
    have hl' : ∀ j, j < r.length → r[j]? = ops[k + 1 + j]? := fun j hj => by have := hl (j + 1) (by simpa using hj); simpa [Nat.add_assoc, Nat.add_comm 1 j] using this
    simp only [List.length_cons, List.range'_succ]
    rw [wpOps_cons]
    unfold wpOp
    simp only [h0]
    unfold aOps at hK
    cases hd : dstOK N o with
    | false => rw [hd] at hK; cases hK
    | true =>
      rw [hd] at hK
      simp only [cond_true] at hK
      -- an operation that is carried out
      have run : ∀ {e1 : Env}, ERel w I G h e1 a.tmps → aOp P e1 h o (fun v e h => aOps P N ops.toList r (put o v e) h K) → o.wp P a w (wpOps P ops Qx (List.range' (k + 1) r.length)) Qx := fun {e1} he1 hop => by
        refine aOp_ok hop w I G a _ _ hs.hh he1 fun v e' h' w' I' G' cv hk hh' he' hv' htr => ?_
        obtain ⟨hs', hdef⟩ := put_rel hd hs.hn hh' he' hv'
        exact ih (k + 1) _ _ hl' hk w' I' G' _ hs' fun e2 h2 w2 I2 G2 a2 hk2 hs2 hd2 ht2 => hq e2 h2 w2 I2 G2 a2 hk2 hs2 (hd2.trans hdef) (htr.trans ht2)
      have skip : ∀ {e1 : Env} {v : LV}, SRel w I G e1 h N (a.put o.dst undef) → aOps P N ops.toList r e1 h K → wpOps P ops Qx (List.range' (k + 1) r.length) (a.put o.dst undef) w := fun {e1 v} hs1 hop =>
        ih (k + 1) _ _ hl' hop w I G _ hs1 fun e2 h2 w2 I2 G2 a2 hk2 hs2 hd2 ht2 => hq e2 h2 w2 I2 G2 a2 hk2 hs2 (hd2.trans (by unfold Act.put; cases o.dst <;> rfl)) ht2
      split at hK
      · rename_i hg
        have hw : Region.wanted o (yielded ops a.tmps) = true := by simp [Region.wanted, hg]
        rw [if_pos hw]
        exact .inl (run hs.he hK)
      · rename_i j want hg
        have hwd : Region.wanted o (yielded ops a.tmps) = (yielded ops a.tmps j == some want) := by simp [Region.wanted, hg]
        split at hK
        · rename_i s hds
          have hyield : (yielded ops a.tmps j = some want ↔ a.tmps.getD s undef = .bool want) := by
            unfold dstOf at hds
            split at hds
            · rename_i oj hoj
              have hoj' : ops[j]? = some oj := by simpa using hoj
              unfold yielded
              simp only [hoj', Option.bind_some, hds]
              rw [Array.getD_eq_getD_getElem?]
              cases hts : a.tmps[s]? with
              | none => simp [undef]
              | some v => cases v <;> simp
            · cases hds
          split at hK
          · rename_i e' hsp
            unfold specE at hsp
            split at hsp
            · rename_i d hdst
              cases hsd : Nat.beq s d with
              | true => rw [hsd] at hsp; cases hsp
              | false =>
                rw [hsd] at hsp
                simp only [cond_false] at hsp
                have hne : s ≠ d := fun e => by subst e; simp at hsd
                have hlt : d < a.tmps.size := by rw [hs.hn]; unfold dstOK at hd; rw [hdst] at hd; exact Nat.le_of_ble_eq_true hd
                split at hsp
                · rename_i v hv
                  cases hsp
                  by_cases hwt : a.tmps.getD s undef = .bool want
                  · rw [if_pos (by rw [hwd]; simp [hyield.2 hwt])]
                    refine .inl ?_
                    obtain ⟨cv, g1, g2⟩ := evP_ok hs.hh hs.he ((AOK.nil _).cons hwt) hv
                    unfold Oper.wp
                    rw [g1]
                    refine ih (k + 1) _ _ hl' hK w I G _ ⟨hs.hh, ?_, by simp [Act.put, hdst, hs.hn]⟩ fun e2 h2 w2 I2 G2 a2 hk2 hs2 hd2 ht2 => hq e2 h2 w2 I2 G2 a2 hk2 hs2 (hd2.trans (by simp [Act.put, hdst])) ht2
                    simp only [Act.put, hdst]
                    exact hs.he.setSpec hlt hne (fun _ => g2) (fun hc => absurd hwt hc)
                  · rw [if_neg (by rw [hwd]; simp; exact fun hc => hwt (hyield.1 hc))]
                    refine skip (v := v) ⟨hs.hh, ?_, by simp [Act.put, hdst, hs.hn]⟩ hK
                    simp only [Act.put, hdst]
                    exact hs.he.setSpec hlt hne (fun hc => absurd hc hwt) (fun _ => rfl)
                · cases hsp
            · cases hsp
          · obtain ⟨e', q, hk, he', hq'⟩ := branchOn_ok hs.he hK
            cases hiw : isWanted q want with
            | true =>
              rw [hiw] at hk
              have hqw : q = some want := by unfold isWanted at hiw; split at hiw <;> first | rfl | cases hiw
              subst hqw
              rw [if_pos (by rw [hwd]; simp [hyield.2 hq'])]
              exact .inl (run he' hk)
            | false =>
              rw [hiw] at hk
              simp only [cond_false] at hk
              have hqw : a.tmps.getD s undef ≠ .bool want := fun hc => by
                cases q with
                | none => simp only at hq'; rw [hq'] at hc; cases hc
                | some b => simp only at hq'; rw [hq'] at hc; injection hc with hc; subst hc; cases b <;> simp [isWanted] at hiw
              rw [if_neg (by rw [hwd]; simp; exact fun hc => hqw (hyield.1 hc))]
              exact skip (v := .bot) (put_rel hd hs.hn hs.hh he' (.pv _ _ .unit)).1 hk
        · cases hK
end Go.Eng
