/- Abstract states run over the code; what each function gives, printed by program and checked by the kernel; and what follows of it. -/
import Derived.Test.YtkhfdeljpgmfgaaEngb
set_option linter.unusedVariables false
set_option linter.unusedSimpArgs false
namespace Go.Eng
open Go Go.RowKit Go.ChangeShapes Go.WideShapes Go.ChangeAt
def dX (P : Program) : Nat → TypeId → List PV → Prop
  | 0, _, _ => False
  | n + 1, t, ps => match P.underlying t with
    | some .bool => ∃ b, ps = [.bool b]
    | some (.int k) => ∃ m, ps = [.int k m] ∧ (Lit.int k m).wf = true
    | some (.slice e) => ∃ nl es, ps = [.sl nl false es] ∧ es.length ≤ maxLen ∧ (nl = true → es = []) ∧ ∀ x ∈ es, dX P n e x
    | some (.struct fs) => ps.length = P.cellsOf t ∧ ∀ f ∈ fs.toList, dX P n f.type ((ps.drop f.offset).take (P.cellsOf f.type))
    | _ => False
def okF (P : Program) (ok : TypeId → Bool) (total : Nat) : List Field → Nat → Bool
  | [], off => Nat.beq off total
  | f :: r, off => Nat.beq f.offset off && ok f.type && okF P ok total r (off + P.cellsOf f.type)
def okT (P : Program) : Nat → TypeId → Bool
  | 0, _ => false
  | n + 1, t => match P.underlying t with
    | some .bool => true
    | some (.int _) => true
    | some (.slice e) => Nat.blt 0 (P.cellsOf e) && okT P n e
    | some (.struct fs) => okF P (okT P n) (P.cellsOf t) fs.toList 0
    | _ => false
theorem zda {α : Type} {Q : Nat → α → Prop} : ∀ (n : Nat), (∀ i, i < n → ∃ y, Q i y) → ∃ l : List α, l.length = n ∧ ∀ (i : Nat) y, l[i]? = some y → Q i y
  | 0, _ => ⟨[], rfl, fun i y h => by simp at h⟩
  | n + 1, h => by
    obtain ⟨l, h1, h2⟩ := zda n fun i hi => h i (by omega)
    obtain ⟨y, hy⟩ := h n (by omega)
    refine ⟨l ++ [y], by simp [h1], fun i z hz => ?_⟩
    by_cases hi : i < l.length
    · rw [List.getElem?_append_left hi] at hz; exact h2 i z hz
    · rw [List.getElem?_append_right (by omega)] at hz
      have hz' := (List.getElem?_eq_some_iff.1 hz).1
      have : i - l.length = 0 := by simp at hz'; omega
      rw [this] at hz; simp at hz; subst hz
      rw [show i = n by omega]; exact hy
def CellsRep (w : World) (ps : List PV) (cs : List Value) : Prop := ps.length = cs.length ∧ ∀ (k : Nat) v, ps[k]? = some v → Rep w (fun b => b < w.heap.size) v (cs.getD k undef) ∧ (cs.getD k undef).oneCell' = true
theorem CellsRep.one {w : World} {p : PV} {v : Value} (h : Rep w (fun b => b < w.heap.size) p v) (h1 : v.oneCell' = true) : CellsRep w [p] [v] := by
  refine ⟨rfl, fun k u hk => ?_⟩
  cases k with
  | zero => simp at hk; subst hk; exact ⟨h, h1⟩
  | succ k => simp at hk
theorem CellsRep.app {w : World} {ps qs : List PV} {cs : List Value} {n : Nat} (h1 : CellsRep w ps (cs.take n)) (h2 : CellsRep w qs (cs.drop n)) (hn : n ≤ cs.length) : CellsRep w (ps ++ qs) cs := by
  have l1 := h1.1
  have l2 := h2.1
  simp only [List.length_take, List.length_drop] at l1 l2
  refine ⟨by simp; omega, fun k v hk => ?_⟩
  by_cases hl : k < ps.length
  · rw [List.getElem?_append_left hl] at hk
    have := h1.2 k v hk
    have eg : (cs.take n).getD k undef = cs.getD k undef := by simp only [List.getD]; rw [List.getElem?_take_of_lt (by omega)]
    rwa [eg] at this
  · rw [List.getElem?_append_right (by omega)] at hk
    have := h2.2 _ v hk
    have eg : (cs.drop n).getD (k - ps.length) undef = cs.getD k undef := by simp only [List.getD, List.getElem?_drop]; rw [show n + (k - ps.length) = k by omega]
    rwa [eg] at this
theorem vG {P : Program} {ok : TypeId → Bool} {total : Nat} : ∀ {fs : List Field} {off : Nat}, okF P ok total fs off = true → off ≤ total
  | [], off, h => Nat.le_of_eq (Nat.eq_of_beq_eq_true h)
  | f :: r, off, h => by
    simp only [okF, Bool.and_eq_true] at h
    have := vG h.2
    omega
theorem zdb {H : Type} {P : Program} {w : World} {ok : TypeId → Bool} {r : TypeId → List Value → Option (DataW H × List MemPlace)} {T : TypeId → List PV → Prop}
    (hr : ∀ t, ok t = true → ∀ cs x, r t cs = some x → ∃ ps, T t ps ∧ CellsRep w ps cs) {cs : List Value} {total : Nat} : ∀ (fs : List Field) (off : Nat), okF P ok total fs off = true → cs.length = total →
    (∀ f ∈ fs, ∃ x, r f.type ((cs.drop f.offset).take (P.cellsOf f.type)) = some x) →
    ∃ ps, CellsRep w ps (cs.drop off) ∧ ∀ f ∈ fs, off ≤ f.offset ∧ T f.type ((ps.drop (f.offset - off)).take (P.cellsOf f.type))
  | [], off, h, hl, _ => by
    have := Nat.eq_of_beq_eq_true h
    exact ⟨[], ⟨by simp; omega, fun k v hk => by simp at hk⟩, fun f hf => by simp at hf⟩
  | f :: fs, off, h, hl, hk => by
    have hle := vG h
    simp only [okF, Bool.and_eq_true] at h
    have ho := Nat.eq_of_beq_eq_true h.1.1
    have hle2 := vG h.2
    obtain ⟨x, hx⟩ := hk f (by simp)
    obtain ⟨ps, h1, h2⟩ := hr _ h.1.2 _ _ hx
    obtain ⟨qs, h3, h4⟩ := zdb hr fs _ h.2 hl fun g hg => hk g (by simp [hg])
    rw [ho] at h2
    rw [← List.drop_drop] at h3
    have hpl : ps.length = P.cellsOf f.type := by rw [h2.1]; simp; omega
    refine ⟨ps ++ qs, h2.app h3 (by simp; omega), fun g hg => ?_⟩
    rcases List.mem_cons.1 hg with rfl | hg
    · refine ⟨by omega, ?_⟩
      rw [ho, Nat.sub_self, List.drop_zero, ← hpl, List.take_left']
      · exact h1
      · rfl
    · obtain ⟨g1, g2⟩ := h4 g hg
      refine ⟨by omega, ?_⟩
      rw [List.drop_append, List.drop_of_length_le (by omega), List.nil_append, hpl, show g.offset - off - P.cellsOf f.type = g.offset - (off + P.cellsOf f.type) by omega]
      exact g2
theorem zjg {H : Type} {enc : TypeId × Value → H} {P : Program} {w : World} {held : Bool} : ∀ (d : Nat) (t : TypeId), okT P d t = true → ∀ (n : Nat) (cs : List Value) (x : DataW H × List MemPlace),
    DataW.trod enc P w 0 (fun _ => true) held n t cs = some x → ∃ ps, dX P d t ps ∧ CellsRep w ps cs := by
  intro d
  induction d with
  | zero => intro t ht; cases ht
  | succ d ih =>
    intro t hok n cs x hx
    unfold okT at hok
    unfold dX
    split at hok
    · rename_i hu
      try simp only [hu]
      obtain ⟨b, rfl, _⟩ := DataW.trod_bool hu hx
      exact ⟨_, ⟨_, rfl⟩, CellsRep.one (.bool _) rfl⟩
    · rename_i k hu
      try simp only [hu]
      obtain ⟨m, rfl, _, hw⟩ := DataW.trod_int hu hx
      exact ⟨_, ⟨_, rfl, hw⟩, CellsRep.one (.int _ _) rfl⟩
    · rename_i e hu
      try simp only [hu]
      simp only [Bool.and_eq_true] at hok
      have hpos : 0 < P.cellsOf e := by simpa using hok.1
      rcases DataW.trod_slice hu hx with ⟨rfl, _⟩ | ⟨a, len, cap, elems, rest, n, rfl, rfl, _, _, hle, hmax, hel, he, hr, _⟩
      · exact ⟨_, ⟨true, [], rfl, Nat.zero_le _, fun _ => rfl, fun x hx => by simp at hx⟩, CellsRep.one (.slnil _) rfl⟩
      · obtain ⟨hrl, hr⟩ := hr rfl
        have key : ∀ i, i < cap → ∃ (q : List PV × List Value), dX P d e q.1 ∧ CellsRep w q.1 q.2 ∧ w.cells? 0 (a.add (i * P.cellsOf e)) (P.cellsOf e) = some q.2 := fun i hi => by
          have : ∃ z, (w.cells? 0 (a.add (i * P.cellsOf e)) (P.cellsOf e)).bind (DataW.trod enc P w 0 (fun _ => true) held n e) = some z := by
            by_cases hl : i < len
            · exact ⟨elems[i]'(by omega), by rw [he i hl]; simp [hel, hl]⟩
            · have := hr (i - len) (by omega)
              rw [show len + (i - len) = i by omega] at this
              exact ⟨rest[i - len]'(by omega), by rw [this, List.getElem?_eq_getElem]⟩
          obtain ⟨z, hz⟩ := this
          obtain ⟨cs', h1, h2⟩ := Option.bind_eq_some_iff.1 hz
          obtain ⟨ps, h3, h4⟩ := ih e hok.2 n cs' z h2
          exact ⟨(ps, cs'), h3, h4, h1⟩
        obtain ⟨qs, hq1, hq2⟩ := zda cap key
        have hspot : cap ≠ 0 → a.spot = none := fun hc0 => by
          obtain ⟨q, _, _, h3⟩ := key 0 (by omega)
          obtain ⟨_, h4, h5⟩ := World.cells?_some h3
          have := h5 0 hpos
          have hq0 : 0 < q.2.length := by omega
          rw [List.getElem?_eq_getElem hq0] at this
          simp only [Nat.zero_mul] at this
          have ea : (a.add 0).add 0 = a := by simp [Addr.add]
          rw [ea] at this
          unfold World.cell? at this
          split at this
          · split at this
            · cases this
            · rename_i hs; simpa using hs
          · cases this
        refine ⟨_, ⟨false, (qs.take len).map (·.1), rfl, by simp; omega, (fun h => by cases h), fun x hx => ?_⟩, CellsRep.one ?_ rfl⟩
        · obtain ⟨q, hq, rfl⟩ := List.mem_map.1 hx
          obtain ⟨i, hi⟩ := List.mem_iff_getElem?.1 (List.mem_of_mem_take hq)
          exact (hq2 i q hi).1
        · by_cases hc0 : len = 0
          · subst hc0
            simp only [List.take_zero, List.map_nil]
            exact .slz _ _ _ (fun h => by cases h)
          · have hsp := hspot (by omega)
            obtain ⟨b, off, sp⟩ := a
            simp only at hsp
            subst hsp
            have hlen : ((qs.take len).map (·.1)).length = len := by simp; omega
            have get : ∀ (i : Nat) p, ((qs.take len).map (·.1))[i]? = some p → ∃ q, qs[i]? = some q ∧ p = q.1 := fun i p hp => by
              rw [List.getElem?_map, List.getElem?_take] at hp
              split at hp
              · cases hq : qs[i]? with
                | none => rw [hq] at hp; cases hp
                | some q => rw [hq] at hp; cases hp; exact ⟨q, rfl, rfl⟩
              · cases hp
            have cell : ∀ (i : Nat) p (k : Nat) v, ((qs.take len).map (·.1))[i]? = some p → p[k]? = some v → ∃ cv, w.cell? ⟨b, off + i * P.cellsOf e + k, none⟩ = some cv ∧ Rep w (fun b => b < w.heap.size) v cv ∧ cv.oneCell' = true := fun i p k v hp hk => by
              obtain ⟨q, hq, rfl⟩ := get i p hp
              obtain ⟨_, h2, h3⟩ := hq2 i q hq
              obtain ⟨_, h4, h5⟩ := World.cells?_some h3
              have hkl := (List.getElem?_eq_some_iff.1 hk).1
              have hk2 : k < q.2.length := by rw [← h2.1]; exact hkl
              have := h5 k (by omega)
              rw [cK, cK, List.getElem?_eq_getElem hk2] at this
              refine ⟨_, this, ?_⟩
              have := h2.2 k v hk
              have eg : q.2.getD k undef = q.2[k] := by simp [List.getD, hk2]
              rw [eg] at this; exact this
            have := Rep.sl (w := w) (I := fun b => b < w.heap.size) false ((qs.take len).map (·.1)) b off cap (P.cellsOf e) (fun i k => (w.cell? ⟨b, off + i * P.cellsOf e + k, none⟩).getD undef) (by omega) (fun hf => by cases hf)
              (fun i p hp => by
                obtain ⟨q, hq, rfl⟩ := get i p hp
                obtain ⟨_, h2, h3⟩ := hq2 i q hq
                obtain ⟨_, h4, h5⟩ := World.cells?_some h3
                have := h5 0 hpos
                have hk2 : 0 < q.2.length := by omega
                rw [cK, cK, List.getElem?_eq_getElem hk2] at this
                have := World.block_lt_of_cell? w _ this
                exact ⟨this, this⟩)
              (fun i p hp => by
                obtain ⟨q, hq, rfl⟩ := get i p hp
                obtain ⟨_, h2, h3⟩ := hq2 i q hq
                obtain ⟨_, h4, h5⟩ := World.cells?_some h3
                rw [h2.1, h4])
              (fun i p k v hp hk => by obtain ⟨cv, c1, _⟩ := cell i p k v hp hk; rw [c1]; rfl)
              (fun i p k v hp hk => by obtain ⟨cv, c1, c2, _⟩ := cell i p k v hp hk; rw [c1]; exact c2)
              (fun i p k v hp hk => by obtain ⟨cv, c1, _, c3⟩ := cell i p k v hp hk; rw [c1]; exact c3)
            rw [hlen] at this
            exact this
    · rename_i fs hu
      try simp only [hu]
      obtain ⟨xs, n, rfl, _, hlen, hxl, hxs⟩ := DataW.trod_struct hu hx
      have key : ∀ f ∈ fs.toList, ∃ x, DataW.trod enc P w 0 (fun _ => true) held n f.type ((cs.drop f.offset).take (P.cellsOf f.type)) = some x := fun f hf => by
        obtain ⟨i, hi⟩ := List.mem_iff_getElem?.1 hf
        have hil := (List.getElem?_eq_some_iff.1 hi).1
        have h1 := hxs i f (by simpa using hi)
        exact ⟨xs[i]'(by simp at hil; omega), by rw [h1, List.getElem?_eq_getElem]⟩
      obtain ⟨ps, h1, h2⟩ := zdb (fun t ht cs x hx => ih t ht n cs x hx) fs.toList 0 hok hlen key
      rw [List.drop_zero] at h1
      refine ⟨ps, ⟨by rw [h1.1, hlen], fun f hf => ?_⟩, h1⟩
      have := (h2 f hf).2
      rwa [Nat.sub_zero] at this
    · cases hok
def kP (P : Program) (d : Nat) (t : TypeId) (v : PV) : Prop :=
  match P.underlying t with
  | some (.struct _) => ∃ ps, v = .agg ps ∧ dX P d t ps
  | _ => dX P d t [v]
def oL (P : Program) (d : Nat) : List TypeId → List PV → Prop
  | [], ps => ps = []
  | t :: ts, ps => ∃ v r, ps = v :: r ∧ kP P d t v ∧ oL P d ts r
theorem zjh {H : Type} {enc : TypeId × Value → H} {P : Program} {w : World} {held : Bool} {r : Reach} {base : Nat} {d : Nat} {t : TypeId} (hok : okT P d t = true) {v : Value} (hv : Value.okWide P w r base t v) {x : DataW H} {ps : List MemPlace}
    (h : DataW.Trod enc P w 0 (fun _ => true) held t v x ps) : ∃ pv, kP P d t pv ∧ Rep w (fun b => b < w.heap.size) pv v := by
  obtain ⟨n, hn⟩ := h
  obtain ⟨qs, h1, h2⟩ := zjg d t hok n _ _ hn
  have one : v.cells.toList = [v] → dX P d t qs → ∃ pv, dX P d t [pv] ∧ Rep w (fun b => b < w.heap.size) pv v := fun hc h1 => by
    rw [hc] at h2
    match qs, h2.1 with
    | [q], _ => exact ⟨q, h1, (h2.2 0 q rfl).1⟩
  unfold kP
  cases d with
  | zero => cases hok
  | succ d =>
    have hok0 := hok
    unfold okT at hok
    split at hok
    · rename_i hu
      try simp only [hu]
      obtain ⟨b, hb⟩ : ∃ b, v = .bool b := by simp only [Value.okWide, hu, Cell.okWide] at hv; cases v <;> simp_all [Cell.ok]
      exact one (by rw [hb]; rfl) h1
    · rename_i k hu
      try simp only [hu]
      obtain ⟨m, rfl⟩ := okWide_int hu hv
      exact one rfl h1
    · rename_i e hu
      try simp only [hu]
      obtain ⟨a, len, cap, rfl⟩ := okWide_slice hu hv
      exact one rfl h1
    · rename_i fs hu
      try simp only [hu]
      simp only [Value.okWide, hu] at hv
      obtain ⟨cs, rfl, _, _⟩ := hv
      refine ⟨.agg qs, ⟨qs, rfl, h1⟩, .agg qs cs (by have := h2.1; simpa [Value.cells] using this.symm) (fun k u hk => ?_) (fun k u hk => ?_)⟩
      · have := (h2.2 k u hk).1; simpa [Value.cells, List.getD] using this
      · have := (h2.2 k u hk).2; simpa [Value.cells, List.getD] using this
    · cases hok
theorem zdc {H : Type} {enc : TypeId × Value → H} {P : Program} {w : World} {held : Bool} {r : Reach} {base : Nat} {d : Nat} : ∀ {ts : List TypeId} {vs : List Value} {ds : List (DataW H)} {ps : List MemPlace}, (∀ t ∈ ts, okT P d t = true) →
    (∀ (j : Nat) t v, ts[j]? = some t → vs[j]? = some v → Value.okWide P w r base t v) → DataW.TrodAll enc P w 0 (fun _ => true) held ts vs ds ps →
    ∃ pvs, oL P d ts pvs ∧ pvs.length = vs.length ∧ ds.length = ts.length ∧ ∀ (i : Nat) p, pvs[i]? = some p → Rep w (fun b => b < w.heap.size) p (vs.getD i undef)
  | [], vs, ds, ps, _, _, h => by
    cases vs <;> cases ds <;> simp [DataW.TrodAll] at h
    exact ⟨[], rfl, rfl, rfl, fun i p hi => by simp at hi⟩
  | t :: ts, vs, ds, ps, ht, hv, h => by
    obtain ⟨v, vs', x, ds', p, q, rfl, rfl, rfl, h1, h2⟩ := trodAll_cons h
    obtain ⟨pv, g1, g2⟩ := zjh (ht t (by simp)) (hv 0 t v rfl rfl) h1
    obtain ⟨pvs, g3, g4, g5, g6⟩ := zdc (fun t h => ht t (by simp [h])) (fun j t v h1 h2 => hv (j + 1) t v (by simpa using h1) (by simpa using h2)) h2
    refine ⟨pv :: pvs, ⟨pv, pvs, rfl, g1, g3⟩, by simp [g4], by simp [g5], fun i u hi => ?_⟩
    cases i with
    | zero => simp at hi; subst hi; exact g2
    | succ i => simp at hi; simpa using g6 i u hi
theorem PCall.lawK {P : Program} {f : Nat} {ps : List PV} (hc : PCall P f ps fun v => v = .bool true) {args : Array Value} {w : World} (hn : args.size = ps.length)
    (hr : ∀ (i : Nat) v, ps[i]? = some v → Rep w (fun b => b < w.heap.size) v (args.getD i undef)) :
    Calls P f args w fun e w' => e = .returned (.bool true) ∧ (w.keptBut w' (fun _ => False) ∧ ∀ a, a.block < w.heap.size → w'.frozen? a = w.frozen? a) ∧ ∀ b, b < w.heap.size → w'.heap[b]? = w.heap[b]? := by
  refine (hc.2 w (fun b => b < w.heap.size) (fun _ => ⟨0, 0, 0, 0⟩) args (HRel.nil _ fun b hb => hb) (by simpa using hn) (fun i v hi => ?_)).mono fun e w' ⟨cv, r, h', I', G', e1, ⟨v, e2, hq⟩, e3, e4, e5⟩ => ?_
  · rw [List.getElem?_map] at hi
    cases hp : ps[i]? with
    | none => rw [hp] at hi; cases hi
    | some p => rw [hp] at hi; cases hi; exact .pv _ _ (hr i p hp)
  · subst e2
    subst hq
    have hno : ∀ b, ¬ aU [] (fun _ => (⟨0, 0, 0, 0⟩ : Pl)) b := fun b ⟨o, ob, ho, _⟩ => by simp at ho
    have e5 := e5.t
    have hk : ∀ b, b < w.heap.size → w'.heap[b]? = w.heap[b]? := fun b hb => e5.keep b hb (hno b)
    have := e4.bool_eq
    subst this
    exact ⟨e1, ⟨zje e5.os e5.output hk, e5.frz⟩, hk⟩
theorem zdd {H : Type} {enc : TypeId × Value → H} {P : Program} {w w' : World} {base : Nat} {spare : Nat → Bool} {held : Bool} : ∀ {ts : List TypeId} {vs : List Value} {ds : List (DataW H)} {ps : List MemPlace}, DataW.TrodAll enc P w base spare held ts vs ds ps →
    (∀ p ∈ ps, w.sameAt w' p) → DataW.TrodAll enc P w' base spare held ts vs ds ps
  | [], [], [], ps, h, _ => h
  | t :: ts, v :: vs, d :: ds, ps, ⟨p, q, ⟨n, h1⟩, h2, e⟩, hs => ⟨p, q, ⟨n, DataW.trod_carry n t _ _ h1 fun x hx => hs x (by rw [e]; exact List.mem_append_left _ hx)⟩, zdd h2 (fun x hx => hs x (by rw [e]; exact List.mem_append_right _ hx)), e⟩
theorem zji {H : Type} {enc : TypeId × Value → H} {P : Program} {f : Func} {s : ChangeSpec} {apart fresh handsOn again : Bool} {W W' : World} {args : Array Value} {v : Value} {ds gs : List (DataW H)} {before pa pv : List MemPlace}
    (hW : DataW.Whole enc P f.params.toList s.vars apart W args.toList ds gs before)
    (hres : ∀ (b : Nat) (sp : Nat → Bool) (hd : Bool), DataW.TrodAll enc P W' b sp hd f.resultTypes.toList (v.resultList f.resultTypes.size) (s.fn H (ds ++ gs)).results [])
    (hargs : ∀ sp : Nat → Bool, (∀ p ∈ before, sp p.block = true) → DataW.TrodAll enc P W' 0 sp true f.params.toList args.toList (s.fn H (ds ++ gs)).args pa)
    (hvars : ∀ sp : Nat → Bool, (∀ p ∈ before, sp p.block = true) → DataW.TrodVars enc P W' sp s.vars (s.fn H (ds ++ gs)).vars pv)
    (hps : before = pa ++ pv) (hk : W.keptBut W' (· ∈ before)) (hfz : ∀ a, a.block < W.heap.size → W'.frozen? a = W.frozen? a)
    (hok : ∀ (j : Nat) (t : TypeId) (r : Value), f.resultTypes[j]? = some t → (v.resultList f.resultTypes.size)[j]? = some r → Value.okWide P W' .any 0 t r) :
    s.post enc P f apart fresh handsOn again W args v W' := by
  have hlt := hW.lt
  have hold : ∀ p ∈ before, (fun b => decide (b < W.heap.size)) p.block = true := fun p hp => by simpa using hlt p hp
  refine ⟨ds, gs, before, [], pa, pv, hW, hres _ _ _, hargs _ hold, hvars _ hold, World.keptBut_mono (fun p hp => ⟨hp, ?_⟩) hk, fun _ => ?_⟩
  · rw [hps, List.mem_append] at hp
    exact Or.inr hp
  · obtain ⟨_, _, _, _, _, hz, hn⟩ := hW
    refine ⟨hok, _, _, ([] ++ pa) ++ pv, ⟨[] ++ pa, pv, trodAll_append (hargs _ (fun _ _ => rfl)) (hres _ _ _), hvars _ (fun _ _ => rfl), rfl, ?_, ?_⟩, ?_⟩
    · intro b off hp
      have hb : MemPlace.cell b off ∈ before := by rw [hps]; simpa using hp
      rw [hfz _ (hlt _ hb)]
      exact hz b off hb
    · intro ha
      have := hn ha
      rw [hps] at this
      simpa using this
    · intro p hp _
      rw [hps]
      simpa using hp
theorem rowStep {C : Checked} {f : FuncId} {fn : Func} {s : ChangeSpec} {apart fresh handsOn again : Bool} {tb : TypeId} {H : Type} {enc : TypeId × Value → H} {d : Nat} (hvars : s.vars = [])
    (hspec : ∀ ds : List (DataW H), ds.length = fn.params.toList.length → s.fn H ds = { results := [.lit (.bool true)], args := ds }) (hres : fn.resultTypes = #[tb]) (htb : C.prog.underlying tb = some .bool)
    (hp : ∀ t ∈ fn.params.toList, okT C.prog d t = true) (hpl : ∀ t ∈ fn.params.toList, t < C.prog.types.size) (hlaid : laidOutB C.prog = true) (hmaps : mapsRowed C.prog = true)
    (hfull : ((List.range C.prog.types.size).all fun t => match C.prog.underlying t with | some (.slice e) => decide (0 < C.prog.cellsOf e) | _ => true) = true)
    (law : ∀ pvs, oL C.prog d fn.params.toList pvs → PCall C.prog f pvs fun v => v = .bool true)
    (W : World) (base : Nat) (args : Array Value) (ds gs : List (DataW H)) (before : List MemPlace) (hval : ∀ (j : Nat) t v, fn.params[j]? = some t → args[j]? = some v → Value.okWide C.prog W .any base t v)
    (hW : DataW.Whole enc C.prog fn.params.toList s.vars apart W args.toList ds gs before) :
    Calls C.prog f args W fun e W' => ∃ v, e = .returned v ∧ s.post enc C.prog fn apart fresh handsOn again W args v W' := by
  have hlt := hW.lt
  have hW0 := hW
  obtain ⟨p, q, hA, hV, rfl, hfz, hnd⟩ := hW
  rw [hvars] at hV
  obtain ⟨rfl, rfl⟩ := trodVars_none hV
  obtain ⟨pvs, h1, h2, h3, h4⟩ := zdc (d := d) hp (fun j t v g1 g2 => hval j t v (by simpa using g1) (by simpa using g2)) hA
  refine (PCall.lawK (law pvs h1) (by simpa using h2.symm) (fun i v hi => by simpa [List.getD] using h4 i v hi)).mono fun e W' ⟨he, hg, hk⟩ => ?_
  have hz : ∀ t e, t < C.prog.types.size → C.prog.underlying t = some (.slice e) → 0 < C.prog.cellsOf e := slices_full_of _ hfull
  have hsp := hspec ds h3
  have hsame : ∀ x ∈ p, W.sameAt W' x := fun x hx => by
    have := hlt x (by simp [hx])
    cases x with
    | cell b off => exact World.cell?_of_block (w := W) (hk b this)
    | map b => exact hk b this
  refine ⟨_, he, zji (pa := p) (pv := []) hW0 (fun b sp hd => ?_) (fun sp hs => ?_) (fun sp hs => ?_) rfl (World.keptBut_mono (fun _ f => f.elim) hg.1) hg.2 (ok_one hres rfl (okWide_bool_mk htb _))⟩
  · rw [List.append_nil, hsp, hres]
    exact trodAll_cons_mk (shut_bool htb _) trodAll_mk0
  · rw [List.append_nil, hsp]
    exact zdd (hA.respare (kids_rows hlaid hmaps) (fun t e h1 h2 => hz t e h1 h2) hpl (fun x hx => hs x (by simp [hx]))) hsame
  · rw [List.append_nil, hsp, hvars]; rfl
def zde (P : Program) (t : TypeId) : Option (List (TypeId × Nat × Nat)) :=
  match P.underlying t with
  | some (.struct fs) => some (fs.toList.map fun f => (f.type, f.offset, P.cellsOf f.type))
  | _ => none
theorem zdf {P : Program} {n : Nat} {t : TypeId} {k : IntKind} {ps : List PV} (hu : P.underlying t = some (.int k)) (h : dX P (n + 1) t ps) : ∃ m, ps = [.int k m] ∧ (Lit.int k m).wf = true := by
  unfold dX at h; rw [hu] at h; exact h
theorem zjj {P : Program} {n : Nat} {t e : TypeId} {ps : List PV} (hu : P.underlying t = some (.slice e)) (h : dX P (n + 1) t ps) : ∃ nl es, ps = [.sl nl false es] ∧ es.length ≤ maxLen ∧ (nl = true → es = []) ∧ ∀ x ∈ es, dX P n e x := by
  unfold dX at h; rw [hu] at h; exact h
theorem zdg {α β : Type} {f : α → β} {Q : α → Prop} : ∀ {l : List β}, (∀ x ∈ l, ∃ y, x = f y ∧ Q y) → ∃ m : List α, l = m.map f ∧ ∀ y ∈ m, Q y
  | [], _ => ⟨[], rfl, fun y hy => by simp at hy⟩
  | x :: r, h => by
    obtain ⟨y, rfl, hq⟩ := h x (by simp)
    obtain ⟨m, rfl, hm⟩ := zdg (l := r) fun z hz => h z (by simp [hz])
    refine ⟨y :: m, rfl, fun z hz => ?_⟩
    rcases List.mem_cons.1 hz with rfl | hz
    · exact hq
    · exact hm z hz
theorem zjk {P : Program} {n : Nat} {t e : TypeId} {ps : List PV} (hu : P.underlying t = some (.slice e)) (he : P.underlying e = some (.int .i32)) (h : dX P (n + 2) t ps) :
    ∃ nl l, ps = [.sl nl false (aA l)] ∧ l.length ≤ maxLen ∧ (nl = true → l = []) ∧ ∀ x ∈ l, -2147483648 ≤ x ∧ x ≤ 2147483647 := by
  obtain ⟨nl, es, rfl, h1, h2, h3⟩ := zjj hu h
  obtain ⟨m, rfl, hm⟩ := zdg (f := fun k => [PV.int .i32 k]) (Q := fun x => (-2147483648 : Int) ≤ x ∧ x ≤ 2147483647) (l := es) fun x hx => by
    obtain ⟨k, rfl, hk⟩ := zdf he (h3 x hx)
    exact ⟨k, rfl, zjf hk⟩
  exact ⟨nl, m, rfl, by simpa using h1, fun h => by simpa using h2 h, hm⟩
theorem zdh {P : Program} {d : Nat} {t : TypeId} {v : PV} (hn : zde P t = none) (h : kP P d t v) : dX P d t [v] := by
  unfold kP at h
  unfold zde at hn
  split at h
  · rename_i hu; rw [hu] at hn; cases hn
  · exact h
end Go.Eng


namespace Go.Eng
open Go
theorem rK {α : Type} {enc : α → List PV} {sz : Nat} (hs : ∀ x, (enc x).length = sz) (l : List α) : aR (l.map enc) sz := by
  intro e he
  cases l with
  | nil => simp at he
  | cons x l => simp only [List.map_cons, List.head?_cons, Option.some.injEq] at he; subst he; exact hs x
theorem cC {α : Type} {enc : α → List PV} {l : List α} {i : Nat} (h : i < l.length) : (l.map enc).getD i [] = enc l[i] := by
  simp [List.getD, h]
theorem bM {α : Type} {enc : α → List PV} {sz : Nat} (hs : ∀ x, (enc x).length = sz) {l : List α} {i : Int} (h0 : 0 ≤ i) (h : i < l.length) : aO (l.map enc) i sz := by
  refine ⟨h0, by simpa using h, ?_⟩
  rw [cC (by omega)]
  exact hs _
theorem rL {α : Type} {l : List α} {i : Nat} (h : i < l.length) : l.drop i = l[i] :: l.drop (i + 1) := List.drop_eq_getElem_cons h
theorem bN {c : Prop} [Decidable c] {a b : Prop} (h : c) (ha : a) : if c then a else b := by rw [if_pos h]; exact ha
theorem bO {c : Prop} [Decidable c] {a b : Prop} (h : ¬ c) (hb : b) : if c then a else b := by rw [if_neg h]; exact hb
theorem aI {c : Prop} [Decidable c] {a b : Prop} (ha : c → a) (hb : ¬ c → b) : if c then a else b := by
  by_cases h : c
  · rw [if_pos h]; exact ha h
  · rw [if_neg h]; exact hb h
end Go.Eng


namespace Go.Eng
open Go
def bP {α β : Type} (ek : α → PV) (ev : β → PV) (M : List (α × β)) : List (PV × PV) := M.map fun p => (ek p.1, ev p.2)
def bQ {α β : Type} [DecidableEq α] (a : α) : List (α × β) → Option β
  | [] => none
  | (x, y) :: r => if a = x then some y else bQ a r
def bJ {α β : Type} [DecidableEq α] (a : α) (b : β) : List (α × β) → List (α × β)
  | [] => [(a, b)]
  | (x, y) :: r => if a = x then (a, b) :: r else (x, y) :: bJ a b r
theorem zdi {α β : Type} {ek : α → PV} {ev : β → PV} (M : List (α × β)) : (bP ek ev M).length = M.length := by simp [bP]
section
variable {α β : Type} [DecidableEq α] {ek : α → PV} {ev : β → PV}
theorem vH (hk : ∀ a b, d9 (ek a) (ek b) = decide (a = b)) (a : α) : ∀ (M : List (α × β)), (bB (ek a) (bP ek ev M) = none ∧ bQ a M = none ∧ ∀ b, bJ a b M = M ++ [(a, b)]) ∨
    ∃ j y, bB (ek a) (bP ek ev M) = some j ∧ M[j]? = some (a, y) ∧ bQ a M = some y ∧ ∀ b, bJ a b M = M.set j (a, b)
  | [] => .inl ⟨rfl, rfl, fun _ => rfl⟩
  | (x, y) :: r => by
    simp only [bP, List.map_cons, bB, hk, bQ, bJ]
    by_cases h : a = x
    · subst h
      simp only [decide_true, cond_true, if_true]
      exact .inr ⟨0, y, rfl, rfl, rfl, fun b => rfl⟩
    · simp only [h, decide_false, cond_false, if_false]
      rcases vH hk a r with ⟨h1, h2, h3⟩ | ⟨j, z, h1, h2, h3, h4⟩
      · refine .inl ⟨?_, h2, fun b => by rw [h3]; rfl⟩
        show (bB (ek a) (bP ek ev r)).map _ = none
        rw [h1]; rfl
      · refine .inr ⟨j + 1, z, ?_, by simpa using h2, h3, fun b => by rw [h4]; rfl⟩
        show (bB (ek a) (bP ek ev r)).map _ = _
        rw [h1]; rfl
theorem kQ (hk : ∀ a b, d9 (ek a) (ek b) = decide (a = b)) (a : α) (M : List (α × β)) : bS (ek a) (bP ek ev M) = (bQ a M).map ev := by
  unfold bS
  rcases vH (ev := ev) hk a M with ⟨h1, h2, h3⟩ | ⟨j, z, h1, h2, h3, h4⟩
  · rw [h1, h2]; rfl
  · rw [h1, h3]
    simp only [Option.map_some, bP, List.getD, List.getElem?_map, h2, Option.getD_some]
theorem gW (hk : ∀ a b, d9 (ek a) (ek b) = decide (a = b)) (a : α) (b : β) (M : List (α × β)) : aP (ek a) (ev b) (bP ek ev M) = bP ek ev (bJ a b M) := by
  unfold aP
  rcases vH (ev := ev) hk a M with ⟨h1, h2, h3⟩ | ⟨j, z, h1, h2, h3, h4⟩
  · rw [h1, h3]; simp [bP]
  · rw [h1, h4]
    simp only [bP, List.map_set]
theorem kR (x a : α) (b : β) : ∀ (M : List (α × β)), bQ x (bJ a b M) = if x = a then some b else bQ x M
  | [] => rfl
  | (u, v) :: r => by
    simp only [bJ]
    by_cases h : a = u
    · subst h
      simp only [if_true, bQ]
      by_cases h2 : x = a <;> simp [h2]
    · simp only [h, if_false, bQ, kR x a b r]
      by_cases h2 : x = u
      · subst h2; have : ¬ x = a := fun e => h e.symm; simp [this]
      · simp [h2]
theorem vI (a : α) (b : β) (M : List (α × β)) : (bJ a b M).map (·.1) = if a ∈ M.map (·.1) then M.map (·.1) else M.map (·.1) ++ [a] := by
  induction M with
  | nil => simp [bJ]
  | cons p r ih =>
    obtain ⟨u, v⟩ := p
    simp only [bJ]
    by_cases h : a = u
    · subst h; simp
    · simp only [h, if_false, List.map_cons, ih, List.mem_cons, false_or]
      split <;> simp
theorem zdj {a : α} {b : β} {M : List (α × β)} (h : (M.map (·.1)).Nodup) : ((bJ a b M).map (·.1)).Nodup := by
  rw [vI]
  split
  · exact h
  · rename_i hn
    refine List.nodup_append.2 ⟨h, by simp, fun x hx y hy => ?_⟩
    simp only [List.mem_singleton] at hy
    subst hy
    exact fun e => hn (e ▸ hx)
theorem zdk {x a : α} {b : β} {M : List (α × β)} : x ∈ (bJ a b M).map (·.1) ↔ x ∈ M.map (·.1) ∨ x = a := by
  rw [vI]
  split
  · rename_i h; exact ⟨.inl, fun h' => h'.elim id fun e => e ▸ h⟩
  · simp
theorem zdl (a : α) (b : β) (M : List (α × β)) : (bJ a b M).length ≤ M.length + 1 := by
  have := congrArg List.length (vI a b M)
  rw [List.length_map] at this
  rw [this]
  split <;> simp
end
theorem oO (q : IntKind) (a b : Int) : d9 (.int q a) (.int q b) = decide (a = b) := by
  show (a == b) = _
  by_cases h : a = b <;> simp [h]
theorem kS {q : IntKind} {β : Type} {ev : β → PV} (M : List (Int × β)) : eT q (bP (fun n => .int q n) ev M) := by
  intro kv h
  simp only [bP, List.mem_map] at h
  obtain ⟨p, _, rfl⟩ := h
  exact ⟨_, rfl⟩
theorem zdm {α : Type} : ∀ {M : List α} {j : Nat} (hj : j < M.length), (M[j] :: M.eraseIdx j).Perm M
  | x :: M, 0, _ => List.Perm.refl _
  | x :: M, j + 1, hj => by
    simp only [List.getElem_cons_succ, List.eraseIdx_cons_succ]
    exact (List.Perm.swap _ _ _).trans ((zdm (by simpa using hj)).cons x)
theorem zdn {α β : Type} (f : α → β) : ∀ (M : List α) (j : Nat), (M.map f).eraseIdx j = (M.eraseIdx j).map f
  | [], _ => by simp
  | x :: M, 0 => rfl
  | x :: M, j + 1 => by simp [zdn f M j]
theorem zjl {α β : Type} {ek : α → PV} {ev : β → PV} {M : List (α × β)} {j : Nat} {k v : PV} (h : (bP ek ev M)[j]? = some (k, v)) : ∃ (hj : j < M.length), k = ek M[j].1 ∧ v = ev M[j].2 ∧ (M[j] :: M.eraseIdx j).Perm M ∧ (bP ek ev M).eraseIdx j = bP ek ev (M.eraseIdx j) := by
  simp only [bP, List.getElem?_map] at h
  cases hq : M[j]? with
  | none => rw [hq] at h; cases h
  | some p =>
    rw [hq] at h; cases h
    obtain ⟨hj, hp⟩ := List.getElem?_eq_some_iff.1 hq
    refine ⟨hj, by rw [hp], by rw [hp], zdm hj, ?_⟩
    exact zdn _ _ _
end Go.Eng

