/- One engine for all of this seat: abstract states, run over the code. -/
import Derived.Test.YtgkdfpjdcbapcaaEngB
import Derived.OrdersHeld
import Derived.StillTail
import Derived.Deep.RegionHeld3
import Derived.Deep.LoopGhost
import Derived.RowKit3
set_option linter.unusedVariables false
set_option linter.unusedSimpArgs false
namespace Go.Eng
open Go

/-! ### Regions that draw their order -/
section
variable {P : Program} {ops : Array Oper} {Q : Exit → Act → World → Prop}

/-- Whatever order is picked from here on: behind each operation but the last one, number n, every block is as it was. -/
def wpW (P : Program) (ops : Array Oper) (Q : Exit → Act → World → Prop) (n : Nat) : Nat → Array Bool → Act → World → Prop
  | 0, listed, a, w => Region.ready .any ops listed = [] ∧ Q .normal a w
  | f + 1, listed, a, w => Region.ready .any ops listed ≠ [] ∧
    ∀ i ∈ Region.ready .any ops listed, wpOp P ops Q i (fun a' w' => (i = n ∨ KA w w') ∧ wpW P ops Q n f (listed.setIfInBounds i true) a' w') a w
theorem wpAny_of_wpW {n : Nat} : ∀ (f : Nat) (listed : Array Bool) (a : Act) (w : World), wpW P ops Q n f listed a w → wpAny P .any ops Q f listed a w
  | 0, _, _, _, h => h
  | f + 1, _, _, _, h => ⟨fun h0 => absurd h0 h.1, fun i hi => wpOp_mono (fun a' w' h' => wpAny_of_wpW f _ a' w' h'.2) (h.2 i hi)⟩

/-- Operation n waits for every other one. -/
def lastB (ops : Array Oper) (n : Nat) : Bool := (List.range ops.size).all fun i => Nat.beq i n || Region.waitsFor .any ops n i

theorem not_ready_of_waits {n i : Nat} {listed : Array Bool} (hw : Region.waitsFor .any ops n i = true) (hi : listed.getD i true = false) : n ∉ Region.ready .any ops listed := fun hr => by
  obtain ⟨on, hon, e, he, hb, heq⟩ := Region.waitsFor_spec hw
  obtain ⟨_, o', ho', hall⟩ := mem_ready.1 hr
  have : o' = on := Option.some.inj (ho'.symm.trans hon)
  subst this
  have h1 := hall e he hb
  rw [heq, getD_both hi] at h1
  cases h1

theorem wpW_first {n i : Nat} {oi : Oper} {v : Value} (hi : ops[i]? = some oi) (hsel : ∀ (j : Nat) (o : Oper) cs b, ops[j]? = some o → o.op ≠ .select cs b)
    (hQ : ∀ c a w, Q (.panic c) (a.put oi.dst v) w → Q (.panic c) a w) (hn : n = ops.size ∨ lastB ops n = true) (hin : i ≠ n) :
    ∀ (f : Nat) (listed : Array Bool) (a : Act) (w : World),
      (∀ j oj, ops[j]? = some oj → j ≠ i → listed.getD j true = false → (∀ e ∈ oj.after, Region.binds .any e = true → e.on ≠ i) → oi.apart ops oj = true) →
      i ∈ Region.ready .any ops listed → YieldsIf P ops (KA w) oi v a →
      wpW P ops Q n f (listed.setIfInBounds i true) (a.put oi.dst v) w → wpW P ops Q n (f + 1) listed a w := by
  have hlt : i < ops.size := (Array.getElem?_eq_some_iff.1 hi).1
  intro f
  induction f with
  | zero =>
    intro listed a w _ hr hy H
    refine ⟨fun h => (by rw [h] at hr; cases hr), fun j hj => ?_⟩
    by_cases hji : j = i
    · subst hji; exact hy.wpOp hi (KA.refl w) ⟨.inr (KA.refl w), H⟩
    · have := ready_mono hj hji
      rw [H.1] at this
      cases this
  | succ f ih =>
    intro listed a w hfree hr hy H
    refine ⟨fun h => (by rw [h] at hr; cases hr), fun j hj => ?_⟩
    by_cases hji : j = i
    · subst hji; exact hy.wpOp hi (KA.refl w) ⟨.inr (KA.refl w), H⟩
    · have hjn : j ≠ n := fun e => by
        subst e
        rcases hn with hn | hn
        · obtain ⟨_, oj, hoj, _⟩ := mem_ready.1 hj
          have := (Array.getElem?_eq_some_iff.1 hoj).1
          omega
        · have := List.all_eq_true.1 hn i (List.mem_range.2 hlt)
          simp only [Bool.or_eq_true] at this
          rcases this with h | h
          · exact hji (Nat.eq_of_beq_eq_true h).symm
          · exact not_ready_of_waits h (mem_ready.1 hr).1 hj
      have h1 := H.2 j (ready_mono hj hji)
      obtain ⟨hjun, oj, hoj, hall⟩ := mem_ready.1 hj
      have hnot : ∀ e ∈ oj.after, Region.binds .any e = true → e.on ≠ i := fun e he hb heq => by
        have h1 := hall e he hb
        have h0 := (mem_ready.1 hr).1
        rw [heq] at h1
        rcases Nat.lt_or_ge i listed.size with h' | h'
        · simp [h'] at h0 h1; rw [h0] at h1; cases h1
        · simp [Array.getElem?_eq_none h'] at h1
      have h2 := wpOp_putIf hoj (hfree j oj hoj hji hjun hnot) (fun cs b => hsel i oi cs b hi) (fun cs b => hsel j oj cs b hoj) hQ hy h1
      have hfree' : ∀ k ok, ops[k]? = some ok → k ≠ i → (listed.setIfInBounds j true).getD k true = false →
          (∀ e ∈ ok.after, Region.binds .any e = true → e.on ≠ i) → oi.apart ops ok = true := fun k ok hk hki hun hno => by
        refine hfree k ok hk hki ?_ hno
        by_cases hjk : j = k
        · subst hjk; exact hjun
        · rw [getD_set_ne true hjk] at hun; exact hun
      refine wpOp_mono (fun a' w' ⟨hy', hKA, h3⟩ => ⟨hKA, ?_⟩) h2
      have hKA : KA w w' := hKA.resolve_left hjn
      refine ih (listed.setIfInBounds j true) a' w' hfree' (ready_mono hr (Ne.symm hji)) (hy'.imp (fun ⟨q1, q2⟩ => ⟨q1, fun w2 h2 => q2 w2 (hKA.trans h2)⟩) id) ?_
      rw [Array.setIfInBounds_comm _ _ hji]
      exact h3

theorem wp_region_W {id : Nat} {a : Act} {w : World} {n : Nat} (hm : P.follows .mixedOrders = true) (h : wpW P ops (NoPanic Q) n ops.size (Array.replicate ops.size false) a w.drew) : (Code.region id ops true).wp P Q a w :=
  wp_region_noPanic (wp_region_any hm (wpAny_of_wpW _ _ _ _ h))
end

/-- What 'OpS' and 'OpK' have in common. -/
def OpZ (Z : World → World → Prop) (P : Program) (o : Oper) (e : Env) (h : Hp) (K : Kt) : Prop :=
  ∀ (w : World) (I : Nat → Prop) (G : Nat → Pl) (a : Act) (next : Act → World → Prop) (Qx : Exit → Act → World → Prop), HRel w I G h → ERel w I G h e a.tmps →
    (∀ v e' h' w' I' G' cv, K v e' h' → HRel w' I' G' h' → ERel w' I' G' h' e' a.tmps → LRel w' I' G' h' v cv → Tr w I (Owns h G) w' I' (Owns h' G') → Z w w' → next (a.put o.dst cv) w') →
    o.wp P a w next Qx
theorem OpZ.ofS {P : Program} {o : Oper} {e : Env} {h : Hp} {K : Kt} (hk : OpS P o e h K) : OpZ (fun _ _ => True) P o e h K :=
  fun w I G a next Qx hh he hn => hk w I G a next Qx hh he fun v e' h' w' I' G' cv h1 h2 h3 h4 h5 => hn v e' h' w' I' G' cv h1 h2 h3 h4 h5 trivial

/-- One operation of a region. -/
theorem aOps1 {P : Program} {N : Nat} {ops : Array Oper} {Qx : Exit → Act → World → Prop} {K : Env → Hp → Prop} {o : Oper} {k : Nat} {e : Env} {h : Hp} {Z : World → World → Prop} (hZ0 : ∀ w, Z w w)
    (hZ : ∀ e1 K', aOp P e1 h o K' → OpZ Z P o e1 h K') (h0 : ops[k]? = some o) (hK : aOps P N ops.toList [o] e h K) {w : World} {I : Nat → Prop} {G : Nat → Pl} {a : Act} (hs : SRel w I G e h N a) {next : Act → World → Prop}
    (hq : ∀ e' h' w' I' G' a', K e' h' → SRel w' I' G' e' h' N a' → a'.defers = a.defers → Tr w I (Owns h G) w' I' (Owns h' G') → Z w w' → next a' w') : wpOp P ops Qx k next a w := by
  unfold wpOp
  simp only [h0]
  unfold aOps at hK
  cases hd : dstOK N o with
  | false => rw [hd] at hK; cases hK
  | true =>
    rw [hd] at hK
    simp only [cond_true] at hK
    have run : ∀ {e1 : Env}, ERel w I G h e1 a.tmps → aOp P e1 h o (fun v e h => aOps P N ops.toList [] (put o v e) h K) → o.wp P a w next Qx := fun {e1} he1 hop => by
      refine hZ _ _ hop w I G a _ _ hs.hh he1 fun v e' h' w' I' G' cv hk hh' he' hv' htr hz => ?_
      obtain ⟨hs', hdef⟩ := put_rel hd hs.hn hh' he' hv'
      exact hq _ _ w' I' G' _ hk hs' hdef htr hz
    have skip : ∀ {e1 : Env}, SRel w I G e1 h N (a.put o.dst undef) → aOps P N ops.toList [] e1 h K → next (a.put o.dst undef) w := fun {e1} hs1 hop =>
      hq _ _ w I G _ hop hs1 (by unfold Act.put; cases o.dst <;> rfl) (.refl _ _ _) (hZ0 w)
    split at hK
    · rename_i hg
      have hw : Region.wanted o (yielded ops a.tmps) = true := by simp [Region.wanted, hg]
      rw [if_pos hw]
      exact .inl (run hs.he hK)
    · rename_i j want hg
      have hwd : Region.wanted o (yielded ops a.tmps) = (yielded ops a.tmps j == some want) := by simp [Region.wanted, hg]
      split at hK
      · rename_i s hds
        have hyield : (yielded ops a.tmps j = some want ↔ a.tmps.getD s undef = .bool want) := by
          unfold dstOf at hds
          split at hds
          · rename_i oj hoj
            have hoj' : ops[j]? = some oj := by simpa using hoj
            unfold yielded
            simp only [hoj', Option.bind_some, hds]
            rw [Array.getD_eq_getD_getElem?]
            cases hts : a.tmps[s]? with
            | none => simp [undef]
            | some v => cases v <;> simp
          · cases hds
        split at hK
        · rename_i e' hsp
          unfold specE at hsp
          split at hsp
          · rename_i d hdst
            cases hsd : Nat.beq s d with
            | true => rw [hsd] at hsp; cases hsp
            | false =>
              rw [hsd] at hsp
              simp only [cond_false] at hsp
              have hne : s ≠ d := fun e => by subst e; simp at hsd
              have hlt : d < a.tmps.size := by rw [hs.hn]; unfold dstOK at hd; rw [hdst] at hd; exact Nat.le_of_ble_eq_true hd
              split at hsp
              · rename_i v hv
                cases hsp
                by_cases hwt : a.tmps.getD s undef = .bool want
                · rw [if_pos (by rw [hwd]; simp [hyield.2 hwt])]
                  refine .inl ?_
                  obtain ⟨cv, g1, g2⟩ := evP_ok hs.hh hs.he ((AOK.nil _).cons hwt) hv
                  unfold Oper.wp
                  rw [g1]
                  refine hq _ _ w I G _ hK ⟨hs.hh, ?_, by simp [Act.put, hdst, hs.hn]⟩ (by simp [Act.put, hdst]) (.refl _ _ _) (hZ0 w)
                  simp only [Act.put, hdst]
                  exact hs.he.setSpec hlt hne (fun _ => g2) (fun hc => absurd hwt hc)
                · rw [if_neg (by rw [hwd]; simp; exact fun hc => hwt (hyield.1 hc))]
                  refine skip ⟨hs.hh, ?_, by simp [Act.put, hdst, hs.hn]⟩ hK
                  simp only [Act.put, hdst]
                  exact hs.he.setSpec hlt hne (fun hc => absurd hc hwt) (fun _ => rfl)
              · cases hsp
          · cases hsp
        · obtain ⟨e', q, hk, he', hq'⟩ := branchOn_ok hs.he hK
          cases hiw : isWanted q want with
          | true =>
            rw [hiw] at hk
            have hqw : q = some want := by unfold isWanted at hiw; split at hiw <;> first | rfl | cases hiw
            subst hqw
            rw [if_pos (by rw [hwd]; simp [hyield.2 hq'])]
            exact .inl (run he' hk)
          | false =>
            rw [hiw] at hk
            simp only [cond_false] at hk
            have hqw : a.tmps.getD s undef ≠ .bool want := fun hc => by
              cases q with
              | none => simp only at hq'; rw [hq'] at hc; cases hc
              | some b => simp only at hq'; rw [hq'] at hc; injection hc with hc; subst hc; cases b <;> simp [isWanted] at hiw
            rw [if_neg (by rw [hwd]; simp; exact fun hc => hqw (hyield.1 hc))]
            exact skip (put_rel hd hs.hn hs.hh he' (.pv _ _ .unit)).1 hk
      · cases hK
end Go.Eng
set_option linter.unusedVariables false
set_option linter.unusedSimpArgs false
namespace Go.Eng
open Go
def scalO : Option LV → Bool
  | some (.pv p) => scal1 p
  | _ => false
/-- Operations that give one value, whatever other operations of the region come first. -/
def clsV (P : Program) (all : List Oper) (e : Env) (h : Hp) (o : Oper) : Bool :=
  match o.op with
  | .indexAddr _ _ _ => true
  | .fieldAddr _ _ _ => true
  | .load _ _ => true
  | .nilCheck _ => true
  | .move _ => true
  | .assign _ => true
  | .extract _ _ => true
  | _ => match o.guard with
    | none => scalO (evP P [] e h o.op)
    | some (j, want) => match dstOf all j with
      | some s => match specE P e h s want o with
        | some _ => scalO (evP P [(s, want)] e h o.op)
        | none => false
      | none => false
def same1 : Op → Bool
  | .move _ => true
  | .assign _ => true
  | .extract _ _ => true
  | _ => false
def memV : Op → Bool
  | .indexAddr _ _ _ => true
  | .fieldAddr _ _ _ => true
  | .load _ _ => true
  | .nilCheck _ => true
  | _ => false
theorem HRel.ka {w w2 : World} {I : Nat → Prop} {G : Nat → Pl} {h : Hp} (hh : HRel w I G h) (hk : KA w w2) : HRel w2 I G h :=
  hh.keep hk.2 (fun _ x => x) (fun _ x => .inl x) (fun b hb => Nat.lt_of_lt_of_le (hh.cl b hb) hk.1)
theorem ERel.ka {w w2 : World} {I : Nat → Prop} {G : Nat → Pl} {h : Hp} {e : Env} {tm : Array Value} (he : ERel w I G h e tm) (hk : KA w w2) : ERel w2 I G h e tm :=
  he.mono ⟨fun b _ hb => hk.2 b hb, fun _ x _ => x⟩ (.refl _ _)
theorem scal_unique {w w2 : World} {I : Nat → Prop} {G : Nat → Pl} {h : Hp} {v : LV} {cv cv2 : Value} (hs : scalO (some v) = true) (h1 : LRel w I G h v cv) (h2 : LRel w2 I G h v cv2) : cv = cv2 := by
  cases v <;> simp [scalO] at hs
  cases h1 with
  | pv p _ r1 =>
    cases h2 with
    | pv _ _ r2 => cases r1 <;> simp [scal1] at hs <;> cases r2 <;> rfl
theorem evP_stable {P : Program} {w : World} {I : Nat → Prop} {G : Nat → Pl} {h : Hp} {a : Act} {e : Env} (hh : HRel w I G h) (he : ERel w I G h e a.tmps) {A : List (Nat × Bool)} (hA : AOK A a.tmps) {o : Oper} {v : LV} (hv : evP P A e h o.op = some v)
    (hc : same1 o.op = true ∨ scalO (some v) = true) : ∃ cv, (∀ w2, KA w w2 → (execOp a.eval o).run P w2 = .ok (.value cv) w2) ∧ LRel w I G h v cv := by
  obtain ⟨cv, h1, h2⟩ := evP_ok hh he hA hv
  refine ⟨cv, fun w2 hk => ?_, h2⟩
  rcases hc with hc | hc
  · unfold execOp at h1 ⊢
    cases ho : o.op <;> rw [ho] at hc <;> simp [same1] at hc <;> rw [ho] at h1
    case move x => simp only [Sem.run_pure] at h1 ⊢; injection h1 with h1; rw [h1]
    case assign x => simp only [Sem.run_pure] at h1 ⊢; injection h1 with h1; rw [h1]
    case extract t ix =>
      change (vOf (Instr.extract (a.eval t) ix)).run P w = _ at h1
      show (vOf (Instr.extract (a.eval t) ix)).run P w2 = _
      unfold Instr.extract at h1 ⊢
      generalize a.eval t = tv at h1 ⊢
      cases tv
      case tuple vs =>
        simp only at h1 ⊢
        cases hx : vs[ix]? with
        | none => rw [hx] at h1; cases h1
        | some u =>
          rw [hx] at h1
          simp only [vOf, Sem.run_bind, Sem.run_pure, Result.andThen_ok] at h1 ⊢
          injection h1 with h1; rw [h1]
      all_goals cases h1
  · obtain ⟨cv2, g1, g2⟩ := evP_ok (hh.ka hk) (he.ka hk) hA hv
    rw [g1, scal_unique hc h2 g2]
theorem memV_none {P : Program} {A : List (Nat × Bool)} {e : Env} {h : Hp} {op : Op} (hm : memV op = true) : evP P A e h op = none := by
  cases op <;> simp [memV] at hm <;> rfl
theorem aOp_memV {P : Program} {o : Oper} {e : Env} {h : Hp} {K : Kt} (hm : memV o.op = true) (hK : aOp P e h o K) : OpV P o e h K := by
  unfold aOp at hK
  rw [memV_none hm] at hK
  simp only [aMem] at hK
  cases ho : o.op <;> rw [ho] at hm hK <;> simp [memV] at hm
  · exact aLoad_okV ho hK
  · exact aNilCheck_okV ho hK
  · exact aFieldAddr_okV ho hK
  · exact aIndexAddr_okV ho hK
theorem clsV_cases {P : Program} {all : List Oper} {e : Env} {h : Hp} {o : Oper} (hc : clsV P all e h o = true) : memV o.op = true ∨ same1 o.op = true ∨ (match o.guard with
    | none => scalO (evP P [] e h o.op) = true
    | some (j, want) => ∃ s e', dstOf all j = some s ∧ specE P e h s want o = some e' ∧ scalO (evP P [(s, want)] e h o.op) = true) := by
  unfold clsV at hc
  split at hc <;> rename_i ho
  any_goals (rw [ho]; first | exact .inl rfl | exact .inr (.inl rfl))
  refine .inr (.inr ?_)
  split at hc
  · exact hc
  · rename_i j want hg
    split at hc
    · rename_i s hs
      split at hc
      · rename_i e' he'; exact ⟨s, e', hs, he', hc⟩
      · cases hc
    · cases hc

theorem aOpsV {P : Program} {N : Nat} {ops : Array Oper} {K : Env → Hp → Prop} {o : Oper} {k : Nat} {e : Env} {h : Hp} (h0 : ops[k]? = some o) (hcl : clsV P ops.toList e h o = true) (hK : aOps P N ops.toList [o] e h K)
    {w : World} {I : Nat → Prop} {G : Nat → Pl} {a : Act} (hs : SRel w I G e h N a) :
    ∃ cv, YieldsIf P ops (KA w) o cv a ∧ ∃ e', K e' h ∧ SRel w I G e' h N (a.put o.dst cv) ∧ (a.put o.dst cv).defers = a.defers := by
  have hcl := clsV_cases hcl
  have dput : ∀ cv, (a.put o.dst cv).defers = a.defers := fun cv => by unfold Act.put; cases o.dst <;> rfl
  unfold aOps at hK
  cases hd : dstOK N o with
  | false => rw [hd] at hK; cases hK
  | true =>
    rw [hd] at hK
    simp only [cond_true] at hK
    have run : ∀ {e1 : Env}, ERel w I G h e1 a.tmps → (memV o.op = true ∨ same1 o.op = true ∨ scalO (evP P [] e1 h o.op) = true) → aOp P e1 h o (fun v e h => aOps P N ops.toList [] (put o v e) h K) →
        ∃ cv, (∀ w2, KA w w2 → (execOp a.eval o).run P w2 = .ok (.value cv) w2) ∧ ∃ e', K e' h ∧ SRel w I G e' h N (a.put o.dst cv) := fun {e1} he1 hc hop => by
      have fin : ∀ {v cv}, K (put o v e1) h → LRel w I G h v cv → ∃ e', K e' h ∧ SRel w I G e' h N (a.put o.dst cv) := fun {v cv} hk hr => ⟨_, hk, (put_rel hd hs.hn hs.hh he1 hr).1⟩
      by_cases hm : memV o.op = true
      · obtain ⟨v, hk, hv⟩ := aOp_memV hm hop
        obtain ⟨cv, g1, g2⟩ := hv w I G a hs.hh he1
        exact ⟨cv, g1, fin hk g2⟩
      · unfold aOp at hop
        cases hev : evP P [] e1 h o.op with
        | none =>
          rcases hc with hc | hc | hc
          · exact absurd hc hm
          · rw [hev] at hop
            simp only [aMem] at hop
            cases ho : o.op <;> rw [ho] at hc hop <;> simp [same1] at hc <;> cases hop
          · rw [hev] at hc; cases hc
        | some v =>
          rw [hev] at hop hc
          obtain ⟨cv, g1, g2⟩ := evP_stable hs.hh he1 (AOK.nil _) hev (hc.resolve_left hm)
          exact ⟨cv, g1, fin hop g2⟩
    have skip : ∀ {e1 : Env}, SRel w I G e1 h N (a.put o.dst undef) → aOps P N ops.toList [] e1 h K → ∃ e', K e' h ∧ SRel w I G e' h N (a.put o.dst undef) := fun {e1} hs1 hop => ⟨e1, hop, hs1⟩
    split at hK
    · rename_i hg
      have hw : Region.wanted o (yielded ops a.tmps) = true := by simp [Region.wanted, hg]
      simp only [hg] at hcl
      obtain ⟨cv, g1, e', g2, g3⟩ := run hs.he hcl hK
      exact ⟨cv, .inl ⟨hw, g1⟩, e', g2, g3, dput _⟩
    · rename_i j want hg
      have hwd : Region.wanted o (yielded ops a.tmps) = (yielded ops a.tmps j == some want) := by simp [Region.wanted, hg]
      split at hK
      · rename_i s hds
        have hyield : (yielded ops a.tmps j = some want ↔ a.tmps.getD s undef = .bool want) := by
          unfold dstOf at hds
          split at hds
          · rename_i oj hoj
            have hoj' : ops[j]? = some oj := by simpa using hoj
            unfold yielded
            simp only [hoj', Option.bind_some, hds]
            rw [Array.getD_eq_getD_getElem?]
            cases hts : a.tmps[s]? with
            | none => simp [undef]
            | some v => cases v <;> simp
          · cases hds
        split at hK
        · rename_i e' hsp0
          have hsp := hsp0
          unfold specE at hsp
          split at hsp
          · rename_i d hdst
            cases hsd : Nat.beq s d with
            | true => rw [hsd] at hsp; cases hsp
            | false =>
              rw [hsd] at hsp
              simp only [cond_false] at hsp
              have hne : s ≠ d := fun e => by subst e; simp at hsd
              have hlt : d < a.tmps.size := by rw [hs.hn]; unfold dstOK at hd; rw [hdst] at hd; exact Nat.le_of_ble_eq_true hd
              split at hsp
              · rename_i v hv
                cases hsp
                by_cases hwt : a.tmps.getD s undef = .bool want
                · have hcc : same1 o.op = true ∨ scalO (some v) = true := by
                    rcases hcl with hm | hm | hm
                    · rw [memV_none hm] at hv; cases hv
                    · exact .inl hm
                    · simp only [hg] at hm
                      obtain ⟨s', e'', q1, q2, q3⟩ := hm
                      rw [hds] at q1; cases q1
                      rw [hv] at q3
                      exact .inr q3
                  obtain ⟨cv, g1, g2⟩ := evP_stable hs.hh hs.he ((AOK.nil _).cons hwt) hv hcc
                  refine ⟨cv, .inl ⟨by rw [hwd]; simp [hyield.2 hwt], g1⟩, _, hK, ⟨hs.hh, ?_, by simp [Act.put, hdst, hs.hn]⟩, dput _⟩
                  simp only [Act.put, hdst]
                  exact hs.he.setSpec hlt hne (fun _ => g2) (fun hc => absurd hwt hc)
                · obtain ⟨e1, g1, g2⟩ := skip (e1 := set e d (.spec s want v)) ⟨hs.hh, by simp only [Act.put, hdst]; exact hs.he.setSpec hlt hne (fun hc => absurd hc hwt) (fun _ => rfl), by simp [Act.put, hdst, hs.hn]⟩ hK
                  exact ⟨undef, .inr ⟨by rw [hwd]; simp; exact fun hc => hwt (hyield.1 hc), rfl⟩, e1, g1, g2, dput _⟩
              · cases hsp
          · cases hsp
        · rename_i hspn
          obtain ⟨e', q, hk, he', hq'⟩ := branchOn_ok hs.he hK
          have hcc : memV o.op = true ∨ same1 o.op = true := by
            rcases hcl with hm | hm | hm
            · exact .inl hm
            · exact .inr hm
            · simp only [hg] at hm
              obtain ⟨s', e'', q1, q2, q3⟩ := hm
              rw [hds] at q1; cases q1
              rw [hspn] at q2; cases q2
          cases hiw : isWanted q want with
          | true =>
            rw [hiw] at hk
            have hqw : q = some want := by unfold isWanted at hiw; split at hiw <;> first | rfl | cases hiw
            subst hqw
            obtain ⟨cv, g1, e1, g2, g3⟩ := run he' (hcc.imp id .inl) hk
            exact ⟨cv, .inl ⟨by rw [hwd]; simp [hyield.2 hq'], g1⟩, e1, g2, g3, dput _⟩
          | false =>
            rw [hiw] at hk
            simp only [cond_false] at hk
            have hqw : a.tmps.getD s undef ≠ .bool want := fun hc => by
              cases q with
              | none => simp only at hq'; rw [hq'] at hc; cases hc
              | some b => simp only at hq'; rw [hq'] at hc; injection hc with hc; subst hc; cases b <;> simp [isWanted] at hiw
            obtain ⟨e1, g1, g2⟩ := skip (put_rel hd hs.hn hs.hh he' (.pv _ _ .unit)).1 hk
            exact ⟨undef, .inr ⟨by rw [hwd]; simp; exact fun hc => hqw (hyield.1 hc), rfl⟩, e1, g1, g2, dput _⟩
      · cases hK
end Go.Eng
set_option linter.unusedVariables false
set_option linter.unusedSimpArgs false
namespace Go.Eng
open Go
def isCallV : Op → Bool
  | .call c => match c.callee with
    | .value _ => true
    | _ => false
  | _ => false
def pick1 (P : Program) (ops : Array Oper) (n : Nat) (e : Env) (h : Hp) (listed : List Bool) : List Nat → Option Nat
  | [] => none
  | k :: r => match ops[k]? with
    | some o => bif (!Nat.beq k n) && (clsV P ops.toList e h o && Region.free .any ops listed.toArray k) then some k else pick1 P ops n e h listed r
    | none => none
/-- A region that draws its order: what only reads is taken first; a call, and the last operation, when nothing else may come up. -/
def aAny (P : Program) (N : Nat) (ops : Array Oper) (n : Nat) : Nat → List Bool → Env → Hp → (Env → Hp → Prop) → Prop
  | 0, listed, e, h, K => match Region.ready .any ops listed.toArray with
    | [] => K e h
    | _ :: _ => False
  | f + 1, listed, e, h, K => match pick1 P ops n e h listed (Region.ready .any ops listed.toArray) with
    | some k => match ops[k]? with
      | some o => aOps P N ops.toList [o] e h fun e h => aAny P N ops n f (listed.set k true) e h K
      | none => False
    | none => match Region.ready .any ops listed.toArray with
      | [k] => match ops[k]? with
        | some o => bif Nat.beq k n || isCallV o.op then aOps P N ops.toList [o] e h fun e h => aAny P N ops n f (listed.set k true) e h K else False
        | none => False
      | _ => False
def lastOf (ops : Array Oper) : Nat := bif lastB ops (ops.size - 1) then ops.size - 1 else ops.size
def aDraw (P : Program) (N : Nat) (ops : Array Oper) (e : Env) (h : Hp) (K : Env → Hp → Prop) : Prop :=
  bif P.follows .mixedOrders && Region.noSelect ops then aAny P N ops (lastOf ops) ops.size (List.replicate ops.size false) e h K else False

theorem pick1_spec {P : Program} {ops : Array Oper} {n : Nat} {e : Env} {h : Hp} {listed : List Bool} {k : Nat} : ∀ {l : List Nat}, pick1 P ops n e h listed l = some k →
    k ∈ l ∧ k ≠ n ∧ Region.free .any ops listed.toArray k = true ∧ ∃ o, ops[k]? = some o ∧ clsV P ops.toList e h o = true
  | [], hp => by cases hp
  | x :: r, hp => by
    unfold pick1 at hp
    split at hp
    · rename_i o ho
      cases hb : ((!Nat.beq x n) && (clsV P ops.toList e h o && Region.free .any ops listed.toArray x)) with
      | true =>
        rw [hb] at hp
        simp only [cond_true, Option.some.injEq] at hp
        subst hp
        simp only [Bool.and_eq_true, Bool.not_eq_true'] at hb
        exact ⟨by simp, fun e => by subst e; simp at hb, hb.2.2, o, ho, hb.2.1⟩
      | false =>
        rw [hb] at hp
        obtain ⟨g1, g2⟩ := pick1_spec (l := r) hp
        exact ⟨by simp [g1], g2⟩
    · cases hp

theorem OpZ.callK {P : Program} {o : Oper} {e : Env} {h : Hp} {K : Kt} (hc : isCallV o.op = true) (hK : aOp P e h o K) : OpK P o e h K := by
  unfold aOp at hK
  cases ho : o.op <;> rw [ho] at hc <;> simp [isCallV] at hc
  rename_i c
  split at hc
  · rename_i fo hfo
    have hn : evP P [] e h o.op = none := by rw [ho]; simp only [evP, hfo]
    rw [hn] at hK
    simp only [aMem, ho, hfo] at hK
    split at hK
    · rename_i u vs hu hv
      split at hK
      · rename_i f caps hf; exact aCallT_okK ho hfo hu hf hv hK
      · cases hK
    · cases hK
  · cases hc

theorem aAny_ok {P : Program} {N n : Nat} {ops : Array Oper} {Qx : Exit → Act → World → Prop} {K : Env → Hp → Prop} (hsel : Region.noSelect ops = true) (hn : n = ops.size ∨ lastB ops n = true) :
    ∀ (f : Nat) (listed : List Bool) (e : Env) (h : Hp), aAny P N ops n f listed e h K → ∀ (w : World) (I : Nat → Prop) (G : Nat → Pl) (a : Act), SRel w I G e h N a →
      (∀ e' h' w' I' G' a', K e' h' → SRel w' I' G' e' h' N a' → a'.defers = a.defers → Tr w I (Owns h G) w' I' (Owns h' G') → Qx .normal a' w') →
      wpW P ops (NoPanic Qx) n f listed.toArray a w := by
  intro f
  induction f with
  | zero =>
    intro listed e h hK w I G a hs hq
    unfold aAny at hK
    split at hK
    · rename_i hr
      exact ⟨hr, .normal (hq e h w I G a hK hs rfl (.refl _ _ _))⟩
    · cases hK
  | succ f ih =>
    intro listed e h hK w I G a hs hq
    unfold aAny at hK
    split at hK
    · rename_i k hp
      obtain ⟨hk, hkn, hfr, o, ho, hcl⟩ := pick1_spec hp
      rw [ho] at hK
      simp only at hK
      obtain ⟨cv, hy, e', hk', hs', hd⟩ := aOpsV ho hcl hK hs
      refine wpW_first ho (Region.noSelect_spec hsel) (fun c a w hp => hp.elim) hn hkn f listed.toArray a w (Region.free_spec ho hfr) hk hy ?_
      rw [List.setIfInBounds_toArray]
      exact ih _ _ _ hk' w I G _ hs' fun e2 h2 w2 I2 G2 a2 q1 q2 q3 q4 => hq e2 h2 w2 I2 G2 a2 q1 q2 (q3.trans hd) q4
    · split at hK
      · rename_i k hr
        split at hK
        · rename_i o ho
          cases hb : Nat.beq k n || isCallV o.op with
          | false => rw [hb] at hK; cases hK
          | true =>
            rw [hb] at hK
            simp only [cond_true] at hK
            refine ⟨by rw [hr]; simp, fun i hi => ?_⟩
            rw [hr] at hi
            have : i = k := by simpa using hi
            subst this
            refine aOps1 (Z := fun w w' => i = n ∨ KA w w') (fun w => .inr (KA.refl w)) (fun e1 K' hop => ?_) ho hK hs fun e' h' w' I' G' a' q1 q2 q3 q4 q5 => ⟨q5, ?_⟩
            · simp only [Bool.or_eq_true] at hb
              rcases hb with hb | hb
              · have := Nat.eq_of_beq_eq_true hb
                exact fun w I G a next Qx hh he hnx => aOp_ok hop w I G a next Qx hh he fun v e' h' w' I' G' cv h1 h2 h3 h4 h5 => hnx v e' h' w' I' G' cv h1 h2 h3 h4 h5 (.inl this)
              · exact fun w I G a next Qx hh he hnx => OpZ.callK hb hop w I G a next Qx hh he fun v e' h' w' I' G' cv h1 h2 h3 h4 h5 h6 => hnx v e' h' w' I' G' cv h1 h2 h3 h4 h5 (.inr h6)
            · rw [List.setIfInBounds_toArray]
              exact ih _ _ _ q1 w' I' G' a' q2 fun e2 h2 w2 I2 G2 a2 r1 r2 r3 r4 => hq e2 h2 w2 I2 G2 a2 r1 r2 (r3.trans q3) (q4.trans r4)
        · cases hK
      · cases hK
theorem HRel.drewn {w : World} {I : Nat → Prop} {G : Nat → Pl} {e : Env} {h : Hp} {N : Nat} {a : Act} (hs : SRel w I G e h N a) : SRel w.drew I G e h N a :=
  ⟨hs.hh.ka ⟨Nat.le_refl _, fun _ _ => rfl⟩, hs.he.ka ⟨Nat.le_refl _, fun _ _ => rfl⟩, hs.hn⟩
theorem aDraw_ok {P : Program} {N id : Nat} {ops : Array Oper} {Qx : Exit → Act → World → Prop} {K : Env → Hp → Prop} {e : Env} {h : Hp} (hK : aDraw P N ops e h K) {w : World} {I : Nat → Prop} {G : Nat → Pl} {a : Act} (hs : SRel w I G e h N a)
    (hq : ∀ e' h' w' I' G' a', K e' h' → SRel w' I' G' e' h' N a' → a'.defers = a.defers → Tr w I (Owns h G) w' I' (Owns h' G') → Qx .normal a' w') : (Code.region id ops true).wp P Qx a w := by
  unfold aDraw at hK
  cases hb : P.follows .mixedOrders && Region.noSelect ops with
  | false => rw [hb] at hK; cases hK
  | true =>
    rw [hb] at hK
    simp only [cond_true] at hK
    simp only [Bool.and_eq_true] at hb
    have hn : lastOf ops = ops.size ∨ lastB ops (lastOf ops) = true := by
      unfold lastOf
      cases hl : lastB ops (ops.size - 1) with
      | true => exact .inr (by simpa using hl)
      | false => exact .inl (by simp)
    refine wp_region_W (n := lastOf ops) hb.1 ?_
    have h1 := aAny_ok (Qx := Qx) hb.2 hn ops.size _ e h hK w.drew I G a (HRel.drewn hs) fun e' h' w' I' G' a' q1 q2 q3 q4 => hq e' h' w' I' G' a' q1 q2 q3 ⟨q4.os, q4.tape, q4.output, q4.size, q4.keep, q4.i1, q4.i2, q4.own2, q4.frz⟩
    have e1 : (List.replicate ops.size false).toArray = Array.replicate ops.size false := by simp
    rwa [e1] at h1
end Go.Eng
set_option linter.unusedVariables false
set_option linter.unusedSimpArgs false
namespace Go.Eng
open Go
inductive Ex where
  | normal
  | exit (id : Nat)
  | ret
def Ex.to : Ex → Exit
  | .normal => .normal
  | .exit n => .exit n
  | .ret => .ret
abbrev Qt := Ex → Env → Hp → Prop
/-- What a piece of code must give. -/
def CodeS (P : Program) (N : Nat) (c : Code) (e : Env) (h : Hp) (Q : Qt) : Prop :=
  ∀ (w : World) (I : Nat → Prop) (G : Nat → Pl) (a : Act) (Qx : Exit → Act → World → Prop), SRel w I G e h N a →
    (∀ x e' h' w' I' G' a', Q x e' h' → SRel w' I' G' e' h' N a' → a'.defers = a.defers → Tr w I (Owns h G) w' I' (Owns h' G') → Qx x.to a' w') → c.wp P Qx a w

theorem SRel.drew {w : World} {I : Nat → Prop} {G : Nat → Pl} {e : Env} {h : Hp} {N : Nat} {a : Act} (hs : SRel w I G e h N a) : SRel w.drew I G e h N a :=
  ⟨hs.hh.drew, hs.he.mono ⟨fun _ _ _ => rfl, fun _ x _ => x⟩ (.refl _ _), hs.hn⟩

theorem CodeS.skip {P : Program} {N : Nat} {e : Env} {h : Hp} {Q : Qt} (hK : Q .normal e h) : CodeS P N .skip e h Q :=
  fun w I G a Qx hs hq => wp_skip (hq .normal e h w I G a hK hs rfl (.refl _ _ _))
theorem CodeS.exit {P : Program} {N n : Nat} {e : Env} {h : Hp} {Q : Qt} (hK : Q (.exit n) e h) : CodeS P N (.exit n) e h Q :=
  fun w I G a Qx hs hq => wp_exit (hq (.exit n) e h w I G a hK hs rfl (.refl _ _ _))
theorem CodeS.ret {P : Program} {N : Nat} {e : Env} {h : Hp} {Q : Qt} (hK : Q .ret e h) : CodeS P N .ret e h Q :=
  fun w I G a Qx hs hq => wp_ret (hq .ret e h w I G a hK hs rfl (.refl _ _ _))
theorem CodeS.seq {P : Program} {N : Nat} {x y : Code} {e : Env} {h : Hp} {Q : Qt} (hK : CodeS P N x e h fun q e h => match q with | .normal => CodeS P N y e h Q | q => Q q e h) : CodeS P N (.seq x y) e h Q := by
  intro w I G a Qx hs hq
  refine wp_seq (hK w I G a _ hs fun q e' h' w' I' G' a' hk hs' hd ht => ?_)
  cases q with
  | normal => exact hk w' I' G' a' Qx hs' fun q2 e2 h2 w2 I2 G2 a2 hk2 hs2 hd2 ht2 => hq q2 e2 h2 w2 I2 G2 a2 hk2 hs2 (hd2.trans hd) (ht.trans ht2)
  | exit n => exact hq (.exit n) e' h' w' I' G' a' hk hs' hd ht
  | ret => exact hq .ret e' h' w' I' G' a' hk hs' hd ht
theorem CodeS.cond {P : Program} {N : Nat} {c : Operand} {x y : Code} {e : Env} {h : Hp} {Q : Qt} {t : Bool} (hc : opv [] e c = some (.pv (.bool t))) (hK : if t = true then CodeS P N x e h Q else CodeS P N y e h Q) : CodeS P N (.cond c x y) e h Q := by
  intro w I G a Qx hs hq
  refine wp_cond (opv_ok hs.he (AOK.nil _) hc).bool_eq ?_
  cases t with
  | true => simp only [if_true] at hK ⊢; exact hK w I G a Qx hs hq
  | false => simp only [Bool.false_eq_true, if_false] at hK ⊢; exact hK w I G a Qx hs hq
theorem CodeS.block {P : Program} {N id : Nat} {c : Code} {e : Env} {h : Hp} {Q : Qt}
    (hK : CodeS P N c e h fun q e h => match q with | .exit n => (bif Nat.beq n id then Q .normal e h else Q (.exit n) e h) | q => Q q e h) : CodeS P N (.block id c) e h Q := by
  intro w I G a Qx hs hq
  refine wp_block (hK w I G a _ hs fun q e' h' w' I' G' a' hk hs' hd ht => ?_)
  cases q with
  | normal => exact hq .normal e' h' w' I' G' a' hk hs' hd ht
  | ret => exact hq .ret e' h' w' I' G' a' hk hs' hd ht
  | exit n =>
    simp only [Ex.to, Exit.inBlock]
    cases hb : Nat.beq n id with
    | true =>
      simp only [hb, cond_true] at hk
      rw [if_pos (Nat.eq_of_beq_eq_true hb)]
      exact hq .normal e' h' w' I' G' a' hk hs' hd ht
    | false =>
      simp only [hb, cond_false] at hk
      rw [if_neg (fun e => by subst e; simp at hb)]
      exact hq (.exit n) e' h' w' I' G' a' hk hs' hd ht
theorem CodeS.mono {P : Program} {N : Nat} {c : Code} {e : Env} {h : Hp} {Q Q' : Qt} (hK : CodeS P N c e h Q) (hq : ∀ x e h, Q x e h → Q' x e h) : CodeS P N c e h Q' :=
  fun w I G a Qx hs hq' => hK w I G a Qx hs fun x e' h' w' I' G' a' hk => hq' x e' h' w' I' G' a' (hq _ _ _ hk)

/-! ### Forgetting: some slots and some objects, under new numbers -/
def idx (o : Nat) : List Nat → Nat → Option Nat
  | [], _ => none
  | x :: r, k => bif Nat.beq x o then some k else idx o r (k + 1)
def ren1 (os : List Nat) : LV → LV
  | .pv v => .pv v
  | .own o => match idx o os 0 with | some k => .own k | none => .bot
  | .sub o a b => match idx o os 0 with | some k => .sub k a b | none => .bot
  | .elt o i off => match idx o os 0 with | some k => .elt k i off | none => .bot
  | .box o off => match idx o os 0 with | some k => .box k off | none => .bot
  | .mp o => match idx o os 0 with | some k => .mp k | none => .bot
  | _ => .bot
def renV (os : List Nat) : LV → LV
  | .agg cs => .agg (cs.map (ren1 os))
  | .tup cs => .tup (cs.map (ren1 os))
  | .fn f cs => .fn f (cs.map (ren1 os))
  | v => ren1 os v
def renO (os : List Nat) : Ob → Ob
  | .box cs => .box (cs.map (ren1 os))
  | ob => ob
def subE (os : List Nat) (e : Env) : List Nat → Env
  | [] => []
  | i :: r => (i, match get e i with | some v => renV os v | none => .bot) :: subE os e r
def subH (os : List Nat) (h : Hp) : List Nat → Hp
  | [] => []
  | o :: r => (match h[o]? with | some ob => renO os ob | none => .dead) :: subH os h r
def nodupB : List Nat → Bool
  | [] => true
  | x :: r => !(r.any (Nat.beq x)) && nodupB r
theorem idx_get {o : Nat} : ∀ {os : List Nat} {k0 k : Nat}, idx o os k0 = some k → k0 ≤ k ∧ os[k - k0]? = some o
  | [], k0, k, h => by cases h
  | x :: r, k0, k, h => by
    simp only [idx] at h
    cases hb : Nat.beq x o with
    | true => rw [hb] at h; simp at h; subst h; have := Nat.eq_of_beq_eq_true hb; subst this; simp
    | false =>
      rw [hb] at h
      obtain ⟨h1, h2⟩ := idx_get (os := r) h
      refine ⟨by omega, ?_⟩
      rw [show k - k0 = (k - (k0 + 1)) + 1 by omega]
      simpa using h2
theorem nodupB_inj : ∀ {os : List Nat}, nodupB os = true → ∀ (i j : Nat) o, os[i]? = some o → os[j]? = some o → i = j
  | [], _, i, j, o, h, _ => by simp at h
  | x :: r, hn, i, j, o, hi, hj => by
    simp only [nodupB, Bool.and_eq_true, Bool.not_eq_true'] at hn
    have hx : ∀ (k : Nat), r[k]? = some x → False := fun k hk => by
      have h1 : r.any (Nat.beq x) = true := List.any_eq_true.2 ⟨x, List.mem_of_getElem? hk, Nat.beq_refl x⟩
      rw [h1] at hn; cases hn.1
    cases i with
    | zero =>
      simp at hi; subst hi
      cases j with
      | zero => rfl
      | succ j => simp at hj; exact (hx j hj).elim
    | succ i =>
      simp at hi
      cases j with
      | zero => simp at hj; subst hj; exact (hx i hi).elim
      | succ j => simp at hj; rw [nodupB_inj hn.2 i j o hi hj]
theorem subH_get {os : List Nat} {h : Hp} : ∀ {l : List Nat} (k : Nat), (subH os h l)[k]? = (l[k]?).map fun o => match h[o]? with | some ob => renO os ob | none => .dead
  | [], k => by simp [subH]
  | o :: r, 0 => by simp [subH]
  | o :: r, k + 1 => by simp [subH, subH_get (l := r) k]
theorem SRel.sub {w : World} {I : Nat → Prop} {G : Nat → Pl} {e : Env} {h : Hp} {N : Nat} {a : Act} (hs : SRel w I G e h N a) (os : List Nat) (ks : List Nat) (hn : nodupB os = true) :
    SRel w I (fun k => match os[k]? with | some o => G o | none => ⟨0, 0, 0, 0⟩) (subE os e ks) (subH os h os) N a ∧ ∀ b, Owns (subH os h os) (fun k => match os[k]? with | some o => G o | none => ⟨0, 0, 0, 0⟩) b → Owns h G b := by
  have hg : ∀ {o k : Nat} {ob : Ob}, idx o os 0 = some k → h[o]? = some ob → (subH os h os)[k]? = some (renO os ob) ∧ (match os[k]? with | some o => G o | none => (⟨0, 0, 0, 0⟩ : Pl)) = G o := fun {o k ob} hi ho => by
    obtain ⟨_, h2⟩ := idx_get hi
    rw [Nat.sub_zero] at h2
    rw [subH_get, h2]
    simp [ho]
  have h1 : ∀ v cv, LRel w I G h v cv → LRel w I (fun k => match os[k]? with | some o => G o | none => ⟨0, 0, 0, 0⟩) (subH os h os) (ren1 os v) cv := fun v cv hr => by
    cases hr with
    | bot => exact .bot _
    | pv p _ q => exact .pv _ _ q
    | ownNil o ty m es q => simp only [ren1]; cases hi : idx o os 0 with | none => exact .bot _ | some k => exact .ownNil k ty m es (hg hi q).1
    | own o ty m es q => simp only [ren1]; cases hi : idx o os 0 with | none => exact .bot _ | some k => obtain ⟨g1, g2⟩ := hg hi q; rw [← g2]; exact .own k ty m es g1
    | subNil o x y ty m es q q2 => simp only [ren1]; cases hi : idx o os 0 with | none => exact .bot _ | some k => exact .subNil k x y ty m es (hg hi q).1 q2
    | sub o x y cap off ty m es q q2 q3 q4 q5 => simp only [ren1]; cases hi : idx o os 0 with | none => exact .bot _ | some k => obtain ⟨g1, g2⟩ := hg hi q; rw [← g2] at q5 ⊢; exact .sub k x y cap off ty m es g1 q2 q3 q4 q5
    | elt o x y ty m es q q2 => simp only [ren1]; cases hi : idx o os 0 with | none => exact .bot _ | some k => obtain ⟨g1, g2⟩ := hg hi q; rw [← g2]; exact .elt k x y ty m es g1 q2
    | box o x cs q => simp only [ren1]; cases hi : idx o os 0 with | none => exact .bot _ | some k => obtain ⟨g1, g2⟩ := hg hi q; rw [← g2]; exact .box k x _ g1
    | arr o x cs q => simp only [ren1]; cases hi : idx o os 0 with | none => exact .bot _ | some k => obtain ⟨g1, g2⟩ := hg hi q; rw [← g2]; exact .arr k x _ g1
    | agg => exact .bot _
    | tup => exact .bot _
    | fn => exact .bot _
    | mp o kvs q => simp only [ren1]; cases hi : idx o os 0 with | none => exact .bot _ | some k => obtain ⟨g1, g2⟩ := hg hi q; rw [← g2]; exact .mp k _ g1
  have hmap : ∀ {cs : List LV} {k : Nat} {u : LV}, (cs.map (ren1 os))[k]? = some u → ∃ v, cs[k]? = some v ∧ u = ren1 os v := fun {cs k u} hk => by
    rw [List.getElem?_map] at hk
    cases hc : cs[k]? with
    | none => rw [hc] at hk; cases hk
    | some v => rw [hc] at hk; cases hk; exact ⟨v, rfl, rfl⟩
  have h2 : ∀ v cv, LRel w I G h v cv → LRel w I (fun k => match os[k]? with | some o => G o | none => ⟨0, 0, 0, 0⟩) (subH os h os) (renV os v) cv := fun v cv hr => by
    cases v
    case agg cs => cases hr with | agg _ vs q1 q2 q3 => refine .agg _ vs (by simpa using q1) (fun k u hu => ?_) (fun k u hu => ?_) <;> obtain ⟨v, g1, rfl⟩ := hmap hu; exact h1 _ _ (q2 k v g1); exact q3 k v g1
    case tup cs => cases hr with | tup _ vs q1 q2 => refine .tup _ vs (by simpa using q1) (fun k u hu => ?_); obtain ⟨v, g1, rfl⟩ := hmap hu; exact h1 _ _ (q2 k v g1)
    case fn f cs => cases hr with | fn _ _ vs q1 q2 => refine .fn f _ vs (by simpa using q1) (fun k u hu => ?_); obtain ⟨v, g1, rfl⟩ := hmap hu; exact h1 _ _ (q2 k v g1)
    all_goals exact h1 _ _ hr
  have split : ∀ (k : Nat) x, (subH os h os)[k]? = some x → x = .dead ∨ ∃ o ob, os[k]? = some o ∧ h[o]? = some ob ∧ x = renO os ob := fun k x hx => by
    rw [subH_get] at hx
    cases ho : os[k]? with
    | none => rw [ho] at hx; cases hx
    | some o =>
      rw [ho] at hx
      simp only [Option.map_some, Option.some.injEq] at hx
      cases hob : h[o]? with
      | none => rw [hob] at hx; exact .inl hx.symm
      | some ob => rw [hob] at hx; exact .inr ⟨o, ob, rfl, hob, hx.symm⟩
  have alk : ∀ {y : Ob} {q : Pl}, (renO os y).alive q → y.alive q := fun {y q} ha => by cases y <;> exact ha
  refine ⟨⟨⟨fun k x hx => ?_, fun i j x y hx ax hy ay hb => ?_, fun k x hx ax => ?_, hs.hh.cl⟩, fun i v hi => ?_, hs.hn⟩, fun b ⟨k, x, hx, ax, hb⟩ => ?_⟩
  · rcases split k x hx with rfl | ⟨o, ob, ho, hob, rfl⟩
    · trivial
    · simp only [ho]
      have := hs.hh.obs o ob hob
      cases ob with
      | dead => trivial
      | box cs =>
        obtain ⟨vs, ty, e1, e2, e3⟩ := this
        refine ⟨vs, ty, e1, by simpa using e2, fun k v hv => ?_⟩
        obtain ⟨u, g1, rfl⟩ := hmap hv
        exact ⟨h1 _ _ (e3 k u g1).1, (e3 k u g1).2⟩
      | arr cs => exact this
      | sl ty m n es => cases n <;> exact this
      | mp kvs => exact this
  · rcases split i x hx with rfl | ⟨o, ob, ho, hob, rfl⟩
    · exact ax.elim
    · rcases split j y hy with rfl | ⟨o', ob', ho', hob', rfl⟩
      · exact ay.elim
      · simp only [ho, ho'] at ax ay hb
        have := hs.hh.sep o o' ob ob' hob (alk ax) hob' (alk ay) hb
        subst this
        exact nodupB_inj hn i j o ho ho'
  · rcases split k x hx with rfl | ⟨o, ob, ho, hob, rfl⟩
    · exact ax.elim
    · simp only [ho] at ax ⊢
      exact hs.hh.nI o ob hob (alk ax)
  · have gs : ∀ l : List Nat, get (subE os e l) i = some v → ∃ u, (get e i = some u ∧ v = renV os u) ∨ v = .bot := fun l => by
      induction l with
      | nil => intro hq; cases hq
      | cons x r ih =>
        intro hq
        simp only [subE, get] at hq
        cases hb : Nat.beq x i with
        | true =>
          rw [hb] at hq
          have := Nat.eq_of_beq_eq_true hb
          subst this
          simp only [cond_true, Option.some.injEq] at hq
          cases hg : get e x with
          | none => rw [hg] at hq; exact ⟨.bot, .inr hq.symm⟩
          | some u => rw [hg] at hq; exact ⟨u, .inl ⟨rfl, hq.symm⟩⟩
        | false => rw [hb] at hq; exact ih hq
    obtain ⟨u, ⟨g1, rfl⟩ | rfl⟩ := gs ks hi
    · have := hs.he i u g1
      cases u with
      | spec j wt u => exact LRel.bot _
      | own o =>
        have h3 := h2 _ _ this
        simp only [renV, ren1] at h3 ⊢
        cases hq : idx o os 0 <;> rw [hq] at h3 <;> exact h3
      | sub o x y =>
        have h3 := h2 _ _ this
        simp only [renV, ren1] at h3 ⊢
        cases hq : idx o os 0 <;> rw [hq] at h3 <;> exact h3
      | elt o x y =>
        have h3 := h2 _ _ this
        simp only [renV, ren1] at h3 ⊢
        cases hq : idx o os 0 <;> rw [hq] at h3 <;> exact h3
      | box o x =>
        have h3 := h2 _ _ this
        simp only [renV, ren1] at h3 ⊢
        cases hq : idx o os 0 <;> rw [hq] at h3 <;> exact h3
      | mp o =>
        have h3 := h2 _ _ this
        simp only [renV, ren1] at h3 ⊢
        cases hq : idx o os 0 <;> rw [hq] at h3 <;> exact h3
      | bot => exact h2 _ _ this
      | pv p => exact h2 _ _ this
      | agg cs => exact h2 _ _ this
      | tup cs => exact h2 _ _ this
      | fn f cs => exact h2 _ _ this
    · exact LRel.bot _
  · rcases split k x hx with rfl | ⟨o, ob, ho, hob, rfl⟩
    · exact ax.elim
    · simp only [ho] at ax hb
      exact ⟨o, ob, hob, alk ax, hb⟩

/-- Nil slices in these slots become objects of their own. -/
def adopt : List (Nat × Nat × Nat) → Env → Hp → Env × Hp
  | [], e, h => (e, h)
  | (i, ty) :: r, e, h => match get e i with
    | some (.pv (.sl true _ [])) => adopt r ((i, .own h.length) :: e) (h ++ [.sl ty false true []])
    | _ => adopt r e h
theorem SRel.adopt {w : World} {I : Nat → Prop} {N : Nat} {a : Act} : ∀ {ad : List (Nat × Nat × Nat)} {e : Env} {h : Hp} {G : Nat → Pl}, SRel w I G e h N a →
    ∃ G', SRel w I G' (adopt ad e h).1 (adopt ad e h).2 N a ∧ ∀ b, Owns (Eng.adopt ad e h).2 G' b → Owns h G b
  | [], e, h, G, hs => ⟨G, hs, fun b hb => hb⟩
  | (i, ty) :: r, e, h, G, hs => by
    unfold Eng.adopt
    split
    · rename_i f hg
      have hp : ¬ (Ob.sl ty false true []).alive ⟨0, 0, 0, 0⟩ := fun x => by cases x.1
      have hh' := hs.hh.add (.sl ty false true []) ⟨0, 0, 0, 0⟩ hp rfl
      have hv : a.tmps.getD i undef = .slice none 0 0 := by
        have := hs.he i _ hg
        simp only [VRel] at this
        generalize a.tmps.getD i undef = cv at this
        cases this with
        | pv _ _ h1 => cases h1 with
          | slnil => rfl
      have hs' : SRel w I (addPl G h.length ⟨0, 0, 0, 0⟩) ((i, .own h.length) :: e) (h ++ [.sl ty false true []]) N a :=
        ⟨hh', (hs.he.mono (Keeps.refl w I) (Like.push G h ⟨0, 0, 0, 0⟩ (.sl ty false true []))).cons (by rw [hv]; exact LRel.ownNil h.length ty false [] (by simp)), hs.hn⟩
      obtain ⟨G', g1, g2⟩ := SRel.adopt (ad := r) hs'
      refine ⟨G', g1, fun b hb => ?_⟩
      obtain ⟨o, ob, h1, h2, h3⟩ := g2 b hb
      rcases Nat.lt_trichotomy o h.length with ho | ho | ho
      · rw [List.getElem?_append_left ho] at h1
        have e1 : addPl G h.length ⟨0, 0, 0, 0⟩ o = G o := by simp [addPl, Nat.ne_of_lt ho]
        rw [e1] at h2 h3
        exact ⟨o, ob, h1, h2, h3⟩
      · subst ho; simp at h1; subst h1; cases h2.1
      · rw [List.getElem?_eq_none (by simp; omega)] at h1; cases h1
    · exact SRel.adopt hs

/-- One state is the other one, some of it forgotten. -/
def Fits (e : Env) (h : Hp) (e' : Env) (h' : Hp) : Prop := ∃ ad os ks, nodupB os = true ∧ subE os (adopt ad e h).1 ks = e' ∧ subH os (adopt ad e h).2 os = h'
theorem Fits.srel {w : World} {I : Nat → Prop} {G : Nat → Pl} {e e' : Env} {h h' : Hp} {N : Nat} {a : Act} (hf : Fits e h e' h') (hs : SRel w I G e h N a) : ∃ G', SRel w I G' e' h' N a ∧ ∀ b, Owns h' G' b → Owns h G b := by
  obtain ⟨ad, os, ks, h1, rfl, rfl⟩ := hf
  obtain ⟨G1, g1, g2⟩ := hs.adopt (ad := ad)
  obtain ⟨g3, g4⟩ := g1.sub os ks h1
  exact ⟨_, g3, fun b hb => g2 b (g4 b hb)⟩
theorem Tr.less {w : World} {I own own' : Nat → Prop} (h : ∀ b, own' b → own b) : Tr w I own w I own' := ⟨rfl, rfl, rfl, Nat.le_refl _, fun _ _ _ => rfl, fun _ x => x, fun _ x => .inl x, fun b x => .inl (h b x), fun _ => rfl⟩
theorem CodeS.fits {P : Program} {N : Nat} {c : Code} {e e' : Env} {h h' : Hp} {Q : Qt} (hf : Fits e h e' h') (hK : CodeS P N c e' h' Q) : CodeS P N c e h Q := by
  intro w I G a Qx hs hq
  obtain ⟨G', hs', ho⟩ := hf.srel hs
  exact hK w I G' a Qx hs' fun x e2 h2 w2 I2 G2 a2 hk hs2 hd ht => hq x e2 h2 w2 I2 G2 a2 hk hs2 hd ((Tr.less ho).trans ht)

/-- A LOOP: the states at its head, by what they hold. -/
theorem CodeS.loop {P : Program} {N : Nat} {c : Code} {e : Env} {h : Hp} {Q : Qt} {σ : Type} (S : σ → Env × Hp) (J : σ → Prop) (μ : σ → Nat) (s0 : σ) (h0 : Fits e h (S s0).1 (S s0).2) (hJ : J s0)
    (hb : ∀ s, J s → CodeS P N c (S s).1 (S s).2 fun x e h => match x with | .normal => ∃ s', Fits e h (S s').1 (S s').2 ∧ J s' ∧ μ s' < μ s | x => Q x e h) : CodeS P N (.loop c) e h Q := by
  intro w I G a Qx hs hq
  obtain ⟨G0, hs0, ho0⟩ := h0.srel hs
  refine wp_loop_ghost (fun n a1 w1 => ∃ s I1 G1, μ s = n ∧ J s ∧ SRel w1 I1 G1 (S s).1 (S s).2 N a1 ∧ a1.defers = a.defers ∧ Tr w I (Owns h G) w1 I1 (Owns (S s).2 G1)) (μ s0)
    ⟨s0, I, G0, rfl, hJ, hs0, rfl, Tr.less ho0⟩ ?_
  rintro n a1 w1 ⟨s, I1, G1, rfl, hj, hs1, hd1, ht1⟩
  refine hb s hj w1 I1 G1 a1 _ hs1 fun x e2 h2 w2 I2 G2 a2 hk hs2 hd2 ht2 => ?_
  cases x with
  | normal =>
    obtain ⟨s', hf, hj', hlt⟩ := hk
    obtain ⟨G3, hs3, ho3⟩ := hf.srel hs2
    exact ⟨μ s', hlt, s', I2, G3, rfl, hj', hs3, hd2.trans hd1, (ht1.trans ht2).trans (Tr.less ho3)⟩
  | exit n => exact hq (.exit n) e2 h2 w2 I2 G2 a2 hk hs2 (hd2.trans hd1) (ht1.trans ht2)
  | ret => exact hq .ret e2 h2 w2 I2 G2 a2 hk hs2 (hd2.trans hd1) (ht1.trans ht2)

/-- The slots that are kept behind a region. -/
def keepE : List Nat → Env → Env
  | [], _ => []
  | i :: r, e => match get e i with
    | some (.spec ..) => keepE r e
    | some .bot => keepE r e
    | some v => (i, v) :: keepE r e
    | none => keepE r e
theorem get_keepE {e : Env} {i : Nat} {v : LV} : ∀ {l : List Nat}, get (keepE l e) i = some v → get e i = some v
  | [], h => by cases h
  | x :: r, h => by
    unfold keepE at h
    split at h
    · exact get_keepE h
    · exact get_keepE h
    · rename_i u _ _ hu
      simp only [get] at h
      cases hb : Nat.beq x i with
      | true => rw [hb] at h; have := Nat.eq_of_beq_eq_true hb; subst this; cases h; exact hu
      | false => rw [hb] at h; exact get_keepE h
    · exact get_keepE h
theorem SRel.kept {w : World} {I : Nat → Prop} {G : Nat → Pl} {e : Env} {h : Hp} {N : Nat} {a : Act} (hs : SRel w I G e h N a) (l : List Nat) : SRel w I G (keepE l e) h N a :=
  ⟨hs.hh, fun i v hi => hs.he i v (get_keepE hi), hs.hn⟩
theorem CodeS.region {P : Program} {N : Nat} {id : Nat} {ops : Array Oper} {e : Env} {h : Hp} {Q : Qt} (l : List Nat) (hK : aOps P N ops.toList ops.toList e h (fun e h => Q .normal (keepE l e) h)) : CodeS P N (.region id ops false) e h Q := by
  intro w I G a Qx hs hq
  refine wp_region ?_
  have := aOps_ok (Qx := Qx) ops.toList 0 e h (fun j _ => by simp) hK w I G a hs fun e' h' w' I' G' a' hk hs' hd ht => hq .normal _ h' w' I' G' a' hk (hs'.kept l) hd ht
  simpa [List.range_eq_range'] using this
/-- What is said of a loop: the states at its head, by what they hold; a condition; a measure. -/
structure LSpec where
  σ : Type
  S : σ → Env × Hp
  J : σ → Prop
  μ : σ → Nat
/-- A loop is told by the first region in it. -/
def firstR : Code → Option Nat
  | .region id _ _ => some id
  | .seq a b => match firstR a with
    | some k => some k
    | none => firstR b
  | .cond _ a b => match firstR a with
    | some k => some k
    | none => firstR b
  | .block _ c => firstR c
  | .loop c => firstR c
  | _ => none
def loopQ (sp : LSpec) (s : sp.σ) (Q : Qt) : Qt := fun x e h => match x with
  | .normal => ∃ s', Fits e h (sp.S s').1 (sp.S s').2 ∧ sp.J s' ∧ sp.μ s' < sp.μ s
  | .exit n => Q (.exit n) e h
  | .ret => Q .ret e h
/-- Running code over abstract states. -/
def aWp (P : Program) (N : Nat) (l : List Nat) (L : Nat → Option LSpec) : Code → Env → Hp → Qt → Prop
  | .skip, e, h, Q => Q .normal e h
  | .region id ops d, e, h, Q => bif d then aDraw P N ops e h (fun e h => Q .normal (keepE l e) h) else aOps P N ops.toList ops.toList e h fun e h => Q .normal (keepE l e) h
  | .seq a b, e, h, Q => aWp P N l L a e h fun x e h => match x with
    | .normal => aWp P N l L b e h Q
    | .exit n => Q (.exit n) e h
    | .ret => Q .ret e h
  | .cond c a b, e, h, Q => match opv [] e c with
    | some (.pv (.bool t)) => if t = true then aWp P N l L a e h Q else aWp P N l L b e h Q
    | _ => False
  | .block id c, e, h, Q => aWp P N l L c e h fun x e h => match x with
    | .normal => Q .normal e h
    | .exit n => bif Nat.beq n id then Q .normal e h else Q (.exit n) e h
    | .ret => Q .ret e h
  | .loop c, e, h, Q => match firstR c with
    | some k => match L k with
      | some sp => ∃ s0, Fits e h (sp.S s0).1 (sp.S s0).2 ∧ sp.J s0 ∧ ∀ s, sp.J s → aWp P N l L c (sp.S s).1 (sp.S s).2 (loopQ sp s Q)
      | none => CodeS P N (.loop c) e h Q
    | none => False
  | .exit n, e, h, Q => Q (.exit n) e h
  | .ret, e, h, Q => Q .ret e h
  | _, _, _, _ => False
theorem aWp_ok {P : Program} {N : Nat} {l : List Nat} {L : Nat → Option LSpec} : ∀ {c : Code} {e : Env} {h : Hp} {Q : Qt}, aWp P N l L c e h Q → CodeS P N c e h Q := by
  intro c
  induction c with
  | skip => exact fun hK => CodeS.skip hK
  | region id ops d =>
    intro e h Q hK
    cases d with
    | true => exact fun w I G a Qx hs hq => aDraw_ok hK hs fun e' h' w' I' G' a' hk hs' hd ht => hq .normal _ h' w' I' G' a' hk (hs'.kept l) hd ht
    | false => exact CodeS.region l hK
  | seq a b iha ihb =>
    intro e h Q hK
    refine CodeS.seq ((iha hK).mono fun x e h hq => ?_)
    cases x with
    | normal => exact ihb hq
    | exit n => exact hq
    | ret => exact hq
  | cond c a b iha ihb =>
    intro e h Q hK
    simp only [aWp] at hK
    split at hK
    · rename_i t ht
      refine CodeS.cond ht ?_
      cases t with
      | true => simp only [if_true] at hK ⊢; exact iha hK
      | false => simp only [Bool.false_eq_true, if_false] at hK ⊢; exact ihb hK
    · cases hK
  | block id c ih =>
    intro e h Q hK
    refine CodeS.block ((ih hK).mono fun x e h hq => ?_)
    cases x with
    | normal => exact hq
    | exit n => exact hq
    | ret => exact hq
  | loop c ih =>
    intro e h Q hK
    simp only [aWp] at hK
    split at hK
    · split at hK
      · rename_i sp hsp
        obtain ⟨s0, h1, h2, h3⟩ := hK
        refine CodeS.loop sp.S sp.J sp.μ s0 h1 h2 fun s hj => (ih (h3 s hj)).mono fun x e h hq => ?_
        cases x with
        | normal => exact hq
        | exit n => exact hq
        | ret => exact hq
      · exact hK
    · exact hK.elim
  | exit n => exact fun hK => CodeS.exit hK
  | ret => exact fun hK => CodeS.ret hK
  | _ => intro e h Q hK; exact hK.elim

/-! ### A function -/
def initE : List LV → Nat → Env
  | [], _ => []
  | v :: r, k => (k, v) :: initE r (k + 1)
def resVs (e : Env) : List ResultVar → Option (List LV)
  | [] => some []
  | .tmp t :: r => match opv [] e (.tmp t), resVs e r with
    | some v, some vs => some (v :: vs)
    | _, _ => none
  | .cell .. :: _ => none
def resV (e : Env) (rs : List ResultVar) : Option LV :=
  match resVs e rs with
  | some [v] => some v
  | some vs => some (.tup vs)
  | none => none
/-- What a function hands back is told as a tree. -/
def retK (rs : List ResultVar) (R : PV → Prop) : Qt := fun x e h =>
  match x with
  | .exit _ => False
  | _ => match resV e rs with
    | some v => match toPV h v with
      | some p => R p
      | none => False
    | none => False
theorem resVs_ok {P : Program} {w : World} {I : Nat → Prop} {G : Nat → Pl} {h : Hp} {a : Act} {e : Env} (he : ERel w I G h e a.tmps) {f : ResultVar → Sem Value} (hf : ∀ t, f (.tmp t) = Pure.pure (a.tmps.getD t undef)) :
    ∀ {rs : List ResultVar} {vs : List LV}, resVs e rs = some vs → ∃ cs : List Value, (rs.mapM f).run P w = .ok cs w ∧ cs.length = vs.length ∧ ∀ (k : Nat) v, vs[k]? = some v → LRel w I G h v (cs.getD k undef)
  | [], vs, hv => by cases hv; exact ⟨[], rfl, rfl, fun k v hk => by simp at hk⟩
  | .cell c t :: r, vs, hv => by cases hv
  | .tmp t :: r, vs, hv => by
    unfold resVs at hv
    split at hv
    · rename_i v vs' h1 h2
      cases hv
      obtain ⟨cs, g1, g2, g3⟩ := resVs_ok (P := P) he hf h2
      refine ⟨a.tmps.getD t undef :: cs, ?_, by simp [g2], fun k u hk => ?_⟩
      · simp only [List.mapM_cons, hf, Sem.run_bind, Sem.run_pure, Result.andThen_ok, g1]
      cases k with
      | zero => simp at hk; subst hk; exact opv_ok he (AOK.nil _) h1
      | succ k => simp at hk; simpa using g3 k u hk
    · cases hv
theorem resV_ok {P : Program} {w : World} {I : Nat → Prop} {G : Nat → Pl} {h : Hp} {a : Act} {e : Env} (he : ERel w I G h e a.tmps) {fn : Func} {v : LV} (hv : resV e fn.results.toList = some v) : ∃ cv, (results fn a.tmps).run P w = .ok cv w ∧ LRel w I G h v cv := by
  unfold resV at hv
  have base : ∀ {vs}, resVs e fn.results.toList = some vs → ∃ ca : Array Value, (results fn a.tmps).run P w = .ok (if h : ca.size = 1 then ca[0] else .tuple ca) w ∧ ca.size = vs.length ∧ ∀ (k : Nat) v, vs[k]? = some v → LRel w I G h v (ca.getD k undef) := fun {vs} hvs => by
    obtain ⟨cs, g1, g2, g3⟩ := resVs_ok (P := P) (f := fun | .tmp t => Pure.pure (a.tmps.getD t undef) | .cell c t => do loadVar t (← asAddr (a.tmps.getD c undef))) he (fun t => rfl) hvs
    refine ⟨cs.toArray, ?_, by simpa using g2, fun k v hk => by simpa [List.getD] using g3 k v hk⟩
    unfold results
    rw [Sem.run_bind, Array.mapM_eq_mapM_toList]
    simp only [Sem.run_bind, Sem.run_map, Sem.run_pure, Result.andThen_ok]
    erw [g1]
    rfl
  split at hv
  · rename_i u hu
    cases hv
    obtain ⟨ca, g1, g2, g3⟩ := base hu
    have h1 : ca.size = 1 := by simpa using g2
    refine ⟨_, g1, ?_⟩
    rw [dif_pos h1]
    have := g3 0 v rfl
    have e1 : ca.getD 0 undef = ca[0] := by simp [h1]
    rw [← e1]; exact this
  · rename_i vs hne hvs
    cases hv
    obtain ⟨ca, g1, g2, g3⟩ := base hvs
    have h1 : ca.size ≠ 1 := fun h1 => by
      rw [h1] at g2
      match vs, g2 with
      | [x], _ => exact hne x rfl
    refine ⟨_, g1, ?_⟩
    rw [dif_neg h1]
    exact .tup vs ca g2 g3
  · cases hv

@[irreducible] def aFn (P : Program) (fn : Func) (l : List Nat) (L : Nat → Option LSpec) (c : Code) (ps : List PV) (R : PV → Prop) : Prop := aWp P fn.ntmps l L c (initE (ps.map .pv) 0) [] (retK fn.results.toList R)
theorem get_initE : ∀ {vs : List LV} {k i : Nat} {v : LV}, get (initE vs k) i = some v → k ≤ i ∧ vs[i - k]? = some v
  | [], k, i, v, h => by cases h
  | x :: r, k, i, v, h => by
    simp only [initE, get] at h
    cases hb : Nat.beq k i with
    | true => rw [hb] at h; have := Nat.eq_of_beq_eq_true hb; subst this; simp at h; subst h; simp
    | false =>
      rw [hb] at h
      obtain ⟨h1, h2⟩ := get_initE h
      refine ⟨by omega, ?_⟩
      have hne : k ≠ i := fun e => by subst e; simp at hb
      rw [show i - k = (i - (k + 1)) + 1 by omega]
      simpa using h2
/-- A FUNCTION: what its code gives, over abstract states, is what its call gives. -/
theorem PCall.of {P : Program} {f : Nat} {fn : Func} {c : Code} {ps : List PV} {R : PV → Prop} (hf : P.funcs[f]? = some fn) (hb : fn.body = some c) (hn : (fn.name == "runtime.NumGoroutine") = false) (hl : ps.length ≤ fn.ntmps)
    {l : List Nat} {L : Nat → Option LSpec} (hK : aFn P fn l L c ps R) : PCall P f ps R := by
  unfold aFn at hK
  refine ⟨⟨fn, hf, by rw [hb]; rfl, hn⟩, fun w I G cargs hh hsz hrel => ?_⟩
  refine calls_of_wp hf hb ?_
  simp only [List.length_map] at hsz
  have hs : SRel w I G (initE (ps.map .pv) 0) [] fn.ntmps { tmps := cargs ++ Array.replicate (fn.ntmps - cargs.size) undef, defers := [] } := by
    refine ⟨hh, fun i v hi => ?_, by simp; omega⟩
    obtain ⟨_, h2⟩ := get_initE hi
    rw [Nat.sub_zero] at h2
    have hlt : i < cargs.size := by have := (List.getElem?_eq_some_iff.1 h2).1; simp at this; omega
    have := hrel i v h2
    have e1 : (cargs ++ Array.replicate (fn.ntmps - cargs.size) undef).getD i undef = cargs.getD i undef := by
      rw [Array.getD_eq_getD_getElem?, Array.getD_eq_getD_getElem?, Array.getElem?_append_left hlt]
    simp only [e1]
    rw [List.getElem?_map] at h2
    cases hp : ps[i]? with
    | none => rw [hp] at h2; cases h2
    | some p => rw [hp] at h2; cases h2; exact this
  refine aWp_ok hK w I G _ _ hs fun x e' h' w' I' G' a' hk hs' hd ht => ?_
  have fin : ∀ {v p}, resV e' fn.results.toList = some v → toPV h' v = some p → R p → a'.defers = [] ∧ ∃ cv, (results fn a'.tmps).run P w' = .ok cv w' ∧ ∃ cv' r h2 I2 G2, Ending.returned cv = .returned cv' ∧ (∃ v, r = .pv v ∧ R v) ∧ HRel w' I2 G2 h2 ∧ LRel w' I2 G2 h2 r cv' ∧
      Tr w I (Owns [] G) w' I2 (Owns h2 G2) ∧ (∀ (o : Nat) ob', o < ([] : Hp).length → h2[o]? = some ob' → (∀ ty n es, ob' ≠ .sl ty true n es) → G2 o = G o) := fun {v p} h1 h2 h3 => by
    obtain ⟨cv, g1, g2⟩ := resV_ok (P := P) hs'.he h1
    have hno : ∀ b, ¬ Owns [] G b := fun b ⟨o, ob, ho, _⟩ => by simp at ho
    refine ⟨hd, cv, g1, cv, .pv p, [], AllB I' h' G', G', rfl, ⟨p, rfl, h3⟩, HRel.nil G' (fun b hb => hb.elim (hs'.hh.cl b) hs'.hh.blk_lt), .pv _ _ (toPV_ok hs'.hh g2 h2), ?_, fun o ob ho => by simp at ho⟩
    refine ⟨ht.os, ht.tape, ht.output, ht.size, ht.keep, fun b hb => .inl (ht.i1 b hb), fun b hb => hb.elim (ht.i2 b) (fun ho => (ht.own2 b ho).elim (fun x => absurd x (hno b)) (fun x => .inr (.inr x))), fun b hb => absurd hb (fun ⟨o, ob, ho, _⟩ => by simp at ho), ht.frz⟩
  cases x with
  | exit n => exact hk.elim
  | normal =>
    simp only [retK] at hk
    split at hk
    · rename_i v hv
      split at hk
      · rename_i p hp; exact fin hv hp hk
      · cases hk
    · cases hk
  | ret =>
    simp only [retK] at hk
    split at hk
    · rename_i v hv
      split at hk
      · rename_i p hp; exact fin hv hp hk
      · cases hk
    · cases hk
end Go.Eng
set_option linter.unusedVariables false
set_option linter.unusedSimpArgs false
namespace Go.Eng
open Go Go.RowKit
theorem keptBut_of {w w' : World} {may : MemPlace → Prop} (h1 : w'.os = w.os) (h2 : w'.output = w.output) (h3 : ∀ b, b < w.heap.size → w'.heap[b]? = w.heap[b]?) : w.keptBut w' may := by
  obtain ⟨_, _, h⟩ := World.keptBut_refl w may
  refine ⟨h1, h2, fun i hi => ?_⟩
  rw [h3 i hi]
  exact h i hi
/-- A call that is told by trees, at a world of one's own. -/
theorem PCall.row {P : Program} {f : Nat} {ps : List PV} {Q : PV → Prop} (hc : PCall P f ps Q) {args : Array Value} {w : World} (hn : args.size = ps.length)
    (hr : ∀ (i : Nat) v, ps[i]? = some v → Rep w (fun b => b < w.heap.size) v (args.getD i undef)) :
    Calls P f args w fun e w' => ∃ v cv I', e = .returned cv ∧ Q v ∧ Rep w' I' v cv ∧ Grown w w' := by
  refine (hc.2 w (fun b => b < w.heap.size) (fun _ => ⟨0, 0, 0, 0⟩) args (HRel.nil _ fun b hb => hb) (by simpa using hn) (fun i v hi => ?_)).mono fun e w' ⟨cv, r, h', I', G', e1, ⟨v, e2, hq⟩, e3, e4, e5, _⟩ => ?_
  · rw [List.getElem?_map] at hi
    cases hp : ps[i]? with
    | none => rw [hp] at hi; cases hi
    | some p => rw [hp] at hi; cases hi; exact .pv _ _ (hr i p hp)
  · subst e2
    have hno : ∀ b, ¬ Owns [] (fun _ => (⟨0, 0, 0, 0⟩ : Pl)) b := fun b ⟨o, ob, ho, _⟩ => by simp at ho
    have hk : ∀ b, b < w.heap.size → w'.heap[b]? = w.heap[b]? := fun b hb => e5.keep b hb (hno b)
    cases e4 with
    | pv _ _ h1 => exact ⟨v, cv, I', e1, hq, h1, keptBut_of e5.os e5.output hk, e5.frz, e5.size⟩
/-- A law's call. -/
theorem PCall.law {P : Program} {f : Nat} {ps : List PV} (hc : PCall P f ps fun v => v = .bool true) {args : Array Value} {w : World} (hn : args.size = ps.length)
    (hr : ∀ (i : Nat) v, ps[i]? = some v → Rep w (fun b => b < w.heap.size) v (args.getD i undef)) : Calls P f args w fun e w' => e = .returned (.bool true) ∧ Grown w w' :=
  (hc.row hn hr).mono fun e w' ⟨v, cv, I', e1, e2, e3, e4⟩ => by
    subst e2
    cases e3
    exact ⟨e1, e4⟩
theorem wrap_i32 {n : Int} (h1 : -2147483648 ≤ n) (h2 : n ≤ 2147483647) : IntKind.i32.wrap n = n := by
  unfold IntKind.wrap
  simp only [IntKind.bits, IntKind.signed]
  simp only [Bool.true_and, decide_eq_true_eq, show (2:Int)^(32-1) = 2147483648 from rfl, show (2:Int)^32 = 4294967296 from rfl, show (2:Int)^(64-1) = 9223372036854775808 from rfl, show (2:Int)^64 = 18446744073709551616 from rfl]
  split <;> omega
theorem wrap_i64 {n : Int} (h1 : -9223372036854775808 ≤ n) (h2 : n ≤ 9223372036854775807) : IntKind.i64.wrap n = n := by
  unfold IntKind.wrap
  simp only [IntKind.bits, IntKind.signed]
  simp only [Bool.true_and, decide_eq_true_eq, show (2:Int)^(32-1) = 2147483648 from rfl, show (2:Int)^32 = 4294967296 from rfl, show (2:Int)^(64-1) = 9223372036854775808 from rfl, show (2:Int)^64 = 18446744073709551616 from rfl]
  split <;> omega
theorem wf_i32 {n : Int} (h : (Lit.int .i32 n).wf = true) : -2147483648 ≤ n ∧ n ≤ 2147483647 := by
  simp [Lit.wf, IntKind.min, IntKind.max, IntKind.bits, IntKind.signed] at h
  omega
theorem wf_i64 {n : Int} (h : (Lit.int .i64 n).wf = true) : -9223372036854775808 ≤ n ∧ n ≤ 9223372036854775807 := by
  simp [Lit.wf, IntKind.min, IntKind.max, IntKind.bits, IntKind.signed] at h
  omega
/-- A slice of integers of 32 bits. -/
def i32s (l : List Int) : List (List PV) := l.map fun n => [.int .i32 n]
@[simp] theorem i32s_length (l : List Int) : (i32s l).length = l.length := by simp [i32s]
theorem i32s_get {l : List Int} {i : Nat} (h : i < l.length) : (i32s l).getD i [] = [.int .i32 (l.getD i 0)] := by
  simp [i32s, List.getD, h]
end Go.Eng
