/- Abstract states run over the code; what each function gives, printed by program and checked by the kernel; and what follows of it. -/
import Derived.Test.YtcppblalhdhlcaaShiftdoesTa
set_option linter.unusedVariables false
set_option linter.unusedSimpArgs false
namespace Go.Eng
open Go
def aField (P : Program) (e : Env) (h : Hp) (t : TypeId) (x : Operand) (i : Nat) (K : Kt) : Prop :=
  match P.underlying t with
  | some (.struct fs) => match fs.toList[i]? with
    | some fd => match P.underlying fd.type, P.info? fd.type with
      | some _, some fi => match opv [] e x with
        | some (.pv (.agg cs)) => match aggT P fd.type with
          | false => match cs[fd.offset]? with | some v => K (.pv v) e h | none => Stuck 801
          | true => bif (Nat.ble (fd.offset + fi.size) cs.length) then K (.pv (.agg ((cs.drop fd.offset).take fi.size))) e h else Stuck 802
        | some (.agg cs) => match aggT P fd.type with
          | false => match cs[fd.offset]? with | some v => K v e h | none => Stuck 803
          | true => bif (Nat.ble (fd.offset + fi.size) cs.length) then
              (match allPV ((cs.drop fd.offset).take fi.size) with
               | some ps => K (.pv (.agg ps)) e h
               | none => K (.agg ((cs.drop fd.offset).take fi.size)) e h) else Stuck 804
        | _ => Stuck 805
      | _, _ => Stuck 806
    | none => Stuck 807
  | _ => Stuck 808
theorem run_part_one {P : Program} {w : World} {t : TypeId} {d : TypeDesc} {cs : Array Value} {off : Nat} (hd : P.underlying t = some d) (h0 : aggT P t = false) (hlt : off < cs.size) : (part t cs off).run P w = .ok (cs.getD off undef) w := by
  unfold part
  simp only [Sem.run_bind, run_isAgg hd, h0, Result.andThen_ok, Bool.false_eq_true, if_false, Sem.run_ite]
  simp [hlt]
theorem run_part_agg {P : Program} {w : World} {t : TypeId} {d : TypeDesc} {ti : TypeInfo} {cs : Array Value} {off : Nat} (hd : P.underlying t = some d) (hi : P.info? t = some ti) (h0 : aggT P t = true) : (part t cs off).run P w = .ok (.agg (cs.extract off (off + ti.size))) w := by
  unfold part
  simp only [Sem.run_bind, run_isAgg hd, h0, Result.andThen_ok, if_true, Sem.run_ite, sizeOf, typeInfo, run_program, hi, Sem.run_pure]
theorem extract_get {cs : Array Value} {off n k : Nat} (hle : off + n ≤ cs.size) (hk : k < n) : (cs.extract off (off + n)).getD k undef = cs.getD (off + k) undef := by
  rw [Array.getD_eq_getD_getElem?, Array.getD_eq_getD_getElem?, Array.getElem?_extract]
  rw [if_pos (by omega)]
theorem aField_okV {P : Program} {o : Oper} {e : Env} {h : Hp} {K : Kt} {t : TypeId} {x : Operand} {i : Nat} (ho : o.op = .field t x i) (hK : aField P e h t x i K) : OpV P o e h K := by
  unfold aField at hK
  split at hK
  · rename_i fs ht
    split at hK
    · rename_i fd hf
      split at hK
      · rename_i d fi hd hi
        have run : ∀ (a : Act) (w : World) (cs : Array Value) v, a.eval x = .agg cs → (part fd.type cs fd.offset).run P w = .ok v w → (execOp a.eval o).run P w = .ok (.value v) w := fun a w cs v hx hv => by
          unfold execOp; rw [ho]
          refine vOf_run ?_
          have hf' : fs[i]? = some fd := by simpa using hf
          unfold Instr.field
          simp only [underlying, asAgg, Sem.run_bind, run_program, Result.andThen_ok, ht, Sem.run_pure, hf', hx, hv]
        split at hK
        · rename_i cs hu
          split at hK
          · rename_i h0
            split at hK
            · rename_i v hv
              refine OpV.pure hK fun w I G a hh he => ?_
              have hu' := opv_ok he (AOK.nil _) hu
              generalize hcx : a.eval x = cx at hu'
              cases hu' with
              | pv _ _ hr => cases hr with
                | agg _ vs h1 h6 h7 =>
                  have hlt : fd.offset < vs.size := by have := (List.getElem?_eq_some_iff.1 hv).1; omega
                  exact ⟨_, fun w2 _ => run a w2 vs _ hcx (run_part_one hd h0 hlt), .pv _ _ (h6 _ _ hv)⟩
            · cases hK
          · rename_i h0
            cases hb : Nat.ble (fd.offset + fi.size) cs.length with
            | false => rw [hb] at hK; cases hK
            | true =>
              rw [hb] at hK
              have hle := Nat.le_of_ble_eq_true hb
              refine OpV.pure hK fun w I G a hh he => ?_
              have hu' := opv_ok he (AOK.nil _) hu
              generalize hcx : a.eval x = cx at hu'
              cases hu' with
              | pv _ _ hr => cases hr with
                | agg _ vs h1 h6 h7 =>
                  refine ⟨_, fun w2 _ => run a w2 vs _ hcx (run_part_agg hd hi h0), .pv _ _ (.agg _ _ (by simp; omega) (fun k v hv => ?_) (fun k v hv => ?_))⟩
                  all_goals
                    rw [List.getElem?_take] at hv
                    split at hv
                    · rename_i hk
                      rw [List.getElem?_drop] at hv
                      rw [extract_get (by omega) hk]
                      first | exact h6 _ _ hv | exact h7 _ _ hv
                    · cases hv
        · rename_i cs hu
          split at hK
          · rename_i h0
            split at hK
            · rename_i v hv
              refine OpV.pure hK fun w I G a hh he => ?_
              have hu' := opv_ok he (AOK.nil _) hu
              generalize hcx : a.eval x = cx at hu'
              cases hu' with
              | agg _ vs h1 h6 h7 =>
                have hlt : fd.offset < vs.size := by have := (List.getElem?_eq_some_iff.1 hv).1; omega
                exact ⟨_, fun w2 _ => run a w2 vs _ hcx (run_part_one hd h0 hlt), h6 _ _ hv⟩
            · cases hK
          · rename_i h0
            cases hb : Nat.ble (fd.offset + fi.size) cs.length with
            | false => rw [hb] at hK; cases hK
            | true =>
              rw [hb] at hK
              simp only [cond_true] at hK
              have hle := Nat.le_of_ble_eq_true hb
              have main : ∀ (w : World) (I : Nat → Prop) (G : Nat → Pl) (a : Act), HRel w I G h → ERel w I G h e a.tmps → ∃ vs : Array Value, (∀ w2, (execOp a.eval o).run P w2 = .ok (.value (.agg vs)) w2) ∧ vs.size = ((cs.drop fd.offset).take fi.size).length ∧
                  ∀ (k : Nat) u, ((cs.drop fd.offset).take fi.size)[k]? = some u → LRel w I G h u (vs.getD k undef) ∧ (vs.getD k undef).oneCell' = true := by
                intro w I G a hh he
                have hu' := opv_ok he (AOK.nil _) hu
                generalize hcx : a.eval x = cx at hu'
                cases hu' with
                | agg _ vs h1 h6 h7 =>
                  refine ⟨_, fun w2 => run a w2 vs _ hcx (run_part_agg hd hi h0), by simp; omega, fun k u hv => ?_⟩
                  rw [List.getElem?_take] at hv
                  split at hv
                  · rename_i hk
                    rw [List.getElem?_drop] at hv
                    rw [extract_get (by omega) hk]
                    exact ⟨h6 _ _ hv, h7 _ _ hv⟩
                  · cases hv
              split at hK
              · rename_i ps hps
                have hps' := allPV_eq hps
                refine OpV.pure hK fun w I G a hh he => ?_
                obtain ⟨vs, h1, h2, h3⟩ := main w I G a hh he
                rw [hps'] at h2 h3
                refine ⟨_, fun w2 _ => h1 w2, .pv _ _ (.agg ps vs (by simpa using h2) (fun k v hv => ?_) (fun k v hv => (h3 k (.pv v) (by simp [hv])).2))⟩
                have := (h3 k (.pv v) (by simp [hv])).1
                generalize vs.getD k undef = cv at this
                cases this; assumption
              · refine OpV.pure hK fun w I G a hh he => ?_
                obtain ⟨vs, h1, h2, h3⟩ := main w I G a hh he
                exact ⟨_, fun w2 _ => h1 w2, .agg _ vs h2 (fun k v hv => (h3 k v hv).1) (fun k v hv => (h3 k v hv).2)⟩
        · cases hK
      · cases hK
    · cases hK
  · cases hK
theorem aField_ok {P : Program} {o : Oper} {e : Env} {h : Hp} {K : Kt} {t : TypeId} {x : Operand} {i : Nat} (ho : o.op = .field t x i) (hK : aField P e h t x i K) : OpS P o e h K := (aField_okV ho hK).opS

def aNilCheck (e : Env) (h : Hp) (x : Operand) (K : Kt) : Prop :=
  match opv [] e x with
  | some u => match nilOfPtr u with
    | some false => K u e h
    | _ => match nilOfFn u with
      | some false => match fnOf u with
        | some _ => K u e h
        | none => Stuck 809
      | _ => Stuck 810
  | none => Stuck 811
theorem aNilCheck_okV {P : Program} {o : Oper} {e : Env} {h : Hp} {K : Kt} {x : Operand} (ho : o.op = .nilCheck x) (hK : aNilCheck e h x K) : OpV P o e h K := by
  unfold aNilCheck at hK
  split at hK
  · rename_i u hu
    split at hK
    · rename_i hn
      refine OpV.pure hK fun w I G a hh he => ?_
      have hu' := opv_ok he (AOK.nil _) hu
      obtain ⟨b, e1, e2⟩ := hu'.nilOfPtr_eq hn
      refine ⟨a.eval x, fun w2 _ => ?_, hu'⟩
      unfold execOp; rw [ho]
      cases b with
      | none => cases e2
      | some a0 => simp only [e1]; rfl
    · split at hK
      · split at hK
        · rename_i q hf
          obtain ⟨f, caps⟩ := q
          refine OpV.pure hK fun w I G a hh he => ?_
          have hu' := opv_ok he (AOK.nil _) hu
          obtain ⟨cc, e1, _⟩ := fnOf_ok hu' hf
          refine ⟨a.eval x, fun w2 _ => ?_, hu'⟩
          unfold execOp; rw [ho]
          simp only [e1]; rfl
        · cases hK
      · cases hK
  · cases hK

theorem aNilCheck_ok {P : Program} {o : Oper} {e : Env} {h : Hp} {K : Kt} {x : Operand} (ho : o.op = .nilCheck x) (hK : aNilCheck e h x K) : OpS P o e h K := (aNilCheck_okV ho hK).opS

/-! ### All operations -/
def aMem (P : Program) (e : Env) (h : Hp) (o : Oper) (K : Kt) : Prop :=
  match o.op with
  | .indexAddr t x i => aIndexAddr P e h t x i K
  | .fieldAddr s x f => aFieldAddr P e h s x f K
  | .load t x => aLoad P e h t x K
  | .store t x y => aStore P e h t x y K
  | .alloc t => aAlloc P e h t K
  | .box t x => aBox P e h t x K
  | .build t parts => aBuild P e h t parts.toList K
  | .buildSlice t n parts => aBuildSlice P e h t n parts.toList K
  | .slice t x lo hi mx => aSlice P e h t x lo hi mx K
  | .field t x i => aField P e h t x i K
  | .nilCheck x => aNilCheck e h x K
  | .call c => match c.callee with
    | .builtin .append => aAppend P e h c.argTypes.toList c.args.toList K
    | .value fo => match opv [] e fo, opvs [] e c.args.toList with
      | some u, some vs => match fnOf u with
        | some (f, caps) => aCallT P e h o.type f (vs ++ caps) K
        | none => Stuck 812
      | _, _ => Stuck 813
    | _ => Stuck 814
  | _ => Stuck 815
def aOp (P : Program) (e : Env) (h : Hp) (o : Oper) (K : Kt) : Prop :=
  match evP P [] e h o.op with
  | some v => K v e h
  | none => aMem P e h o K
theorem aMem_ok {P : Program} {o : Oper} {e : Env} {h : Hp} {K : Kt} (hK : aMem P e h o K) : OpS P o e h K := by
  unfold aMem at hK
  split at hK <;> rename_i hop
  · exact aIndexAddr_ok hop hK
  · exact aFieldAddr_ok hop hK
  · exact aLoad_ok hop hK
  · exact aStore_ok hop hK
  · exact aAlloc_ok hop hK
  · exact aBox_ok hop hK
  · exact aBuild_ok hop hK
  · exact aBuildSlice_ok hop hK
  · exact aSlice_ok hop hK
  · exact aField_ok hop hK
  · exact aNilCheck_ok hop hK
  · split at hK
    · rename_i hc; exact aAppend_ok hop hc hK
    · rename_i fo hc
      split at hK
      · rename_i u vs hu hv
        split at hK
        · rename_i f caps hf; exact aCallT_ok hop hc hu hf hv hK
        · cases hK
      · cases hK
    · cases hK
  · cases hK
theorem aOp_ok {P : Program} {o : Oper} {e : Env} {h : Hp} {K : Kt} (hK : aOp P e h o K) : OpS P o e h K := by
  unfold aOp at hK
  split at hK
  · rename_i v hv; exact OpS.pureP (A := []) hv hK
  · exact aMem_ok hK
end Go.Eng
set_option linter.unusedVariables false
set_option linter.unusedSimpArgs false
namespace Go.Eng
open Go
theorem LRel.notSpec {w : World} {I : Nat → Prop} {G : Nat → Pl} {h : Hp} {v : LV} {cv : Value} (hr : LRel w I G h v cv) : ∀ j want u, v ≠ .spec j want u := by
  intro j want u e; subst e; cases hr
def put (o : Oper) (v : LV) (e : Env) : Env := match o.dst with | some d => set e d v | none => e
def dstOK (N : Nat) (o : Oper) : Bool := match o.dst with | some d => Nat.blt d N | none => true
def dstOf (all : List Oper) (j : Nat) : Option Nat := match all[j]? with | some o => o.dst | none => none
def specE (P : Program) (e : Env) (h : Hp) (s : Nat) (want : Bool) (o : Oper) : Option Env :=
  match o.dst with
  | some d => bif Nat.beq s d then none else (match evP P [(s, want)] e h o.op with
    | some v => some (set e d (.spec s want v))
    | none => none)
  | none => none
def branchOn : Nat → Env → Nat → (Env → Option Bool → Prop) → Prop
  | 0, _, _, _ => Stuck 2001
  | n + 1, e, s, K =>
    match get e s with
    | some (.pv (.bool b)) => if b = true then K ((s, .pv (.bool true)) :: e) (some true) else K ((s, .pv (.bool false)) :: e) (some false)
    | some (.pv .unit) => K e none
    | some (.spec j w (.pv (.bool b))) => branchOn n e j fun e q => match q, w with
      | some true, true => if b = true then K ((s, .pv (.bool true)) :: e) (some true) else K ((s, .pv (.bool false)) :: e) (some false)
      | some false, false => if b = true then K ((s, .pv (.bool true)) :: e) (some true) else K ((s, .pv (.bool false)) :: e) (some false)
      | _, _ => K ((s, .pv .unit) :: e) none
    | _ => Stuck 2002
def isWanted (q : Option Bool) (want : Bool) : Bool :=
  match q, want with
  | some true, true => true
  | some false, false => true
  | _, _ => false
def aOps (P : Program) (N : Nat) (all : List Oper) : List Oper → Env → Hp → (Env → Hp → Prop) → Prop
  | [], e, h, K => K e h
  | o :: r, e, h, K =>
    bif dstOK N o then
      (match o.guard with
      | none => aOp P e h o fun v e h => aOps P N all r (put o v e) h K
      | some (j, want) => match dstOf all j with
        | some s => match specE P e h s want o with
          | some e' => aOps P N all r e' h K
          | none => branchOn 4 e s fun e q => bif isWanted q want then aOp P e h o fun v e h => aOps P N all r (put o v e) h K else aOps P N all r (put o (.pv .unit) e) h K
        | none => Stuck 2003)
    else Stuck 2004

theorem ERel.cons {w : World} {I : Nat → Prop} {G : Nat → Pl} {h : Hp} {tm : Array Value} {e : Env} (he : ERel w I G h e tm) {s : Nat} {v : LV} (hv : VRel w I G h tm v (tm.getD s undef)) : ERel w I G h ((s, v) :: e) tm := by
  intro i u hi
  simp only [get] at hi
  cases hb : Nat.beq s i with
  | true => rw [hb] at hi; have := Nat.eq_of_beq_eq_true hb; subst this; cases hi; exact hv
  | false => rw [hb] at hi; exact he i u hi
theorem branchOn_ok {w : World} {I : Nat → Prop} {G : Nat → Pl} {h : Hp} {tm : Array Value} : ∀ {n : Nat} {e : Env} {s : Nat} {K : Env → Option Bool → Prop}, ERel w I G h e tm → branchOn n e s K →
    ∃ e' q, K e' q ∧ ERel w I G h e' tm ∧ match q with | some b => tm.getD s undef = .bool b | none => tm.getD s undef = undef
  | 0, e, s, K, he, hb => hb.elim
  | n + 1, e, s, K, he, hb => by
    have lit : ∀ {e' : Env} (b : Bool), ERel w I G h e' tm → tm.getD s undef = .bool b → (if b = true then K ((s, .pv (.bool true)) :: e') (some true) else K ((s, .pv (.bool false)) :: e') (some false)) →
        ∃ e' q, K e' q ∧ ERel w I G h e' tm ∧ match q with | some b => tm.getD s undef = .bool b | none => tm.getD s undef = undef := fun {e'} b he' hs hk => by
      have hv : ∀ b, tm.getD s undef = .bool b → VRel w I G h tm (.pv (.bool b)) (tm.getD s undef) := fun b hs => by rw [hs]; exact LRel.pv _ _ (.bool b)
      cases b with
      | true => simp only [if_true] at hk; exact ⟨_, _, hk, he'.cons (hv true hs), hs⟩
      | false => simp only [Bool.false_eq_true, if_false] at hk; exact ⟨_, _, hk, he'.cons (hv false hs), hs⟩
    unfold branchOn at hb
    split at hb
    · rename_i b hg
      exact lit b he (LRel.bool_eq (he s _ hg)) hb
    · rename_i hg
      refine ⟨e, none, hb, he, ?_⟩
      have := he s _ hg
      generalize tm.getD s undef = cv at this
      cases this with | pv _ _ h1 => cases h1; rfl
    · rename_i j wt b hg
      obtain ⟨e', q, hk, he', hq⟩ := branchOn_ok he hb
      have hs := he s _ hg
      split at hk
      · exact lit b he' (LRel.bool_eq (hs.1 hq)) hk
      · exact lit b he' (LRel.bool_eq (hs.1 hq)) hk
      · rename_i hn1 hn2
        have hne : tm.getD j undef ≠ .bool wt := fun e => by
          cases q with
          | none => simp only at hq; rw [hq] at e; cases e
          | some b' =>
            simp only at hq
            rw [hq] at e
            injection e with e
            subst e
            cases b'
            · exact hn2 rfl rfl
            · exact hn1 rfl rfl
        have hu := hs.2 hne
        exact ⟨_, none, hk, he'.cons (by rw [hu]; exact LRel.pv _ _ .unit), hu⟩
    · cases hb

/-- What is known of a frame. -/
structure SRel (w : World) (I : Nat → Prop) (G : Nat → Pl) (e : Env) (h : Hp) (N : Nat) (a : Act) : Prop where
  hh : HRel w I G h
  he : ERel w I G h e a.tmps
  hn : a.tmps.size = N
theorem put_rel {w : World} {I : Nat → Prop} {G : Nat → Pl} {e : Env} {h : Hp} {N : Nat} {a : Act} {o : Oper} (hd : dstOK N o = true) (hn : a.tmps.size = N) (hh : HRel w I G h) (he : ERel w I G h e a.tmps) {v : LV} {cv : Value} (hv : LRel w I G h v cv) :
    SRel w I G (put o v e) h N (a.put o.dst cv) ∧ (a.put o.dst cv).defers = a.defers := by
  unfold put Act.put
  unfold dstOK at hd
  cases hdst : o.dst with
  | none => exact ⟨⟨hh, he, hn⟩, rfl⟩
  | some d =>
    rw [hdst] at hd
    have hlt : d < a.tmps.size := by rw [hn]; exact Nat.le_of_ble_eq_true hd
    exact ⟨⟨hh, he.set hlt hv hv.notSpec, by simp [hn]⟩, rfl⟩

/-- The operations of a region, in the order of the text. -/
theorem aOps_ok {P : Program} {N : Nat} {ops : Array Oper} {Qx : Exit → Act → World → Prop} {K : Env → Hp → Prop} : ∀ (l : List Oper) (k : Nat) (e : Env) (h : Hp), (∀ j, j < l.length → l[j]? = ops[k + j]?) → aOps P N ops.toList l e h K →
    ∀ (w : World) (I : Nat → Prop) (G : Nat → Pl) (a : Act), SRel w I G e h N a →
      (∀ e' h' w' I' G' a', K e' h' → SRel w' I' G' e' h' N a' → a'.defers = a.defers → Tr w I (Owns h G) w' I' (Owns h' G') → Qx .normal a' w') → wpOps P ops Qx (List.range' k l.length) a w := by
  intro l
  induction l with
  | nil =>
    intro k e h hl hK w I G a hs hq
    exact hq e h w I G a hK hs rfl (.refl _ _ _)
  | cons o r ih =>
    intro k e h hl hK w I G a hs hq
    have h0 : ops[k]? = some o := by simpa using (hl 0 (by simp)).symm
    have hl' : ∀ j, j < r.length → r[j]? = ops[k + 1 + j]? := fun j hj => by have := hl (j + 1) (by simpa using hj); simpa [Nat.add_assoc, Nat.add_comm 1 j] using this
    simp only [List.length_cons, List.range'_succ]
    rw [wpOps_cons]
    unfold wpOp
    simp only [h0]
    unfold aOps at hK
    cases hd : dstOK N o with
    | false => rw [hd] at hK; cases hK
    | true =>
      rw [hd] at hK
      simp only [cond_true] at hK
      -- an operation that is carried out
      have run : ∀ {e1 : Env}, ERel w I G h e1 a.tmps → aOp P e1 h o (fun v e h => aOps P N ops.toList r (put o v e) h K) → o.wp P a w (wpOps P ops Qx (List.range' (k + 1) r.length)) Qx := fun {e1} he1 hop => by
        refine aOp_ok hop w I G a _ _ hs.hh he1 fun v e' h' w' I' G' cv hk hh' he' hv' htr => ?_
        obtain ⟨hs', hdef⟩ := put_rel hd hs.hn hh' he' hv'
        exact ih (k + 1) _ _ hl' hk w' I' G' _ hs' fun e2 h2 w2 I2 G2 a2 hk2 hs2 hd2 ht2 => hq e2 h2 w2 I2 G2 a2 hk2 hs2 (hd2.trans hdef) (htr.trans ht2)
      have skip : ∀ {e1 : Env} {v : LV}, SRel w I G e1 h N (a.put o.dst undef) → aOps P N ops.toList r e1 h K → wpOps P ops Qx (List.range' (k + 1) r.length) (a.put o.dst undef) w := fun {e1 v} hs1 hop =>
        ih (k + 1) _ _ hl' hop w I G _ hs1 fun e2 h2 w2 I2 G2 a2 hk2 hs2 hd2 ht2 => hq e2 h2 w2 I2 G2 a2 hk2 hs2 (hd2.trans (by unfold Act.put; cases o.dst <;> rfl)) ht2
      split at hK
      · rename_i hg
        have hw : Region.wanted o (yielded ops a.tmps) = true := by simp [Region.wanted, hg]
        rw [if_pos hw]
        exact .inl (run hs.he hK)
      · rename_i j want hg
        have hwd : Region.wanted o (yielded ops a.tmps) = (yielded ops a.tmps j == some want) := by simp [Region.wanted, hg]
        split at hK
        · rename_i s hds
          have hyield : (yielded ops a.tmps j = some want ↔ a.tmps.getD s undef = .bool want) := by
            unfold dstOf at hds
            split at hds
            · rename_i oj hoj
              have hoj' : ops[j]? = some oj := by simpa using hoj
              unfold yielded
              simp only [hoj', Option.bind_some, hds]
              rw [Array.getD_eq_getD_getElem?]
              cases hts : a.tmps[s]? with
              | none => simp [undef]
              | some v => cases v <;> simp
            · cases hds
          split at hK
          · rename_i e' hsp
            unfold specE at hsp
            split at hsp
            · rename_i d hdst
              cases hsd : Nat.beq s d with
              | true => rw [hsd] at hsp; cases hsp
              | false =>
                rw [hsd] at hsp
                simp only [cond_false] at hsp
                have hne : s ≠ d := fun e => by subst e; simp at hsd
                have hlt : d < a.tmps.size := by rw [hs.hn]; unfold dstOK at hd; rw [hdst] at hd; exact Nat.le_of_ble_eq_true hd
                split at hsp
                · rename_i v hv
                  cases hsp
                  by_cases hwt : a.tmps.getD s undef = .bool want
                  · rw [if_pos (by rw [hwd]; simp [hyield.2 hwt])]
                    refine .inl ?_
                    obtain ⟨cv, g1, g2⟩ := evP_ok hs.hh hs.he ((AOK.nil _).cons hwt) hv
                    unfold Oper.wp
                    rw [g1]
                    refine ih (k + 1) _ _ hl' hK w I G _ ⟨hs.hh, ?_, by simp [Act.put, hdst, hs.hn]⟩ fun e2 h2 w2 I2 G2 a2 hk2 hs2 hd2 ht2 => hq e2 h2 w2 I2 G2 a2 hk2 hs2 (hd2.trans (by simp [Act.put, hdst])) ht2
                    simp only [Act.put, hdst]
                    exact hs.he.setSpec hlt hne (fun _ => g2) (fun hc => absurd hwt hc)
                  · rw [if_neg (by rw [hwd]; simp; exact fun hc => hwt (hyield.1 hc))]
                    refine skip (v := v) ⟨hs.hh, ?_, by simp [Act.put, hdst, hs.hn]⟩ hK
                    simp only [Act.put, hdst]
                    exact hs.he.setSpec hlt hne (fun hc => absurd hc hwt) (fun _ => rfl)
                · cases hsp
            · cases hsp
          · obtain ⟨e', q, hk, he', hq'⟩ := branchOn_ok hs.he hK
            cases hiw : isWanted q want with
            | true =>
              rw [hiw] at hk
              have hqw : q = some want := by unfold isWanted at hiw; split at hiw <;> first | rfl | cases hiw
              subst hqw
              rw [if_pos (by rw [hwd]; simp [hyield.2 hq'])]
              exact .inl (run he' hk)
            | false =>
              rw [hiw] at hk
              simp only [cond_false] at hk
              have hqw : a.tmps.getD s undef ≠ .bool want := fun hc => by
                cases q with
                | none => simp only at hq'; rw [hq'] at hc; cases hc
                | some b => simp only at hq'; rw [hq'] at hc; injection hc with hc; subst hc; cases b <;> simp [isWanted] at hiw
              rw [if_neg (by rw [hwd]; simp; exact fun hc => hqw (hyield.1 hc))]
              exact skip (v := .bot) (put_rel hd hs.hn hs.hh he' (.pv _ _ .unit)).1 hk
        · cases hK
end Go.Eng
set_option linter.unusedVariables false
set_option linter.unusedSimpArgs false
namespace Go.Eng
open Go

/-! ### Regions that draw their order -/
section
variable {P : Program} {ops : Array Oper} {Q : Exit → Act → World → Prop}

/-- Whatever order is picked from here on: behind each operation but the last one, number n, every block is as it was. -/
def wpW (P : Program) (ops : Array Oper) (Q : Exit → Act → World → Prop) (n : Nat) : Nat → Array Bool → Act → World → Prop
  | 0, listed, a, w => Region.ready .any ops listed = [] ∧ Q .normal a w
  | f + 1, listed, a, w => Region.ready .any ops listed ≠ [] ∧
    ∀ i ∈ Region.ready .any ops listed, wpOp P ops Q i (fun a' w' => (i = n ∨ KA w w') ∧ wpW P ops Q n f (listed.setIfInBounds i true) a' w') a w
theorem wpAny_of_wpW {n : Nat} : ∀ (f : Nat) (listed : Array Bool) (a : Act) (w : World), wpW P ops Q n f listed a w → wpAny P .any ops Q f listed a w
  | 0, _, _, _, h => h
  | f + 1, _, _, _, h => ⟨fun h0 => absurd h0 h.1, fun i hi => wpOp_mono (fun a' w' h' => wpAny_of_wpW f _ a' w' h'.2) (h.2 i hi)⟩

/-- Operation n waits for every other one. -/
def lastB (ops : Array Oper) (n : Nat) : Bool := (List.range ops.size).all fun i => Nat.beq i n || Region.waitsFor .any ops n i

theorem not_ready_of_waits {n i : Nat} {listed : Array Bool} (hw : Region.waitsFor .any ops n i = true) (hi : listed.getD i true = false) : n ∉ Region.ready .any ops listed := fun hr => by
  obtain ⟨on, hon, e, he, hb, heq⟩ := Region.waitsFor_spec hw
  obtain ⟨_, o', ho', hall⟩ := mem_ready.1 hr
  have : o' = on := Option.some.inj (ho'.symm.trans hon)
  subst this
  have h1 := hall e he hb
  rw [heq, getD_both hi] at h1
  cases h1

theorem wpW_first {n i : Nat} {oi : Oper} {v : Value} (hi : ops[i]? = some oi) (hsel : ∀ (j : Nat) (o : Oper) cs b, ops[j]? = some o → o.op ≠ .select cs b)
    (hQ : ∀ c a w, Q (.panic c) (a.put oi.dst v) w → Q (.panic c) a w) (hn : n = ops.size ∨ lastB ops n = true) (hin : i ≠ n) :
    ∀ (f : Nat) (listed : Array Bool) (a : Act) (w : World),
      (∀ j oj, ops[j]? = some oj → j ≠ i → listed.getD j true = false → (∀ e ∈ oj.after, Region.binds .any e = true → e.on ≠ i) → oi.apart ops oj = true) →
      i ∈ Region.ready .any ops listed → YieldsIf P ops (KA w) oi v a →
      wpW P ops Q n f (listed.setIfInBounds i true) (a.put oi.dst v) w → wpW P ops Q n (f + 1) listed a w := by
  have hlt : i < ops.size := (Array.getElem?_eq_some_iff.1 hi).1
  intro f
  induction f with
  | zero =>
    intro listed a w _ hr hy H
    refine ⟨fun h => (by rw [h] at hr; cases hr), fun j hj => ?_⟩
    by_cases hji : j = i
    · subst hji; exact hy.wpOp hi (KA.refl w) ⟨.inr (KA.refl w), H⟩
    · have := ready_mono hj hji
      rw [H.1] at this
      cases this
  | succ f ih =>
    intro listed a w hfree hr hy H
    refine ⟨fun h => (by rw [h] at hr; cases hr), fun j hj => ?_⟩
    by_cases hji : j = i
    · subst hji; exact hy.wpOp hi (KA.refl w) ⟨.inr (KA.refl w), H⟩
    · have hjn : j ≠ n := fun e => by
        subst e
        rcases hn with hn | hn
        · obtain ⟨_, oj, hoj, _⟩ := mem_ready.1 hj
          have := (Array.getElem?_eq_some_iff.1 hoj).1
          omega
        · have := List.all_eq_true.1 hn i (List.mem_range.2 hlt)
          simp only [Bool.or_eq_true] at this
          rcases this with h | h
          · exact hji (Nat.eq_of_beq_eq_true h).symm
          · exact not_ready_of_waits h (mem_ready.1 hr).1 hj
      have h1 := H.2 j (ready_mono hj hji)
      obtain ⟨hjun, oj, hoj, hall⟩ := mem_ready.1 hj
      have hnot : ∀ e ∈ oj.after, Region.binds .any e = true → e.on ≠ i := fun e he hb heq => by
        have h1 := hall e he hb
        have h0 := (mem_ready.1 hr).1
        rw [heq] at h1
        rcases Nat.lt_or_ge i listed.size with h' | h'
        · simp [h'] at h0 h1; rw [h0] at h1; cases h1
        · simp [Array.getElem?_eq_none h'] at h1
      have h2 := wpOp_putIf hoj (hfree j oj hoj hji hjun hnot) (fun cs b => hsel i oi cs b hi) (fun cs b => hsel j oj cs b hoj) hQ hy h1
      have hfree' : ∀ k ok, ops[k]? = some ok → k ≠ i → (listed.setIfInBounds j true).getD k true = false →
          (∀ e ∈ ok.after, Region.binds .any e = true → e.on ≠ i) → oi.apart ops ok = true := fun k ok hk hki hun hno => by
        refine hfree k ok hk hki ?_ hno
        by_cases hjk : j = k
        · subst hjk; exact hjun
        · rw [getD_set_ne true hjk] at hun; exact hun
      refine wpOp_mono (fun a' w' ⟨hy', hKA, h3⟩ => ⟨hKA, ?_⟩) h2
      have hKA : KA w w' := hKA.resolve_left hjn
      refine ih (listed.setIfInBounds j true) a' w' hfree' (ready_mono hr (Ne.symm hji)) (hy'.imp (fun ⟨q1, q2⟩ => ⟨q1, fun w2 h2 => q2 w2 (hKA.trans h2)⟩) id) ?_
      rw [Array.setIfInBounds_comm _ _ hji]
      exact h3

theorem wp_region_W {id : Nat} {a : Act} {w : World} {n : Nat} (hm : P.follows .mixedOrders = true) (h : wpW P ops (NoPanic Q) n ops.size (Array.replicate ops.size false) a w.drew) : (Code.region id ops true).wp P Q a w :=
  wp_region_noPanic (wp_region_any hm (wpAny_of_wpW _ _ _ _ h))
end

theorem OpZ.ofS {P : Program} {o : Oper} {e : Env} {h : Hp} {K : Kt} (hk : OpS P o e h K) : OpZ (fun _ _ => True) P o e h K :=
  fun w I G a next Qx hh he hn => hk w I G a next Qx hh he fun v e' h' w' I' G' cv h1 h2 h3 h4 h5 => hn v e' h' w' I' G' cv h1 h2 h3 h4 h5 trivial

/-- One operation of a region. -/
theorem aOps1 {P : Program} {N : Nat} {ops : Array Oper} {Qx : Exit → Act → World → Prop} {K : Env → Hp → Prop} {o : Oper} {k : Nat} {e : Env} {h : Hp} {Z : World → World → Prop} (hZ0 : ∀ w, Z w w)
    (hZ : ∀ e1 K', (o.guard = none → e1 = e) → aOp P e1 h o K' → OpZ Z P o e1 h K') (h0 : ops[k]? = some o) (hK : aOps P N ops.toList [o] e h K) {w : World} {I : Nat → Prop} {G : Nat → Pl} {a : Act} (hs : SRel w I G e h N a) {next : Act → World → Prop}
    (hq : ∀ e' h' w' I' G' a', K e' h' → SRel w' I' G' e' h' N a' → a'.defers = a.defers → Tr w I (Owns h G) w' I' (Owns h' G') → Z w w' → next a' w') : wpOp P ops Qx k next a w := by
  unfold wpOp
  simp only [h0]
  unfold aOps at hK
  cases hd : dstOK N o with
  | false => rw [hd] at hK; cases hK
  | true =>
    rw [hd] at hK
    simp only [cond_true] at hK
    have run : ∀ {e1 : Env}, (o.guard = none → e1 = e) → ERel w I G h e1 a.tmps → aOp P e1 h o (fun v e h => aOps P N ops.toList [] (put o v e) h K) → o.wp P a w next Qx := fun {e1} hge he1 hop => by
      refine hZ _ _ hge hop w I G a _ _ hs.hh he1 fun v e' h' w' I' G' cv hk hh' he' hv' htr hz => ?_
      obtain ⟨hs', hdef⟩ := put_rel hd hs.hn hh' he' hv'
      exact hq _ _ w' I' G' _ hk hs' hdef htr hz
    have skip : ∀ {e1 : Env}, SRel w I G e1 h N (a.put o.dst undef) → aOps P N ops.toList [] e1 h K → next (a.put o.dst undef) w := fun {e1} hs1 hop =>
      hq _ _ w I G _ hop hs1 (by unfold Act.put; cases o.dst <;> rfl) (.refl _ _ _) (hZ0 w)
    split at hK
    · rename_i hg
      have hw : Region.wanted o (yielded ops a.tmps) = true := by simp [Region.wanted, hg]
      rw [if_pos hw]
      exact .inl (run (fun _ => rfl) hs.he hK)
    · rename_i j want hg
      have hwd : Region.wanted o (yielded ops a.tmps) = (yielded ops a.tmps j == some want) := by simp [Region.wanted, hg]
      split at hK
      · rename_i s hds
        have hyield : (yielded ops a.tmps j = some want ↔ a.tmps.getD s undef = .bool want) := by
          unfold dstOf at hds
          split at hds
          · rename_i oj hoj
            have hoj' : ops[j]? = some oj := by simpa using hoj
            unfold yielded
            simp only [hoj', Option.bind_some, hds]
            rw [Array.getD_eq_getD_getElem?]
            cases hts : a.tmps[s]? with
            | none => simp [undef]
            | some v => cases v <;> simp
          · cases hds
        split at hK
        · rename_i e' hsp
          unfold specE at hsp
          split at hsp
          · rename_i d hdst
            cases hsd : Nat.beq s d with
            | true => rw [hsd] at hsp; cases hsp
            | false =>
              rw [hsd] at hsp
              simp only [cond_false] at hsp
              have hne : s ≠ d := fun e => by subst e; simp at hsd
              have hlt : d < a.tmps.size := by rw [hs.hn]; unfold dstOK at hd; rw [hdst] at hd; exact Nat.le_of_ble_eq_true hd
              split at hsp
              · rename_i v hv
                cases hsp
                by_cases hwt : a.tmps.getD s undef = .bool want
                · rw [if_pos (by rw [hwd]; simp [hyield.2 hwt])]
                  refine .inl ?_
                  obtain ⟨cv, g1, g2⟩ := evP_ok hs.hh hs.he ((AOK.nil _).cons hwt) hv
                  unfold Oper.wp
                  rw [g1]
                  refine hq _ _ w I G _ hK ⟨hs.hh, ?_, by simp [Act.put, hdst, hs.hn]⟩ (by simp [Act.put, hdst]) (.refl _ _ _) (hZ0 w)
                  simp only [Act.put, hdst]
                  exact hs.he.setSpec hlt hne (fun _ => g2) (fun hc => absurd hwt hc)
                · rw [if_neg (by rw [hwd]; simp; exact fun hc => hwt (hyield.1 hc))]
                  refine skip ⟨hs.hh, ?_, by simp [Act.put, hdst, hs.hn]⟩ hK
                  simp only [Act.put, hdst]
                  exact hs.he.setSpec hlt hne (fun hc => absurd hc hwt) (fun _ => rfl)
              · cases hsp
          · cases hsp
        · obtain ⟨e', q, hk, he', hq'⟩ := branchOn_ok hs.he hK
          cases hiw : isWanted q want with
          | true =>
            rw [hiw] at hk
            have hqw : q = some want := by unfold isWanted at hiw; split at hiw <;> first | rfl | cases hiw
            subst hqw
            rw [if_pos (by rw [hwd]; simp [hyield.2 hq'])]
            exact .inl (run (fun hn => by rw [hg] at hn; cases hn) he' hk)
          | false =>
            rw [hiw] at hk
            simp only [cond_false] at hk
            have hqw : a.tmps.getD s undef ≠ .bool want := fun hc => by
              cases q with
              | none => simp only at hq'; rw [hq'] at hc; cases hc
              | some b => simp only at hq'; rw [hq'] at hc; injection hc with hc; subst hc; cases b <;> simp [isWanted] at hiw
            rw [if_neg (by rw [hwd]; simp; exact fun hc => hqw (hyield.1 hc))]
            exact skip (put_rel hd hs.hn hs.hh he' (.pv _ _ .unit)).1 hk
      · cases hK
end Go.Eng
set_option linter.unusedVariables false
set_option linter.unusedSimpArgs false
namespace Go.Eng
open Go
def scalO : Option LV → Bool
  | some (.pv p) => scal1 p
  | _ => false
/-- A slot that was passed over. -/
def offB (e : Env) : Operand → Bool
  | .tmp t => match get e t with
    | some (.spec j w _) => match get e j with
      | some (.pv (.bool true)) => !w
      | some (.pv (.bool false)) => w
      | _ => false
    | _ => false
  | _ => false
theorem offB_ok {w : World} {I : Nat → Prop} {G : Nat → Pl} {h : Hp} {a : Act} {e : Env} (he : ERel w I G h e a.tmps) {x : Operand} (hx : offB e x = true) : a.eval x = .tuple #[] := by
  cases x <;> simp only [offB] at hx
  case tmp t =>
    split at hx
    · rename_i j wt v hv
      have h1 := he t _ hv
      split at hx
      · rename_i hj
        have h2 := LRel.bool_eq (he j _ hj)
        simp at hx
        exact h1.2 (by rw [h2, hx]; simp)
      · rename_i hj
        have h2 := LRel.bool_eq (he j _ hj)
        subst hx
        exact h1.2 (by rw [h2]; simp)
      · cases hx
    · cases hx
  all_goals cases hx
/-- Operations that give one value, whatever other operations of the region come first. -/
def clsV (P : Program) (all : List Oper) (e : Env) (h : Hp) (o : Oper) : Bool :=
  match o.op with
  | .indexAddr _ _ _ => true
  | .fieldAddr _ _ _ => true
  | .load _ _ => true
  | .nilCheck _ => true
  | .field _ _ _ => true
  | .build _ _ => true
  | .move _ => true
  | .assign _ => true
  | .extract _ _ => true
  | .pick _ _ _ => true
  | .makeFunc _ _ _ => true
  | .binOp _ _ _ _ _ => true
  | .unOp _ _ _ => true
  | .convert _ _ _ => true
  | .call ⟨.builtin .len, _, _⟩ => true
  | .call ⟨.builtin .min, _, _⟩ => true
  | .call ⟨.builtin .max, _, _⟩ => true
  | .slice _ x _ _ _ => match opv [] e x with
    | some (.pv (.sl _ _ _)) => true
    | some (.own _) => true
    | some (.sub _ _ _) => true
    | some (.pv .unit) => true
    | _ => offB e x
  | _ => match o.guard with
    | none => scalO (evP P [] e h o.op)
    | some (j, want) => match dstOf all j with
      | some s => match specE P e h s want o with
        | some _ => scalO (evP P [(s, want)] e h o.op)
        | none => false
      | none => false
def same1 : Op → Bool
  | .move _ => true
  | .assign _ => true
  | .extract _ _ => true
  | .pick _ _ _ => true
  | .makeFunc _ _ _ => true
  | .binOp _ _ _ _ _ => true
  | .unOp _ _ _ => true
  | .convert _ _ _ => true
  | .call ⟨.builtin .len, _, _⟩ => true
  | .call ⟨.builtin .min, _, _⟩ => true
  | .call ⟨.builtin .max, _, _⟩ => true
  | _ => false
def memV : Op → Bool
  | .indexAddr _ _ _ => true
  | .fieldAddr _ _ _ => true
  | .load _ _ => true
  | .nilCheck _ => true
  | .field _ _ _ => true
  | .build _ _ => true
  | _ => false
/-- A slice of a slice. -/
def SlOp (a : Act) (o : Oper) : Prop := ∃ t x lo hi mx, o.op = .slice t x lo hi mx ∧ ((∃ b l c, a.eval x = .slice b l c) ∨ a.eval x = .tuple #[])
theorem HRel.ka {w w2 : World} {I : Nat → Prop} {G : Nat → Pl} {h : Hp} (hh : HRel w I G h) (hk : KA w w2) : HRel w2 I G h :=
  hh.keep hk.2 (fun _ x => x) (fun _ x => .inl x) (fun b hb => Nat.lt_of_lt_of_le (hh.cl b hb) hk.1)
theorem ERel.ka {w w2 : World} {I : Nat → Prop} {G : Nat → Pl} {h : Hp} {e : Env} {tm : Array Value} (he : ERel w I G h e tm) (hk : KA w w2) : ERel w2 I G h e tm :=
  he.mono ⟨fun b _ hb => hk.2 b hb, fun _ x _ => x⟩ (.refl _ _)
theorem scal_unique {w w2 : World} {I : Nat → Prop} {G : Nat → Pl} {h : Hp} {v : LV} {cv cv2 : Value} (hs : scalO (some v) = true) (h1 : LRel w I G h v cv) (h2 : LRel w2 I G h v cv2) : cv = cv2 := by
  cases v <;> simp [scalO] at hs
  cases h1 with
  | pv p _ r1 =>
    cases h2 with
    | pv _ _ r2 => cases r1 <;> simp [scal1] at hs <;> cases r2 <;> rfl
def scalK : Op → Bool
  | .binOp _ _ _ _ _ => true
  | .unOp _ _ _ => true
  | .convert _ _ _ => true
  | .call ⟨.builtin .len, _, _⟩ => true
  | .call ⟨.builtin .min, _, _⟩ => true
  | .call ⟨.builtin .max, _, _⟩ => true
  | _ => false
theorem intBin_scal {op : BinOp} {k : IntKind} {a b : Int} {r : PV} (h : intBin op k a b = some r) : scal1 r = true := by
  cases op <;> simp [intBin] at h <;> subst h <;> rfl
theorem binP_scal {P : Program} {h : Hp} {op : BinOp} {t : TypeId} {y : Operand} {u v : LV} {r : PV} (hb : binP P h op t y u v = some r) : scal1 r = true := by
  have opt : ∀ {q : Option Bool} {b : Bool}, q.map (nilCmp b) = some r → scal1 r = true := fun {q b} h => by
    cases q <;> simp at h; subst h; rfl
  unfold binP at hb
  split at hb
  · rename_i k m k' n
    cases hk : kindEq k k' with
    | false => rw [hk] at hb; cases hb
    | true =>
      rw [hk] at hb
      simp only [cond_true] at hb
      split at hb
      · rename_i hi; cases hb; exact intBin_scal hi
      · split at hb
        · rw [Bool.cond_eq_ite] at hb; split at hb <;> cases hb; rfl
        · rw [Bool.cond_eq_ite] at hb; split at hb <;> cases hb; rfl
        · cases hb
  · split at hb <;> cases hb <;> rfl
  · split at hb <;> first | exact opt hb | cases hb
theorem evP_scal {P : Program} {A : List (Nat × Bool)} {e : Env} {h : Hp} {op : Op} {v : LV} (hk : scalK op = true) (hv : evP P A e h op = some v) : scalO (some v) = true := by
  cases op <;> (try (simp [scalK] at hk; done))
  case call c =>
    obtain ⟨ca, ar, at'⟩ := c
    cases ca
    case builtin b =>
      cases b <;> (try (simp [scalK] at hk; done))
      · simp only [evP] at hv
        split at hv
        · split at hv
          · split at hv
            · cases hv; rfl
            · split at hv <;> cases hv; rfl
            · cases hv; rfl
            · cases hv
          · split at hv
            · cases hv; rfl
            · cases hv; rfl
            · split at hv <;> cases hv; rfl
            · cases hv
          · cases hv; rfl
          · cases hv
        · cases hv
      · simp only [evP] at hv
        split at hv
        · rw [Bool.cond_eq_ite] at hv; split at hv <;> cases hv; rfl
        · cases hv
      · simp only [evP] at hv
        split at hv
        · rw [Bool.cond_eq_ite] at hv; split at hv <;> cases hv; rfl
        · cases hv
    all_goals simp [scalK] at hk
  case binOp op t x y t' =>
    simp only [evP] at hv
    split at hv
    · split at hv
      · rename_i hb; cases hv; exact binP_scal hb
      · cases hv
    · cases hv
  case unOp op t x =>
    cases op <;> simp only [evP] at hv <;> first
      | (split at hv <;> cases hv <;> rfl)
      | cases hv
  case convert s d x =>
    simp only [evP] at hv
    split at hv <;> cases hv <;> rfl
theorem same1_call {c : Call} (h : same1 (.call c) = true) : scalK (.call c) = true := by
  obtain ⟨ca, ar, at'⟩ := c
  cases ca
  case builtin b => cases b <;> first | rfl | (simp [same1] at h; done)
  all_goals simp [same1] at h
theorem aMem_call {P : Program} {e : Env} {h : Hp} {o : Oper} {K : Kt} {c : Call} (ho : o.op = .call c) (hs : same1 (.call c) = true) (hK : aMem P e h o K) : False := by
  obtain ⟨ca, ar, at'⟩ := c
  cases ca
  case builtin b => cases b <;> first | (simp [same1] at hs; done) | (simp only [aMem, ho] at hK; cases hK)
  all_goals simp [same1] at hs
theorem evP_stable {P : Program} {w : World} {I : Nat → Prop} {G : Nat → Pl} {h : Hp} {a : Act} {e : Env} (hh : HRel w I G h) (he : ERel w I G h e a.tmps) {A : List (Nat × Bool)} (hA : AOK A a.tmps) {o : Oper} {v : LV} (hv : evP P A e h o.op = some v)
    (hc : same1 o.op = true ∨ scalO (some v) = true) : ∃ cv, (∀ w2, KA w w2 → (execOp a.eval o).run P w2 = .ok (.value cv) w2) ∧ LRel w I G h v cv := by
  obtain ⟨cv, h1, h2⟩ := evP_ok hh he hA hv
  refine ⟨cv, fun w2 hk => ?_, h2⟩
  rcases hc with hc | hc
  · by_cases hsk : scalK o.op = true
    · obtain ⟨cv2, g1, g2⟩ := evP_ok (hh.ka hk) (he.ka hk) hA hv
      rw [g1, scal_unique (evP_scal hsk hv) h2 g2]
    unfold execOp at h1 ⊢
    cases ho : o.op <;> rw [ho] at hc hsk <;> (try (simp [same1] at hc; done)) <;> (try exact absurd rfl hsk) <;> rw [ho] at h1
    case call c =>
      exact absurd (same1_call hc) hsk
    case move x => simp only [Sem.run_pure] at h1 ⊢; injection h1 with h1; rw [h1]
    case assign x => simp only [Sem.run_pure] at h1 ⊢; injection h1 with h1; rw [h1]
    case pick c x y =>
      change (do pure (.value (if ← asBool (a.eval c) then a.eval x else a.eval y)) : Sem Next).run P w = _ at h1
      show (do pure (.value (if ← asBool (a.eval c) then a.eval x else a.eval y)) : Sem Next).run P w2 = _
      generalize a.eval c = cv1 at h1 ⊢
      cases cv1 <;> simp only [asBool, Sem.run_bind, Sem.run_pure, Result.andThen_ok] at h1 ⊢ <;> first | (injection h1 with h1; rw [h1]) | cases h1
    case makeFunc fn first caps =>
      change (vOf (Instr.makeFunc fn (first.map a.eval) (caps.map a.eval))).run P w = _ at h1
      show (vOf (Instr.makeFunc fn (first.map a.eval) (caps.map a.eval))).run P w2 = _
      simp only [Instr.makeFunc, vOf, Sem.run_bind, Sem.run_pure, Result.andThen_ok] at h1 ⊢
      injection h1 with h1; rw [h1]
    case extract t ix =>
      change (vOf (Instr.extract (a.eval t) ix)).run P w = _ at h1
      show (vOf (Instr.extract (a.eval t) ix)).run P w2 = _
      unfold Instr.extract at h1 ⊢
      generalize a.eval t = tv at h1 ⊢
      cases tv
      case tuple vs =>
        simp only at h1 ⊢
        cases hx : vs[ix]? with
        | none => rw [hx] at h1; cases h1
        | some u =>
          rw [hx] at h1
          simp only [vOf, Sem.run_bind, Sem.run_pure, Result.andThen_ok] at h1 ⊢
          injection h1 with h1; rw [h1]
      all_goals cases h1
  · obtain ⟨cv2, g1, g2⟩ := evP_ok (hh.ka hk) (he.ka hk) hA hv
    rw [g1, scal_unique hc h2 g2]
theorem memV_none {P : Program} {A : List (Nat × Bool)} {e : Env} {h : Hp} {op : Op} (hm : memV op = true) : evP P A e h op = none := by
  cases op <;> simp [memV] at hm <;> rfl
theorem aOp_memV {P : Program} {o : Oper} {e : Env} {h : Hp} {K : Kt} (hm : memV o.op = true) (hK : aOp P e h o K) : OpV P o e h K := by
  unfold aOp at hK
  rw [memV_none hm] at hK
  simp only [aMem] at hK
  cases ho : o.op <;> rw [ho] at hm hK <;> simp [memV] at hm
  · exact aBuild_okV ho hK
  · exact aLoad_okV ho hK
  · exact aNilCheck_okV ho hK
  · exact aFieldAddr_okV ho hK
  · exact aField_okV ho hK
  · exact aIndexAddr_okV ho hK
theorem aOp_slV {P : Program} {o : Oper} {e : Env} {h : Hp} {K : Kt} {w : World} {I : Nat → Prop} {G : Nat → Pl} {a : Act} (he : ERel w I G h e a.tmps) (hm : SlOp a o) (hK : aOp P e h o K) : OpV P o e h K := by
  obtain ⟨t, x, lo, hi, mx, ho, hx⟩ := hm
  unfold aOp at hK
  rw [show evP P [] e h o.op = none by rw [ho]; rfl] at hK
  simp only [aMem, ho] at hK
  rcases aSlice_okD ho hK with hv | ⟨_, ob, off, hb⟩
  · exact hv
  · have := opv_ok he (AOK.nil _) hb
    rcases hx with ⟨b, l, c, hx⟩ | hx <;> rw [hx] at this <;> cases this
theorem clsV_cases {P : Program} {all : List Oper} {e : Env} {h : Hp} {o : Oper} {w : World} {I : Nat → Prop} {G : Nat → Pl} {a : Act} (he : ERel w I G h e a.tmps) (hc : clsV P all e h o = true) : memV o.op = true ∨ SlOp a o ∨ same1 o.op = true ∨ (match o.guard with
    | none => scalO (evP P [] e h o.op) = true
    | some (j, want) => ∃ s e', dstOf all j = some s ∧ specE P e h s want o = some e' ∧ scalO (evP P [(s, want)] e h o.op) = true) := by
  unfold clsV at hc
  split at hc <;> rename_i ho
  any_goals (first | (rw [ho]; exact .inl rfl) | (rw [ho]; exact .inr (.inr (.inl rfl))))
  · rename_i t x lo hi mx
    refine .inr (.inl ?_)
    split at hc
    · rename_i hx
      have := opv_ok he (AOK.nil _) hx
      generalize hcx : a.eval x = cx at this
      cases this with
      | pv _ _ h1 => cases h1 <;> exact ⟨t, x, lo, hi, mx, ho, .inl ⟨_, _, _, hcx⟩⟩
    · rename_i hx
      have := opv_ok he (AOK.nil _) hx
      generalize hcx : a.eval x = cx at this
      cases this <;> exact ⟨t, x, lo, hi, mx, ho, .inl ⟨_, _, _, hcx⟩⟩
    · rename_i hx
      have := opv_ok he (AOK.nil _) hx
      generalize hcx : a.eval x = cx at this
      cases this <;> exact ⟨t, x, lo, hi, mx, ho, .inl ⟨_, _, _, hcx⟩⟩
    · rename_i hx
      have := opv_ok he (AOK.nil _) hx
      generalize hcx : a.eval x = cx at this
      cases this with
      | pv _ _ h1 => cases h1; exact ⟨t, x, lo, hi, mx, ho, .inr hcx⟩
    · exact ⟨t, x, lo, hi, mx, ho, .inr (offB_ok he hc)⟩
  refine .inr (.inr (.inr ?_))
  split at hc
  · exact hc
  · rename_i j want hg
    split at hc
    · rename_i s hs
      split at hc
      · rename_i e' he'; exact ⟨s, e', hs, he', hc⟩
      · cases hc
    · cases hc

theorem aOpsV {P : Program} {N : Nat} {ops : Array Oper} {K : Env → Hp → Prop} {o : Oper} {k : Nat} {e : Env} {h : Hp} (h0 : ops[k]? = some o) (hcl : clsV P ops.toList e h o = true) (hK : aOps P N ops.toList [o] e h K)
    {w : World} {I : Nat → Prop} {G : Nat → Pl} {a : Act} (hs : SRel w I G e h N a) :
    ∃ cv, YieldsIf P ops (KA w) o cv a ∧ ∃ e', K e' h ∧ SRel w I G e' h N (a.put o.dst cv) ∧ (a.put o.dst cv).defers = a.defers := by
  have hcl := clsV_cases hs.he hcl
  have dput : ∀ cv, (a.put o.dst cv).defers = a.defers := fun cv => by unfold Act.put; cases o.dst <;> rfl
  unfold aOps at hK
  cases hd : dstOK N o with
  | false => rw [hd] at hK; cases hK
  | true =>
    rw [hd] at hK
    simp only [cond_true] at hK
    have run : ∀ {e1 : Env}, ERel w I G h e1 a.tmps → (memV o.op = true ∨ SlOp a o ∨ same1 o.op = true ∨ scalO (evP P [] e1 h o.op) = true) → aOp P e1 h o (fun v e h => aOps P N ops.toList [] (put o v e) h K) →
        ∃ cv, (∀ w2, KA w w2 → (execOp a.eval o).run P w2 = .ok (.value cv) w2) ∧ ∃ e', K e' h ∧ SRel w I G e' h N (a.put o.dst cv) := fun {e1} he1 hc hop => by
      have fin : ∀ {v cv}, K (put o v e1) h → LRel w I G h v cv → ∃ e', K e' h ∧ SRel w I G e' h N (a.put o.dst cv) := fun {v cv} hk hr => ⟨_, hk, (put_rel hd hs.hn hs.hh he1 hr).1⟩
      by_cases hm : memV o.op = true
      · obtain ⟨v, hk, hv⟩ := aOp_memV hm hop
        obtain ⟨cv, g1, g2⟩ := hv w I G a hs.hh he1
        exact ⟨cv, g1, fin hk g2⟩
      · rcases hc.resolve_left hm with hsl | hc
        · obtain ⟨v, hk, hv⟩ := aOp_slV he1 hsl hop
          obtain ⟨cv, g1, g2⟩ := hv w I G a hs.hh he1
          exact ⟨cv, g1, fin hk g2⟩
        unfold aOp at hop
        cases hev : evP P [] e1 h o.op with
        | none =>
          rcases hc with hc | hc
          · rw [hev] at hop
            cases ho : o.op
            case call c => rw [ho] at hc; exact (aMem_call ho hc hop).elim
            all_goals (rw [ho] at hc; simp only [aMem, ho] at hop; simp [same1] at hc; try cases hop)
          · rw [hev] at hc; cases hc
        | some v =>
          rw [hev] at hop hc
          obtain ⟨cv, g1, g2⟩ := evP_stable hs.hh he1 (AOK.nil _) hev hc
          exact ⟨cv, g1, fin hop g2⟩
    have skip : ∀ {e1 : Env}, SRel w I G e1 h N (a.put o.dst undef) → aOps P N ops.toList [] e1 h K → ∃ e', K e' h ∧ SRel w I G e' h N (a.put o.dst undef) := fun {e1} hs1 hop => ⟨e1, hop, hs1⟩
    split at hK
    · rename_i hg
      have hw : Region.wanted o (yielded ops a.tmps) = true := by simp [Region.wanted, hg]
      simp only [hg] at hcl
      obtain ⟨cv, g1, e', g2, g3⟩ := run hs.he hcl hK
      exact ⟨cv, .inl ⟨hw, g1⟩, e', g2, g3, dput _⟩
    · rename_i j want hg
      have hwd : Region.wanted o (yielded ops a.tmps) = (yielded ops a.tmps j == some want) := by simp [Region.wanted, hg]
      split at hK
      · rename_i s hds
        have hyield : (yielded ops a.tmps j = some want ↔ a.tmps.getD s undef = .bool want) := by
          unfold dstOf at hds
          split at hds
          · rename_i oj hoj
            have hoj' : ops[j]? = some oj := by simpa using hoj
            unfold yielded
            simp only [hoj', Option.bind_some, hds]
            rw [Array.getD_eq_getD_getElem?]
            cases hts : a.tmps[s]? with
            | none => simp [undef]
            | some v => cases v <;> simp
          · cases hds
        split at hK
        · rename_i e' hsp0
          have hsp := hsp0
          unfold specE at hsp
          split at hsp
          · rename_i d hdst
            cases hsd : Nat.beq s d with
            | true => rw [hsd] at hsp; cases hsp
            | false =>
              rw [hsd] at hsp
              simp only [cond_false] at hsp
              have hne : s ≠ d := fun e => by subst e; simp at hsd
              have hlt : d < a.tmps.size := by rw [hs.hn]; unfold dstOK at hd; rw [hdst] at hd; exact Nat.le_of_ble_eq_true hd
              split at hsp
              · rename_i v hv
                cases hsp
                by_cases hwt : a.tmps.getD s undef = .bool want
                · have hcc : same1 o.op = true ∨ scalO (some v) = true := by
                    rcases hcl with hm | hm | hm | hm
                    · rw [memV_none hm] at hv; cases hv
                    · obtain ⟨t, x, lo, hi, mx, ho, hx⟩ := hm; rw [ho] at hv; cases hv
                    · exact .inl hm
                    · simp only [hg] at hm
                      obtain ⟨s', e'', q1, q2, q3⟩ := hm
                      rw [hds] at q1; cases q1
                      rw [hv] at q3
                      exact .inr q3
                  obtain ⟨cv, g1, g2⟩ := evP_stable hs.hh hs.he ((AOK.nil _).cons hwt) hv hcc
                  refine ⟨cv, .inl ⟨by rw [hwd]; simp [hyield.2 hwt], g1⟩, _, hK, ⟨hs.hh, ?_, by simp [Act.put, hdst, hs.hn]⟩, dput _⟩
                  simp only [Act.put, hdst]
                  exact hs.he.setSpec hlt hne (fun _ => g2) (fun hc => absurd hwt hc)
                · obtain ⟨e1, g1, g2⟩ := skip (e1 := set e d (.spec s want v)) ⟨hs.hh, by simp only [Act.put, hdst]; exact hs.he.setSpec hlt hne (fun hc => absurd hc hwt) (fun _ => rfl), by simp [Act.put, hdst, hs.hn]⟩ hK
                  exact ⟨undef, .inr ⟨by rw [hwd]; simp; exact fun hc => hwt (hyield.1 hc), rfl⟩, e1, g1, g2, dput _⟩
              · cases hsp
          · cases hsp
        · rename_i hspn
          obtain ⟨e', q, hk, he', hq'⟩ := branchOn_ok hs.he hK
          have hcc : memV o.op = true ∨ SlOp a o ∨ same1 o.op = true := by
            rcases hcl with hm | hm | hm | hm
            · exact .inl hm
            · exact .inr (.inl hm)
            · exact .inr (.inr hm)
            · simp only [hg] at hm
              obtain ⟨s', e'', q1, q2, q3⟩ := hm
              rw [hds] at q1; cases q1
              rw [hspn] at q2; cases q2
          cases hiw : isWanted q want with
          | true =>
            rw [hiw] at hk
            have hqw : q = some want := by unfold isWanted at hiw; split at hiw <;> first | rfl | cases hiw
            subst hqw
            obtain ⟨cv, g1, e1, g2, g3⟩ := run he' (hcc.imp id (fun x => x.imp id .inl)) hk
            exact ⟨cv, .inl ⟨by rw [hwd]; simp [hyield.2 hq'], g1⟩, e1, g2, g3, dput _⟩
          | false =>
            rw [hiw] at hk
            simp only [cond_false] at hk
            have hqw : a.tmps.getD s undef ≠ .bool want := fun hc => by
              cases q with
              | none => simp only at hq'; rw [hq'] at hc; cases hc
              | some b => simp only at hq'; rw [hq'] at hc; injection hc with hc; subst hc; cases b <;> simp [isWanted] at hiw
            obtain ⟨e1, g1, g2⟩ := skip (put_rel hd hs.hn hs.hh he' (.pv _ _ .unit)).1 hk
            exact ⟨undef, .inr ⟨by rw [hwd]; simp; exact fun hc => hqw (hyield.1 hc), rfl⟩, e1, g1, g2, dput _⟩
      · cases hK
end Go.Eng
set_option linter.unusedVariables false
set_option linter.unusedSimpArgs false
namespace Go.Eng
open Go
def isCallV : Op → Bool
  | .call c => match c.callee with
    | .value _ => true
    | _ => false
  | _ => false
/-- Operations that leave each block that was there as it is. -/
def allocB : Op → Bool
  | .box _ _ => true
  | .alloc _ => true
  | .buildSlice _ _ _ => true
  | _ => false
def keepB (e : Env) (o : Oper) : Bool :=
  isCallV o.op || allocB o.op || (match o.guard, o.op with
    | none, .call c => match c.callee, c.args.toList with
      | .builtin .append, [s, _] => match opv [] e s with
        | some (.pv _) => true
        | _ => false
      | _, _ => false
    | _, _ => false)
def pick1 (P : Program) (ops : Array Oper) (n : Nat) (e : Env) (h : Hp) (listed : List Bool) : List Nat → Option Nat
  | [] => none
  | k :: r => match ops[k]? with
    | some o => bif (!Nat.beq k n) && (clsV P ops.toList e h o && Region.free .any ops listed.toArray k) then some k else pick1 P ops n e h listed r
    | none => none
/-- Of each one of these. -/
def eachOf (p : Nat → Prop) : Nat → List Nat → Prop
  | k, [] => p k
  | k, x :: r => p k ∧ eachOf p x r
theorem eachOf_all {p : Nat → Prop} : ∀ {k : Nat} {r : List Nat}, eachOf p k r → ∀ i ∈ k :: r, p i
  | k, [], h, i, hi => by have : i = k := by simpa using hi
                          subst this; exact h
  | k, x :: r, h, i, hi => by
    rcases List.mem_cons.1 hi with rfl | hi
    · exact h.1
    · exact eachOf_all h.2 i hi
/-- A region that draws its order: what only reads is taken first; a call, and the last operation, when nothing else may come up. -/
def aAny (P : Program) (N : Nat) (ops : Array Oper) (n : Nat) : Nat → List Bool → Env → Hp → (Env → Hp → Prop) → Prop
  | 0, listed, e, h, K => match Region.ready .any ops listed.toArray with
    | [] => K e h
    | _ :: _ => Stuck 2101
  | f + 1, listed, e, h, K => match pick1 P ops n e h listed (Region.ready .any ops listed.toArray) with
    | some k => match ops[k]? with
      | some o => aOps P N ops.toList [o] e h fun e h => aAny P N ops n f (listed.set k true) e h K
      | none => Stuck 2102
    | none => match Region.ready .any ops listed.toArray with
      | [] => Stuck 2103
      | k :: r => eachOf (fun k => match ops[k]? with
        | some o => bif Nat.beq k n || keepB e o then aOps P N ops.toList [o] e h fun e h => aAny P N ops n f (listed.set k true) e h K else Stuck 2104
        | none => Stuck 2105) k r
def lastOf (ops : Array Oper) : Nat := bif lastB ops (ops.size - 1) then ops.size - 1 else ops.size
def aDraw (P : Program) (N : Nat) (ops : Array Oper) (e : Env) (h : Hp) (K : Env → Hp → Prop) : Prop :=
  bif P.follows .mixedOrders && Region.noSelect ops then aAny P N ops (lastOf ops) ops.size (List.replicate ops.size false) e h K else Stuck 1001

theorem pick1_spec {P : Program} {ops : Array Oper} {n : Nat} {e : Env} {h : Hp} {listed : List Bool} {k : Nat} : ∀ {l : List Nat}, pick1 P ops n e h listed l = some k →
    k ∈ l ∧ k ≠ n ∧ Region.free .any ops listed.toArray k = true ∧ ∃ o, ops[k]? = some o ∧ clsV P ops.toList e h o = true
  | [], hp => by cases hp
  | x :: r, hp => by
    unfold pick1 at hp
    split at hp
    · rename_i o ho
      cases hb : ((!Nat.beq x n) && (clsV P ops.toList e h o && Region.free .any ops listed.toArray x)) with
      | true =>
        rw [hb] at hp
        simp only [cond_true, Option.some.injEq] at hp
        subst hp
        simp only [Bool.and_eq_true, Bool.not_eq_true'] at hb
        exact ⟨by simp, fun e => by subst e; simp at hb, hb.2.2, o, ho, hb.2.1⟩
      | false =>
        rw [hb] at hp
        obtain ⟨g1, g2⟩ := pick1_spec (l := r) hp
        exact ⟨by simp [g1], g2⟩
    · cases hp

theorem OpZ.callK {P : Program} {o : Oper} {e : Env} {h : Hp} {K : Kt} (hc : isCallV o.op = true) (hK : aOp P e h o K) : OpK P o e h K := by
  unfold aOp at hK
  cases ho : o.op <;> rw [ho] at hc <;> simp [isCallV] at hc
  rename_i c
  split at hc
  · rename_i fo hfo
    have hn : evP P [] e h o.op = none := by rw [ho]; simp only [evP, hfo]
    rw [hn] at hK
    simp only [aMem, ho, hfo] at hK
    split at hK
    · rename_i u vs hu hv
      split at hK
      · rename_i f caps hf; exact aCallT_okK ho hfo hu hf hv hK
      · cases hK
    · cases hK
  · cases hc

theorem OpZ.allocK {P : Program} {o : Oper} {e : Env} {h : Hp} {K : Kt} (hc : allocB o.op = true) (hK : aOp P e h o K) : OpK P o e h K := by
  unfold aOp at hK
  cases ho : o.op <;> rw [ho] at hc <;> simp [allocB] at hc <;> simp only [evP, aMem, ho] at hK
  · exact aAlloc_okK ho hK
  · exact aBox_okK ho hK
  · exact aBuildSlice_okK ho hK
theorem OpZ.keepK {P : Program} {o : Oper} {e e1 : Env} {h : Hp} {K : Kt} (hc : keepB e o = true) (hge : o.guard = none → e1 = e) (hK : aOp P e1 h o K) : OpK P o e1 h K := by
  unfold keepB at hc
  simp only [Bool.or_eq_true] at hc
  rcases hc with (hc | hc) | hc
  · exact OpZ.callK hc hK
  · exact OpZ.allocK hc hK
  · split at hc
    · rename_i c hg ho
      split at hc
      · rename_i s x hcal har
        split at hc
        · rename_i p hp
          have := hge hg
          subst this
          have hn : evP P [] e1 h o.op = none := by rw [ho]; simp only [evP, hcal]
          unfold aOp at hK
          rw [hn] at hK
          simp only [aMem, ho, hcal] at hK
          exact fun w I G a next Qx hh he hnx => aAppend_okZ ho hcal hK w I G a next Qx hh he fun v e' h' w' I' G' cv h1 h2 h3 h4 h5 h6 => hnx v e' h' w' I' G' cv h1 h2 h3 h4 h5
            (h6.resolve_left (fun ⟨s', x', ob, q1, q2⟩ => by rw [har] at q1; cases q1; rw [hp] at q2; cases q2))
        · cases hc
      · cases hc
    · cases hc
theorem aAny_ok {P : Program} {N n : Nat} {ops : Array Oper} {Qx : Exit → Act → World → Prop} {K : Env → Hp → Prop} (hsel : Region.noSelect ops = true) (hn : n = ops.size ∨ lastB ops n = true) :
    ∀ (f : Nat) (listed : List Bool) (e : Env) (h : Hp), aAny P N ops n f listed e h K → ∀ (w : World) (I : Nat → Prop) (G : Nat → Pl) (a : Act), SRel w I G e h N a →
      (∀ e' h' w' I' G' a', K e' h' → SRel w' I' G' e' h' N a' → a'.defers = a.defers → Tr w I (Owns h G) w' I' (Owns h' G') → Qx .normal a' w') →
      wpW P ops (NoPanic Qx) n f listed.toArray a w := by
  intro f
  induction f with
  | zero =>
    intro listed e h hK w I G a hs hq
    unfold aAny at hK
    split at hK
    · rename_i hr
      exact ⟨hr, .normal (hq e h w I G a hK hs rfl (.refl _ _ _))⟩
    · cases hK
  | succ f ih =>
    intro listed e h hK w I G a hs hq
    unfold aAny at hK
    split at hK
    · rename_i k hp
      obtain ⟨hk, hkn, hfr, o, ho, hcl⟩ := pick1_spec hp
      rw [ho] at hK
      simp only at hK
      obtain ⟨cv, hy, e', hk', hs', hd⟩ := aOpsV ho hcl hK hs
      refine wpW_first ho (Region.noSelect_spec hsel) (fun c a w hp => hp.elim) hn hkn f listed.toArray a w (Region.free_spec ho hfr) hk hy ?_
      rw [List.setIfInBounds_toArray]
      exact ih _ _ _ hk' w I G _ hs' fun e2 h2 w2 I2 G2 a2 q1 q2 q3 q4 => hq e2 h2 w2 I2 G2 a2 q1 q2 (q3.trans hd) q4
    · split at hK
      · cases hK
      · rename_i k r hr
        refine ⟨by rw [hr]; simp, fun i hi => ?_⟩
        rw [hr] at hi
        have hK := eachOf_all hK i hi
        split at hK
        · rename_i o ho
          cases hb : Nat.beq i n || keepB e o with
          | false => rw [hb] at hK; cases hK
          | true =>
            rw [hb] at hK
            simp only [cond_true] at hK
            refine aOps1 (Z := fun w w' => i = n ∨ KA w w') (fun w => .inr (KA.refl w)) (fun e1 K' hge hop => ?_) ho hK hs fun e' h' w' I' G' a' q1 q2 q3 q4 q5 => ⟨q5, ?_⟩
            · simp only [Bool.or_eq_true] at hb
              rcases hb with hb | hb
              · have := Nat.eq_of_beq_eq_true hb
                exact fun w I G a next Qx hh he hnx => aOp_ok hop w I G a next Qx hh he fun v e' h' w' I' G' cv h1 h2 h3 h4 h5 => hnx v e' h' w' I' G' cv h1 h2 h3 h4 h5 (.inl this)
              · exact fun w I G a next Qx hh he hnx => OpZ.keepK hb hge hop w I G a next Qx hh he fun v e' h' w' I' G' cv h1 h2 h3 h4 h5 h6 => hnx v e' h' w' I' G' cv h1 h2 h3 h4 h5 (.inr h6)
            · rw [List.setIfInBounds_toArray]
              exact ih _ _ _ q1 w' I' G' a' q2 fun e2 h2 w2 I2 G2 a2 r1 r2 r3 r4 => hq e2 h2 w2 I2 G2 a2 r1 r2 (r3.trans q3) (q4.trans r4)
        · cases hK
theorem HRel.drewn {w : World} {I : Nat → Prop} {G : Nat → Pl} {e : Env} {h : Hp} {N : Nat} {a : Act} (hs : SRel w I G e h N a) : SRel w.drew I G e h N a :=
  ⟨hs.hh.ka ⟨Nat.le_refl _, fun _ _ => rfl⟩, hs.he.ka ⟨Nat.le_refl _, fun _ _ => rfl⟩, hs.hn⟩
theorem aDraw_ok {P : Program} {N id : Nat} {ops : Array Oper} {Qx : Exit → Act → World → Prop} {K : Env → Hp → Prop} {e : Env} {h : Hp} (hK : aDraw P N ops e h K) {w : World} {I : Nat → Prop} {G : Nat → Pl} {a : Act} (hs : SRel w I G e h N a)
    (hq : ∀ e' h' w' I' G' a', K e' h' → SRel w' I' G' e' h' N a' → a'.defers = a.defers → Tr w I (Owns h G) w' I' (Owns h' G') → Qx .normal a' w') : (Code.region id ops true).wp P Qx a w := by
  unfold aDraw at hK
  cases hb : P.follows .mixedOrders && Region.noSelect ops with
  | false => rw [hb] at hK; cases hK
  | true =>
    rw [hb] at hK
    simp only [cond_true] at hK
    simp only [Bool.and_eq_true] at hb
    have hn : lastOf ops = ops.size ∨ lastB ops (lastOf ops) = true := by
      unfold lastOf
      cases hl : lastB ops (ops.size - 1) with
      | true => exact .inr (by simpa using hl)
      | false => exact .inl (by simp)
    refine wp_region_W (n := lastOf ops) hb.1 ?_
    have h1 := aAny_ok (Qx := Qx) hb.2 hn ops.size _ e h hK w.drew I G a (HRel.drewn hs) fun e' h' w' I' G' a' q1 q2 q3 q4 => hq e' h' w' I' G' a' q1 q2 q3 ⟨q4.os, q4.tape, q4.output, q4.size, q4.keep, q4.i1, q4.i2, q4.own2, q4.frz⟩
    have e1 : (List.replicate ops.size false).toArray = Array.replicate ops.size false := by simp
    rwa [e1] at h1
end Go.Eng
set_option linter.unusedVariables false
set_option linter.unusedSimpArgs false
namespace Go.Eng
open Go
inductive Ex where
  | normal
  | exit (id : Nat)
  | ret
def Ex.to : Ex → Exit
  | .normal => .normal
  | .exit n => .exit n
  | .ret => .ret
abbrev Qt := Ex → Env → Hp → Prop
/-- What a piece of code must give. -/
def CodeS (P : Program) (N : Nat) (c : Code) (e : Env) (h : Hp) (Q : Qt) : Prop :=
  ∀ (w : World) (I : Nat → Prop) (G : Nat → Pl) (a : Act) (Qx : Exit → Act → World → Prop), SRel w I G e h N a →
    (∀ x e' h' w' I' G' a', Q x e' h' → SRel w' I' G' e' h' N a' → a'.defers = a.defers → Tr w I (Owns h G) w' I' (Owns h' G') → Qx x.to a' w') → c.wp P Qx a w

theorem SRel.drew {w : World} {I : Nat → Prop} {G : Nat → Pl} {e : Env} {h : Hp} {N : Nat} {a : Act} (hs : SRel w I G e h N a) : SRel w.drew I G e h N a :=
  ⟨hs.hh.drew, hs.he.mono ⟨fun _ _ _ => rfl, fun _ x _ => x⟩ (.refl _ _), hs.hn⟩

theorem CodeS.skip {P : Program} {N : Nat} {e : Env} {h : Hp} {Q : Qt} (hK : Q .normal e h) : CodeS P N .skip e h Q :=
  fun w I G a Qx hs hq => wp_skip (hq .normal e h w I G a hK hs rfl (.refl _ _ _))
theorem CodeS.exit {P : Program} {N n : Nat} {e : Env} {h : Hp} {Q : Qt} (hK : Q (.exit n) e h) : CodeS P N (.exit n) e h Q :=
  fun w I G a Qx hs hq => wp_exit (hq (.exit n) e h w I G a hK hs rfl (.refl _ _ _))
theorem CodeS.ret {P : Program} {N : Nat} {e : Env} {h : Hp} {Q : Qt} (hK : Q .ret e h) : CodeS P N .ret e h Q :=
  fun w I G a Qx hs hq => wp_ret (hq .ret e h w I G a hK hs rfl (.refl _ _ _))
theorem CodeS.seq {P : Program} {N : Nat} {x y : Code} {e : Env} {h : Hp} {Q : Qt} (hK : CodeS P N x e h fun q e h => match q with | .normal => CodeS P N y e h Q | q => Q q e h) : CodeS P N (.seq x y) e h Q := by
  intro w I G a Qx hs hq
  refine wp_seq (hK w I G a _ hs fun q e' h' w' I' G' a' hk hs' hd ht => ?_)
  cases q with
  | normal => exact hk w' I' G' a' Qx hs' fun q2 e2 h2 w2 I2 G2 a2 hk2 hs2 hd2 ht2 => hq q2 e2 h2 w2 I2 G2 a2 hk2 hs2 (hd2.trans hd) (ht.trans ht2)
  | exit n => exact hq (.exit n) e' h' w' I' G' a' hk hs' hd ht
  | ret => exact hq .ret e' h' w' I' G' a' hk hs' hd ht
theorem CodeS.cond {P : Program} {N : Nat} {c : Operand} {x y : Code} {e : Env} {h : Hp} {Q : Qt} {t : Bool} (hc : opv [] e c = some (.pv (.bool t))) (hK : if t = true then CodeS P N x e h Q else CodeS P N y e h Q) : CodeS P N (.cond c x y) e h Q := by
  intro w I G a Qx hs hq
  refine wp_cond (opv_ok hs.he (AOK.nil _) hc).bool_eq ?_
  cases t with
  | true => simp only [if_true] at hK ⊢; exact hK w I G a Qx hs hq
  | false => simp only [Bool.false_eq_true, if_false] at hK ⊢; exact hK w I G a Qx hs hq
theorem CodeS.block {P : Program} {N id : Nat} {c : Code} {e : Env} {h : Hp} {Q : Qt}
    (hK : CodeS P N c e h fun q e h => match q with | .exit n => (bif Nat.beq n id then Q .normal e h else Q (.exit n) e h) | q => Q q e h) : CodeS P N (.block id c) e h Q := by
  intro w I G a Qx hs hq
  refine wp_block (hK w I G a _ hs fun q e' h' w' I' G' a' hk hs' hd ht => ?_)
  cases q with
  | normal => exact hq .normal e' h' w' I' G' a' hk hs' hd ht
  | ret => exact hq .ret e' h' w' I' G' a' hk hs' hd ht
  | exit n =>
    simp only [Ex.to, Exit.inBlock]
    cases hb : Nat.beq n id with
    | true =>
      simp only [hb, cond_true] at hk
      rw [if_pos (Nat.eq_of_beq_eq_true hb)]
      exact hq .normal e' h' w' I' G' a' hk hs' hd ht
    | false =>
      simp only [hb, cond_false] at hk
      rw [if_neg (fun e => by subst e; simp at hb)]
      exact hq (.exit n) e' h' w' I' G' a' hk hs' hd ht
theorem CodeS.mono {P : Program} {N : Nat} {c : Code} {e : Env} {h : Hp} {Q Q' : Qt} (hK : CodeS P N c e h Q) (hq : ∀ x e h, Q x e h → Q' x e h) : CodeS P N c e h Q' :=
  fun w I G a Qx hs hq' => hK w I G a Qx hs fun x e' h' w' I' G' a' hk => hq' x e' h' w' I' G' a' (hq _ _ _ hk)

/-! ### Forgetting: some slots and some objects, under new numbers -/
def idx (o : Nat) : List Nat → Nat → Option Nat
  | [], _ => none
  | x :: r, k => bif Nat.beq x o then some k else idx o r (k + 1)
def ren1 (os : List Nat) : LV → LV
  | .pv v => .pv v
  | .own o => match idx o os 0 with | some k => .own k | none => .bot
  | .sub o a b => match idx o os 0 with | some k => .sub k a b | none => .bot
  | .elt o i off => match idx o os 0 with | some k => .elt k i off | none => .bot
  | .box o off => match idx o os 0 with | some k => .box k off | none => .bot
  | .mp o => match idx o os 0 with | some k => .mp k | none => .bot
  | _ => .bot
def renV (os : List Nat) : LV → LV
  | .agg cs => .agg (cs.map (ren1 os))
  | .tup cs => .tup (cs.map (ren1 os))
  | .fn f cs => .fn f (cs.map (ren1 os))
  | v => ren1 os v
def renO (os : List Nat) : Ob → Ob
  | .box cs => .box (cs.map (ren1 os))
  | ob => ob
def subE (os : List Nat) (e : Env) : List Nat → Env
  | [] => []
  | i :: r => (i, match get e i with | some v => renV os v | none => .bot) :: subE os e r
def subH (os : List Nat) (h : Hp) : List Nat → Hp
  | [] => []
  | o :: r => (match h[o]? with | some ob => renO os ob | none => .dead) :: subH os h r
def nodupB : List Nat → Bool
  | [] => true
  | x :: r => !(r.any (Nat.beq x)) && nodupB r
theorem idx_get {o : Nat} : ∀ {os : List Nat} {k0 k : Nat}, idx o os k0 = some k → k0 ≤ k ∧ os[k - k0]? = some o
  | [], k0, k, h => by cases h
  | x :: r, k0, k, h => by
    simp only [idx] at h
    cases hb : Nat.beq x o with
    | true => rw [hb] at h; simp at h; subst h; have := Nat.eq_of_beq_eq_true hb; subst this; simp
    | false =>
      rw [hb] at h
      obtain ⟨h1, h2⟩ := idx_get (os := r) h
      refine ⟨by omega, ?_⟩
      rw [show k - k0 = (k - (k0 + 1)) + 1 by omega]
      simpa using h2
theorem nodupB_inj : ∀ {os : List Nat}, nodupB os = true → ∀ (i j : Nat) o, os[i]? = some o → os[j]? = some o → i = j
  | [], _, i, j, o, h, _ => by simp at h
  | x :: r, hn, i, j, o, hi, hj => by
    simp only [nodupB, Bool.and_eq_true, Bool.not_eq_true'] at hn
    have hx : ∀ (k : Nat), r[k]? = some x → False := fun k hk => by
      have h1 : r.any (Nat.beq x) = true := List.any_eq_true.2 ⟨x, List.mem_of_getElem? hk, Nat.beq_refl x⟩
      rw [h1] at hn; cases hn.1
    cases i with
    | zero =>
      simp at hi; subst hi
      cases j with
      | zero => rfl
      | succ j => simp at hj; exact (hx j hj).elim
    | succ i =>
      simp at hi
      cases j with
      | zero => simp at hj; subst hj; exact (hx i hi).elim
      | succ j => simp at hj; rw [nodupB_inj hn.2 i j o hi hj]
theorem subH_get {os : List Nat} {h : Hp} : ∀ {l : List Nat} (k : Nat), (subH os h l)[k]? = (l[k]?).map fun o => match h[o]? with | some ob => renO os ob | none => .dead
  | [], k => by simp [subH]
  | o :: r, 0 => by simp [subH]
  | o :: r, k + 1 => by simp [subH, subH_get (l := r) k]
theorem SRel.sub {w : World} {I : Nat → Prop} {G : Nat → Pl} {e : Env} {h : Hp} {N : Nat} {a : Act} (hs : SRel w I G e h N a) (os : List Nat) (ks : List Nat) (hn : nodupB os = true) :
    SRel w I (fun k => match os[k]? with | some o => G o | none => ⟨0, 0, 0, 0⟩) (subE os e ks) (subH os h os) N a ∧ ∀ b, Owns (subH os h os) (fun k => match os[k]? with | some o => G o | none => ⟨0, 0, 0, 0⟩) b → Owns h G b := by
  have hg : ∀ {o k : Nat} {ob : Ob}, idx o os 0 = some k → h[o]? = some ob → (subH os h os)[k]? = some (renO os ob) ∧ (match os[k]? with | some o => G o | none => (⟨0, 0, 0, 0⟩ : Pl)) = G o := fun {o k ob} hi ho => by
    obtain ⟨_, h2⟩ := idx_get hi
    rw [Nat.sub_zero] at h2
    rw [subH_get, h2]
    simp [ho]
  have h1 : ∀ v cv, LRel w I G h v cv → LRel w I (fun k => match os[k]? with | some o => G o | none => ⟨0, 0, 0, 0⟩) (subH os h os) (ren1 os v) cv := fun v cv hr => by
    cases hr with
    | bot => exact .bot _
    | pv p _ q => exact .pv _ _ q
    | ownNil o ty m es q => simp only [ren1]; cases hi : idx o os 0 with | none => exact .bot _ | some k => exact .ownNil k ty m es (hg hi q).1
    | own o ty m es ad q0 q => simp only [ren1]; cases hi : idx o os 0 with | none => exact .bot _ | some k => obtain ⟨g1, g2⟩ := hg hi q; rw [← g2] at q0 ⊢; exact .own k ty m es ad q0 g1
    | subNil o x y ty m es q q2 => simp only [ren1]; cases hi : idx o os 0 with | none => exact .bot _ | some k => exact .subNil k x y ty m es (hg hi q).1 q2
    | sub o x y cap ad ty m es q q2 q3 q4 q5 => simp only [ren1]; cases hi : idx o os 0 with | none => exact .bot _ | some k => obtain ⟨g1, g2⟩ := hg hi q; rw [← g2] at q5; exact .sub k x y cap ad ty m es g1 q2 q3 q4 q5
    | elt o x y ty m es q q2 => simp only [ren1]; cases hi : idx o os 0 with | none => exact .bot _ | some k => obtain ⟨g1, g2⟩ := hg hi q; rw [← g2]; exact .elt k x y ty m es g1 q2
    | box o x cs q => simp only [ren1]; cases hi : idx o os 0 with | none => exact .bot _ | some k => obtain ⟨g1, g2⟩ := hg hi q; rw [← g2]; exact .box k x _ g1
    | arr o x cs q => simp only [ren1]; cases hi : idx o os 0 with | none => exact .bot _ | some k => obtain ⟨g1, g2⟩ := hg hi q; rw [← g2]; exact .arr k x _ g1
    | agg => exact .bot _
    | tup => exact .bot _
    | fn => exact .bot _
    | mp o kvs q => simp only [ren1]; cases hi : idx o os 0 with | none => exact .bot _ | some k => obtain ⟨g1, g2⟩ := hg hi q; rw [← g2]; exact .mp k _ g1
  have hmap : ∀ {cs : List LV} {k : Nat} {u : LV}, (cs.map (ren1 os))[k]? = some u → ∃ v, cs[k]? = some v ∧ u = ren1 os v := fun {cs k u} hk => by
    rw [List.getElem?_map] at hk
    cases hc : cs[k]? with
    | none => rw [hc] at hk; cases hk
    | some v => rw [hc] at hk; cases hk; exact ⟨v, rfl, rfl⟩
  have h2 : ∀ v cv, LRel w I G h v cv → LRel w I (fun k => match os[k]? with | some o => G o | none => ⟨0, 0, 0, 0⟩) (subH os h os) (renV os v) cv := fun v cv hr => by
    cases v
    case agg cs => cases hr with | agg _ vs q1 q2 q3 => refine .agg _ vs (by simpa using q1) (fun k u hu => ?_) (fun k u hu => ?_) <;> obtain ⟨v, g1, rfl⟩ := hmap hu; exact h1 _ _ (q2 k v g1); exact q3 k v g1
    case tup cs => cases hr with | tup _ vs q1 q2 => refine .tup _ vs (by simpa using q1) (fun k u hu => ?_); obtain ⟨v, g1, rfl⟩ := hmap hu; exact h1 _ _ (q2 k v g1)
    case fn f cs => cases hr with | fn _ _ vs q1 q2 => refine .fn f _ vs (by simpa using q1) (fun k u hu => ?_); obtain ⟨v, g1, rfl⟩ := hmap hu; exact h1 _ _ (q2 k v g1)
    all_goals exact h1 _ _ hr
  have split : ∀ (k : Nat) x, (subH os h os)[k]? = some x → x = .dead ∨ ∃ o ob, os[k]? = some o ∧ h[o]? = some ob ∧ x = renO os ob := fun k x hx => by
    rw [subH_get] at hx
    cases ho : os[k]? with
    | none => rw [ho] at hx; cases hx
    | some o =>
      rw [ho] at hx
      simp only [Option.map_some, Option.some.injEq] at hx
      cases hob : h[o]? with
      | none => rw [hob] at hx; exact .inl hx.symm
      | some ob => rw [hob] at hx; exact .inr ⟨o, ob, rfl, hob, hx.symm⟩
  have alk : ∀ {y : Ob} {q : Pl}, (renO os y).alive q → y.alive q := fun {y q} ha => by cases y <;> exact ha
  refine ⟨⟨⟨fun k x hx => ?_, fun i j x y hx ax hy ay hb => ?_, fun k x hx ax => ?_, hs.hh.cl⟩, fun i v hi => ?_, hs.hn⟩, fun b ⟨k, x, hx, ax, hb⟩ => ?_⟩
  · rcases split k x hx with rfl | ⟨o, ob, ho, hob, rfl⟩
    · trivial
    · simp only [ho]
      have := hs.hh.obs o ob hob
      cases ob with
      | dead => trivial
      | box cs =>
        obtain ⟨vs, ty, e1, e2, e3⟩ := this
        refine ⟨vs, ty, e1, by simpa using e2, fun k v hv => ?_⟩
        obtain ⟨u, g1, rfl⟩ := hmap hv
        exact ⟨h1 _ _ (e3 k u g1).1, (e3 k u g1).2⟩
      | arr cs => exact this
      | sl ty m n es => cases n <;> exact this
      | mp kvs => exact this
  · rcases split i x hx with rfl | ⟨o, ob, ho, hob, rfl⟩
    · exact ax.elim
    · rcases split j y hy with rfl | ⟨o', ob', ho', hob', rfl⟩
      · exact ay.elim
      · simp only [ho, ho'] at ax ay hb
        have := hs.hh.sep o o' ob ob' hob (alk ax) hob' (alk ay) hb
        subst this
        exact nodupB_inj hn i j o ho ho'
  · rcases split k x hx with rfl | ⟨o, ob, ho, hob, rfl⟩
    · exact ax.elim
    · simp only [ho] at ax ⊢
      exact hs.hh.nI o ob hob (alk ax)
  · have gs : ∀ l : List Nat, get (subE os e l) i = some v → ∃ u, (get e i = some u ∧ v = renV os u) ∨ v = .bot := fun l => by
      induction l with
      | nil => intro hq; cases hq
      | cons x r ih =>
        intro hq
        simp only [subE, get] at hq
        cases hb : Nat.beq x i with
        | true =>
          rw [hb] at hq
          have := Nat.eq_of_beq_eq_true hb
          subst this
          simp only [cond_true, Option.some.injEq] at hq
          cases hg : get e x with
          | none => rw [hg] at hq; exact ⟨.bot, .inr hq.symm⟩
          | some u => rw [hg] at hq; exact ⟨u, .inl ⟨rfl, hq.symm⟩⟩
        | false => rw [hb] at hq; exact ih hq
    obtain ⟨u, ⟨g1, rfl⟩ | rfl⟩ := gs ks hi
    · have := hs.he i u g1
      cases u with
      | spec j wt u => exact LRel.bot _
      | own o =>
        have h3 := h2 _ _ this
        simp only [renV, ren1] at h3 ⊢
        cases hq : idx o os 0 <;> rw [hq] at h3 <;> exact h3
      | sub o x y =>
        have h3 := h2 _ _ this
        simp only [renV, ren1] at h3 ⊢
        cases hq : idx o os 0 <;> rw [hq] at h3 <;> exact h3
      | elt o x y =>
        have h3 := h2 _ _ this
        simp only [renV, ren1] at h3 ⊢
        cases hq : idx o os 0 <;> rw [hq] at h3 <;> exact h3
      | box o x =>
        have h3 := h2 _ _ this
        simp only [renV, ren1] at h3 ⊢
        cases hq : idx o os 0 <;> rw [hq] at h3 <;> exact h3
      | mp o =>
        have h3 := h2 _ _ this
        simp only [renV, ren1] at h3 ⊢
        cases hq : idx o os 0 <;> rw [hq] at h3 <;> exact h3
      | bot => exact h2 _ _ this
      | pv p => exact h2 _ _ this
      | agg cs => exact h2 _ _ this
      | tup cs => exact h2 _ _ this
      | fn f cs => exact h2 _ _ this
    · exact LRel.bot _
  · rcases split k x hx with rfl | ⟨o, ob, ho, hob, rfl⟩
    · exact ax.elim
    · simp only [ho] at ax hb
      exact ⟨o, ob, hob, alk ax, hb⟩

/-- Nil slices in these slots become objects of their own. -/
def adopt : List (Nat × Nat × Nat) → Env → Hp → Env × Hp
  | [], e, h => (e, h)
  | (i, ty) :: r, e, h => match get e i with
    | some (.pv (.sl true _ [])) => adopt r ((i, .own h.length) :: e) (h ++ [.sl ty false true []])
    | _ => adopt r e h
theorem SRel.adopt {w : World} {I : Nat → Prop} {N : Nat} {a : Act} : ∀ {ad : List (Nat × Nat × Nat)} {e : Env} {h : Hp} {G : Nat → Pl}, SRel w I G e h N a →
    ∃ G', SRel w I G' (adopt ad e h).1 (adopt ad e h).2 N a ∧ ∀ b, Owns (Eng.adopt ad e h).2 G' b → Owns h G b
  | [], e, h, G, hs => ⟨G, hs, fun b hb => hb⟩
  | (i, ty) :: r, e, h, G, hs => by
    unfold Eng.adopt
    split
    · rename_i f hg
      have hp : ¬ (Ob.sl ty false true []).alive ⟨0, 0, 0, 0⟩ := fun x => by cases x.1
      have hh' := hs.hh.add (.sl ty false true []) ⟨0, 0, 0, 0⟩ hp rfl
      have hv : a.tmps.getD i undef = .slice none 0 0 := by
        have := hs.he i _ hg
        simp only [VRel] at this
        generalize a.tmps.getD i undef = cv at this
        cases this with
        | pv _ _ h1 => cases h1 with
          | slnil => rfl
      have hs' : SRel w I (addPl G h.length ⟨0, 0, 0, 0⟩) ((i, .own h.length) :: e) (h ++ [.sl ty false true []]) N a :=
        ⟨hh', (hs.he.mono (Keeps.refl w I) (Like.push G h ⟨0, 0, 0, 0⟩ (.sl ty false true []))).cons (by rw [hv]; exact LRel.ownNil h.length ty false [] (by simp)), hs.hn⟩
      obtain ⟨G', g1, g2⟩ := SRel.adopt (ad := r) hs'
      refine ⟨G', g1, fun b hb => ?_⟩
      obtain ⟨o, ob, h1, h2, h3⟩ := g2 b hb
      rcases Nat.lt_trichotomy o h.length with ho | ho | ho
      · rw [List.getElem?_append_left ho] at h1
        have e1 : addPl G h.length ⟨0, 0, 0, 0⟩ o = G o := by simp [addPl, Nat.ne_of_lt ho]
        rw [e1] at h2 h3
        exact ⟨o, ob, h1, h2, h3⟩
      · subst ho; simp at h1; subst h1; cases h2.1
      · rw [List.getElem?_eq_none (by simp; omega)] at h1; cases h1
    · exact SRel.adopt hs

/-- One state is the other one, some of it forgotten. -/
def Fits (e : Env) (h : Hp) (e' : Env) (h' : Hp) : Prop := ∃ ad os ks, nodupB os = true ∧ subE os (adopt ad e h).1 ks = e' ∧ subH os (adopt ad e h).2 os = h'
theorem Fits.srel {w : World} {I : Nat → Prop} {G : Nat → Pl} {e e' : Env} {h h' : Hp} {N : Nat} {a : Act} (hf : Fits e h e' h') (hs : SRel w I G e h N a) : ∃ G', SRel w I G' e' h' N a ∧ ∀ b, Owns h' G' b → Owns h G b := by
  obtain ⟨ad, os, ks, h1, rfl, rfl⟩ := hf
  obtain ⟨G1, g1, g2⟩ := hs.adopt (ad := ad)
  obtain ⟨g3, g4⟩ := g1.sub os ks h1
  exact ⟨_, g3, fun b hb => g2 b (g4 b hb)⟩
theorem Tr.less {w : World} {I own own' : Nat → Prop} (h : ∀ b, own' b → own b) : Tr w I own w I own' := ⟨rfl, rfl, rfl, Nat.le_refl _, fun _ _ _ => rfl, fun _ x => x, fun _ x => .inl x, fun b x => .inl (h b x), fun _ => rfl⟩
theorem CodeS.fits {P : Program} {N : Nat} {c : Code} {e e' : Env} {h h' : Hp} {Q : Qt} (hf : Fits e h e' h') (hK : CodeS P N c e' h' Q) : CodeS P N c e h Q := by
  intro w I G a Qx hs hq
  obtain ⟨G', hs', ho⟩ := hf.srel hs
  exact hK w I G' a Qx hs' fun x e2 h2 w2 I2 G2 a2 hk hs2 hd ht => hq x e2 h2 w2 I2 G2 a2 hk hs2 hd ((Tr.less ho).trans ht)

/-- A LOOP: the states at its head, by what they hold. -/
theorem CodeS.loop {P : Program} {N : Nat} {c : Code} {e : Env} {h : Hp} {Q : Qt} {σ : Type} (S : σ → Env × Hp) (J : σ → Prop) (μ : σ → Nat) (s0 : σ) (h0 : Fits e h (S s0).1 (S s0).2) (hJ : J s0)
    (hb : ∀ s, J s → CodeS P N c (S s).1 (S s).2 fun x e h => match x with | .normal => ∃ s', Fits e h (S s').1 (S s').2 ∧ J s' ∧ μ s' < μ s | x => Q x e h) : CodeS P N (.loop c) e h Q := by
  intro w I G a Qx hs hq
  obtain ⟨G0, hs0, ho0⟩ := h0.srel hs
  refine wp_loop_ghost (fun n a1 w1 => ∃ s I1 G1, μ s = n ∧ J s ∧ SRel w1 I1 G1 (S s).1 (S s).2 N a1 ∧ a1.defers = a.defers ∧ Tr w I (Owns h G) w1 I1 (Owns (S s).2 G1)) (μ s0)
    ⟨s0, I, G0, rfl, hJ, hs0, rfl, Tr.less ho0⟩ ?_
  rintro n a1 w1 ⟨s, I1, G1, rfl, hj, hs1, hd1, ht1⟩
  refine hb s hj w1 I1 G1 a1 _ hs1 fun x e2 h2 w2 I2 G2 a2 hk hs2 hd2 ht2 => ?_
  cases x with
  | normal =>
    obtain ⟨s', hf, hj', hlt⟩ := hk
    obtain ⟨G3, hs3, ho3⟩ := hf.srel hs2
    exact ⟨μ s', hlt, s', I2, G3, rfl, hj', hs3, hd2.trans hd1, (ht1.trans ht2).trans (Tr.less ho3)⟩
  | exit n => exact hq (.exit n) e2 h2 w2 I2 G2 a2 hk hs2 (hd2.trans hd1) (ht1.trans ht2)
  | ret => exact hq .ret e2 h2 w2 I2 G2 a2 hk hs2 (hd2.trans hd1) (ht1.trans ht2)

/-- The slots that are kept behind a region. -/
def keepE : List Nat → Env → Env
  | [], _ => []
  | i :: r, e => match get e i with
    | some (.spec ..) => keepE r e
    | some .bot => keepE r e
    | some v => (i, v) :: keepE r e
    | none => keepE r e
theorem get_keepE {e : Env} {i : Nat} {v : LV} : ∀ {l : List Nat}, get (keepE l e) i = some v → get e i = some v
  | [], h => by cases h
  | x :: r, h => by
    unfold keepE at h
    split at h
    · exact get_keepE h
    · exact get_keepE h
    · rename_i u _ _ hu
      simp only [get] at h
      cases hb : Nat.beq x i with
      | true => rw [hb] at h; have := Nat.eq_of_beq_eq_true hb; subst this; cases h; exact hu
      | false => rw [hb] at h; exact get_keepE h
    · exact get_keepE h
theorem SRel.kept {w : World} {I : Nat → Prop} {G : Nat → Pl} {e : Env} {h : Hp} {N : Nat} {a : Act} (hs : SRel w I G e h N a) (l : List Nat) : SRel w I G (keepE l e) h N a :=
  ⟨hs.hh, fun i v hi => hs.he i v (get_keepE hi), hs.hn⟩
theorem CodeS.region {P : Program} {N : Nat} {id : Nat} {ops : Array Oper} {e : Env} {h : Hp} {Q : Qt} (l : List Nat) (hK : aOps P N ops.toList ops.toList e h (fun e h => Q .normal (keepE l e) h)) : CodeS P N (.region id ops false) e h Q := by
  intro w I G a Qx hs hq
  refine wp_region ?_
  have := aOps_ok (Qx := Qx) ops.toList 0 e h (fun j _ => by simp) hK w I G a hs fun e' h' w' I' G' a' hk hs' hd ht => hq .normal _ h' w' I' G' a' hk (hs'.kept l) hd ht
  simpa [List.range_eq_range'] using this
/-- What is said of a loop: the states at its head, by what they hold; a condition; a measure. -/
structure LSpec where
  σ : Type
  S : σ → Env × Hp
  J : σ → Prop
  μ : σ → Nat
/-- A loop is told by the first region in it. -/
def firstR : Code → Option Nat
  | .region id _ _ => some id
  | .seq a b => match firstR a with
    | some k => some k
    | none => firstR b
  | .cond _ a b => match firstR a with
    | some k => some k
    | none => firstR b
  | .block _ c => firstR c
  | .loop c => firstR c
  | _ => none
def loopQ (sp : LSpec) (s : sp.σ) (Q : Qt) : Qt := fun x e h => match x with
  | .normal => ∃ s', Fits e h (sp.S s').1 (sp.S s').2 ∧ sp.J s' ∧ sp.μ s' < sp.μ s
  | .exit n => Q (.exit n) e h
  | .ret => Q .ret e h
/-- Running code over abstract states. -/
def aWp (P : Program) (N : Nat) (l : List Nat) (L : Nat → Option LSpec) : Code → Env → Hp → Qt → Prop
  | .skip, e, h, Q => Q .normal e h
  | .region id ops d, e, h, Q => bif d then aDraw P N ops e h (fun e h => Q .normal (keepE l e) h) else aOps P N ops.toList ops.toList e h fun e h => Q .normal (keepE l e) h
  | .seq a b, e, h, Q => aWp P N l L a e h fun x e h => match x with
    | .normal => aWp P N l L b e h Q
    | .exit n => Q (.exit n) e h
    | .ret => Q .ret e h
  | .cond c a b, e, h, Q => match opv [] e c with
    | some (.pv (.bool t)) => if t = true then aWp P N l L a e h Q else aWp P N l L b e h Q
    | _ => Stuck 1101
  | .block id c, e, h, Q => aWp P N l L c e h fun x e h => match x with
    | .normal => Q .normal e h
    | .exit n => bif Nat.beq n id then Q .normal e h else Q (.exit n) e h
    | .ret => Q .ret e h
  | .loop c, e, h, Q => match firstR c with
    | some k => match L k with
      | some sp => ∃ s0, Fits e h (sp.S s0).1 (sp.S s0).2 ∧ sp.J s0 ∧ ∀ s, sp.J s → aWp P N l L c (sp.S s).1 (sp.S s).2 (loopQ sp s Q)
      | none => CodeS P N (.loop c) e h Q
    | none => Stuck 1102
  | .exit n, e, h, Q => Q (.exit n) e h
  | .ret, e, h, Q => Q .ret e h
  | _, _, _, _ => Stuck 1103
theorem aWp_ok {P : Program} {N : Nat} {l : List Nat} {L : Nat → Option LSpec} : ∀ {c : Code} {e : Env} {h : Hp} {Q : Qt}, aWp P N l L c e h Q → CodeS P N c e h Q := by
  intro c
  induction c with
  | skip => exact fun hK => CodeS.skip hK
  | region id ops d =>
    intro e h Q hK
    cases d with
    | true => exact fun w I G a Qx hs hq => aDraw_ok hK hs fun e' h' w' I' G' a' hk hs' hd ht => hq .normal _ h' w' I' G' a' hk (hs'.kept l) hd ht
    | false => exact CodeS.region l hK
  | seq a b iha ihb =>
    intro e h Q hK
    refine CodeS.seq ((iha hK).mono fun x e h hq => ?_)
    cases x with
    | normal => exact ihb hq
    | exit n => exact hq
    | ret => exact hq
  | cond c a b iha ihb =>
    intro e h Q hK
    simp only [aWp] at hK
    split at hK
    · rename_i t ht
      refine CodeS.cond ht ?_
      cases t with
      | true => simp only [if_true] at hK ⊢; exact iha hK
      | false => simp only [Bool.false_eq_true, if_false] at hK ⊢; exact ihb hK
    · cases hK
  | block id c ih =>
    intro e h Q hK
    refine CodeS.block ((ih hK).mono fun x e h hq => ?_)
    cases x with
    | normal => exact hq
    | exit n => exact hq
    | ret => exact hq
  | loop c ih =>
    intro e h Q hK
    simp only [aWp] at hK
    split at hK
    · split at hK
      · rename_i sp hsp
        obtain ⟨s0, h1, h2, h3⟩ := hK
        refine CodeS.loop sp.S sp.J sp.μ s0 h1 h2 fun s hj => (ih (h3 s hj)).mono fun x e h hq => ?_
        cases x with
        | normal => exact hq
        | exit n => exact hq
        | ret => exact hq
      · exact hK
    · exact hK.elim
  | exit n => exact fun hK => CodeS.exit hK
  | ret => exact fun hK => CodeS.ret hK
  | _ => intro e h Q hK; exact hK.elim

/-! ### A function -/
def initE : List LV → Nat → Env
  | [], _ => []
  | v :: r, k => (k, v) :: initE r (k + 1)
/-- What a function hands back: slots, or variables in memory. -/
def resK' (P : Program) (e : Env) (h : Hp) : List ResultVar → (List LV → Prop) → Prop
  | [], K => K []
  | .tmp t :: r, K => match opv [] e (.tmp t) with
    | some v => resK' P e h r fun vs => K (v :: vs)
    | none => Stuck 2301
  | .cell c t :: r, K => aLoad P e h t (.tmp c) fun v _ _ => resK' P e h r fun vs => K (v :: vs)
def retV (h : Hp) (R : PV → Prop) (v : LV) : Prop :=
  match toPV h v with
  | some p => R p
  | none => Stuck 2302
def oneOf (K : LV → Prop) : List LV → Prop
  | [v] => K v
  | vs => K (.tup vs)
/-- What a function hands back is told as a tree. -/
def retK (P : Program) (rs : List ResultVar) (R : PV → Prop) : Qt := fun x e h =>
  match x with
  | .exit _ => Stuck 2303
  | _ => resK' P e h rs (oneOf (retV h R))
theorem run_asAddr {P : Program} {t : TypeId} {v cv : Value} {w : World} (h : (Instr.loadAt t v).run P w = .ok cv w) : (do loadVar t (← asAddr v) : Sem Value).run P w = .ok cv w := by
  cases v
  case pointer a =>
    cases a with
    | none => cases h
    | some a => exact h
  all_goals cases h
theorem resVs_ok {P : Program} {w : World} {I : Nat → Prop} {G : Nat → Pl} {h : Hp} {a : Act} {e : Env} (hh : HRel w I G h) (he : ERel w I G h e a.tmps) {f : ResultVar → Sem Value} (hf : ∀ t, f (.tmp t) = Pure.pure (a.tmps.getD t undef))
    (hf2 : ∀ c t, f (.cell c t) = (do loadVar t (← asAddr (a.tmps.getD c undef)))) :
    ∀ {rs : List ResultVar} {K : List LV → Prop}, resK' P e h rs K → ∃ vs, K vs ∧ ∃ cs : List Value, (rs.mapM f).run P w = .ok cs w ∧ cs.length = vs.length ∧ ∀ (k : Nat) v, vs[k]? = some v → LRel w I G h v (cs.getD k undef)
  | [], K, hv => ⟨[], hv, [], rfl, rfl, fun k v hk => by simp at hk⟩
  | .cell c t :: r, K, hv => by
    unfold resK' at hv
    obtain ⟨v, hk, hrun⟩ := aLoad_okV (o := { dst := none, op := .load t (.tmp c), type := 0, pos := "", after := #[], guard := none }) rfl hv
    obtain ⟨cv, g1, g2⟩ := hrun w I G a hh he
    obtain ⟨vs, hK, cs, h1, h2, h3⟩ := resVs_ok hh he hf hf2 hk
    have g3 : (Instr.loadAt t (a.tmps.getD c undef)).run P w = .ok cv w := by
      have := g1 w (KA.refl w)
      change (vOf (Instr.loadAt t (a.tmps.getD c undef))).run P w = _ at this
      unfold vOf at this
      simp only [Sem.run_bind, Sem.run_pure] at this
      cases hq : (Instr.loadAt t (a.tmps.getD c undef)).run P w with
      | ok x y => rw [hq] at this; simp only [Result.andThen_ok] at this; injection this with e1 e2; injection e1 with e1; rw [e1, e2]
      | _ => rw [hq] at this; cases this
    refine ⟨_, hK, cv :: cs, ?_, by simp [h2], fun k u hk => ?_⟩
    · simp only [List.mapM_cons, hf2]
      rw [Sem.run_bind, run_asAddr g3]
      simp only [Result.andThen_ok, Sem.run_bind, h1, Sem.run_pure]
    cases k with
    | zero => simp at hk; subst hk; exact g2
    | succ k => simp at hk; simpa using h3 k u hk
  | .tmp t :: r, K, hv => by
    unfold resK' at hv
    split at hv
    · rename_i v h1
      obtain ⟨vs, hK, cs, g1, g2, g3⟩ := resVs_ok hh he hf hf2 hv
      refine ⟨_, hK, a.tmps.getD t undef :: cs, ?_, by simp [g2], fun k u hk => ?_⟩
      · simp only [List.mapM_cons, hf, Sem.run_bind, Sem.run_pure, Result.andThen_ok, g1]
      cases k with
      | zero => simp at hk; subst hk; exact opv_ok he (AOK.nil _) h1
      | succ k => simp at hk; simpa using g3 k u hk
    · cases hv
theorem resV_ok {P : Program} {w : World} {I : Nat → Prop} {G : Nat → Pl} {h : Hp} {a : Act} {e : Env} (hh : HRel w I G h) (he : ERel w I G h e a.tmps) {fn : Func} {K : LV → Prop} (hv : resK' P e h fn.results.toList (oneOf K)) : ∃ v, K v ∧ ∃ cv, (results fn a.tmps).run P w = .ok cv w ∧ LRel w I G h v cv := by
  obtain ⟨vs, hK, cs, g1, g2, g3⟩ := resVs_ok (P := P) (f := fun | .tmp t => Pure.pure (a.tmps.getD t undef) | .cell c t => do loadVar t (← asAddr (a.tmps.getD c undef))) hh he (fun t => rfl) (fun c t => rfl) hv
  have base : ∃ ca : Array Value, (results fn a.tmps).run P w = .ok (if h : ca.size = 1 then ca[0] else .tuple ca) w ∧ ca.size = vs.length ∧ ∀ (k : Nat) v, vs[k]? = some v → LRel w I G h v (ca.getD k undef) := by
    refine ⟨cs.toArray, ?_, by simpa using g2, fun k v hk => by simpa [List.getD] using g3 k v hk⟩
    unfold results
    rw [Sem.run_bind, Array.mapM_eq_mapM_toList]
    simp only [Sem.run_bind, Sem.run_map, Sem.run_pure, Result.andThen_ok]
    erw [g1]
    rfl
  obtain ⟨ca, q1, q2, q3⟩ := base
  unfold oneOf at hK
  split at hK
  · rename_i v
    have h1 : ca.size = 1 := by simpa using q2
    refine ⟨v, hK, _, q1, ?_⟩
    rw [dif_pos h1]
    have := q3 0 v rfl
    have e1 : ca.getD 0 undef = ca[0] := by simp [h1]
    rw [← e1]; exact this
  · rename_i hne
    have h1 : ca.size ≠ 1 := fun h1 => by
      rw [h1] at q2
      match vs, q2 with
      | [x], _ => exact hne x rfl
    refine ⟨_, hK, _, q1, ?_⟩
    rw [dif_neg h1]
    exact .tup vs ca q2 q3

@[irreducible] def aFn (P : Program) (fn : Func) (l : List Nat) (L : Nat → Option LSpec) (c : Code) (ps : List PV) (R : PV → Prop) : Prop := aWp P fn.ntmps l L c (initE (ps.map .pv) 0) [] (retK P fn.results.toList R)
theorem get_initE : ∀ {vs : List LV} {k i : Nat} {v : LV}, get (initE vs k) i = some v → k ≤ i ∧ vs[i - k]? = some v
  | [], k, i, v, h => by cases h
  | x :: r, k, i, v, h => by
    simp only [initE, get] at h
    cases hb : Nat.beq k i with
    | true => rw [hb] at h; have := Nat.eq_of_beq_eq_true hb; subst this; simp at h; subst h; simp
    | false =>
      rw [hb] at h
      obtain ⟨h1, h2⟩ := get_initE h
      refine ⟨by omega, ?_⟩
      have hne : k ≠ i := fun e => by subst e; simp at hb
      rw [show i - k = (i - (k + 1)) + 1 by omega]
      simpa using h2
/-- A FUNCTION: what its code gives, over abstract states, is what its call gives. -/
theorem PCall.of {P : Program} {f : Nat} {fn : Func} {c : Code} {ps : List PV} {R : PV → Prop} (hf : P.funcs[f]? = some fn) (hb : fn.body = some c) (hn : (fn.name == "runtime.NumGoroutine") = false) (hl : ps.length ≤ fn.ntmps)
    {l : List Nat} {L : Nat → Option LSpec} (hK : aFn P fn l L c ps R) : PCall P f ps R := by
  unfold aFn at hK
  refine ⟨⟨fn, hf, by rw [hb]; rfl, hn⟩, fun w I G cargs hh hsz hrel => ?_⟩
  refine calls_of_wp hf hb ?_
  simp only [List.length_map] at hsz
  have hs : SRel w I G (initE (ps.map .pv) 0) [] fn.ntmps { tmps := cargs ++ Array.replicate (fn.ntmps - cargs.size) undef, defers := [] } := by
    refine ⟨hh, fun i v hi => ?_, by simp; omega⟩
    obtain ⟨_, h2⟩ := get_initE hi
    rw [Nat.sub_zero] at h2
    have hlt : i < cargs.size := by have := (List.getElem?_eq_some_iff.1 h2).1; simp at this; omega
    have := hrel i v h2
    have e1 : (cargs ++ Array.replicate (fn.ntmps - cargs.size) undef).getD i undef = cargs.getD i undef := by
      rw [Array.getD_eq_getD_getElem?, Array.getD_eq_getD_getElem?, Array.getElem?_append_left hlt]
    simp only [e1]
    rw [List.getElem?_map] at h2
    cases hp : ps[i]? with
    | none => rw [hp] at h2; cases h2
    | some p => rw [hp] at h2; cases h2; exact this
  refine aWp_ok hK w I G _ _ hs fun x e' h' w' I' G' a' hk hs' hd ht => ?_
  have fin : resK' P e' h' fn.results.toList (oneOf (retV h' R)) → a'.defers = [] ∧ ∃ cv, (results fn a'.tmps).run P w' = .ok cv w' ∧ ∃ cv' r h2 I2 G2, Ending.returned cv = .returned cv' ∧ (∃ v, r = .pv v ∧ R v) ∧ HRel w' I2 G2 h2 ∧ LRel w' I2 G2 h2 r cv' ∧
      Tr w I (Owns [] G) w' I2 (Owns h2 G2) ∧ (∀ (o : Nat) ob', o < ([] : Hp).length → h2[o]? = some ob' → (∀ ty n es, ob' ≠ .sl ty true n es) → G2 o = G o) := fun h1 => by
    obtain ⟨v, hv, cv, g1, g2⟩ := resV_ok (P := P) hs'.hh hs'.he h1
    unfold retV at hv
    split at hv
    · rename_i p h2
      have hno : ∀ b, ¬ Owns [] G b := fun b ⟨o, ob, ho, _⟩ => by simp at ho
      refine ⟨hd, cv, g1, cv, .pv p, [], AllB I' h' G', G', rfl, ⟨p, rfl, hv⟩, HRel.nil G' (fun b hb => hb.elim (hs'.hh.cl b) hs'.hh.blk_lt), .pv _ _ (toPV_ok hs'.hh g2 h2), ?_, fun o ob ho => by simp at ho⟩
      refine ⟨ht.os, ht.tape, ht.output, ht.size, ht.keep, fun b hb => .inl (ht.i1 b hb), fun b hb => hb.elim (ht.i2 b) (fun ho => (ht.own2 b ho).elim (fun x => absurd x (hno b)) (fun x => .inr (.inr x))), fun b hb => absurd hb (fun ⟨o, ob, ho, _⟩ => by simp at ho), ht.frz⟩
    · cases hv
  cases x with
  | exit n => exact hk.elim
  | normal => exact fin hk
  | ret => exact fin hk
end Go.Eng
set_option linter.unusedVariables false
set_option linter.unusedSimpArgs false
namespace Go.Eng
open Go Go.RowKit
theorem keptBut_of {w w' : World} {may : MemPlace → Prop} (h1 : w'.os = w.os) (h2 : w'.output = w.output) (h3 : ∀ b, b < w.heap.size → w'.heap[b]? = w.heap[b]?) : w.keptBut w' may := by
  obtain ⟨_, _, h⟩ := World.keptBut_refl w may
  refine ⟨h1, h2, fun i hi => ?_⟩
  rw [h3 i hi]
  exact h i hi
/-- A call that is told by trees, at a world of one's own. -/
theorem PCall.row {P : Program} {f : Nat} {ps : List PV} {Q : PV → Prop} (hc : PCall P f ps Q) {args : Array Value} {w : World} (hn : args.size = ps.length)
    (hr : ∀ (i : Nat) v, ps[i]? = some v → Rep w (fun b => b < w.heap.size) v (args.getD i undef)) :
    Calls P f args w fun e w' => ∃ v cv I', e = .returned cv ∧ Q v ∧ Rep w' I' v cv ∧ Grown w w' := by
  refine (hc.2 w (fun b => b < w.heap.size) (fun _ => ⟨0, 0, 0, 0⟩) args (HRel.nil _ fun b hb => hb) (by simpa using hn) (fun i v hi => ?_)).mono fun e w' ⟨cv, r, h', I', G', e1, ⟨v, e2, hq⟩, e3, e4, e5, _⟩ => ?_
  · rw [List.getElem?_map] at hi
    cases hp : ps[i]? with
    | none => rw [hp] at hi; cases hi
    | some p => rw [hp] at hi; cases hi; exact .pv _ _ (hr i p hp)
  · subst e2
    have hno : ∀ b, ¬ Owns [] (fun _ => (⟨0, 0, 0, 0⟩ : Pl)) b := fun b ⟨o, ob, ho, _⟩ => by simp at ho
    have hk : ∀ b, b < w.heap.size → w'.heap[b]? = w.heap[b]? := fun b hb => e5.keep b hb (hno b)
    cases e4 with
    | pv _ _ h1 => exact ⟨v, cv, I', e1, hq, h1, keptBut_of e5.os e5.output hk, e5.frz, e5.size⟩
/-- A law's call. -/
theorem PCall.law {P : Program} {f : Nat} {ps : List PV} (hc : PCall P f ps fun v => v = .bool true) {args : Array Value} {w : World} (hn : args.size = ps.length)
    (hr : ∀ (i : Nat) v, ps[i]? = some v → Rep w (fun b => b < w.heap.size) v (args.getD i undef)) : Calls P f args w fun e w' => e = .returned (.bool true) ∧ Grown w w' :=
  (hc.row hn hr).mono fun e w' ⟨v, cv, I', e1, e2, e3, e4⟩ => by
    subst e2
    cases e3
    exact ⟨e1, e4⟩
theorem wrap_i32 {n : Int} (h1 : -2147483648 ≤ n) (h2 : n ≤ 2147483647) : IntKind.i32.wrap n = n := by
  unfold IntKind.wrap
  simp only [IntKind.bits, IntKind.signed]
  simp only [Bool.true_and, decide_eq_true_eq, show (2:Int)^(32-1) = 2147483648 from rfl, show (2:Int)^32 = 4294967296 from rfl, show (2:Int)^(64-1) = 9223372036854775808 from rfl, show (2:Int)^64 = 18446744073709551616 from rfl]
  split <;> omega
theorem wrap_i64 {n : Int} (h1 : -9223372036854775808 ≤ n) (h2 : n ≤ 9223372036854775807) : IntKind.i64.wrap n = n := by
  unfold IntKind.wrap
  simp only [IntKind.bits, IntKind.signed]
  simp only [Bool.true_and, decide_eq_true_eq, show (2:Int)^(32-1) = 2147483648 from rfl, show (2:Int)^32 = 4294967296 from rfl, show (2:Int)^(64-1) = 9223372036854775808 from rfl, show (2:Int)^64 = 18446744073709551616 from rfl]
  split <;> omega
theorem wf_i32 {n : Int} (h : (Lit.int .i32 n).wf = true) : -2147483648 ≤ n ∧ n ≤ 2147483647 := by
  simp [Lit.wf, IntKind.min, IntKind.max, IntKind.bits, IntKind.signed] at h
  omega
theorem wf_i64 {n : Int} (h : (Lit.int .i64 n).wf = true) : -9223372036854775808 ≤ n ∧ n ≤ 9223372036854775807 := by
  simp [Lit.wf, IntKind.min, IntKind.max, IntKind.bits, IntKind.signed] at h
  omega
/-- A slice of integers of 32 bits. -/
def i32s (l : List Int) : List (List PV) := l.map fun n => [.int .i32 n]
@[simp] theorem i32s_length (l : List Int) : (i32s l).length = l.length := by simp [i32s]
theorem i32s_get {l : List Int} {i : Nat} (h : i < l.length) : (i32s l).getD i [] = [.int .i32 (l.getD i 0)] := by
  simp [i32s, List.getD, h]
end Go.Eng
set_option linter.unusedVariables false
set_option maxRecDepth 100000
set_option linter.constructorNameAsVariable false
namespace Go.Eng
open Go Go.Proofs
def r_a15 (n1 f1 : Bool) (es : List (List PV)) (k : Int) (R : PV → Prop) : Prop :=

  if decide ((↑es.length : Int) > k) = true then
    (slOK es.length none (some k) none ∧ szOK es ((1 : Nat))) ∧
      R (PV.sl n1 (f1 && decide (k = (↑es.length : Int))) (List.drop ((0 : Nat)) (List.take k.toNat es)))
  else R (PV.sl n1 f1 es)
theorem e_a15 (n1 f1 : Bool) (es : List (List PV)) (k : Int) (R : PV → Prop) : aFn Try.prog Try.f15 [0, 1, 4, 8] (fun _ => none) (Try.f15.body.getD .skip) [.sl n1 f1 es, .int .i64 k] R = r_a15 n1 f1 es k R := by kernel_rfl
theorem a15 (n1 f1 : Bool) (es : List (List PV)) (k : Int) {R : PV → Prop} (h : r_a15 n1 f1 es k R) : PCall Try.prog 15 [.sl n1 f1 es, .int .i64 k] R :=
  PCall.of Try.func15 (by kernel_rfl) (by kernel_rfl) (Nat.le_of_ble_eq_true (by kernel_rfl)) (Eq.mpr (e_a15 n1 f1 es k R) h)

def r_a19 (n1 f1 : Bool) (es : List (List PV)) (n2 f2 : Bool) (fs : List (List PV)) (n3 f3 : Bool) (gs : List (List PV)) (R : PV → Prop) : Prop :=

  ApOK true [] es ((1 : Nat)) ((4 : Nat)) ∧
    (szOK fs ((1 : Nat)) ∧ (([] ++ es).length + fs.length) * (4 : Nat) ≤ (140737488355328 : Nat)) ∧
      (szOK gs ((1 : Nat)) ∧ (([] ++ es ++ fs).length + gs.length) * (4 : Nat) ≤ (140737488355328 : Nat)) ∧
        R (PV.sl (es.isEmpty && fs.isEmpty && gs.isEmpty) false ([] ++ es ++ fs ++ gs))
theorem e_a19 (n1 f1 : Bool) (es : List (List PV)) (n2 f2 : Bool) (fs : List (List PV)) (n3 f3 : Bool) (gs : List (List PV)) (R : PV → Prop) : aFn Try.prog Try.f19 [0, 1, 2, 6, 7] (fun _ => none) (Try.f19.body.getD .skip) [.sl n1 f1 es, .sl n2 f2 fs, .sl n3 f3 gs] R = r_a19 n1 f1 es n2 f2 fs n3 f3 gs R := by kernel_rfl
theorem a19 (n1 f1 : Bool) (es : List (List PV)) (n2 f2 : Bool) (fs : List (List PV)) (n3 f3 : Bool) (gs : List (List PV)) {R : PV → Prop} (h : r_a19 n1 f1 es n2 f2 fs n3 f3 gs R) : PCall Try.prog 19 [.sl n1 f1 es, .sl n2 f2 fs, .sl n3 f3 gs] R :=
  PCall.of Try.func19 (by kernel_rfl) (by kernel_rfl) (Nat.le_of_ble_eq_true (by kernel_rfl)) (Eq.mpr (e_a19 n1 f1 es n2 f2 fs n3 f3 gs R) h)

def r_a17 (a1 a2 : Bool) (xs : List (List PV)) (b1 b2 : Bool) (ys : List (List PV)) (J : Int → Prop) (μ : Int → Nat) (R : PV → Prop) : Prop :=

  if ((↑xs.length : Int) != (↑ys.length : Int)) = true then R (PV.bool false)
  else
    ∃ (s0 : Int),
      Fits
          [((0 : Nat), LV.pv (PV.sl a1 a2 xs)), ((1 : Nat), LV.pv (PV.sl b1 b2 ys)), ((4 : Nat), LV.pv (PV.bool false)),
            ((5 : Nat), LV.pv (PV.int IntKind.i64 (0 : Int))),
            ((10 : Nat), LV.pv (PV.bool ((↑xs.length : Int) != (↑ys.length : Int))))]
          []
          [((0 : Nat), LV.pv (PV.sl a1 a2 xs)), ((1 : Nat), LV.pv (PV.sl b1 b2 ys)),
            ((5 : Nat), LV.pv (PV.int IntKind.i64 s0))]
          [] ∧
        J s0 ∧
          ∀ (s : Int),
            J s →
              if decide (s < (↑xs.length : Int)) = true then
                idxOK xs s ((1 : Nat)) ∧
                  ∃ (n : Int),
                    (xs.getD s.toNat []).head? = some (PV.int IntKind.i32 n) ∧
                      idxOK ys s ((1 : Nat)) ∧
                        ∃ (n_1 : Int),
                          (ys.getD s.toNat []).head? = some (PV.int IntKind.i32 n_1) ∧
                            if (n != n_1) = true then R (PV.bool false)
                            else
                              ∃ (s' : Int),
                                Fits
                                    [((0 : Nat), LV.pv (PV.sl a1 a2 xs)), ((1 : Nat), LV.pv (PV.sl b1 b2 ys)),
                                      ((5 : Nat), LV.pv (PV.int IntKind.i64 (IntKind.i64.wrap (s + (1 : Int))))),
                                      ((14 : Nat), LV.pv (PV.bool (decide (s < (↑xs.length : Int))))),
                                      ((25 : Nat), LV.pv (PV.bool (n != n_1)))]
                                    []
                                    [((0 : Nat), LV.pv (PV.sl a1 a2 xs)), ((1 : Nat), LV.pv (PV.sl b1 b2 ys)),
                                      ((5 : Nat), LV.pv (PV.int IntKind.i64 s'))]
                                    [] ∧
                                  J s' ∧ μ s' < μ s
              else R (PV.bool true)
theorem e_a17 (a1 a2 : Bool) (xs : List (List PV)) (b1 b2 : Bool) (ys : List (List PV)) (J : Int → Prop) (μ : Int → Nat) (R : PV → Prop) : aFn Try.prog Try.f17 [0, 1, 4, 5, 10, 14, 25] (fun k => match k with | 4 => some ⟨Int, fun i => ([(0, .pv (.sl a1 a2 xs)), (1, .pv (.sl b1 b2 ys)), (5, .pv (.int .i64 i))], []), J, μ⟩ | _ => none) (Try.f17.body.getD .skip) [.sl a1 a2 xs, .sl b1 b2 ys] R = r_a17 a1 a2 xs b1 b2 ys J μ R := by kernel_rfl
theorem a17 (a1 a2 : Bool) (xs : List (List PV)) (b1 b2 : Bool) (ys : List (List PV)) (J : Int → Prop) (μ : Int → Nat) {R : PV → Prop} (h : r_a17 a1 a2 xs b1 b2 ys J μ R) : PCall Try.prog 17 [.sl a1 a2 xs, .sl b1 b2 ys] R :=
  PCall.of Try.func17 (by kernel_rfl) (by kernel_rfl) (Nat.le_of_ble_eq_true (by kernel_rfl)) (Eq.mpr (e_a17 a1 a2 xs b1 b2 ys J μ R) h)

def r_a16 (at0 : Int) (n1 f1 : Bool) (es : List (List PV)) (n2 f2 : Bool) (fs : List (List PV)) (n3 f3 : Bool) (gs : List (List PV)) (J : Int → Prop) (μ : Int → Nat) (R : PV → Prop) : Prop :=

  if
      (decide (at0 < (0 : Int)) || decide (IntKind.i64.wrap (at0 + (↑es.length : Int)) < (0 : Int)) ||
          decide (IntKind.i64.wrap (at0 + (↑es.length : Int)) > (↑gs.length : Int))) =
        true then
    R (PV.tup [PV.sl true true [], PV.bool false])
  else
    ∃ (s0 : Int),
      Fits
          [((0 : Nat), LV.pv (PV.agg [PV.int IntKind.i64 at0, PV.sl n1 f1 es, PV.sl n2 f2 fs])),
            ((1 : Nat), LV.pv (PV.sl n3 f3 gs)), ((2 : Nat), LV.box ((0 : Nat)) ((0 : Nat))),
            ((4 : Nat), LV.pv (PV.sl true true [])), ((5 : Nat), LV.pv (PV.bool false)),
            ((6 : Nat), LV.pv (PV.int IntKind.i64 (IntKind.i64.wrap (at0 + (↑es.length : Int))))),
            ((28 : Nat),
              LV.pv
                (PV.bool
                  (decide (at0 < (0 : Int)) || decide (IntKind.i64.wrap (at0 + (↑es.length : Int)) < (0 : Int)) ||
                    decide (IntKind.i64.wrap (at0 + (↑es.length : Int)) > (↑gs.length : Int))))),
            ((30 : Nat), LV.pv (PV.sl n1 f1 es)), ((31 : Nat), LV.pv (PV.int IntKind.i64 (↑es.length : Int))),
            ((32 : Nat), LV.pv (PV.int IntKind.i64 (0 : Int)))]
          [Ob.box [LV.pv (PV.int IntKind.i64 at0), LV.pv (PV.sl n1 f1 es), LV.pv (PV.sl n2 f2 fs)]]
          [((1 : Nat), LV.pv (PV.sl n3 f3 gs)), ((2 : Nat), LV.box ((0 : Nat)) ((0 : Nat))),
            ((6 : Nat), LV.pv (PV.int IntKind.i64 (IntKind.i64.wrap (at0 + (↑es.length : Int))))),
            ((30 : Nat), LV.pv (PV.sl n1 f1 es)), ((31 : Nat), LV.pv (PV.int IntKind.i64 (↑es.length : Int))),
            ((32 : Nat), LV.pv (PV.int IntKind.i64 s0))]
          [Ob.box [LV.pv (PV.int IntKind.i64 at0), LV.pv (PV.sl n1 f1 es), LV.pv (PV.sl n2 f2 fs)]] ∧
        J s0 ∧
          ∀ (s : Int),
            J s →
              if decide (s < (↑es.length : Int)) = true then
                idxOK es s ((1 : Nat)) ∧
                  ∃ (n : Int),
                    (es.getD s.toNat []).head? = some (PV.int IntKind.i32 n) ∧
                      idxOK gs (IntKind.i64.wrap (at0 + s)) ((1 : Nat)) ∧
                        ∃ (n_1 : Int),
                          (gs.getD (IntKind.i64.wrap (at0 + s)).toNat []).head? = some (PV.int IntKind.i32 n_1) ∧
                            if (n_1 != n) = true then R (PV.tup [PV.sl true true [], PV.bool false])
                            else
                              ∃ (s' : Int),
                                Fits
                                    [((1 : Nat), LV.pv (PV.sl n3 f3 gs)), ((2 : Nat), LV.box ((0 : Nat)) ((0 : Nat))),
                                      ((6 : Nat),
                                        LV.pv (PV.int IntKind.i64 (IntKind.i64.wrap (at0 + (↑es.length : Int))))),
                                      ((7 : Nat), LV.pv (PV.int IntKind.i64 s)),
                                      ((8 : Nat), LV.pv (PV.int IntKind.i32 n)), ((30 : Nat), LV.pv (PV.sl n1 f1 es)),
                                      ((31 : Nat), LV.pv (PV.int IntKind.i64 (↑es.length : Int))),
                                      ((32 : Nat), LV.pv (PV.int IntKind.i64 (IntKind.i64.wrap (s + (1 : Int))))),
                                      ((33 : Nat), LV.pv (PV.bool (decide (s < (↑es.length : Int))))),
                                      ((45 : Nat), LV.pv (PV.bool (n_1 != n)))]
                                    [Ob.box
                                        [LV.pv (PV.int IntKind.i64 at0), LV.pv (PV.sl n1 f1 es),
                                          LV.pv (PV.sl n2 f2 fs)]]
                                    [((1 : Nat), LV.pv (PV.sl n3 f3 gs)), ((2 : Nat), LV.box ((0 : Nat)) ((0 : Nat))),
                                      ((6 : Nat),
                                        LV.pv (PV.int IntKind.i64 (IntKind.i64.wrap (at0 + (↑es.length : Int))))),
                                      ((30 : Nat), LV.pv (PV.sl n1 f1 es)),
                                      ((31 : Nat), LV.pv (PV.int IntKind.i64 (↑es.length : Int))),
                                      ((32 : Nat), LV.pv (PV.int IntKind.i64 s'))]
                                    [Ob.box
                                        [LV.pv (PV.int IntKind.i64 at0), LV.pv (PV.sl n1 f1 es),
                                          LV.pv (PV.sl n2 f2 fs)]] ∧
                                  J s' ∧ μ s' < μ s
              else
                (slOK gs.length none (some at0) none ∧ szOK gs ((1 : Nat))) ∧
                  ApOK true [] (List.drop ((0 : Nat)) (List.take at0.toNat gs)) ((1 : Nat)) ((4 : Nat)) ∧
                    (szOK fs ((1 : Nat)) ∧
                        (([] ++ List.drop ((0 : Nat)) (List.take at0.toNat gs)).length + fs.length) * (4 : Nat) ≤
                          (140737488355328 : Nat)) ∧
                      (slOK gs.length (some (IntKind.i64.wrap (at0 + (↑es.length : Int)))) none none ∧
                          szOK gs ((1 : Nat))) ∧
                        (szOK
                              (List.drop (IntKind.i64.wrap (at0 + (↑es.length : Int))).toNat
                                (List.take (↑gs.length : Int).toNat gs))
                              ((1 : Nat)) ∧
                            (([] ++ List.drop ((0 : Nat)) (List.take at0.toNat gs) ++ fs).length +
                                  (List.drop (IntKind.i64.wrap (at0 + (↑es.length : Int))).toNat
                                      (List.take (↑gs.length : Int).toNat gs)).length) *
                                (4 : Nat) ≤
                              (140737488355328 : Nat)) ∧
                          R
                            (PV.tup
                              [PV.sl
                                  ((List.drop ((0 : Nat)) (List.take at0.toNat gs)).isEmpty && fs.isEmpty &&
                                    (List.drop (IntKind.i64.wrap (at0 + (↑es.length : Int))).toNat
                                        (List.take (↑gs.length : Int).toNat gs)).isEmpty)
                                  false
                                  ([] ++ List.drop ((0 : Nat)) (List.take at0.toNat gs) ++ fs ++
                                    List.drop (IntKind.i64.wrap (at0 + (↑es.length : Int))).toNat
                                      (List.take (↑gs.length : Int).toNat gs)),
                                PV.bool true])
theorem e_a16 (at0 : Int) (n1 f1 : Bool) (es : List (List PV)) (n2 f2 : Bool) (fs : List (List PV)) (n3 f3 : Bool) (gs : List (List PV)) (J : Int → Prop) (μ : Int → Nat) (R : PV → Prop) : aFn Try.prog Try.f16 [0, 1, 2, 4, 5, 6, 7, 8, 9, 28, 30, 31, 32, 33, 45] (fun k => match k with | 5 => some ⟨Int, fun i => ([(1, .pv (.sl n3 f3 gs)), (2, .box 0 0), (6, .pv (.int .i64 (IntKind.i64.wrap (at0 + es.length)))), (30, .pv (.sl n1 f1 es)), (31, .pv (.int .i64 es.length)), (32, .pv (.int .i64 i))], [.box [.pv (.int .i64 at0), .pv (.sl n1 f1 es), .pv (.sl n2 f2 fs)]]), J, μ⟩ | _ => none) (Try.f16.body.getD .skip) [.agg [.int .i64 at0, .sl n1 f1 es, .sl n2 f2 fs], .sl n3 f3 gs] R = r_a16 at0 n1 f1 es n2 f2 fs n3 f3 gs J μ R := by kernel_rfl
theorem a16 (at0 : Int) (n1 f1 : Bool) (es : List (List PV)) (n2 f2 : Bool) (fs : List (List PV)) (n3 f3 : Bool) (gs : List (List PV)) (J : Int → Prop) (μ : Int → Nat) {R : PV → Prop} (h : r_a16 at0 n1 f1 es n2 f2 fs n3 f3 gs J μ R) : PCall Try.prog 16 [.agg [.int .i64 at0, .sl n1 f1 es, .sl n2 f2 fs], .sl n3 f3 gs] R :=
  PCall.of Try.func16 (by kernel_rfl) (by kernel_rfl) (Nat.le_of_ble_eq_true (by kernel_rfl)) (Eq.mpr (e_a16 at0 n1 f1 es n2 f2 fs n3 f3 gs J μ R) h)

end Go.Eng
set_option linter.unusedVariables false
set_option maxRecDepth 100000
set_option linter.constructorNameAsVariable false
namespace Go.Eng
open Go Go.Proofs
theorem szOK_i32s (l : List Int) : szOK (i32s l) 1 := by
  intro e he
  cases l with
  | nil => simp [i32s] at he
  | cons a r => simp [i32s] at he; subst he; rfl
theorem i32s_append (l m : List Int) : i32s l ++ i32s m = i32s (l ++ m) := by simp [i32s]
theorem i32s_take (l : List Int) (n : Nat) : (i32s l).take n = i32s (l.take n) := by simp [i32s, List.map_take]
theorem i32s_drop (l : List Int) (n : Nat) : (i32s l).drop n = i32s (l.drop n) := by simp [i32s, List.map_drop]
theorem idxOK_i32s {l : List Int} {i : Int} (h0 : 0 ≤ i) (h : i < l.length) : idxOK (i32s l) i 1 := by
  refine ⟨h0, by simpa using h, ?_⟩
  rw [i32s_get (by omega)]; rfl
/-- typebarlaw06.Few -/
theorem p15 (n1 f1 : Bool) (l : List Int) (k : Int) (hk : 0 ≤ k) : PCall Try.prog 15 [.sl n1 f1 (i32s l), .int .i64 k] fun v => ∃ n f, v = .sl n f (i32s (l.take k.toNat)) := by
  refine a15 n1 f1 (i32s l) k ?_
  unfold r_a15
  rw [i32s_length]
  by_cases h : (l.length : Int) > k
  · rw [if_pos (by simpa using h)]
    refine ⟨⟨by unfold slOK; simp; omega, szOK_i32s l⟩, n1, _, by rw [i32s_take]; rfl⟩
  · rw [if_neg (by simpa using h)]
    exact ⟨n1, f1, by rw [List.take_of_length_le (by omega)]⟩
/-- typebarref09.Joined -/
theorem p19 (n1 f1 n2 f2 n3 f3 : Bool) (l m k : List Int) (hl : l.length + m.length + k.length < 1000000) :
    PCall Try.prog 19 [.sl n1 f1 (i32s l), .sl n2 f2 (i32s m), .sl n3 f3 (i32s k)] fun v => ∃ n f, v = .sl n f (i32s (l ++ m ++ k)) := by
  refine a19 n1 f1 (i32s l) n2 f2 (i32s m) n3 f3 (i32s k) ?_
  unfold r_a19
  simp only [List.nil_append, List.length_append, i32s_length, i32s_append]
  exact ⟨⟨rfl, .inl rfl, by intro e he; simp at he, szOK_i32s l, by simp; omega⟩, ⟨szOK_i32s m, by omega⟩, ⟨szOK_i32s k, by omega⟩, _, _, rfl⟩
theorem p17 (a1 a2 b1 b2 : Bool) (l m : List Int) (hl : l.length < 1000000) : PCall Try.prog 17 [.sl a1 a2 (i32s l), .sl b1 b2 (i32s m)] fun v => v = .bool (decide (l = m)) := by
  refine a17 a1 a2 (i32s l) b1 b2 (i32s m) (fun i => 0 ≤ i ∧ i ≤ l.length ∧ l.length = m.length ∧ ∀ j : Nat, j < i → l.getD j 0 = m.getD j 0) (fun i => (l.length - i).toNat) ?_
  unfold r_a17
  simp only [i32s_length]
  by_cases hlen : l.length = m.length
  · rw [if_neg (by simp [hlen])]
    refine ⟨0, ⟨[], [], [0, 1, 5], rfl, rfl, rfl⟩, ⟨Int.le_refl _, by omega, hlen, fun j hj => by omega⟩, fun s ⟨h0, h1, _, h3⟩ => ?_⟩
    by_cases hs : s < l.length
    · rw [if_pos (by simpa using hs)]
      refine ⟨idxOK_i32s h0 hs, l.getD s.toNat 0, by rw [i32s_get (by omega)]; rfl, idxOK_i32s h0 (by omega), m.getD s.toNat 0, by rw [i32s_get (by omega)]; rfl, ?_⟩
      by_cases he : l.getD s.toNat 0 = m.getD s.toNat 0
      · rw [if_neg (by simp only [he]; simp)]
        refine ⟨_, ⟨[], [], [0, 1, 5], rfl, rfl, rfl⟩, ?_⟩
        rw [wrap_i64 (by omega) (by omega)]
        refine ⟨⟨by omega, by omega, hlen, fun j hj => ?_⟩, by omega⟩
        by_cases hj' : (j : Int) < s
        · exact h3 j hj'
        · have : j = s.toNat := by omega
          subst this; exact he
      · rw [if_pos (by simpa using he)]
        have : l ≠ m := fun e => he (by rw [e])
        simp [this]
    · rw [if_neg (by simpa using hs)]
      have : l = m := List.ext_getElem hlen fun j hj hj' => by
        have := h3 j (by omega)
        simpa [List.getD, hj, hj'] using this
      simp [this]
  · rw [if_pos (by simpa using fun h => hlen (by omega))]
    have : l ≠ m := fun e => hlen (by rw [e])
    simp [this]
end Go.Eng
set_option linter.unusedVariables false
set_option maxRecDepth 100000
set_option linter.constructorNameAsVariable false
namespace Go.Eng
open Go Go.Proofs
def doB (a : Int) (l t : List Int) : Bool := decide (0 ≤ a ∧ a + l.length ≤ t.length ∧ ∀ j : Nat, j < l.length → t.getD (a.toNat + j) 0 = l.getD j 0)
/-- (typebar/shift.Edit).Do -/
theorem p16 (a : Int) (n1 f1 n2 f2 n3 f3 : Bool) (l m t : List Int) (ha : -9223372036854775808 ≤ a ∧ a ≤ 9223372036854775807) (hl : l.length < 1000000) (hm : m.length < 1000000) (ht : t.length < 1000000) :
    PCall Try.prog 16 [.agg [.int .i64 a, .sl n1 f1 (i32s l), .sl n2 f2 (i32s m)], .sl n3 f3 (i32s t)] fun v =>
      ∃ n f, v = .tup [.sl n f (i32s (if doB a l t = true then t.take a.toNat ++ m ++ t.drop (a.toNat + l.length) else [])), .bool (doB a l t)] := by
  refine a16 a n1 f1 (i32s l) n2 f2 (i32s m) n3 f3 (i32s t) (fun i => 0 ≤ i ∧ i ≤ l.length ∧ ∀ j : Nat, j < i → t.getD (a.toNat + j) 0 = l.getD j 0) (fun i => (l.length - i).toNat) ?_
  unfold r_a16
  simp only [i32s_length]
  by_cases hc : 0 ≤ a ∧ a + l.length ≤ t.length
  · have hw : IntKind.i64.wrap (a + l.length) = a + l.length := wrap_i64 (by omega) (by omega)
    rw [hw, if_neg (by simp; omega)]
    refine ⟨0, ⟨[], [0], [1, 2, 6, 30, 31, 32], rfl, rfl, rfl⟩, ⟨Int.le_refl _, by omega, fun j hj => by omega⟩, fun s ⟨h0, h1, h3⟩ => ?_⟩
    by_cases hs : s < l.length
    · rw [if_pos (by simpa using hs)]
      have hw2 : IntKind.i64.wrap (a + s) = a + s := wrap_i64 (by omega) (by omega)
      refine ⟨idxOK_i32s h0 hs, l.getD s.toNat 0, by rw [i32s_get (by omega)]; rfl, ?_⟩
      rw [hw2]
      refine ⟨idxOK_i32s (by omega) (by omega), t.getD (a + s).toNat 0, by rw [i32s_get (by omega)]; rfl, ?_⟩
      have hn : (a + s).toNat = a.toNat + s.toNat := by omega
      by_cases he : t.getD (a + s).toNat 0 = l.getD s.toNat 0
      · rw [if_neg (by simp only [he]; simp)]
        refine ⟨_, ⟨[], [0], [1, 2, 6, 30, 31, 32], rfl, rfl, rfl⟩, ?_⟩
        rw [wrap_i64 (n := s + 1) (by omega) (by omega)]
        refine ⟨⟨by omega, by omega, fun j hj => ?_⟩, by omega⟩
        by_cases hj' : (j : Int) < s
        · exact h3 j hj'
        · have : j = s.toNat := by omega
          subst this; rw [← hn]; exact he
      · rw [if_pos (by simpa using he)]
        have hd : doB a l t = false := by
          unfold doB
          rw [decide_eq_false_iff_not]
          exact fun ⟨_, _, h⟩ => he (by rw [hn]; exact h s.toNat (by omega))
        exact ⟨true, true, by rw [hd]; rfl⟩
    · rw [if_neg (by simpa using hs)]
      have hd : doB a l t = true := by
        unfold doB
        rw [decide_eq_true_eq]
        exact ⟨hc.1, hc.2, fun j hj => h3 j (by omega)⟩
      simp only [List.nil_append, i32s_take, i32s_drop, List.drop_zero, List.length_append, i32s_length, i32s_append]
      refine ⟨⟨by unfold slOK; simp; omega, szOK_i32s t⟩, ⟨rfl, .inl rfl, by intro e he; simp at he, szOK_i32s _, by simp; omega⟩, ⟨szOK_i32s m, by simp; omega⟩, ⟨by unfold slOK; simp; omega, szOK_i32s t⟩, ⟨szOK_i32s _, by simp; omega⟩, ?_⟩
      rw [hd, if_pos rfl]
      rw [show (a + (l.length : Int)).toNat = a.toNat + l.length by omega, show ((t.length : Int)).toNat = t.length by omega, List.take_length]
      exact ⟨_, _, rfl⟩
  · have hd : doB a l t = false := by
      unfold doB
      rw [decide_eq_false_iff_not]
      exact fun ⟨q1, q2, _⟩ => hc ⟨q1, q2⟩
    have : (decide (a < 0) || decide (IntKind.i64.wrap (a + l.length) < 0) || decide (IntKind.i64.wrap (a + l.length) > t.length)) = true := by
      by_cases h0 : a < 0
      · simp [h0]
      · by_cases hov : a + l.length ≤ 9223372036854775807
        · rw [wrap_i64 (by omega) hov]; simp; omega
        · have : IntKind.i64.wrap (a + l.length) < 0 := by
            unfold IntKind.wrap
            simp only [IntKind.bits, IntKind.signed, Bool.true_and, decide_eq_true_eq, show (2:Int)^(64-1) = 9223372036854775808 from rfl, show (2:Int)^64 = 18446744073709551616 from rfl]
            split <;> omega
          simp [this]
    rw [if_pos this]
    exact ⟨true, true, by rw [hd]; rfl⟩
end Go.Eng
set_option linter.unusedVariables false
set_option maxRecDepth 100000
set_option linter.constructorNameAsVariable false
namespace Go.Eng
open Go Go.Proofs
def r_a54 (n1 f1 : Bool) (xs : List (List PV)) (n2 f2 : Bool) (ys : List (List PV)) (a b c : Int) (R : PV → Prop) : Prop :=

  (slOK xs.length (some a) (some b) none ∧ szOK xs ((1 : Nat))) ∧
    (slOK ys.length (some a) (some c) none ∧ szOK ys ((1 : Nat))) ∧
      ApOK true [] (List.drop a.toNat (List.take b.toNat xs)) ((1 : Nat)) ((4 : Nat)) ∧
        ApOK true [] (List.drop a.toNat (List.take c.toNat ys)) ((1 : Nat)) ((4 : Nat)) ∧
          R
            (PV.agg
              [PV.int IntKind.i64 a,
                PV.sl (List.drop a.toNat (List.take b.toNat xs)).isEmpty false
                  ([] ++ List.drop a.toNat (List.take b.toNat xs)),
                PV.sl (List.drop a.toNat (List.take c.toNat ys)).isEmpty false
                  ([] ++ List.drop a.toNat (List.take c.toNat ys))])
theorem e_a54 (n1 f1 : Bool) (xs : List (List PV)) (n2 f2 : Bool) (ys : List (List PV)) (a b c : Int) (R : PV → Prop) : aFn Try.prog Try.f54 [0, 1, 2, 5, 6] (fun _ => none) (Try.f54.body.getD .skip) [.sl n1 f1 xs, .sl n2 f2 ys, .agg [.int .i64 a, .int .i64 b, .int .i64 c]] R = r_a54 n1 f1 xs n2 f2 ys a b c R := by kernel_rfl
theorem a54 (n1 f1 : Bool) (xs : List (List PV)) (n2 f2 : Bool) (ys : List (List PV)) (a b c : Int) {R : PV → Prop} (h : r_a54 n1 f1 xs n2 f2 ys a b c R) : PCall Try.prog 54 [.sl n1 f1 xs, .sl n2 f2 ys, .agg [.int .i64 a, .int .i64 b, .int .i64 c]] R :=
  PCall.of Try.func54 (by kernel_rfl) (by kernel_rfl) (Nat.le_of_ble_eq_true (by kernel_rfl)) (Eq.mpr (e_a54 n1 f1 xs n2 f2 ys a b c R) h)

def r_a55 (a b c : Int) (x : Int) (R : PV → Prop) : Prop :=

  if decide (x ≤ a) = true then R (PV.int IntKind.i64 x)
  else
    if decide (x ≥ b) = true then R (PV.int IntKind.i64 (IntKind.i64.wrap (IntKind.i64.wrap (x - b) + c)))
    else R (PV.int IntKind.i64 a)
theorem e_a55 (a b c : Int) (x : Int) (R : PV → Prop) : aFn Try.prog Try.f55 [0, 1, 2, 4, 5, 11] (fun _ => none) (Try.f55.body.getD .skip) [.agg [.int .i64 a, .int .i64 b, .int .i64 c], .int .i64 x] R = r_a55 a b c x R := by kernel_rfl
theorem a55 (a b c : Int) (x : Int) {R : PV → Prop} (h : r_a55 a b c x R) : PCall Try.prog 55 [.agg [.int .i64 a, .int .i64 b, .int .i64 c], .int .i64 x] R :=
  PCall.of Try.func55 (by kernel_rfl) (by kernel_rfl) (Nat.le_of_ble_eq_true (by kernel_rfl)) (Eq.mpr (e_a55 a b c x R) h)

def r_a18  (R : PV → Prop) : Prop :=

  PCall Try.prog ((54 : Nat))
    [PV.sl false true
        [[PV.int IntKind.i32 (97 : Int)], [PV.int IntKind.i32 (98 : Int)], [PV.int IntKind.i32 (99 : Int)],
          [PV.int IntKind.i32 (100 : Int)]],
      PV.sl false true
        [[PV.int IntKind.i32 (97 : Int)], [PV.int IntKind.i32 (88 : Int)], [PV.int IntKind.i32 (100 : Int)]],
      PV.agg [PV.int IntKind.i64 (1 : Int), PV.int IntKind.i64 (3 : Int), PV.int IntKind.i64 (2 : Int)]]
    fun (v : PV) ↦
    ∃ (cs : List PV),
      v = PV.agg cs ∧
        cs.length = (3 : Nat) ∧
          ∃ (n : Int),
            cs.head? = some (PV.int IntKind.i64 n) ∧
              ∃ (n_1 : Bool),
                ∃ (f : Bool),
                  ∃ (es : List (List PV)),
                    cs.tail.head? = some (PV.sl n_1 f es) ∧
                      ∃ (n_2 : Bool),
                        ∃ (f_1 : Bool),
                          ∃ (es_1 : List (List PV)),
                            cs.tail.tail.head? = some (PV.sl n_2 f_1 es_1) ∧
                              PCall Try.prog ((16 : Nat))
                                [PV.agg [PV.int IntKind.i64 n, PV.sl n_1 f es, PV.sl n_2 f_1 es_1],
                                  PV.sl false true
                                    [[PV.int IntKind.i32 (97 : Int)], [PV.int IntKind.i32 (98 : Int)],
                                      [PV.int IntKind.i32 (99 : Int)], [PV.int IntKind.i32 (100 : Int)]]]
                                fun (v : PV) ↦
                                ∃ (vs : List PV),
                                  v = PV.tup vs ∧
                                    vs.length = (2 : Nat) ∧
                                      ∃ (x : PV),
                                        vs.head? = some x ∧
                                          ∃ (n : Bool),
                                            ∃ (f : Bool),
                                              ∃ (es : List (List PV)),
                                                x = PV.sl n f es ∧
                                                  ∃ (x : PV),
                                                    vs.tail.head? = some x ∧
                                                      ∃ (b : Bool),
                                                        x = PV.bool b ∧
                                                          PCall Try.prog ((55 : Nat))
                                                            [PV.agg
                                                                [PV.int IntKind.i64 (1 : Int),
                                                                  PV.int IntKind.i64 (3 : Int),
                                                                  PV.int IntKind.i64 (2 : Int)],
                                                              PV.int IntKind.i64 (1 : Int)]
                                                            fun (v : PV) ↦
                                                            ∃ (n_3 : Int),
                                                              v = PV.int IntKind.i64 n_3 ∧
                                                                if (n_3 == (1 : Int)) = true then
                                                                  PCall Try.prog ((55 : Nat))
                                                                    [PV.agg
                                                                        [PV.int IntKind.i64 (1 : Int),
                                                                          PV.int IntKind.i64 (3 : Int),
                                                                          PV.int IntKind.i64 (2 : Int)],
                                                                      PV.int IntKind.i64 (2 : Int)]
                                                                    fun (v : PV) ↦
                                                                    ∃ (n_4 : Int),
                                                                      v = PV.int IntKind.i64 n_4 ∧
                                                                        if (n_4 == (1 : Int)) = true then
                                                                          PCall Try.prog ((55 : Nat))
                                                                            [PV.agg
                                                                                [PV.int IntKind.i64 (1 : Int),
                                                                                  PV.int IntKind.i64 (3 : Int),
                                                                                  PV.int IntKind.i64 (2 : Int)],
                                                                              PV.int IntKind.i64 (3 : Int)]
                                                                            fun (v : PV) ↦
                                                                            ∃ (n_5 : Int),
                                                                              v = PV.int IntKind.i64 n_5 ∧
                                                                                if (n_5 == (2 : Int)) = true then
                                                                                  PCall Try.prog ((55 : Nat))
                                                                                    [PV.agg
                                                                                        [PV.int IntKind.i64 (1 : Int),
                                                                                          PV.int IntKind.i64 (3 : Int),
                                                                                          PV.int IntKind.i64 (2 : Int)],
                                                                                      PV.int IntKind.i64 (4 : Int)]
                                                                                    fun (v : PV) ↦
                                                                                    ∃ (n_6 : Int),
                                                                                      v = PV.int IntKind.i64 n_6 ∧
                                                                                        if
                                                                                            (n_6 == (3 : Int) && b) =
                                                                                              true then
                                                                                          PCall Try.prog ((17 : Nat))
                                                                                            [PV.sl n f es,
                                                                                              PV.sl false true
                                                                                                [[PV.int IntKind.i32
                                                                                                      (97 : Int)],
                                                                                                  [PV.int IntKind.i32
                                                                                                      (88 : Int)],
                                                                                                  [PV.int IntKind.i32
                                                                                                      (100 : Int)]]]
                                                                                            fun (v : PV) ↦
                                                                                            ∃ (b : Bool),
                                                                                              v = PV.bool b ∧
                                                                                                R (PV.bool b)
                                                                                        else R (PV.bool false)
                                                                                else R (PV.bool false)
                                                                        else R (PV.bool false)
                                                                else R (PV.bool false)
theorem e_a18  (R : PV → Prop) : aFn Try.prog Try.f18 [0, 1, 2, 3, 4] (fun _ => none) (Try.f18.body.getD .skip) [] R = r_a18  R := by kernel_rfl
theorem a18  {R : PV → Prop} (h : r_a18  R) : PCall Try.prog 18 [] R :=
  PCall.of Try.func18 (by kernel_rfl) (by kernel_rfl) (Nat.le_of_ble_eq_true (by kernel_rfl)) (Eq.mpr (e_a18  R) h)

def r_a3 (n0 f0 : Bool) (l : List (List PV)) (at0 : Int) (n1 f1 : Bool) (es : List (List PV)) (n2 f2 : Bool) (fs : List (List PV)) (R : PV → Prop) : Prop :=

  PCall Try.prog ((15 : Nat)) [PV.sl n0 f0 l, PV.int IntKind.i64 (80 : Int)] fun (v : PV) ↦
    ∃ (n : Bool),
      ∃ (f : Bool),
        ∃ (es_1 : List (List PV)),
          v = PV.sl n f es_1 ∧
            PCall Try.prog ((15 : Nat)) [PV.sl n1 f1 es, PV.int IntKind.i64 (40 : Int)] fun (v : PV) ↦
              ∃ (n_1 : Bool),
                ∃ (f_1 : Bool),
                  ∃ (es : List (List PV)),
                    v = PV.sl n_1 f_1 es ∧
                      PCall Try.prog ((15 : Nat)) [PV.sl n2 f2 fs, PV.int IntKind.i64 (40 : Int)] fun (v : PV) ↦
                        ∃ (n_2 : Bool),
                          ∃ (f_2 : Bool),
                            ∃ (es_2 : List (List PV)),
                              v = PV.sl n_2 f_2 es_2 ∧
                                PCall Try.prog ((16 : Nat))
                                  [PV.agg [PV.int IntKind.i64 at0, PV.sl n_1 f_1 es, PV.sl n_2 f_2 es_2],
                                    PV.sl n f es_1]
                                  fun (v : PV) ↦
                                  ∃ (vs : List PV),
                                    v = PV.tup vs ∧
                                      vs.length = (2 : Nat) ∧
                                        ∃ (x : PV),
                                          vs.head? = some x ∧
                                            ∃ (n_3 : Bool),
                                              ∃ (f_3 : Bool),
                                                ∃ (es_3 : List (List PV)),
                                                  x = PV.sl n_3 f_3 es_3 ∧
                                                    ∃ (x : PV),
                                                      vs.tail.head? = some x ∧
                                                        ∃ (b : Bool),
                                                          x = PV.bool b ∧
                                                            if decide (at0 < (0 : Int)) = true then
                                                              if (!b && (↑es_3.length : Int) == (0 : Int)) = true then
                                                                PCall Try.prog ((18 : Nat)) [] fun (v : PV) ↦
                                                                  ∃ (b : Bool), v = PV.bool b ∧ R (PV.bool b)
                                                              else R (PV.bool false)
                                                            else
                                                              if
                                                                  decide
                                                                      (at0 >
                                                                        IntKind.i64.wrap
                                                                          ((↑es_1.length : Int) - (↑es.length : Int))) =
                                                                    true then
                                                                if (!b && (↑es_3.length : Int) == (0 : Int)) = true then
                                                                  PCall Try.prog ((18 : Nat)) [] fun (v : PV) ↦
                                                                    ∃ (b : Bool), v = PV.bool b ∧ R (PV.bool b)
                                                                else R (PV.bool false)
                                                              else
                                                                (slOK es_1.length (some at0)
                                                                      (some
                                                                        (IntKind.i64.wrap (at0 + (↑es.length : Int))))
                                                                      none ∧
                                                                    szOK es_1 ((1 : Nat))) ∧
                                                                  PCall Try.prog ((17 : Nat))
                                                                    [PV.sl n
                                                                        (f &&
                                                                          decide
                                                                            (IntKind.i64.wrap
                                                                                (at0 + (↑es.length : Int)) =
                                                                              (↑es_1.length : Int)))
                                                                        (List.drop at0.toNat
                                                                          (List.take
                                                                            (IntKind.i64.wrap
                                                                                (at0 + (↑es.length : Int))).toNat
                                                                            es_1)),
                                                                      PV.sl n_1 f_1 es]
                                                                    fun (v : PV) ↦
                                                                    ∃ (b_1 : Bool),
                                                                      v = PV.bool b_1 ∧
                                                                        if (!b_1) = true then
                                                                          if
                                                                              (!b &&
                                                                                  (↑es_3.length : Int) == (0 : Int)) =
                                                                                true then
                                                                            PCall Try.prog ((18 : Nat)) []
                                                                              fun (v : PV) ↦
                                                                              ∃ (b : Bool),
                                                                                v = PV.bool b ∧ R (PV.bool b)
                                                                          else R (PV.bool false)
                                                                        else
                                                                          if b = true then
                                                                            (slOK es_1.length none (some at0) none ∧
                                                                                szOK es_1 ((1 : Nat))) ∧
                                                                              (slOK es_1.length
                                                                                    (some
                                                                                      (IntKind.i64.wrap
                                                                                        (at0 + (↑es.length : Int))))
                                                                                    none none ∧
                                                                                  szOK es_1 ((1 : Nat))) ∧
                                                                                PCall Try.prog ((19 : Nat))
                                                                                  [PV.sl n
                                                                                      (f &&
                                                                                        decide
                                                                                          (at0 = (↑es_1.length : Int)))
                                                                                      (List.drop ((0 : Nat))
                                                                                        (List.take at0.toNat es_1)),
                                                                                    PV.sl n_2 f_2 es_2,
                                                                                    PV.sl n
                                                                                      (f &&
                                                                                        decide
                                                                                          ((↑es_1.length : Int) =
                                                                                            (↑es_1.length : Int)))
                                                                                      (List.drop
                                                                                        (IntKind.i64.wrap
                                                                                            (at0 +
                                                                                              (↑es.length : Int))).toNat
                                                                                        (List.take
                                                                                          (↑es_1.length : Int).toNat
                                                                                          es_1))]
                                                                                  fun (v : PV) ↦
                                                                                  ∃ (n : Bool),
                                                                                    ∃ (f : Bool),
                                                                                      ∃ (es : List (List PV)),
                                                                                        v = PV.sl n f es ∧
                                                                                          PCall Try.prog ((17 : Nat))
                                                                                            [PV.sl n_3 f_3 es_3,
                                                                                              PV.sl n f es]
                                                                                            fun (v : PV) ↦
                                                                                            ∃ (b : Bool),
                                                                                              v = PV.bool b ∧
                                                                                                if b = true then
                                                                                                  PCall Try.prog
                                                                                                    ((18 : Nat)) []
                                                                                                    fun (v : PV) ↦
                                                                                                    ∃ (b : Bool),
                                                                                                      v = PV.bool b ∧
                                                                                                        R (PV.bool b)
                                                                                                else R (PV.bool false)
                                                                          else R (PV.bool false)
theorem e_a3 (n0 f0 : Bool) (l : List (List PV)) (at0 : Int) (n1 f1 : Bool) (es : List (List PV)) (n2 f2 : Bool) (fs : List (List PV)) (R : PV → Prop) : aFn Try.prog Try.f3 [0, 1, 3, 4, 5, 6, 52] (fun _ => none) (Try.f3.body.getD .skip) [.sl n0 f0 l, .agg [.int .i64 at0, .sl n1 f1 es, .sl n2 f2 fs]] R = r_a3 n0 f0 l at0 n1 f1 es n2 f2 fs R := by kernel_rfl
theorem a3 (n0 f0 : Bool) (l : List (List PV)) (at0 : Int) (n1 f1 : Bool) (es : List (List PV)) (n2 f2 : Bool) (fs : List (List PV)) {R : PV → Prop} (h : r_a3 n0 f0 l at0 n1 f1 es n2 f2 fs R) : PCall Try.prog 3 [.sl n0 f0 l, .agg [.int .i64 at0, .sl n1 f1 es, .sl n2 f2 fs]] R :=
  PCall.of Try.func3 (by kernel_rfl) (by kernel_rfl) (Nat.le_of_ble_eq_true (by kernel_rfl)) (Eq.mpr (e_a3 n0 f0 l at0 n1 f1 es n2 f2 fs R) h)

end Go.Eng
set_option linter.unusedVariables false
set_option maxRecDepth 100000
set_option linter.constructorNameAsVariable false
namespace Go.Eng
open Go Go.Proofs
/-- typebar/shift.Of -/
theorem p54 (n1 f1 n2 f2 : Bool) (l m : List Int) (a b c : Int) (h0 : 0 ≤ a) (h1 : a ≤ b) (h2 : b ≤ l.length) (h3 : a ≤ c) (h4 : c ≤ m.length) (hl : l.length < 1000000) (hm : m.length < 1000000) :
    PCall Try.prog 54 [.sl n1 f1 (i32s l), .sl n2 f2 (i32s m), .agg [.int .i64 a, .int .i64 b, .int .i64 c]] fun v =>
      ∃ n f n' f', v = .agg [.int .i64 a, .sl n f (i32s ((l.take b.toNat).drop a.toNat)), .sl n' f' (i32s ((m.take c.toNat).drop a.toNat))] := by
  refine a54 _ _ _ _ _ _ _ _ _ ?_
  unfold r_a54
  simp only [i32s_length, i32s_take, i32s_drop, List.nil_append]
  exact ⟨⟨by unfold slOK; simp; omega, szOK_i32s _⟩, ⟨by unfold slOK; simp; omega, szOK_i32s _⟩, ⟨rfl, .inl rfl, by intro e he; simp at he, szOK_i32s _, by simp; omega⟩, ⟨rfl, .inl rfl, by intro e he; simp at he, szOK_i32s _, by simp; omega⟩, _, _, _, _, rfl⟩
/-- typebar/shift.Keep -/
def keepS (a b c x : Int) : Int := if x ≤ a then x else if x ≥ b then x - b + c else a
theorem p55 (a b c x : Int) (ha : 0 ≤ a ∧ a < 1000000) (hb : 0 ≤ b ∧ b < 1000000) (hc : 0 ≤ c ∧ c < 1000000) (hx : 0 ≤ x ∧ x < 1000000) : PCall Try.prog 55 [.agg [.int .i64 a, .int .i64 b, .int .i64 c], .int .i64 x] fun v => v = .int .i64 (keepS a b c x) := by
  refine a55 _ _ _ _ ?_
  unfold r_a55 keepS
  simp only [decide_eq_true_eq]
  rw [wrap_i64 (n := x - b) (by omega) (by omega), wrap_i64 (n := x - b + c) (by omega) (by omega)]
  split
  · rfl
  · split <;> rfl
/-- typebar/typebarlaw16.awake -/
theorem p18 : PCall Try.prog 18 [] fun v => v = .bool true := by
  refine a18 ?_
  unfold r_a18
  refine (p54 false true false true [97, 98, 99, 100] [97, 88, 100] 1 3 2 (by decide) (by decide) (by decide) (by decide) (by decide) (by decide) (by decide)).mono ?_
  rintro _ ⟨n, f, n', f', rfl⟩
  refine ⟨_, rfl, rfl, _, rfl, _, _, _, rfl, _, _, _, rfl, ?_⟩
  refine (p16 1 _ _ _ _ _ _ [98, 99] [88] [97, 98, 99, 100] (by decide) (by decide) (by decide) (by decide)).mono ?_
  rintro _ ⟨n, f, rfl⟩
  refine ⟨_, rfl, rfl, _, rfl, _, _, _, rfl, _, rfl, _, rfl, ?_⟩
  refine (p55 1 3 2 1 (by decide) (by decide) (by decide) (by decide)).mono ?_
  rintro _ rfl
  refine ⟨_, rfl, ?_⟩
  rw [if_pos (by decide)]
  refine (p55 1 3 2 2 (by decide) (by decide) (by decide) (by decide)).mono ?_
  rintro _ rfl
  refine ⟨_, rfl, ?_⟩
  rw [if_pos (by decide)]
  refine (p55 1 3 2 3 (by decide) (by decide) (by decide) (by decide)).mono ?_
  rintro _ rfl
  refine ⟨_, rfl, ?_⟩
  rw [if_pos (by decide)]
  refine (p55 1 3 2 4 (by decide) (by decide) (by decide) (by decide)).mono ?_
  rintro _ rfl
  refine ⟨_, rfl, ?_⟩
  rw [if_pos (by decide)]
  have e1 : doB 1 [98, 99] [97, 98, 99, 100] = true := by decide
  rw [e1]
  refine (p17 _ _ _ _ [97, 88, 100] [97, 88, 100] (by decide)).mono ?_
  rintro _ rfl
  exact ⟨_, rfl, rfl⟩
theorem few_len (l : List Int) (k : Nat) : (l.take k).length ≤ k := by simp; omega
theorem getD_lt {l : List Int} {i : Nat} (h : i < l.length) : l.getD i 0 = l[i] := by simp [List.getD, h]
theorem doB_iff {a : Int} {l t : List Int} : doB a l t = true ↔ 0 ≤ a ∧ a + l.length ≤ t.length ∧ (t.take (a.toNat + l.length)).drop a.toNat = l := by
  unfold doB
  rw [decide_eq_true_eq]
  refine and_congr_right fun h0 => and_congr_right fun h1 => ⟨fun h => ?_, fun h j hj => ?_⟩
  · refine List.ext_getElem (by simp; omega) fun j hj hj' => ?_
    have := h j hj'
    simp only [List.getElem_drop, List.getElem_take]
    rw [getD_lt (by omega), getD_lt hj'] at this
    exact this
  · have e : ((t.take (a.toNat + l.length)).drop a.toNat).getD j 0 = l.getD j 0 := by rw [h]
    rw [← e, getD_lt (by omega), getD_lt (by simp; omega)]
    simp only [List.getElem_drop, List.getElem_take]
/-- typebar/typebarlaw16.ShiftDoes -/
theorem p3 (n0 f0 n1 f1 n2 f2 : Bool) (l es fs : List Int) (a : Int) (ha : -9223372036854775808 ≤ a ∧ a ≤ 9223372036854775807) :
    PCall Try.prog 3 [.sl n0 f0 (i32s l), .agg [.int .i64 a, .sl n1 f1 (i32s es), .sl n2 f2 (i32s fs)]] fun v => v = .bool true := by
  refine a3 _ _ _ _ _ _ _ _ _ _ ?_
  unfold r_a3
  refine (p15 _ _ l 80 (by decide)).mono ?_
  rintro _ ⟨n, f, rfl⟩
  refine ⟨_, _, _, rfl, ?_⟩
  refine (p15 _ _ es 40 (by decide)).mono ?_
  rintro _ ⟨n', f', rfl⟩
  refine ⟨_, _, _, rfl, ?_⟩
  refine (p15 _ _ fs 40 (by decide)).mono ?_
  rintro _ ⟨n'', f'', rfl⟩
  refine ⟨_, _, _, rfl, ?_⟩
  have hl := few_len l 80
  have hes := few_len es 40
  have hfs := few_len fs 40
  rw [show (80 : Int).toNat = 80 from rfl, show (40 : Int).toNat = 40 from rfl]
  generalize l.take 80 = l at hl ⊢
  generalize es.take 40 = es at hes ⊢
  generalize fs.take 40 = fs at hfs ⊢
  refine (p16 a _ _ _ _ _ _ es fs l ha (by omega) (by omega) (by omega)).mono ?_
  rintro _ ⟨n3, f3, rfl⟩
  refine ⟨_, rfl, rfl, _, rfl, _, _, _, rfl, _, rfl, _, rfl, ?_⟩
  simp only [i32s_length, decide_eq_true_eq]
  have fin : ∀ {b : Bool} {m : List Int}, b = false → m = [] → (if (!b && ((m.length : Nat) : Int) == 0) = true then PCall Try.prog 18 [] fun v => ∃ b, v = .bool b ∧ PV.bool b = .bool true else PV.bool false = .bool true) := fun {b m} h1 h2 => by
    subst h1; subst h2
    rw [if_pos (by decide)]
    exact p18.mono fun _ h => ⟨_, h, rfl⟩
  have no : ¬ (0 ≤ a ∧ a + es.length ≤ l.length) → doB a es l = false := fun h => by
    cases hd : doB a es l with
    | false => rfl
    | true => have := doB_iff.1 hd; exact absurd ⟨this.1, this.2.1⟩ h
  split
  · have hd := no (by omega)
    rw [hd]; exact fin rfl rfl
  · rename_i h0
    rw [wrap_i64 (n := l.length - es.length) (by omega) (by omega)]
    split
    · have hd := no (by omega)
      rw [hd]; exact fin rfl rfl
    · rename_i h1
      rw [wrap_i64 (n := a + es.length) (by omega) (by omega)]
      refine ⟨⟨by unfold slOK; simp; omega, szOK_i32s _⟩, ?_⟩
      simp only [i32s_take, i32s_drop]
      refine (p17 _ _ _ _ _ _ (by simp; omega)).mono ?_
      rintro _ rfl
      refine ⟨_, rfl, ?_⟩
      have e1 : (a + (es.length : Int)).toNat = a.toNat + es.length := by omega
      rw [e1]
      by_cases hs : (l.take (a.toNat + es.length)).drop a.toNat = es
      · have hd : doB a es l = true := doB_iff.2 ⟨by omega, by omega, hs⟩
        simp only [hs, hd, decide_true, Bool.not_true, Bool.false_eq_true, if_false, if_true]
        refine ⟨⟨by unfold slOK; simp; omega, szOK_i32s _⟩, ⟨by unfold slOK; simp; omega, szOK_i32s _⟩, ?_⟩
        refine (p19 _ _ _ _ _ _ _ _ _ (by simp; omega)).mono ?_
        rintro _ ⟨n5, f5, rfl⟩
        refine ⟨_, _, _, rfl, ?_⟩
        refine (p17 _ _ _ _ _ _ (by simp; omega)).mono ?_
        rintro _ rfl
        refine ⟨_, rfl, ?_⟩
        rw [show ((l.length : Int)).toNat = l.length by omega, List.take_length, List.drop_zero, if_pos (by simp)]
        exact p18.mono fun _ h => ⟨_, h, rfl⟩
      · have hd : doB a es l = false := by
          cases hd : doB a es l with
          | false => rfl
          | true => exact absurd (doB_iff.1 hd).2.2 hs
        rw [hd]
        simp only [hs, decide_false, Bool.not_false, if_true]
        exact fin rfl rfl
end Go.Eng
set_option linter.unusedVariables false
set_option linter.unusedSimpArgs false
namespace Go.Eng
open Go Go.RowKit Go.ChangeShapes Go.WideShapes Go.ChangeAt
/-! ### A row: what its arguments are read as, as trees -/
/-- Cells, as trees, by a type. -/
def Typed (P : Program) : Nat → TypeId → List PV → Prop
  | 0, _, _ => False
  | n + 1, t, ps => match P.underlying t with
    | some .bool => ∃ b, ps = [.bool b]
    | some (.int k) => ∃ m, ps = [.int k m] ∧ (Lit.int k m).wf = true
    | some (.slice e) => ∃ nl es, ps = [.sl nl false es] ∧ es.length ≤ maxLen ∧ (nl = true → es = []) ∧ ∀ x ∈ es, Typed P n e x
    | some (.struct fs) => ps.length = P.cellsOf t ∧ ∀ f ∈ fs.toList, Typed P n f.type ((ps.drop f.offset).take (P.cellsOf f.type))
    | _ => False
/-- Fields that lie one behind the other. -/
def okF (P : Program) (ok : TypeId → Bool) (total : Nat) : List Field → Nat → Bool
  | [], off => Nat.beq off total
  | f :: r, off => Nat.beq f.offset off && ok f.type && okF P ok total r (off + P.cellsOf f.type)
/-- The types that are served. -/
def okT (P : Program) : Nat → TypeId → Bool
  | 0, _ => false
  | n + 1, t => match P.underlying t with
    | some .bool => true
    | some (.int _) => true
    | some (.slice e) => Nat.blt 0 (P.cellsOf e) && okT P n e
    | some (.struct fs) => okF P (okT P n) (P.cellsOf t) fs.toList 0
    | _ => false
theorem exList {α : Type} {Q : Nat → α → Prop} : ∀ (n : Nat), (∀ i, i < n → ∃ y, Q i y) → ∃ l : List α, l.length = n ∧ ∀ (i : Nat) y, l[i]? = some y → Q i y
  | 0, _ => ⟨[], rfl, fun i y h => by simp at h⟩
  | n + 1, h => by
    obtain ⟨l, h1, h2⟩ := exList n fun i hi => h i (by omega)
    obtain ⟨y, hy⟩ := h n (by omega)
    refine ⟨l ++ [y], by simp [h1], fun i z hz => ?_⟩
    by_cases hi : i < l.length
    · rw [List.getElem?_append_left hi] at hz; exact h2 i z hz
    · rw [List.getElem?_append_right (by omega)] at hz
      have hz' := (List.getElem?_eq_some_iff.1 hz).1
      have : i - l.length = 0 := by simp at hz'; omega
      rw [this] at hz; simp at hz; subst hz
      rw [show i = n by omega]; exact hy
def CellsRep (w : World) (ps : List PV) (cs : List Value) : Prop := ps.length = cs.length ∧ ∀ (k : Nat) v, ps[k]? = some v → Rep w (fun b => b < w.heap.size) v (cs.getD k undef) ∧ (cs.getD k undef).oneCell' = true
theorem CellsRep.one {w : World} {p : PV} {v : Value} (h : Rep w (fun b => b < w.heap.size) p v) (h1 : v.oneCell' = true) : CellsRep w [p] [v] := by
  refine ⟨rfl, fun k u hk => ?_⟩
  cases k with
  | zero => simp at hk; subst hk; exact ⟨h, h1⟩
  | succ k => simp at hk
theorem CellsRep.app {w : World} {ps qs : List PV} {cs : List Value} {n : Nat} (h1 : CellsRep w ps (cs.take n)) (h2 : CellsRep w qs (cs.drop n)) (hn : n ≤ cs.length) : CellsRep w (ps ++ qs) cs := by
  have l1 := h1.1
  have l2 := h2.1
  simp only [List.length_take, List.length_drop] at l1 l2
  refine ⟨by simp; omega, fun k v hk => ?_⟩
  by_cases hl : k < ps.length
  · rw [List.getElem?_append_left hl] at hk
    have := h1.2 k v hk
    have eg : (cs.take n).getD k undef = cs.getD k undef := by simp only [List.getD]; rw [List.getElem?_take_of_lt (by omega)]
    rwa [eg] at this
  · rw [List.getElem?_append_right (by omega)] at hk
    have := h2.2 _ v hk
    have eg : (cs.drop n).getD (k - ps.length) undef = cs.getD k undef := by simp only [List.getD, List.getElem?_drop]; rw [show n + (k - ps.length) = k by omega]
    rwa [eg] at this
theorem okF_le {P : Program} {ok : TypeId → Bool} {total : Nat} : ∀ {fs : List Field} {off : Nat}, okF P ok total fs off = true → off ≤ total
  | [], off, h => Nat.le_of_eq (Nat.eq_of_beq_eq_true h)
  | f :: r, off, h => by
    simp only [okF, Bool.and_eq_true] at h
    have := okF_le h.2
    omega
theorem fields_rep {H : Type} {P : Program} {w : World} {ok : TypeId → Bool} {r : TypeId → List Value → Option (DataW H × List MemPlace)} {T : TypeId → List PV → Prop}
    (hr : ∀ t, ok t = true → ∀ cs x, r t cs = some x → ∃ ps, T t ps ∧ CellsRep w ps cs) {cs : List Value} {total : Nat} : ∀ (fs : List Field) (off : Nat), okF P ok total fs off = true → cs.length = total →
    (∀ f ∈ fs, ∃ x, r f.type ((cs.drop f.offset).take (P.cellsOf f.type)) = some x) →
    ∃ ps, CellsRep w ps (cs.drop off) ∧ ∀ f ∈ fs, off ≤ f.offset ∧ T f.type ((ps.drop (f.offset - off)).take (P.cellsOf f.type))
  | [], off, h, hl, _ => by
    have := Nat.eq_of_beq_eq_true h
    exact ⟨[], ⟨by simp; omega, fun k v hk => by simp at hk⟩, fun f hf => by simp at hf⟩
  | f :: fs, off, h, hl, hk => by
    have hle := okF_le h
    simp only [okF, Bool.and_eq_true] at h
    have ho := Nat.eq_of_beq_eq_true h.1.1
    have hle2 := okF_le h.2
    obtain ⟨x, hx⟩ := hk f (by simp)
    obtain ⟨ps, h1, h2⟩ := hr _ h.1.2 _ _ hx
    obtain ⟨qs, h3, h4⟩ := fields_rep hr fs _ h.2 hl fun g hg => hk g (by simp [hg])
    rw [ho] at h2
    rw [← List.drop_drop] at h3
    have hpl : ps.length = P.cellsOf f.type := by rw [h2.1]; simp; omega
    refine ⟨ps ++ qs, h2.app h3 (by simp; omega), fun g hg => ?_⟩
    rcases List.mem_cons.1 hg with rfl | hg
    · refine ⟨by omega, ?_⟩
      rw [ho, Nat.sub_self, List.drop_zero, ← hpl, List.take_left']
      · exact h1
      · rfl
    · obtain ⟨g1, g2⟩ := h4 g hg
      refine ⟨by omega, ?_⟩
      rw [List.drop_append, List.drop_of_length_le (by omega), List.nil_append, hpl, show g.offset - off - P.cellsOf f.type = g.offset - (off + P.cellsOf f.type) by omega]
      exact g2
theorem trod_rep {H : Type} {enc : TypeId × Value → H} {P : Program} {w : World} {held : Bool} : ∀ (d : Nat) (t : TypeId), okT P d t = true → ∀ (n : Nat) (cs : List Value) (x : DataW H × List MemPlace),
    DataW.trod enc P w 0 (fun _ => true) held n t cs = some x → ∃ ps, Typed P d t ps ∧ CellsRep w ps cs := by
  intro d
  induction d with
  | zero => intro t ht; cases ht
  | succ d ih =>
    intro t hok n cs x hx
    unfold okT at hok
    unfold Typed
    split at hok
    · rename_i hu
      try simp only [hu]
      obtain ⟨b, rfl, _⟩ := DataW.trod_bool hu hx
      exact ⟨_, ⟨_, rfl⟩, CellsRep.one (.bool _) rfl⟩
    · rename_i k hu
      try simp only [hu]
      obtain ⟨m, rfl, _, hw⟩ := DataW.trod_int hu hx
      exact ⟨_, ⟨_, rfl, hw⟩, CellsRep.one (.int _ _) rfl⟩
    · rename_i e hu
      try simp only [hu]
      simp only [Bool.and_eq_true] at hok
      have hpos : 0 < P.cellsOf e := by simpa using hok.1
      rcases DataW.trod_slice hu hx with ⟨rfl, _⟩ | ⟨a, len, cap, elems, rest, n, rfl, rfl, _, _, hle, hmax, hel, he, hr, _⟩
      · exact ⟨_, ⟨true, [], rfl, Nat.zero_le _, fun _ => rfl, fun x hx => by simp at hx⟩, CellsRep.one (.slnil _) rfl⟩
      · obtain ⟨hrl, hr⟩ := hr rfl
        have key : ∀ i, i < cap → ∃ (q : List PV × List Value), Typed P d e q.1 ∧ CellsRep w q.1 q.2 ∧ w.cells? 0 (a.add (i * P.cellsOf e)) (P.cellsOf e) = some q.2 := fun i hi => by
          have : ∃ z, (w.cells? 0 (a.add (i * P.cellsOf e)) (P.cellsOf e)).bind (DataW.trod enc P w 0 (fun _ => true) held n e) = some z := by
            by_cases hl : i < len
            · exact ⟨elems[i]'(by omega), by rw [he i hl]; simp [hel, hl]⟩
            · have := hr (i - len) (by omega)
              rw [show len + (i - len) = i by omega] at this
              exact ⟨rest[i - len]'(by omega), by rw [this, List.getElem?_eq_getElem]⟩
          obtain ⟨z, hz⟩ := this
          obtain ⟨cs', h1, h2⟩ := Option.bind_eq_some_iff.1 hz
          obtain ⟨ps, h3, h4⟩ := ih e hok.2 n cs' z h2
          exact ⟨(ps, cs'), h3, h4, h1⟩
        obtain ⟨qs, hq1, hq2⟩ := exList cap key
        have hspot : cap ≠ 0 → a.spot = none := fun hc0 => by
          obtain ⟨q, _, _, h3⟩ := key 0 (by omega)
          obtain ⟨_, h4, h5⟩ := World.cells?_some h3
          have := h5 0 hpos
          have hq0 : 0 < q.2.length := by omega
          rw [List.getElem?_eq_getElem hq0] at this
          simp only [Nat.zero_mul] at this
          have ea : (a.add 0).add 0 = a := by simp [Addr.add]
          rw [ea] at this
          unfold World.cell? at this
          split at this
          · split at this
            · cases this
            · rename_i hs; simpa using hs
          · cases this
        refine ⟨_, ⟨false, (qs.take len).map (·.1), rfl, by simp; omega, (fun h => by cases h), fun x hx => ?_⟩, CellsRep.one ?_ rfl⟩
        · obtain ⟨q, hq, rfl⟩ := List.mem_map.1 hx
          obtain ⟨i, hi⟩ := List.mem_iff_getElem?.1 (List.mem_of_mem_take hq)
          exact (hq2 i q hi).1
        · by_cases hc0 : len = 0
          · subst hc0
            simp only [List.take_zero, List.map_nil]
            exact .slz _ _ _ (fun h => by cases h)
          · have hsp := hspot (by omega)
            obtain ⟨b, off, sp⟩ := a
            simp only at hsp
            subst hsp
            have hlen : ((qs.take len).map (·.1)).length = len := by simp; omega
            have get : ∀ (i : Nat) p, ((qs.take len).map (·.1))[i]? = some p → ∃ q, qs[i]? = some q ∧ p = q.1 := fun i p hp => by
              rw [List.getElem?_map, List.getElem?_take] at hp
              split at hp
              · cases hq : qs[i]? with
                | none => rw [hq] at hp; cases hp
                | some q => rw [hq] at hp; cases hp; exact ⟨q, rfl, rfl⟩
              · cases hp
            have cell : ∀ (i : Nat) p (k : Nat) v, ((qs.take len).map (·.1))[i]? = some p → p[k]? = some v → ∃ cv, w.cell? ⟨b, off + i * P.cellsOf e + k, none⟩ = some cv ∧ Rep w (fun b => b < w.heap.size) v cv ∧ cv.oneCell' = true := fun i p k v hp hk => by
              obtain ⟨q, hq, rfl⟩ := get i p hp
              obtain ⟨_, h2, h3⟩ := hq2 i q hq
              obtain ⟨_, h4, h5⟩ := World.cells?_some h3
              have hkl := (List.getElem?_eq_some_iff.1 hk).1
              have hk2 : k < q.2.length := by rw [← h2.1]; exact hkl
              have := h5 k (by omega)
              rw [addr_add, addr_add, List.getElem?_eq_getElem hk2] at this
              refine ⟨_, this, ?_⟩
              have := h2.2 k v hk
              have eg : q.2.getD k undef = q.2[k] := by simp [List.getD, hk2]
              rw [eg] at this; exact this
            have := Rep.sl (w := w) (I := fun b => b < w.heap.size) false ((qs.take len).map (·.1)) b off cap (P.cellsOf e) (fun i k => (w.cell? ⟨b, off + i * P.cellsOf e + k, none⟩).getD undef) (by omega) (fun hf => by cases hf)
              (fun i p hp => by
                obtain ⟨q, hq, rfl⟩ := get i p hp
                obtain ⟨_, h2, h3⟩ := hq2 i q hq
                obtain ⟨_, h4, h5⟩ := World.cells?_some h3
                have := h5 0 hpos
                have hk2 : 0 < q.2.length := by omega
                rw [addr_add, addr_add, List.getElem?_eq_getElem hk2] at this
                have := World.block_lt_of_cell? w _ this
                exact ⟨this, this⟩)
              (fun i p hp => by
                obtain ⟨q, hq, rfl⟩ := get i p hp
                obtain ⟨_, h2, h3⟩ := hq2 i q hq
                obtain ⟨_, h4, h5⟩ := World.cells?_some h3
                rw [h2.1, h4])
              (fun i p k v hp hk => by obtain ⟨cv, c1, _⟩ := cell i p k v hp hk; rw [c1]; rfl)
              (fun i p k v hp hk => by obtain ⟨cv, c1, c2, _⟩ := cell i p k v hp hk; rw [c1]; exact c2)
              (fun i p k v hp hk => by obtain ⟨cv, c1, _, c3⟩ := cell i p k v hp hk; rw [c1]; exact c3)
            rw [hlen] at this
            exact this
    · rename_i fs hu
      try simp only [hu]
      obtain ⟨xs, n, rfl, _, hlen, hxl, hxs⟩ := DataW.trod_struct hu hx
      have key : ∀ f ∈ fs.toList, ∃ x, DataW.trod enc P w 0 (fun _ => true) held n f.type ((cs.drop f.offset).take (P.cellsOf f.type)) = some x := fun f hf => by
        obtain ⟨i, hi⟩ := List.mem_iff_getElem?.1 hf
        have hil := (List.getElem?_eq_some_iff.1 hi).1
        have h1 := hxs i f (by simpa using hi)
        exact ⟨xs[i]'(by simp at hil; omega), by rw [h1, List.getElem?_eq_getElem]⟩
      obtain ⟨ps, h1, h2⟩ := fields_rep (fun t ht cs x hx => ih t ht n cs x hx) fs.toList 0 hok hlen key
      rw [List.drop_zero] at h1
      refine ⟨ps, ⟨by rw [h1.1, hlen], fun f hf => ?_⟩, h1⟩
      have := (h2 f hf).2
      rwa [Nat.sub_zero] at this
    · cases hok
/-- An argument, as a tree, by its type. -/
def TypedV (P : Program) (d : Nat) (t : TypeId) (v : PV) : Prop :=
  match P.underlying t with
  | some (.struct _) => ∃ ps, v = .agg ps ∧ Typed P d t ps
  | _ => Typed P d t [v]
def TypedAll (P : Program) (d : Nat) : List TypeId → List PV → Prop
  | [], ps => ps = []
  | t :: ts, ps => ∃ v r, ps = v :: r ∧ TypedV P d t v ∧ TypedAll P d ts r
theorem arg_rep {H : Type} {enc : TypeId × Value → H} {P : Program} {w : World} {held : Bool} {r : Reach} {base : Nat} {d : Nat} {t : TypeId} (hok : okT P d t = true) {v : Value} (hv : Value.okWide P w r base t v) {x : DataW H} {ps : List MemPlace}
    (h : DataW.Trod enc P w 0 (fun _ => true) held t v x ps) : ∃ pv, TypedV P d t pv ∧ Rep w (fun b => b < w.heap.size) pv v := by
  obtain ⟨n, hn⟩ := h
  obtain ⟨qs, h1, h2⟩ := trod_rep d t hok n _ _ hn
  have one : v.cells.toList = [v] → Typed P d t qs → ∃ pv, Typed P d t [pv] ∧ Rep w (fun b => b < w.heap.size) pv v := fun hc h1 => by
    rw [hc] at h2
    match qs, h2.1 with
    | [q], _ => exact ⟨q, h1, (h2.2 0 q rfl).1⟩
  unfold TypedV
  cases d with
  | zero => cases hok
  | succ d =>
    have hok0 := hok
    unfold okT at hok
    split at hok
    · rename_i hu
      try simp only [hu]
      obtain ⟨b, hb⟩ : ∃ b, v = .bool b := by simp only [Value.okWide, hu, Cell.okWide] at hv; cases v <;> simp_all [Cell.ok]
      exact one (by rw [hb]; rfl) h1
    · rename_i k hu
      try simp only [hu]
      obtain ⟨m, rfl⟩ := okWide_int hu hv
      exact one rfl h1
    · rename_i e hu
      try simp only [hu]
      obtain ⟨a, len, cap, rfl⟩ := okWide_slice hu hv
      exact one rfl h1
    · rename_i fs hu
      try simp only [hu]
      simp only [Value.okWide, hu] at hv
      obtain ⟨cs, rfl, _, _⟩ := hv
      refine ⟨.agg qs, ⟨qs, rfl, h1⟩, .agg qs cs (by have := h2.1; simpa [Value.cells] using this.symm) (fun k u hk => ?_) (fun k u hk => ?_)⟩
      · have := (h2.2 k u hk).1; simpa [Value.cells, List.getD] using this
      · have := (h2.2 k u hk).2; simpa [Value.cells, List.getD] using this
    · cases hok
theorem args_rep {H : Type} {enc : TypeId × Value → H} {P : Program} {w : World} {held : Bool} {r : Reach} {base : Nat} {d : Nat} : ∀ {ts : List TypeId} {vs : List Value} {ds : List (DataW H)} {ps : List MemPlace}, (∀ t ∈ ts, okT P d t = true) →
    (∀ (j : Nat) t v, ts[j]? = some t → vs[j]? = some v → Value.okWide P w r base t v) → DataW.TrodAll enc P w 0 (fun _ => true) held ts vs ds ps →
    ∃ pvs, TypedAll P d ts pvs ∧ pvs.length = vs.length ∧ ds.length = ts.length ∧ ∀ (i : Nat) p, pvs[i]? = some p → Rep w (fun b => b < w.heap.size) p (vs.getD i undef)
  | [], vs, ds, ps, _, _, h => by
    cases vs <;> cases ds <;> simp [DataW.TrodAll] at h
    exact ⟨[], rfl, rfl, rfl, fun i p hi => by simp at hi⟩
  | t :: ts, vs, ds, ps, ht, hv, h => by
    obtain ⟨v, vs', x, ds', p, q, rfl, rfl, rfl, h1, h2⟩ := trodAll_cons h
    obtain ⟨pv, g1, g2⟩ := arg_rep (ht t (by simp)) (hv 0 t v rfl rfl) h1
    obtain ⟨pvs, g3, g4, g5, g6⟩ := args_rep (fun t h => ht t (by simp [h])) (fun j t v h1 h2 => hv (j + 1) t v (by simpa using h1) (by simpa using h2)) h2
    refine ⟨pv :: pvs, ⟨pv, pvs, rfl, g1, g3⟩, by simp [g4], by simp [g5], fun i u hi => ?_⟩
    cases i with
    | zero => simp at hi; subst hi; exact g2
    | succ i => simp at hi; simpa using g6 i u hi
theorem PCall.lawK {P : Program} {f : Nat} {ps : List PV} (hc : PCall P f ps fun v => v = .bool true) {args : Array Value} {w : World} (hn : args.size = ps.length)
    (hr : ∀ (i : Nat) v, ps[i]? = some v → Rep w (fun b => b < w.heap.size) v (args.getD i undef)) :
    Calls P f args w fun e w' => e = .returned (.bool true) ∧ Grown w w' ∧ ∀ b, b < w.heap.size → w'.heap[b]? = w.heap[b]? := by
  refine (hc.2 w (fun b => b < w.heap.size) (fun _ => ⟨0, 0, 0, 0⟩) args (HRel.nil _ fun b hb => hb) (by simpa using hn) (fun i v hi => ?_)).mono fun e w' ⟨cv, r, h', I', G', e1, ⟨v, e2, hq⟩, e3, e4, e5, _⟩ => ?_
  · rw [List.getElem?_map] at hi
    cases hp : ps[i]? with
    | none => rw [hp] at hi; cases hi
    | some p => rw [hp] at hi; cases hi; exact .pv _ _ (hr i p hp)
  · subst e2
    subst hq
    have hno : ∀ b, ¬ Owns [] (fun _ => (⟨0, 0, 0, 0⟩ : Pl)) b := fun b ⟨o, ob, ho, _⟩ => by simp at ho
    have hk : ∀ b, b < w.heap.size → w'.heap[b]? = w.heap[b]? := fun b hb => e5.keep b hb (hno b)
    have := e4.bool_eq
    subst this
    exact ⟨e1, ⟨keptBut_of e5.os e5.output hk, e5.frz, e5.size⟩, hk⟩
theorem trodAll_carry {H : Type} {enc : TypeId × Value → H} {P : Program} {w w' : World} {base : Nat} {spare : Nat → Bool} {held : Bool} : ∀ {ts : List TypeId} {vs : List Value} {ds : List (DataW H)} {ps : List MemPlace}, DataW.TrodAll enc P w base spare held ts vs ds ps →
    (∀ p ∈ ps, w.sameAt w' p) → DataW.TrodAll enc P w' base spare held ts vs ds ps
  | [], [], [], ps, h, _ => h
  | t :: ts, v :: vs, d :: ds, ps, ⟨p, q, ⟨n, h1⟩, h2, e⟩, hs => ⟨p, q, ⟨n, DataW.trod_carry n t _ _ h1 fun x hx => hs x (by rw [e]; exact List.mem_append_left _ hx)⟩, trodAll_carry h2 (fun x hx => hs x (by rw [e]; exact List.mem_append_right _ hx)), e⟩
/-- THE ROW's STEP, for whatever parameters are served. -/
theorem rowStep {C : Checked} {f : FuncId} {fn : Func} {s : ChangeSpec} {apart fresh handsOn again : Bool} {tb : TypeId} {H : Type} {enc : TypeId × Value → H} {d : Nat} (hvars : s.vars = [])
    (hspec : ∀ ds : List (DataW H), ds.length = fn.params.toList.length → s.fn H ds = { results := [.lit (.bool true)], args := ds }) (hres : fn.resultTypes = #[tb]) (htb : C.prog.underlying tb = some .bool)
    (hp : ∀ t ∈ fn.params.toList, okT C.prog d t = true) (hpl : ∀ t ∈ fn.params.toList, t < C.prog.types.size) (hlaid : laidOutB C.prog = true) (hmaps : mapsRowed C.prog = true)
    (hfull : ((List.range C.prog.types.size).all fun t => match C.prog.underlying t with | some (.slice e) => decide (0 < C.prog.cellsOf e) | _ => true) = true)
    (law : ∀ pvs, TypedAll C.prog d fn.params.toList pvs → PCall C.prog f pvs fun v => v = .bool true)
    (W : World) (base : Nat) (args : Array Value) (ds gs : List (DataW H)) (before : List MemPlace) (hval : ∀ (j : Nat) t v, fn.params[j]? = some t → args[j]? = some v → Value.okWide C.prog W .any base t v)
    (hW : DataW.Whole enc C.prog fn.params.toList s.vars apart W args.toList ds gs before) :
    Calls C.prog f args W fun e W' => ∃ v, e = .returned v ∧ s.post enc C.prog fn apart fresh handsOn again W args v W' := by
  have hlt := hW.lt
  have hW0 := hW
  obtain ⟨p, q, hA, hV, rfl, hfz, hnd⟩ := hW
  rw [hvars] at hV
  obtain ⟨rfl, rfl⟩ := trodVars_none hV
  obtain ⟨pvs, h1, h2, h3, h4⟩ := args_rep (d := d) hp (fun j t v g1 g2 => hval j t v (by simpa using g1) (by simpa using g2)) hA
  refine (PCall.lawK (law pvs h1) (by simpa using h2.symm) (fun i v hi => by simpa [List.getD] using h4 i v hi)).mono fun e W' ⟨he, hg, hk⟩ => ?_
  have hz : ∀ t e, t < C.prog.types.size → C.prog.underlying t = some (.slice e) → 0 < C.prog.cellsOf e := slices_full_of _ hfull
  have hsp := hspec ds h3
  have hsame : ∀ x ∈ p, W.sameAt W' x := fun x hx => by
    have := hlt x (by simp [hx])
    cases x with
    | cell b off => exact World.cell?_of_block (w := W) (hk b this)
    | map b => exact hk b this
  refine ⟨_, he, post_of_same (pa := p) (pv := []) hW0 (fun b sp hd => ?_) (fun sp hs => ?_) (fun sp hs => ?_) rfl (hg.frame _) hg.2.1 (ok_one hres rfl (okWide_bool_mk htb _))⟩
  · rw [List.append_nil, hsp, hres]
    exact trodAll_cons_mk (shut_bool htb _) trodAll_mk0
  · rw [List.append_nil, hsp]
    exact trodAll_carry (hA.respare (kids_rows hlaid hmaps) (fun t e h1 h2 => hz t e h1 h2) hpl (fun x hx => hs x (by simp [hx]))) hsame
  · rw [List.append_nil, hsp, hvars]; rfl
def flds (P : Program) (t : TypeId) : Option (List (TypeId × Nat × Nat)) :=
  match P.underlying t with
  | some (.struct fs) => some (fs.toList.map fun f => (f.type, f.offset, P.cellsOf f.type))
  | _ => none
theorem typed_struct {P : Program} {n : Nat} {t : TypeId} {ps : List PV} {l : List (TypeId × Nat × Nat)} (hf : flds P t = some l) (h : Typed P (n + 1) t ps) : ps.length = P.cellsOf t ∧ ∀ q ∈ l, Typed P n q.1 ((ps.drop q.2.1).take q.2.2) := by
  unfold flds at hf
  unfold Typed at h
  split at hf
  · rename_i fs hu
    cases hf
    rw [hu] at h
    refine ⟨h.1, fun q hq => ?_⟩
    obtain ⟨f, hf, rfl⟩ := List.mem_map.1 hq
    exact h.2 f hf
  · cases hf
theorem typed_int {P : Program} {n : Nat} {t : TypeId} {k : IntKind} {ps : List PV} (hu : P.underlying t = some (.int k)) (h : Typed P (n + 1) t ps) : ∃ m, ps = [.int k m] ∧ (Lit.int k m).wf = true := by
  unfold Typed at h; rw [hu] at h; exact h
theorem typed_bool {P : Program} {n : Nat} {t : TypeId} {ps : List PV} (hu : P.underlying t = some .bool) (h : Typed P (n + 1) t ps) : ∃ b, ps = [.bool b] := by
  unfold Typed at h; rw [hu] at h; exact h
theorem typed_slice {P : Program} {n : Nat} {t e : TypeId} {ps : List PV} (hu : P.underlying t = some (.slice e)) (h : Typed P (n + 1) t ps) : ∃ nl es, ps = [.sl nl false es] ∧ es.length ≤ maxLen ∧ (nl = true → es = []) ∧ ∀ x ∈ es, Typed P n e x := by
  unfold Typed at h; rw [hu] at h; exact h
theorem map_of_all {α β : Type} {f : α → β} {Q : α → Prop} : ∀ {l : List β}, (∀ x ∈ l, ∃ y, x = f y ∧ Q y) → ∃ m : List α, l = m.map f ∧ ∀ y ∈ m, Q y
  | [], _ => ⟨[], rfl, fun y hy => by simp at hy⟩
  | x :: r, h => by
    obtain ⟨y, rfl, hq⟩ := h x (by simp)
    obtain ⟨m, rfl, hm⟩ := map_of_all (l := r) fun z hz => h z (by simp [hz])
    refine ⟨y :: m, rfl, fun z hz => ?_⟩
    rcases List.mem_cons.1 hz with rfl | hz
    · exact hq
    · exact hm z hz
theorem typed_i32s {P : Program} {n : Nat} {t e : TypeId} {ps : List PV} (hu : P.underlying t = some (.slice e)) (he : P.underlying e = some (.int .i32)) (h : Typed P (n + 2) t ps) :
    ∃ nl l, ps = [.sl nl false (i32s l)] ∧ l.length ≤ maxLen ∧ (nl = true → l = []) ∧ ∀ x ∈ l, -2147483648 ≤ x ∧ x ≤ 2147483647 := by
  obtain ⟨nl, es, rfl, h1, h2, h3⟩ := typed_slice hu h
  obtain ⟨m, rfl, hm⟩ := map_of_all (f := fun k => [PV.int .i32 k]) (Q := fun x => (-2147483648 : Int) ≤ x ∧ x ≤ 2147483647) (l := es) fun x hx => by
    obtain ⟨k, rfl, hk⟩ := typed_int he (h3 x hx)
    exact ⟨k, rfl, wf_i32 hk⟩
  exact ⟨nl, m, rfl, by simpa using h1, fun h => by simpa using h2 h, hm⟩
theorem typedV_of {P : Program} {d : Nat} {t : TypeId} {v : PV} (h : TypedV P d t v) : (∃ ps, v = .agg ps ∧ Typed P d t ps) ∨ Typed P d t [v] := by
  unfold TypedV at h
  split at h
  · exact .inl h
  · exact .inr h
theorem typedV_plain {P : Program} {d : Nat} {t : TypeId} {v : PV} (hn : flds P t = none) (h : TypedV P d t v) : Typed P d t [v] := by
  unfold TypedV at h
  unfold flds at hn
  split at h
  · rename_i hu; rw [hu] at hn; cases hn
  · exact h
theorem typedV_struct {P : Program} {d : Nat} {t : TypeId} {v : PV} {l : List (TypeId × Nat × Nat)} (hn : flds P t = some l) (h : TypedV P d t v) : ∃ ps, v = .agg ps ∧ Typed P d t ps := by
  unfold TypedV at h
  unfold flds at hn
  split at h
  · exact h
  · rename_i hu; split at hn
    · rename_i fs hq; exact absurd hq (hu fs)
    · cases hn
end Go.Eng
set_option linter.unusedVariables false
set_option maxRecDepth 100000
set_option linter.constructorNameAsVariable false
namespace Go.Eng
open Go Go.Proofs
theorem law3 {pvs : List PV} (h : TypedAll Try.prog 8 Try.f3.params.toList pvs) : PCall Try.prog 3 pvs fun v => v = .bool true := by
  obtain ⟨v0, r0, rfl, h0, v1, r1, rfl, h1, rfl⟩ : TypedAll Try.prog 8 [22, 24] pvs := h
  have u22 : Try.prog.underlying 22 = some (.slice 21) := by kernel_rfl
  have u21 : Try.prog.underlying 21 = some (.int .i32) := by kernel_rfl
  have u3 : Try.prog.underlying 3 = some (.int .i64) := by kernel_rfl
  obtain ⟨nl, l, e0, _⟩ := typed_i32s u22 u21 (typedV_plain (by kernel_rfl) h0)
  cases e0
  obtain ⟨ps, rfl, h2⟩ := typedV_struct (l := [(3, 0, 1), (22, 1, 1), (22, 2, 1)]) (by kernel_rfl) h1
  obtain ⟨hl, h3⟩ := typed_struct (l := [(3, 0, 1), (22, 1, 1), (22, 2, 1)]) (by kernel_rfl) h2
  have hl : ps.length = 3 := hl.trans (by kernel_rfl)
  match ps, hl with
  | [a, b, c], _ =>
    obtain ⟨m, ea, hm⟩ := typed_int u3 (h3 (3, 0, 1) (by simp))
    obtain ⟨n1, l1, eb, _⟩ := typed_i32s u22 u21 (h3 (22, 1, 1) (by simp))
    obtain ⟨n2, l2, ec, _⟩ := typed_i32s u22 u21 (h3 (22, 2, 1) (by simp))
    simp at ea eb ec
    subst ea; subst eb; subst ec
    exact p3 _ _ _ _ _ _ _ _ _ _ (wf_i64 hm)
end Go.Eng
