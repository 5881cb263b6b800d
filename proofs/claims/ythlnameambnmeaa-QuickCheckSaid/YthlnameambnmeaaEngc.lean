/- Abstract states run over the code; what each function gives, printed by program and checked by the kernel; and what follows of it. -/
import Derived.Test.YthlnameambnmeaaEngb
set_option linter.unusedVariables false
set_option linter.unusedSimpArgs false
namespace Go.Eng
open Go
variable {H : Nat → Option HSpec}
inductive Ex where
  | normal
  | exit (id : Nat)
  | ret
def Ex.to : Ex → Exit
  | .normal => .normal
  | .exit n => .exit n
  | .ret => .ret
abbrev Qt := Ex → Env → Hp → Prop
/-- As 'TrH', of the first n0 objects alone. -/
structure TrN (n0 : Nat) (w : World) (I : Nat → Prop) (G : Nat → Pl) (h : Hp) (w' : World) (I' : Nat → Prop) (G' : Nat → Pl) (h' : Hp) : Prop where
  t : Tr w I (Owns h G) w' I' (Owns h' G')
  len : n0 ≤ h.length → n0 ≤ h'.length
  stay : n0 ≤ h.length → ∀ (o : Nat) ob', o < n0 → h'[o]? = some ob' → ob'.fixed = true → G' o = G o ∧ ∃ ob, h[o]? = some ob ∧ ob.fixed = true
theorem TrH.toN {n0 : Nat} {w w' : World} {I I' : Nat → Prop} {G G' : Nat → Pl} {h h' : Hp} (a : TrH w I G h w' I' G' h') : TrN n0 w I G h w' I' G' h' :=
  ⟨a.t, fun hn => Nat.le_trans hn a.len, fun hn o ob' ho => a.stay o ob' (Nat.lt_of_lt_of_le ho hn)⟩
theorem TrN.refl (n0 : Nat) (w : World) (I : Nat → Prop) (G : Nat → Pl) (h : Hp) : TrN n0 w I G h w I G h := (TrH.refl w I G h).toN
theorem TrN.trans {n0 : Nat} {w w1 w2 : World} {I I1 I2 : Nat → Prop} {G G1 G2 : Nat → Pl} {h h1 h2 : Hp} (a : TrN n0 w I G h w1 I1 G1 h1) (b : TrN n0 w1 I1 G1 h1 w2 I2 G2 h2) : TrN n0 w I G h w2 I2 G2 h2 :=
  ⟨a.t.trans b.t, fun hn => b.len (a.len hn), fun hn o ob' ho hx hf => by
    obtain ⟨e1, ob1, q1, q2⟩ := b.stay (a.len hn) o ob' ho hx hf
    obtain ⟨e2, ob2, r1, r2⟩ := a.stay hn o ob1 ho q1 q2
    exact ⟨e1.trans e2, ob2, r1, r2⟩⟩
/-- What a piece of code must give. -/
def CodeS (P : Program) (n0 : Nat) (N : Nat) (c : Code) (e : Env) (h : Hp) (Q : Qt) : Prop :=
  ∀ (w : World) (I : Nat → Prop) (G : Nat → Pl) (a : Act) (Qx : Exit → Act → World → Prop), SRel w I G e h N a →
    (∀ x e' h' w' I' G' a', Q x e' h' → SRel w' I' G' e' h' N a' → a'.defers = a.defers → TrN n0 w I G h w' I' G' h' → Qx x.to a' w') → c.wp P Qx a w

theorem SRel.drew {w : World} {I : Nat → Prop} {G : Nat → Pl} {e : Env} {h : Hp} {N : Nat} {a : Act} (hs : SRel w I G e h N a) : SRel w.drew I G e h N a :=
  ⟨hs.hh.drew, hs.he.mono ⟨fun _ _ _ => rfl, fun _ x _ => x⟩ (.refl _ _), hs.hn⟩

theorem CodeS.skip {P : Program} {n0 : Nat} {N : Nat} {e : Env} {h : Hp} {Q : Qt} (hK : Q .normal e h) : CodeS P n0 N .skip e h Q :=
  fun w I G a Qx hs hq => wp_skip (hq .normal e h w I G a hK hs rfl (.refl _ _ _ _ _))
theorem CodeS.exit {P : Program} {n0 : Nat} {N n : Nat} {e : Env} {h : Hp} {Q : Qt} (hK : Q (.exit n) e h) : CodeS P n0 N (.exit n) e h Q :=
  fun w I G a Qx hs hq => wp_exit (hq (.exit n) e h w I G a hK hs rfl (.refl _ _ _ _ _))
theorem CodeS.ret {P : Program} {n0 : Nat} {N : Nat} {e : Env} {h : Hp} {Q : Qt} (hK : Q .ret e h) : CodeS P n0 N .ret e h Q :=
  fun w I G a Qx hs hq => wp_ret (hq .ret e h w I G a hK hs rfl (.refl _ _ _ _ _))
theorem CodeS.seq {P : Program} {n0 : Nat} {N : Nat} {x y : Code} {e : Env} {h : Hp} {Q : Qt} (hK : CodeS P n0 N x e h fun q e h => match q with | .normal => CodeS P n0 N y e h Q | q => Q q e h) : CodeS P n0 N (.seq x y) e h Q := by
  intro w I G a Qx hs hq
  refine wp_seq (hK w I G a _ hs fun q e' h' w' I' G' a' hk hs' hd ht => ?_)
  cases q with
  | normal => exact hk w' I' G' a' Qx hs' fun q2 e2 h2 w2 I2 G2 a2 hk2 hs2 hd2 ht2 => hq q2 e2 h2 w2 I2 G2 a2 hk2 hs2 (hd2.trans hd) (ht.trans ht2)
  | exit n => exact hq (.exit n) e' h' w' I' G' a' hk hs' hd ht
  | ret => exact hq .ret e' h' w' I' G' a' hk hs' hd ht
theorem CodeS.cond {P : Program} {n0 : Nat} {N : Nat} {c : Operand} {x y : Code} {e : Env} {h : Hp} {Q : Qt} {t : Bool} (hc : opv [] e c = some (.pv (.bool t))) (hK : if t = true then CodeS P n0 N x e h Q else CodeS P n0 N y e h Q) : CodeS P n0 N (.cond c x y) e h Q := by
  intro w I G a Qx hs hq
  refine wp_cond (opv_ok hs.he (AOK.nil _) hc).bool_eq ?_
  cases t with
  | true => simp only [if_true] at hK ⊢; exact hK w I G a Qx hs hq
  | false => simp only [Bool.false_eq_true, if_false] at hK ⊢; exact hK w I G a Qx hs hq
theorem CodeS.block {P : Program} {n0 : Nat} {N id : Nat} {c : Code} {e : Env} {h : Hp} {Q : Qt}
    (hK : CodeS P n0 N c e h fun q e h => match q with | .exit n => (bif Nat.beq n id then Q .normal e h else Q (.exit n) e h) | q => Q q e h) : CodeS P n0 N (.block id c) e h Q := by
  intro w I G a Qx hs hq
  refine wp_block (hK w I G a _ hs fun q e' h' w' I' G' a' hk hs' hd ht => ?_)
  cases q with
  | normal => exact hq .normal e' h' w' I' G' a' hk hs' hd ht
  | ret => exact hq .ret e' h' w' I' G' a' hk hs' hd ht
  | exit n =>
    simp only [Ex.to, Exit.inBlock]
    cases hb : Nat.beq n id with
    | true =>
      simp only [hb, cond_true] at hk
      rw [if_pos (Nat.eq_of_beq_eq_true hb)]
      exact hq .normal e' h' w' I' G' a' hk hs' hd ht
    | false =>
      simp only [hb, cond_false] at hk
      rw [if_neg (fun e => by subst e; simp at hb)]
      exact hq (.exit n) e' h' w' I' G' a' hk hs' hd ht
theorem CodeS.mono {P : Program} {n0 : Nat} {N : Nat} {c : Code} {e : Env} {h : Hp} {Q Q' : Qt} (hK : CodeS P n0 N c e h Q) (hq : ∀ x e h, Q x e h → Q' x e h) : CodeS P n0 N c e h Q' :=
  fun w I G a Qx hs hq' => hK w I G a Qx hs fun x e' h' w' I' G' a' hk => hq' x e' h' w' I' G' a' (hq _ _ _ hk)

/-- Nil slices in these slots become objects of their own. -/
def adopt : List (Nat × Nat × Nat) → Env → Hp → Env × Hp
  | [], e, h => (e, h)
  | (i, ty) :: r, e, h => bif Nat.ble 1000000 i then
      (match h[(i - 1000000) / 1000]? with
        | some (.box cs) => match cs[(i - 1000000) % 1000]? with
          | some (.pv (.sl true _ [])) => adopt r e ((h ++ [Ob.sl ty false true []]).set ((i - 1000000) / 1000) (Ob.box (cs.set ((i - 1000000) % 1000) (.own h.length))))
          | _ => adopt r e h
        | _ => adopt r e h)
    else match get e i with
    | some (.pv (.sl true _ [])) => adopt r ((i, .own h.length) :: e) (h ++ [.sl ty false true []])
    | _ => adopt r e h
theorem SRel.adopt {w : World} {I : Nat → Prop} {N : Nat} {a : Act} : ∀ {ad : List (Nat × Nat × Nat)} {e : Env} {h : Hp} {G : Nat → Pl}, SRel w I G e h N a →
    ∃ G', SRel w I G' (adopt ad e h).1 (adopt ad e h).2 N a ∧ (∀ b, Owns (Eng.adopt ad e h).2 G' b → Owns h G b) ∧ ∀ o, o < h.length → G' o = G o ∧ ((Eng.adopt ad e h).2[o]? = h[o]? ∨ ∃ cs cs', h[o]? = some (.box cs) ∧ (Eng.adopt ad e h).2[o]? = some (.box cs'))
  | [], e, h, G, hs => ⟨G, hs, fun b hb => hb, fun o _ => ⟨rfl, .inl rfl⟩⟩
  | (i, ty) :: r, e, h, G, hs => by
    unfold Eng.adopt
    cases hbig : Nat.ble 1000000 i with
    | true =>
      simp only [cond_true]
      split
      · rename_i cs hob
        split
        · rename_i f hg
          generalize (i - 1000000) / 1000 = o at *
          generalize (i - 1000000) % 1000 = q at *
          have hol : o < h.length := (List.getElem?_eq_some_iff.1 hob).1
          have hql : q < cs.length := (List.getElem?_eq_some_iff.1 hg).1
          have hp : ¬ (Ob.sl ty false true []).alive ⟨0, 0, 0, 0⟩ := fun x => by cases x.1
          have hh' := hs.hh.add (.sl ty false true []) ⟨0, 0, 0, 0⟩ hp rfl
          have hob' : (h ++ [Ob.sl ty false true []])[o]? = some (.box cs) := by rw [List.getElem?_append_left hol]; exact hob
          obtain ⟨vs, ty', e1, e2, e3⟩ := hh'.obs o _ hob'
          have hL : Like (addPl G h.length ⟨0, 0, 0, 0⟩) (addPl G h.length ⟨0, 0, 0, 0⟩) (h ++ [.sl ty false true []]) ((h ++ [Ob.sl ty false true []]).set o (Ob.box (cs.set q (.own h.length)))) := Like.set hob' trivial
          have hK := Keeps.refl w I
          have hh2 := hh'.upd (w' := w) (ob' := .box (cs.set q (.own h.length))) hob' trivial (fun _ _ => rfl) (Nat.le_refl _) trivial ⟨vs, ty', e1, by simpa using e2, fun k v hk => by
            rw [List.getElem?_set] at hk
            by_cases hqk : q = k
            · subst hqk
              rw [if_pos rfl, if_pos hql] at hk
              cases hk
              obtain ⟨r1, r2⟩ := e3 q _ hg
              have hv : ∀ cv, LRel w I (addPl G h.length ⟨0, 0, 0, 0⟩) (h ++ [.sl ty false true []]) (.pv (.sl true f [])) cv → cv = .slice none 0 0 := fun cv r => by
                cases r with
                | pv _ _ h1 => cases h1 with
                  | slnil => rfl
              rw [hv _ r1]
              exact ⟨LRel.ownNil h.length ty false [] (by rw [List.getElem?_set_ne (Nat.ne_of_lt hol)]; simp), rfl⟩
            · rw [if_neg hqk] at hk
              exact ⟨(e3 k v hk).1.mono hK hL, (e3 k v hk).2⟩⟩
          have hs' : SRel w I (addPl G h.length ⟨0, 0, 0, 0⟩) e ((h ++ [Ob.sl ty false true []]).set o (Ob.box (cs.set q (.own h.length)))) N a :=
            ⟨hh2, (hs.he.mono (Keeps.refl w I) (Like.push G h ⟨0, 0, 0, 0⟩ (.sl ty false true []))).mono hK hL, hs.hn⟩
          obtain ⟨G', g1, g2, g3⟩ := SRel.adopt (ad := r) hs'
          refine ⟨G', g1, fun b hb => ?_, fun o2 ho2 => ?_⟩
          · obtain ⟨o2, ob, h1, h2, h3⟩ := g2 b hb
            by_cases hoo : o2 = o
            · subst hoo
              refine ⟨o2, _, hob, trivial, ?_⟩
              have e1 : addPl G h.length ⟨0, 0, 0, 0⟩ o2 = G o2 := by simp [addPl, Nat.ne_of_lt hol]
              rw [e1] at h3; exact h3
            · rw [List.getElem?_set_ne (Ne.symm hoo)] at h1
              rcases Nat.lt_trichotomy o2 h.length with ho | ho | ho
              · rw [List.getElem?_append_left ho] at h1
                have e1 : addPl G h.length ⟨0, 0, 0, 0⟩ o2 = G o2 := by simp [addPl, Nat.ne_of_lt ho]
                rw [e1] at h2 h3
                exact ⟨o2, ob, h1, h2, h3⟩
              · subst ho; simp at h1; subst h1; cases h2.1
              · rw [List.getElem?_eq_none (by simp; omega)] at h1; cases h1
          · obtain ⟨q1, q2⟩ := g3 o2 (by simp; omega)
            refine ⟨q1.trans (by simp [addPl, Nat.ne_of_lt ho2]), ?_⟩
            by_cases hoo : o2 = o
            · subst hoo
              have h5 : ((h ++ [Ob.sl ty false true []]).set o2 (Ob.box (cs.set q (.own h.length))))[o2]? = some (.box (cs.set q (.own h.length))) := by
                rw [List.getElem?_set, if_pos rfl, if_pos (by simp; omega)]
              rw [h5] at q2
              refine .inr ?_
              rcases q2 with q2 | ⟨c1, c2, _, q2⟩
              · exact ⟨_, _, hob, q2⟩
              · exact ⟨_, _, hob, q2⟩
            · rw [List.getElem?_set_ne (Ne.symm hoo), List.getElem?_append_left ho2] at q2
              exact q2
        · exact SRel.adopt hs
      · exact SRel.adopt hs
    | false =>
      simp only [cond_false]
      split
      · rename_i f hg
        have hp : ¬ (Ob.sl ty false true []).alive ⟨0, 0, 0, 0⟩ := fun x => by cases x.1
        have hh' := hs.hh.add (.sl ty false true []) ⟨0, 0, 0, 0⟩ hp rfl
        have hv : a.tmps.getD i undef = .slice none 0 0 := by
          have := hs.he i _ hg
          simp only [VRel] at this
          generalize a.tmps.getD i undef = cv at this
          cases this with
          | pv _ _ h1 => cases h1 with
            | slnil => rfl
        have hs' : SRel w I (addPl G h.length ⟨0, 0, 0, 0⟩) ((i, .own h.length) :: e) (h ++ [.sl ty false true []]) N a :=
          ⟨hh', (hs.he.mono (Keeps.refl w I) (Like.push G h ⟨0, 0, 0, 0⟩ (.sl ty false true []))).cons (by rw [hv]; exact LRel.ownNil h.length ty false [] (by simp)), hs.hn⟩
        obtain ⟨G', g1, g2, g3⟩ := SRel.adopt (ad := r) hs'
        refine ⟨G', g1, fun b hb => ?_, fun o ho => ?_⟩
        rotate_left
        · obtain ⟨q1, q2⟩ := g3 o (by simp; omega)
          exact ⟨q1.trans (by simp [addPl, Nat.ne_of_lt ho]), by rw [List.getElem?_append_left ho] at q2; exact q2⟩
        obtain ⟨o, ob, h1, h2, h3⟩ := g2 b hb
        rcases Nat.lt_trichotomy o h.length with ho | ho | ho
        · rw [List.getElem?_append_left ho] at h1
          have e1 : addPl G h.length ⟨0, 0, 0, 0⟩ o = G o := by simp [addPl, Nat.ne_of_lt ho]
          rw [e1] at h2 h3
          exact ⟨o, ob, h1, h2, h3⟩
        · subst ho; simp at h1; subst h1; cases h2.1
        · rw [List.getElem?_eq_none (by simp; omega)] at h1; cases h1
      · exact SRel.adopt hs

/-- The first objects keep their numbers. -/
def preB : Nat → Nat → List Nat → Bool
  | 0, _, _ => true
  | n + 1, k, x :: r => Nat.beq x k && preB n (k + 1) r
  | _ + 1, _, [] => false
/-- Slices of which it is forgotten where they stood: those behind the first, and some of these. -/
def markO (n0 : Nat) (mv : List Nat) (i : Nat) : Ob → Ob
  | .sl ty m n es => .sl ty (bif Nat.ble n0 i || memB i mv then true else m) n es
  | ob => ob
def markH (n0 : Nat) (mv : List Nat) : Nat → List Ob → Hp
  | _, [] => []
  | i, ob :: r => markO n0 mv i ob :: markH n0 mv (i + 1) r
theorem markH_get {n0 : Nat} {mv : List Nat} : ∀ {l : List Ob} {i j : Nat}, (markH n0 mv i l)[j]? = (l[j]?).map (markO n0 mv (i + j))
  | [], i, j => by simp [markH]
  | ob :: r, i, 0 => by simp [markH]
  | ob :: r, i, j + 1 => by
    simp only [markH, List.getElem?_cons_succ]
    rw [markH_get (l := r) (i := i + 1) (j := j), show i + 1 + j = i + (j + 1) by omega]
theorem markH_length {n0 : Nat} {mv : List Nat} : ∀ {l : List Ob} {i : Nat}, (markH n0 mv i l).length = l.length
  | [], i => rfl
  | ob :: r, i => by simp [markH, markH_length (l := r)]
theorem markO_like {n0 : Nat} {mv : List Nat} {i : Nat} (ob : Ob) : ob.like (markO n0 mv i ob) := by cases ob <;> simp [markO, Ob.like]
theorem markO_alive {n0 : Nat} {mv : List Nat} {i : Nat} {ob : Ob} {p : Pl} : (markO n0 mv i ob).alive p ↔ ob.alive p := by cases ob <;> exact Iff.rfl
theorem SRel.mark {w : World} {I : Nat → Prop} {G : Nat → Pl} {e : Env} {h : Hp} {N : Nat} {a : Act} (n0 : Nat) (mv : List Nat) (hs : SRel w I G e h N a) : SRel w I G e (markH n0 mv 0 h) N a ∧ ∀ b, Owns (markH n0 mv 0 h) G b → Owns h G b := by
  have hget : ∀ i, (markH n0 mv 0 h)[i]? = (h[i]?).map (markO n0 mv i) := fun i => by rw [markH_get, Nat.zero_add]
  have hl : Like G G h (markH n0 mv 0 h) := fun o ob ho => ⟨⟨_, by rw [hget, ho]; rfl, markO_like ob⟩, fun _ => rfl⟩
  have split : ∀ {i : Nat} {x : Ob}, (markH n0 mv 0 h)[i]? = some x → ∃ ob, h[i]? = some ob ∧ x = markO n0 mv i ob := fun {i x} hx => by
    rw [hget] at hx
    cases hob : h[i]? with
    | none => rw [hob] at hx; cases hx
    | some ob => rw [hob] at hx; cases hx; exact ⟨ob, rfl, rfl⟩
  refine ⟨⟨⟨fun i x hx => ?_, fun i j x y hx ax hy ay hb => ?_, fun i x hx ax => ?_, hs.hh.cl⟩, hs.he.mono (Keeps.refl w I) hl, hs.hn⟩, fun b ⟨i, x, hx, ax, hb⟩ => ?_⟩
  · obtain ⟨ob, hob, rfl⟩ := split hx
    have := hs.hh.obs i ob hob
    cases ob with
    | dead => trivial
    | box cs => obtain ⟨vs, ty, e1, e2, e3⟩ := this; exact ⟨vs, ty, e1, e2, fun k v hv => ⟨(e3 k v hv).1.mono (Keeps.refl w I) hl, (e3 k v hv).2⟩⟩
    | arr cs => exact this
    | sl ty m n es => cases n <;> exact this
    | mp kvs => exact this
    | iter ty rem cur => exact this
  · obtain ⟨ob, hob, rfl⟩ := split hx
    obtain ⟨ob2, hob2, rfl⟩ := split hy
    exact hs.hh.sep i j ob ob2 hob (markO_alive.1 ax) hob2 (markO_alive.1 ay) hb
  · obtain ⟨ob, hob, rfl⟩ := split hx
    exact hs.hh.nI i ob hob (markO_alive.1 ax)
  · obtain ⟨ob, hob, rfl⟩ := split hx
    exact ⟨i, ob, hob, markO_alive.1 ax, hb⟩
theorem preB_get : ∀ {n k : Nat} {os : List Nat}, preB n k os = true → n ≤ os.length ∧ ∀ i, i < n → os[i]? = some (k + i)
  | 0, k, os, _ => ⟨Nat.zero_le _, fun i hi => by omega⟩
  | n + 1, k, [], h => by cases h
  | n + 1, k, x :: r, h => by
    simp only [preB, Bool.and_eq_true] at h
    have := Nat.eq_of_beq_eq_true h.1
    obtain ⟨h1, h2⟩ := preB_get h.2
    refine ⟨by simp; omega, fun i hi => ?_⟩
    cases i with
    | zero => simp [this]
    | succ i => simp only [List.getElem?_cons_succ]; rw [h2 i (by omega)]; congr 1; omega
/-- One state is the other one, some of it forgotten. -/
def Fits (n0 : Nat) (e : Env) (h : Hp) (e' : Env) (h' : Hp) : Prop := ∃ ad os ks mv, nodupB os = true ∧ preB n0 0 os = true ∧ subE os (adopt ad e h).1 ks = e' ∧ markH n0 mv 0 (subH os (adopt ad e h).2 os) = h'
theorem Tr.less {w : World} {I own own' : Nat → Prop} (h : ∀ b, own' b → own b) : Tr w I own w I own' := ⟨rfl, rfl, rfl, Nat.le_refl _, fun _ _ _ => rfl, fun _ x => x, fun _ x => .inl x, fun b x => .inl (h b x), fun _ _ => rfl, Nat.le_refl _⟩
theorem subH_length {os : List Nat} {h : Hp} : ∀ {l : List Nat}, (subH os h l).length = l.length
  | [] => rfl
  | x :: r => by simp [subH, subH_length (l := r)]
theorem Fits.srel {n0 : Nat} {w : World} {I : Nat → Prop} {G : Nat → Pl} {e e' : Env} {h h' : Hp} {N : Nat} {a : Act} (hf : Fits n0 e h e' h') (hs : SRel w I G e h N a) : ∃ G', SRel w I G' e' h' N a ∧ TrN n0 w I G h w I G' h' := by
  obtain ⟨ad, os, ks, mv, h1, h2, rfl, rfl⟩ := hf
  obtain ⟨G1, g1, g2, g3⟩ := hs.adopt (ad := ad)
  obtain ⟨g4, g5⟩ := g1.sub os ks h1
  obtain ⟨g6, g7⟩ := g4.mark n0 mv
  obtain ⟨p1, p2⟩ := preB_get h2
  refine ⟨_, g6, Tr.less fun b hb => g2 b (g5 b (g7 b hb)), fun _ => by rw [markH_length, subH_length]; exact p1, fun hn o ob' ho hx hf => ?_⟩
  have hol : o < h.length := Nat.lt_of_lt_of_le ho hn
  have ho' := p2 o ho
  rw [Nat.zero_add] at ho'
  obtain ⟨q1, q2⟩ := g3 o hol
  refine ⟨by simp only [ho']; exact q1, ?_⟩
  rw [markH_get, subH_get, ho', Nat.zero_add] at hx
  rcases q2 with q2 | ⟨c1, c2, q2, q3⟩
  rotate_left
  · exact ⟨_, q2, rfl⟩
  simp only [Option.map_some, q2, List.getElem?_eq_getElem hol, Option.some.injEq] at hx
  refine ⟨h[o], by simp [hol], ?_⟩
  subst hx
  generalize h[o] = x at hf ⊢
  cases x with
  | sl ty m n es =>
    simp only [renO, markO, Ob.fixed] at hf ⊢
    cases hc : (Nat.ble n0 o || memB o mv) with
    | true => rw [hc] at hf; cases hf
    | false => rw [hc] at hf; exact hf
  | _ => exact hf
theorem CodeS.fits {P : Program} {n0 N : Nat} {c : Code} {e e' : Env} {h h' : Hp} {Q : Qt} (hf : Fits n0 e h e' h') (hK : CodeS P n0 N c e' h' Q) : CodeS P n0 N c e h Q := by
  intro w I G a Qx hs hq
  obtain ⟨G', hs', ho⟩ := hf.srel hs
  exact hK w I G' a Qx hs' fun x e2 h2 w2 I2 G2 a2 hk hs2 hd ht => hq x e2 h2 w2 I2 G2 a2 hk hs2 hd (ho.trans ht)

/-- A LOOP: the states at its head, by what they hold. -/
theorem CodeS.loop {P : Program} {n0 : Nat} {N : Nat} {c : Code} {e : Env} {h : Hp} {Q : Qt} {σ : Type} (S : σ → Env × Hp) (J : σ → Prop) (μ : σ → Nat) (s0 : σ) (h0 : Fits n0 e h (S s0).1 (S s0).2) (hJ : J s0)
    (hb : ∀ s, J s → CodeS P n0 N c (S s).1 (S s).2 fun x e h => match x with | .normal => ∃ s', Fits n0 e h (S s').1 (S s').2 ∧ J s' ∧ μ s' < μ s | x => Q x e h) : CodeS P n0 N (.loop c) e h Q := by
  intro w I G a Qx hs hq
  obtain ⟨G0, hs0, ho0⟩ := h0.srel hs
  refine wp_loop_ghost (fun n a1 w1 => ∃ s I1 G1, μ s = n ∧ J s ∧ SRel w1 I1 G1 (S s).1 (S s).2 N a1 ∧ a1.defers = a.defers ∧ TrN n0 w I G h w1 I1 G1 (S s).2) (μ s0)
    ⟨s0, I, G0, rfl, hJ, hs0, rfl, ho0⟩ ?_
  rintro n a1 w1 ⟨s, I1, G1, rfl, hj, hs1, hd1, ht1⟩
  refine hb s hj w1 I1 G1 a1 _ hs1 fun x e2 h2 w2 I2 G2 a2 hk hs2 hd2 ht2 => ?_
  cases x with
  | normal =>
    obtain ⟨s', hf, hj', hlt⟩ := hk
    obtain ⟨G3, hs3, ho3⟩ := hf.srel hs2
    exact ⟨μ s', hlt, s', I2, G3, rfl, hj', hs3, hd2.trans hd1, (ht1.trans ht2).trans ho3⟩
  | exit n => exact hq (.exit n) e2 h2 w2 I2 G2 a2 hk hs2 (hd2.trans hd1) (ht1.trans ht2)
  | ret => exact hq .ret e2 h2 w2 I2 G2 a2 hk hs2 (hd2.trans hd1) (ht1.trans ht2)

/-- The slots that are kept behind a region. -/
def keepE : List Nat → Env → Env
  | [], _ => []
  | i :: r, e => match get e i with
    | some (.spec ..) => keepE r e
    | some .bot => keepE r e
    | some v => (i, v) :: keepE r e
    | none => keepE r e
theorem get_keepE {e : Env} {i : Nat} {v : LV} : ∀ {l : List Nat}, get (keepE l e) i = some v → get e i = some v
  | [], h => by cases h
  | x :: r, h => by
    unfold keepE at h
    split at h
    · exact get_keepE h
    · exact get_keepE h
    · rename_i u _ _ hu
      simp only [get] at h
      cases hb : Nat.beq x i with
      | true => rw [hb] at h; have := Nat.eq_of_beq_eq_true hb; subst this; cases h; exact hu
      | false => rw [hb] at h; exact get_keepE h
    · exact get_keepE h
theorem SRel.kept {w : World} {I : Nat → Prop} {G : Nat → Pl} {e : Env} {h : Hp} {N : Nat} {a : Act} (hs : SRel w I G e h N a) (l : List Nat) : SRel w I G (keepE l e) h N a :=
  ⟨hs.hh, fun i v hi => hs.he i v (get_keepE hi), hs.hn⟩
theorem CodeS.region {P : Program} {n0 : Nat} {N : Nat} {id : Nat} {ops : Array Oper} {e : Env} {h : Hp} {Q : Qt} (l : List Nat) (hK : aOps P H N ops.toList ops.toList e h (fun e h => Q .normal (keepE l e) h)) : CodeS P n0 N (.region id ops false) e h Q := by
  intro w I G a Qx hs hq
  refine wp_region ?_
  have := aOps_ok (Qx := Qx) ops.toList 0 e h (fun j _ => by simp) hK w I G a hs fun e' h' w' I' G' a' hk hs' hd ht => hq .normal _ h' w' I' G' a' hk (hs'.kept l) hd ht.toN
  simpa [List.range_eq_range'] using this
/-- What is said of a loop: the states at its head, by what they hold (and how that is read off a state); a condition; a measure; slots of nil slices that become objects; the slots that are kept. -/
structure LSpec where
  σ : Type
  S : σ → Env × Hp
  J : σ → σ → Prop
  μ : σ → Nat
  rd : Env → Hp → σ
  ad : List (Nat × Nat × Nat)
  ks : List Nat
  mv : List Nat
  all : (σ → Prop) → Prop
  ok : ∀ p, all p → ∀ s, p s
def gI (e : Env) (i : Nat) : Int := match get e i with | some (.pv (.int _ n)) => n | _ => 0
def gB (e : Env) (i : Nat) : Bool := match get e i with | some (.pv (.bool b)) => b | _ => false
def gC (e : Env) (i k : Nat) : Int := match get e i with | some (.pv (.agg cs)) => (match cs[k]? with | some (.int _ n) => n | _ => 0) | _ => 0
def gD (e : Env) (i k : Nat) : Bool := match get e i with | some (.pv (.agg cs)) => (match cs[k]? with | some (.bool b) => b | _ => false) | _ => false
def gX (e : Env) (i k : Nat) : PV := match get e i with | some (.pv (.agg cs)) => (match cs[k]? with | some v => v | _ => .unit) | _ => .unit
def gXN (e : Env) (i k : Nat) : Bool := match gX e i k with | .sl n _ _ => n | _ => false
def gXF (e : Env) (i k : Nat) : Bool := match gX e i k with | .sl _ f _ => f | _ => false
def gXS (e : Env) (i k : Nat) : List (List PV) := match gX e i k with | .sl _ _ es => es | _ => []
def gR (e : Env) (i : Nat) : List PV := match get e i with | some (.pv (.ptr cs)) => cs | _ => []
def gP (e : Env) (i : Nat) : PV := match get e i with | some (.pv v) => v | _ => .unit
def gN (e : Env) (i : Nat) : Bool := match get e i with | some (.pv (.sl n _ _)) => n | _ => false
def gF (e : Env) (i : Nat) : Bool := match get e i with | some (.pv (.sl _ f _)) => f | _ => false
def gS (e : Env) (i : Nat) : List (List PV) := match get e i with | some (.pv (.sl _ _ es)) => es | _ => []
def gA (e : Env) (i : Nat) : Nat := match get e i with | some (.sub _ a _) => a | some (.elt _ a _) => a | _ => 0
def gZ (e : Env) (i : Nat) : Nat := match get e i with | some (.sub _ _ b) => b | _ => 0
def hC (h : Hp) (k j : Nat) : LV := match h[k]? with | some (.box cs) => (match cs[j]? with | some v => v | none => .bot) | _ => .bot
def hI (h : Hp) (k j : Nat) : Int := match hC h k j with | .pv (.int _ n) => n | _ => 0
def hB (h : Hp) (k j : Nat) : Bool := match hC h k j with | .pv (.bool b) => b | _ => false
def hP (h : Hp) (k j : Nat) : PV := match hC h k j with | .pv v => v | _ => .unit
def hN (h : Hp) (k j : Nat) : Bool := match hC h k j with | .pv (.sl n _ _) => n | _ => false
def hF (h : Hp) (k j : Nat) : Bool := match hC h k j with | .pv (.sl _ f _) => f | _ => false
def hS (h : Hp) (k j : Nat) : List (List PV) := match hC h k j with | .pv (.sl _ _ es) => es | _ => []
def oN (h : Hp) (k : Nat) : Bool := match h[k]? with | some (.sl _ _ n _) => n | _ => false
def oS (h : Hp) (k : Nat) : List (List PV) := match h[k]? with | some (.sl _ _ _ es) => es | _ => []
def oA (h : Hp) (k : Nat) : List PV := match h[k]? with | some (.arr cs) => cs | _ => []
def oR (h : Hp) (k : Nat) : List (PV × PV) := match h[k]? with | some (.iter _ r _) => r | _ => []
def oQ (h : Hp) (k : Nat) : Option (PV × PV) := match h[k]? with | some (.iter _ _ q) => q | _ => none
def oM (h : Hp) (k : Nat) : List (PV × PV) := match h[k]? with | some (.mp kvs) => kvs | _ => []
def upto : Nat → List Nat → List Nat
  | 0, acc => acc
  | n + 1, acc => upto n (n :: acc)
/-- The objects that are kept: the first ones, and those that the kept slots lead to. -/
def keepOs (n0 : Nat) (ks : List Nat) (e : Env) (h : Hp) : List Nat := closeR h 3 (addAll (ks.flatMap fun i => match get e i with | some v => refs v | none => []) (upto n0 []))
/-- Two states are one. -/
def SameSt (a b : Env × Hp) : Prop := a = b
theorem SameSt.same (a : Env × Hp) : SameSt a a := rfl
def fitK (n0 : Nat) (sp : LSpec) (e : Env) (h : Hp) (K : sp.σ → Prop) : Prop :=
  bif nodupB (keepOs n0 sp.ks (adopt sp.ad e h).1 (adopt sp.ad e h).2) && preB n0 0 (keepOs n0 sp.ks (adopt sp.ad e h).1 (adopt sp.ad e h).2) then
    SameSt (subE (keepOs n0 sp.ks (adopt sp.ad e h).1 (adopt sp.ad e h).2) (adopt sp.ad e h).1 sp.ks, markH n0 sp.mv 0 (subH (keepOs n0 sp.ks (adopt sp.ad e h).1 (adopt sp.ad e h).2) (adopt sp.ad e h).2 (keepOs n0 sp.ks (adopt sp.ad e h).1 (adopt sp.ad e h).2)))
      (sp.S (sp.rd (subE (keepOs n0 sp.ks (adopt sp.ad e h).1 (adopt sp.ad e h).2) (adopt sp.ad e h).1 sp.ks) (markH n0 sp.mv 0 (subH (keepOs n0 sp.ks (adopt sp.ad e h).1 (adopt sp.ad e h).2) (adopt sp.ad e h).2 (keepOs n0 sp.ks (adopt sp.ad e h).1 (adopt sp.ad e h).2))))) ∧
    K (sp.rd (subE (keepOs n0 sp.ks (adopt sp.ad e h).1 (adopt sp.ad e h).2) (adopt sp.ad e h).1 sp.ks) (markH n0 sp.mv 0 (subH (keepOs n0 sp.ks (adopt sp.ad e h).1 (adopt sp.ad e h).2) (adopt sp.ad e h).2 (keepOs n0 sp.ks (adopt sp.ad e h).1 (adopt sp.ad e h).2))))
  else Stuck 2310
/-- What a loop is entered with. -/
def entS (n0 : Nat) (sp : LSpec) (e : Env) (h : Hp) : sp.σ := sp.rd (subE (keepOs n0 sp.ks (adopt sp.ad e h).1 (adopt sp.ad e h).2) (adopt sp.ad e h).1 sp.ks) (markH n0 sp.mv 0 (subH (keepOs n0 sp.ks (adopt sp.ad e h).1 (adopt sp.ad e h).2) (adopt sp.ad e h).2 (keepOs n0 sp.ks (adopt sp.ad e h).1 (adopt sp.ad e h).2)))
theorem fitK_ent {n0 : Nat} {sp : LSpec} {e : Env} {h : Hp} {K : sp.σ → Prop} (hf : fitK n0 sp e h K) : Fits n0 e h (sp.S (entS n0 sp e h)).1 (sp.S (entS n0 sp e h)).2 ∧ K (entS n0 sp e h) := by
  unfold fitK at hf
  cases hc : (nodupB (keepOs n0 sp.ks (adopt sp.ad e h).1 (adopt sp.ad e h).2) && preB n0 0 (keepOs n0 sp.ks (adopt sp.ad e h).1 (adopt sp.ad e h).2)) with
  | false => rw [hc] at hf; cases hf
  | true =>
    rw [hc] at hf
    simp only [cond_true] at hf
    simp only [Bool.and_eq_true] at hc
    obtain ⟨h1, h2⟩ := hf
    exact ⟨⟨sp.ad, _, sp.ks, sp.mv, hc.1, hc.2, congrArg Prod.fst h1, congrArg Prod.snd h1⟩, h2⟩
theorem fitK_ok {n0 : Nat} {sp : LSpec} {e : Env} {h : Hp} {K : sp.σ → Prop} (hf : fitK n0 sp e h K) : ∃ s, Fits n0 e h (sp.S s).1 (sp.S s).2 ∧ K s := ⟨_, fitK_ent hf⟩
/-- A loop is told by the first region in it. -/
def firstR : Code → Option Nat
  | .region id _ _ => some id
  | .seq a b => match firstR a with
    | some k => some k
    | none => firstR b
  | .cond _ a b => match firstR a with
    | some k => some k
    | none => firstR b
  | .block _ c => firstR c
  | .loop c => firstR c
  | _ => none
def loopQ (n0 : Nat) (sp : LSpec) (s0 s : sp.σ) (Q : Qt) : Qt := fun x e h => match x with
  | .normal => fitK n0 sp e h fun s' => sp.J s0 s' ∧ sp.μ s' < sp.μ s
  | .exit n => Q (.exit n) e h
  | .ret => Q .ret e h
/-- Running code over abstract states. -/
def aWp (P : Program) (H : Nat → Option HSpec) (n0 : Nat) (N : Nat) (l : List Nat) (L : Nat → Option LSpec) : Code → Env → Hp → Qt → Prop
  | .skip, e, h, Q => Q .normal e h
  | .region id ops d, e, h, Q => bif d then aDraw P H N ops e h (fun e h => Q .normal (keepE l e) h) else aOps P H N ops.toList ops.toList e h fun e h => Q .normal (keepE l e) h
  | .seq a b, e, h, Q => aWp P H n0 N l L a e h fun x e h => match x with
    | .normal => aWp P H n0 N l L b e h Q
    | .exit n => Q (.exit n) e h
    | .ret => Q .ret e h
  | .cond c a b, e, h, Q => match opv [] e c with
    | some (.pv (.bool t)) => if t = true then aWp P H n0 N l L a e h Q else aWp P H n0 N l L b e h Q
    | _ => Stuck 1101
  | .block id c, e, h, Q => aWp P H n0 N l L c e h fun x e h => match x with
    | .normal => Q .normal e h
    | .exit n => bif Nat.beq n id then Q .normal e h else Q (.exit n) e h
    | .ret => Q .ret e h
  | .loop c, e, h, Q => match firstR c with
    | some k => match L k with
      | some sp => fitK n0 sp e h (fun s => sp.J s s) ∧ sp.all fun s => sp.J (entS n0 sp e h) s → aWp P H n0 N l L c (sp.S s).1 (sp.S s).2 (loopQ n0 sp (entS n0 sp e h) s Q)
      | none => CodeS P n0 N (.loop c) e h Q
    | none => Stuck 1102
  | .exit n, e, h, Q => Q (.exit n) e h
  | .ret, e, h, Q => Q .ret e h
  | _, _, _, _ => Stuck 1103
theorem aWp_ok {P : Program} {n0 : Nat} {N : Nat} {l : List Nat} {L : Nat → Option LSpec} : ∀ {c : Code} {e : Env} {h : Hp} {Q : Qt}, aWp P H n0 N l L c e h Q → CodeS P n0 N c e h Q := by
  intro c
  induction c with
  | skip => exact fun hK => CodeS.skip hK
  | region id ops d =>
    intro e h Q hK
    cases d with
    | true => exact fun w I G a Qx hs hq => aDraw_ok hK hs fun e' h' w' I' G' a' hk hs' hd ht => hq .normal _ h' w' I' G' a' hk (hs'.kept l) hd ht.toN
    | false => exact CodeS.region l hK
  | seq a b iha ihb =>
    intro e h Q hK
    refine CodeS.seq ((iha hK).mono fun x e h hq => ?_)
    cases x with
    | normal => exact ihb hq
    | exit n => exact hq
    | ret => exact hq
  | cond c a b iha ihb =>
    intro e h Q hK
    simp only [aWp] at hK
    split at hK
    · rename_i t ht
      refine CodeS.cond ht ?_
      cases t with
      | true => simp only [if_true] at hK ⊢; exact iha hK
      | false => simp only [Bool.false_eq_true, if_false] at hK ⊢; exact ihb hK
    · cases hK
  | block id c ih =>
    intro e h Q hK
    refine CodeS.block ((ih hK).mono fun x e h hq => ?_)
    cases x with
    | normal => exact hq
    | exit n => exact hq
    | ret => exact hq
  | loop c ih =>
    intro e h Q hK
    simp only [aWp] at hK
    split at hK
    · split at hK
      · rename_i sp hsp
        obtain ⟨hK, h3⟩ := hK
        obtain ⟨h1, h2⟩ := fitK_ent hK
        refine CodeS.loop sp.S (sp.J (entS n0 sp e h)) sp.μ _ h1 h2 fun s hj => (ih (sp.ok _ h3 s hj)).mono fun x e h hq => ?_
        cases x with
        | normal => exact fitK_ok hq
        | exit n => exact hq
        | ret => exact hq
      · exact hK
    · exact hK.elim
  | exit n => exact fun hK => CodeS.exit hK
  | ret => exact fun hK => CodeS.ret hK
  | _ => intro e h Q hK; exact hK.elim

/-! ### A function -/
def initE : List LV → Nat → Env
  | [], _ => []
  | v :: r, k => (k, v) :: initE r (k + 1)
/-- What a function hands back: slots, or variables in memory. -/
def resK' (P : Program) (e : Env) (h : Hp) : List ResultVar → (List LV → Prop) → Prop
  | [], K => K []
  | .tmp t :: r, K => match opv [] e (.tmp t) with
    | some v => resK' P e h r fun vs => K (v :: vs)
    | none => Stuck 2301
  | .cell c t :: r, K => aLoad P e h t (.tmp c) fun v _ _ => resK' P e h r fun vs => K (v :: vs)
def retV (h : Hp) (R : PV → Prop) (v : LV) : Prop :=
  match toPV h v with
  | some p => R p
  | none => Stuck 2302
def oneOf (K : LV → Prop) : List LV → Prop
  | [v] => K v
  | vs => K (.tup vs)
/-- What a function hands back is told as a tree. -/
def retK (P : Program) (rs : List ResultVar) (R : PV → Prop) : Qt := fun x e h =>
  match x with
  | .exit _ => Stuck 2303
  | _ => resK' P e h rs (oneOf (retV h R))
theorem run_asAddr {P : Program} {t : TypeId} {v cv : Value} {w : World} (h : (Instr.loadAt t v).run P w = .ok cv w) : (do loadVar t (← asAddr v) : Sem Value).run P w = .ok cv w := by
  cases v
  case pointer a =>
    cases a with
    | none => cases h
    | some a => exact h
  all_goals cases h
theorem resVs_ok {P : Program} {w : World} {I : Nat → Prop} {G : Nat → Pl} {h : Hp} {a : Act} {e : Env} (hh : HRel w I G h) (he : ERel w I G h e a.tmps) {f : ResultVar → Sem Value} (hf : ∀ t, f (.tmp t) = Pure.pure (a.tmps.getD t undef))
    (hf2 : ∀ c t, f (.cell c t) = (do loadVar t (← asAddr (a.tmps.getD c undef)))) :
    ∀ {rs : List ResultVar} {K : List LV → Prop}, resK' P e h rs K → ∃ vs, K vs ∧ ∃ cs : List Value, (rs.mapM f).run P w = .ok cs w ∧ cs.length = vs.length ∧ ∀ (k : Nat) v, vs[k]? = some v → LRel w I G h v (cs.getD k undef)
  | [], K, hv => ⟨[], hv, [], rfl, rfl, fun k v hk => by simp at hk⟩
  | .cell c t :: r, K, hv => by
    unfold resK' at hv
    obtain ⟨v, hk, hrun⟩ := aLoad_okV (o := { dst := none, op := .load t (.tmp c), type := 0, pos := "", after := #[], guard := none }) rfl hv
    obtain ⟨cv, g1, g2⟩ := hrun w I G a hh he
    obtain ⟨vs, hK, cs, h1, h2, h3⟩ := resVs_ok hh he hf hf2 hk
    have g3 : (Instr.loadAt t (a.tmps.getD c undef)).run P w = .ok cv w := by
      have := g1 w (KA.refl w)
      change (vOf (Instr.loadAt t (a.tmps.getD c undef))).run P w = _ at this
      unfold vOf at this
      simp only [Sem.run_bind, Sem.run_pure] at this
      cases hq : (Instr.loadAt t (a.tmps.getD c undef)).run P w with
      | ok x y => rw [hq] at this; simp only [Result.andThen_ok] at this; injection this with e1 e2; injection e1 with e1; rw [e1, e2]
      | _ => rw [hq] at this; cases this
    refine ⟨_, hK, cv :: cs, ?_, by simp [h2], fun k u hk => ?_⟩
    · simp only [List.mapM_cons, hf2]
      rw [Sem.run_bind, run_asAddr g3]
      simp only [Result.andThen_ok, Sem.run_bind, h1, Sem.run_pure]
    cases k with
    | zero => simp at hk; subst hk; exact g2
    | succ k => simp at hk; simpa using h3 k u hk
  | .tmp t :: r, K, hv => by
    unfold resK' at hv
    split at hv
    · rename_i v h1
      obtain ⟨vs, hK, cs, g1, g2, g3⟩ := resVs_ok hh he hf hf2 hv
      refine ⟨_, hK, a.tmps.getD t undef :: cs, ?_, by simp [g2], fun k u hk => ?_⟩
      · simp only [List.mapM_cons, hf, Sem.run_bind, Sem.run_pure, Result.andThen_ok, g1]
      cases k with
      | zero => simp at hk; subst hk; exact opv_ok he (AOK.nil _) h1
      | succ k => simp at hk; simpa using g3 k u hk
    · cases hv
theorem resV_ok {P : Program} {w : World} {I : Nat → Prop} {G : Nat → Pl} {h : Hp} {a : Act} {e : Env} (hh : HRel w I G h) (he : ERel w I G h e a.tmps) {fn : Func} {K : LV → Prop} (hv : resK' P e h fn.results.toList (oneOf K)) : ∃ v, K v ∧ ∃ cv, (results fn a.tmps).run P w = .ok cv w ∧ LRel w I G h v cv := by
  obtain ⟨vs, hK, cs, g1, g2, g3⟩ := resVs_ok (P := P) (f := fun | .tmp t => Pure.pure (a.tmps.getD t undef) | .cell c t => do loadVar t (← asAddr (a.tmps.getD c undef))) hh he (fun t => rfl) (fun c t => rfl) hv
  have base : ∃ ca : Array Value, (results fn a.tmps).run P w = .ok (if h : ca.size = 1 then ca[0] else .tuple ca) w ∧ ca.size = vs.length ∧ ∀ (k : Nat) v, vs[k]? = some v → LRel w I G h v (ca.getD k undef) := by
    refine ⟨cs.toArray, ?_, by simpa using g2, fun k v hk => by simpa [List.getD] using g3 k v hk⟩
    unfold results
    rw [Sem.run_bind, Array.mapM_eq_mapM_toList]
    simp only [Sem.run_bind, Sem.run_map, Sem.run_pure, Result.andThen_ok]
    erw [g1]
    rfl
  obtain ⟨ca, q1, q2, q3⟩ := base
  unfold oneOf at hK
  split at hK
  · rename_i v
    have h1 : ca.size = 1 := by simpa using q2
    refine ⟨v, hK, _, q1, ?_⟩
    rw [dif_pos h1]
    have := q3 0 v rfl
    have e1 : ca.getD 0 undef = ca[0] := by simp [h1]
    rw [← e1]; exact this
  · rename_i hne
    have h1 : ca.size ≠ 1 := fun h1 => by
      rw [h1] at q2
      match vs, q2 with
      | [x], _ => exact hne x rfl
    refine ⟨_, hK, _, q1, ?_⟩
    rw [dif_neg h1]
    exact .tup vs ca q2 q3

@[irreducible] def aFn (P : Program) (H : Nat → Option HSpec) (fn : Func) (l : List Nat) (L : Nat → Option LSpec) (c : Code) (ps : List PV) (R : PV → Prop) : Prop := aWp P H 0 fn.ntmps l L c (initE (ps.map .pv) 0) [] (retK P fn.results.toList R)
theorem get_initE : ∀ {vs : List LV} {k i : Nat} {v : LV}, get (initE vs k) i = some v → k ≤ i ∧ vs[i - k]? = some v
  | [], k, i, v, h => by cases h
  | x :: r, k, i, v, h => by
    simp only [initE, get] at h
    cases hb : Nat.beq k i with
    | true => rw [hb] at h; have := Nat.eq_of_beq_eq_true hb; subst this; simp at h; subst h; simp
    | false =>
      rw [hb] at h
      obtain ⟨h1, h2⟩ := get_initE h
      refine ⟨by omega, ?_⟩
      have hne : k ≠ i := fun e => by subst e; simp at hb
      rw [show i - k = (i - (k + 1)) + 1 by omega]
      simpa using h2
/-- A FUNCTION: what its code gives, over abstract states, is what its call gives. -/
theorem PCall.of {P : Program} {f : Nat} {fn : Func} {c : Code} {ps : List PV} {R : PV → Prop} (hf : P.funcs[f]? = some fn) (hb : fn.body = some c) (hn : (fn.name == "runtime.NumGoroutine") = false) (hl : ps.length ≤ fn.ntmps)
    {l : List Nat} {L : Nat → Option LSpec} (hK : aFn P H fn l L c ps R) : PCall P f ps R := by
  unfold aFn at hK
  refine ⟨⟨fn, hf, by rw [hb]; rfl, hn⟩, fun w I G cargs hh hsz hrel => ?_⟩
  refine calls_of_wp hf hb ?_
  simp only [List.length_map] at hsz
  have hs : SRel w I G (initE (ps.map .pv) 0) [] fn.ntmps { tmps := cargs ++ Array.replicate (fn.ntmps - cargs.size) undef, defers := [] } := by
    refine ⟨hh, fun i v hi => ?_, by simp; omega⟩
    obtain ⟨_, h2⟩ := get_initE hi
    rw [Nat.sub_zero] at h2
    have hlt : i < cargs.size := by have := (List.getElem?_eq_some_iff.1 h2).1; simp at this; omega
    have := hrel i v h2
    have e1 : (cargs ++ Array.replicate (fn.ntmps - cargs.size) undef).getD i undef = cargs.getD i undef := by
      rw [Array.getD_eq_getD_getElem?, Array.getD_eq_getD_getElem?, Array.getElem?_append_left hlt]
    simp only [e1]
    rw [List.getElem?_map] at h2
    cases hp : ps[i]? with
    | none => rw [hp] at h2; cases h2
    | some p => rw [hp] at h2; cases h2; exact this
  refine aWp_ok hK w I G _ _ hs fun x e' h' w' I' G' a' hk hs' hd ht => ?_
  have fin : resK' P e' h' fn.results.toList (oneOf (retV h' R)) → a'.defers = [] ∧ ∃ cv, (results fn a'.tmps).run P w' = .ok cv w' ∧ ∃ cv' r h2 I2 G2, Ending.returned cv = .returned cv' ∧ (∃ v, r = .pv v ∧ R v) ∧ HRel w' I2 G2 h2 ∧ LRel w' I2 G2 h2 r cv' ∧
      TrH w I G [] w' I2 G2 h2 := fun h1 => by
    obtain ⟨v, hv, cv, g1, g2⟩ := resV_ok (P := P) hs'.hh hs'.he h1
    unfold retV at hv
    split at hv
    · rename_i p h2
      have hno : ∀ b, ¬ Owns [] G b := fun b ⟨o, ob, ho, _⟩ => by simp at ho
      refine ⟨hd, cv, g1, cv, .pv p, [], AllB I' h' G', G', rfl, ⟨p, rfl, hv⟩, HRel.nil G' (fun b hb => hb.elim (hs'.hh.cl b) hs'.hh.blk_lt), .pv _ _ (toPV_ok hs'.hh g2 h2), ?_⟩
      have ht := ht.t
      exact ⟨⟨ht.os, ht.tape, ht.output, ht.size, ht.keep, fun b hb => .inl (ht.i1 b hb), fun b hb => hb.elim (ht.i2 b) (fun ho => (ht.own2 b ho).elim (fun x => absurd x (hno b)) (fun x => .inr (.inr x))), fun b hb => absurd hb (fun ⟨o, ob, ho, _⟩ => by simp at ho), ht.frz, ht.drawn⟩, Nat.le_refl _, fun o ob ho => by simp at ho⟩
    · cases hv
  cases x with
  | exit n => exact hk.elim
  | normal => exact fin hk
  | ret => exact fin hk

/-! ### A function that turns objects -/
def retH (P : Program) (ko : List Nat) (n0 : Nat) (rs : List ResultVar) (R : LV → Hp → Prop) : Qt := fun x e h =>
  match x with
  | .exit _ => Stuck 2304
  | _ => bif nodupB ko && preB n0 0 ko then resK' P e h rs (oneOf fun v => R (mapV (fun o => idx o ko 0) v) (subH ko h ko)) else Stuck 2305
@[irreducible] def aFnH (P : Program) (H : Nat → Option HSpec) (fn : Func) (l : List Nat) (L : Nat → Option LSpec) (ko : List Nat) (c : Code) (args : List LV) (h : Hp) (R : LV → Hp → Prop) : Prop := aWp P H h.length fn.ntmps l L c (initE args 0) h (retH P ko h.length fn.results.toList R)
theorem ACall.of {P : Program} {f : Nat} {fn : Func} {c : Code} {args : List LV} {h : Hp} {R : LV → Hp → Prop} (hf : P.funcs[f]? = some fn) (hb : fn.body = some c) (hn : (fn.name == "runtime.NumGoroutine") = false) (hl : args.length ≤ fn.ntmps)
    {l : List Nat} {L : Nat → Option LSpec} {ko : List Nat} (hK : aFnH P H fn l L ko c args h R) : ACall P f args h R := by
  unfold aFnH at hK
  refine ⟨⟨fn, hf, by rw [hb]; rfl, hn⟩, fun w I G cargs hh hsz hrel => ?_⟩
  refine calls_of_wp hf hb ?_
  have hs : SRel w I G (initE args 0) h fn.ntmps { tmps := cargs ++ Array.replicate (fn.ntmps - cargs.size) undef, defers := [] } := by
    refine ⟨hh, fun i v hi => ?_, by simp; omega⟩
    obtain ⟨_, h2⟩ := get_initE hi
    rw [Nat.sub_zero] at h2
    have hlt : i < cargs.size := by have := (List.getElem?_eq_some_iff.1 h2).1; omega
    have := hrel i v h2
    have e1 : (cargs ++ Array.replicate (fn.ntmps - cargs.size) undef).getD i undef = cargs.getD i undef := by
      rw [Array.getD_eq_getD_getElem?, Array.getD_eq_getD_getElem?, Array.getElem?_append_left hlt]
    simp only [e1]
    exact VRel.of_plain this
  refine aWp_ok hK w I G _ _ hs fun x e' h' w' I' G' a' hk hs' hd ht => ?_
  have fin : (bif nodupB ko && preB h.length 0 ko then resK' P e' h' fn.results.toList (oneOf fun v => R (mapV (fun o => idx o ko 0) v) (subH ko h' ko)) else Stuck 2305) → a'.defers = [] ∧ ∃ cv, (results fn a'.tmps).run P w' = .ok cv w' ∧ ∃ cv' r h2 I2 G2, Ending.returned cv = .returned cv' ∧ R r h2 ∧ HRel w' I2 G2 h2 ∧ LRel w' I2 G2 h2 r cv' ∧ TrH w I G h w' I2 G2 h2 := fun h1 => by
    cases hc : (nodupB ko && preB h.length 0 ko) with
    | false => rw [hc] at h1; cases h1
    | true =>
      rw [hc] at h1
      simp only [cond_true] at h1
      simp only [Bool.and_eq_true] at hc
      obtain ⟨v, hv, cv, g1, g2⟩ := resV_ok (P := P) hs'.hh hs'.he h1
      obtain ⟨s1, s2⟩ := hs'.sub ko [] hc.1
      obtain ⟨p1, p2⟩ := preB_get hc.2
      refine ⟨hd, cv, g1, cv, _, _, I', _, rfl, hv, s1.hh, g2.mapV ren_sub (Keeps.refl w' I'), ht.t.trans (Tr.less s2), by rw [subH_length]; exact p1, fun o ob' ho hx hfx => ?_⟩
      have ho' := p2 o ho
      rw [Nat.zero_add] at ho'
      rw [subH_get, ho'] at hx
      simp only [Option.map_some, Option.some.injEq] at hx
      cases hob : h'[o]? with
      | none => rw [hob] at hx; subst hx; cases hfx
      | some x =>
        rw [hob] at hx; subst hx
        obtain ⟨q1, ob, q2, q3⟩ := ht.stay (Nat.le_refl _) o x ho hob (by cases x <;> exact hfx)
        exact ⟨by simp only [ho']; exact q1, ob, q2, q3⟩
  cases x with
  | exit n => exact hk.elim
  | normal => exact fin hk
  | ret => exact fin hk
end Go.Eng
set_option linter.unusedVariables false
set_option linter.unusedSimpArgs false
namespace Go.Eng
open Go
variable {H : Nat → Option HSpec}
/-! ### A function that hands back what it made, or a tree -/
/-- The objects that are kept: the first ones, and those that a result leads to. -/
def keptA (n0 : Nat) (v : LV) (h : Hp) : List Nat := closeR h 3 (addAll (refs v) (upto n0 []))
def keptK (n0 : Nat) (R : LV → Hp → Prop) (v : LV) (h : Hp) : Prop :=
  bif nodupB (keptA n0 v h) && preB n0 0 (keptA n0 v h) then R (mapV (fun o => idx o (keptA n0 v h) 0) v) (subH (keptA n0 v h) h (keptA n0 v h)) else Stuck 2306
def retA (P : Program) (n0 : Nat) (rs : List ResultVar) (R : LV → Hp → Prop) : Qt := fun x e h =>
  match x with
  | .exit _ => Stuck 2304
  | _ => resK' P e h rs (oneOf fun v => keptK n0 R v h)
@[irreducible] def aFnA (P : Program) (H : Nat → Option HSpec) (fn : Func) (l : List Nat) (L : Nat → Option LSpec) (c : Code) (args : List LV) (h : Hp) (R : LV → Hp → Prop) : Prop := aWp P H h.length fn.ntmps l L c (initE args 0) h (retA P h.length fn.results.toList R)
theorem ACall.ofA {P : Program} {f : Nat} {fn : Func} {c : Code} {args : List LV} {h : Hp} {R : LV → Hp → Prop} (hf : P.funcs[f]? = some fn) (hb : fn.body = some c) (hn : (fn.name == "runtime.NumGoroutine") = false) (hl : args.length ≤ fn.ntmps)
    {l : List Nat} {L : Nat → Option LSpec} (hK : aFnA P H fn l L c args h R) : ACall P f args h R := by
  unfold aFnA at hK
  refine ⟨⟨fn, hf, by rw [hb]; rfl, hn⟩, fun w I G cargs hh hsz hrel => ?_⟩
  refine calls_of_wp hf hb ?_
  have hs : SRel w I G (initE args 0) h fn.ntmps { tmps := cargs ++ Array.replicate (fn.ntmps - cargs.size) undef, defers := [] } := by
    refine ⟨hh, fun i v hi => ?_, by simp; omega⟩
    obtain ⟨_, h2⟩ := get_initE hi
    rw [Nat.sub_zero] at h2
    have hlt : i < cargs.size := by have := (List.getElem?_eq_some_iff.1 h2).1; omega
    have := hrel i v h2
    have e1 : (cargs ++ Array.replicate (fn.ntmps - cargs.size) undef).getD i undef = cargs.getD i undef := by
      rw [Array.getD_eq_getD_getElem?, Array.getD_eq_getD_getElem?, Array.getElem?_append_left hlt]
    simp only [e1]
    exact VRel.of_plain this
  refine aWp_ok hK w I G _ _ hs fun x e' h' w' I' G' a' hk hs' hd ht => ?_
  have fin : resK' P e' h' fn.results.toList (oneOf fun v => keptK h.length R v h') → a'.defers = [] ∧ ∃ cv, (results fn a'.tmps).run P w' = .ok cv w' ∧ ∃ cv' r h2 I2 G2, Ending.returned cv = .returned cv' ∧ R r h2 ∧ HRel w' I2 G2 h2 ∧ LRel w' I2 G2 h2 r cv' ∧ TrH w I G h w' I2 G2 h2 := fun h1 => by
    obtain ⟨v, hv, cv, g1, g2⟩ := resV_ok (P := P) hs'.hh hs'.he h1
    unfold keptK at hv
    generalize keptA h.length v h' = ko at hv
    cases hc : (nodupB ko && preB h.length 0 ko) with
    | false => rw [hc] at hv; cases hv
    | true =>
      rw [hc] at hv
      simp only [cond_true] at hv
      simp only [Bool.and_eq_true] at hc
      obtain ⟨s1, s2⟩ := hs'.sub ko [] hc.1
      obtain ⟨p1, p2⟩ := preB_get hc.2
      refine ⟨hd, cv, g1, cv, _, _, I', _, rfl, hv, s1.hh, g2.mapV ren_sub (Keeps.refl w' I'), ht.t.trans (Tr.less s2), by rw [subH_length]; exact p1, fun o ob' ho hx hfx => ?_⟩
      have ho' := p2 o ho
      rw [Nat.zero_add] at ho'
      rw [subH_get, ho'] at hx
      simp only [Option.map_some, Option.some.injEq] at hx
      cases hob : h'[o]? with
      | none => rw [hob] at hx; subst hx; cases hfx
      | some x =>
        rw [hob] at hx; subst hx
        obtain ⟨q1, ob, q2, q3⟩ := ht.stay (Nat.le_refl _) o x ho hob (by cases x <;> exact hfx)
        exact ⟨by simp only [ho']; exact q1, ob, q2, q3⟩
  cases x with
  | exit n => exact hk.elim
  | normal => exact fin hk
  | ret => exact fin hk
end Go.Eng
set_option linter.unusedVariables false
set_option linter.unusedSimpArgs false
namespace Go.Eng
open Go Go.RowKit
/-- Short forms, for what is printed. -/
abbrev Same1 (a : Env × Hp) : Prop := SameSt a a
abbrev Dup (A : Prop) : Prop := A ∧ A
theorem keptBut_of {w w' : World} {may : MemPlace → Prop} (h1 : w'.os = w.os) (h2 : w'.output = w.output) (h3 : ∀ b, b < w.heap.size → w'.heap[b]? = w.heap[b]?) : w.keptBut w' may := by
  obtain ⟨_, _, h⟩ := World.keptBut_refl w may
  refine ⟨h1, h2, fun i hi => ?_⟩
  rw [h3 i hi]
  exact h i hi
theorem wrap_i32 {n : Int} (h1 : -2147483648 ≤ n) (h2 : n ≤ 2147483647) : IntKind.i32.wrap n = n := by
  unfold IntKind.wrap
  simp only [IntKind.bits, IntKind.signed]
  simp only [Bool.true_and, decide_eq_true_eq, show (2:Int)^(32-1) = 2147483648 from rfl, show (2:Int)^32 = 4294967296 from rfl, show (2:Int)^(64-1) = 9223372036854775808 from rfl, show (2:Int)^64 = 18446744073709551616 from rfl]
  split <;> omega
theorem wrap_i64 {n : Int} (h1 : -9223372036854775808 ≤ n) (h2 : n ≤ 9223372036854775807) : IntKind.i64.wrap n = n := by
  unfold IntKind.wrap
  simp only [IntKind.bits, IntKind.signed]
  simp only [Bool.true_and, decide_eq_true_eq, show (2:Int)^(32-1) = 2147483648 from rfl, show (2:Int)^32 = 4294967296 from rfl, show (2:Int)^(64-1) = 9223372036854775808 from rfl, show (2:Int)^64 = 18446744073709551616 from rfl]
  split <;> omega
theorem wf_i32 {n : Int} (h : (Lit.int .i32 n).wf = true) : -2147483648 ≤ n ∧ n ≤ 2147483647 := by
  simp [Lit.wf, IntKind.min, IntKind.max, IntKind.bits, IntKind.signed] at h
  omega
theorem wf_i64 {n : Int} (h : (Lit.int .i64 n).wf = true) : -9223372036854775808 ≤ n ∧ n ≤ 9223372036854775807 := by
  simp [Lit.wf, IntKind.min, IntKind.max, IntKind.bits, IntKind.signed] at h
  omega
/-- A slice of integers of 32 bits. -/
def i32s (l : List Int) : List (List PV) := l.map fun n => [.int .i32 n]
@[simp] theorem i32s_length (l : List Int) : (i32s l).length = l.length := by simp [i32s]
theorem i32s_get {l : List Int} {i : Nat} (h : i < l.length) : (i32s l).getD i [] = [.int .i32 (l.getD i 0)] := by
  simp [i32s, List.getD, h]
end Go.Eng
set_option linter.unusedVariables false
set_option linter.unusedSimpArgs false
namespace Go.Eng
open Go Go.RowKit Go.ChangeShapes Go.WideShapes Go.ChangeAt
/-! ### A row: what its arguments are read as, as trees -/
/-- Cells, as trees, by a type. -/
def Typed (P : Program) : Nat → TypeId → List PV → Prop
  | 0, _, _ => False
  | n + 1, t, ps => match P.underlying t with
    | some .bool => ∃ b, ps = [.bool b]
    | some (.int k) => ∃ m, ps = [.int k m] ∧ (Lit.int k m).wf = true
    | some (.slice e) => ∃ nl es, ps = [.sl nl false es] ∧ es.length ≤ maxLen ∧ (nl = true → es = []) ∧ ∀ x ∈ es, Typed P n e x
    | some (.struct fs) => ps.length = P.cellsOf t ∧ ∀ f ∈ fs.toList, Typed P n f.type ((ps.drop f.offset).take (P.cellsOf f.type))
    | _ => False
/-- Fields that lie one behind the other. -/
def okF (P : Program) (ok : TypeId → Bool) (total : Nat) : List Field → Nat → Bool
  | [], off => Nat.beq off total
  | f :: r, off => Nat.beq f.offset off && ok f.type && okF P ok total r (off + P.cellsOf f.type)
/-- The types that are served. -/
def okT (P : Program) : Nat → TypeId → Bool
  | 0, _ => false
  | n + 1, t => match P.underlying t with
    | some .bool => true
    | some (.int _) => true
    | some (.slice e) => Nat.blt 0 (P.cellsOf e) && okT P n e
    | some (.struct fs) => okF P (okT P n) (P.cellsOf t) fs.toList 0
    | _ => false
theorem exList {α : Type} {Q : Nat → α → Prop} : ∀ (n : Nat), (∀ i, i < n → ∃ y, Q i y) → ∃ l : List α, l.length = n ∧ ∀ (i : Nat) y, l[i]? = some y → Q i y
  | 0, _ => ⟨[], rfl, fun i y h => by simp at h⟩
  | n + 1, h => by
    obtain ⟨l, h1, h2⟩ := exList n fun i hi => h i (by omega)
    obtain ⟨y, hy⟩ := h n (by omega)
    refine ⟨l ++ [y], by simp [h1], fun i z hz => ?_⟩
    by_cases hi : i < l.length
    · rw [List.getElem?_append_left hi] at hz; exact h2 i z hz
    · rw [List.getElem?_append_right (by omega)] at hz
      have hz' := (List.getElem?_eq_some_iff.1 hz).1
      have : i - l.length = 0 := by simp at hz'; omega
      rw [this] at hz; simp at hz; subst hz
      rw [show i = n by omega]; exact hy
def CellsRep (w : World) (ps : List PV) (cs : List Value) : Prop := ps.length = cs.length ∧ ∀ (k : Nat) v, ps[k]? = some v → Rep w (fun b => b < w.heap.size) v (cs.getD k undef) ∧ (cs.getD k undef).oneCell' = true
theorem CellsRep.one {w : World} {p : PV} {v : Value} (h : Rep w (fun b => b < w.heap.size) p v) (h1 : v.oneCell' = true) : CellsRep w [p] [v] := by
  refine ⟨rfl, fun k u hk => ?_⟩
  cases k with
  | zero => simp at hk; subst hk; exact ⟨h, h1⟩
  | succ k => simp at hk
theorem CellsRep.app {w : World} {ps qs : List PV} {cs : List Value} {n : Nat} (h1 : CellsRep w ps (cs.take n)) (h2 : CellsRep w qs (cs.drop n)) (hn : n ≤ cs.length) : CellsRep w (ps ++ qs) cs := by
  have l1 := h1.1
  have l2 := h2.1
  simp only [List.length_take, List.length_drop] at l1 l2
  refine ⟨by simp; omega, fun k v hk => ?_⟩
  by_cases hl : k < ps.length
  · rw [List.getElem?_append_left hl] at hk
    have := h1.2 k v hk
    have eg : (cs.take n).getD k undef = cs.getD k undef := by simp only [List.getD]; rw [List.getElem?_take_of_lt (by omega)]
    rwa [eg] at this
  · rw [List.getElem?_append_right (by omega)] at hk
    have := h2.2 _ v hk
    have eg : (cs.drop n).getD (k - ps.length) undef = cs.getD k undef := by simp only [List.getD, List.getElem?_drop]; rw [show n + (k - ps.length) = k by omega]
    rwa [eg] at this
theorem okF_le {P : Program} {ok : TypeId → Bool} {total : Nat} : ∀ {fs : List Field} {off : Nat}, okF P ok total fs off = true → off ≤ total
  | [], off, h => Nat.le_of_eq (Nat.eq_of_beq_eq_true h)
  | f :: r, off, h => by
    simp only [okF, Bool.and_eq_true] at h
    have := okF_le h.2
    omega
theorem fields_rep {H : Type} {P : Program} {w : World} {ok : TypeId → Bool} {r : TypeId → List Value → Option (DataW H × List MemPlace)} {T : TypeId → List PV → Prop}
    (hr : ∀ t, ok t = true → ∀ cs x, r t cs = some x → ∃ ps, T t ps ∧ CellsRep w ps cs) {cs : List Value} {total : Nat} : ∀ (fs : List Field) (off : Nat), okF P ok total fs off = true → cs.length = total →
    (∀ f ∈ fs, ∃ x, r f.type ((cs.drop f.offset).take (P.cellsOf f.type)) = some x) →
    ∃ ps, CellsRep w ps (cs.drop off) ∧ ∀ f ∈ fs, off ≤ f.offset ∧ T f.type ((ps.drop (f.offset - off)).take (P.cellsOf f.type))
  | [], off, h, hl, _ => by
    have := Nat.eq_of_beq_eq_true h
    exact ⟨[], ⟨by simp; omega, fun k v hk => by simp at hk⟩, fun f hf => by simp at hf⟩
  | f :: fs, off, h, hl, hk => by
    have hle := okF_le h
    simp only [okF, Bool.and_eq_true] at h
    have ho := Nat.eq_of_beq_eq_true h.1.1
    have hle2 := okF_le h.2
    obtain ⟨x, hx⟩ := hk f (by simp)
    obtain ⟨ps, h1, h2⟩ := hr _ h.1.2 _ _ hx
    obtain ⟨qs, h3, h4⟩ := fields_rep hr fs _ h.2 hl fun g hg => hk g (by simp [hg])
    rw [ho] at h2
    rw [← List.drop_drop] at h3
    have hpl : ps.length = P.cellsOf f.type := by rw [h2.1]; simp; omega
    refine ⟨ps ++ qs, h2.app h3 (by simp; omega), fun g hg => ?_⟩
    rcases List.mem_cons.1 hg with rfl | hg
    · refine ⟨by omega, ?_⟩
      rw [ho, Nat.sub_self, List.drop_zero, ← hpl, List.take_left']
      · exact h1
      · rfl
    · obtain ⟨g1, g2⟩ := h4 g hg
      refine ⟨by omega, ?_⟩
      rw [List.drop_append, List.drop_of_length_le (by omega), List.nil_append, hpl, show g.offset - off - P.cellsOf f.type = g.offset - (off + P.cellsOf f.type) by omega]
      exact g2
theorem trod_rep {H : Type} {enc : TypeId × Value → H} {P : Program} {w : World} {held : Bool} : ∀ (d : Nat) (t : TypeId), okT P d t = true → ∀ (n : Nat) (cs : List Value) (x : DataW H × List MemPlace),
    DataW.trod enc P w 0 (fun _ => true) held n t cs = some x → ∃ ps, Typed P d t ps ∧ CellsRep w ps cs := by
  intro d
  induction d with
  | zero => intro t ht; cases ht
  | succ d ih =>
    intro t hok n cs x hx
    unfold okT at hok
    unfold Typed
    split at hok
    · rename_i hu
      try simp only [hu]
      obtain ⟨b, rfl, _⟩ := DataW.trod_bool hu hx
      exact ⟨_, ⟨_, rfl⟩, CellsRep.one (.bool _) rfl⟩
    · rename_i k hu
      try simp only [hu]
      obtain ⟨m, rfl, _, hw⟩ := DataW.trod_int hu hx
      exact ⟨_, ⟨_, rfl, hw⟩, CellsRep.one (.int _ _) rfl⟩
    · rename_i e hu
      try simp only [hu]
      simp only [Bool.and_eq_true] at hok
      have hpos : 0 < P.cellsOf e := by simpa using hok.1
      rcases DataW.trod_slice hu hx with ⟨rfl, _⟩ | ⟨a, len, cap, elems, rest, n, rfl, rfl, _, _, hle, hmax, hel, he, hr, _⟩
      · exact ⟨_, ⟨true, [], rfl, Nat.zero_le _, fun _ => rfl, fun x hx => by simp at hx⟩, CellsRep.one (.slnil _) rfl⟩
      · obtain ⟨hrl, hr⟩ := hr rfl
        have key : ∀ i, i < cap → ∃ (q : List PV × List Value), Typed P d e q.1 ∧ CellsRep w q.1 q.2 ∧ w.cells? 0 (a.add (i * P.cellsOf e)) (P.cellsOf e) = some q.2 := fun i hi => by
          have : ∃ z, (w.cells? 0 (a.add (i * P.cellsOf e)) (P.cellsOf e)).bind (DataW.trod enc P w 0 (fun _ => true) held n e) = some z := by
            by_cases hl : i < len
            · exact ⟨elems[i]'(by omega), by rw [he i hl]; simp [hel, hl]⟩
            · have := hr (i - len) (by omega)
              rw [show len + (i - len) = i by omega] at this
              exact ⟨rest[i - len]'(by omega), by rw [this, List.getElem?_eq_getElem]⟩
          obtain ⟨z, hz⟩ := this
          obtain ⟨cs', h1, h2⟩ := Option.bind_eq_some_iff.1 hz
          obtain ⟨ps, h3, h4⟩ := ih e hok.2 n cs' z h2
          exact ⟨(ps, cs'), h3, h4, h1⟩
        obtain ⟨qs, hq1, hq2⟩ := exList cap key
        have hspot : cap ≠ 0 → a.spot = none := fun hc0 => by
          obtain ⟨q, _, _, h3⟩ := key 0 (by omega)
          obtain ⟨_, h4, h5⟩ := World.cells?_some h3
          have := h5 0 hpos
          have hq0 : 0 < q.2.length := by omega
          rw [List.getElem?_eq_getElem hq0] at this
          simp only [Nat.zero_mul] at this
          have ea : (a.add 0).add 0 = a := by simp [Addr.add]
          rw [ea] at this
          unfold World.cell? at this
          split at this
          · split at this
            · cases this
            · rename_i hs; simpa using hs
          · cases this
        refine ⟨_, ⟨false, (qs.take len).map (·.1), rfl, by simp; omega, (fun h => by cases h), fun x hx => ?_⟩, CellsRep.one ?_ rfl⟩
        · obtain ⟨q, hq, rfl⟩ := List.mem_map.1 hx
          obtain ⟨i, hi⟩ := List.mem_iff_getElem?.1 (List.mem_of_mem_take hq)
          exact (hq2 i q hi).1
        · by_cases hc0 : len = 0
          · subst hc0
            simp only [List.take_zero, List.map_nil]
            exact .slz _ _ _ (fun h => by cases h)
          · have hsp := hspot (by omega)
            obtain ⟨b, off, sp⟩ := a
            simp only at hsp
            subst hsp
            have hlen : ((qs.take len).map (·.1)).length = len := by simp; omega
            have get : ∀ (i : Nat) p, ((qs.take len).map (·.1))[i]? = some p → ∃ q, qs[i]? = some q ∧ p = q.1 := fun i p hp => by
              rw [List.getElem?_map, List.getElem?_take] at hp
              split at hp
              · cases hq : qs[i]? with
                | none => rw [hq] at hp; cases hp
                | some q => rw [hq] at hp; cases hp; exact ⟨q, rfl, rfl⟩
              · cases hp
            have cell : ∀ (i : Nat) p (k : Nat) v, ((qs.take len).map (·.1))[i]? = some p → p[k]? = some v → ∃ cv, w.cell? ⟨b, off + i * P.cellsOf e + k, none⟩ = some cv ∧ Rep w (fun b => b < w.heap.size) v cv ∧ cv.oneCell' = true := fun i p k v hp hk => by
              obtain ⟨q, hq, rfl⟩ := get i p hp
              obtain ⟨_, h2, h3⟩ := hq2 i q hq
              obtain ⟨_, h4, h5⟩ := World.cells?_some h3
              have hkl := (List.getElem?_eq_some_iff.1 hk).1
              have hk2 : k < q.2.length := by rw [← h2.1]; exact hkl
              have := h5 k (by omega)
              rw [addr_add, addr_add, List.getElem?_eq_getElem hk2] at this
              refine ⟨_, this, ?_⟩
              have := h2.2 k v hk
              have eg : q.2.getD k undef = q.2[k] := by simp [List.getD, hk2]
              rw [eg] at this; exact this
            have := Rep.sl (w := w) (I := fun b => b < w.heap.size) false ((qs.take len).map (·.1)) b off cap (P.cellsOf e) (fun i k => (w.cell? ⟨b, off + i * P.cellsOf e + k, none⟩).getD undef) (by omega) (fun hf => by cases hf)
              (fun i p hp => by
                obtain ⟨q, hq, rfl⟩ := get i p hp
                obtain ⟨_, h2, h3⟩ := hq2 i q hq
                obtain ⟨_, h4, h5⟩ := World.cells?_some h3
                have := h5 0 hpos
                have hk2 : 0 < q.2.length := by omega
                rw [addr_add, addr_add, List.getElem?_eq_getElem hk2] at this
                have := World.block_lt_of_cell? w _ this
                exact ⟨this, this⟩)
              (fun i p hp => by
                obtain ⟨q, hq, rfl⟩ := get i p hp
                obtain ⟨_, h2, h3⟩ := hq2 i q hq
                obtain ⟨_, h4, h5⟩ := World.cells?_some h3
                rw [h2.1, h4])
              (fun i p k v hp hk => by obtain ⟨cv, c1, _⟩ := cell i p k v hp hk; rw [c1]; rfl)
              (fun i p k v hp hk => by obtain ⟨cv, c1, c2, _⟩ := cell i p k v hp hk; rw [c1]; exact c2)
              (fun i p k v hp hk => by obtain ⟨cv, c1, _, c3⟩ := cell i p k v hp hk; rw [c1]; exact c3)
            rw [hlen] at this
            exact this
    · rename_i fs hu
      try simp only [hu]
      obtain ⟨xs, n, rfl, _, hlen, hxl, hxs⟩ := DataW.trod_struct hu hx
      have key : ∀ f ∈ fs.toList, ∃ x, DataW.trod enc P w 0 (fun _ => true) held n f.type ((cs.drop f.offset).take (P.cellsOf f.type)) = some x := fun f hf => by
        obtain ⟨i, hi⟩ := List.mem_iff_getElem?.1 hf
        have hil := (List.getElem?_eq_some_iff.1 hi).1
        have h1 := hxs i f (by simpa using hi)
        exact ⟨xs[i]'(by simp at hil; omega), by rw [h1, List.getElem?_eq_getElem]⟩
      obtain ⟨ps, h1, h2⟩ := fields_rep (fun t ht cs x hx => ih t ht n cs x hx) fs.toList 0 hok hlen key
      rw [List.drop_zero] at h1
      refine ⟨ps, ⟨by rw [h1.1, hlen], fun f hf => ?_⟩, h1⟩
      have := (h2 f hf).2
      rwa [Nat.sub_zero] at this
    · cases hok
/-- An argument, as a tree, by its type. -/
def TypedV (P : Program) (d : Nat) (t : TypeId) (v : PV) : Prop :=
  match P.underlying t with
  | some (.struct _) => ∃ ps, v = .agg ps ∧ Typed P d t ps
  | _ => Typed P d t [v]
def TypedAll (P : Program) (d : Nat) : List TypeId → List PV → Prop
  | [], ps => ps = []
  | t :: ts, ps => ∃ v r, ps = v :: r ∧ TypedV P d t v ∧ TypedAll P d ts r
theorem arg_rep {H : Type} {enc : TypeId × Value → H} {P : Program} {w : World} {held : Bool} {r : Reach} {base : Nat} {d : Nat} {t : TypeId} (hok : okT P d t = true) {v : Value} (hv : Value.okWide P w r base t v) {x : DataW H} {ps : List MemPlace}
    (h : DataW.Trod enc P w 0 (fun _ => true) held t v x ps) : ∃ pv, TypedV P d t pv ∧ Rep w (fun b => b < w.heap.size) pv v := by
  obtain ⟨n, hn⟩ := h
  obtain ⟨qs, h1, h2⟩ := trod_rep d t hok n _ _ hn
  have one : v.cells.toList = [v] → Typed P d t qs → ∃ pv, Typed P d t [pv] ∧ Rep w (fun b => b < w.heap.size) pv v := fun hc h1 => by
    rw [hc] at h2
    match qs, h2.1 with
    | [q], _ => exact ⟨q, h1, (h2.2 0 q rfl).1⟩
  unfold TypedV
  cases d with
  | zero => cases hok
  | succ d =>
    have hok0 := hok
    unfold okT at hok
    split at hok
    · rename_i hu
      try simp only [hu]
      obtain ⟨b, hb⟩ : ∃ b, v = .bool b := by simp only [Value.okWide, hu, Cell.okWide] at hv; cases v <;> simp_all [Cell.ok]
      exact one (by rw [hb]; rfl) h1
    · rename_i k hu
      try simp only [hu]
      obtain ⟨m, rfl⟩ := okWide_int hu hv
      exact one rfl h1
    · rename_i e hu
      try simp only [hu]
      obtain ⟨a, len, cap, rfl⟩ := okWide_slice hu hv
      exact one rfl h1
    · rename_i fs hu
      try simp only [hu]
      simp only [Value.okWide, hu] at hv
      obtain ⟨cs, rfl, _, _⟩ := hv
      refine ⟨.agg qs, ⟨qs, rfl, h1⟩, .agg qs cs (by have := h2.1; simpa [Value.cells] using this.symm) (fun k u hk => ?_) (fun k u hk => ?_)⟩
      · have := (h2.2 k u hk).1; simpa [Value.cells, List.getD] using this
      · have := (h2.2 k u hk).2; simpa [Value.cells, List.getD] using this
    · cases hok
theorem args_rep {H : Type} {enc : TypeId × Value → H} {P : Program} {w : World} {held : Bool} {r : Reach} {base : Nat} {d : Nat} : ∀ {ts : List TypeId} {vs : List Value} {ds : List (DataW H)} {ps : List MemPlace}, (∀ t ∈ ts, okT P d t = true) →
    (∀ (j : Nat) t v, ts[j]? = some t → vs[j]? = some v → Value.okWide P w r base t v) → DataW.TrodAll enc P w 0 (fun _ => true) held ts vs ds ps →
    ∃ pvs, TypedAll P d ts pvs ∧ pvs.length = vs.length ∧ ds.length = ts.length ∧ ∀ (i : Nat) p, pvs[i]? = some p → Rep w (fun b => b < w.heap.size) p (vs.getD i undef)
  | [], vs, ds, ps, _, _, h => by
    cases vs <;> cases ds <;> simp [DataW.TrodAll] at h
    exact ⟨[], rfl, rfl, rfl, fun i p hi => by simp at hi⟩
  | t :: ts, vs, ds, ps, ht, hv, h => by
    obtain ⟨v, vs', x, ds', p, q, rfl, rfl, rfl, h1, h2⟩ := trodAll_cons h
    obtain ⟨pv, g1, g2⟩ := arg_rep (ht t (by simp)) (hv 0 t v rfl rfl) h1
    obtain ⟨pvs, g3, g4, g5, g6⟩ := args_rep (fun t h => ht t (by simp [h])) (fun j t v h1 h2 => hv (j + 1) t v (by simpa using h1) (by simpa using h2)) h2
    refine ⟨pv :: pvs, ⟨pv, pvs, rfl, g1, g3⟩, by simp [g4], by simp [g5], fun i u hi => ?_⟩
    cases i with
    | zero => simp at hi; subst hi; exact g2
    | succ i => simp at hi; simpa using g6 i u hi
theorem PCall.lawK {P : Program} {f : Nat} {ps : List PV} (hc : PCall P f ps fun v => v = .bool true) {args : Array Value} {w : World} (hn : args.size = ps.length)
    (hr : ∀ (i : Nat) v, ps[i]? = some v → Rep w (fun b => b < w.heap.size) v (args.getD i undef)) :
    Calls P f args w fun e w' => e = .returned (.bool true) ∧ (w.keptBut w' (fun _ => False) ∧ ∀ a, a.block < w.heap.size → w'.frozen? a = w.frozen? a) ∧ ∀ b, b < w.heap.size → w'.heap[b]? = w.heap[b]? := by
  refine (hc.2 w (fun b => b < w.heap.size) (fun _ => ⟨0, 0, 0, 0⟩) args (HRel.nil _ fun b hb => hb) (by simpa using hn) (fun i v hi => ?_)).mono fun e w' ⟨cv, r, h', I', G', e1, ⟨v, e2, hq⟩, e3, e4, e5⟩ => ?_
  · rw [List.getElem?_map] at hi
    cases hp : ps[i]? with
    | none => rw [hp] at hi; cases hi
    | some p => rw [hp] at hi; cases hi; exact .pv _ _ (hr i p hp)
  · subst e2
    subst hq
    have hno : ∀ b, ¬ Owns [] (fun _ => (⟨0, 0, 0, 0⟩ : Pl)) b := fun b ⟨o, ob, ho, _⟩ => by simp at ho
    have e5 := e5.t
    have hk : ∀ b, b < w.heap.size → w'.heap[b]? = w.heap[b]? := fun b hb => e5.keep b hb (hno b)
    have := e4.bool_eq
    subst this
    exact ⟨e1, ⟨keptBut_of e5.os e5.output hk, e5.frz⟩, hk⟩
theorem trodAll_carry {H : Type} {enc : TypeId × Value → H} {P : Program} {w w' : World} {base : Nat} {spare : Nat → Bool} {held : Bool} : ∀ {ts : List TypeId} {vs : List Value} {ds : List (DataW H)} {ps : List MemPlace}, DataW.TrodAll enc P w base spare held ts vs ds ps →
    (∀ p ∈ ps, w.sameAt w' p) → DataW.TrodAll enc P w' base spare held ts vs ds ps
  | [], [], [], ps, h, _ => h
  | t :: ts, v :: vs, d :: ds, ps, ⟨p, q, ⟨n, h1⟩, h2, e⟩, hs => ⟨p, q, ⟨n, DataW.trod_carry n t _ _ h1 fun x hx => hs x (by rw [e]; exact List.mem_append_left _ hx)⟩, trodAll_carry h2 (fun x hx => hs x (by rw [e]; exact List.mem_append_right _ hx)), e⟩
theorem postSame {H : Type} {enc : TypeId × Value → H} {P : Program} {f : Func} {s : ChangeSpec} {apart fresh handsOn again : Bool} {W W' : World} {args : Array Value} {v : Value} {ds gs : List (DataW H)} {before pa pv : List MemPlace}
    (hW : DataW.Whole enc P f.params.toList s.vars apart W args.toList ds gs before)
    (hres : ∀ (b : Nat) (sp : Nat → Bool) (hd : Bool), DataW.TrodAll enc P W' b sp hd f.resultTypes.toList (v.resultList f.resultTypes.size) (s.fn H (ds ++ gs)).results [])
    (hargs : ∀ sp : Nat → Bool, (∀ p ∈ before, sp p.block = true) → DataW.TrodAll enc P W' 0 sp true f.params.toList args.toList (s.fn H (ds ++ gs)).args pa)
    (hvars : ∀ sp : Nat → Bool, (∀ p ∈ before, sp p.block = true) → DataW.TrodVars enc P W' sp s.vars (s.fn H (ds ++ gs)).vars pv)
    (hps : before = pa ++ pv) (hk : W.keptBut W' (· ∈ before)) (hfz : ∀ a, a.block < W.heap.size → W'.frozen? a = W.frozen? a)
    (hok : ∀ (j : Nat) (t : TypeId) (r : Value), f.resultTypes[j]? = some t → (v.resultList f.resultTypes.size)[j]? = some r → Value.okWide P W' .any 0 t r) :
    s.post enc P f apart fresh handsOn again W args v W' := by
  have hlt := hW.lt
  have hold : ∀ p ∈ before, (fun b => decide (b < W.heap.size)) p.block = true := fun p hp => by simpa using hlt p hp
  refine ⟨ds, gs, before, [], pa, pv, hW, hres _ _ _, hargs _ hold, hvars _ hold, World.keptBut_mono (fun p hp => ⟨hp, ?_⟩) hk, fun _ => ?_⟩
  · rw [hps, List.mem_append] at hp
    exact Or.inr hp
  · obtain ⟨_, _, _, _, _, hz, hn⟩ := hW
    refine ⟨hok, _, _, ([] ++ pa) ++ pv, ⟨[] ++ pa, pv, trodAll_append (hargs _ (fun _ _ => rfl)) (hres _ _ _), hvars _ (fun _ _ => rfl), rfl, ?_, ?_⟩, ?_⟩
    · intro b off hp
      have hb : MemPlace.cell b off ∈ before := by rw [hps]; simpa using hp
      rw [hfz _ (hlt _ hb)]
      exact hz b off hb
    · intro ha
      have := hn ha
      rw [hps] at this
      simpa using this
    · intro p hp _
      rw [hps]
      simpa using hp
/-- THE ROW's STEP, for whatever parameters are served. -/
theorem rowStep {C : Checked} {f : FuncId} {fn : Func} {s : ChangeSpec} {apart fresh handsOn again : Bool} {tb : TypeId} {H : Type} {enc : TypeId × Value → H} {d : Nat} (hvars : s.vars = [])
    (hspec : ∀ ds : List (DataW H), ds.length = fn.params.toList.length → s.fn H ds = { results := [.lit (.bool true)], args := ds }) (hres : fn.resultTypes = #[tb]) (htb : C.prog.underlying tb = some .bool)
    (hp : ∀ t ∈ fn.params.toList, okT C.prog d t = true) (hpl : ∀ t ∈ fn.params.toList, t < C.prog.types.size) (hlaid : laidOutB C.prog = true) (hmaps : mapsRowed C.prog = true)
    (hfull : ((List.range C.prog.types.size).all fun t => match C.prog.underlying t with | some (.slice e) => decide (0 < C.prog.cellsOf e) | _ => true) = true)
    (law : ∀ pvs, TypedAll C.prog d fn.params.toList pvs → PCall C.prog f pvs fun v => v = .bool true)
    (W : World) (base : Nat) (args : Array Value) (ds gs : List (DataW H)) (before : List MemPlace) (hval : ∀ (j : Nat) t v, fn.params[j]? = some t → args[j]? = some v → Value.okWide C.prog W .any base t v)
    (hW : DataW.Whole enc C.prog fn.params.toList s.vars apart W args.toList ds gs before) :
    Calls C.prog f args W fun e W' => ∃ v, e = .returned v ∧ s.post enc C.prog fn apart fresh handsOn again W args v W' := by
  have hlt := hW.lt
  have hW0 := hW
  obtain ⟨p, q, hA, hV, rfl, hfz, hnd⟩ := hW
  rw [hvars] at hV
  obtain ⟨rfl, rfl⟩ := trodVars_none hV
  obtain ⟨pvs, h1, h2, h3, h4⟩ := args_rep (d := d) hp (fun j t v g1 g2 => hval j t v (by simpa using g1) (by simpa using g2)) hA
  refine (PCall.lawK (law pvs h1) (by simpa using h2.symm) (fun i v hi => by simpa [List.getD] using h4 i v hi)).mono fun e W' ⟨he, hg, hk⟩ => ?_
  have hz : ∀ t e, t < C.prog.types.size → C.prog.underlying t = some (.slice e) → 0 < C.prog.cellsOf e := slices_full_of _ hfull
  have hsp := hspec ds h3
  have hsame : ∀ x ∈ p, W.sameAt W' x := fun x hx => by
    have := hlt x (by simp [hx])
    cases x with
    | cell b off => exact World.cell?_of_block (w := W) (hk b this)
    | map b => exact hk b this
  refine ⟨_, he, postSame (pa := p) (pv := []) hW0 (fun b sp hd => ?_) (fun sp hs => ?_) (fun sp hs => ?_) rfl (World.keptBut_mono (fun _ f => f.elim) hg.1) hg.2 (ok_one hres rfl (okWide_bool_mk htb _))⟩
  · rw [List.append_nil, hsp, hres]
    exact trodAll_cons_mk (shut_bool htb _) trodAll_mk0
  · rw [List.append_nil, hsp]
    exact trodAll_carry (hA.respare (kids_rows hlaid hmaps) (fun t e h1 h2 => hz t e h1 h2) hpl (fun x hx => hs x (by simp [hx]))) hsame
  · rw [List.append_nil, hsp, hvars]; rfl
def flds (P : Program) (t : TypeId) : Option (List (TypeId × Nat × Nat)) :=
  match P.underlying t with
  | some (.struct fs) => some (fs.toList.map fun f => (f.type, f.offset, P.cellsOf f.type))
  | _ => none
theorem typed_struct {P : Program} {n : Nat} {t : TypeId} {ps : List PV} {l : List (TypeId × Nat × Nat)} (hf : flds P t = some l) (h : Typed P (n + 1) t ps) : ps.length = P.cellsOf t ∧ ∀ q ∈ l, Typed P n q.1 ((ps.drop q.2.1).take q.2.2) := by
  unfold flds at hf
  unfold Typed at h
  split at hf
  · rename_i fs hu
    cases hf
    rw [hu] at h
    refine ⟨h.1, fun q hq => ?_⟩
    obtain ⟨f, hf, rfl⟩ := List.mem_map.1 hq
    exact h.2 f hf
  · cases hf
theorem typed_int {P : Program} {n : Nat} {t : TypeId} {k : IntKind} {ps : List PV} (hu : P.underlying t = some (.int k)) (h : Typed P (n + 1) t ps) : ∃ m, ps = [.int k m] ∧ (Lit.int k m).wf = true := by
  unfold Typed at h; rw [hu] at h; exact h
theorem typed_bool {P : Program} {n : Nat} {t : TypeId} {ps : List PV} (hu : P.underlying t = some .bool) (h : Typed P (n + 1) t ps) : ∃ b, ps = [.bool b] := by
  unfold Typed at h; rw [hu] at h; exact h
theorem typed_slice {P : Program} {n : Nat} {t e : TypeId} {ps : List PV} (hu : P.underlying t = some (.slice e)) (h : Typed P (n + 1) t ps) : ∃ nl es, ps = [.sl nl false es] ∧ es.length ≤ maxLen ∧ (nl = true → es = []) ∧ ∀ x ∈ es, Typed P n e x := by
  unfold Typed at h; rw [hu] at h; exact h
theorem map_of_all {α β : Type} {f : α → β} {Q : α → Prop} : ∀ {l : List β}, (∀ x ∈ l, ∃ y, x = f y ∧ Q y) → ∃ m : List α, l = m.map f ∧ ∀ y ∈ m, Q y
  | [], _ => ⟨[], rfl, fun y hy => by simp at hy⟩
  | x :: r, h => by
    obtain ⟨y, rfl, hq⟩ := h x (by simp)
    obtain ⟨m, rfl, hm⟩ := map_of_all (l := r) fun z hz => h z (by simp [hz])
    refine ⟨y :: m, rfl, fun z hz => ?_⟩
    rcases List.mem_cons.1 hz with rfl | hz
    · exact hq
    · exact hm z hz
theorem typed_i32s {P : Program} {n : Nat} {t e : TypeId} {ps : List PV} (hu : P.underlying t = some (.slice e)) (he : P.underlying e = some (.int .i32)) (h : Typed P (n + 2) t ps) :
    ∃ nl l, ps = [.sl nl false (i32s l)] ∧ l.length ≤ maxLen ∧ (nl = true → l = []) ∧ ∀ x ∈ l, -2147483648 ≤ x ∧ x ≤ 2147483647 := by
  obtain ⟨nl, es, rfl, h1, h2, h3⟩ := typed_slice hu h
  obtain ⟨m, rfl, hm⟩ := map_of_all (f := fun k => [PV.int .i32 k]) (Q := fun x => (-2147483648 : Int) ≤ x ∧ x ≤ 2147483647) (l := es) fun x hx => by
    obtain ⟨k, rfl, hk⟩ := typed_int he (h3 x hx)
    exact ⟨k, rfl, wf_i32 hk⟩
  exact ⟨nl, m, rfl, by simpa using h1, fun h => by simpa using h2 h, hm⟩
theorem typedV_of {P : Program} {d : Nat} {t : TypeId} {v : PV} (h : TypedV P d t v) : (∃ ps, v = .agg ps ∧ Typed P d t ps) ∨ Typed P d t [v] := by
  unfold TypedV at h
  split at h
  · exact .inl h
  · exact .inr h
theorem typedV_plain {P : Program} {d : Nat} {t : TypeId} {v : PV} (hn : flds P t = none) (h : TypedV P d t v) : Typed P d t [v] := by
  unfold TypedV at h
  unfold flds at hn
  split at h
  · rename_i hu; rw [hu] at hn; cases hn
  · exact h
theorem typedV_struct {P : Program} {d : Nat} {t : TypeId} {v : PV} {l : List (TypeId × Nat × Nat)} (hn : flds P t = some l) (h : TypedV P d t v) : ∃ ps, v = .agg ps ∧ Typed P d t ps := by
  unfold TypedV at h
  unfold flds at hn
  split at h
  · exact h
  · rename_i hu; split at hn
    · rename_i fs hq; exact absurd hq (hu fs)
    · cases hn
end Go.Eng
set_option linter.unusedVariables false
set_option linter.unusedSimpArgs false
namespace Go.Eng
open Go
/-- Rows of a slice as the image of a list. -/
theorem szOK_map {α : Type} {enc : α → List PV} {sz : Nat} (hs : ∀ x, (enc x).length = sz) (l : List α) : szOK (l.map enc) sz := by
  intro e he
  cases l with
  | nil => simp at he
  | cons x l => simp only [List.map_cons, List.head?_cons, Option.some.injEq] at he; subst he; exact hs x
theorem getD_map {α : Type} {enc : α → List PV} {l : List α} {i : Nat} (h : i < l.length) : (l.map enc).getD i [] = enc l[i] := by
  simp [List.getD, h]
theorem idxOK_map {α : Type} {enc : α → List PV} {sz : Nat} (hs : ∀ x, (enc x).length = sz) {l : List α} {i : Int} (h0 : 0 ≤ i) (h : i < l.length) : idxOK (l.map enc) i sz := by
  refine ⟨h0, by simpa using h, ?_⟩
  rw [getD_map (by omega)]
  exact hs _
theorem drop_cons {α : Type} {l : List α} {i : Nat} (h : i < l.length) : l.drop i = l[i] :: l.drop (i + 1) := List.drop_eq_getElem_cons h
theorem iteT {c : Prop} [Decidable c] {a b : Prop} (h : c) (ha : a) : if c then a else b := by rw [if_pos h]; exact ha
theorem iteF {c : Prop} [Decidable c] {a b : Prop} (h : ¬ c) (hb : b) : if c then a else b := by rw [if_neg h]; exact hb
theorem iteD {c : Prop} [Decidable c] {a b : Prop} (ha : c → a) (hb : ¬ c → b) : if c then a else b := by
  by_cases h : c
  · rw [if_pos h]; exact ha h
  · rw [if_neg h]; exact hb h
end Go.Eng
set_option linter.unusedVariables false
set_option linter.unusedSimpArgs false
namespace Go.Eng
open Go
/-! ### Maps as lists of pairs -/
def encM {α β : Type} (ek : α → PV) (ev : β → PV) (M : List (α × β)) : List (PV × PV) := M.map fun p => (ek p.1, ev p.2)
def aget {α β : Type} [DecidableEq α] (a : α) : List (α × β) → Option β
  | [] => none
  | (x, y) :: r => if a = x then some y else aget a r
def aset {α β : Type} [DecidableEq α] (a : α) (b : β) : List (α × β) → List (α × β)
  | [] => [(a, b)]
  | (x, y) :: r => if a = x then (a, b) :: r else (x, y) :: aset a b r
theorem encM_len {α β : Type} {ek : α → PV} {ev : β → PV} (M : List (α × β)) : (encM ek ev M).length = M.length := by simp [encM]
section
variable {α β : Type} [DecidableEq α] {ek : α → PV} {ev : β → PV}
theorem mapPos_enc (hk : ∀ a b, eqKey (ek a) (ek b) = decide (a = b)) (a : α) : ∀ (M : List (α × β)), (mapPos (ek a) (encM ek ev M) = none ∧ aget a M = none ∧ ∀ b, aset a b M = M ++ [(a, b)]) ∨
    ∃ j y, mapPos (ek a) (encM ek ev M) = some j ∧ M[j]? = some (a, y) ∧ aget a M = some y ∧ ∀ b, aset a b M = M.set j (a, b)
  | [] => .inl ⟨rfl, rfl, fun _ => rfl⟩
  | (x, y) :: r => by
    simp only [encM, List.map_cons, mapPos, hk, aget, aset]
    by_cases h : a = x
    · subst h
      simp only [decide_true, cond_true, if_true]
      exact .inr ⟨0, y, rfl, rfl, rfl, fun b => rfl⟩
    · simp only [h, decide_false, cond_false, if_false]
      rcases mapPos_enc hk a r with ⟨h1, h2, h3⟩ | ⟨j, z, h1, h2, h3, h4⟩
      · refine .inl ⟨?_, h2, fun b => by rw [h3]; rfl⟩
        show (mapPos (ek a) (encM ek ev r)).map _ = none
        rw [h1]; rfl
      · refine .inr ⟨j + 1, z, ?_, by simpa using h2, h3, fun b => by rw [h4]; rfl⟩
        show (mapPos (ek a) (encM ek ev r)).map _ = _
        rw [h1]; rfl
theorem mapGet_enc (hk : ∀ a b, eqKey (ek a) (ek b) = decide (a = b)) (a : α) (M : List (α × β)) : mapGet (ek a) (encM ek ev M) = (aget a M).map ev := by
  unfold mapGet
  rcases mapPos_enc (ev := ev) hk a M with ⟨h1, h2, h3⟩ | ⟨j, z, h1, h2, h3, h4⟩
  · rw [h1, h2]; rfl
  · rw [h1, h3]
    simp only [Option.map_some, encM, List.getD, List.getElem?_map, h2, Option.getD_some]
theorem mapSet_enc (hk : ∀ a b, eqKey (ek a) (ek b) = decide (a = b)) (a : α) (b : β) (M : List (α × β)) : mapSet (ek a) (ev b) (encM ek ev M) = encM ek ev (aset a b M) := by
  unfold mapSet
  rcases mapPos_enc (ev := ev) hk a M with ⟨h1, h2, h3⟩ | ⟨j, z, h1, h2, h3, h4⟩
  · rw [h1, h3]; simp [encM]
  · rw [h1, h4]
    simp only [encM, List.map_set]
theorem aget_aset (x a : α) (b : β) : ∀ (M : List (α × β)), aget x (aset a b M) = if x = a then some b else aget x M
  | [] => rfl
  | (u, v) :: r => by
    simp only [aset]
    by_cases h : a = u
    · subst h
      simp only [if_true, aget]
      by_cases h2 : x = a <;> simp [h2]
    · simp only [h, if_false, aget, aget_aset x a b r]
      by_cases h2 : x = u
      · subst h2; have : ¬ x = a := fun e => h e.symm; simp [this]
      · simp [h2]
theorem aget_none {a : α} : ∀ {M : List (α × β)}, aget a M = none ↔ a ∉ M.map (·.1)
  | [] => by simp [aget]
  | (u, v) :: r => by
    simp only [aget, List.map_cons, List.mem_cons, not_or]
    by_cases h : a = u
    · simp [h]
    · simp [h, aget_none]
theorem aset_keys (a : α) (b : β) (M : List (α × β)) : (aset a b M).map (·.1) = if a ∈ M.map (·.1) then M.map (·.1) else M.map (·.1) ++ [a] := by
  induction M with
  | nil => simp [aset]
  | cons p r ih =>
    obtain ⟨u, v⟩ := p
    simp only [aset]
    by_cases h : a = u
    · subst h; simp
    · simp only [h, if_false, List.map_cons, ih, List.mem_cons, false_or]
      split <;> simp
theorem aset_nodup {a : α} {b : β} {M : List (α × β)} (h : (M.map (·.1)).Nodup) : ((aset a b M).map (·.1)).Nodup := by
  rw [aset_keys]
  split
  · exact h
  · rename_i hn
    refine List.nodup_append.2 ⟨h, by simp, fun x hx y hy => ?_⟩
    simp only [List.mem_singleton] at hy
    subst hy
    exact fun e => hn (e ▸ hx)
theorem mem_aset_keys {x a : α} {b : β} {M : List (α × β)} : x ∈ (aset a b M).map (·.1) ↔ x ∈ M.map (·.1) ∨ x = a := by
  rw [aset_keys]
  split
  · rename_i h; exact ⟨.inl, fun h' => h'.elim id fun e => e ▸ h⟩
  · simp
theorem aset_len (a : α) (b : β) (M : List (α × β)) : (aset a b M).length ≤ M.length + 1 := by
  have := congrArg List.length (aset_keys a b M)
  rw [List.length_map] at this
  rw [this]
  split <;> simp
end
theorem eqKey_int (q : IntKind) (a b : Int) : eqKey (.int q a) (.int q b) = decide (a = b) := by
  show (a == b) = _
  by_cases h : a = b <;> simp [h]
theorem keysInt_enc {q : IntKind} {β : Type} {ev : β → PV} (M : List (Int × β)) : keysInt q (encM (fun n => .int q n) ev M) := by
  intro kv h
  simp only [encM, List.mem_map] at h
  obtain ⟨p, _, rfl⟩ := h
  exact ⟨_, rfl⟩
theorem perm_erase {α : Type} : ∀ {M : List α} {j : Nat} (hj : j < M.length), (M[j] :: M.eraseIdx j).Perm M
  | x :: M, 0, _ => List.Perm.refl _
  | x :: M, j + 1, hj => by
    simp only [List.getElem_cons_succ, List.eraseIdx_cons_succ]
    exact (List.Perm.swap _ _ _).trans ((perm_erase (by simpa using hj)).cons x)
theorem map_erase {α β : Type} (f : α → β) : ∀ (M : List α) (j : Nat), (M.map f).eraseIdx j = (M.eraseIdx j).map f
  | [], _ => by simp
  | x :: M, 0 => rfl
  | x :: M, j + 1 => by simp [map_erase f M j]
theorem enc_at {α β : Type} {ek : α → PV} {ev : β → PV} {M : List (α × β)} {j : Nat} {k v : PV} (h : (encM ek ev M)[j]? = some (k, v)) : ∃ (hj : j < M.length), k = ek M[j].1 ∧ v = ev M[j].2 ∧ (M[j] :: M.eraseIdx j).Perm M ∧ (encM ek ev M).eraseIdx j = encM ek ev (M.eraseIdx j) := by
  simp only [encM, List.getElem?_map] at h
  cases hq : M[j]? with
  | none => rw [hq] at h; cases h
  | some p =>
    rw [hq] at h; cases h
    obtain ⟨hj, hp⟩ := List.getElem?_eq_some_iff.1 hq
    refine ⟨hj, by rw [hp], by rw [hp], perm_erase hj, ?_⟩
    exact map_erase _ _ _
end Go.Eng
