/- States run over the code: what each function gives, and what follows. -/
import Derived.Test.YtijgnoilmmppcaaGreatFo4Tc
open Go.IntKind (i64 i32)
set_option linter.unusedVariables false
set_option linter.unusedSimpArgs false
set_option maxRecDepth 100000
set_option linter.constructorNameAsVariable false
namespace Go.Eng
open Go Go.Proofs Go.Eng.Rows Go.Eng.Trie Go.Eng.Srt
theorem zjb {len : Nat} {j : Int} (h0 : 0 <= j) (h2 : j <= len) : c6 len none (some j) none := ⟨Int.le_refl _, h0, h2, trivial⟩
theorem zav {len : Nat} {i : Int} (h0 : 0 <= i) (h2 : i <= len) : c6 len (some i) none none := ⟨h0, h2, Int.le_refl _, trivial⟩
section
variable {rows : List Row} {v : PV}
theorem zjc (hv : dM rows v) {r : Int} (hr : -2147483648 <= r /\ r <= 2147483647) : PCall Tryz.prog 79 [.int .i32 r, .ptr [v]] fun x => x = .bool (aG rows 1 r != 0) := by
 obtain ⟨tc, tg, tj, tf, tp, made, sec, rfl, ht, hm⟩ := hv
 refine zsd _ _ ?_; unfold zhv
 refine .inl ⟨_, rfl, ?_⟩
 refine (p9 _ _ ht hr).mono ?_
 rintro _ rfl
 exact ⟨_, rfl, rfl⟩
theorem zt5 (hv : dM rows v) (n f : Bool) (L : List Int) (hr : R32 L) (hL : L.length < 1000000000000) : PCall Tryz.prog 119 [.sl n f (aA L), .fn 79 [.ptr [v]]] fun x => ∃ m : Int, x = .int .i64 m /\
 ((m = -1 /\ ∀ x ∈ L, aG rows 1 x = 0) ∨ (0 <= m /\ m < L.length /\ (∀ x ∈ L.take m.toNat, aG rows 1 x = 0) /\ aG rows 1 (L.getD m.toNat 0) ≠ 0)) := by
 refine zse _ _ _ _ (fun i => (0 <= i /\ i <= L.length) /\ ∀ x ∈ L.take i.toNat, aG rows 1 x = 0) (fun i => L.length - i.toNat) ?_
 unfold zhw
 refine ⟨⟨rfl, ⟨Int.le_refl _, by omega⟩, fun x hx => by simp at hx⟩, ?_⟩
 rintro i ⟨⟨i0, i1⟩, hz⟩
 refine aD (fun hc => ?_) (fun hc => ?_)
 ·simp only [decide_eq_true_eq, aS] at hc
  have hi : i.toNat < L.length := by omega
  obtain ⟨g1, g2⟩ := gQ i0 hi
  have hw : i64.wrap (i + 1) = i + 1 := aC (by omega) (by omega)
  rw [hw]
  refine ⟨g1, _, by rw [g2]; rfl, ?_⟩
  refine (zjc hv (fQ hr _)).mono ?_
  rintro _ rfl
  refine ⟨_, rfl, aD (fun h => ?_) (fun h => ?_)⟩
  ·simp only [bne_iff_ne, ne_eq] at h
   exact ⟨i, rfl, .inr ⟨i0, hc, hz, h⟩⟩
  ·simp only [bne_iff_ne, ne_eq, Decidable.not_not] at h
   refine ⟨rfl, ⟨⟨by omega, by omega⟩, fun x hx => ?_⟩, by dsimp only; omega⟩
   rw [show (i + 1).toNat = i.toNat + 1 by omega, bW hi] at hx
   rcases List.mem_append.1 hx with hx | hx
   ·exact hz x hx
   ·rw [List.mem_singleton.1 hx]
    rw [show L.getD i.toNat 0 = L[i.toNat] by simp [List.getD, hi]] at h; exact h
 ·simp only [decide_eq_true_eq, aS] at hc
  rw [List.take_of_length_le (by omega)] at hz
  exact ⟨-1, rfl, .inl ⟨rfl, hz⟩⟩
def jY (rows : List Row) (r : Int) : Bool := decide (aG rows 1 r = 0)
theorem zt6 (hv : dM rows v) (nl : Bool) (L : List Int) (hr : R32 L) (hL : L.length < 1000000000000) : ACall Tryz.prog 77 [.own 0, .fn 79 [.box 1 0]] [.sl (21, 1) false nl (aA L), .box [.pv v]] fun r h' =>
 (r = .own 0 /\ L.filter (jY rows) = L /\ h' = [.sl (21, 1) false nl (aA L), .box [.pv v]]) ∨
 (∃ es k, r = .sub 0 0 k /\ h' = [.sl (21, 1) false nl es, .box [.pv v]] /\ es.length = L.length /\ es.take k = aA (L.filter (jY rows))) := by
 refine zsf nl (aA L) v (fun i j s => (0 <= i /\ i < j /\ j <= L.length) /\ ∃ M : List Int, s = aA M /\ M.length = L.length /\ M.take i.toNat = (L.take j.toNat).filter (jY rows) /\ M.drop j.toNat = L.drop j.toNat) (fun _ j _ => L.length - j.toNat) ?_
 unfold zhx
 refine (zt5 hv nl false L hr hL).mono ?_
 rintro _ ⟨m, rfl, hm⟩
 refine ⟨m, rfl, rfl, ?_⟩
 rcases hm with ⟨rfl, hall⟩ | ⟨m0, m1, hall, hne⟩
 ·refine bK rfl (.inl ⟨rfl, ?_, rfl⟩)
  exact List.filter_eq_self.2 fun x hx => decide_eq_true (hall x hx)
 ·refine bL (by simp; omega) ?_
  have hmi : m.toNat < L.length := by omega
  have hw : i64.wrap (m + 1) = m + 1 := aC (by omega) (by omega)
  rw [hw]
  refine ⟨⟨rfl, ⟨m0, by omega, by omega⟩, L, rfl, rfl, ?_, rfl⟩, ?_⟩
  ·rw [show (m + 1).toNat = m.toNat + 1 by omega, bW hmi, List.filter_append]
   have e1 : (L.take m.toNat).filter (jY rows) = L.take m.toNat := List.filter_eq_self.2 fun x hx => decide_eq_true (hall x hx)
   have e2 : [L[m.toNat]].filter (jY rows) = [] := by
    rw [show L.getD m.toNat 0 = L[m.toNat] by simp [List.getD, hmi]] at hne
    simp [jY, hne]
   rw [e1, e2, List.append_nil]
  rintro i j _ ⟨⟨i0, ij, j1⟩, M, rfl, hml, htk, hdr⟩
  refine aD (fun hc => ?_) (fun hc => ?_)
  ·simp only [decide_eq_true_eq, aS] at hc
   have hj : j.toNat < L.length := by omega
   have hjM : j.toNat < M.length := by omega
   have hiM : i.toNat < M.length := by omega
   obtain ⟨g1, g2⟩ := gO (l := M) (i := j) (by omega) hjM
   obtain ⟨k1, k2⟩ := gO (l := M) (i := i) i0 hiM
   have hMj : M[j.toNat] = L[j.toNat] := by
    have := congrArg (fun l => l[0]?) hdr
    simpa [hj, hjM] using this
   have hdr2 : M.drop (j.toNat + 1) = L.drop (j.toNat + 1) := by
    have := congrArg (List.drop 1) hdr
    rwa [List.drop_drop, List.drop_drop] at this
   have hwi : i64.wrap (i + 1) = i + 1 := aC (by omega) (by omega)
   have hwj : i64.wrap (j + 1) = j + 1 := aC (by omega) (by omega)
   rw [hwi, hwj]
   refine ⟨g1, _, by rw [List.drop_zero, g2]; rfl, ?_⟩
   rw [hMj]
   refine (zjc hv (hr _ (List.getElem_mem hj))).mono ?_
   rintro _ rfl
   refine ⟨_, rfl, rfl, aD (fun h => ?_) (fun h => ?_)⟩
   ·simp only [Bool.not_eq_true', bne_eq_false_iff_eq] at h
    refine ⟨k1, ⟨rfl, by rw [k2]; exact Nat.le_refl _⟩, ?_⟩
    rw [set1 k2, show (aA M).set i.toNat [PV.int .i32 L[j.toNat]] = aA (M.set i.toNat L[j.toNat]) by simp [aA, List.map_set]]
    refine ⟨rfl, ⟨⟨by omega, by omega, by omega⟩, M.set i.toNat L[j.toNat], rfl, by rw [List.length_set]; exact hml, ?_, ?_⟩, by dsimp only; omega⟩
    ·rw [show (i + 1).toNat = i.toNat + 1 by omega, show (j + 1).toNat = j.toNat + 1 by omega, bW (by rw [List.length_set]; exact hiM), bW hj, List.filter_append, List.take_set_of_le (Nat.le_refl _), htk, List.getElem_set_self]
     congr 1
     simp [jY, h]
    ·rw [show (j + 1).toNat = j.toNat + 1 by omega, List.drop_set_of_lt (by omega), hdr2]
   ·simp only [Bool.not_eq_true', bne_eq_false_iff_eq] at h
    refine ⟨rfl, ⟨⟨i0, by omega, by omega⟩, M, rfl, hml, ?_, ?_⟩, by dsimp only; omega⟩
    ·rw [show (j + 1).toNat = j.toNat + 1 by omega, bW hj, List.filter_append, htk]
     have : [L[j.toNat]].filter (jY rows) = [] := by simp [jY, h]
     rw [this, List.append_nil]
    ·rw [show (j + 1).toNat = j.toNat + 1 by omega, hdr2]
  ·simp only [decide_eq_true_eq, aS] at hc
   have hsl : (aO (aA M) i.toNat (List.replicate (((aA M).length : Int).toNat - i.toNat) [PV.int .i32 0])).length = M.length := by
    rw [gY _ _ _ (by rw [List.length_replicate, aS]; omega), aS]
   refine ⟨zav i0 (by rw [aS]; omega), zjb i0 (by rw [hsl]; omega), .inr ⟨_, i.toNat, rfl, rfl, by rw [hsl]; exact hml, ?_⟩⟩
   rw [List.take_of_length_le (l := L) (by omega)] at htk
   rw [<- htk]
   unfold aO
   rw [List.append_assoc, List.take_append_of_le_length (by rw [List.length_take, aS]; omega), List.take_take, Nat.min_self]
   simp [aA]
theorem zaw (hp : dD rows) (hk : dN rows) (hv : dM rows v) (n f : Bool) (L : List Int) (hr : R32 L) (hL : L.length < 1000000) : PCall Tryz.prog 35 [v, .sl n f (aA L)] fun x => ∃ n f, x = .sl n f (aA (cX rows L)) := by
 have hv' := hv
 have h1 := zh7 hp hk hv n f L hr hL
 obtain ⟨tc, tg, tj, tf, tp, made, sec, rfl, ht, hm⟩ := hv
 refine zsh _ _ _ _ _ _ _ _ _ _ ?_; unfold zhz
 refine h1.mono ?_
 rintro _ _ ⟨nl, rfl, rfl⟩
 refine ⟨(nl, _), ⟨rfl, rfl⟩, trivial, ?_⟩
 refine (zt6 hv' nl (cR rows L) (zW hk hp hr) (zZ hk hL)).mono ?_
 rintro _ _ (⟨rfl, he, rfl⟩ | ⟨es, k, rfl, rfl, hl, he⟩)
 ·refine .inl ⟨_, ⟨rfl, rfl⟩, ⟨trivial, ⟨rfl, rfl, rfl⟩, trivial⟩, nl, false, ?_⟩
  rw [<- he]; rfl
 ·refine .inr ⟨(es, k), ⟨rfl, rfl⟩, ⟨trivial, ⟨rfl, rfl, by rw [hl]; exact List.length_map _⟩, trivial⟩, nl, false, ?_⟩
  show PV.sl nl false (List.take (k - 0) (List.drop 0 es)) = _
  rw [Nat.sub_zero, List.drop_zero, he]; rfl
theorem zt7 (hp : dD rows) (hk : dN rows) (hv : dM rows v) (n f : Bool) (L : List Int) (hr : R32 L) (hL : L.length < 1000000) : PCall Tryz.prog 36 [v, .sl n f (aA L)] fun x => x = .int .i64 (uA rows L : Nat) := by
 have h1 : PCall Tryz.prog 78 [v, .sl n f (aA L)] fun x => ∃ n f, x = .sl n f (aA (cR rows L)) := PCall.ofA (args := [_, _]) (zh7 hp hk hv n f L hr hL) fun r h' ⟨nl, hr, hh⟩ => by subst hr; subst hh; exact ⟨_, rfl, _, _, rfl⟩
 obtain ⟨tc, tg, tj, tf, tp, made, sec, rfl, ht, hm⟩ := hv
 have hll := zZ hk hL
 have hrr := zW hk hp hr
 refine zsk _ _ _ _ _ _ _ _ _ _ (fun c n1 f1 s x i => s = aA (cR rows L) /\ x = (cR rows L).length /\ (0 <= i /\ i <= (cR rows L).length) /\ c = (((cR rows L).take i.toNat).filter fun r => !decide (aG rows 1 r = 0)).length) (fun _ _ _ _ _ i => (cR rows L).length - i.toNat) ?_
 unfold zh2
 refine h1.mono ?_
 rintro _ ⟨n1, f1, rfl⟩
 unfold uA
 generalize cR rows L = D at *
 refine ⟨_, _, _, rfl, ⟨rfl, rfl, by rw [aS], ⟨Int.le_refl _, by omega⟩, rfl⟩, ?_⟩
 rintro c n10 f10 _ _ i ⟨rfl, rfl, ⟨i0, i1⟩, rfl⟩
 refine aD (fun hc => ?_) (fun hc => ?_)
 ·simp only [decide_eq_true_eq] at hc
  have hi : i.toNat < D.length := by omega
  obtain ⟨g1, g2⟩ := gO i0 hi
  have hw : i64.wrap (i + 1) = i + 1 := aC (by omega) (by omega)
  have hcl : ((D.take i.toNat).filter fun r => !decide (aG rows 1 r = 0)).length <= i.toNat := Nat.le_trans (List.length_filter_le _ _) (by rw [List.length_take]; omega)
  refine ⟨g1, _, by rw [g2]; rfl, ?_⟩
  refine (p9 _ _ ht (hrr _ (List.getElem_mem hi))).mono ?_
  rintro _ rfl
  rw [hw]
  refine ⟨_, rfl, aD (fun h => ?_) (fun h => ?_)⟩
  ·simp only [bne_iff_ne, ne_eq] at h
   have hw2 : i64.wrap ((((D.take i.toNat).filter fun r => !decide (aG rows 1 r = 0)).length : Int) + 1) = (((D.take i.toNat).filter fun r => !decide (aG rows 1 r = 0)).length : Int) + 1 := aC (by omega) (by omega)
   rw [hw2]
   refine ⟨rfl, ⟨rfl, rfl, ⟨by omega, by omega⟩, ?_⟩, by dsimp only; omega⟩
   rw [show (i + 1).toNat = i.toNat + 1 by omega, bW hi, List.filter_append, List.length_append]
   have : ([D[i.toNat]].filter fun r => !decide (aG rows 1 r = 0)) = [D[i.toNat]] := by simp [h]
   rw [this, List.length_singleton]; omega
  ·simp only [bne_iff_ne, ne_eq, Decidable.not_not] at h
   refine ⟨rfl, ⟨rfl, rfl, ⟨by omega, by omega⟩, ?_⟩, by dsimp only; omega⟩
   rw [show (i + 1).toNat = i.toNat + 1 by omega, bW hi, List.filter_append, List.length_append]
   have : ([D[i.toNat]].filter fun r => !decide (aG rows 1 r = 0)) = [] := by simp [h]
   rw [this, List.length_nil]; omega
 ·simp only [decide_eq_true_eq] at hc
  rw [List.take_of_length_le (by omega)]
end
end Go.Eng



namespace Go.Eng
open Go Go.Proofs Go.Eng.Rows Go.Eng.Trie Go.Eng.Srt
theorem zjd : ∀ {C : List (List Int)}, (∀ c ∈ C, c ≠ []) -> C.length <= C.flatten.length
 | [], _ => Nat.le_refl _
 | c :: C, h => by
   have h1 := List.length_pos_iff.2 (h c List.mem_cons_self)
   have := zjd fun x hx => h x (List.mem_cons_of_mem c hx)
   rw [List.flatten_cons, List.length_append, List.length_cons]; omega
theorem uF (rows : List Row) (L : List Int) : (cA rows L 0).length <= L.length := by
 have := zjd (zim (rows := rows) (L := L) L.length 0 (by omega))
 rwa [mA] at this
theorem zt8 {rows : List Row} {L c : List Int} (h : c ∈ cA rows L 0) : ∀ x ∈ c, x ∈ L := fun x hx => by
 have : x ∈ (cA rows L 0).flatten := List.mem_flatten.2 ⟨c, h, hx⟩
 rwa [mA] at this
theorem zje {rows : List Row} {L c : List Int} (hr : R32 L) (h : c ∈ cA rows L 0) : R32 c := fun x hx => hr x (zt8 h x hx)
theorem zt9 {C : List (List Int)} {c : List Int} (h : c ∈ C) : c.length <= C.flatten.length := by
 induction C with
 | nil => cases h
 | cons d C ih =>
   rw [List.flatten_cons, List.length_append]
   rcases List.mem_cons.1 h with rfl | h
   ·omega
   ·have := ih h; omega
theorem zax {rows : List Row} {L c : List Int} (h : c ∈ cA rows L 0) : c.length <= L.length := by
 have := zt9 h
 rwa [mA] at this
theorem kV {α : Type} {l : List α} {i : Nat} (d : α) (h : i < l.length) : l.getD i d = l[i] := by simp [List.getD, h]
def qP (rows : List Row) (C : List (List Int)) (s : List (List PV)) : Prop := s.length = C.length /\ ∀ i, i < C.length -> ∃ n f, s.getD i [] = [.int .i64 (cY C i : Nat), .int .i64 (cY C (i + 1) : Nat), .sl n f (aA (cX rows (C.getD i [])))]
def zjf : Option (Nat × Nat) -> PV
 | some (a, b) => .tup [.int .i64 a, .int .i64 b, .bool true]
 | none => .tup [.int .i64 0, .int .i64 0, .bool false]
section
variable {rows : List Row} {v : PV}
theorem qAt {C : List (List Int)} {Q : List (Bool × Bool × List Int)} (hQ : Q.map (fun q => q.2.2) = C) {i : Int} (i0 : 0 <= i) (hi : i.toNat < C.length) : aL (Q.map gT) i 1 /\ ∃ n f, (Q.map gT).getD i.toNat [] = [.sl n f (aA (C.getD i.toNat []))] := by
 subst hQ
 rw [List.length_map] at hi
 refine ⟨bP zau i0 (by omega), Q[i.toNat].1, Q[i.toNat].2.1, ?_⟩
 rw [cJ hi, kV [] (by rw [List.length_map]; exact hi), List.getElem_map]; rfl
theorem zjg (ht : eH rows) (hp : dD rows) (hk : dN rows) (hv : dM rows v) (n f : Bool) (L : List Int) (hn0 : n = true -> L = []) (hr : R32 L) (hL : L.length < 100000) :
 PCall Tryz.prog 69 [v, .sl n f (aA L)] fun x => ∃ (n f : Bool) (s : List (List PV)), x = .sl n f s /\ qP rows (cA rows L 0) s := by
 have h1 := ztt ht hv n f L hn0 hr (by omega)
 have h2 := fun n f c hc => zaw hp hk hv n f c (zje (rows := rows) hr hc) (by have := zax hc; omega)
 obtain ⟨tc, tg, tj, tf, tp, made, sec, rfl, ht', hm⟩ := hv
 have hcc := uF rows L
 have hfl : (cA rows L 0).flatten.length = L.length := by rw [mA]
 generalize cA rows L 0 = C at *
 refine zsi _ _ _ _ _ _ _ _ _ _
  (fun x6 n11 f11 s11 x12 x13 _ s => (∃ Q : List (Bool × Bool × List Int), s11 = Q.map gT /\ Q.map (fun q => q.2.2) = C) /\ x12 = C.length /\ (0 <= x13 /\ x13 <= C.length) /\ x6 = (cY C x13.toNat : Nat) /\ s.length = x13.toNat /\
   ∀ i, i < x13.toNat -> ∃ n f, s.getD i [] = [.int .i64 (cY C i : Nat), .int .i64 (cY C (i + 1) : Nat), .sl n f (aA (cX rows (C.getD i [])))]) (fun _ _ _ _ _ x13 _ _ => C.length - x13.toNat) ?_
 unfold zh0
 refine h1.mono ?_
 rintro _ ⟨n1, Q, rfl, hQ, _, _⟩
 refine ⟨_, _, _, rfl, ⟨rfl, ⟨Q, rfl, hQ⟩, by rw [List.length_map, <- hQ, List.length_map], ⟨Int.le_refl _, by omega⟩, by simp [cY], rfl, fun i hi => by simp at hi⟩, ?_⟩
 rintro x6 n11 f11 _ _ x13 n0 s ⟨⟨Q, rfl, hQ⟩, rfl, ⟨i0, i1⟩, rfl, hsl, hs⟩
 refine aD (fun hc => ?_) (fun hc => ?_)
 ·simp only [decide_eq_true_eq] at hc
  have hi : x13.toNat < C.length := by omega
  obtain ⟨g1, n2, f2, g2⟩ := qAt hQ i0 hi
  have hmem : C.getD x13.toNat [] ∈ C := by rw [kV [] hi]; exact List.getElem_mem hi
  have hps := zig hi
  have hpl := zam C (x13.toNat + 1)
  have hw : i64.wrap (((cY C x13.toNat : Nat) : Int) + ((aA (C.getD x13.toNat [])).length : Int)) = (cY C (x13.toNat + 1) : Nat) := by
   rw [aS, aC (by omega) (by omega)]; omega
  have hwi : i64.wrap (x13 + 1) = x13 + 1 := aC (by omega) (by omega)
  refine ⟨g1, _, _, _, by rw [g2]; rfl, ?_⟩
  refine (h2 n2 f2 _ hmem).mono ?_
  rintro _ ⟨n3, f3, rfl⟩
  rw [hw, hwi]
  refine ⟨_, _, _, rfl, ⟨fun e he => by cases he; rfl, by omega⟩, rfl, ⟨⟨Q, rfl, hQ⟩, rfl, ⟨by omega, by omega⟩, by rw [show (x13 + 1).toNat = x13.toNat + 1 by omega], by rw [List.length_append, List.length_singleton]; omega, fun i hil => ?_⟩, by dsimp only; omega⟩
  by_cases hie : i < x13.toNat
  ·obtain ⟨n4, f4, h4⟩ := hs i hie
   exact ⟨n4, f4, by rw [<- h4]; simp [List.getD, List.getElem?_append_left (show i < s.length by omega)]⟩
  ·have : i = x13.toNat := by omega
   subst this
   exact ⟨n3, f3, by rw [List.getD, List.getElem?_append_right (by omega), hsl, Nat.sub_self]; rfl⟩
 ·simp only [decide_eq_true_eq] at hc
  have hxe : x13.toNat = C.length := by omega
  exact ⟨n0, false, s, rfl, by omega, fun i hi => hs i (by omega)⟩
theorem zjh (ht : eH rows) (hp : dD rows) (hk : dN rows) (hv : dM rows v) (n f n2 f2 : Bool) (L P : List Int) (hn0 : n = true -> L = []) (hr : R32 L) (hL : L.length < 100000) (hr2 : R32 P) (hL2 : P.length < 1000000) :
 PCall Tryz.prog 27 [v, .sl n f (aA L), .sl n2 f2 (aA P)] fun x => x = zjf (uC rows L P) := by
 have h1 := zjg ht hp hk hv n f L hn0 hr hL
 have h2 := zaw hp hk hv n2 f2 P hr2 hL2
 have hwl := uB hk P
 have hkl := fun (c : List Int) (hc : c ∈ cA rows L 0) => (Nat.le_trans (uB hk c) (Nat.mul_le_mul_left 768 (zax hc)))
 obtain ⟨tc, tg, tj, tf, tp, made, sec, rfl, ht', hm⟩ := hv
 have hcc := uF rows L
 unfold uC
 generalize hwant : cX rows P = want at *
 generalize cA rows L 0 = C at *
 obtain ⟨ks, hks⟩ : ∃ ks, ks = C.map (cX rows) := ⟨_, rfl⟩
 have hksl : ks.length = C.length := by rw [hks, List.length_map]
 have hkg : ∀ i, i < C.length -> ks.getD i [] = cX rows (C.getD i []) := fun i hi => by
  rw [hks, kV [] (by rw [List.length_map]; exact hi), List.getElem_map, kV [] hi]
 rw [<- hks]
 refine zsj _ _ _ _ _ _ _ _ _ _ _ _ _
  (fun n9 f9 s9 n10 f10 s10 x26 x27 => s9 = aA want /\ qP rows C s10 /\ x26 = C.length /\ (0 <= x27 /\ x27 <= C.length) /\ gP ks want 0 C.length = gP ks want x27.toNat (C.length - x27.toNat)) (fun _ _ _ _ _ _ _ x27 => C.length - x27.toNat)
  (fun _ _ _ _ _ _ _ _ _ _ _ _ y27 _ _ _ _ _ n9 f9 s9 n10 f10 s10 x11 n12 f12 s12 x13 x26 x27 n33 f33 s33 x34 x35 => s9 = aA want /\ qP rows C s10 /\ x26 = C.length /\ (y27 = x27 /\ y27 = x11 /\ x13 = true) /\ (0 <= y27 /\ y27 < C.length) /\ s33 = s10.drop y27.toNat /\ x34 = C.length - y27 /\ (0 <= x35 /\ x35 <= x34) /\
   gP ks want 0 C.length = gP ks want y27.toNat (C.length - y27.toNat) /\
   ∃ rest key : List Int, s12 = aA rest /\ rest ≠ [] /\ key ++ rest = want /\ key.length + jX ks (y27.toNat + x35.toNat) = jX ks y27.toNat /\ iE ks want [] y27.toNat (C.length - y27.toNat) = inK ks rest (y27.toNat + x35.toNat) (C.length - y27.toNat - x35.toNat))
  (fun _ _ _ _ _ _ _ _ _ _ _ _ _ _ _ _ x34 x35 => (x34 - x35).toNat) ?_
 unfold zh1
 refine h2.mono ?_
 rintro _ ⟨n1, f1, rfl⟩
 refine ⟨_, _, _, rfl, aD (fun hc => ?_) (fun hc => ?_)⟩
 ·simp only [beq_iff_eq, aS] at hc
  have : want = [] := List.eq_nil_of_length_eq_zero (by omega)
  rw [if_pos this]; rfl
 simp only [beq_iff_eq, aS] at hc
 have hw0 : want ≠ [] := fun e => by rw [e] at hc; exact hc rfl
 rw [if_neg hw0]
 refine h1.mono ?_
 rintro _ ⟨n3, f3, s, rfl, hs⟩
 refine ⟨_, _, _, rfl, ⟨rfl, rfl, hs, by rw [hs.1], ⟨Int.le_refl _, by omega⟩, rfl⟩, ?_⟩
 rintro n9 f9 _ n10 f10 s10 _ i ⟨rfl, hs10, rfl, ⟨i0, i1⟩, ho⟩
 have hdl : List.take ((s10.length : Int)).toNat s10 = s10 := List.take_of_length_le (by omega)
 have szd : ∀ s10 : List (List PV), qP rows C s10 -> aQ s10 3 := fun s hs e he => by
  cases hl : s with
  | nil => rw [hl] at he; cases he
  | cons a b =>
    obtain ⟨n4, f4, h4⟩ := hs.2 0 (by have := hs.1; rw [hl, List.length_cons] at this; omega)
    rw [hl] at he h4
    cases he
    rw [show e = _ from h4]; rfl
 refine aD (fun hc2 => ?_) (fun hc2 => ?_)
 ·simp only [decide_eq_true_eq] at hc2
  have hi : i.toNat < C.length := by omega
  rw [hdl]
  have hdrl : (s10.drop i.toNat).length = C.length - i.toNat := by rw [List.length_drop, hs10.1]
  refine ⟨⟨zav i0 (by rw [hs10.1]; omega), szd _ hs10⟩, ⟨rfl, rfl, hs10, rfl, ⟨rfl, rfl, rfl⟩, ⟨i0, hc2⟩, rfl, by rw [hdrl]; omega, ⟨Int.le_refl _, by omega⟩, ho, want, [], rfl, hw0, rfl, by simp, ?_⟩, ?_⟩
  ·show iE ks want [] i.toNat (C.length - i.toNat) = inK ks want i.toNat (C.length - i.toNat)
   exact (zii (key := []) hw0 rfl).symm
  rintro n91 f91 _ n101 f101 s101 _ n12 f12 _ _ _ _ n33 f33 _ _ j ⟨rfl, hs101, rfl, ⟨rfl, rfl, rfl⟩, ⟨_, _⟩, rfl, rfl, ⟨j0, j1⟩, ho2, rest, key, rfl, hrest, hkey, hsz, href⟩
  have hrl : rest.length <= want.length := by rw [<- hkey, List.length_append]; omega
  have hwi : i64.wrap (i + 1) = i + 1 := aC (by omega) (by omega)
  have outNext : iE ks want [] i.toNat (C.length - i.toNat) = none -> gP ks want i.toNat (C.length - i.toNat) = gP ks want (i + 1).toNat (C.length - (i + 1).toNat) := fun h => by
   rw [show C.length - i.toNat = (C.length - (i + 1).toNat) + 1 by omega, gP, show C.length - (i + 1).toNat + 1 = C.length - i.toNat by omega, h, show (i + 1).toNat = i.toNat + 1 by omega]
  rw [hwi]
  refine aD (fun hc3 => ?_) (fun hc3 => ?_)
  ·simp only [decide_eq_true_eq] at hc3
   have hij : i.toNat + j.toNat < C.length := by omega
   obtain ⟨n4, f4, hg⟩ := hs101.2 _ hij
   have hg2 : (s101.drop i.toNat).getD j.toNat [] = s101.getD (i.toNat + j.toNat) [] := by simp [List.getD, List.getElem?_drop]
   have hkj := hkg _ hij
   have hsz2 := zan (ks := ks) (k := i.toNat + j.toNat) (by omega)
   have hwj : i64.wrap (j + 1) = j + 1 := aC (by omega) (by omega)
   rw [show C.length - i.toNat - j.toNat = (C.length - i.toNat - (j + 1).toNat) + 1 by omega, inK, hkj] at href
   rw [hkj] at hsz2
   have hkl2 := hkl _ (show C.getD (i.toNat + j.toNat) [] ∈ C by rw [kV [] hij]; exact List.getElem_mem hij)
   generalize cX rows (C.getD (i.toNat + j.toNat) []) = kk at *
   refine ⟨⟨j0, by rw [List.length_drop, hs101.1]; omega, by rw [hg2, hg]; rfl⟩, _, by rw [hg2, hg]; rfl, _, by rw [hg2, hg]; rfl, _, _, _, by rw [hg2, hg]; rfl, ?_⟩
   rw [hwj]
   have hnp : ∀ h : ¬kk = rest.take kk.length, True := fun _ => trivial
   refine aD (fun hc4 => ?_) (fun hc4 => ?_)
   ·simp only [decide_eq_true_eq, aS, gt_iff_lt] at hc4
    have hne : ¬kk = rest.take kk.length := fun e => by
     have := congrArg List.length e
     rw [List.length_take] at this; omega
    rw [if_neg hne] at href
    exact ⟨rfl, ⟨rfl, hs101, rfl, ⟨by omega, by omega⟩, by rw [ho2, outNext href]⟩, by dsimp only; omega⟩
   ·simp only [decide_eq_true_eq, aS, gt_iff_lt] at hc4
    have htk : List.drop 0 (List.take ((aA kk).length : Int).toNat (aA rest)) = aA (rest.take kk.length) := by simp [aA]
    have hdk : List.drop ((aA kk).length : Int).toNat (List.take ((aA rest).length : Int).toNat (aA rest)) = aA (rest.drop kk.length) := by rw [List.take_of_length_le (by omega)]; simp [aA]
    rw [htk, hdk]
    refine ⟨⟨zjb (by omega) (by rw [aS, aS]; omega), cV _⟩, ?_⟩
    refine (zrv n4 f4 n12 _ kk (rest.take kk.length) (by omega)).mono ?_
    rintro _ rfl
    refine ⟨_, rfl, aD (fun h5 => ?_) (fun h5 => ?_)⟩
    ·simp only [Bool.not_eq_true', decide_eq_false_iff_not] at h5
     rw [if_neg h5] at href
     exact ⟨rfl, ⟨rfl, hs101, rfl, ⟨by omega, by omega⟩, by rw [ho2, outNext href]⟩, by dsimp only; omega⟩
    ·simp only [Bool.not_eq_true', decide_eq_false_iff_not, Decidable.not_not] at h5
     rw [if_pos h5] at href
     refine ⟨⟨zav (by omega) (by rw [aS, aS]; omega), cV _⟩, aD (fun h6 => ?_) (fun h6 => ?_)⟩
     ·simp only [beq_iff_eq, aS, List.length_drop] at h6
      rw [if_pos (by omega)] at href
      obtain ⟨n5, f5, hg5⟩ := hs101.2 i.toNat (by omega)
      refine ⟨⟨by omega, by rw [hs101.1]; omega, by rw [hg5]; rfl⟩, _, by rw [hg5]; rfl, ?_⟩
      rw [ho2, show C.length - i.toNat = (C.length - (i + 1).toNat) + 1 by omega, gP, show C.length - (i + 1).toNat + 1 = C.length - i.toNat by omega, href]
      rfl
     ·simp only [beq_iff_eq, aS, List.length_drop] at h6
      rw [if_neg (by omega)] at href
      refine ⟨rfl, ⟨rfl, hs101, rfl, ⟨rfl, rfl, rfl⟩, ⟨by omega, by omega⟩, rfl, rfl, ⟨by omega, by omega⟩, ho2, rest.drop kk.length, key ++ kk, rfl, fun e => ?_, ?_, ?_, ?_⟩, by dsimp only; omega⟩
      ·have := congrArg List.length e
       rw [List.length_drop, List.length_nil] at this; omega
      ·rw [List.append_assoc, <- hkey]
       congr 1
       have := List.take_append_drop kk.length rest
       rw [<- h5] at this; exact this
      ·rw [List.length_append, show i.toNat + (j + 1).toNat = i.toNat + j.toNat + 1 by omega]; omega
      ·rw [href, show i.toNat + (j + 1).toNat = i.toNat + j.toNat + 1 by omega]
  ·simp only [decide_eq_true_eq] at hc3
   refine bK rfl ?_
   have hje : i.toNat + j.toNat = C.length := by omega
   rw [hje] at hsz
   have hz : jX ks C.length = 0 := by unfold jX; rw [<- hksl, List.drop_length]; rfl
   rw [ho2, zik (by omega) (by rw [<- hkey, List.length_append]; have := List.length_pos_iff.2 hrest; omega)]; rfl
 ·simp only [decide_eq_true_eq] at hc2
  rw [ho, show C.length - i.toNat = 0 by omega]; rfl
end
end Go.Eng



namespace Go.Eng
open Go Go.Proofs Go.Eng.Rows Go.Eng.Trie Go.Eng.Srt
section
variable {rows : List Row} {v : PV}
def mD (rows : List Row) (L : List Int) : List Int := (cA rows L 0).flatMap (dU rows)
theorem zua (hk : dN rows) (c : List Int) : (dU rows c).length <= 768 * c.length := by
 unfold dU
 split
 ·omega
 ·exact uB hk c
theorem zay (hk : dN rows) : ∀ C : List (List Int), (C.flatMap (dU rows)).length <= 768 * C.flatten.length
 | [] => Nat.le_refl _
 | c :: C => by
   have := zua hk c
   have := zay hk C
   rw [List.flatMap_cons, List.flatten_cons, List.length_append, List.length_append]; omega
theorem uG (hk : dN rows) (C : List (List Int)) (i : Nat) : ((C.take i).flatMap (dU rows)).length <= 768 * C.flatten.length := by
 have h1 := zay hk (C.take i)
 have h2 := zam C i
 unfold cY at h2; omega
theorem zub {C : List (List Int)} {i : Nat} (hi : i < C.length) : dI C.flatten (cY C i) (cY C (i + 1)) = C.getD i [] := by
 rw [zs5 C (by omega), bW hi, List.drop_left' (by rw [List.length_take]; omega), kV [] hi]; simp
theorem zji {C : List (List Int)} {i : Nat} (hi : i < C.length) : (C.take (i + 1)).flatMap (dU rows) = (C.take i).flatMap (dU rows) ++ dU rows (C.getD i []) := by
 rw [bW hi, List.flatMap_append, kV [] hi]; simp
theorem zjj (ht : eH rows) (hp : dD rows) (hk : dN rows) (hv : dM rows v) (n f : Bool) (L : List Int) (hn0 : n = true -> L = []) (hr : R32 L) (hL : L.length < 100000) :
 PCall Tryz.prog 37 [v, .sl n f (aA L)] fun x => ∃ n f, x = .sl n f (aA (mD rows L)) := by
 have h1 := zjg ht hp hk hv n f L hn0 hr hL
 obtain ⟨tc, tg, tj, tf, tp, made, sec, rfl, ht', hm⟩ := hv
 have hcc := uF rows L
 have hfl := mA rows L
 unfold mD
 generalize cA rows L 0 = C at *
 refine zsl _ _ _ _ _ _ _ _ _ _
  (fun n10 f10 s10 x11 x12 _ s => qP rows C s10 /\ x11 = C.length /\ (0 <= x12 /\ x12 <= C.length) /\ s = aA ((C.take x12.toNat).flatMap (dU rows))) (fun _ _ _ _ x12 _ _ => C.length - x12.toNat) ?_
 unfold zh3
 refine h1.mono ?_
 rintro _ ⟨n1, f1, s, rfl, hs⟩
 refine ⟨_, _, _, rfl, ⟨rfl, hs, by rw [hs.1], ⟨Int.le_refl _, by omega⟩, rfl⟩, ?_⟩
 rintro n10 f10 s10 _ i n0 _ ⟨hs10, rfl, ⟨i0, i1⟩, rfl⟩
 refine aD (fun hc => ?_) (fun hc => ?_)
 ·simp only [decide_eq_true_eq] at hc
  have hi : i.toNat < C.length := by omega
  obtain ⟨n2, f2, hg⟩ := hs10.2 _ hi
  have hwi : i64.wrap (i + 1) = i + 1 := aC (by omega) (by omega)
  have hb1 := uG hk C i.toNat
  have hb2 := uG hk C (i.toNat + 1)
  have hsn := zji (rows := rows) hi
  have hlen := congrArg List.length hsn
  rw [List.length_append] at hlen
  have hll : C.flatten.length = L.length := by rw [hfl]
  have hnx : (i + 1).toNat = i.toNat + 1 := by omega
  refine ⟨⟨i0, by rw [hs10.1]; omega, by rw [hg]; rfl⟩, _, by rw [hg]; rfl, _, by rw [hg]; rfl, _, _, _, by rw [hg]; rfl, ?_⟩
  rw [hwi]
  refine aD (fun h0 => ?_) (fun h0 => ?_)
  ·simp only [beq_iff_eq, aS] at h0
   have hk0 : cX rows (C.getD i.toNat []) = [] := List.eq_nil_of_length_eq_zero (by omega)
   have hbc : dU rows (C.getD i.toNat []) = C.getD i.toNat [] := by unfold dU; rw [if_pos hk0]
   rw [hbc] at hsn hlen
   have hp1 := zam C (i.toNat + 1)
   have hps := zig hi
   rw [show (((cY C i.toNat : Nat) : Int)).toNat = cY C i.toNat by omega, show (((cY C (i.toNat + 1) : Nat) : Int)).toNat = cY C (i.toNat + 1) by omega, zad, <- hfl, zub hi, <- fB, <- hsn]
   refine ⟨⟨zac (by omega) (by omega) (by rw [aS]; omega), cV _⟩, ⟨cV _, by rw [aS, aS]; omega⟩, rfl, ⟨hs10, rfl, ⟨by omega, by omega⟩, by rw [hnx]⟩, by dsimp only; omega⟩
  ·simp only [beq_iff_eq, aS] at h0
   have hk0 : cX rows (C.getD i.toNat []) ≠ [] := fun e => by rw [e] at h0; exact h0 rfl
   have hbc : dU rows (C.getD i.toNat []) = cX rows (C.getD i.toNat []) := by unfold dU; rw [if_neg hk0]
   rw [hbc] at hsn hlen
   rw [<- fB, <- hsn]
   refine ⟨⟨cV _, by rw [aS, aS]; omega⟩, rfl, ⟨hs10, rfl, ⟨by omega, by omega⟩, by rw [hnx]⟩, by dsimp only; omega⟩
 ·simp only [decide_eq_true_eq] at hc
  rw [List.take_of_length_le (by omega)]
  exact ⟨_, _, rfl⟩
theorem zaz (hp : dD rows) (hk : dN rows) (n f n2 f2 : Bool) (hrl : rows.length < 1000000) (L : List Int) (hr : R32 L) (hL : L.length < 1000000) : PCall Tryz.prog 33 [.sl n f (bE rows), .sl n2 f2 (aA L)] fun x => ∃ n f, x = .sl n f (aA (cX rows L)) := by
 have hll := zZ hk hL
 have hnl := tU hk L
 have hrr := zW hk hp hr
 refine zsm _ _ _ _ _ _ (fun n6 f6 s6 i _ s => s6 = aA (cR rows L) /\ (0 <= i /\ i <= (cR rows L).length) /\ s = aA (((cR rows L).take i.toNat).filter fun r => decide (aG rows 1 r = 0))) (fun _ _ _ i _ _ => (cR rows L).length - i.toNat) ?_
 unfold zh4
 refine (zho hp hk n f n2 f2 hrl L hr hL).mono ?_
 rintro _ ⟨n1, f1, rfl⟩
 unfold cX
 generalize cR rows L = D at *
 refine ⟨_, _, _, rfl, ⟨rfl, rfl, ⟨Int.le_refl _, by omega⟩, rfl⟩, ?_⟩
 rintro n6 f6 _ i n0 _ ⟨rfl, ⟨i0, i1⟩, rfl⟩
 refine aD (fun hc => ?_) (fun hc => ?_)
 ·simp only [decide_eq_true_eq, aS] at hc
  have hi : i.toNat < D.length := by omega
  obtain ⟨g1, g2⟩ := gO i0 hi
  have hw : i64.wrap (i + 1) = i + 1 := aC (by omega) (by omega)
  have hcl : ((D.take i.toNat).filter fun r => decide (aG rows 1 r = 0)).length <= i.toNat := Nat.le_trans (List.length_filter_le _ _) (by rw [List.length_take]; omega)
  have hnx : (i + 1).toNat = i.toNat + 1 := by omega
  refine ⟨g1, _, by rw [g2]; rfl, ?_⟩
  refine (zg1 n f _ hrl (hrr _ (List.getElem_mem hi))).mono ?_
  rintro _ rfl
  rw [hw]
  refine ⟨_, rfl, aD (fun h => ?_) (fun h => ?_)⟩
  ·simp only [beq_iff_eq] at h
   have e : aA ((D.take i.toNat).filter fun r => decide (aG rows 1 r = 0)) ++ [[PV.int .i32 D[i.toNat]]] = aA ((D.take (i + 1).toNat).filter fun r => decide (aG rows 1 r = 0)) := by
    rw [hnx, bW hi, List.filter_append, fB]
    congr 1
    simp [h, aA]
   refine ⟨g1, _, by rw [g2]; rfl, ⟨cV [_], by rw [aS]; omega⟩, ?_⟩
   rw [e]
   exact ⟨rfl, ⟨rfl, ⟨by omega, by omega⟩, rfl⟩, by dsimp only; omega⟩
  ·simp only [beq_iff_eq] at h
   refine ⟨rfl, ⟨rfl, ⟨by omega, by omega⟩, ?_⟩, by dsimp only; omega⟩
   rw [hnx, bW hi, List.filter_append]
   have : ([D[i.toNat]].filter fun r => decide (aG rows 1 r = 0)) = [] := by simp [h]
   rw [this, List.append_nil]
 ·simp only [decide_eq_true_eq, aS] at hc
  rw [List.take_of_length_le (by omega)]
  exact ⟨_, _, rfl⟩
theorem zuc (ht : eH rows) (hp : dD rows) (hk : dN rows) (n f n2 f2 : Bool) (hrl : rows.length < 1000000) (L : List Int) (hr : R32 L) (hL : L.length < 100000) :
 PCall Tryz.prog 38 [.sl n f (bE rows), .sl n2 f2 (aA L)] fun x => ∃ n f, x = .sl n f (aA (mD rows L)) := by
 have h1 := zt4 ht n f n2 f2 hrl L hr (by omega) (by omega)
 have h2 := fun n2 f2 c hc => zaz hp hk n f n2 f2 hrl c (zje (rows := rows) hr hc) (by have := zax hc; omega)
 have hcc := uF rows L
 have hfl := mA rows L
 unfold mD
 generalize cA rows L 0 = C at *
 refine zsn _ _ _ _ _ _
  (fun n6 f6 s6 i _ s => (∃ Q : List (Bool × Bool × List Int), s6 = Q.map gT /\ Q.map (fun q => q.2.2) = C) /\ (0 <= i /\ i <= C.length) /\ s = aA ((C.take i.toNat).flatMap (dU rows))) (fun _ _ _ i _ _ => C.length - i.toNat) ?_
 unfold zh5
 refine h1.mono ?_
 rintro _ ⟨n1, f1, Q, rfl, hQ⟩
 refine ⟨_, _, _, rfl, ⟨rfl, ⟨Q, rfl, hQ⟩, ⟨Int.le_refl _, by omega⟩, rfl⟩, ?_⟩
 rintro n6 f6 _ i n0 _ ⟨⟨Q, rfl, hQ⟩, ⟨i0, i1⟩, rfl⟩
 have hQl : (Q.map gT).length = C.length := by rw [List.length_map, <- hQ, List.length_map]
 rw [hQl]
 refine aD (fun hc => ?_) (fun hc => ?_)
 ·simp only [decide_eq_true_eq] at hc
  have hi : i.toNat < C.length := by omega
  obtain ⟨g1, n3, f3, g2⟩ := qAt hQ i0 hi
  have hmem : C.getD i.toNat [] ∈ C := by rw [kV [] hi]; exact List.getElem_mem hi
  have hwi : i64.wrap (i + 1) = i + 1 := aC (by omega) (by omega)
  have hb1 := uG hk C i.toNat
  have hb2 := uG hk C (i.toNat + 1)
  have hsn := zji (rows := rows) hi
  have hlen := congrArg List.length hsn
  rw [List.length_append] at hlen
  have hll : C.flatten.length = L.length := by rw [hfl]
  have hnx : (i + 1).toNat = i.toNat + 1 := by omega
  refine ⟨g1, _, _, _, by rw [g2]; rfl, ?_⟩
  refine (h2 n3 f3 _ hmem).mono ?_
  rintro _ ⟨n4, f4, rfl⟩
  rw [hwi]
  refine ⟨_, _, _, rfl, aD (fun h0 => ?_) (fun h0 => ?_)⟩
  ·simp only [beq_iff_eq, aS] at h0
   have hk0 : cX rows (C.getD i.toNat []) = [] := List.eq_nil_of_length_eq_zero (by omega)
   have hbc : dU rows (C.getD i.toNat []) = C.getD i.toNat [] := by unfold dU; rw [if_pos hk0]
   rw [hbc] at hsn hlen
   refine ⟨g1, _, _, _, by rw [g2]; rfl, ⟨cV _, by rw [aS, aS]; omega⟩, ?_⟩
   rw [<- fB, <- hsn]
   exact ⟨rfl, ⟨⟨Q, rfl, hQ⟩, ⟨by omega, by omega⟩, by rw [hnx]⟩, by dsimp only; omega⟩
  ·simp only [beq_iff_eq, aS] at h0
   have hk0 : cX rows (C.getD i.toNat []) ≠ [] := fun e => by rw [e] at h0; exact h0 rfl
   have hbc : dU rows (C.getD i.toNat []) = cX rows (C.getD i.toNat []) := by unfold dU; rw [if_neg hk0]
   rw [hbc] at hsn hlen
   rw [<- fB, <- hsn]
   exact ⟨⟨cV _, by rw [aS, aS]; omega⟩, rfl, ⟨⟨Q, rfl, hQ⟩, ⟨by omega, by omega⟩, by rw [hnx]⟩, by dsimp only; omega⟩
 ·simp only [decide_eq_true_eq] at hc
  rw [List.take_of_length_le (by omega)]
  exact ⟨_, _, rfl⟩
end
end Go.Eng



namespace Go.Eng.Rows
open Go Go.Eng Go.Eng.Trie Go.Eng.Srt
section
variable {rows : List Row}
end
end Go.Eng.Rows



namespace Go.Eng
open Go Go.Proofs
end Go.Eng



namespace Go.Eng
open Go Go.Proofs
end Go.Eng



namespace Go.Eng
open Go Go.Proofs Go.Eng.Rows Go.Eng.Trie
end Go.Eng



namespace Go.Eng
open Go Go.Proofs Go.Eng.Rows Go.Eng.Trie
section
variable {rows : List Row}
end
end Go.Eng



namespace Go.Eng
open Go Go.Proofs
end Go.Eng



namespace Go.Eng
open Go Go.Proofs Go.Eng.Rows Go.Eng.Trie Go.Eng.Srt
section
variable {rows : List Row}
end
end Go.Eng



namespace Go.Eng.Rows
open Go Go.Eng Go.Eng.Trie Go.Eng.Srt
end Go.Eng.Rows



namespace Go.Eng
open Go Go.Proofs Go.Eng.Rows Go.Eng.Trie
end Go.Eng



namespace Go.Eng
open Go Go.Proofs Go.Eng.Rows Go.Eng.Trie Go.Eng.Srt
theorem PCall.vac {P : Program} {f : Nat} {args args' : List PV} {Q Q' : PV -> Prop} (h : PCall P f args' Q') {k : Nat} {fl : Bool} {es : List (List PV)} (hk : args[k]? = some (.sl true fl es)) (hne : es ≠ []) : PCall P f args Q :=
 ⟨h.1, fun w I G cargs _ _ h3 => by
  have := h3 k (.pv (.sl true fl es)) (by rw [List.getElem?_map, hk]; rfl)
  generalize cargs.getD k undef = c at this
  cases this with
  | pv _ _ h =>
    generalize hx : es = xs at h
    cases h with
    | slnil => exact absurd hx hne⟩
theorem zjk {L : List Int} (h : L ≠ []) : aA L ≠ [] := fun e => h (by cases L with | nil => rfl | cons a b => cases e)
section
variable {t : PV}
theorem zud (hv : dM tab t) (n f n2 f2 : Bool) (L P : List Int) (hr : R32 L) (hL : L.length < 100000) (hr2 : R32 P) (hL2 : P.length < 1000000) : PCall Tryz.prog 27 [t, .sl n f (aA L), .sl n2 f2 (aA P)] fun x => x = zjf (uC tab L P) := by
 by_cases h : n = true -> L = []
 ·exact zjh qN iD fO hv n f n2 f2 L P h hr hL hr2 hL2
 ·have hn : n = true := by cases n with | true => rfl | false => exact absurd (fun h => by cases h) h
  subst hn
  exact PCall.vac (zjh qN iD fO hv false f n2 f2 L P (fun h => by cases h) hr hL hr2 hL2) (k := 1) rfl (zjk fun e => h fun _ => e)
theorem zjl (hv : dM tab t) (n f : Bool) (L : List Int) (hr : R32 L) (hL : L.length < 100000) : PCall Tryz.prog 37 [t, .sl n f (aA L)] fun x => ∃ n f, x = .sl n f (aA (mD tab L)) := by
 by_cases h : n = true -> L = []
 ·exact zjj qN iD fO hv n f L h hr hL
 ·have hn : n = true := by cases n with | true => rfl | false => exact absurd (fun h => by cases h) h
  subst hn
  exact PCall.vac (zjj qN iD fO hv false f L (fun h => by cases h) hr hL) (k := 1) rfl (zjk fun e => h fun _ => e)
theorem zjm (hv : dM tab t) (n f : Bool) (L : List Int) (hr : R32 L) (hL : L.length < 1000000) : PCall Tryz.prog 35 [t, .sl n f (aA L)] fun x => ∃ n f, x = .sl n f (aA (cX tab L)) := zaw iD fO hv n f L hr hL
end
theorem zue : uC tab [120, 233, 121] [101] = some (1, 2) := by kernel_rfl
theorem zuf : cX tab [7785] = [115] := by kernel_rfl
theorem zug : mD tab [233, 769] = [101] := by kernel_rfl
theorem awake42 : PCall Tryz.prog 29 [] fun v => v = .bool true := by
 refine zso ?_; unfold zak
 refine p42.mono ?_
 rintro _ ⟨n, f, rfl⟩
 refine ⟨_, _, _, rfl, ?_⟩
 refine (zhl n f).mono fun t ht => ?_
 refine (zud ht false true false true [120, 233, 121] [101] (fun x hx => by simp at hx; omega) (by simp) (fun x hx => by simp at hx; omega) (by simp)).mono ?_
 rintro _ rfl
 rw [zue]
 refine ⟨_, rfl, rfl, _, rfl, _, rfl, _, rfl, _, rfl, _, rfl, _, rfl, bK rfl ?_⟩
 refine (zjm ht false true [7785] (fun x hx => by simp at hx; omega) (by simp)).mono ?_
 rintro _ ⟨n1, f1, rfl⟩
 rw [zuf]
 refine ⟨_, _, _, rfl, ?_⟩
 refine (tV n1 f1 false true [115] [115] (by simp)).mono ?_
 rintro _ rfl
 refine ⟨_, rfl, bK rfl ?_⟩
 refine (zjl ht false true [233, 769] (fun x hx => by simp at hx; omega) (by simp)).mono ?_
 rintro _ ⟨n2, f2, rfl⟩
 rw [zug]
 refine ⟨_, _, _, rfl, ?_⟩
 refine (tV n2 f2 false true [101] [101] (by simp)).mono ?_
 rintro _ rfl
 exact ⟨_, rfl, rfl⟩
theorem zuh (n f : Bool) (a : List Int) (ha : R32 a) : PCall Tryz.prog 8 [.sl n f (aA a)] fun v => v = .bool true := by
 refine zsp _ _ _ ?_; unfold zh6
 refine (zrs n f a 80 (by omega)).mono ?_
 rintro _ ⟨n1, f1, rfl⟩
 refine ⟨_, _, _, rfl, ?_⟩
 refine p42.mono ?_
 rintro _ ⟨n2, f2, rfl⟩
 refine ⟨_, _, _, rfl, ?_⟩
 refine (zhl n2 f2).mono fun t ht => ?_
 have la := zsb a 80
 have ra := ha.take 80
 generalize a.take 80 = a at *
 have hkl := uB fO a
 have hdl := tU fO a
 have hme := zs3 tab a
 have hbl : (mD tab a).length <= 768 * a.length := by have := zay fO (cA tab a 0); rwa [mA] at this
 refine (zjm ht n1 f1 a ra (by omega)).mono ?_
 rintro _ ⟨n3, f3, rfl⟩
 refine ⟨_, _, _, rfl, ?_⟩
 refine (zaz iD fO n2 f2 n1 f1 qJ a ra (by omega)).mono ?_
 rintro _ ⟨n4, f4, rfl⟩
 refine ⟨_, _, _, rfl, ?_⟩
 refine (tV n3 f3 n4 f4 _ _ (by omega)).mono ?_
 rintro _ rfl
 refine ⟨_, rfl, bK (by simp) ?_⟩
 refine (zt7 iD fO ht n1 f1 a ra (by omega)).mono ?_
 rintro _ rfl
 refine ⟨_, rfl, ?_⟩
 refine (zho iD fO n2 f2 n1 f1 qJ a ra (by omega)).mono ?_
 rintro _ ⟨n5, f5, rfl⟩
 refine ⟨_, _, _, rfl, ?_⟩
 refine (zaz iD fO n2 f2 n1 f1 qJ a ra (by omega)).mono ?_
 rintro _ ⟨n6, f6, rfl⟩
 refine ⟨_, _, _, rfl, bK ?_ ?_⟩
 ·rw [aS, aS, aC (by omega) (by omega), beq_iff_eq]; omega
 refine (zjl ht n1 f1 a ra (by omega)).mono ?_
 rintro _ ⟨n7, f7, rfl⟩
 refine ⟨_, _, _, rfl, ?_⟩
 refine (zuc qN iD fO n2 f2 n1 f1 qJ a ra (by omega)).mono ?_
 rintro _ ⟨n8, f8, rfl⟩
 refine ⟨_, _, _, rfl, ?_⟩
 refine (tV n7 f7 n8 f8 _ _ (by omega)).mono ?_
 rintro _ rfl
 refine ⟨_, rfl, bK (by simp) ?_⟩
 refine awake42.mono ?_
 rintro _ rfl
 exact ⟨_, rfl, rfl⟩
theorem lawFoldKeys {pvs : List PV} (h : pQ Tryz.prog 8 Tryz.f8.params.toList pvs) : PCall Tryz.prog 8 pvs fun v => v = .bool true := by
 obtain ⟨v0, r0, rfl, h0, rfl⟩ : pQ Tryz.prog 8 [23] pvs := h
 obtain ⟨nl, l, rfl, hr⟩ := zr9 h0
 exact zuh _ _ l hr
end Go.Eng


