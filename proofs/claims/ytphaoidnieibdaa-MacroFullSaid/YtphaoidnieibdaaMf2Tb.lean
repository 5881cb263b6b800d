/- States run over the code: what each function gives, and what follows. -/
import Derived.Test.YtphaoidnieibdaaMf2Ta
open Go.IntKind (i64 i32)
open Go.Proofs.Try renaming prog → qa
open List renaming length_map → qc, replicate → qd, length → qf, mem_cons_of_mem → qg, mem_map_of_mem → qh, map_append → qj
open Int renaming le_refl → qe
open Nat renaming le_refl → qi
set_option linter.unusedVariables false
set_option linter.unusedSimpArgs false
set_option linter.constructorNameAsVariable false
set_option maxRecDepth 100000
namespace Go.Eng
open Go Go.Proofs Go.Eng.Rows
section
variable {N : Nat} {nl : Bool} {s : List (List PV)}
theorem zdy (hN : N < 1000000) (h : YL N s) {a b : Int} (h0 : 0 <= a) (h1 : a <= b) (h2 : b <= N) : Trn 39 [.own 0, .pv (.int .i64 a), .pv (.int .i64 b)] nl s N := by
 obtain ⟨L, rfl, rfl⟩ := h;obtain ⟨m, rfl⟩ : ∃ m : Nat, a = m := ⟨a.toNat, by omega⟩;obtain ⟨k, rfl⟩ : ∃ k : Nat, b = k := ⟨b.toNat, by omega⟩;refine (zdh nl L m k (by omega) (by omega) hN).mono ?_;rintro _ _ ⟨L', rfl, rfl, hp, _⟩;exact ⟨_, rfl, rfl, L', rfl, hp.length_eq⟩
theorem wT (hN : N < 1000000) (h : YL N s) {a b : Int} (h0 : 0 <= a) (h1 : a < b) (h2 : b <= N) : ACall qa 44 [.own 0, .pv (.int .i64 a), .pv (.int .i64 b)] [.sl (21, 1) false nl s] fun r h' => ∃ t : Bool × List (List PV), (r = .pv (.bool t.1) /\ h' = [.sl (21, 1) false nl t.2]) /\ YL N t.2 := by
 refine zdk _ _ _ _
  (fun x y s => a + 1 <= x /\ x <= b /\ 0 <= y /\ y <= 5 /\ YL N s) (fun _ y _ => (5 - y).toNat)
  (fun _ ey _ x y s => y = ey /\ a + 1 <= x /\ x <= b /\ YL N s) (fun x _ _ => (b - x).toNat)
  (fun ex ey _ _ x y z s => x = ex /\ y = ey /\ 0 <= z /\ z < b /\ YL N s) (fun _ _ z _ => z.toNat)
  (fun ex ey _ _ x y z s => x = ex /\ y = ey /\ a + 1 <= z /\ z <= b /\ YL N s) (fun _ _ z _ => (b - z).toNat) ?_
 unfold wO;have w1 : i64.wrap (a + 1) = a + 1 := aE (by omega) (by omega);rw [w1];refine ⟨⟨rfl, by omega, by omega, by omega, by omega, h⟩, ?_⟩;clear h;rintro x y s ⟨b1, b2, b3, b4, h⟩;refine aH (fun hc => ?_) (fun _ => ⟨(false, s), ⟨rfl, rfl⟩, h⟩);simp only [aW] at hc;refine ⟨⟨rfl, rfl, b1, b2, h⟩, ?_⟩;clear h;rintro x1 y1 s ⟨rfl, d1, d2, h⟩;have w2 : i64.wrap (x1 + 1) = x1 + 1 := aE (by omega) (by omega);have w3 : i64.wrap (x1 - 1) = x1 - 1 := aE (by omega) (by omega);rw [w2, w3];refine eH ?_ fun V => aH (fun hc => have hc := of_decide_eq_true hc; ⟨h.ix (by omega) (by omega), _, h.rd (by omega) (by omega), h.ix (by omega) (by omega), _, h.rd (by omega) (by omega), (cU _ _).mono fun v hv => ⟨_, hv, aH (fun _ => ⟨rfl, ⟨rfl, by omega, by omega, h⟩, by dsimp only; omega⟩) (fun _ => V)⟩⟩) (fun _ => V)
 focus
  refine aH (fun _ => ⟨(true, s), ⟨rfl, rfl⟩, h⟩) (fun hb => aH (fun _ => ⟨(false, s), ⟨rfl, rfl⟩, h⟩) (fun _ => ?_));have hb : x1 ≠ b := fun e => hb (by simp [e]);refine ⟨h.ix (by omega) (by omega), _, h.rd (by omega) (by omega), h.ix (by omega) (by omega), _, h.rd (by omega) (by omega), h.ix (by omega) (by omega), y2 ⟨h.ln (by omega) (by omega), (h.st (by omega) (by omega)).ix (by omega) (by omega), (h.st (by omega) (by omega)).ln (by omega) (by omega), ?_⟩⟩;have h' := fun v v' => (h.st (x := x1) (v := v) (by omega) (by omega)).st (x := x1 - 1) (v := v') (by omega) (by omega);clear h;refine aH (fun hj => ⟨⟨rfl, rfl, rfl, by omega, by omega, h' _ _⟩, ?_⟩) (fun _ => ?_)
  ·clear h';rintro x2 y2 z s ⟨rfl, rfl, z0, z1, h⟩;have w4 : i64.wrap (x2 + 1) = x2 + 1 := aE (by omega) (by omega);have w5 : i64.wrap (z - 1) = z - 1 := aE (by omega) (by omega);have w6 : i64.wrap (y2 + 1) = y2 + 1 := aE (by omega) (by omega)
   try rw [w4]
   rw [w5, w6];refine eH ?_ fun V => aH (fun hc => have hc := of_decide_eq_true hc; ⟨h.ix (by omega) (by omega), _, h.rd (by omega) (by omega), h.ix (by omega) (by omega), _, h.rd (by omega) (by omega), (cU _ _).mono fun v hv => ⟨_, hv, aH (fun _ => V) (fun _ => ⟨h.ix (by omega) (by omega), _, h.rd (by omega) (by omega), h.ix (by omega) (by omega), _, h.rd (by omega) (by omega), h.ix (by omega) (by omega), Go.Eng.y2 ⟨h.ln (by omega) (by omega), (h.st (by omega) (by omega)).ix (by omega) (by omega), (h.st (by omega) (by omega)).ln (by omega) (by omega), rfl, ⟨rfl, rfl, by omega, by omega, (h.st (by omega) (by omega)).st (by omega) (by omega)⟩, by dsimp only; omega⟩⟩)⟩⟩) (fun _ => V)
   focus
    refine aH (fun _ => ⟨⟨rfl, rfl, rfl, by omega, by omega, h⟩, ?_⟩) (fun _ => ⟨rfl, ⟨by omega, by omega, by omega, by omega, h⟩, by dsimp only; omega⟩);clear h;rintro x3 y3 u s ⟨rfl, rfl, u0, u1, h⟩;have w7 : i64.wrap (u + 1) = u + 1 := aE (by omega) (by omega);have w8 : i64.wrap (u - 1) = u - 1 := aE (by omega) (by omega);have w9 : i64.wrap (y3 + 1) = y3 + 1 := aE (by omega) (by omega);rw [w8]
    try rw [w7]
    try rw [w9]
    refine eH ?_ fun V => aH (fun hc => have hc := of_decide_eq_true hc; ⟨h.ix (by omega) (by omega), _, h.rd (by omega) (by omega), h.ix (by omega) (by omega), _, h.rd (by omega) (by omega), (cU _ _).mono fun v hv => ⟨_, hv, aH (fun _ => V) (fun _ => ⟨h.ix (by omega) (by omega), _, h.rd (by omega) (by omega), h.ix (by omega) (by omega), _, h.rd (by omega) (by omega), h.ix (by omega) (by omega), Go.Eng.y2 ⟨h.ln (by omega) (by omega), (h.st (by omega) (by omega)).ix (by omega) (by omega), (h.st (by omega) (by omega)).ln (by omega) (by omega), rfl, ⟨rfl, rfl, by omega, by omega, (h.st (by omega) (by omega)).st (by omega) (by omega)⟩, by dsimp only; omega⟩⟩)⟩⟩) (fun _ => V);exact ⟨rfl, ⟨by omega, by omega, by omega, by omega, h⟩, by dsimp only; omega⟩
  ·have w6 : i64.wrap (y1 + 1) = y1 + 1 := aE (by omega) (by omega)
   try rw [w6]
   refine aH (fun _ => ⟨⟨rfl, rfl, rfl, by omega, by omega, h' _ _⟩, ?_⟩) (fun _ => ⟨rfl, ⟨by omega, by omega, by omega, by omega, h' _ _⟩, by dsimp only; omega⟩);clear h';rintro x3 y3 u s ⟨rfl, rfl, u0, u1, h⟩;have w7 : i64.wrap (u + 1) = u + 1 := aE (by omega) (by omega);have w8 : i64.wrap (u - 1) = u - 1 := aE (by omega) (by omega);have w9 : i64.wrap (y3 + 1) = y3 + 1 := aE (by omega) (by omega);rw [w8]
   try rw [w7]
   try rw [w9]
   refine eH ?_ fun V => aH (fun hc => have hc := of_decide_eq_true hc; ⟨h.ix (by omega) (by omega), _, h.rd (by omega) (by omega), h.ix (by omega) (by omega), _, h.rd (by omega) (by omega), (cU _ _).mono fun v hv => ⟨_, hv, aH (fun _ => V) (fun _ => ⟨h.ix (by omega) (by omega), _, h.rd (by omega) (by omega), h.ix (by omega) (by omega), _, h.rd (by omega) (by omega), h.ix (by omega) (by omega), Go.Eng.y2 ⟨h.ln (by omega) (by omega), (h.st (by omega) (by omega)).ix (by omega) (by omega), (h.st (by omega) (by omega)).ln (by omega) (by omega), rfl, ⟨rfl, rfl, by omega, by omega, (h.st (by omega) (by omega)).st (by omega) (by omega)⟩, by dsimp only; omega⟩⟩)⟩⟩) (fun _ => V);exact ⟨rfl, ⟨by omega, by omega, by omega, by omega, h⟩, by dsimp only; omega⟩
theorem zdz (hN : N <= 1000) (n : Nat) : ∀ {a b : Int} (c : Int) {s : List (List PV)}, (b - a).toNat <= n -> 0 <= a -> a <= b -> b <= N -> YL N s -> Trn 37 [.own 0, .pv (.int .i64 a), .pv (.int .i64 b), .pv (.int .i64 c)] nl s N := by
 induction n using Nat.strongRecOn with
 | ind n ih =>
 intro a b c s hn h0 h1 h2 h;refine zdn _ _ _ _ _ (fun x1 x2 _ _ _ s => a <= x1 /\ x1 <= x2 /\ x2 <= b /\ YL N s) (fun x1 x2 _ _ _ _ => (x2 - x1).toNat) ?_;unfold wR;refine ⟨⟨rfl, qe _, h1, qe _, h⟩, ?_⟩;clear h;rintro x1 x2 x3 x8 x9 s ⟨e1, e2, e3, h⟩;have w1 : i64.wrap (x2 - x1) = x2 - x1 := aE (by omega) (by omega);have w2 : i64.wrap (x2 - 1) = x2 - 1 := aE (by omega) (by omega);have w3 : i64.wrap (x1 - 1) = x1 - 1 := aE (by omega) (by omega);rw [w1, w2, w3];have w4 : ∀ t : Int, x1 <= t -> t < x2 -> i64.wrap (t - x1) = t - x1 := fun t _ _ => aE (by omega) (by omega);have w5 : ∀ t : Int, x1 <= t -> t < x2 -> i64.wrap (t + 1) = t + 1 := fun t _ _ => aE (by omega) (by omega);have w6 : ∀ t : Int, x1 <= t -> t < x2 -> i64.wrap (x2 - 1 - (t - x1)) = x2 - 1 - (t - x1) := fun t _ _ => aE (by omega) (by omega);clear w1 w2 w3;refine aH (fun _ => ?_) (fun hc => aH (fun _ => ?_) (fun _ => ?_))
 ·refine (zdy (by omega) h (by omega) e2 (by omega)).mono ?_;rintro _ _ ⟨t, rfl, rfl, ht⟩;exact ⟨t, ⟨rfl, rfl⟩, ⟨⟨rfl, rfl, h.eq ht⟩, trivial⟩, t, rfl, rfl, ht⟩
 ·simp only [aW] at hc;refine (zdi (by omega) h (by omega) (by omega) (by omega)).mono ?_;rintro _ _ ⟨t, rfl, rfl, ht⟩;exact ⟨t, ⟨rfl, rfl⟩, ⟨⟨rfl, rfl, h.eq ht⟩, trivial⟩, t, rfl, rfl, ht⟩
 simp only [aW] at hc;have rec1 : ∀ (k : Int) {p q : Int} {s : List (List PV)}, x1 <= p -> p <= q -> q <= x2 -> q - p < x2 - x1 -> YL N s -> Trn 37 [.own 0, .pv (.int .i64 p), .pv (.int .i64 q), .pv (.int .i64 k)] nl s N := fun k p q s hp hpq hq hlt hs => ih (q - p).toNat (by omega) k (qi _) (by omega) hpq (by omega) hs;clear ih;refine aH (fun _ => (zdv hN h (by omega) (by omega) (by omega)).mono fun _ _ ⟨t, e, e', ht⟩ => ⟨t, ⟨e, e'⟩, ⟨⟨rfl, rfl, h.eq ht⟩, trivial⟩, have h := ht; (wN (by omega) h (by omega) (by omega) (by omega)).mono ?_⟩) (fun _ => (wN (by omega) h (by omega) (by omega) (by omega)).mono ?_)
 all_goals
  rintro _ _ ⟨p, ⟨rfl, rfl⟩, p1, p2⟩;refine ⟨p, ⟨rfl, rfl⟩, ⟨⟨rfl, rfl, rfl⟩, trivial⟩, aH (fun _ => (zdj (by omega) h (by omega) (by omega) (by omega)).mono fun _ _ ⟨t, e, e', ht⟩ => ⟨t, ⟨e, e'⟩, ⟨⟨rfl, rfl, h.eq ht⟩, trivial⟩, have h := ht; aH (fun _ => (wT (by omega) h (by omega) (by omega) (by omega)).mono fun _ _ ⟨t, e, ht⟩ => ⟨t, e, ⟨⟨rfl, rfl, h.eq ht⟩, trivial⟩, aH (fun _ => ⟨_, rfl, rfl, ht⟩) (fun _ => have h := ht; ?_)⟩) (fun _ => ?_)⟩) (fun _ => aH (fun _ => (wT (by omega) h (by omega) (by omega) (by omega)).mono fun _ _ ⟨t, e, ht⟩ => ⟨t, e, ⟨⟨rfl, rfl, h.eq ht⟩, trivial⟩, aH (fun _ => ⟨_, rfl, rfl, ht⟩) (fun _ => have h := ht; ?_)⟩) (fun _ => ?_))⟩
  all_goals
   try rw [w4 p.1 p1 p2]
   try rw [w6 p.1 p1 p2]
   refine aH (fun hx => have hx := of_decide_eq_true hx; ⟨h.ix (by omega) (by omega), _, h.rd (by omega) (by omega), h.ix (by omega) (by omega), _, h.rd (by omega) (by omega), (cU _ _).mono fun v hv => ⟨_, hv, aH (fun _ => (zdw (by omega) h (by omega) (by omega) (by omega) (by omega) (by omega)).mono fun _ _ ⟨t, e, ht, t1, t2⟩ => ⟨t, e, ⟨⟨rfl, rfl, h.eq ht⟩, trivial⟩, rfl, ⟨by omega, t2, e3, ht⟩, by dsimp only; omega⟩) (fun _ => ?_)⟩⟩) (fun _ => ?_)
   all_goals
    refine (zdx (by omega) h (by omega) (by omega) (by omega) (by omega) (by omega)).mono ?_;rintro _ _ ⟨t, ⟨rfl, rfl⟩, ht, t1, t2⟩;refine ⟨t, ⟨rfl, rfl⟩, ⟨⟨rfl, rfl, h.eq ht⟩, trivial⟩, ?_⟩;rw [w5 t.1 t1 t2];exact aH (fun _ => (rec1 _ (qe _) t1 (by omega) (by omega) ht).mono fun _ _ ⟨u, e, e', hu⟩ => ⟨u, ⟨e, e'⟩, ⟨⟨rfl, rfl, ht.eq hu⟩, trivial⟩, rfl, ⟨by omega, by omega, e3, hu⟩, by dsimp only; omega⟩) (fun _ => (rec1 _ (by omega) (by omega) (qe _) (by omega) ht).mono fun _ _ ⟨u, e, e', hu⟩ => ⟨u, ⟨e, e'⟩, ⟨⟨rfl, rfl, ht.eq hu⟩, trivial⟩, rfl, ⟨e1, t1, by omega, hu⟩, by dsimp only; omega⟩)
theorem zd0 (nl : Bool) (L : List Int) (hl : L.length <= 1000) : mZ 34 [.own 0] nl L fun _ => True := by
 refine zdo (by omega) fun c => ?_;refine (zdz hl L.length c (by omega) (qe _) (by omega) (qe _) ⟨L, rfl, rfl⟩).mono ?_;rintro _ _ ⟨_, rfl, rfl, M, rfl, hM⟩;exact ⟨M, rfl, rfl, hM, trivial⟩
theorem wV {B : GB} (hB : B.length <= 1000) : PCall qa 19 [.agg [.mp (aN B)]] fun v => ∃ (n : Bool) (l : List Int), v = .sl n false (aI l) /\ l.length = B.length := by
 refine (zdp (Q := fun _ => True) hB fun nl s hs => zd0 nl s (by rw [hs.length_eq, qc]; exact hB)).mono ?_;rintro v ⟨n, l, h1, h2, _⟩;exact ⟨n, l, h1, h2⟩
end
end Go.Eng
namespace Go.Eng
open Go Go.Proofs
open Go Go.Proofs Go.Eng.Rows
end Go.Eng
namespace Go.Eng
open Go Go.Proofs Go.Eng.Rows
theorem gT (B : GB) (nm : Int) (y : GE) (x : Int) : bF (aS (aM nm y B)) x = if x = nm then some (y.2.2.map (·.2.2)) else bF (aS B) x := by
 rw [eE, eE, pO];split <;> rfl
theorem wW (B : GB) : (aS B).length = B.length := by simp [aS]
theorem kL {nm : Int} {y : GE} {B : GB} (h : aT nm B = none) : (aM nm y B).length = B.length + 1 := by
 have := congrArg qf (iR nm y B);rw [qc, if_neg (kD.1 h)] at this;simpa using this
theorem m6 {L : List GS} {l : List MStep} (h : L.map (·.2.2) = l) (hl : ∀ x ∈ l, bP x.key) : ∀ x ∈ L, bP x.2.2.key := fun x hx => hl _ (h ▸ qh hx)
theorem m7 {L : List GS} {l : List MStep} (h : L.map (·.2.2) = l) : L.length = l.length := by rw [<- h]; simp
def kX : MKey := ⟨1, 120, false, []⟩
def kY : MKey := ⟨1, 121, false, []⟩
def cZ (nm : Int) : MStep := ⟨⟨0, 0, false, []⟩, true, nm⟩
def dO (k : MKey) : MStep := ⟨k, false, 0⟩
def g46 (s : MStep) : GS := (true, true, s)
theorem wX {b c : Bk} (h : ∀ x, bF b x = bF c x) (hl : b.length = c.length) (nm : Int) : eG b nm = eG c nm := by
 unfold eG; rw [hl]; exact u5 h _ _ _ _
theorem eI {k : MKey} (h : k.text = []) : bP k := by unfold bP; rw [h]; decide
theorem awake46 : PCall qa 9 [] fun v => v = .bool true := by
 refine zcl ?_;unfold vL;refine ((vP 97 false true [g46 (dO kX), g46 (cZ 98)] (by decide) (by intro x hx; simp at hx; rcases hx with rfl | rfl <;> exact eI rfl)).acall).mono ?_;rintro _ _ ⟨_, rfl, rfl, y1, rfl, h1⟩;refine ⟨(_, _), ⟨rfl, rfl⟩, trivial, ?_⟩;refine ((mU (aM 97 y1 []) 98 false true [g46 (dO kY)] (by decide) (by intro x hx; simp at hx; subst hx; exact eI rfl) (.inr (by rw [kL rfl]; decide))).acall).mono ?_;rintro _ _ ⟨_, rfl, rfl, y2, rfl, h2⟩;refine ⟨(_, _), ⟨rfl, rfl⟩, trivial, ?_⟩;have f1 : ∀ x, bF (aS (aM 97 y1 [])) x = if x = 97 then some [dO kX, cZ 98] else none := fun x => by rw [gT, h1]; rfl
 have f2 : ∀ x, bF (aS (aM 98 y2 (aM 97 y1 []))) x = if x = 98 then some [dO kY] else if x = 97 then some [dO kX, cZ 98] else none := fun x => by rw [gT, h2, f1]; rfl
 have l1 : (aM 97 y1 ([] : GB)).length = 1 := by rw [kL rfl]; rfl
 have l2 : (aM 98 y2 (aM 97 y1 ([] : GB))).length = 2 := by
  rw [kL, l1];have := f1 98; rw [eE] at this;cases h : aT 98 (aM 97 y1 ([] : GB)) with
  | none => rfl
  | some y => rw [h] at this; simp at this
 have b1 : BkOK (aM 98 y2 (aM 97 y1 [])) := (BkOK.set (BkOK.set (fun p h => by cases h) (by rw [m7 h1]; decide)) (by rw [m7 h2]; decide));have t1 : BTx (aM 98 y2 (aM 97 y1 [])) := (BTx.set (BTx.set (fun p h => by cases h) (m6 h1 (by intro x hx; simp at hx; rcases hx with rfl | rfl <;> exact eI rfl))) (m6 h2 (by intro x hx; simp at hx; subst hx; exact eI rfl)))
 have x1 : eG (aS (aM 98 y2 (aM 97 y1 []))) 97 = .ok ([kX, kY], 3) :=
  (wX (c := [(98, [dO kY]), (97, [dO kX, cZ 98])]) (fun x => by rw [f2]; simp only [bF, eq_comm]) (by rw [wW, l2]; rfl) 97).trans rfl
 refine ((vS b1 t1 97).acall).mono ?_;rintro _ _ ⟨_, rfl, rfl, n3, f3, Q, r, rfl, hr⟩;rw [x1] at hr;obtain ⟨rfl, hQ⟩ := hr;refine ⟨(_, _, _, _), ⟨rfl, rfl⟩, trivial, ?_⟩;refine ((mU (aM 98 y2 (aM 97 y1 [])) 98 false true [g46 (cZ 97)] (by decide) (by intro x hx; simp at hx; subst hx; exact eI rfl) (.inr (by rw [l2]; decide))).acall).mono ?_;rintro _ _ ⟨_, rfl, rfl, y3, rfl, h3⟩;refine ⟨(_, _), ⟨rfl, rfl⟩, trivial, ?_⟩
 have f4 : ∀ x, bF (aS (aM 98 y3 (aM 98 y2 (aM 97 y1 [])))) x = if x = 98 then some [cZ 97] else if x = 97 then some [dO kX, cZ 98] else none := fun x => by
  rw [gT, h3, f2]; by_cases e : x = 98 <;> simp [e, g46]
 have l4 : (aM 98 y3 (aM 98 y2 (aM 97 y1 ([] : GB)))).length = 2 := by
  have := congrArg qf (iR 98 y3 (aM 98 y2 (aM 97 y1 ([] : GB))));rw [qc, if_pos (za4.2 (.inr rfl)), qc, l2] at this;exact this
 have x2 : eG (aS (aM 98 y3 (aM 98 y2 (aM 97 y1 [])))) 97 = .error 6 :=
  (wX (c := [(98, [cZ 97]), (97, [dO kX, cZ 98])]) (fun x => by rw [f4]; simp only [bF, eq_comm]) (by rw [wW, l4]; rfl) 97).trans rfl
 refine ((vS (b1.set (nm := 98) (y := y3) (by rw [m7 h3]; decide)) (t1.set (nm := 98) (y := y3) (m6 h3 (by intro x hx; simp at hx; subst hx; exact eI rfl))) 97).acall).mono ?_;rintro _ _ ⟨_, rfl, rfl, n5, f5, Q5, r5, rfl, hr5⟩;rw [x2] at hr5;obtain ⟨rfl, _, rfl⟩ := hr5;refine ⟨(_, _, _, _), ⟨rfl, rfl⟩, trivial, ?_⟩;refine (zcq n3 f3 false true Q [(true, true, kX), (true, true, kY)] hQ (by have := qA (P := bP) (m := [((true, true, kX) : GKey), (true, true, kY)]) hQ (by intro x hx; simp at hx; rcases hx with rfl | rfl <;> exact eI rfl); exact this) (by have := congrArg qf hQ; simp at this; omega)).mono ?_;rintro _ rfl;exact ⟨_, rfl, rfl⟩
end Go.Eng
namespace Go.Eng
open Go Go.Proofs Go.Eng.Rows
end Go.Eng
namespace Go.Eng
open Go Go.Proofs Go.Eng.Rows
def fE (nm : Int) (y : GE) : GB -> GB
 | [] => [(nm, y)]
 | (k, z) :: r => if nm < k then (nm, y) :: (k, z) :: r else if k = nm then (nm, y) :: r else (k, z) :: fE nm y r
def Asc (R : GB) : Prop := (R.map (·.1)).Pairwise (· < ·)
theorem Asc.tail {p : Int × GE} {R : GB} (h : Asc (p :: R)) : Asc R := (List.pairwise_cons.1 h).2
theorem Asc.lt {p : Int × GE} {R : GB} (h : Asc (p :: R)) : ∀ q ∈ R, p.1 < q.1 := fun q hq => (List.pairwise_cons.1 h).1 _ (qh hq)
theorem Asc.drop {R : GB} (h : Asc R) (i : Nat) : Asc (R.drop i) := by unfold Asc; rw [List.map_drop]; exact h.sublist (List.drop_sublist _ _)
theorem m8 {nm : Int} {y : GE} : ∀ {R : GB} {p : Int × GE}, p ∈ fE nm y R -> p = (nm, y) ∨ p ∈ R
 | [], p, h => .inl (List.mem_singleton.1 h)
 | (k, z) :: r, p, h => by
   rw [fE] at h;split at h
   ·rcases List.mem_cons.1 h with h | h
    ·exact .inl h
    ·exact .inr h
   ·split at h
    ·rcases List.mem_cons.1 h with h | h
     ·exact .inl h
     ·exact .inr (qg _ h)
    ·rcases List.mem_cons.1 h with h | h
     ·exact .inr (by rw [h]; exact List.mem_cons_self)
     ·exact (m8 h).imp id (qg _)
theorem wY {nm : Int} {y : GE} : ∀ {R : GB}, Asc R -> Asc (fE nm y R)
 | [], _ => List.pairwise_singleton _ _
 | (k, z) :: r, h => by
   rw [fE];split
   ·rename_i hlt;refine List.pairwise_cons.2 ⟨fun x hx => ?_, h⟩;obtain ⟨q, hq, rfl⟩ := List.mem_map.1 hx;rcases List.mem_cons.1 hq with rfl | hq
    ·exact hlt
    ·exact Int.lt_trans hlt (h.lt q hq)
   ·split
    ·rename_i e; subst e; exact h
    ·refine List.pairwise_cons.2 ⟨fun x hx => ?_, wY h.tail⟩;obtain ⟨q, hq, rfl⟩ := List.mem_map.1 hx;rcases m8 hq with rfl | hq
     ·show k < nm; omega
     ·exact h.lt q hq
theorem wZ {nm : Int} {y : GE} (x : Int) : ∀ {R : GB}, aT x (fE nm y R) = if x = nm then some y else aT x R
 | [] => rfl
 | (k, z) :: r => by
   rw [fE];split
   ·rfl
   ·split
    ·rename_i e; subst e;simp only [aT];split <;> rfl
    ·rename_i h1 h2;simp only [aT];by_cases e : x = k
     ·rw [if_pos e, if_neg (by omega), if_pos e]
     ·rw [if_neg e, wZ x, if_neg e]
theorem Asc.get {R : GB} (h : Asc R) : ∀ {i : Nat} (hi : i < R.length), aT R[i].1 R = some R[i].2 := fun {i} hi => by
 induction R generalizing i with
 | nil => exact absurd hi (Nat.not_lt_zero _)
 | cons p r ih =>
   obtain ⟨k, z⟩ := p;cases i with
   | zero => simp only [aT]; rw [if_pos (by simp)]; rfl
   | succ i =>
     have hi' : i < r.length := by simpa using hi
     have := h.lt _ (List.getElem_mem hi');simp only [aT, List.getElem_cons_succ];rw [if_neg (by dsimp only at this; omega)];exact ih h.tail hi'
end Go.Eng
namespace Go.Eng
open Go Go.Proofs
end Go.Eng
namespace Go.Eng
open Go Go.Proofs Go.Eng.Rows
structure BookE (B R : GB) : Prop where
 asc : Asc R
 bk : BkOK R
 tx : BTx R
 bB : BkOK B
 tB : BTx B
 nd : (B.map (·.1)).Nodup
 find : ∀ x, bF (aS B) x = bF (aS R) x
theorem zd1 {nm : Int} {y : GE} {B : GB} (h : (B.map (·.1)).Nodup) : ((aM nm y B).map (·.1)).Nodup := by
 rw [iR];split
 ·exact h
 ·rename_i hn;rw [List.nodup_append];refine ⟨h, by simp, fun a ha b hb => ?_⟩;rw [List.mem_singleton.1 hb];intro e; subst e; exact hn ha
theorem BookE.put {B R : GB} (h : BookE B R) {nm : Int} {y z : GE} (hyz : y.2.2.map (·.2.2) = z.2.2.map (·.2.2)) (hl : z.2.2.length <= 1000) (hz : ∀ x ∈ z.2.2, bP x.2.2.key) : BookE (aM nm y B) (fE nm z R) where
 asc := wY h.asc
 bk := fun p hp => (m8 hp).elim (fun e => by rw [e]; exact hl) (h.bk p)
 tx := fun p hp => (m8 hp).elim (fun e => by rw [e]; exact hz) (h.tx p)
 bB := h.bB.set (by have := congrArg qf hyz; simp only [qc] at this; omega)
 tB := h.tB.set (qA (f := fun x : GS => x.2.2) (P := fun s => bP s.key) hyz hz)
 nd := zd1 h.nd
 find := fun x => by
  rw [gT, h.find x, eE R, eE (fE nm z R), wZ];split
  ·rw [hyz]; rfl
  ·rfl
theorem BookE.nil : BookE [] [] := ⟨List.Pairwise.nil, fun p h => (by cases h), fun p h => (by cases h), fun p h => (by cases h), fun p h => (by cases h), List.nodup_nil, fun x => rfl⟩
theorem zd2 {p : Prop} (h : p) : p /\ p /\ p := ⟨h, h, h⟩
theorem zd3 {p : Prop} (h : p) : p /\ p := ⟨h, h⟩
structure GrowB (B : GB) (i : Nat) : Prop where
 bk : BkOK B
 tx : BTx B
 len : B.length = i
 zero : bF (aS B) 0 = some [dO kX]
 up : ∀ j : Nat, 1 <= j -> j < i -> bF (aS B) j = some [cZ ((j - 1 : Nat) : Int), cZ ((j - 1 : Nat) : Int)]
 no : ∀ x : Int, (i : Int) <= x -> bF (aS B) x = none
theorem zd4 {B : GB} {x : Int} (h : bF (aS B) x = none) : aT x B = none := by
 rw [eE] at h;cases e : aT x B with
 | none => rfl
 | some y => rw [e] at h; cases h
theorem GrowB.more {B : GB} {i : Nat} (h : GrowB B i) (hi : 1 <= i) {y : GE} (hy : y.2.2.map (·.2.2) = [cZ ((i - 1 : Nat) : Int), cZ ((i - 1 : Nat) : Int)]) : GrowB (aM i y B) (i + 1) := by
 have hn := zd4 (h.no i (qe _));refine ⟨h.bk.set (by rw [m7 hy]; simp), h.tx.set (m6 hy (by intro x hx; simp at hx; subst hx; exact eI rfl)), by rw [kL hn, h.len], ?_, fun j h1 h2 => ?_, fun x hx => ?_⟩
 ·rw [gT, if_neg (by omega)]; exact h.zero
 ·rw [gT];by_cases e : j = i
  ·subst e; rw [if_pos rfl, hy]
  ·rw [if_neg (by omega)]; exact h.up j h1 (by omega)
 ·rw [gT, if_neg (by omega)]; exact h.no x (by omega)
theorem GrowB.grows {B : GB} {n : Nat} (h : GrowB B (n + 1)) : zbn (aS B) [kX] n := ⟨h.zero, fun i hi => ⟨_, _, h.up (i + 1) (by omega) (by omega), ⟨rfl, rfl⟩, ⟨rfl, rfl⟩⟩⟩
theorem zd5 : Try.prog.underlying 3 = some (.int .i64) := by kernel_rfl
theorem zd6 {v : PV} (h : iP qa 8 3 v) : ∃ n : Int, v = .int .i64 n := by
 obtain ⟨m, e, _⟩ := za0 zd5 (za1 (by kernel_rfl) h);cases e;exact ⟨m, rfl⟩
end Go.Eng
namespace Go.Eng
open Go Go.Proofs
end Go.Eng
namespace Go.Eng
open Go Go.Proofs Go.Eng.Rows
def KL (s : List (List PV)) (k : Nat) : Prop := ∃ A : List GKey, s = A.map bO /\ A.length <= k /\ ∀ q ∈ A, bP q.2.2
theorem zd7 (q : GKey) (hq : bP q.2.2) (n2 f2 : Bool) (L : List GS) (hl : L.length < 1000) : PCall qa 12 [.agg [.bool true, .sl n2 f2 (L.map encGS)], .agg (bO q)] fun v => ∃ (n f : Bool) (L' : List GS), v = .tup [.agg [.bool true, .sl n f (L'.map encGS)], .bool true] /\ L'.map (·.2.2) = L.map (·.2.2) ++ [dO q.2.2] := by
 refine vJ _ _ _ _ _ _ _ _ _ _ ?_;unfold p0;have ll : (L.map encGS).length = L.length := qc _;have hsz : cH (L.map encGS) 6 := uP (enc := encGS) vM L;rw [ll];refine b7 (by simp) (b7 (by simp only [beq_iff_eq]; omega) ((p7 _ _ _ (by unfold bP at hq; omega)).mono ?_));rintro _ ⟨n1, f1, rfl⟩;have ht : List.drop 0 (List.take ((L.length : Int)).toNat (L.map encGS)) = L.map encGS := by rw [Int.toNat_natCast, List.drop_zero, List.take_of_length_le (by rw [ll]; exact qi _)]
 rw [ht];refine ⟨_, _, _, rfl, ⟨⟨by simp, by simp, by simp, by simp⟩, hsz⟩, ⟨by simp, .inr (by simp), hsz, fun e he => by cases he; rfl, by rw [ll]; simp; omega⟩, n2 && false, false, L ++ [(n1, f1, dO q.2.2)], ?_, by rw [qj]; rfl⟩;rw [qj]; rfl
theorem mStart : PCall qa 13 [] fun v => v = .agg [.bool true, .sl true true []] := by
 refine zcj ?_;unfold vI;rfl
theorem KL.len {s : List (List PV)} {k : Nat} (h : KL s k) : s.length <= k := by obtain ⟨A, rfl, h1, _⟩ := h; simpa using h1
theorem ACall.give0 {P : Program} {f : Nat} {p q : PV} {ty : Nat × Nat} {m n : Bool} {es : List (List PV)} {Φ : PV -> Prop} (hc : PCall P f [p, q, .sl n false es] Φ) :
 ACall P f [.pv p, .pv q, .own 0] [.sl ty m n es] fun r h' => (∃ v, r = .pv v /\ Φ v) /\ h' = [.dead] :=
 ⟨hc.1, fun w I G cargs hh hsz hrel => by
  have hcl : ∀ b, AllB I [Ob.sl ty m n es] G b -> b < w.heap.size := fun b hb => hb.elim (hh.cl b) hh.blk_lt;have hrep := lQ hh (hrel 2 _ rfl) (rfl : eR [Ob.sl ty m n es] (.own 0) = some (.sl n false es));have tree : ∀ {u : PV} {c : Value}, LRel w I G [Ob.sl ty m n es] (.pv u) c -> LRel w (AllB I [Ob.sl ty m n es] G) G [] (.pv u) c := fun h => by cases h with | pv _ _ h => exact .pv _ _ (h.mono (fun _ _ _ => rfl) (fun b hb _ => .inl hb))
  refine (hc.2 w (AllB I [Ob.sl ty m n es] G) G cargs (HRel.nil G hcl) hsz fun i v hi => ?_).mono ?_
  ·match i, hi with
   | 0, hi => cases hi; exact tree (hrel 0 _ rfl)
   | 1, hi => cases hi; exact tree (hrel 1 _ rfl)
   | 2, hi => cases hi; exact .pv _ _ hrep
  rintro e w' ⟨cv, r, h', I2, G2, e1, ⟨v, rfl, hφ⟩, e3, e4, e5⟩;have t := e5.t;have noN : ∀ b, ¬aD [] G b := fun b ⟨o, ob, ho, _⟩ => by simp at ho
  have dead : ∀ {i : Nat} {x : Ob}, [Ob.dead][i]? = some x -> x = .dead := fun {i x} h => by
   cases i with
   | zero => cases h; rfl
   | succ i => simp at h
  refine ⟨cv, .pv v, [.dead], I2, G, e1, ⟨⟨v, rfl, hφ⟩, rfl⟩, ⟨fun i x hx => by rw [dead hx]; trivial, fun i j x y hx ha => by rw [dead hx] at ha; exact ha.elim, fun i x hx ha => by rw [dead hx] at ha; exact ha.elim, e3.cl⟩, ?_,
   ⟨⟨t.os, t.tape, t.output, t.size, fun b hb _ => t.keep b hb (noN b), fun b hb => t.i1 b (.inl hb), fun b hb => (t.i2 b hb).elim (fun h => h.imp id .inl) (fun h => h.elim (fun h => absurd h (noN b)) (fun h => .inr (.inr h))), fun b ⟨i, x, hx, ha, _⟩ => by rw [dead hx] at ha; exact ha.elim, t.frz, t.drawn⟩, qi _, fun i x hi hx hf => by rw [dead hx] at hf; cases hf⟩⟩
  cases e4 with | pv _ _ h => exact .pv _ _ h⟩
theorem zd8 (B : GB) (nm : Int) (n f : Bool) (L : List GS) (hl : 1000 < L.length) : PCall qa 7 [.agg [.mp (aN B)], .int .i32 nm, .sl n f (L.map encGS)] fun v => v = .tup [.agg [.mp (aN B)], .int .i64 7] := by
 refine pZ _ _ _ _ _ ?_;unfold mT;rw [qc];refine ⟨kE _, fun v hv => ?_, fun hv => iQ (by simp only [aW]; omega) rfl⟩;rw [iT] at hv;cases hy : aT nm B with
 | none => rw [hy] at hv; cases hv
 | some y => rw [hy] at hv; cases hv; exact ⟨_, _, _, rfl, iQ (by simp only [aW]; omega) rfl⟩
theorem zd9 (B : GB) (nm : Int) (n f : Bool) (L : List GS) (hl : L.length <= 1000) (hn : aT nm B = none) (hf : B.length = 100) : PCall qa 7 [.agg [.mp (aN B)], .int .i32 nm, .sl n f (L.map encGS)] fun v => v = .tup [.agg [.mp (aN B)], .int .i64 3] := by
 refine pZ _ _ _ _ _ ?_;unfold mT;have lb : (aN B).length = B.length := uQ B;rw [qc, lb];refine ⟨kE _, fun v hv => ?_, fun hv => b7 (by simp only [aW]; omega) (iQ (by simp only [beq_iff_eq]; omega) rfl)⟩;rw [iT, hn] at hv;cases hv
theorem zea (q : GKey) (n2 f2 : Bool) (L : List GS) (hl : L.length = 1000) : PCall qa 12 [.agg [.bool true, .sl n2 f2 (L.map encGS)], .agg (bO q)] fun v => v = .tup [.agg [.bool true, .sl n2 f2 (L.map encGS)], .bool false] := by
 refine vJ _ _ _ _ _ _ _ _ _ _ ?_;unfold p0;rw [qc];exact b7 (by simp) (iQ (by simp only [beq_iff_eq]; omega) rfl)
theorem zeb (k : Int) : ∃ n : Nat, n <= 15 /\ i64.wrap ((BitVec.ofInt i64.bits k &&& BitVec.ofInt i64.bits (15 : Int)).toNat : Int) = n := by
 have h : (BitVec.ofInt i64.bits k &&& BitVec.ofInt i64.bits (15 : Int)).toNat <= 15 := by
  rw [BitVec.toNat_and];refine Nat.le_trans Nat.and_le_right ?_;decide
 exact ⟨_, h, aE (by omega) (by omega)⟩
def FullB (p : PV) (i : Nat) : Prop := (i = 0 /\ p = .nilm) ∨ ∃ B : GB, p = .mp (aN B) /\ B.length = i /\ ∀ x : Int, x ∈ B.map (·.1) ↔ 0 <= x /\ x < i
theorem FullB.more {p : PV} {i : Nat} (h : FullB p i) (hi : i < 100) : PCall qa 7 [.agg [p], .int .i32 (i : Int), .sl true true []] fun v => ∃ B : GB, v = .tup [.agg [.mp (aN B)], .int .i64 0] /\ FullB (.mp (aN B)) (i + 1) := by
 rcases h with ⟨rfl, rfl⟩ | ⟨B, rfl, hl, hm⟩
 ·refine (vP 0 true true [] (by decide) (fun x h => by cases h)).mono ?_;rintro _ ⟨y, rfl, _⟩;exact ⟨_, rfl, .inr ⟨_, rfl, rfl, fun x => by simp [aM]; omega⟩⟩
 ·have hn : (i : Int) ∉ B.map (·.1) := fun h => by have := (hm _).1 h; omega
  refine (mU B i true true [] (by decide) (fun x h => by cases h) (.inr (by omega))).mono ?_;rintro _ ⟨y, rfl, _⟩;refine ⟨_, rfl, .inr ⟨_, rfl, by rw [kL (kD.2 hn), hl], fun x => ?_⟩⟩;rw [iR, if_neg hn, List.mem_append, hm, List.mem_singleton];omega
theorem zec : qd 1001 [PV.int .i64 0, .int .i32 0, .bool false, .sl true true [], .bool false, .int .i32 0] = (qd 1001 (g46 ⟨⟨0, 0, false, []⟩, false, 0⟩)).map encGS := by
 rw [List.map_replicate]; rfl
end Go.Eng
namespace Go.Eng
open Go Go.Proofs
def qX  (x0 x4 : Int) (h0_0 : PV) : Env × Hp := ([(0, Y6 x0), (3, LV.box 0 0), (4, Y6 x4)], [.box [.pv h0_0]])
def iW  (x12 x14 : Int) (h0_0 hn0_1 hf0_1 : Bool) (hs0_1 : LL) : Env × Hp := ([(12, Y6 x12), (13, LV.box 0 0), (14, Y6 x14)], [.box [.pv (.bool h0_0), .pv (.sl hn0_1 hf0_1 hs0_1)]])
section
variable (k : Int) (J : Int -> Int -> PV -> Prop) (μ : Int -> Int -> PV -> Nat) (J2 : Int -> Int -> Bool -> Bool -> Bool -> LL -> Prop) (μ2 : Int -> Int -> Bool -> Bool -> Bool -> LL -> Nat)
def xD (R : PV -> Prop) : Prop :=
 (aL (qX (i64.wrap (↑(BitVec.ofInt i64.bits k &&& BitVec.ofInt i64.bits (15 : Int)).toNat : Int)) (0 : Int) PV.nilm) /\ J (i64.wrap (↑(BitVec.ofInt i64.bits k &&& BitVec.ofInt i64.bits (15
  : Int)).toNat : Int)) (0 : Int) PV.nilm) /\ ∀ (x0 x4 : Int) (h0_0 : PV), J x0 x4 h0_0 -> if decide (x4 < 100) = true then ACall qa 7 [LV.pv (PV.agg [h0_0]), LV.pv (Z3 (i32.wrap x4)), LV.pv (PV.sl true true [])] [] fun (r :
  LV) (h' : Hp) => ∃ (t : List (PV × PV) × Int), (r = LV.pv (PV.tup [PV.agg [PV.mp t.fst], Z6 t.2]) /\ h' = []) /\ True /\ if (t.2 != 0) = true then R (Zb false) else aL (qX x0 (i64.wrap (x4 + 1)) (PV.mp t.fst)) /\ J x0
  (i64.wrap (x4 + 1)) (PV.mp t.fst) /\ μ x0 (i64.wrap (x4 + 1)) (PV.mp t.fst) < μ x0 x4 h0_0 else ACall qa 7 [LV.pv (PV.agg [h0_0]), LV.pv (Z3 (i32.wrap (i64.wrap ((100 : Int) + x0)))), LV.pv (PV.sl
  true true [])] [] fun (r : LV) (h' : Hp) => ∃ (t : List (PV × PV) × Int), (r = LV.pv (PV.tup [PV.agg [PV.mp t.fst], Z6 t.2]) /\ h' = []) /\ True /\ ACall qa 7 [LV.pv (PV.agg [h0_0]), LV.pv (Z3 (i32.wrap x0)), LV.pv (PV.sl false
  true [[Z6 0, Z3 0, Zb false, PV.sl true true [], Zb true, Z3 1]])] [] fun (r1 : LV) (h'1 : Hp) => ∃ (t1 : List (PV × PV) × Int), (r1 = LV.pv (PV.tup [PV.agg [PV.mp t1.fst], Z6 t1.2]) /\ h'1 = []) /\ True /\ if (t.2 != 3) = true then R (Zb
  false) else PCall qa 19 [PV.agg [PV.mp t.fst]] fun v => ∃ n f es, v = PV.sl n f es /\ if ((↑es.length : Int) != 100 || t1.2 != 0) = true then R (Zb false) else PCall qa 19 [PV.agg [PV.mp
  t1.fst]] fun v1 => ∃ n1 f1 es1, v1 = PV.sl n1 f1 es1 /\ if ((↑es1.length : Int) != 100) = true then R (Zb false) else
 let V1 := ((0 : Int) <= 1001 /\ (1001 : Int) <= 1001 /\ (↑48 : Int) * 1001 <= 281474976710656 /\ (1001 : Int) <= 9223372036854775807) /\
 let V2 := ∀ (x12 x14 : Int) (h0_01 hn0_1 hf0_1 : Bool) (hs0_1 : LL), J2 x12 x14 h0_01 hn0_1 hf0_1 hs0_1 -> if decide (x14 < 1000) = true then ACall qa 12 [LV.pv (PV.agg [Zb h0_01, PV.sl hn0_1 hf0_1 hs0_1]), LV.pv (PV.agg [Z6 1, Z3
  (i32.wrap x14), Zb false, PV.sl true true []])] [] fun (r4 : LV) (h'4 : Hp) => ∃ (t4 : Bool × Bool × Bool × LL × Bool), (r4 = LV.pv (PV.tup [PV.agg [Zb t4.fst, PV.sl t4.snd.fst t4.snd.snd.fst t4.snd.snd.snd.fst], Zb
  t4.snd.snd.snd.snd]) /\ h'4 = []) /\ True /\ if (!t4.snd.snd.snd.snd) = true then R (Zb false) else aL (iW x12 (i64.wrap (x14 + 1)) t4.fst t4.snd.fst t4.snd.snd.fst t4.snd.snd.snd.fst) /\ J2 x12 (i64.wrap (x14 + 1))
  t4.fst t4.snd.fst t4.snd.snd.fst t4.snd.snd.snd.fst /\ μ2 x12 (i64.wrap (x14 + 1)) t4.fst t4.snd.fst t4.snd.snd.fst t4.snd.snd.snd.fst < μ2 x12 x14 h0_01 hn0_1 hf0_1 hs0_1 else ACall qa 12 [LV.pv (PV.agg [Zb h0_01, PV.sl
  hn0_1 hf0_1 hs0_1]), LV.pv (PV.agg [Z6 1, Z3 0, Zb false, PV.sl true true []])] [] fun (r4 : LV) (h'4 : Hp) => ∃ (t4 : Bool × Bool × Bool × LL × Bool), (r4 = LV.pv (PV.tup [PV.agg [Zb t4.fst, PV.sl t4.snd.fst t4.snd.snd.fst
  t4.snd.snd.snd.fst], Zb t4.snd.snd.snd.snd]) /\ h'4 = []) /\ True /\ if (x12 == 7 && !t4.snd.snd.snd.snd) = true then PCall qa 9 [] fun v2 => ∃ b, v2 = Zb b /\ R (Zb b) else R (Zb false); (ACall qa 7 [LV.pv (PV.agg
  [h0_0]), LV.pv (Z3 0), LV.own 0] [Ob.sl (32, 6) false false (qd 1001 [Z6 0, Z3 0, Zb false, PV.sl true true [], Zb false, Z3 0])] fun (r2 : LV) (h'2 : Hp) => ∃ (t2 : List (PV × PV) × Int), (r2 = LV.pv (PV.tup [PV.agg [PV.mp t2.fst], Z6 t2.2]) /\ h'2 = [Ob.dead]) /\ (True /\ True) /\
 let V3 := ACall qa 13 [] [] fun (r3 : LV) (h'3 : Hp) => ∃ (t3 : Unit), (r3 = LV.pv (PV.agg [Zb true, PV.sl true true []]) /\ h'3 = []) /\ True /\ (aL (iW t2.2 (0 : Int) true true true []) /\ J2 t2.2 (0 : Int) true true true []) /\
  V2; V3 /\ V3 /\ V3) /\ ACall qa 7 [LV.pv (PV.agg [h0_0]), LV.pv (Z3 0), LV.own 0] [Ob.sl (32, 6) false false (qd 1001 [Z6 0, Z3 0, Zb false, PV.sl true true [], Zb false, Z3 0])] fun (r2 : LV) (h'2 : Hp) => ∃ (t2 : List (PV × PV) × Int), (r2 = LV.pv (PV.tup [PV.agg [PV.mp t2.fst], Z6 t2.2]) /\ h'2 = [Ob.dead]) /\ (True /\ True) /\
 let V4 := ACall qa 13 [] [] fun (r3 : LV) (h'3 : Hp) => ∃ (t3 : Unit), (r3 = LV.pv (PV.agg [Zb true, PV.sl true true []]) /\ h'3 = []) /\ True /\ (aL (iW t2.2 (0 : Int) true true true []) /\ J2 t2.2 (0 : Int) true true true []) /\
  V2; V4 /\ V4;
 let V5 := ((0 : Int) <= 1001 /\ (1001 : Int) <= 1001 /\ (↑48 : Int) * 1001 <= 281474976710656 /\ (1001 : Int) <= 9223372036854775807) /\ ACall qa 7 [LV.pv (PV.agg [h0_0]), LV.pv (Z3 0), LV.own 0] [Ob.sl (32, 6) false false (qd 1001 [Z6 0, Z3 0, Zb false, PV.sl true true [], Zb false, Z3 0])] fun (r2 : LV) (h'2 : Hp) => ∃ (t2 : List (PV × PV) × Int), (r2 =
  LV.pv (PV.tup [PV.agg [PV.mp t2.fst], Z6 t2.2]) /\ h'2 = [Ob.dead]) /\ (True /\ True) /\
 let V6 := ACall qa 13 [] [] fun (r3 : LV) (h'3 : Hp) => ∃ (t3 : Unit), (r3 = LV.pv (PV.agg [Zb true, PV.sl true true []]) /\ h'3 = []) /\ True /\ (aL (iW t2.2 (0 : Int) true true true []) /\ J2 t2.2 (0 : Int) true true true []) /\ ∀
  (x12 x14 : Int) (h0_01 hn0_1 hf0_1 : Bool) (hs0_1 : LL), J2 x12 x14 h0_01 hn0_1 hf0_1 hs0_1 -> if decide (x14 < 1000) = true then ACall qa 12 [LV.pv (PV.agg [Zb h0_01, PV.sl hn0_1 hf0_1 hs0_1]), LV.pv (PV.agg [Z6 1, Z3
  (i32.wrap x14), Zb false, PV.sl true true []])] [] fun (r4 : LV) (h'4 : Hp) => ∃ (t4 : Bool × Bool × Bool × LL × Bool), (r4 = LV.pv (PV.tup [PV.agg [Zb t4.fst, PV.sl t4.snd.fst t4.snd.snd.fst t4.snd.snd.snd.fst], Zb
  t4.snd.snd.snd.snd]) /\ h'4 = []) /\ True /\ if (!t4.snd.snd.snd.snd) = true then R (Zb false) else aL (iW x12 (i64.wrap (x14 + 1)) t4.fst t4.snd.fst t4.snd.snd.fst t4.snd.snd.snd.fst) /\ J2 x12 (i64.wrap (x14 + 1))
  t4.fst t4.snd.fst t4.snd.snd.fst t4.snd.snd.snd.fst /\ μ2 x12 (i64.wrap (x14 + 1)) t4.fst t4.snd.fst t4.snd.snd.fst t4.snd.snd.snd.fst < μ2 x12 x14 h0_01 hn0_1 hf0_1 hs0_1 else ACall qa 12 [LV.pv (PV.agg [Zb h0_01, PV.sl
  hn0_1 hf0_1 hs0_1]), LV.pv (PV.agg [Z6 1, Z3 0, Zb false, PV.sl true true []])] [] fun (r4 : LV) (h'4 : Hp) => ∃ (t4 : Bool × Bool × Bool × LL × Bool), (r4 = LV.pv (PV.tup [PV.agg [Zb t4.fst, PV.sl t4.snd.fst t4.snd.snd.fst
  t4.snd.snd.snd.fst], Zb t4.snd.snd.snd.snd]) /\ h'4 = []) /\ True /\ if (x12 == 7 && !t4.snd.snd.snd.snd) = true then PCall qa 9 [] fun v2 => ∃ b, v2 = Zb b /\ R (Zb b) else R (Zb false); V6 /\ V6; (V1 /\ V5) /\ V1 /\ V5 /\
  V5
theorem zed {R : PV -> Prop} (h : xD k J μ J2 μ2 R) : PCall qa 6 [.int .i64 k] R :=
 PCall.wz Try.func6 (fun zz_ => match zz_ with | 7 => some ⟨List (PV × PV) × Int, fun _ hs t => (.pv (.tup [.agg [.mp t.1], .int .i64 t.2]), match hs with | [.sl _ _ _ _] => [.dead] | h => h), none⟩ | 8 => some ⟨Bool × Bool × LL × Int, fun _ _ t => (.pv (.tup [.sl t.1 t.2.1 t.2.2.1, .int .i64 t.2.2.2]), []), none⟩ | 12 => some ⟨Bool × Bool × Bool × LL × Bool, fun _ _ t => (.pv (.tup [.agg [.bool t.1, .sl t.2.1 t.2.2.1 t.2.2.2.1], .bool t.2.2.2.2]), []), none⟩ | 14 => some ⟨Bool × Bool × LL, fun _ _ t => (.pv (.tup [.agg [.bool false, .sl true true []], .sl t.1 t.2.1 t.2.2]), []), none⟩ | 13 => some ⟨Unit, fun _ _ _ => (.pv (.agg [.bool true, .sl true true []]), []), none⟩ | 20 => some ⟨Bool × Bool × LL × Bool, fun _ _ t => (.pv (.tup [.sl t.1 t.2.1 t.2.2.1, .bool t.2.2.2]), []), none⟩ | 18 => some ⟨Bool × Bool × LL × Int, fun _ _ t => (.pv (.tup [.sl t.1 t.2.1 t.2.2.1, .int .i64 t.2.2.2]), []), none⟩ | _ => none) [0, 2, 3, 4, 5, 6, 7, 8, 9, 10, 12, 13, 14, 15, 16, 18, 22, 33, 69, 78, 90] (lkz [(4, (cM dJ qX J μ (fun e h => (gI e 0, gI e 4, hP h 0 0)) [] [0, 3, 4] [])), (17, (cM cz6 iW J2 μ2 (fun e h => (gI e 12, gI e 14, hB h 0 0, hN h 0 1, hF h 0 1, hS h 0 1)) [] [12, 13, 14] []))]) h
end
end Go.Eng
namespace Go.Eng
open Go Go.Proofs Go.Eng.Rows
theorem zee (k : Int) : PCall qa 6 [.int .i64 k] fun v => v = .bool true := by
 obtain ⟨n, hn, hw⟩ := zeb k
 refine zed _ (fun x y p => x = n /\ ∃ i : Nat, y = i /\ i <= 100 /\ FullB p i) (fun _ y _ => (100 - y).toNat)
  (fun x y on _ _ s => x = 7 /\ on = true /\ ∃ (i : Nat) (L : List GS), y = i /\ i <= 1000 /\ s = L.map encGS /\ L.length = i) (fun _ y _ _ _ _ => (1000 - y).toNat) ?_
 unfold xD;rw [hw];refine ⟨⟨rfl, rfl, 0, rfl, by omega, .inl ⟨rfl, rfl⟩⟩, ?_⟩;rintro _ _ p ⟨rfl, i, rfl, hi, hF⟩;refine aH (fun hc => ?_) (fun hc => ?_)
 ·simp only [aW] at hc;have h1 : i < 100 := by omega
  rw [pL (n := (i : Int)) (by omega) (by omega), iU (by omega)];refine ((hF.more h1).acall).mono ?_;rintro _ _ ⟨_, rfl, rfl, B, rfl, hB⟩;exact ⟨(_, _), ⟨rfl, rfl⟩, trivial, b7 (by simp) ⟨rfl, ⟨rfl, i + 1, rfl, by omega, hB⟩, by dsimp only; omega⟩⟩
 simp only [aW] at hc;have h100 : i = 100 := by omega
 subst h100;rcases hF with ⟨h, _⟩ | ⟨B, rfl, hl, hm⟩
 ·exact absurd h (by decide)
 have w1 : i64.wrap ((100 : Int) + n) = ((100 + n : Nat) : Int) := by rw [aE (by omega) (by omega)]; omega
 rw [w1, pL (n := ((100 + n : Nat) : Int)) (by omega) (by omega), pL (n := (n : Int)) (by omega) (by omega)];have hno : aT ((100 + n : Nat) : Int) B = none := kD.2 fun h => by have := (hm _).1 h; omega
 have hin : (n : Int) ∈ B.map (·.1) := (hm _).2 (by omega)
 have hso : (aT (n : Int) B).isSome = true := by
  cases e : aT (n : Int) B with
  | none => exact absurd hin (kD.1 e)
  | some y => rfl
 refine ((zd9 B _ true true [] (by decide) hno hl).acall).mono ?_;rintro _ _ ⟨_, rfl, rfl, rfl⟩;refine ⟨(_, _), ⟨rfl, rfl⟩, trivial, ?_⟩;refine ((mU B n false true [g46 (cZ 1)] (by decide) (by intro x hx; simp at hx; subst hx; exact eI rfl) (.inl hso)).acall).mono ?_;rintro _ _ ⟨_, rfl, rfl, y, rfl, hy⟩;refine ⟨(_, _), ⟨rfl, rfl⟩, trivial, b7 (by simp) ((wV (B := B) (by omega)).mono ?_)⟩;rintro _ ⟨n1, l, rfl, hll⟩
 have hl2 : (aM (n : Int) y B).length = 100 := by
  have := congrArg qf (iR (n : Int) y B);rw [if_pos hin, qc, qc, hl] at this;exact this
 refine ⟨_, _, _, rfl, b7 (by rw [gQ, hll, hl]; simp) ((wV (B := aM (n : Int) y B) (by omega)).mono ?_)⟩;rintro _ ⟨n2, l2, rfl, hll2⟩;refine ⟨_, _, _, rfl, b7 (by rw [gQ, hll2, hl2]; simp) ?_⟩;clear hll hll2 hy hso hno hin
 have T : ACall qa 7 [.pv (.agg [.mp (aN B)]), .pv (.int .i32 0), .own 0] [.sl (32, 6) false false (qd 1001 [PV.int .i64 0, .int .i32 0, .bool false, .sl true true [], .bool false, .int .i32 0])] fun r h' => (∃ v, r = .pv v /\ v = .tup [.agg [.mp (aN B)], .int .i64 7]) /\ h' = [.dead] := by
  rw [zec];exact ACall.give0 (zd8 B 0 false false _ (by rw [List.length_replicate]; decide))
 have rng : (0 : Int) <= 1001 /\ (1001 : Int) <= 1001 /\ ((48 : Nat) : Int) * 1001 <= 281474976710656 /\ (1001 : Int) <= 9223372036854775807 := by decide
 refine ⟨⟨⟨rng, T.mono ?_, T.mono ?_⟩, rng, T.mono ?_⟩, ⟨rng, T.mono ?_, T.mono ?_⟩, ⟨rng, T.mono ?_⟩, rng, T.mono ?_⟩
 all_goals
  rintro _ _ ⟨⟨_, rfl, rfl⟩, rfl⟩;refine ⟨(_, _), ⟨rfl, rfl⟩, ⟨trivial, trivial⟩, ?_⟩
  first | refine zd2 ?_ | refine zd3 ?_
  refine (mStart.acall).mono ?_;rintro _ _ ⟨_, rfl, rfl, rfl⟩;refine ⟨(), ⟨rfl, rfl⟩, trivial, ⟨rfl, rfl, rfl, 0, [], rfl, by omega, rfl, rfl⟩, ?_⟩;rintro _ _ _ nl fl _ ⟨rfl, rfl, j, L, rfl, hj, rfl, hL⟩;refine aH (fun hc2 => ?_) (fun hc2 => ?_)
  ·simp only [aW] at hc2;rw [iU (by omega)];refine ((zd7 (true, true, ⟨1, i32.wrap j, false, []⟩) (eI rfl) nl fl L (by omega)).acall).mono ?_;rintro _ _ ⟨_, rfl, rfl, n3, f3, L', rfl, hL'⟩;have hl' : L'.length = j + 1 := by have := congrArg qf hL'; simp only [qc, List.length_append, List.length_singleton] at this; omega
   exact ⟨(_, _, _, _, _), ⟨rfl, rfl⟩, trivial, b7 (by simp) ⟨rfl, ⟨rfl, rfl, j + 1, L', rfl, by omega, rfl, hl'⟩, by dsimp only; omega⟩⟩
  ·simp only [aW] at hc2;refine ((zea (true, true, ⟨1, 0, false, []⟩) nl fl L (by omega)).acall).mono ?_;rintro _ _ ⟨_, rfl, rfl, rfl⟩;refine ⟨(_, _, _, _, _), ⟨rfl, rfl⟩, trivial, iQ rfl (awake46.mono ?_)⟩;rintro _ rfl;exact ⟨_, rfl, rfl⟩
theorem lawMacroFull {pvs : List PV} (h : kC qa 8 Try.f6.params.toList pvs) : PCall qa 6 pvs fun v => v = .bool true := by
 obtain ⟨v0, r0, rfl, h0, rfl⟩ : kC qa 8 [3] pvs := h;obtain ⟨k, rfl⟩ := zd6 h0;exact zee k
end Go.Eng
