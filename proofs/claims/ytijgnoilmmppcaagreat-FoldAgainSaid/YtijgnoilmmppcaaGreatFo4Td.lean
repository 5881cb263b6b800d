/- States run over the code: what each function gives, and what follows. -/
import Derived.Test.YtijgnoilmmppcaaGreatFo4Tc
open Go.IntKind (i64 i32)
set_option linter.unusedVariables false
set_option linter.unusedSimpArgs false
set_option maxRecDepth 100000
set_option linter.constructorNameAsVariable false
namespace Go.Eng
open Go Go.Proofs Go.Eng.Rows Go.Eng.Trie Go.Eng.Srt
theorem PCall.vac {P : Program} {f : Nat} {args args' : List PV} {Q Q' : PV -> Prop} (h : PCall P f args' Q') {k : Nat} {fl : Bool} {es : List (List PV)} (hk : args[k]? = some (.sl true fl es)) (hne : es ≠ []) : PCall P f args Q :=
 ⟨h.1, fun w I G cargs _ _ h3 => by
  have := h3 k (.pv (.sl true fl es)) (by rw [List.getElem?_map, hk]; rfl)
  generalize cargs.getD k undef = c at this
  cases this with
  | pv _ _ h =>
    generalize hx : es = xs at h
    cases h with
    | slnil => exact absurd hx hne⟩
theorem zi9 {L : List Int} (h : L ≠ []) : aA L ≠ [] := fun e => h (by cases L with | nil => rfl | cons a b => cases e)
section
variable {t : PV}
theorem ztp (hv : dG tab t) (n f n2 f2 : Bool) (L P : List Int) (hr : R32 L) (hL : L.length < 100000) (hr2 : R32 P) (hL2 : P.length < 1000000) : PCall Tryz.prog 27 [t, .sl n f (aA L), .sl n2 f2 (aA P)] fun x => x = zi2 (tU tab L P) := by
 by_cases h : n = true -> L = []
 ·exact zi4 tT gL fL hv n f n2 f2 L P h hr hL hr2 hL2
 ·have hn : n = true := by cases n with | true => rfl | false => exact absurd (fun h => by cases h) h
  subst hn
  exact PCall.vac (zi4 tT gL fL hv false f n2 f2 L P (fun h => by cases h) hr hL hr2 hL2) (k := 1) rfl (zi9 fun e => h fun _ => e)
theorem ztq (hv : dG tab t) (n f : Bool) (L : List Int) (hr : R32 L) (hL : L.length < 100000) : PCall Tryz.prog 37 [t, .sl n f (aA L)] fun x => ∃ n f, x = .sl n f (aA (tV tab L)) := by
 by_cases h : n = true -> L = []
 ·exact zi7 tT gL fL hv n f L h hr hL
 ·have hn : n = true := by cases n with | true => rfl | false => exact absurd (fun h => by cases h) h
  subst hn
  exact PCall.vac (zi7 tT gL fL hv false f L (fun h => by cases h) hr hL) (k := 1) rfl (zi9 fun e => h fun _ => e)
theorem zap (hv : dG tab t) (n f : Bool) (L : List Int) (hr : R32 L) (hL : L.length < 1000000) : PCall Tryz.prog 35 [t, .sl n f (aA L)] fun x => ∃ n f, x = .sl n f (aA (bP tab L)) := qF gL fL hv n f L hr hL
end
theorem ztr : tU tab [120, 233, 121] [101] = some (1, 2) := by kernel_rfl
theorem zts : bP tab [7785] = [115] := by kernel_rfl
theorem ztt : tV tab [233, 769] = [101] := by kernel_rfl
theorem awake42 : PCall Tryz.prog 29 [] fun v => v = .bool true := by
 refine zsg ?_; unfold zaf
 refine p42.mono ?_
 rintro _ ⟨n, f, rfl⟩
 refine ⟨_, _, _, rfl, ?_⟩
 refine (zhf n f).mono fun t ht => ?_
 refine (ztp ht false true false true [120, 233, 121] [101] (fun x hx => by simp at hx; omega) (by simp) (fun x hx => by simp at hx; omega) (by simp)).mono ?_
 rintro _ rfl
 rw [ztr]
 refine ⟨_, rfl, rfl, _, rfl, _, rfl, _, rfl, _, rfl, _, rfl, _, rfl, bK rfl ?_⟩
 refine (zap ht false true [7785] (fun x hx => by simp at hx; omega) (by simp)).mono ?_
 rintro _ ⟨n1, f1, rfl⟩
 rw [zts]
 refine ⟨_, _, _, rfl, ?_⟩
 refine (tM n1 f1 false true [115] [115] (by simp)).mono ?_
 rintro _ rfl
 refine ⟨_, rfl, bK rfl ?_⟩
 refine (ztq ht false true [233, 769] (fun x hx => by simp at hx; omega) (by simp)).mono ?_
 rintro _ ⟨n2, f2, rfl⟩
 rw [ztt]
 refine ⟨_, _, _, rfl, ?_⟩
 refine (tM n2 f2 false true [101] [101] (by simp)).mono ?_
 rintro _ rfl
 exact ⟨_, rfl, rfl⟩
theorem ztu (n f : Bool) (a : List Int) (ha : R32 a) (n0 f0 : Bool) (b : List Int) (hb : R32 b) : PCall Tryz.prog 9 [.sl n f (aA a), .sl n0 f0 (aA b)] fun v => v = .bool true := by
 refine zsh _ _ _ _ _ _ ?_; unfold zh5
 refine (zhd n f a 60 (by omega)).mono ?_
 rintro _ ⟨n1, f1, rfl⟩
 refine ⟨_, _, _, rfl, ?_⟩
 refine (zhd n0 f0 b 60 (by omega)).mono ?_
 rintro _ ⟨n2, f2, rfl⟩
 refine ⟨_, _, _, rfl, ?_⟩
 refine p42.mono ?_
 rintro _ ⟨n3, f3, rfl⟩
 refine ⟨_, _, _, rfl, ?_⟩
 refine (zhf n3 f3).mono fun t ht => ?_
 have la := zhr a 60
 have lb := zhr b 60
 have ra := ha.take 60
 have rb := hb.take 60
 generalize a.take 60 = a at *
 generalize b.take 60 = b at *
 have hkl := qD fL a
 have hkr := zth fL gL ra
 have hid := zif zhl a
 refine (zap ht n1 f1 a ra (by omega)).mono ?_
 rintro _ ⟨n4, f4, rfl⟩
 refine ⟨_, _, _, rfl, ?_⟩
 refine (zap ht n4 f4 _ hkr (by omega)).mono ?_
 rintro _ ⟨n5, f5, rfl⟩
 rw [hid]
 refine ⟨_, _, _, rfl, ?_⟩
 refine (tM n5 f5 n4 f4 _ _ (by omega)).mono ?_
 rintro _ rfl
 refine ⟨_, rfl, bK (by simp) ?_⟩
 refine (zti gL fL ht n4 f4 _ hkr (by omega)).mono ?_
 rintro _ rfl
 rw [zsv zhl]
 refine ⟨_, rfl, bK rfl ?_⟩
 refine (ziz gL fL ht n1 f1 n4 f4 a _ ra hkr (by omega) (by omega)).mono ?_
 rintro _ rfl
 refine ⟨_, rfl, bK (by simp [hid]) ?_⟩
 refine (ziz gL fL ht n1 f1 n2 f2 a b ra rb (by omega) (by omega)).mono ?_
 rintro _ rfl
 refine ⟨_, rfl, ?_⟩
 refine (zi8 gL fL n3 f3 n1 f1 zV a ra (by omega)).mono ?_
 rintro _ ⟨n6, f6, rfl⟩
 refine ⟨_, _, _, rfl, ?_⟩
 refine (zi8 gL fL n3 f3 n2 f2 zV b rb (by omega)).mono ?_
 rintro _ ⟨n7, f7, rfl⟩
 refine ⟨_, _, _, rfl, ?_⟩
 refine (tM n6 f6 n7 f7 _ _ (by omega)).mono ?_
 rintro _ rfl
 refine ⟨_, rfl, bK (by simp) ?_⟩
 refine awake42.mono ?_
 rintro _ rfl
 exact ⟨_, rfl, rfl⟩
theorem lawFoldAgain {pvs : List PV} (h : pG Tryz.prog 8 Tryz.f9.params.toList pvs) : PCall Tryz.prog 9 pvs fun v => v = .bool true := by
 obtain ⟨v0, r0, rfl, h0, v1, r1, rfl, h1, rfl⟩ : pG Tryz.prog 8 [23, 23] pvs := h
 obtain ⟨nl, l, rfl, hr⟩ := zhp h0
 obtain ⟨nl1, l1, rfl, hr1⟩ := zhp h1
 exact ztu _ _ l hr _ _ l1 hr1
end Go.Eng


