/- Abstract states run over the code; what each function gives, printed by program and checked by the kernel; and what follows of it. -/
import Derived.Test.YtkhfdeljpgmfgaaGreatQaTc
open Go.IntKind (i64 i32)
set_option linter.unusedVariables false
set_option linter.unusedSimpArgs false
set_option maxRecDepth 100000
set_option linter.constructorNameAsVariable false
namespace Go.Eng
open Go Go.Proofs Go.Eng.Rows Go.Eng.Trie Go.Eng.Srt
theorem zah (rows : List Row) : ∀ (l : List Int) (m : Bool) (last : Int), cZ rows m last l = 0 ∨ cZ rows m last l = 1 ∨ cZ rows m last l = 2
 | [], m, last => by unfold cZ; split <;> simp
 | r :: l, m, last => by
   unfold cZ
   split
   ·exact .inr (.inl rfl)
   ·exact zah rows l _ _
theorem zs8 (n f n2 f2 : Bool) (L : List Int) (hr : R32 L) (hL : L.length < 1000000) : PCall Tryz.prog 15 [.sl n f (bC tab), .sl n2 f2 (aA L)] fun x => x = .bool (decide (jV tab L = L)) := by
 refine zs5 _ _ _ _ _ _ ?_; unfold zib
 have hc := zhj qH L
 refine (zso iD iE qH zsv n f n2 f2 zg6 L hr hL).mono ?_
 rintro _ ⟨n3, f3, rfl⟩
 refine ⟨_, _, _, rfl, ?_⟩
 refine (zrp _ _ _ _ _ _ (by omega)).mono ?_
 rintro _ rfl
 exact ⟨_, rfl, rfl⟩
theorem zs9 {t : PV} (ht : gO tab t) (n f : Bool) (L : List Int) (hr : R32 L) (hL : L.length < 1000000) : PCall Tryz.prog 17 [t, .sl n f (aA L)] fun x => x = .bool (decide (jV tab L = L)) := by
 have ht' := ht
 obtain ⟨tc, tg, tj, tf, tp, made, sec, rfl, htri, hm⟩ := ht
 refine zs6 _ _ _ _ _ _ _ _ _ _ ?_; unfold zic
 refine (zae iD iE ht' n f L (by omega) hr).mono ?_
 rintro _ rfl
 refine ⟨_, rfl, ?_⟩
 have hy := zht uO (l := L)
 have hno := zhu uO (l := L)
 have hv := zah tab L false 0
 generalize cZ tab false 0 L = k at *
 refine aH (fun h => ?_) (fun h => ?_)
 ·simp only [beq_iff_eq] at h
  rw [hy h]; simp
 ·simp only [beq_iff_eq] at h
  refine aH (fun h2 => ?_) (fun h2 => ?_)
  ·refine (zro ht' n f L hr hL).mono ?_
   rintro _ ⟨n3, f3, rfl⟩
   have hc := zhj qH L
   refine ⟨_, _, _, rfl, ?_⟩
   refine (zqy _ _ _ _ _ _ (by omega)).mono ?_
   rintro _ rfl
   exact ⟨_, rfl, rfl⟩
  ·simp only [beq_iff_eq] at h2
   have h1 : k = 1 := by omega
   simp [hno h1]
theorem zta (n f : Bool) (l : List Int) (hr : R32 l) : PCall Tryz.prog 4 [.sl n f (aA l)] fun v => v = .bool true := by
 refine zs7 _ _ _ ?_; unfold zid
 refine (zqu n f l 150 (by omega)).mono ?_
 rintro _ ⟨n1, f1, rfl⟩
 refine ⟨_, _, _, rfl, ?_⟩
 refine p42.mono ?_
 rintro _ ⟨n2, f2, rfl⟩
 refine ⟨_, _, _, rfl, ?_⟩
 refine (zg7 n2 f2).mono fun t ht => ?_
 have hr2 := hr.take 150
 have hl := zrq l 150
 generalize l.take 150 = l at *
 refine (zs8 _ _ _ _ l hr2 (by omega)).mono ?_
 rintro _ rfl
 refine ⟨_, rfl, ?_⟩
 refine (zae iD iE ht _ _ l (by omega) hr2).mono ?_
 rintro _ rfl
 refine ⟨_, rfl, ?_⟩
 refine (zs9 ht _ _ l hr2 (by omega)).mono ?_
 rintro _ rfl
 refine ⟨_, rfl, ?_⟩
 have hy := zht uO (l := l)
 have hno := zhu uO (l := l)
 have hv := zah tab l false 0
 generalize cZ tab false 0 l = k at *
 refine bE ?_ ?_
 ·rcases hv with rfl | rfl | rfl
  ·simp [hy rfl]
  ·simp [hno rfl]
  ·simp
 ·refine awake8.mono ?_
  rintro _ rfl
  exact ⟨_, rfl, rfl⟩
theorem lawQuickComposed {pvs : List PV} (h : pO Tryz.prog 8 Tryz.f4.params.toList pvs) : PCall Tryz.prog 4 pvs fun v => v = .bool true := by
 obtain ⟨v0, r0, rfl, h0, rfl⟩ : pO Tryz.prog 8 [22] pvs := h
 obtain ⟨nl, l, rfl, hr⟩ := zrm h0
 exact zta _ _ l hr
end Go.Eng


