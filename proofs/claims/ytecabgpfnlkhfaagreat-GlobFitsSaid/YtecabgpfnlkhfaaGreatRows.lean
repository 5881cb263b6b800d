/-
  No cell of these rows narrows 'for every input' (looked for: loops, veiled, ifaces, maps, wideKeys, modest, calm, conditions, laid).
  DERIVED. THE GIVEN ROWS OF THIS SEAT. 9 by the template 'for every input the law returns true; each argument reads behind the call as it read before'; 0 by the template 'total and deterministic' (their statements: YtecabgpfnlkhfaaGreatTotals.lean).
  GIVEN WITH THE SEED: the statements are not yours to turn. If you find one false, say at which input.
  Laid BY PROGRAM, IN A SANDBOX (cutbox-rows.mjs): the forced cells as the released guide's own fill.sh prints them over the translation 972d263b7b213b18… (all of the seat's roots in one cut). By AI agents, Wed Nov 11 2026. No macro, syntax, notation, axiom, sorry.
-/
import Derived.Test.YtecabgpfnlkhfaaGreatChecked
import GoSem.Claim
import GoSem.ClaimJoined
import GoSem.ClaimMapViews
import Derived.JoinedTies
import Derived.KernelRfl
namespace Go.Proofs.YtecabgpfnlkhfaaGreat
/- THE CELL 'sum', in the pinned program and in every row, IS THE sha256 OF THE DUMP (.gsa) THAT YtecabgpfnlkhfaaGreatProg.lean LOADS. Nothing in Lean hashes anything: it is a label: what it is worth is what the hold of that sum in a sandbox is worth. -/
noncomputable def Tryz.pinned : Pinned := { name := "ytecabgpfnlkhfaagreat", sum := "972d263b7b213b18d9a08c3618dae9c2033ed59f3f83a75a8bb08e029559c0ad", checked := Tryz.checked }
namespace Rows
def none {H : Type} : Left H := { results := [], args := [] }

/-- 'typebarlaw43.GlobFits': WHATEVER THE INPUT: true; the input reads as it did. -/
def globFitsSpec : ChangeSpec := { name := "globFits", fn := fun _ => fun
  | [d1, d2] => { results := [.lit (.bool true)], args := [d1, d2] }
  | _ => none }
def globFitsRow : OpenClaim := { program := "ytecabgpfnlkhfaagreat", sum := "972d263b7b213b18d9a08c3618dae9c2033ed59f3f83a75a8bb08e029559c0ad", func := "typebar/typebarlaw43.GlobFits", spec := "globFits", unfollowed := true, recurses := true, plainKeys := false, apart := false }
def GlobFitsSaid : Prop := globFitsRow.holds Tryz.pinned (OpenSpec.ofChange globFitsSpec)

/-- ITS FALSE NEIGHBOUR: 'it returns false'. Refute it at one input. -/
def globFitsWrong : ChangeSpec := { name := "globFits", fn := fun _ => fun
  | [d1, d2] => { results := [.lit (.bool false)], args := [d1, d2] }
  | _ => none }
def GlobFitsWrongFalsely : Prop := globFitsRow.holds Tryz.pinned (OpenSpec.ofChange globFitsWrong)

/-- 'typebarlaw43.GlobParses': WHATEVER THE INPUT: true; the input reads as it did. -/
def globParsesSpec : ChangeSpec := { name := "globParses", fn := fun _ => fun
  | [d] => { results := [.lit (.bool true)], args := [d] }
  | _ => none }
def globParsesRow : OpenClaim := { program := "ytecabgpfnlkhfaagreat", sum := "972d263b7b213b18d9a08c3618dae9c2033ed59f3f83a75a8bb08e029559c0ad", func := "typebar/typebarlaw43.GlobParses", spec := "globParses", unfollowed := true, recurses := true, plainKeys := false, apart := false }
def GlobParsesSaid : Prop := globParsesRow.holds Tryz.pinned (OpenSpec.ofChange globParsesSpec)

/-- ITS FALSE NEIGHBOUR: 'it returns false'. Refute it at one input. -/
def globParsesWrong : ChangeSpec := { name := "globParses", fn := fun _ => fun
  | [d] => { results := [.lit (.bool false)], args := [d] }
  | _ => none }
def GlobParsesWrongFalsely : Prop := globParsesRow.holds Tryz.pinned (OpenSpec.ofChange globParsesWrong)

/-- 'typebarlaw43.GlobChooses': WHATEVER THE INPUT: true; the input reads as it did. -/
def globChoosesSpec : ChangeSpec := { name := "globChooses", fn := fun _ => fun
  | [d1, d2] => { results := [.lit (.bool true)], args := [d1, d2] }
  | _ => none }
def globChoosesRow : OpenClaim := { program := "ytecabgpfnlkhfaagreat", sum := "972d263b7b213b18d9a08c3618dae9c2033ed59f3f83a75a8bb08e029559c0ad", func := "typebar/typebarlaw43.GlobChooses", spec := "globChooses", unfollowed := true, recurses := true, plainKeys := false, apart := false }
def GlobChoosesSaid : Prop := globChoosesRow.holds Tryz.pinned (OpenSpec.ofChange globChoosesSpec)

/-- ITS FALSE NEIGHBOUR: 'it returns false'. Refute it at one input. -/
def globChoosesWrong : ChangeSpec := { name := "globChooses", fn := fun _ => fun
  | [d1, d2] => { results := [.lit (.bool false)], args := [d1, d2] }
  | _ => none }
def GlobChoosesWrongFalsely : Prop := globChoosesRow.holds Tryz.pinned (OpenSpec.ofChange globChoosesWrong)

/-- 'typebarlaw44.CompleteCommon': WHATEVER THE INPUT: true; the input reads as it did. -/
def completeCommonSpec : ChangeSpec := { name := "completeCommon", fn := fun _ => fun
  | [d1, d2, d3] => { results := [.lit (.bool true)], args := [d1, d2, d3] }
  | _ => none }
def completeCommonRow : OpenClaim := { program := "ytecabgpfnlkhfaagreat", sum := "972d263b7b213b18d9a08c3618dae9c2033ed59f3f83a75a8bb08e029559c0ad", func := "typebar/typebarlaw44.CompleteCommon", spec := "completeCommon", unfollowed := true, recurses := true, plainKeys := false, apart := false }
def CompleteCommonSaid : Prop := completeCommonRow.holds Tryz.pinned (OpenSpec.ofChange completeCommonSpec)

/-- ITS FALSE NEIGHBOUR: 'it returns false'. Refute it at one input. -/
def completeCommonWrong : ChangeSpec := { name := "completeCommon", fn := fun _ => fun
  | [d1, d2, d3] => { results := [.lit (.bool false)], args := [d1, d2, d3] }
  | _ => none }
def CompleteCommonWrongFalsely : Prop := completeCommonRow.holds Tryz.pinned (OpenSpec.ofChange completeCommonWrong)

/-- 'typebarlaw44.CompleteWords': WHATEVER THE INPUT: true; the input reads as it did. -/
def completeWordsSpec : ChangeSpec := { name := "completeWords", fn := fun _ => fun
  | [d1, d2, d3] => { results := [.lit (.bool true)], args := [d1, d2, d3] }
  | _ => none }
def completeWordsRow : OpenClaim := { program := "ytecabgpfnlkhfaagreat", sum := "972d263b7b213b18d9a08c3618dae9c2033ed59f3f83a75a8bb08e029559c0ad", func := "typebar/typebarlaw44.CompleteWords", spec := "completeWords", unfollowed := true, recurses := true, plainKeys := false, apart := false }
def CompleteWordsSaid : Prop := completeWordsRow.holds Tryz.pinned (OpenSpec.ofChange completeWordsSpec)

/-- ITS FALSE NEIGHBOUR: 'it returns false'. Refute it at one input. -/
def completeWordsWrong : ChangeSpec := { name := "completeWords", fn := fun _ => fun
  | [d1, d2, d3] => { results := [.lit (.bool false)], args := [d1, d2, d3] }
  | _ => none }
def CompleteWordsWrongFalsely : Prop := completeWordsRow.holds Tryz.pinned (OpenSpec.ofChange completeWordsWrong)

/-- 'typebarlaw44.CompleteGrows': WHATEVER THE INPUT: true; the input reads as it did. -/
def completeGrowsSpec : ChangeSpec := { name := "completeGrows", fn := fun _ => fun
  | [d1, d2, d3] => { results := [.lit (.bool true)], args := [d1, d2, d3] }
  | _ => none }
def completeGrowsRow : OpenClaim := { program := "ytecabgpfnlkhfaagreat", sum := "972d263b7b213b18d9a08c3618dae9c2033ed59f3f83a75a8bb08e029559c0ad", func := "typebar/typebarlaw44.CompleteGrows", spec := "completeGrows", unfollowed := true, recurses := true, plainKeys := false, apart := false }
def CompleteGrowsSaid : Prop := completeGrowsRow.holds Tryz.pinned (OpenSpec.ofChange completeGrowsSpec)

/-- ITS FALSE NEIGHBOUR: 'it returns false'. Refute it at one input. -/
def completeGrowsWrong : ChangeSpec := { name := "completeGrows", fn := fun _ => fun
  | [d1, d2, d3] => { results := [.lit (.bool false)], args := [d1, d2, d3] }
  | _ => none }
def CompleteGrowsWrongFalsely : Prop := completeGrowsRow.holds Tryz.pinned (OpenSpec.ofChange completeGrowsWrong)

/-- 'typebarlaw44.CompleteDoes': WHATEVER THE INPUT: true; the input reads as it did. -/
def completeDoesSpec : ChangeSpec := { name := "completeDoes", fn := fun _ => fun
  | [d1, d2] => { results := [.lit (.bool true)], args := [d1, d2] }
  | _ => none }
def completeDoesRow : OpenClaim := { program := "ytecabgpfnlkhfaagreat", sum := "972d263b7b213b18d9a08c3618dae9c2033ed59f3f83a75a8bb08e029559c0ad", func := "typebar/typebarlaw44.CompleteDoes", spec := "completeDoes", unfollowed := true, recurses := true, plainKeys := false, apart := false }
def CompleteDoesSaid : Prop := completeDoesRow.holds Tryz.pinned (OpenSpec.ofChange completeDoesSpec)

/-- ITS FALSE NEIGHBOUR: 'it returns false'. Refute it at one input. -/
def completeDoesWrong : ChangeSpec := { name := "completeDoes", fn := fun _ => fun
  | [d1, d2] => { results := [.lit (.bool false)], args := [d1, d2] }
  | _ => none }
def CompleteDoesWrongFalsely : Prop := completeDoesRow.holds Tryz.pinned (OpenSpec.ofChange completeDoesWrong)

/-- 'typebarlaw44.CompleteHints': WHATEVER THE INPUT: true; the input reads as it did. -/
def completeHintsSpec : ChangeSpec := { name := "completeHints", fn := fun _ => fun
  | [d1, d2] => { results := [.lit (.bool true)], args := [d1, d2] }
  | _ => none }
def completeHintsRow : OpenClaim := { program := "ytecabgpfnlkhfaagreat", sum := "972d263b7b213b18d9a08c3618dae9c2033ed59f3f83a75a8bb08e029559c0ad", func := "typebar/typebarlaw44.CompleteHints", spec := "completeHints", unfollowed := true, recurses := true, plainKeys := false, apart := false }
def CompleteHintsSaid : Prop := completeHintsRow.holds Tryz.pinned (OpenSpec.ofChange completeHintsSpec)

/-- ITS FALSE NEIGHBOUR: 'it returns false'. Refute it at one input. -/
def completeHintsWrong : ChangeSpec := { name := "completeHints", fn := fun _ => fun
  | [d1, d2] => { results := [.lit (.bool false)], args := [d1, d2] }
  | _ => none }
def CompleteHintsWrongFalsely : Prop := completeHintsRow.holds Tryz.pinned (OpenSpec.ofChange completeHintsWrong)

/-- 'typebarlaw44.CompleteMenus': WHATEVER THE INPUT: true; the input reads as it did. -/
def completeMenusSpec : ChangeSpec := { name := "completeMenus", fn := fun _ => fun
  | [d1, d2] => { results := [.lit (.bool true)], args := [d1, d2] }
  | _ => none }
def completeMenusRow : OpenClaim := { program := "ytecabgpfnlkhfaagreat", sum := "972d263b7b213b18d9a08c3618dae9c2033ed59f3f83a75a8bb08e029559c0ad", func := "typebar/typebarlaw44.CompleteMenus", spec := "completeMenus", unfollowed := true, recurses := true, plainKeys := false, apart := false }
def CompleteMenusSaid : Prop := completeMenusRow.holds Tryz.pinned (OpenSpec.ofChange completeMenusSpec)

/-- ITS FALSE NEIGHBOUR: 'it returns false'. Refute it at one input. -/
def completeMenusWrong : ChangeSpec := { name := "completeMenus", fn := fun _ => fun
  | [d1, d2] => { results := [.lit (.bool false)], args := [d1, d2] }
  | _ => none }
def CompleteMenusWrongFalsely : Prop := completeMenusRow.holds Tryz.pinned (OpenSpec.ofChange completeMenusWrong)

/- THE SECOND FORM. 'bulk': how many values and letters a reading holds, each counted each time it is reached (what is shared counts as often as it is met; a slice's spare places count too). A statement '..UptoSaid' is the law's where the arguments, and the package variables that the reading takes, are together of bulk at most 1048576: NARROWER than '..Said'. Prove '..Said' where nothing that the law and all that it calls make is longer than what came in: it says more and counts as full. Else prove '..UptoSaid'. A law counts once. -/
mutual
def uptoBulk {H : Type} : DataW H → Nat
  | .lit (.string bytes) => bytes.length + 1
  | .lit _ => 1
  | .nil => 1
  | .ptr d => uptoBulk d + 1
  | .slice elems spare => uptoBulkAll elems + uptoBulkAll spare + 1
  | .agg parts => uptoBulkAll parts + 1
  | .iface _ d => uptoBulk d + 1
  | .map entries => uptoBulkEntries entries + 1
  | .held _ => 1
def uptoBulkAll {H : Type} : List (DataW H) → Nat
  | [] => 0
  | d :: r => uptoBulk d + uptoBulkAll r
def uptoBulkEntries {H : Type} : List (Lit × DataW H) → Nat
  | [] => 0
  | x :: r => uptoBulkEntry x + uptoBulkEntries r
def uptoBulkEntry {H : Type} : Lit × DataW H → Nat
  | (.string bytes, d) => bytes.length + uptoBulk d + 1
  | (_, d) => uptoBulk d + 1
 end
def uptoSmall : (H : Type) → List (DataW H) → Bool := fun _ ds => decide (uptoBulkAll ds ≤ 1048576)
def OpenSpec.upto (s : _root_.Go.ChangeSpec) : _root_.Go.OpenSpec := { _root_.Go.OpenSpec.ofChange s with cond := some uptoSmall }

/-- 'typebarlaw43.GlobFits', WHERE WHAT IT READS IS OF BULK AT MOST 1048576: true; the input reads as it did. -/
def globFitsUptoRow : OpenClaim := { program := "ytecabgpfnlkhfaagreat", sum := "972d263b7b213b18d9a08c3618dae9c2033ed59f3f83a75a8bb08e029559c0ad", func := "typebar/typebarlaw43.GlobFits", spec := "globFits", unfollowed := true, recurses := true, plainKeys := false, apart := false, narrowed := true }
def GlobFitsUptoSaid : Prop := globFitsUptoRow.holds Tryz.pinned (OpenSpec.upto globFitsSpec)

/-- 'typebarlaw43.GlobParses', WHERE WHAT IT READS IS OF BULK AT MOST 1048576: true; the input reads as it did. -/
def globParsesUptoRow : OpenClaim := { program := "ytecabgpfnlkhfaagreat", sum := "972d263b7b213b18d9a08c3618dae9c2033ed59f3f83a75a8bb08e029559c0ad", func := "typebar/typebarlaw43.GlobParses", spec := "globParses", unfollowed := true, recurses := true, plainKeys := false, apart := false, narrowed := true }
def GlobParsesUptoSaid : Prop := globParsesUptoRow.holds Tryz.pinned (OpenSpec.upto globParsesSpec)

/-- 'typebarlaw43.GlobChooses', WHERE WHAT IT READS IS OF BULK AT MOST 1048576: true; the input reads as it did. -/
def globChoosesUptoRow : OpenClaim := { program := "ytecabgpfnlkhfaagreat", sum := "972d263b7b213b18d9a08c3618dae9c2033ed59f3f83a75a8bb08e029559c0ad", func := "typebar/typebarlaw43.GlobChooses", spec := "globChooses", unfollowed := true, recurses := true, plainKeys := false, apart := false, narrowed := true }
def GlobChoosesUptoSaid : Prop := globChoosesUptoRow.holds Tryz.pinned (OpenSpec.upto globChoosesSpec)

/-- 'typebarlaw44.CompleteCommon', WHERE WHAT IT READS IS OF BULK AT MOST 1048576: true; the input reads as it did. -/
def completeCommonUptoRow : OpenClaim := { program := "ytecabgpfnlkhfaagreat", sum := "972d263b7b213b18d9a08c3618dae9c2033ed59f3f83a75a8bb08e029559c0ad", func := "typebar/typebarlaw44.CompleteCommon", spec := "completeCommon", unfollowed := true, recurses := true, plainKeys := false, apart := false, narrowed := true }
def CompleteCommonUptoSaid : Prop := completeCommonUptoRow.holds Tryz.pinned (OpenSpec.upto completeCommonSpec)

/-- 'typebarlaw44.CompleteWords', WHERE WHAT IT READS IS OF BULK AT MOST 1048576: true; the input reads as it did. -/
def completeWordsUptoRow : OpenClaim := { program := "ytecabgpfnlkhfaagreat", sum := "972d263b7b213b18d9a08c3618dae9c2033ed59f3f83a75a8bb08e029559c0ad", func := "typebar/typebarlaw44.CompleteWords", spec := "completeWords", unfollowed := true, recurses := true, plainKeys := false, apart := false, narrowed := true }
def CompleteWordsUptoSaid : Prop := completeWordsUptoRow.holds Tryz.pinned (OpenSpec.upto completeWordsSpec)

/-- 'typebarlaw44.CompleteGrows', WHERE WHAT IT READS IS OF BULK AT MOST 1048576: true; the input reads as it did. -/
def completeGrowsUptoRow : OpenClaim := { program := "ytecabgpfnlkhfaagreat", sum := "972d263b7b213b18d9a08c3618dae9c2033ed59f3f83a75a8bb08e029559c0ad", func := "typebar/typebarlaw44.CompleteGrows", spec := "completeGrows", unfollowed := true, recurses := true, plainKeys := false, apart := false, narrowed := true }
def CompleteGrowsUptoSaid : Prop := completeGrowsUptoRow.holds Tryz.pinned (OpenSpec.upto completeGrowsSpec)

/-- 'typebarlaw44.CompleteDoes', WHERE WHAT IT READS IS OF BULK AT MOST 1048576: true; the input reads as it did. -/
def completeDoesUptoRow : OpenClaim := { program := "ytecabgpfnlkhfaagreat", sum := "972d263b7b213b18d9a08c3618dae9c2033ed59f3f83a75a8bb08e029559c0ad", func := "typebar/typebarlaw44.CompleteDoes", spec := "completeDoes", unfollowed := true, recurses := true, plainKeys := false, apart := false, narrowed := true }
def CompleteDoesUptoSaid : Prop := completeDoesUptoRow.holds Tryz.pinned (OpenSpec.upto completeDoesSpec)

/-- 'typebarlaw44.CompleteHints', WHERE WHAT IT READS IS OF BULK AT MOST 1048576: true; the input reads as it did. -/
def completeHintsUptoRow : OpenClaim := { program := "ytecabgpfnlkhfaagreat", sum := "972d263b7b213b18d9a08c3618dae9c2033ed59f3f83a75a8bb08e029559c0ad", func := "typebar/typebarlaw44.CompleteHints", spec := "completeHints", unfollowed := true, recurses := true, plainKeys := false, apart := false, narrowed := true }
def CompleteHintsUptoSaid : Prop := completeHintsUptoRow.holds Tryz.pinned (OpenSpec.upto completeHintsSpec)

/-- 'typebarlaw44.CompleteMenus', WHERE WHAT IT READS IS OF BULK AT MOST 1048576: true; the input reads as it did. -/
def completeMenusUptoRow : OpenClaim := { program := "ytecabgpfnlkhfaagreat", sum := "972d263b7b213b18d9a08c3618dae9c2033ed59f3f83a75a8bb08e029559c0ad", func := "typebar/typebarlaw44.CompleteMenus", spec := "completeMenus", unfollowed := true, recurses := true, plainKeys := false, apart := false, narrowed := true }
def CompleteMenusUptoSaid : Prop := completeMenusUptoRow.holds Tryz.pinned (OpenSpec.upto completeMenusSpec)

end Rows
end Go.Proofs.YtecabgpfnlkhfaaGreat
