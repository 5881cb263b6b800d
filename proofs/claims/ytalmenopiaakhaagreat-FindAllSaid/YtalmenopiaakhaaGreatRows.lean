/-
  No cell of these rows narrows 'for every input' (looked for: loops, veiled, ifaces, maps, wideKeys, modest, calm, conditions, laid).
  DERIVED. THE GIVEN ROWS OF THIS SEAT. 9 by the template 'for every input the law returns true; each argument reads behind the call as it read before'; 0 by the template 'total and deterministic' (their statements: YtalmenopiaakhaaGreatTotals.lean).
  GIVEN WITH THE SEED: the statements are not yours to turn. If you find one false, say at which input.
  Laid BY PROGRAM, IN A SANDBOX (cutbox-rows.mjs): the forced cells as the released guide's own fill.sh prints them over the translation 3571c2d3cda6535a… (all of the seat's roots in one cut). By AI agents, Wed Nov 11 2026. No macro, syntax, notation, axiom, sorry.
-/
import Derived.Test.YtalmenopiaakhaaGreatChecked
import GoSem.Claim
import GoSem.ClaimJoined
import GoSem.ClaimMapViews
import Derived.JoinedTies
import Derived.KernelRfl
namespace Go.Proofs.YtalmenopiaakhaaGreat
/- THE CELL 'sum', in the pinned program and in every row, IS THE sha256 OF THE DUMP (.gsa) THAT YtalmenopiaakhaaGreatProg.lean LOADS. Nothing in Lean hashes anything: it is a label: what it is worth is what the hold of that sum in a sandbox is worth. -/
noncomputable def Tryz.pinned : Pinned := { name := "ytalmenopiaakhaagreat", sum := "3571c2d3cda6535a35fedf28ab4f0d757c390375839d5f27a2cc7701dce9e15b", checked := Tryz.checked }
namespace Rows
def none {H : Type} : Left H := { results := [], args := [] }

/-- 'typebarlaw25.SeekNearest': WHATEVER THE INPUT: true; the input reads as it did. -/
def seekNearestSpec : ChangeSpec := { name := "seekNearest", fn := fun _ => fun
  | [d1, d2, d3, d4] => { results := [.lit (.bool true)], args := [d1, d2, d3, d4] }
  | _ => none }
def seekNearestRow : OpenClaim := { program := "ytalmenopiaakhaagreat", sum := "3571c2d3cda6535a35fedf28ab4f0d757c390375839d5f27a2cc7701dce9e15b", func := "typebar/typebarlaw25.SeekNearest", spec := "seekNearest", unfollowed := true, recurses := true, plainKeys := false, apart := false }
def SeekNearestSaid : Prop := seekNearestRow.holds Tryz.pinned (OpenSpec.ofChange seekNearestSpec)

/-- ITS FALSE NEIGHBOUR: 'it returns false'. Refute it at one input. -/
def seekNearestWrong : ChangeSpec := { name := "seekNearest", fn := fun _ => fun
  | [d1, d2, d3, d4] => { results := [.lit (.bool false)], args := [d1, d2, d3, d4] }
  | _ => none }
def SeekNearestWrongFalsely : Prop := seekNearestRow.holds Tryz.pinned (OpenSpec.ofChange seekNearestWrong)

/-- 'typebarlaw25.SeekPlays': WHATEVER THE INPUT: true; the input reads as it did. -/
def seekPlaysSpec : ChangeSpec := { name := "seekPlays", fn := fun _ => fun
  | [d1, d2, d3, d4, d5] => { results := [.lit (.bool true)], args := [d1, d2, d3, d4, d5] }
  | _ => none }
def seekPlaysRow : OpenClaim := { program := "ytalmenopiaakhaagreat", sum := "3571c2d3cda6535a35fedf28ab4f0d757c390375839d5f27a2cc7701dce9e15b", func := "typebar/typebarlaw25.SeekPlays", spec := "seekPlays", unfollowed := true, recurses := true, plainKeys := false, apart := false }
def SeekPlaysSaid : Prop := seekPlaysRow.holds Tryz.pinned (OpenSpec.ofChange seekPlaysSpec)

/-- ITS FALSE NEIGHBOUR: 'it returns false'. Refute it at one input. -/
def seekPlaysWrong : ChangeSpec := { name := "seekPlays", fn := fun _ => fun
  | [d1, d2, d3, d4, d5] => { results := [.lit (.bool false)], args := [d1, d2, d3, d4, d5] }
  | _ => none }
def SeekPlaysWrongFalsely : Prop := seekPlaysRow.holds Tryz.pinned (OpenSpec.ofChange seekPlaysWrong)

/-- 'typebarlaw25.SeekFinds': WHATEVER THE INPUT: true; the input reads as it did. -/
def seekFindsSpec : ChangeSpec := { name := "seekFinds", fn := fun _ => fun
  | [d1, d2, d3, d4] => { results := [.lit (.bool true)], args := [d1, d2, d3, d4] }
  | _ => none }
def seekFindsRow : OpenClaim := { program := "ytalmenopiaakhaagreat", sum := "3571c2d3cda6535a35fedf28ab4f0d757c390375839d5f27a2cc7701dce9e15b", func := "typebar/typebarlaw25.SeekFinds", spec := "seekFinds", unfollowed := true, recurses := true, plainKeys := false, apart := false }
def SeekFindsSaid : Prop := seekFindsRow.holds Tryz.pinned (OpenSpec.ofChange seekFindsSpec)

/-- ITS FALSE NEIGHBOUR: 'it returns false'. Refute it at one input. -/
def seekFindsWrong : ChangeSpec := { name := "seekFinds", fn := fun _ => fun
  | [d1, d2, d3, d4] => { results := [.lit (.bool false)], args := [d1, d2, d3, d4] }
  | _ => none }
def SeekFindsWrongFalsely : Prop := seekFindsRow.holds Tryz.pinned (OpenSpec.ofChange seekFindsWrong)

/-- 'typebarlaw21.FindAll': WHATEVER THE INPUT: true; the input reads as it did. -/
def findAllSpec : ChangeSpec := { name := "findAll", fn := fun _ => fun
  | [d1, d2, d3] => { results := [.lit (.bool true)], args := [d1, d2, d3] }
  | _ => none }
def findAllRow : OpenClaim := { program := "ytalmenopiaakhaagreat", sum := "3571c2d3cda6535a35fedf28ab4f0d757c390375839d5f27a2cc7701dce9e15b", func := "typebar/typebarlaw21.FindAll", spec := "findAll", unfollowed := true, recurses := true, plainKeys := false, apart := false }
def FindAllSaid : Prop := findAllRow.holds Tryz.pinned (OpenSpec.ofChange findAllSpec)

/-- ITS FALSE NEIGHBOUR: 'it returns false'. Refute it at one input. -/
def findAllWrong : ChangeSpec := { name := "findAll", fn := fun _ => fun
  | [d1, d2, d3] => { results := [.lit (.bool false)], args := [d1, d2, d3] }
  | _ => none }
def FindAllWrongFalsely : Prop := findAllRow.holds Tryz.pinned (OpenSpec.ofChange findAllWrong)

/-- 'typebarlaw09.LocalSplices': WHATEVER THE INPUT: true; the input reads as it did. -/
def localSplicesSpec : ChangeSpec := { name := "localSplices", fn := fun _ => fun
  | [d1, d2, d3, d4] => { results := [.lit (.bool true)], args := [d1, d2, d3, d4] }
  | _ => none }
def localSplicesRow : OpenClaim := { program := "ytalmenopiaakhaagreat", sum := "3571c2d3cda6535a35fedf28ab4f0d757c390375839d5f27a2cc7701dce9e15b", func := "typebar/typebarlaw09.LocalSplices", spec := "localSplices", unfollowed := true, recurses := true, plainKeys := false, apart := false }
def LocalSplicesSaid : Prop := localSplicesRow.holds Tryz.pinned (OpenSpec.ofChange localSplicesSpec)

/-- ITS FALSE NEIGHBOUR: 'it returns false'. Refute it at one input. -/
def localSplicesWrong : ChangeSpec := { name := "localSplices", fn := fun _ => fun
  | [d1, d2, d3, d4] => { results := [.lit (.bool false)], args := [d1, d2, d3, d4] }
  | _ => none }
def LocalSplicesWrongFalsely : Prop := localSplicesRow.holds Tryz.pinned (OpenSpec.ofChange localSplicesWrong)

/-- 'typebarlaw09.LocalWhole': WHATEVER THE INPUT: true; the input reads as it did. -/
def localWholeSpec : ChangeSpec := { name := "localWhole", fn := fun _ => fun
  | [d1, d2, d3, d4] => { results := [.lit (.bool true)], args := [d1, d2, d3, d4] }
  | _ => none }
def localWholeRow : OpenClaim := { program := "ytalmenopiaakhaagreat", sum := "3571c2d3cda6535a35fedf28ab4f0d757c390375839d5f27a2cc7701dce9e15b", func := "typebar/typebarlaw09.LocalWhole", spec := "localWhole", unfollowed := true, recurses := true, plainKeys := false, apart := false }
def LocalWholeSaid : Prop := localWholeRow.holds Tryz.pinned (OpenSpec.ofChange localWholeSpec)

/-- ITS FALSE NEIGHBOUR: 'it returns false'. Refute it at one input. -/
def localWholeWrong : ChangeSpec := { name := "localWhole", fn := fun _ => fun
  | [d1, d2, d3, d4] => { results := [.lit (.bool false)], args := [d1, d2, d3, d4] }
  | _ => none }
def LocalWholeWrongFalsely : Prop := localWholeRow.holds Tryz.pinned (OpenSpec.ofChange localWholeWrong)

/-- 'typebarlaw16.ShiftKeeps': WHATEVER THE INPUT: true; the input reads as it did. -/
def shiftKeepsSpec : ChangeSpec := { name := "shiftKeeps", fn := fun _ => fun
  | [d1, d2, d3, d4, d5] => { results := [.lit (.bool true)], args := [d1, d2, d3, d4, d5] }
  | _ => none }
def shiftKeepsRow : OpenClaim := { program := "ytalmenopiaakhaagreat", sum := "3571c2d3cda6535a35fedf28ab4f0d757c390375839d5f27a2cc7701dce9e15b", func := "typebar/typebarlaw16.ShiftKeeps", spec := "shiftKeeps", unfollowed := true, recurses := true, plainKeys := false, apart := false }
def ShiftKeepsSaid : Prop := shiftKeepsRow.holds Tryz.pinned (OpenSpec.ofChange shiftKeepsSpec)

/-- ITS FALSE NEIGHBOUR: 'it returns false'. Refute it at one input. -/
def shiftKeepsWrong : ChangeSpec := { name := "shiftKeeps", fn := fun _ => fun
  | [d1, d2, d3, d4, d5] => { results := [.lit (.bool false)], args := [d1, d2, d3, d4, d5] }
  | _ => none }
def ShiftKeepsWrongFalsely : Prop := shiftKeepsRow.holds Tryz.pinned (OpenSpec.ofChange shiftKeepsWrong)

/-- 'typebarlaw16.ShiftEdits': WHATEVER THE INPUT: true; the input reads as it did. -/
def shiftEditsSpec : ChangeSpec := { name := "shiftEdits", fn := fun _ => fun
  | [d1, d2, d3, d4] => { results := [.lit (.bool true)], args := [d1, d2, d3, d4] }
  | _ => none }
def shiftEditsRow : OpenClaim := { program := "ytalmenopiaakhaagreat", sum := "3571c2d3cda6535a35fedf28ab4f0d757c390375839d5f27a2cc7701dce9e15b", func := "typebar/typebarlaw16.ShiftEdits", spec := "shiftEdits", unfollowed := true, recurses := true, plainKeys := false, apart := false }
def ShiftEditsSaid : Prop := shiftEditsRow.holds Tryz.pinned (OpenSpec.ofChange shiftEditsSpec)

/-- ITS FALSE NEIGHBOUR: 'it returns false'. Refute it at one input. -/
def shiftEditsWrong : ChangeSpec := { name := "shiftEdits", fn := fun _ => fun
  | [d1, d2, d3, d4] => { results := [.lit (.bool false)], args := [d1, d2, d3, d4] }
  | _ => none }
def ShiftEditsWrongFalsely : Prop := shiftEditsRow.holds Tryz.pinned (OpenSpec.ofChange shiftEditsWrong)

/-- 'typebarlaw16.ShiftAfter': WHATEVER THE INPUT: true; the input reads as it did. -/
def shiftAfterSpec : ChangeSpec := { name := "shiftAfter", fn := fun _ => fun
  | [d1, d2, d3, d4] => { results := [.lit (.bool true)], args := [d1, d2, d3, d4] }
  | _ => none }
def shiftAfterRow : OpenClaim := { program := "ytalmenopiaakhaagreat", sum := "3571c2d3cda6535a35fedf28ab4f0d757c390375839d5f27a2cc7701dce9e15b", func := "typebar/typebarlaw16.ShiftAfter", spec := "shiftAfter", unfollowed := true, recurses := true, plainKeys := false, apart := false }
def ShiftAfterSaid : Prop := shiftAfterRow.holds Tryz.pinned (OpenSpec.ofChange shiftAfterSpec)

/-- ITS FALSE NEIGHBOUR: 'it returns false'. Refute it at one input. -/
def shiftAfterWrong : ChangeSpec := { name := "shiftAfter", fn := fun _ => fun
  | [d1, d2, d3, d4] => { results := [.lit (.bool false)], args := [d1, d2, d3, d4] }
  | _ => none }
def ShiftAfterWrongFalsely : Prop := shiftAfterRow.holds Tryz.pinned (OpenSpec.ofChange shiftAfterWrong)

/- THE SECOND FORM. 'bulk': how many values and letters a reading holds, each counted each time it is reached (what is shared counts as often as it is met; a slice's spare places count too). A statement '..UptoSaid' is the law's where the arguments, and the package variables that the reading takes, are together of bulk at most 1048576: NARROWER than '..Said'. Prove '..Said' where nothing that the law and all that it calls make is longer than what came in: it says more and counts as full. Else prove '..UptoSaid'. A law counts once. -/
mutual
def uptoBulk {H : Type} : DataW H → Nat
  | .lit (.string bytes) => bytes.length + 1
  | .lit _ => 1
  | .nil => 1
  | .ptr d => uptoBulk d + 1
  | .slice elems spare => uptoBulkAll elems + uptoBulkAll spare + 1
  | .agg parts => uptoBulkAll parts + 1
  | .iface _ d => uptoBulk d + 1
  | .map entries => uptoBulkEntries entries + 1
  | .held _ => 1
def uptoBulkAll {H : Type} : List (DataW H) → Nat
  | [] => 0
  | d :: r => uptoBulk d + uptoBulkAll r
def uptoBulkEntries {H : Type} : List (Lit × DataW H) → Nat
  | [] => 0
  | x :: r => uptoBulkEntry x + uptoBulkEntries r
def uptoBulkEntry {H : Type} : Lit × DataW H → Nat
  | (.string bytes, d) => bytes.length + uptoBulk d + 1
  | (_, d) => uptoBulk d + 1
 end
def uptoSmall : (H : Type) → List (DataW H) → Bool := fun _ ds => decide (uptoBulkAll ds ≤ 1048576)
def OpenSpec.upto (s : _root_.Go.ChangeSpec) : _root_.Go.OpenSpec := { _root_.Go.OpenSpec.ofChange s with cond := some uptoSmall }

/-- 'typebarlaw25.SeekNearest', WHERE WHAT IT READS IS OF BULK AT MOST 1048576: true; the input reads as it did. -/
def seekNearestUptoRow : OpenClaim := { program := "ytalmenopiaakhaagreat", sum := "3571c2d3cda6535a35fedf28ab4f0d757c390375839d5f27a2cc7701dce9e15b", func := "typebar/typebarlaw25.SeekNearest", spec := "seekNearest", unfollowed := true, recurses := true, plainKeys := false, apart := false, narrowed := true }
def SeekNearestUptoSaid : Prop := seekNearestUptoRow.holds Tryz.pinned (OpenSpec.upto seekNearestSpec)

/-- 'typebarlaw25.SeekPlays', WHERE WHAT IT READS IS OF BULK AT MOST 1048576: true; the input reads as it did. -/
def seekPlaysUptoRow : OpenClaim := { program := "ytalmenopiaakhaagreat", sum := "3571c2d3cda6535a35fedf28ab4f0d757c390375839d5f27a2cc7701dce9e15b", func := "typebar/typebarlaw25.SeekPlays", spec := "seekPlays", unfollowed := true, recurses := true, plainKeys := false, apart := false, narrowed := true }
def SeekPlaysUptoSaid : Prop := seekPlaysUptoRow.holds Tryz.pinned (OpenSpec.upto seekPlaysSpec)

/-- 'typebarlaw25.SeekFinds', WHERE WHAT IT READS IS OF BULK AT MOST 1048576: true; the input reads as it did. -/
def seekFindsUptoRow : OpenClaim := { program := "ytalmenopiaakhaagreat", sum := "3571c2d3cda6535a35fedf28ab4f0d757c390375839d5f27a2cc7701dce9e15b", func := "typebar/typebarlaw25.SeekFinds", spec := "seekFinds", unfollowed := true, recurses := true, plainKeys := false, apart := false, narrowed := true }
def SeekFindsUptoSaid : Prop := seekFindsUptoRow.holds Tryz.pinned (OpenSpec.upto seekFindsSpec)

/-- 'typebarlaw21.FindAll', WHERE WHAT IT READS IS OF BULK AT MOST 1048576: true; the input reads as it did. -/
def findAllUptoRow : OpenClaim := { program := "ytalmenopiaakhaagreat", sum := "3571c2d3cda6535a35fedf28ab4f0d757c390375839d5f27a2cc7701dce9e15b", func := "typebar/typebarlaw21.FindAll", spec := "findAll", unfollowed := true, recurses := true, plainKeys := false, apart := false, narrowed := true }
def FindAllUptoSaid : Prop := findAllUptoRow.holds Tryz.pinned (OpenSpec.upto findAllSpec)

/-- 'typebarlaw09.LocalSplices', WHERE WHAT IT READS IS OF BULK AT MOST 1048576: true; the input reads as it did. -/
def localSplicesUptoRow : OpenClaim := { program := "ytalmenopiaakhaagreat", sum := "3571c2d3cda6535a35fedf28ab4f0d757c390375839d5f27a2cc7701dce9e15b", func := "typebar/typebarlaw09.LocalSplices", spec := "localSplices", unfollowed := true, recurses := true, plainKeys := false, apart := false, narrowed := true }
def LocalSplicesUptoSaid : Prop := localSplicesUptoRow.holds Tryz.pinned (OpenSpec.upto localSplicesSpec)

/-- 'typebarlaw09.LocalWhole', WHERE WHAT IT READS IS OF BULK AT MOST 1048576: true; the input reads as it did. -/
def localWholeUptoRow : OpenClaim := { program := "ytalmenopiaakhaagreat", sum := "3571c2d3cda6535a35fedf28ab4f0d757c390375839d5f27a2cc7701dce9e15b", func := "typebar/typebarlaw09.LocalWhole", spec := "localWhole", unfollowed := true, recurses := true, plainKeys := false, apart := false, narrowed := true }
def LocalWholeUptoSaid : Prop := localWholeUptoRow.holds Tryz.pinned (OpenSpec.upto localWholeSpec)

/-- 'typebarlaw16.ShiftKeeps', WHERE WHAT IT READS IS OF BULK AT MOST 1048576: true; the input reads as it did. -/
def shiftKeepsUptoRow : OpenClaim := { program := "ytalmenopiaakhaagreat", sum := "3571c2d3cda6535a35fedf28ab4f0d757c390375839d5f27a2cc7701dce9e15b", func := "typebar/typebarlaw16.ShiftKeeps", spec := "shiftKeeps", unfollowed := true, recurses := true, plainKeys := false, apart := false, narrowed := true }
def ShiftKeepsUptoSaid : Prop := shiftKeepsUptoRow.holds Tryz.pinned (OpenSpec.upto shiftKeepsSpec)

/-- 'typebarlaw16.ShiftEdits', WHERE WHAT IT READS IS OF BULK AT MOST 1048576: true; the input reads as it did. -/
def shiftEditsUptoRow : OpenClaim := { program := "ytalmenopiaakhaagreat", sum := "3571c2d3cda6535a35fedf28ab4f0d757c390375839d5f27a2cc7701dce9e15b", func := "typebar/typebarlaw16.ShiftEdits", spec := "shiftEdits", unfollowed := true, recurses := true, plainKeys := false, apart := false, narrowed := true }
def ShiftEditsUptoSaid : Prop := shiftEditsUptoRow.holds Tryz.pinned (OpenSpec.upto shiftEditsSpec)

/-- 'typebarlaw16.ShiftAfter', WHERE WHAT IT READS IS OF BULK AT MOST 1048576: true; the input reads as it did. -/
def shiftAfterUptoRow : OpenClaim := { program := "ytalmenopiaakhaagreat", sum := "3571c2d3cda6535a35fedf28ab4f0d757c390375839d5f27a2cc7701dce9e15b", func := "typebar/typebarlaw16.ShiftAfter", spec := "shiftAfter", unfollowed := true, recurses := true, plainKeys := false, apart := false, narrowed := true }
def ShiftAfterUptoSaid : Prop := shiftAfterUptoRow.holds Tryz.pinned (OpenSpec.upto shiftAfterSpec)

end Rows
end Go.Proofs.YtalmenopiaakhaaGreat
