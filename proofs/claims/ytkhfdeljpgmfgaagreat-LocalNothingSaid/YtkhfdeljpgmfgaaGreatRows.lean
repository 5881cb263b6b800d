/-
  No cell of these rows narrows 'for every input' (looked for: loops, veiled, ifaces, maps, wideKeys, modest, calm, conditions, laid).
  DERIVED. THE GIVEN ROWS OF THIS SEAT. 5 by the template 'for every input the law returns true; each argument reads behind the call as it read before'; 0 by the template 'total and deterministic' (their statements: YtkhfdeljpgmfgaaGreatTotals.lean).
  GIVEN WITH THE SEED: the statements are not yours to turn. If you find one false, say at which input.
  Laid BY PROGRAM, IN A SANDBOX (cutbox-rows.mjs): the forced cells as the released guide's own fill.sh prints them over the translation 28cbda728ae995a0… (all of the seat's roots in one cut). By AI agents, Wed Nov 11 2026. No macro, syntax, notation, axiom, sorry.
-/
import Derived.Test.YtkhfdeljpgmfgaaGreatChecked
import GoSem.Claim
import GoSem.ClaimJoined
import GoSem.ClaimMapViews
import Derived.JoinedTies
import Derived.KernelRfl
namespace Go.Proofs.YtkhfdeljpgmfgaaGreat
/- THE CELL 'sum', in the pinned program and in every row, IS THE sha256 OF THE DUMP (.gsa) THAT YtkhfdeljpgmfgaaGreatProg.lean LOADS. Nothing in Lean hashes anything: it is a label: what it is worth is what the hold of that sum in a sandbox is worth. -/
noncomputable def Tryz.pinned : Pinned := { name := "ytkhfdeljpgmfgaagreat", sum := "28cbda728ae995a019571c7daf9ba5ee08842d007c4ffcaa3f6badeafd79676c", checked := Tryz.checked }
namespace Rows
def none {H : Type} : Left H := { results := [], args := [] }

/-- 'typebarlaw21.FindSame': WHATEVER THE INPUT: true; the input reads as it did. -/
def findSameSpec : ChangeSpec := { name := "findSame", fn := fun _ => fun
  | [d1, d2] => { results := [.lit (.bool true)], args := [d1, d2] }
  | _ => none }
def findSameRow : OpenClaim := { program := "ytkhfdeljpgmfgaagreat", sum := "28cbda728ae995a019571c7daf9ba5ee08842d007c4ffcaa3f6badeafd79676c", func := "typebar/typebarlaw21.FindSame", spec := "findSame", unfollowed := true, recurses := true, plainKeys := false, apart := false }
def FindSameSaid : Prop := findSameRow.holds Tryz.pinned (OpenSpec.ofChange findSameSpec)

/-- ITS FALSE NEIGHBOUR: 'it returns false'. Refute it at one input. -/
def findSameWrong : ChangeSpec := { name := "findSame", fn := fun _ => fun
  | [d1, d2] => { results := [.lit (.bool false)], args := [d1, d2] }
  | _ => none }
def FindSameWrongFalsely : Prop := findSameRow.holds Tryz.pinned (OpenSpec.ofChange findSameWrong)

/-- 'typebarlaw08.QuickComposed': WHATEVER THE INPUT: true; the input reads as it did. -/
def quickComposedSpec : ChangeSpec := { name := "quickComposed", fn := fun _ => fun
  | [d] => { results := [.lit (.bool true)], args := [d] }
  | _ => none }
def quickComposedRow : OpenClaim := { program := "ytkhfdeljpgmfgaagreat", sum := "28cbda728ae995a019571c7daf9ba5ee08842d007c4ffcaa3f6badeafd79676c", func := "typebar/typebarlaw08.QuickComposed", spec := "quickComposed", unfollowed := true, recurses := true, plainKeys := false, apart := false }
def QuickComposedSaid : Prop := quickComposedRow.holds Tryz.pinned (OpenSpec.ofChange quickComposedSpec)

/-- ITS FALSE NEIGHBOUR: 'it returns false'. Refute it at one input. -/
def quickComposedWrong : ChangeSpec := { name := "quickComposed", fn := fun _ => fun
  | [d] => { results := [.lit (.bool false)], args := [d] }
  | _ => none }
def QuickComposedWrongFalsely : Prop := quickComposedRow.holds Tryz.pinned (OpenSpec.ofChange quickComposedWrong)

/-- 'typebarlaw09.LocalSplices': WHATEVER THE INPUT: true; the input reads as it did. -/
def localSplicesSpec : ChangeSpec := { name := "localSplices", fn := fun _ => fun
  | [d1, d2, d3, d4] => { results := [.lit (.bool true)], args := [d1, d2, d3, d4] }
  | _ => none }
def localSplicesRow : OpenClaim := { program := "ytkhfdeljpgmfgaagreat", sum := "28cbda728ae995a019571c7daf9ba5ee08842d007c4ffcaa3f6badeafd79676c", func := "typebar/typebarlaw09.LocalSplices", spec := "localSplices", unfollowed := true, recurses := true, plainKeys := false, apart := false }
def LocalSplicesSaid : Prop := localSplicesRow.holds Tryz.pinned (OpenSpec.ofChange localSplicesSpec)

/-- ITS FALSE NEIGHBOUR: 'it returns false'. Refute it at one input. -/
def localSplicesWrong : ChangeSpec := { name := "localSplices", fn := fun _ => fun
  | [d1, d2, d3, d4] => { results := [.lit (.bool false)], args := [d1, d2, d3, d4] }
  | _ => none }
def LocalSplicesWrongFalsely : Prop := localSplicesRow.holds Tryz.pinned (OpenSpec.ofChange localSplicesWrong)

/-- 'typebarlaw09.LocalWhole': WHATEVER THE INPUT: true; the input reads as it did. -/
def localWholeSpec : ChangeSpec := { name := "localWhole", fn := fun _ => fun
  | [d1, d2, d3, d4] => { results := [.lit (.bool true)], args := [d1, d2, d3, d4] }
  | _ => none }
def localWholeRow : OpenClaim := { program := "ytkhfdeljpgmfgaagreat", sum := "28cbda728ae995a019571c7daf9ba5ee08842d007c4ffcaa3f6badeafd79676c", func := "typebar/typebarlaw09.LocalWhole", spec := "localWhole", unfollowed := true, recurses := true, plainKeys := false, apart := false }
def LocalWholeSaid : Prop := localWholeRow.holds Tryz.pinned (OpenSpec.ofChange localWholeSpec)

/-- ITS FALSE NEIGHBOUR: 'it returns false'. Refute it at one input. -/
def localWholeWrong : ChangeSpec := { name := "localWhole", fn := fun _ => fun
  | [d1, d2, d3, d4] => { results := [.lit (.bool false)], args := [d1, d2, d3, d4] }
  | _ => none }
def LocalWholeWrongFalsely : Prop := localWholeRow.holds Tryz.pinned (OpenSpec.ofChange localWholeWrong)

/-- 'typebarlaw09.LocalNothing': WHATEVER THE INPUT: true; the input reads as it did. -/
def localNothingSpec : ChangeSpec := { name := "localNothing", fn := fun _ => fun
  | [d1, d2] => { results := [.lit (.bool true)], args := [d1, d2] }
  | _ => none }
def localNothingRow : OpenClaim := { program := "ytkhfdeljpgmfgaagreat", sum := "28cbda728ae995a019571c7daf9ba5ee08842d007c4ffcaa3f6badeafd79676c", func := "typebar/typebarlaw09.LocalNothing", spec := "localNothing", unfollowed := true, recurses := true, plainKeys := false, apart := false }
def LocalNothingSaid : Prop := localNothingRow.holds Tryz.pinned (OpenSpec.ofChange localNothingSpec)

/-- ITS FALSE NEIGHBOUR: 'it returns false'. Refute it at one input. -/
def localNothingWrong : ChangeSpec := { name := "localNothing", fn := fun _ => fun
  | [d1, d2] => { results := [.lit (.bool false)], args := [d1, d2] }
  | _ => none }
def LocalNothingWrongFalsely : Prop := localNothingRow.holds Tryz.pinned (OpenSpec.ofChange localNothingWrong)

/- THE SECOND FORM. 'bulk': how many values and letters a reading holds, each counted each time it is reached (what is shared counts as often as it is met; a slice's spare places count too). A statement '..UptoSaid' is the law's where the arguments, and the package variables that the reading takes, are together of bulk at most 1048576: NARROWER than '..Said'. Prove '..Said' where nothing that the law and all that it calls make is longer than what came in: it says more and counts as full. Else prove '..UptoSaid'. A law counts once. -/
mutual
def uptoBulk {H : Type} : DataW H → Nat
  | .lit (.string bytes) => bytes.length + 1
  | .lit _ => 1
  | .nil => 1
  | .ptr d => uptoBulk d + 1
  | .slice elems spare => uptoBulkAll elems + uptoBulkAll spare + 1
  | .agg parts => uptoBulkAll parts + 1
  | .iface _ d => uptoBulk d + 1
  | .map entries => uptoBulkEntries entries + 1
  | .held _ => 1
def uptoBulkAll {H : Type} : List (DataW H) → Nat
  | [] => 0
  | d :: r => uptoBulk d + uptoBulkAll r
def uptoBulkEntries {H : Type} : List (Lit × DataW H) → Nat
  | [] => 0
  | x :: r => uptoBulkEntry x + uptoBulkEntries r
def uptoBulkEntry {H : Type} : Lit × DataW H → Nat
  | (.string bytes, d) => bytes.length + uptoBulk d + 1
  | (_, d) => uptoBulk d + 1
 end
def uptoSmall : (H : Type) → List (DataW H) → Bool := fun _ ds => decide (uptoBulkAll ds ≤ 1048576)
def OpenSpec.upto (s : _root_.Go.ChangeSpec) : _root_.Go.OpenSpec := { _root_.Go.OpenSpec.ofChange s with cond := some uptoSmall }

/-- 'typebarlaw21.FindSame', WHERE WHAT IT READS IS OF BULK AT MOST 1048576: true; the input reads as it did. -/
def findSameUptoRow : OpenClaim := { program := "ytkhfdeljpgmfgaagreat", sum := "28cbda728ae995a019571c7daf9ba5ee08842d007c4ffcaa3f6badeafd79676c", func := "typebar/typebarlaw21.FindSame", spec := "findSame", unfollowed := true, recurses := true, plainKeys := false, apart := false, narrowed := true }
def FindSameUptoSaid : Prop := findSameUptoRow.holds Tryz.pinned (OpenSpec.upto findSameSpec)

/-- 'typebarlaw08.QuickComposed', WHERE WHAT IT READS IS OF BULK AT MOST 1048576: true; the input reads as it did. -/
def quickComposedUptoRow : OpenClaim := { program := "ytkhfdeljpgmfgaagreat", sum := "28cbda728ae995a019571c7daf9ba5ee08842d007c4ffcaa3f6badeafd79676c", func := "typebar/typebarlaw08.QuickComposed", spec := "quickComposed", unfollowed := true, recurses := true, plainKeys := false, apart := false, narrowed := true }
def QuickComposedUptoSaid : Prop := quickComposedUptoRow.holds Tryz.pinned (OpenSpec.upto quickComposedSpec)

/-- 'typebarlaw09.LocalSplices', WHERE WHAT IT READS IS OF BULK AT MOST 1048576: true; the input reads as it did. -/
def localSplicesUptoRow : OpenClaim := { program := "ytkhfdeljpgmfgaagreat", sum := "28cbda728ae995a019571c7daf9ba5ee08842d007c4ffcaa3f6badeafd79676c", func := "typebar/typebarlaw09.LocalSplices", spec := "localSplices", unfollowed := true, recurses := true, plainKeys := false, apart := false, narrowed := true }
def LocalSplicesUptoSaid : Prop := localSplicesUptoRow.holds Tryz.pinned (OpenSpec.upto localSplicesSpec)

/-- 'typebarlaw09.LocalWhole', WHERE WHAT IT READS IS OF BULK AT MOST 1048576: true; the input reads as it did. -/
def localWholeUptoRow : OpenClaim := { program := "ytkhfdeljpgmfgaagreat", sum := "28cbda728ae995a019571c7daf9ba5ee08842d007c4ffcaa3f6badeafd79676c", func := "typebar/typebarlaw09.LocalWhole", spec := "localWhole", unfollowed := true, recurses := true, plainKeys := false, apart := false, narrowed := true }
def LocalWholeUptoSaid : Prop := localWholeUptoRow.holds Tryz.pinned (OpenSpec.upto localWholeSpec)

/-- 'typebarlaw09.LocalNothing', WHERE WHAT IT READS IS OF BULK AT MOST 1048576: true; the input reads as it did. -/
def localNothingUptoRow : OpenClaim := { program := "ytkhfdeljpgmfgaagreat", sum := "28cbda728ae995a019571c7daf9ba5ee08842d007c4ffcaa3f6badeafd79676c", func := "typebar/typebarlaw09.LocalNothing", spec := "localNothing", unfollowed := true, recurses := true, plainKeys := false, apart := false, narrowed := true }
def LocalNothingUptoSaid : Prop := localNothingUptoRow.holds Tryz.pinned (OpenSpec.upto localNothingSpec)

end Rows
end Go.Proofs.YtkhfdeljpgmfgaaGreat
