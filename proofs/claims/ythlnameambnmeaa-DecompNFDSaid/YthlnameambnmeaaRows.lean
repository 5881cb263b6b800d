/-
  No cell of these rows narrows 'for every input' (looked for: loops, veiled, ifaces, maps, wideKeys, modest, calm, conditions, laid).
  DERIVED. THE GIVEN ROWS OF THIS SEAT. 10 by the template 'for every input the law returns true; each argument reads behind the call as it read before'; 0 by the template 'total and deterministic' (their statements: YthlnameambnmeaaTotals.lean).
  GIVEN WITH THE SEED: the statements are not yours to turn. If you find one false, say at which input.
  Laid BY PROGRAM, IN A SANDBOX (cutbox-rows.mjs): the forced cells as the released guide's own fill.sh prints them over the translation 67fb284efcd276ae… (all of the seat's roots in one cut). By AI agents, Wed Nov 11 2026. No macro, syntax, notation, axiom, sorry.
-/
import Derived.Test.YthlnameambnmeaaChecked
import GoSem.Claim
import GoSem.ClaimJoined
import GoSem.ClaimMapViews
import Derived.JoinedTies
import Derived.KernelRfl
namespace Go.Proofs.Ythlnameambnmeaa
/- THE CELL 'sum', in the pinned program and in every row, IS THE sha256 OF THE DUMP (.gsa) THAT YthlnameambnmeaaProg.lean LOADS. Nothing in Lean hashes anything: it is a label: what it is worth is what the hold of that sum in a sandbox is worth. -/
noncomputable def Try.pinned : Pinned := { name := "ythlnameambnmeaa", sum := "67fb284efcd276ae0f248a87e5166f7ad2983f000ad26ef15a511f856cacee43", checked := Try.checked }
namespace Rows
def none {H : Type} : Left H := { results := [], args := [] }

/-- 'typebarlaw08.QuickOf': WHATEVER THE INPUT: true; the input reads as it did. -/
def quickOfSpec : ChangeSpec := { name := "quickOf", fn := fun _ => fun
  | [d] => { results := [.lit (.bool true)], args := [d] }
  | _ => none }
def quickOfRow : OpenClaim := { program := "ythlnameambnmeaa", sum := "67fb284efcd276ae0f248a87e5166f7ad2983f000ad26ef15a511f856cacee43", func := "typebar/typebarlaw08.QuickOf", spec := "quickOf", unfollowed := true, recurses := true, plainKeys := false, apart := false }
def QuickOfSaid : Prop := quickOfRow.holds Try.pinned (OpenSpec.ofChange quickOfSpec)

/-- ITS FALSE NEIGHBOUR: 'it returns false'. Refute it at one input. -/
def quickOfWrong : ChangeSpec := { name := "quickOf", fn := fun _ => fun
  | [d] => { results := [.lit (.bool false)], args := [d] }
  | _ => none }
def QuickOfWrongFalsely : Prop := quickOfRow.holds Try.pinned (OpenSpec.ofChange quickOfWrong)

/-- 'typebarlaw08.QuickCheck': WHATEVER THE INPUT: true; the input reads as it did. -/
def quickCheckSpec : ChangeSpec := { name := "quickCheck", fn := fun _ => fun
  | [d] => { results := [.lit (.bool true)], args := [d] }
  | _ => none }
def quickCheckRow : OpenClaim := { program := "ythlnameambnmeaa", sum := "67fb284efcd276ae0f248a87e5166f7ad2983f000ad26ef15a511f856cacee43", func := "typebar/typebarlaw08.QuickCheck", spec := "quickCheck", unfollowed := true, recurses := true, plainKeys := false, apart := false }
def QuickCheckSaid : Prop := quickCheckRow.holds Try.pinned (OpenSpec.ofChange quickCheckSpec)

/-- ITS FALSE NEIGHBOUR: 'it returns false'. Refute it at one input. -/
def quickCheckWrong : ChangeSpec := { name := "quickCheck", fn := fun _ => fun
  | [d] => { results := [.lit (.bool false)], args := [d] }
  | _ => none }
def QuickCheckWrongFalsely : Prop := quickCheckRow.holds Try.pinned (OpenSpec.ofChange quickCheckWrong)

/-- 'typebarlaw08.QuickPoints': WHATEVER THE INPUT: true; the input reads as it did. -/
def quickPointsSpec : ChangeSpec := { name := "quickPoints", fn := fun _ => fun
  | [d] => { results := [.lit (.bool true)], args := [d] }
  | _ => none }
def quickPointsRow : OpenClaim := { program := "ythlnameambnmeaa", sum := "67fb284efcd276ae0f248a87e5166f7ad2983f000ad26ef15a511f856cacee43", func := "typebar/typebarlaw08.QuickPoints", spec := "quickPoints", unfollowed := true, recurses := true, plainKeys := false, apart := false }
def QuickPointsSaid : Prop := quickPointsRow.holds Try.pinned (OpenSpec.ofChange quickPointsSpec)

/-- ITS FALSE NEIGHBOUR: 'it returns false'. Refute it at one input. -/
def quickPointsWrong : ChangeSpec := { name := "quickPoints", fn := fun _ => fun
  | [d] => { results := [.lit (.bool false)], args := [d] }
  | _ => none }
def QuickPointsWrongFalsely : Prop := quickPointsRow.holds Try.pinned (OpenSpec.ofChange quickPointsWrong)

/-- 'typebarlaw06.DecompFull': WHATEVER THE INPUT: true; the input reads as it did. -/
def decompFullSpec : ChangeSpec := { name := "decompFull", fn := fun _ => fun
  | [d] => { results := [.lit (.bool true)], args := [d] }
  | _ => none }
def decompFullRow : OpenClaim := { program := "ythlnameambnmeaa", sum := "67fb284efcd276ae0f248a87e5166f7ad2983f000ad26ef15a511f856cacee43", func := "typebar/typebarlaw06.DecompFull", spec := "decompFull", unfollowed := true, recurses := true, plainKeys := false, apart := false }
def DecompFullSaid : Prop := decompFullRow.holds Try.pinned (OpenSpec.ofChange decompFullSpec)

/-- ITS FALSE NEIGHBOUR: 'it returns false'. Refute it at one input. -/
def decompFullWrong : ChangeSpec := { name := "decompFull", fn := fun _ => fun
  | [d] => { results := [.lit (.bool false)], args := [d] }
  | _ => none }
def DecompFullWrongFalsely : Prop := decompFullRow.holds Try.pinned (OpenSpec.ofChange decompFullWrong)

/-- 'typebarlaw06.DecompOrder': WHATEVER THE INPUT: true; the input reads as it did. -/
def decompOrderSpec : ChangeSpec := { name := "decompOrder", fn := fun _ => fun
  | [d] => { results := [.lit (.bool true)], args := [d] }
  | _ => none }
def decompOrderRow : OpenClaim := { program := "ythlnameambnmeaa", sum := "67fb284efcd276ae0f248a87e5166f7ad2983f000ad26ef15a511f856cacee43", func := "typebar/typebarlaw06.DecompOrder", spec := "decompOrder", unfollowed := true, recurses := true, plainKeys := false, apart := false }
def DecompOrderSaid : Prop := decompOrderRow.holds Try.pinned (OpenSpec.ofChange decompOrderSpec)

/-- ITS FALSE NEIGHBOUR: 'it returns false'. Refute it at one input. -/
def decompOrderWrong : ChangeSpec := { name := "decompOrder", fn := fun _ => fun
  | [d] => { results := [.lit (.bool false)], args := [d] }
  | _ => none }
def DecompOrderWrongFalsely : Prop := decompOrderRow.holds Try.pinned (OpenSpec.ofChange decompOrderWrong)

/-- 'typebarlaw06.DecompNFD': WHATEVER THE INPUT: true; the input reads as it did. -/
def decompNFDSpec : ChangeSpec := { name := "decompNFD", fn := fun _ => fun
  | [d] => { results := [.lit (.bool true)], args := [d] }
  | _ => none }
def decompNFDRow : OpenClaim := { program := "ythlnameambnmeaa", sum := "67fb284efcd276ae0f248a87e5166f7ad2983f000ad26ef15a511f856cacee43", func := "typebar/typebarlaw06.DecompNFD", spec := "decompNFD", unfollowed := true, recurses := true, plainKeys := false, apart := false }
def DecompNFDSaid : Prop := decompNFDRow.holds Try.pinned (OpenSpec.ofChange decompNFDSpec)

/-- ITS FALSE NEIGHBOUR: 'it returns false'. Refute it at one input. -/
def decompNFDWrong : ChangeSpec := { name := "decompNFD", fn := fun _ => fun
  | [d] => { results := [.lit (.bool false)], args := [d] }
  | _ => none }
def DecompNFDWrongFalsely : Prop := decompNFDRow.holds Try.pinned (OpenSpec.ofChange decompNFDWrong)

/-- 'typebarlaw06.DecompAgain': WHATEVER THE INPUT: true; the input reads as it did. -/
def decompAgainSpec : ChangeSpec := { name := "decompAgain", fn := fun _ => fun
  | [d] => { results := [.lit (.bool true)], args := [d] }
  | _ => none }
def decompAgainRow : OpenClaim := { program := "ythlnameambnmeaa", sum := "67fb284efcd276ae0f248a87e5166f7ad2983f000ad26ef15a511f856cacee43", func := "typebar/typebarlaw06.DecompAgain", spec := "decompAgain", unfollowed := true, recurses := true, plainKeys := false, apart := false }
def DecompAgainSaid : Prop := decompAgainRow.holds Try.pinned (OpenSpec.ofChange decompAgainSpec)

/-- ITS FALSE NEIGHBOUR: 'it returns false'. Refute it at one input. -/
def decompAgainWrong : ChangeSpec := { name := "decompAgain", fn := fun _ => fun
  | [d] => { results := [.lit (.bool false)], args := [d] }
  | _ => none }
def DecompAgainWrongFalsely : Prop := decompAgainRow.holds Try.pinned (OpenSpec.ofChange decompAgainWrong)

/-- 'typebarlaw06.DecompParts': WHATEVER THE INPUT: true; the input reads as it did. -/
def decompPartsSpec : ChangeSpec := { name := "decompParts", fn := fun _ => fun
  | [d1, d2] => { results := [.lit (.bool true)], args := [d1, d2] }
  | _ => none }
def decompPartsRow : OpenClaim := { program := "ythlnameambnmeaa", sum := "67fb284efcd276ae0f248a87e5166f7ad2983f000ad26ef15a511f856cacee43", func := "typebar/typebarlaw06.DecompParts", spec := "decompParts", unfollowed := true, recurses := true, plainKeys := false, apart := false }
def DecompPartsSaid : Prop := decompPartsRow.holds Try.pinned (OpenSpec.ofChange decompPartsSpec)

/-- ITS FALSE NEIGHBOUR: 'it returns false'. Refute it at one input. -/
def decompPartsWrong : ChangeSpec := { name := "decompParts", fn := fun _ => fun
  | [d1, d2] => { results := [.lit (.bool false)], args := [d1, d2] }
  | _ => none }
def DecompPartsWrongFalsely : Prop := decompPartsRow.holds Try.pinned (OpenSpec.ofChange decompPartsWrong)

/-- 'typebarlaw06.DecompEqual': WHATEVER THE INPUT: true; the input reads as it did. -/
def decompEqualSpec : ChangeSpec := { name := "decompEqual", fn := fun _ => fun
  | [d1, d2] => { results := [.lit (.bool true)], args := [d1, d2] }
  | _ => none }
def decompEqualRow : OpenClaim := { program := "ythlnameambnmeaa", sum := "67fb284efcd276ae0f248a87e5166f7ad2983f000ad26ef15a511f856cacee43", func := "typebar/typebarlaw06.DecompEqual", spec := "decompEqual", unfollowed := true, recurses := true, plainKeys := false, apart := false }
def DecompEqualSaid : Prop := decompEqualRow.holds Try.pinned (OpenSpec.ofChange decompEqualSpec)

/-- ITS FALSE NEIGHBOUR: 'it returns false'. Refute it at one input. -/
def decompEqualWrong : ChangeSpec := { name := "decompEqual", fn := fun _ => fun
  | [d1, d2] => { results := [.lit (.bool false)], args := [d1, d2] }
  | _ => none }
def DecompEqualWrongFalsely : Prop := decompEqualRow.holds Try.pinned (OpenSpec.ofChange decompEqualWrong)

/-- 'typebarlaw07.ComposeEqual': WHATEVER THE INPUT: true; the input reads as it did. -/
def composeEqualSpec : ChangeSpec := { name := "composeEqual", fn := fun _ => fun
  | [d1, d2] => { results := [.lit (.bool true)], args := [d1, d2] }
  | _ => none }
def composeEqualRow : OpenClaim := { program := "ythlnameambnmeaa", sum := "67fb284efcd276ae0f248a87e5166f7ad2983f000ad26ef15a511f856cacee43", func := "typebar/typebarlaw07.ComposeEqual", spec := "composeEqual", unfollowed := true, recurses := true, plainKeys := false, apart := false }
def ComposeEqualSaid : Prop := composeEqualRow.holds Try.pinned (OpenSpec.ofChange composeEqualSpec)

/-- ITS FALSE NEIGHBOUR: 'it returns false'. Refute it at one input. -/
def composeEqualWrong : ChangeSpec := { name := "composeEqual", fn := fun _ => fun
  | [d1, d2] => { results := [.lit (.bool false)], args := [d1, d2] }
  | _ => none }
def ComposeEqualWrongFalsely : Prop := composeEqualRow.holds Try.pinned (OpenSpec.ofChange composeEqualWrong)

/- THE SECOND FORM. 'bulk': how many values and letters a reading holds, each counted each time it is reached (what is shared counts as often as it is met; a slice's spare places count too). A statement '..UptoSaid' is the law's where the arguments, and the package variables that the reading takes, are together of bulk at most 1048576: NARROWER than '..Said'. Prove '..Said' where nothing that the law and all that it calls make is longer than what came in: it says more and counts as full. Else prove '..UptoSaid'. A law counts once. -/
mutual
def uptoBulk {H : Type} : DataW H → Nat
  | .lit (.string bytes) => bytes.length + 1
  | .lit _ => 1
  | .nil => 1
  | .ptr d => uptoBulk d + 1
  | .slice elems spare => uptoBulkAll elems + uptoBulkAll spare + 1
  | .agg parts => uptoBulkAll parts + 1
  | .iface _ d => uptoBulk d + 1
  | .map entries => uptoBulkEntries entries + 1
  | .held _ => 1
def uptoBulkAll {H : Type} : List (DataW H) → Nat
  | [] => 0
  | d :: r => uptoBulk d + uptoBulkAll r
def uptoBulkEntries {H : Type} : List (Lit × DataW H) → Nat
  | [] => 0
  | x :: r => uptoBulkEntry x + uptoBulkEntries r
def uptoBulkEntry {H : Type} : Lit × DataW H → Nat
  | (.string bytes, d) => bytes.length + uptoBulk d + 1
  | (_, d) => uptoBulk d + 1
 end
def uptoSmall : (H : Type) → List (DataW H) → Bool := fun _ ds => decide (uptoBulkAll ds ≤ 1048576)
def OpenSpec.upto (s : _root_.Go.ChangeSpec) : _root_.Go.OpenSpec := { _root_.Go.OpenSpec.ofChange s with cond := some uptoSmall }

/-- 'typebarlaw08.QuickOf', WHERE WHAT IT READS IS OF BULK AT MOST 1048576: true; the input reads as it did. -/
def quickOfUptoRow : OpenClaim := { program := "ythlnameambnmeaa", sum := "67fb284efcd276ae0f248a87e5166f7ad2983f000ad26ef15a511f856cacee43", func := "typebar/typebarlaw08.QuickOf", spec := "quickOf", unfollowed := true, recurses := true, plainKeys := false, apart := false, narrowed := true }
def QuickOfUptoSaid : Prop := quickOfUptoRow.holds Try.pinned (OpenSpec.upto quickOfSpec)

/-- 'typebarlaw08.QuickCheck', WHERE WHAT IT READS IS OF BULK AT MOST 1048576: true; the input reads as it did. -/
def quickCheckUptoRow : OpenClaim := { program := "ythlnameambnmeaa", sum := "67fb284efcd276ae0f248a87e5166f7ad2983f000ad26ef15a511f856cacee43", func := "typebar/typebarlaw08.QuickCheck", spec := "quickCheck", unfollowed := true, recurses := true, plainKeys := false, apart := false, narrowed := true }
def QuickCheckUptoSaid : Prop := quickCheckUptoRow.holds Try.pinned (OpenSpec.upto quickCheckSpec)

/-- 'typebarlaw08.QuickPoints', WHERE WHAT IT READS IS OF BULK AT MOST 1048576: true; the input reads as it did. -/
def quickPointsUptoRow : OpenClaim := { program := "ythlnameambnmeaa", sum := "67fb284efcd276ae0f248a87e5166f7ad2983f000ad26ef15a511f856cacee43", func := "typebar/typebarlaw08.QuickPoints", spec := "quickPoints", unfollowed := true, recurses := true, plainKeys := false, apart := false, narrowed := true }
def QuickPointsUptoSaid : Prop := quickPointsUptoRow.holds Try.pinned (OpenSpec.upto quickPointsSpec)

/-- 'typebarlaw06.DecompFull', WHERE WHAT IT READS IS OF BULK AT MOST 1048576: true; the input reads as it did. -/
def decompFullUptoRow : OpenClaim := { program := "ythlnameambnmeaa", sum := "67fb284efcd276ae0f248a87e5166f7ad2983f000ad26ef15a511f856cacee43", func := "typebar/typebarlaw06.DecompFull", spec := "decompFull", unfollowed := true, recurses := true, plainKeys := false, apart := false, narrowed := true }
def DecompFullUptoSaid : Prop := decompFullUptoRow.holds Try.pinned (OpenSpec.upto decompFullSpec)

/-- 'typebarlaw06.DecompOrder', WHERE WHAT IT READS IS OF BULK AT MOST 1048576: true; the input reads as it did. -/
def decompOrderUptoRow : OpenClaim := { program := "ythlnameambnmeaa", sum := "67fb284efcd276ae0f248a87e5166f7ad2983f000ad26ef15a511f856cacee43", func := "typebar/typebarlaw06.DecompOrder", spec := "decompOrder", unfollowed := true, recurses := true, plainKeys := false, apart := false, narrowed := true }
def DecompOrderUptoSaid : Prop := decompOrderUptoRow.holds Try.pinned (OpenSpec.upto decompOrderSpec)

/-- 'typebarlaw06.DecompNFD', WHERE WHAT IT READS IS OF BULK AT MOST 1048576: true; the input reads as it did. -/
def decompNFDUptoRow : OpenClaim := { program := "ythlnameambnmeaa", sum := "67fb284efcd276ae0f248a87e5166f7ad2983f000ad26ef15a511f856cacee43", func := "typebar/typebarlaw06.DecompNFD", spec := "decompNFD", unfollowed := true, recurses := true, plainKeys := false, apart := false, narrowed := true }
def DecompNFDUptoSaid : Prop := decompNFDUptoRow.holds Try.pinned (OpenSpec.upto decompNFDSpec)

/-- 'typebarlaw06.DecompAgain', WHERE WHAT IT READS IS OF BULK AT MOST 1048576: true; the input reads as it did. -/
def decompAgainUptoRow : OpenClaim := { program := "ythlnameambnmeaa", sum := "67fb284efcd276ae0f248a87e5166f7ad2983f000ad26ef15a511f856cacee43", func := "typebar/typebarlaw06.DecompAgain", spec := "decompAgain", unfollowed := true, recurses := true, plainKeys := false, apart := false, narrowed := true }
def DecompAgainUptoSaid : Prop := decompAgainUptoRow.holds Try.pinned (OpenSpec.upto decompAgainSpec)

/-- 'typebarlaw06.DecompParts', WHERE WHAT IT READS IS OF BULK AT MOST 1048576: true; the input reads as it did. -/
def decompPartsUptoRow : OpenClaim := { program := "ythlnameambnmeaa", sum := "67fb284efcd276ae0f248a87e5166f7ad2983f000ad26ef15a511f856cacee43", func := "typebar/typebarlaw06.DecompParts", spec := "decompParts", unfollowed := true, recurses := true, plainKeys := false, apart := false, narrowed := true }
def DecompPartsUptoSaid : Prop := decompPartsUptoRow.holds Try.pinned (OpenSpec.upto decompPartsSpec)

/-- 'typebarlaw06.DecompEqual', WHERE WHAT IT READS IS OF BULK AT MOST 1048576: true; the input reads as it did. -/
def decompEqualUptoRow : OpenClaim := { program := "ythlnameambnmeaa", sum := "67fb284efcd276ae0f248a87e5166f7ad2983f000ad26ef15a511f856cacee43", func := "typebar/typebarlaw06.DecompEqual", spec := "decompEqual", unfollowed := true, recurses := true, plainKeys := false, apart := false, narrowed := true }
def DecompEqualUptoSaid : Prop := decompEqualUptoRow.holds Try.pinned (OpenSpec.upto decompEqualSpec)

/-- 'typebarlaw07.ComposeEqual', WHERE WHAT IT READS IS OF BULK AT MOST 1048576: true; the input reads as it did. -/
def composeEqualUptoRow : OpenClaim := { program := "ythlnameambnmeaa", sum := "67fb284efcd276ae0f248a87e5166f7ad2983f000ad26ef15a511f856cacee43", func := "typebar/typebarlaw07.ComposeEqual", spec := "composeEqual", unfollowed := true, recurses := true, plainKeys := false, apart := false, narrowed := true }
def ComposeEqualUptoSaid : Prop := composeEqualUptoRow.holds Try.pinned (OpenSpec.upto composeEqualSpec)

end Rows
end Go.Proofs.Ythlnameambnmeaa
