/-
  No cell of these rows narrows 'for every input' (looked for: loops, veiled, ifaces, maps, wideKeys, modest, calm, conditions, laid).
  DERIVED. THE GIVEN ROWS OF THIS SEAT. 7 by the template 'for every input the law returns true; each argument reads behind the call as it read before'; 0 by the template 'total and deterministic' (their statements: YtkhfdeljpgmfgaaTotals.lean).
  GIVEN WITH THE SEED: the statements are not yours to turn. If you find one false, say at which input.
  Laid BY PROGRAM, IN A SANDBOX (cutbox-rows.mjs): the forced cells as the released guide's own fill.sh prints them over the translation 6f29b76925288224… (all of the seat's roots in one cut). By AI agents, Wed Nov 11 2026. No macro, syntax, notation, axiom, sorry.
-/
import Derived.Test.YtkhfdeljpgmfgaaChecked
import GoSem.Claim
import GoSem.ClaimJoined
import GoSem.ClaimMapViews
import Derived.JoinedTies
import Derived.KernelRfl
namespace Go.Proofs.Ytkhfdeljpgmfgaa
/- THE CELL 'sum', in the pinned program and in every row, IS THE sha256 OF THE DUMP (.gsa) THAT YtkhfdeljpgmfgaaProg.lean LOADS. Nothing in Lean hashes anything: it is a label: what it is worth is what the hold of that sum in a sandbox is worth. -/
noncomputable def Try.pinned : Pinned := { name := "ytkhfdeljpgmfgaa", sum := "6f29b7692528822435140497aee505cc705570ded817963e934242b7be08fe98", checked := Try.checked }
namespace Rows
def none {H : Type} : Left H := { results := [], args := [] }

/-- 'typebarlaw07.ComposeParts': WHATEVER THE INPUT: true; the input reads as it did. -/
def composePartsSpec : ChangeSpec := { name := "composeParts", fn := fun _ => fun
  | [d1, d2, d3] => { results := [.lit (.bool true)], args := [d1, d2, d3] }
  | _ => none }
def composePartsRow : OpenClaim := { program := "ytkhfdeljpgmfgaa", sum := "6f29b7692528822435140497aee505cc705570ded817963e934242b7be08fe98", func := "typebar/typebarlaw07.ComposeParts", spec := "composeParts", unfollowed := true, recurses := true, plainKeys := false, apart := false }
def ComposePartsSaid : Prop := composePartsRow.holds Try.pinned (OpenSpec.ofChange composePartsSpec)

/-- ITS FALSE NEIGHBOUR: 'it returns false'. Refute it at one input. -/
def composePartsWrong : ChangeSpec := { name := "composeParts", fn := fun _ => fun
  | [d1, d2, d3] => { results := [.lit (.bool false)], args := [d1, d2, d3] }
  | _ => none }
def ComposePartsWrongFalsely : Prop := composePartsRow.holds Try.pinned (OpenSpec.ofChange composePartsWrong)

/-- 'typebarlaw07.ComposeShort': WHATEVER THE INPUT: true; the input reads as it did. -/
def composeShortSpec : ChangeSpec := { name := "composeShort", fn := fun _ => fun
  | [d] => { results := [.lit (.bool true)], args := [d] }
  | _ => none }
def composeShortRow : OpenClaim := { program := "ytkhfdeljpgmfgaa", sum := "6f29b7692528822435140497aee505cc705570ded817963e934242b7be08fe98", func := "typebar/typebarlaw07.ComposeShort", spec := "composeShort", unfollowed := true, recurses := true, plainKeys := false, apart := false }
def ComposeShortSaid : Prop := composeShortRow.holds Try.pinned (OpenSpec.ofChange composeShortSpec)

/-- ITS FALSE NEIGHBOUR: 'it returns false'. Refute it at one input. -/
def composeShortWrong : ChangeSpec := { name := "composeShort", fn := fun _ => fun
  | [d] => { results := [.lit (.bool false)], args := [d] }
  | _ => none }
def ComposeShortWrongFalsely : Prop := composeShortRow.holds Try.pinned (OpenSpec.ofChange composeShortWrong)

/-- 'typebarlaw21.FindFinds': WHATEVER THE INPUT: true; the input reads as it did. -/
def findFindsSpec : ChangeSpec := { name := "findFinds", fn := fun _ => fun
  | [d1, d2] => { results := [.lit (.bool true)], args := [d1, d2] }
  | _ => none }
def findFindsRow : OpenClaim := { program := "ytkhfdeljpgmfgaa", sum := "6f29b7692528822435140497aee505cc705570ded817963e934242b7be08fe98", func := "typebar/typebarlaw21.FindFinds", spec := "findFinds", unfollowed := true, recurses := true, plainKeys := false, apart := false }
def FindFindsSaid : Prop := findFindsRow.holds Try.pinned (OpenSpec.ofChange findFindsSpec)

/-- ITS FALSE NEIGHBOUR: 'it returns false'. Refute it at one input. -/
def findFindsWrong : ChangeSpec := { name := "findFinds", fn := fun _ => fun
  | [d1, d2] => { results := [.lit (.bool false)], args := [d1, d2] }
  | _ => none }
def FindFindsWrongFalsely : Prop := findFindsRow.holds Try.pinned (OpenSpec.ofChange findFindsWrong)

/-- 'typebarlaw21.FindPart': WHATEVER THE INPUT: true; the input reads as it did. -/
def findPartSpec : ChangeSpec := { name := "findPart", fn := fun _ => fun
  | [d1, d2, d3] => { results := [.lit (.bool true)], args := [d1, d2, d3] }
  | _ => none }
def findPartRow : OpenClaim := { program := "ytkhfdeljpgmfgaa", sum := "6f29b7692528822435140497aee505cc705570ded817963e934242b7be08fe98", func := "typebar/typebarlaw21.FindPart", spec := "findPart", unfollowed := true, recurses := true, plainKeys := false, apart := false }
def FindPartSaid : Prop := findPartRow.holds Try.pinned (OpenSpec.ofChange findPartSpec)

/-- ITS FALSE NEIGHBOUR: 'it returns false'. Refute it at one input. -/
def findPartWrong : ChangeSpec := { name := "findPart", fn := fun _ => fun
  | [d1, d2, d3] => { results := [.lit (.bool false)], args := [d1, d2, d3] }
  | _ => none }
def FindPartWrongFalsely : Prop := findPartRow.holds Try.pinned (OpenSpec.ofChange findPartWrong)

/-- 'typebarlaw07.ComposeAgain': WHATEVER THE INPUT: true; the input reads as it did. -/
def composeAgainSpec : ChangeSpec := { name := "composeAgain", fn := fun _ => fun
  | [d] => { results := [.lit (.bool true)], args := [d] }
  | _ => none }
def composeAgainRow : OpenClaim := { program := "ytkhfdeljpgmfgaa", sum := "6f29b7692528822435140497aee505cc705570ded817963e934242b7be08fe98", func := "typebar/typebarlaw07.ComposeAgain", spec := "composeAgain", unfollowed := true, recurses := true, plainKeys := false, apart := false }
def ComposeAgainSaid : Prop := composeAgainRow.holds Try.pinned (OpenSpec.ofChange composeAgainSpec)

/-- ITS FALSE NEIGHBOUR: 'it returns false'. Refute it at one input. -/
def composeAgainWrong : ChangeSpec := { name := "composeAgain", fn := fun _ => fun
  | [d] => { results := [.lit (.bool false)], args := [d] }
  | _ => none }
def ComposeAgainWrongFalsely : Prop := composeAgainRow.holds Try.pinned (OpenSpec.ofChange composeAgainWrong)

/-- 'typebarlaw08.QuickApart': WHATEVER THE INPUT: true; the input reads as it did. -/
def quickApartSpec : ChangeSpec := { name := "quickApart", fn := fun _ => fun
  | [d1, d2, d3] => { results := [.lit (.bool true)], args := [d1, d2, d3] }
  | _ => none }
def quickApartRow : OpenClaim := { program := "ytkhfdeljpgmfgaa", sum := "6f29b7692528822435140497aee505cc705570ded817963e934242b7be08fe98", func := "typebar/typebarlaw08.QuickApart", spec := "quickApart", unfollowed := true, recurses := true, plainKeys := false, apart := false }
def QuickApartSaid : Prop := quickApartRow.holds Try.pinned (OpenSpec.ofChange quickApartSpec)

/-- ITS FALSE NEIGHBOUR: 'it returns false'. Refute it at one input. -/
def quickApartWrong : ChangeSpec := { name := "quickApart", fn := fun _ => fun
  | [d1, d2, d3] => { results := [.lit (.bool false)], args := [d1, d2, d3] }
  | _ => none }
def QuickApartWrongFalsely : Prop := quickApartRow.holds Try.pinned (OpenSpec.ofChange quickApartWrong)

/-- 'typebarlaw09.LocalNarrows': WHATEVER THE INPUT: true; the input reads as it did. -/
def localNarrowsSpec : ChangeSpec := { name := "localNarrows", fn := fun _ => fun
  | [d1, d2, d3, d4] => { results := [.lit (.bool true)], args := [d1, d2, d3, d4] }
  | _ => none }
def localNarrowsRow : OpenClaim := { program := "ytkhfdeljpgmfgaa", sum := "6f29b7692528822435140497aee505cc705570ded817963e934242b7be08fe98", func := "typebar/typebarlaw09.LocalNarrows", spec := "localNarrows", unfollowed := true, recurses := true, plainKeys := false, apart := false }
def LocalNarrowsSaid : Prop := localNarrowsRow.holds Try.pinned (OpenSpec.ofChange localNarrowsSpec)

/-- ITS FALSE NEIGHBOUR: 'it returns false'. Refute it at one input. -/
def localNarrowsWrong : ChangeSpec := { name := "localNarrows", fn := fun _ => fun
  | [d1, d2, d3, d4] => { results := [.lit (.bool false)], args := [d1, d2, d3, d4] }
  | _ => none }
def LocalNarrowsWrongFalsely : Prop := localNarrowsRow.holds Try.pinned (OpenSpec.ofChange localNarrowsWrong)

/- THE SECOND FORM. 'bulk': how many values and letters a reading holds, each counted each time it is reached (what is shared counts as often as it is met; a slice's spare places count too). A statement '..UptoSaid' is the law's where the arguments, and the package variables that the reading takes, are together of bulk at most 1048576: NARROWER than '..Said'. Prove '..Said' where nothing that the law and all that it calls make is longer than what came in: it says more and counts as full. Else prove '..UptoSaid'. A law counts once. -/
mutual
def uptoBulk {H : Type} : DataW H → Nat
  | .lit (.string bytes) => bytes.length + 1
  | .lit _ => 1
  | .nil => 1
  | .ptr d => uptoBulk d + 1
  | .slice elems spare => uptoBulkAll elems + uptoBulkAll spare + 1
  | .agg parts => uptoBulkAll parts + 1
  | .iface _ d => uptoBulk d + 1
  | .map entries => uptoBulkEntries entries + 1
  | .held _ => 1
def uptoBulkAll {H : Type} : List (DataW H) → Nat
  | [] => 0
  | d :: r => uptoBulk d + uptoBulkAll r
def uptoBulkEntries {H : Type} : List (Lit × DataW H) → Nat
  | [] => 0
  | x :: r => uptoBulkEntry x + uptoBulkEntries r
def uptoBulkEntry {H : Type} : Lit × DataW H → Nat
  | (.string bytes, d) => bytes.length + uptoBulk d + 1
  | (_, d) => uptoBulk d + 1
 end
def uptoSmall : (H : Type) → List (DataW H) → Bool := fun _ ds => decide (uptoBulkAll ds ≤ 1048576)
def OpenSpec.upto (s : _root_.Go.ChangeSpec) : _root_.Go.OpenSpec := { _root_.Go.OpenSpec.ofChange s with cond := some uptoSmall }

/-- 'typebarlaw07.ComposeParts', WHERE WHAT IT READS IS OF BULK AT MOST 1048576: true; the input reads as it did. -/
def composePartsUptoRow : OpenClaim := { program := "ytkhfdeljpgmfgaa", sum := "6f29b7692528822435140497aee505cc705570ded817963e934242b7be08fe98", func := "typebar/typebarlaw07.ComposeParts", spec := "composeParts", unfollowed := true, recurses := true, plainKeys := false, apart := false, narrowed := true }
def ComposePartsUptoSaid : Prop := composePartsUptoRow.holds Try.pinned (OpenSpec.upto composePartsSpec)

/-- 'typebarlaw07.ComposeShort', WHERE WHAT IT READS IS OF BULK AT MOST 1048576: true; the input reads as it did. -/
def composeShortUptoRow : OpenClaim := { program := "ytkhfdeljpgmfgaa", sum := "6f29b7692528822435140497aee505cc705570ded817963e934242b7be08fe98", func := "typebar/typebarlaw07.ComposeShort", spec := "composeShort", unfollowed := true, recurses := true, plainKeys := false, apart := false, narrowed := true }
def ComposeShortUptoSaid : Prop := composeShortUptoRow.holds Try.pinned (OpenSpec.upto composeShortSpec)

/-- 'typebarlaw21.FindFinds', WHERE WHAT IT READS IS OF BULK AT MOST 1048576: true; the input reads as it did. -/
def findFindsUptoRow : OpenClaim := { program := "ytkhfdeljpgmfgaa", sum := "6f29b7692528822435140497aee505cc705570ded817963e934242b7be08fe98", func := "typebar/typebarlaw21.FindFinds", spec := "findFinds", unfollowed := true, recurses := true, plainKeys := false, apart := false, narrowed := true }
def FindFindsUptoSaid : Prop := findFindsUptoRow.holds Try.pinned (OpenSpec.upto findFindsSpec)

/-- 'typebarlaw21.FindPart', WHERE WHAT IT READS IS OF BULK AT MOST 1048576: true; the input reads as it did. -/
def findPartUptoRow : OpenClaim := { program := "ytkhfdeljpgmfgaa", sum := "6f29b7692528822435140497aee505cc705570ded817963e934242b7be08fe98", func := "typebar/typebarlaw21.FindPart", spec := "findPart", unfollowed := true, recurses := true, plainKeys := false, apart := false, narrowed := true }
def FindPartUptoSaid : Prop := findPartUptoRow.holds Try.pinned (OpenSpec.upto findPartSpec)

/-- 'typebarlaw07.ComposeAgain', WHERE WHAT IT READS IS OF BULK AT MOST 1048576: true; the input reads as it did. -/
def composeAgainUptoRow : OpenClaim := { program := "ytkhfdeljpgmfgaa", sum := "6f29b7692528822435140497aee505cc705570ded817963e934242b7be08fe98", func := "typebar/typebarlaw07.ComposeAgain", spec := "composeAgain", unfollowed := true, recurses := true, plainKeys := false, apart := false, narrowed := true }
def ComposeAgainUptoSaid : Prop := composeAgainUptoRow.holds Try.pinned (OpenSpec.upto composeAgainSpec)

/-- 'typebarlaw08.QuickApart', WHERE WHAT IT READS IS OF BULK AT MOST 1048576: true; the input reads as it did. -/
def quickApartUptoRow : OpenClaim := { program := "ytkhfdeljpgmfgaa", sum := "6f29b7692528822435140497aee505cc705570ded817963e934242b7be08fe98", func := "typebar/typebarlaw08.QuickApart", spec := "quickApart", unfollowed := true, recurses := true, plainKeys := false, apart := false, narrowed := true }
def QuickApartUptoSaid : Prop := quickApartUptoRow.holds Try.pinned (OpenSpec.upto quickApartSpec)

/-- 'typebarlaw09.LocalNarrows', WHERE WHAT IT READS IS OF BULK AT MOST 1048576: true; the input reads as it did. -/
def localNarrowsUptoRow : OpenClaim := { program := "ytkhfdeljpgmfgaa", sum := "6f29b7692528822435140497aee505cc705570ded817963e934242b7be08fe98", func := "typebar/typebarlaw09.LocalNarrows", spec := "localNarrows", unfollowed := true, recurses := true, plainKeys := false, apart := false, narrowed := true }
def LocalNarrowsUptoSaid : Prop := localNarrowsUptoRow.holds Try.pinned (OpenSpec.upto localNarrowsSpec)

end Rows
end Go.Proofs.Ytkhfdeljpgmfgaa
