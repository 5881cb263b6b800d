/-
  No cell of these rows narrows 'for every input' (looked for: loops, veiled, ifaces, maps, wideKeys, modest, calm, conditions, laid).
  DERIVED. THE GIVEN ROWS OF THIS SEAT. 10 by the template 'for every input the law returns true; each argument reads behind the call as it read before'; 0 by the template 'total and deterministic' (their statements: YtijgnoilmmppcaaGreatTotals.lean).
  GIVEN WITH THE SEED: the statements are not yours to turn. If you find one false, say at which input.
  Laid BY PROGRAM, IN A SANDBOX (cutbox-rows.mjs): the forced cells as the released guide's own fill.sh prints them over the translation 38df0a65dd9f9605… (all of the seat's roots in one cut). By AI agents, Wed Nov 11 2026. No macro, syntax, notation, axiom, sorry.
-/
import Derived.Test.YtijgnoilmmppcaaGreatChecked
import GoSem.Claim
import GoSem.ClaimJoined
import GoSem.ClaimMapViews
import Derived.JoinedTies
import Derived.KernelRfl
namespace Go.Proofs.YtijgnoilmmppcaaGreat
/- THE CELL 'sum', in the pinned program and in every row, IS THE sha256 OF THE DUMP (.gsa) THAT YtijgnoilmmppcaaGreatProg.lean LOADS. Nothing in Lean hashes anything: it is a label: what it is worth is what the hold of that sum in a sandbox is worth. -/
noncomputable def Tryz.pinned : Pinned := { name := "ytijgnoilmmppcaagreat", sum := "38df0a65dd9f9605d5b5611a63d244396043cad9a84eab2d8086e1f3ffa1e9ae", checked := Tryz.checked }
namespace Rows
def none {H : Type} : Left H := { results := [], args := [] }

/-- 'typebarlaw25.SeekNearest': WHATEVER THE INPUT: true; the input reads as it did. -/
def seekNearestSpec : ChangeSpec := { name := "seekNearest", fn := fun _ => fun
  | [d1, d2, d3, d4] => { results := [.lit (.bool true)], args := [d1, d2, d3, d4] }
  | _ => none }
def seekNearestRow : OpenClaim := { program := "ytijgnoilmmppcaagreat", sum := "38df0a65dd9f9605d5b5611a63d244396043cad9a84eab2d8086e1f3ffa1e9ae", func := "typebar/typebarlaw25.SeekNearest", spec := "seekNearest", unfollowed := true, recurses := true, plainKeys := false, apart := false }
def SeekNearestSaid : Prop := seekNearestRow.holds Tryz.pinned (OpenSpec.ofChange seekNearestSpec)

/-- ITS FALSE NEIGHBOUR: 'it returns false'. Refute it at one input. -/
def seekNearestWrong : ChangeSpec := { name := "seekNearest", fn := fun _ => fun
  | [d1, d2, d3, d4] => { results := [.lit (.bool false)], args := [d1, d2, d3, d4] }
  | _ => none }
def SeekNearestWrongFalsely : Prop := seekNearestRow.holds Tryz.pinned (OpenSpec.ofChange seekNearestWrong)

/-- 'typebarlaw25.SeekPlays': WHATEVER THE INPUT: true; the input reads as it did. -/
def seekPlaysSpec : ChangeSpec := { name := "seekPlays", fn := fun _ => fun
  | [d1, d2, d3, d4, d5] => { results := [.lit (.bool true)], args := [d1, d2, d3, d4, d5] }
  | _ => none }
def seekPlaysRow : OpenClaim := { program := "ytijgnoilmmppcaagreat", sum := "38df0a65dd9f9605d5b5611a63d244396043cad9a84eab2d8086e1f3ffa1e9ae", func := "typebar/typebarlaw25.SeekPlays", spec := "seekPlays", unfollowed := true, recurses := true, plainKeys := false, apart := false }
def SeekPlaysSaid : Prop := seekPlaysRow.holds Tryz.pinned (OpenSpec.ofChange seekPlaysSpec)

/-- ITS FALSE NEIGHBOUR: 'it returns false'. Refute it at one input. -/
def seekPlaysWrong : ChangeSpec := { name := "seekPlays", fn := fun _ => fun
  | [d1, d2, d3, d4, d5] => { results := [.lit (.bool false)], args := [d1, d2, d3, d4, d5] }
  | _ => none }
def SeekPlaysWrongFalsely : Prop := seekPlaysRow.holds Tryz.pinned (OpenSpec.ofChange seekPlaysWrong)

/-- 'typebarlaw25.SeekFinds': WHATEVER THE INPUT: true; the input reads as it did. -/
def seekFindsSpec : ChangeSpec := { name := "seekFinds", fn := fun _ => fun
  | [d1, d2, d3, d4] => { results := [.lit (.bool true)], args := [d1, d2, d3, d4] }
  | _ => none }
def seekFindsRow : OpenClaim := { program := "ytijgnoilmmppcaagreat", sum := "38df0a65dd9f9605d5b5611a63d244396043cad9a84eab2d8086e1f3ffa1e9ae", func := "typebar/typebarlaw25.SeekFinds", spec := "seekFinds", unfollowed := true, recurses := true, plainKeys := false, apart := false }
def SeekFindsSaid : Prop := seekFindsRow.holds Tryz.pinned (OpenSpec.ofChange seekFindsSpec)

/-- ITS FALSE NEIGHBOUR: 'it returns false'. Refute it at one input. -/
def seekFindsWrong : ChangeSpec := { name := "seekFinds", fn := fun _ => fun
  | [d1, d2, d3, d4] => { results := [.lit (.bool false)], args := [d1, d2, d3, d4] }
  | _ => none }
def SeekFindsWrongFalsely : Prop := seekFindsRow.holds Tryz.pinned (OpenSpec.ofChange seekFindsWrong)

/-- 'typebarlaw42.FoldFinds': WHATEVER THE INPUT: true; the input reads as it did. -/
def foldFindsSpec : ChangeSpec := { name := "foldFinds", fn := fun _ => fun
  | [d1, d2] => { results := [.lit (.bool true)], args := [d1, d2] }
  | _ => none }
def foldFindsRow : OpenClaim := { program := "ytijgnoilmmppcaagreat", sum := "38df0a65dd9f9605d5b5611a63d244396043cad9a84eab2d8086e1f3ffa1e9ae", func := "typebar/typebarlaw42.FoldFinds", spec := "foldFinds", unfollowed := true, recurses := true, plainKeys := false, apart := false }
def FoldFindsSaid : Prop := foldFindsRow.holds Tryz.pinned (OpenSpec.ofChange foldFindsSpec)

/-- ITS FALSE NEIGHBOUR: 'it returns false'. Refute it at one input. -/
def foldFindsWrong : ChangeSpec := { name := "foldFinds", fn := fun _ => fun
  | [d1, d2] => { results := [.lit (.bool false)], args := [d1, d2] }
  | _ => none }
def FoldFindsWrongFalsely : Prop := foldFindsRow.holds Tryz.pinned (OpenSpec.ofChange foldFindsWrong)

/-- 'typebarlaw42.FoldSame': WHATEVER THE INPUT: true; the input reads as it did. -/
def foldSameSpec : ChangeSpec := { name := "foldSame", fn := fun _ => fun
  | [d1, d2] => { results := [.lit (.bool true)], args := [d1, d2] }
  | _ => none }
def foldSameRow : OpenClaim := { program := "ytijgnoilmmppcaagreat", sum := "38df0a65dd9f9605d5b5611a63d244396043cad9a84eab2d8086e1f3ffa1e9ae", func := "typebar/typebarlaw42.FoldSame", spec := "foldSame", unfollowed := true, recurses := true, plainKeys := false, apart := false }
def FoldSameSaid : Prop := foldSameRow.holds Tryz.pinned (OpenSpec.ofChange foldSameSpec)

/-- ITS FALSE NEIGHBOUR: 'it returns false'. Refute it at one input. -/
def foldSameWrong : ChangeSpec := { name := "foldSame", fn := fun _ => fun
  | [d1, d2] => { results := [.lit (.bool false)], args := [d1, d2] }
  | _ => none }
def FoldSameWrongFalsely : Prop := foldSameRow.holds Tryz.pinned (OpenSpec.ofChange foldSameWrong)

/-- 'typebarlaw42.FoldKeys': WHATEVER THE INPUT: true; the input reads as it did. -/
def foldKeysSpec : ChangeSpec := { name := "foldKeys", fn := fun _ => fun
  | [d] => { results := [.lit (.bool true)], args := [d] }
  | _ => none }
def foldKeysRow : OpenClaim := { program := "ytijgnoilmmppcaagreat", sum := "38df0a65dd9f9605d5b5611a63d244396043cad9a84eab2d8086e1f3ffa1e9ae", func := "typebar/typebarlaw42.FoldKeys", spec := "foldKeys", unfollowed := true, recurses := true, plainKeys := false, apart := false }
def FoldKeysSaid : Prop := foldKeysRow.holds Tryz.pinned (OpenSpec.ofChange foldKeysSpec)

/-- ITS FALSE NEIGHBOUR: 'it returns false'. Refute it at one input. -/
def foldKeysWrong : ChangeSpec := { name := "foldKeys", fn := fun _ => fun
  | [d] => { results := [.lit (.bool false)], args := [d] }
  | _ => none }
def FoldKeysWrongFalsely : Prop := foldKeysRow.holds Tryz.pinned (OpenSpec.ofChange foldKeysWrong)

/-- 'typebarlaw42.FoldAgain': WHATEVER THE INPUT: true; the input reads as it did. -/
def foldAgainSpec : ChangeSpec := { name := "foldAgain", fn := fun _ => fun
  | [d1, d2] => { results := [.lit (.bool true)], args := [d1, d2] }
  | _ => none }
def foldAgainRow : OpenClaim := { program := "ytijgnoilmmppcaagreat", sum := "38df0a65dd9f9605d5b5611a63d244396043cad9a84eab2d8086e1f3ffa1e9ae", func := "typebar/typebarlaw42.FoldAgain", spec := "foldAgain", unfollowed := true, recurses := true, plainKeys := false, apart := false }
def FoldAgainSaid : Prop := foldAgainRow.holds Tryz.pinned (OpenSpec.ofChange foldAgainSpec)

/-- ITS FALSE NEIGHBOUR: 'it returns false'. Refute it at one input. -/
def foldAgainWrong : ChangeSpec := { name := "foldAgain", fn := fun _ => fun
  | [d1, d2] => { results := [.lit (.bool false)], args := [d1, d2] }
  | _ => none }
def FoldAgainWrongFalsely : Prop := foldAgainRow.holds Tryz.pinned (OpenSpec.ofChange foldAgainWrong)

/-- 'typebarlaw50.DeltaOf': WHATEVER THE INPUT: true; the input reads as it did. -/
def deltaOfSpec : ChangeSpec := { name := "deltaOf", fn := fun _ => fun
  | [d1, d2] => { results := [.lit (.bool true)], args := [d1, d2] }
  | _ => none }
def deltaOfRow : OpenClaim := { program := "ytijgnoilmmppcaagreat", sum := "38df0a65dd9f9605d5b5611a63d244396043cad9a84eab2d8086e1f3ffa1e9ae", func := "typebar/typebarlaw50.DeltaOf", spec := "deltaOf", unfollowed := true, recurses := true, plainKeys := false, apart := false }
def DeltaOfSaid : Prop := deltaOfRow.holds Tryz.pinned (OpenSpec.ofChange deltaOfSpec)

/-- ITS FALSE NEIGHBOUR: 'it returns false'. Refute it at one input. -/
def deltaOfWrong : ChangeSpec := { name := "deltaOf", fn := fun _ => fun
  | [d1, d2] => { results := [.lit (.bool false)], args := [d1, d2] }
  | _ => none }
def DeltaOfWrongFalsely : Prop := deltaOfRow.holds Tryz.pinned (OpenSpec.ofChange deltaOfWrong)

/-- 'typebarlaw50.DeltaLeast': WHATEVER THE INPUT: true; the input reads as it did. -/
def deltaLeastSpec : ChangeSpec := { name := "deltaLeast", fn := fun _ => fun
  | [d1, d2] => { results := [.lit (.bool true)], args := [d1, d2] }
  | _ => none }
def deltaLeastRow : OpenClaim := { program := "ytijgnoilmmppcaagreat", sum := "38df0a65dd9f9605d5b5611a63d244396043cad9a84eab2d8086e1f3ffa1e9ae", func := "typebar/typebarlaw50.DeltaLeast", spec := "deltaLeast", unfollowed := true, recurses := true, plainKeys := false, apart := false }
def DeltaLeastSaid : Prop := deltaLeastRow.holds Tryz.pinned (OpenSpec.ofChange deltaLeastSpec)

/-- ITS FALSE NEIGHBOUR: 'it returns false'. Refute it at one input. -/
def deltaLeastWrong : ChangeSpec := { name := "deltaLeast", fn := fun _ => fun
  | [d1, d2] => { results := [.lit (.bool false)], args := [d1, d2] }
  | _ => none }
def DeltaLeastWrongFalsely : Prop := deltaLeastRow.holds Tryz.pinned (OpenSpec.ofChange deltaLeastWrong)

/-- 'typebarlaw50.DeltaDoes': WHATEVER THE INPUT: true; the input reads as it did. -/
def deltaDoesSpec : ChangeSpec := { name := "deltaDoes", fn := fun _ => fun
  | [d1, d2] => { results := [.lit (.bool true)], args := [d1, d2] }
  | _ => none }
def deltaDoesRow : OpenClaim := { program := "ytijgnoilmmppcaagreat", sum := "38df0a65dd9f9605d5b5611a63d244396043cad9a84eab2d8086e1f3ffa1e9ae", func := "typebar/typebarlaw50.DeltaDoes", spec := "deltaDoes", unfollowed := true, recurses := true, plainKeys := false, apart := false }
def DeltaDoesSaid : Prop := deltaDoesRow.holds Tryz.pinned (OpenSpec.ofChange deltaDoesSpec)

/-- ITS FALSE NEIGHBOUR: 'it returns false'. Refute it at one input. -/
def deltaDoesWrong : ChangeSpec := { name := "deltaDoes", fn := fun _ => fun
  | [d1, d2] => { results := [.lit (.bool false)], args := [d1, d2] }
  | _ => none }
def DeltaDoesWrongFalsely : Prop := deltaDoesRow.holds Tryz.pinned (OpenSpec.ofChange deltaDoesWrong)

/- THE SECOND FORM. 'bulk': how many values and letters a reading holds, each counted each time it is reached (what is shared counts as often as it is met; a slice's spare places count too). A statement '..UptoSaid' is the law's where the arguments, and the package variables that the reading takes, are together of bulk at most 1048576: NARROWER than '..Said'. Prove '..Said' where nothing that the law and all that it calls make is longer than what came in: it says more and counts as full. Else prove '..UptoSaid'. A law counts once. -/
mutual
def uptoBulk {H : Type} : DataW H → Nat
  | .lit (.string bytes) => bytes.length + 1
  | .lit _ => 1
  | .nil => 1
  | .ptr d => uptoBulk d + 1
  | .slice elems spare => uptoBulkAll elems + uptoBulkAll spare + 1
  | .agg parts => uptoBulkAll parts + 1
  | .iface _ d => uptoBulk d + 1
  | .map entries => uptoBulkEntries entries + 1
  | .held _ => 1
def uptoBulkAll {H : Type} : List (DataW H) → Nat
  | [] => 0
  | d :: r => uptoBulk d + uptoBulkAll r
def uptoBulkEntries {H : Type} : List (Lit × DataW H) → Nat
  | [] => 0
  | x :: r => uptoBulkEntry x + uptoBulkEntries r
def uptoBulkEntry {H : Type} : Lit × DataW H → Nat
  | (.string bytes, d) => bytes.length + uptoBulk d + 1
  | (_, d) => uptoBulk d + 1
 end
def uptoSmall : (H : Type) → List (DataW H) → Bool := fun _ ds => decide (uptoBulkAll ds ≤ 1048576)
def OpenSpec.upto (s : _root_.Go.ChangeSpec) : _root_.Go.OpenSpec := { _root_.Go.OpenSpec.ofChange s with cond := some uptoSmall }

/-- 'typebarlaw25.SeekNearest', WHERE WHAT IT READS IS OF BULK AT MOST 1048576: true; the input reads as it did. -/
def seekNearestUptoRow : OpenClaim := { program := "ytijgnoilmmppcaagreat", sum := "38df0a65dd9f9605d5b5611a63d244396043cad9a84eab2d8086e1f3ffa1e9ae", func := "typebar/typebarlaw25.SeekNearest", spec := "seekNearest", unfollowed := true, recurses := true, plainKeys := false, apart := false, narrowed := true }
def SeekNearestUptoSaid : Prop := seekNearestUptoRow.holds Tryz.pinned (OpenSpec.upto seekNearestSpec)

/-- 'typebarlaw25.SeekPlays', WHERE WHAT IT READS IS OF BULK AT MOST 1048576: true; the input reads as it did. -/
def seekPlaysUptoRow : OpenClaim := { program := "ytijgnoilmmppcaagreat", sum := "38df0a65dd9f9605d5b5611a63d244396043cad9a84eab2d8086e1f3ffa1e9ae", func := "typebar/typebarlaw25.SeekPlays", spec := "seekPlays", unfollowed := true, recurses := true, plainKeys := false, apart := false, narrowed := true }
def SeekPlaysUptoSaid : Prop := seekPlaysUptoRow.holds Tryz.pinned (OpenSpec.upto seekPlaysSpec)

/-- 'typebarlaw25.SeekFinds', WHERE WHAT IT READS IS OF BULK AT MOST 1048576: true; the input reads as it did. -/
def seekFindsUptoRow : OpenClaim := { program := "ytijgnoilmmppcaagreat", sum := "38df0a65dd9f9605d5b5611a63d244396043cad9a84eab2d8086e1f3ffa1e9ae", func := "typebar/typebarlaw25.SeekFinds", spec := "seekFinds", unfollowed := true, recurses := true, plainKeys := false, apart := false, narrowed := true }
def SeekFindsUptoSaid : Prop := seekFindsUptoRow.holds Tryz.pinned (OpenSpec.upto seekFindsSpec)

/-- 'typebarlaw42.FoldFinds', WHERE WHAT IT READS IS OF BULK AT MOST 1048576: true; the input reads as it did. -/
def foldFindsUptoRow : OpenClaim := { program := "ytijgnoilmmppcaagreat", sum := "38df0a65dd9f9605d5b5611a63d244396043cad9a84eab2d8086e1f3ffa1e9ae", func := "typebar/typebarlaw42.FoldFinds", spec := "foldFinds", unfollowed := true, recurses := true, plainKeys := false, apart := false, narrowed := true }
def FoldFindsUptoSaid : Prop := foldFindsUptoRow.holds Tryz.pinned (OpenSpec.upto foldFindsSpec)

/-- 'typebarlaw42.FoldSame', WHERE WHAT IT READS IS OF BULK AT MOST 1048576: true; the input reads as it did. -/
def foldSameUptoRow : OpenClaim := { program := "ytijgnoilmmppcaagreat", sum := "38df0a65dd9f9605d5b5611a63d244396043cad9a84eab2d8086e1f3ffa1e9ae", func := "typebar/typebarlaw42.FoldSame", spec := "foldSame", unfollowed := true, recurses := true, plainKeys := false, apart := false, narrowed := true }
def FoldSameUptoSaid : Prop := foldSameUptoRow.holds Tryz.pinned (OpenSpec.upto foldSameSpec)

/-- 'typebarlaw42.FoldKeys', WHERE WHAT IT READS IS OF BULK AT MOST 1048576: true; the input reads as it did. -/
def foldKeysUptoRow : OpenClaim := { program := "ytijgnoilmmppcaagreat", sum := "38df0a65dd9f9605d5b5611a63d244396043cad9a84eab2d8086e1f3ffa1e9ae", func := "typebar/typebarlaw42.FoldKeys", spec := "foldKeys", unfollowed := true, recurses := true, plainKeys := false, apart := false, narrowed := true }
def FoldKeysUptoSaid : Prop := foldKeysUptoRow.holds Tryz.pinned (OpenSpec.upto foldKeysSpec)

/-- 'typebarlaw42.FoldAgain', WHERE WHAT IT READS IS OF BULK AT MOST 1048576: true; the input reads as it did. -/
def foldAgainUptoRow : OpenClaim := { program := "ytijgnoilmmppcaagreat", sum := "38df0a65dd9f9605d5b5611a63d244396043cad9a84eab2d8086e1f3ffa1e9ae", func := "typebar/typebarlaw42.FoldAgain", spec := "foldAgain", unfollowed := true, recurses := true, plainKeys := false, apart := false, narrowed := true }
def FoldAgainUptoSaid : Prop := foldAgainUptoRow.holds Tryz.pinned (OpenSpec.upto foldAgainSpec)

/-- 'typebarlaw50.DeltaOf', WHERE WHAT IT READS IS OF BULK AT MOST 1048576: true; the input reads as it did. -/
def deltaOfUptoRow : OpenClaim := { program := "ytijgnoilmmppcaagreat", sum := "38df0a65dd9f9605d5b5611a63d244396043cad9a84eab2d8086e1f3ffa1e9ae", func := "typebar/typebarlaw50.DeltaOf", spec := "deltaOf", unfollowed := true, recurses := true, plainKeys := false, apart := false, narrowed := true }
def DeltaOfUptoSaid : Prop := deltaOfUptoRow.holds Tryz.pinned (OpenSpec.upto deltaOfSpec)

/-- 'typebarlaw50.DeltaLeast', WHERE WHAT IT READS IS OF BULK AT MOST 1048576: true; the input reads as it did. -/
def deltaLeastUptoRow : OpenClaim := { program := "ytijgnoilmmppcaagreat", sum := "38df0a65dd9f9605d5b5611a63d244396043cad9a84eab2d8086e1f3ffa1e9ae", func := "typebar/typebarlaw50.DeltaLeast", spec := "deltaLeast", unfollowed := true, recurses := true, plainKeys := false, apart := false, narrowed := true }
def DeltaLeastUptoSaid : Prop := deltaLeastUptoRow.holds Tryz.pinned (OpenSpec.upto deltaLeastSpec)

/-- 'typebarlaw50.DeltaDoes', WHERE WHAT IT READS IS OF BULK AT MOST 1048576: true; the input reads as it did. -/
def deltaDoesUptoRow : OpenClaim := { program := "ytijgnoilmmppcaagreat", sum := "38df0a65dd9f9605d5b5611a63d244396043cad9a84eab2d8086e1f3ffa1e9ae", func := "typebar/typebarlaw50.DeltaDoes", spec := "deltaDoes", unfollowed := true, recurses := true, plainKeys := false, apart := false, narrowed := true }
def DeltaDoesUptoSaid : Prop := deltaDoesUptoRow.holds Tryz.pinned (OpenSpec.upto deltaDoesSpec)

end Rows
end Go.Proofs.YtijgnoilmmppcaaGreat
