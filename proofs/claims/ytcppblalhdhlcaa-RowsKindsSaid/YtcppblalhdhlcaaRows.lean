/-
  No cell of these rows narrows 'for every input' (looked for: loops, veiled, ifaces, maps, wideKeys, modest, calm, conditions, laid).
  DERIVED. THE GIVEN ROWS OF THIS SEAT. 12 by the template 'for every input the law returns true; each argument reads behind the call as it read before'; 0 by the template 'total and deterministic' (their statements: YtcppblalhdhlcaaTotals.lean).
  GIVEN WITH THE SEED: the statements are not yours to turn. If you find one false, say at which input.
  Laid BY PROGRAM, IN A SANDBOX (cutbox-rows.mjs): the forced cells as the released guide's own fill.sh prints them over the translation 00ac491224a097f7… (all of the seat's roots in one cut). By AI agents, Wed Nov 11 2026. No macro, syntax, notation, axiom, sorry.
-/
import Derived.Test.YtcppblalhdhlcaaChecked
import GoSem.Claim
import GoSem.ClaimJoined
import GoSem.ClaimMapViews
import Derived.JoinedTies
import Derived.KernelRfl
namespace Go.Proofs.Ytcppblalhdhlcaa
/- THE CELL 'sum', in the pinned program and in every row, IS THE sha256 OF THE DUMP (.gsa) THAT YtcppblalhdhlcaaProg.lean LOADS. Nothing in Lean hashes anything: it is a label: what it is worth is what the hold of that sum in a sandbox is worth. -/
noncomputable def Try.pinned : Pinned := { name := "ytcppblalhdhlcaa", sum := "00ac491224a097f722e92de9302eaa370ec5f291c1ff2631f4bc97f36552c426", checked := Try.checked }
namespace Rows
def none {H : Type} : Left H := { results := [], args := [] }

/-- 'typebarlaw16.ShiftDoes': WHATEVER THE INPUT: true; the input reads as it did. -/
def shiftDoesSpec : ChangeSpec := { name := "shiftDoes", fn := fun _ => fun
  | [d1, d2] => { results := [.lit (.bool true)], args := [d1, d2] }
  | _ => none }
def shiftDoesRow : OpenClaim := { program := "ytcppblalhdhlcaa", sum := "00ac491224a097f722e92de9302eaa370ec5f291c1ff2631f4bc97f36552c426", func := "typebar/typebarlaw16.ShiftDoes", spec := "shiftDoes", plainKeys := false, apart := false }
def ShiftDoesSaid : Prop := shiftDoesRow.holds Try.pinned (OpenSpec.ofChange shiftDoesSpec)

/-- ITS FALSE NEIGHBOUR: 'it returns false'. Refute it at one input. -/
def shiftDoesWrong : ChangeSpec := { name := "shiftDoes", fn := fun _ => fun
  | [d1, d2] => { results := [.lit (.bool false)], args := [d1, d2] }
  | _ => none }
def ShiftDoesWrongFalsely : Prop := shiftDoesRow.holds Try.pinned (OpenSpec.ofChange shiftDoesWrong)

/-- 'typebarlaw46.MacroGrows': WHATEVER THE INPUT: true; the input reads as it did. -/
def macroGrowsSpec : ChangeSpec := { name := "macroGrows", fn := fun _ => fun
  | [d] => { results := [.lit (.bool true)], args := [d] }
  | _ => none }
def macroGrowsRow : OpenClaim := { program := "ytcppblalhdhlcaa", sum := "00ac491224a097f722e92de9302eaa370ec5f291c1ff2631f4bc97f36552c426", func := "typebar/typebarlaw46.MacroGrows", spec := "macroGrows", inPlace := ["maps.clone"], recurses := true, plainKeys := false, apart := false }
def MacroGrowsSaid : Prop := macroGrowsRow.holds Try.pinned (OpenSpec.ofChange macroGrowsSpec)

/-- ITS FALSE NEIGHBOUR: 'it returns false'. Refute it at one input. -/
def macroGrowsWrong : ChangeSpec := { name := "macroGrows", fn := fun _ => fun
  | [d] => { results := [.lit (.bool false)], args := [d] }
  | _ => none }
def MacroGrowsWrongFalsely : Prop := macroGrowsRow.holds Try.pinned (OpenSpec.ofChange macroGrowsWrong)

/-- 'typebarlaw46.MacroRecords': WHATEVER THE INPUT: true; the input reads as it did. -/
def macroRecordsSpec : ChangeSpec := { name := "macroRecords", fn := fun _ => fun
  | [d1, d2, d3, d4] => { results := [.lit (.bool true)], args := [d1, d2, d3, d4] }
  | _ => none }
def macroRecordsRow : OpenClaim := { program := "ytcppblalhdhlcaa", sum := "00ac491224a097f722e92de9302eaa370ec5f291c1ff2631f4bc97f36552c426", func := "typebar/typebarlaw46.MacroRecords", spec := "macroRecords", inPlace := ["maps.clone"], recurses := true, plainKeys := false, apart := false }
def MacroRecordsSaid : Prop := macroRecordsRow.holds Try.pinned (OpenSpec.ofChange macroRecordsSpec)

/-- ITS FALSE NEIGHBOUR: 'it returns false'. Refute it at one input. -/
def macroRecordsWrong : ChangeSpec := { name := "macroRecords", fn := fun _ => fun
  | [d1, d2, d3, d4] => { results := [.lit (.bool false)], args := [d1, d2, d3, d4] }
  | _ => none }
def MacroRecordsWrongFalsely : Prop := macroRecordsRow.holds Try.pinned (OpenSpec.ofChange macroRecordsWrong)

/-- 'typebarlaw02.RowsOrder': WHATEVER THE INPUT: true; the input reads as it did. -/
def rowsOrderSpec : ChangeSpec := { name := "rowsOrder", fn := fun _ => fun
  | [d1, d2] => { results := [.lit (.bool true)], args := [d1, d2] }
  | _ => none }
def rowsOrderRow : OpenClaim := { program := "ytcppblalhdhlcaa", sum := "00ac491224a097f722e92de9302eaa370ec5f291c1ff2631f4bc97f36552c426", func := "typebar/typebarlaw02.RowsOrder", spec := "rowsOrder", unfollowed := true, recurses := true, plainKeys := false, apart := false }
def RowsOrderSaid : Prop := rowsOrderRow.holds Try.pinned (OpenSpec.ofChange rowsOrderSpec)

/-- ITS FALSE NEIGHBOUR: 'it returns false'. Refute it at one input. -/
def rowsOrderWrong : ChangeSpec := { name := "rowsOrder", fn := fun _ => fun
  | [d1, d2] => { results := [.lit (.bool false)], args := [d1, d2] }
  | _ => none }
def RowsOrderWrongFalsely : Prop := rowsOrderRow.holds Try.pinned (OpenSpec.ofChange rowsOrderWrong)

/-- 'typebarlaw02.RowsSpans': WHATEVER THE INPUT: true; the input reads as it did. -/
def rowsSpansSpec : ChangeSpec := { name := "rowsSpans", fn := fun _ => fun
  | [d1, d2] => { results := [.lit (.bool true)], args := [d1, d2] }
  | _ => none }
def rowsSpansRow : OpenClaim := { program := "ytcppblalhdhlcaa", sum := "00ac491224a097f722e92de9302eaa370ec5f291c1ff2631f4bc97f36552c426", func := "typebar/typebarlaw02.RowsSpans", spec := "rowsSpans", unfollowed := true, recurses := true, plainKeys := false, apart := false }
def RowsSpansSaid : Prop := rowsSpansRow.holds Try.pinned (OpenSpec.ofChange rowsSpansSpec)

/-- ITS FALSE NEIGHBOUR: 'it returns false'. Refute it at one input. -/
def rowsSpansWrong : ChangeSpec := { name := "rowsSpans", fn := fun _ => fun
  | [d1, d2] => { results := [.lit (.bool false)], args := [d1, d2] }
  | _ => none }
def RowsSpansWrongFalsely : Prop := rowsSpansRow.holds Try.pinned (OpenSpec.ofChange rowsSpansWrong)

/-- 'typebarlaw46.MacroBooks': WHATEVER THE INPUT: true; the input reads as it did. -/
def macroBooksSpec : ChangeSpec := { name := "macroBooks", fn := fun _ => fun
  | [d] => { results := [.lit (.bool true)], args := [d] }
  | _ => none }
def macroBooksRow : OpenClaim := { program := "ytcppblalhdhlcaa", sum := "00ac491224a097f722e92de9302eaa370ec5f291c1ff2631f4bc97f36552c426", func := "typebar/typebarlaw46.MacroBooks", spec := "macroBooks", inPlace := ["maps.clone"], unfollowed := true, recurses := true, plainKeys := false, apart := false }
def MacroBooksSaid : Prop := macroBooksRow.holds Try.pinned (OpenSpec.ofChange macroBooksSpec)

/-- ITS FALSE NEIGHBOUR: 'it returns false'. Refute it at one input. -/
def macroBooksWrong : ChangeSpec := { name := "macroBooks", fn := fun _ => fun
  | [d] => { results := [.lit (.bool false)], args := [d] }
  | _ => none }
def MacroBooksWrongFalsely : Prop := macroBooksRow.holds Try.pinned (OpenSpec.ofChange macroBooksWrong)

/-- 'typebarlaw46.MacroFull': WHATEVER THE INPUT: true; the input reads as it did. -/
def macroFullSpec : ChangeSpec := { name := "macroFull", fn := fun _ => fun
  | [d] => { results := [.lit (.bool true)], args := [d] }
  | _ => none }
def macroFullRow : OpenClaim := { program := "ytcppblalhdhlcaa", sum := "00ac491224a097f722e92de9302eaa370ec5f291c1ff2631f4bc97f36552c426", func := "typebar/typebarlaw46.MacroFull", spec := "macroFull", inPlace := ["maps.clone"], unfollowed := true, recurses := true, plainKeys := false, apart := false }
def MacroFullSaid : Prop := macroFullRow.holds Try.pinned (OpenSpec.ofChange macroFullSpec)

/-- ITS FALSE NEIGHBOUR: 'it returns false'. Refute it at one input. -/
def macroFullWrong : ChangeSpec := { name := "macroFull", fn := fun _ => fun
  | [d] => { results := [.lit (.bool false)], args := [d] }
  | _ => none }
def MacroFullWrongFalsely : Prop := macroFullRow.holds Try.pinned (OpenSpec.ofChange macroFullWrong)

/-- 'typebarlaw02.RowsAt': WHATEVER THE INPUT: true; the input reads as it did. -/
def rowsAtSpec : ChangeSpec := { name := "rowsAt", fn := fun _ => fun
  | [d1, d2] => { results := [.lit (.bool true)], args := [d1, d2] }
  | _ => none }
def rowsAtRow : OpenClaim := { program := "ytcppblalhdhlcaa", sum := "00ac491224a097f722e92de9302eaa370ec5f291c1ff2631f4bc97f36552c426", func := "typebar/typebarlaw02.RowsAt", spec := "rowsAt", unfollowed := true, recurses := true, plainKeys := false, apart := false }
def RowsAtSaid : Prop := rowsAtRow.holds Try.pinned (OpenSpec.ofChange rowsAtSpec)

/-- ITS FALSE NEIGHBOUR: 'it returns false'. Refute it at one input. -/
def rowsAtWrong : ChangeSpec := { name := "rowsAt", fn := fun _ => fun
  | [d1, d2] => { results := [.lit (.bool false)], args := [d1, d2] }
  | _ => none }
def RowsAtWrongFalsely : Prop := rowsAtRow.holds Try.pinned (OpenSpec.ofChange rowsAtWrong)

/-- 'typebarlaw02.RowsKinds': WHATEVER THE INPUT: true; the input reads as it did. -/
def rowsKindsSpec : ChangeSpec := { name := "rowsKinds", fn := fun _ => fun
  | [d] => { results := [.lit (.bool true)], args := [d] }
  | _ => none }
def rowsKindsRow : OpenClaim := { program := "ytcppblalhdhlcaa", sum := "00ac491224a097f722e92de9302eaa370ec5f291c1ff2631f4bc97f36552c426", func := "typebar/typebarlaw02.RowsKinds", spec := "rowsKinds", unfollowed := true, recurses := true, plainKeys := false, apart := false }
def RowsKindsSaid : Prop := rowsKindsRow.holds Try.pinned (OpenSpec.ofChange rowsKindsSpec)

/-- ITS FALSE NEIGHBOUR: 'it returns false'. Refute it at one input. -/
def rowsKindsWrong : ChangeSpec := { name := "rowsKinds", fn := fun _ => fun
  | [d] => { results := [.lit (.bool false)], args := [d] }
  | _ => none }
def RowsKindsWrongFalsely : Prop := rowsKindsRow.holds Try.pinned (OpenSpec.ofChange rowsKindsWrong)

/-- 'typebarlaw08.QuickOf': WHATEVER THE INPUT: true; the input reads as it did. -/
def quickOfSpec : ChangeSpec := { name := "quickOf", fn := fun _ => fun
  | [d] => { results := [.lit (.bool true)], args := [d] }
  | _ => none }
def quickOfRow : OpenClaim := { program := "ytcppblalhdhlcaa", sum := "00ac491224a097f722e92de9302eaa370ec5f291c1ff2631f4bc97f36552c426", func := "typebar/typebarlaw08.QuickOf", spec := "quickOf", unfollowed := true, recurses := true, plainKeys := false, apart := false }
def QuickOfSaid : Prop := quickOfRow.holds Try.pinned (OpenSpec.ofChange quickOfSpec)

/-- ITS FALSE NEIGHBOUR: 'it returns false'. Refute it at one input. -/
def quickOfWrong : ChangeSpec := { name := "quickOf", fn := fun _ => fun
  | [d] => { results := [.lit (.bool false)], args := [d] }
  | _ => none }
def QuickOfWrongFalsely : Prop := quickOfRow.holds Try.pinned (OpenSpec.ofChange quickOfWrong)

/-- 'typebarlaw08.QuickCheck': WHATEVER THE INPUT: true; the input reads as it did. -/
def quickCheckSpec : ChangeSpec := { name := "quickCheck", fn := fun _ => fun
  | [d] => { results := [.lit (.bool true)], args := [d] }
  | _ => none }
def quickCheckRow : OpenClaim := { program := "ytcppblalhdhlcaa", sum := "00ac491224a097f722e92de9302eaa370ec5f291c1ff2631f4bc97f36552c426", func := "typebar/typebarlaw08.QuickCheck", spec := "quickCheck", unfollowed := true, recurses := true, plainKeys := false, apart := false }
def QuickCheckSaid : Prop := quickCheckRow.holds Try.pinned (OpenSpec.ofChange quickCheckSpec)

/-- ITS FALSE NEIGHBOUR: 'it returns false'. Refute it at one input. -/
def quickCheckWrong : ChangeSpec := { name := "quickCheck", fn := fun _ => fun
  | [d] => { results := [.lit (.bool false)], args := [d] }
  | _ => none }
def QuickCheckWrongFalsely : Prop := quickCheckRow.holds Try.pinned (OpenSpec.ofChange quickCheckWrong)

/-- 'typebarlaw08.QuickPoints': WHATEVER THE INPUT: true; the input reads as it did. -/
def quickPointsSpec : ChangeSpec := { name := "quickPoints", fn := fun _ => fun
  | [d] => { results := [.lit (.bool true)], args := [d] }
  | _ => none }
def quickPointsRow : OpenClaim := { program := "ytcppblalhdhlcaa", sum := "00ac491224a097f722e92de9302eaa370ec5f291c1ff2631f4bc97f36552c426", func := "typebar/typebarlaw08.QuickPoints", spec := "quickPoints", unfollowed := true, recurses := true, plainKeys := false, apart := false }
def QuickPointsSaid : Prop := quickPointsRow.holds Try.pinned (OpenSpec.ofChange quickPointsSpec)

/-- ITS FALSE NEIGHBOUR: 'it returns false'. Refute it at one input. -/
def quickPointsWrong : ChangeSpec := { name := "quickPoints", fn := fun _ => fun
  | [d] => { results := [.lit (.bool false)], args := [d] }
  | _ => none }
def QuickPointsWrongFalsely : Prop := quickPointsRow.holds Try.pinned (OpenSpec.ofChange quickPointsWrong)

/- THE SECOND FORM. 'bulk': how many values and letters a reading holds, each counted each time it is reached (what is shared counts as often as it is met; a slice's spare places count too). A statement '..UptoSaid' is the law's where the arguments, and the package variables that the reading takes, are together of bulk at most 1048576: NARROWER than '..Said'. Prove '..Said' where nothing that the law and all that it calls make is longer than what came in: it says more and counts as full. Else prove '..UptoSaid'. A law counts once. -/
mutual
def uptoBulk {H : Type} : DataW H → Nat
  | .lit (.string bytes) => bytes.length + 1
  | .lit _ => 1
  | .nil => 1
  | .ptr d => uptoBulk d + 1
  | .slice elems spare => uptoBulkAll elems + uptoBulkAll spare + 1
  | .agg parts => uptoBulkAll parts + 1
  | .iface _ d => uptoBulk d + 1
  | .map entries => uptoBulkEntries entries + 1
  | .held _ => 1
def uptoBulkAll {H : Type} : List (DataW H) → Nat
  | [] => 0
  | d :: r => uptoBulk d + uptoBulkAll r
def uptoBulkEntries {H : Type} : List (Lit × DataW H) → Nat
  | [] => 0
  | x :: r => uptoBulkEntry x + uptoBulkEntries r
def uptoBulkEntry {H : Type} : Lit × DataW H → Nat
  | (.string bytes, d) => bytes.length + uptoBulk d + 1
  | (_, d) => uptoBulk d + 1
 end
def uptoSmall : (H : Type) → List (DataW H) → Bool := fun _ ds => decide (uptoBulkAll ds ≤ 1048576)
def OpenSpec.upto (s : _root_.Go.ChangeSpec) : _root_.Go.OpenSpec := { _root_.Go.OpenSpec.ofChange s with cond := some uptoSmall }

/-- 'typebarlaw16.ShiftDoes', WHERE WHAT IT READS IS OF BULK AT MOST 1048576: true; the input reads as it did. -/
def shiftDoesUptoRow : OpenClaim := { program := "ytcppblalhdhlcaa", sum := "00ac491224a097f722e92de9302eaa370ec5f291c1ff2631f4bc97f36552c426", func := "typebar/typebarlaw16.ShiftDoes", spec := "shiftDoes", plainKeys := false, apart := false, narrowed := true }
def ShiftDoesUptoSaid : Prop := shiftDoesUptoRow.holds Try.pinned (OpenSpec.upto shiftDoesSpec)

/-- 'typebarlaw46.MacroGrows', WHERE WHAT IT READS IS OF BULK AT MOST 1048576: true; the input reads as it did. -/
def macroGrowsUptoRow : OpenClaim := { program := "ytcppblalhdhlcaa", sum := "00ac491224a097f722e92de9302eaa370ec5f291c1ff2631f4bc97f36552c426", func := "typebar/typebarlaw46.MacroGrows", spec := "macroGrows", inPlace := ["maps.clone"], recurses := true, plainKeys := false, apart := false, narrowed := true }
def MacroGrowsUptoSaid : Prop := macroGrowsUptoRow.holds Try.pinned (OpenSpec.upto macroGrowsSpec)

/-- 'typebarlaw46.MacroRecords', WHERE WHAT IT READS IS OF BULK AT MOST 1048576: true; the input reads as it did. -/
def macroRecordsUptoRow : OpenClaim := { program := "ytcppblalhdhlcaa", sum := "00ac491224a097f722e92de9302eaa370ec5f291c1ff2631f4bc97f36552c426", func := "typebar/typebarlaw46.MacroRecords", spec := "macroRecords", inPlace := ["maps.clone"], recurses := true, plainKeys := false, apart := false, narrowed := true }
def MacroRecordsUptoSaid : Prop := macroRecordsUptoRow.holds Try.pinned (OpenSpec.upto macroRecordsSpec)

/-- 'typebarlaw02.RowsOrder', WHERE WHAT IT READS IS OF BULK AT MOST 1048576: true; the input reads as it did. -/
def rowsOrderUptoRow : OpenClaim := { program := "ytcppblalhdhlcaa", sum := "00ac491224a097f722e92de9302eaa370ec5f291c1ff2631f4bc97f36552c426", func := "typebar/typebarlaw02.RowsOrder", spec := "rowsOrder", unfollowed := true, recurses := true, plainKeys := false, apart := false, narrowed := true }
def RowsOrderUptoSaid : Prop := rowsOrderUptoRow.holds Try.pinned (OpenSpec.upto rowsOrderSpec)

/-- 'typebarlaw02.RowsSpans', WHERE WHAT IT READS IS OF BULK AT MOST 1048576: true; the input reads as it did. -/
def rowsSpansUptoRow : OpenClaim := { program := "ytcppblalhdhlcaa", sum := "00ac491224a097f722e92de9302eaa370ec5f291c1ff2631f4bc97f36552c426", func := "typebar/typebarlaw02.RowsSpans", spec := "rowsSpans", unfollowed := true, recurses := true, plainKeys := false, apart := false, narrowed := true }
def RowsSpansUptoSaid : Prop := rowsSpansUptoRow.holds Try.pinned (OpenSpec.upto rowsSpansSpec)

/-- 'typebarlaw46.MacroBooks', WHERE WHAT IT READS IS OF BULK AT MOST 1048576: true; the input reads as it did. -/
def macroBooksUptoRow : OpenClaim := { program := "ytcppblalhdhlcaa", sum := "00ac491224a097f722e92de9302eaa370ec5f291c1ff2631f4bc97f36552c426", func := "typebar/typebarlaw46.MacroBooks", spec := "macroBooks", inPlace := ["maps.clone"], unfollowed := true, recurses := true, plainKeys := false, apart := false, narrowed := true }
def MacroBooksUptoSaid : Prop := macroBooksUptoRow.holds Try.pinned (OpenSpec.upto macroBooksSpec)

/-- 'typebarlaw46.MacroFull', WHERE WHAT IT READS IS OF BULK AT MOST 1048576: true; the input reads as it did. -/
def macroFullUptoRow : OpenClaim := { program := "ytcppblalhdhlcaa", sum := "00ac491224a097f722e92de9302eaa370ec5f291c1ff2631f4bc97f36552c426", func := "typebar/typebarlaw46.MacroFull", spec := "macroFull", inPlace := ["maps.clone"], unfollowed := true, recurses := true, plainKeys := false, apart := false, narrowed := true }
def MacroFullUptoSaid : Prop := macroFullUptoRow.holds Try.pinned (OpenSpec.upto macroFullSpec)

/-- 'typebarlaw02.RowsAt', WHERE WHAT IT READS IS OF BULK AT MOST 1048576: true; the input reads as it did. -/
def rowsAtUptoRow : OpenClaim := { program := "ytcppblalhdhlcaa", sum := "00ac491224a097f722e92de9302eaa370ec5f291c1ff2631f4bc97f36552c426", func := "typebar/typebarlaw02.RowsAt", spec := "rowsAt", unfollowed := true, recurses := true, plainKeys := false, apart := false, narrowed := true }
def RowsAtUptoSaid : Prop := rowsAtUptoRow.holds Try.pinned (OpenSpec.upto rowsAtSpec)

/-- 'typebarlaw02.RowsKinds', WHERE WHAT IT READS IS OF BULK AT MOST 1048576: true; the input reads as it did. -/
def rowsKindsUptoRow : OpenClaim := { program := "ytcppblalhdhlcaa", sum := "00ac491224a097f722e92de9302eaa370ec5f291c1ff2631f4bc97f36552c426", func := "typebar/typebarlaw02.RowsKinds", spec := "rowsKinds", unfollowed := true, recurses := true, plainKeys := false, apart := false, narrowed := true }
def RowsKindsUptoSaid : Prop := rowsKindsUptoRow.holds Try.pinned (OpenSpec.upto rowsKindsSpec)

/-- 'typebarlaw08.QuickOf', WHERE WHAT IT READS IS OF BULK AT MOST 1048576: true; the input reads as it did. -/
def quickOfUptoRow : OpenClaim := { program := "ytcppblalhdhlcaa", sum := "00ac491224a097f722e92de9302eaa370ec5f291c1ff2631f4bc97f36552c426", func := "typebar/typebarlaw08.QuickOf", spec := "quickOf", unfollowed := true, recurses := true, plainKeys := false, apart := false, narrowed := true }
def QuickOfUptoSaid : Prop := quickOfUptoRow.holds Try.pinned (OpenSpec.upto quickOfSpec)

/-- 'typebarlaw08.QuickCheck', WHERE WHAT IT READS IS OF BULK AT MOST 1048576: true; the input reads as it did. -/
def quickCheckUptoRow : OpenClaim := { program := "ytcppblalhdhlcaa", sum := "00ac491224a097f722e92de9302eaa370ec5f291c1ff2631f4bc97f36552c426", func := "typebar/typebarlaw08.QuickCheck", spec := "quickCheck", unfollowed := true, recurses := true, plainKeys := false, apart := false, narrowed := true }
def QuickCheckUptoSaid : Prop := quickCheckUptoRow.holds Try.pinned (OpenSpec.upto quickCheckSpec)

/-- 'typebarlaw08.QuickPoints', WHERE WHAT IT READS IS OF BULK AT MOST 1048576: true; the input reads as it did. -/
def quickPointsUptoRow : OpenClaim := { program := "ytcppblalhdhlcaa", sum := "00ac491224a097f722e92de9302eaa370ec5f291c1ff2631f4bc97f36552c426", func := "typebar/typebarlaw08.QuickPoints", spec := "quickPoints", unfollowed := true, recurses := true, plainKeys := false, apart := false, narrowed := true }
def QuickPointsUptoSaid : Prop := quickPointsUptoRow.holds Try.pinned (OpenSpec.upto quickPointsSpec)

end Rows
end Go.Proofs.Ytcppblalhdhlcaa
