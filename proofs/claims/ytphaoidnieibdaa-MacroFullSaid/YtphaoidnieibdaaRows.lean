/-
  No cell of these rows narrows 'for every input' (looked for: loops, veiled, ifaces, maps, wideKeys, modest, calm, conditions, laid).
  DERIVED. THE GIVEN ROWS OF THIS SEAT. 4 by the template 'for every input the law returns true; each argument reads behind the call as it read before'; 0 by the template 'total and deterministic' (their statements: YtphaoidnieibdaaTotals.lean).
  GIVEN WITH THE SEED: the statements are not yours to turn. If you find one false, say at which input.
  Laid BY PROGRAM, IN A SANDBOX (cutbox-rows.mjs): the forced cells as the released guide's own fill.sh prints them over the translation 270e062adaffa111… (all of the seat's roots in one cut). By AI agents, Wed Nov 11 2026. No macro, syntax, notation, axiom, sorry.
-/
import Derived.Test.YtphaoidnieibdaaChecked
import GoSem.Claim
import GoSem.ClaimJoined
import GoSem.ClaimMapViews
import Derived.JoinedTies
import Derived.KernelRfl
namespace Go.Proofs.Ytphaoidnieibdaa
/- THE CELL 'sum', in the pinned program and in every row, IS THE sha256 OF THE DUMP (.gsa) THAT YtphaoidnieibdaaProg.lean LOADS. Nothing in Lean hashes anything: it is a label: what it is worth is what the hold of that sum in a sandbox is worth. -/
noncomputable def Try.pinned : Pinned := { name := "ytphaoidnieibdaa", sum := "270e062adaffa1119aea4e9039cb2e11ee5c4f094a8e47c3051bb99692284441", checked := Try.checked }
namespace Rows
def none {H : Type} : Left H := { results := [], args := [] }

/-- 'typebarlaw46.MacroGrows': WHATEVER THE INPUT: true; the input reads as it did. -/
def macroGrowsSpec : ChangeSpec := { name := "macroGrows", fn := fun _ => fun
  | [d] => { results := [.lit (.bool true)], args := [d] }
  | _ => none }
def macroGrowsRow : OpenClaim := { program := "ytphaoidnieibdaa", sum := "270e062adaffa1119aea4e9039cb2e11ee5c4f094a8e47c3051bb99692284441", func := "typebar/typebarlaw46.MacroGrows", spec := "macroGrows", inPlace := ["maps.clone"], recurses := true, apart := false }
def MacroGrowsSaid : Prop := macroGrowsRow.holds Try.pinned (OpenSpec.ofChange macroGrowsSpec)

/-- ITS FALSE NEIGHBOUR: 'it returns false'. Refute it at one input. -/
def macroGrowsWrong : ChangeSpec := { name := "macroGrows", fn := fun _ => fun
  | [d] => { results := [.lit (.bool false)], args := [d] }
  | _ => none }
def MacroGrowsWrongFalsely : Prop := macroGrowsRow.holds Try.pinned (OpenSpec.ofChange macroGrowsWrong)

/-- 'typebarlaw46.MacroRecords': WHATEVER THE INPUT: true; the input reads as it did. -/
def macroRecordsSpec : ChangeSpec := { name := "macroRecords", fn := fun _ => fun
  | [d1, d2, d3, d4] => { results := [.lit (.bool true)], args := [d1, d2, d3, d4] }
  | _ => none }
def macroRecordsRow : OpenClaim := { program := "ytphaoidnieibdaa", sum := "270e062adaffa1119aea4e9039cb2e11ee5c4f094a8e47c3051bb99692284441", func := "typebar/typebarlaw46.MacroRecords", spec := "macroRecords", inPlace := ["maps.clone"], recurses := true, apart := false }
def MacroRecordsSaid : Prop := macroRecordsRow.holds Try.pinned (OpenSpec.ofChange macroRecordsSpec)

/-- ITS FALSE NEIGHBOUR: 'it returns false'. Refute it at one input. -/
def macroRecordsWrong : ChangeSpec := { name := "macroRecords", fn := fun _ => fun
  | [d1, d2, d3, d4] => { results := [.lit (.bool false)], args := [d1, d2, d3, d4] }
  | _ => none }
def MacroRecordsWrongFalsely : Prop := macroRecordsRow.holds Try.pinned (OpenSpec.ofChange macroRecordsWrong)

/-- 'typebarlaw46.MacroBooks': WHATEVER THE INPUT: true; the input reads as it did. -/
def macroBooksSpec : ChangeSpec := { name := "macroBooks", fn := fun _ => fun
  | [d] => { results := [.lit (.bool true)], args := [d] }
  | _ => none }
def macroBooksRow : OpenClaim := { program := "ytphaoidnieibdaa", sum := "270e062adaffa1119aea4e9039cb2e11ee5c4f094a8e47c3051bb99692284441", func := "typebar/typebarlaw46.MacroBooks", spec := "macroBooks", inPlace := ["maps.clone"], unfollowed := true, recurses := true, apart := false }
def MacroBooksSaid : Prop := macroBooksRow.holds Try.pinned (OpenSpec.ofChange macroBooksSpec)

/-- ITS FALSE NEIGHBOUR: 'it returns false'. Refute it at one input. -/
def macroBooksWrong : ChangeSpec := { name := "macroBooks", fn := fun _ => fun
  | [d] => { results := [.lit (.bool false)], args := [d] }
  | _ => none }
def MacroBooksWrongFalsely : Prop := macroBooksRow.holds Try.pinned (OpenSpec.ofChange macroBooksWrong)

/-- 'typebarlaw46.MacroFull': WHATEVER THE INPUT: true; the input reads as it did. -/
def macroFullSpec : ChangeSpec := { name := "macroFull", fn := fun _ => fun
  | [d] => { results := [.lit (.bool true)], args := [d] }
  | _ => none }
def macroFullRow : OpenClaim := { program := "ytphaoidnieibdaa", sum := "270e062adaffa1119aea4e9039cb2e11ee5c4f094a8e47c3051bb99692284441", func := "typebar/typebarlaw46.MacroFull", spec := "macroFull", inPlace := ["maps.clone"], unfollowed := true, recurses := true, apart := false }
def MacroFullSaid : Prop := macroFullRow.holds Try.pinned (OpenSpec.ofChange macroFullSpec)

/-- ITS FALSE NEIGHBOUR: 'it returns false'. Refute it at one input. -/
def macroFullWrong : ChangeSpec := { name := "macroFull", fn := fun _ => fun
  | [d] => { results := [.lit (.bool false)], args := [d] }
  | _ => none }
def MacroFullWrongFalsely : Prop := macroFullRow.holds Try.pinned (OpenSpec.ofChange macroFullWrong)

/- THE SECOND FORM. 'bulk': how many values and letters a reading holds, each counted each time it is reached (what is shared counts as often as it is met; a slice's spare places count too). A statement '..UptoSaid' is the law's where the arguments, and the package variables that the reading takes, are together of bulk at most 1048576: NARROWER than '..Said'. Prove '..Said' where nothing that the law and all that it calls make is longer than what came in: it says more and counts as full. Else prove '..UptoSaid'. A law counts once. -/
mutual
def uptoBulk {H : Type} : DataW H → Nat
  | .lit (.string bytes) => bytes.length + 1
  | .lit _ => 1
  | .nil => 1
  | .ptr d => uptoBulk d + 1
  | .slice elems spare => uptoBulkAll elems + uptoBulkAll spare + 1
  | .agg parts => uptoBulkAll parts + 1
  | .iface _ d => uptoBulk d + 1
  | .map entries => uptoBulkEntries entries + 1
  | .held _ => 1
def uptoBulkAll {H : Type} : List (DataW H) → Nat
  | [] => 0
  | d :: r => uptoBulk d + uptoBulkAll r
def uptoBulkEntries {H : Type} : List (Lit × DataW H) → Nat
  | [] => 0
  | x :: r => uptoBulkEntry x + uptoBulkEntries r
def uptoBulkEntry {H : Type} : Lit × DataW H → Nat
  | (.string bytes, d) => bytes.length + uptoBulk d + 1
  | (_, d) => uptoBulk d + 1
 end
def uptoSmall : (H : Type) → List (DataW H) → Bool := fun _ ds => decide (uptoBulkAll ds ≤ 1048576)
def OpenSpec.upto (s : _root_.Go.ChangeSpec) : _root_.Go.OpenSpec := { _root_.Go.OpenSpec.ofChange s with cond := some uptoSmall }

/-- 'typebarlaw46.MacroGrows', WHERE WHAT IT READS IS OF BULK AT MOST 1048576: true; the input reads as it did. -/
def macroGrowsUptoRow : OpenClaim := { program := "ytphaoidnieibdaa", sum := "270e062adaffa1119aea4e9039cb2e11ee5c4f094a8e47c3051bb99692284441", func := "typebar/typebarlaw46.MacroGrows", spec := "macroGrows", inPlace := ["maps.clone"], recurses := true, apart := false, narrowed := true }
def MacroGrowsUptoSaid : Prop := macroGrowsUptoRow.holds Try.pinned (OpenSpec.upto macroGrowsSpec)

/-- 'typebarlaw46.MacroRecords', WHERE WHAT IT READS IS OF BULK AT MOST 1048576: true; the input reads as it did. -/
def macroRecordsUptoRow : OpenClaim := { program := "ytphaoidnieibdaa", sum := "270e062adaffa1119aea4e9039cb2e11ee5c4f094a8e47c3051bb99692284441", func := "typebar/typebarlaw46.MacroRecords", spec := "macroRecords", inPlace := ["maps.clone"], recurses := true, apart := false, narrowed := true }
def MacroRecordsUptoSaid : Prop := macroRecordsUptoRow.holds Try.pinned (OpenSpec.upto macroRecordsSpec)

/-- 'typebarlaw46.MacroBooks', WHERE WHAT IT READS IS OF BULK AT MOST 1048576: true; the input reads as it did. -/
def macroBooksUptoRow : OpenClaim := { program := "ytphaoidnieibdaa", sum := "270e062adaffa1119aea4e9039cb2e11ee5c4f094a8e47c3051bb99692284441", func := "typebar/typebarlaw46.MacroBooks", spec := "macroBooks", inPlace := ["maps.clone"], unfollowed := true, recurses := true, apart := false, narrowed := true }
def MacroBooksUptoSaid : Prop := macroBooksUptoRow.holds Try.pinned (OpenSpec.upto macroBooksSpec)

/-- 'typebarlaw46.MacroFull', WHERE WHAT IT READS IS OF BULK AT MOST 1048576: true; the input reads as it did. -/
def macroFullUptoRow : OpenClaim := { program := "ytphaoidnieibdaa", sum := "270e062adaffa1119aea4e9039cb2e11ee5c4f094a8e47c3051bb99692284441", func := "typebar/typebarlaw46.MacroFull", spec := "macroFull", inPlace := ["maps.clone"], unfollowed := true, recurses := true, apart := false, narrowed := true }
def MacroFullUptoSaid : Prop := macroFullUptoRow.holds Try.pinned (OpenSpec.upto macroFullSpec)

end Rows
end Go.Proofs.Ytphaoidnieibdaa
