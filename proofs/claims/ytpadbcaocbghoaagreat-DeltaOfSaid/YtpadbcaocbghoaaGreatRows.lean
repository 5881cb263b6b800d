/-
  No cell of these rows narrows 'for every input' (looked for: loops, veiled, ifaces, maps, wideKeys, modest, calm, conditions, laid).
  DERIVED. THE GIVEN ROWS OF THIS SEAT. 4 by the template 'for every input the law returns true; each argument reads behind the call as it read before'; 0 by the template 'total and deterministic' (their statements: YtpadbcaocbghoaaGreatTotals.lean).
  GIVEN WITH THE SEED: the statements are not yours to turn. If you find one false, say at which input.
  Laid BY PROGRAM, IN A SANDBOX (cutbox-rows.mjs): the forced cells as the released guide's own fill.sh prints them over the translation a941f5bbbc530cb7… (all of the seat's roots in one cut). By AI agents, Wed Nov 11 2026. No macro, syntax, notation, axiom, sorry.
-/
import Derived.Test.YtpadbcaocbghoaaGreatChecked
import GoSem.Claim
import GoSem.ClaimJoined
import GoSem.ClaimMapViews
import Derived.JoinedTies
import Derived.KernelRfl
namespace Go.Proofs.YtpadbcaocbghoaaGreat
/- THE CELL 'sum', in the pinned program and in every row, IS THE sha256 OF THE DUMP (.gsa) THAT YtpadbcaocbghoaaGreatProg.lean LOADS. Nothing in Lean hashes anything: it is a label: what it is worth is what the hold of that sum in a sandbox is worth. -/
noncomputable def Tryz.pinned : Pinned := { name := "ytpadbcaocbghoaagreat", sum := "a941f5bbbc530cb73bc2d8387dba1bc967b20e97b908968f76cf149ed2029b57", checked := Tryz.checked }
namespace Rows
def none {H : Type} : Left H := { results := [], args := [] }

/-- 'typebarlaw50.DeltaOf': WHATEVER THE INPUT: true; the input reads as it did. -/
def deltaOfSpec : ChangeSpec := { name := "deltaOf", fn := fun _ => fun
  | [d1, d2] => { results := [.lit (.bool true)], args := [d1, d2] }
  | _ => none }
def deltaOfRow : OpenClaim := { program := "ytpadbcaocbghoaagreat", sum := "a941f5bbbc530cb73bc2d8387dba1bc967b20e97b908968f76cf149ed2029b57", func := "typebar/typebarlaw50.DeltaOf", spec := "deltaOf", unfollowed := true, recurses := true, plainKeys := false, apart := false }
def DeltaOfSaid : Prop := deltaOfRow.holds Tryz.pinned (OpenSpec.ofChange deltaOfSpec)

/-- ITS FALSE NEIGHBOUR: 'it returns false'. Refute it at one input. -/
def deltaOfWrong : ChangeSpec := { name := "deltaOf", fn := fun _ => fun
  | [d1, d2] => { results := [.lit (.bool false)], args := [d1, d2] }
  | _ => none }
def DeltaOfWrongFalsely : Prop := deltaOfRow.holds Tryz.pinned (OpenSpec.ofChange deltaOfWrong)

/-- 'typebarlaw50.DeltaLeast': WHATEVER THE INPUT: true; the input reads as it did. -/
def deltaLeastSpec : ChangeSpec := { name := "deltaLeast", fn := fun _ => fun
  | [d1, d2] => { results := [.lit (.bool true)], args := [d1, d2] }
  | _ => none }
def deltaLeastRow : OpenClaim := { program := "ytpadbcaocbghoaagreat", sum := "a941f5bbbc530cb73bc2d8387dba1bc967b20e97b908968f76cf149ed2029b57", func := "typebar/typebarlaw50.DeltaLeast", spec := "deltaLeast", unfollowed := true, recurses := true, plainKeys := false, apart := false }
def DeltaLeastSaid : Prop := deltaLeastRow.holds Tryz.pinned (OpenSpec.ofChange deltaLeastSpec)

/-- ITS FALSE NEIGHBOUR: 'it returns false'. Refute it at one input. -/
def deltaLeastWrong : ChangeSpec := { name := "deltaLeast", fn := fun _ => fun
  | [d1, d2] => { results := [.lit (.bool false)], args := [d1, d2] }
  | _ => none }
def DeltaLeastWrongFalsely : Prop := deltaLeastRow.holds Tryz.pinned (OpenSpec.ofChange deltaLeastWrong)

/-- 'typebarlaw43.GlobParses': WHATEVER THE INPUT: true; the input reads as it did. -/
def globParsesSpec : ChangeSpec := { name := "globParses", fn := fun _ => fun
  | [d] => { results := [.lit (.bool true)], args := [d] }
  | _ => none }
def globParsesRow : OpenClaim := { program := "ytpadbcaocbghoaagreat", sum := "a941f5bbbc530cb73bc2d8387dba1bc967b20e97b908968f76cf149ed2029b57", func := "typebar/typebarlaw43.GlobParses", spec := "globParses", unfollowed := true, recurses := true, plainKeys := false, apart := false }
def GlobParsesSaid : Prop := globParsesRow.holds Tryz.pinned (OpenSpec.ofChange globParsesSpec)

/-- ITS FALSE NEIGHBOUR: 'it returns false'. Refute it at one input. -/
def globParsesWrong : ChangeSpec := { name := "globParses", fn := fun _ => fun
  | [d] => { results := [.lit (.bool false)], args := [d] }
  | _ => none }
def GlobParsesWrongFalsely : Prop := globParsesRow.holds Tryz.pinned (OpenSpec.ofChange globParsesWrong)

/-- 'typebarlaw50.DeltaDoes': WHATEVER THE INPUT: true; the input reads as it did. -/
def deltaDoesSpec : ChangeSpec := { name := "deltaDoes", fn := fun _ => fun
  | [d1, d2] => { results := [.lit (.bool true)], args := [d1, d2] }
  | _ => none }
def deltaDoesRow : OpenClaim := { program := "ytpadbcaocbghoaagreat", sum := "a941f5bbbc530cb73bc2d8387dba1bc967b20e97b908968f76cf149ed2029b57", func := "typebar/typebarlaw50.DeltaDoes", spec := "deltaDoes", unfollowed := true, recurses := true, plainKeys := false, apart := false }
def DeltaDoesSaid : Prop := deltaDoesRow.holds Tryz.pinned (OpenSpec.ofChange deltaDoesSpec)

/-- ITS FALSE NEIGHBOUR: 'it returns false'. Refute it at one input. -/
def deltaDoesWrong : ChangeSpec := { name := "deltaDoes", fn := fun _ => fun
  | [d1, d2] => { results := [.lit (.bool false)], args := [d1, d2] }
  | _ => none }
def DeltaDoesWrongFalsely : Prop := deltaDoesRow.holds Tryz.pinned (OpenSpec.ofChange deltaDoesWrong)

/- THE SECOND FORM. 'bulk': how many values and letters a reading holds, each counted each time it is reached (what is shared counts as often as it is met; a slice's spare places count too). A statement '..UptoSaid' is the law's where the arguments, and the package variables that the reading takes, are together of bulk at most 1048576: NARROWER than '..Said'. Prove '..Said' where nothing that the law and all that it calls make is longer than what came in: it says more and counts as full. Else prove '..UptoSaid'. A law counts once. -/
mutual
def uptoBulk {H : Type} : DataW H → Nat
  | .lit (.string bytes) => bytes.length + 1
  | .lit _ => 1
  | .nil => 1
  | .ptr d => uptoBulk d + 1
  | .slice elems spare => uptoBulkAll elems + uptoBulkAll spare + 1
  | .agg parts => uptoBulkAll parts + 1
  | .iface _ d => uptoBulk d + 1
  | .map entries => uptoBulkEntries entries + 1
  | .held _ => 1
def uptoBulkAll {H : Type} : List (DataW H) → Nat
  | [] => 0
  | d :: r => uptoBulk d + uptoBulkAll r
def uptoBulkEntries {H : Type} : List (Lit × DataW H) → Nat
  | [] => 0
  | x :: r => uptoBulkEntry x + uptoBulkEntries r
def uptoBulkEntry {H : Type} : Lit × DataW H → Nat
  | (.string bytes, d) => bytes.length + uptoBulk d + 1
  | (_, d) => uptoBulk d + 1
 end
def uptoSmall : (H : Type) → List (DataW H) → Bool := fun _ ds => decide (uptoBulkAll ds ≤ 1048576)
def OpenSpec.upto (s : _root_.Go.ChangeSpec) : _root_.Go.OpenSpec := { _root_.Go.OpenSpec.ofChange s with cond := some uptoSmall }

/-- 'typebarlaw50.DeltaOf', WHERE WHAT IT READS IS OF BULK AT MOST 1048576: true; the input reads as it did. -/
def deltaOfUptoRow : OpenClaim := { program := "ytpadbcaocbghoaagreat", sum := "a941f5bbbc530cb73bc2d8387dba1bc967b20e97b908968f76cf149ed2029b57", func := "typebar/typebarlaw50.DeltaOf", spec := "deltaOf", unfollowed := true, recurses := true, plainKeys := false, apart := false, narrowed := true }
def DeltaOfUptoSaid : Prop := deltaOfUptoRow.holds Tryz.pinned (OpenSpec.upto deltaOfSpec)

/-- 'typebarlaw50.DeltaLeast', WHERE WHAT IT READS IS OF BULK AT MOST 1048576: true; the input reads as it did. -/
def deltaLeastUptoRow : OpenClaim := { program := "ytpadbcaocbghoaagreat", sum := "a941f5bbbc530cb73bc2d8387dba1bc967b20e97b908968f76cf149ed2029b57", func := "typebar/typebarlaw50.DeltaLeast", spec := "deltaLeast", unfollowed := true, recurses := true, plainKeys := false, apart := false, narrowed := true }
def DeltaLeastUptoSaid : Prop := deltaLeastUptoRow.holds Tryz.pinned (OpenSpec.upto deltaLeastSpec)

/-- 'typebarlaw43.GlobParses', WHERE WHAT IT READS IS OF BULK AT MOST 1048576: true; the input reads as it did. -/
def globParsesUptoRow : OpenClaim := { program := "ytpadbcaocbghoaagreat", sum := "a941f5bbbc530cb73bc2d8387dba1bc967b20e97b908968f76cf149ed2029b57", func := "typebar/typebarlaw43.GlobParses", spec := "globParses", unfollowed := true, recurses := true, plainKeys := false, apart := false, narrowed := true }
def GlobParsesUptoSaid : Prop := globParsesUptoRow.holds Tryz.pinned (OpenSpec.upto globParsesSpec)

/-- 'typebarlaw50.DeltaDoes', WHERE WHAT IT READS IS OF BULK AT MOST 1048576: true; the input reads as it did. -/
def deltaDoesUptoRow : OpenClaim := { program := "ytpadbcaocbghoaagreat", sum := "a941f5bbbc530cb73bc2d8387dba1bc967b20e97b908968f76cf149ed2029b57", func := "typebar/typebarlaw50.DeltaDoes", spec := "deltaDoes", unfollowed := true, recurses := true, plainKeys := false, apart := false, narrowed := true }
def DeltaDoesUptoSaid : Prop := deltaDoesUptoRow.holds Tryz.pinned (OpenSpec.upto deltaDoesSpec)

end Rows
end Go.Proofs.YtpadbcaocbghoaaGreat
