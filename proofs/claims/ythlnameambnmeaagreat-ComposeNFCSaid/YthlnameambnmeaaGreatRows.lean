/-
  No cell of these rows narrows 'for every input' (looked for: loops, veiled, ifaces, maps, wideKeys, modest, calm, conditions, laid).
  DERIVED. THE GIVEN ROWS OF THIS SEAT. 2 by the template 'for every input the law returns true; each argument reads behind the call as it read before'; 0 by the template 'total and deterministic' (their statements: YthlnameambnmeaaGreatTotals.lean).
  GIVEN WITH THE SEED: the statements are not yours to turn. If you find one false, say at which input.
  Laid BY PROGRAM, IN A SANDBOX (cutbox-rows.mjs): the forced cells as the released guide's own fill.sh prints them over the translation ed9c29e113a698f5… (all of the seat's roots in one cut). By AI agents, Wed Nov 11 2026. No macro, syntax, notation, axiom, sorry.
-/
import Derived.Test.YthlnameambnmeaaGreatChecked
import GoSem.Claim
import GoSem.ClaimJoined
import GoSem.ClaimMapViews
import Derived.JoinedTies
import Derived.KernelRfl
namespace Go.Proofs.YthlnameambnmeaaGreat
/- THE CELL 'sum', in the pinned program and in every row, IS THE sha256 OF THE DUMP (.gsa) THAT YthlnameambnmeaaGreatProg.lean LOADS. Nothing in Lean hashes anything: it is a label: what it is worth is what the hold of that sum in a sandbox is worth. -/
noncomputable def Tryz.pinned : Pinned := { name := "ythlnameambnmeaagreat", sum := "ed9c29e113a698f5d2a8afcfe876d187c4af714344cae548a7b024237434abdf", checked := Tryz.checked }
namespace Rows
def none {H : Type} : Left H := { results := [], args := [] }

/-- 'typebarlaw07.ComposePuts': WHATEVER THE INPUT: true; the input reads as it did. -/
def composePutsSpec : ChangeSpec := { name := "composePuts", fn := fun _ => fun
  | [d] => { results := [.lit (.bool true)], args := [d] }
  | _ => none }
def composePutsRow : OpenClaim := { program := "ythlnameambnmeaagreat", sum := "ed9c29e113a698f5d2a8afcfe876d187c4af714344cae548a7b024237434abdf", func := "typebar/typebarlaw07.ComposePuts", spec := "composePuts", unfollowed := true, recurses := true, plainKeys := false, apart := false }
def ComposePutsSaid : Prop := composePutsRow.holds Tryz.pinned (OpenSpec.ofChange composePutsSpec)

/-- ITS FALSE NEIGHBOUR: 'it returns false'. Refute it at one input. -/
def composePutsWrong : ChangeSpec := { name := "composePuts", fn := fun _ => fun
  | [d] => { results := [.lit (.bool false)], args := [d] }
  | _ => none }
def ComposePutsWrongFalsely : Prop := composePutsRow.holds Tryz.pinned (OpenSpec.ofChange composePutsWrong)

/-- 'typebarlaw07.ComposeNFC': WHATEVER THE INPUT: true; the input reads as it did. -/
def composeNFCSpec : ChangeSpec := { name := "composeNFC", fn := fun _ => fun
  | [d] => { results := [.lit (.bool true)], args := [d] }
  | _ => none }
def composeNFCRow : OpenClaim := { program := "ythlnameambnmeaagreat", sum := "ed9c29e113a698f5d2a8afcfe876d187c4af714344cae548a7b024237434abdf", func := "typebar/typebarlaw07.ComposeNFC", spec := "composeNFC", unfollowed := true, recurses := true, plainKeys := false, apart := false }
def ComposeNFCSaid : Prop := composeNFCRow.holds Tryz.pinned (OpenSpec.ofChange composeNFCSpec)

/-- ITS FALSE NEIGHBOUR: 'it returns false'. Refute it at one input. -/
def composeNFCWrong : ChangeSpec := { name := "composeNFC", fn := fun _ => fun
  | [d] => { results := [.lit (.bool false)], args := [d] }
  | _ => none }
def ComposeNFCWrongFalsely : Prop := composeNFCRow.holds Tryz.pinned (OpenSpec.ofChange composeNFCWrong)

/- THE SECOND FORM. 'bulk': how many values and letters a reading holds, each counted each time it is reached (what is shared counts as often as it is met; a slice's spare places count too). A statement '..UptoSaid' is the law's where the arguments, and the package variables that the reading takes, are together of bulk at most 1048576: NARROWER than '..Said'. Prove '..Said' where nothing that the law and all that it calls make is longer than what came in: it says more and counts as full. Else prove '..UptoSaid'. A law counts once. -/
mutual
def uptoBulk {H : Type} : DataW H → Nat
  | .lit (.string bytes) => bytes.length + 1
  | .lit _ => 1
  | .nil => 1
  | .ptr d => uptoBulk d + 1
  | .slice elems spare => uptoBulkAll elems + uptoBulkAll spare + 1
  | .agg parts => uptoBulkAll parts + 1
  | .iface _ d => uptoBulk d + 1
  | .map entries => uptoBulkEntries entries + 1
  | .held _ => 1
def uptoBulkAll {H : Type} : List (DataW H) → Nat
  | [] => 0
  | d :: r => uptoBulk d + uptoBulkAll r
def uptoBulkEntries {H : Type} : List (Lit × DataW H) → Nat
  | [] => 0
  | x :: r => uptoBulkEntry x + uptoBulkEntries r
def uptoBulkEntry {H : Type} : Lit × DataW H → Nat
  | (.string bytes, d) => bytes.length + uptoBulk d + 1
  | (_, d) => uptoBulk d + 1
 end
def uptoSmall : (H : Type) → List (DataW H) → Bool := fun _ ds => decide (uptoBulkAll ds ≤ 1048576)
def OpenSpec.upto (s : _root_.Go.ChangeSpec) : _root_.Go.OpenSpec := { _root_.Go.OpenSpec.ofChange s with cond := some uptoSmall }

/-- 'typebarlaw07.ComposePuts', WHERE WHAT IT READS IS OF BULK AT MOST 1048576: true; the input reads as it did. -/
def composePutsUptoRow : OpenClaim := { program := "ythlnameambnmeaagreat", sum := "ed9c29e113a698f5d2a8afcfe876d187c4af714344cae548a7b024237434abdf", func := "typebar/typebarlaw07.ComposePuts", spec := "composePuts", unfollowed := true, recurses := true, plainKeys := false, apart := false, narrowed := true }
def ComposePutsUptoSaid : Prop := composePutsUptoRow.holds Tryz.pinned (OpenSpec.upto composePutsSpec)

/-- 'typebarlaw07.ComposeNFC', WHERE WHAT IT READS IS OF BULK AT MOST 1048576: true; the input reads as it did. -/
def composeNFCUptoRow : OpenClaim := { program := "ythlnameambnmeaagreat", sum := "ed9c29e113a698f5d2a8afcfe876d187c4af714344cae548a7b024237434abdf", func := "typebar/typebarlaw07.ComposeNFC", spec := "composeNFC", unfollowed := true, recurses := true, plainKeys := false, apart := false, narrowed := true }
def ComposeNFCUptoSaid : Prop := composeNFCUptoRow.holds Tryz.pinned (OpenSpec.upto composeNFCSpec)

end Rows
end Go.Proofs.YthlnameambnmeaaGreat
