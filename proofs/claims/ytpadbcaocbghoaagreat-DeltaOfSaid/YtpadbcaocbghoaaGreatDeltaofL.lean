/- DeltaOf: for every input the law's function returns true, and each argument reads behind the call as it read before. No condition. -/
import Derived.Test.YtpadbcaocbghoaaGreatRows
import Derived.Test.YtpadbcaocbghoaaGreatDsTd
namespace Go.Proofs.YtpadbcaocbghoaaGreat.deltaOf
open Go.ChangeShapes Go.WideShapes Go.ChangeAt Go.RowKit
set_option linter.unusedVariables false
theorem own : ownKnob Tryz.prog.godebug = none := by kernel_rfl
set_option maxRecDepth 100000 in
theorem lifted (os : Os) (started : os.Started) (H : Type) (enc : TypeId × Value → H) :
    ReturnsInHanded {} Tryz.checked os 3 .any (Rows.deltaOfSpec.pre6 enc Tryz.prog Tryz.f3 Rows.deltaOfRow.domain false) (Rows.deltaOfSpec.post enc Tryz.prog Tryz.f3 false true false false) := by
  refine returnsInHanded_of_change (C := Tryz.checked) own started (by kernel_rfl) Tryz.func3
    (ChangeSpec.witness6 (enc := enc) (C := Tryz.checked) false ⟨#[], #[.slice none 0 0, .slice none 0 0], []⟩ 8 (by kernel_rfl) (by kernel_rfl) (by kernel_rfl) (by kernel_rfl)) ?_
  intro W base args ds gs before hval hW _ _
  exact Go.Eng.rowStep (d := 8) (tb := 4) rfl (fun ds hl => match ds, hl with | [_, _], _ => rfl) rfl (by kernel_rfl)
    (List.all_eq_true.1 (by kernel_rfl : (Tryz.f3.params.toList.all (Go.Eng.okT Tryz.prog 8)) = true))
    (fun t ht => of_decide_eq_true (List.all_eq_true.1 (by kernel_rfl : (Tryz.f3.params.toList.all fun t => decide (t < Tryz.prog.types.size)) = true) t ht))
    (by kernel_rfl) (by kernel_rfl) (by kernel_rfl) (fun pvs h => Go.Eng.lawDeltaOf h) W base args ds gs before hval hW
theorem over : Rows.deltaOfRow.holds Tryz.pinned (OpenSpec.ofChange Rows.deltaOfSpec) :=
  OpenClaim.holds_of_wide 3 Tryz.f3 rfl rfl rfl rfl rfl rfl rfl ⟨rfl, rfl, rfl, rfl, rfl⟩ rfl rfl rfl rfl rfl (by kernel_rfl) Tryz.func3 (by kernel_rfl)
    (of_decide_eq_true (by kernel_rfl)) (by unfold Func.isWrapper; first | (rw [if_pos (by decide +kernel)]; kernel_rfl) | (rw [if_neg (by decide +kernel)]; exact ⟨rfl, rfl⟩))
    (fun os started H enc _ => lifted os started H enc)
/-- THE STATEMENT. -/
theorem proved : Rows.DeltaOfSaid := over
#print axioms proved
end Go.Proofs.YtpadbcaocbghoaaGreat.deltaOf
