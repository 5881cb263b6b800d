/- DeltaLeast: for every input the law's function returns true, and each argument reads behind the call as it read before. No condition. -/
import Derived.Test.YtpadbcaocbghoaaGreatRows
import Derived.Test.YtpadbcaocbghoaaGreatDoTd
namespace Go.Proofs.YtpadbcaocbghoaaGreat.deltaLeast
open Go.ChangeShapes Go.WideShapes Go.ChangeAt Go.RowKit
set_option linter.unusedVariables false
theorem own : ownKnob Tryz.prog.godebug = none := by kernel_rfl
set_option maxRecDepth 100000 in
theorem lifted (os : Os) (started : os.Started) (H : Type) (enc : TypeId × Value → H) :
    ReturnsInHanded {} Tryz.checked os 4 .any (Rows.deltaLeastSpec.pre6 enc Tryz.prog Tryz.f4 Rows.deltaLeastRow.domain false) (Rows.deltaLeastSpec.post enc Tryz.prog Tryz.f4 false true false false) := by
  refine returnsInHanded_of_change (C := Tryz.checked) own started (by kernel_rfl) Tryz.func4
    (ChangeSpec.witness6 (enc := enc) (C := Tryz.checked) false ⟨#[], #[.slice none 0 0, .slice none 0 0], []⟩ 8 (by kernel_rfl) (by kernel_rfl) (by kernel_rfl) (by kernel_rfl)) ?_
  intro W base args ds gs before hval hW _ _
  exact Go.Eng.rowStep (d := 8) (tb := 4) rfl (fun ds hl => match ds, hl with | [_, _], _ => rfl) rfl (by kernel_rfl)
    (List.all_eq_true.1 (by kernel_rfl : (Tryz.f4.params.toList.all (Go.Eng.okT Tryz.prog 8)) = true))
    (fun t ht => of_decide_eq_true (List.all_eq_true.1 (by kernel_rfl : (Tryz.f4.params.toList.all fun t => decide (t < Tryz.prog.types.size)) = true) t ht))
    (by kernel_rfl) (by kernel_rfl) (by kernel_rfl) (fun pvs h => Go.Eng.lawDeltaLeast h) W base args ds gs before hval hW
theorem over : Rows.deltaLeastRow.holds Tryz.pinned (OpenSpec.ofChange Rows.deltaLeastSpec) :=
  OpenClaim.holds_of_wide 4 Tryz.f4 rfl rfl rfl rfl rfl rfl rfl ⟨rfl, rfl, rfl, rfl, rfl⟩ rfl rfl rfl rfl rfl (by kernel_rfl) Tryz.func4 (by kernel_rfl)
    (of_decide_eq_true (by kernel_rfl)) (by unfold Func.isWrapper; first | (rw [if_pos (by decide +kernel)]; kernel_rfl) | (rw [if_neg (by decide +kernel)]; exact ⟨rfl, rfl⟩))
    (fun os started H enc _ => lifted os started H enc)
/-- THE STATEMENT. -/
theorem proved : Rows.DeltaLeastSaid := over
#print axioms proved
end Go.Proofs.YtpadbcaocbghoaaGreat.deltaLeast
