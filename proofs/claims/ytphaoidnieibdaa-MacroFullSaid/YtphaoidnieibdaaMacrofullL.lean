/- MacroFull: for every input the law's function returns true, and each argument reads behind the call as it read before. No condition. -/
import Derived.Test.YtphaoidnieibdaaRows
import Derived.Test.YtphaoidnieibdaaMf2Tb
namespace Go.Proofs.Ytphaoidnieibdaa.macroFull
open Go.ChangeShapes Go.WideShapes Go.ChangeAt Go.RowKit
set_option linter.unusedVariables false
theorem own : ownKnob Try.prog.godebug = none := by kernel_rfl
set_option maxRecDepth 100000 in
theorem lifted (os : Os) (started : os.Started) (H : Type) (enc : TypeId × Value → H) :
    ReturnsInHanded {} Try.checked os 6 .any (Rows.macroFullSpec.pre6 enc Try.prog Try.f6 Rows.macroFullRow.domain false) (Rows.macroFullSpec.post enc Try.prog Try.f6 false true false false) := by
  refine returnsInHanded_of_change (C := Try.checked) own started (by kernel_rfl) Try.func6
    (ChangeSpec.witness6 (enc := enc) (C := Try.checked) false ⟨#[], #[.int .i64 0], []⟩ 8 (by kernel_rfl) (by kernel_rfl) (by kernel_rfl) (by kernel_rfl)) ?_
  intro W base args ds gs before hval hW _ _
  exact Go.Eng.rowStep (d := 8) (tb := 4) rfl (fun ds hl => match ds, hl with | [_], _ => rfl) rfl (by kernel_rfl)
    (List.all_eq_true.1 (by kernel_rfl : (Try.f6.params.toList.all (Go.Eng.okT Try.prog 8)) = true))
    (fun t ht => of_decide_eq_true (List.all_eq_true.1 (by kernel_rfl : (Try.f6.params.toList.all fun t => decide (t < Try.prog.types.size)) = true) t ht))
    (by kernel_rfl) (by kernel_rfl) (by kernel_rfl) (fun pvs h => Go.Eng.lawMacroFull h) W base args ds gs before hval hW
theorem over : Rows.macroFullRow.holds Try.pinned (OpenSpec.ofChange Rows.macroFullSpec) :=
  OpenClaim.holds_of_wide 6 Try.f6 rfl rfl rfl rfl rfl rfl rfl ⟨rfl, rfl, rfl, rfl, rfl⟩ rfl rfl rfl rfl rfl (by kernel_rfl) Try.func6 (by kernel_rfl)
    (of_decide_eq_true (by kernel_rfl)) (by unfold Func.isWrapper; first | (rw [if_pos (by decide +kernel)]; kernel_rfl) | (rw [if_neg (by decide +kernel)]; exact ⟨rfl, rfl⟩))
    (fun os started H enc _ => lifted os started H enc)
/-- THE STATEMENT. -/
theorem proved : Rows.MacroFullSaid := over
#print axioms proved
end Go.Proofs.Ytphaoidnieibdaa.macroFull
