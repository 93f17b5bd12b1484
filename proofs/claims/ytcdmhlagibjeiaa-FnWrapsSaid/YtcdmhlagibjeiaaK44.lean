/- Contracts of functions of the program and of the reference: what the evaluator gives for a call of each. -/
import Derived.Test.YtcdmhlagibjeiaaAEf
import Derived.Test.YtcdmhlagibjeiaaK0
import Derived.Test.YtcdmhlagibjeiaaK21
import Derived.Test.YtcdmhlagibjeiaaK42
namespace Go.Proofs.YtcdmhlagibjeiaaE
open Go Go.Proofs
set_option maxHeartbeats 4000000
set_option maxRecDepth 4000
set_option linter.unusedSimpArgs false
set_option linter.unusedVariables false
set_option pp.deepTerms false
set_option pp.deepTerms.threshold 10
/-! ## GroupOfSubgroup -/
theorem sbG_len (T : List (List Int)) (h : List Int) : (sbG T h).length = h.length := by simp -implicitDefEqProofs (maxSteps := 3000000) [sbG]
theorem sbG_rows (T : List (List Int)) (h : List Int) (i : Nat) : (rown (sbG T h) i).length ≤ h.length := by
  by_cases e : i < h.length
  · rw [sbG, rown_tabM _ e]; simp -implicitDefEqProofs (maxSteps := 3000000) [sbR]
  · rw [rown_out (by rw [sbG_len]; omega)]; simp -implicitDefEqProofs (maxSteps := 3000000)
end Go.Proofs.YtcdmhlagibjeiaaE
