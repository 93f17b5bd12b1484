/- Contracts of functions of the program and of the reference: what the evaluator gives for a call of each. -/
import Derived.Test.YtgklblkigjbggaaAEf
import Derived.Test.YtgklblkigjbggaaK0
namespace Go.Proofs.YtgklblkigjbggaaE
open Go Go.Proofs
set_option maxHeartbeats 2000000
set_option linter.unusedSimpArgs false
set_option linter.unusedVariables false
set_option pp.deepTerms false
set_option pp.deepTerms.threshold 10
/-! ## the program's small functions -/
theorem ct_order (n : Nat) (hn : B + 1 ≤ n) (T : List (List Int)) :
    evalCall Try.prog An n 40 [.agg [.d (intss T)]] [] = some ⟨.d (.int .i64 T.length), [], []⟩ := by
  obtain ⟨m, rfl⟩ : ∃ m, n = m + 1 := ⟨n - 1, by omega⟩
  have hB := B_eq
  simp only [evalCall_at, fb40, bnd_some, bodyOf, Try.f40, Option.getD_some]
  simp -implicitDefEqProofs (maxSteps := 3000000)
def AllIn (n : Int) (l : List Int) : Prop := ∀ i < l.length, 0 ≤ rn l i ∧ rn l i < n
end Go.Proofs.YtgklblkigjbggaaE
