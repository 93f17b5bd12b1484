/- Contracts of functions of the program and of the reference: what the evaluator gives for a call of each. -/
import Derived.Test.YtcdmhlagibjeiaaAEf
import Derived.Test.YtcdmhlagibjeiaaK0
import Derived.Test.YtcdmhlagibjeiaaK4
import Derived.Test.YtcdmhlagibjeiaaK6
namespace Go.Proofs.YtcdmhlagibjeiaaE
open Go Go.Proofs
set_option maxHeartbeats 2000000
set_option linter.unusedSimpArgs false
set_option linter.unusedVariables false
set_option pp.deepTerms false
set_option pp.deepTerms.threshold 10
/-! ## the program's ReduceCochain -/
noncomputable def mcode (T : List (List Int)) (M : Int) (U : List Int) : Int := @ite Int (GM T M U) (Classical.propDecidable _) 0 1
theorem half {M k : Int} (hM : 2 ≤ M) (hk : 2 ≤ k) (h : M.tmod k = 0) : k < M ↔ k ≤ M.tdiv 2 := by
  rw [Int.tdiv_eq_ediv_of_nonneg (by omega)]
  rw [tmod_nn k (by omega)] at h
  have e : k * (M / k) = M := Int.mul_ediv_cancel' (Int.dvd_of_emod_eq_zero h)
  constructor
  · intro hlt
    have c : 2 ≤ M / k := by
      rcases Int.lt_or_le (M / k) 2 with z | z
      · have := Int.mul_le_mul_of_nonneg_left (show M / k ≤ 1 by omega) (show 0 ≤ k by omega)
        omega
      · exact z
    have := Int.mul_le_mul_of_nonneg_left c (show 0 ≤ k by omega)
    omega
  · intro hle
    omega
noncomputable def icode (T : List (List Int)) (M : Int) (U : List Int) (k : Int) : Int := @ite Int (GM T M U) (Classical.propDecidable _) (dcode M k) 1
end Go.Proofs.YtcdmhlagibjeiaaE
