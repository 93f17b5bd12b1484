/- Contracts of functions of the program and of the reference: what the evaluator gives for a call of each. -/
import Derived.Test.YtcdmhlagibjeiaaAEf
import Derived.Test.YtcdmhlagibjeiaaK0
import Derived.Test.YtcdmhlagibjeiaaK3
import Derived.Test.YtcdmhlagibjeiaaK4
import Derived.Test.YtcdmhlagibjeiaaK5
namespace Go.Proofs.YtcdmhlagibjeiaaE
open Go Go.Proofs
set_option maxHeartbeats 2000000
set_option linter.unusedSimpArgs false
set_option linter.unusedVariables false
set_option pp.deepTerms false
set_option pp.deepTerms.threshold 10
/-! ## the reference's ReduceCochain -/
def GM (T : List (List Int)) (M : Int) (U : List Int) : Prop := IsGr T ∧ IsMo T M U
noncomputable def dcode (M k : Int) : Int := @ite Int (2 ≤ k ∧ k ≤ M.tdiv 2 ∧ M.tmod k = 0) (Classical.propDecidable _) 0 2
theorem dcode_0 {M k : Int} (h : 2 ≤ k ∧ k ≤ M.tdiv 2 ∧ M.tmod k = 0) : dcode M k = 0 := by simp only [dcode, if_pos h]
theorem dcode_2 {M k : Int} (h : ¬ (2 ≤ k ∧ k ≤ M.tdiv 2 ∧ M.tmod k = 0)) : dcode M k = 2 := by simp only [dcode, if_neg h]
noncomputable def ccode (T : List (List Int)) (M : Int) (U : List Int) (D : Int) (V : List Int) : Int := @ite Int (IsCo T M D V) (Classical.propDecidable _) 0 1
def RGood (T : List (List Int)) (M : Int) (U : List Int) (k D : Int) (V : List Int) : Prop := (GM T M U ∧ (2 ≤ k ∧ k ≤ M.tdiv 2 ∧ M.tmod k = 0)) ∧ IsCo T M D V
noncomputable def rcode (T : List (List Int)) (M : Int) (U : List Int) (k D : Int) (V : List Int) : Int :=
  @ite Int (GM T M U) (Classical.propDecidable _) (if dcode M k = 0 then ccode T M U D V else dcode M k) 1
end Go.Proofs.YtcdmhlagibjeiaaE
