/- Contracts of functions of the program and of the reference: what the evaluator gives for a call of each. -/
import Derived.Test.YtcdmhlagibjeiaaAEf
import Derived.Test.YtcdmhlagibjeiaaK0
import Derived.Test.YtcdmhlagibjeiaaK4
import Derived.Test.YtcdmhlagibjeiaaK5
import Derived.Test.YtcdmhlagibjeiaaK6
import Derived.Test.YtcdmhlagibjeiaaK11
import Derived.Test.YtcdmhlagibjeiaaK13
namespace Go.Proofs.YtcdmhlagibjeiaaE
open Go Go.Proofs
set_option maxHeartbeats 2000000
set_option linter.unusedSimpArgs false
set_option linter.unusedVariables false
set_option pp.deepTerms false
set_option pp.deepTerms.threshold 10
/-! ## EmbedCochain, LiftCochain -/
theorem icode_0 {T : List (List Int)} {M : Int} {U : List Int} {k : Int} : icode T M U k = 0 ↔ GM T M U ∧ 2 ≤ k ∧ k ≤ M.tdiv 2 ∧ M.tmod k = 0 := by
  by_cases G : GM T M U
  · rw [show icode T M U k = dcode M k from if_pos G]
    by_cases h : 2 ≤ k ∧ k ≤ M.tdiv 2 ∧ M.tmod k = 0
    · simp -implicitDefEqProofs (maxSteps := 3000000) [dcode_0 h, G, h]
    · simp only [dcode_2 h, G, true_and]
      exact ⟨fun z => by omega, fun z => absurd z h⟩
  · rw [show icode T M U k = 1 from if_neg G]
    exact ⟨fun z => by omega, fun z => absurd z.1 G⟩
def EGood (T : List (List Int)) (M : Int) (U : List Int) (k q D : Int) (V : List Int) : Prop := icode T M U k = 0 ∧ IsCo T q D V
noncomputable def ecode (T : List (List Int)) (M : Int) (U : List Int) (k q D : Int) (V : List Int) : Int := if icode T M U k = 0 then 1 else icode T M U k
theorem timesU_len (V : List Int) (q : Int) : (timesU V q).length = V.length := by simp -implicitDefEqProofs (maxSteps := 3000000) [timesU]
theorem isCo_bd {T : List (List Int)} {q D : Int} {V : List Int} (h : IsCo T q D V) (hq : q ≤ 12) : ∀ i < V.length, 0 ≤ rn V i ∧ rn V i ≤ 11 := fun i hi => by have := h.2.2 i hi; omega
theorem times_bd {T : List (List Int)} {q D : Int} {V : List Int} (h : IsCo T q D V) (hq : q ≤ 12) {k : Int} (hk : 0 ≤ k ∧ k ≤ 12) : ∀ i < V.length, -9223372036854775808 ≤ k * rn V i ∧ k * rn V i < 9223372036854775808 := fun i hi => by
  have a := isCo_bd h hq i hi
  have := mul_bd hk.1 hk.2 a.1 a.2
  omega
end Go.Proofs.YtcdmhlagibjeiaaE
