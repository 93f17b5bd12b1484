/- Contracts of functions of the program and of the reference: what the evaluator gives for a call of each. -/
import Derived.Test.YtcdmhlagibjeiaaAEf
import Derived.Test.YtcdmhlagibjeiaaK0
import Derived.Test.YtcdmhlagibjeiaaK27
import Derived.Test.YtcdmhlagibjeiaaK29
import Derived.Test.YtcdmhlagibjeiaaK30
namespace Go.Proofs.YtcdmhlagibjeiaaE
open Go Go.Proofs
set_option maxHeartbeats 4000000
set_option maxRecDepth 4000
set_option linter.unusedSimpArgs false
set_option linter.unusedVariables false
set_option pp.deepTerms false
set_option pp.deepTerms.threshold 10
/-! ## the reference's cosets -/
def z0 (l : List Int) : List Int := l.map (fun x => if x < 0 then 0 else x)
theorem z0_len (l : List Int) : (z0 l).length = l.length := by simp -implicitDefEqProofs (maxSteps := 3000000) [z0]
theorem z0_set (l : List Int) (b k : Nat) : (z0 l).set b (k : Int) = z0 (l.set b (k : Int)) := by
  have e : (if (k : Int) < 0 then (0 : Int) else k) = k := if_neg (by omega)
  rw [z0, z0, List.map_set, e]
theorem z0_id {l : List Int} (h : ∀ i < l.length, 0 ≤ rn l i) : z0 l = l := by
  unfold z0
  apply List.ext_getElem (by simp -implicitDefEqProofs (maxSteps := 3000000))
  intro i h1 h2
  have := h i h2
  rw [rn_get h2] at this
  simp only [List.getElem_map]
  exact if_neg (by omega)
theorem z0_init (n : Nat) : z0 (List.replicate n (-1)) = List.replicate n 0 := by simp -implicitDefEqProofs (maxSteps := 3000000) [z0]
structure Met (num : List Int) (u : Nat) : Prop where
  lt : u < 256
  tb : ∀ b, u.testBit b = true ↔ b < num.length ∧ 0 ≤ rn num b
theorem Met.set {num : List Int} {u : Nat} (M : Met num u) (hn : num.length ≤ 8) {b : Nat} (hb : b < num.length) (k : Nat) : Met (num.set b (k : Int)) (u ||| 2 ^ b) := by
  have hp : 2 ^ b < 2 ^ 8 := Nat.pow_lt_pow_right (by omega) (by omega)
  refine ⟨Nat.or_lt_two_pow (n := 8) M.lt hp, fun x => ?_⟩
  rw [or_tb, M.tb, rn_setG, List.length_set]
  by_cases e : b = x
  · subst e
    rw [if_pos ⟨rfl, hb⟩]
    simp -implicitDefEqProofs (maxSteps := 3000000) [hb]
  · rw [if_neg (fun z => e z.1)]
    constructor
    · rintro (z | z)
      · exact z
      · exact absurd z.symm e
    · exact .inl
theorem Met.init (n : Nat) : Met (List.replicate n (-1)) 0 := by
  refine ⟨by omega, fun b => ?_⟩
  rw [Nat.zero_testBit, List.length_replicate]
  constructor
  · intro z; simp -implicitDefEqProofs (maxSteps := 3000000) at z
  · rintro ⟨z1, z2⟩
    simp -implicitDefEqProofs (maxSteps := 3000000) [rn, List.getD, z1] at z2
end Go.Proofs.YtcdmhlagibjeiaaE
