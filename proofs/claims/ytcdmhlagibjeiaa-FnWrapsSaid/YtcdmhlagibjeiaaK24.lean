/- Contracts of functions of the program and of the reference: what the evaluator gives for a call of each. -/
import Derived.Test.YtcdmhlagibjeiaaAEf
import Derived.Test.YtcdmhlagibjeiaaK0
import Derived.Test.YtcdmhlagibjeiaaK21
import Derived.Test.YtcdmhlagibjeiaaK23
namespace Go.Proofs.YtcdmhlagibjeiaaE
open Go Go.Proofs
set_option maxHeartbeats 4000000
set_option maxRecDepth 2000
set_option linter.unusedSimpArgs false
set_option linter.unusedVariables false
set_option pp.deepTerms false
set_option pp.deepTerms.threshold 10
/-! ## those elements for which something is so -/
theorem keepL_append (P : Int → Prop) [DecidablePred P] (l r : List Int) : keepL P (l ++ r) = keepL P l ++ keepL P r := by simp -implicitDefEqProofs (maxSteps := 3000000) [keepL]
def thoseL (q : Nat → Bool) (n : Nat) : List Int := ((List.range n).filter q).map (fun (i : Nat) => (i : Int))
theorem thoseL_le (q : Nat → Bool) (n : Nat) : (thoseL q n).length ≤ n := by
  have := List.length_filter_le q (List.range n)
  simpa [thoseL] using this
@[simp] theorem thoseL_zero (q : Nat → Bool) : thoseL q 0 = [] := rfl
theorem thoseL_succ (q : Nat → Bool) (n : Nat) : thoseL q (n + 1) = thoseL q n ++ (if q n = true then [(n : Int)] else []) := by
  unfold thoseL
  rw [List.range_succ, List.filter_append, List.map_append]
  congr 1
  by_cases h : q n = true
  · simp -implicitDefEqProofs (maxSteps := 3000000) [h]
  · simp -implicitDefEqProofs (maxSteps := 3000000) [h]
theorem keep_those (q : Nat → Bool) : ∀ n : Nat, keepL (fun x => q x.toNat = false) (tabI (fun i => (i : Int)) n) = thoseL q n
  | 0 => rfl
  | n + 1 => by
    rw [← tabI_succ, keepL_append, keep_those q n, thoseL_succ]
    congr 1
    cases h : q n with
    | true => simp -implicitDefEqProofs (maxSteps := 3000000) [keepL, h]
    | false => simp -implicitDefEqProofs (maxSteps := 3000000) [keepL, h]
noncomputable def regQ (T : List (List Int)) (M : Int) (V : List Int) (x : Nat) : Bool := bl (∀ y < T.length, fe T M V x y ≤ 0)
noncomputable def regL (T : List (List Int)) (M : Int) (V : List Int) : List Int := thoseL (regQ T M V) T.length
theorem regL_le (T : List (List Int)) (M : Int) (V : List Int) : (regL T M V).length ≤ T.length := thoseL_le _ _
end Go.Proofs.YtcdmhlagibjeiaaE
