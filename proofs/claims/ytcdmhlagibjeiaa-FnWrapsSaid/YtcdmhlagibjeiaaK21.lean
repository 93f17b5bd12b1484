/- Contracts of functions of the program and of the reference: what the evaluator gives for a call of each. -/
import Derived.Test.YtcdmhlagibjeiaaAEf
import Derived.Test.YtcdmhlagibjeiaaK0
import Derived.Test.YtcdmhlagibjeiaaK2
import Derived.Test.YtcdmhlagibjeiaaK3
import Derived.Test.YtcdmhlagibjeiaaK20
namespace Go.Proofs.YtcdmhlagibjeiaaE
open Go Go.Proofs
set_option maxHeartbeats 4000000
set_option maxRecDepth 2000
set_option linter.unusedSimpArgs false
set_option linter.unusedVariables false
set_option pp.deepTerms false
set_option pp.deepTerms.threshold 10
/-! ## rows of rows as results -/
theorem mkt_row_after (k : Int) (t : List (List Int)) : ∀ i r, r < i → i ≤ t.length → rown (mkt k t i) r = marks (mkv k t r) (rown t r).length
  | i + 1, r, h, hi => by
    simp only [mkt]
    by_cases e : i = r
    · subst e
      rw [rown_set _ (by simp; omega)]
    · rw [rown_set_ne _ e]
      exact mkt_row_after k t i r (by omega) (by omega)
def tabM (F : Nat → List Int) (n : Nat) : List (List Int) := (List.range n).map F
@[simp] theorem tabM_len (F : Nat → List Int) (n : Nat) : (tabM F n).length = n := by simp -implicitDefEqProofs (maxSteps := 3000000) [tabM]
@[simp] theorem tabM_zero (F : Nat → List Int) : tabM F 0 = [] := rfl
@[simp] theorem mcells_nil : mcells [] = [] := rfl
theorem tabM_succ (F : Nat → List Int) (n : Nat) : tabM F n ++ [F n] = tabM F (n + 1) := by simp -implicitDefEqProofs (maxSteps := 3000000) [tabM, List.range_succ]
theorem rown_tabM (F : Nat → List Int) {n i : Nat} (h : i < n) : rown (tabM F n) i = F i := by simp -implicitDefEqProofs (maxSteps := 3000000) [rown, tabM, List.getD, h]
theorem rown_out {t : List (List Int)} {i : Nat} (h : t.length ≤ i) : rown t i = [] := by simp -implicitDefEqProofs (maxSteps := 3000000) [rown, List.getD, List.getElem?_eq_none h]
/-! ## FormOf -/
noncomputable def fe (T : List (List Int)) (M : Int) (V : List Int) (x y : Nat) : Int := if cl T x y = cl T y x then frm T.length M V x y else -1
noncomputable def frow (T : List (List Int)) (M : Int) (V : List Int) (x : Nat) : List Int := tabI (fe T M V x) T.length
noncomputable def fform (T : List (List Int)) (M : Int) (V : List Int) : List (List Int) := tabM (frow T M V) T.length
theorem fform_len (T : List (List Int)) (M : Int) (V : List Int) : (fform T M V).length = T.length := by simp -implicitDefEqProofs (maxSteps := 3000000) [fform]
theorem fform_row (T : List (List Int)) (M : Int) (V : List Int) (i : Nat) : (rown (fform T M V) i).length ≤ T.length := by
  by_cases h : i < T.length
  · rw [fform, rown_tabM _ h, frow, tabI_len]; omega
  · rw [rown_out (by simp -implicitDefEqProofs (maxSteps := 3000000) [fform]; omega)]; simp -implicitDefEqProofs (maxSteps := 3000000)
end Go.Proofs.YtcdmhlagibjeiaaE
