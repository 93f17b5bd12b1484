/- Contracts of functions of the program and of the reference: what the evaluator gives for a call of each. -/
import Derived.Test.YtfichikabolknaaGreatAEf
import Derived.Test.YtfichikabolknaaGreatK0
import Derived.Test.YtfichikabolknaaGreatK1
import Derived.Test.YtfichikabolknaaGreatK2
namespace Go.Proofs.YtfichikabolknaaGreatE
open Go Go.Proofs
set_option linter.unusedSimpArgs false
set_option linter.unusedVariables false
theorem szs_le {k : Int} {t : List (List Int)} : ∀ i, szs k t i ≤ k - t.length
  | 0 => by simp -implicitDefEqProofs (maxSteps := 3000000) [szs]
  | i + 1 => by have := szs_le (k := k) (t := t) i; simp only [szs]; omega
theorem szr_le {k : Int} {t : List (List Int)} (hk : 0 ≤ k) : szr k t ≤ k := by
  unfold szr
  split
  · have := szs_le (k := k) (t := t) t.length; omega
  · omega
theorem szr_nn {k : Int} {t : List (List Int)} (h : ¬ szr k t < 0) (hk : 0 ≤ k) : (t.length : Int) ≤ k ∧ ∀ i, ((rown t i).length : Int) ≤ k := by
  have hp : ∀ i ≤ t.length, 0 ≤ szs k t i := by
    by_cases hp : ∀ i ≤ t.length, 0 ≤ szs k t i
    · exact hp
    · rw [szr, if_neg hp] at h; omega
  have h0 := hp 0 (by omega)
  simp only [szs] at h0
  refine ⟨by omega, fun i => ?_⟩
  by_cases hi : i < t.length
  · have h1 := hp (i + 1) (by omega)
    have h2 := szs_le (k := k) (t := t) i
    simp only [szs] at h1
    omega
  · have : rown t i = [] := by simp -implicitDefEqProofs (maxSteps := 3000000) [rown, List.getD, List.getElem?_eq_none (show t.length ≤ i by omega)]
    rw [this]
    simp -implicitDefEqProofs (maxSteps := 3000000)
    exact hk
theorem mkv_szs (k K : Int) (t : List (List Int)) : ∀ i, mkv k t i + szs K t i = k + K - t.length
  | 0 => by simp only [mkv, szs]; omega
  | i + 1 => by have := mkv_szs k K t i; simp only [mkv, szs]; omega
theorem szs_nn {k : Int} {t : List (List Int)} (h : ¬ szr k t < 0) : 0 ≤ szs k t t.length := by
  by_cases hp : ∀ i ≤ t.length, 0 ≤ szs k t i
  · exact hp _ (Nat.le_refl _)
  · rw [szr, if_neg hp] at h; omega
theorem szr_last {k : Int} {t : List (List Int)} (h : ¬ szr k t < 0) : szr k t = szs k t t.length := by
  by_cases hp : ∀ i ≤ t.length, 0 ≤ szs k t i
  · exact if_pos hp
  · rw [szr, if_neg hp] at h; omega
end Go.Proofs.YtfichikabolknaaGreatE
