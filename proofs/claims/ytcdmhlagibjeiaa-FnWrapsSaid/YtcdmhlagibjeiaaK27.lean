/- Contracts of functions of the program and of the reference: what the evaluator gives for a call of each. -/
import Derived.Test.YtcdmhlagibjeiaaAEf
import Derived.Test.YtcdmhlagibjeiaaK0
namespace Go.Proofs.YtcdmhlagibjeiaaE
open Go Go.Proofs
set_option maxHeartbeats 4000000
set_option maxRecDepth 4000
set_option linter.unusedSimpArgs false
set_option linter.unusedVariables false
set_option pp.deepTerms false
set_option pp.deepTerms.threshold 10
/-! ## sorting short rows -/
def Srt (X : List Int) (k : Nat) : Prop := ∀ p q, p < q → q < k → rn X p ≤ rn X q
structure Mid (l X : List Int) (i j : Nat) : Prop where
  len : X.length = l.length
  cnt : ∀ x, X.count x = l.count x
  srt : ∀ p q, p < q → q ≤ i → p ≠ j → q ≠ j → rn X p ≤ rn X q
  top : ∀ q, j < q → q ≤ i → rn X j < rn X q
def swp (X : List Int) (j : Nat) : List Int := (X.set j (rn X (j - 1))).set (j - 1) (rn X j)
theorem rn_setG (X : List Int) (a b : Nat) (v : Int) : rn (X.set a v) b = if a = b ∧ a < X.length then v else rn X b := by
  simp only [rn, List.getD, List.getElem?_set]
  by_cases h : a = b
  · subst h
    by_cases h2 : a < X.length
    · simp -implicitDefEqProofs (maxSteps := 3000000) [h2]
    · simp -implicitDefEqProofs (maxSteps := 3000000) [h2]
  · simp -implicitDefEqProofs (maxSteps := 3000000) [h]
theorem rn_swp {X : List Int} {j : Nat} (hj : 0 < j) (h : j < X.length) (p : Nat) : rn (swp X j) p = if p = j - 1 then rn X j else if p = j then rn X (j - 1) else rn X p := by
  unfold swp
  rw [rn_setG, rn_setG, List.length_set]
  by_cases h1 : p = j - 1
  · rw [if_pos ⟨h1.symm, by omega⟩, if_pos h1]
  · rw [if_neg (fun z => h1 z.1.symm), if_neg h1]
    by_cases h2 : p = j
    · rw [if_pos ⟨h2.symm, h⟩, if_pos h2]
    · rw [if_neg (fun z => h2 z.1.symm), if_neg h2]
theorem cnt_swp {X : List Int} {j : Nat} (hj : 0 < j) (h : j < X.length) (x : Int) : (swp X j).count x = X.count x := by
  unfold swp
  have e1 : (X.set j (rn X (j - 1)))[j - 1]'(by simp; omega) = rn X (j - 1) := by
    have := rn_setG X j (j - 1) (rn X (j - 1))
    rw [if_neg (by omega)] at this
    have t := rn_get (l := X.set j (rn X (j - 1))) (i := j - 1) (by simp; omega)
    rw [← t]; exact this
  have c1 : 0 < X.count (rn X j) := List.count_pos_iff.2 (by rw [rn_get h]; exact List.getElem_mem _)
  rw [List.count_set (by simp; omega), List.count_set h, e1, ← rn_get h]
  have k1 : (rn X j == x) = true → 0 < X.count x := fun z => by rw [← (by simpa using z : rn X j = x)]; exact c1
  have k2 : (rn X (j - 1) == x) = true → 0 < X.count x := fun z => by
    rw [← (by simpa using z : rn X (j - 1) = x)]
    exact List.count_pos_iff.2 (by rw [rn_get (by omega)]; exact List.getElem_mem _)
  cases h1 : (rn X j == x) <;> cases h2 : (rn X (j - 1) == x) <;> simp only [h1, h2, if_true, Bool.false_eq_true, if_false, forall_const, false_imp_iff] at k1 k2 ⊢ <;> omega
theorem Mid.step {l X : List Int} {i j : Nat} (M : Mid l X i j) (hj : 0 < j) (hji : j ≤ i) (hi : i < l.length) (h : rn X j < rn X (j - 1)) : Mid l (swp X j) i (j - 1) := by
  have hx : j < X.length := by rw [M.len]; omega
  refine ⟨by simp -implicitDefEqProofs (maxSteps := 3000000) [swp, M.len], fun x => by rw [cnt_swp hj hx, M.cnt], fun p q h1 h2 h3 h4 => ?_, fun q h1 h2 => ?_⟩
  · rw [rn_swp hj hx, rn_swp hj hx, if_neg h3, if_neg h4]
    by_cases e1 : p = j
    · rw [if_pos e1, if_neg (by omega)]
      exact M.srt (j - 1) q (by omega) h2 (by omega) (by omega)
    · rw [if_neg e1]
      by_cases e2 : q = j
      · rw [if_pos e2]
        exact M.srt p (j - 1) (by omega) (by omega) e1 (by omega)
      · rw [if_neg e2]; exact M.srt p q h1 h2 e1 e2
  · rw [rn_swp hj hx, rn_swp hj hx, if_pos rfl, if_neg (by omega)]
    by_cases e2 : q = j
    · rw [if_pos e2]; exact h
    · rw [if_neg e2]; exact M.top q (by omega) h2
theorem Mid.done {l X : List Int} {i j : Nat} (M : Mid l X i j) (hji : j ≤ i) (h : j = 0 ∨ ¬ rn X j < rn X (j - 1)) : Srt X (i + 1) := by
  intro p q h1 h2
  by_cases e1 : p = j
  · subst e1
    have := M.top q h1 (by omega); omega
  · by_cases e2 : q = j
    · subst e2
      rcases h with h | h
      · omega
      · by_cases e3 : p = q - 1
        · subst e3; omega
        · have := M.srt p (q - 1) (by omega) (by omega) e1 (by omega); omega
    · exact M.srt p q h1 (by omega) e1 e2
end Go.Proofs.YtcdmhlagibjeiaaE
