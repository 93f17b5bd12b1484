/- Contracts of functions of the program and of the reference: what the evaluator gives for a call of each. -/
import Derived.Test.YtgklblkigjbggaaAEf
import Derived.Test.YtgklblkigjbggaaK0
import Derived.Test.YtgklblkigjbggaaK16
namespace Go.Proofs.YtgklblkigjbggaaE
open Go Go.Proofs
set_option maxHeartbeats 4000000
set_option maxRecDepth 2000
set_option linter.unusedSimpArgs false
set_option linter.unusedVariables false
set_option pp.deepTerms false
set_option pp.deepTerms.threshold 10
/-! ## functions of Go's library that are given a test -/
def keepL (P : Int → Prop) [DecidablePred P] (l : List Int) : List Int := l.filter (fun x => decide (¬ P x))
theorem keepL_none {P : Int → Prop} [DecidablePred P] {l : List Int} (h : ∀ i < l.length, ¬ P (rn l i)) : keepL P l = l := by
  unfold keepL
  rw [List.filter_eq_self]
  intro x hx
  obtain ⟨i, hi, rfl⟩ := List.mem_iff_getElem.1 hx
  have := h i hi
  rw [rn_get hi] at this
  simpa using this
theorem keepL_le (P : Int → Prop) [DecidablePred P] (l : List Int) : (keepL P l).length ≤ l.length := List.length_filter_le _ _
theorem keepL_take (P : Int → Prop) [DecidablePred P] {l : List Int} {i : Nat} (h : i < l.length) : keepL P (l.take (i + 1)) = keepL P (l.take i) ++ (if P (rn l i) then [] else [rn l i]) := by
  unfold keepL
  rw [List.take_succ_eq_append_getElem h, List.filter_append, rn_get h]
  congr 1
  by_cases p : P l[i]
  · simp -implicitDefEqProofs (maxSteps := 3000000) [p]
  · simp -implicitDefEqProofs (maxSteps := 3000000) [p]
theorem keepL_prefix (P : Int → Prop) [DecidablePred P] {l : List Int} {i : Nat} (hi : i ≤ l.length) (h : ∀ j < i, ¬ P (rn l j)) : keepL P (l.take i) = l.take i := by
  apply keepL_none
  intro j hj
  have : j < i := by simp -implicitDefEqProofs (maxSteps := 3000000) at hj; omega
  rw [rn_take this]; exact h j this
/-- The row in the middle of the work: what is kept of the first j, then the rest as it was. -/
def midR (P : Int → Prop) [DecidablePred P] (l : List Int) (j : Nat) : List Int := keepL P (l.take j) ++ l.drop (keepL P (l.take j)).length
theorem keepL_take_le (P : Int → Prop) [DecidablePred P] (l : List Int) (j : Nat) : (keepL P (l.take j)).length ≤ j := by
  have := keepL_le P (l.take j)
  simp -implicitDefEqProofs (maxSteps := 3000000) at this; omega
theorem midR_len (P : Int → Prop) [DecidablePred P] (l : List Int) (j : Nat) : (midR P l j).length = l.length := by
  have := keepL_le P (l.take j)
  simp -implicitDefEqProofs (maxSteps := 3000000) [midR] at this ⊢; omega
theorem midR_get (P : Int → Prop) [DecidablePred P] {l : List Int} {j : Nat} (h : j < l.length) : rn (midR P l j) j = rn l j := by
  have h1 := keepL_take_le P l j
  simp only [midR, rn, List.getD, List.getElem?_append]
  rw [if_neg (by omega), List.getElem?_drop, show (keepL P (l.take j)).length + (j - (keepL P (l.take j)).length) = j by omega]
theorem midR_del (P : Int → Prop) [DecidablePred P] {l : List Int} {j : Nat} (h : j < l.length) (p : P (rn l j)) : midR P l (j + 1) = midR P l j := by
  simp -implicitDefEqProofs (maxSteps := 3000000) [midR, keepL_take P h, p]
theorem midR_keep (P : Int → Prop) [DecidablePred P] {l : List Int} {j : Nat} (h : j < l.length) (p : ¬ P (rn l j)) : (midR P l j).set (keepL P (l.take j)).length (rn l j) = midR P l (j + 1) := by
  have h1 := keepL_take_le P l j
  simp only [midR, keepL_take P h, if_neg p]
  rw [List.set_append_right _ _ (Nat.le_refl _), Nat.sub_self, List.drop_eq_getElem_cons (show (keepL P (l.take j)).length < l.length by omega), List.set_cons_zero, List.length_append, List.append_assoc]
  rfl
theorem clr (X : List Int) : ∀ (k n : Nat), k + n = X.length → setFrom X k (List.replicate n 0) = X.take k ++ List.replicate n 0
  | k, 0, h => by simp -implicitDefEqProofs (maxSteps := 3000000) [setFrom]; exact (List.take_of_length_le (by omega)).symm
  | k, n + 1, h => by
    rw [List.replicate_succ, setFrom, clr (X.set k 0) (k + 1) n (by simp; omega), List.take_set, List.take_succ_eq_append_getElem (show k < X.length by omega), List.set_append_right _ _ (by simp; omega), List.append_assoc]
    congr 1
    simp -implicitDefEqProofs (maxSteps := 3000000) [show min k X.length = k by omega]
theorem midR_end (P : Int → Prop) [DecidablePred P] (l : List Int) : (midR P l l.length).take (keepL P l).length = keepL P l := by
  simp -implicitDefEqProofs (maxSteps := 3000000) [midR]
end Go.Proofs.YtgklblkigjbggaaE
