/- Contracts of functions of the program and of the reference: what the evaluator gives for a call of each. -/
import Derived.Test.YtcdmhlagibjeiaaAEf
import Derived.Test.YtcdmhlagibjeiaaK0
namespace Go.Proofs.YtcdmhlagibjeiaaE
open Go Go.Proofs
set_option maxHeartbeats 1000000
set_option linter.unusedSimpArgs false
set_option linter.unusedVariables false
set_option pp.deepTerms false
set_option pp.deepTerms.threshold 10
/-! ## equal rows are told equal -/
def marks (k : Int) : Nat → List Int
  | 0 => []
  | n + 1 => marks k n ++ [k + n]
@[simp] theorem marks_len (k : Int) (n : Nat) : (marks k n).length = n := by induction n with
  | zero => rfl
  | succ n ih => simp -implicitDefEqProofs (maxSteps := 3000000) [marks, ih]
theorem marks_get (k : Int) : ∀ (n i : Nat), i < n → rn (marks k n) i = k + i
  | n + 1, i, h => by
    simp only [marks, rn, List.getD, List.getElem?_append, marks_len]
    by_cases h2 : i < n
    · rw [if_pos h2]
      exact marks_get k n i h2
    · obtain rfl : i = n := by omega
      simp -implicitDefEqProofs (maxSteps := 3000000)
theorem marks_set (k : Int) (l : List Int) {i : Nat} (h : i < l.length) : (marks k i ++ l.drop i).set i (k + i) = marks k (i + 1) ++ l.drop (i + 1) := by
  rw [List.set_append_right _ _ (by simp -implicitDefEqProofs (maxSteps := 3000000)), marks_len, Nat.sub_self, List.drop_eq_getElem_cons h, List.set_cons_zero, marks, List.append_assoc]
  rfl
theorem rown_set (t : List (List Int)) {r : Nat} (h : r < t.length) (x : List Int) : rown (t.set r x) r = x := by simp -implicitDefEqProofs (maxSteps := 3000000) [rown, h]
theorem set_rown (t : List (List Int)) (r : Nat) : t.set r (rown t r) = t := by
  by_cases h : r < t.length
  · simp -implicitDefEqProofs (maxSteps := 3000000) [rown, List.getD, h]
  · exact List.set_eq_of_length_le (by omega)
def mkv (k : Int) (t : List (List Int)) : Nat → Int
  | 0 => k
  | i + 1 => mkv k t i + (rown t i).length
def mkt (k : Int) (t : List (List Int)) : Nat → List (List Int)
  | 0 => t
  | i + 1 => (mkt k t i).set i (marks (mkv k t i) (rown t i).length)
theorem mkv_bd (k : Int) (t : List (List Int)) (hr : ∀ i, (rown t i).length ≤ 1048576) : ∀ i, k ≤ mkv k t i ∧ mkv k t i ≤ k + i * 1048576
  | 0 => by simp -implicitDefEqProofs (maxSteps := 3000000) [mkv]
  | i + 1 => by have := mkv_bd k t hr i; have := hr i; simp only [mkv]; omega
@[simp] theorem mkt_len (k : Int) (t : List (List Int)) : ∀ i, (mkt k t i).length = t.length
  | 0 => rfl
  | i + 1 => by simp -implicitDefEqProofs (maxSteps := 3000000) [mkt, mkt_len k t i]
theorem rown_set_ne (t : List (List Int)) {r j : Nat} (h : r ≠ j) (x : List Int) : rown (t.set r x) j = rown t j := by simp -implicitDefEqProofs (maxSteps := 3000000) [rown, List.getD, h]
@[simp] theorem mkt_row (k : Int) (t : List (List Int)) : ∀ i j, (rown (mkt k t i) j).length = (rown t j).length
  | 0, j => rfl
  | i + 1, j => by
    simp only [mkt]
    by_cases z : i = j
    · subst z
      by_cases h : i < t.length
      · rw [rown_set _ (by simpa using h), marks_len]
      · rw [List.set_eq_of_length_le (by simp; omega), mkt_row k t i i]
    · rw [rown_set_ne _ z, mkt_row k t i j]
end Go.Proofs.YtcdmhlagibjeiaaE
