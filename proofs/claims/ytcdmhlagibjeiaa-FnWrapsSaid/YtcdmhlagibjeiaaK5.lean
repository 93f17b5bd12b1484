/- Contracts of functions of the program and of the reference: what the evaluator gives for a call of each. -/
import Derived.Test.YtcdmhlagibjeiaaAEf
import Derived.Test.YtcdmhlagibjeiaaK0
namespace Go.Proofs.YtcdmhlagibjeiaaE
open Go Go.Proofs
set_option maxHeartbeats 2000000
set_option linter.unusedSimpArgs false
set_option linter.unusedVariables false
set_option pp.deepTerms false
set_option pp.deepTerms.threshold 10
/-! ## cochains -/
def cellsOf_ (N : Nat) (D : Int) : Int := ((N : Int) - 1) ^ D.toNat
theorem cells_bd {N : Nat} (hN : 1 ≤ N ∧ N ≤ 8) : ∀ i : Nat, i ≤ 3 → 0 ≤ ((N : Int) - 1) ^ i ∧ ((N : Int) - 1) ^ i ≤ 343 := by
  intro i hi
  have e : i = 0 ∨ i = 1 ∨ i = 2 ∨ i = 3 := by omega
  have hn : N = 1 ∨ N = 2 ∨ N = 3 ∨ N = 4 ∨ N = 5 ∨ N = 6 ∨ N = 7 ∨ N = 8 := by omega
  rcases e with rfl | rfl | rfl | rfl <;> rcases hn with rfl | rfl | rfl | rfl | rfl | rfl | rfl | rfl <;> decide
def IsCo (T : List (List Int)) (M D : Int) (V : List Int) : Prop := (0 ≤ D ∧ D ≤ 3) ∧ (V.length : Int) = cellsOf_ T.length D ∧ ∀ i < V.length, 0 ≤ rn V i ∧ rn V i ≤ M - 1
def restU (V : List Int) (q : Int) : List Int := V.map (· % q)
theorem restU_succ (V : List Int) (q : Int) {i : Nat} (h : i < V.length) : restU (V.take i) q ++ [rn V i % q] = restU (V.take (i + 1)) q := by
  simp only [restU, List.take_add_one, List.map_append, rn, List.getD]
  rw [List.getElem?_eq_getElem h]
  rfl
end Go.Proofs.YtcdmhlagibjeiaaE
