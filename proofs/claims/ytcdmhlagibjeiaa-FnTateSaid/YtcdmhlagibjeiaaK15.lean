/- Contracts of functions of the program and of the reference: what the evaluator gives for a call of each. -/
import Derived.Test.YtcdmhlagibjeiaaAEf
import Derived.Test.YtcdmhlagibjeiaaK0
namespace Go.Proofs.YtcdmhlagibjeiaaE
open Go Go.Proofs
set_option maxHeartbeats 2000000
set_option linter.unusedSimpArgs false
set_option linter.unusedVariables false
set_option pp.deepTerms false
set_option pp.deepTerms.threshold 10
/-! ## how many cells: up to the degree 4 -/
theorem cells_bd4 {N : Nat} (hN : 1 ≤ N ∧ N ≤ 8) : ∀ i : Nat, i ≤ 4 → 0 ≤ ((N : Int) - 1) ^ i ∧ ((N : Int) - 1) ^ i ≤ 2401 := by
  intro i hi
  have e : i = 0 ∨ i = 1 ∨ i = 2 ∨ i = 3 ∨ i = 4 := by omega
  have hn : N = 1 ∨ N = 2 ∨ N = 3 ∨ N = 4 ∨ N = 5 ∨ N = 6 ∨ N = 7 ∨ N = 8 := by omega
  rcases e with rfl | rfl | rfl | rfl | rfl <;> rcases hn with rfl | rfl | rfl | rfl | rfl | rfl | rfl | rfl <;> decide
def numA (N : Nat) (l : List Int) : Nat → Int
  | 0 => 0
  | k + 1 => numA N l k * ((N : Int) - 1) + rn l k - 1
theorem numA_bd {N : Nat} (hN : 1 ≤ N) {l : List Int} : ∀ k : Nat, (∀ j < k, 1 ≤ rn l j ∧ rn l j < N) → 0 ≤ numA N l k ∧ numA N l k < ((N : Int) - 1) ^ k
  | 0, _ => by simp -implicitDefEqProofs (maxSteps := 3000000) [numA]
  | k + 1, h => by
    obtain ⟨h1, h2⟩ := numA_bd hN k (fun j hj => h j (by omega))
    have h3 := h k (by omega)
    have h4 : 0 ≤ numA N l k * ((N : Int) - 1) := Int.mul_nonneg h1 (by omega)
    have h5 : (numA N l k + 1) * ((N : Int) - 1) ≤ ((N : Int) - 1) ^ k * ((N : Int) - 1) := Int.mul_le_mul_of_nonneg_right (by omega) (by omega)
    rw [Int.add_mul] at h5
    simp only [numA, Int.pow_succ]
    omega
def NoZ (l : List Int) : Prop := ∀ i < l.length, rn l i ≠ 0
noncomputable def atv (N : Nat) (V l : List Int) : Int := @ite Int (NoZ l) (Classical.propDecidable _) (rn V (numA N l l.length).toNat) 0
def InG (N : Nat) (l : List Int) : Prop := ∀ i < l.length, 0 ≤ rn l i ∧ rn l i < N
theorem rn_mem_bd {V : List Int} {b : Int} (hb : 0 ≤ b) (hV : ∀ i < V.length, 0 ≤ rn V i ∧ rn V i ≤ b) (i : Nat) : 0 ≤ rn V i ∧ rn V i ≤ b := by
  by_cases h : i < V.length
  · exact hV i h
  · have : rn V i = 0 := by simp -implicitDefEqProofs (maxSteps := 3000000) [rn, List.getD, List.getElem?_eq_none (show V.length ≤ i by omega)]
    omega
theorem atv_bd {N : Nat} {V l : List Int} {b : Int} (hb : 0 ≤ b) (hV : ∀ i < V.length, 0 ≤ rn V i ∧ rn V i ≤ b) : 0 ≤ atv N V l ∧ atv N V l ≤ b := by
  unfold atv
  split
  · exact rn_mem_bd hb hV _
  · omega
def dig (b n i k : Nat) : Int := ((1 + i / b ^ (n - 1 - k) % b : Nat) : Int)
def digs (b n i : Nat) : List Int := tabI (dig b n i) n
def rowJ (b n i j : Nat) : List Int := tabI (fun k => if n ≤ k + j then dig b n i k else 0) n
@[simp] theorem digs_len (b n i : Nat) : (digs b n i).length = n := by simp -implicitDefEqProofs (maxSteps := 3000000) [digs]
@[simp] theorem rowJ_len (b n i j : Nat) : (rowJ b n i j).length = n := by simp -implicitDefEqProofs (maxSteps := 3000000) [rowJ]
theorem rowJ_zero (b n i : Nat) : List.replicate n 0 = rowJ b n i 0 := by
  apply List.ext_getElem
  · simp -implicitDefEqProofs (maxSteps := 3000000)
  · intro k h1 h2
    have h : k < n := by simpa using h1
    simp -implicitDefEqProofs (maxSteps := 3000000) [rowJ, tabI, show ¬ n ≤ k by omega]
theorem rowJ_set (b n i j : Nat) (hj : j < n) : (rowJ b n i j).set (n - 1 - j) (((1 + i / b ^ j % b : Nat)) : Int) = rowJ b n i (j + 1) := by
  apply List.ext_getElem
  · simp -implicitDefEqProofs (maxSteps := 3000000)
  · intro k h1 h2
    have h : k < n := by simpa using h2
    simp only [List.getElem_set, rowJ, tabI, List.getElem_map, List.getElem_range]
    by_cases e : n - 1 - j = k
    · rw [if_pos e, if_pos (by omega), dig, show n - 1 - k = j by omega]
    · rw [if_neg e]
      by_cases e2 : n ≤ k + j
      · rw [if_pos e2, if_pos (by omega)]
      · rw [if_neg e2, if_neg (by omega)]
theorem rowJ_all (b n i : Nat) : rowJ b n i n = digs b n i := by
  unfold rowJ digs
  congr 1
  funext k
  rw [if_pos (by omega)]
theorem rn_digs {b n i k : Nat} (hk : k < n) : rn (digs b n i) k = dig b n i k := rn_tabI _ hk
theorem digs_bd {b n i : Nat} (hi : i < b ^ n) : ∀ k < n, 1 ≤ rn (digs b n i) k ∧ rn (digs b n i) k ≤ b := by
  intro k hk
  rw [rn_digs hk, dig]
  have hb : 0 < b := by
    rcases Nat.eq_zero_or_pos b with z | z
    · subst z
      rw [Nat.zero_pow (by omega)] at hi
      omega
    · exact z
  have := Nat.mod_lt (i / b ^ (n - 1 - k)) hb
  omega
theorem digs_inG {N n i : Nat} (hN : 1 ≤ N) (hi : i < (N - 1) ^ n) : InG N (digs (N - 1) n i) := fun k hk => by
  have := digs_bd hi k (by simpa using hk)
  omega
theorem div_pow_succ (i b j : Nat) : i / b ^ j / b = i / b ^ (j + 1) := by rw [Nat.div_div_eq_div_mul, Nat.pow_succ]
end Go.Proofs.YtcdmhlagibjeiaaE
