/- Contracts of functions of the program and of the reference: what the evaluator gives for a call of each. -/
import Derived.Test.YtcdmhlagibjeiaaAEf
import Derived.Test.YtcdmhlagibjeiaaK0
import Derived.Test.YtcdmhlagibjeiaaK24
import Derived.Test.YtcdmhlagibjeiaaK28
namespace Go.Proofs.YtcdmhlagibjeiaaE
open Go Go.Proofs
set_option maxHeartbeats 4000000
set_option maxRecDepth 4000
set_option linter.unusedSimpArgs false
set_option linter.unusedVariables false
set_option pp.deepTerms false
set_option pp.deepTerms.threshold 10
/-! ## sets as bits -/
theorem b64 : IntKind.bits .i64 = 64 := rfl
theorem fdiv_pow (s i : Nat) : (s : Int).fdiv ((2 : Int) ^ i) = ((s / 2 ^ i : Nat) : Int) := by
  have e : (2 : Int) ^ i = ((2 ^ i : Nat) : Int) := by simp -implicitDefEqProofs (maxSteps := 3000000)
  rw [e, Int.fdiv_eq_ediv_of_nonneg _ (Int.natCast_nonneg _)]; rfl
theorem mod64 {q : Nat} (h : q < 18446744073709551616) : ((q : Int) % 18446744073709551616).toNat = q := by omega
theorem tb (s i : Nat) : s.testBit i = decide (s / 2 ^ i % 2 = 1) := Nat.testBit_eq_decide_div_mod_eq
def bitL (s : Nat) : List Int := thoseL (fun a => s.testBit a) 8
theorem mem_those (q : Nat → Bool) (z : Int) : ∀ n : Nat, z ∈ thoseL q n ↔ ∃ a < n, q a = true ∧ z = (a : Int)
  | 0 => by simp -implicitDefEqProofs (maxSteps := 3000000)
  | n + 1 => by
    rw [thoseL_succ, List.mem_append, mem_those q z n]
    by_cases h : q n = true
    · rw [if_pos h]
      constructor
      · rintro (⟨a, h1, h2⟩ | h1)
        · exact ⟨a, by omega, h2⟩
        · exact ⟨n, by omega, h, by simpa using h1⟩
      · rintro ⟨a, h1, h2, h3⟩
        by_cases e : a = n
        · right; subst e; simp -implicitDefEqProofs (maxSteps := 3000000) [h3]
        · left; exact ⟨a, by omega, h2, h3⟩
    · rw [if_neg h]
      constructor
      · rintro (⟨a, h1, h2⟩ | h1)
        · exact ⟨a, by omega, h2⟩
        · simp -implicitDefEqProofs (maxSteps := 3000000) at h1
      · rintro ⟨a, h1, h2, h3⟩
        left
        refine ⟨a, ?_, h2, h3⟩
        have : a ≠ n := fun e => h (e ▸ h2)
        omega
theorem mem_bitL (s : Nat) (z : Int) : z ∈ bitL s ↔ ∃ a < 8, s.testBit a = true ∧ z = (a : Int) := mem_those _ z 8
/-! ## the bits of a list -/
def bitsA (l : List Int) : Nat → Nat
  | 0 => 0
  | i + 1 => bitsA l i ||| 2 ^ (rn l i).toNat
def bitsOf (l : List Int) : Nat := bitsA l l.length
theorem bitsA_lt {l : List Int} (h : ∀ i < l.length, 0 ≤ rn l i ∧ rn l i < 8) : ∀ i ≤ l.length, bitsA l i < 256
  | 0, _ => by simp -implicitDefEqProofs (maxSteps := 3000000) [bitsA]
  | i + 1, hi => by
    have h1 := h i (by omega)
    have h2 : 2 ^ (rn l i).toNat < 2 ^ 8 := Nat.pow_lt_pow_right (by omega) (by omega)
    exact Nat.or_lt_two_pow (n := 8) (bitsA_lt h i (by omega)) h2
theorem bitsA_tb {l : List Int} (h : ∀ i < l.length, 0 ≤ rn l i ∧ rn l i < 8) (a : Nat) : ∀ i ≤ l.length, ((bitsA l i).testBit a = true ↔ ∃ j < i, rn l j = (a : Int))
  | 0, _ => by simp -implicitDefEqProofs (maxSteps := 3000000) [bitsA]
  | i + 1, hi => by
    have h1 := h i (by omega)
    rw [bitsA, Nat.testBit_or, Bool.or_eq_true, bitsA_tb h a i (by omega), Nat.testBit_two_pow, decide_eq_true_eq]
    constructor
    · rintro (⟨j, h2, h3⟩ | h2)
      · exact ⟨j, by omega, h3⟩
      · exact ⟨i, by omega, by omega⟩
    · rintro ⟨j, h2, h3⟩
      by_cases e : j = i
      · right; subst e; omega
      · left; exact ⟨j, by omega, h3⟩
theorem bits_tb {l : List Int} (h : ∀ i < l.length, 0 ≤ rn l i ∧ rn l i < 8) (a : Nat) : (bitsOf l).testBit a = true ↔ (a : Int) ∈ l := by
  rw [bitsOf, bitsA_tb h a l.length (Nat.le_refl _), mem_rn]
end Go.Proofs.YtcdmhlagibjeiaaE
