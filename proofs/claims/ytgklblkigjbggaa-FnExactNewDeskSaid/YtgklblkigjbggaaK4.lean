/- Contracts of functions of the program and of the reference: what the evaluator gives for a call of each. -/
import Derived.Test.YtgklblkigjbggaaAEf
import Derived.Test.YtgklblkigjbggaaK0
import Derived.Test.YtgklblkigjbggaaK3
namespace Go.Proofs.YtgklblkigjbggaaE
open Go Go.Proofs
set_option maxHeartbeats 2000000
set_option linter.unusedSimpArgs false
set_option linter.unusedVariables false
set_option pp.deepTerms false
set_option pp.deepTerms.threshold 10
/-! ## modules -/
def gcdI (a b : Int) : Int := ((Nat.gcd a.toNat b.toNat : Nat) : Int)
theorem gcdI_zero {a : Int} (h : 0 ≤ a) : gcdI a 0 = a := by unfold gcdI; simp; omega
theorem gcdI_comm (a b : Int) : gcdI a b = gcdI b a := by unfold gcdI; rw [Nat.gcd_comm]
theorem gcdI_nonneg (a b : Int) : 0 ≤ gcdI a b := by unfold gcdI; omega
theorem gcdI_le_left {a : Int} (b : Int) (h : 0 < a) : gcdI a b ≤ a := by
  unfold gcdI
  have := Nat.gcd_le_left (m := a.toNat) b.toNat (by omega)
  omega
theorem gcdI_pos {a : Int} (b : Int) (h : 0 < a) : 0 < gcdI a b := by
  unfold gcdI
  have := Nat.gcd_pos_of_pos_left (m := a.toNat) b.toNat (by omega)
  omega
theorem gcdI_step {a b : Int} (ha : 0 ≤ a) (hb : 0 < b) : gcdI b (a % b) = gcdI a b := by
  obtain ⟨a, rfl⟩ := Int.eq_ofNat_of_zero_le ha
  obtain ⟨b, rfl⟩ := Int.eq_ofNat_of_zero_le (Int.le_of_lt hb)
  unfold gcdI
  rw [← Int.natCast_emod, Int.toNat_natCast, Int.toNat_natCast, Int.toNat_natCast]
  rw [Nat.gcd_comm b, ← Nat.gcd_rec, Nat.gcd_comm]
theorem mul_bd {a b x y : Int} (a0 : 0 ≤ a) (ax : a ≤ x) (b0 : 0 ≤ b) (bx : b ≤ y) : 0 ≤ a * b ∧ a * b ≤ x * y :=
  ⟨Int.mul_nonneg a0 b0, Int.mul_le_mul ax bx b0 (by omega)⟩
theorem tmod_nn {a : Int} (b : Int) (h : 0 ≤ a) : a.tmod b = a % b := Int.tmod_eq_emod_of_nonneg h
def Unit1 (M u : Int) : Prop := (1 ≤ u ∧ u ≤ M - 1) ∧ gcdI u M = 1
def Act1 (T : List (List Int)) (M : Int) (U : List Int) (a : Nat) : Prop := ∀ b < U.length, rn U (cl T a b).toNat = rn U a * rn U b % M
def IsMo (T : List (List Int)) (M : Int) (U : List Int) : Prop := ((2 ≤ M ∧ M ≤ 12) ∧ U.length = T.length) ∧ (∀ i < U.length, Unit1 M (rn U i)) ∧ ∀ a < U.length, Act1 T M U a
@[simp] def mfacts (T : List (List Int)) (M : Int) (U : List Int) (s : St) : Prop := obsL s.obs 32 = some (1, .box [.d (intss T)]) ∧ obsL s.obs 48 = some (2, .box [.d (.int .i64 M), .d (ints U)]) ∧ lookL s.env 2 = some (.ptr 32 1 0) ∧ lookL s.env 3 = some (.ptr 48 2 0)
end Go.Proofs.YtgklblkigjbggaaE
