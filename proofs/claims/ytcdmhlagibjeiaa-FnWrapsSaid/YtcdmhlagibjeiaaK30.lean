/- Contracts of functions of the program and of the reference: what the evaluator gives for a call of each. -/
import Derived.Test.YtcdmhlagibjeiaaAEf
import Derived.Test.YtcdmhlagibjeiaaK0
import Derived.Test.YtcdmhlagibjeiaaK3
import Derived.Test.YtcdmhlagibjeiaaK28
import Derived.Test.YtcdmhlagibjeiaaK29
namespace Go.Proofs.YtcdmhlagibjeiaaE
open Go Go.Proofs
set_option maxHeartbeats 4000000
set_option maxRecDepth 4000
set_option linter.unusedSimpArgs false
set_option linter.unusedVariables false
set_option pp.deepTerms false
set_option pp.deepTerms.threshold 10
/-! ## closed sets -/
def Clo (T : List (List Int)) (s : Nat) : Prop := ∀ a b, s.testBit a = true → s.testBit b = true → s.testBit (cl T a b).toNat = true
structure Acc (T : List (List Int)) (s0 s : Nat) : Prop where
  lt : s < 256
  inn : ∀ a, s.testBit a = true → a < T.length
  sub : ∀ a, s0.testBit a = true → s.testBit a = true
  clo : Clo T s0 → s = s0
def mo (s0 s : Nat) : Bool := decide (s ≠ s0)
theorem or_tb (s z a : Nat) : (s ||| 2 ^ z).testBit a = true ↔ s.testBit a = true ∨ a = z := by
  rw [Nat.testBit_or, Bool.or_eq_true, Nat.testBit_two_pow, decide_eq_true_eq]
  exact ⟨fun h => h.imp id (fun e => e.symm), fun h => h.imp id (fun e => e.symm)⟩
theorem and_pow (s z : Nat) : s &&& 2 ^ z = 0 ↔ s.testBit z = false := by
  constructor
  · intro h
    have h1 := congrArg (fun x => Nat.testBit x z) h
    simpa [Nat.testBit_and, Nat.testBit_two_pow] using h1
  · intro h
    apply Nat.eq_of_testBit_eq
    intro i
    rw [Nat.testBit_and, Nat.testBit_two_pow, Nat.zero_testBit]
    by_cases e : z = i
    · subst e; simp -implicitDefEqProofs (maxSteps := 3000000) [h]
    · simp -implicitDefEqProofs (maxSteps := 3000000) [e]
theorem Acc.add {T : List (List Int)} (hN : T.length ≤ 8) {s0 s : Nat} (A : Acc T s0 s) {a b : Nat} (ha : s0.testBit a = true) (hb : s0.testBit b = true) (hz : (cl T a b).toNat < T.length) (h : s.testBit (cl T a b).toNat = false) :
    Acc T s0 (s ||| 2 ^ (cl T a b).toNat) ∧ mo s0 (s ||| 2 ^ (cl T a b).toNat) = true := by
  have hp : 2 ^ (cl T a b).toNat < 2 ^ 8 := Nat.pow_lt_pow_right (by omega) (by omega)
  refine ⟨⟨Nat.or_lt_two_pow (n := 8) A.lt hp, fun x hx => ?_, fun x hx => (or_tb _ _ _).2 (.inl (A.sub x hx)), fun hc => ?_⟩, decide_eq_true fun e => ?_⟩
  · rcases (or_tb _ _ _).1 hx with z | z
    · exact A.inn x z
    · omega
  · have := hc a b ha hb
    rw [A.sub _ this] at h; exact absurd h (by simp -implicitDefEqProofs (maxSteps := 3000000))
  · have h1 : (s ||| 2 ^ (cl T a b).toNat).testBit (cl T a b).toNat = true := (or_tb _ _ _).2 (.inr rfl)
    rw [e] at h1
    rw [A.sub _ h1] at h; exact absurd h (by simp -implicitDefEqProofs (maxSteps := 3000000))
def prd (T : List (List Int)) (L : List Int) (i k : Nat) : Nat := (cl T (rn L i).toNat (rn L k).toNat).toNat
theorem bitL_elem {s i : Nat} (h : i < (bitL s).length) : ∃ a < 8, s.testBit a = true ∧ rn (bitL s) i = (a : Int) := by
  have := (mem_bitL s (rn (bitL s) i)).1 (mem_rn.2 ⟨i, h, rfl⟩)
  exact this
end Go.Proofs.YtcdmhlagibjeiaaE
