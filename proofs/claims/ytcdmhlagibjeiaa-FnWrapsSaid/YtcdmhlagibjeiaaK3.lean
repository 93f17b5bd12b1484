/- Contracts of functions of the program and of the reference: what the evaluator gives for a call of each. -/
import Derived.Test.YtcdmhlagibjeiaaAEf
import Derived.Test.YtcdmhlagibjeiaaK0
namespace Go.Proofs.YtcdmhlagibjeiaaE
open Go Go.Proofs
set_option maxHeartbeats 2000000
set_option linter.unusedSimpArgs false
set_option linter.unusedVariables false
set_option pp.deepTerms false
set_option pp.deepTerms.threshold 10
/-! ## groups -/
theorem ct_l01In (n : Nat) (hn : B + 1 ≤ n) (a b c : Int) :
    evalCall Try.prog An n 54 [.d (.int .i64 a), .d (.int .i64 b), .d (.int .i64 c)] [] = some ⟨.d (.bool (decide (b ≤ a ∧ a ≤ c))), [], []⟩ := by
  obtain ⟨m, rfl⟩ : ∃ m, n = m + 1 := ⟨n - 1, by omega⟩
  have hB := B_eq
  simp only [evalCall_at, fb54, bnd_some, bodyOf, Try.f54, Option.getD_some]
  by_cases h1 : b ≤ a
  · simp -implicitDefEqProofs (maxSteps := 3000000) [h1]
  · simp -implicitDefEqProofs (maxSteps := 3000000) [h1]
theorem ct_l01In_t (n : Nat) (hn : B + 1 ≤ n) (a b c : Int) (h : b ≤ a ∧ a ≤ c) :
    evalCall Try.prog An n 54 [.d (.int .i64 a), .d (.int .i64 b), .d (.int .i64 c)] [] = some ⟨.d (.bool true), [], []⟩ := by
  rw [ct_l01In n hn, decide_eq_true h]
theorem ct_l01In_f (n : Nat) (hn : B + 1 ≤ n) (a b c : Int) (h : ¬ (b ≤ a ∧ a ≤ c)) :
    evalCall Try.prog An n 54 [.d (.int .i64 a), .d (.int .i64 b), .d (.int .i64 c)] [] = some ⟨.d (.bool false), [], []⟩ := by
  rw [ct_l01In n hn, decide_eq_false h]
abbrev cl (T : List (List Int)) (a b : Nat) : Int := rn (rown T a) b
def RowsOk (T : List (List Int)) : Prop := (1 ≤ T.length ∧ T.length ≤ 8) ∧ ∀ a < T.length, (rown T a).length = T.length ∧ ∀ b < T.length, 0 ≤ cl T a b ∧ cl T a b < T.length
def Asc (T : List (List Int)) (a b : Nat) : Prop := ∀ d < T.length, cl T (cl T a b).toNat d = cl T a (cl T b d).toNat
def SLine (T : List (List Int)) (a : Nat) : Prop := (cl T 0 a = a ∧ cl T a 0 = a) ∧ (∀ b < T.length, Asc T a b) ∧ ∃ b < T.length, cl T a b = 0 ∧ cl T b a = 0
def IsGr (T : List (List Int)) : Prop := RowsOk T ∧ ∀ a < T.length, SLine T a
def fnd (T : List (List Int)) (a : Nat) : Nat → Bool
  | 0 => false
  | i + 1 => fnd T a i || (cl T a i == 0 && cl T i a == 0)
theorem fnd_true {T : List (List Int)} {a : Nat} : ∀ {n : Nat}, fnd T a n = true ↔ ∃ b < n, cl T a b = 0 ∧ cl T b a = 0
  | 0 => by simp -implicitDefEqProofs (maxSteps := 3000000) [fnd]
  | n + 1 => by
    simp only [fnd, Bool.or_eq_true, Bool.and_eq_true, beq_iff_eq, fnd_true (n := n)]
    constructor
    · rintro (⟨b, h1, h2⟩ | h2)
      · exact ⟨b, by omega, h2⟩
      · exact ⟨n, by omega, h2⟩
    · rintro ⟨b, h1, h2⟩
      by_cases e : b = n
      · subst e; exact .inr h2
      · exact .inl ⟨b, by omega, h2⟩
@[simp] def gfacts (T : List (List Int)) (s : St) : Prop := obsL s.obs 16 = some (1, .box [.d (intss T)]) ∧ lookL s.env 1 = some (.ptr 16 1 0) ∧ lookL s.env 3 = some (.d (.int .i64 T.length))
end Go.Proofs.YtcdmhlagibjeiaaE
