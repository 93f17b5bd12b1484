/- Contracts of functions of the program and of the reference: what the evaluator gives for a call of each. -/
import Derived.Test.YtgklblkigjbggaaAEf
import Derived.Test.YtgklblkigjbggaaK0
namespace Go.Proofs.YtgklblkigjbggaaE
open Go Go.Proofs
set_option maxHeartbeats 2000000
set_option linter.unusedSimpArgs false
set_option linter.unusedVariables false
set_option pp.deepTerms false
set_option pp.deepTerms.threshold 10
/-! ## groups -/
theorem ct_l01N (n : Nat) (hn : B + 1 ≤ n) (T : List (List Int)) :
    evalCall Try.prog An n 43 [.agg [.d (intss T)]] [] = some ⟨.d (.int .i64 T.length), [], []⟩ := by
  obtain ⟨m, rfl⟩ : ∃ m, n = m + 1 := ⟨n - 1, by omega⟩
  have hB := B_eq
  simp only [evalCall_at, fb43, bnd_some, bodyOf, Try.f43, Option.getD_some]
  simp -implicitDefEqProofs (maxSteps := 3000000)
abbrev cl (T : List (List Int)) (a b : Nat) : Int := rn (rown T a) b
def RowsOk (T : List (List Int)) : Prop := (1 ≤ T.length ∧ T.length ≤ 8) ∧ ∀ a < T.length, (rown T a).length = T.length ∧ ∀ b < T.length, 0 ≤ cl T a b ∧ cl T a b < T.length
def Asc (T : List (List Int)) (a b : Nat) : Prop := ∀ d < T.length, cl T (cl T a b).toNat d = cl T a (cl T b d).toNat
def SLine (T : List (List Int)) (a : Nat) : Prop := (cl T 0 a = a ∧ cl T a 0 = a) ∧ (∀ b < T.length, Asc T a b) ∧ ∃ b < T.length, cl T a b = 0 ∧ cl T b a = 0
def IsGr (T : List (List Int)) : Prop := RowsOk T ∧ ∀ a < T.length, SLine T a
def fnd (T : List (List Int)) (a : Nat) : Nat → Bool
  | 0 => false
  | i + 1 => fnd T a i || (cl T a i == 0 && cl T i a == 0)
theorem fnd_true {T : List (List Int)} {a : Nat} : ∀ {n : Nat}, fnd T a n = true ↔ ∃ b < n, cl T a b = 0 ∧ cl T b a = 0
  | 0 => by simp -implicitDefEqProofs (maxSteps := 3000000) [fnd]
  | n + 1 => by
    simp only [fnd, Bool.or_eq_true, Bool.and_eq_true, beq_iff_eq, fnd_true (n := n)]
    constructor
    · rintro (⟨b, h1, h2⟩ | h2)
      · exact ⟨b, by omega, h2⟩
      · exact ⟨n, by omega, h2⟩
    · rintro ⟨b, h1, h2⟩
      by_cases e : b = n
      · subst e; exact .inr h2
      · exact .inl ⟨b, by omega, h2⟩
@[simp] def gfacts (T : List (List Int)) (s : St) : Prop := obsL s.obs 16 = some (1, .box [.d (intss T)]) ∧ lookL s.env 1 = some (.ptr 16 1 0) ∧ lookL s.env 3 = some (.d (.int .i64 T.length))
end Go.Proofs.YtgklblkigjbggaaE
