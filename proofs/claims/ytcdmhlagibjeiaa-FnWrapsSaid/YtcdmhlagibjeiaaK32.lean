/- Contracts of functions of the program and of the reference: what the evaluator gives for a call of each. -/
import Derived.Test.YtcdmhlagibjeiaaAEf
import Derived.Test.YtcdmhlagibjeiaaK0
import Derived.Test.YtcdmhlagibjeiaaK3
import Derived.Test.YtcdmhlagibjeiaaK7
import Derived.Test.YtcdmhlagibjeiaaK8
import Derived.Test.YtcdmhlagibjeiaaK18
import Derived.Test.YtcdmhlagibjeiaaK28
namespace Go.Proofs.YtcdmhlagibjeiaaE
open Go Go.Proofs
set_option maxHeartbeats 4000000
set_option maxRecDepth 4000
set_option linter.unusedSimpArgs false
set_option linter.unusedVariables false
set_option pp.deepTerms false
set_option pp.deepTerms.threshold 10
/-! ## the program's subgroups -/
theorem ct_times2i (n : Nat) (hn : B + 1 ≤ n) (T : List (List Int)) (G : IsGr T) (a b : Int) (ha : 0 ≤ a ∧ a < T.length) (hb : 0 ≤ b ∧ b < T.length) :
    evalCall Try.prog An n 98 [.agg [.d (intss T)], .d (.sl 1 [.int .i64 a, .int .i64 b])] [] = some ⟨.d (.int .i64 (cl T a.toNat b.toNat)), [], []⟩ := by
  have c := ct_times2 n hn T G.1 a.toNat b.toNat (by omega) (by omega) (isGr_e0 G _ (by omega))
  rwa [Int.toNat_of_nonneg ha.1, Int.toNat_of_nonneg hb.1] at c
/-- What is known of the list of found elements. -/
structure Fnd (T : List (List Int)) (E X : List Int) : Prop where
  nd : X.Nodup
  rg : ∀ x ∈ X, 0 ≤ x ∧ x < T.length
  z : 0 < X.length ∧ rn X 0 = 0
  gen : ∀ S : List Int, (0 : Int) ∈ S → (∀ x ∈ S, ∀ a ∈ E, cl T x.toNat a.toNat ∈ S) → ∀ x ∈ X, x ∈ S
def Hit (T : List (List Int)) (E X : List Int) (i : Nat) : Prop := ∀ j < E.length, cl T (rn X i).toNat (rn E j).toNat ∈ X
theorem Fnd.len {T : List (List Int)} {E X : List Int} (F : Fnd T E X) : X.length ≤ T.length := nodup_len _ _ F.nd F.rg
theorem rn_app {X : List Int} {y : Int} {i : Nat} (h : i < X.length) : rn (X ++ [y]) i = rn X i := by
  simp -implicitDefEqProofs (maxSteps := 3000000) [rn, List.getD, List.getElem?_append, h]
theorem Fnd.add {T : List (List Int)} (R : RowsOk T) {E X : List Int} (hE : AllIn T.length E) (F : Fnd T E X) {i j : Nat} (hi : i < X.length) (hj : j < E.length) (h : cl T (rn X i).toNat (rn E j).toNat ∉ X) : Fnd T E (X ++ [cl T (rn X i).toNat (rn E j).toNat]) := by
  have hx := F.rg (rn X i) (mem_rn.2 ⟨i, hi, rfl⟩)
  have he := hE j hj
  have hc := (R.2 (rn X i).toNat (by omega)).2 (rn E j).toNat (by omega)
  refine ⟨?_, fun x hx => ?_, ⟨by simp, by rw [rn_app F.z.1]; exact F.z.2⟩, fun S h0 hS x hx => ?_⟩
  · rw [List.nodup_append]
    refine ⟨F.nd, by simp, fun a ha b hb e => ?_⟩
    simp only [List.mem_singleton] at hb
    subst hb; subst e; exact h ha
  · rcases List.mem_append.1 hx with y | y
    · exact F.rg x y
    · simp only [List.mem_singleton] at y; subst y; exact hc
  · rcases List.mem_append.1 hx with y | y
    · exact F.gen S h0 hS x y
    · simp only [List.mem_singleton] at y; subst y
      exact hS _ (F.gen S h0 hS _ (mem_rn.2 ⟨i, hi, rfl⟩)) _ (mem_rn.2 ⟨j, hj, rfl⟩)
end Go.Proofs.YtcdmhlagibjeiaaE
