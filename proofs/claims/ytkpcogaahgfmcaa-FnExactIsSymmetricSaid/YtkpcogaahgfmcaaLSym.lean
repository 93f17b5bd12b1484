/- Contracts of functions of the program and of the reference: what the evaluator gives for a call of each. -/
import Derived.Test.YtkpcogaahgfmcaaAEf
import Derived.Test.YtkpcogaahgfmcaaK0
import Derived.Test.YtkpcogaahgfmcaaK1
import Derived.Test.YtkpcogaahgfmcaaK2
import Derived.Test.YtkpcogaahgfmcaaK2b
import Derived.Test.YtkpcogaahgfmcaaK19
import Derived.Test.YtkpcogaahgfmcaaK20
namespace Go.Proofs.YtkpcogaahgfmcaaE
open Go Go.Proofs
set_option maxHeartbeats 8000000
set_option maxRecDepth 4000
set_option linter.unusedSimpArgs false
set_option linter.unusedVariables false
set_option pp.deepTerms false
set_option pp.deepTerms.threshold 10

theorem ct_FnExactIsSymmetric (n : Nat) (hn : B + 10 + 4 ≤ n) (T : List (List Int)) (M : Int) (D : Int) (V : List Int) (hT : (T.length : Int) ≤ 9223372036854775807) (rT : ∀ i, ((rown T i).length : Int) ≤ 9223372036854775807) (wM : -9223372036854775808 ≤ M ∧ M < 9223372036854775808) (hV : (V.length : Int) ≤ 9223372036854775807) :
    evalCall Try.prog An n 10 [.agg [.d (intss T)], .d (.int .i64 M), .agg [.d (.int .i64 D), .d (ints V)]] [] = some ⟨.d (.bool true), [], []⟩ := by
  obtain ⟨m, rfl⟩ : ∃ m, n = m + 1 := ⟨n - 1, by omega⟩
  have hB := B_eq
  simp only [evalCall_at, fb10, bnd_some, bodyOf, Try.f10, Option.getD_some]
  have s1 := ct_szGroup m (by omega) T (1048576) (by omega) hT rT
  have sle1 := szr_le (k := 1048576) (t := T) (by omega)
  by_cases z1 : szr (1048576) T < 0
  · simp -implicitDefEqProofs (maxSteps := 3000000) [s1, z1]
  obtain ⟨a1, a2⟩ := szr_nn z1 (by omega)
  have s2 := ct_szCochain m (by omega) D V (szr (1048576) T) (by omega) hV
  by_cases z2 : szr (1048576) T - V.length < 0
  · simp -implicitDefEqProofs (maxSteps := 3000000) [s1, z1, s2, z2]
  rw [if_neg z2] at s2
  have q0 := ct_toGroup m (by omega) T (by omega) (fun i => by have := a2 i; omega)
  have e0 := ct_eqGroup m (by omega) T (by omega) (fun i => by have := a2 i; omega)
  have q2 := ct_toCochain m (by omega) D V (by omega)
  have e2 := ct_eqCochain m (by omega) D V (by omega)
  by_cases h : SGood T M D V
  · have r1 := ct_specSym m (by omega) T (by omega) M D V (by omega) h
    have r2 := ct_implSym m (by omega) T (by omega) (fun i => by have := a2 i; omega) M D V (by omega) h
    simp -implicitDefEqProofs (maxSteps := 3000000) [s1, z1, s2, z2, q0, e0, q2, e2, r1, r2]
  · have r1 := ct_specSym_bad m (by omega) T (by omega) M D V (by omega) h
    have r2 := ct_implSym_bad m (by omega) T (by omega) (fun i => by have := a2 i; omega) M D V (by omega) h
    simp -implicitDefEqProofs (maxSteps := 3000000) [s1, z1, s2, z2, q0, e0, q2, e2, r1, r2]
end Go.Proofs.YtkpcogaahgfmcaaE
