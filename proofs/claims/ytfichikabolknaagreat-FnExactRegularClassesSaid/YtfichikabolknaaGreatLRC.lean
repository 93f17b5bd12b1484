/- Contracts of functions of the program and of the reference: what the evaluator gives for a call of each. -/
import Derived.Test.YtfichikabolknaaGreatAEf
import Derived.Test.YtfichikabolknaaGreatK0
import Derived.Test.YtfichikabolknaaGreatK1
import Derived.Test.YtfichikabolknaaGreatK2
import Derived.Test.YtfichikabolknaaGreatK2b
import Derived.Test.YtfichikabolknaaGreatK19
import Derived.Test.YtfichikabolknaaGreatK21
import Derived.Test.YtfichikabolknaaGreatK87M
namespace Go.Proofs.YtfichikabolknaaGreatE
open Go Go.Proofs
set_option maxHeartbeats 8000000
set_option maxRecDepth 4000
set_option linter.unusedSimpArgs false
set_option linter.unusedVariables false
set_option pp.deepTerms false
set_option pp.deepTerms.threshold 10

theorem ct_FnExactRegularClasses (n : Nat) (hn : B + 11 + 12 ≤ n) (T : List (List Int)) (M : Int) (D : Int) (V : List Int) (hT : (T.length : Int) ≤ 9223372036854775807) (rT : ∀ i, ((rown T i).length : Int) ≤ 9223372036854775807) (wM : -9223372036854775808 ≤ M ∧ M < 9223372036854775808) (hV : (V.length : Int) ≤ 9223372036854775807) :
    evalCall Tryz.prog An n 6 [.agg [.d (intss T)], .d (.int .i64 M), .agg [.d (.int .i64 D), .d (ints V)]] [] = some ⟨.d (.bool true), [], []⟩ := by
  obtain ⟨m, rfl⟩ : ∃ m, n = m + 1 := ⟨n - 1, by omega⟩
  have hB := B_eq
  simp only [evalCall_at, fb6, bnd_some, bodyOf, Tryz.f6, Option.getD_some]
  have s1 := ct_szGroup m (by omega) T (1048576) (by omega) hT rT
  have sle1 := szr_le (k := 1048576) (t := T) (by omega)
  by_cases z1 : szr (1048576) T < 0
  · simp -implicitDefEqProofs (maxSteps := 3000000) [s1, z1]
  obtain ⟨a1, a2⟩ := szr_nn z1 (by omega)
  have s2 := ct_szCochain m (by omega) D V (szr (1048576) T) (by omega) hV
  by_cases z2 : szr (1048576) T - V.length < 0
  · simp -implicitDefEqProofs (maxSteps := 3000000) [s1, z1, s2, z2]
  rw [if_neg z2] at s2
  have q0 := ct_toGroup m (by omega) T (by omega) (fun i => by have := a2 i; omega)
  have e0 := ct_eqGroup m (by omega) T (by omega) (fun i => by have := a2 i; omega)
  have q2 := ct_toCochain m (by omega) D V (by omega)
  have e2 := ct_eqCochain m (by omega) D V (by omega)
  have bd := mkv_szs 1 1048576 T T.length
  have bd2 := szs_nn z1
  have bd3 := (mkv_bd 1 T (fun i => by have := a2 i; omega) T.length).1
  have bd4 := szr_last z1
  have k0 := ct_markGroup m (by omega) T (by omega) (fun i => by have := a2 i; omega) 1 (by omega)
  have k2 := ct_markCochain m (by omega) D V (by omega) (mkv 1 T T.length) (by omega)
  have n1 : ¬ (mkv 1 T T.length + V.length < 0) := by omega
  by_cases h : SGood T M D V
  · have r1 := rcl_eq T M V ▸ ct_specRC m (by omega) T M D V (by omega) h
    have r2 := ct_implRC m (by omega) T (by omega) (fun i => by have := a2 i; omega) M D V (by omega) h
    have hq := rcQ_len T M V
    have rl := fun i => rcQ_row T M V i
    have tl := h.1.1.1
    generalize rcQ T M V = Q at r1 r2 hq rl
    have x1 := ct_eqInt64SS m (by omega) Q (by omega) (fun i => by have := rl i; omega)
    have y1 := ct_markInt64SS m (by omega) Q (by omega) (fun i => by have := rl i; omega) (1) (by omega)
    have v1 := ct_heldInt64SS m (by omega) Q (by omega) (fun i => by have := rl i; omega) (1) (by omega)
    have mb1 := mkv_bd (1) Q (fun i => by have := rl i; omega) Q.length
    have n2 : ¬ (mkv (1) Q Q.length < 0) := by omega
    simp -implicitDefEqProofs (maxSteps := 3000000) [s1, z1, s2, z2, q0, e0, q2, e2, k0, k2, n1, r1, r2, x1, y1, v1, n2]
  · have r1 := ct_specRC_bad m (by omega) T (by omega) M D V (by omega) h
    have r2 := ct_implRC_bad m (by omega) T (by omega) (fun i => by have := a2 i; omega) M D V (by omega) h
    have x1 := ct_eqInt64SS_nil m (by omega)
    have y1 := ct_markInt64SS_nil m (by omega) (1)
    have v1 := ct_heldInt64SS_nil m (by omega) (1)
    simp -implicitDefEqProofs (maxSteps := 3000000) [s1, z1, s2, z2, q0, e0, q2, e2, k0, k2, n1, r1, r2, x1, y1, v1]
end Go.Proofs.YtfichikabolknaaGreatE
