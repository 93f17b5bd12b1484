/- Contracts of functions of the program and of the reference: what the evaluator gives for a call of each. -/
import Derived.Test.YtkpcogaahgfmcaaAEf
import Derived.Test.YtkpcogaahgfmcaaK0
import Derived.Test.YtkpcogaahgfmcaaK1
import Derived.Test.YtkpcogaahgfmcaaK2
import Derived.Test.YtkpcogaahgfmcaaK2b
import Derived.Test.YtkpcogaahgfmcaaK14
import Derived.Test.YtkpcogaahgfmcaaK17
import Derived.Test.YtkpcogaahgfmcaaK18
namespace Go.Proofs.YtkpcogaahgfmcaaE
open Go Go.Proofs
set_option maxHeartbeats 8000000
set_option maxRecDepth 4000
set_option linter.unusedSimpArgs false
set_option linter.unusedVariables false
set_option pp.deepTerms false
set_option pp.deepTerms.threshold 10

theorem ct_FnExactConnectingCochain (n : Nat) (hn : B + 9 + 4 ≤ n) (T : List (List Int)) (M : Int) (U : List Int) (k : Int) (D : Int) (V : List Int) (hT : (T.length : Int) ≤ 9223372036854775807) (rT : ∀ i, ((rown T i).length : Int) ≤ 9223372036854775807) (hU : (U.length : Int) ≤ 9223372036854775807) (wk : -9223372036854775808 ≤ k ∧ k < 9223372036854775808) (hV : (V.length : Int) ≤ 9223372036854775807) :
    evalCall Try.prog An n 12 [.agg [.d (intss T)], .agg [.d (.int .i64 M), .d (ints U)], .d (.int .i64 k), .agg [.d (.int .i64 D), .d (ints V)]] [] = some ⟨.d (.bool true), [], []⟩ := by
  obtain ⟨m, rfl⟩ : ∃ m, n = m + 1 := ⟨n - 1, by omega⟩
  have hB := B_eq
  simp only [evalCall_at, fb12, bnd_some, bodyOf, Try.f12, Option.getD_some]
  have s1 := ct_szGroup m (by omega) T (1048576) (by omega) hT rT
  have sle1 := szr_le (k := 1048576) (t := T) (by omega)
  by_cases z1 : szr (1048576) T < 0
  · simp -implicitDefEqProofs (maxSteps := 3000000) [s1, z1]
  obtain ⟨a1, a2⟩ := szr_nn z1 (by omega)
  have s2 := ct_szModule m (by omega) M U (szr (1048576) T) (by omega) hU
  by_cases z2 : szr (1048576) T - U.length < 0
  · simp -implicitDefEqProofs (maxSteps := 3000000) [s1, z1, s2, z2]
  rw [if_neg z2] at s2
  have s3 := ct_szCochain m (by omega) D V (szr (1048576) T - U.length) (by omega) hV
  by_cases z3 : szr (1048576) T - U.length - V.length < 0
  · simp -implicitDefEqProofs (maxSteps := 3000000) [s1, z1, s2, z2, s3, z3]
  rw [if_neg z3] at s3
  have q0 := ct_toGroup m (by omega) T (by omega) (fun i => by have := a2 i; omega)
  have e0 := ct_eqGroup m (by omega) T (by omega) (fun i => by have := a2 i; omega)
  have q1 := ct_toModule m (by omega) M U (by omega)
  have e1 := ct_eqModule m (by omega) M U (by omega)
  have q3 := ct_toCochain m (by omega) D V (by omega)
  have e3 := ct_eqCochain m (by omega) D V (by omega)
  have bd := mkv_szs 1 1048576 T T.length
  have bd2 := szs_nn z1
  have bd3 := (mkv_bd 1 T (fun i => by have := a2 i; omega) T.length).1
  have bd4 := szr_last z1
  have k0 := ct_markGroup m (by omega) T (by omega) (fun i => by have := a2 i; omega) 1 (by omega)
  have k1 := ct_markModule m (by omega) M U (by omega) (mkv 1 T T.length) (by omega)
  have k3 := ct_markCochain m (by omega) D V (by omega) (mkv 1 T T.length + U.length) (by omega)
  have n1 : ¬ (mkv 1 T T.length + U.length + V.length < 0) := by omega
  by_cases h : CGood T M U k D V
  · have r1 := ct_specCon m (by omega) T (by omega) M U (by omega) k D V (by omega) h
    have r2 := ct_implCon m (by omega) T (by omega) (fun i => by have := a2 i; omega) M U (by omega) k D V (by omega) h
    have rl : (conL T M U V D.toNat (M / k)).length ≤ 2401 := by rw [conL_len]; exact pow_bd (icode_0.1 h.1.1).1.1.1.1 (by have := h.2.1; omega)
    generalize conL T M U V D.toNat (M / k) = W at r1 r2 rl
    have x1 := ct_eqCochain m (by omega) (D + 1) W (by omega)
    have y1 := ct_markCochain m (by omega) (D + 1) W (by omega) (1) (by omega)
    have v1 := ct_heldCochain m (by omega) (D + 1) W.length (by omega) (1) (by omega)
    have n2 : ¬ (1 + (W.length : Int) < 0) := by omega
    simp -implicitDefEqProofs (maxSteps := 3000000) [s1, z1, s2, z2, s3, z3, q0, e0, q1, e1, q3, e3, k0, k1, k3, n1, r1, r2, x1, y1, v1, n2]
  · have r1 := ct_specCon_bad m (by omega) T (by omega) M U (by omega) k D V (by omega) h
    have r2 := ct_implCon_bad m (by omega) T (by omega) (fun i => by have := a2 i; omega) M U (by omega) k D V (by omega) h
    have x1 := ct_eqCochain_nil m (by omega) 0
    have y1 := ct_markCochain_nil m (by omega) 0 (1)
    have v1 := ct_heldCochain_nil m (by omega) 0 (1) (by omega)
    simp -implicitDefEqProofs (maxSteps := 3000000) [s1, z1, s2, z2, s3, z3, q0, e0, q1, e1, q3, e3, k0, k1, k3, n1, r1, r2, x1, y1, v1]
end Go.Proofs.YtkpcogaahgfmcaaE
