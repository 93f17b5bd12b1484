/- Contracts of functions of the program and of the reference: what the evaluator gives for a call of each. -/
import Derived.Test.YtgklblkigjbggaaGreatAEf
import Derived.Test.YtgklblkigjbggaaGreatK0
import Derived.Test.YtgklblkigjbggaaGreatK1
import Derived.Test.YtgklblkigjbggaaGreatK2
import Derived.Test.YtgklblkigjbggaaGreatK2b
import Derived.Test.YtgklblkigjbggaaGreatK58M
namespace Go.Proofs.YtgklblkigjbggaaGreatE
open Go Go.Proofs
set_option maxHeartbeats 8000000
set_option maxRecDepth 4000
set_option linter.unusedSimpArgs false
set_option linter.unusedVariables false
set_option pp.deepTerms false
set_option pp.deepTerms.threshold 10

theorem ct_FnExactTransferCochain (n : Nat) (hn : B + 14 + 18 ≤ n) (T : List (List Int)) (M : Int) (U : List Int) (H : List Int) (D : Int) (V : List Int) (hT : (T.length : Int) ≤ 9223372036854775807) (rT : ∀ i, ((rown T i).length : Int) ≤ 9223372036854775807) (hU : (U.length : Int) ≤ 9223372036854775807) (hH : (H.length : Int) ≤ 9223372036854775807) (hV : (V.length : Int) ≤ 9223372036854775807) :
    evalCall Tryz.prog An n 6 [.agg [.d (intss T)], .agg [.d (.int .i64 M), .d (ints U)], .d (ints H), .agg [.d (.int .i64 D), .d (ints V)]] [] = some ⟨.d (.bool true), [], []⟩ := by
  obtain ⟨m, rfl⟩ : ∃ m, n = m + 1 := ⟨n - 1, by omega⟩
  have hB := B_eq
  simp only [evalCall_at, fb6, bnd_some, bodyOf, Tryz.f6, Option.getD_some]
  by_cases yH : (1048576 : Int) < H.length
  · simp -implicitDefEqProofs (maxSteps := 3000000) [yH]
  have s1 := ct_szGroup m (by omega) T (1048576) (by omega) hT rT
  have sle1 := szr_le (k := 1048576) (t := T) (by omega)
  by_cases z1 : szr (1048576) T < 0
  · simp -implicitDefEqProofs (maxSteps := 3000000) [yH, s1, z1]
  obtain ⟨a1, a2⟩ := szr_nn z1 (by omega)
  have s2 := ct_szModule m (by omega) M U (szr (1048576) T) (by omega) hU
  by_cases z2 : szr (1048576) T - U.length < 0
  · simp -implicitDefEqProofs (maxSteps := 3000000) [yH, s1, z1, s2, z2]
  rw [if_neg z2] at s2
  have s3 := ct_szCochain m (by omega) D V (szr (1048576) T - U.length) (by omega) hV
  by_cases z3 : szr (1048576) T - U.length - V.length < 0
  · simp -implicitDefEqProofs (maxSteps := 3000000) [yH, s1, z1, s2, z2, s3, z3]
  rw [if_neg z3] at s3
  have q0 := ct_toGroup m (by omega) T (by omega) (fun i => by have := a2 i; omega)
  have e0 := ct_eqGroup m (by omega) T (by omega) (fun i => by have := a2 i; omega)
  have q1 := ct_toModule m (by omega) M U (by omega)
  have e1 := ct_eqModule m (by omega) M U (by omega)
  have q2 := ct_toInt64S m (by omega) H (by omega)
  have e2 := ct_eqInt64S m (by omega) H (by omega)
  have q3 := ct_toCochain m (by omega) D V (by omega)
  have e3 := ct_eqCochain m (by omega) D V (by omega)
  have bd := mkv_szs 1 1048576 T T.length
  have bd2 := szs_nn z1
  have bd3 := (mkv_bd 1 T (fun i => by have := a2 i; omega) T.length).1
  have bd4 := szr_last z1
  have k0 := ct_markGroup m (by omega) T (by omega) (fun i => by have := a2 i; omega) 1 (by omega)
  have k1 := ct_markModule m (by omega) M U (by omega) (mkv 1 T T.length) (by omega)
  have k2 := ct_markInt64S m (by omega) H (by omega) (mkv 1 T T.length + U.length) (by omega)
  have k3 := ct_markCochain m (by omega) D V (by omega) (mkv 1 T T.length + U.length + H.length) (by omega)
  have n1 : ¬ (mkv 1 T T.length + U.length + H.length + V.length < 0) := by omega
  by_cases h : TCGood T M U H D V
  · have r1 := ct_specTC m (by omega) T (by omega) M U (by omega) H (by omega) D V (by omega) h
    have r2 := ct_implTC m (by omega) T (by omega) (fun i => by have := a2 i; omega) M U (by omega) H (by omega) D V (by omega) h
    have wl : (trW T M U V H D.toNat).length ≤ 343 := trW_bd h
    generalize trW T M U V H D.toNat = W at r1 r2 wl
    have x1 := ct_eqCochain m (by omega) D W (by omega)
    have y1 := ct_markCochain m (by omega) D W (by omega) (1) (by omega)
    have v1 := ct_heldCochain m (by omega) D W.length (by omega) (1) (by omega)
    have n2 : ¬ (1 + (W.length : Int) < 0) := by omega
    simp -implicitDefEqProofs (maxSteps := 3000000) [yH, s1, z1, s2, z2, s3, z3, q0, e0, q1, e1, q2, e2, q3, e3, k0, k1, k2, k3, n1, r1, r2, x1, y1, v1, n2]
  · have r1 := ct_specTC_bad m (by omega) T (by omega) M U (by omega) H (by omega) D V (by omega) h
    have r2 := ct_implTC_bad m (by omega) T (by omega) (fun i => by have := a2 i; omega) M U (by omega) H (by omega) D V (by omega) h
    have x1 := ct_eqCochain_nil m (by omega) 0
    have y1 := ct_markCochain_nil m (by omega) 0 (1)
    have v1 := ct_heldCochain_nil m (by omega) 0 (1) (by omega)
    simp -implicitDefEqProofs (maxSteps := 3000000) [yH, s1, z1, s2, z2, s3, z3, q0, e0, q1, e1, q2, e2, q3, e3, k0, k1, k2, k3, n1, r1, r2, x1, y1, v1]
end Go.Proofs.YtgklblkigjbggaaGreatE
