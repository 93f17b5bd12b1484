/- Contracts of functions of the program and of the reference: what the evaluator gives for a call of each. -/
import Derived.Test.YtgklblkigjbggaaGreatAEf
import Derived.Test.YtgklblkigjbggaaGreatK0
import Derived.Test.YtgklblkigjbggaaGreatK1
import Derived.Test.YtgklblkigjbggaaGreatK2
import Derived.Test.YtgklblkigjbggaaGreatK2b
import Derived.Test.YtgklblkigjbggaaGreatK35
import Derived.Test.YtgklblkigjbggaaGreatK45
import Derived.Test.YtgklblkigjbggaaGreatK46
import Derived.Test.YtgklblkigjbggaaGreatK61M
namespace Go.Proofs.YtgklblkigjbggaaGreatE
open Go Go.Proofs
set_option maxHeartbeats 8000000
set_option maxRecDepth 4000
set_option linter.unusedSimpArgs false
set_option linter.unusedVariables false
set_option pp.deepTerms false
set_option pp.deepTerms.threshold 10

theorem ct_FnExactInflateCochain (n : Nat) (hn : B + 13 + 14 ≤ n) (T : List (List Int)) (H : List Int) (M : Int) (U : List Int) (D : Int) (V : List Int) (hT : (T.length : Int) ≤ 9223372036854775807) (rT : ∀ i, ((rown T i).length : Int) ≤ 9223372036854775807) (hH : (H.length : Int) ≤ 9223372036854775807) (hU : (U.length : Int) ≤ 9223372036854775807) (hV : (V.length : Int) ≤ 9223372036854775807) :
    evalCall Tryz.prog An n 7 [.agg [.d (intss T)], .d (ints H), .agg [.d (.int .i64 M), .d (ints U)], .agg [.d (.int .i64 D), .d (ints V)]] [] = some ⟨.d (.bool true), [], []⟩ := by
  obtain ⟨m, rfl⟩ : ∃ m, n = m + 1 := ⟨n - 1, by omega⟩
  have hB := B_eq
  simp only [evalCall_at, fb7, bnd_some, bodyOf, Tryz.f7, Option.getD_some]
  by_cases yH : (1048576 : Int) < H.length
  · simp -implicitDefEqProofs (maxSteps := 3000000) [yH]
  have s1 := ct_szGroup m (by omega) T (1048576) (by omega) hT rT
  have sle1 := szr_le (k := 1048576) (t := T) (by omega)
  by_cases z1 : szr (1048576) T < 0
  · simp -implicitDefEqProofs (maxSteps := 3000000) [yH, s1, z1]
  obtain ⟨a1, a2⟩ := szr_nn z1 (by omega)
  have s2 := ct_szModule m (by omega) M U (szr (1048576) T) (by omega) hU
  by_cases z2 : szr (1048576) T - U.length < 0
  · simp -implicitDefEqProofs (maxSteps := 3000000) [yH, s1, z1, s2, z2]
  rw [if_neg z2] at s2
  have s3 := ct_szCochain m (by omega) D V (szr (1048576) T - U.length) (by omega) hV
  by_cases z3 : szr (1048576) T - U.length - V.length < 0
  · simp -implicitDefEqProofs (maxSteps := 3000000) [yH, s1, z1, s2, z2, s3, z3]
  rw [if_neg z3] at s3
  have q0 := ct_toGroup m (by omega) T (by omega) (fun i => by have := a2 i; omega)
  have e0 := ct_eqGroup m (by omega) T (by omega) (fun i => by have := a2 i; omega)
  have q1 := ct_toInt64S m (by omega) H (by omega)
  have e1 := ct_eqInt64S m (by omega) H (by omega)
  have q2 := ct_toModule m (by omega) M U (by omega)
  have e2 := ct_eqModule m (by omega) M U (by omega)
  have q3 := ct_toCochain m (by omega) D V (by omega)
  have e3 := ct_eqCochain m (by omega) D V (by omega)
  have bd := mkv_szs 1 1048576 T T.length
  have bd2 := szs_nn z1
  have bd3 := (mkv_bd 1 T (fun i => by have := a2 i; omega) T.length).1
  have bd4 := szr_last z1
  have k0 := ct_markGroup m (by omega) T (by omega) (fun i => by have := a2 i; omega) 1 (by omega)
  have k1 := ct_markInt64S m (by omega) H (by omega) (mkv 1 T T.length) (by omega)
  have k2 := ct_markModule m (by omega) M U (by omega) (mkv 1 T T.length + H.length) (by omega)
  have k3 := ct_markCochain m (by omega) D V (by omega) (mkv 1 T T.length + H.length + U.length) (by omega)
  have n1 : ¬ (mkv 1 T T.length + H.length + U.length + V.length < 0) := by omega
  by_cases h : InGood T H M U D V
  · have r1 := ct_specIn m (by omega) T (by omega) H (by omega) M U (by omega) D V (by omega) h
    have r2 := ct_implIn m (by omega) T (by omega) (fun i => by have := a2 i; omega) H (by omega) M U (by omega) D V (by omega) h
    have ul := inU_len h
    have wl := inW_bd h
    generalize inW T H D V = W at r1 r2 wl
    generalize sbU U (nums T H) = X at r1 r2 ul
    have x1 := ct_eqModule m (by omega) M X (by omega)
    have y1 := ct_markModule m (by omega) M X (by omega) (1) (by omega)
    have v1 := ct_heldModule m (by omega) M X.length (by omega) (1) (by omega)
    have nq1 : ¬ (1 + (X.length : Int) < 0) := by omega
    have x2 := ct_eqCochain m (by omega) D W (by omega)
    have y2 := ct_markCochain m (by omega) D W (by omega) (1 + (X.length : Int)) (by omega)
    have v2 := ct_heldCochain m (by omega) D W.length (by omega) (1 + (X.length : Int)) (by omega)
    have nq2 : ¬ (1 + (X.length : Int) + (W.length : Int) < 0) := by omega
    have n2 : ¬ (1 + (X.length : Int) + (W.length : Int) < 0) := by omega
    simp -implicitDefEqProofs (maxSteps := 3000000) [yH, s1, z1, s2, z2, s3, z3, q0, e0, q1, e1, q2, e2, q3, e3, k0, k1, k2, k3, n1, r1, r2, x1, y1, v1, nq1, x2, y2, v2, nq2, n2]
  · have r1 := ct_specIn_bad m (by omega) T (by omega) H (by omega) M U (by omega) D V (by omega) h
    have r2 := ct_implIn_bad m (by omega) T (by omega) (fun i => by have := a2 i; omega) H (by omega) M U (by omega) D V (by omega) h
    have x1 := ct_eqModule_nil m (by omega) 0
    have y1 := ct_markModule_nil m (by omega) 0 (1)
    have v1 := ct_heldModule_nil m (by omega) 0 (1) (by omega)
    have x2 := ct_eqCochain_nil m (by omega) 0
    have y2 := ct_markCochain_nil m (by omega) 0 (1)
    have v2 := ct_heldCochain_nil m (by omega) 0 (1) (by omega)
    simp -implicitDefEqProofs (maxSteps := 3000000) [yH, s1, z1, s2, z2, s3, z3, q0, e0, q1, e1, q2, e2, q3, e3, k0, k1, k2, k3, n1, r1, r2, x1, y1, v1, x2, y2, v2]
end Go.Proofs.YtgklblkigjbggaaGreatE
