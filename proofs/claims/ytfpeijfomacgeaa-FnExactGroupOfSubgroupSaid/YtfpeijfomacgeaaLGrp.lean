/- Contracts of functions of the program and of the reference: what the evaluator gives for a call of each. -/
import Derived.Test.YtfpeijfomacgeaaAEf
import Derived.Test.YtfpeijfomacgeaaK0
import Derived.Test.YtfpeijfomacgeaaK1
import Derived.Test.YtfpeijfomacgeaaK2
import Derived.Test.YtfpeijfomacgeaaK2b
import Derived.Test.YtfpeijfomacgeaaK31
import Derived.Test.YtfpeijfomacgeaaK33
import Derived.Test.YtfpeijfomacgeaaK42
import Derived.Test.YtfpeijfomacgeaaK44
namespace Go.Proofs.YtfpeijfomacgeaaE
open Go Go.Proofs
set_option maxHeartbeats 8000000
set_option maxRecDepth 4000
set_option linter.unusedSimpArgs false
set_option linter.unusedVariables false
set_option pp.deepTerms false
set_option pp.deepTerms.threshold 10

theorem ct_FnExactGroupOfSubgroup (n : Nat) (hn : B + 13 + 12 ≤ n) (T : List (List Int)) (H : List Int) (hT : (T.length : Int) ≤ 9223372036854775807) (rT : ∀ i, ((rown T i).length : Int) ≤ 9223372036854775807) (hH : (H.length : Int) ≤ 9223372036854775807) :
    evalCall Try.prog An n 5 [.agg [.d (intss T)], .d (ints H)] [] = some ⟨.d (.bool true), [], []⟩ := by
  obtain ⟨m, rfl⟩ : ∃ m, n = m + 1 := ⟨n - 1, by omega⟩
  have hB := B_eq
  simp only [evalCall_at, fb5, bnd_some, bodyOf, Try.f5, Option.getD_some]
  by_cases yH : (1048576 : Int) < H.length
  · simp -implicitDefEqProofs (maxSteps := 3000000) [yH]
  have s1 := ct_szGroup m (by omega) T (1048576) (by omega) hT rT
  have sle1 := szr_le (k := 1048576) (t := T) (by omega)
  by_cases z1 : szr (1048576) T < 0
  · simp -implicitDefEqProofs (maxSteps := 3000000) [yH, s1, z1]
  obtain ⟨a1, a2⟩ := szr_nn z1 (by omega)
  have q0 := ct_toGroup m (by omega) T (by omega) (fun i => by have := a2 i; omega)
  have e0 := ct_eqGroup m (by omega) T (by omega) (fun i => by have := a2 i; omega)
  have q1 := ct_toInt64S m (by omega) H (by omega)
  have e1 := ct_eqInt64S m (by omega) H (by omega)
  have bd := mkv_szs 1 1048576 T T.length
  have bd2 := szs_nn z1
  have bd3 := (mkv_bd 1 T (fun i => by have := a2 i; omega) T.length).1
  have bd4 := szr_last z1
  have k0 := ct_markGroup m (by omega) T (by omega) (fun i => by have := a2 i; omega) 1 (by omega)
  have k1 := ct_markInt64S m (by omega) H (by omega) (mkv 1 T T.length) (by omega)
  have n1 : ¬ (mkv 1 T T.length + H.length < 0) := by omega
  by_cases h : HGood T H
  · have r1 := ct_specGrp m (by omega) T (by omega) H (by omega) h
    have r2 := ct_implGrp m (by omega) T (by omega) (fun i => by have := a2 i; omega) H (by omega) h
    have tl := h.1.1.1
    have hl := setOk_len h.2.1
    have wl : (sbG T H).length ≤ 8 := by rw [sbG_len]; omega
    have rl : ∀ i, (rown (sbG T H) i).length ≤ 8 := fun i => by have := sbG_rows T H i; omega
    generalize sbG T H = W at r1 r2 wl rl
    have x1 := ct_eqGroup m (by omega) W (by omega) (fun i => by have := rl i; omega)
    have y1 := ct_markGroup m (by omega) W (by omega) (fun i => by have := rl i; omega) (1) (by omega)
    have v1 := ct_heldGroup m (by omega) W (by omega) (fun i => by have := rl i; omega) (1) (by omega)
    have mb1 := mkv_bd (1) W (fun i => by have := rl i; omega) W.length
    have n2 : ¬ (mkv (1) W W.length < 0) := by omega
    simp -implicitDefEqProofs (maxSteps := 3000000) [yH, s1, z1, q0, e0, q1, e1, k0, k1, n1, r1, r2, x1, y1, v1, n2]
  · have r1 := ct_specGrp_bad m (by omega) T (by omega) H (by omega) h
    have r2 := ct_implGrp_bad m (by omega) T (by omega) (fun i => by have := a2 i; omega) H (by omega) h
    have x1 := ct_eqGroup_nil m (by omega)
    have y1 := ct_markGroup_nil m (by omega) (1)
    have v1 := ct_heldGroup_nil m (by omega) (1) (by omega)
    simp -implicitDefEqProofs (maxSteps := 3000000) [yH, s1, z1, q0, e0, q1, e1, k0, k1, n1, r1, r2, x1, y1, v1]
end Go.Proofs.YtfpeijfomacgeaaE
