/- Contracts of functions of the program and of the reference: what the evaluator gives for a call of each. -/
import Derived.Test.YtgklblkigjbggaaAEf
import Derived.Test.YtgklblkigjbggaaK0
import Derived.Test.YtgklblkigjbggaaK2
import Derived.Test.YtgklblkigjbggaaK21
import Derived.Test.YtgklblkigjbggaaK42
namespace Go.Proofs.YtgklblkigjbggaaE
open Go Go.Proofs
set_option maxHeartbeats 4000000
set_option maxRecDepth 4000
set_option linter.unusedSimpArgs false
set_option linter.unusedVariables false
set_option pp.deepTerms false
set_option pp.deepTerms.threshold 10
/-! ## GroupOfSubgroup -/
theorem ct_eqGroup_nil (n : Nat) (hn : B + 3 ≤ n) :
    evalCall Try.prog An n 13 [.agg [.d .nil], .agg [.d .nil]] [] = some ⟨.d (.bool true), [], []⟩ := by
  obtain ⟨m, rfl⟩ : ∃ m, n = m + 1 := ⟨n - 1, by omega⟩
  have hB := B_eq
  simp only [evalCall_at, fb13, bnd_some, bodyOf, Try.f13, Option.getD_some]
  have c := ct_eqInt64SS_nil m (by omega)
  simp -implicitDefEqProofs (maxSteps := 3000000) [c]
theorem ct_markGroup_nil (n : Nat) (hn : B + 3 ≤ n) (k : Int) :
    evalCall Try.prog An n 16 [.agg [.d .nil], .d (.int .i64 k)] [] = some ⟨.d (.int .i64 k), [], []⟩ := by
  obtain ⟨m, rfl⟩ : ∃ m, n = m + 1 := ⟨n - 1, by omega⟩
  have hB := B_eq
  simp only [evalCall_at, fb16, bnd_some, bodyOf, Try.f16, Option.getD_some]
  have c := ct_markInt64SS_nil m (by omega) k
  simp -implicitDefEqProofs (maxSteps := 3000000) [c]
theorem ct_heldGroup_nil (n : Nat) (hn : B + 3 ≤ n) (k : Int) (hk : 0 ≤ k) :
    evalCall Try.prog An n 19 [.agg [.d .nil], .d (.int .i64 k)] [] = some ⟨.d (.int .i64 k), [], []⟩ := by
  obtain ⟨m, rfl⟩ : ∃ m, n = m + 1 := ⟨n - 1, by omega⟩
  have hB := B_eq
  simp only [evalCall_at, fb19, bnd_some, bodyOf, Try.f19, Option.getD_some]
  have c := ct_heldInt64SS_nil m (by omega) k
  have n1 : ¬ (k < 0) := by omega
  simp -implicitDefEqProofs (maxSteps := 3000000) [c, n1]
theorem ct_heldGroup (n : Nat) (hn : B + 3 ≤ n) (t : List (List Int)) (hl : t.length ≤ 10000) (hr : ∀ i, (rown t i).length ≤ 1048576) (k : Int) (hk : 0 ≤ k ∧ k < 10000000) :
    evalCall Try.prog An n 19 [.agg [.d (intss (mkt k t t.length))], .d (.int .i64 k)] [] = some ⟨.d (.int .i64 (mkv k t t.length)), [], []⟩ := by
  obtain ⟨m, rfl⟩ : ∃ m, n = m + 1 := ⟨n - 1, by omega⟩
  have hB := B_eq
  simp only [evalCall_at, fb19, bnd_some, bodyOf, Try.f19, Option.getD_some]
  have c := ct_heldInt64SS m (by omega) t hl hr k hk
  have r3 := mkv_bd k t hr t.length
  have n1 : ¬ (mkv k t t.length < 0) := by omega
  simp -implicitDefEqProofs (maxSteps := 3000000) [c, n1]
theorem sbG_len (T : List (List Int)) (h : List Int) : (sbG T h).length = h.length := by simp -implicitDefEqProofs (maxSteps := 3000000) [sbG]
theorem sbG_rows (T : List (List Int)) (h : List Int) (i : Nat) : (rown (sbG T h) i).length ≤ h.length := by
  by_cases e : i < h.length
  · rw [sbG, rown_tabM _ e]; simp -implicitDefEqProofs (maxSteps := 3000000) [sbR]
  · rw [rown_out (by rw [sbG_len]; omega)]; simp -implicitDefEqProofs (maxSteps := 3000000)
end Go.Proofs.YtgklblkigjbggaaE
