/- Contracts of functions of the program and of the reference: what the evaluator gives for a call of each. -/
import Derived.Test.YtgklblkigjbggaaAEf
import Derived.Test.YtgklblkigjbggaaK0
import Derived.Test.YtgklblkigjbggaaK2
import Derived.Test.YtgklblkigjbggaaK6
import Derived.Test.YtgklblkigjbggaaK31
import Derived.Test.YtgklblkigjbggaaK33
import Derived.Test.YtgklblkigjbggaaK45
namespace Go.Proofs.YtgklblkigjbggaaE
open Go Go.Proofs
set_option maxHeartbeats 4000000
set_option maxRecDepth 4000
set_option linter.unusedSimpArgs false
set_option linter.unusedVariables false
set_option pp.deepTerms false
set_option pp.deepTerms.threshold 10
/-! ## ModuleOfSubgroup -/
theorem ct_eqModule_nil (n : Nat) (hn : B + 2 ≤ n) (M : Int) :
    evalCall Try.prog An n 14 [.agg [.d (.int .i64 M), .d .nil], .agg [.d (.int .i64 M), .d .nil]] [] = some ⟨.d (.bool true), [], []⟩ := by
  obtain ⟨m, rfl⟩ : ∃ m, n = m + 1 := ⟨n - 1, by omega⟩
  have hB := B_eq
  simp only [evalCall_at, fb14, bnd_some, bodyOf, Try.f14, Option.getD_some]
  have c := ct_eqInt64S_nil m (by omega)
  simp -implicitDefEqProofs (maxSteps := 3000000) [c]
theorem ct_markModule_nil (n : Nat) (hn : B + 2 ≤ n) (M : Int) (k : Int) :
    evalCall Try.prog An n 17 [.agg [.d (.int .i64 M), .d .nil], .d (.int .i64 k)] [] = some ⟨.d (.int .i64 k), [], []⟩ := by
  obtain ⟨m, rfl⟩ : ∃ m, n = m + 1 := ⟨n - 1, by omega⟩
  have hB := B_eq
  simp only [evalCall_at, fb17, bnd_some, bodyOf, Try.f17, Option.getD_some]
  have c := ct_markInt64S_nil m (by omega) k
  simp -implicitDefEqProofs (maxSteps := 3000000) [c]
theorem ct_heldModule (n : Nat) (hn : B + 2 ≤ n) (M : Int) (j : Nat) (hl : j ≤ 1000000000000) (k : Int) (hk : 0 ≤ k ∧ k < 1000000000000) :
    evalCall Try.prog An n 20 [.agg [.d (.int .i64 M), .d (ints (marks k j))], .d (.int .i64 k)] [] = some ⟨.d (.int .i64 (k + j)), [], []⟩ := by
  obtain ⟨m, rfl⟩ : ∃ m, n = m + 1 := ⟨n - 1, by omega⟩
  have hB := B_eq
  simp only [evalCall_at, fb20, bnd_some, bodyOf, Try.f20, Option.getD_some]
  have c := ct_heldInt64S m (by omega) j hl k hk
  have h : ¬ (k + j < 0) := by omega
  simp -implicitDefEqProofs (maxSteps := 3000000) [c, h]
theorem ct_heldModule_nil (n : Nat) (hn : B + 2 ≤ n) (M : Int) (k : Int) (hk : 0 ≤ k) :
    evalCall Try.prog An n 20 [.agg [.d (.int .i64 M), .d .nil], .d (.int .i64 k)] [] = some ⟨.d (.int .i64 k), [], []⟩ := by
  obtain ⟨m, rfl⟩ : ∃ m, n = m + 1 := ⟨n - 1, by omega⟩
  have hB := B_eq
  simp only [evalCall_at, fb20, bnd_some, bodyOf, Try.f20, Option.getD_some]
  have c := ct_heldInt64S_nil m (by omega) k
  have h : ¬ (k < 0) := by omega
  simp -implicitDefEqProofs (maxSteps := 3000000) [c, h]
open Classical in
noncomputable def wcode (T : List (List Int)) (M : Int) (U : List Int) (l : List Int) : Int := if GM T M U then subcode T l else 1
def WGood (T : List (List Int)) (M : Int) (U : List Int) (l : List Int) : Prop := GM T M U ∧ HGood T l
theorem wcode_0 {T : List (List Int)} {M : Int} {U l : List Int} (h : WGood T M U l) : wcode T M U l = 0 := by
  rw [wcode, if_pos h.1]; exact subcode_0 h.2
theorem wcode_ne {T : List (List Int)} {M : Int} {U l : List Int} (h : ¬ WGood T M U l) : wcode T M U l ≠ 0 := by
  unfold wcode
  split
  · rename_i z
    exact subcode_ne fun q => h ⟨z, q⟩
  · omega
theorem sbU_len (U l : List Int) : (sbU U l).length = l.length := by simp -implicitDefEqProofs (maxSteps := 3000000) [sbU]
end Go.Proofs.YtgklblkigjbggaaE
