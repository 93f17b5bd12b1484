/- Contracts of functions of the program and of the reference: what the evaluator gives for a call of each. -/
import Derived.Test.YtcdmhlagibjeiaaAEf
import Derived.Test.YtcdmhlagibjeiaaK0
import Derived.Test.YtcdmhlagibjeiaaK21
import Derived.Test.YtcdmhlagibjeiaaK43
namespace Go.Proofs.YtcdmhlagibjeiaaE
open Go Go.Proofs
set_option maxHeartbeats 4000000
set_option maxRecDepth 4000
set_option linter.unusedSimpArgs false
set_option linter.unusedVariables false
set_option pp.deepTerms false
set_option pp.deepTerms.threshold 10
/-! ## NewDesk -/
def cyE (n i k : Nat) : Int := ((i + k : Nat) : Int) % n
def cyR (n i : Nat) : List Int := tabI (cyE n i) n
def cyG (n : Nat) : List (List Int) := tabM (cyR n) n
@[simp] theorem cyG_len (n : Nat) : (cyG n).length = n := by simp -implicitDefEqProofs (maxSteps := 3000000) [cyG]
theorem cyG_rows (n i : Nat) : (rown (cyG n) i).length ≤ n := by
  by_cases e : i < n
  · rw [cyG, rown_tabM _ e]; simp -implicitDefEqProofs (maxSteps := 3000000) [cyR]
  · rw [rown_out (by simp; omega)]; simp -implicitDefEqProofs (maxSteps := 3000000)
theorem ct_cyclic1 (n : Nat) (hn : B + 1 ≤ n) (N : Nat) (hN : 1 ≤ N ∧ N ≤ 8) (i k : Nat) (hi : i < N) (hk : k < N) :
    evalCall Try.prog An n 83 [.d (.int .i64 i), .d (.int .i64 k), .d (.cellp [.int .i64 N])] [] = some ⟨.d (.int .i64 (cyE N i k)), [], []⟩ := by
  obtain ⟨m, rfl⟩ : ∃ m, n = m + 1 := ⟨n - 1, by omega⟩
  have hB := B_eq
  simp only [evalCall_at, fb83, bnd_some, bodyOf, Try.f83, Option.getD_some]
  have w3 := wrap_id (n := (i : Int) + k) (by omega)
  have ee : cyE N i k = ((i : Int) + k).tmod N := by
    rw [Int.tmod_eq_emod_of_nonneg (by omega)]
    simp -implicitDefEqProofs (maxSteps := 3000000) [cyE]
  have hz : (N : Int) ≠ 0 := by omega
  have hz2 : N ≠ 0 := by omega
  rw [ee]
  simp -implicitDefEqProofs (maxSteps := 3000000) [w3, hz, hz2]
theorem ct_cyclic (n : Nat) (hn : B + 2 + 6 ≤ n) (N : Nat) (hN : 1 ≤ N ∧ N ≤ 8) :
    evalCall Try.prog An n 67 [.d (.int .i64 N)] [] = some ⟨.agg [.own 0 0], [.mat false (mcells (cyG N))], []⟩ := by
  obtain ⟨m, rfl⟩ : ∃ m, n = m + 1 := ⟨n - 1, by omega⟩
  have hB := B_eq
  simp only [evalCall_at, fb67, bnd_some, bodyOf, Try.f67, Option.getD_some]
  have c2 := ct_made m (by omega) N (by omega) 83 [.cellp [.int .i64 N]] (cyE N) (B + 1) (by omega)
    (fun m hm i hi k hk => by simpa using ct_cyclic1 m hm N hN i k hi hk) (by simp -implicitDefEqProofs (maxSteps := 3000000))
  have e : tabM (fun i => tabI (cyE N i) N) N = cyG N := rfl
  rw [e] at c2
  simp -implicitDefEqProofs (maxSteps := 3000000) [c2]
end Go.Proofs.YtcdmhlagibjeiaaE
