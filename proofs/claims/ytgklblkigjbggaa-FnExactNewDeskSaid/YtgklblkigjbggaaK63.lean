/- Contracts of functions of the program and of the reference: what the evaluator gives for a call of each. -/
import Derived.Test.YtgklblkigjbggaaAEf
import Derived.Test.YtgklblkigjbggaaK0
import Derived.Test.YtgklblkigjbggaaK2
import Derived.Test.YtgklblkigjbggaaK19
import Derived.Test.YtgklblkigjbggaaK62
namespace Go.Proofs.YtgklblkigjbggaaE
open Go Go.Proofs
set_option maxHeartbeats 4000000
set_option maxRecDepth 4000
set_option linter.unusedSimpArgs false
set_option linter.unusedVariables false
set_option pp.deepTerms false
set_option pp.deepTerms.threshold 10
/-! ## NewDesk: both, and the law -/
def ndT : List (List Int) := cyG 2
def ndU : List Int := trU ndT
def ndV : List Int := List.replicate ((ndT.length - 1) ^ 1) 0
theorem ndT_len : ndT.length = 2 := rfl
theorem ndU_len : ndU.length = 2 := rfl
theorem ndV_len : ndV.length = 1 := rfl
theorem ct_l11New (n : Nat) (hn : B + 19 ≤ n) :
    evalCall Try.prog An n 9 [] [] = some ⟨.agg [.own 0 0, .d (.int .i64 2), .own 1 0, .d (.int .i64 1), .own 2 0], [.mat false (mcells ndT), .row (icells ndU), .row (icells ndV)], []⟩ := by
  obtain ⟨m, rfl⟩ : ∃ m, n = m + 1 := ⟨n - 1, by omega⟩
  have hB := B_eq
  simp only [evalCall_at, fb9, bnd_some, bodyOf, Try.f9, Option.getD_some]
  have c1 := ct_l01Cyclic m (by omega) 2 (by omega)
  rw [show cyG 2 = ndT from rfl, show ((2 : Nat) : Int) = 2 from rfl] at c1
  have hl := ndT_len
  have c2 := ct_l02Trivial m (by omega) ndT (by omega) 2
  rw [show trU ndT = ndU from rfl] at c2
  have c3 := ct_l11Fresh m (by omega) ndT (by omega) 2 ndU
  rw [show List.replicate ((ndT.length - 1) ^ 1) (0 : Int) = ndV from rfl] at c3
  generalize ndT = T at *
  generalize ndU = U at *
  generalize ndV = V at *
  simp -implicitDefEqProofs (maxSteps := 3000000) [c1, c2, c3]
theorem ct_specND (n : Nat) (hn : B + 20 ≤ n) :
    evalCall Try.prog An n 4 [] [] = some ⟨.agg [.own 0 0, .d (.int .i64 2), .own 1 0, .d (.int .i64 1), .own 2 0], [.mat false (mcells ndT), .row (icells ndU), .row (icells ndV)], []⟩ := by
  obtain ⟨m, rfl⟩ : ∃ m, n = m + 1 := ⟨n - 1, by omega⟩
  have hB := B_eq
  simp only [evalCall_at, fb4, bnd_some, bodyOf, Try.f4, Option.getD_some]
  have c1 := ct_l11New m (by omega)
  simp -implicitDefEqProofs (maxSteps := 3000000) [c1]
theorem ct_implND (n : Nat) (hn : B + 20 ≤ n) :
    evalCall Try.prog An n 5 [] [] = some ⟨.agg [.own 0 0, .d (.int .i64 2), .own 1 0, .d (.int .i64 1), .own 2 0], [.mat false (mcells ndT), .row (icells ndU), .row (icells ndV)], []⟩ := by
  obtain ⟨m, rfl⟩ : ∃ m, n = m + 1 := ⟨n - 1, by omega⟩
  have hB := B_eq
  simp only [evalCall_at, fb5, bnd_some, bodyOf, Try.f5, Option.getD_some]
  have c1 := ct_cyclic m (by omega) 2 (by omega)
  rw [show cyG 2 = ndT from rfl, show ((2 : Nat) : Int) = 2 from rfl] at c1
  have hl := ndT_len
  have c2 := ct_trivial m (by omega) ndT (by omega) 2
  rw [show trU ndT = ndU from rfl] at c2
  have c3 := ct_freshDesk m (by omega) ndT (by omega) 2 ndU
  rw [show List.replicate ((ndT.length - 1) ^ 1) (0 : Int) = ndV from rfl] at c3
  generalize ndT = T at *
  generalize ndU = U at *
  generalize ndV = V at *
  simp -implicitDefEqProofs (maxSteps := 3000000) [c1, c2, c3]
theorem ct_FnExactNewDesk (n : Nat) (hn : B + 30 ≤ n) :
    evalCall Try.prog An n 3 [] [] = some ⟨.d (.bool true), [], []⟩ := by
  obtain ⟨m, rfl⟩ : ∃ m, n = m + 1 := ⟨n - 1, by omega⟩
  have hB := B_eq
  simp only [evalCall_at, fb3, bnd_some, bodyOf, Try.f3, Option.getD_some]
  have c1 := ct_specND m (by omega)
  have c2 := ct_implND m (by omega)
  have hl := ndT_len
  have hu := ndU_len
  have hv := ndV_len
  have hr : ∀ i, (rown ndT i).length ≤ 10000 := fun i => by have := cyG_rows 2 i; rw [show ndT = cyG 2 from rfl]; omega
  have hm : mkv 1 ndT ndT.length = 5 := by decide
  have c3 := ct_eqDesk m (by omega) ndT (by omega) hr 2 ndU (by omega) 1 ndV (by omega)
  have c4 := ct_markDesk m (by omega) ndT (by omega) hr 2 ndU (by omega) 1 ndV (by omega) 1 (by omega) (by omega)
  have c5 := ct_heldDesk m (by omega) ndT (by omega) hr 2 ndU.length (by omega) 1 ndV.length (by omega) 1 (by omega) (by omega)
  rw [hm, hu, hv] at c4 c5
  rw [hl, show (5 : Int) + ((2 : Nat) : Int) = 7 from rfl, show (7 : Int) + ((1 : Nat) : Int) = 8 from rfl] at c4 c5
  generalize ndT = T at *
  generalize ndU = U at *
  generalize ndV = V at *
  have w1 := wrap_id (n := 1) (by omega)
  simp -implicitDefEqProofs (maxSteps := 3000000) [c1, c2, c3, c4, c5, w1]
end Go.Proofs.YtgklblkigjbggaaE
