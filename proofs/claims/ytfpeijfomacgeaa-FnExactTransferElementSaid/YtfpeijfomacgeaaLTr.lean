/- Contracts of functions of the program and of the reference: what the evaluator gives for a call of each. -/
import Derived.Test.YtfpeijfomacgeaaAEf
import Derived.Test.YtfpeijfomacgeaaK0
import Derived.Test.YtfpeijfomacgeaaK1
import Derived.Test.YtfpeijfomacgeaaK2
import Derived.Test.YtfpeijfomacgeaaK2b
import Derived.Test.YtfpeijfomacgeaaK35
import Derived.Test.YtfpeijfomacgeaaK49
import Derived.Test.YtfpeijfomacgeaaK50
namespace Go.Proofs.YtfpeijfomacgeaaE
open Go Go.Proofs
set_option maxHeartbeats 8000000
set_option maxRecDepth 4000
set_option linter.unusedSimpArgs false
set_option linter.unusedVariables false
set_option pp.deepTerms false
set_option pp.deepTerms.threshold 10

theorem ct_FnExactTransferElement (n : Nat) (hn : B + 12 + 17 ≤ n) (T : List (List Int)) (H : List Int) (C : Int) (hT : (T.length : Int) ≤ 9223372036854775807) (rT : ∀ i, ((rown T i).length : Int) ≤ 9223372036854775807) (hH : (H.length : Int) ≤ 9223372036854775807) (wC : -9223372036854775808 ≤ C ∧ C < 9223372036854775808) :
    evalCall Try.prog An n 8 [.agg [.d (intss T)], .d (ints H), .d (.int .i64 C)] [] = some ⟨.d (.bool true), [], []⟩ := by
  obtain ⟨m, rfl⟩ : ∃ m, n = m + 1 := ⟨n - 1, by omega⟩
  have hB := B_eq
  simp only [evalCall_at, fb8, bnd_some, bodyOf, Try.f8, Option.getD_some]
  by_cases yH : (1048576 : Int) < H.length
  · simp -implicitDefEqProofs (maxSteps := 3000000) [yH]
  have s1 := ct_szGroup m (by omega) T (1048576) (by omega) hT rT
  have sle1 := szr_le (k := 1048576) (t := T) (by omega)
  by_cases z1 : szr (1048576) T < 0
  · simp -implicitDefEqProofs (maxSteps := 3000000) [yH, s1, z1]
  obtain ⟨a1, a2⟩ := szr_nn z1 (by omega)
  have q0 := ct_toGroup m (by omega) T (by omega) (fun i => by have := a2 i; omega)
  have e0 := ct_eqGroup m (by omega) T (by omega) (fun i => by have := a2 i; omega)
  have q1 := ct_toInt64S m (by omega) H (by omega)
  have e1 := ct_eqInt64S m (by omega) H (by omega)
  by_cases h : TGood T H C
  · have r1 := ct_specTr m (by omega) T (by omega) H (by omega) C h
    have r2 := ct_implTr m (by omega) T (by omega) (fun i => by have := a2 i; omega) H (by omega) C h
    generalize trN T H C.toNat (firsts T H).length = E at r1 r2
    simp -implicitDefEqProofs (maxSteps := 3000000) [yH, s1, z1, q0, e0, q1, e1, r1, r2]
  · have r1 := ct_specTr_bad m (by omega) T (by omega) H (by omega) C h
    have r2 := ct_implTr_bad m (by omega) T (by omega) (fun i => by have := a2 i; omega) H (by omega) C h
    generalize tcode T H C = E at r1 r2
    simp -implicitDefEqProofs (maxSteps := 3000000) [yH, s1, z1, q0, e0, q1, e1, r1, r2]
end Go.Proofs.YtfpeijfomacgeaaE
