/- Contracts of functions of the program and of the reference: what the evaluator gives for a call of each. -/
import Derived.Test.YtfpeijfomacgeaaAEf
import Derived.Test.YtfpeijfomacgeaaK0
import Derived.Test.YtfpeijfomacgeaaK3
namespace Go.Proofs.YtfpeijfomacgeaaE
open Go Go.Proofs
set_option maxHeartbeats 2000000
set_option linter.unusedSimpArgs false
set_option linter.unusedVariables false
set_option pp.deepTerms false
set_option pp.deepTerms.threshold 10
/-! ## the program's cochains -/
theorem ct_times2 (n : Nat) (hn : B + 1 ≤ n) (T : List (List Int)) (R : RowsOk T) (a b : Nat) (ha : a < T.length) (hb : b < T.length) (e0 : cl T 0 a = a) :
    evalCall Try.prog An n 72 [.agg [.d (intss T)], .d (.sl 1 [.int .i64 a, .int .i64 b])] [] = some ⟨.d (.int .i64 (cl T a b)), [], []⟩ := by
  obtain ⟨m, rfl⟩ : ∃ m, n = m + 1 := ⟨n - 1, by omega⟩
  have hB := B_eq
  simp only [evalCall_at, fb72, bnd_some, bodyOf, Try.f72, Option.getD_some]
  generalize hb0 : Code.loop _ = cc0
  obtain rfl : cc0 = .loop (lp Try.f72 0) := by rw [← hb0]; rfl
  clear hb0
  have hz : 0 < T.length := by omega
  have r0 := (R.2 0 hz).1
  have ra := (R.2 a ha).1
  simp -implicitDefEqProofs (maxSteps := 3000000)
  generalize hx : loopC _ _ _ = x
  generalize hl : lp Try.f72 0 = L at hx
  simp only [lp, bodyOf, Try.f72, Option.getD_some, loopsIn, List.append_nil, List.nil_append, List.cons_append, List.getD, List.getElem?_cons_zero, List.getElem?_cons_succ] at hl
  subst hl
  obtain ⟨q, rfl, hq⟩ := loop_end hx 2 (fun i s => ∃ g, s = ⟨[(2, .ptr 32 1 0), (5, .d (.int .i64 (if i = 0 then 0 else if i = 1 then a else cl T a b))), (8, .d (.sl 1 [.int .i64 a, .int .i64 b])), (9, .d (.int .i64 2)), (10, .d (.int .i64 i))], [(32, some (1, .box [.d (intss T)]))], g⟩)
    (fun q => ∃ s, q = (.exit 0, s) ∧ lookL s.env 5 = some (.d (.int .i64 (cl T a b)))) (by show 2 < m; omega) (by simp -implicitDefEqProofs (maxSteps := 3000000))
    (by
      rintro i s hi ⟨g, rfl⟩
      have e : i = 0 ∨ i = 1 := by omega
      have w1 := wrap_id (n := 1) (by omega)
      have w2 := wrap_id (n := 2) (by omega)
      rcases e with rfl | rfl
      · simp -implicitDefEqProofs (maxSteps := 3000000) [hz, r0, ha, e0, w1]
      · simp -implicitDefEqProofs (maxSteps := 3000000) [ha, ra, hb, w2])
    (by
      rintro s ⟨g, rfl⟩
      simp -implicitDefEqProofs (maxSteps := 3000000))
  obtain ⟨s, rfl, h1⟩ := hq
  simp -implicitDefEqProofs (maxSteps := 3000000) [h1]
end Go.Proofs.YtfpeijfomacgeaaE
