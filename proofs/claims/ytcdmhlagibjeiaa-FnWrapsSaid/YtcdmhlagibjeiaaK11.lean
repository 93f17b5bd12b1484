/- Contracts of functions of the program and of the reference: what the evaluator gives for a call of each. -/
import Derived.Test.YtcdmhlagibjeiaaAEf
import Derived.Test.YtcdmhlagibjeiaaK0
import Derived.Test.YtcdmhlagibjeiaaK3
import Derived.Test.YtcdmhlagibjeiaaK4
import Derived.Test.YtcdmhlagibjeiaaK6
import Derived.Test.YtcdmhlagibjeiaaK9
import Derived.Test.YtcdmhlagibjeiaaK10
namespace Go.Proofs.YtcdmhlagibjeiaaE
open Go Go.Proofs
set_option maxHeartbeats 2000000
set_option linter.unusedSimpArgs false
set_option linter.unusedVariables false
set_option pp.deepTerms false
set_option pp.deepTerms.threshold 10
/-! ## the program's ReduceCochain -/
theorem ct_areModules1 (n : Nat) (hn : B + 4 ≤ n) (T : List (List Int)) (hT : T.length ≤ 2000000) (hr : ∀ i, (rown T i).length ≤ 1000000000000) (M : Int) (U : List Int) (hU : U.length ≤ 2000000) :
    evalCall Try.prog An n 85 [.agg [.d (intss T)], .d (.sl 2 [.int .i64 M, ints U])] [] = some ⟨.d (.bool (bl (GM T M U))), [], []⟩ := by
  obtain ⟨m, rfl⟩ : ∃ m, n = m + 1 := ⟨n - 1, by omega⟩
  have hB := B_eq
  simp only [evalCall_at, fb85, bnd_some, bodyOf, Try.f85, Option.getD_some]
  generalize hb0 : Code.loop _ = cc0
  obtain rfl : cc0 = .loop (lp Try.f85 0) := by rw [← hb0]; rfl
  clear hb0
  have c1 := ct_IsGroup m (by omega) T hT hr
  simp -implicitDefEqProofs (maxSteps := 3000000)
  generalize hx : loopC _ _ _ = x
  generalize hl : lp Try.f85 0 = L at hx
  simp only [lp, bodyOf, Try.f85, Option.getD_some, loopsIn, List.append_nil, List.nil_append, List.cons_append, List.getD, List.getElem?_cons_zero, List.getElem?_cons_succ] at hl
  subst hl
  rcases loop_chk hx 1 0 (fun i => GM T M U)
    (fun i g => ⟨[(2, .ptr 32 1 0), (7, .d (.sl 2 [.int .i64 M, ints U])), (8, .d (.int .i64 1)), (9, .d (.int .i64 i))], [(32, some (1, .box [.d (intss T)]))], g⟩)
    (fun s => True) (fun s => lookL s.env 4 = some (.d (.bool false)))
    (by show 1 < m; omega) (by simp -implicitDefEqProofs (maxSteps := 3000000))
    (by
      rintro i g hi hp
      obtain rfl : i = 0 := by omega
      have w2 := wrap_id (n := 1) (by omega)
      by_cases G : IsGr T
      · have c2 := ct_isModule m (by omega) T G M U hU
        rw [bl_true G] at c1
        by_cases p : IsMo T M U
        · rw [bl_true p] at c2
          simp -implicitDefEqProofs (maxSteps := 3000000) [c1, c2, w2, show GM T M U from ⟨G, p⟩]
        · rw [bl_false p] at c2
          simp -implicitDefEqProofs (maxSteps := 3000000) [c1, c2, w2, show ¬ GM T M U from fun z => p z.2]
      · rw [bl_false G] at c1
        simp -implicitDefEqProofs (maxSteps := 3000000) [c1, w2, show ¬ GM T M U from fun z => G z.1])
    (by
      rintro g
      simp -implicitDefEqProofs (maxSteps := 3000000)) with ⟨h1, s, rfl, _⟩ | ⟨⟨i, hi, h1⟩, s, rfl, h2⟩
  · simp -implicitDefEqProofs (maxSteps := 3000000) [bl_true (h1 0 (by omega))]
  · simp -implicitDefEqProofs (maxSteps := 3000000) [h2, bl_false h1]
noncomputable def mcode (T : List (List Int)) (M : Int) (U : List Int) : Int := @ite Int (GM T M U) (Classical.propDecidable _) 0 1
theorem half {M k : Int} (hM : 2 ≤ M) (hk : 2 ≤ k) (h : M.tmod k = 0) : k < M ↔ k ≤ M.tdiv 2 := by
  rw [Int.tdiv_eq_ediv_of_nonneg (by omega)]
  rw [tmod_nn k (by omega)] at h
  have e : k * (M / k) = M := Int.mul_ediv_cancel' (Int.dvd_of_emod_eq_zero h)
  constructor
  · intro hlt
    have c : 2 ≤ M / k := by
      rcases Int.lt_or_le (M / k) 2 with z | z
      · have := Int.mul_le_mul_of_nonneg_left (show M / k ≤ 1 by omega) (show 0 ≤ k by omega)
        omega
      · exact z
    have := Int.mul_le_mul_of_nonneg_left c (show 0 ≤ k by omega)
    omega
  · intro hle
    omega
noncomputable def icode (T : List (List Int)) (M : Int) (U : List Int) (k : Int) : Int := @ite Int (GM T M U) (Classical.propDecidable _) (dcode M k) 1
end Go.Proofs.YtcdmhlagibjeiaaE
