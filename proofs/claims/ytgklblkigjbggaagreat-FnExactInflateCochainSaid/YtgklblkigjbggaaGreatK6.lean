/- Contracts of functions of the program and of the reference: what the evaluator gives for a call of each. -/
import Derived.Test.YtgklblkigjbggaaGreatAEf
import Derived.Test.YtgklblkigjbggaaGreatK0
import Derived.Test.YtgklblkigjbggaaGreatK3
import Derived.Test.YtgklblkigjbggaaGreatK4
import Derived.Test.YtgklblkigjbggaaGreatK5
namespace Go.Proofs.YtgklblkigjbggaaGreatE
open Go Go.Proofs
set_option maxHeartbeats 2000000
set_option linter.unusedSimpArgs false
set_option linter.unusedVariables false
set_option pp.deepTerms false
set_option pp.deepTerms.threshold 10
/-! ## the reference's ReduceCochain -/
def GM (T : List (List Int)) (M : Int) (U : List Int) : Prop := IsGr T ∧ IsMo T M U
noncomputable def dcode (M k : Int) : Int := @ite Int (2 ≤ k ∧ k ≤ M.tdiv 2 ∧ M.tmod k = 0) (Classical.propDecidable _) 0 2
theorem dcode_0 {M k : Int} (h : 2 ≤ k ∧ k ≤ M.tdiv 2 ∧ M.tmod k = 0) : dcode M k = 0 := by simp only [dcode, if_pos h]
theorem dcode_2 {M k : Int} (h : ¬ (2 ≤ k ∧ k ≤ M.tdiv 2 ∧ M.tmod k = 0)) : dcode M k = 2 := by simp only [dcode, if_neg h]
noncomputable def ccode (T : List (List Int)) (M : Int) (U : List Int) (D : Int) (V : List Int) : Int := @ite Int (IsCo T M D V) (Classical.propDecidable _) 0 1
theorem ct_l03Code1 (n : Nat) (hn : B + 4 ≤ n) (T : List (List Int)) (M : Int) (U : List Int) (hU : U.length ≤ 2000000) (h : GM T M U) (D : Int) (V : List Int) (hV : V.length ≤ 10000000) :
    evalCall Tryz.prog An n 62 [.agg [.d (intss T)], .agg [.d (.int .i64 M), .d (ints U)], .d (.sl 2 [.int .i64 D, ints V])] [] = some ⟨.d (.int .i64 (ccode T M U D V)), [], []⟩ := by
  obtain ⟨m, rfl⟩ : ∃ m, n = m + 1 := ⟨n - 1, by omega⟩
  have hB := B_eq
  simp only [evalCall_at, fb62, bnd_some, bodyOf, Tryz.f62, Option.getD_some]
  generalize hb0 : Code.loop _ = cc0
  obtain rfl : cc0 = .loop (lp Tryz.f62 0) := by rw [← hb0]; rfl
  clear hb0
  have hT := h.1.1.1
  have c1 := ct_l01Is m (by omega) T (by omega)
  have c2 := ct_l02Is m (by omega) T h.1.1 M U hU
  have c3 := ct_l03Is m (by omega) T hT M h.2.1.1 U D V hV
  rw [bl_true h.1] at c1
  rw [bl_true h.2] at c2
  simp -implicitDefEqProofs (maxSteps := 3000000) [c1, c2]
  generalize hx : loopC _ _ _ = x
  generalize hl : lp Tryz.f62 0 = L at hx
  simp only [lp, bodyOf, Tryz.f62, Option.getD_some, loopsIn, List.append_nil, List.nil_append, List.cons_append, List.getD, List.getElem?_cons_zero, List.getElem?_cons_succ] at hl
  subst hl
  rcases loop_chk hx 1 0 (fun i => IsCo T M D V)
    (fun i g => ⟨[(2, .d (.sl 2 [.int .i64 D, ints V])), (3, .ptr 48 1 0), (4, .ptr 64 2 0), (7, .d (.int .i64 i))], [(48, some (1, .box [.d (intss T)])), (64, some (2, .box [.d (.int .i64 M), .d (ints U)]))], g⟩)
    (fun s => True) (fun s => lookL s.env 6 = some (.d (.int .i64 1)))
    (by show 1 < m; omega) (by simp -implicitDefEqProofs (maxSteps := 3000000))
    (by
      rintro i g hi hp
      obtain rfl : i = 0 := by omega
      have w2 := wrap_id (n := 1) (by omega)
      by_cases p : IsCo T M D V
      · rw [bl_true p] at c3
        simp -implicitDefEqProofs (maxSteps := 3000000) [c3, p, w2]
      · rw [bl_false p] at c3
        simp -implicitDefEqProofs (maxSteps := 3000000) [c3, p, w2])
    (by
      rintro g
      simp -implicitDefEqProofs (maxSteps := 3000000)) with ⟨h1, s, rfl, _⟩ | ⟨⟨i, hi, h1⟩, s, rfl, h2⟩
  · have e : ccode T M U D V = 0 := if_pos (h1 0 (by omega))
    simp -implicitDefEqProofs (maxSteps := 3000000) [e]
  · have e : ccode T M U D V = 1 := if_neg h1
    simp -implicitDefEqProofs (maxSteps := 3000000) [h2, e]
/-- Good arguments of ReduceCochain. -/
def RGood (T : List (List Int)) (M : Int) (U : List Int) (k D : Int) (V : List Int) : Prop := (GM T M U ∧ (2 ≤ k ∧ k ≤ M.tdiv 2 ∧ M.tmod k = 0)) ∧ IsCo T M D V
noncomputable def rcode (T : List (List Int)) (M : Int) (U : List Int) (k D : Int) (V : List Int) : Int :=
  @ite Int (GM T M U) (Classical.propDecidable _) (if dcode M k = 0 then ccode T M U D V else dcode M k) 1
end Go.Proofs.YtgklblkigjbggaaGreatE
