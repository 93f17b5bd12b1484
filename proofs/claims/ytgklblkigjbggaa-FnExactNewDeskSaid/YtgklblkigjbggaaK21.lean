/- Contracts of functions of the program and of the reference: what the evaluator gives for a call of each. -/
import Derived.Test.YtgklblkigjbggaaAEf
import Derived.Test.YtgklblkigjbggaaK0
import Derived.Test.YtgklblkigjbggaaK2
import Derived.Test.YtgklblkigjbggaaK3
import Derived.Test.YtgklblkigjbggaaK20
namespace Go.Proofs.YtgklblkigjbggaaE
open Go Go.Proofs
set_option maxHeartbeats 4000000
set_option maxRecDepth 2000
set_option linter.unusedSimpArgs false
set_option linter.unusedVariables false
set_option pp.deepTerms false
set_option pp.deepTerms.threshold 10
/-! ## rows of rows as results -/
theorem mkt_row_after (k : Int) (t : List (List Int)) : ∀ i r, r < i → i ≤ t.length → rown (mkt k t i) r = marks (mkv k t r) (rown t r).length
  | i + 1, r, h, hi => by
    simp only [mkt]
    by_cases e : i = r
    · subst e
      rw [rown_set _ (by simp; omega)]
    · rw [rown_set_ne _ e]
      exact mkt_row_after k t i r (by omega) (by omega)
theorem ct_heldInt64SS (n : Nat) (hn : B + 2 ≤ n) (t : List (List Int)) (hl : t.length ≤ 10000) (hr : ∀ i, (rown t i).length ≤ 1048576) (k : Int) (hk : 0 ≤ k ∧ k < 10000000) :
    evalCall Try.prog An n 33 [.d (intss (mkt k t t.length)), .d (.int .i64 k)] [] = some ⟨.d (.int .i64 (mkv k t t.length)), [], []⟩ := by
  obtain ⟨m, rfl⟩ : ∃ m, n = m + 1 := ⟨n - 1, by omega⟩
  have hB := B_eq
  simp only [evalCall_at, fb33, bnd_some, bodyOf, Try.f33, Option.getD_some]
  generalize hb0 : Code.loop _ = cc0
  obtain rfl : cc0 = .loop (lp Try.f33 0) := by rw [← hb0]; rfl
  clear hb0
  simp -implicitDefEqProofs (maxSteps := 3000000)
  generalize hx : loopC _ _ _ = x
  generalize hl : lp Try.f33 0 = L at hx
  simp only [lp, bodyOf, Try.f33, Option.getD_some, loopsIn, List.append_nil, List.nil_append, List.cons_append, List.getD, List.getElem?_cons_zero, List.getElem?_cons_succ] at hl
  subst hl
  obtain ⟨qq, rfl, hqq⟩ := loop_end hx (t.length) (fun i s => ∃ g, s = ⟨[(0, .d (intss (mkt k t t.length))), (1, .d (.int .i64 (mkv k t i))), (5, .d (.int .i64 i))], [], g⟩)
    (fun qq => ∃ s, qq = (.exit 0, s) ∧ lookL s.env 0 = some (.d (intss (mkt k t t.length))) ∧ lookL s.env 1 = some (.d (.int .i64 (mkv k t (t.length)))) ∧ lookL s.env 5 = some (.d (.int .i64 (t.length))))
    (by show t.length < m; omega) (by
      simp -implicitDefEqProofs (maxSteps := 3000000) [mkv])
    (by
      rintro i s hi ⟨g, rfl⟩
      have w2 := wrap_id (n := (i : Int) + 1) (by omega)
      have r2 := hr i
      have r3 := mkv_bd k t hr i
      have c := ct_heldInt64S m (by omega) (rown t i).length (by omega) (mkv k t i) (by omega)
      have e := mkt_row_after k t t.length i hi (Nat.le_refl _)
      have n1 : ¬ (mkv k t i + (rown t i).length < 0) := by omega
      simp -implicitDefEqProofs (maxSteps := 3000000) [hi, e, c, w2, n1, mkv])
    (by
      rintro s ⟨g, rfl⟩
      simp -implicitDefEqProofs (maxSteps := 3000000))
  obtain ⟨s, rfl, hf⟩ := hqq
  simp -implicitDefEqProofs (maxSteps := 3000000) [hf]
theorem ct_eqInt64SS_nil (n : Nat) (hn : B + 2 ≤ n) :
    evalCall Try.prog An n 29 [.d .nil, .d .nil] [] = some ⟨.d (.bool true), [], []⟩ := by
  obtain ⟨m, rfl⟩ : ∃ m, n = m + 1 := ⟨n - 1, by omega⟩
  have hB := B_eq
  simp only [evalCall_at, fb29, bnd_some, bodyOf, Try.f29, Option.getD_some]
  generalize hb0 : Code.loop _ = cc0
  obtain rfl : cc0 = .loop (lp Try.f29 0) := by rw [← hb0]; rfl
  clear hb0
  simp -implicitDefEqProofs (maxSteps := 3000000)
  generalize hx : loopC _ _ _ = x
  generalize hl : lp Try.f29 0 = L at hx
  simp only [lp, bodyOf, Try.f29, Option.getD_some, loopsIn, List.append_nil, List.nil_append, List.cons_append, List.getD, List.getElem?_cons_zero, List.getElem?_cons_succ] at hl
  subst hl
  obtain ⟨qq, rfl, hqq⟩ := loop_end hx (0) (fun i s => ∃ g, s = ⟨[(0, .d .nil), (1, .d .nil), (5, .d (.int .i64 i))], [], g⟩)
    (fun qq => ∃ s, qq = (.exit 0, s) ∧ lookL s.env 0 = some (.d .nil) ∧ lookL s.env 1 = some (.d .nil) ∧ lookL s.env 5 = some (.d (.int .i64 (0))))
    (by show 0 < m; omega) (by
      simp -implicitDefEqProofs (maxSteps := 3000000))
    (by
      rintro i s hi ⟨g, rfl⟩
      omega)
    (by
      rintro s ⟨g, rfl⟩
      simp -implicitDefEqProofs (maxSteps := 3000000))
  obtain ⟨s, rfl, hf⟩ := hqq
  simp -implicitDefEqProofs (maxSteps := 3000000) [hf]
theorem ct_markInt64SS_nil (n : Nat) (hn : B + 2 ≤ n) (k : Int) :
    evalCall Try.prog An n 31 [.d .nil, .d (.int .i64 k)] [] = some ⟨.d (.int .i64 k), [], []⟩ := by
  obtain ⟨m, rfl⟩ : ∃ m, n = m + 1 := ⟨n - 1, by omega⟩
  have hB := B_eq
  simp only [evalCall_at, fb31, bnd_some, bodyOf, Try.f31, Option.getD_some]
  generalize hb0 : Code.loop _ = cc0
  obtain rfl : cc0 = .loop (lp Try.f31 0) := by rw [← hb0]; rfl
  clear hb0
  simp -implicitDefEqProofs (maxSteps := 3000000)
  generalize hx : loopC _ _ _ = x
  generalize hl : lp Try.f31 0 = L at hx
  simp only [lp, bodyOf, Try.f31, Option.getD_some, loopsIn, List.append_nil, List.nil_append, List.cons_append, List.getD, List.getElem?_cons_zero, List.getElem?_cons_succ] at hl
  subst hl
  obtain ⟨qq, rfl, hqq⟩ := loop_end hx (0) (fun i s => ∃ g, s = ⟨[(0, .d .nil), (1, .d (.int .i64 k)), (5, .d (.int .i64 i))], [], g⟩)
    (fun qq => ∃ s, qq = (.exit 0, s) ∧ lookL s.env 0 = some (.d .nil) ∧ lookL s.env 1 = some (.d (.int .i64 k)) ∧ lookL s.env 5 = some (.d (.int .i64 (0))))
    (by show 0 < m; omega) (by
      simp -implicitDefEqProofs (maxSteps := 3000000))
    (by
      rintro i s hi ⟨g, rfl⟩
      omega)
    (by
      rintro s ⟨g, rfl⟩
      simp -implicitDefEqProofs (maxSteps := 3000000))
  obtain ⟨s, rfl, hf⟩ := hqq
  simp -implicitDefEqProofs (maxSteps := 3000000) [hf]
theorem ct_heldInt64SS_nil (n : Nat) (hn : B + 2 ≤ n) (k : Int) :
    evalCall Try.prog An n 33 [.d .nil, .d (.int .i64 k)] [] = some ⟨.d (.int .i64 k), [], []⟩ := by
  obtain ⟨m, rfl⟩ : ∃ m, n = m + 1 := ⟨n - 1, by omega⟩
  have hB := B_eq
  simp only [evalCall_at, fb33, bnd_some, bodyOf, Try.f33, Option.getD_some]
  generalize hb0 : Code.loop _ = cc0
  obtain rfl : cc0 = .loop (lp Try.f33 0) := by rw [← hb0]; rfl
  clear hb0
  simp -implicitDefEqProofs (maxSteps := 3000000)
  generalize hx : loopC _ _ _ = x
  generalize hl : lp Try.f33 0 = L at hx
  simp only [lp, bodyOf, Try.f33, Option.getD_some, loopsIn, List.append_nil, List.nil_append, List.cons_append, List.getD, List.getElem?_cons_zero, List.getElem?_cons_succ] at hl
  subst hl
  obtain ⟨qq, rfl, hqq⟩ := loop_end hx (0) (fun i s => ∃ g, s = ⟨[(0, .d .nil), (1, .d (.int .i64 k)), (5, .d (.int .i64 i))], [], g⟩)
    (fun qq => ∃ s, qq = (.exit 0, s) ∧ lookL s.env 0 = some (.d .nil) ∧ lookL s.env 1 = some (.d (.int .i64 k)) ∧ lookL s.env 5 = some (.d (.int .i64 (0))))
    (by show 0 < m; omega) (by
      simp -implicitDefEqProofs (maxSteps := 3000000))
    (by
      rintro i s hi ⟨g, rfl⟩
      omega)
    (by
      rintro s ⟨g, rfl⟩
      simp -implicitDefEqProofs (maxSteps := 3000000))
  obtain ⟨s, rfl, hf⟩ := hqq
  simp -implicitDefEqProofs (maxSteps := 3000000) [hf]
/-! ## tables of rows -/
def tabM (F : Nat → List Int) (n : Nat) : List (List Int) := (List.range n).map F
@[simp] theorem tabM_len (F : Nat → List Int) (n : Nat) : (tabM F n).length = n := by simp -implicitDefEqProofs (maxSteps := 3000000) [tabM]
@[simp] theorem tabM_zero (F : Nat → List Int) : tabM F 0 = [] := rfl
@[simp] theorem mcells_nil : mcells [] = [] := rfl
theorem tabM_succ (F : Nat → List Int) (n : Nat) : tabM F n ++ [F n] = tabM F (n + 1) := by simp -implicitDefEqProofs (maxSteps := 3000000) [tabM, List.range_succ]
theorem rown_tabM (F : Nat → List Int) {n i : Nat} (h : i < n) : rown (tabM F n) i = F i := by simp -implicitDefEqProofs (maxSteps := 3000000) [rown, tabM, List.getD, h]
theorem rown_out {t : List (List Int)} {i : Nat} (h : t.length ≤ i) : rown t i = [] := by simp -implicitDefEqProofs (maxSteps := 3000000) [rown, List.getD, List.getElem?_eq_none h]
/-! ## FormOf -/
noncomputable def fe (T : List (List Int)) (M : Int) (V : List Int) (x y : Nat) : Int := if cl T x y = cl T y x then frm T.length M V x y else -1
noncomputable def frow (T : List (List Int)) (M : Int) (V : List Int) (x : Nat) : List Int := tabI (fe T M V x) T.length
noncomputable def fform (T : List (List Int)) (M : Int) (V : List Int) : List (List Int) := tabM (frow T M V) T.length
theorem fform_len (T : List (List Int)) (M : Int) (V : List Int) : (fform T M V).length = T.length := by simp -implicitDefEqProofs (maxSteps := 3000000) [fform]
theorem fform_row (T : List (List Int)) (M : Int) (V : List Int) (i : Nat) : (rown (fform T M V) i).length ≤ T.length := by
  by_cases h : i < T.length
  · rw [fform, rown_tabM _ h, frow, tabI_len]; omega
  · rw [rown_out (by simp -implicitDefEqProofs (maxSteps := 3000000) [fform]; omega)]; simp -implicitDefEqProofs (maxSteps := 3000000)
end Go.Proofs.YtgklblkigjbggaaE
