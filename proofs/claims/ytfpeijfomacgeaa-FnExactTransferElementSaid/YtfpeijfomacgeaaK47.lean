/- Contracts of functions of the program and of the reference: what the evaluator gives for a call of each. -/
import Derived.Test.YtfpeijfomacgeaaAEf
import Derived.Test.YtfpeijfomacgeaaK0
import Derived.Test.YtfpeijfomacgeaaK3
import Derived.Test.YtfpeijfomacgeaaK24
namespace Go.Proofs.YtfpeijfomacgeaaE
open Go Go.Proofs
set_option maxHeartbeats 4000000
set_option maxRecDepth 4000
set_option linter.unusedSimpArgs false
set_option linter.unusedVariables false
set_option pp.deepTerms false
set_option pp.deepTerms.threshold 10
/-! ## centres -/
noncomputable def cenQ (S : List (List Int)) (a : Nat) : Bool := bl (∀ b < S.length, cl S a b = cl S b a)
noncomputable def cenL (S : List (List Int)) : List Int := thoseL (cenQ S) S.length
theorem lp_l01Centre_1 (m : Nat) (hm : B + 1 ≤ m) (S : List (List Int)) (R : RowsOk S) (a : Nat) (ha : a < S.length) (X : List Int)
    {st : St} {o : Option (Ex × St)} (hx : loopC (cxAt 69 m) (lp Try.f69 1) st = o) {v : Nat}
    (f : obsL st.obs 16 = some (1, .box [.d (intss S)]) ∧ obsL st.obs 112 = some (v, .row (icells X)) ∧ obsL st.obs 704 = none ∧ lookL st.env 1 = some (.ptr 16 1 0) ∧ lookL st.env 3 = some (.own 112 v) ∧ lookL st.env 4 = some (.d (.int .i64 a)) ∧ lookL st.env 5 = some (.d (.bool true)) ∧ lookL st.env 6 = some (.d (.int .i64 0))) :
    ∃ s, o = some (.exit 2, s) ∧ obsL s.obs 16 = some (1, .box [.d (intss S)]) ∧ obsL s.obs 112 = some (v, .row (icells X)) ∧ obsL s.obs 704 = none ∧ lookL s.env 1 = some (.ptr 16 1 0) ∧ lookL s.env 3 = some (.own 112 v) ∧ lookL s.env 4 = some (.d (.int .i64 a)) ∧ lookL s.env 5 = some (.d (.bool (cenQ S a))) := by
  have hB := B_eq
  have hT := R.1
  have c0 := ct_l01N m (by omega) S
  generalize hl : lp Try.f69 1 = L at hx
  simp only [lp, bodyOf, Try.f69, Option.getD_some, loopsIn, List.append_nil, List.nil_append, List.cons_append, List.getD, List.getElem?_cons_zero, List.getElem?_cons_succ] at hl
  subst hl
  obtain ⟨qq, rfl, hqq⟩ := loop_end hx S.length (fun b s => ∃ g, s = ⟨[(1, .ptr 16 1 0), (3, .own 112 v), (4, .d (.int .i64 a)), (5, .d (.bool (bl (∀ b' < b, cl S a b' = cl S b' a)))), (6, .d (.int .i64 b))], [(16, some (1, .box [.d (intss S)])), (112, some (v, .row (icells X)))], g⟩)
    (fun qq => ∃ s, qq = (.exit 2, s) ∧ obsL s.obs 16 = some (1, .box [.d (intss S)]) ∧ obsL s.obs 112 = some (v, .row (icells X)) ∧ obsL s.obs 704 = none ∧ lookL s.env 1 = some (.ptr 16 1 0) ∧ lookL s.env 3 = some (.own 112 v) ∧ lookL s.env 4 = some (.d (.int .i64 a)) ∧ lookL s.env 5 = some (.d (.bool (cenQ S a))))
    (by show S.length < m; omega) ⟨st.g, by
      have e : bl (∀ b' < 0, cl S a b' = cl S b' a) = true := bl_true fun b' hb => by omega
      rw [e]
      simp -implicitDefEqProofs (maxSteps := 3000000) [f]⟩
    (by
      rintro b s hb ⟨g, rfl⟩
      have w2 := wrap_id (n := (b : Int) + 1) (by omega)
      have ra := (R.2 a ha).1
      have rb := (R.2 b hb).1
      by_cases p : ∀ b' < b, cl S a b' = cl S b' a
      · rw [bl_true p]
        by_cases q : cl S a b = cl S b a
        · have e : bl (∀ b' < b + 1, cl S a b' = cl S b' a) = true := bl_true fun b' hb' => by
            rcases Nat.lt_or_ge b' b with z | z
            · exact p b' z
            · obtain rfl : b' = b := by omega
              exact q
          rw [e]
          simp -implicitDefEqProofs (maxSteps := 3000000) [hb, ha, c0, ra, rb, q, w2]
        · have e : bl (∀ b' < b + 1, cl S a b' = cl S b' a) = false := bl_false fun z => q (z b (by omega))
          rw [e]
          have q2 : (cl S a b == cl S b a) = false := by simpa using q
          simp -implicitDefEqProofs (maxSteps := 3000000) [hb, ha, c0, ra, rb, q, q2, w2]
      · have e : bl (∀ b' < b + 1, cl S a b' = cl S b' a) = false := bl_false fun z => p fun b' hb' => z b' (by omega)
        rw [e, bl_false p]
        simp -implicitDefEqProofs (maxSteps := 3000000) [hb, c0, w2])
    (by
      rintro s ⟨g, rfl⟩
      simp -implicitDefEqProofs (maxSteps := 3000000) [c0, cenQ])
  obtain ⟨s, rfl, hf⟩ := hqq
  exact ⟨s, rfl, hf⟩
theorem ct_l01Centre (n : Nat) (hn : B + 2 ≤ n) (S : List (List Int)) (R : RowsOk S) :
    evalCall Try.prog An n 69 [.agg [.d (intss S)]] [] = some ⟨.own 0 0, [.row (icells (cenL S))], []⟩ := by
  obtain ⟨m, rfl⟩ : ∃ m, n = m + 1 := ⟨n - 1, by omega⟩
  have hB := B_eq
  simp only [evalCall_at, fb69, bnd_some, bodyOf, Try.f69, Option.getD_some]
  generalize hb0 : Code.loop _ = cc0
  obtain rfl : cc0 = .loop (lp Try.f69 0) := by rw [← hb0]; rfl
  clear hb0
  have hT := R.1
  have c0 := ct_l01N m (by omega) S
  simp -implicitDefEqProofs (maxSteps := 3000000)
  generalize hx : loopC _ _ _ = x
  generalize hl : lp Try.f69 0 = L at hx
  simp only [lp, bodyOf, Try.f69, Option.getD_some, loopsIn, List.append_nil, List.nil_append, List.cons_append, List.getD, List.getElem?_cons_zero, List.getElem?_cons_succ] at hl
  subst hl
  generalize hb1 : Code.loop _ = cc1 at hx
  obtain rfl : cc1 = .loop (lp Try.f69 1) := by rw [← hb1]; rfl
  clear hb1
  obtain ⟨qq, rfl, hqq⟩ := loop_end hx (S.length) (fun i s => ∃ g v, s = ⟨[(1, .ptr 16 1 0), (3, .own 112 v), (4, .d (.int .i64 i))], [(16, some (1, .box [.d (intss S)])), (112, some (v, .row (icells (thoseL (cenQ S) i))))], g⟩)
    (fun qq => ∃ s v, qq = (.exit 0, s) ∧ lookL s.env 1 = some (.ptr 16 1 0) ∧ lookL s.env 3 = some (.own 112 v) ∧ lookL s.env 4 = some (.d (.int .i64 (S.length))) ∧ obsL s.obs 16 = some (1, .box [.d (intss S)]) ∧ obsL s.obs 112 = some (v, .row (icells (thoseL (cenQ S) (S.length)))))
    (by show S.length < m; omega) (by
      simp -implicitDefEqProofs (maxSteps := 3000000))
    (by
      rintro i s hi ⟨g, v, rfl⟩
      have w2 := wrap_id (n := (i : Int) + 1) (by omega)
      have tl := thoseL_le (cenQ S) i
      have ts := thoseL_succ (cenQ S) i
      have hb := lt_bound (n := (thoseL (cenQ S) i).length) (by omega)
      have hb2 := le_bound (n := (thoseL (cenQ S) i).length) (by omega)
      simp -implicitDefEqProofs (maxSteps := 3000000) [c0, hi]
      generalize hy : loopC _ _ _ = y
      obtain ⟨s, rfl, hq⟩ := lp_l01Centre_1 m (by omega) S R i hi (thoseL (cenQ S) i) hy (v := v) (by simp -implicitDefEqProofs (maxSteps := 3000000))
      cases e : cenQ S i
      · rw [e] at ts hq
        simp only [Bool.false_eq_true, if_false, List.append_nil] at ts
        rw [ts]
        simp -implicitDefEqProofs (maxSteps := 3000000) [hq, w2]
      · rw [e] at ts hq
        simp only [if_true] at ts
        rw [ts]
        simp -implicitDefEqProofs (maxSteps := 3000000) [hq, w2, hb, hb2])
    (by
      rintro s ⟨g, v, rfl⟩
      simp -implicitDefEqProofs (maxSteps := 3000000) [c0])
  obtain ⟨s, v, rfl, hf⟩ := hqq
  simp -implicitDefEqProofs (maxSteps := 3000000) [hf, cenL]
end Go.Proofs.YtfpeijfomacgeaaE
