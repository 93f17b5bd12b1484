/- Contracts of functions of the program and of the reference: what the evaluator gives for a call of each. -/
import Derived.Test.YtfichikabolknaaGreatAEf
import Derived.Test.YtfichikabolknaaGreatK0
import Derived.Test.YtfichikabolknaaGreatK2
import Derived.Test.YtfichikabolknaaGreatK3
import Derived.Test.YtfichikabolknaaGreatK16
import Derived.Test.YtfichikabolknaaGreatK20
namespace Go.Proofs.YtfichikabolknaaGreatE
open Go Go.Proofs
set_option maxHeartbeats 4000000
set_option maxRecDepth 2000
set_option linter.unusedSimpArgs false
set_option linter.unusedVariables false
set_option pp.deepTerms false
set_option pp.deepTerms.threshold 10
/-! ## rows of rows as results -/
theorem mkt_row_after (k : Int) (t : List (List Int)) : ∀ i r, r < i → i ≤ t.length → rown (mkt k t i) r = marks (mkv k t r) (rown t r).length
  | i + 1, r, h, hi => by
    simp only [mkt]
    by_cases e : i = r
    · subst e
      rw [rown_set _ (by simp; omega)]
    · rw [rown_set_ne _ e]
      exact mkt_row_after k t i r (by omega) (by omega)
theorem ct_heldInt64SS (n : Nat) (hn : B + 2 ≤ n) (t : List (List Int)) (hl : t.length ≤ 10000) (hr : ∀ i, (rown t i).length ≤ 1048576) (k : Int) (hk : 0 ≤ k ∧ k < 10000000) :
    evalCall Tryz.prog An n 58 [.d (intss (mkt k t t.length)), .d (.int .i64 k)] [] = some ⟨.d (.int .i64 (mkv k t t.length)), [], []⟩ := by
  obtain ⟨m, rfl⟩ : ∃ m, n = m + 1 := ⟨n - 1, by omega⟩
  have hB := B_eq
  simp only [evalCall_at, fb58, bnd_some, bodyOf, Tryz.f58, Option.getD_some]
  generalize hb0 : Code.loop _ = cc0
  obtain rfl : cc0 = .loop (lp Tryz.f58 0) := by rw [← hb0]; rfl
  clear hb0
  simp -implicitDefEqProofs (maxSteps := 3000000)
  generalize hx : loopC _ _ _ = x
  generalize hl : lp Tryz.f58 0 = L at hx
  simp only [lp, bodyOf, Tryz.f58, Option.getD_some, loopsIn, List.append_nil, List.nil_append, List.cons_append, List.getD, List.getElem?_cons_zero, List.getElem?_cons_succ] at hl
  subst hl
  obtain ⟨qq, rfl, hqq⟩ := loop_end hx (t.length) (fun i s => ∃ g, s = ⟨[(0, .d (intss (mkt k t t.length))), (1, .d (.int .i64 (mkv k t i))), (5, .d (.int .i64 i))], [], g⟩)
    (fun qq => ∃ s, qq = (.exit 0, s) ∧ lookL s.env 0 = some (.d (intss (mkt k t t.length))) ∧ lookL s.env 1 = some (.d (.int .i64 (mkv k t (t.length)))) ∧ lookL s.env 5 = some (.d (.int .i64 (t.length))))
    (by show t.length < m; omega) (by
      simp -implicitDefEqProofs (maxSteps := 3000000) [mkv])
    (by
      rintro i s hi ⟨g, rfl⟩
      have w2 := wrap_id (n := (i : Int) + 1) (by omega)
      have r2 := hr i
      have r3 := mkv_bd k t hr i
      have c := ct_heldInt64S m (by omega) (rown t i).length (by omega) (mkv k t i) (by omega)
      have e := mkt_row_after k t t.length i hi (Nat.le_refl _)
      have n1 : ¬ (mkv k t i + (rown t i).length < 0) := by omega
      simp -implicitDefEqProofs (maxSteps := 3000000) [hi, e, c, w2, n1, mkv])
    (by
      rintro s ⟨g, rfl⟩
      simp -implicitDefEqProofs (maxSteps := 3000000))
  obtain ⟨s, rfl, hf⟩ := hqq
  simp -implicitDefEqProofs (maxSteps := 3000000) [hf]
theorem ct_eqInt64SS_nil (n : Nat) (hn : B + 2 ≤ n) :
    evalCall Tryz.prog An n 54 [.d .nil, .d .nil] [] = some ⟨.d (.bool true), [], []⟩ := by
  obtain ⟨m, rfl⟩ : ∃ m, n = m + 1 := ⟨n - 1, by omega⟩
  have hB := B_eq
  simp only [evalCall_at, fb54, bnd_some, bodyOf, Tryz.f54, Option.getD_some]
  generalize hb0 : Code.loop _ = cc0
  obtain rfl : cc0 = .loop (lp Tryz.f54 0) := by rw [← hb0]; rfl
  clear hb0
  simp -implicitDefEqProofs (maxSteps := 3000000)
  generalize hx : loopC _ _ _ = x
  generalize hl : lp Tryz.f54 0 = L at hx
  simp only [lp, bodyOf, Tryz.f54, Option.getD_some, loopsIn, List.append_nil, List.nil_append, List.cons_append, List.getD, List.getElem?_cons_zero, List.getElem?_cons_succ] at hl
  subst hl
  obtain ⟨qq, rfl, hqq⟩ := loop_end hx (0) (fun i s => ∃ g, s = ⟨[(0, .d .nil), (1, .d .nil), (5, .d (.int .i64 i))], [], g⟩)
    (fun qq => ∃ s, qq = (.exit 0, s) ∧ lookL s.env 0 = some (.d .nil) ∧ lookL s.env 1 = some (.d .nil) ∧ lookL s.env 5 = some (.d (.int .i64 (0))))
    (by show 0 < m; omega) (by
      simp -implicitDefEqProofs (maxSteps := 3000000))
    (by
      rintro i s hi ⟨g, rfl⟩
      omega)
    (by
      rintro s ⟨g, rfl⟩
      simp -implicitDefEqProofs (maxSteps := 3000000))
  obtain ⟨s, rfl, hf⟩ := hqq
  simp -implicitDefEqProofs (maxSteps := 3000000) [hf]
theorem ct_markInt64SS_nil (n : Nat) (hn : B + 2 ≤ n) (k : Int) :
    evalCall Tryz.prog An n 57 [.d .nil, .d (.int .i64 k)] [] = some ⟨.d (.int .i64 k), [], []⟩ := by
  obtain ⟨m, rfl⟩ : ∃ m, n = m + 1 := ⟨n - 1, by omega⟩
  have hB := B_eq
  simp only [evalCall_at, fb57, bnd_some, bodyOf, Tryz.f57, Option.getD_some]
  generalize hb0 : Code.loop _ = cc0
  obtain rfl : cc0 = .loop (lp Tryz.f57 0) := by rw [← hb0]; rfl
  clear hb0
  simp -implicitDefEqProofs (maxSteps := 3000000)
  generalize hx : loopC _ _ _ = x
  generalize hl : lp Tryz.f57 0 = L at hx
  simp only [lp, bodyOf, Tryz.f57, Option.getD_some, loopsIn, List.append_nil, List.nil_append, List.cons_append, List.getD, List.getElem?_cons_zero, List.getElem?_cons_succ] at hl
  subst hl
  obtain ⟨qq, rfl, hqq⟩ := loop_end hx (0) (fun i s => ∃ g, s = ⟨[(0, .d .nil), (1, .d (.int .i64 k)), (5, .d (.int .i64 i))], [], g⟩)
    (fun qq => ∃ s, qq = (.exit 0, s) ∧ lookL s.env 0 = some (.d .nil) ∧ lookL s.env 1 = some (.d (.int .i64 k)) ∧ lookL s.env 5 = some (.d (.int .i64 (0))))
    (by show 0 < m; omega) (by
      simp -implicitDefEqProofs (maxSteps := 3000000))
    (by
      rintro i s hi ⟨g, rfl⟩
      omega)
    (by
      rintro s ⟨g, rfl⟩
      simp -implicitDefEqProofs (maxSteps := 3000000))
  obtain ⟨s, rfl, hf⟩ := hqq
  simp -implicitDefEqProofs (maxSteps := 3000000) [hf]
theorem ct_heldInt64SS_nil (n : Nat) (hn : B + 2 ≤ n) (k : Int) :
    evalCall Tryz.prog An n 58 [.d .nil, .d (.int .i64 k)] [] = some ⟨.d (.int .i64 k), [], []⟩ := by
  obtain ⟨m, rfl⟩ : ∃ m, n = m + 1 := ⟨n - 1, by omega⟩
  have hB := B_eq
  simp only [evalCall_at, fb58, bnd_some, bodyOf, Tryz.f58, Option.getD_some]
  generalize hb0 : Code.loop _ = cc0
  obtain rfl : cc0 = .loop (lp Tryz.f58 0) := by rw [← hb0]; rfl
  clear hb0
  simp -implicitDefEqProofs (maxSteps := 3000000)
  generalize hx : loopC _ _ _ = x
  generalize hl : lp Tryz.f58 0 = L at hx
  simp only [lp, bodyOf, Tryz.f58, Option.getD_some, loopsIn, List.append_nil, List.nil_append, List.cons_append, List.getD, List.getElem?_cons_zero, List.getElem?_cons_succ] at hl
  subst hl
  obtain ⟨qq, rfl, hqq⟩ := loop_end hx (0) (fun i s => ∃ g, s = ⟨[(0, .d .nil), (1, .d (.int .i64 k)), (5, .d (.int .i64 i))], [], g⟩)
    (fun qq => ∃ s, qq = (.exit 0, s) ∧ lookL s.env 0 = some (.d .nil) ∧ lookL s.env 1 = some (.d (.int .i64 k)) ∧ lookL s.env 5 = some (.d (.int .i64 (0))))
    (by show 0 < m; omega) (by
      simp -implicitDefEqProofs (maxSteps := 3000000))
    (by
      rintro i s hi ⟨g, rfl⟩
      omega)
    (by
      rintro s ⟨g, rfl⟩
      simp -implicitDefEqProofs (maxSteps := 3000000))
  obtain ⟨s, rfl, hf⟩ := hqq
  simp -implicitDefEqProofs (maxSteps := 3000000) [hf]
/-! ## tables of rows -/
def tabM (F : Nat → List Int) (n : Nat) : List (List Int) := (List.range n).map F
@[simp] theorem tabM_len (F : Nat → List Int) (n : Nat) : (tabM F n).length = n := by simp -implicitDefEqProofs (maxSteps := 3000000) [tabM]
@[simp] theorem tabM_zero (F : Nat → List Int) : tabM F 0 = [] := rfl
@[simp] theorem mcells_nil : mcells [] = [] := rfl
theorem tabM_succ (F : Nat → List Int) (n : Nat) : tabM F n ++ [F n] = tabM F (n + 1) := by simp -implicitDefEqProofs (maxSteps := 3000000) [tabM, List.range_succ]
theorem rown_tabM (F : Nat → List Int) {n i : Nat} (h : i < n) : rown (tabM F n) i = F i := by simp -implicitDefEqProofs (maxSteps := 3000000) [rown, tabM, List.getD, h]
theorem rown_out {t : List (List Int)} {i : Nat} (h : t.length ≤ i) : rown t i = [] := by simp -implicitDefEqProofs (maxSteps := 3000000) [rown, List.getD, List.getElem?_eq_none h]
/-! ## FormOf -/
noncomputable def fe (T : List (List Int)) (M : Int) (V : List Int) (x y : Nat) : Int := if cl T x y = cl T y x then frm T.length M V x y else -1
noncomputable def frow (T : List (List Int)) (M : Int) (V : List Int) (x : Nat) : List Int := tabI (fe T M V x) T.length
noncomputable def fform (T : List (List Int)) (M : Int) (V : List Int) : List (List Int) := tabM (frow T M V) T.length
theorem fform_len (T : List (List Int)) (M : Int) (V : List Int) : (fform T M V).length = T.length := by simp -implicitDefEqProofs (maxSteps := 3000000) [fform]
theorem fform_row (T : List (List Int)) (M : Int) (V : List Int) (i : Nat) : (rown (fform T M V) i).length ≤ T.length := by
  by_cases h : i < T.length
  · rw [fform, rown_tabM _ h, frow, tabI_len]; omega
  · rw [rown_out (by simp -implicitDefEqProofs (maxSteps := 3000000) [fform]; omega)]; simp -implicitDefEqProofs (maxSteps := 3000000)
theorem lp_l10Form_1 (m : Nat) (hm : B + 3 ≤ m) (T : List (List Int)) (M : Int) (V : List Int) (S : FOk T M V) (x : Nat) (hxT : x < T.length) {st : St} {o : Option (Ex × St)} (hx : loopC (cxAt 178 m) (lp Tryz.f178 1) st = o) {v1 : Nat} {X : List (List Int)}
    (f : obsL st.obs 48 = some (1, .box [.d (intss T)]) ∧ obsL st.obs 80 = some (2, .box [.d (.int .i64 2), .d (ints V)]) ∧ obsL st.obs 176 = some (v1, .mat true (mcells X)) ∧ (∃ v, obsL st.obs 288 = some (v, .row []) ∧ lookL st.env 9 = some (.own 288 v)) ∧
      obsL st.obs 704 = none ∧ obsL st.obs 992 = none ∧ obsL st.obs 1056 = none ∧
      lookL st.env 1 = some (.d (.int .i64 M)) ∧ lookL st.env 3 = some (.ptr 48 1 0) ∧ lookL st.env 5 = some (.ptr 80 2 0) ∧ lookL st.env 7 = some (.own 176 v1) ∧ lookL st.env 8 = some (.d (.int .i64 x)) ∧ lookL st.env 10 = some (.d (.int .i64 0))) :
    ∃ s v, o = some (.exit 2, s) ∧ obsL s.obs 48 = some (1, .box [.d (intss T)]) ∧ obsL s.obs 80 = some (2, .box [.d (.int .i64 2), .d (ints V)]) ∧ obsL s.obs 176 = some (v1, .mat true (mcells X)) ∧ obsL s.obs 288 = some (v, .row (icells (frow T M V x))) ∧ lookL s.env 9 = some (.own 288 v) ∧
      lookL s.env 1 = some (.d (.int .i64 M)) ∧ lookL s.env 3 = some (.ptr 48 1 0) ∧ lookL s.env 5 = some (.ptr 80 2 0) ∧ lookL s.env 7 = some (.own 176 v1) ∧ lookL s.env 8 = some (.d (.int .i64 x)) ∧ obsL s.obs 1056 = none := by
  have hB := B_eq
  have hT := S.G.1.1
  have R := S.G.1
  obtain ⟨f1, f2, f3, ⟨v0, f4, f5⟩, f6⟩ := f
  have c0 := ct_l01N m (by omega) T
  generalize hl : lp Tryz.f178 1 = L at hx
  simp only [lp, bodyOf, Tryz.f178, Option.getD_some, loopsIn, List.append_nil, List.nil_append, List.cons_append, List.getD, List.getElem?_cons_zero, List.getElem?_cons_succ] at hl
  subst hl
  obtain ⟨qq, rfl, hqq⟩ := loop_end hx T.length (fun y s => ∃ g v, s = ⟨[(1, .d (.int .i64 M)), (3, .ptr 48 1 0), (5, .ptr 80 2 0), (7, .own 176 v1), (8, .d (.int .i64 x)), (9, .own 288 v), (10, .d (.int .i64 y))], [(48, some (1, .box [.d (intss T)])), (80, some (2, .box [.d (.int .i64 2), .d (ints V)])), (176, some (v1, .mat true (mcells X))), (288, some (v, .row (icells (tabI (fe T M V x) y))))], g⟩)
    (fun qq => ∃ s v, qq = (.exit 2, s) ∧ obsL s.obs 48 = some (1, .box [.d (intss T)]) ∧ obsL s.obs 80 = some (2, .box [.d (.int .i64 2), .d (ints V)]) ∧ obsL s.obs 176 = some (v1, .mat true (mcells X)) ∧ obsL s.obs 288 = some (v, .row (icells (frow T M V x))) ∧ lookL s.env 9 = some (.own 288 v) ∧
      lookL s.env 1 = some (.d (.int .i64 M)) ∧ lookL s.env 3 = some (.ptr 48 1 0) ∧ lookL s.env 5 = some (.ptr 80 2 0) ∧ lookL s.env 7 = some (.own 176 v1) ∧ lookL s.env 8 = some (.d (.int .i64 x)) ∧ obsL s.obs 1056 = none)
    (by show T.length < m; omega) (by simp -implicitDefEqProofs (maxSteps := 3000000) [f1, f2, f3, f4, f5, f6])
    (by
      rintro y s hy ⟨g, v, rfl⟩
      have w2 := wrap_id (n := (y : Int) + 1) (by omega)
      have c1 := ct_l03At2 m (by omega) T M 2 V S x y hxT hy
      have c2 := ct_l03At2 m (by omega) T M 2 V S y x hy hxT
      have b1 := fv_bd S x y
      have b2 := fv_bd S y x
      have hM := S.hM
      have w3 := wrap_id (n := fv T.length V x y - fv T.length V y x) (by omega)
      have c3 := ct_l01Mod m (by omega) (fv T.length V x y - fv T.length V y x) M (by omega) (by omega)
      have e3 : (fv T.length V x y - fv T.length V y x) % M = frm T.length M V x y := rfl
      rw [e3] at c3
      have r1 := (R.2 x hxT).1
      have r2 := (R.2 y hy).1
      have hs := tabI_succ (fe T M V x) y
      have hl := lt_bound (n := y) (by omega)
      by_cases p : cl T x y = cl T y x
      · have e : fe T M V x y = frm T.length M V x y := if_pos p
        rw [e] at hs
        simp -implicitDefEqProofs (maxSteps := 3000000) [hy, hxT, c0, r1, r2, p, c1, c2, w3, c3, w2, hs, hl, le_bound (n := y) (by omega)]
      · have e : fe T M V x y = -1 := if_neg p
        rw [e] at hs
        have p2 := bne_t p
        simp -implicitDefEqProofs (maxSteps := 3000000) [hy, hxT, c0, r1, r2, p, p2, w2, hs, hl, le_bound (n := y) (by omega)])
    (by
      rintro s ⟨g, v, rfl⟩
      simp -implicitDefEqProofs (maxSteps := 3000000) [c0, frow])
  obtain ⟨s, v, rfl, hq⟩ := hqq
  exact ⟨s, v, rfl, hq⟩
theorem ct_l10Form (n : Nat) (hn : B + 3 + 1 ≤ n) (T : List (List Int)) (M : Int) (V : List Int) (S : FOk T M V) :
    evalCall Tryz.prog An n 178 [.agg [.d (intss T)], .d (.int .i64 M), .agg [.d (.int .i64 2), .d (ints V)]] [] = some ⟨.own 0 0, [.mat false (mcells (fform T M V))], []⟩ := by
  obtain ⟨m, rfl⟩ : ∃ m, n = m + 1 := ⟨n - 1, by omega⟩
  have hB := B_eq
  simp only [evalCall_at, fb178, bnd_some, bodyOf, Tryz.f178, Option.getD_some]
  generalize hb0 : Code.loop _ = cc0
  obtain rfl : cc0 = .loop (lp Tryz.f178 0) := by rw [← hb0]; rfl
  clear hb0
  have hT := S.G.1.1
  have c0 := ct_l01N m (by omega) T
  simp -implicitDefEqProofs (maxSteps := 3000000)
  generalize hx : loopC _ _ _ = x
  generalize hl : lp Tryz.f178 0 = L at hx
  simp only [lp, bodyOf, Tryz.f178, Option.getD_some, loopsIn, List.append_nil, List.nil_append, List.cons_append, List.getD, List.getElem?_cons_zero, List.getElem?_cons_succ] at hl
  subst hl
  generalize hb1 : Code.loop _ = cc1 at hx
  obtain rfl : cc1 = .loop (lp Tryz.f178 1) := by rw [← hb1]; rfl
  clear hb1
  obtain ⟨qq, rfl, hqq⟩ := loop_end hx (T.length) (fun i s => ∃ g v, s = ⟨[(1, .d (.int .i64 M)), (3, .ptr 48 1 0), (5, .ptr 80 2 0), (7, .own 176 v), (8, .d (.int .i64 i))], [(48, some (1, .box [.d (intss T)])), (80, some (2, .box [.d (.int .i64 2), .d (ints V)])), (176, some (v, .mat true (mcells (tabM (frow T M V) i))))], g⟩)
    (fun qq => ∃ s v, qq = (.exit 0, s) ∧ lookL s.env 1 = some (.d (.int .i64 M)) ∧ lookL s.env 3 = some (.ptr 48 1 0) ∧ lookL s.env 5 = some (.ptr 80 2 0) ∧ lookL s.env 7 = some (.own 176 v) ∧ lookL s.env 8 = some (.d (.int .i64 (T.length))) ∧ obsL s.obs 48 = some (1, .box [.d (intss T)]) ∧ obsL s.obs 80 = some (2, .box [.d (.int .i64 2), .d (ints V)]) ∧ obsL s.obs 176 = some (v, .mat true (mcells (tabM (frow T M V) (T.length)))))
    (by show T.length < m; omega) (by
      simp -implicitDefEqProofs (maxSteps := 3000000))
    (by
      rintro i s hi ⟨g, v, rfl⟩
      have w2 := wrap_id (n := (i : Int) + 1) (by omega)
      have hs := tabM_succ (frow T M V) i
      have hl := lt_bound (n := i) (by omega)
      simp -implicitDefEqProofs (maxSteps := 3000000) [hi, c0]
      generalize hy : loopC _ _ _ = y
      obtain ⟨s, v2, rfl, hq⟩ := lp_l10Form_1 m (by omega) T M V S i hi hy (v1 := v) (X := tabM (frow T M V) i) (by simp -implicitDefEqProofs (maxSteps := 3000000))
      simp -implicitDefEqProofs (maxSteps := 3000000) [hq, w2, hl, le_bound (n := i) (by omega), hs])
    (by
      rintro s ⟨g, v, rfl⟩
      simp -implicitDefEqProofs (maxSteps := 3000000) [c0])
  obtain ⟨s, v, rfl, hf⟩ := hqq
  simp -implicitDefEqProofs (maxSteps := 3000000) [hf, fform]
end Go.Proofs.YtfichikabolknaaGreatE
