/- Contracts of functions of the program and of the reference: what the evaluator gives for a call of each. -/
import Derived.Test.YtfichikabolknaaGreatAEf
import Derived.Test.YtfichikabolknaaGreatK0
import Derived.Test.YtfichikabolknaaGreatK3
import Derived.Test.YtfichikabolknaaGreatK7
import Derived.Test.YtfichikabolknaaGreatK8
import Derived.Test.YtfichikabolknaaGreatK18
import Derived.Test.YtfichikabolknaaGreatK19
import Derived.Test.YtfichikabolknaaGreatK20
import Derived.Test.YtfichikabolknaaGreatK21
namespace Go.Proofs.YtfichikabolknaaGreatE
open Go Go.Proofs
set_option maxHeartbeats 4000000
set_option maxRecDepth 2000
set_option linter.unusedSimpArgs false
set_option linter.unusedVariables false
set_option pp.deepTerms false
set_option pp.deepTerms.threshold 10
/-! ## the program's FormOf -/
theorem lp_formOf_1 (m : Nat) (hm : B + 4 ≤ m) (T : List (List Int)) (M : Int) (V : List Int) (S : FOk T M V) (x : Nat) (hxT : x < T.length) {st : St} {o : Option (Ex × St)} (hx : loopC (cxAt 177 m) (lp Tryz.f177 1) st = o) {v1 : Nat} {X : List (List Int)}
    (f : obsL st.obs 48 = some (1, .box [.d (intss T)]) ∧ obsL st.obs 80 = some (2, .box [.d (.int .i64 2), .d (ints V)]) ∧ obsL st.obs 192 = some (v1, .mat true (mcells X)) ∧ (∃ v, obsL st.obs 288 = some (v, .row []) ∧ lookL st.env 9 = some (.own 288 v)) ∧
      obsL st.obs 704 = none ∧ obsL st.obs 784 = none ∧
      lookL st.env 1 = some (.d (.int .i64 M)) ∧ lookL st.env 3 = some (.ptr 48 1 0) ∧ lookL st.env 5 = some (.ptr 80 2 0) ∧ lookL st.env 7 = some (.own 192 v1) ∧ lookL st.env 8 = some (.d (.int .i64 x)) ∧ lookL st.env 14 = some (.d (.int .i64 T.length)) ∧ lookL st.env 15 = some (.d (.int .i64 x)) ∧
      lookL st.env 20 = some (.d (.int .i64 T.length)) ∧ lookL st.env 21 = some (.d (.int .i64 0))) :
    ∃ s v, o = some (.exit 2, s) ∧ obsL s.obs 48 = some (1, .box [.d (intss T)]) ∧ obsL s.obs 80 = some (2, .box [.d (.int .i64 2), .d (ints V)]) ∧ obsL s.obs 192 = some (v1, .mat true (mcells X)) ∧ obsL s.obs 288 = some (v, .row (icells (frow T M V x))) ∧ lookL s.env 9 = some (.own 288 v) ∧
      lookL s.env 1 = some (.d (.int .i64 M)) ∧ lookL s.env 3 = some (.ptr 48 1 0) ∧ lookL s.env 5 = some (.ptr 80 2 0) ∧ lookL s.env 7 = some (.own 192 v1) ∧ lookL s.env 14 = some (.d (.int .i64 T.length)) ∧ lookL s.env 15 = some (.d (.int .i64 x)) ∧ obsL s.obs 784 = none := by
  have hB := B_eq
  have hT := S.G.1.1
  have R := S.G.1
  have e0 := isGr_e0 S.G
  obtain ⟨f1, f2, f3, ⟨v0, f4, f5⟩, f6⟩ := f
  generalize hl : lp Tryz.f177 1 = L at hx
  simp only [lp, bodyOf, Tryz.f177, Option.getD_some, loopsIn, List.append_nil, List.nil_append, List.cons_append, List.getD, List.getElem?_cons_zero, List.getElem?_cons_succ] at hl
  subst hl
  obtain ⟨qq, rfl, hqq⟩ := loop_end hx T.length (fun y s => ∃ g v, s = ⟨[(1, .d (.int .i64 M)), (3, .ptr 48 1 0), (5, .ptr 80 2 0), (7, .own 192 v1), (8, .d (.int .i64 x)), (9, .own 288 v), (14, .d (.int .i64 T.length)), (15, .d (.int .i64 x)), (20, .d (.int .i64 T.length)), (21, .d (.int .i64 y))], [(48, some (1, .box [.d (intss T)])), (80, some (2, .box [.d (.int .i64 2), .d (ints V)])), (192, some (v1, .mat true (mcells X))), (288, some (v, .row (icells (tabI (fe T M V x) y))))], g⟩)
    (fun qq => ∃ s v, qq = (.exit 2, s) ∧ obsL s.obs 48 = some (1, .box [.d (intss T)]) ∧ obsL s.obs 80 = some (2, .box [.d (.int .i64 2), .d (ints V)]) ∧ obsL s.obs 192 = some (v1, .mat true (mcells X)) ∧ obsL s.obs 288 = some (v, .row (icells (frow T M V x))) ∧ lookL s.env 9 = some (.own 288 v) ∧
      lookL s.env 1 = some (.d (.int .i64 M)) ∧ lookL s.env 3 = some (.ptr 48 1 0) ∧ lookL s.env 5 = some (.ptr 80 2 0) ∧ lookL s.env 7 = some (.own 192 v1) ∧ lookL s.env 14 = some (.d (.int .i64 T.length)) ∧ lookL s.env 15 = some (.d (.int .i64 x)) ∧ obsL s.obs 784 = none)
    (by show T.length < m; omega) (by simp -implicitDefEqProofs (maxSteps := 3000000) [f1, f2, f3, f4, f5, f6])
    (by
      rintro y s hy ⟨g, v, rfl⟩
      have w2 := wrap_id (n := (y : Int) + 1) (by omega)
      have c1 := ct_times2 m (by omega) T R x y hxT hy (e0 x hxT)
      have c2 := ct_times2 m (by omega) T R y x hy hxT (e0 y hy)
      have c3 := ct_formAt m (by omega) T M 2 V S x y hxT hy
      have hs := tabI_succ (fe T M V x) y
      have hl := lt_bound (n := y) (by omega)
      by_cases p : cl T x y = cl T y x
      · have e : fe T M V x y = frm T.length M V x y := if_pos p
        rw [e] at hs
        simp only [cl] at p c1 c2
        simp -implicitDefEqProofs (maxSteps := 3000000) [hy, hxT, p, c1, c2, c3, w2, hs, hl, le_bound (n := y) (by omega)]
      · have e : fe T M V x y = -1 := if_neg p
        rw [e] at hs
        have p2 := beq_f p
        simp only [cl] at p p2 c1 c2
        simp -implicitDefEqProofs (maxSteps := 3000000) [hy, hxT, p, p2, c1, c2, c3, w2, hs, hl, le_bound (n := y) (by omega)])
    (by
      rintro s ⟨g, v, rfl⟩
      simp -implicitDefEqProofs (maxSteps := 3000000) [frow])
  obtain ⟨s, v, rfl, hq⟩ := hqq
  exact ⟨s, v, rfl, hq⟩
theorem ct_formOf (n : Nat) (hn : B + 5 ≤ n) (T : List (List Int)) (M : Int) (V : List Int) (S : FOk T M V) :
    evalCall Tryz.prog An n 177 [.agg [.d (intss T)], .d (.int .i64 M), .agg [.d (.int .i64 2), .d (ints V)]] [] = some ⟨.own 0 0, [.mat false (mcells (fform T M V))], []⟩ := by
  obtain ⟨m, rfl⟩ : ∃ m, n = m + 1 := ⟨n - 1, by omega⟩
  have hB := B_eq
  simp only [evalCall_at, fb177, bnd_some, bodyOf, Tryz.f177, Option.getD_some]
  generalize hb0 : Code.loop _ = cc0
  obtain rfl : cc0 = .loop (lp Tryz.f177 0) := by rw [← hb0]; rfl
  clear hb0
  have hT := S.G.1.1
  have c0 := ct_order m (by omega) T
  simp -implicitDefEqProofs (maxSteps := 3000000) [c0]
  generalize hx : loopC _ _ _ = x
  generalize hl : lp Tryz.f177 0 = L at hx
  simp only [lp, bodyOf, Tryz.f177, Option.getD_some, loopsIn, List.append_nil, List.nil_append, List.cons_append, List.getD, List.getElem?_cons_zero, List.getElem?_cons_succ] at hl
  subst hl
  generalize hb1 : Code.loop _ = cc1 at hx
  obtain rfl : cc1 = .loop (lp Tryz.f177 1) := by rw [← hb1]; rfl
  clear hb1
  obtain ⟨qq, rfl, hqq⟩ := loop_end hx (T.length) (fun i s => ∃ g v, s = ⟨[(1, .d (.int .i64 M)), (3, .ptr 48 1 0), (5, .ptr 80 2 0), (7, .own 192 v), (14, .d (.int .i64 T.length)), (15, .d (.int .i64 i))], [(48, some (1, .box [.d (intss T)])), (80, some (2, .box [.d (.int .i64 2), .d (ints V)])), (192, some (v, .mat true (mcells (tabM (frow T M V) i))))], g⟩)
    (fun qq => ∃ s v, qq = (.exit 0, s) ∧ lookL s.env 1 = some (.d (.int .i64 M)) ∧ lookL s.env 3 = some (.ptr 48 1 0) ∧ lookL s.env 5 = some (.ptr 80 2 0) ∧ lookL s.env 7 = some (.own 192 v) ∧ lookL s.env 14 = some (.d (.int .i64 T.length)) ∧ lookL s.env 15 = some (.d (.int .i64 (T.length))) ∧ obsL s.obs 48 = some (1, .box [.d (intss T)]) ∧ obsL s.obs 80 = some (2, .box [.d (.int .i64 2), .d (ints V)]) ∧ obsL s.obs 192 = some (v, .mat true (mcells (tabM (frow T M V) (T.length)))))
    (by show T.length < m; omega) (by
      simp -implicitDefEqProofs (maxSteps := 3000000))
    (by
      rintro i s hi ⟨g, v, rfl⟩
      have w2 := wrap_id (n := (i : Int) + 1) (by omega)
      have hs := tabM_succ (frow T M V) i
      have hl := lt_bound (n := i) (by omega)
      simp -implicitDefEqProofs (maxSteps := 3000000) [hi, c0]
      generalize hy : loopC _ _ _ = y
      obtain ⟨s, v2, rfl, hq⟩ := lp_formOf_1 m (by omega) T M V S i hi hy (v1 := v) (X := tabM (frow T M V) i) (by simp -implicitDefEqProofs (maxSteps := 3000000))
      simp -implicitDefEqProofs (maxSteps := 3000000) [hq, w2, hl, le_bound (n := i) (by omega), hs])
    (by
      rintro s ⟨g, v, rfl⟩
      simp -implicitDefEqProofs (maxSteps := 3000000))
  obtain ⟨s, v, rfl, hf⟩ := hqq
  simp -implicitDefEqProofs (maxSteps := 3000000) [hf, fform]
theorem ct_specForm_bad (n : Nat) (hn : B + 6 ≤ n) (T : List (List Int)) (hT : T.length ≤ 2000000) (M D : Int) (V : List Int) (hV : V.length ≤ 10000000) (h : ¬ SGood T M D V) :
    evalCall Tryz.prog An n 65 [.agg [.d (intss T)], .d (.int .i64 M), .agg [.d (.int .i64 D), .d (ints V)]] [] = some ⟨.tuple [.d .nil, .d (.int .i64 (scode T M D V))], [], []⟩ := by
  obtain ⟨m, rfl⟩ : ∃ m, n = m + 1 := ⟨n - 1, by omega⟩
  have hB := B_eq
  simp only [evalCall_at, fb65, bnd_some, bodyOf, Tryz.f65, Option.getD_some]
  have c := ct_l10Given m (by omega) T hT M D V hV
  have h2 := scode_ne h
  have h3 := bne_t h2
  simp -implicitDefEqProofs (maxSteps := 3000000) [c, h2, h3]
theorem ct_specForm (n : Nat) (hn : B + 6 + 1 ≤ n) (T : List (List Int)) (hT : T.length ≤ 2000000) (M D : Int) (V : List Int) (hV : V.length ≤ 10000000) (h : SGood T M D V) :
    evalCall Tryz.prog An n 65 [.agg [.d (intss T)], .d (.int .i64 M), .agg [.d (.int .i64 D), .d (ints V)]] [] = some ⟨.tuple [.own 0 0, .d (.int .i64 0)], [.mat false (mcells (fform T M V))], []⟩ := by
  obtain ⟨m, rfl⟩ : ∃ m, n = m + 1 := ⟨n - 1, by omega⟩
  have hB := B_eq
  simp only [evalCall_at, fb65, bnd_some, bodyOf, Tryz.f65, Option.getD_some]
  have c := ct_l10Given m (by omega) T hT M D V hV
  rw [scode_0 h] at c
  have c2 := ct_l10Form m (by omega) T M V h.fok
  have hD : D = 2 := h.2.2.2.1
  subst hD
  simp -implicitDefEqProofs (maxSteps := 3000000) [c, c2]
theorem ct_implForm_bad (n : Nat) (hn : B + 9 + 4 ≤ n) (T : List (List Int)) (hT : T.length ≤ 2000000) (hr : ∀ i, (rown T i).length ≤ 1000000000000) (M D : Int) (V : List Int) (hV : V.length ≤ 10000000) (h : ¬ SGood T M D V) :
    evalCall Tryz.prog An n 64 [.agg [.d (intss T)], .d (.int .i64 M), .agg [.d (.int .i64 D), .d (ints V)]] [] = some ⟨.tuple [.d .nil, .d (.int .i64 (scode T M D V))], [], []⟩ := by
  obtain ⟨m, rfl⟩ : ∃ m, n = m + 1 := ⟨n - 1, by omega⟩
  have hB := B_eq
  simp only [evalCall_at, fb64, bnd_some, bodyOf, Tryz.f64, Option.getD_some]
  have c := ct_symmetricCode m (by omega) T hT hr M D V hV
  have h2 := scode_ne h
  have h3 := bne_t h2
  simp -implicitDefEqProofs (maxSteps := 3000000) [c, h2, h3]
theorem ct_implForm (n : Nat) (hn : B + 9 + 4 ≤ n) (T : List (List Int)) (hT : T.length ≤ 2000000) (hr : ∀ i, (rown T i).length ≤ 1000000000000) (M D : Int) (V : List Int) (hV : V.length ≤ 10000000) (h : SGood T M D V) :
    evalCall Tryz.prog An n 64 [.agg [.d (intss T)], .d (.int .i64 M), .agg [.d (.int .i64 D), .d (ints V)]] [] = some ⟨.tuple [.own 0 0, .d (.int .i64 0)], [.mat false (mcells (fform T M V))], []⟩ := by
  obtain ⟨m, rfl⟩ : ∃ m, n = m + 1 := ⟨n - 1, by omega⟩
  have hB := B_eq
  simp only [evalCall_at, fb64, bnd_some, bodyOf, Tryz.f64, Option.getD_some]
  have c := ct_symmetricCode m (by omega) T hT hr M D V hV
  rw [scode_0 h] at c
  have c2 := ct_formOf m (by omega) T M V h.fok
  have hD : D = 2 := h.2.2.2.1
  subst hD
  simp -implicitDefEqProofs (maxSteps := 3000000) [c, c2]
end Go.Proofs.YtfichikabolknaaGreatE
