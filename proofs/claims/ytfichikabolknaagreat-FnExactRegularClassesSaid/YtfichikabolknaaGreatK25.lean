/- Contracts of functions of the program and of the reference: what the evaluator gives for a call of each. -/
import Derived.Test.YtfichikabolknaaGreatAEf
import Derived.Test.YtfichikabolknaaGreatK0
import Derived.Test.YtfichikabolknaaGreatK19
import Derived.Test.YtfichikabolknaaGreatK20
import Derived.Test.YtfichikabolknaaGreatK21
import Derived.Test.YtfichikabolknaaGreatK24
namespace Go.Proofs.YtfichikabolknaaGreatE
open Go Go.Proofs
set_option maxHeartbeats 4000000
set_option maxRecDepth 2000
set_option linter.unusedSimpArgs false
set_option linter.unusedVariables false
set_option pp.deepTerms false
set_option pp.deepTerms.threshold 10
/-! ## the reference's regular elements -/
noncomputable def gd (T : List (List Int)) (M : Int) (V : List Int) (x : Nat) : Nat → Bool
  | 0 => true
  | y + 1 => gd T M V x y && decide (fe T M V x y ≤ 0)
theorem gd_iff (T : List (List Int)) (M : Int) (V : List Int) (x : Nat) : ∀ n : Nat, gd T M V x n = true ↔ ∀ y < n, fe T M V x y ≤ 0
  | 0 => by simp -implicitDefEqProofs (maxSteps := 3000000) [gd]
  | n + 1 => by
    simp only [gd, Bool.and_eq_true, gd_iff T M V x n, decide_eq_true_eq]
    constructor
    · intro ⟨h1, h2⟩ y hy
      rcases Nat.lt_or_ge y n with z | z
      · exact h1 y z
      · obtain rfl : y = n := by omega
        exact h2
    · intro h; exact ⟨fun y hy => h y (by omega), h n (by omega)⟩
theorem lp_l10Regular_1 (m : Nat) (hm : B + 3 ≤ m) (T : List (List Int)) (hT : T.length ≤ 8) (M : Int) (V : List Int) (x : Nat) (hxT : x < T.length) {st : St} {o : Option (Ex × St)} (hx : loopC (cxAt 153 m) (lp Tryz.f153 1) st = o) {v1 : Nat} {X : List Int}
    (f : obsL st.obs 240 = some (7, .mat false (mcells (fform T M V))) ∧ obsL st.obs 241 = none ∧ obsL st.obs 242 = none ∧ obsL st.obs 243 = none ∧ obsL st.obs 256 = some (v1, .row (icells X)) ∧ obsL st.obs 704 = none ∧
      lookL st.env 7 = some (.own 240 7) ∧ lookL st.env 8 = some (.own 256 v1) ∧ lookL st.env 9 = some (.d (.int .i64 x)) ∧ lookL st.env 10 = some (.d (.bool true)) ∧ lookL st.env 11 = some (.d (.int .i64 0))) :
    ∃ s, o = some (.exit 2, s) ∧ obsL s.obs 240 = some (7, .mat false (mcells (fform T M V))) ∧ obsL s.obs 241 = none ∧ obsL s.obs 242 = none ∧ obsL s.obs 243 = none ∧ obsL s.obs 256 = some (v1, .row (icells X)) ∧ obsL s.obs 704 = none ∧
      lookL s.env 7 = some (.own 240 7) ∧ lookL s.env 8 = some (.own 256 v1) ∧ lookL s.env 9 = some (.d (.int .i64 x)) ∧ lookL s.env 10 = some (.d (.bool (gd T M V x T.length))) := by
  have hB := B_eq
  have hl := fform_len T M V
  have hrw : rown (fform T M V) x = frow T M V x := rown_tabM _ hxT
  have hfl : (frow T M V x).length = T.length := by simp -implicitDefEqProofs (maxSteps := 3000000) [frow]
  have hfe : ∀ y < T.length, rn (frow T M V x) y = fe T M V x y := fun y hy => rn_tabI _ hy
  generalize fform T M V = Z at *
  generalize frow T M V x = W at *
  generalize hl : lp Tryz.f153 1 = L at hx
  simp only [lp, bodyOf, Tryz.f153, Option.getD_some, loopsIn, List.append_nil, List.nil_append, List.cons_append, List.getD, List.getElem?_cons_zero, List.getElem?_cons_succ] at hl
  subst hl
  obtain ⟨qq, rfl, hqq⟩ := loop_end hx T.length (fun y s => ∃ g, s = ⟨[(7, .own 240 7), (8, .own 256 v1), (9, .d (.int .i64 x)), (10, .d (.bool (gd T M V x y))), (11, .d (.int .i64 y))], [(240, some (7, .mat false (mcells Z))), (256, some (v1, .row (icells X)))], g⟩)
    (fun qq => ∃ s, qq = (.exit 2, s) ∧ obsL s.obs 240 = some (7, .mat false (mcells Z)) ∧ obsL s.obs 241 = none ∧ obsL s.obs 242 = none ∧ obsL s.obs 243 = none ∧ obsL s.obs 256 = some (v1, .row (icells X)) ∧ obsL s.obs 704 = none ∧
      lookL s.env 7 = some (.own 240 7) ∧ lookL s.env 8 = some (.own 256 v1) ∧ lookL s.env 9 = some (.d (.int .i64 x)) ∧ lookL s.env 10 = some (.d (.bool (gd T M V x T.length))))
    (by show T.length < m; omega) (by simp -implicitDefEqProofs (maxSteps := 3000000) [f, gd])
    (by
      rintro y s hy ⟨g, rfl⟩
      have w2 := wrap_id (n := (y : Int) + 1) (by omega)
      have h1 := hfe y hy
      have hx2 : x < Z.length := by omega
      have hy2 : y < W.length := by omega
      cases hg : gd T M V x y with
      | true => simp -implicitDefEqProofs (maxSteps := 3000000) [hl, hfl, hxT, hy, hx2, hrw, hy2, h1, w2, gd, hg]
      | false => simp -implicitDefEqProofs (maxSteps := 3000000) [hl, hy, w2, gd, hg])
    (by
      rintro s ⟨g, rfl⟩
      simp -implicitDefEqProofs (maxSteps := 3000000) [hl])
  obtain ⟨s, rfl, hq⟩ := hqq
  exact ⟨s, rfl, hq⟩
theorem ct_l10Regular (n : Nat) (hn : B + 4 + 1 ≤ n) (T : List (List Int)) (M : Int) (V : List Int) (S : FOk T M V) :
    evalCall Tryz.prog An n 153 [.agg [.d (intss T)], .d (.int .i64 M), .agg [.d (.int .i64 2), .d (ints V)]] [] = some ⟨.own 0 0, [.row (icells (regL T M V))], []⟩ := by
  obtain ⟨m, rfl⟩ : ∃ m, n = m + 1 := ⟨n - 1, by omega⟩
  have hB := B_eq
  simp only [evalCall_at, fb153, bnd_some, bodyOf, Tryz.f153, Option.getD_some]
  generalize hb0 : Code.loop _ = cc0
  obtain rfl : cc0 = .loop (lp Tryz.f153 0) := by rw [← hb0]; rfl
  clear hb0
  have hT := S.G.1.1
  have c1 := ct_l10Form m (by omega) T M V S
  have hl := fform_len T M V
  simp -implicitDefEqProofs (maxSteps := 3000000) [c1]
  generalize hx : loopC _ _ _ = x
  generalize hl : lp Tryz.f153 0 = L at hx
  simp only [lp, bodyOf, Tryz.f153, Option.getD_some, loopsIn, List.append_nil, List.nil_append, List.cons_append, List.getD, List.getElem?_cons_zero, List.getElem?_cons_succ] at hl
  subst hl
  generalize hb1 : Code.loop _ = cc1 at hx
  obtain rfl : cc1 = .loop (lp Tryz.f153 1) := by rw [← hb1]; rfl
  clear hb1
  obtain ⟨qq, rfl, hqq⟩ := loop_end hx (T.length) (fun i s => ∃ g v, s = ⟨[(7, .own 240 7), (8, .own 256 v), (9, .d (.int .i64 i))], [(240, some (7, .mat false (mcells (fform T M V)))), (256, some (v, .row (icells (thoseL (regQ T M V) i))))], g⟩)
    (fun qq => ∃ s v, qq = (.exit 0, s) ∧ lookL s.env 7 = some (.own 240 7) ∧ lookL s.env 8 = some (.own 256 v) ∧ lookL s.env 9 = some (.d (.int .i64 (T.length))) ∧ obsL s.obs 240 = some (7, .mat false (mcells (fform T M V))) ∧ obsL s.obs 256 = some (v, .row (icells (thoseL (regQ T M V) (T.length)))))
    (by show T.length < m; omega) (by
      simp -implicitDefEqProofs (maxSteps := 3000000))
    (by
      rintro i s hi ⟨g, v, rfl⟩
      have w2 := wrap_id (n := (i : Int) + 1) (by omega)
      have ts := thoseL_succ (regQ T M V) i
      have tl := thoseL_le (regQ T M V) i
      have gi := gd_iff T M V i T.length
      generalize thoseL (regQ T M V) i = X at *
      generalize thoseL (regQ T M V) (i + 1) = Y at *
      have hb := lt_bound (n := X.length) (by omega)
      simp -implicitDefEqProofs (maxSteps := 3000000) [hi, hl]
      generalize hy : loopC _ _ _ = y
      obtain ⟨s, rfl, hq⟩ := lp_l10Regular_1 m (by omega) T (by omega) M V i hi hy (v1 := v) (X := X) (by simp -implicitDefEqProofs (maxSteps := 3000000))
      cases hg : gd T M V i T.length with
      | true =>
        rw [hg] at hq
        rw [if_pos (show regQ T M V i = true from bl_true (gi.1 hg))] at ts
        rw [ts]
        simp -implicitDefEqProofs (maxSteps := 3000000) [hq, w2, hb, le_bound (n := X.length) (by omega)]
      | false =>
        rw [hg] at hq
        rw [if_neg (fun z => by
          have h1 : ¬ ∀ y < T.length, fe T M V i y ≤ 0 := fun y => by rw [gi.2 y] at hg; exact absurd hg (by simp -implicitDefEqProofs (maxSteps := 3000000))
          have h2 : regQ T M V i = false := bl_false h1
          rw [h2] at z; exact absurd z (by simp -implicitDefEqProofs (maxSteps := 3000000))), List.append_nil] at ts
        rw [ts]
        simp -implicitDefEqProofs (maxSteps := 3000000) [hq, w2])
    (by
      rintro s ⟨g, v, rfl⟩
      simp -implicitDefEqProofs (maxSteps := 3000000) [hl])
  obtain ⟨s, v, rfl, hf⟩ := hqq
  have e : thoseL (regQ T M V) T.length = regL T M V := rfl
  rw [e] at hf
  simp -implicitDefEqProofs (maxSteps := 3000000) [hf]
theorem ct_specReg_bad (n : Nat) (hn : B + 6 ≤ n) (T : List (List Int)) (hT : T.length ≤ 2000000) (M D : Int) (V : List Int) (hV : V.length ≤ 10000000) (h : ¬ SGood T M D V) :
    evalCall Tryz.prog An n 70 [.agg [.d (intss T)], .d (.int .i64 M), .agg [.d (.int .i64 D), .d (ints V)]] [] = some ⟨.tuple [.d .nil, .d (.int .i64 (scode T M D V))], [], []⟩ := by
  obtain ⟨m, rfl⟩ : ∃ m, n = m + 1 := ⟨n - 1, by omega⟩
  have hB := B_eq
  simp only [evalCall_at, fb70, bnd_some, bodyOf, Tryz.f70, Option.getD_some]
  have c := ct_l10Given m (by omega) T hT M D V hV
  have h2 := scode_ne h
  have h3 := bne_t h2
  simp -implicitDefEqProofs (maxSteps := 3000000) [c, h2, h3]
theorem ct_specReg (n : Nat) (hn : B + 6 + 1 ≤ n) (T : List (List Int)) (hT : T.length ≤ 2000000) (M D : Int) (V : List Int) (hV : V.length ≤ 10000000) (h : SGood T M D V) :
    evalCall Tryz.prog An n 70 [.agg [.d (intss T)], .d (.int .i64 M), .agg [.d (.int .i64 D), .d (ints V)]] [] = some ⟨.tuple [.own 0 0, .d (.int .i64 0)], [.row (icells (regL T M V))], []⟩ := by
  obtain ⟨m, rfl⟩ : ∃ m, n = m + 1 := ⟨n - 1, by omega⟩
  have hB := B_eq
  simp only [evalCall_at, fb70, bnd_some, bodyOf, Tryz.f70, Option.getD_some]
  have c := ct_l10Given m (by omega) T hT M D V hV
  rw [scode_0 h] at c
  have c2 := ct_l10Regular m (by omega) T M V h.fok
  have hD : D = 2 := h.2.2.2.1
  subst hD
  simp -implicitDefEqProofs (maxSteps := 3000000) [c, c2]
theorem ct_implReg_bad (n : Nat) (hn : B + 9 + 6 ≤ n) (T : List (List Int)) (hT : T.length ≤ 2000000) (hr : ∀ i, (rown T i).length ≤ 1000000000000) (M D : Int) (V : List Int) (hV : V.length ≤ 10000000) (h : ¬ SGood T M D V) :
    evalCall Tryz.prog An n 69 [.agg [.d (intss T)], .d (.int .i64 M), .agg [.d (.int .i64 D), .d (ints V)]] [] = some ⟨.tuple [.d .nil, .d (.int .i64 (scode T M D V))], [], []⟩ := by
  obtain ⟨m, rfl⟩ : ∃ m, n = m + 1 := ⟨n - 1, by omega⟩
  have hB := B_eq
  simp only [evalCall_at, fb69, bnd_some, bodyOf, Tryz.f69, Option.getD_some]
  have c := ct_symmetricCode m (by omega) T hT hr M D V hV
  have h2 := scode_ne h
  have h3 := bne_t h2
  simp -implicitDefEqProofs (maxSteps := 3000000) [c, h2, h3]
theorem ct_implReg (n : Nat) (hn : B + 9 + 6 ≤ n) (T : List (List Int)) (hT : T.length ≤ 2000000) (hr : ∀ i, (rown T i).length ≤ 1000000000000) (M D : Int) (V : List Int) (hV : V.length ≤ 10000000) (h : SGood T M D V) :
    evalCall Tryz.prog An n 69 [.agg [.d (intss T)], .d (.int .i64 M), .agg [.d (.int .i64 D), .d (ints V)]] [] = some ⟨.tuple [.own 0 0, .d (.int .i64 0)], [.row (icells (regL T M V))], []⟩ := by
  obtain ⟨m, rfl⟩ : ∃ m, n = m + 1 := ⟨n - 1, by omega⟩
  have hB := B_eq
  simp only [evalCall_at, fb69, bnd_some, bodyOf, Tryz.f69, Option.getD_some]
  have c := ct_symmetricCode m (by omega) T hT hr M D V hV
  rw [scode_0 h] at c
  have c2 := ct_regular m (by omega) T M V h.fok
  have hD : D = 2 := h.2.2.2.1
  subst hD
  simp -implicitDefEqProofs (maxSteps := 3000000) [c, c2]
end Go.Proofs.YtfichikabolknaaGreatE
