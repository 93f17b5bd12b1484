/- Contracts of functions of the program and of the reference: what the evaluator gives for a call of each. -/
import Derived.Test.YtnfhglplafmfiaaGreatAEf
import Derived.Test.YtnfhglplafmfiaaGreatK1M
import Derived.Test.YtnfhglplafmfiaaGreatK3M
import Derived.Test.YtnfhglplafmfiaaGreatK8M
namespace Go.Proofs.YtnfhglplafmfiaaGreatE
open Go Go.Proofs
set_option maxHeartbeats 2000000
set_option linter.unusedSimpArgs false
set_option linter.unusedVariables false
set_option pp.deepTerms false
set_option pp.deepTerms.threshold 10
/-! ## the program's IsGroup -/
def Line (T : List (List Int)) (a : Nat) : Prop := ((cl T 0 a = a ∧ cl T a 0 = a) ∧ ∃ b < T.length, cl T a b = 0) ∧ ∀ b < T.length, Asc T a b
theorem line_sline {T : List (List Int)} (h : ∀ a < T.length, Line T a) : ∀ a < T.length, SLine T a := by
  intro a ha
  obtain ⟨⟨⟨e1, e2⟩, b, hb, eb⟩, asc⟩ := h a ha
  refine ⟨⟨e1, e2⟩, asc, b, hb, eb, ?_⟩
  obtain ⟨⟨_, d, hd, ed⟩, _⟩ := h b hb
  have hs := asc b hb d hd
  obtain ⟨⟨⟨f1, f2⟩, _⟩, _⟩ := h d hd
  rw [eb, ed] at hs
  simp only [Int.toNat_zero] at hs
  rw [f1, e2] at hs
  have : d = a := by omega
  subst this
  exact ed
theorem isGr_iff (T : List (List Int)) : IsGr T ↔ RowsOk T ∧ ∀ a < T.length, Line T a :=
  ⟨fun h => ⟨h.1, fun a ha => let z := h.2 a ha; ⟨⟨z.1, let ⟨b, hb, x, _⟩ := z.2.2; ⟨b, hb, x⟩⟩, z.2.1⟩⟩, fun h => ⟨h.1, line_sline h.2⟩⟩
theorem lp_IsGroup_0 (m : Nat) (hm : B + 2 ≤ m) (T : List (List Int)) (h : 1 ≤ T.length ∧ T.length ≤ 8) (hr : ∀ i, (rown T i).length ≤ 1000000000000)
    {st : St} {x : Option (Ex × St)} (hx : loopC (cxAt 203 m) (lp Tryz.f203 0) st = x) (f : gfacts T st) (f1 : lookL st.env 18 = some (.d (intss T))) (f2 : lookL st.env 19 = some (.d (.int .i64 T.length))) (f3 : lookL st.env 20 = some (.d (.int .i64 0))) :
    (RowsOk T ∧ ∃ s, x = some (.exit 0, s) ∧ gfacts T s) ∨ (¬ RowsOk T ∧ ∃ s, x = some (.ret, s) ∧ lookL s.env 2 = some (.d (.bool false))) := by
  have hB := B_eq
  obtain ⟨g1, g2, g3⟩ := f
  generalize hl : lp Tryz.f203 0 = L at hx
  simp only [lp, bodyOf, Tryz.f203, Option.getD_some, loopsIn, List.append_nil, List.nil_append, List.cons_append, List.getD, List.getElem?_cons_zero, List.getElem?_cons_succ] at hl
  subst hl
  rcases loop_chk hx T.length 0 (fun a => (rown T a).length = T.length ∧ AllIn T.length (rown T a))
    (fun i g => ⟨[(1, .ptr 16 1 0), (3, .d (.int .i64 T.length)), (18, .d (intss T)), (19, .d (.int .i64 T.length)), (20, .d (.int .i64 i))], [(16, some (1, .box [.d (intss T)]))], g⟩) (gfacts T) (fun s => lookL s.env 2 = some (.d (.bool false)))
    (by show T.length < m; omega) (by simp -implicitDefEqProofs (maxSteps := 3000000) [f1, f2, f3, g1, g2, g3])
    (by
      rintro i g hi hp
      have w2 := wrap_id (n := (i : Int) + 1) (by omega)
      by_cases e : (rown T i).length = T.length
      · have c := ct_areIn m (by omega) T.length (rown T i) (hr i)
        by_cases p : AllIn T.length (rown T i)
        · rw [bl_true p] at c
          simp -implicitDefEqProofs (maxSteps := 3000000) [hi, e, c, p, w2]
        · rw [bl_false p] at c
          simp -implicitDefEqProofs (maxSteps := 3000000) [hi, e, c, p, w2]
      · have e2 : (((rown T i).length : Int) != T.length) = true := bne_t (by omega)
        simp -implicitDefEqProofs (maxSteps := 3000000) [hi, e, e2])
    (by
      rintro g
      simp -implicitDefEqProofs (maxSteps := 3000000)) with ⟨h1, h2⟩ | ⟨⟨i, hi, h1⟩, h2⟩
  · exact .inl ⟨⟨h, fun a ha => ⟨(h1 a ha).1, fun b hb => (h1 a ha).2 b (by rw [(h1 a ha).1]; exact hb)⟩⟩, h2⟩
  · exact .inr ⟨fun z => h1 ⟨(z.2 i hi).1, fun b hb => (z.2 i hi).2 b (by rw [← (z.2 i hi).1]; exact hb)⟩, h2⟩
@[simp] def ifacts (T : List (List Int)) (i : Nat) (s : St) : Prop := gfacts T s ∧ lookL s.env 6 = some (.d (.int .i64 i)) ∧ lookL s.env 35 = some (.d (.int .i64 T.length)) ∧ lookL s.env 36 = some (.d (.int .i64 i))
theorem lp_IsGroup_3 (m : Nat) (hm : B + 2 ≤ m) (T : List (List Int)) (R : RowsOk T) (i b : Nat) (hi : i < T.length) (hb : b < T.length)
    {st : St} {x : Option (Ex × St)} (hx : loopC (cxAt 203 m) (lp Tryz.f203 3) st = x) (f : ifacts T i st) (f7 : lookL st.env 7 = some (.d (.int .i64 b))) (f8 : lookL st.env 68 = some (.d (.int .i64 T.length)))
    (f9 : lookL st.env 69 = some (.d (.int .i64 b))) (f10 : lookL st.env 72 = some (.d (.int .i64 T.length))) (f11 : lookL st.env 73 = some (.d (.int .i64 0))) :
    (Asc T i b ∧ ∃ s, x = some (.exit 6, s) ∧ ifacts T i s ∧ lookL s.env 68 = some (.d (.int .i64 T.length)) ∧ lookL s.env 69 = some (.d (.int .i64 b))) ∨
    (¬ Asc T i b ∧ ∃ s, x = some (.ret, s) ∧ lookL s.env 2 = some (.d (.bool false))) := by
  have hB := B_eq
  obtain ⟨⟨g1, g2, g3⟩, g4, g5, g6⟩ := f
  obtain ⟨h, h1⟩ := R
  have gab := (h1 i hi).2 b hb
  have ri := (h1 i hi).1
  have rb := (h1 b hb).1
  have gab' : (cl T i b).toNat < T.length := by omega
  have rab := (h1 _ gab').1
  generalize hl : lp Tryz.f203 3 = L at hx
  simp only [lp, bodyOf, Tryz.f203, Option.getD_some, loopsIn, List.append_nil, List.nil_append, List.cons_append, List.getD, List.getElem?_cons_zero, List.getElem?_cons_succ] at hl
  subst hl
  rcases loop_chk hx T.length 6 (fun d => cl T (cl T i b).toNat d = cl T i (cl T b d).toNat)
    (fun d g => ⟨[(1, .ptr 16 1 0), (3, .d (.int .i64 T.length)), (6, .d (.int .i64 i)), (7, .d (.int .i64 b)), (35, .d (.int .i64 T.length)), (36, .d (.int .i64 i)), (68, .d (.int .i64 T.length)), (69, .d (.int .i64 b)), (72, .d (.int .i64 T.length)), (73, .d (.int .i64 d))], [(16, some (1, .box [.d (intss T)]))], g⟩)
    (fun s => ifacts T i s ∧ lookL s.env 68 = some (.d (.int .i64 T.length)) ∧ lookL s.env 69 = some (.d (.int .i64 b))) (fun s => lookL s.env 2 = some (.d (.bool false)))
    (by show T.length < m; omega) (by simp -implicitDefEqProofs (maxSteps := 3000000) [g1, g2, g3, g4, g5, g6, f7, f8, f9, f10, f11])
    (by
      rintro d g hd hp
      have gbd := (h1 b hb).2 d hd
      have gbd' : (cl T b d).toNat < T.length := by omega
      have w3 := wrap_id (n := (d : Int) + 1) (by omega)
      by_cases p : cl T (cl T i b).toNat d = cl T i (cl T b d).toNat
      · simp -implicitDefEqProofs (maxSteps := 3000000) [hi, hb, hd, gab.1, gbd.1, gab', gbd', ri, rb, rab, w3, p]
      · have p2 := bne_t p
        simp -implicitDefEqProofs (maxSteps := 3000000) [hi, hb, hd, gab.1, gbd.1, gab', gbd', ri, rb, rab, w3, p, p2])
    (by
      rintro g
      simp -implicitDefEqProofs (maxSteps := 3000000)) with ⟨h1, h2⟩ | ⟨⟨d, hd, h1⟩, h2⟩
  · exact .inl ⟨h1, h2⟩
  · exact .inr ⟨fun z => h1 (z d hd), h2⟩
theorem lp_IsGroup_2 (m : Nat) (hm : B + 2 ≤ m) (T : List (List Int)) (R : RowsOk T) (i : Nat) (hi : i < T.length)
    {st : St} {x : Option (Ex × St)} (hx : loopC (cxAt 203 m) (lp Tryz.f203 2) st = x) (f : ifacts T i st) (f8 : lookL st.env 68 = some (.d (.int .i64 T.length))) (f9 : lookL st.env 69 = some (.d (.int .i64 0))) :
    ((∀ b < T.length, Asc T i b) ∧ ∃ s, x = some (.exit 4, s) ∧ ifacts T i s) ∨ ((∃ b < T.length, ¬ Asc T i b) ∧ ∃ s, x = some (.ret, s) ∧ lookL s.env 2 = some (.d (.bool false))) := by
  have hB := B_eq
  obtain ⟨⟨g1, g2, g3⟩, g4, g5, g6⟩ := f
  have h := R.1
  generalize hl : lp Tryz.f203 2 = L at hx
  simp only [lp, bodyOf, Tryz.f203, Option.getD_some, loopsIn, List.append_nil, List.nil_append, List.cons_append, List.getD, List.getElem?_cons_zero, List.getElem?_cons_succ] at hl
  subst hl
  generalize hb3 : Code.loop _ = cc3 at hx
  obtain rfl : cc3 = .loop (lp Tryz.f203 3) := by rw [← hb3]; rfl
  clear hb3
  refine loop_chk hx T.length 4 (Asc T i)
    (fun b g => ⟨[(1, .ptr 16 1 0), (3, .d (.int .i64 T.length)), (6, .d (.int .i64 i)), (35, .d (.int .i64 T.length)), (36, .d (.int .i64 i)), (68, .d (.int .i64 T.length)), (69, .d (.int .i64 b))], [(16, some (1, .box [.d (intss T)]))], g⟩) _ _
    (by show T.length < m; omega) (by simp -implicitDefEqProofs (maxSteps := 3000000) [g1, g2, g3, g4, g5, g6, f8, f9])
    (by
      rintro b g hb hp
      have w2 := wrap_id (n := (b : Int) + 1) (by omega)
      simp -implicitDefEqProofs (maxSteps := 3000000) [hb]
      generalize hy : loopC _ _ _ = y
      rcases lp_IsGroup_3 m hm T R i b hi hb hy (by simp -implicitDefEqProofs (maxSteps := 3000000)) (by simp -implicitDefEqProofs (maxSteps := 3000000)) (by simp -implicitDefEqProofs (maxSteps := 3000000)) (by simp -implicitDefEqProofs (maxSteps := 3000000)) (by simp -implicitDefEqProofs (maxSteps := 3000000)) (by simp -implicitDefEqProofs (maxSteps := 3000000)) with ⟨h2, s, rfl, ⟨⟨h3, h4, h5⟩, h6, h7, h8⟩, h9, h10⟩ | ⟨h2, s, rfl, h3⟩
      · simp -implicitDefEqProofs (maxSteps := 3000000) [h3, h4, h5, h6, h7, h8, h9, h10, w2]
        exact h2
      · simp -implicitDefEqProofs (maxSteps := 3000000) [h3]
        exact h2)
    (by
      rintro g
      simp -implicitDefEqProofs (maxSteps := 3000000))
theorem lp_IsGroup_1 (m : Nat) (hm : B + 2 ≤ m) (T : List (List Int)) (R : RowsOk T)
    {st : St} {x : Option (Ex × St)} (hx : loopC (cxAt 203 m) (lp Tryz.f203 1) st = x) (f : gfacts T st) (f5 : lookL st.env 35 = some (.d (.int .i64 T.length))) (f6 : lookL st.env 36 = some (.d (.int .i64 0))) :
    (IsGr T ∧ ∃ s, x = some (.exit 2, s) ∧ True) ∨ (¬ IsGr T ∧ ∃ s, x = some (.ret, s) ∧ lookL s.env 2 = some (.d (.bool false))) := by
  have hB := B_eq
  obtain ⟨g1, g2, g3⟩ := f
  have h := R.1
  have h1 := R.2
  have hz : 0 < T.length := by omega
  have r0 := (h1 0 hz).1
  generalize hl : lp Tryz.f203 1 = L at hx
  simp only [lp, bodyOf, Tryz.f203, Option.getD_some, loopsIn, List.append_nil, List.nil_append, List.cons_append, List.getD, List.getElem?_cons_zero, List.getElem?_cons_succ] at hl
  subst hl
  generalize hb2 : Code.loop _ = cc2 at hx
  obtain rfl : cc2 = .loop (lp Tryz.f203 2) := by rw [← hb2]; rfl
  clear hb2
  rcases loop_chk hx T.length 2 (Line T)
    (fun i g => ⟨[(1, .ptr 16 1 0), (3, .d (.int .i64 T.length)), (35, .d (.int .i64 T.length)), (36, .d (.int .i64 i))], [(16, some (1, .box [.d (intss T)]))], g⟩)
    (fun s => True) (fun s => lookL s.env 2 = some (.d (.bool false)))
    (by show T.length < m; omega) (by simp -implicitDefEqProofs (maxSteps := 3000000) [g1, g2, g3, f5, f6])
    (by
      rintro i g hi hp
      have ri := (h1 i hi).1
      have w2 := wrap_id (n := (i : Int) + 1) (by omega)
      by_cases e1 : cl T 0 i = i
      · by_cases e2 : cl T i 0 = i
        · have c := ct_Contains m (by omega) (rown T i) 0 (by omega)
          by_cases e3 : ∃ b < T.length, cl T i b = 0
          · rw [bl_true (by rw [ri]; exact e3)] at c
            simp -implicitDefEqProofs (maxSteps := 3000000) [hi, e1, e2, r0, ri, hz, c]
            generalize hy : loopC _ _ _ = y
            rcases lp_IsGroup_2 m (by omega) T R i hi hy (by simp -implicitDefEqProofs (maxSteps := 3000000)) (by simp -implicitDefEqProofs (maxSteps := 3000000)) (by simp -implicitDefEqProofs (maxSteps := 3000000)) with ⟨k1, s, rfl, ⟨k2, k3, k4⟩, k5, k6, k7⟩ | ⟨⟨b, hb, k1⟩, s, rfl, k2⟩
            · simp -implicitDefEqProofs (maxSteps := 3000000) [k2, k3, k4, k5, k6, k7, w2]
              exact ⟨⟨⟨e1, e2⟩, e3⟩, k1⟩
            · simp -implicitDefEqProofs (maxSteps := 3000000) [k2]
              exact fun z => k1 (z.2 b hb)
          · rw [bl_false (by rw [ri]; exact e3)] at c
            simp -implicitDefEqProofs (maxSteps := 3000000) [hi, e1, e2, r0, ri, hz, c]
            exact fun z => e3 z.1.2
        · have e3 : (cl T i 0 != (i : Int)) = true := bne_t e2
          simp -implicitDefEqProofs (maxSteps := 3000000) [hi, e1, e2, e3, r0, ri, hz, Line]
      · have e3 : (cl T 0 i != (i : Int)) = true := bne_t e1
        simp -implicitDefEqProofs (maxSteps := 3000000) [hi, e1, e3, r0, ri, hz, Line])
    (by
      rintro g
      simp -implicitDefEqProofs (maxSteps := 3000000)) with ⟨k1, k2⟩ | ⟨⟨i, hi, k1⟩, k2⟩
  · exact .inl ⟨(isGr_iff T).2 ⟨R, k1⟩, k2⟩
  · exact .inr ⟨fun z => k1 (((isGr_iff T).1 z).2 i hi), k2⟩
theorem ct_IsGroup (n : Nat) (hn : B + 3 ≤ n) (T : List (List Int)) (hT : T.length ≤ 2000000) (hr : ∀ i, (rown T i).length ≤ 1000000000000) :
    evalCall Tryz.prog An n 203 [.agg [.d (intss T)]] [] = some ⟨.d (.bool (bl (IsGr T))), [], []⟩ := by
  obtain ⟨m, rfl⟩ : ∃ m, n = m + 1 := ⟨n - 1, by omega⟩
  have hB := B_eq
  simp only [evalCall_at, fb203, bnd_some, bodyOf, Tryz.f203, Option.getD_some]
  generalize hb0 : Code.loop _ = cc0
  generalize hb1 : Code.loop _ = cc1
  obtain rfl : cc0 = .loop (lp Tryz.f203 0) := by rw [← hb0]; rfl
  clear hb0
  obtain rfl : cc1 = .loop (lp Tryz.f203 1) := by rw [← hb1]; rfl
  clear hb1
  have c1 := ct_order m (by omega) T
  by_cases h1 : 1 ≤ T.length
  · by_cases h2 : T.length ≤ 8
    · have e1 : ¬ ((T.length : Int) < 1) := by omega
      have e2 : ¬ ((8 : Int) < T.length) := by omega
      have e3 : ¬ (T.length < 1) := by omega
      have e4 : ¬ (8 < T.length) := by omega
      have e5 : T ≠ [] := List.ne_nil_of_length_pos (by omega)
      simp -implicitDefEqProofs (maxSteps := 3000000) [c1, e1, e2, e3, e4, e5]
      generalize hx : loopC _ _ _ = x
      rcases lp_IsGroup_0 m (by omega) T ⟨h1, h2⟩ hr hx (by simp -implicitDefEqProofs (maxSteps := 3000000)) (by simp -implicitDefEqProofs (maxSteps := 3000000)) (by simp -implicitDefEqProofs (maxSteps := 3000000)) (by simp -implicitDefEqProofs (maxSteps := 3000000)) with ⟨R, s, rfl, k2, k3, k4⟩ | ⟨R, s, rfl, k2⟩
      · simp -implicitDefEqProofs (maxSteps := 3000000) [k2, k3, k4]
        generalize hx2 : loopC _ _ _ = x2
        rcases lp_IsGroup_1 m (by omega) T R hx2 (by simp -implicitDefEqProofs (maxSteps := 3000000) [k2, k3, k4]) (by simp -implicitDefEqProofs (maxSteps := 3000000)) (by simp -implicitDefEqProofs (maxSteps := 3000000)) with ⟨G, s2, rfl, _⟩ | ⟨G, s2, rfl, k5⟩
        · simp -implicitDefEqProofs (maxSteps := 3000000) [bl_true G]
        · simp -implicitDefEqProofs (maxSteps := 3000000) [k5, bl_false G]
      · simp -implicitDefEqProofs (maxSteps := 3000000) [k2, bl_false (show ¬ IsGr T from fun z => R z.1)]
    · have e1 : ¬ ((T.length : Int) < 1) := by omega
      have e2 : (8 : Int) < T.length := by omega
      have e3 : ¬ (T.length < 1) := by omega
      have e4 : 8 < T.length := by omega
      have e5 : T ≠ [] := List.ne_nil_of_length_pos (by omega)
      simp -implicitDefEqProofs (maxSteps := 3000000) [c1, e1, e2, e3, e4, e5, bl_false (show ¬ IsGr T from fun z => h2 z.1.1.2)]
  · have e1 : (T.length : Int) < 1 := by omega
    have e5 : T = [] := List.eq_nil_of_length_eq_zero (by omega)
    simp -implicitDefEqProofs (maxSteps := 3000000) [c1, e5, bl_false (show ¬ IsGr [] from fun z => by have := z.1.1.1; simp -implicitDefEqProofs (maxSteps := 3000000) at this)]
    subst e5
    simp -implicitDefEqProofs (maxSteps := 3000000) at c1
    simp -implicitDefEqProofs (maxSteps := 3000000) [c1]
end Go.Proofs.YtnfhglplafmfiaaGreatE
