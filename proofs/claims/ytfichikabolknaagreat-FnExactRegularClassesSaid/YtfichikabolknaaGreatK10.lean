/- Contracts of functions of the program and of the reference: what the evaluator gives for a call of each. -/
import Derived.Test.YtfichikabolknaaGreatAEf
import Derived.Test.YtfichikabolknaaGreatK0
import Derived.Test.YtfichikabolknaaGreatK3
import Derived.Test.YtfichikabolknaaGreatK4
import Derived.Test.YtfichikabolknaaGreatK7
import Derived.Test.YtfichikabolknaaGreatK8
namespace Go.Proofs.YtfichikabolknaaGreatE
open Go Go.Proofs
set_option maxHeartbeats 2000000
set_option linter.unusedSimpArgs false
set_option linter.unusedVariables false
set_option pp.deepTerms false
set_option pp.deepTerms.threshold 10
/-! ## the program's isModule -/
theorem idem_one : ∀ M u : Fin 13, u.val < M.val → Nat.gcd u.val M.val = 1 → u.val = u.val * u.val % M.val → u.val = 1 ∨ M.val = 1 := by decide +kernel
theorem isMo_one {T : List (List Int)} {M : Int} {U : List Int} (hG : IsGr T) (h : IsMo T M U) : rn U 0 = 1 := by
  have hn := hG.1.1
  have hl := h.1.2
  have e := h.2.2 0 (by omega) 0 (by omega)
  rw [(hG.2 0 (by omega)).1.1] at e
  obtain ⟨⟨u0, u1⟩, g⟩ := h.2.1 0 (by omega)
  have hM := h.1.1
  have z : ((0 : Nat) : Int).toNat = 0 := rfl
  rw [z] at e
  generalize rn U 0 = u at *
  obtain ⟨M', rfl⟩ := Int.eq_ofNat_of_zero_le (show 0 ≤ M by omega)
  obtain ⟨u', rfl⟩ := Int.eq_ofNat_of_zero_le (show 0 ≤ u by omega)
  unfold gcdI at g
  rw [Int.toNat_natCast, Int.toNat_natCast] at g
  have := idem_one ⟨M', by omega⟩ ⟨u', by omega⟩ (show u' < M' by omega) (show Nat.gcd u' M' = 1 by omega) (show u' = u' * u' % M' by exact_mod_cast e)
  have hq : u' = 1 ∨ M' = 1 := this
  omega
theorem lp_isModule_0 (m : Nat) (hm : B + 2 ≤ m) (T : List (List Int)) (M : Int) (U : List Int) (hM : 2 ≤ M ∧ M ≤ 12) (hU : U.length ≤ 2000000)
    {st : St} {x : Option (Ex × St)} (hx : loopC (cxAt 329 m) (lp Tryz.f329 0) st = x) (f : mfacts T M U st) (f5 : lookL st.env 29 = some (.d (ints U))) (f6 : lookL st.env 30 = some (.d (.int .i64 U.length))) (f7 : lookL st.env 31 = some (.d (.int .i64 0))) :
    ((∀ i < U.length, Unit1 M (rn U i)) ∧ ∃ s, x = some (.exit 0, s) ∧ mfacts T M U s) ∨ ((∃ i < U.length, ¬ Unit1 M (rn U i)) ∧ ∃ s, x = some (.ret, s) ∧ lookL s.env 4 = some (.d (.bool false))) := by
  have hB := B_eq
  obtain ⟨f1, f2, f3, f4⟩ := f
  generalize hl : lp Tryz.f329 0 = L at hx
  simp only [lp, bodyOf, Tryz.f329, Option.getD_some, loopsIn, List.append_nil, List.nil_append, List.cons_append, List.getD, List.getElem?_cons_zero, List.getElem?_cons_succ] at hl
  subst hl
  refine loop_chk hx U.length 0 (fun i => Unit1 M (rn U i))
    (fun i g => ⟨[(2, .ptr 32 1 0), (3, .ptr 48 2 0), (29, .d (ints U)), (30, .d (.int .i64 U.length)), (31, .d (.int .i64 i))], [(32, some (1, .box [.d (intss T)])), (48, some (2, .box [.d (.int .i64 M), .d (ints U)]))], g⟩) _ _
    (by show U.length < m; omega) (by simp -implicitDefEqProofs (maxSteps := 3000000) [f1, f2, f3, f4, f5, f6, f7])
    (by
      rintro i g hi hp
      have w2 := wrap_id (n := (i : Int) + 1) (by omega)
      have c := ct_isUnit m (by omega) M (rn U i) (by omega)
      by_cases p : Unit1 M (rn U i)
      · rw [bl_true p] at c
        simp -implicitDefEqProofs (maxSteps := 3000000) [hi, w2, c, p]
      · rw [bl_false p] at c
        simp -implicitDefEqProofs (maxSteps := 3000000) [hi, w2, c, p])
    (by
      rintro g
      simp -implicitDefEqProofs (maxSteps := 3000000))
@[simp] def ifactsM (T : List (List Int)) (M : Int) (U : List Int) (a : Nat) (s : St) : Prop := mfacts T M U s ∧ lookL s.env 42 = some (.d (.int .i64 T.length)) ∧ lookL s.env 43 = some (.d (.int .i64 a))
theorem lp_isModule_2 (m : Nat) (hm : B + 2 ≤ m) (T : List (List Int)) (G : IsGr T) (M : Int) (U : List Int) (hM : 2 ≤ M ∧ M ≤ 12) (hU : U.length = T.length) (hu : ∀ i < U.length, Unit1 M (rn U i)) (a : Nat) (ha : a < T.length)
    {st : St} {x : Option (Ex × St)} (hx : loopC (cxAt 329 m) (lp Tryz.f329 2) st = x) (f : ifactsM T M U a st) (f6 : lookL st.env 7 = some (.d (.int .i64 a))) (f7 : lookL st.env 47 = some (.d (.int .i64 T.length))) (f8 : lookL st.env 48 = some (.d (.int .i64 0))) :
    (Act1 T M U a ∧ ∃ s, x = some (.exit 4, s) ∧ ifactsM T M U a s) ∨ (¬ Act1 T M U a ∧ ∃ s, x = some (.ret, s) ∧ lookL s.env 4 = some (.d (.bool false))) := by
  have hB := B_eq
  obtain ⟨⟨f1, f2, f3, f4⟩, g1, g2⟩ := f
  have R := G.1
  have ha' : a < U.length := by omega
  have hn := R.1
  have e0 : cl T 0 a = a := (G.2 a ha).1.1
  generalize hl : lp Tryz.f329 2 = L at hx
  simp only [lp, bodyOf, Tryz.f329, Option.getD_some, loopsIn, List.append_nil, List.nil_append, List.cons_append, List.getD, List.getElem?_cons_zero, List.getElem?_cons_succ] at hl
  subst hl
  rcases loop_chk hx T.length 4 (fun b => rn U (cl T a b).toNat = rn U a * rn U b % M)
    (fun b g => ⟨[(2, .ptr 32 1 0), (3, .ptr 48 2 0), (7, .d (.int .i64 a)), (42, .d (.int .i64 T.length)), (43, .d (.int .i64 a)), (47, .d (.int .i64 T.length)), (48, .d (.int .i64 b))], [(32, some (1, .box [.d (intss T)])), (48, some (2, .box [.d (.int .i64 M), .d (ints U)]))], g⟩)
    (ifactsM T M U a) (fun s => lookL s.env 4 = some (.d (.bool false)))
    (by show T.length < m; omega) (by simp -implicitDefEqProofs (maxSteps := 3000000) [f1, f2, f3, f4, f6, f7, f8, g1, g2])
    (by
      rintro b g hb hp
      have w2 := wrap_id (n := (b : Int) + 1) (by omega)
      have hb' : b < U.length := by omega
      have gab := (R.2 a ha).2 b hb
      have gab' : (cl T a b).toNat < U.length := by omega
      have ua := (hu a ha').1
      have ub := (hu b hb').1
      have bd := mul_bd (a := rn U a) (b := rn U b) (x := 11) (y := 11) (by omega) (by omega) (by omega) (by omega)
      have w3 := wrap_id (n := rn U a * rn U b) (by omega)
      have tm := tmod_nn M bd.1
      have hz : M ≠ 0 := by omega
      have c := ct_times2 m (by omega) T R a b ha hb e0
      by_cases p : rn U (cl T a b).toNat = rn U a * rn U b % M
      · simp -implicitDefEqProofs (maxSteps := 3000000) [ha, ha', hb, hb', gab.1, gab', w2, w3, tm, hz, c, p]
      · have p2 := bne_t p
        simp -implicitDefEqProofs (maxSteps := 3000000) [ha, ha', hb, hb', gab.1, gab', w2, w3, tm, hz, c, p, p2])
    (by
      rintro g
      simp -implicitDefEqProofs (maxSteps := 3000000)) with ⟨h1, h2⟩ | ⟨⟨b, hb, h1⟩, h2⟩
  · exact .inl ⟨fun b hb => h1 b (by omega), h2⟩
  · exact .inr ⟨fun z => h1 (z b (by omega)), h2⟩
theorem lp_isModule_1 (m : Nat) (hm : B + 2 ≤ m) (T : List (List Int)) (G : IsGr T) (M : Int) (U : List Int) (hM : 2 ≤ M ∧ M ≤ 12) (hU : U.length = T.length) (hu : ∀ i < U.length, Unit1 M (rn U i))
    {st : St} {x : Option (Ex × St)} (hx : loopC (cxAt 329 m) (lp Tryz.f329 1) st = x) (f : ifactsM T M U 0 st) :
    ((∀ a < U.length, Act1 T M U a) ∧ ∃ s, x = some (.exit 2, s) ∧ True) ∨ ((∃ a < U.length, ¬ Act1 T M U a) ∧ ∃ s, x = some (.ret, s) ∧ lookL s.env 4 = some (.d (.bool false))) := by
  have hB := B_eq
  obtain ⟨⟨f1, f2, f3, f4⟩, g1, g2⟩ := f
  have hn := G.1.1
  have c := ct_order m (by omega) T
  generalize hl : lp Tryz.f329 1 = L at hx
  simp only [lp, bodyOf, Tryz.f329, Option.getD_some, loopsIn, List.append_nil, List.nil_append, List.cons_append, List.getD, List.getElem?_cons_zero, List.getElem?_cons_succ] at hl
  subst hl
  generalize hb2 : Code.loop _ = cc2 at hx
  obtain rfl : cc2 = .loop (lp Tryz.f329 2) := by rw [← hb2]; rfl
  clear hb2
  rcases loop_chk hx T.length 2 (Act1 T M U)
    (fun a g => ⟨[(2, .ptr 32 1 0), (3, .ptr 48 2 0), (42, .d (.int .i64 T.length)), (43, .d (.int .i64 a))], [(32, some (1, .box [.d (intss T)])), (48, some (2, .box [.d (.int .i64 M), .d (ints U)]))], g⟩)
    (fun s => True) (fun s => lookL s.env 4 = some (.d (.bool false)))
    (by show T.length < m; omega) (by simp -implicitDefEqProofs (maxSteps := 3000000) at g2; simp -implicitDefEqProofs (maxSteps := 3000000) [f1, f2, f3, f4, g1, g2])
    (by
      rintro a g ha hp
      have w2 := wrap_id (n := (a : Int) + 1) (by omega)
      simp -implicitDefEqProofs (maxSteps := 3000000) [ha, c]
      generalize hy : loopC _ _ _ = y
      rcases lp_isModule_2 m hm T G M U hM hU hu a ha hy (by simp -implicitDefEqProofs (maxSteps := 3000000)) (by simp -implicitDefEqProofs (maxSteps := 3000000)) (by simp -implicitDefEqProofs (maxSteps := 3000000)) (by simp -implicitDefEqProofs (maxSteps := 3000000)) with ⟨h1, s, rfl, ⟨h2, h3, h4, h5⟩, h6, h7⟩ | ⟨h1, s, rfl, h2⟩
      · simp -implicitDefEqProofs (maxSteps := 3000000) [h2, h3, h4, h5, h6, h7, w2]
        exact h1
      · simp -implicitDefEqProofs (maxSteps := 3000000) [h2]
        exact h1)
    (by
      rintro g
      simp -implicitDefEqProofs (maxSteps := 3000000)) with ⟨h1, h2⟩ | ⟨⟨b, hb, h1⟩, h2⟩
  · exact .inl ⟨fun b hb => h1 b (by omega), h2⟩
  · exact .inr ⟨⟨b, by omega, h1⟩, h2⟩
theorem ct_isModule (n : Nat) (hn : B + 3 ≤ n) (T : List (List Int)) (G : IsGr T) (M : Int) (U : List Int) (hU : U.length ≤ 2000000) :
    evalCall Tryz.prog An n 329 [.agg [.d (intss T)], .agg [.d (.int .i64 M), .d (ints U)]] [] = some ⟨.d (.bool (bl (IsMo T M U))), [], []⟩ := by
  obtain ⟨m, rfl⟩ : ∃ m, n = m + 1 := ⟨n - 1, by omega⟩
  have hB := B_eq
  simp only [evalCall_at, fb329, bnd_some, bodyOf, Tryz.f329, Option.getD_some]
  generalize hb0 : Code.loop _ = cc0
  generalize hb1 : Code.loop _ = cc1
  obtain rfl : cc0 = .loop (lp Tryz.f329 0) := by rw [← hb0]; rfl
  clear hb0
  obtain rfl : cc1 = .loop (lp Tryz.f329 1) := by rw [← hb1]; rfl
  clear hb1
  have c1 := ct_isModulus m (by omega) M
  have c2 := ct_order m (by omega) T
  have hn := G.1.1
  by_cases hM : 2 ≤ M ∧ M ≤ 12
  · rw [bl_true hM] at c1
    by_cases hL : U.length = T.length
    · have hz : 0 < T.length := by omega
      by_cases h1 : rn U 0 = 1
      · simp -implicitDefEqProofs (maxSteps := 3000000) [c1, c2, hL, hz, h1]
        generalize hx : loopC _ _ _ = x
        rcases lp_isModule_0 m (by omega) T M U hM hU hx (by simp -implicitDefEqProofs (maxSteps := 3000000)) (by simp -implicitDefEqProofs (maxSteps := 3000000)) (by simp -implicitDefEqProofs (maxSteps := 3000000) [hL]) (by simp -implicitDefEqProofs (maxSteps := 3000000)) with ⟨k1, s, rfl, h2, h3, h4, h5⟩ | ⟨⟨i, hi, k1⟩, s, rfl, h2⟩
        · simp -implicitDefEqProofs (maxSteps := 3000000) [h2, h3, h4, h5, c2]
          generalize hx2 : loopC _ _ _ = x2
          rcases lp_isModule_1 m (by omega) T G M U hM hL k1 hx2 (by simp -implicitDefEqProofs (maxSteps := 3000000) [h2, h3, h4, h5]) with ⟨k2, s2, rfl, _⟩ | ⟨⟨i, hi, k2⟩, s2, rfl, k3⟩
          · simp -implicitDefEqProofs (maxSteps := 3000000) [bl_true (show IsMo T M U from ⟨⟨hM, hL⟩, k1, k2⟩)]
          · simp -implicitDefEqProofs (maxSteps := 3000000) [k3, bl_false (show ¬ IsMo T M U from fun z => k2 (z.2.2 i hi))]
        · simp -implicitDefEqProofs (maxSteps := 3000000) [h2, bl_false (show ¬ IsMo T M U from fun z => k1 (z.2.1 i hi))]
      · have e := bne_t h1
        simp -implicitDefEqProofs (maxSteps := 3000000) [c1, c2, hL, hz, h1, e, bl_false (show ¬ IsMo T M U from fun z => h1 (isMo_one G z))]
    · have e2 : ((U.length : Int) != T.length) = true := bne_t (by omega)
      simp -implicitDefEqProofs (maxSteps := 3000000) [c1, c2, e2, bl_false (show ¬ IsMo T M U from fun z => hL z.1.2)]
  · rw [bl_false hM] at c1
    simp -implicitDefEqProofs (maxSteps := 3000000) [c1, bl_false (show ¬ IsMo T M U from fun z => hM z.1.1)]
end Go.Proofs.YtfichikabolknaaGreatE
