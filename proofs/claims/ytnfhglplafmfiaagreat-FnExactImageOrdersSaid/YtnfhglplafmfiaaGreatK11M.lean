/- Contracts of functions of the program and of the reference: what the evaluator gives for a call of each. -/
import Derived.Test.YtnfhglplafmfiaaGreatAEf
import Derived.Test.YtnfhglplafmfiaaGreatK1M
import Derived.Test.YtnfhglplafmfiaaGreatK3M
import Derived.Test.YtnfhglplafmfiaaGreatK4
import Derived.Test.YtnfhglplafmfiaaGreatK8M
import Derived.Test.YtnfhglplafmfiaaGreatK6M
import Derived.Test.YtnfhglplafmfiaaGreatK9
namespace Go.Proofs.YtnfhglplafmfiaaGreatE
open Go Go.Proofs
set_option maxHeartbeats 2000000
set_option linter.unusedSimpArgs false
set_option linter.unusedVariables false
set_option pp.deepTerms false
set_option pp.deepTerms.threshold 10
/-! ## the program's isModule -/
theorem idem_one : ∀ M u : Fin 13, u.val < M.val → Nat.gcd u.val M.val = 1 → u.val = u.val * u.val % M.val → u.val = 1 ∨ M.val = 1 := by decide +kernel
theorem isMo_one {T : List (List Int)} {M : Int} {U : List Int} (hG : IsGr T) (h : IsMo T M U) : rn U 0 = 1 := by
  have hn := hG.1.1
  have hl := h.1.2
  have e := h.2.2 0 (by omega) 0 (by omega)
  rw [(hG.2 0 (by omega)).1.1] at e
  obtain ⟨⟨u0, u1⟩, g⟩ := h.2.1 0 (by omega)
  have hM := h.1.1
  have z : ((0 : Nat) : Int).toNat = 0 := rfl
  rw [z] at e
  generalize rn U 0 = u at *
  obtain ⟨M', rfl⟩ := Int.eq_ofNat_of_zero_le (show 0 ≤ M by omega)
  obtain ⟨u', rfl⟩ := Int.eq_ofNat_of_zero_le (show 0 ≤ u by omega)
  unfold gcdI at g
  rw [Int.toNat_natCast, Int.toNat_natCast] at g
  have := idem_one ⟨M', by omega⟩ ⟨u', by omega⟩ (show u' < M' by omega) (show Nat.gcd u' M' = 1 by omega) (show u' = u' * u' % M' by exact_mod_cast e)
  have hq : u' = 1 ∨ M' = 1 := this
  omega
theorem lp_isModule_0 (m : Nat) (hm : B + 2 ≤ m) (T : List (List Int)) (M : Int) (U : List Int) (hM : 2 ≤ M ∧ M ≤ 12) (hU : U.length ≤ 2000000)
    {st : St} {x : Option (Ex × St)} (hx : loopC (cxAt 223 m) (lp Tryz.f223 0) st = x) (f : mfacts T M U st) (f5 : lookL st.env 29 = some (.d (ints U))) (f6 : lookL st.env 30 = some (.d (.int .i64 U.length))) (f7 : lookL st.env 31 = some (.d (.int .i64 0))) :
    ((∀ i < U.length, Unit1 M (rn U i)) ∧ ∃ s, x = some (.exit 0, s) ∧ mfacts T M U s) ∨ ((∃ i < U.length, ¬ Unit1 M (rn U i)) ∧ ∃ s, x = some (.ret, s) ∧ lookL s.env 4 = some (.d (.bool false))) := by
  have hB := B_eq
  obtain ⟨f1, f2, f3, f4⟩ := f
  generalize hl : lp Tryz.f223 0 = L at hx
  simp only [lp, bodyOf, Tryz.f223, Option.getD_some, loopsIn, List.append_nil, List.nil_append, List.cons_append, List.getD, List.getElem?_cons_zero, List.getElem?_cons_succ] at hl
  subst hl
  refine loop_chk hx U.length 0 (fun i => Unit1 M (rn U i))
    (fun i g => ⟨[(2, .ptr 32 1 0), (3, .ptr 48 2 0), (29, .d (ints U)), (30, .d (.int .i64 U.length)), (31, .d (.int .i64 i))], [(32, some (1, .box [.d (intss T)])), (48, some (2, .box [.d (.int .i64 M), .d (ints U)]))], g⟩) _ _
    (by show U.length < m; omega) (by simp -implicitDefEqProofs (maxSteps := 3000000) [f1, f2, f3, f4, f5, f6, f7])
    (by
      rintro i g hi hp
      have w2 := wrap_id (n := (i : Int) + 1) (by omega)
      have c := ct_isUnit m (by omega) M (rn U i) (by omega)
      by_cases p : Unit1 M (rn U i)
      · rw [bl_true p] at c
        simp -implicitDefEqProofs (maxSteps := 3000000) [hi, w2, c, p]
      · rw [bl_false p] at c
        simp -implicitDefEqProofs (maxSteps := 3000000) [hi, w2, c, p])
    (by
      rintro g
      simp -implicitDefEqProofs (maxSteps := 3000000))
@[simp] def ifactsM (T : List (List Int)) (M : Int) (U : List Int) (a : Nat) (s : St) : Prop := mfacts T M U s ∧ lookL s.env 42 = some (.d (.int .i64 T.length)) ∧ lookL s.env 43 = some (.d (.int .i64 a))
theorem lp_isModule_2 (m : Nat) (hm : B + 2 ≤ m) (T : List (List Int)) (G : IsGr T) (M : Int) (U : List Int) (hM : 2 ≤ M ∧ M ≤ 12) (hU : U.length = T.length) (hu : ∀ i < U.length, Unit1 M (rn U i)) (a : Nat) (ha : a < T.length)
    {st : St} {x : Option (Ex × St)} (hx : loopC (cxAt 223 m) (lp Tryz.f223 2) st = x) (f : ifactsM T M U a st) (f6 : lookL st.env 7 = some (.d (.int .i64 a))) (f7 : lookL st.env 47 = some (.d (.int .i64 T.length))) (f8 : lookL st.env 48 = some (.d (.int .i64 0))) :
    (Act1 T M U a ∧ ∃ s, x = some (.exit 4, s) ∧ ifactsM T M U a s) ∨ (¬ Act1 T M U a ∧ ∃ s, x = some (.ret, s) ∧ lookL s.env 4 = some (.d (.bool false))) := by
  have hB := B_eq
  obtain ⟨⟨f1, f2, f3, f4⟩, g1, g2⟩ := f
  have R := G.1
  have ha' : a < U.length := by omega
  have hn := R.1
  have e0 : cl T 0 a = a := (G.2 a ha).1.1
  generalize hl : lp Tryz.f223 2 = L at hx
  simp only [lp, bodyOf, Tryz.f223, Option.getD_some, loopsIn, List.append_nil, List.nil_append, List.cons_append, List.getD, List.getElem?_cons_zero, List.getElem?_cons_succ] at hl
  subst hl
  rcases loop_chk hx T.length 4 (fun b => rn U (cl T a b).toNat = rn U a * rn U b % M)
    (fun b g => ⟨[(2, .ptr 32 1 0), (3, .ptr 48 2 0), (7, .d (.int .i64 a)), (42, .d (.int .i64 T.length)), (43, .d (.int .i64 a)), (47, .d (.int .i64 T.length)), (48, .d (.int .i64 b))], [(32, some (1, .box [.d (intss T)])), (48, some (2, .box [.d (.int .i64 M), .d (ints U)]))], g⟩)
    (ifactsM T M U a) (fun s => lookL s.env 4 = some (.d (.bool false)))
    (by show T.length < m; omega) (by simp -implicitDefEqProofs (maxSteps := 3000000) [f1, f2, f3, f4, f6, f7, f8, g1, g2])
    (by
      rintro b g hb hp
      have w2 := wrap_id (n := (b : Int) + 1) (by omega)
      have hb' : b < U.length := by omega
      have gab := (R.2 a ha).2 b hb
      have gab' : (cl T a b).toNat < U.length := by omega
      have ua := (hu a ha').1
      have ub := (hu b hb').1
      have bd := mul_bd (a := rn U a) (b := rn U b) (x := 11) (y := 11) (by omega) (by omega) (by omega) (by omega)
      have w3 := wrap_id (n := rn U a * rn U b) (by omega)
      have tm := tmod_nn M bd.1
      have hz : M ≠ 0 := by omega
      have c := ct_times2 m (by omega) T R a b ha hb e0
      by_cases p : rn U (cl T a b).toNat = rn U a * rn U b % M
      · simp -implicitDefEqProofs (maxSteps := 3000000) [ha, ha', hb, hb', gab.1, gab', w2, w3, tm, hz, c, p]
      · have p2 := bne_t p
        simp -implicitDefEqProofs (maxSteps := 3000000) [ha, ha', hb, hb', gab.1, gab', w2, w3, tm, hz, c, p, p2])
    (by
      rintro g
      simp -implicitDefEqProofs (maxSteps := 3000000)) with ⟨h1, h2⟩ | ⟨⟨b, hb, h1⟩, h2⟩
  · exact .inl ⟨fun b hb => h1 b (by omega), h2⟩
  · exact .inr ⟨fun z => h1 (z b (by omega)), h2⟩
theorem lp_isModule_1 (m : Nat) (hm : B + 2 ≤ m) (T : List (List Int)) (G : IsGr T) (M : Int) (U : List Int) (hM : 2 ≤ M ∧ M ≤ 12) (hU : U.length = T.length) (hu : ∀ i < U.length, Unit1 M (rn U i))
    {st : St} {x : Option (Ex × St)} (hx : loopC (cxAt 223 m) (lp Tryz.f223 1) st = x) (f : ifactsM T M U 0 st) :
    ((∀ a < U.length, Act1 T M U a) ∧ ∃ s, x = some (.exit 2, s) ∧ True) ∨ ((∃ a < U.length, ¬ Act1 T M U a) ∧ ∃ s, x = some (.ret, s) ∧ lookL s.env 4 = some (.d (.bool false))) := by
  have hB := B_eq
  obtain ⟨⟨f1, f2, f3, f4⟩, g1, g2⟩ := f
  have hn := G.1.1
  have c := ct_order m (by omega) T
  generalize hl : lp Tryz.f223 1 = L at hx
  simp only [lp, bodyOf, Tryz.f223, Option.getD_some, loopsIn, List.append_nil, List.nil_append, List.cons_append, List.getD, List.getElem?_cons_zero, List.getElem?_cons_succ] at hl
  subst hl
  generalize hb2 : Code.loop _ = cc2 at hx
  obtain rfl : cc2 = .loop (lp Tryz.f223 2) := by rw [← hb2]; rfl
  clear hb2
  rcases loop_chk hx T.length 2 (Act1 T M U)
    (fun a g => ⟨[(2, .ptr 32 1 0), (3, .ptr 48 2 0), (42, .d (.int .i64 T.length)), (43, .d (.int .i64 a))], [(32, some (1, .box [.d (intss T)])), (48, some (2, .box [.d (.int .i64 M), .d (ints U)]))], g⟩)
    (fun s => True) (fun s => lookL s.env 4 = some (.d (.bool false)))
    (by show T.length < m; omega) (by simp -implicitDefEqProofs (maxSteps := 3000000) at g2; simp -implicitDefEqProofs (maxSteps := 3000000) [f1, f2, f3, f4, g1, g2])
    (by
      rintro a g ha hp
      have w2 := wrap_id (n := (a : Int) + 1) (by omega)
      simp -implicitDefEqProofs (maxSteps := 3000000) [ha, c]
      generalize hy : loopC _ _ _ = y
      rcases lp_isModule_2 m hm T G M U hM hU hu a ha hy (by simp -implicitDefEqProofs (maxSteps := 3000000)) (by simp -implicitDefEqProofs (maxSteps := 3000000)) (by simp -implicitDefEqProofs (maxSteps := 3000000)) (by simp -implicitDefEqProofs (maxSteps := 3000000)) with ⟨h1, s, rfl, ⟨h2, h3, h4, h5⟩, h6, h7⟩ | ⟨h1, s, rfl, h2⟩
      · simp -implicitDefEqProofs (maxSteps := 3000000) [h2, h3, h4, h5, h6, h7, w2]
        exact h1
      · simp -implicitDefEqProofs (maxSteps := 3000000) [h2]
        exact h1)
    (by
      rintro g
      simp -implicitDefEqProofs (maxSteps := 3000000)) with ⟨h1, h2⟩ | ⟨⟨b, hb, h1⟩, h2⟩
  · exact .inl ⟨fun b hb => h1 b (by omega), h2⟩
  · exact .inr ⟨⟨b, by omega, h1⟩, h2⟩
theorem ct_isModule (n : Nat) (hn : B + 3 ≤ n) (T : List (List Int)) (G : IsGr T) (M : Int) (U : List Int) (hU : U.length ≤ 2000000) :
    evalCall Tryz.prog An n 223 [.agg [.d (intss T)], .agg [.d (.int .i64 M), .d (ints U)]] [] = some ⟨.d (.bool (bl (IsMo T M U))), [], []⟩ := by
  obtain ⟨m, rfl⟩ : ∃ m, n = m + 1 := ⟨n - 1, by omega⟩
  have hB := B_eq
  simp only [evalCall_at, fb223, bnd_some, bodyOf, Tryz.f223, Option.getD_some]
  generalize hb0 : Code.loop _ = cc0
  generalize hb1 : Code.loop _ = cc1
  obtain rfl : cc0 = .loop (lp Tryz.f223 0) := by rw [← hb0]; rfl
  clear hb0
  obtain rfl : cc1 = .loop (lp Tryz.f223 1) := by rw [← hb1]; rfl
  clear hb1
  have c1 := ct_isModulus m (by omega) M
  have c2 := ct_order m (by omega) T
  have hn := G.1.1
  by_cases hM : 2 ≤ M ∧ M ≤ 12
  · rw [bl_true hM] at c1
    by_cases hL : U.length = T.length
    · have hz : 0 < T.length := by omega
      by_cases h1 : rn U 0 = 1
      · simp -implicitDefEqProofs (maxSteps := 3000000) [c1, c2, hL, hz, h1]
        generalize hx : loopC _ _ _ = x
        rcases lp_isModule_0 m (by omega) T M U hM hU hx (by simp -implicitDefEqProofs (maxSteps := 3000000)) (by simp -implicitDefEqProofs (maxSteps := 3000000)) (by simp -implicitDefEqProofs (maxSteps := 3000000) [hL]) (by simp -implicitDefEqProofs (maxSteps := 3000000)) with ⟨k1, s, rfl, h2, h3, h4, h5⟩ | ⟨⟨i, hi, k1⟩, s, rfl, h2⟩
        · simp -implicitDefEqProofs (maxSteps := 3000000) [h2, h3, h4, h5, c2]
          generalize hx2 : loopC _ _ _ = x2
          rcases lp_isModule_1 m (by omega) T G M U hM hL k1 hx2 (by simp -implicitDefEqProofs (maxSteps := 3000000) [h2, h3, h4, h5]) with ⟨k2, s2, rfl, _⟩ | ⟨⟨i, hi, k2⟩, s2, rfl, k3⟩
          · simp -implicitDefEqProofs (maxSteps := 3000000) [bl_true (show IsMo T M U from ⟨⟨hM, hL⟩, k1, k2⟩)]
          · simp -implicitDefEqProofs (maxSteps := 3000000) [k3, bl_false (show ¬ IsMo T M U from fun z => k2 (z.2.2 i hi))]
        · simp -implicitDefEqProofs (maxSteps := 3000000) [h2, bl_false (show ¬ IsMo T M U from fun z => k1 (z.2.1 i hi))]
      · have e := bne_t h1
        simp -implicitDefEqProofs (maxSteps := 3000000) [c1, c2, hL, hz, h1, e, bl_false (show ¬ IsMo T M U from fun z => h1 (isMo_one G z))]
    · have e2 : ((U.length : Int) != T.length) = true := bne_t (by omega)
      simp -implicitDefEqProofs (maxSteps := 3000000) [c1, c2, e2, bl_false (show ¬ IsMo T M U from fun z => hL z.1.2)]
  · rw [bl_false hM] at c1
    simp -implicitDefEqProofs (maxSteps := 3000000) [c1, bl_false (show ¬ IsMo T M U from fun z => hM z.1.1)]
end Go.Proofs.YtnfhglplafmfiaaGreatE

namespace Go.Proofs.YtnfhglplafmfiaaGreatE
open Go Go.Proofs
set_option maxHeartbeats 2000000
set_option linter.unusedSimpArgs false
set_option linter.unusedVariables false
set_option pp.deepTerms false
set_option pp.deepTerms.threshold 10
/-! ## the program's ReduceCochain -/
theorem ct_areModules1 (n : Nat) (hn : B + 4 ≤ n) (T : List (List Int)) (hT : T.length ≤ 2000000) (hr : ∀ i, (rown T i).length ≤ 1000000000000) (M : Int) (U : List Int) (hU : U.length ≤ 2000000) :
    evalCall Tryz.prog An n 171 [.agg [.d (intss T)], .d (.sl 2 [.int .i64 M, ints U])] [] = some ⟨.d (.bool (bl (GM T M U))), [], []⟩ := by
  obtain ⟨m, rfl⟩ : ∃ m, n = m + 1 := ⟨n - 1, by omega⟩
  have hB := B_eq
  simp only [evalCall_at, fb171, bnd_some, bodyOf, Tryz.f171, Option.getD_some]
  generalize hb0 : Code.loop _ = cc0
  obtain rfl : cc0 = .loop (lp Tryz.f171 0) := by rw [← hb0]; rfl
  clear hb0
  have c1 := ct_IsGroup m (by omega) T hT hr
  simp -implicitDefEqProofs (maxSteps := 3000000)
  generalize hx : loopC _ _ _ = x
  generalize hl : lp Tryz.f171 0 = L at hx
  simp only [lp, bodyOf, Tryz.f171, Option.getD_some, loopsIn, List.append_nil, List.nil_append, List.cons_append, List.getD, List.getElem?_cons_zero, List.getElem?_cons_succ] at hl
  subst hl
  rcases loop_chk hx 1 0 (fun i => GM T M U)
    (fun i g => ⟨[(2, .ptr 32 1 0), (7, .d (.sl 2 [.int .i64 M, ints U])), (8, .d (.int .i64 1)), (9, .d (.int .i64 i))], [(32, some (1, .box [.d (intss T)]))], g⟩)
    (fun s => True) (fun s => lookL s.env 4 = some (.d (.bool false)))
    (by show 1 < m; omega) (by simp -implicitDefEqProofs (maxSteps := 3000000))
    (by
      rintro i g hi hp
      obtain rfl : i = 0 := by omega
      have w2 := wrap_id (n := 1) (by omega)
      by_cases G : IsGr T
      · have c2 := ct_isModule m (by omega) T G M U hU
        rw [bl_true G] at c1
        by_cases p : IsMo T M U
        · rw [bl_true p] at c2
          simp -implicitDefEqProofs (maxSteps := 3000000) [c1, c2, w2, show GM T M U from ⟨G, p⟩]
        · rw [bl_false p] at c2
          simp -implicitDefEqProofs (maxSteps := 3000000) [c1, c2, w2, show ¬ GM T M U from fun z => p z.2]
      · rw [bl_false G] at c1
        simp -implicitDefEqProofs (maxSteps := 3000000) [c1, w2, show ¬ GM T M U from fun z => G z.1])
    (by
      rintro g
      simp -implicitDefEqProofs (maxSteps := 3000000)) with ⟨h1, s, rfl, _⟩ | ⟨⟨i, hi, h1⟩, s, rfl, h2⟩
  · simp -implicitDefEqProofs (maxSteps := 3000000) [bl_true (h1 0 (by omega))]
  · simp -implicitDefEqProofs (maxSteps := 3000000) [h2, bl_false h1]
noncomputable def mcode (T : List (List Int)) (M : Int) (U : List Int) : Int := @ite Int (GM T M U) (Classical.propDecidable _) 0 1
theorem ct_moduleCode1 (n : Nat) (hn : B + 5 ≤ n) (T : List (List Int)) (hT : T.length ≤ 2000000) (hr : ∀ i, (rown T i).length ≤ 1000000000000) (M : Int) (U : List Int) (hU : U.length ≤ 2000000) :
    evalCall Tryz.prog An n 159 [.agg [.d (intss T)], .d (.sl 2 [.int .i64 M, ints U])] [] = some ⟨.d (.int .i64 (mcode T M U)), [], []⟩ := by
  obtain ⟨m, rfl⟩ : ∃ m, n = m + 1 := ⟨n - 1, by omega⟩
  have hB := B_eq
  simp only [evalCall_at, fb159, bnd_some, bodyOf, Tryz.f159, Option.getD_some]
  have c1 := ct_areModules1 m (by omega) T hT hr M U hU
  by_cases p : GM T M U
  · rw [bl_true p] at c1
    have e : mcode T M U = 0 := if_pos p
    simp -implicitDefEqProofs (maxSteps := 3000000) [c1, e]
  · rw [bl_false p] at c1
    have e : mcode T M U = 1 := if_neg p
    simp -implicitDefEqProofs (maxSteps := 3000000) [c1, e]
theorem half {M k : Int} (hM : 2 ≤ M) (hk : 2 ≤ k) (h : M.tmod k = 0) : k < M ↔ k ≤ M.tdiv 2 := by
  rw [Int.tdiv_eq_ediv_of_nonneg (by omega)]
  rw [tmod_nn k (by omega)] at h
  have e : k * (M / k) = M := Int.mul_ediv_cancel' (Int.dvd_of_emod_eq_zero h)
  constructor
  · intro hlt
    have c : 2 ≤ M / k := by
      rcases Int.lt_or_le (M / k) 2 with z | z
      · have := Int.mul_le_mul_of_nonneg_left (show M / k ≤ 1 by omega) (show 0 ≤ k by omega)
        omega
      · exact z
    have := Int.mul_le_mul_of_nonneg_left c (show 0 ≤ k by omega)
    omega
  · intro hle
    omega
noncomputable def icode (T : List (List Int)) (M : Int) (U : List Int) (k : Int) : Int := @ite Int (GM T M U) (Classical.propDecidable _) (dcode M k) 1
theorem ct_divisorCode (n : Nat) (hn : B + 6 ≤ n) (T : List (List Int)) (hT : T.length ≤ 2000000) (hr : ∀ i, (rown T i).length ≤ 1000000000000) (M : Int) (U : List Int) (hU : U.length ≤ 2000000) (k : Int) :
    evalCall Tryz.prog An n 73 [.agg [.d (intss T)], .agg [.d (.int .i64 M), .d (ints U)], .d (.int .i64 k)] [] = some ⟨.d (.int .i64 (icode T M U k)), [], []⟩ := by
  obtain ⟨m, rfl⟩ : ∃ m, n = m + 1 := ⟨n - 1, by omega⟩
  have hB := B_eq
  simp only [evalCall_at, fb73, bnd_some, bodyOf, Tryz.f73, Option.getD_some]
  have c1 := ct_moduleCode1 m (by omega) T hT hr M U hU
  by_cases p : GM T M U
  · have e : icode T M U k = dcode M k := if_pos p
    rw [show mcode T M U = 0 from if_pos p] at c1
    have hM := p.2.1.1
    by_cases h1 : k < 2
    · simp -implicitDefEqProofs (maxSteps := 3000000) [c1, e, h1, dcode_2 (M := M) (k := k) (fun z => by omega)]
    · by_cases h2 : M ≤ k
      · have : ¬ (2 ≤ k ∧ k ≤ M.tdiv 2 ∧ M.tmod k = 0) := fun z => by
          have := (half hM.1 z.1 z.2.2).2 z.2.1
          omega
        simp -implicitDefEqProofs (maxSteps := 3000000) [c1, e, h1, h2, dcode_2 this]
      · have kz : k ≠ 0 := by omega
        by_cases h3 : M.tmod k = 0
        · have : 2 ≤ k ∧ k ≤ M.tdiv 2 ∧ M.tmod k = 0 := ⟨by omega, (half hM.1 (by omega) h3).1 (by omega), h3⟩
          simp -implicitDefEqProofs (maxSteps := 3000000) [c1, e, h1, h2, kz, h3, dcode_0 this]
        · have h4 := bne_t h3
          simp -implicitDefEqProofs (maxSteps := 3000000) [c1, e, h1, h2, kz, h3, h4, dcode_2 (fun z => h3 z.2.2)]
  · have e : icode T M U k = 1 := if_neg p
    rw [show mcode T M U = 1 from if_neg p] at c1
    simp -implicitDefEqProofs (maxSteps := 3000000) [c1, e]
theorem ct_implReduce_bad (n : Nat) (hn : B + 7 ≤ n) (T : List (List Int)) (hT : T.length ≤ 2000000) (hr : ∀ i, (rown T i).length ≤ 1000000000000) (M : Int) (U : List Int) (hU : U.length ≤ 2000000) (k D : Int) (V : List Int) (hV : V.length ≤ 10000000) (h : ¬ RGood T M U k D V) :
    evalCall Tryz.prog An n 31 [.agg [.d (intss T)], .agg [.d (.int .i64 M), .d (ints U)], .d (.int .i64 k), .agg [.d (.int .i64 D), .d (ints V)]] [] = some ⟨.tuple [.agg [.d (.int .i64 0), .d .nil], .d (.int .i64 (rcode T M U k D V))], [], []⟩ := by
  obtain ⟨m, rfl⟩ : ∃ m, n = m + 1 := ⟨n - 1, by omega⟩
  have hB := B_eq
  simp only [evalCall_at, fb31, bnd_some, bodyOf, Tryz.f31, Option.getD_some]
  have c1 := ct_divisorCode m (by omega) T hT hr M U hU k
  by_cases G : GM T M U
  · rw [show icode T M U k = dcode M k from if_pos G] at c1
    by_cases d : dcode M k = 0
    · have c2 := ct_isCochain m (by omega) T G.1.1.1 M U D V hV
      have hc : ¬ IsCo T M D V := fun z => h ⟨⟨G, by
          by_cases y : 2 ≤ k ∧ k ≤ M.tdiv 2 ∧ M.tmod k = 0
          · exact y
          · rw [dcode_2 y] at d; omega⟩, z⟩
      rw [bl_false hc] at c2
      have e : ccode T M U D V = 1 := if_neg hc
      have e2 : rcode T M U k D V = 1 := by rw [rcode, if_pos G, if_pos d, e]
      simp -implicitDefEqProofs (maxSteps := 3000000) [c1, d, c2, e2]
    · have e : rcode T M U k D V = dcode M k := by rw [rcode, if_pos G, if_neg d]
      have d2 := bne_t d
      simp -implicitDefEqProofs (maxSteps := 3000000) [c1, d, d2, e]
  · have e : rcode T M U k D V = 1 := by rw [rcode, if_neg G]
    rw [show icode T M U k = 1 from if_neg G] at c1
    simp -implicitDefEqProofs (maxSteps := 3000000) [c1, e]
theorem ct_implReduce (n : Nat) (hn : B + 7 + 1 ≤ n) (T : List (List Int)) (hT : T.length ≤ 2000000) (hr : ∀ i, (rown T i).length ≤ 1000000000000) (M : Int) (U : List Int) (hU : U.length ≤ 2000000) (k D : Int) (V : List Int) (hV : V.length ≤ 10000000) (h : RGood T M U k D V) :
    evalCall Tryz.prog An n 31 [.agg [.d (intss T)], .agg [.d (.int .i64 M), .d (ints U)], .d (.int .i64 k), .agg [.d (.int .i64 D), .d (ints V)]] [] = some ⟨.tuple [.agg [.d (.int .i64 D), .own 0 0], .d (.int .i64 0)], [.row (icells (restU V (M.tdiv k)))], []⟩ := by
  obtain ⟨m, rfl⟩ : ∃ m, n = m + 1 := ⟨n - 1, by omega⟩
  have hB := B_eq
  simp only [evalCall_at, fb31, bnd_some, bodyOf, Tryz.f31, Option.getD_some]
  obtain ⟨⟨G, hk⟩, hC⟩ := h
  have hM := G.2.1.1
  have c1 := ct_divisorCode m (by omega) T hT hr M U hU k
  rw [show icode T M U k = dcode M k from if_pos G, dcode_0 hk] at c1
  have c2 := ct_isCochain m (by omega) T G.1.1.1 M U D V hV
  rw [bl_true hC] at c2
  have e3 : M.tdiv k = M / k := Int.tdiv_eq_ediv_of_nonneg (by omega)
  have hq : 0 < M.tdiv k := by
    rw [e3]
    exact Int.ediv_pos_of_pos_of_dvd (by omega) (by omega) (Int.dvd_of_tmod_eq_zero hk.2.2)
  have hq2 : M.tdiv k ≤ M := by rw [e3]; exact Int.ediv_le_self k (by omega)
  have w := wrap_id (n := M.tdiv k) (by omega)
  have kz : k ≠ 0 := by omega
  have c3 := ct_rests m (by omega) D V hV (fun i hi => (hC.2.2 i hi).1) (M.tdiv k) hq
  simp -implicitDefEqProofs (maxSteps := 3000000) [c1, c2, c3, w, kz]
end Go.Proofs.YtnfhglplafmfiaaGreatE
