/- Contracts of functions of the program and of the reference: what the evaluator gives for a call of each. -/
import Derived.Test.YtnfhglplafmfiaaGreatAEf
import Derived.Test.YtnfhglplafmfiaaGreatK1M
import Derived.Test.YtnfhglplafmfiaaGreatK3M
namespace Go.Proofs.YtnfhglplafmfiaaGreatE
open Go Go.Proofs
set_option maxHeartbeats 2000000
set_option linter.unusedSimpArgs false
set_option linter.unusedVariables false
set_option pp.deepTerms false
set_option pp.deepTerms.threshold 10
/-! ## modules -/
def gcdI (a b : Int) : Int := ((Nat.gcd a.toNat b.toNat : Nat) : Int)
theorem gcdI_zero {a : Int} (h : 0 ≤ a) : gcdI a 0 = a := by unfold gcdI; simp; omega
theorem gcdI_comm (a b : Int) : gcdI a b = gcdI b a := by unfold gcdI; rw [Nat.gcd_comm]
theorem gcdI_nonneg (a b : Int) : 0 ≤ gcdI a b := by unfold gcdI; omega
theorem gcdI_le_left {a : Int} (b : Int) (h : 0 < a) : gcdI a b ≤ a := by
  unfold gcdI
  have := Nat.gcd_le_left (m := a.toNat) b.toNat (by omega)
  omega
theorem gcdI_pos {a : Int} (b : Int) (h : 0 < a) : 0 < gcdI a b := by
  unfold gcdI
  have := Nat.gcd_pos_of_pos_left (m := a.toNat) b.toNat (by omega)
  omega
theorem gcdI_step {a b : Int} (ha : 0 ≤ a) (hb : 0 < b) : gcdI b (a % b) = gcdI a b := by
  obtain ⟨a, rfl⟩ := Int.eq_ofNat_of_zero_le ha
  obtain ⟨b, rfl⟩ := Int.eq_ofNat_of_zero_le (Int.le_of_lt hb)
  unfold gcdI
  rw [← Int.natCast_emod, Int.toNat_natCast, Int.toNat_natCast, Int.toNat_natCast]
  rw [Nat.gcd_comm b, ← Nat.gcd_rec, Nat.gcd_comm]
theorem mul_bd {a b x y : Int} (a0 : 0 ≤ a) (ax : a ≤ x) (b0 : 0 ≤ b) (bx : b ≤ y) : 0 ≤ a * b ∧ a * b ≤ x * y :=
  ⟨Int.mul_nonneg a0 b0, Int.mul_le_mul ax bx b0 (by omega)⟩
theorem tmod_nn {a : Int} (b : Int) (h : 0 ≤ a) : a.tmod b = a % b := Int.tmod_eq_emod_of_nonneg h
theorem ct_l01Gcd (n : Nat) (hn : B + 1 ≤ n) (a b : Int) (ha : 0 ≤ a ∧ a < 1000000000000) (hb : 0 ≤ b ∧ b < 1000000000000) :
    evalCall Tryz.prog An n 213 [.d (.int .i64 a), .d (.int .i64 b)] [] = some ⟨.d (.int .i64 (gcdI a b)), [], []⟩ := by
  obtain ⟨m, rfl⟩ : ∃ m, n = m + 1 := ⟨n - 1, by omega⟩
  have hB := B_eq
  simp only [evalCall_at, fb213, bnd_some, bodyOf, Tryz.f213, Option.getD_some]
  generalize hb0 : Code.loop _ = cc0
  obtain rfl : cc0 = .loop (lp Tryz.f213 0) := by rw [← hb0]; rfl
  clear hb0
  simp -implicitDefEqProofs (maxSteps := 3000000)
  generalize hx : loopC _ _ _ = x
  generalize hl : lp Tryz.f213 0 = L at hx
  simp only [lp, bodyOf, Tryz.f213, Option.getD_some, loopsIn, List.append_nil, List.nil_append, List.cons_append, List.getD, List.getElem?_cons_zero, List.getElem?_cons_succ] at hl
  subst hl
  obtain ⟨q, rfl, hq⟩ := loop_end hx b.toNat (fun i s => ∃ a' b' g, s = ⟨[(0, .d (.int .i64 a')), (1, .d (.int .i64 b'))], [], g⟩ ∧ 0 ≤ a' ∧ 0 ≤ b' ∧ b'.toNat + i ≤ b.toNat ∧ a' < 1000000000000 ∧ gcdI a' b' = gcdI a b)
    (fun q => ∃ s, q = (.exit 0, s) ∧ lookL s.env 0 = some (.d (.int .i64 (gcdI a b))) ∧ gcdI a b < 1000000000000) (by show b.toNat < m; omega) ⟨a, b, 1 + 1, by simp, ha.1, hb.1, by omega, ha.2, rfl⟩
    (by
      rintro i s hi ⟨a', b', g, rfl, h1, h2, h3, h4, h5⟩
      by_cases z : b' = 0
      · subst z
        rw [gcdI_zero h1] at h5
        simp -implicitDefEqProofs (maxSteps := 3000000) [h5]
        omega
      · have z2 := bne_t z
        have z3 : (b' != 0) = true := z2
        have m1 := Int.emod_lt_of_pos a' (show 0 < b' by omega)
        have m2 := Int.emod_nonneg a' z
        simp -implicitDefEqProofs (maxSteps := 3000000) [z, z3, tmod_nn b' h1]
        exact ⟨_, _, ⟨rfl, rfl⟩, h2, m2, by omega, by omega, by rw [gcdI_step h1 (by omega), h5]⟩)
    (by
      rintro s ⟨a', b', g, rfl, h1, h2, h3, h4, h5⟩
      obtain rfl : b' = 0 := by omega
      rw [gcdI_zero h1] at h5
      simp -implicitDefEqProofs (maxSteps := 3000000) [h5]
      omega)
  obtain ⟨s, rfl, h1, h2⟩ := hq
  have h3 := gcdI_nonneg a b
  have w := wrap_id (n := 0 - gcdI a b) (by omega)
  have w2 := wrap_id (n := - gcdI a b) (by omega)
  have h4 : ¬ (gcdI a b < - gcdI a b) := by omega
  simp -implicitDefEqProofs (maxSteps := 3000000) [h1, w, w2, h4]
def Unit1 (M u : Int) : Prop := (1 ≤ u ∧ u ≤ M - 1) ∧ gcdI u M = 1
def Act1 (T : List (List Int)) (M : Int) (U : List Int) (a : Nat) : Prop := ∀ b < U.length, rn U (cl T a b).toNat = rn U a * rn U b % M
def IsMo (T : List (List Int)) (M : Int) (U : List Int) : Prop := ((2 ≤ M ∧ M ≤ 12) ∧ U.length = T.length) ∧ (∀ i < U.length, Unit1 M (rn U i)) ∧ ∀ a < U.length, Act1 T M U a
@[simp] def mfacts (T : List (List Int)) (M : Int) (U : List Int) (s : St) : Prop := obsL s.obs 32 = some (1, .box [.d (intss T)]) ∧ obsL s.obs 48 = some (2, .box [.d (.int .i64 M), .d (ints U)]) ∧ lookL s.env 2 = some (.ptr 32 1 0) ∧ lookL s.env 3 = some (.ptr 48 2 0)
theorem lp_l02Is_0 (m : Nat) (hm : B + 1 ≤ m) (T : List (List Int)) (M : Int) (U : List Int) (hM : 2 ≤ M ∧ M ≤ 12) (hU : U.length ≤ 2000000)
    {st : St} {x : Option (Ex × St)} (hx : loopC (cxAt 144 m) (lp Tryz.f144 0) st = x) (f : mfacts T M U st) (f5 : lookL st.env 5 = some (.d (.int .i64 0))) :
    ((∀ i < U.length, Unit1 M (rn U i)) ∧ ∃ s, x = some (.exit 0, s) ∧ mfacts T M U s) ∨ ((∃ i < U.length, ¬ Unit1 M (rn U i)) ∧ ∃ s, x = some (.ret, s) ∧ lookL s.env 4 = some (.d (.bool false))) := by
  have hB := B_eq
  obtain ⟨f1, f2, f3, f4⟩ := f
  have w := wrap_id (n := M - 1) (by omega)
  generalize hl : lp Tryz.f144 0 = L at hx
  simp only [lp, bodyOf, Tryz.f144, Option.getD_some, loopsIn, List.append_nil, List.nil_append, List.cons_append, List.getD, List.getElem?_cons_zero, List.getElem?_cons_succ] at hl
  subst hl
  refine loop_chk hx U.length 0 (fun i => Unit1 M (rn U i))
    (fun i g => ⟨[(2, .ptr 32 1 0), (3, .ptr 48 2 0), (5, .d (.int .i64 i))], [(32, some (1, .box [.d (intss T)])), (48, some (2, .box [.d (.int .i64 M), .d (ints U)]))], g⟩) _ _
    (by show U.length < m; omega) (by simp -implicitDefEqProofs (maxSteps := 3000000) [f1, f2, f3, f4, f5])
    (by
      rintro i g hi hp
      have w2 := wrap_id (n := (i : Int) + 1) (by omega)
      by_cases p : 1 ≤ rn U i ∧ rn U i ≤ M - 1
      · have c2 := ct_l01In_t m (by omega) (rn U i) 1 (M - 1) p
        have c3 := ct_l01Gcd m (by omega) (rn U i) M (by omega) (by omega)
        by_cases p2 : gcdI (rn U i) M = 1
        · simp -implicitDefEqProofs (maxSteps := 3000000) [hi, w, w2, c2, c3, p, p2, Unit1]
        · have p3 := bne_t p2
          simp -implicitDefEqProofs (maxSteps := 3000000) [hi, w, w2, c2, c3, p, p2, p3, Unit1]
      · have c2 := ct_l01In_f m (by omega) (rn U i) 1 (M - 1) p
        simp -implicitDefEqProofs (maxSteps := 3000000) [hi, w, w2, c2, Unit1]
        omega)
    (by
      rintro g
      simp -implicitDefEqProofs (maxSteps := 3000000))
theorem lp_l02Is_2 (m : Nat) (hm : B + 1 ≤ m) (T : List (List Int)) (R : RowsOk T) (M : Int) (U : List Int) (hM : 2 ≤ M ∧ M ≤ 12) (hU : U.length = T.length) (hu : ∀ i < U.length, Unit1 M (rn U i)) (a : Nat) (ha : a < U.length)
    {st : St} {x : Option (Ex × St)} (hx : loopC (cxAt 144 m) (lp Tryz.f144 2) st = x) (f : mfacts T M U st) (f6 : lookL st.env 6 = some (.d (.int .i64 a))) (f7 : lookL st.env 7 = some (.d (.int .i64 0))) :
    (Act1 T M U a ∧ ∃ s, x = some (.exit 4, s) ∧ mfacts T M U s ∧ lookL s.env 6 = some (.d (.int .i64 a))) ∨ (¬ Act1 T M U a ∧ ∃ s, x = some (.ret, s) ∧ lookL s.env 4 = some (.d (.bool false))) := by
  have hB := B_eq
  obtain ⟨f1, f2, f3, f4⟩ := f
  have ha' : a < T.length := by omega
  have ra := (R.2 a ha').1
  have hn := R.1
  generalize hl : lp Tryz.f144 2 = L at hx
  simp only [lp, bodyOf, Tryz.f144, Option.getD_some, loopsIn, List.append_nil, List.nil_append, List.cons_append, List.getD, List.getElem?_cons_zero, List.getElem?_cons_succ] at hl
  subst hl
  rcases loop_chk hx U.length 4 (fun b => rn U (cl T a b).toNat = rn U a * rn U b % M)
    (fun b g => ⟨[(2, .ptr 32 1 0), (3, .ptr 48 2 0), (6, .d (.int .i64 a)), (7, .d (.int .i64 b))], [(32, some (1, .box [.d (intss T)])), (48, some (2, .box [.d (.int .i64 M), .d (ints U)]))], g⟩)
    (fun s => mfacts T M U s ∧ lookL s.env 6 = some (.d (.int .i64 a))) (fun s => lookL s.env 4 = some (.d (.bool false)))
    (by show U.length < m; omega) (by simp -implicitDefEqProofs (maxSteps := 3000000) [f1, f2, f3, f4, f6, f7])
    (by
      rintro b g hb hp
      have w2 := wrap_id (n := (b : Int) + 1) (by omega)
      have hb' : b < T.length := by omega
      have gab := (R.2 a ha').2 b hb'
      have gab' : (cl T a b).toNat < U.length := by omega
      have ua := (hu a ha).1
      have ub := (hu b hb).1
      have bd := mul_bd (a := rn U a) (b := rn U b) (x := 11) (y := 11) (by omega) (by omega) (by omega) (by omega)
      have w3 := wrap_id (n := rn U a * rn U b) (by omega)
      have tm := tmod_nn M bd.1
      have hz : M ≠ 0 := by omega
      by_cases p : rn U (cl T a b).toNat = rn U a * rn U b % M
      · simp -implicitDefEqProofs (maxSteps := 3000000) [ha, ha', hb, hb', ra, gab.1, gab', w2, w3, tm, hz, p]
      · have p2 := bne_t p
        simp -implicitDefEqProofs (maxSteps := 3000000) [ha, ha', hb, hb', ra, gab.1, gab', w2, w3, tm, hz, p, p2])
    (by
      rintro g
      simp -implicitDefEqProofs (maxSteps := 3000000)) with ⟨h1, h2⟩ | ⟨⟨b, hb, h1⟩, h2⟩
  · exact .inl ⟨h1, h2⟩
  · exact .inr ⟨fun z => h1 (z b hb), h2⟩
theorem lp_l02Is_1 (m : Nat) (hm : B + 1 ≤ m) (T : List (List Int)) (R : RowsOk T) (M : Int) (U : List Int) (hM : 2 ≤ M ∧ M ≤ 12) (hU : U.length = T.length) (hu : ∀ i < U.length, Unit1 M (rn U i))
    {st : St} {x : Option (Ex × St)} (hx : loopC (cxAt 144 m) (lp Tryz.f144 1) st = x) (f : mfacts T M U st) (f6 : lookL st.env 6 = some (.d (.int .i64 0))) :
    ((∀ a < U.length, Act1 T M U a) ∧ ∃ s, x = some (.exit 2, s) ∧ True) ∨ ((∃ a < U.length, ¬ Act1 T M U a) ∧ ∃ s, x = some (.ret, s) ∧ lookL s.env 4 = some (.d (.bool false))) := by
  have hB := B_eq
  obtain ⟨f1, f2, f3, f4⟩ := f
  have hn := R.1
  generalize hl : lp Tryz.f144 1 = L at hx
  simp only [lp, bodyOf, Tryz.f144, Option.getD_some, loopsIn, List.append_nil, List.nil_append, List.cons_append, List.getD, List.getElem?_cons_zero, List.getElem?_cons_succ] at hl
  subst hl
  generalize hb2 : Code.loop _ = cc2 at hx
  obtain rfl : cc2 = .loop (lp Tryz.f144 2) := by rw [← hb2]; rfl
  clear hb2
  refine loop_chk hx U.length 2 (Act1 T M U)
    (fun a g => ⟨[(2, .ptr 32 1 0), (3, .ptr 48 2 0), (6, .d (.int .i64 a))], [(32, some (1, .box [.d (intss T)])), (48, some (2, .box [.d (.int .i64 M), .d (ints U)]))], g⟩) _ _
    (by show U.length < m; omega) (by simp -implicitDefEqProofs (maxSteps := 3000000) [f1, f2, f3, f4, f6])
    (by
      rintro a g ha hp
      have w2 := wrap_id (n := (a : Int) + 1) (by omega)
      simp -implicitDefEqProofs (maxSteps := 3000000) [ha]
      generalize hy : loopC _ _ _ = y
      rcases lp_l02Is_2 m hm T R M U hM hU hu a ha hy (by simp -implicitDefEqProofs (maxSteps := 3000000)) (by simp -implicitDefEqProofs (maxSteps := 3000000)) (by simp -implicitDefEqProofs (maxSteps := 3000000)) with ⟨h1, s, rfl, ⟨h2, h3, h4, h5⟩, h6⟩ | ⟨h1, s, rfl, h2⟩
      · simp -implicitDefEqProofs (maxSteps := 3000000) [h2, h3, h4, h5, h6, w2]
        exact h1
      · simp -implicitDefEqProofs (maxSteps := 3000000) [h2]
        exact h1)
    (by
      rintro g
      simp -implicitDefEqProofs (maxSteps := 3000000))
theorem ct_l02Is (n : Nat) (hn : B + 2 ≤ n) (T : List (List Int)) (R : RowsOk T) (M : Int) (U : List Int) (hU : U.length ≤ 2000000) :
    evalCall Tryz.prog An n 144 [.agg [.d (intss T)], .agg [.d (.int .i64 M), .d (ints U)]] [] = some ⟨.d (.bool (bl (IsMo T M U))), [], []⟩ := by
  obtain ⟨m, rfl⟩ : ∃ m, n = m + 1 := ⟨n - 1, by omega⟩
  have hB := B_eq
  simp only [evalCall_at, fb144, bnd_some, bodyOf, Tryz.f144, Option.getD_some]
  generalize hb0 : Code.loop _ = cc0
  generalize hb1 : Code.loop _ = cc1
  obtain rfl : cc0 = .loop (lp Tryz.f144 0) := by rw [← hb0]; rfl
  clear hb0
  obtain rfl : cc1 = .loop (lp Tryz.f144 1) := by rw [← hb1]; rfl
  clear hb1
  by_cases hM : 2 ≤ M ∧ M ≤ 12
  · have c1 := ct_l01In_t m (by omega) M 2 12 hM
    by_cases hL : U.length = T.length
    · simp -implicitDefEqProofs (maxSteps := 3000000) [c1, hL]
      generalize hx : loopC _ _ _ = x
      rcases lp_l02Is_0 m (by omega) T M U hM hU hx (by simp -implicitDefEqProofs (maxSteps := 3000000)) (by simp -implicitDefEqProofs (maxSteps := 3000000)) with ⟨h1, s, rfl, h2, h3, h4, h5⟩ | ⟨⟨i, hi, h1⟩, s, rfl, h2⟩
      · simp -implicitDefEqProofs (maxSteps := 3000000) [h2, h3, h4, h5]
        generalize hx2 : loopC _ _ _ = x2
        rcases lp_l02Is_1 m (by omega) T R M U hM hL h1 hx2 (by simp -implicitDefEqProofs (maxSteps := 3000000) [h2, h3, h4, h5]) (by simp -implicitDefEqProofs (maxSteps := 3000000)) with ⟨k1, s2, rfl, _⟩ | ⟨⟨i, hi, k1⟩, s2, rfl, k2⟩
        · simp -implicitDefEqProofs (maxSteps := 3000000) [bl_true (show IsMo T M U from ⟨⟨hM, hL⟩, h1, k1⟩)]
        · simp -implicitDefEqProofs (maxSteps := 3000000) [k2, bl_false (show ¬ IsMo T M U from fun z => k1 (z.2.2 i hi))]
      · simp -implicitDefEqProofs (maxSteps := 3000000) [h2, bl_false (show ¬ IsMo T M U from fun z => h1 (z.2.1 i hi))]
    · have e2 : ((U.length : Int) != T.length) = true := bne_t (by omega)
      simp -implicitDefEqProofs (maxSteps := 3000000) [c1, e2, bl_false (show ¬ IsMo T M U from fun z => hL z.1.2)]
  · have c1 := ct_l01In_f m (by omega) M 2 12 hM
    simp -implicitDefEqProofs (maxSteps := 3000000) [c1, bl_false (show ¬ IsMo T M U from fun z => hM z.1.1)]
end Go.Proofs.YtnfhglplafmfiaaGreatE
