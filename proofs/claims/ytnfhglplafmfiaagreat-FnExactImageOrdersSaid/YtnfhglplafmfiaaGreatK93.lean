/- Contracts of functions of the program and of the reference: what the evaluator gives for a call of each. -/
import Derived.Test.YtnfhglplafmfiaaGreatAEf
import Derived.Test.YtnfhglplafmfiaaGreatK1M
import Derived.Test.YtnfhglplafmfiaaGreatK4
import Derived.Test.YtnfhglplafmfiaaGreatK8M
import Derived.Test.YtnfhglplafmfiaaGreatK64
import Derived.Test.YtnfhglplafmfiaaGreatK92
namespace Go.Proofs.YtnfhglplafmfiaaGreatE
open Go Go.Proofs
set_option maxHeartbeats 16000000
set_option maxRecDepth 8000
set_option linter.unusedSimpArgs false
set_option linter.unusedVariables false
set_option pp.deepTerms false
set_option pp.deepTerms.threshold 10
/-! ## rows are put to spans -/
/-- A loop in which a number falls. -/
theorem loop_dec {cx : Cx} {a : Code} {st : St} {x : Option (Ex × St)} (hx : loopC cx a st = x) (H : Nat → St → Prop) (Q : Ex × St → Prop) (k0 : Nat)
    (hn : k0 < cx.rounds) (h0 : H k0 (restrict (lookL cx.ann.keep (firstId a)) st))
    (step : ∀ k s, H k s → PostX (evalCode cx a s) (stepG (fun s' => ∃ k' < k, H k' (restrict (lookL cx.ann.keep (firstId a)) s')) Q)) : ∃ q, x = some q ∧ Q q := by
  subst hx
  have key : ∀ n k s, k < n → H k (restrict (lookL cx.ann.keep (firstId a)) s) → ∃ q, iter (evalCode cx a) (restrict (lookL cx.ann.keep (firstId a))) n s = some q ∧ Q q := by
    intro n
    induction n with
    | zero => intro k s h; omega
    | succ n ih =>
      intro k s hk h
      obtain ⟨⟨e, s'⟩, h1, h2⟩ := step k _ h
      simp only [iter, h1, bnd_some]
      cases e with
      | normal =>
        obtain ⟨k', h3, h4⟩ := h2
        exact ih k' s' (by omega) h4
      | exit j => exact ⟨_, rfl, h2⟩
      | ret => exact ⟨_, rfl, h2⟩
  exact key cx.rounds k0 st hn h0
def dOf (a b M : Int) : Int := gcdI (gcdI a b) M
theorem bez3 {a b M : Int} (ha : 0 ≤ a) (hb : 0 ≤ b) (hM : 0 < M) : ∃ x y : Int, (0 ≤ x ∧ x < M) ∧ (0 ≤ y ∧ y < M) ∧ M ∣ x * a + y * b - dOf a b M := by
  obtain ⟨x0, y0, e0⟩ := bez ha hb
  have hg : 0 ≤ gcdI a b := Int.natCast_nonneg _
  obtain ⟨x1, y1, e1⟩ := bez hg (show 0 ≤ M by omega)
  refine ⟨(x0 * x1) % M, (y0 * x1) % M, ⟨Int.emod_nonneg _ (by omega), Int.emod_lt_of_pos _ hM⟩, ⟨Int.emod_nonneg _ (by omega), Int.emod_lt_of_pos _ hM⟩, ?_⟩
  have h1 := Int.emod_add_mul_ediv (x0 * x1) M
  have h2 := Int.emod_add_mul_ediv (y0 * x1) M
  generalize (x0 * x1) % M = p at *
  generalize (y0 * x1) % M = q at *
  generalize (x0 * x1) / M = s at *
  generalize (y0 * x1) / M = t at *
  unfold dOf
  rw [← e1, ← e0]
  refine ⟨-(s * a) - t * b - y1, ?_⟩
  have e3 : p = x0 * x1 - M * s := by omega
  have e4 : q = y0 * x1 - M * t := by omega
  rw [e3, e4]
  grind
theorem lp_bez_1 (m : Nat) (hm : B + 1 ≤ m) (M : Int) (hM : 1 ≤ M ∧ M ≤ 200) (X : YtnfhglplafmfiaaGreatE.D) (a b d : Int) (ha : 0 ≤ a ∧ a ≤ 200) (hb : 0 ≤ b ∧ b ≤ 200) (hd : 0 ≤ d ∧ d ≤ 200) (x : Nat) (hx2 : (x : Int) < M)
    {st : St} {o : Option (Ex × St)} (hx : loopC (cxAt 222 m) (lp Tryz.f222 1) st = o)
    (f : lookL st.env 0 = some (.d (.cellp [.int .i64 M, X])) ∧ lookL st.env 1 = some (.d (.int .i64 a)) ∧ lookL st.env 2 = some (.d (.int .i64 b)) ∧ lookL st.env 9 = some (.d (.int .i64 d)) ∧ lookL st.env 10 = some (.d (.int .i64 x)) ∧ lookL st.env 23 = some (.d (.int .i64 M)) ∧ lookL st.env 24 = some (.d (.int .i64 x)) ∧ lookL st.env 30 = some (.d (.int .i64 M)) ∧ lookL st.env 31 = some (.d (.int .i64 0))) :
    ∃ s, (o = some (.exit 2, s) ∧ (∀ y : Nat, (y : Int) < M → ¬ M ∣ x * a + y * b - d) ∧ lookL s.env 0 = some (.d (.cellp [.int .i64 M, X])) ∧ lookL s.env 1 = some (.d (.int .i64 a)) ∧ lookL s.env 2 = some (.d (.int .i64 b)) ∧ lookL s.env 9 = some (.d (.int .i64 d)) ∧ lookL s.env 10 = some (.d (.int .i64 x)) ∧ lookL s.env 23 = some (.d (.int .i64 M)) ∧ lookL s.env 24 = some (.d (.int .i64 x))) ∨
      (o = some (.ret, s) ∧ ∃ y : Nat, (y : Int) < M ∧ M ∣ x * a + y * b - d ∧ lookL s.env 6 = some (.d (.int .i64 x)) ∧ lookL s.env 7 = some (.d (.int .i64 y)) ∧ lookL s.env 8 = some (.d (.int .i64 d))) := by
  have hB := B_eq
  have hM0 : M ≠ 0 := by omega
  obtain ⟨K, hK⟩ : ∃ K : Nat, M = (K : Int) := ⟨M.toNat, by omega⟩
  generalize hl : lp Tryz.f222 1 = L at hx
  simp only [lp, bodyOf, Tryz.f222, Option.getD_some, loopsIn, List.append_nil, List.nil_append, List.cons_append, List.getD, List.getElem?_cons_zero, List.getElem?_cons_succ] at hl
  subst hl
  obtain ⟨qq, rfl, hqq⟩ := loop_end hx K (fun y s => (∀ y' < y, ¬ M ∣ x * a + (y' : Nat) * b - d) ∧ ∃ g, s = ⟨[(0, .d (.cellp [.int .i64 M, X])), (1, .d (.int .i64 a)), (2, .d (.int .i64 b)), (9, .d (.int .i64 d)), (10, .d (.int .i64 x)), (23, .d (.int .i64 M)), (24, .d (.int .i64 x)), (30, .d (.int .i64 M)), (31, .d (.int .i64 y))], [], g⟩)
    (fun qq => ∃ s, (qq = (.exit 2, s) ∧ (∀ y : Nat, (y : Int) < M → ¬ M ∣ x * a + y * b - d) ∧ lookL s.env 0 = some (.d (.cellp [.int .i64 M, X])) ∧ lookL s.env 1 = some (.d (.int .i64 a)) ∧ lookL s.env 2 = some (.d (.int .i64 b)) ∧ lookL s.env 9 = some (.d (.int .i64 d)) ∧ lookL s.env 10 = some (.d (.int .i64 x)) ∧ lookL s.env 23 = some (.d (.int .i64 M)) ∧ lookL s.env 24 = some (.d (.int .i64 x))) ∨
      (qq = (.ret, s) ∧ ∃ y : Nat, (y : Int) < M ∧ M ∣ x * a + y * b - d ∧ lookL s.env 6 = some (.d (.int .i64 x)) ∧ lookL s.env 7 = some (.d (.int .i64 y)) ∧ lookL s.env 8 = some (.d (.int .i64 d))))
    (by show K < m; omega) ⟨fun y hy => by omega, by simp -implicitDefEqProofs (maxSteps := 3000000) [f]⟩
    (by
      rintro y s hy ⟨hp, g, rfl⟩
      have hy2 : (y : Int) < M := by omega
      have w1 := wrap_id (n := (y : Int) + 1) (by omega)
      have m1 := mul_sm2 (x := (x : Int)) (n := a) (by omega) ha
      have m2 := mul_sm2 (x := (y : Int)) (n := b) (by omega) hb
      have w2 := wrap_id (n := (x : Int) * a) (by omega)
      have w3 := wrap_id (n := (y : Int) * b) (by omega)
      have w4 := wrap_id (n := (x : Int) * a + y * b) (by omega)
      have w5 := wrap_id (n := (x : Int) * a + y * b - d) (by omega)
      by_cases h : M ∣ x * a + y * b - d
      · have e := Int.tmod_eq_zero_of_dvd h
        simp -implicitDefEqProofs (maxSteps := 3000000) [hy2, w2, w3, w4, w5, e, hM0]
        exact ⟨y, by omega, h, rfl⟩
      · have e : ¬ ((x : Int) * a + y * b - d).tmod M = 0 := fun z => h (Int.dvd_of_tmod_eq_zero z)
        have e2 : (((x : Int) * a + y * b - d).tmod M == 0) = false := by simpa using e
        simp -implicitDefEqProofs (maxSteps := 3000000) [hy2, w1, w2, w3, w4, w5, e2, hM0]
        intro y' hy'
        rcases Nat.lt_or_ge y' y with z | z
        · exact hp y' z
        · obtain rfl : y' = y := by omega
          exact h)
    (by
      rintro s ⟨hp, g, rfl⟩
      have hn : ¬ ((K : Int) < M) := by omega
      simp -implicitDefEqProofs (maxSteps := 3000000) [hn]
      intro y hy
      exact hp y (by omega))
  obtain ⟨s, h | h⟩ := hqq
  · obtain ⟨rfl, h⟩ := h
    exact ⟨s, .inl ⟨rfl, h⟩⟩
  · obtain ⟨rfl, h⟩ := h
    exact ⟨s, .inr ⟨rfl, h⟩⟩
theorem ct_bezout (n : Nat) (hn : B + 1 + 3 ≤ n) (M : Int) (hM : 1 ≤ M ∧ M ≤ 200) (X : YtnfhglplafmfiaaGreatE.D) (a b : Int) (ha : 0 ≤ a ∧ a ≤ 200) (hb : 0 ≤ b ∧ b ≤ 200) (hd : 0 ≤ dOf a b M ∧ dOf a b M ≤ 200) :
    ∃ x y : Int, (0 ≤ x ∧ x < M) ∧ (0 ≤ y ∧ y < M) ∧ M ∣ x * a + y * b - dOf a b M ∧
      evalCall Tryz.prog An n 222 [.d (.cellp [.int .i64 M, X]), .d (.int .i64 a), .d (.int .i64 b)] [] = some ⟨.tuple [.d (.int .i64 x), .d (.int .i64 y), .d (.int .i64 (dOf a b M))], [], []⟩ := by
  obtain ⟨m, rfl⟩ : ∃ m, n = m + 1 := ⟨n - 1, by omega⟩
  have hB := B_eq
  simp only [evalCall_at, fb222, bnd_some, bodyOf, Tryz.f222, Option.getD_some]
  generalize hb0 : Code.loop _ = cc0
  obtain rfl : cc0 = .loop (lp Tryz.f222 0) := by rw [← hb0]; rfl
  clear hb0
  have c1 := ct_gcd m (by omega) a b ha.1 ⟨hb.1, by omega⟩
  have hg : 0 ≤ gcdI a b := Int.natCast_nonneg _
  have c2 := ct_gcd m (by omega) (gcdI a b) M hg ⟨by omega, by omega⟩
  rw [show gcdI (gcdI a b) M = dOf a b M from rfl] at c2
  obtain ⟨x0, y0, hx0, hy0, hdv⟩ := bez3 ha.1 hb.1 (show 0 < M by omega)
  generalize dOf a b M = d at *
  generalize gcdI a b = e at *
  obtain ⟨K, hK⟩ : ∃ K : Nat, M = (K : Int) := ⟨M.toNat, by omega⟩
  simp -implicitDefEqProofs (maxSteps := 3000000) [c1, c2]
  generalize hx : loopC _ _ _ = z
  generalize hl : lp Tryz.f222 0 = L at hx
  simp only [lp, bodyOf, Tryz.f222, Option.getD_some, loopsIn, List.append_nil, List.nil_append, List.cons_append, List.getD, List.getElem?_cons_zero, List.getElem?_cons_succ] at hl
  subst hl
  generalize hb1 : Code.loop _ = cc1 at hx
  obtain rfl : cc1 = .loop (lp Tryz.f222 1) := by rw [← hb1]; rfl
  clear hb1
  obtain ⟨qq, rfl, hqq⟩ := loop_end hx K (fun x s => (∀ x' < x, ∀ y : Nat, (y : Int) < M → ¬ M ∣ (x' : Nat) * a + y * b - d) ∧ ∃ g, s = ⟨[(0, .d (.cellp [.int .i64 M, X])), (1, .d (.int .i64 a)), (2, .d (.int .i64 b)), (9, .d (.int .i64 d)), (23, .d (.int .i64 M)), (24, .d (.int .i64 x))], [], g⟩)
    (fun qq => ∃ s, (qq = (.exit 0, s) ∧ ∀ x' < K, ∀ y : Nat, (y : Int) < M → ¬ M ∣ (x' : Nat) * a + y * b - d) ∨ (qq = (.ret, s) ∧ ∃ x y : Nat, (x : Int) < M ∧ (y : Int) < M ∧ M ∣ x * a + y * b - d ∧ lookL s.env 6 = some (.d (.int .i64 x)) ∧ lookL s.env 7 = some (.d (.int .i64 y)) ∧ lookL s.env 8 = some (.d (.int .i64 d))))
    (by show K < m; omega) ⟨fun y hy => by omega, by simp⟩
    (by
      rintro x s hx3 ⟨hp, g, rfl⟩
      have hx2 : (x : Int) < M := by omega
      have w1 := wrap_id (n := (x : Int) + 1) (by omega)
      simp -implicitDefEqProofs (maxSteps := 3000000) [hx2]
      generalize hy : loopC _ _ _ = w
      obtain ⟨s, ⟨rfl, h1, h2⟩ | ⟨rfl, y, h1, h2, h3⟩⟩ := lp_bez_1 m (by omega) M hM X a b d ha hb hd x hx2 hy (by simp -implicitDefEqProofs (maxSteps := 3000000))
      · simp -implicitDefEqProofs (maxSteps := 3000000) [h2, w1]
        intro x' hx' y hy2
        rcases Nat.lt_or_ge x' x with z | z
        · exact hp x' z y hy2
        · obtain rfl : x' = x := by omega
          exact h1 y hy2
      · simp -implicitDefEqProofs (maxSteps := 3000000)
        exact ⟨x, hx2, y, h1, h2, h3⟩)
    (by
      rintro s ⟨hp, g, rfl⟩
      have hn : ¬ ((K : Int) < M) := by omega
      simp -implicitDefEqProofs (maxSteps := 3000000) [hn]
      intro x hx y hy
      exact hp x hx y hy)
  obtain ⟨s, ⟨rfl, h⟩ | ⟨rfl, x, y, h1, h2, h3, h4⟩⟩ := hqq
  · exfalso
    obtain ⟨x1, rfl⟩ := Int.eq_ofNat_of_zero_le hx0.1
    obtain ⟨y1, rfl⟩ := Int.eq_ofNat_of_zero_le hy0.1
    exact h x1 (by omega) y1 hy0.2 hdv
  · refine ⟨x, ⟨by omega, h1⟩, y, ⟨by omega, h2⟩, h3, ?_⟩
    simp -implicitDefEqProofs (maxSteps := 3000000) [h4]
theorem ct_put1 (n : Nat) (hn : B + 1 ≤ n) (x : Int) : evalCall Tryz.prog An n 220 [.d (.int .i64 x)] [] = some ⟨.d (.bool (decide (x ≠ 0))), [], []⟩ := by
  obtain ⟨m, rfl⟩ : ∃ m, n = m + 1 := ⟨n - 1, by omega⟩
  have hB := B_eq
  simp only [evalCall_at, fb220, bnd_some, bodyOf, Tryz.f220, Option.getD_some]
  by_cases h : x = 0
  · simp -implicitDefEqProofs (maxSteps := 3000000) [h]
  · simp -implicitDefEqProofs (maxSteps := 3000000) [h]
end Go.Proofs.YtnfhglplafmfiaaGreatE
