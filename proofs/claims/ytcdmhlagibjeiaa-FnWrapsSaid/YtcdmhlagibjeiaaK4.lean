/- Contracts of functions of the program and of the reference: what the evaluator gives for a call of each. -/
import Derived.Test.YtcdmhlagibjeiaaAEf
import Derived.Test.YtcdmhlagibjeiaaK0
import Derived.Test.YtcdmhlagibjeiaaK3
namespace Go.Proofs.YtcdmhlagibjeiaaE
open Go Go.Proofs
set_option maxHeartbeats 2000000
set_option linter.unusedSimpArgs false
set_option linter.unusedVariables false
set_option pp.deepTerms false
set_option pp.deepTerms.threshold 10
/-! ## modules -/
def gcdI (a b : Int) : Int := ((Nat.gcd a.toNat b.toNat : Nat) : Int)
theorem gcdI_zero {a : Int} (h : 0 ≤ a) : gcdI a 0 = a := by unfold gcdI; simp; omega
theorem gcdI_comm (a b : Int) : gcdI a b = gcdI b a := by unfold gcdI; rw [Nat.gcd_comm]
theorem gcdI_nonneg (a b : Int) : 0 ≤ gcdI a b := by unfold gcdI; omega
theorem gcdI_le_left {a : Int} (b : Int) (h : 0 < a) : gcdI a b ≤ a := by
  unfold gcdI
  have := Nat.gcd_le_left (m := a.toNat) b.toNat (by omega)
  omega
theorem gcdI_pos {a : Int} (b : Int) (h : 0 < a) : 0 < gcdI a b := by
  unfold gcdI
  have := Nat.gcd_pos_of_pos_left (m := a.toNat) b.toNat (by omega)
  omega
theorem gcdI_step {a b : Int} (ha : 0 ≤ a) (hb : 0 < b) : gcdI b (a % b) = gcdI a b := by
  obtain ⟨a, rfl⟩ := Int.eq_ofNat_of_zero_le ha
  obtain ⟨b, rfl⟩ := Int.eq_ofNat_of_zero_le (Int.le_of_lt hb)
  unfold gcdI
  rw [← Int.natCast_emod, Int.toNat_natCast, Int.toNat_natCast, Int.toNat_natCast]
  rw [Nat.gcd_comm b, ← Nat.gcd_rec, Nat.gcd_comm]
theorem mul_bd {a b x y : Int} (a0 : 0 ≤ a) (ax : a ≤ x) (b0 : 0 ≤ b) (bx : b ≤ y) : 0 ≤ a * b ∧ a * b ≤ x * y :=
  ⟨Int.mul_nonneg a0 b0, Int.mul_le_mul ax bx b0 (by omega)⟩
theorem tmod_nn {a : Int} (b : Int) (h : 0 ≤ a) : a.tmod b = a % b := Int.tmod_eq_emod_of_nonneg h
theorem ct_l01Gcd (n : Nat) (hn : B + 1 ≤ n) (a b : Int) (ha : 0 ≤ a ∧ a < 1000000000000) (hb : 0 ≤ b ∧ b < 1000000000000) :
    evalCall Try.prog An n 51 [.d (.int .i64 a), .d (.int .i64 b)] [] = some ⟨.d (.int .i64 (gcdI a b)), [], []⟩ := by
  obtain ⟨m, rfl⟩ : ∃ m, n = m + 1 := ⟨n - 1, by omega⟩
  have hB := B_eq
  simp only [evalCall_at, fb51, bnd_some, bodyOf, Try.f51, Option.getD_some]
  generalize hb0 : Code.loop _ = cc0
  obtain rfl : cc0 = .loop (lp Try.f51 0) := by rw [← hb0]; rfl
  clear hb0
  simp -implicitDefEqProofs (maxSteps := 3000000)
  generalize hx : loopC _ _ _ = x
  generalize hl : lp Try.f51 0 = L at hx
  simp only [lp, bodyOf, Try.f51, Option.getD_some, loopsIn, List.append_nil, List.nil_append, List.cons_append, List.getD, List.getElem?_cons_zero, List.getElem?_cons_succ] at hl
  subst hl
  obtain ⟨q, rfl, hq⟩ := loop_end hx b.toNat (fun i s => ∃ a' b' g, s = ⟨[(0, .d (.int .i64 a')), (1, .d (.int .i64 b'))], [], g⟩ ∧ 0 ≤ a' ∧ 0 ≤ b' ∧ b'.toNat + i ≤ b.toNat ∧ a' < 1000000000000 ∧ gcdI a' b' = gcdI a b)
    (fun q => ∃ s, q = (.exit 0, s) ∧ lookL s.env 0 = some (.d (.int .i64 (gcdI a b))) ∧ gcdI a b < 1000000000000) (by show b.toNat < m; omega) ⟨a, b, 1 + 1, by simp, ha.1, hb.1, by omega, ha.2, rfl⟩
    (by
      rintro i s hi ⟨a', b', g, rfl, h1, h2, h3, h4, h5⟩
      by_cases z : b' = 0
      · subst z
        rw [gcdI_zero h1] at h5
        simp -implicitDefEqProofs (maxSteps := 3000000) [h5]
        omega
      · have z2 := bne_t z
        have z3 : (b' != 0) = true := z2
        have m1 := Int.emod_lt_of_pos a' (show 0 < b' by omega)
        have m2 := Int.emod_nonneg a' z
        simp -implicitDefEqProofs (maxSteps := 3000000) [z, z3, tmod_nn b' h1]
        exact ⟨_, _, ⟨rfl, rfl⟩, h2, m2, by omega, by omega, by rw [gcdI_step h1 (by omega), h5]⟩)
    (by
      rintro s ⟨a', b', g, rfl, h1, h2, h3, h4, h5⟩
      obtain rfl : b' = 0 := by omega
      rw [gcdI_zero h1] at h5
      simp -implicitDefEqProofs (maxSteps := 3000000) [h5]
      omega)
  obtain ⟨s, rfl, h1, h2⟩ := hq
  have h3 := gcdI_nonneg a b
  have w := wrap_id (n := 0 - gcdI a b) (by omega)
  have w2 := wrap_id (n := - gcdI a b) (by omega)
  have h4 : ¬ (gcdI a b < - gcdI a b) := by omega
  simp -implicitDefEqProofs (maxSteps := 3000000) [h1, w, w2, h4]
def Unit1 (M u : Int) : Prop := (1 ≤ u ∧ u ≤ M - 1) ∧ gcdI u M = 1
def Act1 (T : List (List Int)) (M : Int) (U : List Int) (a : Nat) : Prop := ∀ b < U.length, rn U (cl T a b).toNat = rn U a * rn U b % M
def IsMo (T : List (List Int)) (M : Int) (U : List Int) : Prop := ((2 ≤ M ∧ M ≤ 12) ∧ U.length = T.length) ∧ (∀ i < U.length, Unit1 M (rn U i)) ∧ ∀ a < U.length, Act1 T M U a
@[simp] def mfacts (T : List (List Int)) (M : Int) (U : List Int) (s : St) : Prop := obsL s.obs 32 = some (1, .box [.d (intss T)]) ∧ obsL s.obs 48 = some (2, .box [.d (.int .i64 M), .d (ints U)]) ∧ lookL s.env 2 = some (.ptr 32 1 0) ∧ lookL s.env 3 = some (.ptr 48 2 0)
end Go.Proofs.YtcdmhlagibjeiaaE
