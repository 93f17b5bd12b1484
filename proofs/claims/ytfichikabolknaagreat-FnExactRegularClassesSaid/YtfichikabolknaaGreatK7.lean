/- Contracts of functions of the program and of the reference: what the evaluator gives for a call of each. -/
import Derived.Test.YtfichikabolknaaGreatAEf
import Derived.Test.YtfichikabolknaaGreatK0
import Derived.Test.YtfichikabolknaaGreatK4
namespace Go.Proofs.YtfichikabolknaaGreatE
open Go Go.Proofs
set_option maxHeartbeats 2000000
set_option linter.unusedSimpArgs false
set_option linter.unusedVariables false
set_option pp.deepTerms false
set_option pp.deepTerms.threshold 10
/-! ## the program's small functions -/
theorem ct_order (n : Nat) (hn : B + 1 ≤ n) (T : List (List Int)) :
    evalCall Tryz.prog An n 169 [.agg [.d (intss T)]] [] = some ⟨.d (.int .i64 T.length), [], []⟩ := by
  obtain ⟨m, rfl⟩ : ∃ m, n = m + 1 := ⟨n - 1, by omega⟩
  have hB := B_eq
  simp only [evalCall_at, fb169, bnd_some, bodyOf, Tryz.f169, Option.getD_some]
  simp -implicitDefEqProofs (maxSteps := 3000000)
theorem ct_isModulus (n : Nat) (hn : B + 1 ≤ n) (M : Int) :
    evalCall Tryz.prog An n 181 [.d (.int .i64 M)] [] = some ⟨.d (.bool (bl (2 ≤ M ∧ M ≤ 12))), [], []⟩ := by
  obtain ⟨m, rfl⟩ : ∃ m, n = m + 1 := ⟨n - 1, by omega⟩
  have hB := B_eq
  simp only [evalCall_at, fb181, bnd_some, bodyOf, Tryz.f181, Option.getD_some]
  by_cases h1 : 2 ≤ M
  · by_cases h2 : M ≤ 12
    · simp -implicitDefEqProofs (maxSteps := 3000000) [h1, h2, bl]
    · simp -implicitDefEqProofs (maxSteps := 3000000) [h1, h2, bl]
  · simp -implicitDefEqProofs (maxSteps := 3000000) [h1, bl]
theorem ct_isDegree (n : Nat) (hn : B + 1 ≤ n) (M : Int) :
    evalCall Tryz.prog An n 261 [.d (.int .i64 M)] [] = some ⟨.d (.bool (bl (0 ≤ M ∧ M ≤ 3))), [], []⟩ := by
  obtain ⟨m, rfl⟩ : ∃ m, n = m + 1 := ⟨n - 1, by omega⟩
  have hB := B_eq
  simp only [evalCall_at, fb261, bnd_some, bodyOf, Tryz.f261, Option.getD_some]
  by_cases h1 : 0 ≤ M
  · by_cases h2 : M ≤ 3
    · simp -implicitDefEqProofs (maxSteps := 3000000) [h1, h2, bl]
    · simp -implicitDefEqProofs (maxSteps := 3000000) [h1, h2, bl]
  · simp -implicitDefEqProofs (maxSteps := 3000000) [h1, bl]
theorem ct_gcd (n : Nat) (hn : B + 1 ≤ n) (a b : Int) (ha : 0 ≤ a) (hb : 0 ≤ b ∧ b < 1000000000000) :
    evalCall Tryz.prog An n 356 [.d (.int .i64 a), .d (.int .i64 b)] [] = some ⟨.d (.int .i64 (gcdI a b)), [], []⟩ := by
  obtain ⟨m, rfl⟩ : ∃ m, n = m + 1 := ⟨n - 1, by omega⟩
  have hB := B_eq
  simp only [evalCall_at, fb356, bnd_some, bodyOf, Tryz.f356, Option.getD_some]
  generalize hb0 : Code.loop _ = cc0
  obtain rfl : cc0 = .loop (lp Tryz.f356 0) := by rw [← hb0]; rfl
  clear hb0
  simp -implicitDefEqProofs (maxSteps := 3000000)
  generalize hx : loopC _ _ _ = x
  generalize hl : lp Tryz.f356 0 = L at hx
  simp only [lp, bodyOf, Tryz.f356, Option.getD_some, loopsIn, List.append_nil, List.nil_append, List.cons_append, List.getD, List.getElem?_cons_zero, List.getElem?_cons_succ] at hl
  subst hl
  obtain ⟨q, rfl, hq⟩ := loop_end hx b.toNat (fun i s => ∃ a' b' g, s = ⟨[(0, .d (.int .i64 a')), (1, .d (.int .i64 b'))], [], g⟩ ∧ 0 ≤ a' ∧ 0 ≤ b' ∧ b'.toNat + i ≤ b.toNat ∧ gcdI a' b' = gcdI a b)
    (fun q => ∃ s, q = (.exit 0, s) ∧ lookL s.env 0 = some (.d (.int .i64 (gcdI a b)))) (by show b.toNat < m; omega) ⟨a, b, 1 + 1, by simp, ha, hb.1, by omega, rfl⟩
    (by
      rintro i s hi ⟨a', b', g, rfl, h1, h2, h3, h5⟩
      by_cases z : b' = 0
      · subst z
        rw [gcdI_zero h1] at h5
        simp -implicitDefEqProofs (maxSteps := 3000000) [h5]
      · have z2 := bne_t z
        have m1 := Int.emod_lt_of_pos a' (show 0 < b' by omega)
        have m2 := Int.emod_nonneg a' z
        simp -implicitDefEqProofs (maxSteps := 3000000) [z, z2, tmod_nn b' h1]
        exact ⟨_, _, ⟨rfl, rfl⟩, h2, m2, by omega, by rw [gcdI_step h1 (by omega), h5]⟩)
    (by
      rintro s ⟨a', b', g, rfl, h1, h2, h3, h5⟩
      obtain rfl : b' = 0 := by omega
      rw [gcdI_zero h1] at h5
      simp -implicitDefEqProofs (maxSteps := 3000000) [h5])
  obtain ⟨s, rfl, h1⟩ := hq
  simp -implicitDefEqProofs (maxSteps := 3000000) [h1]
theorem ct_isUnit (n : Nat) (hn : B + 2 ≤ n) (M u : Int) (hM : 2 ≤ M ∧ M ≤ 1000000) :
    evalCall Tryz.prog An n 357 [.d (.int .i64 M), .d (.int .i64 u)] [] = some ⟨.d (.bool (bl (Unit1 M u))), [], []⟩ := by
  obtain ⟨m, rfl⟩ : ∃ m, n = m + 1 := ⟨n - 1, by omega⟩
  have hB := B_eq
  simp only [evalCall_at, fb357, bnd_some, bodyOf, Tryz.f357, Option.getD_some]
  by_cases h1 : 1 ≤ u
  · by_cases h2 : u < M
    · have c1 := ct_gcd m (by omega) M u (by omega) (by omega)
      have e := gcdI_comm u M
      by_cases h3 : gcdI M u = 1
      · have : Unit1 M u := ⟨⟨h1, by omega⟩, by rw [e, h3]⟩
        simp -implicitDefEqProofs (maxSteps := 3000000) [h1, h2, c1, h3, bl_true this]
      · have : ¬ Unit1 M u := fun z => h3 (by rw [← e, z.2])
        simp -implicitDefEqProofs (maxSteps := 3000000) [h1, h2, c1, h3, bl_false this]
    · have : ¬ Unit1 M u := fun z => by have := z.1.2; omega
      simp -implicitDefEqProofs (maxSteps := 3000000) [h1, h2, bl_false this]
  · have : ¬ Unit1 M u := fun z => h1 z.1.1
    simp -implicitDefEqProofs (maxSteps := 3000000) [h1, bl_false this]
def AllIn (n : Int) (l : List Int) : Prop := ∀ i < l.length, 0 ≤ rn l i ∧ rn l i < n
theorem ct_areIn (n : Nat) (hn : B + 1 ≤ n) (N : Int) (l : List Int) (hl : l.length ≤ 1000000000000) :
    evalCall Tryz.prog An n 207 [.d (.int .i64 N), .d (ints l)] [] = some ⟨.d (.bool (bl (AllIn N l))), [], []⟩ := by
  obtain ⟨m, rfl⟩ : ∃ m, n = m + 1 := ⟨n - 1, by omega⟩
  have hB := B_eq
  simp only [evalCall_at, fb207, bnd_some, bodyOf, Tryz.f207, Option.getD_some]
  generalize hb0 : Code.loop _ = cc0
  obtain rfl : cc0 = .loop (lp Tryz.f207 0) := by rw [← hb0]; rfl
  clear hb0
  simp -implicitDefEqProofs (maxSteps := 3000000)
  generalize hx : loopC _ _ _ = x
  generalize hl : lp Tryz.f207 0 = L at hx
  simp only [lp, bodyOf, Tryz.f207, Option.getD_some, loopsIn, List.append_nil, List.nil_append, List.cons_append, List.getD, List.getElem?_cons_zero, List.getElem?_cons_succ] at hl
  subst hl
  rcases loop_chk hx l.length 0 (fun i => 0 ≤ rn l i ∧ rn l i < N)
    (fun i g => ⟨[(0, .d (.int .i64 N)), (7, .d (ints l)), (8, .d (.int .i64 l.length)), (9, .d (.int .i64 i))], [], g⟩)
    (fun s => s.obs = []) (fun s => lookL s.env 4 = some (.d (.bool false)))
    (by show l.length < m; omega) (by simp -implicitDefEqProofs (maxSteps := 3000000))
    (by
      rintro i g hi hp
      have w2 := wrap_id (n := (i : Int) + 1) (by omega)
      by_cases p : rn l i < 0
      · simp -implicitDefEqProofs (maxSteps := 3000000) [hi, p]
        omega
      · by_cases p2 : rn l i < N
        · have p3 : ¬ N ≤ rn l i := by omega
          simp -implicitDefEqProofs (maxSteps := 3000000) [hi, p, p2, p3, w2]
          omega
        · have p3 : N ≤ rn l i := by omega
          simp -implicitDefEqProofs (maxSteps := 3000000) [hi, p, p2, p3, w2])
    (by
      rintro g
      simp -implicitDefEqProofs (maxSteps := 3000000)) with ⟨h1, s, rfl, h2⟩ | ⟨⟨i, hi, h1⟩, s, rfl, h2⟩
  · simp -implicitDefEqProofs (maxSteps := 3000000) [bl_true (show AllIn N l from h1)]
  · simp -implicitDefEqProofs (maxSteps := 3000000) [h2, bl_false (show ¬ AllIn N l from fun z => h1 (z i hi))]
theorem ct_Index (n : Nat) (hn : B + 1 ≤ n) (l : List Int) (v : Int) (hl : l.length ≤ 1000000000000) :
    ((∀ i < l.length, rn l i ≠ v) ∧ evalCall Tryz.prog An n 173 [.d (ints l), .d (.int .i64 v)] [] = some ⟨.d (.int .i64 (-1)), [], []⟩) ∨
    (∃ j : Nat, (j < l.length ∧ rn l j = v) ∧ evalCall Tryz.prog An n 173 [.d (ints l), .d (.int .i64 v)] [] = some ⟨.d (.int .i64 j), [], []⟩) := by
  obtain ⟨m, rfl⟩ : ∃ m, n = m + 1 := ⟨n - 1, by omega⟩
  have hB := B_eq
  simp only [evalCall_at, fb173, bnd_some, bodyOf, Tryz.f173, Option.getD_some]
  generalize hb0 : Code.loop _ = cc0
  obtain rfl : cc0 = .loop (lp Tryz.f173 0) := by rw [← hb0]; rfl
  clear hb0
  simp -implicitDefEqProofs (maxSteps := 3000000)
  generalize hx : loopC _ _ _ = x
  generalize hl : lp Tryz.f173 0 = L at hx
  simp only [lp, bodyOf, Tryz.f173, Option.getD_some, loopsIn, List.append_nil, List.nil_append, List.cons_append, List.getD, List.getElem?_cons_zero, List.getElem?_cons_succ] at hl
  subst hl
  rcases loop_chk hx l.length 0 (fun i => rn l i ≠ v)
    (fun i g => ⟨[(0, .d (ints l)), (1, .d (.int .i64 v)), (7, .d (.int .i64 l.length)), (8, .d (.int .i64 i))], [], g⟩)
    (fun s => s.obs = []) (fun s => ∃ j : Nat, (j < l.length ∧ rn l j = v) ∧ lookL s.env 4 = some (.d (.int .i64 j)))
    (by show l.length < m; omega) (by simp -implicitDefEqProofs (maxSteps := 3000000))
    (by
      rintro i g hi hp
      have w2 := wrap_id (n := (i : Int) + 1) (by omega)
      by_cases p : rn l i = v
      · simp -implicitDefEqProofs (maxSteps := 3000000) [hi, p]
        exact ⟨i, ⟨hi, p⟩, rfl⟩
      · have p2 : (v == rn l i) = false := by simpa using fun z : v = rn l i => p z.symm
        simp -implicitDefEqProofs (maxSteps := 3000000) [hi, p, p2, w2])
    (by
      rintro g
      simp -implicitDefEqProofs (maxSteps := 3000000)) with ⟨h1, s, rfl, h2⟩ | ⟨h1, s, rfl, j, hj, h2⟩
  · left
    simp -implicitDefEqProofs (maxSteps := 3000000)
    exact h1
  · right
    refine ⟨j, hj, ?_⟩
    simp -implicitDefEqProofs (maxSteps := 3000000) [h2]
theorem ct_Contains (n : Nat) (hn : B + 2 ≤ n) (l : List Int) (v : Int) (hl : l.length ≤ 1000000000000) :
    evalCall Tryz.prog An n 162 [.d (ints l), .d (.int .i64 v)] [] = some ⟨.d (.bool (bl (∃ i < l.length, rn l i = v))), [], []⟩ := by
  obtain ⟨m, rfl⟩ : ∃ m, n = m + 1 := ⟨n - 1, by omega⟩
  have hB := B_eq
  simp only [evalCall_at, fb162, bnd_some, bodyOf, Tryz.f162, Option.getD_some]
  rcases ct_Index m (by omega) l v hl with ⟨h1, c⟩ | ⟨j, ⟨h1, h2⟩, c⟩
  · simp -implicitDefEqProofs (maxSteps := 3000000) [c, bl_false (show ¬ ∃ i < l.length, rn l i = v from fun ⟨i, hi, z⟩ => h1 i hi z)]
  · simp -implicitDefEqProofs (maxSteps := 3000000) [c, bl_true (show ∃ i < l.length, rn l i = v from ⟨j, h1, h2⟩)]
end Go.Proofs.YtfichikabolknaaGreatE
