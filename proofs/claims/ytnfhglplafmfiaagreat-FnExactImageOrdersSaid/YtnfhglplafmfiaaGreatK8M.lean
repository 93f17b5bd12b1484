/- Contracts of functions of the program and of the reference: what the evaluator gives for a call of each. -/
import Derived.Test.YtnfhglplafmfiaaGreatAEf
import Derived.Test.YtnfhglplafmfiaaGreatK1M
import Derived.Test.YtnfhglplafmfiaaGreatK4
import Derived.Test.YtnfhglplafmfiaaGreatK3M
import Derived.Test.YtnfhglplafmfiaaGreatK6M
namespace Go.Proofs.YtnfhglplafmfiaaGreatE
open Go Go.Proofs
set_option maxHeartbeats 2000000
set_option linter.unusedSimpArgs false
set_option linter.unusedVariables false
set_option pp.deepTerms false
set_option pp.deepTerms.threshold 10
/-! ## the program's small functions -/
theorem ct_order (n : Nat) (hn : B + 1 ≤ n) (T : List (List Int)) :
    evalCall Tryz.prog An n 124 [.agg [.d (intss T)]] [] = some ⟨.d (.int .i64 T.length), [], []⟩ := by
  obtain ⟨m, rfl⟩ : ∃ m, n = m + 1 := ⟨n - 1, by omega⟩
  have hB := B_eq
  simp only [evalCall_at, fb124, bnd_some, bodyOf, Tryz.f124, Option.getD_some]
  simp -implicitDefEqProofs (maxSteps := 3000000)
theorem ct_isModulus (n : Nat) (hn : B + 1 ≤ n) (M : Int) :
    evalCall Tryz.prog An n 237 [.d (.int .i64 M)] [] = some ⟨.d (.bool (bl (2 ≤ M ∧ M ≤ 12))), [], []⟩ := by
  obtain ⟨m, rfl⟩ : ∃ m, n = m + 1 := ⟨n - 1, by omega⟩
  have hB := B_eq
  simp only [evalCall_at, fb237, bnd_some, bodyOf, Tryz.f237, Option.getD_some]
  by_cases h1 : 2 ≤ M
  · by_cases h2 : M ≤ 12
    · simp -implicitDefEqProofs (maxSteps := 3000000) [h1, h2, bl]
    · simp -implicitDefEqProofs (maxSteps := 3000000) [h1, h2, bl]
  · simp -implicitDefEqProofs (maxSteps := 3000000) [h1, bl]
theorem ct_isDegree (n : Nat) (hn : B + 1 ≤ n) (M : Int) :
    evalCall Tryz.prog An n 168 [.d (.int .i64 M)] [] = some ⟨.d (.bool (bl (0 ≤ M ∧ M ≤ 3))), [], []⟩ := by
  obtain ⟨m, rfl⟩ : ∃ m, n = m + 1 := ⟨n - 1, by omega⟩
  have hB := B_eq
  simp only [evalCall_at, fb168, bnd_some, bodyOf, Tryz.f168, Option.getD_some]
  by_cases h1 : 0 ≤ M
  · by_cases h2 : M ≤ 3
    · simp -implicitDefEqProofs (maxSteps := 3000000) [h1, h2, bl]
    · simp -implicitDefEqProofs (maxSteps := 3000000) [h1, h2, bl]
  · simp -implicitDefEqProofs (maxSteps := 3000000) [h1, bl]
theorem ct_gcd (n : Nat) (hn : B + 1 ≤ n) (a b : Int) (ha : 0 ≤ a) (hb : 0 ≤ b ∧ b < 1000000000000) :
    evalCall Tryz.prog An n 236 [.d (.int .i64 a), .d (.int .i64 b)] [] = some ⟨.d (.int .i64 (gcdI a b)), [], []⟩ := by
  obtain ⟨m, rfl⟩ : ∃ m, n = m + 1 := ⟨n - 1, by omega⟩
  have hB := B_eq
  simp only [evalCall_at, fb236, bnd_some, bodyOf, Tryz.f236, Option.getD_some]
  generalize hb0 : Code.loop _ = cc0
  obtain rfl : cc0 = .loop (lp Tryz.f236 0) := by rw [← hb0]; rfl
  clear hb0
  simp -implicitDefEqProofs (maxSteps := 3000000)
  generalize hx : loopC _ _ _ = x
  generalize hl : lp Tryz.f236 0 = L at hx
  simp only [lp, bodyOf, Tryz.f236, Option.getD_some, loopsIn, List.append_nil, List.nil_append, List.cons_append, List.getD, List.getElem?_cons_zero, List.getElem?_cons_succ] at hl
  subst hl
  obtain ⟨q, rfl, hq⟩ := loop_end hx b.toNat (fun i s => ∃ a' b' g, s = ⟨[(0, .d (.int .i64 a')), (1, .d (.int .i64 b'))], [], g⟩ ∧ 0 ≤ a' ∧ 0 ≤ b' ∧ b'.toNat + i ≤ b.toNat ∧ gcdI a' b' = gcdI a b)
    (fun q => ∃ s, q = (.exit 0, s) ∧ lookL s.env 0 = some (.d (.int .i64 (gcdI a b)))) (by show b.toNat < m; omega) ⟨a, b, 1 + 1, by simp, ha, hb.1, by omega, rfl⟩
    (by
      rintro i s hi ⟨a', b', g, rfl, h1, h2, h3, h5⟩
      by_cases z : b' = 0
      · subst z
        rw [gcdI_zero h1] at h5
        simp -implicitDefEqProofs (maxSteps := 3000000) [h5]
      · have z2 := bne_t z
        have m1 := Int.emod_lt_of_pos a' (show 0 < b' by omega)
        have m2 := Int.emod_nonneg a' z
        simp -implicitDefEqProofs (maxSteps := 3000000) [z, z2, tmod_nn b' h1]
        exact ⟨_, _, ⟨rfl, rfl⟩, h2, m2, by omega, by rw [gcdI_step h1 (by omega), h5]⟩)
    (by
      rintro s ⟨a', b', g, rfl, h1, h2, h3, h5⟩
      obtain rfl : b' = 0 := by omega
      rw [gcdI_zero h1] at h5
      simp -implicitDefEqProofs (maxSteps := 3000000) [h5])
  obtain ⟨s, rfl, h1⟩ := hq
  simp -implicitDefEqProofs (maxSteps := 3000000) [h1]
theorem ct_isUnit (n : Nat) (hn : B + 2 ≤ n) (M u : Int) (hM : 2 ≤ M ∧ M ≤ 1000000) :
    evalCall Tryz.prog An n 238 [.d (.int .i64 M), .d (.int .i64 u)] [] = some ⟨.d (.bool (bl (Unit1 M u))), [], []⟩ := by
  obtain ⟨m, rfl⟩ : ∃ m, n = m + 1 := ⟨n - 1, by omega⟩
  have hB := B_eq
  simp only [evalCall_at, fb238, bnd_some, bodyOf, Tryz.f238, Option.getD_some]
  by_cases h1 : 1 ≤ u
  · by_cases h2 : u < M
    · have c1 := ct_gcd m (by omega) M u (by omega) (by omega)
      have e := gcdI_comm u M
      by_cases h3 : gcdI M u = 1
      · have : Unit1 M u := ⟨⟨h1, by omega⟩, by rw [e, h3]⟩
        simp -implicitDefEqProofs (maxSteps := 3000000) [h1, h2, c1, h3, bl_true this]
      · have : ¬ Unit1 M u := fun z => h3 (by rw [← e, z.2])
        simp -implicitDefEqProofs (maxSteps := 3000000) [h1, h2, c1, h3, bl_false this]
    · have : ¬ Unit1 M u := fun z => by have := z.1.2; omega
      simp -implicitDefEqProofs (maxSteps := 3000000) [h1, h2, bl_false this]
  · have : ¬ Unit1 M u := fun z => h1 z.1.1
    simp -implicitDefEqProofs (maxSteps := 3000000) [h1, bl_false this]
def AllIn (n : Int) (l : List Int) : Prop := ∀ i < l.length, 0 ≤ rn l i ∧ rn l i < n
theorem ct_areIn (n : Nat) (hn : B + 1 ≤ n) (N : Int) (l : List Int) (hl : l.length ≤ 1000000000000) :
    evalCall Tryz.prog An n 123 [.d (.int .i64 N), .d (ints l)] [] = some ⟨.d (.bool (bl (AllIn N l))), [], []⟩ := by
  obtain ⟨m, rfl⟩ : ∃ m, n = m + 1 := ⟨n - 1, by omega⟩
  have hB := B_eq
  simp only [evalCall_at, fb123, bnd_some, bodyOf, Tryz.f123, Option.getD_some]
  generalize hb0 : Code.loop _ = cc0
  obtain rfl : cc0 = .loop (lp Tryz.f123 0) := by rw [← hb0]; rfl
  clear hb0
  simp -implicitDefEqProofs (maxSteps := 3000000)
  generalize hx : loopC _ _ _ = x
  generalize hl : lp Tryz.f123 0 = L at hx
  simp only [lp, bodyOf, Tryz.f123, Option.getD_some, loopsIn, List.append_nil, List.nil_append, List.cons_append, List.getD, List.getElem?_cons_zero, List.getElem?_cons_succ] at hl
  subst hl
  rcases loop_chk hx l.length 0 (fun i => 0 ≤ rn l i ∧ rn l i < N)
    (fun i g => ⟨[(0, .d (.int .i64 N)), (7, .d (ints l)), (8, .d (.int .i64 l.length)), (9, .d (.int .i64 i))], [], g⟩)
    (fun s => s.obs = []) (fun s => lookL s.env 4 = some (.d (.bool false)))
    (by show l.length < m; omega) (by simp -implicitDefEqProofs (maxSteps := 3000000))
    (by
      rintro i g hi hp
      have w2 := wrap_id (n := (i : Int) + 1) (by omega)
      by_cases p : rn l i < 0
      · simp -implicitDefEqProofs (maxSteps := 3000000) [hi, p]
        omega
      · by_cases p2 : rn l i < N
        · have p3 : ¬ N ≤ rn l i := by omega
          simp -implicitDefEqProofs (maxSteps := 3000000) [hi, p, p2, p3, w2]
          omega
        · have p3 : N ≤ rn l i := by omega
          simp -implicitDefEqProofs (maxSteps := 3000000) [hi, p, p2, p3, w2])
    (by
      rintro g
      simp -implicitDefEqProofs (maxSteps := 3000000)) with ⟨h1, s, rfl, h2⟩ | ⟨⟨i, hi, h1⟩, s, rfl, h2⟩
  · simp -implicitDefEqProofs (maxSteps := 3000000) [bl_true (show AllIn N l from h1)]
  · simp -implicitDefEqProofs (maxSteps := 3000000) [h2, bl_false (show ¬ AllIn N l from fun z => h1 (z i hi))]
theorem ct_Index (n : Nat) (hn : B + 1 ≤ n) (l : List Int) (v : Int) (hl : l.length ≤ 1000000000000) :
    ((∀ i < l.length, rn l i ≠ v) ∧ evalCall Tryz.prog An n 141 [.d (ints l), .d (.int .i64 v)] [] = some ⟨.d (.int .i64 (-1)), [], []⟩) ∨
    (∃ j : Nat, (j < l.length ∧ rn l j = v) ∧ evalCall Tryz.prog An n 141 [.d (ints l), .d (.int .i64 v)] [] = some ⟨.d (.int .i64 j), [], []⟩) := by
  obtain ⟨m, rfl⟩ : ∃ m, n = m + 1 := ⟨n - 1, by omega⟩
  have hB := B_eq
  simp only [evalCall_at, fb141, bnd_some, bodyOf, Tryz.f141, Option.getD_some]
  generalize hb0 : Code.loop _ = cc0
  obtain rfl : cc0 = .loop (lp Tryz.f141 0) := by rw [← hb0]; rfl
  clear hb0
  simp -implicitDefEqProofs (maxSteps := 3000000)
  generalize hx : loopC _ _ _ = x
  generalize hl : lp Tryz.f141 0 = L at hx
  simp only [lp, bodyOf, Tryz.f141, Option.getD_some, loopsIn, List.append_nil, List.nil_append, List.cons_append, List.getD, List.getElem?_cons_zero, List.getElem?_cons_succ] at hl
  subst hl
  rcases loop_chk hx l.length 0 (fun i => rn l i ≠ v)
    (fun i g => ⟨[(0, .d (ints l)), (1, .d (.int .i64 v)), (7, .d (.int .i64 l.length)), (8, .d (.int .i64 i))], [], g⟩)
    (fun s => s.obs = []) (fun s => ∃ j : Nat, (j < l.length ∧ rn l j = v) ∧ lookL s.env 4 = some (.d (.int .i64 j)))
    (by show l.length < m; omega) (by simp -implicitDefEqProofs (maxSteps := 3000000))
    (by
      rintro i g hi hp
      have w2 := wrap_id (n := (i : Int) + 1) (by omega)
      by_cases p : rn l i = v
      · simp -implicitDefEqProofs (maxSteps := 3000000) [hi, p]
        exact ⟨i, ⟨hi, p⟩, rfl⟩
      · have p2 : (v == rn l i) = false := by simpa using fun z : v = rn l i => p z.symm
        simp -implicitDefEqProofs (maxSteps := 3000000) [hi, p, p2, w2])
    (by
      rintro g
      simp -implicitDefEqProofs (maxSteps := 3000000)) with ⟨h1, s, rfl, h2⟩ | ⟨h1, s, rfl, j, hj, h2⟩
  · left
    simp -implicitDefEqProofs (maxSteps := 3000000)
    exact h1
  · right
    refine ⟨j, hj, ?_⟩
    simp -implicitDefEqProofs (maxSteps := 3000000) [h2]
theorem ct_Contains (n : Nat) (hn : B + 2 ≤ n) (l : List Int) (v : Int) (hl : l.length ≤ 1000000000000) :
    evalCall Tryz.prog An n 192 [.d (ints l), .d (.int .i64 v)] [] = some ⟨.d (.bool (bl (∃ i < l.length, rn l i = v))), [], []⟩ := by
  obtain ⟨m, rfl⟩ : ∃ m, n = m + 1 := ⟨n - 1, by omega⟩
  have hB := B_eq
  simp only [evalCall_at, fb192, bnd_some, bodyOf, Tryz.f192, Option.getD_some]
  rcases ct_Index m (by omega) l v hl with ⟨h1, c⟩ | ⟨j, ⟨h1, h2⟩, c⟩
  · simp -implicitDefEqProofs (maxSteps := 3000000) [c, bl_false (show ¬ ∃ i < l.length, rn l i = v from fun ⟨i, hi, z⟩ => h1 i hi z)]
  · simp -implicitDefEqProofs (maxSteps := 3000000) [c, bl_true (show ∃ i < l.length, rn l i = v from ⟨j, h1, h2⟩)]
end Go.Proofs.YtnfhglplafmfiaaGreatE

namespace Go.Proofs.YtnfhglplafmfiaaGreatE
open Go Go.Proofs
set_option maxHeartbeats 2000000
set_option linter.unusedSimpArgs false
set_option linter.unusedVariables false
set_option pp.deepTerms false
set_option pp.deepTerms.threshold 10
/-! ## the program's cochains -/
theorem ct_power (n : Nat) (hn : B + 1 ≤ n) (N : Nat) (hN : 1 ≤ N ∧ N ≤ 8) (D : Int) (hD : 0 ≤ D ∧ D ≤ 3) :
    evalCall Tryz.prog An n 218 [.d (.int .i64 ((N : Int) - 1)), .d (.int .i64 D)] [] = some ⟨.d (.int .i64 (cellsOf_ N D)), [], []⟩ := by
  obtain ⟨m, rfl⟩ : ∃ m, n = m + 1 := ⟨n - 1, by omega⟩
  have hB := B_eq
  simp only [evalCall_at, fb218, bnd_some, bodyOf, Tryz.f218, Option.getD_some]
  generalize hb0 : Code.loop _ = cc0
  obtain rfl : cc0 = .loop (lp Tryz.f218 0) := by rw [← hb0]; rfl
  clear hb0
  simp -implicitDefEqProofs (maxSteps := 3000000)
  generalize hx : loopC _ _ _ = x
  generalize hl : lp Tryz.f218 0 = L at hx
  simp only [lp, bodyOf, Tryz.f218, Option.getD_some, loopsIn, List.append_nil, List.nil_append, List.cons_append, List.getD, List.getElem?_cons_zero, List.getElem?_cons_succ] at hl
  subst hl
  obtain ⟨q, rfl, hq⟩ := loop_end hx D.toNat (fun i s => i ≤ D.toNat ∧ ∃ g, s = ⟨[(0, .d (.int .i64 ((N : Int) - 1))), (5, .d (.int .i64 (((N : Int) - 1) ^ i))), (6, .d (.int .i64 D)), (7, .d (.int .i64 i))], [], g⟩)
    (fun q => ∃ s, q = (.exit 0, s) ∧ lookL s.env 5 = some (.d (.int .i64 (cellsOf_ N D)))) (by show D.toNat < m; omega) (by simp -implicitDefEqProofs (maxSteps := 3000000))
    (by
      rintro i s hi ⟨hi2, g, rfl⟩
      have b1 := cells_bd hN (i + 1) (by omega)
      rw [Int.pow_succ] at b1
      have w2 := wrap_id (n := ((N : Int) - 1) ^ i * ((N : Int) - 1)) (by omega)
      have w3 := wrap_id (n := (i : Int) + 1) (by omega)
      have h1 : (i : Int) < D := by omega
      simp -implicitDefEqProofs (maxSteps := 3000000) [h1, w2, w3, Int.pow_succ]
      omega)
    (by
      rintro s ⟨hi2, g, rfl⟩
      have h1 : ¬ (((D.toNat : Nat) : Int) < D) := by omega
      have h2 : max D 0 = D := by omega
      simp -implicitDefEqProofs (maxSteps := 3000000) [h1, h2, cellsOf_])
  obtain ⟨s, rfl, h1⟩ := hq
  simp -implicitDefEqProofs (maxSteps := 3000000) [h1]
theorem ct_cells (n : Nat) (hn : B + 2 ≤ n) (T : List (List Int)) (hT : 1 ≤ T.length ∧ T.length ≤ 8) (D : Int) (hD : 0 ≤ D ∧ D ≤ 3) :
    evalCall Tryz.prog An n 160 [.agg [.d (intss T)], .d (.int .i64 D)] [] = some ⟨.d (.int .i64 (cellsOf_ T.length D)), [], []⟩ := by
  obtain ⟨m, rfl⟩ : ∃ m, n = m + 1 := ⟨n - 1, by omega⟩
  have hB := B_eq
  simp only [evalCall_at, fb160, bnd_some, bodyOf, Tryz.f160, Option.getD_some]
  have c1 := ct_order m (by omega) T
  have c2 := ct_power m (by omega) T.length hT D hD
  have w := wrap_id (n := (T.length : Int) - 1) (by omega)
  simp -implicitDefEqProofs (maxSteps := 3000000) [c1, w, c2]
theorem ct_isCochain (n : Nat) (hn : B + 3 ≤ n) (T : List (List Int)) (hT : 1 ≤ T.length ∧ T.length ≤ 8) (M : Int) (U : List Int) (D : Int) (V : List Int) (hV : V.length ≤ 10000000) :
    evalCall Tryz.prog An n 86 [.agg [.d (intss T)], .agg [.d (.int .i64 M), .d (ints U)], .agg [.d (.int .i64 D), .d (ints V)]] [] = some ⟨.d (.bool (bl (IsCo T M D V))), [], []⟩ := by
  obtain ⟨m, rfl⟩ : ∃ m, n = m + 1 := ⟨n - 1, by omega⟩
  have hB := B_eq
  simp only [evalCall_at, fb86, bnd_some, bodyOf, Tryz.f86, Option.getD_some]
  have c1 := ct_isDegree m (by omega) D
  by_cases hD : 0 ≤ D ∧ D ≤ 3
  · rw [bl_true hD] at c1
    have c2 := ct_cells m (by omega) T hT D hD
    by_cases hL : (V.length : Int) = cellsOf_ T.length D
    · have c3 := ct_areIn m (by omega) M V (by omega)
      by_cases h : AllIn M V
      · rw [bl_true h] at c3
        simp -implicitDefEqProofs (maxSteps := 3000000) [c1, c2, c3, hL, bl_true (show IsCo T M D V from ⟨hD, hL, fun i hi => by have := h i hi; omega⟩)]
      · rw [bl_false h] at c3
        simp -implicitDefEqProofs (maxSteps := 3000000) [c1, c2, c3, hL, bl_false (show ¬ IsCo T M D V from fun z => h fun i hi => by have := z.2.2 i hi; omega)]
    · have e2 : ((V.length : Int) == cellsOf_ T.length D) = false := by simpa using hL
      simp -implicitDefEqProofs (maxSteps := 3000000) [c1, c2, hL, e2, bl_false (show ¬ IsCo T M D V from fun z => hL z.2.1)]
  · rw [bl_false hD] at c1
    simp -implicitDefEqProofs (maxSteps := 3000000) [c1, bl_false (show ¬ IsCo T M D V from fun z => hD z.1)]
theorem ct_rests1 (n : Nat) (hn : B + 1 ≤ n) (q : Int) (hq : 0 < q) (x : Int) (hx : 0 ≤ x) :
    evalCall Tryz.prog An n 166 [.d (.int .i64 x), .d (.cellp [.int .i64 q])] [] = some ⟨.d (.int .i64 (x % q)), [], []⟩ := by
  obtain ⟨m, rfl⟩ : ∃ m, n = m + 1 := ⟨n - 1, by omega⟩
  have hB := B_eq
  simp only [evalCall_at, fb166, bnd_some, bodyOf, Tryz.f166, Option.getD_some]
  have tm := tmod_nn q hx
  have hz : q ≠ 0 := by omega
  simp -implicitDefEqProofs (maxSteps := 3000000) [tm, hz]
theorem ct_mapped_rests (n : Nat) (hn : B + 1 + 1 ≤ n) (V : List Int) (hV : V.length ≤ 10000000) (h0 : ∀ i < V.length, 0 ≤ rn V i) (q : Int) (hq : 0 < q) :
    evalCall Tryz.prog An n 139 [.d (ints V), .d (.clo 166 [] [.cellp [.int .i64 q]])] [] = some ⟨.own 0 0, [.row (icells (restU V q))], []⟩ := by
  obtain ⟨m, rfl⟩ : ∃ m, n = m + 1 := ⟨n - 1, by omega⟩
  have hB := B_eq
  simp only [evalCall_at, fb139, bnd_some, bodyOf, Tryz.f139, Option.getD_some]
  generalize hb0 : Code.loop _ = cc0
  obtain rfl : cc0 = .loop (lp Tryz.f139 0) := by rw [← hb0]; rfl
  clear hb0
  simp -implicitDefEqProofs (maxSteps := 3000000)
  generalize hx : loopC _ _ _ = x
  generalize hl : lp Tryz.f139 0 = L at hx
  simp only [lp, bodyOf, Tryz.f139, Option.getD_some, loopsIn, List.append_nil, List.nil_append, List.cons_append, List.getD, List.getElem?_cons_zero, List.getElem?_cons_succ] at hl
  subst hl
  obtain ⟨p, rfl, hp⟩ := loop_end hx V.length (fun i s => i ≤ V.length ∧ ∃ g v, s = ⟨[(1, .d (.clo 166 [] [.cellp [.int .i64 q]])), (5, .own 128 v), (9, .d (ints V)), (10, .d (.int .i64 V.length)), (11, .d (.int .i64 i))],
      [(128, some (v, .row (icells (restU (V.take i) q))))], g⟩)
    (fun p => ∃ s v, p = (.exit 0, s) ∧ lookL s.env 5 = some (.own 128 v) ∧ obsL s.obs 128 = some (v, .row (icells (restU V q))))
    (by show V.length < m; omega) (by simp -implicitDefEqProofs (maxSteps := 3000000) [restU, icells])
    (by
      rintro i s hi ⟨hi2, g, v, rfl⟩
      have w2 := wrap_id (n := (i : Int) + 1) (by omega)
      have c := ct_rests1 m (by omega) q hq (rn V i) (h0 i hi)
      have hl : (restU (V.take i) q).length + 1 ≤ bound := by simp -implicitDefEqProofs (maxSteps := 3000000) [restU, bound]; omega
      have hl2 : (restU (V.take i) q).length < bound := by omega
      have hs := restU_succ V q hi
      simp -implicitDefEqProofs (maxSteps := 3000000) [hi, w2, c, hl, hl2, hs]
      omega)
    (by
      rintro s ⟨hi2, g, v, rfl⟩
      simp -implicitDefEqProofs (maxSteps := 3000000))
  obtain ⟨s, v, rfl, h1, h2⟩ := hp
  simp -implicitDefEqProofs (maxSteps := 3000000) [h1, h2]
theorem ct_changedValues_rests (n : Nat) (hn : B + 2 + 1 ≤ n) (D : Int) (V : List Int) (hV : V.length ≤ 10000000) (h0 : ∀ i < V.length, 0 ≤ rn V i) (q : Int) (hq : 0 < q) :
    evalCall Tryz.prog An n 164 [.agg [.d (.int .i64 D), .d (ints V)], .d (.clo 166 [] [.cellp [.int .i64 q]])] [] = some ⟨.agg [.d (.int .i64 D), .own 0 0], [.row (icells (restU V q))], []⟩ := by
  obtain ⟨m, rfl⟩ : ∃ m, n = m + 1 := ⟨n - 1, by omega⟩
  have hB := B_eq
  simp only [evalCall_at, fb164, bnd_some, bodyOf, Tryz.f164, Option.getD_some]
  have c := ct_mapped_rests m (by omega) V hV h0 q hq
  simp -implicitDefEqProofs (maxSteps := 3000000) [c]
theorem ct_rests (n : Nat) (hn : B + 3 + 1 ≤ n) (D : Int) (V : List Int) (hV : V.length ≤ 10000000) (h0 : ∀ i < V.length, 0 ≤ rn V i) (q : Int) (hq : 0 < q) :
    evalCall Tryz.prog An n 80 [.d (.int .i64 q), .agg [.d (.int .i64 D), .d (ints V)]] [] = some ⟨.agg [.d (.int .i64 D), .own 0 0], [.row (icells (restU V q))], []⟩ := by
  obtain ⟨m, rfl⟩ : ∃ m, n = m + 1 := ⟨n - 1, by omega⟩
  have hB := B_eq
  simp only [evalCall_at, fb80, bnd_some, bodyOf, Tryz.f80, Option.getD_some]
  have c := ct_changedValues_rests m (by omega) D V hV h0 q hq
  simp -implicitDefEqProofs (maxSteps := 3000000) [c]
theorem ct_times2 (n : Nat) (hn : B + 1 ≤ n) (T : List (List Int)) (R : RowsOk T) (a b : Nat) (ha : a < T.length) (hb : b < T.length) (e0 : cl T 0 a = a) :
    evalCall Tryz.prog An n 196 [.agg [.d (intss T)], .d (.sl 1 [.int .i64 a, .int .i64 b])] [] = some ⟨.d (.int .i64 (cl T a b)), [], []⟩ := by
  obtain ⟨m, rfl⟩ : ∃ m, n = m + 1 := ⟨n - 1, by omega⟩
  have hB := B_eq
  simp only [evalCall_at, fb196, bnd_some, bodyOf, Tryz.f196, Option.getD_some]
  generalize hb0 : Code.loop _ = cc0
  obtain rfl : cc0 = .loop (lp Tryz.f196 0) := by rw [← hb0]; rfl
  clear hb0
  have hz : 0 < T.length := by omega
  have r0 := (R.2 0 hz).1
  have ra := (R.2 a ha).1
  simp -implicitDefEqProofs (maxSteps := 3000000)
  generalize hx : loopC _ _ _ = x
  generalize hl : lp Tryz.f196 0 = L at hx
  simp only [lp, bodyOf, Tryz.f196, Option.getD_some, loopsIn, List.append_nil, List.nil_append, List.cons_append, List.getD, List.getElem?_cons_zero, List.getElem?_cons_succ] at hl
  subst hl
  obtain ⟨q, rfl, hq⟩ := loop_end hx 2 (fun i s => ∃ g, s = ⟨[(2, .ptr 32 1 0), (5, .d (.int .i64 (if i = 0 then 0 else if i = 1 then a else cl T a b))), (8, .d (.sl 1 [.int .i64 a, .int .i64 b])), (9, .d (.int .i64 2)), (10, .d (.int .i64 i))], [(32, some (1, .box [.d (intss T)]))], g⟩)
    (fun q => ∃ s, q = (.exit 0, s) ∧ lookL s.env 5 = some (.d (.int .i64 (cl T a b)))) (by show 2 < m; omega) (by simp -implicitDefEqProofs (maxSteps := 3000000))
    (by
      rintro i s hi ⟨g, rfl⟩
      have e : i = 0 ∨ i = 1 := by omega
      have w1 := wrap_id (n := 1) (by omega)
      have w2 := wrap_id (n := 2) (by omega)
      rcases e with rfl | rfl
      · simp -implicitDefEqProofs (maxSteps := 3000000) [hz, r0, ha, e0, w1]
      · simp -implicitDefEqProofs (maxSteps := 3000000) [ha, ra, hb, w2])
    (by
      rintro s ⟨g, rfl⟩
      simp -implicitDefEqProofs (maxSteps := 3000000))
  obtain ⟨s, rfl, h1⟩ := hq
  simp -implicitDefEqProofs (maxSteps := 3000000) [h1]
end Go.Proofs.YtnfhglplafmfiaaGreatE
