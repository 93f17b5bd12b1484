/- Contracts of functions of the program and of the reference: what the evaluator gives for a call of each. -/
import Derived.Test.YtfichikabolknaaGreatAEf
import Derived.Test.YtfichikabolknaaGreatK0
import Derived.Test.YtfichikabolknaaGreatK3
import Derived.Test.YtfichikabolknaaGreatK7
import Derived.Test.YtfichikabolknaaGreatK34
namespace Go.Proofs.YtfichikabolknaaGreatE
open Go Go.Proofs
set_option maxHeartbeats 4000000
set_option maxRecDepth 4000
set_option linter.unusedSimpArgs false
set_option linter.unusedVariables false
set_option pp.deepTerms false
set_option pp.deepTerms.threshold 10
/-! ## inverses and conjugates -/
theorem ct_l01Inverse (n : Nat) (hn : B + 2 ≤ n) (T : List (List Int)) (G : IsGr T) (a : Nat) (ha : a < T.length) :
    evalCall Tryz.prog An n 228 [.agg [.d (intss T)], .d (.int .i64 a)] [] = some ⟨.d (.int .i64 (inv T a)), [], []⟩ := by
  obtain ⟨m, rfl⟩ : ∃ m, n = m + 1 := ⟨n - 1, by omega⟩
  have hB := B_eq
  simp only [evalCall_at, fb228, bnd_some, bodyOf, Tryz.f228, Option.getD_some]
  generalize hb0 : Code.loop _ = cc0
  obtain rfl : cc0 = .loop (lp Tryz.f228 0) := by rw [← hb0]; rfl
  clear hb0
  have hN := G.1.1
  have ra := (G.1.2 a ha).1
  have hi0 := inv_spec G ha
  simp -implicitDefEqProofs (maxSteps := 3000000)
  generalize hx : loopC _ _ _ = x
  generalize hl : lp Tryz.f228 0 = L at hx
  simp only [lp, bodyOf, Tryz.f228, Option.getD_some, loopsIn, List.append_nil, List.nil_append, List.cons_append, List.getD, List.getElem?_cons_zero, List.getElem?_cons_succ] at hl
  subst hl
  obtain ⟨q, rfl, hq⟩ := loop_end hx T.length (fun i s => i ≤ inv T a ∧ ∃ g, s = ⟨[(1, .d (.int .i64 a)), (2, .ptr 32 1 0), (5, .d (.int .i64 i))], [(32, some (1, .box [.d (intss T)]))], g⟩)
    (fun q => ∃ s, q = (.ret, s) ∧ lookL s.env 4 = some (.d (.int .i64 (inv T a))))
    (by show T.length < m; omega) ⟨by omega, by simp⟩
    (by
      rintro i s hi ⟨hp, g, rfl⟩
      have w2 := wrap_id (n := (i : Int) + 1) (by omega)
      have c1 := ct_l01N m (by omega) T
      have mc := (mu_cl G.1 ha hi).1
      by_cases p : cl T a i = 0
      · have e : i = inv T a := inv_uniq G ha hi (by omega)
        have p2 : (cl T a i == 0) = true := by simpa using p
        simp -implicitDefEqProofs (maxSteps := 3000000) [hi, ha, ra, c1, p, p2, w2]
        exact congrArg (fun (z : Nat) => (z : Int)) e
      · have p2 : (cl T a i == 0) = false := by simpa using p
        simp -implicitDefEqProofs (maxSteps := 3000000) [hi, ha, ra, c1, p, p2, w2]
        rcases Nat.lt_or_ge i (inv T a) with z | z
        · exact z
        · obtain rfl : i = inv T a := by omega
          exact absurd (by rw [mc, hi0.2.1]; rfl) p)
    (by
      rintro s ⟨hp, g, rfl⟩
      omega)
  obtain ⟨s, rfl, hf⟩ := hq
  simp -implicitDefEqProofs (maxSteps := 3000000) [hf]
theorem ct_inverse (n : Nat) (hn : B + 2 ≤ n) (T : List (List Int)) (G : IsGr T) (a : Nat) (ha : a < T.length) :
    evalCall Tryz.prog An n 217 [.agg [.d (intss T)], .d (.int .i64 a)] [] = some ⟨.d (.int .i64 (inv T a)), [], []⟩ := by
  obtain ⟨m, rfl⟩ : ∃ m, n = m + 1 := ⟨n - 1, by omega⟩
  have hB := B_eq
  simp only [evalCall_at, fb217, bnd_some, bodyOf, Tryz.f217, Option.getD_some]
  have hN := G.1.1
  have ra := (G.1.2 a ha).1
  have hi0 := inv_spec G ha
  rcases ct_Index m (by omega) (rown T a) 0 (by omega) with ⟨h1, c⟩ | ⟨j, ⟨h1, h2⟩, c⟩
  · exact absurd (show cl T a (inv T a) = 0 by rw [(mu_cl G.1 ha hi0.1).1, hi0.2.1]; rfl) (h1 (inv T a) (by rw [ra]; exact hi0.1))
  · rw [ra] at h1
    have e : j = inv T a := inv_uniq G ha h1 (by have := (mu_cl G.1 ha h1).1; simp only [cl] at this; omega)
    subst e
    simp -implicitDefEqProofs (maxSteps := 3000000) [ha, c]
theorem ct_l01Conjugate (n : Nat) (hn : B + 3 ≤ n) (T : List (List Int)) (G : IsGr T) (a c : Nat) (ha : a < T.length) (hc : c < T.length) :
    evalCall Tryz.prog An n 155 [.agg [.d (intss T)], .d (.int .i64 a), .d (.int .i64 c)] [] = some ⟨.d (.int .i64 (cj T c a)), [], []⟩ := by
  obtain ⟨m, rfl⟩ : ∃ m, n = m + 1 := ⟨n - 1, by omega⟩
  have hB := B_eq
  simp only [evalCall_at, fb155, bnd_some, bodyOf, Tryz.f155, Option.getD_some]
  have rc := (G.1.2 c hc).1
  have m1 := mu_cl G.1 hc ha
  have hi0 := inv_spec G hc
  have rm := (G.1.2 _ m1.2).1
  have m2 := mu_cl G.1 m1.2 hi0.1
  have c1 := ct_l01Inverse m (by omega) T G c hc
  have e : (cj T c a : Int) = cl T (mu T c a) (inv T c) := by rw [m2.1]; rfl
  rw [e]
  have h1 := m1.1
  have h2 := m1.2
  have h3 := hi0.1
  simp only [cl] at h1 ⊢
  simp -implicitDefEqProofs (maxSteps := 3000000) [hc, ha, rc, rm, h1, h2, h3, c1]
theorem ct_times3 (n : Nat) (hn : B + 1 ≤ n) (T : List (List Int)) (G : IsGr T) (a b c : Nat) (ha : a < T.length) (hb : b < T.length) (hc : c < T.length) :
    evalCall Tryz.prog An n 234 [.agg [.d (intss T)], .d (.sl 1 [.int .i64 a, .int .i64 b, .int .i64 c])] [] = some ⟨.d (.int .i64 (mu T (mu T a b) c)), [], []⟩ := by
  obtain ⟨m, rfl⟩ : ∃ m, n = m + 1 := ⟨n - 1, by omega⟩
  have hB := B_eq
  simp only [evalCall_at, fb234, bnd_some, bodyOf, Tryz.f234, Option.getD_some]
  generalize hb0 : Code.loop _ = cc0
  obtain rfl : cc0 = .loop (lp Tryz.f234 0) := by rw [← hb0]; rfl
  clear hb0
  have hz : 0 < T.length := by omega
  have r0 := (G.1.2 0 hz).1
  have ra := (G.1.2 a ha).1
  have m1 := mu_cl G.1 ha hb
  have rm := (G.1.2 _ m1.2).1
  have m2 := mu_cl G.1 m1.2 hc
  have e0 : cl T 0 a = a := by rw [(mu_cl G.1 hz ha).1, mu_0l G ha]
  simp -implicitDefEqProofs (maxSteps := 3000000)
  generalize hx : loopC _ _ _ = x
  generalize hl : lp Tryz.f234 0 = L at hx
  simp only [lp, bodyOf, Tryz.f234, Option.getD_some, loopsIn, List.append_nil, List.nil_append, List.cons_append, List.getD, List.getElem?_cons_zero, List.getElem?_cons_succ] at hl
  subst hl
  obtain ⟨q, rfl, hq⟩ := loop_end hx 3 (fun i s => ∃ g, s = ⟨[(2, .ptr 32 1 0), (5, .d (.int .i64 (if i = 0 then 0 else if i = 1 then a else if i = 2 then (mu T a b : Int) else (mu T (mu T a b) c : Int)))), (8, .d (.sl 1 [.int .i64 a, .int .i64 b, .int .i64 c])), (9, .d (.int .i64 3)), (10, .d (.int .i64 i))], [(32, some (1, .box [.d (intss T)]))], g⟩)
    (fun q => ∃ s, q = (.exit 0, s) ∧ lookL s.env 5 = some (.d (.int .i64 (mu T (mu T a b) c)))) (by show 3 < m; omega) (by simp -implicitDefEqProofs (maxSteps := 3000000))
    (by
      rintro i s hi ⟨g, rfl⟩
      have e : i = 0 ∨ i = 1 ∨ i = 2 := by omega
      have w1 := wrap_id (n := 1) (by omega)
      have w2 := wrap_id (n := 2) (by omega)
      have w3 := wrap_id (n := 3) (by omega)
      have h1 := m1.1
      have h2 := m1.2
      have h3 := m2.1
      simp only [cl] at e0 h1 h3
      rcases e with rfl | rfl | rfl
      · simp -implicitDefEqProofs (maxSteps := 3000000) [hz, r0, ha, e0, w1]
      · simp -implicitDefEqProofs (maxSteps := 3000000) [ha, hb, ra, h1, w2]
      · simp -implicitDefEqProofs (maxSteps := 3000000) [h2, hc, rm, h3, w3])
    (by
      rintro s ⟨g, rfl⟩
      simp -implicitDefEqProofs (maxSteps := 3000000))
  obtain ⟨s, rfl, hf⟩ := hq
  simp -implicitDefEqProofs (maxSteps := 3000000) [hf]
theorem ct_conjugate (n : Nat) (hn : B + 3 ≤ n) (T : List (List Int)) (G : IsGr T) (c a : Nat) (hc : c < T.length) (ha : a < T.length) :
    evalCall Tryz.prog An n 223 [.agg [.d (intss T)], .d (.int .i64 c), .d (.int .i64 a)] [] = some ⟨.d (.int .i64 (cj T c a)), [], []⟩ := by
  obtain ⟨m, rfl⟩ : ∃ m, n = m + 1 := ⟨n - 1, by omega⟩
  have hB := B_eq
  simp only [evalCall_at, fb223, bnd_some, bodyOf, Tryz.f223, Option.getD_some]
  have hi0 := inv_spec G hc
  have c1 := ct_inverse m (by omega) T G c hc
  have c2 := ct_times3 m (by omega) T G c a (inv T c) hc ha hi0.1
  simp -implicitDefEqProofs (maxSteps := 3000000) [c1, c2, cj]
end Go.Proofs.YtfichikabolknaaGreatE
