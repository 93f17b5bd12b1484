/- Contracts of functions of the program and of the reference: what the evaluator gives for a call of each. -/
import Derived.Test.YtnfhglplafmfiaaGreatAEf
import Derived.Test.YtnfhglplafmfiaaGreatK1M
import Derived.Test.YtnfhglplafmfiaaGreatK3M
import Derived.Test.YtnfhglplafmfiaaGreatK27
import Derived.Test.YtnfhglplafmfiaaGreatK29M
import Derived.Test.YtnfhglplafmfiaaGreatK33M
import Derived.Test.YtnfhglplafmfiaaGreatK8M
namespace Go.Proofs.YtnfhglplafmfiaaGreatE
open Go Go.Proofs
set_option maxHeartbeats 4000000
set_option maxRecDepth 4000
set_option linter.unusedSimpArgs false
set_option linter.unusedVariables false
set_option pp.deepTerms false
set_option pp.deepTerms.threshold 10
/-! ## groups in numbers -/
def mu (T : List (List Int)) (a b : Nat) : Nat := (cl T a b).toNat
theorem mu_cl {T : List (List Int)} (R : RowsOk T) {a b : Nat} (ha : a < T.length) (hb : b < T.length) : cl T a b = (mu T a b : Int) ∧ mu T a b < T.length := by
  have := (R.2 a ha).2 b hb
  unfold mu
  omega
theorem mu_lt {T : List (List Int)} (G : IsGr T) {a b : Nat} (ha : a < T.length) (hb : b < T.length) : mu T a b < T.length := (mu_cl G.1 ha hb).2
theorem mu_as {T : List (List Int)} (G : IsGr T) {a b c : Nat} (ha : a < T.length) (hb : b < T.length) (hc : c < T.length) : mu T (mu T a b) c = mu T a (mu T b c) := by
  have := (G.2 a ha).2.1 b hb c hc
  unfold mu; rw [this]
theorem mu_0l {T : List (List Int)} (G : IsGr T) {a : Nat} (ha : a < T.length) : mu T 0 a = a := by
  have := (G.2 a ha).1.1
  unfold mu; omega
theorem mu_0r {T : List (List Int)} (G : IsGr T) {a : Nat} (ha : a < T.length) : mu T a 0 = a := by
  have := (G.2 a ha).1.2
  unfold mu; omega
theorem inv_ex {T : List (List Int)} (G : IsGr T) {a : Nat} (ha : a < T.length) : ∃ b, b < T.length ∧ mu T a b = 0 ∧ mu T b a = 0 := by
  obtain ⟨b, hb, h1, h2⟩ := (G.2 a ha).2.2
  exact ⟨b, hb, by unfold mu; omega, by unfold mu; omega⟩
open Classical in
noncomputable def inv (T : List (List Int)) (a : Nat) : Nat := if h : ∃ b, b < T.length ∧ mu T a b = 0 ∧ mu T b a = 0 then Classical.choose h else 0
theorem inv_spec {T : List (List Int)} (G : IsGr T) {a : Nat} (ha : a < T.length) : inv T a < T.length ∧ mu T a (inv T a) = 0 ∧ mu T (inv T a) a = 0 := by
  unfold inv
  rw [dif_pos (inv_ex G ha)]
  exact Classical.choose_spec (inv_ex G ha)
theorem zero_lt_len {T : List (List Int)} (G : IsGr T) : 0 < T.length := by have := G.1.1; omega
theorem cancel_l {T : List (List Int)} (G : IsGr T) {a b c : Nat} (ha : a < T.length) (hb : b < T.length) (hc : c < T.length) (h : mu T a b = mu T a c) : b = c := by
  obtain ⟨i1, i2, i3⟩ := inv_spec G ha
  have h1 := mu_as G i1 ha hb
  have h2 := mu_as G i1 ha hc
  rw [i3, mu_0l G hb] at h1
  rw [i3, mu_0l G hc] at h2
  rw [h1, h2, h]
theorem cancel_r {T : List (List Int)} (G : IsGr T) {a b c : Nat} (ha : a < T.length) (hb : b < T.length) (hc : c < T.length) (h : mu T b a = mu T c a) : b = c := by
  obtain ⟨i1, i2, i3⟩ := inv_spec G ha
  have h1 := mu_as G hb ha i1
  have h2 := mu_as G hc ha i1
  rw [i2, mu_0r G hb] at h1
  rw [i2, mu_0r G hc] at h2
  rw [← h1, ← h2, h]
theorem inv_uniq {T : List (List Int)} (G : IsGr T) {a b : Nat} (ha : a < T.length) (hb : b < T.length) (h : mu T a b = 0) : b = inv T a := by
  obtain ⟨i1, i2, i3⟩ := inv_spec G ha
  exact cancel_l G ha hb i1 (by rw [h, i2])
noncomputable def cj (T : List (List Int)) (c a : Nat) : Nat := mu T (mu T c a) (inv T c)
theorem cj_lt {T : List (List Int)} (G : IsGr T) {c a : Nat} (hc : c < T.length) (ha : a < T.length) : cj T c a < T.length := mu_lt G (mu_lt G hc ha) (inv_spec G hc).1
theorem cj_inj {T : List (List Int)} (G : IsGr T) {c a b : Nat} (hc : c < T.length) (ha : a < T.length) (hb : b < T.length) (h : cj T c a = cj T c b) : a = b :=
  cancel_l G hc ha hb (cancel_r G (inv_spec G hc).1 (mu_lt G hc ha) (mu_lt G hc hb) h)
end Go.Proofs.YtnfhglplafmfiaaGreatE

namespace Go.Proofs.YtnfhglplafmfiaaGreatE
open Go Go.Proofs
set_option maxHeartbeats 4000000
set_option maxRecDepth 4000
set_option linter.unusedSimpArgs false
set_option linter.unusedVariables false
set_option pp.deepTerms false
set_option pp.deepTerms.threshold 10
/-! ## cosets in numbers -/
def csH (T : List (List Int)) (h : List Int) (a : Nat) (k : Int) (num : List Int) : Nat → List Int
  | 0 => num
  | j + 1 => (csH T h a k num j).set (mu T a (rn h j).toNat) k
def csN (T : List (List Int)) (h : List Int) : Nat → List Int × List Int
  | 0 => (List.replicate T.length (-1), [])
  | a + 1 => if 0 ≤ rn (csN T h a).1 a then csN T h a else (csH T h a (csN T h a).2.length (csN T h a).1 h.length, (csN T h a).2 ++ [(a : Int)])
def nums (T : List (List Int)) (h : List Int) : List Int := (csN T h T.length).1
def firsts (T : List (List Int)) (h : List Int) : List Int := (csN T h T.length).2
theorem csH_len (T : List (List Int)) (h : List Int) (a : Nat) (k : Int) (num : List Int) : ∀ j, (csH T h a k num j).length = num.length
  | 0 => rfl
  | j + 1 => by simp -implicitDefEqProofs (maxSteps := 3000000) [csH, csH_len T h a k num j]
theorem csN_len (T : List (List Int)) (h : List Int) : ∀ a, (csN T h a).1.length = T.length
  | 0 => by simp -implicitDefEqProofs (maxSteps := 3000000) [csN]
  | a + 1 => by
    simp only [csN]
    split
    · exact csN_len T h a
    · rw [csH_len]; exact csN_len T h a
theorem csN_fst (T : List (List Int)) (h : List Int) : ∀ a, (csN T h a).2.length ≤ a ∧ ∀ i < (csN T h a).2.length, 0 ≤ rn (csN T h a).2 i ∧ rn (csN T h a).2 i < a
  | 0 => by simp -implicitDefEqProofs (maxSteps := 3000000) [csN]
  | a + 1 => by
    obtain ⟨h1, h2⟩ := csN_fst T h a
    simp only [csN]
    split
    · exact ⟨by omega, fun i hi => by have := h2 i hi; omega⟩
    · refine ⟨by simp; omega, fun i hi => ?_⟩
      simp only [List.length_append, List.length_singleton] at hi
      by_cases e : i < (csN T h a).2.length
      · rw [rn_app e]; have := h2 i e; omega
      · have e2 : i = (csN T h a).2.length := by omega
        subst e2
        simp -implicitDefEqProofs (maxSteps := 3000000) [rn, List.getD]
        omega
theorem csH_get {T : List (List Int)} {h : List Int} {a : Nat} {k : Int} {num : List Int} (hn : num.length = T.length) (hm : ∀ j < h.length, mu T a (rn h j).toNat < T.length) (b : Nat) (hb : b < T.length) : ∀ j ≤ h.length, rn (csH T h a k num j) b = k ∧ (∃ i < j, mu T a (rn h i).toNat = b) ∨ rn (csH T h a k num j) b = rn num b ∧ ¬ ∃ i < j, mu T a (rn h i).toNat = b
  | 0, _ => .inr ⟨rfl, fun ⟨i, hi, _⟩ => by omega⟩
  | j + 1, hj => by
    simp only [csH]
    rw [rn_setG, csH_len, hn]
    by_cases e : mu T a (rn h j).toNat = b
    · rw [if_pos ⟨e, hm j (by omega)⟩]
      exact .inl ⟨rfl, j, by omega, e⟩
    · rw [if_neg (fun z => e z.1)]
      rcases csH_get hn hm b hb j (by omega) with ⟨h1, i, h2, h3⟩ | ⟨h1, h2⟩
      · exact .inl ⟨h1, i, by omega, h3⟩
      · refine .inr ⟨h1, fun ⟨i, h3, h4⟩ => ?_⟩
        by_cases q : i = j
        · subst q; exact e h4
        · exact h2 ⟨i, by omega, h4⟩
theorem hg_mu {T : List (List Int)} {h : List Int} (H : HGood T h) {a : Nat} (ha : a < T.length) : ∀ j < h.length, mu T a (rn h j).toNat < T.length := fun j hj => by
  have := H.2.1.1 j hj
  exact mu_lt H.1 ha (by omega)
theorem csN_bd {T : List (List Int)} {h : List Int} (H : HGood T h) : ∀ a ≤ T.length, ∀ b < T.length, -1 ≤ rn (csN T h a).1 b ∧ rn (csN T h a).1 b < (csN T h a).2.length
  | 0, _, b, hb => by simp -implicitDefEqProofs (maxSteps := 3000000) [csN, rn, List.getD, hb]
  | a + 1, ha, b, hb => by
    have ih := csN_bd H a (by omega)
    simp only [csN]
    split
    · exact ih b hb
    · rcases csH_get (k := (csN T h a).2.length) (csN_len T h a) (hg_mu H (show a < T.length by omega)) b hb h.length (Nat.le_refl _) with ⟨h1, _⟩ | ⟨h1, _⟩
      · rw [h1]; simp; omega
      · rw [h1]; have := ih b hb; simp; omega
/-- A number that is set stays as it is, or is set anew to something not negative. -/
theorem csN_set {T : List (List Int)} {h : List Int} (H : HGood T h) : ∀ a ≤ T.length, ∀ b < a, 0 ≤ rn (csN T h a).1 b
  | 0, _, b, hb => by omega
  | a + 1, ha, b, hb => by
    have ih := csN_set H a (by omega)
    simp only [csN]
    split
    · rename_i h0
      by_cases e : b = a
      · rw [e]; exact h0
      · exact ih b (by omega)
    · rcases csH_get (k := (csN T h a).2.length) (csN_len T h a) (hg_mu H (show a < T.length by omega)) b (by omega) h.length (Nat.le_refl _) with ⟨h1, _⟩ | ⟨h1, h2⟩
      · rw [h1]; omega
      · rw [h1]
        by_cases e : b = a
        · exfalso
          subst e
          obtain ⟨i, hi, e0⟩ := mem_rn.1 H.2.2.1
          exact h2 ⟨i, hi, by rw [e0]; exact mu_0r H.1 (by omega)⟩
        · exact ih b (by omega)
theorem nums_bd {T : List (List Int)} {h : List Int} (H : HGood T h) (b : Nat) (hb : b < T.length) : 0 ≤ rn (nums T h) b ∧ rn (nums T h) b < (firsts T h).length :=
  ⟨csN_set H T.length (Nat.le_refl _) b hb, (csN_bd H T.length (Nat.le_refl _) b hb).2⟩
theorem nums_len (T : List (List Int)) (h : List Int) : (nums T h).length = T.length := csN_len T h T.length
theorem firsts_bd (T : List (List Int)) (h : List Int) : (firsts T h).length ≤ T.length ∧ ∀ i < (firsts T h).length, 0 ≤ rn (firsts T h) i ∧ rn (firsts T h) i < T.length := csN_fst T h T.length
end Go.Proofs.YtnfhglplafmfiaaGreatE

namespace Go.Proofs.YtnfhglplafmfiaaGreatE
open Go Go.Proofs
set_option maxHeartbeats 4000000
set_option maxRecDepth 4000
set_option linter.unusedSimpArgs false
set_option linter.unusedVariables false
set_option pp.deepTerms false
set_option pp.deepTerms.threshold 10
/-! ## inverses and conjugates -/
theorem ct_l01Inverse (n : Nat) (hn : B + 2 ≤ n) (T : List (List Int)) (G : IsGr T) (a : Nat) (ha : a < T.length) :
    evalCall Tryz.prog An n 148 [.agg [.d (intss T)], .d (.int .i64 a)] [] = some ⟨.d (.int .i64 (inv T a)), [], []⟩ := by
  obtain ⟨m, rfl⟩ : ∃ m, n = m + 1 := ⟨n - 1, by omega⟩
  have hB := B_eq
  simp only [evalCall_at, fb148, bnd_some, bodyOf, Tryz.f148, Option.getD_some]
  generalize hb0 : Code.loop _ = cc0
  obtain rfl : cc0 = .loop (lp Tryz.f148 0) := by rw [← hb0]; rfl
  clear hb0
  have hN := G.1.1
  have ra := (G.1.2 a ha).1
  have hi0 := inv_spec G ha
  simp -implicitDefEqProofs (maxSteps := 3000000)
  generalize hx : loopC _ _ _ = x
  generalize hl : lp Tryz.f148 0 = L at hx
  simp only [lp, bodyOf, Tryz.f148, Option.getD_some, loopsIn, List.append_nil, List.nil_append, List.cons_append, List.getD, List.getElem?_cons_zero, List.getElem?_cons_succ] at hl
  subst hl
  obtain ⟨q, rfl, hq⟩ := loop_end hx T.length (fun i s => i ≤ inv T a ∧ ∃ g, s = ⟨[(1, .d (.int .i64 a)), (2, .ptr 32 1 0), (5, .d (.int .i64 i))], [(32, some (1, .box [.d (intss T)]))], g⟩)
    (fun q => ∃ s, q = (.ret, s) ∧ lookL s.env 4 = some (.d (.int .i64 (inv T a))))
    (by show T.length < m; omega) ⟨by omega, by simp⟩
    (by
      rintro i s hi ⟨hp, g, rfl⟩
      have w2 := wrap_id (n := (i : Int) + 1) (by omega)
      have c1 := ct_l01N m (by omega) T
      have mc := (mu_cl G.1 ha hi).1
      by_cases p : cl T a i = 0
      · have e : i = inv T a := inv_uniq G ha hi (by omega)
        have p2 : (cl T a i == 0) = true := by simpa using p
        simp -implicitDefEqProofs (maxSteps := 3000000) [hi, ha, ra, c1, p, p2, w2]
        exact congrArg (fun (z : Nat) => (z : Int)) e
      · have p2 : (cl T a i == 0) = false := by simpa using p
        simp -implicitDefEqProofs (maxSteps := 3000000) [hi, ha, ra, c1, p, p2, w2]
        rcases Nat.lt_or_ge i (inv T a) with z | z
        · exact z
        · obtain rfl : i = inv T a := by omega
          exact absurd (by rw [mc, hi0.2.1]; rfl) p)
    (by
      rintro s ⟨hp, g, rfl⟩
      omega)
  obtain ⟨s, rfl, hf⟩ := hq
  simp -implicitDefEqProofs (maxSteps := 3000000) [hf]
theorem ct_inverse (n : Nat) (hn : B + 2 ≤ n) (T : List (List Int)) (G : IsGr T) (a : Nat) (ha : a < T.length) :
    evalCall Tryz.prog An n 135 [.agg [.d (intss T)], .d (.int .i64 a)] [] = some ⟨.d (.int .i64 (inv T a)), [], []⟩ := by
  obtain ⟨m, rfl⟩ : ∃ m, n = m + 1 := ⟨n - 1, by omega⟩
  have hB := B_eq
  simp only [evalCall_at, fb135, bnd_some, bodyOf, Tryz.f135, Option.getD_some]
  have hN := G.1.1
  have ra := (G.1.2 a ha).1
  have hi0 := inv_spec G ha
  rcases ct_Index m (by omega) (rown T a) 0 (by omega) with ⟨h1, c⟩ | ⟨j, ⟨h1, h2⟩, c⟩
  · exact absurd (show cl T a (inv T a) = 0 by rw [(mu_cl G.1 ha hi0.1).1, hi0.2.1]; rfl) (h1 (inv T a) (by rw [ra]; exact hi0.1))
  · rw [ra] at h1
    have e : j = inv T a := inv_uniq G ha h1 (by have := (mu_cl G.1 ha h1).1; simp only [cl] at this; omega)
    subst e
    simp -implicitDefEqProofs (maxSteps := 3000000) [ha, c]
theorem ct_l01Conjugate (n : Nat) (hn : B + 3 ≤ n) (T : List (List Int)) (G : IsGr T) (a c : Nat) (ha : a < T.length) (hc : c < T.length) :
    evalCall Tryz.prog An n 151 [.agg [.d (intss T)], .d (.int .i64 a), .d (.int .i64 c)] [] = some ⟨.d (.int .i64 (cj T c a)), [], []⟩ := by
  obtain ⟨m, rfl⟩ : ∃ m, n = m + 1 := ⟨n - 1, by omega⟩
  have hB := B_eq
  simp only [evalCall_at, fb151, bnd_some, bodyOf, Tryz.f151, Option.getD_some]
  have rc := (G.1.2 c hc).1
  have m1 := mu_cl G.1 hc ha
  have hi0 := inv_spec G hc
  have rm := (G.1.2 _ m1.2).1
  have m2 := mu_cl G.1 m1.2 hi0.1
  have c1 := ct_l01Inverse m (by omega) T G c hc
  have e : (cj T c a : Int) = cl T (mu T c a) (inv T c) := by rw [m2.1]; rfl
  rw [e]
  have h1 := m1.1
  have h2 := m1.2
  have h3 := hi0.1
  simp only [cl] at h1 ⊢
  simp -implicitDefEqProofs (maxSteps := 3000000) [hc, ha, rc, rm, h1, h2, h3, c1]
theorem ct_times3 (n : Nat) (hn : B + 1 ≤ n) (T : List (List Int)) (G : IsGr T) (a b c : Nat) (ha : a < T.length) (hb : b < T.length) (hc : c < T.length) :
    evalCall Tryz.prog An n 196 [.agg [.d (intss T)], .d (.sl 1 [.int .i64 a, .int .i64 b, .int .i64 c])] [] = some ⟨.d (.int .i64 (mu T (mu T a b) c)), [], []⟩ := by
  obtain ⟨m, rfl⟩ : ∃ m, n = m + 1 := ⟨n - 1, by omega⟩
  have hB := B_eq
  simp only [evalCall_at, fb196, bnd_some, bodyOf, Tryz.f196, Option.getD_some]
  generalize hb0 : Code.loop _ = cc0
  obtain rfl : cc0 = .loop (lp Tryz.f196 0) := by rw [← hb0]; rfl
  clear hb0
  have hz : 0 < T.length := by omega
  have r0 := (G.1.2 0 hz).1
  have ra := (G.1.2 a ha).1
  have m1 := mu_cl G.1 ha hb
  have rm := (G.1.2 _ m1.2).1
  have m2 := mu_cl G.1 m1.2 hc
  have e0 : cl T 0 a = a := by rw [(mu_cl G.1 hz ha).1, mu_0l G ha]
  simp -implicitDefEqProofs (maxSteps := 3000000)
  generalize hx : loopC _ _ _ = x
  generalize hl : lp Tryz.f196 0 = L at hx
  simp only [lp, bodyOf, Tryz.f196, Option.getD_some, loopsIn, List.append_nil, List.nil_append, List.cons_append, List.getD, List.getElem?_cons_zero, List.getElem?_cons_succ] at hl
  subst hl
  obtain ⟨q, rfl, hq⟩ := loop_end hx 3 (fun i s => ∃ g, s = ⟨[(2, .ptr 32 1 0), (5, .d (.int .i64 (if i = 0 then 0 else if i = 1 then a else if i = 2 then (mu T a b : Int) else (mu T (mu T a b) c : Int)))), (8, .d (.sl 1 [.int .i64 a, .int .i64 b, .int .i64 c])), (9, .d (.int .i64 3)), (10, .d (.int .i64 i))], [(32, some (1, .box [.d (intss T)]))], g⟩)
    (fun q => ∃ s, q = (.exit 0, s) ∧ lookL s.env 5 = some (.d (.int .i64 (mu T (mu T a b) c)))) (by show 3 < m; omega) (by simp -implicitDefEqProofs (maxSteps := 3000000))
    (by
      rintro i s hi ⟨g, rfl⟩
      have e : i = 0 ∨ i = 1 ∨ i = 2 := by omega
      have w1 := wrap_id (n := 1) (by omega)
      have w2 := wrap_id (n := 2) (by omega)
      have w3 := wrap_id (n := 3) (by omega)
      have h1 := m1.1
      have h2 := m1.2
      have h3 := m2.1
      simp only [cl] at e0 h1 h3
      rcases e with rfl | rfl | rfl
      · simp -implicitDefEqProofs (maxSteps := 3000000) [hz, r0, ha, e0, w1]
      · simp -implicitDefEqProofs (maxSteps := 3000000) [ha, hb, ra, h1, w2]
      · simp -implicitDefEqProofs (maxSteps := 3000000) [h2, hc, rm, h3, w3])
    (by
      rintro s ⟨g, rfl⟩
      simp -implicitDefEqProofs (maxSteps := 3000000))
  obtain ⟨s, rfl, hf⟩ := hq
  simp -implicitDefEqProofs (maxSteps := 3000000) [hf]
theorem ct_conjugate (n : Nat) (hn : B + 3 ≤ n) (T : List (List Int)) (G : IsGr T) (c a : Nat) (hc : c < T.length) (ha : a < T.length) :
    evalCall Tryz.prog An n 142 [.agg [.d (intss T)], .d (.int .i64 c), .d (.int .i64 a)] [] = some ⟨.d (.int .i64 (cj T c a)), [], []⟩ := by
  obtain ⟨m, rfl⟩ : ∃ m, n = m + 1 := ⟨n - 1, by omega⟩
  have hB := B_eq
  simp only [evalCall_at, fb142, bnd_some, bodyOf, Tryz.f142, Option.getD_some]
  have hi0 := inv_spec G hc
  have c1 := ct_inverse m (by omega) T G c hc
  have c2 := ct_times3 m (by omega) T G c a (inv T c) hc ha hi0.1
  simp -implicitDefEqProofs (maxSteps := 3000000) [c1, c2, cj]
end Go.Proofs.YtnfhglplafmfiaaGreatE
