/- Contracts of functions of the program and of the reference: what the evaluator gives for a call of each. -/
import Derived.Test.YtfichikabolknaaGreatAEf
import Derived.Test.YtfichikabolknaaGreatK0
import Derived.Test.YtfichikabolknaaGreatK27
import Derived.Test.YtfichikabolknaaGreatK28
import Derived.Test.YtfichikabolknaaGreatK32
import Derived.Test.YtfichikabolknaaGreatK33
import Derived.Test.YtfichikabolknaaGreatK34
namespace Go.Proofs.YtfichikabolknaaGreatE
open Go Go.Proofs
set_option maxHeartbeats 4000000
set_option maxRecDepth 4000
set_option linter.unusedSimpArgs false
set_option linter.unusedVariables false
set_option pp.deepTerms false
set_option pp.deepTerms.threshold 10
/-! ## cosets in numbers -/
def csH (T : List (List Int)) (h : List Int) (a : Nat) (k : Int) (num : List Int) : Nat → List Int
  | 0 => num
  | j + 1 => (csH T h a k num j).set (mu T a (rn h j).toNat) k
def csN (T : List (List Int)) (h : List Int) : Nat → List Int × List Int
  | 0 => (List.replicate T.length (-1), [])
  | a + 1 => if 0 ≤ rn (csN T h a).1 a then csN T h a else (csH T h a (csN T h a).2.length (csN T h a).1 h.length, (csN T h a).2 ++ [(a : Int)])
def nums (T : List (List Int)) (h : List Int) : List Int := (csN T h T.length).1
def firsts (T : List (List Int)) (h : List Int) : List Int := (csN T h T.length).2
theorem csH_len (T : List (List Int)) (h : List Int) (a : Nat) (k : Int) (num : List Int) : ∀ j, (csH T h a k num j).length = num.length
  | 0 => rfl
  | j + 1 => by simp -implicitDefEqProofs (maxSteps := 3000000) [csH, csH_len T h a k num j]
theorem csN_len (T : List (List Int)) (h : List Int) : ∀ a, (csN T h a).1.length = T.length
  | 0 => by simp -implicitDefEqProofs (maxSteps := 3000000) [csN]
  | a + 1 => by
    simp only [csN]
    split
    · exact csN_len T h a
    · rw [csH_len]; exact csN_len T h a
theorem csN_fst (T : List (List Int)) (h : List Int) : ∀ a, (csN T h a).2.length ≤ a ∧ ∀ i < (csN T h a).2.length, 0 ≤ rn (csN T h a).2 i ∧ rn (csN T h a).2 i < a
  | 0 => by simp -implicitDefEqProofs (maxSteps := 3000000) [csN]
  | a + 1 => by
    obtain ⟨h1, h2⟩ := csN_fst T h a
    simp only [csN]
    split
    · exact ⟨by omega, fun i hi => by have := h2 i hi; omega⟩
    · refine ⟨by simp; omega, fun i hi => ?_⟩
      simp only [List.length_append, List.length_singleton] at hi
      by_cases e : i < (csN T h a).2.length
      · rw [rn_app e]; have := h2 i e; omega
      · have e2 : i = (csN T h a).2.length := by omega
        subst e2
        simp -implicitDefEqProofs (maxSteps := 3000000) [rn, List.getD]
        omega
theorem csH_get {T : List (List Int)} {h : List Int} {a : Nat} {k : Int} {num : List Int} (hn : num.length = T.length) (hm : ∀ j < h.length, mu T a (rn h j).toNat < T.length) (b : Nat) (hb : b < T.length) : ∀ j ≤ h.length, rn (csH T h a k num j) b = k ∧ (∃ i < j, mu T a (rn h i).toNat = b) ∨ rn (csH T h a k num j) b = rn num b ∧ ¬ ∃ i < j, mu T a (rn h i).toNat = b
  | 0, _ => .inr ⟨rfl, fun ⟨i, hi, _⟩ => by omega⟩
  | j + 1, hj => by
    simp only [csH]
    rw [rn_setG, csH_len, hn]
    by_cases e : mu T a (rn h j).toNat = b
    · rw [if_pos ⟨e, hm j (by omega)⟩]
      exact .inl ⟨rfl, j, by omega, e⟩
    · rw [if_neg (fun z => e z.1)]
      rcases csH_get hn hm b hb j (by omega) with ⟨h1, i, h2, h3⟩ | ⟨h1, h2⟩
      · exact .inl ⟨h1, i, by omega, h3⟩
      · refine .inr ⟨h1, fun ⟨i, h3, h4⟩ => ?_⟩
        by_cases q : i = j
        · subst q; exact e h4
        · exact h2 ⟨i, by omega, h4⟩
theorem hg_mu {T : List (List Int)} {h : List Int} (H : HGood T h) {a : Nat} (ha : a < T.length) : ∀ j < h.length, mu T a (rn h j).toNat < T.length := fun j hj => by
  have := H.2.1.1 j hj
  exact mu_lt H.1 ha (by omega)
theorem csN_bd {T : List (List Int)} {h : List Int} (H : HGood T h) : ∀ a ≤ T.length, ∀ b < T.length, -1 ≤ rn (csN T h a).1 b ∧ rn (csN T h a).1 b < (csN T h a).2.length
  | 0, _, b, hb => by simp -implicitDefEqProofs (maxSteps := 3000000) [csN, rn, List.getD, hb]
  | a + 1, ha, b, hb => by
    have ih := csN_bd H a (by omega)
    simp only [csN]
    split
    · exact ih b hb
    · rcases csH_get (k := (csN T h a).2.length) (csN_len T h a) (hg_mu H (show a < T.length by omega)) b hb h.length (Nat.le_refl _) with ⟨h1, _⟩ | ⟨h1, _⟩
      · rw [h1]; simp; omega
      · rw [h1]; have := ih b hb; simp; omega
/-- A number that is set stays as it is, or is set anew to something not negative. -/
theorem csN_set {T : List (List Int)} {h : List Int} (H : HGood T h) : ∀ a ≤ T.length, ∀ b < a, 0 ≤ rn (csN T h a).1 b
  | 0, _, b, hb => by omega
  | a + 1, ha, b, hb => by
    have ih := csN_set H a (by omega)
    simp only [csN]
    split
    · rename_i h0
      by_cases e : b = a
      · rw [e]; exact h0
      · exact ih b (by omega)
    · rcases csH_get (k := (csN T h a).2.length) (csN_len T h a) (hg_mu H (show a < T.length by omega)) b (by omega) h.length (Nat.le_refl _) with ⟨h1, _⟩ | ⟨h1, h2⟩
      · rw [h1]; omega
      · rw [h1]
        by_cases e : b = a
        · exfalso
          subst e
          obtain ⟨i, hi, e0⟩ := mem_rn.1 H.2.2.1
          exact h2 ⟨i, hi, by rw [e0]; exact mu_0r H.1 (by omega)⟩
        · exact ih b (by omega)
theorem nums_bd {T : List (List Int)} {h : List Int} (H : HGood T h) (b : Nat) (hb : b < T.length) : 0 ≤ rn (nums T h) b ∧ rn (nums T h) b < (firsts T h).length :=
  ⟨csN_set H T.length (Nat.le_refl _) b hb, (csN_bd H T.length (Nat.le_refl _) b hb).2⟩
theorem nums_len (T : List (List Int)) (h : List Int) : (nums T h).length = T.length := csN_len T h T.length
theorem firsts_bd (T : List (List Int)) (h : List Int) : (firsts T h).length ≤ T.length ∧ ∀ i < (firsts T h).length, 0 ≤ rn (firsts T h) i ∧ rn (firsts T h) i < T.length := csN_fst T h T.length
end Go.Proofs.YtfichikabolknaaGreatE
