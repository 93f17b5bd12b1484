/- Contracts of functions of the program and of the reference: what the evaluator gives for a call of each. -/
import Derived.Test.YtfichikabolknaaGreatAEf
import Derived.Test.YtfichikabolknaaGreatK0
import Derived.Test.YtfichikabolknaaGreatK3
namespace Go.Proofs.YtfichikabolknaaGreatE
open Go Go.Proofs
set_option maxHeartbeats 4000000
set_option maxRecDepth 4000
set_option linter.unusedSimpArgs false
set_option linter.unusedVariables false
set_option pp.deepTerms false
set_option pp.deepTerms.threshold 10
/-! ## groups in numbers -/
def mu (T : List (List Int)) (a b : Nat) : Nat := (cl T a b).toNat
theorem mu_cl {T : List (List Int)} (R : RowsOk T) {a b : Nat} (ha : a < T.length) (hb : b < T.length) : cl T a b = (mu T a b : Int) ∧ mu T a b < T.length := by
  have := (R.2 a ha).2 b hb
  unfold mu
  omega
theorem mu_lt {T : List (List Int)} (G : IsGr T) {a b : Nat} (ha : a < T.length) (hb : b < T.length) : mu T a b < T.length := (mu_cl G.1 ha hb).2
theorem mu_as {T : List (List Int)} (G : IsGr T) {a b c : Nat} (ha : a < T.length) (hb : b < T.length) (hc : c < T.length) : mu T (mu T a b) c = mu T a (mu T b c) := by
  have := (G.2 a ha).2.1 b hb c hc
  unfold mu; rw [this]
theorem mu_0l {T : List (List Int)} (G : IsGr T) {a : Nat} (ha : a < T.length) : mu T 0 a = a := by
  have := (G.2 a ha).1.1
  unfold mu; omega
theorem mu_0r {T : List (List Int)} (G : IsGr T) {a : Nat} (ha : a < T.length) : mu T a 0 = a := by
  have := (G.2 a ha).1.2
  unfold mu; omega
theorem inv_ex {T : List (List Int)} (G : IsGr T) {a : Nat} (ha : a < T.length) : ∃ b, b < T.length ∧ mu T a b = 0 ∧ mu T b a = 0 := by
  obtain ⟨b, hb, h1, h2⟩ := (G.2 a ha).2.2
  exact ⟨b, hb, by unfold mu; omega, by unfold mu; omega⟩
open Classical in
noncomputable def inv (T : List (List Int)) (a : Nat) : Nat := if h : ∃ b, b < T.length ∧ mu T a b = 0 ∧ mu T b a = 0 then Classical.choose h else 0
theorem inv_spec {T : List (List Int)} (G : IsGr T) {a : Nat} (ha : a < T.length) : inv T a < T.length ∧ mu T a (inv T a) = 0 ∧ mu T (inv T a) a = 0 := by
  unfold inv
  rw [dif_pos (inv_ex G ha)]
  exact Classical.choose_spec (inv_ex G ha)
theorem zero_lt_len {T : List (List Int)} (G : IsGr T) : 0 < T.length := by have := G.1.1; omega
theorem cancel_l {T : List (List Int)} (G : IsGr T) {a b c : Nat} (ha : a < T.length) (hb : b < T.length) (hc : c < T.length) (h : mu T a b = mu T a c) : b = c := by
  obtain ⟨i1, i2, i3⟩ := inv_spec G ha
  have h1 := mu_as G i1 ha hb
  have h2 := mu_as G i1 ha hc
  rw [i3, mu_0l G hb] at h1
  rw [i3, mu_0l G hc] at h2
  rw [h1, h2, h]
theorem cancel_r {T : List (List Int)} (G : IsGr T) {a b c : Nat} (ha : a < T.length) (hb : b < T.length) (hc : c < T.length) (h : mu T b a = mu T c a) : b = c := by
  obtain ⟨i1, i2, i3⟩ := inv_spec G ha
  have h1 := mu_as G hb ha i1
  have h2 := mu_as G hc ha i1
  rw [i2, mu_0r G hb] at h1
  rw [i2, mu_0r G hc] at h2
  rw [← h1, ← h2, h]
theorem inv_uniq {T : List (List Int)} (G : IsGr T) {a b : Nat} (ha : a < T.length) (hb : b < T.length) (h : mu T a b = 0) : b = inv T a := by
  obtain ⟨i1, i2, i3⟩ := inv_spec G ha
  exact cancel_l G ha hb i1 (by rw [h, i2])
noncomputable def cj (T : List (List Int)) (c a : Nat) : Nat := mu T (mu T c a) (inv T c)
theorem cj_lt {T : List (List Int)} (G : IsGr T) {c a : Nat} (hc : c < T.length) (ha : a < T.length) : cj T c a < T.length := mu_lt G (mu_lt G hc ha) (inv_spec G hc).1
theorem cj_inj {T : List (List Int)} (G : IsGr T) {c a b : Nat} (hc : c < T.length) (ha : a < T.length) (hb : b < T.length) (h : cj T c a = cj T c b) : a = b :=
  cancel_l G hc ha hb (cancel_r G (inv_spec G hc).1 (mu_lt G hc ha) (mu_lt G hc hb) h)
end Go.Proofs.YtfichikabolknaaGreatE
