/- Contracts of functions of the program and of the reference: what the evaluator gives for a call of each. -/
import Derived.Test.YtfichikabolknaaGreatAEf
import Derived.Test.YtfichikabolknaaGreatK0
import Derived.Test.YtfichikabolknaaGreatK3
import Derived.Test.YtfichikabolknaaGreatK26
import Derived.Test.YtfichikabolknaaGreatK28
import Derived.Test.YtfichikabolknaaGreatK29
import Derived.Test.YtfichikabolknaaGreatK31
import Derived.Test.YtfichikabolknaaGreatK33
import Derived.Test.YtfichikabolknaaGreatK34
import Derived.Test.YtfichikabolknaaGreatK35
import Derived.Test.YtfichikabolknaaGreatK37
namespace Go.Proofs.YtfichikabolknaaGreatE
open Go Go.Proofs
set_option maxHeartbeats 4000000
set_option maxRecDepth 4000
set_option linter.unusedSimpArgs false
set_option linter.unusedVariables false
set_option pp.deepTerms false
set_option pp.deepTerms.threshold 10
/-! ## conjugate subgroups, cosets: laws -/
theorem mu_0il {T : List (List Int)} (G : IsGr T) {a b : Nat} (ha : a < T.length) (hb : b < T.length) : mu T (inv T a) (mu T a b) = b := by
  obtain ⟨i1, i2, i3⟩ := inv_spec G ha
  rw [← mu_as G i1 ha hb, i3, mu_0l G hb]
theorem mu_0il' {T : List (List Int)} (G : IsGr T) {a b : Nat} (ha : a < T.length) (hb : b < T.length) : mu T (inv T a) (mu T a b) = b := mu_0il G ha hb
theorem inv_inv {T : List (List Int)} (G : IsGr T) {a : Nat} (ha : a < T.length) : inv T (inv T a) = a := by
  obtain ⟨i1, i2, i3⟩ := inv_spec G ha
  exact (inv_uniq G i1 ha i3).symm
theorem cj_mu {T : List (List Int)} (G : IsGr T) {c a b : Nat} (hc : c < T.length) (ha : a < T.length) (hb : b < T.length) : mu T (cj T c a) (cj T c b) = cj T c (mu T a b) := by
  obtain ⟨i1, i2, i3⟩ := inv_spec G hc
  have ca := mu_lt G hc ha
  have cb := mu_lt G hc hb
  have ab := mu_lt G ha hb
  unfold cj
  rw [← mu_as G (mu_lt G ca i1) cb i1]
  congr 1
  rw [mu_as G ca i1 cb, mu_0il' G hc hb, mu_as G hc ha hb]
theorem cj_back {T : List (List Int)} (G : IsGr T) {c a : Nat} (hc : c < T.length) (ha : a < T.length) : cj T (inv T c) (cj T c a) = a := by
  obtain ⟨i1, i2, i3⟩ := inv_spec G hc
  have ca := mu_lt G hc ha
  unfold cj
  rw [inv_inv G hc, ← mu_as G i1 ca i1, mu_0il G hc ha, mu_as G ha i1 hc, i3, mu_0r G ha]
theorem cj_0 {T : List (List Int)} (G : IsGr T) {c : Nat} (hc : c < T.length) : cj T c 0 = 0 := by
  unfold cj
  rw [mu_0r G hc]
  exact (inv_spec G hc).2.1
theorem mem_conjL {T : List (List Int)} (G : IsGr T) {h : List Int} (hS : SetOk T h) {c : Nat} (hc : c < T.length) (z : Int) : z ∈ conjL T h c ↔ ∃ a : Nat, (a : Int) ∈ h ∧ a < T.length ∧ z = (cj T c a : Int) := by
  have hN := G.1.1
  have hr := cjL_rg G hS.1 hc
  have hr8 : ∀ i < (cjL T h c h.length).length, 0 ≤ rn (cjL T h c h.length) i ∧ rn (cjL T h c h.length) i < 8 := fun i hi => by have := hr i hi; omega
  rw [conjL, mem_bitL]
  constructor
  · rintro ⟨a, _, h1, rfl⟩
    rw [bits_tb hr8, mem_rn] at h1
    obtain ⟨i, hi, e⟩ := h1
    have hi' : i < h.length := by simpa [cjL] using hi
    have e2 : rn (cjL T h c h.length) i = (cj T c (rn h i).toNat : Int) := rn_tabI _ hi'
    have h3 := hS.1 i hi'
    refine ⟨(rn h i).toNat, mem_rn.2 ⟨i, hi', by omega⟩, by omega, by omega⟩
  · rintro ⟨a, h1, h2, rfl⟩
    have h4 := cj_lt G hc h2
    refine ⟨cj T c a, by omega, ?_, rfl⟩
    rw [bits_tb hr8, mem_rn]
    obtain ⟨i, hi, e⟩ := mem_rn.1 h1
    refine ⟨i, by simpa [cjL] using hi, ?_⟩
    have e2 : rn (cjL T h c h.length) i = (cj T c (rn h i).toNat : Int) := rn_tabI _ hi
    rw [e2, e, Int.toNat_natCast]
theorem pw_asc {l : List Int} (h : l.Pairwise (· < ·)) : AscL l := fun i hi => by
  rw [List.pairwise_iff_getElem] at h
  have := h i (i + 1) (by omega) hi (by omega)
  rwa [rn_get (by omega), rn_get hi]
theorem nodup_sub : ∀ (X Y : List Int), X.Nodup → (∀ x ∈ X, x ∈ Y) → X.length ≤ Y.length
  | [], _, _, _ => by simp -implicitDefEqProofs (maxSteps := 3000000)
  | a :: X, Y, hd, h => by
    rw [List.nodup_cons] at hd
    have h1 := h a (by simp -implicitDefEqProofs (maxSteps := 3000000))
    have h2 := List.length_erase_of_mem h1
    have h3 := nodup_sub X (Y.erase a) hd.2 fun x hx => by
      have : x ≠ a := fun e => hd.1 (e ▸ hx)
      exact (List.mem_erase_of_ne this).2 (h x (by simp -implicitDefEqProofs (maxSteps := 3000000) [hx]))
    have h4 := List.length_pos_of_mem h1
    simp only [List.length_cons]
    omega
theorem conjL_good {T : List (List Int)} {h : List Int} (H : HGood T h) {c : Nat} (hc : c < T.length) : HGood T (conjL T h c) := by
  have G := H.1
  refine ⟨G, ⟨fun i hi => ?_, pw_asc (thoseL_pw _ _)⟩, ?_, ?_⟩
  · obtain ⟨a, _, h2, e⟩ := (mem_conjL G H.2.1 hc _).1 (mem_rn.2 ⟨i, hi, rfl⟩)
    have := cj_lt G hc h2
    omega
  · exact (mem_conjL G H.2.1 hc _).2 ⟨0, H.2.2.1, zero_lt_len G, by rw [cj_0 G hc]; rfl⟩
  · intro x y hx hy
    obtain ⟨a, a1, a2, e1⟩ := (mem_conjL G H.2.1 hc _).1 hx
    obtain ⟨b, b1, b2, e2⟩ := (mem_conjL G H.2.1 hc _).1 hy
    have e1' : x = cj T c a := by omega
    have e2' : y = cj T c b := by omega
    subst e1' e2'
    have m1 := mu_cl G.1 (cj_lt G hc a2) (cj_lt G hc b2)
    have m2 := mu_cl G.1 a2 b2
    refine (mem_conjL G H.2.1 hc _).2 ⟨mu T a b, ?_, m2.2, ?_⟩
    · rw [← m2.1]; exact H.2.2.2 a b a1 b1
    · rw [m1.1, cj_mu G hc a2 b2]
theorem conjL_len {T : List (List Int)} {h : List Int} (H : HGood T h) {c : Nat} (hc : c < T.length) : (conjL T h c).length = h.length := by
  have G := H.1
  have h1 := nodup_sub (conjL T h c) (cjL T h c h.length) (setOk_nodup (conjL_good H hc).2.1) fun x hx => by
    obtain ⟨a, a1, a2, rfl⟩ := (mem_conjL G H.2.1 hc _).1 hx
    obtain ⟨i, hi, e⟩ := mem_rn.1 a1
    refine mem_rn.2 ⟨i, by simpa [cjL] using hi, ?_⟩
    have e2 : rn (cjL T h c h.length) i = (cj T c (rn h i).toNat : Int) := rn_tabI _ hi
    rw [e2, e, Int.toNat_natCast]
  have h2 := nodup_sub (cjL T h c h.length) (conjL T h c) (cjL_nodup G H.2.1 hc) fun x hx => by
    obtain ⟨i, hi, e⟩ := mem_rn.1 hx
    have hi' : i < h.length := by simpa [cjL] using hi
    have e2 : rn (cjL T h c h.length) i = (cj T c (rn h i).toNat : Int) := rn_tabI _ hi'
    have h3 := H.2.1.1 i hi'
    exact (mem_conjL G H.2.1 hc _).2 ⟨(rn h i).toNat, mem_rn.2 ⟨i, hi', by omega⟩, by omega, by omega⟩
  have h3 : (cjL T h c h.length).length = h.length := by simp -implicitDefEqProofs (maxSteps := 3000000) [cjL]
  omega
/-- Every element is the first of its coset, times an element of the subgroup. -/
theorem csN_hit {T : List (List Int)} {h : List Int} (H : HGood T h) : ∀ a ≤ T.length, ∀ b < T.length, 0 ≤ rn (csN T h a).1 b → ∃ i < h.length, mu T (rn (csN T h a).2 (rn (csN T h a).1 b).toNat).toNat (rn h i).toNat = b
  | 0, _, b, hb, hz => by simp -implicitDefEqProofs (maxSteps := 3000000) [csN, rn, List.getD, hb] at hz
  | a + 1, ha, b, hb, hz => by
    have ih := csN_hit H a (by omega) b hb
    have bd := csN_bd H a (by omega) b hb
    simp only [csN] at hz ⊢
    split
    · rename_i h1
      rw [if_pos h1] at hz
      exact ih hz
    · rename_i h1
      rw [if_neg h1] at hz
      simp only at hz ⊢
      rcases csH_get (k := ((csN T h a).2.length : Int)) (csN_len T h a) (hg_mu H (show a < T.length by omega)) b hb h.length (Nat.le_refl _) with ⟨e, i, hi, e2⟩ | ⟨e, _⟩
      · refine ⟨i, hi, ?_⟩
        rw [e, Int.toNat_natCast]
        have e3 : rn ((csN T h a).2 ++ [(a : Int)]) (csN T h a).2.length = a := by simp -implicitDefEqProofs (maxSteps := 3000000) [rn, List.getD]
        rw [e3, Int.toNat_natCast, e2]
      · rw [e] at hz ⊢
        obtain ⟨i, hi, e2⟩ := ih hz
        refine ⟨i, hi, ?_⟩
        have e3 : rn ((csN T h a).2 ++ [(a : Int)]) (rn (csN T h a).1 b).toNat = rn (csN T h a).2 (rn (csN T h a).1 b).toNat := by
          have hk : (rn (csN T h a).1 b).toNat < (csN T h a).2.length := by omega
          generalize (rn (csN T h a).1 b).toNat = q at hk
          simp only [rn, List.getD]
          rw [List.getElem?_append_left hk]
        rw [e3, e2]
end Go.Proofs.YtfichikabolknaaGreatE
