/- Contracts of functions of the program and of the reference: what the evaluator gives for a call of each. -/
import Derived.Test.YtcdmhlagibjeiaaAEf
import Derived.Test.YtcdmhlagibjeiaaK0
import Derived.Test.YtcdmhlagibjeiaaK3
import Derived.Test.YtcdmhlagibjeiaaK24
import Derived.Test.YtcdmhlagibjeiaaK26
import Derived.Test.YtcdmhlagibjeiaaK28
import Derived.Test.YtcdmhlagibjeiaaK29
import Derived.Test.YtcdmhlagibjeiaaK31
import Derived.Test.YtcdmhlagibjeiaaK34
namespace Go.Proofs.YtcdmhlagibjeiaaE
open Go Go.Proofs
set_option maxHeartbeats 4000000
set_option maxRecDepth 4000
set_option linter.unusedSimpArgs false
set_option linter.unusedVariables false
set_option pp.deepTerms false
set_option pp.deepTerms.threshold 10
/-! ## the conjugate subgroup -/
noncomputable def cjL (T : List (List Int)) (h : List Int) (c i : Nat) : List Int := tabI (fun i => (cj T c (rn h i).toNat : Int)) i
theorem cjL_rg {T : List (List Int)} (G : IsGr T) {h : List Int} (hh : ∀ i < h.length, 0 ≤ rn h i ∧ rn h i < T.length) {c : Nat} (hc : c < T.length) : ∀ i < (cjL T h c h.length).length, 0 ≤ rn (cjL T h c h.length) i ∧ rn (cjL T h c h.length) i < T.length := fun i hi => by
  have hi' : i < h.length := by simpa [cjL] using hi
  have e : rn (cjL T h c h.length) i = (cj T c (rn h i).toNat : Int) := rn_tabI _ hi'
  have := cj_lt G hc (a := (rn h i).toNat) (by have := hh i hi'; omega)
  omega
theorem bitsA_tab (F : Nat → Int) (n : Nat) : ∀ i ≤ n, bitsA (tabI F n) i = bitsA (tabI F i) i
  | 0, _ => rfl
  | i + 1, h => by
    have e : ∀ j ≤ i, bitsA (tabI F (i + 1)) j = bitsA (tabI F n) j := by
      intro j
      induction j with
      | zero => intro _; rfl
      | succ j ih =>
        intro hj
        rw [bitsA, bitsA, ih (by omega), rn_tabI F (by omega), rn_tabI F (by omega)]
    rw [bitsA, bitsA, e i (Nat.le_refl i), rn_tabI F (by omega), rn_tabI F (by omega)]
theorem thoseL_pw (q : Nat → Bool) : ∀ n : Nat, (thoseL q n).Pairwise (· < ·)
  | 0 => by simp -implicitDefEqProofs (maxSteps := 3000000)
  | n + 1 => by
    rw [thoseL_succ, List.pairwise_append]
    refine ⟨thoseL_pw q n, by split <;> simp, fun x hx y hy => ?_⟩
    obtain ⟨a, h1, _, rfl⟩ := (mem_those q x n).1 hx
    split at hy
    · simp only [List.mem_singleton] at hy; subst hy; omega
    · simp -implicitDefEqProofs (maxSteps := 3000000) at hy
/-- The bits of a list of different small numbers, listed, are the list, sorted. -/
theorem sort_bits {X Y : List Int} (h : ∀ i < X.length, 0 ≤ rn X i ∧ rn X i < 8) (hY : Y.Pairwise (· < ·) ∧ ∀ z, z ∈ Y ↔ z ∈ X) : Y = bitL (bitsOf X) :=
  pw_ext _ _ hY.1 (thoseL_pw _ _) fun z => by
    rw [hY.2, mem_bitL]
    constructor
    · intro hz
      obtain ⟨i, hi, e⟩ := mem_rn.1 hz
      have := h i hi
      refine ⟨z.toNat, by omega, (bits_tb h _).2 ?_, by omega⟩
      rwa [Int.toNat_of_nonneg (by omega)]
    · rintro ⟨a, _, h1, rfl⟩
      exact (bits_tb h a).1 h1
noncomputable def conjL (T : List (List Int)) (h : List Int) (c : Nat) : List Int := bitL (bitsOf (cjL T h c h.length))
theorem cjL_nodup {T : List (List Int)} (G : IsGr T) {h : List Int} (hS : SetOk T h) {c : Nat} (hc : c < T.length) : (cjL T h c h.length).Nodup := by
  have hh : ∀ i < h.length, 0 ≤ rn h i ∧ rn h i < T.length := hS.1
  have hd := setOk_nodup hS
  unfold cjL tabI
  rw [List.nodup_iff_pairwise_ne] at hd ⊢
  rw [List.pairwise_map]
  refine List.Pairwise.imp_of_mem ?_ List.pairwise_lt_range
  intro a b ha hb hab e
  rw [List.mem_range] at ha hb
  have h1 := hh a ha
  have h2 := hh b hb
  have h3 := cj_inj G hc (a := (rn h a).toNat) (b := (rn h b).toNat) (by omega) (by omega) (by omega)
  have h4 : rn h a = rn h b := by omega
  rw [List.pairwise_iff_getElem] at hd
  exact hd a b ha hb hab (by rw [rn_get ha, rn_get hb] at h4; exact h4)
end Go.Proofs.YtcdmhlagibjeiaaE
