/- Contracts of functions of the program and of the reference: what the evaluator gives for a call of each. -/
import Derived.Test.YtnfhglplafmfiaaGreatAEf
import Derived.Test.YtnfhglplafmfiaaGreatK1M
import Derived.Test.YtnfhglplafmfiaaGreatK3M
import Derived.Test.YtnfhglplafmfiaaGreatK16
import Derived.Test.YtnfhglplafmfiaaGreatK90M
import Derived.Test.YtnfhglplafmfiaaGreatK91
import Derived.Test.YtnfhglplafmfiaaGreatK98M
import Derived.Test.YtnfhglplafmfiaaGreatK100M
import Derived.Test.YtnfhglplafmfiaaGreatK103
namespace Go.Proofs.YtnfhglplafmfiaaGreatE
open Go Go.Proofs
set_option maxHeartbeats 16000000
set_option maxRecDepth 8000
set_option linter.unusedSimpArgs false
set_option linter.unusedVariables false
set_option linter.unusedSectionVars false
set_option pp.deepTerms false
set_option pp.deepTerms.threshold 10
/-! ## the rows ahead of a place, cut there -/
def cutF (W : Nat) (w : Nat → Int) (i : Nat) : Int := if i < W then w i else 0
def hdR (R : List (List Int)) (W J : Nat) : List (List Int) := (List.range W).map fun i => if i < J then (rown R i).take W else []
@[simp] theorem hdR_len (R : List (List Int)) (W J : Nat) : (hdR R W J).length = W := by simp -implicitDefEqProofs (maxSteps := 3000000) [hdR]
theorem hdR_get (R : List (List Int)) (W J k : Nat) : rown (hdR R W J) k = if k < W then (if k < J then (rown R k).take W else []) else [] := rown_map_range _ _ _
theorem hdR_0 (R : List (List Int)) (W : Nat) : List.replicate W [] = hdR R W 0 := by
  apply List.ext_getElem
  · simp -implicitDefEqProofs (maxSteps := 3000000)
  · intro i h1 h2; simp -implicitDefEqProofs (maxSteps := 3000000) [hdR]
theorem hdR_same {R : List (List Int)} {W j : Nat} (h : rown R j = [] ∨ W ≤ j) : hdR R W j = hdR R W (j + 1) := by
  unfold hdR
  apply List.map_congr_left
  intro i hi
  have hiW := List.mem_range.1 hi
  by_cases e : i = j
  · rcases h with h | h
    · rw [if_neg (by omega), if_pos (by omega), e, h]; simp -implicitDefEqProofs (maxSteps := 3000000)
    · omega
  · by_cases h2 : i < j
    · rw [if_pos h2, if_pos (by omega)]
    · rw [if_neg h2, if_neg (by omega)]
theorem hdR_set {R : List (List Int)} {W j : Nat} (hj : j < W) : (hdR R W j).set j ((rown R j).take W) = hdR R W (j + 1) := by
  apply List.ext_getElem
  · simp -implicitDefEqProofs (maxSteps := 3000000)
  · intro i h1 h2
    simp only [List.length_set, hdR_len] at h1
    rw [List.getElem_set]
    by_cases e : j = i
    · subst e; simp -implicitDefEqProofs (maxSteps := 3000000) [hdR]
    · rw [if_neg e]
      simp only [hdR, List.getElem_map, List.getElem_range]
      by_cases h3 : i < j
      · rw [if_pos h3, if_pos (by omega)]
      · rw [if_neg h3, if_neg (by omega)]
theorem prt_lt {R : List (List Int)} {W j : Nat} (h : j < W) : prt R W j = prt R W (j + 1) := by
  unfold prt
  apply List.map_congr_left
  intro i hi
  rw [if_neg (by omega), if_neg (by omega)]
theorem prt_00 (R : List (List Int)) (P : Nat) : List.replicate (R.length - P) [] = prt R P 0 := by
  apply List.ext_getElem
  · simp -implicitDefEqProofs (maxSteps := 3000000)
  · intro i h1 h2; simp -implicitDefEqProofs (maxSteps := 3000000) [prt]
theorem rn_takeC (l : List Int) (W i : Nat) : rn (l.take W) i = cutF W (rn l) i := by
  unfold cutF
  by_cases h : i < W
  · rw [if_pos h, rn_take h]
  · rw [if_neg h, rn_ge (by rw [List.length_take]; omega)]
section
variable {M : Int} {N : Nat} {R : List (List Int)} (S : Sat M N R []) {W : Nat} (hW : W ≤ N)
include S hW
theorem hdN_get (j : Nat) (h : rown (hdR R W N) j ≠ []) : j < W ∧ rown R j ≠ [] ∧ rown (hdR R W N) j = (rown R j).take W := by
  rw [hdR_get] at h ⊢
  by_cases h1 : j < W
  · rw [if_pos h1, if_pos (by omega)] at h ⊢
    exact ⟨h1, fun z => h (by rw [z]; simp -implicitDefEqProofs (maxSteps := 3000000)), rfl⟩
  · rw [if_neg h1] at h; exact absurd rfl h
theorem hdN_ne {j : Nat} (h1 : j < W) (h : rown R j ≠ []) : rown (hdR R W N) j = (rown R j).take W ∧ (rown R j).take W ≠ [] := by
  have hl := (S.rws.row j h).1.1
  rw [hdR_get, if_pos h1, if_pos (by omega)]
  refine ⟨rfl, fun z => ?_⟩
  have := congrArg List.length z
  simp -implicitDefEqProofs (maxSteps := 3000000) [hl] at this; omega
theorem cut_sp (k : Nat) (w : Nat → Int) (h : Sp M (GR R k) w) : Sp M (GR (hdR R W N) k) (cutF W w) := by
  refine h.map (cutF W) (fun u h => .zero fun i => ?_) (fun u w g x h hg hu => ?_)
  · unfold cutF; split
    · exact h i
    · exact Int.dvd_zero M
  · obtain ⟨j, hj, hne, rfl⟩ := hg
    by_cases hjW : j < W
    · obtain ⟨q1, q2⟩ := hdN_ne S hW hjW hne
      refine .step x ⟨j, hj, by rw [q1]; exact q2, rfl⟩ hu fun i => ?_
      rw [q1, rn_takeC]
      unfold cutF
      by_cases hi : i < W
      · rw [if_pos hi, if_pos hi, if_pos hi]; exact h i
      · rw [if_neg hi, if_neg hi, if_neg hi]; simp -implicitDefEqProofs (maxSteps := 3000000)
    · refine hu.cong fun i => ?_
      unfold cutF
      by_cases hi : i < W
      · rw [if_pos hi, if_pos hi]
        have h2 := h i
        rwa [(S.rws.row j hne).2.1 i (by omega), Int.mul_zero, Int.add_zero] at h2
      · rw [if_neg hi, if_neg hi, Int.sub_self]; exact Int.dvd_zero M
theorem hd_sat : Sat M W (hdR R W N) [] := by
  refine ⟨⟨hdR_len .., fun j h => ?_⟩, fun v hv => by simp -implicitDefEqProofs (maxSteps := 3000000) at hv, fun j h => ?_⟩
  · obtain ⟨h1, h2, h3⟩ := hdN_get S hW j h
    obtain ⟨hv, hz, h0, hd⟩ := S.rws.row j h2
    rw [h3]
    have e : rn ((rown R j).take W) j = rn (rown R j) j := rn_take h1
    refine ⟨⟨by rw [List.length_take, hv.1]; omega, fun i => ?_⟩, fun i hi => by rw [rn_take (by omega)]; exact hz i hi, by rw [e]; exact h0, by rw [e]; exact hd⟩
    rw [rn_takeC]
    unfold cutF
    split
    · exact hv.2 i
    · have := hv.2 0; omega
  · obtain ⟨h1, h2, h3⟩ := hdN_get S hW j h
    have h4 := cut_sp S hW (j + 1) _ ((S.sat j h2).mono fun g hg => GA_nil.1 hg)
    refine (h4.mono fun g hg => GA_nil.2 hg).cong fun i => ?_
    have e : rn ((rown R j).take W) j = rn (rown R j) j := rn_take h1
    rw [h3, e, rn_takeC]
    unfold cutF
    split
    · rw [Int.sub_self]; exact Int.dvd_zero M
    · simp -implicitDefEqProofs (maxSteps := 3000000)
theorem hd_sp (v : Nat → Int) : Sp M (GR (hdR R W N) 0) v ↔ ∃ w, Sp M (GR R 0) w ∧ ∀ i, M ∣ v i - cutF W w i := by
  constructor
  · intro h
    induction h with
    | @zero v h => exact ⟨fun _ => 0, .zero fun i => Int.dvd_zero M, fun i => by unfold cutF; simpa using h i⟩
    | @step v w g x hg hu h ih =>
      obtain ⟨t, ht, ht2⟩ := ih
      obtain ⟨j, hj, hne, rfl⟩ := hg
      obtain ⟨h1, h2, h3⟩ := hdN_get S hW j hne
      refine ⟨fun i => t i + x * rn (rown R j) i, .step x ⟨j, by omega, h2, rfl⟩ ht fun i => by simp, fun i => ?_⟩
      have a := h i
      have b := ht2 i
      rw [h3, rn_takeC] at a
      by_cases hi : i < W
      · simp only [cutF, if_pos hi] at a b ⊢
        have c := Int.dvd_add a b
        rwa [show w i - (v i + x * rn (rown R j) i) + (v i - t i) = w i - (t i + x * rn (rown R j) i) by omega] at c
      · simp only [cutF, if_neg hi] at a b ⊢
        have c := Int.dvd_add a b
        rwa [show w i - (v i + x * 0) + (v i - 0) = w i - 0 by omega] at c
  · rintro ⟨w, hw, h⟩
    exact (cut_sp S hW 0 w hw).cong h
end
/-- What the cut rows of boundaries and their cochains span. -/
theorem hd_bc {T : List (List Int)} (R0 : RowsOk T) {M : Int} {U : List Int} {p : Nat} {R : List (List Int)} (S : Sat M ((T.length - 1) ^ (p + 1) + (T.length - 1) ^ p) R [])
    (h : ∀ u, Sp M (GR R 0) u ↔ Sp M (GL (bdUs T M U p ((T.length - 1) ^ p))) u) (v : Nat → Int) :
    Sp M (GR (hdR R ((T.length - 1) ^ (p + 1)) ((T.length - 1) ^ (p + 1) + (T.length - 1) ^ p)) 0) v ↔ Bc T M U (p + 1) v := by
  rw [hd_sp S (by omega)]
  have hc : ∀ (u : Nat → Int) (i : Nat), cutF ((T.length - 1) ^ (p + 1)) (pairF T U p u) i = dF T U p u i := by
    intro u i
    unfold cutF pairF
    by_cases hi : i < (T.length - 1) ^ (p + 1)
    · rw [if_pos hi, if_pos hi]
    · rw [if_neg hi, dF, if_neg hi]
  constructor
  · rintro ⟨w, hw, h1⟩
    obtain ⟨u, _, hu⟩ := pair_sp ((h w).1 hw)
    refine ⟨u, fun i => ?_⟩
    have a := h1 i
    have b := hu i
    rw [← hc]
    by_cases hi : i < (T.length - 1) ^ (p + 1)
    · simp only [cutF, if_pos hi] at a b ⊢
      have c := Int.dvd_add a b
      rwa [show ∀ a b c : Int, a - b + (b - c) = a - c by intro a b c; omega] at c
    · simp only [cutF, if_neg hi] at a b ⊢; exact a
  · rintro ⟨t, ht⟩
    refine ⟨pairF T U p (trunc t ((T.length - 1) ^ p)), (h _).2 (pair_trunc_sp t _ (Nat.le_refl _)), fun i => ?_⟩
    rw [hc, dF_loc R0 (U := U) (u := trunc t ((T.length - 1) ^ p)) (w := t) (fun i hi => trunc_eq hi) i]
    exact ht i
end Go.Proofs.YtnfhglplafmfiaaGreatE
