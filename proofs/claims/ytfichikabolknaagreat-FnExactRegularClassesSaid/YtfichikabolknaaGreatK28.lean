/- Contracts of functions of the program and of the reference: what the evaluator gives for a call of each. -/
import Derived.Test.YtfichikabolknaaGreatAEf
import Derived.Test.YtfichikabolknaaGreatK0
import Derived.Test.YtfichikabolknaaGreatK19
import Derived.Test.YtfichikabolknaaGreatK26
import Derived.Test.YtfichikabolknaaGreatK27
namespace Go.Proofs.YtfichikabolknaaGreatE
open Go Go.Proofs
set_option maxHeartbeats 4000000
set_option maxRecDepth 4000
set_option linter.unusedSimpArgs false
set_option linter.unusedVariables false
set_option pp.deepTerms false
set_option pp.deepTerms.threshold 10
/-! ## slices.Sort of a short row -/
theorem ct_Len64 (n : Nat) (hn : B + 1 ≤ n) (y : Nat) (hy : y ≤ 12) : ∃ v : Int, evalCall Tryz.prog An n 369 [.d (.int .u64 y)] [] = some ⟨.d (.int .i64 v), [], []⟩ := by
  have e : y = 0 ∨ y = 1 ∨ y = 2 ∨ y = 3 ∨ y = 4 ∨ y = 5 ∨ y = 6 ∨ y = 7 ∨ y = 8 ∨ y = 9 ∨ y = 10 ∨ y = 11 ∨ y = 12 := by omega
  obtain ⟨m, rfl⟩ : ∃ m, n = m + 1 := ⟨n - 1, by omega⟩
  have hB := B_eq
  simp only [evalCall_at, fb369, bnd_some, bodyOf, Tryz.f369, Option.getD_some]
  rcases e with rfl | rfl | rfl | rfl | rfl | rfl | rfl | rfl | rfl | rfl | rfl | rfl | rfl <;> exact ⟨_, rfl⟩
theorem ct_Len (n : Nat) (hn : B + 2 ≤ n) (y : Nat) (hy : y ≤ 12) : ∃ v : Int, evalCall Tryz.prog An n 335 [.d (.int .u64 y)] [] = some ⟨.d (.int .i64 v), [], []⟩ := by
  obtain ⟨m, rfl⟩ : ∃ m, n = m + 1 := ⟨n - 1, by omega⟩
  have hB := B_eq
  simp only [evalCall_at, fb335, bnd_some, bodyOf, Tryz.f335, Option.getD_some]
  obtain ⟨v, c⟩ := ct_Len64 m (by omega) y hy
  refine ⟨v, ?_⟩
  simp -implicitDefEqProofs (maxSteps := 3000000) [c]
theorem ct_Sort (n : Nat) (hn : B + 5 ≤ n) (l : List Int) (hl : l.length ≤ 12) :
    ∃ Y : List Int, (Y.length = l.length ∧ (∀ x, Y.count x = l.count x) ∧ Srt Y l.length) ∧ evalCall Tryz.prog An n 280 [.own 100000 0] [.row (icells l)] = some ⟨.tuple [], [], [some (.row (icells Y))]⟩ := by
  obtain ⟨m, rfl⟩ : ∃ m, n = m + 1 := ⟨n - 1, by omega⟩
  have hB := B_eq
  simp only [evalCall_at, fb280, bnd_some, bodyOf, Tryz.f280, Option.getD_some]
  obtain ⟨v, c1⟩ := ct_Len m (by omega) l.length hl
  obtain ⟨Y, hY, c2⟩ := ct_pdqsort m (by omega) l hl v
  have w := wrap_u64 (n := (l.length : Int)) (by omega)
  refine ⟨Y, hY, ?_⟩
  simp -implicitDefEqProofs (maxSteps := 3000000) [c1, c2, w]
/-! ## ascending lists -/
theorem pw_ext : ∀ X Y : List Int, X.Pairwise (· < ·) → Y.Pairwise (· < ·) → (∀ z, z ∈ X ↔ z ∈ Y) → X = Y
  | [], [], _, _, _ => rfl
  | [], y :: Y, _, _, h => by have := (h y).2 (by simp -implicitDefEqProofs (maxSteps := 3000000)); simp -implicitDefEqProofs (maxSteps := 3000000) at this
  | x :: X, [], _, _, h => by have := (h x).1 (by simp -implicitDefEqProofs (maxSteps := 3000000)); simp -implicitDefEqProofs (maxSteps := 3000000) at this
  | x :: X, y :: Y, hX, hY, h => by
    rw [List.pairwise_cons] at hX hY
    have e : x = y := by
      have h1 := (h x).1 (by simp -implicitDefEqProofs (maxSteps := 3000000))
      have h2 := (h y).2 (by simp -implicitDefEqProofs (maxSteps := 3000000))
      rcases List.mem_cons.1 h1 with z | z
      · exact z
      · rcases List.mem_cons.1 h2 with z2 | z2
        · exact z2.symm
        · have := hY.1 x z; have := hX.1 y z2; omega
    subst e
    congr 1
    refine pw_ext X Y hX.2 hY.2 fun z => ⟨fun hz => ?_, fun hz => ?_⟩
    · rcases List.mem_cons.1 ((h z).1 (List.mem_cons_of_mem _ hz)) with q | q
      · have := hX.1 z hz; omega
      · exact q
    · rcases List.mem_cons.1 ((h z).2 (List.mem_cons_of_mem _ hz)) with q | q
      · have := hY.1 z hz; omega
      · exact q
theorem asc_lt {l : List Int} (h : AscL l) : ∀ (d p : Nat), p + d + 1 < l.length → rn l p < rn l (p + d + 1)
  | 0, p, hp => h p hp
  | d + 1, p, hp => by
    have h1 := asc_lt h d p (by omega)
    have h2 := h (p + d + 1) (by omega)
    rw [show p + (d + 1) + 1 = p + d + 1 + 1 by omega]; omega
theorem asc_pw {l : List Int} (h : AscL l) : l.Pairwise (· < ·) := by
  rw [List.pairwise_iff_getElem]
  intro i j hi hj hij
  have := asc_lt h (j - i - 1) i (by omega)
  rw [show i + (j - i - 1) + 1 = j by omega, rn_get hi, rn_get hj] at this
  exact this
theorem srt_pw {Y : List Int} (h : Srt Y Y.length) (hd : Y.Nodup) : Y.Pairwise (· < ·) := by
  rw [List.pairwise_iff_getElem]
  intro i j hi hj hij
  have h1 := h i j hij hj
  rw [rn_get hi, rn_get hj] at h1
  have h2 : Y[i] ≠ Y[j] := fun e => by
    have := (List.getElem_inj hd (h₀ := hi) (h₁ := hj)).1 e
    omega
  omega
theorem nodup_cnt {X Y : List Int} (h : ∀ x, Y.count x = X.count x) (hd : X.Nodup) : Y.Nodup := by
  rw [List.nodup_iff_count] at hd ⊢
  intro a
  rw [h]; exact hd a
theorem mem_cnt {X Y : List Int} (h : ∀ x, Y.count x = X.count x) (z : Int) : z ∈ Y ↔ z ∈ X := by
  rw [← List.count_pos_iff, ← List.count_pos_iff, h]
theorem mem_rn {l : List Int} {z : Int} : z ∈ l ↔ ∃ i < l.length, rn l i = z := by
  rw [List.mem_iff_getElem]
  constructor
  · rintro ⟨i, hi, rfl⟩; exact ⟨i, hi, rn_get hi⟩
  · rintro ⟨i, hi, rfl⟩; exact ⟨i, hi, (rn_get hi).symm⟩
theorem nodup_len : ∀ (N : Nat) (l : List Int), l.Nodup → (∀ x ∈ l, 0 ≤ x ∧ x < N) → l.length ≤ N
  | 0, l, _, h => by
    cases l with
    | nil => simp -implicitDefEqProofs (maxSteps := 3000000)
    | cons x l => have := h x (by simp -implicitDefEqProofs (maxSteps := 3000000)); omega
  | N + 1, l, hd, h => by
    by_cases hm : (N : Int) ∈ l
    · have h1 := nodup_len N (l.erase (N : Int)) (hd.erase _) fun x hx => by
        have h2 := (List.Nodup.mem_erase_iff hd).1 hx
        have := h x h2.2
        have := h2.1
        omega
      rw [List.length_erase_of_mem hm] at h1
      omega
    · have h1 := nodup_len N l hd fun x hx => by
        have h2 := h x hx
        have : x ≠ N := fun e => hm (e ▸ hx)
        omega
      omega
end Go.Proofs.YtfichikabolknaaGreatE
