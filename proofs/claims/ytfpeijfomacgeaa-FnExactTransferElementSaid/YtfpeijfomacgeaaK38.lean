/- Contracts of functions of the program and of the reference: what the evaluator gives for a call of each. -/
import Derived.Test.YtfpeijfomacgeaaAEf
import Derived.Test.YtfpeijfomacgeaaK0
import Derived.Test.YtfpeijfomacgeaaK3
import Derived.Test.YtfpeijfomacgeaaK7
import Derived.Test.YtfpeijfomacgeaaK24
import Derived.Test.YtfpeijfomacgeaaK26
import Derived.Test.YtfpeijfomacgeaaK31
import Derived.Test.YtfpeijfomacgeaaK33
import Derived.Test.YtfpeijfomacgeaaK37
namespace Go.Proofs.YtfpeijfomacgeaaE
open Go Go.Proofs
set_option maxHeartbeats 4000000
set_option maxRecDepth 4000
set_option linter.unusedSimpArgs false
set_option linter.unusedVariables false
set_option pp.deepTerms false
set_option pp.deepTerms.threshold 10
/-! ## ConjugateSubgroup -/
open Classical in
noncomputable def cjcode (T : List (List Int)) (l : List Int) (c : Int) : Int := if IsGr T ∧ SetOk T l ∧ ¬ (0 ≤ c ∧ c < T.length) then 2 else subcode T l
theorem all1 {N : Int} {x : Int} : AllIn N [x] ↔ 0 ≤ x ∧ x < N := by
  simp -implicitDefEqProofs (maxSteps := 3000000) [AllIn, rn]
theorem cjcode_0 {T : List (List Int)} {l : List Int} {c : Int} (h : HGood T l) (hc : 0 ≤ c ∧ c < T.length) : cjcode T l c = 0 := by
  rw [cjcode, if_neg (fun z => z.2.2 hc)]; exact subcode_0 h
theorem cjcode_ne {T : List (List Int)} {l : List Int} {c : Int} (h : ¬ (HGood T l ∧ 0 ≤ c ∧ c < T.length)) : cjcode T l c ≠ 0 := by
  unfold cjcode
  split
  · omega
  · rename_i z
    refine subcode_ne fun q => h ⟨q, ?_⟩
    exact Classical.byContradiction fun w => z ⟨q.1, q.2.1, w⟩
theorem sub_set_ne {T : List (List Int)} {l : List Int} (h : setcode T l ≠ 0) : subcode T l = setcode T l := by
  unfold setcode subcode at *
  by_cases G : IsGr T
  · by_cases A : SetOk T l
    · rw [if_pos G, if_pos A] at h; exact absurd rfl h
    · rw [if_pos G, if_neg A, if_pos G, if_neg A]
  · rw [if_neg G, if_neg G]
theorem set_0 {T : List (List Int)} {l : List Int} (h : setcode T l = 0) : IsGr T ∧ SetOk T l := by
  unfold setcode at h
  by_cases G : IsGr T
  · by_cases A : SetOk T l
    · exact ⟨G, A⟩
    · rw [if_pos G, if_neg A] at h; omega
  · rw [if_neg G] at h; omega
theorem cj_set_ne {T : List (List Int)} {l : List Int} {c : Int} (h : setcode T l ≠ 0) : cjcode T l c = setcode T l := by
  rw [cjcode, if_neg (fun z => h (by rw [setcode, if_pos z.1, if_pos z.2.1]))]; exact sub_set_ne h
theorem ct_specCj_bad (n : Nat) (hn : B + 6 ≤ n) (T : List (List Int)) (hT : T.length ≤ 2000000) (l : List Int) (hl : l.length ≤ 10000000) (c : Int) (h : ¬ (HGood T l ∧ 0 ≤ c ∧ c < T.length)) :
    evalCall Try.prog An n 15 [.agg [.d (intss T)], .d (ints l), .d (.int .i64 c)] [] = some ⟨.tuple [.d .nil, .d (.int .i64 (cjcode T l c))], [], []⟩ := by
  obtain ⟨m, rfl⟩ : ∃ m, n = m + 1 := ⟨n - 1, by omega⟩
  have hB := B_eq
  simp only [evalCall_at, fb15, bnd_some, bodyOf, Try.f15, Option.getD_some]
  have c1 := ct_l01Set m (by omega) T (by omega) l hl
  have c3 := ct_l07Code m (by omega) T (by omega) l hl
  have ne := cjcode_ne h
  by_cases s0 : setcode T l = 0
  · obtain ⟨G, A⟩ := set_0 s0
    have c2 := ct_l01Elements m (by omega) T (by omega) [c] (by simp -implicitDefEqProofs (maxSteps := 3000000))
    rw [show ints [c] = .sl 1 [.int .i64 c] from rfl] at c2
    rw [s0] at c1
    by_cases q : 0 ≤ c ∧ c < T.length
    · have e2 : elcode T [c] = 0 := by rw [elcode, if_pos G, if_pos (all1.2 q)]
      have e3 : cjcode T l c = subcode T l := by rw [cjcode, if_neg (fun z => z.2.2 q)]
      rw [e2] at c2
      rw [e3] at ne ⊢
      have ne2 := bne_t ne
      simp -implicitDefEqProofs (maxSteps := 3000000) [c1, c2, c3, ne, ne2]
    · have e2 : elcode T [c] = 2 := by rw [elcode, if_pos G, if_neg (fun z => q (all1.1 z))]
      have e3 : cjcode T l c = 2 := by rw [cjcode, if_pos ⟨G, A, q⟩]
      rw [e2] at c2
      simp -implicitDefEqProofs (maxSteps := 3000000) [c1, c2, e3]
  · have e3 := cj_set_ne (c := c) s0
    have ne2 := bne_t s0
    have ne3 := beq_f s0
    simp -implicitDefEqProofs (maxSteps := 3000000) [c1, s0, ne2, ne3, e3]
theorem ct_specCj (n : Nat) (hn : B + 6 ≤ n) (T : List (List Int)) (hT : T.length ≤ 2000000) (l : List Int) (hl : l.length ≤ 10000000) (c : Int) (h : HGood T l ∧ 0 ≤ c ∧ c < T.length) :
    evalCall Try.prog An n 15 [.agg [.d (intss T)], .d (ints l), .d (.int .i64 c)] [] = some ⟨.tuple [.own 0 0, .d (.int .i64 0)], [.row (icells (conjL T l c.toNat))], []⟩ := by
  obtain ⟨m, rfl⟩ : ∃ m, n = m + 1 := ⟨n - 1, by omega⟩
  have hB := B_eq
  simp only [evalCall_at, fb15, bnd_some, bodyOf, Try.f15, Option.getD_some]
  have c1 := ct_l01Set m (by omega) T (by omega) l hl
  have c3 := ct_l07Code m (by omega) T (by omega) l hl
  have c2 := ct_l01Elements m (by omega) T (by omega) [c] (by simp -implicitDefEqProofs (maxSteps := 3000000))
  rw [show ints [c] = .sl 1 [.int .i64 c] from rfl] at c2
  have c4 := ct_l07Conjugate m (by omega) T h.1.1 l hl h.1.2.1.1 c.toNat (by omega)
  rw [Int.toNat_of_nonneg h.2.1] at c4
  have e1 : setcode T l = 0 := by rw [setcode, if_pos h.1.1, if_pos h.1.2.1]
  have e2 : elcode T [c] = 0 := by rw [elcode, if_pos h.1.1, if_pos (all1.2 h.2)]
  rw [e1] at c1
  rw [e2] at c2
  rw [subcode_0 h.1] at c3
  simp -implicitDefEqProofs (maxSteps := 3000000) [c1, c2, c3, c4]
theorem ct_implCj_bad (n : Nat) (hn : B + 10 ≤ n) (T : List (List Int)) (hT : T.length ≤ 2000000) (hr : ∀ i, (rown T i).length ≤ 1000000000000) (l : List Int) (hl : l.length ≤ 10000000) (c : Int) (h : ¬ (HGood T l ∧ 0 ≤ c ∧ c < T.length)) :
    evalCall Try.prog An n 18 [.agg [.d (intss T)], .d (ints l), .d (.int .i64 c)] [] = some ⟨.tuple [.d .nil, .d (.int .i64 (cjcode T l c))], [], []⟩ := by
  obtain ⟨m, rfl⟩ : ∃ m, n = m + 1 := ⟨n - 1, by omega⟩
  have hB := B_eq
  simp only [evalCall_at, fb18, bnd_some, bodyOf, Try.f18, Option.getD_some]
  have c1 := ct_setCode m (by omega) T hT hr l hl
  have c0 := ct_order m (by omega) T
  have ne := cjcode_ne h
  by_cases s0 : setcode T l = 0
  · obtain ⟨G, A⟩ := set_0 s0
    have c2 := ct_areIn m (by omega) T.length [c] (by simp -implicitDefEqProofs (maxSteps := 3000000))
    rw [show ints [c] = .sl 1 [.int .i64 c] from rfl] at c2
    rw [s0] at c1
    by_cases q : 0 ≤ c ∧ c < T.length
    · rw [bl_true (all1.2 q)] at c2
      have c3 := ct_isSubgroup m (by omega) T G l A
      have hS : ¬ SubG T l := fun z => h ⟨⟨G, A, z⟩, q⟩
      rw [bl_false hS] at c3
      have e3 : cjcode T l c = 5 := by rw [cjcode, if_neg (fun z => z.2.2 q), subcode, if_pos G, if_pos A, if_neg hS]
      simp -implicitDefEqProofs (maxSteps := 3000000) [c1, c0, c2, c3, e3]
    · rw [bl_false (fun z => q (all1.1 z))] at c2
      have e3 : cjcode T l c = 2 := by rw [cjcode, if_pos ⟨G, A, q⟩]
      simp -implicitDefEqProofs (maxSteps := 3000000) [c1, c0, c2, e3]
  · have e3 := cj_set_ne (c := c) s0
    have ne2 := bne_t s0
    simp -implicitDefEqProofs (maxSteps := 3000000) [c1, s0, ne2, e3]
theorem ct_implCj (n : Nat) (hn : B + 10 ≤ n) (T : List (List Int)) (hT : T.length ≤ 2000000) (hr : ∀ i, (rown T i).length ≤ 1000000000000) (l : List Int) (hl : l.length ≤ 10000000) (c : Int) (h : HGood T l ∧ 0 ≤ c ∧ c < T.length) :
    evalCall Try.prog An n 18 [.agg [.d (intss T)], .d (ints l), .d (.int .i64 c)] [] = some ⟨.tuple [.own 0 0, .d (.int .i64 0)], [.row (icells (conjL T l c.toNat))], []⟩ := by
  obtain ⟨m, rfl⟩ : ∃ m, n = m + 1 := ⟨n - 1, by omega⟩
  have hB := B_eq
  simp only [evalCall_at, fb18, bnd_some, bodyOf, Try.f18, Option.getD_some]
  have c1 := ct_setCode m (by omega) T hT hr l hl
  have c0 := ct_order m (by omega) T
  have c2 := ct_areIn m (by omega) T.length [c] (by simp -implicitDefEqProofs (maxSteps := 3000000))
  rw [show ints [c] = .sl 1 [.int .i64 c] from rfl] at c2
  have c3 := ct_isSubgroup m (by omega) T h.1.1 l h.1.2.1
  have c4 := ct_conjugated m (by omega) T h.1.1 l h.1.2.1 c.toNat (by omega)
  rw [Int.toNat_of_nonneg h.2.1] at c4
  have e1 : setcode T l = 0 := by rw [setcode, if_pos h.1.1, if_pos h.1.2.1]
  rw [e1] at c1
  rw [bl_true (all1.2 h.2)] at c2
  rw [bl_true h.1.2.2] at c3
  simp -implicitDefEqProofs (maxSteps := 3000000) [c1, c0, c2, c3, c4]
theorem conjL_le (T : List (List Int)) (l : List Int) (c : Nat) : (conjL T l c).length ≤ 8 := thoseL_le _ 8
end Go.Proofs.YtfpeijfomacgeaaE
