/- Contracts of functions of the program and of the reference: what the evaluator gives for a call of each. -/
import Derived.Test.YtnfhglplafmfiaaGreatAEf
import Derived.Test.YtnfhglplafmfiaaGreatK1M
namespace Go.Proofs.YtnfhglplafmfiaaGreatE
open Go Go.Proofs
set_option maxHeartbeats 4000000
set_option maxRecDepth 4000
set_option linter.unusedSimpArgs false
set_option linter.unusedVariables false
set_option pp.deepTerms false
set_option pp.deepTerms.threshold 10
/-! ## sorting short rows -/
theorem ct_isNaN (n : Nat) (hn : B + 1 ≤ n) (x : Int) : evalCall Tryz.prog An n 263 [.d (.int .i64 x)] [] = some ⟨.d (.bool false), [], []⟩ := by
  obtain ⟨m, rfl⟩ : ∃ m, n = m + 1 := ⟨n - 1, by omega⟩
  have hB := B_eq
  simp only [evalCall_at, fb263, bnd_some, bodyOf, Tryz.f263, Option.getD_some]
  simp -implicitDefEqProofs (maxSteps := 3000000)
theorem ct_Less (n : Nat) (hn : B + 2 ≤ n) (x y : Int) : evalCall Tryz.prog An n 251 [.d (.int .i64 x), .d (.int .i64 y)] [] = some ⟨.d (.bool (decide (x < y))), [], []⟩ := by
  obtain ⟨m, rfl⟩ : ∃ m, n = m + 1 := ⟨n - 1, by omega⟩
  have hB := B_eq
  simp only [evalCall_at, fb251, bnd_some, bodyOf, Tryz.f251, Option.getD_some]
  have c1 := ct_isNaN m (by omega) x
  have c2 := ct_isNaN m (by omega) y
  simp -implicitDefEqProofs (maxSteps := 3000000) [c1, c2]
def Srt (X : List Int) (k : Nat) : Prop := ∀ p q, p < q → q < k → rn X p ≤ rn X q
structure Mid (l X : List Int) (i j : Nat) : Prop where
  len : X.length = l.length
  cnt : ∀ x, X.count x = l.count x
  srt : ∀ p q, p < q → q ≤ i → p ≠ j → q ≠ j → rn X p ≤ rn X q
  top : ∀ q, j < q → q ≤ i → rn X j < rn X q
def swp (X : List Int) (j : Nat) : List Int := (X.set j (rn X (j - 1))).set (j - 1) (rn X j)
theorem rn_setG (X : List Int) (a b : Nat) (v : Int) : rn (X.set a v) b = if a = b ∧ a < X.length then v else rn X b := by
  simp only [rn, List.getD, List.getElem?_set]
  by_cases h : a = b
  · subst h
    by_cases h2 : a < X.length
    · simp -implicitDefEqProofs (maxSteps := 3000000) [h2]
    · simp -implicitDefEqProofs (maxSteps := 3000000) [h2]
  · simp -implicitDefEqProofs (maxSteps := 3000000) [h]
theorem rn_swp {X : List Int} {j : Nat} (hj : 0 < j) (h : j < X.length) (p : Nat) : rn (swp X j) p = if p = j - 1 then rn X j else if p = j then rn X (j - 1) else rn X p := by
  unfold swp
  rw [rn_setG, rn_setG, List.length_set]
  by_cases h1 : p = j - 1
  · rw [if_pos ⟨h1.symm, by omega⟩, if_pos h1]
  · rw [if_neg (fun z => h1 z.1.symm), if_neg h1]
    by_cases h2 : p = j
    · rw [if_pos ⟨h2.symm, h⟩, if_pos h2]
    · rw [if_neg (fun z => h2 z.1.symm), if_neg h2]
theorem cnt_swp {X : List Int} {j : Nat} (hj : 0 < j) (h : j < X.length) (x : Int) : (swp X j).count x = X.count x := by
  unfold swp
  have e1 : (X.set j (rn X (j - 1)))[j - 1]'(by simp; omega) = rn X (j - 1) := by
    have := rn_setG X j (j - 1) (rn X (j - 1))
    rw [if_neg (by omega)] at this
    have t := rn_get (l := X.set j (rn X (j - 1))) (i := j - 1) (by simp; omega)
    rw [← t]; exact this
  have c1 : 0 < X.count (rn X j) := List.count_pos_iff.2 (by rw [rn_get h]; exact List.getElem_mem _)
  rw [List.count_set (by simp; omega), List.count_set h, e1, ← rn_get h]
  have k1 : (rn X j == x) = true → 0 < X.count x := fun z => by rw [← (by simpa using z : rn X j = x)]; exact c1
  have k2 : (rn X (j - 1) == x) = true → 0 < X.count x := fun z => by
    rw [← (by simpa using z : rn X (j - 1) = x)]
    exact List.count_pos_iff.2 (by rw [rn_get (by omega)]; exact List.getElem_mem _)
  cases h1 : (rn X j == x) <;> cases h2 : (rn X (j - 1) == x) <;> simp only [h1, h2, if_true, Bool.false_eq_true, if_false, forall_const, false_imp_iff] at k1 k2 ⊢ <;> omega
theorem Mid.step {l X : List Int} {i j : Nat} (M : Mid l X i j) (hj : 0 < j) (hji : j ≤ i) (hi : i < l.length) (h : rn X j < rn X (j - 1)) : Mid l (swp X j) i (j - 1) := by
  have hx : j < X.length := by rw [M.len]; omega
  refine ⟨by simp -implicitDefEqProofs (maxSteps := 3000000) [swp, M.len], fun x => by rw [cnt_swp hj hx, M.cnt], fun p q h1 h2 h3 h4 => ?_, fun q h1 h2 => ?_⟩
  · rw [rn_swp hj hx, rn_swp hj hx, if_neg h3, if_neg h4]
    by_cases e1 : p = j
    · rw [if_pos e1, if_neg (by omega)]
      exact M.srt (j - 1) q (by omega) h2 (by omega) (by omega)
    · rw [if_neg e1]
      by_cases e2 : q = j
      · rw [if_pos e2]
        exact M.srt p (j - 1) (by omega) (by omega) e1 (by omega)
      · rw [if_neg e2]; exact M.srt p q h1 h2 e1 e2
  · rw [rn_swp hj hx, rn_swp hj hx, if_pos rfl, if_neg (by omega)]
    by_cases e2 : q = j
    · rw [if_pos e2]; exact h
    · rw [if_neg e2]; exact M.top q (by omega) h2
theorem Mid.done {l X : List Int} {i j : Nat} (M : Mid l X i j) (hji : j ≤ i) (h : j = 0 ∨ ¬ rn X j < rn X (j - 1)) : Srt X (i + 1) := by
  intro p q h1 h2
  by_cases e1 : p = j
  · subst e1
    have := M.top q h1 (by omega); omega
  · by_cases e2 : q = j
    · subst e2
      rcases h with h | h
      · omega
      · by_cases e3 : p = q - 1
        · subst e3; omega
        · have := M.srt p (q - 1) (by omega) (by omega) e1 (by omega); omega
    · exact M.srt p q h1 (by omega) e1 e2
theorem lp_ins_1 (m : Nat) (hm : B + 2 ≤ m) (l X : List Int) (hl : l.length ≤ 1000) (i : Nat) (hi : i < l.length) (hX : X.length = l.length) (hc : ∀ x, X.count x = l.count x) (hs : Srt X i)
    {st : St} {o : Option (Ex × St)} (hx : loopC (cxAt 245 m) (lp Tryz.f245 1) st = o)
    (f : obsL st.obs 100000 = some (0, .row (icells X)) ∧ obsL st.obs 100001 = none ∧ obsL st.obs 100002 = none ∧ lookL st.env 0 = some (.own 100000 0) ∧ lookL st.env 1 = some (.d (.int .i64 0)) ∧ lookL st.env 2 = some (.d (.int .i64 l.length)) ∧ lookL st.env 6 = some (.d (.int .i64 i)) ∧ lookL st.env 7 = some (.d (.int .i64 i))) :
    ∃ s Y, o = some (.exit 2, s) ∧ (Y.length = l.length ∧ (∀ x, Y.count x = l.count x) ∧ Srt Y (i + 1)) ∧ obsL s.obs 100000 = some (0, .row (icells Y)) ∧ obsL s.obs 100001 = none ∧ obsL s.obs 100002 = none ∧ lookL s.env 0 = some (.own 100000 0) ∧ lookL s.env 1 = some (.d (.int .i64 0)) ∧ lookL s.env 2 = some (.d (.int .i64 l.length)) ∧ lookL s.env 6 = some (.d (.int .i64 i)) := by
  have hB := B_eq
  generalize hl : lp Tryz.f245 1 = L at hx
  simp only [lp, bodyOf, Tryz.f245, Option.getD_some, loopsIn, List.append_nil, List.nil_append, List.cons_append, List.getD, List.getElem?_cons_zero, List.getElem?_cons_succ] at hl
  subst hl
  obtain ⟨qq, rfl, hqq⟩ := loop_end hx i (fun t s => ∃ g X, Mid l X i (i - t) ∧ s = ⟨[(0, .own 100000 0), (1, .d (.int .i64 0)), (2, .d (.int .i64 l.length)), (6, .d (.int .i64 i)), (7, .d (.int .i64 ((i - t : Nat) : Int)))], [(100000, some (0, .row (icells X)))], g⟩)
    (fun qq => ∃ s Y, qq = (.exit 2, s) ∧ (Y.length = l.length ∧ (∀ x, Y.count x = l.count x) ∧ Srt Y (i + 1)) ∧ obsL s.obs 100000 = some (0, .row (icells Y)) ∧ obsL s.obs 100001 = none ∧ obsL s.obs 100002 = none ∧ lookL s.env 0 = some (.own 100000 0) ∧ lookL s.env 1 = some (.d (.int .i64 0)) ∧ lookL s.env 2 = some (.d (.int .i64 l.length)) ∧ lookL s.env 6 = some (.d (.int .i64 i)))
    (by show i < m; omega) ⟨st.g, X, ⟨hX, hc, fun p q h1 h2 _ h4 => hs p q h1 (by omega), fun q h1 h2 => by omega⟩, by simp -implicitDefEqProofs (maxSteps := 3000000) [f]⟩
    (by
      rintro t s ht ⟨g, X, M, rfl⟩
      have hj : 0 < i - t := by omega
      have hji : i - t ≤ i := by omega
      have stp := fun h => M.step hj hji hi h
      have dn := fun h => M.done hji (.inr h)
      have ml := M.len
      have mc := M.cnt
      rw [show i - (t + 1) = i - t - 1 by omega]
      generalize i - t = j at *
      have hjl : j < l.length := by omega
      have hjl2 : j - 1 < l.length := by omega
      have e1 : ((j : Int) - 1).toNat = j - 1 := by omega
      have e2 : (j : Int) - 1 = ((j - 1 : Nat) : Int) := by omega
      have w1 := wrap_id (n := (j : Int) - 1) (by omega)
      have h0 : (0 : Int) < j := by omega
      have h1 : (0 : Int) ≤ (j : Int) - 1 := by omega
      have h2 : (j : Int) - 1 < l.length := by omega
      have h3 : (1 : Int) ≤ j := by omega
      have c1 := ct_Less m (by omega) (rn X j) (rn X (j - 1))
      by_cases p : rn X j < rn X (j - 1)
      · rw [decide_eq_true p] at c1
        have stp := stp p
        have e5 : (X.set j (rn X (j - 1))).set (j - 1) (rn X j) = swp X j := rfl
        simp -implicitDefEqProofs (maxSteps := 3000000) [h0, h1, h2, h3, hj, ml, hjl, hjl2, e1, w1, c1, e5]
        exact ⟨_, swp X j, stp, e2, rfl, rfl⟩
      · rw [decide_eq_false p] at c1
        simp -implicitDefEqProofs (maxSteps := 3000000) [h0, h1, h2, h3, hj, ml, hjl, hjl2, e1, w1, c1]
        exact ⟨X, ⟨ml, mc, dn p⟩, rfl⟩)
    (by
      rintro s ⟨g, X, M, rfl⟩
      have dn := M.done (Nat.sub_le _ _) (.inl (by omega))
      have ml := M.len
      have mc := M.cnt
      simp -implicitDefEqProofs (maxSteps := 3000000)
      exact ⟨X, ⟨ml, mc, dn⟩, rfl⟩)
  obtain ⟨s, Y, rfl, hq⟩ := hqq
  exact ⟨s, Y, rfl, hq⟩
theorem ct_insertionSort (n : Nat) (hn : B + 3 ≤ n) (l : List Int) (hl : l.length ≤ 1000) :
    ∃ Y : List Int, (Y.length = l.length ∧ (∀ x, Y.count x = l.count x) ∧ Srt Y l.length) ∧ evalCall Tryz.prog An n 245 [.own 100000 0, .d (.int .i64 0), .d (.int .i64 l.length)] [.row (icells l)] = some ⟨.tuple [], [], [some (.row (icells Y))]⟩ := by
  obtain ⟨m, rfl⟩ : ∃ m, n = m + 1 := ⟨n - 1, by omega⟩
  have hB := B_eq
  simp only [evalCall_at, fb245, bnd_some, bodyOf, Tryz.f245, Option.getD_some]
  generalize hb0 : Code.loop _ = cc0
  obtain rfl : cc0 = .loop (lp Tryz.f245 0) := by rw [← hb0]; rfl
  clear hb0
  have w0 := wrap_id (n := 1) (by omega)
  simp -implicitDefEqProofs (maxSteps := 3000000) [w0]
  generalize hx : loopC _ _ _ = x
  generalize hl : lp Tryz.f245 0 = L at hx
  simp only [lp, bodyOf, Tryz.f245, Option.getD_some, loopsIn, List.append_nil, List.nil_append, List.cons_append, List.getD, List.getElem?_cons_zero, List.getElem?_cons_succ] at hl
  subst hl
  generalize hb1 : Code.loop _ = cc1 at hx
  obtain rfl : cc1 = .loop (lp Tryz.f245 1) := by rw [← hb1]; rfl
  clear hb1
  obtain ⟨qq, rfl, hqq⟩ := loop_end hx (l.length - 1) (fun i s => ∃ g X, (X.length = l.length ∧ (∀ x, X.count x = l.count x) ∧ Srt X (i + 1)) ∧ s = ⟨[(0, .own 100000 0), (1, .d (.int .i64 0)), (2, .d (.int .i64 l.length)), (6, .d (.int .i64 ((i : Int) + 1)))], [(100000, some (0, .row (icells X)))], g⟩)
    (fun qq => ∃ s Y, qq = (.exit 0, s) ∧ (Y.length = l.length ∧ (∀ x, Y.count x = l.count x) ∧ Srt Y l.length) ∧ obsL s.obs 100000 = some (0, .row (icells Y)))
    (by show l.length - 1 < m; omega) ⟨4, l, ⟨rfl, fun _ => rfl, fun p q h1 h2 => by omega⟩, by simp⟩
    (by
      rintro i s hi ⟨g, X, ⟨x1, x2, x3⟩, rfl⟩
      have w2 := wrap_id (n := (i : Int) + 1 + 1) (by omega)
      have h1 : (i : Int) + 1 < l.length := by omega
      simp -implicitDefEqProofs (maxSteps := 3000000) [h1]
      generalize hy : loopC _ _ _ = y
      obtain ⟨s, Y, rfl, hY, hq⟩ := lp_ins_1 m (by omega) l X hl (i + 1) (by omega) x1 x2 x3 hy (by simp -implicitDefEqProofs (maxSteps := 3000000))
      simp -implicitDefEqProofs (maxSteps := 3000000) [hq, w2]
      exact ⟨_, Y, hY, rfl, rfl⟩)
    (by
      rintro s ⟨g, X, ⟨x1, x2, x3⟩, rfl⟩
      have h1 : ¬ (((l.length - 1 : Nat) : Int) + 1 < l.length) := by omega
      simp -implicitDefEqProofs (maxSteps := 3000000) [h1]
      refine ⟨X, ⟨x1, x2, fun p q h1 h2 => x3 p q h1 (by omega)⟩, rfl⟩)
  obtain ⟨s, Y, rfl, hY, hf⟩ := hqq
  refine ⟨Y, hY, ?_⟩
  simp -implicitDefEqProofs (maxSteps := 3000000) [hf]
theorem ct_pdqsort (n : Nat) (hn : B + 4 ≤ n) (l : List Int) (hl : l.length ≤ 12) (k : Int) :
    ∃ Y : List Int, (Y.length = l.length ∧ (∀ x, Y.count x = l.count x) ∧ Srt Y l.length) ∧ evalCall Tryz.prog An n 234 [.own 100000 0, .d (.int .i64 0), .d (.int .i64 l.length), .d (.int .i64 k)] [.row (icells l)] = some ⟨.tuple [], [], [some (.row (icells Y))]⟩ := by
  obtain ⟨m, rfl⟩ : ∃ m, n = m + 1 := ⟨n - 1, by omega⟩
  have hB := B_eq
  simp only [evalCall_at, fb234, bnd_some, bodyOf, Tryz.f234, Option.getD_some]
  generalize hb0 : Code.loop _ = cc0
  obtain rfl : cc0 = .loop (lp Tryz.f234 0) := by rw [← hb0]; rfl
  clear hb0
  obtain ⟨Y, hY, c1⟩ := ct_insertionSort m (by omega) l (by omega)
  refine ⟨Y, hY, ?_⟩
  simp -implicitDefEqProofs (maxSteps := 3000000)
  generalize hx : loopC _ _ _ = x
  generalize hl : lp Tryz.f234 0 = L at hx
  simp only [lp, bodyOf, Tryz.f234, Option.getD_some, loopsIn, List.append_nil, List.nil_append, List.cons_append, List.getD, List.getElem?_cons_zero, List.getElem?_cons_succ] at hl
  subst hl
  have w1 := wrap_id (n := (l.length : Int)) (by omega)
  have h1 : (l.length : Int) ≤ 12 := by omega
  obtain ⟨qq, rfl, hqq⟩ := loop_end hx 0 (fun i s => ∃ g, s = ⟨[(0, .own 100000 0), (1, .d (.int .i64 0)), (2, .d (.int .i64 l.length)), (3, .d (.int .i64 k)), (8, .d (.bool true)), (9, .d (.bool true))], [(100000, some (0, .row (icells l)))], g⟩)
    (fun qq => ∃ s, qq = (.ret, s) ∧ obsL s.obs 100000 = some (0, .row (icells Y)))
    (by show 0 < m; omega) (by simp -implicitDefEqProofs (maxSteps := 3000000))
    (by
      rintro i s hi h
      omega)
    (by
      rintro s ⟨g, rfl⟩
      simp -implicitDefEqProofs (maxSteps := 3000000) [w1, h1, c1])
  obtain ⟨s, rfl, hf⟩ := hqq
  simp -implicitDefEqProofs (maxSteps := 3000000) [hf]
end Go.Proofs.YtnfhglplafmfiaaGreatE
