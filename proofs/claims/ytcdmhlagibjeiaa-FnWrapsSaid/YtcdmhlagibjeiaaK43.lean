/- Contracts of functions of the program and of the reference: what the evaluator gives for a call of each. -/
import Derived.Test.YtcdmhlagibjeiaaAEf
import Derived.Test.YtcdmhlagibjeiaaK0
import Derived.Test.YtcdmhlagibjeiaaK21
namespace Go.Proofs.YtcdmhlagibjeiaaE
open Go Go.Proofs
set_option maxHeartbeats 4000000
set_option maxRecDepth 4000
set_option linter.unusedSimpArgs false
set_option linter.unusedVariables false
set_option pp.deepTerms false
set_option pp.deepTerms.threshold 10
/-! ## made: a group told by a function -/
theorem lp_made_1a (m : Nat) (hm : B + 1 ≤ m) (N : Nat) (hN : N ≤ 1000) (c : Nat) (b : List YtcdmhlagibjeiaaE.D) (F : Nat → Nat → Int) (L : Nat) (hL : L ≤ m)
    (hF : ∀ m, L ≤ m → ∀ i < N, ∀ k < N, evalCall Try.prog An m c (.d (.int .i64 i) :: .d (.int .i64 k) :: b.map ofD) [] = some ⟨.d (.int .i64 (F i k)), [], []⟩) (hc : c ∉ An.lend) (i : Nat) (hi : i < N)
    {st : St} {o : Option (Ex × St)} (hx : loopC (cxAt 71 m) (lp Try.f71 1) st = o)
    (f : obsL st.obs 64 = some (1, .box [.d .nil]) ∧ obsL st.obs 80 = some (3, .box [.d .nil]) ∧ obsL st.obs 496 = none ∧ obsL st.obs 400 = none ∧ (∃ v2, obsL st.obs 224 = some (v2, .row []) ∧ lookL st.env 7 = some (.own 224 v2)) ∧ lookL st.env 15 = some (.d (.int .i64 N)) ∧ lookL st.env 16 = some (.d (.int .i64 0)) ∧ lookL st.env 0 = some (.d (.int .i64 N)) ∧ lookL st.env 1 = some (.d (.clo c [] b)) ∧ lookL st.env 4 = some (.ptr 64 1 0) ∧ lookL st.env 5 = some (.ptr 80 3 0) ∧ lookL st.env 6 = some (.d (.int .i64 i)) ∧ lookL st.env 10 = some (.d (.int .i64 N)) ∧ lookL st.env 11 = some (.d (.int .i64 i))) :
    ∃ s v2, o = some (.exit 2, s) ∧ obsL s.obs 64 = some (1, .box [.d .nil]) ∧ obsL s.obs 80 = some (3, .box [.d .nil]) ∧ obsL s.obs 496 = none ∧ obsL s.obs 400 = none ∧ obsL s.obs 224 = some (v2, .row (icells (tabI (F i) N))) ∧ lookL s.env 7 = some (.own 224 v2) ∧ lookL s.env 0 = some (.d (.int .i64 N)) ∧ lookL s.env 1 = some (.d (.clo c [] b)) ∧ lookL s.env 4 = some (.ptr 64 1 0) ∧ lookL s.env 5 = some (.ptr 80 3 0) ∧ lookL s.env 6 = some (.d (.int .i64 i)) ∧ lookL s.env 10 = some (.d (.int .i64 N)) ∧ lookL s.env 11 = some (.d (.int .i64 i)) := by
  have hB := B_eq
  obtain ⟨f1, f2, f3, f4, ⟨v0, f5, f6⟩, f7⟩ := f
  simp -implicitDefEqProofs (maxSteps := 3000000) at hc
  generalize hl : lp Try.f71 1 = L at hx
  simp only [lp, bodyOf, Try.f71, Option.getD_some, loopsIn, List.append_nil, List.nil_append, List.cons_append, List.getD, List.getElem?_cons_zero, List.getElem?_cons_succ] at hl
  subst hl
  obtain ⟨qq, rfl, hqq⟩ := loop_end hx N (fun k s => ∃ g v2, s = ⟨[(0, .d (.int .i64 N)), (1, .d (.clo c [] b)), (4, .ptr 64 1 0), (5, .ptr 80 3 0), (6, .d (.int .i64 i)), (7, .own 224 v2), (10, .d (.int .i64 N)), (11, .d (.int .i64 i)), (15, .d (.int .i64 N)), (16, .d (.int .i64 k))], [(64, some (1, .box [.d .nil])), (80, some (3, .box [.d .nil])), (224, some (v2, .row (icells (tabI (F i) k))))], g⟩)
    (fun qq => ∃ s v2, qq = (.exit 2, s) ∧ obsL s.obs 64 = some (1, .box [.d .nil]) ∧ obsL s.obs 80 = some (3, .box [.d .nil]) ∧ obsL s.obs 496 = none ∧ obsL s.obs 400 = none ∧ obsL s.obs 224 = some (v2, .row (icells (tabI (F i) N))) ∧ lookL s.env 7 = some (.own 224 v2) ∧ lookL s.env 0 = some (.d (.int .i64 N)) ∧ lookL s.env 1 = some (.d (.clo c [] b)) ∧ lookL s.env 4 = some (.ptr 64 1 0) ∧ lookL s.env 5 = some (.ptr 80 3 0) ∧ lookL s.env 6 = some (.d (.int .i64 i)) ∧ lookL s.env 10 = some (.d (.int .i64 N)) ∧ lookL s.env 11 = some (.d (.int .i64 i)))
    (by show N < m; omega) (by simp -implicitDefEqProofs (maxSteps := 3000000) [f1, f2, f3, f4, f5, f6, f7])
    (by
      rintro k s hk ⟨g, v2, rfl⟩
      have w2 := wrap_id (n := (k : Int) + 1) (by omega)
      have hs := tabI_succ (F i) k
      have c1 := hF m (by omega) i hi k hk
      have hl := lt_bound (n := k) (by omega)
      have hl2 := le_bound (n := k) (by omega)
      simp -implicitDefEqProofs (maxSteps := 3000000) [hi, hk, c1, hc, w2, hs, hl, hl2])
    (by
      rintro s ⟨g, v2, rfl⟩
      simp -implicitDefEqProofs (maxSteps := 3000000))
  obtain ⟨s, v2, rfl, hf⟩ := hqq
  exact ⟨s, v2, rfl, hf⟩
theorem lp_made_1b (m : Nat) (hm : B + 1 ≤ m) (N : Nat) (hN : N ≤ 1000) (c : Nat) (b : List YtcdmhlagibjeiaaE.D) (F : Nat → Nat → Int) (L : Nat) (hL : L ≤ m)
    (hF : ∀ m, L ≤ m → ∀ i < N, ∀ k < N, evalCall Try.prog An m c (.d (.int .i64 i) :: .d (.int .i64 k) :: b.map ofD) [] = some ⟨.d (.int .i64 (F i k)), [], []⟩) (hc : c ∉ An.lend) (i : Nat) (hi : i < N) (X : List (List Int)) (v : Nat)
    {st : St} {o : Option (Ex × St)} (hx : loopC (cxAt 71 m) (lp Try.f71 1) st = o)
    (f : obsL st.obs 64 = some (1, .box [.d .nil]) ∧ obsL st.obs 80 = some (3, .box [.own 496 v]) ∧ obsL st.obs 496 = some (v, .mat true (mcells X)) ∧ obsL st.obs 400 = none ∧ (∃ v2, obsL st.obs 224 = some (v2, .row []) ∧ lookL st.env 7 = some (.own 224 v2)) ∧ lookL st.env 15 = some (.d (.int .i64 N)) ∧ lookL st.env 16 = some (.d (.int .i64 0)) ∧ lookL st.env 0 = some (.d (.int .i64 N)) ∧ lookL st.env 1 = some (.d (.clo c [] b)) ∧ lookL st.env 4 = some (.ptr 64 1 0) ∧ lookL st.env 5 = some (.ptr 80 3 0) ∧ lookL st.env 6 = some (.d (.int .i64 i)) ∧ lookL st.env 10 = some (.d (.int .i64 N)) ∧ lookL st.env 11 = some (.d (.int .i64 i))) :
    ∃ s v2, o = some (.exit 2, s) ∧ obsL s.obs 64 = some (1, .box [.d .nil]) ∧ obsL s.obs 80 = some (3, .box [.own 496 v]) ∧ obsL s.obs 496 = some (v, .mat true (mcells X)) ∧ obsL s.obs 400 = none ∧ obsL s.obs 224 = some (v2, .row (icells (tabI (F i) N))) ∧ lookL s.env 7 = some (.own 224 v2) ∧ lookL s.env 0 = some (.d (.int .i64 N)) ∧ lookL s.env 1 = some (.d (.clo c [] b)) ∧ lookL s.env 4 = some (.ptr 64 1 0) ∧ lookL s.env 5 = some (.ptr 80 3 0) ∧ lookL s.env 6 = some (.d (.int .i64 i)) ∧ lookL s.env 10 = some (.d (.int .i64 N)) ∧ lookL s.env 11 = some (.d (.int .i64 i)) := by
  have hB := B_eq
  obtain ⟨f1, f2, f3, f4, ⟨v0, f5, f6⟩, f7⟩ := f
  simp -implicitDefEqProofs (maxSteps := 3000000) at hc
  generalize hl : lp Try.f71 1 = L at hx
  simp only [lp, bodyOf, Try.f71, Option.getD_some, loopsIn, List.append_nil, List.nil_append, List.cons_append, List.getD, List.getElem?_cons_zero, List.getElem?_cons_succ] at hl
  subst hl
  obtain ⟨qq, rfl, hqq⟩ := loop_end hx N (fun k s => ∃ g v2, s = ⟨[(0, .d (.int .i64 N)), (1, .d (.clo c [] b)), (4, .ptr 64 1 0), (5, .ptr 80 3 0), (6, .d (.int .i64 i)), (7, .own 224 v2), (10, .d (.int .i64 N)), (11, .d (.int .i64 i)), (15, .d (.int .i64 N)), (16, .d (.int .i64 k))], [(64, some (1, .box [.d .nil])), (80, some (3, .box [.own 496 v])), (224, some (v2, .row (icells (tabI (F i) k)))), (496, some (v, .mat true (mcells X)))], g⟩)
    (fun qq => ∃ s v2, qq = (.exit 2, s) ∧ obsL s.obs 64 = some (1, .box [.d .nil]) ∧ obsL s.obs 80 = some (3, .box [.own 496 v]) ∧ obsL s.obs 496 = some (v, .mat true (mcells X)) ∧ obsL s.obs 400 = none ∧ obsL s.obs 224 = some (v2, .row (icells (tabI (F i) N))) ∧ lookL s.env 7 = some (.own 224 v2) ∧ lookL s.env 0 = some (.d (.int .i64 N)) ∧ lookL s.env 1 = some (.d (.clo c [] b)) ∧ lookL s.env 4 = some (.ptr 64 1 0) ∧ lookL s.env 5 = some (.ptr 80 3 0) ∧ lookL s.env 6 = some (.d (.int .i64 i)) ∧ lookL s.env 10 = some (.d (.int .i64 N)) ∧ lookL s.env 11 = some (.d (.int .i64 i)))
    (by show N < m; omega) (by simp -implicitDefEqProofs (maxSteps := 3000000) [f1, f2, f3, f4, f5, f6, f7])
    (by
      rintro k s hk ⟨g, v2, rfl⟩
      have w2 := wrap_id (n := (k : Int) + 1) (by omega)
      have hs := tabI_succ (F i) k
      have c1 := hF m (by omega) i hi k hk
      have hl := lt_bound (n := k) (by omega)
      have hl2 := le_bound (n := k) (by omega)
      simp -implicitDefEqProofs (maxSteps := 3000000) [hi, hk, c1, hc, w2, hs, hl, hl2])
    (by
      rintro s ⟨g, v2, rfl⟩
      simp -implicitDefEqProofs (maxSteps := 3000000))
  obtain ⟨s, v2, rfl, hf⟩ := hqq
  exact ⟨s, v2, rfl, hf⟩
theorem ct_made (n : Nat) (hn : B + 2 ≤ n) (N : Nat) (hN : 1 ≤ N ∧ N ≤ 1000) (c : Nat) (b : List YtcdmhlagibjeiaaE.D) (F : Nat → Nat → Int) (L : Nat) (hL : L + 1 ≤ n)
    (hF : ∀ m, L ≤ m → ∀ i < N, ∀ k < N, evalCall Try.prog An m c (.d (.int .i64 i) :: .d (.int .i64 k) :: b.map ofD) [] = some ⟨.d (.int .i64 (F i k)), [], []⟩) (hc : c ∉ An.lend) :
    evalCall Try.prog An n 71 [.d (.int .i64 N), .d (.clo c [] b)] [] = some ⟨.agg [.own 0 0], [.mat false (mcells (tabM (fun i => tabI (F i) N) N))], []⟩ := by
  obtain ⟨m, rfl⟩ : ∃ m, n = m + 1 := ⟨n - 1, by omega⟩
  have hB := B_eq
  simp only [evalCall_at, fb71, bnd_some, bodyOf, Try.f71, Option.getD_some]
  generalize hb0 : Code.loop _ = cc0
  obtain rfl : cc0 = .loop (lp Try.f71 0) := by rw [← hb0]; rfl
  clear hb0
  simp -implicitDefEqProofs (maxSteps := 3000000)
  generalize hx : loopC _ _ _ = x
  generalize hl : lp Try.f71 0 = L at hx
  simp only [lp, bodyOf, Try.f71, Option.getD_some, loopsIn, List.append_nil, List.nil_append, List.cons_append, List.getD, List.getElem?_cons_zero, List.getElem?_cons_succ] at hl
  subst hl
  generalize hb1 : Code.loop _ = cc1 at hx
  obtain rfl : cc1 = .loop (lp Try.f71 1) := by rw [← hb1]; rfl
  clear hb1
  obtain ⟨qq, rfl, hqq⟩ := loop_end hx N (fun i s => (i = 0 ∧ ∃ g, s = ⟨[(0, .d (.int .i64 N)), (1, .d (.clo c [] b)), (4, .ptr 64 1 0), (5, .ptr 80 3 0), (10, .d (.int .i64 N)), (11, .d (.int .i64 i))], [(64, some (1, .box [.d .nil])), (80, some (3, .box [.d .nil]))], g⟩) ∨
      (0 < i ∧ ∃ g v, s = ⟨[(0, .d (.int .i64 N)), (1, .d (.clo c [] b)), (4, .ptr 64 1 0), (5, .ptr 80 3 0), (10, .d (.int .i64 N)), (11, .d (.int .i64 i))], [(64, some (1, .box [.d .nil])), (80, some (3, .box [.own 496 v])), (496, some (v, .mat true (mcells (tabM (fun i => tabI (F i) N) i))))], g⟩))
    (fun qq => ∃ s v, qq = (.exit 0, s) ∧ obsL s.obs 64 = some (1, .box [.d .nil]) ∧ obsL s.obs 80 = some (3, .box [.own 496 v]) ∧ obsL s.obs 496 = some (v, .mat true (mcells (tabM (fun i => tabI (F i) N) N))) ∧ lookL s.env 4 = some (.ptr 64 1 0) ∧ lookL s.env 5 = some (.ptr 80 3 0))
    (by show N < m; omega) (.inl ⟨rfl, by simp⟩)
    (by
      rintro i s hi h
      have w2 := wrap_id (n := (i : Int) + 1) (by omega)
      have hs := tabM_succ (fun i => tabI (F i) N) i
      have hl := lt_bound (n := i) (by omega)
      have hl2 := le_bound (n := i) (by omega)
      rcases h with ⟨h0, g, rfl⟩ | ⟨h0, g, v, rfl⟩
      · subst h0
        simp -implicitDefEqProofs (maxSteps := 3000000) [hi]
        generalize hy : loopC _ _ _ = y
        obtain ⟨s, v2, rfl, hq⟩ := lp_made_1a m (by omega) N (by omega) c b F L (by omega) hF hc 0 hi hy (by simp -implicitDefEqProofs (maxSteps := 3000000))
        have w1 := wrap_id (n := 1) (by omega)
        simp -implicitDefEqProofs (maxSteps := 3000000) [hq, w2, w1]
        rfl
      · simp -implicitDefEqProofs (maxSteps := 3000000) [hi]
        generalize hy : loopC _ _ _ = y
        obtain ⟨s, v2, rfl, hq⟩ := lp_made_1b m (by omega) N (by omega) c b F L (by omega) hF hc i hi (tabM (fun i => tabI (F i) N) i) v hy (by simp -implicitDefEqProofs (maxSteps := 3000000))
        simp -implicitDefEqProofs (maxSteps := 3000000) [hq, w2, hl, hl2, hs])
    (by
      rintro s h
      rcases h with ⟨h0, g, rfl⟩ | ⟨h0, g, v, rfl⟩
      · omega
      · simp -implicitDefEqProofs (maxSteps := 3000000))
  obtain ⟨s, v, rfl, hf⟩ := hqq
  simp -implicitDefEqProofs (maxSteps := 3000000) [hf]
end Go.Proofs.YtcdmhlagibjeiaaE
