/- Contracts of functions of the program and of the reference: what the evaluator gives for a call of each. -/
import Derived.Test.YtnfhglplafmfiaaGreatAEf
import Derived.Test.YtnfhglplafmfiaaGreatK1M
import Derived.Test.YtnfhglplafmfiaaGreatK24M
import Derived.Test.YtnfhglplafmfiaaGreatK31
import Derived.Test.YtnfhglplafmfiaaGreatK33M
import Derived.Test.YtnfhglplafmfiaaGreatK36M
import Derived.Test.YtnfhglplafmfiaaGreatK42
import Derived.Test.YtnfhglplafmfiaaGreatK3M
import Derived.Test.YtnfhglplafmfiaaGreatK40M
namespace Go.Proofs.YtnfhglplafmfiaaGreatE
open Go Go.Proofs
set_option maxHeartbeats 4000000
set_option maxRecDepth 4000
set_option linter.unusedSimpArgs false
set_option linter.unusedVariables false
set_option pp.deepTerms false
set_option pp.deepTerms.threshold 10
/-! ## made: a group told by a function -/
theorem lp_made_1a (m : Nat) (hm : B + 1 ≤ m) (N : Nat) (hN : N ≤ 1000) (c : Nat) (b : List YtnfhglplafmfiaaGreatE.D) (F : Nat → Nat → Int) (L : Nat) (hL : L ≤ m)
    (hF : ∀ m, L ≤ m → ∀ i < N, ∀ k < N, evalCall Tryz.prog An m c (.d (.int .i64 i) :: .d (.int .i64 k) :: b.map ofD) [] = some ⟨.d (.int .i64 (F i k)), [], []⟩) (hc : c ∉ An.lend) (i : Nat) (hi : i < N)
    {st : St} {o : Option (Ex × St)} (hx : loopC (cxAt 194 m) (lp Tryz.f194 1) st = o)
    (f : obsL st.obs 64 = some (1, .box [.d .nil]) ∧ obsL st.obs 80 = some (3, .box [.d .nil]) ∧ obsL st.obs 496 = none ∧ obsL st.obs 400 = none ∧ (∃ v2, obsL st.obs 224 = some (v2, .row []) ∧ lookL st.env 7 = some (.own 224 v2)) ∧ lookL st.env 15 = some (.d (.int .i64 N)) ∧ lookL st.env 16 = some (.d (.int .i64 0)) ∧ lookL st.env 0 = some (.d (.int .i64 N)) ∧ lookL st.env 1 = some (.d (.clo c [] b)) ∧ lookL st.env 4 = some (.ptr 64 1 0) ∧ lookL st.env 5 = some (.ptr 80 3 0) ∧ lookL st.env 6 = some (.d (.int .i64 i)) ∧ lookL st.env 10 = some (.d (.int .i64 N)) ∧ lookL st.env 11 = some (.d (.int .i64 i))) :
    ∃ s v2, o = some (.exit 2, s) ∧ obsL s.obs 64 = some (1, .box [.d .nil]) ∧ obsL s.obs 80 = some (3, .box [.d .nil]) ∧ obsL s.obs 496 = none ∧ obsL s.obs 400 = none ∧ obsL s.obs 224 = some (v2, .row (icells (tabI (F i) N))) ∧ lookL s.env 7 = some (.own 224 v2) ∧ lookL s.env 0 = some (.d (.int .i64 N)) ∧ lookL s.env 1 = some (.d (.clo c [] b)) ∧ lookL s.env 4 = some (.ptr 64 1 0) ∧ lookL s.env 5 = some (.ptr 80 3 0) ∧ lookL s.env 6 = some (.d (.int .i64 i)) ∧ lookL s.env 10 = some (.d (.int .i64 N)) ∧ lookL s.env 11 = some (.d (.int .i64 i)) := by
  have hB := B_eq
  obtain ⟨f1, f2, f3, f4, ⟨v0, f5, f6⟩, f7⟩ := f
  simp -implicitDefEqProofs (maxSteps := 3000000) at hc
  generalize hl : lp Tryz.f194 1 = L at hx
  simp only [lp, bodyOf, Tryz.f194, Option.getD_some, loopsIn, List.append_nil, List.nil_append, List.cons_append, List.getD, List.getElem?_cons_zero, List.getElem?_cons_succ] at hl
  subst hl
  obtain ⟨qq, rfl, hqq⟩ := loop_end hx N (fun k s => ∃ g v2, s = ⟨[(0, .d (.int .i64 N)), (1, .d (.clo c [] b)), (4, .ptr 64 1 0), (5, .ptr 80 3 0), (6, .d (.int .i64 i)), (7, .own 224 v2), (10, .d (.int .i64 N)), (11, .d (.int .i64 i)), (15, .d (.int .i64 N)), (16, .d (.int .i64 k))], [(64, some (1, .box [.d .nil])), (80, some (3, .box [.d .nil])), (224, some (v2, .row (icells (tabI (F i) k))))], g⟩)
    (fun qq => ∃ s v2, qq = (.exit 2, s) ∧ obsL s.obs 64 = some (1, .box [.d .nil]) ∧ obsL s.obs 80 = some (3, .box [.d .nil]) ∧ obsL s.obs 496 = none ∧ obsL s.obs 400 = none ∧ obsL s.obs 224 = some (v2, .row (icells (tabI (F i) N))) ∧ lookL s.env 7 = some (.own 224 v2) ∧ lookL s.env 0 = some (.d (.int .i64 N)) ∧ lookL s.env 1 = some (.d (.clo c [] b)) ∧ lookL s.env 4 = some (.ptr 64 1 0) ∧ lookL s.env 5 = some (.ptr 80 3 0) ∧ lookL s.env 6 = some (.d (.int .i64 i)) ∧ lookL s.env 10 = some (.d (.int .i64 N)) ∧ lookL s.env 11 = some (.d (.int .i64 i)))
    (by show N < m; omega) (by simp -implicitDefEqProofs (maxSteps := 3000000) [f1, f2, f3, f4, f5, f6, f7])
    (by
      rintro k s hk ⟨g, v2, rfl⟩
      have w2 := wrap_id (n := (k : Int) + 1) (by omega)
      have hs := tabI_succ (F i) k
      have c1 := hF m (by omega) i hi k hk
      have hl := lt_bound (n := k) (by omega)
      have hl2 := le_bound (n := k) (by omega)
      simp -implicitDefEqProofs (maxSteps := 3000000) [hi, hk, c1, hc, w2, hs, hl, hl2])
    (by
      rintro s ⟨g, v2, rfl⟩
      simp -implicitDefEqProofs (maxSteps := 3000000))
  obtain ⟨s, v2, rfl, hf⟩ := hqq
  exact ⟨s, v2, rfl, hf⟩
theorem lp_made_1b (m : Nat) (hm : B + 1 ≤ m) (N : Nat) (hN : N ≤ 1000) (c : Nat) (b : List YtnfhglplafmfiaaGreatE.D) (F : Nat → Nat → Int) (L : Nat) (hL : L ≤ m)
    (hF : ∀ m, L ≤ m → ∀ i < N, ∀ k < N, evalCall Tryz.prog An m c (.d (.int .i64 i) :: .d (.int .i64 k) :: b.map ofD) [] = some ⟨.d (.int .i64 (F i k)), [], []⟩) (hc : c ∉ An.lend) (i : Nat) (hi : i < N) (X : List (List Int)) (v : Nat)
    {st : St} {o : Option (Ex × St)} (hx : loopC (cxAt 194 m) (lp Tryz.f194 1) st = o)
    (f : obsL st.obs 64 = some (1, .box [.d .nil]) ∧ obsL st.obs 80 = some (3, .box [.own 496 v]) ∧ obsL st.obs 496 = some (v, .mat true (mcells X)) ∧ obsL st.obs 400 = none ∧ (∃ v2, obsL st.obs 224 = some (v2, .row []) ∧ lookL st.env 7 = some (.own 224 v2)) ∧ lookL st.env 15 = some (.d (.int .i64 N)) ∧ lookL st.env 16 = some (.d (.int .i64 0)) ∧ lookL st.env 0 = some (.d (.int .i64 N)) ∧ lookL st.env 1 = some (.d (.clo c [] b)) ∧ lookL st.env 4 = some (.ptr 64 1 0) ∧ lookL st.env 5 = some (.ptr 80 3 0) ∧ lookL st.env 6 = some (.d (.int .i64 i)) ∧ lookL st.env 10 = some (.d (.int .i64 N)) ∧ lookL st.env 11 = some (.d (.int .i64 i))) :
    ∃ s v2, o = some (.exit 2, s) ∧ obsL s.obs 64 = some (1, .box [.d .nil]) ∧ obsL s.obs 80 = some (3, .box [.own 496 v]) ∧ obsL s.obs 496 = some (v, .mat true (mcells X)) ∧ obsL s.obs 400 = none ∧ obsL s.obs 224 = some (v2, .row (icells (tabI (F i) N))) ∧ lookL s.env 7 = some (.own 224 v2) ∧ lookL s.env 0 = some (.d (.int .i64 N)) ∧ lookL s.env 1 = some (.d (.clo c [] b)) ∧ lookL s.env 4 = some (.ptr 64 1 0) ∧ lookL s.env 5 = some (.ptr 80 3 0) ∧ lookL s.env 6 = some (.d (.int .i64 i)) ∧ lookL s.env 10 = some (.d (.int .i64 N)) ∧ lookL s.env 11 = some (.d (.int .i64 i)) := by
  have hB := B_eq
  obtain ⟨f1, f2, f3, f4, ⟨v0, f5, f6⟩, f7⟩ := f
  simp -implicitDefEqProofs (maxSteps := 3000000) at hc
  generalize hl : lp Tryz.f194 1 = L at hx
  simp only [lp, bodyOf, Tryz.f194, Option.getD_some, loopsIn, List.append_nil, List.nil_append, List.cons_append, List.getD, List.getElem?_cons_zero, List.getElem?_cons_succ] at hl
  subst hl
  obtain ⟨qq, rfl, hqq⟩ := loop_end hx N (fun k s => ∃ g v2, s = ⟨[(0, .d (.int .i64 N)), (1, .d (.clo c [] b)), (4, .ptr 64 1 0), (5, .ptr 80 3 0), (6, .d (.int .i64 i)), (7, .own 224 v2), (10, .d (.int .i64 N)), (11, .d (.int .i64 i)), (15, .d (.int .i64 N)), (16, .d (.int .i64 k))], [(64, some (1, .box [.d .nil])), (80, some (3, .box [.own 496 v])), (224, some (v2, .row (icells (tabI (F i) k)))), (496, some (v, .mat true (mcells X)))], g⟩)
    (fun qq => ∃ s v2, qq = (.exit 2, s) ∧ obsL s.obs 64 = some (1, .box [.d .nil]) ∧ obsL s.obs 80 = some (3, .box [.own 496 v]) ∧ obsL s.obs 496 = some (v, .mat true (mcells X)) ∧ obsL s.obs 400 = none ∧ obsL s.obs 224 = some (v2, .row (icells (tabI (F i) N))) ∧ lookL s.env 7 = some (.own 224 v2) ∧ lookL s.env 0 = some (.d (.int .i64 N)) ∧ lookL s.env 1 = some (.d (.clo c [] b)) ∧ lookL s.env 4 = some (.ptr 64 1 0) ∧ lookL s.env 5 = some (.ptr 80 3 0) ∧ lookL s.env 6 = some (.d (.int .i64 i)) ∧ lookL s.env 10 = some (.d (.int .i64 N)) ∧ lookL s.env 11 = some (.d (.int .i64 i)))
    (by show N < m; omega) (by simp -implicitDefEqProofs (maxSteps := 3000000) [f1, f2, f3, f4, f5, f6, f7])
    (by
      rintro k s hk ⟨g, v2, rfl⟩
      have w2 := wrap_id (n := (k : Int) + 1) (by omega)
      have hs := tabI_succ (F i) k
      have c1 := hF m (by omega) i hi k hk
      have hl := lt_bound (n := k) (by omega)
      have hl2 := le_bound (n := k) (by omega)
      simp -implicitDefEqProofs (maxSteps := 3000000) [hi, hk, c1, hc, w2, hs, hl, hl2])
    (by
      rintro s ⟨g, v2, rfl⟩
      simp -implicitDefEqProofs (maxSteps := 3000000))
  obtain ⟨s, v2, rfl, hf⟩ := hqq
  exact ⟨s, v2, rfl, hf⟩
theorem ct_made (n : Nat) (hn : B + 2 ≤ n) (N : Nat) (hN : 1 ≤ N ∧ N ≤ 1000) (c : Nat) (b : List YtnfhglplafmfiaaGreatE.D) (F : Nat → Nat → Int) (L : Nat) (hL : L + 1 ≤ n)
    (hF : ∀ m, L ≤ m → ∀ i < N, ∀ k < N, evalCall Tryz.prog An m c (.d (.int .i64 i) :: .d (.int .i64 k) :: b.map ofD) [] = some ⟨.d (.int .i64 (F i k)), [], []⟩) (hc : c ∉ An.lend) :
    evalCall Tryz.prog An n 194 [.d (.int .i64 N), .d (.clo c [] b)] [] = some ⟨.agg [.own 0 0], [.mat false (mcells (tabM (fun i => tabI (F i) N) N))], []⟩ := by
  obtain ⟨m, rfl⟩ : ∃ m, n = m + 1 := ⟨n - 1, by omega⟩
  have hB := B_eq
  simp only [evalCall_at, fb194, bnd_some, bodyOf, Tryz.f194, Option.getD_some]
  generalize hb0 : Code.loop _ = cc0
  obtain rfl : cc0 = .loop (lp Tryz.f194 0) := by rw [← hb0]; rfl
  clear hb0
  simp -implicitDefEqProofs (maxSteps := 3000000)
  generalize hx : loopC _ _ _ = x
  generalize hl : lp Tryz.f194 0 = L at hx
  simp only [lp, bodyOf, Tryz.f194, Option.getD_some, loopsIn, List.append_nil, List.nil_append, List.cons_append, List.getD, List.getElem?_cons_zero, List.getElem?_cons_succ] at hl
  subst hl
  generalize hb1 : Code.loop _ = cc1 at hx
  obtain rfl : cc1 = .loop (lp Tryz.f194 1) := by rw [← hb1]; rfl
  clear hb1
  obtain ⟨qq, rfl, hqq⟩ := loop_end hx N (fun i s => (i = 0 ∧ ∃ g, s = ⟨[(0, .d (.int .i64 N)), (1, .d (.clo c [] b)), (4, .ptr 64 1 0), (5, .ptr 80 3 0), (10, .d (.int .i64 N)), (11, .d (.int .i64 i))], [(64, some (1, .box [.d .nil])), (80, some (3, .box [.d .nil]))], g⟩) ∨
      (0 < i ∧ ∃ g v, s = ⟨[(0, .d (.int .i64 N)), (1, .d (.clo c [] b)), (4, .ptr 64 1 0), (5, .ptr 80 3 0), (10, .d (.int .i64 N)), (11, .d (.int .i64 i))], [(64, some (1, .box [.d .nil])), (80, some (3, .box [.own 496 v])), (496, some (v, .mat true (mcells (tabM (fun i => tabI (F i) N) i))))], g⟩))
    (fun qq => ∃ s v, qq = (.exit 0, s) ∧ obsL s.obs 64 = some (1, .box [.d .nil]) ∧ obsL s.obs 80 = some (3, .box [.own 496 v]) ∧ obsL s.obs 496 = some (v, .mat true (mcells (tabM (fun i => tabI (F i) N) N))) ∧ lookL s.env 4 = some (.ptr 64 1 0) ∧ lookL s.env 5 = some (.ptr 80 3 0))
    (by show N < m; omega) (.inl ⟨rfl, by simp⟩)
    (by
      rintro i s hi h
      have w2 := wrap_id (n := (i : Int) + 1) (by omega)
      have hs := tabM_succ (fun i => tabI (F i) N) i
      have hl := lt_bound (n := i) (by omega)
      have hl2 := le_bound (n := i) (by omega)
      rcases h with ⟨h0, g, rfl⟩ | ⟨h0, g, v, rfl⟩
      · subst h0
        simp -implicitDefEqProofs (maxSteps := 3000000) [hi]
        generalize hy : loopC _ _ _ = y
        obtain ⟨s, v2, rfl, hq⟩ := lp_made_1a m (by omega) N (by omega) c b F L (by omega) hF hc 0 hi hy (by simp -implicitDefEqProofs (maxSteps := 3000000))
        have w1 := wrap_id (n := 1) (by omega)
        simp -implicitDefEqProofs (maxSteps := 3000000) [hq, w2, w1]
        rfl
      · simp -implicitDefEqProofs (maxSteps := 3000000) [hi]
        generalize hy : loopC _ _ _ = y
        obtain ⟨s, v2, rfl, hq⟩ := lp_made_1b m (by omega) N (by omega) c b F L (by omega) hF hc i hi (tabM (fun i => tabI (F i) N) i) v hy (by simp -implicitDefEqProofs (maxSteps := 3000000))
        simp -implicitDefEqProofs (maxSteps := 3000000) [hq, w2, hl, hl2, hs])
    (by
      rintro s h
      rcases h with ⟨h0, g, rfl⟩ | ⟨h0, g, v, rfl⟩
      · omega
      · simp -implicitDefEqProofs (maxSteps := 3000000))
  obtain ⟨s, v, rfl, hf⟩ := hqq
  simp -implicitDefEqProofs (maxSteps := 3000000) [hf]
end Go.Proofs.YtnfhglplafmfiaaGreatE

namespace Go.Proofs.YtnfhglplafmfiaaGreatE
open Go Go.Proofs
set_option maxHeartbeats 4000000
set_option maxRecDepth 4000
set_option linter.unusedSimpArgs false
set_option linter.unusedVariables false
set_option pp.deepTerms false
set_option pp.deepTerms.threshold 10
/-! ## GroupOfSubgroup -/
theorem ct_eqGroup_nil (n : Nat) (hn : B + 3 ≤ n) :
    evalCall Tryz.prog An n 14 [.agg [.d .nil], .agg [.d .nil]] [] = some ⟨.d (.bool true), [], []⟩ := by
  obtain ⟨m, rfl⟩ : ∃ m, n = m + 1 := ⟨n - 1, by omega⟩
  have hB := B_eq
  simp only [evalCall_at, fb14, bnd_some, bodyOf, Tryz.f14, Option.getD_some]
  have c := ct_eqInt64SS_nil m (by omega)
  simp -implicitDefEqProofs (maxSteps := 3000000) [c]
theorem ct_markGroup_nil (n : Nat) (hn : B + 3 ≤ n) (k : Int) :
    evalCall Tryz.prog An n 16 [.agg [.d .nil], .d (.int .i64 k)] [] = some ⟨.d (.int .i64 k), [], []⟩ := by
  obtain ⟨m, rfl⟩ : ∃ m, n = m + 1 := ⟨n - 1, by omega⟩
  have hB := B_eq
  simp only [evalCall_at, fb16, bnd_some, bodyOf, Tryz.f16, Option.getD_some]
  have c := ct_markInt64SS_nil m (by omega) k
  simp -implicitDefEqProofs (maxSteps := 3000000) [c]
theorem ct_groupOf1 (n : Nat) (hn : B + 2 ≤ n) (T : List (List Int)) (h : List Int) (H : HGood T h) (i k : Nat) (hi : i < h.length) (hk : k < h.length) :
    evalCall Tryz.prog An n 202 [.d (.int .i64 i), .d (.int .i64 k), .d (.cellp [ints h]), .d (.cellp [intss T])] [] = some ⟨.d (.int .i64 (sbE T h i k)), [], []⟩ := by
  obtain ⟨m, rfl⟩ : ∃ m, n = m + 1 := ⟨n - 1, by omega⟩
  have hB := B_eq
  simp only [evalCall_at, fb202, bnd_some, bodyOf, Tryz.f202, Option.getD_some]
  have G := H.1
  have hT := G.1.1
  have hlen := setOk_len H.2.1
  have hd := setOk_nodup H.2.1
  have r1 := H.2.1.1 i hi
  have r2 := H.2.1.1 k hk
  have hmem := sb_mem H hi hk
  have ee : sbE T h i k = (pl h (mu T (rn h i).toNat (rn h k).toNat) : Int) := rfl
  obtain ⟨a, ha⟩ := Int.eq_ofNat_of_zero_le r1.1
  obtain ⟨b, hb⟩ := Int.eq_ofNat_of_zero_le r2.1
  rw [ha, hb, Int.toNat_natCast, Int.toNat_natCast] at ee hmem
  have haT : a < T.length := by omega
  have hbT : b < T.length := by omega
  have c1 := ct_times2i m (by omega) T G a b (by omega) (by omega)
  rw [Int.toNat_natCast, Int.toNat_natCast, (mu_cl G.1 haT hbT).1] at c1
  have c2 := ct_IndexP m (by omega) h (by omega) hd (mu T a b) hmem
  rw [ee]
  simp -implicitDefEqProofs (maxSteps := 3000000) [hi, hk, ha, hb, c1, c2]
theorem ct_groupOf (n : Nat) (hn : B + 3 + 3 ≤ n) (T : List (List Int)) (h : List Int) (H : HGood T h) :
    evalCall Tryz.prog An n 120 [.agg [.d (intss T)], .d (ints h)] [] = some ⟨.agg [.own 0 0], [.mat false (mcells (sbG T h))], []⟩ := by
  obtain ⟨m, rfl⟩ : ∃ m, n = m + 1 := ⟨n - 1, by omega⟩
  have hB := B_eq
  simp only [evalCall_at, fb120, bnd_some, bodyOf, Tryz.f120, Option.getD_some]
  have hT := H.1.1.1
  have hlen := setOk_len H.2.1
  have hp := H.pos
  have c1 := ct_made m (by omega) h.length (by omega) 202 [.cellp [ints h], .cellp [intss T]] (sbE T h) (B + 2) (by omega)
    (fun m hm i hi k hk => by simpa using ct_groupOf1 m hm T h H i k hi hk) (by simp -implicitDefEqProofs (maxSteps := 3000000))
  have e : tabM (fun i => tabI (sbE T h i) h.length) h.length = sbG T h := rfl
  rw [e] at c1
  simp -implicitDefEqProofs (maxSteps := 3000000) [c1]
theorem ct_implGrp_bad (n : Nat) (hn : B + 10 ≤ n) (T : List (List Int)) (hT : T.length ≤ 2000000) (hr : ∀ i, (rown T i).length ≤ 1000000000000) (l : List Int) (hl : l.length ≤ 10000000) (h : ¬ HGood T l) :
    evalCall Tryz.prog An n 58 [.agg [.d (intss T)], .d (ints l)] [] = some ⟨.tuple [.agg [.d .nil], .d (.int .i64 (subcode T l))], [], []⟩ := by
  obtain ⟨m, rfl⟩ : ∃ m, n = m + 1 := ⟨n - 1, by omega⟩
  have hB := B_eq
  simp only [evalCall_at, fb58, bnd_some, bodyOf, Tryz.f58, Option.getD_some]
  have c1 := ct_subgroupCode m (by omega) T hT hr l hl
  have h1 := subcode_ne h
  have h2 := bne_t h1
  simp -implicitDefEqProofs (maxSteps := 3000000) [c1, h1, h2]
theorem ct_implGrp (n : Nat) (hn : B + 12 + 10 ≤ n) (T : List (List Int)) (hT : T.length ≤ 2000000) (hr : ∀ i, (rown T i).length ≤ 1000000000000) (l : List Int) (hl : l.length ≤ 10000000) (h : HGood T l) :
    evalCall Tryz.prog An n 58 [.agg [.d (intss T)], .d (ints l)] [] = some ⟨.tuple [.agg [.own 0 0], .d (.int .i64 0)], [.mat false (mcells (sbG T l))], []⟩ := by
  obtain ⟨m, rfl⟩ : ∃ m, n = m + 1 := ⟨n - 1, by omega⟩
  have hB := B_eq
  simp only [evalCall_at, fb58, bnd_some, bodyOf, Tryz.f58, Option.getD_some]
  have c1 := ct_subgroupCode m (by omega) T hT hr l hl
  rw [subcode_0 h] at c1
  have c2 := ct_groupOf m (by omega) T l h
  simp -implicitDefEqProofs (maxSteps := 3000000) [c1, c2]
theorem sbG_len (T : List (List Int)) (h : List Int) : (sbG T h).length = h.length := by simp -implicitDefEqProofs (maxSteps := 3000000) [sbG]
theorem sbG_rows (T : List (List Int)) (h : List Int) (i : Nat) : (rown (sbG T h) i).length ≤ h.length := by
  by_cases e : i < h.length
  · rw [sbG, rown_tabM _ e]; simp -implicitDefEqProofs (maxSteps := 3000000) [sbR]
  · rw [rown_out (by rw [sbG_len]; omega)]; simp -implicitDefEqProofs (maxSteps := 3000000)
end Go.Proofs.YtnfhglplafmfiaaGreatE

namespace Go.Proofs.YtnfhglplafmfiaaGreatE
open Go Go.Proofs
set_option maxHeartbeats 4000000
set_option maxRecDepth 4000
set_option linter.unusedSimpArgs false
set_option linter.unusedVariables false
set_option pp.deepTerms false
set_option pp.deepTerms.threshold 10
/-! ## centres -/
noncomputable def cenQ (S : List (List Int)) (a : Nat) : Bool := bl (∀ b < S.length, cl S a b = cl S b a)
noncomputable def cenL (S : List (List Int)) : List Int := thoseL (cenQ S) S.length
end Go.Proofs.YtnfhglplafmfiaaGreatE

namespace Go.Proofs.YtnfhglplafmfiaaGreatE
open Go Go.Proofs
set_option maxHeartbeats 4000000
set_option maxRecDepth 4000
set_option linter.unusedSimpArgs false
set_option linter.unusedVariables false
set_option pp.deepTerms false
set_option pp.deepTerms.threshold 10
/-! ## TransferElement -/
noncomputable def fr (T : List (List Int)) (h : List Int) (w : Nat) : Nat := (rn (firsts T h) (rn (nums T h) w).toNat).toNat
noncomputable def stp (T : List (List Int)) (h : List Int) (x t : Nat) : Nat := mu T (inv T (fr T h (mu T x t))) (mu T x t)
noncomputable def trN (T : List (List Int)) (h : List Int) (x : Nat) : Nat → Nat
  | 0 => 0
  | i + 1 => mu T (trN T h x i) (stp T h x (rn (firsts T h) i).toNat)
theorem fr_lt {T : List (List Int)} {h : List Int} (H : HGood T h) {w : Nat} (hw : w < T.length) : (rn (nums T h) w).toNat < (firsts T h).length ∧ fr T h w < T.length ∧ rn (nums T h) w = ((rn (nums T h) w).toNat : Int) ∧ rn (firsts T h) (rn (nums T h) w).toNat = (fr T h w : Int) := by
  have h1 := nums_bd H w hw
  have h2 := (firsts_bd T h).2 (rn (nums T h) w).toNat (by omega)
  refine ⟨by omega, ?_, by omega, ?_⟩
  · simp only [fr]; omega
  · simp only [fr]; omega
theorem stp_lt {T : List (List Int)} {h : List Int} (H : HGood T h) {x t : Nat} (hx : x < T.length) (ht : t < T.length) : stp T h x t < T.length :=
  mu_lt H.1 (inv_spec H.1 (fr_lt H (mu_lt H.1 hx ht)).2.1).1 (mu_lt H.1 hx ht)
theorem fst_nat {T : List (List Int)} {h : List Int} {i : Nat} (hi : i < (firsts T h).length) : rn (firsts T h) i = ((rn (firsts T h) i).toNat : Int) ∧ (rn (firsts T h) i).toNat < T.length := by
  have := (firsts_bd T h).2 i hi
  omega
theorem trN_lt {T : List (List Int)} {h : List Int} (H : HGood T h) {x : Nat} (hx : x < T.length) : ∀ i ≤ (firsts T h).length, trN T h x i < T.length
  | 0, _ => zero_lt_len H.1
  | i + 1, hi => mu_lt H.1 (trN_lt H hx i (by omega)) (stp_lt H hx (fst_nat (by omega)).2)
def TGood (T : List (List Int)) (l : List Int) (c : Int) : Prop := (HGood T l ∧ 0 ≤ c ∧ c < T.length) ∧ (cenL (sbG T l)).length = l.length
open Classical in
noncomputable def tcode (T : List (List Int)) (l : List Int) (c : Int) : Int := if HGood T l ∧ 0 ≤ c ∧ c < T.length then 5 else cjcode T l c
end Go.Proofs.YtnfhglplafmfiaaGreatE
