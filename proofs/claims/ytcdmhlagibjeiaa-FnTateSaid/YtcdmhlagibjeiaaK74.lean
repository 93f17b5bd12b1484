/- Contracts of functions of the program and of the reference: what the evaluator gives for a call of each. -/
import Derived.Test.YtcdmhlagibjeiaaAEf
import Derived.Test.YtcdmhlagibjeiaaK0
import Derived.Test.YtcdmhlagibjeiaaK4
import Derived.Test.YtcdmhlagibjeiaaK28
import Derived.Test.YtcdmhlagibjeiaaK31
import Derived.Test.YtcdmhlagibjeiaaK64
import Derived.Test.YtcdmhlagibjeiaaK67
import Derived.Test.YtcdmhlagibjeiaaK68
import Derived.Test.YtcdmhlagibjeiaaK70
import Derived.Test.YtcdmhlagibjeiaaK71
import Derived.Test.YtcdmhlagibjeiaaK72
import Derived.Test.YtcdmhlagibjeiaaK73
namespace Go.Proofs.YtcdmhlagibjeiaaE
open Go Go.Proofs
set_option maxHeartbeats 16000000
set_option maxRecDepth 8000
set_option linter.unusedSimpArgs false
set_option linter.unusedVariables false
set_option pp.deepTerms false
set_option pp.deepTerms.threshold 10
/-! ## FnTate -/
theorem ct_FnTate_big (n : Nat) (hn : B + 2 ≤ n) (l : List Int) (h : 4096 < l.length) :
    evalCall Try.prog An n 3 [.d (.pin (bcells l))] [] = some ⟨.d (.bool true), [], []⟩ := by
  obtain ⟨m, rfl⟩ : ∃ m, n = m + 1 := ⟨n - 1, by omega⟩
  have hB := B_eq
  simp only [evalCall_at, fb3, bnd_some, bodyOf, Try.f3, Option.getD_some]
  generalize hb0 : Code.loop _ = cc0
  generalize hb1 : Code.loop _ = cc1
  obtain rfl : cc0 = .loop (lp Try.f3 0) := by rw [← hb0]; rfl
  clear hb0
  obtain rfl : cc1 = .loop (lp Try.f3 1) := by rw [← hb1]; rfl
  clear hb1
  have c1 := ct_big m (by omega) l
  simp -implicitDefEqProofs (maxSteps := 3000000) [c1, h]
theorem ct_FnTate_1 (n : Nat) (hn : B + 100 ≤ n) (l : List Int) (C : CodeOk l) (h : ¬ 4096 < l.length) :
    evalCall Try.prog An n 3 [.d (.pin (bcells l))] [] = some ⟨.d (.bool true), [], []⟩ := by
  obtain ⟨m, rfl⟩ : ∃ m, n = m + 1 := ⟨n - 1, by omega⟩
  have hB := B_eq
  simp only [evalCall_at, fb3, bnd_some, bodyOf, Try.f3, Option.getD_some]
  generalize hb0 : Code.loop _ = cc0
  generalize hb1 : Code.loop _ = cc1
  obtain rfl : cc0 = .loop (lp Try.f3 0) := by rw [← hb0]; rfl
  clear hb0
  obtain rfl : cc1 = .loop (lp Try.f3 1) := by rw [← hb1]; rfl
  clear hb1
  have c1 := ct_big m (by omega) l
  obtain ⟨a, q, u, d, bd, b2, c2⟩ := ct_DrawTM m (by omega) l C
  by_cases hA : tacode a q u d = 0
  · obtain ⟨hc, hd⟩ := tacode_zero hA
    obtain ⟨h1, h2, h3, h4, h5⟩ := isC_iff.1 hc
    have c3 := ct_iTateMembers m (by omega) a q u d hA
    have c4 := ct_sTateMembers m (by omega) a q u d hA
    have c5 := ct_iTateOrder m (by omega) a q u d
    have c6 := ct_sTateOrder m (by omega) a q u d
    rw [if_pos hA, hA] at c5 c6
    have c7 := ct_iIsCircle m (by omega) a q u
    have c8 := ct_sIsCircle m (by omega) a q u
    have c9 := ct_iHerb m (by omega) a q u
    rw [if_pos hc, if_pos hc, if_pos hc, tord_par 0 d, tord_par 1 d] at c9
    have l1 := fltL_le (fun x => (tmaps a q u d).1 * x % q == 0) q.toNat
    have l2 := fltL_le (fun y => y % gcdI q (tmaps a q u d).2 == 0) q.toNat
    have t1 : (tmem q (tmaps a q u d).1).length ≤ 200 := by unfold tmem; omega
    have t2 : (tnou q (tmaps a q u d).2).length ≤ 200 := by unfold tnou; omega
    have k1 := ct_like m (by omega) (tmem q (tmaps a q u d).1) (by omega)
    have k2 := ct_like m (by omega) (tnou q (tmaps a q u d).2) (by omega)
    obtain ⟨_, o1, o2⟩ := ord_div (d := d) hc
    have tl := tord_len (d := d) hc
    have w1 := wrap_id (n := ((tmem q (tmaps a q u d).1).length : Int)) (by omega)
    have w2 := wrap_id (n := ((tnou q (tmaps a q u d).2).length : Int)) (by omega)
    have mf := fun x hx => mem_facts (x := x) hA hx
    have iC := fun x => ct_iTateClass m (by omega) a q u d x
    generalize hX : tmem q (tmaps a q u d).1 = X at *
    generalize hY : tnou q (tmaps a q u d).2 = Y at *
    generalize tord a q u d = od at *
    have hs := fun x hx => ct_has m (by omega) X (by omega) x hx
    have hs2 := fun x hx => ct_has m (by omega) Y (by omega) x hx
    simp -implicitDefEqProofs (maxSteps := 3000000) [c1, h, c2, c3, c4, c5, c6, c7, c8, c9, k1, k2, w1, w2, tl]
    generalize hg : gcdI q (tmaps a q u d).2 = g at *
    generalize hx : loopC _ _ _ = x
    generalize hl : lp Try.f3 0 = L at hx
    simp only [lp, bodyOf, Try.f3, Option.getD_some, loopsIn, List.append_nil, List.nil_append, List.cons_append, List.getD, List.getElem?_cons_zero, List.getElem?_cons_succ] at hl
    subst hl
    obtain ⟨qq, rfl, hqq⟩ := loop_end hx (min X.length 20) (fun i s => ∃ g0 v w, s = ⟨[(0, .d (.pin (bcells l))), (3, .d (.int .i64 a)), (4, .d (.int .i64 q)), (5, .d (.int .i64 u)), (6, .d (.int .i64 d)), (7, .own 1328 v), (8, .own 1329 w), (20, .d (.int .i64 i))], [(1328, some (v, .row (icells X))), (1329, some (w, .row (icells Y)))], g0⟩)
      (fun qq => ∃ s, qq = (.exit 0, s) ∧ lookL s.env 0 = some (.d (.pin (bcells l))) ∧ obsL s.obs 4512 = none ∧ obsL s.obs 4513 = none ∧ obsL s.obs 4514 = none ∧ obsL s.obs 4515 = none)
      (by show min X.length 20 < m; omega) (by
        simp -implicitDefEqProofs (maxSteps := 3000000))
      (by
        rintro i s hi ⟨g0, v, w, rfl⟩
        have hi1 : i < X.length := by omega
        have hi2 : (i : Int) < 20 := by omega
        have w3 := wrap_id (n := (i : Int) + 1) (by omega)
        obtain ⟨⟨x0, x1⟩, m1, m2, ⟨m3, m4⟩, m5, m6, ⟨m7, m8⟩, m9, m10⟩ := mf (rn X i) (mem_rn.2 ⟨i, hi1, rfl⟩)
        generalize hzr : rn X i = z at *
        have i1 := iC z
        have i2 := iC (z * a % q)
        rw [m1, m2] at i1
        rw [m9, m10] at i2
        have w4 := wrap_id (n := z * a) (by omega)
        have e1 := tmod_nn q m7
        have hz : q ≠ 0 := by omega
        have s1 := hs _ m5
        have s2 := hs2 _ m6
        generalize z % g = y at *
        have w5 := wrap_id (n := z - y) (by omega)
        have w6 := wrap_id (n := z - y + q) (by omega)
        have e2 : (z - y + q).tmod q = z - y := by
          rw [tmod_nn q (by omega), Int.add_emod_right, Int.emod_eq_of_lt (by omega) (by omega)]
        simp -implicitDefEqProofs (maxSteps := 3000000) [hi1, hi2, hzr, w3, w4, w5, w6, e1, e2, hz, i1, i2, s1, s2])
      (by
        rintro s ⟨g0, v, w, rfl⟩
        by_cases hm1 : X.length ≤ 20
        · have e : min X.length 20 = X.length := by omega
          rw [e]
          simp -implicitDefEqProofs (maxSteps := 3000000)
        · have e : min X.length 20 = 20 := by omega
          have hm2 : 20 < X.length := by omega
          have hm3 : (20 : Int) < X.length := by omega
          rw [e]
          simp -implicitDefEqProofs (maxSteps := 3000000) [hm2, hm3])
    obtain ⟨s, rfl, hf⟩ := hqq
    obtain ⟨a2, q2, u2, d2, x2, e1⟩ := ct_DrawTC m (by omega) l C
    have e2 := ct_iTateClass m (by omega) a2 q2 u2 d2 x2
    have e3 := ct_sTateClass m (by omega) a2 q2 u2 d2 x2
    generalize tcl a2 q2 u2 d2 x2 = y1 at e2 e3
    generalize tclcode a2 q2 u2 d2 x2 = y2 at e2 e3
    obtain ⟨a3, q3, e4⟩ := ct_DrawUC m (by omega) l C
    obtain ⟨a4, q4, u4, e6⟩ := ct_DrawCN m (by omega) l C
    have e7 := ct_iNorm m (by omega) a4 q4 u4
    have e8 := ct_sNorm m (by omega) a4 q4 u4
    generalize (if isC a4 q4 u4 = true then sump q4 u4 a4.toNat % q4 else 0) = y3 at e7 e8
    generalize (if isC a4 q4 u4 = true then (0 : Int) else 2) = y4 at e7 e8
    obtain ⟨a5, q5, u5, k5, e9⟩ := ct_DrawRC m (by omega) l C
    obtain ⟨r1, r2, r3, r4, hR, e10, e11⟩ := ct_RCu m (by omega) a5 q5 u5 k5
    obtain ⟨a6, q6, u6, e12⟩ := ct_DrawHO m (by omega) l C
    have e13 := ct_iHerb m (by omega) a6 q6 u6
    have e14 := ct_sHerb m (by omega) a6 q6 u6
    generalize (if isC a6 q6 u6 = true then tord a6 q6 u6 0 else 0) = y5 at e13 e14
    generalize (if isC a6 q6 u6 = true then tord a6 q6 u6 1 else 0) = y6 at e13 e14
    generalize (if isC a6 q6 u6 = true then (0 : Int) else 2) = y7 at e13 e14
    have e15 := ct_iIsCircle m (by omega) r1 r2 r3
    by_cases hB3 : (1 ≤ a3 ∧ a3 ≤ 60) ∧ 2 ≤ q3 ∧ q3 ≤ 200
    · have e5 := ct_iUnits m (by omega) a3 q3 hB3
      have e5' := ct_sUnits m (by omega) a3 q3 hB3
      have ul := units_one hB3
      have k3 := ct_like m (by omega) (unitsL a3 q3) (by omega)
      have uc := fun i hi => units_isC (a := a3) (q := q3) (i := i) hi
      generalize unitsL a3 q3 = UL at *
      simp -implicitDefEqProofs (maxSteps := 3000000) [hf, e1, e2, e3, e4, e5, e5', e6, e7, e8, e9, e10, e11, e12, e13, e14, k3]
      clear e1 e2 e3 e4 e5 e5' e6 e7 e8 e9 e10 e11 e12 e13 e14 k3
      generalize hx : loopC _ _ _ = x
      generalize hl : lp Try.f3 1 = L at hx
      simp only [lp, bodyOf, Try.f3, Option.getD_some, loopsIn, List.append_nil, List.nil_append, List.cons_append, List.getD, List.getElem?_cons_zero, List.getElem?_cons_succ] at hl
      subst hl
      obtain ⟨qq, rfl, hqq⟩ := loop_end hx (min UL.length 10) (fun i s => ∃ g0 v, s = ⟨[(34, .d (.int .i64 a3)), (35, .d (.int .i64 q3)), (36, .own 4512 v), (51, .d (.int .i64 r1)), (52, .d (.int .i64 r2)), (53, .d (.int .i64 r3)), (54, .d (.int .i64 r4)), (68, .d (.int .i64 i))], [(4512, some (v, .row (icells UL)))], g0⟩)
        (fun qq => ∃ s, qq = (.exit 2, s) ∧ lookL s.env 51 = some (.d (.int .i64 r1)) ∧ lookL s.env 52 = some (.d (.int .i64 r2)) ∧ lookL s.env 53 = some (.d (.int .i64 r3)) ∧ lookL s.env 54 = some (.d (.int .i64 r4)))
        (by show min UL.length 10 < m; omega) (by
          simp -implicitDefEqProofs (maxSteps := 3000000) [hf])
        (by
          rintro i s hi ⟨g0, v, rfl⟩
          have hi1 : i < UL.length := by omega
          have hi2 : (i : Int) < 10 := by omega
          have w3 := wrap_id (n := (i : Int) + 1) (by omega)
          have i1 := ct_iIsCircle m (by omega) a3 q3 (rn UL i)
          rw [uc i hi1] at i1
          simp -implicitDefEqProofs (maxSteps := 3000000) [hi1, hi2, w3, i1])
        (by
          rintro s ⟨g0, v, rfl⟩
          by_cases hm1 : UL.length ≤ 10
          · have e : min UL.length 10 = UL.length := by omega
            rw [e]
            simp -implicitDefEqProofs (maxSteps := 3000000)
          · have e : min UL.length 10 = 10 := by omega
            have hm2 : 10 < UL.length := by omega
            have hm3 : (10 : Int) < UL.length := by omega
            rw [e]
            simp -implicitDefEqProofs (maxSteps := 3000000) [hm2, hm3])
      obtain ⟨s, rfl, hf⟩ := hqq
      rcases hR with rfl | ⟨rfl, hR⟩
      · simp -implicitDefEqProofs (maxSteps := 3000000) [hf]
      · rw [hR] at e15
        simp -implicitDefEqProofs (maxSteps := 3000000) [hf, e15]
    · have e5 := ct_iUnits_bad m (by omega) a3 q3 hB3
      have e5' := ct_sUnits_bad m (by omega) a3 q3 hB3
      have k3 := ct_like_nil m (by omega)
      simp -implicitDefEqProofs (maxSteps := 3000000) [hf, e1, e2, e3, e4, e5, e5', e6, e7, e8, e9, e10, e11, e12, e13, e14, k3]
      clear e1 e2 e3 e4 e5 e5' e6 e7 e8 e9 e10 e11 e12 e13 e14 k3
      generalize hx : loopC _ _ _ = x
      generalize hl : lp Try.f3 1 = L at hx
      simp only [lp, bodyOf, Try.f3, Option.getD_some, loopsIn, List.append_nil, List.nil_append, List.cons_append, List.getD, List.getElem?_cons_zero, List.getElem?_cons_succ] at hl
      subst hl
      obtain ⟨qq, rfl, hqq⟩ := loop_end hx 0 (fun i s => ∃ g0, s = ⟨[(34, .d (.int .i64 a3)), (35, .d (.int .i64 q3)), (36, .d .nil), (51, .d (.int .i64 r1)), (52, .d (.int .i64 r2)), (53, .d (.int .i64 r3)), (54, .d (.int .i64 r4)), (68, .d (.int .i64 i))], [], g0⟩)
        (fun qq => ∃ s, qq = (.exit 2, s) ∧ lookL s.env 51 = some (.d (.int .i64 r1)) ∧ lookL s.env 52 = some (.d (.int .i64 r2)) ∧ lookL s.env 53 = some (.d (.int .i64 r3)) ∧ lookL s.env 54 = some (.d (.int .i64 r4)))
        (by show 0 < m; omega) (by simp -implicitDefEqProofs (maxSteps := 3000000) [hf])
        (by
          rintro i s hi
          omega)
        (by
          rintro s ⟨g0, rfl⟩
          simp -implicitDefEqProofs (maxSteps := 3000000))
      obtain ⟨s, rfl, hf⟩ := hqq
      rcases hR with rfl | ⟨rfl, hR⟩
      · simp -implicitDefEqProofs (maxSteps := 3000000) [hf]
      · rw [hR] at e15
        simp -implicitDefEqProofs (maxSteps := 3000000) [hf, e15]
  · have c3 := ct_iTateMembers_bad m (by omega) a q u d hA
    have c4 := ct_sTateMembers_bad m (by omega) a q u d hA
    have c5 := ct_iTateOrder m (by omega) a q u d
    have c6 := ct_sTateOrder m (by omega) a q u d
    rw [if_neg hA, tacode_two hA] at c5 c6
    have c7 := ct_iIsCircle m (by omega) a q u
    have c8 := ct_sIsCircle m (by omega) a q u
    have k1 := ct_like_nil m (by omega)
    obtain ⟨a2, q2, u2, d2, x2, e1⟩ := ct_DrawTC m (by omega) l C
    have e2 := ct_iTateClass m (by omega) a2 q2 u2 d2 x2
    have e3 := ct_sTateClass m (by omega) a2 q2 u2 d2 x2
    generalize tcl a2 q2 u2 d2 x2 = y1 at e2 e3
    generalize tclcode a2 q2 u2 d2 x2 = y2 at e2 e3
    obtain ⟨a3, q3, e4⟩ := ct_DrawUC m (by omega) l C
    obtain ⟨a4, q4, u4, e6⟩ := ct_DrawCN m (by omega) l C
    have e7 := ct_iNorm m (by omega) a4 q4 u4
    have e8 := ct_sNorm m (by omega) a4 q4 u4
    generalize (if isC a4 q4 u4 = true then sump q4 u4 a4.toNat % q4 else 0) = y3 at e7 e8
    generalize (if isC a4 q4 u4 = true then (0 : Int) else 2) = y4 at e7 e8
    obtain ⟨a5, q5, u5, k5, e9⟩ := ct_DrawRC m (by omega) l C
    obtain ⟨r1, r2, r3, r4, hR, e10, e11⟩ := ct_RCu m (by omega) a5 q5 u5 k5
    obtain ⟨a6, q6, u6, e12⟩ := ct_DrawHO m (by omega) l C
    have e13 := ct_iHerb m (by omega) a6 q6 u6
    have e14 := ct_sHerb m (by omega) a6 q6 u6
    generalize (if isC a6 q6 u6 = true then tord a6 q6 u6 0 else 0) = y5 at e13 e14
    generalize (if isC a6 q6 u6 = true then tord a6 q6 u6 1 else 0) = y6 at e13 e14
    generalize (if isC a6 q6 u6 = true then (0 : Int) else 2) = y7 at e13 e14
    have e15 := ct_iIsCircle m (by omega) r1 r2 r3
    by_cases hB3 : (1 ≤ a3 ∧ a3 ≤ 60) ∧ 2 ≤ q3 ∧ q3 ≤ 200
    · have e5 := ct_iUnits m (by omega) a3 q3 hB3
      have e5' := ct_sUnits m (by omega) a3 q3 hB3
      have ul := units_one hB3
      have k3 := ct_like m (by omega) (unitsL a3 q3) (by omega)
      have uc := fun i hi => units_isC (a := a3) (q := q3) (i := i) hi
      generalize unitsL a3 q3 = UL at *
      simp -implicitDefEqProofs (maxSteps := 3000000) [c1, h, c2, c3, c4, c5, c6, c7, c8, k1, e1, e2, e3, e4, e5, e5', e6, e7, e8, e9, e10, e11, e12, e13, e14, k3]
      clear e1 e2 e3 e4 e5 e5' e6 e7 e8 e9 e10 e11 e12 e13 e14 k3
      generalize hx : loopC _ _ _ = x
      generalize hl : lp Try.f3 1 = L at hx
      simp only [lp, bodyOf, Try.f3, Option.getD_some, loopsIn, List.append_nil, List.nil_append, List.cons_append, List.getD, List.getElem?_cons_zero, List.getElem?_cons_succ] at hl
      subst hl
      obtain ⟨qq, rfl, hqq⟩ := loop_end hx (min UL.length 10) (fun i s => ∃ g0 v, s = ⟨[(34, .d (.int .i64 a3)), (35, .d (.int .i64 q3)), (36, .own 4512 v), (51, .d (.int .i64 r1)), (52, .d (.int .i64 r2)), (53, .d (.int .i64 r3)), (54, .d (.int .i64 r4)), (68, .d (.int .i64 i))], [(4512, some (v, .row (icells UL)))], g0⟩)
        (fun qq => ∃ s, qq = (.exit 2, s) ∧ lookL s.env 51 = some (.d (.int .i64 r1)) ∧ lookL s.env 52 = some (.d (.int .i64 r2)) ∧ lookL s.env 53 = some (.d (.int .i64 r3)) ∧ lookL s.env 54 = some (.d (.int .i64 r4)))
        (by show min UL.length 10 < m; omega) (by
          simp -implicitDefEqProofs (maxSteps := 3000000))
        (by
          rintro i s hi ⟨g0, v, rfl⟩
          have hi1 : i < UL.length := by omega
          have hi2 : (i : Int) < 10 := by omega
          have w3 := wrap_id (n := (i : Int) + 1) (by omega)
          have i1 := ct_iIsCircle m (by omega) a3 q3 (rn UL i)
          rw [uc i hi1] at i1
          simp -implicitDefEqProofs (maxSteps := 3000000) [hi1, hi2, w3, i1])
        (by
          rintro s ⟨g0, v, rfl⟩
          by_cases hm1 : UL.length ≤ 10
          · have e : min UL.length 10 = UL.length := by omega
            rw [e]
            simp -implicitDefEqProofs (maxSteps := 3000000)
          · have e : min UL.length 10 = 10 := by omega
            have hm2 : 10 < UL.length := by omega
            have hm3 : (10 : Int) < UL.length := by omega
            rw [e]
            simp -implicitDefEqProofs (maxSteps := 3000000) [hm2, hm3])
      obtain ⟨s, rfl, hf⟩ := hqq
      rcases hR with rfl | ⟨rfl, hR⟩
      · simp -implicitDefEqProofs (maxSteps := 3000000) [hf]
      · rw [hR] at e15
        simp -implicitDefEqProofs (maxSteps := 3000000) [hf, e15]
    · have e5 := ct_iUnits_bad m (by omega) a3 q3 hB3
      have e5' := ct_sUnits_bad m (by omega) a3 q3 hB3
      have k3 := ct_like_nil m (by omega)
      simp -implicitDefEqProofs (maxSteps := 3000000) [c1, h, c2, c3, c4, c5, c6, c7, c8, k1, e1, e2, e3, e4, e5, e5', e6, e7, e8, e9, e10, e11, e12, e13, e14, k3]
      clear e1 e2 e3 e4 e5 e5' e6 e7 e8 e9 e10 e11 e12 e13 e14 k3
      generalize hx : loopC _ _ _ = x
      generalize hl : lp Try.f3 1 = L at hx
      simp only [lp, bodyOf, Try.f3, Option.getD_some, loopsIn, List.append_nil, List.nil_append, List.cons_append, List.getD, List.getElem?_cons_zero, List.getElem?_cons_succ] at hl
      subst hl
      obtain ⟨qq, rfl, hqq⟩ := loop_end hx 0 (fun i s => ∃ g0, s = ⟨[(34, .d (.int .i64 a3)), (35, .d (.int .i64 q3)), (36, .d .nil), (51, .d (.int .i64 r1)), (52, .d (.int .i64 r2)), (53, .d (.int .i64 r3)), (54, .d (.int .i64 r4)), (68, .d (.int .i64 i))], [], g0⟩)
        (fun qq => ∃ s, qq = (.exit 2, s) ∧ lookL s.env 51 = some (.d (.int .i64 r1)) ∧ lookL s.env 52 = some (.d (.int .i64 r2)) ∧ lookL s.env 53 = some (.d (.int .i64 r3)) ∧ lookL s.env 54 = some (.d (.int .i64 r4)))
        (by show 0 < m; omega) (by simp -implicitDefEqProofs (maxSteps := 3000000))
        (by
          rintro i s hi
          omega)
        (by
          rintro s ⟨g0, rfl⟩
          simp -implicitDefEqProofs (maxSteps := 3000000))
      obtain ⟨s, rfl, hf⟩ := hqq
      rcases hR with rfl | ⟨rfl, hR⟩
      · simp -implicitDefEqProofs (maxSteps := 3000000) [hf]
      · rw [hR] at e15
        simp -implicitDefEqProofs (maxSteps := 3000000) [hf, e15]
theorem ct_FnTate (n : Nat) (hn : B + 100 ≤ n) (l : List Int) (hl : (l.length : Int) ≤ 9223372036854775807) (hb : ∀ i < l.length, 0 ≤ rn l i ∧ rn l i < 256) :
    evalCall Try.prog An n 3 [.d (.pin (bcells l))] [] = some ⟨.d (.bool true), [], []⟩ := by
  by_cases h : 4096 < l.length
  · exact ct_FnTate_big n (by omega) l h
  · exact ct_FnTate_1 n hn l ⟨by omega, hb⟩ h
end Go.Proofs.YtcdmhlagibjeiaaE
