/- Contracts of functions of the program and of the reference: what the evaluator gives for a call of each. -/
import Derived.Test.YtgklblkigjbggaaGreatAEf
import Derived.Test.YtgklblkigjbggaaGreatK0
import Derived.Test.YtgklblkigjbggaaGreatK7
import Derived.Test.YtgklblkigjbggaaGreatK19
import Derived.Test.YtgklblkigjbggaaGreatK31
import Derived.Test.YtgklblkigjbggaaGreatK32
import Derived.Test.YtgklblkigjbggaaGreatK33
import Derived.Test.YtgklblkigjbggaaGreatK34
import Derived.Test.YtgklblkigjbggaaGreatK35
namespace Go.Proofs.YtgklblkigjbggaaGreatE
open Go Go.Proofs
set_option maxHeartbeats 4000000
set_option maxRecDepth 4000
set_option linter.unusedSimpArgs false
set_option linter.unusedVariables false
set_option pp.deepTerms false
set_option pp.deepTerms.threshold 10
/-! ## the program's cosets -/
theorem lp_cosets_1 (m : Nat) (hm : B + 2 ≤ m) (T : List (List Int)) (h : List Int) (H : HGood T h) (a : Nat) (ha : a < T.length) (num fs : List Int) (hnl : num.length = T.length) (hfl : fs.length ≤ 8)
    {st : St} {o : Option (Ex × St)} (hx : loopC (cxAt 97 m) (lp Tryz.f97 1) st = o) {v v2 : Nat}
    (f : obsL st.obs 32 = some (1, .box [.d (intss T)]) ∧ obsL st.obs 176 = some (v, .row (icells fs)) ∧ obsL st.obs 256 = some (v2, .row (icells num)) ∧ obsL st.obs 257 = none ∧ obsL st.obs 258 = none ∧ obsL st.obs 259 = none ∧ obsL st.obs 736 = none ∧ lookL st.env 1 = some (.d (ints h)) ∧ lookL st.env 2 = some (.ptr 32 1 0) ∧ lookL st.env 6 = some (.own 176 v) ∧ lookL st.env 7 = some (.own 256 v2) ∧ lookL st.env 8 = some (.d (.int .i64 a)) ∧ lookL st.env 18 = some (.d (.int .i64 T.length)) ∧ lookL st.env 19 = some (.d (.int .i64 a)) ∧ lookL st.env 27 = some (.d (ints h)) ∧ lookL st.env 28 = some (.d (.int .i64 h.length)) ∧ lookL st.env 29 = some (.d (.int .i64 0))) :
    ∃ s v3, o = some (.exit 2, s) ∧ obsL s.obs 32 = some (1, .box [.d (intss T)]) ∧ obsL s.obs 176 = some (v, .row (icells fs)) ∧ obsL s.obs 256 = some (v3, .row (icells (csH T h a fs.length num h.length))) ∧ obsL s.obs 257 = none ∧ obsL s.obs 258 = none ∧ obsL s.obs 259 = none ∧ obsL s.obs 736 = none ∧ lookL s.env 1 = some (.d (ints h)) ∧ lookL s.env 2 = some (.ptr 32 1 0) ∧ lookL s.env 6 = some (.own 176 v) ∧ lookL s.env 7 = some (.own 256 v3) ∧ lookL s.env 8 = some (.d (.int .i64 a)) ∧ lookL s.env 18 = some (.d (.int .i64 T.length)) ∧ lookL s.env 19 = some (.d (.int .i64 a)) := by
  have hB := B_eq
  have G := H.1
  have hT := G.1.1
  have hlen := setOk_len H.2.1
  generalize hl : lp Tryz.f97 1 = L at hx
  simp only [lp, bodyOf, Tryz.f97, Option.getD_some, loopsIn, List.append_nil, List.nil_append, List.cons_append, List.getD, List.getElem?_cons_zero, List.getElem?_cons_succ] at hl
  subst hl
  obtain ⟨qq, rfl, hqq⟩ := loop_end hx h.length (fun j s => ∃ g v3, s = ⟨[(1, .d (ints h)), (2, .ptr 32 1 0), (6, .own 176 v), (7, .own 256 v3), (8, .d (.int .i64 a)), (18, .d (.int .i64 T.length)), (19, .d (.int .i64 a)), (27, .d (ints h)), (28, .d (.int .i64 h.length)), (29, .d (.int .i64 j))], [(32, some (1, .box [.d (intss T)])), (176, some (v, .row (icells fs))), (256, some (v3, .row (icells (csH T h a fs.length num j))))], g⟩)
    (fun qq => ∃ s v3, qq = (.exit 2, s) ∧ obsL s.obs 32 = some (1, .box [.d (intss T)]) ∧ obsL s.obs 176 = some (v, .row (icells fs)) ∧ obsL s.obs 256 = some (v3, .row (icells (csH T h a fs.length num h.length))) ∧ obsL s.obs 257 = none ∧ obsL s.obs 258 = none ∧ obsL s.obs 259 = none ∧ obsL s.obs 736 = none ∧ lookL s.env 1 = some (.d (ints h)) ∧ lookL s.env 2 = some (.ptr 32 1 0) ∧ lookL s.env 6 = some (.own 176 v) ∧ lookL s.env 7 = some (.own 256 v3) ∧ lookL s.env 8 = some (.d (.int .i64 a)) ∧ lookL s.env 18 = some (.d (.int .i64 T.length)) ∧ lookL s.env 19 = some (.d (.int .i64 a)))
    (by show h.length < m; omega) ⟨st.g, v2, by simp -implicitDefEqProofs (maxSteps := 3000000) [f, csH]⟩
    (by
      rintro j s hj ⟨g, v3, rfl⟩
      have w2 := wrap_id (n := (j : Int) + 1) (by omega)
      have hr := H.2.1.1 j hj
      obtain ⟨b, hb⟩ := Int.eq_ofNat_of_zero_le hr.1
      have hbT : b < T.length := by omega
      have mc := mu_cl G.1 ha hbT
      have c1 := ct_times2i m (by omega) T G a b (by omega) (by omega)
      rw [Int.toNat_natCast, Int.toNat_natCast, mc.1] at c1
      have hs : csH T h a fs.length num (j + 1) = (csH T h a fs.length num j).set (mu T a b) fs.length := by rw [csH, hb]; rfl
      have hl : (csH T h a fs.length num j).length = T.length := by rw [csH_len, hnl]
      have w3 := wrap_id (n := (fs.length : Int)) (by omega)
      have hm2 := mc.2
      rw [hs]
      generalize csH T h a fs.length num j = Q at *
      simp -implicitDefEqProofs (maxSteps := 3000000) [hj, hb, w2, w3, c1, hl, hm2])
    (by
      rintro s ⟨g, v3, rfl⟩
      simp -implicitDefEqProofs (maxSteps := 3000000))
  obtain ⟨s, v3, rfl, hf⟩ := hqq
  exact ⟨s, v3, rfl, hf⟩
theorem ct_cosets (n : Nat) (hn : B + 4 + 2 ≤ n) (T : List (List Int)) (h : List Int) (H : HGood T h) :
    evalCall Tryz.prog An n 97 [.agg [.d (intss T)], .d (ints h)] [] = some ⟨.tuple [.own 0 0, .own 1 0], [.row (icells (firsts T h)), .row (icells (nums T h))], []⟩ := by
  obtain ⟨m, rfl⟩ : ∃ m, n = m + 1 := ⟨n - 1, by omega⟩
  have hB := B_eq
  simp only [evalCall_at, fb97, bnd_some, bodyOf, Tryz.f97, Option.getD_some]
  generalize hb0 : Code.loop _ = cc0
  obtain rfl : cc0 = .loop (lp Tryz.f97 0) := by rw [← hb0]; rfl
  clear hb0
  have G := H.1
  have hT := G.1.1
  have c0 := ct_order m (by omega) T
  have c1 := ct_Repeat1 m (by omega) (-1) T.length (by omega)
  have w0 := wrap_id (n := (T.length : Int)) (by omega)
  simp -implicitDefEqProofs (maxSteps := 3000000) [c0, c1, w0]
  generalize hx : loopC _ _ _ = x
  generalize hl : lp Tryz.f97 0 = L at hx
  simp only [lp, bodyOf, Tryz.f97, Option.getD_some, loopsIn, List.append_nil, List.nil_append, List.cons_append, List.getD, List.getElem?_cons_zero, List.getElem?_cons_succ] at hl
  subst hl
  generalize hb1 : Code.loop _ = cc1 at hx
  obtain rfl : cc1 = .loop (lp Tryz.f97 1) := by rw [← hb1]; rfl
  clear hb1
  obtain ⟨qq, rfl, hqq⟩ := loop_end hx T.length (fun a s => ∃ g v v2, s = ⟨[(1, .d (ints h)), (2, .ptr 32 1 0), (6, .own 176 v), (7, .own 256 v2), (18, .d (.int .i64 T.length)), (19, .d (.int .i64 a))], [(32, some (1, .box [.d (intss T)])), (176, some (v, .row (icells (csN T h a).2))), (256, some (v2, .row (icells (csN T h a).1)))], g⟩)
    (fun qq => ∃ s v v2, qq = (.exit 0, s) ∧ obsL s.obs 176 = some (v, .row (icells (firsts T h))) ∧ obsL s.obs 256 = some (v2, .row (icells (nums T h))) ∧ lookL s.env 6 = some (.own 176 v) ∧ lookL s.env 7 = some (.own 256 v2))
    (by show T.length < m; omega) (by simp -implicitDefEqProofs (maxSteps := 3000000) [csN])
    (by
      rintro a s ha ⟨g, v, v2, rfl⟩
      have w2 := wrap_id (n := (a : Int) + 1) (by omega)
      have hl := csN_len T h a
      have hf := csN_fst T h a
      have hb1 := lt_bound (n := (csN T h a).2.length) (by omega)
      have hb2 := le_bound (n := (csN T h a).2.length) (by omega)
      have e1 : csN T h (a + 1) = if 0 ≤ rn (csN T h a).1 a then csN T h a else (csH T h a (csN T h a).2.length (csN T h a).1 h.length, (csN T h a).2 ++ [(a : Int)]) := rfl
      generalize hQ : csN T h a = Q at *
      obtain ⟨num, fs⟩ := Q
      by_cases p : 0 ≤ rn num a
      · rw [if_pos p] at e1
        rw [e1]
        simp -implicitDefEqProofs (maxSteps := 3000000) [ha, hl, p, w2]
      · rw [if_neg p] at e1
        rw [e1]
        have p2 : rn num a < 0 := by omega
        simp only at hl hf hb1 hb2
        simp -implicitDefEqProofs (maxSteps := 3000000) [ha, hl, p, p2, w2]
        generalize hy : loopC _ _ _ = y
        obtain ⟨s, v3, rfl, hq⟩ := lp_cosets_1 m (by omega) T h H a ha num fs hl (by omega) hy (v := v) (v2 := v2) (by simp -implicitDefEqProofs (maxSteps := 3000000))
        simp -implicitDefEqProofs (maxSteps := 3000000) [hq, w2, hb1, hb2])
    (by
      rintro s ⟨g, v, v2, rfl⟩
      simp -implicitDefEqProofs (maxSteps := 3000000) [firsts, nums])
  obtain ⟨s, v, v2, rfl, hf⟩ := hqq
  simp -implicitDefEqProofs (maxSteps := 3000000) [hf]
end Go.Proofs.YtgklblkigjbggaaGreatE
