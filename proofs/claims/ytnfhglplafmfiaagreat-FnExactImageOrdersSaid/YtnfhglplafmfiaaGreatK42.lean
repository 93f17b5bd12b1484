/- Contracts of functions of the program and of the reference: what the evaluator gives for a call of each. -/
import Derived.Test.YtnfhglplafmfiaaGreatAEf
import Derived.Test.YtnfhglplafmfiaaGreatK1M
import Derived.Test.YtnfhglplafmfiaaGreatK3M
import Derived.Test.YtnfhglplafmfiaaGreatK8M
import Derived.Test.YtnfhglplafmfiaaGreatK24M
import Derived.Test.YtnfhglplafmfiaaGreatK29M
import Derived.Test.YtnfhglplafmfiaaGreatK31
import Derived.Test.YtnfhglplafmfiaaGreatK33M
import Derived.Test.YtnfhglplafmfiaaGreatK36M
namespace Go.Proofs.YtnfhglplafmfiaaGreatE
open Go Go.Proofs
set_option maxHeartbeats 4000000
set_option maxRecDepth 4000
set_option linter.unusedSimpArgs false
set_option linter.unusedVariables false
set_option pp.deepTerms false
set_option pp.deepTerms.threshold 10
/-! ## the group of a subgroup -/
open Classical in
noncomputable def pl (l : List Int) (x : Nat) : Nat := if h : ∃ j < l.length, rn l j = x then Classical.choose h else 0
theorem pl_spec {l : List Int} {x : Nat} (h : (x : Int) ∈ l) : pl l x < l.length ∧ rn l (pl l x) = x := by
  have e : ∃ j < l.length, rn l j = x := mem_rn.1 h
  rw [pl, dif_pos e]
  exact Classical.choose_spec e
theorem nodup_rn {l : List Int} (hd : l.Nodup) {i j : Nat} (hi : i < l.length) (hj : j < l.length) (h : rn l i = rn l j) : i = j := by
  rw [rn_get hi, rn_get hj] at h
  rw [List.nodup_iff_pairwise_ne, List.pairwise_iff_getElem] at hd
  rcases Nat.lt_trichotomy i j with z | z | z
  · exact absurd h (hd i j hi hj z)
  · exact z
  · exact absurd h.symm (hd j i hj hi z)
theorem pl_uniq {l : List Int} (hd : l.Nodup) {x j : Nat} (hj : j < l.length) (h : rn l j = x) : j = pl l x := by
  have := pl_spec (mem_rn.2 ⟨j, hj, h⟩)
  exact nodup_rn hd hj this.1 (by rw [h, this.2])
theorem ct_l07Place (n : Nat) (hn : B + 1 ≤ n) (l : List Int) (hl : l.length ≤ 1000000) (hd : l.Nodup) (x : Nat) (hx0 : (x : Int) ∈ l) :
    evalCall Tryz.prog An n 150 [.d (ints l), .d (.int .i64 x)] [] = some ⟨.d (.int .i64 (pl l x)), [], []⟩ := by
  obtain ⟨m, rfl⟩ : ∃ m, n = m + 1 := ⟨n - 1, by omega⟩
  have hB := B_eq
  simp only [evalCall_at, fb150, bnd_some, bodyOf, Tryz.f150, Option.getD_some]
  generalize hb0 : Code.loop _ = cc0
  obtain rfl : cc0 = .loop (lp Tryz.f150 0) := by rw [← hb0]; rfl
  clear hb0
  have hp := pl_spec hx0
  simp -implicitDefEqProofs (maxSteps := 3000000)
  generalize hx : loopC _ _ _ = xx
  generalize hl : lp Tryz.f150 0 = L at hx
  simp only [lp, bodyOf, Tryz.f150, Option.getD_some, loopsIn, List.append_nil, List.nil_append, List.cons_append, List.getD, List.getElem?_cons_zero, List.getElem?_cons_succ] at hl
  subst hl
  obtain ⟨q, rfl, hq⟩ := loop_end hx l.length (fun i s => i ≤ pl l x ∧ ∃ g, s = ⟨[(0, .d (ints l)), (1, .d (.int .i64 x)), (5, .d (.int .i64 i))], [], g⟩)
    (fun q => ∃ s, q = (.ret, s) ∧ lookL s.env 4 = some (.d (.int .i64 (pl l x))))
    (by show l.length < m; omega) ⟨by omega, by simp⟩
    (by
      rintro i s hi ⟨hp2, g, rfl⟩
      have w2 := wrap_id (n := (i : Int) + 1) (by omega)
      by_cases p : rn l i = x
      · have e : i = pl l x := pl_uniq hd hi p
        simp -implicitDefEqProofs (maxSteps := 3000000) [hi, p, w2]
        exact congrArg (fun (z : Nat) => (z : Int)) e
      · have p2 : (rn l i == (x : Int)) = false := by simpa using p
        simp -implicitDefEqProofs (maxSteps := 3000000) [hi, p, p2, w2]
        rcases Nat.lt_or_ge i (pl l x) with z | z
        · exact z
        · obtain rfl : i = pl l x := by omega
          exact absurd hp.2 p)
    (by
      rintro s ⟨hp2, g, rfl⟩
      omega)
  obtain ⟨s, rfl, hf⟩ := hq
  simp -implicitDefEqProofs (maxSteps := 3000000) [hf]
theorem ct_IndexP (n : Nat) (hn : B + 1 ≤ n) (l : List Int) (hl : l.length ≤ 1000000) (hd : l.Nodup) (x : Nat) (hx0 : (x : Int) ∈ l) :
    evalCall Tryz.prog An n 141 [.d (ints l), .d (.int .i64 x)] [] = some ⟨.d (.int .i64 (pl l x)), [], []⟩ := by
  have hp := pl_spec hx0
  rcases ct_Index n hn l x (by omega) with ⟨h1, c⟩ | ⟨j, ⟨h1, h2⟩, c⟩
  · exact absurd hp.2 (h1 _ hp.1)
  · rw [c, pl_uniq hd h1 h2]
noncomputable def sbE (T : List (List Int)) (h : List Int) (i k : Nat) : Int := pl h (mu T (rn h i).toNat (rn h k).toNat)
noncomputable def sbR (T : List (List Int)) (h : List Int) (i : Nat) : List Int := tabI (sbE T h i) h.length
noncomputable def sbG (T : List (List Int)) (h : List Int) : List (List Int) := tabM (sbR T h) h.length
theorem sb_mem {T : List (List Int)} {h : List Int} (H : HGood T h) {i k : Nat} (hi : i < h.length) (hk : k < h.length) : (mu T (rn h i).toNat (rn h k).toNat : Int) ∈ h := by
  have r1 := H.2.1.1 i hi
  have r2 := H.2.1.1 k hk
  have := H.2.2.2 (rn h i).toNat (rn h k).toNat (by rw [Int.toNat_of_nonneg r1.1]; exact mem_rn.2 ⟨i, hi, rfl⟩) (by rw [Int.toNat_of_nonneg r2.1]; exact mem_rn.2 ⟨k, hk, rfl⟩)
  rwa [(mu_cl H.1.1 (by omega) (by omega)).1] at this
theorem lp_l07Group_1 (m : Nat) (hm : B + 2 ≤ m) (T : List (List Int)) (h : List Int) (H : HGood T h) (i : Nat) (hi : i < h.length) (X : List (List Int))
    {st : St} {o : Option (Ex × St)} (hx : loopC (cxAt 145 m) (lp Tryz.f145 1) st = o) {v : Nat}
    (f : obsL st.obs 32 = some (1, .box [.d (intss T)]) ∧ obsL st.obs 64 = some (2, .box [.d .nil]) ∧ obsL st.obs 80 = some (5, .box [.own 144 v]) ∧ obsL st.obs 144 = some (v, .mat true (mcells X)) ∧ obsL st.obs 672 = none ∧ obsL st.obs 752 = none ∧ (∃ v2, obsL st.obs 272 = some (v2, .row []) ∧ lookL st.env 7 = some (.own 272 v2)) ∧ lookL st.env 1 = some (.d (ints h)) ∧ lookL st.env 2 = some (.ptr 32 1 0) ∧ lookL st.env 4 = some (.ptr 64 2 0) ∧ lookL st.env 5 = some (.ptr 80 5 0) ∧ lookL st.env 6 = some (.d (.int .i64 i)) ∧ lookL st.env 8 = some (.d (.int .i64 0))) :
    ∃ s v2, o = some (.exit 2, s) ∧ obsL s.obs 32 = some (1, .box [.d (intss T)]) ∧ obsL s.obs 64 = some (2, .box [.d .nil]) ∧ obsL s.obs 80 = some (5, .box [.own 144 v]) ∧ obsL s.obs 144 = some (v, .mat true (mcells X)) ∧ obsL s.obs 672 = none ∧ obsL s.obs 752 = none ∧ obsL s.obs 272 = some (v2, .row (icells (sbR T h i))) ∧ lookL s.env 7 = some (.own 272 v2) ∧ lookL s.env 1 = some (.d (ints h)) ∧ lookL s.env 2 = some (.ptr 32 1 0) ∧ lookL s.env 4 = some (.ptr 64 2 0) ∧ lookL s.env 5 = some (.ptr 80 5 0) ∧ lookL s.env 6 = some (.d (.int .i64 i)) := by
  have hB := B_eq
  have G := H.1
  have hT := G.1.1
  have hlen := setOk_len H.2.1
  have hd := setOk_nodup H.2.1
  obtain ⟨f1, f2, f3, f4, f5, f6, ⟨v0, f7, f8⟩, f9⟩ := f
  generalize hl : lp Tryz.f145 1 = L at hx
  simp only [lp, bodyOf, Tryz.f145, Option.getD_some, loopsIn, List.append_nil, List.nil_append, List.cons_append, List.getD, List.getElem?_cons_zero, List.getElem?_cons_succ] at hl
  subst hl
  obtain ⟨qq, rfl, hqq⟩ := loop_end hx h.length (fun k s => ∃ g v2, s = ⟨[(1, .d (ints h)), (2, .ptr 32 1 0), (4, .ptr 64 2 0), (5, .ptr 80 5 0), (6, .d (.int .i64 i)), (7, .own 272 v2), (8, .d (.int .i64 k))], [(32, some (1, .box [.d (intss T)])), (64, some (2, .box [.d .nil])), (80, some (5, .box [.own 144 v])), (144, some (v, .mat true (mcells X))), (272, some (v2, .row (icells (tabI (sbE T h i) k))))], g⟩)
    (fun qq => ∃ s v2, qq = (.exit 2, s) ∧ obsL s.obs 32 = some (1, .box [.d (intss T)]) ∧ obsL s.obs 64 = some (2, .box [.d .nil]) ∧ obsL s.obs 80 = some (5, .box [.own 144 v]) ∧ obsL s.obs 144 = some (v, .mat true (mcells X)) ∧ obsL s.obs 672 = none ∧ obsL s.obs 752 = none ∧ obsL s.obs 272 = some (v2, .row (icells (sbR T h i))) ∧ lookL s.env 7 = some (.own 272 v2) ∧ lookL s.env 1 = some (.d (ints h)) ∧ lookL s.env 2 = some (.ptr 32 1 0) ∧ lookL s.env 4 = some (.ptr 64 2 0) ∧ lookL s.env 5 = some (.ptr 80 5 0) ∧ lookL s.env 6 = some (.d (.int .i64 i)))
    (by show h.length < m; omega) (by simp -implicitDefEqProofs (maxSteps := 3000000) [f1, f2, f3, f4, f5, f6, f7, f8, f9])
    (by
      rintro k s hk ⟨g, v2, rfl⟩
      have w2 := wrap_id (n := (k : Int) + 1) (by omega)
      have r1 := H.2.1.1 i hi
      have r2 := H.2.1.1 k hk
      have hmem := sb_mem H hi hk
      have hs := tabI_succ (sbE T h i) k
      have ee : sbE T h i k = (pl h (mu T (rn h i).toNat (rn h k).toNat) : Int) := rfl
      obtain ⟨a, ha⟩ := Int.eq_ofNat_of_zero_le r1.1
      obtain ⟨b, hb⟩ := Int.eq_ofNat_of_zero_le r2.1
      rw [ha, hb, Int.toNat_natCast, Int.toNat_natCast] at ee hmem
      have haT : a < T.length := by omega
      have hbT : b < T.length := by omega
      have ra := (G.1.2 a haT).1
      have mc := (mu_cl G.1 haT hbT).1
      simp only [cl] at mc
      have c1 := ct_l07Place m (by omega) h (by omega) hd (mu T a b) hmem
      have hl := lt_bound (n := k) (by omega)
      have hl2 := le_bound (n := k) (by omega)
      rw [ee] at hs
      simp -implicitDefEqProofs (maxSteps := 3000000) [hi, hk, ha, hb, haT, hbT, ra, mc, c1, w2, hs, hl, hl2])
    (by
      rintro s ⟨g, v2, rfl⟩
      simp -implicitDefEqProofs (maxSteps := 3000000) [sbR])
  obtain ⟨s, v2, rfl, hf⟩ := hqq
  exact ⟨s, v2, rfl, hf⟩
theorem ct_l07Group (n : Nat) (hn : B + 2 + 2 ≤ n) (T : List (List Int)) (h : List Int) (H : HGood T h) :
    evalCall Tryz.prog An n 145 [.agg [.d (intss T)], .d (ints h)] [] = some ⟨.agg [.own 0 0], [.mat false (mcells (sbG T h))], []⟩ := by
  obtain ⟨m, rfl⟩ : ∃ m, n = m + 1 := ⟨n - 1, by omega⟩
  have hB := B_eq
  simp only [evalCall_at, fb145, bnd_some, bodyOf, Tryz.f145, Option.getD_some]
  generalize hb0 : Code.loop _ = cc0
  obtain rfl : cc0 = .loop (lp Tryz.f145 0) := by rw [← hb0]; rfl
  clear hb0
  have hT := H.1.1.1
  have hlen := setOk_len H.2.1
  simp -implicitDefEqProofs (maxSteps := 3000000)
  generalize hx : loopC _ _ _ = x
  generalize hl : lp Tryz.f145 0 = L at hx
  simp only [lp, bodyOf, Tryz.f145, Option.getD_some, loopsIn, List.append_nil, List.nil_append, List.cons_append, List.getD, List.getElem?_cons_zero, List.getElem?_cons_succ] at hl
  subst hl
  generalize hb1 : Code.loop _ = cc1 at hx
  obtain rfl : cc1 = .loop (lp Tryz.f145 1) := by rw [← hb1]; rfl
  clear hb1
  obtain ⟨qq, rfl, hqq⟩ := loop_end hx (h.length) (fun i s => ∃ g v, s = ⟨[(1, .d (ints h)), (2, .ptr 32 1 0), (4, .ptr 64 2 0), (5, .ptr 80 5 0), (6, .d (.int .i64 i))], [(32, some (1, .box [.d (intss T)])), (64, some (2, .box [.d .nil])), (80, some (5, .box [.own 144 v])), (144, some (v, .mat true (mcells (tabM (sbR T h) i))))], g⟩)
    (fun qq => ∃ s v, qq = (.exit 0, s) ∧ lookL s.env 1 = some (.d (ints h)) ∧ lookL s.env 2 = some (.ptr 32 1 0) ∧ lookL s.env 4 = some (.ptr 64 2 0) ∧ lookL s.env 5 = some (.ptr 80 5 0) ∧ lookL s.env 6 = some (.d (.int .i64 (h.length))) ∧ obsL s.obs 32 = some (1, .box [.d (intss T)]) ∧ obsL s.obs 64 = some (2, .box [.d .nil]) ∧ obsL s.obs 80 = some (5, .box [.own 144 v]) ∧ obsL s.obs 144 = some (v, .mat true (mcells (tabM (sbR T h) (h.length)))))
    (by show h.length < m; omega) (by
      simp -implicitDefEqProofs (maxSteps := 3000000))
    (by
      rintro i s hi ⟨g, v, rfl⟩
      have w2 := wrap_id (n := (i : Int) + 1) (by omega)
      have hs := tabM_succ (sbR T h) i
      have hl := lt_bound (n := i) (by omega)
      simp -implicitDefEqProofs (maxSteps := 3000000) [hi]
      generalize hy : loopC _ _ _ = y
      obtain ⟨s, v2, rfl, hq⟩ := lp_l07Group_1 m (by omega) T h H i hi (tabM (sbR T h) i) hy (v := v) (by simp -implicitDefEqProofs (maxSteps := 3000000))
      simp -implicitDefEqProofs (maxSteps := 3000000) [hq, w2, hl, le_bound (n := i) (by omega), hs])
    (by
      rintro s ⟨g, v, rfl⟩
      simp -implicitDefEqProofs (maxSteps := 3000000))
  obtain ⟨s, v, rfl, hf⟩ := hqq
  simp -implicitDefEqProofs (maxSteps := 3000000) [hf, sbG]
end Go.Proofs.YtnfhglplafmfiaaGreatE
