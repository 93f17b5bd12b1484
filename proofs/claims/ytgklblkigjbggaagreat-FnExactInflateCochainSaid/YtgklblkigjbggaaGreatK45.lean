/- Contracts of functions of the program and of the reference: what the evaluator gives for a call of each. -/
import Derived.Test.YtgklblkigjbggaaGreatAEf
import Derived.Test.YtgklblkigjbggaaGreatK0
import Derived.Test.YtgklblkigjbggaaGreatK7
import Derived.Test.YtgklblkigjbggaaGreatK31
import Derived.Test.YtgklblkigjbggaaGreatK33
import Derived.Test.YtgklblkigjbggaaGreatK42
import Derived.Test.YtgklblkigjbggaaGreatK44
namespace Go.Proofs.YtgklblkigjbggaaGreatE
open Go Go.Proofs
set_option maxHeartbeats 4000000
set_option maxRecDepth 4000
set_option linter.unusedSimpArgs false
set_option linter.unusedVariables false
set_option pp.deepTerms false
set_option pp.deepTerms.threshold 10
/-! ## the module of a subgroup -/
def sbF (U : List Int) (h : List Int) (i : Nat) : Int := rn U (rn h i).toNat
def sbU (U : List Int) (h : List Int) : List Int := tabI (sbF U h) h.length
theorem ct_l07Module (n : Nat) (hn : B + 1 ≤ n) (M : Int) (U : List Int) (N : Nat) (hU : U.length = N) (h : List Int) (hl : h.length ≤ 1000) (hh : ∀ i < h.length, 0 ≤ rn h i ∧ rn h i < N) :
    evalCall Tryz.prog An n 75 [.agg [.d (.int .i64 M), .d (ints U)], .d (ints h)] [] = some ⟨.agg [.d (.int .i64 M), .own 0 0], [.row (icells (sbU U h))], []⟩ := by
  obtain ⟨m, rfl⟩ : ∃ m, n = m + 1 := ⟨n - 1, by omega⟩
  have hB := B_eq
  simp only [evalCall_at, fb75, bnd_some, bodyOf, Tryz.f75, Option.getD_some]
  generalize hb0 : Code.loop _ = cc0
  obtain rfl : cc0 = .loop (lp Tryz.f75 0) := by rw [← hb0]; rfl
  clear hb0
  simp -implicitDefEqProofs (maxSteps := 3000000)
  generalize hx : loopC _ _ _ = x
  generalize hl : lp Tryz.f75 0 = L at hx
  simp only [lp, bodyOf, Tryz.f75, Option.getD_some, loopsIn, List.append_nil, List.nil_append, List.cons_append, List.getD, List.getElem?_cons_zero, List.getElem?_cons_succ] at hl
  subst hl
  obtain ⟨qq, rfl, hqq⟩ := loop_end hx (h.length) (fun i s => ∃ g v, s = ⟨[(1, .d (ints h)), (2, .ptr 32 1 0), (4, .ptr 64 2 0), (5, .ptr 80 7 0), (6, .d (.int .i64 i))], [(32, some (1, .box [.d (.int .i64 M), .d (ints U)])), (64, some (2, .box [.d (.int .i64 0), .d .nil])), (80, some (7, .box [.d (.int .i64 M), .own 144 v])), (144, some (v, .row (icells (tabI (sbF U h) i))))], g⟩)
    (fun qq => ∃ s v, qq = (.exit 0, s) ∧ lookL s.env 1 = some (.d (ints h)) ∧ lookL s.env 2 = some (.ptr 32 1 0) ∧ lookL s.env 4 = some (.ptr 64 2 0) ∧ lookL s.env 5 = some (.ptr 80 7 0) ∧ lookL s.env 6 = some (.d (.int .i64 (h.length))) ∧ obsL s.obs 32 = some (1, .box [.d (.int .i64 M), .d (ints U)]) ∧ obsL s.obs 64 = some (2, .box [.d (.int .i64 0), .d .nil]) ∧ obsL s.obs 80 = some (7, .box [.d (.int .i64 M), .own 144 v]) ∧ obsL s.obs 144 = some (v, .row (icells (tabI (sbF U h) (h.length)))))
    (by show h.length < m; omega) (by
      simp -implicitDefEqProofs (maxSteps := 3000000))
    (by
      rintro i s hi ⟨g, v, rfl⟩
      have w2 := wrap_id (n := (i : Int) + 1) (by omega)
      have hs := tabI_succ (sbF U h) i
      have hb := lt_bound (n := i) (by omega)
      have hb2 := le_bound (n := i) (by omega)
      have hr := hh i hi
      obtain ⟨a, ha⟩ := Int.eq_ofNat_of_zero_le hr.1
      have haN : a < U.length := by omega
      have es : sbF U h i = rn U a := by rw [sbF, ha, Int.toNat_natCast]
      rw [es] at hs
      simp -implicitDefEqProofs (maxSteps := 3000000) [hi, ha, haN, w2, hb, hb2, hs])
    (by
      rintro s ⟨g, v, rfl⟩
      simp -implicitDefEqProofs (maxSteps := 3000000))
  obtain ⟨s, v, rfl, hf⟩ := hqq
  simp -implicitDefEqProofs (maxSteps := 3000000) [hf, sbU]
theorem ct_unitsOf (n : Nat) (hn : B + 2 ≤ n) (S : List (List Int)) (hS : 1 ≤ S.length ∧ S.length ≤ 1000) (M : Int) (c : Nat) (b : List YtgklblkigjbggaaGreatE.D) (F : Nat → Int) (L : Nat) (hL : L + 1 ≤ n)
    (hF : ∀ m, L ≤ m → ∀ i < S.length, evalCall Tryz.prog An m c (.d (.int .i64 i) :: b.map ofD) [] = some ⟨.d (.int .i64 (F i)), [], []⟩) (hc : c ∉ An.lend) :
    evalCall Tryz.prog An n 174 [.agg [.d (intss S)], .d (.int .i64 M), .d (.clo c [] b)] [] = some ⟨.agg [.d (.int .i64 M), .own 0 0], [.row (icells (tabI F S.length))], []⟩ := by
  obtain ⟨m, rfl⟩ : ∃ m, n = m + 1 := ⟨n - 1, by omega⟩
  have hB := B_eq
  simp only [evalCall_at, fb174, bnd_some, bodyOf, Tryz.f174, Option.getD_some]
  generalize hb0 : Code.loop _ = cc0
  obtain rfl : cc0 = .loop (lp Tryz.f174 0) := by rw [← hb0]; rfl
  clear hb0
  simp -implicitDefEqProofs (maxSteps := 3000000) at hc
  have c0 := ct_order m (by omega) S
  simp -implicitDefEqProofs (maxSteps := 3000000) [c0]
  generalize hx : loopC _ _ _ = x
  generalize hl : lp Tryz.f174 0 = L at hx
  simp only [lp, bodyOf, Tryz.f174, Option.getD_some, loopsIn, List.append_nil, List.nil_append, List.cons_append, List.getD, List.getElem?_cons_zero, List.getElem?_cons_succ] at hl
  subst hl
  obtain ⟨qq, rfl, hqq⟩ := loop_end hx S.length (fun i s => (i = 0 ∧ ∃ g, s = ⟨[(2, .d (.clo c [] b)), (6, .ptr 96 2 0), (7, .ptr 112 5 0), (12, .d (.int .i64 S.length)), (13, .d (.int .i64 i))], [(96, some (2, .box [.d (.int .i64 0), .d .nil])), (112, some (5, .box [.d (.int .i64 M), .d .nil]))], g⟩) ∨
      (0 < i ∧ ∃ g v, s = ⟨[(2, .d (.clo c [] b)), (6, .ptr 96 2 0), (7, .ptr 112 5 0), (12, .d (.int .i64 S.length)), (13, .d (.int .i64 i))], [(96, some (2, .box [.d (.int .i64 0), .d .nil])), (112, some (5, .box [.d (.int .i64 M), .own 352 v])), (352, some (v, .row (icells (tabI F i))))], g⟩))
    (fun qq => ∃ s v, qq = (.exit 0, s) ∧ obsL s.obs 96 = some (2, .box [.d (.int .i64 0), .d .nil]) ∧ obsL s.obs 112 = some (5, .box [.d (.int .i64 M), .own 352 v]) ∧ obsL s.obs 352 = some (v, .row (icells (tabI F S.length))) ∧ lookL s.env 6 = some (.ptr 96 2 0) ∧ lookL s.env 7 = some (.ptr 112 5 0))
    (by show S.length < m; omega) (.inl ⟨rfl, by simp⟩)
    (by
      rintro i s hi h
      have w2 := wrap_id (n := (i : Int) + 1) (by omega)
      have hs := tabI_succ F i
      have c1 := hF m (by omega) i hi
      have hl := lt_bound (n := i) (by omega)
      have hl2 := le_bound (n := i) (by omega)
      rcases h with ⟨h0, g, rfl⟩ | ⟨h0, g, v, rfl⟩
      · subst h0
        have w1 := wrap_id (n := 1) (by omega)
        have c1' : evalCall Tryz.prog An m c (.d (.int .i64 0) :: b.map ofD) [] = some ⟨.d (.int .i64 (F 0)), [], []⟩ := c1
        simp -implicitDefEqProofs (maxSteps := 3000000) [hi, c1', hc, w2, w1, show 1 ≤ bound by simp -implicitDefEqProofs (maxSteps := 3000000) [bound]]
        rfl
      · simp -implicitDefEqProofs (maxSteps := 3000000) [hi, c1, hc, w2, hl, hl2, hs])
    (by
      rintro s h
      rcases h with ⟨h0, g, rfl⟩ | ⟨h0, g, v, rfl⟩
      · omega
      · simp -implicitDefEqProofs (maxSteps := 3000000))
  obtain ⟨s, v, rfl, hf⟩ := hqq
  simp -implicitDefEqProofs (maxSteps := 3000000) [hf]
theorem ct_restricted1 (n : Nat) (hn : B + 1 ≤ n) (M : Int) (U : List Int) (h : List Int) (i : Nat) (hi : i < h.length) (hr : 0 ≤ rn h i ∧ rn h i < U.length) :
    evalCall Tryz.prog An n 200 [.d (.int .i64 i), .d (.cellp [.int .i64 M, ints U]), .d (.cellp [ints h])] [] = some ⟨.d (.int .i64 (sbF U h i)), [], []⟩ := by
  obtain ⟨m, rfl⟩ : ∃ m, n = m + 1 := ⟨n - 1, by omega⟩
  have hB := B_eq
  simp only [evalCall_at, fb200, bnd_some, bodyOf, Tryz.f200, Option.getD_some]
  obtain ⟨a, ha⟩ := Int.eq_ofNat_of_zero_le hr.1
  have haN : a < U.length := by omega
  simp -implicitDefEqProofs (maxSteps := 3000000) [hi, ha, haN, sbF]
theorem ct_restricted (n : Nat) (hn : B + 4 ≤ n) (S : List (List Int)) (h : List Int) (hS : S.length = h.length) (hp : 1 ≤ h.length ∧ h.length ≤ 1000) (M : Int) (U : List Int) (hh : ∀ i < h.length, 0 ≤ rn h i ∧ rn h i < U.length) :
    evalCall Tryz.prog An n 153 [.agg [.d (intss S)], .d (ints h), .agg [.d (.int .i64 M), .d (ints U)]] [] = some ⟨.agg [.d (.int .i64 M), .own 0 0], [.row (icells (sbU U h))], []⟩ := by
  obtain ⟨m, rfl⟩ : ∃ m, n = m + 1 := ⟨n - 1, by omega⟩
  have hB := B_eq
  simp only [evalCall_at, fb153, bnd_some, bodyOf, Tryz.f153, Option.getD_some]
  have c1 := ct_unitsOf m (by omega) S (by omega) M 200 [.cellp [.int .i64 M, ints U], .cellp [ints h]] (sbF U h) (B + 1) (by omega)
    (fun m hm i hi => by simpa using ct_restricted1 m hm M U h i (by omega) (hh i (by omega))) (by simp -implicitDefEqProofs (maxSteps := 3000000))
  rw [hS] at c1
  have e : tabI (sbF U h) h.length = sbU U h := rfl
  rw [e] at c1
  simp -implicitDefEqProofs (maxSteps := 3000000) [c1]
theorem ct_moduleOf (n : Nat) (hn : B + 3 + 5 ≤ n) (T : List (List Int)) (h : List Int) (H : HGood T h) (M : Int) (U : List Int) (hU : U.length = T.length) :
    evalCall Tryz.prog An n 83 [.agg [.d (intss T)], .agg [.d (.int .i64 M), .d (ints U)], .d (ints h)] [] = some ⟨.agg [.d (.int .i64 M), .own 0 0], [.row (icells (sbU U h))], []⟩ := by
  obtain ⟨m, rfl⟩ : ∃ m, n = m + 1 := ⟨n - 1, by omega⟩
  have hB := B_eq
  simp only [evalCall_at, fb83, bnd_some, bodyOf, Tryz.f83, Option.getD_some]
  have hT := H.1.1.1
  have hlen := setOk_len H.2.1
  have hp := H.pos
  have c1 := ct_groupOf m (by omega) T h H
  have c2 := ct_restricted m (by omega) (sbG T h) h (sbG_len T h) (by omega) M U (fun i hi => by rw [hU]; exact H.2.1.1 i hi)
  simp -implicitDefEqProofs (maxSteps := 3000000) [c1, c2]
end Go.Proofs.YtgklblkigjbggaaGreatE
