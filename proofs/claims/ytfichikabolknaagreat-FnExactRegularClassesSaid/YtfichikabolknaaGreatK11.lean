/- Contracts of functions of the program and of the reference: what the evaluator gives for a call of each. -/
import Derived.Test.YtfichikabolknaaGreatAEf
import Derived.Test.YtfichikabolknaaGreatK0
import Derived.Test.YtfichikabolknaaGreatK3
import Derived.Test.YtfichikabolknaaGreatK4
import Derived.Test.YtfichikabolknaaGreatK5
import Derived.Test.YtfichikabolknaaGreatK6
import Derived.Test.YtfichikabolknaaGreatK8
import Derived.Test.YtfichikabolknaaGreatK9
import Derived.Test.YtfichikabolknaaGreatK10
namespace Go.Proofs.YtfichikabolknaaGreatE
open Go Go.Proofs
set_option maxHeartbeats 2000000
set_option linter.unusedSimpArgs false
set_option linter.unusedVariables false
set_option pp.deepTerms false
set_option pp.deepTerms.threshold 10
/-! ## the program's ReduceCochain -/
theorem ct_areModules1 (n : Nat) (hn : B + 4 ≤ n) (T : List (List Int)) (hT : T.length ≤ 2000000) (hr : ∀ i, (rown T i).length ≤ 1000000000000) (M : Int) (U : List Int) (hU : U.length ≤ 2000000) :
    evalCall Tryz.prog An n 264 [.agg [.d (intss T)], .d (.sl 2 [.int .i64 M, ints U])] [] = some ⟨.d (.bool (bl (GM T M U))), [], []⟩ := by
  obtain ⟨m, rfl⟩ : ∃ m, n = m + 1 := ⟨n - 1, by omega⟩
  have hB := B_eq
  simp only [evalCall_at, fb264, bnd_some, bodyOf, Tryz.f264, Option.getD_some]
  generalize hb0 : Code.loop _ = cc0
  obtain rfl : cc0 = .loop (lp Tryz.f264 0) := by rw [← hb0]; rfl
  clear hb0
  have c1 := ct_IsGroup m (by omega) T hT hr
  simp -implicitDefEqProofs (maxSteps := 3000000)
  generalize hx : loopC _ _ _ = x
  generalize hl : lp Tryz.f264 0 = L at hx
  simp only [lp, bodyOf, Tryz.f264, Option.getD_some, loopsIn, List.append_nil, List.nil_append, List.cons_append, List.getD, List.getElem?_cons_zero, List.getElem?_cons_succ] at hl
  subst hl
  rcases loop_chk hx 1 0 (fun i => GM T M U)
    (fun i g => ⟨[(2, .ptr 32 1 0), (7, .d (.sl 2 [.int .i64 M, ints U])), (8, .d (.int .i64 1)), (9, .d (.int .i64 i))], [(32, some (1, .box [.d (intss T)]))], g⟩)
    (fun s => True) (fun s => lookL s.env 4 = some (.d (.bool false)))
    (by show 1 < m; omega) (by simp -implicitDefEqProofs (maxSteps := 3000000))
    (by
      rintro i g hi hp
      obtain rfl : i = 0 := by omega
      have w2 := wrap_id (n := 1) (by omega)
      by_cases G : IsGr T
      · have c2 := ct_isModule m (by omega) T G M U hU
        rw [bl_true G] at c1
        by_cases p : IsMo T M U
        · rw [bl_true p] at c2
          simp -implicitDefEqProofs (maxSteps := 3000000) [c1, c2, w2, show GM T M U from ⟨G, p⟩]
        · rw [bl_false p] at c2
          simp -implicitDefEqProofs (maxSteps := 3000000) [c1, c2, w2, show ¬ GM T M U from fun z => p z.2]
      · rw [bl_false G] at c1
        simp -implicitDefEqProofs (maxSteps := 3000000) [c1, w2, show ¬ GM T M U from fun z => G z.1])
    (by
      rintro g
      simp -implicitDefEqProofs (maxSteps := 3000000)) with ⟨h1, s, rfl, _⟩ | ⟨⟨i, hi, h1⟩, s, rfl, h2⟩
  · simp -implicitDefEqProofs (maxSteps := 3000000) [bl_true (h1 0 (by omega))]
  · simp -implicitDefEqProofs (maxSteps := 3000000) [h2, bl_false h1]
noncomputable def mcode (T : List (List Int)) (M : Int) (U : List Int) : Int := @ite Int (GM T M U) (Classical.propDecidable _) 0 1
theorem ct_moduleCode1 (n : Nat) (hn : B + 5 ≤ n) (T : List (List Int)) (hT : T.length ≤ 2000000) (hr : ∀ i, (rown T i).length ≤ 1000000000000) (M : Int) (U : List Int) (hU : U.length ≤ 2000000) :
    evalCall Tryz.prog An n 252 [.agg [.d (intss T)], .d (.sl 2 [.int .i64 M, ints U])] [] = some ⟨.d (.int .i64 (mcode T M U)), [], []⟩ := by
  obtain ⟨m, rfl⟩ : ∃ m, n = m + 1 := ⟨n - 1, by omega⟩
  have hB := B_eq
  simp only [evalCall_at, fb252, bnd_some, bodyOf, Tryz.f252, Option.getD_some]
  have c1 := ct_areModules1 m (by omega) T hT hr M U hU
  by_cases p : GM T M U
  · rw [bl_true p] at c1
    have e : mcode T M U = 0 := if_pos p
    simp -implicitDefEqProofs (maxSteps := 3000000) [c1, e]
  · rw [bl_false p] at c1
    have e : mcode T M U = 1 := if_neg p
    simp -implicitDefEqProofs (maxSteps := 3000000) [c1, e]
theorem half {M k : Int} (hM : 2 ≤ M) (hk : 2 ≤ k) (h : M.tmod k = 0) : k < M ↔ k ≤ M.tdiv 2 := by
  rw [Int.tdiv_eq_ediv_of_nonneg (by omega)]
  rw [tmod_nn k (by omega)] at h
  have e : k * (M / k) = M := Int.mul_ediv_cancel' (Int.dvd_of_emod_eq_zero h)
  constructor
  · intro hlt
    have c : 2 ≤ M / k := by
      rcases Int.lt_or_le (M / k) 2 with z | z
      · have := Int.mul_le_mul_of_nonneg_left (show M / k ≤ 1 by omega) (show 0 ≤ k by omega)
        omega
      · exact z
    have := Int.mul_le_mul_of_nonneg_left c (show 0 ≤ k by omega)
    omega
  · intro hle
    omega
noncomputable def icode (T : List (List Int)) (M : Int) (U : List Int) (k : Int) : Int := @ite Int (GM T M U) (Classical.propDecidable _) (dcode M k) 1
theorem ct_divisorCode (n : Nat) (hn : B + 6 ≤ n) (T : List (List Int)) (hT : T.length ≤ 2000000) (hr : ∀ i, (rown T i).length ≤ 1000000000000) (M : Int) (U : List Int) (hU : U.length ≤ 2000000) (k : Int) :
    evalCall Tryz.prog An n 125 [.agg [.d (intss T)], .agg [.d (.int .i64 M), .d (ints U)], .d (.int .i64 k)] [] = some ⟨.d (.int .i64 (icode T M U k)), [], []⟩ := by
  obtain ⟨m, rfl⟩ : ∃ m, n = m + 1 := ⟨n - 1, by omega⟩
  have hB := B_eq
  simp only [evalCall_at, fb125, bnd_some, bodyOf, Tryz.f125, Option.getD_some]
  have c1 := ct_moduleCode1 m (by omega) T hT hr M U hU
  by_cases p : GM T M U
  · have e : icode T M U k = dcode M k := if_pos p
    rw [show mcode T M U = 0 from if_pos p] at c1
    have hM := p.2.1.1
    by_cases h1 : k < 2
    · simp -implicitDefEqProofs (maxSteps := 3000000) [c1, e, h1, dcode_2 (M := M) (k := k) (fun z => by omega)]
    · by_cases h2 : M ≤ k
      · have : ¬ (2 ≤ k ∧ k ≤ M.tdiv 2 ∧ M.tmod k = 0) := fun z => by
          have := (half hM.1 z.1 z.2.2).2 z.2.1
          omega
        simp -implicitDefEqProofs (maxSteps := 3000000) [c1, e, h1, h2, dcode_2 this]
      · have kz : k ≠ 0 := by omega
        by_cases h3 : M.tmod k = 0
        · have : 2 ≤ k ∧ k ≤ M.tdiv 2 ∧ M.tmod k = 0 := ⟨by omega, (half hM.1 (by omega) h3).1 (by omega), h3⟩
          simp -implicitDefEqProofs (maxSteps := 3000000) [c1, e, h1, h2, kz, h3, dcode_0 this]
        · have h4 := bne_t h3
          simp -implicitDefEqProofs (maxSteps := 3000000) [c1, e, h1, h2, kz, h3, h4, dcode_2 (fun z => h3 z.2.2)]
  · have e : icode T M U k = 1 := if_neg p
    rw [show mcode T M U = 1 from if_neg p] at c1
    simp -implicitDefEqProofs (maxSteps := 3000000) [c1, e]
theorem ct_implReduce_bad (n : Nat) (hn : B + 7 ≤ n) (T : List (List Int)) (hT : T.length ≤ 2000000) (hr : ∀ i, (rown T i).length ≤ 1000000000000) (M : Int) (U : List Int) (hU : U.length ≤ 2000000) (k D : Int) (V : List Int) (hV : V.length ≤ 10000000) (h : ¬ RGood T M U k D V) :
    evalCall Tryz.prog An n 37 [.agg [.d (intss T)], .agg [.d (.int .i64 M), .d (ints U)], .d (.int .i64 k), .agg [.d (.int .i64 D), .d (ints V)]] [] = some ⟨.tuple [.agg [.d (.int .i64 0), .d .nil], .d (.int .i64 (rcode T M U k D V))], [], []⟩ := by
  obtain ⟨m, rfl⟩ : ∃ m, n = m + 1 := ⟨n - 1, by omega⟩
  have hB := B_eq
  simp only [evalCall_at, fb37, bnd_some, bodyOf, Tryz.f37, Option.getD_some]
  have c1 := ct_divisorCode m (by omega) T hT hr M U hU k
  by_cases G : GM T M U
  · rw [show icode T M U k = dcode M k from if_pos G] at c1
    by_cases d : dcode M k = 0
    · have c2 := ct_isCochain m (by omega) T G.1.1.1 M U D V hV
      have hc : ¬ IsCo T M D V := fun z => h ⟨⟨G, by
          by_cases y : 2 ≤ k ∧ k ≤ M.tdiv 2 ∧ M.tmod k = 0
          · exact y
          · rw [dcode_2 y] at d; omega⟩, z⟩
      rw [bl_false hc] at c2
      have e : ccode T M U D V = 1 := if_neg hc
      have e2 : rcode T M U k D V = 1 := by rw [rcode, if_pos G, if_pos d, e]
      simp -implicitDefEqProofs (maxSteps := 3000000) [c1, d, c2, e2]
    · have e : rcode T M U k D V = dcode M k := by rw [rcode, if_pos G, if_neg d]
      have d2 := bne_t d
      simp -implicitDefEqProofs (maxSteps := 3000000) [c1, d, d2, e]
  · have e : rcode T M U k D V = 1 := by rw [rcode, if_neg G]
    rw [show icode T M U k = 1 from if_neg G] at c1
    simp -implicitDefEqProofs (maxSteps := 3000000) [c1, e]
theorem ct_implReduce (n : Nat) (hn : B + 7 + 1 ≤ n) (T : List (List Int)) (hT : T.length ≤ 2000000) (hr : ∀ i, (rown T i).length ≤ 1000000000000) (M : Int) (U : List Int) (hU : U.length ≤ 2000000) (k D : Int) (V : List Int) (hV : V.length ≤ 10000000) (h : RGood T M U k D V) :
    evalCall Tryz.prog An n 37 [.agg [.d (intss T)], .agg [.d (.int .i64 M), .d (ints U)], .d (.int .i64 k), .agg [.d (.int .i64 D), .d (ints V)]] [] = some ⟨.tuple [.agg [.d (.int .i64 D), .own 0 0], .d (.int .i64 0)], [.row (icells (restU V (M.tdiv k)))], []⟩ := by
  obtain ⟨m, rfl⟩ : ∃ m, n = m + 1 := ⟨n - 1, by omega⟩
  have hB := B_eq
  simp only [evalCall_at, fb37, bnd_some, bodyOf, Tryz.f37, Option.getD_some]
  obtain ⟨⟨G, hk⟩, hC⟩ := h
  have hM := G.2.1.1
  have c1 := ct_divisorCode m (by omega) T hT hr M U hU k
  rw [show icode T M U k = dcode M k from if_pos G, dcode_0 hk] at c1
  have c2 := ct_isCochain m (by omega) T G.1.1.1 M U D V hV
  rw [bl_true hC] at c2
  have e3 : M.tdiv k = M / k := Int.tdiv_eq_ediv_of_nonneg (by omega)
  have hq : 0 < M.tdiv k := by
    rw [e3]
    exact Int.ediv_pos_of_pos_of_dvd (by omega) (by omega) (Int.dvd_of_tmod_eq_zero hk.2.2)
  have hq2 : M.tdiv k ≤ M := by rw [e3]; exact Int.ediv_le_self k (by omega)
  have w := wrap_id (n := M.tdiv k) (by omega)
  have kz : k ≠ 0 := by omega
  have c3 := ct_rests m (by omega) D V hV (fun i hi => (hC.2.2 i hi).1) (M.tdiv k) hq
  simp -implicitDefEqProofs (maxSteps := 3000000) [c1, c2, c3, w, kz]
end Go.Proofs.YtfichikabolknaaGreatE
