/- Contracts of functions of the program and of the reference: what the evaluator gives for a call of each. -/
import Derived.Test.YtfichikabolknaaGreatAEf
import Derived.Test.YtfichikabolknaaGreatK0
import Derived.Test.YtfichikabolknaaGreatK3
import Derived.Test.YtfichikabolknaaGreatK4
import Derived.Test.YtfichikabolknaaGreatK5
namespace Go.Proofs.YtfichikabolknaaGreatE
open Go Go.Proofs
set_option maxHeartbeats 2000000
set_option linter.unusedSimpArgs false
set_option linter.unusedVariables false
set_option pp.deepTerms false
set_option pp.deepTerms.threshold 10
/-! ## the reference's ReduceCochain -/
def GM (T : List (List Int)) (M : Int) (U : List Int) : Prop := IsGr T ∧ IsMo T M U
noncomputable def dcode (M k : Int) : Int := @ite Int (2 ≤ k ∧ k ≤ M.tdiv 2 ∧ M.tmod k = 0) (Classical.propDecidable _) 0 2
theorem dcode_0 {M k : Int} (h : 2 ≤ k ∧ k ≤ M.tdiv 2 ∧ M.tmod k = 0) : dcode M k = 0 := by simp only [dcode, if_pos h]
theorem dcode_2 {M k : Int} (h : ¬ (2 ≤ k ∧ k ≤ M.tdiv 2 ∧ M.tmod k = 0)) : dcode M k = 2 := by simp only [dcode, if_neg h]
theorem ct_l08Code_1 (n : Nat) (hn : B + 3 ≤ n) (T : List (List Int)) (hT : T.length ≤ 2000000) (M : Int) (U : List Int) (hU : U.length ≤ 2000000) (k : Int) (h : ¬ GM T M U) :
    evalCall Tryz.prog An n 114 [.agg [.d (intss T)], .agg [.d (.int .i64 M), .d (ints U)], .d (.int .i64 k)] [] = some ⟨.d (.int .i64 1), [], []⟩ := by
  obtain ⟨m, rfl⟩ : ∃ m, n = m + 1 := ⟨n - 1, by omega⟩
  have hB := B_eq
  simp only [evalCall_at, fb114, bnd_some, bodyOf, Tryz.f114, Option.getD_some]
  have c1 := ct_l01Is m (by omega) T (by omega)
  by_cases G : IsGr T
  · have c2 := ct_l02Is m (by omega) T G.1 M U hU
    rw [bl_true G] at c1
    rw [bl_false (fun z => h ⟨G, z⟩)] at c2
    simp -implicitDefEqProofs (maxSteps := 3000000) [c1, c2]
  · rw [bl_false G] at c1
    simp -implicitDefEqProofs (maxSteps := 3000000) [c1]
theorem ct_l08Code (n : Nat) (hn : B + 3 ≤ n) (T : List (List Int)) (hT : T.length ≤ 2000000) (M : Int) (U : List Int) (hU : U.length ≤ 2000000) (k : Int) (h : GM T M U) :
    evalCall Tryz.prog An n 114 [.agg [.d (intss T)], .agg [.d (.int .i64 M), .d (ints U)], .d (.int .i64 k)] [] = some ⟨.d (.int .i64 (dcode M k)), [], []⟩ := by
  obtain ⟨m, rfl⟩ : ∃ m, n = m + 1 := ⟨n - 1, by omega⟩
  have hB := B_eq
  simp only [evalCall_at, fb114, bnd_some, bodyOf, Tryz.f114, Option.getD_some]
  have c1 := ct_l01Is m (by omega) T (by omega)
  have c2 := ct_l02Is m (by omega) T h.1.1 M U hU
  rw [bl_true h.1] at c1
  rw [bl_true h.2] at c2
  have hM := h.2.1.1
  have e2 : M.tdiv 2 = M / 2 := Int.tdiv_eq_ediv_of_nonneg (by omega)
  have w := wrap_id (n := M.tdiv 2) (by omega)
  by_cases p : 2 ≤ k ∧ k ≤ M.tdiv 2
  · have c3 := ct_l01In_t m (by omega) k 2 (M.tdiv 2) p
    have kz : k ≠ 0 := by omega
    by_cases p2 : M.tmod k = 0
    · simp -implicitDefEqProofs (maxSteps := 3000000) [c1, c2, c3, w, kz, p2, dcode_0 ⟨p.1, p.2, p2⟩]
    · have p3 := bne_t p2
      simp -implicitDefEqProofs (maxSteps := 3000000) [c1, c2, c3, w, kz, p2, p3, dcode_2 (fun z => p2 z.2.2)]
  · have c3 := ct_l01In_f m (by omega) k 2 (M.tdiv 2) p
    simp -implicitDefEqProofs (maxSteps := 3000000) [c1, c2, c3, w, dcode_2 (fun z => p ⟨z.1, z.2.1⟩)]
noncomputable def ccode (T : List (List Int)) (M : Int) (U : List Int) (D : Int) (V : List Int) : Int := @ite Int (IsCo T M D V) (Classical.propDecidable _) 0 1
theorem ct_l03Code1 (n : Nat) (hn : B + 4 ≤ n) (T : List (List Int)) (M : Int) (U : List Int) (hU : U.length ≤ 2000000) (h : GM T M U) (D : Int) (V : List Int) (hV : V.length ≤ 10000000) :
    evalCall Tryz.prog An n 141 [.agg [.d (intss T)], .agg [.d (.int .i64 M), .d (ints U)], .d (.sl 2 [.int .i64 D, ints V])] [] = some ⟨.d (.int .i64 (ccode T M U D V)), [], []⟩ := by
  obtain ⟨m, rfl⟩ : ∃ m, n = m + 1 := ⟨n - 1, by omega⟩
  have hB := B_eq
  simp only [evalCall_at, fb141, bnd_some, bodyOf, Tryz.f141, Option.getD_some]
  generalize hb0 : Code.loop _ = cc0
  obtain rfl : cc0 = .loop (lp Tryz.f141 0) := by rw [← hb0]; rfl
  clear hb0
  have hT := h.1.1.1
  have c1 := ct_l01Is m (by omega) T (by omega)
  have c2 := ct_l02Is m (by omega) T h.1.1 M U hU
  have c3 := ct_l03Is m (by omega) T hT M h.2.1.1 U D V hV
  rw [bl_true h.1] at c1
  rw [bl_true h.2] at c2
  simp -implicitDefEqProofs (maxSteps := 3000000) [c1, c2]
  generalize hx : loopC _ _ _ = x
  generalize hl : lp Tryz.f141 0 = L at hx
  simp only [lp, bodyOf, Tryz.f141, Option.getD_some, loopsIn, List.append_nil, List.nil_append, List.cons_append, List.getD, List.getElem?_cons_zero, List.getElem?_cons_succ] at hl
  subst hl
  rcases loop_chk hx 1 0 (fun i => IsCo T M D V)
    (fun i g => ⟨[(2, .d (.sl 2 [.int .i64 D, ints V])), (3, .ptr 48 1 0), (4, .ptr 64 2 0), (7, .d (.int .i64 i))], [(48, some (1, .box [.d (intss T)])), (64, some (2, .box [.d (.int .i64 M), .d (ints U)]))], g⟩)
    (fun s => True) (fun s => lookL s.env 6 = some (.d (.int .i64 1)))
    (by show 1 < m; omega) (by simp -implicitDefEqProofs (maxSteps := 3000000))
    (by
      rintro i g hi hp
      obtain rfl : i = 0 := by omega
      have w2 := wrap_id (n := 1) (by omega)
      by_cases p : IsCo T M D V
      · rw [bl_true p] at c3
        simp -implicitDefEqProofs (maxSteps := 3000000) [c3, p, w2]
      · rw [bl_false p] at c3
        simp -implicitDefEqProofs (maxSteps := 3000000) [c3, p, w2])
    (by
      rintro g
      simp -implicitDefEqProofs (maxSteps := 3000000)) with ⟨h1, s, rfl, _⟩ | ⟨⟨i, hi, h1⟩, s, rfl, h2⟩
  · have e : ccode T M U D V = 0 := if_pos (h1 0 (by omega))
    simp -implicitDefEqProofs (maxSteps := 3000000) [e]
  · have e : ccode T M U D V = 1 := if_neg h1
    simp -implicitDefEqProofs (maxSteps := 3000000) [h2, e]
/-- Good arguments of ReduceCochain. -/
def RGood (T : List (List Int)) (M : Int) (U : List Int) (k D : Int) (V : List Int) : Prop := (GM T M U ∧ (2 ≤ k ∧ k ≤ M.tdiv 2 ∧ M.tmod k = 0)) ∧ IsCo T M D V
noncomputable def rcode (T : List (List Int)) (M : Int) (U : List Int) (k D : Int) (V : List Int) : Int :=
  @ite Int (GM T M U) (Classical.propDecidable _) (if dcode M k = 0 then ccode T M U D V else dcode M k) 1
theorem ct_specReduce_bad (n : Nat) (hn : B + 5 ≤ n) (T : List (List Int)) (hT : T.length ≤ 2000000) (M : Int) (U : List Int) (hU : U.length ≤ 2000000) (k D : Int) (V : List Int) (hV : V.length ≤ 10000000) (h : ¬ RGood T M U k D V) :
    evalCall Tryz.prog An n 38 [.agg [.d (intss T)], .agg [.d (.int .i64 M), .d (ints U)], .d (.int .i64 k), .agg [.d (.int .i64 D), .d (ints V)]] [] = some ⟨.tuple [.agg [.d (.int .i64 0), .d .nil], .d (.int .i64 (rcode T M U k D V))], [], []⟩ := by
  obtain ⟨m, rfl⟩ : ∃ m, n = m + 1 := ⟨n - 1, by omega⟩
  have hB := B_eq
  simp only [evalCall_at, fb38, bnd_some, bodyOf, Tryz.f38, Option.getD_some]
  by_cases G : GM T M U
  · have c1 := ct_l08Code m (by omega) T hT M U hU k G
    by_cases d : dcode M k = 0
    · have c2 := ct_l03Code1 m (by omega) T M U hU G D V hV
      have e : rcode T M U k D V = 1 ∧ ccode T M U D V = 1 := by
        have hc : ¬ IsCo T M D V := fun z => h ⟨⟨G, by
          by_cases y : 2 ≤ k ∧ k ≤ M.tdiv 2 ∧ M.tmod k = 0
          · exact y
          · rw [dcode_2 y] at d; omega⟩, z⟩
        have e : ccode T M U D V = 1 := if_neg hc
        exact ⟨by rw [rcode, if_pos G, if_pos d, e], e⟩
      simp -implicitDefEqProofs (maxSteps := 3000000) [c1, d, c2, e.1, e.2]
    · have e : rcode T M U k D V = dcode M k := by rw [rcode, if_pos G, if_neg d]
      have d2 := bne_t d
      simp -implicitDefEqProofs (maxSteps := 3000000) [c1, d, d2, e]
  · have c1 := ct_l08Code_1 m (by omega) T hT M U hU k G
    have e : rcode T M U k D V = 1 := by rw [rcode, if_neg G]
    simp -implicitDefEqProofs (maxSteps := 3000000) [c1, e]
theorem ct_specReduce (n : Nat) (hn : B + 5 ≤ n) (T : List (List Int)) (hT : T.length ≤ 2000000) (M : Int) (U : List Int) (hU : U.length ≤ 2000000) (k D : Int) (V : List Int) (hV : V.length ≤ 10000000) (h : RGood T M U k D V) :
    evalCall Tryz.prog An n 38 [.agg [.d (intss T)], .agg [.d (.int .i64 M), .d (ints U)], .d (.int .i64 k), .agg [.d (.int .i64 D), .d (ints V)]] [] = some ⟨.tuple [.agg [.d (.int .i64 D), .own 0 0], .d (.int .i64 0)], [.row (icells (restU V (M.tdiv k)))], []⟩ := by
  obtain ⟨m, rfl⟩ : ∃ m, n = m + 1 := ⟨n - 1, by omega⟩
  have hB := B_eq
  simp only [evalCall_at, fb38, bnd_some, bodyOf, Tryz.f38, Option.getD_some]
  obtain ⟨⟨G, hk⟩, hC⟩ := h
  have hM := G.2.1.1
  have c1 := ct_l08Code m (by omega) T hT M U hU k G
  rw [dcode_0 hk] at c1
  have c2 := ct_l03Code1 m (by omega) T M U hU G D V hV
  rw [show ccode T M U D V = 0 from if_pos hC] at c2
  have e2 : M.tdiv 2 = M / 2 := Int.tdiv_eq_ediv_of_nonneg (by omega)
  have e3 : M.tdiv k = M / k := Int.tdiv_eq_ediv_of_nonneg (by omega)
  have hq : 0 < M.tdiv k := by
    rw [e3]
    exact Int.ediv_pos_of_pos_of_dvd (by omega) (by omega) (Int.dvd_of_tmod_eq_zero hk.2.2)
  have hq2 : M.tdiv k ≤ M := by rw [e3]; exact Int.ediv_le_self k (by omega)
  have w := wrap_id (n := M.tdiv k) (by omega)
  have kz : k ≠ 0 := by omega
  have c3 := ct_l08Rests m (by omega) D V hV (fun i hi => (hC.2.2 i hi).1) (M.tdiv k) hq
  simp -implicitDefEqProofs (maxSteps := 3000000) [c1, c2, c3, w, kz]
end Go.Proofs.YtfichikabolknaaGreatE
