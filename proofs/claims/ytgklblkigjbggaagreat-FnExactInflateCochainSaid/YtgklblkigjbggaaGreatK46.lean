/- Contracts of functions of the program and of the reference: what the evaluator gives for a call of each. -/
import Derived.Test.YtgklblkigjbggaaGreatAEf
import Derived.Test.YtgklblkigjbggaaGreatK0
import Derived.Test.YtgklblkigjbggaaGreatK2
import Derived.Test.YtgklblkigjbggaaGreatK3
import Derived.Test.YtgklblkigjbggaaGreatK4
import Derived.Test.YtgklblkigjbggaaGreatK6
import Derived.Test.YtgklblkigjbggaaGreatK7
import Derived.Test.YtgklblkigjbggaaGreatK11
import Derived.Test.YtgklblkigjbggaaGreatK26
import Derived.Test.YtgklblkigjbggaaGreatK31
import Derived.Test.YtgklblkigjbggaaGreatK33
import Derived.Test.YtgklblkigjbggaaGreatK45
namespace Go.Proofs.YtgklblkigjbggaaGreatE
open Go Go.Proofs
set_option maxHeartbeats 4000000
set_option maxRecDepth 4000
set_option linter.unusedSimpArgs false
set_option linter.unusedVariables false
set_option pp.deepTerms false
set_option pp.deepTerms.threshold 10
/-! ## ModuleOfSubgroup -/
theorem ct_eqModule_nil (n : Nat) (hn : B + 2 ≤ n) (M : Int) :
    evalCall Tryz.prog An n 29 [.agg [.d (.int .i64 M), .d .nil], .agg [.d (.int .i64 M), .d .nil]] [] = some ⟨.d (.bool true), [], []⟩ := by
  obtain ⟨m, rfl⟩ : ∃ m, n = m + 1 := ⟨n - 1, by omega⟩
  have hB := B_eq
  simp only [evalCall_at, fb29, bnd_some, bodyOf, Tryz.f29, Option.getD_some]
  have c := ct_eqInt64S_nil m (by omega)
  simp -implicitDefEqProofs (maxSteps := 3000000) [c]
theorem ct_markModule_nil (n : Nat) (hn : B + 2 ≤ n) (M : Int) (k : Int) :
    evalCall Tryz.prog An n 31 [.agg [.d (.int .i64 M), .d .nil], .d (.int .i64 k)] [] = some ⟨.d (.int .i64 k), [], []⟩ := by
  obtain ⟨m, rfl⟩ : ∃ m, n = m + 1 := ⟨n - 1, by omega⟩
  have hB := B_eq
  simp only [evalCall_at, fb31, bnd_some, bodyOf, Tryz.f31, Option.getD_some]
  have c := ct_markInt64S_nil m (by omega) k
  simp -implicitDefEqProofs (maxSteps := 3000000) [c]
theorem ct_heldModule (n : Nat) (hn : B + 2 ≤ n) (M : Int) (j : Nat) (hl : j ≤ 1000000000000) (k : Int) (hk : 0 ≤ k ∧ k < 1000000000000) :
    evalCall Tryz.prog An n 40 [.agg [.d (.int .i64 M), .d (ints (marks k j))], .d (.int .i64 k)] [] = some ⟨.d (.int .i64 (k + j)), [], []⟩ := by
  obtain ⟨m, rfl⟩ : ∃ m, n = m + 1 := ⟨n - 1, by omega⟩
  have hB := B_eq
  simp only [evalCall_at, fb40, bnd_some, bodyOf, Tryz.f40, Option.getD_some]
  have c := ct_heldInt64S m (by omega) j hl k hk
  have h : ¬ (k + j < 0) := by omega
  simp -implicitDefEqProofs (maxSteps := 3000000) [c, h]
theorem ct_heldModule_nil (n : Nat) (hn : B + 2 ≤ n) (M : Int) (k : Int) (hk : 0 ≤ k) :
    evalCall Tryz.prog An n 40 [.agg [.d (.int .i64 M), .d .nil], .d (.int .i64 k)] [] = some ⟨.d (.int .i64 k), [], []⟩ := by
  obtain ⟨m, rfl⟩ : ∃ m, n = m + 1 := ⟨n - 1, by omega⟩
  have hB := B_eq
  simp only [evalCall_at, fb40, bnd_some, bodyOf, Tryz.f40, Option.getD_some]
  have c := ct_heldInt64S_nil m (by omega) k
  have h : ¬ (k < 0) := by omega
  simp -implicitDefEqProofs (maxSteps := 3000000) [c, h]
open Classical in
noncomputable def wcode (T : List (List Int)) (M : Int) (U : List Int) (l : List Int) : Int := if GM T M U then subcode T l else 1
def WGood (T : List (List Int)) (M : Int) (U : List Int) (l : List Int) : Prop := GM T M U ∧ HGood T l
theorem wcode_0 {T : List (List Int)} {M : Int} {U l : List Int} (h : WGood T M U l) : wcode T M U l = 0 := by
  rw [wcode, if_pos h.1]; exact subcode_0 h.2
theorem wcode_ne {T : List (List Int)} {M : Int} {U l : List Int} (h : ¬ WGood T M U l) : wcode T M U l ≠ 0 := by
  unfold wcode
  split
  · rename_i z
    exact subcode_ne fun q => h ⟨z, q⟩
  · omega
theorem ct_l07Given (n : Nat) (hn : B + 6 ≤ n) (T : List (List Int)) (hT : T.length ≤ 2000000) (M : Int) (U : List Int) (hU : U.length ≤ 2000000) (l : List Int) (hl : l.length ≤ 10000000) :
    evalCall Tryz.prog An n 93 [.agg [.d (intss T)], .agg [.d (.int .i64 M), .d (ints U)], .d (ints l)] [] = some ⟨.d (.int .i64 (wcode T M U l)), [], []⟩ := by
  obtain ⟨m, rfl⟩ : ∃ m, n = m + 1 := ⟨n - 1, by omega⟩
  have hB := B_eq
  simp only [evalCall_at, fb93, bnd_some, bodyOf, Tryz.f93, Option.getD_some]
  have c1 := ct_l01Is m (by omega) T (by omega)
  have c3 := ct_l07Code m (by omega) T (by omega) l hl
  by_cases G : IsGr T
  · have c2 := ct_l02Is m (by omega) T G.1 M U hU
    rw [bl_true G] at c1
    by_cases p : IsMo T M U
    · rw [bl_true p] at c2
      have e : wcode T M U l = subcode T l := by rw [wcode, if_pos ⟨G, p⟩]
      simp -implicitDefEqProofs (maxSteps := 3000000) [c1, c2, c3, e]
    · rw [bl_false p] at c2
      have e : wcode T M U l = 1 := by rw [wcode, if_neg (fun z => p z.2)]
      simp -implicitDefEqProofs (maxSteps := 3000000) [c1, c2, e]
  · rw [bl_false G] at c1
    have e : wcode T M U l = 1 := by rw [wcode, if_neg (fun z => G z.1)]
    simp -implicitDefEqProofs (maxSteps := 3000000) [c1, e]
theorem ct_areIn_nil (n : Nat) (hn : B + 1 ≤ n) (N : Int) :
    evalCall Tryz.prog An n 152 [.d (.int .i64 N), .d .nil] [] = some ⟨.d (.bool true), [], []⟩ := by
  obtain ⟨m, rfl⟩ : ∃ m, n = m + 1 := ⟨n - 1, by omega⟩
  have hB := B_eq
  simp only [evalCall_at, fb152, bnd_some, bodyOf, Tryz.f152, Option.getD_some]
  generalize hb0 : Code.loop _ = cc0
  obtain rfl : cc0 = .loop (lp Tryz.f152 0) := by rw [← hb0]; rfl
  clear hb0
  simp -implicitDefEqProofs (maxSteps := 3000000)
  generalize hx : loopC _ _ _ = x
  generalize hl : lp Tryz.f152 0 = L at hx
  simp only [lp, bodyOf, Tryz.f152, Option.getD_some, loopsIn, List.append_nil, List.nil_append, List.cons_append, List.getD, List.getElem?_cons_zero, List.getElem?_cons_succ] at hl
  subst hl
  obtain ⟨qq, rfl, hqq⟩ := loop_end hx (0) (fun i s => ∃ g, s = ⟨[(0, .d (.int .i64 N)), (7, .d .nil), (8, .d (.int .i64 0)), (9, .d (.int .i64 i))], [], g⟩)
    (fun qq => ∃ s, qq = (.exit 0, s) ∧ lookL s.env 0 = some (.d (.int .i64 N)) ∧ lookL s.env 7 = some (.d .nil) ∧ lookL s.env 8 = some (.d (.int .i64 0)) ∧ lookL s.env 9 = some (.d (.int .i64 (0))))
    (by show 0 < m; omega) (by
      simp -implicitDefEqProofs (maxSteps := 3000000))
    (by
      rintro i s hi ⟨g, rfl⟩
      omega)
    (by
      rintro s ⟨g, rfl⟩
      simp -implicitDefEqProofs (maxSteps := 3000000))
  obtain ⟨s, rfl, hf⟩ := hqq
  simp -implicitDefEqProofs (maxSteps := 3000000) [hf]
theorem ct_withinCode (n : Nat) (hn : B + 10 ≤ n) (T : List (List Int)) (hT : T.length ≤ 2000000) (hr : ∀ i, (rown T i).length ≤ 1000000000000) (M : Int) (U : List Int) (hU : U.length ≤ 2000000) (l : List Int) (hl : l.length ≤ 10000000) :
    evalCall Tryz.prog An n 67 [.agg [.d (intss T)], .agg [.d (.int .i64 M), .d (ints U)], .d (ints l), .d .nil] [] = some ⟨.d (.int .i64 (wcode T M U l)), [], []⟩ := by
  obtain ⟨m, rfl⟩ : ∃ m, n = m + 1 := ⟨n - 1, by omega⟩
  have hB := B_eq
  simp only [evalCall_at, fb67, bnd_some, bodyOf, Tryz.f67, Option.getD_some]
  have c1 := ct_moduleCode1 m (by omega) T hT hr M U hU
  have c0 := ct_order m (by omega) T
  have c2 := ct_isSet m (by omega) T l hl
  have c3 := ct_areIn_nil m (by omega) T.length
  have c4 := ct_subgroupCode m (by omega) T hT hr l hl
  by_cases p : GM T M U
  · have e1 : mcode T M U = 0 := if_pos p
    rw [e1] at c1
    have e : wcode T M U l = subcode T l := by rw [wcode, if_pos p]
    rw [e]
    by_cases q : SetOk T l
    · rw [bl_true q] at c2
      simp -implicitDefEqProofs (maxSteps := 3000000) [c1, c0, c2, c3, c4]
    · rw [bl_false q] at c2
      have e2 : subcode T l = 2 := by rw [subcode, if_pos p.1, if_neg q]
      simp -implicitDefEqProofs (maxSteps := 3000000) [c1, c0, c2, c3, c4, e2]
  · have e1 : mcode T M U = 1 := if_neg p
    rw [e1] at c1
    have e : wcode T M U l = 1 := by rw [wcode, if_neg p]
    simp -implicitDefEqProofs (maxSteps := 3000000) [c1, e]
theorem sbU_len (U l : List Int) : (sbU U l).length = l.length := by simp -implicitDefEqProofs (maxSteps := 3000000) [sbU]
end Go.Proofs.YtgklblkigjbggaaGreatE
