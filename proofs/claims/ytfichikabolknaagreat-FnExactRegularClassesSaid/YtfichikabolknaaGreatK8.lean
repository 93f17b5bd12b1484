/- Contracts of functions of the program and of the reference: what the evaluator gives for a call of each. -/
import Derived.Test.YtfichikabolknaaGreatAEf
import Derived.Test.YtfichikabolknaaGreatK0
import Derived.Test.YtfichikabolknaaGreatK3
import Derived.Test.YtfichikabolknaaGreatK4
import Derived.Test.YtfichikabolknaaGreatK5
import Derived.Test.YtfichikabolknaaGreatK7
namespace Go.Proofs.YtfichikabolknaaGreatE
open Go Go.Proofs
set_option maxHeartbeats 2000000
set_option linter.unusedSimpArgs false
set_option linter.unusedVariables false
set_option pp.deepTerms false
set_option pp.deepTerms.threshold 10
/-! ## the program's cochains -/
theorem ct_power (n : Nat) (hn : B + 1 ≤ n) (N : Nat) (hN : 1 ≤ N ∧ N ≤ 8) (D : Int) (hD : 0 ≤ D ∧ D ≤ 3) :
    evalCall Tryz.prog An n 285 [.d (.int .i64 ((N : Int) - 1)), .d (.int .i64 D)] [] = some ⟨.d (.int .i64 (cellsOf_ N D)), [], []⟩ := by
  obtain ⟨m, rfl⟩ : ∃ m, n = m + 1 := ⟨n - 1, by omega⟩
  have hB := B_eq
  simp only [evalCall_at, fb285, bnd_some, bodyOf, Tryz.f285, Option.getD_some]
  generalize hb0 : Code.loop _ = cc0
  obtain rfl : cc0 = .loop (lp Tryz.f285 0) := by rw [← hb0]; rfl
  clear hb0
  simp -implicitDefEqProofs (maxSteps := 3000000)
  generalize hx : loopC _ _ _ = x
  generalize hl : lp Tryz.f285 0 = L at hx
  simp only [lp, bodyOf, Tryz.f285, Option.getD_some, loopsIn, List.append_nil, List.nil_append, List.cons_append, List.getD, List.getElem?_cons_zero, List.getElem?_cons_succ] at hl
  subst hl
  obtain ⟨q, rfl, hq⟩ := loop_end hx D.toNat (fun i s => i ≤ D.toNat ∧ ∃ g, s = ⟨[(0, .d (.int .i64 ((N : Int) - 1))), (5, .d (.int .i64 (((N : Int) - 1) ^ i))), (6, .d (.int .i64 D)), (7, .d (.int .i64 i))], [], g⟩)
    (fun q => ∃ s, q = (.exit 0, s) ∧ lookL s.env 5 = some (.d (.int .i64 (cellsOf_ N D)))) (by show D.toNat < m; omega) (by simp -implicitDefEqProofs (maxSteps := 3000000))
    (by
      rintro i s hi ⟨hi2, g, rfl⟩
      have b1 := cells_bd hN (i + 1) (by omega)
      rw [Int.pow_succ] at b1
      have w2 := wrap_id (n := ((N : Int) - 1) ^ i * ((N : Int) - 1)) (by omega)
      have w3 := wrap_id (n := (i : Int) + 1) (by omega)
      have h1 : (i : Int) < D := by omega
      simp -implicitDefEqProofs (maxSteps := 3000000) [h1, w2, w3, Int.pow_succ]
      omega)
    (by
      rintro s ⟨hi2, g, rfl⟩
      have h1 : ¬ (((D.toNat : Nat) : Int) < D) := by omega
      have h2 : max D 0 = D := by omega
      simp -implicitDefEqProofs (maxSteps := 3000000) [h1, h2, cellsOf_])
  obtain ⟨s, rfl, h1⟩ := hq
  simp -implicitDefEqProofs (maxSteps := 3000000) [h1]
theorem ct_cells (n : Nat) (hn : B + 2 ≤ n) (T : List (List Int)) (hT : 1 ≤ T.length ∧ T.length ≤ 8) (D : Int) (hD : 0 ≤ D ∧ D ≤ 3) :
    evalCall Tryz.prog An n 253 [.agg [.d (intss T)], .d (.int .i64 D)] [] = some ⟨.d (.int .i64 (cellsOf_ T.length D)), [], []⟩ := by
  obtain ⟨m, rfl⟩ : ∃ m, n = m + 1 := ⟨n - 1, by omega⟩
  have hB := B_eq
  simp only [evalCall_at, fb253, bnd_some, bodyOf, Tryz.f253, Option.getD_some]
  have c1 := ct_order m (by omega) T
  have c2 := ct_power m (by omega) T.length hT D hD
  have w := wrap_id (n := (T.length : Int) - 1) (by omega)
  simp -implicitDefEqProofs (maxSteps := 3000000) [c1, w, c2]
theorem ct_isCochain (n : Nat) (hn : B + 3 ≤ n) (T : List (List Int)) (hT : 1 ≤ T.length ∧ T.length ≤ 8) (M : Int) (U : List Int) (D : Int) (V : List Int) (hV : V.length ≤ 10000000) :
    evalCall Tryz.prog An n 136 [.agg [.d (intss T)], .agg [.d (.int .i64 M), .d (ints U)], .agg [.d (.int .i64 D), .d (ints V)]] [] = some ⟨.d (.bool (bl (IsCo T M D V))), [], []⟩ := by
  obtain ⟨m, rfl⟩ : ∃ m, n = m + 1 := ⟨n - 1, by omega⟩
  have hB := B_eq
  simp only [evalCall_at, fb136, bnd_some, bodyOf, Tryz.f136, Option.getD_some]
  have c1 := ct_isDegree m (by omega) D
  by_cases hD : 0 ≤ D ∧ D ≤ 3
  · rw [bl_true hD] at c1
    have c2 := ct_cells m (by omega) T hT D hD
    by_cases hL : (V.length : Int) = cellsOf_ T.length D
    · have c3 := ct_areIn m (by omega) M V (by omega)
      by_cases h : AllIn M V
      · rw [bl_true h] at c3
        simp -implicitDefEqProofs (maxSteps := 3000000) [c1, c2, c3, hL, bl_true (show IsCo T M D V from ⟨hD, hL, fun i hi => by have := h i hi; omega⟩)]
      · rw [bl_false h] at c3
        simp -implicitDefEqProofs (maxSteps := 3000000) [c1, c2, c3, hL, bl_false (show ¬ IsCo T M D V from fun z => h fun i hi => by have := z.2.2 i hi; omega)]
    · have e2 : ((V.length : Int) == cellsOf_ T.length D) = false := by simpa using hL
      simp -implicitDefEqProofs (maxSteps := 3000000) [c1, c2, hL, e2, bl_false (show ¬ IsCo T M D V from fun z => hL z.2.1)]
  · rw [bl_false hD] at c1
    simp -implicitDefEqProofs (maxSteps := 3000000) [c1, bl_false (show ¬ IsCo T M D V from fun z => hD z.1)]
theorem ct_rests1 (n : Nat) (hn : B + 1 ≤ n) (q : Int) (hq : 0 < q) (x : Int) (hx : 0 ≤ x) :
    evalCall Tryz.prog An n 259 [.d (.int .i64 x), .d (.cellp [.int .i64 q])] [] = some ⟨.d (.int .i64 (x % q)), [], []⟩ := by
  obtain ⟨m, rfl⟩ : ∃ m, n = m + 1 := ⟨n - 1, by omega⟩
  have hB := B_eq
  simp only [evalCall_at, fb259, bnd_some, bodyOf, Tryz.f259, Option.getD_some]
  have tm := tmod_nn q hx
  have hz : q ≠ 0 := by omega
  simp -implicitDefEqProofs (maxSteps := 3000000) [tm, hz]
theorem ct_mapped_rests (n : Nat) (hn : B + 1 + 1 ≤ n) (V : List Int) (hV : V.length ≤ 10000000) (h0 : ∀ i < V.length, 0 ≤ rn V i) (q : Int) (hq : 0 < q) :
    evalCall Tryz.prog An n 221 [.d (ints V), .d (.clo 259 [] [.cellp [.int .i64 q]])] [] = some ⟨.own 0 0, [.row (icells (restU V q))], []⟩ := by
  obtain ⟨m, rfl⟩ : ∃ m, n = m + 1 := ⟨n - 1, by omega⟩
  have hB := B_eq
  simp only [evalCall_at, fb221, bnd_some, bodyOf, Tryz.f221, Option.getD_some]
  generalize hb0 : Code.loop _ = cc0
  obtain rfl : cc0 = .loop (lp Tryz.f221 0) := by rw [← hb0]; rfl
  clear hb0
  simp -implicitDefEqProofs (maxSteps := 3000000)
  generalize hx : loopC _ _ _ = x
  generalize hl : lp Tryz.f221 0 = L at hx
  simp only [lp, bodyOf, Tryz.f221, Option.getD_some, loopsIn, List.append_nil, List.nil_append, List.cons_append, List.getD, List.getElem?_cons_zero, List.getElem?_cons_succ] at hl
  subst hl
  obtain ⟨p, rfl, hp⟩ := loop_end hx V.length (fun i s => i ≤ V.length ∧ ∃ g v, s = ⟨[(1, .d (.clo 259 [] [.cellp [.int .i64 q]])), (5, .own 128 v), (9, .d (ints V)), (10, .d (.int .i64 V.length)), (11, .d (.int .i64 i))],
      [(128, some (v, .row (icells (restU (V.take i) q))))], g⟩)
    (fun p => ∃ s v, p = (.exit 0, s) ∧ lookL s.env 5 = some (.own 128 v) ∧ obsL s.obs 128 = some (v, .row (icells (restU V q))))
    (by show V.length < m; omega) (by simp -implicitDefEqProofs (maxSteps := 3000000) [restU, icells])
    (by
      rintro i s hi ⟨hi2, g, v, rfl⟩
      have w2 := wrap_id (n := (i : Int) + 1) (by omega)
      have c := ct_rests1 m (by omega) q hq (rn V i) (h0 i hi)
      have hl : (restU (V.take i) q).length + 1 ≤ bound := by simp -implicitDefEqProofs (maxSteps := 3000000) [restU, bound]; omega
      have hl2 : (restU (V.take i) q).length < bound := by omega
      have hs := restU_succ V q hi
      simp -implicitDefEqProofs (maxSteps := 3000000) [hi, w2, c, hl, hl2, hs]
      omega)
    (by
      rintro s ⟨hi2, g, v, rfl⟩
      simp -implicitDefEqProofs (maxSteps := 3000000))
  obtain ⟨s, v, rfl, h1, h2⟩ := hp
  simp -implicitDefEqProofs (maxSteps := 3000000) [h1, h2]
theorem ct_changedValues_rests (n : Nat) (hn : B + 2 + 1 ≤ n) (D : Int) (V : List Int) (hV : V.length ≤ 10000000) (h0 : ∀ i < V.length, 0 ≤ rn V i) (q : Int) (hq : 0 < q) :
    evalCall Tryz.prog An n 257 [.agg [.d (.int .i64 D), .d (ints V)], .d (.clo 259 [] [.cellp [.int .i64 q]])] [] = some ⟨.agg [.d (.int .i64 D), .own 0 0], [.row (icells (restU V q))], []⟩ := by
  obtain ⟨m, rfl⟩ : ∃ m, n = m + 1 := ⟨n - 1, by omega⟩
  have hB := B_eq
  simp only [evalCall_at, fb257, bnd_some, bodyOf, Tryz.f257, Option.getD_some]
  have c := ct_mapped_rests m (by omega) V hV h0 q hq
  simp -implicitDefEqProofs (maxSteps := 3000000) [c]
theorem ct_rests (n : Nat) (hn : B + 3 + 1 ≤ n) (D : Int) (V : List Int) (hV : V.length ≤ 10000000) (h0 : ∀ i < V.length, 0 ≤ rn V i) (q : Int) (hq : 0 < q) :
    evalCall Tryz.prog An n 132 [.d (.int .i64 q), .agg [.d (.int .i64 D), .d (ints V)]] [] = some ⟨.agg [.d (.int .i64 D), .own 0 0], [.row (icells (restU V q))], []⟩ := by
  obtain ⟨m, rfl⟩ : ∃ m, n = m + 1 := ⟨n - 1, by omega⟩
  have hB := B_eq
  simp only [evalCall_at, fb132, bnd_some, bodyOf, Tryz.f132, Option.getD_some]
  have c := ct_changedValues_rests m (by omega) D V hV h0 q hq
  simp -implicitDefEqProofs (maxSteps := 3000000) [c]
theorem ct_times2 (n : Nat) (hn : B + 1 ≤ n) (T : List (List Int)) (R : RowsOk T) (a b : Nat) (ha : a < T.length) (hb : b < T.length) (e0 : cl T 0 a = a) :
    evalCall Tryz.prog An n 234 [.agg [.d (intss T)], .d (.sl 1 [.int .i64 a, .int .i64 b])] [] = some ⟨.d (.int .i64 (cl T a b)), [], []⟩ := by
  obtain ⟨m, rfl⟩ : ∃ m, n = m + 1 := ⟨n - 1, by omega⟩
  have hB := B_eq
  simp only [evalCall_at, fb234, bnd_some, bodyOf, Tryz.f234, Option.getD_some]
  generalize hb0 : Code.loop _ = cc0
  obtain rfl : cc0 = .loop (lp Tryz.f234 0) := by rw [← hb0]; rfl
  clear hb0
  have hz : 0 < T.length := by omega
  have r0 := (R.2 0 hz).1
  have ra := (R.2 a ha).1
  simp -implicitDefEqProofs (maxSteps := 3000000)
  generalize hx : loopC _ _ _ = x
  generalize hl : lp Tryz.f234 0 = L at hx
  simp only [lp, bodyOf, Tryz.f234, Option.getD_some, loopsIn, List.append_nil, List.nil_append, List.cons_append, List.getD, List.getElem?_cons_zero, List.getElem?_cons_succ] at hl
  subst hl
  obtain ⟨q, rfl, hq⟩ := loop_end hx 2 (fun i s => ∃ g, s = ⟨[(2, .ptr 32 1 0), (5, .d (.int .i64 (if i = 0 then 0 else if i = 1 then a else cl T a b))), (8, .d (.sl 1 [.int .i64 a, .int .i64 b])), (9, .d (.int .i64 2)), (10, .d (.int .i64 i))], [(32, some (1, .box [.d (intss T)]))], g⟩)
    (fun q => ∃ s, q = (.exit 0, s) ∧ lookL s.env 5 = some (.d (.int .i64 (cl T a b)))) (by show 2 < m; omega) (by simp -implicitDefEqProofs (maxSteps := 3000000))
    (by
      rintro i s hi ⟨g, rfl⟩
      have e : i = 0 ∨ i = 1 := by omega
      have w1 := wrap_id (n := 1) (by omega)
      have w2 := wrap_id (n := 2) (by omega)
      rcases e with rfl | rfl
      · simp -implicitDefEqProofs (maxSteps := 3000000) [hz, r0, ha, e0, w1]
      · simp -implicitDefEqProofs (maxSteps := 3000000) [ha, ra, hb, w2])
    (by
      rintro s ⟨g, rfl⟩
      simp -implicitDefEqProofs (maxSteps := 3000000))
  obtain ⟨s, rfl, h1⟩ := hq
  simp -implicitDefEqProofs (maxSteps := 3000000) [h1]
end Go.Proofs.YtfichikabolknaaGreatE
