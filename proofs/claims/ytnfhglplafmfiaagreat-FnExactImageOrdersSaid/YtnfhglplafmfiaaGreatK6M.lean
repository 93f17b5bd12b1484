/- Contracts of functions of the program and of the reference: what the evaluator gives for a call of each. -/
import Derived.Test.YtnfhglplafmfiaaGreatAEf
import Derived.Test.YtnfhglplafmfiaaGreatK1M
import Derived.Test.YtnfhglplafmfiaaGreatK3M
import Derived.Test.YtnfhglplafmfiaaGreatK4
namespace Go.Proofs.YtnfhglplafmfiaaGreatE
open Go Go.Proofs
set_option maxHeartbeats 2000000
set_option linter.unusedSimpArgs false
set_option linter.unusedVariables false
set_option pp.deepTerms false
set_option pp.deepTerms.threshold 10
/-! ## cochains -/
def cellsOf_ (N : Nat) (D : Int) : Int := ((N : Int) - 1) ^ D.toNat
theorem cells_bd {N : Nat} (hN : 1 ≤ N ∧ N ≤ 8) : ∀ i : Nat, i ≤ 3 → 0 ≤ ((N : Int) - 1) ^ i ∧ ((N : Int) - 1) ^ i ≤ 343 := by
  intro i hi
  have e : i = 0 ∨ i = 1 ∨ i = 2 ∨ i = 3 := by omega
  have hn : N = 1 ∨ N = 2 ∨ N = 3 ∨ N = 4 ∨ N = 5 ∨ N = 6 ∨ N = 7 ∨ N = 8 := by omega
  rcases e with rfl | rfl | rfl | rfl <;> rcases hn with rfl | rfl | rfl | rfl | rfl | rfl | rfl | rfl <;> decide
theorem ct_l03Cells (n : Nat) (hn : B + 2 ≤ n) (T : List (List Int)) (hT : 1 ≤ T.length ∧ T.length ≤ 8) (D : Int) (hD : 0 ≤ D ∧ D ≤ 3) :
    evalCall Tryz.prog An n 154 [.agg [.d (intss T)], .d (.int .i64 D)] [] = some ⟨.d (.int .i64 (cellsOf_ T.length D)), [], []⟩ := by
  obtain ⟨m, rfl⟩ : ∃ m, n = m + 1 := ⟨n - 1, by omega⟩
  have hB := B_eq
  simp only [evalCall_at, fb154, bnd_some, bodyOf, Tryz.f154, Option.getD_some]
  generalize hb0 : Code.loop _ = cc0
  obtain rfl : cc0 = .loop (lp Tryz.f154 0) := by rw [← hb0]; rfl
  clear hb0
  have w := wrap_id (n := (T.length : Int) - 1) (by omega)
  have c1 := ct_l01N m (by omega) T
  simp -implicitDefEqProofs (maxSteps := 3000000)
  generalize hx : loopC _ _ _ = x
  generalize hl : lp Tryz.f154 0 = L at hx
  simp only [lp, bodyOf, Tryz.f154, Option.getD_some, loopsIn, List.append_nil, List.nil_append, List.cons_append, List.getD, List.getElem?_cons_zero, List.getElem?_cons_succ] at hl
  subst hl
  obtain ⟨q, rfl, hq⟩ := loop_end hx D.toNat (fun i s => i ≤ D.toNat ∧ ∃ g, s = ⟨[(1, .d (.int .i64 (D - i))), (2, .ptr 32 1 0), (5, .d (.int .i64 (((T.length : Int) - 1) ^ i)))], [(32, some (1, .box [.d (intss T)]))], g⟩)
    (fun q => ∃ s, q = (.exit 0, s) ∧ lookL s.env 5 = some (.d (.int .i64 (cellsOf_ T.length D)))) (by show D.toNat < m; omega) (by simp -implicitDefEqProofs (maxSteps := 3000000))
    (by
      rintro i s hi ⟨hi2, g, rfl⟩
      have b1 := cells_bd hT (i + 1) (by omega)
      rw [Int.pow_succ] at b1
      have w2 := wrap_id (n := ((T.length : Int) - 1) ^ i * ((T.length : Int) - 1)) (by omega)
      have w3 := wrap_id (n := D - ((i : Int) + 1)) (by omega)
      have h1 : (i : Int) < D := by omega
      have h2 : D - (i : Int) - 1 = D - ((i : Int) + 1) := by omega
      simp -implicitDefEqProofs (maxSteps := 3000000) [h1, w, w2, w3, c1, Int.pow_succ, h2]
      omega)
    (by
      rintro s ⟨hi2, g, rfl⟩
      have h1 : ¬ (((D.toNat : Nat) : Int) < D) := by omega
      have h2 : max D 0 = D := by omega
      simp -implicitDefEqProofs (maxSteps := 3000000) [h1, h2, cellsOf_])
  obtain ⟨s, rfl, h1⟩ := hq
  simp -implicitDefEqProofs (maxSteps := 3000000) [h1]
def IsCo (T : List (List Int)) (M D : Int) (V : List Int) : Prop := (0 ≤ D ∧ D ≤ 3) ∧ (V.length : Int) = cellsOf_ T.length D ∧ ∀ i < V.length, 0 ≤ rn V i ∧ rn V i ≤ M - 1
theorem ct_l03Is (n : Nat) (hn : B + 3 ≤ n) (T : List (List Int)) (hT : 1 ≤ T.length ∧ T.length ≤ 8) (M : Int) (hM : 2 ≤ M ∧ M ≤ 12) (U : List Int) (D : Int) (V : List Int) (hV : V.length ≤ 10000000) :
    evalCall Tryz.prog An n 146 [.agg [.d (intss T)], .agg [.d (.int .i64 M), .d (ints U)], .agg [.d (.int .i64 D), .d (ints V)]] [] = some ⟨.d (.bool (bl (IsCo T M D V))), [], []⟩ := by
  obtain ⟨m, rfl⟩ : ∃ m, n = m + 1 := ⟨n - 1, by omega⟩
  have hB := B_eq
  simp only [evalCall_at, fb146, bnd_some, bodyOf, Tryz.f146, Option.getD_some]
  generalize hb0 : Code.loop _ = cc0
  obtain rfl : cc0 = .loop (lp Tryz.f146 0) := by rw [← hb0]; rfl
  clear hb0
  have w := wrap_id (n := M - 1) (by omega)
  by_cases hD : 0 ≤ D ∧ D ≤ 3
  · have c1 := ct_l01In_t m (by omega) D 0 3 hD
    have c2 := ct_l03Cells m (by omega) T hT D hD
    by_cases hL : (V.length : Int) = cellsOf_ T.length D
    · simp -implicitDefEqProofs (maxSteps := 3000000) [c1, c2, hL]
      generalize hx : loopC _ _ _ = x
      generalize hl : lp Tryz.f146 0 = L at hx
      simp only [lp, bodyOf, Tryz.f146, Option.getD_some, loopsIn, List.append_nil, List.nil_append, List.cons_append, List.getD, List.getElem?_cons_zero, List.getElem?_cons_succ] at hl
      subst hl
      rcases loop_chk hx V.length 0 (fun i => 0 ≤ rn V i ∧ rn V i ≤ M - 1)
        (fun i g => ⟨[(4, .ptr 64 2 0), (5, .ptr 80 3 0), (7, .d (.int .i64 i))], [(64, some (2, .box [.d (.int .i64 M), .d (ints U)])), (80, some (3, .box [.d (.int .i64 D), .d (ints V)]))], g⟩)
        (fun s => True) (fun s => lookL s.env 6 = some (.d (.bool false)))
        (by show V.length < m; omega) (by simp -implicitDefEqProofs (maxSteps := 3000000))
        (by
          rintro i g hi hp
          have w2 := wrap_id (n := (i : Int) + 1) (by omega)
          by_cases p : 0 ≤ rn V i ∧ rn V i ≤ M - 1
          · have c3 := ct_l01In_t m (by omega) (rn V i) 0 (M - 1) p
            simp -implicitDefEqProofs (maxSteps := 3000000) [hi, w, w2, c3, p]
          · have c3 := ct_l01In_f m (by omega) (rn V i) 0 (M - 1) p
            simp -implicitDefEqProofs (maxSteps := 3000000) [hi, w, w2, c3]
            omega)
        (by
          rintro g
          simp -implicitDefEqProofs (maxSteps := 3000000)) with ⟨h1, s, rfl, _⟩ | ⟨⟨i, hi, h1⟩, s, rfl, h2⟩
      · simp -implicitDefEqProofs (maxSteps := 3000000) [bl_true (show IsCo T M D V from ⟨hD, hL, h1⟩)]
      · simp -implicitDefEqProofs (maxSteps := 3000000) [h2, bl_false (show ¬ IsCo T M D V from fun z => h1 (z.2.2 i hi))]
    · have e2 := bne_t hL
      simp -implicitDefEqProofs (maxSteps := 3000000) [c1, c2, e2, bl_false (show ¬ IsCo T M D V from fun z => hL z.2.1)]
  · have c1 := ct_l01In_f m (by omega) D 0 3 hD
    simp -implicitDefEqProofs (maxSteps := 3000000) [c1, bl_false (show ¬ IsCo T M D V from fun z => hD z.1)]
def restU (V : List Int) (q : Int) : List Int := V.map (· % q)
theorem restU_succ (V : List Int) (q : Int) {i : Nat} (h : i < V.length) : restU (V.take i) q ++ [rn V i % q] = restU (V.take (i + 1)) q := by
  simp only [restU, List.take_add_one, List.map_append, rn, List.getD]
  rw [List.getElem?_eq_getElem h]
  rfl
theorem ct_l08Rests (n : Nat) (hn : B + 1 ≤ n) (D : Int) (V : List Int) (hV : V.length ≤ 10000000) (h0 : ∀ i < V.length, 0 ≤ rn V i) (q : Int) (hq : 0 < q) :
    evalCall Tryz.prog An n 68 [.agg [.d (.int .i64 D), .d (ints V)], .d (.int .i64 q)] [] = some ⟨.agg [.d (.int .i64 D), .own 0 0], [.row (icells (restU V q))], []⟩ := by
  obtain ⟨m, rfl⟩ : ∃ m, n = m + 1 := ⟨n - 1, by omega⟩
  have hB := B_eq
  simp only [evalCall_at, fb68, bnd_some, bodyOf, Tryz.f68, Option.getD_some]
  generalize hb0 : Code.loop _ = cc0
  obtain rfl : cc0 = .loop (lp Tryz.f68 0) := by rw [← hb0]; rfl
  clear hb0
  simp -implicitDefEqProofs (maxSteps := 3000000)
  generalize hx : loopC _ _ _ = x
  generalize hl : lp Tryz.f68 0 = L at hx
  simp only [lp, bodyOf, Tryz.f68, Option.getD_some, loopsIn, List.append_nil, List.nil_append, List.cons_append, List.getD, List.getElem?_cons_zero, List.getElem?_cons_succ] at hl
  subst hl
  obtain ⟨p, rfl, hp⟩ := loop_end hx V.length (fun i s => i ≤ V.length ∧ ∃ g v, s = ⟨[(1, .d (.int .i64 q)), (2, .ptr 32 1 0), (4, .ptr 64 2 0), (5, .ptr 80 7 0), (6, .d (.int .i64 i))],
      [(32, some (1, .box [.d (.int .i64 D), .d (ints V)])), (64, some (2, .box [.d (.int .i64 0), .d .nil])), (80, some (7, .box [.d (.int .i64 D), .own 144 v])), (144, some (v, .row (icells (restU (V.take i) q))))], g⟩)
    (fun p => ∃ s v, p = (.exit 0, s) ∧ lookL s.env 4 = some (.ptr 64 2 0) ∧ lookL s.env 5 = some (.ptr 80 7 0) ∧ obsL s.obs 64 = some (2, .box [.d (.int .i64 0), .d .nil]) ∧ obsL s.obs 80 = some (7, .box [.d (.int .i64 D), .own 144 v]) ∧ obsL s.obs 144 = some (v, .row (icells (restU V q))))
    (by show V.length < m; omega) (by simp -implicitDefEqProofs (maxSteps := 3000000) [restU, icells])
    (by
      rintro i s hi ⟨hi2, g, v, rfl⟩
      have w2 := wrap_id (n := (i : Int) + 1) (by omega)
      have tm := tmod_nn q (h0 i hi)
      have hz : q ≠ 0 := by omega
      have hl : (restU (V.take i) q).length + 1 ≤ bound := by simp -implicitDefEqProofs (maxSteps := 3000000) [restU, bound]; omega
      have hl2 : (restU (V.take i) q).length < bound := by omega
      have hs := restU_succ V q hi
      simp -implicitDefEqProofs (maxSteps := 3000000) [hi, w2, tm, hz, hl, hl2, hs]

      omega)
    (by
      rintro s ⟨hi2, g, v, rfl⟩
      simp -implicitDefEqProofs (maxSteps := 3000000))
  obtain ⟨s, v, rfl, h1, h2, h3, h4, h5⟩ := hp
  simp -implicitDefEqProofs (maxSteps := 3000000) [h1, h2, h3, h4, h5]
end Go.Proofs.YtnfhglplafmfiaaGreatE

namespace Go.Proofs.YtnfhglplafmfiaaGreatE
open Go Go.Proofs
set_option maxHeartbeats 2000000
set_option linter.unusedSimpArgs false
set_option linter.unusedVariables false
set_option pp.deepTerms false
set_option pp.deepTerms.threshold 10
/-! ## the reference's ReduceCochain -/
def GM (T : List (List Int)) (M : Int) (U : List Int) : Prop := IsGr T ∧ IsMo T M U
noncomputable def dcode (M k : Int) : Int := @ite Int (2 ≤ k ∧ k ≤ M.tdiv 2 ∧ M.tmod k = 0) (Classical.propDecidable _) 0 2
theorem dcode_0 {M k : Int} (h : 2 ≤ k ∧ k ≤ M.tdiv 2 ∧ M.tmod k = 0) : dcode M k = 0 := by simp only [dcode, if_pos h]
theorem dcode_2 {M k : Int} (h : ¬ (2 ≤ k ∧ k ≤ M.tdiv 2 ∧ M.tmod k = 0)) : dcode M k = 2 := by simp only [dcode, if_neg h]
theorem ct_l08Code_1 (n : Nat) (hn : B + 3 ≤ n) (T : List (List Int)) (hT : T.length ≤ 2000000) (M : Int) (U : List Int) (hU : U.length ≤ 2000000) (k : Int) (h : ¬ GM T M U) :
    evalCall Tryz.prog An n 62 [.agg [.d (intss T)], .agg [.d (.int .i64 M), .d (ints U)], .d (.int .i64 k)] [] = some ⟨.d (.int .i64 1), [], []⟩ := by
  obtain ⟨m, rfl⟩ : ∃ m, n = m + 1 := ⟨n - 1, by omega⟩
  have hB := B_eq
  simp only [evalCall_at, fb62, bnd_some, bodyOf, Tryz.f62, Option.getD_some]
  have c1 := ct_l01Is m (by omega) T (by omega)
  by_cases G : IsGr T
  · have c2 := ct_l02Is m (by omega) T G.1 M U hU
    rw [bl_true G] at c1
    rw [bl_false (fun z => h ⟨G, z⟩)] at c2
    simp -implicitDefEqProofs (maxSteps := 3000000) [c1, c2]
  · rw [bl_false G] at c1
    simp -implicitDefEqProofs (maxSteps := 3000000) [c1]
theorem ct_l08Code (n : Nat) (hn : B + 3 ≤ n) (T : List (List Int)) (hT : T.length ≤ 2000000) (M : Int) (U : List Int) (hU : U.length ≤ 2000000) (k : Int) (h : GM T M U) :
    evalCall Tryz.prog An n 62 [.agg [.d (intss T)], .agg [.d (.int .i64 M), .d (ints U)], .d (.int .i64 k)] [] = some ⟨.d (.int .i64 (dcode M k)), [], []⟩ := by
  obtain ⟨m, rfl⟩ : ∃ m, n = m + 1 := ⟨n - 1, by omega⟩
  have hB := B_eq
  simp only [evalCall_at, fb62, bnd_some, bodyOf, Tryz.f62, Option.getD_some]
  have c1 := ct_l01Is m (by omega) T (by omega)
  have c2 := ct_l02Is m (by omega) T h.1.1 M U hU
  rw [bl_true h.1] at c1
  rw [bl_true h.2] at c2
  have hM := h.2.1.1
  have e2 : M.tdiv 2 = M / 2 := Int.tdiv_eq_ediv_of_nonneg (by omega)
  have w := wrap_id (n := M.tdiv 2) (by omega)
  by_cases p : 2 ≤ k ∧ k ≤ M.tdiv 2
  · have c3 := ct_l01In_t m (by omega) k 2 (M.tdiv 2) p
    have kz : k ≠ 0 := by omega
    by_cases p2 : M.tmod k = 0
    · simp -implicitDefEqProofs (maxSteps := 3000000) [c1, c2, c3, w, kz, p2, dcode_0 ⟨p.1, p.2, p2⟩]
    · have p3 := bne_t p2
      simp -implicitDefEqProofs (maxSteps := 3000000) [c1, c2, c3, w, kz, p2, p3, dcode_2 (fun z => p2 z.2.2)]
  · have c3 := ct_l01In_f m (by omega) k 2 (M.tdiv 2) p
    simp -implicitDefEqProofs (maxSteps := 3000000) [c1, c2, c3, w, dcode_2 (fun z => p ⟨z.1, z.2.1⟩)]
noncomputable def ccode (T : List (List Int)) (M : Int) (U : List Int) (D : Int) (V : List Int) : Int := @ite Int (IsCo T M D V) (Classical.propDecidable _) 0 1
theorem ct_l03Code1 (n : Nat) (hn : B + 4 ≤ n) (T : List (List Int)) (M : Int) (U : List Int) (hU : U.length ≤ 2000000) (h : GM T M U) (D : Int) (V : List Int) (hV : V.length ≤ 10000000) :
    evalCall Tryz.prog An n 91 [.agg [.d (intss T)], .agg [.d (.int .i64 M), .d (ints U)], .d (.sl 2 [.int .i64 D, ints V])] [] = some ⟨.d (.int .i64 (ccode T M U D V)), [], []⟩ := by
  obtain ⟨m, rfl⟩ : ∃ m, n = m + 1 := ⟨n - 1, by omega⟩
  have hB := B_eq
  simp only [evalCall_at, fb91, bnd_some, bodyOf, Tryz.f91, Option.getD_some]
  generalize hb0 : Code.loop _ = cc0
  obtain rfl : cc0 = .loop (lp Tryz.f91 0) := by rw [← hb0]; rfl
  clear hb0
  have hT := h.1.1.1
  have c1 := ct_l01Is m (by omega) T (by omega)
  have c2 := ct_l02Is m (by omega) T h.1.1 M U hU
  have c3 := ct_l03Is m (by omega) T hT M h.2.1.1 U D V hV
  rw [bl_true h.1] at c1
  rw [bl_true h.2] at c2
  simp -implicitDefEqProofs (maxSteps := 3000000) [c1, c2]
  generalize hx : loopC _ _ _ = x
  generalize hl : lp Tryz.f91 0 = L at hx
  simp only [lp, bodyOf, Tryz.f91, Option.getD_some, loopsIn, List.append_nil, List.nil_append, List.cons_append, List.getD, List.getElem?_cons_zero, List.getElem?_cons_succ] at hl
  subst hl
  rcases loop_chk hx 1 0 (fun i => IsCo T M D V)
    (fun i g => ⟨[(2, .d (.sl 2 [.int .i64 D, ints V])), (3, .ptr 48 1 0), (4, .ptr 64 2 0), (7, .d (.int .i64 i))], [(48, some (1, .box [.d (intss T)])), (64, some (2, .box [.d (.int .i64 M), .d (ints U)]))], g⟩)
    (fun s => True) (fun s => lookL s.env 6 = some (.d (.int .i64 1)))
    (by show 1 < m; omega) (by simp -implicitDefEqProofs (maxSteps := 3000000))
    (by
      rintro i g hi hp
      obtain rfl : i = 0 := by omega
      have w2 := wrap_id (n := 1) (by omega)
      by_cases p : IsCo T M D V
      · rw [bl_true p] at c3
        simp -implicitDefEqProofs (maxSteps := 3000000) [c3, p, w2]
      · rw [bl_false p] at c3
        simp -implicitDefEqProofs (maxSteps := 3000000) [c3, p, w2])
    (by
      rintro g
      simp -implicitDefEqProofs (maxSteps := 3000000)) with ⟨h1, s, rfl, _⟩ | ⟨⟨i, hi, h1⟩, s, rfl, h2⟩
  · have e : ccode T M U D V = 0 := if_pos (h1 0 (by omega))
    simp -implicitDefEqProofs (maxSteps := 3000000) [e]
  · have e : ccode T M U D V = 1 := if_neg h1
    simp -implicitDefEqProofs (maxSteps := 3000000) [h2, e]
/-- Good arguments of ReduceCochain. -/
def RGood (T : List (List Int)) (M : Int) (U : List Int) (k D : Int) (V : List Int) : Prop := (GM T M U ∧ (2 ≤ k ∧ k ≤ M.tdiv 2 ∧ M.tmod k = 0)) ∧ IsCo T M D V
noncomputable def rcode (T : List (List Int)) (M : Int) (U : List Int) (k D : Int) (V : List Int) : Int :=
  @ite Int (GM T M U) (Classical.propDecidable _) (if dcode M k = 0 then ccode T M U D V else dcode M k) 1
theorem ct_specReduce_bad (n : Nat) (hn : B + 5 ≤ n) (T : List (List Int)) (hT : T.length ≤ 2000000) (M : Int) (U : List Int) (hU : U.length ≤ 2000000) (k D : Int) (V : List Int) (hV : V.length ≤ 10000000) (h : ¬ RGood T M U k D V) :
    evalCall Tryz.prog An n 32 [.agg [.d (intss T)], .agg [.d (.int .i64 M), .d (ints U)], .d (.int .i64 k), .agg [.d (.int .i64 D), .d (ints V)]] [] = some ⟨.tuple [.agg [.d (.int .i64 0), .d .nil], .d (.int .i64 (rcode T M U k D V))], [], []⟩ := by
  obtain ⟨m, rfl⟩ : ∃ m, n = m + 1 := ⟨n - 1, by omega⟩
  have hB := B_eq
  simp only [evalCall_at, fb32, bnd_some, bodyOf, Tryz.f32, Option.getD_some]
  by_cases G : GM T M U
  · have c1 := ct_l08Code m (by omega) T hT M U hU k G
    by_cases d : dcode M k = 0
    · have c2 := ct_l03Code1 m (by omega) T M U hU G D V hV
      have e : rcode T M U k D V = 1 ∧ ccode T M U D V = 1 := by
        have hc : ¬ IsCo T M D V := fun z => h ⟨⟨G, by
          by_cases y : 2 ≤ k ∧ k ≤ M.tdiv 2 ∧ M.tmod k = 0
          · exact y
          · rw [dcode_2 y] at d; omega⟩, z⟩
        have e : ccode T M U D V = 1 := if_neg hc
        exact ⟨by rw [rcode, if_pos G, if_pos d, e], e⟩
      simp -implicitDefEqProofs (maxSteps := 3000000) [c1, d, c2, e.1, e.2]
    · have e : rcode T M U k D V = dcode M k := by rw [rcode, if_pos G, if_neg d]
      have d2 := bne_t d
      simp -implicitDefEqProofs (maxSteps := 3000000) [c1, d, d2, e]
  · have c1 := ct_l08Code_1 m (by omega) T hT M U hU k G
    have e : rcode T M U k D V = 1 := by rw [rcode, if_neg G]
    simp -implicitDefEqProofs (maxSteps := 3000000) [c1, e]
theorem ct_specReduce (n : Nat) (hn : B + 5 ≤ n) (T : List (List Int)) (hT : T.length ≤ 2000000) (M : Int) (U : List Int) (hU : U.length ≤ 2000000) (k D : Int) (V : List Int) (hV : V.length ≤ 10000000) (h : RGood T M U k D V) :
    evalCall Tryz.prog An n 32 [.agg [.d (intss T)], .agg [.d (.int .i64 M), .d (ints U)], .d (.int .i64 k), .agg [.d (.int .i64 D), .d (ints V)]] [] = some ⟨.tuple [.agg [.d (.int .i64 D), .own 0 0], .d (.int .i64 0)], [.row (icells (restU V (M.tdiv k)))], []⟩ := by
  obtain ⟨m, rfl⟩ : ∃ m, n = m + 1 := ⟨n - 1, by omega⟩
  have hB := B_eq
  simp only [evalCall_at, fb32, bnd_some, bodyOf, Tryz.f32, Option.getD_some]
  obtain ⟨⟨G, hk⟩, hC⟩ := h
  have hM := G.2.1.1
  have c1 := ct_l08Code m (by omega) T hT M U hU k G
  rw [dcode_0 hk] at c1
  have c2 := ct_l03Code1 m (by omega) T M U hU G D V hV
  rw [show ccode T M U D V = 0 from if_pos hC] at c2
  have e2 : M.tdiv 2 = M / 2 := Int.tdiv_eq_ediv_of_nonneg (by omega)
  have e3 : M.tdiv k = M / k := Int.tdiv_eq_ediv_of_nonneg (by omega)
  have hq : 0 < M.tdiv k := by
    rw [e3]
    exact Int.ediv_pos_of_pos_of_dvd (by omega) (by omega) (Int.dvd_of_tmod_eq_zero hk.2.2)
  have hq2 : M.tdiv k ≤ M := by rw [e3]; exact Int.ediv_le_self k (by omega)
  have w := wrap_id (n := M.tdiv k) (by omega)
  have kz : k ≠ 0 := by omega
  have c3 := ct_l08Rests m (by omega) D V hV (fun i hi => (hC.2.2 i hi).1) (M.tdiv k) hq
  simp -implicitDefEqProofs (maxSteps := 3000000) [c1, c2, c3, w, kz]
end Go.Proofs.YtnfhglplafmfiaaGreatE
