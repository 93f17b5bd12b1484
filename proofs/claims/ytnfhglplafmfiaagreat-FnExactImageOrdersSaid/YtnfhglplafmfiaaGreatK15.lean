/- Contracts of functions of the program and of the reference: what the evaluator gives for a call of each. -/
import Derived.Test.YtnfhglplafmfiaaGreatAEf
import Derived.Test.YtnfhglplafmfiaaGreatK1M
import Derived.Test.YtnfhglplafmfiaaGreatK3M
import Derived.Test.YtnfhglplafmfiaaGreatK4
import Derived.Test.YtnfhglplafmfiaaGreatK6M
import Derived.Test.YtnfhglplafmfiaaGreatK8M
namespace Go.Proofs.YtnfhglplafmfiaaGreatE
open Go Go.Proofs
set_option maxHeartbeats 2000000
set_option linter.unusedSimpArgs false
set_option linter.unusedVariables false
set_option pp.deepTerms false
set_option pp.deepTerms.threshold 10
/-! ## how many cells: up to the degree 4 -/
theorem cells_bd4 {N : Nat} (hN : 1 ≤ N ∧ N ≤ 8) : ∀ i : Nat, i ≤ 4 → 0 ≤ ((N : Int) - 1) ^ i ∧ ((N : Int) - 1) ^ i ≤ 2401 := by
  intro i hi
  have e : i = 0 ∨ i = 1 ∨ i = 2 ∨ i = 3 ∨ i = 4 := by omega
  have hn : N = 1 ∨ N = 2 ∨ N = 3 ∨ N = 4 ∨ N = 5 ∨ N = 6 ∨ N = 7 ∨ N = 8 := by omega
  rcases e with rfl | rfl | rfl | rfl | rfl <;> rcases hn with rfl | rfl | rfl | rfl | rfl | rfl | rfl | rfl <;> decide
theorem ct_l03Cells4 (n : Nat) (hn : B + 2 ≤ n) (T : List (List Int)) (hT : 1 ≤ T.length ∧ T.length ≤ 8) (d : Nat) (hD : d ≤ 4) :
    evalCall Tryz.prog An n 154 [.agg [.d (intss T)], .d (.int .i64 d)] [] = some ⟨.d (.int .i64 (((T.length : Int) - 1) ^ d)), [], []⟩ := by
  obtain ⟨m, rfl⟩ : ∃ m, n = m + 1 := ⟨n - 1, by omega⟩
  have hB := B_eq
  simp only [evalCall_at, fb154, bnd_some, bodyOf, Tryz.f154, Option.getD_some]
  generalize hb0 : Code.loop _ = cc0
  obtain rfl : cc0 = .loop (lp Tryz.f154 0) := by rw [← hb0]; rfl
  clear hb0
  have w := wrap_id (n := (T.length : Int) - 1) (by omega)
  have c1 := ct_l01N m (by omega) T
  simp -implicitDefEqProofs (maxSteps := 3000000)
  generalize hx : loopC _ _ _ = x
  generalize hl : lp Tryz.f154 0 = L at hx
  simp only [lp, bodyOf, Tryz.f154, Option.getD_some, loopsIn, List.append_nil, List.nil_append, List.cons_append, List.getD, List.getElem?_cons_zero, List.getElem?_cons_succ] at hl
  subst hl
  obtain ⟨qq, rfl, hqq⟩ := loop_end hx (d) (fun i s => ∃ g, s = ⟨[(1, .d (.int .i64 ((d : Int) - i))), (2, .ptr 32 1 0), (5, .d (.int .i64 (((T.length : Int) - 1) ^ i)))], [(32, some (1, .box [.d (intss T)]))], g⟩)
    (fun qq => ∃ s, qq = (.exit 0, s) ∧ lookL s.env 1 = some (.d (.int .i64 ((d : Int) - (d)))) ∧ lookL s.env 2 = some (.ptr 32 1 0) ∧ lookL s.env 5 = some (.d (.int .i64 (((T.length : Int) - 1) ^ (d)))) ∧ obsL s.obs 32 = some (1, .box [.d (intss T)]))
    (by show d < m; omega) (by
      simp -implicitDefEqProofs (maxSteps := 3000000))
    (by
      rintro i s hi ⟨g, rfl⟩
      have b1 := cells_bd4 hT (i + 1) (by omega)
      rw [Int.pow_succ] at b1
      have w2 := wrap_id (n := ((T.length : Int) - 1) ^ i * ((T.length : Int) - 1)) (by omega)
      have w3 := wrap_id (n := (d : Int) - ((i : Int) + 1)) (by omega)
      have h2 : (d : Int) - (i : Int) - 1 = d - ((i : Int) + 1) := by omega
      simp -implicitDefEqProofs (maxSteps := 3000000) [hi, w, w2, w3, c1, Int.pow_succ, h2])
    (by
      rintro s ⟨g, rfl⟩
      simp -implicitDefEqProofs (maxSteps := 3000000))
  obtain ⟨s, rfl, hf⟩ := hqq
  simp -implicitDefEqProofs (maxSteps := 3000000) [hf]
theorem ct_power4 (n : Nat) (hn : B + 1 ≤ n) (N : Nat) (hN : 1 ≤ N ∧ N ≤ 8) (d : Nat) (hD : d ≤ 4) :
    evalCall Tryz.prog An n 218 [.d (.int .i64 ((N : Int) - 1)), .d (.int .i64 d)] [] = some ⟨.d (.int .i64 (((N : Int) - 1) ^ d)), [], []⟩ := by
  obtain ⟨m, rfl⟩ : ∃ m, n = m + 1 := ⟨n - 1, by omega⟩
  have hB := B_eq
  simp only [evalCall_at, fb218, bnd_some, bodyOf, Tryz.f218, Option.getD_some]
  generalize hb0 : Code.loop _ = cc0
  obtain rfl : cc0 = .loop (lp Tryz.f218 0) := by rw [← hb0]; rfl
  clear hb0
  simp -implicitDefEqProofs (maxSteps := 3000000)
  generalize hx : loopC _ _ _ = x
  generalize hl : lp Tryz.f218 0 = L at hx
  simp only [lp, bodyOf, Tryz.f218, Option.getD_some, loopsIn, List.append_nil, List.nil_append, List.cons_append, List.getD, List.getElem?_cons_zero, List.getElem?_cons_succ] at hl
  subst hl
  obtain ⟨qq, rfl, hqq⟩ := loop_end hx (d) (fun i s => ∃ g, s = ⟨[(0, .d (.int .i64 ((N : Int) - 1))), (5, .d (.int .i64 (((N : Int) - 1) ^ i))), (6, .d (.int .i64 d)), (7, .d (.int .i64 i))], [], g⟩)
    (fun qq => ∃ s, qq = (.exit 0, s) ∧ lookL s.env 0 = some (.d (.int .i64 ((N : Int) - 1))) ∧ lookL s.env 5 = some (.d (.int .i64 (((N : Int) - 1) ^ (d)))) ∧ lookL s.env 6 = some (.d (.int .i64 d)) ∧ lookL s.env 7 = some (.d (.int .i64 (d))))
    (by show d < m; omega) (by
      simp -implicitDefEqProofs (maxSteps := 3000000))
    (by
      rintro i s hi ⟨g, rfl⟩
      have b1 := cells_bd4 hN (i + 1) (by omega)
      rw [Int.pow_succ] at b1
      have w2 := wrap_id (n := ((N : Int) - 1) ^ i * ((N : Int) - 1)) (by omega)
      have w3 := wrap_id (n := (i : Int) + 1) (by omega)
      simp -implicitDefEqProofs (maxSteps := 3000000) [hi, w2, w3, Int.pow_succ])
    (by
      rintro s ⟨g, rfl⟩
      simp -implicitDefEqProofs (maxSteps := 3000000))
  obtain ⟨s, rfl, hf⟩ := hqq
  simp -implicitDefEqProofs (maxSteps := 3000000) [hf]
theorem ct_cells4 (n : Nat) (hn : B + 2 ≤ n) (T : List (List Int)) (hT : 1 ≤ T.length ∧ T.length ≤ 8) (d : Nat) (hD : d ≤ 4) :
    evalCall Tryz.prog An n 160 [.agg [.d (intss T)], .d (.int .i64 d)] [] = some ⟨.d (.int .i64 (((T.length : Int) - 1) ^ d)), [], []⟩ := by
  obtain ⟨m, rfl⟩ : ∃ m, n = m + 1 := ⟨n - 1, by omega⟩
  have hB := B_eq
  simp only [evalCall_at, fb160, bnd_some, bodyOf, Tryz.f160, Option.getD_some]
  have c1 := ct_order m (by omega) T
  have c2 := ct_power4 m (by omega) T.length hT d hD
  have w := wrap_id (n := (T.length : Int) - 1) (by omega)
  simp -implicitDefEqProofs (maxSteps := 3000000) [c1, w, c2]
/-! ## the value of a cochain at a list -/
def numA (N : Nat) (l : List Int) : Nat → Int
  | 0 => 0
  | k + 1 => numA N l k * ((N : Int) - 1) + rn l k - 1
theorem numA_bd {N : Nat} (hN : 1 ≤ N) {l : List Int} : ∀ k : Nat, (∀ j < k, 1 ≤ rn l j ∧ rn l j < N) → 0 ≤ numA N l k ∧ numA N l k < ((N : Int) - 1) ^ k
  | 0, _ => by simp -implicitDefEqProofs (maxSteps := 3000000) [numA]
  | k + 1, h => by
    obtain ⟨h1, h2⟩ := numA_bd hN k (fun j hj => h j (by omega))
    have h3 := h k (by omega)
    have h4 : 0 ≤ numA N l k * ((N : Int) - 1) := Int.mul_nonneg h1 (by omega)
    have h5 : (numA N l k + 1) * ((N : Int) - 1) ≤ ((N : Int) - 1) ^ k * ((N : Int) - 1) := Int.mul_le_mul_of_nonneg_right (by omega) (by omega)
    rw [Int.add_mul] at h5
    simp only [numA, Int.pow_succ]
    omega
def NoZ (l : List Int) : Prop := ∀ i < l.length, rn l i ≠ 0
noncomputable def atv (N : Nat) (V l : List Int) : Int := @ite Int (NoZ l) (Classical.propDecidable _) (rn V (numA N l l.length).toNat) 0
def InG (N : Nat) (l : List Int) : Prop := ∀ i < l.length, 0 ≤ rn l i ∧ rn l i < N
theorem rn_mem_bd {V : List Int} {b : Int} (hb : 0 ≤ b) (hV : ∀ i < V.length, 0 ≤ rn V i ∧ rn V i ≤ b) (i : Nat) : 0 ≤ rn V i ∧ rn V i ≤ b := by
  by_cases h : i < V.length
  · exact hV i h
  · have : rn V i = 0 := by simp -implicitDefEqProofs (maxSteps := 3000000) [rn, List.getD, List.getElem?_eq_none (show V.length ≤ i by omega)]
    omega
theorem atv_bd {N : Nat} {V l : List Int} {b : Int} (hb : 0 ≤ b) (hV : ∀ i < V.length, 0 ≤ rn V i ∧ rn V i ≤ b) : 0 ≤ atv N V l ∧ atv N V l ≤ b := by
  unfold atv
  split
  · exact rn_mem_bd hb hV _
  · omega
theorem ct_l03At (n : Nat) (hn : B + 2 ≤ n) (T : List (List Int)) (hT : 1 ≤ T.length ∧ T.length ≤ 8) (D : Int) (V l : List Int) (hl : l.length ≤ 3) (hV : (V.length : Int) = ((T.length : Int) - 1) ^ l.length) (hg : InG T.length l) :
    evalCall Tryz.prog An n 153 [.agg [.d (intss T)], .agg [.d (.int .i64 D), .d (ints V)], .d (ints l)] [] = some ⟨.d (.int .i64 (atv T.length V l)), [], []⟩ := by
  obtain ⟨m, rfl⟩ : ∃ m, n = m + 1 := ⟨n - 1, by omega⟩
  have hB := B_eq
  simp only [evalCall_at, fb153, bnd_some, bodyOf, Tryz.f153, Option.getD_some]
  generalize hb0 : Code.loop _ = cc0
  obtain rfl : cc0 = .loop (lp Tryz.f153 0) := by rw [← hb0]; rfl
  clear hb0
  have w := wrap_id (n := (T.length : Int) - 1) (by omega)
  have c1 := ct_l01N m (by omega) T
  simp -implicitDefEqProofs (maxSteps := 3000000)
  generalize hx : loopC _ _ _ = x
  generalize hl : lp Tryz.f153 0 = L at hx
  simp only [lp, bodyOf, Tryz.f153, Option.getD_some, loopsIn, List.append_nil, List.nil_append, List.cons_append, List.getD, List.getElem?_cons_zero, List.getElem?_cons_succ] at hl
  subst hl
  rcases loop_chk hx l.length 0 (fun i => rn l i ≠ 0)
    (fun i g => ⟨[(2, .d (ints l)), (3, .ptr 48 1 0), (4, .ptr 64 2 0), (7, .d (.int .i64 (numA T.length l i))), (8, .d (.int .i64 i))], [(48, some (1, .box [.d (intss T)])), (64, some (2, .box [.d (.int .i64 D), .d (ints V)]))], g⟩)
    (fun s => obsL s.obs 64 = some (2, .box [.d (.int .i64 D), .d (ints V)]) ∧ lookL s.env 4 = some (.ptr 64 2 0) ∧ lookL s.env 7 = some (.d (.int .i64 (numA T.length l l.length)))) (fun s => lookL s.env 6 = some (.d (.int .i64 0)))
    (by show l.length < m; omega) (by simp -implicitDefEqProofs (maxSteps := 3000000) [numA])
    (by
      rintro i g hi hp
      have w2 := wrap_id (n := (i : Int) + 1) (by omega)
      by_cases p : rn l i = 0
      · simp -implicitDefEqProofs (maxSteps := 3000000) [hi, p]
      · have gi := hg i hi
        have nb := numA_bd hT.1 (l := l) i (fun j hj => by have := hg j (by omega); have := hp j hj; omega)
        have cb := cells_bd hT i (by omega)
        have mb := mul_bd (a := numA T.length l i) (b := (T.length : Int) - 1) (x := 343) (y := 7) nb.1 (by omega) (by omega) (by omega)
        have w3 := wrap_id (n := numA T.length l i * ((T.length : Int) - 1)) (by omega)
        have w4 := wrap_id (n := numA T.length l i * ((T.length : Int) - 1) + rn l i) (by omega)
        have w5 := wrap_id (n := numA T.length l i * ((T.length : Int) - 1) + rn l i - 1) (by omega)
        simp -implicitDefEqProofs (maxSteps := 3000000) [hi, p, beq_f p, w, w2, w3, w4, w5, c1, numA])
    (by
      rintro g
      simp -implicitDefEqProofs (maxSteps := 3000000)) with ⟨h1, s, rfl, h2, h3, h4⟩ | ⟨⟨i, hi, h1⟩, s, rfl, h2⟩
  · have e : atv T.length V l = rn V (numA T.length l l.length).toNat := if_pos h1
    have nb := numA_bd hT.1 (l := l) l.length (fun j hj => by have := hg j hj; have := h1 j hj; omega)
    have h5 : (numA T.length l l.length).toNat < V.length := by omega
    simp -implicitDefEqProofs (maxSteps := 3000000) [h2, h3, h4, e, nb.1, h5]
  · have e : atv T.length V l = 0 := if_neg (fun z => h1 (z i hi))
    simp -implicitDefEqProofs (maxSteps := 3000000) [h2, e]
theorem ct_cell (n : Nat) (hn : B + 2 ≤ n) (T : List (List Int)) (hT : 1 ≤ T.length ∧ T.length ≤ 8) (l : List Int) (hl : l.length ≤ 3) (hg : InG T.length l) :
    evalCall Tryz.prog An n 212 [.agg [.d (intss T)], .d (ints l)] [] = some ⟨.d (.int .i64 (@ite Int (NoZ l) (Classical.propDecidable _) (numA T.length l l.length) (-1))), [], []⟩ := by
  obtain ⟨m, rfl⟩ : ∃ m, n = m + 1 := ⟨n - 1, by omega⟩
  have hB := B_eq
  simp only [evalCall_at, fb212, bnd_some, bodyOf, Tryz.f212, Option.getD_some]
  generalize hb0 : Code.loop _ = cc0
  obtain rfl : cc0 = .loop (lp Tryz.f212 0) := by rw [← hb0]; rfl
  clear hb0
  have w := wrap_id (n := (T.length : Int) - 1) (by omega)
  have c1 := ct_order m (by omega) T
  simp -implicitDefEqProofs (maxSteps := 3000000)
  generalize hx : loopC _ _ _ = x
  generalize hl : lp Tryz.f212 0 = L at hx
  simp only [lp, bodyOf, Tryz.f212, Option.getD_some, loopsIn, List.append_nil, List.nil_append, List.cons_append, List.getD, List.getElem?_cons_zero, List.getElem?_cons_succ] at hl
  subst hl
  rcases loop_chk hx l.length 0 (fun i => rn l i ≠ 0)
    (fun i g => ⟨[(2, .ptr 32 1 0), (5, .d (.int .i64 (numA T.length l i))), (8, .d (ints l)), (9, .d (.int .i64 l.length)), (10, .d (.int .i64 i))], [(32, some (1, .box [.d (intss T)]))], g⟩)
    (fun s => lookL s.env 5 = some (.d (.int .i64 (numA T.length l l.length)))) (fun s => lookL s.env 4 = some (.d (.int .i64 (-1))))
    (by show l.length < m; omega) (by simp -implicitDefEqProofs (maxSteps := 3000000) [numA])
    (by
      rintro i g hi hp
      have w2 := wrap_id (n := (i : Int) + 1) (by omega)
      by_cases p : rn l i = 0
      · simp -implicitDefEqProofs (maxSteps := 3000000) [hi, p]
      · have gi := hg i hi
        have nb := numA_bd hT.1 (l := l) i (fun j hj => by have := hg j (by omega); have := hp j hj; omega)
        have cb := cells_bd hT i (by omega)
        have mb := mul_bd (a := numA T.length l i) (b := (T.length : Int) - 1) (x := 343) (y := 7) nb.1 (by omega) (by omega) (by omega)
        have w3 := wrap_id (n := numA T.length l i * ((T.length : Int) - 1)) (by omega)
        have w4 := wrap_id (n := numA T.length l i * ((T.length : Int) - 1) + rn l i) (by omega)
        have w5 := wrap_id (n := numA T.length l i * ((T.length : Int) - 1) + rn l i - 1) (by omega)
        simp -implicitDefEqProofs (maxSteps := 3000000) [hi, p, beq_f p, w, w2, w3, w4, w5, c1, numA])
    (by
      rintro g
      simp -implicitDefEqProofs (maxSteps := 3000000)) with ⟨h1, s, rfl, h2⟩ | ⟨⟨i, hi, h1⟩, s, rfl, h2⟩
  · simp -implicitDefEqProofs (maxSteps := 3000000) [h2, if_pos (show NoZ l from h1)]
  · simp -implicitDefEqProofs (maxSteps := 3000000) [h2, if_neg (show ¬ NoZ l from (fun z => h1 (z i hi)))]
theorem ct_at (n : Nat) (hn : B + 3 ≤ n) (T : List (List Int)) (hT : 1 ≤ T.length ∧ T.length ≤ 8) (D : Int) (V l : List Int) (hl : l.length ≤ 3) (hV : (V.length : Int) = ((T.length : Int) - 1) ^ l.length) (hg : InG T.length l) :
    evalCall Tryz.prog An n 138 [.agg [.d (.int .i64 D), .d (ints V)], .agg [.d (intss T)], .d (ints l)] [] = some ⟨.d (.int .i64 (atv T.length V l)), [], []⟩ := by
  obtain ⟨m, rfl⟩ : ∃ m, n = m + 1 := ⟨n - 1, by omega⟩
  have hB := B_eq
  simp only [evalCall_at, fb138, bnd_some, bodyOf, Tryz.f138, Option.getD_some]
  have c1 := ct_cell m (by omega) T hT l hl hg
  by_cases h1 : NoZ l
  · have e : atv T.length V l = rn V (numA T.length l l.length).toNat := if_pos h1
    have nb := numA_bd hT.1 (l := l) l.length (fun j hj => by have := hg j hj; have := h1 j hj; omega)
    have h5 : (numA T.length l l.length).toNat < V.length := by omega
    rw [if_pos h1] at c1
    simp -implicitDefEqProofs (maxSteps := 3000000) [c1, e, nb.1, h5]
  · have e : atv T.length V l = 0 := if_neg h1
    rw [if_neg h1] at c1
    simp -implicitDefEqProofs (maxSteps := 3000000) [c1, e]
/-! ## the list with a number -/
def dig (b n i k : Nat) : Int := ((1 + i / b ^ (n - 1 - k) % b : Nat) : Int)
def digs (b n i : Nat) : List Int := tabI (dig b n i) n
def rowJ (b n i j : Nat) : List Int := tabI (fun k => if n ≤ k + j then dig b n i k else 0) n
@[simp] theorem digs_len (b n i : Nat) : (digs b n i).length = n := by simp -implicitDefEqProofs (maxSteps := 3000000) [digs]
@[simp] theorem rowJ_len (b n i j : Nat) : (rowJ b n i j).length = n := by simp -implicitDefEqProofs (maxSteps := 3000000) [rowJ]
theorem rowJ_zero (b n i : Nat) : List.replicate n 0 = rowJ b n i 0 := by
  apply List.ext_getElem
  · simp -implicitDefEqProofs (maxSteps := 3000000)
  · intro k h1 h2
    have h : k < n := by simpa using h1
    simp -implicitDefEqProofs (maxSteps := 3000000) [rowJ, tabI, show ¬ n ≤ k by omega]
theorem rowJ_set (b n i j : Nat) (hj : j < n) : (rowJ b n i j).set (n - 1 - j) (((1 + i / b ^ j % b : Nat)) : Int) = rowJ b n i (j + 1) := by
  apply List.ext_getElem
  · simp -implicitDefEqProofs (maxSteps := 3000000)
  · intro k h1 h2
    have h : k < n := by simpa using h2
    simp only [List.getElem_set, rowJ, tabI, List.getElem_map, List.getElem_range]
    by_cases e : n - 1 - j = k
    · rw [if_pos e, if_pos (by omega), dig, show n - 1 - k = j by omega]
    · rw [if_neg e]
      by_cases e2 : n ≤ k + j
      · rw [if_pos e2, if_pos (by omega)]
      · rw [if_neg e2, if_neg (by omega)]
theorem rowJ_all (b n i : Nat) : rowJ b n i n = digs b n i := by
  unfold rowJ digs
  congr 1
  funext k
  rw [if_pos (by omega)]
theorem rn_digs {b n i k : Nat} (hk : k < n) : rn (digs b n i) k = dig b n i k := rn_tabI _ hk
theorem digs_bd {b n i : Nat} (hi : i < b ^ n) : ∀ k < n, 1 ≤ rn (digs b n i) k ∧ rn (digs b n i) k ≤ b := by
  intro k hk
  rw [rn_digs hk, dig]
  have hb : 0 < b := by
    rcases Nat.eq_zero_or_pos b with z | z
    · subst z
      rw [Nat.zero_pow (by omega)] at hi
      omega
    · exact z
  have := Nat.mod_lt (i / b ^ (n - 1 - k)) hb
  omega
theorem digs_inG {N n i : Nat} (hN : 1 ≤ N) (hi : i < (N - 1) ^ n) : InG N (digs (N - 1) n i) := fun k hk => by
  have := digs_bd hi k (by simpa using hk)
  omega
theorem div_pow_succ (i b j : Nat) : i / b ^ j / b = i / b ^ (j + 1) := by rw [Nat.div_div_eq_div_mul, Nat.pow_succ]
theorem ct_l03List (n : Nat) (hn : B + 2 ≤ n) (T : List (List Int)) (hT : 1 ≤ T.length ∧ T.length ≤ 8) (d i : Nat) (hD : d ≤ 4) (h : i < (T.length - 1) ^ d) (hi4 : i < 1000000) :
    evalCall Tryz.prog An n 149 [.agg [.d (intss T)], .d (.int .i64 d), .d (.int .i64 i)] [] = some ⟨.own 0 0, [.row (icells (digs (T.length - 1) d i))], []⟩ := by
  obtain ⟨m, rfl⟩ : ∃ m, n = m + 1 := ⟨n - 1, by omega⟩
  have hB := B_eq
  simp only [evalCall_at, fb149, bnd_some, bodyOf, Tryz.f149, Option.getD_some]
  generalize hb0 : Code.loop _ = cc0
  obtain rfl : cc0 = .loop (lp Tryz.f149 0) := by rw [← hb0]; rfl
  clear hb0
  have c1 := ct_l01N m (by omega) T
  have eb : (T.length : Int) - 1 = ((T.length - 1 : Nat) : Int) := by omega
  have w := wrap_id (n := (T.length : Int) - 1) (by omega)
  have w0 := wrap_id (n := (d : Int) - 1) (by omega)
  have hd2 : (d : Int) ≤ 1099511627776 := by omega
  simp -implicitDefEqProofs (maxSteps := 3000000) [c1, w, w0, hd2, rowJ_zero (T.length - 1) d i]
  generalize hx : loopC _ _ _ = x
  generalize hl : lp Tryz.f149 0 = L at hx
  simp only [lp, bodyOf, Tryz.f149, Option.getD_some, loopsIn, List.append_nil, List.nil_append, List.cons_append, List.getD, List.getElem?_cons_zero, List.getElem?_cons_succ] at hl
  subst hl
  obtain ⟨p, rfl, hp⟩ := loop_end hx d (fun j s => ∃ g v, s = ⟨[(2, .d (.int .i64 ((i / (T.length - 1) ^ j : Nat) : Int))), (7, .own 176 v), (8, .d (.int .i64 ((T.length : Int) - 1))), (9, .d (.int .i64 ((d : Int) - 1 - j)))], [(176, some (v, .row (icells (rowJ (T.length - 1) d i j))))], g⟩)
    (fun p => ∃ s v, p = (.exit 0, s) ∧ lookL s.env 7 = some (.own 176 v) ∧ obsL s.obs 176 = some (v, .row (icells (digs (T.length - 1) d i))))
    (by show d < m; omega) (by simp -implicitDefEqProofs (maxSteps := 3000000))
    (by
      rintro j s hj ⟨g, v, rfl⟩
      have hb : 0 < T.length - 1 := by
        rcases Nat.eq_zero_or_pos (T.length - 1) with z | z
        · rw [z, Nat.zero_pow (by omega)] at h; omega
        · exact z
      have hz : (T.length : Int) - 1 ≠ 0 := by omega
      have q1 : i / (T.length - 1) ^ j ≤ i := Nat.div_le_self _ _
      have q2 : i / (T.length - 1) ^ (j + 1) ≤ i := Nat.div_le_self _ _
      have ml := Nat.mod_lt (i / (T.length - 1) ^ j) hb
      have tm : ((i / (T.length - 1) ^ j : Nat) : Int).tmod ((T.length : Int) - 1) = ((i / (T.length - 1) ^ j % (T.length - 1) : Nat) : Int) := by
        rw [eb, tmod_nn _ (Int.natCast_nonneg _)]; rfl
      have td : ((i / (T.length - 1) ^ j : Nat) : Int).tdiv ((T.length : Int) - 1) = ((i / (T.length - 1) ^ (j + 1) : Nat) : Int) := by
        rw [eb, Int.tdiv_eq_ediv_of_nonneg (Int.natCast_nonneg _), ← div_pow_succ]; rfl
      have hs := rowJ_set (T.length - 1) d i j hj
      generalize i / (T.length - 1) ^ j % (T.length - 1) = Z at *
      generalize i / (T.length - 1) ^ j = X at *
      generalize i / (T.length - 1) ^ (j + 1) = Y at *
      have w3 := wrap_id (n := (Z : Int) + 1) (by omega)
      have w3' := wrap_id (n := 1 + (Z : Int)) (by omega)
      have w4 := wrap_id (n := (Y : Int)) (by omega)
      have w5 := wrap_id (n := (d : Int) - 1 - ((j : Int) + 1)) (by omega)
      have e5 : (d : Int) - 1 - (j : Int) - 1 = (d : Int) - 1 - ((j : Int) + 1) := by omega
      have h0 : (j : Int) ≤ (d : Int) - 1 := by omega
      have et : ((d : Int) - 1 - (j : Int)).toNat = d - 1 - j := by omega
      have h6 : (Z : Int) + 1 = ((1 + Z : Nat) : Int) := by omega
      have h7 : d - 1 - j < d := by omega
      have h8 : (d : Int) - 1 - (j : Int) < d := by omega
      rw [h6] at w3
      generalize ((1 + Z : Nat) : Int) = Z1 at *
      simp -implicitDefEqProofs (maxSteps := 3000000) [h0, hz, tm, td, w3, w4, w5, e5, et, h6, h7, h8, hs])
    (by
      rintro s ⟨g, v, rfl⟩
      have h0 : ¬ ((d : Int) ≤ (d : Int) - 1) := by omega
      simp -implicitDefEqProofs (maxSteps := 3000000) [h0, rowJ_all])
  obtain ⟨s, v, rfl, hf⟩ := hp
  simp -implicitDefEqProofs (maxSteps := 3000000) [hf]
end Go.Proofs.YtnfhglplafmfiaaGreatE
