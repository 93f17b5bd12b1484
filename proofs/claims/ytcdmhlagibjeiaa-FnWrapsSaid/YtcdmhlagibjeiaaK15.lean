/- Contracts of functions of the program and of the reference: what the evaluator gives for a call of each. -/
import Derived.Test.YtcdmhlagibjeiaaAEf
import Derived.Test.YtcdmhlagibjeiaaK0
import Derived.Test.YtcdmhlagibjeiaaK4
import Derived.Test.YtcdmhlagibjeiaaK5
import Derived.Test.YtcdmhlagibjeiaaK7
namespace Go.Proofs.YtcdmhlagibjeiaaE
open Go Go.Proofs
set_option maxHeartbeats 2000000
set_option linter.unusedSimpArgs false
set_option linter.unusedVariables false
set_option pp.deepTerms false
set_option pp.deepTerms.threshold 10
/-! ## how many cells: up to the degree 4 -/
theorem cells_bd4 {N : Nat} (hN : 1 ≤ N ∧ N ≤ 8) : ∀ i : Nat, i ≤ 4 → 0 ≤ ((N : Int) - 1) ^ i ∧ ((N : Int) - 1) ^ i ≤ 2401 := by
  intro i hi
  have e : i = 0 ∨ i = 1 ∨ i = 2 ∨ i = 3 ∨ i = 4 := by omega
  have hn : N = 1 ∨ N = 2 ∨ N = 3 ∨ N = 4 ∨ N = 5 ∨ N = 6 ∨ N = 7 ∨ N = 8 := by omega
  rcases e with rfl | rfl | rfl | rfl | rfl <;> rcases hn with rfl | rfl | rfl | rfl | rfl | rfl | rfl | rfl <;> decide
theorem ct_power4 (n : Nat) (hn : B + 1 ≤ n) (N : Nat) (hN : 1 ≤ N ∧ N ≤ 8) (d : Nat) (hD : d ≤ 4) :
    evalCall Try.prog An n 95 [.d (.int .i64 ((N : Int) - 1)), .d (.int .i64 d)] [] = some ⟨.d (.int .i64 (((N : Int) - 1) ^ d)), [], []⟩ := by
  obtain ⟨m, rfl⟩ : ∃ m, n = m + 1 := ⟨n - 1, by omega⟩
  have hB := B_eq
  simp only [evalCall_at, fb95, bnd_some, bodyOf, Try.f95, Option.getD_some]
  generalize hb0 : Code.loop _ = cc0
  obtain rfl : cc0 = .loop (lp Try.f95 0) := by rw [← hb0]; rfl
  clear hb0
  simp -implicitDefEqProofs (maxSteps := 3000000)
  generalize hx : loopC _ _ _ = x
  generalize hl : lp Try.f95 0 = L at hx
  simp only [lp, bodyOf, Try.f95, Option.getD_some, loopsIn, List.append_nil, List.nil_append, List.cons_append, List.getD, List.getElem?_cons_zero, List.getElem?_cons_succ] at hl
  subst hl
  obtain ⟨qq, rfl, hqq⟩ := loop_end hx (d) (fun i s => ∃ g, s = ⟨[(0, .d (.int .i64 ((N : Int) - 1))), (5, .d (.int .i64 (((N : Int) - 1) ^ i))), (6, .d (.int .i64 d)), (7, .d (.int .i64 i))], [], g⟩)
    (fun qq => ∃ s, qq = (.exit 0, s) ∧ lookL s.env 0 = some (.d (.int .i64 ((N : Int) - 1))) ∧ lookL s.env 5 = some (.d (.int .i64 (((N : Int) - 1) ^ (d)))) ∧ lookL s.env 6 = some (.d (.int .i64 d)) ∧ lookL s.env 7 = some (.d (.int .i64 (d))))
    (by show d < m; omega) (by
      simp -implicitDefEqProofs (maxSteps := 3000000))
    (by
      rintro i s hi ⟨g, rfl⟩
      have b1 := cells_bd4 hN (i + 1) (by omega)
      rw [Int.pow_succ] at b1
      have w2 := wrap_id (n := ((N : Int) - 1) ^ i * ((N : Int) - 1)) (by omega)
      have w3 := wrap_id (n := (i : Int) + 1) (by omega)
      simp -implicitDefEqProofs (maxSteps := 3000000) [hi, w2, w3, Int.pow_succ])
    (by
      rintro s ⟨g, rfl⟩
      simp -implicitDefEqProofs (maxSteps := 3000000))
  obtain ⟨s, rfl, hf⟩ := hqq
  simp -implicitDefEqProofs (maxSteps := 3000000) [hf]
theorem ct_cells4 (n : Nat) (hn : B + 2 ≤ n) (T : List (List Int)) (hT : 1 ≤ T.length ∧ T.length ≤ 8) (d : Nat) (hD : d ≤ 4) :
    evalCall Try.prog An n 88 [.agg [.d (intss T)], .d (.int .i64 d)] [] = some ⟨.d (.int .i64 (((T.length : Int) - 1) ^ d)), [], []⟩ := by
  obtain ⟨m, rfl⟩ : ∃ m, n = m + 1 := ⟨n - 1, by omega⟩
  have hB := B_eq
  simp only [evalCall_at, fb88, bnd_some, bodyOf, Try.f88, Option.getD_some]
  have c1 := ct_order m (by omega) T
  have c2 := ct_power4 m (by omega) T.length hT d hD
  have w := wrap_id (n := (T.length : Int) - 1) (by omega)
  simp -implicitDefEqProofs (maxSteps := 3000000) [c1, w, c2]
/-! ## the value of a cochain at a list -/
def numA (N : Nat) (l : List Int) : Nat → Int
  | 0 => 0
  | k + 1 => numA N l k * ((N : Int) - 1) + rn l k - 1
theorem numA_bd {N : Nat} (hN : 1 ≤ N) {l : List Int} : ∀ k : Nat, (∀ j < k, 1 ≤ rn l j ∧ rn l j < N) → 0 ≤ numA N l k ∧ numA N l k < ((N : Int) - 1) ^ k
  | 0, _ => by simp -implicitDefEqProofs (maxSteps := 3000000) [numA]
  | k + 1, h => by
    obtain ⟨h1, h2⟩ := numA_bd hN k (fun j hj => h j (by omega))
    have h3 := h k (by omega)
    have h4 : 0 ≤ numA N l k * ((N : Int) - 1) := Int.mul_nonneg h1 (by omega)
    have h5 : (numA N l k + 1) * ((N : Int) - 1) ≤ ((N : Int) - 1) ^ k * ((N : Int) - 1) := Int.mul_le_mul_of_nonneg_right (by omega) (by omega)
    rw [Int.add_mul] at h5
    simp only [numA, Int.pow_succ]
    omega
def NoZ (l : List Int) : Prop := ∀ i < l.length, rn l i ≠ 0
noncomputable def atv (N : Nat) (V l : List Int) : Int := @ite Int (NoZ l) (Classical.propDecidable _) (rn V (numA N l l.length).toNat) 0
def InG (N : Nat) (l : List Int) : Prop := ∀ i < l.length, 0 ≤ rn l i ∧ rn l i < N
theorem rn_mem_bd {V : List Int} {b : Int} (hb : 0 ≤ b) (hV : ∀ i < V.length, 0 ≤ rn V i ∧ rn V i ≤ b) (i : Nat) : 0 ≤ rn V i ∧ rn V i ≤ b := by
  by_cases h : i < V.length
  · exact hV i h
  · have : rn V i = 0 := by simp -implicitDefEqProofs (maxSteps := 3000000) [rn, List.getD, List.getElem?_eq_none (show V.length ≤ i by omega)]
    omega
theorem atv_bd {N : Nat} {V l : List Int} {b : Int} (hb : 0 ≤ b) (hV : ∀ i < V.length, 0 ≤ rn V i ∧ rn V i ≤ b) : 0 ≤ atv N V l ∧ atv N V l ≤ b := by
  unfold atv
  split
  · exact rn_mem_bd hb hV _
  · omega
theorem ct_cell (n : Nat) (hn : B + 2 ≤ n) (T : List (List Int)) (hT : 1 ≤ T.length ∧ T.length ≤ 8) (l : List Int) (hl : l.length ≤ 3) (hg : InG T.length l) :
    evalCall Try.prog An n 101 [.agg [.d (intss T)], .d (ints l)] [] = some ⟨.d (.int .i64 (@ite Int (NoZ l) (Classical.propDecidable _) (numA T.length l l.length) (-1))), [], []⟩ := by
  obtain ⟨m, rfl⟩ : ∃ m, n = m + 1 := ⟨n - 1, by omega⟩
  have hB := B_eq
  simp only [evalCall_at, fb101, bnd_some, bodyOf, Try.f101, Option.getD_some]
  generalize hb0 : Code.loop _ = cc0
  obtain rfl : cc0 = .loop (lp Try.f101 0) := by rw [← hb0]; rfl
  clear hb0
  have w := wrap_id (n := (T.length : Int) - 1) (by omega)
  have c1 := ct_order m (by omega) T
  simp -implicitDefEqProofs (maxSteps := 3000000)
  generalize hx : loopC _ _ _ = x
  generalize hl : lp Try.f101 0 = L at hx
  simp only [lp, bodyOf, Try.f101, Option.getD_some, loopsIn, List.append_nil, List.nil_append, List.cons_append, List.getD, List.getElem?_cons_zero, List.getElem?_cons_succ] at hl
  subst hl
  rcases loop_chk hx l.length 0 (fun i => rn l i ≠ 0)
    (fun i g => ⟨[(2, .ptr 32 1 0), (5, .d (.int .i64 (numA T.length l i))), (8, .d (ints l)), (9, .d (.int .i64 l.length)), (10, .d (.int .i64 i))], [(32, some (1, .box [.d (intss T)]))], g⟩)
    (fun s => lookL s.env 5 = some (.d (.int .i64 (numA T.length l l.length)))) (fun s => lookL s.env 4 = some (.d (.int .i64 (-1))))
    (by show l.length < m; omega) (by simp -implicitDefEqProofs (maxSteps := 3000000) [numA])
    (by
      rintro i g hi hp
      have w2 := wrap_id (n := (i : Int) + 1) (by omega)
      by_cases p : rn l i = 0
      · simp -implicitDefEqProofs (maxSteps := 3000000) [hi, p]
      · have gi := hg i hi
        have nb := numA_bd hT.1 (l := l) i (fun j hj => by have := hg j (by omega); have := hp j hj; omega)
        have cb := cells_bd hT i (by omega)
        have mb := mul_bd (a := numA T.length l i) (b := (T.length : Int) - 1) (x := 343) (y := 7) nb.1 (by omega) (by omega) (by omega)
        have w3 := wrap_id (n := numA T.length l i * ((T.length : Int) - 1)) (by omega)
        have w4 := wrap_id (n := numA T.length l i * ((T.length : Int) - 1) + rn l i) (by omega)
        have w5 := wrap_id (n := numA T.length l i * ((T.length : Int) - 1) + rn l i - 1) (by omega)
        simp -implicitDefEqProofs (maxSteps := 3000000) [hi, p, beq_f p, w, w2, w3, w4, w5, c1, numA])
    (by
      rintro g
      simp -implicitDefEqProofs (maxSteps := 3000000)) with ⟨h1, s, rfl, h2⟩ | ⟨⟨i, hi, h1⟩, s, rfl, h2⟩
  · simp -implicitDefEqProofs (maxSteps := 3000000) [h2, if_pos (show NoZ l from h1)]
  · simp -implicitDefEqProofs (maxSteps := 3000000) [h2, if_neg (show ¬ NoZ l from (fun z => h1 (z i hi)))]
theorem ct_at (n : Nat) (hn : B + 3 ≤ n) (T : List (List Int)) (hT : 1 ≤ T.length ∧ T.length ≤ 8) (D : Int) (V l : List Int) (hl : l.length ≤ 3) (hV : (V.length : Int) = ((T.length : Int) - 1) ^ l.length) (hg : InG T.length l) :
    evalCall Try.prog An n 99 [.agg [.d (.int .i64 D), .d (ints V)], .agg [.d (intss T)], .d (ints l)] [] = some ⟨.d (.int .i64 (atv T.length V l)), [], []⟩ := by
  obtain ⟨m, rfl⟩ : ∃ m, n = m + 1 := ⟨n - 1, by omega⟩
  have hB := B_eq
  simp only [evalCall_at, fb99, bnd_some, bodyOf, Try.f99, Option.getD_some]
  have c1 := ct_cell m (by omega) T hT l hl hg
  by_cases h1 : NoZ l
  · have e : atv T.length V l = rn V (numA T.length l l.length).toNat := if_pos h1
    have nb := numA_bd hT.1 (l := l) l.length (fun j hj => by have := hg j hj; have := h1 j hj; omega)
    have h5 : (numA T.length l l.length).toNat < V.length := by omega
    rw [if_pos h1] at c1
    simp -implicitDefEqProofs (maxSteps := 3000000) [c1, e, nb.1, h5]
  · have e : atv T.length V l = 0 := if_neg h1
    rw [if_neg h1] at c1
    simp -implicitDefEqProofs (maxSteps := 3000000) [c1, e]
/-! ## the list with a number -/
def dig (b n i k : Nat) : Int := ((1 + i / b ^ (n - 1 - k) % b : Nat) : Int)
def digs (b n i : Nat) : List Int := tabI (dig b n i) n
def rowJ (b n i j : Nat) : List Int := tabI (fun k => if n ≤ k + j then dig b n i k else 0) n
@[simp] theorem digs_len (b n i : Nat) : (digs b n i).length = n := by simp -implicitDefEqProofs (maxSteps := 3000000) [digs]
@[simp] theorem rowJ_len (b n i j : Nat) : (rowJ b n i j).length = n := by simp -implicitDefEqProofs (maxSteps := 3000000) [rowJ]
theorem rowJ_zero (b n i : Nat) : List.replicate n 0 = rowJ b n i 0 := by
  apply List.ext_getElem
  · simp -implicitDefEqProofs (maxSteps := 3000000)
  · intro k h1 h2
    have h : k < n := by simpa using h1
    simp -implicitDefEqProofs (maxSteps := 3000000) [rowJ, tabI, show ¬ n ≤ k by omega]
theorem rowJ_set (b n i j : Nat) (hj : j < n) : (rowJ b n i j).set (n - 1 - j) (((1 + i / b ^ j % b : Nat)) : Int) = rowJ b n i (j + 1) := by
  apply List.ext_getElem
  · simp -implicitDefEqProofs (maxSteps := 3000000)
  · intro k h1 h2
    have h : k < n := by simpa using h2
    simp only [List.getElem_set, rowJ, tabI, List.getElem_map, List.getElem_range]
    by_cases e : n - 1 - j = k
    · rw [if_pos e, if_pos (by omega), dig, show n - 1 - k = j by omega]
    · rw [if_neg e]
      by_cases e2 : n ≤ k + j
      · rw [if_pos e2, if_pos (by omega)]
      · rw [if_neg e2, if_neg (by omega)]
theorem rowJ_all (b n i : Nat) : rowJ b n i n = digs b n i := by
  unfold rowJ digs
  congr 1
  funext k
  rw [if_pos (by omega)]
theorem rn_digs {b n i k : Nat} (hk : k < n) : rn (digs b n i) k = dig b n i k := rn_tabI _ hk
theorem digs_bd {b n i : Nat} (hi : i < b ^ n) : ∀ k < n, 1 ≤ rn (digs b n i) k ∧ rn (digs b n i) k ≤ b := by
  intro k hk
  rw [rn_digs hk, dig]
  have hb : 0 < b := by
    rcases Nat.eq_zero_or_pos b with z | z
    · subst z
      rw [Nat.zero_pow (by omega)] at hi
      omega
    · exact z
  have := Nat.mod_lt (i / b ^ (n - 1 - k)) hb
  omega
theorem digs_inG {N n i : Nat} (hN : 1 ≤ N) (hi : i < (N - 1) ^ n) : InG N (digs (N - 1) n i) := fun k hk => by
  have := digs_bd hi k (by simpa using hk)
  omega
theorem div_pow_succ (i b j : Nat) : i / b ^ j / b = i / b ^ (j + 1) := by rw [Nat.div_div_eq_div_mul, Nat.pow_succ]
end Go.Proofs.YtcdmhlagibjeiaaE
