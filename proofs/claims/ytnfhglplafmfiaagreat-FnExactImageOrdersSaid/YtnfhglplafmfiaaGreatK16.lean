/- Contracts of functions of the program and of the reference: what the evaluator gives for a call of each. -/
import Derived.Test.YtnfhglplafmfiaaGreatAEf
import Derived.Test.YtnfhglplafmfiaaGreatK1M
import Derived.Test.YtnfhglplafmfiaaGreatK3M
import Derived.Test.YtnfhglplafmfiaaGreatK4
import Derived.Test.YtnfhglplafmfiaaGreatK8M
import Derived.Test.YtnfhglplafmfiaaGreatK15
namespace Go.Proofs.YtnfhglplafmfiaaGreatE
open Go Go.Proofs
set_option maxHeartbeats 4000000
set_option maxRecDepth 2000
set_option linter.unusedSimpArgs false
set_option linter.unusedVariables false
set_option pp.deepTerms false
set_option pp.deepTerms.threshold 10
/-! ## rests -/
theorem gomod {x m : Int} (hm : 0 < m) : (x.tmod m + m).tmod m = x % m := by
  have h1 : -m < x.tmod m := by
    have := Int.lt_tmod_of_pos x hm
    omega
  rw [Int.tmod_eq_emod_of_nonneg (by omega), Int.tmod_def]
  rw [Int.add_emod_right, Int.sub_mul_emod_self_left]
theorem ct_l01Mod (n : Nat) (hn : B + 1 ≤ n) (x k : Int) (hk : 0 < k ∧ k < 1000000000000) (hx : -1000000000000 < x ∧ x < 1000000000000) :
    evalCall Tryz.prog An n 152 [.d (.int .i64 x), .d (.int .i64 k)] [] = some ⟨.d (.int .i64 (x % k)), [], []⟩ := by
  obtain ⟨m, rfl⟩ : ∃ m, n = m + 1 := ⟨n - 1, by omega⟩
  have hB := B_eq
  simp only [evalCall_at, fb152, bnd_some, bodyOf, Tryz.f152, Option.getD_some]
  have h1 := Int.lt_tmod_of_pos x hk.1
  have h2 := Int.tmod_lt_of_pos x hk.1
  have w := wrap_id (n := x.tmod k + k) (by omega)
  have g := gomod (x := x) hk.1
  have hz : k ≠ 0 := by omega
  simp -implicitDefEqProofs (maxSteps := 3000000) [hz, w, g]
theorem ct_l01Own (n : Nat) (hn : B + 1 ≤ n) (l : List Int) (hl : l.length ≤ 10000000) :
    evalCall Tryz.prog An n 185 [.d (ints l)] [] = some ⟨.own 0 0, [.row (icells l)], []⟩ := by
  obtain ⟨m, rfl⟩ : ∃ m, n = m + 1 := ⟨n - 1, by omega⟩
  have hB := B_eq
  simp only [evalCall_at, fb185, bnd_some, bodyOf, Tryz.f185, Option.getD_some]
  have hb := le_bound hl
  have hb2 : l.length ≤ bound := by omega
  simp -implicitDefEqProofs (maxSteps := 3000000) [hb2]
/-! ## the boundary's value at a list -/
def sgn (k : Nat) : Int := if k % 2 = 0 then -1 else 1
theorem sgn_succ (k : Nat) : 0 - sgn k = sgn (k + 1) := by
  unfold sgn
  by_cases h : k % 2 = 0
  · rw [if_pos h, if_neg (by omega)]; rfl
  · rw [if_neg h, if_pos (by omega)]; rfl
theorem sgn_bd (k : Nat) : sgn k = -1 ∨ sgn k = 1 := by unfold sgn; split <;> simp -implicitDefEqProofs (maxSteps := 3000000)
theorem sgn_mul {a b : Int} (k : Nat) (h : 0 ≤ a ∧ a ≤ b) : -b ≤ sgn k * a ∧ sgn k * a ≤ b := by
  rcases sgn_bd k with e | e <;> rw [e] <;> omega
def mrg (T : List (List Int)) (l : List Int) (i : Nat) : List Int := l.take i ++ cl T (rn l i).toNat (rn l (i + 1)).toNat :: l.drop (i + 2)
theorem mrg_len (T : List (List Int)) (l : List Int) (i : Nat) (h : i + 2 ≤ l.length) : (mrg T l i).length = l.length - 1 := by simp -implicitDefEqProofs (maxSteps := 3000000) [mrg]; omega
noncomputable def sdA (T : List (List Int)) (U V l : List Int) : Nat → Int
  | 0 => rn U (rn l 0).toNat * atv T.length V (l.drop 1)
  | k + 1 => sdA T U V l k + sgn k * atv T.length V (mrg T l k)
noncomputable def sideV (T : List (List Int)) (U V l : List Int) : Int := sdA T U V l (l.length - 1) + sgn (l.length - 1) * atv T.length V (l.take (l.length - 1))
theorem sdA_bd {T : List (List Int)} {U V : List Int} (l : List Int) (hU : ∀ i < U.length, 0 ≤ rn U i ∧ rn U i ≤ 11) (hV : ∀ i < V.length, 0 ≤ rn V i ∧ rn V i ≤ 11) : ∀ k : Nat, -(121 + 11 * (k : Int)) ≤ sdA T U V l k ∧ sdA T U V l k ≤ 121 + 11 * (k : Int)
  | 0 => by
    have u := rn_mem_bd (by omega) hU (rn l 0).toNat
    have v := atv_bd (N := T.length) (l := l.drop 1) (by omega) hV
    have := mul_bd u.1 u.2 v.1 v.2
    simp only [sdA]; omega
  | k + 1 => by
    have h := sdA_bd (T := T) l hU hV k
    have := sgn_mul k (atv_bd (N := T.length) (l := mrg T l k) (by omega) hV)
    simp only [sdA]; omega
theorem inG_drop {N : Nat} {l : List Int} (h : InG N l) (k : Nat) : InG N (l.drop k) := fun i hi => by
  rw [rn_drop]; exact h _ (by simp -implicitDefEqProofs (maxSteps := 3000000) at hi; omega)
theorem rn_take {l : List Int} {k i : Nat} (h : i < k) : rn (l.take k) i = rn l i := by simp -implicitDefEqProofs (maxSteps := 3000000) [rn, List.getD, List.getElem?_take, h]
theorem inG_take {N : Nat} {l : List Int} (h : InG N l) (k : Nat) : InG N (l.take k) := fun i hi => by
  have : i < k ∧ i < l.length := by simp -implicitDefEqProofs (maxSteps := 3000000) at hi; omega
  rw [rn_take this.1]; exact h _ this.2
theorem inG_app {N : Nat} {l r : List Int} (h : InG N l) (h2 : InG N r) : InG N (l ++ r) := fun i hi => by
  simp only [rn, List.getD, List.getElem?_append]
  by_cases z : i < l.length
  · rw [if_pos z]; exact h i z
  · rw [if_neg z]; exact h2 _ (by simp -implicitDefEqProofs (maxSteps := 3000000) at hi; omega)
theorem inG_cons {N : Nat} {x : Int} {r : List Int} (h : 0 ≤ x ∧ x < N) (h2 : InG N r) : InG N (x :: r) := fun i hi => by
  cases i with
  | zero => simpa [rn] using h
  | succ i => simpa [rn] using h2 i (by simpa using hi)
theorem mrg_inG {T : List (List Int)} (R : RowsOk T) {l : List Int} (h : InG T.length l) {i : Nat} (hi : i + 2 ≤ l.length) : InG T.length (mrg T l i) := by
  have a := h i (by omega)
  have b := h (i + 1) (by omega)
  exact inG_app (inG_take h _) (inG_cons ((R.2 _ (by omega)).2 _ (by omega)) (inG_drop h _))
theorem take_drop_all (l : List Int) (k : Nat) : (l.drop k).take (l.length - k) = l.drop k := by
  rw [List.take_of_length_le (by simp -implicitDefEqProofs (maxSteps := 3000000))]
structure SideOk (T : List (List Int)) (U V l : List Int) (p : Nat) : Prop where
  R : RowsOk T
  e0 : ∀ a < T.length, cl T 0 a = a
  hU : U.length = T.length
  bU : ∀ i < U.length, 0 ≤ rn U i ∧ rn U i ≤ 11
  hV : (V.length : Int) = ((T.length : Int) - 1) ^ p
  bV : ∀ i < V.length, 0 ≤ rn V i ∧ rn V i ≤ 11
  hl : l.length = p + 1
  hp : p ≤ 3
  hg : InG T.length l
theorem ct_l03Side (n : Nat) (hn : B + 3 ≤ n) (T : List (List Int)) (M : Int) (hM : 0 < M ∧ M ≤ 12) (U : List Int) (D : Int) (V l : List Int) (p : Nat) (S : SideOk T U V l p) :
    evalCall Tryz.prog An n 169 [.agg [.d (intss T)], .agg [.d (.int .i64 M), .d (ints U)], .agg [.d (.int .i64 D), .d (ints V)], .d (ints l)] [] = some ⟨.d (.int .i64 (sideV T U V l % M)), [], []⟩ := by
  obtain ⟨m, rfl⟩ : ∃ m, n = m + 1 := ⟨n - 1, by omega⟩
  have hB := B_eq
  simp only [evalCall_at, fb169, bnd_some, bodyOf, Tryz.f169, Option.getD_some]
  generalize hb0 : Code.loop _ = cc0
  obtain rfl : cc0 = .loop (lp Tryz.f169 0) := by rw [← hb0]; rfl
  clear hb0
  obtain ⟨R, e0, hU, bU, hV, bV, hl, hp, hg⟩ := S
  have hT := R.1
  have w1 := wrap_id (n := (l.length : Int) - 1) (by omega)
  have h0 : 0 < l.length := by omega
  have g0 := hg 0 (by omega)
  have g0' : (rn l 0).toNat < U.length := by omega
  have c0 := ct_l03At m (by omega) T hT D V (l.drop 1) (by simp; omega) (by simp -implicitDefEqProofs (maxSteps := 3000000) [hl]; exact hV) (inG_drop hg 1)
  have bd := fun k => sdA_bd (T := T) (U := U) (V := V) l bU bV k
  have bd0 := bd 0
  simp only [sdA] at bd0
  have w2 := wrap_id (n := rn U (rn l 0).toNat * atv T.length V (l.drop 1)) (by omega)
  have k1 : (1 : Int) ≤ l.length := by omega
  have k2 : (l.drop 1).take (l.length - 1) = l.drop 1 := take_drop_all l 1
  have k3 : ((l.length : Int)).toNat - 1 = l.length - 1 := by omega
  simp only [List.drop_one] at c0 w2 k2
  have k5 : l.tail.take p = l.tail := by rw [← k2, hl, Nat.add_sub_cancel, List.take_take, Nat.min_self]
  simp -implicitDefEqProofs (maxSteps := 3000000) [w1, h0, g0.1, g0', c0, w2, k1, k2, k3, k5]
  generalize hx : loopC _ _ _ = x
  generalize hl : lp Tryz.f169 0 = L at hx
  simp only [lp, bodyOf, Tryz.f169, Option.getD_some, loopsIn, List.append_nil, List.nil_append, List.cons_append, List.getD, List.getElem?_cons_zero, List.getElem?_cons_succ] at hl
  subst hl
  obtain ⟨qq, rfl, hqq⟩ := loop_end hx (p) (fun i s => ∃ g, s = ⟨[(3, .d (ints l)), (4, .ptr 64 1 0), (5, .ptr 80 2 0), (6, .ptr 96 3 0), (9, .d (.int .i64 ((l.length : Int) - 1))), (10, .d (.int .i64 (sdA T U V l i))), (11, .d (.int .i64 (sgn i))), (12, .d (.int .i64 i))], [(64, some (1, .box [.d (intss T)])), (80, some (2, .box [.d (.int .i64 M), .d (ints U)])), (96, some (3, .box [.d (.int .i64 D), .d (ints V)]))], g⟩)
    (fun qq => ∃ s, qq = (.exit 0, s) ∧ lookL s.env 3 = some (.d (ints l)) ∧ lookL s.env 4 = some (.ptr 64 1 0) ∧ lookL s.env 5 = some (.ptr 80 2 0) ∧ lookL s.env 6 = some (.ptr 96 3 0) ∧ lookL s.env 9 = some (.d (.int .i64 ((l.length : Int) - 1))) ∧ lookL s.env 10 = some (.d (.int .i64 (sdA T U V l (p)))) ∧ lookL s.env 11 = some (.d (.int .i64 (sgn (p)))) ∧ lookL s.env 12 = some (.d (.int .i64 (p))) ∧ obsL s.obs 64 = some (1, .box [.d (intss T)]) ∧ obsL s.obs 80 = some (2, .box [.d (.int .i64 M), .d (ints U)]) ∧ obsL s.obs 96 = some (3, .box [.d (.int .i64 D), .d (ints V)]))
    (by show p < m; omega) (by
      simp -implicitDefEqProofs (maxSteps := 3000000) [sdA, sgn])
    (by
      rintro i s hi ⟨g, rfl⟩
      have w3 := wrap_id (n := (i : Int) + 1) (by omega)
      have w4 := wrap_id (n := (i : Int) + 2) (by omega)
      have q1 : (i : Int) < (l.length : Int) - 1 := by omega
      have q2 : i ≤ l.length := by omega
      have q3 : i < l.length := by omega
      have q4 : ((i : Int) + 1).toNat = i + 1 := by omega
      have q5 : i + 1 < l.length := by omega
      have q6 : ((i : Int) + 2).toNat = i + 2 := by omega
      have q7 : (i : Int) + 2 ≤ l.length := by omega
      have q8 : (0 : Int) ≤ (i : Int) + 1 := by omega
      have q9 : (0 : Int) ≤ (i : Int) + 2 := by omega
      have ga := hg i (by omega)
      have gb := hg (i + 1) (by omega)
      have ga' : (rn l i).toNat < T.length := by omega
      have gb' : (rn l (i + 1)).toNat < T.length := by omega
      have gl := (R.2 _ ga').1
      have c1 := ct_l01Own m (by omega) (l.take i) (by simp; omega)
      have c2 := ct_l03At m (by omega) T hT D V (mrg T l i) (by rw [mrg_len _ _ _ (by omega)]; omega) (by rw [mrg_len _ _ _ (by omega), hl]; exact hV) (mrg_inG R hg (by omega))
      have b1 := bd i
      have b2 := sgn_mul i (atv_bd (N := T.length) (l := mrg T l i) (by omega) bV)
      have w5 := wrap_id (n := sgn i * atv T.length V (mrg T l i)) (by omega)
      have w6 := wrap_id (n := sdA T U V l i + sgn i * atv T.length V (mrg T l i)) (by omega)
      have s1 := sgn_bd i
      have w7 : IntKind.wrap .i64 (-sgn i) = sgn (i + 1) := by rw [wrap_id (n := -sgn i) (by omega)]; have := sgn_succ i; omega
      have s2 := sgn_succ i
      have k4 : (l.drop (i + 2)).take (l.length - (i + 2)) = l.drop (i + 2) := take_drop_all l (i + 2)
      have u0 : i ≤ bound := by simp -implicitDefEqProofs (maxSteps := 3000000) [bound]; omega
      have u1 : i + 1 ≤ bound := by simp -implicitDefEqProofs (maxSteps := 3000000) [bound]; omega
      have u1' : i < bound := by simp -implicitDefEqProofs (maxSteps := 3000000) [bound]; omega
      have u2 : i + 1 + (l.length - (i + 2)) ≤ bound := by simp -implicitDefEqProofs (maxSteps := 3000000) [bound]; omega
      have u3 : i + (l.length - (i + 2) + 1) ≤ bound := by simp -implicitDefEqProofs (maxSteps := 3000000) [bound]; omega
      simp only [mrg] at c2 w5 w6
      simp -implicitDefEqProofs (maxSteps := 3000000) [q1, q2, q3, q4, q5, q6, q7, q8, q9, w3, w4, ga.1, ga', gb.1, gb', gl, c1, c2, w5, w6, w7, s2, k4, sdA, mrg, u0, u1, u1', u2, u3])
    (by
      rintro s ⟨g, rfl⟩
      have q1 : ¬ ((p : Int) < (l.length : Int) - 1) := by omega
      simp -implicitDefEqProofs (maxSteps := 3000000) [q1])
  obtain ⟨s, rfl, hf⟩ := hqq
  have hp1 : l.length - 1 = p := by omega
  have c3 := ct_l03At m (by omega) T hT D V (l.take p) (by simp; omega) (by simp -implicitDefEqProofs (maxSteps := 3000000) [hl]; exact hV) (inG_take hg p)
  have b1 := bd p
  have b2 := sgn_mul p (atv_bd (N := T.length) (l := l.take p) (by omega) bV)
  have w5 := wrap_id (n := sgn p * atv T.length V (l.take p)) (by omega)
  have w6 := wrap_id (n := sdA T U V l p + sgn p * atv T.length V (l.take p)) (by omega)
  have c4 := ct_l01Mod m (by omega) (sdA T U V l p + sgn p * atv T.length V (l.take p)) M (by omega) (by omega)
  have z1 : ((l.length : Int) - 1).toNat = p := by omega
  have z2 : (0 : Int) ≤ (l.length : Int) - 1 := by omega
  have z3 : (l.length : Int) - 1 ≤ l.length := by omega
  have z4 : (1 : Int) ≤ l.length := by omega
  simp -implicitDefEqProofs (maxSteps := 3000000) [hf, c3, w5, w6, c4, sideV, hp1, z1, z2, z3, z4]
theorem ct_boundaryAt (n : Nat) (hn : B + 4 ≤ n) (T : List (List Int)) (M : Int) (U : List Int) (D : Int) (V l : List Int) (p : Nat) (S : SideOk T U V l p) :
    evalCall Tryz.prog An n 173 [.agg [.d (intss T)], .agg [.d (.int .i64 M), .d (ints U)], .agg [.d (.int .i64 D), .d (ints V)], .d (ints l)] [] = some ⟨.d (.int .i64 (sideV T U V l)), [], []⟩ := by
  obtain ⟨m, rfl⟩ : ∃ m, n = m + 1 := ⟨n - 1, by omega⟩
  have hB := B_eq
  simp only [evalCall_at, fb173, bnd_some, bodyOf, Tryz.f173, Option.getD_some]
  generalize hb0 : Code.loop _ = cc0
  obtain rfl : cc0 = .loop (lp Tryz.f173 0) := by rw [← hb0]; rfl
  clear hb0
  obtain ⟨R, e0, hU, bU, hV, bV, hl, hp, hg⟩ := S
  have hT := R.1
  have w1 := wrap_id (n := (l.length : Int) - 1) (by omega)
  have h0 : 0 < l.length := by omega
  have g0 := hg 0 (by omega)
  have g0' : (rn l 0).toNat < U.length := by omega
  have c0 := ct_at m (by omega) T hT D V (l.drop 1) (by simp; omega) (by simp -implicitDefEqProofs (maxSteps := 3000000) [hl]; exact hV) (inG_drop hg 1)
  have bd := fun k => sdA_bd (T := T) (U := U) (V := V) l bU bV k
  have bd0 := bd 0
  simp only [sdA] at bd0
  have w2 := wrap_id (n := rn U (rn l 0).toNat * atv T.length V (l.drop 1)) (by omega)
  have k1 : (1 : Int) ≤ l.length := by omega
  have k2 : (l.drop 1).take (l.length - 1) = l.drop 1 := take_drop_all l 1
  have k3 : ((l.length : Int)).toNat - 1 = l.length - 1 := by omega
  simp only [List.drop_one] at c0 w2 k2
  have k5 : l.tail.take p = l.tail := by rw [← k2, hl, Nat.add_sub_cancel, List.take_take, Nat.min_self]
  simp -implicitDefEqProofs (maxSteps := 3000000) [w1, h0, g0.1, g0', c0, w2, k1, k2, k3, k5]
  generalize hx : loopC _ _ _ = x
  generalize hl : lp Tryz.f173 0 = L at hx
  simp only [lp, bodyOf, Tryz.f173, Option.getD_some, loopsIn, List.append_nil, List.nil_append, List.cons_append, List.getD, List.getElem?_cons_zero, List.getElem?_cons_succ] at hl
  subst hl
  obtain ⟨qq, rfl, hqq⟩ := loop_end hx (p) (fun i s => ∃ g, s = ⟨[(3, .d (ints l)), (4, .ptr 64 1 0), (6, .ptr 96 3 0), (9, .d (.int .i64 ((l.length : Int) - 1))), (10, .d (.int .i64 (sdA T U V l i))), (11, .d (.int .i64 (sgn i))), (30, .d (.int .i64 ((l.length : Int) - 1))), (31, .d (.int .i64 i))], [(64, some (1, .box [.d (intss T)])), (96, some (3, .box [.d (.int .i64 D), .d (ints V)]))], g⟩)
    (fun qq => ∃ s, qq = (.exit 0, s) ∧ lookL s.env 3 = some (.d (ints l)) ∧ lookL s.env 4 = some (.ptr 64 1 0) ∧ lookL s.env 6 = some (.ptr 96 3 0) ∧ lookL s.env 9 = some (.d (.int .i64 ((l.length : Int) - 1))) ∧ lookL s.env 10 = some (.d (.int .i64 (sdA T U V l (p)))) ∧ lookL s.env 11 = some (.d (.int .i64 (sgn (p)))) ∧ lookL s.env 30 = some (.d (.int .i64 ((l.length : Int) - 1))) ∧ lookL s.env 31 = some (.d (.int .i64 (p))) ∧ obsL s.obs 64 = some (1, .box [.d (intss T)]) ∧ obsL s.obs 96 = some (3, .box [.d (.int .i64 D), .d (ints V)]))
    (by show p < m; omega) (by
      simp -implicitDefEqProofs (maxSteps := 3000000) [sdA, sgn])
    (by
      rintro i s hi ⟨g, rfl⟩
      have w3 := wrap_id (n := (i : Int) + 1) (by omega)
      have w4 := wrap_id (n := (i : Int) + 2) (by omega)
      have q1 : (i : Int) < (l.length : Int) - 1 := by omega
      have q2 : i ≤ l.length := by omega
      have q3 : i < l.length := by omega
      have q4 : ((i : Int) + 1).toNat = i + 1 := by omega
      have q5 : i + 1 < l.length := by omega
      have q6 : ((i : Int) + 2).toNat = i + 2 := by omega
      have q7 : (i : Int) + 2 ≤ l.length := by omega
      have q8 : (0 : Int) ≤ (i : Int) + 1 := by omega
      have q9 : (0 : Int) ≤ (i : Int) + 2 := by omega
      have ga := hg i (by omega)
      have gb := hg (i + 1) (by omega)
      have ga' : (rn l i).toNat < T.length := by omega
      have gb' : (rn l (i + 1)).toNat < T.length := by omega
      have c1 := ct_times2 m (by omega) T R (rn l i).toNat (rn l (i + 1)).toNat ga' gb' (e0 _ ga')
      rw [Int.toNat_of_nonneg ga.1, Int.toNat_of_nonneg gb.1] at c1
      have c2 := ct_at m (by omega) T hT D V (mrg T l i) (by rw [mrg_len _ _ _ (by omega)]; omega) (by rw [mrg_len _ _ _ (by omega), hl]; exact hV) (mrg_inG R hg (by omega))
      have b1 := bd i
      have b2 := sgn_mul i (atv_bd (N := T.length) (l := mrg T l i) (by omega) bV)
      have w5 := wrap_id (n := sgn i * atv T.length V (mrg T l i)) (by omega)
      have w6 := wrap_id (n := sdA T U V l i + sgn i * atv T.length V (mrg T l i)) (by omega)
      have s1 := sgn_bd i
      have w7 : IntKind.wrap .i64 (-sgn i) = sgn (i + 1) := by rw [wrap_id (n := -sgn i) (by omega)]; have := sgn_succ i; omega
      have s2 := sgn_succ i
      have k4 : (l.drop (i + 2)).take (l.length - (i + 2)) = l.drop (i + 2) := take_drop_all l (i + 2)
      have u0 : i ≤ bound := by simp -implicitDefEqProofs (maxSteps := 3000000) [bound]; omega
      have u1 : i + 1 ≤ bound := by simp -implicitDefEqProofs (maxSteps := 3000000) [bound]; omega
      have u1' : i < bound := by simp -implicitDefEqProofs (maxSteps := 3000000) [bound]; omega
      have u2 : i + 1 + (l.length - (i + 2)) ≤ bound := by simp -implicitDefEqProofs (maxSteps := 3000000) [bound]; omega
      have u3 : i + (l.length - (i + 2) + 1) ≤ bound := by simp -implicitDefEqProofs (maxSteps := 3000000) [bound]; omega
      simp only [mrg] at c2 w5 w6
      simp -implicitDefEqProofs (maxSteps := 3000000) [q1, q2, q3, q4, q5, q6, q7, q8, q9, w3, w4, ga.1, ga', gb.1, gb', c1, c2, w5, w6, w7, s2, k4, sdA, mrg, u0, u1, u1', u2, u3])
    (by
      rintro s ⟨g, rfl⟩
      have q1 : ¬ ((p : Int) < (l.length : Int) - 1) := by omega
      simp -implicitDefEqProofs (maxSteps := 3000000) [q1])
  obtain ⟨s, rfl, hf⟩ := hqq
  have hp1 : l.length - 1 = p := by omega
  have c3 := ct_at m (by omega) T hT D V (l.take p) (by simp; omega) (by simp -implicitDefEqProofs (maxSteps := 3000000) [hl]; exact hV) (inG_take hg p)
  have b1 := bd p
  have b2 := sgn_mul p (atv_bd (N := T.length) (l := l.take p) (by omega) bV)
  have w5 := wrap_id (n := sgn p * atv T.length V (l.take p)) (by omega)
  have w6 := wrap_id (n := sdA T U V l p + sgn p * atv T.length V (l.take p)) (by omega)
  have z1 : ((l.length : Int) - 1).toNat = p := by omega
  have z2 : (0 : Int) ≤ (l.length : Int) - 1 := by omega
  have z3 : (l.length : Int) - 1 ≤ l.length := by omega
  have z4 : (1 : Int) ≤ l.length := by omega
  simp -implicitDefEqProofs (maxSteps := 3000000) [hf, c3, w5, w6, sideV, hp1, z1, z2, z3, z4]
end Go.Proofs.YtnfhglplafmfiaaGreatE
