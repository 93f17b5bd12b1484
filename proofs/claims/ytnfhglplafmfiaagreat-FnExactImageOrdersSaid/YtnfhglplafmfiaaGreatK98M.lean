/- Contracts of functions of the program and of the reference: what the evaluator gives for a call of each. -/
import Derived.Test.YtnfhglplafmfiaaGreatAEf
import Derived.Test.YtnfhglplafmfiaaGreatK1M
import Derived.Test.YtnfhglplafmfiaaGreatK3M
import Derived.Test.YtnfhglplafmfiaaGreatK15
import Derived.Test.YtnfhglplafmfiaaGreatK17
import Derived.Test.YtnfhglplafmfiaaGreatK90M
import Derived.Test.YtnfhglplafmfiaaGreatK91
import Derived.Test.YtnfhglplafmfiaaGreatK92
import Derived.Test.YtnfhglplafmfiaaGreatK94
namespace Go.Proofs.YtnfhglplafmfiaaGreatE
open Go Go.Proofs
set_option maxHeartbeats 16000000
set_option maxRecDepth 8000
set_option linter.unusedSimpArgs false
set_option linter.unusedVariables false
set_option pp.deepTerms false
set_option pp.deepTerms.threshold 10
/-! ## what bounds -/
/-- The numbers of the rows of a list. -/
def GL (L : List (List Int)) (g : Nat → Int) : Prop := ∃ v ∈ L, g = rn v
theorem sp_ins {M : Int} {R R' L : List (List Int)} {v : List Int} (h1 : ∀ u, Sp M (GR R 0) u ↔ Sp M (GL L) u) (h2 : ∀ u, Sp M (GR R' 0) u ↔ Sp M (GA R [v] 0) u) (u : Nat → Int) : Sp M (GR R' 0) u ↔ Sp M (GL (L ++ [v])) u := by
  rw [h2]
  constructor
  · intro h
    refine h.trans fun g hg => ?_
    rcases hg with hg | ⟨w, hw, _, rfl⟩
    · exact ((h1 g).1 (.gen hg)).mono fun g ⟨w, hw, e⟩ => ⟨w, by simp -implicitDefEqProofs (maxSteps := 3000000) [hw], e⟩
    · obtain rfl : w = v := by simpa using hw
      exact .gen ⟨w, by simp, rfl⟩
  · intro h
    refine h.trans fun g hg => ?_
    obtain ⟨w, hw, rfl⟩ := hg
    rcases List.mem_append.1 hw with hw | hw
    · exact ((h1 _).2 (.gen ⟨w, hw, rfl⟩)).mono fun g hg => .inl hg
    · obtain rfl : w = v := by simpa using hw
      exact .gen (.inr ⟨w, by simp, fun i hi => by omega, rfl⟩)
theorem rown_rep (n j : Nat) : rown (List.replicate n []) j = [] := by
  rcases Nat.lt_or_ge j n with z | z
  · simp -implicitDefEqProofs (maxSteps := 3000000) [rown, List.getD, z]
  · simp -implicitDefEqProofs (maxSteps := 3000000) [rown, List.getD, z]
theorem sat_new (M : Int) (N : Nat) : Sat M N (List.replicate N []) [] :=
  ⟨⟨by simp, fun j h => absurd (rown_rep N j) h⟩, fun v hv => by simp -implicitDefEqProofs (maxSteps := 3000000) at hv, fun j h => absurd (rown_rep N j) h⟩
theorem sp_new (M : Int) (N : Nat) (u : Nat → Int) : Sp M (GR (List.replicate N []) 0) u ↔ Sp M (GL []) u :=
  ⟨fun h => h.mono fun g ⟨j, _, h, _⟩ => absurd (rown_rep N j) h, fun h => h.mono fun g ⟨v, hv, _⟩ => by simp -implicitDefEqProofs (maxSteps := 3000000) at hv⟩
/-- A place's row: 1 there, 0 elsewhere. -/
def uni (n i : Nat) : List Int := (List.replicate n (0 : Int)).set i 1
@[simp] theorem uni_len (n i : Nat) : (uni n i).length = n := by simp -implicitDefEqProofs (maxSteps := 3000000) [uni]
theorem uni_get (n i k : Nat) : rn (uni n i) k = if k = i ∧ i < n then 1 else 0 := by
  by_cases h : i = k
  · subst h
    by_cases h2 : i < n
    · simp -implicitDefEqProofs (maxSteps := 3000000) [uni, rn, List.getD, h2]
    · simp -implicitDefEqProofs (maxSteps := 3000000) [uni, rn, List.getD, h2]
  · rw [if_neg (by omega)]
    have := rn_zeros n k
    simp only [uni, rn, List.getD_eq_getElem?_getD, List.getElem?_set_ne h] at this ⊢
    exact this
theorem uni_co {T : List (List Int)} {U : List Int} {p i : Nat} (R : RowsOk T) (e0 : ∀ a < T.length, cl T 0 a = a) (hU : U.length = T.length) (bU : ∀ i < U.length, 0 ≤ rn U i ∧ rn U i ≤ 11) (hp : p ≤ 3) : CoOk T U (uni ((T.length - 1) ^ p) i) p :=
  ⟨R, e0, hU, bU, by
    have := R.1
    rw [uni_len]
    have e : ((T.length - 1 : Nat) : Int) = (T.length : Int) - 1 := by omega
    rw [← e]; simp, fun k _ => by rw [uni_get]; split <;> omega, hp⟩
theorem bndL_vec {T : List (List Int)} {M : Int} (hM : 0 < M) (U V : List Int) (p : Nat) : Vec M ((T.length - 1) ^ (p + 1)) (bndL T M U V p) := by
  refine ⟨by simp -implicitDefEqProofs (maxSteps := 3000000) [bndL], fun i => ?_⟩
  rcases Nat.lt_or_ge i ((T.length - 1) ^ (p + 1)) with z | z
  · rw [bndL, rn_tabI _ z]; exact ⟨Int.emod_nonneg _ (by omega), Int.emod_lt_of_pos _ hM⟩
  · rw [rn_ge (by simpa [bndL] using z)]; omega
/-- The boundaries of the places' rows, the first k ones. -/
noncomputable def bds (T : List (List Int)) (M : Int) (U : List Int) (p k : Nat) : List (List Int) := (List.range k).map fun i => bndL T M U (uni ((T.length - 1) ^ p) i) p
theorem bds_succ (T : List (List Int)) (M : Int) (U : List Int) (p k : Nat) : bds T M U p (k + 1) = bds T M U p k ++ [bndL T M U (uni ((T.length - 1) ^ p) k) p] := by simp -implicitDefEqProofs (maxSteps := 3000000) [bds, List.range_succ]
theorem pow_bdN {N p : Nat} (hN : N ≤ 8) (hp : p ≤ 4) : (N - 1) ^ p ≤ 2401 := by
  have h1 : (N - 1) ^ p ≤ 7 ^ p := Nat.pow_le_pow_left (by omega) p
  have h2 : 7 ^ p ≤ 7 ^ 4 := Nat.pow_le_pow_right (by omega) hp
  omega
theorem ct_boundings (n : Nat) (hn : B + 20 ≤ n) (T : List (List Int)) (R0 : RowsOk T) (e0 : ∀ a < T.length, cl T 0 a = a) (M : Int) (hM : 2 ≤ M ∧ M ≤ 12) (U : List Int) (hU : U.length = T.length) (bU : ∀ i < U.length, 0 ≤ rn U i ∧ rn U i ≤ 11) (p : Nat) (hp : p ≤ 3) :
    ∃ R, Sat M ((T.length - 1) ^ p) R [] ∧ (∀ u, Sp M (GR R 0) u ↔ Sp M (GL (if p = 0 then [] else bds T M U (p - 1) ((T.length - 1) ^ (p - 1)))) u) ∧
      evalCall Tryz.prog An n 101 [.agg [.d (intss T)], .agg [.d (.int .i64 M), .d (ints U)], .d (.int .i64 p)] [] = some ⟨.ptr 0 0 0, [spn M R], []⟩ := by
  obtain ⟨m, rfl⟩ : ∃ m, n = m + 1 := ⟨n - 1, by omega⟩
  have hB := B_eq
  simp only [evalCall_at, fb101, bnd_some, bodyOf, Tryz.f101, Option.getD_some]
  generalize hb0 : Code.loop _ = cc0
  obtain rfl : cc0 = .loop (lp Tryz.f101 0) := by rw [← hb0]; rfl
  clear hb0
  have hT := R0.1
  have eN : (T.length : Int) - 1 = ((T.length - 1 : Nat) : Int) := by omega
  have c1 := ct_cells4 m (by omega) T hT p (by omega)
  rw [eN, ← Int.natCast_pow] at c1
  have hb := pow_bdN (N := T.length) (p := p) hT.2 (by omega)
  have c2 := ct_newSpan m (by omega) M ((T.length - 1) ^ p) (by omega)
  rcases Nat.eq_zero_or_pos p with h0 | h0
  · subst h0
    refine ⟨_, sat_new M _, sp_new M _, ?_⟩
    simp -implicitDefEqProofs (maxSteps := 3000000) at c1 c2
    simp -implicitDefEqProofs (maxSteps := 3000000) [c1, c2]
  · obtain ⟨p, rfl⟩ : ∃ q, p = q + 1 := ⟨p - 1, by omega⟩
    rw [if_neg (by omega), Nat.add_sub_cancel]
    have w1 := wrap_id (n := (p : Int)) (by omega)
    have c3 := ct_cells4 m (by omega) T hT p (by omega)
    have c4 := ct_zero m (by omega) T hT p (by omega)
    rw [eN, ← Int.natCast_pow] at c3
    have hb2 := pow_bdN (N := T.length) (p := p) hT.2 (by omega)
    have hpp : ¬ ((p : Int) + 1 = 0) := by omega
    have hpq : (((p : Int) + 1) == 0) = false := by simpa using hpp
    rw [show ((p + 1 : Nat) : Int) = (p : Int) + 1 by simp] at c1 ⊢
    generalize hQ : (T.length - 1) ^ p = Q at *
    generalize hP : (T.length - 1) ^ (p + 1) = P at *
    simp -implicitDefEqProofs (maxSteps := 3000000) [c1, c2, hpp, hpq, w1, c3]
    generalize hx : loopC _ _ _ = z
    generalize hl : lp Tryz.f101 0 = L at hx
    simp only [lp, bodyOf, Tryz.f101, Option.getD_some, loopsIn, List.append_nil, List.nil_append, List.cons_append, List.getD, List.getElem?_cons_zero, List.getElem?_cons_succ] at hl
    subst hl
    obtain ⟨qq, rfl, s, R, hqq⟩ := loop_end hx Q (fun i s => ∃ g c R, (Sat M P R [] ∧ ∀ u, Sp M (GR R 0) u ↔ Sp M (GL (bds T M U p i)) u) ∧ s = ⟨[(2, .d (.int .i64 ((p : Int) + 1))), (3, .ptr 48 1 0), (4, .ptr 64 2 0), (7, .ptr 240 c 0), (22, .d (.int .i64 (Q : Int))), (23, .d (.int .i64 (i : Int)))], [(48, some (1, .box [.d (intss T)])), (64, some (2, .box [.d (.int .i64 M), .d (ints U)])), (240, some (c, spn M R))], g⟩)
      (fun qq => ∃ s R, qq = (.exit 0, s) ∧ (Sat M P R [] ∧ ∀ u, Sp M (GR R 0) u ↔ Sp M (GL (bds T M U p Q)) u) ∧ ∃ c, lookL s.env 7 = some (.ptr 240 c 0) ∧ obsL s.obs 240 = some (c, spn M R))
      (by show Q < m; omega) ⟨_, _, List.replicate P [], ⟨sat_new M _, sp_new M _⟩, by simp; exact ⟨rfl, rfl⟩⟩
      (by
        rintro i s hi ⟨g, c, R, ⟨S, hS⟩, rfl⟩
        have w2 := wrap_id (n := (i : Int) + 1) (by omega)
        have hco : CoOk T U (uni Q i) p := hQ ▸ uni_co R0 e0 hU bU (by omega)
        have c5 := ct_boundary m (by omega) T M (by omega) U (uni Q i) p hco
        have hv : Vec M P (bndL T M U (uni Q i) p) := hP ▸ bndL_vec (by omega) U _ p
        obtain ⟨R', S', hS', c6⟩ := ct_put m (by omega) M hM P (by omega) R S _ hv
        have hs := bds_succ T M U p i
        rw [hQ] at hs
        have hS2 := sp_ins hS hS'
        rw [← hs] at hS2
        have hu : (List.replicate Q (0 : Int)).set i 1 = uni Q i := rfl
        simp -implicitDefEqProofs (maxSteps := 3000000) [hi, w1, w2, c4, c5, hu, c6]
        exact ⟨_, _, R', ⟨S', hS2⟩, rfl, ⟨rfl, rfl⟩, rfl⟩)
      (by
        rintro s ⟨g, c, R, h, rfl⟩
        simp -implicitDefEqProofs (maxSteps := 3000000)
        exact ⟨R, h, rfl⟩)
    obtain ⟨rfl, ⟨h1, h2⟩, c, h3⟩ := hqq
    refine ⟨R, h1, h2, ?_⟩
    simp -implicitDefEqProofs (maxSteps := 3000000) [h3]
end Go.Proofs.YtnfhglplafmfiaaGreatE

namespace Go.Proofs.YtnfhglplafmfiaaGreatE
open Go Go.Proofs
set_option maxHeartbeats 16000000
set_option maxRecDepth 8000
set_option linter.unusedSimpArgs false
set_option linter.unusedVariables false
set_option pp.deepTerms false
set_option pp.deepTerms.threshold 10
/-! ## two rows side by side -/
theorem ct_Grow0 (n : Nat) (hn : B + 1 ≤ n) (K : Nat) (hK : 1 ≤ K ∧ K ≤ 10000000) :
    evalCall Tryz.prog An n 243 [.d .nil, .d (.int .i64 K)] [] = some ⟨.own 0 0, [.row []], []⟩ := by
  obtain ⟨m, rfl⟩ : ∃ m, n = m + 1 := ⟨n - 1, by omega⟩
  have hB := B_eq
  simp only [evalCall_at, fb243, bnd_some, bodyOf, Tryz.f243, Option.getD_some]
  have h1 : ¬ ((K : Int) < 0) := by omega
  have w1 := wrap_id (n := (K : Int)) (by omega)
  have h2 : (0 : Int) < K := by omega
  have h3 : (K : Int) ≤ 1099511627776 := by omega
  have h4 : ¬ K = 0 := by omega
  have h5 : K ≤ bound := by simp -implicitDefEqProofs (maxSteps := 3000000) [bound]; omega
  have w0 := wrap_id (n := 0) (by omega)
  have h6 : 0 < K := by omega
  simp -implicitDefEqProofs (maxSteps := 3000000) [h1, w0, w1, h2, h3, h4, h5, h6]
theorem ct_Concat2 (n : Nat) (hn : B + 2 ≤ n) (a b : List Int) (hl : 1 ≤ a.length + b.length ∧ a.length + b.length ≤ 10000000) :
    evalCall Tryz.prog An n 227 [.d (.sl 1 [ints a, ints b])] [] = some ⟨.own 0 0, [.row (icells (a ++ b))], []⟩ := by
  obtain ⟨m, rfl⟩ : ∃ m, n = m + 1 := ⟨n - 1, by omega⟩
  have hB := B_eq
  simp only [evalCall_at, fb227, bnd_some, bodyOf, Tryz.f227, Option.getD_some]
  generalize hb0 : Code.loop _ = cc0
  generalize hb1 : Code.loop _ = cc1
  obtain rfl : cc0 = .loop (lp Tryz.f227 0) := by rw [← hb0]; rfl
  clear hb0
  obtain rfl : cc1 = .loop (lp Tryz.f227 1) := by rw [← hb1]; rfl
  clear hb1
  have c1 := ct_Grow0 m (by omega) (a.length + b.length) (by omega)
  have w1 := wrap_id (n := (a.length : Int)) (by omega)
  have w2 := wrap_id (n := (a.length : Int) + b.length) (by omega)
  have r1 := wrap_id (n := (1 : Int)) (by omega)
  have r2 := wrap_id (n := (2 : Int)) (by omega)
  have h1 : ¬ ((a.length : Int) < 0) := by omega
  have h2 : ¬ ((a.length : Int) + b.length < 0) := by omega
  simp -implicitDefEqProofs (maxSteps := 3000000)
  generalize hx : loopC _ _ _ = z
  generalize hl : lp Tryz.f227 0 = L at hx
  simp only [lp, bodyOf, Tryz.f227, Option.getD_some, loopsIn, List.append_nil, List.nil_append, List.cons_append, List.getD, List.getElem?_cons_zero, List.getElem?_cons_succ] at hl
  subst hl
  obtain ⟨qq, rfl, s, hqq⟩ := loop_end hx 2 (fun i s => ∃ g, s = ⟨[(0, .d (.sl 1 [ints a, ints b])), (3, .d (.int .i64 (if i = 0 then 0 else if i = 1 then (a.length : Int) else (a.length : Int) + b.length))), (9, .d (.sl 1 [ints a, ints b])), (10, .d (.int .i64 2)), (11, .d (.int .i64 (i : Int)))], [], g⟩)
    (fun qq => ∃ s, qq = (.exit 0, s) ∧ lookL s.env 0 = some (.d (.sl 1 [ints a, ints b])) ∧ lookL s.env 3 = some (.d (.int .i64 ((a.length : Int) + b.length))) ∧ obsL s.obs 385 = none ∧ obsL s.obs 386 = none ∧ obsL s.obs 387 = none ∧ obsL s.obs 528 = none)
    (by show 2 < m; omega) (by simp -implicitDefEqProofs (maxSteps := 3000000))
    (by
      rintro i s hi ⟨g, rfl⟩
      obtain rfl | rfl : i = 0 ∨ i = 1 := by omega
      · simp -implicitDefEqProofs (maxSteps := 3000000) [w1, h1, r1]
      · simp -implicitDefEqProofs (maxSteps := 3000000) [w2, h2, r2])
    (by
      rintro s ⟨g, rfl⟩
      simp -implicitDefEqProofs (maxSteps := 3000000))
  obtain ⟨rfl, h3, h4, k1, k2, k3, k4⟩ := hqq
  rw [show ((a.length + b.length : Nat) : Int) = (a.length : Int) + b.length by simp] at c1
  simp -implicitDefEqProofs (maxSteps := 3000000) [h3, h4, c1]
  generalize hx : loopC _ _ _ = z
  generalize hl : lp Tryz.f227 1 = L at hx
  simp only [lp, bodyOf, Tryz.f227, Option.getD_some, loopsIn, List.append_nil, List.nil_append, List.cons_append, List.getD, List.getElem?_cons_zero, List.getElem?_cons_succ] at hl
  subst hl
  have hb0 : a.length ≤ bound := by simp -implicitDefEqProofs (maxSteps := 3000000) [bound]; omega
  have hb1 : a.length + b.length ≤ bound := by simp -implicitDefEqProofs (maxSteps := 3000000) [bound]; omega
  obtain ⟨qq, rfl, s, hqq⟩ := loop_end hx 2 (fun i s => ∃ g v, s = ⟨[(6, .own 384 v), (25, .d (.sl 1 [ints a, ints b])), (26, .d (.int .i64 2)), (27, .d (.int .i64 (i : Int)))], [(384, some (v, .row (icells (if i = 0 then [] else if i = 1 then a else a ++ b))))], g⟩)
    (fun qq => ∃ s, qq = (.exit 2, s) ∧ ∃ v, lookL s.env 6 = some (.own 384 v) ∧ obsL s.obs 384 = some (v, .row (icells (a ++ b))))
    (by show 2 < m; omega) (by simp -implicitDefEqProofs (maxSteps := 3000000) [k1, k2, k3, k4])
    (by
      rintro i s hi ⟨g, v, rfl⟩
      obtain rfl | rfl : i = 0 ∨ i = 1 := by omega
      · simp -implicitDefEqProofs (maxSteps := 3000000) [hb0, r1]
      · simp -implicitDefEqProofs (maxSteps := 3000000) [hb1, r2])
    (by
      rintro s ⟨g, v, rfl⟩
      simp -implicitDefEqProofs (maxSteps := 3000000))
  obtain ⟨rfl, v, h5, h6⟩ := hqq
  simp -implicitDefEqProofs (maxSteps := 3000000) [h5, h6]
/-- A boundary and its place's row. -/
noncomputable def bdU (T : List (List Int)) (M : Int) (U : List Int) (p i : Nat) : List Int := bndL T M U (uni ((T.length - 1) ^ p) i) p ++ uni ((T.length - 1) ^ p) i
noncomputable def bdUs (T : List (List Int)) (M : Int) (U : List Int) (p k : Nat) : List (List Int) := (List.range k).map (bdU T M U p)
theorem bdUs_succ (T : List (List Int)) (M : Int) (U : List Int) (p k : Nat) : bdUs T M U p (k + 1) = bdUs T M U p k ++ [bdU T M U p k] := by simp -implicitDefEqProofs (maxSteps := 3000000) [bdUs, List.range_succ]
theorem bdU_vec {T : List (List Int)} {M : Int} (hM : 2 ≤ M) (U : List Int) (p i : Nat) : Vec M ((T.length - 1) ^ (p + 1) + (T.length - 1) ^ p) (bdU T M U p i) := by
  have h := bndL_vec (T := T) (M := M) (by omega) U (uni ((T.length - 1) ^ p) i) p
  refine ⟨by simp -implicitDefEqProofs (maxSteps := 3000000) [bdU, h.1], fun k => ?_⟩
  have h2 := h.1
  unfold bdU
  rcases Nat.lt_or_ge k ((T.length - 1) ^ (p + 1)) with z | z
  · have : rn (bndL T M U (uni ((T.length - 1) ^ p) i) p ++ uni ((T.length - 1) ^ p) i) k = rn (bndL T M U (uni ((T.length - 1) ^ p) i) p) k := by
      simp only [rn, List.getD_eq_getElem?_getD]; rw [List.getElem?_append_left (by omega)]
    rw [this]; exact h.2 k
  · have : rn (bndL T M U (uni ((T.length - 1) ^ p) i) p ++ uni ((T.length - 1) ^ p) i) k = rn (uni ((T.length - 1) ^ p) i) (k - (T.length - 1) ^ (p + 1)) := by
      simp only [rn, List.getD_eq_getElem?_getD]; rw [List.getElem?_append_right (by omega), h2]
    rw [this, uni_get]; split <;> omega
theorem ct_bounded (n : Nat) (hn : B + 20 ≤ n) (T : List (List Int)) (R0 : RowsOk T) (e0 : ∀ a < T.length, cl T 0 a = a) (M : Int) (hM : 2 ≤ M ∧ M ≤ 12) (U : List Int) (hU : U.length = T.length) (bU : ∀ i < U.length, 0 ≤ rn U i ∧ rn U i ≤ 11) (p : Nat) (hp : p ≤ 3) :
    ∃ R, Sat M ((T.length - 1) ^ (p + 1) + (T.length - 1) ^ p) R [] ∧ (∀ u, Sp M (GR R 0) u ↔ Sp M (GL (bdUs T M U p ((T.length - 1) ^ p))) u) ∧
      evalCall Tryz.prog An n 177 [.agg [.d (intss T)], .agg [.d (.int .i64 M), .d (ints U)], .d (.int .i64 p)] [] = some ⟨.tuple [.ptr 0 0 0, .d (.int .i64 ((T.length - 1) ^ (p + 1) : Nat))], [spn M R], []⟩ := by
  obtain ⟨m, rfl⟩ : ∃ m, n = m + 1 := ⟨n - 1, by omega⟩
  have hB := B_eq
  simp only [evalCall_at, fb177, bnd_some, bodyOf, Tryz.f177, Option.getD_some]
  generalize hb0 : Code.loop _ = cc0
  obtain rfl : cc0 = .loop (lp Tryz.f177 0) := by rw [← hb0]; rfl
  clear hb0
  have hT := R0.1
  have eN : (T.length : Int) - 1 = ((T.length - 1 : Nat) : Int) := by omega
  have c1 := ct_cells4 m (by omega) T hT (p + 1) (by omega)
  have c3 := ct_cells4 m (by omega) T hT p (by omega)
  rw [eN, ← Int.natCast_pow] at c1 c3
  have hb := pow_bdN (N := T.length) (p := p + 1) hT.2 (by omega)
  have hb2 := pow_bdN (N := T.length) (p := p) hT.2 (by omega)
  have c2 := ct_newSpan m (by omega) M ((T.length - 1) ^ (p + 1) + (T.length - 1) ^ p) (by omega)
  have c4 := ct_zero m (by omega) T hT p (by omega)
  have w0 := wrap_id (n := (p : Int) + 1) (by omega)
  rw [show ((p + 1 : Nat) : Int) = (p : Int) + 1 by simp] at c1
  generalize hQ : (T.length - 1) ^ p = Q at *
  generalize hP : (T.length - 1) ^ (p + 1) = P at *
  have w1 := wrap_id (n := (P : Int) + Q) (by omega)
  rw [show ((P + Q : Nat) : Int) = (P : Int) + Q by simp] at c2
  simp -implicitDefEqProofs (maxSteps := 3000000) [c1, c2, c3, w0, w1]
  generalize hx : loopC _ _ _ = z
  generalize hl : lp Tryz.f177 0 = L at hx
  simp only [lp, bodyOf, Tryz.f177, Option.getD_some, loopsIn, List.append_nil, List.nil_append, List.cons_append, List.getD, List.getElem?_cons_zero, List.getElem?_cons_succ] at hl
  subst hl
  obtain ⟨qq, rfl, s, R, hqq⟩ := loop_end hx Q (fun i s => ∃ g c R, (Sat M (P + Q) R [] ∧ ∀ u, Sp M (GR R 0) u ↔ Sp M (GL (bdUs T M U p i)) u) ∧ s = ⟨[(2, .d (.int .i64 (p : Int))), (3, .ptr 48 1 0), (4, .ptr 64 2 0), (8, .d (.int .i64 (P : Int))), (10, .ptr 400 c 0), (26, .d (.int .i64 (Q : Int))), (27, .d (.int .i64 (i : Int)))], [(48, some (1, .box [.d (intss T)])), (64, some (2, .box [.d (.int .i64 M), .d (ints U)])), (400, some (c, spn M R))], g⟩)
    (fun qq => ∃ s R, qq = (.exit 0, s) ∧ (Sat M (P + Q) R [] ∧ ∀ u, Sp M (GR R 0) u ↔ Sp M (GL (bdUs T M U p Q)) u) ∧ (∃ c, lookL s.env 10 = some (.ptr 400 c 0) ∧ obsL s.obs 400 = some (c, spn M R)) ∧ lookL s.env 8 = some (.d (.int .i64 (P : Int))))
    (by show Q < m; omega) ⟨_, _, List.replicate (P + Q) [], ⟨sat_new M _, sp_new M _⟩, by simp; exact ⟨rfl, rfl⟩⟩
    (by
      rintro i s hi ⟨g, c, R, ⟨S, hS⟩, rfl⟩
      have w2 := wrap_id (n := (i : Int) + 1) (by omega)
      have hco : CoOk T U (uni Q i) p := hQ ▸ uni_co R0 e0 hU bU (by omega)
      have c5 := ct_boundary m (by omega) T M (by omega) U (uni Q i) p hco
      have hbl : (bndL T M U (uni Q i) p).length = P := by rw [← hP]; simp -implicitDefEqProofs (maxSteps := 3000000) [bndL]
      have c7 := ct_Concat2 m (by omega) (bndL T M U (uni Q i) p) (uni Q i) (by rw [hbl, uni_len]; omega)
      have hv : Vec M (P + Q) (bndL T M U (uni Q i) p ++ uni Q i) := by
        have := bdU_vec (T := T) (M := M) hM.1 U p i
        unfold bdU at this
        rw [hQ, hP] at this
        exact this
      obtain ⟨R', S', hS', c6⟩ := ct_put m (by omega) M hM (P + Q) (by omega) R S _ hv
      have hs := bdUs_succ T M U p i
      have hS2 := sp_ins hS hS'
      unfold bdU at hs
      rw [hQ] at hs
      rw [← hs] at hS2
      have hu : (List.replicate Q (0 : Int)).set i 1 = uni Q i := rfl
      simp -implicitDefEqProofs (maxSteps := 3000000) [hi, w2, c4, c5, hu, c7, c6]
      exact ⟨_, _, R', ⟨S', hS2⟩, rfl, ⟨rfl, rfl⟩, rfl⟩)
    (by
      rintro s ⟨g, c, R, h, rfl⟩
      simp -implicitDefEqProofs (maxSteps := 3000000)
      exact ⟨R, h, rfl⟩)
  obtain ⟨rfl, ⟨h1, h2⟩, ⟨c, h3, h4⟩, h5⟩ := hqq
  refine ⟨R, h1, h2, ?_⟩
  simp -implicitDefEqProofs (maxSteps := 3000000) [h3, h4, h5]
end Go.Proofs.YtnfhglplafmfiaaGreatE
