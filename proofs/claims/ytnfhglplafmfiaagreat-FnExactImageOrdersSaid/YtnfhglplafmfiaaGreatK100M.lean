/- Contracts of functions of the program and of the reference: what the evaluator gives for a call of each. -/
import Derived.Test.YtnfhglplafmfiaaGreatAEf
import Derived.Test.YtnfhglplafmfiaaGreatK1M
import Derived.Test.YtnfhglplafmfiaaGreatK90M
import Derived.Test.YtnfhglplafmfiaaGreatK92
import Derived.Test.YtnfhglplafmfiaaGreatK94
import Derived.Test.YtnfhglplafmfiaaGreatK96
import Derived.Test.YtnfhglplafmfiaaGreatK3M
import Derived.Test.YtnfhglplafmfiaaGreatK98M
namespace Go.Proofs.YtnfhglplafmfiaaGreatE
open Go Go.Proofs
set_option maxHeartbeats 16000000
set_option maxRecDepth 8000
set_option linter.unusedSimpArgs false
set_option linter.unusedVariables false
set_option pp.deepTerms false
set_option pp.deepTerms.threshold 10
/-! ## the rows from a place on, and the steps -/
/-- The rows from the place P on, without their first P numbers, as far as the place j. -/
def prt (R : List (List Int)) (P j : Nat) : List (List Int) := (List.range (R.length - P)).map fun i => if i + P < j then (rown R (i + P)).drop P else []
@[simp] theorem prt_len (R : List (List Int)) (P j : Nat) : (prt R P j).length = R.length - P := by simp -implicitDefEqProofs (maxSteps := 3000000) [prt]
theorem rown_map_range (f : Nat → List Int) (n k : Nat) : rown ((List.range n).map f) k = if k < n then f k else [] := by
  by_cases h : k < n
  · simp -implicitDefEqProofs (maxSteps := 3000000) [rown, List.getD, h]
  · simp -implicitDefEqProofs (maxSteps := 3000000) [rown, List.getD, h]
theorem prt_get (R : List (List Int)) (P j k : Nat) : rown (prt R P j) k = if k < R.length - P then (if k + P < j then (rown R (k + P)).drop P else []) else [] := rown_map_range _ _ _
theorem prt_0 (R : List (List Int)) (P : Nat) : List.replicate (R.length - P) [] = prt R P P := by
  apply List.ext_getElem
  · simp -implicitDefEqProofs (maxSteps := 3000000)
  · intro i h1 h2
    simp -implicitDefEqProofs (maxSteps := 3000000) [prt]
    omega
theorem prt_same {R : List (List Int)} {P j : Nat} (h : rown R j = []) : prt R P j = prt R P (j + 1) := by
  unfold prt
  apply List.map_congr_left
  intro i hi
  by_cases e : i + P = j
  · rw [if_neg (by omega), if_pos (by omega), e, h]; simp -implicitDefEqProofs (maxSteps := 3000000)
  · by_cases h2 : i + P < j
    · rw [if_pos h2, if_pos (by omega)]
    · rw [if_neg h2, if_neg (by omega)]
theorem prt_set {R : List (List Int)} {P j : Nat} (hP : P ≤ j) (hj : j < R.length) : (prt R P j).set (j - P) ((rown R j).drop P) = prt R P (j + 1) := by
  apply List.ext_getElem
  · simp -implicitDefEqProofs (maxSteps := 3000000)
  · intro i h1 h2
    simp only [List.length_set, prt_len] at h1
    rw [List.getElem_set]
    by_cases e : j - P = i
    · subst e
      simp -implicitDefEqProofs (maxSteps := 3000000) [prt]
      rw [if_pos (by omega), show j - P + P = j by omega]
    · rw [if_neg e]
      simp only [prt, List.getElem_map, List.getElem_range]
      by_cases h3 : i + P < j
      · rw [if_pos h3, if_pos (by omega)]
      · rw [if_neg h3, if_neg (by omega)]
def plus (P i : Nat) : Nat := P + i
theorem ct_part (n : Nat) (hn : B + 2 ≤ n) (M : Int) (N : Nat) (hN : N ≤ 10000) (R : List (List Int)) (S : Rws M N R) (P : Nat) (hP : P ≤ N) :
    evalCall Tryz.prog An n 178 [.d (spd M R), .d (.int .i64 P)] [] = some ⟨.ptr 0 0 0, [spn M (prt R P N)], []⟩ := by
  obtain ⟨m, rfl⟩ : ∃ m, n = m + 1 := ⟨n - 1, by omega⟩
  have hB := B_eq
  simp only [evalCall_at, fb178, bnd_some, bodyOf, Tryz.f178, Option.getD_some]
  generalize hb0 : Code.loop _ = cc0
  obtain rfl : cc0 = .loop (lp Tryz.f178 0) := by rw [← hb0]; rfl
  clear hb0
  have hl := S.len
  have w1 := wrap_id (n := (N : Int) - P) (by omega)
  have c1 := ct_newSpan m (by omega) M (N - P) (by omega)
  rw [show ((N - P : Nat) : Int) = (N : Int) - P by omega] at c1
  simp -implicitDefEqProofs (maxSteps := 3000000) [hl, w1, c1]
  generalize hx : loopC _ _ _ = z
  generalize hl : lp Tryz.f178 0 = L at hx
  simp only [lp, bodyOf, Tryz.f178, Option.getD_some, loopsIn, List.append_nil, List.nil_append, List.cons_append, List.getD, List.getElem?_cons_zero, List.getElem?_cons_succ] at hl
  subst hl
  have p0 := prt_0 R P
  rw [hl] at p0
  obtain ⟨qq, rfl, s, hqq⟩ := loop_end hx (N - P) (fun i s => ∃ g c, s = ⟨[(0, .d (spd M R)), (1, .d (.int .i64 (P : Int))), (5, .ptr 288 c 0), (6, .d (.int .i64 ((plus P i : Nat) : Int)))], [(288, some (c, spn M (prt R P (plus P i))))], g⟩)
    (fun qq => ∃ s, qq = (.exit 0, s) ∧ ∃ c, lookL s.env 5 = some (.ptr 288 c 0) ∧ obsL s.obs 288 = some (c, spn M (prt R P N)))
    (by show N - P < m; omega) (by simp -implicitDefEqProofs (maxSteps := 3000000) [p0, show plus P 0 = P from rfl])
    (by
      rintro i s hi ⟨g, c, rfl⟩
      have hJ : plus P i = P + i := rfl
      have e : plus P (i + 1) = plus P i + 1 := rfl
      rw [e]
      generalize plus P i = J at *
      have w2 := wrap_id (n := (J : Int) + 1) (by omega)
      have w3 := wrap_id (n := (J : Int) - P) (by omega)
      have h1 : J < N := by omega
      have h2 : J < R.length := by omega
      have e1 : ((J : Int) - P) = ((J - P : Nat) : Int) := by omega
      have h4 : J - P < N - P := by omega
      by_cases hne : rown R J = []
      · have e := prt_same (P := P) hne
        simp -implicitDefEqProofs (maxSteps := 3000000) [hl, h1, h2, hne, w2, ← e]
      · obtain ⟨hv, _⟩ := S.row J hne
        have hp := pinD_ne hne
        have hlp : 0 < (rown R J).length := by rw [hv.1]; omega
        have hPl : P ≤ (rown R J).length := by rw [hv.1]; omega
        have hdn : (rown R J).drop P ≠ [] := fun z => by
          have := congrArg List.length z
          simp -implicitDefEqProofs (maxSteps := 3000000) [hv.1] at this; omega
        have hs := prt_set (R := R) (P := P) (j := J) (by omega) h2
        have hs2 := pcells_set (R := prt R P J) (k := J - P) hdn
        rw [hs] at hs2
        rw [e1] at w3
        simp -implicitDefEqProofs (maxSteps := 3000000) [hl, h1, h2, hne, hp, hlp, hPl, e1, w2, w3, h4, hs2]
        rw [List.take_of_length_le (by simp -implicitDefEqProofs (maxSteps := 3000000)), hs2])
    (by
      rintro s ⟨g, c, rfl⟩
      rw [show plus P (N - P) = N by unfold plus; omega]
      simp -implicitDefEqProofs (maxSteps := 3000000) [hl])
  obtain ⟨rfl, c, h3, h4⟩ := hqq
  simp -implicitDefEqProofs (maxSteps := 3000000) [h3, h4]
/-- The steps, in reverse: how many multiples each row has. -/
def stpL (M : Int) (R : List (List Int)) (k : Nat) : List Int := (List.range k).map fun j => if rown R j = [] then 1 else M / rn (rown R j) j
theorem stpL_succ (M : Int) (R : List (List Int)) (k : Nat) : stpL M R (k + 1) = stpL M R k ++ [if rown R k = [] then 1 else M / rn (rown R k) k] := by simp -implicitDefEqProofs (maxSteps := 3000000) [stpL, List.range_succ]
@[simp] theorem stpL_len (M : Int) (R : List (List Int)) (k : Nat) : (stpL M R k).length = k := by simp -implicitDefEqProofs (maxSteps := 3000000) [stpL]
theorem ct_steps (n : Nat) (hn : B + 1 ≤ n) (M : Int) (hM : 2 ≤ M ∧ M ≤ 12) (N : Nat) (hN : N ≤ 10000) (R : List (List Int)) (S : Rws M N R) :
    evalCall Tryz.prog An n 179 [.d (spd M R)] [] = some ⟨.own 0 0, [.row (icells (stpL M R N))], []⟩ := by
  obtain ⟨m, rfl⟩ : ∃ m, n = m + 1 := ⟨n - 1, by omega⟩
  have hB := B_eq
  simp only [evalCall_at, fb179, bnd_some, bodyOf, Tryz.f179, Option.getD_some]
  generalize hb0 : Code.loop _ = cc0
  obtain rfl : cc0 = .loop (lp Tryz.f179 0) := by rw [← hb0]; rfl
  clear hb0
  have hl := S.len
  simp -implicitDefEqProofs (maxSteps := 3000000) [hl]
  generalize hx : loopC _ _ _ = z
  generalize hl : lp Tryz.f179 0 = L at hx
  simp only [lp, bodyOf, Tryz.f179, Option.getD_some, loopsIn, List.append_nil, List.nil_append, List.cons_append, List.getD, List.getElem?_cons_zero, List.getElem?_cons_succ] at hl
  subst hl
  obtain ⟨qq, rfl, s, hqq⟩ := loop_end hx N (fun i s => ∃ g v, s = ⟨[(0, .d (spd M R)), (3, .own 96 v), (10, .d (.sl 1 (pcells R))), (11, .d (.int .i64 (N : Int))), (12, .d (.int .i64 (i : Int)))], [(96, some (v, .row (icells (stpL M R i))))], g⟩)
    (fun qq => ∃ s, qq = (.exit 0, s) ∧ ∃ v, lookL s.env 3 = some (.own 96 v) ∧ obsL s.obs 96 = some (v, .row (icells (stpL M R N))))
    (by show N < m; omega) (by simp -implicitDefEqProofs (maxSteps := 3000000) [stpL])
    (by
      rintro i s hi ⟨g, v, rfl⟩
      have w2 := wrap_id (n := (i : Int) + 1) (by omega)
      have h2 : i < R.length := by omega
      have hs := stpL_succ M R i
      have hb : i + 1 ≤ bound := by simp -implicitDefEqProofs (maxSteps := 3000000) [bound]; omega
      by_cases hne : rown R i = []
      · rw [if_pos hne] at hs
        simp -implicitDefEqProofs (maxSteps := 3000000) [hl, hi, h2, hne, w2, hs, hb]
      · rw [if_neg hne] at hs
        obtain ⟨hv, hz, h0, hd⟩ := S.row i hne
        have hp := pinD_ne hne
        have hi2 : i < (rown R i).length := by rw [hv.1]; omega
        have hlp : 0 < (rown R i).length := by omega
        have hn0 : ¬ rn (rown R i) i = 0 := by omega
        have t1 : M.tdiv (rn (rown R i) i) = M / rn (rown R i) i := Int.tdiv_eq_ediv_of_nonneg (by omega)
        have q1 := ediv_bd (a := M) (d := rn (rown R i) i) (by omega) h0
        have v1 := wrap_sm (x := M / rn (rown R i) i) (by omega)
        simp -implicitDefEqProofs (maxSteps := 3000000) [hl, hi, h2, hne, hp, hi2, hlp, hn0, t1, v1, w2, hs, hb])
    (by
      rintro s ⟨g, v, rfl⟩
      simp -implicitDefEqProofs (maxSteps := 3000000))
  obtain ⟨rfl, v, h3, h4⟩ := hqq
  simp -implicitDefEqProofs (maxSteps := 3000000) [h3, h4]
end Go.Proofs.YtnfhglplafmfiaaGreatE

namespace Go.Proofs.YtnfhglplafmfiaaGreatE
open Go Go.Proofs
set_option maxHeartbeats 16000000
set_option maxRecDepth 8000
set_option linter.unusedSimpArgs false
set_option linter.unusedVariables false
set_option pp.deepTerms false
set_option pp.deepTerms.threshold 10
/-! ## cocycles: the rows behind the boundaries' places -/
theorem prtN_get {M : Int} {N : Nat} {R : List (List Int)} (S : Rws M N R) (P k : Nat) : rown (prt R P N) k = (rown R (k + P)).drop P := by
  rw [prt_get, S.len]
  by_cases h : k < N - P
  · rw [if_pos h, if_pos (by omega)]
  · rw [if_neg h]
    have : rown R (k + P) = [] := by
      have hl := S.len
      simp only [rown, List.getD_eq_getElem?_getD]
      rw [List.getElem?_eq_none (by omega)]; rfl
    rw [this, List.drop_nil]
theorem prtN_ne {M : Int} {N : Nat} {R : List (List Int)} (S : Rws M N R) (P k : Nat) : rown (prt R P N) k ≠ [] ↔ rown R (k + P) ≠ [] := by
  rw [prtN_get S]
  constructor
  · intro h e; exact h (by rw [e, List.drop_nil])
  · intro h e
    have hk := rown_ne_lt h
    have hv := (S.row _ h).1.1
    have hl := S.len
    have := congrArg List.length e
    simp -implicitDefEqProofs (maxSteps := 3000000) [hv] at this; omega
/-- A row with P places of 0 ahead. -/
def shf (P : Nat) (u : Nat → Int) (i : Nat) : Int := if i < P then 0 else u (i - P)
theorem prt_sp {M : Int} {N : Nat} {R : List (List Int)} (S : Rws M N R) (P k : Nat) (u : Nat → Int) : Sp M (GR (prt R P N) k) u ↔ Sp M (GR R (k + P)) (shf P u) := by
  constructor
  · intro h
    refine h.map (shf P) (fun u h => .zero fun i => ?_) (fun u w g x h hg hu => ?_)
    · unfold shf; split
      · exact Int.dvd_zero M
      · exact h _
    · obtain ⟨j, hj, hne, rfl⟩ := hg
      have hne2 := (prtN_ne S P j).1 hne
      have hz := (S.row _ hne2).2.1
      refine .step x ⟨j + P, by omega, hne2, rfl⟩ hu fun i => ?_
      unfold shf
      by_cases hi : i < P
      · rw [if_pos hi, if_pos hi, hz i (by omega)]; simp -implicitDefEqProofs (maxSteps := 3000000)
      · rw [if_neg hi, if_neg hi]
        have := h (i - P)
        rwa [prtN_get S, rn_drop, show P + (i - P) = i by omega] at this
  · intro h
    have key : ∀ v : Nat → Int, Sp M (GR R (k + P)) v → Sp M (GR (prt R P N) k) (fun i => v (i + P)) := by
      intro v hv
      refine hv.map (fun v i => v (i + P)) (fun u h => .zero fun i => h _) (fun u w g x h hg hu => ?_)
      obtain ⟨j, hj, hne, rfl⟩ := hg
      have hne2 : rown (prt R P N) (j - P) ≠ [] := (prtN_ne S P (j - P)).2 (by rw [show j - P + P = j by omega]; exact hne)
      refine .step x ⟨j - P, by omega, hne2, rfl⟩ hu fun i => ?_
      rw [prtN_get S, rn_drop, show j - P + P = j by omega, Nat.add_comm P i]
      exact h _
    refine (key _ h).cong fun i => ?_
    unfold shf
    rw [if_neg (by omega), Nat.add_sub_cancel, Int.sub_self]; exact Int.dvd_zero M
theorem prt_sat {M : Int} {N : Nat} {R : List (List Int)} (S : Sat M N R []) (P : Nat) : Sat M (N - P) (prt R P N) [] := by
  have W := S.rws
  refine ⟨⟨by rw [prt_len, W.len], fun j h => ?_⟩, fun v hv => by simp -implicitDefEqProofs (maxSteps := 3000000) at hv, fun j h => ?_⟩
  · have h2 := (prtN_ne W P j).1 h
    obtain ⟨hv, hz, h0, hd⟩ := W.row _ h2
    have hk := rown_ne_lt h2
    have hl := W.len
    rw [prtN_get W]
    refine ⟨⟨by rw [List.length_drop, hv.1], fun i => by rw [rn_drop]; exact hv.2 _⟩, fun i hi => by rw [rn_drop]; exact hz _ (by omega), ?_, ?_⟩
    · rw [rn_drop, Nat.add_comm P j]; exact h0
    · rw [rn_drop, Nat.add_comm P j]; exact hd
  · have h2 := (prtN_ne W P j).1 h
    have h3 := (S.sat _ h2).mono fun g hg => GA_nil.1 hg
    have hz := (W.row _ h2).2.1
    refine Sp.mono (G := GR (prt R P N) (j + 1)) ?_ fun g hg => GA_nil.2 hg
    rw [prt_sp W]
    rw [show j + 1 + P = j + P + 1 by omega]
    refine h3.cong fun i => ?_
    unfold shf
    show M ∣ (if i < P then 0 else M / rn (rown (prt R P N) j) j * rn (rown (prt R P N) j) (i - P)) - M / rn (rown R (j + P)) (j + P) * rn (rown R (j + P)) i
    rw [prtN_get W, rn_drop, rn_drop, Nat.add_comm P j]
    by_cases hi : i < P
    · rw [if_pos hi, hz i (by omega)]; simp -implicitDefEqProofs (maxSteps := 3000000)
    · rw [if_neg hi, show P + (i - P) = i by omega, Int.sub_self]; exact Int.dvd_zero M
/-- What is led to 0: a row whose first P numbers are 0 stands in the whole exactly if its rest stands in the part. -/
theorem part_sp {M : Int} {N : Nat} (hM : 0 < M) {R : List (List Int)} (S : Sat M N R []) (P : Nat) (u : Nat → Int) : Sp M (GR (prt R P N) 0) u ↔ Sp M (GR R 0) (shf P u) := by
  rw [prt_sp S.rws, Nat.zero_add]
  constructor
  · intro h; exact h.mono fun g ⟨j, _, h⟩ => ⟨j, by omega, h⟩
  · intro h
    exact howell hM S P _ h fun i hi => by unfold shf; rw [if_pos hi]; exact Int.dvd_zero M
theorem ct_cocycles (n : Nat) (hn : B + 30 ≤ n) (T : List (List Int)) (R0 : RowsOk T) (e0 : ∀ a < T.length, cl T 0 a = a) (M : Int) (hM : 2 ≤ M ∧ M ≤ 12) (U : List Int) (hU : U.length = T.length) (bU : ∀ i < U.length, 0 ≤ rn U i ∧ rn U i ≤ 11) (p : Nat) (hp : p ≤ 3) :
    ∃ R, Sat M ((T.length - 1) ^ p) R [] ∧ (∀ u, Sp M (GR R 0) u ↔ Sp M (GL (bdUs T M U p ((T.length - 1) ^ p))) (shf ((T.length - 1) ^ (p + 1)) u)) ∧
      evalCall Tryz.prog An n 99 [.agg [.d (intss T)], .agg [.d (.int .i64 M), .d (ints U)], .d (.int .i64 p)] [] = some ⟨.ptr 0 0 0, [spn M R], []⟩ := by
  obtain ⟨m, rfl⟩ : ∃ m, n = m + 1 := ⟨n - 1, by omega⟩
  have hB := B_eq
  simp only [evalCall_at, fb99, bnd_some, bodyOf, Tryz.f99, Option.getD_some]
  have hT := R0.1
  have hb := pow_bdN (N := T.length) (p := p + 1) hT.2 (by omega)
  have hb2 := pow_bdN (N := T.length) (p := p) hT.2 (by omega)
  obtain ⟨R, S, hR, c1⟩ := ct_bounded m (by omega) T R0 e0 M hM U hU bU p hp
  have c2 := ct_part m (by omega) M ((T.length - 1) ^ (p + 1) + (T.length - 1) ^ p) (by omega) R S.rws ((T.length - 1) ^ (p + 1)) (by omega)
  have S2 := prt_sat S ((T.length - 1) ^ (p + 1))
  rw [Nat.add_sub_cancel_left] at S2
  refine ⟨_, S2, fun u => (part_sp (by omega) S _ u).trans (hR _), ?_⟩
  generalize (T.length - 1) ^ (p + 1) = P at *
  generalize (T.length - 1) ^ p = Q at *
  simp -implicitDefEqProofs (maxSteps := 3000000) [c1, c2, pcD]
end Go.Proofs.YtnfhglplafmfiaaGreatE
