/- Contracts of functions of the program and of the reference: what the evaluator gives for a call of each. -/
import Derived.Test.YtnfhglplafmfiaaGreatAEf
namespace Go.Proofs.YtnfhglplafmfiaaGreatE
open Go Go.Proofs
set_option linter.unusedSimpArgs false
set_option linter.unusedVariables false
@[simp] theorem range2 : List.range 2 = [0, 1] := rfl
@[simp] theorem range3 : List.range 3 = [0, 1, 2] := rfl
/-! ## tables -/
def tabI (F : Nat → Int) (n : Nat) : List Int := (List.range n).map F
@[simp] theorem tabI_len (F : Nat → Int) (n : Nat) : (tabI F n).length = n := by simp -implicitDefEqProofs (maxSteps := 3000000) [tabI]
@[simp] theorem tabI_zero (F : Nat → Int) : tabI F 0 = [] := rfl
@[simp] theorem icells_nil : icells [] = [] := rfl
theorem tabI_succ (F : Nat → Int) (n : Nat) : tabI F n ++ [F n] = tabI F (n + 1) := by simp -implicitDefEqProofs (maxSteps := 3000000) [tabI, List.range_succ]
theorem rn_tabI (F : Nat → Int) {n i : Nat} (h : i < n) : rn (tabI F n) i = F i := by simp -implicitDefEqProofs (maxSteps := 3000000) [rn, tabI, List.getD, h]
theorem rn_get {l : List Int} {i : Nat} (h : i < l.length) : rn l i = l[i] := by simp -implicitDefEqProofs (maxSteps := 3000000) [rn, List.getD, h]
theorem tab_map (f : Int → Int) (l : List Int) : tabI (fun i => f (rn l i)) l.length = l.map f := by
  apply List.ext_getElem
  · simp -implicitDefEqProofs (maxSteps := 3000000)
  · intro i h1 h2
    have h : i < l.length := by simpa using h1
    simp -implicitDefEqProofs (maxSteps := 3000000) [tabI, rn_get h]
theorem rn_map (f : Int → Int) (l : List Int) {i : Nat} (h : i < l.length) : rn (l.map f) i = f (rn l i) := by
  rw [rn_get h, rn_get (by simpa using h)]; simp -implicitDefEqProofs (maxSteps := 3000000)
theorem le_bound {n : Nat} (h : n ≤ 10000000) : n + 1 ≤ bound := by simp -implicitDefEqProofs (maxSteps := 3000000) [bound]; omega
theorem lt_bound {n : Nat} (h : n ≤ 10000000) : n < bound := by simp -implicitDefEqProofs (maxSteps := 3000000) [bound]; omega
@[simp] theorem mapO_view_d (O : Nat → Option (Nat × Ob)) (b : List D) : mapO (view O 6) (b.map AV.d) = some b := by
  induction b with
  | nil => rfl
  | cons x b ih => simp -implicitDefEqProofs (maxSteps := 3000000) [ih]
theorem beq_f {a b : Int} (h : a ≠ b) : (a == b) = false := by simpa using h
end Go.Proofs.YtnfhglplafmfiaaGreatE

namespace Go.Proofs.YtnfhglplafmfiaaGreatE
open Go Go.Proofs
set_option maxHeartbeats 1000000
set_option linter.unusedSimpArgs false
set_option linter.unusedVariables false
set_option pp.deepTerms false
set_option pp.deepTerms.threshold 10
/-! ## how much there is -/
theorem ct_szInt64S (n : Nat) (hn : B + 1 ≤ n) (l : List Int) (k : Int) (hk : 0 ≤ k ∧ k < 4000000000000000000) (hl : (l.length : Int) ≤ 9223372036854775807) :
    evalCall Tryz.prog An n 61 [.d (ints l), .d (.int .i64 k)] [] = some ⟨.d (.int .i64 (if k - l.length < 0 then -1 else k - l.length)), [], []⟩ := by
  obtain ⟨m, rfl⟩ : ∃ m, n = m + 1 := ⟨n - 1, by omega⟩
  have hB := B_eq
  simp only [evalCall_at, fb61, bnd_some, bodyOf, Tryz.f61, Option.getD_some]
  have w := wrap_id (n := k - l.length) (by omega)
  by_cases h : k - l.length < 0
  · simp -implicitDefEqProofs (maxSteps := 3000000) [w, h]
  · simp -implicitDefEqProofs (maxSteps := 3000000) [w, h]

def szs (k : Int) (t : List (List Int)) : Nat → Int
  | 0 => k - t.length
  | i + 1 => szs k t i - (rown t i).length
def szr (k : Int) (t : List (List Int)) : Int := if ∀ i ≤ t.length, 0 ≤ szs k t i then szs k t t.length else -1
theorem szs_last {k : Int} {t : List (List Int)} {i : Nat} (hi : i ≤ t.length) (h : szs k t i < 0) : szr k t = -1 := if_neg fun z => by have := z i hi; omega
theorem szs_bd {k : Int} {t : List (List Int)} (hk : k < 4000000000000000000) : ∀ i, szs k t i < 4000000000000000000
  | 0 => by simp only [szs]; omega
  | i + 1 => by have := szs_bd (t := t) hk i; simp only [szs]; omega
theorem ct_szInt64SS (n : Nat) (hn : B + 2 ≤ n) (t : List (List Int)) (k : Int) (hk : 0 ≤ k ∧ k < 4000000000000000000) (hl : (t.length : Int) ≤ 9223372036854775807) (hr : ∀ i, ((rown t i).length : Int) ≤ 9223372036854775807) :
    evalCall Tryz.prog An n 60 [.d (intss t), .d (.int .i64 k)] [] = some ⟨.d (.int .i64 (szr k t)), [], []⟩ := by
  obtain ⟨m, rfl⟩ : ∃ m, n = m + 1 := ⟨n - 1, by omega⟩
  have hB := B_eq
  simp only [evalCall_at, fb60, bnd_some, bodyOf, Tryz.f60, Option.getD_some]
  generalize hb0 : Code.loop _ = cc0
  obtain rfl : cc0 = .loop (lp Tryz.f60 0) := by rw [← hb0]; rfl
  clear hb0
  have w := wrap_id (n := k - t.length) (by omega)
  by_cases h : k - t.length < 0
  · have e : szr k t = -1 := szs_last (i := 0) (by omega) h
    simp -implicitDefEqProofs (maxSteps := 3000000) [w, h, e]
  · simp -implicitDefEqProofs (maxSteps := 3000000) [w, h]
    generalize hx : loopC _ _ _ = x
    generalize hl : lp Tryz.f60 0 = L at hx
    simp only [lp, bodyOf, Tryz.f60, Option.getD_some, loopsIn, List.append_nil, List.nil_append, List.cons_append, List.getD, List.getElem?_cons_zero, List.getElem?_cons_succ] at hl
    subst hl
    obtain ⟨q, rfl, hq⟩ := loop_end hx t.length (fun i s => (∀ j ≤ i, 0 ≤ szs k t j) ∧ ∃ g, s = ⟨[(0, .d (intss t)), (1, .d (.int .i64 (szs k t i))), (5, .d (.int .i64 i))], [], g⟩)
      (fun q => (∃ s, q = (.exit 0, s) ∧ s.obs = [] ∧ lookL s.env 1 = some (.d (.int .i64 (szr k t)))) ∨ (∃ s, q = (.ret, s) ∧ lookL s.env 4 = some (.d (.int .i64 (szr k t)))))
      (by show t.length < m; omega) ⟨fun j hj => by
        obtain rfl : j = 0 := by omega
        simp only [szs]; omega, by simp -implicitDefEqProofs (maxSteps := 3000000) [szs]⟩
      (by
        rintro i s hi ⟨hp, g, rfl⟩
        have b1 := hr i
        have b2 := szs_bd (t := t) hk.2 i
        have b3 := hp i (Nat.le_refl _)
        have c := ct_szInt64S m (by omega) (rown t i) (szs k t i) (by omega) (by omega)
        have w2 := wrap_id (n := (i : Int) + 1) (by omega)
        by_cases h2 : szs k t i - (rown t i).length < 0
        · simp -implicitDefEqProofs (maxSteps := 3000000) [hi, c, h2, szs_last (i := i + 1) (by omega) h2]
        · simp -implicitDefEqProofs (maxSteps := 3000000) [hi, c, h2, w2, szs]
          intro j hj
          rcases Nat.lt_or_ge i j with z | z
          · obtain rfl : j = i + 1 := by omega
            simp only [szs]; omega
          · exact hp j z)
      (by
        rintro s ⟨hp, g, rfl⟩
        have e : szr k t = szs k t t.length := if_pos hp
        simp -implicitDefEqProofs (maxSteps := 3000000) [e])
    rcases hq with ⟨s, rfl, h0, h1⟩ | ⟨s, rfl, h1⟩
    · simp -implicitDefEqProofs (maxSteps := 3000000) [h0, h1]
    · simp -implicitDefEqProofs (maxSteps := 3000000) [h1]
theorem ct_szGroup (n : Nat) (hn : B + 3 ≤ n) (t : List (List Int)) (k : Int) (hk : 0 ≤ k ∧ k < 4000000000000000000) (hl : (t.length : Int) ≤ 9223372036854775807) (hr : ∀ i, ((rown t i).length : Int) ≤ 9223372036854775807) :
    evalCall Tryz.prog An n 7 [.agg [.d (intss t)], .d (.int .i64 k)] [] = some ⟨.d (.int .i64 (szr k t)), [], []⟩ := by
  obtain ⟨m, rfl⟩ : ∃ m, n = m + 1 := ⟨n - 1, by omega⟩
  have hB := B_eq
  simp only [evalCall_at, fb7, bnd_some, bodyOf, Tryz.f7, Option.getD_some]
  have c := ct_szInt64SS m (by omega) t k hk hl hr
  have e : szr k t < 0 → szr k t = -1 := fun z => by
    by_cases y : ∀ i ≤ t.length, 0 ≤ szs k t i
    · rw [szr, if_pos y] at z
      have := y t.length (Nat.le_refl _)
      omega
    · exact if_neg y
  by_cases h : szr k t < 0
  · simp -implicitDefEqProofs (maxSteps := 3000000) [c, h, e h]
  · simp -implicitDefEqProofs (maxSteps := 3000000) [c, h]
theorem ct_szModule (n : Nat) (hn : B + 2 ≤ n) (M : Int) (l : List Int) (k : Int) (hk : 0 ≤ k ∧ k < 4000000000000000000) (hl : (l.length : Int) ≤ 9223372036854775807) :
    evalCall Tryz.prog An n 8 [.agg [.d (.int .i64 M), .d (ints l)], .d (.int .i64 k)] [] = some ⟨.d (.int .i64 (if k - l.length < 0 then -1 else k - l.length)), [], []⟩ := by
  obtain ⟨m, rfl⟩ : ∃ m, n = m + 1 := ⟨n - 1, by omega⟩
  have hB := B_eq
  simp only [evalCall_at, fb8, bnd_some, bodyOf, Tryz.f8, Option.getD_some]
  have c := ct_szInt64S m (by omega) l k hk hl
  by_cases h : k - l.length < 0
  · simp -implicitDefEqProofs (maxSteps := 3000000) [c, h]
  · simp -implicitDefEqProofs (maxSteps := 3000000) [c, h]
def cpy (l : List Int) (i : Nat) : List Int := l.take i ++ List.replicate (l.length - i) 0
theorem cpy_zero (l : List Int) : List.replicate l.length 0 = cpy l 0 := by simp -implicitDefEqProofs (maxSteps := 3000000) [cpy]
theorem cpy_len (l : List Int) {i : Nat} (h : i ≤ l.length) : (cpy l i).length = l.length := by simp -implicitDefEqProofs (maxSteps := 3000000) [cpy]; omega
theorem cpy_get (l : List Int) (i j : Nat) : (cpy l i)[j]? = if j < i then l[j]? else if j < l.length then some 0 else none := by
  simp only [cpy, List.getElem?_append, List.length_take, List.getElem?_take, List.getElem?_replicate]
  by_cases h1 : j < i
  · by_cases h2 : j < l.length
    · rw [if_pos (by omega), if_pos h1, if_pos h1]
    · rw [if_neg (by omega), if_neg (by omega), if_pos h1, List.getElem?_eq_none (by omega)]
  · rw [if_neg (by omega), if_neg h1]
    by_cases h2 : j < l.length
    · rw [if_pos (by omega), if_pos h2]
    · rw [if_neg (by omega), if_neg h2]
theorem cpy_set (l : List Int) {i : Nat} (h : i < l.length) : (cpy l i).set i (rn l i) = cpy l (i + 1) := by
  apply List.ext_getElem?
  intro j
  rw [List.getElem?_set, cpy_get, cpy_get, cpy_len l (by omega)]
  by_cases e : i = j
  · subst e
    rw [if_pos rfl, if_pos h, if_pos (by omega), rn, List.getD, List.getElem?_eq_getElem h]
    rfl
  · rw [if_neg e]
    by_cases h1 : j < i
    · simp only [h1, show j < i + 1 by omega, if_true]
    · simp only [h1, show ¬ j < i + 1 by omega, if_false]
theorem cpy_all (l : List Int) : cpy l l.length = l := by simp -implicitDefEqProofs (maxSteps := 3000000) [cpy]
theorem ct_toInt64S (n : Nat) (hn : B + 1 ≤ n) (l : List Int) (hl : l.length ≤ 1000000000000) :
    evalCall Tryz.prog An n 72 [.d (ints l)] [] = some ⟨.own 0 0, [.row (icells l)], []⟩ := by
  obtain ⟨m, rfl⟩ : ∃ m, n = m + 1 := ⟨n - 1, by omega⟩
  have hB := B_eq
  simp only [evalCall_at, fb72, bnd_some, bodyOf, Tryz.f72, Option.getD_some]
  generalize hb0 : Code.loop _ = cc0
  obtain rfl : cc0 = .loop (lp Tryz.f72 0) := by rw [← hb0]; rfl
  clear hb0
  have hl' : (l.length : Int) ≤ 1099511627776 := by omega
  simp -implicitDefEqProofs (maxSteps := 3000000) [hl', cpy_zero]
  generalize hx : loopC _ _ _ = x
  generalize hl : lp Tryz.f72 0 = L at hx
  simp only [lp, bodyOf, Tryz.f72, Option.getD_some, loopsIn, List.append_nil, List.nil_append, List.cons_append, List.getD, List.getElem?_cons_zero, List.getElem?_cons_succ] at hl
  subst hl
  obtain ⟨q, rfl, hq⟩ := loop_end hx l.length (fun i s => i ≤ l.length ∧ ∃ g v, s = ⟨[(0, .d (ints l)), (3, .own 112 v), (4, .d (.int .i64 i))], [(112, some (v, .row (icells (cpy l i))))], g⟩)
    (fun q => (∃ s v, q = (.exit 0, s) ∧ obsL s.obs 112 = some (v, .row (icells l)) ∧ lookL s.env 3 = some (.own 112 v)))
    (by show l.length < m; omega) (by simp -implicitDefEqProofs (maxSteps := 3000000))
    (by
      rintro i s hi ⟨hi2, g, v, rfl⟩
      have w2 := wrap_id (n := (i : Int) + 1) (by omega)
      simp -implicitDefEqProofs (maxSteps := 3000000) [hi, w2, cpy_len l hi2, cpy_set l hi]
      omega)
    (by
      rintro s ⟨hi2, g, v, rfl⟩
      simp -implicitDefEqProofs (maxSteps := 3000000) [cpy_all])
  obtain ⟨s, v, rfl, h0, h1⟩ := hq
  simp -implicitDefEqProofs (maxSteps := 3000000) [h0, h1]

def mcpy (t : List (List Int)) (i : Nat) : List (List Int) := t.take i ++ List.replicate (t.length - i) []
theorem mcpy_zero (t : List (List Int)) : List.replicate t.length [] = mcpy t 0 := by simp -implicitDefEqProofs (maxSteps := 3000000) [mcpy]
theorem mcpy_len (t : List (List Int)) {i : Nat} (h : i ≤ t.length) : (mcpy t i).length = t.length := by simp -implicitDefEqProofs (maxSteps := 3000000) [mcpy]; omega
theorem mcpy_get (l : List (List Int)) (i j : Nat) : (mcpy l i)[j]? = if j < i then l[j]? else if j < l.length then some [] else none := by
  simp only [mcpy, List.getElem?_append, List.length_take, List.getElem?_take, List.getElem?_replicate]
  by_cases h1 : j < i
  · by_cases h2 : j < l.length
    · rw [if_pos (by omega), if_pos h1, if_pos h1]
    · rw [if_neg (by omega), if_neg (by omega), if_pos h1, List.getElem?_eq_none (by omega)]
  · rw [if_neg (by omega), if_neg h1]
    by_cases h2 : j < l.length
    · rw [if_pos (by omega), if_pos h2]
    · rw [if_neg (by omega), if_neg h2]
theorem mcpy_set (l : List (List Int)) {i : Nat} (h : i < l.length) : (mcpy l i).set i (rown l i) = mcpy l (i + 1) := by
  apply List.ext_getElem?
  intro j
  rw [List.getElem?_set, mcpy_get, mcpy_get, mcpy_len l (by omega)]
  by_cases e : i = j
  · subst e
    rw [if_pos rfl, if_pos h, if_pos (by omega), rown, List.getD, List.getElem?_eq_getElem h]
    rfl
  · rw [if_neg e]
    by_cases h1 : j < i
    · simp only [h1, show j < i + 1 by omega, if_true]
    · simp only [h1, show ¬ j < i + 1 by omega, if_false]
theorem mcpy_all (l : List (List Int)) : mcpy l l.length = l := by simp -implicitDefEqProofs (maxSteps := 3000000) [mcpy]
theorem ct_toInt64SS (n : Nat) (hn : B + 2 ≤ n) (l : List (List Int)) (hl : l.length ≤ 1000000000000) (hr : ∀ i, (rown l i).length ≤ 1000000000000) :
    evalCall Tryz.prog An n 71 [.d (intss l)] [] = some ⟨.own 0 0, [.mat false (mcells l)], []⟩ := by
  obtain ⟨m, rfl⟩ : ∃ m, n = m + 1 := ⟨n - 1, by omega⟩
  have hB := B_eq
  simp only [evalCall_at, fb71, bnd_some, bodyOf, Tryz.f71, Option.getD_some]
  generalize hb0 : Code.loop _ = cc0
  obtain rfl : cc0 = .loop (lp Tryz.f71 0) := by rw [← hb0]; rfl
  clear hb0
  have hl' : (l.length : Int) ≤ 1099511627776 := by omega
  simp -implicitDefEqProofs (maxSteps := 3000000) [hl', mcpy_zero]
  generalize hx : loopC _ _ _ = x
  generalize hl : lp Tryz.f71 0 = L at hx
  simp only [lp, bodyOf, Tryz.f71, Option.getD_some, loopsIn, List.append_nil, List.nil_append, List.cons_append, List.getD, List.getElem?_cons_zero, List.getElem?_cons_succ] at hl
  subst hl
  obtain ⟨q, rfl, hq⟩ := loop_end hx l.length (fun i s => i ≤ l.length ∧ ∃ g v, s = ⟨[(0, .d (intss l)), (3, .own 112 v), (4, .d (.int .i64 i))], [(112, some (v, .mat true (mcells (mcpy l i))))], g⟩)
    (fun q => (∃ s v, q = (.exit 0, s) ∧ obsL s.obs 112 = some (v, .mat true (mcells l)) ∧ lookL s.env 3 = some (.own 112 v)))
    (by show l.length < m; omega) (by simp -implicitDefEqProofs (maxSteps := 3000000))
    (by
      rintro i s hi ⟨hi2, g, v, rfl⟩
      have w2 := wrap_id (n := (i : Int) + 1) (by omega)
      have c := ct_toInt64S m (by omega) (rown l i) (hr i)
      simp -implicitDefEqProofs (maxSteps := 3000000) [hi, w2, c, mcpy_len l hi2, mcpy_set l hi]
      omega)
    (by
      rintro s ⟨hi2, g, v, rfl⟩
      simp -implicitDefEqProofs (maxSteps := 3000000) [mcpy_all])
  obtain ⟨s, v, rfl, h0, h1⟩ := hq
  simp -implicitDefEqProofs (maxSteps := 3000000) [h0, h1]
theorem ct_toGroup (n : Nat) (hn : B + 3 ≤ n) (l : List (List Int)) (hl : l.length ≤ 1000000000000) (hr : ∀ i, (rown l i).length ≤ 1000000000000) :
    evalCall Tryz.prog An n 10 [.agg [.d (intss l)]] [] = some ⟨.agg [.own 0 0], [.mat false (mcells l)], []⟩ := by
  obtain ⟨m, rfl⟩ : ∃ m, n = m + 1 := ⟨n - 1, by omega⟩
  have hB := B_eq
  simp only [evalCall_at, fb10, bnd_some, bodyOf, Tryz.f10, Option.getD_some]
  have c := ct_toInt64SS m (by omega) l hl hr
  simp -implicitDefEqProofs (maxSteps := 3000000) [c]
theorem ct_toModule (n : Nat) (hn : B + 2 ≤ n) (M : Int) (l : List Int) (hl : l.length ≤ 1000000000000) :
    evalCall Tryz.prog An n 11 [.agg [.d (.int .i64 M), .d (ints l)]] [] = some ⟨.agg [.d (.int .i64 M), .own 0 0], [.row (icells l)], []⟩ := by
  obtain ⟨m, rfl⟩ : ∃ m, n = m + 1 := ⟨n - 1, by omega⟩
  have hB := B_eq
  simp only [evalCall_at, fb11, bnd_some, bodyOf, Tryz.f11, Option.getD_some]
  have c := ct_toInt64S m (by omega) l hl
  simp -implicitDefEqProofs (maxSteps := 3000000) [c]
end Go.Proofs.YtnfhglplafmfiaaGreatE
