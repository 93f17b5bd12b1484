/- Contracts of functions of the program and of the reference: what the evaluator gives for a call of each. -/
import Derived.Test.YtnfhglplafmfiaaGreatAEf
import Derived.Test.YtnfhglplafmfiaaGreatK1M
namespace Go.Proofs.YtnfhglplafmfiaaGreatE
open Go Go.Proofs
set_option maxHeartbeats 1000000
set_option linter.unusedSimpArgs false
set_option linter.unusedVariables false
set_option pp.deepTerms false
set_option pp.deepTerms.threshold 10
/-! ## equal rows are told equal -/
theorem ct_eqInt64S (n : Nat) (hn : B + 1 ≤ n) (l : List Int) (hl : l.length ≤ 1000000000000) :
    evalCall Tryz.prog An n 13 [.d (ints l), .d (ints l)] [] = some ⟨.d (.bool true), [], []⟩ := by
  obtain ⟨m, rfl⟩ : ∃ m, n = m + 1 := ⟨n - 1, by omega⟩
  have hB := B_eq
  simp only [evalCall_at, fb13, bnd_some, bodyOf, Tryz.f13, Option.getD_some]
  generalize hb0 : Code.loop _ = cc0
  obtain rfl : cc0 = .loop (lp Tryz.f13 0) := by rw [← hb0]; rfl
  clear hb0
  simp -implicitDefEqProofs (maxSteps := 3000000)
  generalize hx : loopC _ _ _ = x
  generalize hl : lp Tryz.f13 0 = L at hx
  simp only [lp, bodyOf, Tryz.f13, Option.getD_some, loopsIn, List.append_nil, List.nil_append, List.cons_append, List.getD, List.getElem?_cons_zero, List.getElem?_cons_succ] at hl
  subst hl
  obtain ⟨q, rfl, hq⟩ := loop_end hx l.length (fun i s => ∃ g, s = ⟨[(0, .d (ints l)), (1, .d (ints l)), (5, .d (.int .i64 i))], [], g⟩)
    (fun q => ∃ s, q = (.exit 0, s) ∧ s.obs = []) (by show l.length < m; omega) (by simp -implicitDefEqProofs (maxSteps := 3000000))
    (by
      rintro i s hi ⟨g, rfl⟩
      have w2 := wrap_id (n := (i : Int) + 1) (by omega)
      simp -implicitDefEqProofs (maxSteps := 3000000) [hi, w2])
    (by
      rintro s ⟨g, rfl⟩
      simp -implicitDefEqProofs (maxSteps := 3000000))
  obtain ⟨s, rfl, h0⟩ := hq
  simp -implicitDefEqProofs (maxSteps := 3000000) [h0]
theorem ct_eqInt64S_nil (n : Nat) (hn : B + 1 ≤ n) :
    evalCall Tryz.prog An n 13 [.d .nil, .d .nil] [] = some ⟨.d (.bool true), [], []⟩ := by
  obtain ⟨m, rfl⟩ : ∃ m, n = m + 1 := ⟨n - 1, by omega⟩
  have hB := B_eq
  simp only [evalCall_at, fb13, bnd_some, bodyOf, Tryz.f13, Option.getD_some]
  generalize hb0 : Code.loop _ = cc0
  obtain rfl : cc0 = .loop (lp Tryz.f13 0) := by rw [← hb0]; rfl
  clear hb0
  simp -implicitDefEqProofs (maxSteps := 3000000)
  generalize hx : loopC _ _ _ = x
  generalize hl : lp Tryz.f13 0 = L at hx
  simp only [lp, bodyOf, Tryz.f13, Option.getD_some, loopsIn, List.append_nil, List.nil_append, List.cons_append, List.getD, List.getElem?_cons_zero, List.getElem?_cons_succ] at hl
  subst hl
  obtain ⟨q, rfl, hq⟩ := loop_end hx 0 (fun i s => i = 0 ∧ ∃ g, s = ⟨[(0, .d .nil), (1, .d .nil), (5, .d (.int .i64 i))], [], g⟩)
    (fun q => ∃ s, q = (.exit 0, s) ∧ s.obs = []) (by show 0 < m; omega) (by simp -implicitDefEqProofs (maxSteps := 3000000))
    (by
      rintro i s hi ⟨e, g, rfl⟩
      omega)
    (by
      rintro s ⟨e, g, rfl⟩
      simp -implicitDefEqProofs (maxSteps := 3000000))
  obtain ⟨s, rfl, h0⟩ := hq
  simp -implicitDefEqProofs (maxSteps := 3000000) [h0]
theorem ct_eqInt64SS (n : Nat) (hn : B + 2 ≤ n) (l : List (List Int)) (hl : l.length ≤ 1000000000000) (hr : ∀ i, (rown l i).length ≤ 1000000000000) :
    evalCall Tryz.prog An n 83 [.d (intss l), .d (intss l)] [] = some ⟨.d (.bool true), [], []⟩ := by
  obtain ⟨m, rfl⟩ : ∃ m, n = m + 1 := ⟨n - 1, by omega⟩
  have hB := B_eq
  simp only [evalCall_at, fb83, bnd_some, bodyOf, Tryz.f83, Option.getD_some]
  generalize hb0 : Code.loop _ = cc0
  obtain rfl : cc0 = .loop (lp Tryz.f83 0) := by rw [← hb0]; rfl
  clear hb0
  simp -implicitDefEqProofs (maxSteps := 3000000)
  generalize hx : loopC _ _ _ = x
  generalize hl : lp Tryz.f83 0 = L at hx
  simp only [lp, bodyOf, Tryz.f83, Option.getD_some, loopsIn, List.append_nil, List.nil_append, List.cons_append, List.getD, List.getElem?_cons_zero, List.getElem?_cons_succ] at hl
  subst hl
  obtain ⟨q, rfl, hq⟩ := loop_end hx l.length (fun i s => ∃ g, s = ⟨[(0, .d (intss l)), (1, .d (intss l)), (5, .d (.int .i64 i))], [], g⟩)
    (fun q => ∃ s, q = (.exit 0, s) ∧ s.obs = []) (by show l.length < m; omega) (by simp -implicitDefEqProofs (maxSteps := 3000000))
    (by
      rintro i s hi ⟨g, rfl⟩
      have w2 := wrap_id (n := (i : Int) + 1) (by omega)
      have c := ct_eqInt64S m (by omega) (rown l i) (hr i)
      simp -implicitDefEqProofs (maxSteps := 3000000) [hi, w2, c])
    (by
      rintro s ⟨g, rfl⟩
      simp -implicitDefEqProofs (maxSteps := 3000000))
  obtain ⟨s, rfl, h0⟩ := hq
  simp -implicitDefEqProofs (maxSteps := 3000000) [h0]
theorem ct_eqGroup (n : Nat) (hn : B + 3 ≤ n) (l : List (List Int)) (hl : l.length ≤ 1000000000000) (hr : ∀ i, (rown l i).length ≤ 1000000000000) :
    evalCall Tryz.prog An n 14 [.agg [.d (intss l)], .agg [.d (intss l)]] [] = some ⟨.d (.bool true), [], []⟩ := by
  obtain ⟨m, rfl⟩ : ∃ m, n = m + 1 := ⟨n - 1, by omega⟩
  have hB := B_eq
  simp only [evalCall_at, fb14, bnd_some, bodyOf, Tryz.f14, Option.getD_some]
  have c := ct_eqInt64SS m (by omega) l hl hr
  simp -implicitDefEqProofs (maxSteps := 3000000) [c]
theorem ct_eqModule (n : Nat) (hn : B + 2 ≤ n) (M : Int) (l : List Int) (hl : l.length ≤ 1000000000000) :
    evalCall Tryz.prog An n 15 [.agg [.d (.int .i64 M), .d (ints l)], .agg [.d (.int .i64 M), .d (ints l)]] [] = some ⟨.d (.bool true), [], []⟩ := by
  obtain ⟨m, rfl⟩ : ∃ m, n = m + 1 := ⟨n - 1, by omega⟩
  have hB := B_eq
  simp only [evalCall_at, fb15, bnd_some, bodyOf, Tryz.f15, Option.getD_some]
  have c := ct_eqInt64S m (by omega) l hl
  simp -implicitDefEqProofs (maxSteps := 3000000) [c]
def marks (k : Int) : Nat → List Int
  | 0 => []
  | n + 1 => marks k n ++ [k + n]
@[simp] theorem marks_len (k : Int) (n : Nat) : (marks k n).length = n := by induction n with
  | zero => rfl
  | succ n ih => simp -implicitDefEqProofs (maxSteps := 3000000) [marks, ih]
theorem marks_get (k : Int) : ∀ (n i : Nat), i < n → rn (marks k n) i = k + i
  | n + 1, i, h => by
    simp only [marks, rn, List.getD, List.getElem?_append, marks_len]
    by_cases h2 : i < n
    · rw [if_pos h2]
      exact marks_get k n i h2
    · obtain rfl : i = n := by omega
      simp -implicitDefEqProofs (maxSteps := 3000000)
theorem marks_set (k : Int) (l : List Int) {i : Nat} (h : i < l.length) : (marks k i ++ l.drop i).set i (k + i) = marks k (i + 1) ++ l.drop (i + 1) := by
  rw [List.set_append_right _ _ (by simp -implicitDefEqProofs (maxSteps := 3000000)), marks_len, Nat.sub_self, List.drop_eq_getElem_cons h, List.set_cons_zero, marks, List.append_assoc]
  rfl
theorem ct_markInt64S (n : Nat) (hn : B + 1 ≤ n) (l : List Int) (hl : l.length ≤ 1000000000000) (k : Int) (hk : 0 ≤ k ∧ k < 1000000000000) :
    evalCall Tryz.prog An n 18 [.own 100000 0, .d (.int .i64 k)] [.row (icells l)] = some ⟨.d (.int .i64 (k + l.length)), [], [some (.row (icells (marks k l.length)))]⟩ := by
  obtain ⟨m, rfl⟩ : ∃ m, n = m + 1 := ⟨n - 1, by omega⟩
  have hB := B_eq
  simp only [evalCall_at, fb18, bnd_some, bodyOf, Tryz.f18, Option.getD_some]
  generalize hb0 : Code.loop _ = cc0
  obtain rfl : cc0 = .loop (lp Tryz.f18 0) := by rw [← hb0]; rfl
  clear hb0
  simp -implicitDefEqProofs (maxSteps := 3000000)
  generalize hx : loopC _ _ _ = x
  generalize hl : lp Tryz.f18 0 = L at hx
  simp only [lp, bodyOf, Tryz.f18, Option.getD_some, loopsIn, List.append_nil, List.nil_append, List.cons_append, List.getD, List.getElem?_cons_zero, List.getElem?_cons_succ] at hl
  subst hl
  obtain ⟨q, rfl, hq⟩ := loop_end hx l.length (fun i s => i ≤ l.length ∧ ∃ g, s = ⟨[(0, .own 100000 0), (1, .d (.int .i64 (k + i))), (5, .d (.int .i64 i))], [(100000, some (0, .row (icells (marks k i ++ l.drop i))))], g⟩)
    (fun q => ∃ s, q = (.exit 0, s) ∧ obsL s.obs 100000 = some (0, .row (icells (marks k l.length))) ∧ lookL s.env 1 = some (.d (.int .i64 (k + l.length)))) (by show l.length < m; omega) (by simp -implicitDefEqProofs (maxSteps := 3000000) [marks])
    (by
      rintro i s hi ⟨hi2, g, rfl⟩
      have w2 := wrap_id (n := (i : Int) + 1) (by omega)
      have w3 := wrap_id (n := k + (i : Int) + 1) (by omega)
      have e : i + (l.length - i) = l.length := by omega
      simp -implicitDefEqProofs (maxSteps := 3000000) [hi, w2, w3, e, marks_set k l hi]
      omega)
    (by
      rintro s ⟨hi2, g, rfl⟩
      simp -implicitDefEqProofs (maxSteps := 3000000))
  obtain ⟨s, rfl, h0, h1⟩ := hq
  simp -implicitDefEqProofs (maxSteps := 3000000) [h0, h1]
theorem ct_markInt64S_nil (n : Nat) (hn : B + 1 ≤ n) (k : Int) :
    evalCall Tryz.prog An n 18 [.d .nil, .d (.int .i64 k)] [] = some ⟨.d (.int .i64 k), [], []⟩ := by
  obtain ⟨m, rfl⟩ : ∃ m, n = m + 1 := ⟨n - 1, by omega⟩
  have hB := B_eq
  simp only [evalCall_at, fb18, bnd_some, bodyOf, Tryz.f18, Option.getD_some]
  generalize hb0 : Code.loop _ = cc0
  obtain rfl : cc0 = .loop (lp Tryz.f18 0) := by rw [← hb0]; rfl
  clear hb0
  simp -implicitDefEqProofs (maxSteps := 3000000)
  generalize hx : loopC _ _ _ = x
  generalize hl : lp Tryz.f18 0 = L at hx
  simp only [lp, bodyOf, Tryz.f18, Option.getD_some, loopsIn, List.append_nil, List.nil_append, List.cons_append, List.getD, List.getElem?_cons_zero, List.getElem?_cons_succ] at hl
  subst hl
  obtain ⟨q, rfl, hq⟩ := loop_end hx 0 (fun i s => i = 0 ∧ ∃ g, s = ⟨[(0, .d .nil), (1, .d (.int .i64 k)), (5, .d (.int .i64 i))], [], g⟩)
    (fun q => ∃ s, q = (.exit 0, s) ∧ lookL s.env 1 = some (.d (.int .i64 k))) (by show 0 < m; omega) (by simp -implicitDefEqProofs (maxSteps := 3000000))
    (by
      rintro i s hi ⟨e, g, rfl⟩
      omega)
    (by
      rintro s ⟨e, g, rfl⟩
      simp -implicitDefEqProofs (maxSteps := 3000000))
  obtain ⟨s, rfl, h1⟩ := hq
  simp -implicitDefEqProofs (maxSteps := 3000000) [h1]
theorem rown_set (t : List (List Int)) {r : Nat} (h : r < t.length) (x : List Int) : rown (t.set r x) r = x := by simp -implicitDefEqProofs (maxSteps := 3000000) [rown, h]
theorem set_rown (t : List (List Int)) (r : Nat) : t.set r (rown t r) = t := by
  by_cases h : r < t.length
  · simp -implicitDefEqProofs (maxSteps := 3000000) [rown, List.getD, h]
  · exact List.set_eq_of_length_le (by omega)
theorem ct_markInt64S_inn (n : Nat) (hn : B + 1 ≤ n) (op : Bool) (t : List (List Int)) (r : Nat) (hr : r < t.length) (hl : (rown t r).length ≤ 1000000000000) (k : Int) (hk : 0 ≤ k ∧ k < 4000000000000) :
    evalCall Tryz.prog An n 18 [.inn 100000 0 r, .d (.int .i64 k)] [.mat op (mcells t)] = some ⟨.d (.int .i64 (k + (rown t r).length)), [], [some (.mat op (mcells (t.set r (marks k (rown t r).length))))]⟩ := by
  obtain ⟨m, rfl⟩ : ∃ m, n = m + 1 := ⟨n - 1, by omega⟩
  have hB := B_eq
  simp only [evalCall_at, fb18, bnd_some, bodyOf, Tryz.f18, Option.getD_some]
  generalize hb0 : Code.loop _ = cc0
  obtain rfl : cc0 = .loop (lp Tryz.f18 0) := by rw [← hb0]; rfl
  clear hb0
  simp -implicitDefEqProofs (maxSteps := 3000000)
  generalize hx : loopC _ _ _ = x
  generalize hl : lp Tryz.f18 0 = L at hx
  simp only [lp, bodyOf, Tryz.f18, Option.getD_some, loopsIn, List.append_nil, List.nil_append, List.cons_append, List.getD, List.getElem?_cons_zero, List.getElem?_cons_succ] at hl
  subst hl
  obtain ⟨q, rfl, hq⟩ := loop_end hx (rown t r).length (fun i s => i ≤ (rown t r).length ∧ ∃ g, s = ⟨[(0, .inn 100000 0 r), (1, .d (.int .i64 (k + i))), (5, .d (.int .i64 i))], [(100000, some (0, .mat op (mcells (t.set r (marks k i ++ (rown t r).drop i)))))], g⟩)
    (fun q => ∃ s, q = (.exit 0, s) ∧ obsL s.obs 100000 = some (0, .mat op (mcells (t.set r (marks k (rown t r).length)))) ∧ lookL s.env 1 = some (.d (.int .i64 (k + (rown t r).length)))) (by show (rown t r).length < m; omega) (by simp -implicitDefEqProofs (maxSteps := 3000000) [marks, set_rown])
    (by
      rintro i s hi ⟨hi2, g, rfl⟩
      have w2 := wrap_id (n := (i : Int) + 1) (by omega)
      have w3 := wrap_id (n := k + (i : Int) + 1) (by omega)
      have e : i + ((rown t r).length - i) = (rown t r).length := by omega
      simp -implicitDefEqProofs (maxSteps := 3000000) [hi, hr, w2, w3, e, rown_set, marks_set k (rown t r) hi]
      omega)
    (by
      rintro s ⟨hi2, g, rfl⟩
      simp -implicitDefEqProofs (maxSteps := 3000000) [hr, rown_set])
  obtain ⟨s, rfl, h0, h1⟩ := hq
  simp -implicitDefEqProofs (maxSteps := 3000000) [h0, h1]
def mkv (k : Int) (t : List (List Int)) : Nat → Int
  | 0 => k
  | i + 1 => mkv k t i + (rown t i).length
def mkt (k : Int) (t : List (List Int)) : Nat → List (List Int)
  | 0 => t
  | i + 1 => (mkt k t i).set i (marks (mkv k t i) (rown t i).length)
theorem mkv_bd (k : Int) (t : List (List Int)) (hr : ∀ i, (rown t i).length ≤ 1048576) : ∀ i, k ≤ mkv k t i ∧ mkv k t i ≤ k + i * 1048576
  | 0 => by simp -implicitDefEqProofs (maxSteps := 3000000) [mkv]
  | i + 1 => by have := mkv_bd k t hr i; have := hr i; simp only [mkv]; omega
@[simp] theorem mkt_len (k : Int) (t : List (List Int)) : ∀ i, (mkt k t i).length = t.length
  | 0 => rfl
  | i + 1 => by simp -implicitDefEqProofs (maxSteps := 3000000) [mkt, mkt_len k t i]
theorem rown_set_ne (t : List (List Int)) {r j : Nat} (h : r ≠ j) (x : List Int) : rown (t.set r x) j = rown t j := by simp -implicitDefEqProofs (maxSteps := 3000000) [rown, List.getD, h]
@[simp] theorem mkt_row (k : Int) (t : List (List Int)) : ∀ i j, (rown (mkt k t i) j).length = (rown t j).length
  | 0, j => rfl
  | i + 1, j => by
    simp only [mkt]
    by_cases z : i = j
    · subst z
      by_cases h : i < t.length
      · rw [rown_set _ (by simpa using h), marks_len]
      · rw [List.set_eq_of_length_le (by simp; omega), mkt_row k t i i]
    · rw [rown_set_ne _ z, mkt_row k t i j]
theorem ct_markInt64SS (n : Nat) (hn : B + 2 ≤ n) (t : List (List Int)) (hl : t.length ≤ 1048576) (hr : ∀ i, (rown t i).length ≤ 1048576) (k : Int) (hk : 0 ≤ k ∧ k < 10000000) :
    evalCall Tryz.prog An n 84 [.own 100000 0, .d (.int .i64 k)] [.mat false (mcells t)] = some ⟨.d (.int .i64 (mkv k t t.length)), [], [some (.mat false (mcells (mkt k t t.length)))]⟩ := by
  obtain ⟨m, rfl⟩ : ∃ m, n = m + 1 := ⟨n - 1, by omega⟩
  have hB := B_eq
  simp only [evalCall_at, fb84, bnd_some, bodyOf, Tryz.f84, Option.getD_some]
  generalize hb0 : Code.loop _ = cc0
  obtain rfl : cc0 = .loop (lp Tryz.f84 0) := by rw [← hb0]; rfl
  clear hb0
  simp -implicitDefEqProofs (maxSteps := 3000000)
  generalize hx : loopC _ _ _ = x
  generalize hl : lp Tryz.f84 0 = L at hx
  simp only [lp, bodyOf, Tryz.f84, Option.getD_some, loopsIn, List.append_nil, List.nil_append, List.cons_append, List.getD, List.getElem?_cons_zero, List.getElem?_cons_succ] at hl
  subst hl
  obtain ⟨q, rfl, hq⟩ := loop_end hx t.length (fun i s => ∃ g, s = ⟨[(0, .own 100000 0), (1, .d (.int .i64 (mkv k t i))), (5, .d (.int .i64 i))], [(100000, some (0, .mat false (mcells (mkt k t i))))], g⟩)
    (fun q => ∃ s, q = (.exit 0, s) ∧ obsL s.obs 100000 = some (0, .mat false (mcells (mkt k t t.length))) ∧ lookL s.env 1 = some (.d (.int .i64 (mkv k t t.length)))) (by show t.length < m; omega) (by simp -implicitDefEqProofs (maxSteps := 3000000) [mkv, mkt])
    (by
      rintro i s hi ⟨g, rfl⟩
      have w2 := wrap_id (n := (i : Int) + 1) (by omega)
      have r2 := hr i
      have r3 := mkv_bd k t hr i
      have c := ct_markInt64S_inn m (by omega) false (mkt k t i) i (by simpa using hi) (by simp; omega) (mkv k t i) (by omega)
      simp -implicitDefEqProofs (maxSteps := 3000000) [hi, w2] at c ⊢
      simp -implicitDefEqProofs (maxSteps := 3000000) [c, w2, mkv, mkt])
    (by
      rintro s ⟨g, rfl⟩
      simp -implicitDefEqProofs (maxSteps := 3000000))
  obtain ⟨s, rfl, h0, h1⟩ := hq
  simp -implicitDefEqProofs (maxSteps := 3000000) [h0, h1]
theorem ct_markGroup (n : Nat) (hn : B + 3 ≤ n) (t : List (List Int)) (hl : t.length ≤ 1048576) (hr : ∀ i, (rown t i).length ≤ 1048576) (k : Int) (hk : 0 ≤ k ∧ k < 10000000) :
    evalCall Tryz.prog An n 16 [.agg [.own 100000 0], .d (.int .i64 k)] [.mat false (mcells t)] = some ⟨.d (.int .i64 (mkv k t t.length)), [], [some (.mat false (mcells (mkt k t t.length)))]⟩ := by
  obtain ⟨m, rfl⟩ : ∃ m, n = m + 1 := ⟨n - 1, by omega⟩
  have hB := B_eq
  simp only [evalCall_at, fb16, bnd_some, bodyOf, Tryz.f16, Option.getD_some]
  have c := ct_markInt64SS m (by omega) t hl hr k hk
  simp -implicitDefEqProofs (maxSteps := 3000000) [c]
theorem ct_markModule (n : Nat) (hn : B + 2 ≤ n) (M : Int) (l : List Int) (hl : l.length ≤ 1000000000000) (k : Int) (hk : 0 ≤ k ∧ k < 1000000000000) :
    evalCall Tryz.prog An n 17 [.agg [.d (.int .i64 M), .own 100000 0], .d (.int .i64 k)] [.row (icells l)] = some ⟨.d (.int .i64 (k + l.length)), [], [some (.row (icells (marks k l.length)))]⟩ := by
  obtain ⟨m, rfl⟩ : ∃ m, n = m + 1 := ⟨n - 1, by omega⟩
  have hB := B_eq
  simp only [evalCall_at, fb17, bnd_some, bodyOf, Tryz.f17, Option.getD_some]
  have c := ct_markInt64S m (by omega) l hl k hk
  simp -implicitDefEqProofs (maxSteps := 3000000) [c]
theorem ct_heldInt64S (n : Nat) (hn : B + 1 ≤ n) (j : Nat) (hl : j ≤ 1000000000000) (k : Int) (hk : 0 ≤ k ∧ k < 1000000000000) :
    evalCall Tryz.prog An n 19 [.d (ints (marks k j)), .d (.int .i64 k)] [] = some ⟨.d (.int .i64 (k + j)), [], []⟩ := by
  obtain ⟨m, rfl⟩ : ∃ m, n = m + 1 := ⟨n - 1, by omega⟩
  have hB := B_eq
  simp only [evalCall_at, fb19, bnd_some, bodyOf, Tryz.f19, Option.getD_some]
  generalize hb0 : Code.loop _ = cc0
  obtain rfl : cc0 = .loop (lp Tryz.f19 0) := by rw [← hb0]; rfl
  clear hb0
  simp -implicitDefEqProofs (maxSteps := 3000000)
  generalize hx : loopC _ _ _ = x
  generalize hl : lp Tryz.f19 0 = L at hx
  simp only [lp, bodyOf, Tryz.f19, Option.getD_some, loopsIn, List.append_nil, List.nil_append, List.cons_append, List.getD, List.getElem?_cons_zero, List.getElem?_cons_succ] at hl
  subst hl
  obtain ⟨q, rfl, hq⟩ := loop_end hx j (fun i s => ∃ g, s = ⟨[(0, .d (ints (marks k j))), (1, .d (.int .i64 (k + i))), (5, .d (.int .i64 i))], [], g⟩)
    (fun q => ∃ s, q = (.exit 0, s) ∧ lookL s.env 1 = some (.d (.int .i64 (k + j)))) (by show j < m; omega) (by simp -implicitDefEqProofs (maxSteps := 3000000))
    (by
      rintro i s hi ⟨g, rfl⟩
      have w2 := wrap_id (n := (i : Int) + 1) (by omega)
      have w3 := wrap_id (n := k + (i : Int) + 1) (by omega)
      simp -implicitDefEqProofs (maxSteps := 3000000) [hi, w2, w3, marks_get k j i hi]
      omega)
    (by
      rintro s ⟨g, rfl⟩
      simp -implicitDefEqProofs (maxSteps := 3000000))
  obtain ⟨s, rfl, h1⟩ := hq
  simp -implicitDefEqProofs (maxSteps := 3000000) [h1]
theorem ct_heldInt64S_nil (n : Nat) (hn : B + 1 ≤ n) (k : Int) :
    evalCall Tryz.prog An n 19 [.d .nil, .d (.int .i64 k)] [] = some ⟨.d (.int .i64 k), [], []⟩ := by
  obtain ⟨m, rfl⟩ : ∃ m, n = m + 1 := ⟨n - 1, by omega⟩
  have hB := B_eq
  simp only [evalCall_at, fb19, bnd_some, bodyOf, Tryz.f19, Option.getD_some]
  generalize hb0 : Code.loop _ = cc0
  obtain rfl : cc0 = .loop (lp Tryz.f19 0) := by rw [← hb0]; rfl
  clear hb0
  simp -implicitDefEqProofs (maxSteps := 3000000)
  generalize hx : loopC _ _ _ = x
  generalize hl : lp Tryz.f19 0 = L at hx
  simp only [lp, bodyOf, Tryz.f19, Option.getD_some, loopsIn, List.append_nil, List.nil_append, List.cons_append, List.getD, List.getElem?_cons_zero, List.getElem?_cons_succ] at hl
  subst hl
  obtain ⟨q, rfl, hq⟩ := loop_end hx 0 (fun i s => i = 0 ∧ ∃ g, s = ⟨[(0, .d .nil), (1, .d (.int .i64 k)), (5, .d (.int .i64 i))], [], g⟩)
    (fun q => ∃ s, q = (.exit 0, s) ∧ lookL s.env 1 = some (.d (.int .i64 k))) (by show 0 < m; omega) (by simp -implicitDefEqProofs (maxSteps := 3000000))
    (by
      rintro i s hi ⟨e, g, rfl⟩
      omega)
    (by
      rintro s ⟨e, g, rfl⟩
      simp -implicitDefEqProofs (maxSteps := 3000000))
  obtain ⟨s, rfl, h1⟩ := hq
  simp -implicitDefEqProofs (maxSteps := 3000000) [h1]
end Go.Proofs.YtnfhglplafmfiaaGreatE
