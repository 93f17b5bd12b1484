/- Contracts of functions of the program and of the reference: what the evaluator gives for a call of each. -/
import Derived.Test.YtnfhglplafmfiaaGreatAEf
import Derived.Test.YtnfhglplafmfiaaGreatK1M
import Derived.Test.YtnfhglplafmfiaaGreatK40M
import Derived.Test.YtnfhglplafmfiaaGreatK91
namespace Go.Proofs.YtnfhglplafmfiaaGreatE
open Go Go.Proofs
set_option maxHeartbeats 8000000
set_option maxRecDepth 4000
set_option linter.unusedSimpArgs false
set_option linter.unusedVariables false
set_option pp.deepTerms false
set_option pp.deepTerms.threshold 10
/-! ## spans: rows as data that stands for good -/
def pinD (r : List Int) : YtnfhglplafmfiaaGreatE.D := if r = [] then .nil else .pin (icells r)
def pcells (R : List (List Int)) : List YtnfhglplafmfiaaGreatE.D := R.map pinD
/-- A row in one of two forms. -/
def srow (p : Bool) (l : List Int) : YtnfhglplafmfiaaGreatE.D := if p = true then .pin (icells l) else ints l
@[simp] theorem srow_t (l : List Int) : srow true l = .pin (icells l) := rfl
@[simp] theorem srow_f (l : List Int) : srow false l = ints l := rfl
@[simp] theorem pinD_nil : pinD [] = .nil := rfl
theorem pinD_ne {r : List Int} (h : r ≠ []) : pinD r = .pin (icells r) := if_neg h
@[simp] theorem pinD_ret (r : List Int) : retD (pinD r) = true := by unfold pinD; split <;> rfl
@[simp] theorem pinD_row (r : List Int) : rowD (pinD r) = true := by unfold pinD; split <;> rfl
@[simp] theorem pcells_length (R : List (List Int)) : (pcells R).length = R.length := by simp -implicitDefEqProofs (maxSteps := 3000000) [pcells]
theorem pcells_set {R : List (List Int)} {k : Nat} {r : List Int} (h : r ≠ []) : (pcells R).set k (.pin (icells r)) = pcells (R.set k r) := by simp -implicitDefEqProofs (maxSteps := 3000000) [pcells, List.map_set, pinD_ne h]
@[simp] theorem pcells_rep (n : Nat) : List.replicate n YtnfhglplafmfiaaGreatE.D.nil = pcells (List.replicate n []) := by simp -implicitDefEqProofs (maxSteps := 3000000) [pcells]
@[simp] theorem pcells_get (R : List (List Int)) (k : Nat) : (pcells R)[k]? = if k < R.length then some (pinD (rown R k)) else none := by
  by_cases h : k < R.length
  · simp -implicitDefEqProofs (maxSteps := 3000000) [pcells, rown, h, List.getD]
  · simp -implicitDefEqProofs (maxSteps := 3000000) [pcells, h]
@[simp] theorem pcells_getE (R : List (List Int)) (k : Nat) (h : k < (pcells R).length) : (pcells R)[k] = pinD (rown R k) := by
  have := pcells_get R k
  rw [List.getElem?_eq_getElem h, if_pos (by simpa using h)] at this
  exact Option.some.inj this
@[simp] theorem pcells_drop (R : List (List Int)) (k : Nat) : (pcells R).drop k = pcells (R.drop k) := by simp -implicitDefEqProofs (maxSteps := 3000000) [pcells]
@[simp] theorem ret_pmem (R : List (List Int)) : (∀ x, x ∈ pcells R → retD x = true) ↔ True := by
  simp only [pcells, List.mem_map, iff_true]
  rintro x ⟨r, _, rfl⟩; exact pinD_ret r
@[simp] theorem ret_pcells (R : List (List Int)) : (pcells R).all retD = true := by
  rw [List.all_eq_true]; exact (ret_pmem R).2 trivial
@[simp high] theorem cell1_pcells (O : Nat → Option (Nat × Ob)) (R : List (List Int)) : cell1 O (.d (.cellp (pcells R))) = if 0 < R.length then some (.d (pinD (rown R 0))) else none := by
  simp only [cell1, pcells_get]
  split <;> rfl
/-- A span behind its pointer. -/
abbrev spn (m : Int) (R : List (List Int)) : Ob := .per 2 [pcells R] [.d (.int .i64 m), .r 0]
/-- A span as data. -/
abbrev spd (m : Int) (R : List (List Int)) : YtnfhglplafmfiaaGreatE.D := .cellp [.int .i64 m, .sl 1 (pcells R)]
theorem ct_newSpan (n : Nat) (hn : B + 1 ≤ n) (M : Int) (N : Nat) (hN : N ≤ 10000000) :
    evalCall Tryz.prog An n 181 [.d (.int .i64 M), .d (.int .i64 N)] [] = some ⟨.ptr 0 0 0, [spn M (List.replicate N [])], []⟩ := by
  obtain ⟨m, rfl⟩ : ∃ m, n = m + 1 := ⟨n - 1, by omega⟩
  have hB := B_eq
  simp only [evalCall_at, fb181, bnd_some, bodyOf, Tryz.f181, Option.getD_some]
  have h1 : (N : Int) ≤ 1099511627776 := by omega
  simp -implicitDefEqProofs (maxSteps := 3000000) [h1]
theorem tmod_fix {t m : Int} (hm : 0 < m) : (t.tmod m + m).tmod m = t % m := by
  have h1 := Int.lt_tmod_of_pos t hm
  rw [Int.tmod_eq_emod_of_nonneg (by omega), Int.add_emod_right]
  rw [Int.emod_eq_emod_iff_emod_sub_eq_zero]
  apply Int.emod_eq_zero_of_dvd
  exact ⟨-t.tdiv m, by have := Int.tmod_add_mul_tdiv t m; rw [Int.mul_neg]; omega⟩
theorem mul_sm2 {x n : Int} (hx : -200 ≤ x ∧ x ≤ 200) (hn : 0 ≤ n ∧ n ≤ 200) : -40000 ≤ x * n ∧ x * n ≤ 40000 := by
  have h1 : x * n ≤ 200 * n := Int.mul_le_mul_of_nonneg_right hx.2 hn.1
  have h2 : -200 * n ≤ x * n := Int.mul_le_mul_of_nonneg_right hx.1 hn.1
  omega
/-- A part of a combination: what stands behind the first k places is still 0. -/
def cmbP (m x : Int) (a : List Int) (y : Int) (b : List Int) (k : Nat) : List Int := tabI (fun i => if i < k then (x * rn a i + y * rn b i) % m else 0) a.length
theorem cmbP_0 (m x : Int) (a : List Int) (y : Int) (b : List Int) : List.replicate a.length 0 = cmbP m x a y b 0 := by
  apply List.ext_getElem
  · simp -implicitDefEqProofs (maxSteps := 3000000) [cmbP]
  · intro i h1 h2; simp -implicitDefEqProofs (maxSteps := 3000000) [cmbP, tabI]
theorem cmbP_set {m x : Int} {a : List Int} {y : Int} {b : List Int} {k : Nat} (hk : k < a.length) : (cmbP m x a y b k).set k ((x * rn a k + y * rn b k) % m) = cmbP m x a y b (k + 1) := by
  apply List.ext_getElem
  · simp -implicitDefEqProofs (maxSteps := 3000000) [cmbP]
  · intro i h1 h2
    rw [List.getElem_set]
    simp only [cmbP, tabI, List.getElem_map, List.getElem_range]
    by_cases e : k = i
    · subst e; simp -implicitDefEqProofs (maxSteps := 3000000)
    · rw [if_neg e]
      by_cases h : i < k
      · rw [if_pos h, if_pos (by omega)]
      · rw [if_neg h, if_neg (by omega)]
theorem cmbP_all (m x : Int) (a : List Int) (y : Int) (b : List Int) : cmbP m x a y b a.length = cmb m x a y b := by
  apply List.ext_getElem
  · simp -implicitDefEqProofs (maxSteps := 3000000) [cmbP, cmb]
  · intro i h1 h2
    simp only [cmbP, tabI_len] at h1
    simp -implicitDefEqProofs (maxSteps := 3000000) [cmbP, cmb, tabI, h1]
@[simp] theorem cmbP_len (m x : Int) (a : List Int) (y : Int) (b : List Int) (k : Nat) : (cmbP m x a y b k).length = a.length := by simp -implicitDefEqProofs (maxSteps := 3000000) [cmbP]
theorem ct_combined (n : Nat) (hn : B + 1 ≤ n) (M : Int) (hM : 1 ≤ M ∧ M ≤ 200) (X : YtnfhglplafmfiaaGreatE.D) (x y : Int) (hx : -200 ≤ x ∧ x ≤ 200) (hy : -200 ≤ y ∧ y ≤ 200) (p q : Bool) (a b : List Int) (hl : a.length ≤ 10000000) (hab : a.length ≤ b.length)
    (ha : ∀ i, 0 ≤ rn a i ∧ rn a i ≤ 200) (hb : ∀ i, 0 ≤ rn b i ∧ rn b i ≤ 200) :
    evalCall Tryz.prog An n 221 [.d (.cellp [.int .i64 M, X]), .d (.int .i64 x), .d (srow p a), .d (.int .i64 y), .d (srow q b)] [] = some ⟨.own 0 0, [.row (icells (cmb M x a y b))], []⟩ := by
  obtain ⟨m, rfl⟩ : ∃ m, n = m + 1 := ⟨n - 1, by omega⟩
  have hB := B_eq
  simp only [evalCall_at, fb221, bnd_some, bodyOf, Tryz.f221, Option.getD_some]
  generalize hb0 : Code.loop _ = cc0
  obtain rfl : cc0 = .loop (lp Tryz.f221 0) := by rw [← hb0]; rfl
  clear hb0
  have h1 : (a.length : Int) ≤ 1099511627776 := by omega
  have z0 := cmbP_0 M x a y b
  have hM0 : M ≠ 0 := by omega
  have step : ∀ i, i < a.length → ∃ t : Int, IntKind.wrap .i64 (IntKind.wrap .i64 (x * rn a i) + IntKind.wrap .i64 (y * rn b i)) = t ∧ IntKind.wrap .i64 (t.tmod M + M) = t.tmod M + M ∧ (t.tmod M + M).tmod M = (x * rn a i + y * rn b i) % M := by
    intro i hi
    have m1 := mul_sm2 hx (ha i)
    have m2 := mul_sm2 hy (hb i)
    refine ⟨x * rn a i + y * rn b i, ?_, ?_, tmod_fix (by omega)⟩
    · rw [wrap_id (n := x * rn a i) (by omega), wrap_id (n := y * rn b i) (by omega), wrap_id (by omega)]
    · have h2 := Int.lt_tmod_of_pos (x * rn a i + y * rn b i) (show 0 < M by omega)
      have h3 := Int.tmod_lt_of_pos (x * rn a i + y * rn b i) (show 0 < M by omega)
      exact wrap_id (by omega)
  cases p <;> cases q
  all_goals
    simp -implicitDefEqProofs (maxSteps := 3000000) [h1, z0]
    generalize hx : loopC _ _ _ = z
  · skip
    generalize hl : lp Tryz.f221 0 = L at hx
    simp only [lp, bodyOf, Tryz.f221, Option.getD_some, loopsIn, List.append_nil, List.nil_append, List.cons_append, List.getD, List.getElem?_cons_zero, List.getElem?_cons_succ] at hl
    subst hl
    obtain ⟨qq, rfl, hqq⟩ := loop_end hx a.length (fun i s => ∃ g, s = ⟨[(0, .d (.cellp [.int .i64 M, X])), (1, .d (.int .i64 x)), (3, .d (.int .i64 y)), (4, .d (ints b)), (11, .own 256 4), (17, .d (ints a)), (18, .d (.int .i64 a.length)), (19, .d (.int .i64 i))], [(256, some (4, .row (icells (cmbP M x a y b i))))], g⟩)
      (fun qq => ∃ s, qq = (.exit 0, s) ∧ lookL s.env 11 = some (.own 256 4) ∧ obsL s.obs 256 = some (4, .row (icells (cmbP M x a y b a.length))))
      (by show a.length < m; omega) (by simp -implicitDefEqProofs (maxSteps := 3000000))
      (by
        rintro i s hi ⟨g, rfl⟩
        have w2 := wrap_id (n := (i : Int) + 1) (by omega)
        have hib : i < b.length := by omega
        obtain ⟨t, t1, t2, t3⟩ := step i hi
        have cs := cmbP_set (m := M) (x := x) (a := a) (y := y) (b := b) hi
        rw [← cs]
        simp -implicitDefEqProofs (maxSteps := 3000000) [hi, hib, w2, t1, t2, t3, hM0])
      (by
        rintro s ⟨g, rfl⟩
        simp -implicitDefEqProofs (maxSteps := 3000000))
    obtain ⟨s, rfl, hf⟩ := hqq
    simp -implicitDefEqProofs (maxSteps := 3000000) [hf, cmbP_all]
  · skip
    generalize hl : lp Tryz.f221 0 = L at hx
    simp only [lp, bodyOf, Tryz.f221, Option.getD_some, loopsIn, List.append_nil, List.nil_append, List.cons_append, List.getD, List.getElem?_cons_zero, List.getElem?_cons_succ] at hl
    subst hl
    obtain ⟨qq, rfl, hqq⟩ := loop_end hx a.length (fun i s => ∃ g, s = ⟨[(0, .d (.cellp [.int .i64 M, X])), (1, .d (.int .i64 x)), (3, .d (.int .i64 y)), (4, .d (.pin (icells b))), (11, .own 256 4), (17, .d (ints a)), (18, .d (.int .i64 a.length)), (19, .d (.int .i64 i))], [(256, some (4, .row (icells (cmbP M x a y b i))))], g⟩)
      (fun qq => ∃ s, qq = (.exit 0, s) ∧ lookL s.env 11 = some (.own 256 4) ∧ obsL s.obs 256 = some (4, .row (icells (cmbP M x a y b a.length))))
      (by show a.length < m; omega) (by simp -implicitDefEqProofs (maxSteps := 3000000))
      (by
        rintro i s hi ⟨g, rfl⟩
        have w2 := wrap_id (n := (i : Int) + 1) (by omega)
        have hib : i < b.length := by omega
        obtain ⟨t, t1, t2, t3⟩ := step i hi
        have cs := cmbP_set (m := M) (x := x) (a := a) (y := y) (b := b) hi
        rw [← cs]
        simp -implicitDefEqProofs (maxSteps := 3000000) [hi, hib, w2, t1, t2, t3, hM0])
      (by
        rintro s ⟨g, rfl⟩
        simp -implicitDefEqProofs (maxSteps := 3000000))
    obtain ⟨s, rfl, hf⟩ := hqq
    simp -implicitDefEqProofs (maxSteps := 3000000) [hf, cmbP_all]
  · skip
    generalize hl : lp Tryz.f221 0 = L at hx
    simp only [lp, bodyOf, Tryz.f221, Option.getD_some, loopsIn, List.append_nil, List.nil_append, List.cons_append, List.getD, List.getElem?_cons_zero, List.getElem?_cons_succ] at hl
    subst hl
    obtain ⟨qq, rfl, hqq⟩ := loop_end hx a.length (fun i s => ∃ g, s = ⟨[(0, .d (.cellp [.int .i64 M, X])), (1, .d (.int .i64 x)), (3, .d (.int .i64 y)), (4, .d (ints b)), (11, .own 256 4), (17, .d (.pin (icells a))), (18, .d (.int .i64 a.length)), (19, .d (.int .i64 i))], [(256, some (4, .row (icells (cmbP M x a y b i))))], g⟩)
      (fun qq => ∃ s, qq = (.exit 0, s) ∧ lookL s.env 11 = some (.own 256 4) ∧ obsL s.obs 256 = some (4, .row (icells (cmbP M x a y b a.length))))
      (by show a.length < m; omega) (by simp -implicitDefEqProofs (maxSteps := 3000000))
      (by
        rintro i s hi ⟨g, rfl⟩
        have w2 := wrap_id (n := (i : Int) + 1) (by omega)
        have hib : i < b.length := by omega
        obtain ⟨t, t1, t2, t3⟩ := step i hi
        have cs := cmbP_set (m := M) (x := x) (a := a) (y := y) (b := b) hi
        rw [← cs]
        simp -implicitDefEqProofs (maxSteps := 3000000) [hi, hib, w2, t1, t2, t3, hM0])
      (by
        rintro s ⟨g, rfl⟩
        simp -implicitDefEqProofs (maxSteps := 3000000))
    obtain ⟨s, rfl, hf⟩ := hqq
    simp -implicitDefEqProofs (maxSteps := 3000000) [hf, cmbP_all]
  · skip
    generalize hl : lp Tryz.f221 0 = L at hx
    simp only [lp, bodyOf, Tryz.f221, Option.getD_some, loopsIn, List.append_nil, List.nil_append, List.cons_append, List.getD, List.getElem?_cons_zero, List.getElem?_cons_succ] at hl
    subst hl
    obtain ⟨qq, rfl, hqq⟩ := loop_end hx a.length (fun i s => ∃ g, s = ⟨[(0, .d (.cellp [.int .i64 M, X])), (1, .d (.int .i64 x)), (3, .d (.int .i64 y)), (4, .d (.pin (icells b))), (11, .own 256 4), (17, .d (.pin (icells a))), (18, .d (.int .i64 a.length)), (19, .d (.int .i64 i))], [(256, some (4, .row (icells (cmbP M x a y b i))))], g⟩)
      (fun qq => ∃ s, qq = (.exit 0, s) ∧ lookL s.env 11 = some (.own 256 4) ∧ obsL s.obs 256 = some (4, .row (icells (cmbP M x a y b a.length))))
      (by show a.length < m; omega) (by simp -implicitDefEqProofs (maxSteps := 3000000))
      (by
        rintro i s hi ⟨g, rfl⟩
        have w2 := wrap_id (n := (i : Int) + 1) (by omega)
        have hib : i < b.length := by omega
        obtain ⟨t, t1, t2, t3⟩ := step i hi
        have cs := cmbP_set (m := M) (x := x) (a := a) (y := y) (b := b) hi
        rw [← cs]
        simp -implicitDefEqProofs (maxSteps := 3000000) [hi, hib, w2, t1, t2, t3, hM0])
      (by
        rintro s ⟨g, rfl⟩
        simp -implicitDefEqProofs (maxSteps := 3000000))
    obtain ⟨s, rfl, hf⟩ := hqq
    simp -implicitDefEqProofs (maxSteps := 3000000) [hf, cmbP_all]
end Go.Proofs.YtnfhglplafmfiaaGreatE
