/- Contracts of functions of the program and of the reference: what the evaluator gives for a call of each. -/
import Derived.Test.YtfichikabolknaaGreatAEf
import Derived.Test.YtfichikabolknaaGreatK0
import Derived.Test.YtfichikabolknaaGreatK21
namespace Go.Proofs.YtfichikabolknaaGreatE
open Go Go.Proofs
set_option maxHeartbeats 4000000
set_option maxRecDepth 4000
set_option linter.unusedSimpArgs false
set_option linter.unusedVariables false
set_option pp.deepTerms false
set_option pp.deepTerms.threshold 10
/-! ## NewDesk -/
def cyE (n i k : Nat) : Int := ((i + k : Nat) : Int) % n
def cyR (n i : Nat) : List Int := tabI (cyE n i) n
def cyG (n : Nat) : List (List Int) := tabM (cyR n) n
@[simp] theorem cyG_len (n : Nat) : (cyG n).length = n := by simp -implicitDefEqProofs (maxSteps := 3000000) [cyG]
theorem cyG_rows (n i : Nat) : (rown (cyG n) i).length ≤ n := by
  by_cases e : i < n
  · rw [cyG, rown_tabM _ e]; simp -implicitDefEqProofs (maxSteps := 3000000) [cyR]
  · rw [rown_out (by simp; omega)]; simp -implicitDefEqProofs (maxSteps := 3000000)
theorem lp_l01Cyclic_1 (m : Nat) (hm : B + 2 ≤ m) (N : Nat) (hN : 1 ≤ N ∧ N ≤ 8) (i : Nat) (hi : i < N) (X : List (List Int)) (v : Nat)
    {st : St} {o : Option (Ex × St)} (hx : loopC (cxAt 341 m) (lp Tryz.f341 1) st = o) {v2 : Nat}
    (f : obsL st.obs 32 = some (1, .box [.d .nil]) ∧ obsL st.obs 48 = some (4, .box [.own 112 v]) ∧ obsL st.obs 112 = some (v, .mat true (mcells X)) ∧ obsL st.obs 224 = some (v2, .row (icells (tabI (cyE N i) (0)))) ∧ obsL st.obs 432 = none ∧ obsL st.obs 512 = none ∧ lookL st.env 0 = some (.d (.int .i64 N)) ∧ lookL st.env 2 = some (.ptr 32 1 0) ∧ lookL st.env 3 = some (.ptr 48 4 0) ∧ lookL st.env 4 = some (.d (.int .i64 i)) ∧ lookL st.env 5 = some (.own 224 v2) ∧ lookL st.env 6 = some (.d (.int .i64 (0)))) :
    ∃ s v2, o = some (.exit 2, s) ∧ obsL s.obs 32 = some (1, .box [.d .nil]) ∧ obsL s.obs 48 = some (4, .box [.own 112 v]) ∧ obsL s.obs 112 = some (v, .mat true (mcells X)) ∧ obsL s.obs 224 = some (v2, .row (icells (tabI (cyE N i) (N)))) ∧ obsL s.obs 432 = none ∧ obsL s.obs 512 = none ∧ lookL s.env 0 = some (.d (.int .i64 N)) ∧ lookL s.env 2 = some (.ptr 32 1 0) ∧ lookL s.env 3 = some (.ptr 48 4 0) ∧ lookL s.env 4 = some (.d (.int .i64 i)) ∧ lookL s.env 5 = some (.own 224 v2) := by
  have hB := B_eq
  generalize hl : lp Tryz.f341 1 = L at hx
  simp only [lp, bodyOf, Tryz.f341, Option.getD_some, loopsIn, List.append_nil, List.nil_append, List.cons_append, List.getD, List.getElem?_cons_zero, List.getElem?_cons_succ] at hl
  subst hl
  obtain ⟨qq, rfl, hqq⟩ := loop_end hx (N) (fun k s => ∃ g v2, s = ⟨[(0, .d (.int .i64 N)), (2, .ptr 32 1 0), (3, .ptr 48 4 0), (4, .d (.int .i64 i)), (5, .own 224 v2), (6, .d (.int .i64 k))], [(32, some (1, .box [.d .nil])), (48, some (4, .box [.own 112 v])), (112, some (v, .mat true (mcells X))), (224, some (v2, .row (icells (tabI (cyE N i) k))))], g⟩)
    (fun qq => ∃ s v2, qq = (.exit 2, s) ∧ obsL s.obs 32 = some (1, .box [.d .nil]) ∧ obsL s.obs 48 = some (4, .box [.own 112 v]) ∧ obsL s.obs 112 = some (v, .mat true (mcells X)) ∧ obsL s.obs 224 = some (v2, .row (icells (tabI (cyE N i) (N)))) ∧ obsL s.obs 432 = none ∧ obsL s.obs 512 = none ∧ lookL s.env 0 = some (.d (.int .i64 N)) ∧ lookL s.env 2 = some (.ptr 32 1 0) ∧ lookL s.env 3 = some (.ptr 48 4 0) ∧ lookL s.env 4 = some (.d (.int .i64 i)) ∧ lookL s.env 5 = some (.own 224 v2))
    (by show N < m; omega) (by
      simp -implicitDefEqProofs (maxSteps := 3000000) [f])
    (by
      rintro k s hk ⟨g, v2, rfl⟩
      have w2 := wrap_id (n := (k : Int) + 1) (by omega)
      have w3 := wrap_id (n := (i : Int) + k) (by omega)
      have hs := tabI_succ (cyE N i) k
      have ee : cyE N i k = ((i : Int) + k).tmod N := by
        rw [Int.tmod_eq_emod_of_nonneg (by omega)]
        simp -implicitDefEqProofs (maxSteps := 3000000) [cyE]
      have hz : (N : Int) ≠ 0 := by omega
      have hz2 : N ≠ 0 := by omega
      have hl := lt_bound (n := k) (by omega)
      have hl2 := le_bound (n := k) (by omega)
      rw [ee] at hs
      simp -implicitDefEqProofs (maxSteps := 3000000) [hi, hk, hz, hz2, w2, w3, hs, hl, hl2])
    (by
      rintro s ⟨g, v2, rfl⟩
      simp -implicitDefEqProofs (maxSteps := 3000000))
  obtain ⟨s, v2, rfl, hf⟩ := hqq
  exact ⟨s, v2, rfl, hf⟩
theorem ct_l01Cyclic (n : Nat) (hn : B + 1 + 4 ≤ n) (N : Nat) (hN : 1 ≤ N ∧ N ≤ 8) :
    evalCall Tryz.prog An n 341 [.d (.int .i64 N)] [] = some ⟨.agg [.own 0 0], [.mat false (mcells (cyG N))], []⟩ := by
  obtain ⟨m, rfl⟩ : ∃ m, n = m + 1 := ⟨n - 1, by omega⟩
  have hB := B_eq
  simp only [evalCall_at, fb341, bnd_some, bodyOf, Tryz.f341, Option.getD_some]
  generalize hb0 : Code.loop _ = cc0
  obtain rfl : cc0 = .loop (lp Tryz.f341 0) := by rw [← hb0]; rfl
  clear hb0
  simp -implicitDefEqProofs (maxSteps := 3000000)
  generalize hx : loopC _ _ _ = x
  generalize hl : lp Tryz.f341 0 = L at hx
  simp only [lp, bodyOf, Tryz.f341, Option.getD_some, loopsIn, List.append_nil, List.nil_append, List.cons_append, List.getD, List.getElem?_cons_zero, List.getElem?_cons_succ] at hl
  subst hl
  generalize hb1 : Code.loop _ = cc1 at hx
  obtain rfl : cc1 = .loop (lp Tryz.f341 1) := by rw [← hb1]; rfl
  clear hb1
  obtain ⟨qq, rfl, hqq⟩ := loop_end hx (N) (fun i s => ∃ g v, s = ⟨[(0, .d (.int .i64 N)), (2, .ptr 32 1 0), (3, .ptr 48 4 0), (4, .d (.int .i64 i))], [(32, some (1, .box [.d .nil])), (48, some (4, .box [.own 112 v])), (112, some (v, .mat true (mcells (tabM (cyR N) i))))], g⟩)
    (fun qq => ∃ s v, qq = (.exit 0, s) ∧ lookL s.env 0 = some (.d (.int .i64 N)) ∧ lookL s.env 2 = some (.ptr 32 1 0) ∧ lookL s.env 3 = some (.ptr 48 4 0) ∧ lookL s.env 4 = some (.d (.int .i64 (N))) ∧ obsL s.obs 32 = some (1, .box [.d .nil]) ∧ obsL s.obs 48 = some (4, .box [.own 112 v]) ∧ obsL s.obs 112 = some (v, .mat true (mcells (tabM (cyR N) (N)))))
    (by show N < m; omega) (by
      simp -implicitDefEqProofs (maxSteps := 3000000))
    (by
      rintro i s hi ⟨g, v, rfl⟩
      have w2 := wrap_id (n := (i : Int) + 1) (by omega)
      have hs := tabM_succ (cyR N) i
      have hl := lt_bound (n := i) (by omega)
      simp -implicitDefEqProofs (maxSteps := 3000000) [hi]
      generalize hy : loopC _ _ _ = y
      obtain ⟨s, v2, rfl, hq⟩ := lp_l01Cyclic_1 m (by omega) N hN i hi (tabM (cyR N) i) v hy (by simp; rfl)
      rw [show tabI (cyE N i) N = cyR N i from rfl] at hq
      simp -implicitDefEqProofs (maxSteps := 3000000) [hq, w2, hl, le_bound (n := i) (by omega), hs])
    (by
      rintro s ⟨g, v, rfl⟩
      simp -implicitDefEqProofs (maxSteps := 3000000))
  obtain ⟨s, v, rfl, hf⟩ := hqq
  simp -implicitDefEqProofs (maxSteps := 3000000) [hf, cyG]
end Go.Proofs.YtfichikabolknaaGreatE
