/- Contracts of functions of the program and of the reference: what the evaluator gives for a call of each. -/
import Derived.Test.YtgklblkigjbggaaAEf
import Derived.Test.YtgklblkigjbggaaK0
import Derived.Test.YtgklblkigjbggaaK2
import Derived.Test.YtgklblkigjbggaaK17
import Derived.Test.YtgklblkigjbggaaK21
import Derived.Test.YtgklblkigjbggaaK43
import Derived.Test.YtgklblkigjbggaaK44
import Derived.Test.YtgklblkigjbggaaK46
import Derived.Test.YtgklblkigjbggaaK57
namespace Go.Proofs.YtgklblkigjbggaaE
open Go Go.Proofs
set_option maxHeartbeats 4000000
set_option maxRecDepth 4000
set_option linter.unusedSimpArgs false
set_option linter.unusedVariables false
set_option pp.deepTerms false
set_option pp.deepTerms.threshold 10
/-! ## NewDesk -/
def cyE (n i k : Nat) : Int := ((i + k : Nat) : Int) % n
def cyR (n i : Nat) : List Int := tabI (cyE n i) n
def cyG (n : Nat) : List (List Int) := tabM (cyR n) n
@[simp] theorem cyG_len (n : Nat) : (cyG n).length = n := by simp -implicitDefEqProofs (maxSteps := 3000000) [cyG]
theorem cyG_rows (n i : Nat) : (rown (cyG n) i).length ≤ n := by
  by_cases e : i < n
  · rw [cyG, rown_tabM _ e]; simp -implicitDefEqProofs (maxSteps := 3000000) [cyR]
  · rw [rown_out (by simp; omega)]; simp -implicitDefEqProofs (maxSteps := 3000000)
theorem lp_l01Cyclic_1 (m : Nat) (hm : B + 2 ≤ m) (N : Nat) (hN : 1 ≤ N ∧ N ≤ 8) (i : Nat) (hi : i < N) (X : List (List Int)) (v : Nat)
    {st : St} {o : Option (Ex × St)} (hx : loopC (cxAt 22 m) (lp Try.f22 1) st = o) {v2 : Nat}
    (f : obsL st.obs 32 = some (1, .box [.d .nil]) ∧ obsL st.obs 48 = some (4, .box [.own 112 v]) ∧ obsL st.obs 112 = some (v, .mat true (mcells X)) ∧ obsL st.obs 224 = some (v2, .row (icells (tabI (cyE N i) (0)))) ∧ obsL st.obs 432 = none ∧ obsL st.obs 512 = none ∧ lookL st.env 0 = some (.d (.int .i64 N)) ∧ lookL st.env 2 = some (.ptr 32 1 0) ∧ lookL st.env 3 = some (.ptr 48 4 0) ∧ lookL st.env 4 = some (.d (.int .i64 i)) ∧ lookL st.env 5 = some (.own 224 v2) ∧ lookL st.env 6 = some (.d (.int .i64 (0)))) :
    ∃ s v2, o = some (.exit 2, s) ∧ obsL s.obs 32 = some (1, .box [.d .nil]) ∧ obsL s.obs 48 = some (4, .box [.own 112 v]) ∧ obsL s.obs 112 = some (v, .mat true (mcells X)) ∧ obsL s.obs 224 = some (v2, .row (icells (tabI (cyE N i) (N)))) ∧ obsL s.obs 432 = none ∧ obsL s.obs 512 = none ∧ lookL s.env 0 = some (.d (.int .i64 N)) ∧ lookL s.env 2 = some (.ptr 32 1 0) ∧ lookL s.env 3 = some (.ptr 48 4 0) ∧ lookL s.env 4 = some (.d (.int .i64 i)) ∧ lookL s.env 5 = some (.own 224 v2) := by
  have hB := B_eq
  generalize hl : lp Try.f22 1 = L at hx
  simp only [lp, bodyOf, Try.f22, Option.getD_some, loopsIn, List.append_nil, List.nil_append, List.cons_append, List.getD, List.getElem?_cons_zero, List.getElem?_cons_succ] at hl
  subst hl
  obtain ⟨qq, rfl, hqq⟩ := loop_end hx (N) (fun k s => ∃ g v2, s = ⟨[(0, .d (.int .i64 N)), (2, .ptr 32 1 0), (3, .ptr 48 4 0), (4, .d (.int .i64 i)), (5, .own 224 v2), (6, .d (.int .i64 k))], [(32, some (1, .box [.d .nil])), (48, some (4, .box [.own 112 v])), (112, some (v, .mat true (mcells X))), (224, some (v2, .row (icells (tabI (cyE N i) k))))], g⟩)
    (fun qq => ∃ s v2, qq = (.exit 2, s) ∧ obsL s.obs 32 = some (1, .box [.d .nil]) ∧ obsL s.obs 48 = some (4, .box [.own 112 v]) ∧ obsL s.obs 112 = some (v, .mat true (mcells X)) ∧ obsL s.obs 224 = some (v2, .row (icells (tabI (cyE N i) (N)))) ∧ obsL s.obs 432 = none ∧ obsL s.obs 512 = none ∧ lookL s.env 0 = some (.d (.int .i64 N)) ∧ lookL s.env 2 = some (.ptr 32 1 0) ∧ lookL s.env 3 = some (.ptr 48 4 0) ∧ lookL s.env 4 = some (.d (.int .i64 i)) ∧ lookL s.env 5 = some (.own 224 v2))
    (by show N < m; omega) (by
      simp -implicitDefEqProofs (maxSteps := 3000000) [f])
    (by
      rintro k s hk ⟨g, v2, rfl⟩
      have w2 := wrap_id (n := (k : Int) + 1) (by omega)
      have w3 := wrap_id (n := (i : Int) + k) (by omega)
      have hs := tabI_succ (cyE N i) k
      have ee : cyE N i k = ((i : Int) + k).tmod N := by
        rw [Int.tmod_eq_emod_of_nonneg (by omega)]
        simp -implicitDefEqProofs (maxSteps := 3000000) [cyE]
      have hz : (N : Int) ≠ 0 := by omega
      have hz2 : N ≠ 0 := by omega
      have hl := lt_bound (n := k) (by omega)
      have hl2 := le_bound (n := k) (by omega)
      rw [ee] at hs
      simp -implicitDefEqProofs (maxSteps := 3000000) [hi, hk, hz, hz2, w2, w3, hs, hl, hl2])
    (by
      rintro s ⟨g, v2, rfl⟩
      simp -implicitDefEqProofs (maxSteps := 3000000))
  obtain ⟨s, v2, rfl, hf⟩ := hqq
  exact ⟨s, v2, rfl, hf⟩
theorem ct_l01Cyclic (n : Nat) (hn : B + 1 + 4 ≤ n) (N : Nat) (hN : 1 ≤ N ∧ N ≤ 8) :
    evalCall Try.prog An n 22 [.d (.int .i64 N)] [] = some ⟨.agg [.own 0 0], [.mat false (mcells (cyG N))], []⟩ := by
  obtain ⟨m, rfl⟩ : ∃ m, n = m + 1 := ⟨n - 1, by omega⟩
  have hB := B_eq
  simp only [evalCall_at, fb22, bnd_some, bodyOf, Try.f22, Option.getD_some]
  generalize hb0 : Code.loop _ = cc0
  obtain rfl : cc0 = .loop (lp Try.f22 0) := by rw [← hb0]; rfl
  clear hb0
  simp -implicitDefEqProofs (maxSteps := 3000000)
  generalize hx : loopC _ _ _ = x
  generalize hl : lp Try.f22 0 = L at hx
  simp only [lp, bodyOf, Try.f22, Option.getD_some, loopsIn, List.append_nil, List.nil_append, List.cons_append, List.getD, List.getElem?_cons_zero, List.getElem?_cons_succ] at hl
  subst hl
  generalize hb1 : Code.loop _ = cc1 at hx
  obtain rfl : cc1 = .loop (lp Try.f22 1) := by rw [← hb1]; rfl
  clear hb1
  obtain ⟨qq, rfl, hqq⟩ := loop_end hx (N) (fun i s => ∃ g v, s = ⟨[(0, .d (.int .i64 N)), (2, .ptr 32 1 0), (3, .ptr 48 4 0), (4, .d (.int .i64 i))], [(32, some (1, .box [.d .nil])), (48, some (4, .box [.own 112 v])), (112, some (v, .mat true (mcells (tabM (cyR N) i))))], g⟩)
    (fun qq => ∃ s v, qq = (.exit 0, s) ∧ lookL s.env 0 = some (.d (.int .i64 N)) ∧ lookL s.env 2 = some (.ptr 32 1 0) ∧ lookL s.env 3 = some (.ptr 48 4 0) ∧ lookL s.env 4 = some (.d (.int .i64 (N))) ∧ obsL s.obs 32 = some (1, .box [.d .nil]) ∧ obsL s.obs 48 = some (4, .box [.own 112 v]) ∧ obsL s.obs 112 = some (v, .mat true (mcells (tabM (cyR N) (N)))))
    (by show N < m; omega) (by
      simp -implicitDefEqProofs (maxSteps := 3000000))
    (by
      rintro i s hi ⟨g, v, rfl⟩
      have w2 := wrap_id (n := (i : Int) + 1) (by omega)
      have hs := tabM_succ (cyR N) i
      have hl := lt_bound (n := i) (by omega)
      simp -implicitDefEqProofs (maxSteps := 3000000) [hi]
      generalize hy : loopC _ _ _ = y
      obtain ⟨s, v2, rfl, hq⟩ := lp_l01Cyclic_1 m (by omega) N hN i hi (tabM (cyR N) i) v hy (by simp; rfl)
      rw [show tabI (cyE N i) N = cyR N i from rfl] at hq
      simp -implicitDefEqProofs (maxSteps := 3000000) [hq, w2, hl, le_bound (n := i) (by omega), hs])
    (by
      rintro s ⟨g, v, rfl⟩
      simp -implicitDefEqProofs (maxSteps := 3000000))
  obtain ⟨s, v, rfl, hf⟩ := hqq
  simp -implicitDefEqProofs (maxSteps := 3000000) [hf, cyG]
theorem ct_cyclic1 (n : Nat) (hn : B + 1 ≤ n) (N : Nat) (hN : 1 ≤ N ∧ N ≤ 8) (i k : Nat) (hi : i < N) (hk : k < N) :
    evalCall Try.prog An n 26 [.d (.int .i64 i), .d (.int .i64 k), .d (.cellp [.int .i64 N])] [] = some ⟨.d (.int .i64 (cyE N i k)), [], []⟩ := by
  obtain ⟨m, rfl⟩ : ∃ m, n = m + 1 := ⟨n - 1, by omega⟩
  have hB := B_eq
  simp only [evalCall_at, fb26, bnd_some, bodyOf, Try.f26, Option.getD_some]
  have w3 := wrap_id (n := (i : Int) + k) (by omega)
  have ee : cyE N i k = ((i : Int) + k).tmod N := by
    rw [Int.tmod_eq_emod_of_nonneg (by omega)]
    simp -implicitDefEqProofs (maxSteps := 3000000) [cyE]
  have hz : (N : Int) ≠ 0 := by omega
  have hz2 : N ≠ 0 := by omega
  rw [ee]
  simp -implicitDefEqProofs (maxSteps := 3000000) [w3, hz, hz2]
theorem ct_cyclic (n : Nat) (hn : B + 2 + 6 ≤ n) (N : Nat) (hN : 1 ≤ N ∧ N ≤ 8) :
    evalCall Try.prog An n 10 [.d (.int .i64 N)] [] = some ⟨.agg [.own 0 0], [.mat false (mcells (cyG N))], []⟩ := by
  obtain ⟨m, rfl⟩ : ∃ m, n = m + 1 := ⟨n - 1, by omega⟩
  have hB := B_eq
  simp only [evalCall_at, fb10, bnd_some, bodyOf, Try.f10, Option.getD_some]
  have c2 := ct_made m (by omega) N (by omega) 26 [.cellp [.int .i64 N]] (cyE N) (B + 1) (by omega)
    (fun m hm i hi k hk => by simpa using ct_cyclic1 m hm N hN i k hi hk) (by simp -implicitDefEqProofs (maxSteps := 3000000))
  have e : tabM (fun i => tabI (cyE N i) N) N = cyG N := rfl
  rw [e] at c2
  simp -implicitDefEqProofs (maxSteps := 3000000) [c2]
theorem ct_freshDesk (n : Nat) (hn : B + 4 + 2 ≤ n) (T : List (List Int)) (hT : 1 ≤ T.length ∧ T.length ≤ 8) (M : Int) (U : List Int) :
    evalCall Try.prog An n 11 [.agg [.own 100000 0], .agg [.d (.int .i64 M), .own 100001 0]] [.mat false (mcells T), .row (icells U)] = some ⟨.agg [.own 100000 0, .d (.int .i64 M), .own 100001 0, .d (.int .i64 1), .own 0 0], [.row (icells (List.replicate ((T.length - 1) ^ 1) 0))], [some (.mat false (mcells T)), some (.row (icells U))]⟩ := by
  obtain ⟨m, rfl⟩ : ∃ m, n = m + 1 := ⟨n - 1, by omega⟩
  have hB := B_eq
  simp only [evalCall_at, fb11, bnd_some, bodyOf, Try.f11, Option.getD_some]
  have c1 := ct_zero m (by omega) T hT 1 (by omega)
  simp -implicitDefEqProofs (maxSteps := 3000000) at c1
  simp -implicitDefEqProofs (maxSteps := 3000000) [c1]
theorem ct_l11Fresh (n : Nat) (hn : B + 4 + 2 ≤ n) (T : List (List Int)) (hT : 1 ≤ T.length ∧ T.length ≤ 8) (M : Int) (U : List Int) :
    evalCall Try.prog An n 23 [.agg [.own 100000 0], .agg [.d (.int .i64 M), .own 100001 0]] [.mat false (mcells T), .row (icells U)] = some ⟨.agg [.own 100000 0, .d (.int .i64 M), .own 100001 0, .d (.int .i64 1), .own 0 0], [.row (icells (List.replicate ((T.length - 1) ^ 1) 0))], [some (.mat false (mcells T)), some (.row (icells U))]⟩ := by
  obtain ⟨m, rfl⟩ : ∃ m, n = m + 1 := ⟨n - 1, by omega⟩
  have hB := B_eq
  simp only [evalCall_at, fb23, bnd_some, bodyOf, Try.f23, Option.getD_some]
  have c1 := ct_l03Zero m (by omega) T hT 1 (by omega)
  simp -implicitDefEqProofs (maxSteps := 3000000) at c1
  simp -implicitDefEqProofs (maxSteps := 3000000) [c1]
theorem ct_eqDesk (n : Nat) (hn : B + 4 + 2 ≤ n) (T : List (List Int)) (hT : T.length ≤ 10000) (hr : ∀ i, (rown T i).length ≤ 10000) (M : Int) (U : List Int) (hU : U.length ≤ 10000) (D : Int) (V : List Int) (hV : V.length ≤ 10000) :
    evalCall Try.prog An n 6 [.agg [.d (intss T), .d (.int .i64 M), .d (ints U), .d (.int .i64 D), .d (ints V)], .agg [.d (intss T), .d (.int .i64 M), .d (ints U), .d (.int .i64 D), .d (ints V)]] [] = some ⟨.d (.bool true), [], []⟩ := by
  obtain ⟨m, rfl⟩ : ∃ m, n = m + 1 := ⟨n - 1, by omega⟩
  have hB := B_eq
  simp only [evalCall_at, fb6, bnd_some, bodyOf, Try.f6, Option.getD_some]
  have c1 := ct_eqGroup m (by omega) T (by omega) (fun i => by have := hr i; omega)
  have c2 := ct_eqModule m (by omega) M U (by omega)
  have c3 := ct_eqCochain m (by omega) D V (by omega)
  simp -implicitDefEqProofs (maxSteps := 3000000) [c1, c2, c3]
theorem ct_markDesk (n : Nat) (hn : B + 4 + 2 ≤ n) (T : List (List Int)) (hT : T.length ≤ 10000) (hr : ∀ i, (rown T i).length ≤ 10000) (M : Int) (U : List Int) (hU : U.length ≤ 10000) (D : Int) (V : List Int) (hV : V.length ≤ 10000) (k : Int) (hk : 0 ≤ k ∧ k < 1000) (hm : mkv k T T.length < 1000000) :
    evalCall Try.prog An n 7 [.agg [.own 100000 0, .d (.int .i64 M), .own 100001 0, .d (.int .i64 D), .own 100002 0], .d (.int .i64 k)] [.mat false (mcells T), .row (icells U), .row (icells V)] = some ⟨.d (.int .i64 (mkv k T T.length + U.length + V.length)), [], [some (.mat false (mcells (mkt k T T.length))), some (.row (icells (marks (mkv k T T.length) U.length))), some (.row (icells (marks (mkv k T T.length + U.length) V.length)))]⟩ := by
  obtain ⟨m, rfl⟩ : ∃ m, n = m + 1 := ⟨n - 1, by omega⟩
  have hB := B_eq
  simp only [evalCall_at, fb7, bnd_some, bodyOf, Try.f7, Option.getD_some]
  have b := (mkv_bd k T (fun i => by have := hr i; omega) T.length).1
  have c1 := ct_markGroup m (by omega) T (by omega) (fun i => by have := hr i; omega) k (by omega)
  have c2 := ct_markModule m (by omega) M U (by omega) (mkv k T T.length) (by omega)
  have c3 := ct_markCochain m (by omega) D V (by omega) (mkv k T T.length + U.length) (by omega)
  simp -implicitDefEqProofs (maxSteps := 3000000) [c1, c2, c3]
theorem ct_heldDesk (n : Nat) (hn : B + 4 + 2 ≤ n) (T : List (List Int)) (hT : T.length ≤ 10000) (hr : ∀ i, (rown T i).length ≤ 10000) (M : Int) (u : Nat) (hU : u ≤ 10000) (D : Int) (v : Nat) (hV : v ≤ 10000) (k : Int) (hk : 0 ≤ k ∧ k < 1000) (hm : mkv k T T.length < 1000000) :
    evalCall Try.prog An n 8 [.agg [.d (intss (mkt k T T.length)), .d (.int .i64 M), .d (ints (marks (mkv k T T.length) u)), .d (.int .i64 D), .d (ints (marks (mkv k T T.length + u) v))], .d (.int .i64 k)] [] = some ⟨.d (.int .i64 (mkv k T T.length + u + v)), [], []⟩ := by
  obtain ⟨m, rfl⟩ : ∃ m, n = m + 1 := ⟨n - 1, by omega⟩
  have hB := B_eq
  simp only [evalCall_at, fb8, bnd_some, bodyOf, Try.f8, Option.getD_some]
  have b := (mkv_bd k T (fun i => by have := hr i; omega) T.length).1
  have c1 := ct_heldGroup m (by omega) T (by omega) (fun i => by have := hr i; omega) k (by omega)
  have c2 := ct_heldModule m (by omega) M u (by omega) (mkv k T T.length) (by omega)
  have c3 := ct_heldCochain m (by omega) D v (by omega) (mkv k T T.length + u) (by omega)
  have n1 : ¬ (mkv k T T.length < 0) := by omega
  have n2 : ¬ (mkv k T T.length + u < 0) := by omega
  have n3 : ¬ (mkv k T T.length + u + v < 0) := by omega
  simp -implicitDefEqProofs (maxSteps := 3000000) [c1, c2, c3, n1, n2, n3]
end Go.Proofs.YtgklblkigjbggaaE
