/- Contracts of functions of the program and of the reference: what the evaluator gives for a call of each. -/
import Derived.Test.YtnfhglplafmfiaaGreatAEf
import Derived.Test.YtnfhglplafmfiaaGreatK1M
import Derived.Test.YtnfhglplafmfiaaGreatK2
import Derived.Test.YtnfhglplafmfiaaGreatK3M
import Derived.Test.YtnfhglplafmfiaaGreatK13
import Derived.Test.YtnfhglplafmfiaaGreatK14
import Derived.Test.YtnfhglplafmfiaaGreatK108
import Derived.Test.YtnfhglplafmfiaaGreatK112
namespace Go.Proofs.YtnfhglplafmfiaaGreatE
open Go Go.Proofs
set_option maxHeartbeats 8000000
set_option maxRecDepth 4000
set_option linter.unusedSimpArgs false
set_option linter.unusedVariables false
set_option pp.deepTerms false
set_option pp.deepTerms.threshold 10
theorem ct_bothImg (n : Nat) (hn : B + 100 ≤ n) (T : List (List Int)) (hT : T.length ≤ 2000000) (hr : ∀ i, (rown T i).length ≤ 1000000000000) (M : Int) (U : List Int) (hU : U.length ≤ 2000000) (k N : Int) (h : IGood T M U k N) :
    ∃ W : List Int, W.length = 3 ∧
    evalCall Tryz.prog An n 9 [.agg [.d (intss T)], .agg [.d (.int .i64 M), .d (ints U)], .d (.int .i64 k), .d (.int .i64 N)] [] = some ⟨.tuple [.own 0 0, .d (.int .i64 0)], [.row (icells W)], []⟩ ∧
    evalCall Tryz.prog An n 12 [.agg [.d (intss T)], .agg [.d (.int .i64 M), .d (ints U)], .d (.int .i64 k), .d (.int .i64 N)] [] = some ⟨.tuple [.own 0 0, .d (.int .i64 0)], [.row (icells W)], []⟩ := by
  obtain ⟨p, rfl⟩ := Int.eq_ofNat_of_zero_le h.2.1.1
  obtain ⟨G, hk⟩ := icode_0.1 h.1
  have hM := G.2.1.1
  obtain ⟨d1, d2, d3⟩ := div_ok hM.1 hk
  obtain ⟨x, y, z, x1, y1, z1, e1⟩ := ct_specImg n hn T hT M U hU k p h
  obtain ⟨x', y', z', x2, y2, z2, e2⟩ := ct_implImg n hn T hT hr M U hU k p h
  rw [x2.uniq (by omega) x1, y2.uniq (by omega) y1, z2.uniq (by omega) z1] at e2
  exact ⟨[x, y, z], rfl, e1, e2⟩

theorem ct_FnExactImageOrders (n : Nat) (hn : B + 11 + 200 ≤ n) (T : List (List Int)) (M : Int) (U : List Int) (k : Int) (N : Int) (hT : (T.length : Int) ≤ 9223372036854775807) (rT : ∀ i, ((rown T i).length : Int) ≤ 9223372036854775807) (hU : (U.length : Int) ≤ 9223372036854775807) (wk : -9223372036854775808 ≤ k ∧ k < 9223372036854775808) (wN : -9223372036854775808 ≤ N ∧ N < 9223372036854775808) :
    evalCall Tryz.prog An n 3 [.agg [.d (intss T)], .agg [.d (.int .i64 M), .d (ints U)], .d (.int .i64 k), .d (.int .i64 N)] [] = some ⟨.d (.bool true), [], []⟩ := by
  obtain ⟨m, rfl⟩ : ∃ m, n = m + 1 := ⟨n - 1, by omega⟩
  have hB := B_eq
  simp only [evalCall_at, fb3, bnd_some, bodyOf, Tryz.f3, Option.getD_some]
  have s1 := ct_szGroup m (by omega) T (1048576) (by omega) hT rT
  have sle1 := szr_le (k := 1048576) (t := T) (by omega)
  by_cases z1 : szr (1048576) T < 0
  · simp -implicitDefEqProofs (maxSteps := 3000000) [s1, z1]
  obtain ⟨a1, a2⟩ := szr_nn z1 (by omega)
  have s2 := ct_szModule m (by omega) M U (szr (1048576) T) (by omega) hU
  by_cases z2 : szr (1048576) T - U.length < 0
  · simp -implicitDefEqProofs (maxSteps := 3000000) [s1, z1, s2, z2]
  rw [if_neg z2] at s2
  have q0 := ct_toGroup m (by omega) T (by omega) (fun i => by have := a2 i; omega)
  have e0 := ct_eqGroup m (by omega) T (by omega) (fun i => by have := a2 i; omega)
  have q1 := ct_toModule m (by omega) M U (by omega)
  have e1 := ct_eqModule m (by omega) M U (by omega)
  have bd := mkv_szs 1 1048576 T T.length
  have bd2 := szs_nn z1
  have bd3 := (mkv_bd 1 T (fun i => by have := a2 i; omega) T.length).1
  have bd4 := szr_last z1
  have k0 := ct_markGroup m (by omega) T (by omega) (fun i => by have := a2 i; omega) 1 (by omega)
  have k1 := ct_markModule m (by omega) M U (by omega) (mkv 1 T T.length) (by omega)
  have n1 : ¬ (mkv 1 T T.length + U.length < 0) := by omega
  by_cases h : IGood T M U k N
  · obtain ⟨W, rl, r1, r2⟩ := ct_bothImg m (by omega) T (by omega) (fun i => by have := a2 i; omega) M U (by omega) k N h
    have x1 := ct_eqInt64S m (by omega) W (by omega)
    have y1 := ct_markInt64S m (by omega) W (by omega) (1) (by omega)
    have v1 := ct_heldInt64S m (by omega) W.length (by omega) (1) (by omega)
    have n2 : ¬ (1 + (W.length : Int) < 0) := by omega
    simp -implicitDefEqProofs (maxSteps := 3000000) [s1, z1, s2, z2, q0, e0, q1, e1, k0, k1, n1, r1, r2, x1, y1, v1, n2]
  · have r1 := ct_specImg_bad m (by omega) T (by omega) M U (by omega) k N wN h
    have r2 := ct_implImg_bad m (by omega) T (by omega) (fun i => by have := a2 i; omega) M U (by omega) k N wN h
    have x1 := ct_eqInt64S_nil m (by omega)
    have y1 := ct_markInt64S_nil m (by omega) (1)
    have v1 := ct_heldInt64S_nil m (by omega) (1)
    simp -implicitDefEqProofs (maxSteps := 3000000) [s1, z1, s2, z2, q0, e0, q1, e1, k0, k1, n1, r1, r2, x1, y1, v1]
end Go.Proofs.YtnfhglplafmfiaaGreatE
