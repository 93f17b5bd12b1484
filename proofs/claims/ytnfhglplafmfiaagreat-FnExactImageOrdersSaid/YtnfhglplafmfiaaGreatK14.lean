/- Contracts of functions of the program and of the reference: what the evaluator gives for a call of each. -/
import Derived.Test.YtnfhglplafmfiaaGreatAEf
import Derived.Test.YtnfhglplafmfiaaGreatK1M
import Derived.Test.YtnfhglplafmfiaaGreatK4
import Derived.Test.YtnfhglplafmfiaaGreatK6M
import Derived.Test.YtnfhglplafmfiaaGreatK8M
import Derived.Test.YtnfhglplafmfiaaGreatK11M
import Derived.Test.YtnfhglplafmfiaaGreatK13
namespace Go.Proofs.YtnfhglplafmfiaaGreatE
open Go Go.Proofs
set_option maxHeartbeats 2000000
set_option linter.unusedSimpArgs false
set_option linter.unusedVariables false
set_option pp.deepTerms false
set_option pp.deepTerms.threshold 10
/-! ## EmbedCochain, LiftCochain -/
theorem icode_0 {T : List (List Int)} {M : Int} {U : List Int} {k : Int} : icode T M U k = 0 ↔ GM T M U ∧ 2 ≤ k ∧ k ≤ M.tdiv 2 ∧ M.tmod k = 0 := by
  by_cases G : GM T M U
  · rw [show icode T M U k = dcode M k from if_pos G]
    by_cases h : 2 ≤ k ∧ k ≤ M.tdiv 2 ∧ M.tmod k = 0
    · simp -implicitDefEqProofs (maxSteps := 3000000) [dcode_0 h, G, h]
    · simp only [dcode_2 h, G, true_and]
      exact ⟨fun z => by omega, fun z => absurd z h⟩
  · rw [show icode T M U k = 1 from if_neg G]
    exact ⟨fun z => by omega, fun z => absurd z.1 G⟩
def EGood (T : List (List Int)) (M : Int) (U : List Int) (k q D : Int) (V : List Int) : Prop := icode T M U k = 0 ∧ IsCo T q D V
noncomputable def ecode (T : List (List Int)) (M : Int) (U : List Int) (k q D : Int) (V : List Int) : Int := if icode T M U k = 0 then 1 else icode T M U k
theorem timesU_len (V : List Int) (q : Int) : (timesU V q).length = V.length := by simp -implicitDefEqProofs (maxSteps := 3000000) [timesU]
theorem isCo_bd {T : List (List Int)} {q D : Int} {V : List Int} (h : IsCo T q D V) (hq : q ≤ 12) : ∀ i < V.length, 0 ≤ rn V i ∧ rn V i ≤ 11 := fun i hi => by have := h.2.2 i hi; omega
theorem times_bd {T : List (List Int)} {q D : Int} {V : List Int} (h : IsCo T q D V) (hq : q ≤ 12) {k : Int} (hk : 0 ≤ k ∧ k ≤ 12) : ∀ i < V.length, -9223372036854775808 ≤ k * rn V i ∧ k * rn V i < 9223372036854775808 := fun i hi => by
  have a := isCo_bd h hq i hi
  have := mul_bd hk.1 hk.2 a.1 a.2
  omega
theorem ct_specEmbed (n : Nat) (hn : B + 6 ≤ n) (T : List (List Int)) (hT : T.length ≤ 2000000) (M : Int) (U : List Int) (hU : U.length ≤ 2000000) (k D : Int) (V : List Int) (hV : V.length ≤ 10000000) (h : EGood T M U k k D V) :
    evalCall Tryz.prog An n 29 [.agg [.d (intss T)], .agg [.d (.int .i64 M), .d (ints U)], .d (.int .i64 k), .agg [.d (.int .i64 D), .d (ints V)]] [] = some ⟨.tuple [.agg [.d (.int .i64 D), .own 0 0], .d (.int .i64 0)], [.row (icells (timesU V (M / k)))], []⟩ := by
  obtain ⟨m, rfl⟩ : ∃ m, n = m + 1 := ⟨n - 1, by omega⟩
  have hB := B_eq
  simp only [evalCall_at, fb29, bnd_some, bodyOf, Tryz.f29, Option.getD_some]
  obtain ⟨h1, h2⟩ := h
  obtain ⟨G, hk⟩ := icode_0.1 h1
  have hM := G.2.1.1
  obtain ⟨d1, d2, d3⟩ := div_ok hM.1 hk
  have c1 := ct_l08Given m (by omega) T hT M U hU k k D V hV G hk d1
  rw [show ccode T k (restU U k) D V = 0 from if_pos h2] at c1
  have c2 := ct_l08Times m (by omega) D V hV (M / k) (times_bd h2 (by omega) (by omega))
  have w := wrap_id (n := M / k) (by omega)
  have kz : k ≠ 0 := by omega
  simp -implicitDefEqProofs (maxSteps := 3000000) [c1, c2, d2, w, kz]
theorem ct_specEmbed_bad (n : Nat) (hn : B + 6 ≤ n) (T : List (List Int)) (hT : T.length ≤ 2000000) (M : Int) (U : List Int) (hU : U.length ≤ 2000000) (k D : Int) (V : List Int) (hV : V.length ≤ 10000000) (h : ¬ EGood T M U k k D V) :
    evalCall Tryz.prog An n 29 [.agg [.d (intss T)], .agg [.d (.int .i64 M), .d (ints U)], .d (.int .i64 k), .agg [.d (.int .i64 D), .d (ints V)]] [] = some ⟨.tuple [.agg [.d (.int .i64 0), .d .nil], .d (.int .i64 (ecode T M U k k D V))], [], []⟩ := by
  obtain ⟨m, rfl⟩ : ∃ m, n = m + 1 := ⟨n - 1, by omega⟩
  have hB := B_eq
  simp only [evalCall_at, fb29, bnd_some, bodyOf, Tryz.f29, Option.getD_some]
  by_cases h1 : icode T M U k = 0
  · have h2 : ¬ IsCo T k D V := fun z => h ⟨h1, z⟩
    obtain ⟨G, hk⟩ := icode_0.1 h1
    obtain ⟨d1, d2, d3⟩ := div_ok G.2.1.1.1 hk
    have c1 := ct_l08Given m (by omega) T hT M U hU k k D V hV G hk d1
    rw [show ccode T k (restU U k) D V = 1 from if_neg h2] at c1
    simp -implicitDefEqProofs (maxSteps := 3000000) [c1, ecode, h1]
  · have c1 := ct_l08Given_bad m (by omega) T hT M U hU k k D V h1
    have h3 := bne_t h1
    simp -implicitDefEqProofs (maxSteps := 3000000) [c1, ecode, h1, h3]
theorem ct_specLift (n : Nat) (hn : B + 6 ≤ n) (T : List (List Int)) (hT : T.length ≤ 2000000) (M : Int) (U : List Int) (hU : U.length ≤ 2000000) (k D : Int) (V : List Int) (hV : V.length ≤ 10000000) (h : EGood T M U k (M / k) D V) :
    evalCall Tryz.prog An n 26 [.agg [.d (intss T)], .agg [.d (.int .i64 M), .d (ints U)], .d (.int .i64 k), .agg [.d (.int .i64 D), .d (ints V)]] [] = some ⟨.tuple [.agg [.d (.int .i64 D), .own 0 0], .d (.int .i64 0)], [.row (icells (timesU V 1))], []⟩ := by
  obtain ⟨m, rfl⟩ : ∃ m, n = m + 1 := ⟨n - 1, by omega⟩
  have hB := B_eq
  simp only [evalCall_at, fb26, bnd_some, bodyOf, Tryz.f26, Option.getD_some]
  obtain ⟨h1, h2⟩ := h
  obtain ⟨G, hk⟩ := icode_0.1 h1
  have hM := G.2.1.1
  obtain ⟨d1, d2, d3⟩ := div_ok hM.1 hk
  have c1 := ct_l08Given m (by omega) T hT M U hU k (M / k) D V hV G hk d3
  rw [show ccode T (M / k) (restU U (M / k)) D V = 0 from if_pos h2] at c1
  have c2 := ct_l08Times m (by omega) D V hV 1 (times_bd h2 (by omega) (by omega))
  have w := wrap_id (n := M / k) (by omega)
  have kz : k ≠ 0 := by omega
  have k1 : ¬ (k < 1) := by omega
  simp -implicitDefEqProofs (maxSteps := 3000000) [c1, c2, d2, w, kz, k1]
theorem ct_specLift_bad (n : Nat) (hn : B + 6 ≤ n) (T : List (List Int)) (hT : T.length ≤ 2000000) (M : Int) (U : List Int) (hU : U.length ≤ 2000000) (k D : Int) (V : List Int) (hV : V.length ≤ 10000000) (h : ¬ EGood T M U k (M / k) D V) :
    evalCall Tryz.prog An n 26 [.agg [.d (intss T)], .agg [.d (.int .i64 M), .d (ints U)], .d (.int .i64 k), .agg [.d (.int .i64 D), .d (ints V)]] [] = some ⟨.tuple [.agg [.d (.int .i64 0), .d .nil], .d (.int .i64 (ecode T M U k (M / k) D V))], [], []⟩ := by
  obtain ⟨m, rfl⟩ : ∃ m, n = m + 1 := ⟨n - 1, by omega⟩
  have hB := B_eq
  simp only [evalCall_at, fb26, bnd_some, bodyOf, Tryz.f26, Option.getD_some]
  by_cases h1 : icode T M U k = 0
  · have h2 : ¬ IsCo T (M / k) D V := fun z => h ⟨h1, z⟩
    obtain ⟨G, hk⟩ := icode_0.1 h1
    have hM := G.2.1.1
    obtain ⟨d1, d2, d3⟩ := div_ok G.2.1.1.1 hk
    have c1 := ct_l08Given m (by omega) T hT M U hU k (M / k) D V hV G hk d3
    rw [show ccode T (M / k) (restU U (M / k)) D V = 1 from if_neg h2] at c1
    have w := wrap_id (n := M / k) (by omega)
    have kz : k ≠ 0 := by omega
    have k1 : ¬ (k < 1) := by omega
    simp -implicitDefEqProofs (maxSteps := 3000000) [c1, ecode, h1, d2, w, kz, k1]
  · have c1 := fun q => ct_l08Given_bad m (by omega) T hT M U hU k q D V h1
    have h3 := bne_t h1
    by_cases k1 : k < 1
    · simp -implicitDefEqProofs (maxSteps := 3000000) [c1, ecode, h1, h3, k1]
    · have kz : k ≠ 0 := by omega
      simp -implicitDefEqProofs (maxSteps := 3000000) [c1, ecode, h1, h3, k1, kz]
theorem ct_implEmbed (n : Nat) (hn : B + 7 + 3 ≤ n) (T : List (List Int)) (hT : T.length ≤ 2000000) (hr : ∀ i, (rown T i).length ≤ 1000000000000) (M : Int) (U : List Int) (hU : U.length ≤ 2000000) (k D : Int) (V : List Int) (hV : V.length ≤ 10000000) (h : EGood T M U k k D V) :
    evalCall Tryz.prog An n 28 [.agg [.d (intss T)], .agg [.d (.int .i64 M), .d (ints U)], .d (.int .i64 k), .agg [.d (.int .i64 D), .d (ints V)]] [] = some ⟨.tuple [.agg [.d (.int .i64 D), .own 0 0], .d (.int .i64 0)], [.row (icells (timesU V (M / k)))], []⟩ := by
  obtain ⟨m, rfl⟩ : ∃ m, n = m + 1 := ⟨n - 1, by omega⟩
  have hB := B_eq
  simp only [evalCall_at, fb28, bnd_some, bodyOf, Tryz.f28, Option.getD_some]
  obtain ⟨h1, h2⟩ := h
  obtain ⟨G, hk⟩ := icode_0.1 h1
  have hM := G.2.1.1
  obtain ⟨d1, d2, d3⟩ := div_ok hM.1 hk
  have c1 := ct_divisorCode m (by omega) T hT hr M U hU k
  rw [h1] at c1
  have c2 := ct_reduced m (by omega) T G.1.1.1.1 M U (by omega) G.2.1.2 (fun i hi => by have := (G.2.2.1 i hi).1; omega) k (by omega)
  have c3 := ct_isCochain m (by omega) T G.1.1.1 k (restU U k) D V hV
  rw [bl_true h2] at c3
  have c4 := ct_embedded m (by omega) D V hV (M / k) (times_bd h2 (by omega) (by omega))
  have w := wrap_id (n := M / k) (by omega)
  have kz : k ≠ 0 := by omega
  simp -implicitDefEqProofs (maxSteps := 3000000) [c1, c2, c3, c4, d2, w, kz]
theorem ct_implEmbed_bad (n : Nat) (hn : B + 7 + 3 ≤ n) (T : List (List Int)) (hT : T.length ≤ 2000000) (hr : ∀ i, (rown T i).length ≤ 1000000000000) (M : Int) (U : List Int) (hU : U.length ≤ 2000000) (k D : Int) (V : List Int) (hV : V.length ≤ 10000000) (h : ¬ EGood T M U k k D V) :
    evalCall Tryz.prog An n 28 [.agg [.d (intss T)], .agg [.d (.int .i64 M), .d (ints U)], .d (.int .i64 k), .agg [.d (.int .i64 D), .d (ints V)]] [] = some ⟨.tuple [.agg [.d (.int .i64 0), .d .nil], .d (.int .i64 (ecode T M U k k D V))], [], []⟩ := by
  obtain ⟨m, rfl⟩ : ∃ m, n = m + 1 := ⟨n - 1, by omega⟩
  have hB := B_eq
  simp only [evalCall_at, fb28, bnd_some, bodyOf, Tryz.f28, Option.getD_some]
  have c1 := ct_divisorCode m (by omega) T hT hr M U hU k
  by_cases h1 : icode T M U k = 0
  · have h2 : ¬ IsCo T k D V := fun z => h ⟨h1, z⟩
    obtain ⟨G, hk⟩ := icode_0.1 h1
    rw [h1] at c1
    have c2 := ct_reduced m (by omega) T G.1.1.1.1 M U (by omega) G.2.1.2 (fun i hi => by have := (G.2.2.1 i hi).1; omega) k (by omega)
    have c3 := ct_isCochain m (by omega) T G.1.1.1 k (restU U k) D V hV
    rw [bl_false h2] at c3
    simp -implicitDefEqProofs (maxSteps := 3000000) [c1, c2, c3, ecode, h1]
  · have h3 := bne_t h1
    simp -implicitDefEqProofs (maxSteps := 3000000) [c1, ecode, h1, h3]
theorem ct_implLift (n : Nat) (hn : B + 7 + 3 ≤ n) (T : List (List Int)) (hT : T.length ≤ 2000000) (hr : ∀ i, (rown T i).length ≤ 1000000000000) (M : Int) (U : List Int) (hU : U.length ≤ 2000000) (k D : Int) (V : List Int) (hV : V.length ≤ 10000000) (h : EGood T M U k (M / k) D V) :
    evalCall Tryz.prog An n 25 [.agg [.d (intss T)], .agg [.d (.int .i64 M), .d (ints U)], .d (.int .i64 k), .agg [.d (.int .i64 D), .d (ints V)]] [] = some ⟨.tuple [.agg [.d (.int .i64 D), .own 0 0], .d (.int .i64 0)], [.row (icells (timesU V 1))], []⟩ := by
  obtain ⟨m, rfl⟩ : ∃ m, n = m + 1 := ⟨n - 1, by omega⟩
  have hB := B_eq
  simp only [evalCall_at, fb25, bnd_some, bodyOf, Tryz.f25, Option.getD_some]
  obtain ⟨h1, h2⟩ := h
  obtain ⟨G, hk⟩ := icode_0.1 h1
  have hM := G.2.1.1
  obtain ⟨d1, d2, d3⟩ := div_ok hM.1 hk
  have c1 := ct_divisorCode m (by omega) T hT hr M U hU k
  rw [h1] at c1
  have c2 := ct_reduced m (by omega) T G.1.1.1.1 M U (by omega) G.2.1.2 (fun i hi => by have := (G.2.2.1 i hi).1; omega) (M / k) (by omega)
  have c3 := ct_isCochain m (by omega) T G.1.1.1 (M / k) (restU U (M / k)) D V hV
  rw [bl_true h2] at c3
  have c4 := ct_embedded m (by omega) D V hV 1 (times_bd h2 (by omega) (by omega))
  have w := wrap_id (n := M / k) (by omega)
  have kz : k ≠ 0 := by omega
  simp -implicitDefEqProofs (maxSteps := 3000000) [c1, c2, c3, c4, d2, w, kz]
theorem ct_implLift_bad (n : Nat) (hn : B + 7 + 3 ≤ n) (T : List (List Int)) (hT : T.length ≤ 2000000) (hr : ∀ i, (rown T i).length ≤ 1000000000000) (M : Int) (U : List Int) (hU : U.length ≤ 2000000) (k D : Int) (V : List Int) (hV : V.length ≤ 10000000) (h : ¬ EGood T M U k (M / k) D V) :
    evalCall Tryz.prog An n 25 [.agg [.d (intss T)], .agg [.d (.int .i64 M), .d (ints U)], .d (.int .i64 k), .agg [.d (.int .i64 D), .d (ints V)]] [] = some ⟨.tuple [.agg [.d (.int .i64 0), .d .nil], .d (.int .i64 (ecode T M U k (M / k) D V))], [], []⟩ := by
  obtain ⟨m, rfl⟩ : ∃ m, n = m + 1 := ⟨n - 1, by omega⟩
  have hB := B_eq
  simp only [evalCall_at, fb25, bnd_some, bodyOf, Tryz.f25, Option.getD_some]
  have c1 := ct_divisorCode m (by omega) T hT hr M U hU k
  by_cases h1 : icode T M U k = 0
  · have h2 : ¬ IsCo T (M / k) D V := fun z => h ⟨h1, z⟩
    obtain ⟨G, hk⟩ := icode_0.1 h1
    have hM := G.2.1.1
    obtain ⟨d1, d2, d3⟩ := div_ok hM.1 hk
    rw [h1] at c1
    have c2 := ct_reduced m (by omega) T G.1.1.1.1 M U (by omega) G.2.1.2 (fun i hi => by have := (G.2.2.1 i hi).1; omega) (M / k) (by omega)
    have c3 := ct_isCochain m (by omega) T G.1.1.1 (M / k) (restU U (M / k)) D V hV
    rw [bl_false h2] at c3
    have w := wrap_id (n := M / k) (by omega)
    have kz : k ≠ 0 := by omega
    simp -implicitDefEqProofs (maxSteps := 3000000) [c1, c2, c3, ecode, h1, d2, w, kz]
  · have h3 := bne_t h1
    simp -implicitDefEqProofs (maxSteps := 3000000) [c1, ecode, h1, h3]
end Go.Proofs.YtnfhglplafmfiaaGreatE
