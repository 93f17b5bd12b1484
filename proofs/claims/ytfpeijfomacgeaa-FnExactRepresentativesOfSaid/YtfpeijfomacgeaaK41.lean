/- Contracts of functions of the program and of the reference: what the evaluator gives for a call of each. -/
import Derived.Test.YtfpeijfomacgeaaAEf
import Derived.Test.YtfpeijfomacgeaaK0
import Derived.Test.YtfpeijfomacgeaaK31
import Derived.Test.YtfpeijfomacgeaaK33
import Derived.Test.YtfpeijfomacgeaaK35
import Derived.Test.YtfpeijfomacgeaaK39
import Derived.Test.YtfpeijfomacgeaaK40
namespace Go.Proofs.YtfpeijfomacgeaaE
open Go Go.Proofs
set_option maxHeartbeats 4000000
set_option maxRecDepth 4000
set_option linter.unusedSimpArgs false
set_option linter.unusedVariables false
set_option pp.deepTerms false
set_option pp.deepTerms.threshold 10
/-! ## RepresentativesOf -/
theorem ct_specRep_bad (n : Nat) (hn : B + 6 ≤ n) (T : List (List Int)) (hT : T.length ≤ 2000000) (l : List Int) (hl : l.length ≤ 10000000) (h : ¬ HGood T l) :
    evalCall Try.prog An n 27 [.agg [.d (intss T)], .d (ints l)] [] = some ⟨.tuple [.d .nil, .d (.int .i64 (subcode T l))], [], []⟩ := by
  obtain ⟨m, rfl⟩ : ∃ m, n = m + 1 := ⟨n - 1, by omega⟩
  have hB := B_eq
  simp only [evalCall_at, fb27, bnd_some, bodyOf, Try.f27, Option.getD_some]
  have c1 := ct_l07Code m (by omega) T (by omega) l hl
  have h1 := subcode_ne h
  have h2 := bne_t h1
  simp -implicitDefEqProofs (maxSteps := 3000000) [c1, h1, h2]
theorem ct_specRep (n : Nat) (hn : B + 6 + 3 ≤ n) (T : List (List Int)) (hT : T.length ≤ 2000000) (l : List Int) (hl : l.length ≤ 10000000) (h : HGood T l) :
    evalCall Try.prog An n 27 [.agg [.d (intss T)], .d (ints l)] [] = some ⟨.tuple [.own 0 0, .d (.int .i64 0)], [.row (icells (firsts T l))], []⟩ := by
  obtain ⟨m, rfl⟩ : ∃ m, n = m + 1 := ⟨n - 1, by omega⟩
  have hB := B_eq
  simp only [evalCall_at, fb27, bnd_some, bodyOf, Try.f27, Option.getD_some]
  have c1 := ct_l07Code m (by omega) T (by omega) l hl
  rw [subcode_0 h] at c1
  have c2 := ct_l01Cosets m (by omega) T l h
  simp -implicitDefEqProofs (maxSteps := 3000000) [c1, c2]
theorem ct_implRep_bad (n : Nat) (hn : B + 10 ≤ n) (T : List (List Int)) (hT : T.length ≤ 2000000) (hr : ∀ i, (rown T i).length ≤ 1000000000000) (l : List Int) (hl : l.length ≤ 10000000) (h : ¬ HGood T l) :
    evalCall Try.prog An n 28 [.agg [.d (intss T)], .d (ints l)] [] = some ⟨.tuple [.d .nil, .d (.int .i64 (subcode T l))], [], []⟩ := by
  obtain ⟨m, rfl⟩ : ∃ m, n = m + 1 := ⟨n - 1, by omega⟩
  have hB := B_eq
  simp only [evalCall_at, fb28, bnd_some, bodyOf, Try.f28, Option.getD_some]
  have c1 := ct_subgroupCode m (by omega) T hT hr l hl
  have h1 := subcode_ne h
  have h2 := bne_t h1
  simp -implicitDefEqProofs (maxSteps := 3000000) [c1, h1, h2]
theorem ct_implRep (n : Nat) (hn : B + 12 + 10 ≤ n) (T : List (List Int)) (hT : T.length ≤ 2000000) (hr : ∀ i, (rown T i).length ≤ 1000000000000) (l : List Int) (hl : l.length ≤ 10000000) (h : HGood T l) :
    evalCall Try.prog An n 28 [.agg [.d (intss T)], .d (ints l)] [] = some ⟨.tuple [.own 0 0, .d (.int .i64 0)], [.row (icells (firsts T l))], []⟩ := by
  obtain ⟨m, rfl⟩ : ∃ m, n = m + 1 := ⟨n - 1, by omega⟩
  have hB := B_eq
  simp only [evalCall_at, fb28, bnd_some, bodyOf, Try.f28, Option.getD_some]
  have c1 := ct_subgroupCode m (by omega) T hT hr l hl
  rw [subcode_0 h] at c1
  have c2 := ct_cosets m (by omega) T l h
  simp -implicitDefEqProofs (maxSteps := 3000000) [c1, c2]
end Go.Proofs.YtfpeijfomacgeaaE
