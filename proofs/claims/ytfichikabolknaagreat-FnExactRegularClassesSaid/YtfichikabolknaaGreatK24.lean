/- Contracts of functions of the program and of the reference: what the evaluator gives for a call of each. -/
import Derived.Test.YtfichikabolknaaGreatAEf
import Derived.Test.YtfichikabolknaaGreatK0
import Derived.Test.YtfichikabolknaaGreatK7
import Derived.Test.YtfichikabolknaaGreatK20
import Derived.Test.YtfichikabolknaaGreatK21
import Derived.Test.YtfichikabolknaaGreatK22
import Derived.Test.YtfichikabolknaaGreatK23
namespace Go.Proofs.YtfichikabolknaaGreatE
open Go Go.Proofs
set_option maxHeartbeats 4000000
set_option maxRecDepth 2000
set_option linter.unusedSimpArgs false
set_option linter.unusedVariables false
set_option pp.deepTerms false
set_option pp.deepTerms.threshold 10
/-! ## those elements for which something is so -/
theorem keepL_append (P : Int → Prop) [DecidablePred P] (l r : List Int) : keepL P (l ++ r) = keepL P l ++ keepL P r := by simp -implicitDefEqProofs (maxSteps := 3000000) [keepL]
def thoseL (q : Nat → Bool) (n : Nat) : List Int := ((List.range n).filter q).map (fun (i : Nat) => (i : Int))
theorem thoseL_le (q : Nat → Bool) (n : Nat) : (thoseL q n).length ≤ n := by
  have := List.length_filter_le q (List.range n)
  simpa [thoseL] using this
@[simp] theorem thoseL_zero (q : Nat → Bool) : thoseL q 0 = [] := rfl
theorem thoseL_succ (q : Nat → Bool) (n : Nat) : thoseL q (n + 1) = thoseL q n ++ (if q n = true then [(n : Int)] else []) := by
  unfold thoseL
  rw [List.range_succ, List.filter_append, List.map_append]
  congr 1
  by_cases h : q n = true
  · simp -implicitDefEqProofs (maxSteps := 3000000) [h]
  · simp -implicitDefEqProofs (maxSteps := 3000000) [h]
theorem keep_those (q : Nat → Bool) : ∀ n : Nat, keepL (fun x => q x.toNat = false) (tabI (fun i => (i : Int)) n) = thoseL q n
  | 0 => rfl
  | n + 1 => by
    rw [← tabI_succ, keepL_append, keep_those q n, thoseL_succ]
    congr 1
    cases h : q n with
    | true => simp -implicitDefEqProofs (maxSteps := 3000000) [keepL, h]
    | false => simp -implicitDefEqProofs (maxSteps := 3000000) [keepL, h]
theorem ct_those1 (n : Nat) (hn : B + 2 ≤ n) (c : Nat) (b : List YtfichikabolknaaGreatE.D) (x : Int) (v : Bool) (L : Nat) (hL : L + 1 ≤ n)
    (hF : ∀ m, L ≤ m → evalCall Tryz.prog An m c (.d (.int .i64 x) :: b.map ofD) [] = some ⟨.d (.bool v), [], []⟩) (hc : c ∉ An.lend) :
    evalCall Tryz.prog An n 333 [.d (.int .i64 x), .d (.cellp [.clo c [] b])] [] = some ⟨.d (.bool (!v)), [], []⟩ := by
  obtain ⟨m, rfl⟩ : ∃ m, n = m + 1 := ⟨n - 1, by omega⟩
  have hB := B_eq
  simp only [evalCall_at, fb333, bnd_some, bodyOf, Tryz.f333, Option.getD_some]
  simp -implicitDefEqProofs (maxSteps := 3000000) at hc
  have c1 := hF m (by omega)
  simp -implicitDefEqProofs (maxSteps := 3000000) [c1, hc]
theorem ct_those (n : Nat) (hn : B + 5 ≤ n) (T : List (List Int)) (hT : T.length ≤ 10000) (c : Nat) (b : List YtfichikabolknaaGreatE.D) (q : Nat → Bool) (L : Nat) (hL : L + 4 ≤ n)
    (hF : ∀ m, L ≤ m → ∀ i < T.length, evalCall Tryz.prog An m c (.d (.int .i64 i) :: b.map ofD) [] = some ⟨.d (.bool (q i)), [], []⟩) (hc : c ∉ An.lend) :
    evalCall Tryz.prog An n 275 [.agg [.d (intss T)], .d (.clo c [] b)] [] = some ⟨.own 0 0, [.row (icells (thoseL q T.length))], []⟩ := by
  obtain ⟨m, rfl⟩ : ∃ m, n = m + 1 := ⟨n - 1, by omega⟩
  have hB := B_eq
  simp only [evalCall_at, fb275, bnd_some, bodyOf, Tryz.f275, Option.getD_some]
  have c1 := ct_order m (by omega) T
  have c2 := ct_counting m (by omega) T.length (by omega)
  have key := ct_DeleteFunc m (by omega) (tabI (fun i => (i : Int)) T.length) (by simp; omega) 333 [.cellp [.clo c [] b]] (fun x => q x.toNat = false) (max (B + 2) (L + 1)) (by omega)
    (fun m hm i hi => by
      have hi' : i < T.length := by simpa using hi
      have e : rn (tabI (fun i => (i : Int)) T.length) i = (i : Int) := rn_tabI _ hi'
      rw [e]
      have := ct_those1 m (by omega) c b (i : Int) (q i) L (by omega) (fun m hm => hF m hm i hi') hc
      have e2 : (!q i) = decide (q ((i : Int)).toNat = false) := by cases h : q i <;> simp -implicitDefEqProofs (maxSteps := 3000000) [h]
      rw [e2] at this
      simpa using this) (by simp -implicitDefEqProofs (maxSteps := 3000000))
  rw [keep_those] at key
  rcases key with ⟨h1, h2⟩ | ⟨Y, h1, h2⟩
  · have e : thoseL q T.length = tabI (fun i => (i : Int)) T.length := by rw [← keep_those, keepL_none h1]
    simp -implicitDefEqProofs (maxSteps := 3000000) [c1, c2, h2, e]
  · simp -implicitDefEqProofs (maxSteps := 3000000) [c1, c2, h2, h1]
/-! ## RegularElements -/
noncomputable def regQ (T : List (List Int)) (M : Int) (V : List Int) (x : Nat) : Bool := bl (∀ y < T.length, fe T M V x y ≤ 0)
noncomputable def regL (T : List (List Int)) (M : Int) (V : List Int) : List Int := thoseL (regQ T M V) T.length
theorem regL_le (T : List (List Int)) (M : Int) (V : List Int) : (regL T M V).length ≤ T.length := thoseL_le _ _
theorem ct_regular11 (n : Nat) (hn : B + 1 ≤ n) (x : Int) : evalCall Tryz.prog An n 278 [.d (.int .i64 x)] [] = some ⟨.d (.bool (decide (0 < x))), [], []⟩ := by
  obtain ⟨m, rfl⟩ : ∃ m, n = m + 1 := ⟨n - 1, by omega⟩
  have hB := B_eq
  simp only [evalCall_at, fb278, bnd_some, bodyOf, Tryz.f278, Option.getD_some]
  simp -implicitDefEqProofs (maxSteps := 3000000)
theorem ct_regular1 (n : Nat) (hn : B + 4 ≤ n) (T : List (List Int)) (hT : T.length ≤ 8) (M : Int) (V : List Int) (x : Nat) (hx : x < T.length) :
    evalCall Tryz.prog An n 276 [.d (.int .i64 x), .d (.cellp [intss (fform T M V)])] [] = some ⟨.d (.bool (regQ T M V x)), [], []⟩ := by
  obtain ⟨m, rfl⟩ : ∃ m, n = m + 1 := ⟨n - 1, by omega⟩
  have hB := B_eq
  simp only [evalCall_at, fb276, bnd_some, bodyOf, Tryz.f276, Option.getD_some]
  have hl := fform_len T M V
  have hrw : rown (fform T M V) x = frow T M V x := rown_tabM _ hx
  have hfl : (frow T M V x).length = T.length := by simp -implicitDefEqProofs (maxSteps := 3000000) [frow]
  have hfe : ∀ y < T.length, rn (frow T M V x) y = fe T M V x y := fun y hy => rn_tabI _ hy
  have c1 := ct_ContainsFunc m (by omega) (frow T M V x) (by omega) 278 [] (fun z => 0 < z) (B + 1) (by omega) (fun m hm i hi => by simpa using ct_regular11 m (by omega) (rn (frow T M V x) i)) (by simp -implicitDefEqProofs (maxSteps := 3000000))
  have hx2 : x < (fform T M V).length := by omega
  by_cases h : ∃ i < (frow T M V x).length, 0 < rn (frow T M V x) i
  · rw [bl_true h] at c1
    obtain ⟨i, hi, h2⟩ := h
    have : ¬ ∀ y < T.length, fe T M V x y ≤ 0 := fun z => by
      have := z i (by omega)
      rw [hfe i (by omega)] at h2; omega
    have e2 : regQ T M V x = false := bl_false this
    generalize regQ T M V x = rq at *
    subst e2
    generalize fform T M V = Z at *
    generalize frow T M V x = W at *
    simp -implicitDefEqProofs (maxSteps := 3000000) [hx2, hrw, c1]
  · rw [bl_false h] at c1
    have : ∀ y < T.length, fe T M V x y ≤ 0 := fun y hy => by
      rcases Int.lt_or_le 0 (fe T M V x y) with z | z
      · exact absurd ⟨y, by omega, by rw [hfe y hy]; exact z⟩ h
      · exact z
    have e2 : regQ T M V x = true := bl_true this
    generalize regQ T M V x = rq at *
    subst e2
    generalize fform T M V = Z at *
    generalize frow T M V x = W at *
    simp -implicitDefEqProofs (maxSteps := 3000000) [hx2, hrw, c1]
theorem ct_regular (n : Nat) (hn : B + 6 + 6 ≤ n) (T : List (List Int)) (M : Int) (V : List Int) (S : FOk T M V) :
    evalCall Tryz.prog An n 158 [.agg [.d (intss T)], .d (.int .i64 M), .agg [.d (.int .i64 2), .d (ints V)]] [] = some ⟨.own 0 0, [.row (icells (regL T M V))], []⟩ := by
  obtain ⟨m, rfl⟩ : ∃ m, n = m + 1 := ⟨n - 1, by omega⟩
  have hB := B_eq
  simp only [evalCall_at, fb158, bnd_some, bodyOf, Tryz.f158, Option.getD_some]
  have hT := S.G.1.1
  have c1 := ct_formOf m (by omega) T M V S
  have c2 := ct_those m (by omega) T (by omega) 276 [.cellp [intss (fform T M V)]] (regQ T M V) (B + 4) (by omega)
    (fun m hm i hi => by
      have := ct_regular1 m (by omega) T (by omega) M V i hi
      simpa using this) (by simp -implicitDefEqProofs (maxSteps := 3000000))
  have e : thoseL (regQ T M V) T.length = regL T M V := rfl
  rw [e] at c2
  generalize fform T M V = Z at *
  generalize regL T M V = W at *
  simp -implicitDefEqProofs (maxSteps := 3000000) [c1, c2]
end Go.Proofs.YtfichikabolknaaGreatE
