/- Contracts of functions of the program and of the reference: what the evaluator gives for a call of each. -/
import Derived.Test.YtfichikabolknaaGreatAEf
namespace Go.Proofs.YtfichikabolknaaGreatE
open Go Go.Proofs
set_option linter.unusedSimpArgs false
set_option linter.unusedVariables false
@[simp] theorem range2 : List.range 2 = [0, 1] := rfl
@[simp] theorem range3 : List.range 3 = [0, 1, 2] := rfl
/-! ## tables -/
def tabI (F : Nat → Int) (n : Nat) : List Int := (List.range n).map F
@[simp] theorem tabI_len (F : Nat → Int) (n : Nat) : (tabI F n).length = n := by simp -implicitDefEqProofs (maxSteps := 3000000) [tabI]
@[simp] theorem tabI_zero (F : Nat → Int) : tabI F 0 = [] := rfl
@[simp] theorem icells_nil : icells [] = [] := rfl
theorem tabI_succ (F : Nat → Int) (n : Nat) : tabI F n ++ [F n] = tabI F (n + 1) := by simp -implicitDefEqProofs (maxSteps := 3000000) [tabI, List.range_succ]
theorem rn_tabI (F : Nat → Int) {n i : Nat} (h : i < n) : rn (tabI F n) i = F i := by simp -implicitDefEqProofs (maxSteps := 3000000) [rn, tabI, List.getD, h]
theorem rn_get {l : List Int} {i : Nat} (h : i < l.length) : rn l i = l[i] := by simp -implicitDefEqProofs (maxSteps := 3000000) [rn, List.getD, h]
theorem tab_map (f : Int → Int) (l : List Int) : tabI (fun i => f (rn l i)) l.length = l.map f := by
  apply List.ext_getElem
  · simp -implicitDefEqProofs (maxSteps := 3000000)
  · intro i h1 h2
    have h : i < l.length := by simpa using h1
    simp -implicitDefEqProofs (maxSteps := 3000000) [tabI, rn_get h]
theorem rn_map (f : Int → Int) (l : List Int) {i : Nat} (h : i < l.length) : rn (l.map f) i = f (rn l i) := by
  rw [rn_get h, rn_get (by simpa using h)]; simp -implicitDefEqProofs (maxSteps := 3000000)
theorem le_bound {n : Nat} (h : n ≤ 10000000) : n + 1 ≤ bound := by simp -implicitDefEqProofs (maxSteps := 3000000) [bound]; omega
theorem lt_bound {n : Nat} (h : n ≤ 10000000) : n < bound := by simp -implicitDefEqProofs (maxSteps := 3000000) [bound]; omega
@[simp] theorem mapO_view_d (O : Nat → Option (Nat × Ob)) (b : List D) : mapO (view O 6) (b.map AV.d) = some b := by
  induction b with
  | nil => rfl
  | cons x b ih => simp -implicitDefEqProofs (maxSteps := 3000000) [ih]
theorem beq_f {a b : Int} (h : a ≠ b) : (a == b) = false := by simpa using h
end Go.Proofs.YtfichikabolknaaGreatE
