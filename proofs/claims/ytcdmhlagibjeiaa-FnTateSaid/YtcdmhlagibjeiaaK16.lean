/- Contracts of functions of the program and of the reference: what the evaluator gives for a call of each. -/
import Derived.Test.YtcdmhlagibjeiaaAEf
import Derived.Test.YtcdmhlagibjeiaaK0
import Derived.Test.YtcdmhlagibjeiaaK3
import Derived.Test.YtcdmhlagibjeiaaK4
import Derived.Test.YtcdmhlagibjeiaaK15
namespace Go.Proofs.YtcdmhlagibjeiaaE
open Go Go.Proofs
set_option maxHeartbeats 4000000
set_option maxRecDepth 2000
set_option linter.unusedSimpArgs false
set_option linter.unusedVariables false
set_option pp.deepTerms false
set_option pp.deepTerms.threshold 10
/-! ## rests -/
theorem gomod {x m : Int} (hm : 0 < m) : (x.tmod m + m).tmod m = x % m := by
  have h1 : -m < x.tmod m := by
    have := Int.lt_tmod_of_pos x hm
    omega
  rw [Int.tmod_eq_emod_of_nonneg (by omega), Int.tmod_def]
  rw [Int.add_emod_right, Int.sub_mul_emod_self_left]
theorem ct_l01Mod (n : Nat) (hn : B + 1 ≤ n) (x k : Int) (hk : 0 < k ∧ k < 1000000000000) (hx : -1000000000000 < x ∧ x < 1000000000000) :
    evalCall Try.prog An n 80 [.d (.int .i64 x), .d (.int .i64 k)] [] = some ⟨.d (.int .i64 (x % k)), [], []⟩ := by
  obtain ⟨m, rfl⟩ : ∃ m, n = m + 1 := ⟨n - 1, by omega⟩
  have hB := B_eq
  simp only [evalCall_at, fb80, bnd_some, bodyOf, Try.f80, Option.getD_some]
  have h1 := Int.lt_tmod_of_pos x hk.1
  have h2 := Int.tmod_lt_of_pos x hk.1
  have w := wrap_id (n := x.tmod k + k) (by omega)
  have g := gomod (x := x) hk.1
  have hz : k ≠ 0 := by omega
  simp -implicitDefEqProofs (maxSteps := 3000000) [hz, w, g]
def sgn (k : Nat) : Int := if k % 2 = 0 then -1 else 1
theorem sgn_succ (k : Nat) : 0 - sgn k = sgn (k + 1) := by
  unfold sgn
  by_cases h : k % 2 = 0
  · rw [if_pos h, if_neg (by omega)]; rfl
  · rw [if_neg h, if_pos (by omega)]; rfl
theorem sgn_bd (k : Nat) : sgn k = -1 ∨ sgn k = 1 := by unfold sgn; split <;> simp -implicitDefEqProofs (maxSteps := 3000000)
theorem sgn_mul {a b : Int} (k : Nat) (h : 0 ≤ a ∧ a ≤ b) : -b ≤ sgn k * a ∧ sgn k * a ≤ b := by
  rcases sgn_bd k with e | e <;> rw [e] <;> omega
def mrg (T : List (List Int)) (l : List Int) (i : Nat) : List Int := l.take i ++ cl T (rn l i).toNat (rn l (i + 1)).toNat :: l.drop (i + 2)
theorem mrg_len (T : List (List Int)) (l : List Int) (i : Nat) (h : i + 2 ≤ l.length) : (mrg T l i).length = l.length - 1 := by simp -implicitDefEqProofs (maxSteps := 3000000) [mrg]; omega
noncomputable def sdA (T : List (List Int)) (U V l : List Int) : Nat → Int
  | 0 => rn U (rn l 0).toNat * atv T.length V (l.drop 1)
  | k + 1 => sdA T U V l k + sgn k * atv T.length V (mrg T l k)
noncomputable def sideV (T : List (List Int)) (U V l : List Int) : Int := sdA T U V l (l.length - 1) + sgn (l.length - 1) * atv T.length V (l.take (l.length - 1))
theorem sdA_bd {T : List (List Int)} {U V : List Int} (l : List Int) (hU : ∀ i < U.length, 0 ≤ rn U i ∧ rn U i ≤ 11) (hV : ∀ i < V.length, 0 ≤ rn V i ∧ rn V i ≤ 11) : ∀ k : Nat, -(121 + 11 * (k : Int)) ≤ sdA T U V l k ∧ sdA T U V l k ≤ 121 + 11 * (k : Int)
  | 0 => by
    have u := rn_mem_bd (by omega) hU (rn l 0).toNat
    have v := atv_bd (N := T.length) (l := l.drop 1) (by omega) hV
    have := mul_bd u.1 u.2 v.1 v.2
    simp only [sdA]; omega
  | k + 1 => by
    have h := sdA_bd (T := T) l hU hV k
    have := sgn_mul k (atv_bd (N := T.length) (l := mrg T l k) (by omega) hV)
    simp only [sdA]; omega
theorem inG_drop {N : Nat} {l : List Int} (h : InG N l) (k : Nat) : InG N (l.drop k) := fun i hi => by
  rw [rn_drop]; exact h _ (by simp -implicitDefEqProofs (maxSteps := 3000000) at hi; omega)
theorem rn_take {l : List Int} {k i : Nat} (h : i < k) : rn (l.take k) i = rn l i := by simp -implicitDefEqProofs (maxSteps := 3000000) [rn, List.getD, List.getElem?_take, h]
theorem inG_take {N : Nat} {l : List Int} (h : InG N l) (k : Nat) : InG N (l.take k) := fun i hi => by
  have : i < k ∧ i < l.length := by simp -implicitDefEqProofs (maxSteps := 3000000) at hi; omega
  rw [rn_take this.1]; exact h _ this.2
theorem inG_app {N : Nat} {l r : List Int} (h : InG N l) (h2 : InG N r) : InG N (l ++ r) := fun i hi => by
  simp only [rn, List.getD, List.getElem?_append]
  by_cases z : i < l.length
  · rw [if_pos z]; exact h i z
  · rw [if_neg z]; exact h2 _ (by simp -implicitDefEqProofs (maxSteps := 3000000) at hi; omega)
theorem inG_cons {N : Nat} {x : Int} {r : List Int} (h : 0 ≤ x ∧ x < N) (h2 : InG N r) : InG N (x :: r) := fun i hi => by
  cases i with
  | zero => simpa [rn] using h
  | succ i => simpa [rn] using h2 i (by simpa using hi)
theorem mrg_inG {T : List (List Int)} (R : RowsOk T) {l : List Int} (h : InG T.length l) {i : Nat} (hi : i + 2 ≤ l.length) : InG T.length (mrg T l i) := by
  have a := h i (by omega)
  have b := h (i + 1) (by omega)
  exact inG_app (inG_take h _) (inG_cons ((R.2 _ (by omega)).2 _ (by omega)) (inG_drop h _))
theorem take_drop_all (l : List Int) (k : Nat) : (l.drop k).take (l.length - k) = l.drop k := by
  rw [List.take_of_length_le (by simp -implicitDefEqProofs (maxSteps := 3000000))]
structure SideOk (T : List (List Int)) (U V l : List Int) (p : Nat) : Prop where
  R : RowsOk T
  e0 : ∀ a < T.length, cl T 0 a = a
  hU : U.length = T.length
  bU : ∀ i < U.length, 0 ≤ rn U i ∧ rn U i ≤ 11
  hV : (V.length : Int) = ((T.length : Int) - 1) ^ p
  bV : ∀ i < V.length, 0 ≤ rn V i ∧ rn V i ≤ 11
  hl : l.length = p + 1
  hp : p ≤ 3
  hg : InG T.length l
end Go.Proofs.YtcdmhlagibjeiaaE
