/- Contracts of functions of the program and of the reference: what the evaluator gives for a call of each. -/
import Derived.Test.YtcdmhlagibjeiaaAEf
import Derived.Test.YtcdmhlagibjeiaaK0
import Derived.Test.YtcdmhlagibjeiaaK3
import Derived.Test.YtcdmhlagibjeiaaK4
import Derived.Test.YtcdmhlagibjeiaaK5
import Derived.Test.YtcdmhlagibjeiaaK17
import Derived.Test.YtcdmhlagibjeiaaK18
namespace Go.Proofs.YtcdmhlagibjeiaaE
open Go Go.Proofs
set_option maxHeartbeats 4000000
set_option maxRecDepth 2000
set_option linter.unusedSimpArgs false
set_option linter.unusedVariables false
set_option pp.deepTerms false
set_option pp.deepTerms.threshold 10
/-! ## slices.Repeat of one number -/
theorem wrap_u64 {n : Int} (h : 0 ≤ n ∧ n < 18446744073709551616) : IntKind.wrap .u64 n = n := by
  unfold IntKind.wrap
  have e : IntKind.bits .u64 = 64 := rfl
  have e2 : IntKind.signed .u64 = false := rfl
  simp only [e, e2, Bool.false_and, Bool.false_eq_true, if_false]
  omega
theorem bv_and32 {n : Int} (h : 0 ≤ n ∧ n < 4294967296) : (BitVec.ofInt 64 n &&& BitVec.ofInt 64 4294967295).toNat = n.toNat := by
  obtain ⟨k, rfl⟩ := Int.eq_ofNat_of_zero_le h.1
  have e : BitVec.ofInt 64 4294967295 = BitVec.ofNat 64 (2 ^ 32 - 1) := rfl
  have e1 : BitVec.ofInt 64 (k : Int) = BitVec.ofNat 64 k := by simp -implicitDefEqProofs (maxSteps := 3000000)
  rw [e, e1, BitVec.toNat_and, BitVec.toNat_ofNat, BitVec.toNat_ofNat, Nat.mod_eq_of_lt (by omega), Nat.mod_eq_of_lt (by decide), Nat.and_two_pow_sub_one_eq_mod, Nat.mod_eq_of_lt (by omega)]
  rfl
theorem and32 (y : Nat) (h : y < 4294967296) : ((y : Int) % 18446744073709551616).toNat &&& 4294967295 = y := by
  have e : ((y : Int) % 18446744073709551616).toNat = y := by omega
  rw [e, show (4294967295 : Nat) = 2 ^ 32 - 1 from rfl, Nat.and_two_pow_sub_one_eq_mod, Nat.mod_eq_of_lt (by omega)]
theorem fdiv32 {n : Int} (h : 0 ≤ n ∧ n < 4294967296) : n.fdiv 4294967296 = 0 := by
  rw [Int.fdiv_eq_ediv_of_nonneg _ (by omega)]
  exact Int.ediv_eq_zero_of_lt h.1 h.2
theorem pow_cover : ∀ n : Nat, ∃ N, N ≤ n ∧ n ≤ 2 ^ N ∧ ∀ i < N, 2 ^ i < n
  | 0 => ⟨0, Nat.le_refl _, by omega, fun i hi => by omega⟩
  | n + 1 => by
    obtain ⟨N, h1, h2, h3⟩ := pow_cover n
    by_cases h : n + 1 ≤ 2 ^ N
    · exact ⟨N, by omega, h, fun i hi => by have := h3 i hi; omega⟩
    · have hp : 0 < 2 ^ N := Nat.two_pow_pos N
      refine ⟨N + 1, by omega, by rw [Nat.pow_succ]; omega, fun i hi => ?_⟩
      rcases Nat.lt_or_ge i N with z | z
      · have := h3 i z; omega
      · obtain rfl : i = N := by omega
        omega
def repJ (v : Int) (n c : Nat) : List Int := List.replicate c v ++ List.replicate (n - c) 0
theorem repJ_len (v : Int) {n c : Nat} (h : c ≤ n) : (repJ v n c).length = n := by simp -implicitDefEqProofs (maxSteps := 3000000) [repJ]; omega
theorem repJ_set (v : Int) {n c : Nat} (h : c < n) : (repJ v n c).set c v = repJ v n (c + 1) := by
  unfold repJ
  rw [List.set_append_right _ _ (by simp -implicitDefEqProofs (maxSteps := 3000000)), List.length_replicate, Nat.sub_self, show n - c = (n - (c + 1)) + 1 by omega, List.replicate_succ, List.set_cons_zero, List.replicate_succ', List.append_assoc]
  rfl
theorem repJ_put (v : Int) {n : Nat} : ∀ (k c : Nat), c + k ≤ n → setFrom (repJ v n c) c (List.replicate k v) = repJ v n (c + k)
  | 0, c, _ => rfl
  | k + 1, c, h => by
    rw [List.replicate_succ, setFrom, repJ_set v (by omega), repJ_put v k (c + 1) (by omega)]
    congr 1; omega
theorem repJ_take (v : Int) {n c : Nat} : (repJ v n c).take c = List.replicate c v := by simp -implicitDefEqProofs (maxSteps := 3000000) [repJ, List.take_append]
def trU (T : List (List Int)) : List Int := List.replicate T.length 1
theorem rn_trU {T : List (List Int)} {i : Nat} (h : i < T.length) : rn (trU T) i = 1 := by simp -implicitDefEqProofs (maxSteps := 3000000) [rn, trU, List.getD, h]
theorem isMo_tr {T : List (List Int)} (R : RowsOk T) {M : Int} (hM : 2 ≤ M ∧ M ≤ 12) : IsMo T M (trU T) := by
  have hl : (trU T).length = T.length := by simp -implicitDefEqProofs (maxSteps := 3000000) [trU]
  refine ⟨⟨hM, hl⟩, fun i hi => ?_, fun a ha b hb => ?_⟩
  · rw [rn_trU (by omega)]
    refine ⟨by omega, ?_⟩
    unfold gcdI
    have : (1 : Int).toNat = 1 := rfl
    rw [this, Nat.gcd_one_left]; rfl
  · have hc := (R.2 a (by omega)).2 b (by omega)
    rw [rn_trU (by omega), rn_trU (by omega), rn_trU (by omega)]
    exact (Int.emod_eq_of_lt (by omega) (by omega)).symm
theorem tab_const (n : Nat) (v : Int) : tabI (fun _ => v) n = List.replicate n v := by
  apply List.ext_getElem
  · simp -implicitDefEqProofs (maxSteps := 3000000)
  · intro i h1 h2; simp -implicitDefEqProofs (maxSteps := 3000000) [tabI]
def SGood (T : List (List Int)) (M D : Int) (V : List Int) : Prop := IsGr T ∧ (2 ≤ M ∧ M ≤ 12) ∧ IsCo T M D V ∧ D = 2 ∧ IsCy T M (trU T) V 2
open Classical in
noncomputable def scode (T : List (List Int)) (M D : Int) (V : List Int) : Int :=
  if IsGr T then if 2 ≤ M ∧ M ≤ 12 then if IsCo T M D V then if D = 2 then if IsCy T M (trU T) V 2 then 0 else 5 else 2 else 1 else 2 else 1
theorem scode_0 {T : List (List Int)} {M D : Int} {V : List Int} : SGood T M D V → scode T M D V = 0 := fun ⟨h1, h2, h3, h4, h5⟩ => by
  simp only [scode, if_pos h1, if_pos h2, if_pos h3, if_pos h4, if_pos h5]
theorem scode_ne {T : List (List Int)} {M D : Int} {V : List Int} (h : ¬ SGood T M D V) : scode T M D V ≠ 0 := by
  unfold scode
  by_cases h1 : IsGr T
  · by_cases h2 : 2 ≤ M ∧ M ≤ 12
    · by_cases h3 : IsCo T M D V
      · by_cases h4 : D = 2
        · by_cases h5 : IsCy T M (trU T) V 2
          · exact absurd ⟨h1, h2, h3, h4, h5⟩ h
          · simp only [if_pos h1, if_pos h2, if_pos h3, if_pos h4, if_neg h5]; omega
        · simp only [if_pos h1, if_pos h2, if_pos h3, if_neg h4]; omega
      · simp only [if_pos h1, if_pos h2, if_neg h3]; omega
    · simp only [if_pos h1, if_neg h2]; omega
  · simp only [if_neg h1]; omega
theorem coOkTr {T : List (List Int)} {M : Int} {V : List Int} (G : IsGr T) (hM : 2 ≤ M ∧ M ≤ 12) (h : IsCo T M 2 V) : CoOk T (trU T) V 2 :=
  coOk1 (M := M) ⟨G, isMo_tr G.1 hM⟩ hM.2 h
end Go.Proofs.YtcdmhlagibjeiaaE
