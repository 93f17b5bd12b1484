/- Contracts of functions of the program and of the reference: what the evaluator gives for a call of each. -/
import Derived.Test.YtfichikabolknaaGreatAEf
import Derived.Test.YtfichikabolknaaGreatK0
import Derived.Test.YtfichikabolknaaGreatK3
import Derived.Test.YtfichikabolknaaGreatK4
import Derived.Test.YtfichikabolknaaGreatK15
import Derived.Test.YtfichikabolknaaGreatK21
import Derived.Test.YtfichikabolknaaGreatK62
import Derived.Test.YtfichikabolknaaGreatK64
namespace Go.Proofs.YtfichikabolknaaGreatE
open Go Go.Proofs
set_option maxHeartbeats 4000000
set_option maxRecDepth 4000
set_option linter.unusedSimpArgs false
set_option linter.unusedVariables false
set_option pp.deepTerms false
set_option pp.deepTerms.threshold 10
/-! ## tables over lists, and cyclic groups -/
def numN (b : Nat) (l : List Int) : Nat → Nat
  | 0 => 0
  | k + 1 => numN b l k * b + (rn l k - 1).toNat
theorem numN_A {N : Nat} (hN : 1 ≤ N) {l : List Int} : ∀ k : Nat, (∀ j < k, 1 ≤ rn l j ∧ rn l j < N) → numA N l k = ((numN (N - 1) l k : Nat) : Int)
  | 0, _ => rfl
  | k + 1, h => by
    have h3 := h k (by omega)
    have e : (N : Int) - 1 = ((N - 1 : Nat) : Int) := by omega
    rw [numA, numN, numN_A hN k (fun j hj => h j (by omega)), e, Int.natCast_add, Int.natCast_mul]
    omega
theorem numN_div {b : Nat} {l : List Int} {n : Nat} (h : ∀ j < n, 1 ≤ rn l j ∧ rn l j ≤ b) (k : Nat) : ∀ j : Nat, k + j ≤ n → numN b l (k + j) / b ^ j = numN b l k
  | 0, _ => by simp -implicitDefEqProofs (maxSteps := 3000000)
  | j + 1, hj => by
    have h3 := h (k + j) (by omega)
    have hb : 0 < b := by omega
    rw [← Nat.add_assoc, numN, Nat.pow_succ', ← Nat.div_div_eq_div_mul, Nat.mul_comm (numN b l (k + j)) b, Nat.mul_add_div hb, Nat.div_eq_of_lt (show (rn l (k + j) - 1).toNat < b by omega), Nat.add_zero]
    exact numN_div h k j (by omega)
theorem digs_num {b : Nat} {l : List Int} (h : ∀ j < l.length, 1 ≤ rn l j ∧ rn l j ≤ b) : digs b l.length (numN b l l.length) = l := by
  apply List.ext_getElem
  · simp -implicitDefEqProofs (maxSteps := 3000000)
  · intro k h1 h2
    have h3 := h k h2
    have e := numN_div h (k + 1) (l.length - 1 - k) (by omega)
    rw [show k + 1 + (l.length - 1 - k) = l.length by omega] at e
    have g : rn l k = l[k] := by simp -implicitDefEqProofs (maxSteps := 3000000) [rn, h2]
    have hb : 0 < b := by omega
    simp only [digs, tabI, List.getElem_map, List.getElem_range, dig]
    rw [e, numN, Nat.mul_comm, Nat.mul_add_mod, Nat.mod_eq_of_lt (by omega), ← g]
    omega
theorem numN_lt {b : Nat} {l : List Int} : ∀ k : Nat, (∀ j < k, 1 ≤ rn l j ∧ rn l j ≤ b) → numN b l k < b ^ k
  | 0, _ => by simp -implicitDefEqProofs (maxSteps := 3000000) [numN]
  | k + 1, h => by
    have h3 := h k (by omega)
    have ih := numN_lt k (fun j hj => h j (by omega))
    have := Nat.mul_le_mul_right b ih
    rw [numN, Nat.pow_succ, Nat.succ_mul] at *
    omega
theorem atv_tab {N : Nat} (hN : 1 ≤ N) {F : List Int → Int} {l : List Int} {d : Nat} (hd : l.length = d) (hl : InG N l) (h0 : ¬ NoZ l → F l = 0) : atv N (tabI (fun i => F (digs (N - 1) d i)) ((N - 1) ^ d)) l = F l := by
  subst hd
  unfold atv
  by_cases h : NoZ l
  · have hb : ∀ j < l.length, 1 ≤ rn l j ∧ rn l j < N := fun j hj => by
      have := hl j hj
      have := h j hj
      omega
    have hb2 : ∀ j < l.length, 1 ≤ rn l j ∧ rn l j ≤ ((N - 1 : Nat) : Int) := fun j hj => by
      have := hb j hj
      omega
    rw [if_pos h, numN_A hN l.length hb, Int.toNat_natCast, rn_tabI _ (numN_lt _ hb2), digs_num hb2]
  · rw [if_neg h, h0 h]
theorem cl_cy {N a b : Nat} (ha : a < N) (hb : b < N) : cl (cyG N) a b = (((a + b) % N : Nat) : Int) := by
  show rn (rown (cyG N) a) b = _
  rw [cyG, rown_tabM _ ha, cyR, rn_tabI _ hb, cyE]
  rfl
theorem cy_group {N : Nat} (hN : 1 ≤ N ∧ N ≤ 8) : IsGr (cyG N) := by
  have hl : (cyG N).length = N := cyG_len N
  have hp : 0 < N := by omega
  refine ⟨⟨by rw [hl]; exact hN, ?_⟩, ?_⟩
  · intro a ha
    rw [hl] at ha ⊢
    refine ⟨by rw [cyG, rown_tabM _ ha]; simp -implicitDefEqProofs (maxSteps := 3000000) [cyR], fun b hb => ?_⟩
    rw [cl_cy ha hb]
    have := Nat.mod_lt (a + b) hp
    omega
  · intro a ha
    rw [hl] at ha
    refine ⟨⟨?_, ?_⟩, ?_, ?_⟩
    · rw [cl_cy hp ha, Nat.zero_add, Nat.mod_eq_of_lt ha]
    · rw [cl_cy ha hp, Nat.add_zero, Nat.mod_eq_of_lt ha]
    · intro b hb d hd
      rw [hl] at hb hd
      rw [cl_cy ha hb, cl_cy hb hd, Int.toNat_natCast, Int.toNat_natCast, cl_cy (Nat.mod_lt _ hp) hd, cl_cy ha (Nat.mod_lt _ hp)]
      simp -implicitDefEqProofs (maxSteps := 3000000) [Nat.add_assoc]
    · rw [hl]
      refine ⟨(N - a) % N, Nat.mod_lt _ hp, ?_, ?_⟩
      · rw [cl_cy ha (Nat.mod_lt _ hp)]
        simp -implicitDefEqProofs (maxSteps := 3000000) [show a + (N - a) = N by omega]
      · rw [cl_cy (Nat.mod_lt _ hp) ha]
        simp -implicitDefEqProofs (maxSteps := 3000000) [show N - a + a = N by omega]
theorem emod_mul_l (q x y : Int) : x % q * y % q = x * y % q := by rw [Int.mul_emod, Int.emod_emod_of_dvd _ (Int.dvd_refl q), ← Int.mul_emod]
theorem emod_mul_r (q x y : Int) : x * (y % q) % q = x * y % q := by rw [Int.mul_emod, Int.emod_emod_of_dvd _ (Int.dvd_refl q), ← Int.mul_emod]
theorem itp_add {q u : Int} (hq : 2 ≤ q) (a : Nat) : ∀ b : Nat, itp q u 1 (a + b) = itp q u 1 a * itp q u 1 b % q
  | 0 => by
    have := itp_range (u := u) (show 0 < q by omega) a 1 (by omega) (by omega)
    simp only [Nat.add_zero, itp, Int.mul_one]
    rw [Int.emod_eq_of_lt this.1 this.2]
  | b + 1 => by
    rw [← Nat.add_assoc, itp_snoc, itp_add hq a b, itp_snoc q u b 1, emod_mul_l, emod_mul_r, Int.mul_assoc]
theorem itp_per {q u : Int} (hq : 2 ≤ q) {N : Nat} (h : itp q u 1 N = 1) (k : Nat) : itp q u 1 (N + k) = itp q u 1 k := by
  have := itp_range (u := u) (show 0 < q by omega) k 1 (by omega) (by omega)
  rw [itp_add hq, h, Int.one_mul, Int.emod_eq_of_lt this.1 this.2]
def cyU (q u : Int) (N : Nat) : List Int := tabI (itp q u 1) N
@[simp] theorem cyU_len (q u : Int) (N : Nat) : (cyU q u N).length = N := by simp -implicitDefEqProofs (maxSteps := 3000000) [cyU]
theorem rn_cyU {q u : Int} {N k : Nat} (h : k < N) : rn (cyU q u N) k = itp q u 1 k := rn_tabI _ h
theorem itp_mod {q u : Int} (hq : 2 ≤ q) {N : Nat} (h : itp q u 1 N = 1) {a b : Nat} (ha : a < N) (hb : b < N) : itp q u 1 ((a + b) % N) = itp q u 1 (a + b) := by
  by_cases h1 : a + b < N
  · rw [Nat.mod_eq_of_lt h1]
  · have e : a + b = N + (a + b - N) := by omega
    rw [e, itp_per hq h, Nat.add_mod_left, Nat.mod_eq_of_lt (by omega)]
theorem gcd_of_inv {q x y : Int} (hq : 2 ≤ q) (hx : 0 ≤ x) (h : x * y % q = 1) : gcdI x q = 1 := by
  have h1 := gcdI_dvd_left (a := x) q hx
  have h2 := gcdI_dvd_right x (b := q) (by omega)
  have h3 : gcdI x q ∣ 1 := by
    rw [← h, Int.emod_def]
    exact Int.dvd_sub (Int.dvd_trans h1 (Int.dvd_mul_right _ _)) (Int.dvd_trans h2 (Int.dvd_mul_right _ _))
  have h4 : 0 ≤ gcdI x q := by unfold gcdI; omega
  exact Int.eq_one_of_dvd_one h4 h3
theorem cy_module {q u : Int} {N : Nat} (hN : 1 ≤ N ∧ N ≤ 8) (hq : 2 ≤ q ∧ q ≤ 12) (h : itp q u 1 N = 1) : IsMo (cyG N) q (cyU q u N) := by
  have hp : 0 < N := by omega
  refine ⟨⟨hq, by simp⟩, ?_, ?_⟩
  · intro k hk
    rw [cyU_len] at hk
    rw [rn_cyU hk]
    have r := itp_range (u := u) (show 0 < q by omega) k 1 (by omega) (by omega)
    have e := itp_add (u := u) hq.1 k (N - k)
    rw [show k + (N - k) = N by omega, h] at e
    refine ⟨⟨?_, by omega⟩, gcd_of_inv hq.1 r.1 e.symm⟩
    by_cases z : itp q u 1 k = 0
    · rw [z, Int.zero_mul, Int.zero_emod] at e; omega
    · omega
  · intro a ha b hb
    rw [cyU_len] at ha hb
    rw [cl_cy ha hb, Int.toNat_natCast, rn_cyU (Nat.mod_lt _ hp), rn_cyU ha, rn_cyU hb, itp_mod hq.1 h ha hb, itp_add hq.1]
end Go.Proofs.YtfichikabolknaaGreatE
