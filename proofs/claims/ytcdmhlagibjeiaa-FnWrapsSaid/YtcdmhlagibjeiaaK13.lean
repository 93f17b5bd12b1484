/- Contracts of functions of the program and of the reference: what the evaluator gives for a call of each. -/
import Derived.Test.YtcdmhlagibjeiaaAEf
import Derived.Test.YtcdmhlagibjeiaaK0
import Derived.Test.YtcdmhlagibjeiaaK3
import Derived.Test.YtcdmhlagibjeiaaK4
import Derived.Test.YtcdmhlagibjeiaaK5
import Derived.Test.YtcdmhlagibjeiaaK11
namespace Go.Proofs.YtcdmhlagibjeiaaE
open Go Go.Proofs
set_option maxHeartbeats 2000000
set_option linter.unusedSimpArgs false
set_option linter.unusedVariables false
set_option pp.deepTerms false
set_option pp.deepTerms.threshold 10
def timesU (V : List Int) (q : Int) : List Int := V.map (q * ·)
theorem red_unit : ∀ M q u : Fin 13, 2 ≤ q.val → M.val % q.val = 0 → u.val < M.val → Nat.gcd u.val M.val = 1 → 1 ≤ u.val % q.val ∧ Nat.gcd (u.val % q.val) q.val = 1 := by decide +kernel
theorem isMo_red {T : List (List Int)} {M q : Int} {U : List Int} (hR : RowsOk T) (h : IsMo T M U) (hq : 2 ≤ q) (hqM : q ≤ M) (hd : M % q = 0) : IsMo T q (restU U q) := by
  obtain ⟨⟨hM, hl⟩, hu, hp⟩ := h
  have hlen : (restU U q).length = U.length := by simp -implicitDefEqProofs (maxSteps := 3000000) [restU]
  have hr : ∀ i, i < U.length → rn (restU U q) i = rn U i % q := fun i hi => rn_map (fun x => x % q) U hi
  refine ⟨⟨⟨hq, by omega⟩, by rw [hlen, hl]⟩, fun i hi => ?_, fun a ha b hb => ?_⟩
  · rw [hlen] at hi
    rw [hr i hi]
    obtain ⟨hr1, hg⟩ := hu i hi
    generalize rn U i = u at *
    obtain ⟨M', rfl⟩ := Int.eq_ofNat_of_zero_le (show 0 ≤ M by omega)
    obtain ⟨q', rfl⟩ := Int.eq_ofNat_of_zero_le (show 0 ≤ q by omega)
    obtain ⟨u', rfl⟩ := Int.eq_ofNat_of_zero_le (show 0 ≤ u by omega)
    unfold gcdI at hg
    rw [Int.toNat_natCast, Int.toNat_natCast] at hg
    have z := red_unit ⟨M', by omega⟩ ⟨q', by omega⟩ ⟨u', by omega⟩ (show 2 ≤ q' by omega) (show M' % q' = 0 by exact_mod_cast hd) (show u' < M' by omega) (show Nat.gcd u' M' = 1 by omega)
    have z1 : 1 ≤ u' % q' := z.1
    have z2 : Nat.gcd (u' % q') q' = 1 := z.2
    have z3 : u' % q' < q' := Nat.mod_lt _ (by omega)
    have e : (u' : Int) % (q' : Int) = ((u' % q' : Nat) : Int) := by rw [Int.natCast_emod]
    unfold Unit1 gcdI
    rw [e, Int.toNat_natCast, Int.toNat_natCast, z2]
    omega
  · rw [hlen] at ha hb
    have hc := (hR.2 a (by omega)).2 b (by omega)
    rw [hr _ (by omega), hr a ha, hr b hb, hp a ha b hb, Int.emod_emod_of_dvd _ (Int.dvd_of_emod_eq_zero hd), Int.mul_emod]
theorem div_ok {M k : Int} (hM : 2 ≤ M) (h : 2 ≤ k ∧ k ≤ M.tdiv 2 ∧ M.tmod k = 0) : (2 ≤ k ∧ k ≤ M ∧ M % k = 0) ∧ M.tdiv k = M / k ∧ (2 ≤ M / k ∧ M / k ≤ M ∧ M % (M / k) = 0) := by
  have h' := (half hM h.1 h.2.2).2 h.2.1
  have hd : M % k = 0 := by rw [← tmod_nn k (by omega)]; exact h.2.2
  have e : M = k * (M / k) := (Int.mul_ediv_cancel' (Int.dvd_of_emod_eq_zero hd)).symm
  have h1 : 1 ≤ M / k := Int.le_ediv_of_mul_le (show 0 < k by omega) (show 1 * k ≤ M by omega)
  have h2 : M / k ≠ 1 := fun q => by rw [q] at e; omega
  refine ⟨⟨h.1, by omega, hd⟩, Int.tdiv_eq_ediv_of_nonneg (by omega), by omega, Int.ediv_le_self k (by omega), ?_⟩
  exact Int.emod_eq_zero_of_dvd ⟨k, by rw [Int.mul_comm]; exact e⟩
/-! ## the code of a cochain of a reduced module -/
end Go.Proofs.YtcdmhlagibjeiaaE
