/- Contracts of functions of the program and of the reference: what the evaluator gives for a call of each. -/
import Derived.Test.YtfichikabolknaaGreatAEf
import Derived.Test.YtfichikabolknaaGreatK0
import Derived.Test.YtfichikabolknaaGreatK4
import Derived.Test.YtfichikabolknaaGreatK64
namespace Go.Proofs.YtfichikabolknaaGreatE
open Go Go.Proofs
set_option maxHeartbeats 4000000
set_option maxRecDepth 4000
set_option linter.unusedSimpArgs false
set_option linter.unusedVariables false
set_option pp.deepTerms false
set_option pp.deepTerms.threshold 10
/-! ## circles: laws -/
theorem dvd_emod_sub (m x : Int) : m ∣ x - x % m := by
  rw [Int.emod_def]
  exact ⟨x / m, by omega⟩
theorem sump_tel (m u : Int) : ∀ k : Nat, m ∣ (u - 1) * sump m u k - (itp m u 1 k - 1)
  | 0 => by simp -implicitDefEqProofs (maxSteps := 3000000) [sump, itp]
  | k + 1 => by
    have ih := sump_tel m u k
    have h1 := dvd_emod_sub m (itp m u 1 k * u)
    rw [← itp_snoc] at h1
    have e : (u - 1) * sump m u (k + 1) - (itp m u 1 (k + 1) - 1) = ((u - 1) * sump m u k - (itp m u 1 k - 1)) + (itp m u 1 k * u - itp m u 1 (k + 1)) := by
      simp only [sump]
      rw [Int.mul_add, Int.sub_mul u 1 (itp m u 1 k), Int.one_mul, Int.mul_comm u (itp m u 1 k)]
      omega
    rw [e]
    exact Int.dvd_add ih h1
theorem ker_im {n m u : Int} (d : Int) (hc : isC n m u = true) : m ∣ (tmaps n m u d).1 * (tmaps n m u d).2 := by
  obtain ⟨hn1, hn2, hm1, hm2, hu1, hu2, _, hp⟩ := isC_of hc
  have h := sump_tel m u n.toNat
  rw [hp] at h
  have h0 : m ∣ (u - 1) * sump m u n.toNat := by simpa using h
  have h1 : m ∣ (u - 1) * (sump m u n.toNat % m) := by
    have h2 := dvd_emod_sub m (sump m u n.toNat)
    have h3 : (u - 1) * (sump m u n.toNat % m) = (u - 1) * sump m u n.toNat - (u - 1) * (sump m u n.toNat - sump m u n.toNat % m) := by rw [Int.mul_sub]; omega
    rw [h3]
    exact Int.dvd_sub h0 (Int.dvd_trans h2 (Int.dvd_mul_left _ _))
  unfold tmaps
  split
  · exact h1
  · show m ∣ (sump m u n.toNat % m) * (u - 1)
    rw [Int.mul_comm]; exact h1
theorem ord_dvd {m k i : Int} (hm : 0 < m) (hk : 0 ≤ k) (hi : 0 ≤ i) (h : m ∣ k * i) : m ∣ gcdI m k * gcdI m i := by
  obtain ⟨a, b, e1⟩ := bez (show 0 ≤ m by omega) hk
  obtain ⟨c, d, e2⟩ := bez (show 0 ≤ m by omega) hi
  obtain ⟨t, ht⟩ := h
  rw [← e1, ← e2]
  refine ⟨a * (m * c + i * d) + k * b * c + t * (b * d), ?_⟩
  have h1 : k * b * (i * d) = m * (t * (b * d)) := by
    rw [← Int.mul_assoc m, ← ht, Int.mul_assoc, Int.mul_left_comm b i d, ← Int.mul_assoc]
  have h2 : k * b * (m * c) = m * (k * b * c) := by rw [Int.mul_left_comm]
  rw [Int.add_mul, Int.mul_add (k * b), h1, h2, Int.mul_add m, Int.mul_add m, Int.mul_assoc]
  omega
/-- The order times the number of noughts is the number of members. -/
theorem ord_mul {m k i : Int} (hm : 0 < m) (hk : 0 ≤ k) (hi : 0 ≤ i) (h : m ∣ k * i) : gcdI m k * gcdI m i / m * (m / gcdI m i) = gcdI m k := by
  have hg := gcdI_pos i hm
  have q1 := Int.mul_ediv_cancel' (ord_dvd hm hk hi h)
  have q2 := quot_mul hg (gcdI_dvd_left i (show 0 ≤ m by omega))
  generalize gcdI m k * gcdI m i / m = q at *
  generalize m / gcdI m i = r at *
  generalize gcdI m i = g at *
  generalize gcdI m k = f at *
  -- m q = f g, g r = m
  have : g * (q * r) = g * f := by
    rw [Int.mul_comm g f, ← q1, ← q2, Int.mul_comm q r, Int.mul_assoc]
  exact Int.eq_of_mul_eq_mul_left (by omega) this
theorem pow_fix {m u x : Int} (h : m ∣ (u - 1) * x) : ∀ k : Nat, m ∣ itp m u 1 k * x - x
  | 0 => by simp -implicitDefEqProofs (maxSteps := 3000000) [itp]
  | k + 1 => by
    have ih := pow_fix h k
    have h1 := dvd_emod_sub m (itp m u 1 k * u)
    rw [← itp_snoc] at h1
    have e : itp m u 1 (k + 1) * x - x = (itp m u 1 k * x - x) + itp m u 1 k * ((u - 1) * x) - (itp m u 1 k * u - itp m u 1 (k + 1)) * x := by
      rw [Int.sub_mul (itp m u 1 k * u), Int.sub_mul u, Int.mul_sub (itp m u 1 k), ← Int.mul_assoc, Int.one_mul]
      omega
    rw [e]
    exact Int.dvd_sub (Int.dvd_add ih (Int.dvd_trans h (Int.dvd_mul_left _ _))) (Int.dvd_trans h1 (Int.dvd_mul_right _ _))
theorem sump_fix {m u x : Int} (h : m ∣ (u - 1) * x) : ∀ k : Nat, m ∣ sump m u k * x - k * x
  | 0 => by simp -implicitDefEqProofs (maxSteps := 3000000) [sump]
  | k + 1 => by
    have ih := sump_fix h k
    have h1 := pow_fix h k
    have e : sump m u (k + 1) * x - ((k + 1 : Nat) : Int) * x = (sump m u k * x - k * x) + (itp m u 1 k * x - x) := by
      simp only [sump]
      rw [Int.add_mul, Int.natCast_succ, Int.add_mul, Int.one_mul]
      omega
    rw [e]
    exact Int.dvd_add ih h1
theorem pow_one {m u g : Int} (hm : g ∣ m) (hu : g ∣ u - 1) : ∀ k : Nat, g ∣ itp m u 1 k - 1
  | 0 => by simp -implicitDefEqProofs (maxSteps := 3000000) [itp]
  | k + 1 => by
    have ih := pow_one hm hu k
    have h1 := Int.dvd_trans hm (dvd_emod_sub m (itp m u 1 k * u))
    rw [← itp_snoc] at h1
    have e : itp m u 1 (k + 1) - 1 = (itp m u 1 k - 1) + itp m u 1 k * (u - 1) - (itp m u 1 k * u - itp m u 1 (k + 1)) := by
      rw [Int.mul_sub, Int.mul_one]
      omega
    rw [e]
    exact Int.dvd_sub (Int.dvd_add ih (Int.dvd_trans hu (Int.dvd_mul_left _ _))) h1
theorem sump_one {m u g : Int} (hm : g ∣ m) (hu : g ∣ u - 1) : ∀ k : Nat, g ∣ sump m u k - k
  | 0 => by simp -implicitDefEqProofs (maxSteps := 3000000) [sump]
  | k + 1 => by
    have ih := sump_one hm hu k
    have h1 := pow_one hm hu k
    have e : sump m u (k + 1) - ((k + 1 : Nat) : Int) = (sump m u k - k) + (itp m u 1 k - 1) := by
      simp only [sump]
      omega
    rw [e]
    exact Int.dvd_add ih h1
/-- n times a member is nought. -/
theorem times_n {n m u x : Int} (d : Int) (hc : isC n m u = true) (hx : (tmaps n m u d).1 * x % m = 0) : gcdI m (tmaps n m u d).2 ∣ n * x := by
  obtain ⟨hn1, hn2, hm1, hm2, hu1, hu2, _, hp⟩ := isC_of hc
  obtain ⟨r1, r2, r3, r4⟩ := tmaps_range (d := d) hc
  have hgm := gcdI_dvd_left (tmaps n m u d).2 (show 0 ≤ m by omega)
  have hgi := gcdI_dvd_right m r3
  have hx' := Int.dvd_of_emod_eq_zero hx
  generalize gcdI m (tmaps n m u d).2 = g at *
  have hn : ((n.toNat : Nat) : Int) = n := Int.toNat_of_nonneg (by omega)
  unfold tmaps at hx' hgi
  split at hx'
  · rename_i hd
    rw [if_pos hd] at hgi
    have h1 := sump_fix (k := n.toNat) hx'
    rw [hn] at h1
    have h2 : g ∣ sump m u n.toNat := by
      have h3 : sump m u n.toNat = (sump m u n.toNat - sump m u n.toNat % m) + sump m u n.toNat % m := by omega
      rw [h3]
      exact Int.dvd_add (Int.dvd_trans hgm (dvd_emod_sub m _)) hgi
    have h4 : n * x = sump m u n.toNat * x - (sump m u n.toNat * x - n * x) := by omega
    rw [h4]
    exact Int.dvd_sub (Int.dvd_trans h2 (Int.dvd_mul_right _ _)) (Int.dvd_trans hgm h1)
  · rename_i hd
    rw [if_neg hd] at hgi
    have h1 := sump_one (k := n.toNat) hgm hgi
    rw [hn] at h1
    have h2 : g ∣ sump m u n.toNat * x := by
      have h3 : sump m u n.toNat * x = (sump m u n.toNat - sump m u n.toNat % m) * x + sump m u n.toNat % m * x := by rw [Int.sub_mul]; omega
      rw [h3]
      exact Int.dvd_add (Int.dvd_trans hgm (Int.dvd_trans (dvd_emod_sub m _) (Int.dvd_mul_right _ _))) (Int.dvd_trans hgm hx')
    have h4 : n * x = sump m u n.toNat * x - (sump m u n.toNat - n) * x := by rw [Int.sub_mul]; omega
    rw [h4]
    exact Int.dvd_sub h2 (Int.dvd_trans h1 (Int.dvd_mul_right _ _))
/-- The least of a class is a member. -/
theorem class_ker {m k i x : Int} (hm : 0 < m) (hk : 0 ≤ k) (hi : 0 ≤ i) (h : m ∣ k * i) (hx : k * x % m = 0) : k * (x % gcdI m i) % m = 0 := by
  obtain ⟨a, b, e⟩ := bez (show 0 ≤ m by omega) hi
  have hx' := Int.dvd_of_emod_eq_zero hx
  apply Int.emod_eq_zero_of_dvd
  rw [Int.emod_def, Int.mul_sub]
  refine Int.dvd_sub hx' ?_
  have h1 : m ∣ k * gcdI m i := by
    rw [← e, Int.mul_add]
    refine Int.dvd_add ?_ ?_
    · rw [Int.mul_left_comm]; exact Int.dvd_mul_right _ _
    · rw [← Int.mul_assoc]; exact Int.dvd_trans h (Int.dvd_mul_right _ _)
  rw [← Int.mul_assoc]
  exact Int.dvd_trans h1 (Int.dvd_mul_right _ _)
end Go.Proofs.YtfichikabolknaaGreatE
