/- Contracts of functions of the program and of the reference: what the evaluator gives for a call of each. -/
import Derived.Test.YtnfhglplafmfiaaGreatAEf
import Derived.Test.YtnfhglplafmfiaaGreatK1M
import Derived.Test.YtnfhglplafmfiaaGreatK4
import Derived.Test.YtnfhglplafmfiaaGreatK29M
namespace Go.Proofs.YtnfhglplafmfiaaGreatE
open Go Go.Proofs
set_option maxHeartbeats 4000000
set_option maxRecDepth 4000
set_option linter.unusedSimpArgs false
set_option linter.unusedVariables false
set_option pp.deepTerms false
set_option pp.deepTerms.threshold 10
/-! ## circles: numbers -/
def itp (m u : Int) : Int → Nat → Int
  | acc, 0 => acc
  | acc, n + 1 => itp m u (acc * u % m) n
theorem itp_range {m u : Int} (hm : 0 < m) : ∀ (n : Nat) (acc : Int), 0 ≤ acc → acc < m → 0 ≤ itp m u acc n ∧ itp m u acc n < m
  | 0, _, h0, h1 => ⟨h0, h1⟩
  | n + 1, acc, _, _ => itp_range hm n _ (Int.emod_nonneg _ (by omega)) (Int.emod_lt_of_pos _ hm)
theorem itp_snoc (m u : Int) : ∀ (n : Nat) (acc : Int), itp m u acc (n + 1) = itp m u acc n * u % m
  | 0, _ => rfl
  | n + 1, acc => itp_snoc m u n (acc * u % m)
def sump (m u : Int) : Nat → Int
  | 0 => 0
  | n + 1 => sump m u n + itp m u 1 n
theorem sump_range {m u : Int} (hm : 1 < m) : ∀ (n : Nat), 0 ≤ sump m u n ∧ sump m u n ≤ m * n
  | 0 => ⟨Int.le_refl _, by simp -implicitDefEqProofs (maxSteps := 3000000) [sump]⟩
  | n + 1 => by
    have h := sump_range (u := u) hm n
    have g := itp_range (u := u) (show 0 < m by omega) n 1 (by omega) hm
    have e : m * ((n + 1 : Nat) : Int) = m * n + m := by rw [Int.natCast_succ, Int.mul_add, Int.mul_one]
    unfold sump
    omega
def isC (n m u : Int) : Bool := decide (1 ≤ n) && (decide (n ≤ 60) && (decide (2 ≤ m) && (decide (m ≤ 200) && (decide (1 ≤ u) && (decide (u < m) && ((gcdI m u == 1) && (itp m u 1 n.toNat == 1)))))))
theorem isC_of {n m u : Int} (h : isC n m u = true) : 1 ≤ n ∧ n ≤ 60 ∧ 2 ≤ m ∧ m ≤ 200 ∧ 1 ≤ u ∧ u < m ∧ gcdI m u = 1 ∧ itp m u 1 n.toNat = 1 := by
  simpa [isC] using h
theorem bez_nat : ∀ (n a b : Nat), b ≤ n → ∃ x y : Int, (a : Int) * x + b * y = (Nat.gcd a b : Nat) := by
  intro n
  induction n with
  | zero =>
    intro a b hb
    have e : b = 0 := by omega
    subst e
    exact ⟨1, 0, by simp⟩
  | succ n ih =>
    intro a b hb
    by_cases h : b = 0
    · subst h
      exact ⟨1, 0, by simp⟩
    · have hlt := Nat.mod_lt a (show 0 < b by omega)
      obtain ⟨x, y, e⟩ := ih b (a % b) (by omega)
      have q : ((a % b : Nat) : Int) = (a : Int) - b * (a / b : Nat) := by
        have := Nat.div_add_mod a b
        omega
      have g : Nat.gcd b (a % b) = Nat.gcd a b := by rw [Nat.gcd_comm b (a % b), ← Nat.gcd_rec, Nat.gcd_comm]
      refine ⟨y, x - (a / b : Nat) * y, ?_⟩
      rw [← g, ← e, q, Int.mul_sub, Int.sub_mul, Int.mul_assoc]
      omega
theorem bez {a b : Int} (ha : 0 ≤ a) (hb : 0 ≤ b) : ∃ x y : Int, a * x + b * y = gcdI a b := by
  obtain ⟨a, rfl⟩ := Int.eq_ofNat_of_zero_le ha
  obtain ⟨b, rfl⟩ := Int.eq_ofNat_of_zero_le hb
  exact bez_nat b a b (Nat.le_refl _)
theorem gcdI_dvd_left {a : Int} (b : Int) (ha : 0 ≤ a) : gcdI a b ∣ a := by
  obtain ⟨a, rfl⟩ := Int.eq_ofNat_of_zero_le ha
  unfold gcdI
  rw [Int.toNat_natCast]
  exact Int.ofNat_dvd.2 (Nat.gcd_dvd_left _ _)
theorem gcdI_dvd_right (a : Int) {b : Int} (hb : 0 ≤ b) : gcdI a b ∣ b := by rw [gcdI_comm]; exact gcdI_dvd_left a hb
/-- The multiples of c by m are those of their common divisor. -/
theorem image_gcd {m c y : Int} (hm : 0 < m) (hc : 0 ≤ c) (hy : 0 ≤ y) (hy' : y < m) : (∃ x, 0 ≤ x ∧ x < m ∧ c * x % m = y) ↔ y % gcdI m c = 0 := by
  constructor
  · rintro ⟨x, _, _, e⟩
    have h1 : gcdI m c ∣ c * x := Int.dvd_trans (gcdI_dvd_right m hc) (Int.dvd_mul_right c x)
    have h2 : gcdI m c ∣ m := gcdI_dvd_left c (by omega)
    have h3 : gcdI m c ∣ y := by
      rw [← e, Int.emod_def]
      exact Int.dvd_sub h1 (Int.dvd_trans h2 (Int.dvd_mul_right m _))
    exact Int.emod_eq_zero_of_dvd h3
  · intro h
    obtain ⟨t, ht⟩ := Int.dvd_of_emod_eq_zero h
    obtain ⟨a, b, e⟩ := bez (show 0 ≤ m by omega) hc
    refine ⟨b * t % m, Int.emod_nonneg _ (by omega), Int.emod_lt_of_pos _ hm, ?_⟩
    rw [Int.mul_emod, Int.emod_emod_of_dvd _ (Int.dvd_refl m), ← Int.mul_emod]
    have q : c * (b * t) = y + m * (-(a * t)) := by
      have e2 : gcdI m c * t = m * a * t + c * b * t := by rw [← e, Int.add_mul]
      rw [ht, e2, Int.mul_neg, Int.mul_assoc, Int.mul_assoc]
      omega
    rw [q, Int.add_mul_emod_self_left, Int.emod_eq_of_lt hy hy']
theorem two_mod (d : Int) : (d % 2 = 0 ↔ Int.tmod d 2 = 0) := by
  constructor
  · intro h
    exact Int.tmod_eq_zero_of_dvd (Int.dvd_of_emod_eq_zero h)
  · intro h
    exact Int.emod_eq_zero_of_dvd (Int.dvd_of_tmod_eq_zero h)
def tmaps (n m u d : Int) : Int × Int := if d % 2 = 0 then (u - 1, sump m u n.toNat % m) else (sump m u n.toNat % m, u - 1)
theorem tmaps_range {n m u d : Int} (hc : isC n m u = true) : 0 ≤ (tmaps n m u d).1 ∧ (tmaps n m u d).1 < m ∧ 0 ≤ (tmaps n m u d).2 ∧ (tmaps n m u d).2 < m := by
  obtain ⟨hn1, hn2, hm1, hm2, hu1, hu2, _, _⟩ := isC_of hc
  have h0 := Int.emod_nonneg (sump m u n.toNat) (show m ≠ 0 by omega)
  have h1 := Int.emod_lt_of_pos (sump m u n.toNat) (show 0 < m by omega)
  unfold tmaps
  split
  · exact ⟨by show 0 ≤ u - 1; omega, by show u - 1 < m; omega, h0, h1⟩
  · exact ⟨h0, h1, by show 0 ≤ u - 1; omega, by show u - 1 < m; omega⟩
def tacode (n m u d : Int) : Int := if isC n m u = true then (if -1000 ≤ d ∧ d ≤ 1000 then 0 else 2) else 2
theorem tacode_zero {n m u d : Int} (h : tacode n m u d = 0) : isC n m u = true ∧ -1000 ≤ d ∧ d ≤ 1000 := by
  unfold tacode at h
  by_cases h1 : isC n m u = true
  · by_cases h2 : -1000 ≤ d ∧ d ≤ 1000
    · exact ⟨h1, h2⟩
    · rw [if_pos h1, if_neg h2] at h; omega
  · rw [if_neg h1] at h; omega
theorem tacode_two {n m u d : Int} (h : ¬ tacode n m u d = 0) : tacode n m u d = 2 := by
  unfold tacode at h ⊢
  by_cases h1 : isC n m u = true
  · by_cases h2 : -1000 ≤ d ∧ d ≤ 1000
    · rw [if_pos h1, if_pos h2] at h; omega
    · rw [if_pos h1, if_neg h2]
  · rw [if_neg h1]
def upto (n : Nat) : List Int := tabI (fun i => (i : Int)) n
@[simp] theorem upto_len (n : Nat) : (upto n).length = n := by simp -implicitDefEqProofs (maxSteps := 3000000) [upto]
theorem upto_succ (n : Nat) : upto n ++ [(n : Int)] = upto (n + 1) := tabI_succ _ n
theorem rn_upto {n i : Nat} (h : i < n) : rn (upto n) i = (i : Int) := rn_tabI _ h
theorem mem_upto {n : Nat} {x : Int} : x ∈ upto n ↔ 0 ≤ x ∧ x < n := by
  rw [mem_rn]
  constructor
  · rintro ⟨i, hi, e⟩
    rw [upto_len] at hi
    rw [rn_upto hi] at e
    omega
  · rintro ⟨h0, h1⟩
    exact ⟨x.toNat, by rw [upto_len]; omega, by rw [rn_upto (by omega)]; omega⟩
def fltL (q : Int → Bool) (n : Nat) : List Int := (upto n).filter q
theorem fltL_succ (q : Int → Bool) (n : Nat) : fltL q (n + 1) = fltL q n ++ (if q n = true then [(n : Int)] else []) := by
  unfold fltL
  rw [← upto_succ, List.filter_append]
  congr 1
  by_cases h : q n = true
  · simp -implicitDefEqProofs (maxSteps := 3000000) [h]
  · simp -implicitDefEqProofs (maxSteps := 3000000) [h]
theorem fltL_le (q : Int → Bool) (n : Nat) : (fltL q n).length ≤ n := by
  have := List.length_filter_le q (upto n)
  simpa [fltL] using this
theorem mem_fltL {q : Int → Bool} {n : Nat} {x : Int} : x ∈ fltL q n ↔ (0 ≤ x ∧ x < n) ∧ q x = true := by
  rw [fltL, List.mem_filter, mem_upto]
def tmem (m c : Int) : List Int := fltL (fun x => c * x % m == 0) m.toNat
def tnou (m c : Int) : List Int := fltL (fun y => y % gcdI m c == 0) m.toNat
/-- The multiples of a divisor. -/
theorem mult_len {d : Nat} (hd : 0 < d) : ∀ k : Nat, (fltL (fun y => y % (d : Int) == 0) (d * k)).length = k
  | 0 => rfl
  | k + 1 => by
    have ih := mult_len hd k
    have step : ∀ j ≤ d, 0 < j → (fltL (fun y => y % (d : Int) == 0) (d * k + j)).length = k + 1 := by
      intro j
      induction j with
      | zero => intro _ h; omega
      | succ j jh =>
        intro hj _
        rw [← Nat.add_assoc, fltL_succ, List.length_append]
        rcases Nat.eq_zero_or_pos j with rfl | z
        · have e : (((d * k + 0 : Nat) : Int) % (d : Int) == 0) = true := by
            rw [beq_iff_eq, Nat.add_zero, Int.natCast_mul, Int.mul_emod_right]
          rw [if_pos e, Nat.add_zero, ih]; rfl
        · have e : ¬ (((d * k + j : Nat) : Int) % (d : Int) == 0) = true := by
            rw [beq_iff_eq, Int.natCast_add, Int.natCast_mul, Int.add_comm, Int.add_mul_emod_self_left, Int.emod_eq_of_lt (by omega) (by omega)]
            omega
          rw [if_neg e, jh (by omega) z]; rfl
    have := step d (Nat.le_refl _) hd
    rwa [← Nat.mul_succ] at this
theorem mult_len2 {m d : Int} (hm : 0 < m) (hd : 0 < d) (h : d ∣ m) : ((fltL (fun y => y % d == 0) m.toNat).length : Int) = m / d := by
  obtain ⟨k, rfl⟩ := h
  obtain ⟨d, rfl⟩ := Int.eq_ofNat_of_zero_le (Int.le_of_lt hd)
  have hk : 0 ≤ k := by
    rcases Int.lt_or_le k 0 with z | z
    · have := Int.mul_neg_of_pos_of_neg hd z
      omega
    · exact z
  obtain ⟨k, rfl⟩ := Int.eq_ofNat_of_zero_le hk
  rw [Int.mul_ediv_cancel_left _ (by omega), show ((d : Int) * (k : Int)).toNat = d * k by rw [← Int.natCast_mul, Int.toNat_natCast], mult_len (by omega)]
theorem quot_mul {m g : Int} (hg : 0 < g) (h : g ∣ m) : g * (m / g) = m := Int.mul_ediv_cancel' h
theorem tnou_len {m c : Int} (hm : 0 < m) : ((tnou m c).length : Int) = m / gcdI m c :=
  mult_len2 hm (gcdI_pos c hm) (gcdI_dvd_left c (by omega))
/-- What a number kills: the multiples of m by the common divisor. -/
theorem kill_iff {m c x : Int} (hm : 0 < m) (hc : 0 ≤ c) : c * x % m = 0 ↔ x % (m / gcdI m c) = 0 := by
  have hg := gcdI_pos c hm
  obtain ⟨r, hr⟩ := gcdI_dvd_right m hc
  obtain ⟨a, b, e⟩ := bez (show 0 ≤ m by omega) hc
  have hq := quot_mul hg (gcdI_dvd_left c (show 0 ≤ m by omega))
  generalize m / gcdI m c = q at *
  generalize gcdI m c = g at *
  subst hq hr
  have h2 : q * a + r * b = 1 := by
    have h1 : g * (q * a + r * b) = g * 1 := by
      rw [Int.mul_add, ← Int.mul_assoc, ← Int.mul_assoc, e, Int.mul_one]
    exact Int.eq_of_mul_eq_mul_left (by omega) h1
  constructor
  · intro h
    obtain ⟨t, ht⟩ := Int.dvd_of_emod_eq_zero h
    apply Int.emod_eq_zero_of_dvd
    have h4 : r * x = q * t := by
      have h3 : g * (r * x) = g * (q * t) := by rw [← Int.mul_assoc, ← Int.mul_assoc, ht]
      exact Int.eq_of_mul_eq_mul_left (by omega) h3
    refine ⟨a * x + b * t, ?_⟩
    calc x = (q * a + r * b) * x := by rw [h2, Int.one_mul]
      _ = q * (a * x) + b * (r * x) := by rw [Int.add_mul, Int.mul_assoc, Int.mul_comm r b, Int.mul_assoc]
      _ = q * (a * x) + q * (b * t) := by rw [h4, Int.mul_left_comm b q t]
      _ = q * (a * x + b * t) := by rw [Int.mul_add]
  · intro h
    obtain ⟨t, rfl⟩ := Int.dvd_of_emod_eq_zero h
    apply Int.emod_eq_zero_of_dvd
    exact ⟨r * t, by rw [Int.mul_assoc, Int.mul_assoc, Int.mul_left_comm r q t]⟩
theorem tmem_len {m c : Int} (hm : 0 < m) (hc : 0 ≤ c) : ((tmem m c).length : Int) = gcdI m c := by
  have hg := gcdI_pos c hm
  have hd := gcdI_dvd_left c (show 0 ≤ m by omega)
  have e : tmem m c = fltL (fun y => y % (m / gcdI m c) == 0) m.toNat := by
    unfold tmem fltL
    apply List.filter_congr
    intro x hx
    rw [Bool.eq_iff_iff, beq_iff_eq, beq_iff_eq]
    exact kill_iff hm hc
  have hq := quot_mul hg hd
  have hq0 : 0 < m / gcdI m c := by
    rcases Int.lt_or_le 0 (m / gcdI m c) with z | z
    · exact z
    · have := Int.mul_nonpos_of_nonneg_of_nonpos (Int.le_of_lt hg) z
      omega
  rw [e, mult_len2 hm hq0 ⟨gcdI m c, by rw [Int.mul_comm]; exact hq.symm⟩]
  generalize m / gcdI m c = q at *
  have : gcdI m c * q / q = gcdI m c := Int.mul_ediv_cancel _ (by omega)
  rwa [hq] at this
end Go.Proofs.YtnfhglplafmfiaaGreatE
