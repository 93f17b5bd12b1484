/- The program's TateMembers returns what the reference's returns, for all arguments. -/
import Derived.Test.YtkpnhkccdjphgaaPFnExactTateMembersx4
import Derived.Test.YtkpnhkccdjphgaaXPure
namespace Go.Proofs.Ytkpnhkccdjphgaa.Pure
open Go.RowKit Go.Proofs.Ytkpnhkccdjphgaa.PFnExactTateMembers Go.Proofs.YtkpnhkccdjphgaaW.PrintWords Go.Proofs.YtkpnhkccdjphgaaW.PrintLast Go.Proofs.YtkpnhkccdjphgaaW.PrintMore Go.Proofs.Ytkpnhkccdjphgaa.XPure

-- plain mathematics of circles (own text; no program in sight)
def itp (m u : Int) : Int → Nat → Int
  | acc, 0 => acc
  | acc, n + 1 => itp m u (acc * u % m) n
theorem itp_range {m u : Int} (hm : 0 < m) : ∀ (n : Nat) (acc : Int), 0 ≤ acc → acc < m → 0 ≤ itp m u acc n ∧ itp m u acc n < m
  | 0, _, h0, h1 => ⟨h0, h1⟩
  | n + 1, acc, _, _ => itp_range hm n _ (Int.emod_nonneg _ (by omega)) (Int.emod_lt_of_pos _ hm)
theorem itp_snoc (m u : Int) : ∀ (n : Nat) (acc : Int), itp m u acc (n + 1) = itp m u acc n * u % m
  | 0, _ => rfl
  | n + 1, acc => itp_snoc m u n (acc * u % m)
def sump (m u : Int) : Nat → Int
  | 0 => 0
  | n + 1 => sump m u n + itp m u 1 n
theorem sump_range {m u : Int} (hm : 1 < m) : ∀ (n : Nat), 0 ≤ sump m u n ∧ sump m u n ≤ m * n
  | 0 => ⟨Int.le_refl _, by simp [sump]⟩
  | n + 1 => by
    have h := sump_range (u := u) hm n
    have g := itp_range (u := u) (show 0 < m by omega) n 1 (by omega) hm
    have e : m * ((n + 1 : Nat) : Int) = m * n + m := by rw [Int.natCast_succ, Int.mul_add, Int.mul_one]
    unfold sump
    omega
def gcdI (a b : Int) : Int := ((Nat.gcd a.toNat b.toNat : Nat) : Int)
theorem gcdI_zero {a : Int} (h : 0 ≤ a) : gcdI a 0 = a := by unfold gcdI; simp; omega
theorem gcdI_comm (a b : Int) : gcdI a b = gcdI b a := by unfold gcdI; rw [Nat.gcd_comm]
theorem gcdI_nonneg (a b : Int) : 0 ≤ gcdI a b := by unfold gcdI; omega
theorem gcdI_le_left {a : Int} (b : Int) (h : 0 < a) : gcdI a b ≤ a := by
  unfold gcdI
  have := Nat.gcd_le_left (m := a.toNat) b.toNat (by omega)
  omega
theorem gcdI_pos {a : Int} (b : Int) (h : 0 < a) : 0 < gcdI a b := by
  unfold gcdI
  have := Nat.gcd_pos_of_pos_left (m := a.toNat) b.toNat (by omega)
  omega
theorem gcdI_step {a b : Int} (ha : 0 ≤ a) (hb : 0 < b) : gcdI b (a % b) = gcdI a b := by
  obtain ⟨a, rfl⟩ := Int.eq_ofNat_of_zero_le ha
  obtain ⟨b, rfl⟩ := Int.eq_ofNat_of_zero_le (Int.le_of_lt hb)
  unfold gcdI
  rw [← Int.natCast_emod, Int.toNat_natCast, Int.toNat_natCast, Int.toNat_natCast]
  rw [Nat.gcd_comm b, ← Nat.gcd_rec, Nat.gcd_comm]
def isC (n m u : Int) : Bool := decide (1 ≤ n) && (decide (n ≤ 60) && (decide (2 ≤ m) && (decide (m ≤ 200) && (decide (1 ≤ u) && (decide (u < m) && ((gcdI m u == 1) && (itp m u 1 n.toNat == 1)))))))
theorem isC_of {n m u : Int} (h : isC n m u = true) : 1 ≤ n ∧ n ≤ 60 ∧ 2 ≤ m ∧ m ≤ 200 ∧ 1 ≤ u ∧ u < m ∧ gcdI m u = 1 ∧ itp m u 1 n.toNat = 1 := by
  simpa [isC] using h

theorem igcd_ev : ∀ (n : Nat) (a b : Int), 0 ≤ a → 0 ≤ b → b.toNat ≤ n → Ev (fun k => impl_gcd.l0 k a b) (gcdI a b) := by
  intro n
  induction n with
  | zero =>
    intro a b ha hb hn
    obtain rfl : b = 0 := by omega
    exact Ev.step (f := fun _ => some a) (fun k => by simp only [impl_gcd.l0, if_true]) (by rw [gcdI_zero ha]; exact Ev.now _)
  | succ n ih =>
    intro a b ha hb hn
    by_cases h : b = 0
    · subst h
      exact Ev.step (f := fun _ => some a) (fun k => by simp only [impl_gcd.l0, if_true]) (by rw [gcdI_zero ha]; exact Ev.now _)
    · have hm := Int.emod_lt_of_pos a (show 0 < b by omega)
      have hm0 := Int.emod_nonneg a h
      refine Ev.step (f := fun k => impl_gcd.l0 k b (a % b)) (fun k => by simp only [impl_gcd.l0]; rw [if_neg h, tmod_nn b ha]) ?_
      rw [← gcdI_step ha (by omega)]
      exact ih b (a % b) hb hm0 (by omega)
theorem igcd {a b : Int} (ha : 0 ≤ a) (hb : 0 ≤ b) : Ev (fun k => impl_gcd.f k a b) (gcdI a b) := igcd_ev b.toNat a b ha hb (Nat.le_refl _)
theorem sgcd_ev : ∀ (n : Nat) (a b : Int), 0 ≤ a → a ≤ 9223372036854775807 → 0 ≤ b → b ≤ 9223372036854775807 → b.toNat ≤ n → Ev (fun k => spec_l01Gcd.l0 k a b) (gcdI a b) := by
  intro n
  have base : ∀ a : Int, 0 ≤ a → a ≤ 9223372036854775807 → mx a (wrap64 (-a)) = a := by
    intro a h h'
    rw [w64 (by omega)]
    unfold mx
    split <;> omega
  induction n with
  | zero =>
    intro a b ha ha' hb _ hn
    obtain rfl : b = 0 := by omega
    exact Ev.step (f := fun _ => some a) (fun k => by simp only [spec_l01Gcd.l0, if_true]; rw [base a ha ha']) (by rw [gcdI_zero ha]; exact Ev.now _)
  | succ n ih =>
    intro a b ha ha' hb hb' hn
    by_cases h : b = 0
    · subst h
      exact Ev.step (f := fun _ => some a) (fun k => by simp only [spec_l01Gcd.l0, if_true]; rw [base a ha ha']) (by rw [gcdI_zero ha]; exact Ev.now _)
    · have hm := Int.emod_lt_of_pos a (show 0 < b by omega)
      have hm0 := Int.emod_nonneg a h
      refine Ev.step (f := fun k => spec_l01Gcd.l0 k b (a % b)) (fun k => by simp only [spec_l01Gcd.l0]; rw [if_neg h, tmod_nn b ha]) ?_
      rw [← gcdI_step ha (by omega)]
      exact ih b (a % b) hb hb' hm0 (by omega) (by omega)
theorem sgcd {a b : Int} (ha : 0 ≤ a) (ha' : a ≤ 9223372036854775807) (hb : 0 ≤ b) (hb' : b ≤ 9223372036854775807) : Ev (fun k => spec_l01Gcd.f k a b) (gcdI a b) := sgcd_ev b.toNat a b ha ha' hb hb' (Nat.le_refl _)
theorem sIn (a b c : Int) : spec_l01In.f a b c = some (decide (b ≤ a) && decide (a ≤ c)) := by
  unfold spec_l01In.f
  by_cases h : a ≥ b
  · rw [if_pos h]; simp [show b ≤ a from h]
  · rw [if_neg h]; simp [show ¬ b ≤ a from h]
theorem sMod {a m : Int} (hm : 0 < m) (hm' : m ≤ 1000000) : spec_l01Mod.f a m = some (a % m) := by
  unfold spec_l01Mod.f
  rw [if_neg (by omega)]
  have h0 := Int.emod_nonneg a (show m ≠ 0 by omega)
  have h1 := Int.emod_lt_of_pos a hm
  have e := Int.mul_tdiv_add_tmod a m
  have t1 := Int.tmod_lt_of_pos a hm
  have t0 : -m < Int.tmod a m := by
    have hx := Int.tmod_lt_of_pos (-a) hm
    rw [Int.neg_tmod] at hx
    omega
  rw [w64 (by omega), tmod_nn _ (by omega), Int.add_emod_right]
  rw [show Int.tmod a m = a - m * Int.tdiv a m by omega, Int.sub_mul_emod_self_left]
theorem spow_l0 {m u : Int} (hm : 1 < m) (hm' : m ≤ 200) (hu : 0 ≤ u) (hu' : u < m) : ∀ (n : Nat) (acc : Int), n ≤ 1000 → 0 ≤ acc → acc < m → Ev (fun k => spec_l09Power.l0 k u n m acc) (itp m u acc n) := by
  intro n
  induction n with
  | zero =>
    intro acc _ h0 h1
    exact Ev.step (f := fun _ => some acc) (fun k => by simp only [spec_l09Power.l0]; rw [if_neg (by omega)]) (Ev.now _)
  | succ n ih =>
    intro acc hn h0 h1
    have hb := mul_bd h0 hu (Int.le_of_lt h1) (Int.le_of_lt hu')
    have hc := mul_bd (show 0 ≤ m by omega) (show 0 ≤ m by omega) hm' hm'
    refine Ev.step (f := fun k => spec_l09Power.l0 k u n m (acc * u % m)) (fun k => ?_) ?_
    · simp only [spec_l09Power.l0]
      rw [if_pos (by omega), if_neg (by omega), w64 (n := ((n + 1 : Nat) : Int) - 1) (by omega), w64 (n := acc * u) (by omega), tmod_nn _ hb.1]
      rw [show ((n + 1 : Nat) : Int) - 1 = n by omega]
    · exact ih _ (by omega) (Int.emod_nonneg _ (by omega)) (Int.emod_lt_of_pos _ (by omega))
theorem spow {m u : Int} (hm : 1 < m) (hm' : m ≤ 200) (hu : 0 ≤ u) (hu' : u < m) (n : Int) (hn : n ≤ 1000) : Ev (fun k => spec_l09Power.f k u n m) (itp m u 1 n.toNat) := by
  have e : ∀ k, spec_l09Power.f k u n m = spec_l09Power.l0 k u n m 1 := by
    intro k
    unfold spec_l09Power.f
    rw [sMod (by omega) (by omega), Int.emod_eq_of_lt (by omega) hm]
    rfl
  refine Ev.congr e ?_
  by_cases h : 0 ≤ n
  · obtain ⟨n, rfl⟩ := Int.eq_ofNat_of_zero_le h
    rw [Int.toNat_natCast]
    exact spow_l0 hm hm' hu hu' n 1 (by omega) (by omega) hm
  · rw [show n.toNat = 0 by omega]
    exact Ev.step (f := fun _ => some 1) (fun k => by simp only [spec_l09Power.l0]; rw [if_neg (by omega)]) (Ev.now _)
theorem sIsCircle (n m u : Int) (hn : -9223372036854775808 ≤ m ∧ m ≤ 9223372036854775807) : Ev (fun k => spec_IsCircle.f k n m u) (isC n m u) := by
  unfold spec_IsCircle.f
  simp only [sIn, Option.bind_some]
  by_cases h1 : (decide (1 ≤ n) && decide (n ≤ 60)) = true
  · simp only [if_pos h1]
    by_cases h2 : (decide (2 ≤ m) && decide (m ≤ 200)) = true
    · simp only [if_pos h2]
      simp only [Bool.and_eq_true, decide_eq_true_eq] at h1 h2
      rw [w64 (by omega)]
      by_cases h3 : (decide (1 ≤ u) && decide (u ≤ m - 1)) = true
      · simp only [if_pos h3]
        simp only [Bool.and_eq_true, decide_eq_true_eq] at h3
        refine Ev.bind (sgcd (by omega) (by omega) (by omega) (by omega)) ?_
        rw [gcdI_comm]
        by_cases h4 : gcdI m u = 1
        · simp only [if_pos h4]
          refine Ev.bind (spow (by omega) (by omega) (by omega) (by omega) n (by omega)) ?_
          have e : isC n m u = (itp m u 1 n.toNat == 1) := by
            unfold isC
            simp [h1.1, h1.2, h2.1, h2.2, h3.1, show u < m by omega, h4]
          rw [e]
          exact Ev.now _
        · simp only [if_neg h4]
          have e : isC n m u = false := by unfold isC; simp [h4]
          rw [e]; exact Ev.now _
      · simp only [if_neg h3]
        have e : isC n m u = false := by
          cases hc : isC n m u with
          | false => rfl
          | true => have := isC_of hc; exact absurd (by simp only [Bool.and_eq_true, decide_eq_true_eq]; omega) h3
        rw [e]; exact Ev.now _
    · simp only [if_neg h2]
      have e : isC n m u = false := by
        cases hc : isC n m u with
        | false => rfl
        | true => have := isC_of hc; exact absurd (by simp only [Bool.and_eq_true, decide_eq_true_eq]; omega) h2
      rw [e]; exact Ev.now _
  · simp only [if_neg h1]
    have e : isC n m u = false := by
      cases hc : isC n m u with
      | false => rfl
      | true => have := isC_of hc; exact absurd (by simp only [Bool.and_eq_true, decide_eq_true_eq]; omega) h1
    rw [e]; exact Ev.now _
theorem iturns_l0 {m u : Int} (hm : 1 < m) (hm' : m ≤ 200) (hu : 0 ≤ u) (hu' : u < m) : ∀ (d : Nat) (acc i n : Int), n ≤ 1000 → 0 ≤ i → n - i = d → 0 ≤ acc → acc < m → Ev (fun k => impl_turns.l0 k m u acc n i) (itp m u acc d) := by
  intro d
  induction d with
  | zero =>
    intro acc i n _ _ hd h0 h1
    exact Ev.step (f := fun _ => some acc) (fun k => by simp only [impl_turns.l0]; rw [if_neg (by omega)]) (Ev.now _)
  | succ d ih =>
    intro acc i n hn hi hd h0 h1
    have hb := mul_bd h0 hu (Int.le_of_lt h1) (Int.le_of_lt hu')
    have hc := mul_bd (show 0 ≤ m by omega) (show 0 ≤ m by omega) hm' hm'
    refine Ev.step (f := fun k => impl_turns.l0 k m u (acc * u % m) n (i + 1)) (fun k => ?_) ?_
    · simp only [impl_turns.l0]
      rw [if_pos (by omega), if_neg (by omega), w64 (n := i + 1) (by omega), w64 (n := acc * u) (by omega), tmod_nn _ hb.1]
    · exact ih _ _ _ hn (by omega) (by omega) (Int.emod_nonneg _ (by omega)) (Int.emod_lt_of_pos _ (by omega))
theorem iturns {m u : Int} (hm : 1 < m) (hm' : m ≤ 200) (hu : 0 ≤ u) (hu' : u < m) (n : Int) (hn0 : 0 ≤ n) (hn : n ≤ 1000) : Ev (fun k => impl_turns.f k m u n) (itp m u 1 n.toNat) := by
  unfold impl_turns.f
  exact iturns_l0 hm hm' hu hu' n.toNat 1 0 n hn (by omega) (by omega) (by omega) hm
theorem iIsCircle (n m u : Int) : Ev (fun k => impl_IsCircle.f k n m u) (isC n m u) := by
  unfold impl_IsCircle.f impl_isUnit.f
  have no : ∀ {p : Prop}, (isC n m u = true → ¬ p) → p → isC n m u = false := fun h hp => by
    cases hc : isC n m u with
    | false => rfl
    | true => exact absurd hp (h hc)
  by_cases h1 : n < 1
  · simp only [if_pos h1]
    rw [no (fun h => by have := isC_of h; omega) h1]; exact Ev.now _
  by_cases h2 : n > 60
  · simp only [if_neg h1, if_pos h2]
    rw [no (fun h => by have := isC_of h; omega) h2]; exact Ev.now _
  by_cases h3 : m < 2
  · simp only [if_neg h1, if_neg h2, if_pos h3]
    rw [no (fun h => by have := isC_of h; omega) h3]; exact Ev.now _
  by_cases h4 : m > 200
  · simp only [if_neg h1, if_neg h2, if_neg h3, if_pos h4]
    rw [no (fun h => by have := isC_of h; omega) h4]; exact Ev.now _
  simp only [if_neg h1, if_neg h2, if_neg h3, if_neg h4]
  by_cases h5 : u ≥ 1
  · simp only [if_pos h5]
    by_cases h6 : u < m
    · simp only [if_pos h6]
      by_cases h7 : gcdI m u = 1
      · refine Ev.bind (Ev.bind (igcd (by omega) (by omega)) (Ev.now _)) ?_
        rw [h7]
        simp only [beq_self_eq_true, if_true]
        refine Ev.bind (iturns (by omega) (by omega) (by omega) (by omega) n (by omega) (by omega)) ?_
        have e : isC n m u = (itp m u 1 n.toNat == 1) := by
          unfold isC
          simp [show 1 ≤ n by omega, show n ≤ 60 by omega, show 2 ≤ m by omega, show m ≤ 200 by omega, show 1 ≤ u by omega, h6, h7]
        rw [e]
        exact Ev.now _
      · refine Ev.bind (Ev.bind (igcd (by omega) (by omega)) (Ev.now _)) ?_
        have e : (gcdI m u == 1) = false := by simpa using h7
        simp only [e, Bool.false_eq_true, if_false]
        rw [no (fun h hx => absurd (isC_of h).2.2.2.2.2.2.1 hx) h7]; exact Ev.now _
    · simp only [if_neg h6, Option.bind_some, Bool.false_eq_true, if_false]
      rw [no (fun h => by have := isC_of h; omega) h6]; exact Ev.now _
  · simp only [if_neg h5, Option.bind_some, Bool.false_eq_true, if_false]
    rw [no (fun h => by have := isC_of h; omega) h5]; exact Ev.now _

theorem snorm_l0 {m u : Int} (hm : 1 < m) (hm' : m ≤ 200) (hu : 0 ≤ u) (hu' : u < m) : ∀ (d i : Nat) (n : Int), n ≤ 1000 → n - i = d → Ev (fun k => spec_l09Norm.l0 k n m u (sump m u i) i) (sump m u n.toNat % m) := by
  intro d
  induction d with
  | zero =>
    intro i n hn hd
    have hs := sump_range (u := u) hm i
    refine Ev.step (f := fun _ => some (sump m u i % m)) (fun k => by simp only [spec_l09Norm.l0]; rw [if_neg (by omega), if_neg (by omega), tmod_nn _ hs.1]) ?_
    rw [show n.toNat = i by omega]
    exact Ev.now _
  | succ d ih =>
    intro i n hn hd
    have hs := sump_range (u := u) hm i
    have hp := itp_range (u := u) (show 0 < m by omega) i 1 (by omega) hm
    have hb := mul_bd (show 0 ≤ m by omega) (show 0 ≤ (i : Int) by omega) hm' (show (i : Int) ≤ 1000 by omega)
    refine Ev.step (f := fun k => (spec_l09Power.f k u i m).bind fun t => spec_l09Norm.l0 k n m u (wrap64 (sump m u i + t)) (wrap64 ((i : Int) + 1))) (fun k => by simp only [spec_l09Norm.l0]; rw [if_pos (by omega)]) ?_
    refine Ev.bind (spow hm hm' hu hu' i (by omega)) ?_
    rw [Int.toNat_natCast, w64 (by omega), w64 (by omega)]
    exact ih (i + 1) n hn (by omega)
theorem snorm {m u : Int} (hm : 1 < m) (hm' : m ≤ 200) (hu : 0 ≤ u) (hu' : u < m) (n : Int) (hn0 : 0 ≤ n) (hn : n ≤ 1000) : Ev (fun k => spec_l09Norm.f k n m u) (sump m u n.toNat % m) := by
  unfold spec_l09Norm.f
  exact snorm_l0 hm hm' hu hu' n.toNat 0 n hn (by omega)
theorem iladder_l0 {m u : Int} (hm : 1 < m) (hm' : m ≤ 200) (hu : 0 ≤ u) (hu' : u < m) : ∀ (d i : Nat) (n : Int), n ≤ 1000 → n - i = d → Ev (fun k => impl_ladder.l0 k m u (sump m u i) (itp m u 1 i) n i) (sump m u n.toNat % m) := by
  intro d
  induction d with
  | zero =>
    intro i n hn hd
    have hs := sump_range (u := u) hm i
    refine Ev.step (f := fun _ => some (sump m u i % m)) (fun k => by simp only [impl_ladder.l0]; rw [if_neg (by omega), if_neg (by omega), tmod_nn _ hs.1]) ?_
    rw [show n.toNat = i by omega]
    exact Ev.now _
  | succ d ih =>
    intro i n hn hd
    have hs := sump_range (u := u) hm i
    have hp := itp_range (u := u) (show 0 < m by omega) i 1 (by omega) hm
    have hb := mul_bd (show 0 ≤ m by omega) (show 0 ≤ (i : Int) by omega) hm' (show (i : Int) ≤ 1000 by omega)
    have hb2 := mul_bd hp.1 hu (Int.le_of_lt hp.2) (Int.le_of_lt hu')
    have hc := mul_bd (show 0 ≤ m by omega) (show 0 ≤ m by omega) hm' hm'
    refine Ev.step (f := fun k => impl_ladder.l0 k m u (sump m u (i + 1)) (itp m u 1 (i + 1)) n ((i + 1 : Nat) : Int)) (fun k => ?_) (ih (i + 1) n hn (by omega))
    simp only [impl_ladder.l0]
    rw [if_pos (by omega), if_neg (by omega), w64 (n := sump m u i + itp m u 1 i) (by omega), w64 (n := itp m u 1 i * u) (by omega), tmod_nn _ hb2.1, w64 (n := (i : Int) + 1) (by omega), itp_snoc]
    rfl
theorem iladder {m u : Int} (hm : 1 < m) (hm' : m ≤ 200) (hu : 0 ≤ u) (hu' : u < m) (n : Int) (hn0 : 0 ≤ n) (hn : n ≤ 1000) : Ev (fun k => impl_ladder.f k m u n) (sump m u n.toNat % m) := by
  unfold impl_ladder.f
  exact iladder_l0 hm hm' hu hu' n.toNat 0 n hn (by omega)

theorem two_mod (d : Int) : (d % 2 = 0 ↔ Int.tmod d 2 = 0) := by
  constructor
  · intro h
    exact Int.tmod_eq_zero_of_dvd (Int.dvd_of_emod_eq_zero h)
  · intro h
    exact Int.emod_eq_zero_of_dvd (Int.dvd_of_tmod_eq_zero h)
def tmaps (n m u d : Int) : Int × Int := if d % 2 = 0 then (u - 1, sump m u n.toNat % m) else (sump m u n.toNat % m, u - 1)
theorem tmaps_range {n m u d : Int} (hc : isC n m u = true) : 0 ≤ (tmaps n m u d).1 ∧ (tmaps n m u d).1 < m ∧ 0 ≤ (tmaps n m u d).2 ∧ (tmaps n m u d).2 < m := by
  obtain ⟨hn1, hn2, hm1, hm2, hu1, hu2, _, _⟩ := isC_of hc
  have h0 := Int.emod_nonneg (sump m u n.toNat) (show m ≠ 0 by omega)
  have h1 := Int.emod_lt_of_pos (sump m u n.toNat) (show 0 < m by omega)
  unfold tmaps
  split
  · exact ⟨by show 0 ≤ u - 1; omega, by show u - 1 < m; omega, h0, h1⟩
  · exact ⟨h0, h1, by show 0 ≤ u - 1; omega, by show u - 1 < m; omega⟩
theorem smaps {n m u : Int} (d : Int) (hc : isC n m u = true) : Ev (fun k => spec_l09Maps.f k n m u d) (tmaps n m u d) := by
  obtain ⟨hn1, hn2, hm1, hm2, hu1, hu2, _, _⟩ := isC_of hc
  unfold spec_l09Maps.f
  refine Ev.bind (snorm (by omega) (by omega) (by omega) (by omega) n (by omega) (by omega)) ?_
  rw [w64 (by omega), sMod (by omega) (by omega), sMod (by omega) (by omega), Int.emod_eq_of_lt (show 0 ≤ u - 1 by omega) (by omega)]
  simp only [Option.bind_some]
  unfold tmaps
  by_cases h : d % 2 = 0
  · simp only [if_pos h]; exact Ev.now _
  · simp only [if_neg h]; exact Ev.now _
theorem itate {n m u : Int} (d : Int) (hc : isC n m u = true) : Ev (fun k => impl_tate.f k n m u d) (tmaps n m u d) := by
  obtain ⟨hn1, hn2, hm1, hm2, hu1, hu2, _, _⟩ := isC_of hc
  unfold impl_tate.f
  refine Ev.bind (iladder (by omega) (by omega) (by omega) (by omega) n (by omega) (by omega)) ?_
  rw [w64 (by omega)]
  unfold tmaps
  by_cases h : d % 2 = 0
  · simp only [if_pos h, if_pos ((two_mod d).1 h)]; exact Ev.now _
  · simp only [if_neg h, if_neg (fun hx => h ((two_mod d).2 hx))]; exact Ev.now _
def tcode (n m u d : Int) : Int := if isC n m u = true then (if -1000 ≤ d ∧ d ≤ 1000 then 0 else 2) else 2
theorem scode (n m u d : Int) (hm : -9223372036854775808 ≤ m ∧ m ≤ 9223372036854775807) : Ev (fun k => spec_l09Code.f k n m u d) (tcode n m u d) := by
  unfold spec_l09Code.f tcode
  refine Ev.bind (sIsCircle n m u hm) ?_
  by_cases h : isC n m u = true
  · simp only [if_pos h, sIn, Option.bind_some, Bool.and_eq_true, decide_eq_true_eq]
    by_cases h2 : -1000 ≤ d ∧ d ≤ 1000
    · simp only [if_pos h2]; exact Ev.now _
    · simp only [if_neg h2]; exact Ev.now _
  · simp only [if_neg h]; exact Ev.now _
theorem tcode_zero {n m u d : Int} (h : tcode n m u d = 0) : isC n m u = true ∧ -1000 ≤ d ∧ d ≤ 1000 := by
  unfold tcode at h
  by_cases h1 : isC n m u = true
  · by_cases h2 : -1000 ≤ d ∧ d ≤ 1000
    · exact ⟨h1, h2⟩
    · rw [if_pos h1, if_neg h2] at h; omega
  · rw [if_neg h1] at h; omega
theorem tcode_two {n m u d : Int} (h : ¬ tcode n m u d = 0) : tcode n m u d = 2 := by
  unfold tcode at h ⊢
  by_cases h1 : isC n m u = true
  · by_cases h2 : -1000 ≤ d ∧ d ≤ 1000
    · rw [if_pos h1, if_pos h2] at h; omega
    · rw [if_pos h1, if_neg h2]
  · rw [if_neg h1]

theorem icode (n m u d : Int) : Ev (fun k => impl_tateCode.f k n m u d) (tcode n m u d) := by
  unfold impl_tateCode.f tcode
  refine Ev.bind (iIsCircle n m u) ?_
  by_cases h : isC n m u = true
  · simp only [if_pos h]
    by_cases h1 : d < -1000
    · simp only [if_pos h1, if_neg (show ¬ (-1000 ≤ d ∧ d ≤ 1000) by omega)]; exact Ev.now _
    by_cases h2 : d > 1000
    · simp only [if_neg h1, if_pos h2, if_neg (show ¬ (-1000 ≤ d ∧ d ≤ 1000) by omega)]; exact Ev.now _
    simp only [if_neg h1, if_neg h2, if_pos (show (-1000 ≤ d ∧ d ≤ 1000) by omega)]; exact Ev.now _
  · simp only [if_neg h]; exact Ev.now _

theorem eqI {l : List Int} (hl : l.length < 4611686018427387904) : Ev (fun k => laws_eqInt64S.f k l l) true := by
  unfold laws_eqInt64S.f
  simp only [if_true]
  refine Ev.congr (f := fun k => gEq k l l 0) (fun k => ?_) (gEq_refl l hl l.length 0 rfl)
  have e : ∀ k (a b : List Int) i, laws_eqInt64S.l0 k a b i = gEq k a b i := by
    intro k
    induction k with
    | zero => intros; rfl
    | succ k ih => intros; simp only [laws_eqInt64S.l0, gEq, ih]
  exact e k l l 0
theorem markI (l : List Int) {a : Int} (h0 : 0 ≤ a) (hl : a + l.length < 4611686018427387904) : Ev (fun k => laws_markInt64S.f k l a) (a + (l.length : Int), marks a l.length) := by
  unfold laws_markInt64S.f
  refine Ev.congr (f := fun k => gMark k l a 0) (fun k => ?_) (gMark_all l h0 hl)
  have e : ∀ k (a : List Int) b i, laws_markInt64S.l0 k a b i = gMark k a b i := by
    intro k
    induction k with
    | zero => intros; rfl
    | succ k ih => intros; simp only [laws_markInt64S.l0, gMark, ih]
  exact e k l a 0
theorem heldI {a : Int} (n : Nat) (h0 : 0 ≤ a) (hn : a + n < 4611686018427387904) : Ev (fun k => laws_heldInt64S.f k (marks a n) a) (a + n) := by
  unfold laws_heldInt64S.f
  refine Ev.congr (f := fun k => gHeld k (marks a n) a 0) (fun k => ?_) (gHeld_all n h0 hn)
  have e : ∀ k (a : List Int) b i, laws_heldInt64S.l0 k a b i = gHeld k a b i := by
    intro k
    induction k with
    | zero => intros; rfl
    | succ k ih => intros; simp only [laws_heldInt64S.l0, gHeld, ih]
  exact e k _ a 0

theorem count_ev (n : Int) (hn : n ≤ 1000000000) : Ev (fun k => impl_counting.f k n) (upto n.toNat) := by
  unfold impl_counting.f
  by_cases h : 0 ≤ n
  · refine Ev.congr (f := fun k => gCount k (upto 0) n ((0 : Nat) : Int)) (fun k => ?_) (gCount_ev n.toNat 0 n hn (by omega))
    have e : ∀ k (a : List Int) b i, impl_counting.l0 k a b i = gCount k a b i := by
      intro k
      induction k with
      | zero => intros; rfl
      | succ k ih => intros; simp only [impl_counting.l0, gCount, ih]
    exact e k _ n 0
  · rw [show n.toNat = 0 by omega]
    exact Ev.step (f := fun _ => some []) (fun k => by simp only [impl_counting.l0]; rw [if_neg (by omega)]) (Ev.now _)

theorem bez_nat : ∀ (n a b : Nat), b ≤ n → ∃ x y : Int, (a : Int) * x + b * y = (Nat.gcd a b : Nat) := by
  intro n
  induction n with
  | zero =>
    intro a b hb
    have e : b = 0 := by omega
    subst e
    exact ⟨1, 0, by simp⟩
  | succ n ih =>
    intro a b hb
    by_cases h : b = 0
    · subst h
      exact ⟨1, 0, by simp⟩
    · have hlt := Nat.mod_lt a (show 0 < b by omega)
      obtain ⟨x, y, e⟩ := ih b (a % b) (by omega)
      have q : ((a % b : Nat) : Int) = (a : Int) - b * (a / b : Nat) := by
        have := Nat.div_add_mod a b
        omega
      have g : Nat.gcd b (a % b) = Nat.gcd a b := by rw [Nat.gcd_comm b (a % b), ← Nat.gcd_rec, Nat.gcd_comm]
      refine ⟨y, x - (a / b : Nat) * y, ?_⟩
      rw [← g, ← e, q, Int.mul_sub, Int.sub_mul, Int.mul_assoc]
      omega
theorem bez {a b : Int} (ha : 0 ≤ a) (hb : 0 ≤ b) : ∃ x y : Int, a * x + b * y = gcdI a b := by
  obtain ⟨a, rfl⟩ := Int.eq_ofNat_of_zero_le ha
  obtain ⟨b, rfl⟩ := Int.eq_ofNat_of_zero_le hb
  exact bez_nat b a b (Nat.le_refl _)
theorem gcdI_dvd_left {a : Int} (b : Int) (ha : 0 ≤ a) : gcdI a b ∣ a := by
  obtain ⟨a, rfl⟩ := Int.eq_ofNat_of_zero_le ha
  unfold gcdI
  rw [Int.toNat_natCast]
  exact Int.ofNat_dvd.2 (Nat.gcd_dvd_left _ _)
theorem gcdI_dvd_right (a : Int) {b : Int} (hb : 0 ≤ b) : gcdI a b ∣ b := by rw [gcdI_comm]; exact gcdI_dvd_left a hb
/-- The multiples of c by m are those of their common divisor. -/
theorem image_gcd {m c y : Int} (hm : 0 < m) (hc : 0 ≤ c) (hy : 0 ≤ y) (hy' : y < m) : (∃ x, 0 ≤ x ∧ x < m ∧ c * x % m = y) ↔ y % gcdI m c = 0 := by
  constructor
  · rintro ⟨x, _, _, e⟩
    have h1 : gcdI m c ∣ c * x := Int.dvd_trans (gcdI_dvd_right m hc) (Int.dvd_mul_right c x)
    have h2 : gcdI m c ∣ m := gcdI_dvd_left c (by omega)
    have h3 : gcdI m c ∣ y := by
      rw [← e, Int.emod_def]
      exact Int.dvd_sub h1 (Int.dvd_trans h2 (Int.dvd_mul_right m _))
    exact Int.emod_eq_zero_of_dvd h3
  · intro h
    obtain ⟨t, ht⟩ := Int.dvd_of_emod_eq_zero h
    obtain ⟨a, b, e⟩ := bez (show 0 ≤ m by omega) hc
    refine ⟨b * t % m, Int.emod_nonneg _ (by omega), Int.emod_lt_of_pos _ hm, ?_⟩
    rw [Int.mul_emod, Int.emod_emod_of_dvd _ (Int.dvd_refl m), ← Int.mul_emod]
    have q : c * (b * t) = y + m * (-(a * t)) := by
      have e2 : gcdI m c * t = m * a * t + c * b * t := by rw [← e, Int.add_mul]
      rw [ht, e2, Int.mul_neg, Int.mul_assoc, Int.mul_assoc]
      omega
    rw [q, Int.add_mul_emod_self_left, Int.emod_eq_of_lt hy hy']

def tmem (m c : Int) : List Int := (upto m.toNat).filter fun x => c * x % m == 0
def tnou (m c : Int) : List Int := (upto m.toNat).filter fun y => y % gcdI m c == 0
def metL (m c : Int) (i : Nat) : List Bool := (upto m.toNat).map fun y => (upto i).any fun x => c * x % m == y
theorem metL_length (m c : Int) (i : Nat) : (metL m c i).length = m.toNat := by simp [metL, upto_length]
theorem metL_get {m c : Int} {i : Nat} {y : Int} (h0 : 0 ≤ y) (h1 : y < m) : rdOf false (metL m c i) y = (upto i).any fun x => c * x % m == y := by
  obtain ⟨y, rfl⟩ := Int.eq_ofNat_of_zero_le h0
  unfold rdOf metL
  rw [Int.toNat_natCast]
  have e : (upto m.toNat)[y]? = some (y : Int) := by
    unfold upto
    rw [List.getElem?_map, List.getElem?_range (by omega)]
    rfl
  rw [List.getD_eq_getElem?_getD, List.getElem?_map, e]
  rfl
theorem metL_succ {m c : Int} (hm : 0 < m) (i : Nat) : metL m c (i + 1) = (metL m c i).set (c * i % m).toNat true := by
  have h0 := Int.emod_nonneg (c * i) (show m ≠ 0 by omega)
  have h1 := Int.emod_lt_of_pos (c * i) hm
  apply List.ext_getElem?
  intro j
  rw [List.getElem?_set]
  unfold metL
  rw [List.getElem?_map, List.getElem?_map, List.length_map, upto_length]
  by_cases hj : j < m.toNat
  · have e : (upto m.toNat)[j]? = some (j : Int) := by simp [upto, hj]
    rw [e, upto_succ]
    simp only [Option.map_some, List.any_append, List.any_cons, List.any_nil, Bool.or_false]
    by_cases hq : (c * i % m).toNat = j
    · rw [if_pos hq, if_pos (by omega)]
      have e2 : (c * (i : Int) % m == (j : Int)) = true := by rw [beq_iff_eq]; omega
      rw [e2, Bool.or_true]
    · rw [if_neg hq]
      have e2 : (c * (i : Int) % m == (j : Int)) = false := by rw [beq_eq_false_iff_ne]; omega
      rw [e2, Bool.or_false]
  · have e : (upto m.toNat)[j]? = none := by simp [upto]; omega
    rw [e, if_neg (by omega)]
    rfl
theorem met_all {m c y : Int} (hm : 0 < m) (hc : 0 ≤ c) (hy : 0 ≤ y) (hy' : y < m) : ((upto m.toNat).any fun x => c * x % m == y) = (y % gcdI m c == 0) := by
  rw [Bool.eq_iff_iff, beq_iff_eq, ← image_gcd hm hc hy hy', List.any_eq_true]
  constructor
  · rintro ⟨x, hx, e⟩
    have := mem_upto.1 hx
    exact ⟨x, this.1, by omega, by simpa using e⟩
  · rintro ⟨x, h0, h1, e⟩
    exact ⟨x, mem_upto.2 ⟨h0, by omega⟩, by simpa using e⟩
theorem smem_l1 {m a c : Int} (hm : 2 ≤ m) (hm' : m ≤ 200) (ha : 0 ≤ a) (ha' : a < m) : ∀ (d i : Nat), m - i = d → i ≤ m.toNat → Ev (fun k => spec_l09Members.l1 k m a (metL m c m.toNat) ((upto i).filter fun x => a * x % m == 0) ((upto i).filter fun y => (upto m.toNat).any fun x => c * x % m == y) i) (tmem m a, (upto m.toNat).filter fun y => (upto m.toNat).any fun x => c * x % m == y) := by
  intro d
  induction d with
  | zero =>
    intro i hd hi
    refine Ev.step (f := fun _ => some ((upto i).filter fun x => a * x % m == 0, (upto i).filter fun y => (upto m.toNat).any fun x => c * x % m == y)) (fun k => by simp only [spec_l09Members.l1]; rw [if_neg (by omega)]) ?_
    unfold tmem
    rw [show m.toNat = i by omega]
    exact Ev.now _
  | succ d ih =>
    intro i hd hi
    have hl1 := List.length_filter_le (fun x => a * x % m == 0) (upto i)
    have hl2 := List.length_filter_le (fun y => (upto m.toNat).any fun x => c * x % m == y) (upto i)
    rw [upto_length] at hl1 hl2
    have hb := mul_bd ha (show 0 ≤ (i : Int) by omega) (Int.le_of_lt ha') (show (i : Int) ≤ m by omega)
    have hcc := mul_bd (show 0 ≤ m by omega) (show 0 ≤ m by omega) hm' hm'
    have hml : (i : Int) < ((metL m c m.toNat).length : Int) := by rw [metL_length]; omega
    have h := ih (i + 1) (by omega) (by omega)
    rw [upto_succ, List.filter_append, List.filter_append] at h
    refine Ev.step (fun k => by simp only [spec_l09Members.l1]; rw [if_pos (show (i : Int) < m by omega), if_neg (show ¬ m = 0 by omega), XPure.w64 (n := a * (i : Int)) (by omega), tmod_nn _ hb.1, XPure.w64 (n := (i : Int) + 1) (by omega), if_pos (show 0 ≤ (i : Int) by omega), if_pos hml, metL_get (by omega) (by omega)]) ?_
    cases h1 : (a * (i : Int) % m == 0) <;> cases h2 : ((upto m.toNat).any fun x => c * x % m == (i : Int))
    all_goals
      simp only [h1, h2, List.filter_cons, List.filter_nil, if_true, Bool.false_eq_true, if_false, List.append_nil] at h
    · refine Ev.neg (by simpa using h1) (Ev.neg (by simp) h)
    · refine Ev.neg (by simpa using h1) (Ev.pos rfl (Ev.pos (by omega) h))
    · refine Ev.pos (by simpa using h1) (Ev.pos (by omega) (Ev.bindc rfl ?_))
      simp only [if_pos (show 0 ≤ (i : Int) by omega), if_pos hml, Bool.false_eq_true, if_false]
      exact h
    · refine Ev.pos (by simpa using h1) (Ev.pos (by omega) (Ev.bindc rfl ?_))
      simp only [if_pos (show 0 ≤ (i : Int) by omega), if_pos hml, if_true]
      exact Ev.pos (by omega) h
theorem smem_l0 {m a c : Int} (hm : 2 ≤ m) (hm' : m ≤ 200) (ha : 0 ≤ a) (ha' : a < m) (hc : 0 ≤ c) (hc' : c < m) : ∀ (d i : Nat), m - i = d → i ≤ m.toNat → Ev (fun k => spec_l09Members.l0 k m a c (metL m c i) [] [] i) (tmem m a, tnou m c) := by
  intro d
  induction d with
  | zero =>
    intro i hd hi
    refine Ev.step (fun k => by simp only [spec_l09Members.l0]; rw [if_neg (show ¬ (i : Int) < m by omega)]) ?_
    rw [show i = m.toNat by omega]
    have h := smem_l1 (a := a) (c := c) hm hm' ha ha' m.toNat 0 (by omega) (by omega)
    have e : (upto m.toNat).filter (fun y => (upto m.toNat).any fun x => c * x % m == y) = tnou m c := by
      unfold tnou
      apply List.filter_congr
      intro y hy
      have := mem_upto.1 hy
      exact met_all (by omega) hc this.1 (by omega)
    rw [e] at h
    exact h
  | succ d ih =>
    intro i hd hi
    have hb := mul_bd hc (show 0 ≤ (i : Int) by omega) (Int.le_of_lt hc') (show (i : Int) ≤ m by omega)
    have hcc := mul_bd (show 0 ≤ m by omega) (show 0 ≤ m by omega) hm' hm'
    have h0 := Int.emod_nonneg (c * i) (show m ≠ 0 by omega)
    have h1 := Int.emod_lt_of_pos (c * i) (show 0 < m by omega)
    have h := ih (i + 1) (by omega) (by omega)
    rw [metL_succ (by omega)] at h
    refine Ev.step (fun k => by simp only [spec_l09Members.l0]; rw [if_pos (show (i : Int) < m by omega), if_neg (show ¬ m = 0 by omega), XPure.w64 (n := c * (i : Int)) (by omega), tmod_nn _ hb.1, if_pos h0, if_pos (by rw [metL_length]; omega), XPure.w64 (n := (i : Int) + 1) (by omega)]; rfl) h
theorem smembers {n m u : Int} (d : Int) (hc : isC n m u = true) : Ev (fun k => spec_l09Members.f k n m u d) (tmem m (tmaps n m u d).1, tnou m (tmaps n m u d).2) := by
  have hr := tmaps_range (d := d) hc
  obtain ⟨hn1, hn2, hm1, hm2, hu1, hu2, _, _⟩ := isC_of hc
  unfold spec_l09Members.f
  refine Ev.bind (smaps d hc) (Ev.pos (by omega) (Ev.pos (by omega) ?_))
  have h := smem_l0 (a := (tmaps n m u d).1) (c := (tmaps n m u d).2) hm1 hm2 hr.1 hr.2.1 hr.2.2.1 hr.2.2.2 m.toNat 0 (by omega) (by omega)
  have e : metL m (tmaps n m u d).2 0 = List.replicate m.toNat false := by
    unfold metL
    apply List.ext_getElem
    · simp [upto_length]
    · intro i h1 h2
      simp [upto]
  rw [e] at h
  exact h
theorem del73 (a m : Int) (hm : 2 ≤ m) (hm' : m ≤ 200) (ha : 0 ≤ a) (ha' : a < m) : Ev (fun k => slices_DeleteFunc_int64_int64_at73.f k (upto m.toNat) [a] [m]) (tmem m a) := by
  have hp : ∀ x ∈ upto m.toNat, Ev (fun _ => impl_TateMembers_1.f x [a] [m]) (!(a * x % m == 0)) := fun x hx => by
    have hx' := mem_upto.1 hx
    have hb := mul_bd ha hx'.1 (Int.le_of_lt ha') (show x ≤ m by omega)
    have hcc := mul_bd (show 0 ≤ m by omega) (show 0 ≤ m by omega) hm' hm'
    refine Ev.const ?_
    unfold impl_TateMembers_1.f
    have e1 : rd [a] 0 = a := rfl
    have e2 : rd [m] 0 = m := rfl
    rw [if_pos (by simp), if_pos (by simp), e1, e2, if_neg (by omega), XPure.w64 (by omega), tmod_nn _ hb.1]
    rfl
  have h := gDelete (C := fun _ x => impl_TateMembers_1.f x [a] [m]) (p := fun x => !(a * x % m == 0)) (l := upto m.toNat) (I := fun k => slices_IndexFunc_int64_int64_at73.f k (upto m.toNat) [a] [m]) (D := fun k x b c => slices_DeleteFunc_int64_int64_at73.l0 k x b c [a] [m]) (by rw [upto_length]; omega) (fun k => by
      unfold slices_IndexFunc_int64_int64_at73.f
      have e : ∀ k (x : List Int) b i, slices_IndexFunc_int64_int64_at73.l0 k x b i [a] [m] = gIdx (fun _ x => impl_TateMembers_1.f x [a] [m]) k x b i := by
        intro k
        induction k with
        | zero => intros; rfl
        | succ k ih => intros; simp only [slices_IndexFunc_int64_int64_at73.l0, gIdx, ih]
      exact e _ _ _ _) (fun k x b c => by
      have e : ∀ k (x : List Int) b i, slices_DeleteFunc_int64_int64_at73.l0 k x b i [a] [m] = gDel (fun _ x => impl_TateMembers_1.f x [a] [m]) k x b i := by
        intro k
        induction k with
        | zero => intros; rfl
        | succ k ih => intros; simp only [slices_DeleteFunc_int64_int64_at73.l0, gDel, ih]
      exact e _ _ _ _) hp
  simp only [Bool.not_not] at h
  exact h
theorem del74 (m c : Int) (hm : 2 ≤ m) (hm' : m ≤ 200) (hc : 0 ≤ c) : Ev (fun k => slices_DeleteFunc_int64_int64_at74.f k (upto m.toNat) [m] [c]) (tnou m c) := by
  have hp : ∀ x ∈ upto m.toNat, Ev (fun k => impl_TateMembers_2.f k x [m] [c]) (!(x % gcdI m c == 0)) := fun x hx => by
    have hx' := mem_upto.1 hx
    have hg := gcdI_pos c (show 0 < m by omega)
    unfold impl_TateMembers_2.f
    have e1 : rd [m] 0 = m := rfl
    have e2 : rd [c] 0 = c := rfl
    simp only [e1, e2]
    refine Ev.pos (by simp) (Ev.pos (by simp) (Ev.bind (igcd (by omega) hc) (Ev.neg (by omega) ?_)))
    rw [tmod_nn _ hx'.1]
    exact Ev.now _
  have h := gDelete (C := fun k x => impl_TateMembers_2.f k x [m] [c]) (p := fun x => !(x % gcdI m c == 0)) (l := upto m.toNat) (I := fun k => slices_IndexFunc_int64_int64_at74.f k (upto m.toNat) [m] [c]) (D := fun k x b q => slices_DeleteFunc_int64_int64_at74.l0 k x b q [m] [c]) (by rw [upto_length]; omega) (fun k => by
      unfold slices_IndexFunc_int64_int64_at74.f
      have e : ∀ k (x : List Int) b i, slices_IndexFunc_int64_int64_at74.l0 k x b i [m] [c] = gIdx (fun k x => impl_TateMembers_2.f k x [m] [c]) k x b i := by
        intro k
        induction k with
        | zero => intros; rfl
        | succ k ih => intros; simp only [slices_IndexFunc_int64_int64_at74.l0, gIdx, ih]
      exact e _ _ _ _) (fun k x b q => by
      have e : ∀ k (x : List Int) b i, slices_DeleteFunc_int64_int64_at74.l0 k x b i [m] [c] = gDel (fun k x => impl_TateMembers_2.f k x [m] [c]) k x b i := by
        intro k
        induction k with
        | zero => intros; rfl
        | succ k ih => intros; simp only [slices_DeleteFunc_int64_int64_at74.l0, gDel, ih]
      exact e _ _ _ _) hp
  simp only [Bool.not_not] at h
  exact h
theorem tmem_length (m c : Int) : (tmem m c).length ≤ m.toNat := by
  unfold tmem
  have := List.length_filter_le (fun x => c * x % m == 0) (upto m.toNat)
  rw [upto_length] at this
  exact this
theorem tnou_length (m c : Int) : (tnou m c).length ≤ m.toNat := by
  unfold tnou
  have := List.length_filter_le (fun x => x % gcdI m c == 0) (upto m.toNat)
  rw [upto_length] at this
  exact this

theorem FnExactTateMembers : laws_FnExactTateMembers.Pure := by
  intro n m u d _ hm _ _
  refine Ev.rounds (g := fun k => laws_FnExactTateMembers.f k n m u d) ?_
  obtain ⟨r, hr1, hr2, hs, hi⟩ : ∃ r : List Int × List Int × Int, r.1.length ≤ 1000 ∧ r.2.1.length ≤ 1000 ∧ Ev (fun k => spec_TateMembers.f k n m u d) r ∧ Ev (fun k => impl_TateMembers.f k n m u d) r := by
    unfold spec_TateMembers.f impl_TateMembers.f
    by_cases h : tcode n m u d = 0
    · obtain ⟨hc, _⟩ := tcode_zero h
      have hr := tmaps_range (d := d) hc
      obtain ⟨hn1, hn2, hm1, hm2, hu1, hu2, _, _⟩ := isC_of hc
      have l1 := tmem_length m (tmaps n m u d).1
      have l2 := tnou_length m (tmaps n m u d).2
      refine ⟨(tmem m (tmaps n m u d).1, tnou m (tmaps n m u d).2, 0), by show (tmem m (tmaps n m u d).1).length ≤ 1000; omega, by show (tnou m (tmaps n m u d).2).length ≤ 1000; omega, Ev.bind (scode n m u d (wfm hm)) (Ev.pos h (Ev.bind (smembers d hc) (Ev.now _))), Ev.bind (icode n m u d) (Ev.pos h (Ev.bind (itate d hc) ?_))⟩
      refine Ev.bind (count_ev m (by omega)) (Ev.bind (del73 _ m hm1 hm2 hr.1 hr.2.1) (Ev.bind (count_ev m (by omega)) (Ev.bind (del74 m _ hm1 hm2 hr.2.2.1) (Ev.now _))))
    · refine ⟨([], [], 2), by simp, by simp, Ev.bind (scode n m u d (wfm hm)) (Ev.neg h ?_), Ev.bind (icode n m u d) (Ev.neg h ?_)⟩
      · rw [tcode_two h]; exact Ev.now _
      · rw [tcode_two h]; exact Ev.now _
  obtain ⟨l, l', c⟩ := r
  unfold laws_FnExactTateMembers.f
  refine Ev.bind hs (Ev.bind hi ?_)
  dsimp only at hr1 hr2 ⊢
  refine Ev.bind (eqI (l := l) (by omega)) (Ev.pos rfl (Ev.bind (eqI (l := l') (by omega)) (Ev.pos rfl ?_)))
  simp only [bne_self_eq_false]
  refine Ev.step (fun k => by simp only [laws_FnExactTateMembers.j0, Bool.false_eq_true, if_false]; rfl) ?_
  refine Ev.bind (markI l (by omega) (by omega)) (Ev.bind (markI l' (by omega) (by dsimp only; omega)) (Ev.bind (heldI _ (by omega) (by omega)) (Ev.neg (by omega) (Ev.bind (heldI _ (by omega) (by omega)) (Ev.neg (by omega) (Ev.pos rfl ?_))))))
  refine Ev.bind hi (Ev.bind (eqI (l := l) (by omega)) (Ev.pos rfl (Ev.bind (eqI (l := l') (by omega)) (Ev.pos rfl ?_))))
  simp only [bne_self_eq_false]
  refine Ev.step (fun k => by simp only [laws_FnExactTateMembers.j1, Bool.false_eq_true, if_false]; rfl) ?_
  exact Ev.bind (heldI _ (by omega) (by omega)) (Ev.neg (by omega) (Ev.bind (heldI _ (by omega) (by omega)) (Ev.neg (by omega) (Ev.pos rfl (Ev.now _)))))

end Go.Proofs.Ytkpnhkccdjphgaa.Pure
