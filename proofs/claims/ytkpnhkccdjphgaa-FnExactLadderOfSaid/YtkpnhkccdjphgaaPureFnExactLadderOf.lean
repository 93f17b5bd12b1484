/- The program's LadderOf returns what the reference's returns, for all arguments. -/
import Derived.Test.YtkpnhkccdjphgaaPFnExactLadderOfx6
import Derived.Test.YtkpnhkccdjphgaaXTold
namespace Go.Proofs.Ytkpnhkccdjphgaa.Pure
open Go.RowKit Go.Proofs.Ytkpnhkccdjphgaa.PFnExactLadderOf Go.Proofs.YtkpnhkccdjphgaaW.PrintWords Go.Proofs.YtkpnhkccdjphgaaW.PrintLast Go.Proofs.YtkpnhkccdjphgaaW.PrintMore Go.Proofs.Ytkpnhkccdjphgaa.XPure

-- plain mathematics of circles (own text; no program in sight)
def itp (m u : Int) : Int → Nat → Int
  | acc, 0 => acc
  | acc, n + 1 => itp m u (acc * u % m) n
theorem itp_range {m u : Int} (hm : 0 < m) : ∀ (n : Nat) (acc : Int), 0 ≤ acc → acc < m → 0 ≤ itp m u acc n ∧ itp m u acc n < m
  | 0, _, h0, h1 => ⟨h0, h1⟩
  | n + 1, acc, _, _ => itp_range hm n _ (Int.emod_nonneg _ (by omega)) (Int.emod_lt_of_pos _ hm)
theorem itp_snoc (m u : Int) : ∀ (n : Nat) (acc : Int), itp m u acc (n + 1) = itp m u acc n * u % m
  | 0, _ => rfl
  | n + 1, acc => itp_snoc m u n (acc * u % m)
def sump (m u : Int) : Nat → Int
  | 0 => 0
  | n + 1 => sump m u n + itp m u 1 n
theorem sump_range {m u : Int} (hm : 1 < m) : ∀ (n : Nat), 0 ≤ sump m u n ∧ sump m u n ≤ m * n
  | 0 => ⟨Int.le_refl _, by simp [sump]⟩
  | n + 1 => by
    have h := sump_range (u := u) hm n
    have g := itp_range (u := u) (show 0 < m by omega) n 1 (by omega) hm
    have e : m * ((n + 1 : Nat) : Int) = m * n + m := by rw [Int.natCast_succ, Int.mul_add, Int.mul_one]
    unfold sump
    omega
def gcdI (a b : Int) : Int := ((Nat.gcd a.toNat b.toNat : Nat) : Int)
theorem gcdI_zero {a : Int} (h : 0 ≤ a) : gcdI a 0 = a := by unfold gcdI; simp; omega
theorem gcdI_comm (a b : Int) : gcdI a b = gcdI b a := by unfold gcdI; rw [Nat.gcd_comm]
theorem gcdI_nonneg (a b : Int) : 0 ≤ gcdI a b := by unfold gcdI; omega
theorem gcdI_le_left {a : Int} (b : Int) (h : 0 < a) : gcdI a b ≤ a := by
  unfold gcdI
  have := Nat.gcd_le_left (m := a.toNat) b.toNat (by omega)
  omega
theorem gcdI_pos {a : Int} (b : Int) (h : 0 < a) : 0 < gcdI a b := by
  unfold gcdI
  have := Nat.gcd_pos_of_pos_left (m := a.toNat) b.toNat (by omega)
  omega
theorem gcdI_step {a b : Int} (ha : 0 ≤ a) (hb : 0 < b) : gcdI b (a % b) = gcdI a b := by
  obtain ⟨a, rfl⟩ := Int.eq_ofNat_of_zero_le ha
  obtain ⟨b, rfl⟩ := Int.eq_ofNat_of_zero_le (Int.le_of_lt hb)
  unfold gcdI
  rw [← Int.natCast_emod, Int.toNat_natCast, Int.toNat_natCast, Int.toNat_natCast]
  rw [Nat.gcd_comm b, ← Nat.gcd_rec, Nat.gcd_comm]
def isC (n m u : Int) : Bool := decide (1 ≤ n) && (decide (n ≤ 60) && (decide (2 ≤ m) && (decide (m ≤ 200) && (decide (1 ≤ u) && (decide (u < m) && ((gcdI m u == 1) && (itp m u 1 n.toNat == 1)))))))
theorem isC_of {n m u : Int} (h : isC n m u = true) : 1 ≤ n ∧ n ≤ 60 ∧ 2 ≤ m ∧ m ≤ 200 ∧ 1 ≤ u ∧ u < m ∧ gcdI m u = 1 ∧ itp m u 1 n.toNat = 1 := by
  simpa [isC] using h

theorem igcd_ev : ∀ (n : Nat) (a b : Int), 0 ≤ a → 0 ≤ b → b.toNat ≤ n → Ev (fun k => impl_gcd.l0 k a b) (gcdI a b) := by
  intro n
  induction n with
  | zero =>
    intro a b ha hb hn
    obtain rfl : b = 0 := by omega
    exact Ev.step (f := fun _ => some a) (fun k => by simp only [impl_gcd.l0, if_true]) (by rw [gcdI_zero ha]; exact Ev.now _)
  | succ n ih =>
    intro a b ha hb hn
    by_cases h : b = 0
    · subst h
      exact Ev.step (f := fun _ => some a) (fun k => by simp only [impl_gcd.l0, if_true]) (by rw [gcdI_zero ha]; exact Ev.now _)
    · have hm := Int.emod_lt_of_pos a (show 0 < b by omega)
      have hm0 := Int.emod_nonneg a h
      refine Ev.step (f := fun k => impl_gcd.l0 k b (a % b)) (fun k => by simp only [impl_gcd.l0]; rw [if_neg h, tmod_nn b ha]) ?_
      rw [← gcdI_step ha (by omega)]
      exact ih b (a % b) hb hm0 (by omega)
theorem igcd {a b : Int} (ha : 0 ≤ a) (hb : 0 ≤ b) : Ev (fun k => impl_gcd.f k a b) (gcdI a b) := igcd_ev b.toNat a b ha hb (Nat.le_refl _)
theorem sgcd_ev : ∀ (n : Nat) (a b : Int), 0 ≤ a → a ≤ 9223372036854775807 → 0 ≤ b → b ≤ 9223372036854775807 → b.toNat ≤ n → Ev (fun k => spec_l01Gcd.l0 k a b) (gcdI a b) := by
  intro n
  have base : ∀ a : Int, 0 ≤ a → a ≤ 9223372036854775807 → mx a (wrap64 (-a)) = a := by
    intro a h h'
    rw [w64 (by omega)]
    unfold mx
    split <;> omega
  induction n with
  | zero =>
    intro a b ha ha' hb _ hn
    obtain rfl : b = 0 := by omega
    exact Ev.step (f := fun _ => some a) (fun k => by simp only [spec_l01Gcd.l0, if_true]; rw [base a ha ha']) (by rw [gcdI_zero ha]; exact Ev.now _)
  | succ n ih =>
    intro a b ha ha' hb hb' hn
    by_cases h : b = 0
    · subst h
      exact Ev.step (f := fun _ => some a) (fun k => by simp only [spec_l01Gcd.l0, if_true]; rw [base a ha ha']) (by rw [gcdI_zero ha]; exact Ev.now _)
    · have hm := Int.emod_lt_of_pos a (show 0 < b by omega)
      have hm0 := Int.emod_nonneg a h
      refine Ev.step (f := fun k => spec_l01Gcd.l0 k b (a % b)) (fun k => by simp only [spec_l01Gcd.l0]; rw [if_neg h, tmod_nn b ha]) ?_
      rw [← gcdI_step ha (by omega)]
      exact ih b (a % b) hb hb' hm0 (by omega) (by omega)
theorem sgcd {a b : Int} (ha : 0 ≤ a) (ha' : a ≤ 9223372036854775807) (hb : 0 ≤ b) (hb' : b ≤ 9223372036854775807) : Ev (fun k => spec_l01Gcd.f k a b) (gcdI a b) := sgcd_ev b.toNat a b ha ha' hb hb' (Nat.le_refl _)
theorem sIn (a b c : Int) : spec_l01In.f a b c = some (decide (b ≤ a) && decide (a ≤ c)) := by
  unfold spec_l01In.f
  by_cases h : a ≥ b
  · rw [if_pos h]; simp [show b ≤ a from h]
  · rw [if_neg h]; simp [show ¬ b ≤ a from h]
theorem sMod {a m : Int} (hm : 0 < m) (hm' : m ≤ 1000000) : spec_l01Mod.f a m = some (a % m) := by
  unfold spec_l01Mod.f
  rw [if_neg (by omega)]
  have h0 := Int.emod_nonneg a (show m ≠ 0 by omega)
  have h1 := Int.emod_lt_of_pos a hm
  have e := Int.mul_tdiv_add_tmod a m
  have t1 := Int.tmod_lt_of_pos a hm
  have t0 : -m < Int.tmod a m := by
    have hx := Int.tmod_lt_of_pos (-a) hm
    rw [Int.neg_tmod] at hx
    omega
  rw [w64 (by omega), tmod_nn _ (by omega), Int.add_emod_right]
  rw [show Int.tmod a m = a - m * Int.tdiv a m by omega, Int.sub_mul_emod_self_left]
theorem spow_l0 {m u : Int} (hm : 1 < m) (hm' : m ≤ 200) (hu : 0 ≤ u) (hu' : u < m) : ∀ (n : Nat) (acc : Int), n ≤ 1000 → 0 ≤ acc → acc < m → Ev (fun k => spec_l09Power.l0 k u n m acc) (itp m u acc n) := by
  intro n
  induction n with
  | zero =>
    intro acc _ h0 h1
    exact Ev.step (f := fun _ => some acc) (fun k => by simp only [spec_l09Power.l0]; rw [if_neg (by omega)]) (Ev.now _)
  | succ n ih =>
    intro acc hn h0 h1
    have hb := mul_bd h0 hu (Int.le_of_lt h1) (Int.le_of_lt hu')
    have hc := mul_bd (show 0 ≤ m by omega) (show 0 ≤ m by omega) hm' hm'
    refine Ev.step (f := fun k => spec_l09Power.l0 k u n m (acc * u % m)) (fun k => ?_) ?_
    · simp only [spec_l09Power.l0]
      rw [if_pos (by omega), if_neg (by omega), w64 (n := ((n + 1 : Nat) : Int) - 1) (by omega), w64 (n := acc * u) (by omega), tmod_nn _ hb.1]
      rw [show ((n + 1 : Nat) : Int) - 1 = n by omega]
    · exact ih _ (by omega) (Int.emod_nonneg _ (by omega)) (Int.emod_lt_of_pos _ (by omega))
theorem spow {m u : Int} (hm : 1 < m) (hm' : m ≤ 200) (hu : 0 ≤ u) (hu' : u < m) (n : Int) (hn : n ≤ 1000) : Ev (fun k => spec_l09Power.f k u n m) (itp m u 1 n.toNat) := by
  have e : ∀ k, spec_l09Power.f k u n m = spec_l09Power.l0 k u n m 1 := by
    intro k
    unfold spec_l09Power.f
    rw [sMod (by omega) (by omega), Int.emod_eq_of_lt (by omega) hm]
    rfl
  refine Ev.congr e ?_
  by_cases h : 0 ≤ n
  · obtain ⟨n, rfl⟩ := Int.eq_ofNat_of_zero_le h
    rw [Int.toNat_natCast]
    exact spow_l0 hm hm' hu hu' n 1 (by omega) (by omega) hm
  · rw [show n.toNat = 0 by omega]
    exact Ev.step (f := fun _ => some 1) (fun k => by simp only [spec_l09Power.l0]; rw [if_neg (by omega)]) (Ev.now _)
theorem sIsCircle (n m u : Int) (hn : -9223372036854775808 ≤ m ∧ m ≤ 9223372036854775807) : Ev (fun k => spec_IsCircle.f k n m u) (isC n m u) := by
  unfold spec_IsCircle.f
  simp only [sIn, Option.bind_some]
  by_cases h1 : (decide (1 ≤ n) && decide (n ≤ 60)) = true
  · simp only [if_pos h1]
    by_cases h2 : (decide (2 ≤ m) && decide (m ≤ 200)) = true
    · simp only [if_pos h2]
      simp only [Bool.and_eq_true, decide_eq_true_eq] at h1 h2
      rw [w64 (by omega)]
      by_cases h3 : (decide (1 ≤ u) && decide (u ≤ m - 1)) = true
      · simp only [if_pos h3]
        simp only [Bool.and_eq_true, decide_eq_true_eq] at h3
        refine Ev.bind (sgcd (by omega) (by omega) (by omega) (by omega)) ?_
        rw [gcdI_comm]
        by_cases h4 : gcdI m u = 1
        · simp only [if_pos h4]
          refine Ev.bind (spow (by omega) (by omega) (by omega) (by omega) n (by omega)) ?_
          have e : isC n m u = (itp m u 1 n.toNat == 1) := by
            unfold isC
            simp [h1.1, h1.2, h2.1, h2.2, h3.1, show u < m by omega, h4]
          rw [e]
          exact Ev.now _
        · simp only [if_neg h4]
          have e : isC n m u = false := by unfold isC; simp [h4]
          rw [e]; exact Ev.now _
      · simp only [if_neg h3]
        have e : isC n m u = false := by
          cases hc : isC n m u with
          | false => rfl
          | true => have := isC_of hc; exact absurd (by simp only [Bool.and_eq_true, decide_eq_true_eq]; omega) h3
        rw [e]; exact Ev.now _
    · simp only [if_neg h2]
      have e : isC n m u = false := by
        cases hc : isC n m u with
        | false => rfl
        | true => have := isC_of hc; exact absurd (by simp only [Bool.and_eq_true, decide_eq_true_eq]; omega) h2
      rw [e]; exact Ev.now _
  · simp only [if_neg h1]
    have e : isC n m u = false := by
      cases hc : isC n m u with
      | false => rfl
      | true => have := isC_of hc; exact absurd (by simp only [Bool.and_eq_true, decide_eq_true_eq]; omega) h1
    rw [e]; exact Ev.now _
theorem iturns_l0 {m u : Int} (hm : 1 < m) (hm' : m ≤ 200) (hu : 0 ≤ u) (hu' : u < m) : ∀ (d : Nat) (acc i n : Int), n ≤ 1000 → 0 ≤ i → n - i = d → 0 ≤ acc → acc < m → Ev (fun k => impl_turns.l0 k m u acc n i) (itp m u acc d) := by
  intro d
  induction d with
  | zero =>
    intro acc i n _ _ hd h0 h1
    exact Ev.step (f := fun _ => some acc) (fun k => by simp only [impl_turns.l0]; rw [if_neg (by omega)]) (Ev.now _)
  | succ d ih =>
    intro acc i n hn hi hd h0 h1
    have hb := mul_bd h0 hu (Int.le_of_lt h1) (Int.le_of_lt hu')
    have hc := mul_bd (show 0 ≤ m by omega) (show 0 ≤ m by omega) hm' hm'
    refine Ev.step (f := fun k => impl_turns.l0 k m u (acc * u % m) n (i + 1)) (fun k => ?_) ?_
    · simp only [impl_turns.l0]
      rw [if_pos (by omega), if_neg (by omega), w64 (n := i + 1) (by omega), w64 (n := acc * u) (by omega), tmod_nn _ hb.1]
    · exact ih _ _ _ hn (by omega) (by omega) (Int.emod_nonneg _ (by omega)) (Int.emod_lt_of_pos _ (by omega))
theorem iturns {m u : Int} (hm : 1 < m) (hm' : m ≤ 200) (hu : 0 ≤ u) (hu' : u < m) (n : Int) (hn0 : 0 ≤ n) (hn : n ≤ 1000) : Ev (fun k => impl_turns.f k m u n) (itp m u 1 n.toNat) := by
  unfold impl_turns.f
  exact iturns_l0 hm hm' hu hu' n.toNat 1 0 n hn (by omega) (by omega) (by omega) hm
theorem iIsCircle (n m u : Int) : Ev (fun k => impl_IsCircle.f k n m u) (isC n m u) := by
  unfold impl_IsCircle.f impl_isUnit.f
  have no : ∀ {p : Prop}, (isC n m u = true → ¬ p) → p → isC n m u = false := fun h hp => by
    cases hc : isC n m u with
    | false => rfl
    | true => exact absurd hp (h hc)
  by_cases h1 : n < 1
  · simp only [if_pos h1]
    rw [no (fun h => by have := isC_of h; omega) h1]; exact Ev.now _
  by_cases h2 : n > 60
  · simp only [if_neg h1, if_pos h2]
    rw [no (fun h => by have := isC_of h; omega) h2]; exact Ev.now _
  by_cases h3 : m < 2
  · simp only [if_neg h1, if_neg h2, if_pos h3]
    rw [no (fun h => by have := isC_of h; omega) h3]; exact Ev.now _
  by_cases h4 : m > 200
  · simp only [if_neg h1, if_neg h2, if_neg h3, if_pos h4]
    rw [no (fun h => by have := isC_of h; omega) h4]; exact Ev.now _
  simp only [if_neg h1, if_neg h2, if_neg h3, if_neg h4]
  by_cases h5 : u ≥ 1
  · simp only [if_pos h5]
    by_cases h6 : u < m
    · simp only [if_pos h6]
      by_cases h7 : gcdI m u = 1
      · refine Ev.bind (Ev.bind (igcd (by omega) (by omega)) (Ev.now _)) ?_
        rw [h7]
        simp only [beq_self_eq_true, if_true]
        refine Ev.bind (iturns (by omega) (by omega) (by omega) (by omega) n (by omega) (by omega)) ?_
        have e : isC n m u = (itp m u 1 n.toNat == 1) := by
          unfold isC
          simp [show 1 ≤ n by omega, show n ≤ 60 by omega, show 2 ≤ m by omega, show m ≤ 200 by omega, show 1 ≤ u by omega, h6, h7]
        rw [e]
        exact Ev.now _
      · refine Ev.bind (Ev.bind (igcd (by omega) (by omega)) (Ev.now _)) ?_
        have e : (gcdI m u == 1) = false := by simpa using h7
        simp only [e, Bool.false_eq_true, if_false]
        rw [no (fun h hx => absurd (isC_of h).2.2.2.2.2.2.1 hx) h7]; exact Ev.now _
    · simp only [if_neg h6, Option.bind_some, Bool.false_eq_true, if_false]
      rw [no (fun h => by have := isC_of h; omega) h6]; exact Ev.now _
  · simp only [if_neg h5, Option.bind_some, Bool.false_eq_true, if_false]
    rw [no (fun h => by have := isC_of h; omega) h5]; exact Ev.now _

theorem snorm_l0 {m u : Int} (hm : 1 < m) (hm' : m ≤ 200) (hu : 0 ≤ u) (hu' : u < m) : ∀ (d i : Nat) (n : Int), n ≤ 1000 → n - i = d → Ev (fun k => spec_l09Norm.l0 k n m u (sump m u i) i) (sump m u n.toNat % m) := by
  intro d
  induction d with
  | zero =>
    intro i n hn hd
    have hs := sump_range (u := u) hm i
    refine Ev.step (f := fun _ => some (sump m u i % m)) (fun k => by simp only [spec_l09Norm.l0]; rw [if_neg (by omega), if_neg (by omega), tmod_nn _ hs.1]) ?_
    rw [show n.toNat = i by omega]
    exact Ev.now _
  | succ d ih =>
    intro i n hn hd
    have hs := sump_range (u := u) hm i
    have hp := itp_range (u := u) (show 0 < m by omega) i 1 (by omega) hm
    have hb := mul_bd (show 0 ≤ m by omega) (show 0 ≤ (i : Int) by omega) hm' (show (i : Int) ≤ 1000 by omega)
    refine Ev.step (f := fun k => (spec_l09Power.f k u i m).bind fun t => spec_l09Norm.l0 k n m u (wrap64 (sump m u i + t)) (wrap64 ((i : Int) + 1))) (fun k => by simp only [spec_l09Norm.l0]; rw [if_pos (by omega)]) ?_
    refine Ev.bind (spow hm hm' hu hu' i (by omega)) ?_
    rw [Int.toNat_natCast, w64 (by omega), w64 (by omega)]
    exact ih (i + 1) n hn (by omega)
theorem snorm {m u : Int} (hm : 1 < m) (hm' : m ≤ 200) (hu : 0 ≤ u) (hu' : u < m) (n : Int) (hn0 : 0 ≤ n) (hn : n ≤ 1000) : Ev (fun k => spec_l09Norm.f k n m u) (sump m u n.toNat % m) := by
  unfold spec_l09Norm.f
  exact snorm_l0 hm hm' hu hu' n.toNat 0 n hn (by omega)
theorem iladder_l0 {m u : Int} (hm : 1 < m) (hm' : m ≤ 200) (hu : 0 ≤ u) (hu' : u < m) : ∀ (d i : Nat) (n : Int), n ≤ 1000 → n - i = d → Ev (fun k => impl_ladder.l0 k m u (sump m u i) (itp m u 1 i) n i) (sump m u n.toNat % m) := by
  intro d
  induction d with
  | zero =>
    intro i n hn hd
    have hs := sump_range (u := u) hm i
    refine Ev.step (f := fun _ => some (sump m u i % m)) (fun k => by simp only [impl_ladder.l0]; rw [if_neg (by omega), if_neg (by omega), tmod_nn _ hs.1]) ?_
    rw [show n.toNat = i by omega]
    exact Ev.now _
  | succ d ih =>
    intro i n hn hd
    have hs := sump_range (u := u) hm i
    have hp := itp_range (u := u) (show 0 < m by omega) i 1 (by omega) hm
    have hb := mul_bd (show 0 ≤ m by omega) (show 0 ≤ (i : Int) by omega) hm' (show (i : Int) ≤ 1000 by omega)
    have hb2 := mul_bd hp.1 hu (Int.le_of_lt hp.2) (Int.le_of_lt hu')
    have hc := mul_bd (show 0 ≤ m by omega) (show 0 ≤ m by omega) hm' hm'
    refine Ev.step (f := fun k => impl_ladder.l0 k m u (sump m u (i + 1)) (itp m u 1 (i + 1)) n ((i + 1 : Nat) : Int)) (fun k => ?_) (ih (i + 1) n hn (by omega))
    simp only [impl_ladder.l0]
    rw [if_pos (by omega), if_neg (by omega), w64 (n := sump m u i + itp m u 1 i) (by omega), w64 (n := itp m u 1 i * u) (by omega), tmod_nn _ hb2.1, w64 (n := (i : Int) + 1) (by omega), itp_snoc]
    rfl
theorem iladder {m u : Int} (hm : 1 < m) (hm' : m ≤ 200) (hu : 0 ≤ u) (hu' : u < m) (n : Int) (hn0 : 0 ≤ n) (hn : n ≤ 1000) : Ev (fun k => impl_ladder.f k m u n) (sump m u n.toNat % m) := by
  unfold impl_ladder.f
  exact iladder_l0 hm hm' hu hu' n.toNat 0 n hn (by omega)

def wcode (n m u x : Int) : Int := if isC n m u = true ∧ n ≤ 8 ∧ m ≤ 12 ∧ 0 ≤ x ∧ x < m then 0 else 2
theorem wcode_zero {n m u x : Int} (h : wcode n m u x = 0) : isC n m u = true ∧ n ≤ 8 ∧ m ≤ 12 ∧ 0 ≤ x ∧ x < m := by
  unfold wcode at h
  by_cases q : isC n m u = true ∧ n ≤ 8 ∧ m ≤ 12 ∧ 0 ≤ x ∧ x < m
  · exact q
  · rw [if_neg q] at h; omega
theorem wcode_two {n m u x : Int} (h : ¬ wcode n m u x = 0) : wcode n m u x = 2 := by
  unfold wcode at h ⊢
  by_cases q : isC n m u = true ∧ n ≤ 8 ∧ m ≤ 12 ∧ 0 ≤ x ∧ x < m
  · rw [if_pos q] at h; omega
  · rw [if_neg q]
theorem sgiven (n m u x : Int) (hm : -9223372036854775808 ≤ m ∧ m ≤ 9223372036854775807) : Ev (fun k => spec_l09Given.f k n m u x) (wcode n m u x) := by
  unfold spec_l09Given.f
  refine Ev.bind (sIsCircle n m u hm) ?_
  cases hc : isC n m u with
  | false => refine Ev.neg (by simp) (Ev.same (Ev.now 2) ?_); unfold wcode; rw [if_neg (by rw [hc]; simp)]
  | true =>
    obtain ⟨hn1, hn2, hm1, hm2, hu1, hu2, _, _⟩ := isC_of hc
    refine Ev.pos rfl (Ev.ite (fun h => Ev.same (Ev.now 2) ?_) (fun h1 => Ev.ite (fun h => Ev.same (Ev.now 2) ?_) (fun h2 => ?_)))
    · unfold wcode; rw [if_neg (by omega)]
    · unfold wcode; rw [if_neg (by omega)]
    · rw [sIn, XPure.w64 (by omega)]
      refine Ev.bindc rfl (Ev.ite (fun h => Ev.same (Ev.now 0) ?_) (fun h => Ev.same (Ev.now 2) ?_))
      · simp only [Bool.and_eq_true, decide_eq_true_eq] at h
        unfold wcode; rw [if_pos ⟨hc, by omega, by omega, by omega, by omega⟩]
      · simp only [Bool.and_eq_true, decide_eq_true_eq] at h
        unfold wcode; rw [if_neg (by omega)]
theorem areIn1 (m x : Int) : Ev (fun k => impl_areIn.f k m [x]) (decide (0 ≤ x) && decide (x < m)) := by
  unfold impl_areIn.f
  by_cases h0 : x < 0
  · refine Ev.step (f := fun _ => some false) (fun k => by simp only [impl_areIn.l0]; rw [if_pos (by simp), if_pos (by omega), if_pos (by simp), if_pos (by simpa [rd] using h0)]) ?_
    rw [show (decide (0 ≤ x) && decide (x < m)) = false by simp; omega]
    exact Ev.now _
  by_cases h1 : x ≥ m
  · refine Ev.step (f := fun _ => some false) (fun k => by simp only [impl_areIn.l0]; rw [if_pos (by simp), if_pos (by omega), if_pos (by simp), if_neg (by simpa [rd] using h0), if_pos (by simpa [rd] using h1)]) ?_
    rw [show (decide (0 ≤ x) && decide (x < m)) = false by simp; omega]
    exact Ev.now _
  refine Ev.step (f := fun k => impl_areIn.l0 k m [x] (([x] : List Int).length : Int) 1) (fun k => by simp only [impl_areIn.l0]; rw [if_pos (by simp), if_pos (by omega), if_pos (by simp), if_neg (by simpa [rd] using h0), if_neg (by simpa [rd] using h1), XPure.w64 (by omega)]; rfl) ?_
  refine Ev.step (f := fun _ => some true) (fun k => by simp only [impl_areIn.l0]; rw [if_neg (by simp)]) ?_
  rw [show (decide (0 ≤ x) && decide (x < m)) = true by simp; omega]
  exact Ev.now _
theorem iwcode (n m u x : Int) : Ev (fun k => impl_wrapCode.f k n m u x) (wcode n m u x) := by
  unfold impl_wrapCode.f
  refine Ev.bind (iIsCircle n m u) ?_
  cases hc : isC n m u with
  | false => refine Ev.neg (by simp) (Ev.same (Ev.now 2) ?_); unfold wcode; rw [if_neg (by rw [hc]; simp)]
  | true =>
    obtain ⟨hn1, hn2, hm1, hm2, hu1, hu2, _, _⟩ := isC_of hc
    refine Ev.pos rfl (Ev.ite (fun h => Ev.same (Ev.now 2) ?_) (fun h1 => Ev.ite (fun h => Ev.same (Ev.now 2) ?_) (fun h2 => ?_)))
    · unfold wcode; rw [if_neg (by omega)]
    · unfold wcode; rw [if_neg (by omega)]
    · refine Ev.bind (areIn1 m x) (Ev.ite (fun h => Ev.same (Ev.now 0) ?_) (fun h => Ev.same (Ev.now 2) ?_))
      · simp only [Bool.and_eq_true, decide_eq_true_eq] at h
        unfold wcode; rw [if_pos ⟨hc, by omega, by omega, by omega, by omega⟩]
      · simp only [Bool.and_eq_true, decide_eq_true_eq] at h
        unfold wcode; rw [if_neg (by omega)]
/-- The group of the rests by n. -/
def cyc (n : Nat) : List (List Int) := tableOf (fun a b => (a + b) % n) n n
theorem icyclic {n : Nat} (hn : 0 < n) (hn' : n ≤ 1000) : Ev (fun k => impl_cyclic.f k n) (cyc n) := by
  unfold impl_cyclic.f impl_made_at100.f
  have e : ∀ k, (∀ a g, impl_made_at100.l0 k n n a [(n : Int)] g = gMade (fun _ a b => impl_cyclic_1.f a b [(n : Int)]) k true n a [] 0 g) ∧ (∀ a row b g, impl_made_at100.l1 k n a row n a n b [(n : Int)] g = gMade (fun _ a b => impl_cyclic_1.f a b [(n : Int)]) k false n a row b g) := by
    intro k
    induction k with
    | zero => exact ⟨fun _ _ => rfl, fun _ _ _ _ => rfl⟩
    | succ k ih => exact ⟨fun a g => by simp only [impl_made_at100.l0, gMade, ih.2], fun a row b g => by simp only [impl_made_at100.l1, gMade, ih.1, ih.2]⟩
  refine Ev.bind (Ev.congr (fun k => (e k).1 0 []) ?_) (Ev.now _)
  have h := gMade_ev (C := fun _ a b => impl_cyclic_1.f a b [(n : Int)]) (p := fun a b => (a + b) % n) hn' (fun a b ha hb => Ev.const (by
    unfold impl_cyclic_1.f
    have e1 : rd [(n : Int)] 0 = n := rfl
    rw [if_pos (by simp), e1, if_neg (by omega), XPure.w64 (by omega), tmod_nn _ (by omega)])) n 0 (by omega) (by omega)
  exact h
theorem cyc_length (n : Nat) : (cyc n).length = n := tableOf_length _ n n
theorem icells {g : List (List Int)} {n : Nat} (hg : g.length = n) (hn : 0 < n) (hn' : n ≤ 1000) {deg : Nat} (hd : deg ≤ 5) : Ev (fun k => impl_cells.f k g deg) (((n - 1) ^ deg : Nat) : Int) := by
  unfold impl_cells.f impl_order.f
  refine Ev.bindc rfl (Ev.bind (a := (((n - 1) ^ deg : Nat) : Int)) ?_ (Ev.now _))
  rw [hg, XPure.w64 (by omega)]
  unfold impl_power.f
  have e : ∀ k b a n i, impl_power.l0 k b a n i = gPow k b a n i := by
    intro k
    induction k with
    | zero => intros; rfl
    | succ k ih => intros; simp only [impl_power.l0, gPow, ih]
  refine Ev.congr (fun k => e k _ _ _ _) ?_
  have h := gPow_ev (b := (n : Int) - 1) (by omega) (by omega) deg 0 deg (by omega) (by omega)
  rw [Int.toNat_natCast] at h
  have e2 : ((n : Int) - 1) ^ deg = (((n - 1) ^ deg : Nat) : Int) := by rw [Int.natCast_pow, show ((n - 1 : Nat) : Int) = (n : Int) - 1 by omega]
  rw [e2, Int.pow_zero] at h
  exact h
theorem pow_le {b deg : Nat} (hb : b ≤ 1000) (hd : deg ≤ 3) : b ^ deg ≤ 1000000000 := by
  have h1 := Nat.pow_le_pow_left hb deg
  have h2 := Nat.pow_le_pow_right (show 0 < 1000 by omega) hd
  omega
theorem izero {g : List (List Int)} {n : Nat} (hg : g.length = n) (hn : 0 < n) (hn' : n ≤ 1000) {deg : Nat} (hd : deg ≤ 3) : Ev (fun k => impl_zero.f k g deg) ((deg : Int), List.replicate ((n - 1) ^ deg) 0) := by
  unfold impl_zero.f
  have hp := pow_le (show n - 1 ≤ 1000 by omega) hd
  refine Ev.bind (icells hg hn hn' (by omega)) (Ev.pos (by omega) (Ev.pos (by omega) ?_))
  rw [Int.toNat_natCast]
  exact Ev.now _
theorem ilist {g : List (List Int)} {n : Nat} (hg : g.length = n) (hn : 1 < n) (hn' : n ≤ 1000) {deg : Nat} (hd : deg ≤ 3) {i : Nat} (hi : i ≤ 1000000000) : Ev (fun k => impl_listOf.f k g deg i) (digits (n - 1) deg i) := by
  unfold impl_listOf.f impl_order.f
  refine Ev.pos (by omega) (Ev.pos (by omega) (Ev.bindc rfl ?_))
  rw [hg, XPure.w64 (by omega), XPure.w64 (by omega), Int.toNat_natCast]
  have e : ∀ k a l b i, impl_listOf.l0 k a l b i = gList k a l b i := by
    intro k
    induction k with
    | zero => intros; rfl
    | succ k ih => intros; simp only [impl_listOf.l0, gList, ih]
  refine Ev.congr (fun k => e k _ _ _ _) ?_
  have h := gList_ev (show 0 < n - 1 by omega) (by omega) deg i [] (by omega) (by omega)
  rw [List.append_nil, List.append_nil, show ((n - 1 : Nat) : Int) = (n : Int) - 1 by omega] at h
  exact h

theorem eqI {l : List Int} (hl : l.length < 4611686018427387904) : Ev (fun k => laws_eqInt64S.f k l l) true := by
  unfold laws_eqInt64S.f
  simp only [if_true]
  refine Ev.congr (f := fun k => gEq k l l 0) (fun k => ?_) (gEq_refl l hl l.length 0 rfl)
  have e : ∀ k (a b : List Int) i, laws_eqInt64S.l0 k a b i = gEq k a b i := by
    intro k
    induction k with
    | zero => intros; rfl
    | succ k ih => intros; simp only [laws_eqInt64S.l0, gEq, ih]
  exact e k l l 0
theorem markI (l : List Int) {a : Int} (h0 : 0 ≤ a) (hl : a + l.length < 4611686018427387904) : Ev (fun k => laws_markInt64S.f k l a) (a + (l.length : Int), marks a l.length) := by
  unfold laws_markInt64S.f
  refine Ev.congr (f := fun k => gMark k l a 0) (fun k => ?_) (gMark_all l h0 hl)
  have e : ∀ k (a : List Int) b i, laws_markInt64S.l0 k a b i = gMark k a b i := by
    intro k
    induction k with
    | zero => intros; rfl
    | succ k ih => intros; simp only [laws_markInt64S.l0, gMark, ih]
  exact e k l a 0
theorem heldI {a : Int} (n : Nat) (h0 : 0 ≤ a) (hn : a + n < 4611686018427387904) : Ev (fun k => laws_heldInt64S.f k (marks a n) a) (a + n) := by
  unfold laws_heldInt64S.f
  refine Ev.congr (f := fun k => gHeld k (marks a n) a 0) (fun k => ?_) (gHeld_all n h0 hn)
  have e : ∀ k (a : List Int) b i, laws_heldInt64S.l0 k a b i = gHeld k a b i := by
    intro k
    induction k with
    | zero => intros; rfl
    | succ k ih => intros; simp only [laws_heldInt64S.l0, gHeld, ih]
  exact e k _ a 0

theorem eqC (d : Int) {l : List Int} (hl : l.length < 4611686018427387904) : Ev (fun k => laws_eqCochain.f k d l d l) true := by
  unfold laws_eqCochain.f
  exact Ev.pos rfl (Ev.bind (eqI hl) (Ev.pos rfl (Ev.now _)))
theorem markC (d : Int) (l : List Int) {a : Int} (h0 : 0 ≤ a) (hl : a + l.length < 4611686018427387904) : Ev (fun k => laws_markCochain.f k d l a) (a + (l.length : Int), marks a l.length) := by
  unfold laws_markCochain.f
  exact Ev.bind (markI l h0 hl) (Ev.now _)
theorem heldC (d : Int) {a : Int} (n : Nat) (h0 : 0 ≤ a) (hn : a + n < 4611686018427387904) : Ev (fun k => laws_heldCochain.f k d (marks a n) a) (a + n) := by
  unfold laws_heldCochain.f
  exact Ev.bind (heldI n h0 hn) (Ev.neg (by omega) (Ev.now _))

def rungs (n : Nat) (m u x : Int) : List Int := (List.range (n - 1)).map fun q => x * sump m u (q + 1) % m
theorem rungs_length (n : Nat) (m u x : Int) : (rungs n m u x).length = n - 1 := by unfold rungs; rw [List.length_map, List.length_range]
theorem sladder_l0 {n : Nat} (hn : n ≤ 8) (hn0 : 0 < n) {m u x : Int} (hm : 1 < m) (hm' : m ≤ 12) (hu : 0 ≤ u) (hu' : u < m) (hx : 0 ≤ x) (hx' : x < m) (deg : Int) : ∀ (d q : Nat), n - 1 - q = d → q ≤ n - 1 → Ev (fun k => spec_LadderOf.l0 k n m u x (sump m u q) ((q + 1 : Nat) : Int) deg ((List.range q).map fun q => x * sump m u (q + 1) % m)) (deg, rungs n m u x, 0) := by
  intro d
  induction d with
  | zero =>
    intro q hd hq
    obtain rfl : q = n - 1 := by omega
    refine Ev.step (fun k => by simp only [spec_LadderOf.l0]; rw [if_neg (show ¬ ((n - 1 + 1 : Nat) : Int) < (n : Int) by omega)]) ?_
    exact Ev.now _
  | succ d ih =>
    intro q hd hq
    have h := ih (q + 1) (by omega) (by omega)
    have hs := sump_range (u := u) hm (q + 1)
    have hm8 := mul_bd (show 0 ≤ m by omega) (show 0 ≤ ((q + 1 : Nat) : Int) by omega) hm' (show ((q + 1 : Nat) : Int) ≤ 8 by omega)
    have hb := mul_bd hx hs.1 (show x ≤ 12 by omega) (show sump m u (q + 1) ≤ 96 by omega)
    have e : sump m u q + itp m u 1 q = sump m u (q + 1) := rfl
    rw [List.range_succ, List.map_append] at h
    refine Ev.step (fun k => by simp only [spec_LadderOf.l0]; rw [if_pos (show ((q + 1 : Nat) : Int) < (n : Int) by omega), XPure.w64 (n := ((q + 1 : Nat) : Int) - 1) (by omega), XPure.w64 (n := ((q + 1 : Nat) : Int) + 1) (by omega)]) ?_
    refine Ev.bind (spow hm (by omega) hu hu' (((q + 1 : Nat) : Int) - 1) (by omega)) (Ev.neg (by omega) (Ev.pos (by simp; omega) ?_))
    rw [show (((q + 1 : Nat) : Int) - 1).toNat = q by omega, XPure.w64 (n := sump m u q + itp m u 1 q) (by rw [e]; omega), e, XPure.w64 (by omega), tmod_nn _ hb.1]
    exact h
theorem itold80 {n : Nat} (hn : 0 < n) (hn' : n ≤ 8) {m u x : Int} (hm : 2 ≤ m) (hm' : m ≤ 12) (hu : 0 ≤ u) (hu' : u < m) (hx : 0 ≤ x) (hx' : x < m) : Ev (fun k => impl_told_at80.f k (cyc n) m 1 [x] [m] [u]) (1, rungs n m u x) := by
  unfold impl_told_at80.f
  have hl := cyc_length n
  refine Ev.bind (izero hl hn (by omega) (deg := 1) (by omega)) ?_
  have e : ∀ k c i deg vs, impl_told_at80.l0 k m 1 c i [x] [m] [u] (cyc n) deg vs = gTold (fun k i => impl_listOf.f k (cyc n) 1 i) (fun k l => impl_LadderOf_1.f k l [x] [m] [u]) m k c i deg vs := by
    intro k
    induction k with
    | zero => intros; rfl
    | succ k ih => intros; simp only [impl_told_at80.l0, gTold, ih]
  refine Ev.congr (fun k => e k _ _ _ _) ?_
  have h := gTold_ev (L := fun k i => impl_listOf.f k (cyc n) 1 i) (C := fun k l => impl_LadderOf_1.f k l [x] [m] [u]) (m := m) (by omega) (by omega) (c := n - 1) (by omega) 1 (fun i => x * (sump m u (i + 1) % m)) (fun i hi => by
    refine ⟨_, ilist hl (by omega) (by omega) (deg := 1) (by omega) (by omega), ?_⟩
    have e1 : digits (n - 1) 1 i = [1 + (i : Int)] := by
      simp only [digits, List.nil_append]
      rw [Nat.mod_eq_of_lt hi]
    rw [e1]
    unfold impl_LadderOf_1.f
    have e2 : rd [1 + (i : Int)] 0 = 1 + (i : Int) := rfl
    have e3 : rd [m] 0 = m := rfl
    have e4 : rd [u] 0 = u := rfl
    have e5 : rd [x] 0 = x := rfl
    simp only [e2, e3, e4, e5]
    have q0 := Int.emod_nonneg (sump m u (i + 1)) (show m ≠ 0 by omega)
    have q1 := Int.emod_lt_of_pos (sump m u (i + 1)) (show 0 < m by omega)
    have hb := mul_bd hx q0 (show x ≤ 12 by omega) (show sump m u (i + 1) % m ≤ 12 by omega)
    refine Ev.pos (by simp) (Ev.pos (by simp) (Ev.pos (by simp) (Ev.pos (by simp) (Ev.bind (iladder (by omega) (by omega) hu hu' (1 + (i : Int)) (by omega) (by omega)) ?_))))
    rw [show (1 + (i : Int)).toNat = i + 1 by omega, XPure.w64 (by omega)]
    exact Ev.now _) (n - 1) 0 (List.replicate (n - 1) 0) (by simp) (by omega) (by omega)
  have e0 : (((1 : Nat) : Int), List.replicate ((n - 1) ^ 1) (0 : Int)).2.length = n - 1 := by simp
  rw [e0, Nat.pow_one]
  have e6 : ((List.range (n - 1)).map fun j => x * (sump m u (j + 1) % m) % m) = rungs n m u x := by
    unfold rungs
    apply List.map_congr_left
    intro j _
    rw [Int.mul_emod, Int.emod_emod_of_dvd _ (Int.dvd_refl m), ← Int.mul_emod]
  rw [e6] at h
  exact h
theorem FnExactLadderOf : laws_FnExactLadderOf.Pure := by
  intro n m u x _ hm _ _
  refine Ev.rounds (g := fun k => laws_FnExactLadderOf.f k n m u x) ?_
  obtain ⟨r, hr1, hs, hi⟩ : ∃ r : Int × List Int × Int, r.2.1.length ≤ 1000 ∧ Ev (fun k => spec_LadderOf.f k n m u x) r ∧ Ev (fun k => impl_LadderOf.f k n m u x) r := by
    unfold spec_LadderOf.f impl_LadderOf.f
    by_cases h : wcode n m u x = 0
    · obtain ⟨hc, h8, h12, hx, hx'⟩ := wcode_zero h
      obtain ⟨hn1, hn2, hm1, hm2, hu1, hu2, _, _⟩ := isC_of hc
      have hsn := snorm (u := u) (show 1 < m by omega) (by omega) (by omega) hu2 n (by omega) (by omega)
      have hin := iladder (u := u) (show 1 < m by omega) (by omega) (by omega) hu2 n (by omega) (by omega)
      by_cases hz : Int.tmod (wrap64 (sump m u n.toNat % m * x)) m = 0
      · have hz' := hz
        rw [Int.mul_comm] at hz'
        obtain ⟨n, rfl⟩ := Int.eq_ofNat_of_zero_le (show 0 ≤ n by omega)
        refine ⟨(1, rungs n m u x, 0), ?_, Ev.bind (sgiven n m u x (wfm hm)) (Ev.pos h (Ev.bind hsn (Ev.neg (by omega) (Ev.pos hz ?_)))), Ev.bind (iwcode n m u x) (Ev.pos h (Ev.bind hin (Ev.neg (by omega) (Ev.pos hz' ?_))))⟩
        · show (rungs n m u x).length ≤ 1000
          rw [rungs_length]
          omega
        · exact sladder_l0 (by omega) (by omega) (by omega) h12 (by omega) hu2 hx hx' 1 (n - 1) 0 (by omega) (by omega)
        · exact Ev.bind (icyclic (by omega) (by omega)) (Ev.bind (itold80 (by omega) (by omega) hm1 h12 (by omega) hu2 hx hx') (Ev.now _))
      · have hz' := hz
        rw [Int.mul_comm] at hz'
        exact ⟨(0, [], 5), by simp, Ev.bind (sgiven n m u x (wfm hm)) (Ev.pos h (Ev.bind hsn (Ev.neg (by omega) (Ev.neg hz (Ev.now _))))), Ev.bind (iwcode n m u x) (Ev.pos h (Ev.bind hin (Ev.neg (by omega) (Ev.neg hz' (Ev.now _)))))⟩
    · refine ⟨(0, [], 2), by simp, Ev.bind (sgiven n m u x (wfm hm)) (Ev.neg h ?_), Ev.bind (iwcode n m u x) (Ev.neg h ?_)⟩
      · rw [wcode_two h]; exact Ev.now _
      · rw [wcode_two h]; exact Ev.now _
  obtain ⟨d, l, c⟩ := r
  unfold laws_FnExactLadderOf.f
  refine Ev.bind hs (Ev.bind hi ?_)
  dsimp only at hr1 ⊢
  refine Ev.bind (eqC d (l := l) (by omega)) (Ev.pos rfl ?_)
  simp only [bne_self_eq_false]
  refine Ev.step (fun k => by simp only [laws_FnExactLadderOf.j0, Bool.false_eq_true, if_false]; rfl) ?_
  refine Ev.bind (markC d l (by omega) (by omega)) (Ev.bind (heldC d _ (by omega) (by omega)) (Ev.neg (by omega) (Ev.pos rfl (Ev.bind hi (Ev.bind (eqC d (l := l) (by omega)) (Ev.pos rfl ?_))))))
  simp only [bne_self_eq_false]
  refine Ev.step (fun k => by simp only [laws_FnExactLadderOf.j1, Bool.false_eq_true, if_false]; rfl) ?_
  exact Ev.bind (heldC d _ (by omega) (by omega)) (Ev.neg (by omega) (Ev.pos rfl (Ev.now _)))

end Go.Proofs.Ytkpnhkccdjphgaa.Pure
