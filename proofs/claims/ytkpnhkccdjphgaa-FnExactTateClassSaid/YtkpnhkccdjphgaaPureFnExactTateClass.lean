/- The program's TateClass returns what the reference's returns, for all arguments. -/
import Derived.Test.YtkpnhkccdjphgaaPFnExactTateClassx2
namespace Go.Proofs.Ytkpnhkccdjphgaa.Pure
open Go.RowKit Go.Proofs.Ytkpnhkccdjphgaa.PFnExactTateClass Go.Proofs.YtkpnhkccdjphgaaW.PrintWords Go.Proofs.YtkpnhkccdjphgaaW.PrintLast

-- plain mathematics of circles (own text; no program in sight)
def itp (m u : Int) : Int → Nat → Int
  | acc, 0 => acc
  | acc, n + 1 => itp m u (acc * u % m) n
theorem itp_range {m u : Int} (hm : 0 < m) : ∀ (n : Nat) (acc : Int), 0 ≤ acc → acc < m → 0 ≤ itp m u acc n ∧ itp m u acc n < m
  | 0, _, h0, h1 => ⟨h0, h1⟩
  | n + 1, acc, _, _ => itp_range hm n _ (Int.emod_nonneg _ (by omega)) (Int.emod_lt_of_pos _ hm)
theorem itp_snoc (m u : Int) : ∀ (n : Nat) (acc : Int), itp m u acc (n + 1) = itp m u acc n * u % m
  | 0, _ => rfl
  | n + 1, acc => itp_snoc m u n (acc * u % m)
def sump (m u : Int) : Nat → Int
  | 0 => 0
  | n + 1 => sump m u n + itp m u 1 n
theorem sump_range {m u : Int} (hm : 1 < m) : ∀ (n : Nat), 0 ≤ sump m u n ∧ sump m u n ≤ m * n
  | 0 => ⟨Int.le_refl _, by simp [sump]⟩
  | n + 1 => by
    have h := sump_range (u := u) hm n
    have g := itp_range (u := u) (show 0 < m by omega) n 1 (by omega) hm
    have e : m * ((n + 1 : Nat) : Int) = m * n + m := by rw [Int.natCast_succ, Int.mul_add, Int.mul_one]
    unfold sump
    omega
def gcdI (a b : Int) : Int := ((Nat.gcd a.toNat b.toNat : Nat) : Int)
theorem gcdI_zero {a : Int} (h : 0 ≤ a) : gcdI a 0 = a := by unfold gcdI; simp; omega
theorem gcdI_comm (a b : Int) : gcdI a b = gcdI b a := by unfold gcdI; rw [Nat.gcd_comm]
theorem gcdI_nonneg (a b : Int) : 0 ≤ gcdI a b := by unfold gcdI; omega
theorem gcdI_le_left {a : Int} (b : Int) (h : 0 < a) : gcdI a b ≤ a := by
  unfold gcdI
  have := Nat.gcd_le_left (m := a.toNat) b.toNat (by omega)
  omega
theorem gcdI_pos {a : Int} (b : Int) (h : 0 < a) : 0 < gcdI a b := by
  unfold gcdI
  have := Nat.gcd_pos_of_pos_left (m := a.toNat) b.toNat (by omega)
  omega
theorem gcdI_step {a b : Int} (ha : 0 ≤ a) (hb : 0 < b) : gcdI b (a % b) = gcdI a b := by
  obtain ⟨a, rfl⟩ := Int.eq_ofNat_of_zero_le ha
  obtain ⟨b, rfl⟩ := Int.eq_ofNat_of_zero_le (Int.le_of_lt hb)
  unfold gcdI
  rw [← Int.natCast_emod, Int.toNat_natCast, Int.toNat_natCast, Int.toNat_natCast]
  rw [Nat.gcd_comm b, ← Nat.gcd_rec, Nat.gcd_comm]
theorem tmod_nn {a : Int} (b : Int) (h : 0 ≤ a) : Int.tmod a b = a % b := Int.tmod_eq_emod_of_nonneg h
theorem mul_bd {a b m n : Int} (ha : 0 ≤ a) (hb : 0 ≤ b) (h1 : a ≤ m) (h2 : b ≤ n) : 0 ≤ a * b ∧ a * b ≤ m * n :=
  ⟨Int.mul_nonneg ha hb, Int.mul_le_mul h1 h2 hb (by omega)⟩
def isC (n m u : Int) : Bool := decide (1 ≤ n) && (decide (n ≤ 60) && (decide (2 ≤ m) && (decide (m ≤ 200) && (decide (1 ≤ u) && (decide (u < m) && ((gcdI m u == 1) && (itp m u 1 n.toNat == 1)))))))
theorem isC_of {n m u : Int} (h : isC n m u = true) : 1 ≤ n ∧ n ≤ 60 ∧ 2 ≤ m ∧ m ≤ 200 ∧ 1 ≤ u ∧ u < m ∧ gcdI m u = 1 ∧ itp m u 1 n.toNat = 1 := by
  simpa [isC] using h

theorem w64 {n : Int} (h : -9223372036854775808 ≤ n ∧ n ≤ 9223372036854775807) : wrap64 n = n := by unfold wrap64; omega
theorem igcd_ev : ∀ (n : Nat) (a b : Int), 0 ≤ a → 0 ≤ b → b.toNat ≤ n → Ev (fun k => impl_gcd.l0 k a b) (gcdI a b) := by
  intro n
  induction n with
  | zero =>
    intro a b ha hb hn
    obtain rfl : b = 0 := by omega
    exact Ev.step (f := fun _ => some a) (fun k => by simp only [impl_gcd.l0, if_true]) (by rw [gcdI_zero ha]; exact Ev.now _)
  | succ n ih =>
    intro a b ha hb hn
    by_cases h : b = 0
    · subst h
      exact Ev.step (f := fun _ => some a) (fun k => by simp only [impl_gcd.l0, if_true]) (by rw [gcdI_zero ha]; exact Ev.now _)
    · have hm := Int.emod_lt_of_pos a (show 0 < b by omega)
      have hm0 := Int.emod_nonneg a h
      refine Ev.step (f := fun k => impl_gcd.l0 k b (a % b)) (fun k => by simp only [impl_gcd.l0]; rw [if_neg h, tmod_nn b ha]) ?_
      rw [← gcdI_step ha (by omega)]
      exact ih b (a % b) hb hm0 (by omega)
theorem igcd {a b : Int} (ha : 0 ≤ a) (hb : 0 ≤ b) : Ev (fun k => impl_gcd.f k a b) (gcdI a b) := igcd_ev b.toNat a b ha hb (Nat.le_refl _)
theorem sgcd_ev : ∀ (n : Nat) (a b : Int), 0 ≤ a → a ≤ 9223372036854775807 → 0 ≤ b → b ≤ 9223372036854775807 → b.toNat ≤ n → Ev (fun k => spec_l01Gcd.l0 k a b) (gcdI a b) := by
  intro n
  have base : ∀ a : Int, 0 ≤ a → a ≤ 9223372036854775807 → mx a (wrap64 (-a)) = a := by
    intro a h h'
    rw [w64 (by omega)]
    unfold mx
    split <;> omega
  induction n with
  | zero =>
    intro a b ha ha' hb _ hn
    obtain rfl : b = 0 := by omega
    exact Ev.step (f := fun _ => some a) (fun k => by simp only [spec_l01Gcd.l0, if_true]; rw [base a ha ha']) (by rw [gcdI_zero ha]; exact Ev.now _)
  | succ n ih =>
    intro a b ha ha' hb hb' hn
    by_cases h : b = 0
    · subst h
      exact Ev.step (f := fun _ => some a) (fun k => by simp only [spec_l01Gcd.l0, if_true]; rw [base a ha ha']) (by rw [gcdI_zero ha]; exact Ev.now _)
    · have hm := Int.emod_lt_of_pos a (show 0 < b by omega)
      have hm0 := Int.emod_nonneg a h
      refine Ev.step (f := fun k => spec_l01Gcd.l0 k b (a % b)) (fun k => by simp only [spec_l01Gcd.l0]; rw [if_neg h, tmod_nn b ha]) ?_
      rw [← gcdI_step ha (by omega)]
      exact ih b (a % b) hb hb' hm0 (by omega) (by omega)
theorem sgcd {a b : Int} (ha : 0 ≤ a) (ha' : a ≤ 9223372036854775807) (hb : 0 ≤ b) (hb' : b ≤ 9223372036854775807) : Ev (fun k => spec_l01Gcd.f k a b) (gcdI a b) := sgcd_ev b.toNat a b ha ha' hb hb' (Nat.le_refl _)
theorem sIn (a b c : Int) : spec_l01In.f a b c = some (decide (b ≤ a) && decide (a ≤ c)) := by
  unfold spec_l01In.f
  by_cases h : a ≥ b
  · rw [if_pos h]; simp [show b ≤ a from h]
  · rw [if_neg h]; simp [show ¬ b ≤ a from h]
theorem sMod {a m : Int} (hm : 0 < m) (hm' : m ≤ 1000000) : spec_l01Mod.f a m = some (a % m) := by
  unfold spec_l01Mod.f
  rw [if_neg (by omega)]
  have h0 := Int.emod_nonneg a (show m ≠ 0 by omega)
  have h1 := Int.emod_lt_of_pos a hm
  have e := Int.mul_tdiv_add_tmod a m
  have t1 := Int.tmod_lt_of_pos a hm
  have t0 : -m < Int.tmod a m := by
    have hx := Int.tmod_lt_of_pos (-a) hm
    rw [Int.neg_tmod] at hx
    omega
  rw [w64 (by omega), tmod_nn _ (by omega), Int.add_emod_right]
  rw [show Int.tmod a m = a - m * Int.tdiv a m by omega, Int.sub_mul_emod_self_left]
theorem spow_l0 {m u : Int} (hm : 1 < m) (hm' : m ≤ 200) (hu : 0 ≤ u) (hu' : u < m) : ∀ (n : Nat) (acc : Int), n ≤ 1000 → 0 ≤ acc → acc < m → Ev (fun k => spec_l09Power.l0 k u n m acc) (itp m u acc n) := by
  intro n
  induction n with
  | zero =>
    intro acc _ h0 h1
    exact Ev.step (f := fun _ => some acc) (fun k => by simp only [spec_l09Power.l0]; rw [if_neg (by omega)]) (Ev.now _)
  | succ n ih =>
    intro acc hn h0 h1
    have hb := mul_bd h0 hu (Int.le_of_lt h1) (Int.le_of_lt hu')
    have hc := mul_bd (show 0 ≤ m by omega) (show 0 ≤ m by omega) hm' hm'
    refine Ev.step (f := fun k => spec_l09Power.l0 k u n m (acc * u % m)) (fun k => ?_) ?_
    · simp only [spec_l09Power.l0]
      rw [if_pos (by omega), if_neg (by omega), w64 (n := ((n + 1 : Nat) : Int) - 1) (by omega), w64 (n := acc * u) (by omega), tmod_nn _ hb.1]
      rw [show ((n + 1 : Nat) : Int) - 1 = n by omega]
    · exact ih _ (by omega) (Int.emod_nonneg _ (by omega)) (Int.emod_lt_of_pos _ (by omega))
theorem spow {m u : Int} (hm : 1 < m) (hm' : m ≤ 200) (hu : 0 ≤ u) (hu' : u < m) (n : Int) (hn : n ≤ 1000) : Ev (fun k => spec_l09Power.f k u n m) (itp m u 1 n.toNat) := by
  have e : ∀ k, spec_l09Power.f k u n m = spec_l09Power.l0 k u n m 1 := by
    intro k
    unfold spec_l09Power.f
    rw [sMod (by omega) (by omega), Int.emod_eq_of_lt (by omega) hm]
    rfl
  refine Ev.congr e ?_
  by_cases h : 0 ≤ n
  · obtain ⟨n, rfl⟩ := Int.eq_ofNat_of_zero_le h
    rw [Int.toNat_natCast]
    exact spow_l0 hm hm' hu hu' n 1 (by omega) (by omega) hm
  · rw [show n.toNat = 0 by omega]
    exact Ev.step (f := fun _ => some 1) (fun k => by simp only [spec_l09Power.l0]; rw [if_neg (by omega)]) (Ev.now _)
theorem sIsCircle (n m u : Int) (hn : -9223372036854775808 ≤ m ∧ m ≤ 9223372036854775807) : Ev (fun k => spec_IsCircle.f k n m u) (isC n m u) := by
  unfold spec_IsCircle.f
  simp only [sIn, Option.bind_some]
  by_cases h1 : (decide (1 ≤ n) && decide (n ≤ 60)) = true
  · simp only [if_pos h1]
    by_cases h2 : (decide (2 ≤ m) && decide (m ≤ 200)) = true
    · simp only [if_pos h2]
      simp only [Bool.and_eq_true, decide_eq_true_eq] at h1 h2
      rw [w64 (by omega)]
      by_cases h3 : (decide (1 ≤ u) && decide (u ≤ m - 1)) = true
      · simp only [if_pos h3]
        simp only [Bool.and_eq_true, decide_eq_true_eq] at h3
        refine Ev.bind (sgcd (by omega) (by omega) (by omega) (by omega)) ?_
        rw [gcdI_comm]
        by_cases h4 : gcdI m u = 1
        · simp only [if_pos h4]
          refine Ev.bind (spow (by omega) (by omega) (by omega) (by omega) n (by omega)) ?_
          have e : isC n m u = (itp m u 1 n.toNat == 1) := by
            unfold isC
            simp [h1.1, h1.2, h2.1, h2.2, h3.1, show u < m by omega, h4]
          rw [e]
          exact Ev.now _
        · simp only [if_neg h4]
          have e : isC n m u = false := by unfold isC; simp [h4]
          rw [e]; exact Ev.now _
      · simp only [if_neg h3]
        have e : isC n m u = false := by
          cases hc : isC n m u with
          | false => rfl
          | true => have := isC_of hc; exact absurd (by simp only [Bool.and_eq_true, decide_eq_true_eq]; omega) h3
        rw [e]; exact Ev.now _
    · simp only [if_neg h2]
      have e : isC n m u = false := by
        cases hc : isC n m u with
        | false => rfl
        | true => have := isC_of hc; exact absurd (by simp only [Bool.and_eq_true, decide_eq_true_eq]; omega) h2
      rw [e]; exact Ev.now _
  · simp only [if_neg h1]
    have e : isC n m u = false := by
      cases hc : isC n m u with
      | false => rfl
      | true => have := isC_of hc; exact absurd (by simp only [Bool.and_eq_true, decide_eq_true_eq]; omega) h1
    rw [e]; exact Ev.now _
theorem iturns_l0 {m u : Int} (hm : 1 < m) (hm' : m ≤ 200) (hu : 0 ≤ u) (hu' : u < m) : ∀ (d : Nat) (acc i n : Int), n ≤ 1000 → 0 ≤ i → n - i = d → 0 ≤ acc → acc < m → Ev (fun k => impl_turns.l0 k m u acc n i) (itp m u acc d) := by
  intro d
  induction d with
  | zero =>
    intro acc i n _ _ hd h0 h1
    exact Ev.step (f := fun _ => some acc) (fun k => by simp only [impl_turns.l0]; rw [if_neg (by omega)]) (Ev.now _)
  | succ d ih =>
    intro acc i n hn hi hd h0 h1
    have hb := mul_bd h0 hu (Int.le_of_lt h1) (Int.le_of_lt hu')
    have hc := mul_bd (show 0 ≤ m by omega) (show 0 ≤ m by omega) hm' hm'
    refine Ev.step (f := fun k => impl_turns.l0 k m u (acc * u % m) n (i + 1)) (fun k => ?_) ?_
    · simp only [impl_turns.l0]
      rw [if_pos (by omega), if_neg (by omega), w64 (n := i + 1) (by omega), w64 (n := acc * u) (by omega), tmod_nn _ hb.1]
    · exact ih _ _ _ hn (by omega) (by omega) (Int.emod_nonneg _ (by omega)) (Int.emod_lt_of_pos _ (by omega))
theorem iturns {m u : Int} (hm : 1 < m) (hm' : m ≤ 200) (hu : 0 ≤ u) (hu' : u < m) (n : Int) (hn0 : 0 ≤ n) (hn : n ≤ 1000) : Ev (fun k => impl_turns.f k m u n) (itp m u 1 n.toNat) := by
  unfold impl_turns.f
  exact iturns_l0 hm hm' hu hu' n.toNat 1 0 n hn (by omega) (by omega) (by omega) hm
theorem iIsCircle (n m u : Int) : Ev (fun k => impl_IsCircle.f k n m u) (isC n m u) := by
  unfold impl_IsCircle.f impl_isUnit.f
  have no : ∀ {p : Prop}, (isC n m u = true → ¬ p) → p → isC n m u = false := fun h hp => by
    cases hc : isC n m u with
    | false => rfl
    | true => exact absurd hp (h hc)
  by_cases h1 : n < 1
  · simp only [if_pos h1]
    rw [no (fun h => by have := isC_of h; omega) h1]; exact Ev.now _
  by_cases h2 : n > 60
  · simp only [if_neg h1, if_pos h2]
    rw [no (fun h => by have := isC_of h; omega) h2]; exact Ev.now _
  by_cases h3 : m < 2
  · simp only [if_neg h1, if_neg h2, if_pos h3]
    rw [no (fun h => by have := isC_of h; omega) h3]; exact Ev.now _
  by_cases h4 : m > 200
  · simp only [if_neg h1, if_neg h2, if_neg h3, if_pos h4]
    rw [no (fun h => by have := isC_of h; omega) h4]; exact Ev.now _
  simp only [if_neg h1, if_neg h2, if_neg h3, if_neg h4]
  by_cases h5 : u ≥ 1
  · simp only [if_pos h5]
    by_cases h6 : u < m
    · simp only [if_pos h6]
      by_cases h7 : gcdI m u = 1
      · refine Ev.bind (Ev.bind (igcd (by omega) (by omega)) (Ev.now _)) ?_
        rw [h7]
        simp only [beq_self_eq_true, if_true]
        refine Ev.bind (iturns (by omega) (by omega) (by omega) (by omega) n (by omega) (by omega)) ?_
        have e : isC n m u = (itp m u 1 n.toNat == 1) := by
          unfold isC
          simp [show 1 ≤ n by omega, show n ≤ 60 by omega, show 2 ≤ m by omega, show m ≤ 200 by omega, show 1 ≤ u by omega, h6, h7]
        rw [e]
        exact Ev.now _
      · refine Ev.bind (Ev.bind (igcd (by omega) (by omega)) (Ev.now _)) ?_
        have e : (gcdI m u == 1) = false := by simpa using h7
        simp only [e, Bool.false_eq_true, if_false]
        rw [no (fun h hx => absurd (isC_of h).2.2.2.2.2.2.1 hx) h7]; exact Ev.now _
    · simp only [if_neg h6, Option.bind_some, Bool.false_eq_true, if_false]
      rw [no (fun h => by have := isC_of h; omega) h6]; exact Ev.now _
  · simp only [if_neg h5, Option.bind_some, Bool.false_eq_true, if_false]
    rw [no (fun h => by have := isC_of h; omega) h5]; exact Ev.now _
theorem wfm {m : Int} (h : (Lit.int .i64 m).wf = true) : -9223372036854775808 ≤ m ∧ m ≤ 9223372036854775807 := by
  have hmin : IntKind.i64.min = -9223372036854775808 := rfl
  have hmax : IntKind.i64.max = 9223372036854775807 := rfl
  simp only [Lit.wf, Bool.and_eq_true, decide_eq_true_eq] at h
  omega

theorem snorm_l0 {m u : Int} (hm : 1 < m) (hm' : m ≤ 200) (hu : 0 ≤ u) (hu' : u < m) : ∀ (d i : Nat) (n : Int), n ≤ 1000 → n - i = d → Ev (fun k => spec_l09Norm.l0 k n m u (sump m u i) i) (sump m u n.toNat % m) := by
  intro d
  induction d with
  | zero =>
    intro i n hn hd
    have hs := sump_range (u := u) hm i
    refine Ev.step (f := fun _ => some (sump m u i % m)) (fun k => by simp only [spec_l09Norm.l0]; rw [if_neg (by omega), if_neg (by omega), tmod_nn _ hs.1]) ?_
    rw [show n.toNat = i by omega]
    exact Ev.now _
  | succ d ih =>
    intro i n hn hd
    have hs := sump_range (u := u) hm i
    have hp := itp_range (u := u) (show 0 < m by omega) i 1 (by omega) hm
    have hb := mul_bd (show 0 ≤ m by omega) (show 0 ≤ (i : Int) by omega) hm' (show (i : Int) ≤ 1000 by omega)
    refine Ev.step (f := fun k => (spec_l09Power.f k u i m).bind fun t => spec_l09Norm.l0 k n m u (wrap64 (sump m u i + t)) (wrap64 ((i : Int) + 1))) (fun k => by simp only [spec_l09Norm.l0]; rw [if_pos (by omega)]) ?_
    refine Ev.bind (spow hm hm' hu hu' i (by omega)) ?_
    rw [Int.toNat_natCast, w64 (by omega), w64 (by omega)]
    exact ih (i + 1) n hn (by omega)
theorem snorm {m u : Int} (hm : 1 < m) (hm' : m ≤ 200) (hu : 0 ≤ u) (hu' : u < m) (n : Int) (hn0 : 0 ≤ n) (hn : n ≤ 1000) : Ev (fun k => spec_l09Norm.f k n m u) (sump m u n.toNat % m) := by
  unfold spec_l09Norm.f
  exact snorm_l0 hm hm' hu hu' n.toNat 0 n hn (by omega)
theorem iladder_l0 {m u : Int} (hm : 1 < m) (hm' : m ≤ 200) (hu : 0 ≤ u) (hu' : u < m) : ∀ (d i : Nat) (n : Int), n ≤ 1000 → n - i = d → Ev (fun k => impl_ladder.l0 k m u (sump m u i) (itp m u 1 i) n i) (sump m u n.toNat % m) := by
  intro d
  induction d with
  | zero =>
    intro i n hn hd
    have hs := sump_range (u := u) hm i
    refine Ev.step (f := fun _ => some (sump m u i % m)) (fun k => by simp only [impl_ladder.l0]; rw [if_neg (by omega), if_neg (by omega), tmod_nn _ hs.1]) ?_
    rw [show n.toNat = i by omega]
    exact Ev.now _
  | succ d ih =>
    intro i n hn hd
    have hs := sump_range (u := u) hm i
    have hp := itp_range (u := u) (show 0 < m by omega) i 1 (by omega) hm
    have hb := mul_bd (show 0 ≤ m by omega) (show 0 ≤ (i : Int) by omega) hm' (show (i : Int) ≤ 1000 by omega)
    have hb2 := mul_bd hp.1 hu (Int.le_of_lt hp.2) (Int.le_of_lt hu')
    have hc := mul_bd (show 0 ≤ m by omega) (show 0 ≤ m by omega) hm' hm'
    refine Ev.step (f := fun k => impl_ladder.l0 k m u (sump m u (i + 1)) (itp m u 1 (i + 1)) n ((i + 1 : Nat) : Int)) (fun k => ?_) (ih (i + 1) n hn (by omega))
    simp only [impl_ladder.l0]
    rw [if_pos (by omega), if_neg (by omega), w64 (n := sump m u i + itp m u 1 i) (by omega), w64 (n := itp m u 1 i * u) (by omega), tmod_nn _ hb2.1, w64 (n := (i : Int) + 1) (by omega), itp_snoc]
    rfl
theorem iladder {m u : Int} (hm : 1 < m) (hm' : m ≤ 200) (hu : 0 ≤ u) (hu' : u < m) (n : Int) (hn0 : 0 ≤ n) (hn : n ≤ 1000) : Ev (fun k => impl_ladder.f k m u n) (sump m u n.toNat % m) := by
  unfold impl_ladder.f
  exact iladder_l0 hm hm' hu hu' n.toNat 0 n hn (by omega)

theorem two_mod (d : Int) : (d % 2 = 0 ↔ Int.tmod d 2 = 0) := by
  constructor
  · intro h
    exact Int.tmod_eq_zero_of_dvd (Int.dvd_of_emod_eq_zero h)
  · intro h
    exact Int.emod_eq_zero_of_dvd (Int.dvd_of_tmod_eq_zero h)
def tmaps (n m u d : Int) : Int × Int := if d % 2 = 0 then (u - 1, sump m u n.toNat % m) else (sump m u n.toNat % m, u - 1)
theorem tmaps_range {n m u d : Int} (hc : isC n m u = true) : 0 ≤ (tmaps n m u d).1 ∧ (tmaps n m u d).1 < m ∧ 0 ≤ (tmaps n m u d).2 ∧ (tmaps n m u d).2 < m := by
  obtain ⟨hn1, hn2, hm1, hm2, hu1, hu2, _, _⟩ := isC_of hc
  have h0 := Int.emod_nonneg (sump m u n.toNat) (show m ≠ 0 by omega)
  have h1 := Int.emod_lt_of_pos (sump m u n.toNat) (show 0 < m by omega)
  unfold tmaps
  split
  · exact ⟨by show 0 ≤ u - 1; omega, by show u - 1 < m; omega, h0, h1⟩
  · exact ⟨h0, h1, by show 0 ≤ u - 1; omega, by show u - 1 < m; omega⟩
theorem smaps {n m u : Int} (d : Int) (hc : isC n m u = true) : Ev (fun k => spec_l09Maps.f k n m u d) (tmaps n m u d) := by
  obtain ⟨hn1, hn2, hm1, hm2, hu1, hu2, _, _⟩ := isC_of hc
  unfold spec_l09Maps.f
  refine Ev.bind (snorm (by omega) (by omega) (by omega) (by omega) n (by omega) (by omega)) ?_
  rw [w64 (by omega), sMod (by omega) (by omega), sMod (by omega) (by omega), Int.emod_eq_of_lt (show 0 ≤ u - 1 by omega) (by omega)]
  simp only [Option.bind_some]
  unfold tmaps
  by_cases h : d % 2 = 0
  · simp only [if_pos h]; exact Ev.now _
  · simp only [if_neg h]; exact Ev.now _
theorem itate {n m u : Int} (d : Int) (hc : isC n m u = true) : Ev (fun k => impl_tate.f k n m u d) (tmaps n m u d) := by
  obtain ⟨hn1, hn2, hm1, hm2, hu1, hu2, _, _⟩ := isC_of hc
  unfold impl_tate.f
  refine Ev.bind (iladder (by omega) (by omega) (by omega) (by omega) n (by omega) (by omega)) ?_
  rw [w64 (by omega)]
  unfold tmaps
  by_cases h : d % 2 = 0
  · simp only [if_pos h, if_pos ((two_mod d).1 h)]; exact Ev.now _
  · simp only [if_neg h, if_neg (fun hx => h ((two_mod d).2 hx))]; exact Ev.now _
def tcode (n m u d : Int) : Int := if isC n m u = true then (if -1000 ≤ d ∧ d ≤ 1000 then 0 else 2) else 2
theorem scode (n m u d : Int) (hm : -9223372036854775808 ≤ m ∧ m ≤ 9223372036854775807) : Ev (fun k => spec_l09Code.f k n m u d) (tcode n m u d) := by
  unfold spec_l09Code.f tcode
  refine Ev.bind (sIsCircle n m u hm) ?_
  by_cases h : isC n m u = true
  · simp only [if_pos h, sIn, Option.bind_some, Bool.and_eq_true, decide_eq_true_eq]
    by_cases h2 : -1000 ≤ d ∧ d ≤ 1000
    · simp only [if_pos h2]; exact Ev.now _
    · simp only [if_neg h2]; exact Ev.now _
  · simp only [if_neg h]; exact Ev.now _
theorem tcode_zero {n m u d : Int} (h : tcode n m u d = 0) : isC n m u = true ∧ -1000 ≤ d ∧ d ≤ 1000 := by
  unfold tcode at h
  by_cases h1 : isC n m u = true
  · by_cases h2 : -1000 ≤ d ∧ d ≤ 1000
    · exact ⟨h1, h2⟩
    · rw [if_pos h1, if_neg h2] at h; omega
  · rw [if_neg h1] at h; omega
theorem tcode_two {n m u d : Int} (h : ¬ tcode n m u d = 0) : tcode n m u d = 2 := by
  unfold tcode at h ⊢
  by_cases h1 : isC n m u = true
  · by_cases h2 : -1000 ≤ d ∧ d ≤ 1000
    · rw [if_pos h1, if_pos h2] at h; omega
    · rw [if_pos h1, if_neg h2]
  · rw [if_neg h1]

theorem icode (n m u d : Int) : Ev (fun k => impl_tateCode.f k n m u d) (tcode n m u d) := by
  unfold impl_tateCode.f tcode
  refine Ev.bind (iIsCircle n m u) ?_
  by_cases h : isC n m u = true
  · simp only [if_pos h]
    by_cases h1 : d < -1000
    · simp only [if_pos h1, if_neg (show ¬ (-1000 ≤ d ∧ d ≤ 1000) by omega)]; exact Ev.now _
    by_cases h2 : d > 1000
    · simp only [if_neg h1, if_pos h2, if_neg (show ¬ (-1000 ≤ d ∧ d ≤ 1000) by omega)]; exact Ev.now _
    simp only [if_neg h1, if_neg h2, if_pos (show (-1000 ≤ d ∧ d ≤ 1000) by omega)]; exact Ev.now _
  · simp only [if_neg h]; exact Ev.now _

theorem areIn1 (m x : Int) : Ev (fun k => impl_areIn.f k m [x]) (decide (0 ≤ x) && decide (x < m)) := by
  unfold impl_areIn.f
  by_cases h0 : x < 0
  · refine Ev.step (f := fun _ => some false) (fun k => by simp only [impl_areIn.l0]; rw [if_pos (by simp), if_pos (by omega), if_pos (by simp), if_pos (by simpa [rd] using h0)]) ?_
    rw [show (decide (0 ≤ x) && decide (x < m)) = false by simp; omega]
    exact Ev.now _
  by_cases h1 : x ≥ m
  · refine Ev.step (f := fun _ => some false) (fun k => by simp only [impl_areIn.l0]; rw [if_pos (by simp), if_pos (by omega), if_pos (by simp), if_neg (by simpa [rd] using h0), if_pos (by simpa [rd] using h1)]) ?_
    rw [show (decide (0 ≤ x) && decide (x < m)) = false by simp; omega]
    exact Ev.now _
  refine Ev.step (f := fun k => impl_areIn.l0 k m [x] (([x] : List Int).length : Int) 1) (fun k => by simp only [impl_areIn.l0]; rw [if_pos (by simp), if_pos (by omega), if_pos (by simp), if_neg (by simpa [rd] using h0), if_neg (by simpa [rd] using h1), w64 (by omega)]; rfl) ?_
  refine Ev.step (f := fun _ => some true) (fun k => by simp only [impl_areIn.l0]; rw [if_neg (by simp)]) ?_
  rw [show (decide (0 ≤ x) && decide (x < m)) = true by simp; omega]
  exact Ev.now _
theorem wfi {m : Int} (h : (Lit.int .i64 m).wf = true) : -9223372036854775808 ≤ m ∧ m ≤ 9223372036854775807 := wfm h
theorem FnExactTateClass : laws_FnExactTateClass.Pure := by
  intro n m u d x _ hm _ _ hx
  refine Ev.rounds (g := fun k => laws_FnExactTateClass.f k n m u d x) ?_
  have key : ∃ r, Ev (fun k => spec_TateClass.f k n m u d x) r ∧ Ev (fun k => impl_TateClass.f k n m u d x) r := by
    unfold spec_TateClass.f impl_TateClass.f
    by_cases h : tcode n m u d = 0
    · obtain ⟨hc, _⟩ := tcode_zero h
      have hr := tmaps_range (d := d) hc
      obtain ⟨hn1, hn2, hm1, hm2, hu1, hu2, _, _⟩ := isC_of hc
      have hX : (decide (0 ≤ x) && decide (x ≤ m - 1)) = (decide (0 ≤ x) && decide (x < m)) := by
        rw [show decide (x ≤ m - 1) = decide (x < m) from decide_eq_decide.2 (by omega)]
      by_cases h1 : 0 ≤ x ∧ x < m
      · have e : (decide (0 ≤ x) && decide (x < m)) = true := by simp [h1]
        have hb := mul_bd hr.1 h1.1 (Int.le_of_lt hr.2.1) (Int.le_of_lt h1.2)
        have hcc := mul_bd (show 0 ≤ m by omega) (show 0 ≤ m by omega) hm2 hm2
        have hg := gcdI_pos (tmaps n m u d).2 (show 0 < m by omega)
        refine ⟨if (tmaps n m u d).1 * x % m = 0 then (x % gcdI m (tmaps n m u d).2, 0) else (0, 5), Ev.bind (scode n m u d (wfm hm)) ?_, Ev.bind (icode n m u d) ?_⟩
        · simp only [if_pos h]
          rw [sIn, w64 (by omega), hX, e]
          simp only [Option.bind_some, Bool.not_true]
          refine Ev.step (f := fun k => spec_TateClass.j1 k n m u d x (tcode n m u d)) (fun k => by simp only [spec_TateClass.j0]; rw [if_neg (by simp)]) ?_
          refine Ev.step (f := fun k => ((spec_l09Maps.f k n m u d).bind fun b => (if m = 0 then (none) else (if (Int.tmod (wrap64 (b.1 * x)) m) = 0 then ((spec_l01Gcd.f k b.2 m).bind fun t => (if t = 0 then (none) else (some (Int.tmod x t, 0)))) else (some (0, 5)))))) (fun k => by simp only [spec_TateClass.j1]; rw [if_pos h]) ?_
          refine Ev.bind (smaps d hc) ?_
          simp only [if_neg (show ¬ m = 0 by omega)]
          rw [w64 (by omega), tmod_nn _ hb.1]
          by_cases h2 : (tmaps n m u d).1 * x % m = 0
          · simp only [if_pos h2]
            refine Ev.bind (sgcd hr.2.2.1 (by omega) (by omega) (by omega)) ?_
            rw [gcdI_comm]
            simp only [if_neg (show ¬ gcdI m (tmaps n m u d).2 = 0 by omega)]
            rw [tmod_nn _ h1.1]
            exact Ev.now _
          · simp only [if_neg h2]; exact Ev.now _
        · simp only [if_pos h]
          refine Ev.bind (areIn1 m x) ?_
          rw [e]
          simp only [Bool.not_true]
          refine Ev.step (f := fun k => ((impl_tate.f k n m u d).bind fun b => (if m = 0 then (none) else (if (Int.tmod (wrap64 (b.1 * x)) m) = 0 then ((impl_gcd.f k m b.2).bind fun t => (if t = 0 then (none) else (some (Int.tmod x t, 0)))) else (some (0, 5)))))) (fun k => by simp only [impl_TateClass.j0]; rw [if_neg (by simp)]) ?_
          refine Ev.bind (itate d hc) ?_
          simp only [if_neg (show ¬ m = 0 by omega)]
          rw [w64 (by omega), tmod_nn _ hb.1]
          by_cases h2 : (tmaps n m u d).1 * x % m = 0
          · simp only [if_pos h2]
            refine Ev.bind (igcd (by omega) hr.2.2.1) ?_
            simp only [if_neg (show ¬ gcdI m (tmaps n m u d).2 = 0 by omega)]
            rw [tmod_nn _ h1.1]
            exact Ev.now _
          · simp only [if_neg h2]; exact Ev.now _
      · have e : (decide (0 ≤ x) && decide (x < m)) = false := by simp; omega
        refine ⟨(0, 2), Ev.bind (scode n m u d (wfm hm)) ?_, Ev.bind (icode n m u d) ?_⟩
        · simp only [if_pos h]
          rw [sIn, w64 (by omega), hX, e]
          simp only [Option.bind_some, Bool.not_false]
          refine Ev.step (f := fun k => spec_TateClass.j1 k n m u d x 2) (fun k => by simp only [spec_TateClass.j0, if_true]) ?_
          exact Ev.step (f := fun _ => some (0, 2)) (fun k => by simp only [spec_TateClass.j1]; rw [if_neg (by omega)]) (Ev.now _)
        · simp only [if_pos h]
          refine Ev.bind (areIn1 m x) ?_
          rw [e]
          exact Ev.step (f := fun _ => some (0, 2)) (fun k => by simp only [impl_TateClass.j0, Bool.not_false, if_true]) (Ev.now _)
    · refine ⟨(0, 2), Ev.bind (scode n m u d (wfm hm)) ?_, Ev.bind (icode n m u d) ?_⟩
      · simp only [if_neg h]
        rw [tcode_two h]
        refine Ev.step (f := fun k => spec_TateClass.j1 k n m u d x 2) (fun k => by simp only [spec_TateClass.j0]; rw [if_neg (by simp)]) ?_
        exact Ev.step (f := fun _ => some (0, 2)) (fun k => by simp only [spec_TateClass.j1]; rw [if_neg (by omega)]) (Ev.now _)
      · simp only [if_neg h]
        exact Ev.step (f := fun _ => some (0, 2)) (fun k => by simp only [impl_TateClass.j0, if_true]) (Ev.now _)
  obtain ⟨r, hs, hi⟩ := key
  unfold laws_FnExactTateClass.f
  refine Ev.bind hs (Ev.bind hi ?_)
  simp only [if_true]
  exact Ev.now _

end Go.Proofs.Ytkpnhkccdjphgaa.Pure
