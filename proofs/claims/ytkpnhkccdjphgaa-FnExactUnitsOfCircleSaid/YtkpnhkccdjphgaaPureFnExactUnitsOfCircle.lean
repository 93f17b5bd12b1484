/- The program's UnitsOfCircle returns what the reference's returns, for all arguments. -/
import Derived.Test.YtkpnhkccdjphgaaPFnExactUnitsOfCirclex3
import Derived.Test.YtkpnhkccdjphgaaXPure
namespace Go.Proofs.Ytkpnhkccdjphgaa.Pure
open Go.RowKit Go.Proofs.Ytkpnhkccdjphgaa.PFnExactUnitsOfCircle Go.Proofs.YtkpnhkccdjphgaaW.PrintWords Go.Proofs.YtkpnhkccdjphgaaW.PrintLast Go.Proofs.YtkpnhkccdjphgaaW.PrintMore Go.Proofs.Ytkpnhkccdjphgaa.XPure

-- plain mathematics of circles (own text; no program in sight)
def itp (m u : Int) : Int → Nat → Int
  | acc, 0 => acc
  | acc, n + 1 => itp m u (acc * u % m) n
theorem itp_range {m u : Int} (hm : 0 < m) : ∀ (n : Nat) (acc : Int), 0 ≤ acc → acc < m → 0 ≤ itp m u acc n ∧ itp m u acc n < m
  | 0, _, h0, h1 => ⟨h0, h1⟩
  | n + 1, acc, _, _ => itp_range hm n _ (Int.emod_nonneg _ (by omega)) (Int.emod_lt_of_pos _ hm)
theorem itp_snoc (m u : Int) : ∀ (n : Nat) (acc : Int), itp m u acc (n + 1) = itp m u acc n * u % m
  | 0, _ => rfl
  | n + 1, acc => itp_snoc m u n (acc * u % m)
def sump (m u : Int) : Nat → Int
  | 0 => 0
  | n + 1 => sump m u n + itp m u 1 n
theorem sump_range {m u : Int} (hm : 1 < m) : ∀ (n : Nat), 0 ≤ sump m u n ∧ sump m u n ≤ m * n
  | 0 => ⟨Int.le_refl _, by simp [sump]⟩
  | n + 1 => by
    have h := sump_range (u := u) hm n
    have g := itp_range (u := u) (show 0 < m by omega) n 1 (by omega) hm
    have e : m * ((n + 1 : Nat) : Int) = m * n + m := by rw [Int.natCast_succ, Int.mul_add, Int.mul_one]
    unfold sump
    omega
def gcdI (a b : Int) : Int := ((Nat.gcd a.toNat b.toNat : Nat) : Int)
theorem gcdI_zero {a : Int} (h : 0 ≤ a) : gcdI a 0 = a := by unfold gcdI; simp; omega
theorem gcdI_comm (a b : Int) : gcdI a b = gcdI b a := by unfold gcdI; rw [Nat.gcd_comm]
theorem gcdI_nonneg (a b : Int) : 0 ≤ gcdI a b := by unfold gcdI; omega
theorem gcdI_le_left {a : Int} (b : Int) (h : 0 < a) : gcdI a b ≤ a := by
  unfold gcdI
  have := Nat.gcd_le_left (m := a.toNat) b.toNat (by omega)
  omega
theorem gcdI_pos {a : Int} (b : Int) (h : 0 < a) : 0 < gcdI a b := by
  unfold gcdI
  have := Nat.gcd_pos_of_pos_left (m := a.toNat) b.toNat (by omega)
  omega
theorem gcdI_step {a b : Int} (ha : 0 ≤ a) (hb : 0 < b) : gcdI b (a % b) = gcdI a b := by
  obtain ⟨a, rfl⟩ := Int.eq_ofNat_of_zero_le ha
  obtain ⟨b, rfl⟩ := Int.eq_ofNat_of_zero_le (Int.le_of_lt hb)
  unfold gcdI
  rw [← Int.natCast_emod, Int.toNat_natCast, Int.toNat_natCast, Int.toNat_natCast]
  rw [Nat.gcd_comm b, ← Nat.gcd_rec, Nat.gcd_comm]
def isC (n m u : Int) : Bool := decide (1 ≤ n) && (decide (n ≤ 60) && (decide (2 ≤ m) && (decide (m ≤ 200) && (decide (1 ≤ u) && (decide (u < m) && ((gcdI m u == 1) && (itp m u 1 n.toNat == 1)))))))
theorem isC_of {n m u : Int} (h : isC n m u = true) : 1 ≤ n ∧ n ≤ 60 ∧ 2 ≤ m ∧ m ≤ 200 ∧ 1 ≤ u ∧ u < m ∧ gcdI m u = 1 ∧ itp m u 1 n.toNat = 1 := by
  simpa [isC] using h

theorem igcd_ev : ∀ (n : Nat) (a b : Int), 0 ≤ a → 0 ≤ b → b.toNat ≤ n → Ev (fun k => impl_gcd.l0 k a b) (gcdI a b) := by
  intro n
  induction n with
  | zero =>
    intro a b ha hb hn
    obtain rfl : b = 0 := by omega
    exact Ev.step (f := fun _ => some a) (fun k => by simp only [impl_gcd.l0, if_true]) (by rw [gcdI_zero ha]; exact Ev.now _)
  | succ n ih =>
    intro a b ha hb hn
    by_cases h : b = 0
    · subst h
      exact Ev.step (f := fun _ => some a) (fun k => by simp only [impl_gcd.l0, if_true]) (by rw [gcdI_zero ha]; exact Ev.now _)
    · have hm := Int.emod_lt_of_pos a (show 0 < b by omega)
      have hm0 := Int.emod_nonneg a h
      refine Ev.step (f := fun k => impl_gcd.l0 k b (a % b)) (fun k => by simp only [impl_gcd.l0]; rw [if_neg h, tmod_nn b ha]) ?_
      rw [← gcdI_step ha (by omega)]
      exact ih b (a % b) hb hm0 (by omega)
theorem igcd {a b : Int} (ha : 0 ≤ a) (hb : 0 ≤ b) : Ev (fun k => impl_gcd.f k a b) (gcdI a b) := igcd_ev b.toNat a b ha hb (Nat.le_refl _)
theorem sgcd_ev : ∀ (n : Nat) (a b : Int), 0 ≤ a → a ≤ 9223372036854775807 → 0 ≤ b → b ≤ 9223372036854775807 → b.toNat ≤ n → Ev (fun k => spec_l01Gcd.l0 k a b) (gcdI a b) := by
  intro n
  have base : ∀ a : Int, 0 ≤ a → a ≤ 9223372036854775807 → mx a (wrap64 (-a)) = a := by
    intro a h h'
    rw [w64 (by omega)]
    unfold mx
    split <;> omega
  induction n with
  | zero =>
    intro a b ha ha' hb _ hn
    obtain rfl : b = 0 := by omega
    exact Ev.step (f := fun _ => some a) (fun k => by simp only [spec_l01Gcd.l0, if_true]; rw [base a ha ha']) (by rw [gcdI_zero ha]; exact Ev.now _)
  | succ n ih =>
    intro a b ha ha' hb hb' hn
    by_cases h : b = 0
    · subst h
      exact Ev.step (f := fun _ => some a) (fun k => by simp only [spec_l01Gcd.l0, if_true]; rw [base a ha ha']) (by rw [gcdI_zero ha]; exact Ev.now _)
    · have hm := Int.emod_lt_of_pos a (show 0 < b by omega)
      have hm0 := Int.emod_nonneg a h
      refine Ev.step (f := fun k => spec_l01Gcd.l0 k b (a % b)) (fun k => by simp only [spec_l01Gcd.l0]; rw [if_neg h, tmod_nn b ha]) ?_
      rw [← gcdI_step ha (by omega)]
      exact ih b (a % b) hb hb' hm0 (by omega) (by omega)
theorem sgcd {a b : Int} (ha : 0 ≤ a) (ha' : a ≤ 9223372036854775807) (hb : 0 ≤ b) (hb' : b ≤ 9223372036854775807) : Ev (fun k => spec_l01Gcd.f k a b) (gcdI a b) := sgcd_ev b.toNat a b ha ha' hb hb' (Nat.le_refl _)
theorem sIn (a b c : Int) : spec_l01In.f a b c = some (decide (b ≤ a) && decide (a ≤ c)) := by
  unfold spec_l01In.f
  by_cases h : a ≥ b
  · rw [if_pos h]; simp [show b ≤ a from h]
  · rw [if_neg h]; simp [show ¬ b ≤ a from h]
theorem sMod {a m : Int} (hm : 0 < m) (hm' : m ≤ 1000000) : spec_l01Mod.f a m = some (a % m) := by
  unfold spec_l01Mod.f
  rw [if_neg (by omega)]
  have h0 := Int.emod_nonneg a (show m ≠ 0 by omega)
  have h1 := Int.emod_lt_of_pos a hm
  have e := Int.mul_tdiv_add_tmod a m
  have t1 := Int.tmod_lt_of_pos a hm
  have t0 : -m < Int.tmod a m := by
    have hx := Int.tmod_lt_of_pos (-a) hm
    rw [Int.neg_tmod] at hx
    omega
  rw [w64 (by omega), tmod_nn _ (by omega), Int.add_emod_right]
  rw [show Int.tmod a m = a - m * Int.tdiv a m by omega, Int.sub_mul_emod_self_left]
theorem spow_l0 {m u : Int} (hm : 1 < m) (hm' : m ≤ 200) (hu : 0 ≤ u) (hu' : u < m) : ∀ (n : Nat) (acc : Int), n ≤ 1000 → 0 ≤ acc → acc < m → Ev (fun k => spec_l09Power.l0 k u n m acc) (itp m u acc n) := by
  intro n
  induction n with
  | zero =>
    intro acc _ h0 h1
    exact Ev.step (f := fun _ => some acc) (fun k => by simp only [spec_l09Power.l0]; rw [if_neg (by omega)]) (Ev.now _)
  | succ n ih =>
    intro acc hn h0 h1
    have hb := mul_bd h0 hu (Int.le_of_lt h1) (Int.le_of_lt hu')
    have hc := mul_bd (show 0 ≤ m by omega) (show 0 ≤ m by omega) hm' hm'
    refine Ev.step (f := fun k => spec_l09Power.l0 k u n m (acc * u % m)) (fun k => ?_) ?_
    · simp only [spec_l09Power.l0]
      rw [if_pos (by omega), if_neg (by omega), w64 (n := ((n + 1 : Nat) : Int) - 1) (by omega), w64 (n := acc * u) (by omega), tmod_nn _ hb.1]
      rw [show ((n + 1 : Nat) : Int) - 1 = n by omega]
    · exact ih _ (by omega) (Int.emod_nonneg _ (by omega)) (Int.emod_lt_of_pos _ (by omega))
theorem spow {m u : Int} (hm : 1 < m) (hm' : m ≤ 200) (hu : 0 ≤ u) (hu' : u < m) (n : Int) (hn : n ≤ 1000) : Ev (fun k => spec_l09Power.f k u n m) (itp m u 1 n.toNat) := by
  have e : ∀ k, spec_l09Power.f k u n m = spec_l09Power.l0 k u n m 1 := by
    intro k
    unfold spec_l09Power.f
    rw [sMod (by omega) (by omega), Int.emod_eq_of_lt (by omega) hm]
    rfl
  refine Ev.congr e ?_
  by_cases h : 0 ≤ n
  · obtain ⟨n, rfl⟩ := Int.eq_ofNat_of_zero_le h
    rw [Int.toNat_natCast]
    exact spow_l0 hm hm' hu hu' n 1 (by omega) (by omega) hm
  · rw [show n.toNat = 0 by omega]
    exact Ev.step (f := fun _ => some 1) (fun k => by simp only [spec_l09Power.l0]; rw [if_neg (by omega)]) (Ev.now _)
theorem sIsCircle (n m u : Int) (hn : -9223372036854775808 ≤ m ∧ m ≤ 9223372036854775807) : Ev (fun k => spec_IsCircle.f k n m u) (isC n m u) := by
  unfold spec_IsCircle.f
  simp only [sIn, Option.bind_some]
  by_cases h1 : (decide (1 ≤ n) && decide (n ≤ 60)) = true
  · simp only [if_pos h1]
    by_cases h2 : (decide (2 ≤ m) && decide (m ≤ 200)) = true
    · simp only [if_pos h2]
      simp only [Bool.and_eq_true, decide_eq_true_eq] at h1 h2
      rw [w64 (by omega)]
      by_cases h3 : (decide (1 ≤ u) && decide (u ≤ m - 1)) = true
      · simp only [if_pos h3]
        simp only [Bool.and_eq_true, decide_eq_true_eq] at h3
        refine Ev.bind (sgcd (by omega) (by omega) (by omega) (by omega)) ?_
        rw [gcdI_comm]
        by_cases h4 : gcdI m u = 1
        · simp only [if_pos h4]
          refine Ev.bind (spow (by omega) (by omega) (by omega) (by omega) n (by omega)) ?_
          have e : isC n m u = (itp m u 1 n.toNat == 1) := by
            unfold isC
            simp [h1.1, h1.2, h2.1, h2.2, h3.1, show u < m by omega, h4]
          rw [e]
          exact Ev.now _
        · simp only [if_neg h4]
          have e : isC n m u = false := by unfold isC; simp [h4]
          rw [e]; exact Ev.now _
      · simp only [if_neg h3]
        have e : isC n m u = false := by
          cases hc : isC n m u with
          | false => rfl
          | true => have := isC_of hc; exact absurd (by simp only [Bool.and_eq_true, decide_eq_true_eq]; omega) h3
        rw [e]; exact Ev.now _
    · simp only [if_neg h2]
      have e : isC n m u = false := by
        cases hc : isC n m u with
        | false => rfl
        | true => have := isC_of hc; exact absurd (by simp only [Bool.and_eq_true, decide_eq_true_eq]; omega) h2
      rw [e]; exact Ev.now _
  · simp only [if_neg h1]
    have e : isC n m u = false := by
      cases hc : isC n m u with
      | false => rfl
      | true => have := isC_of hc; exact absurd (by simp only [Bool.and_eq_true, decide_eq_true_eq]; omega) h1
    rw [e]; exact Ev.now _
theorem iturns_l0 {m u : Int} (hm : 1 < m) (hm' : m ≤ 200) (hu : 0 ≤ u) (hu' : u < m) : ∀ (d : Nat) (acc i n : Int), n ≤ 1000 → 0 ≤ i → n - i = d → 0 ≤ acc → acc < m → Ev (fun k => impl_turns.l0 k m u acc n i) (itp m u acc d) := by
  intro d
  induction d with
  | zero =>
    intro acc i n _ _ hd h0 h1
    exact Ev.step (f := fun _ => some acc) (fun k => by simp only [impl_turns.l0]; rw [if_neg (by omega)]) (Ev.now _)
  | succ d ih =>
    intro acc i n hn hi hd h0 h1
    have hb := mul_bd h0 hu (Int.le_of_lt h1) (Int.le_of_lt hu')
    have hc := mul_bd (show 0 ≤ m by omega) (show 0 ≤ m by omega) hm' hm'
    refine Ev.step (f := fun k => impl_turns.l0 k m u (acc * u % m) n (i + 1)) (fun k => ?_) ?_
    · simp only [impl_turns.l0]
      rw [if_pos (by omega), if_neg (by omega), w64 (n := i + 1) (by omega), w64 (n := acc * u) (by omega), tmod_nn _ hb.1]
    · exact ih _ _ _ hn (by omega) (by omega) (Int.emod_nonneg _ (by omega)) (Int.emod_lt_of_pos _ (by omega))
theorem iturns {m u : Int} (hm : 1 < m) (hm' : m ≤ 200) (hu : 0 ≤ u) (hu' : u < m) (n : Int) (hn0 : 0 ≤ n) (hn : n ≤ 1000) : Ev (fun k => impl_turns.f k m u n) (itp m u 1 n.toNat) := by
  unfold impl_turns.f
  exact iturns_l0 hm hm' hu hu' n.toNat 1 0 n hn (by omega) (by omega) (by omega) hm
theorem iIsCircle (n m u : Int) : Ev (fun k => impl_IsCircle.f k n m u) (isC n m u) := by
  unfold impl_IsCircle.f impl_isUnit.f
  have no : ∀ {p : Prop}, (isC n m u = true → ¬ p) → p → isC n m u = false := fun h hp => by
    cases hc : isC n m u with
    | false => rfl
    | true => exact absurd hp (h hc)
  by_cases h1 : n < 1
  · simp only [if_pos h1]
    rw [no (fun h => by have := isC_of h; omega) h1]; exact Ev.now _
  by_cases h2 : n > 60
  · simp only [if_neg h1, if_pos h2]
    rw [no (fun h => by have := isC_of h; omega) h2]; exact Ev.now _
  by_cases h3 : m < 2
  · simp only [if_neg h1, if_neg h2, if_pos h3]
    rw [no (fun h => by have := isC_of h; omega) h3]; exact Ev.now _
  by_cases h4 : m > 200
  · simp only [if_neg h1, if_neg h2, if_neg h3, if_pos h4]
    rw [no (fun h => by have := isC_of h; omega) h4]; exact Ev.now _
  simp only [if_neg h1, if_neg h2, if_neg h3, if_neg h4]
  by_cases h5 : u ≥ 1
  · simp only [if_pos h5]
    by_cases h6 : u < m
    · simp only [if_pos h6]
      by_cases h7 : gcdI m u = 1
      · refine Ev.bind (Ev.bind (igcd (by omega) (by omega)) (Ev.now _)) ?_
        rw [h7]
        simp only [beq_self_eq_true, if_true]
        refine Ev.bind (iturns (by omega) (by omega) (by omega) (by omega) n (by omega) (by omega)) ?_
        have e : isC n m u = (itp m u 1 n.toNat == 1) := by
          unfold isC
          simp [show 1 ≤ n by omega, show n ≤ 60 by omega, show 2 ≤ m by omega, show m ≤ 200 by omega, show 1 ≤ u by omega, h6, h7]
        rw [e]
        exact Ev.now _
      · refine Ev.bind (Ev.bind (igcd (by omega) (by omega)) (Ev.now _)) ?_
        have e : (gcdI m u == 1) = false := by simpa using h7
        simp only [e, Bool.false_eq_true, if_false]
        rw [no (fun h hx => absurd (isC_of h).2.2.2.2.2.2.1 hx) h7]; exact Ev.now _
    · simp only [if_neg h6, Option.bind_some, Bool.false_eq_true, if_false]
      rw [no (fun h => by have := isC_of h; omega) h6]; exact Ev.now _
  · simp only [if_neg h5, Option.bind_some, Bool.false_eq_true, if_false]
    rw [no (fun h => by have := isC_of h; omega) h5]; exact Ev.now _

theorem eqI {l : List Int} (hl : l.length < 4611686018427387904) : Ev (fun k => laws_eqInt64S.f k l l) true := by
  unfold laws_eqInt64S.f
  simp only [if_true]
  refine Ev.congr (f := fun k => gEq k l l 0) (fun k => ?_) (gEq_refl l hl l.length 0 rfl)
  have e : ∀ k (a b : List Int) i, laws_eqInt64S.l0 k a b i = gEq k a b i := by
    intro k
    induction k with
    | zero => intros; rfl
    | succ k ih => intros; simp only [laws_eqInt64S.l0, gEq, ih]
  exact e k l l 0
theorem markI (l : List Int) {a : Int} (h0 : 0 ≤ a) (hl : a + l.length < 4611686018427387904) : Ev (fun k => laws_markInt64S.f k l a) (a + (l.length : Int), marks a l.length) := by
  unfold laws_markInt64S.f
  refine Ev.congr (f := fun k => gMark k l a 0) (fun k => ?_) (gMark_all l h0 hl)
  have e : ∀ k (a : List Int) b i, laws_markInt64S.l0 k a b i = gMark k a b i := by
    intro k
    induction k with
    | zero => intros; rfl
    | succ k ih => intros; simp only [laws_markInt64S.l0, gMark, ih]
  exact e k l a 0
theorem heldI {a : Int} (n : Nat) (h0 : 0 ≤ a) (hn : a + n < 4611686018427387904) : Ev (fun k => laws_heldInt64S.f k (marks a n) a) (a + n) := by
  unfold laws_heldInt64S.f
  refine Ev.congr (f := fun k => gHeld k (marks a n) a 0) (fun k => ?_) (gHeld_all n h0 hn)
  have e : ∀ k (a : List Int) b i, laws_heldInt64S.l0 k a b i = gHeld k a b i := by
    intro k
    induction k with
    | zero => intros; rfl
    | succ k ih => intros; simp only [laws_heldInt64S.l0, gHeld, ih]
  exact e k _ a 0

theorem count_ev (n : Int) (hn : n ≤ 1000000000) : Ev (fun k => impl_counting.f k n) (upto n.toNat) := by
  unfold impl_counting.f
  by_cases h : 0 ≤ n
  · refine Ev.congr (f := fun k => gCount k (upto 0) n ((0 : Nat) : Int)) (fun k => ?_) (gCount_ev n.toNat 0 n hn (by omega))
    have e : ∀ k (a : List Int) b i, impl_counting.l0 k a b i = gCount k a b i := by
      intro k
      induction k with
      | zero => intros; rfl
      | succ k ih => intros; simp only [impl_counting.l0, gCount, ih]
    exact e k _ n 0
  · rw [show n.toNat = 0 by omega]
    exact Ev.step (f := fun _ => some []) (fun k => by simp only [impl_counting.l0]; rw [if_neg (by omega)]) (Ev.now _)

def units (n m : Int) : List Int := (upto m.toNat).filter fun u => isC n m u
theorem units_length (n m : Int) : (units n m).length ≤ m.toNat := by
  unfold units
  have := List.length_filter_le (fun u => isC n m u) (upto m.toNat)
  rw [upto_length] at this
  exact this
theorem sunits_l0 {n m : Int} (hm : 2 ≤ m) (hm' : m ≤ 200) : ∀ (d i : Nat), m - i = d → Ev (fun k => spec_UnitsOfCircle.l0 k n m ((upto i).filter fun u => isC n m u) i) (units n m, 0) := by
  intro d
  induction d with
  | zero =>
    intro i hd
    refine Ev.step (f := fun _ => some ((upto i).filter fun u => isC n m u, 0)) (fun k => by simp only [spec_UnitsOfCircle.l0]; rw [if_neg (by omega)]) ?_
    unfold units
    rw [show m.toNat = i by omega]
    exact Ev.now _
  | succ d ih =>
    intro i hd
    have hl := List.length_filter_le (fun u => isC n m u) (upto i)
    rw [upto_length] at hl
    refine Ev.step (f := fun k => (spec_IsCircle.f k n m i).bind fun t => (if t = true then (if ((upto i).filter fun u => isC n m u).length < 17592186044416 then (spec_UnitsOfCircle.l0 k n m (((upto i).filter fun u => isC n m u) ++ [(i : Int)]) (wrap64 ((i : Int) + 1))) else (none)) else (spec_UnitsOfCircle.l0 k n m ((upto i).filter fun u => isC n m u) (wrap64 ((i : Int) + 1))))) (fun k => by simp only [spec_UnitsOfCircle.l0]; rw [if_pos (by omega)]) ?_
    refine Ev.bind (sIsCircle n m i (by omega)) ?_
    rw [XPure.w64 (n := (i : Int) + 1) (by omega)]
    have h := ih (i + 1) (by omega)
    rw [upto_succ, List.filter_append] at h
    cases hc : isC n m i with
    | true =>
      simp only [if_true, if_pos (show ((upto i).filter fun u => isC n m u).length < 17592186044416 by omega)]
      simpa [List.filter_cons, hc] using h
    | false =>
      simp only [Bool.false_eq_true, if_false]
      simpa [List.filter_cons, hc] using h
theorem sunits (n m : Int) : Ev (fun k => spec_UnitsOfCircle.f k n m) (if 1 ≤ n ∧ n ≤ 60 ∧ 2 ≤ m ∧ m ≤ 200 then (units n m, 0) else ([], 2)) := by
  unfold spec_UnitsOfCircle.f
  simp only [sIn, Option.bind_some]
  have bad : ¬ (1 ≤ n ∧ n ≤ 60 ∧ 2 ≤ m ∧ m ≤ 200) → Ev (fun k => spec_UnitsOfCircle.j0 k n m true) (if 1 ≤ n ∧ n ≤ 60 ∧ 2 ≤ m ∧ m ≤ 200 then (units n m, 0) else ([], 2)) := fun h => by
    rw [if_neg h]
    exact Ev.step (f := fun _ => some ([], 2)) (fun k => by simp only [spec_UnitsOfCircle.j0, if_true]) (Ev.now _)
  by_cases h1 : (decide (1 ≤ n) && decide (n ≤ 60)) = true
  · simp only [if_pos h1]
    simp only [Bool.and_eq_true, decide_eq_true_eq] at h1
    by_cases h2 : 2 ≤ m ∧ m ≤ 200
    · have e : (!(decide (2 ≤ m) && decide (m ≤ 200))) = false := by simp [h2.1, h2.2]
      rw [e, if_pos ⟨h1.1, h1.2, h2.1, h2.2⟩]
      refine Ev.step (f := fun k => spec_UnitsOfCircle.l0 k n m [] 1) (fun k => by simp only [spec_UnitsOfCircle.j0, Bool.false_eq_true, if_false]) ?_
      have h := sunits_l0 (n := n) h2.1 h2.2 (m - 1).toNat 1 (by omega)
      have e0 : (upto 1).filter (fun u => isC n m u) = [] := by
        have : isC n m 0 = false := by unfold isC; simp
        simp [upto, this]
      rw [e0] at h
      exact h
    · have e : (!(decide (2 ≤ m) && decide (m ≤ 200))) = true := by simp; omega
      rw [e]
      exact bad (fun h => h2 h.2.2)
  · simp only [if_neg h1]
    refine bad (fun h => h1 ?_)
    simp [h.1, h.2.1]
theorem iunits (n m : Int) : Ev (fun k => impl_UnitsOfCircle.f k n m) (if 1 ≤ n ∧ n ≤ 60 ∧ 2 ≤ m ∧ m ≤ 200 then (units n m, 0) else ([], 2)) := by
  unfold impl_UnitsOfCircle.f
  have bad : ¬ (1 ≤ n ∧ n ≤ 60 ∧ 2 ≤ m ∧ m ≤ 200) → Ev (fun k => impl_UnitsOfCircle.j0 k true n m) (if 1 ≤ n ∧ n ≤ 60 ∧ 2 ≤ m ∧ m ≤ 200 then (units n m, 0) else ([], 2)) := fun h => by
    rw [if_neg h]
    exact Ev.step (f := fun _ => some ([], 2)) (fun k => by simp only [impl_UnitsOfCircle.j0, if_true]) (Ev.now _)
  by_cases h1 : n < 1
  · simp only [if_pos h1]; exact bad (fun h => by omega)
  by_cases h2 : n > 60
  · simp only [if_neg h1, if_pos h2]; exact bad (fun h => by omega)
  by_cases h3 : m < 2
  · simp only [if_neg h1, if_neg h2, if_pos h3]; exact bad (fun h => by omega)
  simp only [if_neg h1, if_neg h2, if_neg h3]
  by_cases h4 : m > 200
  · rw [show decide (m > 200) = true by simpa using h4]; exact bad (fun h => by omega)
  rw [show decide (m > 200) = false by simpa using h4, if_pos (by omega)]
  refine Ev.step (fun k => by simp only [impl_UnitsOfCircle.j0, Bool.false_eq_true, if_false]; rfl) ?_
  refine Ev.bind (count_ev m (by omega)) ?_
  refine Ev.bind (a := units n m) ?_ (Ev.now _)
  have hp : ∀ x ∈ upto m.toNat, Ev (fun k => impl_UnitsOfCircle_1.f k x [n] [m]) (!isC n m x) := fun x _ => by
    unfold impl_UnitsOfCircle_1.f
    simp only [if_pos (show 0 < (([n] : List Int).length : Int) by simp), if_pos (show 0 < (([m] : List Int).length : Int) by simp)]
    exact Ev.bind (iIsCircle n m x) (Ev.now _)
  have h := gDelete (C := fun k x => impl_UnitsOfCircle_1.f k x [n] [m]) (p := fun x => !isC n m x) (l := upto m.toNat) (I := fun k => slices_IndexFunc_int64_int64_at71.f k (upto m.toNat) [n] [m]) (D := fun k a b c => slices_DeleteFunc_int64_int64_at71.l0 k a b c [n] [m]) (by rw [upto_length]; omega) (fun k => by
      unfold slices_IndexFunc_int64_int64_at71.f
      have e : ∀ k (a : List Int) b i, slices_IndexFunc_int64_int64_at71.l0 k a b i [n] [m] = gIdx (fun k x => impl_UnitsOfCircle_1.f k x [n] [m]) k a b i := by
        intro k
        induction k with
        | zero => intros; rfl
        | succ k ih => intros; simp only [slices_IndexFunc_int64_int64_at71.l0, gIdx, ih]
      exact e _ _ _ _) (fun k a b c => by
      have e : ∀ k (a : List Int) b i, slices_DeleteFunc_int64_int64_at71.l0 k a b i [n] [m] = gDel (fun k x => impl_UnitsOfCircle_1.f k x [n] [m]) k a b i := by
        intro k
        induction k with
        | zero => intros; rfl
        | succ k ih => intros; simp only [slices_DeleteFunc_int64_int64_at71.l0, gDel, ih]
      exact e _ _ _ _) hp
  simp only [Bool.not_not] at h
  exact h
theorem FnExactUnitsOfCircle : laws_FnExactUnitsOfCircle.Pure := by
  intro n m _ _
  refine Ev.rounds (g := fun k => laws_FnExactUnitsOfCircle.f k n m) ?_
  obtain ⟨r, hr, hs, hi⟩ : ∃ r : List Int × Int, r.1.length ≤ 1000 ∧ Ev (fun k => spec_UnitsOfCircle.f k n m) r ∧ Ev (fun k => impl_UnitsOfCircle.f k n m) r := by
    refine ⟨_, ?_, sunits n m, iunits n m⟩
    by_cases h : 1 ≤ n ∧ n ≤ 60 ∧ 2 ≤ m ∧ m ≤ 200
    · rw [if_pos h]; have := units_length n m; show (units n m).length ≤ 1000; omega
    · rw [if_neg h]; simp
  obtain ⟨l, c⟩ := r
  unfold laws_FnExactUnitsOfCircle.f
  refine Ev.bind hs (Ev.bind hi ?_)
  dsimp only at hr ⊢
  refine Ev.bind (eqI (l := l) (by omega)) ?_
  simp only [if_true, bne_self_eq_false]
  refine Ev.step (fun k => by simp only [laws_FnExactUnitsOfCircle.j0, Bool.false_eq_true, if_false]; rfl) ?_
  refine Ev.bind (markI l (by omega) (by omega)) (Ev.bind (heldI _ (by omega) (by omega)) ?_)
  refine Ev.neg (by omega) (Ev.pos rfl (Ev.bind hi (Ev.bind (eqI (l := l) (by omega)) ?_)))
  simp only [if_true, bne_self_eq_false]
  refine Ev.step (fun k => by simp only [laws_FnExactUnitsOfCircle.j1, Bool.false_eq_true, if_false]; rfl) ?_
  refine Ev.bind (heldI _ (by omega) (by omega)) (Ev.neg (by omega) (Ev.pos rfl (Ev.now _)))

end Go.Proofs.Ytkpnhkccdjphgaa.Pure
