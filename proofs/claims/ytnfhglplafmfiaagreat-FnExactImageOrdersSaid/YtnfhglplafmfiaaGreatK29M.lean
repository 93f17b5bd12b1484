/- Contracts of functions of the program and of the reference: what the evaluator gives for a call of each. -/
import Derived.Test.YtnfhglplafmfiaaGreatAEf
import Derived.Test.YtnfhglplafmfiaaGreatK1M
import Derived.Test.YtnfhglplafmfiaaGreatK19
import Derived.Test.YtnfhglplafmfiaaGreatK26
import Derived.Test.YtnfhglplafmfiaaGreatK27
import Derived.Test.YtnfhglplafmfiaaGreatK24M
namespace Go.Proofs.YtnfhglplafmfiaaGreatE
open Go Go.Proofs
set_option maxHeartbeats 4000000
set_option maxRecDepth 4000
set_option linter.unusedSimpArgs false
set_option linter.unusedVariables false
set_option pp.deepTerms false
set_option pp.deepTerms.threshold 10
/-! ## slices.Sort of a short row -/
theorem ct_Len64 (n : Nat) (hn : B + 1 ≤ n) (y : Nat) (hy : y ≤ 12) : ∃ v : Int, evalCall Tryz.prog An n 255 [.d (.int .u64 y)] [] = some ⟨.d (.int .i64 v), [], []⟩ := by
  have e : y = 0 ∨ y = 1 ∨ y = 2 ∨ y = 3 ∨ y = 4 ∨ y = 5 ∨ y = 6 ∨ y = 7 ∨ y = 8 ∨ y = 9 ∨ y = 10 ∨ y = 11 ∨ y = 12 := by omega
  obtain ⟨m, rfl⟩ : ∃ m, n = m + 1 := ⟨n - 1, by omega⟩
  have hB := B_eq
  simp only [evalCall_at, fb255, bnd_some, bodyOf, Tryz.f255, Option.getD_some]
  rcases e with rfl | rfl | rfl | rfl | rfl | rfl | rfl | rfl | rfl | rfl | rfl | rfl | rfl <;> exact ⟨_, rfl⟩
theorem ct_Len (n : Nat) (hn : B + 2 ≤ n) (y : Nat) (hy : y ≤ 12) : ∃ v : Int, evalCall Tryz.prog An n 235 [.d (.int .u64 y)] [] = some ⟨.d (.int .i64 v), [], []⟩ := by
  obtain ⟨m, rfl⟩ : ∃ m, n = m + 1 := ⟨n - 1, by omega⟩
  have hB := B_eq
  simp only [evalCall_at, fb235, bnd_some, bodyOf, Tryz.f235, Option.getD_some]
  obtain ⟨v, c⟩ := ct_Len64 m (by omega) y hy
  refine ⟨v, ?_⟩
  simp -implicitDefEqProofs (maxSteps := 3000000) [c]
theorem ct_Sort (n : Nat) (hn : B + 5 ≤ n) (l : List Int) (hl : l.length ≤ 12) :
    ∃ Y : List Int, (Y.length = l.length ∧ (∀ x, Y.count x = l.count x) ∧ Srt Y l.length) ∧ evalCall Tryz.prog An n 207 [.own 100000 0] [.row (icells l)] = some ⟨.tuple [], [], [some (.row (icells Y))]⟩ := by
  obtain ⟨m, rfl⟩ : ∃ m, n = m + 1 := ⟨n - 1, by omega⟩
  have hB := B_eq
  simp only [evalCall_at, fb207, bnd_some, bodyOf, Tryz.f207, Option.getD_some]
  obtain ⟨v, c1⟩ := ct_Len m (by omega) l.length hl
  obtain ⟨Y, hY, c2⟩ := ct_pdqsort m (by omega) l hl v
  have w := wrap_u64 (n := (l.length : Int)) (by omega)
  refine ⟨Y, hY, ?_⟩
  simp -implicitDefEqProofs (maxSteps := 3000000) [c1, c2, w]
/-! ## ascending lists -/
theorem pw_ext : ∀ X Y : List Int, X.Pairwise (· < ·) → Y.Pairwise (· < ·) → (∀ z, z ∈ X ↔ z ∈ Y) → X = Y
  | [], [], _, _, _ => rfl
  | [], y :: Y, _, _, h => by have := (h y).2 (by simp -implicitDefEqProofs (maxSteps := 3000000)); simp -implicitDefEqProofs (maxSteps := 3000000) at this
  | x :: X, [], _, _, h => by have := (h x).1 (by simp -implicitDefEqProofs (maxSteps := 3000000)); simp -implicitDefEqProofs (maxSteps := 3000000) at this
  | x :: X, y :: Y, hX, hY, h => by
    rw [List.pairwise_cons] at hX hY
    have e : x = y := by
      have h1 := (h x).1 (by simp -implicitDefEqProofs (maxSteps := 3000000))
      have h2 := (h y).2 (by simp -implicitDefEqProofs (maxSteps := 3000000))
      rcases List.mem_cons.1 h1 with z | z
      · exact z
      · rcases List.mem_cons.1 h2 with z2 | z2
        · exact z2.symm
        · have := hY.1 x z; have := hX.1 y z2; omega
    subst e
    congr 1
    refine pw_ext X Y hX.2 hY.2 fun z => ⟨fun hz => ?_, fun hz => ?_⟩
    · rcases List.mem_cons.1 ((h z).1 (List.mem_cons_of_mem _ hz)) with q | q
      · have := hX.1 z hz; omega
      · exact q
    · rcases List.mem_cons.1 ((h z).2 (List.mem_cons_of_mem _ hz)) with q | q
      · have := hY.1 z hz; omega
      · exact q
theorem asc_lt {l : List Int} (h : AscL l) : ∀ (d p : Nat), p + d + 1 < l.length → rn l p < rn l (p + d + 1)
  | 0, p, hp => h p hp
  | d + 1, p, hp => by
    have h1 := asc_lt h d p (by omega)
    have h2 := h (p + d + 1) (by omega)
    rw [show p + (d + 1) + 1 = p + d + 1 + 1 by omega]; omega
theorem asc_pw {l : List Int} (h : AscL l) : l.Pairwise (· < ·) := by
  rw [List.pairwise_iff_getElem]
  intro i j hi hj hij
  have := asc_lt h (j - i - 1) i (by omega)
  rw [show i + (j - i - 1) + 1 = j by omega, rn_get hi, rn_get hj] at this
  exact this
theorem srt_pw {Y : List Int} (h : Srt Y Y.length) (hd : Y.Nodup) : Y.Pairwise (· < ·) := by
  rw [List.pairwise_iff_getElem]
  intro i j hi hj hij
  have h1 := h i j hij hj
  rw [rn_get hi, rn_get hj] at h1
  have h2 : Y[i] ≠ Y[j] := fun e => by
    have := (List.getElem_inj hd (h₀ := hi) (h₁ := hj)).1 e
    omega
  omega
theorem nodup_cnt {X Y : List Int} (h : ∀ x, Y.count x = X.count x) (hd : X.Nodup) : Y.Nodup := by
  rw [List.nodup_iff_count] at hd ⊢
  intro a
  rw [h]; exact hd a
theorem mem_cnt {X Y : List Int} (h : ∀ x, Y.count x = X.count x) (z : Int) : z ∈ Y ↔ z ∈ X := by
  rw [← List.count_pos_iff, ← List.count_pos_iff, h]
theorem mem_rn {l : List Int} {z : Int} : z ∈ l ↔ ∃ i < l.length, rn l i = z := by
  rw [List.mem_iff_getElem]
  constructor
  · rintro ⟨i, hi, rfl⟩; exact ⟨i, hi, rn_get hi⟩
  · rintro ⟨i, hi, rfl⟩; exact ⟨i, hi, (rn_get hi).symm⟩
theorem nodup_len : ∀ (N : Nat) (l : List Int), l.Nodup → (∀ x ∈ l, 0 ≤ x ∧ x < N) → l.length ≤ N
  | 0, l, _, h => by
    cases l with
    | nil => simp -implicitDefEqProofs (maxSteps := 3000000)
    | cons x l => have := h x (by simp -implicitDefEqProofs (maxSteps := 3000000)); omega
  | N + 1, l, hd, h => by
    by_cases hm : (N : Int) ∈ l
    · have h1 := nodup_len N (l.erase (N : Int)) (hd.erase _) fun x hx => by
        have h2 := (List.Nodup.mem_erase_iff hd).1 hx
        have := h x h2.2
        have := h2.1
        omega
      rw [List.length_erase_of_mem hm] at h1
      omega
    · have h1 := nodup_len N l hd fun x hx => by
        have h2 := h x hx
        have : x ≠ N := fun e => hm (e ▸ hx)
        omega
      omega
end Go.Proofs.YtnfhglplafmfiaaGreatE

namespace Go.Proofs.YtnfhglplafmfiaaGreatE
open Go Go.Proofs
set_option maxHeartbeats 4000000
set_option maxRecDepth 4000
set_option linter.unusedSimpArgs false
set_option linter.unusedVariables false
set_option pp.deepTerms false
set_option pp.deepTerms.threshold 10
/-! ## sets as bits -/
theorem b64 : IntKind.bits .i64 = 64 := rfl
theorem fdiv_pow (s i : Nat) : (s : Int).fdiv ((2 : Int) ^ i) = ((s / 2 ^ i : Nat) : Int) := by
  have e : (2 : Int) ^ i = ((2 ^ i : Nat) : Int) := by simp -implicitDefEqProofs (maxSteps := 3000000)
  rw [e, Int.fdiv_eq_ediv_of_nonneg _ (Int.natCast_nonneg _)]; rfl
theorem mod64 {q : Nat} (h : q < 18446744073709551616) : ((q : Int) % 18446744073709551616).toNat = q := by omega
theorem tb (s i : Nat) : s.testBit i = decide (s / 2 ^ i % 2 = 1) := Nat.testBit_eq_decide_div_mod_eq
def bitL (s : Nat) : List Int := thoseL (fun a => s.testBit a) 8
theorem ct_l01List (n : Nat) (hn : B + 1 ≤ n) (u : Nat) (hs : u < 256) :
    evalCall Tryz.prog An n 208 [.d (.int .i64 u)] [] = some ⟨.own 0 0, [.row (icells (bitL u))], []⟩ := by
  obtain ⟨m, rfl⟩ : ∃ m, n = m + 1 := ⟨n - 1, by omega⟩
  have hB := B_eq
  simp only [evalCall_at, fb208, bnd_some, bodyOf, Tryz.f208, Option.getD_some]
  generalize hb0 : Code.loop _ = cc0
  obtain rfl : cc0 = .loop (lp Tryz.f208 0) := by rw [← hb0]; rfl
  clear hb0
  simp -implicitDefEqProofs (maxSteps := 3000000)
  generalize hx : loopC _ _ _ = x
  generalize hl : lp Tryz.f208 0 = L at hx
  simp only [lp, bodyOf, Tryz.f208, Option.getD_some, loopsIn, List.append_nil, List.nil_append, List.cons_append, List.getD, List.getElem?_cons_zero, List.getElem?_cons_succ] at hl
  subst hl
  obtain ⟨qq, rfl, hqq⟩ := loop_end hx (8) (fun i s => ∃ g v, s = ⟨[(0, .d (.int .i64 u)), (3, .own 80 v), (4, .d (.int .i64 i))], [(80, some (v, .row (icells (thoseL (fun a => u.testBit a) i))))], g⟩)
    (fun qq => ∃ s v, qq = (.exit 0, s) ∧ lookL s.env 0 = some (.d (.int .i64 u)) ∧ lookL s.env 3 = some (.own 80 v) ∧ lookL s.env 4 = some (.d (.int .i64 (8))) ∧ obsL s.obs 80 = some (v, .row (icells (thoseL (fun a => u.testBit a) (8)))))
    (by show 8 < m; omega) (by
      simp -implicitDefEqProofs (maxSteps := 3000000))
    (by
      rintro i s hi ⟨g, v, rfl⟩
      have w2 := wrap_id (n := (i : Int) + 1) (by omega)
      have w3 := wrap_u64 (n := (i : Int)) (by omega)
      have e1 : min i 64 = i := by omega
      have e2 := fdiv_pow u i
      have e3 := tb u i
      have tl := thoseL_le (fun a => u.testBit a) i
      have ts := thoseL_succ (fun a => u.testBit a) i
      have hb := lt_bound (n := (thoseL (fun a => u.testBit a) i).length) (by omega)
      have hb2 := le_bound (n := (thoseL (fun a => u.testBit a) i).length) (by omega)
      have hq : u / 2 ^ i ≤ u := Nat.div_le_self _ _
      generalize u / 2 ^ i = q at *
      have e4 := mod64 (q := q) (by omega)
      have w0 := wrap_id (n := 0) (by omega)
      have hi2 : (i : Int) < 8 := by omega
      have hn0 : ¬ ((i : Int) < 0) := by omega
      rcases Nat.mod_two_eq_zero_or_one q with h | h
      · rw [h] at e3
        have e5 : u.testBit i = false := by rw [e3]; rfl
        simp only [e5, Bool.false_eq_true, if_false, List.append_nil] at ts
        rw [ts]
        simp -implicitDefEqProofs (maxSteps := 3000000) [hi2, hn0, w0, w2, w3, b64, e1, e2, e4, h, hb, hb2]
      · rw [h] at e3
        have e5 : u.testBit i = true := by rw [e3]; rfl
        simp only [e5, if_true] at ts
        rw [ts]
        have w4 := wrap_id (n := 1) (by omega)
        simp -implicitDefEqProofs (maxSteps := 3000000) [hi2, hn0, w0, w2, w3, w4, b64, e1, e2, e4, h, hb, hb2])
    (by
      rintro s ⟨g, v, rfl⟩
      simp -implicitDefEqProofs (maxSteps := 3000000))
  obtain ⟨s, v, rfl, hf⟩ := hqq
  simp -implicitDefEqProofs (maxSteps := 3000000) [hf, bitL]
theorem mem_those (q : Nat → Bool) (z : Int) : ∀ n : Nat, z ∈ thoseL q n ↔ ∃ a < n, q a = true ∧ z = (a : Int)
  | 0 => by simp -implicitDefEqProofs (maxSteps := 3000000)
  | n + 1 => by
    rw [thoseL_succ, List.mem_append, mem_those q z n]
    by_cases h : q n = true
    · rw [if_pos h]
      constructor
      · rintro (⟨a, h1, h2⟩ | h1)
        · exact ⟨a, by omega, h2⟩
        · exact ⟨n, by omega, h, by simpa using h1⟩
      · rintro ⟨a, h1, h2, h3⟩
        by_cases e : a = n
        · right; subst e; simp -implicitDefEqProofs (maxSteps := 3000000) [h3]
        · left; exact ⟨a, by omega, h2, h3⟩
    · rw [if_neg h]
      constructor
      · rintro (⟨a, h1, h2⟩ | h1)
        · exact ⟨a, by omega, h2⟩
        · simp -implicitDefEqProofs (maxSteps := 3000000) at h1
      · rintro ⟨a, h1, h2, h3⟩
        left
        refine ⟨a, ?_, h2, h3⟩
        have : a ≠ n := fun e => h (e ▸ h2)
        omega
theorem mem_bitL (s : Nat) (z : Int) : z ∈ bitL s ↔ ∃ a < 8, s.testBit a = true ∧ z = (a : Int) := mem_those _ z 8
/-! ## the bits of a list -/
def bitsA (l : List Int) : Nat → Nat
  | 0 => 0
  | i + 1 => bitsA l i ||| 2 ^ (rn l i).toNat
def bitsOf (l : List Int) : Nat := bitsA l l.length
theorem bitsA_lt {l : List Int} (h : ∀ i < l.length, 0 ≤ rn l i ∧ rn l i < 8) : ∀ i ≤ l.length, bitsA l i < 256
  | 0, _ => by simp -implicitDefEqProofs (maxSteps := 3000000) [bitsA]
  | i + 1, hi => by
    have h1 := h i (by omega)
    have h2 : 2 ^ (rn l i).toNat < 2 ^ 8 := Nat.pow_lt_pow_right (by omega) (by omega)
    exact Nat.or_lt_two_pow (n := 8) (bitsA_lt h i (by omega)) h2
theorem bitsA_tb {l : List Int} (h : ∀ i < l.length, 0 ≤ rn l i ∧ rn l i < 8) (a : Nat) : ∀ i ≤ l.length, ((bitsA l i).testBit a = true ↔ ∃ j < i, rn l j = (a : Int))
  | 0, _ => by simp -implicitDefEqProofs (maxSteps := 3000000) [bitsA]
  | i + 1, hi => by
    have h1 := h i (by omega)
    rw [bitsA, Nat.testBit_or, Bool.or_eq_true, bitsA_tb h a i (by omega), Nat.testBit_two_pow, decide_eq_true_eq]
    constructor
    · rintro (⟨j, h2, h3⟩ | h2)
      · exact ⟨j, by omega, h3⟩
      · exact ⟨i, by omega, by omega⟩
    · rintro ⟨j, h2, h3⟩
      by_cases e : j = i
      · right; subst e; omega
      · left; exact ⟨j, by omega, h3⟩
theorem ct_l01Bits (n : Nat) (hn : B + 1 ≤ n) (l : List Int) (hl : l.length ≤ 10000000) (h : ∀ i < l.length, 0 ≤ rn l i ∧ rn l i < 8) :
    evalCall Tryz.prog An n 186 [.d (ints l)] [] = some ⟨.d (.int .i64 (bitsOf l)), [], []⟩ := by
  obtain ⟨m, rfl⟩ : ∃ m, n = m + 1 := ⟨n - 1, by omega⟩
  have hB := B_eq
  simp only [evalCall_at, fb186, bnd_some, bodyOf, Tryz.f186, Option.getD_some]
  generalize hb0 : Code.loop _ = cc0
  obtain rfl : cc0 = .loop (lp Tryz.f186 0) := by rw [← hb0]; rfl
  clear hb0
  simp -implicitDefEqProofs (maxSteps := 3000000)
  generalize hx : loopC _ _ _ = x
  generalize hl : lp Tryz.f186 0 = L at hx
  simp only [lp, bodyOf, Tryz.f186, Option.getD_some, loopsIn, List.append_nil, List.nil_append, List.cons_append, List.getD, List.getElem?_cons_zero, List.getElem?_cons_succ] at hl
  subst hl
  obtain ⟨qq, rfl, hqq⟩ := loop_end hx (l.length) (fun i s => ∃ g, s = ⟨[(0, .d (ints l)), (3, .d (.int .i64 (bitsA l i))), (4, .d (.int .i64 i))], [], g⟩)
    (fun qq => ∃ s, qq = (.exit 0, s) ∧ lookL s.env 0 = some (.d (ints l)) ∧ lookL s.env 3 = some (.d (.int .i64 (bitsA l (l.length)))) ∧ lookL s.env 4 = some (.d (.int .i64 (l.length))))
    (by show l.length < m; omega) (by
      simp -implicitDefEqProofs (maxSteps := 3000000) [bitsA])
    (by
      rintro i s hi ⟨g, rfl⟩
      have w2 := wrap_id (n := (i : Int) + 1) (by omega)
      have h1 := h i hi
      have hb := bitsA_lt h i (by omega)
      have hb2 := bitsA_lt h (i + 1) (by omega)
      simp only [bitsA] at hb2
      obtain ⟨x, hx⟩ := Int.eq_ofNat_of_zero_le h1.1
      have hx8 : x < 8 := by omega
      have e0 : bitsA l (i + 1) = bitsA l i ||| 2 ^ x := by rw [bitsA, hx]; rfl
      rw [hx, Int.toNat_natCast] at hb2
      have w3 := wrap_u64 (n := (x : Int)) (by omega)
      have e1 : min x 64 = x := by omega
      have hn0 : ¬ ((x : Int) < 0) := by omega
      have e2 : (2 : Int) ^ x = ((2 ^ x : Nat) : Int) := by simp -implicitDefEqProofs (maxSteps := 3000000)
      have hp : 2 ^ x < 256 := by have := Nat.pow_lt_pow_right (a := 2) (by omega) hx8; omega
      rw [e0]
      generalize 2 ^ x = p at *
      generalize bitsA l i = s at *
      have w4 := wrap_id (n := (p : Int)) (by omega)
      have w5 := wrap_id (n := ((s ||| p : Nat) : Int)) (by omega)
      have m1 := mod64 (q := s) (by omega)
      have m2 := mod64 (q := p) (by omega)
      simp -implicitDefEqProofs (maxSteps := 3000000) [hi, hx, hn0, w2, w3, b64, e1, e2, w4, w5, m1, m2])
    (by
      rintro s ⟨g, rfl⟩
      simp -implicitDefEqProofs (maxSteps := 3000000))
  obtain ⟨s, rfl, hf⟩ := hqq
  simp -implicitDefEqProofs (maxSteps := 3000000) [hf, bitsOf]
theorem bits_tb {l : List Int} (h : ∀ i < l.length, 0 ≤ rn l i ∧ rn l i < 8) (a : Nat) : (bitsOf l).testBit a = true ↔ (a : Int) ∈ l := by
  rw [bitsOf, bitsA_tb h a l.length (Nat.le_refl _), mem_rn]
end Go.Proofs.YtnfhglplafmfiaaGreatE
