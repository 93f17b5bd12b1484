/- Contracts of functions of the program and of the reference: what the evaluator gives for a call of each. -/
import Derived.Test.YtfichikabolknaaGreatAEf
import Derived.Test.YtfichikabolknaaGreatK0
import Derived.Test.YtfichikabolknaaGreatK3
import Derived.Test.YtfichikabolknaaGreatK15
import Derived.Test.YtfichikabolknaaGreatK16
import Derived.Test.YtfichikabolknaaGreatK17
import Derived.Test.YtfichikabolknaaGreatK62
import Derived.Test.YtfichikabolknaaGreatK64
import Derived.Test.YtfichikabolknaaGreatK65
import Derived.Test.YtfichikabolknaaGreatK75
namespace Go.Proofs.YtfichikabolknaaGreatE
open Go Go.Proofs
set_option maxHeartbeats 4000000
set_option maxRecDepth 4000
set_option linter.unusedSimpArgs false
set_option linter.unusedVariables false
set_option pp.deepTerms false
set_option pp.deepTerms.threshold 10
/-! ## wraps and ladders are cocycles -/
def wrF (n x : Int) (l : List Int) : Int := if n ≤ rn l 0 + rn l 1 then x else 0
def laF (q u x : Int) (l : List Int) : Int := x * sump q u (rn l 0).toNat % q
def wrV (N : Nat) (x : Int) : List Int := tabI (fun i => wrF N x (digs (N - 1) 2 i)) ((N - 1) ^ 2)
def laV (N : Nat) (q u x : Int) : List Int := tabI (fun i => laF q u x (digs (N - 1) 1 i)) ((N - 1) ^ 1)
theorem inG2c {N a b : Nat} (ha : a < N) (hb : b < N) : InG N [(a : Int), (b : Int)] := fun i hi => by
  have e : i = 0 ∨ i = 1 := by simp -implicitDefEqProofs (maxSteps := 3000000) at hi; omega
  rcases e with rfl | rfl <;> simp -implicitDefEqProofs (maxSteps := 3000000) [rn] <;> omega
theorem inG1c {N a : Nat} (ha : a < N) : InG N [(a : Int)] := fun i hi => by
  have e : i = 0 := by simp -implicitDefEqProofs (maxSteps := 3000000) at hi; omega
  subst e
  simp -implicitDefEqProofs (maxSteps := 3000000) [rn]; omega
theorem atv_wr {N a b : Nat} {x : Int} (ha : a < N) (hb : b < N) : atv N (wrV N x) [(a : Int), (b : Int)] = if N ≤ a + b then x else 0 := by
  rw [wrV, atv_tab (by omega) (by rfl) (inG2c ha hb)]
  · show (if (N : Int) ≤ (a : Int) + (b : Int) then x else 0) = _
    by_cases h : N ≤ a + b
    · rw [if_pos h, if_pos (by omega)]
    · rw [if_neg h, if_neg (by omega)]
  · intro hz
    by_cases h0 : a = 0
    · subst h0; simp -implicitDefEqProofs (maxSteps := 3000000) [wrF, rn]; omega
    · by_cases h1 : b = 0
      · subst h1; simp -implicitDefEqProofs (maxSteps := 3000000) [wrF, rn]; omega
      · refine absurd (fun i hi => ?_) hz
        have e : i = 0 ∨ i = 1 := by simp -implicitDefEqProofs (maxSteps := 3000000) at hi; omega
        rcases e with rfl | rfl <;> simp -implicitDefEqProofs (maxSteps := 3000000) [rn] <;> omega
theorem atv_la {N a : Nat} {q u x : Int} (ha : a < N) : atv N (laV N q u x) [(a : Int)] = x * sump q u a % q := by
  rw [laV, atv_tab (by omega) (by rfl) (inG1c ha)]
  · simp -implicitDefEqProofs (maxSteps := 3000000) [laF, rn]
  · intro hz
    by_cases h0 : a = 0
    · subst h0; simp -implicitDefEqProofs (maxSteps := 3000000) [laF, rn, sump]
    · refine absurd (fun i hi => ?_) hz
      have e : i = 0 := by simp -implicitDefEqProofs (maxSteps := 3000000) at hi; omega
      subst e
      simp -implicitDefEqProofs (maxSteps := 3000000) [rn]; omega
theorem digs3 {b i : Nat} (hb : i < b ^ 3) : ∃ a c d : Nat, (1 ≤ a ∧ a ≤ b) ∧ (1 ≤ c ∧ c ≤ b) ∧ (1 ≤ d ∧ d ≤ b) ∧ digs b 3 i = [(a : Int), (c : Int), (d : Int)] := by
  have h := digs_bd hb
  have e : digs b 3 i = [dig b 3 i 0, dig b 3 i 1, dig b 3 i 2] := rfl
  have h0 := h 0 (by omega)
  have h1 := h 1 (by omega)
  have h2 := h 2 (by omega)
  rw [rn_digs (by omega)] at h0 h1 h2
  exact ⟨(dig b 3 i 0).toNat, (dig b 3 i 1).toNat, (dig b 3 i 2).toNat, by omega, by omega, by omega, by rw [e, Int.toNat_of_nonneg (by omega), Int.toNat_of_nonneg (by omega), Int.toNat_of_nonneg (by omega)]⟩
theorem digs2 {b i : Nat} (hb : i < b ^ 2) : ∃ a c : Nat, (1 ≤ a ∧ a ≤ b) ∧ (1 ≤ c ∧ c ≤ b) ∧ digs b 2 i = [(a : Int), (c : Int)] := by
  have h := digs_bd hb
  have e : digs b 2 i = [dig b 2 i 0, dig b 2 i 1] := rfl
  have h0 := h 0 (by omega)
  have h1 := h 1 (by omega)
  rw [rn_digs (by omega)] at h0 h1
  exact ⟨(dig b 2 i 0).toNat, (dig b 2 i 1).toNat, by omega, by omega, by rw [e, Int.toNat_of_nonneg (by omega), Int.toNat_of_nonneg (by omega)]⟩
theorem mod_carry {N a b : Nat} (ha : a < N) (hb : b < N) : (a + b) % N = if N ≤ a + b then a + b - N else a + b := by
  by_cases h : N ≤ a + b
  · rw [if_pos h, show a + b = N + (a + b - N) by omega, Nat.add_mod_left, Nat.mod_eq_of_lt (by omega)]
    omega
  · rw [if_neg h, Nat.mod_eq_of_lt (by omega)]
theorem sideV3 (T : List (List Int)) (U V : List Int) (a c d : Int) : sideV T U V [a, c, d] = rn U a.toNat * atv T.length V [c, d] - atv T.length V [cl T a.toNat c.toNat, d] + atv T.length V [a, cl T c.toNat d.toNat] - atv T.length V [a, c] := by
  simp -implicitDefEqProofs (maxSteps := 3000000) [sideV, sdA, mrg, sgn, rn]
  omega
theorem sideV2 (T : List (List Int)) (U V : List Int) (a c : Int) : sideV T U V [a, c] = rn U a.toNat * atv T.length V [c] - atv T.length V [cl T a.toNat c.toNat] + atv T.length V [a] := by
  simp -implicitDefEqProofs (maxSteps := 3000000) [sideV, sdA, mrg, sgn, rn]
  omega
theorem wr_cocycle {N : Nat} {q u x : Int} (hN : 1 ≤ N ∧ N ≤ 8) (hq : 2 ≤ q ∧ q ≤ 12) (hx : q ∣ (u - 1) * x) : IsCy (cyG N) q (cyU q u N) (wrV N x) 2 := by
  intro i hi
  unfold bnd1
  rw [cyG_len] at hi ⊢
  obtain ⟨a, b, c, ha, hb, hc, e⟩ := digs3 hi
  rw [e, sideV3, cyG_len, Int.toNat_natCast, Int.toNat_natCast, Int.toNat_natCast, cl_cy (by omega) (by omega), cl_cy (by omega) (by omega), rn_cyU (by omega),
    atv_wr (by omega) (by omega), atv_wr (Nat.mod_lt _ (by omega)) (by omega), atv_wr (by omega) (Nat.mod_lt _ (by omega)), atv_wr (by omega) (by omega), mod_carry (show a < N by omega) (show b < N by omega), mod_carry (show b < N by omega) (show c < N by omega)]
  have k := pow_fix hx a
  apply Int.emod_eq_zero_of_dvd
  by_cases h1 : N ≤ b + c
  · simp only [if_pos h1]
    by_cases h2 : N ≤ a + b
    · simp only [if_pos h2]
      by_cases h3 : N ≤ a + (b + c - N)
      · rw [if_pos h3, if_pos (show N ≤ a + b - N + c by omega)]
        refine Int.dvd_trans k ⟨1, by omega⟩
      · rw [if_neg h3, if_neg (show ¬ N ≤ a + b - N + c by omega)]
        refine Int.dvd_trans k ⟨1, by omega⟩
    · simp only [if_neg h2]
      by_cases h3 : N ≤ a + (b + c - N)
      · omega
      · rw [if_neg h3, if_pos (show N ≤ a + b + c by omega)]
        refine Int.dvd_trans k ⟨1, by omega⟩
  · simp only [if_neg h1]
    by_cases h2 : N ≤ a + b
    · simp only [if_pos h2]
      rw [if_neg (show ¬ N ≤ a + b - N + c by omega), if_pos (show N ≤ a + (b + c) by omega)]
      exact ⟨0, by simp only [Int.mul_zero]; omega⟩
    · simp only [if_neg h2]
      by_cases h3 : N ≤ a + b + c
      · rw [if_pos h3, if_pos (show N ≤ a + (b + c) by omega)]
        exact ⟨0, by simp only [Int.mul_zero]; omega⟩
      · rw [if_neg h3, if_neg (show ¬ N ≤ a + (b + c) by omega)]
        exact ⟨0, by simp only [Int.mul_zero]; omega⟩
theorem sump_add {q u : Int} (hq : 2 ≤ q) (a : Nat) : ∀ b : Nat, q ∣ sump q u (a + b) - sump q u a - itp q u 1 a * sump q u b
  | 0 => by simp -implicitDefEqProofs (maxSteps := 3000000) [sump]
  | b + 1 => by
    obtain ⟨t, h⟩ := sump_add (u := u) hq a b
    have e := itp_add (u := u) hq a b
    rw [Int.emod_def] at e
    exact ⟨t - itp q u 1 a * itp q u 1 b / q, by rw [← Nat.add_assoc, sump, sump, e]; grind⟩
theorem la_cocycle {N : Nat} {q u x : Int} (hN : 1 ≤ N ∧ N ≤ 8) (hq : 2 ≤ q ∧ q ≤ 12) (hu : itp q u 1 N = 1) (hx : q ∣ x * sump q u N) : IsCy (cyG N) q (cyU q u N) (laV N q u x) 1 := by
  intro i hi
  unfold bnd1
  rw [cyG_len] at hi ⊢
  obtain ⟨a, b, ha, hb, e⟩ := digs2 hi
  rw [e, sideV2, cyG_len, Int.toNat_natCast, Int.toNat_natCast, cl_cy (by omega) (by omega), rn_cyU (by omega), atv_la (by omega), atv_la (Nat.mod_lt _ (by omega)), atv_la (by omega), mod_carry (show a < N by omega) (show b < N by omega)]
  apply Int.emod_eq_zero_of_dvd
  obtain ⟨t1, h1⟩ := sump_add (u := u) hq.1 a b
  rw [Int.emod_def, Int.emod_def, Int.emod_def]
  generalize x * sump q u b / q = t2
  generalize x * sump q u a / q = t3
  by_cases h : N ≤ a + b
  · rw [if_pos h]
    generalize x * sump q u (a + b - N) / q = t4
    obtain ⟨t5, h5⟩ := sump_add (u := u) hq.1 N (a + b - N)
    obtain ⟨t6, h6⟩ := hx
    rw [hu, show N + (a + b - N) = a + b by omega] at h5
    generalize sump q u (a + b - N) = s1 at *
    generalize sump q u (a + b) = s2 at *
    exact ⟨-(x * t1) - itp q u 1 a * t2 + t4 - t3 + t6 + x * t5, by grind⟩
  · rw [if_neg h]
    generalize x * sump q u (a + b) / q = t4
    exact ⟨-(x * t1) - itp q u 1 a * t2 + t4 - t3, by grind⟩
end Go.Proofs.YtfichikabolknaaGreatE
