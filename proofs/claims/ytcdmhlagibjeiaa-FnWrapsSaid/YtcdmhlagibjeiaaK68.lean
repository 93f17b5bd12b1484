/- Contracts of functions of the program and of the reference: what the evaluator gives for a call of each. -/
import Derived.Test.YtcdmhlagibjeiaaAEf
import Derived.Test.YtcdmhlagibjeiaaK0
import Derived.Test.YtcdmhlagibjeiaaK3
import Derived.Test.YtcdmhlagibjeiaaK4
import Derived.Test.YtcdmhlagibjeiaaK7
import Derived.Test.YtcdmhlagibjeiaaK16
import Derived.Test.YtcdmhlagibjeiaaK31
import Derived.Test.YtcdmhlagibjeiaaK38
import Derived.Test.YtcdmhlagibjeiaaK64
import Derived.Test.YtcdmhlagibjeiaaK67
namespace Go.Proofs.YtcdmhlagibjeiaaE
open Go Go.Proofs
set_option maxHeartbeats 4000000
set_option maxRecDepth 4000
set_option linter.unusedSimpArgs false
set_option linter.unusedVariables false
set_option pp.deepTerms false
set_option pp.deepTerms.threshold 10
/-! ## Tate groups: the numbers -/
theorem ct_l09Maps (n : Nat) (hn : B + 4 ≤ n) (a q u d : Int) (hc : isC a q u = true) (hd : -1000 ≤ d ∧ d ≤ 1000) :
    evalCall Try.prog An n 50 [.d (.int .i64 a), .d (.int .i64 q), .d (.int .i64 u), .d (.int .i64 d)] [] = some ⟨.tuple [.d (.int .i64 (tmaps a q u d).1), .d (.int .i64 (tmaps a q u d).2)], [], []⟩ := by
  obtain ⟨m, rfl⟩ : ∃ m, n = m + 1 := ⟨n - 1, by omega⟩
  have hB := B_eq
  simp only [evalCall_at, fb50, bnd_some, bodyOf, Try.f50, Option.getD_some]
  obtain ⟨h1, h2, h3, h4, h5⟩ := isC_iff.1 hc
  obtain ⟨k, rfl⟩ := Int.eq_ofNat_of_zero_le (show 0 ≤ a by omega)
  have c1 := ct_l09Norm m (by omega) q u h2 (by omega) k (by omega)
  have w := wrap_id (n := u - 1) (by omega)
  have c2 := ct_l01Mod m (by omega) (u - 1) q (by omega) (by omega)
  rw [Int.emod_eq_of_lt (show 0 ≤ u - 1 by omega) (by omega)] at c2
  have c3 := ct_l01Mod m (by omega) d 2 (by omega) (by omega)
  by_cases h : d % 2 = 0
  · have e : tmaps k q u d = (u - 1, sump q u k % q) := by rw [tmaps, if_pos h, Int.toNat_natCast]
    rw [e]
    simp -implicitDefEqProofs (maxSteps := 3000000) [c1, c2, c3, w, h]
  · have e : tmaps k q u d = (sump q u k % q, u - 1) := by rw [tmaps, if_neg h, Int.toNat_natCast]
    rw [e]
    simp -implicitDefEqProofs (maxSteps := 3000000) [c1, c2, c3, w, h, beq_f h]
theorem ct_tate (n : Nat) (hn : B + 2 ≤ n) (a q u d : Int) (hc : isC a q u = true) :
    evalCall Try.prog An n 41 [.d (.int .i64 a), .d (.int .i64 q), .d (.int .i64 u), .d (.int .i64 d)] [] = some ⟨.tuple [.d (.int .i64 (tmaps a q u d).1), .d (.int .i64 (tmaps a q u d).2)], [], []⟩ := by
  obtain ⟨m, rfl⟩ : ∃ m, n = m + 1 := ⟨n - 1, by omega⟩
  have hB := B_eq
  simp only [evalCall_at, fb41, bnd_some, bodyOf, Try.f41, Option.getD_some]
  obtain ⟨h1, h2, h3, h4, h5⟩ := isC_iff.1 hc
  obtain ⟨k, rfl⟩ := Int.eq_ofNat_of_zero_le (show 0 ≤ a by omega)
  have c1 := ct_ladder m (by omega) q u h2 (by omega) k (by omega)
  have w := wrap_id (n := u - 1) (by omega)
  by_cases h : d % 2 = 0
  · have e : tmaps k q u d = (u - 1, sump q u k % q) := by rw [tmaps, if_pos h, Int.toNat_natCast]
    have h' := (two_mod d).1 h
    rw [e]
    simp -implicitDefEqProofs (maxSteps := 3000000) [c1, w, h']
  · have e : tmaps k q u d = (sump q u k % q, u - 1) := by rw [tmaps, if_neg h, Int.toNat_natCast]
    have h' : ¬ Int.tmod d 2 = 0 := fun z => h ((two_mod d).2 z)
    rw [e]
    simp -implicitDefEqProofs (maxSteps := 3000000) [c1, w, h', beq_f h']
theorem ct_l09Code (n : Nat) (hn : B + 4 ≤ n) (a q u d : Int) :
    evalCall Try.prog An n 47 [.d (.int .i64 a), .d (.int .i64 q), .d (.int .i64 u), .d (.int .i64 d)] [] = some ⟨.d (.int .i64 (tacode a q u d)), [], []⟩ := by
  obtain ⟨m, rfl⟩ : ∃ m, n = m + 1 := ⟨n - 1, by omega⟩
  have hB := B_eq
  simp only [evalCall_at, fb47, bnd_some, bodyOf, Try.f47, Option.getD_some]
  have c1 := ct_sIsCircle m (by omega) a q u
  cases h : isC a q u
  · have e : tacode a q u d = 2 := by rw [tacode, if_neg (by rw [h]; decide)]
    rw [h] at c1
    simp -implicitDefEqProofs (maxSteps := 3000000) [c1, e]
  · rw [h] at c1
    by_cases h2 : -1000 ≤ d ∧ d ≤ 1000
    · have c2 := ct_l01In_t m (by omega) d (-1000) 1000 h2
      have e : tacode a q u d = 0 := by rw [tacode, if_pos h, if_pos h2]
      simp -implicitDefEqProofs (maxSteps := 3000000) [c1, c2, e]
    · have c2 := ct_l01In_f m (by omega) d (-1000) 1000 h2
      have e : tacode a q u d = 2 := by rw [tacode, if_pos h, if_neg h2]
      simp -implicitDefEqProofs (maxSteps := 3000000) [c1, c2, e]
theorem ct_tateCode (n : Nat) (hn : B + 4 ≤ n) (a q u d : Int) :
    evalCall Try.prog An n 40 [.d (.int .i64 a), .d (.int .i64 q), .d (.int .i64 u), .d (.int .i64 d)] [] = some ⟨.d (.int .i64 (tacode a q u d)), [], []⟩ := by
  obtain ⟨m, rfl⟩ : ∃ m, n = m + 1 := ⟨n - 1, by omega⟩
  have hB := B_eq
  simp only [evalCall_at, fb40, bnd_some, bodyOf, Try.f40, Option.getD_some]
  have c1 := ct_iIsCircle m (by omega) a q u
  cases h : isC a q u
  · have e : tacode a q u d = 2 := by rw [tacode, if_neg (by rw [h]; decide)]
    rw [h] at c1
    simp -implicitDefEqProofs (maxSteps := 3000000) [c1, e]
  · rw [h] at c1
    by_cases h2 : d < -1000
    · have e : tacode a q u d = 2 := by rw [tacode, if_pos h, if_neg (by omega)]
      simp -implicitDefEqProofs (maxSteps := 3000000) [c1, h2, e]
    · by_cases h3 : 1000 < d
      · have e : tacode a q u d = 2 := by rw [tacode, if_pos h, if_neg (by omega)]
        simp -implicitDefEqProofs (maxSteps := 3000000) [c1, h2, h3, e]
      · have e : tacode a q u d = 0 := by rw [tacode, if_pos h, if_pos (by omega)]
        simp -implicitDefEqProofs (maxSteps := 3000000) [c1, h2, h3, e]
def tord (a q u d : Int) : Int := gcdI q (tmaps a q u d).1 * gcdI q (tmaps a q u d).2 / q
theorem tord_bd {a q u d : Int} (hc : isC a q u = true) : (0 < gcdI q (tmaps a q u d).1 ∧ gcdI q (tmaps a q u d).1 ≤ q) ∧ (0 < gcdI q (tmaps a q u d).2 ∧ gcdI q (tmaps a q u d).2 ≤ q) ∧ (0 ≤ gcdI q (tmaps a q u d).1 * gcdI q (tmaps a q u d).2 ∧ gcdI q (tmaps a q u d).1 * gcdI q (tmaps a q u d).2 ≤ 40000) := by
  obtain ⟨h1, h2, h3, h4, h5⟩ := isC_iff.1 hc
  have a1 := gcdI_pos (tmaps a q u d).1 (show 0 < q by omega)
  have a2 := gcdI_le_left (tmaps a q u d).1 (show 0 < q by omega)
  have b1 := gcdI_pos (tmaps a q u d).2 (show 0 < q by omega)
  have b2 := gcdI_le_left (tmaps a q u d).2 (show 0 < q by omega)
  have := mul_bd (a := gcdI q (tmaps a q u d).1) (b := gcdI q (tmaps a q u d).2) (x := 200) (y := 200) (by omega) (by omega) (by omega) (by omega)
  exact ⟨⟨a1, a2⟩, ⟨b1, b2⟩, this.1, by omega⟩
theorem ord_div {a q u d : Int} (hc : isC a q u = true) : (gcdI q (tmaps a q u d).1 * gcdI q (tmaps a q u d).2).tdiv q = tord a q u d ∧ 0 ≤ tord a q u d ∧ tord a q u d ≤ 40000 := by
  obtain ⟨h1, h2, h3, h4, h5⟩ := isC_iff.1 hc
  obtain ⟨_, _, b1, b2⟩ := tord_bd (d := d) hc
  refine ⟨Int.tdiv_eq_ediv_of_nonneg b1, Int.ediv_nonneg b1 (by omega), ?_⟩
  have := Int.ediv_le_self q b1
  unfold tord
  omega
theorem ct_tateOrder (n : Nat) (hn : B + 3 ≤ n) (a q u d : Int) (hc : isC a q u = true) :
    evalCall Try.prog An n 49 [.d (.int .i64 a), .d (.int .i64 q), .d (.int .i64 u), .d (.int .i64 d)] [] = some ⟨.d (.int .i64 (tord a q u d)), [], []⟩ := by
  obtain ⟨m, rfl⟩ : ∃ m, n = m + 1 := ⟨n - 1, by omega⟩
  have hB := B_eq
  simp only [evalCall_at, fb49, bnd_some, bodyOf, Try.f49, Option.getD_some]
  obtain ⟨h1, h2, h3, h4, h5⟩ := isC_iff.1 hc
  have c1 := ct_tate m (by omega) a q u d hc
  obtain ⟨r1, r2, r3, r4⟩ := tmaps_range (d := d) hc
  have c2 := ct_gcd m (by omega) q (tmaps a q u d).1 (by omega) (by omega)
  have c3 := ct_gcd m (by omega) q (tmaps a q u d).2 (by omega) (by omega)
  obtain ⟨_, _, b1, b2⟩ := tord_bd (d := d) hc
  obtain ⟨e, t1, t2⟩ := ord_div (d := d) hc
  have w := wrap_id (n := gcdI q (tmaps a q u d).1 * gcdI q (tmaps a q u d).2) (by omega)
  have w2 := wrap_id (n := tord a q u d) (by omega)
  have hz : q ≠ 0 := by omega
  simp -implicitDefEqProofs (maxSteps := 3000000) [c1, c2, c3, w, w2, e, hz]
theorem ct_iTateOrder (n : Nat) (hn : B + 5 ≤ n) (a q u d : Int) :
    evalCall Try.prog An n 9 [.d (.int .i64 a), .d (.int .i64 q), .d (.int .i64 u), .d (.int .i64 d)] [] = some ⟨.tuple [.d (.int .i64 (if tacode a q u d = 0 then tord a q u d else 0)), .d (.int .i64 (tacode a q u d))], [], []⟩ := by
  obtain ⟨m, rfl⟩ : ∃ m, n = m + 1 := ⟨n - 1, by omega⟩
  have hB := B_eq
  simp only [evalCall_at, fb9, bnd_some, bodyOf, Try.f9, Option.getD_some]
  have c1 := ct_tateCode m (by omega) a q u d
  by_cases h : tacode a q u d = 0
  · have c2 := ct_tateOrder m (by omega) a q u d (tacode_zero h).1
    rw [h] at c1
    simp -implicitDefEqProofs (maxSteps := 3000000) [c1, c2, h]
  · have ne := bne_t h
    simp -implicitDefEqProofs (maxSteps := 3000000) [c1, h, ne]
theorem ct_sTateOrder (n : Nat) (hn : B + 5 ≤ n) (a q u d : Int) :
    evalCall Try.prog An n 10 [.d (.int .i64 a), .d (.int .i64 q), .d (.int .i64 u), .d (.int .i64 d)] [] = some ⟨.tuple [.d (.int .i64 (if tacode a q u d = 0 then tord a q u d else 0)), .d (.int .i64 (tacode a q u d))], [], []⟩ := by
  obtain ⟨m, rfl⟩ : ∃ m, n = m + 1 := ⟨n - 1, by omega⟩
  have hB := B_eq
  simp only [evalCall_at, fb10, bnd_some, bodyOf, Try.f10, Option.getD_some]
  have c1 := ct_l09Code m (by omega) a q u d
  by_cases h : tacode a q u d = 0
  · obtain ⟨hc, hd⟩ := tacode_zero h
    obtain ⟨h1, h2, h3, h4, h5⟩ := isC_iff.1 hc
    have c2 := ct_l09Maps m (by omega) a q u d hc hd
    obtain ⟨r1, r2, r3, r4⟩ := tmaps_range (d := d) hc
    have c3 := ct_l01Gcd m (by omega) (tmaps a q u d).1 q (by omega) (by omega)
    have c4 := ct_l01Gcd m (by omega) (tmaps a q u d).2 q (by omega) (by omega)
    rw [gcdI_comm] at c3 c4
    obtain ⟨_, _, b1, b2⟩ := tord_bd (d := d) hc
    obtain ⟨e, t1, t2⟩ := ord_div (d := d) hc
    have w := wrap_id (n := gcdI q (tmaps a q u d).1 * gcdI q (tmaps a q u d).2) (by omega)
    have w2 := wrap_id (n := tord a q u d) (by omega)
    have hz : q ≠ 0 := by omega
    rw [h] at c1
    simp -implicitDefEqProofs (maxSteps := 3000000) [c1, c2, c3, c4, w, w2, e, hz, h]
  · have ne := bne_t h
    simp -implicitDefEqProofs (maxSteps := 3000000) [c1, h, ne]
noncomputable def tclcode (a q u d x : Int) : Int := if tacode a q u d = 0 ∧ 0 ≤ x ∧ x < q then (if (tmaps a q u d).1 * x % q = 0 then 0 else 5) else 2
noncomputable def tcl (a q u d x : Int) : Int := if tclcode a q u d x = 0 then x % gcdI q (tmaps a q u d).2 else 0
theorem ct_iTateClass (n : Nat) (hn : B + 5 ≤ n) (a q u d x : Int) :
    evalCall Try.prog An n 15 [.d (.int .i64 a), .d (.int .i64 q), .d (.int .i64 u), .d (.int .i64 d), .d (.int .i64 x)] [] = some ⟨.tuple [.d (.int .i64 (tcl a q u d x)), .d (.int .i64 (tclcode a q u d x))], [], []⟩ := by
  obtain ⟨m, rfl⟩ : ∃ m, n = m + 1 := ⟨n - 1, by omega⟩
  have hB := B_eq
  simp only [evalCall_at, fb15, bnd_some, bodyOf, Try.f15, Option.getD_some]
  have c1 := ct_tateCode m (by omega) a q u d
  by_cases h : tacode a q u d = 0
  · obtain ⟨hc, hd⟩ := tacode_zero h
    obtain ⟨h1, h2, h3, h4, h5⟩ := isC_iff.1 hc
    have c2 := ct_areIn m (by omega) q [x] (by simp -implicitDefEqProofs (maxSteps := 3000000))
    rw [show ints [x] = .sl 1 [.int .i64 x] from rfl] at c2
    rw [h] at c1
    by_cases hx : 0 ≤ x ∧ x < q
    · rw [bl_true (all1.2 hx)] at c2
      have c3 := ct_tate m (by omega) a q u d hc
      obtain ⟨r1, r2, r3, r4⟩ := tmaps_range (d := d) hc
      have b := mul_bd (a := (tmaps a q u d).1) (b := x) (x := 200) (y := 200) r1 (by omega) hx.1 (by omega)
      have w := wrap_id (n := (tmaps a q u d).1 * x) (by omega)
      have e := tmod_nn q b.1
      have c4 := ct_gcd m (by omega) q (tmaps a q u d).2 (by omega) (by omega)
      obtain ⟨_, g2, _⟩ := tord_bd (d := d) hc
      have e2 := tmod_nn (gcdI q (tmaps a q u d).2) hx.1
      have hz : q ≠ 0 := by omega
      have hz2 : gcdI q (tmaps a q u d).2 ≠ 0 := by omega
      by_cases hk : (tmaps a q u d).1 * x % q = 0
      · have f1 : tclcode a q u d x = 0 := by rw [tclcode, if_pos ⟨h, hx⟩, if_pos hk]
        have f2 : tcl a q u d x = x % gcdI q (tmaps a q u d).2 := by rw [tcl, if_pos f1]
        simp -implicitDefEqProofs (maxSteps := 3000000) [c1, c2, c3, c4, w, e, hk, e2, hz, hz2, f1, f2]
      · have f1 : tclcode a q u d x = 5 := by rw [tclcode, if_pos ⟨h, hx⟩, if_neg hk]
        have f2 : tcl a q u d x = 0 := by rw [tcl, if_neg (by omega)]
        have ne := bne_t hk
        simp -implicitDefEqProofs (maxSteps := 3000000) [c1, c2, c3, w, e, hk, hz, f1, f2, ne]
    · rw [bl_false (fun z => hx (all1.1 z))] at c2
      have f1 : tclcode a q u d x = 2 := by rw [tclcode, if_neg (fun z => hx z.2)]
      have f2 : tcl a q u d x = 0 := by rw [tcl, if_neg (by omega)]
      simp -implicitDefEqProofs (maxSteps := 3000000) [c1, c2, f1, f2]
  · have ne := bne_t h
    have f1 : tclcode a q u d x = 2 := by rw [tclcode, if_neg (fun z => h z.1)]
    have f2 : tcl a q u d x = 0 := by rw [tcl, if_neg (by omega)]
    simp -implicitDefEqProofs (maxSteps := 3000000) [c1, h, ne, f1, f2]
theorem ct_sTateClass (n : Nat) (hn : B + 5 ≤ n) (a q u d x : Int) :
    evalCall Try.prog An n 18 [.d (.int .i64 a), .d (.int .i64 q), .d (.int .i64 u), .d (.int .i64 d), .d (.int .i64 x)] [] = some ⟨.tuple [.d (.int .i64 (tcl a q u d x)), .d (.int .i64 (tclcode a q u d x))], [], []⟩ := by
  obtain ⟨m, rfl⟩ : ∃ m, n = m + 1 := ⟨n - 1, by omega⟩
  have hB := B_eq
  simp only [evalCall_at, fb18, bnd_some, bodyOf, Try.f18, Option.getD_some]
  have c1 := ct_l09Code m (by omega) a q u d
  by_cases h : tacode a q u d = 0
  · obtain ⟨hc, hd⟩ := tacode_zero h
    obtain ⟨h1, h2, h3, h4, h5⟩ := isC_iff.1 hc
    have w1 := wrap_id (n := q - 1) (by omega)
    rw [h] at c1
    by_cases hx : 0 ≤ x ∧ x < q
    · have c2 := ct_l01In_t m (by omega) x 0 (q - 1) (by omega)
      have c3 := ct_l09Maps m (by omega) a q u d hc hd
      obtain ⟨r1, r2, r3, r4⟩ := tmaps_range (d := d) hc
      have b := mul_bd (a := (tmaps a q u d).1) (b := x) (x := 200) (y := 200) r1 (by omega) hx.1 (by omega)
      have w := wrap_id (n := (tmaps a q u d).1 * x) (by omega)
      have e := tmod_nn q b.1
      have c4 := ct_l01Gcd m (by omega) (tmaps a q u d).2 q (by omega) (by omega)
      rw [gcdI_comm] at c4
      obtain ⟨_, g2, _⟩ := tord_bd (d := d) hc
      have e2 := tmod_nn (gcdI q (tmaps a q u d).2) hx.1
      have hz : q ≠ 0 := by omega
      have hz2 : gcdI q (tmaps a q u d).2 ≠ 0 := by omega
      by_cases hk : (tmaps a q u d).1 * x % q = 0
      · have f1 : tclcode a q u d x = 0 := by rw [tclcode, if_pos ⟨h, hx⟩, if_pos hk]
        have f2 : tcl a q u d x = x % gcdI q (tmaps a q u d).2 := by rw [tcl, if_pos f1]
        simp -implicitDefEqProofs (maxSteps := 3000000) [c1, c2, c3, c4, w, w1, e, hk, e2, hz, hz2, f1, f2]
      · have f1 : tclcode a q u d x = 5 := by rw [tclcode, if_pos ⟨h, hx⟩, if_neg hk]
        have f2 : tcl a q u d x = 0 := by rw [tcl, if_neg (by omega)]
        have ne := bne_t hk
        simp -implicitDefEqProofs (maxSteps := 3000000) [c1, c2, c3, w, w1, e, hk, hz, f1, f2, ne]
    · have c2 := ct_l01In_f m (by omega) x 0 (q - 1) (by omega)
      have f1 : tclcode a q u d x = 2 := by rw [tclcode, if_neg (fun z => hx z.2)]
      have f2 : tcl a q u d x = 0 := by rw [tcl, if_neg (by omega)]
      simp -implicitDefEqProofs (maxSteps := 3000000) [c1, c2, w1, f1, f2]
  · have f1 : tclcode a q u d x = 2 := by rw [tclcode, if_neg (fun z => h z.1)]
    have f2 : tcl a q u d x = 0 := by rw [tcl, if_neg (by omega)]
    rw [tacode_two h] at c1
    simp -implicitDefEqProofs (maxSteps := 3000000) [c1, f1, f2]
end Go.Proofs.YtcdmhlagibjeiaaE
