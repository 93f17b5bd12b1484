/- Contracts of functions of the program and of the reference: what the evaluator gives for a call of each. -/
import Derived.Test.YtcdmhlagibjeiaaAEf
import Derived.Test.YtcdmhlagibjeiaaK0
import Derived.Test.YtcdmhlagibjeiaaK4
import Derived.Test.YtcdmhlagibjeiaaK28
import Derived.Test.YtcdmhlagibjeiaaK31
import Derived.Test.YtcdmhlagibjeiaaK40
import Derived.Test.YtcdmhlagibjeiaaK64
import Derived.Test.YtcdmhlagibjeiaaK66
import Derived.Test.YtcdmhlagibjeiaaK67
import Derived.Test.YtcdmhlagibjeiaaK70
namespace Go.Proofs.YtcdmhlagibjeiaaE
open Go Go.Proofs
set_option maxHeartbeats 8000000
set_option maxRecDepth 4000
set_option linter.unusedSimpArgs false
set_option linter.unusedVariables false
set_option pp.deepTerms false
set_option pp.deepTerms.threshold 10
/-! ## drawn circles -/
theorem itp_one {q : Int} (hq : 2 ≤ q) : ∀ k : Nat, itp q 1 1 k = 1
  | 0 => rfl
  | k + 1 => by rw [itp_snoc, itp_one hq k, Int.mul_one, Int.emod_eq_of_lt (by omega) (by omega)]
theorem isC_one {a q : Int} (h : (1 ≤ a ∧ a ≤ 60) ∧ 2 ≤ q ∧ q ≤ 200) : isC a q 1 = true :=
  isC_iff.2 ⟨h.1, h.2, by omega, by unfold gcdI; simp, itp_one (by omega) _⟩
theorem units_one {a q : Int} (h : (1 ≤ a ∧ a ≤ 60) ∧ 2 ≤ q ∧ q ≤ 200) : 0 < (unitsL a q).length ∧ (unitsL a q).length ≤ 200 := by
  have h1 : (1 : Int) ∈ unitsL a q := mem_fltL.2 ⟨by omega, isC_one h⟩
  have h2 := fltL_le (fun u => isC a q u) q.toNat
  exact ⟨List.length_pos_of_mem h1, by unfold unitsL; omega⟩
theorem units_bd {a q : Int} {i : Nat} (hi : i < (unitsL a q).length) : 0 ≤ rn (unitsL a q) i ∧ rn (unitsL a q) i < q := by
  have h1 : rn (unitsL a q) i ∈ unitsL a q := mem_rn.2 ⟨i, hi, rfl⟩
  have := (mem_fltL.1 h1).1
  omega
structure CBd (a q u : Int) : Prop where
  a : -1 ≤ a ∧ a ≤ 62
  q : 0 ≤ q ∧ q ≤ 202
  u : -1 ≤ u ∧ u ≤ 202
theorem ct_l09Draw (n : Nat) (hn : B + 4 + 3 ≤ n) (l : List Int) (p : Nat) (S : SrcOk l p) (h : Int) :
    ∃ (a q u : Int) (p' : Nat) (h' : Int), SrcOk l p' ∧ CBd a q u ∧ evalCall Try.prog An n 60 [.ptr 100000 0 0] [srcB l p h] = some ⟨.tuple [.d (.int .i64 a), .d (.int .i64 q), .d (.int .i64 u)], [], [some (srcB l p' h')]⟩ := by
  obtain ⟨m, rfl⟩ : ∃ m, n = m + 1 := ⟨n - 1, by omega⟩
  have hB := B_eq
  simp only [evalCall_at, fb60, bnd_some, bodyOf, Try.f60, Option.getD_some]
  obtain ⟨i1, p1, g1, S1, hi1, c1⟩ := ct_l01Pick m (by omega) l p S h [4, 8, 12, 60] (by simp -implicitDefEqProofs (maxSteps := 3000000))
  have b1 : 1 ≤ rn [4, 8, 12, 60] i1 ∧ rn [4, 8, 12, 60] i1 ≤ 60 := by
    have e : i1 = 0 ∨ i1 = 1 ∨ i1 = 2 ∨ i1 = 3 := by simp -implicitDefEqProofs (maxSteps := 3000000) at hi1; omega
    rcases e with rfl | rfl | rfl | rfl <;> simp -implicitDefEqProofs (maxSteps := 3000000) [rn]
  rw [show ints [4, 8, 12, 60] = .sl 1 [.int .i64 4, .int .i64 8, .int .i64 12, .int .i64 60] from rfl] at c1
  generalize rn [4, 8, 12, 60] i1 = k1 at *
  obtain ⟨r1, p2, g2, S2, d1, c2⟩ := ct_l01Next m (by omega) l p1 S1 g1 k1
  have e1 := d1.2 (by omega)
  obtain ⟨i2, p3, g3, S3, hi2, c3⟩ := ct_l01Pick m (by omega) l p2 S2 g2 [5, 11, 11, 30, 199] (by simp -implicitDefEqProofs (maxSteps := 3000000))
  have b2 : 1 ≤ rn [5, 11, 11, 30, 199] i2 ∧ rn [5, 11, 11, 30, 199] i2 ≤ 199 := by
    have e : i2 = 0 ∨ i2 = 1 ∨ i2 = 2 ∨ i2 = 3 ∨ i2 = 4 := by simp -implicitDefEqProofs (maxSteps := 3000000) at hi2; omega
    rcases e with rfl | rfl | rfl | rfl | rfl <;> simp -implicitDefEqProofs (maxSteps := 3000000) [rn]
  rw [show ints [5, 11, 11, 30, 199] = .sl 1 [.int .i64 5, .int .i64 11, .int .i64 11, .int .i64 30, .int .i64 199] from rfl] at c3
  generalize rn [5, 11, 11, 30, 199] i2 = k2 at *
  obtain ⟨r2, p4, g4, S4, d2, c4⟩ := ct_l01Next m (by omega) l p3 S3 g3 k2
  have e2 := d2.2 (by omega)
  have w1 := wrap_id (n := 1 + r1) (by omega)
  have w2 := wrap_id (n := 2 + r2) (by omega)
  have hU : (1 ≤ 1 + r1 ∧ 1 + r1 ≤ 60) ∧ 2 ≤ 2 + r2 ∧ 2 + r2 ≤ 200 := by omega
  have c5 := ct_sUnits m (by omega) (1 + r1) (2 + r2) hU
  have ul := units_one hU
  have w3 := wrap_id (n := ((unitsL (1 + r1) (2 + r2)).length : Int)) (by omega)
  obtain ⟨r3, p5, g5, S5, d3, c6⟩ := ct_l01Next m (by omega) l p4 S4 g4 (unitsL (1 + r1) (2 + r2)).length
  have e3 := d3.2 (by omega)
  obtain ⟨j, rfl⟩ := Int.eq_ofNat_of_zero_le e3.1
  have hj : j < (unitsL (1 + r1) (2 + r2)).length := by omega
  have bu := units_bd hj
  obtain ⟨z, p6, g6, S6, d4, c7⟩ := ct_l01Next m (by omega) l p5 S5 g5 24
  have wa := wrap_id (n := 1 + r1 + 1) (by omega)
  have wq := wrap_id (n := 2 + r2 + 1) (by omega)
  generalize unitsL (1 + r1) (2 + r2) = UL at *
  generalize hua : rn UL j = u at *
  generalize h1a : 1 + r1 = a at *
  generalize h2a : 2 + r2 = q at *
  by_cases z0 : z = 0
  · obtain ⟨i3, p7, g7, S7, hi3, c8⟩ := ct_l01Pick m (by omega) l p6 S6 g6 [0, 61, -1, a + 1] (by simp -implicitDefEqProofs (maxSteps := 3000000))
    have b3 : -1 ≤ rn [0, 61, -1, a + 1] i3 ∧ rn [0, 61, -1, a + 1] i3 ≤ 61 := by
      have e : i3 = 0 ∨ i3 = 1 ∨ i3 = 2 ∨ i3 = 3 := by simp -implicitDefEqProofs (maxSteps := 3000000) at hi3; omega
      rcases e with rfl | rfl | rfl | rfl <;> simp -implicitDefEqProofs (maxSteps := 3000000) [rn] <;> omega
    rw [show ints [0, 61, -1, a + 1] = .sl 1 [.int .i64 0, .int .i64 61, .int .i64 (-1), .int .i64 (a + 1)] from rfl] at c8
    generalize rn [0, 61, -1, a + 1] i3 = k3 at *
    refine ⟨k3, q, u, p7, g7, S7, ⟨by omega, by omega, by omega⟩, ?_⟩
    subst z0
    simp only [srcB] at c1 c2 c3 c4 c6 c7 c8 ⊢
    simp -implicitDefEqProofs (maxSteps := 3000000) [c1, c2, c3, c4, c5, c6, c7, c8, w1, w2, w3, wa, h1a, h2a, hj, hua]
  by_cases z1 : z = 1
  · obtain ⟨i3, p7, g7, S7, hi3, c8⟩ := ct_l01Pick m (by omega) l p6 S6 g6 [1, 201, 0, q + 1] (by simp -implicitDefEqProofs (maxSteps := 3000000))
    have b3 : 0 ≤ rn [1, 201, 0, q + 1] i3 ∧ rn [1, 201, 0, q + 1] i3 ≤ 201 := by
      have e : i3 = 0 ∨ i3 = 1 ∨ i3 = 2 ∨ i3 = 3 := by simp -implicitDefEqProofs (maxSteps := 3000000) at hi3; omega
      rcases e with rfl | rfl | rfl | rfl <;> simp -implicitDefEqProofs (maxSteps := 3000000) [rn] <;> omega
    rw [show ints [1, 201, 0, q + 1] = .sl 1 [.int .i64 1, .int .i64 201, .int .i64 0, .int .i64 (q + 1)] from rfl] at c8
    generalize rn [1, 201, 0, q + 1] i3 = k3 at *
    refine ⟨a, k3, u, p7, g7, S7, ⟨by omega, by omega, by omega⟩, ?_⟩
    subst z1
    simp only [srcB] at c1 c2 c3 c4 c6 c7 c8 ⊢
    simp -implicitDefEqProofs (maxSteps := 3000000) [c1, c2, c3, c4, c5, c6, c7, c8, w1, w2, w3, wq, h1a, h2a, hj, hua]
  by_cases z2 : z = 2
  · obtain ⟨i3, p7, g7, S7, hi3, c8⟩ := ct_l01Pick m (by omega) l p6 S6 g6 [0, -1, q, 2] (by simp -implicitDefEqProofs (maxSteps := 3000000))
    have b3 : -1 ≤ rn [0, -1, q, 2] i3 ∧ rn [0, -1, q, 2] i3 ≤ 200 := by
      have e : i3 = 0 ∨ i3 = 1 ∨ i3 = 2 ∨ i3 = 3 := by simp -implicitDefEqProofs (maxSteps := 3000000) at hi3; omega
      rcases e with rfl | rfl | rfl | rfl <;> simp -implicitDefEqProofs (maxSteps := 3000000) [rn] <;> omega
    rw [show ints [0, -1, q, 2] = .sl 1 [.int .i64 0, .int .i64 (-1), .int .i64 q, .int .i64 2] from rfl] at c8
    generalize rn [0, -1, q, 2] i3 = k3 at *
    refine ⟨a, q, k3, p7, g7, S7, ⟨by omega, by omega, by omega⟩, ?_⟩
    subst z2
    simp only [srcB] at c1 c2 c3 c4 c6 c7 c8 ⊢
    simp -implicitDefEqProofs (maxSteps := 3000000) [c1, c2, c3, c4, c5, c6, c7, c8, w1, w2, w3, h1a, h2a, hj, hua]
  · refine ⟨a, q, u, p6, g6, S6, ⟨by omega, by omega, by omega⟩, ?_⟩
    simp only [srcB] at c1 c2 c3 c4 c6 c7 ⊢
    simp -implicitDefEqProofs (maxSteps := 3000000) [c1, c2, c3, c4, c5, c6, c7, w1, w2, w3, h1a, h2a, hj, hua, z0, z1, z2, beq_f z0, beq_f z1, beq_f z2]
end Go.Proofs.YtcdmhlagibjeiaaE
