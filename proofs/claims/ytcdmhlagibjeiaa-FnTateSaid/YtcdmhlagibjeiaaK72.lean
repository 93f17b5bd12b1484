/- Contracts of functions of the program and of the reference: what the evaluator gives for a call of each. -/
import Derived.Test.YtcdmhlagibjeiaaAEf
import Derived.Test.YtcdmhlagibjeiaaK0
import Derived.Test.YtcdmhlagibjeiaaK3
import Derived.Test.YtcdmhlagibjeiaaK28
import Derived.Test.YtcdmhlagibjeiaaK31
import Derived.Test.YtcdmhlagibjeiaaK64
import Derived.Test.YtcdmhlagibjeiaaK66
import Derived.Test.YtcdmhlagibjeiaaK67
import Derived.Test.YtcdmhlagibjeiaaK69
import Derived.Test.YtcdmhlagibjeiaaK71
namespace Go.Proofs.YtcdmhlagibjeiaaE
open Go Go.Proofs
set_option maxHeartbeats 8000000
set_option maxRecDepth 4000
set_option linter.unusedSimpArgs false
set_option linter.unusedVariables false
set_option pp.deepTerms false
set_option pp.deepTerms.threshold 10
/-! ## drawn arguments -/
theorem nz : ((0 : Nat) : Int) = 0 := rfl
structure CodeOk (l : List Int) : Prop where
  hl : l.length ≤ 1000000000000
  hb : ∀ i < l.length, 0 ≤ rn l i ∧ rn l i < 256
theorem CodeOk.src {l : List Int} (C : CodeOk l) : SrcOk l 0 := ⟨C.hl, Nat.zero_le _, C.hb⟩
theorem tmem_zero {q K : Int} (hq : 2 ≤ q ∧ q ≤ 200) : 0 < (tmem q K).length ∧ (tmem q K).length ≤ 200 := by
  have h1 : (0 : Int) ∈ tmem q K := mem_fltL.2 ⟨by omega, by simp⟩
  have h2 := fltL_le (fun x => K * x % q == 0) q.toNat
  exact ⟨List.length_pos_of_mem h1, by unfold tmem; omega⟩
theorem tmem_bd {q K : Int} {i : Nat} (hi : i < (tmem q K).length) : 0 ≤ rn (tmem q K) i ∧ rn (tmem q K) i < q := by
  have h1 : rn (tmem q K) i ∈ tmem q K := mem_rn.2 ⟨i, hi, rfl⟩
  have := (mem_fltL.1 h1).1
  omega
theorem ct_l09With (n : Nat) (hn : B + 4 + 5 ≤ n) (l : List Int) (C : CodeOk l) :
    ∃ (a q u d x : Int), CBd a q u ∧ (-1000 ≤ d ∧ d ≤ 1001) ∧ (-9223372036854775808 ≤ x ∧ x < 9223372036854775808) ∧ evalCall Try.prog An n 39 [.d (.pin (bcells l))] [] = some ⟨.tuple [.d (.int .i64 a), .d (.int .i64 q), .d (.int .i64 u), .d (.int .i64 d), .d (.int .i64 x)], [], []⟩ := by
  obtain ⟨m, rfl⟩ : ∃ m, n = m + 1 := ⟨n - 1, by omega⟩
  have hB := B_eq
  simp only [evalCall_at, fb39, bnd_some, bodyOf, Try.f39, Option.getD_some]
  obtain ⟨g0, c0⟩ := ct_l01From m (by omega) l C.hl C.hb
  obtain ⟨a, q, u, p1, g1, S1, bd, c1⟩ := ct_l09Draw m (by omega) l 0 C.src g0
  obtain ⟨i2, p2, g2, S2, hi2, c2⟩ := ct_l01Pick m (by omega) l p1 S1 g1 [0, 1, 2, 3, -1, -2, 1000, -1000, 1001] (by simp -implicitDefEqProofs (maxSteps := 3000000))
  have b2 : -1000 ≤ rn [0, 1, 2, 3, -1, -2, 1000, -1000, 1001] i2 ∧ rn [0, 1, 2, 3, -1, -2, 1000, -1000, 1001] i2 ≤ 1001 := by
    have e : i2 = 0 ∨ i2 = 1 ∨ i2 = 2 ∨ i2 = 3 ∨ i2 = 4 ∨ i2 = 5 ∨ i2 = 6 ∨ i2 = 7 ∨ i2 = 8 := by simp -implicitDefEqProofs (maxSteps := 3000000) at hi2; omega
    rcases e with rfl | rfl | rfl | rfl | rfl | rfl | rfl | rfl | rfl <;> simp -implicitDefEqProofs (maxSteps := 3000000) [rn]
  rw [show ints [0, 1, 2, 3, -1, -2, 1000, -1000, 1001] = .sl 1 [.int .i64 0, .int .i64 1, .int .i64 2, .int .i64 3, .int .i64 (-1), .int .i64 (-2), .int .i64 1000, .int .i64 (-1000), .int .i64 1001] from rfl] at c2
  generalize rn [0, 1, 2, 3, -1, -2, 1000, -1000, 1001] i2 = d at *
  obtain ⟨mn, hmn⟩ : ∃ z : Int, (if 200 < q then (200 : Int) else q) = z := ⟨_, rfl⟩
  have bq := bd.q
  have bmn : 0 ≤ mn ∧ mn ≤ 200 := by rw [← hmn]; split <;> omega
  have w1 := wrap_id (n := mn - 1) (by omega)
  obtain ⟨k, hk⟩ : ∃ z : Int, (if mn - 1 < 0 then (0 : Int) else mn - 1) = z := ⟨_, rfl⟩
  have bk : 0 ≤ k ∧ k < 1000 := by rw [← hk]; split <;> omega
  obtain ⟨x, p3, g3, S3, bx, c3⟩ := ct_l01Near m (by omega) l p2 S2 g2 k (by omega)
  have c4 := ct_sIsCircle m (by omega) a q u
  cases hc : isC a q u
  · rw [hc] at c4
    refine ⟨a, q, u, d, x, bd, b2, bx, ?_⟩
    simp only [srcB, nz] at c0 c1 c2 c3
    simp -implicitDefEqProofs (maxSteps := 3000000) [c0, c1, c2, c3, c4, hmn, w1, hk]
  · rw [hc] at c4
    obtain ⟨h1, h2, h3, h4, h5⟩ := isC_iff.1 hc
    by_cases hd : -1000 ≤ d ∧ d ≤ 1000
    · have c5 := ct_l01In_t m (by omega) d (-1000) 1000 hd
      obtain ⟨r, p4, g4, S4, d4, c6⟩ := ct_l01Next m (by omega) l p3 S3 g3 4
      by_cases hr : 0 < r
      · have c7 := ct_l09Members m (by omega) a q u d hc hd
        have tl := tmem_zero (K := (tmaps a q u d).1) h2
        have w2 := wrap_id (n := ((tmem q (tmaps a q u d).1).length : Int)) (by omega)
        obtain ⟨r5, p5, g5, S5, d5, c8⟩ := ct_l01Next m (by omega) l p4 S4 g4 (tmem q (tmaps a q u d).1).length
        have e5 := d5.2 (by omega)
        obtain ⟨j, rfl⟩ := Int.eq_ofNat_of_zero_le e5.1
        have hj : j < (tmem q (tmaps a q u d).1).length := by omega
        have bx5 := tmem_bd hj
        generalize tmem q (tmaps a q u d).1 = X at *
        refine ⟨a, q, u, d, rn X j, bd, b2, by omega, ?_⟩
        simp only [srcB, nz] at c0 c1 c2 c3 c6 c8
        simp -implicitDefEqProofs (maxSteps := 3000000) [c0, c1, c2, c3, c4, c5, c6, c7, c8, hmn, w1, w2, hk, hr, hj]
      · refine ⟨a, q, u, d, x, bd, b2, bx, ?_⟩
        simp only [srcB, nz] at c0 c1 c2 c3 c6
        simp -implicitDefEqProofs (maxSteps := 3000000) [c0, c1, c2, c3, c4, c5, c6, hmn, w1, hk, hr]
    · have c5 := ct_l01In_f m (by omega) d (-1000) 1000 hd
      refine ⟨a, q, u, d, x, bd, b2, bx, ?_⟩
      simp only [srcB, nz] at c0 c1 c2 c3
      simp -implicitDefEqProofs (maxSteps := 3000000) [c0, c1, c2, c3, c4, c5, hmn, w1, hk]
theorem ct_DrawTM (n : Nat) (hn : B + 4 + 6 ≤ n) (l : List Int) (C : CodeOk l) :
    ∃ (a q u d : Int), CBd a q u ∧ (-1000 ≤ d ∧ d ≤ 1001) ∧ evalCall Try.prog An n 6 [.d (.pin (bcells l))] [] = some ⟨.tuple [.d (.int .i64 a), .d (.int .i64 q), .d (.int .i64 u), .d (.int .i64 d)], [], []⟩ := by
  obtain ⟨m, rfl⟩ : ∃ m, n = m + 1 := ⟨n - 1, by omega⟩
  have hB := B_eq
  simp only [evalCall_at, fb6, bnd_some, bodyOf, Try.f6, Option.getD_some]
  obtain ⟨a, q, u, d, x, bd, b2, bx, c1⟩ := ct_l09With m (by omega) l C
  refine ⟨a, q, u, d, bd, b2, ?_⟩
  simp -implicitDefEqProofs (maxSteps := 3000000) [c1]
theorem ct_DrawTC (n : Nat) (hn : B + 4 + 6 ≤ n) (l : List Int) (C : CodeOk l) :
    ∃ (a q u d x : Int), evalCall Try.prog An n 17 [.d (.pin (bcells l))] [] = some ⟨.tuple [.d (.int .i64 a), .d (.int .i64 q), .d (.int .i64 u), .d (.int .i64 d), .d (.int .i64 x)], [], []⟩ := by
  obtain ⟨m, rfl⟩ : ∃ m, n = m + 1 := ⟨n - 1, by omega⟩
  have hB := B_eq
  simp only [evalCall_at, fb17, bnd_some, bodyOf, Try.f17, Option.getD_some]
  obtain ⟨a, q, u, d, x, bd, b2, bx, c1⟩ := ct_l09With m (by omega) l C
  refine ⟨a, q, u, d, x, ?_⟩
  simp -implicitDefEqProofs (maxSteps := 3000000) [c1]
theorem ct_DrawUC (n : Nat) (hn : B + 6 ≤ n) (l : List Int) (C : CodeOk l) :
    ∃ (a q : Int), evalCall Try.prog An n 19 [.d (.pin (bcells l))] [] = some ⟨.tuple [.d (.int .i64 a), .d (.int .i64 q)], [], []⟩ := by
  obtain ⟨m, rfl⟩ : ∃ m, n = m + 1 := ⟨n - 1, by omega⟩
  have hB := B_eq
  simp only [evalCall_at, fb19, bnd_some, bodyOf, Try.f19, Option.getD_some]
  obtain ⟨g0, c0⟩ := ct_l01From m (by omega) l C.hl C.hb
  obtain ⟨x, p3, g3, S3, bx, c3⟩ := ct_l01Near m (by omega) l 0 C.src g0 59 (by omega)
  obtain ⟨y, p4, g4, S4, by_, c4⟩ := ct_l01Near m (by omega) l p3 S3 g3 198 (by omega)
  refine ⟨IntKind.i64.wrap (1 + x), IntKind.i64.wrap (2 + y), ?_⟩
  simp only [srcB, nz] at c0 c3 c4
  simp -implicitDefEqProofs (maxSteps := 3000000) [c0, c3, c4]
theorem ct_DrawCN (n : Nat) (hn : B + 4 + 6 ≤ n) (l : List Int) (C : CodeOk l) :
    ∃ (a q u : Int), evalCall Try.prog An n 22 [.d (.pin (bcells l))] [] = some ⟨.tuple [.d (.int .i64 a), .d (.int .i64 q), .d (.int .i64 u)], [], []⟩ := by
  obtain ⟨m, rfl⟩ : ∃ m, n = m + 1 := ⟨n - 1, by omega⟩
  have hB := B_eq
  simp only [evalCall_at, fb22, bnd_some, bodyOf, Try.f22, Option.getD_some]
  obtain ⟨g0, c0⟩ := ct_l01From m (by omega) l C.hl C.hb
  obtain ⟨a, q, u, p1, g1, S1, bd, c1⟩ := ct_l09Draw m (by omega) l 0 C.src g0
  refine ⟨a, q, u, ?_⟩
  simp only [srcB, nz] at c0 c1
  simp -implicitDefEqProofs (maxSteps := 3000000) [c0, c1]
theorem ct_DrawHO (n : Nat) (hn : B + 4 + 6 ≤ n) (l : List Int) (C : CodeOk l) :
    ∃ (a q u : Int), evalCall Try.prog An n 28 [.d (.pin (bcells l))] [] = some ⟨.tuple [.d (.int .i64 a), .d (.int .i64 q), .d (.int .i64 u)], [], []⟩ := by
  obtain ⟨m, rfl⟩ : ∃ m, n = m + 1 := ⟨n - 1, by omega⟩
  have hB := B_eq
  simp only [evalCall_at, fb28, bnd_some, bodyOf, Try.f28, Option.getD_some]
  obtain ⟨g0, c0⟩ := ct_l01From m (by omega) l C.hl C.hb
  obtain ⟨a, q, u, p1, g1, S1, bd, c1⟩ := ct_l09Draw m (by omega) l 0 C.src g0
  refine ⟨a, q, u, ?_⟩
  simp only [srcB, nz] at c0 c1
  simp -implicitDefEqProofs (maxSteps := 3000000) [c0, c1]
theorem ct_DrawRC (n : Nat) (hn : B + 4 + 6 ≤ n) (l : List Int) (C : CodeOk l) :
    ∃ (a q u k : Int), evalCall Try.prog An n 25 [.d (.pin (bcells l))] [] = some ⟨.tuple [.d (.int .i64 a), .d (.int .i64 q), .d (.int .i64 u), .d (.int .i64 k)], [], []⟩ := by
  obtain ⟨m, rfl⟩ : ∃ m, n = m + 1 := ⟨n - 1, by omega⟩
  have hB := B_eq
  simp only [evalCall_at, fb25, bnd_some, bodyOf, Try.f25, Option.getD_some]
  obtain ⟨g0, c0⟩ := ct_l01From m (by omega) l C.hl C.hb
  obtain ⟨a, q, u, p1, g1, S1, bd, c1⟩ := ct_l09Draw m (by omega) l 0 C.src g0
  obtain ⟨i2, p2, g2, S2, hi2, c2⟩ := ct_l01Pick m (by omega) l p1 S1 g1 [1, 2, 3, 4, a, 0, -1] (by simp -implicitDefEqProofs (maxSteps := 3000000))
  rw [show ints [1, 2, 3, 4, a, 0, -1] = .sl 1 [.int .i64 1, .int .i64 2, .int .i64 3, .int .i64 4, .int .i64 a, .int .i64 0, .int .i64 (-1)] from rfl] at c2
  generalize rn [1, 2, 3, 4, a, 0, -1] i2 = k at *
  refine ⟨a, q, u, k, ?_⟩
  simp only [srcB, nz] at c0 c1 c2
  simp -implicitDefEqProofs (maxSteps := 3000000) [c0, c1, c2]
end Go.Proofs.YtcdmhlagibjeiaaE
