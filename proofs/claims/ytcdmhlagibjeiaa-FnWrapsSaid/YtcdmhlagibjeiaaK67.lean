/- Contracts of functions of the program and of the reference: what the evaluator gives for a call of each. -/
import Derived.Test.YtcdmhlagibjeiaaAEf
import Derived.Test.YtcdmhlagibjeiaaK0
import Derived.Test.YtcdmhlagibjeiaaK3
import Derived.Test.YtcdmhlagibjeiaaK4
import Derived.Test.YtcdmhlagibjeiaaK7
import Derived.Test.YtcdmhlagibjeiaaK16
import Derived.Test.YtcdmhlagibjeiaaK31
import Derived.Test.YtcdmhlagibjeiaaK64
namespace Go.Proofs.YtcdmhlagibjeiaaE
open Go Go.Proofs
set_option maxHeartbeats 4000000
set_option maxRecDepth 4000
set_option linter.unusedSimpArgs false
set_option linter.unusedVariables false
set_option pp.deepTerms false
set_option pp.deepTerms.threshold 10
/-! ## circles -/
theorem sump_bd {m u : Int} (hm : 2 ≤ m ∧ m ≤ 200) : ∀ k : Nat, 0 ≤ sump m u k ∧ sump m u k ≤ 200 * k
  | 0 => by simp -implicitDefEqProofs (maxSteps := 3000000) [sump]
  | k + 1 => by
    have h := sump_bd (u := u) hm k
    have g := itp_range (u := u) (show 0 < m by omega) k 1 (by omega) (by omega)
    simp only [sump]
    omega
theorem itp_step {m u : Int} (hm : 2 ≤ m ∧ m ≤ 200) (hu : 0 ≤ u ∧ u < m) (k : Nat) : 0 ≤ itp m u 1 k ∧ itp m u 1 k < m ∧ 0 ≤ itp m u 1 k * u ∧ itp m u 1 k * u ≤ 40000 ∧ (itp m u 1 k * u).tmod m = itp m u 1 (k + 1) := by
  have g := itp_range (u := u) (show 0 < m by omega) k 1 (by omega) (by omega)
  have b := mul_bd (a := itp m u 1 k) (b := u) (x := 200) (y := 200) g.1 (by omega) hu.1 (by omega)
  refine ⟨g.1, g.2, b.1, by omega, ?_⟩
  rw [tmod_nn m b.1, itp_snoc]
theorem ct_l09Power (n : Nat) (hn : B + 2 ≤ n) (q u : Int) (hm : 2 ≤ q ∧ q ≤ 200) (hu : 0 ≤ u ∧ u < q) (k : Nat) (hk : k ≤ 1000) :
    evalCall Try.prog An n 55 [.d (.int .i64 u), .d (.int .i64 k), .d (.int .i64 q)] [] = some ⟨.d (.int .i64 (itp q u 1 k)), [], []⟩ := by
  obtain ⟨m, rfl⟩ : ∃ m, n = m + 1 := ⟨n - 1, by omega⟩
  have hB := B_eq
  simp only [evalCall_at, fb55, bnd_some, bodyOf, Try.f55, Option.getD_some]
  generalize hb0 : Code.loop _ = cc0
  obtain rfl : cc0 = .loop (lp Try.f55 0) := by rw [← hb0]; rfl
  clear hb0
  have c1 := ct_l01Mod m (by omega) 1 q (by omega) (by omega)
  rw [Int.emod_eq_of_lt (by omega) (by omega)] at c1
  have hz : q ≠ 0 := by omega
  simp -implicitDefEqProofs (maxSteps := 3000000) [c1]
  generalize hx : loopC _ _ _ = x
  generalize hl : lp Try.f55 0 = L at hx
  simp only [lp, bodyOf, Try.f55, Option.getD_some, loopsIn, List.append_nil, List.nil_append, List.cons_append, List.getD, List.getElem?_cons_zero, List.getElem?_cons_succ] at hl
  subst hl
  obtain ⟨qq, rfl, hqq⟩ := loop_end hx (k) (fun i s => ∃ g, s = ⟨[(0, .d (.int .i64 u)), (1, .d (.int .i64 ((k : Int) - i))), (2, .d (.int .i64 q)), (7, .d (.int .i64 (itp q u 1 i)))], [], g⟩)
    (fun qq => ∃ s, qq = (.exit 0, s) ∧ lookL s.env 0 = some (.d (.int .i64 u)) ∧ lookL s.env 1 = some (.d (.int .i64 ((k : Int) - (k)))) ∧ lookL s.env 2 = some (.d (.int .i64 q)) ∧ lookL s.env 7 = some (.d (.int .i64 (itp q u 1 (k)))))
    (by show k < m; omega) (by
      simp -implicitDefEqProofs (maxSteps := 3000000) [itp])
    (by
      rintro i s hi ⟨g, rfl⟩
      obtain ⟨h1, h2, h3, h4, h5⟩ := itp_step hm hu i
      have w1 := wrap_id (n := itp q u 1 i * u) (by omega)
      have w2 := wrap_id (n := (k : Int) - i - 1) (by omega)
      have h6 : i < k := hi
      have h7 : (0 : Int) < (k : Int) - i := by omega
      have e : (k : Int) - i - 1 = (k : Int) - ((i : Int) + 1) := by omega
      rw [e] at w2
      simp -implicitDefEqProofs (maxSteps := 3000000) [h6, h7, w1, w2, hz, h5, e])
    (by
      rintro s ⟨g, rfl⟩
      simp -implicitDefEqProofs (maxSteps := 3000000))
  obtain ⟨s, rfl, hf⟩ := hqq
  simp -implicitDefEqProofs (maxSteps := 3000000) [hf]
theorem ct_l09Norm (n : Nat) (hn : B + 3 ≤ n) (q u : Int) (hm : 2 ≤ q ∧ q ≤ 200) (hu : 0 ≤ u ∧ u < q) (k : Nat) (hk : k ≤ 60) :
    evalCall Try.prog An n 62 [.d (.int .i64 k), .d (.int .i64 q), .d (.int .i64 u)] [] = some ⟨.d (.int .i64 (sump q u k % q)), [], []⟩ := by
  obtain ⟨m, rfl⟩ : ∃ m, n = m + 1 := ⟨n - 1, by omega⟩
  have hB := B_eq
  simp only [evalCall_at, fb62, bnd_some, bodyOf, Try.f62, Option.getD_some]
  generalize hb0 : Code.loop _ = cc0
  obtain rfl : cc0 = .loop (lp Try.f62 0) := by rw [← hb0]; rfl
  clear hb0
  have hz : q ≠ 0 := by omega
  have b := sump_bd (u := u) hm k
  have e := tmod_nn q b.1
  simp -implicitDefEqProofs (maxSteps := 3000000)
  generalize hx : loopC _ _ _ = x
  generalize hl : lp Try.f62 0 = L at hx
  simp only [lp, bodyOf, Try.f62, Option.getD_some, loopsIn, List.append_nil, List.nil_append, List.cons_append, List.getD, List.getElem?_cons_zero, List.getElem?_cons_succ] at hl
  subst hl
  obtain ⟨qq, rfl, hqq⟩ := loop_end hx (k) (fun i s => ∃ g, s = ⟨[(0, .d (.int .i64 k)), (1, .d (.int .i64 q)), (2, .d (.int .i64 u)), (7, .d (.int .i64 (sump q u i))), (8, .d (.int .i64 i))], [], g⟩)
    (fun qq => ∃ s, qq = (.exit 0, s) ∧ lookL s.env 0 = some (.d (.int .i64 k)) ∧ lookL s.env 1 = some (.d (.int .i64 q)) ∧ lookL s.env 2 = some (.d (.int .i64 u)) ∧ lookL s.env 7 = some (.d (.int .i64 (sump q u (k)))) ∧ lookL s.env 8 = some (.d (.int .i64 (k))))
    (by show k < m; omega) (by
      simp -implicitDefEqProofs (maxSteps := 3000000) [sump])
    (by
      rintro i s hi ⟨g, rfl⟩
      have w2 := wrap_id (n := (i : Int) + 1) (by omega)
      have c1 := ct_l09Power m (by omega) q u hm hu i (by omega)
      have h1 := itp_range (u := u) (show 0 < q by omega) i 1 (by omega) (by omega)
      have b2 := sump_bd (u := u) hm i
      have w1 := wrap_id (n := sump q u i + itp q u 1 i) (by omega)
      simp -implicitDefEqProofs (maxSteps := 3000000) [hi, c1, w1, w2, sump])
    (by
      rintro s ⟨g, rfl⟩
      simp -implicitDefEqProofs (maxSteps := 3000000))
  obtain ⟨s, rfl, hf⟩ := hqq
  simp -implicitDefEqProofs (maxSteps := 3000000) [hf, hz, e]
theorem ct_turns (n : Nat) (hn : B + 1 ≤ n) (q u : Int) (hm : 2 ≤ q ∧ q ≤ 200) (hu : 0 ≤ u ∧ u < q) (k : Nat) (hk : k ≤ 1000) :
    evalCall Try.prog An n 53 [.d (.int .i64 q), .d (.int .i64 u), .d (.int .i64 k)] [] = some ⟨.d (.int .i64 (itp q u 1 k)), [], []⟩ := by
  obtain ⟨m, rfl⟩ : ∃ m, n = m + 1 := ⟨n - 1, by omega⟩
  have hB := B_eq
  simp only [evalCall_at, fb53, bnd_some, bodyOf, Try.f53, Option.getD_some]
  generalize hb0 : Code.loop _ = cc0
  obtain rfl : cc0 = .loop (lp Try.f53 0) := by rw [← hb0]; rfl
  clear hb0
  have hz : q ≠ 0 := by omega
  simp -implicitDefEqProofs (maxSteps := 3000000)
  generalize hx : loopC _ _ _ = x
  generalize hl : lp Try.f53 0 = L at hx
  simp only [lp, bodyOf, Try.f53, Option.getD_some, loopsIn, List.append_nil, List.nil_append, List.cons_append, List.getD, List.getElem?_cons_zero, List.getElem?_cons_succ] at hl
  subst hl
  obtain ⟨qq, rfl, hqq⟩ := loop_end hx (k) (fun i s => ∃ g, s = ⟨[(0, .d (.int .i64 q)), (1, .d (.int .i64 u)), (7, .d (.int .i64 (itp q u 1 i))), (8, .d (.int .i64 k)), (9, .d (.int .i64 i))], [], g⟩)
    (fun qq => ∃ s, qq = (.exit 0, s) ∧ lookL s.env 0 = some (.d (.int .i64 q)) ∧ lookL s.env 1 = some (.d (.int .i64 u)) ∧ lookL s.env 7 = some (.d (.int .i64 (itp q u 1 (k)))) ∧ lookL s.env 8 = some (.d (.int .i64 k)) ∧ lookL s.env 9 = some (.d (.int .i64 (k))))
    (by show k < m; omega) (by
      simp -implicitDefEqProofs (maxSteps := 3000000) [itp])
    (by
      rintro i s hi ⟨g, rfl⟩
      obtain ⟨h1, h2, h3, h4, h5⟩ := itp_step hm hu i
      have w1 := wrap_id (n := itp q u 1 i * u) (by omega)
      have w2 := wrap_id (n := (i : Int) + 1) (by omega)
      simp -implicitDefEqProofs (maxSteps := 3000000) [hi, w1, w2, hz, h5])
    (by
      rintro s ⟨g, rfl⟩
      simp -implicitDefEqProofs (maxSteps := 3000000))
  obtain ⟨s, rfl, hf⟩ := hqq
  simp -implicitDefEqProofs (maxSteps := 3000000) [hf]
theorem ct_ladder (n : Nat) (hn : B + 1 ≤ n) (q u : Int) (hm : 2 ≤ q ∧ q ≤ 200) (hu : 0 ≤ u ∧ u < q) (k : Nat) (hk : k ≤ 60) :
    evalCall Try.prog An n 61 [.d (.int .i64 q), .d (.int .i64 u), .d (.int .i64 k)] [] = some ⟨.d (.int .i64 (sump q u k % q)), [], []⟩ := by
  obtain ⟨m, rfl⟩ : ∃ m, n = m + 1 := ⟨n - 1, by omega⟩
  have hB := B_eq
  simp only [evalCall_at, fb61, bnd_some, bodyOf, Try.f61, Option.getD_some]
  generalize hb0 : Code.loop _ = cc0
  obtain rfl : cc0 = .loop (lp Try.f61 0) := by rw [← hb0]; rfl
  clear hb0
  have hz : q ≠ 0 := by omega
  have b := sump_bd (u := u) hm k
  have e := tmod_nn q b.1
  simp -implicitDefEqProofs (maxSteps := 3000000)
  generalize hx : loopC _ _ _ = x
  generalize hl : lp Try.f61 0 = L at hx
  simp only [lp, bodyOf, Try.f61, Option.getD_some, loopsIn, List.append_nil, List.nil_append, List.cons_append, List.getD, List.getElem?_cons_zero, List.getElem?_cons_succ] at hl
  subst hl
  obtain ⟨qq, rfl, hqq⟩ := loop_end hx (k) (fun i s => ∃ g, s = ⟨[(0, .d (.int .i64 q)), (1, .d (.int .i64 u)), (7, .d (.int .i64 (sump q u i))), (8, .d (.int .i64 (itp q u 1 i))), (9, .d (.int .i64 k)), (10, .d (.int .i64 i))], [], g⟩)
    (fun qq => ∃ s, qq = (.exit 0, s) ∧ lookL s.env 0 = some (.d (.int .i64 q)) ∧ lookL s.env 1 = some (.d (.int .i64 u)) ∧ lookL s.env 7 = some (.d (.int .i64 (sump q u (k)))) ∧ lookL s.env 8 = some (.d (.int .i64 (itp q u 1 (k)))) ∧ lookL s.env 9 = some (.d (.int .i64 k)) ∧ lookL s.env 10 = some (.d (.int .i64 (k))))
    (by show k < m; omega) (by
      simp -implicitDefEqProofs (maxSteps := 3000000) [sump, itp])
    (by
      rintro i s hi ⟨g, rfl⟩
      obtain ⟨h1, h2, h3, h4, h5⟩ := itp_step hm hu i
      have b2 := sump_bd (u := u) hm i
      have w1 := wrap_id (n := itp q u 1 i * u) (by omega)
      have w2 := wrap_id (n := (i : Int) + 1) (by omega)
      have w3 := wrap_id (n := sump q u i + itp q u 1 i) (by omega)
      simp -implicitDefEqProofs (maxSteps := 3000000) [hi, w1, w2, w3, hz, h5, sump])
    (by
      rintro s ⟨g, rfl⟩
      simp -implicitDefEqProofs (maxSteps := 3000000))
  obtain ⟨s, rfl, hf⟩ := hqq
  simp -implicitDefEqProofs (maxSteps := 3000000) [hf, hz, e]
theorem isC_iff {a q u : Int} : isC a q u = true ↔ (1 ≤ a ∧ a ≤ 60) ∧ (2 ≤ q ∧ q ≤ 200) ∧ (1 ≤ u ∧ u < q) ∧ gcdI q u = 1 ∧ itp q u 1 a.toNat = 1 := by
  simp -implicitDefEqProofs (maxSteps := 3000000) [isC]
  constructor
  · rintro ⟨h1, h2, h3, h4, h5, h6, h7, h8⟩
    exact ⟨⟨h1, h2⟩, ⟨h3, h4⟩, ⟨h5, h6⟩, h7, h8⟩
  · rintro ⟨⟨h1, h2⟩, ⟨h3, h4⟩, ⟨h5, h6⟩, h7, h8⟩
    exact ⟨h1, h2, h3, h4, h5, h6, h7, h8⟩
theorem isC_f {a q u : Int} (h : ¬ ((1 ≤ a ∧ a ≤ 60) ∧ (2 ≤ q ∧ q ≤ 200) ∧ (1 ≤ u ∧ u < q) ∧ gcdI q u = 1 ∧ itp q u 1 a.toNat = 1)) : isC a q u = false := by
  cases e : isC a q u
  · rfl
  · exact absurd (isC_iff.1 e) h
theorem ct_sIsCircle (n : Nat) (hn : B + 3 ≤ n) (a q u : Int) :
    evalCall Try.prog An n 13 [.d (.int .i64 a), .d (.int .i64 q), .d (.int .i64 u)] [] = some ⟨.d (.bool (isC a q u)), [], []⟩ := by
  obtain ⟨m, rfl⟩ : ∃ m, n = m + 1 := ⟨n - 1, by omega⟩
  have hB := B_eq
  simp only [evalCall_at, fb13, bnd_some, bodyOf, Try.f13, Option.getD_some]
  by_cases h1 : 1 ≤ a ∧ a ≤ 60
  · have c1 := ct_l01In_t m (by omega) a 1 60 h1
    by_cases h2 : 2 ≤ q ∧ q ≤ 200
    · have c2 := ct_l01In_t m (by omega) q 2 200 h2
      have w := wrap_id (n := q - 1) (by omega)
      by_cases h3 : 1 ≤ u ∧ u < q
      · have c3 := ct_l01In_t m (by omega) u 1 (q - 1) ⟨h3.1, by omega⟩
        have c4 := ct_l01Gcd m (by omega) u q (by omega) (by omega)
        rw [gcdI_comm] at c4
        by_cases h4 : gcdI q u = 1
        · obtain ⟨k, rfl⟩ := Int.eq_ofNat_of_zero_le (show 0 ≤ a by omega)
          have c5 := ct_l09Power m (by omega) q u h2 (by omega) k (by omega)
          by_cases h5 : itp q u 1 k = 1
          · have e : isC k q u = true := isC_iff.2 ⟨h1, h2, h3, h4, by rw [Int.toNat_natCast]; exact h5⟩
            simp -implicitDefEqProofs (maxSteps := 3000000) [c1, c2, c3, c4, c5, w, h4, h5, e]
          · have e : isC k q u = false := isC_f fun z => h5 (by have := z.2.2.2.2; rwa [Int.toNat_natCast] at this)
            simp -implicitDefEqProofs (maxSteps := 3000000) [c1, c2, c3, c4, c5, w, h4, h5, beq_f h5, e]
        · have e : isC a q u = false := isC_f fun z => h4 z.2.2.2.1
          simp -implicitDefEqProofs (maxSteps := 3000000) [c1, c2, c3, c4, w, h4, beq_f h4, e]
      · have c3 := ct_l01In_f m (by omega) u 1 (q - 1) (fun z => h3 ⟨z.1, by omega⟩)
        have e : isC a q u = false := isC_f fun z => h3 z.2.2.1
        simp -implicitDefEqProofs (maxSteps := 3000000) [c1, c2, c3, w, e]
    · have c2 := ct_l01In_f m (by omega) q 2 200 h2
      have e : isC a q u = false := isC_f fun z => h2 z.2.1
      simp -implicitDefEqProofs (maxSteps := 3000000) [c1, c2, e]
  · have c1 := ct_l01In_f m (by omega) a 1 60 h1
    have e : isC a q u = false := isC_f fun z => h1 z.1
    simp -implicitDefEqProofs (maxSteps := 3000000) [c1, e]
theorem ct_iIsCircle (n : Nat) (hn : B + 3 ≤ n) (a q u : Int) :
    evalCall Try.prog An n 12 [.d (.int .i64 a), .d (.int .i64 q), .d (.int .i64 u)] [] = some ⟨.d (.bool (isC a q u)), [], []⟩ := by
  obtain ⟨m, rfl⟩ : ∃ m, n = m + 1 := ⟨n - 1, by omega⟩
  have hB := B_eq
  simp only [evalCall_at, fb12, bnd_some, bodyOf, Try.f12, Option.getD_some]
  by_cases h1 : a < 1
  · have e : isC a q u = false := isC_f fun z => by omega
    simp -implicitDefEqProofs (maxSteps := 3000000) [h1, e]
  by_cases h2 : 60 < a
  · have e : isC a q u = false := isC_f fun z => by omega
    simp -implicitDefEqProofs (maxSteps := 3000000) [h1, h2, e]
  by_cases h3 : q < 2
  · have e : isC a q u = false := isC_f fun z => by omega
    simp -implicitDefEqProofs (maxSteps := 3000000) [h1, h2, h3, e]
  by_cases h4 : 200 < q
  · have e : isC a q u = false := isC_f fun z => by omega
    simp -implicitDefEqProofs (maxSteps := 3000000) [h1, h2, h3, h4, e]
  have c1 := ct_isUnit m (by omega) q u (by omega)
  by_cases h5 : Unit1 q u
  · have h6 := h5.1
    have h7 : gcdI q u = 1 := by rw [gcdI_comm]; exact h5.2
    rw [bl_true h5] at c1
    obtain ⟨k, rfl⟩ := Int.eq_ofNat_of_zero_le (show 0 ≤ a by omega)
    have c2 := ct_turns m (by omega) q u (by omega) (by omega) k (by omega)
    by_cases h8 : itp q u 1 k = 1
    · have e : isC k q u = true := isC_iff.2 ⟨by omega, by omega, by omega, h7, by rw [Int.toNat_natCast]; exact h8⟩
      simp -implicitDefEqProofs (maxSteps := 3000000) [h1, h2, h3, h4, c1, c2, h8, e]
    · have e : isC k q u = false := isC_f fun z => h8 (by have := z.2.2.2.2; rwa [Int.toNat_natCast] at this)
      simp -implicitDefEqProofs (maxSteps := 3000000) [h1, h2, h3, h4, c1, c2, h8, beq_f h8, e]
  · rw [bl_false h5] at c1
    have e : isC a q u = false := isC_f fun z => h5 ⟨⟨z.2.2.1.1, by omega⟩, by rw [gcdI_comm]; exact z.2.2.2.1⟩
    simp -implicitDefEqProofs (maxSteps := 3000000) [h1, h2, h3, h4, c1, e]
end Go.Proofs.YtcdmhlagibjeiaaE
