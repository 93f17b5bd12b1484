/- Contracts of functions of the program and of the reference: what the evaluator gives for a call of each. -/
import Derived.Test.YtcdmhlagibjeiaaAEf
import Derived.Test.YtcdmhlagibjeiaaK0
import Derived.Test.YtcdmhlagibjeiaaK4
import Derived.Test.YtcdmhlagibjeiaaK28
import Derived.Test.YtcdmhlagibjeiaaK31
import Derived.Test.YtcdmhlagibjeiaaK64
import Derived.Test.YtcdmhlagibjeiaaK65
import Derived.Test.YtcdmhlagibjeiaaK67
import Derived.Test.YtcdmhlagibjeiaaK68
import Derived.Test.YtcdmhlagibjeiaaK70
import Derived.Test.YtcdmhlagibjeiaaK72
namespace Go.Proofs.YtcdmhlagibjeiaaE
open Go Go.Proofs
set_option maxHeartbeats 8000000
set_option maxRecDepth 4000
set_option linter.unusedSimpArgs false
set_option linter.unusedVariables false
set_option pp.deepTerms false
set_option pp.deepTerms.threshold 10
/-! ## FnTate: what it compares -/
theorem ct_big (n : Nat) (hn : B + 1 ≤ n) (l : List Int) :
    evalCall Try.prog An n 5 [.d (.pin (bcells l))] [] = some ⟨.d (.bool (decide (4096 < l.length))), [], []⟩ := by
  obtain ⟨m, rfl⟩ : ∃ m, n = m + 1 := ⟨n - 1, by omega⟩
  have hB := B_eq
  simp only [evalCall_at, fb5, bnd_some, bodyOf, Try.f5, Option.getD_some]
  by_cases h : 4096 < l.length
  · have h2 : (4096 : Int) < l.length := by omega
    simp -implicitDefEqProofs (maxSteps := 3000000) [h, h2]
  · have h2 : ¬ (4096 : Int) < l.length := by omega
    simp -implicitDefEqProofs (maxSteps := 3000000) [h, h2]
theorem ct_like_nil (n : Nat) (hn : B + 1 ≤ n) :
    evalCall Try.prog An n 11 [.d .nil, .d .nil] [] = some ⟨.d (.bool true), [], []⟩ := by
  obtain ⟨m, rfl⟩ : ∃ m, n = m + 1 := ⟨n - 1, by omega⟩
  have hB := B_eq
  simp only [evalCall_at, fb11, bnd_some, bodyOf, Try.f11, Option.getD_some]
  generalize hb0 : Code.loop _ = cc0
  obtain rfl : cc0 = .loop (lp Try.f11 0) := by rw [← hb0]; rfl
  clear hb0
  simp -implicitDefEqProofs (maxSteps := 3000000)
  generalize hx : loopC _ _ _ = x
  generalize hl : lp Try.f11 0 = L at hx
  simp only [lp, bodyOf, Try.f11, Option.getD_some, loopsIn, List.append_nil, List.nil_append, List.cons_append, List.getD, List.getElem?_cons_zero, List.getElem?_cons_succ] at hl
  subst hl
  obtain ⟨qq, rfl, hqq⟩ := loop_end hx (0) (fun i s => ∃ g, s = ⟨[(0, .d .nil), (1, .d .nil), (5, .d (.int .i64 i))], [], g⟩)
    (fun qq => ∃ s, qq = (.exit 0, s) ∧ lookL s.env 0 = some (.d .nil) ∧ lookL s.env 1 = some (.d .nil) ∧ lookL s.env 5 = some (.d (.int .i64 (0))))
    (by show 0 < m; omega) (by
      simp -implicitDefEqProofs (maxSteps := 3000000))
    (by
      rintro i s hi ⟨g, rfl⟩
      omega)
    (by
      rintro s ⟨g, rfl⟩
      simp -implicitDefEqProofs (maxSteps := 3000000))
  obtain ⟨s, rfl, hf⟩ := hqq
  simp -implicitDefEqProofs (maxSteps := 3000000) [hf]
theorem ct_like (n : Nat) (hn : B + 1 ≤ n) (l : List Int) (hl : l.length ≤ 1000000) :
    evalCall Try.prog An n 11 [.d (ints l), .d (ints l)] [] = some ⟨.d (.bool true), [], []⟩ := by
  obtain ⟨m, rfl⟩ : ∃ m, n = m + 1 := ⟨n - 1, by omega⟩
  have hB := B_eq
  simp only [evalCall_at, fb11, bnd_some, bodyOf, Try.f11, Option.getD_some]
  generalize hb0 : Code.loop _ = cc0
  obtain rfl : cc0 = .loop (lp Try.f11 0) := by rw [← hb0]; rfl
  clear hb0
  simp -implicitDefEqProofs (maxSteps := 3000000)
  generalize hx : loopC _ _ _ = x
  generalize hl : lp Try.f11 0 = L at hx
  simp only [lp, bodyOf, Try.f11, Option.getD_some, loopsIn, List.append_nil, List.nil_append, List.cons_append, List.getD, List.getElem?_cons_zero, List.getElem?_cons_succ] at hl
  subst hl
  obtain ⟨qq, rfl, hqq⟩ := loop_end hx (l.length) (fun i s => ∃ g, s = ⟨[(0, .d (ints l)), (1, .d (ints l)), (5, .d (.int .i64 i))], [], g⟩)
    (fun qq => ∃ s, qq = (.exit 0, s) ∧ lookL s.env 0 = some (.d (ints l)) ∧ lookL s.env 1 = some (.d (ints l)) ∧ lookL s.env 5 = some (.d (.int .i64 (l.length))))
    (by show l.length < m; omega) (by
      simp -implicitDefEqProofs (maxSteps := 3000000))
    (by
      rintro i s hi ⟨g, rfl⟩
      have w2 := wrap_id (n := (i : Int) + 1) (by omega)
      simp -implicitDefEqProofs (maxSteps := 3000000) [hi, w2])
    (by
      rintro s ⟨g, rfl⟩
      simp -implicitDefEqProofs (maxSteps := 3000000))
  obtain ⟨s, rfl, hf⟩ := hqq
  simp -implicitDefEqProofs (maxSteps := 3000000) [hf]
theorem ct_has (n : Nat) (hn : B + 1 ≤ n) (l : List Int) (hl : l.length ≤ 1000000) (x : Int) (hx0 : x ∈ l) :
    evalCall Try.prog An n 16 [.d (ints l), .d (.int .i64 x)] [] = some ⟨.d (.bool true), [], []⟩ := by
  obtain ⟨m, rfl⟩ : ∃ m, n = m + 1 := ⟨n - 1, by omega⟩
  have hB := B_eq
  simp only [evalCall_at, fb16, bnd_some, bodyOf, Try.f16, Option.getD_some]
  generalize hb0 : Code.loop _ = cc0
  obtain rfl : cc0 = .loop (lp Try.f16 0) := by rw [← hb0]; rfl
  clear hb0
  simp -implicitDefEqProofs (maxSteps := 3000000)
  generalize hx : loopC _ _ _ = y
  generalize hl : lp Try.f16 0 = L at hx
  simp only [lp, bodyOf, Try.f16, Option.getD_some, loopsIn, List.append_nil, List.nil_append, List.cons_append, List.getD, List.getElem?_cons_zero, List.getElem?_cons_succ] at hl
  subst hl
  rcases loop_chk hx l.length 0 (fun i => rn l i ≠ x)
    (fun i g => ⟨[(0, .d (ints l)), (1, .d (.int .i64 x)), (5, .d (.int .i64 i))], [], g⟩)
    (fun s => True) (fun s => lookL s.env 4 = some (.d (.bool true)))
    (by show l.length < m; omega) (by simp -implicitDefEqProofs (maxSteps := 3000000))
    (by
      rintro i g hi hp
      have w2 := wrap_id (n := (i : Int) + 1) (by omega)
      by_cases p : rn l i = x
      · simp -implicitDefEqProofs (maxSteps := 3000000) [hi, p]
      · simp -implicitDefEqProofs (maxSteps := 3000000) [hi, p, beq_f p, w2])
    (by
      rintro g
      simp -implicitDefEqProofs (maxSteps := 3000000)) with ⟨h1, s, rfl, _⟩ | ⟨⟨i, hi, h1⟩, s, rfl, h2⟩
  · obtain ⟨i, hi, e⟩ := mem_rn.1 hx0
    exact absurd e (h1 i hi)
  · simp -implicitDefEqProofs (maxSteps := 3000000) [h2]
/-! ## powers -/
theorem itp_pow {m u : Int} (hm : 2 ≤ m) : ∀ k : Nat, itp m u 1 k = u ^ k % m
  | 0 => by rw [Int.pow_zero, Int.emod_eq_of_lt (by omega) (by omega)]; rfl
  | k + 1 => by rw [itp_snoc, itp_pow hm k, Int.pow_succ, Int.mul_emod, Int.emod_emod_of_dvd _ (Int.dvd_refl m), ← Int.mul_emod]
theorem emod_pow (x m : Int) : ∀ j : Nat, (x % m) ^ j % m = x ^ j % m
  | 0 => by rw [Int.pow_zero, Int.pow_zero]
  | j + 1 => by rw [Int.pow_succ, Int.pow_succ, Int.mul_emod, emod_pow x m j, Int.emod_emod_of_dvd _ (Int.dvd_refl m), ← Int.mul_emod]
theorem pow_pow (x : Int) (k : Nat) : ∀ j : Nat, (x ^ k) ^ j = x ^ (k * j)
  | 0 => by rw [Nat.mul_zero, Int.pow_zero, Int.pow_zero]
  | j + 1 => by rw [Int.pow_succ, pow_pow x k j, Nat.mul_succ, ← Int.pow_add]
theorem itp_mul {m u : Int} (hm : 2 ≤ m) (k j : Nat) : itp m (itp m u 1 k) 1 j = itp m u 1 (k * j) := by
  rw [itp_pow hm, itp_pow hm k, itp_pow hm (k * j), emod_pow, pow_pow]
theorem itp_zero {m : Int} (hm : 2 ≤ m) {j : Nat} (hj : 0 < j) : itp m 0 1 j = 0 := by
  rw [itp_pow hm, Int.zero_pow (by omega), Int.zero_emod]
/-- A reduced circle is one. -/
theorem rc_isC {a q u k : Int} (h : RCok a q u k) : isC (a / k) q (itp q u 1 k.toNat) = true := by
  obtain ⟨hc, hk, hd⟩ := h
  obtain ⟨h1, h2, h3, h4, h5⟩ := isC_iff.1 hc
  have hak := Int.mul_ediv_cancel' (Int.dvd_of_emod_eq_zero hd)
  have b1 : 0 ≤ a / k := Int.ediv_nonneg (by omega) (by omega)
  have b2 : a / k ≤ a := Int.ediv_le_self k (by omega)
  obtain ⟨j, hj⟩ := Int.eq_ofNat_of_zero_le b1
  obtain ⟨i, rfl⟩ := Int.eq_ofNat_of_zero_le (show 0 ≤ k by omega)
  rw [hj] at hak b2 ⊢
  rw [Int.toNat_natCast]
  have ha : a.toNat = i * j := by rw [← hak, ← Int.natCast_mul, Int.toNat_natCast]
  rw [ha] at h5
  have hj0 : 0 < j := by
    rcases Nat.eq_zero_or_pos j with z | z
    · rw [z] at hak; simp -implicitDefEqProofs (maxSteps := 3000000) at hak; omega
    · exact z
  have e1 : itp q (itp q u 1 i) 1 j = 1 := by rw [itp_mul (by omega)]; exact h5
  have r := itp_range (u := u) (show 0 < q by omega) i 1 (by omega) (by omega)
  have nz : itp q u 1 i ≠ 0 := by
    intro z
    rw [z, itp_zero (by omega) hj0] at e1
    omega
  have g1 : gcdI q (itp q u 1 i) = 1 := by
    have hd1 := gcdI_dvd_left (itp q u 1 i) (show 0 ≤ q by omega)
    have hd2 := gcdI_dvd_right q r.1
    have hp := gcdI_pos (itp q u 1 i) (show 0 < q by omega)
    generalize gcdI q (itp q u 1 i) = g at *
    have hd3 : g ∣ itp q (itp q u 1 i) 1 j := by
      rw [itp_pow (by omega), Int.emod_def]
      refine Int.dvd_sub ?_ (Int.dvd_trans hd1 (Int.dvd_mul_right _ _))
      obtain ⟨j', rfl⟩ : ∃ j', j = j' + 1 := ⟨j - 1, by omega⟩
      rw [Int.pow_succ]
      exact Int.dvd_trans hd2 (Int.dvd_mul_left _ _)
    rw [e1] at hd3
    have := Int.le_of_dvd (by omega) hd3
    omega
  refine isC_iff.2 ⟨⟨by omega, by omega⟩, h2, ⟨by omega, r.2⟩, g1, ?_⟩
  rw [Int.toNat_natCast]
  exact e1
theorem tord_par {a q u : Int} (d e : Int) : tord a q u d = tord a q u e := by
  unfold tord tmaps
  by_cases h1 : d % 2 = 0 <;> by_cases h2 : e % 2 = 0 <;> simp only [h1, h2, if_true, if_false] <;> first | rfl | rw [Int.mul_comm]
theorem tord_len {a q u d : Int} (hc : isC a q u = true) : tord a q u d * ((tnou q (tmaps a q u d).2).length : Int) = ((tmem q (tmaps a q u d).1).length : Int) := by
  obtain ⟨h1, h2, h3, h4, h5⟩ := isC_iff.1 hc
  obtain ⟨r1, r2, r3, r4⟩ := tmaps_range (d := d) hc
  rw [tnou_len (by omega), tmem_len (by omega) r1]
  exact ord_mul (by omega) r1 r3 (ker_im d hc)
/-- What holds of a member. -/
theorem mem_facts {a q u d x : Int} (h : tacode a q u d = 0) (hx : x ∈ tmem q (tmaps a q u d).1) :
    (0 ≤ x ∧ x < q) ∧ tclcode a q u d x = 0 ∧ tcl a q u d x = x % gcdI q (tmaps a q u d).2 ∧ (0 ≤ x % gcdI q (tmaps a q u d).2 ∧ x % gcdI q (tmaps a q u d).2 ≤ x) ∧ x % gcdI q (tmaps a q u d).2 ∈ tmem q (tmaps a q u d).1 ∧
    x - x % gcdI q (tmaps a q u d).2 ∈ tnou q (tmaps a q u d).2 ∧ (0 ≤ x * a ∧ x * a ≤ 12000) ∧ tclcode a q u d (x * a % q) = 0 ∧ tcl a q u d (x * a % q) = 0 := by
  obtain ⟨hc, hd⟩ := tacode_zero h
  obtain ⟨h1, h2, h3, h4, h5⟩ := isC_iff.1 hc
  obtain ⟨r1, r2, r3, r4⟩ := tmaps_range (d := d) hc
  obtain ⟨⟨x0, x1⟩, x2⟩ := mem_fltL.1 hx
  have hxq : x < q := by omega
  have hk : (tmaps a q u d).1 * x % q = 0 := by simpa using x2
  obtain ⟨_, ⟨g1, g2⟩, _⟩ := tord_bd (d := d) hc
  have m1 := Int.emod_nonneg x (show gcdI q (tmaps a q u d).2 ≠ 0 by omega)
  have m2 : x % gcdI q (tmaps a q u d).2 ≤ x := by
    have := Int.ediv_nonneg x0 (show 0 ≤ gcdI q (tmaps a q u d).2 by omega)
    have := Int.mul_nonneg (show 0 ≤ gcdI q (tmaps a q u d).2 by omega) this
    rw [Int.emod_def]; omega
  have f1 : tclcode a q u d x = 0 := by rw [tclcode, if_pos ⟨h, x0, hxq⟩, if_pos hk]
  have ck := class_ker (by omega) r1 r3 (ker_im d hc) hk
  have f3 : x % gcdI q (tmaps a q u d).2 ∈ tmem q (tmaps a q u d).1 := mem_fltL.2 ⟨by omega, by simpa using ck⟩
  have f4 : x - x % gcdI q (tmaps a q u d).2 ∈ tnou q (tmaps a q u d).2 := mem_fltL.2 ⟨by omega, by
    have : (x - x % gcdI q (tmaps a q u d).2) % gcdI q (tmaps a q u d).2 = 0 := Int.emod_eq_zero_of_dvd (dvd_emod_sub _ _)
    exact beq_iff_eq.2 this⟩
  have b := mul_bd (a := x) (b := a) (x := 200) (y := 60) x0 (by omega) (by omega) (by omega)
  have y1 := Int.emod_nonneg (x * a) (show q ≠ 0 by omega)
  have y2 := Int.emod_lt_of_pos (x * a) (show 0 < q by omega)
  have hky : (tmaps a q u d).1 * (x * a % q) % q = 0 := by
    rw [Int.mul_emod, Int.emod_emod_of_dvd _ (Int.dvd_refl q), ← Int.mul_emod, ← Int.mul_assoc, Int.mul_emod, hk, Int.zero_mul, Int.zero_emod]
  have f5 : tclcode a q u d (x * a % q) = 0 := by rw [tclcode, if_pos ⟨h, y1, y2⟩, if_pos hky]
  have f6 : x * a % q % gcdI q (tmaps a q u d).2 = 0 := by
    have t := times_n d hc hk
    rw [Int.mul_comm] at t
    apply Int.emod_eq_zero_of_dvd
    rw [Int.emod_def]
    exact Int.dvd_sub t (Int.dvd_trans (gcdI_dvd_left _ (by omega)) (Int.dvd_mul_right _ _))
  exact ⟨⟨x0, hxq⟩, f1, by rw [tcl, if_pos f1], ⟨m1, m2⟩, f3, f4, ⟨b.1, by omega⟩, f5, by rw [tcl, if_pos f5, f6]⟩
theorem units_isC {a q : Int} {i : Nat} (hi : i < (unitsL a q).length) : isC a q (rn (unitsL a q) i) = true :=
  (mem_fltL.1 (mem_rn.2 ⟨i, hi, rfl⟩)).2
theorem ct_RCu (n : Nat) (hn : B + 4 + 4 ≤ n) (a q u k : Int) : ∃ r1 r2 r3 r4 : Int, (r4 = 2 ∨ r4 = 0 ∧ isC r1 r2 r3 = true) ∧
    evalCall Try.prog An n 26 [.d (.int .i64 a), .d (.int .i64 q), .d (.int .i64 u), .d (.int .i64 k)] [] = some ⟨.tuple [.d (.int .i64 r1), .d (.int .i64 r2), .d (.int .i64 r3), .d (.int .i64 r4)], [], []⟩ ∧
    evalCall Try.prog An n 27 [.d (.int .i64 a), .d (.int .i64 q), .d (.int .i64 u), .d (.int .i64 k)] [] = some ⟨.tuple [.d (.int .i64 r1), .d (.int .i64 r2), .d (.int .i64 r3), .d (.int .i64 r4)], [], []⟩ := by
  by_cases h : RCok a q u k
  · exact ⟨_, _, _, _, .inr ⟨rfl, rc_isC h⟩, ct_iRC n (by omega) a q u k h, ct_sRC n (by omega) a q u k h⟩
  · exact ⟨_, _, _, _, .inl rfl, ct_iRC_bad n (by omega) a q u k h, ct_sRC_bad n (by omega) a q u k h⟩
end Go.Proofs.YtcdmhlagibjeiaaE
