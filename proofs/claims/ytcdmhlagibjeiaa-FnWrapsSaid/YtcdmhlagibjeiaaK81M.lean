/- Contracts of functions of the program and of the reference: what the evaluator gives for a call of each. -/
import Derived.Test.YtcdmhlagibjeiaaAEf
import Derived.Test.YtcdmhlagibjeiaaK0
import Derived.Test.YtcdmhlagibjeiaaK3
import Derived.Test.YtcdmhlagibjeiaaK4
import Derived.Test.YtcdmhlagibjeiaaK7
import Derived.Test.YtcdmhlagibjeiaaK23
import Derived.Test.YtcdmhlagibjeiaaK31
import Derived.Test.YtcdmhlagibjeiaaK64
import Derived.Test.YtcdmhlagibjeiaaK67
import Derived.Test.YtcdmhlagibjeiaaK68
import Derived.Test.YtcdmhlagibjeiaaK69
import Derived.Test.YtcdmhlagibjeiaaK28
import Derived.Test.YtcdmhlagibjeiaaK40
import Derived.Test.YtcdmhlagibjeiaaK66
import Derived.Test.YtcdmhlagibjeiaaK65
import Derived.Test.YtcdmhlagibjeiaaK15
import Derived.Test.YtcdmhlagibjeiaaK21
import Derived.Test.YtcdmhlagibjeiaaK62
import Derived.Test.YtcdmhlagibjeiaaK16
import Derived.Test.YtcdmhlagibjeiaaK17
import Derived.Test.YtcdmhlagibjeiaaK43
import Derived.Test.YtcdmhlagibjeiaaK5
import Derived.Test.YtcdmhlagibjeiaaK53
namespace Go.Proofs.YtcdmhlagibjeiaaE
open Go Go.Proofs
set_option maxHeartbeats 4000000
set_option maxRecDepth 4000
set_option linter.unusedSimpArgs false
set_option linter.unusedVariables false
set_option pp.deepTerms false
set_option pp.deepTerms.threshold 10
/-! ## Tate groups: lists, norms, reduced circles -/
theorem del_upto (n : Nat) (hn : B + 3 ≤ n) (N : Nat) (hN : N ≤ 10000) (c : Nat) (b : List YtcdmhlagibjeiaaE.D) (Q : Int → Bool) (L : Nat) (hL : L + 2 ≤ n)
    (hF : ∀ m, L ≤ m → ∀ i < N, evalCall Try.prog An m c (.d (.int .i64 i) :: b.map ofD) [] = some ⟨.d (.bool (!Q i)), [], []⟩) (hc : c ∉ An.lend) :
    (fltL Q N = upto N ∧ evalCall Try.prog An n 42 [.own 100000 0, .d (.clo c [] b)] [.row (icells (upto N))] = some ⟨.own 100000 0, [], [some (.row (icells (upto N)))]⟩) ∨
    ∃ Y : List Int, Y.take (fltL Q N).length = fltL Q N ∧ evalCall Try.prog An n 42 [.own 100000 0, .d (.clo c [] b)] [.row (icells (upto N))] = some ⟨.sub 100000 0 0 (fltL Q N).length, [], [some (.row (icells Y))]⟩ := by
  have e : keepL (fun x => ¬ (Q x = true)) (upto N) = fltL Q N := by
    unfold keepL fltL
    apply List.filter_congr
    intro x _
    by_cases hq : Q x = true <;> simp -implicitDefEqProofs (maxSteps := 3000000) [hq]
  rcases ct_DeleteFunc n hn (upto N) (by simp; omega) c b (fun x => ¬ (Q x = true)) L hL (fun m hm i hi => by
    rw [upto_len] at hi
    rw [rn_upto hi, hF m hm i hi]
    by_cases hq : Q i = true <;> simp -implicitDefEqProofs (maxSteps := 3000000) [hq]) hc with ⟨h1, c1⟩ | ⟨Y, h1, c1⟩
  · refine .inl ⟨?_, c1⟩
    rw [← e]
    exact keepL_none h1
  · rw [e] at h1 c1
    exact .inr ⟨Y, h1, c1⟩
theorem ct_TM1 (n : Nat) (hn : B + 1 ≤ n) (q K : Int) (hq : 2 ≤ q ∧ q ≤ 200) (hK : 0 ≤ K ∧ K < q) (i : Nat) (hi : (i : Int) < q) :
    evalCall Try.prog An n 44 [.d (.int .i64 i), .d (.cellp [.int .i64 K]), .d (.cellp [.int .i64 q])] [] = some ⟨.d (.bool (!(K * (i : Int) % q == 0))), [], []⟩ := by
  obtain ⟨m, rfl⟩ : ∃ m, n = m + 1 := ⟨n - 1, by omega⟩
  have hB := B_eq
  simp only [evalCall_at, fb44, bnd_some, bodyOf, Try.f44, Option.getD_some]
  have b := mul_bd (a := K) (b := i) (x := 200) (y := 200) hK.1 (by omega) (by omega) (by omega)
  have w := wrap_id (n := K * i) (by omega)
  have e := tmod_nn q b.1
  have hz : q ≠ 0 := by omega
  by_cases p : K * (i : Int) % q = 0
  · simp -implicitDefEqProofs (maxSteps := 3000000) [w, e, hz, p]
  · simp -implicitDefEqProofs (maxSteps := 3000000) [w, e, hz, p, beq_f p, bne_t p]
theorem ct_TM2 (n : Nat) (hn : B + 2 ≤ n) (q I : Int) (hq : 2 ≤ q ∧ q ≤ 200) (hI : 0 ≤ I ∧ I < q) (i : Nat) (hi : (i : Int) < q) :
    evalCall Try.prog An n 45 [.d (.int .i64 i), .d (.cellp [.int .i64 q]), .d (.cellp [.int .i64 I])] [] = some ⟨.d (.bool (!((i : Int) % gcdI q I == 0))), [], []⟩ := by
  obtain ⟨m, rfl⟩ : ∃ m, n = m + 1 := ⟨n - 1, by omega⟩
  have hB := B_eq
  simp only [evalCall_at, fb45, bnd_some, bodyOf, Try.f45, Option.getD_some]
  have c1 := ct_gcd m (by omega) q I (by omega) (by omega)
  have g := gcdI_pos I (show 0 < q by omega)
  have e := tmod_nn (gcdI q I) (Int.natCast_nonneg i)
  have hz : gcdI q I ≠ 0 := by omega
  by_cases p : (i : Int) % gcdI q I = 0
  · simp -implicitDefEqProofs (maxSteps := 3000000) [c1, e, hz, p]
  · simp -implicitDefEqProofs (maxSteps := 3000000) [c1, e, hz, p, beq_f p, bne_t p]
theorem ct_iTateMembers_bad (n : Nat) (hn : B + 5 + 4 ≤ n) (a q u d : Int) (h : ¬ tacode a q u d = 0) :
    evalCall Try.prog An n 7 [.d (.int .i64 a), .d (.int .i64 q), .d (.int .i64 u), .d (.int .i64 d)] [] = some ⟨.tuple [.d .nil, .d .nil, .d (.int .i64 2)], [], []⟩ := by
  obtain ⟨m, rfl⟩ : ∃ m, n = m + 1 := ⟨n - 1, by omega⟩
  have hB := B_eq
  simp only [evalCall_at, fb7, bnd_some, bodyOf, Try.f7, Option.getD_some]
  have c1 := ct_tateCode m (by omega) a q u d
  rw [tacode_two h] at c1
  simp -implicitDefEqProofs (maxSteps := 3000000) [c1]
theorem ct_iTateMembers (n : Nat) (hn : B + 5 + 6 ≤ n) (a q u d : Int) (h : tacode a q u d = 0) :
    evalCall Try.prog An n 7 [.d (.int .i64 a), .d (.int .i64 q), .d (.int .i64 u), .d (.int .i64 d)] [] = some ⟨.tuple [.own 0 0, .own 1 0, .d (.int .i64 0)], [.row (icells (tmem q (tmaps a q u d).1)), .row (icells (tnou q (tmaps a q u d).2))], []⟩ := by
  obtain ⟨m, rfl⟩ : ∃ m, n = m + 1 := ⟨n - 1, by omega⟩
  have hB := B_eq
  simp only [evalCall_at, fb7, bnd_some, bodyOf, Try.f7, Option.getD_some]
  have c1 := ct_tateCode m (by omega) a q u d
  obtain ⟨hc, hd⟩ := tacode_zero h
  obtain ⟨h1, h2, h3, h4, h5⟩ := isC_iff.1 hc
  have c2 := ct_tate m (by omega) a q u d hc
  obtain ⟨r1, r2, r3, r4⟩ := tmaps_range (d := d) hc
  rw [h] at c1
  unfold tmem tnou
  generalize (tmaps a q u d).1 = K at *
  generalize (tmaps a q u d).2 = I at *
  obtain ⟨N, hN⟩ := Int.eq_ofNat_of_zero_le (show 0 ≤ q by omega)
  have e0 : q.toNat = N := by omega
  have c3 := ct_counting m (by omega) N (by omega)
  rw [show tabI (fun i => (i : Int)) N = upto N from rfl, ← hN] at c3
  rw [e0]
  have l1 := fltL_le (fun x => K * x % q == 0) N
  have l2 := fltL_le (fun y => y % gcdI q I == 0) N
  rcases del_upto m (by omega) N (by omega) 44 [.cellp [.int .i64 K], .cellp [.int .i64 q]] (fun x => K * x % q == 0) (B + 1) (by omega) (fun m hm i hi => by simpa using ct_TM1 m hm q K (by omega) (by omega) i (by omega)) (by simp -implicitDefEqProofs (maxSteps := 3000000)) with ⟨f1, d1⟩ | ⟨Y1, f1, d1⟩ <;>
  rcases del_upto m (by omega) N (by omega) 45 [.cellp [.int .i64 q], .cellp [.int .i64 I]] (fun y => y % gcdI q I == 0) (B + 2) (by omega) (fun m hm i hi => by simpa using ct_TM2 m hm q I (by omega) (by omega) i (by omega)) (by simp -implicitDefEqProofs (maxSteps := 3000000)) with ⟨f2, d2⟩ | ⟨Y2, f2, d2⟩
  · rw [f1, f2]
    simp -implicitDefEqProofs (maxSteps := 3000000) [c1, c2, c3, d1, d2]
  · rw [f1]
    simp -implicitDefEqProofs (maxSteps := 3000000) [c1, c2, c3, d1, d2, f2]
  · rw [f2]
    simp -implicitDefEqProofs (maxSteps := 3000000) [c1, c2, c3, d1, d2, f1]
  · simp -implicitDefEqProofs (maxSteps := 3000000) [c1, c2, c3, d1, d2, f1, f2]
theorem ct_sTateMembers_bad (n : Nat) (hn : B + 6 ≤ n) (a q u d : Int) (h : ¬ tacode a q u d = 0) :
    evalCall Try.prog An n 8 [.d (.int .i64 a), .d (.int .i64 q), .d (.int .i64 u), .d (.int .i64 d)] [] = some ⟨.tuple [.d .nil, .d .nil, .d (.int .i64 2)], [], []⟩ := by
  obtain ⟨m, rfl⟩ : ∃ m, n = m + 1 := ⟨n - 1, by omega⟩
  have hB := B_eq
  simp only [evalCall_at, fb8, bnd_some, bodyOf, Try.f8, Option.getD_some]
  have c1 := ct_l09Code m (by omega) a q u d
  rw [tacode_two h] at c1
  simp -implicitDefEqProofs (maxSteps := 3000000) [c1]
theorem ct_sTateMembers (n : Nat) (hn : B + 6 ≤ n) (a q u d : Int) (h : tacode a q u d = 0) :
    evalCall Try.prog An n 8 [.d (.int .i64 a), .d (.int .i64 q), .d (.int .i64 u), .d (.int .i64 d)] [] = some ⟨.tuple [.own 0 0, .own 1 0, .d (.int .i64 0)], [.row (icells (tmem q (tmaps a q u d).1)), .row (icells (tnou q (tmaps a q u d).2))], []⟩ := by
  obtain ⟨m, rfl⟩ : ∃ m, n = m + 1 := ⟨n - 1, by omega⟩
  have hB := B_eq
  simp only [evalCall_at, fb8, bnd_some, bodyOf, Try.f8, Option.getD_some]
  have c1 := ct_l09Code m (by omega) a q u d
  obtain ⟨hc, hd⟩ := tacode_zero h
  have c2 := ct_l09Members m (by omega) a q u d hc hd
  rw [h] at c1
  simp -implicitDefEqProofs (maxSteps := 3000000) [c1, c2]
def unitsL (a q : Int) : List Int := fltL (fun u => isC a q u) q.toNat
theorem ct_UC1 (n : Nat) (hn : B + 4 ≤ n) (a q : Int) (i : Nat) :
    evalCall Try.prog An n 59 [.d (.int .i64 i), .d (.cellp [.int .i64 a]), .d (.cellp [.int .i64 q])] [] = some ⟨.d (.bool (!(isC a q i))), [], []⟩ := by
  obtain ⟨m, rfl⟩ : ∃ m, n = m + 1 := ⟨n - 1, by omega⟩
  have hB := B_eq
  simp only [evalCall_at, fb59, bnd_some, bodyOf, Try.f59, Option.getD_some]
  have c1 := ct_iIsCircle m (by omega) a q i
  simp -implicitDefEqProofs (maxSteps := 3000000) [c1]
theorem ct_iUnits_bad (n : Nat) (hn : B + 5 + 4 ≤ n) (a q : Int) (h : ¬ ((1 ≤ a ∧ a ≤ 60) ∧ 2 ≤ q ∧ q ≤ 200)) :
    evalCall Try.prog An n 20 [.d (.int .i64 a), .d (.int .i64 q)] [] = some ⟨.tuple [.d .nil, .d (.int .i64 2)], [], []⟩ := by
  obtain ⟨m, rfl⟩ : ∃ m, n = m + 1 := ⟨n - 1, by omega⟩
  have hB := B_eq
  simp only [evalCall_at, fb20, bnd_some, bodyOf, Try.f20, Option.getD_some]
  by_cases h1 : a < 1
  · simp -implicitDefEqProofs (maxSteps := 3000000) [h1]
  by_cases h2 : 60 < a
  · simp -implicitDefEqProofs (maxSteps := 3000000) [h1, h2]
  by_cases h3 : q < 2
  · simp -implicitDefEqProofs (maxSteps := 3000000) [h1, h2, h3]
  by_cases h4 : 200 < q
  · simp -implicitDefEqProofs (maxSteps := 3000000) [h1, h2, h3, h4]
  exact absurd (by omega) h
theorem ct_iUnits (n : Nat) (hn : B + 5 + 6 ≤ n) (a q : Int) (h : (1 ≤ a ∧ a ≤ 60) ∧ 2 ≤ q ∧ q ≤ 200) :
    evalCall Try.prog An n 20 [.d (.int .i64 a), .d (.int .i64 q)] [] = some ⟨.tuple [.own 0 0, .d (.int .i64 0)], [.row (icells (unitsL a q))], []⟩ := by
  obtain ⟨m, rfl⟩ : ∃ m, n = m + 1 := ⟨n - 1, by omega⟩
  have hB := B_eq
  simp only [evalCall_at, fb20, bnd_some, bodyOf, Try.f20, Option.getD_some]
  have h1 : ¬ (a < 1) := by omega
  have h2 : ¬ (60 < a) := by omega
  have h3 : ¬ (q < 2) := by omega
  have h4 : ¬ (200 < q) := by omega
  unfold unitsL
  obtain ⟨N, hN⟩ := Int.eq_ofNat_of_zero_le (show 0 ≤ q by omega)
  have e0 : q.toNat = N := by omega
  have c3 := ct_counting m (by omega) N (by omega)
  rw [show tabI (fun i => (i : Int)) N = upto N from rfl, ← hN] at c3
  rw [e0]
  have l1 := fltL_le (fun u => isC a q u) N
  rcases del_upto m (by omega) N (by omega) 59 [.cellp [.int .i64 a], .cellp [.int .i64 q]] (fun u => isC a q u) (B + 4) (by omega) (fun m hm i hi => by simpa using ct_UC1 m hm a q i) (by simp -implicitDefEqProofs (maxSteps := 3000000)) with ⟨f1, d1⟩ | ⟨Y1, f1, d1⟩
  · rw [f1]
    simp -implicitDefEqProofs (maxSteps := 3000000) [h1, h2, h3, h4, c3, d1]
  · simp -implicitDefEqProofs (maxSteps := 3000000) [h1, h2, h3, h4, c3, d1, f1]
theorem ct_sUnits_bad (n : Nat) (hn : B + 4 ≤ n) (a q : Int) (h : ¬ ((1 ≤ a ∧ a ≤ 60) ∧ 2 ≤ q ∧ q ≤ 200)) :
    evalCall Try.prog An n 21 [.d (.int .i64 a), .d (.int .i64 q)] [] = some ⟨.tuple [.d .nil, .d (.int .i64 2)], [], []⟩ := by
  obtain ⟨m, rfl⟩ : ∃ m, n = m + 1 := ⟨n - 1, by omega⟩
  have hB := B_eq
  simp only [evalCall_at, fb21, bnd_some, bodyOf, Try.f21, Option.getD_some]
  generalize hb0 : Code.loop _ = cc0
  obtain rfl : cc0 = .loop (lp Try.f21 0) := by rw [← hb0]; rfl
  clear hb0
  by_cases h1 : 1 ≤ a ∧ a ≤ 60
  · have c1 := ct_l01In_t m (by omega) a 1 60 h1
    have c2 := ct_l01In_f m (by omega) q 2 200 (fun z => h ⟨h1, z⟩)
    simp -implicitDefEqProofs (maxSteps := 3000000) [c1, c2]
  · have c1 := ct_l01In_f m (by omega) a 1 60 h1
    simp -implicitDefEqProofs (maxSteps := 3000000) [c1]
theorem ct_sUnits (n : Nat) (hn : B + 4 ≤ n) (a q : Int) (h : (1 ≤ a ∧ a ≤ 60) ∧ 2 ≤ q ∧ q ≤ 200) :
    evalCall Try.prog An n 21 [.d (.int .i64 a), .d (.int .i64 q)] [] = some ⟨.tuple [.own 0 0, .d (.int .i64 0)], [.row (icells (unitsL a q))], []⟩ := by
  obtain ⟨m, rfl⟩ : ∃ m, n = m + 1 := ⟨n - 1, by omega⟩
  have hB := B_eq
  simp only [evalCall_at, fb21, bnd_some, bodyOf, Try.f21, Option.getD_some]
  generalize hb0 : Code.loop _ = cc0
  obtain rfl : cc0 = .loop (lp Try.f21 0) := by rw [← hb0]; rfl
  clear hb0
  have c1 := ct_l01In_t m (by omega) a 1 60 h.1
  have c2 := ct_l01In_t m (by omega) q 2 200 h.2
  unfold unitsL
  obtain ⟨N, hN⟩ := Int.eq_ofNat_of_zero_le (show 0 ≤ q by omega)
  have e0 : q.toNat = N := by omega
  have hz : isC a q 0 = false := isC_f fun z => by omega
  have hbase : fltL (fun u => isC a q u) (0 + 1) = [] := by rw [fltL_succ]; simp -implicitDefEqProofs (maxSteps := 3000000) [fltL, upto, hz]
  rw [e0]
  simp -implicitDefEqProofs (maxSteps := 3000000) [c1, c2]
  generalize hx : loopC _ _ _ = x
  generalize hl : lp Try.f21 0 = L at hx
  simp only [lp, bodyOf, Try.f21, Option.getD_some, loopsIn, List.append_nil, List.nil_append, List.cons_append, List.getD, List.getElem?_cons_zero, List.getElem?_cons_succ] at hl
  subst hl
  obtain ⟨qq, rfl, hqq⟩ := loop_end hx (N - 1) (fun i s => ∃ g v, s = ⟨[(0, .d (.int .i64 a)), (1, .d (.int .i64 q)), (6, .own 256 v), (7, .d (.int .i64 ((i : Int) + 1)))], [(256, some (v, .row (icells (fltL (fun u => isC a q u) (i + 1)))))], g⟩)
    (fun qq => ∃ s v, qq = (.exit 0, s) ∧ lookL s.env 0 = some (.d (.int .i64 a)) ∧ lookL s.env 1 = some (.d (.int .i64 q)) ∧ lookL s.env 6 = some (.own 256 v) ∧ lookL s.env 7 = some (.d (.int .i64 (((N - 1) : Int) + 1))) ∧ obsL s.obs 256 = some (v, .row (icells (fltL (fun u => isC a q u) ((N - 1) + 1)))))
    (by show N - 1 < m; omega) (by
      simp -implicitDefEqProofs (maxSteps := 3000000) [hbase])
    (by
      rintro i s hi ⟨g, v, rfl⟩
      have hi2 : (i : Int) + 1 < q := by omega
      have w2 := wrap_id (n := (i : Int) + 1 + 1) (by omega)
      have c3 := ct_sIsCircle m (by omega) a q ((i : Int) + 1)
      have s1 := fltL_succ (fun u => isC a q u) (i + 1)
      have l1 := fltL_le (fun u => isC a q u) (i + 1)
      have ec : ((i + 1 : Nat) : Int) = (i : Int) + 1 := by omega
      rw [ec] at s1
      rw [s1]
      generalize fltL (fun u => isC a q u) (i + 1) = X at *
      have b1 := le_bound (n := X.length) (by omega)
      have b3 := lt_bound (n := X.length) (by omega)
      cases p : isC a q ((i : Int) + 1)
      · rw [p] at c3
        simp -implicitDefEqProofs (maxSteps := 3000000) [hi2, c3, w2, p]
      · rw [p] at c3
        simp -implicitDefEqProofs (maxSteps := 3000000) [hi2, c3, w2, p, b1, b3])
    (by
      rintro s ⟨g, v, rfl⟩
      have h1 : ¬ (((N - 1 : Nat) : Int) + 1 < q) := by omega
      simp -implicitDefEqProofs (maxSteps := 3000000) [h1]
      omega)
  obtain ⟨s, v, rfl, hf⟩ := hqq
  have e1 : N - 1 + 1 = N := by omega
  rw [e1] at hf
  simp -implicitDefEqProofs (maxSteps := 3000000) [hf]
theorem ct_iHerb (n : Nat) (hn : B + 4 ≤ n) (a q u : Int) :
    evalCall Try.prog An n 14 [.d (.int .i64 a), .d (.int .i64 q), .d (.int .i64 u)] [] = some ⟨.tuple [.d (.int .i64 (if isC a q u = true then tord a q u 0 else 0)), .d (.int .i64 (if isC a q u = true then tord a q u 1 else 0)), .d (.int .i64 (if isC a q u = true then 0 else 2))], [], []⟩ := by
  obtain ⟨m, rfl⟩ : ∃ m, n = m + 1 := ⟨n - 1, by omega⟩
  have hB := B_eq
  simp only [evalCall_at, fb14, bnd_some, bodyOf, Try.f14, Option.getD_some]
  have c1 := ct_iIsCircle m (by omega) a q u
  cases h : isC a q u
  · rw [h] at c1
    simp -implicitDefEqProofs (maxSteps := 3000000) [c1]
  · have c2 := ct_tateOrder m (by omega) a q u 0 h
    have c3 := ct_tateOrder m (by omega) a q u 1 h
    rw [h] at c1
    simp -implicitDefEqProofs (maxSteps := 3000000) [c1, c2, c3]
theorem ct_sHerb (n : Nat) (hn : B + 6 ≤ n) (a q u : Int) :
    evalCall Try.prog An n 29 [.d (.int .i64 a), .d (.int .i64 q), .d (.int .i64 u)] [] = some ⟨.tuple [.d (.int .i64 (if isC a q u = true then tord a q u 0 else 0)), .d (.int .i64 (if isC a q u = true then tord a q u 1 else 0)), .d (.int .i64 (if isC a q u = true then 0 else 2))], [], []⟩ := by
  obtain ⟨m, rfl⟩ : ∃ m, n = m + 1 := ⟨n - 1, by omega⟩
  have hB := B_eq
  simp only [evalCall_at, fb29, bnd_some, bodyOf, Try.f29, Option.getD_some]
  have c1 := ct_sIsCircle m (by omega) a q u
  cases h : isC a q u
  · rw [h] at c1
    simp -implicitDefEqProofs (maxSteps := 3000000) [c1]
  · have c2 := ct_sTateOrder m (by omega) a q u 0
    have c3 := ct_sTateOrder m (by omega) a q u 1
    have e0 : tacode a q u 0 = 0 := by rw [tacode, if_pos h, if_pos (by omega)]
    have e1 : tacode a q u 1 = 0 := by rw [tacode, if_pos h, if_pos (by omega)]
    rw [if_pos e0, e0] at c2
    rw [if_pos e1, e1] at c3
    rw [h] at c1
    simp -implicitDefEqProofs (maxSteps := 3000000) [c1, c2, c3]
theorem ct_iNorm (n : Nat) (hn : B + 4 ≤ n) (a q u : Int) :
    evalCall Try.prog An n 23 [.d (.int .i64 a), .d (.int .i64 q), .d (.int .i64 u)] [] = some ⟨.tuple [.d (.int .i64 (if isC a q u = true then sump q u a.toNat % q else 0)), .d (.int .i64 (if isC a q u = true then 0 else 2))], [], []⟩ := by
  obtain ⟨m, rfl⟩ : ∃ m, n = m + 1 := ⟨n - 1, by omega⟩
  have hB := B_eq
  simp only [evalCall_at, fb23, bnd_some, bodyOf, Try.f23, Option.getD_some]
  have c1 := ct_iIsCircle m (by omega) a q u
  cases h : isC a q u
  · rw [h] at c1
    simp -implicitDefEqProofs (maxSteps := 3000000) [c1]
  · obtain ⟨h1, h2, h3, h4, h5⟩ := isC_iff.1 h
    obtain ⟨k, rfl⟩ := Int.eq_ofNat_of_zero_le (show 0 ≤ a by omega)
    have c2 := ct_ladder m (by omega) q u h2 (by omega) k (by omega)
    rw [h] at c1
    simp -implicitDefEqProofs (maxSteps := 3000000) [c1, c2]
theorem ct_sNorm (n : Nat) (hn : B + 4 ≤ n) (a q u : Int) :
    evalCall Try.prog An n 24 [.d (.int .i64 a), .d (.int .i64 q), .d (.int .i64 u)] [] = some ⟨.tuple [.d (.int .i64 (if isC a q u = true then sump q u a.toNat % q else 0)), .d (.int .i64 (if isC a q u = true then 0 else 2))], [], []⟩ := by
  obtain ⟨m, rfl⟩ : ∃ m, n = m + 1 := ⟨n - 1, by omega⟩
  have hB := B_eq
  simp only [evalCall_at, fb24, bnd_some, bodyOf, Try.f24, Option.getD_some]
  have c1 := ct_sIsCircle m (by omega) a q u
  cases h : isC a q u
  · rw [h] at c1
    simp -implicitDefEqProofs (maxSteps := 3000000) [c1]
  · obtain ⟨h1, h2, h3, h4, h5⟩ := isC_iff.1 h
    obtain ⟨k, rfl⟩ := Int.eq_ofNat_of_zero_le (show 0 ≤ a by omega)
    have c2 := ct_l09Norm m (by omega) q u h2 (by omega) k (by omega)
    rw [h] at c1
    simp -implicitDefEqProofs (maxSteps := 3000000) [c1, c2]
def RCok (a q u k : Int) : Prop := isC a q u = true ∧ (1 ≤ k ∧ k ≤ a) ∧ a % k = 0
theorem ct_iRC_bad (n : Nat) (hn : B + 4 ≤ n) (a q u k : Int) (h : ¬ RCok a q u k) :
    evalCall Try.prog An n 26 [.d (.int .i64 a), .d (.int .i64 q), .d (.int .i64 u), .d (.int .i64 k)] [] = some ⟨.tuple [.d (.int .i64 0), .d (.int .i64 0), .d (.int .i64 0), .d (.int .i64 2)], [], []⟩ := by
  obtain ⟨m, rfl⟩ : ∃ m, n = m + 1 := ⟨n - 1, by omega⟩
  have hB := B_eq
  simp only [evalCall_at, fb26, bnd_some, bodyOf, Try.f26, Option.getD_some]
  have c1 := ct_iIsCircle m (by omega) a q u
  cases hc : isC a q u
  · rw [hc] at c1
    simp -implicitDefEqProofs (maxSteps := 3000000) [c1]
  · obtain ⟨h1, h2, h3, h4, h5⟩ := isC_iff.1 hc
    rw [hc] at c1
    by_cases k1 : k < 1
    · simp -implicitDefEqProofs (maxSteps := 3000000) [c1, k1]
    by_cases k2 : a < k
    · simp -implicitDefEqProofs (maxSteps := 3000000) [c1, k1, k2]
    have hz : k ≠ 0 := by omega
    have e := tmod_nn k (show 0 ≤ a by omega)
    have k3 : ¬ a % k = 0 := fun z => h ⟨hc, by omega, z⟩
    simp -implicitDefEqProofs (maxSteps := 3000000) [c1, k1, k2, hz, e, k3, bne_t k3]
theorem ct_iRC (n : Nat) (hn : B + 4 ≤ n) (a q u k : Int) (h : RCok a q u k) :
    evalCall Try.prog An n 26 [.d (.int .i64 a), .d (.int .i64 q), .d (.int .i64 u), .d (.int .i64 k)] [] = some ⟨.tuple [.d (.int .i64 (a / k)), .d (.int .i64 q), .d (.int .i64 (itp q u 1 k.toNat)), .d (.int .i64 0)], [], []⟩ := by
  obtain ⟨m, rfl⟩ : ∃ m, n = m + 1 := ⟨n - 1, by omega⟩
  have hB := B_eq
  simp only [evalCall_at, fb26, bnd_some, bodyOf, Try.f26, Option.getD_some]
  have c1 := ct_iIsCircle m (by omega) a q u
  obtain ⟨hc, hk, hd⟩ := h
  obtain ⟨h1, h2, h3, h4, h5⟩ := isC_iff.1 hc
  rw [hc] at c1
  have k1 : ¬ (k < 1) := by omega
  have k2 : ¬ (a < k) := by omega
  have hz : k ≠ 0 := by omega
  have e := tmod_nn k (show 0 ≤ a by omega)
  have e2 : a.tdiv k = a / k := Int.tdiv_eq_ediv_of_nonneg (by omega)
  have b1 : 0 ≤ a / k := Int.ediv_nonneg (by omega) (by omega)
  have b2 : a / k ≤ a := Int.ediv_le_self k (by omega)
  have w := wrap_id (n := a / k) (by omega)
  obtain ⟨j, rfl⟩ := Int.eq_ofNat_of_zero_le (show 0 ≤ k by omega)
  have c2 := ct_turns m (by omega) q u h2 (by omega) j (by omega)
  have hz2 : j ≠ 0 := by omega
  simp -implicitDefEqProofs (maxSteps := 3000000) [c1, k1, k2, hz, hz2, e, hd, e2, w, c2]
theorem ct_sRC_bad (n : Nat) (hn : B + 4 ≤ n) (a q u k : Int) (h : ¬ RCok a q u k) :
    evalCall Try.prog An n 27 [.d (.int .i64 a), .d (.int .i64 q), .d (.int .i64 u), .d (.int .i64 k)] [] = some ⟨.tuple [.d (.int .i64 0), .d (.int .i64 0), .d (.int .i64 0), .d (.int .i64 2)], [], []⟩ := by
  obtain ⟨m, rfl⟩ : ∃ m, n = m + 1 := ⟨n - 1, by omega⟩
  have hB := B_eq
  simp only [evalCall_at, fb27, bnd_some, bodyOf, Try.f27, Option.getD_some]
  have c1 := ct_sIsCircle m (by omega) a q u
  cases hc : isC a q u
  · rw [hc] at c1
    simp -implicitDefEqProofs (maxSteps := 3000000) [c1]
  · obtain ⟨h1, h2, h3, h4, h5⟩ := isC_iff.1 hc
    rw [hc] at c1
    by_cases k1 : 1 ≤ k ∧ k ≤ a
    · have c2 := ct_l01In_t m (by omega) k 1 a k1
      have hz : k ≠ 0 := by omega
      have e := tmod_nn k (show 0 ≤ a by omega)
      have k3 : ¬ a % k = 0 := fun z => h ⟨hc, k1, z⟩
      simp -implicitDefEqProofs (maxSteps := 3000000) [c1, c2, hz, e, k3, bne_t k3]
    · have c2 := ct_l01In_f m (by omega) k 1 a k1
      simp -implicitDefEqProofs (maxSteps := 3000000) [c1, c2]
theorem ct_sRC (n : Nat) (hn : B + 4 ≤ n) (a q u k : Int) (h : RCok a q u k) :
    evalCall Try.prog An n 27 [.d (.int .i64 a), .d (.int .i64 q), .d (.int .i64 u), .d (.int .i64 k)] [] = some ⟨.tuple [.d (.int .i64 (a / k)), .d (.int .i64 q), .d (.int .i64 (itp q u 1 k.toNat)), .d (.int .i64 0)], [], []⟩ := by
  obtain ⟨m, rfl⟩ : ∃ m, n = m + 1 := ⟨n - 1, by omega⟩
  have hB := B_eq
  simp only [evalCall_at, fb27, bnd_some, bodyOf, Try.f27, Option.getD_some]
  have c1 := ct_sIsCircle m (by omega) a q u
  obtain ⟨hc, hk, hd⟩ := h
  obtain ⟨h1, h2, h3, h4, h5⟩ := isC_iff.1 hc
  rw [hc] at c1
  have c3 := ct_l01In_t m (by omega) k 1 a hk
  have hz : k ≠ 0 := by omega
  have e := tmod_nn k (show 0 ≤ a by omega)
  have e2 : a.tdiv k = a / k := Int.tdiv_eq_ediv_of_nonneg (by omega)
  have b1 : 0 ≤ a / k := Int.ediv_nonneg (by omega) (by omega)
  have b2 : a / k ≤ a := Int.ediv_le_self k (by omega)
  have w := wrap_id (n := a / k) (by omega)
  obtain ⟨j, rfl⟩ := Int.eq_ofNat_of_zero_le (show 0 ≤ k by omega)
  have c2 := ct_l09Power m (by omega) q u h2 (by omega) j (by omega)
  have hz2 : j ≠ 0 := by omega
  simp -implicitDefEqProofs (maxSteps := 3000000) [c1, c3, hz, hz2, e, hd, e2, w, c2]
end Go.Proofs.YtcdmhlagibjeiaaE

namespace Go.Proofs.YtcdmhlagibjeiaaE
open Go Go.Proofs
set_option maxHeartbeats 8000000
set_option maxRecDepth 4000
set_option linter.unusedSimpArgs false
set_option linter.unusedVariables false
set_option pp.deepTerms false
set_option pp.deepTerms.threshold 10
/-! ## drawn circles -/
theorem itp_one {q : Int} (hq : 2 ≤ q) : ∀ k : Nat, itp q 1 1 k = 1
  | 0 => rfl
  | k + 1 => by rw [itp_snoc, itp_one hq k, Int.mul_one, Int.emod_eq_of_lt (by omega) (by omega)]
theorem isC_one {a q : Int} (h : (1 ≤ a ∧ a ≤ 60) ∧ 2 ≤ q ∧ q ≤ 200) : isC a q 1 = true :=
  isC_iff.2 ⟨h.1, h.2, by omega, by unfold gcdI; simp, itp_one (by omega) _⟩
theorem units_one {a q : Int} (h : (1 ≤ a ∧ a ≤ 60) ∧ 2 ≤ q ∧ q ≤ 200) : 0 < (unitsL a q).length ∧ (unitsL a q).length ≤ 200 := by
  have h1 : (1 : Int) ∈ unitsL a q := mem_fltL.2 ⟨by omega, isC_one h⟩
  have h2 := fltL_le (fun u => isC a q u) q.toNat
  exact ⟨List.length_pos_of_mem h1, by unfold unitsL; omega⟩
theorem units_bd {a q : Int} {i : Nat} (hi : i < (unitsL a q).length) : 0 ≤ rn (unitsL a q) i ∧ rn (unitsL a q) i < q := by
  have h1 : rn (unitsL a q) i ∈ unitsL a q := mem_rn.2 ⟨i, hi, rfl⟩
  have := (mem_fltL.1 h1).1
  omega
structure CBd (a q u : Int) : Prop where
  a : -1 ≤ a ∧ a ≤ 62
  q : 0 ≤ q ∧ q ≤ 202
  u : -1 ≤ u ∧ u ≤ 202
theorem ct_l09Draw (n : Nat) (hn : B + 4 + 3 ≤ n) (l : List Int) (p : Nat) (S : SrcOk l p) (h : Int) :
    ∃ (a q u : Int) (p' : Nat) (h' : Int), SrcOk l p' ∧ CBd a q u ∧ evalCall Try.prog An n 60 [.ptr 100000 0 0] [srcB l p h] = some ⟨.tuple [.d (.int .i64 a), .d (.int .i64 q), .d (.int .i64 u)], [], [some (srcB l p' h')]⟩ := by
  obtain ⟨m, rfl⟩ : ∃ m, n = m + 1 := ⟨n - 1, by omega⟩
  have hB := B_eq
  simp only [evalCall_at, fb60, bnd_some, bodyOf, Try.f60, Option.getD_some]
  obtain ⟨i1, p1, g1, S1, hi1, c1⟩ := ct_l01Pick m (by omega) l p S h [4, 8, 12, 60] (by simp -implicitDefEqProofs (maxSteps := 3000000))
  have b1 : 1 ≤ rn [4, 8, 12, 60] i1 ∧ rn [4, 8, 12, 60] i1 ≤ 60 := by
    have e : i1 = 0 ∨ i1 = 1 ∨ i1 = 2 ∨ i1 = 3 := by simp -implicitDefEqProofs (maxSteps := 3000000) at hi1; omega
    rcases e with rfl | rfl | rfl | rfl <;> simp -implicitDefEqProofs (maxSteps := 3000000) [rn]
  rw [show ints [4, 8, 12, 60] = .sl 1 [.int .i64 4, .int .i64 8, .int .i64 12, .int .i64 60] from rfl] at c1
  generalize rn [4, 8, 12, 60] i1 = k1 at *
  obtain ⟨r1, p2, g2, S2, d1, c2⟩ := ct_l01Next m (by omega) l p1 S1 g1 k1
  have e1 := d1.2 (by omega)
  obtain ⟨i2, p3, g3, S3, hi2, c3⟩ := ct_l01Pick m (by omega) l p2 S2 g2 [5, 11, 11, 30, 199] (by simp -implicitDefEqProofs (maxSteps := 3000000))
  have b2 : 1 ≤ rn [5, 11, 11, 30, 199] i2 ∧ rn [5, 11, 11, 30, 199] i2 ≤ 199 := by
    have e : i2 = 0 ∨ i2 = 1 ∨ i2 = 2 ∨ i2 = 3 ∨ i2 = 4 := by simp -implicitDefEqProofs (maxSteps := 3000000) at hi2; omega
    rcases e with rfl | rfl | rfl | rfl | rfl <;> simp -implicitDefEqProofs (maxSteps := 3000000) [rn]
  rw [show ints [5, 11, 11, 30, 199] = .sl 1 [.int .i64 5, .int .i64 11, .int .i64 11, .int .i64 30, .int .i64 199] from rfl] at c3
  generalize rn [5, 11, 11, 30, 199] i2 = k2 at *
  obtain ⟨r2, p4, g4, S4, d2, c4⟩ := ct_l01Next m (by omega) l p3 S3 g3 k2
  have e2 := d2.2 (by omega)
  have w1 := wrap_id (n := 1 + r1) (by omega)
  have w2 := wrap_id (n := 2 + r2) (by omega)
  have hU : (1 ≤ 1 + r1 ∧ 1 + r1 ≤ 60) ∧ 2 ≤ 2 + r2 ∧ 2 + r2 ≤ 200 := by omega
  have c5 := ct_sUnits m (by omega) (1 + r1) (2 + r2) hU
  have ul := units_one hU
  have w3 := wrap_id (n := ((unitsL (1 + r1) (2 + r2)).length : Int)) (by omega)
  obtain ⟨r3, p5, g5, S5, d3, c6⟩ := ct_l01Next m (by omega) l p4 S4 g4 (unitsL (1 + r1) (2 + r2)).length
  have e3 := d3.2 (by omega)
  obtain ⟨j, rfl⟩ := Int.eq_ofNat_of_zero_le e3.1
  have hj : j < (unitsL (1 + r1) (2 + r2)).length := by omega
  have bu := units_bd hj
  obtain ⟨z, p6, g6, S6, d4, c7⟩ := ct_l01Next m (by omega) l p5 S5 g5 24
  have wa := wrap_id (n := 1 + r1 + 1) (by omega)
  have wq := wrap_id (n := 2 + r2 + 1) (by omega)
  generalize unitsL (1 + r1) (2 + r2) = UL at *
  generalize hua : rn UL j = u at *
  generalize h1a : 1 + r1 = a at *
  generalize h2a : 2 + r2 = q at *
  by_cases z0 : z = 0
  · obtain ⟨i3, p7, g7, S7, hi3, c8⟩ := ct_l01Pick m (by omega) l p6 S6 g6 [0, 61, -1, a + 1] (by simp -implicitDefEqProofs (maxSteps := 3000000))
    have b3 : -1 ≤ rn [0, 61, -1, a + 1] i3 ∧ rn [0, 61, -1, a + 1] i3 ≤ 61 := by
      have e : i3 = 0 ∨ i3 = 1 ∨ i3 = 2 ∨ i3 = 3 := by simp -implicitDefEqProofs (maxSteps := 3000000) at hi3; omega
      rcases e with rfl | rfl | rfl | rfl <;> simp -implicitDefEqProofs (maxSteps := 3000000) [rn] <;> omega
    rw [show ints [0, 61, -1, a + 1] = .sl 1 [.int .i64 0, .int .i64 61, .int .i64 (-1), .int .i64 (a + 1)] from rfl] at c8
    generalize rn [0, 61, -1, a + 1] i3 = k3 at *
    refine ⟨k3, q, u, p7, g7, S7, ⟨by omega, by omega, by omega⟩, ?_⟩
    subst z0
    simp only [srcB] at c1 c2 c3 c4 c6 c7 c8 ⊢
    simp -implicitDefEqProofs (maxSteps := 3000000) [c1, c2, c3, c4, c5, c6, c7, c8, w1, w2, w3, wa, h1a, h2a, hj, hua]
  by_cases z1 : z = 1
  · obtain ⟨i3, p7, g7, S7, hi3, c8⟩ := ct_l01Pick m (by omega) l p6 S6 g6 [1, 201, 0, q + 1] (by simp -implicitDefEqProofs (maxSteps := 3000000))
    have b3 : 0 ≤ rn [1, 201, 0, q + 1] i3 ∧ rn [1, 201, 0, q + 1] i3 ≤ 201 := by
      have e : i3 = 0 ∨ i3 = 1 ∨ i3 = 2 ∨ i3 = 3 := by simp -implicitDefEqProofs (maxSteps := 3000000) at hi3; omega
      rcases e with rfl | rfl | rfl | rfl <;> simp -implicitDefEqProofs (maxSteps := 3000000) [rn] <;> omega
    rw [show ints [1, 201, 0, q + 1] = .sl 1 [.int .i64 1, .int .i64 201, .int .i64 0, .int .i64 (q + 1)] from rfl] at c8
    generalize rn [1, 201, 0, q + 1] i3 = k3 at *
    refine ⟨a, k3, u, p7, g7, S7, ⟨by omega, by omega, by omega⟩, ?_⟩
    subst z1
    simp only [srcB] at c1 c2 c3 c4 c6 c7 c8 ⊢
    simp -implicitDefEqProofs (maxSteps := 3000000) [c1, c2, c3, c4, c5, c6, c7, c8, w1, w2, w3, wq, h1a, h2a, hj, hua]
  by_cases z2 : z = 2
  · obtain ⟨i3, p7, g7, S7, hi3, c8⟩ := ct_l01Pick m (by omega) l p6 S6 g6 [0, -1, q, 2] (by simp -implicitDefEqProofs (maxSteps := 3000000))
    have b3 : -1 ≤ rn [0, -1, q, 2] i3 ∧ rn [0, -1, q, 2] i3 ≤ 200 := by
      have e : i3 = 0 ∨ i3 = 1 ∨ i3 = 2 ∨ i3 = 3 := by simp -implicitDefEqProofs (maxSteps := 3000000) at hi3; omega
      rcases e with rfl | rfl | rfl | rfl <;> simp -implicitDefEqProofs (maxSteps := 3000000) [rn] <;> omega
    rw [show ints [0, -1, q, 2] = .sl 1 [.int .i64 0, .int .i64 (-1), .int .i64 q, .int .i64 2] from rfl] at c8
    generalize rn [0, -1, q, 2] i3 = k3 at *
    refine ⟨a, q, k3, p7, g7, S7, ⟨by omega, by omega, by omega⟩, ?_⟩
    subst z2
    simp only [srcB] at c1 c2 c3 c4 c6 c7 c8 ⊢
    simp -implicitDefEqProofs (maxSteps := 3000000) [c1, c2, c3, c4, c5, c6, c7, c8, w1, w2, w3, h1a, h2a, hj, hua]
  · refine ⟨a, q, u, p6, g6, S6, ⟨by omega, by omega, by omega⟩, ?_⟩
    simp only [srcB] at c1 c2 c3 c4 c6 c7 ⊢
    simp -implicitDefEqProofs (maxSteps := 3000000) [c1, c2, c3, c4, c5, c6, c7, w1, w2, w3, h1a, h2a, hj, hua, z0, z1, z2, beq_f z0, beq_f z1, beq_f z2]
end Go.Proofs.YtcdmhlagibjeiaaE

namespace Go.Proofs.YtcdmhlagibjeiaaE
open Go Go.Proofs
set_option maxHeartbeats 8000000
set_option maxRecDepth 4000
set_option linter.unusedSimpArgs false
set_option linter.unusedVariables false
set_option pp.deepTerms false
set_option pp.deepTerms.threshold 10
/-! ## drawn arguments -/
theorem nz : ((0 : Nat) : Int) = 0 := rfl
structure CodeOk (l : List Int) : Prop where
  hl : l.length ≤ 1000000000000
  hb : ∀ i < l.length, 0 ≤ rn l i ∧ rn l i < 256
theorem CodeOk.src {l : List Int} (C : CodeOk l) : SrcOk l 0 := ⟨C.hl, Nat.zero_le _, C.hb⟩
theorem tmem_zero {q K : Int} (hq : 2 ≤ q ∧ q ≤ 200) : 0 < (tmem q K).length ∧ (tmem q K).length ≤ 200 := by
  have h1 : (0 : Int) ∈ tmem q K := mem_fltL.2 ⟨by omega, by simp⟩
  have h2 := fltL_le (fun x => K * x % q == 0) q.toNat
  exact ⟨List.length_pos_of_mem h1, by unfold tmem; omega⟩
theorem tmem_bd {q K : Int} {i : Nat} (hi : i < (tmem q K).length) : 0 ≤ rn (tmem q K) i ∧ rn (tmem q K) i < q := by
  have h1 : rn (tmem q K) i ∈ tmem q K := mem_rn.2 ⟨i, hi, rfl⟩
  have := (mem_fltL.1 h1).1
  omega
theorem ct_l09With (n : Nat) (hn : B + 4 + 5 ≤ n) (l : List Int) (C : CodeOk l) :
    ∃ (a q u d x : Int), CBd a q u ∧ (-1000 ≤ d ∧ d ≤ 1001) ∧ (-9223372036854775808 ≤ x ∧ x < 9223372036854775808) ∧ evalCall Try.prog An n 39 [.d (.pin (bcells l))] [] = some ⟨.tuple [.d (.int .i64 a), .d (.int .i64 q), .d (.int .i64 u), .d (.int .i64 d), .d (.int .i64 x)], [], []⟩ := by
  obtain ⟨m, rfl⟩ : ∃ m, n = m + 1 := ⟨n - 1, by omega⟩
  have hB := B_eq
  simp only [evalCall_at, fb39, bnd_some, bodyOf, Try.f39, Option.getD_some]
  obtain ⟨g0, c0⟩ := ct_l01From m (by omega) l C.hl C.hb
  obtain ⟨a, q, u, p1, g1, S1, bd, c1⟩ := ct_l09Draw m (by omega) l 0 C.src g0
  obtain ⟨i2, p2, g2, S2, hi2, c2⟩ := ct_l01Pick m (by omega) l p1 S1 g1 [0, 1, 2, 3, -1, -2, 1000, -1000, 1001] (by simp -implicitDefEqProofs (maxSteps := 3000000))
  have b2 : -1000 ≤ rn [0, 1, 2, 3, -1, -2, 1000, -1000, 1001] i2 ∧ rn [0, 1, 2, 3, -1, -2, 1000, -1000, 1001] i2 ≤ 1001 := by
    have e : i2 = 0 ∨ i2 = 1 ∨ i2 = 2 ∨ i2 = 3 ∨ i2 = 4 ∨ i2 = 5 ∨ i2 = 6 ∨ i2 = 7 ∨ i2 = 8 := by simp -implicitDefEqProofs (maxSteps := 3000000) at hi2; omega
    rcases e with rfl | rfl | rfl | rfl | rfl | rfl | rfl | rfl | rfl <;> simp -implicitDefEqProofs (maxSteps := 3000000) [rn]
  rw [show ints [0, 1, 2, 3, -1, -2, 1000, -1000, 1001] = .sl 1 [.int .i64 0, .int .i64 1, .int .i64 2, .int .i64 3, .int .i64 (-1), .int .i64 (-2), .int .i64 1000, .int .i64 (-1000), .int .i64 1001] from rfl] at c2
  generalize rn [0, 1, 2, 3, -1, -2, 1000, -1000, 1001] i2 = d at *
  obtain ⟨mn, hmn⟩ : ∃ z : Int, (if 200 < q then (200 : Int) else q) = z := ⟨_, rfl⟩
  have bq := bd.q
  have bmn : 0 ≤ mn ∧ mn ≤ 200 := by rw [← hmn]; split <;> omega
  have w1 := wrap_id (n := mn - 1) (by omega)
  obtain ⟨k, hk⟩ : ∃ z : Int, (if mn - 1 < 0 then (0 : Int) else mn - 1) = z := ⟨_, rfl⟩
  have bk : 0 ≤ k ∧ k < 1000 := by rw [← hk]; split <;> omega
  obtain ⟨x, p3, g3, S3, bx, c3⟩ := ct_l01Near m (by omega) l p2 S2 g2 k (by omega)
  have c4 := ct_sIsCircle m (by omega) a q u
  cases hc : isC a q u
  · rw [hc] at c4
    refine ⟨a, q, u, d, x, bd, b2, bx, ?_⟩
    simp only [srcB, nz] at c0 c1 c2 c3
    simp -implicitDefEqProofs (maxSteps := 3000000) [c0, c1, c2, c3, c4, hmn, w1, hk]
  · rw [hc] at c4
    obtain ⟨h1, h2, h3, h4, h5⟩ := isC_iff.1 hc
    by_cases hd : -1000 ≤ d ∧ d ≤ 1000
    · have c5 := ct_l01In_t m (by omega) d (-1000) 1000 hd
      obtain ⟨r, p4, g4, S4, d4, c6⟩ := ct_l01Next m (by omega) l p3 S3 g3 4
      by_cases hr : 0 < r
      · have c7 := ct_l09Members m (by omega) a q u d hc hd
        have tl := tmem_zero (K := (tmaps a q u d).1) h2
        have w2 := wrap_id (n := ((tmem q (tmaps a q u d).1).length : Int)) (by omega)
        obtain ⟨r5, p5, g5, S5, d5, c8⟩ := ct_l01Next m (by omega) l p4 S4 g4 (tmem q (tmaps a q u d).1).length
        have e5 := d5.2 (by omega)
        obtain ⟨j, rfl⟩ := Int.eq_ofNat_of_zero_le e5.1
        have hj : j < (tmem q (tmaps a q u d).1).length := by omega
        have bx5 := tmem_bd hj
        generalize tmem q (tmaps a q u d).1 = X at *
        refine ⟨a, q, u, d, rn X j, bd, b2, by omega, ?_⟩
        simp only [srcB, nz] at c0 c1 c2 c3 c6 c8
        simp -implicitDefEqProofs (maxSteps := 3000000) [c0, c1, c2, c3, c4, c5, c6, c7, c8, hmn, w1, w2, hk, hr, hj]
      · refine ⟨a, q, u, d, x, bd, b2, bx, ?_⟩
        simp only [srcB, nz] at c0 c1 c2 c3 c6
        simp -implicitDefEqProofs (maxSteps := 3000000) [c0, c1, c2, c3, c4, c5, c6, hmn, w1, hk, hr]
    · have c5 := ct_l01In_f m (by omega) d (-1000) 1000 hd
      refine ⟨a, q, u, d, x, bd, b2, bx, ?_⟩
      simp only [srcB, nz] at c0 c1 c2 c3
      simp -implicitDefEqProofs (maxSteps := 3000000) [c0, c1, c2, c3, c4, c5, hmn, w1, hk]
theorem ct_DrawTM (n : Nat) (hn : B + 4 + 6 ≤ n) (l : List Int) (C : CodeOk l) :
    ∃ (a q u d : Int), CBd a q u ∧ (-1000 ≤ d ∧ d ≤ 1001) ∧ evalCall Try.prog An n 6 [.d (.pin (bcells l))] [] = some ⟨.tuple [.d (.int .i64 a), .d (.int .i64 q), .d (.int .i64 u), .d (.int .i64 d)], [], []⟩ := by
  obtain ⟨m, rfl⟩ : ∃ m, n = m + 1 := ⟨n - 1, by omega⟩
  have hB := B_eq
  simp only [evalCall_at, fb6, bnd_some, bodyOf, Try.f6, Option.getD_some]
  obtain ⟨a, q, u, d, x, bd, b2, bx, c1⟩ := ct_l09With m (by omega) l C
  refine ⟨a, q, u, d, bd, b2, ?_⟩
  simp -implicitDefEqProofs (maxSteps := 3000000) [c1]
theorem ct_DrawTC (n : Nat) (hn : B + 4 + 6 ≤ n) (l : List Int) (C : CodeOk l) :
    ∃ (a q u d x : Int), evalCall Try.prog An n 17 [.d (.pin (bcells l))] [] = some ⟨.tuple [.d (.int .i64 a), .d (.int .i64 q), .d (.int .i64 u), .d (.int .i64 d), .d (.int .i64 x)], [], []⟩ := by
  obtain ⟨m, rfl⟩ : ∃ m, n = m + 1 := ⟨n - 1, by omega⟩
  have hB := B_eq
  simp only [evalCall_at, fb17, bnd_some, bodyOf, Try.f17, Option.getD_some]
  obtain ⟨a, q, u, d, x, bd, b2, bx, c1⟩ := ct_l09With m (by omega) l C
  refine ⟨a, q, u, d, x, ?_⟩
  simp -implicitDefEqProofs (maxSteps := 3000000) [c1]
theorem ct_DrawUC (n : Nat) (hn : B + 6 ≤ n) (l : List Int) (C : CodeOk l) :
    ∃ (a q : Int), evalCall Try.prog An n 19 [.d (.pin (bcells l))] [] = some ⟨.tuple [.d (.int .i64 a), .d (.int .i64 q)], [], []⟩ := by
  obtain ⟨m, rfl⟩ : ∃ m, n = m + 1 := ⟨n - 1, by omega⟩
  have hB := B_eq
  simp only [evalCall_at, fb19, bnd_some, bodyOf, Try.f19, Option.getD_some]
  obtain ⟨g0, c0⟩ := ct_l01From m (by omega) l C.hl C.hb
  obtain ⟨x, p3, g3, S3, bx, c3⟩ := ct_l01Near m (by omega) l 0 C.src g0 59 (by omega)
  obtain ⟨y, p4, g4, S4, by_, c4⟩ := ct_l01Near m (by omega) l p3 S3 g3 198 (by omega)
  refine ⟨IntKind.i64.wrap (1 + x), IntKind.i64.wrap (2 + y), ?_⟩
  simp only [srcB, nz] at c0 c3 c4
  simp -implicitDefEqProofs (maxSteps := 3000000) [c0, c3, c4]
theorem ct_DrawCN (n : Nat) (hn : B + 4 + 6 ≤ n) (l : List Int) (C : CodeOk l) :
    ∃ (a q u : Int), evalCall Try.prog An n 22 [.d (.pin (bcells l))] [] = some ⟨.tuple [.d (.int .i64 a), .d (.int .i64 q), .d (.int .i64 u)], [], []⟩ := by
  obtain ⟨m, rfl⟩ : ∃ m, n = m + 1 := ⟨n - 1, by omega⟩
  have hB := B_eq
  simp only [evalCall_at, fb22, bnd_some, bodyOf, Try.f22, Option.getD_some]
  obtain ⟨g0, c0⟩ := ct_l01From m (by omega) l C.hl C.hb
  obtain ⟨a, q, u, p1, g1, S1, bd, c1⟩ := ct_l09Draw m (by omega) l 0 C.src g0
  refine ⟨a, q, u, ?_⟩
  simp only [srcB, nz] at c0 c1
  simp -implicitDefEqProofs (maxSteps := 3000000) [c0, c1]
theorem ct_DrawHO (n : Nat) (hn : B + 4 + 6 ≤ n) (l : List Int) (C : CodeOk l) :
    ∃ (a q u : Int), evalCall Try.prog An n 28 [.d (.pin (bcells l))] [] = some ⟨.tuple [.d (.int .i64 a), .d (.int .i64 q), .d (.int .i64 u)], [], []⟩ := by
  obtain ⟨m, rfl⟩ : ∃ m, n = m + 1 := ⟨n - 1, by omega⟩
  have hB := B_eq
  simp only [evalCall_at, fb28, bnd_some, bodyOf, Try.f28, Option.getD_some]
  obtain ⟨g0, c0⟩ := ct_l01From m (by omega) l C.hl C.hb
  obtain ⟨a, q, u, p1, g1, S1, bd, c1⟩ := ct_l09Draw m (by omega) l 0 C.src g0
  refine ⟨a, q, u, ?_⟩
  simp only [srcB, nz] at c0 c1
  simp -implicitDefEqProofs (maxSteps := 3000000) [c0, c1]
theorem ct_DrawRC (n : Nat) (hn : B + 4 + 6 ≤ n) (l : List Int) (C : CodeOk l) :
    ∃ (a q u k : Int), evalCall Try.prog An n 25 [.d (.pin (bcells l))] [] = some ⟨.tuple [.d (.int .i64 a), .d (.int .i64 q), .d (.int .i64 u), .d (.int .i64 k)], [], []⟩ := by
  obtain ⟨m, rfl⟩ : ∃ m, n = m + 1 := ⟨n - 1, by omega⟩
  have hB := B_eq
  simp only [evalCall_at, fb25, bnd_some, bodyOf, Try.f25, Option.getD_some]
  obtain ⟨g0, c0⟩ := ct_l01From m (by omega) l C.hl C.hb
  obtain ⟨a, q, u, p1, g1, S1, bd, c1⟩ := ct_l09Draw m (by omega) l 0 C.src g0
  obtain ⟨i2, p2, g2, S2, hi2, c2⟩ := ct_l01Pick m (by omega) l p1 S1 g1 [1, 2, 3, 4, a, 0, -1] (by simp -implicitDefEqProofs (maxSteps := 3000000))
  rw [show ints [1, 2, 3, 4, a, 0, -1] = .sl 1 [.int .i64 1, .int .i64 2, .int .i64 3, .int .i64 4, .int .i64 a, .int .i64 0, .int .i64 (-1)] from rfl] at c2
  generalize rn [1, 2, 3, 4, a, 0, -1] i2 = k at *
  refine ⟨a, q, u, k, ?_⟩
  simp only [srcB, nz] at c0 c1 c2
  simp -implicitDefEqProofs (maxSteps := 3000000) [c0, c1, c2]
end Go.Proofs.YtcdmhlagibjeiaaE

namespace Go.Proofs.YtcdmhlagibjeiaaE
open Go Go.Proofs
set_option maxHeartbeats 8000000
set_option maxRecDepth 4000
set_option linter.unusedSimpArgs false
set_option linter.unusedVariables false
set_option pp.deepTerms false
set_option pp.deepTerms.threshold 10
/-! ## FnTate: what it compares -/
theorem ct_big (n : Nat) (hn : B + 1 ≤ n) (l : List Int) :
    evalCall Try.prog An n 5 [.d (.pin (bcells l))] [] = some ⟨.d (.bool (decide (4096 < l.length))), [], []⟩ := by
  obtain ⟨m, rfl⟩ : ∃ m, n = m + 1 := ⟨n - 1, by omega⟩
  have hB := B_eq
  simp only [evalCall_at, fb5, bnd_some, bodyOf, Try.f5, Option.getD_some]
  by_cases h : 4096 < l.length
  · have h2 : (4096 : Int) < l.length := by omega
    simp -implicitDefEqProofs (maxSteps := 3000000) [h, h2]
  · have h2 : ¬ (4096 : Int) < l.length := by omega
    simp -implicitDefEqProofs (maxSteps := 3000000) [h, h2]
theorem ct_like_nil (n : Nat) (hn : B + 1 ≤ n) :
    evalCall Try.prog An n 11 [.d .nil, .d .nil] [] = some ⟨.d (.bool true), [], []⟩ := by
  obtain ⟨m, rfl⟩ : ∃ m, n = m + 1 := ⟨n - 1, by omega⟩
  have hB := B_eq
  simp only [evalCall_at, fb11, bnd_some, bodyOf, Try.f11, Option.getD_some]
  generalize hb0 : Code.loop _ = cc0
  obtain rfl : cc0 = .loop (lp Try.f11 0) := by rw [← hb0]; rfl
  clear hb0
  simp -implicitDefEqProofs (maxSteps := 3000000)
  generalize hx : loopC _ _ _ = x
  generalize hl : lp Try.f11 0 = L at hx
  simp only [lp, bodyOf, Try.f11, Option.getD_some, loopsIn, List.append_nil, List.nil_append, List.cons_append, List.getD, List.getElem?_cons_zero, List.getElem?_cons_succ] at hl
  subst hl
  obtain ⟨qq, rfl, hqq⟩ := loop_end hx (0) (fun i s => ∃ g, s = ⟨[(0, .d .nil), (1, .d .nil), (5, .d (.int .i64 i))], [], g⟩)
    (fun qq => ∃ s, qq = (.exit 0, s) ∧ lookL s.env 0 = some (.d .nil) ∧ lookL s.env 1 = some (.d .nil) ∧ lookL s.env 5 = some (.d (.int .i64 (0))))
    (by show 0 < m; omega) (by
      simp -implicitDefEqProofs (maxSteps := 3000000))
    (by
      rintro i s hi ⟨g, rfl⟩
      omega)
    (by
      rintro s ⟨g, rfl⟩
      simp -implicitDefEqProofs (maxSteps := 3000000))
  obtain ⟨s, rfl, hf⟩ := hqq
  simp -implicitDefEqProofs (maxSteps := 3000000) [hf]
theorem ct_like (n : Nat) (hn : B + 1 ≤ n) (l : List Int) (hl : l.length ≤ 1000000) :
    evalCall Try.prog An n 11 [.d (ints l), .d (ints l)] [] = some ⟨.d (.bool true), [], []⟩ := by
  obtain ⟨m, rfl⟩ : ∃ m, n = m + 1 := ⟨n - 1, by omega⟩
  have hB := B_eq
  simp only [evalCall_at, fb11, bnd_some, bodyOf, Try.f11, Option.getD_some]
  generalize hb0 : Code.loop _ = cc0
  obtain rfl : cc0 = .loop (lp Try.f11 0) := by rw [← hb0]; rfl
  clear hb0
  simp -implicitDefEqProofs (maxSteps := 3000000)
  generalize hx : loopC _ _ _ = x
  generalize hl : lp Try.f11 0 = L at hx
  simp only [lp, bodyOf, Try.f11, Option.getD_some, loopsIn, List.append_nil, List.nil_append, List.cons_append, List.getD, List.getElem?_cons_zero, List.getElem?_cons_succ] at hl
  subst hl
  obtain ⟨qq, rfl, hqq⟩ := loop_end hx (l.length) (fun i s => ∃ g, s = ⟨[(0, .d (ints l)), (1, .d (ints l)), (5, .d (.int .i64 i))], [], g⟩)
    (fun qq => ∃ s, qq = (.exit 0, s) ∧ lookL s.env 0 = some (.d (ints l)) ∧ lookL s.env 1 = some (.d (ints l)) ∧ lookL s.env 5 = some (.d (.int .i64 (l.length))))
    (by show l.length < m; omega) (by
      simp -implicitDefEqProofs (maxSteps := 3000000))
    (by
      rintro i s hi ⟨g, rfl⟩
      have w2 := wrap_id (n := (i : Int) + 1) (by omega)
      simp -implicitDefEqProofs (maxSteps := 3000000) [hi, w2])
    (by
      rintro s ⟨g, rfl⟩
      simp -implicitDefEqProofs (maxSteps := 3000000))
  obtain ⟨s, rfl, hf⟩ := hqq
  simp -implicitDefEqProofs (maxSteps := 3000000) [hf]
theorem ct_has (n : Nat) (hn : B + 1 ≤ n) (l : List Int) (hl : l.length ≤ 1000000) (x : Int) (hx0 : x ∈ l) :
    evalCall Try.prog An n 16 [.d (ints l), .d (.int .i64 x)] [] = some ⟨.d (.bool true), [], []⟩ := by
  obtain ⟨m, rfl⟩ : ∃ m, n = m + 1 := ⟨n - 1, by omega⟩
  have hB := B_eq
  simp only [evalCall_at, fb16, bnd_some, bodyOf, Try.f16, Option.getD_some]
  generalize hb0 : Code.loop _ = cc0
  obtain rfl : cc0 = .loop (lp Try.f16 0) := by rw [← hb0]; rfl
  clear hb0
  simp -implicitDefEqProofs (maxSteps := 3000000)
  generalize hx : loopC _ _ _ = y
  generalize hl : lp Try.f16 0 = L at hx
  simp only [lp, bodyOf, Try.f16, Option.getD_some, loopsIn, List.append_nil, List.nil_append, List.cons_append, List.getD, List.getElem?_cons_zero, List.getElem?_cons_succ] at hl
  subst hl
  rcases loop_chk hx l.length 0 (fun i => rn l i ≠ x)
    (fun i g => ⟨[(0, .d (ints l)), (1, .d (.int .i64 x)), (5, .d (.int .i64 i))], [], g⟩)
    (fun s => True) (fun s => lookL s.env 4 = some (.d (.bool true)))
    (by show l.length < m; omega) (by simp -implicitDefEqProofs (maxSteps := 3000000))
    (by
      rintro i g hi hp
      have w2 := wrap_id (n := (i : Int) + 1) (by omega)
      by_cases p : rn l i = x
      · simp -implicitDefEqProofs (maxSteps := 3000000) [hi, p]
      · simp -implicitDefEqProofs (maxSteps := 3000000) [hi, p, beq_f p, w2])
    (by
      rintro g
      simp -implicitDefEqProofs (maxSteps := 3000000)) with ⟨h1, s, rfl, _⟩ | ⟨⟨i, hi, h1⟩, s, rfl, h2⟩
  · obtain ⟨i, hi, e⟩ := mem_rn.1 hx0
    exact absurd e (h1 i hi)
  · simp -implicitDefEqProofs (maxSteps := 3000000) [h2]
/-! ## powers -/
theorem itp_pow {m u : Int} (hm : 2 ≤ m) : ∀ k : Nat, itp m u 1 k = u ^ k % m
  | 0 => by rw [Int.pow_zero, Int.emod_eq_of_lt (by omega) (by omega)]; rfl
  | k + 1 => by rw [itp_snoc, itp_pow hm k, Int.pow_succ, Int.mul_emod, Int.emod_emod_of_dvd _ (Int.dvd_refl m), ← Int.mul_emod]
theorem emod_pow (x m : Int) : ∀ j : Nat, (x % m) ^ j % m = x ^ j % m
  | 0 => by rw [Int.pow_zero, Int.pow_zero]
  | j + 1 => by rw [Int.pow_succ, Int.pow_succ, Int.mul_emod, emod_pow x m j, Int.emod_emod_of_dvd _ (Int.dvd_refl m), ← Int.mul_emod]
theorem pow_pow (x : Int) (k : Nat) : ∀ j : Nat, (x ^ k) ^ j = x ^ (k * j)
  | 0 => by rw [Nat.mul_zero, Int.pow_zero, Int.pow_zero]
  | j + 1 => by rw [Int.pow_succ, pow_pow x k j, Nat.mul_succ, ← Int.pow_add]
theorem itp_mul {m u : Int} (hm : 2 ≤ m) (k j : Nat) : itp m (itp m u 1 k) 1 j = itp m u 1 (k * j) := by
  rw [itp_pow hm, itp_pow hm k, itp_pow hm (k * j), emod_pow, pow_pow]
theorem itp_zero {m : Int} (hm : 2 ≤ m) {j : Nat} (hj : 0 < j) : itp m 0 1 j = 0 := by
  rw [itp_pow hm, Int.zero_pow (by omega), Int.zero_emod]
/-- A reduced circle is one. -/
theorem rc_isC {a q u k : Int} (h : RCok a q u k) : isC (a / k) q (itp q u 1 k.toNat) = true := by
  obtain ⟨hc, hk, hd⟩ := h
  obtain ⟨h1, h2, h3, h4, h5⟩ := isC_iff.1 hc
  have hak := Int.mul_ediv_cancel' (Int.dvd_of_emod_eq_zero hd)
  have b1 : 0 ≤ a / k := Int.ediv_nonneg (by omega) (by omega)
  have b2 : a / k ≤ a := Int.ediv_le_self k (by omega)
  obtain ⟨j, hj⟩ := Int.eq_ofNat_of_zero_le b1
  obtain ⟨i, rfl⟩ := Int.eq_ofNat_of_zero_le (show 0 ≤ k by omega)
  rw [hj] at hak b2 ⊢
  rw [Int.toNat_natCast]
  have ha : a.toNat = i * j := by rw [← hak, ← Int.natCast_mul, Int.toNat_natCast]
  rw [ha] at h5
  have hj0 : 0 < j := by
    rcases Nat.eq_zero_or_pos j with z | z
    · rw [z] at hak; simp -implicitDefEqProofs (maxSteps := 3000000) at hak; omega
    · exact z
  have e1 : itp q (itp q u 1 i) 1 j = 1 := by rw [itp_mul (by omega)]; exact h5
  have r := itp_range (u := u) (show 0 < q by omega) i 1 (by omega) (by omega)
  have nz : itp q u 1 i ≠ 0 := by
    intro z
    rw [z, itp_zero (by omega) hj0] at e1
    omega
  have g1 : gcdI q (itp q u 1 i) = 1 := by
    have hd1 := gcdI_dvd_left (itp q u 1 i) (show 0 ≤ q by omega)
    have hd2 := gcdI_dvd_right q r.1
    have hp := gcdI_pos (itp q u 1 i) (show 0 < q by omega)
    generalize gcdI q (itp q u 1 i) = g at *
    have hd3 : g ∣ itp q (itp q u 1 i) 1 j := by
      rw [itp_pow (by omega), Int.emod_def]
      refine Int.dvd_sub ?_ (Int.dvd_trans hd1 (Int.dvd_mul_right _ _))
      obtain ⟨j', rfl⟩ : ∃ j', j = j' + 1 := ⟨j - 1, by omega⟩
      rw [Int.pow_succ]
      exact Int.dvd_trans hd2 (Int.dvd_mul_left _ _)
    rw [e1] at hd3
    have := Int.le_of_dvd (by omega) hd3
    omega
  refine isC_iff.2 ⟨⟨by omega, by omega⟩, h2, ⟨by omega, r.2⟩, g1, ?_⟩
  rw [Int.toNat_natCast]
  exact e1
theorem tord_par {a q u : Int} (d e : Int) : tord a q u d = tord a q u e := by
  unfold tord tmaps
  by_cases h1 : d % 2 = 0 <;> by_cases h2 : e % 2 = 0 <;> simp only [h1, h2, if_true, if_false] <;> first | rfl | rw [Int.mul_comm]
theorem tord_len {a q u d : Int} (hc : isC a q u = true) : tord a q u d * ((tnou q (tmaps a q u d).2).length : Int) = ((tmem q (tmaps a q u d).1).length : Int) := by
  obtain ⟨h1, h2, h3, h4, h5⟩ := isC_iff.1 hc
  obtain ⟨r1, r2, r3, r4⟩ := tmaps_range (d := d) hc
  rw [tnou_len (by omega), tmem_len (by omega) r1]
  exact ord_mul (by omega) r1 r3 (ker_im d hc)
/-- What holds of a member. -/
theorem mem_facts {a q u d x : Int} (h : tacode a q u d = 0) (hx : x ∈ tmem q (tmaps a q u d).1) :
    (0 ≤ x ∧ x < q) ∧ tclcode a q u d x = 0 ∧ tcl a q u d x = x % gcdI q (tmaps a q u d).2 ∧ (0 ≤ x % gcdI q (tmaps a q u d).2 ∧ x % gcdI q (tmaps a q u d).2 ≤ x) ∧ x % gcdI q (tmaps a q u d).2 ∈ tmem q (tmaps a q u d).1 ∧
    x - x % gcdI q (tmaps a q u d).2 ∈ tnou q (tmaps a q u d).2 ∧ (0 ≤ x * a ∧ x * a ≤ 12000) ∧ tclcode a q u d (x * a % q) = 0 ∧ tcl a q u d (x * a % q) = 0 := by
  obtain ⟨hc, hd⟩ := tacode_zero h
  obtain ⟨h1, h2, h3, h4, h5⟩ := isC_iff.1 hc
  obtain ⟨r1, r2, r3, r4⟩ := tmaps_range (d := d) hc
  obtain ⟨⟨x0, x1⟩, x2⟩ := mem_fltL.1 hx
  have hxq : x < q := by omega
  have hk : (tmaps a q u d).1 * x % q = 0 := by simpa using x2
  obtain ⟨_, ⟨g1, g2⟩, _⟩ := tord_bd (d := d) hc
  have m1 := Int.emod_nonneg x (show gcdI q (tmaps a q u d).2 ≠ 0 by omega)
  have m2 : x % gcdI q (tmaps a q u d).2 ≤ x := by
    have := Int.ediv_nonneg x0 (show 0 ≤ gcdI q (tmaps a q u d).2 by omega)
    have := Int.mul_nonneg (show 0 ≤ gcdI q (tmaps a q u d).2 by omega) this
    rw [Int.emod_def]; omega
  have f1 : tclcode a q u d x = 0 := by rw [tclcode, if_pos ⟨h, x0, hxq⟩, if_pos hk]
  have ck := class_ker (by omega) r1 r3 (ker_im d hc) hk
  have f3 : x % gcdI q (tmaps a q u d).2 ∈ tmem q (tmaps a q u d).1 := mem_fltL.2 ⟨by omega, by simpa using ck⟩
  have f4 : x - x % gcdI q (tmaps a q u d).2 ∈ tnou q (tmaps a q u d).2 := mem_fltL.2 ⟨by omega, by
    have : (x - x % gcdI q (tmaps a q u d).2) % gcdI q (tmaps a q u d).2 = 0 := Int.emod_eq_zero_of_dvd (dvd_emod_sub _ _)
    exact beq_iff_eq.2 this⟩
  have b := mul_bd (a := x) (b := a) (x := 200) (y := 60) x0 (by omega) (by omega) (by omega)
  have y1 := Int.emod_nonneg (x * a) (show q ≠ 0 by omega)
  have y2 := Int.emod_lt_of_pos (x * a) (show 0 < q by omega)
  have hky : (tmaps a q u d).1 * (x * a % q) % q = 0 := by
    rw [Int.mul_emod, Int.emod_emod_of_dvd _ (Int.dvd_refl q), ← Int.mul_emod, ← Int.mul_assoc, Int.mul_emod, hk, Int.zero_mul, Int.zero_emod]
  have f5 : tclcode a q u d (x * a % q) = 0 := by rw [tclcode, if_pos ⟨h, y1, y2⟩, if_pos hky]
  have f6 : x * a % q % gcdI q (tmaps a q u d).2 = 0 := by
    have t := times_n d hc hk
    rw [Int.mul_comm] at t
    apply Int.emod_eq_zero_of_dvd
    rw [Int.emod_def]
    exact Int.dvd_sub t (Int.dvd_trans (gcdI_dvd_left _ (by omega)) (Int.dvd_mul_right _ _))
  exact ⟨⟨x0, hxq⟩, f1, by rw [tcl, if_pos f1], ⟨m1, m2⟩, f3, f4, ⟨b.1, by omega⟩, f5, by rw [tcl, if_pos f5, f6]⟩
theorem units_isC {a q : Int} {i : Nat} (hi : i < (unitsL a q).length) : isC a q (rn (unitsL a q) i) = true :=
  (mem_fltL.1 (mem_rn.2 ⟨i, hi, rfl⟩)).2
theorem ct_RCu (n : Nat) (hn : B + 4 + 4 ≤ n) (a q u k : Int) : ∃ r1 r2 r3 r4 : Int, (r4 = 2 ∨ r4 = 0 ∧ isC r1 r2 r3 = true) ∧
    evalCall Try.prog An n 26 [.d (.int .i64 a), .d (.int .i64 q), .d (.int .i64 u), .d (.int .i64 k)] [] = some ⟨.tuple [.d (.int .i64 r1), .d (.int .i64 r2), .d (.int .i64 r3), .d (.int .i64 r4)], [], []⟩ ∧
    evalCall Try.prog An n 27 [.d (.int .i64 a), .d (.int .i64 q), .d (.int .i64 u), .d (.int .i64 k)] [] = some ⟨.tuple [.d (.int .i64 r1), .d (.int .i64 r2), .d (.int .i64 r3), .d (.int .i64 r4)], [], []⟩ := by
  by_cases h : RCok a q u k
  · exact ⟨_, _, _, _, .inr ⟨rfl, rc_isC h⟩, ct_iRC n (by omega) a q u k h, ct_sRC n (by omega) a q u k h⟩
  · exact ⟨_, _, _, _, .inl rfl, ct_iRC_bad n (by omega) a q u k h, ct_sRC_bad n (by omega) a q u k h⟩
end Go.Proofs.YtcdmhlagibjeiaaE

namespace Go.Proofs.YtcdmhlagibjeiaaE
open Go Go.Proofs
set_option maxHeartbeats 4000000
set_option maxRecDepth 4000
set_option linter.unusedSimpArgs false
set_option linter.unusedVariables false
set_option pp.deepTerms false
set_option pp.deepTerms.threshold 10
/-! ## tables over lists, and cyclic groups -/
def numN (b : Nat) (l : List Int) : Nat → Nat
  | 0 => 0
  | k + 1 => numN b l k * b + (rn l k - 1).toNat
theorem numN_A {N : Nat} (hN : 1 ≤ N) {l : List Int} : ∀ k : Nat, (∀ j < k, 1 ≤ rn l j ∧ rn l j < N) → numA N l k = ((numN (N - 1) l k : Nat) : Int)
  | 0, _ => rfl
  | k + 1, h => by
    have h3 := h k (by omega)
    have e : (N : Int) - 1 = ((N - 1 : Nat) : Int) := by omega
    rw [numA, numN, numN_A hN k (fun j hj => h j (by omega)), e, Int.natCast_add, Int.natCast_mul]
    omega
theorem numN_div {b : Nat} {l : List Int} {n : Nat} (h : ∀ j < n, 1 ≤ rn l j ∧ rn l j ≤ b) (k : Nat) : ∀ j : Nat, k + j ≤ n → numN b l (k + j) / b ^ j = numN b l k
  | 0, _ => by simp -implicitDefEqProofs (maxSteps := 3000000)
  | j + 1, hj => by
    have h3 := h (k + j) (by omega)
    have hb : 0 < b := by omega
    rw [← Nat.add_assoc, numN, Nat.pow_succ', ← Nat.div_div_eq_div_mul, Nat.mul_comm (numN b l (k + j)) b, Nat.mul_add_div hb, Nat.div_eq_of_lt (show (rn l (k + j) - 1).toNat < b by omega), Nat.add_zero]
    exact numN_div h k j (by omega)
theorem digs_num {b : Nat} {l : List Int} (h : ∀ j < l.length, 1 ≤ rn l j ∧ rn l j ≤ b) : digs b l.length (numN b l l.length) = l := by
  apply List.ext_getElem
  · simp -implicitDefEqProofs (maxSteps := 3000000)
  · intro k h1 h2
    have h3 := h k h2
    have e := numN_div h (k + 1) (l.length - 1 - k) (by omega)
    rw [show k + 1 + (l.length - 1 - k) = l.length by omega] at e
    have g : rn l k = l[k] := by simp -implicitDefEqProofs (maxSteps := 3000000) [rn, h2]
    have hb : 0 < b := by omega
    simp only [digs, tabI, List.getElem_map, List.getElem_range, dig]
    rw [e, numN, Nat.mul_comm, Nat.mul_add_mod, Nat.mod_eq_of_lt (by omega), ← g]
    omega
theorem numN_lt {b : Nat} {l : List Int} : ∀ k : Nat, (∀ j < k, 1 ≤ rn l j ∧ rn l j ≤ b) → numN b l k < b ^ k
  | 0, _ => by simp -implicitDefEqProofs (maxSteps := 3000000) [numN]
  | k + 1, h => by
    have h3 := h k (by omega)
    have ih := numN_lt k (fun j hj => h j (by omega))
    have := Nat.mul_le_mul_right b ih
    rw [numN, Nat.pow_succ, Nat.succ_mul] at *
    omega
theorem atv_tab {N : Nat} (hN : 1 ≤ N) {F : List Int → Int} {l : List Int} {d : Nat} (hd : l.length = d) (hl : InG N l) (h0 : ¬ NoZ l → F l = 0) : atv N (tabI (fun i => F (digs (N - 1) d i)) ((N - 1) ^ d)) l = F l := by
  subst hd
  unfold atv
  by_cases h : NoZ l
  · have hb : ∀ j < l.length, 1 ≤ rn l j ∧ rn l j < N := fun j hj => by
      have := hl j hj
      have := h j hj
      omega
    have hb2 : ∀ j < l.length, 1 ≤ rn l j ∧ rn l j ≤ ((N - 1 : Nat) : Int) := fun j hj => by
      have := hb j hj
      omega
    rw [if_pos h, numN_A hN l.length hb, Int.toNat_natCast, rn_tabI _ (numN_lt _ hb2), digs_num hb2]
  · rw [if_neg h, h0 h]
theorem cl_cy {N a b : Nat} (ha : a < N) (hb : b < N) : cl (cyG N) a b = (((a + b) % N : Nat) : Int) := by
  show rn (rown (cyG N) a) b = _
  rw [cyG, rown_tabM _ ha, cyR, rn_tabI _ hb, cyE]
  rfl
theorem cy_group {N : Nat} (hN : 1 ≤ N ∧ N ≤ 8) : IsGr (cyG N) := by
  have hl : (cyG N).length = N := cyG_len N
  have hp : 0 < N := by omega
  refine ⟨⟨by rw [hl]; exact hN, ?_⟩, ?_⟩
  · intro a ha
    rw [hl] at ha ⊢
    refine ⟨by rw [cyG, rown_tabM _ ha]; simp -implicitDefEqProofs (maxSteps := 3000000) [cyR], fun b hb => ?_⟩
    rw [cl_cy ha hb]
    have := Nat.mod_lt (a + b) hp
    omega
  · intro a ha
    rw [hl] at ha
    refine ⟨⟨?_, ?_⟩, ?_, ?_⟩
    · rw [cl_cy hp ha, Nat.zero_add, Nat.mod_eq_of_lt ha]
    · rw [cl_cy ha hp, Nat.add_zero, Nat.mod_eq_of_lt ha]
    · intro b hb d hd
      rw [hl] at hb hd
      rw [cl_cy ha hb, cl_cy hb hd, Int.toNat_natCast, Int.toNat_natCast, cl_cy (Nat.mod_lt _ hp) hd, cl_cy ha (Nat.mod_lt _ hp)]
      simp -implicitDefEqProofs (maxSteps := 3000000) [Nat.add_assoc]
    · rw [hl]
      refine ⟨(N - a) % N, Nat.mod_lt _ hp, ?_, ?_⟩
      · rw [cl_cy ha (Nat.mod_lt _ hp)]
        simp -implicitDefEqProofs (maxSteps := 3000000) [show a + (N - a) = N by omega]
      · rw [cl_cy (Nat.mod_lt _ hp) ha]
        simp -implicitDefEqProofs (maxSteps := 3000000) [show N - a + a = N by omega]
theorem emod_mul_l (q x y : Int) : x % q * y % q = x * y % q := by rw [Int.mul_emod, Int.emod_emod_of_dvd _ (Int.dvd_refl q), ← Int.mul_emod]
theorem emod_mul_r (q x y : Int) : x * (y % q) % q = x * y % q := by rw [Int.mul_emod, Int.emod_emod_of_dvd _ (Int.dvd_refl q), ← Int.mul_emod]
theorem itp_add {q u : Int} (hq : 2 ≤ q) (a : Nat) : ∀ b : Nat, itp q u 1 (a + b) = itp q u 1 a * itp q u 1 b % q
  | 0 => by
    have := itp_range (u := u) (show 0 < q by omega) a 1 (by omega) (by omega)
    simp only [Nat.add_zero, itp, Int.mul_one]
    rw [Int.emod_eq_of_lt this.1 this.2]
  | b + 1 => by
    rw [← Nat.add_assoc, itp_snoc, itp_add hq a b, itp_snoc q u b 1, emod_mul_l, emod_mul_r, Int.mul_assoc]
theorem itp_per {q u : Int} (hq : 2 ≤ q) {N : Nat} (h : itp q u 1 N = 1) (k : Nat) : itp q u 1 (N + k) = itp q u 1 k := by
  have := itp_range (u := u) (show 0 < q by omega) k 1 (by omega) (by omega)
  rw [itp_add hq, h, Int.one_mul, Int.emod_eq_of_lt this.1 this.2]
def cyU (q u : Int) (N : Nat) : List Int := tabI (itp q u 1) N
@[simp] theorem cyU_len (q u : Int) (N : Nat) : (cyU q u N).length = N := by simp -implicitDefEqProofs (maxSteps := 3000000) [cyU]
theorem rn_cyU {q u : Int} {N k : Nat} (h : k < N) : rn (cyU q u N) k = itp q u 1 k := rn_tabI _ h
theorem itp_mod {q u : Int} (hq : 2 ≤ q) {N : Nat} (h : itp q u 1 N = 1) {a b : Nat} (ha : a < N) (hb : b < N) : itp q u 1 ((a + b) % N) = itp q u 1 (a + b) := by
  by_cases h1 : a + b < N
  · rw [Nat.mod_eq_of_lt h1]
  · have e : a + b = N + (a + b - N) := by omega
    rw [e, itp_per hq h, Nat.add_mod_left, Nat.mod_eq_of_lt (by omega)]
theorem gcd_of_inv {q x y : Int} (hq : 2 ≤ q) (hx : 0 ≤ x) (h : x * y % q = 1) : gcdI x q = 1 := by
  have h1 := gcdI_dvd_left (a := x) q hx
  have h2 := gcdI_dvd_right x (b := q) (by omega)
  have h3 : gcdI x q ∣ 1 := by
    rw [← h, Int.emod_def]
    exact Int.dvd_sub (Int.dvd_trans h1 (Int.dvd_mul_right _ _)) (Int.dvd_trans h2 (Int.dvd_mul_right _ _))
  have h4 : 0 ≤ gcdI x q := by unfold gcdI; omega
  exact Int.eq_one_of_dvd_one h4 h3
theorem cy_module {q u : Int} {N : Nat} (hN : 1 ≤ N ∧ N ≤ 8) (hq : 2 ≤ q ∧ q ≤ 12) (h : itp q u 1 N = 1) : IsMo (cyG N) q (cyU q u N) := by
  have hp : 0 < N := by omega
  refine ⟨⟨hq, by simp⟩, ?_, ?_⟩
  · intro k hk
    rw [cyU_len] at hk
    rw [rn_cyU hk]
    have r := itp_range (u := u) (show 0 < q by omega) k 1 (by omega) (by omega)
    have e := itp_add (u := u) hq.1 k (N - k)
    rw [show k + (N - k) = N by omega, h] at e
    refine ⟨⟨?_, by omega⟩, gcd_of_inv hq.1 r.1 e.symm⟩
    by_cases z : itp q u 1 k = 0
    · rw [z, Int.zero_mul, Int.zero_emod] at e; omega
    · omega
  · intro a ha b hb
    rw [cyU_len] at ha hb
    rw [cl_cy ha hb, Int.toNat_natCast, rn_cyU (Nat.mod_lt _ hp), rn_cyU ha, rn_cyU hb, itp_mod hq.1 h ha hb, itp_add hq.1]
end Go.Proofs.YtcdmhlagibjeiaaE

namespace Go.Proofs.YtcdmhlagibjeiaaE
open Go Go.Proofs
set_option maxHeartbeats 4000000
set_option maxRecDepth 4000
set_option linter.unusedSimpArgs false
set_option linter.unusedVariables false
set_option pp.deepTerms false
set_option pp.deepTerms.threshold 10
/-! ## wraps and ladders are cocycles -/
def wrF (n x : Int) (l : List Int) : Int := if n ≤ rn l 0 + rn l 1 then x else 0
def laF (q u x : Int) (l : List Int) : Int := x * sump q u (rn l 0).toNat % q
def wrV (N : Nat) (x : Int) : List Int := tabI (fun i => wrF N x (digs (N - 1) 2 i)) ((N - 1) ^ 2)
def laV (N : Nat) (q u x : Int) : List Int := tabI (fun i => laF q u x (digs (N - 1) 1 i)) ((N - 1) ^ 1)
theorem inG2c {N a b : Nat} (ha : a < N) (hb : b < N) : InG N [(a : Int), (b : Int)] := fun i hi => by
  have e : i = 0 ∨ i = 1 := by simp -implicitDefEqProofs (maxSteps := 3000000) at hi; omega
  rcases e with rfl | rfl <;> simp -implicitDefEqProofs (maxSteps := 3000000) [rn] <;> omega
theorem inG1c {N a : Nat} (ha : a < N) : InG N [(a : Int)] := fun i hi => by
  have e : i = 0 := by simp -implicitDefEqProofs (maxSteps := 3000000) at hi; omega
  subst e
  simp -implicitDefEqProofs (maxSteps := 3000000) [rn]; omega
theorem atv_wr {N a b : Nat} {x : Int} (ha : a < N) (hb : b < N) : atv N (wrV N x) [(a : Int), (b : Int)] = if N ≤ a + b then x else 0 := by
  rw [wrV, atv_tab (by omega) (by rfl) (inG2c ha hb)]
  · show (if (N : Int) ≤ (a : Int) + (b : Int) then x else 0) = _
    by_cases h : N ≤ a + b
    · rw [if_pos h, if_pos (by omega)]
    · rw [if_neg h, if_neg (by omega)]
  · intro hz
    by_cases h0 : a = 0
    · subst h0; simp -implicitDefEqProofs (maxSteps := 3000000) [wrF, rn]; omega
    · by_cases h1 : b = 0
      · subst h1; simp -implicitDefEqProofs (maxSteps := 3000000) [wrF, rn]; omega
      · refine absurd (fun i hi => ?_) hz
        have e : i = 0 ∨ i = 1 := by simp -implicitDefEqProofs (maxSteps := 3000000) at hi; omega
        rcases e with rfl | rfl <;> simp -implicitDefEqProofs (maxSteps := 3000000) [rn] <;> omega
theorem atv_la {N a : Nat} {q u x : Int} (ha : a < N) : atv N (laV N q u x) [(a : Int)] = x * sump q u a % q := by
  rw [laV, atv_tab (by omega) (by rfl) (inG1c ha)]
  · simp -implicitDefEqProofs (maxSteps := 3000000) [laF, rn]
  · intro hz
    by_cases h0 : a = 0
    · subst h0; simp -implicitDefEqProofs (maxSteps := 3000000) [laF, rn, sump]
    · refine absurd (fun i hi => ?_) hz
      have e : i = 0 := by simp -implicitDefEqProofs (maxSteps := 3000000) at hi; omega
      subst e
      simp -implicitDefEqProofs (maxSteps := 3000000) [rn]; omega
theorem digs3 {b i : Nat} (hb : i < b ^ 3) : ∃ a c d : Nat, (1 ≤ a ∧ a ≤ b) ∧ (1 ≤ c ∧ c ≤ b) ∧ (1 ≤ d ∧ d ≤ b) ∧ digs b 3 i = [(a : Int), (c : Int), (d : Int)] := by
  have h := digs_bd hb
  have e : digs b 3 i = [dig b 3 i 0, dig b 3 i 1, dig b 3 i 2] := rfl
  have h0 := h 0 (by omega)
  have h1 := h 1 (by omega)
  have h2 := h 2 (by omega)
  rw [rn_digs (by omega)] at h0 h1 h2
  exact ⟨(dig b 3 i 0).toNat, (dig b 3 i 1).toNat, (dig b 3 i 2).toNat, by omega, by omega, by omega, by rw [e, Int.toNat_of_nonneg (by omega), Int.toNat_of_nonneg (by omega), Int.toNat_of_nonneg (by omega)]⟩
theorem digs2 {b i : Nat} (hb : i < b ^ 2) : ∃ a c : Nat, (1 ≤ a ∧ a ≤ b) ∧ (1 ≤ c ∧ c ≤ b) ∧ digs b 2 i = [(a : Int), (c : Int)] := by
  have h := digs_bd hb
  have e : digs b 2 i = [dig b 2 i 0, dig b 2 i 1] := rfl
  have h0 := h 0 (by omega)
  have h1 := h 1 (by omega)
  rw [rn_digs (by omega)] at h0 h1
  exact ⟨(dig b 2 i 0).toNat, (dig b 2 i 1).toNat, by omega, by omega, by rw [e, Int.toNat_of_nonneg (by omega), Int.toNat_of_nonneg (by omega)]⟩
theorem mod_carry {N a b : Nat} (ha : a < N) (hb : b < N) : (a + b) % N = if N ≤ a + b then a + b - N else a + b := by
  by_cases h : N ≤ a + b
  · rw [if_pos h, show a + b = N + (a + b - N) by omega, Nat.add_mod_left, Nat.mod_eq_of_lt (by omega)]
    omega
  · rw [if_neg h, Nat.mod_eq_of_lt (by omega)]
theorem sideV3 (T : List (List Int)) (U V : List Int) (a c d : Int) : sideV T U V [a, c, d] = rn U a.toNat * atv T.length V [c, d] - atv T.length V [cl T a.toNat c.toNat, d] + atv T.length V [a, cl T c.toNat d.toNat] - atv T.length V [a, c] := by
  simp -implicitDefEqProofs (maxSteps := 3000000) [sideV, sdA, mrg, sgn, rn]
  omega
theorem sideV2 (T : List (List Int)) (U V : List Int) (a c : Int) : sideV T U V [a, c] = rn U a.toNat * atv T.length V [c] - atv T.length V [cl T a.toNat c.toNat] + atv T.length V [a] := by
  simp -implicitDefEqProofs (maxSteps := 3000000) [sideV, sdA, mrg, sgn, rn]
  omega
theorem wr_cocycle {N : Nat} {q u x : Int} (hN : 1 ≤ N ∧ N ≤ 8) (hq : 2 ≤ q ∧ q ≤ 12) (hx : q ∣ (u - 1) * x) : IsCy (cyG N) q (cyU q u N) (wrV N x) 2 := by
  intro i hi
  unfold bnd1
  rw [cyG_len] at hi ⊢
  obtain ⟨a, b, c, ha, hb, hc, e⟩ := digs3 hi
  rw [e, sideV3, cyG_len, Int.toNat_natCast, Int.toNat_natCast, Int.toNat_natCast, cl_cy (by omega) (by omega), cl_cy (by omega) (by omega), rn_cyU (by omega),
    atv_wr (by omega) (by omega), atv_wr (Nat.mod_lt _ (by omega)) (by omega), atv_wr (by omega) (Nat.mod_lt _ (by omega)), atv_wr (by omega) (by omega), mod_carry (show a < N by omega) (show b < N by omega), mod_carry (show b < N by omega) (show c < N by omega)]
  have k := pow_fix hx a
  apply Int.emod_eq_zero_of_dvd
  by_cases h1 : N ≤ b + c
  · simp only [if_pos h1]
    by_cases h2 : N ≤ a + b
    · simp only [if_pos h2]
      by_cases h3 : N ≤ a + (b + c - N)
      · rw [if_pos h3, if_pos (show N ≤ a + b - N + c by omega)]
        refine Int.dvd_trans k ⟨1, by omega⟩
      · rw [if_neg h3, if_neg (show ¬ N ≤ a + b - N + c by omega)]
        refine Int.dvd_trans k ⟨1, by omega⟩
    · simp only [if_neg h2]
      by_cases h3 : N ≤ a + (b + c - N)
      · omega
      · rw [if_neg h3, if_pos (show N ≤ a + b + c by omega)]
        refine Int.dvd_trans k ⟨1, by omega⟩
  · simp only [if_neg h1]
    by_cases h2 : N ≤ a + b
    · simp only [if_pos h2]
      rw [if_neg (show ¬ N ≤ a + b - N + c by omega), if_pos (show N ≤ a + (b + c) by omega)]
      exact ⟨0, by simp only [Int.mul_zero]; omega⟩
    · simp only [if_neg h2]
      by_cases h3 : N ≤ a + b + c
      · rw [if_pos h3, if_pos (show N ≤ a + (b + c) by omega)]
        exact ⟨0, by simp only [Int.mul_zero]; omega⟩
      · rw [if_neg h3, if_neg (show ¬ N ≤ a + (b + c) by omega)]
        exact ⟨0, by simp only [Int.mul_zero]; omega⟩
theorem sump_add {q u : Int} (hq : 2 ≤ q) (a : Nat) : ∀ b : Nat, q ∣ sump q u (a + b) - sump q u a - itp q u 1 a * sump q u b
  | 0 => by simp -implicitDefEqProofs (maxSteps := 3000000) [sump]
  | b + 1 => by
    obtain ⟨t, h⟩ := sump_add (u := u) hq a b
    have e := itp_add (u := u) hq a b
    rw [Int.emod_def] at e
    exact ⟨t - itp q u 1 a * itp q u 1 b / q, by rw [← Nat.add_assoc, sump, sump, e]; grind⟩
theorem la_cocycle {N : Nat} {q u x : Int} (hN : 1 ≤ N ∧ N ≤ 8) (hq : 2 ≤ q ∧ q ≤ 12) (hu : itp q u 1 N = 1) (hx : q ∣ x * sump q u N) : IsCy (cyG N) q (cyU q u N) (laV N q u x) 1 := by
  intro i hi
  unfold bnd1
  rw [cyG_len] at hi ⊢
  obtain ⟨a, b, ha, hb, e⟩ := digs2 hi
  rw [e, sideV2, cyG_len, Int.toNat_natCast, Int.toNat_natCast, cl_cy (by omega) (by omega), rn_cyU (by omega), atv_la (by omega), atv_la (Nat.mod_lt _ (by omega)), atv_la (by omega), mod_carry (show a < N by omega) (show b < N by omega)]
  apply Int.emod_eq_zero_of_dvd
  obtain ⟨t1, h1⟩ := sump_add (u := u) hq.1 a b
  rw [Int.emod_def, Int.emod_def, Int.emod_def]
  generalize x * sump q u b / q = t2
  generalize x * sump q u a / q = t3
  by_cases h : N ≤ a + b
  · rw [if_pos h]
    generalize x * sump q u (a + b - N) / q = t4
    obtain ⟨t5, h5⟩ := sump_add (u := u) hq.1 N (a + b - N)
    obtain ⟨t6, h6⟩ := hx
    rw [hu, show N + (a + b - N) = a + b by omega] at h5
    generalize sump q u (a + b - N) = s1 at *
    generalize sump q u (a + b) = s2 at *
    exact ⟨-(x * t1) - itp q u 1 a * t2 + t4 - t3 + t6 + x * t5, by grind⟩
  · rw [if_neg h]
    generalize x * sump q u (a + b) / q = t4
    exact ⟨-(x * t1) - itp q u 1 a * t2 + t4 - t3, by grind⟩
end Go.Proofs.YtcdmhlagibjeiaaE

namespace Go.Proofs.YtcdmhlagibjeiaaE
open Go Go.Proofs
set_option maxHeartbeats 4000000
set_option maxRecDepth 4000
set_option linter.unusedSimpArgs false
set_option linter.unusedVariables false
set_option pp.deepTerms false
set_option pp.deepTerms.threshold 10
/-! ## wraps and ladders, the program -/
def WrOk (a q u x : Int) : Prop := (isC a q u = true ∧ a ≤ 8 ∧ q ≤ 12) ∧ 0 ≤ x ∧ x ≤ q - 1
noncomputable def wrcode (a q u x : Int) : Int := @ite _ (WrOk a q u x) (Classical.propDecidable _) 0 2
theorem allin1 {q x : Int} : AllIn q [x] ↔ 0 ≤ x ∧ x ≤ q - 1 := by
  unfold AllIn
  constructor
  · intro h
    have := h 0 (by simp -implicitDefEqProofs (maxSteps := 3000000))
    simp -implicitDefEqProofs (maxSteps := 3000000) [rn] at this
    omega
  · intro h i hi
    have e : i = 0 := by simp -implicitDefEqProofs (maxSteps := 3000000) at hi; omega
    subst e
    simp -implicitDefEqProofs (maxSteps := 3000000) [rn]
    omega
theorem ct_wrapCode (n : Nat) (hn : B + 4 ≤ n) (a q u x : Int) :
    evalCall Try.prog An n 65 [.d (.int .i64 a), .d (.int .i64 q), .d (.int .i64 u), .d (.int .i64 x)] [] = some ⟨.d (.int .i64 (wrcode a q u x)), [], []⟩ := by
  obtain ⟨m, rfl⟩ : ∃ m, n = m + 1 := ⟨n - 1, by omega⟩
  have hB := B_eq
  simp only [evalCall_at, fb65, bnd_some, bodyOf, Try.f65, Option.getD_some]
  have c1 := ct_iIsCircle m (by omega) a q u
  have c2 := ct_areIn m (by omega) q [x] (by simp -implicitDefEqProofs (maxSteps := 3000000))
  rw [show ints [x] = .sl 1 [.int .i64 x] from rfl] at c2
  by_cases hc : isC a q u = true
  · rw [hc] at c1
    by_cases h1 : a ≤ 8
    · by_cases h2 : q ≤ 12
      · by_cases h3 : 0 ≤ x ∧ x ≤ q - 1
        · rw [bl_true (allin1.2 h3)] at c2
          rw [wrcode, if_pos ⟨⟨hc, h1, h2⟩, h3⟩]
          have g1 : ¬ 8 < a := by omega
          have g2 : ¬ 12 < q := by omega
          simp -implicitDefEqProofs (maxSteps := 3000000) [c1, c2, g1, g2]
        · rw [bl_false (fun z => h3 (allin1.1 z))] at c2
          rw [wrcode, if_neg (fun z => h3 z.2)]
          have g1 : ¬ 8 < a := by omega
          have g2 : ¬ 12 < q := by omega
          simp -implicitDefEqProofs (maxSteps := 3000000) [c1, c2, g1, g2]
      · rw [wrcode, if_neg (fun z => h2 z.1.2.2)]
        have g1 : ¬ 8 < a := by omega
        have g2 : 12 < q := by omega
        simp -implicitDefEqProofs (maxSteps := 3000000) [c1, g1, g2]
    · rw [wrcode, if_neg (fun z => h1 z.1.2.1)]
      have g1 : 8 < a := by omega
      simp -implicitDefEqProofs (maxSteps := 3000000) [c1, g1]
  · rw [wrcode, if_neg (fun z => hc z.1.1)]
    rw [Bool.eq_false_iff.2 hc] at c1
    simp -implicitDefEqProofs (maxSteps := 3000000) [c1]
theorem ct_l09Given (n : Nat) (hn : B + 4 ≤ n) (a q u x : Int) :
    evalCall Try.prog An n 69 [.d (.int .i64 a), .d (.int .i64 q), .d (.int .i64 u), .d (.int .i64 x)] [] = some ⟨.d (.int .i64 (wrcode a q u x)), [], []⟩ := by
  obtain ⟨m, rfl⟩ : ∃ m, n = m + 1 := ⟨n - 1, by omega⟩
  have hB := B_eq
  simp only [evalCall_at, fb69, bnd_some, bodyOf, Try.f69, Option.getD_some]
  have c1 := ct_sIsCircle m (by omega) a q u
  by_cases hc : isC a q u = true
  · rw [hc] at c1
    obtain ⟨h1, h2, h3, h4, h5⟩ := isC_iff.1 hc
    have w := wrap_id (n := q - 1) (by omega)
    by_cases h1 : a ≤ 8
    · by_cases h2 : q ≤ 12
      · have g1 : ¬ 8 < a := by omega
        have g2 : ¬ 12 < q := by omega
        by_cases h3 : 0 ≤ x ∧ x ≤ q - 1
        · have c2 := ct_l01In_t m (by omega) x 0 (q - 1) h3
          rw [wrcode, if_pos ⟨⟨hc, h1, h2⟩, h3⟩]
          simp -implicitDefEqProofs (maxSteps := 3000000) [c1, c2, g1, g2, w]
        · have c2 := ct_l01In_f m (by omega) x 0 (q - 1) h3
          rw [wrcode, if_neg (fun z => h3 z.2)]
          simp -implicitDefEqProofs (maxSteps := 3000000) [c1, c2, g1, g2, w]
      · rw [wrcode, if_neg (fun z => h2 z.1.2.2)]
        have g1 : ¬ 8 < a := by omega
        have g2 : 12 < q := by omega
        simp -implicitDefEqProofs (maxSteps := 3000000) [c1, g1, g2]
    · rw [wrcode, if_neg (fun z => h1 z.1.2.1)]
      have g1 : 8 < a := by omega
      simp -implicitDefEqProofs (maxSteps := 3000000) [c1, g1]
  · rw [wrcode, if_neg (fun z => hc z.1.1)]
    rw [Bool.eq_false_iff.2 hc] at c1
    simp -implicitDefEqProofs (maxSteps := 3000000) [c1]
/-- What is asked of a wrap and of a ladder. -/
def WrGood (q u x : Int) : Prop := u * x % q = x
def LaGood (a q u x : Int) : Prop := x * (sump q u a.toNat % q) % q = 0
theorem ct_WrapOf1 (n : Nat) (hn : B + 1 ≤ n) (N : Nat) (hN : 1 ≤ N ∧ N ≤ 8) (x : Int) (i : Nat) (hi : i < (N - 1) ^ 2) :
    evalCall Try.prog An n 68 [.d (ints (digs (N - 1) 2 i)), .d (.cellp [.int .i64 N]), .d (.cellp [.int .i64 x])] [] = some ⟨.d (.int .i64 (wrF N x (digs (N - 1) 2 i))), [], []⟩ := by
  obtain ⟨m, rfl⟩ : ∃ m, n = m + 1 := ⟨n - 1, by omega⟩
  have hB := B_eq
  simp only [evalCall_at, fb68, bnd_some, bodyOf, Try.f68, Option.getD_some]
  obtain ⟨a, b, ha, hb, e⟩ := digs2 hi
  rw [e]
  have w := wrap_id (n := (a : Int) + b) (by omega)
  have e1 : wrF N x [(a : Int), (b : Int)] = if (N : Int) ≤ (a : Int) + b then x else 0 := rfl
  rw [e1]
  rw [show ints [(a : Int), (b : Int)] = .sl 1 [.int .i64 a, .int .i64 b] from rfl]
  by_cases h : (N : Int) ≤ (a : Int) + b
  · simp -implicitDefEqProofs (maxSteps := 3000000) [w, h]
  · simp -implicitDefEqProofs (maxSteps := 3000000) [w, h]
theorem wrF_bd {n x : Int} (hx : 0 ≤ x ∧ x ≤ 11) (l : List Int) : 0 ≤ wrF n x l ∧ wrF n x l ≤ x := by
  unfold wrF; split <;> omega
theorem ct_iWrapOf_bad (n : Nat) (hn : B + 5 ≤ n) (a q u x : Int) (h : ¬ WrOk a q u x) :
    evalCall Try.prog An n 31 [.d (.int .i64 a), .d (.int .i64 q), .d (.int .i64 u), .d (.int .i64 x)] [] = some ⟨.tuple [.agg [.d (.int .i64 0), .d .nil], .d (.int .i64 2)], [], []⟩ := by
  obtain ⟨m, rfl⟩ : ∃ m, n = m + 1 := ⟨n - 1, by omega⟩
  have hB := B_eq
  simp only [evalCall_at, fb31, bnd_some, bodyOf, Try.f31, Option.getD_some]
  have c1 := ct_wrapCode m (by omega) a q u x
  rw [wrcode, if_neg h] at c1
  simp -implicitDefEqProofs (maxSteps := 3000000) [c1]
theorem mul_small {u x : Int} (hu : 0 ≤ u ∧ u ≤ 11) (hx : 0 ≤ x ∧ x ≤ 11) : 0 ≤ u * x ∧ u * x ≤ 121 := by
  have h1 := Int.mul_nonneg hu.1 hx.1
  have h2 := Int.mul_le_mul hu.2 hx.2 hx.1 (by omega)
  omega
theorem ct_iWrapOf_5 (n : Nat) (hn : B + 5 ≤ n) (a q u x : Int) (h : WrOk a q u x) (g : ¬ WrGood q u x) :
    evalCall Try.prog An n 31 [.d (.int .i64 a), .d (.int .i64 q), .d (.int .i64 u), .d (.int .i64 x)] [] = some ⟨.tuple [.agg [.d (.int .i64 0), .d .nil], .d (.int .i64 5)], [], []⟩ := by
  obtain ⟨m, rfl⟩ : ∃ m, n = m + 1 := ⟨n - 1, by omega⟩
  have hB := B_eq
  simp only [evalCall_at, fb31, bnd_some, bodyOf, Try.f31, Option.getD_some]
  have c1 := ct_wrapCode m (by omega) a q u x
  rw [wrcode, if_pos h] at c1
  obtain ⟨h1, h2, h3, h4, h5⟩ := isC_iff.1 h.1.1
  have b := mul_small (u := u) (x := x) (by have := h.1.2; omega) (by have := h.2; have := h.1.2; omega)
  have w := wrap_id (n := u * x) (by omega)
  have hz : q ≠ 0 := by omega
  have e := tmod_nn q b.1
  unfold WrGood at g
  have g2 : (u * x % q != x) = true := by simpa using g
  simp -implicitDefEqProofs (maxSteps := 3000000) [c1, w, hz, e, g2]
theorem ct_iWrapOf (n : Nat) (hn : B + 5 + 12 ≤ n) (a q u x : Int) (h : WrOk a q u x) (g : WrGood q u x) :
    evalCall Try.prog An n 31 [.d (.int .i64 a), .d (.int .i64 q), .d (.int .i64 u), .d (.int .i64 x)] [] = some ⟨.tuple [.agg [.d (.int .i64 2), .own 0 0], .d (.int .i64 0)], [.row (icells (wrV a.toNat x))], []⟩ := by
  obtain ⟨m, rfl⟩ : ∃ m, n = m + 1 := ⟨n - 1, by omega⟩
  have hB := B_eq
  simp only [evalCall_at, fb31, bnd_some, bodyOf, Try.f31, Option.getD_some]
  have c1 := ct_wrapCode m (by omega) a q u x
  rw [wrcode, if_pos h] at c1
  obtain ⟨h1, h2, h3, h4, h5⟩ := isC_iff.1 h.1.1
  have b := mul_small (u := u) (x := x) (by have := h.1.2; omega) (by have := h.2; have := h.1.2; omega)
  have w := wrap_id (n := u * x) (by omega)
  have hz : q ≠ 0 := by omega
  have e := tmod_nn q b.1
  have hx := h.2
  have ha := h.1.2.1
  have hq := h.1.2.2
  obtain ⟨N, rfl⟩ := Int.eq_ofNat_of_zero_le (show 0 ≤ a by omega)
  have hN : 1 ≤ N ∧ N ≤ 8 := by omega
  have c2 := ct_cyclic m (by omega) N hN
  have hT : (cyG N).length = N := cyG_len N
  have c3 := ct_toldG m (by omega) (cyG N) (by omega) q (by omega) 2 (by omega) 68 [.cellp [.int .i64 N], .cellp [.int .i64 x]] (wrF N x) (B + 1) (by omega)
    (fun m hm i hi => by rw [hT] at hi ⊢; simpa using ct_WrapOf1 m hm N hN x i hi) (fun i hi => by have := wrF_bd (n := (N : Int)) (x := x) (by omega) (digs ((cyG N).length - 1) 2 i); omega) (by simp -implicitDefEqProofs (maxSteps := 3000000))
  have e3 : tabI (fun i => wrF N x (digs ((cyG N).length - 1) 2 i) % q) (((cyG N).length - 1) ^ 2) = wrV N x := by
    rw [hT, wrV]
    congr 1
    funext i
    have := wrF_bd (n := (N : Int)) (x := x) (by omega) (digs (N - 1) 2 i)
    exact Int.emod_eq_of_lt this.1 (by omega)
  rw [e3] at c3
  rw [show ((2 : Nat) : Int) = 2 from rfl] at c3
  unfold WrGood at g
  simp -implicitDefEqProofs (maxSteps := 3000000) [c1, w, hz, e, g, c2, c3]
theorem ct_LadderOf1 (n : Nat) (hn : B + 2 ≤ n) (N : Nat) (hN : 1 ≤ N ∧ N ≤ 8) (q u x : Int) (hq : 2 ≤ q ∧ q ≤ 12) (hu : 0 ≤ u ∧ u < q) (hx : 0 ≤ x ∧ x ≤ 11) (i : Nat) (hi : i < (N - 1) ^ 1) :
    evalCall Try.prog An n 77 [.d (ints (digs (N - 1) 1 i)), .d (.cellp [.int .i64 x]), .d (.cellp [.int .i64 q]), .d (.cellp [.int .i64 u])] [] = some ⟨.d (.int .i64 (x * (sump q u (rn (digs (N - 1) 1 i) 0).toNat % q))), [], []⟩ := by
  obtain ⟨m, rfl⟩ : ∃ m, n = m + 1 := ⟨n - 1, by omega⟩
  have hB := B_eq
  simp only [evalCall_at, fb77, bnd_some, bodyOf, Try.f77, Option.getD_some]
  have hd := digs_bd hi 0 (by omega)
  have e1 : digs (N - 1) 1 i = [rn (digs (N - 1) 1 i) 0] := rfl
  generalize rn (digs (N - 1) 1 i) 0 = k at *
  rw [e1]
  obtain ⟨k, rfl⟩ := Int.eq_ofNat_of_zero_le (show 0 ≤ k by omega)
  have c1 := ct_ladder m (by omega) q u (by omega) hu k (by omega)
  have h0 := Int.emod_nonneg (sump q u k) (show q ≠ 0 by omega)
  have h1 := Int.emod_lt_of_pos (sump q u k) (show 0 < q by omega)
  have b := mul_small (u := x) (x := sump q u k % q) (by omega) (by omega)
  have w := wrap_id (n := x * (sump q u k % q)) (by omega)
  rw [show ints [(k : Int)] = .sl 1 [.int .i64 k] from rfl]
  simp -implicitDefEqProofs (maxSteps := 3000000) [c1, w]
theorem ct_iLadderOf_bad (n : Nat) (hn : B + 5 ≤ n) (a q u x : Int) (h : ¬ WrOk a q u x) :
    evalCall Try.prog An n 37 [.d (.int .i64 a), .d (.int .i64 q), .d (.int .i64 u), .d (.int .i64 x)] [] = some ⟨.tuple [.agg [.d (.int .i64 0), .d .nil], .d (.int .i64 2)], [], []⟩ := by
  obtain ⟨m, rfl⟩ : ∃ m, n = m + 1 := ⟨n - 1, by omega⟩
  have hB := B_eq
  simp only [evalCall_at, fb37, bnd_some, bodyOf, Try.f37, Option.getD_some]
  have c1 := ct_wrapCode m (by omega) a q u x
  rw [wrcode, if_neg h] at c1
  simp -implicitDefEqProofs (maxSteps := 3000000) [c1]
theorem ct_iLadderOf_5 (n : Nat) (hn : B + 5 ≤ n) (a q u x : Int) (h : WrOk a q u x) (g : ¬ LaGood a q u x) :
    evalCall Try.prog An n 37 [.d (.int .i64 a), .d (.int .i64 q), .d (.int .i64 u), .d (.int .i64 x)] [] = some ⟨.tuple [.agg [.d (.int .i64 0), .d .nil], .d (.int .i64 5)], [], []⟩ := by
  obtain ⟨m, rfl⟩ : ∃ m, n = m + 1 := ⟨n - 1, by omega⟩
  have hB := B_eq
  simp only [evalCall_at, fb37, bnd_some, bodyOf, Try.f37, Option.getD_some]
  have c1 := ct_wrapCode m (by omega) a q u x
  rw [wrcode, if_pos h] at c1
  obtain ⟨h1, h2, h3, h4, h5⟩ := isC_iff.1 h.1.1
  obtain ⟨N, rfl⟩ := Int.eq_ofNat_of_zero_le (show 0 ≤ a by omega)
  have ha := h.1.2.1
  have hq := h.1.2.2
  have hx := h.2
  have c2 := ct_ladder m (by omega) q u (by omega) (by omega) N (by omega)
  have g0 := Int.emod_nonneg (sump q u N) (show q ≠ 0 by omega)
  have g1 := Int.emod_lt_of_pos (sump q u N) (show 0 < q by omega)
  have b := mul_small (u := x) (x := sump q u N % q) (by omega) (by omega)
  have w := wrap_id (n := x * (sump q u N % q)) (by omega)
  have hz : q ≠ 0 := by omega
  have e := tmod_nn q b.1
  unfold LaGood at g
  rw [Int.toNat_natCast] at g
  have g2 : (x * (sump q u N % q) % q != 0) = true := by simpa using g
  simp -implicitDefEqProofs (maxSteps := 3000000) [c1, c2, w, hz, e, g2]
theorem ct_iLadderOf (n : Nat) (hn : B + 5 + 12 ≤ n) (a q u x : Int) (h : WrOk a q u x) (g : LaGood a q u x) :
    evalCall Try.prog An n 37 [.d (.int .i64 a), .d (.int .i64 q), .d (.int .i64 u), .d (.int .i64 x)] [] = some ⟨.tuple [.agg [.d (.int .i64 1), .own 0 0], .d (.int .i64 0)], [.row (icells (laV a.toNat q u x))], []⟩ := by
  obtain ⟨m, rfl⟩ : ∃ m, n = m + 1 := ⟨n - 1, by omega⟩
  have hB := B_eq
  simp only [evalCall_at, fb37, bnd_some, bodyOf, Try.f37, Option.getD_some]
  have c1 := ct_wrapCode m (by omega) a q u x
  rw [wrcode, if_pos h] at c1
  obtain ⟨h1, h2, h3, h4, h5⟩ := isC_iff.1 h.1.1
  obtain ⟨N, rfl⟩ := Int.eq_ofNat_of_zero_le (show 0 ≤ a by omega)
  have ha := h.1.2.1
  have hq := h.1.2.2
  have hx := h.2
  have hN : 1 ≤ N ∧ N ≤ 8 := by omega
  have c2 := ct_ladder m (by omega) q u (by omega) (by omega) N (by omega)
  have g0 := Int.emod_nonneg (sump q u N) (show q ≠ 0 by omega)
  have g1 := Int.emod_lt_of_pos (sump q u N) (show 0 < q by omega)
  have b := mul_small (u := x) (x := sump q u N % q) (by omega) (by omega)
  have w := wrap_id (n := x * (sump q u N % q)) (by omega)
  have hz : q ≠ 0 := by omega
  have e := tmod_nn q b.1
  unfold LaGood at g
  rw [Int.toNat_natCast] at g
  have c4 := ct_cyclic m (by omega) N hN
  have hT : (cyG N).length = N := cyG_len N
  have c3 := ct_toldG m (by omega) (cyG N) (by omega) q (by omega) 1 (by omega) 77 [.cellp [.int .i64 x], .cellp [.int .i64 q], .cellp [.int .i64 u]] (fun l => x * (sump q u (rn l 0).toNat % q)) (B + 2) (by omega)
    (fun m hm i hi => by rw [hT] at hi ⊢; simpa using ct_LadderOf1 m hm N hN q u x (by omega) (by omega) (by omega) i hi) (fun i hi => by
      have k0 := Int.emod_nonneg (sump q u (rn (digs ((cyG N).length - 1) 1 i) 0).toNat) (show q ≠ 0 by omega)
      have k1 := Int.emod_lt_of_pos (sump q u (rn (digs ((cyG N).length - 1) 1 i) 0).toNat) (show 0 < q by omega)
      have := mul_small (u := x) (x := sump q u (rn (digs ((cyG N).length - 1) 1 i) 0).toNat % q) (by omega) (by omega)
      show -1000000000000 < x * _ ∧ x * _ < 1000000000000
      omega) (by simp -implicitDefEqProofs (maxSteps := 3000000))
  have e3 : tabI (fun i => (fun l => x * (sump q u (rn l 0).toNat % q)) (digs ((cyG N).length - 1) 1 i) % q) (((cyG N).length - 1) ^ 1) = laV N q u x := by
    rw [hT, laV]
    congr 1
    funext i
    show x * (_ % q) % q = x * _ % q
    rw [emod_mul_r]
  rw [e3] at c3
  rw [show ((1 : Nat) : Int) = 1 from rfl] at c3
  simp -implicitDefEqProofs (maxSteps := 3000000) [c1, c2, c4, w, hz, e, g, c3]
end Go.Proofs.YtcdmhlagibjeiaaE

namespace Go.Proofs.YtcdmhlagibjeiaaE
open Go Go.Proofs
set_option maxHeartbeats 4000000
set_option maxRecDepth 4000
set_option linter.unusedSimpArgs false
set_option linter.unusedVariables false
set_option pp.deepTerms false
set_option pp.deepTerms.threshold 10
/-! ## wraps and ladders, the reference -/
def wrC (N : Nat) (x : Int) (i : Nat) : Int := wrF N x (digs (N - 1) 2 i)
theorem wrC_at {N i k : Nat} (x : Int) (hi : i < N - 1) (hk : k < N - 1) : wrC N x (i * (N - 1) + k) = if (N : Int) ≤ (i : Int) + 1 + (k + 1) then x else 0 := by
  have e : digs (N - 1) 2 (i * (N - 1) + k) = [((i + 1 : Nat) : Int), ((k + 1 : Nat) : Int)] := by
    show [dig (N - 1) 2 _ 0, dig (N - 1) 2 _ 1] = _
    have e1 : (i * (N - 1) + k) / (N - 1) = i := by
      rw [Nat.mul_comm, Nat.mul_add_div (by omega), Nat.div_eq_of_lt hk, Nat.add_zero]
    have e2 : (i * (N - 1) + k) % (N - 1) = k := by
      rw [Nat.mul_comm, Nat.mul_add_mod, Nat.mod_eq_of_lt hk]
    simp only [dig, Nat.sub_self, Nat.pow_zero, Nat.div_one, e2]
    rw [show 2 - 1 - 0 = 1 from rfl, Nat.pow_one, e1, Nat.mod_eq_of_lt hi, Nat.add_comm 1 i, Nat.add_comm 1 k]
  rw [wrC, e]
  show (if (N : Int) ≤ ((i + 1 : Nat) : Int) + ((k + 1 : Nat) : Int) then x else 0) = _
  rw [Int.natCast_succ, Int.natCast_succ]
theorem lp_sWrap_1 (m : Nat) (hm : B + 2 ≤ m) (N : Nat) (hN : 1 ≤ N ∧ N ≤ 8) (x : Int) (i : Nat) (hi : i < N - 1)
    {st : St} {o : Option (Ex × St)} (hx : loopC (cxAt 32 m) (lp Try.f32 1) st = o) {v2 : Nat}
    (f : obsL st.obs 128 = some (1, .box [.d (.int .i64 0), .d .nil]) ∧ obsL st.obs 176 = some (20, .box [.d (.int .i64 2), .own 496 v2]) ∧ obsL st.obs 496 = some (v2, .row (icells (tabI (wrC N x) (i * (N - 1) + (0))))) ∧ obsL st.obs 832 = none ∧ obsL st.obs 912 = none ∧ lookL st.env 0 = some (.d (.int .i64 N)) ∧ lookL st.env 3 = some (.d (.int .i64 x)) ∧ lookL st.env 8 = some (.ptr 128 1 0) ∧ lookL st.env 11 = some (.ptr 176 20 0) ∧ lookL st.env 12 = some (.d (.int .i64 ((i : Int) + 1))) ∧ lookL st.env 13 = some (.d (.int .i64 (((0) : Int) + 1)))) :
    ∃ s v2, o = some (.exit 2, s) ∧ obsL s.obs 128 = some (1, .box [.d (.int .i64 0), .d .nil]) ∧ obsL s.obs 176 = some (20, .box [.d (.int .i64 2), .own 496 v2]) ∧ obsL s.obs 496 = some (v2, .row (icells (tabI (wrC N x) (i * (N - 1) + (N - 1))))) ∧ obsL s.obs 832 = none ∧ obsL s.obs 912 = none ∧ lookL s.env 0 = some (.d (.int .i64 N)) ∧ lookL s.env 3 = some (.d (.int .i64 x)) ∧ lookL s.env 8 = some (.ptr 128 1 0) ∧ lookL s.env 11 = some (.ptr 176 20 0) ∧ lookL s.env 12 = some (.d (.int .i64 ((i : Int) + 1))) := by
  have hB := B_eq
  generalize hl : lp Try.f32 1 = L at hx
  simp only [lp, bodyOf, Try.f32, Option.getD_some, loopsIn, List.append_nil, List.nil_append, List.cons_append, List.getD, List.getElem?_cons_zero, List.getElem?_cons_succ] at hl
  subst hl
  obtain ⟨qq, rfl, hqq⟩ := loop_end hx (N - 1) (fun k s => ∃ g v2, s = ⟨[(0, .d (.int .i64 N)), (3, .d (.int .i64 x)), (8, .ptr 128 1 0), (11, .ptr 176 20 0), (12, .d (.int .i64 ((i : Int) + 1))), (13, .d (.int .i64 ((k : Int) + 1)))], [(128, some (1, .box [.d (.int .i64 0), .d .nil])), (176, some (20, .box [.d (.int .i64 2), .own 496 v2])), (496, some (v2, .row (icells (tabI (wrC N x) (i * (N - 1) + k)))))], g⟩)
    (fun qq => ∃ s v2, qq = (.exit 2, s) ∧ obsL s.obs 128 = some (1, .box [.d (.int .i64 0), .d .nil]) ∧ obsL s.obs 176 = some (20, .box [.d (.int .i64 2), .own 496 v2]) ∧ obsL s.obs 496 = some (v2, .row (icells (tabI (wrC N x) (i * (N - 1) + (N - 1))))) ∧ obsL s.obs 832 = none ∧ obsL s.obs 912 = none ∧ lookL s.env 0 = some (.d (.int .i64 N)) ∧ lookL s.env 3 = some (.d (.int .i64 x)) ∧ lookL s.env 8 = some (.ptr 128 1 0) ∧ lookL s.env 11 = some (.ptr 176 20 0) ∧ lookL s.env 12 = some (.d (.int .i64 ((i : Int) + 1))))
    (by show N - 1 < m; omega) (by
      simp -implicitDefEqProofs (maxSteps := 3000000) [f])
    (by
      rintro k s hk ⟨g, v2, rfl⟩
      have w2 := wrap_id (n := (k : Int) + 1 + 1) (by omega)
      have w3 := wrap_id (n := (i : Int) + 1 + ((k : Int) + 1)) (by omega)
      have hs := tabI_succ (wrC N x) (i * (N - 1) + k)
      have ec := wrC_at x hi hk
      rw [ec] at hs
      have h1 : (k : Int) + 1 < N := by omega
      have hb : i * (N - 1) + k ≤ 343 := by
        have := Nat.mul_le_mul (show i ≤ 7 by omega) (show N - 1 ≤ 7 by omega)
        omega
      have hl := lt_bound (n := i * (N - 1) + k) (by omega)
      have hl2 := le_bound (n := i * (N - 1) + k) (by omega)
      rw [← Nat.add_assoc]
      generalize i * (N - 1) + k = Z at *
      by_cases h : (N : Int) ≤ (i : Int) + 1 + (k + 1)
      · rw [if_pos h] at hs
        simp -implicitDefEqProofs (maxSteps := 3000000) [h1, w2, w3, hs, hl, hl2, h]
      · rw [if_neg h] at hs
        simp -implicitDefEqProofs (maxSteps := 3000000) [h1, w2, w3, hs, hl, hl2, h])
    (by
      rintro s ⟨g, v2, rfl⟩
      have h1 : ¬ (((N - 1 : Nat) : Int) + 1 < N) := by omega
      simp -implicitDefEqProofs (maxSteps := 3000000) [h1])
  obtain ⟨s, v2, rfl, hf⟩ := hqq
  exact ⟨s, v2, rfl, hf⟩
theorem ct_sWrapOf_bad (n : Nat) (hn : B + 5 ≤ n) (a q u x : Int) (h : ¬ WrOk a q u x) :
    evalCall Try.prog An n 32 [.d (.int .i64 a), .d (.int .i64 q), .d (.int .i64 u), .d (.int .i64 x)] [] = some ⟨.tuple [.agg [.d (.int .i64 0), .d .nil], .d (.int .i64 2)], [], []⟩ := by
  obtain ⟨m, rfl⟩ : ∃ m, n = m + 1 := ⟨n - 1, by omega⟩
  have hB := B_eq
  simp only [evalCall_at, fb32, bnd_some, bodyOf, Try.f32, Option.getD_some]
  generalize hb0 : Code.loop _ = cc0
  obtain rfl : cc0 = .loop (lp Try.f32 0) := by rw [← hb0]; rfl
  clear hb0
  have c1 := ct_l09Given m (by omega) a q u x
  rw [wrcode, if_neg h] at c1
  simp -implicitDefEqProofs (maxSteps := 3000000) [c1]
theorem ct_sWrapOf_5 (n : Nat) (hn : B + 5 ≤ n) (a q u x : Int) (h : WrOk a q u x) (g : ¬ WrGood q u x) :
    evalCall Try.prog An n 32 [.d (.int .i64 a), .d (.int .i64 q), .d (.int .i64 u), .d (.int .i64 x)] [] = some ⟨.tuple [.agg [.d (.int .i64 0), .d .nil], .d (.int .i64 5)], [], []⟩ := by
  obtain ⟨m, rfl⟩ : ∃ m, n = m + 1 := ⟨n - 1, by omega⟩
  have hB := B_eq
  simp only [evalCall_at, fb32, bnd_some, bodyOf, Try.f32, Option.getD_some]
  generalize hb0 : Code.loop _ = cc0
  obtain rfl : cc0 = .loop (lp Try.f32 0) := by rw [← hb0]; rfl
  clear hb0
  have c1 := ct_l09Given m (by omega) a q u x
  rw [wrcode, if_pos h] at c1
  obtain ⟨h1, h2, h3, h4, h5⟩ := isC_iff.1 h.1.1
  have b := mul_small (u := u) (x := x) (by have := h.1.2; omega) (by have := h.2; have := h.1.2; omega)
  have w := wrap_id (n := u * x) (by omega)
  have hz : q ≠ 0 := by omega
  have e := tmod_nn q b.1
  unfold WrGood at g
  have g2 : (u * x % q != x) = true := by simpa using g
  simp -implicitDefEqProofs (maxSteps := 3000000) [c1, w, hz, e, g2]
theorem ct_sWrapOf (n : Nat) (hn : B + 5 + 3 ≤ n) (a q u z : Int) (h : WrOk a q u z) (g : WrGood q u z) :
    evalCall Try.prog An n 32 [.d (.int .i64 a), .d (.int .i64 q), .d (.int .i64 u), .d (.int .i64 z)] [] = some ⟨.tuple [.agg [.d (.int .i64 2), .own 0 0], .d (.int .i64 0)], [.row (icells (wrV a.toNat z))], []⟩ := by
  obtain ⟨m, rfl⟩ : ∃ m, n = m + 1 := ⟨n - 1, by omega⟩
  have hB := B_eq
  simp only [evalCall_at, fb32, bnd_some, bodyOf, Try.f32, Option.getD_some]
  generalize hb0 : Code.loop _ = cc0
  obtain rfl : cc0 = .loop (lp Try.f32 0) := by rw [← hb0]; rfl
  clear hb0
  have c1 := ct_l09Given m (by omega) a q u z
  rw [wrcode, if_pos h] at c1
  obtain ⟨h1, h2, h3, h4, h5⟩ := isC_iff.1 h.1.1
  have b := mul_small (u := u) (x := z) (by have := h.1.2; omega) (by have := h.2; have := h.1.2; omega)
  have w := wrap_id (n := u * z) (by omega)
  have hz : q ≠ 0 := by omega
  have e := tmod_nn q b.1
  have ha := h.1.2.1
  obtain ⟨N, rfl⟩ := Int.eq_ofNat_of_zero_le (show 0 ≤ a by omega)
  have hN : 1 ≤ N ∧ N ≤ 8 := by omega
  unfold WrGood at g
  simp -implicitDefEqProofs (maxSteps := 3000000) [c1, w, hz, e, g]
  generalize hx : loopC _ _ _ = x
  generalize hl : lp Try.f32 0 = L at hx
  simp only [lp, bodyOf, Try.f32, Option.getD_some, loopsIn, List.append_nil, List.nil_append, List.cons_append, List.getD, List.getElem?_cons_zero, List.getElem?_cons_succ] at hl
  subst hl
  generalize hb1 : Code.loop _ = cc1 at hx
  obtain rfl : cc1 = .loop (lp Try.f32 1) := by rw [← hb1]; rfl
  clear hb1
  obtain ⟨qq, rfl, hqq⟩ := loop_end hx (N - 1) (fun i s => ∃ g v, s = ⟨[(0, .d (.int .i64 N)), (3, .d (.int .i64 z)), (8, .ptr 128 1 0), (11, .ptr 176 20 0), (12, .d (.int .i64 ((i : Int) + 1)))], [(128, some (1, .box [.d (.int .i64 0), .d .nil])), (176, some (20, .box [.d (.int .i64 2), .own 496 v])), (496, some (v, .row (icells (tabI (wrC N z) (i * (N - 1))))))], g⟩)
    (fun qq => ∃ s v, qq = (.exit 0, s) ∧ lookL s.env 0 = some (.d (.int .i64 N)) ∧ lookL s.env 3 = some (.d (.int .i64 z)) ∧ lookL s.env 8 = some (.ptr 128 1 0) ∧ lookL s.env 11 = some (.ptr 176 20 0) ∧ lookL s.env 12 = some (.d (.int .i64 (((N - 1) : Int) + 1))) ∧ obsL s.obs 128 = some (1, .box [.d (.int .i64 0), .d .nil]) ∧ obsL s.obs 176 = some (20, .box [.d (.int .i64 2), .own 496 v]) ∧ obsL s.obs 496 = some (v, .row (icells (tabI (wrC N z) ((N - 1) * (N - 1))))))
    (by show N - 1 < m; omega) (by
      simp -implicitDefEqProofs (maxSteps := 3000000) [tabI])
    (by
      rintro i s hi ⟨g, v, rfl⟩
      have w2 := wrap_id (n := (i : Int) + 1 + 1) (by omega)
      have h1 : (i : Int) + 1 < N := by omega
      simp -implicitDefEqProofs (maxSteps := 3000000) [h1]
      generalize hy : loopC _ _ _ = y
      obtain ⟨s, v2, rfl, hq⟩ := lp_sWrap_1 m (by omega) N hN z i hi hy (by simp; rfl)
      simp -implicitDefEqProofs (maxSteps := 3000000) [hq, w2, Nat.succ_mul])
    (by
      rintro s ⟨g, v, rfl⟩
      have h1 : ¬ (((N - 1 : Nat) : Int) + 1 < N) := by omega
      have e1 : ((N - 1 : Nat) : Int) + 1 = N := by omega
      simp -implicitDefEqProofs (maxSteps := 3000000) [h1, e1])
  obtain ⟨s, v, rfl, hf⟩ := hqq
  have e3 : tabI (wrC N z) ((N - 1) * (N - 1)) = wrV N z := by
    rw [wrV, Nat.pow_two]
    rfl
  rw [e3] at hf
  simp -implicitDefEqProofs (maxSteps := 3000000) [hf]
def laC (q u x : Int) (i : Nat) : Int := x * sump q u (i + 1) % q
theorem laV_eq (N : Nat) (hN : 1 ≤ N) (q u x : Int) : tabI (laC q u x) (N - 1) = laV N q u x := by
  rw [laV, Nat.pow_one]
  apply List.ext_getElem
  · simp -implicitDefEqProofs (maxSteps := 3000000)
  · intro i h1 h2
    have hi : i < N - 1 := by simpa using h1
    simp only [tabI, List.getElem_map, List.getElem_range, laC, laF]
    rw [rn_digs (by omega), dig, show 1 - 1 - 0 = 0 from rfl, Nat.pow_zero, Nat.div_one, Nat.mod_eq_of_lt hi, Int.toNat_natCast, Nat.add_comm 1 i]
theorem ct_sLadderOf_bad (n : Nat) (hn : B + 5 ≤ n) (a q u x : Int) (h : ¬ WrOk a q u x) :
    evalCall Try.prog An n 38 [.d (.int .i64 a), .d (.int .i64 q), .d (.int .i64 u), .d (.int .i64 x)] [] = some ⟨.tuple [.agg [.d (.int .i64 0), .d .nil], .d (.int .i64 2)], [], []⟩ := by
  obtain ⟨m, rfl⟩ : ∃ m, n = m + 1 := ⟨n - 1, by omega⟩
  have hB := B_eq
  simp only [evalCall_at, fb38, bnd_some, bodyOf, Try.f38, Option.getD_some]
  generalize hb0 : Code.loop _ = cc0
  obtain rfl : cc0 = .loop (lp Try.f38 0) := by rw [← hb0]; rfl
  clear hb0
  have c1 := ct_l09Given m (by omega) a q u x
  rw [wrcode, if_neg h] at c1
  simp -implicitDefEqProofs (maxSteps := 3000000) [c1]
theorem ct_sLadderOf_5 (n : Nat) (hn : B + 5 ≤ n) (a q u x : Int) (h : WrOk a q u x) (g : ¬ LaGood a q u x) :
    evalCall Try.prog An n 38 [.d (.int .i64 a), .d (.int .i64 q), .d (.int .i64 u), .d (.int .i64 x)] [] = some ⟨.tuple [.agg [.d (.int .i64 0), .d .nil], .d (.int .i64 5)], [], []⟩ := by
  obtain ⟨m, rfl⟩ : ∃ m, n = m + 1 := ⟨n - 1, by omega⟩
  have hB := B_eq
  simp only [evalCall_at, fb38, bnd_some, bodyOf, Try.f38, Option.getD_some]
  generalize hb0 : Code.loop _ = cc0
  obtain rfl : cc0 = .loop (lp Try.f38 0) := by rw [← hb0]; rfl
  clear hb0
  have c1 := ct_l09Given m (by omega) a q u x
  rw [wrcode, if_pos h] at c1
  obtain ⟨h1, h2, h3, h4, h5⟩ := isC_iff.1 h.1.1
  have ha := h.1.2.1
  have hq := h.1.2.2
  have hx := h.2
  obtain ⟨N, rfl⟩ := Int.eq_ofNat_of_zero_le (show 0 ≤ a by omega)
  have c2 := ct_l09Norm m (by omega) q u (by omega) (by omega) N (by omega)
  have g0 := Int.emod_nonneg (sump q u N) (show q ≠ 0 by omega)
  have g1 := Int.emod_lt_of_pos (sump q u N) (show 0 < q by omega)
  have b := mul_small (u := sump q u N % q) (x := x) (by omega) (by omega)
  have w := wrap_id (n := sump q u N % q * x) (by omega)
  have hz : q ≠ 0 := by omega
  have e := tmod_nn q b.1
  unfold LaGood at g
  rw [Int.toNat_natCast, Int.mul_comm] at g
  have g2 : (sump q u N % q * x % q != 0) = true := by simpa using g
  simp -implicitDefEqProofs (maxSteps := 3000000) [c1, c2, w, hz, e, g2]
theorem ct_sLadderOf (n : Nat) (hn : B + 5 + 3 ≤ n) (a q u z : Int) (h : WrOk a q u z) (g : LaGood a q u z) :
    evalCall Try.prog An n 38 [.d (.int .i64 a), .d (.int .i64 q), .d (.int .i64 u), .d (.int .i64 z)] [] = some ⟨.tuple [.agg [.d (.int .i64 1), .own 0 0], .d (.int .i64 0)], [.row (icells (laV a.toNat q u z))], []⟩ := by
  obtain ⟨m, rfl⟩ : ∃ m, n = m + 1 := ⟨n - 1, by omega⟩
  have hB := B_eq
  simp only [evalCall_at, fb38, bnd_some, bodyOf, Try.f38, Option.getD_some]
  generalize hb0 : Code.loop _ = cc0
  obtain rfl : cc0 = .loop (lp Try.f38 0) := by rw [← hb0]; rfl
  clear hb0
  have c1 := ct_l09Given m (by omega) a q u z
  rw [wrcode, if_pos h] at c1
  obtain ⟨h1, h2, h3, h4, h5⟩ := isC_iff.1 h.1.1
  have ha := h.1.2.1
  have hq := h.1.2.2
  have hxx := h.2
  obtain ⟨N, rfl⟩ := Int.eq_ofNat_of_zero_le (show 0 ≤ a by omega)
  have c2 := ct_l09Norm m (by omega) q u (by omega) (by omega) N (by omega)
  have g0 := Int.emod_nonneg (sump q u N) (show q ≠ 0 by omega)
  have g1 := Int.emod_lt_of_pos (sump q u N) (show 0 < q by omega)
  have b := mul_small (u := sump q u N % q) (x := z) (by omega) (by omega)
  have w := wrap_id (n := sump q u N % q * z) (by omega)
  have hz : q ≠ 0 := by omega
  have e := tmod_nn q b.1
  unfold LaGood at g
  rw [Int.toNat_natCast, Int.mul_comm] at g
  rw [Int.toNat_natCast, ← laV_eq N (by omega)]
  simp -implicitDefEqProofs (maxSteps := 3000000) [c1, c2, w, hz, e, g]
  generalize hx : loopC _ _ _ = x
  generalize hl : lp Try.f38 0 = L at hx
  simp only [lp, bodyOf, Try.f38, Option.getD_some, loopsIn, List.append_nil, List.nil_append, List.cons_append, List.getD, List.getElem?_cons_zero, List.getElem?_cons_succ] at hl
  subst hl
  obtain ⟨qq, rfl, hqq⟩ := loop_end hx (N - 1) (fun i s => ∃ g v, s = ⟨[(0, .d (.int .i64 N)), (1, .d (.int .i64 q)), (2, .d (.int .i64 u)), (3, .d (.int .i64 z)), (8, .ptr 128 1 0), (11, .ptr 176 22 0), (12, .d (.int .i64 (sump q u i))), (13, .d (.int .i64 ((i : Int) + 1)))], [(128, some (1, .box [.d (.int .i64 0), .d .nil])), (176, some (22, .box [.d (.int .i64 1), .own 528 v])), (528, some (v, .row (icells (tabI (laC q u z) i))))], g⟩)
    (fun qq => ∃ s v, qq = (.exit 0, s) ∧ lookL s.env 0 = some (.d (.int .i64 N)) ∧ lookL s.env 1 = some (.d (.int .i64 q)) ∧ lookL s.env 2 = some (.d (.int .i64 u)) ∧ lookL s.env 3 = some (.d (.int .i64 z)) ∧ lookL s.env 8 = some (.ptr 128 1 0) ∧ lookL s.env 11 = some (.ptr 176 22 0) ∧ lookL s.env 12 = some (.d (.int .i64 (sump q u (N - 1)))) ∧ lookL s.env 13 = some (.d (.int .i64 (((N - 1) : Int) + 1))) ∧ obsL s.obs 128 = some (1, .box [.d (.int .i64 0), .d .nil]) ∧ obsL s.obs 176 = some (22, .box [.d (.int .i64 1), .own 528 v]) ∧ obsL s.obs 528 = some (v, .row (icells (tabI (laC q u z) (N - 1)))))
    (by show N - 1 < m; omega) (by
      simp -implicitDefEqProofs (maxSteps := 3000000) [tabI, sump])
    (by
      rintro i s hi ⟨g, v, rfl⟩
      have w2 := wrap_id (n := (i : Int) + 1 + 1) (by omega)
      have w6 := wrap_id (n := (i : Int) + 1 - 1) (by omega)
      have e6 : (i : Int) + 1 - 1 = i := by omega
      rw [e6] at w6
      have h1 : (i : Int) + 1 < N := by omega
      have c3 := ct_l09Power m (by omega) q u (by omega) (by omega) i (by omega)
      have p := itp_range (u := u) (show 0 < q by omega) i 1 (by omega) (by omega)
      have s1 := sump_range (u := u) (show 1 < q by omega) (i + 1)
      have s0 : q * ((i + 1 : Nat) : Int) ≤ 12 * 7 := Int.mul_le_mul (by omega) (by omega) (by omega) (by omega)
      have e3 : sump q u i + itp q u 1 i = sump q u (i + 1) := rfl
      have w3 := wrap_id (n := sump q u (i + 1)) (by omega)
      have m1 := Int.mul_nonneg hxx.1 s1.1
      have m2 : z * sump q u (i + 1) ≤ 11 * 84 := Int.mul_le_mul (by omega) (by omega) s1.1 (by omega)
      have w4 := wrap_id (n := z * sump q u (i + 1)) (by omega)
      have e4 : (z * sump q u (i + 1)).tmod q = laC q u z i := tmod_nn q m1
      have hs := tabI_succ (laC q u z) i
      have hl := lt_bound (n := i) (by omega)
      have hl2 := le_bound (n := i) (by omega)
      simp -implicitDefEqProofs (maxSteps := 3000000) [h1, w2, w6, e6, c3, w3, e3, w4, e4, hz, hs, hl, hl2])
    (by
      rintro s ⟨g, v, rfl⟩
      have h1 : ¬ (((N - 1 : Nat) : Int) + 1 < N) := by omega
      have e1 : ((N - 1 : Nat) : Int) + 1 = N := by omega
      simp -implicitDefEqProofs (maxSteps := 3000000) [h1, e1])
  obtain ⟨s, v, rfl, hf⟩ := hqq
  simp -implicitDefEqProofs (maxSteps := 3000000) [hf]
end Go.Proofs.YtcdmhlagibjeiaaE

namespace Go.Proofs.YtcdmhlagibjeiaaE
open Go Go.Proofs
set_option maxHeartbeats 8000000
set_option maxRecDepth 4000
set_option linter.unusedSimpArgs false
set_option linter.unusedVariables false
set_option pp.deepTerms false
set_option pp.deepTerms.threshold 10
/-! ## drawn wraps and ladders, named groups -/
theorem ct_l09Small (n : Nat) (hn : B + 4 + 6 ≤ n) (l : List Int) (C : CodeOk l) (d : Int) (hd : d = 0 ∨ d = 1) :
    ∃ (a q u x : Int), evalCall Try.prog An n 64 [.d (.pin (bcells l)), .d (.int .i64 d)] [] = some ⟨.tuple [.d (.int .i64 a), .d (.int .i64 q), .d (.int .i64 u), .d (.int .i64 x)], [], []⟩ := by
  obtain ⟨m, rfl⟩ : ∃ m, n = m + 1 := ⟨n - 1, by omega⟩
  have hB := B_eq
  simp only [evalCall_at, fb64, bnd_some, bodyOf, Try.f64, Option.getD_some]
  obtain ⟨g0, c0⟩ := ct_l01From m (by omega) l C.hl C.hb
  obtain ⟨r1, p1, g1, S1, d1, c1⟩ := ct_l01Next m (by omega) l 0 C.src g0 8
  have e1 := d1.2 (by omega)
  obtain ⟨r2, p2, g2, S2, d2, c2⟩ := ct_l01Next m (by omega) l p1 S1 g1 11
  have e2 := d2.2 (by omega)
  have w1 := wrap_id (n := 1 + r1) (by omega)
  have w2 := wrap_id (n := 2 + r2) (by omega)
  have hU : (1 ≤ 1 + r1 ∧ 1 + r1 ≤ 60) ∧ 2 ≤ 2 + r2 ∧ 2 + r2 ≤ 200 := by omega
  have c3 := ct_sUnits m (by omega) (1 + r1) (2 + r2) hU
  have ul := units_one hU
  have w3 := wrap_id (n := ((unitsL (1 + r1) (2 + r2)).length : Int)) (by omega)
  obtain ⟨r3, p4, g4, S4, d4, c4⟩ := ct_l01Next m (by omega) l p2 S2 g2 (unitsL (1 + r1) (2 + r2)).length
  have e4 := d4.2 (by omega)
  obtain ⟨j, rfl⟩ := Int.eq_ofNat_of_zero_le e4.1
  have hj : j < (unitsL (1 + r1) (2 + r2)).length := by omega
  have hc := units_isC hj
  have wq := wrap_id (n := 2 + r2 - 1) (by omega)
  generalize unitsL (1 + r1) (2 + r2) = UL at *
  generalize hua : rn UL j = u at *
  generalize h1a : 1 + r1 = a at *
  generalize h2a : 2 + r2 = q at *
  have c5 := ct_l09Members m (by omega) a q u d hc (by omega)
  have tl := tmem_zero (q := q) (K := (tmaps a q u d).1) (by omega)
  have w5 := wrap_id (n := ((tmem q (tmaps a q u d).1).length : Int)) (by omega)
  obtain ⟨r6, p6, g6, S6, d6, c6⟩ := ct_l01Next m (by omega) l p4 S4 g4 (tmem q (tmaps a q u d).1).length
  have e6 := d6.2 (by omega)
  obtain ⟨i, rfl⟩ := Int.eq_ofNat_of_zero_le e6.1
  have hi : i < (tmem q (tmaps a q u d).1).length := by omega
  generalize tmem q (tmaps a q u d).1 = X at *
  obtain ⟨z, p7, g7, S7, d7, c7⟩ := ct_l01Next m (by omega) l p6 S6 g6 16
  by_cases z0 : z = 0
  · obtain ⟨x, p8, g8, S8, bx, c8⟩ := ct_l01Near m (by omega) l p7 S7 g7 (q - 1) (by omega)
    refine ⟨a, q, u, x, ?_⟩
    subst z0
    simp only [srcB, nz] at c0 c1 c2 c3 c4 c5 c6 c7 c8
    simp -implicitDefEqProofs (maxSteps := 3000000) [c0, c1, c2, c3, c4, c5, c6, c7, c8, w1, w2, w3, w5, wq, h1a, h2a, hj, hua, hi]
  by_cases z1 : z = 1
  · obtain ⟨a2, q2, u2, p8, g8, S8, bd, c8⟩ := ct_l09Draw m (by omega) l p7 S7 g7
    refine ⟨a2, q2, u2, rn X i, ?_⟩
    subst z1
    simp only [srcB, nz] at c0 c1 c2 c3 c4 c5 c6 c7 c8
    simp -implicitDefEqProofs (maxSteps := 3000000) [c0, c1, c2, c3, c4, c5, c6, c7, c8, w1, w2, w3, w5, h1a, h2a, hj, hua, hi]
  by_cases z2 : z = 2
  · obtain ⟨i3, p8, g8, S8, hi3, c8⟩ := ct_l01Pick m (by omega) l p7 S7 g7 [9, 16, 0] (by simp -implicitDefEqProofs (maxSteps := 3000000))
    rw [show ints [9, 16, 0] = .sl 1 [.int .i64 9, .int .i64 16, .int .i64 0] from rfl] at c8
    generalize rn [9, 16, 0] i3 = k3 at *
    refine ⟨k3, q, u, rn X i, ?_⟩
    subst z2
    simp only [srcB, nz] at c0 c1 c2 c3 c4 c5 c6 c7 c8
    simp -implicitDefEqProofs (maxSteps := 3000000) [c0, c1, c2, c3, c4, c5, c6, c7, c8, w1, w2, w3, w5, h1a, h2a, hj, hua, hi]
  · refine ⟨a, q, u, rn X i, ?_⟩
    simp only [srcB, nz] at c0 c1 c2 c3 c4 c5 c6 c7
    simp -implicitDefEqProofs (maxSteps := 3000000) [c0, c1, c2, c3, c4, c5, c6, c7, w1, w2, w3, w5, h1a, h2a, hj, hua, hi, z0, z1, z2, beq_f z0, beq_f z1, beq_f z2]
theorem ct_DrawWrap (n : Nat) (hn : B + 4 + 7 ≤ n) (l : List Int) (C : CodeOk l) :
    ∃ (a q u x : Int), evalCall Try.prog An n 30 [.d (.pin (bcells l))] [] = some ⟨.tuple [.d (.int .i64 a), .d (.int .i64 q), .d (.int .i64 u), .d (.int .i64 x)], [], []⟩ := by
  obtain ⟨m, rfl⟩ : ∃ m, n = m + 1 := ⟨n - 1, by omega⟩
  have hB := B_eq
  simp only [evalCall_at, fb30, bnd_some, bodyOf, Try.f30, Option.getD_some]
  obtain ⟨a, q, u, x, c⟩ := ct_l09Small m (by omega) l C 0 (by omega)
  refine ⟨a, q, u, x, ?_⟩
  simp -implicitDefEqProofs (maxSteps := 3000000) [c]
theorem ct_DrawLadder (n : Nat) (hn : B + 4 + 7 ≤ n) (l : List Int) (C : CodeOk l) :
    ∃ (a q u x : Int), evalCall Try.prog An n 36 [.d (.pin (bcells l))] [] = some ⟨.tuple [.d (.int .i64 a), .d (.int .i64 q), .d (.int .i64 u), .d (.int .i64 x)], [], []⟩ := by
  obtain ⟨m, rfl⟩ : ∃ m, n = m + 1 := ⟨n - 1, by omega⟩
  have hB := B_eq
  simp only [evalCall_at, fb36, bnd_some, bodyOf, Try.f36, Option.getD_some]
  obtain ⟨a, q, u, x, c⟩ := ct_l09Small m (by omega) l C 1 (by omega)
  refine ⟨a, q, u, x, ?_⟩
  simp -implicitDefEqProofs (maxSteps := 3000000) [c]
def nameS (N : Nat) : ByteArray := ⟨#[99, UInt8.ofNat (48 + N)]⟩
theorem nameS_size (N : Nat) : (nameS N).size = 2 := rfl
theorem nameS_0 (N : Nat) (h : 0 < (nameS N).size) : (nameS N)[0] = 99 := rfl
theorem nameS_1 (N : Nat) (h : 1 < (nameS N).size) : (nameS N)[1] = UInt8.ofNat (48 + N) := rfl
theorem nameS_list (N : Nat) : (nameS N).toList = [99, UInt8.ofNat (48 + N)] := by simp -implicitDefEqProofs (maxSteps := 3000000) [nameS, ByteArray.toList, ByteArray.toList.loop, ByteArray.size, ByteArray.get!]
theorem nameS_toNat {N : Nat} (hN : 1 ≤ N ∧ N ≤ 8) : (UInt8.ofNat (48 + N)).toNat = 48 + N := by
  simp -implicitDefEqProofs (maxSteps := 3000000)
  omega
theorem ct_named3 (n : Nat) (hn : B + 1 ≤ n) (N : Nat) (hN : 1 ≤ N ∧ N ≤ 8) (i k : Nat) (hi : i < N) (hk : k < N) :
    evalCall Try.prog An n 74 [.d (.int .i64 i), .d (.int .i64 k), .d (.cellp [.int .i64 N])] [] = some ⟨.d (.int .i64 (cyE N i k)), [], []⟩ := by
  obtain ⟨m, rfl⟩ : ∃ m, n = m + 1 := ⟨n - 1, by omega⟩
  have hB := B_eq
  simp only [evalCall_at, fb74, bnd_some, bodyOf, Try.f74, Option.getD_some]
  have w3 := wrap_id (n := (i : Int) + k) (by omega)
  have ee : cyE N i k = ((i : Int) + k).tmod N := by
    rw [Int.tmod_eq_emod_of_nonneg (by omega)]
    simp -implicitDefEqProofs (maxSteps := 3000000) [cyE]
  have hz : (N : Int) ≠ 0 := by omega
  have hz2 : N ≠ 0 := by omega
  rw [ee]
  simp -implicitDefEqProofs (maxSteps := 3000000) [w3, hz, hz2]
theorem two_str {s : ByteArray} {a b : UInt8} (h : s.toList = [a, b]) : (∀ t : ByteArray, (t.toList.length ≠ 2) → (s.toList == t.toList) = false) := fun t ht => by
  rw [h]
  apply Bool.eq_false_iff.2
  intro e
  have := eq_of_beq e
  rw [← this] at ht
  exact ht rfl
theorem ct_named (n : Nat) (hn : B + 10 ≤ n) (N : Nat) (hN : 1 ≤ N ∧ N ≤ 8) :
    evalCall Try.prog An n 34 [.d (.str (nameS N))] [] = some ⟨.tuple [.agg [.own 0 0], .d (.int .i64 0)], [.mat false (mcells (cyG N))], []⟩ := by
  obtain ⟨m, rfl⟩ : ∃ m, n = m + 1 := ⟨n - 1, by omega⟩
  have hB := B_eq
  simp only [evalCall_at, fb34, bnd_some, bodyOf, Try.f34, Option.getD_some]
  have c2 := ct_made m (by omega) N (by omega) 74 [.cellp [.int .i64 N]] (cyE N) (B + 1) (by omega)
    (fun m hm i hi k hk => by simpa using ct_named3 m hm N hN i k hi hk) (by simp -implicitDefEqProofs (maxSteps := 3000000))
  have e : tabM (fun i => tabI (cyE N i) N) N = cyG N := rfl
  rw [e] at c2
  have f := two_str (nameS_list N)
  have f3 : ((nameS N).toList == (ByteArray.mk #[115, 51]).toList) = false := by
    rw [nameS_list]; simp -implicitDefEqProofs (maxSteps := 3000000) [ByteArray.toList, ByteArray.toList.loop, ByteArray.size, ByteArray.get!]
  have f1 := f (ByteArray.mk #[107, 108, 101, 105, 110]) (by simp -implicitDefEqProofs (maxSteps := 3000000) [ByteArray.toList, ByteArray.toList.loop, ByteArray.size, ByteArray.get!])
  have f2 := f (ByteArray.mk #[99, 117, 98, 101]) (by simp -implicitDefEqProofs (maxSteps := 3000000) [ByteArray.toList, ByteArray.toList.loop, ByteArray.size, ByteArray.get!])
  have f4 := f (ByteArray.mk #[99, 50, 99, 52]) (by simp -implicitDefEqProofs (maxSteps := 3000000) [ByteArray.toList, ByteArray.toList.loop, ByteArray.size, ByteArray.get!])
  have f5 := f (ByteArray.mk #[100, 105, 104, 101, 100, 114, 97, 108]) (by simp -implicitDefEqProofs (maxSteps := 3000000) [ByteArray.toList, ByteArray.toList.loop, ByteArray.size, ByteArray.get!])
  have f6 := f (ByteArray.mk #[113, 117, 97, 116, 101, 114, 110, 105, 111, 110]) (by simp -implicitDefEqProofs (maxSteps := 3000000) [ByteArray.toList, ByteArray.toList.loop, ByteArray.size, ByteArray.get!])
  have t := nameS_toNat hN
  have h0 := nameS_0 N
  have h1 := nameS_1 N
  have hs := nameS_size N
  generalize nameS N = s at *
  generalize UInt8.ofNat (48 + N) = b at *
  have w1 : IntKind.u8.wrap ((b.toNat : Int) - 48) = N := by
    rw [t, show ((48 + N : Nat) : Int) - 48 = N by omega]
    have e : N = 1 ∨ N = 2 ∨ N = 3 ∨ N = 4 ∨ N = 5 ∨ N = 6 ∨ N = 7 ∨ N = 8 := by omega
    rcases e with rfl | rfl | rfl | rfl | rfl | rfl | rfl | rfl <;> rfl
  have w2 := wrap_id (n := (N : Int)) (by omega)
  have b1 : (49 : Int) ≤ (b.toNat : Int) := by omega
  have b2 : (b.toNat : Int) ≤ 56 := by omega
  have e99 : (((99 : UInt8).toNat : Nat) : Int) = 99 := rfl
  simp -implicitDefEqProofs (maxSteps := 3000000) [f1, f2, f3, f4, f5, f6, h0, h1, hs, b1, b2, w1, w2, c2, e99]
end Go.Proofs.YtcdmhlagibjeiaaE

namespace Go.Proofs.YtcdmhlagibjeiaaE
open Go Go.Proofs
set_option maxHeartbeats 8000000
set_option maxRecDepth 4000
set_option linter.unusedSimpArgs false
set_option linter.unusedVariables false
set_option pp.deepTerms false
set_option pp.deepTerms.threshold 10
/-! ## FnWraps: what it asks -/
theorem cy_e0 {N : Nat} (hN : 1 ≤ N ∧ N ≤ 8) : ∀ a < (cyG N).length, cl (cyG N) 0 a = a := fun a ha => ((cy_group hN).2 a ha).1.1
theorem cy_CoOk {N : Nat} {q u : Int} {V : List Int} {p : Nat} (hN : 1 ≤ N ∧ N ≤ 8) (hq : 2 ≤ q ∧ q ≤ 12) (hp : p ≤ 3) (hV : V.length = (N - 1) ^ p) (bV : ∀ i < V.length, 0 ≤ rn V i ∧ rn V i ≤ q - 1) : CoOk (cyG N) (cyU q u N) V p := by
  refine ⟨(cy_group hN).1, cy_e0 hN, by simp, ?_, ?_, fun i hi => by have := bV i hi; omega, hp⟩
  · intro i hi
    rw [cyU_len] at hi
    rw [rn_cyU hi]
    have := itp_range (u := u) (show 0 < q by omega) i 1 (by omega) (by omega)
    omega
  · rw [cyG_len, hV, pow_cast hN.1]
theorem cy_IsCo {N : Nat} {q : Int} {V : List Int} {p : Nat} (hN : 1 ≤ N ∧ N ≤ 8) (hp : p ≤ 3) (hV : V.length = (N - 1) ^ p) (bV : ∀ i < V.length, 0 ≤ rn V i ∧ rn V i ≤ q - 1) : IsCo (cyG N) q p V := by
  refine ⟨by omega, ?_, bV⟩
  rw [cyG_len, hV, cellsOf_, Int.toNat_natCast, pow_cast hN.1]
theorem ct_cyIsCo (n : Nat) (hn : B + 8 + 5 ≤ n) (N : Nat) (hN : 1 ≤ N ∧ N ≤ 8) (q u : Int) (hq : 2 ≤ q ∧ q ≤ 12) (hu : itp q u 1 N = 1) (V : List Int) (p : Nat) (hp : p ≤ 3) (hV : V.length = (N - 1) ^ p) (bV : ∀ i < V.length, 0 ≤ rn V i ∧ rn V i ≤ q - 1) (hc : IsCy (cyG N) q (cyU q u N) V p) :
    evalCall Try.prog An n 35 [.agg [.d (intss (cyG N))], .agg [.d (.int .i64 q), .d (ints (cyU q u N))], .agg [.d (.int .i64 p), .d (ints V)]] [] = some ⟨.tuple [.d (.bool true), .d (.int .i64 0)], [], []⟩ := by
  obtain ⟨m, rfl⟩ : ∃ m, n = m + 1 := ⟨n - 1, by omega⟩
  have hB := B_eq
  simp only [evalCall_at, fb35, bnd_some, bodyOf, Try.f35, Option.getD_some]
  have pb := pow_bd hN (show p ≤ 4 by omega)
  have c1 := ct_cochainCode m (by omega) (cyG N) (by rw [cyG_len]; omega) (fun i => by have := cyG_rows N i; omega) q (cyU q u N) (by rw [cyU_len]; omega) p V (by omega)
  rw [cocode, if_pos ⟨⟨cy_group hN, cy_module hN hq hu⟩, cy_IsCo hN hp hV bV⟩] at c1
  have c2 := ct_isCocycle m (by omega) (cyG N) q (by omega) (cyU q u N) V p (cy_CoOk hN hq hp hV bV)
  rw [bl_true hc] at c2
  simp -implicitDefEqProofs (maxSteps := 3000000) [c1, c2]
theorem ct_coch5 (n : Nat) (hn : B + 2 ≤ n) (p : Int) (V : List Int) (hV : V.length ≤ 1000000) :
    evalCall Try.prog An n 33 [.agg [.d (.int .i64 p), .d (ints V)], .agg [.d (.int .i64 p), .d (ints V)]] [] = some ⟨.d (.bool true), [], []⟩ := by
  obtain ⟨m, rfl⟩ : ∃ m, n = m + 1 := ⟨n - 1, by omega⟩
  have hB := B_eq
  simp only [evalCall_at, fb33, bnd_some, bodyOf, Try.f33, Option.getD_some]
  have c1 := ct_like m (by omega) V hV
  simp -implicitDefEqProofs (maxSteps := 3000000) [c1]
theorem ct_coch5_nil (n : Nat) (hn : B + 2 ≤ n) (p : Int) :
    evalCall Try.prog An n 33 [.agg [.d (.int .i64 p), .d .nil], .agg [.d (.int .i64 p), .d .nil]] [] = some ⟨.d (.bool true), [], []⟩ := by
  obtain ⟨m, rfl⟩ : ∃ m, n = m + 1 := ⟨n - 1, by omega⟩
  have hB := B_eq
  simp only [evalCall_at, fb33, bnd_some, bodyOf, Try.f33, Option.getD_some]
  have c1 := ct_like_nil m (by omega)
  simp -implicitDefEqProofs (maxSteps := 3000000) [c1]
def nmL : List YtcdmhlagibjeiaaE.D := [.str ⟨#[]⟩, .str ⟨#[99, 49]⟩, .str ⟨#[99, 50]⟩, .str ⟨#[99, 51]⟩, .str ⟨#[99, 52]⟩, .str ⟨#[99, 53]⟩, .str ⟨#[99, 54]⟩, .str ⟨#[99, 55]⟩, .str ⟨#[99, 56]⟩]
@[simp] theorem fold_nm : YtcdmhlagibjeiaaE.AV.d (.sl 1 [.str ⟨#[]⟩, .str ⟨#[99, 49]⟩, .str ⟨#[99, 50]⟩, .str ⟨#[99, 51]⟩, .str ⟨#[99, 52]⟩, .str ⟨#[99, 53]⟩, .str ⟨#[99, 54]⟩, .str ⟨#[99, 55]⟩, .str ⟨#[99, 56]⟩]) = .d (.sl 1 nmL) := rfl
@[simp] theorem nmL_len : nmL.length = 9 := rfl
theorem nm_load {N : Nat} (hN : 1 ≤ N ∧ N ≤ 8) (h : N < nmL.length) : nmL[N] = .str (nameS N) := by
  have e : N = 1 ∨ N = 2 ∨ N = 3 ∨ N = 4 ∨ N = 5 ∨ N = 6 ∨ N = 7 ∨ N = 8 := by omega
  rcases e with rfl | rfl | rfl | rfl | rfl | rfl | rfl | rfl <;> rfl
theorem wrV_len (N : Nat) (x : Int) : (wrV N x).length = (N - 1) ^ 2 := by simp -implicitDefEqProofs (maxSteps := 3000000) [wrV]
theorem laV_len (N : Nat) (q u x : Int) : (laV N q u x).length = (N - 1) ^ 1 := by simp -implicitDefEqProofs (maxSteps := 3000000) [laV]
theorem wrV_bd {N : Nat} {q x : Int} (hx : 0 ≤ x ∧ x ≤ q - 1) : ∀ i < (wrV N x).length, 0 ≤ rn (wrV N x) i ∧ rn (wrV N x) i ≤ q - 1 := fun i hi => by
  rw [wrV_len] at hi
  rw [wrV, rn_tabI _ hi]
  unfold wrF
  split <;> omega
theorem laV_bd {N : Nat} {q u x : Int} (hq : 0 < q) : ∀ i < (laV N q u x).length, 0 ≤ rn (laV N q u x) i ∧ rn (laV N q u x) i ≤ q - 1 := fun i hi => by
  rw [laV_len] at hi
  rw [laV, rn_tabI _ hi]
  have h0 := Int.emod_nonneg (x * sump q u (rn (digs (N - 1) 1 i) 0).toNat) (show q ≠ 0 by omega)
  have h1 := Int.emod_lt_of_pos (x * sump q u (rn (digs (N - 1) 1 i) 0).toNat) hq
  unfold laF
  omega
theorem laV_first {N : Nat} {q u x : Int} (hN : 1 < N) (hx : 0 ≤ x ∧ x ≤ q - 1) : rn (laV N q u x) 0 = x := by
  rw [← laV_eq N (by omega), rn_tabI _ (by omega), laC, sump, sump, itp]
  simp only [Int.zero_add, Int.mul_one]
  exact Int.emod_eq_of_lt (by omega) (by omega)
theorem wr_dvd {q u x : Int} (h : WrGood q u x) : q ∣ (u - 1) * x := by
  unfold WrGood at h
  rw [Int.emod_def] at h
  exact ⟨u * x / q, by rw [Int.sub_mul, Int.one_mul]; omega⟩
theorem la_dvd {N : Nat} {q u x : Int} (h : LaGood N q u x) : q ∣ x * sump q u N := by
  unfold LaGood at h
  rw [Int.toNat_natCast, emod_mul_r] at h
  exact Int.dvd_of_emod_eq_zero h
end Go.Proofs.YtcdmhlagibjeiaaE

namespace Go.Proofs.YtcdmhlagibjeiaaE
open Go Go.Proofs
set_option maxHeartbeats 16000000
set_option maxRecDepth 8000
set_option linter.unusedSimpArgs false
set_option linter.unusedVariables false
set_option pp.deepTerms false
set_option pp.deepTerms.threshold 10
/-! ## FnWraps -/
theorem ct_FnWraps_big (n : Nat) (hn : B + 2 ≤ n) (l : List Int) (h : 4096 < l.length) :
    evalCall Try.prog An n 4 [.d (.pin (bcells l))] [] = some ⟨.d (.bool true), [], []⟩ := by
  obtain ⟨m, rfl⟩ : ∃ m, n = m + 1 := ⟨n - 1, by omega⟩
  have hB := B_eq
  simp only [evalCall_at, fb4, bnd_some, bodyOf, Try.f4, Option.getD_some]
  generalize hb0 : Code.loop _ = cc0
  generalize hb1 : Code.loop _ = cc1
  obtain rfl : cc0 = .loop (lp Try.f4 0) := by rw [← hb0]; rfl
  clear hb0
  obtain rfl : cc1 = .loop (lp Try.f4 1) := by rw [← hb1]; rfl
  clear hb1
  have c1 := ct_big m (by omega) l
  simp -implicitDefEqProofs (maxSteps := 3000000) [c1, h]
theorem ct_FnWraps_aa (n : Nat) (hn : B + 100 ≤ n) (l : List Int) (C : CodeOk l) (h : ¬ 4096 < l.length) (a1 q1 u1 z1 a2 q2 u2 z2 : Int) (h1 : WrOk a1 q1 u1 z1) (g1 : WrGood q1 u1 z1) (h2 : WrOk a2 q2 u2 z2) (g2 : LaGood a2 q2 u2 z2)
    (hw : evalCall Try.prog An (n - 1) 30 [.d (.pin (bcells l))] [] = some ⟨.tuple [.d (.int .i64 a1), .d (.int .i64 q1), .d (.int .i64 u1), .d (.int .i64 z1)], [], []⟩)
    (hl : evalCall Try.prog An (n - 1) 36 [.d (.pin (bcells l))] [] = some ⟨.tuple [.d (.int .i64 a2), .d (.int .i64 q2), .d (.int .i64 u2), .d (.int .i64 z2)], [], []⟩) :
    evalCall Try.prog An n 4 [.d (.pin (bcells l))] [] = some ⟨.d (.bool true), [], []⟩ := by
  obtain ⟨m, rfl⟩ : ∃ m, n = m + 1 := ⟨n - 1, by omega⟩
  have hB := B_eq
  simp only [evalCall_at, fb4, bnd_some, bodyOf, Try.f4, Option.getD_some]
  generalize hb0 : Code.loop _ = cc0
  generalize hb1 : Code.loop _ = cc1
  obtain rfl : cc0 = .loop (lp Try.f4 0) := by rw [← hb0]; rfl
  clear hb0
  obtain rfl : cc1 = .loop (lp Try.f4 1) := by rw [← hb1]; rfl
  clear hb1
  have c1 := ct_big m (by omega) l
  rw [Nat.add_sub_cancel] at hw hl
  have d1 := hw
  have d2 := hl
  obtain ⟨i1, i2, i3, i4, i5⟩ := isC_iff.1 h1.1.1
  have i6 := h1.1.2
  have i7 := h1.2
  obtain ⟨N1, rfl⟩ := Int.eq_ofNat_of_zero_le (show 0 ≤ a1 by omega)
  have hN1 : 1 ≤ N1 ∧ N1 ≤ 8 := by omega
  have w1 := ct_iWrapOf m (by omega) N1 q1 u1 z1 h1 g1
  have w2 := ct_sWrapOf m (by omega) N1 q1 u1 z1 h1 g1
  rw [Int.toNat_natCast] at w1 w2 i5
  have pb := pow_bd hN1 (show 2 ≤ 4 by omega)
  have vl := wrV_len N1 z1
  have w3 := ct_coch5 m (by omega) 2 (wrV N1 z1) (by omega)
  have w4 := nm_load hN1
  have w5 := ct_named m (by omega) N1 hN1
  have w6 := ct_cyIsCo m (by omega) N1 hN1 q1 u1 (by omega) i5 (wrV N1 z1) 2 (by omega) vl (wrV_bd i7) (wr_cocycle hN1 (by omega) (wr_dvd g1))
  rw [show ((2 : Nat) : Int) = 2 from rfl] at w6
  have w7 : N1 < 9 := by omega
  have w8 : q1 ≠ 0 := by omega
  generalize wrV N1 z1 = V1 at *
  obtain ⟨j1, j2, j3, j4, j5⟩ := isC_iff.1 h2.1.1
  have j6 := h2.1.2
  have j7 := h2.2
  obtain ⟨N2, rfl⟩ := Int.eq_ofNat_of_zero_le (show 0 ≤ a2 by omega)
  have hN2 : 1 ≤ N2 ∧ N2 ≤ 8 := by omega
  have v1 := ct_iLadderOf m (by omega) N2 q2 u2 z2 h2 g2
  have v2 := ct_sLadderOf m (by omega) N2 q2 u2 z2 h2 g2
  rw [Int.toNat_natCast] at v1 v2 j5
  have pb2 := pow_bd hN2 (show 1 ≤ 4 by omega)
  have ul := laV_len N2 q2 u2 z2
  have v3 := ct_coch5 m (by omega) 1 (laV N2 q2 u2 z2) (by omega)
  have v4 := nm_load hN2
  have v5 := ct_named m (by omega) N2 hN2
  have v6 := ct_cyIsCo m (by omega) N2 hN2 q2 u2 (by omega) j5 (laV N2 q2 u2 z2) 1 (by omega) ul (laV_bd (by omega)) (la_cocycle hN2 (by omega) j5 (la_dvd g2))
  rw [show ((1 : Nat) : Int) = 1 from rfl] at v6
  have v7 : N2 < 9 := by omega
  have v8 : q2 ≠ 0 := by omega
  have v9 : 1 < N2 → rn (laV N2 q2 u2 z2) 0 = z2 := fun h => laV_first h j7
  generalize laV N2 q2 u2 z2 = V2 at *
  rw [Nat.pow_one] at ul
  simp -implicitDefEqProofs (maxSteps := 3000000) [c1, h, d1, w1, w2, w3, w4, w5, w7]
  generalize hx : loopC _ _ _ = x
  generalize hl : lp Try.f4 0 = L at hx
  simp only [lp, bodyOf, Try.f4, Option.getD_some, loopsIn, List.append_nil, List.nil_append, List.cons_append, List.getD, List.getElem?_cons_zero, List.getElem?_cons_succ] at hl
  subst hl
  obtain ⟨qq, rfl, hqq⟩ := loop_end hx (N1) (fun i s => ∃ g v, s = ⟨[(0, .d (.pin (bcells l))), (3, .d (.sl 1 nmL)), (4, .d (.int .i64 N1)), (5, .d (.int .i64 q1)), (6, .d (.int .i64 u1)), (8, .ptr 128 25 0), (12, .ptr 192 58 0), (13, .d (.int .i64 0)), (14, .own 1264 v), (15, .d (.int .i64 (itp q1 u1 1 i))), (16, .d (.int .i64 i))], [(128, some (25, .box [.d (.int .i64 2), .own 784 21])), (192, some (58, .box [.own 1216 54])), (784, some (21, .row (icells V1))), (1216, some (54, .mat false (mcells (cyG N1)))), (1264, some (v, .row (icells (tabI (itp q1 u1 1) i))))], g⟩)
    (fun qq => ∃ s v, qq = (.exit 0, s) ∧ lookL s.env 0 = some (.d (.pin (bcells l))) ∧ lookL s.env 3 = some (.d (.sl 1 nmL)) ∧ lookL s.env 4 = some (.d (.int .i64 N1)) ∧ lookL s.env 5 = some (.d (.int .i64 q1)) ∧ lookL s.env 6 = some (.d (.int .i64 u1)) ∧ lookL s.env 8 = some (.ptr 128 25 0) ∧ lookL s.env 12 = some (.ptr 192 58 0) ∧ lookL s.env 13 = some (.d (.int .i64 0)) ∧ lookL s.env 14 = some (.own 1264 v) ∧ lookL s.env 15 = some (.d (.int .i64 (itp q1 u1 1 (N1)))) ∧ lookL s.env 16 = some (.d (.int .i64 (N1))) ∧ obsL s.obs 128 = some (25, .box [.d (.int .i64 2), .own 784 21]) ∧ obsL s.obs 192 = some (58, .box [.own 1216 54]) ∧ obsL s.obs 784 = some (21, .row (icells V1)) ∧ obsL s.obs 1216 = some (54, .mat false (mcells (cyG N1))) ∧ obsL s.obs 1264 = some (v, .row (icells (tabI (itp q1 u1 1) (N1)))) ∧ obsL s.obs 2001 = none ∧ obsL s.obs 2002 = none ∧ obsL s.obs 2003 = none ∧ obsL s.obs 2433 = none ∧ obsL s.obs 2434 = none ∧ obsL s.obs 2435 = none ∧ obsL s.obs 2624 = none)
    (by show N1 < m; omega) (by
      simp -implicitDefEqProofs (maxSteps := 3000000) [itp])
    (by
      rintro i s hi ⟨g, v, rfl⟩
      obtain ⟨k1, k2, k3, k4, k5⟩ := itp_step (m := q1) (u := u1) (by omega) (by omega) i
      have w10 := wrap_id (n := itp q1 u1 1 i * u1) (by omega)
      have w11 := wrap_id (n := (i : Int) + 1) (by omega)
      have hs := tabI_succ (itp q1 u1 1) i
      have hb := lt_bound (n := i) (by omega)
      have hb2 := le_bound (n := i) (by omega)
      simp -implicitDefEqProofs (maxSteps := 3000000) [hi, w10, w11, k5, w8, hs, hb, hb2])
    (by
      rintro s ⟨g, v, rfl⟩
      simp -implicitDefEqProofs (maxSteps := 3000000))
  obtain ⟨s, v, rfl, hf⟩ := hqq
  change evalCall _ _ _ _ [_, .agg [_, .d (ints (cyU q1 u1 N1))], _] _ = _ at w6
  unfold cyU at w6
  simp -implicitDefEqProofs (maxSteps := 3000000) [hf, w6, d2, v1, v2, v3, v4, v5, v7]
  obtain ⟨G, hG⟩ : ∃ G, G = s.g := ⟨_, rfl⟩
  generalize hx : loopC _ _ _ = x
  generalize hl : lp Try.f4 1 = L at hx
  simp only [lp, bodyOf, Try.f4, Option.getD_some, loopsIn, List.append_nil, List.nil_append, List.cons_append, List.getD, List.getElem?_cons_zero, List.getElem?_cons_succ] at hl
  subst hl
  obtain ⟨qq, rfl, hqq⟩ := loop_end hx (N2) (fun i s => ∃ g v, s = ⟨[(19, .d (.int .i64 N2)), (20, .d (.int .i64 q2)), (21, .d (.int .i64 u2)), (22, .d (.int .i64 z2)), (23, .ptr 368 (G + 40) 0), (27, .ptr 432 (G + 73) 0), (28, .d (.int .i64 0)), (29, .own 2480 v), (30, .d (.int .i64 (itp q2 u2 1 i))), (31, .d (.int .i64 i))], [(368, some ((G + 40), .box [.d (.int .i64 1), .own 2000 (G + 36)])), (432, some ((G + 73), .box [.own 2432 (G + 69)])), (2000, some ((G + 36), .row (icells V2))), (2432, some ((G + 69), .mat false (mcells (cyG N2)))), (2480, some (v, .row (icells (tabI (itp q2 u2 1) i))))], g⟩)
    (fun qq => ∃ s v, qq = (.exit 2, s) ∧ lookL s.env 19 = some (.d (.int .i64 N2)) ∧ lookL s.env 20 = some (.d (.int .i64 q2)) ∧ lookL s.env 21 = some (.d (.int .i64 u2)) ∧ lookL s.env 22 = some (.d (.int .i64 z2)) ∧ lookL s.env 23 = some (.ptr 368 (G + 40) 0) ∧ lookL s.env 27 = some (.ptr 432 (G + 73) 0) ∧ lookL s.env 28 = some (.d (.int .i64 0)) ∧ lookL s.env 29 = some (.own 2480 v) ∧ lookL s.env 30 = some (.d (.int .i64 (itp q2 u2 1 (N2)))) ∧ lookL s.env 31 = some (.d (.int .i64 (N2))) ∧ obsL s.obs 368 = some ((G + 40), .box [.d (.int .i64 1), .own 2000 (G + 36)]) ∧ obsL s.obs 432 = some ((G + 73), .box [.own 2432 (G + 69)]) ∧ obsL s.obs 2000 = some ((G + 36), .row (icells V2)) ∧ obsL s.obs 2432 = some ((G + 69), .mat false (mcells (cyG N2))) ∧ obsL s.obs 2480 = some (v, .row (icells (tabI (itp q2 u2 1) (N2)))))
    (by show N2 < m; omega) (by
      simp -implicitDefEqProofs (maxSteps := 3000000) [itp, hf, hG])
    (by
      rintro i s hi ⟨g, v, rfl⟩
      obtain ⟨k1, k2, k3, k4, k5⟩ := itp_step (m := q2) (u := u2) (by omega) (by omega) i
      have w10 := wrap_id (n := itp q2 u2 1 i * u2) (by omega)
      have w11 := wrap_id (n := (i : Int) + 1) (by omega)
      have hs := tabI_succ (itp q2 u2 1) i
      have hb := lt_bound (n := i) (by omega)
      have hb2 := le_bound (n := i) (by omega)
      simp -implicitDefEqProofs (maxSteps := 3000000) [hi, w10, w11, k5, v8, hs, hb, hb2])
    (by
      rintro s ⟨g, v, rfl⟩
      simp -implicitDefEqProofs (maxSteps := 3000000))
  obtain ⟨s, v, rfl, hf⟩ := hqq
  unfold cyU at v6
  by_cases hb : 1 < N2
  · have b1 := v9 hb
    have b2 : (0 : Int) < ((N2 - 1 : Nat) : Int) := by omega
    have b3 : 0 < V2.length := by omega
    simp -implicitDefEqProofs (maxSteps := 3000000) [hf, v6, ul, hb, b1, b2, b3]
  · have b2 : ¬ (0 : Int) < ((N2 - 1 : Nat) : Int) := by omega
    have b3 : N2 - 1 = 0 := by omega
    simp -implicitDefEqProofs (maxSteps := 3000000) [hf, v6, ul, hb, b2, b3]
theorem ct_FnWraps_ab (n : Nat) (hn : B + 100 ≤ n) (l : List Int) (C : CodeOk l) (h : ¬ 4096 < l.length) (a1 q1 u1 z1 a2 q2 u2 z2 : Int) (h1 : WrOk a1 q1 u1 z1) (g1 : WrGood q1 u1 z1) (h2 : WrOk a2 q2 u2 z2) (g2 : ¬ LaGood a2 q2 u2 z2)
    (hw : evalCall Try.prog An (n - 1) 30 [.d (.pin (bcells l))] [] = some ⟨.tuple [.d (.int .i64 a1), .d (.int .i64 q1), .d (.int .i64 u1), .d (.int .i64 z1)], [], []⟩)
    (hl : evalCall Try.prog An (n - 1) 36 [.d (.pin (bcells l))] [] = some ⟨.tuple [.d (.int .i64 a2), .d (.int .i64 q2), .d (.int .i64 u2), .d (.int .i64 z2)], [], []⟩) :
    evalCall Try.prog An n 4 [.d (.pin (bcells l))] [] = some ⟨.d (.bool true), [], []⟩ := by
  obtain ⟨m, rfl⟩ : ∃ m, n = m + 1 := ⟨n - 1, by omega⟩
  have hB := B_eq
  simp only [evalCall_at, fb4, bnd_some, bodyOf, Try.f4, Option.getD_some]
  generalize hb0 : Code.loop _ = cc0
  generalize hb1 : Code.loop _ = cc1
  obtain rfl : cc0 = .loop (lp Try.f4 0) := by rw [← hb0]; rfl
  clear hb0
  obtain rfl : cc1 = .loop (lp Try.f4 1) := by rw [← hb1]; rfl
  clear hb1
  have c1 := ct_big m (by omega) l
  rw [Nat.add_sub_cancel] at hw hl
  have d1 := hw
  have d2 := hl
  obtain ⟨i1, i2, i3, i4, i5⟩ := isC_iff.1 h1.1.1
  have i6 := h1.1.2
  have i7 := h1.2
  obtain ⟨N1, rfl⟩ := Int.eq_ofNat_of_zero_le (show 0 ≤ a1 by omega)
  have hN1 : 1 ≤ N1 ∧ N1 ≤ 8 := by omega
  have w1 := ct_iWrapOf m (by omega) N1 q1 u1 z1 h1 g1
  have w2 := ct_sWrapOf m (by omega) N1 q1 u1 z1 h1 g1
  rw [Int.toNat_natCast] at w1 w2 i5
  have pb := pow_bd hN1 (show 2 ≤ 4 by omega)
  have vl := wrV_len N1 z1
  have w3 := ct_coch5 m (by omega) 2 (wrV N1 z1) (by omega)
  have w4 := nm_load hN1
  have w5 := ct_named m (by omega) N1 hN1
  have w6 := ct_cyIsCo m (by omega) N1 hN1 q1 u1 (by omega) i5 (wrV N1 z1) 2 (by omega) vl (wrV_bd i7) (wr_cocycle hN1 (by omega) (wr_dvd g1))
  rw [show ((2 : Nat) : Int) = 2 from rfl] at w6
  have w7 : N1 < 9 := by omega
  have w8 : q1 ≠ 0 := by omega
  generalize wrV N1 z1 = V1 at *
  have v1 := ct_iLadderOf_5 m (by omega) a2 q2 u2 z2 h2 g2
  have v2 := ct_sLadderOf_5 m (by omega) a2 q2 u2 z2 h2 g2
  have v3 := ct_coch5_nil m (by omega) 0
  simp -implicitDefEqProofs (maxSteps := 3000000) [c1, h, d1, w1, w2, w3, w4, w5, w7]
  generalize hx : loopC _ _ _ = x
  generalize hl : lp Try.f4 0 = L at hx
  simp only [lp, bodyOf, Try.f4, Option.getD_some, loopsIn, List.append_nil, List.nil_append, List.cons_append, List.getD, List.getElem?_cons_zero, List.getElem?_cons_succ] at hl
  subst hl
  obtain ⟨qq, rfl, hqq⟩ := loop_end hx (N1) (fun i s => ∃ g v, s = ⟨[(0, .d (.pin (bcells l))), (3, .d (.sl 1 nmL)), (4, .d (.int .i64 N1)), (5, .d (.int .i64 q1)), (6, .d (.int .i64 u1)), (8, .ptr 128 25 0), (12, .ptr 192 58 0), (13, .d (.int .i64 0)), (14, .own 1264 v), (15, .d (.int .i64 (itp q1 u1 1 i))), (16, .d (.int .i64 i))], [(128, some (25, .box [.d (.int .i64 2), .own 784 21])), (192, some (58, .box [.own 1216 54])), (784, some (21, .row (icells V1))), (1216, some (54, .mat false (mcells (cyG N1)))), (1264, some (v, .row (icells (tabI (itp q1 u1 1) i))))], g⟩)
    (fun qq => ∃ s v, qq = (.exit 0, s) ∧ lookL s.env 0 = some (.d (.pin (bcells l))) ∧ lookL s.env 3 = some (.d (.sl 1 nmL)) ∧ lookL s.env 4 = some (.d (.int .i64 N1)) ∧ lookL s.env 5 = some (.d (.int .i64 q1)) ∧ lookL s.env 6 = some (.d (.int .i64 u1)) ∧ lookL s.env 8 = some (.ptr 128 25 0) ∧ lookL s.env 12 = some (.ptr 192 58 0) ∧ lookL s.env 13 = some (.d (.int .i64 0)) ∧ lookL s.env 14 = some (.own 1264 v) ∧ lookL s.env 15 = some (.d (.int .i64 (itp q1 u1 1 (N1)))) ∧ lookL s.env 16 = some (.d (.int .i64 (N1))) ∧ obsL s.obs 128 = some (25, .box [.d (.int .i64 2), .own 784 21]) ∧ obsL s.obs 192 = some (58, .box [.own 1216 54]) ∧ obsL s.obs 784 = some (21, .row (icells V1)) ∧ obsL s.obs 1216 = some (54, .mat false (mcells (cyG N1))) ∧ obsL s.obs 1264 = some (v, .row (icells (tabI (itp q1 u1 1) (N1)))) ∧ obsL s.obs 2001 = none ∧ obsL s.obs 2002 = none ∧ obsL s.obs 2003 = none ∧ obsL s.obs 2433 = none ∧ obsL s.obs 2434 = none ∧ obsL s.obs 2435 = none ∧ obsL s.obs 2624 = none)
    (by show N1 < m; omega) (by
      simp -implicitDefEqProofs (maxSteps := 3000000) [itp])
    (by
      rintro i s hi ⟨g, v, rfl⟩
      obtain ⟨k1, k2, k3, k4, k5⟩ := itp_step (m := q1) (u := u1) (by omega) (by omega) i
      have w10 := wrap_id (n := itp q1 u1 1 i * u1) (by omega)
      have w11 := wrap_id (n := (i : Int) + 1) (by omega)
      have hs := tabI_succ (itp q1 u1 1) i
      have hb := lt_bound (n := i) (by omega)
      have hb2 := le_bound (n := i) (by omega)
      simp -implicitDefEqProofs (maxSteps := 3000000) [hi, w10, w11, k5, w8, hs, hb, hb2])
    (by
      rintro s ⟨g, v, rfl⟩
      simp -implicitDefEqProofs (maxSteps := 3000000))
  obtain ⟨s, v, rfl, hf⟩ := hqq
  change evalCall _ _ _ _ [_, .agg [_, .d (ints (cyU q1 u1 N1))], _] _ = _ at w6
  unfold cyU at w6
  simp -implicitDefEqProofs (maxSteps := 3000000) [hf, w6, d2, v1, v2, v3]
theorem ct_FnWraps_ac (n : Nat) (hn : B + 100 ≤ n) (l : List Int) (C : CodeOk l) (h : ¬ 4096 < l.length) (a1 q1 u1 z1 a2 q2 u2 z2 : Int) (h1 : WrOk a1 q1 u1 z1) (g1 : WrGood q1 u1 z1) (h2 : ¬ WrOk a2 q2 u2 z2)
    (hw : evalCall Try.prog An (n - 1) 30 [.d (.pin (bcells l))] [] = some ⟨.tuple [.d (.int .i64 a1), .d (.int .i64 q1), .d (.int .i64 u1), .d (.int .i64 z1)], [], []⟩)
    (hl : evalCall Try.prog An (n - 1) 36 [.d (.pin (bcells l))] [] = some ⟨.tuple [.d (.int .i64 a2), .d (.int .i64 q2), .d (.int .i64 u2), .d (.int .i64 z2)], [], []⟩) :
    evalCall Try.prog An n 4 [.d (.pin (bcells l))] [] = some ⟨.d (.bool true), [], []⟩ := by
  obtain ⟨m, rfl⟩ : ∃ m, n = m + 1 := ⟨n - 1, by omega⟩
  have hB := B_eq
  simp only [evalCall_at, fb4, bnd_some, bodyOf, Try.f4, Option.getD_some]
  generalize hb0 : Code.loop _ = cc0
  generalize hb1 : Code.loop _ = cc1
  obtain rfl : cc0 = .loop (lp Try.f4 0) := by rw [← hb0]; rfl
  clear hb0
  obtain rfl : cc1 = .loop (lp Try.f4 1) := by rw [← hb1]; rfl
  clear hb1
  have c1 := ct_big m (by omega) l
  rw [Nat.add_sub_cancel] at hw hl
  have d1 := hw
  have d2 := hl
  obtain ⟨i1, i2, i3, i4, i5⟩ := isC_iff.1 h1.1.1
  have i6 := h1.1.2
  have i7 := h1.2
  obtain ⟨N1, rfl⟩ := Int.eq_ofNat_of_zero_le (show 0 ≤ a1 by omega)
  have hN1 : 1 ≤ N1 ∧ N1 ≤ 8 := by omega
  have w1 := ct_iWrapOf m (by omega) N1 q1 u1 z1 h1 g1
  have w2 := ct_sWrapOf m (by omega) N1 q1 u1 z1 h1 g1
  rw [Int.toNat_natCast] at w1 w2 i5
  have pb := pow_bd hN1 (show 2 ≤ 4 by omega)
  have vl := wrV_len N1 z1
  have w3 := ct_coch5 m (by omega) 2 (wrV N1 z1) (by omega)
  have w4 := nm_load hN1
  have w5 := ct_named m (by omega) N1 hN1
  have w6 := ct_cyIsCo m (by omega) N1 hN1 q1 u1 (by omega) i5 (wrV N1 z1) 2 (by omega) vl (wrV_bd i7) (wr_cocycle hN1 (by omega) (wr_dvd g1))
  rw [show ((2 : Nat) : Int) = 2 from rfl] at w6
  have w7 : N1 < 9 := by omega
  have w8 : q1 ≠ 0 := by omega
  generalize wrV N1 z1 = V1 at *
  have v1 := ct_iLadderOf_bad m (by omega) a2 q2 u2 z2 h2
  have v2 := ct_sLadderOf_bad m (by omega) a2 q2 u2 z2 h2
  have v3 := ct_coch5_nil m (by omega) 0
  simp -implicitDefEqProofs (maxSteps := 3000000) [c1, h, d1, w1, w2, w3, w4, w5, w7]
  generalize hx : loopC _ _ _ = x
  generalize hl : lp Try.f4 0 = L at hx
  simp only [lp, bodyOf, Try.f4, Option.getD_some, loopsIn, List.append_nil, List.nil_append, List.cons_append, List.getD, List.getElem?_cons_zero, List.getElem?_cons_succ] at hl
  subst hl
  obtain ⟨qq, rfl, hqq⟩ := loop_end hx (N1) (fun i s => ∃ g v, s = ⟨[(0, .d (.pin (bcells l))), (3, .d (.sl 1 nmL)), (4, .d (.int .i64 N1)), (5, .d (.int .i64 q1)), (6, .d (.int .i64 u1)), (8, .ptr 128 25 0), (12, .ptr 192 58 0), (13, .d (.int .i64 0)), (14, .own 1264 v), (15, .d (.int .i64 (itp q1 u1 1 i))), (16, .d (.int .i64 i))], [(128, some (25, .box [.d (.int .i64 2), .own 784 21])), (192, some (58, .box [.own 1216 54])), (784, some (21, .row (icells V1))), (1216, some (54, .mat false (mcells (cyG N1)))), (1264, some (v, .row (icells (tabI (itp q1 u1 1) i))))], g⟩)
    (fun qq => ∃ s v, qq = (.exit 0, s) ∧ lookL s.env 0 = some (.d (.pin (bcells l))) ∧ lookL s.env 3 = some (.d (.sl 1 nmL)) ∧ lookL s.env 4 = some (.d (.int .i64 N1)) ∧ lookL s.env 5 = some (.d (.int .i64 q1)) ∧ lookL s.env 6 = some (.d (.int .i64 u1)) ∧ lookL s.env 8 = some (.ptr 128 25 0) ∧ lookL s.env 12 = some (.ptr 192 58 0) ∧ lookL s.env 13 = some (.d (.int .i64 0)) ∧ lookL s.env 14 = some (.own 1264 v) ∧ lookL s.env 15 = some (.d (.int .i64 (itp q1 u1 1 (N1)))) ∧ lookL s.env 16 = some (.d (.int .i64 (N1))) ∧ obsL s.obs 128 = some (25, .box [.d (.int .i64 2), .own 784 21]) ∧ obsL s.obs 192 = some (58, .box [.own 1216 54]) ∧ obsL s.obs 784 = some (21, .row (icells V1)) ∧ obsL s.obs 1216 = some (54, .mat false (mcells (cyG N1))) ∧ obsL s.obs 1264 = some (v, .row (icells (tabI (itp q1 u1 1) (N1)))) ∧ obsL s.obs 2001 = none ∧ obsL s.obs 2002 = none ∧ obsL s.obs 2003 = none ∧ obsL s.obs 2433 = none ∧ obsL s.obs 2434 = none ∧ obsL s.obs 2435 = none ∧ obsL s.obs 2624 = none)
    (by show N1 < m; omega) (by
      simp -implicitDefEqProofs (maxSteps := 3000000) [itp])
    (by
      rintro i s hi ⟨g, v, rfl⟩
      obtain ⟨k1, k2, k3, k4, k5⟩ := itp_step (m := q1) (u := u1) (by omega) (by omega) i
      have w10 := wrap_id (n := itp q1 u1 1 i * u1) (by omega)
      have w11 := wrap_id (n := (i : Int) + 1) (by omega)
      have hs := tabI_succ (itp q1 u1 1) i
      have hb := lt_bound (n := i) (by omega)
      have hb2 := le_bound (n := i) (by omega)
      simp -implicitDefEqProofs (maxSteps := 3000000) [hi, w10, w11, k5, w8, hs, hb, hb2])
    (by
      rintro s ⟨g, v, rfl⟩
      simp -implicitDefEqProofs (maxSteps := 3000000))
  obtain ⟨s, v, rfl, hf⟩ := hqq
  change evalCall _ _ _ _ [_, .agg [_, .d (ints (cyU q1 u1 N1))], _] _ = _ at w6
  unfold cyU at w6
  simp -implicitDefEqProofs (maxSteps := 3000000) [hf, w6, d2, v1, v2, v3]
theorem ct_FnWraps_ba (n : Nat) (hn : B + 100 ≤ n) (l : List Int) (C : CodeOk l) (h : ¬ 4096 < l.length) (a1 q1 u1 z1 a2 q2 u2 z2 : Int) (h1 : WrOk a1 q1 u1 z1) (g1 : ¬ WrGood q1 u1 z1) (h2 : WrOk a2 q2 u2 z2) (g2 : LaGood a2 q2 u2 z2)
    (hw : evalCall Try.prog An (n - 1) 30 [.d (.pin (bcells l))] [] = some ⟨.tuple [.d (.int .i64 a1), .d (.int .i64 q1), .d (.int .i64 u1), .d (.int .i64 z1)], [], []⟩)
    (hl : evalCall Try.prog An (n - 1) 36 [.d (.pin (bcells l))] [] = some ⟨.tuple [.d (.int .i64 a2), .d (.int .i64 q2), .d (.int .i64 u2), .d (.int .i64 z2)], [], []⟩) :
    evalCall Try.prog An n 4 [.d (.pin (bcells l))] [] = some ⟨.d (.bool true), [], []⟩ := by
  obtain ⟨m, rfl⟩ : ∃ m, n = m + 1 := ⟨n - 1, by omega⟩
  have hB := B_eq
  simp only [evalCall_at, fb4, bnd_some, bodyOf, Try.f4, Option.getD_some]
  generalize hb0 : Code.loop _ = cc0
  generalize hb1 : Code.loop _ = cc1
  obtain rfl : cc0 = .loop (lp Try.f4 0) := by rw [← hb0]; rfl
  clear hb0
  obtain rfl : cc1 = .loop (lp Try.f4 1) := by rw [← hb1]; rfl
  clear hb1
  have c1 := ct_big m (by omega) l
  rw [Nat.add_sub_cancel] at hw hl
  have d1 := hw
  have d2 := hl
  have w1 := ct_iWrapOf_5 m (by omega) a1 q1 u1 z1 h1 g1
  have w2 := ct_sWrapOf_5 m (by omega) a1 q1 u1 z1 h1 g1
  have w3 := ct_coch5_nil m (by omega) 0
  obtain ⟨j1, j2, j3, j4, j5⟩ := isC_iff.1 h2.1.1
  have j6 := h2.1.2
  have j7 := h2.2
  obtain ⟨N2, rfl⟩ := Int.eq_ofNat_of_zero_le (show 0 ≤ a2 by omega)
  have hN2 : 1 ≤ N2 ∧ N2 ≤ 8 := by omega
  have v1 := ct_iLadderOf m (by omega) N2 q2 u2 z2 h2 g2
  have v2 := ct_sLadderOf m (by omega) N2 q2 u2 z2 h2 g2
  rw [Int.toNat_natCast] at v1 v2 j5
  have pb2 := pow_bd hN2 (show 1 ≤ 4 by omega)
  have ul := laV_len N2 q2 u2 z2
  have v3 := ct_coch5 m (by omega) 1 (laV N2 q2 u2 z2) (by omega)
  have v4 := nm_load hN2
  have v5 := ct_named m (by omega) N2 hN2
  have v6 := ct_cyIsCo m (by omega) N2 hN2 q2 u2 (by omega) j5 (laV N2 q2 u2 z2) 1 (by omega) ul (laV_bd (by omega)) (la_cocycle hN2 (by omega) j5 (la_dvd g2))
  rw [show ((1 : Nat) : Int) = 1 from rfl] at v6
  have v7 : N2 < 9 := by omega
  have v8 : q2 ≠ 0 := by omega
  have v9 : 1 < N2 → rn (laV N2 q2 u2 z2) 0 = z2 := fun h => laV_first h j7
  generalize laV N2 q2 u2 z2 = V2 at *
  rw [Nat.pow_one] at ul
  simp -implicitDefEqProofs (maxSteps := 3000000) [c1, h, d1, w1, w2, w3, d2, v1, v2, v3, v4, v5, v7]
  generalize hx : loopC _ _ _ = x
  generalize hl : lp Try.f4 1 = L at hx
  simp only [lp, bodyOf, Try.f4, Option.getD_some, loopsIn, List.append_nil, List.nil_append, List.cons_append, List.getD, List.getElem?_cons_zero, List.getElem?_cons_succ] at hl
  subst hl
  obtain ⟨qq, rfl, hqq⟩ := loop_end hx (N2) (fun i s => ∃ g v, s = ⟨[(19, .d (.int .i64 N2)), (20, .d (.int .i64 q2)), (21, .d (.int .i64 u2)), (22, .d (.int .i64 z2)), (23, .ptr 368 69 0), (27, .ptr 432 102 0), (28, .d (.int .i64 0)), (29, .own 2480 v), (30, .d (.int .i64 (itp q2 u2 1 i))), (31, .d (.int .i64 i))], [(368, some (69, .box [.d (.int .i64 1), .own 2000 65])), (432, some (102, .box [.own 2432 98])), (2000, some (65, .row (icells V2))), (2432, some (98, .mat false (mcells (cyG N2)))), (2480, some (v, .row (icells (tabI (itp q2 u2 1) i))))], g⟩)
    (fun qq => ∃ s v, qq = (.exit 2, s) ∧ lookL s.env 19 = some (.d (.int .i64 N2)) ∧ lookL s.env 20 = some (.d (.int .i64 q2)) ∧ lookL s.env 21 = some (.d (.int .i64 u2)) ∧ lookL s.env 22 = some (.d (.int .i64 z2)) ∧ lookL s.env 23 = some (.ptr 368 69 0) ∧ lookL s.env 27 = some (.ptr 432 102 0) ∧ lookL s.env 28 = some (.d (.int .i64 0)) ∧ lookL s.env 29 = some (.own 2480 v) ∧ lookL s.env 30 = some (.d (.int .i64 (itp q2 u2 1 (N2)))) ∧ lookL s.env 31 = some (.d (.int .i64 (N2))) ∧ obsL s.obs 368 = some (69, .box [.d (.int .i64 1), .own 2000 65]) ∧ obsL s.obs 432 = some (102, .box [.own 2432 98]) ∧ obsL s.obs 2000 = some (65, .row (icells V2)) ∧ obsL s.obs 2432 = some (98, .mat false (mcells (cyG N2))) ∧ obsL s.obs 2480 = some (v, .row (icells (tabI (itp q2 u2 1) (N2)))))
    (by show N2 < m; omega) (by
      simp -implicitDefEqProofs (maxSteps := 3000000) [itp])
    (by
      rintro i s hi ⟨g, v, rfl⟩
      obtain ⟨k1, k2, k3, k4, k5⟩ := itp_step (m := q2) (u := u2) (by omega) (by omega) i
      have w10 := wrap_id (n := itp q2 u2 1 i * u2) (by omega)
      have w11 := wrap_id (n := (i : Int) + 1) (by omega)
      have hs := tabI_succ (itp q2 u2 1) i
      have hb := lt_bound (n := i) (by omega)
      have hb2 := le_bound (n := i) (by omega)
      simp -implicitDefEqProofs (maxSteps := 3000000) [hi, w10, w11, k5, v8, hs, hb, hb2])
    (by
      rintro s ⟨g, v, rfl⟩
      simp -implicitDefEqProofs (maxSteps := 3000000))
  obtain ⟨s, v, rfl, hf⟩ := hqq
  unfold cyU at v6
  by_cases hb : 1 < N2
  · have b1 := v9 hb
    have b2 : (0 : Int) < ((N2 - 1 : Nat) : Int) := by omega
    have b3 : 0 < V2.length := by omega
    simp -implicitDefEqProofs (maxSteps := 3000000) [hf, v6, ul, hb, b1, b2, b3]
  · have b2 : ¬ (0 : Int) < ((N2 - 1 : Nat) : Int) := by omega
    have b3 : N2 - 1 = 0 := by omega
    simp -implicitDefEqProofs (maxSteps := 3000000) [hf, v6, ul, hb, b2, b3]
theorem ct_FnWraps_bb (n : Nat) (hn : B + 100 ≤ n) (l : List Int) (C : CodeOk l) (h : ¬ 4096 < l.length) (a1 q1 u1 z1 a2 q2 u2 z2 : Int) (h1 : WrOk a1 q1 u1 z1) (g1 : ¬ WrGood q1 u1 z1) (h2 : WrOk a2 q2 u2 z2) (g2 : ¬ LaGood a2 q2 u2 z2)
    (hw : evalCall Try.prog An (n - 1) 30 [.d (.pin (bcells l))] [] = some ⟨.tuple [.d (.int .i64 a1), .d (.int .i64 q1), .d (.int .i64 u1), .d (.int .i64 z1)], [], []⟩)
    (hl : evalCall Try.prog An (n - 1) 36 [.d (.pin (bcells l))] [] = some ⟨.tuple [.d (.int .i64 a2), .d (.int .i64 q2), .d (.int .i64 u2), .d (.int .i64 z2)], [], []⟩) :
    evalCall Try.prog An n 4 [.d (.pin (bcells l))] [] = some ⟨.d (.bool true), [], []⟩ := by
  obtain ⟨m, rfl⟩ : ∃ m, n = m + 1 := ⟨n - 1, by omega⟩
  have hB := B_eq
  simp only [evalCall_at, fb4, bnd_some, bodyOf, Try.f4, Option.getD_some]
  generalize hb0 : Code.loop _ = cc0
  generalize hb1 : Code.loop _ = cc1
  obtain rfl : cc0 = .loop (lp Try.f4 0) := by rw [← hb0]; rfl
  clear hb0
  obtain rfl : cc1 = .loop (lp Try.f4 1) := by rw [← hb1]; rfl
  clear hb1
  have c1 := ct_big m (by omega) l
  rw [Nat.add_sub_cancel] at hw hl
  have d1 := hw
  have d2 := hl
  have w1 := ct_iWrapOf_5 m (by omega) a1 q1 u1 z1 h1 g1
  have w2 := ct_sWrapOf_5 m (by omega) a1 q1 u1 z1 h1 g1
  have w3 := ct_coch5_nil m (by omega) 0
  have v1 := ct_iLadderOf_5 m (by omega) a2 q2 u2 z2 h2 g2
  have v2 := ct_sLadderOf_5 m (by omega) a2 q2 u2 z2 h2 g2
  have v3 := ct_coch5_nil m (by omega) 0
  simp -implicitDefEqProofs (maxSteps := 3000000) [c1, h, d1, w1, w2, w3, d2, v1, v2, v3]
theorem ct_FnWraps_bc (n : Nat) (hn : B + 100 ≤ n) (l : List Int) (C : CodeOk l) (h : ¬ 4096 < l.length) (a1 q1 u1 z1 a2 q2 u2 z2 : Int) (h1 : WrOk a1 q1 u1 z1) (g1 : ¬ WrGood q1 u1 z1) (h2 : ¬ WrOk a2 q2 u2 z2)
    (hw : evalCall Try.prog An (n - 1) 30 [.d (.pin (bcells l))] [] = some ⟨.tuple [.d (.int .i64 a1), .d (.int .i64 q1), .d (.int .i64 u1), .d (.int .i64 z1)], [], []⟩)
    (hl : evalCall Try.prog An (n - 1) 36 [.d (.pin (bcells l))] [] = some ⟨.tuple [.d (.int .i64 a2), .d (.int .i64 q2), .d (.int .i64 u2), .d (.int .i64 z2)], [], []⟩) :
    evalCall Try.prog An n 4 [.d (.pin (bcells l))] [] = some ⟨.d (.bool true), [], []⟩ := by
  obtain ⟨m, rfl⟩ : ∃ m, n = m + 1 := ⟨n - 1, by omega⟩
  have hB := B_eq
  simp only [evalCall_at, fb4, bnd_some, bodyOf, Try.f4, Option.getD_some]
  generalize hb0 : Code.loop _ = cc0
  generalize hb1 : Code.loop _ = cc1
  obtain rfl : cc0 = .loop (lp Try.f4 0) := by rw [← hb0]; rfl
  clear hb0
  obtain rfl : cc1 = .loop (lp Try.f4 1) := by rw [← hb1]; rfl
  clear hb1
  have c1 := ct_big m (by omega) l
  rw [Nat.add_sub_cancel] at hw hl
  have d1 := hw
  have d2 := hl
  have w1 := ct_iWrapOf_5 m (by omega) a1 q1 u1 z1 h1 g1
  have w2 := ct_sWrapOf_5 m (by omega) a1 q1 u1 z1 h1 g1
  have w3 := ct_coch5_nil m (by omega) 0
  have v1 := ct_iLadderOf_bad m (by omega) a2 q2 u2 z2 h2
  have v2 := ct_sLadderOf_bad m (by omega) a2 q2 u2 z2 h2
  have v3 := ct_coch5_nil m (by omega) 0
  simp -implicitDefEqProofs (maxSteps := 3000000) [c1, h, d1, w1, w2, w3, d2, v1, v2, v3]
theorem ct_FnWraps_ca (n : Nat) (hn : B + 100 ≤ n) (l : List Int) (C : CodeOk l) (h : ¬ 4096 < l.length) (a1 q1 u1 z1 a2 q2 u2 z2 : Int) (h1 : ¬ WrOk a1 q1 u1 z1) (h2 : WrOk a2 q2 u2 z2) (g2 : LaGood a2 q2 u2 z2)
    (hw : evalCall Try.prog An (n - 1) 30 [.d (.pin (bcells l))] [] = some ⟨.tuple [.d (.int .i64 a1), .d (.int .i64 q1), .d (.int .i64 u1), .d (.int .i64 z1)], [], []⟩)
    (hl : evalCall Try.prog An (n - 1) 36 [.d (.pin (bcells l))] [] = some ⟨.tuple [.d (.int .i64 a2), .d (.int .i64 q2), .d (.int .i64 u2), .d (.int .i64 z2)], [], []⟩) :
    evalCall Try.prog An n 4 [.d (.pin (bcells l))] [] = some ⟨.d (.bool true), [], []⟩ := by
  obtain ⟨m, rfl⟩ : ∃ m, n = m + 1 := ⟨n - 1, by omega⟩
  have hB := B_eq
  simp only [evalCall_at, fb4, bnd_some, bodyOf, Try.f4, Option.getD_some]
  generalize hb0 : Code.loop _ = cc0
  generalize hb1 : Code.loop _ = cc1
  obtain rfl : cc0 = .loop (lp Try.f4 0) := by rw [← hb0]; rfl
  clear hb0
  obtain rfl : cc1 = .loop (lp Try.f4 1) := by rw [← hb1]; rfl
  clear hb1
  have c1 := ct_big m (by omega) l
  rw [Nat.add_sub_cancel] at hw hl
  have d1 := hw
  have d2 := hl
  have w1 := ct_iWrapOf_bad m (by omega) a1 q1 u1 z1 h1
  have w2 := ct_sWrapOf_bad m (by omega) a1 q1 u1 z1 h1
  have w3 := ct_coch5_nil m (by omega) 0
  obtain ⟨j1, j2, j3, j4, j5⟩ := isC_iff.1 h2.1.1
  have j6 := h2.1.2
  have j7 := h2.2
  obtain ⟨N2, rfl⟩ := Int.eq_ofNat_of_zero_le (show 0 ≤ a2 by omega)
  have hN2 : 1 ≤ N2 ∧ N2 ≤ 8 := by omega
  have v1 := ct_iLadderOf m (by omega) N2 q2 u2 z2 h2 g2
  have v2 := ct_sLadderOf m (by omega) N2 q2 u2 z2 h2 g2
  rw [Int.toNat_natCast] at v1 v2 j5
  have pb2 := pow_bd hN2 (show 1 ≤ 4 by omega)
  have ul := laV_len N2 q2 u2 z2
  have v3 := ct_coch5 m (by omega) 1 (laV N2 q2 u2 z2) (by omega)
  have v4 := nm_load hN2
  have v5 := ct_named m (by omega) N2 hN2
  have v6 := ct_cyIsCo m (by omega) N2 hN2 q2 u2 (by omega) j5 (laV N2 q2 u2 z2) 1 (by omega) ul (laV_bd (by omega)) (la_cocycle hN2 (by omega) j5 (la_dvd g2))
  rw [show ((1 : Nat) : Int) = 1 from rfl] at v6
  have v7 : N2 < 9 := by omega
  have v8 : q2 ≠ 0 := by omega
  have v9 : 1 < N2 → rn (laV N2 q2 u2 z2) 0 = z2 := fun h => laV_first h j7
  generalize laV N2 q2 u2 z2 = V2 at *
  rw [Nat.pow_one] at ul
  simp -implicitDefEqProofs (maxSteps := 3000000) [c1, h, d1, w1, w2, w3, d2, v1, v2, v3, v4, v5, v7]
  generalize hx : loopC _ _ _ = x
  generalize hl : lp Try.f4 1 = L at hx
  simp only [lp, bodyOf, Try.f4, Option.getD_some, loopsIn, List.append_nil, List.nil_append, List.cons_append, List.getD, List.getElem?_cons_zero, List.getElem?_cons_succ] at hl
  subst hl
  obtain ⟨qq, rfl, hqq⟩ := loop_end hx (N2) (fun i s => ∃ g v, s = ⟨[(19, .d (.int .i64 N2)), (20, .d (.int .i64 q2)), (21, .d (.int .i64 u2)), (22, .d (.int .i64 z2)), (23, .ptr 368 69 0), (27, .ptr 432 102 0), (28, .d (.int .i64 0)), (29, .own 2480 v), (30, .d (.int .i64 (itp q2 u2 1 i))), (31, .d (.int .i64 i))], [(368, some (69, .box [.d (.int .i64 1), .own 2000 65])), (432, some (102, .box [.own 2432 98])), (2000, some (65, .row (icells V2))), (2432, some (98, .mat false (mcells (cyG N2)))), (2480, some (v, .row (icells (tabI (itp q2 u2 1) i))))], g⟩)
    (fun qq => ∃ s v, qq = (.exit 2, s) ∧ lookL s.env 19 = some (.d (.int .i64 N2)) ∧ lookL s.env 20 = some (.d (.int .i64 q2)) ∧ lookL s.env 21 = some (.d (.int .i64 u2)) ∧ lookL s.env 22 = some (.d (.int .i64 z2)) ∧ lookL s.env 23 = some (.ptr 368 69 0) ∧ lookL s.env 27 = some (.ptr 432 102 0) ∧ lookL s.env 28 = some (.d (.int .i64 0)) ∧ lookL s.env 29 = some (.own 2480 v) ∧ lookL s.env 30 = some (.d (.int .i64 (itp q2 u2 1 (N2)))) ∧ lookL s.env 31 = some (.d (.int .i64 (N2))) ∧ obsL s.obs 368 = some (69, .box [.d (.int .i64 1), .own 2000 65]) ∧ obsL s.obs 432 = some (102, .box [.own 2432 98]) ∧ obsL s.obs 2000 = some (65, .row (icells V2)) ∧ obsL s.obs 2432 = some (98, .mat false (mcells (cyG N2))) ∧ obsL s.obs 2480 = some (v, .row (icells (tabI (itp q2 u2 1) (N2)))))
    (by show N2 < m; omega) (by
      simp -implicitDefEqProofs (maxSteps := 3000000) [itp])
    (by
      rintro i s hi ⟨g, v, rfl⟩
      obtain ⟨k1, k2, k3, k4, k5⟩ := itp_step (m := q2) (u := u2) (by omega) (by omega) i
      have w10 := wrap_id (n := itp q2 u2 1 i * u2) (by omega)
      have w11 := wrap_id (n := (i : Int) + 1) (by omega)
      have hs := tabI_succ (itp q2 u2 1) i
      have hb := lt_bound (n := i) (by omega)
      have hb2 := le_bound (n := i) (by omega)
      simp -implicitDefEqProofs (maxSteps := 3000000) [hi, w10, w11, k5, v8, hs, hb, hb2])
    (by
      rintro s ⟨g, v, rfl⟩
      simp -implicitDefEqProofs (maxSteps := 3000000))
  obtain ⟨s, v, rfl, hf⟩ := hqq
  unfold cyU at v6
  by_cases hb : 1 < N2
  · have b1 := v9 hb
    have b2 : (0 : Int) < ((N2 - 1 : Nat) : Int) := by omega
    have b3 : 0 < V2.length := by omega
    simp -implicitDefEqProofs (maxSteps := 3000000) [hf, v6, ul, hb, b1, b2, b3]
  · have b2 : ¬ (0 : Int) < ((N2 - 1 : Nat) : Int) := by omega
    have b3 : N2 - 1 = 0 := by omega
    simp -implicitDefEqProofs (maxSteps := 3000000) [hf, v6, ul, hb, b2, b3]
theorem ct_FnWraps_cb (n : Nat) (hn : B + 100 ≤ n) (l : List Int) (C : CodeOk l) (h : ¬ 4096 < l.length) (a1 q1 u1 z1 a2 q2 u2 z2 : Int) (h1 : ¬ WrOk a1 q1 u1 z1) (h2 : WrOk a2 q2 u2 z2) (g2 : ¬ LaGood a2 q2 u2 z2)
    (hw : evalCall Try.prog An (n - 1) 30 [.d (.pin (bcells l))] [] = some ⟨.tuple [.d (.int .i64 a1), .d (.int .i64 q1), .d (.int .i64 u1), .d (.int .i64 z1)], [], []⟩)
    (hl : evalCall Try.prog An (n - 1) 36 [.d (.pin (bcells l))] [] = some ⟨.tuple [.d (.int .i64 a2), .d (.int .i64 q2), .d (.int .i64 u2), .d (.int .i64 z2)], [], []⟩) :
    evalCall Try.prog An n 4 [.d (.pin (bcells l))] [] = some ⟨.d (.bool true), [], []⟩ := by
  obtain ⟨m, rfl⟩ : ∃ m, n = m + 1 := ⟨n - 1, by omega⟩
  have hB := B_eq
  simp only [evalCall_at, fb4, bnd_some, bodyOf, Try.f4, Option.getD_some]
  generalize hb0 : Code.loop _ = cc0
  generalize hb1 : Code.loop _ = cc1
  obtain rfl : cc0 = .loop (lp Try.f4 0) := by rw [← hb0]; rfl
  clear hb0
  obtain rfl : cc1 = .loop (lp Try.f4 1) := by rw [← hb1]; rfl
  clear hb1
  have c1 := ct_big m (by omega) l
  rw [Nat.add_sub_cancel] at hw hl
  have d1 := hw
  have d2 := hl
  have w1 := ct_iWrapOf_bad m (by omega) a1 q1 u1 z1 h1
  have w2 := ct_sWrapOf_bad m (by omega) a1 q1 u1 z1 h1
  have w3 := ct_coch5_nil m (by omega) 0
  have v1 := ct_iLadderOf_5 m (by omega) a2 q2 u2 z2 h2 g2
  have v2 := ct_sLadderOf_5 m (by omega) a2 q2 u2 z2 h2 g2
  have v3 := ct_coch5_nil m (by omega) 0
  simp -implicitDefEqProofs (maxSteps := 3000000) [c1, h, d1, w1, w2, w3, d2, v1, v2, v3]
theorem ct_FnWraps_cc (n : Nat) (hn : B + 100 ≤ n) (l : List Int) (C : CodeOk l) (h : ¬ 4096 < l.length) (a1 q1 u1 z1 a2 q2 u2 z2 : Int) (h1 : ¬ WrOk a1 q1 u1 z1) (h2 : ¬ WrOk a2 q2 u2 z2)
    (hw : evalCall Try.prog An (n - 1) 30 [.d (.pin (bcells l))] [] = some ⟨.tuple [.d (.int .i64 a1), .d (.int .i64 q1), .d (.int .i64 u1), .d (.int .i64 z1)], [], []⟩)
    (hl : evalCall Try.prog An (n - 1) 36 [.d (.pin (bcells l))] [] = some ⟨.tuple [.d (.int .i64 a2), .d (.int .i64 q2), .d (.int .i64 u2), .d (.int .i64 z2)], [], []⟩) :
    evalCall Try.prog An n 4 [.d (.pin (bcells l))] [] = some ⟨.d (.bool true), [], []⟩ := by
  obtain ⟨m, rfl⟩ : ∃ m, n = m + 1 := ⟨n - 1, by omega⟩
  have hB := B_eq
  simp only [evalCall_at, fb4, bnd_some, bodyOf, Try.f4, Option.getD_some]
  generalize hb0 : Code.loop _ = cc0
  generalize hb1 : Code.loop _ = cc1
  obtain rfl : cc0 = .loop (lp Try.f4 0) := by rw [← hb0]; rfl
  clear hb0
  obtain rfl : cc1 = .loop (lp Try.f4 1) := by rw [← hb1]; rfl
  clear hb1
  have c1 := ct_big m (by omega) l
  rw [Nat.add_sub_cancel] at hw hl
  have d1 := hw
  have d2 := hl
  have w1 := ct_iWrapOf_bad m (by omega) a1 q1 u1 z1 h1
  have w2 := ct_sWrapOf_bad m (by omega) a1 q1 u1 z1 h1
  have w3 := ct_coch5_nil m (by omega) 0
  have v1 := ct_iLadderOf_bad m (by omega) a2 q2 u2 z2 h2
  have v2 := ct_sLadderOf_bad m (by omega) a2 q2 u2 z2 h2
  have v3 := ct_coch5_nil m (by omega) 0
  simp -implicitDefEqProofs (maxSteps := 3000000) [c1, h, d1, w1, w2, w3, d2, v1, v2, v3]
end Go.Proofs.YtcdmhlagibjeiaaE
