/- Contracts of functions of the program and of the reference: what the evaluator gives for a call of each. -/
import Derived.Test.YtcdmhlagibjeiaaAEf
import Derived.Test.YtcdmhlagibjeiaaK0
import Derived.Test.YtcdmhlagibjeiaaK3
import Derived.Test.YtcdmhlagibjeiaaK4
import Derived.Test.YtcdmhlagibjeiaaK7
import Derived.Test.YtcdmhlagibjeiaaK23
import Derived.Test.YtcdmhlagibjeiaaK31
import Derived.Test.YtcdmhlagibjeiaaK64
import Derived.Test.YtcdmhlagibjeiaaK67
import Derived.Test.YtcdmhlagibjeiaaK68
import Derived.Test.YtcdmhlagibjeiaaK69
namespace Go.Proofs.YtcdmhlagibjeiaaE
open Go Go.Proofs
set_option maxHeartbeats 4000000
set_option maxRecDepth 4000
set_option linter.unusedSimpArgs false
set_option linter.unusedVariables false
set_option pp.deepTerms false
set_option pp.deepTerms.threshold 10
/-! ## Tate groups: lists, norms, reduced circles -/
theorem del_upto (n : Nat) (hn : B + 3 ≤ n) (N : Nat) (hN : N ≤ 10000) (c : Nat) (b : List YtcdmhlagibjeiaaE.D) (Q : Int → Bool) (L : Nat) (hL : L + 2 ≤ n)
    (hF : ∀ m, L ≤ m → ∀ i < N, evalCall Try.prog An m c (.d (.int .i64 i) :: b.map ofD) [] = some ⟨.d (.bool (!Q i)), [], []⟩) (hc : c ∉ An.lend) :
    (fltL Q N = upto N ∧ evalCall Try.prog An n 42 [.own 100000 0, .d (.clo c [] b)] [.row (icells (upto N))] = some ⟨.own 100000 0, [], [some (.row (icells (upto N)))]⟩) ∨
    ∃ Y : List Int, Y.take (fltL Q N).length = fltL Q N ∧ evalCall Try.prog An n 42 [.own 100000 0, .d (.clo c [] b)] [.row (icells (upto N))] = some ⟨.sub 100000 0 0 (fltL Q N).length, [], [some (.row (icells Y))]⟩ := by
  have e : keepL (fun x => ¬ (Q x = true)) (upto N) = fltL Q N := by
    unfold keepL fltL
    apply List.filter_congr
    intro x _
    by_cases hq : Q x = true <;> simp -implicitDefEqProofs (maxSteps := 3000000) [hq]
  rcases ct_DeleteFunc n hn (upto N) (by simp; omega) c b (fun x => ¬ (Q x = true)) L hL (fun m hm i hi => by
    rw [upto_len] at hi
    rw [rn_upto hi, hF m hm i hi]
    by_cases hq : Q i = true <;> simp -implicitDefEqProofs (maxSteps := 3000000) [hq]) hc with ⟨h1, c1⟩ | ⟨Y, h1, c1⟩
  · refine .inl ⟨?_, c1⟩
    rw [← e]
    exact keepL_none h1
  · rw [e] at h1 c1
    exact .inr ⟨Y, h1, c1⟩
theorem ct_TM1 (n : Nat) (hn : B + 1 ≤ n) (q K : Int) (hq : 2 ≤ q ∧ q ≤ 200) (hK : 0 ≤ K ∧ K < q) (i : Nat) (hi : (i : Int) < q) :
    evalCall Try.prog An n 44 [.d (.int .i64 i), .d (.cellp [.int .i64 K]), .d (.cellp [.int .i64 q])] [] = some ⟨.d (.bool (!(K * (i : Int) % q == 0))), [], []⟩ := by
  obtain ⟨m, rfl⟩ : ∃ m, n = m + 1 := ⟨n - 1, by omega⟩
  have hB := B_eq
  simp only [evalCall_at, fb44, bnd_some, bodyOf, Try.f44, Option.getD_some]
  have b := mul_bd (a := K) (b := i) (x := 200) (y := 200) hK.1 (by omega) (by omega) (by omega)
  have w := wrap_id (n := K * i) (by omega)
  have e := tmod_nn q b.1
  have hz : q ≠ 0 := by omega
  by_cases p : K * (i : Int) % q = 0
  · simp -implicitDefEqProofs (maxSteps := 3000000) [w, e, hz, p]
  · simp -implicitDefEqProofs (maxSteps := 3000000) [w, e, hz, p, beq_f p, bne_t p]
theorem ct_TM2 (n : Nat) (hn : B + 2 ≤ n) (q I : Int) (hq : 2 ≤ q ∧ q ≤ 200) (hI : 0 ≤ I ∧ I < q) (i : Nat) (hi : (i : Int) < q) :
    evalCall Try.prog An n 45 [.d (.int .i64 i), .d (.cellp [.int .i64 q]), .d (.cellp [.int .i64 I])] [] = some ⟨.d (.bool (!((i : Int) % gcdI q I == 0))), [], []⟩ := by
  obtain ⟨m, rfl⟩ : ∃ m, n = m + 1 := ⟨n - 1, by omega⟩
  have hB := B_eq
  simp only [evalCall_at, fb45, bnd_some, bodyOf, Try.f45, Option.getD_some]
  have c1 := ct_gcd m (by omega) q I (by omega) (by omega)
  have g := gcdI_pos I (show 0 < q by omega)
  have e := tmod_nn (gcdI q I) (Int.natCast_nonneg i)
  have hz : gcdI q I ≠ 0 := by omega
  by_cases p : (i : Int) % gcdI q I = 0
  · simp -implicitDefEqProofs (maxSteps := 3000000) [c1, e, hz, p]
  · simp -implicitDefEqProofs (maxSteps := 3000000) [c1, e, hz, p, beq_f p, bne_t p]
theorem ct_iTateMembers_bad (n : Nat) (hn : B + 5 + 4 ≤ n) (a q u d : Int) (h : ¬ tacode a q u d = 0) :
    evalCall Try.prog An n 7 [.d (.int .i64 a), .d (.int .i64 q), .d (.int .i64 u), .d (.int .i64 d)] [] = some ⟨.tuple [.d .nil, .d .nil, .d (.int .i64 2)], [], []⟩ := by
  obtain ⟨m, rfl⟩ : ∃ m, n = m + 1 := ⟨n - 1, by omega⟩
  have hB := B_eq
  simp only [evalCall_at, fb7, bnd_some, bodyOf, Try.f7, Option.getD_some]
  have c1 := ct_tateCode m (by omega) a q u d
  rw [tacode_two h] at c1
  simp -implicitDefEqProofs (maxSteps := 3000000) [c1]
theorem ct_iTateMembers (n : Nat) (hn : B + 5 + 6 ≤ n) (a q u d : Int) (h : tacode a q u d = 0) :
    evalCall Try.prog An n 7 [.d (.int .i64 a), .d (.int .i64 q), .d (.int .i64 u), .d (.int .i64 d)] [] = some ⟨.tuple [.own 0 0, .own 1 0, .d (.int .i64 0)], [.row (icells (tmem q (tmaps a q u d).1)), .row (icells (tnou q (tmaps a q u d).2))], []⟩ := by
  obtain ⟨m, rfl⟩ : ∃ m, n = m + 1 := ⟨n - 1, by omega⟩
  have hB := B_eq
  simp only [evalCall_at, fb7, bnd_some, bodyOf, Try.f7, Option.getD_some]
  have c1 := ct_tateCode m (by omega) a q u d
  obtain ⟨hc, hd⟩ := tacode_zero h
  obtain ⟨h1, h2, h3, h4, h5⟩ := isC_iff.1 hc
  have c2 := ct_tate m (by omega) a q u d hc
  obtain ⟨r1, r2, r3, r4⟩ := tmaps_range (d := d) hc
  rw [h] at c1
  unfold tmem tnou
  generalize (tmaps a q u d).1 = K at *
  generalize (tmaps a q u d).2 = I at *
  obtain ⟨N, hN⟩ := Int.eq_ofNat_of_zero_le (show 0 ≤ q by omega)
  have e0 : q.toNat = N := by omega
  have c3 := ct_counting m (by omega) N (by omega)
  rw [show tabI (fun i => (i : Int)) N = upto N from rfl, ← hN] at c3
  rw [e0]
  have l1 := fltL_le (fun x => K * x % q == 0) N
  have l2 := fltL_le (fun y => y % gcdI q I == 0) N
  rcases del_upto m (by omega) N (by omega) 44 [.cellp [.int .i64 K], .cellp [.int .i64 q]] (fun x => K * x % q == 0) (B + 1) (by omega) (fun m hm i hi => by simpa using ct_TM1 m hm q K (by omega) (by omega) i (by omega)) (by simp -implicitDefEqProofs (maxSteps := 3000000)) with ⟨f1, d1⟩ | ⟨Y1, f1, d1⟩ <;>
  rcases del_upto m (by omega) N (by omega) 45 [.cellp [.int .i64 q], .cellp [.int .i64 I]] (fun y => y % gcdI q I == 0) (B + 2) (by omega) (fun m hm i hi => by simpa using ct_TM2 m hm q I (by omega) (by omega) i (by omega)) (by simp -implicitDefEqProofs (maxSteps := 3000000)) with ⟨f2, d2⟩ | ⟨Y2, f2, d2⟩
  · rw [f1, f2]
    simp -implicitDefEqProofs (maxSteps := 3000000) [c1, c2, c3, d1, d2]
  · rw [f1]
    simp -implicitDefEqProofs (maxSteps := 3000000) [c1, c2, c3, d1, d2, f2]
  · rw [f2]
    simp -implicitDefEqProofs (maxSteps := 3000000) [c1, c2, c3, d1, d2, f1]
  · simp -implicitDefEqProofs (maxSteps := 3000000) [c1, c2, c3, d1, d2, f1, f2]
theorem ct_sTateMembers_bad (n : Nat) (hn : B + 6 ≤ n) (a q u d : Int) (h : ¬ tacode a q u d = 0) :
    evalCall Try.prog An n 8 [.d (.int .i64 a), .d (.int .i64 q), .d (.int .i64 u), .d (.int .i64 d)] [] = some ⟨.tuple [.d .nil, .d .nil, .d (.int .i64 2)], [], []⟩ := by
  obtain ⟨m, rfl⟩ : ∃ m, n = m + 1 := ⟨n - 1, by omega⟩
  have hB := B_eq
  simp only [evalCall_at, fb8, bnd_some, bodyOf, Try.f8, Option.getD_some]
  have c1 := ct_l09Code m (by omega) a q u d
  rw [tacode_two h] at c1
  simp -implicitDefEqProofs (maxSteps := 3000000) [c1]
theorem ct_sTateMembers (n : Nat) (hn : B + 6 ≤ n) (a q u d : Int) (h : tacode a q u d = 0) :
    evalCall Try.prog An n 8 [.d (.int .i64 a), .d (.int .i64 q), .d (.int .i64 u), .d (.int .i64 d)] [] = some ⟨.tuple [.own 0 0, .own 1 0, .d (.int .i64 0)], [.row (icells (tmem q (tmaps a q u d).1)), .row (icells (tnou q (tmaps a q u d).2))], []⟩ := by
  obtain ⟨m, rfl⟩ : ∃ m, n = m + 1 := ⟨n - 1, by omega⟩
  have hB := B_eq
  simp only [evalCall_at, fb8, bnd_some, bodyOf, Try.f8, Option.getD_some]
  have c1 := ct_l09Code m (by omega) a q u d
  obtain ⟨hc, hd⟩ := tacode_zero h
  have c2 := ct_l09Members m (by omega) a q u d hc hd
  rw [h] at c1
  simp -implicitDefEqProofs (maxSteps := 3000000) [c1, c2]
def unitsL (a q : Int) : List Int := fltL (fun u => isC a q u) q.toNat
theorem ct_UC1 (n : Nat) (hn : B + 4 ≤ n) (a q : Int) (i : Nat) :
    evalCall Try.prog An n 59 [.d (.int .i64 i), .d (.cellp [.int .i64 a]), .d (.cellp [.int .i64 q])] [] = some ⟨.d (.bool (!(isC a q i))), [], []⟩ := by
  obtain ⟨m, rfl⟩ : ∃ m, n = m + 1 := ⟨n - 1, by omega⟩
  have hB := B_eq
  simp only [evalCall_at, fb59, bnd_some, bodyOf, Try.f59, Option.getD_some]
  have c1 := ct_iIsCircle m (by omega) a q i
  simp -implicitDefEqProofs (maxSteps := 3000000) [c1]
theorem ct_iUnits_bad (n : Nat) (hn : B + 5 + 4 ≤ n) (a q : Int) (h : ¬ ((1 ≤ a ∧ a ≤ 60) ∧ 2 ≤ q ∧ q ≤ 200)) :
    evalCall Try.prog An n 20 [.d (.int .i64 a), .d (.int .i64 q)] [] = some ⟨.tuple [.d .nil, .d (.int .i64 2)], [], []⟩ := by
  obtain ⟨m, rfl⟩ : ∃ m, n = m + 1 := ⟨n - 1, by omega⟩
  have hB := B_eq
  simp only [evalCall_at, fb20, bnd_some, bodyOf, Try.f20, Option.getD_some]
  by_cases h1 : a < 1
  · simp -implicitDefEqProofs (maxSteps := 3000000) [h1]
  by_cases h2 : 60 < a
  · simp -implicitDefEqProofs (maxSteps := 3000000) [h1, h2]
  by_cases h3 : q < 2
  · simp -implicitDefEqProofs (maxSteps := 3000000) [h1, h2, h3]
  by_cases h4 : 200 < q
  · simp -implicitDefEqProofs (maxSteps := 3000000) [h1, h2, h3, h4]
  exact absurd (by omega) h
theorem ct_iUnits (n : Nat) (hn : B + 5 + 6 ≤ n) (a q : Int) (h : (1 ≤ a ∧ a ≤ 60) ∧ 2 ≤ q ∧ q ≤ 200) :
    evalCall Try.prog An n 20 [.d (.int .i64 a), .d (.int .i64 q)] [] = some ⟨.tuple [.own 0 0, .d (.int .i64 0)], [.row (icells (unitsL a q))], []⟩ := by
  obtain ⟨m, rfl⟩ : ∃ m, n = m + 1 := ⟨n - 1, by omega⟩
  have hB := B_eq
  simp only [evalCall_at, fb20, bnd_some, bodyOf, Try.f20, Option.getD_some]
  have h1 : ¬ (a < 1) := by omega
  have h2 : ¬ (60 < a) := by omega
  have h3 : ¬ (q < 2) := by omega
  have h4 : ¬ (200 < q) := by omega
  unfold unitsL
  obtain ⟨N, hN⟩ := Int.eq_ofNat_of_zero_le (show 0 ≤ q by omega)
  have e0 : q.toNat = N := by omega
  have c3 := ct_counting m (by omega) N (by omega)
  rw [show tabI (fun i => (i : Int)) N = upto N from rfl, ← hN] at c3
  rw [e0]
  have l1 := fltL_le (fun u => isC a q u) N
  rcases del_upto m (by omega) N (by omega) 59 [.cellp [.int .i64 a], .cellp [.int .i64 q]] (fun u => isC a q u) (B + 4) (by omega) (fun m hm i hi => by simpa using ct_UC1 m hm a q i) (by simp -implicitDefEqProofs (maxSteps := 3000000)) with ⟨f1, d1⟩ | ⟨Y1, f1, d1⟩
  · rw [f1]
    simp -implicitDefEqProofs (maxSteps := 3000000) [h1, h2, h3, h4, c3, d1]
  · simp -implicitDefEqProofs (maxSteps := 3000000) [h1, h2, h3, h4, c3, d1, f1]
theorem ct_sUnits_bad (n : Nat) (hn : B + 4 ≤ n) (a q : Int) (h : ¬ ((1 ≤ a ∧ a ≤ 60) ∧ 2 ≤ q ∧ q ≤ 200)) :
    evalCall Try.prog An n 21 [.d (.int .i64 a), .d (.int .i64 q)] [] = some ⟨.tuple [.d .nil, .d (.int .i64 2)], [], []⟩ := by
  obtain ⟨m, rfl⟩ : ∃ m, n = m + 1 := ⟨n - 1, by omega⟩
  have hB := B_eq
  simp only [evalCall_at, fb21, bnd_some, bodyOf, Try.f21, Option.getD_some]
  generalize hb0 : Code.loop _ = cc0
  obtain rfl : cc0 = .loop (lp Try.f21 0) := by rw [← hb0]; rfl
  clear hb0
  by_cases h1 : 1 ≤ a ∧ a ≤ 60
  · have c1 := ct_l01In_t m (by omega) a 1 60 h1
    have c2 := ct_l01In_f m (by omega) q 2 200 (fun z => h ⟨h1, z⟩)
    simp -implicitDefEqProofs (maxSteps := 3000000) [c1, c2]
  · have c1 := ct_l01In_f m (by omega) a 1 60 h1
    simp -implicitDefEqProofs (maxSteps := 3000000) [c1]
theorem ct_sUnits (n : Nat) (hn : B + 4 ≤ n) (a q : Int) (h : (1 ≤ a ∧ a ≤ 60) ∧ 2 ≤ q ∧ q ≤ 200) :
    evalCall Try.prog An n 21 [.d (.int .i64 a), .d (.int .i64 q)] [] = some ⟨.tuple [.own 0 0, .d (.int .i64 0)], [.row (icells (unitsL a q))], []⟩ := by
  obtain ⟨m, rfl⟩ : ∃ m, n = m + 1 := ⟨n - 1, by omega⟩
  have hB := B_eq
  simp only [evalCall_at, fb21, bnd_some, bodyOf, Try.f21, Option.getD_some]
  generalize hb0 : Code.loop _ = cc0
  obtain rfl : cc0 = .loop (lp Try.f21 0) := by rw [← hb0]; rfl
  clear hb0
  have c1 := ct_l01In_t m (by omega) a 1 60 h.1
  have c2 := ct_l01In_t m (by omega) q 2 200 h.2
  unfold unitsL
  obtain ⟨N, hN⟩ := Int.eq_ofNat_of_zero_le (show 0 ≤ q by omega)
  have e0 : q.toNat = N := by omega
  have hz : isC a q 0 = false := isC_f fun z => by omega
  have hbase : fltL (fun u => isC a q u) (0 + 1) = [] := by rw [fltL_succ]; simp -implicitDefEqProofs (maxSteps := 3000000) [fltL, upto, hz]
  rw [e0]
  simp -implicitDefEqProofs (maxSteps := 3000000) [c1, c2]
  generalize hx : loopC _ _ _ = x
  generalize hl : lp Try.f21 0 = L at hx
  simp only [lp, bodyOf, Try.f21, Option.getD_some, loopsIn, List.append_nil, List.nil_append, List.cons_append, List.getD, List.getElem?_cons_zero, List.getElem?_cons_succ] at hl
  subst hl
  obtain ⟨qq, rfl, hqq⟩ := loop_end hx (N - 1) (fun i s => ∃ g v, s = ⟨[(0, .d (.int .i64 a)), (1, .d (.int .i64 q)), (6, .own 256 v), (7, .d (.int .i64 ((i : Int) + 1)))], [(256, some (v, .row (icells (fltL (fun u => isC a q u) (i + 1)))))], g⟩)
    (fun qq => ∃ s v, qq = (.exit 0, s) ∧ lookL s.env 0 = some (.d (.int .i64 a)) ∧ lookL s.env 1 = some (.d (.int .i64 q)) ∧ lookL s.env 6 = some (.own 256 v) ∧ lookL s.env 7 = some (.d (.int .i64 (((N - 1) : Int) + 1))) ∧ obsL s.obs 256 = some (v, .row (icells (fltL (fun u => isC a q u) ((N - 1) + 1)))))
    (by show N - 1 < m; omega) (by
      simp -implicitDefEqProofs (maxSteps := 3000000) [hbase])
    (by
      rintro i s hi ⟨g, v, rfl⟩
      have hi2 : (i : Int) + 1 < q := by omega
      have w2 := wrap_id (n := (i : Int) + 1 + 1) (by omega)
      have c3 := ct_sIsCircle m (by omega) a q ((i : Int) + 1)
      have s1 := fltL_succ (fun u => isC a q u) (i + 1)
      have l1 := fltL_le (fun u => isC a q u) (i + 1)
      have ec : ((i + 1 : Nat) : Int) = (i : Int) + 1 := by omega
      rw [ec] at s1
      rw [s1]
      generalize fltL (fun u => isC a q u) (i + 1) = X at *
      have b1 := le_bound (n := X.length) (by omega)
      have b3 := lt_bound (n := X.length) (by omega)
      cases p : isC a q ((i : Int) + 1)
      · rw [p] at c3
        simp -implicitDefEqProofs (maxSteps := 3000000) [hi2, c3, w2, p]
      · rw [p] at c3
        simp -implicitDefEqProofs (maxSteps := 3000000) [hi2, c3, w2, p, b1, b3])
    (by
      rintro s ⟨g, v, rfl⟩
      have h1 : ¬ (((N - 1 : Nat) : Int) + 1 < q) := by omega
      simp -implicitDefEqProofs (maxSteps := 3000000) [h1]
      omega)
  obtain ⟨s, v, rfl, hf⟩ := hqq
  have e1 : N - 1 + 1 = N := by omega
  rw [e1] at hf
  simp -implicitDefEqProofs (maxSteps := 3000000) [hf]
theorem ct_iHerb (n : Nat) (hn : B + 4 ≤ n) (a q u : Int) :
    evalCall Try.prog An n 14 [.d (.int .i64 a), .d (.int .i64 q), .d (.int .i64 u)] [] = some ⟨.tuple [.d (.int .i64 (if isC a q u = true then tord a q u 0 else 0)), .d (.int .i64 (if isC a q u = true then tord a q u 1 else 0)), .d (.int .i64 (if isC a q u = true then 0 else 2))], [], []⟩ := by
  obtain ⟨m, rfl⟩ : ∃ m, n = m + 1 := ⟨n - 1, by omega⟩
  have hB := B_eq
  simp only [evalCall_at, fb14, bnd_some, bodyOf, Try.f14, Option.getD_some]
  have c1 := ct_iIsCircle m (by omega) a q u
  cases h : isC a q u
  · rw [h] at c1
    simp -implicitDefEqProofs (maxSteps := 3000000) [c1]
  · have c2 := ct_tateOrder m (by omega) a q u 0 h
    have c3 := ct_tateOrder m (by omega) a q u 1 h
    rw [h] at c1
    simp -implicitDefEqProofs (maxSteps := 3000000) [c1, c2, c3]
theorem ct_sHerb (n : Nat) (hn : B + 6 ≤ n) (a q u : Int) :
    evalCall Try.prog An n 29 [.d (.int .i64 a), .d (.int .i64 q), .d (.int .i64 u)] [] = some ⟨.tuple [.d (.int .i64 (if isC a q u = true then tord a q u 0 else 0)), .d (.int .i64 (if isC a q u = true then tord a q u 1 else 0)), .d (.int .i64 (if isC a q u = true then 0 else 2))], [], []⟩ := by
  obtain ⟨m, rfl⟩ : ∃ m, n = m + 1 := ⟨n - 1, by omega⟩
  have hB := B_eq
  simp only [evalCall_at, fb29, bnd_some, bodyOf, Try.f29, Option.getD_some]
  have c1 := ct_sIsCircle m (by omega) a q u
  cases h : isC a q u
  · rw [h] at c1
    simp -implicitDefEqProofs (maxSteps := 3000000) [c1]
  · have c2 := ct_sTateOrder m (by omega) a q u 0
    have c3 := ct_sTateOrder m (by omega) a q u 1
    have e0 : tacode a q u 0 = 0 := by rw [tacode, if_pos h, if_pos (by omega)]
    have e1 : tacode a q u 1 = 0 := by rw [tacode, if_pos h, if_pos (by omega)]
    rw [if_pos e0, e0] at c2
    rw [if_pos e1, e1] at c3
    rw [h] at c1
    simp -implicitDefEqProofs (maxSteps := 3000000) [c1, c2, c3]
theorem ct_iNorm (n : Nat) (hn : B + 4 ≤ n) (a q u : Int) :
    evalCall Try.prog An n 23 [.d (.int .i64 a), .d (.int .i64 q), .d (.int .i64 u)] [] = some ⟨.tuple [.d (.int .i64 (if isC a q u = true then sump q u a.toNat % q else 0)), .d (.int .i64 (if isC a q u = true then 0 else 2))], [], []⟩ := by
  obtain ⟨m, rfl⟩ : ∃ m, n = m + 1 := ⟨n - 1, by omega⟩
  have hB := B_eq
  simp only [evalCall_at, fb23, bnd_some, bodyOf, Try.f23, Option.getD_some]
  have c1 := ct_iIsCircle m (by omega) a q u
  cases h : isC a q u
  · rw [h] at c1
    simp -implicitDefEqProofs (maxSteps := 3000000) [c1]
  · obtain ⟨h1, h2, h3, h4, h5⟩ := isC_iff.1 h
    obtain ⟨k, rfl⟩ := Int.eq_ofNat_of_zero_le (show 0 ≤ a by omega)
    have c2 := ct_ladder m (by omega) q u h2 (by omega) k (by omega)
    rw [h] at c1
    simp -implicitDefEqProofs (maxSteps := 3000000) [c1, c2]
theorem ct_sNorm (n : Nat) (hn : B + 4 ≤ n) (a q u : Int) :
    evalCall Try.prog An n 24 [.d (.int .i64 a), .d (.int .i64 q), .d (.int .i64 u)] [] = some ⟨.tuple [.d (.int .i64 (if isC a q u = true then sump q u a.toNat % q else 0)), .d (.int .i64 (if isC a q u = true then 0 else 2))], [], []⟩ := by
  obtain ⟨m, rfl⟩ : ∃ m, n = m + 1 := ⟨n - 1, by omega⟩
  have hB := B_eq
  simp only [evalCall_at, fb24, bnd_some, bodyOf, Try.f24, Option.getD_some]
  have c1 := ct_sIsCircle m (by omega) a q u
  cases h : isC a q u
  · rw [h] at c1
    simp -implicitDefEqProofs (maxSteps := 3000000) [c1]
  · obtain ⟨h1, h2, h3, h4, h5⟩ := isC_iff.1 h
    obtain ⟨k, rfl⟩ := Int.eq_ofNat_of_zero_le (show 0 ≤ a by omega)
    have c2 := ct_l09Norm m (by omega) q u h2 (by omega) k (by omega)
    rw [h] at c1
    simp -implicitDefEqProofs (maxSteps := 3000000) [c1, c2]
def RCok (a q u k : Int) : Prop := isC a q u = true ∧ (1 ≤ k ∧ k ≤ a) ∧ a % k = 0
theorem ct_iRC_bad (n : Nat) (hn : B + 4 ≤ n) (a q u k : Int) (h : ¬ RCok a q u k) :
    evalCall Try.prog An n 26 [.d (.int .i64 a), .d (.int .i64 q), .d (.int .i64 u), .d (.int .i64 k)] [] = some ⟨.tuple [.d (.int .i64 0), .d (.int .i64 0), .d (.int .i64 0), .d (.int .i64 2)], [], []⟩ := by
  obtain ⟨m, rfl⟩ : ∃ m, n = m + 1 := ⟨n - 1, by omega⟩
  have hB := B_eq
  simp only [evalCall_at, fb26, bnd_some, bodyOf, Try.f26, Option.getD_some]
  have c1 := ct_iIsCircle m (by omega) a q u
  cases hc : isC a q u
  · rw [hc] at c1
    simp -implicitDefEqProofs (maxSteps := 3000000) [c1]
  · obtain ⟨h1, h2, h3, h4, h5⟩ := isC_iff.1 hc
    rw [hc] at c1
    by_cases k1 : k < 1
    · simp -implicitDefEqProofs (maxSteps := 3000000) [c1, k1]
    by_cases k2 : a < k
    · simp -implicitDefEqProofs (maxSteps := 3000000) [c1, k1, k2]
    have hz : k ≠ 0 := by omega
    have e := tmod_nn k (show 0 ≤ a by omega)
    have k3 : ¬ a % k = 0 := fun z => h ⟨hc, by omega, z⟩
    simp -implicitDefEqProofs (maxSteps := 3000000) [c1, k1, k2, hz, e, k3, bne_t k3]
theorem ct_iRC (n : Nat) (hn : B + 4 ≤ n) (a q u k : Int) (h : RCok a q u k) :
    evalCall Try.prog An n 26 [.d (.int .i64 a), .d (.int .i64 q), .d (.int .i64 u), .d (.int .i64 k)] [] = some ⟨.tuple [.d (.int .i64 (a / k)), .d (.int .i64 q), .d (.int .i64 (itp q u 1 k.toNat)), .d (.int .i64 0)], [], []⟩ := by
  obtain ⟨m, rfl⟩ : ∃ m, n = m + 1 := ⟨n - 1, by omega⟩
  have hB := B_eq
  simp only [evalCall_at, fb26, bnd_some, bodyOf, Try.f26, Option.getD_some]
  have c1 := ct_iIsCircle m (by omega) a q u
  obtain ⟨hc, hk, hd⟩ := h
  obtain ⟨h1, h2, h3, h4, h5⟩ := isC_iff.1 hc
  rw [hc] at c1
  have k1 : ¬ (k < 1) := by omega
  have k2 : ¬ (a < k) := by omega
  have hz : k ≠ 0 := by omega
  have e := tmod_nn k (show 0 ≤ a by omega)
  have e2 : a.tdiv k = a / k := Int.tdiv_eq_ediv_of_nonneg (by omega)
  have b1 : 0 ≤ a / k := Int.ediv_nonneg (by omega) (by omega)
  have b2 : a / k ≤ a := Int.ediv_le_self k (by omega)
  have w := wrap_id (n := a / k) (by omega)
  obtain ⟨j, rfl⟩ := Int.eq_ofNat_of_zero_le (show 0 ≤ k by omega)
  have c2 := ct_turns m (by omega) q u h2 (by omega) j (by omega)
  have hz2 : j ≠ 0 := by omega
  simp -implicitDefEqProofs (maxSteps := 3000000) [c1, k1, k2, hz, hz2, e, hd, e2, w, c2]
theorem ct_sRC_bad (n : Nat) (hn : B + 4 ≤ n) (a q u k : Int) (h : ¬ RCok a q u k) :
    evalCall Try.prog An n 27 [.d (.int .i64 a), .d (.int .i64 q), .d (.int .i64 u), .d (.int .i64 k)] [] = some ⟨.tuple [.d (.int .i64 0), .d (.int .i64 0), .d (.int .i64 0), .d (.int .i64 2)], [], []⟩ := by
  obtain ⟨m, rfl⟩ : ∃ m, n = m + 1 := ⟨n - 1, by omega⟩
  have hB := B_eq
  simp only [evalCall_at, fb27, bnd_some, bodyOf, Try.f27, Option.getD_some]
  have c1 := ct_sIsCircle m (by omega) a q u
  cases hc : isC a q u
  · rw [hc] at c1
    simp -implicitDefEqProofs (maxSteps := 3000000) [c1]
  · obtain ⟨h1, h2, h3, h4, h5⟩ := isC_iff.1 hc
    rw [hc] at c1
    by_cases k1 : 1 ≤ k ∧ k ≤ a
    · have c2 := ct_l01In_t m (by omega) k 1 a k1
      have hz : k ≠ 0 := by omega
      have e := tmod_nn k (show 0 ≤ a by omega)
      have k3 : ¬ a % k = 0 := fun z => h ⟨hc, k1, z⟩
      simp -implicitDefEqProofs (maxSteps := 3000000) [c1, c2, hz, e, k3, bne_t k3]
    · have c2 := ct_l01In_f m (by omega) k 1 a k1
      simp -implicitDefEqProofs (maxSteps := 3000000) [c1, c2]
theorem ct_sRC (n : Nat) (hn : B + 4 ≤ n) (a q u k : Int) (h : RCok a q u k) :
    evalCall Try.prog An n 27 [.d (.int .i64 a), .d (.int .i64 q), .d (.int .i64 u), .d (.int .i64 k)] [] = some ⟨.tuple [.d (.int .i64 (a / k)), .d (.int .i64 q), .d (.int .i64 (itp q u 1 k.toNat)), .d (.int .i64 0)], [], []⟩ := by
  obtain ⟨m, rfl⟩ : ∃ m, n = m + 1 := ⟨n - 1, by omega⟩
  have hB := B_eq
  simp only [evalCall_at, fb27, bnd_some, bodyOf, Try.f27, Option.getD_some]
  have c1 := ct_sIsCircle m (by omega) a q u
  obtain ⟨hc, hk, hd⟩ := h
  obtain ⟨h1, h2, h3, h4, h5⟩ := isC_iff.1 hc
  rw [hc] at c1
  have c3 := ct_l01In_t m (by omega) k 1 a hk
  have hz : k ≠ 0 := by omega
  have e := tmod_nn k (show 0 ≤ a by omega)
  have e2 : a.tdiv k = a / k := Int.tdiv_eq_ediv_of_nonneg (by omega)
  have b1 : 0 ≤ a / k := Int.ediv_nonneg (by omega) (by omega)
  have b2 : a / k ≤ a := Int.ediv_le_self k (by omega)
  have w := wrap_id (n := a / k) (by omega)
  obtain ⟨j, rfl⟩ := Int.eq_ofNat_of_zero_le (show 0 ≤ k by omega)
  have c2 := ct_l09Power m (by omega) q u h2 (by omega) j (by omega)
  have hz2 : j ≠ 0 := by omega
  simp -implicitDefEqProofs (maxSteps := 3000000) [c1, c3, hz, hz2, e, hd, e2, w, c2]
end Go.Proofs.YtcdmhlagibjeiaaE
