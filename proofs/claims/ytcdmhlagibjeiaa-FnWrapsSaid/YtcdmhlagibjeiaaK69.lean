/- Contracts of functions of the program and of the reference: what the evaluator gives for a call of each. -/
import Derived.Test.YtcdmhlagibjeiaaAEf
import Derived.Test.YtcdmhlagibjeiaaK0
import Derived.Test.YtcdmhlagibjeiaaK4
import Derived.Test.YtcdmhlagibjeiaaK31
import Derived.Test.YtcdmhlagibjeiaaK64
import Derived.Test.YtcdmhlagibjeiaaK67
import Derived.Test.YtcdmhlagibjeiaaK68
namespace Go.Proofs.YtcdmhlagibjeiaaE
open Go Go.Proofs
set_option maxHeartbeats 4000000
set_option maxRecDepth 4000
set_option linter.unusedSimpArgs false
set_option linter.unusedVariables false
set_option pp.deepTerms false
set_option pp.deepTerms.threshold 10
/-! ## Tate groups: members -/
def ocells (l : List Bool) : List YtcdmhlagibjeiaaE.D := l.map .bool
@[simp] theorem ocells_length (l : List Bool) : (ocells l).length = l.length := by simp -implicitDefEqProofs (maxSteps := 3000000) [ocells]
@[simp] theorem ocells_rep (n : Nat) (b : Bool) : List.replicate n (YtcdmhlagibjeiaaE.D.bool b) = ocells (List.replicate n b) := by simp -implicitDefEqProofs (maxSteps := 3000000) [ocells]
@[simp] theorem ocells_set (l : List Bool) (k : Nat) (b : Bool) : (ocells l).set k (.bool b) = ocells (l.set k b) := by simp -implicitDefEqProofs (maxSteps := 3000000) [ocells, List.map_set]
@[simp] theorem ocells_get (l : List Bool) (k : Nat) : (ocells l)[k]? = (l[k]?).map YtcdmhlagibjeiaaE.D.bool := by simp -implicitDefEqProofs (maxSteps := 3000000) [ocells]
@[simp] theorem ocells_getE (l : List Bool) (k : Nat) (h : k < (ocells l).length) : (ocells l)[k] = .bool (l[k]'(by simpa using h)) := by simp -implicitDefEqProofs (maxSteps := 3000000) [ocells]
def metL (m c : Int) (i : Nat) : List Bool := (upto m.toNat).map fun y => (upto i).any fun x => c * x % m == y
theorem metL_length (m c : Int) (i : Nat) : (metL m c i).length = m.toNat := by simp -implicitDefEqProofs (maxSteps := 3000000) [metL]
theorem metL_zero (m c : Int) : List.replicate m.toNat false = metL m c 0 := by
  apply List.ext_getElem
  · simp -implicitDefEqProofs (maxSteps := 3000000) [metL_length]
  · intro i h1 h2
    simp -implicitDefEqProofs (maxSteps := 3000000) [metL, upto]
theorem metL_succ {m c : Int} (hm : 0 < m) (i : Nat) : (metL m c i).set (c * i % m).toNat true = metL m c (i + 1) := by
  have h0 := Int.emod_nonneg (c * i) (show m ≠ 0 by omega)
  have h1 := Int.emod_lt_of_pos (c * i) hm
  apply List.ext_getElem?
  intro j
  rw [List.getElem?_set]
  unfold metL
  rw [List.getElem?_map, List.getElem?_map, List.length_map, upto_len]
  by_cases hj : j < m.toNat
  · have e : (upto m.toNat)[j]? = some (j : Int) := by simp -implicitDefEqProofs (maxSteps := 3000000) [upto, tabI, hj]
    rw [e, ← upto_succ]
    simp only [Option.map_some, List.any_append, List.any_cons, List.any_nil, Bool.or_false]
    by_cases hq : (c * i % m).toNat = j
    · rw [if_pos hq, if_pos (by omega)]
      have e2 : (c * (i : Int) % m == (j : Int)) = true := by rw [beq_iff_eq]; omega
      rw [e2, Bool.or_true]
    · rw [if_neg hq]
      have e2 : (c * (i : Int) % m == (j : Int)) = false := by rw [beq_eq_false_iff_ne]; omega
      rw [e2, Bool.or_false]
  · have e : (upto m.toNat)[j]? = none := by simp -implicitDefEqProofs (maxSteps := 3000000) [upto]; omega
    rw [e, if_neg (by omega)]
    rfl
theorem met_all {m c y : Int} (hm : 0 < m) (hc : 0 ≤ c) (hy : 0 ≤ y) (hy' : y < m) : ((upto m.toNat).any fun x => c * x % m == y) = (y % gcdI m c == 0) := by
  rw [Bool.eq_iff_iff, beq_iff_eq, ← image_gcd hm hc hy hy', List.any_eq_true]
  constructor
  · rintro ⟨x, hx, e⟩
    have := mem_upto.1 hx
    exact ⟨x, this.1, by omega, by simpa using e⟩
  · rintro ⟨x, h0, h1, e⟩
    exact ⟨x, mem_upto.2 ⟨h0, by omega⟩, by simpa using e⟩
theorem metL_get {m c : Int} (hm : 0 < m) (hc : 0 ≤ c) {y : Nat} (hy : y < m.toNat) : (metL m c m.toNat)[y]? = some ((y : Int) % gcdI m c == 0) := by
  have e : (upto m.toNat)[y]? = some (y : Int) := by simp -implicitDefEqProofs (maxSteps := 3000000) [upto, tabI, hy]
  unfold metL
  rw [List.getElem?_map, e, Option.map_some, met_all hm hc (by omega) (by omega)]
theorem ct_l09Members (n : Nat) (hn : B + 5 ≤ n) (a q u d : Int) (hc : isC a q u = true) (hd : -1000 ≤ d ∧ d ≤ 1000) :
    evalCall Try.prog An n 48 [.d (.int .i64 a), .d (.int .i64 q), .d (.int .i64 u), .d (.int .i64 d)] [] = some ⟨.tuple [.own 0 0, .own 1 0], [.row (icells (tmem q (tmaps a q u d).1)), .row (icells (tnou q (tmaps a q u d).2))], []⟩ := by
  obtain ⟨m, rfl⟩ : ∃ m, n = m + 1 := ⟨n - 1, by omega⟩
  have hB := B_eq
  simp only [evalCall_at, fb48, bnd_some, bodyOf, Try.f48, Option.getD_some]
  generalize hb0 : Code.loop _ = cc0
  generalize hb1 : Code.loop _ = cc1
  obtain rfl : cc0 = .loop (lp Try.f48 0) := by rw [← hb0]; rfl
  clear hb0
  obtain rfl : cc1 = .loop (lp Try.f48 1) := by rw [← hb1]; rfl
  clear hb1
  obtain ⟨h1, h2, h3, h4, h5⟩ := isC_iff.1 hc
  have c1 := ct_l09Maps m (by omega) a q u d hc hd
  obtain ⟨r1, r2, r3, r4⟩ := tmaps_range (d := d) hc
  unfold tmem tnou
  generalize (tmaps a q u d).1 = K at *
  generalize (tmaps a q u d).2 = I at *
  have hz : q ≠ 0 := by omega
  have hq : (q.toNat : Int) = q := Int.toNat_of_nonneg (by omega)
  have hq0 : 0 ≤ q := by omega
  have hq2 : q ≤ 1099511627776 := by omega
  have hzero := metL_zero q I
  simp -implicitDefEqProofs (maxSteps := 3000000) [c1, hq0, hq2, hzero]
  generalize hx : loopC _ _ _ = x
  generalize hl : lp Try.f48 0 = L at hx
  simp only [lp, bodyOf, Try.f48, Option.getD_some, loopsIn, List.append_nil, List.nil_append, List.cons_append, List.getD, List.getElem?_cons_zero, List.getElem?_cons_succ] at hl
  subst hl
  obtain ⟨qq, rfl, hqq⟩ := loop_end hx (q.toNat) (fun i s => ∃ g, s = ⟨[(1, .d (.int .i64 q)), (10, .d (.int .i64 K)), (11, .d (.int .i64 I)), (12, .own 416 14), (13, .own 432 15), (14, .own 448 16), (15, .d (.int .i64 i))], [(416, some (14, .row (ocells (metL q I i)))), (432, some (15, .row [])), (448, some (16, .row []))], g⟩)
    (fun qq => ∃ s, qq = (.exit 0, s) ∧ lookL s.env 1 = some (.d (.int .i64 q)) ∧ lookL s.env 10 = some (.d (.int .i64 K)) ∧ lookL s.env 11 = some (.d (.int .i64 I)) ∧ lookL s.env 12 = some (.own 416 14) ∧ lookL s.env 13 = some (.own 432 15) ∧ lookL s.env 14 = some (.own 448 16) ∧ lookL s.env 15 = some (.d (.int .i64 (q.toNat))) ∧ obsL s.obs 416 = some (14, .row (ocells (metL q I (q.toNat)))) ∧ obsL s.obs 432 = some (15, .row []) ∧ obsL s.obs 448 = some (16, .row []) ∧ obsL s.obs 880 = none ∧ obsL s.obs 1008 = none)
    (by show q.toNat < m; omega) (by
      simp -implicitDefEqProofs (maxSteps := 3000000))
    (by
      rintro i s hi ⟨g, rfl⟩
      have hi2 : (i : Int) < q := by omega
      have w2 := wrap_id (n := (i : Int) + 1) (by omega)
      have b := mul_bd (a := I) (b := i) (x := 200) (y := 200) r3 (by omega) (by omega) (by omega)
      have w3 := wrap_id (n := I * i) (by omega)
      have e := tmod_nn q b.1
      have e0 := Int.emod_nonneg (I * i) hz
      have e1 := Int.emod_lt_of_pos (I * i) (show 0 < q by omega)
      have hs := metL_succ (c := I) (show 0 < q by omega) i
      have hl := metL_length q I i
      generalize metL q I i = X at *
      generalize metL q I (i + 1) = Y at *
      generalize I * (i : Int) % q = z at *
      have hz1 : z < X.length := by omega
      have hz2 : z.toNat < X.length := by omega
      simp -implicitDefEqProofs (maxSteps := 3000000) [hi2, w2, w3, e, e0, hz, hz1, hz2, hs])
    (by
      rintro s ⟨g, rfl⟩
      simp -implicitDefEqProofs (maxSteps := 3000000) [hq])
  obtain ⟨s, rfl, hf⟩ := hqq
  simp -implicitDefEqProofs (maxSteps := 3000000) [hf]
  have hg := fun (y : Nat) hy => metL_get (m := q) (c := I) (show 0 < q by omega) r3 (y := y) hy
  have hml := metL_length q I q.toNat
  generalize metL q I q.toNat = MT at *
  generalize hx : loopC _ _ _ = x
  generalize hl : lp Try.f48 1 = L at hx
  simp only [lp, bodyOf, Try.f48, Option.getD_some, loopsIn, List.append_nil, List.nil_append, List.cons_append, List.getD, List.getElem?_cons_zero, List.getElem?_cons_succ] at hl
  subst hl
  obtain ⟨qq, rfl, hqq⟩ := loop_end hx (q.toNat) (fun i s => ∃ g v w, s = ⟨[(1, .d (.int .i64 q)), (10, .d (.int .i64 K)), (12, .own 416 14), (13, .own 432 v), (14, .own 448 w), (16, .d (.int .i64 i))], [(416, some (14, .row (ocells MT))), (432, some (v, .row (icells (fltL (fun x => K * x % q == 0) i)))), (448, some (w, .row (icells (fltL (fun y => y % gcdI q I == 0) i))))], g⟩)
    (fun qq => ∃ s v w, qq = (.exit 2, s) ∧ lookL s.env 1 = some (.d (.int .i64 q)) ∧ lookL s.env 10 = some (.d (.int .i64 K)) ∧ lookL s.env 12 = some (.own 416 14) ∧ lookL s.env 13 = some (.own 432 v) ∧ lookL s.env 14 = some (.own 448 w) ∧ lookL s.env 16 = some (.d (.int .i64 (q.toNat))) ∧ obsL s.obs 416 = some (14, .row (ocells MT)) ∧ obsL s.obs 432 = some (v, .row (icells (fltL (fun x => K * x % q == 0) (q.toNat)))) ∧ obsL s.obs 448 = some (w, .row (icells (fltL (fun y => y % gcdI q I == 0) (q.toNat)))))
    (by show q.toNat < m; omega) (by
      simp -implicitDefEqProofs (maxSteps := 3000000) [hf, fltL, upto])
    (by
      rintro i s hi ⟨g, v, w, rfl⟩
      have hi2 : (i : Int) < q := by omega
      have hi3 : i < MT.length := by omega
      have w2 := wrap_id (n := (i : Int) + 1) (by omega)
      have b := mul_bd (a := K) (b := i) (x := 200) (y := 200) r1 (by omega) (by omega) (by omega)
      have w3 := wrap_id (n := K * i) (by omega)
      have e := tmod_nn q b.1
      have s1 := fltL_succ (fun x => K * x % q == 0) i
      have s2 := fltL_succ (fun y => y % gcdI q I == 0) i
      have l1 := fltL_le (fun x => K * x % q == 0) i
      have l2 := fltL_le (fun y => y % gcdI q I == 0) i
      have g := hg i (by omega)
      rw [List.getElem?_eq_getElem hi3] at g
      have g2 := Option.some.inj g
      rw [s1, s2]
      generalize fltL (fun x => K * x % q == 0) i = X at *
      generalize fltL (fun y => y % gcdI q I == 0) i = Y at *
      have b1 := le_bound (n := X.length) (by omega)
      have b2 := le_bound (n := Y.length) (by omega)
      have b3 := lt_bound (n := X.length) (by omega)
      have b4 := lt_bound (n := Y.length) (by omega)
      by_cases p1 : K * (i : Int) % q = 0 <;> by_cases p2 : (i : Int) % gcdI q I = 0
      · simp -implicitDefEqProofs (maxSteps := 3000000) [hi2, hi3, w2, w3, e, hz, g2, p1, p2, b1, b2, b3, b4]
      · simp -implicitDefEqProofs (maxSteps := 3000000) [hi2, hi3, w2, w3, e, hz, g2, p1, p2, beq_f p2, b1, b2, b3, b4]
      · simp -implicitDefEqProofs (maxSteps := 3000000) [hi2, hi3, w2, w3, e, hz, g2, p1, p2, beq_f p1, b1, b2, b3, b4]
      · simp -implicitDefEqProofs (maxSteps := 3000000) [hi2, hi3, w2, w3, e, hz, g2, p1, p2, beq_f p1, beq_f p2, b1, b2, b3, b4])
    (by
      rintro s ⟨g, v, w, rfl⟩
      simp -implicitDefEqProofs (maxSteps := 3000000) [hq])
  obtain ⟨s, v, w, rfl, hf⟩ := hqq
  simp -implicitDefEqProofs (maxSteps := 3000000) [hf]
end Go.Proofs.YtcdmhlagibjeiaaE
