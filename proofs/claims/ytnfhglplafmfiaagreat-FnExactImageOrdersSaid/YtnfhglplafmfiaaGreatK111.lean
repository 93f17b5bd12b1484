/- Contracts of functions of the program and of the reference: what the evaluator gives for a call of each. -/
import Derived.Test.YtnfhglplafmfiaaGreatAEf
import Derived.Test.YtnfhglplafmfiaaGreatK1M
import Derived.Test.YtnfhglplafmfiaaGreatK31
import Derived.Test.YtnfhglplafmfiaaGreatK90M
import Derived.Test.YtnfhglplafmfiaaGreatK92
import Derived.Test.YtnfhglplafmfiaaGreatK94
import Derived.Test.YtnfhglplafmfiaaGreatK96
import Derived.Test.YtnfhglplafmfiaaGreatK98M
import Derived.Test.YtnfhglplafmfiaaGreatK100M
import Derived.Test.YtnfhglplafmfiaaGreatK102M
import Derived.Test.YtnfhglplafmfiaaGreatK105M
import Derived.Test.YtnfhglplafmfiaaGreatK107M
namespace Go.Proofs.YtnfhglplafmfiaaGreatE
open Go Go.Proofs
set_option maxHeartbeats 16000000
set_option maxRecDepth 8000
set_option linter.unusedSimpArgs false
set_option linter.unusedVariables false
set_option pp.deepTerms false
set_option pp.deepTerms.threshold 10
theorem ct_l04StepsR (n : Nat) (hn : B + 1 ≤ n) (M : Int) (hM : 2 ≤ M ∧ M ≤ 12) (N : Nat) (hN : N ≤ 10000) (R : List (List Int)) (S : Rws M N R) :
    evalCall Tryz.prog An n 158 [.d (.sl 1 (rcells R)), .d (.int .i64 M)] [] = some ⟨.own 0 0, [.row (icells (stpL M R N))], []⟩ := by
  obtain ⟨m, rfl⟩ : ∃ m, n = m + 1 := ⟨n - 1, by omega⟩
  have hB := B_eq
  simp only [evalCall_at, fb158, bnd_some, bodyOf, Tryz.f158, Option.getD_some]
  generalize hb0 : Code.loop _ = cc0
  obtain rfl : cc0 = .loop (lp Tryz.f158 0) := by rw [← hb0]; rfl
  clear hb0
  have hl := S.len
  simp -implicitDefEqProofs (maxSteps := 3000000)
  generalize hx : loopC _ _ _ = z
  generalize hl : lp Tryz.f158 0 = L at hx
  simp only [lp, bodyOf, Tryz.f158, Option.getD_some, loopsIn, List.append_nil, List.nil_append, List.cons_append, List.getD, List.getElem?_cons_zero, List.getElem?_cons_succ] at hl
  subst hl
  obtain ⟨qq, rfl, s, hqq⟩ := loop_end hx N (fun i s => ∃ g v, s = ⟨[(0, .d (.sl 1 (rcells R))), (1, .d (.int .i64 M)), (5, .own 112 v), (6, .d (.int .i64 (i : Int)))], [(112, some (v, .row (icells (stpL M R i))))], g⟩)
    (fun qq => ∃ s, qq = (.exit 0, s) ∧ ∃ v, lookL s.env 5 = some (.own 112 v) ∧ obsL s.obs 112 = some (v, .row (icells (stpL M R N))))
    (by show N < m; omega) (by simp -implicitDefEqProofs (maxSteps := 3000000) [stpL])
    (by
      rintro i s hi ⟨g, v, rfl⟩
      have w2 := wrap_id (n := (i : Int) + 1) (by omega)
      have h2 : i < R.length := by omega
      have hs := stpL_succ M R i
      have hb : i + 1 ≤ bound := by simp -implicitDefEqProofs (maxSteps := 3000000) [bound]; omega
      by_cases hne : rown R i = []
      · rw [if_pos hne] at hs
        simp -implicitDefEqProofs (maxSteps := 3000000) [hl, hi, h2, hne, w2, hs, hb]
      · rw [if_neg hne] at hs
        obtain ⟨hv, hz, h0, hd⟩ := S.row i hne
        have hp := rinD_ne hne
        have hi2 : i < (rown R i).length := by rw [hv.1]; omega
        have hlp : 0 < (rown R i).length := by omega
        have hl0 : ((((rown R i).length : Nat) : Int) == 0) = false := by simp; exact hne
        have hn0 : ¬ rn (rown R i) i = 0 := by omega
        have t1 : M.tdiv (rn (rown R i) i) = M / rn (rown R i) i := Int.tdiv_eq_ediv_of_nonneg (by omega)
        have q1 := ediv_bd (a := M) (d := rn (rown R i) i) (by omega) h0
        have v1 := wrap_sm (x := M / rn (rown R i) i) (by omega)
        simp -implicitDefEqProofs (maxSteps := 3000000) [hl, hi, h2, hne, hp, hi2, hlp, hl0, hn0, t1, v1, w2, hs, hb])
    (by
      rintro s ⟨g, v, rfl⟩
      simp -implicitDefEqProofs (maxSteps := 3000000) [hl])
  obtain ⟨rfl, v, h3, h4⟩ := hqq
  simp -implicitDefEqProofs (maxSteps := 3000000) [h3, h4]
/-! ## the number of classes of rows -/
theorem imgs_le {h : List Int → List Int} {R : List (List Int)} (k : Nat) : (imgs h R k).length ≤ k := by
  induction k with
  | zero => simp -implicitDefEqProofs (maxSteps := 3000000) [imgs]
  | succ k ih =>
    rw [imgs_succ]
    split <;> simp <;> omega
theorem ct_l08Image (n : Nat) (hn : B + 40 ≤ n) (M : Int) (hM : 2 ≤ M ∧ M ≤ 12) (N : Nat) (hN : N ≤ 10000) (Rb : List (List Int)) (Sb : Sat M N Rb []) (X : List (List Int)) (hXl : X.length ≤ 1000000) (hX : ∀ i < X.length, Vec M N (rown X i)) :
    ∃ Ra, (Sat M N Ra [] ∧ ∀ u, Sp M (GR Ra 0) u ↔ Sp M (GL (imgs id Rb N ++ X)) u) ∧
      evalCall Tryz.prog An n 70 [.d (.sl 1 (rcells Rb)), .d (.sl 1 (rowcells X)), .d (.int .i64 M)] [] = some ⟨.d (.int .i64 (IntKind.wrap .i64 (quoP (sval M Ra) (sval M Rb) N))), [], []⟩ := by
  obtain ⟨m, rfl⟩ : ∃ m, n = m + 1 := ⟨n - 1, by omega⟩
  have hB := B_eq
  simp only [evalCall_at, fb70, bnd_some, bodyOf, Tryz.f70, Option.getD_some]
  generalize hb0 : Code.loop _ = cc0
  generalize hb1 : Code.loop _ = cc1
  generalize hb2 : Code.loop _ = cc2
  obtain rfl : cc0 = .loop (lp Tryz.f70 0) := by rw [← hb0]; rfl
  clear hb0
  obtain rfl : cc1 = .loop (lp Tryz.f70 1) := by rw [← hb1]; rfl
  clear hb1
  obtain rfl : cc2 = .loop (lp Tryz.f70 2) := by rw [← hb2]; rfl
  clear hb2
  have lb := Sb.rws.len
  have hN2 : (N : Int) ≤ 1099511627776 := by omega
  simp -implicitDefEqProofs (maxSteps := 3000000) [lb, hN2]
  generalize hx : loopC _ _ _ = z
  generalize hl : lp Tryz.f70 0 = L at hx
  simp only [lp, bodyOf, Tryz.f70, Option.getD_some, loopsIn, List.append_nil, List.nil_append, List.cons_append, List.getD, List.getElem?_cons_zero, List.getElem?_cons_succ] at hl
  subst hl
  obtain ⟨qq, rfl, s, R0, hqq⟩ := loop_end hx N (fun i s => ∃ g v R, (Sat M N R [] ∧ ∀ u, Sp M (GR R 0) u ↔ Sp M (GL (imgs id Rb i)) u) ∧ s = ⟨[(0, .d (.sl 1 (rcells Rb))), (1, .d (.sl 1 (rowcells X))), (2, .d (.int .i64 M)), (7, .own 256 v), (8, .d (.int .i64 1)), (9, .d (.int .i64 (i : Int)))], [(256, some (v, .row (pcells R)))], g⟩)
    (fun qq => ∃ s R, qq = (.exit 0, s) ∧ (Sat M N R [] ∧ ∀ u, Sp M (GR R 0) u ↔ Sp M (GL (imgs id Rb N)) u) ∧ ∃ v, Has s [(0, .d (.sl 1 (rcells Rb))), (1, .d (.sl 1 (rowcells X))), (2, .d (.int .i64 M)), (7, .own 256 v), (8, .d (.int .i64 1))] [(256, some (v, .row (pcells R)))])
    (by show N < m; omega) ⟨_, _, List.replicate N [], ⟨sat_new M _, sp_new M _⟩, by simp; exact ⟨rfl, rfl⟩⟩
    (by
      rintro i s hi ⟨g, v, R, ⟨S, hS⟩, rfl⟩
      have w2 := wrap_id (n := (i : Int) + 1) (by omega)
      have hib : i < Rb.length := by omega
      have hs := imgs_succ id Rb i
      by_cases hne : rown Rb i = []
      · rw [if_pos hne, List.append_nil] at hs
        simp -implicitDefEqProofs (maxSteps := 3000000) [lb, hi, hib, hne, w2, hs]
        exact ⟨_, _, R, ⟨S, hS⟩, rfl, ⟨rfl, rfl⟩, rfl⟩
      · rw [if_neg hne] at hs
        have hv := (Sb.rws.row i hne).1
        have hpn := rinD_ne hne
        have hlp : 0 < (rown Rb i).length := by rw [hv.1]; omega
        obtain ⟨R', S', hS', c6⟩ := ct_l04Insert m (by omega) M hM N hN R S _ hv
        have hS2 := sp_ins hS hS'
        rw [show [rown Rb i] = [id (rown Rb i)] from rfl, ← hs] at hS2
        simp -implicitDefEqProofs (maxSteps := 3000000) [lb, hi, hib, hne, hpn, hlp, w2, c6]
        exact ⟨_, _, R', ⟨S', hS2⟩, rfl, ⟨rfl, rfl⟩, rfl⟩)
    (by
      rintro s ⟨g, v, R, h, rfl⟩
      simp -implicitDefEqProofs (maxSteps := 3000000) [lb]
      exact ⟨R, h, rfl⟩)
  obtain ⟨rfl, ⟨S0, h0⟩, v, hf⟩ := hqq
  simp only [Has, hasE, hasO] at hf
  simp -implicitDefEqProofs (maxSteps := 3000000) [hf]
  generalize hx : loopC _ _ _ = z
  generalize hl : lp Tryz.f70 1 = L at hx
  simp only [lp, bodyOf, Tryz.f70, Option.getD_some, loopsIn, List.append_nil, List.nil_append, List.cons_append, List.getD, List.getElem?_cons_zero, List.getElem?_cons_succ] at hl
  subst hl
  obtain ⟨qq, rfl, s, Ra, hqq⟩ := loop_end hx X.length (fun i s => ∃ g v R, (Sat M N R [] ∧ ∀ u, Sp M (GR R 0) u ↔ Sp M (GL (imgs id Rb N ++ X.take i)) u) ∧ s = ⟨[(0, .d (.sl 1 (rcells Rb))), (1, .d (.sl 1 (rowcells X))), (2, .d (.int .i64 M)), (7, .own 256 v), (8, .d (.int .i64 1)), (10, .d (.int .i64 (i : Int)))], [(256, some (v, .row (pcells R)))], g⟩)
    (fun qq => ∃ s R, qq = (.exit 2, s) ∧ (Sat M N R [] ∧ ∀ u, Sp M (GR R 0) u ↔ Sp M (GL (imgs id Rb N ++ X)) u) ∧ ∃ v, Has s [(0, .d (.sl 1 (rcells Rb))), (1, .d (.sl 1 (rowcells X))), (2, .d (.int .i64 M)), (7, .own 256 v), (8, .d (.int .i64 1))] [(256, some (v, .row (pcells R))), (817, none), (818, none), (819, none), (865, none), (866, none), (867, none)])
    (by show X.length < m; omega) ⟨_, _, R0, ⟨S0, by simpa using h0⟩, by simp -implicitDefEqProofs (maxSteps := 3000000) [hf]; exact ⟨rfl, rfl⟩⟩
    (by
      rintro i s hi ⟨g, v, R, ⟨S, hS⟩, rfl⟩
      have w2 := wrap_id (n := (i : Int) + 1) (by omega)
      obtain ⟨R', S', hS', c6⟩ := ct_l04Insert m (by omega) M hM N hN R S _ (hX i hi)
      have hS2 := sp_ins hS hS'
      rw [List.append_assoc, ← take_succ_rown X hi] at hS2
      simp -implicitDefEqProofs (maxSteps := 3000000) [hi, w2, c6]
      exact ⟨_, _, R', ⟨S', hS2⟩, rfl, ⟨rfl, rfl⟩, rfl⟩)
    (by
      rintro s ⟨g, v, R, h, rfl⟩
      rw [List.take_length] at h
      simp -implicitDefEqProofs (maxSteps := 3000000)
      exact ⟨R, h, rfl⟩)
  obtain ⟨rfl, hA, v, hf⟩ := hqq
  simp only [Has, hasE, hasO] at hf
  have hab : AB (sval M Ra) (sval M Rb) N := ab_of hM Sb hA.1 (fun u hu => (hA.2 u).2 (((imgs_id (k := N) (by omega) u).2 hu).mono fun g ⟨w, hw, e⟩ => ⟨w, by simp -implicitDefEqProofs (maxSteps := 3000000) [hw], e⟩)) N
  have cb := ct_l04StepsR m (by omega) M hM N hN Rb Sb.rws
  have ca := ct_l04Steps m (by omega) M hM N hN Ra hA.1.rws
  refine ⟨Ra, hA, ?_⟩
  have ga : ∀ j < N, rn (stpL M Ra N) j = sval M Ra j := fun j hj => stpL_get (by omega) hj
  have gb : ∀ j < N, rn (stpL M Rb N) j = sval M Rb j := fun j hj => stpL_get (by omega) hj
  have la := stpL_len M Ra N
  have lbb := stpL_len M Rb N
  clear hA S0 h0
  generalize sval M Ra = a at *
  generalize sval M Rb = b at *
  generalize stpL M Ra N = LA at *
  generalize stpL M Rb N = LB at *
  have w1 : IntKind.wrap .i64 1 = 1 := wrap_id (by omega)
  simp -implicitDefEqProofs (maxSteps := 3000000) [hf, ca, cb]
  generalize hx : loopC _ _ _ = z
  generalize hl : lp Tryz.f70 2 = L at hx
  simp only [lp, bodyOf, Tryz.f70, Option.getD_some, loopsIn, List.append_nil, List.nil_append, List.cons_append, List.getD, List.getElem?_cons_zero, List.getElem?_cons_succ] at hl
  subst hl
  obtain ⟨qq, rfl, s, hqq⟩ := loop_end hx N (fun i s => ∃ g v1 v2, s = ⟨[(8, .d (.int .i64 (IntKind.wrap .i64 (quoP a b i)))), (11, .own 816 v1), (12, .own 864 v2), (13, .d (.int .i64 (i : Int)))], [(816, some (v1, .row (icells LB))), (864, some (v2, .row (icells LA)))], g⟩)
    (fun qq => ∃ s, qq = (.exit 4, s) ∧ Has s [(8, .d (.int .i64 (IntKind.wrap .i64 (quoP a b N))))] [])
    (by show N < m; omega) (by simp -implicitDefEqProofs (maxSteps := 3000000) [hf, quoP, w1])
    (by
      rintro i s hi ⟨g, v1, v2, rfl⟩
      have w2 := wrap_id (n := (i : Int) + 1) (by omega)
      obtain ⟨b1, b2, b3⟩ := hab i hi
      have ja : i < LA.length := by omega
      have jb : i < LB.length := by omega
      have g1 := ga i hi
      have g2 := gb i hi
      have hb0 : ¬ b i = 0 := by omega
      have t1 : (a i).tdiv (b i) = a i / b i := Int.tdiv_eq_ediv_of_nonneg (by omega)
      have q1 := ediv_bd (a := a i) (d := b i) (by omega) (by omega)
      have w3 := wrap_sm (x := a i / b i) (by omega)
      have e3 : quoP a b (i + 1) = quoP a b i * (a i / b i) := rfl
      simp -implicitDefEqProofs (maxSteps := 3000000) [la, hi, ja, jb, g1, g2, hb0, t1, w2, w3, wrap_mul, e3])
    (by
      rintro s ⟨g, v1, v2, rfl⟩
      simp -implicitDefEqProofs (maxSteps := 3000000) [la])
  obtain ⟨rfl, hf⟩ := hqq
  simp only [Has, hasE, hasO] at hf
  simp -implicitDefEqProofs (maxSteps := 3000000) [hf]
end Go.Proofs.YtnfhglplafmfiaaGreatE
