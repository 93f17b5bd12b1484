/- Contracts of functions of the program and of the reference: what the evaluator gives for a call of each. -/
import Derived.Test.YtnfhglplafmfiaaGreatAEf
import Derived.Test.YtnfhglplafmfiaaGreatK1M
import Derived.Test.YtnfhglplafmfiaaGreatK3M
import Derived.Test.YtnfhglplafmfiaaGreatK4
import Derived.Test.YtnfhglplafmfiaaGreatK6M
import Derived.Test.YtnfhglplafmfiaaGreatK15
import Derived.Test.YtnfhglplafmfiaaGreatK16
import Derived.Test.YtnfhglplafmfiaaGreatK17
import Derived.Test.YtnfhglplafmfiaaGreatK57M
import Derived.Test.YtnfhglplafmfiaaGreatK90M
import Derived.Test.YtnfhglplafmfiaaGreatK92
import Derived.Test.YtnfhglplafmfiaaGreatK98M
import Derived.Test.YtnfhglplafmfiaaGreatK100M
import Derived.Test.YtnfhglplafmfiaaGreatK102M
import Derived.Test.YtnfhglplafmfiaaGreatK103
import Derived.Test.YtnfhglplafmfiaaGreatK105M
import Derived.Test.YtnfhglplafmfiaaGreatK109
namespace Go.Proofs.YtnfhglplafmfiaaGreatE
open Go Go.Proofs
set_option maxHeartbeats 16000000
set_option maxRecDepth 8000
set_option linter.unusedSimpArgs false
set_option linter.unusedVariables false
set_option pp.deepTerms false
set_option pp.deepTerms.threshold 10
/-! ## the reference's boundaries and cocycles -/
theorem ct_l04Sides (n : Nat) (hn : B + 20 ≤ n) (T : List (List Int)) (R0 : RowsOk T) (e0 : ∀ a < T.length, cl T 0 a = a) (M : Int) (hM : 2 ≤ M ∧ M ≤ 12) (U : List Int) (hU : U.length = T.length) (bU : ∀ i < U.length, 0 ≤ rn U i ∧ rn U i ≤ 11) (p : Nat) (hp : p ≤ 3) :
    evalCall Tryz.prog An n 215 [.agg [.d (intss T)], .agg [.d (.int .i64 M), .d (ints U)], .d (.int .i64 p)] [] = some ⟨.own 0 0, [.mat false (mcells (bdUs T M U p ((T.length - 1) ^ p)))], []⟩ := by
  obtain ⟨m, rfl⟩ : ∃ m, n = m + 1 := ⟨n - 1, by omega⟩
  have hB := B_eq
  simp only [evalCall_at, fb215, bnd_some, bodyOf, Tryz.f215, Option.getD_some]
  generalize hb0 : Code.loop _ = cc0
  obtain rfl : cc0 = .loop (lp Tryz.f215 0) := by rw [← hb0]; rfl
  clear hb0
  have hT := R0.1
  have c1 := ct_l03Cells4 m (by omega) T hT (p + 1) (by omega)
  have c3 := ct_l03Cells4 m (by omega) T hT p (by omega)
  rw [pow_cast hT.1] at c1 c3
  have hb := pow_bdN (N := T.length) (p := p + 1) hT.2 (by omega)
  have hb2 := pow_bdN (N := T.length) (p := p) hT.2 (by omega)
  have c4 := ct_l03Zero m (by omega) T hT p (by omega)
  have w0 := wrap_id (n := (p : Int) + 1) (by omega)
  have cl : ∀ i < (T.length - 1) ^ (p + 1), _ := fun i hi => ct_l03List m (by omega) T hT (p + 1) i (by omega) hi (by omega)
  have cs : ∀ j, ∀ i < (T.length - 1) ^ (p + 1), _ := fun j i hi => ct_l03Side m (by omega) T M (by omega) U p (uni ((T.length - 1) ^ p) j) _ p ((uni_co (i := j) R0 e0 hU bU hp).side hi)
  simp only [← show ∀ V i, bnd1 T M U V p i = sideV T U V (digs (T.length - 1) (p + 1) i) % M from fun V i => rfl] at cs
  rw [show ((p + 1 : Nat) : Int) = (p : Int) + 1 by simp] at c1 cl
  have hs := fun i => bdUs_succ T M U p i
  simp only [bdU, bndL] at hs
  generalize hQ : (T.length - 1) ^ p = Q at *
  generalize hP : (T.length - 1) ^ (p + 1) = P at *
  simp -implicitDefEqProofs (maxSteps := 3000000) [c3]
  generalize hx : loopC _ _ _ = z
  generalize hl : lp Tryz.f215 0 = L at hx
  simp only [lp, bodyOf, Tryz.f215, Option.getD_some, loopsIn, List.append_nil, List.nil_append, List.cons_append, List.getD, List.getElem?_cons_zero, List.getElem?_cons_succ] at hl
  subst hl
  generalize hb1 : Code.loop _ = cc1 at hx
  obtain rfl : cc1 = .loop (lp Tryz.f215 1) := by rw [← hb1]; rfl
  clear hb1
  obtain ⟨qq, rfl, s, hqq⟩ := loop_end hx Q (fun i s => ∃ g v, s = ⟨[(2, .d (.int .i64 (p : Int))), (3, .ptr 48 1 0), (4, .ptr 64 2 0), (7, .own 208 v), (8, .d (.int .i64 (Q : Int))), (9, .d (.int .i64 (i : Int)))], [(48, some (1, .box [.d (intss T)])), (64, some (2, .box [.d (.int .i64 M), .d (ints U)])), (208, some (v, .mat true (mcells (bdUs T M U p i))))], g⟩)
    (fun qq => ∃ s, qq = (.exit 0, s) ∧ ∃ v, Has s [(7, .own 208 v)] [(208, some (v, .mat true (mcells (bdUs T M U p Q))))])
    (by show Q < m; omega) (by simp -implicitDefEqProofs (maxSteps := 3000000) [bdUs])
    (by
      rintro i s hi ⟨g, v, rfl⟩
      have w2 := wrap_id (n := (i : Int) + 1) (by omega)
      have hu : (List.replicate Q (0 : Int)).set i 1 = uni Q i := rfl
      have hbd : i + 1 ≤ bound := by simp -implicitDefEqProofs (maxSteps := 3000000) [bound]; omega
      have hlen : (bdUs T M U p i).length = i := by simp -implicitDefEqProofs (maxSteps := 3000000) [bdUs]
      simp -implicitDefEqProofs (maxSteps := 3000000) [hi, c4, hu]
      generalize hx : loopC _ _ _ = y
      generalize hl : lp Tryz.f215 1 = L at hx
      simp only [lp, bodyOf, Tryz.f215, Option.getD_some, loopsIn, List.append_nil, List.nil_append, List.cons_append, List.getD, List.getElem?_cons_zero, List.getElem?_cons_succ] at hl
      subst hl
      obtain ⟨qq, rfl, s, hqq⟩ := loop_end hx P (fun k s => ∃ g a b c, s = ⟨[(2, .d (.int .i64 (p : Int))), (3, .ptr 48 1 0), (4, .ptr 64 2 0), (7, .own 208 v), (8, .d (.int .i64 (Q : Int))), (9, .d (.int .i64 (i : Int))), (10, .ptr 160 a 0), (11, .own 464 c), (12, .d (.int .i64 (k : Int)))], [(48, some (1, .box [.d (intss T)])), (64, some (2, .box [.d (.int .i64 M), .d (ints U)])), (160, some (a, .box [.d (.int .i64 (p : Int)), .own 384 b])), (208, some (v, .mat true (mcells (bdUs T M U p i)))), (384, some (b, .row (icells (uni Q i)))), (464, some (c, .row (icells (tabI (bnd1 T M U (uni Q i) p) k))))], g⟩)
        (fun qq => ∃ s, qq = (.exit 2, s) ∧ ∃ a b c, Has s [(2, .d (.int .i64 (p : Int))), (3, .ptr 48 1 0), (4, .ptr 64 2 0), (7, .own 208 v), (8, .d (.int .i64 (Q : Int))), (9, .d (.int .i64 (i : Int))), (10, .ptr 160 a 0), (11, .own 464 c)] [(48, some (1, .box [.d (intss T)])), (64, some (2, .box [.d (.int .i64 M), .d (ints U)])), (160, some (a, .box [.d (.int .i64 (p : Int)), .own 384 b])), (208, some (v, .mat true (mcells (bdUs T M U p i)))), (384, some (b, .row (icells (uni Q i)))), (464, some (c, .row (icells (tabI (bnd1 T M U (uni Q i) p) P)))), (896, none)])
        (by show P < m; omega) (by simp; exact ⟨_, _, _, _, ⟨rfl, rfl⟩, ⟨⟨rfl, rfl⟩, rfl, rfl⟩, rfl⟩)
        (by
          rintro k s hk ⟨g, a, b, c, rfl⟩
          have w3 := wrap_id (n := (k : Int) + 1) (by omega)
          have hl := cl k hk
          have hsd := cs i k hk
          have hts := tabI_succ (bnd1 T M U (uni Q i) p) k
          have hkb : k + 1 ≤ bound := by simp -implicitDefEqProofs (maxSteps := 3000000) [bound]; omega
          simp -implicitDefEqProofs (maxSteps := 3000000) [hk, w0, c1, hl, hsd, w3, hts, hkb]
          exact ⟨_, _, _, _, ⟨rfl, rfl⟩, ⟨⟨rfl, rfl⟩, rfl, rfl⟩, rfl⟩)
        (by
          rintro s ⟨g, a, b, c, rfl⟩
          simp -implicitDefEqProofs (maxSteps := 3000000) [w0, c1]
          exact ⟨_, _, _, ⟨rfl, rfl⟩, ⟨rfl, rfl⟩, rfl, rfl⟩)
      obtain ⟨rfl, a, b, c, hf⟩ := hqq
      simp only [Has, hasE, hasO] at hf
      have hs2 := hs i
      have hPQ : P + Q ≤ bound := by simp -implicitDefEqProofs (maxSteps := 3000000) [bound]; omega
      have happ : icells (tabI (bnd1 T M U (uni Q i) p) P) ++ icells (uni Q i) = icells (tabI (bnd1 T M U (uni Q i) p) P ++ uni Q i) := by simp -implicitDefEqProofs (maxSteps := 3000000) [icells]
      simp -implicitDefEqProofs (maxSteps := 3000000) [hf, w2, hbd, hlen, hPQ, happ, hs2])
    (by
      rintro s ⟨g, v, rfl⟩
      simp -implicitDefEqProofs (maxSteps := 3000000))
  obtain ⟨rfl, v, hf⟩ := hqq
  simp only [Has, hasE, hasO] at hf
  simp -implicitDefEqProofs (maxSteps := 3000000) [hf]
theorem ct_l04Split (n : Nat) (hn : B + 40 ≤ n) (T : List (List Int)) (R0 : RowsOk T) (e0 : ∀ a < T.length, cl T 0 a = a) (M : Int) (hM : 2 ≤ M ∧ M ≤ 12) (U : List Int) (hU : U.length = T.length) (bU : ∀ i < U.length, 0 ≤ rn U i ∧ rn U i ≤ 11) (p : Nat) (hp : p ≤ 3) :
    ∃ R, (Sat M ((T.length - 1) ^ (p + 1) + (T.length - 1) ^ p) R [] ∧ ∀ u, Sp M (GR R 0) u ↔ Sp M (GL (bdUs T M U p ((T.length - 1) ^ p))) u) ∧
      evalCall Tryz.prog An n 155 [.agg [.d (intss T)], .agg [.d (.int .i64 M), .d (ints U)], .d (.int .i64 p)] [] =
        some ⟨.tuple [.own 0 0, .own 1 0, .own 2 0], [.row (pcells (hdR R ((T.length - 1) ^ (p + 1)) ((T.length - 1) ^ (p + 1) + (T.length - 1) ^ p))), .row (pcells (prt R ((T.length - 1) ^ (p + 1)) ((T.length - 1) ^ (p + 1) + (T.length - 1) ^ p))), .row (pcells R)], []⟩ := by
  obtain ⟨m, rfl⟩ : ∃ m, n = m + 1 := ⟨n - 1, by omega⟩
  have hB := B_eq
  simp only [evalCall_at, fb155, bnd_some, bodyOf, Tryz.f155, Option.getD_some]
  generalize hb0 : Code.loop _ = cc0
  obtain rfl : cc0 = .loop (lp Tryz.f155 0) := by rw [← hb0]; rfl
  clear hb0
  have hT := R0.1
  have c1 := ct_l03Cells4 m (by omega) T hT (p + 1) (by omega)
  have c3 := ct_l03Cells4 m (by omega) T hT p (by omega)
  rw [pow_cast hT.1] at c1 c3
  have hb := pow_bdN (N := T.length) (p := p + 1) hT.2 (by omega)
  have hb2 := pow_bdN (N := T.length) (p := p) hT.2 (by omega)
  have w0 := wrap_id (n := (p : Int) + 1) (by omega)
  rw [show ((p + 1 : Nat) : Int) = (p : Int) + 1 by simp] at c1
  have c4 := ct_l04Sides m (by omega) T R0 e0 M hM U hU bU p hp
  have hv : ∀ i < (bdUs T M U p ((T.length - 1) ^ p)).length, Vec M ((T.length - 1) ^ (p + 1) + (T.length - 1) ^ p) (rown (bdUs T M U p ((T.length - 1) ^ p)) i) := by
    intro i hi
    have hi2 : i < (T.length - 1) ^ p := by simpa [bdUs] using hi
    have := rown_map_range (bdU T M U p) ((T.length - 1) ^ p) i
    unfold bdUs
    rw [this, if_pos hi2]
    exact bdU_vec hM.1 U p i
  obtain ⟨R, S, hR, c5⟩ := ct_l04Reduced m (by omega) M hM ((T.length - 1) ^ (p + 1) + (T.length - 1) ^ p) (by omega) _ (by simp -implicitDefEqProofs (maxSteps := 3000000) [bdUs]; omega) hv
  refine ⟨R, ⟨S, hR⟩, ?_⟩
  have hl := S.rws.len
  have W := S.rws
  clear S hR hv
  generalize bdUs T M U p ((T.length - 1) ^ p) = X at *
  generalize hQ : (T.length - 1) ^ p = Q at *
  generalize hP : (T.length - 1) ^ (p + 1) = P at *
  have wPQ := wrap_id (n := (P : Int) + Q) (by omega)
  rw [show ((P + Q : Nat) : Int) = (P : Int) + Q by simp] at c5
  have r1 := hdR_0 R P
  have r2 := prt_00 R P
  rw [hl, Nat.add_sub_cancel_left] at r2
  have hPi : (P : Int) ≤ 1099511627776 := by omega
  have hQi : (Q : Int) ≤ 1099511627776 := by omega
  simp -implicitDefEqProofs (maxSteps := 3000000) [c1, c3, w0, c4, c5, wPQ, hPi, hQi]
  generalize hx : loopC _ _ _ = z
  generalize hl : lp Tryz.f155 0 = L at hx
  simp only [lp, bodyOf, Tryz.f155, Option.getD_some, loopsIn, List.append_nil, List.nil_append, List.cons_append, List.getD, List.getElem?_cons_zero, List.getElem?_cons_succ] at hl
  subst hl
  obtain ⟨qq, rfl, s, hqq⟩ := loop_end hx (P + Q) (fun j s => ∃ g a b c, s = ⟨[(9, .d (.int .i64 (P : Int))), (10, .d (.int .i64 (Q : Int))), (11, .own 496 a), (12, .own 528 b), (13, .own 560 c), (14, .d (.int .i64 (j : Int)))], [(496, some (a, .row (pcells R))), (528, some (b, .row (pcells (hdR R P j)))), (560, some (c, .row (pcells (prt R P j))))], g⟩)
    (fun qq => ∃ s, qq = (.exit 0, s) ∧ ∃ a b c, Has s [(11, .own 496 a), (12, .own 528 b), (13, .own 560 c)] [(496, some (a, .row (pcells R))), (528, some (b, .row (pcells (hdR R P (P + Q))))), (560, some (c, .row (pcells (prt R P (P + Q)))))])
    (by show P + Q < m; omega) (by simp -implicitDefEqProofs (maxSteps := 3000000) [r1, r2])
    (by
      rintro j s hj ⟨g, a, b, c, rfl⟩
      have w2 := wrap_id (n := (j : Int) + 1) (by omega)
      have hjR : j < R.length := by omega
      have hji : (j : Int) < (P : Int) + Q := by omega
      by_cases hne : rown R j = []
      · have e1 := hdR_same (W := P) (.inl hne)
        have e2 := prt_same (P := P) hne
        simp -implicitDefEqProofs (maxSteps := 3000000) [wPQ, hji, hjR, hne, w2, e1, e2]
      · obtain ⟨hv, hz, _⟩ := W.row j hne
        have hp := pinD_ne hne
        have hlp : 0 < (rown R j).length := by rw [hv.1]; omega
        have hl0 : ((((rown R j).length : Nat) : Int) == 0) = false := by simp; exact hne
        have hPl : P ≤ (rown R j).length := by rw [hv.1]; omega
        by_cases hjP : j < P
        · have e2 := prt_lt (R := R) hjP
          have hs := hdR_set (R := R) hjP
          have hnt : (rown R j).take P ≠ [] := fun z => by
            have := congrArg List.length z
            simp -implicitDefEqProofs (maxSteps := 3000000) [hv.1] at this; omega
          have hs2 := pcells_set (R := hdR R P j) (k := j) hnt
          rw [hs] at hs2
          simp -implicitDefEqProofs (maxSteps := 3000000) [wPQ, hji, hjR, hne, hp, hlp, hl0, hjP, hPl, w2, e2, hs2]
        · have e1 := hdR_same (R := R) (W := P) (j := j) (.inr (by omega))
          have hs := prt_set (R := R) (P := P) (j := j) (by omega) hjR
          have hdn : (rown R j).drop P ≠ [] := fun z => by
            have := congrArg List.length z
            simp -implicitDefEqProofs (maxSteps := 3000000) [hv.1] at this; omega
          have hs2 := pcells_set (R := prt R P j) (k := j - P) hdn
          rw [hs] at hs2
          have e3 : ((j : Int) - P) = ((j - P : Nat) : Int) := by omega
          have w3 := wrap_id (n := ((j - P : Nat) : Int)) (by omega)
          have h4 : j - P < Q := by omega
          have h4' : j - P < R.length - P := by omega
          have ht : ((rown R j).drop P).take ((rown R j).length - P) = (rown R j).drop P := by rw [List.take_of_length_le (by simp -implicitDefEqProofs (maxSteps := 3000000))]
          simp -implicitDefEqProofs (maxSteps := 3000000) [wPQ, hji, hjR, hne, hp, hlp, hl0, hjP, hPl, w2, e1, e3, w3, h4, h4', ht, hs2])
    (by
      rintro s ⟨g, a, b, c, rfl⟩
      simp -implicitDefEqProofs (maxSteps := 3000000) [wPQ])
  obtain ⟨rfl, a, b, c, hf⟩ := hqq
  simp only [Has, hasE, hasO] at hf
  simp -implicitDefEqProofs (maxSteps := 3000000) [hf]
theorem ct_l04Both (n : Nat) (hn : B + 60 ≤ n) (T : List (List Int)) (R0 : RowsOk T) (e0 : ∀ a < T.length, cl T 0 a = a) (M : Int) (hM : 2 ≤ M ∧ M ≤ 12) (U : List Int) (hU : U.length = T.length) (bU : ∀ i < U.length, 0 ≤ rn U i ∧ rn U i ≤ 11) (p : Nat) (hp : p ≤ 3) :
    ∃ Rb Rz, (Sat M ((T.length - 1) ^ p) Rb [] ∧ ∀ u, Sp M (GR Rb 0) u ↔ Bc T M U p u) ∧ (Sat M ((T.length - 1) ^ p) Rz [] ∧ ∀ u, Sp M (GR Rz 0) u ↔ Zc T M U p u) ∧
      evalCall Tryz.prog An n 66 [.agg [.d (intss T)], .agg [.d (.int .i64 M), .d (ints U)], .d (.int .i64 p)] [] = some ⟨.tuple [.own 0 0, .own 1 0], [.row (pcells Rb), .row (pcells Rz)], []⟩ := by
  obtain ⟨m, rfl⟩ : ∃ m, n = m + 1 := ⟨n - 1, by omega⟩
  have hB := B_eq
  simp only [evalCall_at, fb66, bnd_some, bodyOf, Tryz.f66, Option.getD_some]
  have hT := R0.1
  have c3 := ct_l03Cells4 m (by omega) T hT p (by omega)
  rw [pow_cast hT.1] at c3
  have hb2 := pow_bdN (N := T.length) (p := p) hT.2 (by omega)
  have hQi : (((T.length - 1) ^ p : Nat) : Int) ≤ 1099511627776 := by omega
  obtain ⟨R, ⟨S, hR⟩, c1⟩ := ct_l04Split m (by omega) T R0 e0 M hM U hU bU p hp
  have S2 := prt_sat S ((T.length - 1) ^ (p + 1))
  rw [Nat.add_sub_cancel_left] at S2
  have hZ : ∀ u, Sp M (GR (prt R ((T.length - 1) ^ (p + 1)) ((T.length - 1) ^ (p + 1) + (T.length - 1) ^ p)) 0) u ↔ Zc T M U p u := fun u => ((part_sp (by omega) S _ u).trans (hR _)).trans (zc_iff R0 M U p u)
  rcases Nat.eq_zero_or_pos p with h0 | h0
  · subst h0
    refine ⟨_, _, ⟨sat_new M _, fun u => (sp_new M _ u).trans (bc_iff R0 M U 0 u)⟩, ⟨S2, hZ⟩, ?_⟩
    clear hZ S2 S hR
    simp -implicitDefEqProofs (maxSteps := 3000000) at c1 c3
    simp -implicitDefEqProofs (maxSteps := 3000000) [c1, c3, hQi]
  · obtain ⟨p, rfl⟩ : ∃ q, p = q + 1 := ⟨p - 1, by omega⟩
    obtain ⟨R', ⟨S', hR'⟩, c2⟩ := ct_l04Split m (by omega) T R0 e0 M hM U hU bU p (by omega)
    have w1 := wrap_id (n := (p : Int)) (by omega)
    refine ⟨_, _, ⟨hd_sat S' (by omega), hd_bc R0 S' hR'⟩, ⟨S2, hZ⟩, ?_⟩
    clear hZ S2 S hR S' hR'
    rw [show ((p + 1 : Nat) : Int) = (p : Int) + 1 by simp] at c1 c3 ⊢
    generalize (T.length - 1) ^ (p + 1 + 1) = P1 at *
    generalize (T.length - 1) ^ (p + 1) = P0 at *
    generalize (T.length - 1) ^ p = P at *
    have hp0 : (0 : Int) < (p : Int) + 1 := by omega
    simp -implicitDefEqProofs (maxSteps := 3000000) [c1, c2, c3, hQi, w1, hp0]
noncomputable def code4 (T : List (List Int)) (M : Int) (U : List Int) (n : Int) : Int := @ite Int (GM T M U) (Classical.propDecidable _) (if 0 ≤ n ∧ n ≤ 3 then (if (T.length - 1) ^ n.toNat ≤ 49 then 0 else 3) else 2) 1
theorem ct_l04Code (n : Nat) (hn : B + 60 ≤ n) (T : List (List Int)) (hT : T.length ≤ 2000000) (M : Int) (U : List Int) (hU : U.length ≤ 2000000) (N : Int) :
    evalCall Tryz.prog An n 64 [.agg [.d (intss T)], .agg [.d (.int .i64 M), .d (ints U)], .d (.int .i64 N)] [] = some ⟨.d (.int .i64 (code4 T M U N)), [], []⟩ := by
  obtain ⟨m, rfl⟩ : ∃ m, n = m + 1 := ⟨n - 1, by omega⟩
  have hB := B_eq
  simp only [evalCall_at, fb64, bnd_some, bodyOf, Tryz.f64, Option.getD_some]
  have c1 := ct_l01Is m (by omega) T (by omega)
  by_cases G : IsGr T
  · have c2 := ct_l02Is m (by omega) T G.1 M U hU
    rw [bl_true G] at c1
    by_cases G2 : IsMo T M U
    · rw [bl_true G2] at c2
      have e : code4 T M U N = (if 0 ≤ N ∧ N ≤ 3 then (if (T.length - 1) ^ N.toNat ≤ 49 then 0 else 3) else 2) := if_pos ⟨G, G2⟩
      rw [e]
      have c3 := ct_l01In m (by omega) N 0 3
      by_cases h : 0 ≤ N ∧ N ≤ 3
      · obtain ⟨p, rfl⟩ := Int.eq_ofNat_of_zero_le h.1
        have c4 := ct_l03Cells4 m (by omega) T G.1.1 p (by omega)
        rw [pow_cast G.1.1.1] at c4
        rw [decide_eq_true h] at c3
        rw [if_pos h, Int.toNat_natCast]
        generalize (T.length - 1) ^ p = K at *
        by_cases h2 : K ≤ 49
        · have h3 : ¬ ((49 : Int) < K) := by omega
          simp -implicitDefEqProofs (maxSteps := 3000000) [c1, c2, c3, c4, h2, h3]
        · have h3 : (49 : Int) < K := by omega
          simp -implicitDefEqProofs (maxSteps := 3000000) [c1, c2, c3, c4, h2, h3]
      · rw [decide_eq_false h] at c3
        simp -implicitDefEqProofs (maxSteps := 3000000) [c1, c2, c3, h]
    · rw [bl_false G2] at c2
      have e : code4 T M U N = 1 := if_neg (fun z => G2 z.2)
      simp -implicitDefEqProofs (maxSteps := 3000000) [c1, c2, e]
  · rw [bl_false G] at c1
    have e : code4 T M U N = 1 := if_neg (fun z => G z.1)
    simp -implicitDefEqProofs (maxSteps := 3000000) [c1, e]
end Go.Proofs.YtnfhglplafmfiaaGreatE
