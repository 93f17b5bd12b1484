/- Contracts of functions of the program and of the reference: what the evaluator gives for a call of each. -/
import Derived.Test.YtnfhglplafmfiaaGreatAEf
import Derived.Test.YtnfhglplafmfiaaGreatK1M
import Derived.Test.YtnfhglplafmfiaaGreatK3M
import Derived.Test.YtnfhglplafmfiaaGreatK4
import Derived.Test.YtnfhglplafmfiaaGreatK6M
import Derived.Test.YtnfhglplafmfiaaGreatK11M
import Derived.Test.YtnfhglplafmfiaaGreatK13
import Derived.Test.YtnfhglplafmfiaaGreatK14
import Derived.Test.YtnfhglplafmfiaaGreatK17
import Derived.Test.YtnfhglplafmfiaaGreatK18
import Derived.Test.YtnfhglplafmfiaaGreatK31
import Derived.Test.YtnfhglplafmfiaaGreatK90M
import Derived.Test.YtnfhglplafmfiaaGreatK98M
import Derived.Test.YtnfhglplafmfiaaGreatK103
import Derived.Test.YtnfhglplafmfiaaGreatK105M
import Derived.Test.YtnfhglplafmfiaaGreatK107M
import Derived.Test.YtnfhglplafmfiaaGreatK108
import Derived.Test.YtnfhglplafmfiaaGreatK110
import Derived.Test.YtnfhglplafmfiaaGreatK111
namespace Go.Proofs.YtnfhglplafmfiaaGreatE
open Go Go.Proofs
set_option maxHeartbeats 16000000
set_option maxRecDepth 8000
set_option linter.unusedSimpArgs false
set_option linter.unusedVariables false
set_option pp.deepTerms false
set_option pp.deepTerms.threshold 10
/-! ## ImageOrders: the reference -/
theorem imgs_vec {M : Int} {N : Nat} {h : List Int → List Int} {R : List (List Int)} {k : Nat} (hv : ∀ j, rown R j ≠ [] → Vec M N (h (rown R j))) : ∀ i < (imgs h R k).length, Vec M N (rown (imgs h R k) i) := by
  intro i hi
  have : rown (imgs h R k) i ∈ imgs h R k := by
    simp only [rown, List.getD_eq_getElem?_getD, List.getElem?_eq_getElem hi, Option.getD_some]
    exact List.getElem_mem hi
  obtain ⟨j, _, hne, e⟩ := mem_imgs.1 this
  rw [e]; exact hv j hne
theorem ct_specImg_bad (n : Nat) (hn : B + 100 ≤ n) (T : List (List Int)) (hT : T.length ≤ 2000000) (M : Int) (U : List Int) (hU : U.length ≤ 2000000) (k N : Int) (hN : -9223372036854775808 ≤ N ∧ N < 9223372036854775808) (h : ¬ IGood T M U k N) :
    evalCall Tryz.prog An n 9 [.agg [.d (intss T)], .agg [.d (.int .i64 M), .d (ints U)], .d (.int .i64 k), .d (.int .i64 N)] [] = some ⟨.tuple [.d .nil, .d (.int .i64 (imcode T M U k N))], [], []⟩ := by
  obtain ⟨m, rfl⟩ : ∃ m, n = m + 1 := ⟨n - 1, by omega⟩
  have hB := B_eq
  simp only [evalCall_at, fb9, bnd_some, bodyOf, Tryz.f9, Option.getD_some]
  generalize hb0 : Code.loop _ = cc0
  obtain rfl : cc0 = .loop (lp Tryz.f9 0) := by rw [← hb0]; rfl
  clear hb0
  by_cases G : GM T M U
  · have c1 := ct_l08Code m (by omega) T hT M U hU k G
    have e : icode T M U k = dcode M k := if_pos G
    rw [← e] at c1
    by_cases h1 : icode T M U k = 0
    · rw [h1] at c1
      have c2 := ct_l01In m (by omega) N 0 2
      by_cases h2 : 0 ≤ N ∧ N ≤ 2
      · rw [decide_eq_true h2] at c2
        have c3 := ct_l04Code m (by omega) T hT M U hU N
        have c4 := ct_l04Code m (by omega) T hT M U hU (N + 1)
        have e3 : code4 T M U N = (if 0 ≤ N ∧ N ≤ 3 then (if (T.length - 1) ^ N.toNat ≤ 49 then 0 else 3) else 2) := if_pos G
        have e4 : code4 T M U (N + 1) = (if 0 ≤ N + 1 ∧ N + 1 ≤ 3 then (if (T.length - 1) ^ (N + 1).toNat ≤ 49 then 0 else 3) else 2) := if_pos G
        rw [e3, if_pos (by omega)] at c3
        rw [e4, if_pos (by omega)] at c4
        have w := wrap_id (n := N + 1) (by omega)
        have hi : imcode T M U k N = 3 := by simp -implicitDefEqProofs (maxSteps := 3000000) [imcode, h1, h2]
        rw [hi]
        rw [show (N + 1).toNat = N.toNat + 1 by omega] at c4
        have h5 : ¬ ((T.length - 1) ^ N.toNat ≤ 49 ∧ (T.length - 1) ^ (N.toNat + 1) ≤ 49) := fun z => h ⟨h1, h2, z⟩
        generalize (T.length - 1) ^ N.toNat = X at *
        generalize (T.length - 1) ^ (N.toNat + 1) = Y at *
        by_cases h7 : X ≤ 49
        · have h8 : ¬ Y ≤ 49 := fun z => h5 ⟨h7, z⟩
          rw [if_pos h7] at c3
          rw [if_neg h8] at c4
          simp -implicitDefEqProofs (maxSteps := 3000000) [c1, c2, c3, c4, w]
        · rw [if_neg h7] at c3
          simp -implicitDefEqProofs (maxSteps := 3000000) [c1, c2, c3, w]
      · rw [decide_eq_false h2] at c2
        have hi : imcode T M U k N = 2 := by simp -implicitDefEqProofs (maxSteps := 3000000) [imcode, h1, h2]
        rw [hi]
        simp -implicitDefEqProofs (maxSteps := 3000000) [c1, c2]
    · have hi : imcode T M U k N = icode T M U k := by simp -implicitDefEqProofs (maxSteps := 3000000) [imcode, h1]
      have h3 := bne_t h1
      have h4 : (icode T M U k == 0) = false := by simpa using h1
      rw [hi]
      simp -implicitDefEqProofs (maxSteps := 3000000) [c1, h1, h3, h4]
  · have c1 := ct_l08Code_1 m (by omega) T hT M U hU k G
    have e : icode T M U k = 1 := if_neg G
    have hi : imcode T M U k N = 1 := by simp -implicitDefEqProofs (maxSteps := 3000000) [imcode, e]
    rw [hi]
    simp -implicitDefEqProofs (maxSteps := 3000000) [c1]
theorem ct_specImg (n : Nat) (hn : B + 100 ≤ n) (T : List (List Int)) (hT : T.length ≤ 2000000) (M : Int) (U : List Int) (hU : U.length ≤ 2000000) (k : Int) (p : Nat) (h : IGood T M U k p) :
    ∃ x y z, IsSz M ((T.length - 1) ^ p) (ImE T M k (M / k) U p) (Bc T M U p) x ∧ IsSz (M / k) ((T.length - 1) ^ p) (ImR T M (M / k) U p) (Bc T (M / k) U p) y ∧ IsSz k ((T.length - 1) ^ (p + 1)) (ImC T k (M / k) U p) (Bc T k U (p + 1)) z ∧
    evalCall Tryz.prog An n 9 [.agg [.d (intss T)], .agg [.d (.int .i64 M), .d (ints U)], .d (.int .i64 k), .d (.int .i64 p)] [] = some ⟨.tuple [.own 0 0, .d (.int .i64 0)], [.row (icells [x, y, z])], []⟩ := by
  obtain ⟨m, rfl⟩ : ∃ m, n = m + 1 := ⟨n - 1, by omega⟩
  have hB := B_eq
  simp only [evalCall_at, fb9, bnd_some, bodyOf, Tryz.f9, Option.getD_some]
  generalize hb0 : Code.loop _ = cc0
  obtain rfl : cc0 = .loop (lp Tryz.f9 0) := by rw [← hb0]; rfl
  clear hb0
  obtain ⟨h1, h2, h3, h3'⟩ := h
  obtain ⟨G, hk⟩ := icode_0.1 h1
  have hM := G.2.1.1
  have hlU := G.2.1.2
  obtain ⟨d1, d2, d3⟩ := div_ok hM.1 hk
  have R0 := G.1.1
  have e0 := isGr_e0 G.1
  simp only [Int.toNat_natCast] at h3 h3'
  have hp : p ≤ 2 := by omega
  have c1 := ct_l08Code m (by omega) T hT M U hU k G
  rw [dcode_0 hk] at c1
  have c2 := ct_l01In m (by omega) p 0 2
  rw [decide_eq_true (show (0 : Int) ≤ p ∧ (p : Int) ≤ 2 by omega)] at c2
  have c3 := ct_l04Code m (by omega) T hT M U hU p
  have c3' := ct_l04Code m (by omega) T hT M U hU ((p : Int) + 1)
  have e3 : code4 T M U p = (if 0 ≤ (p : Int) ∧ (p : Int) ≤ 3 then (if (T.length - 1) ^ (p : Int).toNat ≤ 49 then 0 else 3) else 2) := if_pos G
  have e4 : code4 T M U ((p : Int) + 1) = (if 0 ≤ (p : Int) + 1 ∧ (p : Int) + 1 ≤ 3 then (if (T.length - 1) ^ ((p : Int) + 1).toNat ≤ 49 then 0 else 3) else 2) := if_pos G
  rw [e3, if_pos (by omega), Int.toNat_natCast, if_pos h3] at c3
  rw [e4, if_pos (by omega), show ((p : Int) + 1).toNat = p + 1 by omega, if_pos h3'] at c3'
  have w := wrap_id (n := (p : Int) + 1) (by omega)
  have wq := wrap_id (n := M / k) (by omega)
  have kz : k ≠ 0 := by omega
  have hU0 : ∀ i < U.length, 0 ≤ rn U i := fun i hi => by have := (G.2.2.1 i hi).1; omega
  have bU : ∀ i < U.length, 0 ≤ rn U i ∧ rn U i ≤ 11 := fun i hi => by have := (G.2.2.1 i hi).1; omega
  have c4 := ct_l02Reduced m (by omega) M U (by omega) hU0 k (by omega)
  have c5 := ct_l02Reduced m (by omega) M U (by omega) hU0 (M / k) (by omega)
  have hMk : M = M / k * k := by rw [Int.mul_comm]; exact (Int.mul_ediv_cancel' (Int.dvd_of_emod_eq_zero d1.2.2)).symm
  have lr : ∀ x, (restU U x).length = T.length := fun x => by simp -implicitDefEqProofs (maxSteps := 3000000) [restU, hlU]
  have br : ∀ x, 0 < x → x ≤ 12 → ∀ i < (restU U x).length, 0 ≤ rn (restU U x) i ∧ rn (restU U x) i ≤ 11 := fun x hx hx2 i _ => by
    rw [rn_restU]
    have := Int.emod_nonneg (rn U i) (show x ≠ 0 by omega)
    have := Int.emod_lt_of_pos (rn U i) hx
    omega
  have hb := pow_bdN (N := T.length) (p := p) R0.1.2 (by omega)
  have hb2 := pow_bdN (N := T.length) (p := p + 1) R0.1.2 (by omega)
  obtain ⟨B1, Z1, ⟨s1, b1⟩, ⟨t1, z1⟩, i1⟩ := ct_l04Both m (by omega) T R0 e0 k (by omega) (restU U k) (lr k) (br k (by omega) (by omega)) p (by omega)
  obtain ⟨B2, Z2, ⟨s2, b2⟩, ⟨t2, z2⟩, i2⟩ := ct_l04Both m (by omega) T R0 e0 M hM U hlU bU p (by omega)
  obtain ⟨B3, Z3, ⟨s3, b3⟩, ⟨t3, z3⟩, i3⟩ := ct_l04Both m (by omega) T R0 e0 (M / k) (by omega) (restU U (M / k)) (lr _) (br _ (by omega) (by omega)) p (by omega)
  obtain ⟨B4, Z4, ⟨s4, b4⟩, ⟨t4, z4⟩, i4⟩ := ct_l04Both m (by omega) T R0 e0 k (by omega) (restU U k) (lr k) (br k (by omega) (by omega)) (p + 1) (by omega)
  rw [show ((p + 1 : Nat) : Int) = (p : Int) + 1 by simp] at i4
  have v1 : ∀ j, rown Z1 j ≠ [] → Vec M ((T.length - 1) ^ p) (timesU (rown Z1 j) (M / k)) := fun j hj => vec_times hMk (by omega) (t1.rws.row j hj).1
  have v2 : ∀ j, rown Z2 j ≠ [] → Vec (M / k) ((T.length - 1) ^ p) (restU (rown Z2 j) (M / k)) := fun j hj => vec_rest (by omega) (t2.rws.row j hj).1.1
  have v3 : ∀ j, rown Z3 j ≠ [] → Vec k ((T.length - 1) ^ (p + 1)) (conL T M U (rown Z3 j) p (M / k)) := fun j hj => vec_con hMk (by omega) (by omega) U _ p
  have il : ∀ (h : List Int → List Int) (R : List (List Int)) (i : Nat), (imgs h R i).length ≤ i := fun h R i => imgs_le i
  obtain ⟨A1, ⟨q1, a1⟩, j1⟩ := ct_l08Image m (by omega) M hM ((T.length - 1) ^ p) (by omega) B2 s2 (imgs (fun r => timesU r (M / k)) Z1 ((T.length - 1) ^ p)) (by have := il (fun r => timesU r (M / k)) Z1 ((T.length - 1) ^ p); omega) (imgs_vec v1)
  obtain ⟨A2, ⟨q2, a2⟩, j2⟩ := ct_l08Image m (by omega) (M / k) (by omega) ((T.length - 1) ^ p) (by omega) B3 s3 (imgs (fun r => restU r (M / k)) Z2 ((T.length - 1) ^ p)) (by have := il (fun r => restU r (M / k)) Z2 ((T.length - 1) ^ p); omega) (imgs_vec v2)
  obtain ⟨A3, ⟨q3, a3⟩, j3⟩ := ct_l08Image m (by omega) k (by omega) ((T.length - 1) ^ (p + 1)) (by omega) B4 s4 (imgs (fun r => conL T M U r p (M / k)) Z3 ((T.length - 1) ^ p)) (by have := il (fun r => conL T M U r p (M / k)) Z3 ((T.length - 1) ^ p); omega) (imgs_vec v3)
  have l1 := t1.rws.len
  have l2 := t2.rws.len
  have l3 := t3.rws.len
  have y1 : ∀ u, Sp M (GR A1 0) u ↔ ImE T M k (M / k) U p u := fun u => (a1 u).trans (im_emb R0 hMk (by omega) (by omega) (by rw [l1]; exact Nat.le_refl _) (fun u => (imgs_id (by rw [s2.rws.len]; exact Nat.le_refl _) u).trans (b2 u)) (fun u => (z1 u).trans zc_U) u)
  have y2 : ∀ u, Sp (M / k) (GR A2 0) u ↔ ImR T M (M / k) U p u := fun u => (a2 u).trans (im_red R0 hMk (by omega) (by omega) (by rw [l2]; exact Nat.le_refl _) (fun u => (imgs_id (by rw [s3.rws.len]; exact Nat.le_refl _) u).trans ((b3 u).trans bc_U)) z2 u)
  have y3 : ∀ u, Sp k (GR A3 0) u ↔ ImC T k (M / k) U p u := fun u => (a3 u).trans (im_con R0 hMk (by omega) (by omega) (by rw [l3]; exact Nat.le_refl _) (fun u => (imgs_id (by rw [s4.rws.len]; exact Nat.le_refl _) u).trans ((b4 u).trans bc_U)) (fun u => (z3 u).trans zc_U) u)
  refine ⟨_, _, _, ⟨A1, B2, ⟨q1, y1⟩, ⟨s2, b2⟩, rfl⟩, ⟨A2, B3, ⟨q2, y2⟩, ⟨s3, fun u => (b3 u).trans bc_U⟩, rfl⟩, ⟨A3, B4, ⟨q3, y3⟩, ⟨s4, fun u => (b4 u).trans bc_U⟩, rfl⟩, ?_⟩
  generalize IntKind.wrap .i64 (quoP (sval M A1) (sval M B2) ((T.length - 1) ^ p)) = x at *
  generalize IntKind.wrap .i64 (quoP (sval (M / k) A2) (sval (M / k) B3) ((T.length - 1) ^ p)) = y at *
  generalize IntKind.wrap .i64 (quoP (sval k A3) (sval k B4) ((T.length - 1) ^ (p + 1))) = zz at *
  have f1 : ∀ i, rown Z1 i ≠ [] → (rown Z1 i).length = (T.length - 1) ^ p ∧ ∀ j < (rown Z1 i).length, -9223372036854775808 ≤ M / k * rn (rown Z1 i) j ∧ M / k * rn (rown Z1 i) j < 9223372036854775808 := fun i hi => by
    have hv := (t1.rws.row i hi).1
    refine ⟨hv.1, fun j _ => ?_⟩
    obtain ⟨a1, a2⟩ := hv.2 j
    have := mul_bd (a := M / k) (b := rn (rown Z1 i) j) (x := 12) (y := 12) (by omega) (by omega) a1 (by omega)
    omega
  have f2 : ∀ i, rown Z2 i ≠ [] → (rown Z2 i).length = (T.length - 1) ^ p ∧ ∀ j < (rown Z2 i).length, 0 ≤ rn (rown Z2 i) j := fun i hi => ⟨(t2.rws.row i hi).1.1, fun j _ => ((t2.rws.row i hi).1.2 j).1⟩
  have f3 : ∀ i, rown Z3 i ≠ [] → (rown Z3 i).length = (T.length - 1) ^ p ∧ CoOk T U (rown Z3 i) p := fun i hi => ⟨(t3.rws.row i hi).1.1, co_vec R0 e0 hlU bU (by omega) (by omega) (t3.rws.row i hi).1⟩
  clear z1 z2 z3 z4 b1 b2 b3 b4 a1 a2 a3 y1 y2 y3 s1 s2 s3 s4 q1 q2 q3 t1 t2 t3 t4 v1 v2 v3
  have is1 := imgs_succ (fun r => timesU r (M / k)) Z1
  have is2 := imgs_succ (fun r => restU r (M / k)) Z2
  have is3 := imgs_succ (fun r => conL T M U r p (M / k)) Z3
  have h49 : (T.length - 1) ^ p ≤ 49 := h3
  generalize (T.length - 1) ^ (p + 1) = P1 at *
  generalize (T.length - 1) ^ p = P at *
  simp -implicitDefEqProofs (maxSteps := 3000000) [c1, c2, c3, c3', c4, c5, w, wq, d2, kz, i1, i2, i3, i4]
  generalize hx : loopC _ _ _ = z
  generalize hl : lp Tryz.f9 0 = L at hx
  simp only [lp, bodyOf, Tryz.f9, Option.getD_some, loopsIn, List.append_nil, List.nil_append, List.cons_append, List.getD, List.getElem?_cons_zero, List.getElem?_cons_succ] at hl
  subst hl
  obtain ⟨qq, rfl, s, hqq⟩ := loop_end hx P (fun i s => ∃ g v1 v2 v3, s = ⟨[(2, .d (.int .i64 k)), (3, .d (.int .i64 (p : Int))), (4, .ptr 64 1 0), (5, .ptr 80 2 0), (11, .d (.int .i64 (M / k))), (15, .d (.sl 1 (rcells Z1))), (16, .d (.sl 1 (rcells B2))), (17, .d (.sl 1 (rcells Z2))), (18, .d (.sl 1 (rcells B3))), (19, .d (.sl 1 (rcells Z3))), (20, .d (.sl 1 (rcells B4))), (22, .own 1472 v1), (23, .own 1488 v2), (24, .own 1504 v3), (25, .d (.int .i64 (i : Int)))],
      [(64, some (1, .box [.d (intss T)])), (80, some (2, .box [.d (.int .i64 M), .d (ints U)])), (1472, some (v1, .mat true (mcells (imgs (fun r => timesU r (M / k)) Z1 i)))), (1488, some (v2, .mat true (mcells (imgs (fun r => restU r (M / k)) Z2 i)))), (1504, some (v3, .mat true (mcells (imgs (fun r => conL T M U r p (M / k)) Z3 i))))], g⟩)
    (fun qq => ∃ s, qq = (.exit 0, s) ∧ ∃ v1 v2 v3, Has s [(2, .d (.int .i64 k)), (5, .ptr 80 2 0), (11, .d (.int .i64 (M / k))), (16, .d (.sl 1 (rcells B2))), (18, .d (.sl 1 (rcells B3))), (20, .d (.sl 1 (rcells B4))), (22, .own 1472 v1), (23, .own 1488 v2), (24, .own 1504 v3)]
      [(80, some (2, .box [.d (.int .i64 M), .d (ints U)])), (1472, some (v1, .mat true (mcells (imgs (fun r => timesU r (M / k)) Z1 P)))), (1488, some (v2, .mat true (mcells (imgs (fun r => restU r (M / k)) Z2 P)))), (1504, some (v3, .mat true (mcells (imgs (fun r => conL T M U r p (M / k)) Z3 P))))])
    (by show P < m; omega) (by simp -implicitDefEqProofs (maxSteps := 3000000) [imgs])
    (by
      rintro i s hi ⟨g, v1, v2, v3, rfl⟩
      have w2 := wrap_id (n := (i : Int) + 1) (by omega)
      have hi1 : i < Z1.length := by omega
      have hi2 : i < Z2.length := by omega
      have hi3 : i < Z3.length := by omega
      have g1 := is1 i
      have g2 := is2 i
      have g3 := is3 i
      have lb1 : (imgs (fun r => timesU r (M / k)) Z1 i).length + 1 ≤ bound := by have := il (fun r => timesU r (M / k)) Z1 i; simp -implicitDefEqProofs (maxSteps := 3000000) [bound]; omega
      have lb2 : (imgs (fun r => restU r (M / k)) Z2 i).length + 1 ≤ bound := by have := il (fun r => restU r (M / k)) Z2 i; simp -implicitDefEqProofs (maxSteps := 3000000) [bound]; omega
      have lb3 : (imgs (fun r => conL T M U r p (M / k)) Z3 i).length + 1 ≤ bound := by have := il (fun r => conL T M U r p (M / k)) Z3 i; simp -implicitDefEqProofs (maxSteps := 3000000) [bound]; omega
      have done1 : rown Z1 i = [] ∨ (rown Z1 i ≠ [] ∧ 0 < (rown Z1 i).length ∧ rinD (rown Z1 i) = ints (rown Z1 i) ∧ evalCall Tryz.prog An m 67 [.agg [.d (.int .i64 0), .d (ints (rown Z1 i))], .d (.int .i64 (M / k))] [] = some ⟨.agg [.d (.int .i64 0), .own 0 0], [.row (icells (timesU (rown Z1 i) (M / k)))], []⟩) := by
        by_cases hne : rown Z1 i = []
        · exact .inl hne
        · obtain ⟨f4, f5⟩ := f1 i hne
          exact .inr ⟨hne, by omega, rinD_ne hne, ct_l08Times m (by omega) 0 _ (by omega) (M / k) f5⟩
      have done2 : rown Z2 i = [] ∨ (rown Z2 i ≠ [] ∧ 0 < (rown Z2 i).length ∧ rinD (rown Z2 i) = ints (rown Z2 i) ∧ evalCall Tryz.prog An m 68 [.agg [.d (.int .i64 0), .d (ints (rown Z2 i))], .d (.int .i64 (M / k))] [] = some ⟨.agg [.d (.int .i64 0), .own 0 0], [.row (icells (restU (rown Z2 i) (M / k)))], []⟩) := by
        by_cases hne : rown Z2 i = []
        · exact .inl hne
        · obtain ⟨f4, f5⟩ := f2 i hne
          exact .inr ⟨hne, by omega, rinD_ne hne, ct_l08Rests m (by omega) 0 _ (by omega) f5 (M / k) (by omega)⟩
      have done3 : rown Z3 i = [] ∨ (rown Z3 i ≠ [] ∧ 0 < (rown Z3 i).length ∧ rinD (rown Z3 i) = ints (rown Z3 i) ∧ evalCall Tryz.prog An m 69 [.agg [.d (intss T)], .agg [.d (.int .i64 M), .d (ints U)], .d (.int .i64 k), .agg [.d (.int .i64 p), .d (ints (rown Z3 i))]] [] = some ⟨.agg [.d (.int .i64 ((p : Int) + 1)), .own 0 0], [.row (icells (conL T M U (rown Z3 i) p (M / k)))], []⟩) := by
        by_cases hne : rown Z3 i = []
        · exact .inl hne
        · obtain ⟨f4, f5⟩ := f3 i hne
          exact .inr ⟨hne, by omega, rinD_ne hne, ct_l08Connect m (by omega) T M hM U _ k hk p f5⟩
      clear f1 f2 f3 is1 is2 is3
      generalize imgs (fun r => timesU r (M / k)) Z1 i = I1 at *
      generalize imgs (fun r => restU r (M / k)) Z2 i = I2 at *
      generalize imgs (fun r => conL T M U r p (M / k)) Z3 i = I3 at *
      rcases done1 with e1 | ⟨e1, e1b, e1c, e1d⟩ <;> rcases done2 with e2 | ⟨e2, e2b, e2c, e2d⟩ <;> rcases done3 with e3 | ⟨e3, e3b, e3c, e3d⟩
      · rw [if_pos e1] at g1
        rw [if_pos e2] at g2
        rw [if_pos e3] at g3
        simp -implicitDefEqProofs (maxSteps := 3000000) [l1, l2, l3, hi, hi1, hi2, hi3, w2, e1, e2, e3, g1, g2, g3]
      · rw [if_pos e1] at g1
        rw [if_pos e2] at g2
        rw [if_neg e3] at g3
        simp -implicitDefEqProofs (maxSteps := 3000000) [l1, l2, l3, hi, hi1, hi2, hi3, w2, e1, e2, e3b, e3c, e3d, g1, g2, g3, lb3]
      · rw [if_pos e1] at g1
        rw [if_neg e2] at g2
        rw [if_pos e3] at g3
        simp -implicitDefEqProofs (maxSteps := 3000000) [l1, l2, l3, hi, hi1, hi2, hi3, w2, e1, e2b, e2c, e2d, e3, g1, g2, g3, lb2]
      · rw [if_pos e1] at g1
        rw [if_neg e2] at g2
        rw [if_neg e3] at g3
        simp -implicitDefEqProofs (maxSteps := 3000000) [l1, l2, l3, hi, hi1, hi2, hi3, w2, e1, e2b, e2c, e2d, e3b, e3c, e3d, g1, g2, g3, lb2, lb3]
      · rw [if_neg e1] at g1
        rw [if_pos e2] at g2
        rw [if_pos e3] at g3
        simp -implicitDefEqProofs (maxSteps := 3000000) [l1, l2, l3, hi, hi1, hi2, hi3, w2, e1b, e1c, e1d, e2, e3, g1, g2, g3, lb1]
      · rw [if_neg e1] at g1
        rw [if_pos e2] at g2
        rw [if_neg e3] at g3
        simp -implicitDefEqProofs (maxSteps := 3000000) [l1, l2, l3, hi, hi1, hi2, hi3, w2, e1b, e1c, e1d, e2, e3b, e3c, e3d, g1, g2, g3, lb1, lb3]
      · rw [if_neg e1] at g1
        rw [if_neg e2] at g2
        rw [if_pos e3] at g3
        simp -implicitDefEqProofs (maxSteps := 3000000) [l1, l2, l3, hi, hi1, hi2, hi3, w2, e1b, e1c, e1d, e2b, e2c, e2d, e3, g1, g2, g3, lb1, lb2]
      · rw [if_neg e1] at g1
        rw [if_neg e2] at g2
        rw [if_neg e3] at g3
        simp -implicitDefEqProofs (maxSteps := 3000000) [l1, l2, l3, hi, hi1, hi2, hi3, w2, e1b, e1c, e1d, e2b, e2c, e2d, e3b, e3c, e3d, g1, g2, g3, lb1, lb2, lb3])
    (by
      rintro s ⟨g, v1, v2, v3, rfl⟩
      simp -implicitDefEqProofs (maxSteps := 3000000) [l1])
  obtain ⟨rfl, v1, v2, v3, hf⟩ := hqq
  simp only [Has, hasE, hasO] at hf
  simp -implicitDefEqProofs (maxSteps := 3000000) [hf, j1, j2, j3]
  rfl
end Go.Proofs.YtnfhglplafmfiaaGreatE
