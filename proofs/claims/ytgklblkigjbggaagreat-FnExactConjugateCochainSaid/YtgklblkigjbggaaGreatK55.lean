/- Contracts of functions of the program and of the reference: what the evaluator gives for a call of each. -/
import Derived.Test.YtgklblkigjbggaaGreatAEf
import Derived.Test.YtgklblkigjbggaaGreatK0
import Derived.Test.YtgklblkigjbggaaGreatK3
import Derived.Test.YtgklblkigjbggaaGreatK4
import Derived.Test.YtgklblkigjbggaaGreatK5
import Derived.Test.YtgklblkigjbggaaGreatK6
import Derived.Test.YtgklblkigjbggaaGreatK8
import Derived.Test.YtgklblkigjbggaaGreatK15
import Derived.Test.YtgklblkigjbggaaGreatK16
import Derived.Test.YtgklblkigjbggaaGreatK17
import Derived.Test.YtgklblkigjbggaaGreatK26
import Derived.Test.YtgklblkigjbggaaGreatK31
import Derived.Test.YtgklblkigjbggaaGreatK33
import Derived.Test.YtgklblkigjbggaaGreatK34
import Derived.Test.YtgklblkigjbggaaGreatK36
import Derived.Test.YtgklblkigjbggaaGreatK37
import Derived.Test.YtgklblkigjbggaaGreatK38
import Derived.Test.YtgklblkigjbggaaGreatK40
import Derived.Test.YtgklblkigjbggaaGreatK42
import Derived.Test.YtgklblkigjbggaaGreatK44
import Derived.Test.YtgklblkigjbggaaGreatK45
import Derived.Test.YtgklblkigjbggaaGreatK46
import Derived.Test.YtgklblkigjbggaaGreatK51
import Derived.Test.YtgklblkigjbggaaGreatK52
import Derived.Test.YtgklblkigjbggaaGreatK54
namespace Go.Proofs.YtgklblkigjbggaaGreatE
open Go Go.Proofs
set_option maxHeartbeats 4000000
set_option maxRecDepth 4000
set_option linter.unusedSimpArgs false
set_option linter.unusedVariables false
set_option pp.deepTerms false
set_option pp.deepTerms.threshold 10
/-! ## ConjugateCochain: the reference and the program -/
theorem cc_units {T : List (List Int)} {M : Int} {U l : List Int} (h : WGood T M U l) : U.length = T.length := h.1.2.1.2
theorem ct_specCC (n : Nat) (hn : B + 6 + 8 ≤ n) (T : List (List Int)) (hT : T.length ≤ 2000000) (M : Int) (U : List Int) (hU : U.length ≤ 2000000) (l : List Int) (hl : l.length ≤ 10000000) (D : Int) (V : List Int) (hV : V.length ≤ 10000000) (c : Int) (h : CCGood T M U l D V c) :
    evalCall Tryz.prog An n 34 [.agg [.d (intss T)], .agg [.d (.int .i64 M), .d (ints U)], .d (ints l), .agg [.d (.int .i64 D), .d (ints V)], .d (.int .i64 c)] [] = some ⟨.tuple [.agg [.d (.int .i64 D), .own 0 0], .d (.int .i64 0)], [.row (icells (ccW T M U V l c.toNat D.toNat))], []⟩ := by
  obtain ⟨m, rfl⟩ : ∃ m, n = m + 1 := ⟨n - 1, by omega⟩
  have hB := B_eq
  simp only [evalCall_at, fb34, bnd_some, bodyOf, Tryz.f34, Option.getD_some]
  generalize hb0 : Code.loop _ = cc0
  obtain rfl : cc0 = .loop (lp Tryz.f34 0) := by rw [← hb0]; rfl
  clear hb0
  have W := h.1.1
  have G := W.1.1
  have H := W.2
  have hM := W.1.2.1.1
  obtain ⟨p, rfl⟩ := Int.eq_ofNat_of_zero_le h.2.1.1
  obtain ⟨c, rfl⟩ := Int.eq_ofNat_of_zero_le h.1.2.1
  have hc : c < T.length := by have := h.1.2.2; omega
  rw [Int.toNat_natCast, Int.toNat_natCast]
  have S := pulOk_cj h
  have hp := S.hp
  have hQ := S.hQ
  have hT8 := G.1.1
  have c1 := ct_l01Is m (by omega) T (by omega)
  have c2 := ct_l02Is m (by omega) T G.1 M U hU
  rw [bl_true G] at c1
  rw [bl_true W.1.2] at c2
  have c3 := ct_l01Set m (by omega) T (by omega) l hl
  have c4 := ct_l01Elements m (by omega) T (by omega) [(c : Int)] (by simp -implicitDefEqProofs (maxSteps := 3000000))
  rw [show ints [(c : Int)] = .sl 1 [.int .i64 c] from rfl] at c4
  have e1 : setcode T l = 0 := by rw [setcode, if_pos G, if_pos H.2.1]
  have e2 : elcode T [(c : Int)] = 0 := by rw [elcode, if_pos G, if_pos (all1.2 h.1.2)]
  rw [e1] at c3
  rw [e2] at c4
  have c5 := ct_l07Code m (by omega) T (by omega) l hl
  rw [subcode_0 H] at c5
  have c6 := ct_l07Group m (by omega) T l H
  have c7 := ct_l07Module m (by omega) M U T.length W.1.2.1.2 l (by omega) H.2.1.1
  have c8 := ct_l03Is m (by omega) (sbG T l) (by rw [sbG_len]; exact hQ) M hM (sbU U l) p V hV
  rw [bl_true h.2] at c8
  have c9 := ct_l07Conjugate m (by omega) T G l hl H.2.1.1 c hc
  have c10 := ct_l01Inverse m (by omega) T G c hc
  have pb := pow_bd hQ (show p ≤ 4 by omega)
  have hcU : c < U.length := by rw [W.1.2.1.2]; exact hc
  have hv := S.hV
  rw [pow_cast hQ.1] at hv
  have hv' : V.length = (l.length - 1) ^ p := by omega
  simp -implicitDefEqProofs (maxSteps := 3000000) [c1, c2, c3, c4, c5, c6, c7, c8, c9, c10]
  have cl : ∀ i < (l.length - 1) ^ p, _ := fun i hi => ct_l03List m (by omega) (sbG T l) (by rw [sbG_len]; exact hQ) p i (by omega) (by rw [sbG_len]; exact hi) (by omega)
  rw [sbG_len] at cl
  have ca : ∀ i < (l.length - 1) ^ p, _ := fun i hi => ct_l03At m (by omega) (sbG T l) (by rw [sbG_len]; exact hQ) p V (imL (cbI T l c) (digs (l.length - 1) p i)) (by simp; omega) (by rw [sbG_len]; simpa using S.hV) (by rw [sbG_len]; exact S.inG hi)
  rw [sbG_len] at ca
  have dg : ∀ i < (l.length - 1) ^ p, _ := fun i hi => S.dg hi
  have bd := fun i => ccM_bd h i
  have cm := fun i => ct_l01Mod m (by omega) (rn U c * pulV l.length l.length V (cbI T l c) p i) M (by omega) (by have := bd i; omega)
  unfold ccW
  simp only [← show ∀ i, pulV l.length l.length V (cbI T l c) p i = atv l.length V (imL (cbI T l c) (digs (l.length - 1) p i)) from fun i => rfl] at ca
  simp only [← show ∀ i, ccV T M U V l c p i = (rn U c * pulV l.length l.length V (cbI T l c) p i) % M from fun i => rfl] at cm
  generalize hK : (l.length - 1) ^ p = K at *
  generalize hx : loopC _ _ _ = x
  generalize hl : lp Tryz.f34 0 = L at hx
  simp only [lp, bodyOf, Tryz.f34, Option.getD_some, loopsIn, List.append_nil, List.nil_append, List.cons_append, List.getD, List.getElem?_cons_zero, List.getElem?_cons_succ] at hl
  subst hl
  generalize hb1 : Code.loop _ = cc1 at hx
  obtain rfl : cc1 = .loop (lp Tryz.f34 1) := by rw [← hb1]; rfl
  clear hb1
  obtain ⟨qq, rfl, hqq⟩ := loop_end hx (K) (fun i s => ∃ g v, s = ⟨[(2, .d (ints l)), (4, .d (.int .i64 c)), (5, .ptr 80 1 0), (6, .ptr 96 2 0), (8, .ptr 128 3 0), (10, .ptr 160 4 0), (13, .ptr 208 35 0), (14, .own 1008 47), (15, .d (.int .i64 (inv T c))), (16, .ptr 256 57 0), (17, .d (.int .i64 i))], [(80, some (1, .box [.d (intss T)])), (96, some (2, .box [.d (.int .i64 M), .d (ints U)])), (128, some (3, .box [.d (.int .i64 p), .d (ints V)])), (160, some (4, .box [.d (.int .i64 0), .d .nil])), (208, some (35, .box [.own 816 34])), (256, some (57, .box [.d (.int .i64 p), .own 1104 v])), (816, some (34, .mat false (mcells (sbG T l)))), (1008, some (47, .row (icells (conjL T l c)))), (1104, some (v, .row (icells (tabI (ccV T M U V l c p) i))))], g⟩)
    (fun qq => ∃ s v, qq = (.exit 0, s) ∧ lookL s.env 2 = some (.d (ints l)) ∧ lookL s.env 4 = some (.d (.int .i64 c)) ∧ lookL s.env 5 = some (.ptr 80 1 0) ∧ lookL s.env 6 = some (.ptr 96 2 0) ∧ lookL s.env 8 = some (.ptr 128 3 0) ∧ lookL s.env 10 = some (.ptr 160 4 0) ∧ lookL s.env 13 = some (.ptr 208 35 0) ∧ lookL s.env 14 = some (.own 1008 47) ∧ lookL s.env 15 = some (.d (.int .i64 (inv T c))) ∧ lookL s.env 16 = some (.ptr 256 57 0) ∧ lookL s.env 17 = some (.d (.int .i64 (K))) ∧ obsL s.obs 80 = some (1, .box [.d (intss T)]) ∧ obsL s.obs 96 = some (2, .box [.d (.int .i64 M), .d (ints U)]) ∧ obsL s.obs 128 = some (3, .box [.d (.int .i64 p), .d (ints V)]) ∧ obsL s.obs 160 = some (4, .box [.d (.int .i64 0), .d .nil]) ∧ obsL s.obs 208 = some (35, .box [.own 816 34]) ∧ obsL s.obs 256 = some (57, .box [.d (.int .i64 p), .own 1104 v]) ∧ obsL s.obs 816 = some (34, .mat false (mcells (sbG T l))) ∧ obsL s.obs 1008 = some (47, .row (icells (conjL T l c))) ∧ obsL s.obs 1104 = some (v, .row (icells (tabI (ccV T M U V l c p) (K)))))
    (by show K < m; omega) (by
      simp -implicitDefEqProofs (maxSteps := 3000000))
    (by
      rintro i s hi ⟨g, v, rfl⟩
      have w2 := wrap_id (n := (i : Int) + 1) (by omega)
      have c11 := cl i hi
      have c12 := ca i hi
      have c13 := cm i
      have b13 := bd i
      have w3 := wrap_id (n := rn U c * pulV l.length l.length V (cbI T l c) p i) (by omega)
      have hs := tabI_succ (ccV T M U V l c p) i
      have hl1 := lt_bound (n := i) (by omega)
      have hl2 := le_bound (n := i) (by omega)
      have hd := dg i hi
      have hl3 : (digs (l.length - 1) p i).length = p := digs_len _ _ _
      have z0 := imA_zero (cbI T l c) (digs (l.length - 1) p i)
      have z1 := imA_all (cbI T l c) (digs (l.length - 1) p i)
      have hiV : i < V.length := by omega
      simp -implicitDefEqProofs (maxSteps := 3000000) [hi, hiV, c11]
      generalize digs (l.length - 1) p i = dl at *
      generalize hy : loopC _ _ _ = y
      obtain ⟨s, v3, rfl, hq⟩ := lp_ConjC_1 m (by omega) T M U V l p c h dl (tabI (ccV T M U V l c p) i) (by omega) (fun k hk => hd k hk) i v hy (by simp -implicitDefEqProofs (maxSteps := 3000000) [z0]; rfl)
      rw [z1] at hq
      generalize imL (cbI T l c) dl = X at *
      generalize pulV l.length l.length V (cbI T l c) p i = Y at *
      generalize ccV T M U V l c p i = Z at *
      simp -implicitDefEqProofs (maxSteps := 3000000) [hq, w2, c12, c13, w3, hcU, hs, hl1, hl2])
    (by
      rintro s ⟨g, v, rfl⟩
      simp -implicitDefEqProofs (maxSteps := 3000000) [hv'])
  obtain ⟨s, v, rfl, hf⟩ := hqq
  simp -implicitDefEqProofs (maxSteps := 3000000) [hf]
theorem ct_implCC (n : Nat) (hn : B + 13 + 16 ≤ n) (T : List (List Int)) (hT : T.length ≤ 2000000) (hr : ∀ i, (rown T i).length ≤ 1000000000000) (M : Int) (U : List Int) (hU : U.length ≤ 2000000) (l : List Int) (hl : l.length ≤ 10000000) (D : Int) (V : List Int) (hV : V.length ≤ 10000000) (c : Int) (h : CCGood T M U l D V c) :
    evalCall Tryz.prog An n 35 [.agg [.d (intss T)], .agg [.d (.int .i64 M), .d (ints U)], .d (ints l), .agg [.d (.int .i64 D), .d (ints V)], .d (.int .i64 c)] [] = some ⟨.tuple [.agg [.d (.int .i64 D), .own 0 0], .d (.int .i64 0)], [.row (icells (ccW T M U V l c.toNat D.toNat))], []⟩ := by
  obtain ⟨m, rfl⟩ : ∃ m, n = m + 1 := ⟨n - 1, by omega⟩
  have hB := B_eq
  simp only [evalCall_at, fb35, bnd_some, bodyOf, Tryz.f35, Option.getD_some]
  have W := h.1.1
  have G := W.1.1
  have H := W.2
  have hM := W.1.2.1.1
  obtain ⟨p, rfl⟩ := Int.eq_ofNat_of_zero_le h.2.1.1
  obtain ⟨c, rfl⟩ := Int.eq_ofNat_of_zero_le h.1.2.1
  have hc : c < T.length := by have := h.1.2.2; omega
  rw [Int.toNat_natCast, Int.toNat_natCast]
  have S := pulOk_cj h
  have hp := S.hp
  have hQ := S.hQ
  have hT8 := G.1.1
  have c1 := ct_withinCode1 m (by omega) T hT hr M U hU l hl c
  rw [w1code_0 h.1] at c1
  have c2 := ct_groupOf m (by omega) T l H
  have c3 := ct_moduleOf m (by omega) T l H M U W.1.2.1.2
  have c4 := ct_isCochain m (by omega) (sbG T l) (by rw [sbG_len]; exact hQ) M (sbU U l) p V hV
  rw [bl_true h.2] at c4
  have c5 := ct_conjugated m (by omega) T G l H.2.1 c hc
  have c6 := ct_inverse m (by omega) T G c hc
  have c7 := ct_groupOf m (by omega) T (conjL T l c) (conjL_good H hc)
  have el : (sbG T (conjL T l c)).length = l.length := by rw [sbG_len, conjL_len H hc]
  have c8 := ct_toldG m (by omega) (sbG T (conjL T l c)) (by rw [el]; exact hQ) M (by omega) p (by omega) 87 [.cellp [.int .i64 M, ints U], .cellp [.int .i64 c], .cellp [.int .i64 p, ints V], .cellp [intss (sbG T l)], .cellp [ints l], .cellp [intss T], .cellp [.int .i64 (inv T c)], .cellp [ints (conjL T l c)]] (fun dl => rn U c * atv l.length V (imL (cbI T l c) dl)) (B + 4 + 4) (by omega)
    (fun m hm i hi => by
      rw [el] at hi ⊢
      simpa [pulV] using ct_ConjC1 m hm T M U V l p c h i hi)
    (fun i hi => by
      rw [el]
      have := ccM_bd h i
      simp only [pulV] at this
      omega) (by simp -implicitDefEqProofs (maxSteps := 3000000))
  rw [el] at c8
  have e2 : tabI (fun i => rn U c * atv l.length V (imL (cbI T l c) (digs (l.length - 1) p i)) % M) ((l.length - 1) ^ p) = ccW T M U V l c p := rfl
  rw [e2] at c8
  generalize conjL T l c = K at *
  simp -implicitDefEqProofs (maxSteps := 3000000) [c1, c2, c3, c4, c5, c6, c7, c8]
theorem ct_implCC_bad (n : Nat) (hn : B + 13 + 16 ≤ n) (T : List (List Int)) (hT : T.length ≤ 2000000) (hr : ∀ i, (rown T i).length ≤ 1000000000000) (M : Int) (U : List Int) (hU : U.length ≤ 2000000) (l : List Int) (hl : l.length ≤ 10000000) (D : Int) (V : List Int) (hV : V.length ≤ 10000000) (c : Int) (h : ¬ CCGood T M U l D V c) :
    evalCall Tryz.prog An n 35 [.agg [.d (intss T)], .agg [.d (.int .i64 M), .d (ints U)], .d (ints l), .agg [.d (.int .i64 D), .d (ints V)], .d (.int .i64 c)] [] = some ⟨.tuple [.agg [.d (.int .i64 0), .d .nil], .d (.int .i64 (cccode T M U l c))], [], []⟩ := by
  obtain ⟨m, rfl⟩ : ∃ m, n = m + 1 := ⟨n - 1, by omega⟩
  have hB := B_eq
  simp only [evalCall_at, fb35, bnd_some, bodyOf, Tryz.f35, Option.getD_some]
  have c1 := ct_withinCode1 m (by omega) T hT hr M U hU l hl c
  by_cases g : WGood T M U l ∧ 0 ≤ c ∧ c < T.length
  · have H := g.1.2
    have hlen := setOk_len H.2.1
    have hp := H.pos
    have hT8 := H.1.1.1
    rw [w1code_0 g] at c1
    have c2 := ct_groupOf m (by omega) T l H
    have c3 := ct_moduleOf m (by omega) T l H M U g.1.1.2.1.2
    have c4 := ct_isCochain m (by omega) (sbG T l) (by rw [sbG_len]; omega) M (sbU U l) D V hV
    rw [bl_false (fun z => h ⟨g, z⟩)] at c4
    have e : cccode T M U l c = 1 := if_pos g
    simp -implicitDefEqProofs (maxSteps := 3000000) [c1, c2, c3, c4, e]
  · have ne := w1code_ne g
    have e : cccode T M U l c = w1code T M U l c := if_neg g
    have ne2 := bne_t ne
    rw [e]
    simp -implicitDefEqProofs (maxSteps := 3000000) [c1, ne, ne2]
theorem ct_specCC_bad (n : Nat) (hn : B + 6 + 8 ≤ n) (T : List (List Int)) (hT : T.length ≤ 2000000) (M : Int) (U : List Int) (hU : U.length ≤ 2000000) (l : List Int) (hl : l.length ≤ 10000000) (D : Int) (V : List Int) (hV : V.length ≤ 10000000) (c : Int) (h : ¬ CCGood T M U l D V c) :
    evalCall Tryz.prog An n 34 [.agg [.d (intss T)], .agg [.d (.int .i64 M), .d (ints U)], .d (ints l), .agg [.d (.int .i64 D), .d (ints V)], .d (.int .i64 c)] [] = some ⟨.tuple [.agg [.d (.int .i64 0), .d .nil], .d (.int .i64 (cccode T M U l c))], [], []⟩ := by
  obtain ⟨m, rfl⟩ : ∃ m, n = m + 1 := ⟨n - 1, by omega⟩
  have hB := B_eq
  simp only [evalCall_at, fb34, bnd_some, bodyOf, Tryz.f34, Option.getD_some]
  generalize hb0 : Code.loop _ = cc0
  obtain rfl : cc0 = .loop (lp Tryz.f34 0) := by rw [← hb0]; rfl
  clear hb0
  have c1 := ct_l01Is m (by omega) T (by omega)
  have c3 := ct_l01Set m (by omega) T (by omega) l hl
  have c4 := ct_l01Elements m (by omega) T (by omega) [c] (by simp -implicitDefEqProofs (maxSteps := 3000000))
  rw [show ints [c] = .sl 1 [.int .i64 c] from rfl] at c4
  have c5 := ct_l07Code m (by omega) T (by omega) l hl
  by_cases gm : GM T M U
  · have G := gm.1
    have c2 := ct_l02Is m (by omega) T G.1 M U hU
    rw [bl_true G] at c1
    rw [bl_true gm.2] at c2
    by_cases q : SetOk T l
    · have e1 : setcode T l = 0 := by rw [setcode, if_pos G, if_pos q]
      rw [e1] at c3
      by_cases y : 0 ≤ c ∧ c < T.length
      · have e2 : elcode T [c] = 0 := by rw [elcode, if_pos G, if_pos (all1.2 y)]
        rw [e2] at c4
        by_cases s : HGood T l
        · have hlen := setOk_len s.2.1
          have hp := s.pos
          have hT8 := s.1.1.1
          rw [subcode_0 s] at c5
          have c6 := ct_l07Group m (by omega) T l s
          have c7 := ct_l07Module m (by omega) M U T.length gm.2.1.2 l (by omega) s.2.1.1
          have c8 := ct_l03Is m (by omega) (sbG T l) (by rw [sbG_len]; omega) M gm.2.1.1 (sbU U l) D V hV
          rw [bl_false (fun z => h ⟨⟨⟨gm, s⟩, y⟩, z⟩)] at c8
          have e : cccode T M U l c = 1 := if_pos ⟨⟨gm, s⟩, y⟩
          simp -implicitDefEqProofs (maxSteps := 3000000) [c1, c2, c3, c4, c5, c6, c7, c8, e]
        · have ne := subcode_ne s
          have ne2 := bne_t ne
          have e : cccode T M U l c = subcode T l := by rw [cccode, if_neg (fun z => s z.1.2), w1code, if_pos gm, if_pos ⟨q, y⟩]
          rw [e]
          simp -implicitDefEqProofs (maxSteps := 3000000) [c1, c2, c3, c4, c5, ne, ne2]
      · have e2 : elcode T [c] = 2 := by rw [elcode, if_pos G, if_neg (fun z => y (all1.1 z))]
        rw [e2] at c4
        have e : cccode T M U l c = 2 := by rw [cccode, if_neg (fun z => y z.2), w1code, if_pos gm, if_neg (fun z => y z.2)]
        simp -implicitDefEqProofs (maxSteps := 3000000) [c1, c2, c3, c4, e]
    · have e1 : setcode T l = 2 := by rw [setcode, if_pos G, if_neg q]
      rw [e1] at c3
      have e : cccode T M U l c = 2 := by rw [cccode, if_neg (fun z => q z.1.2.2.1), w1code, if_pos gm, if_neg (fun z => q z.1)]
      simp -implicitDefEqProofs (maxSteps := 3000000) [c1, c2, c3, e]
  · have e : cccode T M U l c = 1 := by rw [cccode, if_neg (fun z => gm z.1.1), w1code, if_neg gm]
    by_cases G : IsGr T
    · have c2 := ct_l02Is m (by omega) T G.1 M U hU
      rw [bl_true G] at c1
      rw [bl_false (fun z => gm ⟨G, z⟩)] at c2
      simp -implicitDefEqProofs (maxSteps := 3000000) [c1, c2, e]
    · rw [bl_false G] at c1
      simp -implicitDefEqProofs (maxSteps := 3000000) [c1, e]
theorem ccW_bd {T : List (List Int)} {M : Int} {U V l : List Int} {D c : Int} (h : CCGood T M U l D V c) : (ccW T M U V l c.toNat D.toNat).length ≤ 343 := by
  obtain ⟨p, rfl⟩ := Int.eq_ofNat_of_zero_le h.2.1.1
  obtain ⟨c, rfl⟩ := Int.eq_ofNat_of_zero_le h.1.2.1
  rw [Int.toNat_natCast, Int.toNat_natCast]
  have S := pulOk_cj h
  have := pow_bd S.hN (show p ≤ 4 by have := S.hp; omega)
  have := (cells_bd S.hN p S.hp).2
  rw [pow_cast S.hN.1] at this
  simp only [ccW, tabI_len]
  omega
end Go.Proofs.YtgklblkigjbggaaGreatE
