/- Contracts of functions of the program and of the reference: what the evaluator gives for a call of each. -/
import Derived.Test.YtnfhglplafmfiaaGreatAEf
import Derived.Test.YtnfhglplafmfiaaGreatK1M
import Derived.Test.YtnfhglplafmfiaaGreatK3M
import Derived.Test.YtnfhglplafmfiaaGreatK6M
import Derived.Test.YtnfhglplafmfiaaGreatK8M
import Derived.Test.YtnfhglplafmfiaaGreatK11M
import Derived.Test.YtnfhglplafmfiaaGreatK13
import Derived.Test.YtnfhglplafmfiaaGreatK14
import Derived.Test.YtnfhglplafmfiaaGreatK17
namespace Go.Proofs.YtnfhglplafmfiaaGreatE
open Go Go.Proofs
set_option maxHeartbeats 4000000
set_option maxRecDepth 2000
set_option linter.unusedSimpArgs false
set_option linter.unusedVariables false
set_option pp.deepTerms false
set_option pp.deepTerms.threshold 10
/-! ## ConnectingCochain -/
theorem isGr_e0 {T : List (List Int)} (G : IsGr T) : ∀ a < T.length, cl T 0 a = a := fun a ha => (G.2 a ha).1.1
theorem coOk {T : List (List Int)} {M q : Int} {U V : List Int} {p : Nat} (G : GM T M U) (hq : 2 ≤ q ∧ q ≤ M ∧ M % q = 0) (h : IsCo T q p V) : CoOk T (restU U q) V p := by
  have I := isMo_red G.1.1 G.2 hq.1 hq.2.1 hq.2.2
  have hM := G.2.1.1
  refine ⟨G.1.1, isGr_e0 G.1, I.1.2, fun i hi => ?_, ?_, fun i hi => ?_, ?_⟩
  · have := (I.2.1 i hi).1; omega
  · have := h.2.1; simpa [cellsOf_] using this
  · have := h.2.2 i hi; omega
  · have := h.1; omega
theorem coOk1 {T : List (List Int)} {M q : Int} {U V : List Int} {p : Nat} (G : GM T M U) (hq : q ≤ 12) (h : IsCo T q p V) : CoOk T U V p := by
  have I := G.2
  have hM := G.2.1.1
  refine ⟨G.1.1, isGr_e0 G.1, I.1.2, fun i hi => ?_, ?_, fun i hi => ?_, ?_⟩
  · have := (I.2.1 i hi).1; omega
  · have := h.2.1; simpa [cellsOf_] using this
  · have := h.2.2 i hi; omega
  · have := h.1; omega
theorem bnd1_bd {T : List (List Int)} {M : Int} {U V : List Int} {p i : Nat} (hM : 0 < M) : 0 ≤ bnd1 T M U V p i ∧ bnd1 T M U V p i < M :=
  ⟨Int.emod_nonneg _ (by omega), Int.emod_lt_of_pos _ hM⟩
noncomputable def conL (T : List (List Int)) (M : Int) (U V : List Int) (p : Nat) (q : Int) : List Int := (bndL T M U V p).map (· / q)
theorem conL_len {T : List (List Int)} {M : Int} {U V : List Int} {p : Nat} {q : Int} : (conL T M U V p q).length = (T.length - 1) ^ (p + 1) := by simp -implicitDefEqProofs (maxSteps := 3000000) [conL, bndL]
theorem bndL_bd {T : List (List Int)} {M : Int} {U V : List Int} {p : Nat} (hM : 0 < M) (i : Nat) (hi : i < (bndL T M U V p).length) : 0 ≤ rn (bndL T M U V p) i ∧ rn (bndL T M U V p) i < M := by
  have hi' : i < (T.length - 1) ^ (p + 1) := by simpa [bndL] using hi
  have : rn (bndL T M U V p) i = bnd1 T M U V p i := rn_tabI _ hi'
  rw [this]; exact bnd1_bd hM
theorem ct_connecting1 (n : Nat) (hn : B + 1 ≤ n) (q : Int) (hq : 0 < q) (x : Int) (hx : 0 ≤ x ∧ x < 1000000000000) :
    evalCall Tryz.prog An n 167 [.d (.int .i64 x), .d (.cellp [.int .i64 q])] [] = some ⟨.d (.int .i64 (x / q)), [], []⟩ := by
  obtain ⟨m, rfl⟩ : ∃ m, n = m + 1 := ⟨n - 1, by omega⟩
  have hB := B_eq
  simp only [evalCall_at, fb167, bnd_some, bodyOf, Tryz.f167, Option.getD_some]
  have e : x.tdiv q = x / q := Int.tdiv_eq_ediv_of_nonneg hx.1
  have h1 : 0 ≤ x / q := Int.ediv_nonneg hx.1 (by omega)
  have h2 : x / q ≤ x := Int.ediv_le_self q hx.1
  have w := wrap_id (n := x / q) (by omega)
  have hz : q ≠ 0 := by omega
  simp -implicitDefEqProofs (maxSteps := 3000000) [e, w, hz]
theorem ct_connecting (n : Nat) (hn : B + 7 + 4 ≤ n) (T : List (List Int)) (M : Int) (hM : 2 ≤ M ∧ M ≤ 12) (U V : List Int) (k : Int) (hk : 2 ≤ k ∧ k ≤ M.tdiv 2 ∧ M.tmod k = 0) (p : Nat) (S : CoOk T U V p) :
    evalCall Tryz.prog An n 82 [.agg [.d (intss T)], .agg [.d (.int .i64 M), .d (ints U)], .d (.int .i64 k), .agg [.d (.int .i64 p), .d (ints V)]] [] = some ⟨.agg [.d (.int .i64 ((p : Int) + 1)), .own 0 0], [.row (icells (conL T M U V p (M / k)))], []⟩ := by
  obtain ⟨m, rfl⟩ : ∃ m, n = m + 1 := ⟨n - 1, by omega⟩
  have hB := B_eq
  simp only [evalCall_at, fb82, bnd_some, bodyOf, Tryz.f82, Option.getD_some]
  obtain ⟨d1, d2, d3⟩ := div_ok hM.1 hk
  have w := wrap_id (n := M / k) (by omega)
  have kz : k ≠ 0 := by omega
  have c1 := ct_boundary m (by omega) T M (by omega) U V p S
  have pb := pow_bd S.R.1 (show p + 1 ≤ 4 by have := S.hp; omega)
  have c2 := ct_changedValuesG m (by omega) ((p : Int) + 1) (bndL T M U V p) (by simp -implicitDefEqProofs (maxSteps := 3000000) [bndL]; omega) 167 [.cellp [.int .i64 (M / k)]] (fun x => x / (M / k)) (B + 1) (by omega)
    (fun m hm i hi => by
      have b := bndL_bd (T := T) (U := U) (V := V) (p := p) (show 0 < M by omega) i hi
      simpa using ct_connecting1 m (by omega) (M / k) (by omega) (rn (bndL T M U V p) i) (by omega)) (by simp -implicitDefEqProofs (maxSteps := 3000000))
  simp -implicitDefEqProofs (maxSteps := 3000000) [d2, w, kz, c1, c2, conL]
theorem ct_l08Connect (n : Nat) (hn : B + 5 ≤ n) (T : List (List Int)) (M : Int) (hM : 2 ≤ M ∧ M ≤ 12) (U V : List Int) (k : Int) (hk : 2 ≤ k ∧ k ≤ M.tdiv 2 ∧ M.tmod k = 0) (p : Nat) (S : CoOk T U V p) :
    evalCall Tryz.prog An n 69 [.agg [.d (intss T)], .agg [.d (.int .i64 M), .d (ints U)], .d (.int .i64 k), .agg [.d (.int .i64 p), .d (ints V)]] [] = some ⟨.agg [.d (.int .i64 ((p : Int) + 1)), .own 0 0], [.row (icells (conL T M U V p (M / k)))], []⟩ := by
  obtain ⟨m, rfl⟩ : ∃ m, n = m + 1 := ⟨n - 1, by omega⟩
  have hB := B_eq
  simp only [evalCall_at, fb69, bnd_some, bodyOf, Tryz.f69, Option.getD_some]
  generalize hb0 : Code.loop _ = cc0
  obtain rfl : cc0 = .loop (lp Tryz.f69 0) := by rw [← hb0]; rfl
  clear hb0
  obtain ⟨d1, d2, d3⟩ := div_ok hM.1 hk
  have w := wrap_id (n := M / k) (by omega)
  have kz : k ≠ 0 := by omega
  have qz : M / k ≠ 0 := by omega
  have c1 := ct_l03Boundary m (by omega) T M (by omega) U V p S
  have pb := pow_bd S.R.1 (show p + 1 ≤ 4 by have := S.hp; omega)
  have hW : (bndL T M U V p).length = (T.length - 1) ^ (p + 1) := by simp -implicitDefEqProofs (maxSteps := 3000000) [bndL]
  have hb := fun i hi => bndL_bd (T := T) (U := U) (V := V) (p := p) (show 0 < M by omega) i hi
  unfold conL
  generalize bndL T M U V p = W at *
  simp -implicitDefEqProofs (maxSteps := 3000000) [c1]
  generalize hx : loopC _ _ _ = x
  generalize hl : lp Tryz.f69 0 = L at hx
  simp only [lp, bodyOf, Tryz.f69, Option.getD_some, loopsIn, List.append_nil, List.nil_append, List.cons_append, List.getD, List.getElem?_cons_zero, List.getElem?_cons_succ] at hl
  subst hl
  obtain ⟨qq, rfl, hqq⟩ := loop_end hx (W.length) (fun i s => ∃ g, s = ⟨[(2, .d (.int .i64 k)), (5, .ptr 80 2 0), (8, .ptr 128 4 0), (9, .ptr 144 9 0), (10, .d (.int .i64 i))], [(80, some (2, .box [.d (.int .i64 M), .d (ints U)])), (128, some (4, .box [.d (.int .i64 0), .d .nil])), (144, some (9, .box [.d (.int .i64 ((p : Int) + 1)), .own 224 8])), (224, some (8, .row (icells (tabI (fun j => rn W j / (M / k)) i ++ W.drop i))))], g⟩)
    (fun qq => ∃ s, qq = (.exit 0, s) ∧ lookL s.env 2 = some (.d (.int .i64 k)) ∧ lookL s.env 5 = some (.ptr 80 2 0) ∧ lookL s.env 8 = some (.ptr 128 4 0) ∧ lookL s.env 9 = some (.ptr 144 9 0) ∧ lookL s.env 10 = some (.d (.int .i64 (W.length))) ∧ obsL s.obs 80 = some (2, .box [.d (.int .i64 M), .d (ints U)]) ∧ obsL s.obs 128 = some (4, .box [.d (.int .i64 0), .d .nil]) ∧ obsL s.obs 144 = some (9, .box [.d (.int .i64 ((p : Int) + 1)), .own 224 8]) ∧ obsL s.obs 224 = some (8, .row (icells (tabI (fun j => rn W j / (M / k)) (W.length) ++ W.drop (W.length)))))
    (by show W.length < m; omega) (by
      simp -implicitDefEqProofs (maxSteps := 3000000))
    (by
      rintro i s hi ⟨g, rfl⟩
      have w2 := wrap_id (n := (i : Int) + 1) (by omega)
      have b := hb i hi
      have td : (rn W i).tdiv (M / k) = rn W i / (M / k) := Int.tdiv_eq_ediv_of_nonneg b.1
      have h1 : 0 ≤ rn W i / (M / k) := Int.ediv_nonneg b.1 (by omega)
      have h2 : rn W i / (M / k) ≤ rn W i := Int.ediv_le_self _ b.1
      have w3 := wrap_id (n := rn W i / (M / k)) (by omega)
      have e1 : rn (tabI (fun j => rn W j / (M / k)) i ++ W.drop i) i = rn W i := by
        simp only [rn, List.getD, List.getElem?_append, tabI_len, Nat.lt_irrefl, if_false, Nat.sub_self, List.getElem?_drop, Nat.add_zero]
      have e2 : (tabI (fun j => rn W j / (M / k)) i ++ W.drop i).length = W.length := by simp; omega
      have e3 : (tabI (fun j => rn W j / (M / k)) i ++ W.drop i).set i (rn W i / (M / k)) = tabI (fun j => rn W j / (M / k)) (i + 1) ++ W.drop (i + 1) := by
        rw [List.set_append_right _ _ (by simp -implicitDefEqProofs (maxSteps := 3000000)), tabI_len, Nat.sub_self, List.drop_eq_getElem_cons hi, List.set_cons_zero, ← tabI_succ, List.append_assoc]
        rfl
      generalize tabI (fun j => rn W j / (M / k)) i ++ W.drop i = X at *
      generalize tabI (fun j => rn W j / (M / k)) (i + 1) ++ W.drop (i + 1) = Y at *
      have hi2 : i < X.length := by omega
      simp -implicitDefEqProofs (maxSteps := 3000000) [hi, hi2, d2, w, w2, w3, td, kz, qz, e1, e2, e3])
    (by
      rintro s ⟨g, rfl⟩
      have e2 : (tabI (fun j => rn W j / (M / k)) W.length ++ W.drop W.length).length = W.length := by simp -implicitDefEqProofs (maxSteps := 3000000)
      generalize tabI (fun j => rn W j / (M / k)) W.length ++ W.drop W.length = X at *
      simp -implicitDefEqProofs (maxSteps := 3000000) [e2])
  obtain ⟨s, rfl, hf⟩ := hqq
  have e : tabI (fun j => rn W j / (M / k)) W.length ++ W.drop W.length = W.map (· / (M / k)) := by
    rw [List.drop_length, List.append_nil]; exact tab_map (fun x => x / (M / k)) W
  rw [e] at hf
  simp -implicitDefEqProofs (maxSteps := 3000000) [hf]
def CGood (T : List (List Int)) (M : Int) (U : List Int) (k D : Int) (V : List Int) : Prop := EGood T M U k (M / k) D V ∧ D ≤ 2 ∧ IsCy T (M / k) (restU U (M / k)) V D.toNat
noncomputable def concode (T : List (List Int)) (M : Int) (U : List Int) (k D : Int) (V : List Int) : Int :=
  @ite Int (EGood T M U k (M / k) D V) (Classical.propDecidable _) (if D ≤ 2 then 5 else 2) (ecode T M U k (M / k) D V)
theorem ct_implCon_bad (n : Nat) (hn : B + 8 + 4 ≤ n) (T : List (List Int)) (hT : T.length ≤ 2000000) (hr : ∀ i, (rown T i).length ≤ 1000000000000) (M : Int) (U : List Int) (hU : U.length ≤ 2000000) (k D : Int) (V : List Int) (hV : V.length ≤ 10000000) (h : ¬ CGood T M U k D V) :
    evalCall Tryz.prog An n 22 [.agg [.d (intss T)], .agg [.d (.int .i64 M), .d (ints U)], .d (.int .i64 k), .agg [.d (.int .i64 D), .d (ints V)]] [] = some ⟨.tuple [.agg [.d (.int .i64 0), .d .nil], .d (.int .i64 (concode T M U k D V))], [], []⟩ := by
  obtain ⟨m, rfl⟩ : ∃ m, n = m + 1 := ⟨n - 1, by omega⟩
  have hB := B_eq
  simp only [evalCall_at, fb22, bnd_some, bodyOf, Tryz.f22, Option.getD_some]
  have c1 := ct_divisorCode m (by omega) T hT hr M U hU k
  by_cases h1 : icode T M U k = 0
  · obtain ⟨G, hk⟩ := icode_0.1 h1
    have hM := G.2.1.1
    obtain ⟨d1, d2, d3⟩ := div_ok hM.1 hk
    rw [h1] at c1
    have w := wrap_id (n := M / k) (by omega)
    have kz : k ≠ 0 := by omega
    have c2 := ct_reduced m (by omega) T G.1.1.1.1 M U (by omega) G.2.1.2 (fun i hi => by have := (G.2.2.1 i hi).1; omega) (M / k) (by omega)
    have c3 := ct_isCochain m (by omega) T G.1.1.1 (M / k) (restU U (M / k)) D V hV
    by_cases h2 : IsCo T (M / k) D V
    · rw [bl_true h2] at c3
      have hE : EGood T M U k (M / k) D V := ⟨h1, h2⟩
      have e : concode T M U k D V = if D ≤ 2 then 5 else 2 := if_pos hE
      by_cases h3 : D ≤ 2
      · obtain ⟨p, rfl⟩ := Int.eq_ofNat_of_zero_le h2.1.1
        have c4 := ct_isCocycle m (by omega) T (M / k) (by omega) (restU U (M / k)) V p (coOk G d3 h2)
        have h4 : ¬ IsCy T (M / k) (restU U (M / k)) V p := fun z => h ⟨hE, h3, by simpa using z⟩
        rw [bl_false h4] at c4
        have h5 : ¬ (2 < (p : Int)) := by omega
        rw [if_pos h3] at e
        simp -implicitDefEqProofs (maxSteps := 3000000) [c1, c2, c3, c4, d2, w, kz, h5, e]
      · have h5 : 2 < D := by omega
        rw [if_neg h3] at e
        simp -implicitDefEqProofs (maxSteps := 3000000) [c1, c2, c3, d2, w, kz, h5, e]
    · rw [bl_false h2] at c3
      have e : concode T M U k D V = ecode T M U k (M / k) D V := if_neg (fun z => h2 z.2)
      simp -implicitDefEqProofs (maxSteps := 3000000) [c1, c2, c3, d2, w, kz, e, ecode, h1]
  · have h3 := bne_t h1
    have e : concode T M U k D V = ecode T M U k (M / k) D V := if_neg (fun z => h1 z.1)
    simp -implicitDefEqProofs (maxSteps := 3000000) [c1, e, ecode, h1, h3]
theorem ct_implCon (n : Nat) (hn : B + 8 + 4 ≤ n) (T : List (List Int)) (hT : T.length ≤ 2000000) (hr : ∀ i, (rown T i).length ≤ 1000000000000) (M : Int) (U : List Int) (hU : U.length ≤ 2000000) (k D : Int) (V : List Int) (hV : V.length ≤ 10000000) (h : CGood T M U k D V) :
    evalCall Tryz.prog An n 22 [.agg [.d (intss T)], .agg [.d (.int .i64 M), .d (ints U)], .d (.int .i64 k), .agg [.d (.int .i64 D), .d (ints V)]] [] = some ⟨.tuple [.agg [.d (.int .i64 (D + 1)), .own 0 0], .d (.int .i64 0)], [.row (icells (conL T M U V D.toNat (M / k)))], []⟩ := by
  obtain ⟨m, rfl⟩ : ∃ m, n = m + 1 := ⟨n - 1, by omega⟩
  have hB := B_eq
  simp only [evalCall_at, fb22, bnd_some, bodyOf, Tryz.f22, Option.getD_some]
  obtain ⟨⟨h1, h2⟩, h3, h4⟩ := h
  have c1 := ct_divisorCode m (by omega) T hT hr M U hU k
  obtain ⟨G, hk⟩ := icode_0.1 h1
  have hM := G.2.1.1
  obtain ⟨d1, d2, d3⟩ := div_ok hM.1 hk
  rw [h1] at c1
  have w := wrap_id (n := M / k) (by omega)
  have kz : k ≠ 0 := by omega
  have c2 := ct_reduced m (by omega) T G.1.1.1.1 M U (by omega) G.2.1.2 (fun i hi => by have := (G.2.2.1 i hi).1; omega) (M / k) (by omega)
  have c3 := ct_isCochain m (by omega) T G.1.1.1 (M / k) (restU U (M / k)) D V hV
  rw [bl_true h2] at c3
  obtain ⟨p, rfl⟩ := Int.eq_ofNat_of_zero_le h2.1.1
  rw [Int.toNat_natCast] at h4 ⊢
  have c4 := ct_isCocycle m (by omega) T (M / k) (by omega) (restU U (M / k)) V p (coOk G d3 h2)
  rw [bl_true h4] at c4
  have c5 := ct_connecting m (by omega) T M hM U V k hk p (coOk1 G (by omega) h2)
  have h5 : ¬ (2 < (p : Int)) := by omega
  simp -implicitDefEqProofs (maxSteps := 3000000) [c1, c2, c3, c4, c5, d2, w, kz, h5]
theorem ct_specCon_bad (n : Nat) (hn : B + 6 ≤ n) (T : List (List Int)) (hT : T.length ≤ 2000000) (M : Int) (U : List Int) (hU : U.length ≤ 2000000) (k D : Int) (V : List Int) (hV : V.length ≤ 10000000) (h : ¬ CGood T M U k D V) :
    evalCall Tryz.prog An n 23 [.agg [.d (intss T)], .agg [.d (.int .i64 M), .d (ints U)], .d (.int .i64 k), .agg [.d (.int .i64 D), .d (ints V)]] [] = some ⟨.tuple [.agg [.d (.int .i64 0), .d .nil], .d (.int .i64 (concode T M U k D V))], [], []⟩ := by
  obtain ⟨m, rfl⟩ : ∃ m, n = m + 1 := ⟨n - 1, by omega⟩
  have hB := B_eq
  simp only [evalCall_at, fb23, bnd_some, bodyOf, Tryz.f23, Option.getD_some]
  by_cases h1 : icode T M U k = 0
  · obtain ⟨G, hk⟩ := icode_0.1 h1
    have hM := G.2.1.1
    obtain ⟨d1, d2, d3⟩ := div_ok hM.1 hk
    have w := wrap_id (n := M / k) (by omega)
    have kz : k ≠ 0 := by omega
    have k1 : ¬ (k < 1) := by omega
    have c1 := ct_l08Given m (by omega) T hT M U hU k (M / k) D V hV G hk d3
    have c2 := ct_l02Reduced m (by omega) M U (by omega) (fun i hi => by have := (G.2.2.1 i hi).1; omega) (M / k) (by omega)
    by_cases h2 : IsCo T (M / k) D V
    · rw [show ccode T (M / k) (restU U (M / k)) D V = 0 from if_pos h2] at c1
      have hE : EGood T M U k (M / k) D V := ⟨h1, h2⟩
      have e : concode T M U k D V = if D ≤ 2 then 5 else 2 := if_pos hE
      by_cases h3 : D ≤ 2
      · obtain ⟨p, rfl⟩ := Int.eq_ofNat_of_zero_le h2.1.1
        have c4 := ct_l03Cocycle m (by omega) T (M / k) (by omega) (restU U (M / k)) V p (coOk G d3 h2)
        have h4 : ¬ IsCy T (M / k) (restU U (M / k)) V p := fun z => h ⟨hE, h3, by simpa using z⟩
        rw [bl_false h4] at c4
        have h5 : ¬ (2 < (p : Int)) := by omega
        rw [if_pos h3] at e
        simp -implicitDefEqProofs (maxSteps := 3000000) [c1, c2, c4, d2, w, kz, k1, h5, e]
      · have h5 : 2 < D := by omega
        rw [if_neg h3] at e
        simp -implicitDefEqProofs (maxSteps := 3000000) [c1, c2, d2, w, kz, k1, h5, e]
    · rw [show ccode T (M / k) (restU U (M / k)) D V = 1 from if_neg h2] at c1
      have e : concode T M U k D V = ecode T M U k (M / k) D V := if_neg (fun z => h2 z.2)
      simp -implicitDefEqProofs (maxSteps := 3000000) [c1, d2, w, kz, k1, e, ecode, h1]
  · have c1 := fun q => ct_l08Given_bad m (by omega) T hT M U hU k q D V h1
    have h3 := bne_t h1
    have h3' := beq_f h1
    have e : concode T M U k D V = ecode T M U k (M / k) D V := if_neg (fun z => h1 z.1)
    by_cases k1 : k < 1
    · simp -implicitDefEqProofs (maxSteps := 3000000) [c1, e, ecode, h1, h3, h3', k1]
    · have kz : k ≠ 0 := by omega
      simp -implicitDefEqProofs (maxSteps := 3000000) [c1, e, ecode, h1, h3, h3', k1, kz]
theorem ct_specCon (n : Nat) (hn : B + 6 ≤ n) (T : List (List Int)) (hT : T.length ≤ 2000000) (M : Int) (U : List Int) (hU : U.length ≤ 2000000) (k D : Int) (V : List Int) (hV : V.length ≤ 10000000) (h : CGood T M U k D V) :
    evalCall Tryz.prog An n 23 [.agg [.d (intss T)], .agg [.d (.int .i64 M), .d (ints U)], .d (.int .i64 k), .agg [.d (.int .i64 D), .d (ints V)]] [] = some ⟨.tuple [.agg [.d (.int .i64 (D + 1)), .own 0 0], .d (.int .i64 0)], [.row (icells (conL T M U V D.toNat (M / k)))], []⟩ := by
  obtain ⟨m, rfl⟩ : ∃ m, n = m + 1 := ⟨n - 1, by omega⟩
  have hB := B_eq
  simp only [evalCall_at, fb23, bnd_some, bodyOf, Tryz.f23, Option.getD_some]
  obtain ⟨⟨h1, h2⟩, h3, h4⟩ := h
  obtain ⟨G, hk⟩ := icode_0.1 h1
  have hM := G.2.1.1
  obtain ⟨d1, d2, d3⟩ := div_ok hM.1 hk
  have w := wrap_id (n := M / k) (by omega)
  have kz : k ≠ 0 := by omega
  have k1 : ¬ (k < 1) := by omega
  have c1 := ct_l08Given m (by omega) T hT M U hU k (M / k) D V hV G hk d3
  have c2 := ct_l02Reduced m (by omega) M U (by omega) (fun i hi => by have := (G.2.2.1 i hi).1; omega) (M / k) (by omega)
  rw [show ccode T (M / k) (restU U (M / k)) D V = 0 from if_pos h2] at c1
  obtain ⟨p, rfl⟩ := Int.eq_ofNat_of_zero_le h2.1.1
  rw [Int.toNat_natCast] at h4 ⊢
  have c4 := ct_l03Cocycle m (by omega) T (M / k) (by omega) (restU U (M / k)) V p (coOk G d3 h2)
  rw [bl_true h4] at c4
  have c5 := ct_l08Connect m (by omega) T M hM U V k hk p (coOk1 G (by omega) h2)
  have h5 : ¬ (2 < (p : Int)) := by omega
  simp -implicitDefEqProofs (maxSteps := 3000000) [c1, c2, c4, c5, d2, w, kz, k1, h5]
end Go.Proofs.YtnfhglplafmfiaaGreatE
