/- Contracts of functions of the program and of the reference: what the evaluator gives for a call of each. -/
import Derived.Test.YtgklblkigjbggaaGreatAEf
import Derived.Test.YtgklblkigjbggaaGreatK0
import Derived.Test.YtgklblkigjbggaaGreatK3
import Derived.Test.YtgklblkigjbggaaGreatK5
import Derived.Test.YtgklblkigjbggaaGreatK15
import Derived.Test.YtgklblkigjbggaaGreatK17
import Derived.Test.YtgklblkigjbggaaGreatK37
import Derived.Test.YtgklblkigjbggaaGreatK40
import Derived.Test.YtgklblkigjbggaaGreatK45
namespace Go.Proofs.YtgklblkigjbggaaGreatE
open Go Go.Proofs
set_option maxHeartbeats 4000000
set_option maxRecDepth 4000
set_option linter.unusedSimpArgs false
set_option linter.unusedVariables false
set_option pp.deepTerms false
set_option pp.deepTerms.threshold 10
/-! ## cochains pulled back along images -/
def imL (im l : List Int) : List Int := tabI (fun k => rn im (rn l k).toNat) l.length
@[simp] theorem imL_len (im l : List Int) : (imL im l).length = l.length := by simp -implicitDefEqProofs (maxSteps := 3000000) [imL]
theorem imL_inG {Q : Nat} {im l : List Int} (h : ∀ j < im.length, 0 ≤ rn im j ∧ rn im j < Q) (hl : ∀ k < l.length, 0 ≤ rn l k ∧ rn l k < im.length) : InG Q (imL im l) := fun k hk => by
  have hk' : k < l.length := by simpa using hk
  have e : rn (imL im l) k = rn im (rn l k).toNat := rn_tabI _ hk'
  have := hl k hk'
  have := h (rn l k).toNat (by omega)
  omega
noncomputable def pulV (N Q : Nat) (V im : List Int) (p i : Nat) : Int := atv Q V (imL im (digs (N - 1) p i))
noncomputable def pulW (N Q : Nat) (V im : List Int) (p : Nat) : List Int := tabI (pulV N Q V im p) ((N - 1) ^ p)
structure PulOk (N Q : Nat) (M : Int) (V im : List Int) (p : Nat) : Prop where
  hN : 1 ≤ N ∧ N ≤ 8
  hQ : 1 ≤ Q ∧ Q ≤ 8
  hp : p ≤ 3
  hM : 2 ≤ M ∧ M ≤ 12
  hV : (V.length : Int) = ((Q : Int) - 1) ^ p
  bV : ∀ i < V.length, 0 ≤ rn V i ∧ rn V i ≤ M - 1
  hi : im.length = N
  bi : ∀ i < im.length, 0 ≤ rn im i ∧ rn im i < Q
theorem PulOk.dg {N Q : Nat} {M : Int} {V im : List Int} {p : Nat} (S : PulOk N Q M V im p) {i : Nat} (h : i < (N - 1) ^ p) : InG N (digs (N - 1) p i) := digs_inG S.hN.1 h
theorem PulOk.inG {N Q : Nat} {M : Int} {V im : List Int} {p : Nat} (S : PulOk N Q M V im p) {i : Nat} (h : i < (N - 1) ^ p) : InG Q (imL im (digs (N - 1) p i)) := imL_inG S.bi fun k hk => by
  have := S.dg h k hk
  rw [S.hi]; exact this
theorem PulOk.bd {N Q : Nat} {M : Int} {V im : List Int} {p : Nat} (S : PulOk N Q M V im p) (i : Nat) : 0 ≤ pulV N Q V im p i ∧ pulV N Q V im p i ≤ M - 1 := atv_bd (by have := S.hM; omega) S.bV
theorem pulW_bd {N Q : Nat} {M : Int} {V im : List Int} {p : Nat} (S : PulOk N Q M V im p) : (pulW N Q V im p).length ≤ 343 := by
  have := pow_bd S.hN (show p ≤ 4 by have := S.hp; omega)
  have := (cells_bd S.hN p S.hp).2
  rw [pow_cast S.hN.1] at this
  simp only [pulW, tabI_len]
  omega
theorem imL_succ (im l : List Int) {k : Nat} (hk : k < l.length) : (tabI (fun j => rn im (rn l j).toNat) k ++ l.drop k).set k (rn im (rn l k).toNat) = tabI (fun j => rn im (rn l j).toNat) (k + 1) ++ l.drop (k + 1) := by
  rw [List.set_append_right _ _ (by simp -implicitDefEqProofs (maxSteps := 3000000)), tabI_len, Nat.sub_self, List.drop_eq_getElem_cons hk, List.set_cons_zero, ← tabI_succ, List.append_assoc]
  rfl
def imA (im l : List Int) (k : Nat) : List Int := tabI (fun j => rn im (rn l j).toNat) k ++ l.drop k
theorem imA_len (im l : List Int) {k : Nat} (hk : k ≤ l.length) : (imA im l k).length = l.length := by simp -implicitDefEqProofs (maxSteps := 3000000) [imA]; omega
theorem imA_zero (im l : List Int) : imA im l 0 = l := by simp -implicitDefEqProofs (maxSteps := 3000000) [imA]
theorem imA_all (im l : List Int) : imA im l l.length = imL im l := by simp -implicitDefEqProofs (maxSteps := 3000000) [imA, imL]
theorem imA_set (im l : List Int) {k : Nat} (hk : k < l.length) : (imA im l k).set k (rn im (rn l k).toNat) = imA im l (k + 1) := imL_succ im l hk
theorem imA_rn (im l : List Int) {k : Nat} (hk : k < l.length) : rn (imA im l k) k = rn l k := by
  simp only [imA, rn, List.getD, List.getElem?_append, tabI_len, Nat.lt_irrefl, if_false, Nat.sub_self, List.getElem?_drop, Nat.add_zero]
theorem ct_pulled11 (n : Nat) (hn : B + 1 ≤ n) (im : List Int) (x : Nat) (hx : x < im.length) :
    evalCall Tryz.prog An n 155 [.d (.int .i64 x), .d (.cellp [ints im])] [] = some ⟨.d (.int .i64 (rn im x)), [], []⟩ := by
  obtain ⟨m, rfl⟩ : ∃ m, n = m + 1 := ⟨n - 1, by omega⟩
  have hB := B_eq
  simp only [evalCall_at, fb155, bnd_some, bodyOf, Tryz.f155, Option.getD_some]
  simp -implicitDefEqProofs (maxSteps := 3000000) [hx]
theorem ct_pulled1 (n : Nat) (hn : B + 4 ≤ n) (N : Nat) (Q : List (List Int)) (M D : Int) (V im : List Int) (p : Nat) (S : PulOk N Q.length M V im p) (i : Nat) (hi : i < (N - 1) ^ p) :
    evalCall Tryz.prog An n 154 [.d (ints (digs (N - 1) p i)), .d (.cellp [.int .i64 D, ints V]), .d (.cellp [intss Q]), .d (.cellp [ints im])] [] = some ⟨.d (.int .i64 (pulV N Q.length V im p i)), [], []⟩ := by
  obtain ⟨m, rfl⟩ : ∃ m, n = m + 1 := ⟨n - 1, by omega⟩
  have hB := B_eq
  simp only [evalCall_at, fb154, bnd_some, bodyOf, Tryz.f154, Option.getD_some]
  have hp := S.hp
  have hQ := S.hQ
  have hg := S.inG hi
  have hd := S.dg hi
  have hl : (digs (N - 1) p i).length = p := digs_len _ _ _
  have hv := S.hV
  have him := S.hi
  have e : pulV N Q.length V im p i = atv Q.length V (imL im (digs (N - 1) p i)) := rfl
  rw [e]
  generalize digs (N - 1) p i = l at *
  have c1 := ct_mapped m (by omega) l (by omega) 155 [.cellp [ints im]] (fun k => rn im (rn l k).toNat) (B + 1) (by omega)
    (fun m hm k hk => by
      have h1 := hd k hk
      obtain ⟨x, hx⟩ := Int.eq_ofNat_of_zero_le h1.1
      have := ct_pulled11 m hm im x (by omega)
      simpa [hx] using this) (by simp -implicitDefEqProofs (maxSteps := 3000000))
  have e2 : tabI (fun k => rn im (rn l k).toNat) l.length = imL im l := rfl
  rw [e2] at c1
  have c2 := ct_at m (by omega) Q hQ D V (imL im l) (by simp; omega) (by rw [imL_len, hl]; exact hv) hg
  simp -implicitDefEqProofs (maxSteps := 3000000) [c1, c2]
theorem ct_pulled (n : Nat) (hn : B + 6 ≤ n) (T Q : List (List Int)) (M : Int) (U V im : List Int) (p : Nat) (S : PulOk T.length Q.length M V im p) (hU : U.length = Q.length) :
    evalCall Tryz.prog An n 68 [.agg [.d (intss T)], .agg [.d (intss Q)], .agg [.d (.int .i64 M), .d (ints U)], .d (ints im), .agg [.d (.int .i64 p), .d (ints V)]] [] = some ⟨.tuple [.agg [.d (.int .i64 M), .own 0 0], .agg [.d (.int .i64 p), .own 1 0]], [.row (icells (sbU U im)), .row (icells (pulW T.length Q.length V im p))], []⟩ := by
  obtain ⟨m, rfl⟩ : ∃ m, n = m + 1 := ⟨n - 1, by omega⟩
  have hB := B_eq
  simp only [evalCall_at, fb68, bnd_some, bodyOf, Tryz.f68, Option.getD_some]
  have hp := S.hp
  have hN := S.hN
  have hM := S.hM
  have him := S.hi
  have c1 := ct_restricted m (by omega) T im (by omega) (by omega) M U (fun i hi => by rw [hU]; exact S.bi i hi)
  have c2 := ct_toldG m (by omega) T hN M (by omega) p (by omega) 154 [.cellp [.int .i64 p, ints V], .cellp [intss Q], .cellp [ints im]] (fun l => atv Q.length V (imL im l)) (B + 4) (by omega)
    (fun m hm i hi => by simpa [pulV] using ct_pulled1 m hm T.length Q M p V im p S i hi)
    (fun i hi => by have := S.bd i; simp only [pulV] at this; omega) (by simp -implicitDefEqProofs (maxSteps := 3000000))
  have e : (fun i => atv Q.length V (imL im (digs (T.length - 1) p i)) % M) = pulV T.length Q.length V im p := by
    funext i
    have b := S.bd i
    exact Int.emod_eq_of_lt b.1 (by simp only [pulV] at b; omega)
  rw [e] at c2
  have e2 : tabI (pulV T.length Q.length V im p) ((T.length - 1) ^ p) = pulW T.length Q.length V im p := rfl
  rw [e2] at c2
  simp -implicitDefEqProofs (maxSteps := 3000000) [c1, c2]
theorem lp_l03Pull_2 (m : Nat) (hm : B + 2 ≤ m) (T Q : List (List Int)) (M D : Int) (V im l ur wr : List Int) (hl : l.length ≤ 3) (hd : ∀ k < l.length, 0 ≤ rn l k ∧ rn l k < im.length) (i vu vw : Nat)
    {st : St} {o : Option (Ex × St)} (hx : loopC (cxAt 64 m) (lp Tryz.f64 2) st = o) {v : Nat}
    (f : obsL st.obs 80 = some (1, .box [.d (intss T)]) ∧ obsL st.obs 128 = some (3, .box [.d (intss Q)]) ∧ obsL st.obs 144 = some (4, .box [.d (.int .i64 D), .d (ints V)]) ∧ obsL st.obs 160 = some (5, .box [.d (.int .i64 0), .d .nil]) ∧ obsL st.obs 176 = some (6, .box [.d (.int .i64 0), .d .nil]) ∧ obsL st.obs 192 = some (15, .box [.d (.int .i64 M), .own 320 vu]) ∧ obsL st.obs 208 = some (16, .box [.d (.int .i64 D), .own 384 vw]) ∧ obsL st.obs 320 = some (vu, .row (icells ur)) ∧ obsL st.obs 384 = some (vw, .row (icells wr)) ∧ obsL st.obs 912 = some (v, .row (icells (imA im l (0)))) ∧ obsL st.obs 688 = none ∧ obsL st.obs 913 = none ∧ obsL st.obs 914 = none ∧ obsL st.obs 915 = none ∧ obsL st.obs 1296 = none ∧ lookL st.env 2 = some (.d (ints im)) ∧ lookL st.env 5 = some (.ptr 80 1 0) ∧ lookL st.env 8 = some (.ptr 128 3 0) ∧ lookL st.env 9 = some (.ptr 144 4 0) ∧ lookL st.env 10 = some (.ptr 160 5 0) ∧ lookL st.env 11 = some (.ptr 176 6 0) ∧ lookL st.env 12 = some (.ptr 192 15 0) ∧ lookL st.env 13 = some (.ptr 208 16 0) ∧ lookL st.env 15 = some (.d (.int .i64 i)) ∧ lookL st.env 16 = some (.own 912 v) ∧ lookL st.env 17 = some (.d (.int .i64 (0)))) :
    ∃ s v, o = some (.exit 4, s) ∧ obsL s.obs 80 = some (1, .box [.d (intss T)]) ∧ obsL s.obs 128 = some (3, .box [.d (intss Q)]) ∧ obsL s.obs 144 = some (4, .box [.d (.int .i64 D), .d (ints V)]) ∧ obsL s.obs 160 = some (5, .box [.d (.int .i64 0), .d .nil]) ∧ obsL s.obs 176 = some (6, .box [.d (.int .i64 0), .d .nil]) ∧ obsL s.obs 192 = some (15, .box [.d (.int .i64 M), .own 320 vu]) ∧ obsL s.obs 208 = some (16, .box [.d (.int .i64 D), .own 384 vw]) ∧ obsL s.obs 320 = some (vu, .row (icells ur)) ∧ obsL s.obs 384 = some (vw, .row (icells wr)) ∧ obsL s.obs 912 = some (v, .row (icells (imA im l (l.length)))) ∧ obsL s.obs 688 = none ∧ obsL s.obs 913 = none ∧ obsL s.obs 914 = none ∧ obsL s.obs 915 = none ∧ obsL s.obs 1296 = none ∧ lookL s.env 2 = some (.d (ints im)) ∧ lookL s.env 5 = some (.ptr 80 1 0) ∧ lookL s.env 8 = some (.ptr 128 3 0) ∧ lookL s.env 9 = some (.ptr 144 4 0) ∧ lookL s.env 10 = some (.ptr 160 5 0) ∧ lookL s.env 11 = some (.ptr 176 6 0) ∧ lookL s.env 12 = some (.ptr 192 15 0) ∧ lookL s.env 13 = some (.ptr 208 16 0) ∧ lookL s.env 15 = some (.d (.int .i64 i)) ∧ lookL s.env 16 = some (.own 912 v) := by
  have hB := B_eq
  generalize hl : lp Tryz.f64 2 = L at hx
  simp only [lp, bodyOf, Tryz.f64, Option.getD_some, loopsIn, List.append_nil, List.nil_append, List.cons_append, List.getD, List.getElem?_cons_zero, List.getElem?_cons_succ] at hl
  subst hl
  obtain ⟨qq, rfl, hqq⟩ := loop_end hx (l.length) (fun k s => ∃ g v, s = ⟨[(2, .d (ints im)), (5, .ptr 80 1 0), (8, .ptr 128 3 0), (9, .ptr 144 4 0), (10, .ptr 160 5 0), (11, .ptr 176 6 0), (12, .ptr 192 15 0), (13, .ptr 208 16 0), (15, .d (.int .i64 i)), (16, .own 912 v), (17, .d (.int .i64 k))], [(80, some (1, .box [.d (intss T)])), (128, some (3, .box [.d (intss Q)])), (144, some (4, .box [.d (.int .i64 D), .d (ints V)])), (160, some (5, .box [.d (.int .i64 0), .d .nil])), (176, some (6, .box [.d (.int .i64 0), .d .nil])), (192, some (15, .box [.d (.int .i64 M), .own 320 vu])), (208, some (16, .box [.d (.int .i64 D), .own 384 vw])), (320, some (vu, .row (icells ur))), (384, some (vw, .row (icells wr))), (912, some (v, .row (icells (imA im l k))))], g⟩)
    (fun qq => ∃ s v, qq = (.exit 4, s) ∧ obsL s.obs 80 = some (1, .box [.d (intss T)]) ∧ obsL s.obs 128 = some (3, .box [.d (intss Q)]) ∧ obsL s.obs 144 = some (4, .box [.d (.int .i64 D), .d (ints V)]) ∧ obsL s.obs 160 = some (5, .box [.d (.int .i64 0), .d .nil]) ∧ obsL s.obs 176 = some (6, .box [.d (.int .i64 0), .d .nil]) ∧ obsL s.obs 192 = some (15, .box [.d (.int .i64 M), .own 320 vu]) ∧ obsL s.obs 208 = some (16, .box [.d (.int .i64 D), .own 384 vw]) ∧ obsL s.obs 320 = some (vu, .row (icells ur)) ∧ obsL s.obs 384 = some (vw, .row (icells wr)) ∧ obsL s.obs 912 = some (v, .row (icells (imA im l (l.length)))) ∧ obsL s.obs 688 = none ∧ obsL s.obs 913 = none ∧ obsL s.obs 914 = none ∧ obsL s.obs 915 = none ∧ obsL s.obs 1296 = none ∧ lookL s.env 2 = some (.d (ints im)) ∧ lookL s.env 5 = some (.ptr 80 1 0) ∧ lookL s.env 8 = some (.ptr 128 3 0) ∧ lookL s.env 9 = some (.ptr 144 4 0) ∧ lookL s.env 10 = some (.ptr 160 5 0) ∧ lookL s.env 11 = some (.ptr 176 6 0) ∧ lookL s.env 12 = some (.ptr 192 15 0) ∧ lookL s.env 13 = some (.ptr 208 16 0) ∧ lookL s.env 15 = some (.d (.int .i64 i)) ∧ lookL s.env 16 = some (.own 912 v))
    (by show l.length < m; omega) (by
      simp -implicitDefEqProofs (maxSteps := 3000000) [f])
    (by
      rintro k s hk ⟨g, v, rfl⟩
      have w2 := wrap_id (n := (k : Int) + 1) (by omega)
      have h1 := hd k hk
      obtain ⟨x, hx⟩ := Int.eq_ofNat_of_zero_le h1.1
      have hxl : x < im.length := by omega
      have e1 := imA_rn im l hk
      have e2 := imA_len im l (show k ≤ l.length by omega)
      have e3 := imA_set im l hk
      rw [hx, Int.toNat_natCast] at e3
      rw [hx] at e1
      generalize imA im l k = X at *
      generalize imA im l (k + 1) = Y at *
      have hk2 : k < X.length := by omega
      simp -implicitDefEqProofs (maxSteps := 3000000) [hk, hk2, hxl, e1, e2, e3, w2])
    (by
      rintro s ⟨g, v, rfl⟩
      have e2 := imA_len im l (Nat.le_refl _)
      simp -implicitDefEqProofs (maxSteps := 3000000) [e2])
  obtain ⟨s, v, rfl, hf⟩ := hqq
  exact ⟨s, v, rfl, hf⟩
theorem ct_l03Pull (n : Nat) (hn : B + 3 + 2 ≤ n) (T Q : List (List Int)) (M : Int) (U V im : List Int) (p : Nat) (S : PulOk T.length Q.length M V im p) (hU : U.length = Q.length) :
    evalCall Tryz.prog An n 64 [.agg [.d (intss T)], .agg [.d (.int .i64 M), .d (ints U)], .d (ints im), .agg [.d (intss Q)], .agg [.d (.int .i64 p), .d (ints V)]] [] = some ⟨.tuple [.agg [.d (.int .i64 M), .own 0 0], .agg [.d (.int .i64 p), .own 1 0]], [.row (icells (sbU U im)), .row (icells (pulW T.length Q.length V im p))], []⟩ := by
  obtain ⟨m, rfl⟩ : ∃ m, n = m + 1 := ⟨n - 1, by omega⟩
  have hB := B_eq
  simp only [evalCall_at, fb64, bnd_some, bodyOf, Tryz.f64, Option.getD_some]
  generalize hb0 : Code.loop _ = cc0
  generalize hb1 : Code.loop _ = cc1
  obtain rfl : cc0 = .loop (lp Tryz.f64 0) := by rw [← hb0]; rfl
  clear hb0
  obtain rfl : cc1 = .loop (lp Tryz.f64 1) := by rw [← hb1]; rfl
  clear hb1
  have hp := S.hp
  have hN := S.hN
  have hM := S.hM
  have him := S.hi
  have c0 := ct_l01N m (by omega) T
  simp -implicitDefEqProofs (maxSteps := 3000000)
  generalize hx : loopC _ _ _ = x
  generalize hl : lp Tryz.f64 0 = L at hx
  simp only [lp, bodyOf, Tryz.f64, Option.getD_some, loopsIn, List.append_nil, List.nil_append, List.cons_append, List.getD, List.getElem?_cons_zero, List.getElem?_cons_succ] at hl
  subst hl
  obtain ⟨qq, rfl, hqq⟩ := loop_end hx (T.length) (fun i s => ∃ g v, s = ⟨[(2, .d (ints im)), (5, .ptr 80 1 0), (6, .ptr 96 2 0), (8, .ptr 128 3 0), (9, .ptr 144 4 0), (10, .ptr 160 5 0), (11, .ptr 176 6 0), (12, .ptr 192 15 0), (13, .ptr 208 16 0), (14, .d (.int .i64 i))], [(80, some (1, .box [.d (intss T)])), (96, some (2, .box [.d (.int .i64 M), .d (ints U)])), (128, some (3, .box [.d (intss Q)])), (144, some (4, .box [.d (.int .i64 p), .d (ints V)])), (160, some (5, .box [.d (.int .i64 0), .d .nil])), (176, some (6, .box [.d (.int .i64 0), .d .nil])), (192, some (15, .box [.d (.int .i64 M), .own 320 v])), (208, some (16, .box [.d (.int .i64 p), .own 384 13])), (320, some (v, .row (icells (tabI (sbF U im) i)))), (384, some (13, .row []))], g⟩)
    (fun qq => ∃ s v, qq = (.exit 0, s) ∧ lookL s.env 2 = some (.d (ints im)) ∧ lookL s.env 5 = some (.ptr 80 1 0) ∧ lookL s.env 6 = some (.ptr 96 2 0) ∧ lookL s.env 8 = some (.ptr 128 3 0) ∧ lookL s.env 9 = some (.ptr 144 4 0) ∧ lookL s.env 10 = some (.ptr 160 5 0) ∧ lookL s.env 11 = some (.ptr 176 6 0) ∧ lookL s.env 12 = some (.ptr 192 15 0) ∧ lookL s.env 13 = some (.ptr 208 16 0) ∧ lookL s.env 14 = some (.d (.int .i64 (T.length))) ∧ obsL s.obs 80 = some (1, .box [.d (intss T)]) ∧ obsL s.obs 96 = some (2, .box [.d (.int .i64 M), .d (ints U)]) ∧ obsL s.obs 128 = some (3, .box [.d (intss Q)]) ∧ obsL s.obs 144 = some (4, .box [.d (.int .i64 p), .d (ints V)]) ∧ obsL s.obs 160 = some (5, .box [.d (.int .i64 0), .d .nil]) ∧ obsL s.obs 176 = some (6, .box [.d (.int .i64 0), .d .nil]) ∧ obsL s.obs 192 = some (15, .box [.d (.int .i64 M), .own 320 v]) ∧ obsL s.obs 208 = some (16, .box [.d (.int .i64 p), .own 384 13]) ∧ obsL s.obs 320 = some (v, .row (icells (tabI (sbF U im) (T.length)))) ∧ obsL s.obs 384 = some (13, .row []) ∧ obsL s.obs 688 = none ∧ obsL s.obs 912 = none ∧ obsL s.obs 1296 = none)
    (by show T.length < m; omega) (by
      simp -implicitDefEqProofs (maxSteps := 3000000))
    (by
      rintro i s hi ⟨g, v, rfl⟩
      have w2 := wrap_id (n := (i : Int) + 1) (by omega)
      have hs := tabI_succ (sbF U im) i
      have hb := lt_bound (n := i) (by omega)
      have hb2 := le_bound (n := i) (by omega)
      have hr := S.bi i (by omega)
      have hi2 : i < im.length := by omega
      obtain ⟨a, ha⟩ := Int.eq_ofNat_of_zero_le hr.1
      have haN : a < U.length := by omega
      have es : sbF U im i = rn U a := by rw [sbF, ha, Int.toNat_natCast]
      rw [es] at hs
      simp -implicitDefEqProofs (maxSteps := 3000000) [c0, hi, hi2, ha, haN, w2, hb, hb2, hs])
    (by
      rintro s ⟨g, v, rfl⟩
      simp -implicitDefEqProofs (maxSteps := 3000000) [c0])
  obtain ⟨s, v, rfl, hf⟩ := hqq
  have eu : tabI (sbF U im) T.length = sbU U im := by rw [sbU, him]
  rw [eu] at hf
  simp -implicitDefEqProofs (maxSteps := 3000000) [hf]
  generalize sbU U im = ur at *
  have c1 := ct_l03Cells m (by omega) T hN p (by omega)
  have ec : cellsOf_ T.length p = (((T.length - 1) ^ p : Nat) : Int) := by rw [cellsOf_, Int.toNat_natCast, pow_cast hN.1]
  rw [ec] at c1
  have pb := pow_bd hN (show p ≤ 4 by omega)
  have cl : ∀ i < (T.length - 1) ^ p, _ := fun i hi => ct_l03List m (by omega) T hN p i (by omega) hi (by omega)
  have ca : ∀ i < (T.length - 1) ^ p, _ := fun i hi => ct_l03At m (by omega) Q S.hQ p V (imL im (digs (T.length - 1) p i)) (by simp; omega) (by simpa using S.hV) (S.inG hi)
  have dg : ∀ i < (T.length - 1) ^ p, _ := fun i hi => S.dg hi
  unfold pulW
  simp only [← show ∀ i, pulV T.length Q.length V im p i = atv Q.length V (imL im (digs (T.length - 1) p i)) from fun i => rfl] at ca
  generalize hK : (T.length - 1) ^ p = K at *
  generalize hx : loopC _ _ _ = x
  generalize hl : lp Tryz.f64 1 = L at hx
  simp only [lp, bodyOf, Tryz.f64, Option.getD_some, loopsIn, List.append_nil, List.nil_append, List.cons_append, List.getD, List.getElem?_cons_zero, List.getElem?_cons_succ] at hl
  subst hl
  generalize hb2 : Code.loop _ = cc2 at hx
  obtain rfl : cc2 = .loop (lp Tryz.f64 2) := by rw [← hb2]; rfl
  clear hb2
  obtain ⟨qq, rfl, hqq⟩ := loop_end hx (K) (fun i s => ∃ g w, s = ⟨[(2, .d (ints im)), (5, .ptr 80 1 0), (8, .ptr 128 3 0), (9, .ptr 144 4 0), (10, .ptr 160 5 0), (11, .ptr 176 6 0), (12, .ptr 192 15 0), (13, .ptr 208 16 0), (15, .d (.int .i64 i))], [(80, some (1, .box [.d (intss T)])), (128, some (3, .box [.d (intss Q)])), (144, some (4, .box [.d (.int .i64 p), .d (ints V)])), (160, some (5, .box [.d (.int .i64 0), .d .nil])), (176, some (6, .box [.d (.int .i64 0), .d .nil])), (192, some (15, .box [.d (.int .i64 M), .own 320 v])), (208, some (16, .box [.d (.int .i64 p), .own 384 w])), (320, some (v, .row (icells ur))), (384, some (w, .row (icells (tabI (pulV T.length Q.length V im p) i))))], g⟩)
    (fun qq => ∃ s w, qq = (.exit 2, s) ∧ lookL s.env 2 = some (.d (ints im)) ∧ lookL s.env 5 = some (.ptr 80 1 0) ∧ lookL s.env 8 = some (.ptr 128 3 0) ∧ lookL s.env 9 = some (.ptr 144 4 0) ∧ lookL s.env 10 = some (.ptr 160 5 0) ∧ lookL s.env 11 = some (.ptr 176 6 0) ∧ lookL s.env 12 = some (.ptr 192 15 0) ∧ lookL s.env 13 = some (.ptr 208 16 0) ∧ lookL s.env 15 = some (.d (.int .i64 (K))) ∧ obsL s.obs 80 = some (1, .box [.d (intss T)]) ∧ obsL s.obs 128 = some (3, .box [.d (intss Q)]) ∧ obsL s.obs 144 = some (4, .box [.d (.int .i64 p), .d (ints V)]) ∧ obsL s.obs 160 = some (5, .box [.d (.int .i64 0), .d .nil]) ∧ obsL s.obs 176 = some (6, .box [.d (.int .i64 0), .d .nil]) ∧ obsL s.obs 192 = some (15, .box [.d (.int .i64 M), .own 320 v]) ∧ obsL s.obs 208 = some (16, .box [.d (.int .i64 p), .own 384 w]) ∧ obsL s.obs 320 = some (v, .row (icells ur)) ∧ obsL s.obs 384 = some (w, .row (icells (tabI (pulV T.length Q.length V im p) (K)))))
    (by show K < m; omega) (by
      simp -implicitDefEqProofs (maxSteps := 3000000) [hf])
    (by
      rintro i s hi ⟨g, w, rfl⟩
      have w2 := wrap_id (n := (i : Int) + 1) (by omega)
      have c2 := cl i hi
      have c3 := ca i hi
      have hs := tabI_succ (pulV T.length Q.length V im p) i
      have hl := lt_bound (n := i) (by omega)
      have hl2 := le_bound (n := i) (by omega)
      have hd := dg i hi
      have hl3 : (digs (T.length - 1) p i).length = p := digs_len _ _ _
      have z0 := imA_zero im (digs (T.length - 1) p i)
      have z1 := imA_all im (digs (T.length - 1) p i)
      simp -implicitDefEqProofs (maxSteps := 3000000) [hi, c1, c2]
      generalize digs (T.length - 1) p i = l at *
      generalize hy : loopC _ _ _ = y
      obtain ⟨s, v3, rfl, hq⟩ := lp_l03Pull_2 m (by omega) T Q M p V im l ur (tabI (pulV T.length Q.length V im p) i) (by omega) (fun k hk => by have := hd k hk; omega) i v w hy (by simp -implicitDefEqProofs (maxSteps := 3000000) [z0]; rfl)
      rw [z1] at hq
      simp -implicitDefEqProofs (maxSteps := 3000000) [hq, w2, c3, hs, hl, hl2])
    (by
      rintro s ⟨g, w, rfl⟩
      simp -implicitDefEqProofs (maxSteps := 3000000) [c1])
  obtain ⟨s, w, rfl, hf⟩ := hqq
  simp -implicitDefEqProofs (maxSteps := 3000000) [hf]
end Go.Proofs.YtgklblkigjbggaaGreatE
