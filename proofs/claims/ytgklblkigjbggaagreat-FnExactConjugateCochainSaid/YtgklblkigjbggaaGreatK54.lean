/- Contracts of functions of the program and of the reference: what the evaluator gives for a call of each. -/
import Derived.Test.YtgklblkigjbggaaGreatAEf
import Derived.Test.YtgklblkigjbggaaGreatK0
import Derived.Test.YtgklblkigjbggaaGreatK4
import Derived.Test.YtgklblkigjbggaaGreatK5
import Derived.Test.YtgklblkigjbggaaGreatK6
import Derived.Test.YtgklblkigjbggaaGreatK7
import Derived.Test.YtgklblkigjbggaaGreatK11
import Derived.Test.YtgklblkigjbggaaGreatK15
import Derived.Test.YtgklblkigjbggaaGreatK26
import Derived.Test.YtgklblkigjbggaaGreatK28
import Derived.Test.YtgklblkigjbggaaGreatK31
import Derived.Test.YtgklblkigjbggaaGreatK33
import Derived.Test.YtgklblkigjbggaaGreatK34
import Derived.Test.YtgklblkigjbggaaGreatK36
import Derived.Test.YtgklblkigjbggaaGreatK37
import Derived.Test.YtgklblkigjbggaaGreatK38
import Derived.Test.YtgklblkigjbggaaGreatK42
import Derived.Test.YtgklblkigjbggaaGreatK44
import Derived.Test.YtgklblkigjbggaaGreatK46
import Derived.Test.YtgklblkigjbggaaGreatK51
import Derived.Test.YtgklblkigjbggaaGreatK52
namespace Go.Proofs.YtgklblkigjbggaaGreatE
open Go Go.Proofs
set_option maxHeartbeats 4000000
set_option maxRecDepth 4000
set_option linter.unusedSimpArgs false
set_option linter.unusedVariables false
set_option pp.deepTerms false
set_option pp.deepTerms.threshold 10
/-! ## ConjugateCochain -/
noncomputable def cbE (T : List (List Int)) (h : List Int) (c x : Nat) : Nat := pl h (cj T (inv T c) (rn (conjL T h c) x).toNat)
noncomputable def cbF (T : List (List Int)) (h : List Int) (c x : Nat) : Int := (cbE T h c x : Int)
noncomputable def cbI (T : List (List Int)) (h : List Int) (c : Nat) : List Int := tabI (cbF T h c) h.length
theorem cb_mem {T : List (List Int)} {h : List Int} (H : HGood T h) {c : Nat} (hc : c < T.length) {x : Nat} (hx : x < h.length) :
    ∃ b : Nat, b < T.length ∧ rn (conjL T h c) x = (b : Int) ∧ (cj T (inv T c) b : Int) ∈ h := by
  obtain ⟨a, a1, a2, e⟩ := (mem_conjL H.1 H.2.1 hc _).1 (mem_rn.2 ⟨x, by rw [conjL_len H hc]; exact hx, rfl⟩)
  exact ⟨cj T c a, cj_lt H.1 hc a2, e, by rw [cj_back H.1 hc a2]; exact a1⟩
theorem cb_lt {T : List (List Int)} {h : List Int} (H : HGood T h) {c : Nat} (hc : c < T.length) {x : Nat} (hx : x < h.length) : cbE T h c x < h.length := by
  obtain ⟨b, b1, b2, b3⟩ := cb_mem H hc hx
  have := (pl_spec b3).1
  rw [cbE, b2, Int.toNat_natCast]
  exact this
theorem rn_cbI {T : List (List Int)} {h : List Int} {c x : Nat} (hx : x < h.length) : rn (cbI T h c) x = (cbE T h c x : Int) := rn_tabI _ hx
theorem cbI_len (T : List (List Int)) (h : List Int) (c : Nat) : (cbI T h c).length = h.length := by simp -implicitDefEqProofs (maxSteps := 3000000) [cbI]
def CCGood (T : List (List Int)) (M : Int) (U l : List Int) (D : Int) (V : List Int) (c : Int) : Prop := (WGood T M U l ∧ 0 ≤ c ∧ c < T.length) ∧ IsCo (sbG T l) M D V
open Classical in
noncomputable def w1code (T : List (List Int)) (M : Int) (U l : List Int) (c : Int) : Int := if GM T M U then (if SetOk T l ∧ 0 ≤ c ∧ c < T.length then subcode T l else 2) else 1
open Classical in
noncomputable def cccode (T : List (List Int)) (M : Int) (U l : List Int) (c : Int) : Int := if WGood T M U l ∧ 0 ≤ c ∧ c < T.length then 1 else w1code T M U l c
theorem w1code_0 {T : List (List Int)} {M : Int} {U l : List Int} {c : Int} (h : WGood T M U l ∧ 0 ≤ c ∧ c < T.length) : w1code T M U l c = 0 := by
  rw [w1code, if_pos h.1.1, if_pos ⟨h.1.2.2.1, h.2⟩]; exact subcode_0 h.1.2
theorem w1code_ne {T : List (List Int)} {M : Int} {U l : List Int} {c : Int} (h : ¬ (WGood T M U l ∧ 0 ≤ c ∧ c < T.length)) : w1code T M U l c ≠ 0 := by
  unfold w1code
  split
  · rename_i z
    split
    · rename_i q
      exact subcode_ne fun y => h ⟨⟨z, y⟩, q.2⟩
    · omega
  · omega
noncomputable def ccV (T : List (List Int)) (M : Int) (U V l : List Int) (c p i : Nat) : Int := (rn U c * pulV l.length l.length V (cbI T l c) p i) % M
noncomputable def ccW (T : List (List Int)) (M : Int) (U V l : List Int) (c p : Nat) : List Int := tabI (ccV T M U V l c p) ((l.length - 1) ^ p)
theorem pulOk_cj {T : List (List Int)} {M : Int} {U l : List Int} {p : Nat} {V : List Int} {c : Nat} (h : CCGood T M U l p V c) : PulOk l.length l.length M V (cbI T l c) p := by
  obtain ⟨⟨⟨G, H⟩, _, hc⟩, C⟩ := h
  have hlen := setOk_len H.2.1
  have hp := H.pos
  have hT := G.1.1.1
  have hc' : c < T.length := by omega
  refine ⟨by omega, by omega, by have := C.1; omega, G.2.1.1, by have := C.2.1; rw [sbG_len] at this; simpa [cellsOf_] using this, C.2.2, cbI_len T l c, fun i hi => ?_⟩
  rw [cbI_len] at hi
  rw [rn_cbI hi]
  have := cb_lt H hc' hi
  omega
theorem ccM_bd {T : List (List Int)} {M : Int} {U V l : List Int} {p : Nat} {c : Nat} (h : CCGood T M U l p V c) (i : Nat) : 0 ≤ rn U c * pulV l.length l.length V (cbI T l c) p i ∧ rn U c * pulV l.length l.length V (cbI T l c) p i ≤ 121 := by
  have I := h.1.1.1.2
  have hM := I.1.1
  have hc : c < U.length := by rw [I.1.2]; have := h.1.2.2; omega
  have a := (I.2.1 c hc).1
  have b := (pulOk_cj h).bd i
  have := mul_bd (a := rn U c) (b := pulV l.length l.length V (cbI T l c) p i) (x := 11) (y := 11) (by omega) (by omega) b.1 (by omega)
  omega
theorem ct_withinCode1 (n : Nat) (hn : B + 10 ≤ n) (T : List (List Int)) (hT : T.length ≤ 2000000) (hr : ∀ i, (rown T i).length ≤ 1000000000000) (M : Int) (U : List Int) (hU : U.length ≤ 2000000) (l : List Int) (hl : l.length ≤ 10000000) (c : Int) :
    evalCall Tryz.prog An n 67 [.agg [.d (intss T)], .agg [.d (.int .i64 M), .d (ints U)], .d (ints l), .d (.sl 1 [.int .i64 c])] [] = some ⟨.d (.int .i64 (w1code T M U l c)), [], []⟩ := by
  obtain ⟨m, rfl⟩ : ∃ m, n = m + 1 := ⟨n - 1, by omega⟩
  have hB := B_eq
  simp only [evalCall_at, fb67, bnd_some, bodyOf, Tryz.f67, Option.getD_some]
  have c1 := ct_moduleCode1 m (by omega) T hT hr M U hU
  have c0 := ct_order m (by omega) T
  have c2 := ct_isSet m (by omega) T l hl
  have c3 := ct_areIn m (by omega) T.length [c] (by simp -implicitDefEqProofs (maxSteps := 3000000))
  rw [show ints [c] = .sl 1 [.int .i64 c] from rfl] at c3
  have c4 := ct_subgroupCode m (by omega) T hT hr l hl
  by_cases p : GM T M U
  · have e1 : mcode T M U = 0 := if_pos p
    rw [e1] at c1
    by_cases q : SetOk T l
    · rw [bl_true q] at c2
      by_cases y : 0 ≤ c ∧ c < T.length
      · rw [bl_true (all1.2 y)] at c3
        have e : w1code T M U l c = subcode T l := by rw [w1code, if_pos p, if_pos ⟨q, y⟩]
        rw [e]
        simp -implicitDefEqProofs (maxSteps := 3000000) [c1, c0, c2, c3, c4]
      · rw [bl_false (fun z => y (all1.1 z))] at c3
        have e : w1code T M U l c = 2 := by rw [w1code, if_pos p, if_neg (fun z => y z.2)]
        rw [e]
        simp -implicitDefEqProofs (maxSteps := 3000000) [c1, c0, c2, c3, c4]
    · rw [bl_false q] at c2
      have e : w1code T M U l c = 2 := by rw [w1code, if_pos p, if_neg (fun z => q z.1)]
      simp -implicitDefEqProofs (maxSteps := 3000000) [c1, c0, c2, c3, c4, e]
  · have e1 : mcode T M U = 1 := if_neg p
    rw [e1] at c1
    have e : w1code T M U l c = 1 := by rw [w1code, if_neg p]
    simp -implicitDefEqProofs (maxSteps := 3000000) [c1, e]
theorem ct_ConjC11 (n : Nat) (hn : B + 4 ≤ n) (T : List (List Int)) (h : List Int) (H : HGood T h) (c : Nat) (hc : c < T.length) (x : Nat) (hx : x < h.length) :
    evalCall Tryz.prog An n 90 [.d (.int .i64 x), .d (.cellp [ints h]), .d (.cellp [intss T]), .d (.cellp [.int .i64 (inv T c)]), .d (.cellp [ints (conjL T h c)])] [] = some ⟨.d (.int .i64 (cbE T h c x)), [], []⟩ := by
  obtain ⟨m, rfl⟩ : ∃ m, n = m + 1 := ⟨n - 1, by omega⟩
  have hB := B_eq
  simp only [evalCall_at, fb90, bnd_some, bodyOf, Tryz.f90, Option.getD_some]
  have G := H.1
  have hT := G.1.1
  have hlen := setOk_len H.2.1
  obtain ⟨b, b1, b2, b3⟩ := cb_mem H hc hx
  have hcl := conjL_len H hc
  have hi0 := (inv_spec G hc).1
  have c1 := ct_conjugate m (by omega) T G (inv T c) b hi0 b1
  have c2 := ct_IndexP m (by omega) h (by omega) (setOk_nodup H.2.1) (cj T (inv T c) b) b3
  have e : cbE T h c x = pl h (cj T (inv T c) b) := by rw [cbE, b2, Int.toNat_natCast]
  rw [e]
  generalize conjL T h c = K at *
  have hx2 : x < K.length := by omega
  simp -implicitDefEqProofs (maxSteps := 3000000) [hx2, b2, c1, c2]
theorem ct_ConjC1 (n : Nat) (hn : B + 4 + 4 ≤ n) (T : List (List Int)) (M : Int) (U V h : List Int) (p c : Nat) (hg : CCGood T M U h p V c) (i : Nat) (hi : i < (h.length - 1) ^ p) :
    evalCall Tryz.prog An n 87 [.d (ints (digs (h.length - 1) p i)), .d (.cellp [.int .i64 M, ints U]), .d (.cellp [.int .i64 c]), .d (.cellp [.int .i64 p, ints V]), .d (.cellp [intss (sbG T h)]), .d (.cellp [ints h]), .d (.cellp [intss T]), .d (.cellp [.int .i64 (inv T c)]), .d (.cellp [ints (conjL T h c)])] [] = some ⟨.d (.int .i64 (rn U c * pulV h.length h.length V (cbI T h c) p i)), [], []⟩ := by
  obtain ⟨m, rfl⟩ : ∃ m, n = m + 1 := ⟨n - 1, by omega⟩
  have hB := B_eq
  simp only [evalCall_at, fb87, bnd_some, bodyOf, Tryz.f87, Option.getD_some]
  have S := pulOk_cj hg
  have bd := ccM_bd hg i
  have H := hg.1.1.2
  have hp := S.hp
  have hQ := S.hQ
  have hc : c < T.length := by have := hg.1.2.2; omega
  have hcU : c < U.length := by rw [hg.1.1.1.2.1.2]; exact hc
  have hgi := S.inG hi
  have hd := S.dg hi
  have hl : (digs (h.length - 1) p i).length = p := digs_len _ _ _
  have hv := S.hV
  have e : pulV h.length h.length V (cbI T h c) p i = atv h.length V (imL (cbI T h c) (digs (h.length - 1) p i)) := rfl
  rw [e] at bd ⊢
  generalize digs (h.length - 1) p i = l at *
  have c1 := ct_mapped m (by omega) l (by omega) 90 [.cellp [ints h], .cellp [intss T], .cellp [.int .i64 (inv T c)], .cellp [ints (conjL T h c)]] (fun k => rn (cbI T h c) (rn l k).toNat) (B + 4) (by omega)
    (fun m hm k hk => by
      have h1 := hd k hk
      obtain ⟨x, hx⟩ := Int.eq_ofNat_of_zero_le h1.1
      have hxl : x < h.length := by omega
      have := ct_ConjC11 m hm T h H c hc x hxl
      have e3 := rn_cbI (T := T) (c := c) hxl
      simpa [hx, e3] using this) (by simp -implicitDefEqProofs (maxSteps := 3000000))
  have e2 : tabI (fun k => rn (cbI T h c) (rn l k).toNat) l.length = imL (cbI T h c) l := rfl
  rw [e2] at c1
  have c2 := ct_at m (by omega) (sbG T h) (by rw [sbG_len]; exact hQ) p V (imL (cbI T h c) l) (by simp; omega) (by rw [imL_len, hl, sbG_len]; exact hv) (by rw [sbG_len]; exact hgi)
  rw [sbG_len] at c2
  generalize imL (cbI T h c) l = X at *
  generalize atv h.length V X = Y at *
  have w := wrap_id (n := rn U c * Y) (by omega)
  simp -implicitDefEqProofs (maxSteps := 3000000) [c1, c2, hcU, w]
theorem lp_ConjC_1 (m : Nat) (hm : B + 8 ≤ m) (T : List (List Int)) (M : Int) (U V h : List Int) (p c : Nat) (hg : CCGood T M U h p V c) (l wr : List Int) (hl : l.length ≤ 3) (hd : ∀ k < l.length, 0 ≤ rn l k ∧ rn l k < h.length) (i vw : Nat)
    {st : St} {o : Option (Ex × St)} (hx : loopC (cxAt 34 m) (lp Tryz.f34 1) st = o) {v : Nat}
    (f : obsL st.obs 80 = some (1, .box [.d (intss T)]) ∧ obsL st.obs 96 = some (2, .box [.d (.int .i64 M), .d (ints U)]) ∧ obsL st.obs 128 = some (3, .box [.d (.int .i64 p), .d (ints V)]) ∧ obsL st.obs 160 = some (4, .box [.d (.int .i64 0), .d .nil]) ∧ obsL st.obs 208 = some (35, .box [.own 816 34]) ∧ obsL st.obs 256 = some (57, .box [.d (.int .i64 p), .own 1104 vw]) ∧ obsL st.obs 816 = some (34, .mat false (mcells (sbG T h))) ∧ obsL st.obs 1008 = some (47, .row (icells (conjL T h c))) ∧ obsL st.obs 1104 = some (vw, .row (icells wr)) ∧ obsL st.obs 1312 = some (v, .row (icells (imA (cbI T h c) l (0)))) ∧ obsL st.obs 817 = none ∧ obsL st.obs 818 = none ∧ obsL st.obs 819 = none ∧ obsL st.obs 1009 = none ∧ obsL st.obs 1010 = none ∧ obsL st.obs 1011 = none ∧ obsL st.obs 1313 = none ∧ obsL st.obs 1314 = none ∧ obsL st.obs 1315 = none ∧ obsL st.obs 1920 = none ∧ lookL st.env 2 = some (.d (ints h)) ∧ lookL st.env 4 = some (.d (.int .i64 c)) ∧ lookL st.env 5 = some (.ptr 80 1 0) ∧ lookL st.env 6 = some (.ptr 96 2 0) ∧ lookL st.env 8 = some (.ptr 128 3 0) ∧ lookL st.env 10 = some (.ptr 160 4 0) ∧ lookL st.env 13 = some (.ptr 208 35 0) ∧ lookL st.env 14 = some (.own 1008 47) ∧ lookL st.env 15 = some (.d (.int .i64 (inv T c))) ∧ lookL st.env 16 = some (.ptr 256 57 0) ∧ lookL st.env 17 = some (.d (.int .i64 i)) ∧ lookL st.env 18 = some (.own 1312 v) ∧ lookL st.env 19 = some (.d (.int .i64 (0)))) :
    ∃ s v, o = some (.exit 2, s) ∧ obsL s.obs 80 = some (1, .box [.d (intss T)]) ∧ obsL s.obs 96 = some (2, .box [.d (.int .i64 M), .d (ints U)]) ∧ obsL s.obs 128 = some (3, .box [.d (.int .i64 p), .d (ints V)]) ∧ obsL s.obs 160 = some (4, .box [.d (.int .i64 0), .d .nil]) ∧ obsL s.obs 208 = some (35, .box [.own 816 34]) ∧ obsL s.obs 256 = some (57, .box [.d (.int .i64 p), .own 1104 vw]) ∧ obsL s.obs 816 = some (34, .mat false (mcells (sbG T h))) ∧ obsL s.obs 1008 = some (47, .row (icells (conjL T h c))) ∧ obsL s.obs 1104 = some (vw, .row (icells wr)) ∧ obsL s.obs 1312 = some (v, .row (icells (imA (cbI T h c) l (l.length)))) ∧ obsL s.obs 817 = none ∧ obsL s.obs 818 = none ∧ obsL s.obs 819 = none ∧ obsL s.obs 1009 = none ∧ obsL s.obs 1010 = none ∧ obsL s.obs 1011 = none ∧ obsL s.obs 1313 = none ∧ obsL s.obs 1314 = none ∧ obsL s.obs 1315 = none ∧ obsL s.obs 1920 = none ∧ lookL s.env 2 = some (.d (ints h)) ∧ lookL s.env 4 = some (.d (.int .i64 c)) ∧ lookL s.env 5 = some (.ptr 80 1 0) ∧ lookL s.env 6 = some (.ptr 96 2 0) ∧ lookL s.env 8 = some (.ptr 128 3 0) ∧ lookL s.env 10 = some (.ptr 160 4 0) ∧ lookL s.env 13 = some (.ptr 208 35 0) ∧ lookL s.env 14 = some (.own 1008 47) ∧ lookL s.env 15 = some (.d (.int .i64 (inv T c))) ∧ lookL s.env 16 = some (.ptr 256 57 0) ∧ lookL s.env 17 = some (.d (.int .i64 i)) ∧ lookL s.env 18 = some (.own 1312 v) := by
  have hB := B_eq
  generalize hl : lp Tryz.f34 1 = L at hx
  simp only [lp, bodyOf, Tryz.f34, Option.getD_some, loopsIn, List.append_nil, List.nil_append, List.cons_append, List.getD, List.getElem?_cons_zero, List.getElem?_cons_succ] at hl
  subst hl
  obtain ⟨qq, rfl, hqq⟩ := loop_end hx (l.length) (fun k s => ∃ g v, s = ⟨[(2, .d (ints h)), (4, .d (.int .i64 c)), (5, .ptr 80 1 0), (6, .ptr 96 2 0), (8, .ptr 128 3 0), (10, .ptr 160 4 0), (13, .ptr 208 35 0), (14, .own 1008 47), (15, .d (.int .i64 (inv T c))), (16, .ptr 256 57 0), (17, .d (.int .i64 i)), (18, .own 1312 v), (19, .d (.int .i64 k))], [(80, some (1, .box [.d (intss T)])), (96, some (2, .box [.d (.int .i64 M), .d (ints U)])), (128, some (3, .box [.d (.int .i64 p), .d (ints V)])), (160, some (4, .box [.d (.int .i64 0), .d .nil])), (208, some (35, .box [.own 816 34])), (256, some (57, .box [.d (.int .i64 p), .own 1104 vw])), (816, some (34, .mat false (mcells (sbG T h)))), (1008, some (47, .row (icells (conjL T h c)))), (1104, some (vw, .row (icells wr))), (1312, some (v, .row (icells (imA (cbI T h c) l k))))], g⟩)
    (fun qq => ∃ s v, qq = (.exit 2, s) ∧ obsL s.obs 80 = some (1, .box [.d (intss T)]) ∧ obsL s.obs 96 = some (2, .box [.d (.int .i64 M), .d (ints U)]) ∧ obsL s.obs 128 = some (3, .box [.d (.int .i64 p), .d (ints V)]) ∧ obsL s.obs 160 = some (4, .box [.d (.int .i64 0), .d .nil]) ∧ obsL s.obs 208 = some (35, .box [.own 816 34]) ∧ obsL s.obs 256 = some (57, .box [.d (.int .i64 p), .own 1104 vw]) ∧ obsL s.obs 816 = some (34, .mat false (mcells (sbG T h))) ∧ obsL s.obs 1008 = some (47, .row (icells (conjL T h c))) ∧ obsL s.obs 1104 = some (vw, .row (icells wr)) ∧ obsL s.obs 1312 = some (v, .row (icells (imA (cbI T h c) l (l.length)))) ∧ obsL s.obs 817 = none ∧ obsL s.obs 818 = none ∧ obsL s.obs 819 = none ∧ obsL s.obs 1009 = none ∧ obsL s.obs 1010 = none ∧ obsL s.obs 1011 = none ∧ obsL s.obs 1313 = none ∧ obsL s.obs 1314 = none ∧ obsL s.obs 1315 = none ∧ obsL s.obs 1920 = none ∧ lookL s.env 2 = some (.d (ints h)) ∧ lookL s.env 4 = some (.d (.int .i64 c)) ∧ lookL s.env 5 = some (.ptr 80 1 0) ∧ lookL s.env 6 = some (.ptr 96 2 0) ∧ lookL s.env 8 = some (.ptr 128 3 0) ∧ lookL s.env 10 = some (.ptr 160 4 0) ∧ lookL s.env 13 = some (.ptr 208 35 0) ∧ lookL s.env 14 = some (.own 1008 47) ∧ lookL s.env 15 = some (.d (.int .i64 (inv T c))) ∧ lookL s.env 16 = some (.ptr 256 57 0) ∧ lookL s.env 17 = some (.d (.int .i64 i)) ∧ lookL s.env 18 = some (.own 1312 v))
    (by show l.length < m; omega) (by
      simp -implicitDefEqProofs (maxSteps := 3000000) [f])
    (by
      rintro k s hk ⟨g, v, rfl⟩
      have w2 := wrap_id (n := (k : Int) + 1) (by omega)
      have h1 := hd k hk
      obtain ⟨x, hx⟩ := Int.eq_ofNat_of_zero_le h1.1
      have hxl : x < h.length := by omega
      have H := hg.1.1.2
      have G := H.1
      have hT := G.1.1
      have hlen := setOk_len H.2.1
      have hc : c < T.length := by have := hg.1.2.2; omega
      obtain ⟨b, b1, b2, b3⟩ := cb_mem H hc hxl
      have hcl := conjL_len H hc
      have hi0 := (inv_spec G hc).1
      have c1 := ct_l01Conjugate m (by omega) T G b (inv T c) b1 hi0
      have c2 := ct_l07Place m (by omega) h (by omega) (setOk_nodup H.2.1) (cj T (inv T c) b) b3
      have e : cbE T h c x = pl h (cj T (inv T c) b) := by rw [cbE, b2, Int.toNat_natCast]
      have e1 := imA_rn (cbI T h c) l hk
      have e2 := imA_len (cbI T h c) l (show k ≤ l.length by omega)
      have e3 := imA_set (cbI T h c) l hk
      rw [hx, Int.toNat_natCast, rn_cbI hxl, e] at e3
      rw [hx] at e1
      generalize imA (cbI T h c) l k = X at *
      generalize imA (cbI T h c) l (k + 1) = Y at *
      generalize conjL T h c = K at *
      have hx2 : x < K.length := by omega
      have hk2 : k < X.length := by omega
      simp -implicitDefEqProofs (maxSteps := 3000000) [hk, hk2, hx2, b2, c1, c2, e1, e2, e3, w2])
    (by
      rintro s ⟨g, v, rfl⟩
      have e2 := imA_len (cbI T h c) l (Nat.le_refl _)
      simp -implicitDefEqProofs (maxSteps := 3000000) [e2])
  obtain ⟨s, v, rfl, hf⟩ := hqq
  exact ⟨s, v, rfl, hf⟩
end Go.Proofs.YtgklblkigjbggaaGreatE
