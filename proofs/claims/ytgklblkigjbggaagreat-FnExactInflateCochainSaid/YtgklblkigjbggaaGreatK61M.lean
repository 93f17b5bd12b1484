/- Contracts of functions of the program and of the reference: what the evaluator gives for a call of each. -/
import Derived.Test.YtgklblkigjbggaaGreatAEf
import Derived.Test.YtgklblkigjbggaaGreatK0
import Derived.Test.YtgklblkigjbggaaGreatK3
import Derived.Test.YtgklblkigjbggaaGreatK33
import Derived.Test.YtgklblkigjbggaaGreatK34
import Derived.Test.YtgklblkigjbggaaGreatK35
import Derived.Test.YtgklblkigjbggaaGreatK36
import Derived.Test.YtgklblkigjbggaaGreatK38
import Derived.Test.YtgklblkigjbggaaGreatK42
import Derived.Test.YtgklblkigjbggaaGreatK47
import Derived.Test.YtgklblkigjbggaaGreatK5
import Derived.Test.YtgklblkigjbggaaGreatK15
import Derived.Test.YtgklblkigjbggaaGreatK17
import Derived.Test.YtgklblkigjbggaaGreatK37
import Derived.Test.YtgklblkigjbggaaGreatK40
import Derived.Test.YtgklblkigjbggaaGreatK45
import Derived.Test.YtgklblkigjbggaaGreatK4
import Derived.Test.YtgklblkigjbggaaGreatK6
import Derived.Test.YtgklblkigjbggaaGreatK8
import Derived.Test.YtgklblkigjbggaaGreatK11
import Derived.Test.YtgklblkigjbggaaGreatK31
import Derived.Test.YtgklblkigjbggaaGreatK44
import Derived.Test.YtgklblkigjbggaaGreatK46
import Derived.Test.YtgklblkigjbggaaGreatK7
import Derived.Test.YtgklblkigjbggaaGreatK19
import Derived.Test.YtgklblkigjbggaaGreatK28
import Derived.Test.YtgklblkigjbggaaGreatK29
import Derived.Test.YtgklblkigjbggaaGreatK21
import Derived.Test.YtgklblkigjbggaaGreatK32
import Derived.Test.YtgklblkigjbggaaGreatK39
import Derived.Test.YtgklblkigjbggaaGreatK43
namespace Go.Proofs.YtgklblkigjbggaaGreatE
open Go Go.Proofs
set_option maxHeartbeats 4000000
set_option maxRecDepth 4000
set_option linter.unusedSimpArgs false
set_option linter.unusedVariables false
set_option pp.deepTerms false
set_option pp.deepTerms.threshold 10
/-! ## TransferElement -/
noncomputable def fr (T : List (List Int)) (h : List Int) (w : Nat) : Nat := (rn (firsts T h) (rn (nums T h) w).toNat).toNat
noncomputable def stp (T : List (List Int)) (h : List Int) (x t : Nat) : Nat := mu T (inv T (fr T h (mu T x t))) (mu T x t)
noncomputable def trN (T : List (List Int)) (h : List Int) (x : Nat) : Nat → Nat
  | 0 => 0
  | i + 1 => mu T (trN T h x i) (stp T h x (rn (firsts T h) i).toNat)
theorem fr_lt {T : List (List Int)} {h : List Int} (H : HGood T h) {w : Nat} (hw : w < T.length) : (rn (nums T h) w).toNat < (firsts T h).length ∧ fr T h w < T.length ∧ rn (nums T h) w = ((rn (nums T h) w).toNat : Int) ∧ rn (firsts T h) (rn (nums T h) w).toNat = (fr T h w : Int) := by
  have h1 := nums_bd H w hw
  have h2 := (firsts_bd T h).2 (rn (nums T h) w).toNat (by omega)
  refine ⟨by omega, ?_, by omega, ?_⟩
  · simp only [fr]; omega
  · simp only [fr]; omega
theorem stp_lt {T : List (List Int)} {h : List Int} (H : HGood T h) {x t : Nat} (hx : x < T.length) (ht : t < T.length) : stp T h x t < T.length :=
  mu_lt H.1 (inv_spec H.1 (fr_lt H (mu_lt H.1 hx ht)).2.1).1 (mu_lt H.1 hx ht)
theorem fst_nat {T : List (List Int)} {h : List Int} {i : Nat} (hi : i < (firsts T h).length) : rn (firsts T h) i = ((rn (firsts T h) i).toNat : Int) ∧ (rn (firsts T h) i).toNat < T.length := by
  have := (firsts_bd T h).2 i hi
  omega
theorem trN_lt {T : List (List Int)} {h : List Int} (H : HGood T h) {x : Nat} (hx : x < T.length) : ∀ i ≤ (firsts T h).length, trN T h x i < T.length
  | 0, _ => zero_lt_len H.1
  | i + 1, hi => mu_lt H.1 (trN_lt H hx i (by omega)) (stp_lt H hx (fst_nat (by omega)).2)
theorem ct_l07Step (n : Nat) (hn : B + 3 ≤ n) (T : List (List Int)) (h : List Int) (H : HGood T h) (x t : Nat) (hx : x < T.length) (ht : t < T.length) :
    evalCall Tryz.prog An n 96 [.agg [.d (intss T)], .d (ints (nums T h)), .d (ints (firsts T h)), .d (.int .i64 x), .d (.int .i64 t)] [] = some ⟨.tuple [.d (.int .i64 (fr T h (mu T x t))), .d (.int .i64 (stp T h x t))], [], []⟩ := by
  obtain ⟨m, rfl⟩ : ∃ m, n = m + 1 := ⟨n - 1, by omega⟩
  have hB := B_eq
  simp only [evalCall_at, fb96, bnd_some, bodyOf, Tryz.f96, Option.getD_some]
  have G := H.1
  have m1 := mu_cl G.1 hx ht
  obtain ⟨f1, f2, f3, f4⟩ := fr_lt H m1.2
  have hi0 := (inv_spec G f2).1
  have c1 := ct_l01Inverse m (by omega) T G (fr T h (mu T x t)) f2
  have rx := (G.1.2 x hx).1
  have m2 := mu_cl G.1 hi0 m1.2
  have ri := (G.1.2 _ hi0).1
  have nl := nums_len T h
  have e : (stp T h x t : Int) = cl T (inv T (fr T h (mu T x t))) (mu T x t) := by rw [m2.1]; rfl
  rw [e]
  have h1 := m1.1
  have h2 := m1.2
  simp only [cl] at h1 ⊢
  generalize (rn (nums T h) (mu T x t)).toNat = q at *
  simp -implicitDefEqProofs (maxSteps := 3000000) [hx, ht, rx, h1, h2, nl, f1, f3, f4, c1, hi0, ri]
def TGood (T : List (List Int)) (l : List Int) (c : Int) : Prop := (HGood T l ∧ 0 ≤ c ∧ c < T.length) ∧ (cenL (sbG T l)).length = l.length
open Classical in
noncomputable def tcode (T : List (List Int)) (l : List Int) (c : Int) : Int := if HGood T l ∧ 0 ≤ c ∧ c < T.length then 5 else cjcode T l c
end Go.Proofs.YtgklblkigjbggaaGreatE

namespace Go.Proofs.YtgklblkigjbggaaGreatE
open Go Go.Proofs
set_option maxHeartbeats 4000000
set_option maxRecDepth 4000
set_option linter.unusedSimpArgs false
set_option linter.unusedVariables false
set_option pp.deepTerms false
set_option pp.deepTerms.threshold 10
/-! ## cochains pulled back along images -/
def imL (im l : List Int) : List Int := tabI (fun k => rn im (rn l k).toNat) l.length
@[simp] theorem imL_len (im l : List Int) : (imL im l).length = l.length := by simp -implicitDefEqProofs (maxSteps := 3000000) [imL]
theorem imL_inG {Q : Nat} {im l : List Int} (h : ∀ j < im.length, 0 ≤ rn im j ∧ rn im j < Q) (hl : ∀ k < l.length, 0 ≤ rn l k ∧ rn l k < im.length) : InG Q (imL im l) := fun k hk => by
  have hk' : k < l.length := by simpa using hk
  have e : rn (imL im l) k = rn im (rn l k).toNat := rn_tabI _ hk'
  have := hl k hk'
  have := h (rn l k).toNat (by omega)
  omega
noncomputable def pulV (N Q : Nat) (V im : List Int) (p i : Nat) : Int := atv Q V (imL im (digs (N - 1) p i))
noncomputable def pulW (N Q : Nat) (V im : List Int) (p : Nat) : List Int := tabI (pulV N Q V im p) ((N - 1) ^ p)
structure PulOk (N Q : Nat) (M : Int) (V im : List Int) (p : Nat) : Prop where
  hN : 1 ≤ N ∧ N ≤ 8
  hQ : 1 ≤ Q ∧ Q ≤ 8
  hp : p ≤ 3
  hM : 2 ≤ M ∧ M ≤ 12
  hV : (V.length : Int) = ((Q : Int) - 1) ^ p
  bV : ∀ i < V.length, 0 ≤ rn V i ∧ rn V i ≤ M - 1
  hi : im.length = N
  bi : ∀ i < im.length, 0 ≤ rn im i ∧ rn im i < Q
theorem PulOk.dg {N Q : Nat} {M : Int} {V im : List Int} {p : Nat} (S : PulOk N Q M V im p) {i : Nat} (h : i < (N - 1) ^ p) : InG N (digs (N - 1) p i) := digs_inG S.hN.1 h
theorem PulOk.inG {N Q : Nat} {M : Int} {V im : List Int} {p : Nat} (S : PulOk N Q M V im p) {i : Nat} (h : i < (N - 1) ^ p) : InG Q (imL im (digs (N - 1) p i)) := imL_inG S.bi fun k hk => by
  have := S.dg h k hk
  rw [S.hi]; exact this
theorem PulOk.bd {N Q : Nat} {M : Int} {V im : List Int} {p : Nat} (S : PulOk N Q M V im p) (i : Nat) : 0 ≤ pulV N Q V im p i ∧ pulV N Q V im p i ≤ M - 1 := atv_bd (by have := S.hM; omega) S.bV
theorem pulW_bd {N Q : Nat} {M : Int} {V im : List Int} {p : Nat} (S : PulOk N Q M V im p) : (pulW N Q V im p).length ≤ 343 := by
  have := pow_bd S.hN (show p ≤ 4 by have := S.hp; omega)
  have := (cells_bd S.hN p S.hp).2
  rw [pow_cast S.hN.1] at this
  simp only [pulW, tabI_len]
  omega
theorem imL_succ (im l : List Int) {k : Nat} (hk : k < l.length) : (tabI (fun j => rn im (rn l j).toNat) k ++ l.drop k).set k (rn im (rn l k).toNat) = tabI (fun j => rn im (rn l j).toNat) (k + 1) ++ l.drop (k + 1) := by
  rw [List.set_append_right _ _ (by simp -implicitDefEqProofs (maxSteps := 3000000)), tabI_len, Nat.sub_self, List.drop_eq_getElem_cons hk, List.set_cons_zero, ← tabI_succ, List.append_assoc]
  rfl
def imA (im l : List Int) (k : Nat) : List Int := tabI (fun j => rn im (rn l j).toNat) k ++ l.drop k
theorem imA_len (im l : List Int) {k : Nat} (hk : k ≤ l.length) : (imA im l k).length = l.length := by simp -implicitDefEqProofs (maxSteps := 3000000) [imA]; omega
theorem imA_zero (im l : List Int) : imA im l 0 = l := by simp -implicitDefEqProofs (maxSteps := 3000000) [imA]
theorem imA_all (im l : List Int) : imA im l l.length = imL im l := by simp -implicitDefEqProofs (maxSteps := 3000000) [imA, imL]
theorem imA_set (im l : List Int) {k : Nat} (hk : k < l.length) : (imA im l k).set k (rn im (rn l k).toNat) = imA im l (k + 1) := imL_succ im l hk
theorem imA_rn (im l : List Int) {k : Nat} (hk : k < l.length) : rn (imA im l k) k = rn l k := by
  simp only [imA, rn, List.getD, List.getElem?_append, tabI_len, Nat.lt_irrefl, if_false, Nat.sub_self, List.getElem?_drop, Nat.add_zero]
theorem ct_pulled11 (n : Nat) (hn : B + 1 ≤ n) (im : List Int) (x : Nat) (hx : x < im.length) :
    evalCall Tryz.prog An n 155 [.d (.int .i64 x), .d (.cellp [ints im])] [] = some ⟨.d (.int .i64 (rn im x)), [], []⟩ := by
  obtain ⟨m, rfl⟩ : ∃ m, n = m + 1 := ⟨n - 1, by omega⟩
  have hB := B_eq
  simp only [evalCall_at, fb155, bnd_some, bodyOf, Tryz.f155, Option.getD_some]
  simp -implicitDefEqProofs (maxSteps := 3000000) [hx]
theorem ct_pulled1 (n : Nat) (hn : B + 4 ≤ n) (N : Nat) (Q : List (List Int)) (M D : Int) (V im : List Int) (p : Nat) (S : PulOk N Q.length M V im p) (i : Nat) (hi : i < (N - 1) ^ p) :
    evalCall Tryz.prog An n 154 [.d (ints (digs (N - 1) p i)), .d (.cellp [.int .i64 D, ints V]), .d (.cellp [intss Q]), .d (.cellp [ints im])] [] = some ⟨.d (.int .i64 (pulV N Q.length V im p i)), [], []⟩ := by
  obtain ⟨m, rfl⟩ : ∃ m, n = m + 1 := ⟨n - 1, by omega⟩
  have hB := B_eq
  simp only [evalCall_at, fb154, bnd_some, bodyOf, Tryz.f154, Option.getD_some]
  have hp := S.hp
  have hQ := S.hQ
  have hg := S.inG hi
  have hd := S.dg hi
  have hl : (digs (N - 1) p i).length = p := digs_len _ _ _
  have hv := S.hV
  have him := S.hi
  have e : pulV N Q.length V im p i = atv Q.length V (imL im (digs (N - 1) p i)) := rfl
  rw [e]
  generalize digs (N - 1) p i = l at *
  have c1 := ct_mapped m (by omega) l (by omega) 155 [.cellp [ints im]] (fun k => rn im (rn l k).toNat) (B + 1) (by omega)
    (fun m hm k hk => by
      have h1 := hd k hk
      obtain ⟨x, hx⟩ := Int.eq_ofNat_of_zero_le h1.1
      have := ct_pulled11 m hm im x (by omega)
      simpa [hx] using this) (by simp -implicitDefEqProofs (maxSteps := 3000000))
  have e2 : tabI (fun k => rn im (rn l k).toNat) l.length = imL im l := rfl
  rw [e2] at c1
  have c2 := ct_at m (by omega) Q hQ D V (imL im l) (by simp; omega) (by rw [imL_len, hl]; exact hv) hg
  simp -implicitDefEqProofs (maxSteps := 3000000) [c1, c2]
theorem ct_pulled (n : Nat) (hn : B + 6 ≤ n) (T Q : List (List Int)) (M : Int) (U V im : List Int) (p : Nat) (S : PulOk T.length Q.length M V im p) (hU : U.length = Q.length) :
    evalCall Tryz.prog An n 68 [.agg [.d (intss T)], .agg [.d (intss Q)], .agg [.d (.int .i64 M), .d (ints U)], .d (ints im), .agg [.d (.int .i64 p), .d (ints V)]] [] = some ⟨.tuple [.agg [.d (.int .i64 M), .own 0 0], .agg [.d (.int .i64 p), .own 1 0]], [.row (icells (sbU U im)), .row (icells (pulW T.length Q.length V im p))], []⟩ := by
  obtain ⟨m, rfl⟩ : ∃ m, n = m + 1 := ⟨n - 1, by omega⟩
  have hB := B_eq
  simp only [evalCall_at, fb68, bnd_some, bodyOf, Tryz.f68, Option.getD_some]
  have hp := S.hp
  have hN := S.hN
  have hM := S.hM
  have him := S.hi
  have c1 := ct_restricted m (by omega) T im (by omega) (by omega) M U (fun i hi => by rw [hU]; exact S.bi i hi)
  have c2 := ct_toldG m (by omega) T hN M (by omega) p (by omega) 154 [.cellp [.int .i64 p, ints V], .cellp [intss Q], .cellp [ints im]] (fun l => atv Q.length V (imL im l)) (B + 4) (by omega)
    (fun m hm i hi => by simpa [pulV] using ct_pulled1 m hm T.length Q M p V im p S i hi)
    (fun i hi => by have := S.bd i; simp only [pulV] at this; omega) (by simp -implicitDefEqProofs (maxSteps := 3000000))
  have e : (fun i => atv Q.length V (imL im (digs (T.length - 1) p i)) % M) = pulV T.length Q.length V im p := by
    funext i
    have b := S.bd i
    exact Int.emod_eq_of_lt b.1 (by simp only [pulV] at b; omega)
  rw [e] at c2
  have e2 : tabI (pulV T.length Q.length V im p) ((T.length - 1) ^ p) = pulW T.length Q.length V im p := rfl
  rw [e2] at c2
  simp -implicitDefEqProofs (maxSteps := 3000000) [c1, c2]
theorem lp_l03Pull_2 (m : Nat) (hm : B + 2 ≤ m) (T Q : List (List Int)) (M D : Int) (V im l ur wr : List Int) (hl : l.length ≤ 3) (hd : ∀ k < l.length, 0 ≤ rn l k ∧ rn l k < im.length) (i vu vw : Nat)
    {st : St} {o : Option (Ex × St)} (hx : loopC (cxAt 64 m) (lp Tryz.f64 2) st = o) {v : Nat}
    (f : obsL st.obs 80 = some (1, .box [.d (intss T)]) ∧ obsL st.obs 128 = some (3, .box [.d (intss Q)]) ∧ obsL st.obs 144 = some (4, .box [.d (.int .i64 D), .d (ints V)]) ∧ obsL st.obs 160 = some (5, .box [.d (.int .i64 0), .d .nil]) ∧ obsL st.obs 176 = some (6, .box [.d (.int .i64 0), .d .nil]) ∧ obsL st.obs 192 = some (15, .box [.d (.int .i64 M), .own 320 vu]) ∧ obsL st.obs 208 = some (16, .box [.d (.int .i64 D), .own 384 vw]) ∧ obsL st.obs 320 = some (vu, .row (icells ur)) ∧ obsL st.obs 384 = some (vw, .row (icells wr)) ∧ obsL st.obs 912 = some (v, .row (icells (imA im l (0)))) ∧ obsL st.obs 688 = none ∧ obsL st.obs 913 = none ∧ obsL st.obs 914 = none ∧ obsL st.obs 915 = none ∧ obsL st.obs 1296 = none ∧ lookL st.env 2 = some (.d (ints im)) ∧ lookL st.env 5 = some (.ptr 80 1 0) ∧ lookL st.env 8 = some (.ptr 128 3 0) ∧ lookL st.env 9 = some (.ptr 144 4 0) ∧ lookL st.env 10 = some (.ptr 160 5 0) ∧ lookL st.env 11 = some (.ptr 176 6 0) ∧ lookL st.env 12 = some (.ptr 192 15 0) ∧ lookL st.env 13 = some (.ptr 208 16 0) ∧ lookL st.env 15 = some (.d (.int .i64 i)) ∧ lookL st.env 16 = some (.own 912 v) ∧ lookL st.env 17 = some (.d (.int .i64 (0)))) :
    ∃ s v, o = some (.exit 4, s) ∧ obsL s.obs 80 = some (1, .box [.d (intss T)]) ∧ obsL s.obs 128 = some (3, .box [.d (intss Q)]) ∧ obsL s.obs 144 = some (4, .box [.d (.int .i64 D), .d (ints V)]) ∧ obsL s.obs 160 = some (5, .box [.d (.int .i64 0), .d .nil]) ∧ obsL s.obs 176 = some (6, .box [.d (.int .i64 0), .d .nil]) ∧ obsL s.obs 192 = some (15, .box [.d (.int .i64 M), .own 320 vu]) ∧ obsL s.obs 208 = some (16, .box [.d (.int .i64 D), .own 384 vw]) ∧ obsL s.obs 320 = some (vu, .row (icells ur)) ∧ obsL s.obs 384 = some (vw, .row (icells wr)) ∧ obsL s.obs 912 = some (v, .row (icells (imA im l (l.length)))) ∧ obsL s.obs 688 = none ∧ obsL s.obs 913 = none ∧ obsL s.obs 914 = none ∧ obsL s.obs 915 = none ∧ obsL s.obs 1296 = none ∧ lookL s.env 2 = some (.d (ints im)) ∧ lookL s.env 5 = some (.ptr 80 1 0) ∧ lookL s.env 8 = some (.ptr 128 3 0) ∧ lookL s.env 9 = some (.ptr 144 4 0) ∧ lookL s.env 10 = some (.ptr 160 5 0) ∧ lookL s.env 11 = some (.ptr 176 6 0) ∧ lookL s.env 12 = some (.ptr 192 15 0) ∧ lookL s.env 13 = some (.ptr 208 16 0) ∧ lookL s.env 15 = some (.d (.int .i64 i)) ∧ lookL s.env 16 = some (.own 912 v) := by
  have hB := B_eq
  generalize hl : lp Tryz.f64 2 = L at hx
  simp only [lp, bodyOf, Tryz.f64, Option.getD_some, loopsIn, List.append_nil, List.nil_append, List.cons_append, List.getD, List.getElem?_cons_zero, List.getElem?_cons_succ] at hl
  subst hl
  obtain ⟨qq, rfl, hqq⟩ := loop_end hx (l.length) (fun k s => ∃ g v, s = ⟨[(2, .d (ints im)), (5, .ptr 80 1 0), (8, .ptr 128 3 0), (9, .ptr 144 4 0), (10, .ptr 160 5 0), (11, .ptr 176 6 0), (12, .ptr 192 15 0), (13, .ptr 208 16 0), (15, .d (.int .i64 i)), (16, .own 912 v), (17, .d (.int .i64 k))], [(80, some (1, .box [.d (intss T)])), (128, some (3, .box [.d (intss Q)])), (144, some (4, .box [.d (.int .i64 D), .d (ints V)])), (160, some (5, .box [.d (.int .i64 0), .d .nil])), (176, some (6, .box [.d (.int .i64 0), .d .nil])), (192, some (15, .box [.d (.int .i64 M), .own 320 vu])), (208, some (16, .box [.d (.int .i64 D), .own 384 vw])), (320, some (vu, .row (icells ur))), (384, some (vw, .row (icells wr))), (912, some (v, .row (icells (imA im l k))))], g⟩)
    (fun qq => ∃ s v, qq = (.exit 4, s) ∧ obsL s.obs 80 = some (1, .box [.d (intss T)]) ∧ obsL s.obs 128 = some (3, .box [.d (intss Q)]) ∧ obsL s.obs 144 = some (4, .box [.d (.int .i64 D), .d (ints V)]) ∧ obsL s.obs 160 = some (5, .box [.d (.int .i64 0), .d .nil]) ∧ obsL s.obs 176 = some (6, .box [.d (.int .i64 0), .d .nil]) ∧ obsL s.obs 192 = some (15, .box [.d (.int .i64 M), .own 320 vu]) ∧ obsL s.obs 208 = some (16, .box [.d (.int .i64 D), .own 384 vw]) ∧ obsL s.obs 320 = some (vu, .row (icells ur)) ∧ obsL s.obs 384 = some (vw, .row (icells wr)) ∧ obsL s.obs 912 = some (v, .row (icells (imA im l (l.length)))) ∧ obsL s.obs 688 = none ∧ obsL s.obs 913 = none ∧ obsL s.obs 914 = none ∧ obsL s.obs 915 = none ∧ obsL s.obs 1296 = none ∧ lookL s.env 2 = some (.d (ints im)) ∧ lookL s.env 5 = some (.ptr 80 1 0) ∧ lookL s.env 8 = some (.ptr 128 3 0) ∧ lookL s.env 9 = some (.ptr 144 4 0) ∧ lookL s.env 10 = some (.ptr 160 5 0) ∧ lookL s.env 11 = some (.ptr 176 6 0) ∧ lookL s.env 12 = some (.ptr 192 15 0) ∧ lookL s.env 13 = some (.ptr 208 16 0) ∧ lookL s.env 15 = some (.d (.int .i64 i)) ∧ lookL s.env 16 = some (.own 912 v))
    (by show l.length < m; omega) (by
      simp -implicitDefEqProofs (maxSteps := 3000000) [f])
    (by
      rintro k s hk ⟨g, v, rfl⟩
      have w2 := wrap_id (n := (k : Int) + 1) (by omega)
      have h1 := hd k hk
      obtain ⟨x, hx⟩ := Int.eq_ofNat_of_zero_le h1.1
      have hxl : x < im.length := by omega
      have e1 := imA_rn im l hk
      have e2 := imA_len im l (show k ≤ l.length by omega)
      have e3 := imA_set im l hk
      rw [hx, Int.toNat_natCast] at e3
      rw [hx] at e1
      generalize imA im l k = X at *
      generalize imA im l (k + 1) = Y at *
      have hk2 : k < X.length := by omega
      simp -implicitDefEqProofs (maxSteps := 3000000) [hk, hk2, hxl, e1, e2, e3, w2])
    (by
      rintro s ⟨g, v, rfl⟩
      have e2 := imA_len im l (Nat.le_refl _)
      simp -implicitDefEqProofs (maxSteps := 3000000) [e2])
  obtain ⟨s, v, rfl, hf⟩ := hqq
  exact ⟨s, v, rfl, hf⟩
theorem ct_l03Pull (n : Nat) (hn : B + 3 + 2 ≤ n) (T Q : List (List Int)) (M : Int) (U V im : List Int) (p : Nat) (S : PulOk T.length Q.length M V im p) (hU : U.length = Q.length) :
    evalCall Tryz.prog An n 64 [.agg [.d (intss T)], .agg [.d (.int .i64 M), .d (ints U)], .d (ints im), .agg [.d (intss Q)], .agg [.d (.int .i64 p), .d (ints V)]] [] = some ⟨.tuple [.agg [.d (.int .i64 M), .own 0 0], .agg [.d (.int .i64 p), .own 1 0]], [.row (icells (sbU U im)), .row (icells (pulW T.length Q.length V im p))], []⟩ := by
  obtain ⟨m, rfl⟩ : ∃ m, n = m + 1 := ⟨n - 1, by omega⟩
  have hB := B_eq
  simp only [evalCall_at, fb64, bnd_some, bodyOf, Tryz.f64, Option.getD_some]
  generalize hb0 : Code.loop _ = cc0
  generalize hb1 : Code.loop _ = cc1
  obtain rfl : cc0 = .loop (lp Tryz.f64 0) := by rw [← hb0]; rfl
  clear hb0
  obtain rfl : cc1 = .loop (lp Tryz.f64 1) := by rw [← hb1]; rfl
  clear hb1
  have hp := S.hp
  have hN := S.hN
  have hM := S.hM
  have him := S.hi
  have c0 := ct_l01N m (by omega) T
  simp -implicitDefEqProofs (maxSteps := 3000000)
  generalize hx : loopC _ _ _ = x
  generalize hl : lp Tryz.f64 0 = L at hx
  simp only [lp, bodyOf, Tryz.f64, Option.getD_some, loopsIn, List.append_nil, List.nil_append, List.cons_append, List.getD, List.getElem?_cons_zero, List.getElem?_cons_succ] at hl
  subst hl
  obtain ⟨qq, rfl, hqq⟩ := loop_end hx (T.length) (fun i s => ∃ g v, s = ⟨[(2, .d (ints im)), (5, .ptr 80 1 0), (6, .ptr 96 2 0), (8, .ptr 128 3 0), (9, .ptr 144 4 0), (10, .ptr 160 5 0), (11, .ptr 176 6 0), (12, .ptr 192 15 0), (13, .ptr 208 16 0), (14, .d (.int .i64 i))], [(80, some (1, .box [.d (intss T)])), (96, some (2, .box [.d (.int .i64 M), .d (ints U)])), (128, some (3, .box [.d (intss Q)])), (144, some (4, .box [.d (.int .i64 p), .d (ints V)])), (160, some (5, .box [.d (.int .i64 0), .d .nil])), (176, some (6, .box [.d (.int .i64 0), .d .nil])), (192, some (15, .box [.d (.int .i64 M), .own 320 v])), (208, some (16, .box [.d (.int .i64 p), .own 384 13])), (320, some (v, .row (icells (tabI (sbF U im) i)))), (384, some (13, .row []))], g⟩)
    (fun qq => ∃ s v, qq = (.exit 0, s) ∧ lookL s.env 2 = some (.d (ints im)) ∧ lookL s.env 5 = some (.ptr 80 1 0) ∧ lookL s.env 6 = some (.ptr 96 2 0) ∧ lookL s.env 8 = some (.ptr 128 3 0) ∧ lookL s.env 9 = some (.ptr 144 4 0) ∧ lookL s.env 10 = some (.ptr 160 5 0) ∧ lookL s.env 11 = some (.ptr 176 6 0) ∧ lookL s.env 12 = some (.ptr 192 15 0) ∧ lookL s.env 13 = some (.ptr 208 16 0) ∧ lookL s.env 14 = some (.d (.int .i64 (T.length))) ∧ obsL s.obs 80 = some (1, .box [.d (intss T)]) ∧ obsL s.obs 96 = some (2, .box [.d (.int .i64 M), .d (ints U)]) ∧ obsL s.obs 128 = some (3, .box [.d (intss Q)]) ∧ obsL s.obs 144 = some (4, .box [.d (.int .i64 p), .d (ints V)]) ∧ obsL s.obs 160 = some (5, .box [.d (.int .i64 0), .d .nil]) ∧ obsL s.obs 176 = some (6, .box [.d (.int .i64 0), .d .nil]) ∧ obsL s.obs 192 = some (15, .box [.d (.int .i64 M), .own 320 v]) ∧ obsL s.obs 208 = some (16, .box [.d (.int .i64 p), .own 384 13]) ∧ obsL s.obs 320 = some (v, .row (icells (tabI (sbF U im) (T.length)))) ∧ obsL s.obs 384 = some (13, .row []) ∧ obsL s.obs 688 = none ∧ obsL s.obs 912 = none ∧ obsL s.obs 1296 = none)
    (by show T.length < m; omega) (by
      simp -implicitDefEqProofs (maxSteps := 3000000))
    (by
      rintro i s hi ⟨g, v, rfl⟩
      have w2 := wrap_id (n := (i : Int) + 1) (by omega)
      have hs := tabI_succ (sbF U im) i
      have hb := lt_bound (n := i) (by omega)
      have hb2 := le_bound (n := i) (by omega)
      have hr := S.bi i (by omega)
      have hi2 : i < im.length := by omega
      obtain ⟨a, ha⟩ := Int.eq_ofNat_of_zero_le hr.1
      have haN : a < U.length := by omega
      have es : sbF U im i = rn U a := by rw [sbF, ha, Int.toNat_natCast]
      rw [es] at hs
      simp -implicitDefEqProofs (maxSteps := 3000000) [c0, hi, hi2, ha, haN, w2, hb, hb2, hs])
    (by
      rintro s ⟨g, v, rfl⟩
      simp -implicitDefEqProofs (maxSteps := 3000000) [c0])
  obtain ⟨s, v, rfl, hf⟩ := hqq
  have eu : tabI (sbF U im) T.length = sbU U im := by rw [sbU, him]
  rw [eu] at hf
  simp -implicitDefEqProofs (maxSteps := 3000000) [hf]
  generalize sbU U im = ur at *
  have c1 := ct_l03Cells m (by omega) T hN p (by omega)
  have ec : cellsOf_ T.length p = (((T.length - 1) ^ p : Nat) : Int) := by rw [cellsOf_, Int.toNat_natCast, pow_cast hN.1]
  rw [ec] at c1
  have pb := pow_bd hN (show p ≤ 4 by omega)
  have cl : ∀ i < (T.length - 1) ^ p, _ := fun i hi => ct_l03List m (by omega) T hN p i (by omega) hi (by omega)
  have ca : ∀ i < (T.length - 1) ^ p, _ := fun i hi => ct_l03At m (by omega) Q S.hQ p V (imL im (digs (T.length - 1) p i)) (by simp; omega) (by simpa using S.hV) (S.inG hi)
  have dg : ∀ i < (T.length - 1) ^ p, _ := fun i hi => S.dg hi
  unfold pulW
  simp only [← show ∀ i, pulV T.length Q.length V im p i = atv Q.length V (imL im (digs (T.length - 1) p i)) from fun i => rfl] at ca
  generalize hK : (T.length - 1) ^ p = K at *
  generalize hx : loopC _ _ _ = x
  generalize hl : lp Tryz.f64 1 = L at hx
  simp only [lp, bodyOf, Tryz.f64, Option.getD_some, loopsIn, List.append_nil, List.nil_append, List.cons_append, List.getD, List.getElem?_cons_zero, List.getElem?_cons_succ] at hl
  subst hl
  generalize hb2 : Code.loop _ = cc2 at hx
  obtain rfl : cc2 = .loop (lp Tryz.f64 2) := by rw [← hb2]; rfl
  clear hb2
  obtain ⟨qq, rfl, hqq⟩ := loop_end hx (K) (fun i s => ∃ g w, s = ⟨[(2, .d (ints im)), (5, .ptr 80 1 0), (8, .ptr 128 3 0), (9, .ptr 144 4 0), (10, .ptr 160 5 0), (11, .ptr 176 6 0), (12, .ptr 192 15 0), (13, .ptr 208 16 0), (15, .d (.int .i64 i))], [(80, some (1, .box [.d (intss T)])), (128, some (3, .box [.d (intss Q)])), (144, some (4, .box [.d (.int .i64 p), .d (ints V)])), (160, some (5, .box [.d (.int .i64 0), .d .nil])), (176, some (6, .box [.d (.int .i64 0), .d .nil])), (192, some (15, .box [.d (.int .i64 M), .own 320 v])), (208, some (16, .box [.d (.int .i64 p), .own 384 w])), (320, some (v, .row (icells ur))), (384, some (w, .row (icells (tabI (pulV T.length Q.length V im p) i))))], g⟩)
    (fun qq => ∃ s w, qq = (.exit 2, s) ∧ lookL s.env 2 = some (.d (ints im)) ∧ lookL s.env 5 = some (.ptr 80 1 0) ∧ lookL s.env 8 = some (.ptr 128 3 0) ∧ lookL s.env 9 = some (.ptr 144 4 0) ∧ lookL s.env 10 = some (.ptr 160 5 0) ∧ lookL s.env 11 = some (.ptr 176 6 0) ∧ lookL s.env 12 = some (.ptr 192 15 0) ∧ lookL s.env 13 = some (.ptr 208 16 0) ∧ lookL s.env 15 = some (.d (.int .i64 (K))) ∧ obsL s.obs 80 = some (1, .box [.d (intss T)]) ∧ obsL s.obs 128 = some (3, .box [.d (intss Q)]) ∧ obsL s.obs 144 = some (4, .box [.d (.int .i64 p), .d (ints V)]) ∧ obsL s.obs 160 = some (5, .box [.d (.int .i64 0), .d .nil]) ∧ obsL s.obs 176 = some (6, .box [.d (.int .i64 0), .d .nil]) ∧ obsL s.obs 192 = some (15, .box [.d (.int .i64 M), .own 320 v]) ∧ obsL s.obs 208 = some (16, .box [.d (.int .i64 p), .own 384 w]) ∧ obsL s.obs 320 = some (v, .row (icells ur)) ∧ obsL s.obs 384 = some (w, .row (icells (tabI (pulV T.length Q.length V im p) (K)))))
    (by show K < m; omega) (by
      simp -implicitDefEqProofs (maxSteps := 3000000) [hf])
    (by
      rintro i s hi ⟨g, w, rfl⟩
      have w2 := wrap_id (n := (i : Int) + 1) (by omega)
      have c2 := cl i hi
      have c3 := ca i hi
      have hs := tabI_succ (pulV T.length Q.length V im p) i
      have hl := lt_bound (n := i) (by omega)
      have hl2 := le_bound (n := i) (by omega)
      have hd := dg i hi
      have hl3 : (digs (T.length - 1) p i).length = p := digs_len _ _ _
      have z0 := imA_zero im (digs (T.length - 1) p i)
      have z1 := imA_all im (digs (T.length - 1) p i)
      simp -implicitDefEqProofs (maxSteps := 3000000) [hi, c1, c2]
      generalize digs (T.length - 1) p i = l at *
      generalize hy : loopC _ _ _ = y
      obtain ⟨s, v3, rfl, hq⟩ := lp_l03Pull_2 m (by omega) T Q M p V im l ur (tabI (pulV T.length Q.length V im p) i) (by omega) (fun k hk => by have := hd k hk; omega) i v w hy (by simp -implicitDefEqProofs (maxSteps := 3000000) [z0]; rfl)
      rw [z1] at hq
      simp -implicitDefEqProofs (maxSteps := 3000000) [hq, w2, c3, hs, hl, hl2])
    (by
      rintro s ⟨g, w, rfl⟩
      simp -implicitDefEqProofs (maxSteps := 3000000) [c1])
  obtain ⟨s, w, rfl, hf⟩ := hqq
  simp -implicitDefEqProofs (maxSteps := 3000000) [hf]
end Go.Proofs.YtgklblkigjbggaaGreatE

namespace Go.Proofs.YtgklblkigjbggaaGreatE
open Go Go.Proofs
set_option maxHeartbeats 4000000
set_option maxRecDepth 4000
set_option linter.unusedSimpArgs false
set_option linter.unusedVariables false
set_option pp.deepTerms false
set_option pp.deepTerms.threshold 10
/-! ## RestrictCochain -/
open Classical in
noncomputable def cocode (T : List (List Int)) (M : Int) (U : List Int) (D : Int) (V : List Int) : Int := if GM T M U ∧ IsCo T M D V then 0 else 1
theorem ct_l03Code_bad (n : Nat) (hn : B + 4 ≤ n) (T : List (List Int)) (hT : T.length ≤ 2000000) (M : Int) (U : List Int) (hU : U.length ≤ 2000000) (D : Int) (V : List Int) (h : ¬ GM T M U) :
    evalCall Tryz.prog An n 62 [.agg [.d (intss T)], .agg [.d (.int .i64 M), .d (ints U)], .d (.sl 2 [.int .i64 D, ints V])] [] = some ⟨.d (.int .i64 1), [], []⟩ := by
  obtain ⟨m, rfl⟩ : ∃ m, n = m + 1 := ⟨n - 1, by omega⟩
  have hB := B_eq
  simp only [evalCall_at, fb62, bnd_some, bodyOf, Tryz.f62, Option.getD_some]
  generalize hb0 : Code.loop _ = cc0
  obtain rfl : cc0 = .loop (lp Tryz.f62 0) := by rw [← hb0]; rfl
  clear hb0
  have c1 := ct_l01Is m (by omega) T (by omega)
  by_cases G : IsGr T
  · have c2 := ct_l02Is m (by omega) T G.1 M U hU
    rw [bl_true G] at c1
    rw [bl_false (fun z => h ⟨G, z⟩)] at c2
    simp -implicitDefEqProofs (maxSteps := 3000000) [c1, c2]
  · rw [bl_false G] at c1
    simp -implicitDefEqProofs (maxSteps := 3000000) [c1]
theorem ct_l03CodeA (n : Nat) (hn : B + 4 ≤ n) (T : List (List Int)) (hT : T.length ≤ 2000000) (M : Int) (U : List Int) (hU : U.length ≤ 2000000) (D : Int) (V : List Int) (hV : V.length ≤ 10000000) :
    evalCall Tryz.prog An n 62 [.agg [.d (intss T)], .agg [.d (.int .i64 M), .d (ints U)], .d (.sl 2 [.int .i64 D, ints V])] [] = some ⟨.d (.int .i64 (cocode T M U D V)), [], []⟩ := by
  by_cases h : GM T M U
  · rw [ct_l03Code1 n hn T M U hU h D V hV]
    have e : ccode T M U D V = cocode T M U D V := by
      by_cases p : IsCo T M D V
      · rw [ccode, cocode, if_pos p, if_pos ⟨h, p⟩]
      · rw [ccode, cocode, if_neg p, if_neg (fun z => p z.2)]
    rw [e]
  · have e : cocode T M U D V = 1 := if_neg (fun z => h z.1)
    rw [e]
    exact ct_l03Code_bad n hn T hT M U hU D V h
theorem ct_cochainCode (n : Nat) (hn : B + 5 ≤ n) (T : List (List Int)) (hT : T.length ≤ 2000000) (hr : ∀ i, (rown T i).length ≤ 1000000000000) (M : Int) (U : List Int) (hU : U.length ≤ 2000000) (D : Int) (V : List Int) (hV : V.length ≤ 10000000) :
    evalCall Tryz.prog An n 66 [.agg [.d (intss T)], .agg [.d (.int .i64 M), .d (ints U)], .d (.sl 2 [.int .i64 D, ints V])] [] = some ⟨.d (.int .i64 (cocode T M U D V)), [], []⟩ := by
  obtain ⟨m, rfl⟩ : ∃ m, n = m + 1 := ⟨n - 1, by omega⟩
  have hB := B_eq
  simp only [evalCall_at, fb66, bnd_some, bodyOf, Tryz.f66, Option.getD_some]
  generalize hb0 : Code.loop _ = cc0
  obtain rfl : cc0 = .loop (lp Tryz.f66 0) := by rw [← hb0]; rfl
  clear hb0
  have c1 := ct_areModules1 m (by omega) T hT hr M U hU
  by_cases h : GM T M U
  · have c2 := ct_isCochain m (by omega) T h.1.1.1 M U D V hV
    rw [bl_true h] at c1
    simp -implicitDefEqProofs (maxSteps := 3000000) [c1]
    generalize hx : loopC _ _ _ = x
    generalize hl : lp Tryz.f66 0 = L at hx
    simp only [lp, bodyOf, Tryz.f66, Option.getD_some, loopsIn, List.append_nil, List.nil_append, List.cons_append, List.getD, List.getElem?_cons_zero, List.getElem?_cons_succ] at hl
    subst hl
    rcases loop_chk hx 1 0 (fun i => IsCo T M D V)
      (fun i g => ⟨[(3, .ptr 48 1 0), (4, .ptr 64 2 0), (14, .d (.sl 2 [.int .i64 D, ints V])), (15, .d (.int .i64 1)), (16, .d (.int .i64 i))], [(48, some (1, .box [.d (intss T)])), (64, some (2, .box [.d (.int .i64 M), .d (ints U)]))], g⟩)
      (fun s => True) (fun s => lookL s.env 6 = some (.d (.int .i64 1)))
      (by show 1 < m; omega) (by simp -implicitDefEqProofs (maxSteps := 3000000))
      (by
        rintro i g hi hp
        obtain rfl : i = 0 := by omega
        have w2 := wrap_id (n := 1) (by omega)
        by_cases p : IsCo T M D V
        · rw [bl_true p] at c2
          simp -implicitDefEqProofs (maxSteps := 3000000) [c2, p, w2]
        · rw [bl_false p] at c2
          simp -implicitDefEqProofs (maxSteps := 3000000) [c2, p, w2])
      (by
        rintro g
        simp -implicitDefEqProofs (maxSteps := 3000000)) with ⟨h1, s, rfl, _⟩ | ⟨⟨i, hi, h1⟩, s, rfl, h2⟩
    · have e : cocode T M U D V = 0 := if_pos ⟨h, h1 0 (by omega)⟩
      simp -implicitDefEqProofs (maxSteps := 3000000) [e]
    · have e : cocode T M U D V = 1 := if_neg (fun z => h1 z.2)
      simp -implicitDefEqProofs (maxSteps := 3000000) [h2, e]
  · have e : cocode T M U D V = 1 := if_neg (fun z => h z.1)
    rw [bl_false h] at c1
    simp -implicitDefEqProofs (maxSteps := 3000000) [c1, e]
def ResGood (T : List (List Int)) (M : Int) (U l : List Int) (D : Int) (V : List Int) : Prop := (GM T M U ∧ IsCo T M D V) ∧ HGood T l
open Classical in
noncomputable def rescode (T : List (List Int)) (M : Int) (U l : List Int) (D : Int) (V : List Int) : Int := if GM T M U ∧ IsCo T M D V then subcode T l else 1
theorem rescode_ne {T : List (List Int)} {M : Int} {U l : List Int} {D : Int} {V : List Int} (h : ¬ ResGood T M U l D V) : rescode T M U l D V ≠ 0 := by
  unfold rescode
  split
  · rename_i z
    exact subcode_ne fun q => h ⟨z, q⟩
  · omega
theorem pulOk_sub {T : List (List Int)} {M : Int} {U l : List Int} {D : Int} {V : List Int} (h : ResGood T M U l D V) : PulOk (sbG T l).length T.length M V l D.toNat := by
  obtain ⟨⟨G, C⟩, H⟩ := h
  have hlen := setOk_len H.2.1
  have hp := H.pos
  have hT := G.1.1.1
  rw [sbG_len]
  exact ⟨by omega, hT, by have := C.1; omega, G.2.1.1, by have := C.2.1; simpa [cellsOf_] using this, C.2.2, rfl, H.2.1.1⟩
noncomputable def resW (T : List (List Int)) (l : List Int) (D : Int) (V : List Int) : List Int := pulW (sbG T l).length T.length V l D.toNat
theorem ct_specRes (n : Nat) (hn : B + 6 + 3 ≤ n) (T : List (List Int)) (hT : T.length ≤ 2000000) (M : Int) (U : List Int) (hU : U.length ≤ 2000000) (l : List Int) (hl : l.length ≤ 10000000) (D : Int) (V : List Int) (hV : V.length ≤ 10000000) (h : ResGood T M U l D V) :
    evalCall Tryz.prog An n 25 [.agg [.d (intss T)], .agg [.d (.int .i64 M), .d (ints U)], .d (ints l), .agg [.d (.int .i64 D), .d (ints V)]] [] = some ⟨.tuple [.agg [.d (.int .i64 D), .own 0 0], .d (.int .i64 0)], [.row (icells (resW T l D V))], []⟩ := by
  obtain ⟨m, rfl⟩ : ∃ m, n = m + 1 := ⟨n - 1, by omega⟩
  have hB := B_eq
  simp only [evalCall_at, fb25, bnd_some, bodyOf, Tryz.f25, Option.getD_some]
  have c1 := ct_l03CodeA m (by omega) T hT M U hU D V hV
  have c2 := ct_l07Code m (by omega) T (by omega) l hl
  rw [show cocode T M U D V = 0 from if_pos h.1] at c1
  rw [subcode_0 h.2] at c2
  have c3 := ct_l07Group m (by omega) T l h.2
  obtain ⟨p, rfl⟩ := Int.eq_ofNat_of_zero_le h.1.2.1.1
  have c4 := ct_l03Pull m (by omega) (sbG T l) T M U V l p (by simpa using pulOk_sub h) h.1.1.2.1.2
  have e : resW T l p V = pulW (sbG T l).length T.length V l p := rfl
  rw [e]
  simp -implicitDefEqProofs (maxSteps := 3000000) [c1, c2, c3, c4]
theorem ct_specRes_bad (n : Nat) (hn : B + 6 + 3 ≤ n) (T : List (List Int)) (hT : T.length ≤ 2000000) (M : Int) (U : List Int) (hU : U.length ≤ 2000000) (l : List Int) (hl : l.length ≤ 10000000) (D : Int) (V : List Int) (hV : V.length ≤ 10000000) (h : ¬ ResGood T M U l D V) :
    evalCall Tryz.prog An n 25 [.agg [.d (intss T)], .agg [.d (.int .i64 M), .d (ints U)], .d (ints l), .agg [.d (.int .i64 D), .d (ints V)]] [] = some ⟨.tuple [.agg [.d (.int .i64 0), .d .nil], .d (.int .i64 (rescode T M U l D V))], [], []⟩ := by
  obtain ⟨m, rfl⟩ : ∃ m, n = m + 1 := ⟨n - 1, by omega⟩
  have hB := B_eq
  simp only [evalCall_at, fb25, bnd_some, bodyOf, Tryz.f25, Option.getD_some]
  have c1 := ct_l03CodeA m (by omega) T hT M U hU D V hV
  have c2 := ct_l07Code m (by omega) T (by omega) l hl
  have ne := rescode_ne h
  by_cases g : GM T M U ∧ IsCo T M D V
  · rw [show cocode T M U D V = 0 from if_pos g] at c1
    have e : rescode T M U l D V = subcode T l := if_pos g
    rw [e] at ne ⊢
    have ne2 := bne_t ne
    simp -implicitDefEqProofs (maxSteps := 3000000) [c1, c2, ne, ne2]
  · rw [show cocode T M U D V = 1 from if_neg g] at c1
    have e : rescode T M U l D V = 1 := if_neg g
    simp -implicitDefEqProofs (maxSteps := 3000000) [c1, e]
theorem ct_implRes (n : Nat) (hn : B + 13 + 11 ≤ n) (T : List (List Int)) (hT : T.length ≤ 2000000) (hr : ∀ i, (rown T i).length ≤ 1000000000000) (M : Int) (U : List Int) (hU : U.length ≤ 2000000) (l : List Int) (hl : l.length ≤ 10000000) (D : Int) (V : List Int) (hV : V.length ≤ 10000000) (h : ResGood T M U l D V) :
    evalCall Tryz.prog An n 28 [.agg [.d (intss T)], .agg [.d (.int .i64 M), .d (ints U)], .d (ints l), .agg [.d (.int .i64 D), .d (ints V)]] [] = some ⟨.tuple [.agg [.d (.int .i64 D), .own 0 0], .d (.int .i64 0)], [.row (icells (resW T l D V))], []⟩ := by
  obtain ⟨m, rfl⟩ : ∃ m, n = m + 1 := ⟨n - 1, by omega⟩
  have hB := B_eq
  simp only [evalCall_at, fb28, bnd_some, bodyOf, Tryz.f28, Option.getD_some]
  have c1 := ct_cochainCode m (by omega) T hT hr M U hU D V hV
  have c2 := ct_withinCode m (by omega) T hT hr M U hU l hl
  rw [show cocode T M U D V = 0 from if_pos h.1] at c1
  rw [wcode_0 ⟨h.1.1, h.2⟩] at c2
  have c3 := ct_groupOf m (by omega) T l h.2
  obtain ⟨p, rfl⟩ := Int.eq_ofNat_of_zero_le h.1.2.1.1
  have c4 := ct_pulled m (by omega) (sbG T l) T M U V l p (by simpa using pulOk_sub h) h.1.1.2.1.2
  have e : resW T l p V = pulW (sbG T l).length T.length V l p := rfl
  rw [e]
  simp -implicitDefEqProofs (maxSteps := 3000000) [c1, c2, c3, c4]
theorem ct_implRes_bad (n : Nat) (hn : B + 13 + 11 ≤ n) (T : List (List Int)) (hT : T.length ≤ 2000000) (hr : ∀ i, (rown T i).length ≤ 1000000000000) (M : Int) (U : List Int) (hU : U.length ≤ 2000000) (l : List Int) (hl : l.length ≤ 10000000) (D : Int) (V : List Int) (hV : V.length ≤ 10000000) (h : ¬ ResGood T M U l D V) :
    evalCall Tryz.prog An n 28 [.agg [.d (intss T)], .agg [.d (.int .i64 M), .d (ints U)], .d (ints l), .agg [.d (.int .i64 D), .d (ints V)]] [] = some ⟨.tuple [.agg [.d (.int .i64 0), .d .nil], .d (.int .i64 (rescode T M U l D V))], [], []⟩ := by
  obtain ⟨m, rfl⟩ : ∃ m, n = m + 1 := ⟨n - 1, by omega⟩
  have hB := B_eq
  simp only [evalCall_at, fb28, bnd_some, bodyOf, Tryz.f28, Option.getD_some]
  have c1 := ct_cochainCode m (by omega) T hT hr M U hU D V hV
  have c2 := ct_withinCode m (by omega) T hT hr M U hU l hl
  have ne := rescode_ne h
  by_cases g : GM T M U ∧ IsCo T M D V
  · rw [show cocode T M U D V = 0 from if_pos g] at c1
    have e : rescode T M U l D V = subcode T l := if_pos g
    have e2 : wcode T M U l = subcode T l := if_pos g.1
    rw [e2] at c2
    rw [e] at ne ⊢
    have ne2 := bne_t ne
    simp -implicitDefEqProofs (maxSteps := 3000000) [c1, c2, ne, ne2]
  · rw [show cocode T M U D V = 1 from if_neg g] at c1
    have e : rescode T M U l D V = 1 := if_neg g
    simp -implicitDefEqProofs (maxSteps := 3000000) [c1, e]
end Go.Proofs.YtgklblkigjbggaaGreatE

namespace Go.Proofs.YtgklblkigjbggaaGreatE
open Go Go.Proofs
set_option maxHeartbeats 4000000
set_option maxRecDepth 4000
set_option linter.unusedSimpArgs false
set_option linter.unusedVariables false
set_option pp.deepTerms false
set_option pp.deepTerms.threshold 10
/-! ## normal subgroups -/
def NmAt (T : List (List Int)) (h : List Int) (c i : Nat) : Prop := (cj T c (rn h i).toNat : Int) ∈ h
def Nm (T : List (List Int)) (h : List Int) : Prop := ∀ c < T.length, ∀ i < h.length, NmAt T h c i
theorem lp_l01Normal_1 (m : Nat) (hm : B + 3 ≤ m) (T : List (List Int)) (h : List Int) (H : HGood T h) (c : Nat) (hc : c < T.length) {st : St} {o : Option (Ex × St)} (hx : loopC (cxAt 100 m) (lp Tryz.f100 1) st = o)
    (f : obsL st.obs 32 = some (1, .box [.d (intss T)]) ∧ lookL st.env 1 = some (.d (ints h)) ∧ lookL st.env 2 = some (.ptr 32 1 0) ∧ lookL st.env 5 = some (.d (.int .i64 (bitsOf h))) ∧ lookL st.env 6 = some (.d (.int .i64 c)) ∧ lookL st.env 7 = some (.d (.int .i64 0))) :
    ((∀ i < h.length, NmAt T h c i) ∧ ∃ s, o = some (.exit 2, s) ∧ obsL s.obs 32 = some (1, .box [.d (intss T)]) ∧ lookL s.env 1 = some (.d (ints h)) ∧ lookL s.env 2 = some (.ptr 32 1 0) ∧ lookL s.env 5 = some (.d (.int .i64 (bitsOf h))) ∧ lookL s.env 6 = some (.d (.int .i64 c))) ∨
    ((∃ i < h.length, ¬ NmAt T h c i) ∧ ∃ s, o = some (.ret, s) ∧ lookL s.env 4 = some (.d (.bool false))) := by
  have hB := B_eq
  have G := H.1
  have hT := G.1.1
  have hlen := setOk_len H.2.1
  have hr8 : ∀ i < h.length, 0 ≤ rn h i ∧ rn h i < 8 := fun i hi => by have := H.2.1.1 i hi; omega
  generalize hl : lp Tryz.f100 1 = L at hx
  simp only [lp, bodyOf, Tryz.f100, Option.getD_some, loopsIn, List.append_nil, List.nil_append, List.cons_append, List.getD, List.getElem?_cons_zero, List.getElem?_cons_succ] at hl
  subst hl
  refine loop_chk hx h.length 2 (NmAt T h c)
    (fun y g => ⟨[(1, .d (ints h)), (2, .ptr 32 1 0), (5, .d (.int .i64 (bitsOf h))), (6, .d (.int .i64 c)), (7, .d (.int .i64 y))], [(32, some (1, .box [.d (intss T)]))], g⟩) _ _
    (by show h.length < m; omega) (by simp -implicitDefEqProofs (maxSteps := 3000000) [f])
    (by
      rintro y g hy hp
      have w2 := wrap_id (n := (y : Int) + 1) (by omega)
      have h1 := H.2.1.1 y hy
      obtain ⟨a, ha⟩ := Int.eq_ofNat_of_zero_le h1.1
      have haT : a < T.length := by omega
      have c1 := ct_l01Conjugate m (by omega) T G a c haT hc
      have hx8 := cj_lt G hc haT
      have en : NmAt T h c y ↔ (bitsOf h).testBit (cj T c a) = true := by
        rw [bits_tb hr8, NmAt, ha, Int.toNat_natCast]
      have hu : bitsOf h < 256 := bitsA_lt hr8 h.length (Nat.le_refl _)
      generalize bitsOf h = u at *
      generalize cj T c a = x at *
      have w3 := wrap_u64 (n := (x : Int)) (by omega)
      have q1 : min x 64 = x := by omega
      have q2 := fdiv_pow u x
      have q3 := tb u x
      have hn0 : ¬ ((x : Int) < 0) := by omega
      have hq : u / 2 ^ x ≤ u := Nat.div_le_self _ _
      generalize u / 2 ^ x = q at *
      have q4 := mod64 (q := q) (by omega)
      have z1 := wrap_id (n := 0) (by omega)
      have z2 := wrap_id (n := 1) (by omega)
      by_cases p : NmAt T h c y
      · have q5 : q % 2 = 1 := by rw [en.1 p] at q3; exact of_decide_eq_true q3.symm
        simp -implicitDefEqProofs (maxSteps := 3000000) [hy, ha, c1, hn0, w2, w3, b64, q1, q2, q4, q5, z1, z2, p]
      · have q5 : q % 2 = 0 := by
          rcases Nat.mod_two_eq_zero_or_one q with z | z
          · exact z
          · exact absurd (en.2 (by rw [q3]; exact decide_eq_true z)) p
        simp -implicitDefEqProofs (maxSteps := 3000000) [hy, ha, c1, hn0, w2, w3, b64, q1, q2, q4, q5, z1, z2, p])
    (by
      rintro g
      simp -implicitDefEqProofs (maxSteps := 3000000))
theorem ct_l01Normal (n : Nat) (hn : B + 4 + 4 ≤ n) (T : List (List Int)) (h : List Int) (H : HGood T h) :
    evalCall Tryz.prog An n 100 [.agg [.d (intss T)], .d (ints h)] [] = some ⟨.d (.bool (bl (Nm T h))), [], []⟩ := by
  obtain ⟨m, rfl⟩ : ∃ m, n = m + 1 := ⟨n - 1, by omega⟩
  have hB := B_eq
  simp only [evalCall_at, fb100, bnd_some, bodyOf, Tryz.f100, Option.getD_some]
  generalize hb0 : Code.loop _ = cc0
  obtain rfl : cc0 = .loop (lp Tryz.f100 0) := by rw [← hb0]; rfl
  clear hb0
  have hN := H.1.1.1
  have hlen := setOk_len H.2.1
  have hr8 : ∀ i < h.length, 0 ≤ rn h i ∧ rn h i < 8 := fun i hi => by have := H.2.1.1 i hi; omega
  have c1 := ct_l01N m (by omega) T
  have c2 := ct_l01Bits m (by omega) h (by omega) hr8
  simp -implicitDefEqProofs (maxSteps := 3000000) [c2]
  generalize hx : loopC _ _ _ = x
  generalize hl : lp Tryz.f100 0 = L at hx
  simp only [lp, bodyOf, Tryz.f100, Option.getD_some, loopsIn, List.append_nil, List.nil_append, List.cons_append, List.getD, List.getElem?_cons_zero, List.getElem?_cons_succ] at hl
  subst hl
  generalize hb1 : Code.loop _ = cc1 at hx
  obtain rfl : cc1 = .loop (lp Tryz.f100 1) := by rw [← hb1]; rfl
  clear hb1
  rcases loop_chk hx T.length 0 (fun c => ∀ i < h.length, NmAt T h c i)
    (fun x g => ⟨[(1, .d (ints h)), (2, .ptr 32 1 0), (5, .d (.int .i64 (bitsOf h))), (6, .d (.int .i64 x))], [(32, some (1, .box [.d (intss T)]))], g⟩)
    (fun s => s.obs = s.obs) (fun s => lookL s.env 4 = some (.d (.bool false)))
    (by show T.length < m; omega) (by simp -implicitDefEqProofs (maxSteps := 3000000))
    (by
      rintro i g hi hp
      have w2 := wrap_id (n := (i : Int) + 1) (by omega)
      simp -implicitDefEqProofs (maxSteps := 3000000) [hi, c1]
      generalize hy : loopC _ _ _ = y
      rcases lp_l01Normal_1 m (by omega) T h H i hi hy (by simp -implicitDefEqProofs (maxSteps := 3000000)) with ⟨h1, s, rfl, h2⟩ | ⟨h1, s, rfl, h2⟩
      · simp -implicitDefEqProofs (maxSteps := 3000000) [h2, w2]; exact h1
      · simp -implicitDefEqProofs (maxSteps := 3000000) [h2]; exact h1)
    (by
      rintro g
      simp -implicitDefEqProofs (maxSteps := 3000000) [c1]) with ⟨h1, s, rfl, _⟩ | ⟨⟨i, hi, h1⟩, s, rfl, h2⟩
  · simp -implicitDefEqProofs (maxSteps := 3000000) [bl_true (show Nm T h from h1)]
  · simp -implicitDefEqProofs (maxSteps := 3000000) [h2, bl_false (show ¬ Nm T h from fun z => h1 (z i hi))]
theorem lp_isNormal_1 (m : Nat) (hm : B + 8 ≤ m) (T : List (List Int)) (h : List Int) (H : HGood T h) (i : Nat) (hi : i < h.length) {st : St} {o : Option (Ex × St)} (hx : loopC (cxAt 103 m) (lp Tryz.f103 1) st = o)
    (f : obsL st.obs 32 = some (1, .box [.d (intss T)]) ∧ lookL st.env 1 = some (.d (ints h)) ∧ lookL st.env 2 = some (.ptr 32 1 0) ∧ lookL st.env 6 = some (.d (.int .i64 (rn h i))) ∧ lookL st.env 8 = some (.d (ints h)) ∧ lookL st.env 9 = some (.d (.int .i64 h.length)) ∧ lookL st.env 10 = some (.d (.int .i64 i)) ∧ lookL st.env 15 = some (.d (.int .i64 T.length)) ∧ lookL st.env 16 = some (.d (.int .i64 0))) :
    ((∀ c < T.length, NmAt T h c i) ∧ ∃ s, o = some (.exit 2, s) ∧ obsL s.obs 32 = some (1, .box [.d (intss T)]) ∧ lookL s.env 1 = some (.d (ints h)) ∧ lookL s.env 2 = some (.ptr 32 1 0) ∧ lookL s.env 8 = some (.d (ints h)) ∧ lookL s.env 9 = some (.d (.int .i64 h.length)) ∧ lookL s.env 10 = some (.d (.int .i64 i))) ∨
    ((∃ c < T.length, ¬ NmAt T h c i) ∧ ∃ s, o = some (.ret, s) ∧ lookL s.env 4 = some (.d (.bool false))) := by
  have hB := B_eq
  have G := H.1
  have hT := G.1.1
  have hlen := setOk_len H.2.1
  generalize hl : lp Tryz.f103 1 = L at hx
  simp only [lp, bodyOf, Tryz.f103, Option.getD_some, loopsIn, List.append_nil, List.nil_append, List.cons_append, List.getD, List.getElem?_cons_zero, List.getElem?_cons_succ] at hl
  subst hl
  refine loop_chk hx T.length 2 (fun c => NmAt T h c i)
    (fun y g => ⟨[(1, .d (ints h)), (2, .ptr 32 1 0), (6, .d (.int .i64 (rn h i))), (8, .d (ints h)), (9, .d (.int .i64 h.length)), (10, .d (.int .i64 i)), (15, .d (.int .i64 T.length)), (16, .d (.int .i64 y))], [(32, some (1, .box [.d (intss T)]))], g⟩) _ _
    (by show T.length < m; omega) (by simp -implicitDefEqProofs (maxSteps := 3000000) [f])
    (by
      rintro y g hy hp
      have w2 := wrap_id (n := (y : Int) + 1) (by omega)
      have h1 := H.2.1.1 i hi
      obtain ⟨a, ha⟩ := Int.eq_ofNat_of_zero_le h1.1
      have haT : a < T.length := by omega
      have c1 := ct_conjugate m (by omega) T G y a hy haT
      have c2 := ct_Contains m (by omega) h (cj T y a) (by omega)
      have en : NmAt T h y i ↔ ∃ j < h.length, rn h j = (cj T y a : Int) := by
        rw [NmAt, ha, Int.toNat_natCast, mem_rn]
      by_cases p : NmAt T h y i
      · rw [bl_true (en.1 p)] at c2
        simp -implicitDefEqProofs (maxSteps := 3000000) [hy, ha, c1, c2, w2, p]
      · rw [bl_false (fun z => p (en.2 z))] at c2
        simp -implicitDefEqProofs (maxSteps := 3000000) [hy, ha, c1, c2, w2, p])
    (by
      rintro g
      simp -implicitDefEqProofs (maxSteps := 3000000))
theorem ct_isNormal (n : Nat) (hn : B + 4 + 8 ≤ n) (T : List (List Int)) (h : List Int) (H : HGood T h) :
    evalCall Tryz.prog An n 103 [.agg [.d (intss T)], .d (ints h)] [] = some ⟨.d (.bool (bl (Nm T h))), [], []⟩ := by
  obtain ⟨m, rfl⟩ : ∃ m, n = m + 1 := ⟨n - 1, by omega⟩
  have hB := B_eq
  simp only [evalCall_at, fb103, bnd_some, bodyOf, Tryz.f103, Option.getD_some]
  generalize hb0 : Code.loop _ = cc0
  obtain rfl : cc0 = .loop (lp Tryz.f103 0) := by rw [← hb0]; rfl
  clear hb0
  have hN := H.1.1.1
  have hlen := setOk_len H.2.1
  have c1 := ct_order m (by omega) T
  simp -implicitDefEqProofs (maxSteps := 3000000)
  generalize hx : loopC _ _ _ = x
  generalize hl : lp Tryz.f103 0 = L at hx
  simp only [lp, bodyOf, Tryz.f103, Option.getD_some, loopsIn, List.append_nil, List.nil_append, List.cons_append, List.getD, List.getElem?_cons_zero, List.getElem?_cons_succ] at hl
  subst hl
  generalize hb1 : Code.loop _ = cc1 at hx
  obtain rfl : cc1 = .loop (lp Tryz.f103 1) := by rw [← hb1]; rfl
  clear hb1
  rcases loop_chk hx h.length 0 (fun i => ∀ c < T.length, NmAt T h c i)
    (fun x g => ⟨[(1, .d (ints h)), (2, .ptr 32 1 0), (8, .d (ints h)), (9, .d (.int .i64 h.length)), (10, .d (.int .i64 x))], [(32, some (1, .box [.d (intss T)]))], g⟩)
    (fun s => s.obs = s.obs) (fun s => lookL s.env 4 = some (.d (.bool false)))
    (by show h.length < m; omega) (by simp -implicitDefEqProofs (maxSteps := 3000000))
    (by
      rintro i g hi hp
      have w2 := wrap_id (n := (i : Int) + 1) (by omega)
      simp -implicitDefEqProofs (maxSteps := 3000000) [hi, c1]
      generalize hy : loopC _ _ _ = y
      rcases lp_isNormal_1 m (by omega) T h H i hi hy (by simp -implicitDefEqProofs (maxSteps := 3000000)) with ⟨h1, s, rfl, h2⟩ | ⟨h1, s, rfl, h2⟩
      · simp -implicitDefEqProofs (maxSteps := 3000000) [h2, w2]; exact h1
      · simp -implicitDefEqProofs (maxSteps := 3000000) [h2]; exact h1)
    (by
      rintro g
      simp -implicitDefEqProofs (maxSteps := 3000000) [c1]) with ⟨h1, s, rfl, _⟩ | ⟨⟨i, hi, h1⟩, s, rfl, h2⟩
  · simp -implicitDefEqProofs (maxSteps := 3000000) [bl_true (show Nm T h from fun c hc i hi => h1 i hi c hc)]
  · simp -implicitDefEqProofs (maxSteps := 3000000) [h2, bl_false (show ¬ Nm T h from fun z => h1 (fun c hc => z c hc i hi))]
end Go.Proofs.YtgklblkigjbggaaGreatE

namespace Go.Proofs.YtgklblkigjbggaaGreatE
open Go Go.Proofs
set_option maxHeartbeats 4000000
set_option maxRecDepth 4000
set_option linter.unusedSimpArgs false
set_option linter.unusedVariables false
set_option pp.deepTerms false
set_option pp.deepTerms.threshold 10
/-! ## quotients -/
def quoE (T : List (List Int)) (h : List Int) (i k : Nat) : Int := rn (nums T h) (mu T (rn (firsts T h) i).toNat (rn (firsts T h) k).toNat)
def quoR (T : List (List Int)) (h : List Int) (i : Nat) : List Int := tabI (quoE T h i) (firsts T h).length
def quoG (T : List (List Int)) (h : List Int) : List (List Int) := tabM (quoR T h) (firsts T h).length
theorem quoG_len (T : List (List Int)) (h : List Int) : (quoG T h).length = (firsts T h).length := by simp -implicitDefEqProofs (maxSteps := 3000000) [quoG]
theorem quoG_rows (T : List (List Int)) (h : List Int) (i : Nat) : (rown (quoG T h) i).length ≤ (firsts T h).length := by
  by_cases e : i < (firsts T h).length
  · rw [quoG, rown_tabM _ e]; simp -implicitDefEqProofs (maxSteps := 3000000) [quoR]
  · rw [rown_out (by rw [quoG_len]; omega)]; simp -implicitDefEqProofs (maxSteps := 3000000)
theorem firsts_pos {T : List (List Int)} {h : List Int} (H : HGood T h) : 0 < (firsts T h).length := by
  have := nums_bd H 0 (zero_lt_len H.1)
  omega
theorem lp_l01Quotient_1 (m : Nat) (hm : B + 2 ≤ m) (T : List (List Int)) (h : List Int) (H : HGood T h) (i : Nat) (hi : i < (firsts T h).length) (X : List (List Int)) (v : Nat)
    {st : St} {o : Option (Ex × St)} (hx : loopC (cxAt 101 m) (lp Tryz.f101 1) st = o) {v2 : Nat}
    (f : obsL st.obs 32 = some (1, .box [.d (intss T)]) ∧ obsL st.obs 64 = some (2, .box [.d .nil]) ∧ obsL st.obs 128 = some (14, .box [.own 288 v]) ∧ obsL st.obs 240 = some (6, .row (icells (nums T h))) ∧ obsL st.obs 241 = some (6, .row (icells (firsts T h))) ∧ obsL st.obs 288 = some (v, .mat true (mcells X)) ∧ obsL st.obs 416 = some (v2, .row (icells (tabI (quoE T h i) (0)))) ∧ obsL st.obs 242 = none ∧ obsL st.obs 243 = none ∧ obsL st.obs 832 = none ∧ obsL st.obs 912 = none ∧ lookL st.env 2 = some (.ptr 32 1 0) ∧ lookL st.env 4 = some (.ptr 64 2 0) ∧ lookL st.env 6 = some (.own 240 6) ∧ lookL st.env 7 = some (.own 241 6) ∧ lookL st.env 8 = some (.ptr 128 14 0) ∧ lookL st.env 9 = some (.d (.int .i64 i)) ∧ lookL st.env 10 = some (.own 416 v2) ∧ lookL st.env 11 = some (.d (.int .i64 (0)))) :
    ∃ s v2, o = some (.exit 2, s) ∧ obsL s.obs 32 = some (1, .box [.d (intss T)]) ∧ obsL s.obs 64 = some (2, .box [.d .nil]) ∧ obsL s.obs 128 = some (14, .box [.own 288 v]) ∧ obsL s.obs 240 = some (6, .row (icells (nums T h))) ∧ obsL s.obs 241 = some (6, .row (icells (firsts T h))) ∧ obsL s.obs 288 = some (v, .mat true (mcells X)) ∧ obsL s.obs 416 = some (v2, .row (icells (tabI (quoE T h i) ((firsts T h).length)))) ∧ obsL s.obs 242 = none ∧ obsL s.obs 243 = none ∧ obsL s.obs 832 = none ∧ obsL s.obs 912 = none ∧ lookL s.env 2 = some (.ptr 32 1 0) ∧ lookL s.env 4 = some (.ptr 64 2 0) ∧ lookL s.env 6 = some (.own 240 6) ∧ lookL s.env 7 = some (.own 241 6) ∧ lookL s.env 8 = some (.ptr 128 14 0) ∧ lookL s.env 9 = some (.d (.int .i64 i)) ∧ lookL s.env 10 = some (.own 416 v2) := by
  have hB := B_eq
  have fb := (firsts_bd T h).1
  have hT := H.1.1.1
  generalize hl : lp Tryz.f101 1 = L at hx
  simp only [lp, bodyOf, Tryz.f101, Option.getD_some, loopsIn, List.append_nil, List.nil_append, List.cons_append, List.getD, List.getElem?_cons_zero, List.getElem?_cons_succ] at hl
  subst hl
  obtain ⟨qq, rfl, hqq⟩ := loop_end hx ((firsts T h).length) (fun k s => ∃ g v2, s = ⟨[(2, .ptr 32 1 0), (4, .ptr 64 2 0), (6, .own 240 6), (7, .own 241 6), (8, .ptr 128 14 0), (9, .d (.int .i64 i)), (10, .own 416 v2), (11, .d (.int .i64 k))], [(32, some (1, .box [.d (intss T)])), (64, some (2, .box [.d .nil])), (128, some (14, .box [.own 288 v])), (240, some (6, .row (icells (nums T h)))), (241, some (6, .row (icells (firsts T h)))), (288, some (v, .mat true (mcells X))), (416, some (v2, .row (icells (tabI (quoE T h i) k))))], g⟩)
    (fun qq => ∃ s v2, qq = (.exit 2, s) ∧ obsL s.obs 32 = some (1, .box [.d (intss T)]) ∧ obsL s.obs 64 = some (2, .box [.d .nil]) ∧ obsL s.obs 128 = some (14, .box [.own 288 v]) ∧ obsL s.obs 240 = some (6, .row (icells (nums T h))) ∧ obsL s.obs 241 = some (6, .row (icells (firsts T h))) ∧ obsL s.obs 288 = some (v, .mat true (mcells X)) ∧ obsL s.obs 416 = some (v2, .row (icells (tabI (quoE T h i) ((firsts T h).length)))) ∧ obsL s.obs 242 = none ∧ obsL s.obs 243 = none ∧ obsL s.obs 832 = none ∧ obsL s.obs 912 = none ∧ lookL s.env 2 = some (.ptr 32 1 0) ∧ lookL s.env 4 = some (.ptr 64 2 0) ∧ lookL s.env 6 = some (.own 240 6) ∧ lookL s.env 7 = some (.own 241 6) ∧ lookL s.env 8 = some (.ptr 128 14 0) ∧ lookL s.env 9 = some (.d (.int .i64 i)) ∧ lookL s.env 10 = some (.own 416 v2))
    (by show (firsts T h).length < m; omega) (by
      simp -implicitDefEqProofs (maxSteps := 3000000) [f])
    (by
      rintro k s hk ⟨g, v2, rfl⟩
      have w2 := wrap_id (n := (k : Int) + 1) (by omega)
      have hs := tabI_succ (quoE T h i) k
      have ee : quoE T h i k = rn (nums T h) (mu T (rn (firsts T h) i).toNat (rn (firsts T h) k).toNat) := rfl
      obtain ⟨a1, a2⟩ := fst_nat hi
      obtain ⟨b1, b2⟩ := fst_nat hk
      have ra := (H.1.1.2 _ a2).1
      have mc := mu_cl H.1.1 a2 b2
      have nl := nums_len T h
      have hl := lt_bound (n := k) (by omega)
      have hl2 := le_bound (n := k) (by omega)
      rw [ee] at hs
      have m1 := mc.1
      have m2 := mc.2
      simp only [cl] at m1
      generalize (rn (firsts T h) i).toNat = a at *
      generalize (rn (firsts T h) k).toNat = b at *
      simp -implicitDefEqProofs (maxSteps := 3000000) [hi, hk, a1, b1, a2, b2, ra, m1, m2, nl, w2, hs, hl, hl2])
    (by
      rintro s ⟨g, v2, rfl⟩
      simp -implicitDefEqProofs (maxSteps := 3000000))
  obtain ⟨s, v2, rfl, hf⟩ := hqq
  exact ⟨s, v2, rfl, hf⟩
theorem ct_l01Quotient (n : Nat) (hn : B + 3 + 4 ≤ n) (T : List (List Int)) (h : List Int) (H : HGood T h) :
    evalCall Tryz.prog An n 101 [.agg [.d (intss T)], .d (ints h)] [] = some ⟨.tuple [.agg [.own 0 0], .own 1 0], [.mat false (mcells (quoG T h)), .row (icells (nums T h))], []⟩ := by
  obtain ⟨m, rfl⟩ : ∃ m, n = m + 1 := ⟨n - 1, by omega⟩
  have hB := B_eq
  simp only [evalCall_at, fb101, bnd_some, bodyOf, Tryz.f101, Option.getD_some]
  generalize hb0 : Code.loop _ = cc0
  obtain rfl : cc0 = .loop (lp Tryz.f101 0) := by rw [← hb0]; rfl
  clear hb0
  have hT := H.1.1.1
  have hlen := setOk_len H.2.1
  have fb := (firsts_bd T h).1
  have c1 := ct_l01Cosets m (by omega) T h H
  simp -implicitDefEqProofs (maxSteps := 3000000) [c1]
  generalize hx : loopC _ _ _ = x
  generalize hl : lp Tryz.f101 0 = L at hx
  simp only [lp, bodyOf, Tryz.f101, Option.getD_some, loopsIn, List.append_nil, List.nil_append, List.cons_append, List.getD, List.getElem?_cons_zero, List.getElem?_cons_succ] at hl
  subst hl
  generalize hb1 : Code.loop _ = cc1 at hx
  obtain rfl : cc1 = .loop (lp Tryz.f101 1) := by rw [← hb1]; rfl
  clear hb1
  obtain ⟨qq, rfl, hqq⟩ := loop_end hx ((firsts T h).length) (fun i s => ∃ g v, s = ⟨[(2, .ptr 32 1 0), (4, .ptr 64 2 0), (6, .own 240 6), (7, .own 241 6), (8, .ptr 128 14 0), (9, .d (.int .i64 i))], [(32, some (1, .box [.d (intss T)])), (64, some (2, .box [.d .nil])), (128, some (14, .box [.own 288 v])), (240, some (6, .row (icells (nums T h)))), (241, some (6, .row (icells (firsts T h)))), (288, some (v, .mat true (mcells (tabM (quoR T h) i))))], g⟩)
    (fun qq => ∃ s v, qq = (.exit 0, s) ∧ lookL s.env 2 = some (.ptr 32 1 0) ∧ lookL s.env 4 = some (.ptr 64 2 0) ∧ lookL s.env 6 = some (.own 240 6) ∧ lookL s.env 7 = some (.own 241 6) ∧ lookL s.env 8 = some (.ptr 128 14 0) ∧ lookL s.env 9 = some (.d (.int .i64 ((firsts T h).length))) ∧ obsL s.obs 32 = some (1, .box [.d (intss T)]) ∧ obsL s.obs 64 = some (2, .box [.d .nil]) ∧ obsL s.obs 128 = some (14, .box [.own 288 v]) ∧ obsL s.obs 240 = some (6, .row (icells (nums T h))) ∧ obsL s.obs 241 = some (6, .row (icells (firsts T h))) ∧ obsL s.obs 288 = some (v, .mat true (mcells (tabM (quoR T h) ((firsts T h).length)))))
    (by show (firsts T h).length < m; omega) (by
      simp -implicitDefEqProofs (maxSteps := 3000000))
    (by
      rintro i s hi ⟨g, v, rfl⟩
      have w2 := wrap_id (n := (i : Int) + 1) (by omega)
      have hs := tabM_succ (quoR T h) i
      have hl := lt_bound (n := i) (by omega)
      simp -implicitDefEqProofs (maxSteps := 3000000) [hi]
      generalize hy : loopC _ _ _ = y
      obtain ⟨s, v2, rfl, hq⟩ := lp_l01Quotient_1 m (by omega) T h H i hi (tabM (quoR T h) i) v hy (by simp; rfl)
      rw [show tabI (quoE T h i) (firsts T h).length = quoR T h i from rfl] at hq
      simp -implicitDefEqProofs (maxSteps := 3000000) [hq, w2, hl, le_bound (n := i) (by omega), hs])
    (by
      rintro s ⟨g, v, rfl⟩
      simp -implicitDefEqProofs (maxSteps := 3000000))
  obtain ⟨s, v, rfl, hf⟩ := hqq
  simp -implicitDefEqProofs (maxSteps := 3000000) [hf, quoG]
theorem ct_quotient1 (n : Nat) (hn : B + 2 + 1 ≤ n) (T : List (List Int)) (h : List Int) (H : HGood T h) (i k : Nat) (hi : i < (firsts T h).length) (hk : k < (firsts T h).length) :
    evalCall Tryz.prog An n 169 [.d (.int .i64 i), .d (.int .i64 k), .d (.cellp [ints (nums T h)]), .d (.cellp [intss T]), .d (.cellp [ints (firsts T h)])] [] = some ⟨.d (.int .i64 (quoE T h i k)), [], []⟩ := by
  obtain ⟨m, rfl⟩ : ∃ m, n = m + 1 := ⟨n - 1, by omega⟩
  have hB := B_eq
  simp only [evalCall_at, fb169, bnd_some, bodyOf, Tryz.f169, Option.getD_some]
  have hT := H.1.1.1
  obtain ⟨a1, a2⟩ := fst_nat hi
  obtain ⟨b1, b2⟩ := fst_nat hk
  have ee : quoE T h i k = rn (nums T h) (mu T (rn (firsts T h) i).toNat (rn (firsts T h) k).toNat) := rfl
  have mc := mu_cl H.1.1 a2 b2
  have nl := nums_len T h
  have c1 := ct_times2i m (by omega) T H.1 ((rn (firsts T h) i).toNat : Int) ((rn (firsts T h) k).toNat : Int) (by omega) (by omega)
  rw [Int.toNat_natCast, Int.toNat_natCast, mc.1] at c1
  rw [ee]
  have m2 := mc.2
  generalize (rn (firsts T h) i).toNat = a at *
  generalize (rn (firsts T h) k).toNat = b at *
  simp -implicitDefEqProofs (maxSteps := 3000000) [hi, hk, a1, b1, c1, nl, m2]
theorem ct_quotient (n : Nat) (hn : B + 5 + 6 ≤ n) (T : List (List Int)) (h : List Int) (H : HGood T h) :
    evalCall Tryz.prog An n 104 [.agg [.d (intss T)], .d (ints h)] [] = some ⟨.tuple [.agg [.own 0 0], .own 1 0], [.mat false (mcells (quoG T h)), .row (icells (nums T h))], []⟩ := by
  obtain ⟨m, rfl⟩ : ∃ m, n = m + 1 := ⟨n - 1, by omega⟩
  have hB := B_eq
  simp only [evalCall_at, fb104, bnd_some, bodyOf, Tryz.f104, Option.getD_some]
  have hT := H.1.1.1
  have hlen := setOk_len H.2.1
  have fb := (firsts_bd T h).1
  have fp := firsts_pos H
  have c1 := ct_cosets m (by omega) T h H
  have c2 := ct_made m (by omega) (firsts T h).length (by omega) 169 [.cellp [ints (nums T h)], .cellp [intss T], .cellp [ints (firsts T h)]] (quoE T h) (B + 2 + 1) (by omega)
    (fun m hm i hi k hk => by simpa using ct_quotient1 m hm T h H i k hi hk) (by simp -implicitDefEqProofs (maxSteps := 3000000))
  have e : tabM (fun i => tabI (quoE T h i) (firsts T h).length) (firsts T h).length = quoG T h := rfl
  rw [e] at c2
  simp -implicitDefEqProofs (maxSteps := 3000000) [c1, c2]
end Go.Proofs.YtgklblkigjbggaaGreatE

namespace Go.Proofs.YtgklblkigjbggaaGreatE
open Go Go.Proofs
set_option maxHeartbeats 4000000
set_option maxRecDepth 4000
set_option linter.unusedSimpArgs false
set_option linter.unusedVariables false
set_option pp.deepTerms false
set_option pp.deepTerms.threshold 10
/-! ## InflateCochain -/
def InGood (T : List (List Int)) (l : List Int) (M : Int) (U : List Int) (D : Int) (V : List Int) : Prop := (HGood T l ∧ Nm T l) ∧ GM (quoG T l) M U ∧ IsCo (quoG T l) M D V
open Classical in
noncomputable def incode (T : List (List Int)) (l : List Int) (M : Int) (U : List Int) (D : Int) (V : List Int) : Int := if HGood T l then (if Nm T l then cocode (quoG T l) M U D V else 5) else subcode T l
noncomputable def inW (T : List (List Int)) (l : List Int) (D : Int) (V : List Int) : List Int := pulW T.length (quoG T l).length V (nums T l) D.toNat
theorem pulOk_in {T : List (List Int)} {M : Int} {U l : List Int} {D : Int} {V : List Int} (h : InGood T l M U D V) : PulOk T.length (quoG T l).length M V (nums T l) D.toNat := by
  obtain ⟨⟨H, _⟩, G, C⟩ := h
  have hT := H.1.1.1
  have hQ := G.1.1.1
  refine ⟨hT, hQ, by have := C.1; omega, G.2.1.1, by have := C.2.1; simpa [cellsOf_] using this, C.2.2, nums_len T l, fun i hi => ?_⟩
  rw [nums_len] at hi
  rw [quoG_len]
  exact nums_bd H i hi
theorem ct_specIn (n : Nat) (hn : B + 6 + 6 ≤ n) (T : List (List Int)) (hT : T.length ≤ 2000000) (l : List Int) (hl : l.length ≤ 10000000) (M : Int) (U : List Int) (hU : U.length ≤ 2000000) (D : Int) (V : List Int) (hV : V.length ≤ 10000000) (h : InGood T l M U D V) :
    evalCall Tryz.prog An n 38 [.agg [.d (intss T)], .d (ints l), .agg [.d (.int .i64 M), .d (ints U)], .agg [.d (.int .i64 D), .d (ints V)]] [] = some ⟨.tuple [.agg [.d (.int .i64 M), .own 0 0], .agg [.d (.int .i64 D), .own 1 0], .d (.int .i64 0)], [.row (icells (sbU U (nums T l))), .row (icells (inW T l D V))], []⟩ := by
  obtain ⟨m, rfl⟩ : ∃ m, n = m + 1 := ⟨n - 1, by omega⟩
  have hB := B_eq
  simp only [evalCall_at, fb38, bnd_some, bodyOf, Tryz.f38, Option.getD_some]
  obtain ⟨⟨H, N⟩, G, C⟩ := h
  have hT8 := H.1.1.1
  have fb := (firsts_bd T l).1
  have c1 := ct_l07Code m (by omega) T (by omega) l hl
  rw [subcode_0 H] at c1
  have c2 := ct_l01Normal m (by omega) T l H
  rw [bl_true N] at c2
  have c3 := ct_l01Quotient m (by omega) T l H
  have c4 := ct_l03CodeA m (by omega) (quoG T l) (by rw [quoG_len]; omega) M U hU D V hV
  rw [show cocode (quoG T l) M U D V = 0 from if_pos ⟨G, C⟩] at c4
  have S := pulOk_in (⟨⟨H, N⟩, G, C⟩ : InGood T l M U D V)
  obtain ⟨p, rfl⟩ := Int.eq_ofNat_of_zero_le C.1.1
  rw [Int.toNat_natCast] at S
  have c5 := ct_l03Pull m (by omega) T (quoG T l) M U V (nums T l) p S G.2.1.2
  have e : inW T l p V = pulW T.length (quoG T l).length V (nums T l) p := rfl
  rw [e]
  simp -implicitDefEqProofs (maxSteps := 3000000) [c1, c2, c3, c4, c5]
theorem ct_specIn_bad (n : Nat) (hn : B + 6 + 6 ≤ n) (T : List (List Int)) (hT : T.length ≤ 2000000) (l : List Int) (hl : l.length ≤ 10000000) (M : Int) (U : List Int) (hU : U.length ≤ 2000000) (D : Int) (V : List Int) (hV : V.length ≤ 10000000) (h : ¬ InGood T l M U D V) :
    evalCall Tryz.prog An n 38 [.agg [.d (intss T)], .d (ints l), .agg [.d (.int .i64 M), .d (ints U)], .agg [.d (.int .i64 D), .d (ints V)]] [] = some ⟨.tuple [.agg [.d (.int .i64 0), .d .nil], .agg [.d (.int .i64 0), .d .nil], .d (.int .i64 (incode T l M U D V))], [], []⟩ := by
  obtain ⟨m, rfl⟩ : ∃ m, n = m + 1 := ⟨n - 1, by omega⟩
  have hB := B_eq
  simp only [evalCall_at, fb38, bnd_some, bodyOf, Tryz.f38, Option.getD_some]
  have c1 := ct_l07Code m (by omega) T (by omega) l hl
  by_cases H : HGood T l
  · have hT8 := H.1.1.1
    have fb := (firsts_bd T l).1
    rw [subcode_0 H] at c1
    have c2 := ct_l01Normal m (by omega) T l H
    by_cases N : Nm T l
    · rw [bl_true N] at c2
      have c3 := ct_l01Quotient m (by omega) T l H
      have c4 := ct_l03CodeA m (by omega) (quoG T l) (by rw [quoG_len]; omega) M U hU D V hV
      rw [show cocode (quoG T l) M U D V = 1 from if_neg (fun z => h ⟨⟨H, N⟩, z⟩)] at c4
      have e : incode T l M U D V = 1 := by rw [incode, if_pos H, if_pos N]; exact if_neg (fun z => h ⟨⟨H, N⟩, z⟩)
      simp -implicitDefEqProofs (maxSteps := 3000000) [c1, c2, c3, c4, e]
    · rw [bl_false N] at c2
      have e : incode T l M U D V = 5 := by rw [incode, if_pos H, if_neg N]
      simp -implicitDefEqProofs (maxSteps := 3000000) [c1, c2, e]
  · have ne := subcode_ne H
    have ne2 := bne_t ne
    have e : incode T l M U D V = subcode T l := by rw [incode, if_neg H]
    rw [e]
    simp -implicitDefEqProofs (maxSteps := 3000000) [c1, ne, ne2]
theorem ct_implIn (n : Nat) (hn : B + 12 + 12 ≤ n) (T : List (List Int)) (hT : T.length ≤ 2000000) (hr : ∀ i, (rown T i).length ≤ 1000000000000) (l : List Int) (hl : l.length ≤ 10000000) (M : Int) (U : List Int) (hU : U.length ≤ 2000000) (D : Int) (V : List Int) (hV : V.length ≤ 10000000) (h : InGood T l M U D V) :
    evalCall Tryz.prog An n 39 [.agg [.d (intss T)], .d (ints l), .agg [.d (.int .i64 M), .d (ints U)], .agg [.d (.int .i64 D), .d (ints V)]] [] = some ⟨.tuple [.agg [.d (.int .i64 M), .own 0 0], .agg [.d (.int .i64 D), .own 1 0], .d (.int .i64 0)], [.row (icells (sbU U (nums T l))), .row (icells (inW T l D V))], []⟩ := by
  obtain ⟨m, rfl⟩ : ∃ m, n = m + 1 := ⟨n - 1, by omega⟩
  have hB := B_eq
  simp only [evalCall_at, fb39, bnd_some, bodyOf, Tryz.f39, Option.getD_some]
  obtain ⟨⟨H, N⟩, G, C⟩ := h
  have hT8 := H.1.1.1
  have fb := (firsts_bd T l).1
  have c1 := ct_subgroupCode m (by omega) T hT hr l hl
  rw [subcode_0 H] at c1
  have c2 := ct_isNormal m (by omega) T l H
  rw [bl_true N] at c2
  have c3 := ct_quotient m (by omega) T l H
  have c4 := ct_cochainCode m (by omega) (quoG T l) (by rw [quoG_len]; omega) (fun i => by have := quoG_rows T l i; omega) M U hU D V hV
  rw [show cocode (quoG T l) M U D V = 0 from if_pos ⟨G, C⟩] at c4
  have S := pulOk_in (⟨⟨H, N⟩, G, C⟩ : InGood T l M U D V)
  obtain ⟨p, rfl⟩ := Int.eq_ofNat_of_zero_le C.1.1
  rw [Int.toNat_natCast] at S
  have c5 := ct_pulled m (by omega) T (quoG T l) M U V (nums T l) p S G.2.1.2
  have e : inW T l p V = pulW T.length (quoG T l).length V (nums T l) p := rfl
  rw [e]
  simp -implicitDefEqProofs (maxSteps := 3000000) [c1, c2, c3, c4, c5]
theorem ct_implIn_bad (n : Nat) (hn : B + 12 + 12 ≤ n) (T : List (List Int)) (hT : T.length ≤ 2000000) (hr : ∀ i, (rown T i).length ≤ 1000000000000) (l : List Int) (hl : l.length ≤ 10000000) (M : Int) (U : List Int) (hU : U.length ≤ 2000000) (D : Int) (V : List Int) (hV : V.length ≤ 10000000) (h : ¬ InGood T l M U D V) :
    evalCall Tryz.prog An n 39 [.agg [.d (intss T)], .d (ints l), .agg [.d (.int .i64 M), .d (ints U)], .agg [.d (.int .i64 D), .d (ints V)]] [] = some ⟨.tuple [.agg [.d (.int .i64 0), .d .nil], .agg [.d (.int .i64 0), .d .nil], .d (.int .i64 (incode T l M U D V))], [], []⟩ := by
  obtain ⟨m, rfl⟩ : ∃ m, n = m + 1 := ⟨n - 1, by omega⟩
  have hB := B_eq
  simp only [evalCall_at, fb39, bnd_some, bodyOf, Tryz.f39, Option.getD_some]
  have c1 := ct_subgroupCode m (by omega) T hT hr l hl
  by_cases H : HGood T l
  · have hT8 := H.1.1.1
    have fb := (firsts_bd T l).1
    rw [subcode_0 H] at c1
    have c2 := ct_isNormal m (by omega) T l H
    by_cases N : Nm T l
    · rw [bl_true N] at c2
      have c3 := ct_quotient m (by omega) T l H
      have c4 := ct_cochainCode m (by omega) (quoG T l) (by rw [quoG_len]; omega) (fun i => by have := quoG_rows T l i; omega) M U hU D V hV
      rw [show cocode (quoG T l) M U D V = 1 from if_neg (fun z => h ⟨⟨H, N⟩, z⟩)] at c4
      have e : incode T l M U D V = 1 := by rw [incode, if_pos H, if_pos N]; exact if_neg (fun z => h ⟨⟨H, N⟩, z⟩)
      simp -implicitDefEqProofs (maxSteps := 3000000) [c1, c2, c3, c4, e]
    · rw [bl_false N] at c2
      have e : incode T l M U D V = 5 := by rw [incode, if_pos H, if_neg N]
      simp -implicitDefEqProofs (maxSteps := 3000000) [c1, c2, e]
  · have ne := subcode_ne H
    have ne2 := bne_t ne
    have e : incode T l M U D V = subcode T l := by rw [incode, if_neg H]
    rw [e]
    simp -implicitDefEqProofs (maxSteps := 3000000) [c1, ne, ne2]
theorem inU_len {T : List (List Int)} {l : List Int} {M : Int} {U : List Int} {D : Int} {V : List Int} (h : InGood T l M U D V) : (sbU U (nums T l)).length ≤ 8 := by
  rw [sbU_len, nums_len]; exact h.1.1.1.1.1.2
theorem inW_bd {T : List (List Int)} {l : List Int} {M : Int} {U : List Int} {D : Int} {V : List Int} (h : InGood T l M U D V) : (inW T l D V).length ≤ 343 := pulW_bd (pulOk_in h)
end Go.Proofs.YtgklblkigjbggaaGreatE
