/- Contracts of functions of the program and of the reference: what the evaluator gives for a call of each. -/
import Derived.Test.YtfichikabolknaaGreatAEf
import Derived.Test.YtfichikabolknaaGreatK0
import Derived.Test.YtfichikabolknaaGreatK3
import Derived.Test.YtfichikabolknaaGreatK7
import Derived.Test.YtfichikabolknaaGreatK18
import Derived.Test.YtfichikabolknaaGreatK26
import Derived.Test.YtfichikabolknaaGreatK27
import Derived.Test.YtfichikabolknaaGreatK28
import Derived.Test.YtfichikabolknaaGreatK31
import Derived.Test.YtfichikabolknaaGreatK32
namespace Go.Proofs.YtfichikabolknaaGreatE
open Go Go.Proofs
set_option maxHeartbeats 4000000
set_option maxRecDepth 4000
set_option linter.unusedSimpArgs false
set_option linter.unusedVariables false
set_option pp.deepTerms false
set_option pp.deepTerms.threshold 10
/-! ## the subgroup that some elements make -/
theorem sort_asc {X Y : List Int} (hd : X.Nodup) (hl : Y.length = X.length) (hc : ∀ x, Y.count x = X.count x) (hs : Srt Y X.length) : Y.Pairwise (· < ·) ∧ ∀ z, z ∈ Y ↔ z ∈ X :=
  ⟨srt_pw (by rw [hl]; exact hs) (nodup_cnt hc hd), fun z => mem_cnt hc z⟩
theorem ct_subgroup (n : Nat) (hn : B + 7 ≤ n) (T : List (List Int)) (G : IsGr T) (E : List Int) (hE : AllIn T.length E) (hEl : E.length ≤ 10000000) :
    ∃ X Y : List Int, (Fnd T E X ∧ (∀ k < X.length, Hit T E X k)) ∧ (Y.Pairwise (· < ·) ∧ ∀ z, z ∈ Y ↔ z ∈ X) ∧ evalCall Tryz.prog An n 307 [.agg [.d (intss T)], .d (ints E)] [] = some ⟨.own 0 0, [.row (icells Y)], []⟩ := by
  obtain ⟨m, rfl⟩ : ∃ m, n = m + 1 := ⟨n - 1, by omega⟩
  have hB := B_eq
  simp only [evalCall_at, fb307, bnd_some, bodyOf, Tryz.f307, Option.getD_some]
  generalize hb0 : Code.loop _ = cc0
  obtain rfl : cc0 = .loop (lp Tryz.f307 0) := by rw [← hb0]; rfl
  clear hb0
  have hN := G.1.1
  have F0 : Fnd T E [0] := ⟨by simp, fun x hx => by simp only [List.mem_singleton] at hx; omega, by simp -implicitDefEqProofs (maxSteps := 3000000) [rn], fun S h0 _ x hx => by simp only [List.mem_singleton] at hx; subst hx; exact h0⟩
  have e0 : [D.int .i64 0] = icells [0] := rfl
  simp -implicitDefEqProofs (maxSteps := 3000000)
  generalize hx : loopC _ _ _ = x
  generalize hl : lp Tryz.f307 0 = L at hx
  simp only [lp, bodyOf, Tryz.f307, Option.getD_some, loopsIn, List.append_nil, List.nil_append, List.cons_append, List.getD, List.getElem?_cons_zero, List.getElem?_cons_succ] at hl
  subst hl
  generalize hb1 : Code.loop _ = cc1 at hx
  obtain rfl : cc1 = .loop (lp Tryz.f307 1) := by rw [← hb1]; rfl
  clear hb1
  obtain ⟨qq, rfl, hqq⟩ := loop_end hx 8 (fun i s => ∃ g X v, (Fnd T E X ∧ i ≤ X.length ∧ ∀ k < i, Hit T E X k) ∧ s = ⟨[(1, .d (ints E)), (2, .ptr 32 1 0), (5, .own 160 v), (6, .d (.int .i64 i))], [(32, some (1, .box [.d (intss T)])), (160, some (v, .row (icells X)))], g⟩)
    (fun qq => ∃ s X v, qq = (.exit 0, s) ∧ (Fnd T E X ∧ ∀ k < X.length, Hit T E X k) ∧ obsL s.obs 160 = some (v, .row (icells X)) ∧ lookL s.env 5 = some (.own 160 v))
    (by show 8 < m; omega) ⟨6, [0], 3, ⟨F0, Nat.zero_le _, fun k hk => by omega⟩, by simp -implicitDefEqProofs (maxSteps := 3000000) [e0]⟩
    (by
      rintro i s hi ⟨g, X, v, ⟨F, hiX, hH⟩, rfl⟩
      have w2 := wrap_id (n := (i : Int) + 1) (by omega)
      by_cases h : i < X.length
      · simp -implicitDefEqProofs (maxSteps := 3000000) [h]
        generalize hy : loopC _ _ _ = y
        obtain ⟨s, X2, v2, rfl, ⟨F2, hi2, hH2⟩, hq⟩ := lp_subgroup_1 m (by omega) T G E hE hEl X F i h hH hy (v := v) (by simp -implicitDefEqProofs (maxSteps := 3000000))
        simp -implicitDefEqProofs (maxSteps := 3000000) [hq, w2]
        exact ⟨_, X2, ⟨F2, by omega, hH2⟩, rfl, rfl⟩
      · have e : i = X.length := by omega
        simp -implicitDefEqProofs (maxSteps := 3000000) [h]
        exact ⟨X, ⟨F, fun k hk => hH k (by omega)⟩, rfl⟩)
    (by
      rintro s ⟨g, X, v, ⟨F, hiX, hH⟩, rfl⟩
      have := F.len
      have h : ¬ (8 < X.length) := by omega
      have h2 : ¬ ((8 : Int) < X.length) := by omega
      simp -implicitDefEqProofs (maxSteps := 3000000) [h, h2]
      exact ⟨X, ⟨F, fun k hk => hH k (by omega)⟩, rfl⟩)
  obtain ⟨s, X, v, rfl, ⟨F, hH⟩, hf⟩ := hqq
  have hl := F.len
  obtain ⟨Y, ⟨y1, y2, y3⟩, c1⟩ := ct_Sort m (by omega) X (by omega)
  refine ⟨X, ⟨F, hH⟩, Y, sort_asc F.nd y1 y2 y3, ?_⟩
  simp -implicitDefEqProofs (maxSteps := 3000000) [hf, c1]
theorem sub_iff {T : List (List Int)} (G : IsGr T) {l X Y : List Int} (h : SetOk T l) (F : Fnd T l X) (hH : ∀ k < X.length, Hit T l X k) (hY : Y.Pairwise (· < ·) ∧ ∀ z, z ∈ Y ↔ z ∈ X) : Y = l ↔ SubG T l := by
  have R := G.1
  have hN := R.1
  have h0X : (0 : Int) ∈ X := mem_rn.2 ⟨0, F.z.1, F.z.2⟩
  constructor
  · intro e
    subst e
    refine ⟨(hY.2 0).2 h0X, fun a b ha hb => ?_⟩
    obtain ⟨i, hi, ei⟩ := mem_rn.1 ((hY.2 _).1 ha)
    obtain ⟨j, hj, ej⟩ := mem_rn.1 hb
    have := hH i hi j hj
    rw [ei, ej, Int.toNat_natCast, Int.toNat_natCast] at this
    exact (hY.2 _).2 this
  · intro hs
    refine pw_ext Y l hY.1 (asc_pw h.2) fun z => ?_
    rw [hY.2]
    constructor
    · intro hz
      refine F.gen l hs.1 (fun x hx a ha => ?_) z hz
      have gx := setOk_mem h hx
      have ga := setOk_mem h ha
      exact hs.2 x.toNat a.toNat (by rwa [Int.toNat_of_nonneg gx.1]) (by rwa [Int.toNat_of_nonneg ga.1])
    · intro hz
      obtain ⟨j, hj, ej⟩ := mem_rn.1 hz
      have gz := setOk_mem h hz
      have := hH 0 F.z.1 j hj
      have e0 := isGr_e0 G z.toNat (by omega)
      have zz : ((0 : Int)).toNat = 0 := rfl
      rw [F.z.2, ej, zz, e0, Int.toNat_of_nonneg gz.1] at this
      exact this
theorem ct_isSubgroup (n : Nat) (hn : B + 8 ≤ n) (T : List (List Int)) (G : IsGr T) (l : List Int) (h : SetOk T l) :
    evalCall Tryz.prog An n 208 [.agg [.d (intss T)], .d (ints l)] [] = some ⟨.d (.bool (bl (SubG T l))), [], []⟩ := by
  obtain ⟨m, rfl⟩ : ∃ m, n = m + 1 := ⟨n - 1, by omega⟩
  have hB := B_eq
  simp only [evalCall_at, fb208, bnd_some, bodyOf, Tryz.f208, Option.getD_some]
  have hN := G.1.1
  have hl := setOk_len h
  obtain ⟨X, Y, ⟨F, hH⟩, hY, c1⟩ := ct_subgroup m (by omega) T G l h.1 (by omega)
  have hi := sub_iff G h F hH hY
  have hYl : Y.length ≤ T.length := nodup_len _ _ (by
    rw [List.nodup_iff_pairwise_ne]
    exact hY.1.imp fun {a b} h => by omega) fun x hx => F.rg x ((hY.2 x).1 hx)
  have c2 := ct_Equal m (by omega) Y l (by omega)
  by_cases hS : SubG T l
  · rw [decide_eq_true (hi.2 hS)] at c2
    simp -implicitDefEqProofs (maxSteps := 3000000) [c1, c2, bl_true hS]
  · rw [decide_eq_false (fun z => hS (hi.1 z))] at c2
    simp -implicitDefEqProofs (maxSteps := 3000000) [c1, c2, bl_false hS]
theorem ct_subgroupCode (n : Nat) (hn : B + 9 ≤ n) (T : List (List Int)) (hT : T.length ≤ 2000000) (hr : ∀ i, (rown T i).length ≤ 1000000000000) (l : List Int) (hl : l.length ≤ 10000000) :
    evalCall Tryz.prog An n 197 [.agg [.d (intss T)], .d (ints l)] [] = some ⟨.d (.int .i64 (subcode T l)), [], []⟩ := by
  obtain ⟨m, rfl⟩ : ∃ m, n = m + 1 := ⟨n - 1, by omega⟩
  have hB := B_eq
  simp only [evalCall_at, fb197, bnd_some, bodyOf, Tryz.f197, Option.getD_some]
  have c1 := ct_setCode m (by omega) T hT hr l hl
  by_cases G : IsGr T
  · by_cases A : SetOk T l
    · rw [show setcode T l = 0 by simp only [setcode, if_pos G, if_pos A]] at c1
      have c2 := ct_isSubgroup m (by omega) T G l A
      by_cases hS : SubG T l
      · rw [bl_true hS] at c2
        have e : subcode T l = 0 := by simp only [subcode, if_pos G, if_pos A, if_pos hS]
        simp -implicitDefEqProofs (maxSteps := 3000000) [c1, c2, e]
      · rw [bl_false hS] at c2
        have e : subcode T l = 5 := by simp only [subcode, if_pos G, if_pos A, if_neg hS]
        simp -implicitDefEqProofs (maxSteps := 3000000) [c1, c2, e]
    · rw [show setcode T l = 2 by simp only [setcode, if_pos G, if_neg A]] at c1
      have e : subcode T l = 2 := by simp only [subcode, if_pos G, if_neg A]
      simp -implicitDefEqProofs (maxSteps := 3000000) [c1, e]
  · rw [show setcode T l = 1 by simp only [setcode, if_neg G]] at c1
    have e : subcode T l = 1 := by simp only [subcode, if_neg G]
    simp -implicitDefEqProofs (maxSteps := 3000000) [c1, e]
def HGood (T : List (List Int)) (l : List Int) : Prop := IsGr T ∧ SetOk T l ∧ SubG T l
theorem subcode_0 {T : List (List Int)} {l : List Int} (h : HGood T l) : subcode T l = 0 := by
  simp only [subcode, if_pos h.1, if_pos h.2.1, if_pos h.2.2]
theorem subcode_ne {T : List (List Int)} {l : List Int} (h : ¬ HGood T l) : subcode T l ≠ 0 := by
  unfold subcode
  by_cases h1 : IsGr T
  · by_cases h2 : SetOk T l
    · by_cases h3 : SubG T l
      · exact absurd ⟨h1, h2, h3⟩ h
      · simp only [if_pos h1, if_pos h2, if_neg h3]; omega
    · simp only [if_pos h1, if_neg h2]; omega
  · simp only [if_neg h1]; omega
theorem HGood.pos {T : List (List Int)} {l : List Int} (h : HGood T l) : 0 < l.length := by
  obtain ⟨i, hi, _⟩ := mem_rn.1 h.2.2.1; omega
/-! ## IndexOf -/
theorem ct_specIndex_bad (n : Nat) (hn : B + 6 ≤ n) (T : List (List Int)) (hT : T.length ≤ 2000000) (l : List Int) (hl : l.length ≤ 10000000) (h : ¬ HGood T l) :
    evalCall Tryz.prog An n 103 [.agg [.d (intss T)], .d (ints l)] [] = some ⟨.tuple [.d (.int .i64 0), .d (.int .i64 (subcode T l))], [], []⟩ := by
  obtain ⟨m, rfl⟩ : ∃ m, n = m + 1 := ⟨n - 1, by omega⟩
  have hB := B_eq
  simp only [evalCall_at, fb103, bnd_some, bodyOf, Tryz.f103, Option.getD_some]
  have c1 := ct_l07Code m (by omega) T (by omega) l hl
  have h1 := subcode_ne h
  have h2 := bne_t h1
  simp -implicitDefEqProofs (maxSteps := 3000000) [c1, h1, h2]
theorem ct_specIndex (n : Nat) (hn : B + 6 ≤ n) (T : List (List Int)) (hT : T.length ≤ 2000000) (l : List Int) (hl : l.length ≤ 10000000) (h : HGood T l) :
    evalCall Tryz.prog An n 103 [.agg [.d (intss T)], .d (ints l)] [] = some ⟨.tuple [.d (.int .i64 ((T.length : Int) / l.length)), .d (.int .i64 0)], [], []⟩ := by
  obtain ⟨m, rfl⟩ : ∃ m, n = m + 1 := ⟨n - 1, by omega⟩
  have hB := B_eq
  simp only [evalCall_at, fb103, bnd_some, bodyOf, Tryz.f103, Option.getD_some]
  have c1 := ct_l07Code m (by omega) T (by omega) l hl
  rw [subcode_0 h] at c1
  have c0 := ct_l01N m (by omega) T
  have hp := h.pos
  have e : (T.length : Int).tdiv l.length = (T.length : Int) / l.length := Int.tdiv_eq_ediv_of_nonneg (by omega)
  have q1 : 0 ≤ (T.length : Int) / l.length := Int.ediv_nonneg (by omega) (by omega)
  have q2 : (T.length : Int) / l.length ≤ T.length := Int.ediv_le_self _ (by omega)
  have w := wrap_id (n := (T.length : Int) / l.length) (by omega)
  have hz : (l.length : Int) ≠ 0 := by omega
  have hz2 : l ≠ [] := by intro z; rw [z] at hp; simp -implicitDefEqProofs (maxSteps := 3000000) at hp
  simp -implicitDefEqProofs (maxSteps := 3000000) [c1, c0, e, w, hz, hz2]
theorem ct_implIndex_bad (n : Nat) (hn : B + 10 ≤ n) (T : List (List Int)) (hT : T.length ≤ 2000000) (hr : ∀ i, (rown T i).length ≤ 1000000000000) (l : List Int) (hl : l.length ≤ 10000000) (h : ¬ HGood T l) :
    evalCall Tryz.prog An n 97 [.agg [.d (intss T)], .d (ints l)] [] = some ⟨.tuple [.d (.int .i64 0), .d (.int .i64 (subcode T l))], [], []⟩ := by
  obtain ⟨m, rfl⟩ : ∃ m, n = m + 1 := ⟨n - 1, by omega⟩
  have hB := B_eq
  simp only [evalCall_at, fb97, bnd_some, bodyOf, Tryz.f97, Option.getD_some]
  have c1 := ct_subgroupCode m (by omega) T hT hr l hl
  have h1 := subcode_ne h
  have h2 := bne_t h1
  simp -implicitDefEqProofs (maxSteps := 3000000) [c1, h1, h2]
theorem ct_implIndex (n : Nat) (hn : B + 10 ≤ n) (T : List (List Int)) (hT : T.length ≤ 2000000) (hr : ∀ i, (rown T i).length ≤ 1000000000000) (l : List Int) (hl : l.length ≤ 10000000) (h : HGood T l) :
    evalCall Tryz.prog An n 97 [.agg [.d (intss T)], .d (ints l)] [] = some ⟨.tuple [.d (.int .i64 ((T.length : Int) / l.length)), .d (.int .i64 0)], [], []⟩ := by
  obtain ⟨m, rfl⟩ : ∃ m, n = m + 1 := ⟨n - 1, by omega⟩
  have hB := B_eq
  simp only [evalCall_at, fb97, bnd_some, bodyOf, Tryz.f97, Option.getD_some]
  have c1 := ct_subgroupCode m (by omega) T hT hr l hl
  rw [subcode_0 h] at c1
  have c0 := ct_order m (by omega) T
  have hp := h.pos
  have e : (T.length : Int).tdiv l.length = (T.length : Int) / l.length := Int.tdiv_eq_ediv_of_nonneg (by omega)
  have q1 : 0 ≤ (T.length : Int) / l.length := Int.ediv_nonneg (by omega) (by omega)
  have q2 : (T.length : Int) / l.length ≤ T.length := Int.ediv_le_self _ (by omega)
  have w := wrap_id (n := (T.length : Int) / l.length) (by omega)
  have hz : (l.length : Int) ≠ 0 := by omega
  have hz2 : l ≠ [] := by intro z; rw [z] at hp; simp -implicitDefEqProofs (maxSteps := 3000000) at hp
  simp -implicitDefEqProofs (maxSteps := 3000000) [c1, c0, e, w, hz, hz2]
end Go.Proofs.YtfichikabolknaaGreatE
