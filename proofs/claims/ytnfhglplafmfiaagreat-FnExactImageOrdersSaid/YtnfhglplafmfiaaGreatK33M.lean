/- Contracts of functions of the program and of the reference: what the evaluator gives for a call of each. -/
import Derived.Test.YtnfhglplafmfiaaGreatAEf
import Derived.Test.YtnfhglplafmfiaaGreatK1M
import Derived.Test.YtnfhglplafmfiaaGreatK3M
import Derived.Test.YtnfhglplafmfiaaGreatK8M
import Derived.Test.YtnfhglplafmfiaaGreatK18
import Derived.Test.YtnfhglplafmfiaaGreatK29M
import Derived.Test.YtnfhglplafmfiaaGreatK26
import Derived.Test.YtnfhglplafmfiaaGreatK27
import Derived.Test.YtnfhglplafmfiaaGreatK31
namespace Go.Proofs.YtnfhglplafmfiaaGreatE
open Go Go.Proofs
set_option maxHeartbeats 4000000
set_option maxRecDepth 4000
set_option linter.unusedSimpArgs false
set_option linter.unusedVariables false
set_option pp.deepTerms false
set_option pp.deepTerms.threshold 10
/-! ## the program's subgroups -/
theorem ct_times2i (n : Nat) (hn : B + 1 ≤ n) (T : List (List Int)) (G : IsGr T) (a b : Int) (ha : 0 ≤ a ∧ a < T.length) (hb : 0 ≤ b ∧ b < T.length) :
    evalCall Tryz.prog An n 196 [.agg [.d (intss T)], .d (.sl 1 [.int .i64 a, .int .i64 b])] [] = some ⟨.d (.int .i64 (cl T a.toNat b.toNat)), [], []⟩ := by
  have c := ct_times2 n hn T G.1 a.toNat b.toNat (by omega) (by omega) (isGr_e0 G _ (by omega))
  rwa [Int.toNat_of_nonneg ha.1, Int.toNat_of_nonneg hb.1] at c
/-- What is known of the list of found elements. -/
structure Fnd (T : List (List Int)) (E X : List Int) : Prop where
  nd : X.Nodup
  rg : ∀ x ∈ X, 0 ≤ x ∧ x < T.length
  z : 0 < X.length ∧ rn X 0 = 0
  gen : ∀ S : List Int, (0 : Int) ∈ S → (∀ x ∈ S, ∀ a ∈ E, cl T x.toNat a.toNat ∈ S) → ∀ x ∈ X, x ∈ S
def Hit (T : List (List Int)) (E X : List Int) (i : Nat) : Prop := ∀ j < E.length, cl T (rn X i).toNat (rn E j).toNat ∈ X
theorem Fnd.len {T : List (List Int)} {E X : List Int} (F : Fnd T E X) : X.length ≤ T.length := nodup_len _ _ F.nd F.rg
theorem rn_app {X : List Int} {y : Int} {i : Nat} (h : i < X.length) : rn (X ++ [y]) i = rn X i := by
  simp -implicitDefEqProofs (maxSteps := 3000000) [rn, List.getD, List.getElem?_append, h]
theorem Fnd.add {T : List (List Int)} (R : RowsOk T) {E X : List Int} (hE : AllIn T.length E) (F : Fnd T E X) {i j : Nat} (hi : i < X.length) (hj : j < E.length) (h : cl T (rn X i).toNat (rn E j).toNat ∉ X) : Fnd T E (X ++ [cl T (rn X i).toNat (rn E j).toNat]) := by
  have hx := F.rg (rn X i) (mem_rn.2 ⟨i, hi, rfl⟩)
  have he := hE j hj
  have hc := (R.2 (rn X i).toNat (by omega)).2 (rn E j).toNat (by omega)
  refine ⟨?_, fun x hx => ?_, ⟨by simp, by rw [rn_app F.z.1]; exact F.z.2⟩, fun S h0 hS x hx => ?_⟩
  · rw [List.nodup_append]
    refine ⟨F.nd, by simp, fun a ha b hb e => ?_⟩
    simp only [List.mem_singleton] at hb
    subst hb; subst e; exact h ha
  · rcases List.mem_append.1 hx with y | y
    · exact F.rg x y
    · simp only [List.mem_singleton] at y; subst y; exact hc
  · rcases List.mem_append.1 hx with y | y
    · exact F.gen S h0 hS x y
    · simp only [List.mem_singleton] at y; subst y
      exact hS _ (F.gen S h0 hS _ (mem_rn.2 ⟨i, hi, rfl⟩)) _ (mem_rn.2 ⟨j, hj, rfl⟩)
theorem lp_subgroup_1 (m : Nat) (hm : B + 2 ≤ m) (T : List (List Int)) (G : IsGr T) (E : List Int) (hE : AllIn T.length E) (hEl : E.length ≤ 10000000) (X : List Int) (F : Fnd T E X) (i : Nat) (hi : i < X.length) (hH : ∀ k < i, Hit T E X k)
    {st : St} {o : Option (Ex × St)} (hx : loopC (cxAt 205 m) (lp Tryz.f205 1) st = o) {v : Nat}
    (f : obsL st.obs 32 = some (1, .box [.d (intss T)]) ∧ obsL st.obs 160 = some (v, .row (icells X)) ∧ obsL st.obs 608 = none ∧ lookL st.env 1 = some (.d (ints E)) ∧ lookL st.env 2 = some (.ptr 32 1 0) ∧ lookL st.env 5 = some (.own 160 v) ∧ lookL st.env 6 = some (.d (.int .i64 i)) ∧ lookL st.env 17 = some (.d (ints E)) ∧ lookL st.env 18 = some (.d (.int .i64 E.length)) ∧ lookL st.env 19 = some (.d (.int .i64 0))) :
    ∃ s X2 v2, o = some (.exit 2, s) ∧ (Fnd T E X2 ∧ i < X2.length ∧ ∀ k < i + 1, Hit T E X2 k) ∧
      obsL s.obs 32 = some (1, .box [.d (intss T)]) ∧ obsL s.obs 160 = some (v2, .row (icells X2)) ∧ obsL s.obs 608 = none ∧ lookL s.env 1 = some (.d (ints E)) ∧ lookL s.env 2 = some (.ptr 32 1 0) ∧ lookL s.env 5 = some (.own 160 v2) ∧ lookL s.env 6 = some (.d (.int .i64 i)) := by
  have hB := B_eq
  have R := G.1
  have hN := R.1
  generalize hl : lp Tryz.f205 1 = L at hx
  simp only [lp, bodyOf, Tryz.f205, Option.getD_some, loopsIn, List.append_nil, List.nil_append, List.cons_append, List.getD, List.getElem?_cons_zero, List.getElem?_cons_succ] at hl
  subst hl
  obtain ⟨qq, rfl, hqq⟩ := loop_end hx E.length (fun j s => ∃ g X2 v2, (Fnd T E X2 ∧ i < X2.length ∧ (∀ k < i, Hit T E X2 k) ∧ ∀ j' < j, cl T (rn X2 i).toNat (rn E j').toNat ∈ X2) ∧ s = ⟨[(1, .d (ints E)), (2, .ptr 32 1 0), (5, .own 160 v2), (6, .d (.int .i64 i)), (17, .d (ints E)), (18, .d (.int .i64 E.length)), (19, .d (.int .i64 j))], [(32, some (1, .box [.d (intss T)])), (160, some (v2, .row (icells X2)))], g⟩)
    (fun qq => ∃ s X2 v2, qq = (.exit 2, s) ∧ (Fnd T E X2 ∧ i < X2.length ∧ ∀ k < i + 1, Hit T E X2 k) ∧
      obsL s.obs 32 = some (1, .box [.d (intss T)]) ∧ obsL s.obs 160 = some (v2, .row (icells X2)) ∧ obsL s.obs 608 = none ∧ lookL s.env 1 = some (.d (ints E)) ∧ lookL s.env 2 = some (.ptr 32 1 0) ∧ lookL s.env 5 = some (.own 160 v2) ∧ lookL s.env 6 = some (.d (.int .i64 i)))
    (by show E.length < m; omega) ⟨st.g, X, v, ⟨F, hi, hH, fun j' h => by omega⟩, by simp -implicitDefEqProofs (maxSteps := 3000000) [f]⟩
    (by
      rintro j s hj ⟨g, X2, v2, ⟨F2, hi2, hH2, hp⟩, rfl⟩
      have w2 := wrap_id (n := (j : Int) + 1) (by omega)
      have hl := F2.len
      have hx2 := F2.rg (rn X2 i) (mem_rn.2 ⟨i, hi2, rfl⟩)
      have he := hE j hj
      have c1 := ct_times2i m (by omega) T G (rn X2 i) (rn E j) hx2 he
      have hadd := fun h => F2.add R hE hi2 hj h
      have hb := lt_bound (n := X2.length) (by omega)
      have hb2 := le_bound (n := X2.length) (by omega)
      have c2 := ct_Contains m (by omega) X2 (cl T (rn X2 i).toNat (rn E j).toNat) (by omega)
      have hm := mem_rn (l := X2) (z := cl T (rn X2 i).toNat (rn E j).toNat)
      have app : ∀ y : Int, y ∈ X2 → y ∈ X2 ++ [cl T (rn X2 i).toNat (rn E j).toNat] := fun y h => List.mem_append.2 (.inl h)
      have ri := rn_app (X := X2) (y := cl T (rn X2 i).toNat (rn E j).toNat) hi2
      by_cases h : cl T (rn X2 i).toNat (rn E j).toNat ∈ X2
      · rw [bl_true (hm.1 h)] at c2
        have hp2 : ∀ j' < j + 1, cl T (rn X2 i).toNat (rn E j').toNat ∈ X2 := fun j' hj' => by
          rcases Nat.lt_or_ge j' j with y | y
          · exact hp j' y
          · obtain rfl : j' = j := by omega
            exact h
        generalize cl T (rn X2 i).toNat (rn E j).toNat = P at *
        simp -implicitDefEqProofs (maxSteps := 3000000) [hj, hi2, w2, c1, c2]
        exact ⟨_, X2, ⟨F2, hi2, hH2, hp2⟩, rfl, rfl⟩
      · rw [bl_false (fun z => h (hm.2 z))] at c2
        have F3 := hadd h
        have hH3 : ∀ k < i, Hit T E (X2 ++ [cl T (rn X2 i).toNat (rn E j).toNat]) k := fun k hk j' hj' => by
          rw [rn_app (by omega)]; exact app _ (hH2 k hk j' hj')
        have hp3 : ∀ j' < j + 1, cl T (rn (X2 ++ [cl T (rn X2 i).toNat (rn E j).toNat]) i).toNat (rn E j').toNat ∈ X2 ++ [cl T (rn X2 i).toNat (rn E j).toNat] := fun j' hj' => by
          rw [ri]
          rcases Nat.lt_or_ge j' j with y | y
          · exact app _ (hp j' y)
          · obtain rfl : j' = j := by omega
            exact List.mem_append.2 (.inr (by simp -implicitDefEqProofs (maxSteps := 3000000)))
        have hi3 : i < (X2 ++ [cl T (rn X2 i).toNat (rn E j).toNat]).length := by simp; omega
        generalize cl T (rn X2 i).toNat (rn E j).toNat = P at *
        simp -implicitDefEqProofs (maxSteps := 3000000) [hj, hi2, w2, c1, c2, hb, hb2]
        exact ⟨_, X2 ++ [P], ⟨F3, hi3, hH3, hp3⟩, rfl, rfl⟩)
    (by
      rintro s ⟨g, X2, v2, ⟨F2, hi2, hH2, hp⟩, rfl⟩
      have hH3 : ∀ k < i + 1, Hit T E X2 k := fun k hk => by
        rcases Nat.lt_or_ge k i with y | y
        · exact hH2 k y
        · obtain rfl : k = i := by omega
          exact hp
      simp -implicitDefEqProofs (maxSteps := 3000000)
      exact ⟨X2, ⟨F2, hi2, hH3⟩, rfl⟩)
  obtain ⟨s, X2, v2, rfl, hq⟩ := hqq
  exact ⟨s, X2, v2, rfl, hq⟩
end Go.Proofs.YtnfhglplafmfiaaGreatE

namespace Go.Proofs.YtnfhglplafmfiaaGreatE
open Go Go.Proofs
set_option maxHeartbeats 4000000
set_option maxRecDepth 4000
set_option linter.unusedSimpArgs false
set_option linter.unusedVariables false
set_option pp.deepTerms false
set_option pp.deepTerms.threshold 10
/-! ## the subgroup that some elements make -/
theorem sort_asc {X Y : List Int} (hd : X.Nodup) (hl : Y.length = X.length) (hc : ∀ x, Y.count x = X.count x) (hs : Srt Y X.length) : Y.Pairwise (· < ·) ∧ ∀ z, z ∈ Y ↔ z ∈ X :=
  ⟨srt_pw (by rw [hl]; exact hs) (nodup_cnt hc hd), fun z => mem_cnt hc z⟩
theorem ct_subgroup (n : Nat) (hn : B + 7 ≤ n) (T : List (List Int)) (G : IsGr T) (E : List Int) (hE : AllIn T.length E) (hEl : E.length ≤ 10000000) :
    ∃ X Y : List Int, (Fnd T E X ∧ (∀ k < X.length, Hit T E X k)) ∧ (Y.Pairwise (· < ·) ∧ ∀ z, z ∈ Y ↔ z ∈ X) ∧ evalCall Tryz.prog An n 205 [.agg [.d (intss T)], .d (ints E)] [] = some ⟨.own 0 0, [.row (icells Y)], []⟩ := by
  obtain ⟨m, rfl⟩ : ∃ m, n = m + 1 := ⟨n - 1, by omega⟩
  have hB := B_eq
  simp only [evalCall_at, fb205, bnd_some, bodyOf, Tryz.f205, Option.getD_some]
  generalize hb0 : Code.loop _ = cc0
  obtain rfl : cc0 = .loop (lp Tryz.f205 0) := by rw [← hb0]; rfl
  clear hb0
  have hN := G.1.1
  have F0 : Fnd T E [0] := ⟨by simp, fun x hx => by simp only [List.mem_singleton] at hx; omega, by simp -implicitDefEqProofs (maxSteps := 3000000) [rn], fun S h0 _ x hx => by simp only [List.mem_singleton] at hx; subst hx; exact h0⟩
  have e0 : [D.int .i64 0] = icells [0] := rfl
  simp -implicitDefEqProofs (maxSteps := 3000000)
  generalize hx : loopC _ _ _ = x
  generalize hl : lp Tryz.f205 0 = L at hx
  simp only [lp, bodyOf, Tryz.f205, Option.getD_some, loopsIn, List.append_nil, List.nil_append, List.cons_append, List.getD, List.getElem?_cons_zero, List.getElem?_cons_succ] at hl
  subst hl
  generalize hb1 : Code.loop _ = cc1 at hx
  obtain rfl : cc1 = .loop (lp Tryz.f205 1) := by rw [← hb1]; rfl
  clear hb1
  obtain ⟨qq, rfl, hqq⟩ := loop_end hx 8 (fun i s => ∃ g X v, (Fnd T E X ∧ i ≤ X.length ∧ ∀ k < i, Hit T E X k) ∧ s = ⟨[(1, .d (ints E)), (2, .ptr 32 1 0), (5, .own 160 v), (6, .d (.int .i64 i))], [(32, some (1, .box [.d (intss T)])), (160, some (v, .row (icells X)))], g⟩)
    (fun qq => ∃ s X v, qq = (.exit 0, s) ∧ (Fnd T E X ∧ ∀ k < X.length, Hit T E X k) ∧ obsL s.obs 160 = some (v, .row (icells X)) ∧ lookL s.env 5 = some (.own 160 v))
    (by show 8 < m; omega) ⟨6, [0], 3, ⟨F0, Nat.zero_le _, fun k hk => by omega⟩, by simp -implicitDefEqProofs (maxSteps := 3000000) [e0]⟩
    (by
      rintro i s hi ⟨g, X, v, ⟨F, hiX, hH⟩, rfl⟩
      have w2 := wrap_id (n := (i : Int) + 1) (by omega)
      by_cases h : i < X.length
      · simp -implicitDefEqProofs (maxSteps := 3000000) [h]
        generalize hy : loopC _ _ _ = y
        obtain ⟨s, X2, v2, rfl, ⟨F2, hi2, hH2⟩, hq⟩ := lp_subgroup_1 m (by omega) T G E hE hEl X F i h hH hy (v := v) (by simp -implicitDefEqProofs (maxSteps := 3000000))
        simp -implicitDefEqProofs (maxSteps := 3000000) [hq, w2]
        exact ⟨_, X2, ⟨F2, by omega, hH2⟩, rfl, rfl⟩
      · have e : i = X.length := by omega
        simp -implicitDefEqProofs (maxSteps := 3000000) [h]
        exact ⟨X, ⟨F, fun k hk => hH k (by omega)⟩, rfl⟩)
    (by
      rintro s ⟨g, X, v, ⟨F, hiX, hH⟩, rfl⟩
      have := F.len
      have h : ¬ (8 < X.length) := by omega
      have h2 : ¬ ((8 : Int) < X.length) := by omega
      simp -implicitDefEqProofs (maxSteps := 3000000) [h, h2]
      exact ⟨X, ⟨F, fun k hk => hH k (by omega)⟩, rfl⟩)
  obtain ⟨s, X, v, rfl, ⟨F, hH⟩, hf⟩ := hqq
  have hl := F.len
  obtain ⟨Y, ⟨y1, y2, y3⟩, c1⟩ := ct_Sort m (by omega) X (by omega)
  refine ⟨X, ⟨F, hH⟩, Y, sort_asc F.nd y1 y2 y3, ?_⟩
  simp -implicitDefEqProofs (maxSteps := 3000000) [hf, c1]
theorem sub_iff {T : List (List Int)} (G : IsGr T) {l X Y : List Int} (h : SetOk T l) (F : Fnd T l X) (hH : ∀ k < X.length, Hit T l X k) (hY : Y.Pairwise (· < ·) ∧ ∀ z, z ∈ Y ↔ z ∈ X) : Y = l ↔ SubG T l := by
  have R := G.1
  have hN := R.1
  have h0X : (0 : Int) ∈ X := mem_rn.2 ⟨0, F.z.1, F.z.2⟩
  constructor
  · intro e
    subst e
    refine ⟨(hY.2 0).2 h0X, fun a b ha hb => ?_⟩
    obtain ⟨i, hi, ei⟩ := mem_rn.1 ((hY.2 _).1 ha)
    obtain ⟨j, hj, ej⟩ := mem_rn.1 hb
    have := hH i hi j hj
    rw [ei, ej, Int.toNat_natCast, Int.toNat_natCast] at this
    exact (hY.2 _).2 this
  · intro hs
    refine pw_ext Y l hY.1 (asc_pw h.2) fun z => ?_
    rw [hY.2]
    constructor
    · intro hz
      refine F.gen l hs.1 (fun x hx a ha => ?_) z hz
      have gx := setOk_mem h hx
      have ga := setOk_mem h ha
      exact hs.2 x.toNat a.toNat (by rwa [Int.toNat_of_nonneg gx.1]) (by rwa [Int.toNat_of_nonneg ga.1])
    · intro hz
      obtain ⟨j, hj, ej⟩ := mem_rn.1 hz
      have gz := setOk_mem h hz
      have := hH 0 F.z.1 j hj
      have e0 := isGr_e0 G z.toNat (by omega)
      have zz : ((0 : Int)).toNat = 0 := rfl
      rw [F.z.2, ej, zz, e0, Int.toNat_of_nonneg gz.1] at this
      exact this
theorem ct_isSubgroup (n : Nat) (hn : B + 8 ≤ n) (T : List (List Int)) (G : IsGr T) (l : List Int) (h : SetOk T l) :
    evalCall Tryz.prog An n 125 [.agg [.d (intss T)], .d (ints l)] [] = some ⟨.d (.bool (bl (SubG T l))), [], []⟩ := by
  obtain ⟨m, rfl⟩ : ∃ m, n = m + 1 := ⟨n - 1, by omega⟩
  have hB := B_eq
  simp only [evalCall_at, fb125, bnd_some, bodyOf, Tryz.f125, Option.getD_some]
  have hN := G.1.1
  have hl := setOk_len h
  obtain ⟨X, Y, ⟨F, hH⟩, hY, c1⟩ := ct_subgroup m (by omega) T G l h.1 (by omega)
  have hi := sub_iff G h F hH hY
  have hYl : Y.length ≤ T.length := nodup_len _ _ (by
    rw [List.nodup_iff_pairwise_ne]
    exact hY.1.imp fun {a b} h => by omega) fun x hx => F.rg x ((hY.2 x).1 hx)
  have c2 := ct_Equal m (by omega) Y l (by omega)
  by_cases hS : SubG T l
  · rw [decide_eq_true (hi.2 hS)] at c2
    simp -implicitDefEqProofs (maxSteps := 3000000) [c1, c2, bl_true hS]
  · rw [decide_eq_false (fun z => hS (hi.1 z))] at c2
    simp -implicitDefEqProofs (maxSteps := 3000000) [c1, c2, bl_false hS]
theorem ct_subgroupCode (n : Nat) (hn : B + 9 ≤ n) (T : List (List Int)) (hT : T.length ≤ 2000000) (hr : ∀ i, (rown T i).length ≤ 1000000000000) (l : List Int) (hl : l.length ≤ 10000000) :
    evalCall Tryz.prog An n 113 [.agg [.d (intss T)], .d (ints l)] [] = some ⟨.d (.int .i64 (subcode T l)), [], []⟩ := by
  obtain ⟨m, rfl⟩ : ∃ m, n = m + 1 := ⟨n - 1, by omega⟩
  have hB := B_eq
  simp only [evalCall_at, fb113, bnd_some, bodyOf, Tryz.f113, Option.getD_some]
  have c1 := ct_setCode m (by omega) T hT hr l hl
  by_cases G : IsGr T
  · by_cases A : SetOk T l
    · rw [show setcode T l = 0 by simp only [setcode, if_pos G, if_pos A]] at c1
      have c2 := ct_isSubgroup m (by omega) T G l A
      by_cases hS : SubG T l
      · rw [bl_true hS] at c2
        have e : subcode T l = 0 := by simp only [subcode, if_pos G, if_pos A, if_pos hS]
        simp -implicitDefEqProofs (maxSteps := 3000000) [c1, c2, e]
      · rw [bl_false hS] at c2
        have e : subcode T l = 5 := by simp only [subcode, if_pos G, if_pos A, if_neg hS]
        simp -implicitDefEqProofs (maxSteps := 3000000) [c1, c2, e]
    · rw [show setcode T l = 2 by simp only [setcode, if_pos G, if_neg A]] at c1
      have e : subcode T l = 2 := by simp only [subcode, if_pos G, if_neg A]
      simp -implicitDefEqProofs (maxSteps := 3000000) [c1, e]
  · rw [show setcode T l = 1 by simp only [setcode, if_neg G]] at c1
    have e : subcode T l = 1 := by simp only [subcode, if_neg G]
    simp -implicitDefEqProofs (maxSteps := 3000000) [c1, e]
def HGood (T : List (List Int)) (l : List Int) : Prop := IsGr T ∧ SetOk T l ∧ SubG T l
theorem subcode_0 {T : List (List Int)} {l : List Int} (h : HGood T l) : subcode T l = 0 := by
  simp only [subcode, if_pos h.1, if_pos h.2.1, if_pos h.2.2]
theorem subcode_ne {T : List (List Int)} {l : List Int} (h : ¬ HGood T l) : subcode T l ≠ 0 := by
  unfold subcode
  by_cases h1 : IsGr T
  · by_cases h2 : SetOk T l
    · by_cases h3 : SubG T l
      · exact absurd ⟨h1, h2, h3⟩ h
      · simp only [if_pos h1, if_pos h2, if_neg h3]; omega
    · simp only [if_pos h1, if_neg h2]; omega
  · simp only [if_neg h1]; omega
theorem HGood.pos {T : List (List Int)} {l : List Int} (h : HGood T l) : 0 < l.length := by
  obtain ⟨i, hi, _⟩ := mem_rn.1 h.2.2.1; omega
/-! ## IndexOf -/
end Go.Proofs.YtnfhglplafmfiaaGreatE
