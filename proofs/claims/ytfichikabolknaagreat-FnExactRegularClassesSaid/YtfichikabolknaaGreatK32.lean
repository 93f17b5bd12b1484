/- Contracts of functions of the program and of the reference: what the evaluator gives for a call of each. -/
import Derived.Test.YtfichikabolknaaGreatAEf
import Derived.Test.YtfichikabolknaaGreatK0
import Derived.Test.YtfichikabolknaaGreatK3
import Derived.Test.YtfichikabolknaaGreatK7
import Derived.Test.YtfichikabolknaaGreatK8
import Derived.Test.YtfichikabolknaaGreatK18
import Derived.Test.YtfichikabolknaaGreatK28
namespace Go.Proofs.YtfichikabolknaaGreatE
open Go Go.Proofs
set_option maxHeartbeats 4000000
set_option maxRecDepth 4000
set_option linter.unusedSimpArgs false
set_option linter.unusedVariables false
set_option pp.deepTerms false
set_option pp.deepTerms.threshold 10
/-! ## the program's subgroups -/
theorem ct_times2i (n : Nat) (hn : B + 1 ≤ n) (T : List (List Int)) (G : IsGr T) (a b : Int) (ha : 0 ≤ a ∧ a < T.length) (hb : 0 ≤ b ∧ b < T.length) :
    evalCall Tryz.prog An n 234 [.agg [.d (intss T)], .d (.sl 1 [.int .i64 a, .int .i64 b])] [] = some ⟨.d (.int .i64 (cl T a.toNat b.toNat)), [], []⟩ := by
  have c := ct_times2 n hn T G.1 a.toNat b.toNat (by omega) (by omega) (isGr_e0 G _ (by omega))
  rwa [Int.toNat_of_nonneg ha.1, Int.toNat_of_nonneg hb.1] at c
/-- What is known of the list of found elements. -/
structure Fnd (T : List (List Int)) (E X : List Int) : Prop where
  nd : X.Nodup
  rg : ∀ x ∈ X, 0 ≤ x ∧ x < T.length
  z : 0 < X.length ∧ rn X 0 = 0
  gen : ∀ S : List Int, (0 : Int) ∈ S → (∀ x ∈ S, ∀ a ∈ E, cl T x.toNat a.toNat ∈ S) → ∀ x ∈ X, x ∈ S
def Hit (T : List (List Int)) (E X : List Int) (i : Nat) : Prop := ∀ j < E.length, cl T (rn X i).toNat (rn E j).toNat ∈ X
theorem Fnd.len {T : List (List Int)} {E X : List Int} (F : Fnd T E X) : X.length ≤ T.length := nodup_len _ _ F.nd F.rg
theorem rn_app {X : List Int} {y : Int} {i : Nat} (h : i < X.length) : rn (X ++ [y]) i = rn X i := by
  simp -implicitDefEqProofs (maxSteps := 3000000) [rn, List.getD, List.getElem?_append, h]
theorem Fnd.add {T : List (List Int)} (R : RowsOk T) {E X : List Int} (hE : AllIn T.length E) (F : Fnd T E X) {i j : Nat} (hi : i < X.length) (hj : j < E.length) (h : cl T (rn X i).toNat (rn E j).toNat ∉ X) : Fnd T E (X ++ [cl T (rn X i).toNat (rn E j).toNat]) := by
  have hx := F.rg (rn X i) (mem_rn.2 ⟨i, hi, rfl⟩)
  have he := hE j hj
  have hc := (R.2 (rn X i).toNat (by omega)).2 (rn E j).toNat (by omega)
  refine ⟨?_, fun x hx => ?_, ⟨by simp, by rw [rn_app F.z.1]; exact F.z.2⟩, fun S h0 hS x hx => ?_⟩
  · rw [List.nodup_append]
    refine ⟨F.nd, by simp, fun a ha b hb e => ?_⟩
    simp only [List.mem_singleton] at hb
    subst hb; subst e; exact h ha
  · rcases List.mem_append.1 hx with y | y
    · exact F.rg x y
    · simp only [List.mem_singleton] at y; subst y; exact hc
  · rcases List.mem_append.1 hx with y | y
    · exact F.gen S h0 hS x y
    · simp only [List.mem_singleton] at y; subst y
      exact hS _ (F.gen S h0 hS _ (mem_rn.2 ⟨i, hi, rfl⟩)) _ (mem_rn.2 ⟨j, hj, rfl⟩)
theorem lp_subgroup_1 (m : Nat) (hm : B + 2 ≤ m) (T : List (List Int)) (G : IsGr T) (E : List Int) (hE : AllIn T.length E) (hEl : E.length ≤ 10000000) (X : List Int) (F : Fnd T E X) (i : Nat) (hi : i < X.length) (hH : ∀ k < i, Hit T E X k)
    {st : St} {o : Option (Ex × St)} (hx : loopC (cxAt 307 m) (lp Tryz.f307 1) st = o) {v : Nat}
    (f : obsL st.obs 32 = some (1, .box [.d (intss T)]) ∧ obsL st.obs 160 = some (v, .row (icells X)) ∧ obsL st.obs 608 = none ∧ lookL st.env 1 = some (.d (ints E)) ∧ lookL st.env 2 = some (.ptr 32 1 0) ∧ lookL st.env 5 = some (.own 160 v) ∧ lookL st.env 6 = some (.d (.int .i64 i)) ∧ lookL st.env 17 = some (.d (ints E)) ∧ lookL st.env 18 = some (.d (.int .i64 E.length)) ∧ lookL st.env 19 = some (.d (.int .i64 0))) :
    ∃ s X2 v2, o = some (.exit 2, s) ∧ (Fnd T E X2 ∧ i < X2.length ∧ ∀ k < i + 1, Hit T E X2 k) ∧
      obsL s.obs 32 = some (1, .box [.d (intss T)]) ∧ obsL s.obs 160 = some (v2, .row (icells X2)) ∧ obsL s.obs 608 = none ∧ lookL s.env 1 = some (.d (ints E)) ∧ lookL s.env 2 = some (.ptr 32 1 0) ∧ lookL s.env 5 = some (.own 160 v2) ∧ lookL s.env 6 = some (.d (.int .i64 i)) := by
  have hB := B_eq
  have R := G.1
  have hN := R.1
  generalize hl : lp Tryz.f307 1 = L at hx
  simp only [lp, bodyOf, Tryz.f307, Option.getD_some, loopsIn, List.append_nil, List.nil_append, List.cons_append, List.getD, List.getElem?_cons_zero, List.getElem?_cons_succ] at hl
  subst hl
  obtain ⟨qq, rfl, hqq⟩ := loop_end hx E.length (fun j s => ∃ g X2 v2, (Fnd T E X2 ∧ i < X2.length ∧ (∀ k < i, Hit T E X2 k) ∧ ∀ j' < j, cl T (rn X2 i).toNat (rn E j').toNat ∈ X2) ∧ s = ⟨[(1, .d (ints E)), (2, .ptr 32 1 0), (5, .own 160 v2), (6, .d (.int .i64 i)), (17, .d (ints E)), (18, .d (.int .i64 E.length)), (19, .d (.int .i64 j))], [(32, some (1, .box [.d (intss T)])), (160, some (v2, .row (icells X2)))], g⟩)
    (fun qq => ∃ s X2 v2, qq = (.exit 2, s) ∧ (Fnd T E X2 ∧ i < X2.length ∧ ∀ k < i + 1, Hit T E X2 k) ∧
      obsL s.obs 32 = some (1, .box [.d (intss T)]) ∧ obsL s.obs 160 = some (v2, .row (icells X2)) ∧ obsL s.obs 608 = none ∧ lookL s.env 1 = some (.d (ints E)) ∧ lookL s.env 2 = some (.ptr 32 1 0) ∧ lookL s.env 5 = some (.own 160 v2) ∧ lookL s.env 6 = some (.d (.int .i64 i)))
    (by show E.length < m; omega) ⟨st.g, X, v, ⟨F, hi, hH, fun j' h => by omega⟩, by simp -implicitDefEqProofs (maxSteps := 3000000) [f]⟩
    (by
      rintro j s hj ⟨g, X2, v2, ⟨F2, hi2, hH2, hp⟩, rfl⟩
      have w2 := wrap_id (n := (j : Int) + 1) (by omega)
      have hl := F2.len
      have hx2 := F2.rg (rn X2 i) (mem_rn.2 ⟨i, hi2, rfl⟩)
      have he := hE j hj
      have c1 := ct_times2i m (by omega) T G (rn X2 i) (rn E j) hx2 he
      have hadd := fun h => F2.add R hE hi2 hj h
      have hb := lt_bound (n := X2.length) (by omega)
      have hb2 := le_bound (n := X2.length) (by omega)
      have c2 := ct_Contains m (by omega) X2 (cl T (rn X2 i).toNat (rn E j).toNat) (by omega)
      have hm := mem_rn (l := X2) (z := cl T (rn X2 i).toNat (rn E j).toNat)
      have app : ∀ y : Int, y ∈ X2 → y ∈ X2 ++ [cl T (rn X2 i).toNat (rn E j).toNat] := fun y h => List.mem_append.2 (.inl h)
      have ri := rn_app (X := X2) (y := cl T (rn X2 i).toNat (rn E j).toNat) hi2
      by_cases h : cl T (rn X2 i).toNat (rn E j).toNat ∈ X2
      · rw [bl_true (hm.1 h)] at c2
        have hp2 : ∀ j' < j + 1, cl T (rn X2 i).toNat (rn E j').toNat ∈ X2 := fun j' hj' => by
          rcases Nat.lt_or_ge j' j with y | y
          · exact hp j' y
          · obtain rfl : j' = j := by omega
            exact h
        generalize cl T (rn X2 i).toNat (rn E j).toNat = P at *
        simp -implicitDefEqProofs (maxSteps := 3000000) [hj, hi2, w2, c1, c2]
        exact ⟨_, X2, ⟨F2, hi2, hH2, hp2⟩, rfl, rfl⟩
      · rw [bl_false (fun z => h (hm.2 z))] at c2
        have F3 := hadd h
        have hH3 : ∀ k < i, Hit T E (X2 ++ [cl T (rn X2 i).toNat (rn E j).toNat]) k := fun k hk j' hj' => by
          rw [rn_app (by omega)]; exact app _ (hH2 k hk j' hj')
        have hp3 : ∀ j' < j + 1, cl T (rn (X2 ++ [cl T (rn X2 i).toNat (rn E j).toNat]) i).toNat (rn E j').toNat ∈ X2 ++ [cl T (rn X2 i).toNat (rn E j).toNat] := fun j' hj' => by
          rw [ri]
          rcases Nat.lt_or_ge j' j with y | y
          · exact app _ (hp j' y)
          · obtain rfl : j' = j := by omega
            exact List.mem_append.2 (.inr (by simp -implicitDefEqProofs (maxSteps := 3000000)))
        have hi3 : i < (X2 ++ [cl T (rn X2 i).toNat (rn E j).toNat]).length := by simp; omega
        generalize cl T (rn X2 i).toNat (rn E j).toNat = P at *
        simp -implicitDefEqProofs (maxSteps := 3000000) [hj, hi2, w2, c1, c2, hb, hb2]
        exact ⟨_, X2 ++ [P], ⟨F3, hi3, hH3, hp3⟩, rfl, rfl⟩)
    (by
      rintro s ⟨g, X2, v2, ⟨F2, hi2, hH2, hp⟩, rfl⟩
      have hH3 : ∀ k < i + 1, Hit T E X2 k := fun k hk => by
        rcases Nat.lt_or_ge k i with y | y
        · exact hH2 k y
        · obtain rfl : k = i := by omega
          exact hp
      simp -implicitDefEqProofs (maxSteps := 3000000)
      exact ⟨X2, ⟨F2, hi2, hH3⟩, rfl⟩)
  obtain ⟨s, X2, v2, rfl, hq⟩ := hqq
  exact ⟨s, X2, v2, rfl, hq⟩
end Go.Proofs.YtfichikabolknaaGreatE
