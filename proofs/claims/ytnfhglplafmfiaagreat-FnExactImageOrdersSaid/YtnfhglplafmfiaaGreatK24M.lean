/- Contracts of functions of the program and of the reference: what the evaluator gives for a call of each. -/
import Derived.Test.YtnfhglplafmfiaaGreatAEf
import Derived.Test.YtnfhglplafmfiaaGreatK1M
import Derived.Test.YtnfhglplafmfiaaGreatK3M
import Derived.Test.YtnfhglplafmfiaaGreatK6M
import Derived.Test.YtnfhglplafmfiaaGreatK15
import Derived.Test.YtnfhglplafmfiaaGreatK19
import Derived.Test.YtnfhglplafmfiaaGreatK2
import Derived.Test.YtnfhglplafmfiaaGreatK16
namespace Go.Proofs.YtnfhglplafmfiaaGreatE
open Go Go.Proofs
set_option maxHeartbeats 4000000
set_option maxRecDepth 2000
set_option linter.unusedSimpArgs false
set_option linter.unusedVariables false
set_option pp.deepTerms false
set_option pp.deepTerms.threshold 10
/-! ## forms -/
noncomputable def fv (N : Nat) (V : List Int) (x y : Nat) : Int := atv N V [(x : Int), (y : Int)]
structure FOk (T : List (List Int)) (M : Int) (V : List Int) : Prop where
  G : IsGr T
  hM : 2 ≤ M ∧ M ≤ 12
  hV : (V.length : Int) = ((T.length : Int) - 1) ^ 2
  bV : ∀ i < V.length, 0 ≤ rn V i ∧ rn V i ≤ M - 1
theorem SGood.fok {T : List (List Int)} {M D : Int} {V : List Int} (h : SGood T M D V) : FOk T M V := by
  obtain ⟨h1, h2, h3, rfl, _⟩ := h
  exact ⟨h1, h2, by simpa [cellsOf_] using h3.2.1, h3.2.2⟩
theorem inG_pair {N x y : Nat} (hx : x < N) (hy : y < N) : InG N [(x : Int), (y : Int)] := fun i hi => by
  match i, hi with
  | 0, _ => simp -implicitDefEqProofs (maxSteps := 3000000) [rn]; omega
  | 1, _ => simp -implicitDefEqProofs (maxSteps := 3000000) [rn]; omega
theorem fv_bd {T : List (List Int)} {M : Int} {V : List Int} (S : FOk T M V) (x y : Nat) : 0 ≤ fv T.length V x y ∧ fv T.length V x y ≤ M - 1 :=
  atv_bd (by have := S.hM; omega) S.bV
theorem ct_at2 (n : Nat) (hn : B + 3 ≤ n) (T : List (List Int)) (M D : Int) (V : List Int) (S : FOk T M V) (x y : Nat) (hx : x < T.length) (hy : y < T.length) :
    evalCall Tryz.prog An n 138 [.agg [.d (.int .i64 D), .d (ints V)], .agg [.d (intss T)], .d (.sl 1 [.int .i64 x, .int .i64 y])] [] = some ⟨.d (.int .i64 (fv T.length V x y)), [], []⟩ :=
  ct_at n hn T S.G.1.1 D V [(x : Int), (y : Int)] (by simp -implicitDefEqProofs (maxSteps := 3000000)) (by simpa using S.hV) (inG_pair hx hy)
theorem ct_l03At2 (n : Nat) (hn : B + 2 ≤ n) (T : List (List Int)) (M D : Int) (V : List Int) (S : FOk T M V) (x y : Nat) (hx : x < T.length) (hy : y < T.length) :
    evalCall Tryz.prog An n 153 [.agg [.d (intss T)], .agg [.d (.int .i64 D), .d (ints V)], .d (.sl 1 [.int .i64 x, .int .i64 y])] [] = some ⟨.d (.int .i64 (fv T.length V x y)), [], []⟩ :=
  ct_l03At n hn T S.G.1.1 D V [(x : Int), (y : Int)] (by simp -implicitDefEqProofs (maxSteps := 3000000)) (by simpa using S.hV) (inG_pair hx hy)
noncomputable def frm (N : Nat) (M : Int) (V : List Int) (x y : Nat) : Int := (fv N V x y - fv N V y x) % M
theorem frm_0 {T : List (List Int)} {M : Int} {V : List Int} (S : FOk T M V) (x y : Nat) : frm T.length M V x y = 0 ↔ fv T.length V x y = fv T.length V y x := by
  have a := fv_bd S x y
  have b := fv_bd S y x
  have hM := S.hM
  unfold frm
  constructor
  · intro h
    rcases Int.le_total (fv T.length V y x) (fv T.length V x y) with z | z
    · rw [Int.emod_eq_of_lt (by omega) (by omega)] at h; omega
    · have : (fv T.length V x y - fv T.length V y x) % M = (fv T.length V x y - fv T.length V y x + M) % M := by rw [Int.add_emod_right]
      rw [this] at h
      by_cases e : fv T.length V x y = fv T.length V y x
      · exact e
      · rw [Int.emod_eq_of_lt (by omega) (by omega)] at h; omega
  · intro h
    rw [h, Int.sub_self, Int.zero_emod]
def IsSym (T : List (List Int)) (V : List Int) : Prop := ∀ x < T.length, ∀ y < T.length, fv T.length V x y = fv T.length V y x
theorem isSym_half {T : List (List Int)} {V : List Int} : IsSym T V ↔ ∀ x < T.length, ∀ y < x, fv T.length V x y = fv T.length V y x := by
  constructor
  · intro h x hx y hy; exact h x hx y (by omega)
  · intro h x hx y hy
    rcases Nat.lt_trichotomy x y with z | z | z
    · exact (h y hy x z).symm
    · rw [z]
    · exact h x hx y z
end Go.Proofs.YtnfhglplafmfiaaGreatE

namespace Go.Proofs.YtnfhglplafmfiaaGreatE
open Go Go.Proofs
set_option maxHeartbeats 4000000
set_option maxRecDepth 2000
set_option linter.unusedSimpArgs false
set_option linter.unusedVariables false
set_option pp.deepTerms false
set_option pp.deepTerms.threshold 10
/-! ## rows of rows as results -/
theorem mkt_row_after (k : Int) (t : List (List Int)) : ∀ i r, r < i → i ≤ t.length → rown (mkt k t i) r = marks (mkv k t r) (rown t r).length
  | i + 1, r, h, hi => by
    simp only [mkt]
    by_cases e : i = r
    · subst e
      rw [rown_set _ (by simp; omega)]
    · rw [rown_set_ne _ e]
      exact mkt_row_after k t i r (by omega) (by omega)
theorem ct_eqInt64SS_nil (n : Nat) (hn : B + 2 ≤ n) :
    evalCall Tryz.prog An n 83 [.d .nil, .d .nil] [] = some ⟨.d (.bool true), [], []⟩ := by
  obtain ⟨m, rfl⟩ : ∃ m, n = m + 1 := ⟨n - 1, by omega⟩
  have hB := B_eq
  simp only [evalCall_at, fb83, bnd_some, bodyOf, Tryz.f83, Option.getD_some]
  generalize hb0 : Code.loop _ = cc0
  obtain rfl : cc0 = .loop (lp Tryz.f83 0) := by rw [← hb0]; rfl
  clear hb0
  simp -implicitDefEqProofs (maxSteps := 3000000)
  generalize hx : loopC _ _ _ = x
  generalize hl : lp Tryz.f83 0 = L at hx
  simp only [lp, bodyOf, Tryz.f83, Option.getD_some, loopsIn, List.append_nil, List.nil_append, List.cons_append, List.getD, List.getElem?_cons_zero, List.getElem?_cons_succ] at hl
  subst hl
  obtain ⟨qq, rfl, hqq⟩ := loop_end hx (0) (fun i s => ∃ g, s = ⟨[(0, .d .nil), (1, .d .nil), (5, .d (.int .i64 i))], [], g⟩)
    (fun qq => ∃ s, qq = (.exit 0, s) ∧ lookL s.env 0 = some (.d .nil) ∧ lookL s.env 1 = some (.d .nil) ∧ lookL s.env 5 = some (.d (.int .i64 (0))))
    (by show 0 < m; omega) (by
      simp -implicitDefEqProofs (maxSteps := 3000000))
    (by
      rintro i s hi ⟨g, rfl⟩
      omega)
    (by
      rintro s ⟨g, rfl⟩
      simp -implicitDefEqProofs (maxSteps := 3000000))
  obtain ⟨s, rfl, hf⟩ := hqq
  simp -implicitDefEqProofs (maxSteps := 3000000) [hf]
theorem ct_markInt64SS_nil (n : Nat) (hn : B + 2 ≤ n) (k : Int) :
    evalCall Tryz.prog An n 84 [.d .nil, .d (.int .i64 k)] [] = some ⟨.d (.int .i64 k), [], []⟩ := by
  obtain ⟨m, rfl⟩ : ∃ m, n = m + 1 := ⟨n - 1, by omega⟩
  have hB := B_eq
  simp only [evalCall_at, fb84, bnd_some, bodyOf, Tryz.f84, Option.getD_some]
  generalize hb0 : Code.loop _ = cc0
  obtain rfl : cc0 = .loop (lp Tryz.f84 0) := by rw [← hb0]; rfl
  clear hb0
  simp -implicitDefEqProofs (maxSteps := 3000000)
  generalize hx : loopC _ _ _ = x
  generalize hl : lp Tryz.f84 0 = L at hx
  simp only [lp, bodyOf, Tryz.f84, Option.getD_some, loopsIn, List.append_nil, List.nil_append, List.cons_append, List.getD, List.getElem?_cons_zero, List.getElem?_cons_succ] at hl
  subst hl
  obtain ⟨qq, rfl, hqq⟩ := loop_end hx (0) (fun i s => ∃ g, s = ⟨[(0, .d .nil), (1, .d (.int .i64 k)), (5, .d (.int .i64 i))], [], g⟩)
    (fun qq => ∃ s, qq = (.exit 0, s) ∧ lookL s.env 0 = some (.d .nil) ∧ lookL s.env 1 = some (.d (.int .i64 k)) ∧ lookL s.env 5 = some (.d (.int .i64 (0))))
    (by show 0 < m; omega) (by
      simp -implicitDefEqProofs (maxSteps := 3000000))
    (by
      rintro i s hi ⟨g, rfl⟩
      omega)
    (by
      rintro s ⟨g, rfl⟩
      simp -implicitDefEqProofs (maxSteps := 3000000))
  obtain ⟨s, rfl, hf⟩ := hqq
  simp -implicitDefEqProofs (maxSteps := 3000000) [hf]
def tabM (F : Nat → List Int) (n : Nat) : List (List Int) := (List.range n).map F
@[simp] theorem tabM_len (F : Nat → List Int) (n : Nat) : (tabM F n).length = n := by simp -implicitDefEqProofs (maxSteps := 3000000) [tabM]
@[simp] theorem tabM_zero (F : Nat → List Int) : tabM F 0 = [] := rfl
@[simp] theorem mcells_nil : mcells [] = [] := rfl
theorem tabM_succ (F : Nat → List Int) (n : Nat) : tabM F n ++ [F n] = tabM F (n + 1) := by simp -implicitDefEqProofs (maxSteps := 3000000) [tabM, List.range_succ]
theorem rown_tabM (F : Nat → List Int) {n i : Nat} (h : i < n) : rown (tabM F n) i = F i := by simp -implicitDefEqProofs (maxSteps := 3000000) [rown, tabM, List.getD, h]
theorem rown_out {t : List (List Int)} {i : Nat} (h : t.length ≤ i) : rown t i = [] := by simp -implicitDefEqProofs (maxSteps := 3000000) [rown, List.getD, List.getElem?_eq_none h]
/-! ## FormOf -/
noncomputable def fe (T : List (List Int)) (M : Int) (V : List Int) (x y : Nat) : Int := if cl T x y = cl T y x then frm T.length M V x y else -1
noncomputable def frow (T : List (List Int)) (M : Int) (V : List Int) (x : Nat) : List Int := tabI (fe T M V x) T.length
noncomputable def fform (T : List (List Int)) (M : Int) (V : List Int) : List (List Int) := tabM (frow T M V) T.length
theorem fform_len (T : List (List Int)) (M : Int) (V : List Int) : (fform T M V).length = T.length := by simp -implicitDefEqProofs (maxSteps := 3000000) [fform]
theorem fform_row (T : List (List Int)) (M : Int) (V : List Int) (i : Nat) : (rown (fform T M V) i).length ≤ T.length := by
  by_cases h : i < T.length
  · rw [fform, rown_tabM _ h, frow, tabI_len]; omega
  · rw [rown_out (by simp -implicitDefEqProofs (maxSteps := 3000000) [fform]; omega)]; simp -implicitDefEqProofs (maxSteps := 3000000)
end Go.Proofs.YtnfhglplafmfiaaGreatE

namespace Go.Proofs.YtnfhglplafmfiaaGreatE
open Go Go.Proofs
set_option maxHeartbeats 4000000
set_option maxRecDepth 2000
set_option linter.unusedSimpArgs false
set_option linter.unusedVariables false
set_option pp.deepTerms false
set_option pp.deepTerms.threshold 10
/-! ## functions of Go's library that are given a test -/
theorem ct_IndexFunc (n : Nat) (hn : B + 2 ≤ n) (l : List Int) (hl : l.length ≤ 10000000) (c : Nat) (b : List YtnfhglplafmfiaaGreatE.D) (P : Int → Prop) [DecidablePred P] (L : Nat) (hL : L + 1 ≤ n)
    (hF : ∀ m, L ≤ m → ∀ i < l.length, evalCall Tryz.prog An m c (.d (.int .i64 (rn l i)) :: b.map ofD) [] = some ⟨.d (.bool (decide (P (rn l i)))), [], []⟩) (hc : c ∉ An.lend) :
    ((∀ i < l.length, ¬ P (rn l i)) ∧ evalCall Tryz.prog An n 219 [.d (ints l), .d (.clo c [] b)] [] = some ⟨.d (.int .i64 (-1)), [], []⟩) ∨
    ∃ i < l.length, P (rn l i) ∧ (∀ j < i, ¬ P (rn l j)) ∧ evalCall Tryz.prog An n 219 [.d (ints l), .d (.clo c [] b)] [] = some ⟨.d (.int .i64 i), [], []⟩ := by
  obtain ⟨m, rfl⟩ : ∃ m, n = m + 1 := ⟨n - 1, by omega⟩
  have hB := B_eq
  simp only [evalCall_at, fb219, bnd_some, bodyOf, Tryz.f219, Option.getD_some]
  generalize hb0 : Code.loop _ = cc0
  obtain rfl : cc0 = .loop (lp Tryz.f219 0) := by rw [← hb0]; rfl
  clear hb0
  simp -implicitDefEqProofs (maxSteps := 3000000) at hc
  simp -implicitDefEqProofs (maxSteps := 3000000)
  generalize hx : loopC _ _ _ = x
  generalize hl : lp Tryz.f219 0 = L at hx
  simp only [lp, bodyOf, Tryz.f219, Option.getD_some, loopsIn, List.append_nil, List.nil_append, List.cons_append, List.getD, List.getElem?_cons_zero, List.getElem?_cons_succ] at hl
  subst hl
  obtain ⟨q, rfl, hq⟩ := loop_end hx l.length (fun i s => (∀ j < i, ¬ P (rn l j)) ∧ ∃ g, s = ⟨[(0, .d (ints l)), (1, .d (.clo c [] b)), (7, .d (.int .i64 l.length)), (8, .d (.int .i64 i))], [], g⟩)
    (fun q => (∃ s, q = (.exit 0, s) ∧ (∀ i < l.length, ¬ P (rn l i))) ∨ ∃ s i, q = (.ret, s) ∧ i < l.length ∧ P (rn l i) ∧ (∀ j < i, ¬ P (rn l j)) ∧ lookL s.env 4 = some (.d (.int .i64 (i : Nat))))
    (by show l.length < m; omega) ⟨fun j hj => by omega, by simp⟩
    (by
      rintro i s hi ⟨hp, g, rfl⟩
      have w2 := wrap_id (n := (i : Int) + 1) (by omega)
      have c2 := hF m (by omega) i hi
      by_cases p : P (rn l i)
      · rw [decide_eq_true p] at c2
        simp -implicitDefEqProofs (maxSteps := 3000000) [hi, w2, c2, hc]
        exact ⟨i, hi, p, hp, rfl⟩
      · rw [decide_eq_false p] at c2
        simp -implicitDefEqProofs (maxSteps := 3000000) [hi, w2, c2, hc]
        intro j hj
        rcases Nat.lt_or_ge j i with z | z
        · exact hp j z
        · obtain rfl : j = i := by omega
          exact p)
    (by
      rintro s ⟨hp, g, rfl⟩
      simp -implicitDefEqProofs (maxSteps := 3000000)
      exact hp)
  rcases hq with ⟨s, rfl, h1⟩ | ⟨s, i, rfl, h1, h2, h3, h4⟩
  · exact .inl ⟨h1, by simp⟩
  · exact .inr ⟨i, h1, h2, h3, by simp -implicitDefEqProofs (maxSteps := 3000000) [h4]⟩
def keepL (P : Int → Prop) [DecidablePred P] (l : List Int) : List Int := l.filter (fun x => decide (¬ P x))
theorem keepL_none {P : Int → Prop} [DecidablePred P] {l : List Int} (h : ∀ i < l.length, ¬ P (rn l i)) : keepL P l = l := by
  unfold keepL
  rw [List.filter_eq_self]
  intro x hx
  obtain ⟨i, hi, rfl⟩ := List.mem_iff_getElem.1 hx
  have := h i hi
  rw [rn_get hi] at this
  simpa using this
theorem keepL_le (P : Int → Prop) [DecidablePred P] (l : List Int) : (keepL P l).length ≤ l.length := List.length_filter_le _ _
theorem keepL_take (P : Int → Prop) [DecidablePred P] {l : List Int} {i : Nat} (h : i < l.length) : keepL P (l.take (i + 1)) = keepL P (l.take i) ++ (if P (rn l i) then [] else [rn l i]) := by
  unfold keepL
  rw [List.take_succ_eq_append_getElem h, List.filter_append, rn_get h]
  congr 1
  by_cases p : P l[i]
  · simp -implicitDefEqProofs (maxSteps := 3000000) [p]
  · simp -implicitDefEqProofs (maxSteps := 3000000) [p]
theorem keepL_prefix (P : Int → Prop) [DecidablePred P] {l : List Int} {i : Nat} (hi : i ≤ l.length) (h : ∀ j < i, ¬ P (rn l j)) : keepL P (l.take i) = l.take i := by
  apply keepL_none
  intro j hj
  have : j < i := by simp -implicitDefEqProofs (maxSteps := 3000000) at hj; omega
  rw [rn_take this]; exact h j this
/-- The row in the middle of the work: what is kept of the first j, then the rest as it was. -/
def midR (P : Int → Prop) [DecidablePred P] (l : List Int) (j : Nat) : List Int := keepL P (l.take j) ++ l.drop (keepL P (l.take j)).length
theorem keepL_take_le (P : Int → Prop) [DecidablePred P] (l : List Int) (j : Nat) : (keepL P (l.take j)).length ≤ j := by
  have := keepL_le P (l.take j)
  simp -implicitDefEqProofs (maxSteps := 3000000) at this; omega
theorem midR_len (P : Int → Prop) [DecidablePred P] (l : List Int) (j : Nat) : (midR P l j).length = l.length := by
  have := keepL_le P (l.take j)
  simp -implicitDefEqProofs (maxSteps := 3000000) [midR] at this ⊢; omega
theorem midR_get (P : Int → Prop) [DecidablePred P] {l : List Int} {j : Nat} (h : j < l.length) : rn (midR P l j) j = rn l j := by
  have h1 := keepL_take_le P l j
  simp only [midR, rn, List.getD, List.getElem?_append]
  rw [if_neg (by omega), List.getElem?_drop, show (keepL P (l.take j)).length + (j - (keepL P (l.take j)).length) = j by omega]
theorem midR_del (P : Int → Prop) [DecidablePred P] {l : List Int} {j : Nat} (h : j < l.length) (p : P (rn l j)) : midR P l (j + 1) = midR P l j := by
  simp -implicitDefEqProofs (maxSteps := 3000000) [midR, keepL_take P h, p]
theorem midR_keep (P : Int → Prop) [DecidablePred P] {l : List Int} {j : Nat} (h : j < l.length) (p : ¬ P (rn l j)) : (midR P l j).set (keepL P (l.take j)).length (rn l j) = midR P l (j + 1) := by
  have h1 := keepL_take_le P l j
  simp only [midR, keepL_take P h, if_neg p]
  rw [List.set_append_right _ _ (Nat.le_refl _), Nat.sub_self, List.drop_eq_getElem_cons (show (keepL P (l.take j)).length < l.length by omega), List.set_cons_zero, List.length_append, List.append_assoc]
  rfl
theorem clr (X : List Int) : ∀ (k n : Nat), k + n = X.length → setFrom X k (List.replicate n 0) = X.take k ++ List.replicate n 0
  | k, 0, h => by simp -implicitDefEqProofs (maxSteps := 3000000) [setFrom]; exact (List.take_of_length_le (by omega)).symm
  | k, n + 1, h => by
    rw [List.replicate_succ, setFrom, clr (X.set k 0) (k + 1) n (by simp; omega), List.take_set, List.take_succ_eq_append_getElem (show k < X.length by omega), List.set_append_right _ _ (by simp; omega), List.append_assoc]
    congr 1
    simp -implicitDefEqProofs (maxSteps := 3000000) [show min k X.length = k by omega]
theorem midR_end (P : Int → Prop) [DecidablePred P] (l : List Int) : (midR P l l.length).take (keepL P l).length = keepL P l := by
  simp -implicitDefEqProofs (maxSteps := 3000000) [midR]
end Go.Proofs.YtnfhglplafmfiaaGreatE

namespace Go.Proofs.YtnfhglplafmfiaaGreatE
open Go Go.Proofs
set_option maxHeartbeats 4000000
set_option maxRecDepth 2000
set_option linter.unusedSimpArgs false
set_option linter.unusedVariables false
set_option pp.deepTerms false
set_option pp.deepTerms.threshold 10
/-! ## those elements for which something is so -/
theorem keepL_append (P : Int → Prop) [DecidablePred P] (l r : List Int) : keepL P (l ++ r) = keepL P l ++ keepL P r := by simp -implicitDefEqProofs (maxSteps := 3000000) [keepL]
def thoseL (q : Nat → Bool) (n : Nat) : List Int := ((List.range n).filter q).map (fun (i : Nat) => (i : Int))
theorem thoseL_le (q : Nat → Bool) (n : Nat) : (thoseL q n).length ≤ n := by
  have := List.length_filter_le q (List.range n)
  simpa [thoseL] using this
@[simp] theorem thoseL_zero (q : Nat → Bool) : thoseL q 0 = [] := rfl
theorem thoseL_succ (q : Nat → Bool) (n : Nat) : thoseL q (n + 1) = thoseL q n ++ (if q n = true then [(n : Int)] else []) := by
  unfold thoseL
  rw [List.range_succ, List.filter_append, List.map_append]
  congr 1
  by_cases h : q n = true
  · simp -implicitDefEqProofs (maxSteps := 3000000) [h]
  · simp -implicitDefEqProofs (maxSteps := 3000000) [h]
theorem keep_those (q : Nat → Bool) : ∀ n : Nat, keepL (fun x => q x.toNat = false) (tabI (fun i => (i : Int)) n) = thoseL q n
  | 0 => rfl
  | n + 1 => by
    rw [← tabI_succ, keepL_append, keep_those q n, thoseL_succ]
    congr 1
    cases h : q n with
    | true => simp -implicitDefEqProofs (maxSteps := 3000000) [keepL, h]
    | false => simp -implicitDefEqProofs (maxSteps := 3000000) [keepL, h]
noncomputable def regQ (T : List (List Int)) (M : Int) (V : List Int) (x : Nat) : Bool := bl (∀ y < T.length, fe T M V x y ≤ 0)
noncomputable def regL (T : List (List Int)) (M : Int) (V : List Int) : List Int := thoseL (regQ T M V) T.length
theorem regL_le (T : List (List Int)) (M : Int) (V : List Int) : (regL T M V).length ≤ T.length := thoseL_le _ _
end Go.Proofs.YtnfhglplafmfiaaGreatE
