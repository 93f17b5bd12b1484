/- Contracts of functions of the program and of the reference: what the evaluator gives for a call of each. -/
import Derived.Test.YtfichikabolknaaGreatAEf
import Derived.Test.YtfichikabolknaaGreatK0
import Derived.Test.YtfichikabolknaaGreatK16
namespace Go.Proofs.YtfichikabolknaaGreatE
open Go Go.Proofs
set_option maxHeartbeats 4000000
set_option maxRecDepth 2000
set_option linter.unusedSimpArgs false
set_option linter.unusedVariables false
set_option pp.deepTerms false
set_option pp.deepTerms.threshold 10
/-! ## functions of Go's library that are given a test -/
theorem ct_counting (n : Nat) (hn : B + 1 ≤ n) (k : Nat) (hk : k ≤ 10000000) :
    evalCall Tryz.prog An n 332 [.d (.int .i64 k)] [] = some ⟨.own 0 0, [.row (icells (tabI (fun i => (i : Int)) k))], []⟩ := by
  obtain ⟨m, rfl⟩ : ∃ m, n = m + 1 := ⟨n - 1, by omega⟩
  have hB := B_eq
  simp only [evalCall_at, fb332, bnd_some, bodyOf, Tryz.f332, Option.getD_some]
  generalize hb0 : Code.loop _ = cc0
  obtain rfl : cc0 = .loop (lp Tryz.f332 0) := by rw [← hb0]; rfl
  clear hb0
  simp -implicitDefEqProofs (maxSteps := 3000000)
  generalize hx : loopC _ _ _ = x
  generalize hl : lp Tryz.f332 0 = L at hx
  simp only [lp, bodyOf, Tryz.f332, Option.getD_some, loopsIn, List.append_nil, List.nil_append, List.cons_append, List.getD, List.getElem?_cons_zero, List.getElem?_cons_succ] at hl
  subst hl
  obtain ⟨qq, rfl, hqq⟩ := loop_end hx (k) (fun i s => ∃ g v, s = ⟨[(3, .own 80 v), (6, .d (.int .i64 k)), (7, .d (.int .i64 i))], [(80, some (v, .row (icells (tabI (fun j => (j : Int)) i))))], g⟩)
    (fun qq => ∃ s v, qq = (.exit 0, s) ∧ lookL s.env 3 = some (.own 80 v) ∧ lookL s.env 6 = some (.d (.int .i64 k)) ∧ lookL s.env 7 = some (.d (.int .i64 (k))) ∧ obsL s.obs 80 = some (v, .row (icells (tabI (fun j => (j : Int)) (k)))))
    (by show k < m; omega) (by
      simp -implicitDefEqProofs (maxSteps := 3000000))
    (by
      rintro i s hi ⟨g, v, rfl⟩
      have w2 := wrap_id (n := (i : Int) + 1) (by omega)
      have hs := tabI_succ (fun j => (j : Int)) i
      have hl := lt_bound (n := i) (by omega)
      simp -implicitDefEqProofs (maxSteps := 3000000) [hi, w2, hs, hl, le_bound (n := i) (by omega)])
    (by
      rintro s ⟨g, v, rfl⟩
      simp -implicitDefEqProofs (maxSteps := 3000000))
  obtain ⟨s, v, rfl, hf⟩ := hqq
  simp -implicitDefEqProofs (maxSteps := 3000000) [hf]
/-- The first place where a test holds. -/
theorem ct_IndexFunc (n : Nat) (hn : B + 2 ≤ n) (l : List Int) (hl : l.length ≤ 10000000) (c : Nat) (b : List YtfichikabolknaaGreatE.D) (P : Int → Prop) [DecidablePred P] (L : Nat) (hL : L + 1 ≤ n)
    (hF : ∀ m, L ≤ m → ∀ i < l.length, evalCall Tryz.prog An m c (.d (.int .i64 (rn l i)) :: b.map ofD) [] = some ⟨.d (.bool (decide (P (rn l i)))), [], []⟩) (hc : c ∉ An.lend) :
    ((∀ i < l.length, ¬ P (rn l i)) ∧ evalCall Tryz.prog An n 325 [.d (ints l), .d (.clo c [] b)] [] = some ⟨.d (.int .i64 (-1)), [], []⟩) ∨
    ∃ i < l.length, P (rn l i) ∧ (∀ j < i, ¬ P (rn l j)) ∧ evalCall Tryz.prog An n 325 [.d (ints l), .d (.clo c [] b)] [] = some ⟨.d (.int .i64 i), [], []⟩ := by
  obtain ⟨m, rfl⟩ : ∃ m, n = m + 1 := ⟨n - 1, by omega⟩
  have hB := B_eq
  simp only [evalCall_at, fb325, bnd_some, bodyOf, Tryz.f325, Option.getD_some]
  generalize hb0 : Code.loop _ = cc0
  obtain rfl : cc0 = .loop (lp Tryz.f325 0) := by rw [← hb0]; rfl
  clear hb0
  simp -implicitDefEqProofs (maxSteps := 3000000) at hc
  simp -implicitDefEqProofs (maxSteps := 3000000)
  generalize hx : loopC _ _ _ = x
  generalize hl : lp Tryz.f325 0 = L at hx
  simp only [lp, bodyOf, Tryz.f325, Option.getD_some, loopsIn, List.append_nil, List.nil_append, List.cons_append, List.getD, List.getElem?_cons_zero, List.getElem?_cons_succ] at hl
  subst hl
  obtain ⟨q, rfl, hq⟩ := loop_end hx l.length (fun i s => (∀ j < i, ¬ P (rn l j)) ∧ ∃ g, s = ⟨[(0, .d (ints l)), (1, .d (.clo c [] b)), (7, .d (.int .i64 l.length)), (8, .d (.int .i64 i))], [], g⟩)
    (fun q => (∃ s, q = (.exit 0, s) ∧ (∀ i < l.length, ¬ P (rn l i))) ∨ ∃ s i, q = (.ret, s) ∧ i < l.length ∧ P (rn l i) ∧ (∀ j < i, ¬ P (rn l j)) ∧ lookL s.env 4 = some (.d (.int .i64 (i : Nat))))
    (by show l.length < m; omega) ⟨fun j hj => by omega, by simp⟩
    (by
      rintro i s hi ⟨hp, g, rfl⟩
      have w2 := wrap_id (n := (i : Int) + 1) (by omega)
      have c2 := hF m (by omega) i hi
      by_cases p : P (rn l i)
      · rw [decide_eq_true p] at c2
        simp -implicitDefEqProofs (maxSteps := 3000000) [hi, w2, c2, hc]
        exact ⟨i, hi, p, hp, rfl⟩
      · rw [decide_eq_false p] at c2
        simp -implicitDefEqProofs (maxSteps := 3000000) [hi, w2, c2, hc]
        intro j hj
        rcases Nat.lt_or_ge j i with z | z
        · exact hp j z
        · obtain rfl : j = i := by omega
          exact p)
    (by
      rintro s ⟨hp, g, rfl⟩
      simp -implicitDefEqProofs (maxSteps := 3000000)
      exact hp)
  rcases hq with ⟨s, rfl, h1⟩ | ⟨s, i, rfl, h1, h2, h3, h4⟩
  · exact .inl ⟨h1, by simp⟩
  · exact .inr ⟨i, h1, h2, h3, by simp -implicitDefEqProofs (maxSteps := 3000000) [h4]⟩
theorem ct_ContainsFunc (n : Nat) (hn : B + 3 ≤ n) (l : List Int) (hl : l.length ≤ 10000000) (c : Nat) (b : List YtfichikabolknaaGreatE.D) (P : Int → Prop) [DecidablePred P] (L : Nat) (hL : L + 2 ≤ n)
    (hF : ∀ m, L ≤ m → ∀ i < l.length, evalCall Tryz.prog An m c (.d (.int .i64 (rn l i)) :: b.map ofD) [] = some ⟨.d (.bool (decide (P (rn l i)))), [], []⟩) (hc : c ∉ An.lend) :
    evalCall Tryz.prog An n 277 [.d (ints l), .d (.clo c [] b)] [] = some ⟨.d (.bool (bl (∃ i < l.length, P (rn l i)))), [], []⟩ := by
  obtain ⟨m, rfl⟩ : ∃ m, n = m + 1 := ⟨n - 1, by omega⟩
  have hB := B_eq
  simp only [evalCall_at, fb277, bnd_some, bodyOf, Tryz.f277, Option.getD_some]
  rcases ct_IndexFunc m (by omega) l hl c b P L (by omega) hF hc with ⟨h1, h2⟩ | ⟨i, hi, h1, _, h2⟩
  · simp -implicitDefEqProofs (maxSteps := 3000000) [h2, bl_false (show ¬ ∃ i < l.length, P (rn l i) from fun ⟨i, hi, z⟩ => h1 i hi z)]
  · have e := bl_true (show ∃ i < l.length, P (rn l i) from ⟨i, hi, h1⟩)
    simp -implicitDefEqProofs (maxSteps := 3000000) [h2, e]
/-! ## what DeleteFunc leaves -/
def keepL (P : Int → Prop) [DecidablePred P] (l : List Int) : List Int := l.filter (fun x => decide (¬ P x))
theorem keepL_none {P : Int → Prop} [DecidablePred P] {l : List Int} (h : ∀ i < l.length, ¬ P (rn l i)) : keepL P l = l := by
  unfold keepL
  rw [List.filter_eq_self]
  intro x hx
  obtain ⟨i, hi, rfl⟩ := List.mem_iff_getElem.1 hx
  have := h i hi
  rw [rn_get hi] at this
  simpa using this
theorem keepL_le (P : Int → Prop) [DecidablePred P] (l : List Int) : (keepL P l).length ≤ l.length := List.length_filter_le _ _
theorem keepL_take (P : Int → Prop) [DecidablePred P] {l : List Int} {i : Nat} (h : i < l.length) : keepL P (l.take (i + 1)) = keepL P (l.take i) ++ (if P (rn l i) then [] else [rn l i]) := by
  unfold keepL
  rw [List.take_succ_eq_append_getElem h, List.filter_append, rn_get h]
  congr 1
  by_cases p : P l[i]
  · simp -implicitDefEqProofs (maxSteps := 3000000) [p]
  · simp -implicitDefEqProofs (maxSteps := 3000000) [p]
theorem keepL_prefix (P : Int → Prop) [DecidablePred P] {l : List Int} {i : Nat} (hi : i ≤ l.length) (h : ∀ j < i, ¬ P (rn l j)) : keepL P (l.take i) = l.take i := by
  apply keepL_none
  intro j hj
  have : j < i := by simp -implicitDefEqProofs (maxSteps := 3000000) at hj; omega
  rw [rn_take this]; exact h j this
/-- The row in the middle of the work: what is kept of the first j, then the rest as it was. -/
def midR (P : Int → Prop) [DecidablePred P] (l : List Int) (j : Nat) : List Int := keepL P (l.take j) ++ l.drop (keepL P (l.take j)).length
theorem keepL_take_le (P : Int → Prop) [DecidablePred P] (l : List Int) (j : Nat) : (keepL P (l.take j)).length ≤ j := by
  have := keepL_le P (l.take j)
  simp -implicitDefEqProofs (maxSteps := 3000000) at this; omega
theorem midR_len (P : Int → Prop) [DecidablePred P] (l : List Int) (j : Nat) : (midR P l j).length = l.length := by
  have := keepL_le P (l.take j)
  simp -implicitDefEqProofs (maxSteps := 3000000) [midR] at this ⊢; omega
theorem midR_get (P : Int → Prop) [DecidablePred P] {l : List Int} {j : Nat} (h : j < l.length) : rn (midR P l j) j = rn l j := by
  have h1 := keepL_take_le P l j
  simp only [midR, rn, List.getD, List.getElem?_append]
  rw [if_neg (by omega), List.getElem?_drop, show (keepL P (l.take j)).length + (j - (keepL P (l.take j)).length) = j by omega]
theorem midR_del (P : Int → Prop) [DecidablePred P] {l : List Int} {j : Nat} (h : j < l.length) (p : P (rn l j)) : midR P l (j + 1) = midR P l j := by
  simp -implicitDefEqProofs (maxSteps := 3000000) [midR, keepL_take P h, p]
theorem midR_keep (P : Int → Prop) [DecidablePred P] {l : List Int} {j : Nat} (h : j < l.length) (p : ¬ P (rn l j)) : (midR P l j).set (keepL P (l.take j)).length (rn l j) = midR P l (j + 1) := by
  have h1 := keepL_take_le P l j
  simp only [midR, keepL_take P h, if_neg p]
  rw [List.set_append_right _ _ (Nat.le_refl _), Nat.sub_self, List.drop_eq_getElem_cons (show (keepL P (l.take j)).length < l.length by omega), List.set_cons_zero, List.length_append, List.append_assoc]
  rfl
theorem clr (X : List Int) : ∀ (k n : Nat), k + n = X.length → setFrom X k (List.replicate n 0) = X.take k ++ List.replicate n 0
  | k, 0, h => by simp -implicitDefEqProofs (maxSteps := 3000000) [setFrom]; exact (List.take_of_length_le (by omega)).symm
  | k, n + 1, h => by
    rw [List.replicate_succ, setFrom, clr (X.set k 0) (k + 1) n (by simp; omega), List.take_set, List.take_succ_eq_append_getElem (show k < X.length by omega), List.set_append_right _ _ (by simp; omega), List.append_assoc]
    congr 1
    simp -implicitDefEqProofs (maxSteps := 3000000) [show min k X.length = k by omega]
theorem midR_end (P : Int → Prop) [DecidablePred P] (l : List Int) : (midR P l l.length).take (keepL P l).length = keepL P l := by
  simp -implicitDefEqProofs (maxSteps := 3000000) [midR]
theorem ct_DeleteFunc (n : Nat) (hn : B + 3 ≤ n) (l : List Int) (hl : l.length ≤ 10000000) (c : Nat) (b : List YtfichikabolknaaGreatE.D) (P : Int → Prop) [DecidablePred P] (L : Nat) (hL : L + 2 ≤ n)
    (hF : ∀ m, L ≤ m → ∀ i < l.length, evalCall Tryz.prog An m c (.d (.int .i64 (rn l i)) :: b.map ofD) [] = some ⟨.d (.bool (decide (P (rn l i)))), [], []⟩) (hc : c ∉ An.lend) :
    ((∀ i < l.length, ¬ P (rn l i)) ∧ evalCall Tryz.prog An n 331 [.own 100000 0, .d (.clo c [] b)] [.row (icells l)] = some ⟨.own 100000 0, [], [some (.row (icells l))]⟩) ∨
    ∃ Y : List Int, Y.take (keepL P l).length = keepL P l ∧ evalCall Tryz.prog An n 331 [.own 100000 0, .d (.clo c [] b)] [.row (icells l)] = some ⟨.sub 100000 0 0 (keepL P l).length, [], [some (.row (icells Y))]⟩ := by
  obtain ⟨m, rfl⟩ : ∃ m, n = m + 1 := ⟨n - 1, by omega⟩
  have hB := B_eq
  simp only [evalCall_at, fb331, bnd_some, bodyOf, Tryz.f331, Option.getD_some]
  generalize hb0 : Code.loop _ = cc0
  obtain rfl : cc0 = .loop (lp Tryz.f331 0) := by rw [← hb0]; rfl
  clear hb0
  simp -implicitDefEqProofs (maxSteps := 3000000) at hc
  rcases ct_IndexFunc m (by omega) l hl c b P L (by omega) hF (by simpa using hc) with ⟨h1, h2⟩ | ⟨i0, hi0, h1, h3, h2⟩
  · left
    simp -implicitDefEqProofs (maxSteps := 3000000) [h2]
    exact h1
  · right
    have k0 : (keepL P (l.take i0)).length = i0 := by rw [keepL_prefix P (by omega) h3]; simp; omega
    have k1 : keepL P (l.take (i0 + 1)) = l.take i0 := by rw [keepL_take P hi0, if_pos h1, List.append_nil, keepL_prefix P (by omega) h3]
    have m0 : midR P l (i0 + 1) = l := by simp -implicitDefEqProofs (maxSteps := 3000000) [midR, k1, show min i0 l.length = i0 by omega]
    have k2 : (keepL P (l.take (i0 + 1))).length = i0 := by rw [k1]; simp; omega
    have w0 := wrap_id (n := (i0 : Int) + 1) (by omega)
    have e1 : ((i0 : Int) == -1) = false := beq_f (by omega)
    simp -implicitDefEqProofs (maxSteps := 3000000) [h2, e1, w0]
    generalize hx : loopC _ _ _ = x
    generalize hl : lp Tryz.f331 0 = L at hx
    simp only [lp, bodyOf, Tryz.f331, Option.getD_some, loopsIn, List.append_nil, List.nil_append, List.cons_append, List.getD, List.getElem?_cons_zero, List.getElem?_cons_succ] at hl
    subst hl
    obtain ⟨q, rfl, hq⟩ := loop_end hx (l.length - (i0 + 1)) (fun j s => ∃ g, s = ⟨[(0, .own 100000 0), (1, .d (.clo c [] b)), (5, .d (.int .i64 (keepL P (l.take (i0 + 1 + j))).length)), (6, .d (.int .i64 ((i0 + 1 + j : Nat) : Int)))], [(100000, some (0, .row (icells (midR P l (i0 + 1 + j)))))], g⟩)
      (fun q => ∃ s, q = (.exit 0, s) ∧ lookL s.env 0 = some (.own 100000 0) ∧ lookL s.env 5 = some (.d (.int .i64 (keepL P l).length)) ∧ obsL s.obs 100000 = some (0, .row (icells (midR P l l.length))))
      (by show l.length - (i0 + 1) < m; omega) (by simp -implicitDefEqProofs (maxSteps := 3000000) [k2, m0])
      (by
        rintro j s hj ⟨g, rfl⟩
        have hj2 : i0 + 1 + j < l.length := by omega
        have c2 := hF m (by omega) (i0 + 1 + j) hj2
        have ml := midR_len P l (i0 + 1 + j)
        have mg := midR_get P hj2
        have kt := keepL_take P hj2
        have kl := keepL_take_le P l (i0 + 1 + j)
        have md := midR_del P hj2
        have mk := midR_keep P hj2
        rw [show i0 + 1 + (j + 1) = i0 + 1 + j + 1 by omega]
        generalize i0 + 1 + j = J at *
        have w2 := wrap_id (n := (J : Int) + 1) (by omega)
        have w3 := wrap_id (n := ((keepL P (l.take J)).length : Int) + 1) (by omega)
        by_cases p : P (rn l J)
        · rw [decide_eq_true p] at c2
          rw [if_pos p, List.append_nil] at kt
          have md := md p
          rw [kt, md]
          generalize midR P l J = X at *
          simp -implicitDefEqProofs (maxSteps := 3000000) [hj2, ml, mg, c2, w2, hc]
        · rw [decide_eq_false p] at c2
          rw [if_neg p] at kt
          have mk := mk p
          rw [kt]
          have hlt : (keepL P (l.take J)).length < l.length := by omega
          generalize midR P l J = X at *
          generalize midR P l (J + 1) = Y at *
          generalize keepL P (l.take J) = Z at *
          simp -implicitDefEqProofs (maxSteps := 3000000) [hj2, ml, mg, c2, w2, w3, hc, hlt, mk])
      (by
        rintro s ⟨g, rfl⟩
        have e : i0 + 1 + (l.length - (i0 + 1)) = l.length := by omega
        rw [e]
        have ml := midR_len P l l.length
        have e2 : keepL P (l.take l.length) = keepL P l := by rw [List.take_length]
        rw [e2]
        generalize midR P l l.length = X at *
        simp -implicitDefEqProofs (maxSteps := 3000000) [ml])
    obtain ⟨s, rfl, f1, f2, f3⟩ := hq
    have ml := midR_len P l l.length
    have me := midR_end P l
    have kl := keepL_le P l
    generalize midR P l l.length = X at *
    generalize hK : (keepL P l).length = K at *
    have hK2 : (K : Int) ≤ l.length := by omega
    have hc1 := clr X K (l.length - K) (by omega)
    have e5 : K + (l.length - K) ≤ l.length := by omega
    refine ⟨X.take K ++ List.replicate (l.length - K) 0, ?_, ?_⟩
    · rw [List.take_append_of_le_length (by simp; omega), List.take_take, Nat.min_self]
      exact me
    · have e6 : setFrom (icells X) K (icells (List.replicate (l.length - K) 0)) = icells (X.take K ++ List.replicate (l.length - K) 0) := by rw [setFrom_icells, hc1]
      simp -implicitDefEqProofs (maxSteps := 3000000) [f1, f2, f3, ml, hK2, kl, e5, hc1]
end Go.Proofs.YtfichikabolknaaGreatE
