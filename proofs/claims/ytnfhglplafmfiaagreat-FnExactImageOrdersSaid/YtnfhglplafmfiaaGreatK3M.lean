/- Contracts of functions of the program and of the reference: what the evaluator gives for a call of each. -/
import Derived.Test.YtnfhglplafmfiaaGreatAEf
import Derived.Test.YtnfhglplafmfiaaGreatK1M
import Derived.Test.YtnfhglplafmfiaaGreatK2
namespace Go.Proofs.YtnfhglplafmfiaaGreatE
open Go Go.Proofs
set_option linter.unusedSimpArgs false
set_option linter.unusedVariables false
theorem szs_le {k : Int} {t : List (List Int)} : ∀ i, szs k t i ≤ k - t.length
  | 0 => by simp -implicitDefEqProofs (maxSteps := 3000000) [szs]
  | i + 1 => by have := szs_le (k := k) (t := t) i; simp only [szs]; omega
theorem szr_le {k : Int} {t : List (List Int)} (hk : 0 ≤ k) : szr k t ≤ k := by
  unfold szr
  split
  · have := szs_le (k := k) (t := t) t.length; omega
  · omega
theorem szr_nn {k : Int} {t : List (List Int)} (h : ¬ szr k t < 0) (hk : 0 ≤ k) : (t.length : Int) ≤ k ∧ ∀ i, ((rown t i).length : Int) ≤ k := by
  have hp : ∀ i ≤ t.length, 0 ≤ szs k t i := by
    by_cases hp : ∀ i ≤ t.length, 0 ≤ szs k t i
    · exact hp
    · rw [szr, if_neg hp] at h; omega
  have h0 := hp 0 (by omega)
  simp only [szs] at h0
  refine ⟨by omega, fun i => ?_⟩
  by_cases hi : i < t.length
  · have h1 := hp (i + 1) (by omega)
    have h2 := szs_le (k := k) (t := t) i
    simp only [szs] at h1
    omega
  · have : rown t i = [] := by simp -implicitDefEqProofs (maxSteps := 3000000) [rown, List.getD, List.getElem?_eq_none (show t.length ≤ i by omega)]
    rw [this]
    simp -implicitDefEqProofs (maxSteps := 3000000)
    exact hk
theorem mkv_szs (k K : Int) (t : List (List Int)) : ∀ i, mkv k t i + szs K t i = k + K - t.length
  | 0 => by simp only [mkv, szs]; omega
  | i + 1 => by have := mkv_szs k K t i; simp only [mkv, szs]; omega
theorem szs_nn {k : Int} {t : List (List Int)} (h : ¬ szr k t < 0) : 0 ≤ szs k t t.length := by
  by_cases hp : ∀ i ≤ t.length, 0 ≤ szs k t i
  · exact hp _ (Nat.le_refl _)
  · rw [szr, if_neg hp] at h; omega
theorem szr_last {k : Int} {t : List (List Int)} (h : ¬ szr k t < 0) : szr k t = szs k t t.length := by
  by_cases hp : ∀ i ≤ t.length, 0 ≤ szs k t i
  · exact if_pos hp
  · rw [szr, if_neg hp] at h; omega
end Go.Proofs.YtnfhglplafmfiaaGreatE

namespace Go.Proofs.YtnfhglplafmfiaaGreatE
open Go Go.Proofs
set_option maxHeartbeats 2000000
set_option linter.unusedSimpArgs false
set_option linter.unusedVariables false
set_option pp.deepTerms false
set_option pp.deepTerms.threshold 10
/-! ## groups -/
theorem ct_l01N (n : Nat) (hn : B + 1 ≤ n) (T : List (List Int)) :
    evalCall Tryz.prog An n 133 [.agg [.d (intss T)]] [] = some ⟨.d (.int .i64 T.length), [], []⟩ := by
  obtain ⟨m, rfl⟩ : ∃ m, n = m + 1 := ⟨n - 1, by omega⟩
  have hB := B_eq
  simp only [evalCall_at, fb133, bnd_some, bodyOf, Tryz.f133, Option.getD_some]
  simp -implicitDefEqProofs (maxSteps := 3000000)
theorem ct_l01In (n : Nat) (hn : B + 1 ≤ n) (a b c : Int) :
    evalCall Tryz.prog An n 63 [.d (.int .i64 a), .d (.int .i64 b), .d (.int .i64 c)] [] = some ⟨.d (.bool (decide (b ≤ a ∧ a ≤ c))), [], []⟩ := by
  obtain ⟨m, rfl⟩ : ∃ m, n = m + 1 := ⟨n - 1, by omega⟩
  have hB := B_eq
  simp only [evalCall_at, fb63, bnd_some, bodyOf, Tryz.f63, Option.getD_some]
  by_cases h1 : b ≤ a
  · simp -implicitDefEqProofs (maxSteps := 3000000) [h1]
  · simp -implicitDefEqProofs (maxSteps := 3000000) [h1]
theorem ct_l01In_t (n : Nat) (hn : B + 1 ≤ n) (a b c : Int) (h : b ≤ a ∧ a ≤ c) :
    evalCall Tryz.prog An n 63 [.d (.int .i64 a), .d (.int .i64 b), .d (.int .i64 c)] [] = some ⟨.d (.bool true), [], []⟩ := by
  rw [ct_l01In n hn, decide_eq_true h]
theorem ct_l01In_f (n : Nat) (hn : B + 1 ≤ n) (a b c : Int) (h : ¬ (b ≤ a ∧ a ≤ c)) :
    evalCall Tryz.prog An n 63 [.d (.int .i64 a), .d (.int .i64 b), .d (.int .i64 c)] [] = some ⟨.d (.bool false), [], []⟩ := by
  rw [ct_l01In n hn, decide_eq_false h]
abbrev cl (T : List (List Int)) (a b : Nat) : Int := rn (rown T a) b
def RowsOk (T : List (List Int)) : Prop := (1 ≤ T.length ∧ T.length ≤ 8) ∧ ∀ a < T.length, (rown T a).length = T.length ∧ ∀ b < T.length, 0 ≤ cl T a b ∧ cl T a b < T.length
def Asc (T : List (List Int)) (a b : Nat) : Prop := ∀ d < T.length, cl T (cl T a b).toNat d = cl T a (cl T b d).toNat
def SLine (T : List (List Int)) (a : Nat) : Prop := (cl T 0 a = a ∧ cl T a 0 = a) ∧ (∀ b < T.length, Asc T a b) ∧ ∃ b < T.length, cl T a b = 0 ∧ cl T b a = 0
def IsGr (T : List (List Int)) : Prop := RowsOk T ∧ ∀ a < T.length, SLine T a
def fnd (T : List (List Int)) (a : Nat) : Nat → Bool
  | 0 => false
  | i + 1 => fnd T a i || (cl T a i == 0 && cl T i a == 0)
theorem fnd_true {T : List (List Int)} {a : Nat} : ∀ {n : Nat}, fnd T a n = true ↔ ∃ b < n, cl T a b = 0 ∧ cl T b a = 0
  | 0 => by simp -implicitDefEqProofs (maxSteps := 3000000) [fnd]
  | n + 1 => by
    simp only [fnd, Bool.or_eq_true, Bool.and_eq_true, beq_iff_eq, fnd_true (n := n)]
    constructor
    · rintro (⟨b, h1, h2⟩ | h2)
      · exact ⟨b, by omega, h2⟩
      · exact ⟨n, by omega, h2⟩
    · rintro ⟨b, h1, h2⟩
      by_cases e : b = n
      · subst e; exact .inr h2
      · exact .inl ⟨b, by omega, h2⟩
@[simp] def gfacts (T : List (List Int)) (s : St) : Prop := obsL s.obs 16 = some (1, .box [.d (intss T)]) ∧ lookL s.env 1 = some (.ptr 16 1 0) ∧ lookL s.env 3 = some (.d (.int .i64 T.length))
theorem lp_l01Is_1 (m : Nat) (hm : B + 1 ≤ m) (T : List (List Int)) (h : 1 ≤ T.length ∧ T.length ≤ 8) (i : Nat) (hi : i < T.length) (e : (rown T i).length = T.length)
    {st : St} {x : Option (Ex × St)} (hx : loopC (cxAt 143 m) (lp Tryz.f143 1) st = x) (f : gfacts T st) (f4 : lookL st.env 4 = some (.d (.int .i64 i))) (f5 : lookL st.env 5 = some (.d (.int .i64 0))) :
    ((∀ b < T.length, 0 ≤ cl T i b ∧ cl T i b < T.length) ∧ ∃ s, x = some (.exit 2, s) ∧ gfacts T s ∧ lookL s.env 4 = some (.d (.int .i64 i))) ∨
    ((∃ b < T.length, ¬ (0 ≤ cl T i b ∧ cl T i b < T.length)) ∧ ∃ s, x = some (.ret, s) ∧ lookL s.env 2 = some (.d (.bool false))) := by
  have hB := B_eq
  obtain ⟨f1, f2, f3⟩ := f
  have w := wrap_id (n := (T.length : Int) - 1) (by omega)
  generalize hl : lp Tryz.f143 1 = L at hx
  simp only [lp, bodyOf, Tryz.f143, Option.getD_some, loopsIn, List.append_nil, List.nil_append, List.cons_append, List.getD, List.getElem?_cons_zero, List.getElem?_cons_succ] at hl
  subst hl
  refine loop_chk hx T.length 2 (fun b => 0 ≤ cl T i b ∧ cl T i b < T.length)
    (fun b g => ⟨[(1, .ptr 16 1 0), (3, .d (.int .i64 T.length)), (4, .d (.int .i64 i)), (5, .d (.int .i64 b))], [(16, some (1, .box [.d (intss T)]))], g⟩) _ _
    (by show T.length < m; omega) (by simp -implicitDefEqProofs (maxSteps := 3000000) [f1, f2, f3, f4, f5])
    (by
      rintro b g hb hp
      have w2 := wrap_id (n := (b : Int) + 1) (by omega)
      by_cases p : 0 ≤ cl T i b ∧ cl T i b < T.length
      · have c2 := ct_l01In_t m (by omega) (cl T i b) 0 (T.length - 1) (by omega)
        simp -implicitDefEqProofs (maxSteps := 3000000) [hi, hb, e, w, w2, c2, p]
      · have c2 := ct_l01In_f m (by omega) (cl T i b) 0 (T.length - 1) (by omega)
        simp -implicitDefEqProofs (maxSteps := 3000000) [hi, hb, e, w, w2, c2]
        omega)
    (by
      rintro g
      simp -implicitDefEqProofs (maxSteps := 3000000))
theorem lp_l01Is_0 (m : Nat) (hm : B + 1 ≤ m) (T : List (List Int)) (h : 1 ≤ T.length ∧ T.length ≤ 8)
    {st : St} {x : Option (Ex × St)} (hx : loopC (cxAt 143 m) (lp Tryz.f143 0) st = x) (f : gfacts T st) (f4 : lookL st.env 4 = some (.d (.int .i64 0))) :
    (RowsOk T ∧ ∃ s, x = some (.exit 0, s) ∧ gfacts T s) ∨ (¬ RowsOk T ∧ ∃ s, x = some (.ret, s) ∧ lookL s.env 2 = some (.d (.bool false))) := by
  have hB := B_eq
  obtain ⟨f1, f2, f3⟩ := f
  generalize hl : lp Tryz.f143 0 = L at hx
  simp only [lp, bodyOf, Tryz.f143, Option.getD_some, loopsIn, List.append_nil, List.nil_append, List.cons_append, List.getD, List.getElem?_cons_zero, List.getElem?_cons_succ] at hl
  subst hl
  generalize hb1 : Code.loop _ = cc1 at hx
  obtain rfl : cc1 = .loop (lp Tryz.f143 1) := by rw [← hb1]; rfl
  clear hb1
  rcases loop_chk hx T.length 0 (fun a => (rown T a).length = T.length ∧ ∀ b < T.length, 0 ≤ cl T a b ∧ cl T a b < T.length)
    (fun i g => ⟨[(1, .ptr 16 1 0), (3, .d (.int .i64 T.length)), (4, .d (.int .i64 i))], [(16, some (1, .box [.d (intss T)]))], g⟩) (gfacts T) (fun s => lookL s.env 2 = some (.d (.bool false)))
    (by show T.length < m; omega) (by simp -implicitDefEqProofs (maxSteps := 3000000) [f1, f2, f3, f4])
    (by
      rintro i g hi hp
      by_cases e : (rown T i).length = T.length
      · simp -implicitDefEqProofs (maxSteps := 3000000) [hi, e]
        generalize hy : loopC _ _ _ = y
        rcases lp_l01Is_1 m hm T h i hi e hy (by simp -implicitDefEqProofs (maxSteps := 3000000)) (by simp -implicitDefEqProofs (maxSteps := 3000000)) (by simp -implicitDefEqProofs (maxSteps := 3000000)) with ⟨h1, s, rfl, ⟨h2, h3, h4⟩, h5⟩ | ⟨h1, s, rfl, h2⟩
        · have w2 := wrap_id (n := (i : Int) + 1) (by omega)
          simp -implicitDefEqProofs (maxSteps := 3000000) [h2, h3, h4, h5, w2]
          exact h1
        · simp -implicitDefEqProofs (maxSteps := 3000000) [h2]
          obtain ⟨b, hb, h1⟩ := h1
          exact ⟨b, hb, fun z => by omega⟩
      · have e2 : (((rown T i).length : Int) != T.length) = true := bne_t (by omega)
        simp -implicitDefEqProofs (maxSteps := 3000000) [hi, e, e2])
    (by
      rintro g
      simp -implicitDefEqProofs (maxSteps := 3000000)) with ⟨h1, h2⟩ | ⟨⟨i, hi, h1⟩, h2⟩
  · exact .inl ⟨⟨h, h1⟩, h2⟩
  · exact .inr ⟨fun z => h1 (z.2 i hi), h2⟩
theorem lp_l01Is_4 (m : Nat) (hm : B + 1 ≤ m) (T : List (List Int)) (R : RowsOk T) (i b : Nat) (hi : i < T.length) (hb : b < T.length) (v : Bool)
    {st : St} {x : Option (Ex × St)} (hx : loopC (cxAt 143 m) (lp Tryz.f143 4) st = x) (f : gfacts T st) (f6 : lookL st.env 6 = some (.d (.int .i64 i))) (f7 : lookL st.env 7 = some (.d (.bool v))) (f8 : lookL st.env 8 = some (.d (.int .i64 b)))
    (f9 : lookL st.env 9 = some (.d (.int .i64 0))) :
    (Asc T i b ∧ ∃ s, x = some (.exit 8, s) ∧ gfacts T s ∧ lookL s.env 6 = some (.d (.int .i64 i)) ∧ lookL s.env 7 = some (.d (.bool v)) ∧ lookL s.env 8 = some (.d (.int .i64 b))) ∨
    (¬ Asc T i b ∧ ∃ s, x = some (.ret, s) ∧ lookL s.env 2 = some (.d (.bool false))) := by
  have hB := B_eq
  obtain ⟨f1, f2, f3⟩ := f
  obtain ⟨h, h1⟩ := R
  have gab := (h1 i hi).2 b hb
  have ri := (h1 i hi).1
  have rb := (h1 b hb).1
  have gab' : (cl T i b).toNat < T.length := by omega
  have rab := (h1 _ gab').1
  generalize hl : lp Tryz.f143 4 = L at hx
  simp only [lp, bodyOf, Tryz.f143, Option.getD_some, loopsIn, List.append_nil, List.nil_append, List.cons_append, List.getD, List.getElem?_cons_zero, List.getElem?_cons_succ] at hl
  subst hl
  rcases loop_chk hx T.length 8 (fun d => cl T (cl T i b).toNat d = cl T i (cl T b d).toNat)
    (fun d g => ⟨[(1, .ptr 16 1 0), (3, .d (.int .i64 T.length)), (6, .d (.int .i64 i)), (7, .d (.bool v)), (8, .d (.int .i64 b)), (9, .d (.int .i64 d))], [(16, some (1, .box [.d (intss T)]))], g⟩)
    (fun s => gfacts T s ∧ lookL s.env 6 = some (.d (.int .i64 i)) ∧ lookL s.env 7 = some (.d (.bool v)) ∧ lookL s.env 8 = some (.d (.int .i64 b))) (fun s => lookL s.env 2 = some (.d (.bool false)))
    (by show T.length < m; omega) (by simp -implicitDefEqProofs (maxSteps := 3000000) [f1, f2, f3, f6, f7, f8, f9])
    (by
      rintro d g hd hp
      have gbd := (h1 b hb).2 d hd
      have gbd' : (cl T b d).toNat < T.length := by omega
      have w3 := wrap_id (n := (d : Int) + 1) (by omega)
      by_cases p : cl T (cl T i b).toNat d = cl T i (cl T b d).toNat
      · simp -implicitDefEqProofs (maxSteps := 3000000) [hi, hb, hd, gab.1, gbd.1, gab', gbd', ri, rb, rab, w3, p]
      · have p2 := bne_t p
        simp -implicitDefEqProofs (maxSteps := 3000000) [hi, hb, hd, gab.1, gbd.1, gab', gbd', ri, rb, rab, w3, p, p2])
    (by
      rintro g
      simp -implicitDefEqProofs (maxSteps := 3000000)) with ⟨h1, h2⟩ | ⟨⟨d, hd, h1⟩, h2⟩
  · exact .inl ⟨h1, h2⟩
  · exact .inr ⟨fun z => h1 (z d hd), h2⟩
theorem lp_l01Is_3 (m : Nat) (hm : B + 1 ≤ m) (T : List (List Int)) (R : RowsOk T) (i : Nat) (hi : i < T.length)
    {st : St} {x : Option (Ex × St)} (hx : loopC (cxAt 143 m) (lp Tryz.f143 3) st = x) (f : gfacts T st) (f6 : lookL st.env 6 = some (.d (.int .i64 i))) (f7 : lookL st.env 7 = some (.d (.bool false))) (f8 : lookL st.env 8 = some (.d (.int .i64 0))) :
    ((∀ b < T.length, Asc T i b) ∧ ∃ s, x = some (.exit 6, s) ∧ gfacts T s ∧ lookL s.env 6 = some (.d (.int .i64 i)) ∧ lookL s.env 7 = some (.d (.bool (fnd T i T.length)))) ∨
    ((∃ b < T.length, ¬ Asc T i b) ∧ ∃ s, x = some (.ret, s) ∧ lookL s.env 2 = some (.d (.bool false))) := by
  have hB := B_eq
  obtain ⟨f1, f2, f3⟩ := f
  have h := R.1
  have h1 := R.2
  have ri := (h1 i hi).1
  generalize hl : lp Tryz.f143 3 = L at hx
  simp only [lp, bodyOf, Tryz.f143, Option.getD_some, loopsIn, List.append_nil, List.nil_append, List.cons_append, List.getD, List.getElem?_cons_zero, List.getElem?_cons_succ] at hl
  subst hl
  generalize hb4 : Code.loop _ = cc4 at hx
  obtain rfl : cc4 = .loop (lp Tryz.f143 4) := by rw [← hb4]; rfl
  clear hb4
  refine loop_chk hx T.length 6 (Asc T i)
    (fun b g => ⟨[(1, .ptr 16 1 0), (3, .d (.int .i64 T.length)), (6, .d (.int .i64 i)), (7, .d (.bool (fnd T i b))), (8, .d (.int .i64 b))], [(16, some (1, .box [.d (intss T)]))], g⟩) _ _
    (by show T.length < m; omega) (by simp -implicitDefEqProofs (maxSteps := 3000000) [f1, f2, f3, f6, f7, f8, fnd])
    (by
      rintro b g hb hp
      have rb := (h1 b hb).1
      have w2 := wrap_id (n := (b : Int) + 1) (by omega)
      have cs : fnd T i b = true ∨ (fnd T i b = false ∧ cl T i b = 0 ∧ cl T b i = 0) ∨ (fnd T i b = false ∧ cl T i b = 0 ∧ cl T b i ≠ 0) ∨ (fnd T i b = false ∧ cl T i b ≠ 0) := by
        cases fnd T i b <;> by_cases z1 : cl T i b = 0 <;> by_cases z2 : cl T b i = 0 <;> simp -implicitDefEqProofs (maxSteps := 3000000) [z1, z2]
      rcases cs with fb | ⟨fb, z1, z2⟩ | ⟨fb, z1, z2⟩ | ⟨fb, z1⟩
      all_goals
        simp -implicitDefEqProofs (maxSteps := 3000000) [hi, hb, ri, rb, fb, *]
        generalize hy : loopC _ _ _ = y
        rcases lp_l01Is_4 m hm T R i b hi hb (fnd T i (b + 1)) hy (by simp -implicitDefEqProofs (maxSteps := 3000000)) (by simp -implicitDefEqProofs (maxSteps := 3000000)) (by simp -implicitDefEqProofs (maxSteps := 3000000) [fnd, *]) (by simp -implicitDefEqProofs (maxSteps := 3000000)) (by simp -implicitDefEqProofs (maxSteps := 3000000)) with ⟨h2, s, rfl, ⟨h3, h4, h5⟩, h6, h7, h8⟩ | ⟨h2, s, rfl, h3⟩
        · simp -implicitDefEqProofs (maxSteps := 3000000) [h3, h4, h5, h6, h7, h8, w2]
          exact h2
        · simp -implicitDefEqProofs (maxSteps := 3000000) [h3]
          exact h2)
    (by
      rintro g
      simp -implicitDefEqProofs (maxSteps := 3000000))
theorem lp_l01Is_2 (m : Nat) (hm : B + 1 ≤ m) (T : List (List Int)) (R : RowsOk T)
    {st : St} {x : Option (Ex × St)} (hx : loopC (cxAt 143 m) (lp Tryz.f143 2) st = x) (f : gfacts T st) (f6 : lookL st.env 6 = some (.d (.int .i64 0))) :
    (IsGr T ∧ ∃ s, x = some (.exit 4, s) ∧ True) ∨ (¬ IsGr T ∧ ∃ s, x = some (.ret, s) ∧ lookL s.env 2 = some (.d (.bool false))) := by
  have hB := B_eq
  obtain ⟨f1, f2, f3⟩ := f
  have h := R.1
  have h1 := R.2
  have hz : 0 < T.length := by omega
  generalize hl : lp Tryz.f143 2 = L at hx
  simp only [lp, bodyOf, Tryz.f143, Option.getD_some, loopsIn, List.append_nil, List.nil_append, List.cons_append, List.getD, List.getElem?_cons_zero, List.getElem?_cons_succ] at hl
  subst hl
  generalize hb3 : Code.loop _ = cc3 at hx
  obtain rfl : cc3 = .loop (lp Tryz.f143 3) := by rw [← hb3]; rfl
  clear hb3
  rcases loop_chk hx T.length 4 (SLine T)
    (fun i g => ⟨[(1, .ptr 16 1 0), (3, .d (.int .i64 T.length)), (6, .d (.int .i64 i))], [(16, some (1, .box [.d (intss T)]))], g⟩)
    (fun s => True)
    (fun s => lookL s.env 2 = some (.d (.bool false)))
    (by show T.length < m; omega) (by simp -implicitDefEqProofs (maxSteps := 3000000) [f1, f2, f3, f6])
    (by
      rintro i g hi hp
      have r0 := (h1 0 (by omega)).1
      have ri := (h1 i hi).1
      by_cases e1 : cl T 0 i = i
      · by_cases e2 : cl T i 0 = i
        · simp -implicitDefEqProofs (maxSteps := 3000000) [hi, e1, e2, r0, ri, hz]
          generalize hy : loopC _ _ _ = y
          rcases lp_l01Is_3 m hm T R i hi hy (by simp -implicitDefEqProofs (maxSteps := 3000000)) (by simp -implicitDefEqProofs (maxSteps := 3000000)) (by simp -implicitDefEqProofs (maxSteps := 3000000)) (by simp -implicitDefEqProofs (maxSteps := 3000000)) with ⟨k1, s3, rfl, ⟨k2, k3, k4⟩, k5, k6⟩ | ⟨⟨b, hb, k1⟩, s3, rfl, k2⟩
          · have w2 := wrap_id (n := (i : Int) + 1) (by omega)
            by_cases f : fnd T i T.length = true
            · simp -implicitDefEqProofs (maxSteps := 3000000) [k2, k3, k4, k5, k6, f, w2]
              exact ⟨⟨e1, e2⟩, k1, fnd_true.1 f⟩
            · have f' : fnd T i T.length = false := by simpa using f
              simp -implicitDefEqProofs (maxSteps := 3000000) [k2, k3, k4, k5, k6, f']
              exact fun z => f (fnd_true.2 z.2.2)
          · simp -implicitDefEqProofs (maxSteps := 3000000) [k2]
            exact fun z => k1 (z.2.1 b hb)
        · have e3 : (cl T i 0 != (i : Int)) = true := bne_t e2
          simp -implicitDefEqProofs (maxSteps := 3000000) [hi, e1, e2, e3, r0, ri, hz, SLine]
      · have e3 : (cl T 0 i != (i : Int)) = true := bne_t e1
        simp -implicitDefEqProofs (maxSteps := 3000000) [hi, e1, e3, r0, ri, hz, SLine])
    (by
      rintro g
      simp -implicitDefEqProofs (maxSteps := 3000000)) with ⟨k1, k2⟩ | ⟨⟨i, hi, k1⟩, k2⟩
  · exact .inl ⟨⟨R, k1⟩, k2⟩
  · exact .inr ⟨fun z => k1 (z.2 i hi), k2⟩
theorem ct_l01Is (n : Nat) (hn : B + 2 ≤ n) (T : List (List Int)) (hT : (T.length : Int) < 1000000000000) :
    evalCall Tryz.prog An n 143 [.agg [.d (intss T)]] [] = some ⟨.d (.bool (bl (IsGr T))), [], []⟩ := by
  obtain ⟨m, rfl⟩ : ∃ m, n = m + 1 := ⟨n - 1, by omega⟩
  have hB := B_eq
  simp only [evalCall_at, fb143, bnd_some, bodyOf, Tryz.f143, Option.getD_some]
  generalize hb0 : Code.loop _ = cc0
  generalize hb2 : Code.loop _ = cc2
  obtain rfl : cc0 = .loop (lp Tryz.f143 0) := by rw [← hb0]; rfl
  clear hb0
  obtain rfl : cc2 = .loop (lp Tryz.f143 2) := by rw [← hb2]; rfl
  clear hb2
  by_cases h : 1 ≤ T.length ∧ T.length ≤ 8
  · have c1 := ct_l01In_t m (by omega) T.length 1 8 (by omega)
    simp -implicitDefEqProofs (maxSteps := 3000000) [c1]
    generalize hx : loopC _ _ _ = x
    rcases lp_l01Is_0 m (by omega) T h hx (by simp -implicitDefEqProofs (maxSteps := 3000000)) (by simp -implicitDefEqProofs (maxSteps := 3000000)) with ⟨R, s, rfl, h2, h3, h4⟩ | ⟨h1, s, rfl, h2⟩
    · simp -implicitDefEqProofs (maxSteps := 3000000) [h2, h3, h4]
      generalize hx2 : loopC _ _ _ = x2
      rcases lp_l01Is_2 m (by omega) T R hx2 (by simp -implicitDefEqProofs (maxSteps := 3000000) [h2, h3, h4]) (by simp -implicitDefEqProofs (maxSteps := 3000000)) with ⟨G, s2, rfl, _⟩ | ⟨G, s2, rfl, k3⟩
      · simp -implicitDefEqProofs (maxSteps := 3000000) [bl_true G]
      · simp -implicitDefEqProofs (maxSteps := 3000000) [k3, bl_false G]
    · simp -implicitDefEqProofs (maxSteps := 3000000) [h2, bl_false (show ¬ IsGr T from fun z => h1 z.1)]
  · have : ¬ IsGr T := fun z => h z.1.1
    have c1 := ct_l01In_f m (by omega) T.length 1 8 (by omega)
    simp -implicitDefEqProofs (maxSteps := 3000000) [c1, bl_false this]
end Go.Proofs.YtnfhglplafmfiaaGreatE
