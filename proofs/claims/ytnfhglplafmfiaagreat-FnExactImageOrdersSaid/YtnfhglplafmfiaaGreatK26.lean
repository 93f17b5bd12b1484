/- Contracts of functions of the program and of the reference: what the evaluator gives for a call of each. -/
import Derived.Test.YtnfhglplafmfiaaGreatAEf
import Derived.Test.YtnfhglplafmfiaaGreatK1M
import Derived.Test.YtnfhglplafmfiaaGreatK3M
import Derived.Test.YtnfhglplafmfiaaGreatK8M
import Derived.Test.YtnfhglplafmfiaaGreatK9
namespace Go.Proofs.YtnfhglplafmfiaaGreatE
open Go Go.Proofs
set_option maxHeartbeats 4000000
set_option maxRecDepth 2000
set_option linter.unusedSimpArgs false
set_option linter.unusedVariables false
set_option pp.deepTerms false
set_option pp.deepTerms.threshold 10
/-! ## sets of elements: ascending lists -/
def AscL (l : List Int) : Prop := ∀ i, i + 1 < l.length → rn l i < rn l (i + 1)
def SetOk (T : List (List Int)) (l : List Int) : Prop := AllIn T.length l ∧ AscL l
open Classical in
noncomputable def elcode (T : List (List Int)) (l : List Int) : Int := if IsGr T then if AllIn T.length l then 0 else 2 else 1
open Classical in
noncomputable def setcode (T : List (List Int)) (l : List Int) : Int := if IsGr T then if SetOk T l then 0 else 2 else 1
theorem ct_l01Elements (n : Nat) (hn : B + 3 ≤ n) (T : List (List Int)) (hT : (T.length : Int) < 1000000000000) (l : List Int) (hl : l.length ≤ 10000000) :
    evalCall Tryz.prog An n 128 [.agg [.d (intss T)], .d (ints l)] [] = some ⟨.d (.int .i64 (elcode T l)), [], []⟩ := by
  obtain ⟨m, rfl⟩ : ∃ m, n = m + 1 := ⟨n - 1, by omega⟩
  have hB := B_eq
  simp only [evalCall_at, fb128, bnd_some, bodyOf, Tryz.f128, Option.getD_some]
  generalize hb0 : Code.loop _ = cc0
  obtain rfl : cc0 = .loop (lp Tryz.f128 0) := by rw [← hb0]; rfl
  clear hb0
  have c1 := ct_l01Is m (by omega) T hT
  by_cases G : IsGr T
  · rw [bl_true G] at c1
    have hN := G.1.1
    have c0 := ct_l01N m (by omega) T
    have w0 := wrap_id (n := (T.length : Int) - 1) (by omega)
    simp -implicitDefEqProofs (maxSteps := 3000000) [c1]
    generalize hx : loopC _ _ _ = x
    generalize hl : lp Tryz.f128 0 = L at hx
    simp only [lp, bodyOf, Tryz.f128, Option.getD_some, loopsIn, List.append_nil, List.nil_append, List.cons_append, List.getD, List.getElem?_cons_zero, List.getElem?_cons_succ] at hl
    subst hl
    rcases loop_chk hx l.length 0 (fun i => 0 ≤ rn l i ∧ rn l i < T.length)
      (fun i g => ⟨[(1, .d (ints l)), (2, .ptr 32 1 0), (5, .d (.int .i64 i))], [(32, some (1, .box [.d (intss T)]))], g⟩)
      (fun s => s.obs = s.obs) (fun s => lookL s.env 4 = some (.d (.int .i64 2)))
      (by show l.length < m; omega) (by simp -implicitDefEqProofs (maxSteps := 3000000))
      (by
        rintro i g hi hp
        have w2 := wrap_id (n := (i : Int) + 1) (by omega)
        by_cases p : 0 ≤ rn l i ∧ rn l i < T.length
        · have c2 := ct_l01In_t m (by omega) (rn l i) 0 ((T.length : Int) - 1) (by omega)
          simp -implicitDefEqProofs (maxSteps := 3000000) [hi, c0, w0, c2, w2, p]
        · have c2 := ct_l01In_f m (by omega) (rn l i) 0 ((T.length : Int) - 1) (by omega)
          have p' : 0 ≤ rn l i → (T.length : Int) ≤ rn l i := fun z => by omega
          simp -implicitDefEqProofs (maxSteps := 3000000) [hi, c0, w0, c2, w2]
          exact p')
      (by
        rintro g
        simp -implicitDefEqProofs (maxSteps := 3000000)) with ⟨h1, s, rfl, _⟩ | ⟨⟨i, hi, h1⟩, s, rfl, h2⟩
    · have e : elcode T l = 0 := by simp only [elcode, if_pos G]; exact if_pos h1
      simp -implicitDefEqProofs (maxSteps := 3000000) [e]
    · have e : elcode T l = 2 := by simp only [elcode, if_pos G]; exact if_neg (fun z => h1 (z i hi))
      simp -implicitDefEqProofs (maxSteps := 3000000) [h2, e]
  · rw [bl_false G] at c1
    have e : elcode T l = 1 := by simp only [elcode, if_neg G]
    simp -implicitDefEqProofs (maxSteps := 3000000) [c1, e]
theorem ct_l01Set (n : Nat) (hn : B + 4 ≤ n) (T : List (List Int)) (hT : (T.length : Int) < 1000000000000) (l : List Int) (hl : l.length ≤ 10000000) :
    evalCall Tryz.prog An n 127 [.agg [.d (intss T)], .d (ints l)] [] = some ⟨.d (.int .i64 (setcode T l)), [], []⟩ := by
  obtain ⟨m, rfl⟩ : ∃ m, n = m + 1 := ⟨n - 1, by omega⟩
  have hB := B_eq
  simp only [evalCall_at, fb127, bnd_some, bodyOf, Tryz.f127, Option.getD_some]
  generalize hb0 : Code.loop _ = cc0
  obtain rfl : cc0 = .loop (lp Tryz.f127 0) := by rw [← hb0]; rfl
  clear hb0
  have c1 := ct_l01Elements m (by omega) T hT l hl
  by_cases G : IsGr T
  · by_cases A : AllIn T.length l
    · rw [show elcode T l = 0 by simp only [elcode, if_pos G, if_pos A]] at c1
      simp -implicitDefEqProofs (maxSteps := 3000000) [c1]
      generalize hx : loopC _ _ _ = x
      generalize hl : lp Tryz.f127 0 = L at hx
      simp only [lp, bodyOf, Tryz.f127, Option.getD_some, loopsIn, List.append_nil, List.nil_append, List.cons_append, List.getD, List.getElem?_cons_zero, List.getElem?_cons_succ] at hl
      subst hl
      rcases loop_chk hx (l.length - 1) 0 (fun i => rn l i < rn l (i + 1))
        (fun i g => ⟨[(1, .d (ints l)), (6, .d (.int .i64 ((i : Int) + 1)))], [], g⟩)
        (fun s => s.obs = s.obs) (fun s => lookL s.env 4 = some (.d (.int .i64 2)))
        (by show l.length - 1 < m; omega) (by simp -implicitDefEqProofs (maxSteps := 3000000))
        (by
          rintro i g hi hp
          have w1 := wrap_id (n := (i : Int) + 1 - 1) (by omega)
          have w2 := wrap_id (n := (i : Int) + 1 + 1) (by omega)
          have e1 : (i : Int) + 1 - 1 = i := by omega
          have e2 : ((i : Int) + 1).toNat = i + 1 := by omega
          have h1 : i + 1 < l.length := by omega
          have h2 : i < l.length := by omega
          have h3 : (i : Int) + 1 < l.length := by omega
          have h4 : (0 : Int) ≤ (i : Int) + 1 := by omega
          rw [e1] at w1
          by_cases p : rn l i < rn l (i + 1)
          · have p2 : ¬ rn l (i + 1) ≤ rn l i := by omega
            simp -implicitDefEqProofs (maxSteps := 3000000) [h1, h2, h3, h4, e1, e2, w1, w2, p, p2]
          · have p2 : rn l (i + 1) ≤ rn l i := by omega
            simp -implicitDefEqProofs (maxSteps := 3000000) [h1, h2, h3, h4, e1, e2, w1, w2, p, p2])
        (by
          rintro g
          have h3 : ¬ (((l.length - 1 : Nat) : Int) + 1 < l.length) := by omega
          simp -implicitDefEqProofs (maxSteps := 3000000) [h3]) with ⟨h1, s, rfl, _⟩ | ⟨⟨i, hi, h1⟩, s, rfl, h2⟩
      · have e : setcode T l = 0 := by simp only [setcode, if_pos G]; exact if_pos ⟨A, fun i hi => h1 i (by omega)⟩
        simp -implicitDefEqProofs (maxSteps := 3000000) [e]
      · have e : setcode T l = 2 := by simp only [setcode, if_pos G]; exact if_neg (fun z => h1 (z.2 i (by omega)))
        simp -implicitDefEqProofs (maxSteps := 3000000) [h2, e]
    · rw [show elcode T l = 2 by simp only [elcode, if_pos G, if_neg A]] at c1
      have e : setcode T l = 2 := by simp only [setcode, if_pos G]; exact if_neg (fun z => A z.1)
      simp -implicitDefEqProofs (maxSteps := 3000000) [c1, e]
  · rw [show elcode T l = 1 by simp only [elcode, if_neg G]] at c1
    have e : setcode T l = 1 := by simp only [setcode, if_neg G]
    simp -implicitDefEqProofs (maxSteps := 3000000) [c1, e]
theorem ct_isSet (n : Nat) (hn : B + 2 ≤ n) (T : List (List Int)) (l : List Int) (hl : l.length ≤ 10000000) :
    evalCall Tryz.prog An n 201 [.agg [.d (intss T)], .d (ints l)] [] = some ⟨.d (.bool (bl (SetOk T l))), [], []⟩ := by
  obtain ⟨m, rfl⟩ : ∃ m, n = m + 1 := ⟨n - 1, by omega⟩
  have hB := B_eq
  simp only [evalCall_at, fb201, bnd_some, bodyOf, Tryz.f201, Option.getD_some]
  generalize hb0 : Code.loop _ = cc0
  obtain rfl : cc0 = .loop (lp Tryz.f201 0) := by rw [← hb0]; rfl
  clear hb0
  have c1 := ct_order m (by omega) T
  have c2 := ct_areIn m (by omega) T.length l (by omega)
  simp -implicitDefEqProofs (maxSteps := 3000000)
  generalize hx : loopC _ _ _ = x
  generalize hl : lp Tryz.f201 0 = L at hx
  simp only [lp, bodyOf, Tryz.f201, Option.getD_some, loopsIn, List.append_nil, List.nil_append, List.cons_append, List.getD, List.getElem?_cons_zero, List.getElem?_cons_succ] at hl
  subst hl
  rcases loop_chk hx l.length 0 (fun i => i = 0 ∨ rn l (i - 1) < rn l i)
    (fun i g => ⟨[(1, .d (ints l)), (2, .ptr 32 1 0), (7, .d (ints l)), (8, .d (.int .i64 l.length)), (9, .d (.int .i64 i))], [(32, some (1, .box [.d (intss T)]))], g⟩)
    (fun s => lookL s.env 2 = some (.ptr 32 1 0) ∧ lookL s.env 1 = some (.d (ints l)) ∧ obsL s.obs 32 = some (1, .box [.d (intss T)])) (fun s => lookL s.env 4 = some (.d (.bool false)))
    (by show l.length < m; omega) (by simp -implicitDefEqProofs (maxSteps := 3000000))
    (by
      rintro i g hi hp
      have w2 := wrap_id (n := (i : Int) + 1) (by omega)
      rcases Nat.eq_zero_or_pos i with z | z
      · subst z
        simp -implicitDefEqProofs (maxSteps := 3000000) [hi, w2]
        exact wrap_id (n := 1) (by omega)
      · have w1 := wrap_id (n := (i : Int) - 1) (by omega)
        have e1 : ((i : Int) - 1).toNat = i - 1 := by omega
        have h1 : i - 1 < l.length := by omega
        have h2 : (0 : Int) ≤ (i : Int) - 1 := by omega
        have h3 : (0 : Int) < i := by omega
        have h4 : i ≠ 0 := by omega
        have h5 : (i : Int) - 1 < l.length := by omega
        have h6 : (1 : Int) ≤ i := by omega
        by_cases p : rn l (i - 1) < rn l i
        · have p2 : ¬ rn l i ≤ rn l (i - 1) := by omega
          simp -implicitDefEqProofs (maxSteps := 3000000) [hi, h1, h2, h3, h4, h5, h6, z, e1, w1, w2, p, p2]
        · have p2 : rn l i ≤ rn l (i - 1) := by omega
          simp -implicitDefEqProofs (maxSteps := 3000000) [hi, h1, h2, h3, h4, h5, h6, z, e1, w1, w2, p, p2])
    (by
      rintro g
      simp -implicitDefEqProofs (maxSteps := 3000000)) with ⟨h1, s, rfl, h2⟩ | ⟨⟨i, hi, h1⟩, s, rfl, h2⟩
  · have asc : AscL l := fun i hi => by
      rcases h1 (i + 1) hi with z | z
      · omega
      · simpa using z
    by_cases A : AllIn T.length l
    · rw [bl_true A] at c2
      simp -implicitDefEqProofs (maxSteps := 3000000) [h2, c1, c2, bl_true (show SetOk T l from ⟨A, asc⟩)]
    · rw [bl_false A] at c2
      simp -implicitDefEqProofs (maxSteps := 3000000) [h2, c1, c2, bl_false (show ¬ SetOk T l from fun z => A z.1)]
  · have : ¬ SetOk T l := fun z => h1 (by
      rcases Nat.eq_zero_or_pos i with y | y
      · exact .inl y
      · right
        have := z.2 (i - 1) (by omega)
        rwa [show i - 1 + 1 = i by omega] at this)
    simp -implicitDefEqProofs (maxSteps := 3000000) [h2, bl_false this]
theorem ct_setCode (n : Nat) (hn : B + 4 ≤ n) (T : List (List Int)) (hT : T.length ≤ 2000000) (hr : ∀ i, (rown T i).length ≤ 1000000000000) (l : List Int) (hl : l.length ≤ 10000000) :
    evalCall Tryz.prog An n 122 [.agg [.d (intss T)], .d (ints l)] [] = some ⟨.d (.int .i64 (setcode T l)), [], []⟩ := by
  obtain ⟨m, rfl⟩ : ∃ m, n = m + 1 := ⟨n - 1, by omega⟩
  have hB := B_eq
  simp only [evalCall_at, fb122, bnd_some, bodyOf, Tryz.f122, Option.getD_some]
  have c1 := ct_IsGroup m (by omega) T hT hr
  have c2 := ct_isSet m (by omega) T l hl
  by_cases G : IsGr T
  · rw [bl_true G] at c1
    by_cases A : SetOk T l
    · rw [bl_true A] at c2
      have e : setcode T l = 0 := by simp only [setcode, if_pos G, if_pos A]
      simp -implicitDefEqProofs (maxSteps := 3000000) [c1, c2, e]
    · rw [bl_false A] at c2
      have e : setcode T l = 2 := by simp only [setcode, if_pos G, if_neg A]
      simp -implicitDefEqProofs (maxSteps := 3000000) [c1, c2, e]
  · rw [bl_false G] at c1
    have e : setcode T l = 1 := by simp only [setcode, if_neg G]
    simp -implicitDefEqProofs (maxSteps := 3000000) [c1, e]
theorem ct_Equal (n : Nat) (hn : B + 1 ≤ n) (l r : List Int) (hl : l.length ≤ 10000000) :
    evalCall Tryz.prog An n 204 [.d (ints l), .d (ints r)] [] = some ⟨.d (.bool (decide (l = r))), [], []⟩ := by
  obtain ⟨m, rfl⟩ : ∃ m, n = m + 1 := ⟨n - 1, by omega⟩
  have hB := B_eq
  simp only [evalCall_at, fb204, bnd_some, bodyOf, Tryz.f204, Option.getD_some]
  generalize hb0 : Code.loop _ = cc0
  obtain rfl : cc0 = .loop (lp Tryz.f204 0) := by rw [← hb0]; rfl
  clear hb0
  by_cases h : l.length = r.length
  · simp -implicitDefEqProofs (maxSteps := 3000000) [h]
    generalize hx : loopC _ _ _ = x
    generalize hl : lp Tryz.f204 0 = L at hx
    simp only [lp, bodyOf, Tryz.f204, Option.getD_some, loopsIn, List.append_nil, List.nil_append, List.cons_append, List.getD, List.getElem?_cons_zero, List.getElem?_cons_succ] at hl
    subst hl
    rcases loop_chk hx r.length 0 (fun i => rn l i = rn r i)
      (fun i g => ⟨[(0, .d (ints l)), (1, .d (ints r)), (12, .d (.int .i64 r.length)), (13, .d (.int .i64 i))], [], g⟩)
      (fun s => s.obs = s.obs) (fun s => lookL s.env 4 = some (.d (.bool false)))
      (by show r.length < m; omega) (by simp -implicitDefEqProofs (maxSteps := 3000000))
      (by
        rintro i g hi hp
        have w2 := wrap_id (n := (i : Int) + 1) (by omega)
        have hi2 : i < l.length := by omega
        by_cases p : rn l i = rn r i
        · simp -implicitDefEqProofs (maxSteps := 3000000) [hi, hi2, w2, p]
        · have p2 := bne_t p
          simp -implicitDefEqProofs (maxSteps := 3000000) [hi, hi2, w2, p, p2])
      (by
        rintro g
        simp -implicitDefEqProofs (maxSteps := 3000000)) with ⟨h1, s, rfl, _⟩ | ⟨⟨i, hi, h1⟩, s, rfl, h2⟩
    · have : l = r := List.ext_getElem h fun i q1 q2 => by
        have := h1 i q2
        rwa [rn_get q1, rn_get q2] at this
      simp -implicitDefEqProofs (maxSteps := 3000000) [this]
    · have : ¬ l = r := fun z => h1 (by rw [z])
      simp -implicitDefEqProofs (maxSteps := 3000000) [h2, this]
  · have e : ((l.length : Int) != r.length) = true := bne_t (by omega)
    have : ¬ l = r := fun z => h (by rw [z])
    simp -implicitDefEqProofs (maxSteps := 3000000) [e, this]
end Go.Proofs.YtnfhglplafmfiaaGreatE
