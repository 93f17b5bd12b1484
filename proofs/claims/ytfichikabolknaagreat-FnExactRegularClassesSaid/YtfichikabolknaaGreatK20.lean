/- Contracts of functions of the program and of the reference: what the evaluator gives for a call of each. -/
import Derived.Test.YtfichikabolknaaGreatAEf
import Derived.Test.YtfichikabolknaaGreatK0
import Derived.Test.YtfichikabolknaaGreatK3
import Derived.Test.YtfichikabolknaaGreatK4
import Derived.Test.YtfichikabolknaaGreatK5
import Derived.Test.YtfichikabolknaaGreatK7
import Derived.Test.YtfichikabolknaaGreatK15
import Derived.Test.YtfichikabolknaaGreatK19
namespace Go.Proofs.YtfichikabolknaaGreatE
open Go Go.Proofs
set_option maxHeartbeats 4000000
set_option maxRecDepth 2000
set_option linter.unusedSimpArgs false
set_option linter.unusedVariables false
set_option pp.deepTerms false
set_option pp.deepTerms.threshold 10
/-! ## forms -/
noncomputable def fv (N : Nat) (V : List Int) (x y : Nat) : Int := atv N V [(x : Int), (y : Int)]
structure FOk (T : List (List Int)) (M : Int) (V : List Int) : Prop where
  G : IsGr T
  hM : 2 ≤ M ∧ M ≤ 12
  hV : (V.length : Int) = ((T.length : Int) - 1) ^ 2
  bV : ∀ i < V.length, 0 ≤ rn V i ∧ rn V i ≤ M - 1
theorem SGood.fok {T : List (List Int)} {M D : Int} {V : List Int} (h : SGood T M D V) : FOk T M V := by
  obtain ⟨h1, h2, h3, rfl, _⟩ := h
  exact ⟨h1, h2, by simpa [cellsOf_] using h3.2.1, h3.2.2⟩
theorem inG_pair {N x y : Nat} (hx : x < N) (hy : y < N) : InG N [(x : Int), (y : Int)] := fun i hi => by
  match i, hi with
  | 0, _ => simp -implicitDefEqProofs (maxSteps := 3000000) [rn]; omega
  | 1, _ => simp -implicitDefEqProofs (maxSteps := 3000000) [rn]; omega
theorem fv_bd {T : List (List Int)} {M : Int} {V : List Int} (S : FOk T M V) (x y : Nat) : 0 ≤ fv T.length V x y ∧ fv T.length V x y ≤ M - 1 :=
  atv_bd (by have := S.hM; omega) S.bV
theorem ct_at2 (n : Nat) (hn : B + 3 ≤ n) (T : List (List Int)) (M D : Int) (V : List Int) (S : FOk T M V) (x y : Nat) (hx : x < T.length) (hy : y < T.length) :
    evalCall Tryz.prog An n 220 [.agg [.d (.int .i64 D), .d (ints V)], .agg [.d (intss T)], .d (.sl 1 [.int .i64 x, .int .i64 y])] [] = some ⟨.d (.int .i64 (fv T.length V x y)), [], []⟩ :=
  ct_at n hn T S.G.1.1 D V [(x : Int), (y : Int)] (by simp -implicitDefEqProofs (maxSteps := 3000000)) (by simpa using S.hV) (inG_pair hx hy)
theorem ct_l03At2 (n : Nat) (hn : B + 2 ≤ n) (T : List (List Int)) (M D : Int) (V : List Int) (S : FOk T M V) (x y : Nat) (hx : x < T.length) (hy : y < T.length) :
    evalCall Tryz.prog An n 180 [.agg [.d (intss T)], .agg [.d (.int .i64 D), .d (ints V)], .d (.sl 1 [.int .i64 x, .int .i64 y])] [] = some ⟨.d (.int .i64 (fv T.length V x y)), [], []⟩ :=
  ct_l03At n hn T S.G.1.1 D V [(x : Int), (y : Int)] (by simp -implicitDefEqProofs (maxSteps := 3000000)) (by simpa using S.hV) (inG_pair hx hy)
noncomputable def frm (N : Nat) (M : Int) (V : List Int) (x y : Nat) : Int := (fv N V x y - fv N V y x) % M
theorem frm_0 {T : List (List Int)} {M : Int} {V : List Int} (S : FOk T M V) (x y : Nat) : frm T.length M V x y = 0 ↔ fv T.length V x y = fv T.length V y x := by
  have a := fv_bd S x y
  have b := fv_bd S y x
  have hM := S.hM
  unfold frm
  constructor
  · intro h
    rcases Int.le_total (fv T.length V y x) (fv T.length V x y) with z | z
    · rw [Int.emod_eq_of_lt (by omega) (by omega)] at h; omega
    · have : (fv T.length V x y - fv T.length V y x) % M = (fv T.length V x y - fv T.length V y x + M) % M := by rw [Int.add_emod_right]
      rw [this] at h
      by_cases e : fv T.length V x y = fv T.length V y x
      · exact e
      · rw [Int.emod_eq_of_lt (by omega) (by omega)] at h; omega
  · intro h
    rw [h, Int.sub_self, Int.zero_emod]
theorem ct_formAt (n : Nat) (hn : B + 4 ≤ n) (T : List (List Int)) (M D : Int) (V : List Int) (S : FOk T M V) (x y : Nat) (hx : x < T.length) (hy : y < T.length) :
    evalCall Tryz.prog An n 179 [.agg [.d (intss T)], .d (.int .i64 M), .agg [.d (.int .i64 D), .d (ints V)], .d (.int .i64 x), .d (.int .i64 y)] [] = some ⟨.d (.int .i64 (frm T.length M V x y)), [], []⟩ := by
  obtain ⟨m, rfl⟩ : ∃ m, n = m + 1 := ⟨n - 1, by omega⟩
  have hB := B_eq
  simp only [evalCall_at, fb179, bnd_some, bodyOf, Tryz.f179, Option.getD_some]
  have c1 := ct_at2 m (by omega) T M D V S x y hx hy
  have c2 := ct_at2 m (by omega) T M D V S y x hy hx
  have a := fv_bd S x y
  have b := fv_bd S y x
  have hM := S.hM
  have w1 := wrap_id (n := fv T.length V x y - fv T.length V y x) (by omega)
  have w2 := wrap_id (n := fv T.length V x y - fv T.length V y x + M) (by omega)
  have e : (fv T.length V x y - fv T.length V y x + M).tmod M = frm T.length M V x y := by
    rw [tmod_nn M (by omega), Int.add_emod_right]; rfl
  have hz : M ≠ 0 := by omega
  simp -implicitDefEqProofs (maxSteps := 3000000) [c1, c2, w1, w2, e, hz]
/-! ## IsSymmetric -/
def IsSym (T : List (List Int)) (V : List Int) : Prop := ∀ x < T.length, ∀ y < T.length, fv T.length V x y = fv T.length V y x
theorem isSym_half {T : List (List Int)} {V : List Int} : IsSym T V ↔ ∀ x < T.length, ∀ y < x, fv T.length V x y = fv T.length V y x := by
  constructor
  · intro h x hx y hy; exact h x hx y (by omega)
  · intro h x hx y hy
    rcases Nat.lt_trichotomy x y with z | z | z
    · exact (h y hy x z).symm
    · rw [z]
    · exact h x hx y z
theorem lp_IsSymS_1 (m : Nat) (hm : B + 3 ≤ m) (T : List (List Int)) (M : Int) (V : List Int) (S : FOk T M V) (x : Nat) (hxT : x < T.length) {st : St} {o : Option (Ex × St)} (hx : loopC (cxAt 68 m) (lp Tryz.f68 1) st = o)
    (f : obsL st.obs 48 = some (1, .box [.d (intss T)]) ∧ obsL st.obs 80 = some (2, .box [.d (.int .i64 2), .d (ints V)]) ∧ lookL st.env 3 = some (.ptr 48 1 0) ∧ lookL st.env 5 = some (.ptr 80 2 0) ∧ lookL st.env 9 = some (.d (.int .i64 x)) ∧ lookL st.env 10 = some (.d (.int .i64 0))) :
    ((∀ y < x, fv T.length V x y = fv T.length V y x) ∧ ∃ s, o = some (.exit 2, s) ∧ obsL s.obs 48 = some (1, .box [.d (intss T)]) ∧ obsL s.obs 80 = some (2, .box [.d (.int .i64 2), .d (ints V)]) ∧ lookL s.env 3 = some (.ptr 48 1 0) ∧ lookL s.env 5 = some (.ptr 80 2 0) ∧ lookL s.env 9 = some (.d (.int .i64 x))) ∨
    ((∃ y < x, ¬ fv T.length V x y = fv T.length V y x) ∧ ∃ s, o = some (.ret, s) ∧ lookL s.env 6 = some (.d (.bool false)) ∧ lookL s.env 7 = some (.d (.int .i64 0))) := by
  have hB := B_eq
  have hT := S.G.1.1
  generalize hl : lp Tryz.f68 1 = L at hx
  simp only [lp, bodyOf, Tryz.f68, Option.getD_some, loopsIn, List.append_nil, List.nil_append, List.cons_append, List.getD, List.getElem?_cons_zero, List.getElem?_cons_succ] at hl
  subst hl
  refine loop_chk hx x 2 (fun y => fv T.length V x y = fv T.length V y x)
    (fun y g => ⟨[(3, .ptr 48 1 0), (5, .ptr 80 2 0), (9, .d (.int .i64 x)), (10, .d (.int .i64 y))], [(48, some (1, .box [.d (intss T)])), (80, some (2, .box [.d (.int .i64 2), .d (ints V)]))], g⟩) _ _
    (by show x < m; omega) (by simp -implicitDefEqProofs (maxSteps := 3000000) [f])
    (by
      rintro y g hy hp
      have w2 := wrap_id (n := (y : Int) + 1) (by omega)
      have c1 := ct_l03At2 m (by omega) T M 2 V S x y (by omega) (by omega)
      have c2 := ct_l03At2 m (by omega) T M 2 V S y x (by omega) (by omega)
      by_cases p : fv T.length V x y = fv T.length V y x
      · simp -implicitDefEqProofs (maxSteps := 3000000) [hy, c1, c2, p, w2]
      · have p2 := bne_t p
        simp -implicitDefEqProofs (maxSteps := 3000000) [hy, c1, c2, p, p2, w2])
    (by
      rintro g
      simp -implicitDefEqProofs (maxSteps := 3000000))
theorem ct_specSym_bad (n : Nat) (hn : B + 6 ≤ n) (T : List (List Int)) (hT : T.length ≤ 2000000) (M D : Int) (V : List Int) (hV : V.length ≤ 10000000) (h : ¬ SGood T M D V) :
    evalCall Tryz.prog An n 68 [.agg [.d (intss T)], .d (.int .i64 M), .agg [.d (.int .i64 D), .d (ints V)]] [] = some ⟨.tuple [.d (.bool false), .d (.int .i64 (scode T M D V))], [], []⟩ := by
  obtain ⟨m, rfl⟩ : ∃ m, n = m + 1 := ⟨n - 1, by omega⟩
  have hB := B_eq
  simp only [evalCall_at, fb68, bnd_some, bodyOf, Tryz.f68, Option.getD_some]
  generalize hb0 : Code.loop _ = cc0
  obtain rfl : cc0 = .loop (lp Tryz.f68 0) := by rw [← hb0]; rfl
  clear hb0
  have c := ct_l10Given m (by omega) T hT M D V hV
  have h2 := scode_ne h
  have h3 := bne_t h2
  simp -implicitDefEqProofs (maxSteps := 3000000) [c, h2, h3]
theorem ct_specSym (n : Nat) (hn : B + 6 ≤ n) (T : List (List Int)) (hT : T.length ≤ 2000000) (M D : Int) (V : List Int) (hV : V.length ≤ 10000000) (h : SGood T M D V) :
    evalCall Tryz.prog An n 68 [.agg [.d (intss T)], .d (.int .i64 M), .agg [.d (.int .i64 D), .d (ints V)]] [] = some ⟨.tuple [.d (.bool (bl (IsSym T V))), .d (.int .i64 0)], [], []⟩ := by
  obtain ⟨m, rfl⟩ : ∃ m, n = m + 1 := ⟨n - 1, by omega⟩
  have hB := B_eq
  simp only [evalCall_at, fb68, bnd_some, bodyOf, Tryz.f68, Option.getD_some]
  generalize hb0 : Code.loop _ = cc0
  obtain rfl : cc0 = .loop (lp Tryz.f68 0) := by rw [← hb0]; rfl
  clear hb0
  have c := ct_l10Given m (by omega) T hT M D V hV
  rw [scode_0 h] at c
  have S := h.fok
  have hD : D = 2 := h.2.2.2.1
  subst hD
  have hN := S.G.1.1
  have c1 := ct_l01N m (by omega) T
  simp -implicitDefEqProofs (maxSteps := 3000000) [c]
  generalize hx : loopC _ _ _ = x
  generalize hl : lp Tryz.f68 0 = L at hx
  simp only [lp, bodyOf, Tryz.f68, Option.getD_some, loopsIn, List.append_nil, List.nil_append, List.cons_append, List.getD, List.getElem?_cons_zero, List.getElem?_cons_succ] at hl
  subst hl
  generalize hb1 : Code.loop _ = cc1 at hx
  obtain rfl : cc1 = .loop (lp Tryz.f68 1) := by rw [← hb1]; rfl
  clear hb1
  rcases loop_chk hx T.length 0 (fun x => ∀ y < x, fv T.length V x y = fv T.length V y x)
    (fun x g => ⟨[(3, .ptr 48 1 0), (5, .ptr 80 2 0), (9, .d (.int .i64 x))], [(48, some (1, .box [.d (intss T)])), (80, some (2, .box [.d (.int .i64 2), .d (ints V)]))], g⟩)
    (fun s => s.obs = s.obs) (fun s => lookL s.env 6 = some (.d (.bool false)) ∧ lookL s.env 7 = some (.d (.int .i64 0)))
    (by show T.length < m; omega) (by simp -implicitDefEqProofs (maxSteps := 3000000))
    (by
      rintro i g hi hp
      have w2 := wrap_id (n := (i : Int) + 1) (by omega)
      simp -implicitDefEqProofs (maxSteps := 3000000) [hi, c1]
      generalize hy : loopC _ _ _ = y
      rcases lp_IsSymS_1 m (by omega) T M V S i hi hy (by simp -implicitDefEqProofs (maxSteps := 3000000)) with ⟨h1, s, rfl, h2⟩ | ⟨h1, s, rfl, h2⟩
      · simp -implicitDefEqProofs (maxSteps := 3000000) [h2, w2]; exact h1
      · simp -implicitDefEqProofs (maxSteps := 3000000) [h2]; exact h1)
    (by
      rintro g
      simp -implicitDefEqProofs (maxSteps := 3000000) [c1]) with ⟨h1, s, rfl, _⟩ | ⟨⟨i, hi, h1⟩, s, rfl, h2⟩
  · simp -implicitDefEqProofs (maxSteps := 3000000) [bl_true (isSym_half.2 h1)]
  · simp -implicitDefEqProofs (maxSteps := 3000000) [h2, bl_false (show ¬ IsSym T V from fun z => h1 (isSym_half.1 z i hi))]
theorem lp_IsSymI_1 (m : Nat) (hm : B + 4 ≤ m) (T : List (List Int)) (M : Int) (V : List Int) (S : FOk T M V) (x : Nat) (hxT : x < T.length) {st : St} {o : Option (Ex × St)} (hx : loopC (cxAt 67 m) (lp Tryz.f67 1) st = o)
    (f : obsL st.obs 48 = some (1, .box [.d (intss T)]) ∧ obsL st.obs 80 = some (2, .box [.d (.int .i64 2), .d (ints V)]) ∧ lookL st.env 1 = some (.d (.int .i64 M)) ∧ lookL st.env 3 = some (.ptr 48 1 0) ∧ lookL st.env 5 = some (.ptr 80 2 0) ∧ lookL st.env 9 = some (.d (.int .i64 x)) ∧ lookL st.env 19 = some (.d (.int .i64 T.length)) ∧ lookL st.env 20 = some (.d (.int .i64 x)) ∧ lookL st.env 24 = some (.d (.int .i64 T.length)) ∧ lookL st.env 25 = some (.d (.int .i64 0))) :
    ((∀ y < T.length, fv T.length V x y = fv T.length V y x) ∧ ∃ s, o = some (.exit 2, s) ∧ obsL s.obs 48 = some (1, .box [.d (intss T)]) ∧ obsL s.obs 80 = some (2, .box [.d (.int .i64 2), .d (ints V)]) ∧ lookL s.env 1 = some (.d (.int .i64 M)) ∧ lookL s.env 3 = some (.ptr 48 1 0) ∧ lookL s.env 5 = some (.ptr 80 2 0) ∧ lookL s.env 19 = some (.d (.int .i64 T.length)) ∧ lookL s.env 20 = some (.d (.int .i64 x))) ∨
    ((∃ y < T.length, ¬ fv T.length V x y = fv T.length V y x) ∧ ∃ s, o = some (.ret, s) ∧ lookL s.env 6 = some (.d (.bool false)) ∧ lookL s.env 7 = some (.d (.int .i64 0))) := by
  have hB := B_eq
  have hT := S.G.1.1
  generalize hl : lp Tryz.f67 1 = L at hx
  simp only [lp, bodyOf, Tryz.f67, Option.getD_some, loopsIn, List.append_nil, List.nil_append, List.cons_append, List.getD, List.getElem?_cons_zero, List.getElem?_cons_succ] at hl
  subst hl
  refine loop_chk hx T.length 2 (fun y => fv T.length V x y = fv T.length V y x)
    (fun y g => ⟨[(1, .d (.int .i64 M)), (3, .ptr 48 1 0), (5, .ptr 80 2 0), (9, .d (.int .i64 x)), (19, .d (.int .i64 T.length)), (20, .d (.int .i64 x)), (24, .d (.int .i64 T.length)), (25, .d (.int .i64 y))], [(48, some (1, .box [.d (intss T)])), (80, some (2, .box [.d (.int .i64 2), .d (ints V)]))], g⟩) _ _
    (by show T.length < m; omega) (by simp -implicitDefEqProofs (maxSteps := 3000000) [f])
    (by
      rintro y g hy hp
      have w2 := wrap_id (n := (y : Int) + 1) (by omega)
      have c1 := ct_formAt m (by omega) T M 2 V S x y hxT hy
      by_cases p : fv T.length V x y = fv T.length V y x
      · have p3 := (frm_0 S x y).2 p
        simp -implicitDefEqProofs (maxSteps := 3000000) [hy, c1, p, p3, w2]
      · have p3 : frm T.length M V x y ≠ 0 := fun z => p ((frm_0 S x y).1 z)
        have p2 := bne_t p3
        simp -implicitDefEqProofs (maxSteps := 3000000) [hy, c1, p, p2, p3, w2])
    (by
      rintro g
      simp -implicitDefEqProofs (maxSteps := 3000000))
theorem ct_implSym_bad (n : Nat) (hn : B + 9 + 4 ≤ n) (T : List (List Int)) (hT : T.length ≤ 2000000) (hr : ∀ i, (rown T i).length ≤ 1000000000000) (M D : Int) (V : List Int) (hV : V.length ≤ 10000000) (h : ¬ SGood T M D V) :
    evalCall Tryz.prog An n 67 [.agg [.d (intss T)], .d (.int .i64 M), .agg [.d (.int .i64 D), .d (ints V)]] [] = some ⟨.tuple [.d (.bool false), .d (.int .i64 (scode T M D V))], [], []⟩ := by
  obtain ⟨m, rfl⟩ : ∃ m, n = m + 1 := ⟨n - 1, by omega⟩
  have hB := B_eq
  simp only [evalCall_at, fb67, bnd_some, bodyOf, Tryz.f67, Option.getD_some]
  generalize hb0 : Code.loop _ = cc0
  obtain rfl : cc0 = .loop (lp Tryz.f67 0) := by rw [← hb0]; rfl
  clear hb0
  have c := ct_symmetricCode m (by omega) T hT hr M D V hV
  have h2 := scode_ne h
  have h3 := bne_t h2
  simp -implicitDefEqProofs (maxSteps := 3000000) [c, h2, h3]
theorem ct_implSym (n : Nat) (hn : B + 9 + 4 ≤ n) (T : List (List Int)) (hT : T.length ≤ 2000000) (hr : ∀ i, (rown T i).length ≤ 1000000000000) (M D : Int) (V : List Int) (hV : V.length ≤ 10000000) (h : SGood T M D V) :
    evalCall Tryz.prog An n 67 [.agg [.d (intss T)], .d (.int .i64 M), .agg [.d (.int .i64 D), .d (ints V)]] [] = some ⟨.tuple [.d (.bool (bl (IsSym T V))), .d (.int .i64 0)], [], []⟩ := by
  obtain ⟨m, rfl⟩ : ∃ m, n = m + 1 := ⟨n - 1, by omega⟩
  have hB := B_eq
  simp only [evalCall_at, fb67, bnd_some, bodyOf, Tryz.f67, Option.getD_some]
  generalize hb0 : Code.loop _ = cc0
  obtain rfl : cc0 = .loop (lp Tryz.f67 0) := by rw [← hb0]; rfl
  clear hb0
  have c := ct_symmetricCode m (by omega) T hT hr M D V hV
  rw [scode_0 h] at c
  have S := h.fok
  have hD : D = 2 := h.2.2.2.1
  subst hD
  have hN := S.G.1.1
  have c1 := ct_order m (by omega) T
  simp -implicitDefEqProofs (maxSteps := 3000000) [c, c1]
  generalize hx : loopC _ _ _ = x
  generalize hl : lp Tryz.f67 0 = L at hx
  simp only [lp, bodyOf, Tryz.f67, Option.getD_some, loopsIn, List.append_nil, List.nil_append, List.cons_append, List.getD, List.getElem?_cons_zero, List.getElem?_cons_succ] at hl
  subst hl
  generalize hb1 : Code.loop _ = cc1 at hx
  obtain rfl : cc1 = .loop (lp Tryz.f67 1) := by rw [← hb1]; rfl
  clear hb1
  rcases loop_chk hx T.length 0 (fun x => ∀ y < T.length, fv T.length V x y = fv T.length V y x)
    (fun x g => ⟨[(1, .d (.int .i64 M)), (3, .ptr 48 1 0), (5, .ptr 80 2 0), (19, .d (.int .i64 T.length)), (20, .d (.int .i64 x))], [(48, some (1, .box [.d (intss T)])), (80, some (2, .box [.d (.int .i64 2), .d (ints V)]))], g⟩)
    (fun s => s.obs = s.obs) (fun s => lookL s.env 6 = some (.d (.bool false)) ∧ lookL s.env 7 = some (.d (.int .i64 0)))
    (by show T.length < m; omega) (by simp -implicitDefEqProofs (maxSteps := 3000000))
    (by
      rintro i g hi hp
      have w2 := wrap_id (n := (i : Int) + 1) (by omega)
      simp -implicitDefEqProofs (maxSteps := 3000000) [hi, c1]
      generalize hy : loopC _ _ _ = y
      rcases lp_IsSymI_1 m (by omega) T M V S i hi hy (by simp -implicitDefEqProofs (maxSteps := 3000000)) with ⟨h1, s, rfl, h2⟩ | ⟨h1, s, rfl, h2⟩
      · simp -implicitDefEqProofs (maxSteps := 3000000) [h2, w2]; exact h1
      · simp -implicitDefEqProofs (maxSteps := 3000000) [h2]; exact h1)
    (by
      rintro g
      simp -implicitDefEqProofs (maxSteps := 3000000) [c1]) with ⟨h1, s, rfl, _⟩ | ⟨⟨i, hi, h1⟩, s, rfl, h2⟩
  · simp -implicitDefEqProofs (maxSteps := 3000000) [bl_true (show IsSym T V from h1)]
  · simp -implicitDefEqProofs (maxSteps := 3000000) [h2, bl_false (show ¬ IsSym T V from fun z => h1 (z i hi))]
end Go.Proofs.YtfichikabolknaaGreatE
