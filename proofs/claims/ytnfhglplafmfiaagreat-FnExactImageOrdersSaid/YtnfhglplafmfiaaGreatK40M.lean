/- Contracts of functions of the program and of the reference: what the evaluator gives for a call of each. -/
import Derived.Test.YtnfhglplafmfiaaGreatAEf
import Derived.Test.YtnfhglplafmfiaaGreatK1M
import Derived.Test.YtnfhglplafmfiaaGreatK3M
import Derived.Test.YtnfhglplafmfiaaGreatK8M
import Derived.Test.YtnfhglplafmfiaaGreatK24M
import Derived.Test.YtnfhglplafmfiaaGreatK26
import Derived.Test.YtnfhglplafmfiaaGreatK31
import Derived.Test.YtnfhglplafmfiaaGreatK33M
import Derived.Test.YtnfhglplafmfiaaGreatK37
import Derived.Test.YtnfhglplafmfiaaGreatK19
import Derived.Test.YtnfhglplafmfiaaGreatK27
import Derived.Test.YtnfhglplafmfiaaGreatK29M
import Derived.Test.YtnfhglplafmfiaaGreatK30
import Derived.Test.YtnfhglplafmfiaaGreatK36M
namespace Go.Proofs.YtnfhglplafmfiaaGreatE
open Go Go.Proofs
set_option maxHeartbeats 4000000
set_option maxRecDepth 4000
set_option linter.unusedSimpArgs false
set_option linter.unusedVariables false
set_option pp.deepTerms false
set_option pp.deepTerms.threshold 10
/-! ## ConjugateSubgroup -/
open Classical in
noncomputable def cjcode (T : List (List Int)) (l : List Int) (c : Int) : Int := if IsGr T ∧ SetOk T l ∧ ¬ (0 ≤ c ∧ c < T.length) then 2 else subcode T l
theorem all1 {N : Int} {x : Int} : AllIn N [x] ↔ 0 ≤ x ∧ x < N := by
  simp -implicitDefEqProofs (maxSteps := 3000000) [AllIn, rn]
theorem cjcode_0 {T : List (List Int)} {l : List Int} {c : Int} (h : HGood T l) (hc : 0 ≤ c ∧ c < T.length) : cjcode T l c = 0 := by
  rw [cjcode, if_neg (fun z => z.2.2 hc)]; exact subcode_0 h
theorem cjcode_ne {T : List (List Int)} {l : List Int} {c : Int} (h : ¬ (HGood T l ∧ 0 ≤ c ∧ c < T.length)) : cjcode T l c ≠ 0 := by
  unfold cjcode
  split
  · omega
  · rename_i z
    refine subcode_ne fun q => h ⟨q, ?_⟩
    exact Classical.byContradiction fun w => z ⟨q.1, q.2.1, w⟩
theorem sub_set_ne {T : List (List Int)} {l : List Int} (h : setcode T l ≠ 0) : subcode T l = setcode T l := by
  unfold setcode subcode at *
  by_cases G : IsGr T
  · by_cases A : SetOk T l
    · rw [if_pos G, if_pos A] at h; exact absurd rfl h
    · rw [if_pos G, if_neg A, if_pos G, if_neg A]
  · rw [if_neg G, if_neg G]
theorem set_0 {T : List (List Int)} {l : List Int} (h : setcode T l = 0) : IsGr T ∧ SetOk T l := by
  unfold setcode at h
  by_cases G : IsGr T
  · by_cases A : SetOk T l
    · exact ⟨G, A⟩
    · rw [if_pos G, if_neg A] at h; omega
  · rw [if_neg G] at h; omega
theorem cj_set_ne {T : List (List Int)} {l : List Int} {c : Int} (h : setcode T l ≠ 0) : cjcode T l c = setcode T l := by
  rw [cjcode, if_neg (fun z => h (by rw [setcode, if_pos z.1, if_pos z.2.1]))]; exact sub_set_ne h
theorem ct_specCj_bad (n : Nat) (hn : B + 6 ≤ n) (T : List (List Int)) (hT : T.length ≤ 2000000) (l : List Int) (hl : l.length ≤ 10000000) (c : Int) (h : ¬ (HGood T l ∧ 0 ≤ c ∧ c < T.length)) :
    evalCall Tryz.prog An n 53 [.agg [.d (intss T)], .d (ints l), .d (.int .i64 c)] [] = some ⟨.tuple [.d .nil, .d (.int .i64 (cjcode T l c))], [], []⟩ := by
  obtain ⟨m, rfl⟩ : ∃ m, n = m + 1 := ⟨n - 1, by omega⟩
  have hB := B_eq
  simp only [evalCall_at, fb53, bnd_some, bodyOf, Tryz.f53, Option.getD_some]
  have c1 := ct_l01Set m (by omega) T (by omega) l hl
  have c3 := ct_l07Code m (by omega) T (by omega) l hl
  have ne := cjcode_ne h
  by_cases s0 : setcode T l = 0
  · obtain ⟨G, A⟩ := set_0 s0
    have c2 := ct_l01Elements m (by omega) T (by omega) [c] (by simp -implicitDefEqProofs (maxSteps := 3000000))
    rw [show ints [c] = .sl 1 [.int .i64 c] from rfl] at c2
    rw [s0] at c1
    by_cases q : 0 ≤ c ∧ c < T.length
    · have e2 : elcode T [c] = 0 := by rw [elcode, if_pos G, if_pos (all1.2 q)]
      have e3 : cjcode T l c = subcode T l := by rw [cjcode, if_neg (fun z => z.2.2 q)]
      rw [e2] at c2
      rw [e3] at ne ⊢
      have ne2 := bne_t ne
      simp -implicitDefEqProofs (maxSteps := 3000000) [c1, c2, c3, ne, ne2]
    · have e2 : elcode T [c] = 2 := by rw [elcode, if_pos G, if_neg (fun z => q (all1.1 z))]
      have e3 : cjcode T l c = 2 := by rw [cjcode, if_pos ⟨G, A, q⟩]
      rw [e2] at c2
      simp -implicitDefEqProofs (maxSteps := 3000000) [c1, c2, e3]
  · have e3 := cj_set_ne (c := c) s0
    have ne2 := bne_t s0
    have ne3 := beq_f s0
    simp -implicitDefEqProofs (maxSteps := 3000000) [c1, s0, ne2, ne3, e3]
theorem ct_specCj (n : Nat) (hn : B + 6 ≤ n) (T : List (List Int)) (hT : T.length ≤ 2000000) (l : List Int) (hl : l.length ≤ 10000000) (c : Int) (h : HGood T l ∧ 0 ≤ c ∧ c < T.length) :
    evalCall Tryz.prog An n 53 [.agg [.d (intss T)], .d (ints l), .d (.int .i64 c)] [] = some ⟨.tuple [.own 0 0, .d (.int .i64 0)], [.row (icells (conjL T l c.toNat))], []⟩ := by
  obtain ⟨m, rfl⟩ : ∃ m, n = m + 1 := ⟨n - 1, by omega⟩
  have hB := B_eq
  simp only [evalCall_at, fb53, bnd_some, bodyOf, Tryz.f53, Option.getD_some]
  have c1 := ct_l01Set m (by omega) T (by omega) l hl
  have c3 := ct_l07Code m (by omega) T (by omega) l hl
  have c2 := ct_l01Elements m (by omega) T (by omega) [c] (by simp -implicitDefEqProofs (maxSteps := 3000000))
  rw [show ints [c] = .sl 1 [.int .i64 c] from rfl] at c2
  have c4 := ct_l07Conjugate m (by omega) T h.1.1 l hl h.1.2.1.1 c.toNat (by omega)
  rw [Int.toNat_of_nonneg h.2.1] at c4
  have e1 : setcode T l = 0 := by rw [setcode, if_pos h.1.1, if_pos h.1.2.1]
  have e2 : elcode T [c] = 0 := by rw [elcode, if_pos h.1.1, if_pos (all1.2 h.2)]
  rw [e1] at c1
  rw [e2] at c2
  rw [subcode_0 h.1] at c3
  simp -implicitDefEqProofs (maxSteps := 3000000) [c1, c2, c3, c4]
theorem ct_implCj_bad (n : Nat) (hn : B + 10 ≤ n) (T : List (List Int)) (hT : T.length ≤ 2000000) (hr : ∀ i, (rown T i).length ≤ 1000000000000) (l : List Int) (hl : l.length ≤ 10000000) (c : Int) (h : ¬ (HGood T l ∧ 0 ≤ c ∧ c < T.length)) :
    evalCall Tryz.prog An n 52 [.agg [.d (intss T)], .d (ints l), .d (.int .i64 c)] [] = some ⟨.tuple [.d .nil, .d (.int .i64 (cjcode T l c))], [], []⟩ := by
  obtain ⟨m, rfl⟩ : ∃ m, n = m + 1 := ⟨n - 1, by omega⟩
  have hB := B_eq
  simp only [evalCall_at, fb52, bnd_some, bodyOf, Tryz.f52, Option.getD_some]
  have c1 := ct_setCode m (by omega) T hT hr l hl
  have c0 := ct_order m (by omega) T
  have ne := cjcode_ne h
  by_cases s0 : setcode T l = 0
  · obtain ⟨G, A⟩ := set_0 s0
    have c2 := ct_areIn m (by omega) T.length [c] (by simp -implicitDefEqProofs (maxSteps := 3000000))
    rw [show ints [c] = .sl 1 [.int .i64 c] from rfl] at c2
    rw [s0] at c1
    by_cases q : 0 ≤ c ∧ c < T.length
    · rw [bl_true (all1.2 q)] at c2
      have c3 := ct_isSubgroup m (by omega) T G l A
      have hS : ¬ SubG T l := fun z => h ⟨⟨G, A, z⟩, q⟩
      rw [bl_false hS] at c3
      have e3 : cjcode T l c = 5 := by rw [cjcode, if_neg (fun z => z.2.2 q), subcode, if_pos G, if_pos A, if_neg hS]
      simp -implicitDefEqProofs (maxSteps := 3000000) [c1, c0, c2, c3, e3]
    · rw [bl_false (fun z => q (all1.1 z))] at c2
      have e3 : cjcode T l c = 2 := by rw [cjcode, if_pos ⟨G, A, q⟩]
      simp -implicitDefEqProofs (maxSteps := 3000000) [c1, c0, c2, e3]
  · have e3 := cj_set_ne (c := c) s0
    have ne2 := bne_t s0
    simp -implicitDefEqProofs (maxSteps := 3000000) [c1, s0, ne2, e3]
theorem ct_implCj (n : Nat) (hn : B + 10 ≤ n) (T : List (List Int)) (hT : T.length ≤ 2000000) (hr : ∀ i, (rown T i).length ≤ 1000000000000) (l : List Int) (hl : l.length ≤ 10000000) (c : Int) (h : HGood T l ∧ 0 ≤ c ∧ c < T.length) :
    evalCall Tryz.prog An n 52 [.agg [.d (intss T)], .d (ints l), .d (.int .i64 c)] [] = some ⟨.tuple [.own 0 0, .d (.int .i64 0)], [.row (icells (conjL T l c.toNat))], []⟩ := by
  obtain ⟨m, rfl⟩ : ∃ m, n = m + 1 := ⟨n - 1, by omega⟩
  have hB := B_eq
  simp only [evalCall_at, fb52, bnd_some, bodyOf, Tryz.f52, Option.getD_some]
  have c1 := ct_setCode m (by omega) T hT hr l hl
  have c0 := ct_order m (by omega) T
  have c2 := ct_areIn m (by omega) T.length [c] (by simp -implicitDefEqProofs (maxSteps := 3000000))
  rw [show ints [c] = .sl 1 [.int .i64 c] from rfl] at c2
  have c3 := ct_isSubgroup m (by omega) T h.1.1 l h.1.2.1
  have c4 := ct_conjugated m (by omega) T h.1.1 l h.1.2.1 c.toNat (by omega)
  rw [Int.toNat_of_nonneg h.2.1] at c4
  have e1 : setcode T l = 0 := by rw [setcode, if_pos h.1.1, if_pos h.1.2.1]
  rw [e1] at c1
  rw [bl_true (all1.2 h.2)] at c2
  rw [bl_true h.1.2.2] at c3
  simp -implicitDefEqProofs (maxSteps := 3000000) [c1, c0, c2, c3, c4]
theorem conjL_le (T : List (List Int)) (l : List Int) (c : Nat) : (conjL T l c).length ≤ 8 := thoseL_le _ 8
end Go.Proofs.YtnfhglplafmfiaaGreatE

namespace Go.Proofs.YtnfhglplafmfiaaGreatE
open Go Go.Proofs
set_option maxHeartbeats 4000000
set_option maxRecDepth 4000
set_option linter.unusedSimpArgs false
set_option linter.unusedVariables false
set_option pp.deepTerms false
set_option pp.deepTerms.threshold 10
/-! ## the reference's cosets -/
def z0 (l : List Int) : List Int := l.map (fun x => if x < 0 then 0 else x)
theorem z0_len (l : List Int) : (z0 l).length = l.length := by simp -implicitDefEqProofs (maxSteps := 3000000) [z0]
theorem z0_set (l : List Int) (b k : Nat) : (z0 l).set b (k : Int) = z0 (l.set b (k : Int)) := by
  have e : (if (k : Int) < 0 then (0 : Int) else k) = k := if_neg (by omega)
  rw [z0, z0, List.map_set, e]
theorem z0_id {l : List Int} (h : ∀ i < l.length, 0 ≤ rn l i) : z0 l = l := by
  unfold z0
  apply List.ext_getElem (by simp -implicitDefEqProofs (maxSteps := 3000000))
  intro i h1 h2
  have := h i h2
  rw [rn_get h2] at this
  simp only [List.getElem_map]
  exact if_neg (by omega)
theorem z0_init (n : Nat) : z0 (List.replicate n (-1)) = List.replicate n 0 := by simp -implicitDefEqProofs (maxSteps := 3000000) [z0]
structure Met (num : List Int) (u : Nat) : Prop where
  lt : u < 256
  tb : ∀ b, u.testBit b = true ↔ b < num.length ∧ 0 ≤ rn num b
theorem Met.set {num : List Int} {u : Nat} (M : Met num u) (hn : num.length ≤ 8) {b : Nat} (hb : b < num.length) (k : Nat) : Met (num.set b (k : Int)) (u ||| 2 ^ b) := by
  have hp : 2 ^ b < 2 ^ 8 := Nat.pow_lt_pow_right (by omega) (by omega)
  refine ⟨Nat.or_lt_two_pow (n := 8) M.lt hp, fun x => ?_⟩
  rw [or_tb, M.tb, rn_setG, List.length_set]
  by_cases e : b = x
  · subst e
    rw [if_pos ⟨rfl, hb⟩]
    simp -implicitDefEqProofs (maxSteps := 3000000) [hb]
  · rw [if_neg (fun z => e z.1)]
    constructor
    · rintro (z | z)
      · exact z
      · exact absurd z.symm e
    · exact .inl
theorem Met.init (n : Nat) : Met (List.replicate n (-1)) 0 := by
  refine ⟨by omega, fun b => ?_⟩
  rw [Nat.zero_testBit, List.length_replicate]
  constructor
  · intro z; simp -implicitDefEqProofs (maxSteps := 3000000) at z
  · rintro ⟨z1, z2⟩
    simp -implicitDefEqProofs (maxSteps := 3000000) [rn, List.getD, z1] at z2
theorem lp_l01Cosets_1 (m : Nat) (hm : B + 2 ≤ m) (T : List (List Int)) (h : List Int) (H : HGood T h) (a : Nat) (ha : a < T.length) (num fs : List Int) (hnl : num.length = T.length) (hfl : fs.length ≤ 8) (u : Nat) (hu : Met num u)
    {st : St} {o : Option (Ex × St)} (hx : loopC (cxAt 187 m) (lp Tryz.f187 1) st = o) {v v2 : Nat}
    (f : obsL st.obs 32 = some (1, .box [.d (intss T)]) ∧ obsL st.obs 224 = some (v2, .row (icells (z0 num))) ∧ obsL st.obs 240 = some (v, .row (icells fs)) ∧ obsL st.obs 928 = none ∧ lookL st.env 1 = some (.d (ints h)) ∧ lookL st.env 2 = some (.ptr 32 1 0) ∧ lookL st.env 6 = some (.own 224 v2) ∧ lookL st.env 7 = some (.own 240 v) ∧ lookL st.env 8 = some (.d (.int .i64 u)) ∧ lookL st.env 9 = some (.d (.int .i64 a)) ∧ lookL st.env 10 = some (.d (.int .i64 0))) :
    ∃ s v3 u', o = some (.exit 2, s) ∧ Met (csH T h a fs.length num h.length) u' ∧ obsL s.obs 32 = some (1, .box [.d (intss T)]) ∧ obsL s.obs 224 = some (v3, .row (icells (z0 (csH T h a fs.length num h.length)))) ∧ obsL s.obs 240 = some (v, .row (icells fs)) ∧ obsL s.obs 928 = none ∧ lookL s.env 1 = some (.d (ints h)) ∧ lookL s.env 2 = some (.ptr 32 1 0) ∧ lookL s.env 6 = some (.own 224 v3) ∧ lookL s.env 7 = some (.own 240 v) ∧ lookL s.env 8 = some (.d (.int .i64 u')) ∧ lookL s.env 9 = some (.d (.int .i64 a)) := by
  have hB := B_eq
  have G := H.1
  have hT := G.1.1
  have hlen := setOk_len H.2.1
  generalize hl : lp Tryz.f187 1 = L at hx
  simp only [lp, bodyOf, Tryz.f187, Option.getD_some, loopsIn, List.append_nil, List.nil_append, List.cons_append, List.getD, List.getElem?_cons_zero, List.getElem?_cons_succ] at hl
  subst hl
  obtain ⟨qq, rfl, hqq⟩ := loop_end hx h.length (fun j s => ∃ g v3 u', Met (csH T h a fs.length num j) u' ∧ s = ⟨[(1, .d (ints h)), (2, .ptr 32 1 0), (6, .own 224 v3), (7, .own 240 v), (8, .d (.int .i64 u')), (9, .d (.int .i64 a)), (10, .d (.int .i64 j))], [(32, some (1, .box [.d (intss T)])), (224, some (v3, .row (icells (z0 (csH T h a fs.length num j))))), (240, some (v, .row (icells fs)))], g⟩)
    (fun qq => ∃ s v3 u', qq = (.exit 2, s) ∧ Met (csH T h a fs.length num h.length) u' ∧ obsL s.obs 32 = some (1, .box [.d (intss T)]) ∧ obsL s.obs 224 = some (v3, .row (icells (z0 (csH T h a fs.length num h.length)))) ∧ obsL s.obs 240 = some (v, .row (icells fs)) ∧ obsL s.obs 928 = none ∧ lookL s.env 1 = some (.d (ints h)) ∧ lookL s.env 2 = some (.ptr 32 1 0) ∧ lookL s.env 6 = some (.own 224 v3) ∧ lookL s.env 7 = some (.own 240 v) ∧ lookL s.env 8 = some (.d (.int .i64 u')) ∧ lookL s.env 9 = some (.d (.int .i64 a)))
    (by show h.length < m; omega) ⟨st.g, v2, u, hu, by simp -implicitDefEqProofs (maxSteps := 3000000) [f, csH]⟩
    (by
      rintro j s hj ⟨g, v3, u', hu', rfl⟩
      have w2 := wrap_id (n := (j : Int) + 1) (by omega)
      have hr := H.2.1.1 j hj
      obtain ⟨b, hb⟩ := Int.eq_ofNat_of_zero_le hr.1
      have hbT : b < T.length := by omega
      have mc := mu_cl G.1 ha hbT
      have ra := (G.1.2 a ha).1
      have hs : csH T h a fs.length num (j + 1) = (csH T h a fs.length num j).set (mu T a b) fs.length := by rw [csH, hb]; rfl
      have hl : (csH T h a fs.length num j).length = T.length := by rw [csH_len, hnl]
      have w3 := wrap_id (n := (fs.length : Int)) (by omega)
      have hm2 := mc.2
      have hm1 := mc.1
      have hM := hu'.set (by omega) (b := mu T a b) (by omega) fs.length
      have hlt := hM.lt
      rw [hs, ← z0_set]
      have hzl := z0_len (csH T h a fs.length num j)
      generalize csH T h a fs.length num j = Q at *
      have hu8 := hu'.lt
      simp only [cl] at hm1
      generalize mu T a b = x at *
      have w4 := wrap_u64 (n := (x : Int)) (by omega)
      have e1 : min x 64 = x := by omega
      have hn0 : ¬ ((x : Int) < 0) := by omega
      have e2 : (2 : Int) ^ x = ((2 ^ x : Nat) : Int) := by simp -implicitDefEqProofs (maxSteps := 3000000)
      have hp : 2 ^ x < 256 := by have := Nat.pow_lt_pow_right (a := 2) (m := x) (n := 8) (by omega) (by omega); omega
      generalize 2 ^ x = p at *
      have w5 := wrap_id (n := (p : Int)) (by omega)
      have w6 := wrap_id (n := ((u' ||| p : Nat) : Int)) (by omega)
      have m1 := mod64 (q := u') (by omega)
      have m2 := mod64 (q := p) (by omega)
      simp -implicitDefEqProofs (maxSteps := 3000000) [hj, hb, ha, hbT, ra, w2, w3, hm1, hm2, hl, hzl, hn0, w4, b64, e1, e2, w5, w6, m1, m2]
      exact ⟨_, _, _, hM, ⟨rfl, rfl⟩, rfl, rfl⟩)
    (by
      rintro s ⟨g, v3, u', hu', rfl⟩
      simp -implicitDefEqProofs (maxSteps := 3000000)
      refine ⟨v3, u', hu', ?_⟩
      simp -implicitDefEqProofs (maxSteps := 3000000))
  obtain ⟨s, v3, u', rfl, hf⟩ := hqq
  exact ⟨s, v3, u', rfl, hf⟩
theorem ct_l01Cosets (n : Nat) (hn : B + 2 + 2 ≤ n) (T : List (List Int)) (h : List Int) (H : HGood T h) :
    evalCall Tryz.prog An n 187 [.agg [.d (intss T)], .d (ints h)] [] = some ⟨.tuple [.own 0 0, .own 1 0], [.row (icells (nums T h)), .row (icells (firsts T h))], []⟩ := by
  obtain ⟨m, rfl⟩ : ∃ m, n = m + 1 := ⟨n - 1, by omega⟩
  have hB := B_eq
  simp only [evalCall_at, fb187, bnd_some, bodyOf, Tryz.f187, Option.getD_some]
  generalize hb0 : Code.loop _ = cc0
  obtain rfl : cc0 = .loop (lp Tryz.f187 0) := by rw [← hb0]; rfl
  clear hb0
  have G := H.1
  have hT := G.1.1
  have c0 := ct_l01N m (by omega) T
  have w0 := wrap_id (n := (T.length : Int)) (by omega)
  have zn : z0 (nums T h) = nums T h := z0_id fun i hi => (nums_bd H i (by rw [nums_len] at hi; exact hi)).1
  have zi := z0_init T.length
  have hT' : (T.length : Int) ≤ 1099511627776 := by omega
  simp -implicitDefEqProofs (maxSteps := 3000000) [c0, w0, hT']
  generalize hx : loopC _ _ _ = x
  generalize hl : lp Tryz.f187 0 = L at hx
  simp only [lp, bodyOf, Tryz.f187, Option.getD_some, loopsIn, List.append_nil, List.nil_append, List.cons_append, List.getD, List.getElem?_cons_zero, List.getElem?_cons_succ] at hl
  subst hl
  generalize hb1 : Code.loop _ = cc1 at hx
  obtain rfl : cc1 = .loop (lp Tryz.f187 1) := by rw [← hb1]; rfl
  clear hb1
  obtain ⟨qq, rfl, hqq⟩ := loop_end hx T.length (fun a s => ∃ g v v2 u, Met (csN T h a).1 u ∧ s = ⟨[(1, .d (ints h)), (2, .ptr 32 1 0), (6, .own 224 v2), (7, .own 240 v), (8, .d (.int .i64 u)), (9, .d (.int .i64 a))], [(32, some (1, .box [.d (intss T)])), (224, some (v2, .row (icells (z0 (csN T h a).1)))), (240, some (v, .row (icells (csN T h a).2)))], g⟩)
    (fun qq => ∃ s v v2, qq = (.exit 0, s) ∧ obsL s.obs 240 = some (v, .row (icells (firsts T h))) ∧ obsL s.obs 224 = some (v2, .row (icells (nums T h))) ∧ lookL s.env 7 = some (.own 240 v) ∧ lookL s.env 6 = some (.own 224 v2))
    (by show T.length < m; omega) ⟨12, 7, 6, 0, Met.init T.length, by simp -implicitDefEqProofs (maxSteps := 3000000) [csN, zi]⟩
    (by
      rintro a s ha ⟨g, v, v2, u, hu, rfl⟩
      have w2 := wrap_id (n := (a : Int) + 1) (by omega)
      have hl := csN_len T h a
      have hf := csN_fst T h a
      have hb1 := lt_bound (n := (csN T h a).2.length) (by omega)
      have hb2 := le_bound (n := (csN T h a).2.length) (by omega)
      have e1 : csN T h (a + 1) = if 0 ≤ rn (csN T h a).1 a then csN T h a else (csH T h a (csN T h a).2.length (csN T h a).1 h.length, (csN T h a).2 ++ [(a : Int)]) := rfl
      generalize hQ : csN T h a = Q at *
      obtain ⟨num, fs⟩ := Q
      have hu8 := hu.lt
      have ht := hu.tb a
      have w3 := wrap_u64 (n := (a : Int)) (by omega)
      have q1 : min a 64 = a := by omega
      have q2 := fdiv_pow u a
      have q3 := tb u a
      have hn0 : ¬ ((a : Int) < 0) := by omega
      have hq : u / 2 ^ a ≤ u := Nat.div_le_self _ _
      generalize u / 2 ^ a = q at *
      have q4 := mod64 (q := q) (by omega)
      have z1 := wrap_id (n := 0) (by omega)
      have z2 := wrap_id (n := 1) (by omega)
      simp only at hl hf hb1 hb2 ht
      by_cases p : 0 ≤ rn num a
      · rw [if_pos p] at e1
        rw [e1]
        have q5 : q % 2 = 1 := by rw [ht.2 ⟨by omega, p⟩] at q3; exact of_decide_eq_true q3.symm
        simp -implicitDefEqProofs (maxSteps := 3000000) [c0, ha, hn0, w2, w3, b64, q1, q2, q4, q5, z1, z2]
        exact ⟨_, _, _, u, hu, ⟨rfl, rfl, rfl⟩, ⟨rfl, rfl⟩, rfl⟩
      · rw [if_neg p] at e1
        rw [e1]
        have q5 : q % 2 = 0 := by
          rcases Nat.mod_two_eq_zero_or_one q with z | z
          · exact z
          · exact absurd (ht.1 (by rw [q3]; exact decide_eq_true z)).2 p
        simp -implicitDefEqProofs (maxSteps := 3000000) [c0, ha, hn0, w2, w3, b64, q1, q2, q4, q5, z1, z2]
        generalize hy : loopC _ _ _ = y
        obtain ⟨s, v3, u', rfl, hM, hq⟩ := lp_l01Cosets_1 m (by omega) T h H a ha num fs hl (by omega) u hu hy (v := v) (v2 := v2) (by simp -implicitDefEqProofs (maxSteps := 3000000))
        simp -implicitDefEqProofs (maxSteps := 3000000) [c0, hq, w2, hb1, hb2]
        exact ⟨_, _, _, u', hM, ⟨rfl, rfl, rfl⟩, ⟨rfl, rfl⟩, rfl⟩)
    (by
      rintro s ⟨g, v, v2, u, hu, rfl⟩
      have zn2 : z0 (csN T h T.length).1 = (csN T h T.length).1 := zn
      simp -implicitDefEqProofs (maxSteps := 3000000) [c0, firsts, nums, zn2])
  obtain ⟨s, v, v2, rfl, hf⟩ := hqq
  simp -implicitDefEqProofs (maxSteps := 3000000) [hf]
end Go.Proofs.YtnfhglplafmfiaaGreatE
