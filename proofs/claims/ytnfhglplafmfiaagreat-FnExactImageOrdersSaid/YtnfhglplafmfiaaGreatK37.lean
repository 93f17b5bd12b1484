/- Contracts of functions of the program and of the reference: what the evaluator gives for a call of each. -/
import Derived.Test.YtnfhglplafmfiaaGreatAEf
import Derived.Test.YtnfhglplafmfiaaGreatK1M
import Derived.Test.YtnfhglplafmfiaaGreatK3M
import Derived.Test.YtnfhglplafmfiaaGreatK19
import Derived.Test.YtnfhglplafmfiaaGreatK24M
import Derived.Test.YtnfhglplafmfiaaGreatK26
import Derived.Test.YtnfhglplafmfiaaGreatK29M
import Derived.Test.YtnfhglplafmfiaaGreatK31
import Derived.Test.YtnfhglplafmfiaaGreatK33M
import Derived.Test.YtnfhglplafmfiaaGreatK36M
namespace Go.Proofs.YtnfhglplafmfiaaGreatE
open Go Go.Proofs
set_option maxHeartbeats 4000000
set_option maxRecDepth 4000
set_option linter.unusedSimpArgs false
set_option linter.unusedVariables false
set_option pp.deepTerms false
set_option pp.deepTerms.threshold 10
/-! ## the conjugate subgroup -/
noncomputable def cjL (T : List (List Int)) (h : List Int) (c i : Nat) : List Int := tabI (fun i => (cj T c (rn h i).toNat : Int)) i
theorem cjL_rg {T : List (List Int)} (G : IsGr T) {h : List Int} (hh : ∀ i < h.length, 0 ≤ rn h i ∧ rn h i < T.length) {c : Nat} (hc : c < T.length) : ∀ i < (cjL T h c h.length).length, 0 ≤ rn (cjL T h c h.length) i ∧ rn (cjL T h c h.length) i < T.length := fun i hi => by
  have hi' : i < h.length := by simpa [cjL] using hi
  have e : rn (cjL T h c h.length) i = (cj T c (rn h i).toNat : Int) := rn_tabI _ hi'
  have := cj_lt G hc (a := (rn h i).toNat) (by have := hh i hi'; omega)
  omega
theorem bitsA_tab (F : Nat → Int) (n : Nat) : ∀ i ≤ n, bitsA (tabI F n) i = bitsA (tabI F i) i
  | 0, _ => rfl
  | i + 1, h => by
    have e : ∀ j ≤ i, bitsA (tabI F (i + 1)) j = bitsA (tabI F n) j := by
      intro j
      induction j with
      | zero => intro _; rfl
      | succ j ih =>
        intro hj
        rw [bitsA, bitsA, ih (by omega), rn_tabI F (by omega), rn_tabI F (by omega)]
    rw [bitsA, bitsA, e i (Nat.le_refl i), rn_tabI F (by omega), rn_tabI F (by omega)]
theorem thoseL_pw (q : Nat → Bool) : ∀ n : Nat, (thoseL q n).Pairwise (· < ·)
  | 0 => by simp -implicitDefEqProofs (maxSteps := 3000000)
  | n + 1 => by
    rw [thoseL_succ, List.pairwise_append]
    refine ⟨thoseL_pw q n, by split <;> simp, fun x hx y hy => ?_⟩
    obtain ⟨a, h1, _, rfl⟩ := (mem_those q x n).1 hx
    split at hy
    · simp only [List.mem_singleton] at hy; subst hy; omega
    · simp -implicitDefEqProofs (maxSteps := 3000000) at hy
/-- The bits of a list of different small numbers, listed, are the list, sorted. -/
theorem sort_bits {X Y : List Int} (h : ∀ i < X.length, 0 ≤ rn X i ∧ rn X i < 8) (hY : Y.Pairwise (· < ·) ∧ ∀ z, z ∈ Y ↔ z ∈ X) : Y = bitL (bitsOf X) :=
  pw_ext _ _ hY.1 (thoseL_pw _ _) fun z => by
    rw [hY.2, mem_bitL]
    constructor
    · intro hz
      obtain ⟨i, hi, e⟩ := mem_rn.1 hz
      have := h i hi
      refine ⟨z.toNat, by omega, (bits_tb h _).2 ?_, by omega⟩
      rwa [Int.toNat_of_nonneg (by omega)]
    · rintro ⟨a, _, h1, rfl⟩
      exact (bits_tb h a).1 h1
noncomputable def conjL (T : List (List Int)) (h : List Int) (c : Nat) : List Int := bitL (bitsOf (cjL T h c h.length))
theorem ct_l07Conjugate (n : Nat) (hn : B + 4 ≤ n) (T : List (List Int)) (G : IsGr T) (h : List Int) (hl : h.length ≤ 10000000) (hh : ∀ i < h.length, 0 ≤ rn h i ∧ rn h i < T.length) (c : Nat) (hc : c < T.length) :
    evalCall Tryz.prog An n 129 [.agg [.d (intss T)], .d (ints h), .d (.int .i64 c)] [] = some ⟨.own 0 0, [.row (icells (conjL T h c))], []⟩ := by
  obtain ⟨m, rfl⟩ : ∃ m, n = m + 1 := ⟨n - 1, by omega⟩
  have hB := B_eq
  simp only [evalCall_at, fb129, bnd_some, bodyOf, Tryz.f129, Option.getD_some]
  generalize hb0 : Code.loop _ = cc0
  obtain rfl : cc0 = .loop (lp Tryz.f129 0) := by rw [← hb0]; rfl
  clear hb0
  have hN := G.1.1
  have hr := cjL_rg G hh hc
  have hr8 : ∀ i < (cjL T h c h.length).length, 0 ≤ rn (cjL T h c h.length) i ∧ rn (cjL T h c h.length) i < 8 := fun i hi => by have := hr i hi; omega
  have hlen : (cjL T h c h.length).length = h.length := by simp -implicitDefEqProofs (maxSteps := 3000000) [cjL]
  simp -implicitDefEqProofs (maxSteps := 3000000)
  generalize hx : loopC _ _ _ = x
  generalize hl : lp Tryz.f129 0 = L at hx
  simp only [lp, bodyOf, Tryz.f129, Option.getD_some, loopsIn, List.append_nil, List.nil_append, List.cons_append, List.getD, List.getElem?_cons_zero, List.getElem?_cons_succ] at hl
  subst hl
  obtain ⟨qq, rfl, hqq⟩ := loop_end hx (h.length) (fun i s => ∃ g, s = ⟨[(1, .d (ints h)), (2, .d (.int .i64 c)), (3, .ptr 48 1 0), (7, .d (.int .i64 (bitsA (cjL T h c h.length) i))), (8, .d (.int .i64 i))], [(48, some (1, .box [.d (intss T)]))], g⟩)
    (fun qq => ∃ s, qq = (.exit 0, s) ∧ lookL s.env 1 = some (.d (ints h)) ∧ lookL s.env 2 = some (.d (.int .i64 c)) ∧ lookL s.env 3 = some (.ptr 48 1 0) ∧ lookL s.env 7 = some (.d (.int .i64 (bitsA (cjL T h c h.length) (h.length)))) ∧ lookL s.env 8 = some (.d (.int .i64 (h.length))) ∧ obsL s.obs 48 = some (1, .box [.d (intss T)]))
    (by show h.length < m; omega) (by
      simp -implicitDefEqProofs (maxSteps := 3000000) [bitsA])
    (by
      rintro i s hi ⟨g, rfl⟩
      have w2 := wrap_id (n := (i : Int) + 1) (by omega)
      have h1 := hh i hi
      obtain ⟨y, hy⟩ := Int.eq_ofNat_of_zero_le h1.1
      have hyT : y < T.length := by omega
      have hb := bitsA_lt hr8 i (by omega)
      have hb2 := bitsA_lt hr8 (i + 1) (by omega)
      have hx8 : cj T c y < 8 := by have := cj_lt G hc hyT; omega
      have c1 := ct_l01Conjugate m (by omega) T G y c hyT hc
      have ex : rn (cjL T h c h.length) i = (cj T c y : Int) := by
        have : rn (cjL T h c h.length) i = (cj T c (rn h i).toNat : Int) := rn_tabI _ hi
        rw [this, hy, Int.toNat_natCast]
      have e0 : bitsA (cjL T h c h.length) (i + 1) = bitsA (cjL T h c h.length) i ||| 2 ^ (cj T c y) := by rw [bitsA, ex]; rfl
      generalize cj T c y = x at *
      rw [e0] at hb2
      have w3 := wrap_u64 (n := (x : Int)) (by omega)
      have e1 : min x 64 = x := by omega
      have hn0 : ¬ ((x : Int) < 0) := by omega
      have e2 : (2 : Int) ^ x = ((2 ^ x : Nat) : Int) := by simp -implicitDefEqProofs (maxSteps := 3000000)
      have hp : 2 ^ x < 256 := by have := Nat.pow_lt_pow_right (a := 2) (by omega) hx8; omega
      rw [e0]
      generalize 2 ^ x = p at *
      generalize bitsA (cjL T h c h.length) i = s at *
      have w4 := wrap_id (n := (p : Int)) (by omega)
      have w5 := wrap_id (n := ((s ||| p : Nat) : Int)) (by omega)
      have m1 := mod64 (q := s) (by omega)
      have m2 := mod64 (q := p) (by omega)
      simp -implicitDefEqProofs (maxSteps := 3000000) [hi, hy, c1, hn0, w2, w3, b64, e1, e2, w4, w5, m1, m2])
    (by
      rintro s ⟨g, rfl⟩
      simp -implicitDefEqProofs (maxSteps := 3000000))
  obtain ⟨s, rfl, hf⟩ := hqq
  have hb := bitsA_lt hr8 h.length (by omega)
  have c2 := ct_l01List m (by omega) _ hb
  have e : bitsA (cjL T h c h.length) h.length = bitsOf (cjL T h c h.length) := by rw [bitsOf, hlen]
  rw [e] at c2
  simp -implicitDefEqProofs (maxSteps := 3000000) [hf, c2, e, conjL]
theorem ct_conjugated1 (n : Nat) (hn : B + 4 ≤ n) (T : List (List Int)) (G : IsGr T) (c a : Nat) (hc : c < T.length) (ha : a < T.length) :
    evalCall Tryz.prog An n 206 [.d (.int .i64 a), .d (.cellp [intss T]), .d (.cellp [.int .i64 c])] [] = some ⟨.d (.int .i64 (cj T c a)), [], []⟩ := by
  obtain ⟨m, rfl⟩ : ∃ m, n = m + 1 := ⟨n - 1, by omega⟩
  have hB := B_eq
  simp only [evalCall_at, fb206, bnd_some, bodyOf, Tryz.f206, Option.getD_some]
  have c1 := ct_conjugate m (by omega) T G c a hc ha
  simp -implicitDefEqProofs (maxSteps := 3000000) [c1]
/-- A row of images. -/
theorem ct_mapped (n : Nat) (hn : B + 2 ≤ n) (l : List Int) (hl : l.length ≤ 10000000) (c : Nat) (b : List YtnfhglplafmfiaaGreatE.D) (F : Nat → Int) (L : Nat) (hL : L + 1 ≤ n)
    (hF : ∀ m, L ≤ m → ∀ i < l.length, evalCall Tryz.prog An m c (.d (.int .i64 (rn l i)) :: b.map ofD) [] = some ⟨.d (.int .i64 (F i)), [], []⟩) (hc : c ∉ An.lend) :
    evalCall Tryz.prog An n 139 [.d (ints l), .d (.clo c [] b)] [] = some ⟨.own 0 0, [.row (icells (tabI F l.length))], []⟩ := by
  obtain ⟨m, rfl⟩ : ∃ m, n = m + 1 := ⟨n - 1, by omega⟩
  have hB := B_eq
  simp only [evalCall_at, fb139, bnd_some, bodyOf, Tryz.f139, Option.getD_some]
  generalize hb0 : Code.loop _ = cc0
  obtain rfl : cc0 = .loop (lp Tryz.f139 0) := by rw [← hb0]; rfl
  clear hb0
  simp -implicitDefEqProofs (maxSteps := 3000000) at hc
  simp -implicitDefEqProofs (maxSteps := 3000000)
  generalize hx : loopC _ _ _ = x
  generalize hl : lp Tryz.f139 0 = L at hx
  simp only [lp, bodyOf, Tryz.f139, Option.getD_some, loopsIn, List.append_nil, List.nil_append, List.cons_append, List.getD, List.getElem?_cons_zero, List.getElem?_cons_succ] at hl
  subst hl
  obtain ⟨qq, rfl, hqq⟩ := loop_end hx (l.length) (fun i s => ∃ g v, s = ⟨[(1, .d (.clo c [] b)), (5, .own 128 v), (9, .d (ints l)), (10, .d (.int .i64 l.length)), (11, .d (.int .i64 i))], [(128, some (v, .row (icells (tabI F i))))], g⟩)
    (fun qq => ∃ s v, qq = (.exit 0, s) ∧ lookL s.env 1 = some (.d (.clo c [] b)) ∧ lookL s.env 5 = some (.own 128 v) ∧ lookL s.env 9 = some (.d (ints l)) ∧ lookL s.env 10 = some (.d (.int .i64 l.length)) ∧ lookL s.env 11 = some (.d (.int .i64 (l.length))) ∧ obsL s.obs 128 = some (v, .row (icells (tabI F (l.length)))))
    (by show l.length < m; omega) (by
      simp -implicitDefEqProofs (maxSteps := 3000000))
    (by
      rintro i s hi ⟨g, v, rfl⟩
      have w2 := wrap_id (n := (i : Int) + 1) (by omega)
      have c1 := hF m (by omega) i hi
      have hs := tabI_succ F i
      have hl1 := lt_bound (n := i) (by omega)
      have hl2 := le_bound (n := i) (by omega)
      simp -implicitDefEqProofs (maxSteps := 3000000) [hi, w2, c1, hc, hs, hl1, hl2])
    (by
      rintro s ⟨g, v, rfl⟩
      simp -implicitDefEqProofs (maxSteps := 3000000))
  obtain ⟨s, v, rfl, hf⟩ := hqq
  simp -implicitDefEqProofs (maxSteps := 3000000) [hf]
theorem cjL_nodup {T : List (List Int)} (G : IsGr T) {h : List Int} (hS : SetOk T h) {c : Nat} (hc : c < T.length) : (cjL T h c h.length).Nodup := by
  have hh : ∀ i < h.length, 0 ≤ rn h i ∧ rn h i < T.length := hS.1
  have hd := setOk_nodup hS
  unfold cjL tabI
  rw [List.nodup_iff_pairwise_ne] at hd ⊢
  rw [List.pairwise_map]
  refine List.Pairwise.imp_of_mem ?_ List.pairwise_lt_range
  intro a b ha hb hab e
  rw [List.mem_range] at ha hb
  have h1 := hh a ha
  have h2 := hh b hb
  have h3 := cj_inj G hc (a := (rn h a).toNat) (b := (rn h b).toNat) (by omega) (by omega) (by omega)
  have h4 : rn h a = rn h b := by omega
  rw [List.pairwise_iff_getElem] at hd
  exact hd a b ha hb hab (by rw [rn_get ha, rn_get hb] at h4; exact h4)
theorem ct_conjugated (n : Nat) (hn : B + 9 ≤ n) (T : List (List Int)) (G : IsGr T) (h : List Int) (hS : SetOk T h) (c : Nat) (hc : c < T.length) :
    evalCall Tryz.prog An n 126 [.agg [.d (intss T)], .d (ints h), .d (.int .i64 c)] [] = some ⟨.own 0 0, [.row (icells (conjL T h c))], []⟩ := by
  obtain ⟨m, rfl⟩ : ∃ m, n = m + 1 := ⟨n - 1, by omega⟩
  have hB := B_eq
  simp only [evalCall_at, fb126, bnd_some, bodyOf, Tryz.f126, Option.getD_some]
  have hN := G.1.1
  have hh : ∀ i < h.length, 0 ≤ rn h i ∧ rn h i < T.length := hS.1
  have hlen := setOk_len hS
  have hr := cjL_rg G hh hc
  have hr8 : ∀ i < (cjL T h c h.length).length, 0 ≤ rn (cjL T h c h.length) i ∧ rn (cjL T h c h.length) i < 8 := fun i hi => by have := hr i hi; omega
  have hl8 : (cjL T h c h.length).length ≤ 12 := by simp -implicitDefEqProofs (maxSteps := 3000000) [cjL]; omega
  have c1 := ct_mapped m (by omega) h (by omega) 206 [.cellp [intss T], .cellp [.int .i64 c]] (fun i => (cj T c (rn h i).toNat : Int)) (B + 4) (by omega)
    (fun m hm i hi => by
      have h1 := hh i hi
      have := ct_conjugated1 m hm T G c (rn h i).toNat hc (by omega)
      rw [Int.toNat_of_nonneg h1.1] at this
      simpa [Int.toNat_of_nonneg h1.1] using this) (by simp -implicitDefEqProofs (maxSteps := 3000000))
  obtain ⟨Y, ⟨y1, y2, y3⟩, c2⟩ := ct_Sort m (by omega) (cjL T h c h.length) hl8
  have e := sort_bits hr8 (sort_asc (cjL_nodup G hS hc) y1 y2 y3)
  rw [e] at c2
  simp only [cjL] at c2
  have e2 : conjL T h c = bitL (bitsOf (tabI (fun i => (cj T c (rn h i).toNat : Int)) h.length)) := rfl
  simp -implicitDefEqProofs (maxSteps := 3000000) [c1, c2, e2]
end Go.Proofs.YtnfhglplafmfiaaGreatE
