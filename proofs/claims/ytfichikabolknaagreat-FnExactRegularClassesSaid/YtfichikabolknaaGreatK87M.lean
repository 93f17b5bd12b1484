/- Contracts of functions of the program and of the reference: what the evaluator gives for a call of each. -/
import Derived.Test.YtfichikabolknaaGreatAEf
import Derived.Test.YtfichikabolknaaGreatK0
import Derived.Test.YtfichikabolknaaGreatK3
import Derived.Test.YtfichikabolknaaGreatK17
import Derived.Test.YtfichikabolknaaGreatK19
import Derived.Test.YtfichikabolknaaGreatK20
import Derived.Test.YtfichikabolknaaGreatK21
import Derived.Test.YtfichikabolknaaGreatK24
import Derived.Test.YtfichikabolknaaGreatK25
import Derived.Test.YtfichikabolknaaGreatK28
import Derived.Test.YtfichikabolknaaGreatK29
import Derived.Test.YtfichikabolknaaGreatK30
import Derived.Test.YtfichikabolknaaGreatK34
import Derived.Test.YtfichikabolknaaGreatK36
import Derived.Test.YtfichikabolknaaGreatK37
import Derived.Test.YtfichikabolknaaGreatK51
import Derived.Test.YtfichikabolknaaGreatK83
import Derived.Test.YtfichikabolknaaGreatK7
import Derived.Test.YtfichikabolknaaGreatK33
import Derived.Test.YtfichikabolknaaGreatK40
namespace Go.Proofs.YtfichikabolknaaGreatE
open Go Go.Proofs
set_option maxHeartbeats 4000000
set_option maxRecDepth 4000
set_option linter.unusedSimpArgs false
set_option linter.unusedVariables false
set_option pp.deepTerms false
set_option pp.deepTerms.threshold 10
/-! ## classes of regular elements, the reference's way -/
noncomputable def obits (T : List (List Int)) (a : Nat) : Nat → Nat
  | 0 => 0
  | k + 1 => obits T a k ||| 2 ^ (cj T k a)
theorem obits_lt {T : List (List Int)} (G : IsGr T) (h8 : T.length ≤ 8) {a : Nat} (ha : a < T.length) : ∀ k ≤ T.length, obits T a k < 256
  | 0, _ => by simp -implicitDefEqProofs (maxSteps := 3000000) [obits]
  | k + 1, hk => by
    have h1 := cj_lt G (show k < T.length by omega) ha
    have h2 : 2 ^ (cj T k a) < 2 ^ 8 := Nat.pow_lt_pow_right (by omega) (by omega)
    exact Nat.or_lt_two_pow (n := 8) (obits_lt G h8 ha k (by omega)) h2
theorem obits_tb {T : List (List Int)} (a b : Nat) : ∀ k, ((obits T a k).testBit b = true ↔ ∃ c < k, cj T c a = b)
  | 0 => by simp -implicitDefEqProofs (maxSteps := 3000000) [obits]
  | k + 1 => by
    rw [obits, or_tb, obits_tb a b k]
    constructor
    · rintro (⟨c, h1, h2⟩ | h)
      · exact ⟨c, by omega, h2⟩
      · exact ⟨k, by omega, h.symm⟩
    · rintro ⟨c, h1, h2⟩
      by_cases e : c = k
      · right; subst e; exact h2.symm
      · left; exact ⟨c, by omega, h2⟩
theorem obits_cl {T : List (List Int)} (G : IsGr T) (h8 : T.length ≤ 8) {a : Nat} (ha : a < T.length) : bitL (obits T a T.length) = clsL T a := by
  have key : ∀ b, (obits T a T.length).testBit b = bl (cjQ T a b) := by
    intro b
    by_cases h : cjQ T a b
    · rw [bl_true h]; exact (obits_tb a b _).2 h
    · rw [bl_false h]
      cases e : (obits T a T.length).testBit b with
      | false => rfl
      | true => exact absurd ((obits_tb a b _).1 e) h
  have ext : ∀ k, T.length ≤ k → thoseL (fun b => bl (cjQ T a b)) k = thoseL (fun b => bl (cjQ T a b)) T.length := by
    intro k hk
    induction k with
    | zero => have : T.length = 0 := by omega
              rw [this]
    | succ k ih =>
      by_cases e : T.length = k + 1
      · rw [e]
      · rw [thoseL_succ, ih (by omega)]
        have : bl (cjQ T a k) = false := bl_false fun h => by have := cjQ_lt G ha h; omega
        rw [this]; simp -implicitDefEqProofs (maxSteps := 3000000)
  unfold bitL clsL
  rw [show (fun b => (obits T a T.length).testBit b) = fun b => bl (cjQ T a b) from funext key]
  exact ext 8 h8
noncomputable def met (T : List (List Int)) (L : List Int) : Nat → Nat
  | 0 => 0
  | i + 1 => if bl (Lst T (rn L i).toNat) = true then met T L i ||| obits T (rn L i).toNat T.length else met T L i
noncomputable def rcl (T : List (List Int)) (L : List Int) : Nat → List (List Int)
  | 0 => []
  | i + 1 => if bl (Lst T (rn L i).toNat) = true then rcl T L i ++ [clsL T (rn L i).toNat] else rcl T L i
theorem rcl_len (T : List (List Int)) (L : List Int) : ∀ i, (rcl T L i).length ≤ i
  | 0 => by simp -implicitDefEqProofs (maxSteps := 3000000) [rcl]
  | i + 1 => by
    have := rcl_len T L i
    unfold rcl
    split <;> simp <;> omega
theorem met_lt {T : List (List Int)} (G : IsGr T) (h8 : T.length ≤ 8) {L : List Int} (hL : ∀ i < L.length, 0 ≤ rn L i ∧ rn L i < T.length) : ∀ i ≤ L.length, met T L i < 256
  | 0, _ => by simp -implicitDefEqProofs (maxSteps := 3000000) [met]
  | i + 1, hi => by
    have h1 := met_lt G h8 hL i (by omega)
    have h2 := hL i (by omega)
    unfold met
    split
    · exact Nat.or_lt_two_pow (n := 8) h1 (obits_lt G h8 (by omega) _ (Nat.le_refl _))
    · exact h1
theorem met_tb {T : List (List Int)} (L : List Int) (b : Nat) : ∀ i, ((met T L i).testBit b = true ↔ ∃ j < i, Lst T (rn L j).toNat ∧ cjQ T (rn L j).toNat b)
  | 0 => by simp -implicitDefEqProofs (maxSteps := 3000000) [met]
  | i + 1 => by
    have ih := met_tb (T := T) L b i
    unfold met
    split
    · rename_i h
      rw [Nat.testBit_or, Bool.or_eq_true, ih, obits_tb]
      constructor
      · rintro (⟨j, h1, h2⟩ | h1)
        · exact ⟨j, by omega, h2⟩
        · exact ⟨i, by omega, of_bl h, h1⟩
      · rintro ⟨j, h1, h2, h3⟩
        by_cases e : j = i
        · right; subst e; exact h3
        · left; exact ⟨j, by omega, h2, h3⟩
    · rename_i h
      rw [ih]
      constructor
      · rintro ⟨j, h1, h2⟩; exact ⟨j, by omega, h2⟩
      · rintro ⟨j, h1, h2, h3⟩
        have : j ≠ i := fun e => h (by subst e; exact bl_true h2)
        exact ⟨j, by omega, h2, h3⟩
theorem cjQ_reg {T : List (List Int)} {M : Int} {V : List Int} (S : FOk T M V) (hcy : IsCy T M (trU T) V 2) {a b : Nat} (ha : a < T.length) (h : cjQ T a b) (hr : regQ T M V a = true) : regQ T M V b = true := by
  have G := S.G
  obtain ⟨c, hc, rfl⟩ := h
  have hr := of_bl hr
  refine bl_true fun y hy => ?_
  obtain ⟨i1, i2, i3⟩ := inv_spec G hc
  -- y is the image of y'
  have hy' := cj_lt G i1 hy
  have e : cj T c (cj T (inv T c) y) = y := by
    rw [cj_comp G hc i1 hy, i2, cj_one G hy]
  have h1 := hr _ hy'
  have hx := cj_lt G hc ha
  unfold fe at h1 ⊢
  by_cases q : cl T (cj T c a) y = cl T y (cj T c a)
  · rw [if_pos q]
    have q2 : mu T (cj T c a) y = mu T y (cj T c a) := by
      have := q
      rw [(mu_cl G.1 hx hy).1, (mu_cl G.1 hy hx).1] at this
      omega
    have q3 : mu T a (cj T (inv T c) y) = mu T (cj T (inv T c) y) a := by
      have h2 := congrArg (cj T (inv T c)) q2
      rw [← cj_mu G i1 hx hy, ← cj_mu G i1 hy hx, cj_back G hc ha] at h2
      exact h2
    have q4 : cl T a (cj T (inv T c) y) = cl T (cj T (inv T c) y) a := by
      rw [(mu_cl G.1 ha hy').1, (mu_cl G.1 hy' ha).1, q3]
    rw [if_pos q4] at h1
    have := frm_cj S hcy hc ha hy' q3
    rw [e] at this
    rw [this]; exact h1
  · rw [if_neg q]; omega
theorem lst_ex {T : List (List Int)} (G : IsGr T) : ∀ (k x : Nat), x < k → x < T.length → ∃ z, cjQ T z x ∧ Lst T z ∧ z ≤ x ∧ z < T.length
  | 0, x, h, _ => by omega
  | k + 1, x, h, hx => by
    by_cases L : Lst T x
    · exact ⟨x, cjQ_refl G hx, L, Nat.le_refl _, hx⟩
    · have : ∃ b, b < x ∧ cjQ T b x := by
        refine Classical.byContradiction fun hn => L fun b hb hq => hn ⟨b, hb, hq⟩
      obtain ⟨b, hb, hq⟩ := this
      obtain ⟨z, h1, h2, h3, h4⟩ := lst_ex G k b (by omega) (by omega)
      exact ⟨z, cjQ_trans G h4 h1 hq, h2, by omega, h4⟩
/-- An element is met exactly if it is not the least one of its class. -/
theorem met_iff {T : List (List Int)} {M : Int} {V : List Int} (S : FOk T M V) (hcy : IsCy T M (trU T) V 2) {i : Nat} (hi : i < (regL T M V).length) :
    (met T (regL T M V) i).testBit (rn (regL T M V) i).toNat = true ↔ ¬ Lst T (rn (regL T M V) i).toNat := by
  have G := S.G
  have elem : ∀ j < (regL T M V).length, ∃ x : Nat, x < T.length ∧ regQ T M V x = true ∧ rn (regL T M V) j = (x : Int) := by
    intro j hj
    obtain ⟨a, h1, h2, h3⟩ := (mem_those _ _ _).1 (mem_rn.2 ⟨j, hj, rfl⟩ : rn (regL T M V) j ∈ regL T M V)
    exact ⟨a, h1, h2, h3⟩
  have pw := thoseL_pw (regQ T M V) T.length
  have lt : ∀ j k, j < k → k < (regL T M V).length → rn (regL T M V) j < rn (regL T M V) k := by
    intro j k hjk hk
    have := List.pairwise_iff_getElem.1 pw j k (by unfold regL at hk; omega) hk hjk
    rw [rn_get (show j < (regL T M V).length by omega), rn_get hk]
    exact this
  rw [met_tb]
  obtain ⟨x, hx, hxr, ex⟩ := elem i hi
  rw [ex, Int.toNat_natCast]
  constructor
  · rintro ⟨j, hj, h1, h2⟩ L
    obtain ⟨y, hy, _, ey⟩ := elem j (by omega)
    rw [ey, Int.toNat_natCast] at h2
    have := lt j i hj hi
    exact L y (by omega) h2
  · intro hL
    obtain ⟨z, h1, h2, h3, h4⟩ := lst_ex G (x + 1) x (by omega) hx
    have hne : z ≠ x := fun e => hL (e ▸ h2)
    have hz : (z : Int) ∈ regL T M V := (mem_those _ _ _).2 ⟨z, h4, cjQ_reg S hcy hx (cjQ_symm G h4 h1) hxr, rfl⟩
    obtain ⟨j, hj, ej⟩ := mem_rn.1 hz
    refine ⟨j, ?_, by rw [ej]; exact h2, by rw [ej]; exact h1⟩
    rcases Nat.lt_trichotomy j i with c | c | c
    · exact c
    · subst c; omega
    · have := lt i j c hj; omega
theorem lp_sRC_1 (m : Nat) (hm : B + 3 + 1 ≤ m) (T : List (List Int)) (G : IsGr T) (h8 : T.length ≤ 8) (L : List Int) (i : Nat) (hi : i < L.length) (a : Nat) (ha : a < T.length) (ea : rn L i = (a : Int)) (u : Nat) (X : List (List Int))
    {st : St} {o : Option (Ex × St)} (hx : loopC (cxAt 51 m) (lp Tryz.f51 1) st = o) {v w : Nat}
    (f : obsL st.obs 48 = some (1, .box [.d (intss T)]) ∧ obsL st.obs 80 = none ∧ obsL st.obs 400 = some (w, .row (icells L)) ∧ obsL st.obs 401 = none ∧ obsL st.obs 402 = none ∧ obsL st.obs 403 = none ∧ obsL st.obs 416 = some (v, .mat true (mcells X)) ∧ obsL st.obs 1056 = none ∧ lookL st.env 3 = some (.ptr 48 1 0) ∧ lookL st.env 9 = some (.own 400 w) ∧ lookL st.env 10 = some (.d (.int .i64 u)) ∧ lookL st.env 11 = some (.own 416 v) ∧ lookL st.env 12 = some (.d (.int .i64 i)) ∧ lookL st.env 13 = some (.d (.int .i64 0)) ∧ lookL st.env 14 = some (.d (.int .i64 0))) :
    ∃ s, o = some (.exit 2, s) ∧ obsL s.obs 48 = some (1, .box [.d (intss T)]) ∧ obsL s.obs 80 = none ∧ obsL s.obs 400 = some (w, .row (icells L)) ∧ obsL s.obs 401 = none ∧ obsL s.obs 402 = none ∧ obsL s.obs 403 = none ∧ obsL s.obs 416 = some (v, .mat true (mcells X)) ∧ obsL s.obs 1056 = none ∧ lookL s.env 3 = some (.ptr 48 1 0) ∧ lookL s.env 9 = some (.own 400 w) ∧ lookL s.env 10 = some (.d (.int .i64 u)) ∧ lookL s.env 11 = some (.own 416 v) ∧ lookL s.env 12 = some (.d (.int .i64 i)) ∧ lookL s.env 13 = some (.d (.int .i64 (obits T a T.length))) := by
  have hB := B_eq
  have c0 := ct_l01N m (by omega) T
  generalize hl : lp Tryz.f51 1 = L at hx
  simp only [lp, bodyOf, Tryz.f51, Option.getD_some, loopsIn, List.append_nil, List.nil_append, List.cons_append, List.getD, List.getElem?_cons_zero, List.getElem?_cons_succ] at hl
  subst hl
  obtain ⟨qq, rfl, hqq⟩ := loop_end hx T.length (fun k s => ∃ g, s = ⟨[(3, .ptr 48 1 0), (9, .own 400 w), (10, .d (.int .i64 u)), (11, .own 416 v), (12, .d (.int .i64 i)), (13, .d (.int .i64 (obits T a k))), (14, .d (.int .i64 k))], [(48, some (1, .box [.d (intss T)])), (400, some (w, .row (icells L))), (416, some (v, .mat true (mcells X)))], g⟩)
    (fun qq => ∃ s, qq = (.exit 2, s) ∧ obsL s.obs 48 = some (1, .box [.d (intss T)]) ∧ obsL s.obs 80 = none ∧ obsL s.obs 400 = some (w, .row (icells L)) ∧ obsL s.obs 401 = none ∧ obsL s.obs 402 = none ∧ obsL s.obs 403 = none ∧ obsL s.obs 416 = some (v, .mat true (mcells X)) ∧ obsL s.obs 1056 = none ∧ lookL s.env 3 = some (.ptr 48 1 0) ∧ lookL s.env 9 = some (.own 400 w) ∧ lookL s.env 10 = some (.d (.int .i64 u)) ∧ lookL s.env 11 = some (.own 416 v) ∧ lookL s.env 12 = some (.d (.int .i64 i)) ∧ lookL s.env 13 = some (.d (.int .i64 (obits T a T.length))))
    (by show T.length < m; omega) (by simp -implicitDefEqProofs (maxSteps := 3000000) [f, obits])
    (by
      rintro k s hk ⟨g, rfl⟩
      have w2 := wrap_id (n := (k : Int) + 1) (by omega)
      have c1 := ct_l01Conjugate m (by omega) T G a k ha hk
      have hb := obits_lt G h8 ha k (by omega)
      have hb2 := obits_lt G h8 ha (k + 1) (by omega)
      have hlt := cj_lt G hk ha
      have e0 : obits T a (k + 1) = obits T a k ||| 2 ^ (cj T k a) := rfl
      rw [e0] at hb2 ⊢
      generalize cj T k a = x at *
      have w3 := wrap_u64 (n := (x : Int)) (by omega)
      have e1 : min x 64 = x := by omega
      have hn0 : ¬ ((x : Int) < 0) := by omega
      have e2 : (2 : Int) ^ x = ((2 ^ x : Nat) : Int) := by simp -implicitDefEqProofs (maxSteps := 3000000)
      have hp : 2 ^ x < 256 := by have := Nat.pow_lt_pow_right (a := 2) (by omega) (show x < 8 by omega); omega
      generalize 2 ^ x = p at *
      generalize obits T a k = s at *
      have w4 := wrap_id (n := (p : Int)) (by omega)
      have w5 := wrap_id (n := ((s ||| p : Nat) : Int)) (by omega)
      have m1 := mod64 (q := s) (by omega)
      have m2 := mod64 (q := p) (by omega)
      simp -implicitDefEqProofs (maxSteps := 3000000) [hk, hi, ea, c0, c1, hn0, w2, w3, b64, e1, e2, w4, w5, m1, m2])
    (by
      rintro s ⟨g, rfl⟩
      simp -implicitDefEqProofs (maxSteps := 3000000) [c0])
  obtain ⟨s, rfl, hf⟩ := hqq
  exact ⟨s, rfl, hf⟩
theorem ct_specRC_bad (n : Nat) (hn : B + 6 ≤ n) (T : List (List Int)) (hT : T.length ≤ 2000000) (M D : Int) (V : List Int) (hV : V.length ≤ 10000000) (h : ¬ SGood T M D V) :
    evalCall Tryz.prog An n 51 [.agg [.d (intss T)], .d (.int .i64 M), .agg [.d (.int .i64 D), .d (ints V)]] [] = some ⟨.tuple [.d .nil, .d (.int .i64 (scode T M D V))], [], []⟩ := by
  obtain ⟨m, rfl⟩ : ∃ m, n = m + 1 := ⟨n - 1, by omega⟩
  have hB := B_eq
  simp only [evalCall_at, fb51, bnd_some, bodyOf, Tryz.f51, Option.getD_some]
  generalize hb0 : Code.loop _ = cc0
  obtain rfl : cc0 = .loop (lp Tryz.f51 0) := by rw [← hb0]; rfl
  clear hb0
  have c := ct_l10Given m (by omega) T hT M D V hV
  have h2 := scode_ne h
  have h3 := bne_t h2
  simp -implicitDefEqProofs (maxSteps := 3000000) [c, h2, h3]
theorem ct_specRC (n : Nat) (hn : B + 6 + 6 ≤ n) (T : List (List Int)) (M D : Int) (V : List Int) (hV : V.length ≤ 10000000) (h : SGood T M D V) :
    evalCall Tryz.prog An n 51 [.agg [.d (intss T)], .d (.int .i64 M), .agg [.d (.int .i64 D), .d (ints V)]] [] = some ⟨.tuple [.own 0 0, .d (.int .i64 0)], [.mat false (mcells (rcl T (regL T M V) (regL T M V).length))], []⟩ := by
  obtain ⟨m, rfl⟩ : ∃ m, n = m + 1 := ⟨n - 1, by omega⟩
  have hB := B_eq
  simp only [evalCall_at, fb51, bnd_some, bodyOf, Tryz.f51, Option.getD_some]
  generalize hb0 : Code.loop _ = cc0
  obtain rfl : cc0 = .loop (lp Tryz.f51 0) := by rw [← hb0]; rfl
  clear hb0
  have S := h.fok
  have G := S.G
  have hT := G.1.1
  have h8 : T.length ≤ 8 := hT.2
  have c1 := ct_l10Given m (by omega) T (by omega) M D V hV
  rw [scode_0 h] at c1
  have hcy := h.2.2.2.2
  have hD : D = 2 := h.2.2.2.1
  subst hD
  have c2 := ct_l10Regular m (by omega) T M V S
  have hlen := regL_le T M V
  have elem : ∀ j < (regL T M V).length, ∃ x : Nat, x < T.length ∧ rn (regL T M V) j = (x : Int) := by
    intro j hj
    obtain ⟨a, h1, h2, h3⟩ := (mem_those _ _ _).1 (mem_rn.2 ⟨j, hj, rfl⟩ : rn (regL T M V) j ∈ regL T M V)
    exact ⟨a, h1, h3⟩
  have mi := fun {i : Nat} (hi : i < (regL T M V).length) => met_iff S hcy hi
  simp -implicitDefEqProofs (maxSteps := 3000000) [c1, c2]
  generalize hL : regL T M V = L at *
  have hml := met_lt G h8 (L := L) (fun i hi => by obtain ⟨x, h1, h2⟩ := elem i hi; omega)
  generalize hx : loopC _ _ _ = x
  generalize hl : lp Tryz.f51 0 = L at hx
  simp only [lp, bodyOf, Tryz.f51, Option.getD_some, loopsIn, List.append_nil, List.nil_append, List.cons_append, List.getD, List.getElem?_cons_zero, List.getElem?_cons_succ] at hl
  subst hl
  generalize hb1 : Code.loop _ = cc1 at hx
  obtain rfl : cc1 = .loop (lp Tryz.f51 1) := by rw [← hb1]; rfl
  clear hb1
  obtain ⟨qq, rfl, hqq⟩ := loop_end hx (L.length) (fun i s => ∃ g v w, s = ⟨[(3, .ptr 48 1 0), (9, .own 400 w), (10, .d (.int .i64 (met T L i))), (11, .own 416 v), (12, .d (.int .i64 i))], [(48, some (1, .box [.d (intss T)])), (400, some (w, .row (icells L))), (416, some (v, .mat true (mcells (rcl T L i))))], g⟩)
    (fun qq => ∃ s v w, qq = (.exit 0, s) ∧ lookL s.env 3 = some (.ptr 48 1 0) ∧ lookL s.env 9 = some (.own 400 w) ∧ lookL s.env 10 = some (.d (.int .i64 (met T L (L.length)))) ∧ lookL s.env 11 = some (.own 416 v) ∧ lookL s.env 12 = some (.d (.int .i64 (L.length))) ∧ obsL s.obs 48 = some (1, .box [.d (intss T)]) ∧ obsL s.obs 400 = some (w, .row (icells L)) ∧ obsL s.obs 416 = some (v, .mat true (mcells (rcl T L (L.length)))))
    (by show L.length < m; omega) (by
      simp -implicitDefEqProofs (maxSteps := 3000000) [met, rcl])
    (by
      rintro i s hi ⟨g, v, w, rfl⟩
      have w2 := wrap_id (n := (i : Int) + 1) (by omega)
      obtain ⟨a, ha, ea⟩ := elem i hi
      have mb := hml i (by omega)
      have mb2 := hml (i + 1) (by omega)
      have mi := mi hi
      rw [ea, Int.toNat_natCast] at mi
      have w3 := wrap_u64 (n := (a : Int)) (by omega)
      have e1 : min a 64 = a := by omega
      have e2 := fdiv_pow (met T L i) a
      have e3 := tb (met T L i) a
      have hn0 : ¬ ((a : Int) < 0) := by omega
      have hq : met T L i / 2 ^ a ≤ met T L i := Nat.div_le_self _ _
      have er : rcl T L (i + 1) = if bl (Lst T a) = true then rcl T L i ++ [clsL T a] else rcl T L i := by rw [rcl, ea, Int.toNat_natCast]
      have em : met T L (i + 1) = if bl (Lst T a) = true then met T L i ||| obits T a T.length else met T L i := by rw [met, ea, Int.toNat_natCast]
      have hb := lt_bound (n := (rcl T L i).length) (by have := rcl_len T L i; omega)
      have hb2 := le_bound (n := (rcl T L i).length) (by have := rcl_len T L i; omega)
      have w0 := wrap_id (n := 0) (by omega)
      have w1 := wrap_id (n := 1) (by omega)
      have ob := obits_lt G h8 ha T.length (Nat.le_refl _)
      have oc := obits_cl G h8 ha
      have c3 := ct_l01List m (by omega) (obits T a T.length) ob
      rw [oc] at c3
      have m1 := mod64 (q := met T L i) (by omega)
      have m2 := mod64 (q := obits T a T.length) (by omega)
      have hor : met T L i ||| obits T a T.length < 2 ^ 8 := Nat.or_lt_two_pow (n := 8) mb ob
      have w5 := wrap_id (n := ((met T L i ||| obits T a T.length : Nat) : Int)) (by omega)
      rcases Nat.mod_two_eq_zero_or_one (met T L i / 2 ^ a) with h | h
      · have e5 : (met T L i).testBit a = false := by rw [e3, h]; rfl
        have hl : Lst T a := Classical.byContradiction fun z => by rw [mi.2 z] at e5; exact absurd e5 (by simp -implicitDefEqProofs (maxSteps := 3000000))
        rw [bl_true hl, if_pos rfl] at er em
        generalize met T L i / 2 ^ a = q at *
        have e4 := mod64 (q := q) (by omega)
        rw [er, em]
        simp -implicitDefEqProofs (maxSteps := 3000000) [hi, ea, hn0, w0, w2, w3, b64, e1, e2, e4, h, hb, hb2]
        generalize hy : loopC _ _ _ = y
        obtain ⟨s, rfl, hq2⟩ := lp_sRC_1 m (by omega) T G h8 L i hi a ha ea (met T L i) (rcl T L i) hy (v := v) (w := w) (by simp -implicitDefEqProofs (maxSteps := 3000000))
        simp -implicitDefEqProofs (maxSteps := 3000000) [hq2, c3, b64, m1, m2, w2, w5, hb, hb2]
      · have e5 : (met T L i).testBit a = true := by rw [e3, h]; rfl
        have hl : ¬ Lst T a := mi.1 e5
        rw [bl_false hl] at er em
        simp only [Bool.false_eq_true, if_false] at er em
        generalize met T L i / 2 ^ a = q at *
        have e4 := mod64 (q := q) (by omega)
        rw [er, em]
        simp -implicitDefEqProofs (maxSteps := 3000000) [hi, ea, hn0, w0, w1, w2, w3, b64, e1, e2, e4, h])
    (by
      rintro s ⟨g, v, w, rfl⟩
      simp -implicitDefEqProofs (maxSteps := 3000000))
  obtain ⟨s, v, w, rfl, hf⟩ := hqq
  simp -implicitDefEqProofs (maxSteps := 3000000) [hf]
end Go.Proofs.YtfichikabolknaaGreatE

namespace Go.Proofs.YtfichikabolknaaGreatE
open Go Go.Proofs
set_option maxHeartbeats 4000000
set_option maxRecDepth 4000
set_option linter.unusedSimpArgs false
set_option linter.unusedVariables false
set_option pp.deepTerms false
set_option pp.deepTerms.threshold 10
/-! ## all classes, the program's way -/
def zcells (l : List Bool) : List YtfichikabolknaaGreatE.D := l.map .bool
@[simp] theorem zcells_length (l : List Bool) : (zcells l).length = l.length := by simp -implicitDefEqProofs (maxSteps := 3000000) [zcells]
@[simp] theorem zcells_set (l : List Bool) (k : Nat) (b : Bool) : (zcells l).set k (.bool b) = zcells (l.set k b) := by simp -implicitDefEqProofs (maxSteps := 3000000) [zcells, List.map_set]
@[simp] theorem zcells_get (l : List Bool) (k : Nat) : (zcells l)[k]? = (l[k]?).map YtfichikabolknaaGreatE.D.bool := by simp -implicitDefEqProofs (maxSteps := 3000000) [zcells]
@[simp] theorem zcells_getE (l : List Bool) (k : Nat) (h : k < (zcells l).length) : (zcells l)[k] = .bool (l[k]'(by simpa using h)) := by simp -implicitDefEqProofs (maxSteps := 3000000) [zcells]
def cdone (T : List (List Int)) (a b : Nat) : Prop := ∃ a' < a, cjQ T a' b
noncomputable def seenK (T : List (List Int)) (a k : Nat) : List Bool := (List.range T.length).map fun b => bl (cdone T a b ∨ ∃ c < k, cj T c a = b)
noncomputable def disc (T : List (List Int)) (a : Nat) : Nat → List Int
  | 0 => []
  | k + 1 => if bl (∃ c < k, cj T c a = cj T k a) = true then disc T a k else disc T a k ++ [(cj T k a : Int)]
noncomputable def clsO (T : List (List Int)) : Nat → List (List Int)
  | 0 => []
  | a + 1 => if bl (Lst T a) = true then clsO T a ++ [clsL T a] else clsO T a
theorem clsO_len (T : List (List Int)) : ∀ a, (clsO T a).length ≤ a
  | 0 => by simp -implicitDefEqProofs (maxSteps := 3000000) [clsO]
  | a + 1 => by
    have := clsO_len T a
    unfold clsO
    split <;> simp <;> omega
theorem cdone_self {T : List (List Int)} (a : Nat) : cdone T a a ↔ ¬ Lst T a := by
  constructor
  · rintro ⟨b, h1, h2⟩ L; exact L b h1 h2
  · intro h
    exact Classical.byContradiction fun hn => h fun b hb hq => hn ⟨b, hb, hq⟩
@[simp] theorem seenK_len (T : List (List Int)) (a k : Nat) : (seenK T a k).length = T.length := by simp -implicitDefEqProofs (maxSteps := 3000000) [seenK]
theorem seenK_get {T : List (List Int)} {a k x : Nat} (hx : x < T.length) : (seenK T a k)[x]? = some (bl (cdone T a x ∨ ∃ c < k, cj T c a = x)) := by simp -implicitDefEqProofs (maxSteps := 3000000) [seenK, hx]
theorem seenK_getE {T : List (List Int)} {a k x : Nat} (h : x < (seenK T a k).length) : (seenK T a k)[x] = bl (cdone T a x ∨ ∃ c < k, cj T c a = x) := by simp -implicitDefEqProofs (maxSteps := 3000000) [seenK]
theorem seenK_set {T : List (List Int)} {a k : Nat} (hx : cj T k a < T.length) : (seenK T a k).set (cj T k a) true = seenK T a (k + 1) := by
  apply List.ext_getElem?
  intro j
  rw [List.getElem?_set, seenK_len]
  by_cases hj : j < T.length
  · rw [seenK_get hj]
    by_cases e : cj T k a = j
    · rw [if_pos e, if_pos hx, seenK_get hj]
      rw [bl_true (show cdone T a j ∨ ∃ c < k + 1, cj T c a = j from .inr ⟨k, by omega, e⟩)]
    · rw [if_neg e, seenK_get hj]
      congr 1
      by_cases h : cdone T a j ∨ ∃ c < k, cj T c a = j
      · rw [bl_true h, bl_true (h.imp_right fun ⟨c, h1, h2⟩ => ⟨c, by omega, h2⟩)]
      · rw [bl_false h, bl_false]
        rintro (h1 | ⟨c, h1, h2⟩)
        · exact h (.inl h1)
        · refine h (.inr ⟨c, ?_, h2⟩)
          have : c ≠ k := fun e2 => e (by rw [← e2]; exact h2)
          omega
  · rw [List.getElem?_eq_none (l := seenK T a (k + 1)) (by simp; omega)]
    by_cases e : cj T k a = j
    · omega
    · rw [if_neg e, List.getElem?_eq_none (by simp; omega)]
theorem seenK_same {T : List (List Int)} {a k : Nat} (h : ∃ c < k, cj T c a = cj T k a) : seenK T a (k + 1) = seenK T a k := by
  unfold seenK
  congr 1
  funext b
  by_cases h1 : cdone T a b ∨ ∃ c < k, cj T c a = b
  · rw [bl_true h1, bl_true (h1.imp_right fun ⟨c, h1, h2⟩ => ⟨c, by omega, h2⟩)]
  · rw [bl_false h1, bl_false]
    rintro (h2 | ⟨c, h2, h3⟩)
    · exact h1 (.inl h2)
    · rcases Nat.lt_or_ge c k with z | z
      · exact h1 (.inr ⟨c, z, h3⟩)
      · obtain rfl : c = k := by omega
        obtain ⟨d, h4, h5⟩ := h
        exact h1 (.inr ⟨d, h4, h5.trans h3⟩)
theorem seenK_start {T : List (List Int)} : List.replicate T.length false = seenK T 0 0 := by
  apply List.ext_getElem
  · simp -implicitDefEqProofs (maxSteps := 3000000)
  · intro i h1 h2
    simp only [List.length_replicate] at h1
    have := seenK_get (T := T) (a := 0) (k := 0) h1
    rw [List.getElem?_eq_getElem h2] at this
    rw [Option.some.inj this, List.getElem_replicate, bl_false]
    rintro (⟨a, h, _⟩ | ⟨c, h, _⟩) <;> omega
theorem seenK_next {T : List (List Int)} (a : Nat) : seenK T a T.length = seenK T (a + 1) 0 := by
  unfold seenK
  congr 1
  funext b
  have : (cdone T a b ∨ ∃ c < T.length, cj T c a = b) ↔ (cdone T (a + 1) b ∨ ∃ c < 0, cj T c (a + 1) = b) := by
    constructor
    · rintro (⟨x, h1, h2⟩ | h)
      · exact .inl ⟨x, by omega, h2⟩
      · exact .inl ⟨a, by omega, h⟩
    · rintro (⟨x, h1, h2⟩ | ⟨c, h, _⟩)
      · rcases Nat.lt_or_ge x a with z | z
        · exact .inl ⟨x, z, h2⟩
        · obtain rfl : x = a := by omega
          exact .inr h2
      · omega
  by_cases h : cdone T a b ∨ ∃ c < T.length, cj T c a = b
  · rw [bl_true h, bl_true (this.1 h)]
  · rw [bl_false h, bl_false (fun z => h (this.2 z))]
theorem seenK_skip {T : List (List Int)} (G : IsGr T) {a : Nat} (ha : a < T.length) (h : ¬ Lst T a) : seenK T (a + 1) 0 = seenK T a 0 := by
  obtain ⟨x, hx, hq⟩ := (cdone_self a).2 h
  rw [← seenK_next]
  unfold seenK
  congr 1
  funext b
  by_cases h1 : cdone T a b ∨ ∃ c < T.length, cj T c a = b
  · rw [bl_true h1, bl_true]
    rcases h1 with h1 | h1
    · exact .inl h1
    · exact .inl ⟨x, hx, cjQ_trans G (by omega) hq h1⟩
  · rw [bl_false h1, bl_false]
    rintro (h2 | ⟨c, h2, _⟩)
    · exact h1 (.inl h2)
    · omega
theorem mem_disc {T : List (List Int)} (a : Nat) (x : Int) : ∀ k, (x ∈ disc T a k ↔ ∃ c < k, (cj T c a : Int) = x)
  | 0 => by simp -implicitDefEqProofs (maxSteps := 3000000) [disc]
  | k + 1 => by
    have ih := mem_disc (T := T) a x k
    unfold disc
    split
    · rename_i h
      obtain ⟨d, h1, h2⟩ := of_bl h
      rw [ih]
      constructor
      · rintro ⟨c, h3, h4⟩; exact ⟨c, by omega, h4⟩
      · rintro ⟨c, h3, h4⟩
        rcases Nat.lt_or_ge c k with z | z
        · exact ⟨c, z, h4⟩
        · obtain rfl : c = k := by omega
          exact ⟨d, h1, by rw [h2]; exact h4⟩
    · rw [List.mem_append, ih, List.mem_singleton]
      constructor
      · rintro (⟨c, h3, h4⟩ | h3)
        · exact ⟨c, by omega, h4⟩
        · exact ⟨k, by omega, h3.symm⟩
      · rintro ⟨c, h3, h4⟩
        rcases Nat.lt_or_ge c k with z | z
        · exact .inl ⟨c, z, h4⟩
        · obtain rfl : c = k := by omega
          exact .inr h4.symm
theorem disc_nodup {T : List (List Int)} (a : Nat) : ∀ k, (disc T a k).Nodup
  | 0 => by simp -implicitDefEqProofs (maxSteps := 3000000) [disc]
  | k + 1 => by
    have ih := disc_nodup (T := T) a k
    unfold disc
    split
    · exact ih
    · rename_i h
      rw [List.nodup_append]
      refine ⟨ih, by simp, fun x hx y hy e => h ?_⟩
      obtain rfl : y = (cj T k a : Int) := by simpa using hy
      subst e
      obtain ⟨c, h1, h2⟩ := (mem_disc a _ k).1 hx
      exact bl_true ⟨c, h1, by omega⟩
theorem disc_len {T : List (List Int)} (a : Nat) : ∀ k, (disc T a k).length ≤ k
  | 0 => by simp -implicitDefEqProofs (maxSteps := 3000000) [disc]
  | k + 1 => by
    have ih := disc_len (T := T) a k
    unfold disc
    split <;> simp <;> omega
theorem disc_sort {T : List (List Int)} (G : IsGr T) {a : Nat} (ha : a < T.length) {Y : List Int} (h : Y.Pairwise (· < ·) ∧ ∀ z, z ∈ Y ↔ z ∈ disc T a T.length) : Y = clsL T a :=
  pw_ext _ _ h.1 (thoseL_pw _ _) fun z => by
    rw [h.2, mem_disc]
    show _ ↔ z ∈ clsL T a
    rw [mem_clsL G ha]
    constructor
    · rintro ⟨c, h1, h2⟩; exact ⟨cj T c a, ⟨c, h1, rfl⟩, h2⟩
    · rintro ⟨b, ⟨c, h1, rfl⟩, h2⟩; exact ⟨c, h1, h2⟩
theorem not_cdone {T : List (List Int)} (G : IsGr T) {a k : Nat} (ha : a < T.length) (hk : k < T.length) (hL : Lst T a) : ¬ cdone T a (cj T k a) := by
  rintro ⟨b, h1, h2⟩
  exact hL b h1 (cjQ_trans G (by omega) h2 (cjQ_symm G ha ⟨k, hk, rfl⟩))
theorem lp_cls_1 (m : Nat) (hm : B + 3 + 3 ≤ m) (T : List (List Int)) (G : IsGr T) (a : Nat) (ha : a < T.length) (hL : Lst T a) (X : List (List Int)) (v w : Nat)
    {st : St} {o : Option (Ex × St)} (hx : loopC (cxAt 160 m) (lp Tryz.f160 1) st = o) {x : Nat}
    (f : obsL st.obs 16 = some (1, .box [.d (intss T)]) ∧ obsL st.obs 144 = some (v, .mat true (mcells X)) ∧ obsL st.obs 192 = some (w, .row (zcells (seenK T a (0)))) ∧ obsL st.obs 352 = some (x, .row (icells (disc T a (0)))) ∧ obsL st.obs 688 = none ∧ obsL st.obs 800 = none ∧ lookL st.env 1 = some (.ptr 16 1 0) ∧ lookL st.env 3 = some (.own 144 v) ∧ lookL st.env 4 = some (.own 192 w) ∧ lookL st.env 5 = some (.d (.int .i64 a)) ∧ lookL st.env 14 = some (.d (.int .i64 T.length)) ∧ lookL st.env 15 = some (.d (.int .i64 a)) ∧ lookL st.env 24 = some (.d (.int .i64 T.length)) ∧ lookL st.env 6 = some (.own 352 x) ∧ lookL st.env 25 = some (.d (.int .i64 (0)))) :
    ∃ s x, o = some (.exit 2, s) ∧ obsL s.obs 16 = some (1, .box [.d (intss T)]) ∧ obsL s.obs 144 = some (v, .mat true (mcells X)) ∧ obsL s.obs 192 = some (w, .row (zcells (seenK T a (T.length)))) ∧ obsL s.obs 352 = some (x, .row (icells (disc T a (T.length)))) ∧ obsL s.obs 688 = none ∧ obsL s.obs 800 = none ∧ lookL s.env 1 = some (.ptr 16 1 0) ∧ lookL s.env 3 = some (.own 144 v) ∧ lookL s.env 4 = some (.own 192 w) ∧ lookL s.env 5 = some (.d (.int .i64 a)) ∧ lookL s.env 14 = some (.d (.int .i64 T.length)) ∧ lookL s.env 15 = some (.d (.int .i64 a)) ∧ lookL s.env 24 = some (.d (.int .i64 T.length)) ∧ lookL s.env 6 = some (.own 352 x) := by
  have hB := B_eq
  have hT := G.1.1
  generalize hl : lp Tryz.f160 1 = L at hx
  simp only [lp, bodyOf, Tryz.f160, Option.getD_some, loopsIn, List.append_nil, List.nil_append, List.cons_append, List.getD, List.getElem?_cons_zero, List.getElem?_cons_succ] at hl
  subst hl
  obtain ⟨qq, rfl, hqq⟩ := loop_end hx (T.length) (fun k s => ∃ g x, s = ⟨[(1, .ptr 16 1 0), (3, .own 144 v), (4, .own 192 w), (5, .d (.int .i64 a)), (6, .own 352 x), (14, .d (.int .i64 T.length)), (15, .d (.int .i64 a)), (24, .d (.int .i64 T.length)), (25, .d (.int .i64 k))], [(16, some (1, .box [.d (intss T)])), (144, some (v, .mat true (mcells X))), (192, some (w, .row (zcells (seenK T a k)))), (352, some (x, .row (icells (disc T a k))))], g⟩)
    (fun qq => ∃ s x, qq = (.exit 2, s) ∧ obsL s.obs 16 = some (1, .box [.d (intss T)]) ∧ obsL s.obs 144 = some (v, .mat true (mcells X)) ∧ obsL s.obs 192 = some (w, .row (zcells (seenK T a (T.length)))) ∧ obsL s.obs 352 = some (x, .row (icells (disc T a (T.length)))) ∧ obsL s.obs 688 = none ∧ obsL s.obs 800 = none ∧ lookL s.env 1 = some (.ptr 16 1 0) ∧ lookL s.env 3 = some (.own 144 v) ∧ lookL s.env 4 = some (.own 192 w) ∧ lookL s.env 5 = some (.d (.int .i64 a)) ∧ lookL s.env 14 = some (.d (.int .i64 T.length)) ∧ lookL s.env 15 = some (.d (.int .i64 a)) ∧ lookL s.env 24 = some (.d (.int .i64 T.length)) ∧ lookL s.env 6 = some (.own 352 x))
    (by show T.length < m; omega) (by
      simp -implicitDefEqProofs (maxSteps := 3000000) [f, disc])
    (by
      rintro k s hk ⟨g, x, rfl⟩
      have w2 := wrap_id (n := (k : Int) + 1) (by omega)
      have c1 := ct_conjugate m (by omega) T G k a hk ha
      have hx := cj_lt G hk ha
      have nd := not_cdone G ha hk hL
      have sg := seenK_getE (T := T) (a := a) (k := k) (x := cj T k a) (by simpa using hx)
      have hd := disc_len (T := T) a k
      have hl := lt_bound (n := (disc T a k).length) (by omega)
      have hl2 := le_bound (n := (disc T a k).length) (by omega)
      by_cases h : ∃ c < k, cj T c a = cj T k a
      · have ed : disc T a (k + 1) = disc T a k := by rw [disc, bl_true h, if_pos rfl]
        rw [bl_true (.inr h)] at sg
        rw [ed, seenK_same h]
        generalize cj T k a = y at *
        simp -implicitDefEqProofs (maxSteps := 3000000) [hk, c1, w2, hx, sg]
      · have ed : disc T a (k + 1) = disc T a k ++ [(cj T k a : Int)] := by rw [disc, bl_false h]; simp -implicitDefEqProofs (maxSteps := 3000000)
        rw [bl_false (fun z => z.elim nd h)] at sg
        have ss := seenK_set (T := T) (a := a) (k := k) hx
        rw [ed, ← ss]
        generalize cj T k a = y at *
        simp -implicitDefEqProofs (maxSteps := 3000000) [hk, c1, w2, hx, sg, hl, hl2])
    (by
      rintro s ⟨g, x, rfl⟩
      simp -implicitDefEqProofs (maxSteps := 3000000))
  obtain ⟨s, x, rfl, hf⟩ := hqq
  exact ⟨s, x, rfl, hf⟩
theorem ct_classes (n : Nat) (hn : B + 9 + 8 ≤ n) (T : List (List Int)) (G : IsGr T) :
    evalCall Tryz.prog An n 160 [.agg [.d (intss T)]] [] = some ⟨.own 0 0, [.mat false (mcells (clsO T T.length))], []⟩ := by
  obtain ⟨m, rfl⟩ : ∃ m, n = m + 1 := ⟨n - 1, by omega⟩
  have hB := B_eq
  simp only [evalCall_at, fb160, bnd_some, bodyOf, Tryz.f160, Option.getD_some]
  generalize hb0 : Code.loop _ = cc0
  obtain rfl : cc0 = .loop (lp Tryz.f160 0) := by rw [← hb0]; rfl
  clear hb0
  have hT := G.1.1
  have c0 := ct_order m (by omega) T
  have s0 := seenK_start (T := T)
  have z0 : List.replicate T.length (YtfichikabolknaaGreatE.D.bool false) = zcells (seenK T 0 0) := by rw [← s0]; simp -implicitDefEqProofs (maxSteps := 3000000) [zcells]
  have hl0 : (T.length : Int) ≤ 1099511627776 := by omega
  simp -implicitDefEqProofs (maxSteps := 3000000) [c0, z0, hl0]
  generalize hx : loopC _ _ _ = x
  generalize hl : lp Tryz.f160 0 = L at hx
  simp only [lp, bodyOf, Tryz.f160, Option.getD_some, loopsIn, List.append_nil, List.nil_append, List.cons_append, List.getD, List.getElem?_cons_zero, List.getElem?_cons_succ] at hl
  subst hl
  generalize hb1 : Code.loop _ = cc1 at hx
  obtain rfl : cc1 = .loop (lp Tryz.f160 1) := by rw [← hb1]; rfl
  clear hb1
  obtain ⟨qq, rfl, hqq⟩ := loop_end hx (T.length) (fun i s => ∃ g v w, s = ⟨[(1, .ptr 16 1 0), (3, .own 144 v), (4, .own 192 w), (14, .d (.int .i64 T.length)), (15, .d (.int .i64 i))], [(16, some (1, .box [.d (intss T)])), (144, some (v, .mat true (mcells (clsO T i)))), (192, some (w, .row (zcells (seenK T i 0))))], g⟩)
    (fun qq => ∃ s v w, qq = (.exit 0, s) ∧ lookL s.env 1 = some (.ptr 16 1 0) ∧ lookL s.env 3 = some (.own 144 v) ∧ lookL s.env 4 = some (.own 192 w) ∧ lookL s.env 14 = some (.d (.int .i64 T.length)) ∧ lookL s.env 15 = some (.d (.int .i64 (T.length))) ∧ obsL s.obs 16 = some (1, .box [.d (intss T)]) ∧ obsL s.obs 144 = some (v, .mat true (mcells (clsO T (T.length)))) ∧ obsL s.obs 192 = some (w, .row (zcells (seenK T (T.length) 0))))
    (by show T.length < m; omega) (by
      simp -implicitDefEqProofs (maxSteps := 3000000) [clsO])
    (by
      rintro i s hi ⟨g, v, w, rfl⟩
      have w2 := wrap_id (n := (i : Int) + 1) (by omega)
      have sg := seenK_getE (T := T) (a := i) (k := 0) (x := i) (by simpa using hi)
      have hd := clsO_len T i
      have hl := lt_bound (n := (clsO T i).length) (by omega)
      have hl2 := le_bound (n := (clsO T i).length) (by omega)
      by_cases h : Lst T i
      · have ec : clsO T (i + 1) = clsO T i ++ [clsL T i] := by rw [clsO, bl_true h, if_pos rfl]
        have hnd : ¬ (cdone T i i ∨ ∃ c < 0, cj T c i = i) := fun z => z.elim (fun z => (cdone_self i).1 z h) (fun ⟨c, h, _⟩ => by omega)
        rw [bl_false hnd] at sg
        rw [ec, ← seenK_next]
        simp -implicitDefEqProofs (maxSteps := 3000000) [hi, sg, c0]
        generalize hy : loopC _ _ _ = y
        obtain ⟨s, x, rfl, hq⟩ := lp_cls_1 m (by omega) T G i hi h (clsO T i) v w (x := g + 7) hy (by simp -implicitDefEqProofs (maxSteps := 3000000) [disc, icells])
        obtain ⟨Y, ⟨y1, y2, y3⟩, c2⟩ := ct_Sort m (by omega) (disc T i T.length) (by have := disc_len (T := T) i T.length; omega)
        have e := disc_sort G hi (sort_asc (disc_nodup i _) y1 y2 y3)
        subst e
        simp -implicitDefEqProofs (maxSteps := 3000000) [hq, c2, w2, hl, hl2]
      · have ec : clsO T (i + 1) = clsO T i := by rw [clsO, bl_false h]; simp -implicitDefEqProofs (maxSteps := 3000000)
        have hnd : cdone T i i ∨ ∃ c < 0, cj T c i = i := .inl ((cdone_self i).2 h)
        rw [bl_true hnd] at sg
        rw [ec, seenK_skip G hi h]
        simp -implicitDefEqProofs (maxSteps := 3000000) [hi, sg, w2])
    (by
      rintro s ⟨g, v, w, rfl⟩
      simp -implicitDefEqProofs (maxSteps := 3000000))
  obtain ⟨s, v, w, rfl, hf⟩ := hqq
  simp -implicitDefEqProofs (maxSteps := 3000000) [hf]
end Go.Proofs.YtfichikabolknaaGreatE

namespace Go.Proofs.YtfichikabolknaaGreatE
open Go Go.Proofs
set_option maxHeartbeats 4000000
set_option maxRecDepth 4000
set_option linter.unusedSimpArgs false
set_option linter.unusedVariables false
set_option pp.deepTerms false
set_option pp.deepTerms.threshold 10
/-! ## DeleteFunc over rows -/
theorem ct_IndexFuncR (n : Nat) (hn : B + 2 ≤ n) (R : List (List Int)) (hl : R.length ≤ 10000000) (c : Nat) (b : List YtfichikabolknaaGreatE.D) (q : Nat → Bool) (L : Nat) (hL : L + 1 ≤ n)
    (hF : ∀ m, L ≤ m → ∀ i < R.length, evalCall Tryz.prog An m c (.d (ints (rown R i)) :: b.map ofD) [] = some ⟨.d (.bool (q i)), [], []⟩) (hc : c ∉ An.lend) :
    ((∀ i < R.length, q i = false) ∧ evalCall Tryz.prog An n 279 [.d (intss R), .d (.clo c [] b)] [] = some ⟨.d (.int .i64 (-1)), [], []⟩) ∨
    ∃ i < R.length, q i = true ∧ (∀ j < i, q j = false) ∧ evalCall Tryz.prog An n 279 [.d (intss R), .d (.clo c [] b)] [] = some ⟨.d (.int .i64 i), [], []⟩ := by
  obtain ⟨m, rfl⟩ : ∃ m, n = m + 1 := ⟨n - 1, by omega⟩
  have hB := B_eq
  simp only [evalCall_at, fb279, bnd_some, bodyOf, Tryz.f279, Option.getD_some]
  generalize hb0 : Code.loop _ = cc0
  obtain rfl : cc0 = .loop (lp Tryz.f279 0) := by rw [← hb0]; rfl
  clear hb0
  simp -implicitDefEqProofs (maxSteps := 3000000) at hc
  simp -implicitDefEqProofs (maxSteps := 3000000)
  generalize hx : loopC _ _ _ = x
  generalize hl : lp Tryz.f279 0 = L at hx
  simp only [lp, bodyOf, Tryz.f279, Option.getD_some, loopsIn, List.append_nil, List.nil_append, List.cons_append, List.getD, List.getElem?_cons_zero, List.getElem?_cons_succ] at hl
  subst hl
  obtain ⟨qq, rfl, hq⟩ := loop_end hx R.length (fun i s => (∀ j < i, q j = false) ∧ ∃ g, s = ⟨[(0, .d (intss R)), (1, .d (.clo c [] b)), (7, .d (.int .i64 R.length)), (8, .d (.int .i64 i))], [], g⟩)
    (fun qq => (∃ s, qq = (.exit 0, s) ∧ (∀ i < R.length, q i = false)) ∨ ∃ s i, qq = (.ret, s) ∧ i < R.length ∧ q i = true ∧ (∀ j < i, q j = false) ∧ lookL s.env 4 = some (.d (.int .i64 (i : Nat))))
    (by show R.length < m; omega) ⟨fun j hj => by omega, by simp⟩
    (by
      rintro i s hi ⟨hp, g, rfl⟩
      have w2 := wrap_id (n := (i : Int) + 1) (by omega)
      have c2 := hF m (by omega) i hi
      cases p : q i
      · rw [p] at c2
        simp -implicitDefEqProofs (maxSteps := 3000000) [hi, w2, c2, hc]
        intro j hj
        rcases Nat.lt_or_ge j i with z | z
        · exact hp j z
        · obtain rfl : j = i := by omega
          exact p
      · rw [p] at c2
        simp -implicitDefEqProofs (maxSteps := 3000000) [hi, w2, c2, hc]
        exact ⟨i, hi, p, hp, rfl⟩)
    (by
      rintro s ⟨hp, g, rfl⟩
      simp -implicitDefEqProofs (maxSteps := 3000000)
      exact hp)
  rcases hq with ⟨s, rfl, h1⟩ | ⟨s, i, rfl, h1, h2, h3, h4⟩
  · exact .inl ⟨h1, by simp⟩
  · exact .inr ⟨i, h1, h2, h3, by simp -implicitDefEqProofs (maxSteps := 3000000) [h4]⟩
def keepR (q : Nat → Bool) (n : Nat) : List Nat := (List.range n).filter fun i => !q i
theorem keepR_succ (q : Nat → Bool) (n : Nat) : keepR q (n + 1) = keepR q n ++ (if q n = true then [] else [n]) := by
  unfold keepR
  rw [List.range_succ, List.filter_append]
  congr 1
  cases h : q n <;> simp -implicitDefEqProofs (maxSteps := 3000000) [h]
theorem keepR_le (q : Nat → Bool) (n : Nat) : (keepR q n).length ≤ n := by
  have := List.length_filter_le (fun i => !q i) (List.range n)
  simpa [keepR] using this
theorem keepR_pre (q : Nat → Bool) : ∀ n, (∀ j < n, q j = false) → keepR q n = List.range n
  | 0, _ => rfl
  | n + 1, h => by
    rw [keepR_succ, keepR_pre q n (fun j hj => h j (by omega)), h n (by omega), List.range_succ]; rfl
def midC (q : Nat → Bool) (n j : Nat) : List PC := (keepR q j).map .r ++ (idxR n).drop (keepR q j).length
@[simp] theorem idxR_len (n : Nat) : (idxR n).length = n := by simp -implicitDefEqProofs (maxSteps := 3000000) [idxR]
theorem midC_len (q : Nat → Bool) {n j : Nat} (h : j ≤ n) : (midC q n j).length = n := by
  have := keepR_le q j
  simp -implicitDefEqProofs (maxSteps := 3000000) [midC]; omega
theorem midC_get (q : Nat → Bool) {n j : Nat} (h : j < n) (hh : j < (midC q n j).length) : (midC q n j)[j] = .r j := by
  have h1 := keepR_le q j
  simp only [midC]
  rw [List.getElem_append_right (by simpa using h1)]
  simp only [List.length_map, List.getElem_drop, idxR, List.getElem_map, List.getElem_range]
  congr 1; omega
theorem midC_del (q : Nat → Bool) {n j : Nat} (h : q j = true) : midC q n (j + 1) = midC q n j := by
  simp -implicitDefEqProofs (maxSteps := 3000000) [midC, keepR_succ, h]
theorem midC_keep (q : Nat → Bool) {n j : Nat} (hj : j < n) (h : q j = false) : (midC q n j).set (keepR q j).length (.r j) = midC q n (j + 1) := by
  have h1 := keepR_le q j
  simp only [midC, keepR_succ, h, Bool.false_eq_true, if_false, List.map_append, List.map_cons, List.map_nil]
  rw [List.set_append_right _ _ (by simp -implicitDefEqProofs (maxSteps := 3000000))]
  simp only [List.length_map, Nat.sub_self]
  rw [List.drop_eq_getElem_cons (show (keepR q j).length < (idxR n).length by simp; omega), List.set_cons_zero]
  simp -implicitDefEqProofs (maxSteps := 3000000)
theorem midC_idx (q : Nat → Bool) {n i : Nat} (hi : i < n) (h1 : ∀ j < i, q j = false) {J : Nat} (hJ : (keepR q J).length = i) (hJi : i ≤ J) : midC q n J = idxR n := by
  have e : keepR q J = List.range i := by
    have pre : ∀ k, keepR q (i + k) = List.range i ++ (keepR q (i + k)).drop i := by
      intro k
      induction k with
      | zero => rw [Nat.add_zero, keepR_pre q i h1]; simp -implicitDefEqProofs (maxSteps := 3000000)
      | succ k ih =>
        have hle : i ≤ (keepR q (i + k)).length := by rw [ih]; simp -implicitDefEqProofs (maxSteps := 3000000)
        rw [show i + (k + 1) = i + k + 1 by omega, keepR_succ, List.drop_append_of_le_length hle, ← List.append_assoc, ← ih]
    have := pre (J - i)
    rw [show i + (J - i) = J by omega] at this
    rw [this, List.drop_eq_nil_of_le (by omega)]; simp -implicitDefEqProofs (maxSteps := 3000000)
  unfold midC
  rw [hJ, e]
  apply List.ext_getElem
  · simp; omega
  · intro k h2 h3
    simp only [List.length_append, List.length_map, List.length_range, List.length_drop, idxR_len] at h2
    rw [List.getElem_append]
    split
    · simp -implicitDefEqProofs (maxSteps := 3000000) [idxR]
    · rename_i hk
      simp only [List.length_map, List.length_range] at hk ⊢
      simp only [List.getElem_drop, idxR, List.getElem_map, List.getElem_range]
      congr 1; omega
theorem flat_cells (l : List Nat) : (l.map PC.r).all (fun p => match p with | .d x => retD x | .r _ => true) = true := by simp -implicitDefEqProofs (maxSteps := 3000000)
def pcOk (p : PC) : Bool := match p with | .d x => retD x | .r _ => true
theorem midC_ok (q : Nat → Bool) (n j : Nat) : (midC q n j).all pcOk = true := by
  simp only [midC, List.all_append, Bool.and_eq_true]
  refine ⟨by simp -implicitDefEqProofs (maxSteps := 3000000) [pcOk], ?_⟩
  rw [List.all_eq_true]
  intro x hx
  have := List.mem_of_mem_drop hx
  simp only [idxR, List.mem_map] at this
  obtain ⟨k, _, rfl⟩ := this
  rfl
theorem setFrom_ok : ∀ (vs cells : List PC) (o : Nat), cells.all pcOk = true → vs.all pcOk = true → (setFrom cells o vs).all pcOk = true
  | [], _, _, h, _ => h
  | v :: vs, cells, o, h, hv => by
    simp only [List.all_cons, Bool.and_eq_true] at hv
    refine setFrom_ok vs _ _ ?_ hv.2
    rw [List.all_eq_true] at h ⊢
    intro x hx
    rcases List.mem_or_eq_of_mem_set hx with hx | rfl
    · exact h x hx
    · exact hv.1
theorem setFrom_take {α : Type} : ∀ (vs cells : List α) (o : Nat), (setFrom cells o vs).take o = cells.take o
  | [], _, _ => rfl
  | v :: vs, cells, o => by
    have := congrArg (List.take o) (setFrom_take vs (cells.set o v) (o + 1))
    rw [List.take_take, List.take_take, show min o (o + 1) = o by omega] at this
    rw [setFrom, this, List.take_set_of_le (Nat.le_refl _)]
theorem flat_per {R : List (List Int)} {Y : List PC} (h : Y.all pcOk = true) : flatOb (.per 1 (mcells R) Y) = true := by
  simp only [flatOb, Bool.and_eq_true]
  exact ⟨ret_mcells R, h⟩
def obD (q : Nat → Bool) (R : List (List Int)) (i0 J : Nat) : Ob := if (keepR q J).length = i0 then .mat false (mcells R) else .per 1 (mcells R) (midC q R.length J)
theorem obD_mat {q : Nat → Bool} {R : List (List Int)} {i0 J : Nat} (h : (keepR q J).length = i0) : obD q R i0 J = .mat false (mcells R) := if_pos h
theorem obD_per {q : Nat → Bool} {R : List (List Int)} {i0 J : Nat} (h : ¬ (keepR q J).length = i0) : obD q R i0 J = .per 1 (mcells R) (midC q R.length J) := if_neg h
theorem keepR_mono (q : Nat → Bool) (i : Nat) : ∀ k, (keepR q i).length ≤ (keepR q (i + k)).length
  | 0 => Nat.le_refl _
  | k + 1 => by
    have := keepR_mono q i k
    rw [show i + (k + 1) = i + k + 1 by omega, keepR_succ, List.length_append]; omega
theorem keepR_ge (q : Nat → Bool) {i J : Nat} (h : ∀ j < i, q j = false) (hJ : i ≤ J) : i ≤ (keepR q J).length := by
  have h1 := keepR_mono q i (J - i)
  rw [keepR_pre q i h, show i + (J - i) = J by omega] at h1
  simpa using h1
theorem ct_DeleteFuncR (n : Nat) (hn : B + 3 ≤ n) (R : List (List Int)) (hl : R.length ≤ 10000000) (c : Nat) (b : List YtfichikabolknaaGreatE.D) (q : Nat → Bool) (L : Nat) (hL : L + 2 ≤ n)
    (hF : ∀ m, L ≤ m → ∀ i < R.length, evalCall Tryz.prog An m c (.d (ints (rown R i)) :: b.map ofD) [] = some ⟨.d (.bool (q i)), [], []⟩) (hc : c ∉ An.lend) :
    ((∀ i < R.length, q i = false) ∧ evalCall Tryz.prog An n 159 [.own 100000 0, .d (.clo c [] b)] [.mat false (mcells R)] = some ⟨.own 100000 0, [], [some (.mat false (mcells R))]⟩) ∨
    ∃ Y : List PC, (∀ x, x ∈ Y → pcOk x = true) ∧ Y.take (keepR q R.length).length = (keepR q R.length).map .r ∧ evalCall Tryz.prog An n 159 [.own 100000 0, .d (.clo c [] b)] [.mat false (mcells R)] = some ⟨.sub 100000 0 0 (keepR q R.length).length, [], [some (.per 1 (mcells R) Y)]⟩ := by
  obtain ⟨m, rfl⟩ : ∃ m, n = m + 1 := ⟨n - 1, by omega⟩
  have hB := B_eq
  simp only [evalCall_at, fb159, bnd_some, bodyOf, Tryz.f159, Option.getD_some]
  generalize hb0 : Code.loop _ = cc0
  obtain rfl : cc0 = .loop (lp Tryz.f159 0) := by rw [← hb0]; rfl
  clear hb0
  simp -implicitDefEqProofs (maxSteps := 3000000) at hc
  rcases ct_IndexFuncR m (by omega) R hl c b q L (by omega) hF (by simpa using hc) with ⟨h1, h2⟩ | ⟨i0, hi0, h1, h3, h2⟩
  · left
    simp -implicitDefEqProofs (maxSteps := 3000000) [h2]
    exact h1
  · right
    have k0 : (keepR q (i0 + 1)).length = i0 := by rw [keepR_succ, keepR_pre q i0 h3, h1]; simp -implicitDefEqProofs (maxSteps := 3000000)
    have w0 := wrap_id (n := (i0 : Int) + 1) (by omega)
    have e1 : ((i0 : Int) == -1) = false := beq_f (by omega)
    simp -implicitDefEqProofs (maxSteps := 3000000) [h2, e1, w0]
    generalize hx : loopC _ _ _ = x
    generalize hl : lp Tryz.f159 0 = L at hx
    simp only [lp, bodyOf, Tryz.f159, Option.getD_some, loopsIn, List.append_nil, List.nil_append, List.cons_append, List.getD, List.getElem?_cons_zero, List.getElem?_cons_succ] at hl
    subst hl
    have k1 := obD_mat (R := R) k0
    obtain ⟨qq, rfl, hq⟩ := loop_end hx (R.length - (i0 + 1)) (fun j s => ∃ g, s = ⟨[(0, .own 100000 0), (1, .d (.clo c [] b)), (5, .d (.int .i64 (keepR q (i0 + 1 + j)).length)), (6, .d (.int .i64 ((i0 + 1 + j : Nat) : Int)))], [(100000, some (0, obD q R i0 (i0 + 1 + j)))], g⟩)
      (fun qq => ∃ s, qq = (.exit 0, s) ∧ lookL s.env 0 = some (.own 100000 0) ∧ lookL s.env 5 = some (.d (.int .i64 (keepR q R.length).length)) ∧ obsL s.obs 100000 = some (0, obD q R i0 R.length))
      (by show R.length - (i0 + 1) < m; omega) (by simp -implicitDefEqProofs (maxSteps := 3000000) [k0, k1])
      (by
        rintro j s hj ⟨g, rfl⟩
        have hj2 : i0 + 1 + j < R.length := by omega
        have c2 := hF m (by omega) (i0 + 1 + j) hj2
        have ml := midC_len q (n := R.length) (j := i0 + 1 + j) (by omega)
        have mg := midC_get q hj2
        have kt := keepR_succ q (i0 + 1 + j)
        have kl := keepR_le q (i0 + 1 + j)
        have md := midC_del q (n := R.length) (j := i0 + 1 + j)
        have mk := midC_keep q hj2
        have mi := midC_idx q hi0 h3 (J := i0 + 1 + j)
        have ki := keepR_ge q h3 (J := i0 + 1 + j) (by omega)
        rw [show i0 + 1 + (j + 1) = i0 + 1 + j + 1 by omega]
        have hJi : i0 ≤ i0 + 1 + j := by omega
        generalize i0 + 1 + j = J at *
        have w2 := wrap_id (n := (J : Int) + 1) (by omega)
        have w3 := wrap_id (n := ((keepR q J).length : Int) + 1) (by omega)
        have hlt : (keepR q J).length < R.length := by omega
        cases p : q J
        · rw [p] at c2 kt
          simp only [Bool.false_eq_true, if_false] at kt
          have mk := mk p
          have e5 : obD q R i0 (J + 1) = .per 1 (mcells R) (midC q R.length (J + 1)) := obD_per (by rw [kt]; simp; omega)
          by_cases hk : (keepR q J).length = i0
          · rw [obD_mat hk, e5]
            rw [mi hk hJi, hk] at mk
            rw [hk] at w3
            rw [kt]
            generalize midC q R.length (J + 1) = C at *
            simp -implicitDefEqProofs (maxSteps := 3000000) [hj2, c2, w2, w3, hk, hi0, hc, pcOf, mk]
          · rw [obD_per hk, e5, kt]
            generalize midC q R.length (J + 1) = C at *
            generalize midC q R.length J = C0 at *
            simp -implicitDefEqProofs (maxSteps := 3000000) [hj2, ml, mg, c2, w2, w3, hc, hlt, pcOf, mk]
        · rw [p] at c2 kt
          simp only [if_true, List.append_nil] at kt
          have md := md p
          by_cases hk : (keepR q J).length = i0
          · rw [obD_mat hk, obD_mat (show (keepR q (J + 1)).length = i0 by rw [kt]; exact hk), kt]
            simp -implicitDefEqProofs (maxSteps := 3000000) [hj2, c2, w2, hc]
          · rw [obD_per hk, obD_per (show ¬ (keepR q (J + 1)).length = i0 by rw [kt]; exact hk), kt, md]
            generalize midC q R.length J = C0 at *
            simp -implicitDefEqProofs (maxSteps := 3000000) [hj2, ml, mg, c2, w2, hc])
      (by
        rintro s ⟨g, rfl⟩
        have e : i0 + 1 + (R.length - (i0 + 1)) = R.length := by omega
        rw [e]
        have ml := midC_len q (n := R.length) (j := R.length) (by omega)
        by_cases hk : (keepR q R.length).length = i0
        · rw [obD_mat hk]
          simp -implicitDefEqProofs (maxSteps := 3000000)
        · rw [obD_per hk]
          generalize midC q R.length R.length = C0 at *
          simp -implicitDefEqProofs (maxSteps := 3000000) [ml])
    obtain ⟨s, rfl, f1, f2, f3⟩ := hq
    have ml := midC_len q (n := R.length) (j := R.length) (by omega)
    have kl := keepR_le q R.length
    have mi := midC_idx q hi0 h3 (J := R.length)
    have mok := midC_ok q R.length R.length
    have mt : (midC q R.length R.length).take (keepR q R.length).length = (keepR q R.length).map .r := by
      unfold midC
      rw [List.take_append_of_le_length (by simp -implicitDefEqProofs (maxSteps := 3000000)), List.take_of_length_le (by simp -implicitDefEqProofs (maxSteps := 3000000))]
    have yok := setFrom_ok (List.replicate (R.length - (keepR q R.length).length) (PC.d .nil)) (midC q R.length R.length) (keepR q R.length).length mok (by rw [List.all_eq_true]; intro x hx; rw [List.eq_of_mem_replicate hx]; rfl)
    have yfl := flat_per (R := R) yok
    have yt := setFrom_take (List.replicate (R.length - (keepR q R.length).length) (PC.d .nil)) (midC q R.length R.length) (keepR q R.length).length
    refine ⟨_, List.all_eq_true.1 yok, yt.trans mt, ?_⟩
    have hk1 : ((keepR q R.length).length : Int) ≤ R.length := by omega
    have hk2 : (keepR q R.length).length + (R.length - (keepR q R.length).length) ≤ R.length := by omega
    simp only [flatOb] at yfl
    by_cases hk : (keepR q R.length).length = i0
    · rw [obD_mat hk] at f3
      rw [mi hk (by omega)] at yfl ⊢
      generalize (keepR q R.length).length = K at *
      simp only [List.all_eq_true, Bool.and_eq_true] at yfl
      simp -implicitDefEqProofs (maxSteps := 3000000) [f1, f2, f3, hk1, kl, placeP, asPer, hk2, length_setFrom]
      exact yfl.2
    · rw [obD_per hk] at f3
      generalize midC q R.length R.length = C0 at *
      generalize (keepR q R.length).length = K at *
      simp only [List.all_eq_true, Bool.and_eq_true] at yfl
      simp -implicitDefEqProofs (maxSteps := 3000000) [f1, f2, f3, hk1, kl, placeP, asPer, hk2, ml, length_setFrom]
      exact yfl.2
end Go.Proofs.YtfichikabolknaaGreatE

namespace Go.Proofs.YtfichikabolknaaGreatE
open Go Go.Proofs
set_option maxHeartbeats 4000000
set_option maxRecDepth 4000
set_option linter.unusedSimpArgs false
set_option linter.unusedVariables false
set_option pp.deepTerms false
set_option pp.deepTerms.threshold 10
/-! ## RegularClasses, the program's way -/
theorem rcl_filter (T : List (List Int)) (L : List Int) : ∀ i ≤ L.length, rcl T L i = ((L.take i).filter (fun x => bl (Lst T x.toNat))).map (fun x => clsL T x.toNat)
  | 0, _ => by simp -implicitDefEqProofs (maxSteps := 3000000) [rcl]
  | i + 1, hi => by
    rw [rcl, rcl_filter T L i (by omega), List.take_succ_eq_append_getElem (show i < L.length by omega), List.filter_append, List.map_append, rn_get (show i < L.length by omega)]
    by_cases h : bl (Lst T L[i].toNat) = true
    · rw [if_pos h]; simp -implicitDefEqProofs (maxSteps := 3000000) [h]
    · rw [if_neg h]; simp -implicitDefEqProofs (maxSteps := 3000000) [h]
theorem clsO_filter (T : List (List Int)) : ∀ n, clsO T n = ((List.range n).filter (fun a => bl (Lst T a))).map (clsL T)
  | 0 => by simp -implicitDefEqProofs (maxSteps := 3000000) [clsO]
  | n + 1 => by
    rw [clsO, clsO_filter T n, List.range_succ, List.filter_append, List.map_append]
    by_cases h : bl (Lst T n) = true
    · rw [if_pos h]; simp -implicitDefEqProofs (maxSteps := 3000000) [h]
    · rw [if_neg h]; simp -implicitDefEqProofs (maxSteps := 3000000) [h]
theorem keep_filter {q : Nat → Bool} {p : List Int → Bool} {R : List (List Int)} (h : ∀ i < R.length, q i = !p (rown R i)) : ∀ k ≤ R.length, (keepR q k).map (rown R) = (R.take k).filter p
  | 0, _ => by simp -implicitDefEqProofs (maxSteps := 3000000) [keepR]
  | k + 1, hk => by
    have hk' : k < R.length := by omega
    have e : rown R k = R[k] := by simp -implicitDefEqProofs (maxSteps := 3000000) [rown, List.getD, hk']
    rw [keepR_succ, List.map_append, keep_filter h k (by omega), List.take_succ_eq_append_getElem hk', List.filter_append, h k hk', e]
    congr 1
    cases hp : p R[k] <;> simp -implicitDefEqProofs (maxSteps := 3000000) [e, hp]
noncomputable def rcQ (T : List (List Int)) (M : Int) (V : List Int) : List (List Int) := ((List.range T.length).filter (fun a => bl (Lst T a) && regQ T M V a)).map (clsL T)
theorem rcl_eq (T : List (List Int)) (M : Int) (V : List Int) : rcl T (regL T M V) (regL T M V).length = rcQ T M V := by
  rw [rcl_filter T _ _ (Nat.le_refl _), List.take_length]
  unfold regL thoseL rcQ
  rw [List.filter_map, List.map_map, List.filter_filter]
  congr 1
theorem rcQ_len (T : List (List Int)) (M : Int) (V : List Int) : (rcQ T M V).length ≤ T.length := by
  have := List.length_filter_le (fun a => bl (Lst T a) && regQ T M V a) (List.range T.length)
  simpa [rcQ] using this
theorem rcQ_row (T : List (List Int)) (M : Int) (V : List Int) (i : Nat) : (rown (rcQ T M V) i).length ≤ T.length := by
  by_cases h : i < (rcQ T M V).length
  · have e : rown (rcQ T M V) i = (rcQ T M V)[i] := by simp -implicitDefEqProofs (maxSteps := 3000000) [rown, List.getD, h]
    rw [e]
    have := List.getElem_mem h
    simp only [rcQ, List.mem_map] at this
    obtain ⟨a, _, ha⟩ := this
    have e2 : (rcQ T M V)[i] = clsL T a := by simp only [rcQ]; exact ha.symm
    rw [e2]; exact clsL_len a
  · have : rown (rcQ T M V) i = [] := by simp -implicitDefEqProofs (maxSteps := 3000000) [rown, List.getD, h]
    rw [this]; simp -implicitDefEqProofs (maxSteps := 3000000)
theorem own_keep {R : List (List Int)} {q : Nat → Bool} : ownRows (mcells R) ((keepR q R.length).map .r) = some (mcells ((keepR q R.length).map (rown R))) := by
  have h1 : ∀ ks : List Nat, mapO (fun p => match p with | PC.r k => some k | .d _ => none) (ks.map PC.r) = some ks := by
    intro ks
    induction ks with
    | nil => rfl
    | cons k ks ih => simp only [List.map_cons, mapO, bnd_some, ih]
  have h2 : ∀ ks : List Nat, (∀ k ∈ ks, k < R.length) → mapO (fun k => (mcells R)[k]?) ks = some (ks.map fun k => icells (rown R k)) := by
    intro ks hk
    induction ks with
    | nil => rfl
    | cons k ks ih =>
      have hk0 := hk k (by simp -implicitDefEqProofs (maxSteps := 3000000))
      have ih := ih (fun j hj => hk j (by simp -implicitDefEqProofs (maxSteps := 3000000) [hj]))
      have hg : (mcells R)[k]? = some (icells (rown R k)) := by rw [mcells_get, if_pos hk0]
      rw [mapO, hg, bnd_some, ih, bnd_some]; rfl
  have h3 : (keepR q R.length).Nodup := List.Pairwise.filter _ List.nodup_range
  have h4 : ∀ k ∈ keepR q R.length, k < R.length := fun k hk => by
    simp only [keepR, List.mem_filter, List.mem_range] at hk
    exact hk.1
  unfold ownRows
  have h5 := h1 (keepR q R.length)
  refine (congrArg (fun z => bnd z _) h5).trans ?_
  rw [bnd_some, if_pos h3, h2 _ h4]
  simp -implicitDefEqProofs (maxSteps := 3000000) [mcells]
theorem ct_RC1 (n : Nat) (hn : B + 2 + 2 ≤ n) (L : List Int) (hL : L.length ≤ 10000000) (r : List Int) (hr : 0 < r.length) :
    evalCall Tryz.prog An n 161 [.d (ints r), .d (.cellp [ints L])] [] = some ⟨.d (.bool (!bl (∃ i < L.length, rn L i = rn r 0))), [], []⟩ := by
  obtain ⟨m, rfl⟩ : ∃ m, n = m + 1 := ⟨n - 1, by omega⟩
  have hB := B_eq
  simp only [evalCall_at, fb161, bnd_some, bodyOf, Tryz.f161, Option.getD_some]
  have c1 := ct_Contains m (by omega) L (rn r 0) (by omega)
  generalize bl (∃ i < L.length, rn L i = rn r 0) = z at *
  simp -implicitDefEqProofs (maxSteps := 3000000) [c1, hr]
theorem ct_implRC_bad (n : Nat) (hn : B + 10 + 6 ≤ n) (T : List (List Int)) (hT : T.length ≤ 2000000) (hr : ∀ i, (rown T i).length ≤ 1000000000000) (M D : Int) (V : List Int) (hV : V.length ≤ 10000000) (h : ¬ SGood T M D V) :
    evalCall Tryz.prog An n 53 [.agg [.d (intss T)], .d (.int .i64 M), .agg [.d (.int .i64 D), .d (ints V)]] [] = some ⟨.tuple [.d .nil, .d (.int .i64 (scode T M D V))], [], []⟩ := by
  obtain ⟨m, rfl⟩ : ∃ m, n = m + 1 := ⟨n - 1, by omega⟩
  have hB := B_eq
  simp only [evalCall_at, fb53, bnd_some, bodyOf, Tryz.f53, Option.getD_some]
  have c := ct_symmetricCode m (by omega) T hT hr M D V hV
  have h2 := scode_ne h
  have h3 := bne_t h2
  simp -implicitDefEqProofs (maxSteps := 3000000) [c, h2, h3]
theorem ct_implRC (n : Nat) (hn : B + 10 + 9 ≤ n) (T : List (List Int)) (hT : T.length ≤ 2000000) (hr : ∀ i, (rown T i).length ≤ 1000000000000) (M D : Int) (V : List Int) (hV : V.length ≤ 10000000) (h : SGood T M D V) :
    evalCall Tryz.prog An n 53 [.agg [.d (intss T)], .d (.int .i64 M), .agg [.d (.int .i64 D), .d (ints V)]] [] = some ⟨.tuple [.own 0 0, .d (.int .i64 0)], [.mat false (mcells (rcQ T M V))], []⟩ := by
  obtain ⟨m, rfl⟩ : ∃ m, n = m + 1 := ⟨n - 1, by omega⟩
  have hB := B_eq
  simp only [evalCall_at, fb53, bnd_some, bodyOf, Tryz.f53, Option.getD_some]
  have c := ct_symmetricCode m (by omega) T hT hr M D V hV
  rw [scode_0 h] at c
  have c2 := ct_regular m (by omega) T M V h.fok
  have G := h.fok.G
  have hTl := G.1.1
  have hD : D = 2 := h.2.2.2.1
  subst hD
  have c3 := ct_classes m (by omega) T G
  have hcl := clsO_len T T.length
  have hrl := regL_le T M V
  let p : List Int → Bool := fun r => bl (∃ i < (regL T M V).length, rn (regL T M V) i = rn r 0)
  have rows : ∀ i < (clsO T T.length).length, ∃ a, a < T.length ∧ Lst T a ∧ rown (clsO T T.length) i = clsL T a := by
    intro i hi
    have e : rown (clsO T T.length) i = (clsO T T.length)[i] := by simp -implicitDefEqProofs (maxSteps := 3000000) [rown, List.getD, hi]
    have hm := List.getElem_mem hi
    rw [e]
    generalize (clsO T T.length)[i] = r at *
    rw [clsO_filter] at hm
    simp only [List.mem_map, List.mem_filter, List.mem_range] at hm
    obtain ⟨a, ⟨h1, h2⟩, h3⟩ := hm
    exact ⟨a, h1, of_bl h2, h3.symm⟩
  have pc : ∀ a, a < T.length → Lst T a → p (clsL T a) = regQ T M V a := by
    intro a ha hl
    obtain ⟨f1, f2⟩ := clsL_first G ha hl
    show bl _ = _
    rw [f2]
    cases e : regQ T M V a
    · refine bl_false fun ⟨i, h1, h2⟩ => ?_
      obtain ⟨b, h3, h4, h5⟩ := (mem_those _ _ _).1 (mem_rn.2 ⟨i, h1, h2⟩ : (a : Int) ∈ regL T M V)
      obtain rfl : b = a := by omega
      rw [e] at h4; exact absurd h4 (by simp -implicitDefEqProofs (maxSteps := 3000000))
    · have : (a : Int) ∈ regL T M V := (mem_those _ _ _).2 ⟨a, ha, e, rfl⟩
      exact bl_true (mem_rn.1 this)
  have fin : (clsO T T.length).filter p = rcQ T M V := by
    rw [clsO_filter, List.filter_map, List.filter_filter]
    unfold rcQ
    congr 1
    apply List.filter_congr
    intro a ha
    rw [List.mem_range] at ha
    by_cases hl : Lst T a
    · simp only [Function.comp, pc a ha hl, bl_true hl, Bool.and_true, Bool.true_and]
    · simp only [bl_false hl, Bool.and_false, Bool.false_and]
  have kf := keep_filter (q := fun i => !p (rown (clsO T T.length) i)) (p := p) (R := clsO T T.length) (fun i _ => rfl) (clsO T T.length).length (Nat.le_refl _)
  rw [List.take_length, fin] at kf
  have key := ct_DeleteFuncR m (by omega) (clsO T T.length) (by omega) 161 [.cellp [ints (regL T M V)]] (fun i => !p (rown (clsO T T.length) i)) (B + 2 + 2) (by omega)
    (fun m hm i hi => by
      obtain ⟨a, h1, h2, h3⟩ := rows i hi
      have h4 := (clsL_first G h1 h2).1
      have := ct_RC1 m hm (regL T M V) (by omega) (rown (clsO T T.length) i) (by rw [h3]; exact h4)
      simpa using this) (by simp -implicitDefEqProofs (maxSteps := 3000000))
  have ok := own_keep (R := clsO T T.length) (q := fun i => !p (rown (clsO T T.length) i))
  rw [kf] at ok
  rcases key with ⟨h1, h2⟩ | ⟨Y, h0, h1, h2⟩
  · have e : rcQ T M V = clsO T T.length := by
      rw [← fin, List.filter_eq_self]
      intro r hr
      obtain ⟨i, hi, rfl⟩ := List.mem_iff_getElem.1 hr
      have := h1 i hi
      have e : rown (clsO T T.length) i = (clsO T T.length)[i] := by simp -implicitDefEqProofs (maxSteps := 3000000) [rown, List.getD, hi]
      rw [e] at this
      simpa using this
    rw [e]
    generalize regL T M V = L at *
    simp -implicitDefEqProofs (maxSteps := 3000000) [c, c2, c3, h2]
  · have rl := rcQ_row T M V
    generalize rcQ T M V = Q at *
    generalize regL T M V = L at *
    generalize clsO T T.length = R at *
    rw [← h1] at ok
    generalize (keepR (fun i => !p (rown R i)) R.length).length = K at *
    have hf := flat_per (R := R) (List.all_eq_true.2 h0)
    simp only [flatOb, ret_mcells, Bool.true_and, List.all_eq_true] at hf
    have hf := iff_true_intro hf
    simp -implicitDefEqProofs (maxSteps := 3000000) [c, c2, c3, h2, hf, ok]
end Go.Proofs.YtfichikabolknaaGreatE
