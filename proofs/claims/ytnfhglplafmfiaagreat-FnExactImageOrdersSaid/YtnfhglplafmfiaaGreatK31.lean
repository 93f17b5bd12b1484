/- Contracts of functions of the program and of the reference: what the evaluator gives for a call of each. -/
import Derived.Test.YtnfhglplafmfiaaGreatAEf
import Derived.Test.YtnfhglplafmfiaaGreatK1M
import Derived.Test.YtnfhglplafmfiaaGreatK3M
import Derived.Test.YtnfhglplafmfiaaGreatK24M
import Derived.Test.YtnfhglplafmfiaaGreatK26
import Derived.Test.YtnfhglplafmfiaaGreatK29M
import Derived.Test.YtnfhglplafmfiaaGreatK30
namespace Go.Proofs.YtnfhglplafmfiaaGreatE
open Go Go.Proofs
set_option maxHeartbeats 4000000
set_option maxRecDepth 4000
set_option linter.unusedSimpArgs false
set_option linter.unusedVariables false
set_option pp.deepTerms false
set_option pp.deepTerms.threshold 10
/-! ## the reference's closed sets -/
theorem lp_closed_1 (m : Nat) (hm : B + 1 ≤ m) (T : List (List Int)) (R : RowsOk T) (s0 : Nat) (hs0 : s0 < 256) (h0 : ∀ a, s0.testBit a = true → a < T.length)
    {st : St} {o : Option (Ex × St)} (hx : loopC (cxAt 229 m) (lp Tryz.f229 1) st = o) {v : Nat}
    (f : obsL st.obs 32 = some (1, .box [.d (intss T)]) ∧ obsL st.obs 224 = some (v, .row (icells (bitL s0))) ∧ obsL st.obs 225 = none ∧ obsL st.obs 226 = none ∧ obsL st.obs 227 = none ∧ lookL st.env 1 = some (.d (.int .i64 s0)) ∧ lookL st.env 2 = some (.ptr 32 1 0) ∧ lookL st.env 5 = some (.d (.bool false)) ∧ lookL st.env 6 = some (.own 224 v) ∧ lookL st.env 7 = some (.d (.int .i64 0))) :
    ∃ s s2, o = some (.exit 2, s) ∧ (Acc T s0 s2 ∧ ∀ i < (bitL s0).length, ∀ k < (bitL s0).length, s2.testBit (prd T (bitL s0) i k) = true) ∧
      obsL s.obs 32 = some (1, .box [.d (intss T)]) ∧ lookL s.env 1 = some (.d (.int .i64 s2)) ∧ lookL s.env 2 = some (.ptr 32 1 0) ∧ lookL s.env 5 = some (.d (.bool (mo s0 s2))) := by
  have hB := B_eq
  have hlen : (bitL s0).length ≤ 8 := thoseL_le _ _
  have e0 : mo s0 s0 = false := by simp -implicitDefEqProofs (maxSteps := 3000000) [mo]
  generalize hl : lp Tryz.f229 1 = L at hx
  simp only [lp, bodyOf, Tryz.f229, Option.getD_some, loopsIn, List.append_nil, List.nil_append, List.cons_append, List.getD, List.getElem?_cons_zero, List.getElem?_cons_succ] at hl
  subst hl
  generalize hb2 : Code.loop _ = cc2 at hx
  obtain rfl : cc2 = .loop (lp Tryz.f229 2) := by rw [← hb2]; rfl
  clear hb2
  obtain ⟨qq, rfl, hqq⟩ := loop_end hx (bitL s0).length (fun i s => ∃ g s2, (Acc T s0 s2 ∧ ∀ i' < i, ∀ k < (bitL s0).length, s2.testBit (prd T (bitL s0) i' k) = true) ∧ s = ⟨[(1, .d (.int .i64 s2)), (2, .ptr 32 1 0), (5, .d (.bool (mo s0 s2))), (6, .own 224 v), (7, .d (.int .i64 i))], [(32, some (1, .box [.d (intss T)])), (224, some (v, .row (icells (bitL s0))))], g⟩)
    (fun qq => ∃ s s2, qq = (.exit 2, s) ∧ (Acc T s0 s2 ∧ ∀ i < (bitL s0).length, ∀ k < (bitL s0).length, s2.testBit (prd T (bitL s0) i k) = true) ∧
      obsL s.obs 32 = some (1, .box [.d (intss T)]) ∧ lookL s.env 1 = some (.d (.int .i64 s2)) ∧ lookL s.env 2 = some (.ptr 32 1 0) ∧ lookL s.env 5 = some (.d (.bool (mo s0 s2))))
    (by show (bitL s0).length < m; omega) ⟨st.g, s0, ⟨⟨hs0, h0, fun _ h => h, fun _ => rfl⟩, fun i' hi => by omega⟩, by simp -implicitDefEqProofs (maxSteps := 3000000) [f, e0]⟩
    (by
      rintro i s hi ⟨g, s2, ⟨A, hp⟩, rfl⟩
      have w2 := wrap_id (n := (i : Int) + 1) (by omega)
      simp -implicitDefEqProofs (maxSteps := 3000000) [hi]
      generalize hy : loopC _ _ _ = y
      obtain ⟨s, s3, rfl, ⟨A3, h1, h2⟩, hq⟩ := lp_closed_2 m hm T R s0 h0 i hi s2 A hy (v := v) (by simp -implicitDefEqProofs (maxSteps := 3000000))
      have hp3 : ∀ i' < i + 1, ∀ k < (bitL s0).length, s3.testBit (prd T (bitL s0) i' k) = true := fun i' hi' k hk => by
        rcases Nat.lt_or_ge i' i with z | z
        · exact h1 _ (hp i' z k hk)
        · obtain rfl : i' = i := by omega
          exact h2 k hk
      generalize bitL s0 = L at *
      simp -implicitDefEqProofs (maxSteps := 3000000) [hq, w2]
      exact ⟨_, s3, ⟨A3, hp3⟩, ⟨rfl, rfl⟩, rfl⟩)
    (by
      rintro s ⟨g, s2, hA, rfl⟩
      generalize bitL s0 = L at *
      simp -implicitDefEqProofs (maxSteps := 3000000)
      exact ⟨s2, hA, ⟨rfl, rfl⟩⟩)
  obtain ⟨s, s2, rfl, hq⟩ := hqq
  exact ⟨s, s2, rfl, hq⟩
def b2 (b : Bool) : Nat := if b = true then 1 else 0
def card (s : Nat) : Nat := b2 (s.testBit 0) + b2 (s.testBit 1) + b2 (s.testBit 2) + b2 (s.testBit 3) + b2 (s.testBit 4) + b2 (s.testBit 5) + b2 (s.testBit 6) + b2 (s.testBit 7)
theorem b2_le (b : Bool) : b2 b ≤ 1 := by cases b <;> simp -implicitDefEqProofs (maxSteps := 3000000) [b2]
theorem b2_mono {a b : Bool} (h : a = true → b = true) : b2 a ≤ b2 b := by cases a <;> cases b <;> simp -implicitDefEqProofs (maxSteps := 3000000) [b2] at h ⊢
theorem card_le (s : Nat) : card s ≤ 8 := by
  have := fun i => b2_le (s.testBit i)
  have h0 := this 0; have h1 := this 1; have h2 := this 2; have h3 := this 3; have h4 := this 4; have h5 := this 5; have h6 := this 6; have h7 := this 7
  unfold card; omega
theorem card_lt {s t : Nat} (h : ∀ a, s.testBit a = true → t.testBit a = true) (z : Nat) (hz : z < 8) (h1 : t.testBit z = true) (h2 : s.testBit z = false) : card s < card t := by
  have h0 := b2_mono (h 0); have k1 := b2_mono (h 1); have k2 := b2_mono (h 2); have k3 := b2_mono (h 3); have k4 := b2_mono (h 4); have k5 := b2_mono (h 5); have k6 := b2_mono (h 6); have k7 := b2_mono (h 7)
  have q : b2 (s.testBit z) < b2 (t.testBit z) := by rw [h1, h2]; decide
  have e : z = 0 ∨ z = 1 ∨ z = 2 ∨ z = 3 ∨ z = 4 ∨ z = 5 ∨ z = 6 ∨ z = 7 := by omega
  unfold card
  rcases e with rfl | rfl | rfl | rfl | rfl | rfl | rfl | rfl <;> omega
theorem Acc.grow {T : List (List Int)} (hN : T.length ≤ 8) {s0 s : Nat} (A : Acc T s0 s) (h : s ≠ s0) : card s0 < card s := by
  have : ∃ z, s.testBit z = true ∧ s0.testBit z = false := by
    rcases Classical.em (∃ z, s.testBit z = true ∧ s0.testBit z = false) with y | y
    · exact y
    · exfalso
      apply h
      apply Nat.eq_of_testBit_eq
      intro i
      cases h1 : s.testBit i with
      | true =>
        cases h2 : s0.testBit i with
        | true => rfl
        | false => exact absurd ⟨i, h1, h2⟩ y
      | false =>
        cases h2 : s0.testBit i with
        | true => rw [A.sub i h2] at h1; exact h1.symm
        | false => rfl
  obtain ⟨z, h1, h2⟩ := this
  exact card_lt A.sub z (by have := A.inn z h1; omega) h1 h2
theorem mem_idx {s a : Nat} (ha8 : a < 8) (h : s.testBit a = true) : ∃ i < (bitL s).length, rn (bitL s) i = (a : Int) :=
  mem_rn.1 ((mem_bitL s (a : Int)).2 ⟨a, ha8, h, rfl⟩)
theorem clo_of {T : List (List Int)} (hN : T.length ≤ 8) {s : Nat} (h0 : ∀ a, s.testBit a = true → a < T.length) (h : ∀ i < (bitL s).length, ∀ k < (bitL s).length, s.testBit (prd T (bitL s) i k) = true) : Clo T s := by
  intro a b ha hb
  have h1 := h0 a ha
  have h2 := h0 b hb
  obtain ⟨i, hi, e1⟩ := mem_idx (by omega) ha
  obtain ⟨k, hk, e2⟩ := mem_idx (by omega) hb
  have := h i hi k hk
  rwa [prd, e1, e2, Int.toNat_natCast, Int.toNat_natCast] at this
structure Res (T : List (List Int)) (s1 r : Nat) : Prop where
  lt : r < 256
  inn : ∀ a, r.testBit a = true → a < T.length
  sub : ∀ a, s1.testBit a = true → r.testBit a = true
  keep : Clo T s1 → r = s1
theorem ct_l01Closed (n : Nat) (hn : B + 2 ≤ n) (T : List (List Int)) (R : RowsOk T) (s0 : Nat) (hs0 : s0 < 256) (h0 : ∀ a, s0.testBit a = true → a < T.length) :
    ∃ r, (Res T (s0 ||| 1) r ∧ Clo T r) ∧ evalCall Tryz.prog An n 229 [.agg [.d (intss T)], .d (.int .i64 s0)] [] = some ⟨.d (.int .i64 r), [], []⟩ := by
  obtain ⟨m, rfl⟩ : ∃ m, n = m + 1 := ⟨n - 1, by omega⟩
  have hB := B_eq
  simp only [evalCall_at, fb229, bnd_some, bodyOf, Tryz.f229, Option.getD_some]
  generalize hb0 : Code.loop _ = cc0
  obtain rfl : cc0 = .loop (lp Tryz.f229 0) := by rw [← hb0]; rfl
  clear hb0
  have hN := R.1
  have e1 : s0 ||| 1 = s0 ||| 2 ^ 0 := rfl
  have q1 : s0 ||| 1 < 256 := by rw [e1]; exact Nat.or_lt_two_pow (n := 8) hs0 (by omega)
  have q2 : ∀ a, (s0 ||| 1).testBit a = true → a < T.length := fun a ha => by
    rw [e1] at ha
    rcases (or_tb _ _ _).1 ha with z | z
    · exact h0 a z
    · omega
  have w1 := wrap_id (n := ((s0 ||| 1 : Nat) : Int)) (by omega)
  have mm := mod64 (q := s0) (by omega)
  simp -implicitDefEqProofs (maxSteps := 3000000) [b64, mm, w1]
  generalize s0 ||| 1 = s1 at *
  generalize hx : loopC _ _ _ = x
  generalize hl : lp Tryz.f229 0 = L at hx
  simp only [lp, bodyOf, Tryz.f229, Option.getD_some, loopsIn, List.append_nil, List.nil_append, List.cons_append, List.getD, List.getElem?_cons_zero, List.getElem?_cons_succ] at hl
  subst hl
  generalize hb1 : Code.loop _ = cc1 at hx
  obtain rfl : cc1 = .loop (lp Tryz.f229 1) := by rw [← hb1]; rfl
  clear hb1
  obtain ⟨qq, rfl, hqq⟩ := loop_end hx 9 (fun i s => ∃ g r, Res T s1 r ∧ ((i ≤ card r ∧ s = ⟨[(1, .d (.int .i64 r)), (2, .ptr 32 1 0), (5, .d (.bool true))], [(32, some (1, .box [.d (intss T)]))], g⟩) ∨ (Clo T r ∧ s = ⟨[(1, .d (.int .i64 r)), (2, .ptr 32 1 0), (5, .d (.bool false))], [(32, some (1, .box [.d (intss T)]))], g⟩)))
    (fun qq => ∃ s r, qq = (.exit 0, s) ∧ (Res T s1 r ∧ Clo T r) ∧ lookL s.env 1 = some (.d (.int .i64 r)))
    (by show 9 < m; omega) ⟨7, s1, ⟨q1, q2, fun _ h => h, fun _ => rfl⟩, .inl ⟨Nat.zero_le _, by simp⟩⟩
    (by
      rintro i s hi ⟨g, r, hR, ⟨hc, rfl⟩ | ⟨hc, rfl⟩⟩
      · have c1 := ct_l01List m (by omega) r hR.lt
        simp -implicitDefEqProofs (maxSteps := 3000000) [c1]
        generalize hy : loopC _ _ _ = y
        obtain ⟨s, s2, rfl, ⟨A, hp⟩, hq⟩ := lp_closed_1 m (by omega) T R r hR.lt hR.inn hy (v := g + 1 + 1 + 1) (by simp -implicitDefEqProofs (maxSteps := 3000000))
        have hres : Res T s1 s2 := ⟨A.lt, A.inn, fun a ha => A.sub a (hR.sub a ha), fun hcl => by
          have e := hR.keep hcl
          rw [e] at A
          rw [A.clo hcl]⟩
        by_cases e : s2 = r
        · have em : mo r s2 = false := by simp -implicitDefEqProofs (maxSteps := 3000000) [mo, e]
          rw [em] at hq
          have hcl : Clo T s2 := by
            rw [e] at hp ⊢
            exact clo_of (by omega) hR.inn hp
          simp -implicitDefEqProofs (maxSteps := 3000000) [hq]
          exact ⟨_, s2, hres, hcl, rfl, rfl⟩
        · have em : mo r s2 = true := by simp -implicitDefEqProofs (maxSteps := 3000000) [mo, e]
          rw [em] at hq
          have hg := A.grow (by omega) e
          simp -implicitDefEqProofs (maxSteps := 3000000) [hq]
          exact ⟨_, s2, hres, by omega, rfl, rfl⟩
      · simp -implicitDefEqProofs (maxSteps := 3000000)
        exact ⟨r, ⟨hR, hc⟩, rfl⟩)
    (by
      rintro s ⟨g, r, hR, ⟨hc, rfl⟩ | ⟨hc, rfl⟩⟩
      · have := card_le r; omega
      · simp -implicitDefEqProofs (maxSteps := 3000000)
        exact ⟨r, ⟨hR, hc⟩, rfl⟩)
  obtain ⟨s, r, rfl, hr, hf⟩ := hqq
  refine ⟨r, hr, ?_⟩
  simp -implicitDefEqProofs (maxSteps := 3000000) [hf]
/-! ## subgroups -/
def SubG (T : List (List Int)) (l : List Int) : Prop := (0 : Int) ∈ l ∧ ∀ a b : Nat, (a : Int) ∈ l → (b : Int) ∈ l → cl T a b ∈ l
theorem setOk_8 {T : List (List Int)} {l : List Int} (hN : T.length ≤ 8) (h : SetOk T l) : ∀ i < l.length, 0 ≤ rn l i ∧ rn l i < 8 := fun i hi => by have := h.1 i hi; omega
theorem setOk_mem {T : List (List Int)} {l : List Int} (h : SetOk T l) {z : Int} (hz : z ∈ l) : 0 ≤ z ∧ z < T.length := by
  obtain ⟨i, hi, rfl⟩ := mem_rn.1 hz
  exact h.1 i hi
theorem setOk_nodup {T : List (List Int)} {l : List Int} (h : SetOk T l) : l.Nodup := by
  have := asc_pw h.2
  rw [List.nodup_iff_pairwise_ne]
  exact this.imp fun {a b} h => by omega
theorem setOk_len {T : List (List Int)} {l : List Int} (h : SetOk T l) : l.length ≤ T.length := nodup_len T.length l (setOk_nodup h) fun x hx => setOk_mem h hx
theorem bits_inn {T : List (List Int)} {l : List Int} (hN : T.length ≤ 8) (h : SetOk T l) (a : Nat) (ha : (bitsOf l).testBit a = true) : a < T.length := by
  have := setOk_mem h ((bits_tb (setOk_8 hN h) a).1 ha)
  omega
theorem clo_sub {T : List (List Int)} (R : RowsOk T) {l : List Int} (h : SetOk T l) : (0 : Int) ∈ l → (Clo T (bitsOf l) ↔ SubG T l) := fun h0 => by
  have hN := R.1.2
  have tb := bits_tb (setOk_8 hN h)
  constructor
  · intro hc
    refine ⟨h0, fun a b ha hb => ?_⟩
    have h1 := hc a b ((tb a).2 ha) ((tb b).2 hb)
    have h2 := (tb _).1 h1
    have ga := setOk_mem h ha
    have gb := setOk_mem h hb
    have := ((R.2 a (by omega)).2 b (by omega)).1
    rwa [Int.toNat_of_nonneg this] at h2
  · intro hs a b ha hb
    have h1 := (tb a).1 ha
    have h2 := (tb b).1 hb
    have h3 := hs.2 a b h1 h2
    have ga := setOk_mem h h1
    have gb := setOk_mem h h2
    have := ((R.2 a (by omega)).2 b (by omega)).1
    exact (tb _).2 (by rwa [Int.toNat_of_nonneg this])
theorem zero_first {T : List (List Int)} {l : List Int} (h : SetOk T l) : (0 < l.length ∧ rn l 0 = 0) ↔ (0 : Int) ∈ l := by
  constructor
  · rintro ⟨h1, h2⟩; exact mem_rn.2 ⟨0, h1, h2⟩
  · intro hz
    obtain ⟨i, hi, e⟩ := mem_rn.1 hz
    refine ⟨by omega, ?_⟩
    rcases Nat.eq_zero_or_pos i with y | y
    · rw [y] at e; exact e
    · have := asc_lt h.2 (i - 1) 0 (by omega)
      have := h.1 0 (by omega)
      rw [show 0 + (i - 1) + 1 = i by omega] at *
      omega
theorem ct_l01Subgroup (n : Nat) (hn : B + 3 ≤ n) (T : List (List Int)) (R : RowsOk T) (l : List Int) (h : SetOk T l) :
    evalCall Tryz.prog An n 200 [.agg [.d (intss T)], .d (ints l)] [] = some ⟨.d (.bool (bl (SubG T l))), [], []⟩ := by
  obtain ⟨m, rfl⟩ : ∃ m, n = m + 1 := ⟨n - 1, by omega⟩
  have hB := B_eq
  simp only [evalCall_at, fb200, bnd_some, bodyOf, Tryz.f200, Option.getD_some]
  have hN := R.1
  have hlen := setOk_len h
  have c1 := ct_l01Bits m (by omega) l (by omega) (setOk_8 hN.2 h)
  have hlt : bitsOf l < 256 := bitsA_lt (setOk_8 hN.2 h) l.length (Nat.le_refl _)
  obtain ⟨r, ⟨hr, hc⟩, c2⟩ := ct_l01Closed m (by omega) T R (bitsOf l) hlt (bits_inn hN.2 h)
  have zf := zero_first h
  have cs := clo_sub R h
  have tb0 := bits_tb (setOk_8 hN.2 h) 0
  by_cases h1 : 0 < l.length
  · by_cases h2 : rn l 0 = 0
    · have hz := zf.1 ⟨h1, h2⟩
      have cs := cs hz
      have e1 : bitsOf l ||| 1 = bitsOf l := by
        apply Nat.eq_of_testBit_eq
        intro i
        have := or_tb (bitsOf l) 0 i
        rw [show (2 : Nat) ^ 0 = 1 from rfl] at this
        by_cases e : i = 0
        · subst e
          have t0 := tb0.2 hz
          rw [t0]; exact this.2 (.inr rfl)
        · cases q : (bitsOf l).testBit i with
          | true => exact this.2 (.inl q)
          | false =>
            cases q2 : (bitsOf l ||| 1).testBit i with
            | false => rfl
            | true => rcases this.1 q2 with y | y
                      · rw [q] at y; exact absurd y (by simp -implicitDefEqProofs (maxSteps := 3000000))
                      · exact absurd y e
      rw [e1] at hr
      by_cases hS : SubG T l
      · have e2 := hr.keep (cs.2 hS)
        rw [e2] at c2
        simp -implicitDefEqProofs (maxSteps := 3000000) [h1, h2, c1, c2, bl_true hS]
      · have hne : r ≠ bitsOf l := fun e => hS (cs.1 (e ▸ hc))
        have e3 : ((r : Int) == (bitsOf l : Int)) = false := beq_f (by omega)
        simp -implicitDefEqProofs (maxSteps := 3000000) [h1, h2, c1, c2, e3, bl_false hS]
    · have hS : ¬ SubG T l := fun z => h2 (zf.2 z.1).2
      have e3 := beq_f h2
      simp -implicitDefEqProofs (maxSteps := 3000000) [h1, h2, e3, bl_false hS]
  · have hS : ¬ SubG T l := fun z => h1 (zf.2 z.1).1
    simp -implicitDefEqProofs (maxSteps := 3000000) [h1, bl_false hS]
open Classical in
noncomputable def subcode (T : List (List Int)) (l : List Int) : Int := if IsGr T then if SetOk T l then if SubG T l then 0 else 5 else 2 else 1
theorem ct_l07Code (n : Nat) (hn : B + 5 ≤ n) (T : List (List Int)) (hT : (T.length : Int) < 1000000000000) (l : List Int) (hl : l.length ≤ 10000000) :
    evalCall Tryz.prog An n 117 [.agg [.d (intss T)], .d (ints l)] [] = some ⟨.d (.int .i64 (subcode T l)), [], []⟩ := by
  obtain ⟨m, rfl⟩ : ∃ m, n = m + 1 := ⟨n - 1, by omega⟩
  have hB := B_eq
  simp only [evalCall_at, fb117, bnd_some, bodyOf, Tryz.f117, Option.getD_some]
  have c1 := ct_l01Set m (by omega) T hT l hl
  by_cases G : IsGr T
  · by_cases A : SetOk T l
    · rw [show setcode T l = 0 by simp only [setcode, if_pos G, if_pos A]] at c1
      have c2 := ct_l01Subgroup m (by omega) T G.1 l A
      by_cases hS : SubG T l
      · rw [bl_true hS] at c2
        have e : subcode T l = 0 := by simp only [subcode, if_pos G, if_pos A, if_pos hS]
        simp -implicitDefEqProofs (maxSteps := 3000000) [c1, c2, e]
      · rw [bl_false hS] at c2
        have e : subcode T l = 5 := by simp only [subcode, if_pos G, if_pos A, if_neg hS]
        simp -implicitDefEqProofs (maxSteps := 3000000) [c1, c2, e]
    · rw [show setcode T l = 2 by simp only [setcode, if_pos G, if_neg A]] at c1
      have e : subcode T l = 2 := by simp only [subcode, if_pos G, if_neg A]
      simp -implicitDefEqProofs (maxSteps := 3000000) [c1, e]
  · rw [show setcode T l = 1 by simp only [setcode, if_neg G]] at c1
    have e : subcode T l = 1 := by simp only [subcode, if_neg G]
    simp -implicitDefEqProofs (maxSteps := 3000000) [c1, e]
end Go.Proofs.YtnfhglplafmfiaaGreatE
