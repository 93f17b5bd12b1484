/- Contracts of functions of the program and of the reference: what the evaluator gives for a call of each. -/
import Derived.Test.YtcdmhlagibjeiaaAEf
import Derived.Test.YtcdmhlagibjeiaaK0
import Derived.Test.YtcdmhlagibjeiaaK3
import Derived.Test.YtcdmhlagibjeiaaK26
import Derived.Test.YtcdmhlagibjeiaaK28
import Derived.Test.YtcdmhlagibjeiaaK29
import Derived.Test.YtcdmhlagibjeiaaK30
namespace Go.Proofs.YtcdmhlagibjeiaaE
open Go Go.Proofs
set_option maxHeartbeats 4000000
set_option maxRecDepth 4000
set_option linter.unusedSimpArgs false
set_option linter.unusedVariables false
set_option pp.deepTerms false
set_option pp.deepTerms.threshold 10
/-! ## the reference's closed sets -/
def b2 (b : Bool) : Nat := if b = true then 1 else 0
def card (s : Nat) : Nat := b2 (s.testBit 0) + b2 (s.testBit 1) + b2 (s.testBit 2) + b2 (s.testBit 3) + b2 (s.testBit 4) + b2 (s.testBit 5) + b2 (s.testBit 6) + b2 (s.testBit 7)
theorem b2_le (b : Bool) : b2 b ≤ 1 := by cases b <;> simp -implicitDefEqProofs (maxSteps := 3000000) [b2]
theorem b2_mono {a b : Bool} (h : a = true → b = true) : b2 a ≤ b2 b := by cases a <;> cases b <;> simp -implicitDefEqProofs (maxSteps := 3000000) [b2] at h ⊢
theorem card_le (s : Nat) : card s ≤ 8 := by
  have := fun i => b2_le (s.testBit i)
  have h0 := this 0; have h1 := this 1; have h2 := this 2; have h3 := this 3; have h4 := this 4; have h5 := this 5; have h6 := this 6; have h7 := this 7
  unfold card; omega
theorem card_lt {s t : Nat} (h : ∀ a, s.testBit a = true → t.testBit a = true) (z : Nat) (hz : z < 8) (h1 : t.testBit z = true) (h2 : s.testBit z = false) : card s < card t := by
  have h0 := b2_mono (h 0); have k1 := b2_mono (h 1); have k2 := b2_mono (h 2); have k3 := b2_mono (h 3); have k4 := b2_mono (h 4); have k5 := b2_mono (h 5); have k6 := b2_mono (h 6); have k7 := b2_mono (h 7)
  have q : b2 (s.testBit z) < b2 (t.testBit z) := by rw [h1, h2]; decide
  have e : z = 0 ∨ z = 1 ∨ z = 2 ∨ z = 3 ∨ z = 4 ∨ z = 5 ∨ z = 6 ∨ z = 7 := by omega
  unfold card
  rcases e with rfl | rfl | rfl | rfl | rfl | rfl | rfl | rfl <;> omega
theorem Acc.grow {T : List (List Int)} (hN : T.length ≤ 8) {s0 s : Nat} (A : Acc T s0 s) (h : s ≠ s0) : card s0 < card s := by
  have : ∃ z, s.testBit z = true ∧ s0.testBit z = false := by
    rcases Classical.em (∃ z, s.testBit z = true ∧ s0.testBit z = false) with y | y
    · exact y
    · exfalso
      apply h
      apply Nat.eq_of_testBit_eq
      intro i
      cases h1 : s.testBit i with
      | true =>
        cases h2 : s0.testBit i with
        | true => rfl
        | false => exact absurd ⟨i, h1, h2⟩ y
      | false =>
        cases h2 : s0.testBit i with
        | true => rw [A.sub i h2] at h1; exact h1.symm
        | false => rfl
  obtain ⟨z, h1, h2⟩ := this
  exact card_lt A.sub z (by have := A.inn z h1; omega) h1 h2
theorem mem_idx {s a : Nat} (ha8 : a < 8) (h : s.testBit a = true) : ∃ i < (bitL s).length, rn (bitL s) i = (a : Int) :=
  mem_rn.1 ((mem_bitL s (a : Int)).2 ⟨a, ha8, h, rfl⟩)
theorem clo_of {T : List (List Int)} (hN : T.length ≤ 8) {s : Nat} (h0 : ∀ a, s.testBit a = true → a < T.length) (h : ∀ i < (bitL s).length, ∀ k < (bitL s).length, s.testBit (prd T (bitL s) i k) = true) : Clo T s := by
  intro a b ha hb
  have h1 := h0 a ha
  have h2 := h0 b hb
  obtain ⟨i, hi, e1⟩ := mem_idx (by omega) ha
  obtain ⟨k, hk, e2⟩ := mem_idx (by omega) hb
  have := h i hi k hk
  rwa [prd, e1, e2, Int.toNat_natCast, Int.toNat_natCast] at this
structure Res (T : List (List Int)) (s1 r : Nat) : Prop where
  lt : r < 256
  inn : ∀ a, r.testBit a = true → a < T.length
  sub : ∀ a, s1.testBit a = true → r.testBit a = true
  keep : Clo T s1 → r = s1
def SubG (T : List (List Int)) (l : List Int) : Prop := (0 : Int) ∈ l ∧ ∀ a b : Nat, (a : Int) ∈ l → (b : Int) ∈ l → cl T a b ∈ l
theorem setOk_8 {T : List (List Int)} {l : List Int} (hN : T.length ≤ 8) (h : SetOk T l) : ∀ i < l.length, 0 ≤ rn l i ∧ rn l i < 8 := fun i hi => by have := h.1 i hi; omega
theorem setOk_mem {T : List (List Int)} {l : List Int} (h : SetOk T l) {z : Int} (hz : z ∈ l) : 0 ≤ z ∧ z < T.length := by
  obtain ⟨i, hi, rfl⟩ := mem_rn.1 hz
  exact h.1 i hi
theorem setOk_nodup {T : List (List Int)} {l : List Int} (h : SetOk T l) : l.Nodup := by
  have := asc_pw h.2
  rw [List.nodup_iff_pairwise_ne]
  exact this.imp fun {a b} h => by omega
theorem setOk_len {T : List (List Int)} {l : List Int} (h : SetOk T l) : l.length ≤ T.length := nodup_len T.length l (setOk_nodup h) fun x hx => setOk_mem h hx
theorem bits_inn {T : List (List Int)} {l : List Int} (hN : T.length ≤ 8) (h : SetOk T l) (a : Nat) (ha : (bitsOf l).testBit a = true) : a < T.length := by
  have := setOk_mem h ((bits_tb (setOk_8 hN h) a).1 ha)
  omega
theorem clo_sub {T : List (List Int)} (R : RowsOk T) {l : List Int} (h : SetOk T l) : (0 : Int) ∈ l → (Clo T (bitsOf l) ↔ SubG T l) := fun h0 => by
  have hN := R.1.2
  have tb := bits_tb (setOk_8 hN h)
  constructor
  · intro hc
    refine ⟨h0, fun a b ha hb => ?_⟩
    have h1 := hc a b ((tb a).2 ha) ((tb b).2 hb)
    have h2 := (tb _).1 h1
    have ga := setOk_mem h ha
    have gb := setOk_mem h hb
    have := ((R.2 a (by omega)).2 b (by omega)).1
    rwa [Int.toNat_of_nonneg this] at h2
  · intro hs a b ha hb
    have h1 := (tb a).1 ha
    have h2 := (tb b).1 hb
    have h3 := hs.2 a b h1 h2
    have ga := setOk_mem h h1
    have gb := setOk_mem h h2
    have := ((R.2 a (by omega)).2 b (by omega)).1
    exact (tb _).2 (by rwa [Int.toNat_of_nonneg this])
theorem zero_first {T : List (List Int)} {l : List Int} (h : SetOk T l) : (0 < l.length ∧ rn l 0 = 0) ↔ (0 : Int) ∈ l := by
  constructor
  · rintro ⟨h1, h2⟩; exact mem_rn.2 ⟨0, h1, h2⟩
  · intro hz
    obtain ⟨i, hi, e⟩ := mem_rn.1 hz
    refine ⟨by omega, ?_⟩
    rcases Nat.eq_zero_or_pos i with y | y
    · rw [y] at e; exact e
    · have := asc_lt h.2 (i - 1) 0 (by omega)
      have := h.1 0 (by omega)
      rw [show 0 + (i - 1) + 1 = i by omega] at *
      omega
open Classical in
noncomputable def subcode (T : List (List Int)) (l : List Int) : Int := if IsGr T then if SetOk T l then if SubG T l then 0 else 5 else 2 else 1
end Go.Proofs.YtcdmhlagibjeiaaE
