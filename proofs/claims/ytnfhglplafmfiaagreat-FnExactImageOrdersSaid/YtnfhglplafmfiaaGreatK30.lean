/- Contracts of functions of the program and of the reference: what the evaluator gives for a call of each. -/
import Derived.Test.YtnfhglplafmfiaaGreatAEf
import Derived.Test.YtnfhglplafmfiaaGreatK1M
import Derived.Test.YtnfhglplafmfiaaGreatK3M
import Derived.Test.YtnfhglplafmfiaaGreatK19
import Derived.Test.YtnfhglplafmfiaaGreatK24M
import Derived.Test.YtnfhglplafmfiaaGreatK29M
namespace Go.Proofs.YtnfhglplafmfiaaGreatE
open Go Go.Proofs
set_option maxHeartbeats 4000000
set_option maxRecDepth 4000
set_option linter.unusedSimpArgs false
set_option linter.unusedVariables false
set_option pp.deepTerms false
set_option pp.deepTerms.threshold 10
/-! ## closed sets -/
def Clo (T : List (List Int)) (s : Nat) : Prop := ∀ a b, s.testBit a = true → s.testBit b = true → s.testBit (cl T a b).toNat = true
structure Acc (T : List (List Int)) (s0 s : Nat) : Prop where
  lt : s < 256
  inn : ∀ a, s.testBit a = true → a < T.length
  sub : ∀ a, s0.testBit a = true → s.testBit a = true
  clo : Clo T s0 → s = s0
def mo (s0 s : Nat) : Bool := decide (s ≠ s0)
theorem or_tb (s z a : Nat) : (s ||| 2 ^ z).testBit a = true ↔ s.testBit a = true ∨ a = z := by
  rw [Nat.testBit_or, Bool.or_eq_true, Nat.testBit_two_pow, decide_eq_true_eq]
  exact ⟨fun h => h.imp id (fun e => e.symm), fun h => h.imp id (fun e => e.symm)⟩
theorem and_pow (s z : Nat) : s &&& 2 ^ z = 0 ↔ s.testBit z = false := by
  constructor
  · intro h
    have h1 := congrArg (fun x => Nat.testBit x z) h
    simpa [Nat.testBit_and, Nat.testBit_two_pow] using h1
  · intro h
    apply Nat.eq_of_testBit_eq
    intro i
    rw [Nat.testBit_and, Nat.testBit_two_pow, Nat.zero_testBit]
    by_cases e : z = i
    · subst e; simp -implicitDefEqProofs (maxSteps := 3000000) [h]
    · simp -implicitDefEqProofs (maxSteps := 3000000) [e]
theorem Acc.add {T : List (List Int)} (hN : T.length ≤ 8) {s0 s : Nat} (A : Acc T s0 s) {a b : Nat} (ha : s0.testBit a = true) (hb : s0.testBit b = true) (hz : (cl T a b).toNat < T.length) (h : s.testBit (cl T a b).toNat = false) :
    Acc T s0 (s ||| 2 ^ (cl T a b).toNat) ∧ mo s0 (s ||| 2 ^ (cl T a b).toNat) = true := by
  have hp : 2 ^ (cl T a b).toNat < 2 ^ 8 := Nat.pow_lt_pow_right (by omega) (by omega)
  refine ⟨⟨Nat.or_lt_two_pow (n := 8) A.lt hp, fun x hx => ?_, fun x hx => (or_tb _ _ _).2 (.inl (A.sub x hx)), fun hc => ?_⟩, decide_eq_true fun e => ?_⟩
  · rcases (or_tb _ _ _).1 hx with z | z
    · exact A.inn x z
    · omega
  · have := hc a b ha hb
    rw [A.sub _ this] at h; exact absurd h (by simp -implicitDefEqProofs (maxSteps := 3000000))
  · have h1 : (s ||| 2 ^ (cl T a b).toNat).testBit (cl T a b).toNat = true := (or_tb _ _ _).2 (.inr rfl)
    rw [e] at h1
    rw [A.sub _ h1] at h; exact absurd h (by simp -implicitDefEqProofs (maxSteps := 3000000))
def prd (T : List (List Int)) (L : List Int) (i k : Nat) : Nat := (cl T (rn L i).toNat (rn L k).toNat).toNat
theorem bitL_elem {s i : Nat} (h : i < (bitL s).length) : ∃ a < 8, s.testBit a = true ∧ rn (bitL s) i = (a : Int) := by
  have := (mem_bitL s (rn (bitL s) i)).1 (mem_rn.2 ⟨i, h, rfl⟩)
  exact this
theorem lp_closed_2 (m : Nat) (hm : B + 1 ≤ m) (T : List (List Int)) (R : RowsOk T) (s0 : Nat) (h0 : ∀ a, s0.testBit a = true → a < T.length) (i : Nat) (hi : i < (bitL s0).length) (s1 : Nat) (A1 : Acc T s0 s1)
    {st : St} {o : Option (Ex × St)} (hx : loopC (cxAt 229 m) (lp Tryz.f229 2) st = o) {v : Nat}
    (f : obsL st.obs 32 = some (1, .box [.d (intss T)]) ∧ obsL st.obs 224 = some (v, .row (icells (bitL s0))) ∧ obsL st.obs 225 = none ∧ obsL st.obs 226 = none ∧ obsL st.obs 227 = none ∧ lookL st.env 1 = some (.d (.int .i64 s1)) ∧ lookL st.env 2 = some (.ptr 32 1 0) ∧ lookL st.env 5 = some (.d (.bool (mo s0 s1))) ∧ lookL st.env 6 = some (.own 224 v) ∧ lookL st.env 7 = some (.d (.int .i64 i)) ∧ lookL st.env 8 = some (.d (.int .i64 0))) :
    ∃ s s2, o = some (.exit 4, s) ∧ (Acc T s0 s2 ∧ (∀ a, s1.testBit a = true → s2.testBit a = true) ∧ ∀ k < (bitL s0).length, s2.testBit (prd T (bitL s0) i k) = true) ∧
      obsL s.obs 32 = some (1, .box [.d (intss T)]) ∧ obsL s.obs 224 = some (v, .row (icells (bitL s0))) ∧ obsL s.obs 225 = none ∧ obsL s.obs 226 = none ∧ obsL s.obs 227 = none ∧ lookL s.env 1 = some (.d (.int .i64 s2)) ∧ lookL s.env 2 = some (.ptr 32 1 0) ∧ lookL s.env 5 = some (.d (.bool (mo s0 s2))) ∧ lookL s.env 6 = some (.own 224 v) ∧ lookL s.env 7 = some (.d (.int .i64 i)) := by
  have hB := B_eq
  have hT := R.1
  have hlen : (bitL s0).length ≤ 8 := thoseL_le _ _
  have el := fun {k : Nat} (hk : k < (bitL s0).length) => bitL_elem hk
  generalize hL : bitL s0 = L at *
  generalize hl : lp Tryz.f229 2 = L at hx
  simp only [lp, bodyOf, Tryz.f229, Option.getD_some, loopsIn, List.append_nil, List.nil_append, List.cons_append, List.getD, List.getElem?_cons_zero, List.getElem?_cons_succ] at hl
  subst hl
  obtain ⟨qq, rfl, hqq⟩ := loop_end hx L.length (fun k s => ∃ g s2, (Acc T s0 s2 ∧ (∀ a, s1.testBit a = true → s2.testBit a = true) ∧ ∀ k' < k, s2.testBit (prd T L i k') = true) ∧ s = ⟨[(1, .d (.int .i64 s2)), (2, .ptr 32 1 0), (5, .d (.bool (mo s0 s2))), (6, .own 224 v), (7, .d (.int .i64 i)), (8, .d (.int .i64 k))], [(32, some (1, .box [.d (intss T)])), (224, some (v, .row (icells L)))], g⟩)
    (fun qq => ∃ s s2, qq = (.exit 4, s) ∧ (Acc T s0 s2 ∧ (∀ a, s1.testBit a = true → s2.testBit a = true) ∧ ∀ k < L.length, s2.testBit (prd T L i k) = true) ∧
      obsL s.obs 32 = some (1, .box [.d (intss T)]) ∧ obsL s.obs 224 = some (v, .row (icells L)) ∧ obsL s.obs 225 = none ∧ obsL s.obs 226 = none ∧ obsL s.obs 227 = none ∧ lookL s.env 1 = some (.d (.int .i64 s2)) ∧ lookL s.env 2 = some (.ptr 32 1 0) ∧ lookL s.env 5 = some (.d (.bool (mo s0 s2))) ∧ lookL s.env 6 = some (.own 224 v) ∧ lookL s.env 7 = some (.d (.int .i64 i)))
    (by show L.length < m; omega) ⟨st.g, s1, ⟨A1, fun _ h => h, fun k' hk => by omega⟩, by simp -implicitDefEqProofs (maxSteps := 3000000) [f]⟩
    (by
      rintro k s hk ⟨g, s2, ⟨A, hs, hp⟩, rfl⟩
      have w2 := wrap_id (n := (k : Int) + 1) (by omega)
      obtain ⟨a, ha8, ha, hae⟩ := el hi
      obtain ⟨b, hb8, hb, hbe⟩ := el hk
      have haN := h0 a ha
      have hbN := h0 b hb
      have hc := (R.2 a haN).2 b hbN
      have hrl := (R.2 a haN).1
      obtain ⟨z, hz⟩ := Int.eq_ofNat_of_zero_le hc.1
      have hzN : z < T.length := by omega
      have hz8 : z < 8 := by omega
      have hpr : prd T L i k = z := by rw [prd, hae, hbe, Int.toNat_natCast, Int.toNat_natCast, hz]; rfl
      have hadd := fun h => A.add (by omega) ha hb (show (cl T a b).toNat < T.length by rw [hz]; exact hzN) h
      rw [hz, Int.toNat_natCast] at hadd
      have w3 := wrap_u64 (n := (z : Int)) (by omega)
      have e1 : min z 64 = z := by omega
      have hn0 : ¬ ((z : Int) < 0) := by omega
      have e2 : (2 : Int) ^ z = ((2 ^ z : Nat) : Int) := by simp -implicitDefEqProofs (maxSteps := 3000000)
      have hpw : 2 ^ z < 256 := by have := Nat.pow_lt_pow_right (a := 2) (by omega) hz8; omega
      have hand := and_pow s2 z
      have slt := A.lt
      have rest : ∀ s3 : Nat, (∀ x, s2.testBit x = true → s3.testBit x = true) → s3.testBit z = true → (∀ a, s1.testBit a = true → s3.testBit a = true) ∧ ∀ k' < k + 1, s3.testBit (prd T L i k') = true := fun s3 h1 h2 => ⟨fun x hx => h1 x (hs x hx), fun k' hk' => by
        rcases Nat.lt_or_ge k' k with y | y
        · exact h1 _ (hp k' y)
        · obtain rfl : k' = k := by omega
          rw [hpr]; exact h2⟩
      have ortb := or_tb s2 z
      generalize 2 ^ z = p at *
      have w4 := wrap_id (n := (p : Int)) (by omega)
      have q1 : s2 &&& p ≤ s2 := Nat.and_le_left
      have w5 := wrap_id (n := ((s2 &&& p : Nat) : Int)) (by omega)
      have q2 : s2 ||| p < 2 ^ 8 := Nat.or_lt_two_pow (n := 8) slt hpw
      have w6 := wrap_id (n := ((s2 ||| p : Nat) : Int)) (by omega)
      have mm1 := mod64 (q := s2) (by omega)
      have mm2 := mod64 (q := p) (by omega)
      simp only [cl] at hz
      have haT : a < T.length := haN
      have hrl' : b < (rown T a).length := by omega
      by_cases ht : s2.testBit z = true
      · have hne : ¬ (s2 &&& p = 0) := fun y => by rw [hand.1 y] at ht; exact absurd ht (by simp -implicitDefEqProofs (maxSteps := 3000000))
        have r := rest s2 (fun _ h => h) ht
        have hne2 : (((s2 &&& p : Nat) : Int) == 0) = false := beq_f (by omega)
        simp -implicitDefEqProofs (maxSteps := 3000000) [hk, hi, hae, hbe, haT, hrl, hbN, hz, w2, w3, b64, e1, hn0, e2, w4, w5, mm1, mm2, hne, hne2]
        exact ⟨_, s2, ⟨A, r.1, r.2⟩, ⟨rfl, rfl⟩, rfl⟩
      · have hf : s2.testBit z = false := by simpa using ht
        have h00 : s2 &&& p = 0 := hand.2 hf
        have r := rest (s2 ||| p) (fun x hx => (ortb x).2 (.inl hx)) ((ortb z).2 (.inr rfl))
        have A2 := hadd hf
        rw [h00] at w5
        have w00 := wrap_id (n := 0) (by omega)
        simp -implicitDefEqProofs (maxSteps := 3000000) [hk, hi, hae, hbe, haT, hrl, hbN, hz, w2, w3, b64, e1, hn0, e2, w4, w5, w6, w00, mm1, mm2, h00]
        exact ⟨_, s2 ||| p, ⟨A2.1, r.1, r.2⟩, ⟨rfl, A2.2⟩, rfl⟩)
    (by
      rintro s ⟨g, s2, hA, rfl⟩
      simp -implicitDefEqProofs (maxSteps := 3000000)
      exact ⟨s2, hA, ⟨rfl, rfl⟩⟩)
  obtain ⟨s, s2, rfl, hq⟩ := hqq
  exact ⟨s, s2, rfl, hq⟩
end Go.Proofs.YtnfhglplafmfiaaGreatE
