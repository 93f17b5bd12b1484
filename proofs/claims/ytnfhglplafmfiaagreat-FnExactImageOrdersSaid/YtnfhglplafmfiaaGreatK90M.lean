/- Contracts of functions of the program and of the reference: what the evaluator gives for a call of each. -/
import Derived.Test.YtnfhglplafmfiaaGreatAEf
import Derived.Test.YtnfhglplafmfiaaGreatK1M
import Derived.Test.YtnfhglplafmfiaaGreatK4
import Derived.Test.YtnfhglplafmfiaaGreatK19
import Derived.Test.YtnfhglplafmfiaaGreatK29M
import Derived.Test.YtnfhglplafmfiaaGreatK64
namespace Go.Proofs.YtnfhglplafmfiaaGreatE
open Go Go.Proofs
set_option maxHeartbeats 4000000
set_option maxRecDepth 4000
set_option linter.unusedSimpArgs false
set_option linter.unusedVariables false
set_option pp.deepTerms false
set_option pp.deepTerms.threshold 10
/-! ## drawn numbers -/
@[simp] theorem ofD_pin (c : List YtnfhglplafmfiaaGreatE.D) : ofD (.pin c) = .d (.pin c) := rfl
@[simp] theorem range4 : List.range 4 = [0, 1, 2, 3] := rfl
@[simp] theorem range5 : List.range 5 = [0, 1, 2, 3, 4] := rfl
@[simp] theorem range7 : List.range 7 = [0, 1, 2, 3, 4, 5, 6] := rfl
@[simp] theorem range9 : List.range 9 = [0, 1, 2, 3, 4, 5, 6, 7, 8] := rfl
/-- A source: the code, where it stands, the hash. -/
def srcB (l : List Int) (p : Nat) (h : Int) : Ob := .box [.d (.pin (bcells l)), .d (.int .i64 p), .d (.int .u64 h)]
theorem flat_srcB (l : List Int) (p : Nat) (h : Int) : flatOb (srcB l p h) = true := by simp -implicitDefEqProofs (maxSteps := 3000000) [srcB, flatOb, retD, plainD]
structure SrcOk (l : List Int) (p : Nat) : Prop where
  hl : l.length ≤ 1000000000000
  hp : p ≤ l.length
  hb : ∀ i < l.length, 0 ≤ rn l i ∧ rn l i < 256
def Drawn (k r : Int) : Prop := (k < 1 → r = 0) ∧ (1 ≤ k → 0 ≤ r ∧ r < k)
theorem mask_wrap (a : Nat) : IntKind.i64.wrap (IntKind.u64.wrap ((a &&& (16777215 % 2 ^ IntKind.u64.bits : Int).toNat : Nat) : Int)) = ((a &&& 16777215 : Nat) : Int) := by
  have e : (16777215 % 2 ^ IntKind.u64.bits : Int).toNat = 16777215 := by decide
  have h : a &&& 16777215 ≤ 16777215 := Nat.and_le_right
  rw [e, wrap_u64 (by omega), wrap_id (by omega)]
theorem drawn_of {x k : Int} (hx : 0 ≤ x) (hk : 1 ≤ k) : Drawn k (x.tmod k) := by
  rw [tmod_nn k hx]
  exact ⟨fun z => by omega, fun _ => ⟨Int.emod_nonneg _ (by omega), Int.emod_lt_of_pos _ (by omega)⟩⟩
theorem byte_wrap {z : Int} (h : 0 ≤ z ∧ z < 256) : IntKind.i64.wrap z = z := wrap_id (by omega)
theorem ct_l01Next (n : Nat) (hn : B + 1 ≤ n) (l : List Int) (p : Nat) (S : SrcOk l p) (h k : Int) :
    ∃ (r : Int) (p' : Nat) (h' : Int), SrcOk l p' ∧ Drawn k r ∧ evalCall Tryz.prog An n 108 [.ptr 100000 0 0, .d (.int .i64 k)] [srcB l p h] = some ⟨.d (.int .i64 r), [], [some (srcB l p' h')]⟩ := by
  obtain ⟨m, rfl⟩ : ∃ m, n = m + 1 := ⟨n - 1, by omega⟩
  have hB := B_eq
  simp only [evalCall_at, fb108, bnd_some, bodyOf, Tryz.f108, Option.getD_some]
  by_cases hk : k < 1
  · refine ⟨0, p, h, S, ⟨fun _ => rfl, fun z => by omega⟩, ?_⟩
    simp -implicitDefEqProofs (maxSteps := 3000000) [srcB, hk]
  · have hk1 : ¬ (k < 1) := hk
    have hkz : k ≠ 0 := by omega
    have hl := S.hl
    by_cases hp : p < l.length
    · have hb := S.hb p hp
      have w2 := wrap_id (n := (p : Int) + 1) (by omega)
      have w3 := byte_wrap hb
      simp -implicitDefEqProofs (maxSteps := 3000000) [srcB, hk1, hkz, hp, w2, w3, mask_wrap]
      generalize hA : (_ &&& 16777215 : Nat) = A
      have hA2 : A ≤ 16777215 := by rw [← hA]; exact Nat.and_le_right
      have w4 := wrap_id (n := (A : Int) + rn l p) (by omega)
      rw [w4]
      exact ⟨_, p + 1, ⟨S.hl, by omega, S.hb⟩, drawn_of (by omega) (by omega), rfl, rfl⟩
    · simp -implicitDefEqProofs (maxSteps := 3000000) [srcB, hk1, hkz, hp, mask_wrap]
      exact ⟨_, p, S, drawn_of (Int.natCast_nonneg _) (by omega), rfl, rfl⟩
theorem ct_l01Pick (n : Nat) (hn : B + 2 ≤ n) (l : List Int) (p : Nat) (S : SrcOk l p) (h : Int) (c : List Int) (hc : 1 ≤ c.length ∧ c.length ≤ 1000) :
    ∃ (i : Nat) (p' : Nat) (h' : Int), SrcOk l p' ∧ i < c.length ∧ evalCall Tryz.prog An n 96 [.ptr 100000 0 0, .d (ints c)] [srcB l p h] = some ⟨.d (.int .i64 (rn c i)), [], [some (srcB l p' h')]⟩ := by
  obtain ⟨m, rfl⟩ : ∃ m, n = m + 1 := ⟨n - 1, by omega⟩
  have hB := B_eq
  simp only [evalCall_at, fb96, bnd_some, bodyOf, Tryz.f96, Option.getD_some]
  have w := wrap_id (n := (c.length : Int)) (by omega)
  obtain ⟨r, p', h', S', hr, c1⟩ := ct_l01Next m (by omega) l p S h c.length
  have hr2 := hr.2 (by omega)
  obtain ⟨i, rfl⟩ := Int.eq_ofNat_of_zero_le hr2.1
  have hi : i < c.length := by omega
  refine ⟨i, p', h', S', hi, ?_⟩
  simp only [srcB] at c1 ⊢
  simp -implicitDefEqProofs (maxSteps := 3000000) [w, c1, hi]
theorem ct_l01Near (n : Nat) (hn : B + 3 ≤ n) (l : List Int) (p : Nat) (S : SrcOk l p) (h : Int) (k : Int) (hk : 0 ≤ k ∧ k < 1000000) :
    ∃ (r : Int) (p' : Nat) (h' : Int), SrcOk l p' ∧ (-9223372036854775808 ≤ r ∧ r < 9223372036854775808) ∧ evalCall Tryz.prog An n 97 [.ptr 100000 0 0, .d (.int .i64 k)] [srcB l p h] = some ⟨.d (.int .i64 r), [], [some (srcB l p' h')]⟩ := by
  obtain ⟨m, rfl⟩ : ∃ m, n = m + 1 := ⟨n - 1, by omega⟩
  have hB := B_eq
  simp only [evalCall_at, fb97, bnd_some, bodyOf, Tryz.f97, Option.getD_some]
  have w := wrap_id (n := k + 1) (by omega)
  obtain ⟨r, p', h', S', hr, c1⟩ := ct_l01Next m (by omega) l p S h 14
  by_cases hz : r = 0
  · subst hz
    obtain ⟨i, p2, h2, S2, hi, c2⟩ := ct_l01Pick m (by omega) l p' S' h' [-1, k + 1, 1099511627776, -4611686018427387904] (by simp -implicitDefEqProofs (maxSteps := 3000000))
    have hi4 : i < 4 := by simpa using hi
    have hb : -9223372036854775808 ≤ rn [-1, k + 1, 1099511627776, -4611686018427387904] i ∧ rn [-1, k + 1, 1099511627776, -4611686018427387904] i < 9223372036854775808 := by
      have e : i = 0 ∨ i = 1 ∨ i = 2 ∨ i = 3 := by omega
      rcases e with rfl | rfl | rfl | rfl <;> simp -implicitDefEqProofs (maxSteps := 3000000) [rn] <;> omega
    refine ⟨rn [-1, k + 1, 1099511627776, -4611686018427387904] i, p2, h2, S2, hb, ?_⟩
    rw [show ints [-1, k + 1, 1099511627776, -4611686018427387904] = .sl 1 [.int .i64 (-1), .int .i64 (k + 1), .int .i64 1099511627776, .int .i64 (-4611686018427387904)] from rfl] at c2
    simp only [srcB] at c1 c2 ⊢
    generalize rn [-1, k + 1, 1099511627776, -4611686018427387904] i = z at *
    simp -implicitDefEqProofs (maxSteps := 3000000) [w, c1, c2]
  · obtain ⟨q, p2, h2, S2, hq, c2⟩ := ct_l01Next m (by omega) l p' S' h' (k + 1)
    have hq2 := hq.2 (by omega)
    refine ⟨q, p2, h2, S2, by omega, ?_⟩
    simp only [srcB] at c1 c2 ⊢
    simp -implicitDefEqProofs (maxSteps := 3000000) [w, c1, c2, hz, beq_f hz]
theorem ct_l01From (n : Nat) (hn : B + 1 ≤ n) (l : List Int) (hl : l.length ≤ 1000000000000) (hb : ∀ i < l.length, 0 ≤ rn l i ∧ rn l i < 256) :
    ∃ h' : Int, evalCall Tryz.prog An n 94 [.d (.pin (bcells l))] [] = some ⟨.ptr 0 0 0, [srcB l 0 h'], []⟩ := by
  obtain ⟨m, rfl⟩ : ∃ m, n = m + 1 := ⟨n - 1, by omega⟩
  have hB := B_eq
  simp only [evalCall_at, fb94, bnd_some, bodyOf, Tryz.f94, Option.getD_some]
  generalize hb0 : Code.loop _ = cc0
  obtain rfl : cc0 = .loop (lp Tryz.f94 0) := by rw [← hb0]; rfl
  clear hb0
  simp -implicitDefEqProofs (maxSteps := 3000000)
  generalize hx : loopC _ _ _ = x
  generalize hl : lp Tryz.f94 0 = L at hx
  simp only [lp, bodyOf, Tryz.f94, Option.getD_some, loopsIn, List.append_nil, List.nil_append, List.cons_append, List.getD, List.getElem?_cons_zero, List.getElem?_cons_succ] at hl
  subst hl
  obtain ⟨qq, rfl, hqq⟩ := loop_end hx (min l.length 4096) (fun i s => ∃ g h', s = ⟨[(0, .d (.pin (bcells l))), (3, .ptr 176 8 0), (4, .d (.int .i64 i))], [(176, some (8, .box [.d (.pin (bcells l)), .d (.int .i64 0), .d (.int .u64 h')]))], g⟩)
    (fun qq => ∃ s h', qq = (.exit 0, s) ∧ obsL s.obs 176 = some (8, .box [.d (.pin (bcells l)), .d (.int .i64 0), .d (.int .u64 h')]) ∧ lookL s.env 3 = some (.ptr 176 8 0))
    (by show min l.length 4096 < m; omega) (by simp -implicitDefEqProofs (maxSteps := 3000000))
    (by
      rintro i s hi ⟨g, h', rfl⟩
      have hi1 : i < l.length := by omega
      have hi2 : (i : Int) < 4096 := by omega
      have w2 := wrap_id (n := (i : Int) + 1) (by omega)
      simp -implicitDefEqProofs (maxSteps := 3000000) [hi1, hi2, w2])
    (by
      rintro s ⟨g, h', rfl⟩
      by_cases h1 : l.length ≤ 4096
      · have e : min l.length 4096 = l.length := by omega
        rw [e]
        simp -implicitDefEqProofs (maxSteps := 3000000)
      · have e : min l.length 4096 = 4096 := by omega
        have h2 : 4096 < l.length := by omega
        have h3 : (4096 : Int) < l.length := by omega
        rw [e]
        simp -implicitDefEqProofs (maxSteps := 3000000) [h2, h3])
  obtain ⟨s, h', rfl, hf⟩ := hqq
  refine ⟨h', ?_⟩
  simp -implicitDefEqProofs (maxSteps := 3000000) [hf, srcB]
end Go.Proofs.YtnfhglplafmfiaaGreatE

namespace Go.Proofs.YtnfhglplafmfiaaGreatE
open Go Go.Proofs
set_option maxHeartbeats 8000000
set_option maxRecDepth 4000
set_option linter.unusedSimpArgs false
set_option linter.unusedVariables false
set_option pp.deepTerms false
set_option pp.deepTerms.threshold 10
/-! ## drawn arguments -/
theorem nz : ((0 : Nat) : Int) = 0 := rfl
structure CodeOk (l : List Int) : Prop where
  hl : l.length ≤ 1000000000000
  hb : ∀ i < l.length, 0 ≤ rn l i ∧ rn l i < 256
theorem CodeOk.src {l : List Int} (C : CodeOk l) : SrcOk l 0 := ⟨C.hl, Nat.zero_le _, C.hb⟩
theorem tmem_zero {q K : Int} (hq : 2 ≤ q ∧ q ≤ 200) : 0 < (tmem q K).length ∧ (tmem q K).length ≤ 200 := by
  have h1 : (0 : Int) ∈ tmem q K := mem_fltL.2 ⟨by omega, by simp⟩
  have h2 := fltL_le (fun x => K * x % q == 0) q.toNat
  exact ⟨List.length_pos_of_mem h1, by unfold tmem; omega⟩
theorem tmem_bd {q K : Int} {i : Nat} (hi : i < (tmem q K).length) : 0 ≤ rn (tmem q K) i ∧ rn (tmem q K) i < q := by
  have h1 : rn (tmem q K) i ∈ tmem q K := mem_rn.2 ⟨i, hi, rfl⟩
  have := (mem_fltL.1 h1).1
  omega
end Go.Proofs.YtnfhglplafmfiaaGreatE

namespace Go.Proofs.YtnfhglplafmfiaaGreatE
open Go Go.Proofs
set_option maxHeartbeats 4000000
set_option maxRecDepth 4000
set_option linter.unusedSimpArgs false
set_option linter.unusedVariables false
/-! ## sums of multiples of rows modulo m -/
inductive Sp (m : Int) (G : (Nat → Int) → Prop) : (Nat → Int) → Prop
  | zero {u : Nat → Int} (h : ∀ i, m ∣ u i) : Sp m G u
  | step {u w g : Nat → Int} (x : Int) (hg : G g) (hu : Sp m G u) (h : ∀ i, m ∣ w i - (u i + x * g i)) : Sp m G w
theorem Sp.cong {m : Int} {G : (Nat → Int) → Prop} {u w : Nat → Int} (hu : Sp m G u) (h : ∀ i, m ∣ w i - u i) : Sp m G w := by
  cases hu with
  | zero h0 => exact .zero fun i => by have := Int.dvd_add (h i) (h0 i); rwa [Int.sub_add_cancel] at this
  | step x hg hu h0 =>
    refine .step x hg hu fun i => ?_
    have := Int.dvd_add (h i) (h0 i)
    rwa [show ∀ a b c : Int, a - b + (b - c) = a - c by intro a b c; omega] at this
theorem Sp.gen {m : Int} {G : (Nat → Int) → Prop} {g : Nat → Int} (hg : G g) : Sp m G g :=
  .step (u := fun _ => 0) 1 hg (.zero fun _ => Int.dvd_zero m) fun i => by simp -implicitDefEqProofs (maxSteps := 3000000)
theorem Sp.add {m : Int} {G : (Nat → Int) → Prop} {u w : Nat → Int} (hu : Sp m G u) (hw : Sp m G w) : Sp m G (fun i => u i + w i) := by
  induction hw with
  | @zero w h => exact hu.cong fun i => by rw [show u i + w i - u i = w i by omega]; exact h i
  | @step u' w' g x hg hu' h ih =>
    refine .step x hg ih fun i => ?_
    have := h i
    rwa [show u i + w' i - (u i + u' i + x * g i) = w' i - (u' i + x * g i) by omega]
theorem Sp.smul {m : Int} {G : (Nat → Int) → Prop} {u : Nat → Int} (c : Int) (hu : Sp m G u) : Sp m G (fun i => c * u i) := by
  induction hu with
  | zero h => exact .zero fun i => Int.dvd_mul_of_dvd_right (b := c) (h i)
  | @step u' w' g x hg hu' h ih =>
    refine .step (c * x) hg ih fun i => ?_
    have := Int.dvd_mul_of_dvd_right (b := c) (h i)
    rwa [show c * w' i - (c * u' i + c * x * g i) = c * (w' i - (u' i + x * g i)) by grind]
theorem Sp.comb {m : Int} {G : (Nat → Int) → Prop} {u w v : Nat → Int} (x y : Int) (hu : Sp m G u) (hw : Sp m G w) (h : ∀ i, m ∣ v i - (x * u i + y * w i)) : Sp m G v :=
  ((hu.smul x).add (hw.smul y)).cong h
theorem Sp.trans {m : Int} {G G' : (Nat → Int) → Prop} {u : Nat → Int} (hu : Sp m G u) (h : ∀ g, G g → Sp m G' g) : Sp m G' u := by
  induction hu with
  | zero h0 => exact .zero h0
  | @step u' w' g x hg hu' h0 ih => exact Sp.comb 1 x ih (h g hg) fun i => by rw [Int.one_mul]; exact h0 i
theorem Sp.mono {m : Int} {G G' : (Nat → Int) → Prop} {u : Nat → Int} (hu : Sp m G u) (h : ∀ g, G g → G' g) : Sp m G' u := hu.trans fun g hg => .gen (h g hg)
/-- A linear map takes sums of multiples to such. -/
theorem Sp.map {m m' : Int} {G G' : (Nat → Int) → Prop} {u : Nat → Int} (hu : Sp m G u) (f : (Nat → Int) → (Nat → Int))
    (h0 : ∀ u, (∀ i, m ∣ u i) → Sp m' G' (f u)) (h1 : ∀ u w g x, (∀ i, m ∣ w i - (u i + x * g i)) → G g → Sp m' G' (f u) → Sp m' G' (f w)) : Sp m' G' (f u) := by
  induction hu with
  | zero h => exact h0 _ h
  | @step u' w' g x hg hu' h ih => exact h1 _ _ _ x h hg ih
/-! ## rows with steps -/
/-- Zero before a place. -/
def Zb (v : List Int) (k : Nat) : Prop := ∀ i < k, rn v i = 0
/-- A row of N numbers from 0 to m - 1. -/
def Vec (m : Int) (N : Nat) (v : List Int) : Prop := v.length = N ∧ ∀ i, 0 ≤ rn v i ∧ rn v i < m
/-- At each place no row (nil), or one that begins there with a divisor of m. -/
structure Rws (m : Int) (N : Nat) (R : List (List Int)) : Prop where
  len : R.length = N
  row : ∀ j, rown R j ≠ [] → Vec m N (rown R j) ∧ Zb (rown R j) j ∧ 0 < rn (rown R j) j ∧ rn (rown R j) j ∣ m
/-- The rows from a place on. -/
def GR (R : List (List Int)) (k : Nat) (g : Nat → Int) : Prop := ∃ j, k ≤ j ∧ rown R j ≠ [] ∧ g = rn (rown R j)
/-- The rows from a place on, and those of a list that are 0 before it. -/
def GA (R T : List (List Int)) (k : Nat) (g : Nat → Int) : Prop := GR R k g ∨ ∃ v ∈ T, Zb v k ∧ g = rn v
structure Sat (m : Int) (N : Nat) (R T : List (List Int)) : Prop where
  rws : Rws m N R
  vec : ∀ v ∈ T, Vec m N v
  sat : ∀ j, rown R j ≠ [] → Sp m (GA R T (j + 1)) (fun i => m / rn (rown R j) j * rn (rown R j) i)
theorem rown_ne_lt {R : List (List Int)} {j : Nat} (h : rown R j ≠ []) : j < R.length := by
  rcases Nat.lt_or_ge j R.length with z | z
  · exact z
  · exact absurd (by simp -implicitDefEqProofs (maxSteps := 3000000) [rown, List.getD, z]) h
theorem Zb.zero (v : List Int) : Zb v 0 := fun i hi => by omega
theorem GR.mono {R : List (List Int)} {k k' : Nat} (h : k' ≤ k) {g : Nat → Int} (hg : GR R k g) : GR R k' g := by
  obtain ⟨j, h1, h2, h3⟩ := hg
  exact ⟨j, by omega, h2, h3⟩
theorem GA_nil {R : List (List Int)} {k : Nat} {g : Nat → Int} : GA R [] k g ↔ GR R k g := by simp -implicitDefEqProofs (maxSteps := 3000000) [GA]
/-- What is zero before a place is a sum of multiples of the rows from it on. -/
theorem howell {m : Int} {N : Nat} {R : List (List Int)} (hm : 0 < m) (S : Sat m N R []) : ∀ (k : Nat) (u : Nat → Int), Sp m (GR R 0) u → (∀ i < k, m ∣ u i) → Sp m (GR R k) u := by
  intro k
  induction k with
  | zero => intro u hu _; exact hu
  | succ k ih =>
    intro u hu hz
    have h1 := ih u hu (fun i hi => hz i (by omega))
    -- u = c R_k + rest
    have split : ∀ u, Sp m (GR R k) u → ∃ (c : Int) (w : Nat → Int), Sp m (GR R (k + 1)) w ∧ ((rown R k = [] ∧ ∀ i, m ∣ u i - w i) ∨ (rown R k ≠ [] ∧ ∀ i, m ∣ u i - (w i + c * rn (rown R k) i))) := by
      intro u hu
      induction hu with
      | @zero u h =>
        refine ⟨0, u, .zero h, ?_⟩
        by_cases e : rown R k = []
        · exact .inl ⟨e, fun i => by simp⟩
        · exact .inr ⟨e, fun i => by simp⟩
      | @step u' w' g x hg hu' h ih2 =>
        obtain ⟨c, w, hw, hc⟩ := ih2
        obtain ⟨j, hj, hne, rfl⟩ := hg
        rcases Nat.lt_or_ge k j with z | z
        · refine ⟨c, fun i => w i + x * rn (rown R j) i, .step x ⟨j, by omega, hne, rfl⟩ hw (fun i => by simp -implicitDefEqProofs (maxSteps := 3000000)), ?_⟩
          rcases hc with ⟨e, hc⟩ | ⟨e, hc⟩
          · refine .inl ⟨e, fun i => ?_⟩
            have := Int.dvd_add (h i) (hc i)
            rwa [show w' i - (u' i + x * rn (rown R j) i) + (u' i - w i) = w' i - (w i + x * rn (rown R j) i) by omega] at this
          · refine .inr ⟨e, fun i => ?_⟩
            have := Int.dvd_add (h i) (hc i)
            rwa [show w' i - (u' i + x * rn (rown R j) i) + (u' i - (w i + c * rn (rown R k) i)) = w' i - (w i + x * rn (rown R j) i + c * rn (rown R k) i) by omega] at this
        · obtain rfl : j = k := by omega
          rcases hc with ⟨e, hc⟩ | ⟨e, hc⟩
          · exact absurd e hne
          · refine ⟨c + x, w, hw, .inr ⟨e, fun i => ?_⟩⟩
            have := Int.dvd_add (h i) (hc i)
            rwa [show w' i - (u' i + x * rn (rown R j) i) + (u' i - (w i + c * rn (rown R j) i)) = w' i - (w i + (c + x) * rn (rown R j) i) by grind] at this
    obtain ⟨c, w, hw, hc⟩ := split u h1
    have wz : ∀ (w : Nat → Int), Sp m (GR R (k + 1)) w → m ∣ w k := by
      intro w hw
      induction hw with
      | zero h => exact h k
      | @step u' w' g x hg hu' h ih2 =>
        obtain ⟨j, hj, hne, rfl⟩ := hg
        have h2 := (S.rws.row j hne).2.1 k (by omega)
        have := Int.dvd_add (h k) ih2
        rw [h2] at this
        rwa [show w' k - (u' k + x * 0) + u' k = w' k by omega] at this
    rcases hc with ⟨e, hc⟩ | ⟨e, hc⟩
    · exact hw.cong hc
    · obtain ⟨_, _, hpos, hdv⟩ := S.rws.row k e
      have h2 := hz k (by omega)
      have h3 := hc k
      have h4 := wz w hw
      have h5 : m ∣ c * rn (rown R k) k := by
        have := Int.dvd_sub (Int.dvd_sub h2 h3) h4
        rwa [show u k - (u k - (w k + c * rn (rown R k) k)) - w k = c * rn (rown R k) k by omega] at this
      obtain ⟨q, hq⟩ := hdv
      have hq2 : m / rn (rown R k) k = q := by rw [hq, Int.mul_ediv_cancel_left _ (by omega)]
      -- q divides c
      have h6 : q ∣ c := by
        obtain ⟨t, ht⟩ := h5
        refine ⟨t, ?_⟩
        have : rn (rown R k) k * c = rn (rown R k) k * (q * t) := by rw [Int.mul_comm, ht]; rw (config := {occs := .pos [1]}) [hq]; rw [Int.mul_assoc]
        exact Int.eq_of_mul_eq_mul_left (by omega) this
      obtain ⟨t, rfl⟩ := h6
      have h7 := S.sat k e
      rw [hq2] at h7
      have h8 : Sp m (GR R (k + 1)) (fun i => q * rn (rown R k) i) := h7.mono fun g hg => GA_nil.1 hg
      refine Sp.comb 1 t hw h8 fun i => ?_
      have := hc i
      rwa [show u i - (1 * w i + t * (q * rn (rown R k) i)) = u i - (w i + q * t * rn (rown R k) i) by grind]
/-- The number at the head of the place j: m where there is no row. -/
def stpD (m : Int) (R : List (List Int)) (j : Nat) : Int := if rown R j = [] then m else rn (rown R j) j
theorem stpD_pos {m : Int} {N : Nat} {R : List (List Int)} (hm : 0 < m) (S : Rws m N R) (j : Nat) : 0 < stpD m R j ∧ stpD m R j ∣ m := by
  unfold stpD
  split
  · exact ⟨hm, Int.dvd_refl m⟩
  · rename_i h
    exact (S.row j h).2.2
/-- The head of what is zero before j is a multiple of the step's divisor. -/
theorem head_dvd {m : Int} {N : Nat} {R : List (List Int)} (hm : 0 < m) (S : Sat m N R []) {u : Nat → Int} {j : Nat} (hu : Sp m (GR R 0) u) (hz : ∀ i < j, m ∣ u i) : stpD m R j ∣ u j := by
  have h := howell hm S j u hu hz
  have hd := (stpD_pos hm S.rws j).2
  clear hu hz
  induction h with
  | zero h => exact Int.dvd_trans hd (h j)
  | @step u' w' g x hg hu' h ih =>
    obtain ⟨k, hk, hne, rfl⟩ := hg
    have h1 : stpD m R j ∣ rn (rown R k) j := by
      rcases Nat.lt_or_ge j k with z | z
      · rw [(S.rws.row k hne).2.1 j z]; exact Int.dvd_zero _
      · obtain rfl : k = j := by omega
        unfold stpD
        rw [if_neg hne]; exact Int.dvd_refl _
    have h2 := Int.dvd_trans hd (h j)
    have := Int.dvd_add (Int.dvd_add h2 ih) (Int.dvd_mul_of_dvd_right (b := x) h1)
    rwa [show w' j - (u' j + x * rn (rown R k) j) + u' j + x * rn (rown R k) j = w' j by omega] at this
/-- Rows with the same sums have the same steps. -/
theorem stpD_eq {m : Int} {N N' : Nat} {R R' : List (List Int)} (hm : 0 < m) (S : Sat m N R []) (S' : Sat m N' R' []) (h : ∀ u, Sp m (GR R 0) u ↔ Sp m (GR R' 0) u) (j : Nat) : stpD m R j = stpD m R' j := by
  have key : ∀ {N N' : Nat} {R R' : List (List Int)}, Sat m N R [] → Sat m N' R' [] → (∀ u, Sp m (GR R 0) u → Sp m (GR R' 0) u) → stpD m R' j ∣ stpD m R j := by
    intro N N' R R' S S' h
    by_cases e : rown R j = []
    · have : stpD m R j = m := by simp -implicitDefEqProofs (maxSteps := 3000000) [stpD, e]
      rw [this]; exact (stpD_pos hm S'.rws j).2
    · have : stpD m R j = rn (rown R j) j := by simp -implicitDefEqProofs (maxSteps := 3000000) [stpD, e]
      rw [this]
      refine head_dvd hm S' (h _ (.gen ⟨j, by omega, e, rfl⟩)) fun i hi => ?_
      rw [(S.rws.row j e).2.1 i hi]; exact Int.dvd_zero _
  exact Int.dvd_antisymm (Int.le_of_lt (stpD_pos hm S.rws j).1) (Int.le_of_lt (stpD_pos hm S'.rws j).1) (key S' S fun u => (h u).2) (key S S' fun u => (h u).1)
end Go.Proofs.YtnfhglplafmfiaaGreatE
