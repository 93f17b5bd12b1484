/- Contracts of functions of the program and of the reference: what the evaluator gives for a call of each. -/
import Derived.Test.YtcdmhlagibjeiaaAEf
import Derived.Test.YtcdmhlagibjeiaaK0
import Derived.Test.YtcdmhlagibjeiaaK4
import Derived.Test.YtcdmhlagibjeiaaK19
namespace Go.Proofs.YtcdmhlagibjeiaaE
open Go Go.Proofs
set_option maxHeartbeats 4000000
set_option maxRecDepth 4000
set_option linter.unusedSimpArgs false
set_option linter.unusedVariables false
set_option pp.deepTerms false
set_option pp.deepTerms.threshold 10
/-! ## drawn numbers -/
@[simp] theorem ofD_pin (c : List YtcdmhlagibjeiaaE.D) : ofD (.pin c) = .d (.pin c) := rfl
@[simp] theorem range4 : List.range 4 = [0, 1, 2, 3] := rfl
@[simp] theorem range5 : List.range 5 = [0, 1, 2, 3, 4] := rfl
@[simp] theorem range7 : List.range 7 = [0, 1, 2, 3, 4, 5, 6] := rfl
@[simp] theorem range9 : List.range 9 = [0, 1, 2, 3, 4, 5, 6, 7, 8] := rfl
/-- A source: the code, where it stands, the hash. -/
def srcB (l : List Int) (p : Nat) (h : Int) : Ob := .box [.d (.pin (bcells l)), .d (.int .i64 p), .d (.int .u64 h)]
theorem flat_srcB (l : List Int) (p : Nat) (h : Int) : flatOb (srcB l p h) = true := by simp -implicitDefEqProofs (maxSteps := 3000000) [srcB, flatOb, retD, plainD]
structure SrcOk (l : List Int) (p : Nat) : Prop where
  hl : l.length ≤ 1000000000000
  hp : p ≤ l.length
  hb : ∀ i < l.length, 0 ≤ rn l i ∧ rn l i < 256
def Drawn (k r : Int) : Prop := (k < 1 → r = 0) ∧ (1 ≤ k → 0 ≤ r ∧ r < k)
theorem mask_wrap (a : Nat) : IntKind.i64.wrap (IntKind.u64.wrap ((a &&& (16777215 % 2 ^ IntKind.u64.bits : Int).toNat : Nat) : Int)) = ((a &&& 16777215 : Nat) : Int) := by
  have e : (16777215 % 2 ^ IntKind.u64.bits : Int).toNat = 16777215 := by decide
  have h : a &&& 16777215 ≤ 16777215 := Nat.and_le_right
  rw [e, wrap_u64 (by omega), wrap_id (by omega)]
theorem drawn_of {x k : Int} (hx : 0 ≤ x) (hk : 1 ≤ k) : Drawn k (x.tmod k) := by
  rw [tmod_nn k hx]
  exact ⟨fun z => by omega, fun _ => ⟨Int.emod_nonneg _ (by omega), Int.emod_lt_of_pos _ (by omega)⟩⟩
theorem byte_wrap {z : Int} (h : 0 ≤ z ∧ z < 256) : IntKind.i64.wrap z = z := wrap_id (by omega)
theorem ct_l01Next (n : Nat) (hn : B + 1 ≤ n) (l : List Int) (p : Nat) (S : SrcOk l p) (h k : Int) :
    ∃ (r : Int) (p' : Nat) (h' : Int), SrcOk l p' ∧ Drawn k r ∧ evalCall Try.prog An n 78 [.ptr 100000 0 0, .d (.int .i64 k)] [srcB l p h] = some ⟨.d (.int .i64 r), [], [some (srcB l p' h')]⟩ := by
  obtain ⟨m, rfl⟩ : ∃ m, n = m + 1 := ⟨n - 1, by omega⟩
  have hB := B_eq
  simp only [evalCall_at, fb78, bnd_some, bodyOf, Try.f78, Option.getD_some]
  by_cases hk : k < 1
  · refine ⟨0, p, h, S, ⟨fun _ => rfl, fun z => by omega⟩, ?_⟩
    simp -implicitDefEqProofs (maxSteps := 3000000) [srcB, hk]
  · have hk1 : ¬ (k < 1) := hk
    have hkz : k ≠ 0 := by omega
    have hl := S.hl
    by_cases hp : p < l.length
    · have hb := S.hb p hp
      have w2 := wrap_id (n := (p : Int) + 1) (by omega)
      have w3 := byte_wrap hb
      simp -implicitDefEqProofs (maxSteps := 3000000) [srcB, hk1, hkz, hp, w2, w3, mask_wrap]
      generalize hA : (_ &&& 16777215 : Nat) = A
      have hA2 : A ≤ 16777215 := by rw [← hA]; exact Nat.and_le_right
      have w4 := wrap_id (n := (A : Int) + rn l p) (by omega)
      rw [w4]
      exact ⟨_, p + 1, ⟨S.hl, by omega, S.hb⟩, drawn_of (by omega) (by omega), rfl, rfl⟩
    · simp -implicitDefEqProofs (maxSteps := 3000000) [srcB, hk1, hkz, hp, mask_wrap]
      exact ⟨_, p, S, drawn_of (Int.natCast_nonneg _) (by omega), rfl, rfl⟩
theorem ct_l01Pick (n : Nat) (hn : B + 2 ≤ n) (l : List Int) (p : Nat) (S : SrcOk l p) (h : Int) (c : List Int) (hc : 1 ≤ c.length ∧ c.length ≤ 1000) :
    ∃ (i : Nat) (p' : Nat) (h' : Int), SrcOk l p' ∧ i < c.length ∧ evalCall Try.prog An n 63 [.ptr 100000 0 0, .d (ints c)] [srcB l p h] = some ⟨.d (.int .i64 (rn c i)), [], [some (srcB l p' h')]⟩ := by
  obtain ⟨m, rfl⟩ : ∃ m, n = m + 1 := ⟨n - 1, by omega⟩
  have hB := B_eq
  simp only [evalCall_at, fb63, bnd_some, bodyOf, Try.f63, Option.getD_some]
  have w := wrap_id (n := (c.length : Int)) (by omega)
  obtain ⟨r, p', h', S', hr, c1⟩ := ct_l01Next m (by omega) l p S h c.length
  have hr2 := hr.2 (by omega)
  obtain ⟨i, rfl⟩ := Int.eq_ofNat_of_zero_le hr2.1
  have hi : i < c.length := by omega
  refine ⟨i, p', h', S', hi, ?_⟩
  simp only [srcB] at c1 ⊢
  simp -implicitDefEqProofs (maxSteps := 3000000) [w, c1, hi]
theorem ct_l01Near (n : Nat) (hn : B + 3 ≤ n) (l : List Int) (p : Nat) (S : SrcOk l p) (h : Int) (k : Int) (hk : 0 ≤ k ∧ k < 1000000) :
    ∃ (r : Int) (p' : Nat) (h' : Int), SrcOk l p' ∧ (-9223372036854775808 ≤ r ∧ r < 9223372036854775808) ∧ evalCall Try.prog An n 58 [.ptr 100000 0 0, .d (.int .i64 k)] [srcB l p h] = some ⟨.d (.int .i64 r), [], [some (srcB l p' h')]⟩ := by
  obtain ⟨m, rfl⟩ : ∃ m, n = m + 1 := ⟨n - 1, by omega⟩
  have hB := B_eq
  simp only [evalCall_at, fb58, bnd_some, bodyOf, Try.f58, Option.getD_some]
  have w := wrap_id (n := k + 1) (by omega)
  obtain ⟨r, p', h', S', hr, c1⟩ := ct_l01Next m (by omega) l p S h 14
  by_cases hz : r = 0
  · subst hz
    obtain ⟨i, p2, h2, S2, hi, c2⟩ := ct_l01Pick m (by omega) l p' S' h' [-1, k + 1, 1099511627776, -4611686018427387904] (by simp -implicitDefEqProofs (maxSteps := 3000000))
    have hi4 : i < 4 := by simpa using hi
    have hb : -9223372036854775808 ≤ rn [-1, k + 1, 1099511627776, -4611686018427387904] i ∧ rn [-1, k + 1, 1099511627776, -4611686018427387904] i < 9223372036854775808 := by
      have e : i = 0 ∨ i = 1 ∨ i = 2 ∨ i = 3 := by omega
      rcases e with rfl | rfl | rfl | rfl <;> simp -implicitDefEqProofs (maxSteps := 3000000) [rn] <;> omega
    refine ⟨rn [-1, k + 1, 1099511627776, -4611686018427387904] i, p2, h2, S2, hb, ?_⟩
    rw [show ints [-1, k + 1, 1099511627776, -4611686018427387904] = .sl 1 [.int .i64 (-1), .int .i64 (k + 1), .int .i64 1099511627776, .int .i64 (-4611686018427387904)] from rfl] at c2
    simp only [srcB] at c1 c2 ⊢
    generalize rn [-1, k + 1, 1099511627776, -4611686018427387904] i = z at *
    simp -implicitDefEqProofs (maxSteps := 3000000) [w, c1, c2]
  · obtain ⟨q, p2, h2, S2, hq, c2⟩ := ct_l01Next m (by omega) l p' S' h' (k + 1)
    have hq2 := hq.2 (by omega)
    refine ⟨q, p2, h2, S2, by omega, ?_⟩
    simp only [srcB] at c1 c2 ⊢
    simp -implicitDefEqProofs (maxSteps := 3000000) [w, c1, c2, hz, beq_f hz]
theorem ct_l01From (n : Nat) (hn : B + 1 ≤ n) (l : List Int) (hl : l.length ≤ 1000000000000) (hb : ∀ i < l.length, 0 ≤ rn l i ∧ rn l i < 256) :
    ∃ h' : Int, evalCall Try.prog An n 57 [.d (.pin (bcells l))] [] = some ⟨.ptr 0 0 0, [srcB l 0 h'], []⟩ := by
  obtain ⟨m, rfl⟩ : ∃ m, n = m + 1 := ⟨n - 1, by omega⟩
  have hB := B_eq
  simp only [evalCall_at, fb57, bnd_some, bodyOf, Try.f57, Option.getD_some]
  generalize hb0 : Code.loop _ = cc0
  obtain rfl : cc0 = .loop (lp Try.f57 0) := by rw [← hb0]; rfl
  clear hb0
  simp -implicitDefEqProofs (maxSteps := 3000000)
  generalize hx : loopC _ _ _ = x
  generalize hl : lp Try.f57 0 = L at hx
  simp only [lp, bodyOf, Try.f57, Option.getD_some, loopsIn, List.append_nil, List.nil_append, List.cons_append, List.getD, List.getElem?_cons_zero, List.getElem?_cons_succ] at hl
  subst hl
  obtain ⟨qq, rfl, hqq⟩ := loop_end hx (min l.length 4096) (fun i s => ∃ g h', s = ⟨[(0, .d (.pin (bcells l))), (3, .ptr 176 8 0), (4, .d (.int .i64 i))], [(176, some (8, .box [.d (.pin (bcells l)), .d (.int .i64 0), .d (.int .u64 h')]))], g⟩)
    (fun qq => ∃ s h', qq = (.exit 0, s) ∧ obsL s.obs 176 = some (8, .box [.d (.pin (bcells l)), .d (.int .i64 0), .d (.int .u64 h')]) ∧ lookL s.env 3 = some (.ptr 176 8 0))
    (by show min l.length 4096 < m; omega) (by simp -implicitDefEqProofs (maxSteps := 3000000))
    (by
      rintro i s hi ⟨g, h', rfl⟩
      have hi1 : i < l.length := by omega
      have hi2 : (i : Int) < 4096 := by omega
      have w2 := wrap_id (n := (i : Int) + 1) (by omega)
      simp -implicitDefEqProofs (maxSteps := 3000000) [hi1, hi2, w2])
    (by
      rintro s ⟨g, h', rfl⟩
      by_cases h1 : l.length ≤ 4096
      · have e : min l.length 4096 = l.length := by omega
        rw [e]
        simp -implicitDefEqProofs (maxSteps := 3000000)
      · have e : min l.length 4096 = 4096 := by omega
        have h2 : 4096 < l.length := by omega
        have h3 : (4096 : Int) < l.length := by omega
        rw [e]
        simp -implicitDefEqProofs (maxSteps := 3000000) [h2, h3])
  obtain ⟨s, h', rfl, hf⟩ := hqq
  refine ⟨h', ?_⟩
  simp -implicitDefEqProofs (maxSteps := 3000000) [hf, srcB]
end Go.Proofs.YtcdmhlagibjeiaaE
