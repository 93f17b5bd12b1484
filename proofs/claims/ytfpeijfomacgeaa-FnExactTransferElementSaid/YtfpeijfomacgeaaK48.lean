/- Contracts of functions of the program and of the reference: what the evaluator gives for a call of each. -/
import Derived.Test.YtfpeijfomacgeaaAEf
import Derived.Test.YtfpeijfomacgeaaK0
import Derived.Test.YtfpeijfomacgeaaK3
import Derived.Test.YtfpeijfomacgeaaK7
import Derived.Test.YtfpeijfomacgeaaK8
import Derived.Test.YtfpeijfomacgeaaK21
import Derived.Test.YtfpeijfomacgeaaK23
import Derived.Test.YtfpeijfomacgeaaK24
import Derived.Test.YtfpeijfomacgeaaK31
import Derived.Test.YtfpeijfomacgeaaK33
import Derived.Test.YtfpeijfomacgeaaK34
import Derived.Test.YtfpeijfomacgeaaK42
import Derived.Test.YtfpeijfomacgeaaK44
import Derived.Test.YtfpeijfomacgeaaK47
namespace Go.Proofs.YtfpeijfomacgeaaE
open Go Go.Proofs
set_option maxHeartbeats 4000000
set_option maxRecDepth 4000
set_option linter.unusedSimpArgs false
set_option linter.unusedVariables false
set_option pp.deepTerms false
set_option pp.deepTerms.threshold 10
/-! ## the program's centre -/
theorem ct_centre11 (n : Nat) (hn : B + 2 ≤ n) (S : List (List Int)) (R : RowsOk S) (hz : ∀ a < S.length, cl S 0 a = a) (a b : Nat) (ha : a < S.length) (hb : b < S.length) :
    evalCall Try.prog An n 119 [.d (.int .i64 b), .d (.cellp [intss S]), .d (.cellp [.int .i64 a])] [] = some ⟨.d (.bool (decide (¬ cl S a b = cl S b a))), [], []⟩ := by
  obtain ⟨m, rfl⟩ : ∃ m, n = m + 1 := ⟨n - 1, by omega⟩
  have hB := B_eq
  simp only [evalCall_at, fb119, bnd_some, bodyOf, Try.f119, Option.getD_some]
  have c1 := ct_times2 m (by omega) S R a b ha hb (hz a ha)
  have c2 := ct_times2 m (by omega) S R b a hb ha (hz b hb)
  by_cases q : cl S a b = cl S b a
  · simp -implicitDefEqProofs (maxSteps := 3000000) [c1, c2, q]
  · have q2 := bne_t q
    simp -implicitDefEqProofs (maxSteps := 3000000) [c1, c2, q, q2]
theorem ct_centre1 (n : Nat) (hn : B + 5 ≤ n) (S : List (List Int)) (R : RowsOk S) (hz : ∀ a < S.length, cl S 0 a = a) (a : Nat) (ha : a < S.length) :
    evalCall Try.prog An n 116 [.d (.int .i64 a), .d (.cellp [intss S])] [] = some ⟨.d (.bool (cenQ S a)), [], []⟩ := by
  obtain ⟨m, rfl⟩ : ∃ m, n = m + 1 := ⟨n - 1, by omega⟩
  have hB := B_eq
  simp only [evalCall_at, fb116, bnd_some, bodyOf, Try.f116, Option.getD_some]
  have hT := R.1
  have c0 := ct_order m (by omega) S
  have c1 := ct_counting m (by omega) S.length (by omega)
  have c2 := ct_ContainsFunc m (by omega) (tabI (fun i => (i : Int)) S.length) (by simp; omega) 119 [.cellp [intss S], .cellp [.int .i64 a]] (fun x => ¬ cl S a x.toNat = cl S x.toNat a) (B + 2) (by omega)
    (fun m hm i hi => by
      have hi' : i < S.length := by simpa using hi
      have e : rn (tabI (fun i => (i : Int)) S.length) i = (i : Int) := rn_tabI _ hi'
      rw [e]
      simpa using ct_centre11 m hm S R hz a i ha hi') (by simp -implicitDefEqProofs (maxSteps := 3000000))
  by_cases p : ∀ b < S.length, cl S a b = cl S b a
  · have e1 : cenQ S a = true := bl_true p
    rw [bl_false (fun ⟨i, hi, z⟩ => by
      have hi' : i < S.length := by simpa using hi
      rw [rn_tabI _ hi'] at z
      exact z (p i hi'))] at c2
    simp -implicitDefEqProofs (maxSteps := 3000000) [c0, c1, c2, e1]
  · have e1 : cenQ S a = false := bl_false p
    rw [bl_true (Classical.byContradiction fun w => p fun b hb => Classical.byContradiction fun q => w ⟨b, by simpa using hb, by rw [rn_tabI _ hb]; exact q⟩)] at c2
    simp -implicitDefEqProofs (maxSteps := 3000000) [c0, c1, c2, e1]
theorem ct_centre (n : Nat) (hn : B + 10 ≤ n) (S : List (List Int)) (R : RowsOk S) (hz : ∀ a < S.length, cl S 0 a = a) :
    evalCall Try.prog An n 102 [.agg [.d (intss S)]] [] = some ⟨.own 0 0, [.row (icells (cenL S))], []⟩ := by
  obtain ⟨m, rfl⟩ : ∃ m, n = m + 1 := ⟨n - 1, by omega⟩
  have hB := B_eq
  simp only [evalCall_at, fb102, bnd_some, bodyOf, Try.f102, Option.getD_some]
  have hT := R.1
  have c1 := ct_those m (by omega) S (by omega) 116 [.cellp [intss S]] (cenQ S) (B + 5) (by omega)
    (fun m hm i hi => by simpa using ct_centre1 m hm S R hz i hi) (by simp -implicitDefEqProofs (maxSteps := 3000000))
  have e : thoseL (cenQ S) S.length = cenL S := rfl
  rw [e] at c1
  simp -implicitDefEqProofs (maxSteps := 3000000) [c1]
theorem ct_isAbelian (n : Nat) (hn : B + 11 ≤ n) (S : List (List Int)) (R : RowsOk S) (hz : ∀ a < S.length, cl S 0 a = a) :
    evalCall Try.prog An n 71 [.agg [.d (intss S)]] [] = some ⟨.d (.bool (bl ((cenL S).length = S.length))), [], []⟩ := by
  obtain ⟨m, rfl⟩ : ∃ m, n = m + 1 := ⟨n - 1, by omega⟩
  have hB := B_eq
  simp only [evalCall_at, fb71, bnd_some, bodyOf, Try.f71, Option.getD_some]
  have hT := R.1
  have c0 := ct_order m (by omega) S
  have c1 := ct_centre m (by omega) S R hz
  have tl := thoseL_le (cenQ S) S.length
  have w := wrap_id (n := ((cenL S).length : Int)) (by have : (cenL S).length ≤ S.length := tl; omega)
  by_cases p : (cenL S).length = S.length
  · rw [bl_true p]
    rw [p] at w
    simp -implicitDefEqProofs (maxSteps := 3000000) [c0, c1, w, p]
  · rw [bl_false p]
    have p2 := beq_f (show ((cenL S).length : Int) ≠ S.length by omega)
    simp -implicitDefEqProofs (maxSteps := 3000000) [c0, c1, w, p, p2]
theorem sbG_cl {T : List (List Int)} {h : List Int} {i k : Nat} (hi : i < h.length) (hk : k < h.length) : cl (sbG T h) i k = sbE T h i k := by
  simp only [cl, sbG]
  rw [rown_tabM _ hi, sbR, rn_tabI _ hk]
theorem sbG_ok {T : List (List Int)} {h : List Int} (H : HGood T h) : RowsOk (sbG T h) := by
  have hT := H.1.1.1
  have hlen := setOk_len H.2.1
  have hp := H.pos
  refine ⟨by rw [sbG_len]; omega, fun a ha => ?_⟩
  rw [sbG_len] at ha ⊢
  refine ⟨by rw [sbG, rown_tabM _ ha]; simp -implicitDefEqProofs (maxSteps := 3000000) [sbR], fun b hb => ?_⟩
  rw [sbG_cl ha hb]
  have := (pl_spec (sb_mem H ha hb)).1
  simp only [sbE]
  omega
theorem sbG_zero {T : List (List Int)} {h : List Int} (H : HGood T h) : ∀ a < (sbG T h).length, cl (sbG T h) 0 a = a := fun a ha => by
  rw [sbG_len] at ha
  have hp := H.pos
  have z := (zero_first H.2.1).2 H.2.2.1
  rw [sbG_cl hp ha]
  have ra := H.2.1.1 a ha
  obtain ⟨x, hx⟩ := Int.eq_ofNat_of_zero_le ra.1
  have hxT : x < T.length := by omega
  have e : sbE T h 0 a = (pl h x : Int) := by
    simp only [sbE]
    rw [z.2, hx, Int.toNat_natCast, show (0 : Int).toNat = 0 from rfl, mu_0l H.1 hxT]
  rw [e, ← pl_uniq (setOk_nodup H.2.1) ha hx]
end Go.Proofs.YtfpeijfomacgeaaE
