/- Contracts of functions of the program and of the reference: what the evaluator gives for a call of each. -/
import Derived.Test.YtfpeijfomacgeaaAEf
import Derived.Test.YtfpeijfomacgeaaK0
import Derived.Test.YtfpeijfomacgeaaK2
import Derived.Test.YtfpeijfomacgeaaK21
import Derived.Test.YtfpeijfomacgeaaK31
import Derived.Test.YtfpeijfomacgeaaK32
import Derived.Test.YtfpeijfomacgeaaK33
import Derived.Test.YtfpeijfomacgeaaK34
import Derived.Test.YtfpeijfomacgeaaK42
import Derived.Test.YtfpeijfomacgeaaK43
namespace Go.Proofs.YtfpeijfomacgeaaE
open Go Go.Proofs
set_option maxHeartbeats 4000000
set_option maxRecDepth 4000
set_option linter.unusedSimpArgs false
set_option linter.unusedVariables false
set_option pp.deepTerms false
set_option pp.deepTerms.threshold 10
/-! ## GroupOfSubgroup -/
theorem ct_eqGroup_nil (n : Nat) (hn : B + 3 ≤ n) :
    evalCall Try.prog An n 20 [.agg [.d .nil], .agg [.d .nil]] [] = some ⟨.d (.bool true), [], []⟩ := by
  obtain ⟨m, rfl⟩ : ∃ m, n = m + 1 := ⟨n - 1, by omega⟩
  have hB := B_eq
  simp only [evalCall_at, fb20, bnd_some, bodyOf, Try.f20, Option.getD_some]
  have c := ct_eqInt64SS_nil m (by omega)
  simp -implicitDefEqProofs (maxSteps := 3000000) [c]
theorem ct_markGroup_nil (n : Nat) (hn : B + 3 ≤ n) (k : Int) :
    evalCall Try.prog An n 21 [.agg [.d .nil], .d (.int .i64 k)] [] = some ⟨.d (.int .i64 k), [], []⟩ := by
  obtain ⟨m, rfl⟩ : ∃ m, n = m + 1 := ⟨n - 1, by omega⟩
  have hB := B_eq
  simp only [evalCall_at, fb21, bnd_some, bodyOf, Try.f21, Option.getD_some]
  have c := ct_markInt64SS_nil m (by omega) k
  simp -implicitDefEqProofs (maxSteps := 3000000) [c]
theorem ct_heldGroup_nil (n : Nat) (hn : B + 3 ≤ n) (k : Int) (hk : 0 ≤ k) :
    evalCall Try.prog An n 26 [.agg [.d .nil], .d (.int .i64 k)] [] = some ⟨.d (.int .i64 k), [], []⟩ := by
  obtain ⟨m, rfl⟩ : ∃ m, n = m + 1 := ⟨n - 1, by omega⟩
  have hB := B_eq
  simp only [evalCall_at, fb26, bnd_some, bodyOf, Try.f26, Option.getD_some]
  have c := ct_heldInt64SS_nil m (by omega) k
  have n1 : ¬ (k < 0) := by omega
  simp -implicitDefEqProofs (maxSteps := 3000000) [c, n1]
theorem ct_heldGroup (n : Nat) (hn : B + 3 ≤ n) (t : List (List Int)) (hl : t.length ≤ 10000) (hr : ∀ i, (rown t i).length ≤ 1048576) (k : Int) (hk : 0 ≤ k ∧ k < 10000000) :
    evalCall Try.prog An n 26 [.agg [.d (intss (mkt k t t.length))], .d (.int .i64 k)] [] = some ⟨.d (.int .i64 (mkv k t t.length)), [], []⟩ := by
  obtain ⟨m, rfl⟩ : ∃ m, n = m + 1 := ⟨n - 1, by omega⟩
  have hB := B_eq
  simp only [evalCall_at, fb26, bnd_some, bodyOf, Try.f26, Option.getD_some]
  have c := ct_heldInt64SS m (by omega) t hl hr k hk
  have r3 := mkv_bd k t hr t.length
  have n1 : ¬ (mkv k t t.length < 0) := by omega
  simp -implicitDefEqProofs (maxSteps := 3000000) [c, n1]
theorem ct_groupOf1 (n : Nat) (hn : B + 2 ≤ n) (T : List (List Int)) (h : List Int) (H : HGood T h) (i k : Nat) (hi : i < h.length) (hk : k < h.length) :
    evalCall Try.prog An n 96 [.d (.int .i64 i), .d (.int .i64 k), .d (.cellp [ints h]), .d (.cellp [intss T])] [] = some ⟨.d (.int .i64 (sbE T h i k)), [], []⟩ := by
  obtain ⟨m, rfl⟩ : ∃ m, n = m + 1 := ⟨n - 1, by omega⟩
  have hB := B_eq
  simp only [evalCall_at, fb96, bnd_some, bodyOf, Try.f96, Option.getD_some]
  have G := H.1
  have hT := G.1.1
  have hlen := setOk_len H.2.1
  have hd := setOk_nodup H.2.1
  have r1 := H.2.1.1 i hi
  have r2 := H.2.1.1 k hk
  have hmem := sb_mem H hi hk
  have ee : sbE T h i k = (pl h (mu T (rn h i).toNat (rn h k).toNat) : Int) := rfl
  obtain ⟨a, ha⟩ := Int.eq_ofNat_of_zero_le r1.1
  obtain ⟨b, hb⟩ := Int.eq_ofNat_of_zero_le r2.1
  rw [ha, hb, Int.toNat_natCast, Int.toNat_natCast] at ee hmem
  have haT : a < T.length := by omega
  have hbT : b < T.length := by omega
  have c1 := ct_times2i m (by omega) T G a b (by omega) (by omega)
  rw [Int.toNat_natCast, Int.toNat_natCast, (mu_cl G.1 haT hbT).1] at c1
  have c2 := ct_IndexP m (by omega) h (by omega) hd (mu T a b) hmem
  rw [ee]
  simp -implicitDefEqProofs (maxSteps := 3000000) [hi, hk, ha, hb, c1, c2]
theorem ct_groupOf (n : Nat) (hn : B + 3 + 3 ≤ n) (T : List (List Int)) (h : List Int) (H : HGood T h) :
    evalCall Try.prog An n 60 [.agg [.d (intss T)], .d (ints h)] [] = some ⟨.agg [.own 0 0], [.mat false (mcells (sbG T h))], []⟩ := by
  obtain ⟨m, rfl⟩ : ∃ m, n = m + 1 := ⟨n - 1, by omega⟩
  have hB := B_eq
  simp only [evalCall_at, fb60, bnd_some, bodyOf, Try.f60, Option.getD_some]
  have hT := H.1.1.1
  have hlen := setOk_len H.2.1
  have hp := H.pos
  have c1 := ct_made m (by omega) h.length (by omega) 96 [.cellp [ints h], .cellp [intss T]] (sbE T h) (B + 2) (by omega)
    (fun m hm i hi k hk => by simpa using ct_groupOf1 m hm T h H i k hi hk) (by simp -implicitDefEqProofs (maxSteps := 3000000))
  have e : tabM (fun i => tabI (sbE T h i) h.length) h.length = sbG T h := rfl
  rw [e] at c1
  simp -implicitDefEqProofs (maxSteps := 3000000) [c1]
theorem ct_specGrp_bad (n : Nat) (hn : B + 6 ≤ n) (T : List (List Int)) (hT : T.length ≤ 2000000) (l : List Int) (hl : l.length ≤ 10000000) (h : ¬ HGood T l) :
    evalCall Try.prog An n 24 [.agg [.d (intss T)], .d (ints l)] [] = some ⟨.tuple [.agg [.d .nil], .d (.int .i64 (subcode T l))], [], []⟩ := by
  obtain ⟨m, rfl⟩ : ∃ m, n = m + 1 := ⟨n - 1, by omega⟩
  have hB := B_eq
  simp only [evalCall_at, fb24, bnd_some, bodyOf, Try.f24, Option.getD_some]
  have c1 := ct_l07Code m (by omega) T (by omega) l hl
  have h1 := subcode_ne h
  have h2 := bne_t h1
  simp -implicitDefEqProofs (maxSteps := 3000000) [c1, h1, h2]
theorem ct_specGrp (n : Nat) (hn : B + 6 + 3 ≤ n) (T : List (List Int)) (hT : T.length ≤ 2000000) (l : List Int) (hl : l.length ≤ 10000000) (h : HGood T l) :
    evalCall Try.prog An n 24 [.agg [.d (intss T)], .d (ints l)] [] = some ⟨.tuple [.agg [.own 0 0], .d (.int .i64 0)], [.mat false (mcells (sbG T l))], []⟩ := by
  obtain ⟨m, rfl⟩ : ∃ m, n = m + 1 := ⟨n - 1, by omega⟩
  have hB := B_eq
  simp only [evalCall_at, fb24, bnd_some, bodyOf, Try.f24, Option.getD_some]
  have c1 := ct_l07Code m (by omega) T (by omega) l hl
  rw [subcode_0 h] at c1
  have c2 := ct_l07Group m (by omega) T l h
  simp -implicitDefEqProofs (maxSteps := 3000000) [c1, c2]
theorem ct_implGrp_bad (n : Nat) (hn : B + 10 ≤ n) (T : List (List Int)) (hT : T.length ≤ 2000000) (hr : ∀ i, (rown T i).length ≤ 1000000000000) (l : List Int) (hl : l.length ≤ 10000000) (h : ¬ HGood T l) :
    evalCall Try.prog An n 25 [.agg [.d (intss T)], .d (ints l)] [] = some ⟨.tuple [.agg [.d .nil], .d (.int .i64 (subcode T l))], [], []⟩ := by
  obtain ⟨m, rfl⟩ : ∃ m, n = m + 1 := ⟨n - 1, by omega⟩
  have hB := B_eq
  simp only [evalCall_at, fb25, bnd_some, bodyOf, Try.f25, Option.getD_some]
  have c1 := ct_subgroupCode m (by omega) T hT hr l hl
  have h1 := subcode_ne h
  have h2 := bne_t h1
  simp -implicitDefEqProofs (maxSteps := 3000000) [c1, h1, h2]
theorem ct_implGrp (n : Nat) (hn : B + 12 + 10 ≤ n) (T : List (List Int)) (hT : T.length ≤ 2000000) (hr : ∀ i, (rown T i).length ≤ 1000000000000) (l : List Int) (hl : l.length ≤ 10000000) (h : HGood T l) :
    evalCall Try.prog An n 25 [.agg [.d (intss T)], .d (ints l)] [] = some ⟨.tuple [.agg [.own 0 0], .d (.int .i64 0)], [.mat false (mcells (sbG T l))], []⟩ := by
  obtain ⟨m, rfl⟩ : ∃ m, n = m + 1 := ⟨n - 1, by omega⟩
  have hB := B_eq
  simp only [evalCall_at, fb25, bnd_some, bodyOf, Try.f25, Option.getD_some]
  have c1 := ct_subgroupCode m (by omega) T hT hr l hl
  rw [subcode_0 h] at c1
  have c2 := ct_groupOf m (by omega) T l h
  simp -implicitDefEqProofs (maxSteps := 3000000) [c1, c2]
theorem sbG_len (T : List (List Int)) (h : List Int) : (sbG T h).length = h.length := by simp -implicitDefEqProofs (maxSteps := 3000000) [sbG]
theorem sbG_rows (T : List (List Int)) (h : List Int) (i : Nat) : (rown (sbG T h) i).length ≤ h.length := by
  by_cases e : i < h.length
  · rw [sbG, rown_tabM _ e]; simp -implicitDefEqProofs (maxSteps := 3000000) [sbR]
  · rw [rown_out (by rw [sbG_len]; omega)]; simp -implicitDefEqProofs (maxSteps := 3000000)
end Go.Proofs.YtfpeijfomacgeaaE
