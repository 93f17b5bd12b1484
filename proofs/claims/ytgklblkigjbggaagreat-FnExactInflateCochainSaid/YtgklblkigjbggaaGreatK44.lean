/- Contracts of functions of the program and of the reference: what the evaluator gives for a call of each. -/
import Derived.Test.YtgklblkigjbggaaGreatAEf
import Derived.Test.YtgklblkigjbggaaGreatK0
import Derived.Test.YtgklblkigjbggaaGreatK21
import Derived.Test.YtgklblkigjbggaaGreatK31
import Derived.Test.YtgklblkigjbggaaGreatK32
import Derived.Test.YtgklblkigjbggaaGreatK33
import Derived.Test.YtgklblkigjbggaaGreatK34
import Derived.Test.YtgklblkigjbggaaGreatK42
import Derived.Test.YtgklblkigjbggaaGreatK43
namespace Go.Proofs.YtgklblkigjbggaaGreatE
open Go Go.Proofs
set_option maxHeartbeats 4000000
set_option maxRecDepth 4000
set_option linter.unusedSimpArgs false
set_option linter.unusedVariables false
set_option pp.deepTerms false
set_option pp.deepTerms.threshold 10
/-! ## GroupOfSubgroup -/
theorem ct_eqGroup_nil (n : Nat) (hn : B + 3 ≤ n) :
    evalCall Tryz.prog An n 18 [.agg [.d .nil], .agg [.d .nil]] [] = some ⟨.d (.bool true), [], []⟩ := by
  obtain ⟨m, rfl⟩ : ∃ m, n = m + 1 := ⟨n - 1, by omega⟩
  have hB := B_eq
  simp only [evalCall_at, fb18, bnd_some, bodyOf, Tryz.f18, Option.getD_some]
  have c := ct_eqInt64SS_nil m (by omega)
  simp -implicitDefEqProofs (maxSteps := 3000000) [c]
theorem ct_markGroup_nil (n : Nat) (hn : B + 3 ≤ n) (k : Int) :
    evalCall Tryz.prog An n 20 [.agg [.d .nil], .d (.int .i64 k)] [] = some ⟨.d (.int .i64 k), [], []⟩ := by
  obtain ⟨m, rfl⟩ : ∃ m, n = m + 1 := ⟨n - 1, by omega⟩
  have hB := B_eq
  simp only [evalCall_at, fb20, bnd_some, bodyOf, Tryz.f20, Option.getD_some]
  have c := ct_markInt64SS_nil m (by omega) k
  simp -implicitDefEqProofs (maxSteps := 3000000) [c]
theorem ct_groupOf1 (n : Nat) (hn : B + 2 ≤ n) (T : List (List Int)) (h : List Int) (H : HGood T h) (i k : Nat) (hi : i < h.length) (hk : k < h.length) :
    evalCall Tryz.prog An n 157 [.d (.int .i64 i), .d (.int .i64 k), .d (.cellp [ints h]), .d (.cellp [intss T])] [] = some ⟨.d (.int .i64 (sbE T h i k)), [], []⟩ := by
  obtain ⟨m, rfl⟩ : ∃ m, n = m + 1 := ⟨n - 1, by omega⟩
  have hB := B_eq
  simp only [evalCall_at, fb157, bnd_some, bodyOf, Tryz.f157, Option.getD_some]
  have G := H.1
  have hT := G.1.1
  have hlen := setOk_len H.2.1
  have hd := setOk_nodup H.2.1
  have r1 := H.2.1.1 i hi
  have r2 := H.2.1.1 k hk
  have hmem := sb_mem H hi hk
  have ee : sbE T h i k = (pl h (mu T (rn h i).toNat (rn h k).toNat) : Int) := rfl
  obtain ⟨a, ha⟩ := Int.eq_ofNat_of_zero_le r1.1
  obtain ⟨b, hb⟩ := Int.eq_ofNat_of_zero_le r2.1
  rw [ha, hb, Int.toNat_natCast, Int.toNat_natCast] at ee hmem
  have haT : a < T.length := by omega
  have hbT : b < T.length := by omega
  have c1 := ct_times2i m (by omega) T G a b (by omega) (by omega)
  rw [Int.toNat_natCast, Int.toNat_natCast, (mu_cl G.1 haT hbT).1] at c1
  have c2 := ct_IndexP m (by omega) h (by omega) hd (mu T a b) hmem
  rw [ee]
  simp -implicitDefEqProofs (maxSteps := 3000000) [hi, hk, ha, hb, c1, c2]
theorem ct_groupOf (n : Nat) (hn : B + 3 + 3 ≤ n) (T : List (List Int)) (h : List Int) (H : HGood T h) :
    evalCall Tryz.prog An n 69 [.agg [.d (intss T)], .d (ints h)] [] = some ⟨.agg [.own 0 0], [.mat false (mcells (sbG T h))], []⟩ := by
  obtain ⟨m, rfl⟩ : ∃ m, n = m + 1 := ⟨n - 1, by omega⟩
  have hB := B_eq
  simp only [evalCall_at, fb69, bnd_some, bodyOf, Tryz.f69, Option.getD_some]
  have hT := H.1.1.1
  have hlen := setOk_len H.2.1
  have hp := H.pos
  have c1 := ct_made m (by omega) h.length (by omega) 157 [.cellp [ints h], .cellp [intss T]] (sbE T h) (B + 2) (by omega)
    (fun m hm i hi k hk => by simpa using ct_groupOf1 m hm T h H i k hi hk) (by simp -implicitDefEqProofs (maxSteps := 3000000))
  have e : tabM (fun i => tabI (sbE T h i) h.length) h.length = sbG T h := rfl
  rw [e] at c1
  simp -implicitDefEqProofs (maxSteps := 3000000) [c1]
theorem sbG_len (T : List (List Int)) (h : List Int) : (sbG T h).length = h.length := by simp -implicitDefEqProofs (maxSteps := 3000000) [sbG]
theorem sbG_rows (T : List (List Int)) (h : List Int) (i : Nat) : (rown (sbG T h) i).length ≤ h.length := by
  by_cases e : i < h.length
  · rw [sbG, rown_tabM _ e]; simp -implicitDefEqProofs (maxSteps := 3000000) [sbR]
  · rw [rown_out (by rw [sbG_len]; omega)]; simp -implicitDefEqProofs (maxSteps := 3000000)
end Go.Proofs.YtgklblkigjbggaaGreatE
