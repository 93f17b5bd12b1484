/- Contracts of functions of the program and of the reference: what the evaluator gives for a call of each. -/
import Derived.Test.YtcdmhlagibjeiaaAEf
import Derived.Test.YtcdmhlagibjeiaaK0
import Derived.Test.YtcdmhlagibjeiaaK3
import Derived.Test.YtcdmhlagibjeiaaK7
import Derived.Test.YtcdmhlagibjeiaaK24
import Derived.Test.YtcdmhlagibjeiaaK26
import Derived.Test.YtcdmhlagibjeiaaK31
import Derived.Test.YtcdmhlagibjeiaaK33
import Derived.Test.YtcdmhlagibjeiaaK37
namespace Go.Proofs.YtcdmhlagibjeiaaE
open Go Go.Proofs
set_option maxHeartbeats 4000000
set_option maxRecDepth 4000
set_option linter.unusedSimpArgs false
set_option linter.unusedVariables false
set_option pp.deepTerms false
set_option pp.deepTerms.threshold 10
/-! ## ConjugateSubgroup -/
open Classical in
noncomputable def cjcode (T : List (List Int)) (l : List Int) (c : Int) : Int := if IsGr T ∧ SetOk T l ∧ ¬ (0 ≤ c ∧ c < T.length) then 2 else subcode T l
theorem all1 {N : Int} {x : Int} : AllIn N [x] ↔ 0 ≤ x ∧ x < N := by
  simp -implicitDefEqProofs (maxSteps := 3000000) [AllIn, rn]
theorem cjcode_0 {T : List (List Int)} {l : List Int} {c : Int} (h : HGood T l) (hc : 0 ≤ c ∧ c < T.length) : cjcode T l c = 0 := by
  rw [cjcode, if_neg (fun z => z.2.2 hc)]; exact subcode_0 h
theorem cjcode_ne {T : List (List Int)} {l : List Int} {c : Int} (h : ¬ (HGood T l ∧ 0 ≤ c ∧ c < T.length)) : cjcode T l c ≠ 0 := by
  unfold cjcode
  split
  · omega
  · rename_i z
    refine subcode_ne fun q => h ⟨q, ?_⟩
    exact Classical.byContradiction fun w => z ⟨q.1, q.2.1, w⟩
theorem sub_set_ne {T : List (List Int)} {l : List Int} (h : setcode T l ≠ 0) : subcode T l = setcode T l := by
  unfold setcode subcode at *
  by_cases G : IsGr T
  · by_cases A : SetOk T l
    · rw [if_pos G, if_pos A] at h; exact absurd rfl h
    · rw [if_pos G, if_neg A, if_pos G, if_neg A]
  · rw [if_neg G, if_neg G]
theorem set_0 {T : List (List Int)} {l : List Int} (h : setcode T l = 0) : IsGr T ∧ SetOk T l := by
  unfold setcode at h
  by_cases G : IsGr T
  · by_cases A : SetOk T l
    · exact ⟨G, A⟩
    · rw [if_pos G, if_neg A] at h; omega
  · rw [if_neg G] at h; omega
theorem cj_set_ne {T : List (List Int)} {l : List Int} {c : Int} (h : setcode T l ≠ 0) : cjcode T l c = setcode T l := by
  rw [cjcode, if_neg (fun z => h (by rw [setcode, if_pos z.1, if_pos z.2.1]))]; exact sub_set_ne h
theorem conjL_le (T : List (List Int)) (l : List Int) (c : Nat) : (conjL T l c).length ≤ 8 := thoseL_le _ 8
end Go.Proofs.YtcdmhlagibjeiaaE
