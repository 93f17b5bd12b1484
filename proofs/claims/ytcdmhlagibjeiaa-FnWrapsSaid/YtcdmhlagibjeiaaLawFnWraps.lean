/- The statement FnWrapsSaid: the law FnWraps answers true for all arguments, and what was there before the call reads as it did. By the evaluator's soundness and the contracts of the functions that it reaches. -/
import Derived.Test.YtcdmhlagibjeiaaRows
import Derived.Test.YtcdmhlagibjeiaaK82
import Derived.Test.YtcdmhlagibjeiaaAEg
import Derived.WalkKit
import Derived.ProofKit
import Derived.OpenShut
import Derived.ChangeOld
import Derived.Below
import Derived.SizedLaws
import Derived.Carry

namespace Go.Proofs.Ytcdmhlagibjeiaa.fnWraps
open Go Go.ChangeShapes Go.WideShapes Go.ChangeAt Go.RowKit Go.Proofs.YtcdmhlagibjeiaaE
set_option linter.unusedVariables false
theorem own : ownKnob Try.prog.godebug = none := by kernel_rfl
theorem laidOut : laidOutB Try.prog = true := by kernel_rfl
set_option maxRecDepth 100000 in
theorem lifted (os : Os) (started : os.Started) (H : Type) (enc : TypeId × Value → H) :
    ReturnsInHanded {} Try.checked os 4 .any (Rows.fnWrapsSpec.pre6 enc Try.prog Try.f4 Rows.fnWrapsRow.domain false) (Rows.fnWrapsSpec.post enc Try.prog Try.f4 false true false false) := by
  refine returnsInHanded_of_change_sized (C := Try.checked) own started (by kernel_rfl) Try.func4
    (ChangeSpec.witness6 (enc := enc) (C := Try.checked) false ⟨#[], #[.slice none 0 0], []⟩ 8 (by kernel_rfl) (by kernel_rfl) (by kernel_rfl) (by kernel_rfl)) ?_
  intro W base args ds gs before hval0 hW hcnd hsz0 _
  letI : Thr := ⟨W.heap.size⟩
  have hsz : (DataW.weightsEach Try.prog (Try.f4.params.toList ++ Rows.fnWrapsSpec.plain.varTypes Try.prog) (ds ++ gs)).all (· ≤ reachBytes) = true := hsz0
  have hval : ∀ (j : Nat) t v, Try.f4.params[j]? = some t → args[j]? = some v → Value.okWide Try.prog W .any base t v := hval0
  have hW' := hW
  obtain ⟨p, q, hA0, hV, rfl, hfz, hnd⟩ := hW
  have hA : DataW.TrodAll enc Try.prog W 0 (fun _ => true) true Try.f4.params.toList args.toList ds p := hA0
  rw [Try.params4] at hA hval hsz
  obtain ⟨v0, vs0, d0, ds0, p0, q0, hargs, rfl, rfl, h0, r0⟩ := trodAll_cons hA
  obtain ⟨rfl, rfl, rfl⟩ := trodAll_nil r0
  obtain rfl : args = #[v0] := by cases args; simp_all
  obtain ⟨rfl, rfl⟩ := trodVars_none hV
  obtain ⟨a0, len0, cap0, rfl⟩ := okWide_slice Try.underlying22 (hval 0 22 v0 rfl rfl)
  have k0 := h0
  have lt0 : ∀ x ∈ p0, x.block < W.heap.size := by obtain ⟨m, hm⟩ := k0; exact DataW.trod_lt m _ _ _ hm
  obtain ⟨fuel0, hf0⟩ := h0
  obtain ⟨u0, l0, e0, m0, b0, D0⟩ := drep_bytes (Nat.le_refl _) Try.underlying22 Try.underlying5 (by kernel_rfl) hf0
  obtain rfl : u0 = .slice a0 len0 cap0 := by simpa [Value.cells] using e0.symm
  clear hA0 hval0 hsz0 hsz
  refine (calls_of_eval (A := An) (by kernel_rfl) (ct_FnWraps (B + 120) (by omega) l0 (by have := m0; simp [maxLen] at this; omega) b0) (w := W) (Nat.le_refl _) (lrel_cons (.d _ _ D0) lrel_nil)).mono fun e W' ⟨he, bel⟩ => ?_
  subst he
  exact ⟨_, rfl, _, _, _, [], _, [], hW', trodAll_mk1 (shut_bool Try.underlying4 _), (trodAll_cons_mk (Below.trod laidOut (by kernel_rfl) (of_decide_eq_true (by kernel_rfl)) k0 bel lt0) trodAll_mk0), rfl, bel.frame _, fun h => by cases h⟩
theorem over : Rows.fnWrapsRow.holds Try.pinned (OpenSpec.ofChange Rows.fnWrapsSpec) :=
  OpenClaim.holds_of_wide 4 Try.f4 rfl rfl rfl rfl rfl rfl rfl ⟨rfl, rfl, rfl, rfl, rfl⟩ rfl rfl rfl rfl rfl (by kernel_rfl) Try.func4 (by kernel_rfl)
    (of_decide_eq_true (by kernel_rfl)) (by unfold Func.isWrapper; first | (rw [if_pos (by decide +kernel)]; kernel_rfl) | (rw [if_neg (by decide +kernel)]; exact ⟨rfl, rfl⟩))
    (fun os started H enc _ => lifted os started H enc)
theorem proved : Rows.FnWrapsSaid := over
end Go.Proofs.Ytcdmhlagibjeiaa.fnWraps
namespace Go.Proofs.Ytcdmhlagibjeiaa
/-- The row, under a short name, for the claim. -/
theorem fnWraps_holds : Rows.FnWrapsSaid := fnWraps.proved
#print axioms fnWraps_holds
end Go.Proofs.Ytcdmhlagibjeiaa

