/- The statement FnExactInflateCochainSaid: the law FnExactInflateCochain answers true for all arguments, and what was there before the call reads as it did. By the evaluator's soundness and the contracts of the functions that it reaches. -/
import Derived.Test.YtgklblkigjbggaaGreatRows
import Derived.Test.YtgklblkigjbggaaGreatLIn
import Derived.Test.YtgklblkigjbggaaGreatAEg
import Derived.WalkKit
import Derived.ProofKit
import Derived.OpenShut
import Derived.ChangeOld
import Derived.Below
import Derived.SizedLaws
import Derived.Carry

namespace Go.Proofs.YtgklblkigjbggaaGreat.fnExactInflateCochain
open Go Go.ChangeShapes Go.WideShapes Go.ChangeAt Go.RowKit Go.Proofs.YtgklblkigjbggaaGreatE
set_option linter.unusedVariables false
theorem own : ownKnob Tryz.prog.godebug = none := by kernel_rfl
theorem laidOut : laidOutB Tryz.prog = true := by kernel_rfl
set_option maxRecDepth 100000 in
theorem lifted (os : Os) (started : os.Started) (H : Type) (enc : TypeId × Value → H) :
    ReturnsInHanded {} Tryz.checked os 7 .any (Rows.fnExactInflateCochainSpec.pre6 enc Tryz.prog Tryz.f7 Rows.fnExactInflateCochainRow.domain false) (Rows.fnExactInflateCochainSpec.post enc Tryz.prog Tryz.f7 false true false false) := by
  refine returnsInHanded_of_change_sized (C := Tryz.checked) own started (by kernel_rfl) Tryz.func7
    (ChangeSpec.witness6 (enc := enc) (C := Tryz.checked) false ⟨#[], #[.agg #[.slice none 0 0], .slice none 0 0, .agg #[.int .i64 0, .slice none 0 0], .agg #[.int .i64 0, .slice none 0 0]], []⟩ 8 (by kernel_rfl) (by kernel_rfl) (by kernel_rfl) (by kernel_rfl)) ?_
  intro W base args ds gs before hval0 hW hcnd hsz0 _
  have hsz : (DataW.weightsEach Tryz.prog (Tryz.f7.params.toList ++ Rows.fnExactInflateCochainSpec.plain.varTypes Tryz.prog) (ds ++ gs)).all (· ≤ reachBytes) = true := hsz0
  have hval : ∀ (j : Nat) t v, Tryz.f7.params[j]? = some t → args[j]? = some v → Value.okWide Tryz.prog W .any base t v := hval0
  have hW' := hW
  obtain ⟨p, q, hA0, hV, rfl, hfz, hnd⟩ := hW
  have hA : DataW.TrodAll enc Tryz.prog W 0 (fun _ => true) true Tryz.f7.params.toList args.toList ds p := hA0
  rw [Tryz.params7] at hA hval hsz
  obtain ⟨v0, vs0, d0, ds0, p0, q0, hargs, rfl, rfl, h0, r0⟩ := trodAll_cons hA
  obtain ⟨v1, vs1, d1, ds1, p1, q1, rfl, rfl, rfl, h1, r1⟩ := trodAll_cons r0
  obtain ⟨v2, vs2, d2, ds2, p2, q2, rfl, rfl, rfl, h2, r2⟩ := trodAll_cons r1
  obtain ⟨v3, vs3, d3, ds3, p3, q3, rfl, rfl, rfl, h3, r3⟩ := trodAll_cons r2
  obtain ⟨rfl, rfl, rfl⟩ := trodAll_nil r3
  obtain rfl : args = #[v0, v1, v2, v3] := by cases args; simp_all
  obtain ⟨rfl, rfl⟩ := trodVars_none hV
  obtain ⟨a0, rfl, _⟩ := okWide_struct Tryz.underlying24 (hval 0 24 v0 rfl rfl)
  have k0 := h0
  have lt0 : ∀ x ∈ p0, x.block < W.heap.size := by obtain ⟨m, hm⟩ := k0; exact DataW.trod_lt m _ _ _ hm
  obtain ⟨fuel0, hf0⟩ := h0
  obtain ⟨u0, l0, e0, m0, n0, D0⟩ := drep_group Tryz.underlying24 rfl rfl (by kernel_rfl) (by kernel_rfl) Tryz.underlying22 Tryz.underlying25 Tryz.underlying2 (by kernel_rfl) (by kernel_rfl) hf0
  obtain rfl : a0 = #[u0] := by cases a0; simpa [Value.cells] using e0
  obtain ⟨a1, len1, cap1, rfl⟩ := okWide_slice Tryz.underlying25 (hval 1 25 v1 rfl rfl)
  have k1 := h1
  have lt1 : ∀ x ∈ p1, x.block < W.heap.size := by obtain ⟨m, hm⟩ := k1; exact DataW.trod_lt m _ _ _ hm
  obtain ⟨fuel1, hf1⟩ := h1
  obtain ⟨u1, l1, e1, m1, D1⟩ := drep_ints Tryz.underlying25 Tryz.underlying2 (by kernel_rfl) hf1
  obtain rfl : u1 = .slice a1 len1 cap1 := by simpa [Value.cells] using e1.symm
  obtain ⟨a2, rfl, _⟩ := okWide_struct Tryz.underlying44 (hval 2 44 v2 rfl rfl)
  have k2 := h2
  have lt2 : ∀ x ∈ p2, x.block < W.heap.size := by obtain ⟨m, hm⟩ := k2; exact DataW.trod_lt m _ _ _ hm
  obtain ⟨fuel2, hf2⟩ := h2
  obtain ⟨u2, x2, l2, e2, m2, D2⟩ := drep_pair Tryz.underlying44 rfl rfl rfl rfl (by kernel_rfl) (by kernel_rfl) (by kernel_rfl) Tryz.underlying2 Tryz.underlying25 Tryz.underlying2 (by kernel_rfl) hf2
  obtain rfl : a2 = #[.int .i64 x2, u2] := by cases a2; simpa [Value.cells] using e2
  obtain ⟨a3, rfl, _⟩ := okWide_struct Tryz.underlying27 (hval 3 27 v3 rfl rfl)
  have k3 := h3
  have lt3 : ∀ x ∈ p3, x.block < W.heap.size := by obtain ⟨m, hm⟩ := k3; exact DataW.trod_lt m _ _ _ hm
  obtain ⟨fuel3, hf3⟩ := h3
  obtain ⟨u3, x3, l3, e3, m3, D3⟩ := drep_pair Tryz.underlying27 rfl rfl rfl rfl (by kernel_rfl) (by kernel_rfl) (by kernel_rfl) Tryz.underlying2 Tryz.underlying25 Tryz.underlying2 (by kernel_rfl) hf3
  obtain rfl : a3 = #[.int .i64 x3, u3] := by cases a3; simpa [Value.cells] using e3
  clear hA0 hval0 hsz0 hsz
  refine (calls_of_eval (A := An) (by kernel_rfl) (ct_FnExactInflateCochain (B + 90) (by omega) l0 l1 x2 l2 x3 l3 (by have := m0; simp [maxLen] at this; omega) (fun i => by have := n0 i; simp [maxLen] at this; omega) (by have := m1; simp [maxLen] at this; omega) (by have := m2; simp [maxLen] at this; omega) (by have := m3; simp [maxLen] at this; omega)) (w := W) (lrel_cons (vrep_agg1 D0) (lrel_cons (.d _ _ D1) (lrel_cons (vrep_agg2 D2) (lrel_cons (vrep_agg2 D3) lrel_nil))))).mono fun e W' ⟨he, bel⟩ => ?_
  subst he
  exact ⟨_, rfl, _, _, _, [], _, [], hW', trodAll_mk1 (shut_bool Tryz.underlying4 _), (trodAll_cons_mk (Below.trod laidOut (by kernel_rfl) (of_decide_eq_true (by kernel_rfl)) k0 bel lt0) (trodAll_cons_mk (Below.trod laidOut (by kernel_rfl) (of_decide_eq_true (by kernel_rfl)) k1 bel lt1) (trodAll_cons_mk (Below.trod laidOut (by kernel_rfl) (of_decide_eq_true (by kernel_rfl)) k2 bel lt2) (trodAll_cons_mk (Below.trod laidOut (by kernel_rfl) (of_decide_eq_true (by kernel_rfl)) k3 bel lt3) trodAll_mk0)))), rfl, bel.frame _, fun h => by cases h⟩
theorem over : Rows.fnExactInflateCochainRow.holds Tryz.pinned (OpenSpec.ofChange Rows.fnExactInflateCochainSpec) :=
  OpenClaim.holds_of_wide 7 Tryz.f7 rfl rfl rfl rfl rfl rfl rfl ⟨rfl, rfl, rfl, rfl, rfl⟩ rfl rfl rfl rfl rfl (by kernel_rfl) Tryz.func7 (by kernel_rfl)
    (of_decide_eq_true (by kernel_rfl)) (by unfold Func.isWrapper; first | (rw [if_pos (by decide +kernel)]; kernel_rfl) | (rw [if_neg (by decide +kernel)]; exact ⟨rfl, rfl⟩))
    (fun os started H enc _ => lifted os started H enc)
theorem proved : Rows.FnExactInflateCochainSaid := over
end Go.Proofs.YtgklblkigjbggaaGreat.fnExactInflateCochain
namespace Go.Proofs.YtgklblkigjbggaaGreat
/-- The row, under a short name, for the claim. -/
theorem fnExactInflateCochain_holds : Rows.FnExactInflateCochainSaid := fnExactInflateCochain.proved
#print axioms fnExactInflateCochain_holds
end Go.Proofs.YtgklblkigjbggaaGreat

