/- The statement FnExactImageOrdersSaid: the law FnExactImageOrders answers true for all arguments, and what was there before the call reads as it did. By the evaluator's soundness and the contracts of the functions that it reaches. -/
import Derived.Test.YtnfhglplafmfiaaGreatRows
import Derived.Test.YtnfhglplafmfiaaGreatLImg
import Derived.Test.YtnfhglplafmfiaaGreatAEg
import Derived.WalkKit
import Derived.ProofKit
import Derived.OpenShut
import Derived.ChangeOld
import Derived.Below
import Derived.SizedLaws
import Derived.Carry

namespace Go.Proofs.YtnfhglplafmfiaaGreat.fnExactImageOrders
open Go Go.ChangeShapes Go.WideShapes Go.ChangeAt Go.RowKit Go.Proofs.YtnfhglplafmfiaaGreatE
set_option linter.unusedVariables false
theorem own : ownKnob Tryz.prog.godebug = none := by kernel_rfl
theorem laidOut : laidOutB Tryz.prog = true := by kernel_rfl
set_option maxRecDepth 100000 in
theorem lifted (os : Os) (started : os.Started) (H : Type) (enc : TypeId × Value → H) :
    ReturnsInHanded {} Tryz.checked os 3 .any (Rows.fnExactImageOrdersSpec.pre6 enc Tryz.prog Tryz.f3 Rows.fnExactImageOrdersRow.domain false) (Rows.fnExactImageOrdersSpec.post enc Tryz.prog Tryz.f3 false true false false) := by
  refine returnsInHanded_of_change_sized (C := Tryz.checked) own started (by kernel_rfl) Tryz.func3
    (ChangeSpec.witness6 (enc := enc) (C := Tryz.checked) false ⟨#[], #[.agg #[.slice none 0 0], .agg #[.int .i64 0, .slice none 0 0], .int .i64 0, .int .i64 0], []⟩ 8 (by kernel_rfl) (by kernel_rfl) (by kernel_rfl) (by kernel_rfl)) ?_
  intro W base args ds gs before hval0 hW hcnd hsz0 _
  have hsz : (DataW.weightsEach Tryz.prog (Tryz.f3.params.toList ++ Rows.fnExactImageOrdersSpec.plain.varTypes Tryz.prog) (ds ++ gs)).all (· ≤ reachBytes) = true := hsz0
  have hval : ∀ (j : Nat) t v, Tryz.f3.params[j]? = some t → args[j]? = some v → Value.okWide Tryz.prog W .any base t v := hval0
  have hW' := hW
  obtain ⟨p, q, hA0, hV, rfl, hfz, hnd⟩ := hW
  have hA : DataW.TrodAll enc Tryz.prog W 0 (fun _ => true) true Tryz.f3.params.toList args.toList ds p := hA0
  rw [Tryz.params3] at hA hval hsz
  obtain ⟨v0, vs0, d0, ds0, p0, q0, hargs, rfl, rfl, h0, r0⟩ := trodAll_cons hA
  obtain ⟨v1, vs1, d1, ds1, p1, q1, rfl, rfl, rfl, h1, r1⟩ := trodAll_cons r0
  obtain ⟨v2, vs2, d2, ds2, p2, q2, rfl, rfl, rfl, h2, r2⟩ := trodAll_cons r1
  obtain ⟨v3, vs3, d3, ds3, p3, q3, rfl, rfl, rfl, h3, r3⟩ := trodAll_cons r2
  obtain ⟨rfl, rfl, rfl⟩ := trodAll_nil r3
  obtain rfl : args = #[v0, v1, v2, v3] := by cases args; simp_all
  obtain ⟨rfl, rfl⟩ := trodVars_none hV
  obtain ⟨a0, rfl, _⟩ := okWide_struct Tryz.underlying24 (hval 0 24 v0 rfl rfl)
  have k0 := h0
  have lt0 : ∀ x ∈ p0, x.block < W.heap.size := by obtain ⟨m, hm⟩ := k0; exact DataW.trod_lt m _ _ _ hm
  obtain ⟨fuel0, hf0⟩ := h0
  obtain ⟨u0, l0, e0, m0, n0, D0⟩ := drep_group Tryz.underlying24 rfl rfl (by kernel_rfl) (by kernel_rfl) Tryz.underlying22 Tryz.underlying25 Tryz.underlying2 (by kernel_rfl) (by kernel_rfl) hf0
  obtain rfl : a0 = #[u0] := by cases a0; simpa [Value.cells] using e0
  obtain ⟨a1, rfl, _⟩ := okWide_struct Tryz.underlying27 (hval 1 27 v1 rfl rfl)
  have k1 := h1
  have lt1 : ∀ x ∈ p1, x.block < W.heap.size := by obtain ⟨m, hm⟩ := k1; exact DataW.trod_lt m _ _ _ hm
  obtain ⟨fuel1, hf1⟩ := h1
  obtain ⟨u1, x1, l1, e1, m1, D1⟩ := drep_pair Tryz.underlying27 rfl rfl rfl rfl (by kernel_rfl) (by kernel_rfl) (by kernel_rfl) Tryz.underlying2 Tryz.underlying25 Tryz.underlying2 (by kernel_rfl) hf1
  obtain rfl : a1 = #[.int .i64 x1, u1] := by cases a1; simpa [Value.cells] using e1
  obtain ⟨a2, rfl, rfl, rfl, w2⟩ := open_int Tryz.underlying2 (hval 2 2 v2 rfl rfl) h2
  obtain ⟨a3, rfl, rfl, rfl, w3⟩ := open_int Tryz.underlying2 (hval 3 2 v3 rfl rfl) h3
  clear hA0 hval0 hsz0 hsz
  refine (calls_of_eval (A := An) (by kernel_rfl) (ct_FnExactImageOrders (B + 400) (by omega) l0 x1 l1 a2 a3 (by have := m0; simp [maxLen] at this; omega) (fun i => by have := n0 i; simp [maxLen] at this; omega) (by have := m1; simp [maxLen] at this; omega) (wf_bd w2) (wf_bd w3)) (w := W) (lrel_cons (vrep_agg1 D0) (lrel_cons (vrep_agg2 D1) (lrel_cons (vrep_int _ _) (lrel_cons (vrep_int _ _) lrel_nil))))).mono fun e W' ⟨he, bel⟩ => ?_
  subst he
  exact ⟨_, rfl, _, _, _, [], _, [], hW', trodAll_mk1 (shut_bool Tryz.underlying4 _), (trodAll_cons_mk (Below.trod laidOut (by kernel_rfl) (of_decide_eq_true (by kernel_rfl)) k0 bel lt0) (trodAll_cons_mk (Below.trod laidOut (by kernel_rfl) (of_decide_eq_true (by kernel_rfl)) k1 bel lt1) (trodAll_cons_mk (shut_int Tryz.underlying2 w2) (trodAll_cons_mk (shut_int Tryz.underlying2 w3) trodAll_mk0)))), rfl, bel.frame _, fun h => by cases h⟩
noncomputable abbrev P : Program := Tryz.pinned.checked.prog
noncomputable abbrev f : FuncId := 3
noncomputable abbrev fn : Func := Tryz.f3
noncomputable abbrev c : OpenClaim := Rows.fnExactImageOrdersRow
noncomputable abbrev s : ChangeSpec := Rows.fnExactImageOrdersSpec
theorem and_mk {a b : Bool} (h1 : a = true) (h2 : b = true) : (a && b) = true := by rw [h1, h2]; rfl
theorem q0 : (c.wf (OpenSpec.ofChange s)) = true := by kernel_rfl
theorem q1 : (laidOutB P) = true := by kernel_rfl
theorem q2 : (mapsRowed P) = true := by kernel_rfl
theorem q3 : (fn.params.all (P.readableRec ·)) = true := by kernel_rfl
theorem q4 : (namedTie P c.named s.vars) = true := by kernel_rfl
theorem q5 : ((c.stops == [])) = true := by kernel_rfl
theorem q6 : ((P.stops == [])) = true := by kernel_rfl
theorem q7 : ((c.knobs == [])) = true := by kernel_rfl
theorem q8 : ((P.stopKnobs == [])) = true := by kernel_rfl
theorem q9 : ((c.inPlace == P.inPlace f)) = true := by kernel_rfl
theorem q10 : ((c.unfollowed == P.unfollowed f)) = true := by kernel_rfl
theorem q11 : ((c.recurses == P.recurses f)) = true := by kernel_rfl
theorem q12 : ((c.named == P.varsNamed f)) = true := by kernel_rfl
theorem q13 : ((c.maps == (fn.params.toList ++ s.plain.varTypes P).any (P.mapsRec ·))) = true := by kernel_rfl
theorem q14 : ((c.ifaces == (fn.params.toList ++ s.plain.varTypes P).any (P.ifacesRec ·))) = true := by kernel_rfl
theorem q15 : ((c.mapsOut == P.mapsAmong fn.resultTypes.toList)) = true := by kernel_rfl
theorem q16 : ((c.loops == (fn.params.toList ++ s.plain.varTypes P).any (P.loopsFrom ·))) = true := by kernel_rfl
theorem q17 : ((c.wideKeys == (fn.params.toList ++ s.plain.varTypes P ++ fn.resultTypes.toList).any (P.wideKeysFrom ·))) = true := by kernel_rfl
theorem q18 : (s.vars.all (P.varReadable ·)) = true := by kernel_rfl
theorem q19 : (fn.resultTypes.all (fun t => P.readableRec t && decide (t < P.types.size))) = true := by kernel_rfl
theorem q20 : ((c.ifacesOut == fn.resultTypes.toList.any (P.ifacesRec ·))) = true := by kernel_rfl
theorem q21 : ((c.loopsOut == fn.resultTypes.toList.any (P.loopsFrom ·))) = true := by kernel_rfl
theorem q22 : ((c.plainKeys == P.plainKeys)) = true := by kernel_rfl
theorem q23 : (c.shortTexts.isNone) = true := by kernel_rfl
theorem q24 : (P.stopsHeard) = true := by kernel_rfl
theorem q25 : (P.mayEnter) = true := by kernel_rfl
theorem q26 : ((c.lifted == P.liftsFinal)) = true := by kernel_rfl
theorem q27 : ((P.make == some c.make)) = true := by kernel_rfl
theorem q29 : ((c.pinned == c.pinnedBy)) = true := by kernel_rfl
theorem q30 : ((c.veiled == (fn.params.toList ++ s.plain.varTypes P ++ fn.resultTypes.toList).any (P.veiledRec ·))) = true := by kernel_rfl
theorem q31 : (c.veiledFits P fn.params.toList (fn.params.toList ++ s.plain.varTypes P ++ fn.resultTypes.toList)) = true := by kernel_rfl
theorem closed : joinedFacts P f fn s c = true := by
  unfold joinedFacts
  exact (and_mk (and_mk (and_mk (and_mk (and_mk (and_mk (and_mk (and_mk (and_mk (and_mk (and_mk (and_mk (and_mk (and_mk (and_mk (and_mk (and_mk (and_mk (and_mk (and_mk (and_mk (and_mk (and_mk (and_mk (and_mk (and_mk (and_mk (and_mk (and_mk (and_mk (and_mk q0 q1) q2) q3) q4) q5) q6) q7) q8) q9) q10) q11) q12) q13) q14) q15) q16) q17) q18) q19) q20) q21) q22) q23) q24) q25) q26) q27) (by kernel_rfl)) q29) q30) q31)
theorem hfn : Tryz.pinned.checked.prog.funcNamed c.func = some 3 := by kernel_rfl
theorem hinst : Tryz.f3.isInstance Tryz.pinned.checked.prog c.origin c.targs := of_decide_eq_true (by kernel_rfl)
theorem hwrap : Tryz.f3.isWrapper Tryz.pinned.checked.prog c.wrapper c.mainSum := by unfold Func.isWrapper; first | (rw [if_pos (by decide +kernel)]; kernel_rfl) | (rw [if_neg (by decide +kernel)]; exact ⟨rfl, rfl⟩)
theorem over : Rows.fnExactImageOrdersRow.holds Tryz.pinned (OpenSpec.ofChange Rows.fnExactImageOrdersSpec) :=
  OpenClaim.holds_of_wide 3 Tryz.f3 rfl rfl rfl rfl rfl rfl rfl ⟨rfl, rfl, rfl, rfl, rfl⟩ rfl rfl rfl rfl rfl hfn Tryz.func3 closed
    hinst hwrap
    (fun os started H enc _ => lifted os started H enc)
theorem proved : Rows.FnExactImageOrdersSaid := over
end Go.Proofs.YtnfhglplafmfiaaGreat.fnExactImageOrders
namespace Go.Proofs.YtnfhglplafmfiaaGreat
/-- The row, under a short name, for the claim. -/
theorem fnExactImageOrders_holds : Rows.FnExactImageOrdersSaid := fnExactImageOrders.proved
#print axioms fnExactImageOrders_holds
end Go.Proofs.YtnfhglplafmfiaaGreat

