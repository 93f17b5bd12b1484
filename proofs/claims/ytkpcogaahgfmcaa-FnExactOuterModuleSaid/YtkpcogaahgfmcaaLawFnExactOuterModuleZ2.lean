-- Made by a program of this session (wip/tools: the patched printer), for this claim.
import Derived.Test.YtkpcogaahgfmcaaRows
import Derived.Test.YtkpcogaahgfmcaaPFnExactOuterModulex13Z2
import Derived.Test.YtkpcogaahgfmcaaPureFnExactOuterModuleZ2
import Derived.WalkKit
import Derived.ProofKit
import Derived.OpenShut
import Derived.ShutString
import Derived.ChangeOld
import Derived.Below
import Derived.SizedLaws
import Derived.Test.YtkpcogaahgfmcaaXRowZ2
namespace Go.Proofs.Ytkpcogaahgfmcaa.fnExactOuterModule
open Go.ChangeShapes Go.WideShapes Go.ChangeAt Go.RowKit
open Go.ChangeMaps (open_string shut_string)
set_option linter.unusedVariables false
theorem own : ownKnob Try.prog.godebug = none := by kernel_rfl
theorem laidOut : laidOutB Try.prog = true := by kernel_rfl
def IsRow (k : IntKind) (w : World) (a : Option Addr) (len cap : Nat) (zs : List Int) : Prop :=
  (a = none ∧ len = 0 ∧ cap = 0 ∧ zs = []) ∨
  ∃ x, a = some x ∧ len ≤ cap ∧ cap ≤ maxLen ∧ zs.length = cap ∧ (∀ i, i < zs.length → w.cell? (x.add i) = some (.int k (zs.getD i 0))) ∧ ∀ n ∈ zs, (Lit.int k n).wf = true
open Go.Proofs.YtkpcogaahgfmcaaX Go.Proofs.YtkpcogaahgfmcaaW.PrintWords
section
variable {H : Type} {enc : TypeId × Value → H} {w : World} {base : Nat} {held : Bool}
theorem open_T22 {fuel : Nat} {cs : List Value} {x : DataW H × List MemPlace} (h : DataW.trod enc Try.prog w base (fun _ => true) held fuel 22 cs = some x) :
    ∃ (A9 : Option Addr) (c9 : Nat) (l9 : List (List Int)), cs = [.slice A9 l9.length c9] ∧ l9.length ≤ c9 ∧ l9.length ≤ maxLen ∧ (∀ r ∈ l9, r.length ≤ maxLen ∧ ∀ x ∈ r, (Lit.int .i64 x).wf = true) ∧ Kd.C (Kd.slice 2 (Kd.int .i64)) w A9 l9.length l9 := trod_rows Try.underlying22 Try.underlying25 Try.underlying2 (by kernel_rfl) (by kernel_rfl) h
theorem open_T24 {fuel : Nat} {cs : List Value} {x : DataW H × List MemPlace} (h : DataW.trod enc Try.prog w base (fun _ => true) held fuel 24 cs = some x) :
    ∃ (A9_0 : Option Addr) (c9_0 : Nat) (l9_0 : List (List Int)), cs = [.slice A9_0 l9_0.length c9_0] ∧ l9_0.length ≤ c9_0 ∧ l9_0.length ≤ maxLen ∧ (∀ r ∈ l9_0, r.length ≤ maxLen ∧ ∀ x ∈ r, (Lit.int .i64 x).wf = true) ∧ Kd.C (Kd.slice 2 (Kd.int .i64)) w A9_0 l9_0.length l9_0 := by
  obtain ⟨y0, n, _, hlen, h0⟩ := trod_struct1 Try.underlying24 h
  rw [show Try.prog.cellsOf 24 = 1 by kernel_rfl] at hlen
  obtain ⟨x0, rfl⟩ := cells_of1 hlen
  rw [show Try.prog.cellsOf 22 = 1 by kernel_rfl] at h0
  replace h0 : DataW.trod enc Try.prog w base (fun _ => true) held n 22 [x0] = some y0 := h0
  obtain ⟨A9_0, c9_0, l9_0, e0, f0_0, f0_1, f0_2, f0_3⟩ := open_T22 h0
  simp only [List.cons.injEq, and_true] at e0
  obtain rfl := e0
  exact ⟨A9_0, c9_0, l9_0, rfl, f0_0, f0_1, f0_2, f0_3⟩
theorem open_T2 {fuel : Nat} {cs : List Value} {x : DataW H × List MemPlace} (h : DataW.trod enc Try.prog w base (fun _ => true) held fuel 2 cs = some x) :
    ∃ (a9 : Int), cs = [.int .i64 a9] ∧ (Lit.int .i64 a9).wf = true := trod_num Try.underlying2 h
theorem open_T25 {fuel : Nat} {cs : List Value} {x : DataW H × List MemPlace} (h : DataW.trod enc Try.prog w base (fun _ => true) held fuel 25 cs = some x) :
    ∃ (A9 : Option Addr) (c9 : Nat) (l9 : List Int), cs = [.slice A9 l9.length c9] ∧ l9.length ≤ c9 ∧ l9.length ≤ maxLen ∧ (∀ x ∈ l9, (Lit.int .i64 x).wf = true) ∧ Kd.C (Kd.int .i64) w A9 l9.length l9 := trod_nums Try.underlying25 Try.underlying2 (by kernel_rfl) h
theorem open_T27 {fuel : Nat} {cs : List Value} {x : DataW H × List MemPlace} (h : DataW.trod enc Try.prog w base (fun _ => true) held fuel 27 cs = some x) :
    ∃ (a9_0 : Int) (A9_1 : Option Addr) (c9_1 : Nat) (l9_1 : List Int), cs = [.int .i64 a9_0, .slice A9_1 l9_1.length c9_1] ∧ (Lit.int .i64 a9_0).wf = true ∧ l9_1.length ≤ c9_1 ∧ l9_1.length ≤ maxLen ∧ (∀ x ∈ l9_1, (Lit.int .i64 x).wf = true) ∧ Kd.C (Kd.int .i64) w A9_1 l9_1.length l9_1 := by
  obtain ⟨y0, y1, n, _, hlen, h0, h1⟩ := trod_struct2 Try.underlying27 h
  rw [show Try.prog.cellsOf 27 = 2 by kernel_rfl] at hlen
  obtain ⟨x0, x1, rfl⟩ := cells_of2 hlen
  rw [show Try.prog.cellsOf 2 = 1 by kernel_rfl] at h0
  replace h0 : DataW.trod enc Try.prog w base (fun _ => true) held n 2 [x0] = some y0 := h0
  obtain ⟨a9_0, e0, f0_0⟩ := open_T2 h0
  rw [show Try.prog.cellsOf 25 = 1 by kernel_rfl] at h1
  replace h1 : DataW.trod enc Try.prog w base (fun _ => true) held n 25 [x1] = some y1 := h1
  obtain ⟨A9_1, c9_1, l9_1, e1, f1_0, f1_1, f1_2, f1_3⟩ := open_T25 h1
  simp only [List.cons.injEq, and_true] at e0 e1
  obtain rfl := e0
  obtain rfl := e1
  exact ⟨a9_0, A9_1, c9_1, l9_1, rfl, f0_0, f1_0, f1_1, f1_2, f1_3⟩
end
set_option maxRecDepth 100000 in
theorem lifted (os : Os) (started : os.Started) (H : Type) (enc : TypeId × Value → H) :
    ReturnsInHanded {} Try.checked os 4 .any (Rows.fnExactOuterModuleSpec.pre6 enc Try.prog Try.f4 Rows.fnExactOuterModuleRow.domain false) (Rows.fnExactOuterModuleSpec.post enc Try.prog Try.f4 false true false false) := by
  refine returnsInHanded_of_change_sized (C := Try.checked) own started (by kernel_rfl) Try.func4
    (ChangeSpec.witness6 (enc := enc) (C := Try.checked) false ⟨#[], #[.agg #[.slice none 0 0], .agg #[.int .i64 0, .slice none 0 0], .int .i64 0], []⟩ 8 (by kernel_rfl) (by kernel_rfl) (by kernel_rfl) (by kernel_rfl)) ?_
  intro W base args ds gs before hval0 hW hcnd hsz0 _
  have hsz : (DataW.weightsEach Try.prog (Try.f4.params.toList ++ Rows.fnExactOuterModuleSpec.plain.varTypes Try.prog) (ds ++ gs)).all (· ≤ reachBytes) = true := hsz0
  have hval : ∀ (j : Nat) t v, Try.f4.params[j]? = some t → args[j]? = some v → Value.okWide Try.prog W .any base t v := hval0
  have hW' := hW
  obtain ⟨p, q, hA0, hV, rfl, hfz, hnd⟩ := hW
  have hA : DataW.TrodAll enc Try.prog W 0 (fun _ => true) true Try.f4.params.toList args.toList ds p := hA0
  rw [Try.params4] at hA hval hsz
  obtain ⟨v0, vs0, d0, ds0, p0, q0, hargs, rfl, rfl, h0, r0⟩ := trodAll_cons hA
  obtain ⟨v1, vs1, d1, ds1, p1, q1, rfl, rfl, rfl, h1, r1⟩ := trodAll_cons r0
  obtain ⟨v2, vs2, d2, ds2, p2, q2, rfl, rfl, rfl, h2, r2⟩ := trodAll_cons r1
  obtain ⟨rfl, rfl, rfl⟩ := trodAll_nil r2
  obtain rfl : args = #[v0, v1, v2] := by cases args; simp_all
  obtain ⟨rfl, rfl⟩ := trodVars_none hV
  obtain ⟨a0, rfl, _⟩ := okWide_struct Try.underlying24 (hval 0 24 v0 rfl rfl)
  have k0 := h0
  have lt0 : ∀ x ∈ p0, x.block < W.heap.size := by obtain ⟨m, hm⟩ := k0; exact DataW.trod_lt m _ _ _ hm
  obtain ⟨fuel0, hf0⟩ := h0
  obtain ⟨A0_0, c0_0, l0_0, e0, hc0_0, hm0_0, hw0_0, hr0_0⟩ := open_T24 hf0
  obtain rfl : a0 = #[.slice A0_0 l0_0.length c0_0] := by cases a0; simpa [Value.cells] using e0
  obtain ⟨a1, rfl, _⟩ := okWide_struct Try.underlying27 (hval 1 27 v1 rfl rfl)
  have k1 := h1
  have lt1 : ∀ x ∈ p1, x.block < W.heap.size := by obtain ⟨m, hm⟩ := k1; exact DataW.trod_lt m _ _ _ hm
  obtain ⟨fuel1, hf1⟩ := h1
  obtain ⟨a1_0, A1_1, c1_1, l1_1, e1, hw1_0, hc1_1, hm1_1, hw1_1, hr1_1⟩ := open_T27 hf1
  obtain rfl : a1 = #[.int .i64 a1_0, .slice A1_1 l1_1.length c1_1] := by cases a1; simpa [Value.cells] using e1
  obtain ⟨a2, rfl, rfl, rfl, w2⟩ := open_int Try.underlying2 (hval 2 2 v2 rfl rfl) h2
  clear hA0 hval0 hsz0 hsz
  refine (PFnExactOuterModule.laws_FnExactOuterModule.walk Pure.FnExactOuterModule A0_0 c0_0 l0_0 a1_0 A1_1 c1_1 l1_1 a2 W hc0_0 hm0_0 hw0_0 hr0_0 hw1_0 hc1_1 hm1_1 hw1_1 hr1_1 w2).mono fun e W' ⟨he, bel⟩ => ?_
  subst he
  exact ⟨_, rfl, _, _, _, [], _, [], hW', trodAll_mk1 (shut_bool Try.underlying4 _), (trodAll_cons_mk (Below.trod laidOut (by kernel_rfl) (of_decide_eq_true (by kernel_rfl)) k0 bel lt0) (trodAll_cons_mk (Below.trod laidOut (by kernel_rfl) (of_decide_eq_true (by kernel_rfl)) k1 bel lt1) (trodAll_cons_mk (shut_int Try.underlying2 w2) trodAll_mk0))), rfl, bel.frame _, fun h => by cases h⟩
theorem over : Rows.fnExactOuterModuleRow.holds Try.pinned (OpenSpec.ofChange Rows.fnExactOuterModuleSpec) :=
  OpenClaim.holds_of_wide 4 Try.f4 rfl rfl rfl rfl rfl rfl rfl ⟨rfl, rfl, rfl, rfl, rfl⟩ rfl rfl rfl rfl rfl (by kernel_rfl) Try.func4 (by kernel_rfl)
    (of_decide_eq_true (by kernel_rfl)) (by unfold Func.isWrapper; first | (rw [if_pos (by decide +kernel)]; kernel_rfl) | (rw [if_neg (by decide +kernel)]; exact ⟨rfl, rfl⟩))
    (fun os started H enc _ => lifted os started H enc)
theorem proved : Rows.FnExactOuterModuleSaid := over
#print axioms proved
end Go.Proofs.Ytkpcogaahgfmcaa.fnExactOuterModule
namespace Go.Proofs.Ytkpcogaahgfmcaa
/-- The row, under a short name, for the claim. -/
theorem fnExactOuterModule_holds : Rows.FnExactOuterModuleSaid := fnExactOuterModule.proved
end Go.Proofs.Ytkpcogaahgfmcaa
