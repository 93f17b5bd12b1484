-- Made by a program of this session (wip/tools: the patched printer), for this claim.
import Derived.Test.YtkpcogaahgfmcaaRows
import Derived.Test.YtkpcogaahgfmcaaPFnExactIsDeskx13Z
import Derived.Test.YtkpcogaahgfmcaaPureFnExactIsDeskZ
import Derived.WalkKit
import Derived.ProofKit
import Derived.OpenShut
import Derived.ShutString
import Derived.ChangeOld
import Derived.Below
import Derived.SizedLaws
import Derived.Test.YtkpcogaahgfmcaaXRowZ
namespace Go.Proofs.Ytkpcogaahgfmcaa.fnExactIsDesk
open Go.ChangeShapes Go.WideShapes Go.ChangeAt Go.RowKit
open Go.ChangeMaps (open_string shut_string)
set_option linter.unusedVariables false
theorem own : ownKnob Try.prog.godebug = none := by kernel_rfl
theorem laidOut : laidOutB Try.prog = true := by kernel_rfl
def IsRow (k : IntKind) (w : World) (a : Option Addr) (len cap : Nat) (zs : List Int) : Prop :=
  (a = none ∧ len = 0 ∧ cap = 0 ∧ zs = []) ∨
  ∃ x, a = some x ∧ len ≤ cap ∧ cap ≤ maxLen ∧ zs.length = cap ∧ (∀ i, i < zs.length → w.cell? (x.add i) = some (.int k (zs.getD i 0))) ∧ ∀ n ∈ zs, (Lit.int k n).wf = true
open Go.Proofs.YtkpcogaahgfmcaaX Go.Proofs.YtkpcogaahgfmcaaW.PrintWords
section
variable {H : Type} {enc : TypeId × Value → H} {w : World} {base : Nat} {held : Bool}
theorem open_T22 {fuel : Nat} {cs : List Value} {x : DataW H × List MemPlace} (h : DataW.trod enc Try.prog w base (fun _ => true) held fuel 22 cs = some x) :
    ∃ (A9 : Option Addr) (c9 : Nat) (l9 : List (List Int)), cs = [.slice A9 l9.length c9] ∧ l9.length ≤ c9 ∧ l9.length ≤ maxLen ∧ (∀ r ∈ l9, r.length ≤ maxLen ∧ ∀ x ∈ r, (Lit.int .i64 x).wf = true) ∧ Kd.C (Kd.slice 2 (Kd.int .i64)) w A9 l9.length l9 := trod_rows Try.underlying22 Try.underlying25 Try.underlying2 (by kernel_rfl) (by kernel_rfl) h
theorem open_T24 {fuel : Nat} {cs : List Value} {x : DataW H × List MemPlace} (h : DataW.trod enc Try.prog w base (fun _ => true) held fuel 24 cs = some x) :
    ∃ (A9_0 : Option Addr) (c9_0 : Nat) (l9_0 : List (List Int)), cs = [.slice A9_0 l9_0.length c9_0] ∧ l9_0.length ≤ c9_0 ∧ l9_0.length ≤ maxLen ∧ (∀ r ∈ l9_0, r.length ≤ maxLen ∧ ∀ x ∈ r, (Lit.int .i64 x).wf = true) ∧ Kd.C (Kd.slice 2 (Kd.int .i64)) w A9_0 l9_0.length l9_0 := by
  obtain ⟨y0, n, _, hlen, h0⟩ := trod_struct1 Try.underlying24 h
  rw [show Try.prog.cellsOf 24 = 1 by kernel_rfl] at hlen
  obtain ⟨x0, rfl⟩ := cells_of1 hlen
  rw [show Try.prog.cellsOf 22 = 1 by kernel_rfl] at h0
  replace h0 : DataW.trod enc Try.prog w base (fun _ => true) held n 22 [x0] = some y0 := h0
  obtain ⟨A9_0, c9_0, l9_0, e0, f0_0, f0_1, f0_2, f0_3⟩ := open_T22 h0
  simp only [List.cons.injEq, and_true] at e0
  obtain rfl := e0
  exact ⟨A9_0, c9_0, l9_0, rfl, f0_0, f0_1, f0_2, f0_3⟩
theorem open_T2 {fuel : Nat} {cs : List Value} {x : DataW H × List MemPlace} (h : DataW.trod enc Try.prog w base (fun _ => true) held fuel 2 cs = some x) :
    ∃ (a9 : Int), cs = [.int .i64 a9] ∧ (Lit.int .i64 a9).wf = true := trod_num Try.underlying2 h
theorem open_T25 {fuel : Nat} {cs : List Value} {x : DataW H × List MemPlace} (h : DataW.trod enc Try.prog w base (fun _ => true) held fuel 25 cs = some x) :
    ∃ (A9 : Option Addr) (c9 : Nat) (l9 : List Int), cs = [.slice A9 l9.length c9] ∧ l9.length ≤ c9 ∧ l9.length ≤ maxLen ∧ (∀ x ∈ l9, (Lit.int .i64 x).wf = true) ∧ Kd.C (Kd.int .i64) w A9 l9.length l9 := trod_nums Try.underlying25 Try.underlying2 (by kernel_rfl) h
theorem open_T27 {fuel : Nat} {cs : List Value} {x : DataW H × List MemPlace} (h : DataW.trod enc Try.prog w base (fun _ => true) held fuel 27 cs = some x) :
    ∃ (a9_0 : Int) (A9_1 : Option Addr) (c9_1 : Nat) (l9_1 : List Int), cs = [.int .i64 a9_0, .slice A9_1 l9_1.length c9_1] ∧ (Lit.int .i64 a9_0).wf = true ∧ l9_1.length ≤ c9_1 ∧ l9_1.length ≤ maxLen ∧ (∀ x ∈ l9_1, (Lit.int .i64 x).wf = true) ∧ Kd.C (Kd.int .i64) w A9_1 l9_1.length l9_1 := by
  obtain ⟨y0, y1, n, _, hlen, h0, h1⟩ := trod_struct2 Try.underlying27 h
  rw [show Try.prog.cellsOf 27 = 2 by kernel_rfl] at hlen
  obtain ⟨x0, x1, rfl⟩ := cells_of2 hlen
  rw [show Try.prog.cellsOf 2 = 1 by kernel_rfl] at h0
  replace h0 : DataW.trod enc Try.prog w base (fun _ => true) held n 2 [x0] = some y0 := h0
  obtain ⟨a9_0, e0, f0_0⟩ := open_T2 h0
  rw [show Try.prog.cellsOf 25 = 1 by kernel_rfl] at h1
  replace h1 : DataW.trod enc Try.prog w base (fun _ => true) held n 25 [x1] = some y1 := h1
  obtain ⟨A9_1, c9_1, l9_1, e1, f1_0, f1_1, f1_2, f1_3⟩ := open_T25 h1
  simp only [List.cons.injEq, and_true] at e0 e1
  obtain rfl := e0
  obtain rfl := e1
  exact ⟨a9_0, A9_1, c9_1, l9_1, rfl, f0_0, f1_0, f1_1, f1_2, f1_3⟩
theorem open_T42 {fuel : Nat} {cs : List Value} {x : DataW H × List MemPlace} (h : DataW.trod enc Try.prog w base (fun _ => true) held fuel 42 cs = some x) :
    ∃ (a9_0 : Int) (A9_1 : Option Addr) (c9_1 : Nat) (l9_1 : List Int), cs = [.int .i64 a9_0, .slice A9_1 l9_1.length c9_1] ∧ (Lit.int .i64 a9_0).wf = true ∧ l9_1.length ≤ c9_1 ∧ l9_1.length ≤ maxLen ∧ (∀ x ∈ l9_1, (Lit.int .i64 x).wf = true) ∧ Kd.C (Kd.int .i64) w A9_1 l9_1.length l9_1 := by
  obtain ⟨y0, y1, n, _, hlen, h0, h1⟩ := trod_struct2 Try.underlying42 h
  rw [show Try.prog.cellsOf 42 = 2 by kernel_rfl] at hlen
  obtain ⟨x0, x1, rfl⟩ := cells_of2 hlen
  rw [show Try.prog.cellsOf 2 = 1 by kernel_rfl] at h0
  replace h0 : DataW.trod enc Try.prog w base (fun _ => true) held n 2 [x0] = some y0 := h0
  obtain ⟨a9_0, e0, f0_0⟩ := open_T2 h0
  rw [show Try.prog.cellsOf 25 = 1 by kernel_rfl] at h1
  replace h1 : DataW.trod enc Try.prog w base (fun _ => true) held n 25 [x1] = some y1 := h1
  obtain ⟨A9_1, c9_1, l9_1, e1, f1_0, f1_1, f1_2, f1_3⟩ := open_T25 h1
  simp only [List.cons.injEq, and_true] at e0 e1
  obtain rfl := e0
  obtain rfl := e1
  exact ⟨a9_0, A9_1, c9_1, l9_1, rfl, f0_0, f1_0, f1_1, f1_2, f1_3⟩
theorem open_T44 {fuel : Nat} {cs : List Value} {x : DataW H × List MemPlace} (h : DataW.trod enc Try.prog w base (fun _ => true) held fuel 44 cs = some x) :
    ∃ (A9_0 : Option Addr) (c9_0 : Nat) (l9_0 : List (List Int)) (a9_1 : Int) (A9_2 : Option Addr) (c9_2 : Nat) (l9_2 : List Int) (a9_3 : Int) (A9_4 : Option Addr) (c9_4 : Nat) (l9_4 : List Int), cs = [.slice A9_0 l9_0.length c9_0, .int .i64 a9_1, .slice A9_2 l9_2.length c9_2, .int .i64 a9_3, .slice A9_4 l9_4.length c9_4] ∧ l9_0.length ≤ c9_0 ∧ l9_0.length ≤ maxLen ∧ (∀ r ∈ l9_0, r.length ≤ maxLen ∧ ∀ x ∈ r, (Lit.int .i64 x).wf = true) ∧ Kd.C (Kd.slice 2 (Kd.int .i64)) w A9_0 l9_0.length l9_0 ∧ (Lit.int .i64 a9_1).wf = true ∧ l9_2.length ≤ c9_2 ∧ l9_2.length ≤ maxLen ∧ (∀ x ∈ l9_2, (Lit.int .i64 x).wf = true) ∧ Kd.C (Kd.int .i64) w A9_2 l9_2.length l9_2 ∧ (Lit.int .i64 a9_3).wf = true ∧ l9_4.length ≤ c9_4 ∧ l9_4.length ≤ maxLen ∧ (∀ x ∈ l9_4, (Lit.int .i64 x).wf = true) ∧ Kd.C (Kd.int .i64) w A9_4 l9_4.length l9_4 := by
  obtain ⟨y0, y1, y2, n, _, hlen, h0, h1, h2⟩ := Go.Deep.trod_struct3 Try.underlying44 h
  rw [show Try.prog.cellsOf 44 = 5 by kernel_rfl] at hlen
  obtain ⟨x0, x1, x2, x3, x4, rfl⟩ := cells_of5 hlen
  rw [show Try.prog.cellsOf 24 = 1 by kernel_rfl] at h0
  replace h0 : DataW.trod enc Try.prog w base (fun _ => true) held n 24 [x0] = some y0 := h0
  obtain ⟨A9_0, c9_0, l9_0, e0, f0_0, f0_1, f0_2, f0_3⟩ := open_T24 h0
  rw [show Try.prog.cellsOf 27 = 2 by kernel_rfl] at h1
  replace h1 : DataW.trod enc Try.prog w base (fun _ => true) held n 27 [x1, x2] = some y1 := h1
  obtain ⟨a9_1, A9_2, c9_2, l9_2, e1, f1_0, f1_1, f1_2, f1_3, f1_4⟩ := open_T27 h1
  rw [show Try.prog.cellsOf 42 = 2 by kernel_rfl] at h2
  replace h2 : DataW.trod enc Try.prog w base (fun _ => true) held n 42 [x3, x4] = some y2 := h2
  obtain ⟨a9_3, A9_4, c9_4, l9_4, e2, f2_0, f2_1, f2_2, f2_3, f2_4⟩ := open_T42 h2
  simp only [List.cons.injEq, and_true] at e0 e1 e2
  obtain rfl := e0
  obtain ⟨rfl, rfl⟩ := e1
  obtain ⟨rfl, rfl⟩ := e2
  exact ⟨A9_0, c9_0, l9_0, a9_1, A9_2, c9_2, l9_2, a9_3, A9_4, c9_4, l9_4, rfl, f0_0, f0_1, f0_2, f0_3, f1_0, f1_1, f1_2, f1_3, f1_4, f2_0, f2_1, f2_2, f2_3, f2_4⟩
end
set_option maxRecDepth 100000 in
theorem lifted (os : Os) (started : os.Started) (H : Type) (enc : TypeId × Value → H) :
    ReturnsInHanded {} Try.checked os 5 .any (Rows.fnExactIsDeskSpec.pre6 enc Try.prog Try.f5 Rows.fnExactIsDeskRow.domain false) (Rows.fnExactIsDeskSpec.post enc Try.prog Try.f5 false true false false) := by
  refine returnsInHanded_of_change_sized (C := Try.checked) own started (by kernel_rfl) Try.func5
    (ChangeSpec.witness6 (enc := enc) (C := Try.checked) false ⟨#[], #[.agg #[.slice none 0 0, .int .i64 0, .slice none 0 0, .int .i64 0, .slice none 0 0]], []⟩ 8 (by kernel_rfl) (by kernel_rfl) (by kernel_rfl) (by kernel_rfl)) ?_
  intro W base args ds gs before hval0 hW hcnd hsz0 _
  have hsz : (DataW.weightsEach Try.prog (Try.f5.params.toList ++ Rows.fnExactIsDeskSpec.plain.varTypes Try.prog) (ds ++ gs)).all (· ≤ reachBytes) = true := hsz0
  have hval : ∀ (j : Nat) t v, Try.f5.params[j]? = some t → args[j]? = some v → Value.okWide Try.prog W .any base t v := hval0
  have hW' := hW
  obtain ⟨p, q, hA0, hV, rfl, hfz, hnd⟩ := hW
  have hA : DataW.TrodAll enc Try.prog W 0 (fun _ => true) true Try.f5.params.toList args.toList ds p := hA0
  rw [Try.params5] at hA hval hsz
  obtain ⟨v0, vs0, d0, ds0, p0, q0, hargs, rfl, rfl, h0, r0⟩ := trodAll_cons hA
  obtain ⟨rfl, rfl, rfl⟩ := trodAll_nil r0
  obtain rfl : args = #[v0] := by cases args; simp_all
  obtain ⟨rfl, rfl⟩ := trodVars_none hV
  obtain ⟨a0, rfl, _⟩ := okWide_struct Try.underlying44 (hval 0 44 v0 rfl rfl)
  have k0 := h0
  have lt0 : ∀ x ∈ p0, x.block < W.heap.size := by obtain ⟨m, hm⟩ := k0; exact DataW.trod_lt m _ _ _ hm
  obtain ⟨fuel0, hf0⟩ := h0
  obtain ⟨A0_0, c0_0, l0_0, a0_1, A0_2, c0_2, l0_2, a0_3, A0_4, c0_4, l0_4, e0, hc0_0, hm0_0, hw0_0, hr0_0, hw0_1, hc0_2, hm0_2, hw0_2, hr0_2, hw0_3, hc0_4, hm0_4, hw0_4, hr0_4⟩ := open_T44 hf0
  obtain rfl : a0 = #[.slice A0_0 l0_0.length c0_0, .int .i64 a0_1, .slice A0_2 l0_2.length c0_2, .int .i64 a0_3, .slice A0_4 l0_4.length c0_4] := by cases a0; simpa [Value.cells] using e0
  clear hA0 hval0 hsz0 hsz
  refine (PFnExactIsDesk.laws_FnExactIsDesk.walk Pure.FnExactIsDesk A0_0 c0_0 l0_0 a0_1 A0_2 c0_2 l0_2 a0_3 A0_4 c0_4 l0_4 W hc0_0 hm0_0 hw0_0 hr0_0 hw0_1 hc0_2 hm0_2 hw0_2 hr0_2 hw0_3 hc0_4 hm0_4 hw0_4 hr0_4).mono fun e W' ⟨he, bel⟩ => ?_
  subst he
  exact ⟨_, rfl, _, _, _, [], _, [], hW', trodAll_mk1 (shut_bool Try.underlying4 _), (trodAll_cons_mk (Below.trod laidOut (by kernel_rfl) (of_decide_eq_true (by kernel_rfl)) k0 bel lt0) trodAll_mk0), rfl, bel.frame _, fun h => by cases h⟩
theorem over : Rows.fnExactIsDeskRow.holds Try.pinned (OpenSpec.ofChange Rows.fnExactIsDeskSpec) :=
  OpenClaim.holds_of_wide 5 Try.f5 rfl rfl rfl rfl rfl rfl rfl ⟨rfl, rfl, rfl, rfl, rfl⟩ rfl rfl rfl rfl rfl (by kernel_rfl) Try.func5 (by kernel_rfl)
    (of_decide_eq_true (by kernel_rfl)) (by unfold Func.isWrapper; first | (rw [if_pos (by decide +kernel)]; kernel_rfl) | (rw [if_neg (by decide +kernel)]; exact ⟨rfl, rfl⟩))
    (fun os started H enc _ => lifted os started H enc)
theorem proved : Rows.FnExactIsDeskSaid := over
#print axioms proved
end Go.Proofs.Ytkpcogaahgfmcaa.fnExactIsDesk
namespace Go.Proofs.Ytkpcogaahgfmcaa
/-- The row, under a short name, for the claim. -/
theorem fnExactIsDesk_holds : Rows.FnExactIsDeskSaid := fnExactIsDesk.proved
end Go.Proofs.Ytkpcogaahgfmcaa
