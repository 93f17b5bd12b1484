/- Contracts of functions of the program and of the reference: what the evaluator gives for a call of each. -/
import Derived.Test.YtcdmhlagibjeiaaAEf
import Derived.Test.YtcdmhlagibjeiaaK0
import Derived.Test.YtcdmhlagibjeiaaK5
import Derived.Test.YtcdmhlagibjeiaaK6
import Derived.Test.YtcdmhlagibjeiaaK8
import Derived.Test.YtcdmhlagibjeiaaK11
import Derived.Test.YtcdmhlagibjeiaaK31
import Derived.Test.YtcdmhlagibjeiaaK33
import Derived.Test.YtcdmhlagibjeiaaK42
import Derived.Test.YtcdmhlagibjeiaaK44
import Derived.Test.YtcdmhlagibjeiaaK52
namespace Go.Proofs.YtcdmhlagibjeiaaE
open Go Go.Proofs
set_option maxHeartbeats 4000000
set_option maxRecDepth 4000
set_option linter.unusedSimpArgs false
set_option linter.unusedVariables false
set_option pp.deepTerms false
set_option pp.deepTerms.threshold 10
/-! ## RestrictCochain -/
open Classical in
noncomputable def cocode (T : List (List Int)) (M : Int) (U : List Int) (D : Int) (V : List Int) : Int := if GM T M U ∧ IsCo T M D V then 0 else 1
theorem ct_cochainCode (n : Nat) (hn : B + 5 ≤ n) (T : List (List Int)) (hT : T.length ≤ 2000000) (hr : ∀ i, (rown T i).length ≤ 1000000000000) (M : Int) (U : List Int) (hU : U.length ≤ 2000000) (D : Int) (V : List Int) (hV : V.length ≤ 10000000) :
    evalCall Try.prog An n 75 [.agg [.d (intss T)], .agg [.d (.int .i64 M), .d (ints U)], .d (.sl 2 [.int .i64 D, ints V])] [] = some ⟨.d (.int .i64 (cocode T M U D V)), [], []⟩ := by
  obtain ⟨m, rfl⟩ : ∃ m, n = m + 1 := ⟨n - 1, by omega⟩
  have hB := B_eq
  simp only [evalCall_at, fb75, bnd_some, bodyOf, Try.f75, Option.getD_some]
  generalize hb0 : Code.loop _ = cc0
  obtain rfl : cc0 = .loop (lp Try.f75 0) := by rw [← hb0]; rfl
  clear hb0
  have c1 := ct_areModules1 m (by omega) T hT hr M U hU
  by_cases h : GM T M U
  · have c2 := ct_isCochain m (by omega) T h.1.1.1 M U D V hV
    rw [bl_true h] at c1
    simp -implicitDefEqProofs (maxSteps := 3000000) [c1]
    generalize hx : loopC _ _ _ = x
    generalize hl : lp Try.f75 0 = L at hx
    simp only [lp, bodyOf, Try.f75, Option.getD_some, loopsIn, List.append_nil, List.nil_append, List.cons_append, List.getD, List.getElem?_cons_zero, List.getElem?_cons_succ] at hl
    subst hl
    rcases loop_chk hx 1 0 (fun i => IsCo T M D V)
      (fun i g => ⟨[(3, .ptr 48 1 0), (4, .ptr 64 2 0), (14, .d (.sl 2 [.int .i64 D, ints V])), (15, .d (.int .i64 1)), (16, .d (.int .i64 i))], [(48, some (1, .box [.d (intss T)])), (64, some (2, .box [.d (.int .i64 M), .d (ints U)]))], g⟩)
      (fun s => True) (fun s => lookL s.env 6 = some (.d (.int .i64 1)))
      (by show 1 < m; omega) (by simp -implicitDefEqProofs (maxSteps := 3000000))
      (by
        rintro i g hi hp
        obtain rfl : i = 0 := by omega
        have w2 := wrap_id (n := 1) (by omega)
        by_cases p : IsCo T M D V
        · rw [bl_true p] at c2
          simp -implicitDefEqProofs (maxSteps := 3000000) [c2, p, w2]
        · rw [bl_false p] at c2
          simp -implicitDefEqProofs (maxSteps := 3000000) [c2, p, w2])
      (by
        rintro g
        simp -implicitDefEqProofs (maxSteps := 3000000)) with ⟨h1, s, rfl, _⟩ | ⟨⟨i, hi, h1⟩, s, rfl, h2⟩
    · have e : cocode T M U D V = 0 := if_pos ⟨h, h1 0 (by omega)⟩
      simp -implicitDefEqProofs (maxSteps := 3000000) [e]
    · have e : cocode T M U D V = 1 := if_neg (fun z => h1 z.2)
      simp -implicitDefEqProofs (maxSteps := 3000000) [h2, e]
  · have e : cocode T M U D V = 1 := if_neg (fun z => h z.1)
    rw [bl_false h] at c1
    simp -implicitDefEqProofs (maxSteps := 3000000) [c1, e]
def ResGood (T : List (List Int)) (M : Int) (U l : List Int) (D : Int) (V : List Int) : Prop := (GM T M U ∧ IsCo T M D V) ∧ HGood T l
open Classical in
noncomputable def rescode (T : List (List Int)) (M : Int) (U l : List Int) (D : Int) (V : List Int) : Int := if GM T M U ∧ IsCo T M D V then subcode T l else 1
theorem rescode_ne {T : List (List Int)} {M : Int} {U l : List Int} {D : Int} {V : List Int} (h : ¬ ResGood T M U l D V) : rescode T M U l D V ≠ 0 := by
  unfold rescode
  split
  · rename_i z
    exact subcode_ne fun q => h ⟨z, q⟩
  · omega
theorem pulOk_sub {T : List (List Int)} {M : Int} {U l : List Int} {D : Int} {V : List Int} (h : ResGood T M U l D V) : PulOk (sbG T l).length T.length M V l D.toNat := by
  obtain ⟨⟨G, C⟩, H⟩ := h
  have hlen := setOk_len H.2.1
  have hp := H.pos
  have hT := G.1.1.1
  rw [sbG_len]
  exact ⟨by omega, hT, by have := C.1; omega, G.2.1.1, by have := C.2.1; simpa [cellsOf_] using this, C.2.2, rfl, H.2.1.1⟩
noncomputable def resW (T : List (List Int)) (l : List Int) (D : Int) (V : List Int) : List Int := pulW (sbG T l).length T.length V l D.toNat
end Go.Proofs.YtcdmhlagibjeiaaE
