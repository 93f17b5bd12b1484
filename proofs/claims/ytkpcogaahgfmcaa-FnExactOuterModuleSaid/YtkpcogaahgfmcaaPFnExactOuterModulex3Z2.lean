-- Made by a program of this session (wip/tools: the patched printer), for this claim.
import Derived.Test.YtkpcogaahgfmcaaXSqZ2
import Derived.Test.YtkpcogaahgfmcaaPFnExactOuterModulex0Z2
import Derived.Test.YtkpcogaahgfmcaaPFnExactOuterModulex2Z2
namespace Go.Proofs.Ytkpcogaahgfmcaa.PFnExactOuterModule
open Go.Proofs.YtkpcogaahgfmcaaX
open Go.RowKit Go.Proofs.YtkpcogaahgfmcaaW.PrintWords Go.Proofs.YtkpcogaahgfmcaaW.PrintLast Go.Proofs.YtkpcogaahgfmcaaW.PrintMore
attribute [local go_sem] max2_int min2_int max_two min_two max_three min_three max_four min_four   -- for this text's walks alone
set_option linter.unusedVariables false
set_option linter.unusedSimpArgs false

/-! ### spec_l01Is: function 118 -/
mutual
def spec_l01Is.l0 : Nat → Int → Int → List (List Int) → Option (Bool)
 | 0, _, _, _ => none
 | k + 1, x3, x4, x151000 => if x4 < x3 then (if 0 ≤ x4 then (if x4 < (x151000.length : Int) then (if ((rd_L1 x151000 x4).length : Int) = x3 then (spec_l01Is.l1 k x3 x4 0 x151000) else (some false)) else (none)) else (none)) else (spec_l01Is.l2 k x3 0 x151000)
def spec_l01Is.l1 : Nat → Int → Int → Int → List (List Int) → Option (Bool)
 | 0, _, _, _, _ => none
 | k + 1, x3, x4, x5, x151000 => if x5 < x3 then (if 0 ≤ x4 then (if x4 < (x151000.length : Int) then (if 0 ≤ x5 then (if x5 < ((rd_L1 x151000 x4).length : Int) then ((spec_l01In.f (rd (rd_L1 x151000 x4) x5) 0 (wrap64 (x3 - 1))).bind fun t155 => (if t155 = true then (spec_l01Is.l1 k x3 x4 (wrap64 (x5 + 1)) x151000) else (some false))) else (none)) else (none)) else (none)) else (none)) else (spec_l01Is.l0 k x3 (wrap64 (x4 + 1)) x151000)
def spec_l01Is.l2 : Nat → Int → Int → List (List Int) → Option (Bool)
 | 0, _, _, _ => none
 | k + 1, x3, x6, x151000 => if x6 < x3 then (if 0 < (x151000.length : Int) then (if 0 ≤ x6 then (if x6 < ((rd_L1 x151000 0).length : Int) then (if (rd (rd_L1 x151000 0) x6) = x6 then (if x6 < (x151000.length : Int) then (if 0 < ((rd_L1 x151000 x6).length : Int) then (spec_l01Is.j3 k x3 x6 ((rd (rd_L1 x151000 x6) 0) != x6) x151000) else (none)) else (none)) else (spec_l01Is.j3 k x3 x6 true x151000)) else (none)) else (none)) else (none)) else (some true)
def spec_l01Is.j3 : Nat → Int → Int → Bool → List (List Int) → Option (Bool)
 | 0, _, _, _, _ => none
 | k + 1, x3, x6, x70, x151000 => if x70 = true then (some false) else (spec_l01Is.l3 k x3 x6 false 0 x151000)
def spec_l01Is.l3 : Nat → Int → Int → Bool → Int → List (List Int) → Option (Bool)
 | 0, _, _, _, _, _ => none
 | k + 1, x3, x6, x7, x8, x151000 => if x8 < x3 then (if x7 = true then (spec_l01Is.j5 k x3 x6 true x8 x151000) else (if 0 ≤ x6 then (if x6 < (x151000.length : Int) then (if 0 ≤ x8 then (if x8 < ((rd_L1 x151000 x6).length : Int) then (if (rd (rd_L1 x151000 x6) x8) = 0 then (if x8 < (x151000.length : Int) then (if x6 < ((rd_L1 x151000 x8).length : Int) then (spec_l01Is.j5 k x3 x6 ((rd (rd_L1 x151000 x8) x6) == 0) x8 x151000) else (none)) else (none)) else (spec_l01Is.j5 k x3 x6 false x8 x151000)) else (none)) else (none)) else (none)) else (none))) else (if x7 = true then (spec_l01Is.l2 k x3 (wrap64 (x6 + 1)) x151000) else (some false))
def spec_l01Is.j5 : Nat → Int → Int → Bool → Int → List (List Int) → Option (Bool)
 | 0, _, _, _, _, _ => none
 | k + 1, x3, x6, x7, x8, x151000 => spec_l01Is.l4 k x3 x6 x7 x8 0 x151000
def spec_l01Is.l4 : Nat → Int → Int → Bool → Int → Int → List (List Int) → Option (Bool)
 | 0, _, _, _, _, _, _ => none
 | k + 1, x3, x6, x7, x8, x9, x151000 => if x9 < x3 then (if 0 ≤ x6 then (if x6 < (x151000.length : Int) then (if 0 ≤ x8 then (if x8 < ((rd_L1 x151000 x6).length : Int) then (if 0 ≤ (rd (rd_L1 x151000 x6) x8) then (if (rd (rd_L1 x151000 x6) x8) < (x151000.length : Int) then (if 0 ≤ x9 then (if x9 < ((rd_L1 x151000 (rd (rd_L1 x151000 x6) x8)).length : Int) then (if x8 < (x151000.length : Int) then (if x9 < ((rd_L1 x151000 x8).length : Int) then (if 0 ≤ (rd (rd_L1 x151000 x8) x9) then (if (rd (rd_L1 x151000 x8) x9) < ((rd_L1 x151000 x6).length : Int) then (if (rd (rd_L1 x151000 (rd (rd_L1 x151000 x6) x8)) x9) = (rd (rd_L1 x151000 x6) (rd (rd_L1 x151000 x8) x9)) then (spec_l01Is.l4 k x3 x6 x7 x8 (wrap64 (x9 + 1)) x151000) else (some false)) else (none)) else (none)) else (none)) else (none)) else (none)) else (none)) else (none)) else (none)) else (none)) else (none)) else (none)) else (none)) else (spec_l01Is.l3 k x3 x6 x7 (wrap64 (x8 + 1)) x151000)
end
def spec_l01Is.f (k : Nat) (l0_0 : List (List Int)) : Option (Bool) := (spec_l01In.f (l0_0.length : Int) 1 8).bind fun t151 => (if t151 = true then (spec_l01Is.l0 k (l0_0.length : Int) 0 l0_0) else (some false))
theorem spec_l01Is.mono_l : ∀ k, (∀ y0 y1 y2, LeO (spec_l01Is.l0 k y0 y1 y2) (spec_l01Is.l0 (k + 1) y0 y1 y2)) ∧ (∀ y0 y1 y2 y3, LeO (spec_l01Is.l1 k y0 y1 y2 y3) (spec_l01Is.l1 (k + 1) y0 y1 y2 y3)) ∧ (∀ y0 y1 y2, LeO (spec_l01Is.l2 k y0 y1 y2) (spec_l01Is.l2 (k + 1) y0 y1 y2)) ∧ (∀ y0 y1 y2 y3, LeO (spec_l01Is.j3 k y0 y1 y2 y3) (spec_l01Is.j3 (k + 1) y0 y1 y2 y3)) ∧ (∀ y0 y1 y2 y3 y4, LeO (spec_l01Is.l3 k y0 y1 y2 y3 y4) (spec_l01Is.l3 (k + 1) y0 y1 y2 y3 y4)) ∧ (∀ y0 y1 y2 y3 y4, LeO (spec_l01Is.j5 k y0 y1 y2 y3 y4) (spec_l01Is.j5 (k + 1) y0 y1 y2 y3 y4)) ∧ (∀ y0 y1 y2 y3 y4 y5, LeO (spec_l01Is.l4 k y0 y1 y2 y3 y4 y5) (spec_l01Is.l4 (k + 1) y0 y1 y2 y3 y4 y5))
 | 0 => ⟨fun _ _ _ r h => by simp [spec_l01Is.l0] at h, fun _ _ _ _ r h => by simp [spec_l01Is.l1] at h, fun _ _ _ r h => by simp [spec_l01Is.l2] at h, fun _ _ _ _ r h => by simp [spec_l01Is.j3] at h, fun _ _ _ _ _ r h => by simp [spec_l01Is.l3] at h, fun _ _ _ _ _ r h => by simp [spec_l01Is.j5] at h, fun _ _ _ _ _ _ r h => by simp [spec_l01Is.l4] at h⟩
 | k + 1 => by
  obtain ⟨ih0, ih1, ih2, ih3, ih4, ih5, ih6⟩ := spec_l01Is.mono_l k
  refine ⟨?_, ?_, ?_, ?_, ?_, ?_, ?_⟩
  ·intro y0 y1 y2
   unfold spec_l01Is.l0
   repeat' first
   | (with_reducible exact ih0 _ _ _)
   | (with_reducible exact ih1 _ _ _ _)
   | (with_reducible exact ih2 _ _ _)
   | (with_reducible exact ih3 _ _ _ _)
   | (with_reducible exact ih4 _ _ _ _ _)
   | (with_reducible exact ih5 _ _ _ _ _)
   | (with_reducible exact ih6 _ _ _ _ _ _)
   | (with_reducible exact LeO.refl _)
   | (with_reducible exact LeO.none _)
   | (with_reducible refine LeO.ite ?_ ?_)
   | (with_reducible refine LeO.bind ?_ (fun _ => ?_))
   | exact ih0 _ _ _
   | exact ih1 _ _ _ _
   | exact ih2 _ _ _
   | exact ih3 _ _ _ _
   | exact ih4 _ _ _ _ _
   | exact ih5 _ _ _ _ _
   | exact ih6 _ _ _ _ _ _
   | exact LeO.none _
   | refine LeO.ite ?_ ?_
   | refine LeO.bind ?_ (fun _ => ?_)
  ·intro y0 y1 y2 y3
   unfold spec_l01Is.l1
   repeat' first
   | (with_reducible exact ih0 _ _ _)
   | (with_reducible exact ih1 _ _ _ _)
   | (with_reducible exact ih2 _ _ _)
   | (with_reducible exact ih3 _ _ _ _)
   | (with_reducible exact ih4 _ _ _ _ _)
   | (with_reducible exact ih5 _ _ _ _ _)
   | (with_reducible exact ih6 _ _ _ _ _ _)
   | (with_reducible exact LeO.refl _)
   | (with_reducible exact LeO.none _)
   | (with_reducible refine LeO.ite ?_ ?_)
   | (with_reducible refine LeO.bind ?_ (fun _ => ?_))
   | exact ih0 _ _ _
   | exact ih1 _ _ _ _
   | exact ih2 _ _ _
   | exact ih3 _ _ _ _
   | exact ih4 _ _ _ _ _
   | exact ih5 _ _ _ _ _
   | exact ih6 _ _ _ _ _ _
   | exact LeO.none _
   | refine LeO.ite ?_ ?_
   | refine LeO.bind ?_ (fun _ => ?_)
  ·intro y0 y1 y2
   unfold spec_l01Is.l2
   repeat' first
   | (with_reducible exact ih0 _ _ _)
   | (with_reducible exact ih1 _ _ _ _)
   | (with_reducible exact ih2 _ _ _)
   | (with_reducible exact ih3 _ _ _ _)
   | (with_reducible exact ih4 _ _ _ _ _)
   | (with_reducible exact ih5 _ _ _ _ _)
   | (with_reducible exact ih6 _ _ _ _ _ _)
   | (with_reducible exact LeO.refl _)
   | (with_reducible exact LeO.none _)
   | (with_reducible refine LeO.ite ?_ ?_)
   | (with_reducible refine LeO.bind ?_ (fun _ => ?_))
   | exact ih0 _ _ _
   | exact ih1 _ _ _ _
   | exact ih2 _ _ _
   | exact ih3 _ _ _ _
   | exact ih4 _ _ _ _ _
   | exact ih5 _ _ _ _ _
   | exact ih6 _ _ _ _ _ _
   | exact LeO.none _
   | refine LeO.ite ?_ ?_
   | refine LeO.bind ?_ (fun _ => ?_)
  ·intro y0 y1 y2 y3
   unfold spec_l01Is.j3
   repeat' first
   | (with_reducible exact ih0 _ _ _)
   | (with_reducible exact ih1 _ _ _ _)
   | (with_reducible exact ih2 _ _ _)
   | (with_reducible exact ih3 _ _ _ _)
   | (with_reducible exact ih4 _ _ _ _ _)
   | (with_reducible exact ih5 _ _ _ _ _)
   | (with_reducible exact ih6 _ _ _ _ _ _)
   | (with_reducible exact LeO.refl _)
   | (with_reducible exact LeO.none _)
   | (with_reducible refine LeO.ite ?_ ?_)
   | (with_reducible refine LeO.bind ?_ (fun _ => ?_))
   | exact ih0 _ _ _
   | exact ih1 _ _ _ _
   | exact ih2 _ _ _
   | exact ih3 _ _ _ _
   | exact ih4 _ _ _ _ _
   | exact ih5 _ _ _ _ _
   | exact ih6 _ _ _ _ _ _
   | exact LeO.none _
   | refine LeO.ite ?_ ?_
   | refine LeO.bind ?_ (fun _ => ?_)
  ·intro y0 y1 y2 y3 y4
   unfold spec_l01Is.l3
   repeat' first
   | (with_reducible exact ih0 _ _ _)
   | (with_reducible exact ih1 _ _ _ _)
   | (with_reducible exact ih2 _ _ _)
   | (with_reducible exact ih3 _ _ _ _)
   | (with_reducible exact ih4 _ _ _ _ _)
   | (with_reducible exact ih5 _ _ _ _ _)
   | (with_reducible exact ih6 _ _ _ _ _ _)
   | (with_reducible exact LeO.refl _)
   | (with_reducible exact LeO.none _)
   | (with_reducible refine LeO.ite ?_ ?_)
   | (with_reducible refine LeO.bind ?_ (fun _ => ?_))
   | exact ih0 _ _ _
   | exact ih1 _ _ _ _
   | exact ih2 _ _ _
   | exact ih3 _ _ _ _
   | exact ih4 _ _ _ _ _
   | exact ih5 _ _ _ _ _
   | exact ih6 _ _ _ _ _ _
   | exact LeO.none _
   | refine LeO.ite ?_ ?_
   | refine LeO.bind ?_ (fun _ => ?_)
  ·intro y0 y1 y2 y3 y4
   unfold spec_l01Is.j5
   repeat' first
   | (with_reducible exact ih0 _ _ _)
   | (with_reducible exact ih1 _ _ _ _)
   | (with_reducible exact ih2 _ _ _)
   | (with_reducible exact ih3 _ _ _ _)
   | (with_reducible exact ih4 _ _ _ _ _)
   | (with_reducible exact ih5 _ _ _ _ _)
   | (with_reducible exact ih6 _ _ _ _ _ _)
   | (with_reducible exact LeO.refl _)
   | (with_reducible exact LeO.none _)
   | (with_reducible refine LeO.ite ?_ ?_)
   | (with_reducible refine LeO.bind ?_ (fun _ => ?_))
   | exact ih0 _ _ _
   | exact ih1 _ _ _ _
   | exact ih2 _ _ _
   | exact ih3 _ _ _ _
   | exact ih4 _ _ _ _ _
   | exact ih5 _ _ _ _ _
   | exact ih6 _ _ _ _ _ _
   | exact LeO.none _
   | refine LeO.ite ?_ ?_
   | refine LeO.bind ?_ (fun _ => ?_)
  ·intro y0 y1 y2 y3 y4 y5
   unfold spec_l01Is.l4
   repeat' first
   | (with_reducible exact ih0 _ _ _)
   | (with_reducible exact ih1 _ _ _ _)
   | (with_reducible exact ih2 _ _ _)
   | (with_reducible exact ih3 _ _ _ _)
   | (with_reducible exact ih4 _ _ _ _ _)
   | (with_reducible exact ih5 _ _ _ _ _)
   | (with_reducible exact ih6 _ _ _ _ _ _)
   | (with_reducible exact LeO.refl _)
   | (with_reducible exact LeO.none _)
   | (with_reducible refine LeO.ite ?_ ?_)
   | (with_reducible refine LeO.bind ?_ (fun _ => ?_))
   | exact ih0 _ _ _
   | exact ih1 _ _ _ _
   | exact ih2 _ _ _
   | exact ih3 _ _ _ _
   | exact ih4 _ _ _ _ _
   | exact ih5 _ _ _ _ _
   | exact ih6 _ _ _ _ _ _
   | exact LeO.none _
   | refine LeO.ite ?_ ?_
   | refine LeO.bind ?_ (fun _ => ?_)
theorem spec_l01Is.mono : ∀ a0 k, LeO (spec_l01Is.f k a0) (spec_l01Is.f (k + 1) a0) := by
 intro a0 k
 obtain ⟨ih0, ih1, ih2, ih3, ih4, ih5, ih6⟩ := spec_l01Is.mono_l k
 unfold spec_l01Is.f
 repeat' first
   | (with_reducible exact ih0 _ _ _)
   | (with_reducible exact LeO.refl _)
   | (with_reducible refine LeO.ite ?_ ?_)
   | (with_reducible refine LeO.bind ?_ (fun _ => ?_))
set_option maxHeartbeats 8000000 in
set_option maxRecDepth 100000 in
theorem spec_l01Is.calls (k : Nat) (A0_0 : Option Addr) (c0_0 : Nat) (l0_0 : List (List Int)) (r : Bool) (w : World) (hr0_0 : Kd.C (Kd.slice 2 (Kd.int .i64)) w A0_0 l0_0.length l0_0) (hc0_0 : l0_0.length ≤ c0_0) (h : spec_l01Is.f k l0_0 = some r) :
  Calls Try.prog 118 #[.agg #[.slice A0_0 l0_0.length c0_0]] w fun e w' => e = .returned (.bool r) ∧ Below w.heap.size w w' := by
 have hu33 := Try.underlying33
 have hu22 := Try.underlying22
 have hu25 := Try.underlying25
 have hu2 := Try.underlying2
 have HR0_0 := Aside0.mk hr0_0
 have HC0_0 := Aside0.mk hc0_0
 clear hr0_0 hc0_0
 have HB := Aside0.mk (Below.refl w.heap.size w)
 have H : ((spec_l01In.f (l0_0.length : Int) 1 8).bind fun t151 => (if t151 = true then (spec_l01Is.l0 k (l0_0.length : Int) 0 l0_0) else (some false))) = some r := h
 clear h
 obtain ⟨t151, A2, H⟩ := bnd H
 try dsimp only at H
 by_cases c3 : t151 = true
 ·subst c3
  have H1 : (spec_l01Is.l0 k (l0_0.length : Int) 0 l0_0) = some r := by rw [if_pos rfl] at H; exact H
  clear H
  have H := H1
  clear H1
  have H' := Aside0.mk H
  clear H
  go_enter Try.func118, Try.ntmps118
  go_wp2_with (first | ((with_reducible refine gate_dst (N := 1) rfl ?_); refine box_event ?hg (N := 1) ?hd (cs := #[.slice A0_0 l0_0.length c0_0]) (t := 33) ?hr ?_; (case hd => rfl); (case hg => rfl); (case hr => (go_simp; done)); intro gb150 hg w4 hbox hb; have BK150 := Aside0.mk (hbox); have GW150 := Aside0.mk (geg hg (below_size HB.out)); have GE150 := Aside0.mk (geg hg (below_size HB.out)); replace HB := Aside0.mk (below_step HB.out hb); clear hb hbox hg; have hcz5_0 := bc0 BK150.out; have hfz5_0 := blk_frozen BK150.out 0) | (go_at_call 120; (with_reducible refine (spec_l01In.calls (l0_0.length : Int) 1 8 true _ A2.out).mono ?_); rintro e w' ⟨rfl, ⟨nd, rfl⟩⟩))
  repeat (go_quiet ((go_at_call 120; (with_reducible refine (spec_l01In.calls (l0_0.length : Int) 1 8 true _ A2.out).mono ?_); rintro e w' ⟨rfl, ⟨nd, rfl⟩⟩; (try exact ⟨rfl, _, World.drewN_drewN _ _ _⟩))); try go_wp2_with ((go_at_call 120; (with_reducible refine (spec_l01In.calls (l0_0.length : Int) 1 8 true _ A2.out).mono ?_); rintro e w' ⟨rfl, ⟨nd, rfl⟩⟩; (try exact ⟨rfl, _, World.drewN_drewN _ _ _⟩))))
  go_loopg [4] k (fun kq v4 w' => ∃ (x4_1 : Int), v4 = .int .i64 x4_1 ∧ Aside0 (spec_l01Is.l0 kq (l0_0.length : Int) x4_1 l0_0 = some r) ∧ Aside0 (kq ≤ k) ∧ Aside0 (w'.heap[gb150]? = some (.cells #[(.slice A0_0 l0_0.length c0_0)] 33 (0, 0))) ∧ Aside0 (Below w.heap.size w w'))
  case atStart => exact ⟨(0), (by rfl), H', ⟨Nat.le_refl _⟩, ⟨by (with_reducible repeat (refine blk_drewN ?_ _)); exact BK150.out⟩, ⟨by repeat ((with_reducible first | exact HB.out | apply pw_below_drewN))⟩⟩
  case round =>
   clear H' hcz5_0 hfz5_0
   obtain ⟨x4_1, rfl, HA, HK1, BK150, HB⟩ := hrel
   cases gk with
   | zero => exact absurd HA.out (by simp [spec_l01Is.l0])
   | succ k1 =>
    have H := HA.out
    clear HA
    simp only [spec_l01Is.l0] at H
    by_cases c6 : x4_1 < (l0_0.length : Int)
    ·rw [if_pos c6] at H
     have c6b0 : decide (x4_1 < (l0_0.length : Int)) = true := decide_eq_true c6
     clear c6
     by_cases c7 : 0 ≤ x4_1
     ·rw [if_pos c7] at H
      have c7b0 : decide (0 ≤ x4_1) = true := decide_eq_true c7
      clear c7
      by_cases c8 : x4_1 < (l0_0.length : Int)
      ·rw [if_pos c8] at H
       have c8b0 : decide (x4_1 < (l0_0.length : Int)) = true := decide_eq_true c8
       clear c8
       by_cases c9 : ((rd_L1 l0_0 x4_1).length : Int) = (l0_0.length : Int)
       ·rw [if_pos c9] at H
        have c9b0 : (((rd_L1 l0_0 x4_1).length : Int) == (l0_0.length : Int)) = true := beq_iff_eq.mpr c9
        have c9b1 : (((rd_L1 l0_0 x4_1).length : Int) != (l0_0.length : Int)) = false := bne_eq_false_iff_eq.mpr c9
        have c9b2 : ((rd_L1 l0_0 x4_1).length == l0_0.length) = true := by (simp at c9 ⊢; omega)
        clear c9
        have H' := Aside0.mk H
        clear H
        have hcz10_0 := bc0 BK150.out
        have hfz10_0 := blk_frozen BK150.out 0
        have p152 : 0 ≤ (x4_1 : Int) := of_decide_eq_true ‹_›
        have q152 : x4_1 < (l0_0.length : Int) := of_decide_eq_true ‹_›
        obtain ⟨ad152, A152_0, c152_0, e152, hx152_0, hl152_0, hi152_0⟩ := at_L1 HR0_0.out x4_1 p152 q152
        cases e152
        replace hx152_0 := (HB.out.cell (World.block_lt_of_cell? w _ hx152_0)).trans hx152_0
        have HR152_0 := Aside0.mk hi152_0
        have HC152_0 := Aside0.mk hl152_0
        clear hi152_0 hl152_0
        replace p152 := eq_true p152
        replace q152 := eq_true q152
        go_wp2
        repeat (go_quiet (fail); try go_wp2)
        go_loopg [5] k1 (fun kq v5 w' => ∃ (x5_2 : Int), v5 = .int .i64 x5_2 ∧ Aside0 (spec_l01Is.l1 kq (l0_0.length : Int) x4_1 x5_2 l0_0 = some r) ∧ Aside0 (kq ≤ k1) ∧ Aside0 (w'.heap[gb150]? = some (.cells #[(.slice (some ad152) l0_0.length c0_0)] 33 (0, 0))) ∧ Aside0 (Below w.heap.size w w'))
        case atStart => exact ⟨(0), (by rfl), H', ⟨Nat.le_refl _⟩, ⟨by exact BK150.out⟩, ⟨by exact HB.out⟩⟩
        case round =>
         clear H' c6b0 c7b0 c8b0 c9b0 c9b1 c9b2 hcz10_0 hfz10_0 hx152_0 p152 q152
         obtain ⟨x5_2, rfl, HA, HK2, BK150, HB⟩ := hrel
         cases gk with
         | zero => exact absurd HA.out (by simp [spec_l01Is.l1])
         | succ k2 =>
          have H := HA.out
          clear HA
          simp only [spec_l01Is.l1] at H
          by_cases c11 : x5_2 < (l0_0.length : Int)
          ·rw [if_pos c11] at H
           have c11b0 : decide (x5_2 < (l0_0.length : Int)) = true := decide_eq_true c11
           clear c11
           by_cases c12 : 0 ≤ x4_1
           ·rw [if_pos c12] at H
            have c12b0 : decide (0 ≤ x4_1) = true := decide_eq_true c12
            clear c12
            by_cases c13 : x4_1 < (l0_0.length : Int)
            ·rw [if_pos c13] at H
             have c13b0 : decide (x4_1 < (l0_0.length : Int)) = true := decide_eq_true c13
             clear c13
             by_cases c14 : 0 ≤ x5_2
             ·rw [if_pos c14] at H
              have c14b0 : decide (0 ≤ x5_2) = true := decide_eq_true c14
              clear c14
              by_cases c15 : x5_2 < ((rd_L1 l0_0 x4_1).length : Int)
              ·rw [if_pos c15] at H
               have c15b0 : decide (x5_2 < ((rd_L1 l0_0 x4_1).length : Int)) = true := decide_eq_true c15
               clear c15
               obtain ⟨t155, A16, H⟩ := bnd H
               try dsimp only at H
               by_cases c17 : t155 = true
               ·subst c17
                have H1 : (spec_l01Is.l1 k2 (l0_0.length : Int) x4_1 (wrap64 (x5_2 + 1)) l0_0) = some r := by rw [if_pos rfl] at H; exact H
                clear H
                have H := H1
                clear H1
                have H' := Aside0.mk H
                clear H
                have hcz18_0 := bc0 BK150.out
                have hfz18_0 := blk_frozen BK150.out 0
                have p153 : 0 ≤ (x4_1 : Int) := of_decide_eq_true ‹_›
                have q153 : x4_1 < (l0_0.length : Int) := of_decide_eq_true ‹_›
                obtain ⟨ad153, A153_0, c153_0, e153, hx153_0, hl153_0, hi153_0⟩ := at_L1 HR0_0.out x4_1 p153 q153
                obtain rfl : ad152 = ad153 := (by injection e153)
                replace hx153_0 := (HB.out.cell (World.block_lt_of_cell? w _ hx153_0)).trans hx153_0
                have HR153_0 := Aside0.mk hi153_0
                have HC153_0 := Aside0.mk hl153_0
                clear hi153_0 hl153_0
                replace p153 := eq_true p153
                replace q153 := eq_true q153
                have p154 : 0 ≤ (x5_2 : Int) := of_decide_eq_true ‹_›
                have q154 : x5_2 < ((rd_L1 l0_0 x4_1).length : Int) := of_decide_eq_true ‹_›
                obtain ⟨ad154, e154, hx154_0⟩ := Kd.at_int HR153_0.out x5_2 p154 q154
                cases e154
                replace hx154_0 := (HB.out.cell (World.block_lt_of_cell? w _ hx154_0)).trans hx154_0
                replace p154 := eq_true p154
                replace q154 := eq_true q154
                go_wp2_with ((go_at_call 120; (with_reducible refine (spec_l01In.calls (rd (rd_L1 l0_0 x4_1) x5_2) 0 (wrap64 ((l0_0.length : Int) - 1)) true _ A16.out).mono ?_); rintro e w' ⟨rfl, ⟨nd, rfl⟩⟩))
                repeat (go_quiet ((go_at_call 120; (with_reducible refine (spec_l01In.calls (rd (rd_L1 l0_0 x4_1) x5_2) 0 (wrap64 ((l0_0.length : Int) - 1)) true _ A16.out).mono ?_); rintro e w' ⟨rfl, ⟨nd, rfl⟩⟩; (try exact ⟨rfl, _, World.drewN_drewN _ _ _⟩))); try go_wp2_with ((go_at_call 120; (with_reducible refine (spec_l01In.calls (rd (rd_L1 l0_0 x4_1) x5_2) 0 (wrap64 ((l0_0.length : Int) - 1)) true _ A16.out).mono ?_); rintro e w' ⟨rfl, ⟨nd, rfl⟩⟩; (try exact ⟨rfl, _, World.drewN_drewN _ _ _⟩))))
                go_roundg k2
                case measure => have := HK1.out; have := HK2.out; omega
                case rel => exact ⟨(wrap64 (x5_2 + 1)), (by rfl), H', ⟨by have := HK1.out; have := HK2.out; omega⟩, ⟨by (with_reducible repeat (refine blk_drewN ?_ _)); exact BK150.out⟩, ⟨by repeat ((with_reducible first | exact HB.out | apply pw_below_drewN))⟩⟩
               replace c17 := Bool.eq_false_iff.mpr c17
               subst c17
               have H1 : (some false) = some r := by rw [if_neg (show ¬ (false = true) by decide)] at H; exact H
               clear H
               have H := H1
               clear H1
               obtain rfl := Option.some.inj H
               have hcz19_0 := bc0 BK150.out
               have hfz19_0 := blk_frozen BK150.out 0
               have p153 : 0 ≤ (x4_1 : Int) := of_decide_eq_true ‹_›
               have q153 : x4_1 < (l0_0.length : Int) := of_decide_eq_true ‹_›
               obtain ⟨ad153, A153_0, c153_0, e153, hx153_0, hl153_0, hi153_0⟩ := at_L1 HR0_0.out x4_1 p153 q153
               obtain rfl : ad152 = ad153 := (by injection e153)
               replace hx153_0 := (HB.out.cell (World.block_lt_of_cell? w _ hx153_0)).trans hx153_0
               have HR153_0 := Aside0.mk hi153_0
               have HC153_0 := Aside0.mk hl153_0
               clear hi153_0 hl153_0
               replace p153 := eq_true p153
               replace q153 := eq_true q153
               have p154 : 0 ≤ (x5_2 : Int) := of_decide_eq_true ‹_›
               have q154 : x5_2 < ((rd_L1 l0_0 x4_1).length : Int) := of_decide_eq_true ‹_›
               obtain ⟨ad154, e154, hx154_0⟩ := Kd.at_int HR153_0.out x5_2 p154 q154
               cases e154
               replace hx154_0 := (HB.out.cell (World.block_lt_of_cell? w _ hx154_0)).trans hx154_0
               replace p154 := eq_true p154
               replace q154 := eq_true q154
               go_wp2_with ((go_at_call 120; (with_reducible refine (spec_l01In.calls (rd (rd_L1 l0_0 x4_1) x5_2) 0 (wrap64 ((l0_0.length : Int) - 1)) false _ A16.out).mono ?_); rintro e w' ⟨rfl, ⟨nd, rfl⟩⟩))
               repeat (go_quiet ((go_at_call 120; (with_reducible refine (spec_l01In.calls (rd (rd_L1 l0_0 x4_1) x5_2) 0 (wrap64 ((l0_0.length : Int) - 1)) false _ A16.out).mono ?_); rintro e w' ⟨rfl, ⟨nd, rfl⟩⟩; (try exact ⟨rfl, _, World.drewN_drewN _ _ _⟩))); try go_wp2_with ((go_at_call 120; (with_reducible refine (spec_l01In.calls (rd (rd_L1 l0_0 x4_1) x5_2) 0 (wrap64 ((l0_0.length : Int) - 1)) false _ A16.out).mono ?_); rintro e w' ⟨rfl, ⟨nd, rfl⟩⟩; (try exact ⟨rfl, _, World.drewN_drewN _ _ _⟩))))
               go_ret
               exact ⟨by rfl, by repeat ((with_reducible first | exact HB.out | apply pw_below_drewN))⟩
              rw [if_neg c15] at H
              exact absurd H (by simp)
             rw [if_neg c14] at H
             exact absurd H (by simp)
            rw [if_neg c13] at H
            exact absurd H (by simp)
           rw [if_neg c12] at H
           exact absurd H (by simp)
          rw [if_neg c11] at H
          have c11b0 : decide (x5_2 < (l0_0.length : Int)) = false := decide_eq_false c11
          clear c11
          have H' := Aside0.mk H
          clear H
          go_wp2
          repeat (go_quiet (fail); try go_wp2)
          go_roundg k2
          case measure => have := HK1.out; have := HK2.out; omega
          case rel => exact ⟨(wrap64 (x4_1 + 1)), (by rfl), H', ⟨by have := HK1.out; have := HK2.out; omega⟩, ⟨by exact BK150.out⟩, ⟨by exact HB.out⟩⟩
       rw [if_neg c9] at H
       have c9b0 : (((rd_L1 l0_0 x4_1).length : Int) == (l0_0.length : Int)) = false := beq_eq_false_iff_ne.mpr c9
       have c9b1 : (((rd_L1 l0_0 x4_1).length : Int) != (l0_0.length : Int)) = true := bne_iff_ne.mpr c9
       have c9b2 : ((rd_L1 l0_0 x4_1).length == l0_0.length) = false := by (simp at c9 ⊢; omega)
       obtain rfl := Option.some.inj H
       have hcz20_0 := bc0 BK150.out
       have hfz20_0 := blk_frozen BK150.out 0
       have p152 : 0 ≤ (x4_1 : Int) := of_decide_eq_true ‹_›
       have q152 : x4_1 < (l0_0.length : Int) := of_decide_eq_true ‹_›
       obtain ⟨ad152, A152_0, c152_0, e152, hx152_0, hl152_0, hi152_0⟩ := at_L1 HR0_0.out x4_1 p152 q152
       cases e152
       replace hx152_0 := (HB.out.cell (World.block_lt_of_cell? w _ hx152_0)).trans hx152_0
       have HR152_0 := Aside0.mk hi152_0
       have HC152_0 := Aside0.mk hl152_0
       clear hi152_0 hl152_0
       replace p152 := eq_true p152
       replace q152 := eq_true q152
       go_wp2
       repeat (go_quiet (fail); try go_wp2)
       go_ret
       exact ⟨by rfl, by exact HB.out⟩
      rw [if_neg c8] at H
      exact absurd H (by simp)
     rw [if_neg c7] at H
     exact absurd H (by simp)
    rw [if_neg c6] at H
    have c6b0 : decide (x4_1 < (l0_0.length : Int)) = false := decide_eq_false c6
    clear c6
    have H' := Aside0.mk H
    clear H
    go_wp2
    repeat (go_quiet (fail); try go_wp2)
    go_loopg [6] k1 (fun kq v6 w' => ∃ (x6_2 : Int), v6 = .int .i64 x6_2 ∧ Aside0 (spec_l01Is.l2 kq (l0_0.length : Int) x6_2 l0_0 = some r) ∧ Aside0 (kq ≤ k1) ∧ Aside0 (w'.heap[gb150]? = some (.cells #[(.slice A0_0 l0_0.length c0_0)] 33 (0, 0))) ∧ Aside0 (Below w.heap.size w w'))
    case atStart => exact ⟨(0), (by rfl), H', ⟨Nat.le_refl _⟩, ⟨by exact BK150.out⟩, ⟨by exact HB.out⟩⟩
    case round =>
     clear H' c6b0
     obtain ⟨x6_2, rfl, HA, HK2, BK150, HB⟩ := hrel
     cases gk with
     | zero => exact absurd HA.out (by simp [spec_l01Is.l2])
     | succ k2 =>
      have H := HA.out
      clear HA
      simp only [spec_l01Is.l2] at H
      by_cases c21 : x6_2 < (l0_0.length : Int)
      ·rw [if_pos c21] at H
       have c21b0 : decide (x6_2 < (l0_0.length : Int)) = true := decide_eq_true c21
       clear c21
       have HC22 := Aside0.mk H
       clear H
       go_upto_region 17 with (fail)
       repeat (go_quiet (fail); go_upto_region 17 with (fail))
       go_cut [70] (fun v70 wc => ∃ (kq : Nat) (x70_21 : Bool), v70 = .bool x70_21 ∧ Aside0 (spec_l01Is.j3 kq (l0_0.length : Int) x6_2 x70_21 l0_0 = some r) ∧ Aside0 (kq ≤ k2) ∧ Aside0 (wc.heap[gb150]? = some (.cells #[(.slice A0_0 l0_0.length c0_0)] 33 (0, 0))) ∧ Aside0 (Below w.heap.size w wc))
       case first =>
        have H := HC22.out
        clear HC22
        by_cases c23 : 0 < (l0_0.length : Int)
        ·rw [if_pos c23] at H
         have c23b0 : decide (0 < (l0_0.length : Int)) = true := decide_eq_true c23
         have c23b1 : decide (0 < l0_0.length) = true := decide_eq_true (by omega)
         clear c23
         by_cases c24 : 0 ≤ x6_2
         ·rw [if_pos c24] at H
          have c24b0 : decide (0 ≤ x6_2) = true := decide_eq_true c24
          clear c24
          by_cases c25 : x6_2 < ((rd_L1 l0_0 0).length : Int)
          ·rw [if_pos c25] at H
           have c25b0 : decide (x6_2 < ((rd_L1 l0_0 0).length : Int)) = true := decide_eq_true c25
           clear c25
           by_cases c26 : (rd (rd_L1 l0_0 0) x6_2) = x6_2
           ·rw [if_pos c26] at H
            have c26b0 : ((rd (rd_L1 l0_0 0) x6_2) == x6_2) = true := beq_iff_eq.mpr c26
            have c26b1 : ((rd (rd_L1 l0_0 0) x6_2) != x6_2) = false := bne_eq_false_iff_eq.mpr c26
            clear c26
            by_cases c27 : x6_2 < (l0_0.length : Int)
            ·rw [if_pos c27] at H
             have c27b0 : decide (x6_2 < (l0_0.length : Int)) = true := decide_eq_true c27
             clear c27
             by_cases c28 : 0 < ((rd_L1 l0_0 x6_2).length : Int)
             ·rw [if_pos c28] at H
              have c28b0 : decide (0 < ((rd_L1 l0_0 x6_2).length : Int)) = true := decide_eq_true c28
              have c28b1 : decide (0 < (rd_L1 l0_0 x6_2).length) = true := decide_eq_true (by omega)
              clear c28
              have H' := Aside0.mk H
              clear H
              have hcz29_0 := bc0 BK150.out
              have hfz29_0 := blk_frozen BK150.out 0
              have p156 : 0 ≤ (0 : Int) := (by omega)
              have q156 : 0 < (l0_0.length : Int) := of_decide_eq_true ‹_›
              obtain ⟨ad156, A156_0, c156_0, e156, hx156_0, hl156_0, hi156_0⟩ := at_L1 HR0_0.out 0 p156 q156
              cases e156
              have qi156 : (0 < l0_0.length) = True := eq_true (by omega)
              (rw [show ((0 : Int)).toNat = 0 from rfl] at hx156_0)
              (rw [Addr.add_zero'] at hx156_0)
              replace hx156_0 := (HB.out.cell (World.block_lt_of_cell? w _ hx156_0)).trans hx156_0
              have HR156_0 := Aside0.mk hi156_0
              have HC156_0 := Aside0.mk hl156_0
              clear hi156_0 hl156_0
              replace p156 := eq_true p156
              replace q156 := eq_true q156
              have p157 : 0 ≤ (x6_2 : Int) := of_decide_eq_true ‹_›
              have q157 : x6_2 < ((rd_L1 l0_0 0).length : Int) := of_decide_eq_true ‹_›
              obtain ⟨ad157, e157, hx157_0⟩ := Kd.at_int HR156_0.out x6_2 p157 q157
              cases e157
              replace hx157_0 := (HB.out.cell (World.block_lt_of_cell? w _ hx157_0)).trans hx157_0
              replace p157 := eq_true p157
              replace q157 := eq_true q157
              have p158 : 0 ≤ (x6_2 : Int) := of_decide_eq_true ‹_›
              have q158 : x6_2 < (l0_0.length : Int) := of_decide_eq_true ‹_›
              obtain ⟨ad158, A158_0, c158_0, e158, hx158_0, hl158_0, hi158_0⟩ := at_L1 HR0_0.out x6_2 p158 q158
              obtain rfl : ad156 = ad158 := (by injection e158)
              replace hx158_0 := (HB.out.cell (World.block_lt_of_cell? w _ hx158_0)).trans hx158_0
              have HR158_0 := Aside0.mk hi158_0
              have HC158_0 := Aside0.mk hl158_0
              clear hi158_0 hl158_0
              replace p158 := eq_true p158
              replace q158 := eq_true q158
              have p159 : 0 ≤ (0 : Int) := (by omega)
              have q159 : 0 < ((rd_L1 l0_0 x6_2).length : Int) := of_decide_eq_true ‹_›
              obtain ⟨ad159, e159, hx159_0⟩ := Kd.at_int HR158_0.out 0 p159 q159
              cases e159
              have qi159 : (0 < (rd_L1 l0_0 x6_2).length) = True := eq_true (by omega)
              (rw [show ((0 : Int)).toNat = 0 from rfl] at hx159_0)
              (rw [Addr.add_zero'] at hx159_0)
              replace hx159_0 := (HB.out.cell (World.block_lt_of_cell? w _ hx159_0)).trans hx159_0
              replace p159 := eq_true p159
              replace q159 := eq_true q159
              go_wp2
              repeat (go_quiet (fail); try go_wp2)
              go_meet
              case rel => exact ⟨_, (((rd (rd_L1 l0_0 x6_2) 0) != x6_2)), (by rfl), H', ⟨by have := HK1.out; have := HK2.out; omega⟩, ⟨by exact BK150.out⟩, ⟨by exact HB.out⟩⟩
             rw [if_neg c28] at H
             exact absurd H (by simp)
            rw [if_neg c27] at H
            exact absurd H (by simp)
           rw [if_neg c26] at H
           have c26b0 : ((rd (rd_L1 l0_0 0) x6_2) == x6_2) = false := beq_eq_false_iff_ne.mpr c26
           have c26b1 : ((rd (rd_L1 l0_0 0) x6_2) != x6_2) = true := bne_iff_ne.mpr c26
           have H' := Aside0.mk H
           clear H
           have hcz30_0 := bc0 BK150.out
           have hfz30_0 := blk_frozen BK150.out 0
           have p156 : 0 ≤ (0 : Int) := (by omega)
           have q156 : 0 < (l0_0.length : Int) := of_decide_eq_true ‹_›
           obtain ⟨ad156, A156_0, c156_0, e156, hx156_0, hl156_0, hi156_0⟩ := at_L1 HR0_0.out 0 p156 q156
           cases e156
           have qi156 : (0 < l0_0.length) = True := eq_true (by omega)
           (rw [show ((0 : Int)).toNat = 0 from rfl] at hx156_0)
           (rw [Addr.add_zero'] at hx156_0)
           replace hx156_0 := (HB.out.cell (World.block_lt_of_cell? w _ hx156_0)).trans hx156_0
           have HR156_0 := Aside0.mk hi156_0
           have HC156_0 := Aside0.mk hl156_0
           clear hi156_0 hl156_0
           replace p156 := eq_true p156
           replace q156 := eq_true q156
           have p157 : 0 ≤ (x6_2 : Int) := of_decide_eq_true ‹_›
           have q157 : x6_2 < ((rd_L1 l0_0 0).length : Int) := of_decide_eq_true ‹_›
           obtain ⟨ad157, e157, hx157_0⟩ := Kd.at_int HR156_0.out x6_2 p157 q157
           cases e157
           replace hx157_0 := (HB.out.cell (World.block_lt_of_cell? w _ hx157_0)).trans hx157_0
           replace p157 := eq_true p157
           replace q157 := eq_true q157
           go_wp2
           repeat (go_quiet (fail); try go_wp2)
           go_meet
           case rel => exact ⟨_, (true), (by rfl), H', ⟨by have := HK1.out; have := HK2.out; omega⟩, ⟨by exact BK150.out⟩, ⟨by exact HB.out⟩⟩
          rw [if_neg c25] at H
          exact absurd H (by simp)
         rw [if_neg c24] at H
         exact absurd H (by simp)
        rw [if_neg c23] at H
        exact absurd H (by simp)
       case rest =>
        clear HC22 c21b0
        obtain ⟨kq, x70_21, rfl, HA, HJ21, BK150, HB⟩ := hcut
        cases kq with
        | zero => exact absurd HA.out (by simp [spec_l01Is.j3])
        | succ kj21 =>
         have H := HA.out
         clear HA
         simp only [spec_l01Is.j3] at H
         by_cases c31 : x70_21 = true
         ·subst c31
          have H1 : (some false) = some r := by rw [if_pos rfl] at H; exact H
          clear H
          have H := H1
          clear H1
          obtain rfl := Option.some.inj H
          go_wp2
          repeat (go_quiet (fail); try go_wp2)
          go_ret
          exact ⟨by rfl, by exact HB.out⟩
         replace c31 := Bool.eq_false_iff.mpr c31
         subst c31
         have H1 : (spec_l01Is.l3 kj21 (l0_0.length : Int) x6_2 false 0 l0_0) = some r := by rw [if_neg (show ¬ (false = true) by decide)] at H; exact H
         clear H
         have H := H1
         clear H1
         have H' := Aside0.mk H
         clear H
         go_wp2
         repeat (go_quiet (fail); try go_wp2)
         go_loopg [7, 8] kj21 (fun kq v7 v8 w' => ∃ (x7_4 : Bool) (x8_4 : Int), v7 = .bool x7_4 ∧ v8 = .int .i64 x8_4 ∧ Aside0 (spec_l01Is.l3 kq (l0_0.length : Int) x6_2 x7_4 x8_4 l0_0 = some r) ∧ Aside0 (kq ≤ kj21) ∧ Aside0 (w'.heap[gb150]? = some (.cells #[(.slice A0_0 l0_0.length c0_0)] 33 (0, 0))) ∧ Aside0 (Below w.heap.size w w'))
         case atStart => exact ⟨(false), (0), (by rfl), (by rfl), H', ⟨Nat.le_refl _⟩, ⟨by exact BK150.out⟩, ⟨by exact HB.out⟩⟩
         case round =>
          clear H'
          obtain ⟨x7_4, x8_4, rfl, rfl, HA, HK4, BK150, HB⟩ := hrel
          cases gk with
          | zero => exact absurd HA.out (by simp [spec_l01Is.l3])
          | succ k4 =>
           have H := HA.out
           clear HA
           simp only [spec_l01Is.l3] at H
           by_cases c32 : x8_4 < (l0_0.length : Int)
           ·rw [if_pos c32] at H
            have c32b0 : decide (x8_4 < (l0_0.length : Int)) = true := decide_eq_true c32
            clear c32
            have HC33 := Aside0.mk H
            clear H
            go_upto_region 23 with (fail)
            repeat (go_quiet (fail); go_upto_region 23 with (fail))
            go_cut [7] (fun v7 wc => ∃ (kq : Nat) (x7_32 : Bool), v7 = .bool x7_32 ∧ Aside0 (spec_l01Is.j5 kq (l0_0.length : Int) x6_2 x7_32 x8_4 l0_0 = some r) ∧ Aside0 (kq ≤ k4) ∧ Aside0 (wc.heap[gb150]? = some (.cells #[(.slice A0_0 l0_0.length c0_0)] 33 (0, 0))) ∧ Aside0 (Below w.heap.size w wc))
            case first =>
             have H := HC33.out
             clear HC33
             by_cases c34 : x7_4 = true
             ·subst c34
              have H1 : (spec_l01Is.j5 k4 (l0_0.length : Int) x6_2 true x8_4 l0_0) = some r := by rw [if_pos rfl] at H; exact H
              clear H
              have H := H1
              clear H1
              have H' := Aside0.mk H
              clear H
              go_wp2
              repeat (go_quiet (fail); try go_wp2)
              go_meet
              case rel => exact ⟨_, (true), (by rfl), H', ⟨by have := HK1.out; have := HK2.out; have := HJ21.out; have := HK4.out; omega⟩, ⟨by exact BK150.out⟩, ⟨by exact HB.out⟩⟩
             replace c34 := Bool.eq_false_iff.mpr c34
             subst c34
             have H1 : (if 0 ≤ x6_2 then (if x6_2 < (l0_0.length : Int) then (if 0 ≤ x8_4 then (if x8_4 < ((rd_L1 l0_0 x6_2).length : Int) then (if (rd (rd_L1 l0_0 x6_2) x8_4) = 0 then (if x8_4 < (l0_0.length : Int) then (if x6_2 < ((rd_L1 l0_0 x8_4).length : Int) then (spec_l01Is.j5 k4 (l0_0.length : Int) x6_2 ((rd (rd_L1 l0_0 x8_4) x6_2) == 0) x8_4 l0_0) else (none)) else (none)) else (spec_l01Is.j5 k4 (l0_0.length : Int) x6_2 false x8_4 l0_0)) else (none)) else (none)) else (none)) else (none)) = some r := by rw [if_neg (show ¬ (false = true) by decide)] at H; exact H
             clear H
             have H := H1
             clear H1
             by_cases c35 : 0 ≤ x6_2
             ·rw [if_pos c35] at H
              have c35b0 : decide (0 ≤ x6_2) = true := decide_eq_true c35
              clear c35
              by_cases c36 : x6_2 < (l0_0.length : Int)
              ·rw [if_pos c36] at H
               have c36b0 : decide (x6_2 < (l0_0.length : Int)) = true := decide_eq_true c36
               clear c36
               by_cases c37 : 0 ≤ x8_4
               ·rw [if_pos c37] at H
                have c37b0 : decide (0 ≤ x8_4) = true := decide_eq_true c37
                clear c37
                by_cases c38 : x8_4 < ((rd_L1 l0_0 x6_2).length : Int)
                ·rw [if_pos c38] at H
                 have c38b0 : decide (x8_4 < ((rd_L1 l0_0 x6_2).length : Int)) = true := decide_eq_true c38
                 clear c38
                 by_cases c39 : (rd (rd_L1 l0_0 x6_2) x8_4) = 0
                 ·rw [if_pos c39] at H
                  have c39b0 : ((rd (rd_L1 l0_0 x6_2) x8_4) == 0) = true := beq_iff_eq.mpr c39
                  have c39b1 : ((rd (rd_L1 l0_0 x6_2) x8_4) != 0) = false := bne_eq_false_iff_eq.mpr c39
                  clear c39
                  by_cases c40 : x8_4 < (l0_0.length : Int)
                  ·rw [if_pos c40] at H
                   have c40b0 : decide (x8_4 < (l0_0.length : Int)) = true := decide_eq_true c40
                   clear c40
                   by_cases c41 : x6_2 < ((rd_L1 l0_0 x8_4).length : Int)
                   ·rw [if_pos c41] at H
                    have c41b0 : decide (x6_2 < ((rd_L1 l0_0 x8_4).length : Int)) = true := decide_eq_true c41
                    clear c41
                    have H' := Aside0.mk H
                    clear H
                    have hcz42_0 := bc0 BK150.out
                    have hfz42_0 := blk_frozen BK150.out 0
                    have p160 : 0 ≤ (x6_2 : Int) := of_decide_eq_true ‹_›
                    have q160 : x6_2 < (l0_0.length : Int) := of_decide_eq_true ‹_›
                    obtain ⟨ad160, A160_0, c160_0, e160, hx160_0, hl160_0, hi160_0⟩ := at_L1 HR0_0.out x6_2 p160 q160
                    cases e160
                    replace hx160_0 := (HB.out.cell (World.block_lt_of_cell? w _ hx160_0)).trans hx160_0
                    have HR160_0 := Aside0.mk hi160_0
                    have HC160_0 := Aside0.mk hl160_0
                    clear hi160_0 hl160_0
                    replace p160 := eq_true p160
                    replace q160 := eq_true q160
                    have p161 : 0 ≤ (x8_4 : Int) := of_decide_eq_true ‹_›
                    have q161 : x8_4 < ((rd_L1 l0_0 x6_2).length : Int) := of_decide_eq_true ‹_›
                    obtain ⟨ad161, e161, hx161_0⟩ := Kd.at_int HR160_0.out x8_4 p161 q161
                    cases e161
                    replace hx161_0 := (HB.out.cell (World.block_lt_of_cell? w _ hx161_0)).trans hx161_0
                    replace p161 := eq_true p161
                    replace q161 := eq_true q161
                    have p162 : 0 ≤ (x8_4 : Int) := of_decide_eq_true ‹_›
                    have q162 : x8_4 < (l0_0.length : Int) := of_decide_eq_true ‹_›
                    obtain ⟨ad162, A162_0, c162_0, e162, hx162_0, hl162_0, hi162_0⟩ := at_L1 HR0_0.out x8_4 p162 q162
                    obtain rfl : ad160 = ad162 := (by injection e162)
                    replace hx162_0 := (HB.out.cell (World.block_lt_of_cell? w _ hx162_0)).trans hx162_0
                    have HR162_0 := Aside0.mk hi162_0
                    have HC162_0 := Aside0.mk hl162_0
                    clear hi162_0 hl162_0
                    replace p162 := eq_true p162
                    replace q162 := eq_true q162
                    have p163 : 0 ≤ (x6_2 : Int) := of_decide_eq_true ‹_›
                    have q163 : x6_2 < ((rd_L1 l0_0 x8_4).length : Int) := of_decide_eq_true ‹_›
                    obtain ⟨ad163, e163, hx163_0⟩ := Kd.at_int HR162_0.out x6_2 p163 q163
                    cases e163
                    replace hx163_0 := (HB.out.cell (World.block_lt_of_cell? w _ hx163_0)).trans hx163_0
                    replace p163 := eq_true p163
                    replace q163 := eq_true q163
                    go_wp2
                    repeat (go_quiet (fail); try go_wp2)
                    go_meet
                    case rel => exact ⟨_, (((rd (rd_L1 l0_0 x8_4) x6_2) == 0)), (by rfl), H', ⟨by have := HK1.out; have := HK2.out; have := HJ21.out; have := HK4.out; omega⟩, ⟨by exact BK150.out⟩, ⟨by exact HB.out⟩⟩
                   rw [if_neg c41] at H
                   exact absurd H (by simp)
                  rw [if_neg c40] at H
                  exact absurd H (by simp)
                 rw [if_neg c39] at H
                 have c39b0 : ((rd (rd_L1 l0_0 x6_2) x8_4) == 0) = false := beq_eq_false_iff_ne.mpr c39
                 have c39b1 : ((rd (rd_L1 l0_0 x6_2) x8_4) != 0) = true := bne_iff_ne.mpr c39
                 have H' := Aside0.mk H
                 clear H
                 have hcz43_0 := bc0 BK150.out
                 have hfz43_0 := blk_frozen BK150.out 0
                 have p160 : 0 ≤ (x6_2 : Int) := of_decide_eq_true ‹_›
                 have q160 : x6_2 < (l0_0.length : Int) := of_decide_eq_true ‹_›
                 obtain ⟨ad160, A160_0, c160_0, e160, hx160_0, hl160_0, hi160_0⟩ := at_L1 HR0_0.out x6_2 p160 q160
                 cases e160
                 replace hx160_0 := (HB.out.cell (World.block_lt_of_cell? w _ hx160_0)).trans hx160_0
                 have HR160_0 := Aside0.mk hi160_0
                 have HC160_0 := Aside0.mk hl160_0
                 clear hi160_0 hl160_0
                 replace p160 := eq_true p160
                 replace q160 := eq_true q160
                 have p161 : 0 ≤ (x8_4 : Int) := of_decide_eq_true ‹_›
                 have q161 : x8_4 < ((rd_L1 l0_0 x6_2).length : Int) := of_decide_eq_true ‹_›
                 obtain ⟨ad161, e161, hx161_0⟩ := Kd.at_int HR160_0.out x8_4 p161 q161
                 cases e161
                 replace hx161_0 := (HB.out.cell (World.block_lt_of_cell? w _ hx161_0)).trans hx161_0
                 replace p161 := eq_true p161
                 replace q161 := eq_true q161
                 go_wp2
                 repeat (go_quiet (fail); try go_wp2)
                 go_meet
                 case rel => exact ⟨_, (false), (by rfl), H', ⟨by have := HK1.out; have := HK2.out; have := HJ21.out; have := HK4.out; omega⟩, ⟨by exact BK150.out⟩, ⟨by exact HB.out⟩⟩
                rw [if_neg c38] at H
                exact absurd H (by simp)
               rw [if_neg c37] at H
               exact absurd H (by simp)
              rw [if_neg c36] at H
              exact absurd H (by simp)
             rw [if_neg c35] at H
             exact absurd H (by simp)
            case rest =>
             clear HC33 c32b0
             obtain ⟨kq, x7_32, rfl, HA, HJ32, BK150, HB⟩ := hcut
             cases kq with
             | zero => exact absurd HA.out (by simp [spec_l01Is.j5])
             | succ kj32 =>
              have H := HA.out
              clear HA
              simp only [spec_l01Is.j5] at H
              have H' := Aside0.mk H
              clear H
              go_wp2
              repeat (go_quiet (fail); try go_wp2)
              go_loopg [9] kj32 (fun kq v9 w' => ∃ (x9_6 : Int), v9 = .int .i64 x9_6 ∧ Aside0 (spec_l01Is.l4 kq (l0_0.length : Int) x6_2 x7_32 x8_4 x9_6 l0_0 = some r) ∧ Aside0 (kq ≤ kj32) ∧ Aside0 (w'.heap[gb150]? = some (.cells #[(.slice A0_0 l0_0.length c0_0)] 33 (0, 0))) ∧ Aside0 (Below w.heap.size w w'))
              case atStart => exact ⟨(0), (by rfl), H', ⟨Nat.le_refl _⟩, ⟨by exact BK150.out⟩, ⟨by exact HB.out⟩⟩
              case round =>
               clear H'
               obtain ⟨x9_6, rfl, HA, HK6, BK150, HB⟩ := hrel
               cases gk with
               | zero => exact absurd HA.out (by simp [spec_l01Is.l4])
               | succ k6 =>
                have H := HA.out
                clear HA
                simp only [spec_l01Is.l4] at H
                by_cases c44 : x9_6 < (l0_0.length : Int)
                ·rw [if_pos c44] at H
                 have c44b0 : decide (x9_6 < (l0_0.length : Int)) = true := decide_eq_true c44
                 clear c44
                 by_cases c45 : 0 ≤ x6_2
                 ·rw [if_pos c45] at H
                  have c45b0 : decide (0 ≤ x6_2) = true := decide_eq_true c45
                  clear c45
                  by_cases c46 : x6_2 < (l0_0.length : Int)
                  ·rw [if_pos c46] at H
                   have c46b0 : decide (x6_2 < (l0_0.length : Int)) = true := decide_eq_true c46
                   clear c46
                   by_cases c47 : 0 ≤ x8_4
                   ·rw [if_pos c47] at H
                    have c47b0 : decide (0 ≤ x8_4) = true := decide_eq_true c47
                    clear c47
                    by_cases c48 : x8_4 < ((rd_L1 l0_0 x6_2).length : Int)
                    ·rw [if_pos c48] at H
                     have c48b0 : decide (x8_4 < ((rd_L1 l0_0 x6_2).length : Int)) = true := decide_eq_true c48
                     clear c48
                     by_cases c49 : 0 ≤ (rd (rd_L1 l0_0 x6_2) x8_4)
                     ·rw [if_pos c49] at H
                      have c49b0 : decide (0 ≤ (rd (rd_L1 l0_0 x6_2) x8_4)) = true := decide_eq_true c49
                      clear c49
                      by_cases c50 : (rd (rd_L1 l0_0 x6_2) x8_4) < (l0_0.length : Int)
                      ·rw [if_pos c50] at H
                       have c50b0 : decide ((rd (rd_L1 l0_0 x6_2) x8_4) < (l0_0.length : Int)) = true := decide_eq_true c50
                       clear c50
                       by_cases c51 : 0 ≤ x9_6
                       ·rw [if_pos c51] at H
                        have c51b0 : decide (0 ≤ x9_6) = true := decide_eq_true c51
                        clear c51
                        by_cases c52 : x9_6 < ((rd_L1 l0_0 (rd (rd_L1 l0_0 x6_2) x8_4)).length : Int)
                        ·rw [if_pos c52] at H
                         have c52b0 : decide (x9_6 < ((rd_L1 l0_0 (rd (rd_L1 l0_0 x6_2) x8_4)).length : Int)) = true := decide_eq_true c52
                         clear c52
                         by_cases c53 : x8_4 < (l0_0.length : Int)
                         ·rw [if_pos c53] at H
                          have c53b0 : decide (x8_4 < (l0_0.length : Int)) = true := decide_eq_true c53
                          clear c53
                          by_cases c54 : x9_6 < ((rd_L1 l0_0 x8_4).length : Int)
                          ·rw [if_pos c54] at H
                           have c54b0 : decide (x9_6 < ((rd_L1 l0_0 x8_4).length : Int)) = true := decide_eq_true c54
                           clear c54
                           by_cases c55 : 0 ≤ (rd (rd_L1 l0_0 x8_4) x9_6)
                           ·rw [if_pos c55] at H
                            have c55b0 : decide (0 ≤ (rd (rd_L1 l0_0 x8_4) x9_6)) = true := decide_eq_true c55
                            clear c55
                            by_cases c56 : (rd (rd_L1 l0_0 x8_4) x9_6) < ((rd_L1 l0_0 x6_2).length : Int)
                            ·rw [if_pos c56] at H
                             have c56b0 : decide ((rd (rd_L1 l0_0 x8_4) x9_6) < ((rd_L1 l0_0 x6_2).length : Int)) = true := decide_eq_true c56
                             clear c56
                             by_cases c57 : (rd (rd_L1 l0_0 (rd (rd_L1 l0_0 x6_2) x8_4)) x9_6) = (rd (rd_L1 l0_0 x6_2) (rd (rd_L1 l0_0 x8_4) x9_6))
                             ·rw [if_pos c57] at H
                              have c57b0 : ((rd (rd_L1 l0_0 (rd (rd_L1 l0_0 x6_2) x8_4)) x9_6) == (rd (rd_L1 l0_0 x6_2) (rd (rd_L1 l0_0 x8_4) x9_6))) = true := beq_iff_eq.mpr c57
                              have c57b1 : ((rd (rd_L1 l0_0 (rd (rd_L1 l0_0 x6_2) x8_4)) x9_6) != (rd (rd_L1 l0_0 x6_2) (rd (rd_L1 l0_0 x8_4) x9_6))) = false := bne_eq_false_iff_eq.mpr c57
                              clear c57
                              have H' := Aside0.mk H
                              clear H
                              have hcz58_0 := bc0 BK150.out
                              have hfz58_0 := blk_frozen BK150.out 0
                              have p164 : 0 ≤ (x6_2 : Int) := of_decide_eq_true ‹_›
                              have q164 : x6_2 < (l0_0.length : Int) := of_decide_eq_true ‹_›
                              obtain ⟨ad164, A164_0, c164_0, e164, hx164_0, hl164_0, hi164_0⟩ := at_L1 HR0_0.out x6_2 p164 q164
                              cases e164
                              replace hx164_0 := (HB.out.cell (World.block_lt_of_cell? w _ hx164_0)).trans hx164_0
                              have HR164_0 := Aside0.mk hi164_0
                              have HC164_0 := Aside0.mk hl164_0
                              clear hi164_0 hl164_0
                              replace p164 := eq_true p164
                              replace q164 := eq_true q164
                              have p165 : 0 ≤ (x8_4 : Int) := of_decide_eq_true ‹_›
                              have q165 : x8_4 < ((rd_L1 l0_0 x6_2).length : Int) := of_decide_eq_true ‹_›
                              obtain ⟨ad165, e165, hx165_0⟩ := Kd.at_int HR164_0.out x8_4 p165 q165
                              cases e165
                              replace hx165_0 := (HB.out.cell (World.block_lt_of_cell? w _ hx165_0)).trans hx165_0
                              replace p165 := eq_true p165
                              replace q165 := eq_true q165
                              have p166 : 0 ≤ ((rd (rd_L1 l0_0 x6_2) x8_4) : Int) := of_decide_eq_true ‹_›
                              have q166 : (rd (rd_L1 l0_0 x6_2) x8_4) < (l0_0.length : Int) := of_decide_eq_true ‹_›
                              obtain ⟨ad166, A166_0, c166_0, e166, hx166_0, hl166_0, hi166_0⟩ := at_L1 HR0_0.out (rd (rd_L1 l0_0 x6_2) x8_4) p166 q166
                              obtain rfl : ad164 = ad166 := (by injection e166)
                              replace hx166_0 := (HB.out.cell (World.block_lt_of_cell? w _ hx166_0)).trans hx166_0
                              have HR166_0 := Aside0.mk hi166_0
                              have HC166_0 := Aside0.mk hl166_0
                              clear hi166_0 hl166_0
                              replace p166 := eq_true p166
                              replace q166 := eq_true q166
                              have p167 : 0 ≤ (x9_6 : Int) := of_decide_eq_true ‹_›
                              have q167 : x9_6 < ((rd_L1 l0_0 (rd (rd_L1 l0_0 x6_2) x8_4)).length : Int) := of_decide_eq_true ‹_›
                              obtain ⟨ad167, e167, hx167_0⟩ := Kd.at_int HR166_0.out x9_6 p167 q167
                              cases e167
                              replace hx167_0 := (HB.out.cell (World.block_lt_of_cell? w _ hx167_0)).trans hx167_0
                              replace p167 := eq_true p167
                              replace q167 := eq_true q167
                              have p168 : 0 ≤ (x6_2 : Int) := of_decide_eq_true ‹_›
                              have q168 : x6_2 < (l0_0.length : Int) := of_decide_eq_true ‹_›
                              obtain ⟨ad168, A168_0, c168_0, e168, hx168_0, hl168_0, hi168_0⟩ := at_L1 HR0_0.out x6_2 p168 q168
                              obtain rfl : ad164 = ad168 := (by injection e168)
                              replace hx168_0 := (HB.out.cell (World.block_lt_of_cell? w _ hx168_0)).trans hx168_0
                              have HR168_0 := Aside0.mk hi168_0
                              have HC168_0 := Aside0.mk hl168_0
                              clear hi168_0 hl168_0
                              replace p168 := eq_true p168
                              replace q168 := eq_true q168
                              have ea_ := Option.some.inj (hx164_0.symm.trans hx168_0)
                              injection ea_ with ea_ en_ ec_
                              subst ea_
                              subst ec_
                              clear en_
                              have p169 : 0 ≤ (x8_4 : Int) := of_decide_eq_true ‹_›
                              have q169 : x8_4 < (l0_0.length : Int) := of_decide_eq_true ‹_›
                              obtain ⟨ad169, A169_0, c169_0, e169, hx169_0, hl169_0, hi169_0⟩ := at_L1 HR0_0.out x8_4 p169 q169
                              obtain rfl : ad164 = ad169 := (by injection e169)
                              replace hx169_0 := (HB.out.cell (World.block_lt_of_cell? w _ hx169_0)).trans hx169_0
                              have HR169_0 := Aside0.mk hi169_0
                              have HC169_0 := Aside0.mk hl169_0
                              clear hi169_0 hl169_0
                              replace p169 := eq_true p169
                              replace q169 := eq_true q169
                              have p170 : 0 ≤ (x9_6 : Int) := of_decide_eq_true ‹_›
                              have q170 : x9_6 < ((rd_L1 l0_0 x8_4).length : Int) := of_decide_eq_true ‹_›
                              obtain ⟨ad170, e170, hx170_0⟩ := Kd.at_int HR169_0.out x9_6 p170 q170
                              cases e170
                              replace hx170_0 := (HB.out.cell (World.block_lt_of_cell? w _ hx170_0)).trans hx170_0
                              replace p170 := eq_true p170
                              replace q170 := eq_true q170
                              have p171 : 0 ≤ ((rd (rd_L1 l0_0 x8_4) x9_6) : Int) := of_decide_eq_true ‹_›
                              have q171 : (rd (rd_L1 l0_0 x8_4) x9_6) < ((rd_L1 l0_0 x6_2).length : Int) := of_decide_eq_true ‹_›
                              obtain ⟨ad171, e171, hx171_0⟩ := Kd.at_int HR168_0.out (rd (rd_L1 l0_0 x8_4) x9_6) p171 q171
                              cases e171
                              replace hx171_0 := (HB.out.cell (World.block_lt_of_cell? w _ hx171_0)).trans hx171_0
                              replace p171 := eq_true p171
                              replace q171 := eq_true q171
                              go_wp2
                              repeat (go_quiet (fail); go_wp2)
                              go_roundg k6
                              case measure => have := HK1.out; have := HK2.out; have := HJ21.out; have := HK4.out; have := HJ32.out; have := HK6.out; omega
                              case rel => exact ⟨(wrap64 (x9_6 + 1)), (by rfl), H', ⟨by have := HK1.out; have := HK2.out; have := HJ21.out; have := HK4.out; have := HJ32.out; have := HK6.out; omega⟩, ⟨by (with_reducible repeat (refine blk_drewN ?_ _)); exact BK150.out⟩, ⟨by repeat ((with_reducible first | exact HB.out | apply pw_below_drewN))⟩⟩
                             rw [if_neg c57] at H
                             have c57b0 : ((rd (rd_L1 l0_0 (rd (rd_L1 l0_0 x6_2) x8_4)) x9_6) == (rd (rd_L1 l0_0 x6_2) (rd (rd_L1 l0_0 x8_4) x9_6))) = false := beq_eq_false_iff_ne.mpr c57
                             have c57b1 : ((rd (rd_L1 l0_0 (rd (rd_L1 l0_0 x6_2) x8_4)) x9_6) != (rd (rd_L1 l0_0 x6_2) (rd (rd_L1 l0_0 x8_4) x9_6))) = true := bne_iff_ne.mpr c57
                             obtain rfl := Option.some.inj H
                             have hcz59_0 := bc0 BK150.out
                             have hfz59_0 := blk_frozen BK150.out 0
                             have p164 : 0 ≤ (x6_2 : Int) := of_decide_eq_true ‹_›
                             have q164 : x6_2 < (l0_0.length : Int) := of_decide_eq_true ‹_›
                             obtain ⟨ad164, A164_0, c164_0, e164, hx164_0, hl164_0, hi164_0⟩ := at_L1 HR0_0.out x6_2 p164 q164
                             cases e164
                             replace hx164_0 := (HB.out.cell (World.block_lt_of_cell? w _ hx164_0)).trans hx164_0
                             have HR164_0 := Aside0.mk hi164_0
                             have HC164_0 := Aside0.mk hl164_0
                             clear hi164_0 hl164_0
                             replace p164 := eq_true p164
                             replace q164 := eq_true q164
                             have p165 : 0 ≤ (x8_4 : Int) := of_decide_eq_true ‹_›
                             have q165 : x8_4 < ((rd_L1 l0_0 x6_2).length : Int) := of_decide_eq_true ‹_›
                             obtain ⟨ad165, e165, hx165_0⟩ := Kd.at_int HR164_0.out x8_4 p165 q165
                             cases e165
                             replace hx165_0 := (HB.out.cell (World.block_lt_of_cell? w _ hx165_0)).trans hx165_0
                             replace p165 := eq_true p165
                             replace q165 := eq_true q165
                             have p166 : 0 ≤ ((rd (rd_L1 l0_0 x6_2) x8_4) : Int) := of_decide_eq_true ‹_›
                             have q166 : (rd (rd_L1 l0_0 x6_2) x8_4) < (l0_0.length : Int) := of_decide_eq_true ‹_›
                             obtain ⟨ad166, A166_0, c166_0, e166, hx166_0, hl166_0, hi166_0⟩ := at_L1 HR0_0.out (rd (rd_L1 l0_0 x6_2) x8_4) p166 q166
                             obtain rfl : ad164 = ad166 := (by injection e166)
                             replace hx166_0 := (HB.out.cell (World.block_lt_of_cell? w _ hx166_0)).trans hx166_0
                             have HR166_0 := Aside0.mk hi166_0
                             have HC166_0 := Aside0.mk hl166_0
                             clear hi166_0 hl166_0
                             replace p166 := eq_true p166
                             replace q166 := eq_true q166
                             have p167 : 0 ≤ (x9_6 : Int) := of_decide_eq_true ‹_›
                             have q167 : x9_6 < ((rd_L1 l0_0 (rd (rd_L1 l0_0 x6_2) x8_4)).length : Int) := of_decide_eq_true ‹_›
                             obtain ⟨ad167, e167, hx167_0⟩ := Kd.at_int HR166_0.out x9_6 p167 q167
                             cases e167
                             replace hx167_0 := (HB.out.cell (World.block_lt_of_cell? w _ hx167_0)).trans hx167_0
                             replace p167 := eq_true p167
                             replace q167 := eq_true q167
                             have p168 : 0 ≤ (x6_2 : Int) := of_decide_eq_true ‹_›
                             have q168 : x6_2 < (l0_0.length : Int) := of_decide_eq_true ‹_›
                             obtain ⟨ad168, A168_0, c168_0, e168, hx168_0, hl168_0, hi168_0⟩ := at_L1 HR0_0.out x6_2 p168 q168
                             obtain rfl : ad164 = ad168 := (by injection e168)
                             replace hx168_0 := (HB.out.cell (World.block_lt_of_cell? w _ hx168_0)).trans hx168_0
                             have HR168_0 := Aside0.mk hi168_0
                             have HC168_0 := Aside0.mk hl168_0
                             clear hi168_0 hl168_0
                             replace p168 := eq_true p168
                             replace q168 := eq_true q168
                             have ea_ := Option.some.inj (hx164_0.symm.trans hx168_0)
                             injection ea_ with ea_ en_ ec_
                             subst ea_
                             subst ec_
                             clear en_
                             have p169 : 0 ≤ (x8_4 : Int) := of_decide_eq_true ‹_›
                             have q169 : x8_4 < (l0_0.length : Int) := of_decide_eq_true ‹_›
                             obtain ⟨ad169, A169_0, c169_0, e169, hx169_0, hl169_0, hi169_0⟩ := at_L1 HR0_0.out x8_4 p169 q169
                             obtain rfl : ad164 = ad169 := (by injection e169)
                             replace hx169_0 := (HB.out.cell (World.block_lt_of_cell? w _ hx169_0)).trans hx169_0
                             have HR169_0 := Aside0.mk hi169_0
                             have HC169_0 := Aside0.mk hl169_0
                             clear hi169_0 hl169_0
                             replace p169 := eq_true p169
                             replace q169 := eq_true q169
                             have p170 : 0 ≤ (x9_6 : Int) := of_decide_eq_true ‹_›
                             have q170 : x9_6 < ((rd_L1 l0_0 x8_4).length : Int) := of_decide_eq_true ‹_›
                             obtain ⟨ad170, e170, hx170_0⟩ := Kd.at_int HR169_0.out x9_6 p170 q170
                             cases e170
                             replace hx170_0 := (HB.out.cell (World.block_lt_of_cell? w _ hx170_0)).trans hx170_0
                             replace p170 := eq_true p170
                             replace q170 := eq_true q170
                             have p171 : 0 ≤ ((rd (rd_L1 l0_0 x8_4) x9_6) : Int) := of_decide_eq_true ‹_›
                             have q171 : (rd (rd_L1 l0_0 x8_4) x9_6) < ((rd_L1 l0_0 x6_2).length : Int) := of_decide_eq_true ‹_›
                             obtain ⟨ad171, e171, hx171_0⟩ := Kd.at_int HR168_0.out (rd (rd_L1 l0_0 x8_4) x9_6) p171 q171
                             cases e171
                             replace hx171_0 := (HB.out.cell (World.block_lt_of_cell? w _ hx171_0)).trans hx171_0
                             replace p171 := eq_true p171
                             replace q171 := eq_true q171
                             go_wp2
                             repeat (go_quiet (fail); go_wp2)
                             go_ret
                             exact ⟨by rfl, by repeat ((with_reducible first | exact HB.out | apply pw_below_drewN))⟩
                            rw [if_neg c56] at H
                            exact absurd H (by simp)
                           rw [if_neg c55] at H
                           exact absurd H (by simp)
                          rw [if_neg c54] at H
                          exact absurd H (by simp)
                         rw [if_neg c53] at H
                         exact absurd H (by simp)
                        rw [if_neg c52] at H
                        exact absurd H (by simp)
                       rw [if_neg c51] at H
                       exact absurd H (by simp)
                      rw [if_neg c50] at H
                      exact absurd H (by simp)
                     rw [if_neg c49] at H
                     exact absurd H (by simp)
                    rw [if_neg c48] at H
                    exact absurd H (by simp)
                   rw [if_neg c47] at H
                   exact absurd H (by simp)
                  rw [if_neg c46] at H
                  exact absurd H (by simp)
                 rw [if_neg c45] at H
                 exact absurd H (by simp)
                rw [if_neg c44] at H
                have c44b0 : decide (x9_6 < (l0_0.length : Int)) = false := decide_eq_false c44
                clear c44
                have H' := Aside0.mk H
                clear H
                go_wp2
                repeat (go_quiet (fail); try go_wp2)
                go_roundg k6
                case measure => have := HK1.out; have := HK2.out; have := HJ21.out; have := HK4.out; have := HJ32.out; have := HK6.out; omega
                case rel => exact ⟨(x7_32), (wrap64 (x8_4 + 1)), (by rfl), (by rfl), H', ⟨by have := HK1.out; have := HK2.out; have := HJ21.out; have := HK4.out; have := HJ32.out; have := HK6.out; omega⟩, ⟨by exact BK150.out⟩, ⟨by exact HB.out⟩⟩
           rw [if_neg c32] at H
           have c32b0 : decide (x8_4 < (l0_0.length : Int)) = false := decide_eq_false c32
           clear c32
           by_cases c60 : x7_4 = true
           ·subst c60
            have H1 : (spec_l01Is.l2 k4 (l0_0.length : Int) (wrap64 (x6_2 + 1)) l0_0) = some r := by rw [if_pos rfl] at H; exact H
            clear H
            have H := H1
            clear H1
            have H' := Aside0.mk H
            clear H
            go_wp2
            repeat (go_quiet (fail); try go_wp2)
            go_roundg k4
            case measure => have := HK1.out; have := HK2.out; have := HJ21.out; have := HK4.out; omega
            case rel => exact ⟨(wrap64 (x6_2 + 1)), (by rfl), H', ⟨by have := HK1.out; have := HK2.out; have := HJ21.out; have := HK4.out; omega⟩, ⟨by exact BK150.out⟩, ⟨by exact HB.out⟩⟩
           replace c60 := Bool.eq_false_iff.mpr c60
           subst c60
           have H1 : (some false) = some r := by rw [if_neg (show ¬ (false = true) by decide)] at H; exact H
           clear H
           have H := H1
           clear H1
           obtain rfl := Option.some.inj H
           go_wp2
           repeat (go_quiet (fail); try go_wp2)
           go_ret
           exact ⟨by rfl, by exact HB.out⟩
      rw [if_neg c21] at H
      have c21b0 : decide (x6_2 < (l0_0.length : Int)) = false := decide_eq_false c21
      clear c21
      obtain rfl := Option.some.inj H
      go_wp2
      repeat (go_quiet (fail); try go_wp2)
      go_ret
      exact ⟨by rfl, by exact HB.out⟩
 replace c3 := Bool.eq_false_iff.mpr c3
 subst c3
 have H1 : (some false) = some r := by rw [if_neg (show ¬ (false = true) by decide)] at H; exact H
 clear H
 have H := H1
 clear H1
 obtain rfl := Option.some.inj H
 go_enter Try.func118, Try.ntmps118
 go_wp2_with (first | ((with_reducible refine gate_dst (N := 1) rfl ?_); refine box_event ?hg (N := 1) ?hd (cs := #[.slice A0_0 l0_0.length c0_0]) (t := 33) ?hr ?_; (case hd => rfl); (case hg => rfl); (case hr => (go_simp; done)); intro gb150 hg w61 hbox hb; have BK150 := Aside0.mk (hbox); have GW150 := Aside0.mk (geg hg (below_size HB.out)); have GE150 := Aside0.mk (geg hg (below_size HB.out)); replace HB := Aside0.mk (below_step HB.out hb); clear hb hbox hg; have hcz62_0 := bc0 BK150.out; have hfz62_0 := blk_frozen BK150.out 0) | (go_at_call 120; (with_reducible refine (spec_l01In.calls (l0_0.length : Int) 1 8 false _ A2.out).mono ?_); rintro e w' ⟨rfl, ⟨nd, rfl⟩⟩))
 repeat (go_quiet ((go_at_call 120; (with_reducible refine (spec_l01In.calls (l0_0.length : Int) 1 8 false _ A2.out).mono ?_); rintro e w' ⟨rfl, ⟨nd, rfl⟩⟩; (try exact ⟨rfl, _, World.drewN_drewN _ _ _⟩))); try go_wp2_with ((go_at_call 120; (with_reducible refine (spec_l01In.calls (l0_0.length : Int) 1 8 false _ A2.out).mono ?_); rintro e w' ⟨rfl, ⟨nd, rfl⟩⟩; (try exact ⟨rfl, _, World.drewN_drewN _ _ _⟩))))
 go_ret
 exact ⟨by rfl, by repeat ((with_reducible first | exact HB.out | apply pw_below_drewN))⟩

end Go.Proofs.Ytkpcogaahgfmcaa.PFnExactOuterModule
