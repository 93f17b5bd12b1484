-- Made by a program of this session (wip/tools: the patched printer), for this claim.
import Derived.Test.YtkpcogaahgfmcaaXSqZ1
import Derived.Test.YtkpcogaahgfmcaaPFnExactInnerModulex0Z1
import Derived.Test.YtkpcogaahgfmcaaPFnExactInnerModulex1Z1
namespace Go.Proofs.Ytkpcogaahgfmcaa.PFnExactInnerModule
open Go.Proofs.YtkpcogaahgfmcaaX
open Go.RowKit Go.Proofs.YtkpcogaahgfmcaaW.PrintWords Go.Proofs.YtkpcogaahgfmcaaW.PrintLast Go.Proofs.YtkpcogaahgfmcaaW.PrintMore
attribute [local go_sem] max2_int min2_int max_two min_two max_three min_three max_four min_four   -- for this text's walks alone
set_option linter.unusedVariables false
set_option linter.unusedSimpArgs false

/-! ### spec_l01Is: function 118 -/
mutual
def spec_l01Is.l0 : Nat → Int → Int → List (List Int) → Option (Bool)
 | 0, _, _, _ => none
 | k + 1, x3, x4, x108000 => if x4 < x3 then (if 0 ≤ x4 then (if x4 < (x108000.length : Int) then (if ((rd_L1 x108000 x4).length : Int) = x3 then (spec_l01Is.l1 k x3 x4 0 x108000) else (some false)) else (none)) else (none)) else (spec_l01Is.l2 k x3 0 x108000)
def spec_l01Is.l1 : Nat → Int → Int → Int → List (List Int) → Option (Bool)
 | 0, _, _, _, _ => none
 | k + 1, x3, x4, x5, x108000 => if x5 < x3 then (if 0 ≤ x4 then (if x4 < (x108000.length : Int) then (if 0 ≤ x5 then (if x5 < ((rd_L1 x108000 x4).length : Int) then ((spec_l01In.f (rd (rd_L1 x108000 x4) x5) 0 (wrap64 (x3 - 1))).bind fun t112 => (if t112 = true then (spec_l01Is.l1 k x3 x4 (wrap64 (x5 + 1)) x108000) else (some false))) else (none)) else (none)) else (none)) else (none)) else (spec_l01Is.l0 k x3 (wrap64 (x4 + 1)) x108000)
def spec_l01Is.l2 : Nat → Int → Int → List (List Int) → Option (Bool)
 | 0, _, _, _ => none
 | k + 1, x3, x6, x108000 => if x6 < x3 then (if 0 < (x108000.length : Int) then (if 0 ≤ x6 then (if x6 < ((rd_L1 x108000 0).length : Int) then (if (rd (rd_L1 x108000 0) x6) = x6 then (if x6 < (x108000.length : Int) then (if 0 < ((rd_L1 x108000 x6).length : Int) then (spec_l01Is.j3 k x3 x6 ((rd (rd_L1 x108000 x6) 0) != x6) x108000) else (none)) else (none)) else (spec_l01Is.j3 k x3 x6 true x108000)) else (none)) else (none)) else (none)) else (some true)
def spec_l01Is.j3 : Nat → Int → Int → Bool → List (List Int) → Option (Bool)
 | 0, _, _, _, _ => none
 | k + 1, x3, x6, x70, x108000 => if x70 = true then (some false) else (spec_l01Is.l3 k x3 x6 false 0 x108000)
def spec_l01Is.l3 : Nat → Int → Int → Bool → Int → List (List Int) → Option (Bool)
 | 0, _, _, _, _, _ => none
 | k + 1, x3, x6, x7, x8, x108000 => if x8 < x3 then (if x7 = true then (spec_l01Is.j5 k x3 x6 true x8 x108000) else (if 0 ≤ x6 then (if x6 < (x108000.length : Int) then (if 0 ≤ x8 then (if x8 < ((rd_L1 x108000 x6).length : Int) then (if (rd (rd_L1 x108000 x6) x8) = 0 then (if x8 < (x108000.length : Int) then (if x6 < ((rd_L1 x108000 x8).length : Int) then (spec_l01Is.j5 k x3 x6 ((rd (rd_L1 x108000 x8) x6) == 0) x8 x108000) else (none)) else (none)) else (spec_l01Is.j5 k x3 x6 false x8 x108000)) else (none)) else (none)) else (none)) else (none))) else (if x7 = true then (spec_l01Is.l2 k x3 (wrap64 (x6 + 1)) x108000) else (some false))
def spec_l01Is.j5 : Nat → Int → Int → Bool → Int → List (List Int) → Option (Bool)
 | 0, _, _, _, _, _ => none
 | k + 1, x3, x6, x7, x8, x108000 => spec_l01Is.l4 k x3 x6 x7 x8 0 x108000
def spec_l01Is.l4 : Nat → Int → Int → Bool → Int → Int → List (List Int) → Option (Bool)
 | 0, _, _, _, _, _, _ => none
 | k + 1, x3, x6, x7, x8, x9, x108000 => if x9 < x3 then (if 0 ≤ x6 then (if x6 < (x108000.length : Int) then (if 0 ≤ x8 then (if x8 < ((rd_L1 x108000 x6).length : Int) then (if 0 ≤ (rd (rd_L1 x108000 x6) x8) then (if (rd (rd_L1 x108000 x6) x8) < (x108000.length : Int) then (if 0 ≤ x9 then (if x9 < ((rd_L1 x108000 (rd (rd_L1 x108000 x6) x8)).length : Int) then (if x8 < (x108000.length : Int) then (if x9 < ((rd_L1 x108000 x8).length : Int) then (if 0 ≤ (rd (rd_L1 x108000 x8) x9) then (if (rd (rd_L1 x108000 x8) x9) < ((rd_L1 x108000 x6).length : Int) then (if (rd (rd_L1 x108000 (rd (rd_L1 x108000 x6) x8)) x9) = (rd (rd_L1 x108000 x6) (rd (rd_L1 x108000 x8) x9)) then (spec_l01Is.l4 k x3 x6 x7 x8 (wrap64 (x9 + 1)) x108000) else (some false)) else (none)) else (none)) else (none)) else (none)) else (none)) else (none)) else (none)) else (none)) else (none)) else (none)) else (none)) else (none)) else (spec_l01Is.l3 k x3 x6 x7 (wrap64 (x8 + 1)) x108000)
end
def spec_l01Is.f (k : Nat) (l0_0 : List (List Int)) : Option (Bool) := (spec_l01In.f (l0_0.length : Int) 1 8).bind fun t108 => (if t108 = true then (spec_l01Is.l0 k (l0_0.length : Int) 0 l0_0) else (some false))
theorem spec_l01Is.mono_l : ∀ k, (∀ y0 y1 y2, LeO (spec_l01Is.l0 k y0 y1 y2) (spec_l01Is.l0 (k + 1) y0 y1 y2)) ∧ (∀ y0 y1 y2 y3, LeO (spec_l01Is.l1 k y0 y1 y2 y3) (spec_l01Is.l1 (k + 1) y0 y1 y2 y3)) ∧ (∀ y0 y1 y2, LeO (spec_l01Is.l2 k y0 y1 y2) (spec_l01Is.l2 (k + 1) y0 y1 y2)) ∧ (∀ y0 y1 y2 y3, LeO (spec_l01Is.j3 k y0 y1 y2 y3) (spec_l01Is.j3 (k + 1) y0 y1 y2 y3)) ∧ (∀ y0 y1 y2 y3 y4, LeO (spec_l01Is.l3 k y0 y1 y2 y3 y4) (spec_l01Is.l3 (k + 1) y0 y1 y2 y3 y4)) ∧ (∀ y0 y1 y2 y3 y4, LeO (spec_l01Is.j5 k y0 y1 y2 y3 y4) (spec_l01Is.j5 (k + 1) y0 y1 y2 y3 y4)) ∧ (∀ y0 y1 y2 y3 y4 y5, LeO (spec_l01Is.l4 k y0 y1 y2 y3 y4 y5) (spec_l01Is.l4 (k + 1) y0 y1 y2 y3 y4 y5))
 | 0 => ⟨fun _ _ _ r h => by simp [spec_l01Is.l0] at h, fun _ _ _ _ r h => by simp [spec_l01Is.l1] at h, fun _ _ _ r h => by simp [spec_l01Is.l2] at h, fun _ _ _ _ r h => by simp [spec_l01Is.j3] at h, fun _ _ _ _ _ r h => by simp [spec_l01Is.l3] at h, fun _ _ _ _ _ r h => by simp [spec_l01Is.j5] at h, fun _ _ _ _ _ _ r h => by simp [spec_l01Is.l4] at h⟩
 | k + 1 => by
  obtain ⟨ih0, ih1, ih2, ih3, ih4, ih5, ih6⟩ := spec_l01Is.mono_l k
  refine ⟨?_, ?_, ?_, ?_, ?_, ?_, ?_⟩
  ·intro y0 y1 y2
   unfold spec_l01Is.l0
   repeat' first
   | (with_reducible exact ih0 _ _ _)
   | (with_reducible exact ih1 _ _ _ _)
   | (with_reducible exact ih2 _ _ _)
   | (with_reducible exact ih3 _ _ _ _)
   | (with_reducible exact ih4 _ _ _ _ _)
   | (with_reducible exact ih5 _ _ _ _ _)
   | (with_reducible exact ih6 _ _ _ _ _ _)
   | (with_reducible exact LeO.refl _)
   | (with_reducible exact LeO.none _)
   | (with_reducible refine LeO.ite ?_ ?_)
   | (with_reducible refine LeO.bind ?_ (fun _ => ?_))
   | exact ih0 _ _ _
   | exact ih1 _ _ _ _
   | exact ih2 _ _ _
   | exact ih3 _ _ _ _
   | exact ih4 _ _ _ _ _
   | exact ih5 _ _ _ _ _
   | exact ih6 _ _ _ _ _ _
   | exact LeO.none _
   | refine LeO.ite ?_ ?_
   | refine LeO.bind ?_ (fun _ => ?_)
  ·intro y0 y1 y2 y3
   unfold spec_l01Is.l1
   repeat' first
   | (with_reducible exact ih0 _ _ _)
   | (with_reducible exact ih1 _ _ _ _)
   | (with_reducible exact ih2 _ _ _)
   | (with_reducible exact ih3 _ _ _ _)
   | (with_reducible exact ih4 _ _ _ _ _)
   | (with_reducible exact ih5 _ _ _ _ _)
   | (with_reducible exact ih6 _ _ _ _ _ _)
   | (with_reducible exact LeO.refl _)
   | (with_reducible exact LeO.none _)
   | (with_reducible refine LeO.ite ?_ ?_)
   | (with_reducible refine LeO.bind ?_ (fun _ => ?_))
   | exact ih0 _ _ _
   | exact ih1 _ _ _ _
   | exact ih2 _ _ _
   | exact ih3 _ _ _ _
   | exact ih4 _ _ _ _ _
   | exact ih5 _ _ _ _ _
   | exact ih6 _ _ _ _ _ _
   | exact LeO.none _
   | refine LeO.ite ?_ ?_
   | refine LeO.bind ?_ (fun _ => ?_)
  ·intro y0 y1 y2
   unfold spec_l01Is.l2
   repeat' first
   | (with_reducible exact ih0 _ _ _)
   | (with_reducible exact ih1 _ _ _ _)
   | (with_reducible exact ih2 _ _ _)
   | (with_reducible exact ih3 _ _ _ _)
   | (with_reducible exact ih4 _ _ _ _ _)
   | (with_reducible exact ih5 _ _ _ _ _)
   | (with_reducible exact ih6 _ _ _ _ _ _)
   | (with_reducible exact LeO.refl _)
   | (with_reducible exact LeO.none _)
   | (with_reducible refine LeO.ite ?_ ?_)
   | (with_reducible refine LeO.bind ?_ (fun _ => ?_))
   | exact ih0 _ _ _
   | exact ih1 _ _ _ _
   | exact ih2 _ _ _
   | exact ih3 _ _ _ _
   | exact ih4 _ _ _ _ _
   | exact ih5 _ _ _ _ _
   | exact ih6 _ _ _ _ _ _
   | exact LeO.none _
   | refine LeO.ite ?_ ?_
   | refine LeO.bind ?_ (fun _ => ?_)
  ·intro y0 y1 y2 y3
   unfold spec_l01Is.j3
   repeat' first
   | (with_reducible exact ih0 _ _ _)
   | (with_reducible exact ih1 _ _ _ _)
   | (with_reducible exact ih2 _ _ _)
   | (with_reducible exact ih3 _ _ _ _)
   | (with_reducible exact ih4 _ _ _ _ _)
   | (with_reducible exact ih5 _ _ _ _ _)
   | (with_reducible exact ih6 _ _ _ _ _ _)
   | (with_reducible exact LeO.refl _)
   | (with_reducible exact LeO.none _)
   | (with_reducible refine LeO.ite ?_ ?_)
   | (with_reducible refine LeO.bind ?_ (fun _ => ?_))
   | exact ih0 _ _ _
   | exact ih1 _ _ _ _
   | exact ih2 _ _ _
   | exact ih3 _ _ _ _
   | exact ih4 _ _ _ _ _
   | exact ih5 _ _ _ _ _
   | exact ih6 _ _ _ _ _ _
   | exact LeO.none _
   | refine LeO.ite ?_ ?_
   | refine LeO.bind ?_ (fun _ => ?_)
  ·intro y0 y1 y2 y3 y4
   unfold spec_l01Is.l3
   repeat' first
   | (with_reducible exact ih0 _ _ _)
   | (with_reducible exact ih1 _ _ _ _)
   | (with_reducible exact ih2 _ _ _)
   | (with_reducible exact ih3 _ _ _ _)
   | (with_reducible exact ih4 _ _ _ _ _)
   | (with_reducible exact ih5 _ _ _ _ _)
   | (with_reducible exact ih6 _ _ _ _ _ _)
   | (with_reducible exact LeO.refl _)
   | (with_reducible exact LeO.none _)
   | (with_reducible refine LeO.ite ?_ ?_)
   | (with_reducible refine LeO.bind ?_ (fun _ => ?_))
   | exact ih0 _ _ _
   | exact ih1 _ _ _ _
   | exact ih2 _ _ _
   | exact ih3 _ _ _ _
   | exact ih4 _ _ _ _ _
   | exact ih5 _ _ _ _ _
   | exact ih6 _ _ _ _ _ _
   | exact LeO.none _
   | refine LeO.ite ?_ ?_
   | refine LeO.bind ?_ (fun _ => ?_)
  ·intro y0 y1 y2 y3 y4
   unfold spec_l01Is.j5
   repeat' first
   | (with_reducible exact ih0 _ _ _)
   | (with_reducible exact ih1 _ _ _ _)
   | (with_reducible exact ih2 _ _ _)
   | (with_reducible exact ih3 _ _ _ _)
   | (with_reducible exact ih4 _ _ _ _ _)
   | (with_reducible exact ih5 _ _ _ _ _)
   | (with_reducible exact ih6 _ _ _ _ _ _)
   | (with_reducible exact LeO.refl _)
   | (with_reducible exact LeO.none _)
   | (with_reducible refine LeO.ite ?_ ?_)
   | (with_reducible refine LeO.bind ?_ (fun _ => ?_))
   | exact ih0 _ _ _
   | exact ih1 _ _ _ _
   | exact ih2 _ _ _
   | exact ih3 _ _ _ _
   | exact ih4 _ _ _ _ _
   | exact ih5 _ _ _ _ _
   | exact ih6 _ _ _ _ _ _
   | exact LeO.none _
   | refine LeO.ite ?_ ?_
   | refine LeO.bind ?_ (fun _ => ?_)
  ·intro y0 y1 y2 y3 y4 y5
   unfold spec_l01Is.l4
   repeat' first
   | (with_reducible exact ih0 _ _ _)
   | (with_reducible exact ih1 _ _ _ _)
   | (with_reducible exact ih2 _ _ _)
   | (with_reducible exact ih3 _ _ _ _)
   | (with_reducible exact ih4 _ _ _ _ _)
   | (with_reducible exact ih5 _ _ _ _ _)
   | (with_reducible exact ih6 _ _ _ _ _ _)
   | (with_reducible exact LeO.refl _)
   | (with_reducible exact LeO.none _)
   | (with_reducible refine LeO.ite ?_ ?_)
   | (with_reducible refine LeO.bind ?_ (fun _ => ?_))
   | exact ih0 _ _ _
   | exact ih1 _ _ _ _
   | exact ih2 _ _ _
   | exact ih3 _ _ _ _
   | exact ih4 _ _ _ _ _
   | exact ih5 _ _ _ _ _
   | exact ih6 _ _ _ _ _ _
   | exact LeO.none _
   | refine LeO.ite ?_ ?_
   | refine LeO.bind ?_ (fun _ => ?_)
theorem spec_l01Is.mono : ∀ a0 k, LeO (spec_l01Is.f k a0) (spec_l01Is.f (k + 1) a0) := by
 intro a0 k
 obtain ⟨ih0, ih1, ih2, ih3, ih4, ih5, ih6⟩ := spec_l01Is.mono_l k
 unfold spec_l01Is.f
 repeat' first
   | (with_reducible exact ih0 _ _ _)
   | (with_reducible exact LeO.refl _)
   | (with_reducible refine LeO.ite ?_ ?_)
   | (with_reducible refine LeO.bind ?_ (fun _ => ?_))
set_option maxHeartbeats 8000000 in
set_option maxRecDepth 100000 in
theorem spec_l01Is.calls (k : Nat) (A0_0 : Option Addr) (c0_0 : Nat) (l0_0 : List (List Int)) (r : Bool) (w : World) (hr0_0 : Kd.C (Kd.slice 2 (Kd.int .i64)) w A0_0 l0_0.length l0_0) (hc0_0 : l0_0.length ≤ c0_0) (h : spec_l01Is.f k l0_0 = some r) :
  Calls Try.prog 118 #[.agg #[.slice A0_0 l0_0.length c0_0]] w fun e w' => e = .returned (.bool r) ∧ Below w.heap.size w w' := by
 have hu33 := Try.underlying33
 have hu22 := Try.underlying22
 have hu25 := Try.underlying25
 have hu2 := Try.underlying2
 have HR0_0 := Aside0.mk hr0_0
 have HC0_0 := Aside0.mk hc0_0
 clear hr0_0 hc0_0
 have HB := Aside0.mk (Below.refl w.heap.size w)
 have H : ((spec_l01In.f (l0_0.length : Int) 1 8).bind fun t108 => (if t108 = true then (spec_l01Is.l0 k (l0_0.length : Int) 0 l0_0) else (some false))) = some r := h
 clear h
 replace H := Option.bind_eq_some_iff.mp H
 obtain ⟨t108, A20, H⟩ := H
 replace H : (if t108 = true then (spec_l01Is.l0 k (l0_0.length : Int) 0 l0_0) else (some false)) = some r := H
 have A2 := Aside0.mk A20
 clear A20
 by_cases c3 : t108 = true
 ·subst c3
  have H1 : (spec_l01Is.l0 k (l0_0.length : Int) 0 l0_0) = some r := by rw [if_pos rfl] at H; exact H
  clear H
  have H := H1
  clear H1
  have H' := Aside0.mk H
  clear H
  go_enter Try.func118, Try.ntmps118
  go_wp2_with (first | ((with_reducible refine gate_dst (N := 1) rfl ?_); refine box_event ?hg (N := 1) ?hd (cs := #[.slice A0_0 l0_0.length c0_0]) (t := 33) ?hr ?_; (case hd => rfl); (case hg => rfl); (case hr => (go_simp; done)); intro gb107 hg w4 hbox hb; have BK107 := Aside0.mk (hbox); have GW107 := Aside0.mk (geg hg (below_size HB.out)); have GE107 := Aside0.mk (geg hg (below_size HB.out)); replace HB := Aside0.mk (below_step HB.out hb); clear hb hbox hg; have hcz5_0 := bc0 BK107.out; have hfz5_0 := blk_frozen BK107.out 0) | (go_at_call 120; (with_reducible refine (spec_l01In.calls (l0_0.length : Int) 1 8 true _ A2.out).mono ?_); rintro e w' ⟨rfl, ⟨nd, rfl⟩⟩))
  repeat (go_quiet ((go_at_call 120; (with_reducible refine (spec_l01In.calls (l0_0.length : Int) 1 8 true _ A2.out).mono ?_); rintro e w' ⟨rfl, ⟨nd, rfl⟩⟩; (try exact ⟨rfl, _, World.drewN_drewN _ _ _⟩))); try go_wp2_with ((go_at_call 120; (with_reducible refine (spec_l01In.calls (l0_0.length : Int) 1 8 true _ A2.out).mono ?_); rintro e w' ⟨rfl, ⟨nd, rfl⟩⟩; (try exact ⟨rfl, _, World.drewN_drewN _ _ _⟩))))
  go_loopg [4] k (fun kq v4 w' => ∃ (x4_1 : Int), v4 = .int .i64 x4_1 ∧ Aside0 (spec_l01Is.l0 kq (l0_0.length : Int) x4_1 l0_0 = some r) ∧ Aside0 (kq ≤ k) ∧ Aside0 (w'.heap[gb107]? = some (.cells #[(.slice A0_0 l0_0.length c0_0)] 33 (0, 0))) ∧ Aside0 (Below w.heap.size w w'))
  case atStart => exact ⟨(0), (by rfl), H', ⟨Nat.le_refl _⟩, ⟨by (with_reducible repeat (refine blk_drewN ?_ _)); exact BK107.out⟩, ⟨by repeat ((with_reducible first | exact HB.out | apply pw_below_drewN))⟩⟩
  case round =>
   clear H'
   clear hcz5_0
   clear hfz5_0
   obtain ⟨x4_1, rfl, HA, HK1, BK107, HB⟩ := hrel
   cases gk with
   | zero => exact absurd HA.out (by simp [spec_l01Is.l0])
   | succ k1 =>
    have H := HA.out
    clear HA
    simp only [spec_l01Is.l0] at H
    by_cases c6 : x4_1 < (l0_0.length : Int)
    ·rw [if_pos c6] at H
     have c6b0 : decide (x4_1 < (l0_0.length : Int)) = true := decide_eq_true c6
     clear c6
     by_cases c7 : 0 ≤ x4_1
     ·rw [if_pos c7] at H
      have c7b0 : decide (0 ≤ x4_1) = true := decide_eq_true c7
      clear c7
      by_cases c8 : x4_1 < (l0_0.length : Int)
      ·rw [if_pos c8] at H
       have c8b0 : decide (x4_1 < (l0_0.length : Int)) = true := decide_eq_true c8
       clear c8
       by_cases c9 : ((rd_L1 l0_0 x4_1).length : Int) = (l0_0.length : Int)
       ·rw [if_pos c9] at H
        have c9b0 : (((rd_L1 l0_0 x4_1).length : Int) == (l0_0.length : Int)) = true := beq_iff_eq.mpr c9
        have c9b1 : (((rd_L1 l0_0 x4_1).length : Int) != (l0_0.length : Int)) = false := bne_eq_false_iff_eq.mpr c9
        have c9b2 : ((rd_L1 l0_0 x4_1).length == l0_0.length) = true := by (simp at c9 ⊢; omega)
        clear c9
        have H' := Aside0.mk H
        clear H
        have hcz10_0 := bc0 BK107.out
        have hfz10_0 := blk_frozen BK107.out 0
        have p109 : 0 ≤ (x4_1 : Int) := of_decide_eq_true ‹_›
        have q109 : x4_1 < (l0_0.length : Int) := of_decide_eq_true ‹_›
        obtain ⟨ad109, A109_0, c109_0, e109, hx109_0, hl109_0, hi109_0⟩ := at_L1 HR0_0.out x4_1 p109 q109
        cases e109
        replace hx109_0 := (HB.out.cell (World.block_lt_of_cell? w _ hx109_0)).trans hx109_0
        have HR109_0 := Aside0.mk hi109_0
        have HC109_0 := Aside0.mk hl109_0
        clear hi109_0 hl109_0
        replace p109 := eq_true p109
        replace q109 := eq_true q109
        go_wp2
        repeat (go_quiet (fail); try go_wp2)
        go_loopg [5] k1 (fun kq v5 w' => ∃ (x5_2 : Int), v5 = .int .i64 x5_2 ∧ Aside0 (spec_l01Is.l1 kq (l0_0.length : Int) x4_1 x5_2 l0_0 = some r) ∧ Aside0 (kq ≤ k1) ∧ Aside0 (w'.heap[gb107]? = some (.cells #[(.slice (some ad109) l0_0.length c0_0)] 33 (0, 0))) ∧ Aside0 (Below w.heap.size w w'))
        case atStart => exact ⟨(0), (by rfl), H', ⟨Nat.le_refl _⟩, ⟨by exact BK107.out⟩, ⟨by exact HB.out⟩⟩
        case round =>
         clear H'
         clear c6b0
         clear c7b0
         clear c8b0
         clear c9b0
         clear c9b1
         clear c9b2
         clear hcz10_0
         clear hfz10_0
         clear hx109_0
         clear p109
         clear q109
         obtain ⟨x5_2, rfl, HA, HK2, BK107, HB⟩ := hrel
         cases gk with
         | zero => exact absurd HA.out (by simp [spec_l01Is.l1])
         | succ k2 =>
          have H := HA.out
          clear HA
          simp only [spec_l01Is.l1] at H
          by_cases c11 : x5_2 < (l0_0.length : Int)
          ·rw [if_pos c11] at H
           have c11b0 : decide (x5_2 < (l0_0.length : Int)) = true := decide_eq_true c11
           clear c11
           by_cases c12 : 0 ≤ x4_1
           ·rw [if_pos c12] at H
            have c12b0 : decide (0 ≤ x4_1) = true := decide_eq_true c12
            clear c12
            by_cases c13 : x4_1 < (l0_0.length : Int)
            ·rw [if_pos c13] at H
             have c13b0 : decide (x4_1 < (l0_0.length : Int)) = true := decide_eq_true c13
             clear c13
             by_cases c14 : 0 ≤ x5_2
             ·rw [if_pos c14] at H
              have c14b0 : decide (0 ≤ x5_2) = true := decide_eq_true c14
              clear c14
              by_cases c15 : x5_2 < ((rd_L1 l0_0 x4_1).length : Int)
              ·rw [if_pos c15] at H
               have c15b0 : decide (x5_2 < ((rd_L1 l0_0 x4_1).length : Int)) = true := decide_eq_true c15
               clear c15
               replace H := Option.bind_eq_some_iff.mp H
               obtain ⟨t112, A160, H⟩ := H
               replace H : (if t112 = true then (spec_l01Is.l1 k2 (l0_0.length : Int) x4_1 (wrap64 (x5_2 + 1)) l0_0) else (some false)) = some r := H
               have A16 := Aside0.mk A160
               clear A160
               by_cases c17 : t112 = true
               ·subst c17
                have H1 : (spec_l01Is.l1 k2 (l0_0.length : Int) x4_1 (wrap64 (x5_2 + 1)) l0_0) = some r := by rw [if_pos rfl] at H; exact H
                clear H
                have H := H1
                clear H1
                have H' := Aside0.mk H
                clear H
                have hcz18_0 := bc0 BK107.out
                have hfz18_0 := blk_frozen BK107.out 0
                have p110 : 0 ≤ (x4_1 : Int) := of_decide_eq_true ‹_›
                have q110 : x4_1 < (l0_0.length : Int) := of_decide_eq_true ‹_›
                obtain ⟨ad110, A110_0, c110_0, e110, hx110_0, hl110_0, hi110_0⟩ := at_L1 HR0_0.out x4_1 p110 q110
                obtain rfl : ad109 = ad110 := (by injection e110)
                replace hx110_0 := (HB.out.cell (World.block_lt_of_cell? w _ hx110_0)).trans hx110_0
                have HR110_0 := Aside0.mk hi110_0
                have HC110_0 := Aside0.mk hl110_0
                clear hi110_0 hl110_0
                replace p110 := eq_true p110
                replace q110 := eq_true q110
                have p111 : 0 ≤ (x5_2 : Int) := of_decide_eq_true ‹_›
                have q111 : x5_2 < ((rd_L1 l0_0 x4_1).length : Int) := of_decide_eq_true ‹_›
                obtain ⟨ad111, e111, hx111_0⟩ := Kd.at_int HR110_0.out x5_2 p111 q111
                cases e111
                replace hx111_0 := (HB.out.cell (World.block_lt_of_cell? w _ hx111_0)).trans hx111_0
                replace p111 := eq_true p111
                replace q111 := eq_true q111
                go_wp2_with ((go_at_call 120; (with_reducible refine (spec_l01In.calls (rd (rd_L1 l0_0 x4_1) x5_2) 0 (wrap64 ((l0_0.length : Int) - 1)) true _ A16.out).mono ?_); rintro e w' ⟨rfl, ⟨nd, rfl⟩⟩))
                repeat (go_quiet ((go_at_call 120; (with_reducible refine (spec_l01In.calls (rd (rd_L1 l0_0 x4_1) x5_2) 0 (wrap64 ((l0_0.length : Int) - 1)) true _ A16.out).mono ?_); rintro e w' ⟨rfl, ⟨nd, rfl⟩⟩; (try exact ⟨rfl, _, World.drewN_drewN _ _ _⟩))); try go_wp2_with ((go_at_call 120; (with_reducible refine (spec_l01In.calls (rd (rd_L1 l0_0 x4_1) x5_2) 0 (wrap64 ((l0_0.length : Int) - 1)) true _ A16.out).mono ?_); rintro e w' ⟨rfl, ⟨nd, rfl⟩⟩; (try exact ⟨rfl, _, World.drewN_drewN _ _ _⟩))))
                go_roundg k2
                case measure => have := HK1.out; have := HK2.out; omega
                case rel => exact ⟨(wrap64 (x5_2 + 1)), (by rfl), H', ⟨by have := HK1.out; have := HK2.out; omega⟩, ⟨by (with_reducible repeat (refine blk_drewN ?_ _)); exact BK107.out⟩, ⟨by repeat ((with_reducible first | exact HB.out | apply pw_below_drewN))⟩⟩
               ·replace c17 := Bool.eq_false_iff.mpr c17
                subst c17
                have H1 : (some false) = some r := by rw [if_neg (show ¬ (false = true) by decide)] at H; exact H
                clear H
                have H := H1
                clear H1
                obtain rfl := Option.some.inj H
                have hcz19_0 := bc0 BK107.out
                have hfz19_0 := blk_frozen BK107.out 0
                have p110 : 0 ≤ (x4_1 : Int) := of_decide_eq_true ‹_›
                have q110 : x4_1 < (l0_0.length : Int) := of_decide_eq_true ‹_›
                obtain ⟨ad110, A110_0, c110_0, e110, hx110_0, hl110_0, hi110_0⟩ := at_L1 HR0_0.out x4_1 p110 q110
                obtain rfl : ad109 = ad110 := (by injection e110)
                replace hx110_0 := (HB.out.cell (World.block_lt_of_cell? w _ hx110_0)).trans hx110_0
                have HR110_0 := Aside0.mk hi110_0
                have HC110_0 := Aside0.mk hl110_0
                clear hi110_0 hl110_0
                replace p110 := eq_true p110
                replace q110 := eq_true q110
                have p111 : 0 ≤ (x5_2 : Int) := of_decide_eq_true ‹_›
                have q111 : x5_2 < ((rd_L1 l0_0 x4_1).length : Int) := of_decide_eq_true ‹_›
                obtain ⟨ad111, e111, hx111_0⟩ := Kd.at_int HR110_0.out x5_2 p111 q111
                cases e111
                replace hx111_0 := (HB.out.cell (World.block_lt_of_cell? w _ hx111_0)).trans hx111_0
                replace p111 := eq_true p111
                replace q111 := eq_true q111
                go_wp2_with ((go_at_call 120; (with_reducible refine (spec_l01In.calls (rd (rd_L1 l0_0 x4_1) x5_2) 0 (wrap64 ((l0_0.length : Int) - 1)) false _ A16.out).mono ?_); rintro e w' ⟨rfl, ⟨nd, rfl⟩⟩))
                repeat (go_quiet ((go_at_call 120; (with_reducible refine (spec_l01In.calls (rd (rd_L1 l0_0 x4_1) x5_2) 0 (wrap64 ((l0_0.length : Int) - 1)) false _ A16.out).mono ?_); rintro e w' ⟨rfl, ⟨nd, rfl⟩⟩; (try exact ⟨rfl, _, World.drewN_drewN _ _ _⟩))); try go_wp2_with ((go_at_call 120; (with_reducible refine (spec_l01In.calls (rd (rd_L1 l0_0 x4_1) x5_2) 0 (wrap64 ((l0_0.length : Int) - 1)) false _ A16.out).mono ?_); rintro e w' ⟨rfl, ⟨nd, rfl⟩⟩; (try exact ⟨rfl, _, World.drewN_drewN _ _ _⟩))))
                go_ret
                exact ⟨by rfl, by repeat ((with_reducible first | exact HB.out | apply pw_below_drewN))⟩
              ·rw [if_neg c15] at H
               exact absurd H (by simp)
             ·rw [if_neg c14] at H
              exact absurd H (by simp)
            ·rw [if_neg c13] at H
             exact absurd H (by simp)
           ·rw [if_neg c12] at H
            exact absurd H (by simp)
          ·rw [if_neg c11] at H
           have c11b0 : decide (x5_2 < (l0_0.length : Int)) = false := decide_eq_false c11
           clear c11
           have H' := Aside0.mk H
           clear H
           go_wp2
           repeat (go_quiet (fail); try go_wp2)
           go_roundg k2
           case measure => have := HK1.out; have := HK2.out; omega
           case rel => exact ⟨(wrap64 (x4_1 + 1)), (by rfl), H', ⟨by have := HK1.out; have := HK2.out; omega⟩, ⟨by exact BK107.out⟩, ⟨by exact HB.out⟩⟩
       ·rw [if_neg c9] at H
        have c9b0 : (((rd_L1 l0_0 x4_1).length : Int) == (l0_0.length : Int)) = false := beq_eq_false_iff_ne.mpr c9
        have c9b1 : (((rd_L1 l0_0 x4_1).length : Int) != (l0_0.length : Int)) = true := bne_iff_ne.mpr c9
        have c9b2 : ((rd_L1 l0_0 x4_1).length == l0_0.length) = false := by (simp at c9 ⊢; omega)
        obtain rfl := Option.some.inj H
        have hcz20_0 := bc0 BK107.out
        have hfz20_0 := blk_frozen BK107.out 0
        have p109 : 0 ≤ (x4_1 : Int) := of_decide_eq_true ‹_›
        have q109 : x4_1 < (l0_0.length : Int) := of_decide_eq_true ‹_›
        obtain ⟨ad109, A109_0, c109_0, e109, hx109_0, hl109_0, hi109_0⟩ := at_L1 HR0_0.out x4_1 p109 q109
        cases e109
        replace hx109_0 := (HB.out.cell (World.block_lt_of_cell? w _ hx109_0)).trans hx109_0
        have HR109_0 := Aside0.mk hi109_0
        have HC109_0 := Aside0.mk hl109_0
        clear hi109_0 hl109_0
        replace p109 := eq_true p109
        replace q109 := eq_true q109
        go_wp2
        repeat (go_quiet (fail); try go_wp2)
        go_ret
        exact ⟨by rfl, by exact HB.out⟩
      ·rw [if_neg c8] at H
       exact absurd H (by simp)
     ·rw [if_neg c7] at H
      exact absurd H (by simp)
    ·rw [if_neg c6] at H
     have c6b0 : decide (x4_1 < (l0_0.length : Int)) = false := decide_eq_false c6
     clear c6
     have H' := Aside0.mk H
     clear H
     go_wp2
     repeat (go_quiet (fail); try go_wp2)
     go_loopg [6] k1 (fun kq v6 w' => ∃ (x6_2 : Int), v6 = .int .i64 x6_2 ∧ Aside0 (spec_l01Is.l2 kq (l0_0.length : Int) x6_2 l0_0 = some r) ∧ Aside0 (kq ≤ k1) ∧ Aside0 (w'.heap[gb107]? = some (.cells #[(.slice A0_0 l0_0.length c0_0)] 33 (0, 0))) ∧ Aside0 (Below w.heap.size w w'))
     case atStart => exact ⟨(0), (by rfl), H', ⟨Nat.le_refl _⟩, ⟨by exact BK107.out⟩, ⟨by exact HB.out⟩⟩
     case round =>
      clear H'
      clear c6b0
      obtain ⟨x6_2, rfl, HA, HK2, BK107, HB⟩ := hrel
      cases gk with
      | zero => exact absurd HA.out (by simp [spec_l01Is.l2])
      | succ k2 =>
       have H := HA.out
       clear HA
       simp only [spec_l01Is.l2] at H
       by_cases c21 : x6_2 < (l0_0.length : Int)
       ·rw [if_pos c21] at H
        have c21b0 : decide (x6_2 < (l0_0.length : Int)) = true := decide_eq_true c21
        clear c21
        have HC22 := Aside0.mk H
        clear H
        go_upto_region 17 with (fail)
        repeat (go_quiet (fail); go_upto_region 17 with (fail))
        go_cut [70] (fun v70 wc => ∃ (kq : Nat) (x70_21 : Bool), v70 = .bool x70_21 ∧ Aside0 (spec_l01Is.j3 kq (l0_0.length : Int) x6_2 x70_21 l0_0 = some r) ∧ Aside0 (kq ≤ k2) ∧ Aside0 (wc.heap[gb107]? = some (.cells #[(.slice A0_0 l0_0.length c0_0)] 33 (0, 0))) ∧ Aside0 (Below w.heap.size w wc))
        case first =>
         have H := HC22.out
         clear HC22
         by_cases c23 : 0 < (l0_0.length : Int)
         ·rw [if_pos c23] at H
          have c23b0 : decide (0 < (l0_0.length : Int)) = true := decide_eq_true c23
          have c23b1 : decide (0 < l0_0.length) = true := decide_eq_true (by omega)
          clear c23
          by_cases c24 : 0 ≤ x6_2
          ·rw [if_pos c24] at H
           have c24b0 : decide (0 ≤ x6_2) = true := decide_eq_true c24
           clear c24
           by_cases c25 : x6_2 < ((rd_L1 l0_0 0).length : Int)
           ·rw [if_pos c25] at H
            have c25b0 : decide (x6_2 < ((rd_L1 l0_0 0).length : Int)) = true := decide_eq_true c25
            clear c25
            by_cases c26 : (rd (rd_L1 l0_0 0) x6_2) = x6_2
            ·rw [if_pos c26] at H
             have c26b0 : ((rd (rd_L1 l0_0 0) x6_2) == x6_2) = true := beq_iff_eq.mpr c26
             have c26b1 : ((rd (rd_L1 l0_0 0) x6_2) != x6_2) = false := bne_eq_false_iff_eq.mpr c26
             clear c26
             by_cases c27 : x6_2 < (l0_0.length : Int)
             ·rw [if_pos c27] at H
              have c27b0 : decide (x6_2 < (l0_0.length : Int)) = true := decide_eq_true c27
              clear c27
              by_cases c28 : 0 < ((rd_L1 l0_0 x6_2).length : Int)
              ·rw [if_pos c28] at H
               have c28b0 : decide (0 < ((rd_L1 l0_0 x6_2).length : Int)) = true := decide_eq_true c28
               have c28b1 : decide (0 < (rd_L1 l0_0 x6_2).length) = true := decide_eq_true (by omega)
               clear c28
               have H' := Aside0.mk H
               clear H
               have hcz29_0 := bc0 BK107.out
               have hfz29_0 := blk_frozen BK107.out 0
               have p113 : 0 ≤ (0 : Int) := (by omega)
               have q113 : 0 < (l0_0.length : Int) := of_decide_eq_true ‹_›
               obtain ⟨ad113, A113_0, c113_0, e113, hx113_0, hl113_0, hi113_0⟩ := at_L1 HR0_0.out 0 p113 q113
               cases e113
               have qi113 : (0 < l0_0.length) = True := eq_true (by omega)
               (rw [show ((0 : Int)).toNat = 0 from rfl] at hx113_0)
               (rw [Addr.add_zero'] at hx113_0)
               replace hx113_0 := (HB.out.cell (World.block_lt_of_cell? w _ hx113_0)).trans hx113_0
               have HR113_0 := Aside0.mk hi113_0
               have HC113_0 := Aside0.mk hl113_0
               clear hi113_0 hl113_0
               replace p113 := eq_true p113
               replace q113 := eq_true q113
               have p114 : 0 ≤ (x6_2 : Int) := of_decide_eq_true ‹_›
               have q114 : x6_2 < ((rd_L1 l0_0 0).length : Int) := of_decide_eq_true ‹_›
               obtain ⟨ad114, e114, hx114_0⟩ := Kd.at_int HR113_0.out x6_2 p114 q114
               cases e114
               replace hx114_0 := (HB.out.cell (World.block_lt_of_cell? w _ hx114_0)).trans hx114_0
               replace p114 := eq_true p114
               replace q114 := eq_true q114
               have p115 : 0 ≤ (x6_2 : Int) := of_decide_eq_true ‹_›
               have q115 : x6_2 < (l0_0.length : Int) := of_decide_eq_true ‹_›
               obtain ⟨ad115, A115_0, c115_0, e115, hx115_0, hl115_0, hi115_0⟩ := at_L1 HR0_0.out x6_2 p115 q115
               obtain rfl : ad113 = ad115 := (by injection e115)
               replace hx115_0 := (HB.out.cell (World.block_lt_of_cell? w _ hx115_0)).trans hx115_0
               have HR115_0 := Aside0.mk hi115_0
               have HC115_0 := Aside0.mk hl115_0
               clear hi115_0 hl115_0
               replace p115 := eq_true p115
               replace q115 := eq_true q115
               have p116 : 0 ≤ (0 : Int) := (by omega)
               have q116 : 0 < ((rd_L1 l0_0 x6_2).length : Int) := of_decide_eq_true ‹_›
               obtain ⟨ad116, e116, hx116_0⟩ := Kd.at_int HR115_0.out 0 p116 q116
               cases e116
               have qi116 : (0 < (rd_L1 l0_0 x6_2).length) = True := eq_true (by omega)
               (rw [show ((0 : Int)).toNat = 0 from rfl] at hx116_0)
               (rw [Addr.add_zero'] at hx116_0)
               replace hx116_0 := (HB.out.cell (World.block_lt_of_cell? w _ hx116_0)).trans hx116_0
               replace p116 := eq_true p116
               replace q116 := eq_true q116
               go_wp2
               repeat (go_quiet (fail); try go_wp2)
               go_meet
               case rel => exact ⟨_, (((rd (rd_L1 l0_0 x6_2) 0) != x6_2)), (by rfl), H', ⟨by have := HK1.out; have := HK2.out; omega⟩, ⟨by exact BK107.out⟩, ⟨by exact HB.out⟩⟩
              ·rw [if_neg c28] at H
               exact absurd H (by simp)
             ·rw [if_neg c27] at H
              exact absurd H (by simp)
            ·rw [if_neg c26] at H
             have c26b0 : ((rd (rd_L1 l0_0 0) x6_2) == x6_2) = false := beq_eq_false_iff_ne.mpr c26
             have c26b1 : ((rd (rd_L1 l0_0 0) x6_2) != x6_2) = true := bne_iff_ne.mpr c26
             have H' := Aside0.mk H
             clear H
             have hcz30_0 := bc0 BK107.out
             have hfz30_0 := blk_frozen BK107.out 0
             have p113 : 0 ≤ (0 : Int) := (by omega)
             have q113 : 0 < (l0_0.length : Int) := of_decide_eq_true ‹_›
             obtain ⟨ad113, A113_0, c113_0, e113, hx113_0, hl113_0, hi113_0⟩ := at_L1 HR0_0.out 0 p113 q113
             cases e113
             have qi113 : (0 < l0_0.length) = True := eq_true (by omega)
             (rw [show ((0 : Int)).toNat = 0 from rfl] at hx113_0)
             (rw [Addr.add_zero'] at hx113_0)
             replace hx113_0 := (HB.out.cell (World.block_lt_of_cell? w _ hx113_0)).trans hx113_0
             have HR113_0 := Aside0.mk hi113_0
             have HC113_0 := Aside0.mk hl113_0
             clear hi113_0 hl113_0
             replace p113 := eq_true p113
             replace q113 := eq_true q113
             have p114 : 0 ≤ (x6_2 : Int) := of_decide_eq_true ‹_›
             have q114 : x6_2 < ((rd_L1 l0_0 0).length : Int) := of_decide_eq_true ‹_›
             obtain ⟨ad114, e114, hx114_0⟩ := Kd.at_int HR113_0.out x6_2 p114 q114
             cases e114
             replace hx114_0 := (HB.out.cell (World.block_lt_of_cell? w _ hx114_0)).trans hx114_0
             replace p114 := eq_true p114
             replace q114 := eq_true q114
             go_wp2
             repeat (go_quiet (fail); try go_wp2)
             go_meet
             case rel => exact ⟨_, (true), (by rfl), H', ⟨by have := HK1.out; have := HK2.out; omega⟩, ⟨by exact BK107.out⟩, ⟨by exact HB.out⟩⟩
           ·rw [if_neg c25] at H
            exact absurd H (by simp)
          ·rw [if_neg c24] at H
           exact absurd H (by simp)
         ·rw [if_neg c23] at H
          exact absurd H (by simp)
        case rest =>
         clear HC22
         clear c21b0
         obtain ⟨kq, x70_21, rfl, HA, HJ21, BK107, HB⟩ := hcut
         cases kq with
         | zero => exact absurd HA.out (by simp [spec_l01Is.j3])
         | succ kj21 =>
          have H := HA.out
          clear HA
          simp only [spec_l01Is.j3] at H
          by_cases c31 : x70_21 = true
          ·subst c31
           have H1 : (some false) = some r := by rw [if_pos rfl] at H; exact H
           clear H
           have H := H1
           clear H1
           obtain rfl := Option.some.inj H
           go_wp2
           repeat (go_quiet (fail); try go_wp2)
           go_ret
           exact ⟨by rfl, by exact HB.out⟩
          ·replace c31 := Bool.eq_false_iff.mpr c31
           subst c31
           have H1 : (spec_l01Is.l3 kj21 (l0_0.length : Int) x6_2 false 0 l0_0) = some r := by rw [if_neg (show ¬ (false = true) by decide)] at H; exact H
           clear H
           have H := H1
           clear H1
           have H' := Aside0.mk H
           clear H
           go_wp2
           repeat (go_quiet (fail); try go_wp2)
           go_loopg [7, 8] kj21 (fun kq v7 v8 w' => ∃ (x7_4 : Bool) (x8_4 : Int), v7 = .bool x7_4 ∧ v8 = .int .i64 x8_4 ∧ Aside0 (spec_l01Is.l3 kq (l0_0.length : Int) x6_2 x7_4 x8_4 l0_0 = some r) ∧ Aside0 (kq ≤ kj21) ∧ Aside0 (w'.heap[gb107]? = some (.cells #[(.slice A0_0 l0_0.length c0_0)] 33 (0, 0))) ∧ Aside0 (Below w.heap.size w w'))
           case atStart => exact ⟨(false), (0), (by rfl), (by rfl), H', ⟨Nat.le_refl _⟩, ⟨by exact BK107.out⟩, ⟨by exact HB.out⟩⟩
           case round =>
            clear H'
            obtain ⟨x7_4, x8_4, rfl, rfl, HA, HK4, BK107, HB⟩ := hrel
            cases gk with
            | zero => exact absurd HA.out (by simp [spec_l01Is.l3])
            | succ k4 =>
             have H := HA.out
             clear HA
             simp only [spec_l01Is.l3] at H
             by_cases c32 : x8_4 < (l0_0.length : Int)
             ·rw [if_pos c32] at H
              have c32b0 : decide (x8_4 < (l0_0.length : Int)) = true := decide_eq_true c32
              clear c32
              have HC33 := Aside0.mk H
              clear H
              go_upto_region 23 with (fail)
              repeat (go_quiet (fail); go_upto_region 23 with (fail))
              go_cut [7] (fun v7 wc => ∃ (kq : Nat) (x7_32 : Bool), v7 = .bool x7_32 ∧ Aside0 (spec_l01Is.j5 kq (l0_0.length : Int) x6_2 x7_32 x8_4 l0_0 = some r) ∧ Aside0 (kq ≤ k4) ∧ Aside0 (wc.heap[gb107]? = some (.cells #[(.slice A0_0 l0_0.length c0_0)] 33 (0, 0))) ∧ Aside0 (Below w.heap.size w wc))
              case first =>
               have H := HC33.out
               clear HC33
               by_cases c34 : x7_4 = true
               ·subst c34
                have H1 : (spec_l01Is.j5 k4 (l0_0.length : Int) x6_2 true x8_4 l0_0) = some r := by rw [if_pos rfl] at H; exact H
                clear H
                have H := H1
                clear H1
                have H' := Aside0.mk H
                clear H
                go_wp2
                repeat (go_quiet (fail); try go_wp2)
                go_meet
                case rel => exact ⟨_, (true), (by rfl), H', ⟨by have := HK1.out; have := HK2.out; have := HJ21.out; have := HK4.out; omega⟩, ⟨by exact BK107.out⟩, ⟨by exact HB.out⟩⟩
               ·replace c34 := Bool.eq_false_iff.mpr c34
                subst c34
                have H1 : (if 0 ≤ x6_2 then (if x6_2 < (l0_0.length : Int) then (if 0 ≤ x8_4 then (if x8_4 < ((rd_L1 l0_0 x6_2).length : Int) then (if (rd (rd_L1 l0_0 x6_2) x8_4) = 0 then (if x8_4 < (l0_0.length : Int) then (if x6_2 < ((rd_L1 l0_0 x8_4).length : Int) then (spec_l01Is.j5 k4 (l0_0.length : Int) x6_2 ((rd (rd_L1 l0_0 x8_4) x6_2) == 0) x8_4 l0_0) else (none)) else (none)) else (spec_l01Is.j5 k4 (l0_0.length : Int) x6_2 false x8_4 l0_0)) else (none)) else (none)) else (none)) else (none)) = some r := by rw [if_neg (show ¬ (false = true) by decide)] at H; exact H
                clear H
                have H := H1
                clear H1
                by_cases c35 : 0 ≤ x6_2
                ·rw [if_pos c35] at H
                 have c35b0 : decide (0 ≤ x6_2) = true := decide_eq_true c35
                 clear c35
                 by_cases c36 : x6_2 < (l0_0.length : Int)
                 ·rw [if_pos c36] at H
                  have c36b0 : decide (x6_2 < (l0_0.length : Int)) = true := decide_eq_true c36
                  clear c36
                  by_cases c37 : 0 ≤ x8_4
                  ·rw [if_pos c37] at H
                   have c37b0 : decide (0 ≤ x8_4) = true := decide_eq_true c37
                   clear c37
                   by_cases c38 : x8_4 < ((rd_L1 l0_0 x6_2).length : Int)
                   ·rw [if_pos c38] at H
                    have c38b0 : decide (x8_4 < ((rd_L1 l0_0 x6_2).length : Int)) = true := decide_eq_true c38
                    clear c38
                    by_cases c39 : (rd (rd_L1 l0_0 x6_2) x8_4) = 0
                    ·rw [if_pos c39] at H
                     have c39b0 : ((rd (rd_L1 l0_0 x6_2) x8_4) == 0) = true := beq_iff_eq.mpr c39
                     have c39b1 : ((rd (rd_L1 l0_0 x6_2) x8_4) != 0) = false := bne_eq_false_iff_eq.mpr c39
                     clear c39
                     by_cases c40 : x8_4 < (l0_0.length : Int)
                     ·rw [if_pos c40] at H
                      have c40b0 : decide (x8_4 < (l0_0.length : Int)) = true := decide_eq_true c40
                      clear c40
                      by_cases c41 : x6_2 < ((rd_L1 l0_0 x8_4).length : Int)
                      ·rw [if_pos c41] at H
                       have c41b0 : decide (x6_2 < ((rd_L1 l0_0 x8_4).length : Int)) = true := decide_eq_true c41
                       clear c41
                       have H' := Aside0.mk H
                       clear H
                       have hcz42_0 := bc0 BK107.out
                       have hfz42_0 := blk_frozen BK107.out 0
                       have p117 : 0 ≤ (x6_2 : Int) := of_decide_eq_true ‹_›
                       have q117 : x6_2 < (l0_0.length : Int) := of_decide_eq_true ‹_›
                       obtain ⟨ad117, A117_0, c117_0, e117, hx117_0, hl117_0, hi117_0⟩ := at_L1 HR0_0.out x6_2 p117 q117
                       cases e117
                       replace hx117_0 := (HB.out.cell (World.block_lt_of_cell? w _ hx117_0)).trans hx117_0
                       have HR117_0 := Aside0.mk hi117_0
                       have HC117_0 := Aside0.mk hl117_0
                       clear hi117_0 hl117_0
                       replace p117 := eq_true p117
                       replace q117 := eq_true q117
                       have p118 : 0 ≤ (x8_4 : Int) := of_decide_eq_true ‹_›
                       have q118 : x8_4 < ((rd_L1 l0_0 x6_2).length : Int) := of_decide_eq_true ‹_›
                       obtain ⟨ad118, e118, hx118_0⟩ := Kd.at_int HR117_0.out x8_4 p118 q118
                       cases e118
                       replace hx118_0 := (HB.out.cell (World.block_lt_of_cell? w _ hx118_0)).trans hx118_0
                       replace p118 := eq_true p118
                       replace q118 := eq_true q118
                       have p119 : 0 ≤ (x8_4 : Int) := of_decide_eq_true ‹_›
                       have q119 : x8_4 < (l0_0.length : Int) := of_decide_eq_true ‹_›
                       obtain ⟨ad119, A119_0, c119_0, e119, hx119_0, hl119_0, hi119_0⟩ := at_L1 HR0_0.out x8_4 p119 q119
                       obtain rfl : ad117 = ad119 := (by injection e119)
                       replace hx119_0 := (HB.out.cell (World.block_lt_of_cell? w _ hx119_0)).trans hx119_0
                       have HR119_0 := Aside0.mk hi119_0
                       have HC119_0 := Aside0.mk hl119_0
                       clear hi119_0 hl119_0
                       replace p119 := eq_true p119
                       replace q119 := eq_true q119
                       have p120 : 0 ≤ (x6_2 : Int) := of_decide_eq_true ‹_›
                       have q120 : x6_2 < ((rd_L1 l0_0 x8_4).length : Int) := of_decide_eq_true ‹_›
                       obtain ⟨ad120, e120, hx120_0⟩ := Kd.at_int HR119_0.out x6_2 p120 q120
                       cases e120
                       replace hx120_0 := (HB.out.cell (World.block_lt_of_cell? w _ hx120_0)).trans hx120_0
                       replace p120 := eq_true p120
                       replace q120 := eq_true q120
                       go_wp2
                       repeat (go_quiet (fail); try go_wp2)
                       go_meet
                       case rel => exact ⟨_, (((rd (rd_L1 l0_0 x8_4) x6_2) == 0)), (by rfl), H', ⟨by have := HK1.out; have := HK2.out; have := HJ21.out; have := HK4.out; omega⟩, ⟨by exact BK107.out⟩, ⟨by exact HB.out⟩⟩
                      ·rw [if_neg c41] at H
                       exact absurd H (by simp)
                     ·rw [if_neg c40] at H
                      exact absurd H (by simp)
                    ·rw [if_neg c39] at H
                     have c39b0 : ((rd (rd_L1 l0_0 x6_2) x8_4) == 0) = false := beq_eq_false_iff_ne.mpr c39
                     have c39b1 : ((rd (rd_L1 l0_0 x6_2) x8_4) != 0) = true := bne_iff_ne.mpr c39
                     have H' := Aside0.mk H
                     clear H
                     have hcz43_0 := bc0 BK107.out
                     have hfz43_0 := blk_frozen BK107.out 0
                     have p117 : 0 ≤ (x6_2 : Int) := of_decide_eq_true ‹_›
                     have q117 : x6_2 < (l0_0.length : Int) := of_decide_eq_true ‹_›
                     obtain ⟨ad117, A117_0, c117_0, e117, hx117_0, hl117_0, hi117_0⟩ := at_L1 HR0_0.out x6_2 p117 q117
                     cases e117
                     replace hx117_0 := (HB.out.cell (World.block_lt_of_cell? w _ hx117_0)).trans hx117_0
                     have HR117_0 := Aside0.mk hi117_0
                     have HC117_0 := Aside0.mk hl117_0
                     clear hi117_0 hl117_0
                     replace p117 := eq_true p117
                     replace q117 := eq_true q117
                     have p118 : 0 ≤ (x8_4 : Int) := of_decide_eq_true ‹_›
                     have q118 : x8_4 < ((rd_L1 l0_0 x6_2).length : Int) := of_decide_eq_true ‹_›
                     obtain ⟨ad118, e118, hx118_0⟩ := Kd.at_int HR117_0.out x8_4 p118 q118
                     cases e118
                     replace hx118_0 := (HB.out.cell (World.block_lt_of_cell? w _ hx118_0)).trans hx118_0
                     replace p118 := eq_true p118
                     replace q118 := eq_true q118
                     go_wp2
                     repeat (go_quiet (fail); try go_wp2)
                     go_meet
                     case rel => exact ⟨_, (false), (by rfl), H', ⟨by have := HK1.out; have := HK2.out; have := HJ21.out; have := HK4.out; omega⟩, ⟨by exact BK107.out⟩, ⟨by exact HB.out⟩⟩
                   ·rw [if_neg c38] at H
                    exact absurd H (by simp)
                  ·rw [if_neg c37] at H
                   exact absurd H (by simp)
                 ·rw [if_neg c36] at H
                  exact absurd H (by simp)
                ·rw [if_neg c35] at H
                 exact absurd H (by simp)
              case rest =>
               clear HC33
               clear c32b0
               obtain ⟨kq, x7_32, rfl, HA, HJ32, BK107, HB⟩ := hcut
               cases kq with
               | zero => exact absurd HA.out (by simp [spec_l01Is.j5])
               | succ kj32 =>
                have H := HA.out
                clear HA
                simp only [spec_l01Is.j5] at H
                have H' := Aside0.mk H
                clear H
                go_wp2
                repeat (go_quiet (fail); try go_wp2)
                go_loopg [9] kj32 (fun kq v9 w' => ∃ (x9_6 : Int), v9 = .int .i64 x9_6 ∧ Aside0 (spec_l01Is.l4 kq (l0_0.length : Int) x6_2 x7_32 x8_4 x9_6 l0_0 = some r) ∧ Aside0 (kq ≤ kj32) ∧ Aside0 (w'.heap[gb107]? = some (.cells #[(.slice A0_0 l0_0.length c0_0)] 33 (0, 0))) ∧ Aside0 (Below w.heap.size w w'))
                case atStart => exact ⟨(0), (by rfl), H', ⟨Nat.le_refl _⟩, ⟨by exact BK107.out⟩, ⟨by exact HB.out⟩⟩
                case round =>
                 clear H'
                 obtain ⟨x9_6, rfl, HA, HK6, BK107, HB⟩ := hrel
                 cases gk with
                 | zero => exact absurd HA.out (by simp [spec_l01Is.l4])
                 | succ k6 =>
                  have H := HA.out
                  clear HA
                  simp only [spec_l01Is.l4] at H
                  by_cases c44 : x9_6 < (l0_0.length : Int)
                  ·rw [if_pos c44] at H
                   have c44b0 : decide (x9_6 < (l0_0.length : Int)) = true := decide_eq_true c44
                   clear c44
                   by_cases c45 : 0 ≤ x6_2
                   ·rw [if_pos c45] at H
                    have c45b0 : decide (0 ≤ x6_2) = true := decide_eq_true c45
                    clear c45
                    by_cases c46 : x6_2 < (l0_0.length : Int)
                    ·rw [if_pos c46] at H
                     have c46b0 : decide (x6_2 < (l0_0.length : Int)) = true := decide_eq_true c46
                     clear c46
                     by_cases c47 : 0 ≤ x8_4
                     ·rw [if_pos c47] at H
                      have c47b0 : decide (0 ≤ x8_4) = true := decide_eq_true c47
                      clear c47
                      by_cases c48 : x8_4 < ((rd_L1 l0_0 x6_2).length : Int)
                      ·rw [if_pos c48] at H
                       have c48b0 : decide (x8_4 < ((rd_L1 l0_0 x6_2).length : Int)) = true := decide_eq_true c48
                       clear c48
                       by_cases c49 : 0 ≤ (rd (rd_L1 l0_0 x6_2) x8_4)
                       ·rw [if_pos c49] at H
                        have c49b0 : decide (0 ≤ (rd (rd_L1 l0_0 x6_2) x8_4)) = true := decide_eq_true c49
                        clear c49
                        by_cases c50 : (rd (rd_L1 l0_0 x6_2) x8_4) < (l0_0.length : Int)
                        ·rw [if_pos c50] at H
                         have c50b0 : decide ((rd (rd_L1 l0_0 x6_2) x8_4) < (l0_0.length : Int)) = true := decide_eq_true c50
                         clear c50
                         by_cases c51 : 0 ≤ x9_6
                         ·rw [if_pos c51] at H
                          have c51b0 : decide (0 ≤ x9_6) = true := decide_eq_true c51
                          clear c51
                          by_cases c52 : x9_6 < ((rd_L1 l0_0 (rd (rd_L1 l0_0 x6_2) x8_4)).length : Int)
                          ·rw [if_pos c52] at H
                           have c52b0 : decide (x9_6 < ((rd_L1 l0_0 (rd (rd_L1 l0_0 x6_2) x8_4)).length : Int)) = true := decide_eq_true c52
                           clear c52
                           by_cases c53 : x8_4 < (l0_0.length : Int)
                           ·rw [if_pos c53] at H
                            have c53b0 : decide (x8_4 < (l0_0.length : Int)) = true := decide_eq_true c53
                            clear c53
                            by_cases c54 : x9_6 < ((rd_L1 l0_0 x8_4).length : Int)
                            ·rw [if_pos c54] at H
                             have c54b0 : decide (x9_6 < ((rd_L1 l0_0 x8_4).length : Int)) = true := decide_eq_true c54
                             clear c54
                             by_cases c55 : 0 ≤ (rd (rd_L1 l0_0 x8_4) x9_6)
                             ·rw [if_pos c55] at H
                              have c55b0 : decide (0 ≤ (rd (rd_L1 l0_0 x8_4) x9_6)) = true := decide_eq_true c55
                              clear c55
                              by_cases c56 : (rd (rd_L1 l0_0 x8_4) x9_6) < ((rd_L1 l0_0 x6_2).length : Int)
                              ·rw [if_pos c56] at H
                               have c56b0 : decide ((rd (rd_L1 l0_0 x8_4) x9_6) < ((rd_L1 l0_0 x6_2).length : Int)) = true := decide_eq_true c56
                               clear c56
                               by_cases c57 : (rd (rd_L1 l0_0 (rd (rd_L1 l0_0 x6_2) x8_4)) x9_6) = (rd (rd_L1 l0_0 x6_2) (rd (rd_L1 l0_0 x8_4) x9_6))
                               ·rw [if_pos c57] at H
                                have c57b0 : ((rd (rd_L1 l0_0 (rd (rd_L1 l0_0 x6_2) x8_4)) x9_6) == (rd (rd_L1 l0_0 x6_2) (rd (rd_L1 l0_0 x8_4) x9_6))) = true := beq_iff_eq.mpr c57
                                have c57b1 : ((rd (rd_L1 l0_0 (rd (rd_L1 l0_0 x6_2) x8_4)) x9_6) != (rd (rd_L1 l0_0 x6_2) (rd (rd_L1 l0_0 x8_4) x9_6))) = false := bne_eq_false_iff_eq.mpr c57
                                clear c57
                                have H' := Aside0.mk H
                                clear H
                                have hcz58_0 := bc0 BK107.out
                                have hfz58_0 := blk_frozen BK107.out 0
                                have p121 : 0 ≤ (x6_2 : Int) := of_decide_eq_true ‹_›
                                have q121 : x6_2 < (l0_0.length : Int) := of_decide_eq_true ‹_›
                                obtain ⟨ad121, A121_0, c121_0, e121, hx121_0, hl121_0, hi121_0⟩ := at_L1 HR0_0.out x6_2 p121 q121
                                cases e121
                                replace hx121_0 := (HB.out.cell (World.block_lt_of_cell? w _ hx121_0)).trans hx121_0
                                have HR121_0 := Aside0.mk hi121_0
                                have HC121_0 := Aside0.mk hl121_0
                                clear hi121_0 hl121_0
                                replace p121 := eq_true p121
                                replace q121 := eq_true q121
                                have p122 : 0 ≤ (x8_4 : Int) := of_decide_eq_true ‹_›
                                have q122 : x8_4 < ((rd_L1 l0_0 x6_2).length : Int) := of_decide_eq_true ‹_›
                                obtain ⟨ad122, e122, hx122_0⟩ := Kd.at_int HR121_0.out x8_4 p122 q122
                                cases e122
                                replace hx122_0 := (HB.out.cell (World.block_lt_of_cell? w _ hx122_0)).trans hx122_0
                                replace p122 := eq_true p122
                                replace q122 := eq_true q122
                                have p123 : 0 ≤ ((rd (rd_L1 l0_0 x6_2) x8_4) : Int) := of_decide_eq_true ‹_›
                                have q123 : (rd (rd_L1 l0_0 x6_2) x8_4) < (l0_0.length : Int) := of_decide_eq_true ‹_›
                                obtain ⟨ad123, A123_0, c123_0, e123, hx123_0, hl123_0, hi123_0⟩ := at_L1 HR0_0.out (rd (rd_L1 l0_0 x6_2) x8_4) p123 q123
                                obtain rfl : ad121 = ad123 := (by injection e123)
                                replace hx123_0 := (HB.out.cell (World.block_lt_of_cell? w _ hx123_0)).trans hx123_0
                                have HR123_0 := Aside0.mk hi123_0
                                have HC123_0 := Aside0.mk hl123_0
                                clear hi123_0 hl123_0
                                replace p123 := eq_true p123
                                replace q123 := eq_true q123
                                have p124 : 0 ≤ (x9_6 : Int) := of_decide_eq_true ‹_›
                                have q124 : x9_6 < ((rd_L1 l0_0 (rd (rd_L1 l0_0 x6_2) x8_4)).length : Int) := of_decide_eq_true ‹_›
                                obtain ⟨ad124, e124, hx124_0⟩ := Kd.at_int HR123_0.out x9_6 p124 q124
                                cases e124
                                replace hx124_0 := (HB.out.cell (World.block_lt_of_cell? w _ hx124_0)).trans hx124_0
                                replace p124 := eq_true p124
                                replace q124 := eq_true q124
                                have p125 : 0 ≤ (x6_2 : Int) := of_decide_eq_true ‹_›
                                have q125 : x6_2 < (l0_0.length : Int) := of_decide_eq_true ‹_›
                                obtain ⟨ad125, A125_0, c125_0, e125, hx125_0, hl125_0, hi125_0⟩ := at_L1 HR0_0.out x6_2 p125 q125
                                obtain rfl : ad121 = ad125 := (by injection e125)
                                replace hx125_0 := (HB.out.cell (World.block_lt_of_cell? w _ hx125_0)).trans hx125_0
                                have HR125_0 := Aside0.mk hi125_0
                                have HC125_0 := Aside0.mk hl125_0
                                clear hi125_0 hl125_0
                                replace p125 := eq_true p125
                                replace q125 := eq_true q125
                                have ea_ := Option.some.inj (hx121_0.symm.trans hx125_0)
                                injection ea_ with ea_ en_ ec_
                                subst ea_
                                subst ec_
                                clear en_
                                have p126 : 0 ≤ (x8_4 : Int) := of_decide_eq_true ‹_›
                                have q126 : x8_4 < (l0_0.length : Int) := of_decide_eq_true ‹_›
                                obtain ⟨ad126, A126_0, c126_0, e126, hx126_0, hl126_0, hi126_0⟩ := at_L1 HR0_0.out x8_4 p126 q126
                                obtain rfl : ad121 = ad126 := (by injection e126)
                                replace hx126_0 := (HB.out.cell (World.block_lt_of_cell? w _ hx126_0)).trans hx126_0
                                have HR126_0 := Aside0.mk hi126_0
                                have HC126_0 := Aside0.mk hl126_0
                                clear hi126_0 hl126_0
                                replace p126 := eq_true p126
                                replace q126 := eq_true q126
                                have p127 : 0 ≤ (x9_6 : Int) := of_decide_eq_true ‹_›
                                have q127 : x9_6 < ((rd_L1 l0_0 x8_4).length : Int) := of_decide_eq_true ‹_›
                                obtain ⟨ad127, e127, hx127_0⟩ := Kd.at_int HR126_0.out x9_6 p127 q127
                                cases e127
                                replace hx127_0 := (HB.out.cell (World.block_lt_of_cell? w _ hx127_0)).trans hx127_0
                                replace p127 := eq_true p127
                                replace q127 := eq_true q127
                                have p128 : 0 ≤ ((rd (rd_L1 l0_0 x8_4) x9_6) : Int) := of_decide_eq_true ‹_›
                                have q128 : (rd (rd_L1 l0_0 x8_4) x9_6) < ((rd_L1 l0_0 x6_2).length : Int) := of_decide_eq_true ‹_›
                                obtain ⟨ad128, e128, hx128_0⟩ := Kd.at_int HR125_0.out (rd (rd_L1 l0_0 x8_4) x9_6) p128 q128
                                cases e128
                                replace hx128_0 := (HB.out.cell (World.block_lt_of_cell? w _ hx128_0)).trans hx128_0
                                replace p128 := eq_true p128
                                replace q128 := eq_true q128
                                go_wp2
                                repeat (go_quiet (fail); go_wp2)
                                go_roundg k6
                                case measure => have := HK1.out; have := HK2.out; have := HJ21.out; have := HK4.out; have := HJ32.out; have := HK6.out; omega
                                case rel => exact ⟨(wrap64 (x9_6 + 1)), (by rfl), H', ⟨by have := HK1.out; have := HK2.out; have := HJ21.out; have := HK4.out; have := HJ32.out; have := HK6.out; omega⟩, ⟨by (with_reducible repeat (refine blk_drewN ?_ _)); exact BK107.out⟩, ⟨by repeat ((with_reducible first | exact HB.out | apply pw_below_drewN))⟩⟩
                               ·rw [if_neg c57] at H
                                have c57b0 : ((rd (rd_L1 l0_0 (rd (rd_L1 l0_0 x6_2) x8_4)) x9_6) == (rd (rd_L1 l0_0 x6_2) (rd (rd_L1 l0_0 x8_4) x9_6))) = false := beq_eq_false_iff_ne.mpr c57
                                have c57b1 : ((rd (rd_L1 l0_0 (rd (rd_L1 l0_0 x6_2) x8_4)) x9_6) != (rd (rd_L1 l0_0 x6_2) (rd (rd_L1 l0_0 x8_4) x9_6))) = true := bne_iff_ne.mpr c57
                                obtain rfl := Option.some.inj H
                                have hcz59_0 := bc0 BK107.out
                                have hfz59_0 := blk_frozen BK107.out 0
                                have p121 : 0 ≤ (x6_2 : Int) := of_decide_eq_true ‹_›
                                have q121 : x6_2 < (l0_0.length : Int) := of_decide_eq_true ‹_›
                                obtain ⟨ad121, A121_0, c121_0, e121, hx121_0, hl121_0, hi121_0⟩ := at_L1 HR0_0.out x6_2 p121 q121
                                cases e121
                                replace hx121_0 := (HB.out.cell (World.block_lt_of_cell? w _ hx121_0)).trans hx121_0
                                have HR121_0 := Aside0.mk hi121_0
                                have HC121_0 := Aside0.mk hl121_0
                                clear hi121_0 hl121_0
                                replace p121 := eq_true p121
                                replace q121 := eq_true q121
                                have p122 : 0 ≤ (x8_4 : Int) := of_decide_eq_true ‹_›
                                have q122 : x8_4 < ((rd_L1 l0_0 x6_2).length : Int) := of_decide_eq_true ‹_›
                                obtain ⟨ad122, e122, hx122_0⟩ := Kd.at_int HR121_0.out x8_4 p122 q122
                                cases e122
                                replace hx122_0 := (HB.out.cell (World.block_lt_of_cell? w _ hx122_0)).trans hx122_0
                                replace p122 := eq_true p122
                                replace q122 := eq_true q122
                                have p123 : 0 ≤ ((rd (rd_L1 l0_0 x6_2) x8_4) : Int) := of_decide_eq_true ‹_›
                                have q123 : (rd (rd_L1 l0_0 x6_2) x8_4) < (l0_0.length : Int) := of_decide_eq_true ‹_›
                                obtain ⟨ad123, A123_0, c123_0, e123, hx123_0, hl123_0, hi123_0⟩ := at_L1 HR0_0.out (rd (rd_L1 l0_0 x6_2) x8_4) p123 q123
                                obtain rfl : ad121 = ad123 := (by injection e123)
                                replace hx123_0 := (HB.out.cell (World.block_lt_of_cell? w _ hx123_0)).trans hx123_0
                                have HR123_0 := Aside0.mk hi123_0
                                have HC123_0 := Aside0.mk hl123_0
                                clear hi123_0 hl123_0
                                replace p123 := eq_true p123
                                replace q123 := eq_true q123
                                have p124 : 0 ≤ (x9_6 : Int) := of_decide_eq_true ‹_›
                                have q124 : x9_6 < ((rd_L1 l0_0 (rd (rd_L1 l0_0 x6_2) x8_4)).length : Int) := of_decide_eq_true ‹_›
                                obtain ⟨ad124, e124, hx124_0⟩ := Kd.at_int HR123_0.out x9_6 p124 q124
                                cases e124
                                replace hx124_0 := (HB.out.cell (World.block_lt_of_cell? w _ hx124_0)).trans hx124_0
                                replace p124 := eq_true p124
                                replace q124 := eq_true q124
                                have p125 : 0 ≤ (x6_2 : Int) := of_decide_eq_true ‹_›
                                have q125 : x6_2 < (l0_0.length : Int) := of_decide_eq_true ‹_›
                                obtain ⟨ad125, A125_0, c125_0, e125, hx125_0, hl125_0, hi125_0⟩ := at_L1 HR0_0.out x6_2 p125 q125
                                obtain rfl : ad121 = ad125 := (by injection e125)
                                replace hx125_0 := (HB.out.cell (World.block_lt_of_cell? w _ hx125_0)).trans hx125_0
                                have HR125_0 := Aside0.mk hi125_0
                                have HC125_0 := Aside0.mk hl125_0
                                clear hi125_0 hl125_0
                                replace p125 := eq_true p125
                                replace q125 := eq_true q125
                                have ea_ := Option.some.inj (hx121_0.symm.trans hx125_0)
                                injection ea_ with ea_ en_ ec_
                                subst ea_
                                subst ec_
                                clear en_
                                have p126 : 0 ≤ (x8_4 : Int) := of_decide_eq_true ‹_›
                                have q126 : x8_4 < (l0_0.length : Int) := of_decide_eq_true ‹_›
                                obtain ⟨ad126, A126_0, c126_0, e126, hx126_0, hl126_0, hi126_0⟩ := at_L1 HR0_0.out x8_4 p126 q126
                                obtain rfl : ad121 = ad126 := (by injection e126)
                                replace hx126_0 := (HB.out.cell (World.block_lt_of_cell? w _ hx126_0)).trans hx126_0
                                have HR126_0 := Aside0.mk hi126_0
                                have HC126_0 := Aside0.mk hl126_0
                                clear hi126_0 hl126_0
                                replace p126 := eq_true p126
                                replace q126 := eq_true q126
                                have p127 : 0 ≤ (x9_6 : Int) := of_decide_eq_true ‹_›
                                have q127 : x9_6 < ((rd_L1 l0_0 x8_4).length : Int) := of_decide_eq_true ‹_›
                                obtain ⟨ad127, e127, hx127_0⟩ := Kd.at_int HR126_0.out x9_6 p127 q127
                                cases e127
                                replace hx127_0 := (HB.out.cell (World.block_lt_of_cell? w _ hx127_0)).trans hx127_0
                                replace p127 := eq_true p127
                                replace q127 := eq_true q127
                                have p128 : 0 ≤ ((rd (rd_L1 l0_0 x8_4) x9_6) : Int) := of_decide_eq_true ‹_›
                                have q128 : (rd (rd_L1 l0_0 x8_4) x9_6) < ((rd_L1 l0_0 x6_2).length : Int) := of_decide_eq_true ‹_›
                                obtain ⟨ad128, e128, hx128_0⟩ := Kd.at_int HR125_0.out (rd (rd_L1 l0_0 x8_4) x9_6) p128 q128
                                cases e128
                                replace hx128_0 := (HB.out.cell (World.block_lt_of_cell? w _ hx128_0)).trans hx128_0
                                replace p128 := eq_true p128
                                replace q128 := eq_true q128
                                go_wp2
                                repeat (go_quiet (fail); go_wp2)
                                go_ret
                                exact ⟨by rfl, by repeat ((with_reducible first | exact HB.out | apply pw_below_drewN))⟩
                              ·rw [if_neg c56] at H
                               exact absurd H (by simp)
                             ·rw [if_neg c55] at H
                              exact absurd H (by simp)
                            ·rw [if_neg c54] at H
                             exact absurd H (by simp)
                           ·rw [if_neg c53] at H
                            exact absurd H (by simp)
                          ·rw [if_neg c52] at H
                           exact absurd H (by simp)
                         ·rw [if_neg c51] at H
                          exact absurd H (by simp)
                        ·rw [if_neg c50] at H
                         exact absurd H (by simp)
                       ·rw [if_neg c49] at H
                        exact absurd H (by simp)
                      ·rw [if_neg c48] at H
                       exact absurd H (by simp)
                     ·rw [if_neg c47] at H
                      exact absurd H (by simp)
                    ·rw [if_neg c46] at H
                     exact absurd H (by simp)
                   ·rw [if_neg c45] at H
                    exact absurd H (by simp)
                  ·rw [if_neg c44] at H
                   have c44b0 : decide (x9_6 < (l0_0.length : Int)) = false := decide_eq_false c44
                   clear c44
                   have H' := Aside0.mk H
                   clear H
                   go_wp2
                   repeat (go_quiet (fail); try go_wp2)
                   go_roundg k6
                   case measure => have := HK1.out; have := HK2.out; have := HJ21.out; have := HK4.out; have := HJ32.out; have := HK6.out; omega
                   case rel => exact ⟨(x7_32), (wrap64 (x8_4 + 1)), (by rfl), (by rfl), H', ⟨by have := HK1.out; have := HK2.out; have := HJ21.out; have := HK4.out; have := HJ32.out; have := HK6.out; omega⟩, ⟨by exact BK107.out⟩, ⟨by exact HB.out⟩⟩
             ·rw [if_neg c32] at H
              have c32b0 : decide (x8_4 < (l0_0.length : Int)) = false := decide_eq_false c32
              clear c32
              by_cases c60 : x7_4 = true
              ·subst c60
               have H1 : (spec_l01Is.l2 k4 (l0_0.length : Int) (wrap64 (x6_2 + 1)) l0_0) = some r := by rw [if_pos rfl] at H; exact H
               clear H
               have H := H1
               clear H1
               have H' := Aside0.mk H
               clear H
               go_wp2
               repeat (go_quiet (fail); try go_wp2)
               go_roundg k4
               case measure => have := HK1.out; have := HK2.out; have := HJ21.out; have := HK4.out; omega
               case rel => exact ⟨(wrap64 (x6_2 + 1)), (by rfl), H', ⟨by have := HK1.out; have := HK2.out; have := HJ21.out; have := HK4.out; omega⟩, ⟨by exact BK107.out⟩, ⟨by exact HB.out⟩⟩
              ·replace c60 := Bool.eq_false_iff.mpr c60
               subst c60
               have H1 : (some false) = some r := by rw [if_neg (show ¬ (false = true) by decide)] at H; exact H
               clear H
               have H := H1
               clear H1
               obtain rfl := Option.some.inj H
               go_wp2
               repeat (go_quiet (fail); try go_wp2)
               go_ret
               exact ⟨by rfl, by exact HB.out⟩
       ·rw [if_neg c21] at H
        have c21b0 : decide (x6_2 < (l0_0.length : Int)) = false := decide_eq_false c21
        clear c21
        obtain rfl := Option.some.inj H
        go_wp2
        repeat (go_quiet (fail); try go_wp2)
        go_ret
        exact ⟨by rfl, by exact HB.out⟩
 ·replace c3 := Bool.eq_false_iff.mpr c3
  subst c3
  have H1 : (some false) = some r := by rw [if_neg (show ¬ (false = true) by decide)] at H; exact H
  clear H
  have H := H1
  clear H1
  obtain rfl := Option.some.inj H
  go_enter Try.func118, Try.ntmps118
  go_wp2_with (first | ((with_reducible refine gate_dst (N := 1) rfl ?_); refine box_event ?hg (N := 1) ?hd (cs := #[.slice A0_0 l0_0.length c0_0]) (t := 33) ?hr ?_; (case hd => rfl); (case hg => rfl); (case hr => (go_simp; done)); intro gb107 hg w61 hbox hb; have BK107 := Aside0.mk (hbox); have GW107 := Aside0.mk (geg hg (below_size HB.out)); have GE107 := Aside0.mk (geg hg (below_size HB.out)); replace HB := Aside0.mk (below_step HB.out hb); clear hb hbox hg; have hcz62_0 := bc0 BK107.out; have hfz62_0 := blk_frozen BK107.out 0) | (go_at_call 120; (with_reducible refine (spec_l01In.calls (l0_0.length : Int) 1 8 false _ A2.out).mono ?_); rintro e w' ⟨rfl, ⟨nd, rfl⟩⟩))
  repeat (go_quiet ((go_at_call 120; (with_reducible refine (spec_l01In.calls (l0_0.length : Int) 1 8 false _ A2.out).mono ?_); rintro e w' ⟨rfl, ⟨nd, rfl⟩⟩; (try exact ⟨rfl, _, World.drewN_drewN _ _ _⟩))); try go_wp2_with ((go_at_call 120; (with_reducible refine (spec_l01In.calls (l0_0.length : Int) 1 8 false _ A2.out).mono ?_); rintro e w' ⟨rfl, ⟨nd, rfl⟩⟩; (try exact ⟨rfl, _, World.drewN_drewN _ _ _⟩))))
  go_ret
  exact ⟨by rfl, by repeat ((with_reducible first | exact HB.out | apply pw_below_drewN))⟩

end Go.Proofs.Ytkpcogaahgfmcaa.PFnExactInnerModule
