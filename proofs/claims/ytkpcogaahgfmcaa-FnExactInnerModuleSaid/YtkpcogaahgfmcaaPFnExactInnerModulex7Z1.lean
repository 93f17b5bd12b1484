-- Made by a program of this session (wip/tools: the patched printer), for this claim.
import Derived.Test.YtkpcogaahgfmcaaXSqZ1
import Derived.Test.YtkpcogaahgfmcaaPFnExactInnerModulex0Z1
import Derived.Test.YtkpcogaahgfmcaaPFnExactInnerModulex6Z1
namespace Go.Proofs.Ytkpcogaahgfmcaa.PFnExactInnerModule
open Go.Proofs.YtkpcogaahgfmcaaX
open Go.RowKit Go.Proofs.YtkpcogaahgfmcaaW.PrintWords Go.Proofs.YtkpcogaahgfmcaaW.PrintLast Go.Proofs.YtkpcogaahgfmcaaW.PrintMore
attribute [local go_sem] max2_int min2_int max_two min_two max_three min_three max_four min_four   -- for this text's walks alone
set_option linter.unusedVariables false
set_option linter.unusedSimpArgs false

/-! ### impl_IsGroup: function 148 -/
mutual
def impl_IsGroup.j0 : Nat → Int → Bool → List (List Int) → Option (Bool)
 | 0, _, _, _ => none
 | k + 1, x3, x16, x194000 => if x16 = true then (some false) else (impl_IsGroup.l0 k x3 x194000 (x194000.length : Int) 0 x194000)
def impl_IsGroup.l0 : Nat → Int → List (List Int) → Int → Int → List (List Int) → Option (Bool)
 | 0, _, _, _, _, _ => none
 | k + 1, x3, x18, x19, x20, x194000 => if x20 < x19 then (if 0 ≤ x20 then (if x20 < (x18.length : Int) then (if ((rd_L1 x18 x20).length : Int) = x3 then ((impl_areIn.f k x3 (rd_L1 x18 x20)).bind fun t196 => (if t196 = true then (impl_IsGroup.l0 k x3 x18 x19 (wrap64 (x20 + 1)) x194000) else (some false))) else (some false)) else (none)) else (none)) else (impl_IsGroup.l1 k x3 x3 0 x194000)
def impl_IsGroup.l1 : Nat → Int → Int → Int → List (List Int) → Option (Bool)
 | 0, _, _, _, _ => none
 | k + 1, x3, x35, x36, x194000 => if x36 < x35 then (if 0 < (x194000.length : Int) then (if 0 ≤ x36 then (if x36 < ((rd_L1 x194000 0).length : Int) then (if (rd (rd_L1 x194000 0) x36) = x36 then (if x36 < (x194000.length : Int) then (if 0 < ((rd_L1 x194000 x36).length : Int) then (if (rd (rd_L1 x194000 x36) 0) = x36 then ((slices_Contains_int64_int64.f k (rd_L1 x194000 x36) 0).bind fun t202 => (impl_IsGroup.j3 k x3 x36 x35 x36 (!t202) x194000)) else (impl_IsGroup.j3 k x3 x36 x35 x36 true x194000)) else (none)) else (none)) else (impl_IsGroup.j3 k x3 x36 x35 x36 true x194000)) else (none)) else (none)) else (none)) else (some true)
def impl_IsGroup.j3 : Nat → Int → Int → Int → Int → Bool → List (List Int) → Option (Bool)
 | 0, _, _, _, _, _, _ => none
 | k + 1, x3, x6, x35, x36, x67, x194000 => if x67 = true then (some false) else (impl_IsGroup.l2 k x3 x6 x35 x36 x3 0 x194000)
def impl_IsGroup.l2 : Nat → Int → Int → Int → Int → Int → Int → List (List Int) → Option (Bool)
 | 0, _, _, _, _, _, _, _ => none
 | k + 1, x3, x6, x35, x36, x68, x69, x194000 => if x69 < x68 then (impl_IsGroup.l3 k x3 x6 x69 x35 x36 x68 x69 x3 0 x194000) else (impl_IsGroup.l1 k x3 x35 (wrap64 (x36 + 1)) x194000)
def impl_IsGroup.l3 : Nat → Int → Int → Int → Int → Int → Int → Int → Int → Int → List (List Int) → Option (Bool)
 | 0, _, _, _, _, _, _, _, _, _, _ => none
 | k + 1, x3, x6, x7, x35, x36, x68, x69, x72, x73, x194000 => if x73 < x72 then (if 0 ≤ x6 then (if x6 < (x194000.length : Int) then (if 0 ≤ x7 then (if x7 < ((rd_L1 x194000 x6).length : Int) then (if 0 ≤ (rd (rd_L1 x194000 x6) x7) then (if (rd (rd_L1 x194000 x6) x7) < (x194000.length : Int) then (if 0 ≤ x73 then (if x73 < ((rd_L1 x194000 (rd (rd_L1 x194000 x6) x7)).length : Int) then (if x7 < (x194000.length : Int) then (if x73 < ((rd_L1 x194000 x7).length : Int) then (if 0 ≤ (rd (rd_L1 x194000 x7) x73) then (if (rd (rd_L1 x194000 x7) x73) < ((rd_L1 x194000 x6).length : Int) then (if (rd (rd_L1 x194000 (rd (rd_L1 x194000 x6) x7)) x73) = (rd (rd_L1 x194000 x6) (rd (rd_L1 x194000 x7) x73)) then (impl_IsGroup.l3 k x3 x6 x7 x35 x36 x68 x69 x72 (wrap64 (x73 + 1)) x194000) else (some false)) else (none)) else (none)) else (none)) else (none)) else (none)) else (none)) else (none)) else (none)) else (none)) else (none)) else (none)) else (none)) else (impl_IsGroup.l2 k x3 x6 x35 x36 x68 (wrap64 (x69 + 1)) x194000)
end
def impl_IsGroup.f (k : Nat) (l0_0 : List (List Int)) : Option (Bool) := (impl_order.f l0_0).bind fun t194 => (if t194 < 1 then (impl_IsGroup.j0 k t194 true l0_0) else (impl_IsGroup.j0 k t194 (decide (t194 > 8)) l0_0))
theorem impl_IsGroup.mono_l : ∀ k, (∀ y0 y1 y2, LeO (impl_IsGroup.j0 k y0 y1 y2) (impl_IsGroup.j0 (k + 1) y0 y1 y2)) ∧ (∀ y0 y1 y2 y3 y4, LeO (impl_IsGroup.l0 k y0 y1 y2 y3 y4) (impl_IsGroup.l0 (k + 1) y0 y1 y2 y3 y4)) ∧ (∀ y0 y1 y2 y3, LeO (impl_IsGroup.l1 k y0 y1 y2 y3) (impl_IsGroup.l1 (k + 1) y0 y1 y2 y3)) ∧ (∀ y0 y1 y2 y3 y4 y5, LeO (impl_IsGroup.j3 k y0 y1 y2 y3 y4 y5) (impl_IsGroup.j3 (k + 1) y0 y1 y2 y3 y4 y5)) ∧ (∀ y0 y1 y2 y3 y4 y5 y6, LeO (impl_IsGroup.l2 k y0 y1 y2 y3 y4 y5 y6) (impl_IsGroup.l2 (k + 1) y0 y1 y2 y3 y4 y5 y6)) ∧ (∀ y0 y1 y2 y3 y4 y5 y6 y7 y8 y9, LeO (impl_IsGroup.l3 k y0 y1 y2 y3 y4 y5 y6 y7 y8 y9) (impl_IsGroup.l3 (k + 1) y0 y1 y2 y3 y4 y5 y6 y7 y8 y9))
 | 0 => ⟨fun _ _ _ r h => by simp [impl_IsGroup.j0] at h, fun _ _ _ _ _ r h => by simp [impl_IsGroup.l0] at h, fun _ _ _ _ r h => by simp [impl_IsGroup.l1] at h, fun _ _ _ _ _ _ r h => by simp [impl_IsGroup.j3] at h, fun _ _ _ _ _ _ _ r h => by simp [impl_IsGroup.l2] at h, fun _ _ _ _ _ _ _ _ _ _ r h => by simp [impl_IsGroup.l3] at h⟩
 | k + 1 => by
  obtain ⟨ih0, ih1, ih2, ih3, ih4, ih5⟩ := impl_IsGroup.mono_l k
  refine ⟨?_, ?_, ?_, ?_, ?_, ?_⟩
  ·intro y0 y1 y2
   unfold impl_IsGroup.j0
   repeat' first
   | (with_reducible exact ih0 _ _ _)
   | (with_reducible exact ih1 _ _ _ _ _)
   | (with_reducible exact ih2 _ _ _ _)
   | (with_reducible exact ih3 _ _ _ _ _ _)
   | (with_reducible exact ih4 _ _ _ _ _ _ _)
   | (with_reducible exact ih5 _ _ _ _ _ _ _ _ _ _)
   | (with_reducible exact impl_areIn.mono _ _ _)
   | (with_reducible exact slices_Contains_int64_int64.mono _ _ _)
   | (with_reducible exact LeO.refl _)
   | (with_reducible exact LeO.none _)
   | (with_reducible refine LeO.ite ?_ ?_)
   | (with_reducible refine LeO.bind ?_ (fun _ => ?_))
   | exact ih0 _ _ _
   | exact ih1 _ _ _ _ _
   | exact ih2 _ _ _ _
   | exact ih3 _ _ _ _ _ _
   | exact ih4 _ _ _ _ _ _ _
   | exact ih5 _ _ _ _ _ _ _ _ _ _
   | exact impl_areIn.mono _ _ _
   | exact slices_Contains_int64_int64.mono _ _ _
   | exact LeO.none _
   | refine LeO.ite ?_ ?_
   | refine LeO.bind ?_ (fun _ => ?_)
  ·intro y0 y1 y2 y3 y4
   unfold impl_IsGroup.l0
   repeat' first
   | (with_reducible exact ih0 _ _ _)
   | (with_reducible exact ih1 _ _ _ _ _)
   | (with_reducible exact ih2 _ _ _ _)
   | (with_reducible exact ih3 _ _ _ _ _ _)
   | (with_reducible exact ih4 _ _ _ _ _ _ _)
   | (with_reducible exact ih5 _ _ _ _ _ _ _ _ _ _)
   | (with_reducible exact impl_areIn.mono _ _ _)
   | (with_reducible exact slices_Contains_int64_int64.mono _ _ _)
   | (with_reducible exact LeO.refl _)
   | (with_reducible exact LeO.none _)
   | (with_reducible refine LeO.ite ?_ ?_)
   | (with_reducible refine LeO.bind ?_ (fun _ => ?_))
   | exact ih0 _ _ _
   | exact ih1 _ _ _ _ _
   | exact ih2 _ _ _ _
   | exact ih3 _ _ _ _ _ _
   | exact ih4 _ _ _ _ _ _ _
   | exact ih5 _ _ _ _ _ _ _ _ _ _
   | exact impl_areIn.mono _ _ _
   | exact slices_Contains_int64_int64.mono _ _ _
   | exact LeO.none _
   | refine LeO.ite ?_ ?_
   | refine LeO.bind ?_ (fun _ => ?_)
  ·intro y0 y1 y2 y3
   unfold impl_IsGroup.l1
   repeat' first
   | (with_reducible exact ih0 _ _ _)
   | (with_reducible exact ih1 _ _ _ _ _)
   | (with_reducible exact ih2 _ _ _ _)
   | (with_reducible exact ih3 _ _ _ _ _ _)
   | (with_reducible exact ih4 _ _ _ _ _ _ _)
   | (with_reducible exact ih5 _ _ _ _ _ _ _ _ _ _)
   | (with_reducible exact impl_areIn.mono _ _ _)
   | (with_reducible exact slices_Contains_int64_int64.mono _ _ _)
   | (with_reducible exact LeO.refl _)
   | (with_reducible exact LeO.none _)
   | (with_reducible refine LeO.ite ?_ ?_)
   | (with_reducible refine LeO.bind ?_ (fun _ => ?_))
   | exact ih0 _ _ _
   | exact ih1 _ _ _ _ _
   | exact ih2 _ _ _ _
   | exact ih3 _ _ _ _ _ _
   | exact ih4 _ _ _ _ _ _ _
   | exact ih5 _ _ _ _ _ _ _ _ _ _
   | exact impl_areIn.mono _ _ _
   | exact slices_Contains_int64_int64.mono _ _ _
   | exact LeO.none _
   | refine LeO.ite ?_ ?_
   | refine LeO.bind ?_ (fun _ => ?_)
  ·intro y0 y1 y2 y3 y4 y5
   unfold impl_IsGroup.j3
   repeat' first
   | (with_reducible exact ih0 _ _ _)
   | (with_reducible exact ih1 _ _ _ _ _)
   | (with_reducible exact ih2 _ _ _ _)
   | (with_reducible exact ih3 _ _ _ _ _ _)
   | (with_reducible exact ih4 _ _ _ _ _ _ _)
   | (with_reducible exact ih5 _ _ _ _ _ _ _ _ _ _)
   | (with_reducible exact impl_areIn.mono _ _ _)
   | (with_reducible exact slices_Contains_int64_int64.mono _ _ _)
   | (with_reducible exact LeO.refl _)
   | (with_reducible exact LeO.none _)
   | (with_reducible refine LeO.ite ?_ ?_)
   | (with_reducible refine LeO.bind ?_ (fun _ => ?_))
   | exact ih0 _ _ _
   | exact ih1 _ _ _ _ _
   | exact ih2 _ _ _ _
   | exact ih3 _ _ _ _ _ _
   | exact ih4 _ _ _ _ _ _ _
   | exact ih5 _ _ _ _ _ _ _ _ _ _
   | exact impl_areIn.mono _ _ _
   | exact slices_Contains_int64_int64.mono _ _ _
   | exact LeO.none _
   | refine LeO.ite ?_ ?_
   | refine LeO.bind ?_ (fun _ => ?_)
  ·intro y0 y1 y2 y3 y4 y5 y6
   unfold impl_IsGroup.l2
   repeat' first
   | (with_reducible exact ih0 _ _ _)
   | (with_reducible exact ih1 _ _ _ _ _)
   | (with_reducible exact ih2 _ _ _ _)
   | (with_reducible exact ih3 _ _ _ _ _ _)
   | (with_reducible exact ih4 _ _ _ _ _ _ _)
   | (with_reducible exact ih5 _ _ _ _ _ _ _ _ _ _)
   | (with_reducible exact impl_areIn.mono _ _ _)
   | (with_reducible exact slices_Contains_int64_int64.mono _ _ _)
   | (with_reducible exact LeO.refl _)
   | (with_reducible exact LeO.none _)
   | (with_reducible refine LeO.ite ?_ ?_)
   | (with_reducible refine LeO.bind ?_ (fun _ => ?_))
   | exact ih0 _ _ _
   | exact ih1 _ _ _ _ _
   | exact ih2 _ _ _ _
   | exact ih3 _ _ _ _ _ _
   | exact ih4 _ _ _ _ _ _ _
   | exact ih5 _ _ _ _ _ _ _ _ _ _
   | exact impl_areIn.mono _ _ _
   | exact slices_Contains_int64_int64.mono _ _ _
   | exact LeO.none _
   | refine LeO.ite ?_ ?_
   | refine LeO.bind ?_ (fun _ => ?_)
  ·intro y0 y1 y2 y3 y4 y5 y6 y7 y8 y9
   unfold impl_IsGroup.l3
   repeat' first
   | (with_reducible exact ih0 _ _ _)
   | (with_reducible exact ih1 _ _ _ _ _)
   | (with_reducible exact ih2 _ _ _ _)
   | (with_reducible exact ih3 _ _ _ _ _ _)
   | (with_reducible exact ih4 _ _ _ _ _ _ _)
   | (with_reducible exact ih5 _ _ _ _ _ _ _ _ _ _)
   | (with_reducible exact impl_areIn.mono _ _ _)
   | (with_reducible exact slices_Contains_int64_int64.mono _ _ _)
   | (with_reducible exact LeO.refl _)
   | (with_reducible exact LeO.none _)
   | (with_reducible refine LeO.ite ?_ ?_)
   | (with_reducible refine LeO.bind ?_ (fun _ => ?_))
   | exact ih0 _ _ _
   | exact ih1 _ _ _ _ _
   | exact ih2 _ _ _ _
   | exact ih3 _ _ _ _ _ _
   | exact ih4 _ _ _ _ _ _ _
   | exact ih5 _ _ _ _ _ _ _ _ _ _
   | exact impl_areIn.mono _ _ _
   | exact slices_Contains_int64_int64.mono _ _ _
   | exact LeO.none _
   | refine LeO.ite ?_ ?_
   | refine LeO.bind ?_ (fun _ => ?_)
theorem impl_IsGroup.mono : ∀ a0 k, LeO (impl_IsGroup.f k a0) (impl_IsGroup.f (k + 1) a0) := by
 intro a0 k
 obtain ⟨ih0, ih1, ih2, ih3, ih4, ih5⟩ := impl_IsGroup.mono_l k
 unfold impl_IsGroup.f
 repeat' first
   | (with_reducible exact ih0 _ _ _)
   | (with_reducible exact LeO.refl _)
   | (with_reducible refine LeO.ite ?_ ?_)
   | (with_reducible refine LeO.bind ?_ (fun _ => ?_))
set_option maxHeartbeats 8000000 in
set_option maxRecDepth 100000 in
theorem impl_IsGroup.calls (k : Nat) (A0_0 : Option Addr) (c0_0 : Nat) (l0_0 : List (List Int)) (r : Bool) (w : World) (hr0_0 : Kd.C (Kd.slice 2 (Kd.int .i64)) w A0_0 l0_0.length l0_0) (hc0_0 : l0_0.length ≤ c0_0) (h : impl_IsGroup.f k l0_0 = some r) :
  Calls Try.prog 148 #[.agg #[.slice A0_0 l0_0.length c0_0]] w fun e w' => e = .returned (.bool r) ∧ Below w.heap.size w w' := by
 have hu33 := Try.underlying33
 have hu22 := Try.underlying22
 have hu25 := Try.underlying25
 have hu2 := Try.underlying2
 have HR0_0 := Aside0.mk hr0_0
 have HC0_0 := Aside0.mk hc0_0
 clear hr0_0 hc0_0
 have HB := Aside0.mk (Below.refl w.heap.size w)
 have H : ((impl_order.f l0_0).bind fun t194 => (if t194 < 1 then (impl_IsGroup.j0 k t194 true l0_0) else (impl_IsGroup.j0 k t194 (decide (t194 > 8)) l0_0))) = some r := h
 clear h
 replace H := Option.bind_eq_some_iff.mp H
 obtain ⟨t194, A20, H⟩ := H
 replace H : (if t194 < 1 then (impl_IsGroup.j0 k t194 true l0_0) else (impl_IsGroup.j0 k t194 (decide (t194 > 8)) l0_0)) = some r := H
 have A2 := Aside0.mk A20
 clear A20
 have HC3 := Aside0.mk H
 clear H
 go_enter Try.func148, Try.ntmps148
 go_upto_region 2 with (first | ((with_reducible refine gate_dst (N := 1) rfl ?_); refine box_event ?hg (N := 1) ?hd (cs := #[.slice A0_0 l0_0.length c0_0]) (t := 33) ?hr ?_; (case hd => rfl); (case hg => rfl); (case hr => (go_simp; done)); intro gb193 hg w4 hbox hb; have BK193 := Aside0.mk (hbox); have GW193 := Aside0.mk (geg hg (below_size HB.out)); have GE193 := Aside0.mk (geg hg (below_size HB.out)); replace HB := Aside0.mk (below_step HB.out hb); clear hb hbox hg; have hcz5_0 := bc0 BK193.out; have hfz5_0 := blk_frozen BK193.out 0) | (go_at_call 107; (with_reducible refine (impl_order.calls _ _ l0_0 t194 _ ?side1 ?side2 A2.out).mono ?_); (case side1 => exact (Kd.C_below HR0_0.out HB.out)); (case side2 => exact HC0_0.out); rintro e w6 ⟨rfl, hb⟩; replace BK193 := Aside0.mk (blk_below BK193.out hb); replace HB := Aside0.mk (below_step HB.out hb); clear hb))
 repeat (go_quiet ((go_at_call 107; (with_reducible refine (impl_order.calls _ _ l0_0 t194 _ ?side1 ?side2 A2.out).mono ?_); (case side1 => repeat (first | exact (Kd.C_below HR0_0.out HB.out) | (with_reducible refine Kd.C_alloc ?_ _) | (with_reducible refine Kd.C_drewN ?_ _) | (with_reducible refine Kd.C_drew ?_))); (case side2 => exact HC0_0.out); rintro e w6 ⟨rfl, hb⟩; replace BK193 := Aside0.mk (blk_below BK193.out hb); replace HB := Aside0.mk (below_step (by repeat (first | (with_reducible exact HB.out) | exact HB.out)) hb); (try clear hb); (try clear hb2); (try clear hk); (try clear hi))); go_upto_region 2 with ((go_at_call 107; (with_reducible refine (impl_order.calls _ _ l0_0 t194 _ ?side1 ?side2 A2.out).mono ?_); (case side1 => repeat (first | exact (Kd.C_below HR0_0.out HB.out) | (with_reducible refine Kd.C_alloc ?_ _) | (with_reducible refine Kd.C_drewN ?_ _) | (with_reducible refine Kd.C_drew ?_))); (case side2 => exact HC0_0.out); rintro e w6 ⟨rfl, hb⟩; replace BK193 := Aside0.mk (blk_below BK193.out hb); replace HB := Aside0.mk (below_step (by repeat (first | (with_reducible exact HB.out) | exact HB.out)) hb); (try clear hb); (try clear hb2); (try clear hk); (try clear hi))))
 go_cut [16] (fun v16 wc => ∃ (kq : Nat) (x16_2 : Bool), v16 = .bool x16_2 ∧ Aside0 (impl_IsGroup.j0 kq t194 x16_2 l0_0 = some r) ∧ Aside0 (kq ≤ k) ∧ Aside0 (wc.heap[gb193]? = some (.cells #[(.slice A0_0 l0_0.length c0_0)] 33 (0, 0))) ∧ Aside0 (Below w.heap.size w wc))
 case first =>
  have H := HC3.out
  clear HC3
  by_cases c7 : t194 < 1
  ·rw [if_pos c7] at H
   have c7b0 : decide (t194 < 1) = true := decide_eq_true c7
   clear c7
   have H' := Aside0.mk H
   clear H
   go_wp2
   repeat (go_quiet (fail); try go_wp2)
   go_meet
   case rel => exact ⟨_, (true), (by rfl), H', ⟨by omega⟩, ⟨by exact BK193.out⟩, ⟨by exact HB.out⟩⟩
  ·rw [if_neg c7] at H
   have c7b0 : decide (t194 < 1) = false := decide_eq_false c7
   clear c7
   have H' := Aside0.mk H
   clear H
   go_wp2
   repeat (go_quiet (fail); try go_wp2)
   go_meet
   case rel => exact ⟨_, (decide (t194 > 8)), (by rfl), H', ⟨by omega⟩, ⟨by exact BK193.out⟩, ⟨by exact HB.out⟩⟩
 case rest =>
  clear HC3
  clear hcz5_0
  clear hfz5_0
  obtain ⟨kq, x16_2, rfl, HA, HJ2, BK193, HB⟩ := hcut
  cases kq with
  | zero => exact absurd HA.out (by simp [impl_IsGroup.j0])
  | succ kj2 =>
   have H := HA.out
   clear HA
   simp only [impl_IsGroup.j0] at H
   by_cases c8 : x16_2 = true
   ·subst c8
    have H1 : (some false) = some r := by rw [if_pos rfl] at H; exact H
    clear H
    have H := H1
    clear H1
    obtain rfl := Option.some.inj H
    go_wp2
    repeat (go_quiet (fail); try go_wp2)
    go_ret
    exact ⟨by rfl, by exact HB.out⟩
   ·replace c8 := Bool.eq_false_iff.mpr c8
    subst c8
    have H1 : (impl_IsGroup.l0 kj2 t194 l0_0 (l0_0.length : Int) 0 l0_0) = some r := by rw [if_neg (show ¬ (false = true) by decide)] at H; exact H
    clear H
    have H := H1
    clear H1
    have H' := Aside0.mk H
    clear H
    have hcz9_0 := bc0 BK193.out
    have hfz9_0 := blk_frozen BK193.out 0
    go_wp2
    repeat (go_quiet (fail); try go_wp2)
    go_loopg [20] kj2 (fun kq v20 w' => ∃ (x20_2 : Int), v20 = .int .i64 x20_2 ∧ Aside0 (impl_IsGroup.l0 kq t194 l0_0 (l0_0.length : Int) x20_2 l0_0 = some r) ∧ Aside0 (kq ≤ kj2) ∧ Aside0 (w'.heap[gb193]? = some (.cells #[(.slice A0_0 l0_0.length c0_0)] 33 (0, 0))) ∧ Aside0 (Below w.heap.size w w'))
    case atStart => exact ⟨(0), (by rfl), H', ⟨Nat.le_refl _⟩, ⟨by exact BK193.out⟩, ⟨by exact HB.out⟩⟩
    case round =>
     clear H'
     clear hcz9_0
     clear hfz9_0
     obtain ⟨x20_2, rfl, HA, HK2, BK193, HB⟩ := hrel
     cases gk with
     | zero => exact absurd HA.out (by simp [impl_IsGroup.l0])
     | succ k2 =>
      have H := HA.out
      clear HA
      simp only [impl_IsGroup.l0] at H
      by_cases c10 : x20_2 < (l0_0.length : Int)
      ·rw [if_pos c10] at H
       have c10b0 : decide (x20_2 < (l0_0.length : Int)) = true := decide_eq_true c10
       clear c10
       by_cases c11 : 0 ≤ x20_2
       ·rw [if_pos c11] at H
        have c11b0 : decide (0 ≤ x20_2) = true := decide_eq_true c11
        clear c11
        by_cases c12 : x20_2 < (l0_0.length : Int)
        ·rw [if_pos c12] at H
         have c12b0 : decide (x20_2 < (l0_0.length : Int)) = true := decide_eq_true c12
         clear c12
         by_cases c13 : ((rd_L1 l0_0 x20_2).length : Int) = t194
         ·rw [if_pos c13] at H
          have c13b0 : (((rd_L1 l0_0 x20_2).length : Int) == t194) = true := beq_iff_eq.mpr c13
          have c13b1 : (((rd_L1 l0_0 x20_2).length : Int) != t194) = false := bne_eq_false_iff_eq.mpr c13
          clear c13
          replace H := Option.bind_eq_some_iff.mp H
          obtain ⟨t196, A140, H⟩ := H
          replace H : (if t196 = true then (impl_IsGroup.l0 k2 t194 l0_0 (l0_0.length : Int) (wrap64 (x20_2 + 1)) l0_0) else (some false)) = some r := H
          have A14 := Aside0.mk A140
          clear A140
          by_cases c15 : t196 = true
          ·subst c15
           have H1 : (impl_IsGroup.l0 k2 t194 l0_0 (l0_0.length : Int) (wrap64 (x20_2 + 1)) l0_0) = some r := by rw [if_pos rfl] at H; exact H
           clear H
           have H := H1
           clear H1
           have H' := Aside0.mk H
           clear H
           have p195 : 0 ≤ (x20_2 : Int) := of_decide_eq_true ‹_›
           have q195 : x20_2 < (l0_0.length : Int) := of_decide_eq_true ‹_›
           obtain ⟨ad195, A195_0, c195_0, e195, hx195_0, hl195_0, hi195_0⟩ := at_L1 HR0_0.out x20_2 p195 q195
           cases e195
           replace hx195_0 := (HB.out.cell (World.block_lt_of_cell? w _ hx195_0)).trans hx195_0
           have HR195_0 := Aside0.mk hi195_0
           have HC195_0 := Aside0.mk hl195_0
           clear hi195_0 hl195_0
           replace p195 := eq_true p195
           replace q195 := eq_true q195
           go_wp2_with ((go_at_call 128; (with_reducible refine (impl_areIn.calls k2 t194 _ _ (rd_L1 l0_0 x20_2) true _ ?side1 ?side2 A14.out).mono ?_); (case side1 => exact (Kd.C_below HR195_0.out HB.out)); (case side2 => exact HC195_0.out); rintro e w' ⟨rfl, ⟨nd, rfl⟩⟩))
           repeat (go_quiet ((go_at_call 128; (with_reducible refine (impl_areIn.calls k2 t194 _ _ (rd_L1 l0_0 x20_2) true _ ?side1 ?side2 A14.out).mono ?_); (case side1 => repeat (first | exact (Kd.C_below HR195_0.out HB.out) | (with_reducible refine Kd.C_alloc ?_ _) | (with_reducible refine Kd.C_drewN ?_ _) | (with_reducible refine Kd.C_drew ?_))); (case side2 => exact HC195_0.out); rintro e w' ⟨rfl, ⟨nd, rfl⟩⟩; (try exact ⟨rfl, _, World.drewN_drewN _ _ _⟩))); try go_wp2_with ((go_at_call 128; (with_reducible refine (impl_areIn.calls k2 t194 _ _ (rd_L1 l0_0 x20_2) true _ ?side1 ?side2 A14.out).mono ?_); (case side1 => repeat (first | exact (Kd.C_below HR195_0.out HB.out) | (with_reducible refine Kd.C_alloc ?_ _) | (with_reducible refine Kd.C_drewN ?_ _) | (with_reducible refine Kd.C_drew ?_))); (case side2 => exact HC195_0.out); rintro e w' ⟨rfl, ⟨nd, rfl⟩⟩; (try exact ⟨rfl, _, World.drewN_drewN _ _ _⟩))))
           go_roundg k2
           case measure => have := HJ2.out; have := HK2.out; omega
           case rel => exact ⟨(wrap64 (x20_2 + 1)), (by rfl), H', ⟨by have := HJ2.out; have := HK2.out; omega⟩, ⟨by (with_reducible repeat (refine blk_drewN ?_ _)); exact BK193.out⟩, ⟨by repeat ((with_reducible first | exact HB.out | apply pw_below_drewN))⟩⟩
          ·replace c15 := Bool.eq_false_iff.mpr c15
           subst c15
           have H1 : (some false) = some r := by rw [if_neg (show ¬ (false = true) by decide)] at H; exact H
           clear H
           have H := H1
           clear H1
           obtain rfl := Option.some.inj H
           have p195 : 0 ≤ (x20_2 : Int) := of_decide_eq_true ‹_›
           have q195 : x20_2 < (l0_0.length : Int) := of_decide_eq_true ‹_›
           obtain ⟨ad195, A195_0, c195_0, e195, hx195_0, hl195_0, hi195_0⟩ := at_L1 HR0_0.out x20_2 p195 q195
           cases e195
           replace hx195_0 := (HB.out.cell (World.block_lt_of_cell? w _ hx195_0)).trans hx195_0
           have HR195_0 := Aside0.mk hi195_0
           have HC195_0 := Aside0.mk hl195_0
           clear hi195_0 hl195_0
           replace p195 := eq_true p195
           replace q195 := eq_true q195
           go_wp2_with ((go_at_call 128; (with_reducible refine (impl_areIn.calls k2 t194 _ _ (rd_L1 l0_0 x20_2) false _ ?side1 ?side2 A14.out).mono ?_); (case side1 => exact (Kd.C_below HR195_0.out HB.out)); (case side2 => exact HC195_0.out); rintro e w' ⟨rfl, ⟨nd, rfl⟩⟩))
           repeat (go_quiet ((go_at_call 128; (with_reducible refine (impl_areIn.calls k2 t194 _ _ (rd_L1 l0_0 x20_2) false _ ?side1 ?side2 A14.out).mono ?_); (case side1 => repeat (first | exact (Kd.C_below HR195_0.out HB.out) | (with_reducible refine Kd.C_alloc ?_ _) | (with_reducible refine Kd.C_drewN ?_ _) | (with_reducible refine Kd.C_drew ?_))); (case side2 => exact HC195_0.out); rintro e w' ⟨rfl, ⟨nd, rfl⟩⟩; (try exact ⟨rfl, _, World.drewN_drewN _ _ _⟩))); try go_wp2_with ((go_at_call 128; (with_reducible refine (impl_areIn.calls k2 t194 _ _ (rd_L1 l0_0 x20_2) false _ ?side1 ?side2 A14.out).mono ?_); (case side1 => repeat (first | exact (Kd.C_below HR195_0.out HB.out) | (with_reducible refine Kd.C_alloc ?_ _) | (with_reducible refine Kd.C_drewN ?_ _) | (with_reducible refine Kd.C_drew ?_))); (case side2 => exact HC195_0.out); rintro e w' ⟨rfl, ⟨nd, rfl⟩⟩; (try exact ⟨rfl, _, World.drewN_drewN _ _ _⟩))))
           go_ret
           exact ⟨by rfl, by repeat ((with_reducible first | exact HB.out | apply pw_below_drewN))⟩
         ·rw [if_neg c13] at H
          have c13b0 : (((rd_L1 l0_0 x20_2).length : Int) == t194) = false := beq_eq_false_iff_ne.mpr c13
          have c13b1 : (((rd_L1 l0_0 x20_2).length : Int) != t194) = true := bne_iff_ne.mpr c13
          obtain rfl := Option.some.inj H
          have p195 : 0 ≤ (x20_2 : Int) := of_decide_eq_true ‹_›
          have q195 : x20_2 < (l0_0.length : Int) := of_decide_eq_true ‹_›
          obtain ⟨ad195, A195_0, c195_0, e195, hx195_0, hl195_0, hi195_0⟩ := at_L1 HR0_0.out x20_2 p195 q195
          cases e195
          replace hx195_0 := (HB.out.cell (World.block_lt_of_cell? w _ hx195_0)).trans hx195_0
          have HR195_0 := Aside0.mk hi195_0
          have HC195_0 := Aside0.mk hl195_0
          clear hi195_0 hl195_0
          replace p195 := eq_true p195
          replace q195 := eq_true q195
          go_wp2
          repeat (go_quiet (fail); try go_wp2)
          go_ret
          exact ⟨by rfl, by exact HB.out⟩
        ·rw [if_neg c12] at H
         exact absurd H (by simp)
       ·rw [if_neg c11] at H
        exact absurd H (by simp)
      ·rw [if_neg c10] at H
       have c10b0 : decide (x20_2 < (l0_0.length : Int)) = false := decide_eq_false c10
       clear c10
       have H' := Aside0.mk H
       clear H
       go_wp2
       repeat (go_quiet (fail); try go_wp2)
       go_loopg [36] k2 (fun kq v36 w' => ∃ (x36_3 : Int), v36 = .int .i64 x36_3 ∧ Aside0 (impl_IsGroup.l1 kq t194 t194 x36_3 l0_0 = some r) ∧ Aside0 (kq ≤ k2) ∧ Aside0 (w'.heap[gb193]? = some (.cells #[(.slice A0_0 l0_0.length c0_0)] 33 (0, 0))) ∧ Aside0 (Below w.heap.size w w'))
       case atStart => exact ⟨(0), (by rfl), H', ⟨Nat.le_refl _⟩, ⟨by exact BK193.out⟩, ⟨by exact HB.out⟩⟩
       case round =>
        clear H'
        clear c10b0
        obtain ⟨x36_3, rfl, HA, HK3, BK193, HB⟩ := hrel
        cases gk with
        | zero => exact absurd HA.out (by simp [impl_IsGroup.l1])
        | succ k3 =>
         have H := HA.out
         clear HA
         simp only [impl_IsGroup.l1] at H
         by_cases c16 : x36_3 < t194
         ·rw [if_pos c16] at H
          have c16b0 : decide (x36_3 < t194) = true := decide_eq_true c16
          clear c16
          have HC17 := Aside0.mk H
          clear H
          go_upto_region 13 with (fail)
          repeat (go_quiet (fail); go_upto_region 13 with (fail))
          go_cut [67] (fun v67 wc => ∃ (kq : Nat) (x67_16 : Bool), v67 = .bool x67_16 ∧ Aside0 (impl_IsGroup.j3 kq t194 x36_3 t194 x36_3 x67_16 l0_0 = some r) ∧ Aside0 (kq ≤ k3) ∧ Aside0 (wc.heap[gb193]? = some (.cells #[(.slice A0_0 l0_0.length c0_0)] 33 (0, 0))) ∧ Aside0 (Below w.heap.size w wc))
          case first =>
           have H := HC17.out
           clear HC17
           by_cases c18 : 0 < (l0_0.length : Int)
           ·rw [if_pos c18] at H
            have c18b0 : decide (0 < (l0_0.length : Int)) = true := decide_eq_true c18
            have c18b1 : decide (0 < l0_0.length) = true := decide_eq_true (by omega)
            clear c18
            by_cases c19 : 0 ≤ x36_3
            ·rw [if_pos c19] at H
             have c19b0 : decide (0 ≤ x36_3) = true := decide_eq_true c19
             clear c19
             by_cases c20 : x36_3 < ((rd_L1 l0_0 0).length : Int)
             ·rw [if_pos c20] at H
              have c20b0 : decide (x36_3 < ((rd_L1 l0_0 0).length : Int)) = true := decide_eq_true c20
              clear c20
              by_cases c21 : (rd (rd_L1 l0_0 0) x36_3) = x36_3
              ·rw [if_pos c21] at H
               have c21b0 : ((rd (rd_L1 l0_0 0) x36_3) == x36_3) = true := beq_iff_eq.mpr c21
               have c21b1 : ((rd (rd_L1 l0_0 0) x36_3) != x36_3) = false := bne_eq_false_iff_eq.mpr c21
               clear c21
               by_cases c22 : x36_3 < (l0_0.length : Int)
               ·rw [if_pos c22] at H
                have c22b0 : decide (x36_3 < (l0_0.length : Int)) = true := decide_eq_true c22
                clear c22
                by_cases c23 : 0 < ((rd_L1 l0_0 x36_3).length : Int)
                ·rw [if_pos c23] at H
                 have c23b0 : decide (0 < ((rd_L1 l0_0 x36_3).length : Int)) = true := decide_eq_true c23
                 have c23b1 : decide (0 < (rd_L1 l0_0 x36_3).length) = true := decide_eq_true (by omega)
                 clear c23
                 by_cases c24 : (rd (rd_L1 l0_0 x36_3) 0) = x36_3
                 ·rw [if_pos c24] at H
                  have c24b0 : ((rd (rd_L1 l0_0 x36_3) 0) == x36_3) = true := beq_iff_eq.mpr c24
                  have c24b1 : ((rd (rd_L1 l0_0 x36_3) 0) != x36_3) = false := bne_eq_false_iff_eq.mpr c24
                  clear c24
                  replace H := Option.bind_eq_some_iff.mp H
                  obtain ⟨t202, A250, H⟩ := H
                  replace H : (impl_IsGroup.j3 k3 t194 x36_3 t194 x36_3 (!t202) l0_0) = some r := H
                  have A25 := Aside0.mk A250
                  clear A250
                  have H' := Aside0.mk H
                  clear H
                  have hcz26_0 := bc0 BK193.out
                  have hfz26_0 := blk_frozen BK193.out 0
                  have p197 : 0 ≤ (0 : Int) := (by omega)
                  have q197 : 0 < (l0_0.length : Int) := of_decide_eq_true ‹_›
                  obtain ⟨ad197, A197_0, c197_0, e197, hx197_0, hl197_0, hi197_0⟩ := at_L1 HR0_0.out 0 p197 q197
                  cases e197
                  have qi197 : (0 < l0_0.length) = True := eq_true (by omega)
                  (rw [show ((0 : Int)).toNat = 0 from rfl] at hx197_0)
                  (rw [Addr.add_zero'] at hx197_0)
                  replace hx197_0 := (HB.out.cell (World.block_lt_of_cell? w _ hx197_0)).trans hx197_0
                  have HR197_0 := Aside0.mk hi197_0
                  have HC197_0 := Aside0.mk hl197_0
                  clear hi197_0 hl197_0
                  replace p197 := eq_true p197
                  replace q197 := eq_true q197
                  have p198 : 0 ≤ (x36_3 : Int) := of_decide_eq_true ‹_›
                  have q198 : x36_3 < ((rd_L1 l0_0 0).length : Int) := of_decide_eq_true ‹_›
                  obtain ⟨ad198, e198, hx198_0⟩ := Kd.at_int HR197_0.out x36_3 p198 q198
                  cases e198
                  replace hx198_0 := (HB.out.cell (World.block_lt_of_cell? w _ hx198_0)).trans hx198_0
                  replace p198 := eq_true p198
                  replace q198 := eq_true q198
                  have p199 : 0 ≤ (x36_3 : Int) := of_decide_eq_true ‹_›
                  have q199 : x36_3 < (l0_0.length : Int) := of_decide_eq_true ‹_›
                  obtain ⟨ad199, A199_0, c199_0, e199, hx199_0, hl199_0, hi199_0⟩ := at_L1 HR0_0.out x36_3 p199 q199
                  obtain rfl : ad197 = ad199 := (by injection e199)
                  replace hx199_0 := (HB.out.cell (World.block_lt_of_cell? w _ hx199_0)).trans hx199_0
                  have HR199_0 := Aside0.mk hi199_0
                  have HC199_0 := Aside0.mk hl199_0
                  clear hi199_0 hl199_0
                  replace p199 := eq_true p199
                  replace q199 := eq_true q199
                  have p200 : 0 ≤ (0 : Int) := (by omega)
                  have q200 : 0 < ((rd_L1 l0_0 x36_3).length : Int) := of_decide_eq_true ‹_›
                  obtain ⟨ad200, e200, hx200_0⟩ := Kd.at_int HR199_0.out 0 p200 q200
                  cases e200
                  have qi200 : (0 < (rd_L1 l0_0 x36_3).length) = True := eq_true (by omega)
                  (rw [show ((0 : Int)).toNat = 0 from rfl] at hx200_0)
                  (rw [Addr.add_zero'] at hx200_0)
                  replace hx200_0 := (HB.out.cell (World.block_lt_of_cell? w _ hx200_0)).trans hx200_0
                  replace p200 := eq_true p200
                  replace q200 := eq_true q200
                  have p201 : 0 ≤ (x36_3 : Int) := of_decide_eq_true ‹_›
                  have q201 : x36_3 < (l0_0.length : Int) := of_decide_eq_true ‹_›
                  obtain ⟨ad201, A201_0, c201_0, e201, hx201_0, hl201_0, hi201_0⟩ := at_L1 HR0_0.out x36_3 p201 q201
                  obtain rfl : ad197 = ad201 := (by injection e201)
                  replace hx201_0 := (HB.out.cell (World.block_lt_of_cell? w _ hx201_0)).trans hx201_0
                  have HR201_0 := Aside0.mk hi201_0
                  have HC201_0 := Aside0.mk hl201_0
                  clear hi201_0 hl201_0
                  replace p201 := eq_true p201
                  replace q201 := eq_true q201
                  have ea_ := Option.some.inj (hx199_0.symm.trans hx201_0)
                  injection ea_ with ea_ en_ ec_
                  subst ea_
                  subst ec_
                  clear en_
                  go_wp2_with ((go_at_call 175; (with_reducible refine (slices_Contains_int64_int64.calls k3 _ _ (rd_L1 l0_0 x36_3) 0 t202 _ ?side1 ?side2 A25.out).mono ?_); (case side1 => exact (Kd.C_below HR201_0.out HB.out)); (case side2 => exact HC201_0.out); rintro e w' ⟨rfl, ⟨nd, rfl⟩⟩))
                  repeat (go_quiet ((go_at_call 175; (with_reducible refine (slices_Contains_int64_int64.calls k3 _ _ (rd_L1 l0_0 x36_3) 0 t202 _ ?side1 ?side2 A25.out).mono ?_); (case side1 => repeat (first | exact (Kd.C_below HR201_0.out HB.out) | (with_reducible refine Kd.C_alloc ?_ _) | (with_reducible refine Kd.C_drewN ?_ _) | (with_reducible refine Kd.C_drew ?_))); (case side2 => exact HC201_0.out); rintro e w' ⟨rfl, ⟨nd, rfl⟩⟩; (try exact ⟨rfl, _, World.drewN_drewN _ _ _⟩))); try go_wp2_with ((go_at_call 175; (with_reducible refine (slices_Contains_int64_int64.calls k3 _ _ (rd_L1 l0_0 x36_3) 0 t202 _ ?side1 ?side2 A25.out).mono ?_); (case side1 => repeat (first | exact (Kd.C_below HR201_0.out HB.out) | (with_reducible refine Kd.C_alloc ?_ _) | (with_reducible refine Kd.C_drewN ?_ _) | (with_reducible refine Kd.C_drew ?_))); (case side2 => exact HC201_0.out); rintro e w' ⟨rfl, ⟨nd, rfl⟩⟩; (try exact ⟨rfl, _, World.drewN_drewN _ _ _⟩))))
                  go_meet
                  case rel => exact ⟨_, (!t202), (by rfl), H', ⟨by have := HJ2.out; have := HK2.out; have := HK3.out; omega⟩, ⟨by (with_reducible repeat (refine blk_drewN ?_ _)); exact BK193.out⟩, ⟨by repeat ((with_reducible first | exact HB.out | apply pw_below_drewN))⟩⟩
                 ·rw [if_neg c24] at H
                  have c24b0 : ((rd (rd_L1 l0_0 x36_3) 0) == x36_3) = false := beq_eq_false_iff_ne.mpr c24
                  have c24b1 : ((rd (rd_L1 l0_0 x36_3) 0) != x36_3) = true := bne_iff_ne.mpr c24
                  have H' := Aside0.mk H
                  clear H
                  have hcz27_0 := bc0 BK193.out
                  have hfz27_0 := blk_frozen BK193.out 0
                  have p197 : 0 ≤ (0 : Int) := (by omega)
                  have q197 : 0 < (l0_0.length : Int) := of_decide_eq_true ‹_›
                  obtain ⟨ad197, A197_0, c197_0, e197, hx197_0, hl197_0, hi197_0⟩ := at_L1 HR0_0.out 0 p197 q197
                  cases e197
                  have qi197 : (0 < l0_0.length) = True := eq_true (by omega)
                  (rw [show ((0 : Int)).toNat = 0 from rfl] at hx197_0)
                  (rw [Addr.add_zero'] at hx197_0)
                  replace hx197_0 := (HB.out.cell (World.block_lt_of_cell? w _ hx197_0)).trans hx197_0
                  have HR197_0 := Aside0.mk hi197_0
                  have HC197_0 := Aside0.mk hl197_0
                  clear hi197_0 hl197_0
                  replace p197 := eq_true p197
                  replace q197 := eq_true q197
                  have p198 : 0 ≤ (x36_3 : Int) := of_decide_eq_true ‹_›
                  have q198 : x36_3 < ((rd_L1 l0_0 0).length : Int) := of_decide_eq_true ‹_›
                  obtain ⟨ad198, e198, hx198_0⟩ := Kd.at_int HR197_0.out x36_3 p198 q198
                  cases e198
                  replace hx198_0 := (HB.out.cell (World.block_lt_of_cell? w _ hx198_0)).trans hx198_0
                  replace p198 := eq_true p198
                  replace q198 := eq_true q198
                  have p199 : 0 ≤ (x36_3 : Int) := of_decide_eq_true ‹_›
                  have q199 : x36_3 < (l0_0.length : Int) := of_decide_eq_true ‹_›
                  obtain ⟨ad199, A199_0, c199_0, e199, hx199_0, hl199_0, hi199_0⟩ := at_L1 HR0_0.out x36_3 p199 q199
                  obtain rfl : ad197 = ad199 := (by injection e199)
                  replace hx199_0 := (HB.out.cell (World.block_lt_of_cell? w _ hx199_0)).trans hx199_0
                  have HR199_0 := Aside0.mk hi199_0
                  have HC199_0 := Aside0.mk hl199_0
                  clear hi199_0 hl199_0
                  replace p199 := eq_true p199
                  replace q199 := eq_true q199
                  have p200 : 0 ≤ (0 : Int) := (by omega)
                  have q200 : 0 < ((rd_L1 l0_0 x36_3).length : Int) := of_decide_eq_true ‹_›
                  obtain ⟨ad200, e200, hx200_0⟩ := Kd.at_int HR199_0.out 0 p200 q200
                  cases e200
                  have qi200 : (0 < (rd_L1 l0_0 x36_3).length) = True := eq_true (by omega)
                  (rw [show ((0 : Int)).toNat = 0 from rfl] at hx200_0)
                  (rw [Addr.add_zero'] at hx200_0)
                  replace hx200_0 := (HB.out.cell (World.block_lt_of_cell? w _ hx200_0)).trans hx200_0
                  replace p200 := eq_true p200
                  replace q200 := eq_true q200
                  go_wp2
                  repeat (go_quiet (fail); try go_wp2)
                  go_meet
                  case rel => exact ⟨_, (true), (by rfl), H', ⟨by have := HJ2.out; have := HK2.out; have := HK3.out; omega⟩, ⟨by exact BK193.out⟩, ⟨by exact HB.out⟩⟩
                ·rw [if_neg c23] at H
                 exact absurd H (by simp)
               ·rw [if_neg c22] at H
                exact absurd H (by simp)
              ·rw [if_neg c21] at H
               have c21b0 : ((rd (rd_L1 l0_0 0) x36_3) == x36_3) = false := beq_eq_false_iff_ne.mpr c21
               have c21b1 : ((rd (rd_L1 l0_0 0) x36_3) != x36_3) = true := bne_iff_ne.mpr c21
               have H' := Aside0.mk H
               clear H
               have hcz28_0 := bc0 BK193.out
               have hfz28_0 := blk_frozen BK193.out 0
               have p197 : 0 ≤ (0 : Int) := (by omega)
               have q197 : 0 < (l0_0.length : Int) := of_decide_eq_true ‹_›
               obtain ⟨ad197, A197_0, c197_0, e197, hx197_0, hl197_0, hi197_0⟩ := at_L1 HR0_0.out 0 p197 q197
               cases e197
               have qi197 : (0 < l0_0.length) = True := eq_true (by omega)
               (rw [show ((0 : Int)).toNat = 0 from rfl] at hx197_0)
               (rw [Addr.add_zero'] at hx197_0)
               replace hx197_0 := (HB.out.cell (World.block_lt_of_cell? w _ hx197_0)).trans hx197_0
               have HR197_0 := Aside0.mk hi197_0
               have HC197_0 := Aside0.mk hl197_0
               clear hi197_0 hl197_0
               replace p197 := eq_true p197
               replace q197 := eq_true q197
               have p198 : 0 ≤ (x36_3 : Int) := of_decide_eq_true ‹_›
               have q198 : x36_3 < ((rd_L1 l0_0 0).length : Int) := of_decide_eq_true ‹_›
               obtain ⟨ad198, e198, hx198_0⟩ := Kd.at_int HR197_0.out x36_3 p198 q198
               cases e198
               replace hx198_0 := (HB.out.cell (World.block_lt_of_cell? w _ hx198_0)).trans hx198_0
               replace p198 := eq_true p198
               replace q198 := eq_true q198
               go_wp2
               repeat (go_quiet (fail); try go_wp2)
               go_meet
               case rel => exact ⟨_, (true), (by rfl), H', ⟨by have := HJ2.out; have := HK2.out; have := HK3.out; omega⟩, ⟨by exact BK193.out⟩, ⟨by exact HB.out⟩⟩
             ·rw [if_neg c20] at H
              exact absurd H (by simp)
            ·rw [if_neg c19] at H
             exact absurd H (by simp)
           ·rw [if_neg c18] at H
            exact absurd H (by simp)
          case rest =>
           clear HC17
           clear c16b0
           obtain ⟨kq, x67_16, rfl, HA, HJ16, BK193, HB⟩ := hcut
           cases kq with
           | zero => exact absurd HA.out (by simp [impl_IsGroup.j3])
           | succ kj16 =>
            have H := HA.out
            clear HA
            simp only [impl_IsGroup.j3] at H
            by_cases c29 : x67_16 = true
            ·subst c29
             have H1 : (some false) = some r := by rw [if_pos rfl] at H; exact H
             clear H
             have H := H1
             clear H1
             obtain rfl := Option.some.inj H
             go_wp2
             repeat (go_quiet (fail); try go_wp2)
             go_ret
             exact ⟨by rfl, by exact HB.out⟩
            ·replace c29 := Bool.eq_false_iff.mpr c29
             subst c29
             have H1 : (impl_IsGroup.l2 kj16 t194 x36_3 t194 x36_3 t194 0 l0_0) = some r := by rw [if_neg (show ¬ (false = true) by decide)] at H; exact H
             clear H
             have H := H1
             clear H1
             have H' := Aside0.mk H
             clear H
             go_wp2
             repeat (go_quiet (fail); try go_wp2)
             go_loopg [69] kj16 (fun kq v69 w' => ∃ (x69_5 : Int), v69 = .int .i64 x69_5 ∧ Aside0 (impl_IsGroup.l2 kq t194 x36_3 t194 x36_3 t194 x69_5 l0_0 = some r) ∧ Aside0 (kq ≤ kj16) ∧ Aside0 (w'.heap[gb193]? = some (.cells #[(.slice A0_0 l0_0.length c0_0)] 33 (0, 0))) ∧ Aside0 (Below w.heap.size w w'))
             case atStart => exact ⟨(0), (by rfl), H', ⟨Nat.le_refl _⟩, ⟨by exact BK193.out⟩, ⟨by exact HB.out⟩⟩
             case round =>
              clear H'
              obtain ⟨x69_5, rfl, HA, HK5, BK193, HB⟩ := hrel
              cases gk with
              | zero => exact absurd HA.out (by simp [impl_IsGroup.l2])
              | succ k5 =>
               have H := HA.out
               clear HA
               simp only [impl_IsGroup.l2] at H
               by_cases c30 : x69_5 < t194
               ·rw [if_pos c30] at H
                have c30b0 : decide (x69_5 < t194) = true := decide_eq_true c30
                clear c30
                have H' := Aside0.mk H
                clear H
                go_wp2
                repeat (go_quiet (fail); try go_wp2)
                go_loopg [73] k5 (fun kq v73 w' => ∃ (x73_6 : Int), v73 = .int .i64 x73_6 ∧ Aside0 (impl_IsGroup.l3 kq t194 x36_3 x69_5 t194 x36_3 t194 x69_5 t194 x73_6 l0_0 = some r) ∧ Aside0 (kq ≤ k5) ∧ Aside0 (w'.heap[gb193]? = some (.cells #[(.slice A0_0 l0_0.length c0_0)] 33 (0, 0))) ∧ Aside0 (Below w.heap.size w w'))
                case atStart => exact ⟨(0), (by rfl), H', ⟨Nat.le_refl _⟩, ⟨by exact BK193.out⟩, ⟨by exact HB.out⟩⟩
                case round =>
                 clear H'
                 clear c30b0
                 obtain ⟨x73_6, rfl, HA, HK6, BK193, HB⟩ := hrel
                 cases gk with
                 | zero => exact absurd HA.out (by simp [impl_IsGroup.l3])
                 | succ k6 =>
                  have H := HA.out
                  clear HA
                  simp only [impl_IsGroup.l3] at H
                  by_cases c31 : x73_6 < t194
                  ·rw [if_pos c31] at H
                   have c31b0 : decide (x73_6 < t194) = true := decide_eq_true c31
                   clear c31
                   by_cases c32 : 0 ≤ x36_3
                   ·rw [if_pos c32] at H
                    have c32b0 : decide (0 ≤ x36_3) = true := decide_eq_true c32
                    clear c32
                    by_cases c33 : x36_3 < (l0_0.length : Int)
                    ·rw [if_pos c33] at H
                     have c33b0 : decide (x36_3 < (l0_0.length : Int)) = true := decide_eq_true c33
                     clear c33
                     by_cases c34 : 0 ≤ x69_5
                     ·rw [if_pos c34] at H
                      have c34b0 : decide (0 ≤ x69_5) = true := decide_eq_true c34
                      clear c34
                      by_cases c35 : x69_5 < ((rd_L1 l0_0 x36_3).length : Int)
                      ·rw [if_pos c35] at H
                       have c35b0 : decide (x69_5 < ((rd_L1 l0_0 x36_3).length : Int)) = true := decide_eq_true c35
                       clear c35
                       by_cases c36 : 0 ≤ (rd (rd_L1 l0_0 x36_3) x69_5)
                       ·rw [if_pos c36] at H
                        have c36b0 : decide (0 ≤ (rd (rd_L1 l0_0 x36_3) x69_5)) = true := decide_eq_true c36
                        clear c36
                        by_cases c37 : (rd (rd_L1 l0_0 x36_3) x69_5) < (l0_0.length : Int)
                        ·rw [if_pos c37] at H
                         have c37b0 : decide ((rd (rd_L1 l0_0 x36_3) x69_5) < (l0_0.length : Int)) = true := decide_eq_true c37
                         clear c37
                         by_cases c38 : 0 ≤ x73_6
                         ·rw [if_pos c38] at H
                          have c38b0 : decide (0 ≤ x73_6) = true := decide_eq_true c38
                          clear c38
                          by_cases c39 : x73_6 < ((rd_L1 l0_0 (rd (rd_L1 l0_0 x36_3) x69_5)).length : Int)
                          ·rw [if_pos c39] at H
                           have c39b0 : decide (x73_6 < ((rd_L1 l0_0 (rd (rd_L1 l0_0 x36_3) x69_5)).length : Int)) = true := decide_eq_true c39
                           clear c39
                           by_cases c40 : x69_5 < (l0_0.length : Int)
                           ·rw [if_pos c40] at H
                            have c40b0 : decide (x69_5 < (l0_0.length : Int)) = true := decide_eq_true c40
                            clear c40
                            by_cases c41 : x73_6 < ((rd_L1 l0_0 x69_5).length : Int)
                            ·rw [if_pos c41] at H
                             have c41b0 : decide (x73_6 < ((rd_L1 l0_0 x69_5).length : Int)) = true := decide_eq_true c41
                             clear c41
                             by_cases c42 : 0 ≤ (rd (rd_L1 l0_0 x69_5) x73_6)
                             ·rw [if_pos c42] at H
                              have c42b0 : decide (0 ≤ (rd (rd_L1 l0_0 x69_5) x73_6)) = true := decide_eq_true c42
                              clear c42
                              by_cases c43 : (rd (rd_L1 l0_0 x69_5) x73_6) < ((rd_L1 l0_0 x36_3).length : Int)
                              ·rw [if_pos c43] at H
                               have c43b0 : decide ((rd (rd_L1 l0_0 x69_5) x73_6) < ((rd_L1 l0_0 x36_3).length : Int)) = true := decide_eq_true c43
                               clear c43
                               by_cases c44 : (rd (rd_L1 l0_0 (rd (rd_L1 l0_0 x36_3) x69_5)) x73_6) = (rd (rd_L1 l0_0 x36_3) (rd (rd_L1 l0_0 x69_5) x73_6))
                               ·rw [if_pos c44] at H
                                have c44b0 : ((rd (rd_L1 l0_0 (rd (rd_L1 l0_0 x36_3) x69_5)) x73_6) == (rd (rd_L1 l0_0 x36_3) (rd (rd_L1 l0_0 x69_5) x73_6))) = true := beq_iff_eq.mpr c44
                                have c44b1 : ((rd (rd_L1 l0_0 (rd (rd_L1 l0_0 x36_3) x69_5)) x73_6) != (rd (rd_L1 l0_0 x36_3) (rd (rd_L1 l0_0 x69_5) x73_6))) = false := bne_eq_false_iff_eq.mpr c44
                                clear c44
                                have H' := Aside0.mk H
                                clear H
                                have hcz45_0 := bc0 BK193.out
                                have hfz45_0 := blk_frozen BK193.out 0
                                have p203 : 0 ≤ (x36_3 : Int) := of_decide_eq_true ‹_›
                                have q203 : x36_3 < (l0_0.length : Int) := of_decide_eq_true ‹_›
                                obtain ⟨ad203, A203_0, c203_0, e203, hx203_0, hl203_0, hi203_0⟩ := at_L1 HR0_0.out x36_3 p203 q203
                                cases e203
                                replace hx203_0 := (HB.out.cell (World.block_lt_of_cell? w _ hx203_0)).trans hx203_0
                                have HR203_0 := Aside0.mk hi203_0
                                have HC203_0 := Aside0.mk hl203_0
                                clear hi203_0 hl203_0
                                replace p203 := eq_true p203
                                replace q203 := eq_true q203
                                have p204 : 0 ≤ (x69_5 : Int) := of_decide_eq_true ‹_›
                                have q204 : x69_5 < ((rd_L1 l0_0 x36_3).length : Int) := of_decide_eq_true ‹_›
                                obtain ⟨ad204, e204, hx204_0⟩ := Kd.at_int HR203_0.out x69_5 p204 q204
                                cases e204
                                replace hx204_0 := (HB.out.cell (World.block_lt_of_cell? w _ hx204_0)).trans hx204_0
                                replace p204 := eq_true p204
                                replace q204 := eq_true q204
                                have p205 : 0 ≤ ((rd (rd_L1 l0_0 x36_3) x69_5) : Int) := of_decide_eq_true ‹_›
                                have q205 : (rd (rd_L1 l0_0 x36_3) x69_5) < (l0_0.length : Int) := of_decide_eq_true ‹_›
                                obtain ⟨ad205, A205_0, c205_0, e205, hx205_0, hl205_0, hi205_0⟩ := at_L1 HR0_0.out (rd (rd_L1 l0_0 x36_3) x69_5) p205 q205
                                obtain rfl : ad203 = ad205 := (by injection e205)
                                replace hx205_0 := (HB.out.cell (World.block_lt_of_cell? w _ hx205_0)).trans hx205_0
                                have HR205_0 := Aside0.mk hi205_0
                                have HC205_0 := Aside0.mk hl205_0
                                clear hi205_0 hl205_0
                                replace p205 := eq_true p205
                                replace q205 := eq_true q205
                                have p206 : 0 ≤ (x73_6 : Int) := of_decide_eq_true ‹_›
                                have q206 : x73_6 < ((rd_L1 l0_0 (rd (rd_L1 l0_0 x36_3) x69_5)).length : Int) := of_decide_eq_true ‹_›
                                obtain ⟨ad206, e206, hx206_0⟩ := Kd.at_int HR205_0.out x73_6 p206 q206
                                cases e206
                                replace hx206_0 := (HB.out.cell (World.block_lt_of_cell? w _ hx206_0)).trans hx206_0
                                replace p206 := eq_true p206
                                replace q206 := eq_true q206
                                have p207 : 0 ≤ (x36_3 : Int) := of_decide_eq_true ‹_›
                                have q207 : x36_3 < (l0_0.length : Int) := of_decide_eq_true ‹_›
                                obtain ⟨ad207, A207_0, c207_0, e207, hx207_0, hl207_0, hi207_0⟩ := at_L1 HR0_0.out x36_3 p207 q207
                                obtain rfl : ad203 = ad207 := (by injection e207)
                                replace hx207_0 := (HB.out.cell (World.block_lt_of_cell? w _ hx207_0)).trans hx207_0
                                have HR207_0 := Aside0.mk hi207_0
                                have HC207_0 := Aside0.mk hl207_0
                                clear hi207_0 hl207_0
                                replace p207 := eq_true p207
                                replace q207 := eq_true q207
                                have ea_ := Option.some.inj (hx203_0.symm.trans hx207_0)
                                injection ea_ with ea_ en_ ec_
                                subst ea_
                                subst ec_
                                clear en_
                                have p208 : 0 ≤ (x69_5 : Int) := of_decide_eq_true ‹_›
                                have q208 : x69_5 < (l0_0.length : Int) := of_decide_eq_true ‹_›
                                obtain ⟨ad208, A208_0, c208_0, e208, hx208_0, hl208_0, hi208_0⟩ := at_L1 HR0_0.out x69_5 p208 q208
                                obtain rfl : ad203 = ad208 := (by injection e208)
                                replace hx208_0 := (HB.out.cell (World.block_lt_of_cell? w _ hx208_0)).trans hx208_0
                                have HR208_0 := Aside0.mk hi208_0
                                have HC208_0 := Aside0.mk hl208_0
                                clear hi208_0 hl208_0
                                replace p208 := eq_true p208
                                replace q208 := eq_true q208
                                have p209 : 0 ≤ (x73_6 : Int) := of_decide_eq_true ‹_›
                                have q209 : x73_6 < ((rd_L1 l0_0 x69_5).length : Int) := of_decide_eq_true ‹_›
                                obtain ⟨ad209, e209, hx209_0⟩ := Kd.at_int HR208_0.out x73_6 p209 q209
                                cases e209
                                replace hx209_0 := (HB.out.cell (World.block_lt_of_cell? w _ hx209_0)).trans hx209_0
                                replace p209 := eq_true p209
                                replace q209 := eq_true q209
                                have p210 : 0 ≤ ((rd (rd_L1 l0_0 x69_5) x73_6) : Int) := of_decide_eq_true ‹_›
                                have q210 : (rd (rd_L1 l0_0 x69_5) x73_6) < ((rd_L1 l0_0 x36_3).length : Int) := of_decide_eq_true ‹_›
                                obtain ⟨ad210, e210, hx210_0⟩ := Kd.at_int HR207_0.out (rd (rd_L1 l0_0 x69_5) x73_6) p210 q210
                                cases e210
                                replace hx210_0 := (HB.out.cell (World.block_lt_of_cell? w _ hx210_0)).trans hx210_0
                                replace p210 := eq_true p210
                                replace q210 := eq_true q210
                                go_wp2
                                repeat (go_quiet (fail); go_wp2)
                                go_roundg k6
                                case measure => have := HJ2.out; have := HK2.out; have := HK3.out; have := HJ16.out; have := HK5.out; have := HK6.out; omega
                                case rel => exact ⟨(wrap64 (x73_6 + 1)), (by rfl), H', ⟨by have := HJ2.out; have := HK2.out; have := HK3.out; have := HJ16.out; have := HK5.out; have := HK6.out; omega⟩, ⟨by (with_reducible repeat (refine blk_drewN ?_ _)); exact BK193.out⟩, ⟨by repeat ((with_reducible first | exact HB.out | apply pw_below_drewN))⟩⟩
                               ·rw [if_neg c44] at H
                                have c44b0 : ((rd (rd_L1 l0_0 (rd (rd_L1 l0_0 x36_3) x69_5)) x73_6) == (rd (rd_L1 l0_0 x36_3) (rd (rd_L1 l0_0 x69_5) x73_6))) = false := beq_eq_false_iff_ne.mpr c44
                                have c44b1 : ((rd (rd_L1 l0_0 (rd (rd_L1 l0_0 x36_3) x69_5)) x73_6) != (rd (rd_L1 l0_0 x36_3) (rd (rd_L1 l0_0 x69_5) x73_6))) = true := bne_iff_ne.mpr c44
                                obtain rfl := Option.some.inj H
                                have hcz46_0 := bc0 BK193.out
                                have hfz46_0 := blk_frozen BK193.out 0
                                have p203 : 0 ≤ (x36_3 : Int) := of_decide_eq_true ‹_›
                                have q203 : x36_3 < (l0_0.length : Int) := of_decide_eq_true ‹_›
                                obtain ⟨ad203, A203_0, c203_0, e203, hx203_0, hl203_0, hi203_0⟩ := at_L1 HR0_0.out x36_3 p203 q203
                                cases e203
                                replace hx203_0 := (HB.out.cell (World.block_lt_of_cell? w _ hx203_0)).trans hx203_0
                                have HR203_0 := Aside0.mk hi203_0
                                have HC203_0 := Aside0.mk hl203_0
                                clear hi203_0 hl203_0
                                replace p203 := eq_true p203
                                replace q203 := eq_true q203
                                have p204 : 0 ≤ (x69_5 : Int) := of_decide_eq_true ‹_›
                                have q204 : x69_5 < ((rd_L1 l0_0 x36_3).length : Int) := of_decide_eq_true ‹_›
                                obtain ⟨ad204, e204, hx204_0⟩ := Kd.at_int HR203_0.out x69_5 p204 q204
                                cases e204
                                replace hx204_0 := (HB.out.cell (World.block_lt_of_cell? w _ hx204_0)).trans hx204_0
                                replace p204 := eq_true p204
                                replace q204 := eq_true q204
                                have p205 : 0 ≤ ((rd (rd_L1 l0_0 x36_3) x69_5) : Int) := of_decide_eq_true ‹_›
                                have q205 : (rd (rd_L1 l0_0 x36_3) x69_5) < (l0_0.length : Int) := of_decide_eq_true ‹_›
                                obtain ⟨ad205, A205_0, c205_0, e205, hx205_0, hl205_0, hi205_0⟩ := at_L1 HR0_0.out (rd (rd_L1 l0_0 x36_3) x69_5) p205 q205
                                obtain rfl : ad203 = ad205 := (by injection e205)
                                replace hx205_0 := (HB.out.cell (World.block_lt_of_cell? w _ hx205_0)).trans hx205_0
                                have HR205_0 := Aside0.mk hi205_0
                                have HC205_0 := Aside0.mk hl205_0
                                clear hi205_0 hl205_0
                                replace p205 := eq_true p205
                                replace q205 := eq_true q205
                                have p206 : 0 ≤ (x73_6 : Int) := of_decide_eq_true ‹_›
                                have q206 : x73_6 < ((rd_L1 l0_0 (rd (rd_L1 l0_0 x36_3) x69_5)).length : Int) := of_decide_eq_true ‹_›
                                obtain ⟨ad206, e206, hx206_0⟩ := Kd.at_int HR205_0.out x73_6 p206 q206
                                cases e206
                                replace hx206_0 := (HB.out.cell (World.block_lt_of_cell? w _ hx206_0)).trans hx206_0
                                replace p206 := eq_true p206
                                replace q206 := eq_true q206
                                have p207 : 0 ≤ (x36_3 : Int) := of_decide_eq_true ‹_›
                                have q207 : x36_3 < (l0_0.length : Int) := of_decide_eq_true ‹_›
                                obtain ⟨ad207, A207_0, c207_0, e207, hx207_0, hl207_0, hi207_0⟩ := at_L1 HR0_0.out x36_3 p207 q207
                                obtain rfl : ad203 = ad207 := (by injection e207)
                                replace hx207_0 := (HB.out.cell (World.block_lt_of_cell? w _ hx207_0)).trans hx207_0
                                have HR207_0 := Aside0.mk hi207_0
                                have HC207_0 := Aside0.mk hl207_0
                                clear hi207_0 hl207_0
                                replace p207 := eq_true p207
                                replace q207 := eq_true q207
                                have ea_ := Option.some.inj (hx203_0.symm.trans hx207_0)
                                injection ea_ with ea_ en_ ec_
                                subst ea_
                                subst ec_
                                clear en_
                                have p208 : 0 ≤ (x69_5 : Int) := of_decide_eq_true ‹_›
                                have q208 : x69_5 < (l0_0.length : Int) := of_decide_eq_true ‹_›
                                obtain ⟨ad208, A208_0, c208_0, e208, hx208_0, hl208_0, hi208_0⟩ := at_L1 HR0_0.out x69_5 p208 q208
                                obtain rfl : ad203 = ad208 := (by injection e208)
                                replace hx208_0 := (HB.out.cell (World.block_lt_of_cell? w _ hx208_0)).trans hx208_0
                                have HR208_0 := Aside0.mk hi208_0
                                have HC208_0 := Aside0.mk hl208_0
                                clear hi208_0 hl208_0
                                replace p208 := eq_true p208
                                replace q208 := eq_true q208
                                have p209 : 0 ≤ (x73_6 : Int) := of_decide_eq_true ‹_›
                                have q209 : x73_6 < ((rd_L1 l0_0 x69_5).length : Int) := of_decide_eq_true ‹_›
                                obtain ⟨ad209, e209, hx209_0⟩ := Kd.at_int HR208_0.out x73_6 p209 q209
                                cases e209
                                replace hx209_0 := (HB.out.cell (World.block_lt_of_cell? w _ hx209_0)).trans hx209_0
                                replace p209 := eq_true p209
                                replace q209 := eq_true q209
                                have p210 : 0 ≤ ((rd (rd_L1 l0_0 x69_5) x73_6) : Int) := of_decide_eq_true ‹_›
                                have q210 : (rd (rd_L1 l0_0 x69_5) x73_6) < ((rd_L1 l0_0 x36_3).length : Int) := of_decide_eq_true ‹_›
                                obtain ⟨ad210, e210, hx210_0⟩ := Kd.at_int HR207_0.out (rd (rd_L1 l0_0 x69_5) x73_6) p210 q210
                                cases e210
                                replace hx210_0 := (HB.out.cell (World.block_lt_of_cell? w _ hx210_0)).trans hx210_0
                                replace p210 := eq_true p210
                                replace q210 := eq_true q210
                                go_wp2
                                repeat (go_quiet (fail); go_wp2)
                                go_ret
                                exact ⟨by rfl, by repeat ((with_reducible first | exact HB.out | apply pw_below_drewN))⟩
                              ·rw [if_neg c43] at H
                               exact absurd H (by simp)
                             ·rw [if_neg c42] at H
                              exact absurd H (by simp)
                            ·rw [if_neg c41] at H
                             exact absurd H (by simp)
                           ·rw [if_neg c40] at H
                            exact absurd H (by simp)
                          ·rw [if_neg c39] at H
                           exact absurd H (by simp)
                         ·rw [if_neg c38] at H
                          exact absurd H (by simp)
                        ·rw [if_neg c37] at H
                         exact absurd H (by simp)
                       ·rw [if_neg c36] at H
                        exact absurd H (by simp)
                      ·rw [if_neg c35] at H
                       exact absurd H (by simp)
                     ·rw [if_neg c34] at H
                      exact absurd H (by simp)
                    ·rw [if_neg c33] at H
                     exact absurd H (by simp)
                   ·rw [if_neg c32] at H
                    exact absurd H (by simp)
                  ·rw [if_neg c31] at H
                   have c31b0 : decide (x73_6 < t194) = false := decide_eq_false c31
                   clear c31
                   have H' := Aside0.mk H
                   clear H
                   go_wp2
                   repeat (go_quiet (fail); try go_wp2)
                   go_roundg k6
                   case measure => have := HJ2.out; have := HK2.out; have := HK3.out; have := HJ16.out; have := HK5.out; have := HK6.out; omega
                   case rel => exact ⟨(wrap64 (x69_5 + 1)), (by rfl), H', ⟨by have := HJ2.out; have := HK2.out; have := HK3.out; have := HJ16.out; have := HK5.out; have := HK6.out; omega⟩, ⟨by exact BK193.out⟩, ⟨by exact HB.out⟩⟩
               ·rw [if_neg c30] at H
                have c30b0 : decide (x69_5 < t194) = false := decide_eq_false c30
                clear c30
                have H' := Aside0.mk H
                clear H
                go_wp2
                repeat (go_quiet (fail); try go_wp2)
                go_roundg k5
                case measure => have := HJ2.out; have := HK2.out; have := HK3.out; have := HJ16.out; have := HK5.out; omega
                case rel => exact ⟨(wrap64 (x36_3 + 1)), (by rfl), H', ⟨by have := HJ2.out; have := HK2.out; have := HK3.out; have := HJ16.out; have := HK5.out; omega⟩, ⟨by exact BK193.out⟩, ⟨by exact HB.out⟩⟩
         ·rw [if_neg c16] at H
          have c16b0 : decide (x36_3 < t194) = false := decide_eq_false c16
          clear c16
          obtain rfl := Option.some.inj H
          go_wp2
          repeat (go_quiet (fail); try go_wp2)
          go_ret
          exact ⟨by rfl, by exact HB.out⟩

end Go.Proofs.Ytkpcogaahgfmcaa.PFnExactInnerModule
