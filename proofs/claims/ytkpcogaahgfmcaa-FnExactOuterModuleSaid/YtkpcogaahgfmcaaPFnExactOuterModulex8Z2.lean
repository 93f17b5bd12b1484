-- Made by a program of this session (wip/tools: the patched printer), for this claim.
import Derived.Test.YtkpcogaahgfmcaaXSqZ2
import Derived.Test.YtkpcogaahgfmcaaPFnExactOuterModulex0Z2
import Derived.Test.YtkpcogaahgfmcaaPFnExactOuterModulex6Z2
import Derived.Test.YtkpcogaahgfmcaaPFnExactOuterModulex7Z2
namespace Go.Proofs.Ytkpcogaahgfmcaa.PFnExactOuterModule
open Go.Proofs.YtkpcogaahgfmcaaX
open Go.RowKit Go.Proofs.YtkpcogaahgfmcaaW.PrintWords Go.Proofs.YtkpcogaahgfmcaaW.PrintLast Go.Proofs.YtkpcogaahgfmcaaW.PrintMore
attribute [local go_sem] max2_int min2_int max_two min_two max_three min_three max_four min_four   -- for this text's walks alone
set_option linter.unusedVariables false
set_option linter.unusedSimpArgs false

/-! ### impl_IsGroup: function 148 -/
mutual
def impl_IsGroup.j0 : Nat → Int → Bool → List (List Int) → Option (Bool)
 | 0, _, _, _ => none
 | k + 1, x3, x16, x212000 => if x16 = true then (some false) else (impl_IsGroup.l0 k x3 x212000 (x212000.length : Int) 0 x212000)
def impl_IsGroup.l0 : Nat → Int → List (List Int) → Int → Int → List (List Int) → Option (Bool)
 | 0, _, _, _, _, _ => none
 | k + 1, x3, x18, x19, x20, x212000 => if x20 < x19 then (if 0 ≤ x20 then (if x20 < (x18.length : Int) then (if ((rd_L1 x18 x20).length : Int) = x3 then ((impl_areIn.f k x3 (rd_L1 x18 x20)).bind fun t214 => (if t214 = true then (impl_IsGroup.l0 k x3 x18 x19 (wrap64 (x20 + 1)) x212000) else (some false))) else (some false)) else (none)) else (none)) else (impl_IsGroup.l1 k x3 x3 0 x212000)
def impl_IsGroup.l1 : Nat → Int → Int → Int → List (List Int) → Option (Bool)
 | 0, _, _, _, _ => none
 | k + 1, x3, x35, x36, x212000 => if x36 < x35 then (if 0 < (x212000.length : Int) then (if 0 ≤ x36 then (if x36 < ((rd_L1 x212000 0).length : Int) then (if (rd (rd_L1 x212000 0) x36) = x36 then (if x36 < (x212000.length : Int) then (if 0 < ((rd_L1 x212000 x36).length : Int) then (if (rd (rd_L1 x212000 x36) 0) = x36 then ((slices_Contains_int64_int64.f k (rd_L1 x212000 x36) 0).bind fun t220 => (impl_IsGroup.j3 k x3 x36 x35 x36 (!t220) x212000)) else (impl_IsGroup.j3 k x3 x36 x35 x36 true x212000)) else (none)) else (none)) else (impl_IsGroup.j3 k x3 x36 x35 x36 true x212000)) else (none)) else (none)) else (none)) else (some true)
def impl_IsGroup.j3 : Nat → Int → Int → Int → Int → Bool → List (List Int) → Option (Bool)
 | 0, _, _, _, _, _, _ => none
 | k + 1, x3, x6, x35, x36, x67, x212000 => if x67 = true then (some false) else (impl_IsGroup.l2 k x3 x6 x35 x36 x3 0 x212000)
def impl_IsGroup.l2 : Nat → Int → Int → Int → Int → Int → Int → List (List Int) → Option (Bool)
 | 0, _, _, _, _, _, _, _ => none
 | k + 1, x3, x6, x35, x36, x68, x69, x212000 => if x69 < x68 then (impl_IsGroup.l3 k x3 x6 x69 x35 x36 x68 x69 x3 0 x212000) else (impl_IsGroup.l1 k x3 x35 (wrap64 (x36 + 1)) x212000)
def impl_IsGroup.l3 : Nat → Int → Int → Int → Int → Int → Int → Int → Int → Int → List (List Int) → Option (Bool)
 | 0, _, _, _, _, _, _, _, _, _, _ => none
 | k + 1, x3, x6, x7, x35, x36, x68, x69, x72, x73, x212000 => if x73 < x72 then (if 0 ≤ x6 then (if x6 < (x212000.length : Int) then (if 0 ≤ x7 then (if x7 < ((rd_L1 x212000 x6).length : Int) then (if 0 ≤ (rd (rd_L1 x212000 x6) x7) then (if (rd (rd_L1 x212000 x6) x7) < (x212000.length : Int) then (if 0 ≤ x73 then (if x73 < ((rd_L1 x212000 (rd (rd_L1 x212000 x6) x7)).length : Int) then (if x7 < (x212000.length : Int) then (if x73 < ((rd_L1 x212000 x7).length : Int) then (if 0 ≤ (rd (rd_L1 x212000 x7) x73) then (if (rd (rd_L1 x212000 x7) x73) < ((rd_L1 x212000 x6).length : Int) then (if (rd (rd_L1 x212000 (rd (rd_L1 x212000 x6) x7)) x73) = (rd (rd_L1 x212000 x6) (rd (rd_L1 x212000 x7) x73)) then (impl_IsGroup.l3 k x3 x6 x7 x35 x36 x68 x69 x72 (wrap64 (x73 + 1)) x212000) else (some false)) else (none)) else (none)) else (none)) else (none)) else (none)) else (none)) else (none)) else (none)) else (none)) else (none)) else (none)) else (none)) else (impl_IsGroup.l2 k x3 x6 x35 x36 x68 (wrap64 (x69 + 1)) x212000)
end
def impl_IsGroup.f (k : Nat) (l0_0 : List (List Int)) : Option (Bool) := (impl_order.f l0_0).bind fun t212 => (if t212 < 1 then (impl_IsGroup.j0 k t212 true l0_0) else (impl_IsGroup.j0 k t212 (decide (t212 > 8)) l0_0))
theorem impl_IsGroup.mono_l : ∀ k, (∀ y0 y1 y2, LeO (impl_IsGroup.j0 k y0 y1 y2) (impl_IsGroup.j0 (k + 1) y0 y1 y2)) ∧ (∀ y0 y1 y2 y3 y4, LeO (impl_IsGroup.l0 k y0 y1 y2 y3 y4) (impl_IsGroup.l0 (k + 1) y0 y1 y2 y3 y4)) ∧ (∀ y0 y1 y2 y3, LeO (impl_IsGroup.l1 k y0 y1 y2 y3) (impl_IsGroup.l1 (k + 1) y0 y1 y2 y3)) ∧ (∀ y0 y1 y2 y3 y4 y5, LeO (impl_IsGroup.j3 k y0 y1 y2 y3 y4 y5) (impl_IsGroup.j3 (k + 1) y0 y1 y2 y3 y4 y5)) ∧ (∀ y0 y1 y2 y3 y4 y5 y6, LeO (impl_IsGroup.l2 k y0 y1 y2 y3 y4 y5 y6) (impl_IsGroup.l2 (k + 1) y0 y1 y2 y3 y4 y5 y6)) ∧ (∀ y0 y1 y2 y3 y4 y5 y6 y7 y8 y9, LeO (impl_IsGroup.l3 k y0 y1 y2 y3 y4 y5 y6 y7 y8 y9) (impl_IsGroup.l3 (k + 1) y0 y1 y2 y3 y4 y5 y6 y7 y8 y9))
 | 0 => ⟨fun _ _ _ r h => by simp [impl_IsGroup.j0] at h, fun _ _ _ _ _ r h => by simp [impl_IsGroup.l0] at h, fun _ _ _ _ r h => by simp [impl_IsGroup.l1] at h, fun _ _ _ _ _ _ r h => by simp [impl_IsGroup.j3] at h, fun _ _ _ _ _ _ _ r h => by simp [impl_IsGroup.l2] at h, fun _ _ _ _ _ _ _ _ _ _ r h => by simp [impl_IsGroup.l3] at h⟩
 | k + 1 => by
  obtain ⟨ih0, ih1, ih2, ih3, ih4, ih5⟩ := impl_IsGroup.mono_l k
  refine ⟨?_, ?_, ?_, ?_, ?_, ?_⟩
  ·intro y0 y1 y2
   unfold impl_IsGroup.j0
   repeat' first
   | (with_reducible exact ih0 _ _ _)
   | (with_reducible exact ih1 _ _ _ _ _)
   | (with_reducible exact ih2 _ _ _ _)
   | (with_reducible exact ih3 _ _ _ _ _ _)
   | (with_reducible exact ih4 _ _ _ _ _ _ _)
   | (with_reducible exact ih5 _ _ _ _ _ _ _ _ _ _)
   | (with_reducible exact impl_areIn.mono _ _ _)
   | (with_reducible exact slices_Contains_int64_int64.mono _ _ _)
   | (with_reducible exact LeO.refl _)
   | (with_reducible exact LeO.none _)
   | (with_reducible refine LeO.ite ?_ ?_)
   | (with_reducible refine LeO.bind ?_ (fun _ => ?_))
   | exact ih0 _ _ _
   | exact ih1 _ _ _ _ _
   | exact ih2 _ _ _ _
   | exact ih3 _ _ _ _ _ _
   | exact ih4 _ _ _ _ _ _ _
   | exact ih5 _ _ _ _ _ _ _ _ _ _
   | exact impl_areIn.mono _ _ _
   | exact slices_Contains_int64_int64.mono _ _ _
   | exact LeO.none _
   | refine LeO.ite ?_ ?_
   | refine LeO.bind ?_ (fun _ => ?_)
  ·intro y0 y1 y2 y3 y4
   unfold impl_IsGroup.l0
   repeat' first
   | (with_reducible exact ih0 _ _ _)
   | (with_reducible exact ih1 _ _ _ _ _)
   | (with_reducible exact ih2 _ _ _ _)
   | (with_reducible exact ih3 _ _ _ _ _ _)
   | (with_reducible exact ih4 _ _ _ _ _ _ _)
   | (with_reducible exact ih5 _ _ _ _ _ _ _ _ _ _)
   | (with_reducible exact impl_areIn.mono _ _ _)
   | (with_reducible exact slices_Contains_int64_int64.mono _ _ _)
   | (with_reducible exact LeO.refl _)
   | (with_reducible exact LeO.none _)
   | (with_reducible refine LeO.ite ?_ ?_)
   | (with_reducible refine LeO.bind ?_ (fun _ => ?_))
   | exact ih0 _ _ _
   | exact ih1 _ _ _ _ _
   | exact ih2 _ _ _ _
   | exact ih3 _ _ _ _ _ _
   | exact ih4 _ _ _ _ _ _ _
   | exact ih5 _ _ _ _ _ _ _ _ _ _
   | exact impl_areIn.mono _ _ _
   | exact slices_Contains_int64_int64.mono _ _ _
   | exact LeO.none _
   | refine LeO.ite ?_ ?_
   | refine LeO.bind ?_ (fun _ => ?_)
  ·intro y0 y1 y2 y3
   unfold impl_IsGroup.l1
   repeat' first
   | (with_reducible exact ih0 _ _ _)
   | (with_reducible exact ih1 _ _ _ _ _)
   | (with_reducible exact ih2 _ _ _ _)
   | (with_reducible exact ih3 _ _ _ _ _ _)
   | (with_reducible exact ih4 _ _ _ _ _ _ _)
   | (with_reducible exact ih5 _ _ _ _ _ _ _ _ _ _)
   | (with_reducible exact impl_areIn.mono _ _ _)
   | (with_reducible exact slices_Contains_int64_int64.mono _ _ _)
   | (with_reducible exact LeO.refl _)
   | (with_reducible exact LeO.none _)
   | (with_reducible refine LeO.ite ?_ ?_)
   | (with_reducible refine LeO.bind ?_ (fun _ => ?_))
   | exact ih0 _ _ _
   | exact ih1 _ _ _ _ _
   | exact ih2 _ _ _ _
   | exact ih3 _ _ _ _ _ _
   | exact ih4 _ _ _ _ _ _ _
   | exact ih5 _ _ _ _ _ _ _ _ _ _
   | exact impl_areIn.mono _ _ _
   | exact slices_Contains_int64_int64.mono _ _ _
   | exact LeO.none _
   | refine LeO.ite ?_ ?_
   | refine LeO.bind ?_ (fun _ => ?_)
  ·intro y0 y1 y2 y3 y4 y5
   unfold impl_IsGroup.j3
   repeat' first
   | (with_reducible exact ih0 _ _ _)
   | (with_reducible exact ih1 _ _ _ _ _)
   | (with_reducible exact ih2 _ _ _ _)
   | (with_reducible exact ih3 _ _ _ _ _ _)
   | (with_reducible exact ih4 _ _ _ _ _ _ _)
   | (with_reducible exact ih5 _ _ _ _ _ _ _ _ _ _)
   | (with_reducible exact impl_areIn.mono _ _ _)
   | (with_reducible exact slices_Contains_int64_int64.mono _ _ _)
   | (with_reducible exact LeO.refl _)
   | (with_reducible exact LeO.none _)
   | (with_reducible refine LeO.ite ?_ ?_)
   | (with_reducible refine LeO.bind ?_ (fun _ => ?_))
   | exact ih0 _ _ _
   | exact ih1 _ _ _ _ _
   | exact ih2 _ _ _ _
   | exact ih3 _ _ _ _ _ _
   | exact ih4 _ _ _ _ _ _ _
   | exact ih5 _ _ _ _ _ _ _ _ _ _
   | exact impl_areIn.mono _ _ _
   | exact slices_Contains_int64_int64.mono _ _ _
   | exact LeO.none _
   | refine LeO.ite ?_ ?_
   | refine LeO.bind ?_ (fun _ => ?_)
  ·intro y0 y1 y2 y3 y4 y5 y6
   unfold impl_IsGroup.l2
   repeat' first
   | (with_reducible exact ih0 _ _ _)
   | (with_reducible exact ih1 _ _ _ _ _)
   | (with_reducible exact ih2 _ _ _ _)
   | (with_reducible exact ih3 _ _ _ _ _ _)
   | (with_reducible exact ih4 _ _ _ _ _ _ _)
   | (with_reducible exact ih5 _ _ _ _ _ _ _ _ _ _)
   | (with_reducible exact impl_areIn.mono _ _ _)
   | (with_reducible exact slices_Contains_int64_int64.mono _ _ _)
   | (with_reducible exact LeO.refl _)
   | (with_reducible exact LeO.none _)
   | (with_reducible refine LeO.ite ?_ ?_)
   | (with_reducible refine LeO.bind ?_ (fun _ => ?_))
   | exact ih0 _ _ _
   | exact ih1 _ _ _ _ _
   | exact ih2 _ _ _ _
   | exact ih3 _ _ _ _ _ _
   | exact ih4 _ _ _ _ _ _ _
   | exact ih5 _ _ _ _ _ _ _ _ _ _
   | exact impl_areIn.mono _ _ _
   | exact slices_Contains_int64_int64.mono _ _ _
   | exact LeO.none _
   | refine LeO.ite ?_ ?_
   | refine LeO.bind ?_ (fun _ => ?_)
  ·intro y0 y1 y2 y3 y4 y5 y6 y7 y8 y9
   unfold impl_IsGroup.l3
   repeat' first
   | (with_reducible exact ih0 _ _ _)
   | (with_reducible exact ih1 _ _ _ _ _)
   | (with_reducible exact ih2 _ _ _ _)
   | (with_reducible exact ih3 _ _ _ _ _ _)
   | (with_reducible exact ih4 _ _ _ _ _ _ _)
   | (with_reducible exact ih5 _ _ _ _ _ _ _ _ _ _)
   | (with_reducible exact impl_areIn.mono _ _ _)
   | (with_reducible exact slices_Contains_int64_int64.mono _ _ _)
   | (with_reducible exact LeO.refl _)
   | (with_reducible exact LeO.none _)
   | (with_reducible refine LeO.ite ?_ ?_)
   | (with_reducible refine LeO.bind ?_ (fun _ => ?_))
   | exact ih0 _ _ _
   | exact ih1 _ _ _ _ _
   | exact ih2 _ _ _ _
   | exact ih3 _ _ _ _ _ _
   | exact ih4 _ _ _ _ _ _ _
   | exact ih5 _ _ _ _ _ _ _ _ _ _
   | exact impl_areIn.mono _ _ _
   | exact slices_Contains_int64_int64.mono _ _ _
   | exact LeO.none _
   | refine LeO.ite ?_ ?_
   | refine LeO.bind ?_ (fun _ => ?_)
theorem impl_IsGroup.mono : ∀ a0 k, LeO (impl_IsGroup.f k a0) (impl_IsGroup.f (k + 1) a0) := by
 intro a0 k
 obtain ⟨ih0, ih1, ih2, ih3, ih4, ih5⟩ := impl_IsGroup.mono_l k
 unfold impl_IsGroup.f
 repeat' first
   | (with_reducible exact ih0 _ _ _)
   | (with_reducible exact LeO.refl _)
   | (with_reducible refine LeO.ite ?_ ?_)
   | (with_reducible refine LeO.bind ?_ (fun _ => ?_))
set_option maxHeartbeats 8000000 in
set_option maxRecDepth 100000 in
theorem impl_IsGroup.calls (k : Nat) (A0_0 : Option Addr) (c0_0 : Nat) (l0_0 : List (List Int)) (r : Bool) (w : World) (hr0_0 : Kd.C (Kd.slice 2 (Kd.int .i64)) w A0_0 l0_0.length l0_0) (hc0_0 : l0_0.length ≤ c0_0) (h : impl_IsGroup.f k l0_0 = some r) :
  Calls Try.prog 148 #[.agg #[.slice A0_0 l0_0.length c0_0]] w fun e w' => e = .returned (.bool r) ∧ Below w.heap.size w w' := by
 have hu33 := Try.underlying33
 have hu22 := Try.underlying22
 have hu25 := Try.underlying25
 have hu2 := Try.underlying2
 have HR0_0 := Aside0.mk hr0_0
 have HC0_0 := Aside0.mk hc0_0
 clear hr0_0 hc0_0
 have HB := Aside0.mk (Below.refl w.heap.size w)
 have H : ((impl_order.f l0_0).bind fun t212 => (if t212 < 1 then (impl_IsGroup.j0 k t212 true l0_0) else (impl_IsGroup.j0 k t212 (decide (t212 > 8)) l0_0))) = some r := h
 clear h
 obtain ⟨t212, A2, H⟩ := bnd H
 try dsimp only at H
 have HC3 := Aside0.mk H
 clear H
 go_enter Try.func148, Try.ntmps148
 go_upto_region 2 with (first | ((with_reducible refine gate_dst (N := 1) rfl ?_); refine box_event ?hg (N := 1) ?hd (cs := #[.slice A0_0 l0_0.length c0_0]) (t := 33) ?hr ?_; (case hd => rfl); (case hg => rfl); (case hr => (go_simp; done)); intro gb211 hg w4 hbox hb; have BK211 := Aside0.mk (hbox); have GW211 := Aside0.mk (geg hg (below_size HB.out)); have GE211 := Aside0.mk (geg hg (below_size HB.out)); replace HB := Aside0.mk (below_step HB.out hb); clear hb hbox hg; have hcz5_0 := bc0 BK211.out; have hfz5_0 := blk_frozen BK211.out 0) | (go_at_call 107; (with_reducible refine (impl_order.calls _ _ l0_0 t212 _ ?side1 ?side2 A2.out).mono ?_); (case side1 => exact (Kd.C_below HR0_0.out HB.out)); (case side2 => exact HC0_0.out); rintro e w6 ⟨rfl, hb⟩; replace BK211 := Aside0.mk (blk_below BK211.out hb); replace HB := Aside0.mk (below_step HB.out hb); clear hb))
 repeat (go_quiet ((go_at_call 107; (with_reducible refine (impl_order.calls _ _ l0_0 t212 _ ?side1 ?side2 A2.out).mono ?_); (case side1 => repeat (first | exact (Kd.C_below HR0_0.out HB.out) | (with_reducible refine Kd.C_alloc ?_ _) | (with_reducible refine Kd.C_drewN ?_ _) | (with_reducible refine Kd.C_drew ?_))); (case side2 => exact HC0_0.out); rintro e w6 ⟨rfl, hb⟩; replace BK211 := Aside0.mk (blk_below BK211.out hb); replace HB := Aside0.mk (below_step (by repeat (first | (with_reducible exact HB.out) | exact HB.out)) hb); (try clear hb); (try clear hb2); (try clear hk); (try clear hi))); go_upto_region 2 with ((go_at_call 107; (with_reducible refine (impl_order.calls _ _ l0_0 t212 _ ?side1 ?side2 A2.out).mono ?_); (case side1 => repeat (first | exact (Kd.C_below HR0_0.out HB.out) | (with_reducible refine Kd.C_alloc ?_ _) | (with_reducible refine Kd.C_drewN ?_ _) | (with_reducible refine Kd.C_drew ?_))); (case side2 => exact HC0_0.out); rintro e w6 ⟨rfl, hb⟩; replace BK211 := Aside0.mk (blk_below BK211.out hb); replace HB := Aside0.mk (below_step (by repeat (first | (with_reducible exact HB.out) | exact HB.out)) hb); (try clear hb); (try clear hb2); (try clear hk); (try clear hi))))
 go_cut [16] (fun v16 wc => ∃ (kq : Nat) (x16_2 : Bool), v16 = .bool x16_2 ∧ Aside0 (impl_IsGroup.j0 kq t212 x16_2 l0_0 = some r) ∧ Aside0 (kq ≤ k) ∧ Aside0 (wc.heap[gb211]? = some (.cells #[(.slice A0_0 l0_0.length c0_0)] 33 (0, 0))) ∧ Aside0 (Below w.heap.size w wc))
 case first =>
  have H := HC3.out
  clear HC3
  by_cases c7 : t212 < 1
  ·rw [if_pos c7] at H
   have c7b0 : decide (t212 < 1) = true := decide_eq_true c7
   clear c7
   have H' := Aside0.mk H
   clear H
   go_wp2
   repeat (go_quiet (fail); try go_wp2)
   go_meet
   case rel => exact ⟨_, (true), (by rfl), H', ⟨by omega⟩, ⟨by exact BK211.out⟩, ⟨by exact HB.out⟩⟩
  rw [if_neg c7] at H
  have c7b0 : decide (t212 < 1) = false := decide_eq_false c7
  clear c7
  have H' := Aside0.mk H
  clear H
  go_wp2
  repeat (go_quiet (fail); try go_wp2)
  go_meet
  case rel => exact ⟨_, (decide (t212 > 8)), (by rfl), H', ⟨by omega⟩, ⟨by exact BK211.out⟩, ⟨by exact HB.out⟩⟩
 case rest =>
  clear HC3 hcz5_0 hfz5_0
  obtain ⟨kq, x16_2, rfl, HA, HJ2, BK211, HB⟩ := hcut
  cases kq with
  | zero => exact absurd HA.out (by simp [impl_IsGroup.j0])
  | succ kj2 =>
   have H := HA.out
   clear HA
   simp only [impl_IsGroup.j0] at H
   by_cases c8 : x16_2 = true
   ·subst c8
    have H1 : (some false) = some r := by rw [if_pos rfl] at H; exact H
    clear H
    have H := H1
    clear H1
    obtain rfl := Option.some.inj H
    go_wp2
    repeat (go_quiet (fail); try go_wp2)
    go_ret
    exact ⟨by rfl, by exact HB.out⟩
   replace c8 := Bool.eq_false_iff.mpr c8
   subst c8
   have H1 : (impl_IsGroup.l0 kj2 t212 l0_0 (l0_0.length : Int) 0 l0_0) = some r := by rw [if_neg (show ¬ (false = true) by decide)] at H; exact H
   clear H
   have H := H1
   clear H1
   have H' := Aside0.mk H
   clear H
   have hcz9_0 := bc0 BK211.out
   have hfz9_0 := blk_frozen BK211.out 0
   go_wp2
   repeat (go_quiet (fail); try go_wp2)
   go_loopg [20] kj2 (fun kq v20 w' => ∃ (x20_2 : Int), v20 = .int .i64 x20_2 ∧ Aside0 (impl_IsGroup.l0 kq t212 l0_0 (l0_0.length : Int) x20_2 l0_0 = some r) ∧ Aside0 (kq ≤ kj2) ∧ Aside0 (w'.heap[gb211]? = some (.cells #[(.slice A0_0 l0_0.length c0_0)] 33 (0, 0))) ∧ Aside0 (Below w.heap.size w w'))
   case atStart => exact ⟨(0), (by rfl), H', ⟨Nat.le_refl _⟩, ⟨by exact BK211.out⟩, ⟨by exact HB.out⟩⟩
   case round =>
    clear H' hcz9_0 hfz9_0
    obtain ⟨x20_2, rfl, HA, HK2, BK211, HB⟩ := hrel
    cases gk with
    | zero => exact absurd HA.out (by simp [impl_IsGroup.l0])
    | succ k2 =>
     have H := HA.out
     clear HA
     simp only [impl_IsGroup.l0] at H
     by_cases c10 : x20_2 < (l0_0.length : Int)
     ·rw [if_pos c10] at H
      have c10b0 : decide (x20_2 < (l0_0.length : Int)) = true := decide_eq_true c10
      clear c10
      by_cases c11 : 0 ≤ x20_2
      ·rw [if_pos c11] at H
       have c11b0 : decide (0 ≤ x20_2) = true := decide_eq_true c11
       clear c11
       by_cases c12 : x20_2 < (l0_0.length : Int)
       ·rw [if_pos c12] at H
        have c12b0 : decide (x20_2 < (l0_0.length : Int)) = true := decide_eq_true c12
        clear c12
        by_cases c13 : ((rd_L1 l0_0 x20_2).length : Int) = t212
        ·rw [if_pos c13] at H
         have c13b0 : (((rd_L1 l0_0 x20_2).length : Int) == t212) = true := beq_iff_eq.mpr c13
         have c13b1 : (((rd_L1 l0_0 x20_2).length : Int) != t212) = false := bne_eq_false_iff_eq.mpr c13
         clear c13
         obtain ⟨t214, A14, H⟩ := bnd H
         try dsimp only at H
         by_cases c15 : t214 = true
         ·subst c15
          have H1 : (impl_IsGroup.l0 k2 t212 l0_0 (l0_0.length : Int) (wrap64 (x20_2 + 1)) l0_0) = some r := by rw [if_pos rfl] at H; exact H
          clear H
          have H := H1
          clear H1
          have H' := Aside0.mk H
          clear H
          have p213 : 0 ≤ (x20_2 : Int) := of_decide_eq_true ‹_›
          have q213 : x20_2 < (l0_0.length : Int) := of_decide_eq_true ‹_›
          obtain ⟨ad213, A213_0, c213_0, e213, hx213_0, hl213_0, hi213_0⟩ := at_L1 HR0_0.out x20_2 p213 q213
          cases e213
          replace hx213_0 := (HB.out.cell (World.block_lt_of_cell? w _ hx213_0)).trans hx213_0
          have HR213_0 := Aside0.mk hi213_0
          have HC213_0 := Aside0.mk hl213_0
          clear hi213_0 hl213_0
          replace p213 := eq_true p213
          replace q213 := eq_true q213
          go_wp2_with ((go_at_call 128; (with_reducible refine (impl_areIn.calls k2 t212 _ _ (rd_L1 l0_0 x20_2) true _ ?side1 ?side2 A14.out).mono ?_); (case side1 => exact (Kd.C_below HR213_0.out HB.out)); (case side2 => exact HC213_0.out); rintro e w' ⟨rfl, ⟨nd, rfl⟩⟩))
          repeat (go_quiet ((go_at_call 128; (with_reducible refine (impl_areIn.calls k2 t212 _ _ (rd_L1 l0_0 x20_2) true _ ?side1 ?side2 A14.out).mono ?_); (case side1 => repeat (first | exact (Kd.C_below HR213_0.out HB.out) | (with_reducible refine Kd.C_alloc ?_ _) | (with_reducible refine Kd.C_drewN ?_ _) | (with_reducible refine Kd.C_drew ?_))); (case side2 => exact HC213_0.out); rintro e w' ⟨rfl, ⟨nd, rfl⟩⟩; (try exact ⟨rfl, _, World.drewN_drewN _ _ _⟩))); try go_wp2_with ((go_at_call 128; (with_reducible refine (impl_areIn.calls k2 t212 _ _ (rd_L1 l0_0 x20_2) true _ ?side1 ?side2 A14.out).mono ?_); (case side1 => repeat (first | exact (Kd.C_below HR213_0.out HB.out) | (with_reducible refine Kd.C_alloc ?_ _) | (with_reducible refine Kd.C_drewN ?_ _) | (with_reducible refine Kd.C_drew ?_))); (case side2 => exact HC213_0.out); rintro e w' ⟨rfl, ⟨nd, rfl⟩⟩; (try exact ⟨rfl, _, World.drewN_drewN _ _ _⟩))))
          go_roundg k2
          case measure => have := HJ2.out; have := HK2.out; omega
          case rel => exact ⟨(wrap64 (x20_2 + 1)), (by rfl), H', ⟨by have := HJ2.out; have := HK2.out; omega⟩, ⟨by (with_reducible repeat (refine blk_drewN ?_ _)); exact BK211.out⟩, ⟨by repeat ((with_reducible first | exact HB.out | apply pw_below_drewN))⟩⟩
         replace c15 := Bool.eq_false_iff.mpr c15
         subst c15
         have H1 : (some false) = some r := by rw [if_neg (show ¬ (false = true) by decide)] at H; exact H
         clear H
         have H := H1
         clear H1
         obtain rfl := Option.some.inj H
         have p213 : 0 ≤ (x20_2 : Int) := of_decide_eq_true ‹_›
         have q213 : x20_2 < (l0_0.length : Int) := of_decide_eq_true ‹_›
         obtain ⟨ad213, A213_0, c213_0, e213, hx213_0, hl213_0, hi213_0⟩ := at_L1 HR0_0.out x20_2 p213 q213
         cases e213
         replace hx213_0 := (HB.out.cell (World.block_lt_of_cell? w _ hx213_0)).trans hx213_0
         have HR213_0 := Aside0.mk hi213_0
         have HC213_0 := Aside0.mk hl213_0
         clear hi213_0 hl213_0
         replace p213 := eq_true p213
         replace q213 := eq_true q213
         go_wp2_with ((go_at_call 128; (with_reducible refine (impl_areIn.calls k2 t212 _ _ (rd_L1 l0_0 x20_2) false _ ?side1 ?side2 A14.out).mono ?_); (case side1 => exact (Kd.C_below HR213_0.out HB.out)); (case side2 => exact HC213_0.out); rintro e w' ⟨rfl, ⟨nd, rfl⟩⟩))
         repeat (go_quiet ((go_at_call 128; (with_reducible refine (impl_areIn.calls k2 t212 _ _ (rd_L1 l0_0 x20_2) false _ ?side1 ?side2 A14.out).mono ?_); (case side1 => repeat (first | exact (Kd.C_below HR213_0.out HB.out) | (with_reducible refine Kd.C_alloc ?_ _) | (with_reducible refine Kd.C_drewN ?_ _) | (with_reducible refine Kd.C_drew ?_))); (case side2 => exact HC213_0.out); rintro e w' ⟨rfl, ⟨nd, rfl⟩⟩; (try exact ⟨rfl, _, World.drewN_drewN _ _ _⟩))); try go_wp2_with ((go_at_call 128; (with_reducible refine (impl_areIn.calls k2 t212 _ _ (rd_L1 l0_0 x20_2) false _ ?side1 ?side2 A14.out).mono ?_); (case side1 => repeat (first | exact (Kd.C_below HR213_0.out HB.out) | (with_reducible refine Kd.C_alloc ?_ _) | (with_reducible refine Kd.C_drewN ?_ _) | (with_reducible refine Kd.C_drew ?_))); (case side2 => exact HC213_0.out); rintro e w' ⟨rfl, ⟨nd, rfl⟩⟩; (try exact ⟨rfl, _, World.drewN_drewN _ _ _⟩))))
         go_ret
         exact ⟨by rfl, by repeat ((with_reducible first | exact HB.out | apply pw_below_drewN))⟩
        rw [if_neg c13] at H
        have c13b0 : (((rd_L1 l0_0 x20_2).length : Int) == t212) = false := beq_eq_false_iff_ne.mpr c13
        have c13b1 : (((rd_L1 l0_0 x20_2).length : Int) != t212) = true := bne_iff_ne.mpr c13
        obtain rfl := Option.some.inj H
        have p213 : 0 ≤ (x20_2 : Int) := of_decide_eq_true ‹_›
        have q213 : x20_2 < (l0_0.length : Int) := of_decide_eq_true ‹_›
        obtain ⟨ad213, A213_0, c213_0, e213, hx213_0, hl213_0, hi213_0⟩ := at_L1 HR0_0.out x20_2 p213 q213
        cases e213
        replace hx213_0 := (HB.out.cell (World.block_lt_of_cell? w _ hx213_0)).trans hx213_0
        have HR213_0 := Aside0.mk hi213_0
        have HC213_0 := Aside0.mk hl213_0
        clear hi213_0 hl213_0
        replace p213 := eq_true p213
        replace q213 := eq_true q213
        go_wp2
        repeat (go_quiet (fail); try go_wp2)
        go_ret
        exact ⟨by rfl, by exact HB.out⟩
       rw [if_neg c12] at H
       exact absurd H (by simp)
      rw [if_neg c11] at H
      exact absurd H (by simp)
     rw [if_neg c10] at H
     have c10b0 : decide (x20_2 < (l0_0.length : Int)) = false := decide_eq_false c10
     clear c10
     have H' := Aside0.mk H
     clear H
     go_wp2
     repeat (go_quiet (fail); try go_wp2)
     go_loopg [36] k2 (fun kq v36 w' => ∃ (x36_3 : Int), v36 = .int .i64 x36_3 ∧ Aside0 (impl_IsGroup.l1 kq t212 t212 x36_3 l0_0 = some r) ∧ Aside0 (kq ≤ k2) ∧ Aside0 (w'.heap[gb211]? = some (.cells #[(.slice A0_0 l0_0.length c0_0)] 33 (0, 0))) ∧ Aside0 (Below w.heap.size w w'))
     case atStart => exact ⟨(0), (by rfl), H', ⟨Nat.le_refl _⟩, ⟨by exact BK211.out⟩, ⟨by exact HB.out⟩⟩
     case round =>
      clear H' c10b0
      obtain ⟨x36_3, rfl, HA, HK3, BK211, HB⟩ := hrel
      cases gk with
      | zero => exact absurd HA.out (by simp [impl_IsGroup.l1])
      | succ k3 =>
       have H := HA.out
       clear HA
       simp only [impl_IsGroup.l1] at H
       by_cases c16 : x36_3 < t212
       ·rw [if_pos c16] at H
        have c16b0 : decide (x36_3 < t212) = true := decide_eq_true c16
        clear c16
        have HC17 := Aside0.mk H
        clear H
        go_upto_region 13 with (fail)
        repeat (go_quiet (fail); go_upto_region 13 with (fail))
        go_cut [67] (fun v67 wc => ∃ (kq : Nat) (x67_16 : Bool), v67 = .bool x67_16 ∧ Aside0 (impl_IsGroup.j3 kq t212 x36_3 t212 x36_3 x67_16 l0_0 = some r) ∧ Aside0 (kq ≤ k3) ∧ Aside0 (wc.heap[gb211]? = some (.cells #[(.slice A0_0 l0_0.length c0_0)] 33 (0, 0))) ∧ Aside0 (Below w.heap.size w wc))
        case first =>
         have H := HC17.out
         clear HC17
         by_cases c18 : 0 < (l0_0.length : Int)
         ·rw [if_pos c18] at H
          have c18b0 : decide (0 < (l0_0.length : Int)) = true := decide_eq_true c18
          have c18b1 : decide (0 < l0_0.length) = true := decide_eq_true (by omega)
          clear c18
          by_cases c19 : 0 ≤ x36_3
          ·rw [if_pos c19] at H
           have c19b0 : decide (0 ≤ x36_3) = true := decide_eq_true c19
           clear c19
           by_cases c20 : x36_3 < ((rd_L1 l0_0 0).length : Int)
           ·rw [if_pos c20] at H
            have c20b0 : decide (x36_3 < ((rd_L1 l0_0 0).length : Int)) = true := decide_eq_true c20
            clear c20
            by_cases c21 : (rd (rd_L1 l0_0 0) x36_3) = x36_3
            ·rw [if_pos c21] at H
             have c21b0 : ((rd (rd_L1 l0_0 0) x36_3) == x36_3) = true := beq_iff_eq.mpr c21
             have c21b1 : ((rd (rd_L1 l0_0 0) x36_3) != x36_3) = false := bne_eq_false_iff_eq.mpr c21
             clear c21
             by_cases c22 : x36_3 < (l0_0.length : Int)
             ·rw [if_pos c22] at H
              have c22b0 : decide (x36_3 < (l0_0.length : Int)) = true := decide_eq_true c22
              clear c22
              by_cases c23 : 0 < ((rd_L1 l0_0 x36_3).length : Int)
              ·rw [if_pos c23] at H
               have c23b0 : decide (0 < ((rd_L1 l0_0 x36_3).length : Int)) = true := decide_eq_true c23
               have c23b1 : decide (0 < (rd_L1 l0_0 x36_3).length) = true := decide_eq_true (by omega)
               clear c23
               by_cases c24 : (rd (rd_L1 l0_0 x36_3) 0) = x36_3
               ·rw [if_pos c24] at H
                have c24b0 : ((rd (rd_L1 l0_0 x36_3) 0) == x36_3) = true := beq_iff_eq.mpr c24
                have c24b1 : ((rd (rd_L1 l0_0 x36_3) 0) != x36_3) = false := bne_eq_false_iff_eq.mpr c24
                clear c24
                obtain ⟨t220, A25, H⟩ := bnd H
                try dsimp only at H
                have H' := Aside0.mk H
                clear H
                have hcz26_0 := bc0 BK211.out
                have hfz26_0 := blk_frozen BK211.out 0
                have p215 : 0 ≤ (0 : Int) := (by omega)
                have q215 : 0 < (l0_0.length : Int) := of_decide_eq_true ‹_›
                obtain ⟨ad215, A215_0, c215_0, e215, hx215_0, hl215_0, hi215_0⟩ := at_L1 HR0_0.out 0 p215 q215
                cases e215
                have qi215 : (0 < l0_0.length) = True := eq_true (by omega)
                (rw [show ((0 : Int)).toNat = 0 from rfl] at hx215_0)
                (rw [Addr.add_zero'] at hx215_0)
                replace hx215_0 := (HB.out.cell (World.block_lt_of_cell? w _ hx215_0)).trans hx215_0
                have HR215_0 := Aside0.mk hi215_0
                have HC215_0 := Aside0.mk hl215_0
                clear hi215_0 hl215_0
                replace p215 := eq_true p215
                replace q215 := eq_true q215
                have p216 : 0 ≤ (x36_3 : Int) := of_decide_eq_true ‹_›
                have q216 : x36_3 < ((rd_L1 l0_0 0).length : Int) := of_decide_eq_true ‹_›
                obtain ⟨ad216, e216, hx216_0⟩ := Kd.at_int HR215_0.out x36_3 p216 q216
                cases e216
                replace hx216_0 := (HB.out.cell (World.block_lt_of_cell? w _ hx216_0)).trans hx216_0
                replace p216 := eq_true p216
                replace q216 := eq_true q216
                have p217 : 0 ≤ (x36_3 : Int) := of_decide_eq_true ‹_›
                have q217 : x36_3 < (l0_0.length : Int) := of_decide_eq_true ‹_›
                obtain ⟨ad217, A217_0, c217_0, e217, hx217_0, hl217_0, hi217_0⟩ := at_L1 HR0_0.out x36_3 p217 q217
                obtain rfl : ad215 = ad217 := (by injection e217)
                replace hx217_0 := (HB.out.cell (World.block_lt_of_cell? w _ hx217_0)).trans hx217_0
                have HR217_0 := Aside0.mk hi217_0
                have HC217_0 := Aside0.mk hl217_0
                clear hi217_0 hl217_0
                replace p217 := eq_true p217
                replace q217 := eq_true q217
                have p218 : 0 ≤ (0 : Int) := (by omega)
                have q218 : 0 < ((rd_L1 l0_0 x36_3).length : Int) := of_decide_eq_true ‹_›
                obtain ⟨ad218, e218, hx218_0⟩ := Kd.at_int HR217_0.out 0 p218 q218
                cases e218
                have qi218 : (0 < (rd_L1 l0_0 x36_3).length) = True := eq_true (by omega)
                (rw [show ((0 : Int)).toNat = 0 from rfl] at hx218_0)
                (rw [Addr.add_zero'] at hx218_0)
                replace hx218_0 := (HB.out.cell (World.block_lt_of_cell? w _ hx218_0)).trans hx218_0
                replace p218 := eq_true p218
                replace q218 := eq_true q218
                have p219 : 0 ≤ (x36_3 : Int) := of_decide_eq_true ‹_›
                have q219 : x36_3 < (l0_0.length : Int) := of_decide_eq_true ‹_›
                obtain ⟨ad219, A219_0, c219_0, e219, hx219_0, hl219_0, hi219_0⟩ := at_L1 HR0_0.out x36_3 p219 q219
                obtain rfl : ad215 = ad219 := (by injection e219)
                replace hx219_0 := (HB.out.cell (World.block_lt_of_cell? w _ hx219_0)).trans hx219_0
                have HR219_0 := Aside0.mk hi219_0
                have HC219_0 := Aside0.mk hl219_0
                clear hi219_0 hl219_0
                replace p219 := eq_true p219
                replace q219 := eq_true q219
                have ea_ := Option.some.inj (hx217_0.symm.trans hx219_0)
                injection ea_ with ea_ en_ ec_
                subst ea_
                subst ec_
                clear en_
                go_wp2_with ((go_at_call 175; (with_reducible refine (slices_Contains_int64_int64.calls k3 _ _ (rd_L1 l0_0 x36_3) 0 t220 _ ?side1 ?side2 A25.out).mono ?_); (case side1 => exact (Kd.C_below HR219_0.out HB.out)); (case side2 => exact HC219_0.out); rintro e w' ⟨rfl, ⟨nd, rfl⟩⟩))
                repeat (go_quiet ((go_at_call 175; (with_reducible refine (slices_Contains_int64_int64.calls k3 _ _ (rd_L1 l0_0 x36_3) 0 t220 _ ?side1 ?side2 A25.out).mono ?_); (case side1 => repeat (first | exact (Kd.C_below HR219_0.out HB.out) | (with_reducible refine Kd.C_alloc ?_ _) | (with_reducible refine Kd.C_drewN ?_ _) | (with_reducible refine Kd.C_drew ?_))); (case side2 => exact HC219_0.out); rintro e w' ⟨rfl, ⟨nd, rfl⟩⟩; (try exact ⟨rfl, _, World.drewN_drewN _ _ _⟩))); try go_wp2_with ((go_at_call 175; (with_reducible refine (slices_Contains_int64_int64.calls k3 _ _ (rd_L1 l0_0 x36_3) 0 t220 _ ?side1 ?side2 A25.out).mono ?_); (case side1 => repeat (first | exact (Kd.C_below HR219_0.out HB.out) | (with_reducible refine Kd.C_alloc ?_ _) | (with_reducible refine Kd.C_drewN ?_ _) | (with_reducible refine Kd.C_drew ?_))); (case side2 => exact HC219_0.out); rintro e w' ⟨rfl, ⟨nd, rfl⟩⟩; (try exact ⟨rfl, _, World.drewN_drewN _ _ _⟩))))
                go_meet
                case rel => exact ⟨_, (!t220), (by rfl), H', ⟨by have := HJ2.out; have := HK2.out; have := HK3.out; omega⟩, ⟨by (with_reducible repeat (refine blk_drewN ?_ _)); exact BK211.out⟩, ⟨by repeat ((with_reducible first | exact HB.out | apply pw_below_drewN))⟩⟩
               rw [if_neg c24] at H
               have c24b0 : ((rd (rd_L1 l0_0 x36_3) 0) == x36_3) = false := beq_eq_false_iff_ne.mpr c24
               have c24b1 : ((rd (rd_L1 l0_0 x36_3) 0) != x36_3) = true := bne_iff_ne.mpr c24
               have H' := Aside0.mk H
               clear H
               have hcz27_0 := bc0 BK211.out
               have hfz27_0 := blk_frozen BK211.out 0
               have p215 : 0 ≤ (0 : Int) := (by omega)
               have q215 : 0 < (l0_0.length : Int) := of_decide_eq_true ‹_›
               obtain ⟨ad215, A215_0, c215_0, e215, hx215_0, hl215_0, hi215_0⟩ := at_L1 HR0_0.out 0 p215 q215
               cases e215
               have qi215 : (0 < l0_0.length) = True := eq_true (by omega)
               (rw [show ((0 : Int)).toNat = 0 from rfl] at hx215_0)
               (rw [Addr.add_zero'] at hx215_0)
               replace hx215_0 := (HB.out.cell (World.block_lt_of_cell? w _ hx215_0)).trans hx215_0
               have HR215_0 := Aside0.mk hi215_0
               have HC215_0 := Aside0.mk hl215_0
               clear hi215_0 hl215_0
               replace p215 := eq_true p215
               replace q215 := eq_true q215
               have p216 : 0 ≤ (x36_3 : Int) := of_decide_eq_true ‹_›
               have q216 : x36_3 < ((rd_L1 l0_0 0).length : Int) := of_decide_eq_true ‹_›
               obtain ⟨ad216, e216, hx216_0⟩ := Kd.at_int HR215_0.out x36_3 p216 q216
               cases e216
               replace hx216_0 := (HB.out.cell (World.block_lt_of_cell? w _ hx216_0)).trans hx216_0
               replace p216 := eq_true p216
               replace q216 := eq_true q216
               have p217 : 0 ≤ (x36_3 : Int) := of_decide_eq_true ‹_›
               have q217 : x36_3 < (l0_0.length : Int) := of_decide_eq_true ‹_›
               obtain ⟨ad217, A217_0, c217_0, e217, hx217_0, hl217_0, hi217_0⟩ := at_L1 HR0_0.out x36_3 p217 q217
               obtain rfl : ad215 = ad217 := (by injection e217)
               replace hx217_0 := (HB.out.cell (World.block_lt_of_cell? w _ hx217_0)).trans hx217_0
               have HR217_0 := Aside0.mk hi217_0
               have HC217_0 := Aside0.mk hl217_0
               clear hi217_0 hl217_0
               replace p217 := eq_true p217
               replace q217 := eq_true q217
               have p218 : 0 ≤ (0 : Int) := (by omega)
               have q218 : 0 < ((rd_L1 l0_0 x36_3).length : Int) := of_decide_eq_true ‹_›
               obtain ⟨ad218, e218, hx218_0⟩ := Kd.at_int HR217_0.out 0 p218 q218
               cases e218
               have qi218 : (0 < (rd_L1 l0_0 x36_3).length) = True := eq_true (by omega)
               (rw [show ((0 : Int)).toNat = 0 from rfl] at hx218_0)
               (rw [Addr.add_zero'] at hx218_0)
               replace hx218_0 := (HB.out.cell (World.block_lt_of_cell? w _ hx218_0)).trans hx218_0
               replace p218 := eq_true p218
               replace q218 := eq_true q218
               go_wp2
               repeat (go_quiet (fail); try go_wp2)
               go_meet
               case rel => exact ⟨_, (true), (by rfl), H', ⟨by have := HJ2.out; have := HK2.out; have := HK3.out; omega⟩, ⟨by exact BK211.out⟩, ⟨by exact HB.out⟩⟩
              rw [if_neg c23] at H
              exact absurd H (by simp)
             rw [if_neg c22] at H
             exact absurd H (by simp)
            rw [if_neg c21] at H
            have c21b0 : ((rd (rd_L1 l0_0 0) x36_3) == x36_3) = false := beq_eq_false_iff_ne.mpr c21
            have c21b1 : ((rd (rd_L1 l0_0 0) x36_3) != x36_3) = true := bne_iff_ne.mpr c21
            have H' := Aside0.mk H
            clear H
            have hcz28_0 := bc0 BK211.out
            have hfz28_0 := blk_frozen BK211.out 0
            have p215 : 0 ≤ (0 : Int) := (by omega)
            have q215 : 0 < (l0_0.length : Int) := of_decide_eq_true ‹_›
            obtain ⟨ad215, A215_0, c215_0, e215, hx215_0, hl215_0, hi215_0⟩ := at_L1 HR0_0.out 0 p215 q215
            cases e215
            have qi215 : (0 < l0_0.length) = True := eq_true (by omega)
            (rw [show ((0 : Int)).toNat = 0 from rfl] at hx215_0)
            (rw [Addr.add_zero'] at hx215_0)
            replace hx215_0 := (HB.out.cell (World.block_lt_of_cell? w _ hx215_0)).trans hx215_0
            have HR215_0 := Aside0.mk hi215_0
            have HC215_0 := Aside0.mk hl215_0
            clear hi215_0 hl215_0
            replace p215 := eq_true p215
            replace q215 := eq_true q215
            have p216 : 0 ≤ (x36_3 : Int) := of_decide_eq_true ‹_›
            have q216 : x36_3 < ((rd_L1 l0_0 0).length : Int) := of_decide_eq_true ‹_›
            obtain ⟨ad216, e216, hx216_0⟩ := Kd.at_int HR215_0.out x36_3 p216 q216
            cases e216
            replace hx216_0 := (HB.out.cell (World.block_lt_of_cell? w _ hx216_0)).trans hx216_0
            replace p216 := eq_true p216
            replace q216 := eq_true q216
            go_wp2
            repeat (go_quiet (fail); try go_wp2)
            go_meet
            case rel => exact ⟨_, (true), (by rfl), H', ⟨by have := HJ2.out; have := HK2.out; have := HK3.out; omega⟩, ⟨by exact BK211.out⟩, ⟨by exact HB.out⟩⟩
           rw [if_neg c20] at H
           exact absurd H (by simp)
          rw [if_neg c19] at H
          exact absurd H (by simp)
         rw [if_neg c18] at H
         exact absurd H (by simp)
        case rest =>
         clear HC17 c16b0
         obtain ⟨kq, x67_16, rfl, HA, HJ16, BK211, HB⟩ := hcut
         cases kq with
         | zero => exact absurd HA.out (by simp [impl_IsGroup.j3])
         | succ kj16 =>
          have H := HA.out
          clear HA
          simp only [impl_IsGroup.j3] at H
          by_cases c29 : x67_16 = true
          ·subst c29
           have H1 : (some false) = some r := by rw [if_pos rfl] at H; exact H
           clear H
           have H := H1
           clear H1
           obtain rfl := Option.some.inj H
           go_wp2
           repeat (go_quiet (fail); try go_wp2)
           go_ret
           exact ⟨by rfl, by exact HB.out⟩
          replace c29 := Bool.eq_false_iff.mpr c29
          subst c29
          have H1 : (impl_IsGroup.l2 kj16 t212 x36_3 t212 x36_3 t212 0 l0_0) = some r := by rw [if_neg (show ¬ (false = true) by decide)] at H; exact H
          clear H
          have H := H1
          clear H1
          have H' := Aside0.mk H
          clear H
          go_wp2
          repeat (go_quiet (fail); try go_wp2)
          go_loopg [69] kj16 (fun kq v69 w' => ∃ (x69_5 : Int), v69 = .int .i64 x69_5 ∧ Aside0 (impl_IsGroup.l2 kq t212 x36_3 t212 x36_3 t212 x69_5 l0_0 = some r) ∧ Aside0 (kq ≤ kj16) ∧ Aside0 (w'.heap[gb211]? = some (.cells #[(.slice A0_0 l0_0.length c0_0)] 33 (0, 0))) ∧ Aside0 (Below w.heap.size w w'))
          case atStart => exact ⟨(0), (by rfl), H', ⟨Nat.le_refl _⟩, ⟨by exact BK211.out⟩, ⟨by exact HB.out⟩⟩
          case round =>
           clear H'
           obtain ⟨x69_5, rfl, HA, HK5, BK211, HB⟩ := hrel
           cases gk with
           | zero => exact absurd HA.out (by simp [impl_IsGroup.l2])
           | succ k5 =>
            have H := HA.out
            clear HA
            simp only [impl_IsGroup.l2] at H
            by_cases c30 : x69_5 < t212
            ·rw [if_pos c30] at H
             have c30b0 : decide (x69_5 < t212) = true := decide_eq_true c30
             clear c30
             have H' := Aside0.mk H
             clear H
             go_wp2
             repeat (go_quiet (fail); try go_wp2)
             go_loopg [73] k5 (fun kq v73 w' => ∃ (x73_6 : Int), v73 = .int .i64 x73_6 ∧ Aside0 (impl_IsGroup.l3 kq t212 x36_3 x69_5 t212 x36_3 t212 x69_5 t212 x73_6 l0_0 = some r) ∧ Aside0 (kq ≤ k5) ∧ Aside0 (w'.heap[gb211]? = some (.cells #[(.slice A0_0 l0_0.length c0_0)] 33 (0, 0))) ∧ Aside0 (Below w.heap.size w w'))
             case atStart => exact ⟨(0), (by rfl), H', ⟨Nat.le_refl _⟩, ⟨by exact BK211.out⟩, ⟨by exact HB.out⟩⟩
             case round =>
              clear H' c30b0
              obtain ⟨x73_6, rfl, HA, HK6, BK211, HB⟩ := hrel
              cases gk with
              | zero => exact absurd HA.out (by simp [impl_IsGroup.l3])
              | succ k6 =>
               have H := HA.out
               clear HA
               simp only [impl_IsGroup.l3] at H
               by_cases c31 : x73_6 < t212
               ·rw [if_pos c31] at H
                have c31b0 : decide (x73_6 < t212) = true := decide_eq_true c31
                clear c31
                by_cases c32 : 0 ≤ x36_3
                ·rw [if_pos c32] at H
                 have c32b0 : decide (0 ≤ x36_3) = true := decide_eq_true c32
                 clear c32
                 by_cases c33 : x36_3 < (l0_0.length : Int)
                 ·rw [if_pos c33] at H
                  have c33b0 : decide (x36_3 < (l0_0.length : Int)) = true := decide_eq_true c33
                  clear c33
                  by_cases c34 : 0 ≤ x69_5
                  ·rw [if_pos c34] at H
                   have c34b0 : decide (0 ≤ x69_5) = true := decide_eq_true c34
                   clear c34
                   by_cases c35 : x69_5 < ((rd_L1 l0_0 x36_3).length : Int)
                   ·rw [if_pos c35] at H
                    have c35b0 : decide (x69_5 < ((rd_L1 l0_0 x36_3).length : Int)) = true := decide_eq_true c35
                    clear c35
                    by_cases c36 : 0 ≤ (rd (rd_L1 l0_0 x36_3) x69_5)
                    ·rw [if_pos c36] at H
                     have c36b0 : decide (0 ≤ (rd (rd_L1 l0_0 x36_3) x69_5)) = true := decide_eq_true c36
                     clear c36
                     by_cases c37 : (rd (rd_L1 l0_0 x36_3) x69_5) < (l0_0.length : Int)
                     ·rw [if_pos c37] at H
                      have c37b0 : decide ((rd (rd_L1 l0_0 x36_3) x69_5) < (l0_0.length : Int)) = true := decide_eq_true c37
                      clear c37
                      by_cases c38 : 0 ≤ x73_6
                      ·rw [if_pos c38] at H
                       have c38b0 : decide (0 ≤ x73_6) = true := decide_eq_true c38
                       clear c38
                       by_cases c39 : x73_6 < ((rd_L1 l0_0 (rd (rd_L1 l0_0 x36_3) x69_5)).length : Int)
                       ·rw [if_pos c39] at H
                        have c39b0 : decide (x73_6 < ((rd_L1 l0_0 (rd (rd_L1 l0_0 x36_3) x69_5)).length : Int)) = true := decide_eq_true c39
                        clear c39
                        by_cases c40 : x69_5 < (l0_0.length : Int)
                        ·rw [if_pos c40] at H
                         have c40b0 : decide (x69_5 < (l0_0.length : Int)) = true := decide_eq_true c40
                         clear c40
                         by_cases c41 : x73_6 < ((rd_L1 l0_0 x69_5).length : Int)
                         ·rw [if_pos c41] at H
                          have c41b0 : decide (x73_6 < ((rd_L1 l0_0 x69_5).length : Int)) = true := decide_eq_true c41
                          clear c41
                          by_cases c42 : 0 ≤ (rd (rd_L1 l0_0 x69_5) x73_6)
                          ·rw [if_pos c42] at H
                           have c42b0 : decide (0 ≤ (rd (rd_L1 l0_0 x69_5) x73_6)) = true := decide_eq_true c42
                           clear c42
                           by_cases c43 : (rd (rd_L1 l0_0 x69_5) x73_6) < ((rd_L1 l0_0 x36_3).length : Int)
                           ·rw [if_pos c43] at H
                            have c43b0 : decide ((rd (rd_L1 l0_0 x69_5) x73_6) < ((rd_L1 l0_0 x36_3).length : Int)) = true := decide_eq_true c43
                            clear c43
                            by_cases c44 : (rd (rd_L1 l0_0 (rd (rd_L1 l0_0 x36_3) x69_5)) x73_6) = (rd (rd_L1 l0_0 x36_3) (rd (rd_L1 l0_0 x69_5) x73_6))
                            ·rw [if_pos c44] at H
                             have c44b0 : ((rd (rd_L1 l0_0 (rd (rd_L1 l0_0 x36_3) x69_5)) x73_6) == (rd (rd_L1 l0_0 x36_3) (rd (rd_L1 l0_0 x69_5) x73_6))) = true := beq_iff_eq.mpr c44
                             have c44b1 : ((rd (rd_L1 l0_0 (rd (rd_L1 l0_0 x36_3) x69_5)) x73_6) != (rd (rd_L1 l0_0 x36_3) (rd (rd_L1 l0_0 x69_5) x73_6))) = false := bne_eq_false_iff_eq.mpr c44
                             clear c44
                             have H' := Aside0.mk H
                             clear H
                             have hcz45_0 := bc0 BK211.out
                             have hfz45_0 := blk_frozen BK211.out 0
                             have p221 : 0 ≤ (x36_3 : Int) := of_decide_eq_true ‹_›
                             have q221 : x36_3 < (l0_0.length : Int) := of_decide_eq_true ‹_›
                             obtain ⟨ad221, A221_0, c221_0, e221, hx221_0, hl221_0, hi221_0⟩ := at_L1 HR0_0.out x36_3 p221 q221
                             cases e221
                             replace hx221_0 := (HB.out.cell (World.block_lt_of_cell? w _ hx221_0)).trans hx221_0
                             have HR221_0 := Aside0.mk hi221_0
                             have HC221_0 := Aside0.mk hl221_0
                             clear hi221_0 hl221_0
                             replace p221 := eq_true p221
                             replace q221 := eq_true q221
                             have p222 : 0 ≤ (x69_5 : Int) := of_decide_eq_true ‹_›
                             have q222 : x69_5 < ((rd_L1 l0_0 x36_3).length : Int) := of_decide_eq_true ‹_›
                             obtain ⟨ad222, e222, hx222_0⟩ := Kd.at_int HR221_0.out x69_5 p222 q222
                             cases e222
                             replace hx222_0 := (HB.out.cell (World.block_lt_of_cell? w _ hx222_0)).trans hx222_0
                             replace p222 := eq_true p222
                             replace q222 := eq_true q222
                             have p223 : 0 ≤ ((rd (rd_L1 l0_0 x36_3) x69_5) : Int) := of_decide_eq_true ‹_›
                             have q223 : (rd (rd_L1 l0_0 x36_3) x69_5) < (l0_0.length : Int) := of_decide_eq_true ‹_›
                             obtain ⟨ad223, A223_0, c223_0, e223, hx223_0, hl223_0, hi223_0⟩ := at_L1 HR0_0.out (rd (rd_L1 l0_0 x36_3) x69_5) p223 q223
                             obtain rfl : ad221 = ad223 := (by injection e223)
                             replace hx223_0 := (HB.out.cell (World.block_lt_of_cell? w _ hx223_0)).trans hx223_0
                             have HR223_0 := Aside0.mk hi223_0
                             have HC223_0 := Aside0.mk hl223_0
                             clear hi223_0 hl223_0
                             replace p223 := eq_true p223
                             replace q223 := eq_true q223
                             have p224 : 0 ≤ (x73_6 : Int) := of_decide_eq_true ‹_›
                             have q224 : x73_6 < ((rd_L1 l0_0 (rd (rd_L1 l0_0 x36_3) x69_5)).length : Int) := of_decide_eq_true ‹_›
                             obtain ⟨ad224, e224, hx224_0⟩ := Kd.at_int HR223_0.out x73_6 p224 q224
                             cases e224
                             replace hx224_0 := (HB.out.cell (World.block_lt_of_cell? w _ hx224_0)).trans hx224_0
                             replace p224 := eq_true p224
                             replace q224 := eq_true q224
                             have p225 : 0 ≤ (x36_3 : Int) := of_decide_eq_true ‹_›
                             have q225 : x36_3 < (l0_0.length : Int) := of_decide_eq_true ‹_›
                             obtain ⟨ad225, A225_0, c225_0, e225, hx225_0, hl225_0, hi225_0⟩ := at_L1 HR0_0.out x36_3 p225 q225
                             obtain rfl : ad221 = ad225 := (by injection e225)
                             replace hx225_0 := (HB.out.cell (World.block_lt_of_cell? w _ hx225_0)).trans hx225_0
                             have HR225_0 := Aside0.mk hi225_0
                             have HC225_0 := Aside0.mk hl225_0
                             clear hi225_0 hl225_0
                             replace p225 := eq_true p225
                             replace q225 := eq_true q225
                             have ea_ := Option.some.inj (hx221_0.symm.trans hx225_0)
                             injection ea_ with ea_ en_ ec_
                             subst ea_
                             subst ec_
                             clear en_
                             have p226 : 0 ≤ (x69_5 : Int) := of_decide_eq_true ‹_›
                             have q226 : x69_5 < (l0_0.length : Int) := of_decide_eq_true ‹_›
                             obtain ⟨ad226, A226_0, c226_0, e226, hx226_0, hl226_0, hi226_0⟩ := at_L1 HR0_0.out x69_5 p226 q226
                             obtain rfl : ad221 = ad226 := (by injection e226)
                             replace hx226_0 := (HB.out.cell (World.block_lt_of_cell? w _ hx226_0)).trans hx226_0
                             have HR226_0 := Aside0.mk hi226_0
                             have HC226_0 := Aside0.mk hl226_0
                             clear hi226_0 hl226_0
                             replace p226 := eq_true p226
                             replace q226 := eq_true q226
                             have p227 : 0 ≤ (x73_6 : Int) := of_decide_eq_true ‹_›
                             have q227 : x73_6 < ((rd_L1 l0_0 x69_5).length : Int) := of_decide_eq_true ‹_›
                             obtain ⟨ad227, e227, hx227_0⟩ := Kd.at_int HR226_0.out x73_6 p227 q227
                             cases e227
                             replace hx227_0 := (HB.out.cell (World.block_lt_of_cell? w _ hx227_0)).trans hx227_0
                             replace p227 := eq_true p227
                             replace q227 := eq_true q227
                             have p228 : 0 ≤ ((rd (rd_L1 l0_0 x69_5) x73_6) : Int) := of_decide_eq_true ‹_›
                             have q228 : (rd (rd_L1 l0_0 x69_5) x73_6) < ((rd_L1 l0_0 x36_3).length : Int) := of_decide_eq_true ‹_›
                             obtain ⟨ad228, e228, hx228_0⟩ := Kd.at_int HR225_0.out (rd (rd_L1 l0_0 x69_5) x73_6) p228 q228
                             cases e228
                             replace hx228_0 := (HB.out.cell (World.block_lt_of_cell? w _ hx228_0)).trans hx228_0
                             replace p228 := eq_true p228
                             replace q228 := eq_true q228
                             go_wp2
                             repeat (go_quiet (fail); go_wp2)
                             go_roundg k6
                             case measure => have := HJ2.out; have := HK2.out; have := HK3.out; have := HJ16.out; have := HK5.out; have := HK6.out; omega
                             case rel => exact ⟨(wrap64 (x73_6 + 1)), (by rfl), H', ⟨by have := HJ2.out; have := HK2.out; have := HK3.out; have := HJ16.out; have := HK5.out; have := HK6.out; omega⟩, ⟨by (with_reducible repeat (refine blk_drewN ?_ _)); exact BK211.out⟩, ⟨by repeat ((with_reducible first | exact HB.out | apply pw_below_drewN))⟩⟩
                            rw [if_neg c44] at H
                            have c44b0 : ((rd (rd_L1 l0_0 (rd (rd_L1 l0_0 x36_3) x69_5)) x73_6) == (rd (rd_L1 l0_0 x36_3) (rd (rd_L1 l0_0 x69_5) x73_6))) = false := beq_eq_false_iff_ne.mpr c44
                            have c44b1 : ((rd (rd_L1 l0_0 (rd (rd_L1 l0_0 x36_3) x69_5)) x73_6) != (rd (rd_L1 l0_0 x36_3) (rd (rd_L1 l0_0 x69_5) x73_6))) = true := bne_iff_ne.mpr c44
                            obtain rfl := Option.some.inj H
                            have hcz46_0 := bc0 BK211.out
                            have hfz46_0 := blk_frozen BK211.out 0
                            have p221 : 0 ≤ (x36_3 : Int) := of_decide_eq_true ‹_›
                            have q221 : x36_3 < (l0_0.length : Int) := of_decide_eq_true ‹_›
                            obtain ⟨ad221, A221_0, c221_0, e221, hx221_0, hl221_0, hi221_0⟩ := at_L1 HR0_0.out x36_3 p221 q221
                            cases e221
                            replace hx221_0 := (HB.out.cell (World.block_lt_of_cell? w _ hx221_0)).trans hx221_0
                            have HR221_0 := Aside0.mk hi221_0
                            have HC221_0 := Aside0.mk hl221_0
                            clear hi221_0 hl221_0
                            replace p221 := eq_true p221
                            replace q221 := eq_true q221
                            have p222 : 0 ≤ (x69_5 : Int) := of_decide_eq_true ‹_›
                            have q222 : x69_5 < ((rd_L1 l0_0 x36_3).length : Int) := of_decide_eq_true ‹_›
                            obtain ⟨ad222, e222, hx222_0⟩ := Kd.at_int HR221_0.out x69_5 p222 q222
                            cases e222
                            replace hx222_0 := (HB.out.cell (World.block_lt_of_cell? w _ hx222_0)).trans hx222_0
                            replace p222 := eq_true p222
                            replace q222 := eq_true q222
                            have p223 : 0 ≤ ((rd (rd_L1 l0_0 x36_3) x69_5) : Int) := of_decide_eq_true ‹_›
                            have q223 : (rd (rd_L1 l0_0 x36_3) x69_5) < (l0_0.length : Int) := of_decide_eq_true ‹_›
                            obtain ⟨ad223, A223_0, c223_0, e223, hx223_0, hl223_0, hi223_0⟩ := at_L1 HR0_0.out (rd (rd_L1 l0_0 x36_3) x69_5) p223 q223
                            obtain rfl : ad221 = ad223 := (by injection e223)
                            replace hx223_0 := (HB.out.cell (World.block_lt_of_cell? w _ hx223_0)).trans hx223_0
                            have HR223_0 := Aside0.mk hi223_0
                            have HC223_0 := Aside0.mk hl223_0
                            clear hi223_0 hl223_0
                            replace p223 := eq_true p223
                            replace q223 := eq_true q223
                            have p224 : 0 ≤ (x73_6 : Int) := of_decide_eq_true ‹_›
                            have q224 : x73_6 < ((rd_L1 l0_0 (rd (rd_L1 l0_0 x36_3) x69_5)).length : Int) := of_decide_eq_true ‹_›
                            obtain ⟨ad224, e224, hx224_0⟩ := Kd.at_int HR223_0.out x73_6 p224 q224
                            cases e224
                            replace hx224_0 := (HB.out.cell (World.block_lt_of_cell? w _ hx224_0)).trans hx224_0
                            replace p224 := eq_true p224
                            replace q224 := eq_true q224
                            have p225 : 0 ≤ (x36_3 : Int) := of_decide_eq_true ‹_›
                            have q225 : x36_3 < (l0_0.length : Int) := of_decide_eq_true ‹_›
                            obtain ⟨ad225, A225_0, c225_0, e225, hx225_0, hl225_0, hi225_0⟩ := at_L1 HR0_0.out x36_3 p225 q225
                            obtain rfl : ad221 = ad225 := (by injection e225)
                            replace hx225_0 := (HB.out.cell (World.block_lt_of_cell? w _ hx225_0)).trans hx225_0
                            have HR225_0 := Aside0.mk hi225_0
                            have HC225_0 := Aside0.mk hl225_0
                            clear hi225_0 hl225_0
                            replace p225 := eq_true p225
                            replace q225 := eq_true q225
                            have ea_ := Option.some.inj (hx221_0.symm.trans hx225_0)
                            injection ea_ with ea_ en_ ec_
                            subst ea_
                            subst ec_
                            clear en_
                            have p226 : 0 ≤ (x69_5 : Int) := of_decide_eq_true ‹_›
                            have q226 : x69_5 < (l0_0.length : Int) := of_decide_eq_true ‹_›
                            obtain ⟨ad226, A226_0, c226_0, e226, hx226_0, hl226_0, hi226_0⟩ := at_L1 HR0_0.out x69_5 p226 q226
                            obtain rfl : ad221 = ad226 := (by injection e226)
                            replace hx226_0 := (HB.out.cell (World.block_lt_of_cell? w _ hx226_0)).trans hx226_0
                            have HR226_0 := Aside0.mk hi226_0
                            have HC226_0 := Aside0.mk hl226_0
                            clear hi226_0 hl226_0
                            replace p226 := eq_true p226
                            replace q226 := eq_true q226
                            have p227 : 0 ≤ (x73_6 : Int) := of_decide_eq_true ‹_›
                            have q227 : x73_6 < ((rd_L1 l0_0 x69_5).length : Int) := of_decide_eq_true ‹_›
                            obtain ⟨ad227, e227, hx227_0⟩ := Kd.at_int HR226_0.out x73_6 p227 q227
                            cases e227
                            replace hx227_0 := (HB.out.cell (World.block_lt_of_cell? w _ hx227_0)).trans hx227_0
                            replace p227 := eq_true p227
                            replace q227 := eq_true q227
                            have p228 : 0 ≤ ((rd (rd_L1 l0_0 x69_5) x73_6) : Int) := of_decide_eq_true ‹_›
                            have q228 : (rd (rd_L1 l0_0 x69_5) x73_6) < ((rd_L1 l0_0 x36_3).length : Int) := of_decide_eq_true ‹_›
                            obtain ⟨ad228, e228, hx228_0⟩ := Kd.at_int HR225_0.out (rd (rd_L1 l0_0 x69_5) x73_6) p228 q228
                            cases e228
                            replace hx228_0 := (HB.out.cell (World.block_lt_of_cell? w _ hx228_0)).trans hx228_0
                            replace p228 := eq_true p228
                            replace q228 := eq_true q228
                            go_wp2
                            repeat (go_quiet (fail); go_wp2)
                            go_ret
                            exact ⟨by rfl, by repeat ((with_reducible first | exact HB.out | apply pw_below_drewN))⟩
                           rw [if_neg c43] at H
                           exact absurd H (by simp)
                          rw [if_neg c42] at H
                          exact absurd H (by simp)
                         rw [if_neg c41] at H
                         exact absurd H (by simp)
                        rw [if_neg c40] at H
                        exact absurd H (by simp)
                       rw [if_neg c39] at H
                       exact absurd H (by simp)
                      rw [if_neg c38] at H
                      exact absurd H (by simp)
                     rw [if_neg c37] at H
                     exact absurd H (by simp)
                    rw [if_neg c36] at H
                    exact absurd H (by simp)
                   rw [if_neg c35] at H
                   exact absurd H (by simp)
                  rw [if_neg c34] at H
                  exact absurd H (by simp)
                 rw [if_neg c33] at H
                 exact absurd H (by simp)
                rw [if_neg c32] at H
                exact absurd H (by simp)
               rw [if_neg c31] at H
               have c31b0 : decide (x73_6 < t212) = false := decide_eq_false c31
               clear c31
               have H' := Aside0.mk H
               clear H
               go_wp2
               repeat (go_quiet (fail); try go_wp2)
               go_roundg k6
               case measure => have := HJ2.out; have := HK2.out; have := HK3.out; have := HJ16.out; have := HK5.out; have := HK6.out; omega
               case rel => exact ⟨(wrap64 (x69_5 + 1)), (by rfl), H', ⟨by have := HJ2.out; have := HK2.out; have := HK3.out; have := HJ16.out; have := HK5.out; have := HK6.out; omega⟩, ⟨by exact BK211.out⟩, ⟨by exact HB.out⟩⟩
            rw [if_neg c30] at H
            have c30b0 : decide (x69_5 < t212) = false := decide_eq_false c30
            clear c30
            have H' := Aside0.mk H
            clear H
            go_wp2
            repeat (go_quiet (fail); try go_wp2)
            go_roundg k5
            case measure => have := HJ2.out; have := HK2.out; have := HK3.out; have := HJ16.out; have := HK5.out; omega
            case rel => exact ⟨(wrap64 (x36_3 + 1)), (by rfl), H', ⟨by have := HJ2.out; have := HK2.out; have := HK3.out; have := HJ16.out; have := HK5.out; omega⟩, ⟨by exact BK211.out⟩, ⟨by exact HB.out⟩⟩
       rw [if_neg c16] at H
       have c16b0 : decide (x36_3 < t212) = false := decide_eq_false c16
       clear c16
       obtain rfl := Option.some.inj H
       go_wp2
       repeat (go_quiet (fail); try go_wp2)
       go_ret
       exact ⟨by rfl, by exact HB.out⟩

end Go.Proofs.Ytkpcogaahgfmcaa.PFnExactOuterModule
