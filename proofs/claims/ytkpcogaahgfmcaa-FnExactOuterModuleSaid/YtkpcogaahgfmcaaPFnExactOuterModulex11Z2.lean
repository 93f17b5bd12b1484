-- Made by a program of this session (wip/tools: the patched printer), for this claim.
import Derived.Test.YtkpcogaahgfmcaaXSqZ2
import Derived.Test.YtkpcogaahgfmcaaPFnExactOuterModulex0Z2
import Derived.Test.YtkpcogaahgfmcaaPFnExactOuterModulex6Z2
import Derived.Test.YtkpcogaahgfmcaaPFnExactOuterModulex8Z2
import Derived.Test.YtkpcogaahgfmcaaPFnExactOuterModulex10Z2
namespace Go.Proofs.Ytkpcogaahgfmcaa.PFnExactOuterModule
open Go.Proofs.YtkpcogaahgfmcaaX
open Go.RowKit Go.Proofs.YtkpcogaahgfmcaaW.PrintWords Go.Proofs.YtkpcogaahgfmcaaW.PrintLast Go.Proofs.YtkpcogaahgfmcaaW.PrintMore
attribute [local go_sem] max2_int min2_int max_two min_two max_three min_three max_four min_four   -- for this text's walks alone
set_option linter.unusedVariables false
set_option linter.unusedSimpArgs false

/-! ### impl_areModules: function 125 -/
def impl_areModules.l0 : Nat → List (S30) → Int → Int → List (List Int) → Option (Bool)
 | 0, _, _, _, _ => none
 | k + 1, x7, x8, x9, x251000 => if x9 < x8 then (if 0 ≤ x9 then (if x9 < (x7.length : Int) then ((impl_IsGroup.f k x251000).bind fun t253 => (if t253 = true then ((impl_isModule.f k x251000 ((rd_T30 x7 x9).f0) ((rd_T30 x7 x9).f1)).bind fun t254 => (if t254 = true then (impl_areModules.l0 k x7 x8 (wrap64 (x9 + 1)) x251000) else (some false))) else (some false))) else (none)) else (none)) else (some true)
def impl_areModules.f (k : Nat) (l0_0 : List (List Int)) (l1 : List (S30)) : Option (Bool) := impl_areModules.l0 k l1 (l1.length : Int) 0 l0_0
theorem impl_areModules.mono_l : ∀ k, (∀ y0 y1 y2 y3, LeO (impl_areModules.l0 k y0 y1 y2 y3) (impl_areModules.l0 (k + 1) y0 y1 y2 y3))
 | 0 => fun _ _ _ _ r h => by simp [impl_areModules.l0] at h
 | k + 1 => by
  have ih0 := impl_areModules.mono_l k
  ·intro y0 y1 y2 y3
   unfold impl_areModules.l0
   repeat' first
   | (with_reducible exact ih0 _ _ _ _)
   | (with_reducible exact impl_IsGroup.mono _ _)
   | (with_reducible exact impl_isModule.mono _ _ _ _)
   | (with_reducible exact LeO.refl _)
   | (with_reducible exact LeO.none _)
   | (with_reducible refine LeO.ite ?_ ?_)
   | (with_reducible refine LeO.bind ?_ (fun _ => ?_))
   | exact ih0 _ _ _ _
   | exact impl_IsGroup.mono _ _
   | exact impl_isModule.mono _ _ _ _
   | exact LeO.none _
   | refine LeO.ite ?_ ?_
   | refine LeO.bind ?_ (fun _ => ?_)
theorem impl_areModules.mono : ∀ a0 a1 k, LeO (impl_areModules.f k a0 a1) (impl_areModules.f (k + 1) a0 a1) := by
 intro a0 a1 k
 have ih0 := impl_areModules.mono_l k
 unfold impl_areModules.f
 repeat' first
   | (with_reducible exact ih0 _ _ _ _)
set_option maxHeartbeats 8000000 in
set_option maxRecDepth 100000 in
theorem impl_areModules.calls (k : Nat) (A0_0 : Option Addr) (c0_0 : Nat) (l0_0 : List (List Int)) (A1 : Option Addr) (c1 : Nat) (l1 : List (S30)) (r : Bool) (w : World) (hr0_0 : Kd.C (Kd.slice 2 (Kd.int .i64)) w A0_0 l0_0.length l0_0) (hc0_0 : l0_0.length ≤ c0_0) (hr1 : Kd.C k30 w A1 l1.length l1) (hc1 : l1.length ≤ c1) (h : impl_areModules.f k l0_0 l1 = some r) :
  Calls Try.prog 125 #[.agg #[.slice A0_0 l0_0.length c0_0], .slice A1 l1.length c1] w fun e w' => e = .returned (.bool r) ∧ Below w.heap.size w w' := by
 have hu33 := Try.underlying33
 have hu30 := Try.underlying30
 have HR0_0 := Aside0.mk hr0_0
 have HC0_0 := Aside0.mk hc0_0
 clear hr0_0 hc0_0
 have HR1 := Aside0.mk hr1
 have HC1 := Aside0.mk hc1
 clear hr1 hc1
 have HB := Aside0.mk (Below.refl w.heap.size w)
 have H : (impl_areModules.l0 k l1 (l1.length : Int) 0 l0_0) = some r := h
 clear h
 have H' := Aside0.mk H
 clear H
 go_enter Try.func125, Try.ntmps125
 go_wp2_with (((with_reducible refine gate_dst (N := 2) rfl ?_); refine box_event ?hg (N := 2) ?hd (cs := #[.slice A0_0 l0_0.length c0_0]) (t := 33) ?hr ?_; (case hd => rfl); (case hg => rfl); (case hr => (go_simp; done)); intro gb250 hg w3 hbox hb; have BK250 := Aside0.mk (hbox); have GW250 := Aside0.mk (geg hg (below_size HB.out)); have GE250 := Aside0.mk (geg hg (below_size HB.out)); replace HB := Aside0.mk (below_step HB.out hb); clear hb hbox hg))
 go_loopg [9] k (fun kq v9 w' => ∃ (x9_1 : Int), v9 = .int .i64 x9_1 ∧ Aside0 (impl_areModules.l0 kq l1 (l1.length : Int) x9_1 l0_0 = some r) ∧ Aside0 (kq ≤ k) ∧ Aside0 (w'.heap[gb250]? = some (.cells #[(.slice A0_0 l0_0.length c0_0)] 33 (0, 0))) ∧ Aside0 (Below w.heap.size w w'))
 case atStart => exact ⟨(0), (by rfl), H', ⟨Nat.le_refl _⟩, ⟨by exact BK250.out⟩, ⟨by exact HB.out⟩⟩
 case round =>
  clear H'
  obtain ⟨x9_1, rfl, HA, HK1, BK250, HB⟩ := hrel
  cases gk with
  | zero => exact absurd HA.out (by simp [impl_areModules.l0])
  | succ k1 =>
   have H := HA.out
   clear HA
   simp only [impl_areModules.l0] at H
   by_cases c4 : x9_1 < (l1.length : Int)
   ·rw [if_pos c4] at H
    have c4b0 : decide (x9_1 < (l1.length : Int)) = true := decide_eq_true c4
    clear c4
    by_cases c5 : 0 ≤ x9_1
    ·rw [if_pos c5] at H
     have c5b0 : decide (0 ≤ x9_1) = true := decide_eq_true c5
     clear c5
     by_cases c6 : x9_1 < (l1.length : Int)
     ·rw [if_pos c6] at H
      have c6b0 : decide (x9_1 < (l1.length : Int)) = true := decide_eq_true c6
      clear c6
      obtain ⟨t253, A7, H⟩ := bnd H
      try dsimp only at H
      by_cases c8 : t253 = true
      ·subst c8
       have H1 : ((impl_isModule.f k1 l0_0 ((rd_T30 l1 x9_1).f0) ((rd_T30 l1 x9_1).f1)).bind fun t254 => (if t254 = true then (impl_areModules.l0 k1 l1 (l1.length : Int) (wrap64 (x9_1 + 1)) l0_0) else (some false))) = some r := by rw [if_pos rfl] at H; exact H
       clear H
       have H := H1
       clear H1
       obtain ⟨t254, A9, H⟩ := bnd H
       try dsimp only at H
       by_cases c10 : t254 = true
       ·subst c10
        have H1 : (impl_areModules.l0 k1 l1 (l1.length : Int) (wrap64 (x9_1 + 1)) l0_0) = some r := by rw [if_pos rfl] at H; exact H
        clear H
        have H := H1
        clear H1
        have H' := Aside0.mk H
        clear H
        have p251 : 0 ≤ (x9_1 : Int) := of_decide_eq_true ‹_›
        have q251 : x9_1 < (l1.length : Int) := of_decide_eq_true ‹_›
        obtain ⟨ad251, A251_1, c251_1, e251, hx251_0, hx251_1, hl251_1, hi251_1⟩ := at_T30 HR1.out x9_1 p251 q251
        cases e251
        replace hx251_0 := (HB.out.cell (World.block_lt_of_cell? w _ hx251_0)).trans hx251_0
        replace hx251_1 := (HB.out.cell (World.block_lt_of_cell? w _ hx251_1)).trans hx251_1
        have HR251_1 := Aside0.mk hi251_1
        have HC251_1 := Aside0.mk hl251_1
        clear hi251_1 hl251_1
        replace p251 := eq_true p251
        replace q251 := eq_true q251
        go_wp2_with (first | ((with_reducible refine gate_dst (N := 6) rfl ?_); refine box_event ?hg (N := 6) ?hd (cs := #[.int .i64 0, .slice none 0 0]) (t := 30) ?hr ?_; (case hd => rfl); (case hg => rfl); (case hr => (go_simp; done)); intro gb252 hg w11 hbox hb; have BK252 := Aside0.mk (hbox); have GW252 := Aside0.mk (geg hg (below_size HB.out)); have GE252 := Aside0.mk (geg hg (below_size HB.out)); replace HB := Aside0.mk (below_step HB.out hb); have NB250_252 := Aside0.mk (neg1 hg (Nat.ne_of_lt (blk_lt BK250.out))); have NB252_250 := Aside0.mk (neg2 hg (Nat.ne_of_gt (blk_lt BK250.out))); replace BK250 := Aside0.mk (blk_below BK250.out hb); clear hb hbox hg; have hnb12 := NB252_250.out; have hnc12 := NB250_252.out; have hcz13_0 := bc0 BK252.out; have hcz13_1 := bc1 BK252.out; have hfz13_0 := blk_frozen BK252.out 0; have hfz13_1 := blk_frozen BK252.out 1; have hcz14_0 := bc0 BK250.out; have hfz14_0 := blk_frozen BK250.out 0) | ((with_reducible refine gate_callee (f := 148) rfl ?_); refine goesL_ (some 14) rfl rfl Try.func148 (by kernel_rfl) rfl #[.agg #[.slice A0_0 l0_0.length c0_0]] rfl (by (simp only [List.map_toArray, List.map_cons, List.map_nil]); rfl) ?_; (with_reducible refine (impl_IsGroup.calls k1 _ _ l0_0 true _ ?side1 ?side2 A7.out).mono ?_); (case side1 => exact Kd.C_below HR0_0.out (by repeat ((with_reducible first | exact HB.out | refine below_set ?_ GE252.out)))); (case side2 => exact HC0_0.out); rintro e w15 ⟨rfl, hb⟩; refine ⟨_, rfl, ?_⟩; replace BK250 := Aside0.mk (blk_below (g := gb250) (o := .cells #[.slice A0_0 l0_0.length c0_0] 33 (0, 0)) (by refine blk_far ?_ NB250_252.out _; refine blk_far ?_ NB250_252.out _; exact BK250.out) hb); replace BK252 := Aside0.mk (blk_below (g := gb252) (o := .cells #[.int .i64 ((rd_T30 l1 x9_1).f0), .slice A251_1 ((rd_T30 l1 x9_1).f1).length c251_1] 30 (0, 0)) (by refine blk_put (cs := #[.int .i64 ((rd_T30 l1 x9_1).f0), .slice none 0 0]) ?_ 1 _ rfl; refine blk_put (cs := #[.int .i64 0, .slice none 0 0]) ?_ 0 _ rfl; exact BK252.out) hb); replace HB := Aside0.mk (below_step (by repeat ((with_reducible first | exact HB.out | refine below_set ?_ GE252.out))) hb); clear hb; have hcz16_0 := bc0 BK250.out; have hfz16_0 := blk_frozen BK250.out 0; have hcz17_0 := bc0 BK252.out; have hcz17_1 := bc1 BK252.out; have hfz17_0 := blk_frozen BK252.out 0; have hfz17_1 := blk_frozen BK252.out 1) | (go_at_call 167; (with_reducible refine (impl_isModule.calls k1 _ _ l0_0 ((rd_T30 l1 x9_1).f0) _ _ ((rd_T30 l1 x9_1).f1) true _ ?side1 ?side2 ?side3 ?side4 A9.out).mono ?_); (case side1 => exact (Kd.C_below HR0_0.out HB.out)); (case side2 => exact HC0_0.out); (case side3 => exact (Kd.C_below HR251_1.out HB.out)); (case side4 => exact HC251_1.out); rintro e w18 ⟨rfl, hb⟩; replace BK250 := Aside0.mk (blk_below BK250.out hb); replace BK252 := Aside0.mk (blk_below (g := gb252) (o := .cells #[.int .i64 ((rd_T30 l1 x9_1).f0), .slice A251_1 ((rd_T30 l1 x9_1).f1).length c251_1] 30 (0, 0)) BK252.out hb); replace HB := Aside0.mk (below_step HB.out hb); clear hb))
        go_roundg k1
        case measure => have := HK1.out; omega
        case rel => exact ⟨(wrap64 (x9_1 + 1)), (by rfl), H', ⟨by have := HK1.out; omega⟩, ⟨by exact BK250.out⟩, ⟨by exact HB.out⟩⟩
       replace c10 := Bool.eq_false_iff.mpr c10
       subst c10
       have H1 : (some false) = some r := by rw [if_neg (show ¬ (false = true) by decide)] at H; exact H
       clear H
       have H := H1
       clear H1
       obtain rfl := Option.some.inj H
       have p251 : 0 ≤ (x9_1 : Int) := of_decide_eq_true ‹_›
       have q251 : x9_1 < (l1.length : Int) := of_decide_eq_true ‹_›
       obtain ⟨ad251, A251_1, c251_1, e251, hx251_0, hx251_1, hl251_1, hi251_1⟩ := at_T30 HR1.out x9_1 p251 q251
       cases e251
       replace hx251_0 := (HB.out.cell (World.block_lt_of_cell? w _ hx251_0)).trans hx251_0
       replace hx251_1 := (HB.out.cell (World.block_lt_of_cell? w _ hx251_1)).trans hx251_1
       have HR251_1 := Aside0.mk hi251_1
       have HC251_1 := Aside0.mk hl251_1
       clear hi251_1 hl251_1
       replace p251 := eq_true p251
       replace q251 := eq_true q251
       go_wp2_with (first | ((with_reducible refine gate_dst (N := 6) rfl ?_); refine box_event ?hg (N := 6) ?hd (cs := #[.int .i64 0, .slice none 0 0]) (t := 30) ?hr ?_; (case hd => rfl); (case hg => rfl); (case hr => (go_simp; done)); intro gb252 hg w19 hbox hb; have BK252 := Aside0.mk (hbox); have GW252 := Aside0.mk (geg hg (below_size HB.out)); have GE252 := Aside0.mk (geg hg (below_size HB.out)); replace HB := Aside0.mk (below_step HB.out hb); have NB250_252 := Aside0.mk (neg1 hg (Nat.ne_of_lt (blk_lt BK250.out))); have NB252_250 := Aside0.mk (neg2 hg (Nat.ne_of_gt (blk_lt BK250.out))); replace BK250 := Aside0.mk (blk_below BK250.out hb); clear hb hbox hg; have hnb20 := NB252_250.out; have hnc20 := NB250_252.out; have hcz21_0 := bc0 BK252.out; have hcz21_1 := bc1 BK252.out; have hfz21_0 := blk_frozen BK252.out 0; have hfz21_1 := blk_frozen BK252.out 1; have hcz22_0 := bc0 BK250.out; have hfz22_0 := blk_frozen BK250.out 0) | ((with_reducible refine gate_callee (f := 148) rfl ?_); refine goesL_ (some 14) rfl rfl Try.func148 (by kernel_rfl) rfl #[.agg #[.slice A0_0 l0_0.length c0_0]] rfl (by (simp only [List.map_toArray, List.map_cons, List.map_nil]); rfl) ?_; (with_reducible refine (impl_IsGroup.calls k1 _ _ l0_0 true _ ?side1 ?side2 A7.out).mono ?_); (case side1 => exact Kd.C_below HR0_0.out (by repeat ((with_reducible first | exact HB.out | refine below_set ?_ GE252.out)))); (case side2 => exact HC0_0.out); rintro e w23 ⟨rfl, hb⟩; refine ⟨_, rfl, ?_⟩; replace BK250 := Aside0.mk (blk_below (g := gb250) (o := .cells #[.slice A0_0 l0_0.length c0_0] 33 (0, 0)) (by refine blk_far ?_ NB250_252.out _; refine blk_far ?_ NB250_252.out _; exact BK250.out) hb); replace BK252 := Aside0.mk (blk_below (g := gb252) (o := .cells #[.int .i64 ((rd_T30 l1 x9_1).f0), .slice A251_1 ((rd_T30 l1 x9_1).f1).length c251_1] 30 (0, 0)) (by refine blk_put (cs := #[.int .i64 ((rd_T30 l1 x9_1).f0), .slice none 0 0]) ?_ 1 _ rfl; refine blk_put (cs := #[.int .i64 0, .slice none 0 0]) ?_ 0 _ rfl; exact BK252.out) hb); replace HB := Aside0.mk (below_step (by repeat ((with_reducible first | exact HB.out | refine below_set ?_ GE252.out))) hb); clear hb; have hcz24_0 := bc0 BK250.out; have hfz24_0 := blk_frozen BK250.out 0; have hcz25_0 := bc0 BK252.out; have hcz25_1 := bc1 BK252.out; have hfz25_0 := blk_frozen BK252.out 0; have hfz25_1 := blk_frozen BK252.out 1) | (go_at_call 167; (with_reducible refine (impl_isModule.calls k1 _ _ l0_0 ((rd_T30 l1 x9_1).f0) _ _ ((rd_T30 l1 x9_1).f1) false _ ?side1 ?side2 ?side3 ?side4 A9.out).mono ?_); (case side1 => exact (Kd.C_below HR0_0.out HB.out)); (case side2 => exact HC0_0.out); (case side3 => exact (Kd.C_below HR251_1.out HB.out)); (case side4 => exact HC251_1.out); rintro e w26 ⟨rfl, hb⟩; replace BK250 := Aside0.mk (blk_below BK250.out hb); replace BK252 := Aside0.mk (blk_below (g := gb252) (o := .cells #[.int .i64 ((rd_T30 l1 x9_1).f0), .slice A251_1 ((rd_T30 l1 x9_1).f1).length c251_1] 30 (0, 0)) BK252.out hb); replace HB := Aside0.mk (below_step HB.out hb); clear hb))
       go_ret
       exact ⟨by rfl, by exact HB.out⟩
      replace c8 := Bool.eq_false_iff.mpr c8
      subst c8
      have H1 : (some false) = some r := by rw [if_neg (show ¬ (false = true) by decide)] at H; exact H
      clear H
      have H := H1
      clear H1
      obtain rfl := Option.some.inj H
      have p251 : 0 ≤ (x9_1 : Int) := of_decide_eq_true ‹_›
      have q251 : x9_1 < (l1.length : Int) := of_decide_eq_true ‹_›
      obtain ⟨ad251, A251_1, c251_1, e251, hx251_0, hx251_1, hl251_1, hi251_1⟩ := at_T30 HR1.out x9_1 p251 q251
      cases e251
      replace hx251_0 := (HB.out.cell (World.block_lt_of_cell? w _ hx251_0)).trans hx251_0
      replace hx251_1 := (HB.out.cell (World.block_lt_of_cell? w _ hx251_1)).trans hx251_1
      have HR251_1 := Aside0.mk hi251_1
      have HC251_1 := Aside0.mk hl251_1
      clear hi251_1 hl251_1
      replace p251 := eq_true p251
      replace q251 := eq_true q251
      go_wp2_with (first | ((with_reducible refine gate_dst (N := 6) rfl ?_); refine box_event ?hg (N := 6) ?hd (cs := #[.int .i64 0, .slice none 0 0]) (t := 30) ?hr ?_; (case hd => rfl); (case hg => rfl); (case hr => (go_simp; done)); intro gb252 hg w27 hbox hb; have BK252 := Aside0.mk (hbox); have GW252 := Aside0.mk (geg hg (below_size HB.out)); have GE252 := Aside0.mk (geg hg (below_size HB.out)); replace HB := Aside0.mk (below_step HB.out hb); have NB250_252 := Aside0.mk (neg1 hg (Nat.ne_of_lt (blk_lt BK250.out))); have NB252_250 := Aside0.mk (neg2 hg (Nat.ne_of_gt (blk_lt BK250.out))); replace BK250 := Aside0.mk (blk_below BK250.out hb); clear hb hbox hg; have hnb28 := NB252_250.out; have hnc28 := NB250_252.out; have hcz29_0 := bc0 BK252.out; have hcz29_1 := bc1 BK252.out; have hfz29_0 := blk_frozen BK252.out 0; have hfz29_1 := blk_frozen BK252.out 1; have hcz30_0 := bc0 BK250.out; have hfz30_0 := blk_frozen BK250.out 0) | ((with_reducible refine gate_callee (f := 148) rfl ?_); refine goesL_ (some 14) rfl rfl Try.func148 (by kernel_rfl) rfl #[.agg #[.slice A0_0 l0_0.length c0_0]] rfl (by (simp only [List.map_toArray, List.map_cons, List.map_nil]); rfl) ?_; (with_reducible refine (impl_IsGroup.calls k1 _ _ l0_0 false _ ?side1 ?side2 A7.out).mono ?_); (case side1 => exact Kd.C_below HR0_0.out (by repeat ((with_reducible first | exact HB.out | refine below_set ?_ GE252.out)))); (case side2 => exact HC0_0.out); rintro e w31 ⟨rfl, hb⟩; refine ⟨_, rfl, ?_⟩; replace BK250 := Aside0.mk (blk_below (g := gb250) (o := .cells #[.slice A0_0 l0_0.length c0_0] 33 (0, 0)) (by refine blk_far ?_ NB250_252.out _; refine blk_far ?_ NB250_252.out _; exact BK250.out) hb); replace BK252 := Aside0.mk (blk_below (g := gb252) (o := .cells #[.int .i64 ((rd_T30 l1 x9_1).f0), .slice A251_1 ((rd_T30 l1 x9_1).f1).length c251_1] 30 (0, 0)) (by refine blk_put (cs := #[.int .i64 ((rd_T30 l1 x9_1).f0), .slice none 0 0]) ?_ 1 _ rfl; refine blk_put (cs := #[.int .i64 0, .slice none 0 0]) ?_ 0 _ rfl; exact BK252.out) hb); replace HB := Aside0.mk (below_step (by repeat ((with_reducible first | exact HB.out | refine below_set ?_ GE252.out))) hb); clear hb))
      go_ret
      exact ⟨by rfl, by exact HB.out⟩
     rw [if_neg c6] at H
     exact absurd H (by simp)
    rw [if_neg c5] at H
    exact absurd H (by simp)
   rw [if_neg c4] at H
   have c4b0 : decide (x9_1 < (l1.length : Int)) = false := decide_eq_false c4
   clear c4
   obtain rfl := Option.some.inj H
   go_wp2
   go_ret
   exact ⟨by rfl, by exact HB.out⟩

/-! ### impl_moduleCode: function 121 -/
def impl_moduleCode.f (k : Nat) (l0_0 : List (List Int)) (l1 : List (S30)) : Option (Int) := (impl_areModules.f k l0_0 l1).bind fun t256 => (if t256 = true then (some 0) else (some 1))
theorem impl_moduleCode.mono : ∀ a0 a1 k, LeO (impl_moduleCode.f k a0 a1) (impl_moduleCode.f (k + 1) a0 a1) := by
 intro a0 a1 k
 unfold impl_moduleCode.f
 repeat' first
   | (with_reducible exact impl_areModules.mono _ _ _)
   | (with_reducible exact LeO.refl _)
   | (with_reducible refine LeO.bind ?_ (fun _ => ?_))
set_option maxHeartbeats 8000000 in
set_option maxRecDepth 100000 in
theorem impl_moduleCode.calls (k : Nat) (A0_0 : Option Addr) (c0_0 : Nat) (l0_0 : List (List Int)) (A1 : Option Addr) (c1 : Nat) (l1 : List (S30)) (r : Int) (w : World) (hr0_0 : Kd.C (Kd.slice 2 (Kd.int .i64)) w A0_0 l0_0.length l0_0) (hc0_0 : l0_0.length ≤ c0_0) (hr1 : Kd.C k30 w A1 l1.length l1) (hc1 : l1.length ≤ c1) (h : impl_moduleCode.f k l0_0 l1 = some r) :
  Calls Try.prog 121 #[.agg #[.slice A0_0 l0_0.length c0_0], .slice A1 l1.length c1] w fun e w' => e = .returned (.int .i64 r) ∧ Below w.heap.size w w' := by
 have hu33 := Try.underlying33
 have HR0_0 := Aside0.mk hr0_0
 have HC0_0 := Aside0.mk hc0_0
 clear hr0_0 hc0_0
 have HR1 := Aside0.mk hr1
 have HC1 := Aside0.mk hc1
 clear hr1 hc1
 have HB := Aside0.mk (Below.refl w.heap.size w)
 have H : ((impl_areModules.f k l0_0 l1).bind fun t256 => (if t256 = true then (some 0) else (some 1))) = some r := h
 clear h
 obtain ⟨t256, A3, H⟩ := bnd H
 try dsimp only at H
 by_cases c4 : t256 = true
 ·subst c4
  have H1 : (some 0) = some r := by rw [if_pos rfl] at H; exact H
  clear H
  have H := H1
  clear H1
  obtain rfl := Option.some.inj H
  go_enter Try.func121, Try.ntmps121
  go_wp2_with (first | ((with_reducible refine gate_dst (N := 2) rfl ?_); refine box_event ?hg (N := 2) ?hd (cs := #[.slice A0_0 l0_0.length c0_0]) (t := 33) ?hr ?_; (case hd => rfl); (case hg => rfl); (case hr => (go_simp; done)); intro gb255 hg w5 hbox hb; have BK255 := Aside0.mk (hbox); have GW255 := Aside0.mk (geg hg (below_size HB.out)); have GE255 := Aside0.mk (geg hg (below_size HB.out)); replace HB := Aside0.mk (below_step HB.out hb); clear hb hbox hg; have hcz6_0 := bc0 BK255.out; have hfz6_0 := blk_frozen BK255.out 0) | ((with_reducible refine gate_callee (f := 125) rfl ?_); refine goesL_ (some 7) rfl rfl Try.func125 (by kernel_rfl) rfl #[.agg #[.slice A0_0 l0_0.length c0_0], .slice A1 l1.length c1] rfl (by (simp only [List.map_toArray, List.map_cons, List.map_nil]); rfl) ?_; (with_reducible refine (impl_areModules.calls k _ _ l0_0 _ _ l1 true _ ?side1 ?side2 ?side3 ?side4 A3.out).mono ?_); (case side1 => exact (Kd.C_below HR0_0.out HB.out)); (case side2 => exact HC0_0.out); (case side3 => exact (Kd.C_below HR1.out HB.out)); (case side4 => exact HC1.out); rintro e w7 ⟨rfl, hb⟩; refine ⟨_, rfl, ?_⟩; replace BK255 := Aside0.mk (blk_below BK255.out hb); replace HB := Aside0.mk (below_step HB.out hb); clear hb))
  go_ret
  exact ⟨by rfl, by exact HB.out⟩
 replace c4 := Bool.eq_false_iff.mpr c4
 subst c4
 have H1 : (some 1) = some r := by rw [if_neg (show ¬ (false = true) by decide)] at H; exact H
 clear H
 have H := H1
 clear H1
 obtain rfl := Option.some.inj H
 go_enter Try.func121, Try.ntmps121
 go_wp2_with (first | ((with_reducible refine gate_dst (N := 2) rfl ?_); refine box_event ?hg (N := 2) ?hd (cs := #[.slice A0_0 l0_0.length c0_0]) (t := 33) ?hr ?_; (case hd => rfl); (case hg => rfl); (case hr => (go_simp; done)); intro gb255 hg w8 hbox hb; have BK255 := Aside0.mk (hbox); have GW255 := Aside0.mk (geg hg (below_size HB.out)); have GE255 := Aside0.mk (geg hg (below_size HB.out)); replace HB := Aside0.mk (below_step HB.out hb); clear hb hbox hg; have hcz9_0 := bc0 BK255.out; have hfz9_0 := blk_frozen BK255.out 0) | ((with_reducible refine gate_callee (f := 125) rfl ?_); refine goesL_ (some 7) rfl rfl Try.func125 (by kernel_rfl) rfl #[.agg #[.slice A0_0 l0_0.length c0_0], .slice A1 l1.length c1] rfl (by (simp only [List.map_toArray, List.map_cons, List.map_nil]); rfl) ?_; (with_reducible refine (impl_areModules.calls k _ _ l0_0 _ _ l1 false _ ?side1 ?side2 ?side3 ?side4 A3.out).mono ?_); (case side1 => exact (Kd.C_below HR0_0.out HB.out)); (case side2 => exact HC0_0.out); (case side3 => exact (Kd.C_below HR1.out HB.out)); (case side4 => exact HC1.out); rintro e w10 ⟨rfl, hb⟩; refine ⟨_, rfl, ?_⟩; replace BK255 := Aside0.mk (blk_below BK255.out hb); replace HB := Aside0.mk (below_step HB.out hb); clear hb))
 go_ret
 exact ⟨by rfl, by exact HB.out⟩

/-! ### impl_divisorCode: function 76 -/
def impl_divisorCode.f (k : Nat) (l0_0 : List (List Int)) (a1_0 : Int) (l1_1 : List Int) (a2 : Int) : Option (Int) := (impl_moduleCode.f k l0_0 (([(⟨a1_0, l1_1⟩ : S30)] : List (S30)))).bind fun t262 => (if t262 = 0 then (if a2 < 2 then (some 2) else (if a2 ≥ a1_0 then (some 2) else (if a2 = 0 then (none) else (if (Int.tmod a1_0 a2) = 0 then (some 0) else (some 2))))) else (some t262))
theorem impl_divisorCode.mono : ∀ a0 a1 a2 a3 k, LeO (impl_divisorCode.f k a0 a1 a2 a3) (impl_divisorCode.f (k + 1) a0 a1 a2 a3) := by
 intro a0 a1 a2 a3 k
 unfold impl_divisorCode.f
 repeat' first
   | (with_reducible exact impl_moduleCode.mono _ _ _)
   | (with_reducible exact LeO.refl _)
   | (with_reducible refine LeO.bind ?_ (fun _ => ?_))
set_option maxHeartbeats 8000000 in
set_option maxRecDepth 100000 in
theorem impl_divisorCode.calls (k : Nat) (A0_0 : Option Addr) (c0_0 : Nat) (l0_0 : List (List Int)) (a1_0 : Int) (P1_1_ : Nat → Prop) (A1_1 : Option Addr) (c1_1 : Nat) (l1_1 : List Int) (a2 : Int) (r : Int) (w : World) (hr0_0 : Kd.C (Kd.slice 2 (Kd.int .i64)) w A0_0 l0_0.length l0_0) (hc0_0 : l0_0.length ≤ c0_0) (hs1_1 : Kd.V (Kd.int .i64) 2 w w.heap.size (fun k_ => P1_1_ k_) (.slice A1_1 l1_1.length c1_1) l1_1) (h : impl_divisorCode.f k l0_0 a1_0 l1_1 a2 = some r) :
  Calls Try.prog 76 #[.agg #[.slice A0_0 l0_0.length c0_0], .agg #[.int .i64 a1_0, .slice A1_1 l1_1.length c1_1], .int .i64 a2] w fun e w' => e = .returned (.int .i64 r) ∧ Below w.heap.size w w' := by
 have hu33 := Try.underlying33
 have hu30 := Try.underlying30
 have hu2 := Try.underlying2
 have HR0_0 := Aside0.mk hr0_0
 have HC0_0 := Aside0.mk hc0_0
 clear hr0_0 hc0_0
 have HO1_1 := Aside0.mk (show Kd.V (Kd.int .i64) 2 w w.heap.size (fun k_ => (P1_1_ k_ ∨ w.heap.size ≤ k_)) (.slice A1_1 l1_1.length c1_1) l1_1 from Kd.V_mono hs1_1 (fun k_ hk => .inl hk))
 have HB := Aside0.mk (Below.refl w.heap.size w)
 have H : ((impl_moduleCode.f k l0_0 (([(⟨a1_0, l1_1⟩ : S30)] : List (S30)))).bind fun t262 => (if t262 = 0 then (if a2 < 2 then (some 2) else (if a2 ≥ a1_0 then (some 2) else (if a2 = 0 then (none) else (if (Int.tmod a1_0 a2) = 0 then (some 0) else (some 2))))) else (some t262))) = some r := h
 clear h
 obtain ⟨y259, hy259⟩ : ∃ y_ : List (S30), y_ = (([(⟨a1_0, l1_1⟩ : S30)] : List (S30))) := ⟨_, rfl⟩
 replace H : ((impl_moduleCode.f k l0_0 y259).bind fun t262 => (if t262 = 0 then (if a2 < 2 then (some 2) else (if a2 ≥ a1_0 then (some 2) else (if a2 = 0 then (none) else (if (Int.tmod a1_0 a2) = 0 then (some 0) else (some 2))))) else (some t262))) = some r := by (rw [hy259]; with_reducible exact H)
 have Ny259 := Aside0.mk hy259
 clear hy259
 obtain ⟨t262, A4, H⟩ := bnd H
 try dsimp only at H
 by_cases c5 : t262 = 0
 ·rw [if_pos c5] at H
  have c5b0 : (t262 == 0) = true := beq_iff_eq.mpr c5
  have c5b1 : (t262 != 0) = false := bne_eq_false_iff_eq.mpr c5
  clear c5
  by_cases c6 : a2 < 2
  ·rw [if_pos c6] at H
   have c6b0 : decide (a2 < 2) = true := decide_eq_true c6
   clear c6
   obtain rfl := Option.some.inj H
   go_enter Try.func76, Try.ntmps76
   go_wp2_with (first | ((with_reducible refine gate_dst (N := 3) rfl ?_); refine box_event ?hg (N := 3) ?hd (cs := #[.slice A0_0 l0_0.length c0_0]) (t := 33) ?hr ?_; (case hd => rfl); (case hg => rfl); (case hr => (go_simp; done)); intro gb257 hg w7 hbox hb; replace HO1_1 := Aside0.mk (Kd.V_below (Kd.V_elderB HO1_1.out gb257 (Nat.le_of_eq hg.symm)) hb); have BK257 := Aside0.mk (hbox); have GW257 := Aside0.mk (geg hg (below_size HB.out)); have GE257 := Aside0.mk (geg hg (below_size HB.out)); replace HB := Aside0.mk (below_step HB.out hb); clear hb hbox hg) | ((with_reducible refine gate_dst (N := 4) rfl ?_); refine box_event ?hg (N := 4) ?hd (cs := #[.int .i64 a1_0, .slice A1_1 l1_1.length c1_1]) (t := 30) ?hr ?_; (case hd => rfl); (case hg => rfl); (case hr => (go_simp; done)); intro gb258 hg w8 hbox hb; replace HO1_1 := Aside0.mk (Kd.V_below (Kd.V_elderB HO1_1.out gb258 (Nat.le_of_eq hg.symm)) hb); have BK258 := Aside0.mk (hbox); have GW258 := Aside0.mk (geg hg (below_size HB.out)); have GE258 := Aside0.mk (geg hg (below_size HB.out)); replace HB := Aside0.mk (below_step HB.out hb); have NB257_258 := Aside0.mk (neg1 hg (Nat.ne_of_lt (blk_lt BK257.out))); have NB258_257 := Aside0.mk (neg2 hg (Nat.ne_of_gt (blk_lt BK257.out))); replace BK257 := Aside0.mk (blk_below BK257.out hb); clear hb hbox hg; have hnb9 := NB257_258.out; have hnc9 := NB258_257.out; have hcz10_0 := bc0 BK257.out; have hfz10_0 := blk_frozen BK257.out 0; have hcz11_0 := bc0 BK258.out; have hcz11_1 := bc1 BK258.out; have hfz11_0 := blk_frozen BK258.out 0; have hfz11_1 := blk_frozen BK258.out 1) | ((with_reducible refine gate_dst (N := 10) rfl ?_); refine Kd.N_lit k30 _ 30 ?hg (N' := 10) ?hd (xs := ([(⟨a1_0, l1_1⟩ : S30)] : List (S30))) (inner := [.int .i64 a1_0, .slice A1_1 l1_1.length c1_1]) (ok := (fun k_ => (P1_1_ k_ ∨ w.heap.size ≤ k_) ∧ k_ ≠ gb257 ∧ k_ ≠ gb258)) (okp := (fun k_ => (P1_1_ k_ ∨ w.heap.size ≤ k_) ∧ k_ ≠ gb257 ∧ k_ ≠ gb258)) ?hr ?hp (fun _ hk => hk) ((show ∀ k_, w8.heap.size ≤ k_ → (fun k_ => (P1_1_ k_ ∨ w.heap.size ≤ k_) ∧ k_ ≠ gb257 ∧ k_ ≠ gb258) k_ from fun k_ hk => ⟨(.inr (Nat.le_trans (below_size HB.out) hk)), Kd.freshB (g := gb257) (o := .cells #[.slice A0_0 l0_0.length c0_0] 33 (0, 0)) BK257.out k_ hk, Kd.freshB (g := gb258) (o := .cells #[.int .i64 a1_0, .slice A1_1 l1_1.length c1_1] 30 (0, 0)) BK258.out k_ hk⟩) _ (Nat.le_refl _)) (Below.refl _ _) (Nat.le_refl _) (by simp) ?_; (case hd => rfl); (case hg => rfl); (case hr => (go_simp; done)); (case hp => exact (Reps.c2 (show Kd.FK k30 _ _ (⟨a1_0, l1_1⟩ : S30) [.int .i64 a1_0, .slice A1_1 l1_1.length c1_1] from (k30_mkF _ _ (⟨a1_0, l1_1⟩ : S30) (Kd.V_reads' (Kd.V_mono (ok' := (fun k_ => (P1_1_ k_ ∨ w.heap.size ≤ k_) ∧ k_ ≠ gb257 ∧ k_ ≠ gb258)) (HO1_1.out) (fun k_ hk => ⟨hk.1.1, ⟨hk.1.2, hk.2⟩⟩))).2.1 (Kd.V_F (Kd.V_mono (ok' := (fun k_ => (P1_1_ k_ ∨ w.heap.size ≤ k_) ∧ k_ ≠ gb257 ∧ k_ ≠ gb258)) (HO1_1.out) (fun k_ hk => ⟨hk.1.1, ⟨hk.1.2, hk.2⟩⟩))))) (Reps.none _ _))); intro v260 w12 ho13 hb hg_ hnew_; clear hg_ hnew_; (rw [← Ny259.out] at ho13); replace HO1_1 := Aside0.mk (Kd.V_elder' HO1_1.out (Kd.N_base ho13) hb); have HO261 := Aside0.mk (Kd.N_lower ho13 (below_size HB.out)); replace BK257 := Aside0.mk (blk_below BK257.out hb); replace BK258 := Aside0.mk (blk_below BK258.out hb); replace HB := Aside0.mk (below_step HB.out hb); clear hb ho13; obtain ⟨Ao14, co14, eo14⟩ := Kd.N_slice HO261.out; subst eo14) | ((with_reducible refine gate_callee (f := 121) rfl ?_); refine goesL_ (some 11) rfl rfl Try.func121 (by kernel_rfl) rfl #[.agg #[.slice A0_0 l0_0.length c0_0], .slice Ao14 y259.length co14] rfl (by (simp only [List.map_toArray, List.map_cons, List.map_nil]); rfl) ?_; (with_reducible refine (impl_moduleCode.calls k _ _ l0_0 _ _ y259 t262 _ ?side1 ?side2 ?side3 ?side4 A4.out).mono ?_); (case side1 => exact (Kd.C_below HR0_0.out HB.out)); (case side2 => exact HC0_0.out); (case side3 => repeat (exact (Kd.N_reads' HO261.out).2.2)); (case side4 => exact (Kd.N_reads' HO261.out).2.1); rintro e w15 ⟨rfl, hb⟩; refine ⟨_, rfl, ?_⟩; replace HO1_1 := Aside0.mk (Kd.V_below HO1_1.out hb); replace HO261 := Aside0.mk (Kd.N_below HO261.out hb); replace BK257 := Aside0.mk (blk_below BK257.out hb); replace BK258 := Aside0.mk (blk_below BK258.out hb); replace HB := Aside0.mk (below_step HB.out hb); clear hb))
   go_ret
   exact ⟨by rfl, by exact HB.out⟩
  rw [if_neg c6] at H
  have c6b0 : decide (a2 < 2) = false := decide_eq_false c6
  clear c6
  by_cases c16 : a2 ≥ a1_0
  ·rw [if_pos c16] at H
   have c16b0 : decide (a1_0 ≤ a2) = true := decide_eq_true c16
   clear c16
   obtain rfl := Option.some.inj H
   go_enter Try.func76, Try.ntmps76
   go_wp2_with (first | ((with_reducible refine gate_dst (N := 3) rfl ?_); refine box_event ?hg (N := 3) ?hd (cs := #[.slice A0_0 l0_0.length c0_0]) (t := 33) ?hr ?_; (case hd => rfl); (case hg => rfl); (case hr => (go_simp; done)); intro gb257 hg w17 hbox hb; replace HO1_1 := Aside0.mk (Kd.V_below (Kd.V_elderB HO1_1.out gb257 (Nat.le_of_eq hg.symm)) hb); have BK257 := Aside0.mk (hbox); have GW257 := Aside0.mk (geg hg (below_size HB.out)); have GE257 := Aside0.mk (geg hg (below_size HB.out)); replace HB := Aside0.mk (below_step HB.out hb); clear hb hbox hg) | ((with_reducible refine gate_dst (N := 4) rfl ?_); refine box_event ?hg (N := 4) ?hd (cs := #[.int .i64 a1_0, .slice A1_1 l1_1.length c1_1]) (t := 30) ?hr ?_; (case hd => rfl); (case hg => rfl); (case hr => (go_simp; done)); intro gb258 hg w18 hbox hb; replace HO1_1 := Aside0.mk (Kd.V_below (Kd.V_elderB HO1_1.out gb258 (Nat.le_of_eq hg.symm)) hb); have BK258 := Aside0.mk (hbox); have GW258 := Aside0.mk (geg hg (below_size HB.out)); have GE258 := Aside0.mk (geg hg (below_size HB.out)); replace HB := Aside0.mk (below_step HB.out hb); have NB257_258 := Aside0.mk (neg1 hg (Nat.ne_of_lt (blk_lt BK257.out))); have NB258_257 := Aside0.mk (neg2 hg (Nat.ne_of_gt (blk_lt BK257.out))); replace BK257 := Aside0.mk (blk_below BK257.out hb); clear hb hbox hg; have hnb19 := NB257_258.out; have hnc19 := NB258_257.out; have hcz20_0 := bc0 BK257.out; have hfz20_0 := blk_frozen BK257.out 0; have hcz21_0 := bc0 BK258.out; have hcz21_1 := bc1 BK258.out; have hfz21_0 := blk_frozen BK258.out 0; have hfz21_1 := blk_frozen BK258.out 1) | ((with_reducible refine gate_dst (N := 10) rfl ?_); refine Kd.N_lit k30 _ 30 ?hg (N' := 10) ?hd (xs := ([(⟨a1_0, l1_1⟩ : S30)] : List (S30))) (inner := [.int .i64 a1_0, .slice A1_1 l1_1.length c1_1]) (ok := (fun k_ => (P1_1_ k_ ∨ w.heap.size ≤ k_) ∧ k_ ≠ gb257 ∧ k_ ≠ gb258)) (okp := (fun k_ => (P1_1_ k_ ∨ w.heap.size ≤ k_) ∧ k_ ≠ gb257 ∧ k_ ≠ gb258)) ?hr ?hp (fun _ hk => hk) ((show ∀ k_, w18.heap.size ≤ k_ → (fun k_ => (P1_1_ k_ ∨ w.heap.size ≤ k_) ∧ k_ ≠ gb257 ∧ k_ ≠ gb258) k_ from fun k_ hk => ⟨(.inr (Nat.le_trans (below_size HB.out) hk)), Kd.freshB (g := gb257) (o := .cells #[.slice A0_0 l0_0.length c0_0] 33 (0, 0)) BK257.out k_ hk, Kd.freshB (g := gb258) (o := .cells #[.int .i64 a1_0, .slice A1_1 l1_1.length c1_1] 30 (0, 0)) BK258.out k_ hk⟩) _ (Nat.le_refl _)) (Below.refl _ _) (Nat.le_refl _) (by simp) ?_; (case hd => rfl); (case hg => rfl); (case hr => (go_simp; done)); (case hp => exact (Reps.c2 (show Kd.FK k30 _ _ (⟨a1_0, l1_1⟩ : S30) [.int .i64 a1_0, .slice A1_1 l1_1.length c1_1] from (k30_mkF _ _ (⟨a1_0, l1_1⟩ : S30) (Kd.V_reads' (Kd.V_mono (ok' := (fun k_ => (P1_1_ k_ ∨ w.heap.size ≤ k_) ∧ k_ ≠ gb257 ∧ k_ ≠ gb258)) (HO1_1.out) (fun k_ hk => ⟨hk.1.1, ⟨hk.1.2, hk.2⟩⟩))).2.1 (Kd.V_F (Kd.V_mono (ok' := (fun k_ => (P1_1_ k_ ∨ w.heap.size ≤ k_) ∧ k_ ≠ gb257 ∧ k_ ≠ gb258)) (HO1_1.out) (fun k_ hk => ⟨hk.1.1, ⟨hk.1.2, hk.2⟩⟩))))) (Reps.none _ _))); intro v260 w22 ho23 hb hg_ hnew_; clear hg_ hnew_; (rw [← Ny259.out] at ho23); replace HO1_1 := Aside0.mk (Kd.V_elder' HO1_1.out (Kd.N_base ho23) hb); have HO261 := Aside0.mk (Kd.N_lower ho23 (below_size HB.out)); replace BK257 := Aside0.mk (blk_below BK257.out hb); replace BK258 := Aside0.mk (blk_below BK258.out hb); replace HB := Aside0.mk (below_step HB.out hb); clear hb ho23; obtain ⟨Ao24, co24, eo24⟩ := Kd.N_slice HO261.out; subst eo24) | ((with_reducible refine gate_callee (f := 121) rfl ?_); refine goesL_ (some 11) rfl rfl Try.func121 (by kernel_rfl) rfl #[.agg #[.slice A0_0 l0_0.length c0_0], .slice Ao24 y259.length co24] rfl (by (simp only [List.map_toArray, List.map_cons, List.map_nil]); rfl) ?_; (with_reducible refine (impl_moduleCode.calls k _ _ l0_0 _ _ y259 t262 _ ?side1 ?side2 ?side3 ?side4 A4.out).mono ?_); (case side1 => exact (Kd.C_below HR0_0.out HB.out)); (case side2 => exact HC0_0.out); (case side3 => repeat (exact (Kd.N_reads' HO261.out).2.2)); (case side4 => exact (Kd.N_reads' HO261.out).2.1); rintro e w25 ⟨rfl, hb⟩; refine ⟨_, rfl, ?_⟩; replace HO1_1 := Aside0.mk (Kd.V_below HO1_1.out hb); replace HO261 := Aside0.mk (Kd.N_below HO261.out hb); replace BK257 := Aside0.mk (blk_below BK257.out hb); replace BK258 := Aside0.mk (blk_below BK258.out hb); replace HB := Aside0.mk (below_step HB.out hb); clear hb; have hcz26_0 := bc0 BK258.out; have hcz26_1 := bc1 BK258.out; have hfz26_0 := blk_frozen BK258.out 0; have hfz26_1 := blk_frozen BK258.out 1))
   go_ret
   exact ⟨by rfl, by exact HB.out⟩
  rw [if_neg c16] at H
  have c16b0 : decide (a1_0 ≤ a2) = false := decide_eq_false c16
  clear c16
  by_cases c27 : a2 = 0
  ·rw [if_pos c27] at H
   exact absurd H (by simp)
  rw [if_neg c27] at H
  have c27b0 : (a2 == 0) = false := beq_eq_false_iff_ne.mpr c27
  have c27b1 : (a2 != 0) = true := bne_iff_ne.mpr c27
  by_cases c28 : (Int.tmod a1_0 a2) = 0
  ·rw [if_pos c28] at H
   have c28b0 : ((Int.tmod a1_0 a2) == 0) = true := beq_iff_eq.mpr c28
   have c28b1 : ((Int.tmod a1_0 a2) != 0) = false := bne_eq_false_iff_eq.mpr c28
   clear c28
   obtain rfl := Option.some.inj H
   go_enter Try.func76, Try.ntmps76
   go_wp2_with (first | ((with_reducible refine gate_dst (N := 3) rfl ?_); refine box_event ?hg (N := 3) ?hd (cs := #[.slice A0_0 l0_0.length c0_0]) (t := 33) ?hr ?_; (case hd => rfl); (case hg => rfl); (case hr => (go_simp; done)); intro gb257 hg w29 hbox hb; replace HO1_1 := Aside0.mk (Kd.V_below (Kd.V_elderB HO1_1.out gb257 (Nat.le_of_eq hg.symm)) hb); have BK257 := Aside0.mk (hbox); have GW257 := Aside0.mk (geg hg (below_size HB.out)); have GE257 := Aside0.mk (geg hg (below_size HB.out)); replace HB := Aside0.mk (below_step HB.out hb); clear hb hbox hg) | ((with_reducible refine gate_dst (N := 4) rfl ?_); refine box_event ?hg (N := 4) ?hd (cs := #[.int .i64 a1_0, .slice A1_1 l1_1.length c1_1]) (t := 30) ?hr ?_; (case hd => rfl); (case hg => rfl); (case hr => (go_simp; done)); intro gb258 hg w30 hbox hb; replace HO1_1 := Aside0.mk (Kd.V_below (Kd.V_elderB HO1_1.out gb258 (Nat.le_of_eq hg.symm)) hb); have BK258 := Aside0.mk (hbox); have GW258 := Aside0.mk (geg hg (below_size HB.out)); have GE258 := Aside0.mk (geg hg (below_size HB.out)); replace HB := Aside0.mk (below_step HB.out hb); have NB257_258 := Aside0.mk (neg1 hg (Nat.ne_of_lt (blk_lt BK257.out))); have NB258_257 := Aside0.mk (neg2 hg (Nat.ne_of_gt (blk_lt BK257.out))); replace BK257 := Aside0.mk (blk_below BK257.out hb); clear hb hbox hg; have hnb31 := NB257_258.out; have hnc31 := NB258_257.out; have hcz32_0 := bc0 BK257.out; have hfz32_0 := blk_frozen BK257.out 0; have hcz33_0 := bc0 BK258.out; have hcz33_1 := bc1 BK258.out; have hfz33_0 := blk_frozen BK258.out 0; have hfz33_1 := blk_frozen BK258.out 1) | ((with_reducible refine gate_dst (N := 10) rfl ?_); refine Kd.N_lit k30 _ 30 ?hg (N' := 10) ?hd (xs := ([(⟨a1_0, l1_1⟩ : S30)] : List (S30))) (inner := [.int .i64 a1_0, .slice A1_1 l1_1.length c1_1]) (ok := (fun k_ => (P1_1_ k_ ∨ w.heap.size ≤ k_) ∧ k_ ≠ gb257 ∧ k_ ≠ gb258)) (okp := (fun k_ => (P1_1_ k_ ∨ w.heap.size ≤ k_) ∧ k_ ≠ gb257 ∧ k_ ≠ gb258)) ?hr ?hp (fun _ hk => hk) ((show ∀ k_, w30.heap.size ≤ k_ → (fun k_ => (P1_1_ k_ ∨ w.heap.size ≤ k_) ∧ k_ ≠ gb257 ∧ k_ ≠ gb258) k_ from fun k_ hk => ⟨(.inr (Nat.le_trans (below_size HB.out) hk)), Kd.freshB (g := gb257) (o := .cells #[.slice A0_0 l0_0.length c0_0] 33 (0, 0)) BK257.out k_ hk, Kd.freshB (g := gb258) (o := .cells #[.int .i64 a1_0, .slice A1_1 l1_1.length c1_1] 30 (0, 0)) BK258.out k_ hk⟩) _ (Nat.le_refl _)) (Below.refl _ _) (Nat.le_refl _) (by simp) ?_; (case hd => rfl); (case hg => rfl); (case hr => (go_simp; done)); (case hp => exact (Reps.c2 (show Kd.FK k30 _ _ (⟨a1_0, l1_1⟩ : S30) [.int .i64 a1_0, .slice A1_1 l1_1.length c1_1] from (k30_mkF _ _ (⟨a1_0, l1_1⟩ : S30) (Kd.V_reads' (Kd.V_mono (ok' := (fun k_ => (P1_1_ k_ ∨ w.heap.size ≤ k_) ∧ k_ ≠ gb257 ∧ k_ ≠ gb258)) (HO1_1.out) (fun k_ hk => ⟨hk.1.1, ⟨hk.1.2, hk.2⟩⟩))).2.1 (Kd.V_F (Kd.V_mono (ok' := (fun k_ => (P1_1_ k_ ∨ w.heap.size ≤ k_) ∧ k_ ≠ gb257 ∧ k_ ≠ gb258)) (HO1_1.out) (fun k_ hk => ⟨hk.1.1, ⟨hk.1.2, hk.2⟩⟩))))) (Reps.none _ _))); intro v260 w34 ho35 hb hg_ hnew_; clear hg_ hnew_; (rw [← Ny259.out] at ho35); replace HO1_1 := Aside0.mk (Kd.V_elder' HO1_1.out (Kd.N_base ho35) hb); have HO261 := Aside0.mk (Kd.N_lower ho35 (below_size HB.out)); replace BK257 := Aside0.mk (blk_below BK257.out hb); replace BK258 := Aside0.mk (blk_below BK258.out hb); replace HB := Aside0.mk (below_step HB.out hb); clear hb ho35; obtain ⟨Ao36, co36, eo36⟩ := Kd.N_slice HO261.out; subst eo36) | ((with_reducible refine gate_callee (f := 121) rfl ?_); refine goesL_ (some 11) rfl rfl Try.func121 (by kernel_rfl) rfl #[.agg #[.slice A0_0 l0_0.length c0_0], .slice Ao36 y259.length co36] rfl (by (simp only [List.map_toArray, List.map_cons, List.map_nil]); rfl) ?_; (with_reducible refine (impl_moduleCode.calls k _ _ l0_0 _ _ y259 t262 _ ?side1 ?side2 ?side3 ?side4 A4.out).mono ?_); (case side1 => exact (Kd.C_below HR0_0.out HB.out)); (case side2 => exact HC0_0.out); (case side3 => repeat (exact (Kd.N_reads' HO261.out).2.2)); (case side4 => exact (Kd.N_reads' HO261.out).2.1); rintro e w37 ⟨rfl, hb⟩; refine ⟨_, rfl, ?_⟩; replace HO1_1 := Aside0.mk (Kd.V_below HO1_1.out hb); replace HO261 := Aside0.mk (Kd.N_below HO261.out hb); replace BK257 := Aside0.mk (blk_below BK257.out hb); replace BK258 := Aside0.mk (blk_below BK258.out hb); replace HB := Aside0.mk (below_step HB.out hb); clear hb; have hcz38_0 := bc0 BK258.out; have hcz38_1 := bc1 BK258.out; have hfz38_0 := blk_frozen BK258.out 0; have hfz38_1 := blk_frozen BK258.out 1))
   go_ret
   exact ⟨by rfl, by exact HB.out⟩
  rw [if_neg c28] at H
  have c28b0 : ((Int.tmod a1_0 a2) == 0) = false := beq_eq_false_iff_ne.mpr c28
  have c28b1 : ((Int.tmod a1_0 a2) != 0) = true := bne_iff_ne.mpr c28
  obtain rfl := Option.some.inj H
  go_enter Try.func76, Try.ntmps76
  go_wp2_with (first | ((with_reducible refine gate_dst (N := 3) rfl ?_); refine box_event ?hg (N := 3) ?hd (cs := #[.slice A0_0 l0_0.length c0_0]) (t := 33) ?hr ?_; (case hd => rfl); (case hg => rfl); (case hr => (go_simp; done)); intro gb257 hg w39 hbox hb; replace HO1_1 := Aside0.mk (Kd.V_below (Kd.V_elderB HO1_1.out gb257 (Nat.le_of_eq hg.symm)) hb); have BK257 := Aside0.mk (hbox); have GW257 := Aside0.mk (geg hg (below_size HB.out)); have GE257 := Aside0.mk (geg hg (below_size HB.out)); replace HB := Aside0.mk (below_step HB.out hb); clear hb hbox hg) | ((with_reducible refine gate_dst (N := 4) rfl ?_); refine box_event ?hg (N := 4) ?hd (cs := #[.int .i64 a1_0, .slice A1_1 l1_1.length c1_1]) (t := 30) ?hr ?_; (case hd => rfl); (case hg => rfl); (case hr => (go_simp; done)); intro gb258 hg w40 hbox hb; replace HO1_1 := Aside0.mk (Kd.V_below (Kd.V_elderB HO1_1.out gb258 (Nat.le_of_eq hg.symm)) hb); have BK258 := Aside0.mk (hbox); have GW258 := Aside0.mk (geg hg (below_size HB.out)); have GE258 := Aside0.mk (geg hg (below_size HB.out)); replace HB := Aside0.mk (below_step HB.out hb); have NB257_258 := Aside0.mk (neg1 hg (Nat.ne_of_lt (blk_lt BK257.out))); have NB258_257 := Aside0.mk (neg2 hg (Nat.ne_of_gt (blk_lt BK257.out))); replace BK257 := Aside0.mk (blk_below BK257.out hb); clear hb hbox hg; have hnb41 := NB257_258.out; have hnc41 := NB258_257.out; have hcz42_0 := bc0 BK257.out; have hfz42_0 := blk_frozen BK257.out 0; have hcz43_0 := bc0 BK258.out; have hcz43_1 := bc1 BK258.out; have hfz43_0 := blk_frozen BK258.out 0; have hfz43_1 := blk_frozen BK258.out 1) | ((with_reducible refine gate_dst (N := 10) rfl ?_); refine Kd.N_lit k30 _ 30 ?hg (N' := 10) ?hd (xs := ([(⟨a1_0, l1_1⟩ : S30)] : List (S30))) (inner := [.int .i64 a1_0, .slice A1_1 l1_1.length c1_1]) (ok := (fun k_ => (P1_1_ k_ ∨ w.heap.size ≤ k_) ∧ k_ ≠ gb257 ∧ k_ ≠ gb258)) (okp := (fun k_ => (P1_1_ k_ ∨ w.heap.size ≤ k_) ∧ k_ ≠ gb257 ∧ k_ ≠ gb258)) ?hr ?hp (fun _ hk => hk) ((show ∀ k_, w40.heap.size ≤ k_ → (fun k_ => (P1_1_ k_ ∨ w.heap.size ≤ k_) ∧ k_ ≠ gb257 ∧ k_ ≠ gb258) k_ from fun k_ hk => ⟨(.inr (Nat.le_trans (below_size HB.out) hk)), Kd.freshB (g := gb257) (o := .cells #[.slice A0_0 l0_0.length c0_0] 33 (0, 0)) BK257.out k_ hk, Kd.freshB (g := gb258) (o := .cells #[.int .i64 a1_0, .slice A1_1 l1_1.length c1_1] 30 (0, 0)) BK258.out k_ hk⟩) _ (Nat.le_refl _)) (Below.refl _ _) (Nat.le_refl _) (by simp) ?_; (case hd => rfl); (case hg => rfl); (case hr => (go_simp; done)); (case hp => exact (Reps.c2 (show Kd.FK k30 _ _ (⟨a1_0, l1_1⟩ : S30) [.int .i64 a1_0, .slice A1_1 l1_1.length c1_1] from (k30_mkF _ _ (⟨a1_0, l1_1⟩ : S30) (Kd.V_reads' (Kd.V_mono (ok' := (fun k_ => (P1_1_ k_ ∨ w.heap.size ≤ k_) ∧ k_ ≠ gb257 ∧ k_ ≠ gb258)) (HO1_1.out) (fun k_ hk => ⟨hk.1.1, ⟨hk.1.2, hk.2⟩⟩))).2.1 (Kd.V_F (Kd.V_mono (ok' := (fun k_ => (P1_1_ k_ ∨ w.heap.size ≤ k_) ∧ k_ ≠ gb257 ∧ k_ ≠ gb258)) (HO1_1.out) (fun k_ hk => ⟨hk.1.1, ⟨hk.1.2, hk.2⟩⟩))))) (Reps.none _ _))); intro v260 w44 ho45 hb hg_ hnew_; clear hg_ hnew_; (rw [← Ny259.out] at ho45); replace HO1_1 := Aside0.mk (Kd.V_elder' HO1_1.out (Kd.N_base ho45) hb); have HO261 := Aside0.mk (Kd.N_lower ho45 (below_size HB.out)); replace BK257 := Aside0.mk (blk_below BK257.out hb); replace BK258 := Aside0.mk (blk_below BK258.out hb); replace HB := Aside0.mk (below_step HB.out hb); clear hb ho45; obtain ⟨Ao46, co46, eo46⟩ := Kd.N_slice HO261.out; subst eo46) | ((with_reducible refine gate_callee (f := 121) rfl ?_); refine goesL_ (some 11) rfl rfl Try.func121 (by kernel_rfl) rfl #[.agg #[.slice A0_0 l0_0.length c0_0], .slice Ao46 y259.length co46] rfl (by (simp only [List.map_toArray, List.map_cons, List.map_nil]); rfl) ?_; (with_reducible refine (impl_moduleCode.calls k _ _ l0_0 _ _ y259 t262 _ ?side1 ?side2 ?side3 ?side4 A4.out).mono ?_); (case side1 => exact (Kd.C_below HR0_0.out HB.out)); (case side2 => exact HC0_0.out); (case side3 => repeat (exact (Kd.N_reads' HO261.out).2.2)); (case side4 => exact (Kd.N_reads' HO261.out).2.1); rintro e w47 ⟨rfl, hb⟩; refine ⟨_, rfl, ?_⟩; replace HO1_1 := Aside0.mk (Kd.V_below HO1_1.out hb); replace HO261 := Aside0.mk (Kd.N_below HO261.out hb); replace BK257 := Aside0.mk (blk_below BK257.out hb); replace BK258 := Aside0.mk (blk_below BK258.out hb); replace HB := Aside0.mk (below_step HB.out hb); clear hb; have hcz48_0 := bc0 BK258.out; have hcz48_1 := bc1 BK258.out; have hfz48_0 := blk_frozen BK258.out 0; have hfz48_1 := blk_frozen BK258.out 1))
  go_ret
  exact ⟨by rfl, by exact HB.out⟩
 rw [if_neg c5] at H
 have c5b0 : (t262 == 0) = false := beq_eq_false_iff_ne.mpr c5
 have c5b1 : (t262 != 0) = true := bne_iff_ne.mpr c5
 obtain rfl := Option.some.inj H
 go_enter Try.func76, Try.ntmps76
 go_wp2_with (first | ((with_reducible refine gate_dst (N := 3) rfl ?_); refine box_event ?hg (N := 3) ?hd (cs := #[.slice A0_0 l0_0.length c0_0]) (t := 33) ?hr ?_; (case hd => rfl); (case hg => rfl); (case hr => (go_simp; done)); intro gb257 hg w49 hbox hb; replace HO1_1 := Aside0.mk (Kd.V_below (Kd.V_elderB HO1_1.out gb257 (Nat.le_of_eq hg.symm)) hb); have BK257 := Aside0.mk (hbox); have GW257 := Aside0.mk (geg hg (below_size HB.out)); have GE257 := Aside0.mk (geg hg (below_size HB.out)); replace HB := Aside0.mk (below_step HB.out hb); clear hb hbox hg) | ((with_reducible refine gate_dst (N := 4) rfl ?_); refine box_event ?hg (N := 4) ?hd (cs := #[.int .i64 a1_0, .slice A1_1 l1_1.length c1_1]) (t := 30) ?hr ?_; (case hd => rfl); (case hg => rfl); (case hr => (go_simp; done)); intro gb258 hg w50 hbox hb; replace HO1_1 := Aside0.mk (Kd.V_below (Kd.V_elderB HO1_1.out gb258 (Nat.le_of_eq hg.symm)) hb); have BK258 := Aside0.mk (hbox); have GW258 := Aside0.mk (geg hg (below_size HB.out)); have GE258 := Aside0.mk (geg hg (below_size HB.out)); replace HB := Aside0.mk (below_step HB.out hb); have NB257_258 := Aside0.mk (neg1 hg (Nat.ne_of_lt (blk_lt BK257.out))); have NB258_257 := Aside0.mk (neg2 hg (Nat.ne_of_gt (blk_lt BK257.out))); replace BK257 := Aside0.mk (blk_below BK257.out hb); clear hb hbox hg; have hnb51 := NB257_258.out; have hnc51 := NB258_257.out; have hcz52_0 := bc0 BK257.out; have hfz52_0 := blk_frozen BK257.out 0; have hcz53_0 := bc0 BK258.out; have hcz53_1 := bc1 BK258.out; have hfz53_0 := blk_frozen BK258.out 0; have hfz53_1 := blk_frozen BK258.out 1) | ((with_reducible refine gate_dst (N := 10) rfl ?_); refine Kd.N_lit k30 _ 30 ?hg (N' := 10) ?hd (xs := ([(⟨a1_0, l1_1⟩ : S30)] : List (S30))) (inner := [.int .i64 a1_0, .slice A1_1 l1_1.length c1_1]) (ok := (fun k_ => (P1_1_ k_ ∨ w.heap.size ≤ k_) ∧ k_ ≠ gb257 ∧ k_ ≠ gb258)) (okp := (fun k_ => (P1_1_ k_ ∨ w.heap.size ≤ k_) ∧ k_ ≠ gb257 ∧ k_ ≠ gb258)) ?hr ?hp (fun _ hk => hk) ((show ∀ k_, w50.heap.size ≤ k_ → (fun k_ => (P1_1_ k_ ∨ w.heap.size ≤ k_) ∧ k_ ≠ gb257 ∧ k_ ≠ gb258) k_ from fun k_ hk => ⟨(.inr (Nat.le_trans (below_size HB.out) hk)), Kd.freshB (g := gb257) (o := .cells #[.slice A0_0 l0_0.length c0_0] 33 (0, 0)) BK257.out k_ hk, Kd.freshB (g := gb258) (o := .cells #[.int .i64 a1_0, .slice A1_1 l1_1.length c1_1] 30 (0, 0)) BK258.out k_ hk⟩) _ (Nat.le_refl _)) (Below.refl _ _) (Nat.le_refl _) (by simp) ?_; (case hd => rfl); (case hg => rfl); (case hr => (go_simp; done)); (case hp => exact (Reps.c2 (show Kd.FK k30 _ _ (⟨a1_0, l1_1⟩ : S30) [.int .i64 a1_0, .slice A1_1 l1_1.length c1_1] from (k30_mkF _ _ (⟨a1_0, l1_1⟩ : S30) (Kd.V_reads' (Kd.V_mono (ok' := (fun k_ => (P1_1_ k_ ∨ w.heap.size ≤ k_) ∧ k_ ≠ gb257 ∧ k_ ≠ gb258)) (HO1_1.out) (fun k_ hk => ⟨hk.1.1, ⟨hk.1.2, hk.2⟩⟩))).2.1 (Kd.V_F (Kd.V_mono (ok' := (fun k_ => (P1_1_ k_ ∨ w.heap.size ≤ k_) ∧ k_ ≠ gb257 ∧ k_ ≠ gb258)) (HO1_1.out) (fun k_ hk => ⟨hk.1.1, ⟨hk.1.2, hk.2⟩⟩))))) (Reps.none _ _))); intro v260 w54 ho55 hb hg_ hnew_; clear hg_ hnew_; (rw [← Ny259.out] at ho55); replace HO1_1 := Aside0.mk (Kd.V_elder' HO1_1.out (Kd.N_base ho55) hb); have HO261 := Aside0.mk (Kd.N_lower ho55 (below_size HB.out)); replace BK257 := Aside0.mk (blk_below BK257.out hb); replace BK258 := Aside0.mk (blk_below BK258.out hb); replace HB := Aside0.mk (below_step HB.out hb); clear hb ho55; obtain ⟨Ao56, co56, eo56⟩ := Kd.N_slice HO261.out; subst eo56) | ((with_reducible refine gate_callee (f := 121) rfl ?_); refine goesL_ (some 11) rfl rfl Try.func121 (by kernel_rfl) rfl #[.agg #[.slice A0_0 l0_0.length c0_0], .slice Ao56 y259.length co56] rfl (by (simp only [List.map_toArray, List.map_cons, List.map_nil]); rfl) ?_; (with_reducible refine (impl_moduleCode.calls k _ _ l0_0 _ _ y259 t262 _ ?side1 ?side2 ?side3 ?side4 A4.out).mono ?_); (case side1 => exact (Kd.C_below HR0_0.out HB.out)); (case side2 => exact HC0_0.out); (case side3 => repeat (exact (Kd.N_reads' HO261.out).2.2)); (case side4 => exact (Kd.N_reads' HO261.out).2.1); rintro e w57 ⟨rfl, hb⟩; refine ⟨_, rfl, ?_⟩; replace HO1_1 := Aside0.mk (Kd.V_below HO1_1.out hb); replace HO261 := Aside0.mk (Kd.N_below HO261.out hb); replace BK257 := Aside0.mk (blk_below BK257.out hb); replace BK258 := Aside0.mk (blk_below BK258.out hb); replace HB := Aside0.mk (below_step HB.out hb); clear hb))
 go_ret
 exact ⟨by rfl, by exact HB.out⟩

/-! ### impl_reduced_1: function 123 -/
def impl_reduced_1.f (a0 : Int) (l1 : List (S30)) (l2 : List Int) : Option (Int) := if 0 < (l1.length : Int) then (if 0 ≤ a0 then (if a0 < (((rd_T30 l1 0).f1).length : Int) then (if 0 < (l2.length : Int) then (if (rd l2 0) = 0 then (none) else (some (Int.tmod (rd ((rd_T30 l1 0).f1) a0) (rd l2 0)))) else (none)) else (none)) else (none)) else (none)
set_option maxHeartbeats 8000000 in
set_option maxRecDepth 100000 in
theorem impl_reduced_1.calls (a0 : Int) (A1 : Option Addr) (l1 : List (S30)) (A2 : Option Addr) (l2 : List Int) (r : Int) (w : World) (hr1 : Kd.C k30 w A1 l1.length l1) (hr2 : Kd.C (Kd.int .i64) w A2 l2.length l2) (h : impl_reduced_1.f a0 l1 l2 = some r) :
  Calls Try.prog 123 #[.int .i64 a0, .pointer A1, .pointer A2] w fun e w' => e = .returned (.int .i64 r) ∧ Drawn0 w w' := by
 have hu25 := Try.underlying25
 have hu2 := Try.underlying2
 have HR1 := Aside0.mk hr1
 clear hr1
 have HR2 := Aside0.mk hr2
 clear hr2
 have H : (if 0 < (l1.length : Int) then (if 0 ≤ a0 then (if a0 < (((rd_T30 l1 0).f1).length : Int) then (if 0 < (l2.length : Int) then (if (rd l2 0) = 0 then (none) else (some (Int.tmod (rd ((rd_T30 l1 0).f1) a0) (rd l2 0)))) else (none)) else (none)) else (none)) else (none)) = some r := h
 clear h
 by_cases c4 : 0 < (l1.length : Int)
 ·rw [if_pos c4] at H
  have c4b0 : decide (0 < (l1.length : Int)) = true := decide_eq_true c4
  have c4b1 : decide (0 < l1.length) = true := decide_eq_true (by omega)
  clear c4
  by_cases c5 : 0 ≤ a0
  ·rw [if_pos c5] at H
   have c5b0 : decide (0 ≤ a0) = true := decide_eq_true c5
   clear c5
   by_cases c6 : a0 < (((rd_T30 l1 0).f1).length : Int)
   ·rw [if_pos c6] at H
    have c6b0 : decide (a0 < (((rd_T30 l1 0).f1).length : Int)) = true := decide_eq_true c6
    clear c6
    by_cases c7 : 0 < (l2.length : Int)
    ·rw [if_pos c7] at H
     have c7b0 : decide (0 < (l2.length : Int)) = true := decide_eq_true c7
     have c7b1 : decide (0 < l2.length) = true := decide_eq_true (by omega)
     clear c7
     by_cases c8 : (rd l2 0) = 0
     ·rw [if_pos c8] at H
      exact absurd H (by simp)
     rw [if_neg c8] at H
     have c8b0 : ((rd l2 0) == 0) = false := beq_eq_false_iff_ne.mpr c8
     have c8b1 : ((rd l2 0) != 0) = true := bne_iff_ne.mpr c8
     obtain rfl := Option.some.inj H
     have p263 : 0 ≤ (0 : Int) := (by omega)
     have q263 : 0 < (l1.length : Int) := of_decide_eq_true ‹_›
     obtain ⟨ad263, A263_1, c263_1, e263, hx263_0, hx263_1, hl263_1, hi263_1⟩ := at_T30 HR1.out 0 p263 q263
     cases e263
     have qi263 : (0 < l1.length) = True := eq_true (by omega)
     (rw [show ((0 : Int)).toNat = 0 from rfl] at hx263_0)
     (rw [show 0 * 2 = 0 from rfl] at hx263_0)
     (rw [Addr.add_zero'] at hx263_0)
     (rw [show ((0 : Int)).toNat = 0 from rfl] at hx263_1)
     (rw [show 0 * 2 = 0 from rfl] at hx263_1)
     (rw [Addr.add_zero'] at hx263_1)
     have HR263_1 := Aside0.mk hi263_1
     have HC263_1 := Aside0.mk hl263_1
     clear hi263_1 hl263_1
     replace p263 := eq_true p263
     replace q263 := eq_true q263
     have p264 : 0 ≤ (a0 : Int) := of_decide_eq_true ‹_›
     have q264 : a0 < (((rd_T30 l1 0).f1).length : Int) := of_decide_eq_true ‹_›
     obtain ⟨ad264, e264, hx264_0⟩ := Kd.at_int HR263_1.out a0 p264 q264
     cases e264
     replace p264 := eq_true p264
     replace q264 := eq_true q264
     have p265 : 0 ≤ (0 : Int) := (by omega)
     have q265 : 0 < (l2.length : Int) := of_decide_eq_true ‹_›
     obtain ⟨ad265, e265, hx265_0⟩ := Kd.at_int HR2.out 0 p265 q265
     cases e265
     have qi265 : (0 < l2.length) = True := eq_true (by omega)
     (rw [show ((0 : Int)).toNat = 0 from rfl] at hx265_0)
     (rw [Addr.add_zero'] at hx265_0)
     replace p265 := eq_true p265
     replace q265 := eq_true q265
     go_enter Try.func123, Try.ntmps123
     go_wp2
     repeat (go_quiet (fail); go_wp2)
     go_ret
     exact ⟨by rfl, by repeat (first | exact Drawn0.refl _ | apply Drawn0.step)⟩
    rw [if_neg c7] at H
    exact absurd H (by simp)
   rw [if_neg c6] at H
   exact absurd H (by simp)
  rw [if_neg c5] at H
  exact absurd H (by simp)
 rw [if_neg c4] at H
 exact absurd H (by simp)

/-! ### impl_unitsOf_at123: function 233 -/
def impl_unitsOf_at123.l0 : Nat → Int → Int → List (S30) → List Int → Int → List Int → Option (Int × List Int)
 | 0, _, _, _, _, _, _ => none
 | k + 1, x12, x13, x820, x821, x269000, x269001 => if x13 < x12 then ((impl_reduced_1.f x13 x820 x821).bind fun t270 => (if x269001.length < 17592186044416 then (impl_unitsOf_at123.l0 k x12 (wrap64 (x13 + 1)) x820 x821 x269000 (x269001 ++ [t270])) else (none))) else (some (x269000, x269001))
def impl_unitsOf_at123.f (k : Nat) (l0_0 : List (List Int)) (a1 : Int) (l2_0 : List (S30)) (l2_1 : List Int) : Option (Int × List Int) := (impl_order.f l0_0).bind fun t269 => (impl_unitsOf_at123.l0 k t269 0 l2_0 l2_1 a1 ([] : List Int))
theorem impl_unitsOf_at123.mono_l : ∀ k, (∀ y0 y1 y2 y3 y4 y5, LeO (impl_unitsOf_at123.l0 k y0 y1 y2 y3 y4 y5) (impl_unitsOf_at123.l0 (k + 1) y0 y1 y2 y3 y4 y5))
 | 0 => fun _ _ _ _ _ _ r h => by simp [impl_unitsOf_at123.l0] at h
 | k + 1 => by
  have ih0 := impl_unitsOf_at123.mono_l k
  ·intro y0 y1 y2 y3 y4 y5
   unfold impl_unitsOf_at123.l0
   repeat' first
   | (with_reducible exact ih0 _ _ _ _ _ _)
   | (with_reducible exact LeO.refl _)
   | (with_reducible exact LeO.none _)
   | (with_reducible refine LeO.ite ?_ ?_)
   | (with_reducible refine LeO.bind ?_ (fun _ => ?_))
   | exact ih0 _ _ _ _ _ _
   | exact LeO.none _
   | refine LeO.ite ?_ ?_
   | refine LeO.bind ?_ (fun _ => ?_)
theorem impl_unitsOf_at123.mono : ∀ a0 a1 a2 a3 k, LeO (impl_unitsOf_at123.f k a0 a1 a2 a3) (impl_unitsOf_at123.f (k + 1) a0 a1 a2 a3) := by
 intro a0 a1 a2 a3 k
 have ih0 := impl_unitsOf_at123.mono_l k
 unfold impl_unitsOf_at123.f
 repeat' first
   | (with_reducible exact ih0 _ _ _ _ _ _)
   | (with_reducible exact LeO.refl _)
   | (with_reducible refine LeO.bind ?_ (fun _ => ?_))
def impl_unitsOf_at123.T5 : Bool × List (List Nat × List Nat) := (true, [([], []), ([0], [0]), ([], []), ([], []), ([2, 3], [2, 3]), ([4], [4]), ([1, 5, 4], [1, 5]), ([0, 1, 2, 3, 4, 5, 6], []), ([7, 6, 6, 0, 1, 2, 3, 4, 5, 6], [6, 7])])
def impl_unitsOf_at123.B5 : List Nat := [0, 1, 0, 0, 12, 28, 63, 127, 255]
theorem impl_unitsOf_at123.tab5 : rtab .any (opsOf Try.f122 5) = impl_unitsOf_at123.T5 := by kernel_rfl
theorem impl_unitsOf_at123.bits5 : waitsOk impl_unitsOf_at123.T5.2 impl_unitsOf_at123.B5 = true := by kernel_rfl
set_option maxHeartbeats 8000000 in
set_option maxRecDepth 100000 in
theorem impl_unitsOf_at123.calls (k : Nat) (A0_0 : Option Addr) (c0_0 : Nat) (l0_0 : List (List Int)) (a1 : Int) (A2_0 : Option Addr) (l2_0 : List (S30)) (A2_1 : Option Addr) (l2_1 : List Int) (r1 : Int) (r2 : List Int) (w : World) (hr0_0 : Kd.C (Kd.slice 2 (Kd.int .i64)) w A0_0 l0_0.length l0_0) (hc0_0 : l0_0.length ≤ c0_0) (hr2_0 : Kd.C k30 w A2_0 l2_0.length l2_0) (hr2_1 : Kd.C (Kd.int .i64) w A2_1 l2_1.length l2_1) (h : impl_unitsOf_at123.f k l0_0 a1 l2_0 l2_1 = some (r1, r2)) :
  Calls Try.prog 122 #[.agg #[.slice A0_0 l0_0.length c0_0], .int .i64 a1, .func (.func 123) #[] #[.pointer A2_0, .pointer A2_1]] w fun e w' => ∃ v1_ : Value, e = .returned (.agg #[.int .i64 r1, v1_]) ∧ Kd.R (Kd.int .i64) 2 w' w.heap.size (fun _ => True) v1_ r2 ∧ Below w.heap.size w w' := by
 have hu33 := Try.underlying33
 have hu30 := Try.underlying30
 have hu25 := Try.underlying25
 have HR0_0 := Aside0.mk hr0_0
 have HC0_0 := Aside0.mk hc0_0
 clear hr0_0 hc0_0
 have HR2_0 := Aside0.mk hr2_0
 clear hr2_0
 have HR2_1 := Aside0.mk hr2_1
 clear hr2_1
 have HB := Aside0.mk (Below.refl w.heap.size w)
 have H : ((impl_order.f l0_0).bind fun t269 => (impl_unitsOf_at123.l0 k t269 0 l2_0 l2_1 a1 ([] : List Int))) = some (r1, r2) := h
 clear h
 obtain ⟨t269, A4, H⟩ := bnd H
 try dsimp only at H
 have H' := Aside0.mk H
 clear H
 go_enter Try.func122, Try.ntmps122
 go_wp2_with (first | ((with_reducible refine gate_dst (N := 3) rfl ?_); refine box_event ?hg (N := 3) ?hd (cs := #[.slice A0_0 l0_0.length c0_0]) (t := 33) ?hr ?_; (case hd => rfl); (case hg => rfl); (case hr => (go_simp; done)); intro gb266 hg w5 hbox hb; have BK266 := Aside0.mk (hbox); have GW266 := Aside0.mk (geg hg (below_size HB.out)); have GE266 := Aside0.mk (geg hg (below_size HB.out)); replace HB := Aside0.mk (below_step HB.out hb); clear hb hbox hg) | ((with_reducible refine gate_dst (N := 6) rfl ?_); refine box_event ?hg (N := 6) ?hd (cs := #[.int .i64 0, .slice none 0 0]) (t := 30) ?hr ?_; (case hd => rfl); (case hg => rfl); (case hr => (go_simp; done)); intro gb267 hg w6 hbox hb; have BK267 := Aside0.mk (hbox); have GW267 := Aside0.mk (geg hg (below_size HB.out)); have GE267 := Aside0.mk (geg hg (below_size HB.out)); replace HB := Aside0.mk (below_step HB.out hb); have NB266_267 := Aside0.mk (neg1 hg (Nat.ne_of_lt (blk_lt BK266.out))); have NB267_266 := Aside0.mk (neg2 hg (Nat.ne_of_gt (blk_lt BK266.out))); replace BK266 := Aside0.mk (blk_below BK266.out hb); clear hb hbox hg) | ((with_reducible refine gate_dst (N := 7) rfl ?_); refine box_event ?hg (N := 7) ?hd (cs := #[.int .i64 0, .slice none 0 0]) (t := 30) ?hr ?_; (case hd => rfl); (case hg => rfl); (case hr => (go_simp; done)); intro gb268 hg w7 hbox hb; have BK268 := Aside0.mk (hbox); have GW268 := Aside0.mk (geg hg (below_size HB.out)); have GE268 := Aside0.mk (geg hg (below_size HB.out)); replace HB := Aside0.mk (below_step HB.out hb); have NB266_268 := Aside0.mk (neg1 hg (Nat.ne_of_lt (blk_lt BK266.out))); have NB268_266 := Aside0.mk (neg2 hg (Nat.ne_of_gt (blk_lt BK266.out))); replace BK266 := Aside0.mk (blk_below BK266.out hb); have NB267_268 := Aside0.mk (neg1 hg (Nat.ne_of_lt (blk_lt BK267.out))); have NB268_267 := Aside0.mk (neg2 hg (Nat.ne_of_gt (blk_lt BK267.out))); replace BK267 := Aside0.mk (blk_below BK267.out hb); clear hb hbox hg; have hnb8 := NB268_266.out; have hnc8 := NB266_268.out; have hnb9 := NB268_267.out; have hnc9 := NB267_268.out; have hcz10_0 := bc0 BK268.out; have hcz10_1 := bc1 BK268.out; have hfz10_0 := blk_frozen BK268.out 0; have hfz10_1 := blk_frozen BK268.out 1; have hnb11 := NB266_267.out; have hnc11 := NB267_266.out; have hcz12_0 := bc0 BK266.out; have hfz12_0 := blk_frozen BK266.out 0) | ((with_reducible refine gate_callee (f := 107) rfl ?_); refine goesL_ (some 12) rfl rfl Try.func107 (by kernel_rfl) rfl #[.agg #[.slice A0_0 l0_0.length c0_0]] rfl (by (simp only [List.map_toArray, List.map_cons, List.map_nil]); rfl) ?_; (with_reducible refine (impl_order.calls _ _ l0_0 t269 _ ?side1 ?side2 A4.out).mono ?_); (case side1 => exact Kd.C_below HR0_0.out (by repeat ((with_reducible first | exact HB.out | refine below_set ?_ GE268.out)))); (case side2 => exact HC0_0.out); rintro e w13 ⟨rfl, hb⟩; refine ⟨_, rfl, ?_⟩; replace BK266 := Aside0.mk (blk_below (g := gb266) (o := .cells #[.slice A0_0 l0_0.length c0_0] 33 (0, 0)) (by refine blk_far ?_ NB266_268.out _; refine blk_far ?_ NB266_268.out _; exact BK266.out) hb); replace BK267 := Aside0.mk (blk_below (g := gb267) (o := .cells #[.int .i64 0, .slice none 0 0] 30 (0, 0)) (by refine blk_far ?_ NB267_268.out _; refine blk_far ?_ NB267_268.out _; exact BK267.out) hb); replace BK268 := Aside0.mk (blk_below (g := gb268) (o := .cells #[.int .i64 a1, .slice none 0 0] 30 (0, 0)) (by refine blk_put (cs := #[.int .i64 a1, .slice none 0 0]) ?_ 1 _ rfl; refine blk_put (cs := #[.int .i64 0, .slice none 0 0]) ?_ 0 _ rfl; exact BK268.out) hb); replace HB := Aside0.mk (below_step (by repeat ((with_reducible first | exact HB.out | refine below_set ?_ GE268.out))) hb); clear hb))
 go_loopg [13] k (fun kq v13 w' => ∃ (x13_1 : Int) (x269001_1 : List Int) (u269001 : Value), v13 = .int .i64 x13_1 ∧ Aside0 (impl_unitsOf_at123.l0 kq t269 x13_1 l2_0 l2_1 a1 x269001_1 = some (r1, r2)) ∧ Aside0 (kq ≤ k) ∧ Aside0 (Kd.R (Kd.int .i64) 2 w' w.heap.size (fun _ => True) u269001 x269001_1) ∧ Aside0 (w'.heap[gb266]? = some (.cells #[(.slice A0_0 l0_0.length c0_0)] 33 (0, 0))) ∧ Aside0 (w'.heap[gb267]? = some (.cells #[.int .i64 0, (.slice none 0 0)] 30 (0, 0))) ∧ Aside0 (w'.heap[gb268]? = some (.cells #[.int .i64 a1, u269001] 30 (0, 0))) ∧ Aside0 (Below w.heap.size w w'))
 case atStart => exact ⟨(0), (([] : List Int)), (.slice none 0 0), (by rfl), H', ⟨Nat.le_refl _⟩, ⟨by exact Kd.R_nil _ _ _ _ _⟩, ⟨by exact BK266.out⟩, ⟨by exact BK267.out⟩, ⟨by exact BK268.out⟩, ⟨by exact HB.out⟩⟩
 case round =>
  clear H' hcz10_0 hcz10_1 hcz12_0 hfz10_0 hfz10_1 hfz12_0
  obtain ⟨x13_1, x269001_1, u269001, rfl, HA, HK1, HO_269001, BK266, BK267, BK268, HB⟩ := hrel
  cases gk with
  | zero => exact absurd HA.out (by simp [impl_unitsOf_at123.l0])
  | succ k1 =>
   have H := HA.out
   clear HA
   simp only [impl_unitsOf_at123.l0] at H
   by_cases c14 : x13_1 < t269
   ·rw [if_pos c14] at H
    have c14b0 : decide (x13_1 < t269) = true := decide_eq_true c14
    clear c14
    obtain ⟨t270, A15, H⟩ := bnd H
    try dsimp only at H
    by_cases c16 : x269001_1.length < 17592186044416
    ·rw [if_pos c16] at H
     have LMc16 := Aside0.mk c16
     clear c16
     obtain ⟨y271, hy271⟩ : ∃ y_ : List Int, y_ = (x269001_1 ++ [t270]) := ⟨_, rfl⟩
     replace H : (impl_unitsOf_at123.l0 k1 t269 (wrap64 (x13_1 + 1)) l2_0 l2_1 a1 y271) = some (r1, r2) := by (rw [hy271]; with_reducible exact H)
     have Ny271 := Aside0.mk hy271
     clear hy271
     have H' := Aside0.mk H
     clear H
     go_wp2
     replace HO_269001 := Aside0.mk (Kd.R_drew HO_269001.out); replace BK266 := Aside0.mk (blk_drew BK266.out); replace BK267 := Aside0.mk (blk_drew BK267.out); replace BK268 := Aside0.mk (blk_drew BK268.out); replace HB := Aside0.mk (below_drew1 HB.out)
     refine start_ (n := 9) (S := fun w' => w'.cell? ⟨gb268, 0, none⟩ = some (.int .i64 a1) ∧ w'.cell? ⟨gb268, 1, none⟩ = some (u269001)) (ds := [8]) #[false,false,false,false,false,false,false,false,false] (by kernel_rfl) rfl rfl ⟨(blk_cell BK268.out 0).trans rfl, (blk_cell BK268.out 1).trans rfl⟩ (fun hHeld => ?_); refine with_tabW impl_unitsOf_at123.tab5 impl_unitsOf_at123.bits5 (fun HT_ HW_ => ?_)
     generalize wr.drew = w17 at HO_269001 BK266 BK267 BK268 HB hHeld ⊢
     refine pure_ (i := 0) (N := some 16) (v := ?_) (a' := ?_) #[true,false,false,false,false,false,false,false,false] rfl rfl (any_of HT_.out (by kernel_rfl)) (fun _ _ _ h => h) (Or.inl ⟨by rfl, ?_⟩) ?_ ?_
     rotate_left
     ·intro w'
      go_simp
      with_reducible rfl
     rotate_left
     ·simp only [Act.put, List.setIfInBounds_toArray, List.set_cons_zero, List.set_cons_succ, i64_w, i32_w]
      rfl
     refine pure_ (i := 2) (N := some 18) (v := ?_) (a' := ?_) #[true,false,true,false,false,false,false,false,false] rfl rfl (any_of HT_.out (by kernel_rfl)) (fun _ _ _ h => h) (Or.inl ⟨by rfl, ?_⟩) ?_ ?_
     rotate_left
     ·intro w'
      go_simp
      with_reducible rfl
     rotate_left
     ·simp only [Act.put, List.setIfInBounds_toArray, List.set_cons_zero, List.set_cons_succ, i64_w, i32_w]
      rfl
     refine pure_ (i := 3) (N := some 19) (v := ?_) (a' := ?_) #[true,false,true,true,false,false,false,false,false] rfl rfl (any_of HT_.out (by kernel_rfl)) (fun _ _ _ h => h) (Or.inl ⟨by rfl, ?_⟩) ?_ ?_
     rotate_left
     ·intro w'
      go_simp
      with_reducible rfl
     rotate_left
     ·simp only [Act.put, List.setIfInBounds_toArray, List.set_cons_zero, List.set_cons_succ, i64_w, i32_w]
      rfl
     refine take_ (i := 1) (N := some 17) (v := ?_) (a' := ?_) #[true,true,true,true,false,false,false,false,false] rfl rfl (take_ofW HT_.out HW_.out (by kernel_rfl)) (fun _ _ _ h => h) (Or.inl ⟨by rfl, ?_⟩) hHeld ?_ ?_
     rotate_left
     ·rintro w' ⟨s0, s1⟩
      go_simp
      with_reducible rfl
     rotate_left
     ·simp only [Act.put, List.setIfInBounds_toArray, List.set_cons_zero, List.set_cons_succ, i64_w, i32_w]
      rfl
     refine one_ (i := 4) (N := some 20) #[true,true,true,true,true,false,false,false,false] rfl rfl (one_of HT_.out (by kernel_rfl)) (by decide) (fun K hK => ?_)
     refine Go.Proofs.YtkpcogaahgfmcaaX.goesF_ Try.func123 (by kernel_rfl) rfl #[.pointer A2_0, .pointer A2_1] #[.int .i64 x13_1, .pointer A2_0, .pointer A2_1] (by rfl) rfl rfl (by rfl) (by (simp only [List.map_toArray, List.map_cons, List.map_nil]); rfl) ?_
     refine (impl_reduced_1.calls x13_1 _ l2_0 _ l2_1 t270 _ ?side1 ?side2 A15.out).mono ?_
     (case side1 => exact (Kd.C_below HR2_0.out HB.out))
     (case side2 => exact (Kd.C_below HR2_1.out HB.out))
     rintro e w' ⟨rfl, ⟨nd, rfl⟩⟩
     refine ⟨_, rfl, ?_⟩
     refine hK.out _ _ ⟨(blk_cell BK268.out 0).trans rfl, (blk_cell BK268.out 1).trans rfl⟩ (fun hHeld => ?_)
     clear hK K
     refine norm_ (a' := ?_) ?_ ?_
     rotate_left
     ·show Act.put _ (some 20) _ = _
      simp only [Act.put, List.setIfInBounds_toArray, List.set_cons_zero, List.set_cons_succ, i64_w, i32_w]
      rfl
     refine one_ (i := 5) (N := some 21) #[true,true,true,true,true,true,false,false,false] rfl rfl (one_of HT_.out (by kernel_rfl)) (by decide) (fun K hK => ?_)
     refine value_ (w1 := ?_) (v := ?_) (by rfl) rfl ?_ ?_
     rotate_left 2
     ·go_simp
      constructor
      ·rfl
      ·rfl
     refine hK.out _ _ ⟨(blk_cell (blk_alloc BK268.out _) 0).trans rfl, (blk_cell (blk_alloc BK268.out _) 1).trans rfl⟩ (fun hHeld => ?_)
     clear hK K
     refine norm_ (a' := ?_) ?_ ?_
     rotate_left
     ·show Act.put _ (some 21) _ = _
      simp only [Act.put, List.setIfInBounds_toArray, List.set_cons_zero, List.set_cons_succ, i64_w, i32_w]
      rfl
     refine one_ (i := 6) (N := some 22) #[true,true,true,true,true,true,true,false,false] rfl rfl (one_of HT_.out (by kernel_rfl)) (by decide) (fun K hK => ?_)
     refine Kd.R_append_step (Kd.int .i64) (w0 := w) w.heap.size (by rfl) (.tmp 17) (.tmp 21) 25 2 (.int .i64 0) 8 rfl Try.underlying25 info2 rfl (by decide) (by omega) u269001 x269001_1 t270 [.int .i64 t270] (fun _ => True) (fun _ => False) rfl rfl ?aP (fun _ hk => hk.elim) ?aF ?aO ?aB ?aS ?aL ?_
     (case aP => exact rfl)
     (case aB => exact (by repeat ((with_reducible first | exact HB.out | apply pw_below_drewN))))
     (case aF => exact (fun _ _ => trivial))
     (case aO => exact (by (with_reducible repeat (apply Kd.R_drewN)); exact HO_269001.out))
     (case aS => exact (below_size (by repeat ((with_reducible first | exact HB.out | apply pw_below_drewN)))))
     (case aL => have := LMc16.out; omega)
     intro v272 w18 ho hb hg hat
     rw [← Ny271.out] at ho
     replace BK266 := Aside0.mk (blk_grown (g := gb266) (o := .cells #[.slice A0_0 l0_0.length c0_0] 33 (0, 0)) (by (with_reducible repeat (refine blk_drewN ?_ _)); exact BK266.out) hg (Kd.R_ne HO_269001.out BK266.out (by decide))); replace BK267 := Aside0.mk (blk_grown (g := gb267) (o := .cells #[.int .i64 0, .slice none 0 0] 30 (0, 0)) (by (with_reducible repeat (refine blk_drewN ?_ _)); exact BK267.out) hg (Kd.R_ne HO_269001.out BK267.out (by decide))); replace BK268 := Aside0.mk (blk_grown (g := gb268) (o := .cells #[.int .i64 a1, u269001] 30 (0, 0)) (by (with_reducible repeat (refine blk_drewN ?_ _)); exact BK268.out) hg (Kd.R_ne HO_269001.out BK268.out (by decide))); replace HB := Aside0.mk (hb); have HO273 := Aside0.mk (ho); clear HO_269001
     clear ho hb hg hat
     obtain ⟨Ao19, co19, eo19⟩ := Kd.R_slice HO273.out
     (subst eo19)
     refine hK.out _ _ ⟨(blk_cell BK268.out 0).trans rfl, (blk_cell BK268.out 1).trans rfl⟩ (fun hHeld => ?_)
     clear hK K
     refine norm_ (a' := ?_) ?_ ?_
     rotate_left
     ·show Act.put _ (some 22) _ = _
      simp only [Act.put, List.setIfInBounds_toArray, List.set_cons_zero, List.set_cons_succ, i64_w, i32_w]
      rfl
     refine pure_ (i := 7) (N := some 23) (v := ?_) (a' := ?_) #[true,true,true,true,true,true,true,true,false] rfl rfl (any_of HT_.out (by kernel_rfl)) (fun _ _ _ h => h) (Or.inl ⟨by rfl, ?_⟩) ?_ ?_
     rotate_left
     ·intro w'
      go_simp
      with_reducible rfl
     rotate_left
     ·simp only [Act.put, List.setIfInBounds_toArray, List.set_cons_zero, List.set_cons_succ, i64_w, i32_w]
      rfl
     refine last_ (i := 8) (N := none) #[true,true,true,true,true,true,true,true,true] rfl rfl (one_of HT_.out (by kernel_rfl)) (by decide) (fun K hK => ?_)
     have hs20 : w18.cell? ⟨gb268, 1, none⟩ = some (u269001) := (blk_cell BK268.out 1).trans rfl
     have hfs20 := blk_frozen BK268.out 1
     have hns20_0 := NB266_268.out
     have hns20_1 := NB267_268.out
     have hms20_0 := NB268_266.out
     have hms20_1 := NB268_267.out
     refine skip_ (w1 := ?_) (by rfl) rfl ?_ ?_
     rotate_left
     ·go_simp
      rfl
     refine hK.out _ _ ?_
     clear hK K
     refine done_ (done_of HT_.out (by kernel_rfl)) ?_
     go_wp2
     go_roundg k1
     case measure => have := HK1.out; omega
     case rel => exact ⟨(wrap64 (x13_1 + 1)), (y271), (.slice Ao19 y271.length co19), (by rfl), H', ⟨by have := HK1.out; omega⟩, ⟨by exact Kd.R_mono (Kd.R_far (p := ⟨gb268, 1, none⟩) (Kd.R_types HO273.out BK268.out (by decide)) (fun _ hk => hk.2) (.slice Ao19 y271.length co19)) (fun _ hk => trivial)⟩, ⟨by refine blk_far ?_ NB266_268.out _; exact BK266.out⟩, ⟨by refine blk_far ?_ NB267_268.out _; exact BK267.out⟩, ⟨by refine blk_put (cs := #[.int .i64 a1, u269001]) ?_ 1 _ rfl; exact BK268.out⟩, ⟨by repeat ((with_reducible first | exact HB.out | refine below_set ?_ GE268.out))⟩⟩
    rw [if_neg c16] at H
    exact absurd H (by simp)
   rw [if_neg c14] at H
   have c14b0 : decide (x13_1 < t269) = false := decide_eq_false c14
   clear c14
   simp only [Option.some.injEq, Prod.mk.injEq] at H
   obtain ⟨rfl, rfl⟩ := H
   have hnb21 := NB268_266.out
   have hnc21 := NB266_268.out
   have hnb22 := NB268_267.out
   have hnc22 := NB267_268.out
   have hcz23_0 := bc0 BK268.out
   have hcz23_1 := bc1 BK268.out
   have hfz23_0 := blk_frozen BK268.out 0
   have hfz23_1 := blk_frozen BK268.out 1
   have hnb24 := NB267_266.out
   have hnc24 := NB266_267.out
   have hcz25_0 := bc0 BK267.out
   have hcz25_1 := bc1 BK267.out
   have hfz25_0 := blk_frozen BK267.out 0
   have hfz25_1 := blk_frozen BK267.out 1
   obtain ⟨Ao26, co26, eo26⟩ := Kd.R_slice HO_269001.out
   subst eo26
   go_wp2
   refine bodyPost_ret (results_cell_row rfl _ _ gb267 30 #[.int .i64 a1, .slice Ao26 x269001_1.length co26] (0, 0) _ rfl (by refine blk_put (cs := #[.int .i64 a1, .slice none 0 0]) ?_ 1 _ rfl; refine blk_put (cs := #[.int .i64 0, .slice none 0 0]) ?_ 0 _ rfl; exact BK267.out) Try.underlying30 rfl (by kernel_rfl)) rfl ?_
   exact ⟨_, by rfl, by exact Kd.R_mono (Kd.R_far (p := ⟨gb267, 1, none⟩) (Kd.R_far (p := ⟨gb267, 0, none⟩) (Kd.R_types HO_269001.out BK267.out (by decide)) (fun _ hk => hk.2) (.int .i64 a1)) (fun _ hk => hk.2) (.slice Ao26 x269001_1.length co26)) (fun _ hk => trivial), by repeat ((with_reducible first | exact HB.out | refine below_set ?_ GE267.out))⟩

/-! ### impl_reduced: function 77 -/
def impl_reduced.f (k : Nat) (l0_0 : List (List Int)) (a1_0 : Int) (l1_1 : List Int) (a2 : Int) : Option (Int × List Int) := (impl_unitsOf_at123.f k l0_0 a2 ([(⟨a1_0, l1_1⟩ : S30)] : List (S30)) ([a2] : List Int)).bind fun bt278 => (some (bt278.1, bt278.2))
theorem impl_reduced.mono : ∀ a0 a1 a2 a3 k, LeO (impl_reduced.f k a0 a1 a2 a3) (impl_reduced.f (k + 1) a0 a1 a2 a3) := by
 intro a0 a1 a2 a3 k
 unfold impl_reduced.f
 repeat' first
   | (with_reducible exact impl_unitsOf_at123.mono _ _ _ _ _)
   | (with_reducible exact LeO.refl _)
   | (with_reducible refine LeO.bind ?_ (fun _ => ?_))
set_option maxHeartbeats 8000000 in
set_option maxRecDepth 100000 in
theorem impl_reduced.calls (k : Nat) (A0_0 : Option Addr) (c0_0 : Nat) (l0_0 : List (List Int)) (a1_0 : Int) (A1_1 : Option Addr) (c1_1 : Nat) (l1_1 : List Int) (a2 : Int) (r1 : Int) (r2 : List Int) (w : World) (hr0_0 : Kd.C (Kd.slice 2 (Kd.int .i64)) w A0_0 l0_0.length l0_0) (hc0_0 : l0_0.length ≤ c0_0) (hr1_1 : Kd.C (Kd.int .i64) w A1_1 l1_1.length l1_1) (hc1_1 : l1_1.length ≤ c1_1) (h : impl_reduced.f k l0_0 a1_0 l1_1 a2 = some (r1, r2)) :
  Calls Try.prog 77 #[.agg #[.slice A0_0 l0_0.length c0_0], .agg #[.int .i64 a1_0, .slice A1_1 l1_1.length c1_1], .int .i64 a2] w fun e w' => ∃ v1_ : Value, e = .returned (.agg #[.int .i64 r1, v1_]) ∧ Kd.R (Kd.int .i64) 2 w' w.heap.size (fun _ => True) v1_ r2 ∧ Below w.heap.size w w' := by
 have hu33 := Try.underlying33
 have hu30 := Try.underlying30
 have hu2 := Try.underlying2
 have HR0_0 := Aside0.mk hr0_0
 have HC0_0 := Aside0.mk hc0_0
 clear hr0_0 hc0_0
 have HR1_1 := Aside0.mk hr1_1
 have HC1_1 := Aside0.mk hc1_1
 clear hr1_1 hc1_1
 have HB := Aside0.mk (Below.refl w.heap.size w)
 have H : ((impl_unitsOf_at123.f k l0_0 a2 ([(⟨a1_0, l1_1⟩ : S30)] : List (S30)) ([a2] : List Int)).bind fun bt278 => (some (bt278.1, bt278.2))) = some (r1, r2) := h
 clear h
 obtain ⟨⟨t278, t279⟩, A4, H⟩ := bnd H
 try dsimp only at H
 simp only [Option.some.injEq, Prod.mk.injEq] at H
 obtain ⟨rfl, rfl⟩ := H
 go_enter Try.func77, Try.ntmps77
 go_wp2_with (first | ((with_reducible refine gate_dst (N := 3) rfl ?_); refine box_event ?hg (N := 3) ?hd (cs := #[.slice A0_0 l0_0.length c0_0]) (t := 33) ?hr ?_; (case hd => rfl); (case hg => rfl); (case hr => (go_simp; done)); intro gb274 hg w5 hbox hb; have BK274 := Aside0.mk (hbox); have GW274 := Aside0.mk (geg hg (below_size HB.out)); have GE274 := Aside0.mk (geg hg (below_size HB.out)); replace HB := Aside0.mk (below_step HB.out hb); clear hb hbox hg) | ((with_reducible refine gate_dst (N := 4) rfl ?_); refine box_event ?hg (N := 4) ?hd (cs := #[.int .i64 a1_0, .slice A1_1 l1_1.length c1_1]) (t := 30) ?hr ?_; (case hd => rfl); (case hg => rfl); (case hr => (go_simp; done)); intro gb275 hg w6 hbox hb; have BK275 := Aside0.mk (hbox); have GW275 := Aside0.mk (geg hg (below_size HB.out)); have GE275 := Aside0.mk (geg hg (below_size HB.out)); replace HB := Aside0.mk (below_step HB.out hb); have NB274_275 := Aside0.mk (neg1 hg (Nat.ne_of_lt (blk_lt BK274.out))); have NB275_274 := Aside0.mk (neg2 hg (Nat.ne_of_gt (blk_lt BK274.out))); replace BK274 := Aside0.mk (blk_below BK274.out hb); clear hb hbox hg) | ((with_reducible refine gate_dst (N := 5) rfl ?_); refine box_event ?hg (N := 5) ?hd (cs := #[.int .i64 a2]) (t := 2) ?hr ?_; (case hd => rfl); (case hg => rfl); (case hr => (go_simp; done)); intro gb276 hg w7 hbox hb; have BK276 := Aside0.mk (hbox); have GW276 := Aside0.mk (geg hg (below_size HB.out)); have GE276 := Aside0.mk (geg hg (below_size HB.out)); replace HB := Aside0.mk (below_step HB.out hb); have NB274_276 := Aside0.mk (neg1 hg (Nat.ne_of_lt (blk_lt BK274.out))); have NB276_274 := Aside0.mk (neg2 hg (Nat.ne_of_gt (blk_lt BK274.out))); replace BK274 := Aside0.mk (blk_below BK274.out hb); have NB275_276 := Aside0.mk (neg1 hg (Nat.ne_of_lt (blk_lt BK275.out))); have NB276_275 := Aside0.mk (neg2 hg (Nat.ne_of_gt (blk_lt BK275.out))); replace BK275 := Aside0.mk (blk_below BK275.out hb); clear hb hbox hg) | ((with_reducible refine gate_dst (N := 6) rfl ?_); refine box_event ?hg (N := 6) ?hd (cs := #[.int .i64 0, .slice none 0 0]) (t := 30) ?hr ?_; (case hd => rfl); (case hg => rfl); (case hr => (go_simp; done)); intro gb277 hg w8 hbox hb; have BK277 := Aside0.mk (hbox); have GW277 := Aside0.mk (geg hg (below_size HB.out)); have GE277 := Aside0.mk (geg hg (below_size HB.out)); replace HB := Aside0.mk (below_step HB.out hb); have NB274_277 := Aside0.mk (neg1 hg (Nat.ne_of_lt (blk_lt BK274.out))); have NB277_274 := Aside0.mk (neg2 hg (Nat.ne_of_gt (blk_lt BK274.out))); replace BK274 := Aside0.mk (blk_below BK274.out hb); have NB275_277 := Aside0.mk (neg1 hg (Nat.ne_of_lt (blk_lt BK275.out))); have NB277_275 := Aside0.mk (neg2 hg (Nat.ne_of_gt (blk_lt BK275.out))); replace BK275 := Aside0.mk (blk_below BK275.out hb); have NB276_277 := Aside0.mk (neg1 hg (Nat.ne_of_lt (blk_lt BK276.out))); have NB277_276 := Aside0.mk (neg2 hg (Nat.ne_of_gt (blk_lt BK276.out))); replace BK276 := Aside0.mk (blk_below BK276.out hb); clear hb hbox hg; have hnb9 := NB274_275.out; have hnc9 := NB275_274.out; have hnb10 := NB274_276.out; have hnc10 := NB276_274.out; have hnb11 := NB274_277.out; have hnc11 := NB277_274.out; have hcz12_0 := bc0 BK274.out; have hfz12_0 := blk_frozen BK274.out 0; have hnb13 := NB276_275.out; have hnc13 := NB275_276.out; have hnb14 := NB276_277.out; have hnc14 := NB277_276.out; have hcz15_0 := bc0 BK276.out; have hfz15_0 := blk_frozen BK276.out 0) | ((with_reducible refine gate_callee (f := 122) rfl ?_); refine goesL_ (some 10) rfl rfl Try.func122 (by kernel_rfl) rfl #[.agg #[.slice A0_0 l0_0.length c0_0], .int .i64 a2, .func (.func 123) #[] #[.pointer (some ⟨gb275, 0, none⟩), .pointer (some ⟨gb276, 0, none⟩)]] rfl (by (simp only [List.map_toArray, List.map_cons, List.map_nil]); rfl) ?_; (refine (impl_unitsOf_at123.calls k _ _ l0_0 a2 _ ([(⟨a1_0, l1_1⟩ : S30)] : List (S30)) _ ([a2] : List Int) t278 t279 _ ?side1 ?side2 ?side3 ?side4 A4.out).mono ?_); (case side1 => exact (Kd.C_below HR0_0.out HB.out)); (case side2 => exact HC0_0.out); (case side3 => exact Go.Proofs.YtkpcogaahgfmcaaX.cap_one (cs := #[.int .i64 a1_0, .slice A1_1 l1_1.length c1_1]) (T := 30) BK275.out (k30_mk _ _ HC1_1.out (Kd.C_below HR1_1.out HB.out))); (case side4 => exact Go.Proofs.YtkpcogaahgfmcaaX.cap_one (cs := #[.int .i64 a2]) (T := 2) BK276.out (rfl)); rintro e w16 ⟨v280, rfl, ho0, hb⟩; refine ⟨_, rfl, ?_⟩; have HO281 := Aside0.mk (Kd.R_lower (Kd.R_newB ho0 (g := gb276) (o := .cells #[.int .i64 a2] 2 (0, 0)) BK276.out) (below_size HB.out)); replace BK274 := Aside0.mk (blk_below BK274.out hb); replace BK275 := Aside0.mk (blk_below BK275.out hb); replace BK276 := Aside0.mk (blk_below BK276.out hb); replace BK277 := Aside0.mk (blk_below BK277.out hb); replace HB := Aside0.mk (below_step HB.out hb); clear hb ho0; have hnb17 := NB277_275.out; have hnc17 := NB275_277.out; have hcz18_0 := bc0 BK277.out; have hcz18_1 := bc1 BK277.out; have hfz18_0 := blk_frozen BK277.out 0; have hfz18_1 := blk_frozen BK277.out 1; obtain ⟨Ao19, co19, eo19⟩ := Kd.R_slice HO281.out; subst eo19))
 refine bodyPost_ret (results_cell_row rfl _ _ gb277 30 #[.int .i64 t278, .slice Ao19 t279.length co19] (0, 0) _ rfl (by refine blk_put (cs := #[.int .i64 t278, .slice none 0 0]) ?_ 1 _ rfl; refine blk_put (cs := #[.int .i64 0, .slice none 0 0]) ?_ 0 _ rfl; exact BK277.out) Try.underlying30 rfl (by kernel_rfl)) rfl ?_
 exact ⟨_, by rfl, by exact Kd.R_mono (Kd.R_far (p := ⟨gb277, 1, none⟩) (Kd.R_far (p := ⟨gb277, 0, none⟩) (Kd.R_types HO281.out BK277.out (by decide)) (fun _ hk => hk.2) (.int .i64 t278)) (fun _ hk => hk.2) (.slice Ao19 t279.length co19)) (fun _ hk => trivial), by repeat ((with_reducible first | exact HB.out | refine below_set ?_ GE277.out))⟩

end Go.Proofs.Ytkpcogaahgfmcaa.PFnExactOuterModule
