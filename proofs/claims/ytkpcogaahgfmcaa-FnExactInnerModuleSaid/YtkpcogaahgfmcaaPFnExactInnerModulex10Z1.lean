-- Made by a program of this session (wip/tools: the patched printer), for this claim.
import Derived.Test.YtkpcogaahgfmcaaXSqZ1
import Derived.Test.YtkpcogaahgfmcaaPFnExactInnerModulex0Z1
import Derived.Test.YtkpcogaahgfmcaaPFnExactInnerModulex6Z1
import Derived.Test.YtkpcogaahgfmcaaPFnExactInnerModulex7Z1
import Derived.Test.YtkpcogaahgfmcaaPFnExactInnerModulex9Z1
namespace Go.Proofs.Ytkpcogaahgfmcaa.PFnExactInnerModule
open Go.Proofs.YtkpcogaahgfmcaaX
open Go.RowKit Go.Proofs.YtkpcogaahgfmcaaW.PrintWords Go.Proofs.YtkpcogaahgfmcaaW.PrintLast Go.Proofs.YtkpcogaahgfmcaaW.PrintMore
attribute [local go_sem] max2_int min2_int max_two min_two max_three min_three max_four min_four   -- for this text's walks alone
set_option linter.unusedVariables false
set_option linter.unusedSimpArgs false

/-! ### impl_areModules: function 125 -/
def impl_areModules.l0 : Nat → List (S30) → Int → Int → List (List Int) → Option (Bool)
 | 0, _, _, _, _ => none
 | k + 1, x7, x8, x9, x233000 => if x9 < x8 then (if 0 ≤ x9 then (if x9 < (x7.length : Int) then ((impl_IsGroup.f k x233000).bind fun t235 => (if t235 = true then ((impl_isModule.f k x233000 ((rd_T30 x7 x9).f0) ((rd_T30 x7 x9).f1)).bind fun t236 => (if t236 = true then (impl_areModules.l0 k x7 x8 (wrap64 (x9 + 1)) x233000) else (some false))) else (some false))) else (none)) else (none)) else (some true)
def impl_areModules.f (k : Nat) (l0_0 : List (List Int)) (l1 : List (S30)) : Option (Bool) := impl_areModules.l0 k l1 (l1.length : Int) 0 l0_0
theorem impl_areModules.mono_l : ∀ k, (∀ y0 y1 y2 y3, LeO (impl_areModules.l0 k y0 y1 y2 y3) (impl_areModules.l0 (k + 1) y0 y1 y2 y3))
 | 0 => fun _ _ _ _ r h => by simp [impl_areModules.l0] at h
 | k + 1 => by
  have ih0 := impl_areModules.mono_l k
  ·intro y0 y1 y2 y3
   unfold impl_areModules.l0
   repeat' first
   | (with_reducible exact ih0 _ _ _ _)
   | (with_reducible exact impl_IsGroup.mono _ _)
   | (with_reducible exact impl_isModule.mono _ _ _ _)
   | (with_reducible exact LeO.refl _)
   | (with_reducible exact LeO.none _)
   | (with_reducible refine LeO.ite ?_ ?_)
   | (with_reducible refine LeO.bind ?_ (fun _ => ?_))
   | exact ih0 _ _ _ _
   | exact impl_IsGroup.mono _ _
   | exact impl_isModule.mono _ _ _ _
   | exact LeO.none _
   | refine LeO.ite ?_ ?_
   | refine LeO.bind ?_ (fun _ => ?_)
theorem impl_areModules.mono : ∀ a0 a1 k, LeO (impl_areModules.f k a0 a1) (impl_areModules.f (k + 1) a0 a1) := by
 intro a0 a1 k
 have ih0 := impl_areModules.mono_l k
 unfold impl_areModules.f
 repeat' first
   | (with_reducible exact ih0 _ _ _ _)
set_option maxHeartbeats 8000000 in
set_option maxRecDepth 100000 in
theorem impl_areModules.calls (k : Nat) (A0_0 : Option Addr) (c0_0 : Nat) (l0_0 : List (List Int)) (A1 : Option Addr) (c1 : Nat) (l1 : List (S30)) (r : Bool) (w : World) (hr0_0 : Kd.C (Kd.slice 2 (Kd.int .i64)) w A0_0 l0_0.length l0_0) (hc0_0 : l0_0.length ≤ c0_0) (hr1 : Kd.C k30 w A1 l1.length l1) (hc1 : l1.length ≤ c1) (h : impl_areModules.f k l0_0 l1 = some r) :
  Calls Try.prog 125 #[.agg #[.slice A0_0 l0_0.length c0_0], .slice A1 l1.length c1] w fun e w' => e = .returned (.bool r) ∧ Below w.heap.size w w' := by
 have hu33 := Try.underlying33
 have hu30 := Try.underlying30
 have HR0_0 := Aside0.mk hr0_0
 have HC0_0 := Aside0.mk hc0_0
 clear hr0_0 hc0_0
 have HR1 := Aside0.mk hr1
 have HC1 := Aside0.mk hc1
 clear hr1 hc1
 have HB := Aside0.mk (Below.refl w.heap.size w)
 have H : (impl_areModules.l0 k l1 (l1.length : Int) 0 l0_0) = some r := h
 clear h
 have H' := Aside0.mk H
 clear H
 go_enter Try.func125, Try.ntmps125
 go_wp2_with (((with_reducible refine gate_dst (N := 2) rfl ?_); refine box_event ?hg (N := 2) ?hd (cs := #[.slice A0_0 l0_0.length c0_0]) (t := 33) ?hr ?_; (case hd => rfl); (case hg => rfl); (case hr => (go_simp; done)); intro gb232 hg w3 hbox hb; have BK232 := Aside0.mk (hbox); have GW232 := Aside0.mk (geg hg (below_size HB.out)); have GE232 := Aside0.mk (geg hg (below_size HB.out)); replace HB := Aside0.mk (below_step HB.out hb); clear hb hbox hg))
 go_loopg [9] k (fun kq v9 w' => ∃ (x9_1 : Int), v9 = .int .i64 x9_1 ∧ Aside0 (impl_areModules.l0 kq l1 (l1.length : Int) x9_1 l0_0 = some r) ∧ Aside0 (kq ≤ k) ∧ Aside0 (w'.heap[gb232]? = some (.cells #[(.slice A0_0 l0_0.length c0_0)] 33 (0, 0))) ∧ Aside0 (Below w.heap.size w w'))
 case atStart => exact ⟨(0), (by rfl), H', ⟨Nat.le_refl _⟩, ⟨by exact BK232.out⟩, ⟨by exact HB.out⟩⟩
 case round =>
  clear H'
  obtain ⟨x9_1, rfl, HA, HK1, BK232, HB⟩ := hrel
  cases gk with
  | zero => exact absurd HA.out (by simp [impl_areModules.l0])
  | succ k1 =>
   have H := HA.out
   clear HA
   simp only [impl_areModules.l0] at H
   by_cases c4 : x9_1 < (l1.length : Int)
   ·rw [if_pos c4] at H
    have c4b0 : decide (x9_1 < (l1.length : Int)) = true := decide_eq_true c4
    clear c4
    by_cases c5 : 0 ≤ x9_1
    ·rw [if_pos c5] at H
     have c5b0 : decide (0 ≤ x9_1) = true := decide_eq_true c5
     clear c5
     by_cases c6 : x9_1 < (l1.length : Int)
     ·rw [if_pos c6] at H
      have c6b0 : decide (x9_1 < (l1.length : Int)) = true := decide_eq_true c6
      clear c6
      replace H := Option.bind_eq_some_iff.mp H
      obtain ⟨t235, A70, H⟩ := H
      replace H : (if t235 = true then ((impl_isModule.f k1 l0_0 ((rd_T30 l1 x9_1).f0) ((rd_T30 l1 x9_1).f1)).bind fun t236 => (if t236 = true then (impl_areModules.l0 k1 l1 (l1.length : Int) (wrap64 (x9_1 + 1)) l0_0) else (some false))) else (some false)) = some r := H
      have A7 := Aside0.mk A70
      clear A70
      by_cases c8 : t235 = true
      ·subst c8
       have H1 : ((impl_isModule.f k1 l0_0 ((rd_T30 l1 x9_1).f0) ((rd_T30 l1 x9_1).f1)).bind fun t236 => (if t236 = true then (impl_areModules.l0 k1 l1 (l1.length : Int) (wrap64 (x9_1 + 1)) l0_0) else (some false))) = some r := by rw [if_pos rfl] at H; exact H
       clear H
       have H := H1
       clear H1
       replace H := Option.bind_eq_some_iff.mp H
       obtain ⟨t236, A90, H⟩ := H
       replace H : (if t236 = true then (impl_areModules.l0 k1 l1 (l1.length : Int) (wrap64 (x9_1 + 1)) l0_0) else (some false)) = some r := H
       have A9 := Aside0.mk A90
       clear A90
       by_cases c10 : t236 = true
       ·subst c10
        have H1 : (impl_areModules.l0 k1 l1 (l1.length : Int) (wrap64 (x9_1 + 1)) l0_0) = some r := by rw [if_pos rfl] at H; exact H
        clear H
        have H := H1
        clear H1
        have H' := Aside0.mk H
        clear H
        have p233 : 0 ≤ (x9_1 : Int) := of_decide_eq_true ‹_›
        have q233 : x9_1 < (l1.length : Int) := of_decide_eq_true ‹_›
        obtain ⟨ad233, A233_1, c233_1, e233, hx233_0, hx233_1, hl233_1, hi233_1⟩ := at_T30 HR1.out x9_1 p233 q233
        cases e233
        replace hx233_0 := (HB.out.cell (World.block_lt_of_cell? w _ hx233_0)).trans hx233_0
        replace hx233_1 := (HB.out.cell (World.block_lt_of_cell? w _ hx233_1)).trans hx233_1
        have HR233_1 := Aside0.mk hi233_1
        have HC233_1 := Aside0.mk hl233_1
        clear hi233_1 hl233_1
        replace p233 := eq_true p233
        replace q233 := eq_true q233
        go_wp2_with (first | ((with_reducible refine gate_dst (N := 6) rfl ?_); refine box_event ?hg (N := 6) ?hd (cs := #[.int .i64 0, .slice none 0 0]) (t := 30) ?hr ?_; (case hd => rfl); (case hg => rfl); (case hr => (go_simp; done)); intro gb234 hg w11 hbox hb; have BK234 := Aside0.mk (hbox); have GW234 := Aside0.mk (geg hg (below_size HB.out)); have GE234 := Aside0.mk (geg hg (below_size HB.out)); replace HB := Aside0.mk (below_step HB.out hb); have NB232_234 := Aside0.mk ((by rw [hg]; exact Nat.ne_of_lt (blk_lt BK232.out) : gb232 ≠ gb234)); have NB234_232 := Aside0.mk ((by rw [hg]; exact Nat.ne_of_gt (blk_lt BK232.out) : gb234 ≠ gb232)); replace BK232 := Aside0.mk (blk_below BK232.out hb); clear hb hbox hg; have hnb12 := NB234_232.out; have hnc12 := NB232_234.out; have hcz13_0 := bc0 BK234.out; have hcz13_1 := bc1 BK234.out; have hfz13_0 := blk_frozen BK234.out 0; have hfz13_1 := blk_frozen BK234.out 1; have hcz14_0 := bc0 BK232.out; have hfz14_0 := blk_frozen BK232.out 0) | ((with_reducible refine gate_callee (f := 148) rfl ?_); refine goesL_ (some 14) rfl rfl Try.func148 (by kernel_rfl) rfl #[.agg #[.slice A0_0 l0_0.length c0_0]] rfl (by (simp only [List.map_toArray, List.map_cons, List.map_nil]); rfl) ?_; (with_reducible refine (impl_IsGroup.calls k1 _ _ l0_0 true _ ?side1 ?side2 A7.out).mono ?_); (case side1 => exact Kd.C_below HR0_0.out (by repeat ((with_reducible first | exact HB.out | refine below_set ?_ GE234.out)))); (case side2 => exact HC0_0.out); rintro e w15 ⟨rfl, hb⟩; refine ⟨_, rfl, ?_⟩; replace BK232 := Aside0.mk (blk_below (g := gb232) (o := .cells #[.slice A0_0 l0_0.length c0_0] 33 (0, 0)) (by refine blk_far ?_ NB232_234.out _; refine blk_far ?_ NB232_234.out _; exact BK232.out) hb); replace BK234 := Aside0.mk (blk_below (g := gb234) (o := .cells #[.int .i64 ((rd_T30 l1 x9_1).f0), .slice A233_1 ((rd_T30 l1 x9_1).f1).length c233_1] 30 (0, 0)) (by refine blk_put (cs := #[.int .i64 ((rd_T30 l1 x9_1).f0), .slice none 0 0]) ?_ 1 _ rfl; refine blk_put (cs := #[.int .i64 0, .slice none 0 0]) ?_ 0 _ rfl; exact BK234.out) hb); replace HB := Aside0.mk (below_step (by repeat ((with_reducible first | exact HB.out | refine below_set ?_ GE234.out))) hb); clear hb; have hcz16_0 := bc0 BK232.out; have hfz16_0 := blk_frozen BK232.out 0; have hcz17_0 := bc0 BK234.out; have hcz17_1 := bc1 BK234.out; have hfz17_0 := blk_frozen BK234.out 0; have hfz17_1 := blk_frozen BK234.out 1) | (go_at_call 167; (with_reducible refine (impl_isModule.calls k1 _ _ l0_0 ((rd_T30 l1 x9_1).f0) _ _ ((rd_T30 l1 x9_1).f1) true _ ?side1 ?side2 ?side3 ?side4 A9.out).mono ?_); (case side1 => exact (Kd.C_below HR0_0.out HB.out)); (case side2 => exact HC0_0.out); (case side3 => exact (Kd.C_below HR233_1.out HB.out)); (case side4 => exact HC233_1.out); rintro e w18 ⟨rfl, hb⟩; replace BK232 := Aside0.mk (blk_below BK232.out hb); replace BK234 := Aside0.mk (blk_below (g := gb234) (o := .cells #[.int .i64 ((rd_T30 l1 x9_1).f0), .slice A233_1 ((rd_T30 l1 x9_1).f1).length c233_1] 30 (0, 0)) BK234.out hb); replace HB := Aside0.mk (below_step HB.out hb); clear hb))
        go_roundg k1
        case measure => have := HK1.out; omega
        case rel => exact ⟨(wrap64 (x9_1 + 1)), (by rfl), H', ⟨by have := HK1.out; omega⟩, ⟨by exact BK232.out⟩, ⟨by exact HB.out⟩⟩
       ·replace c10 := Bool.eq_false_iff.mpr c10
        subst c10
        have H1 : (some false) = some r := by rw [if_neg (show ¬ (false = true) by decide)] at H; exact H
        clear H
        have H := H1
        clear H1
        obtain rfl := Option.some.inj H
        have p233 : 0 ≤ (x9_1 : Int) := of_decide_eq_true ‹_›
        have q233 : x9_1 < (l1.length : Int) := of_decide_eq_true ‹_›
        obtain ⟨ad233, A233_1, c233_1, e233, hx233_0, hx233_1, hl233_1, hi233_1⟩ := at_T30 HR1.out x9_1 p233 q233
        cases e233
        replace hx233_0 := (HB.out.cell (World.block_lt_of_cell? w _ hx233_0)).trans hx233_0
        replace hx233_1 := (HB.out.cell (World.block_lt_of_cell? w _ hx233_1)).trans hx233_1
        have HR233_1 := Aside0.mk hi233_1
        have HC233_1 := Aside0.mk hl233_1
        clear hi233_1 hl233_1
        replace p233 := eq_true p233
        replace q233 := eq_true q233
        go_wp2_with (first | ((with_reducible refine gate_dst (N := 6) rfl ?_); refine box_event ?hg (N := 6) ?hd (cs := #[.int .i64 0, .slice none 0 0]) (t := 30) ?hr ?_; (case hd => rfl); (case hg => rfl); (case hr => (go_simp; done)); intro gb234 hg w19 hbox hb; have BK234 := Aside0.mk (hbox); have GW234 := Aside0.mk (geg hg (below_size HB.out)); have GE234 := Aside0.mk (geg hg (below_size HB.out)); replace HB := Aside0.mk (below_step HB.out hb); have NB232_234 := Aside0.mk ((by rw [hg]; exact Nat.ne_of_lt (blk_lt BK232.out) : gb232 ≠ gb234)); have NB234_232 := Aside0.mk ((by rw [hg]; exact Nat.ne_of_gt (blk_lt BK232.out) : gb234 ≠ gb232)); replace BK232 := Aside0.mk (blk_below BK232.out hb); clear hb hbox hg; have hnb20 := NB234_232.out; have hnc20 := NB232_234.out; have hcz21_0 := bc0 BK234.out; have hcz21_1 := bc1 BK234.out; have hfz21_0 := blk_frozen BK234.out 0; have hfz21_1 := blk_frozen BK234.out 1; have hcz22_0 := bc0 BK232.out; have hfz22_0 := blk_frozen BK232.out 0) | ((with_reducible refine gate_callee (f := 148) rfl ?_); refine goesL_ (some 14) rfl rfl Try.func148 (by kernel_rfl) rfl #[.agg #[.slice A0_0 l0_0.length c0_0]] rfl (by (simp only [List.map_toArray, List.map_cons, List.map_nil]); rfl) ?_; (with_reducible refine (impl_IsGroup.calls k1 _ _ l0_0 true _ ?side1 ?side2 A7.out).mono ?_); (case side1 => exact Kd.C_below HR0_0.out (by repeat ((with_reducible first | exact HB.out | refine below_set ?_ GE234.out)))); (case side2 => exact HC0_0.out); rintro e w23 ⟨rfl, hb⟩; refine ⟨_, rfl, ?_⟩; replace BK232 := Aside0.mk (blk_below (g := gb232) (o := .cells #[.slice A0_0 l0_0.length c0_0] 33 (0, 0)) (by refine blk_far ?_ NB232_234.out _; refine blk_far ?_ NB232_234.out _; exact BK232.out) hb); replace BK234 := Aside0.mk (blk_below (g := gb234) (o := .cells #[.int .i64 ((rd_T30 l1 x9_1).f0), .slice A233_1 ((rd_T30 l1 x9_1).f1).length c233_1] 30 (0, 0)) (by refine blk_put (cs := #[.int .i64 ((rd_T30 l1 x9_1).f0), .slice none 0 0]) ?_ 1 _ rfl; refine blk_put (cs := #[.int .i64 0, .slice none 0 0]) ?_ 0 _ rfl; exact BK234.out) hb); replace HB := Aside0.mk (below_step (by repeat ((with_reducible first | exact HB.out | refine below_set ?_ GE234.out))) hb); clear hb; have hcz24_0 := bc0 BK232.out; have hfz24_0 := blk_frozen BK232.out 0; have hcz25_0 := bc0 BK234.out; have hcz25_1 := bc1 BK234.out; have hfz25_0 := blk_frozen BK234.out 0; have hfz25_1 := blk_frozen BK234.out 1) | (go_at_call 167; (with_reducible refine (impl_isModule.calls k1 _ _ l0_0 ((rd_T30 l1 x9_1).f0) _ _ ((rd_T30 l1 x9_1).f1) false _ ?side1 ?side2 ?side3 ?side4 A9.out).mono ?_); (case side1 => exact (Kd.C_below HR0_0.out HB.out)); (case side2 => exact HC0_0.out); (case side3 => exact (Kd.C_below HR233_1.out HB.out)); (case side4 => exact HC233_1.out); rintro e w26 ⟨rfl, hb⟩; replace BK232 := Aside0.mk (blk_below BK232.out hb); replace BK234 := Aside0.mk (blk_below (g := gb234) (o := .cells #[.int .i64 ((rd_T30 l1 x9_1).f0), .slice A233_1 ((rd_T30 l1 x9_1).f1).length c233_1] 30 (0, 0)) BK234.out hb); replace HB := Aside0.mk (below_step HB.out hb); clear hb))
        go_ret
        exact ⟨by rfl, by exact HB.out⟩
      ·replace c8 := Bool.eq_false_iff.mpr c8
       subst c8
       have H1 : (some false) = some r := by rw [if_neg (show ¬ (false = true) by decide)] at H; exact H
       clear H
       have H := H1
       clear H1
       obtain rfl := Option.some.inj H
       have p233 : 0 ≤ (x9_1 : Int) := of_decide_eq_true ‹_›
       have q233 : x9_1 < (l1.length : Int) := of_decide_eq_true ‹_›
       obtain ⟨ad233, A233_1, c233_1, e233, hx233_0, hx233_1, hl233_1, hi233_1⟩ := at_T30 HR1.out x9_1 p233 q233
       cases e233
       replace hx233_0 := (HB.out.cell (World.block_lt_of_cell? w _ hx233_0)).trans hx233_0
       replace hx233_1 := (HB.out.cell (World.block_lt_of_cell? w _ hx233_1)).trans hx233_1
       have HR233_1 := Aside0.mk hi233_1
       have HC233_1 := Aside0.mk hl233_1
       clear hi233_1 hl233_1
       replace p233 := eq_true p233
       replace q233 := eq_true q233
       go_wp2_with (first | ((with_reducible refine gate_dst (N := 6) rfl ?_); refine box_event ?hg (N := 6) ?hd (cs := #[.int .i64 0, .slice none 0 0]) (t := 30) ?hr ?_; (case hd => rfl); (case hg => rfl); (case hr => (go_simp; done)); intro gb234 hg w27 hbox hb; have BK234 := Aside0.mk (hbox); have GW234 := Aside0.mk (geg hg (below_size HB.out)); have GE234 := Aside0.mk (geg hg (below_size HB.out)); replace HB := Aside0.mk (below_step HB.out hb); have NB232_234 := Aside0.mk ((by rw [hg]; exact Nat.ne_of_lt (blk_lt BK232.out) : gb232 ≠ gb234)); have NB234_232 := Aside0.mk ((by rw [hg]; exact Nat.ne_of_gt (blk_lt BK232.out) : gb234 ≠ gb232)); replace BK232 := Aside0.mk (blk_below BK232.out hb); clear hb hbox hg; have hnb28 := NB234_232.out; have hnc28 := NB232_234.out; have hcz29_0 := bc0 BK234.out; have hcz29_1 := bc1 BK234.out; have hfz29_0 := blk_frozen BK234.out 0; have hfz29_1 := blk_frozen BK234.out 1; have hcz30_0 := bc0 BK232.out; have hfz30_0 := blk_frozen BK232.out 0) | ((with_reducible refine gate_callee (f := 148) rfl ?_); refine goesL_ (some 14) rfl rfl Try.func148 (by kernel_rfl) rfl #[.agg #[.slice A0_0 l0_0.length c0_0]] rfl (by (simp only [List.map_toArray, List.map_cons, List.map_nil]); rfl) ?_; (with_reducible refine (impl_IsGroup.calls k1 _ _ l0_0 false _ ?side1 ?side2 A7.out).mono ?_); (case side1 => exact Kd.C_below HR0_0.out (by repeat ((with_reducible first | exact HB.out | refine below_set ?_ GE234.out)))); (case side2 => exact HC0_0.out); rintro e w31 ⟨rfl, hb⟩; refine ⟨_, rfl, ?_⟩; replace BK232 := Aside0.mk (blk_below (g := gb232) (o := .cells #[.slice A0_0 l0_0.length c0_0] 33 (0, 0)) (by refine blk_far ?_ NB232_234.out _; refine blk_far ?_ NB232_234.out _; exact BK232.out) hb); replace BK234 := Aside0.mk (blk_below (g := gb234) (o := .cells #[.int .i64 ((rd_T30 l1 x9_1).f0), .slice A233_1 ((rd_T30 l1 x9_1).f1).length c233_1] 30 (0, 0)) (by refine blk_put (cs := #[.int .i64 ((rd_T30 l1 x9_1).f0), .slice none 0 0]) ?_ 1 _ rfl; refine blk_put (cs := #[.int .i64 0, .slice none 0 0]) ?_ 0 _ rfl; exact BK234.out) hb); replace HB := Aside0.mk (below_step (by repeat ((with_reducible first | exact HB.out | refine below_set ?_ GE234.out))) hb); clear hb))
       go_ret
       exact ⟨by rfl, by exact HB.out⟩
     ·rw [if_neg c6] at H
      exact absurd H (by simp)
    ·rw [if_neg c5] at H
     exact absurd H (by simp)
   ·rw [if_neg c4] at H
    have c4b0 : decide (x9_1 < (l1.length : Int)) = false := decide_eq_false c4
    clear c4
    obtain rfl := Option.some.inj H
    go_wp2
    go_ret
    exact ⟨by rfl, by exact HB.out⟩

/-! ### impl_moduleCode: function 121 -/
def impl_moduleCode.f (k : Nat) (l0_0 : List (List Int)) (l1 : List (S30)) : Option (Int) := (impl_areModules.f k l0_0 l1).bind fun t238 => (if t238 = true then (some 0) else (some 1))
theorem impl_moduleCode.mono : ∀ a0 a1 k, LeO (impl_moduleCode.f k a0 a1) (impl_moduleCode.f (k + 1) a0 a1) := by
 intro a0 a1 k
 unfold impl_moduleCode.f
 repeat' first
   | (with_reducible exact impl_areModules.mono _ _ _)
   | (with_reducible exact LeO.refl _)
   | (with_reducible refine LeO.bind ?_ (fun _ => ?_))
set_option maxHeartbeats 8000000 in
set_option maxRecDepth 100000 in
theorem impl_moduleCode.calls (k : Nat) (A0_0 : Option Addr) (c0_0 : Nat) (l0_0 : List (List Int)) (A1 : Option Addr) (c1 : Nat) (l1 : List (S30)) (r : Int) (w : World) (hr0_0 : Kd.C (Kd.slice 2 (Kd.int .i64)) w A0_0 l0_0.length l0_0) (hc0_0 : l0_0.length ≤ c0_0) (hr1 : Kd.C k30 w A1 l1.length l1) (hc1 : l1.length ≤ c1) (h : impl_moduleCode.f k l0_0 l1 = some r) :
  Calls Try.prog 121 #[.agg #[.slice A0_0 l0_0.length c0_0], .slice A1 l1.length c1] w fun e w' => e = .returned (.int .i64 r) ∧ Below w.heap.size w w' := by
 have hu33 := Try.underlying33
 have HR0_0 := Aside0.mk hr0_0
 have HC0_0 := Aside0.mk hc0_0
 clear hr0_0 hc0_0
 have HR1 := Aside0.mk hr1
 have HC1 := Aside0.mk hc1
 clear hr1 hc1
 have HB := Aside0.mk (Below.refl w.heap.size w)
 have H : ((impl_areModules.f k l0_0 l1).bind fun t238 => (if t238 = true then (some 0) else (some 1))) = some r := h
 clear h
 replace H := Option.bind_eq_some_iff.mp H
 obtain ⟨t238, A30, H⟩ := H
 replace H : (if t238 = true then (some 0) else (some 1)) = some r := H
 have A3 := Aside0.mk A30
 clear A30
 by_cases c4 : t238 = true
 ·subst c4
  have H1 : (some 0) = some r := by rw [if_pos rfl] at H; exact H
  clear H
  have H := H1
  clear H1
  obtain rfl := Option.some.inj H
  go_enter Try.func121, Try.ntmps121
  go_wp2_with (first | ((with_reducible refine gate_dst (N := 2) rfl ?_); refine box_event ?hg (N := 2) ?hd (cs := #[.slice A0_0 l0_0.length c0_0]) (t := 33) ?hr ?_; (case hd => rfl); (case hg => rfl); (case hr => (go_simp; done)); intro gb237 hg w5 hbox hb; have BK237 := Aside0.mk (hbox); have GW237 := Aside0.mk (geg hg (below_size HB.out)); have GE237 := Aside0.mk (geg hg (below_size HB.out)); replace HB := Aside0.mk (below_step HB.out hb); clear hb hbox hg; have hcz6_0 := bc0 BK237.out; have hfz6_0 := blk_frozen BK237.out 0) | ((with_reducible refine gate_callee (f := 125) rfl ?_); refine goesL_ (some 7) rfl rfl Try.func125 (by kernel_rfl) rfl #[.agg #[.slice A0_0 l0_0.length c0_0], .slice A1 l1.length c1] rfl (by (simp only [List.map_toArray, List.map_cons, List.map_nil]); rfl) ?_; (with_reducible refine (impl_areModules.calls k _ _ l0_0 _ _ l1 true _ ?side1 ?side2 ?side3 ?side4 A3.out).mono ?_); (case side1 => exact (Kd.C_below HR0_0.out HB.out)); (case side2 => exact HC0_0.out); (case side3 => exact (Kd.C_below HR1.out HB.out)); (case side4 => exact HC1.out); rintro e w7 ⟨rfl, hb⟩; refine ⟨_, rfl, ?_⟩; replace BK237 := Aside0.mk (blk_below BK237.out hb); replace HB := Aside0.mk (below_step HB.out hb); clear hb))
  go_ret
  exact ⟨by rfl, by exact HB.out⟩
 ·replace c4 := Bool.eq_false_iff.mpr c4
  subst c4
  have H1 : (some 1) = some r := by rw [if_neg (show ¬ (false = true) by decide)] at H; exact H
  clear H
  have H := H1
  clear H1
  obtain rfl := Option.some.inj H
  go_enter Try.func121, Try.ntmps121
  go_wp2_with (first | ((with_reducible refine gate_dst (N := 2) rfl ?_); refine box_event ?hg (N := 2) ?hd (cs := #[.slice A0_0 l0_0.length c0_0]) (t := 33) ?hr ?_; (case hd => rfl); (case hg => rfl); (case hr => (go_simp; done)); intro gb237 hg w8 hbox hb; have BK237 := Aside0.mk (hbox); have GW237 := Aside0.mk (geg hg (below_size HB.out)); have GE237 := Aside0.mk (geg hg (below_size HB.out)); replace HB := Aside0.mk (below_step HB.out hb); clear hb hbox hg; have hcz9_0 := bc0 BK237.out; have hfz9_0 := blk_frozen BK237.out 0) | ((with_reducible refine gate_callee (f := 125) rfl ?_); refine goesL_ (some 7) rfl rfl Try.func125 (by kernel_rfl) rfl #[.agg #[.slice A0_0 l0_0.length c0_0], .slice A1 l1.length c1] rfl (by (simp only [List.map_toArray, List.map_cons, List.map_nil]); rfl) ?_; (with_reducible refine (impl_areModules.calls k _ _ l0_0 _ _ l1 false _ ?side1 ?side2 ?side3 ?side4 A3.out).mono ?_); (case side1 => exact (Kd.C_below HR0_0.out HB.out)); (case side2 => exact HC0_0.out); (case side3 => exact (Kd.C_below HR1.out HB.out)); (case side4 => exact HC1.out); rintro e w10 ⟨rfl, hb⟩; refine ⟨_, rfl, ?_⟩; replace BK237 := Aside0.mk (blk_below BK237.out hb); replace HB := Aside0.mk (below_step HB.out hb); clear hb))
  go_ret
  exact ⟨by rfl, by exact HB.out⟩

/-! ### impl_divisorCode: function 76 -/
def impl_divisorCode.f (k : Nat) (l0_0 : List (List Int)) (a1_0 : Int) (l1_1 : List Int) (a2 : Int) : Option (Int) := (impl_moduleCode.f k l0_0 (([(⟨a1_0, l1_1⟩ : S30)] : List (S30)))).bind fun t244 => (if t244 = 0 then (if a2 < 2 then (some 2) else (if a2 ≥ a1_0 then (some 2) else (if a2 = 0 then (none) else (if (Int.tmod a1_0 a2) = 0 then (some 0) else (some 2))))) else (some t244))
theorem impl_divisorCode.mono : ∀ a0 a1 a2 a3 k, LeO (impl_divisorCode.f k a0 a1 a2 a3) (impl_divisorCode.f (k + 1) a0 a1 a2 a3) := by
 intro a0 a1 a2 a3 k
 unfold impl_divisorCode.f
 repeat' first
   | (with_reducible exact impl_moduleCode.mono _ _ _)
   | (with_reducible exact LeO.refl _)
   | (with_reducible refine LeO.bind ?_ (fun _ => ?_))
set_option maxHeartbeats 8000000 in
set_option maxRecDepth 100000 in
theorem impl_divisorCode.calls (k : Nat) (A0_0 : Option Addr) (c0_0 : Nat) (l0_0 : List (List Int)) (a1_0 : Int) (P1_1_ : Nat → Prop) (A1_1 : Option Addr) (c1_1 : Nat) (l1_1 : List Int) (a2 : Int) (r : Int) (w : World) (hr0_0 : Kd.C (Kd.slice 2 (Kd.int .i64)) w A0_0 l0_0.length l0_0) (hc0_0 : l0_0.length ≤ c0_0) (hs1_1 : Kd.V (Kd.int .i64) 2 w w.heap.size (fun k_ => P1_1_ k_) (.slice A1_1 l1_1.length c1_1) l1_1) (h : impl_divisorCode.f k l0_0 a1_0 l1_1 a2 = some r) :
  Calls Try.prog 76 #[.agg #[.slice A0_0 l0_0.length c0_0], .agg #[.int .i64 a1_0, .slice A1_1 l1_1.length c1_1], .int .i64 a2] w fun e w' => e = .returned (.int .i64 r) ∧ Below w.heap.size w w' := by
 have hu33 := Try.underlying33
 have hu30 := Try.underlying30
 have hu2 := Try.underlying2
 have HR0_0 := Aside0.mk hr0_0
 have HC0_0 := Aside0.mk hc0_0
 clear hr0_0 hc0_0
 have HO1_1 := Aside0.mk (show Kd.V (Kd.int .i64) 2 w w.heap.size (fun k_ => (P1_1_ k_ ∨ w.heap.size ≤ k_)) (.slice A1_1 l1_1.length c1_1) l1_1 from Kd.V_mono hs1_1 (fun k_ hk => .inl hk))
 have HB := Aside0.mk (Below.refl w.heap.size w)
 have H : ((impl_moduleCode.f k l0_0 (([(⟨a1_0, l1_1⟩ : S30)] : List (S30)))).bind fun t244 => (if t244 = 0 then (if a2 < 2 then (some 2) else (if a2 ≥ a1_0 then (some 2) else (if a2 = 0 then (none) else (if (Int.tmod a1_0 a2) = 0 then (some 0) else (some 2))))) else (some t244))) = some r := h
 clear h
 obtain ⟨y241, hy241⟩ : ∃ y_ : List (S30), y_ = (([(⟨a1_0, l1_1⟩ : S30)] : List (S30))) := ⟨_, rfl⟩
 replace H : ((impl_moduleCode.f k l0_0 y241).bind fun t244 => (if t244 = 0 then (if a2 < 2 then (some 2) else (if a2 ≥ a1_0 then (some 2) else (if a2 = 0 then (none) else (if (Int.tmod a1_0 a2) = 0 then (some 0) else (some 2))))) else (some t244))) = some r := by (rw [hy241]; with_reducible exact H)
 have Ny241 := Aside0.mk hy241
 clear hy241
 replace H := Option.bind_eq_some_iff.mp H
 obtain ⟨t244, A40, H⟩ := H
 replace H : (if t244 = 0 then (if a2 < 2 then (some 2) else (if a2 ≥ a1_0 then (some 2) else (if a2 = 0 then (none) else (if (Int.tmod a1_0 a2) = 0 then (some 0) else (some 2))))) else (some t244)) = some r := H
 have A4 := Aside0.mk A40
 clear A40
 by_cases c5 : t244 = 0
 ·rw [if_pos c5] at H
  have c5b0 : (t244 == 0) = true := beq_iff_eq.mpr c5
  have c5b1 : (t244 != 0) = false := bne_eq_false_iff_eq.mpr c5
  clear c5
  by_cases c6 : a2 < 2
  ·rw [if_pos c6] at H
   have c6b0 : decide (a2 < 2) = true := decide_eq_true c6
   clear c6
   obtain rfl := Option.some.inj H
   go_enter Try.func76, Try.ntmps76
   go_wp2_with (first | ((with_reducible refine gate_dst (N := 3) rfl ?_); refine box_event ?hg (N := 3) ?hd (cs := #[.slice A0_0 l0_0.length c0_0]) (t := 33) ?hr ?_; (case hd => rfl); (case hg => rfl); (case hr => (go_simp; done)); intro gb239 hg w7 hbox hb; replace HO1_1 := Aside0.mk (Kd.V_below (Kd.V_elderB HO1_1.out gb239 (Nat.le_of_eq hg.symm)) hb); have BK239 := Aside0.mk (hbox); have GW239 := Aside0.mk (geg hg (below_size HB.out)); have GE239 := Aside0.mk (geg hg (below_size HB.out)); replace HB := Aside0.mk (below_step HB.out hb); clear hb hbox hg) | ((with_reducible refine gate_dst (N := 4) rfl ?_); refine box_event ?hg (N := 4) ?hd (cs := #[.int .i64 a1_0, .slice A1_1 l1_1.length c1_1]) (t := 30) ?hr ?_; (case hd => rfl); (case hg => rfl); (case hr => (go_simp; done)); intro gb240 hg w8 hbox hb; replace HO1_1 := Aside0.mk (Kd.V_below (Kd.V_elderB HO1_1.out gb240 (Nat.le_of_eq hg.symm)) hb); have BK240 := Aside0.mk (hbox); have GW240 := Aside0.mk (geg hg (below_size HB.out)); have GE240 := Aside0.mk (geg hg (below_size HB.out)); replace HB := Aside0.mk (below_step HB.out hb); have NB239_240 := Aside0.mk ((by rw [hg]; exact Nat.ne_of_lt (blk_lt BK239.out) : gb239 ≠ gb240)); have NB240_239 := Aside0.mk ((by rw [hg]; exact Nat.ne_of_gt (blk_lt BK239.out) : gb240 ≠ gb239)); replace BK239 := Aside0.mk (blk_below BK239.out hb); clear hb hbox hg; have hnb9 := NB239_240.out; have hnc9 := NB240_239.out; have hcz10_0 := bc0 BK239.out; have hfz10_0 := blk_frozen BK239.out 0; have hcz11_0 := bc0 BK240.out; have hcz11_1 := bc1 BK240.out; have hfz11_0 := blk_frozen BK240.out 0; have hfz11_1 := blk_frozen BK240.out 1) | ((with_reducible refine gate_dst (N := 10) rfl ?_); refine Kd.N_lit k30 _ 30 ?hg (N' := 10) ?hd (xs := ([(⟨a1_0, l1_1⟩ : S30)] : List (S30))) (inner := [.int .i64 a1_0, .slice A1_1 l1_1.length c1_1]) (ok := (fun k_ => (P1_1_ k_ ∨ w.heap.size ≤ k_) ∧ k_ ≠ gb239 ∧ k_ ≠ gb240)) (okp := (fun k_ => (P1_1_ k_ ∨ w.heap.size ≤ k_) ∧ k_ ≠ gb239 ∧ k_ ≠ gb240)) ?hr ?hp (fun _ hk => hk) ((show ∀ k_, w8.heap.size ≤ k_ → (fun k_ => (P1_1_ k_ ∨ w.heap.size ≤ k_) ∧ k_ ≠ gb239 ∧ k_ ≠ gb240) k_ from fun k_ hk => ⟨(.inr (Nat.le_trans (below_size HB.out) hk)), Kd.freshB (g := gb239) (o := .cells #[.slice A0_0 l0_0.length c0_0] 33 (0, 0)) BK239.out k_ hk, Kd.freshB (g := gb240) (o := .cells #[.int .i64 a1_0, .slice A1_1 l1_1.length c1_1] 30 (0, 0)) BK240.out k_ hk⟩) _ (Nat.le_refl _)) (Below.refl _ _) (Nat.le_refl _) (by simp) ?_; (case hd => rfl); (case hg => rfl); (case hr => (go_simp; done)); (case hp => exact (Reps.c2 (show Kd.FK k30 _ _ (⟨a1_0, l1_1⟩ : S30) [.int .i64 a1_0, .slice A1_1 l1_1.length c1_1] from (k30_mkF _ _ (⟨a1_0, l1_1⟩ : S30) (Kd.V_reads' (Kd.V_mono (ok' := (fun k_ => (P1_1_ k_ ∨ w.heap.size ≤ k_) ∧ k_ ≠ gb239 ∧ k_ ≠ gb240)) (HO1_1.out) (fun k_ hk => ⟨hk.1.1, ⟨hk.1.2, hk.2⟩⟩))).2.1 (Kd.V_F (Kd.V_mono (ok' := (fun k_ => (P1_1_ k_ ∨ w.heap.size ≤ k_) ∧ k_ ≠ gb239 ∧ k_ ≠ gb240)) (HO1_1.out) (fun k_ hk => ⟨hk.1.1, ⟨hk.1.2, hk.2⟩⟩))))) (Reps.none _ _))); intro v242 w12 ho13 hb hg_ hnew_; clear hg_ hnew_; (rw [← Ny241.out] at ho13); replace HO1_1 := Aside0.mk (Kd.V_elder' HO1_1.out (Kd.N_base ho13) hb); have HO243 := Aside0.mk (Kd.N_lower ho13 (below_size HB.out)); replace BK239 := Aside0.mk (blk_below BK239.out hb); replace BK240 := Aside0.mk (blk_below BK240.out hb); replace HB := Aside0.mk (below_step HB.out hb); clear hb ho13; obtain ⟨Ao14, co14, eo14⟩ := Kd.N_slice HO243.out; subst eo14) | ((with_reducible refine gate_callee (f := 121) rfl ?_); refine goesL_ (some 11) rfl rfl Try.func121 (by kernel_rfl) rfl #[.agg #[.slice A0_0 l0_0.length c0_0], .slice Ao14 y241.length co14] rfl (by (simp only [List.map_toArray, List.map_cons, List.map_nil]); rfl) ?_; (with_reducible refine (impl_moduleCode.calls k _ _ l0_0 _ _ y241 t244 _ ?side1 ?side2 ?side3 ?side4 A4.out).mono ?_); (case side1 => exact (Kd.C_below HR0_0.out HB.out)); (case side2 => exact HC0_0.out); (case side3 => repeat (exact (Kd.N_reads' HO243.out).2.2)); (case side4 => exact (Kd.N_reads' HO243.out).2.1); rintro e w15 ⟨rfl, hb⟩; refine ⟨_, rfl, ?_⟩; replace HO1_1 := Aside0.mk (Kd.V_below HO1_1.out hb); replace HO243 := Aside0.mk (Kd.N_below HO243.out hb); replace BK239 := Aside0.mk (blk_below BK239.out hb); replace BK240 := Aside0.mk (blk_below BK240.out hb); replace HB := Aside0.mk (below_step HB.out hb); clear hb))
   go_ret
   exact ⟨by rfl, by exact HB.out⟩
  ·rw [if_neg c6] at H
   have c6b0 : decide (a2 < 2) = false := decide_eq_false c6
   clear c6
   by_cases c16 : a2 ≥ a1_0
   ·rw [if_pos c16] at H
    have c16b0 : decide (a1_0 ≤ a2) = true := decide_eq_true c16
    clear c16
    obtain rfl := Option.some.inj H
    go_enter Try.func76, Try.ntmps76
    go_wp2_with (first | ((with_reducible refine gate_dst (N := 3) rfl ?_); refine box_event ?hg (N := 3) ?hd (cs := #[.slice A0_0 l0_0.length c0_0]) (t := 33) ?hr ?_; (case hd => rfl); (case hg => rfl); (case hr => (go_simp; done)); intro gb239 hg w17 hbox hb; replace HO1_1 := Aside0.mk (Kd.V_below (Kd.V_elderB HO1_1.out gb239 (Nat.le_of_eq hg.symm)) hb); have BK239 := Aside0.mk (hbox); have GW239 := Aside0.mk (geg hg (below_size HB.out)); have GE239 := Aside0.mk (geg hg (below_size HB.out)); replace HB := Aside0.mk (below_step HB.out hb); clear hb hbox hg) | ((with_reducible refine gate_dst (N := 4) rfl ?_); refine box_event ?hg (N := 4) ?hd (cs := #[.int .i64 a1_0, .slice A1_1 l1_1.length c1_1]) (t := 30) ?hr ?_; (case hd => rfl); (case hg => rfl); (case hr => (go_simp; done)); intro gb240 hg w18 hbox hb; replace HO1_1 := Aside0.mk (Kd.V_below (Kd.V_elderB HO1_1.out gb240 (Nat.le_of_eq hg.symm)) hb); have BK240 := Aside0.mk (hbox); have GW240 := Aside0.mk (geg hg (below_size HB.out)); have GE240 := Aside0.mk (geg hg (below_size HB.out)); replace HB := Aside0.mk (below_step HB.out hb); have NB239_240 := Aside0.mk ((by rw [hg]; exact Nat.ne_of_lt (blk_lt BK239.out) : gb239 ≠ gb240)); have NB240_239 := Aside0.mk ((by rw [hg]; exact Nat.ne_of_gt (blk_lt BK239.out) : gb240 ≠ gb239)); replace BK239 := Aside0.mk (blk_below BK239.out hb); clear hb hbox hg; have hnb19 := NB239_240.out; have hnc19 := NB240_239.out; have hcz20_0 := bc0 BK239.out; have hfz20_0 := blk_frozen BK239.out 0; have hcz21_0 := bc0 BK240.out; have hcz21_1 := bc1 BK240.out; have hfz21_0 := blk_frozen BK240.out 0; have hfz21_1 := blk_frozen BK240.out 1) | ((with_reducible refine gate_dst (N := 10) rfl ?_); refine Kd.N_lit k30 _ 30 ?hg (N' := 10) ?hd (xs := ([(⟨a1_0, l1_1⟩ : S30)] : List (S30))) (inner := [.int .i64 a1_0, .slice A1_1 l1_1.length c1_1]) (ok := (fun k_ => (P1_1_ k_ ∨ w.heap.size ≤ k_) ∧ k_ ≠ gb239 ∧ k_ ≠ gb240)) (okp := (fun k_ => (P1_1_ k_ ∨ w.heap.size ≤ k_) ∧ k_ ≠ gb239 ∧ k_ ≠ gb240)) ?hr ?hp (fun _ hk => hk) ((show ∀ k_, w18.heap.size ≤ k_ → (fun k_ => (P1_1_ k_ ∨ w.heap.size ≤ k_) ∧ k_ ≠ gb239 ∧ k_ ≠ gb240) k_ from fun k_ hk => ⟨(.inr (Nat.le_trans (below_size HB.out) hk)), Kd.freshB (g := gb239) (o := .cells #[.slice A0_0 l0_0.length c0_0] 33 (0, 0)) BK239.out k_ hk, Kd.freshB (g := gb240) (o := .cells #[.int .i64 a1_0, .slice A1_1 l1_1.length c1_1] 30 (0, 0)) BK240.out k_ hk⟩) _ (Nat.le_refl _)) (Below.refl _ _) (Nat.le_refl _) (by simp) ?_; (case hd => rfl); (case hg => rfl); (case hr => (go_simp; done)); (case hp => exact (Reps.c2 (show Kd.FK k30 _ _ (⟨a1_0, l1_1⟩ : S30) [.int .i64 a1_0, .slice A1_1 l1_1.length c1_1] from (k30_mkF _ _ (⟨a1_0, l1_1⟩ : S30) (Kd.V_reads' (Kd.V_mono (ok' := (fun k_ => (P1_1_ k_ ∨ w.heap.size ≤ k_) ∧ k_ ≠ gb239 ∧ k_ ≠ gb240)) (HO1_1.out) (fun k_ hk => ⟨hk.1.1, ⟨hk.1.2, hk.2⟩⟩))).2.1 (Kd.V_F (Kd.V_mono (ok' := (fun k_ => (P1_1_ k_ ∨ w.heap.size ≤ k_) ∧ k_ ≠ gb239 ∧ k_ ≠ gb240)) (HO1_1.out) (fun k_ hk => ⟨hk.1.1, ⟨hk.1.2, hk.2⟩⟩))))) (Reps.none _ _))); intro v242 w22 ho23 hb hg_ hnew_; clear hg_ hnew_; (rw [← Ny241.out] at ho23); replace HO1_1 := Aside0.mk (Kd.V_elder' HO1_1.out (Kd.N_base ho23) hb); have HO243 := Aside0.mk (Kd.N_lower ho23 (below_size HB.out)); replace BK239 := Aside0.mk (blk_below BK239.out hb); replace BK240 := Aside0.mk (blk_below BK240.out hb); replace HB := Aside0.mk (below_step HB.out hb); clear hb ho23; obtain ⟨Ao24, co24, eo24⟩ := Kd.N_slice HO243.out; subst eo24) | ((with_reducible refine gate_callee (f := 121) rfl ?_); refine goesL_ (some 11) rfl rfl Try.func121 (by kernel_rfl) rfl #[.agg #[.slice A0_0 l0_0.length c0_0], .slice Ao24 y241.length co24] rfl (by (simp only [List.map_toArray, List.map_cons, List.map_nil]); rfl) ?_; (with_reducible refine (impl_moduleCode.calls k _ _ l0_0 _ _ y241 t244 _ ?side1 ?side2 ?side3 ?side4 A4.out).mono ?_); (case side1 => exact (Kd.C_below HR0_0.out HB.out)); (case side2 => exact HC0_0.out); (case side3 => repeat (exact (Kd.N_reads' HO243.out).2.2)); (case side4 => exact (Kd.N_reads' HO243.out).2.1); rintro e w25 ⟨rfl, hb⟩; refine ⟨_, rfl, ?_⟩; replace HO1_1 := Aside0.mk (Kd.V_below HO1_1.out hb); replace HO243 := Aside0.mk (Kd.N_below HO243.out hb); replace BK239 := Aside0.mk (blk_below BK239.out hb); replace BK240 := Aside0.mk (blk_below BK240.out hb); replace HB := Aside0.mk (below_step HB.out hb); clear hb; have hcz26_0 := bc0 BK240.out; have hcz26_1 := bc1 BK240.out; have hfz26_0 := blk_frozen BK240.out 0; have hfz26_1 := blk_frozen BK240.out 1))
    go_ret
    exact ⟨by rfl, by exact HB.out⟩
   ·rw [if_neg c16] at H
    have c16b0 : decide (a1_0 ≤ a2) = false := decide_eq_false c16
    clear c16
    by_cases c27 : a2 = 0
    ·rw [if_pos c27] at H
     exact absurd H (by simp)
    ·rw [if_neg c27] at H
     have c27b0 : (a2 == 0) = false := beq_eq_false_iff_ne.mpr c27
     have c27b1 : (a2 != 0) = true := bne_iff_ne.mpr c27
     by_cases c28 : (Int.tmod a1_0 a2) = 0
     ·rw [if_pos c28] at H
      have c28b0 : ((Int.tmod a1_0 a2) == 0) = true := beq_iff_eq.mpr c28
      have c28b1 : ((Int.tmod a1_0 a2) != 0) = false := bne_eq_false_iff_eq.mpr c28
      clear c28
      obtain rfl := Option.some.inj H
      go_enter Try.func76, Try.ntmps76
      go_wp2_with (first | ((with_reducible refine gate_dst (N := 3) rfl ?_); refine box_event ?hg (N := 3) ?hd (cs := #[.slice A0_0 l0_0.length c0_0]) (t := 33) ?hr ?_; (case hd => rfl); (case hg => rfl); (case hr => (go_simp; done)); intro gb239 hg w29 hbox hb; replace HO1_1 := Aside0.mk (Kd.V_below (Kd.V_elderB HO1_1.out gb239 (Nat.le_of_eq hg.symm)) hb); have BK239 := Aside0.mk (hbox); have GW239 := Aside0.mk (geg hg (below_size HB.out)); have GE239 := Aside0.mk (geg hg (below_size HB.out)); replace HB := Aside0.mk (below_step HB.out hb); clear hb hbox hg) | ((with_reducible refine gate_dst (N := 4) rfl ?_); refine box_event ?hg (N := 4) ?hd (cs := #[.int .i64 a1_0, .slice A1_1 l1_1.length c1_1]) (t := 30) ?hr ?_; (case hd => rfl); (case hg => rfl); (case hr => (go_simp; done)); intro gb240 hg w30 hbox hb; replace HO1_1 := Aside0.mk (Kd.V_below (Kd.V_elderB HO1_1.out gb240 (Nat.le_of_eq hg.symm)) hb); have BK240 := Aside0.mk (hbox); have GW240 := Aside0.mk (geg hg (below_size HB.out)); have GE240 := Aside0.mk (geg hg (below_size HB.out)); replace HB := Aside0.mk (below_step HB.out hb); have NB239_240 := Aside0.mk ((by rw [hg]; exact Nat.ne_of_lt (blk_lt BK239.out) : gb239 ≠ gb240)); have NB240_239 := Aside0.mk ((by rw [hg]; exact Nat.ne_of_gt (blk_lt BK239.out) : gb240 ≠ gb239)); replace BK239 := Aside0.mk (blk_below BK239.out hb); clear hb hbox hg; have hnb31 := NB239_240.out; have hnc31 := NB240_239.out; have hcz32_0 := bc0 BK239.out; have hfz32_0 := blk_frozen BK239.out 0; have hcz33_0 := bc0 BK240.out; have hcz33_1 := bc1 BK240.out; have hfz33_0 := blk_frozen BK240.out 0; have hfz33_1 := blk_frozen BK240.out 1) | ((with_reducible refine gate_dst (N := 10) rfl ?_); refine Kd.N_lit k30 _ 30 ?hg (N' := 10) ?hd (xs := ([(⟨a1_0, l1_1⟩ : S30)] : List (S30))) (inner := [.int .i64 a1_0, .slice A1_1 l1_1.length c1_1]) (ok := (fun k_ => (P1_1_ k_ ∨ w.heap.size ≤ k_) ∧ k_ ≠ gb239 ∧ k_ ≠ gb240)) (okp := (fun k_ => (P1_1_ k_ ∨ w.heap.size ≤ k_) ∧ k_ ≠ gb239 ∧ k_ ≠ gb240)) ?hr ?hp (fun _ hk => hk) ((show ∀ k_, w30.heap.size ≤ k_ → (fun k_ => (P1_1_ k_ ∨ w.heap.size ≤ k_) ∧ k_ ≠ gb239 ∧ k_ ≠ gb240) k_ from fun k_ hk => ⟨(.inr (Nat.le_trans (below_size HB.out) hk)), Kd.freshB (g := gb239) (o := .cells #[.slice A0_0 l0_0.length c0_0] 33 (0, 0)) BK239.out k_ hk, Kd.freshB (g := gb240) (o := .cells #[.int .i64 a1_0, .slice A1_1 l1_1.length c1_1] 30 (0, 0)) BK240.out k_ hk⟩) _ (Nat.le_refl _)) (Below.refl _ _) (Nat.le_refl _) (by simp) ?_; (case hd => rfl); (case hg => rfl); (case hr => (go_simp; done)); (case hp => exact (Reps.c2 (show Kd.FK k30 _ _ (⟨a1_0, l1_1⟩ : S30) [.int .i64 a1_0, .slice A1_1 l1_1.length c1_1] from (k30_mkF _ _ (⟨a1_0, l1_1⟩ : S30) (Kd.V_reads' (Kd.V_mono (ok' := (fun k_ => (P1_1_ k_ ∨ w.heap.size ≤ k_) ∧ k_ ≠ gb239 ∧ k_ ≠ gb240)) (HO1_1.out) (fun k_ hk => ⟨hk.1.1, ⟨hk.1.2, hk.2⟩⟩))).2.1 (Kd.V_F (Kd.V_mono (ok' := (fun k_ => (P1_1_ k_ ∨ w.heap.size ≤ k_) ∧ k_ ≠ gb239 ∧ k_ ≠ gb240)) (HO1_1.out) (fun k_ hk => ⟨hk.1.1, ⟨hk.1.2, hk.2⟩⟩))))) (Reps.none _ _))); intro v242 w34 ho35 hb hg_ hnew_; clear hg_ hnew_; (rw [← Ny241.out] at ho35); replace HO1_1 := Aside0.mk (Kd.V_elder' HO1_1.out (Kd.N_base ho35) hb); have HO243 := Aside0.mk (Kd.N_lower ho35 (below_size HB.out)); replace BK239 := Aside0.mk (blk_below BK239.out hb); replace BK240 := Aside0.mk (blk_below BK240.out hb); replace HB := Aside0.mk (below_step HB.out hb); clear hb ho35; obtain ⟨Ao36, co36, eo36⟩ := Kd.N_slice HO243.out; subst eo36) | ((with_reducible refine gate_callee (f := 121) rfl ?_); refine goesL_ (some 11) rfl rfl Try.func121 (by kernel_rfl) rfl #[.agg #[.slice A0_0 l0_0.length c0_0], .slice Ao36 y241.length co36] rfl (by (simp only [List.map_toArray, List.map_cons, List.map_nil]); rfl) ?_; (with_reducible refine (impl_moduleCode.calls k _ _ l0_0 _ _ y241 t244 _ ?side1 ?side2 ?side3 ?side4 A4.out).mono ?_); (case side1 => exact (Kd.C_below HR0_0.out HB.out)); (case side2 => exact HC0_0.out); (case side3 => repeat (exact (Kd.N_reads' HO243.out).2.2)); (case side4 => exact (Kd.N_reads' HO243.out).2.1); rintro e w37 ⟨rfl, hb⟩; refine ⟨_, rfl, ?_⟩; replace HO1_1 := Aside0.mk (Kd.V_below HO1_1.out hb); replace HO243 := Aside0.mk (Kd.N_below HO243.out hb); replace BK239 := Aside0.mk (blk_below BK239.out hb); replace BK240 := Aside0.mk (blk_below BK240.out hb); replace HB := Aside0.mk (below_step HB.out hb); clear hb; have hcz38_0 := bc0 BK240.out; have hcz38_1 := bc1 BK240.out; have hfz38_0 := blk_frozen BK240.out 0; have hfz38_1 := blk_frozen BK240.out 1))
      go_ret
      exact ⟨by rfl, by exact HB.out⟩
     ·rw [if_neg c28] at H
      have c28b0 : ((Int.tmod a1_0 a2) == 0) = false := beq_eq_false_iff_ne.mpr c28
      have c28b1 : ((Int.tmod a1_0 a2) != 0) = true := bne_iff_ne.mpr c28
      obtain rfl := Option.some.inj H
      go_enter Try.func76, Try.ntmps76
      go_wp2_with (first | ((with_reducible refine gate_dst (N := 3) rfl ?_); refine box_event ?hg (N := 3) ?hd (cs := #[.slice A0_0 l0_0.length c0_0]) (t := 33) ?hr ?_; (case hd => rfl); (case hg => rfl); (case hr => (go_simp; done)); intro gb239 hg w39 hbox hb; replace HO1_1 := Aside0.mk (Kd.V_below (Kd.V_elderB HO1_1.out gb239 (Nat.le_of_eq hg.symm)) hb); have BK239 := Aside0.mk (hbox); have GW239 := Aside0.mk (geg hg (below_size HB.out)); have GE239 := Aside0.mk (geg hg (below_size HB.out)); replace HB := Aside0.mk (below_step HB.out hb); clear hb hbox hg) | ((with_reducible refine gate_dst (N := 4) rfl ?_); refine box_event ?hg (N := 4) ?hd (cs := #[.int .i64 a1_0, .slice A1_1 l1_1.length c1_1]) (t := 30) ?hr ?_; (case hd => rfl); (case hg => rfl); (case hr => (go_simp; done)); intro gb240 hg w40 hbox hb; replace HO1_1 := Aside0.mk (Kd.V_below (Kd.V_elderB HO1_1.out gb240 (Nat.le_of_eq hg.symm)) hb); have BK240 := Aside0.mk (hbox); have GW240 := Aside0.mk (geg hg (below_size HB.out)); have GE240 := Aside0.mk (geg hg (below_size HB.out)); replace HB := Aside0.mk (below_step HB.out hb); have NB239_240 := Aside0.mk ((by rw [hg]; exact Nat.ne_of_lt (blk_lt BK239.out) : gb239 ≠ gb240)); have NB240_239 := Aside0.mk ((by rw [hg]; exact Nat.ne_of_gt (blk_lt BK239.out) : gb240 ≠ gb239)); replace BK239 := Aside0.mk (blk_below BK239.out hb); clear hb hbox hg; have hnb41 := NB239_240.out; have hnc41 := NB240_239.out; have hcz42_0 := bc0 BK239.out; have hfz42_0 := blk_frozen BK239.out 0; have hcz43_0 := bc0 BK240.out; have hcz43_1 := bc1 BK240.out; have hfz43_0 := blk_frozen BK240.out 0; have hfz43_1 := blk_frozen BK240.out 1) | ((with_reducible refine gate_dst (N := 10) rfl ?_); refine Kd.N_lit k30 _ 30 ?hg (N' := 10) ?hd (xs := ([(⟨a1_0, l1_1⟩ : S30)] : List (S30))) (inner := [.int .i64 a1_0, .slice A1_1 l1_1.length c1_1]) (ok := (fun k_ => (P1_1_ k_ ∨ w.heap.size ≤ k_) ∧ k_ ≠ gb239 ∧ k_ ≠ gb240)) (okp := (fun k_ => (P1_1_ k_ ∨ w.heap.size ≤ k_) ∧ k_ ≠ gb239 ∧ k_ ≠ gb240)) ?hr ?hp (fun _ hk => hk) ((show ∀ k_, w40.heap.size ≤ k_ → (fun k_ => (P1_1_ k_ ∨ w.heap.size ≤ k_) ∧ k_ ≠ gb239 ∧ k_ ≠ gb240) k_ from fun k_ hk => ⟨(.inr (Nat.le_trans (below_size HB.out) hk)), Kd.freshB (g := gb239) (o := .cells #[.slice A0_0 l0_0.length c0_0] 33 (0, 0)) BK239.out k_ hk, Kd.freshB (g := gb240) (o := .cells #[.int .i64 a1_0, .slice A1_1 l1_1.length c1_1] 30 (0, 0)) BK240.out k_ hk⟩) _ (Nat.le_refl _)) (Below.refl _ _) (Nat.le_refl _) (by simp) ?_; (case hd => rfl); (case hg => rfl); (case hr => (go_simp; done)); (case hp => exact (Reps.c2 (show Kd.FK k30 _ _ (⟨a1_0, l1_1⟩ : S30) [.int .i64 a1_0, .slice A1_1 l1_1.length c1_1] from (k30_mkF _ _ (⟨a1_0, l1_1⟩ : S30) (Kd.V_reads' (Kd.V_mono (ok' := (fun k_ => (P1_1_ k_ ∨ w.heap.size ≤ k_) ∧ k_ ≠ gb239 ∧ k_ ≠ gb240)) (HO1_1.out) (fun k_ hk => ⟨hk.1.1, ⟨hk.1.2, hk.2⟩⟩))).2.1 (Kd.V_F (Kd.V_mono (ok' := (fun k_ => (P1_1_ k_ ∨ w.heap.size ≤ k_) ∧ k_ ≠ gb239 ∧ k_ ≠ gb240)) (HO1_1.out) (fun k_ hk => ⟨hk.1.1, ⟨hk.1.2, hk.2⟩⟩))))) (Reps.none _ _))); intro v242 w44 ho45 hb hg_ hnew_; clear hg_ hnew_; (rw [← Ny241.out] at ho45); replace HO1_1 := Aside0.mk (Kd.V_elder' HO1_1.out (Kd.N_base ho45) hb); have HO243 := Aside0.mk (Kd.N_lower ho45 (below_size HB.out)); replace BK239 := Aside0.mk (blk_below BK239.out hb); replace BK240 := Aside0.mk (blk_below BK240.out hb); replace HB := Aside0.mk (below_step HB.out hb); clear hb ho45; obtain ⟨Ao46, co46, eo46⟩ := Kd.N_slice HO243.out; subst eo46) | ((with_reducible refine gate_callee (f := 121) rfl ?_); refine goesL_ (some 11) rfl rfl Try.func121 (by kernel_rfl) rfl #[.agg #[.slice A0_0 l0_0.length c0_0], .slice Ao46 y241.length co46] rfl (by (simp only [List.map_toArray, List.map_cons, List.map_nil]); rfl) ?_; (with_reducible refine (impl_moduleCode.calls k _ _ l0_0 _ _ y241 t244 _ ?side1 ?side2 ?side3 ?side4 A4.out).mono ?_); (case side1 => exact (Kd.C_below HR0_0.out HB.out)); (case side2 => exact HC0_0.out); (case side3 => repeat (exact (Kd.N_reads' HO243.out).2.2)); (case side4 => exact (Kd.N_reads' HO243.out).2.1); rintro e w47 ⟨rfl, hb⟩; refine ⟨_, rfl, ?_⟩; replace HO1_1 := Aside0.mk (Kd.V_below HO1_1.out hb); replace HO243 := Aside0.mk (Kd.N_below HO243.out hb); replace BK239 := Aside0.mk (blk_below BK239.out hb); replace BK240 := Aside0.mk (blk_below BK240.out hb); replace HB := Aside0.mk (below_step HB.out hb); clear hb; have hcz48_0 := bc0 BK240.out; have hcz48_1 := bc1 BK240.out; have hfz48_0 := blk_frozen BK240.out 0; have hfz48_1 := blk_frozen BK240.out 1))
      go_ret
      exact ⟨by rfl, by exact HB.out⟩
 ·rw [if_neg c5] at H
  have c5b0 : (t244 == 0) = false := beq_eq_false_iff_ne.mpr c5
  have c5b1 : (t244 != 0) = true := bne_iff_ne.mpr c5
  obtain rfl := Option.some.inj H
  go_enter Try.func76, Try.ntmps76
  go_wp2_with (first | ((with_reducible refine gate_dst (N := 3) rfl ?_); refine box_event ?hg (N := 3) ?hd (cs := #[.slice A0_0 l0_0.length c0_0]) (t := 33) ?hr ?_; (case hd => rfl); (case hg => rfl); (case hr => (go_simp; done)); intro gb239 hg w49 hbox hb; replace HO1_1 := Aside0.mk (Kd.V_below (Kd.V_elderB HO1_1.out gb239 (Nat.le_of_eq hg.symm)) hb); have BK239 := Aside0.mk (hbox); have GW239 := Aside0.mk (geg hg (below_size HB.out)); have GE239 := Aside0.mk (geg hg (below_size HB.out)); replace HB := Aside0.mk (below_step HB.out hb); clear hb hbox hg) | ((with_reducible refine gate_dst (N := 4) rfl ?_); refine box_event ?hg (N := 4) ?hd (cs := #[.int .i64 a1_0, .slice A1_1 l1_1.length c1_1]) (t := 30) ?hr ?_; (case hd => rfl); (case hg => rfl); (case hr => (go_simp; done)); intro gb240 hg w50 hbox hb; replace HO1_1 := Aside0.mk (Kd.V_below (Kd.V_elderB HO1_1.out gb240 (Nat.le_of_eq hg.symm)) hb); have BK240 := Aside0.mk (hbox); have GW240 := Aside0.mk (geg hg (below_size HB.out)); have GE240 := Aside0.mk (geg hg (below_size HB.out)); replace HB := Aside0.mk (below_step HB.out hb); have NB239_240 := Aside0.mk ((by rw [hg]; exact Nat.ne_of_lt (blk_lt BK239.out) : gb239 ≠ gb240)); have NB240_239 := Aside0.mk ((by rw [hg]; exact Nat.ne_of_gt (blk_lt BK239.out) : gb240 ≠ gb239)); replace BK239 := Aside0.mk (blk_below BK239.out hb); clear hb hbox hg; have hnb51 := NB239_240.out; have hnc51 := NB240_239.out; have hcz52_0 := bc0 BK239.out; have hfz52_0 := blk_frozen BK239.out 0; have hcz53_0 := bc0 BK240.out; have hcz53_1 := bc1 BK240.out; have hfz53_0 := blk_frozen BK240.out 0; have hfz53_1 := blk_frozen BK240.out 1) | ((with_reducible refine gate_dst (N := 10) rfl ?_); refine Kd.N_lit k30 _ 30 ?hg (N' := 10) ?hd (xs := ([(⟨a1_0, l1_1⟩ : S30)] : List (S30))) (inner := [.int .i64 a1_0, .slice A1_1 l1_1.length c1_1]) (ok := (fun k_ => (P1_1_ k_ ∨ w.heap.size ≤ k_) ∧ k_ ≠ gb239 ∧ k_ ≠ gb240)) (okp := (fun k_ => (P1_1_ k_ ∨ w.heap.size ≤ k_) ∧ k_ ≠ gb239 ∧ k_ ≠ gb240)) ?hr ?hp (fun _ hk => hk) ((show ∀ k_, w50.heap.size ≤ k_ → (fun k_ => (P1_1_ k_ ∨ w.heap.size ≤ k_) ∧ k_ ≠ gb239 ∧ k_ ≠ gb240) k_ from fun k_ hk => ⟨(.inr (Nat.le_trans (below_size HB.out) hk)), Kd.freshB (g := gb239) (o := .cells #[.slice A0_0 l0_0.length c0_0] 33 (0, 0)) BK239.out k_ hk, Kd.freshB (g := gb240) (o := .cells #[.int .i64 a1_0, .slice A1_1 l1_1.length c1_1] 30 (0, 0)) BK240.out k_ hk⟩) _ (Nat.le_refl _)) (Below.refl _ _) (Nat.le_refl _) (by simp) ?_; (case hd => rfl); (case hg => rfl); (case hr => (go_simp; done)); (case hp => exact (Reps.c2 (show Kd.FK k30 _ _ (⟨a1_0, l1_1⟩ : S30) [.int .i64 a1_0, .slice A1_1 l1_1.length c1_1] from (k30_mkF _ _ (⟨a1_0, l1_1⟩ : S30) (Kd.V_reads' (Kd.V_mono (ok' := (fun k_ => (P1_1_ k_ ∨ w.heap.size ≤ k_) ∧ k_ ≠ gb239 ∧ k_ ≠ gb240)) (HO1_1.out) (fun k_ hk => ⟨hk.1.1, ⟨hk.1.2, hk.2⟩⟩))).2.1 (Kd.V_F (Kd.V_mono (ok' := (fun k_ => (P1_1_ k_ ∨ w.heap.size ≤ k_) ∧ k_ ≠ gb239 ∧ k_ ≠ gb240)) (HO1_1.out) (fun k_ hk => ⟨hk.1.1, ⟨hk.1.2, hk.2⟩⟩))))) (Reps.none _ _))); intro v242 w54 ho55 hb hg_ hnew_; clear hg_ hnew_; (rw [← Ny241.out] at ho55); replace HO1_1 := Aside0.mk (Kd.V_elder' HO1_1.out (Kd.N_base ho55) hb); have HO243 := Aside0.mk (Kd.N_lower ho55 (below_size HB.out)); replace BK239 := Aside0.mk (blk_below BK239.out hb); replace BK240 := Aside0.mk (blk_below BK240.out hb); replace HB := Aside0.mk (below_step HB.out hb); clear hb ho55; obtain ⟨Ao56, co56, eo56⟩ := Kd.N_slice HO243.out; subst eo56) | ((with_reducible refine gate_callee (f := 121) rfl ?_); refine goesL_ (some 11) rfl rfl Try.func121 (by kernel_rfl) rfl #[.agg #[.slice A0_0 l0_0.length c0_0], .slice Ao56 y241.length co56] rfl (by (simp only [List.map_toArray, List.map_cons, List.map_nil]); rfl) ?_; (with_reducible refine (impl_moduleCode.calls k _ _ l0_0 _ _ y241 t244 _ ?side1 ?side2 ?side3 ?side4 A4.out).mono ?_); (case side1 => exact (Kd.C_below HR0_0.out HB.out)); (case side2 => exact HC0_0.out); (case side3 => repeat (exact (Kd.N_reads' HO243.out).2.2)); (case side4 => exact (Kd.N_reads' HO243.out).2.1); rintro e w57 ⟨rfl, hb⟩; refine ⟨_, rfl, ?_⟩; replace HO1_1 := Aside0.mk (Kd.V_below HO1_1.out hb); replace HO243 := Aside0.mk (Kd.N_below HO243.out hb); replace BK239 := Aside0.mk (blk_below BK239.out hb); replace BK240 := Aside0.mk (blk_below BK240.out hb); replace HB := Aside0.mk (below_step HB.out hb); clear hb))
  go_ret
  exact ⟨by rfl, by exact HB.out⟩

/-! ### impl_reduced_1: function 123 -/
def impl_reduced_1.f (a0 : Int) (l1 : List (S30)) (l2 : List Int) : Option (Int) := if 0 < (l1.length : Int) then (if 0 ≤ a0 then (if a0 < (((rd_T30 l1 0).f1).length : Int) then (if 0 < (l2.length : Int) then (if (rd l2 0) = 0 then (none) else (some (Int.tmod (rd ((rd_T30 l1 0).f1) a0) (rd l2 0)))) else (none)) else (none)) else (none)) else (none)
set_option maxHeartbeats 8000000 in
set_option maxRecDepth 100000 in
theorem impl_reduced_1.calls (a0 : Int) (A1 : Option Addr) (l1 : List (S30)) (A2 : Option Addr) (l2 : List Int) (r : Int) (w : World) (hr1 : Kd.C k30 w A1 l1.length l1) (hr2 : Kd.C (Kd.int .i64) w A2 l2.length l2) (h : impl_reduced_1.f a0 l1 l2 = some r) :
  Calls Try.prog 123 #[.int .i64 a0, .pointer A1, .pointer A2] w fun e w' => e = .returned (.int .i64 r) ∧ Drawn0 w w' := by
 have hu25 := Try.underlying25
 have hu2 := Try.underlying2
 have HR1 := Aside0.mk hr1
 clear hr1
 have HR2 := Aside0.mk hr2
 clear hr2
 have H : (if 0 < (l1.length : Int) then (if 0 ≤ a0 then (if a0 < (((rd_T30 l1 0).f1).length : Int) then (if 0 < (l2.length : Int) then (if (rd l2 0) = 0 then (none) else (some (Int.tmod (rd ((rd_T30 l1 0).f1) a0) (rd l2 0)))) else (none)) else (none)) else (none)) else (none)) = some r := h
 clear h
 by_cases c4 : 0 < (l1.length : Int)
 ·rw [if_pos c4] at H
  have c4b0 : decide (0 < (l1.length : Int)) = true := decide_eq_true c4
  have c4b1 : decide (0 < l1.length) = true := decide_eq_true (by omega)
  clear c4
  by_cases c5 : 0 ≤ a0
  ·rw [if_pos c5] at H
   have c5b0 : decide (0 ≤ a0) = true := decide_eq_true c5
   clear c5
   by_cases c6 : a0 < (((rd_T30 l1 0).f1).length : Int)
   ·rw [if_pos c6] at H
    have c6b0 : decide (a0 < (((rd_T30 l1 0).f1).length : Int)) = true := decide_eq_true c6
    clear c6
    by_cases c7 : 0 < (l2.length : Int)
    ·rw [if_pos c7] at H
     have c7b0 : decide (0 < (l2.length : Int)) = true := decide_eq_true c7
     have c7b1 : decide (0 < l2.length) = true := decide_eq_true (by omega)
     clear c7
     by_cases c8 : (rd l2 0) = 0
     ·rw [if_pos c8] at H
      exact absurd H (by simp)
     ·rw [if_neg c8] at H
      have c8b0 : ((rd l2 0) == 0) = false := beq_eq_false_iff_ne.mpr c8
      have c8b1 : ((rd l2 0) != 0) = true := bne_iff_ne.mpr c8
      obtain rfl := Option.some.inj H
      have p245 : 0 ≤ (0 : Int) := (by omega)
      have q245 : 0 < (l1.length : Int) := of_decide_eq_true ‹_›
      obtain ⟨ad245, A245_1, c245_1, e245, hx245_0, hx245_1, hl245_1, hi245_1⟩ := at_T30 HR1.out 0 p245 q245
      cases e245
      have qi245 : (0 < l1.length) = True := eq_true (by omega)
      (rw [show ((0 : Int)).toNat = 0 from rfl] at hx245_0)
      (rw [show 0 * 2 = 0 from rfl] at hx245_0)
      (rw [Addr.add_zero'] at hx245_0)
      (rw [show ((0 : Int)).toNat = 0 from rfl] at hx245_1)
      (rw [show 0 * 2 = 0 from rfl] at hx245_1)
      (rw [Addr.add_zero'] at hx245_1)
      have HR245_1 := Aside0.mk hi245_1
      have HC245_1 := Aside0.mk hl245_1
      clear hi245_1 hl245_1
      replace p245 := eq_true p245
      replace q245 := eq_true q245
      have p246 : 0 ≤ (a0 : Int) := of_decide_eq_true ‹_›
      have q246 : a0 < (((rd_T30 l1 0).f1).length : Int) := of_decide_eq_true ‹_›
      obtain ⟨ad246, e246, hx246_0⟩ := Kd.at_int HR245_1.out a0 p246 q246
      cases e246
      replace p246 := eq_true p246
      replace q246 := eq_true q246
      have p247 : 0 ≤ (0 : Int) := (by omega)
      have q247 : 0 < (l2.length : Int) := of_decide_eq_true ‹_›
      obtain ⟨ad247, e247, hx247_0⟩ := Kd.at_int HR2.out 0 p247 q247
      cases e247
      have qi247 : (0 < l2.length) = True := eq_true (by omega)
      (rw [show ((0 : Int)).toNat = 0 from rfl] at hx247_0)
      (rw [Addr.add_zero'] at hx247_0)
      replace p247 := eq_true p247
      replace q247 := eq_true q247
      go_enter Try.func123, Try.ntmps123
      go_wp2
      repeat (go_quiet (fail); go_wp2)
      go_ret
      exact ⟨by rfl, by repeat (first | exact Drawn0.refl _ | apply Drawn0.step)⟩
    ·rw [if_neg c7] at H
     exact absurd H (by simp)
   ·rw [if_neg c6] at H
    exact absurd H (by simp)
  ·rw [if_neg c5] at H
   exact absurd H (by simp)
 ·rw [if_neg c4] at H
  exact absurd H (by simp)

/-! ### impl_unitsOf_at123: function 233 -/
def impl_unitsOf_at123.l0 : Nat → Int → Int → List (S30) → List Int → Int → List Int → Option (Int × List Int)
 | 0, _, _, _, _, _, _ => none
 | k + 1, x12, x13, x820, x821, x251000, x251001 => if x13 < x12 then ((impl_reduced_1.f x13 x820 x821).bind fun t252 => (if x251001.length < 17592186044416 then (impl_unitsOf_at123.l0 k x12 (wrap64 (x13 + 1)) x820 x821 x251000 (x251001 ++ [t252])) else (none))) else (some (x251000, x251001))
def impl_unitsOf_at123.f (k : Nat) (l0_0 : List (List Int)) (a1 : Int) (l2_0 : List (S30)) (l2_1 : List Int) : Option (Int × List Int) := (impl_order.f l0_0).bind fun t251 => (impl_unitsOf_at123.l0 k t251 0 l2_0 l2_1 a1 ([] : List Int))
theorem impl_unitsOf_at123.mono_l : ∀ k, (∀ y0 y1 y2 y3 y4 y5, LeO (impl_unitsOf_at123.l0 k y0 y1 y2 y3 y4 y5) (impl_unitsOf_at123.l0 (k + 1) y0 y1 y2 y3 y4 y5))
 | 0 => fun _ _ _ _ _ _ r h => by simp [impl_unitsOf_at123.l0] at h
 | k + 1 => by
  have ih0 := impl_unitsOf_at123.mono_l k
  ·intro y0 y1 y2 y3 y4 y5
   unfold impl_unitsOf_at123.l0
   repeat' first
   | (with_reducible exact ih0 _ _ _ _ _ _)
   | (with_reducible exact LeO.refl _)
   | (with_reducible exact LeO.none _)
   | (with_reducible refine LeO.ite ?_ ?_)
   | (with_reducible refine LeO.bind ?_ (fun _ => ?_))
   | exact ih0 _ _ _ _ _ _
   | exact LeO.none _
   | refine LeO.ite ?_ ?_
   | refine LeO.bind ?_ (fun _ => ?_)
theorem impl_unitsOf_at123.mono : ∀ a0 a1 a2 a3 k, LeO (impl_unitsOf_at123.f k a0 a1 a2 a3) (impl_unitsOf_at123.f (k + 1) a0 a1 a2 a3) := by
 intro a0 a1 a2 a3 k
 have ih0 := impl_unitsOf_at123.mono_l k
 unfold impl_unitsOf_at123.f
 repeat' first
   | (with_reducible exact ih0 _ _ _ _ _ _)
   | (with_reducible exact LeO.refl _)
   | (with_reducible refine LeO.bind ?_ (fun _ => ?_))
def impl_unitsOf_at123.T5 : Bool × List (List Nat × List Nat) := (true, [([], []), ([0], [0]), ([], []), ([], []), ([2, 3], [2, 3]), ([4], [4]), ([1, 5, 4], [1, 5]), ([0, 1, 2, 3, 4, 5, 6], []), ([7, 6, 6, 0, 1, 2, 3, 4, 5, 6], [6, 7])])
def impl_unitsOf_at123.B5 : List Nat := [0, 1, 0, 0, 12, 28, 63, 127, 255]
theorem impl_unitsOf_at123.tab5 : rtab .any (opsOf Try.f122 5) = impl_unitsOf_at123.T5 := by kernel_rfl
theorem impl_unitsOf_at123.bits5 : waitsOk impl_unitsOf_at123.T5.2 impl_unitsOf_at123.B5 = true := by kernel_rfl
set_option maxHeartbeats 8000000 in
set_option maxRecDepth 100000 in
theorem impl_unitsOf_at123.calls (k : Nat) (A0_0 : Option Addr) (c0_0 : Nat) (l0_0 : List (List Int)) (a1 : Int) (A2_0 : Option Addr) (l2_0 : List (S30)) (A2_1 : Option Addr) (l2_1 : List Int) (r1 : Int) (r2 : List Int) (w : World) (hr0_0 : Kd.C (Kd.slice 2 (Kd.int .i64)) w A0_0 l0_0.length l0_0) (hc0_0 : l0_0.length ≤ c0_0) (hr2_0 : Kd.C k30 w A2_0 l2_0.length l2_0) (hr2_1 : Kd.C (Kd.int .i64) w A2_1 l2_1.length l2_1) (h : impl_unitsOf_at123.f k l0_0 a1 l2_0 l2_1 = some (r1, r2)) :
  Calls Try.prog 122 #[.agg #[.slice A0_0 l0_0.length c0_0], .int .i64 a1, .func (.func 123) #[] #[.pointer A2_0, .pointer A2_1]] w fun e w' => ∃ v1_ : Value, e = .returned (.agg #[.int .i64 r1, v1_]) ∧ Kd.R (Kd.int .i64) 2 w' w.heap.size (fun _ => True) v1_ r2 ∧ Below w.heap.size w w' := by
 have hu33 := Try.underlying33
 have hu30 := Try.underlying30
 have hu25 := Try.underlying25
 have HR0_0 := Aside0.mk hr0_0
 have HC0_0 := Aside0.mk hc0_0
 clear hr0_0 hc0_0
 have HR2_0 := Aside0.mk hr2_0
 clear hr2_0
 have HR2_1 := Aside0.mk hr2_1
 clear hr2_1
 have HB := Aside0.mk (Below.refl w.heap.size w)
 have H : ((impl_order.f l0_0).bind fun t251 => (impl_unitsOf_at123.l0 k t251 0 l2_0 l2_1 a1 ([] : List Int))) = some (r1, r2) := h
 clear h
 replace H := Option.bind_eq_some_iff.mp H
 obtain ⟨t251, A40, H⟩ := H
 replace H : (impl_unitsOf_at123.l0 k t251 0 l2_0 l2_1 a1 ([] : List Int)) = some (r1, r2) := H
 have A4 := Aside0.mk A40
 clear A40
 have H' := Aside0.mk H
 clear H
 go_enter Try.func122, Try.ntmps122
 go_wp2_with (first | ((with_reducible refine gate_dst (N := 3) rfl ?_); refine box_event ?hg (N := 3) ?hd (cs := #[.slice A0_0 l0_0.length c0_0]) (t := 33) ?hr ?_; (case hd => rfl); (case hg => rfl); (case hr => (go_simp; done)); intro gb248 hg w5 hbox hb; have BK248 := Aside0.mk (hbox); have GW248 := Aside0.mk (geg hg (below_size HB.out)); have GE248 := Aside0.mk (geg hg (below_size HB.out)); replace HB := Aside0.mk (below_step HB.out hb); clear hb hbox hg) | ((with_reducible refine gate_dst (N := 6) rfl ?_); refine box_event ?hg (N := 6) ?hd (cs := #[.int .i64 0, .slice none 0 0]) (t := 30) ?hr ?_; (case hd => rfl); (case hg => rfl); (case hr => (go_simp; done)); intro gb249 hg w6 hbox hb; have BK249 := Aside0.mk (hbox); have GW249 := Aside0.mk (geg hg (below_size HB.out)); have GE249 := Aside0.mk (geg hg (below_size HB.out)); replace HB := Aside0.mk (below_step HB.out hb); have NB248_249 := Aside0.mk ((by rw [hg]; exact Nat.ne_of_lt (blk_lt BK248.out) : gb248 ≠ gb249)); have NB249_248 := Aside0.mk ((by rw [hg]; exact Nat.ne_of_gt (blk_lt BK248.out) : gb249 ≠ gb248)); replace BK248 := Aside0.mk (blk_below BK248.out hb); clear hb hbox hg) | ((with_reducible refine gate_dst (N := 7) rfl ?_); refine box_event ?hg (N := 7) ?hd (cs := #[.int .i64 0, .slice none 0 0]) (t := 30) ?hr ?_; (case hd => rfl); (case hg => rfl); (case hr => (go_simp; done)); intro gb250 hg w7 hbox hb; have BK250 := Aside0.mk (hbox); have GW250 := Aside0.mk (geg hg (below_size HB.out)); have GE250 := Aside0.mk (geg hg (below_size HB.out)); replace HB := Aside0.mk (below_step HB.out hb); have NB248_250 := Aside0.mk ((by rw [hg]; exact Nat.ne_of_lt (blk_lt BK248.out) : gb248 ≠ gb250)); have NB250_248 := Aside0.mk ((by rw [hg]; exact Nat.ne_of_gt (blk_lt BK248.out) : gb250 ≠ gb248)); replace BK248 := Aside0.mk (blk_below BK248.out hb); have NB249_250 := Aside0.mk ((by rw [hg]; exact Nat.ne_of_lt (blk_lt BK249.out) : gb249 ≠ gb250)); have NB250_249 := Aside0.mk ((by rw [hg]; exact Nat.ne_of_gt (blk_lt BK249.out) : gb250 ≠ gb249)); replace BK249 := Aside0.mk (blk_below BK249.out hb); clear hb hbox hg; have hnb8 := NB250_248.out; have hnc8 := NB248_250.out; have hnb9 := NB250_249.out; have hnc9 := NB249_250.out; have hcz10_0 := bc0 BK250.out; have hcz10_1 := bc1 BK250.out; have hfz10_0 := blk_frozen BK250.out 0; have hfz10_1 := blk_frozen BK250.out 1; have hnb11 := NB248_249.out; have hnc11 := NB249_248.out; have hcz12_0 := bc0 BK248.out; have hfz12_0 := blk_frozen BK248.out 0) | ((with_reducible refine gate_callee (f := 107) rfl ?_); refine goesL_ (some 12) rfl rfl Try.func107 (by kernel_rfl) rfl #[.agg #[.slice A0_0 l0_0.length c0_0]] rfl (by (simp only [List.map_toArray, List.map_cons, List.map_nil]); rfl) ?_; (with_reducible refine (impl_order.calls _ _ l0_0 t251 _ ?side1 ?side2 A4.out).mono ?_); (case side1 => exact Kd.C_below HR0_0.out (by repeat ((with_reducible first | exact HB.out | refine below_set ?_ GE250.out)))); (case side2 => exact HC0_0.out); rintro e w13 ⟨rfl, hb⟩; refine ⟨_, rfl, ?_⟩; replace BK248 := Aside0.mk (blk_below (g := gb248) (o := .cells #[.slice A0_0 l0_0.length c0_0] 33 (0, 0)) (by refine blk_far ?_ NB248_250.out _; refine blk_far ?_ NB248_250.out _; exact BK248.out) hb); replace BK249 := Aside0.mk (blk_below (g := gb249) (o := .cells #[.int .i64 0, .slice none 0 0] 30 (0, 0)) (by refine blk_far ?_ NB249_250.out _; refine blk_far ?_ NB249_250.out _; exact BK249.out) hb); replace BK250 := Aside0.mk (blk_below (g := gb250) (o := .cells #[.int .i64 a1, .slice none 0 0] 30 (0, 0)) (by refine blk_put (cs := #[.int .i64 a1, .slice none 0 0]) ?_ 1 _ rfl; refine blk_put (cs := #[.int .i64 0, .slice none 0 0]) ?_ 0 _ rfl; exact BK250.out) hb); replace HB := Aside0.mk (below_step (by repeat ((with_reducible first | exact HB.out | refine below_set ?_ GE250.out))) hb); clear hb))
 go_loopg [13] k (fun kq v13 w' => ∃ (x13_1 : Int) (x251001_1 : List Int) (u251001 : Value), v13 = .int .i64 x13_1 ∧ Aside0 (impl_unitsOf_at123.l0 kq t251 x13_1 l2_0 l2_1 a1 x251001_1 = some (r1, r2)) ∧ Aside0 (kq ≤ k) ∧ Aside0 (Kd.R (Kd.int .i64) 2 w' w.heap.size (fun _ => True) u251001 x251001_1) ∧ Aside0 (w'.heap[gb248]? = some (.cells #[(.slice A0_0 l0_0.length c0_0)] 33 (0, 0))) ∧ Aside0 (w'.heap[gb249]? = some (.cells #[.int .i64 0, (.slice none 0 0)] 30 (0, 0))) ∧ Aside0 (w'.heap[gb250]? = some (.cells #[.int .i64 a1, u251001] 30 (0, 0))) ∧ Aside0 (Below w.heap.size w w'))
 case atStart => exact ⟨(0), (([] : List Int)), (.slice none 0 0), (by rfl), H', ⟨Nat.le_refl _⟩, ⟨by exact Kd.R_nil _ _ _ _ _⟩, ⟨by exact BK248.out⟩, ⟨by exact BK249.out⟩, ⟨by exact BK250.out⟩, ⟨by exact HB.out⟩⟩
 case round =>
  clear H'
  clear hcz10_0
  clear hcz10_1
  clear hcz12_0
  clear hfz10_0
  clear hfz10_1
  clear hfz12_0
  obtain ⟨x13_1, x251001_1, u251001, rfl, HA, HK1, HO_251001, BK248, BK249, BK250, HB⟩ := hrel
  cases gk with
  | zero => exact absurd HA.out (by simp [impl_unitsOf_at123.l0])
  | succ k1 =>
   have H := HA.out
   clear HA
   simp only [impl_unitsOf_at123.l0] at H
   by_cases c14 : x13_1 < t251
   ·rw [if_pos c14] at H
    have c14b0 : decide (x13_1 < t251) = true := decide_eq_true c14
    clear c14
    replace H := Option.bind_eq_some_iff.mp H
    obtain ⟨t252, A150, H⟩ := H
    replace H : (if x251001_1.length < 17592186044416 then (impl_unitsOf_at123.l0 k1 t251 (wrap64 (x13_1 + 1)) l2_0 l2_1 a1 (x251001_1 ++ [t252])) else (none)) = some (r1, r2) := H
    have A15 := Aside0.mk A150
    clear A150
    by_cases c16 : x251001_1.length < 17592186044416
    ·rw [if_pos c16] at H
     have LMc16 := Aside0.mk c16
     clear c16
     obtain ⟨y253, hy253⟩ : ∃ y_ : List Int, y_ = (x251001_1 ++ [t252]) := ⟨_, rfl⟩
     replace H : (impl_unitsOf_at123.l0 k1 t251 (wrap64 (x13_1 + 1)) l2_0 l2_1 a1 y253) = some (r1, r2) := by (rw [hy253]; with_reducible exact H)
     have Ny253 := Aside0.mk hy253
     clear hy253
     have H' := Aside0.mk H
     clear H
     go_wp2
     have n0_ := Aside0.mk (Kd.R_drew HO_251001.out)
     have n1_ := Aside0.mk (blk_drew BK248.out)
     have n2_ := Aside0.mk (blk_drew BK249.out)
     have n3_ := Aside0.mk (blk_drew BK250.out)
     have n4_ := Aside0.mk (below_drew1 HB.out)
     clear HO_251001
     clear BK248
     clear BK249
     clear BK250
     clear HB
     have HO_251001 := n0_
     have BK248 := n1_
     have BK249 := n2_
     have BK250 := n3_
     have HB := n4_
     clear n0_ n1_ n2_ n3_ n4_
     refine start_ (n := 9) (S := fun w' => w'.cell? ⟨gb250, 0, none⟩ = some (.int .i64 a1) ∧ w'.cell? ⟨gb250, 1, none⟩ = some (u251001)) (ds := [8]) #[false,false,false,false,false,false,false,false,false] (by kernel_rfl) rfl rfl ⟨(blk_cell BK250.out 0).trans rfl, (blk_cell BK250.out 1).trans rfl⟩ (fun hHeld => ?_); refine with_tabW impl_unitsOf_at123.tab5 impl_unitsOf_at123.bits5 (fun HT_ HW_ => ?_)
     generalize wr.drew = w17 at HO_251001 BK248 BK249 BK250 HB hHeld ⊢
     refine pure_ (i := 0) (N := some 16) (v := ?_) (a' := ?_) #[true,false,false,false,false,false,false,false,false] rfl rfl (any_of HT_.out (by kernel_rfl)) (fun _ _ _ h => h) (Or.inl ⟨by rfl, ?_⟩) ?_ ?_
     rotate_left
     ·intro w'
      go_simp
      with_reducible rfl
     rotate_left
     ·simp only [Act.put, List.setIfInBounds_toArray, List.set_cons_zero, List.set_cons_succ, i64_w, i32_w]
      rfl
     refine pure_ (i := 2) (N := some 18) (v := ?_) (a' := ?_) #[true,false,true,false,false,false,false,false,false] rfl rfl (any_of HT_.out (by kernel_rfl)) (fun _ _ _ h => h) (Or.inl ⟨by rfl, ?_⟩) ?_ ?_
     rotate_left
     ·intro w'
      go_simp
      with_reducible rfl
     rotate_left
     ·simp only [Act.put, List.setIfInBounds_toArray, List.set_cons_zero, List.set_cons_succ, i64_w, i32_w]
      rfl
     refine pure_ (i := 3) (N := some 19) (v := ?_) (a' := ?_) #[true,false,true,true,false,false,false,false,false] rfl rfl (any_of HT_.out (by kernel_rfl)) (fun _ _ _ h => h) (Or.inl ⟨by rfl, ?_⟩) ?_ ?_
     rotate_left
     ·intro w'
      go_simp
      with_reducible rfl
     rotate_left
     ·simp only [Act.put, List.setIfInBounds_toArray, List.set_cons_zero, List.set_cons_succ, i64_w, i32_w]
      rfl
     refine take_ (i := 1) (N := some 17) (v := ?_) (a' := ?_) #[true,true,true,true,false,false,false,false,false] rfl rfl (take_ofW HT_.out HW_.out (by kernel_rfl)) (fun _ _ _ h => h) (Or.inl ⟨by rfl, ?_⟩) hHeld ?_ ?_
     rotate_left
     ·rintro w' ⟨s0, s1⟩
      go_simp
      with_reducible rfl
     rotate_left
     ·simp only [Act.put, List.setIfInBounds_toArray, List.set_cons_zero, List.set_cons_succ, i64_w, i32_w]
      rfl
     refine one_ (i := 4) (N := some 20) #[true,true,true,true,true,false,false,false,false] rfl rfl (one_of HT_.out (by kernel_rfl)) (by decide) (fun K hK => ?_)
     refine Go.Proofs.YtkpcogaahgfmcaaX.goesF_ Try.func123 (by kernel_rfl) rfl #[.pointer A2_0, .pointer A2_1] #[.int .i64 x13_1, .pointer A2_0, .pointer A2_1] (by rfl) rfl rfl (by rfl) (by (simp only [List.map_toArray, List.map_cons, List.map_nil]); rfl) ?_
     refine (impl_reduced_1.calls x13_1 _ l2_0 _ l2_1 t252 _ ?side1 ?side2 A15.out).mono ?_
     (case side1 => exact (Kd.C_below HR2_0.out HB.out))
     (case side2 => exact (Kd.C_below HR2_1.out HB.out))
     rintro e w' ⟨rfl, ⟨nd, rfl⟩⟩
     refine ⟨_, rfl, ?_⟩
     refine hK.out _ _ ⟨(blk_cell BK250.out 0).trans rfl, (blk_cell BK250.out 1).trans rfl⟩ (fun hHeld => ?_)
     clear hK K
     refine norm_ (a' := ?_) ?_ ?_
     rotate_left
     ·show Act.put _ (some 20) _ = _
      simp only [Act.put, List.setIfInBounds_toArray, List.set_cons_zero, List.set_cons_succ, i64_w, i32_w]
      rfl
     refine one_ (i := 5) (N := some 21) #[true,true,true,true,true,true,false,false,false] rfl rfl (one_of HT_.out (by kernel_rfl)) (by decide) (fun K hK => ?_)
     refine value_ (w1 := ?_) (v := ?_) (by rfl) rfl ?_ ?_
     rotate_left 2
     ·go_simp
      constructor
      ·rfl
      ·rfl
     refine hK.out _ _ ⟨(blk_cell (blk_alloc BK250.out _) 0).trans rfl, (blk_cell (blk_alloc BK250.out _) 1).trans rfl⟩ (fun hHeld => ?_)
     clear hK K
     refine norm_ (a' := ?_) ?_ ?_
     rotate_left
     ·show Act.put _ (some 21) _ = _
      simp only [Act.put, List.setIfInBounds_toArray, List.set_cons_zero, List.set_cons_succ, i64_w, i32_w]
      rfl
     refine one_ (i := 6) (N := some 22) #[true,true,true,true,true,true,true,false,false] rfl rfl (one_of HT_.out (by kernel_rfl)) (by decide) (fun K hK => ?_)
     refine Kd.R_append_step (Kd.int .i64) (w0 := w) w.heap.size (by rfl) (.tmp 17) (.tmp 21) 25 2 (.int .i64 0) 8 rfl Try.underlying25 info2 rfl (by decide) (by omega) u251001 x251001_1 t252 [.int .i64 t252] (fun _ => True) (fun _ => False) rfl rfl ?aP (fun _ hk => hk.elim) ?aF ?aO ?aB ?aS ?aL ?_
     (case aP => exact rfl)
     (case aB => exact (by repeat ((with_reducible first | exact HB.out | apply pw_below_drewN))))
     (case aF => exact (fun _ _ => trivial))
     (case aO => exact (by (with_reducible repeat (apply Kd.R_drewN)); exact HO_251001.out))
     (case aS => exact (below_size (by repeat ((with_reducible first | exact HB.out | apply pw_below_drewN)))))
     (case aL => have := LMc16.out; omega)
     intro v254 w18 ho hb hg hat
     rw [← Ny253.out] at ho
     have n0_ := Aside0.mk (blk_grown (g := gb248) (o := .cells #[.slice A0_0 l0_0.length c0_0] 33 (0, 0)) (by (with_reducible repeat (refine blk_drewN ?_ _)); exact BK248.out) hg (Kd.R_ne HO_251001.out BK248.out (by decide)))
     have n1_ := Aside0.mk (blk_grown (g := gb249) (o := .cells #[.int .i64 0, .slice none 0 0] 30 (0, 0)) (by (with_reducible repeat (refine blk_drewN ?_ _)); exact BK249.out) hg (Kd.R_ne HO_251001.out BK249.out (by decide)))
     have n2_ := Aside0.mk (blk_grown (g := gb250) (o := .cells #[.int .i64 a1, u251001] 30 (0, 0)) (by (with_reducible repeat (refine blk_drewN ?_ _)); exact BK250.out) hg (Kd.R_ne HO_251001.out BK250.out (by decide)))
     have n3_ := Aside0.mk (hb)
     have n4_ := Aside0.mk (ho)
     clear BK248
     clear BK249
     clear BK250
     clear HB
     clear HO_251001
     have BK248 := n0_
     have BK249 := n1_
     have BK250 := n2_
     have HB := n3_
     have HO255 := n4_
     clear n0_ n1_ n2_ n3_ n4_
     clear ho hb hg hat
     obtain ⟨Ao19, co19, eo19⟩ := Kd.R_slice HO255.out
     (subst eo19)
     refine hK.out _ _ ⟨(blk_cell BK250.out 0).trans rfl, (blk_cell BK250.out 1).trans rfl⟩ (fun hHeld => ?_)
     clear hK K
     refine norm_ (a' := ?_) ?_ ?_
     rotate_left
     ·show Act.put _ (some 22) _ = _
      simp only [Act.put, List.setIfInBounds_toArray, List.set_cons_zero, List.set_cons_succ, i64_w, i32_w]
      rfl
     refine pure_ (i := 7) (N := some 23) (v := ?_) (a' := ?_) #[true,true,true,true,true,true,true,true,false] rfl rfl (any_of HT_.out (by kernel_rfl)) (fun _ _ _ h => h) (Or.inl ⟨by rfl, ?_⟩) ?_ ?_
     rotate_left
     ·intro w'
      go_simp
      with_reducible rfl
     rotate_left
     ·simp only [Act.put, List.setIfInBounds_toArray, List.set_cons_zero, List.set_cons_succ, i64_w, i32_w]
      rfl
     refine last_ (i := 8) (N := none) #[true,true,true,true,true,true,true,true,true] rfl rfl (one_of HT_.out (by kernel_rfl)) (by decide) (fun K hK => ?_)
     have hs20 : w18.cell? ⟨gb250, 1, none⟩ = some (u251001) := (blk_cell BK250.out 1).trans rfl
     have hfs20 := blk_frozen BK250.out 1
     have hns20_0 := NB248_250.out
     have hns20_1 := NB249_250.out
     have hms20_0 := NB250_248.out
     have hms20_1 := NB250_249.out
     refine skip_ (w1 := ?_) (by rfl) rfl ?_ ?_
     rotate_left
     ·go_simp
      rfl
     refine hK.out _ _ ?_
     clear hK K
     refine done_ (done_of HT_.out (by kernel_rfl)) ?_
     go_wp2
     go_roundg k1
     case measure => have := HK1.out; omega
     case rel => exact ⟨(wrap64 (x13_1 + 1)), (y253), (.slice Ao19 y253.length co19), (by rfl), H', ⟨by have := HK1.out; omega⟩, ⟨by exact Kd.R_mono (Kd.R_far (p := ⟨gb250, 1, none⟩) (Kd.R_types HO255.out BK250.out (by decide)) (fun _ hk => hk.2) (.slice Ao19 y253.length co19)) (fun _ hk => trivial)⟩, ⟨by refine blk_far ?_ NB248_250.out _; exact BK248.out⟩, ⟨by refine blk_far ?_ NB249_250.out _; exact BK249.out⟩, ⟨by refine blk_put (cs := #[.int .i64 a1, u251001]) ?_ 1 _ rfl; exact BK250.out⟩, ⟨by repeat ((with_reducible first | exact HB.out | refine below_set ?_ GE250.out))⟩⟩
    ·rw [if_neg c16] at H
     exact absurd H (by simp)
   ·rw [if_neg c14] at H
    have c14b0 : decide (x13_1 < t251) = false := decide_eq_false c14
    clear c14
    simp only [Option.some.injEq, Prod.mk.injEq] at H
    obtain ⟨rfl, rfl⟩ := H
    have hnb21 := NB250_248.out
    have hnc21 := NB248_250.out
    have hnb22 := NB250_249.out
    have hnc22 := NB249_250.out
    have hcz23_0 := bc0 BK250.out
    have hcz23_1 := bc1 BK250.out
    have hfz23_0 := blk_frozen BK250.out 0
    have hfz23_1 := blk_frozen BK250.out 1
    have hnb24 := NB249_248.out
    have hnc24 := NB248_249.out
    have hcz25_0 := bc0 BK249.out
    have hcz25_1 := bc1 BK249.out
    have hfz25_0 := blk_frozen BK249.out 0
    have hfz25_1 := blk_frozen BK249.out 1
    obtain ⟨Ao26, co26, eo26⟩ := Kd.R_slice HO_251001.out
    subst eo26
    go_wp2
    refine bodyPost_ret (results_cell_row rfl _ _ gb249 30 #[.int .i64 a1, .slice Ao26 x251001_1.length co26] (0, 0) _ rfl (by refine blk_put (cs := #[.int .i64 a1, .slice none 0 0]) ?_ 1 _ rfl; refine blk_put (cs := #[.int .i64 0, .slice none 0 0]) ?_ 0 _ rfl; exact BK249.out) Try.underlying30 rfl (by kernel_rfl)) rfl ?_
    exact ⟨_, by rfl, by exact Kd.R_mono (Kd.R_far (p := ⟨gb249, 1, none⟩) (Kd.R_far (p := ⟨gb249, 0, none⟩) (Kd.R_types HO_251001.out BK249.out (by decide)) (fun _ hk => hk.2) (.int .i64 a1)) (fun _ hk => hk.2) (.slice Ao26 x251001_1.length co26)) (fun _ hk => trivial), by repeat ((with_reducible first | exact HB.out | refine below_set ?_ GE249.out))⟩

/-! ### impl_reduced: function 77 -/
def impl_reduced.f (k : Nat) (l0_0 : List (List Int)) (a1_0 : Int) (l1_1 : List Int) (a2 : Int) : Option (Int × List Int) := (impl_unitsOf_at123.f k l0_0 a2 ([(⟨a1_0, l1_1⟩ : S30)] : List (S30)) ([a2] : List Int)).bind fun bt260 => (some (bt260.1, bt260.2))
theorem impl_reduced.mono : ∀ a0 a1 a2 a3 k, LeO (impl_reduced.f k a0 a1 a2 a3) (impl_reduced.f (k + 1) a0 a1 a2 a3) := by
 intro a0 a1 a2 a3 k
 unfold impl_reduced.f
 repeat' first
   | (with_reducible exact impl_unitsOf_at123.mono _ _ _ _ _)
   | (with_reducible exact LeO.refl _)
   | (with_reducible refine LeO.bind ?_ (fun _ => ?_))
set_option maxHeartbeats 8000000 in
set_option maxRecDepth 100000 in
theorem impl_reduced.calls (k : Nat) (A0_0 : Option Addr) (c0_0 : Nat) (l0_0 : List (List Int)) (a1_0 : Int) (A1_1 : Option Addr) (c1_1 : Nat) (l1_1 : List Int) (a2 : Int) (r1 : Int) (r2 : List Int) (w : World) (hr0_0 : Kd.C (Kd.slice 2 (Kd.int .i64)) w A0_0 l0_0.length l0_0) (hc0_0 : l0_0.length ≤ c0_0) (hr1_1 : Kd.C (Kd.int .i64) w A1_1 l1_1.length l1_1) (hc1_1 : l1_1.length ≤ c1_1) (h : impl_reduced.f k l0_0 a1_0 l1_1 a2 = some (r1, r2)) :
  Calls Try.prog 77 #[.agg #[.slice A0_0 l0_0.length c0_0], .agg #[.int .i64 a1_0, .slice A1_1 l1_1.length c1_1], .int .i64 a2] w fun e w' => ∃ v1_ : Value, e = .returned (.agg #[.int .i64 r1, v1_]) ∧ Kd.R (Kd.int .i64) 2 w' w.heap.size (fun _ => True) v1_ r2 ∧ Below w.heap.size w w' := by
 have hu33 := Try.underlying33
 have hu30 := Try.underlying30
 have hu2 := Try.underlying2
 have HR0_0 := Aside0.mk hr0_0
 have HC0_0 := Aside0.mk hc0_0
 clear hr0_0 hc0_0
 have HR1_1 := Aside0.mk hr1_1
 have HC1_1 := Aside0.mk hc1_1
 clear hr1_1 hc1_1
 have HB := Aside0.mk (Below.refl w.heap.size w)
 have H : ((impl_unitsOf_at123.f k l0_0 a2 ([(⟨a1_0, l1_1⟩ : S30)] : List (S30)) ([a2] : List Int)).bind fun bt260 => (some (bt260.1, bt260.2))) = some (r1, r2) := h
 clear h
 replace H := Option.bind_eq_some_iff.mp H
 obtain ⟨⟨t260, t261⟩, A40, H⟩ := H
 replace H : (some (t260, t261)) = some (r1, r2) := H
 have A4 := Aside0.mk A40
 clear A40
 simp only [Option.some.injEq, Prod.mk.injEq] at H
 obtain ⟨rfl, rfl⟩ := H
 go_enter Try.func77, Try.ntmps77
 go_wp2_with (first | ((with_reducible refine gate_dst (N := 3) rfl ?_); refine box_event ?hg (N := 3) ?hd (cs := #[.slice A0_0 l0_0.length c0_0]) (t := 33) ?hr ?_; (case hd => rfl); (case hg => rfl); (case hr => (go_simp; done)); intro gb256 hg w5 hbox hb; have BK256 := Aside0.mk (hbox); have GW256 := Aside0.mk (geg hg (below_size HB.out)); have GE256 := Aside0.mk (geg hg (below_size HB.out)); replace HB := Aside0.mk (below_step HB.out hb); clear hb hbox hg) | ((with_reducible refine gate_dst (N := 4) rfl ?_); refine box_event ?hg (N := 4) ?hd (cs := #[.int .i64 a1_0, .slice A1_1 l1_1.length c1_1]) (t := 30) ?hr ?_; (case hd => rfl); (case hg => rfl); (case hr => (go_simp; done)); intro gb257 hg w6 hbox hb; have BK257 := Aside0.mk (hbox); have GW257 := Aside0.mk (geg hg (below_size HB.out)); have GE257 := Aside0.mk (geg hg (below_size HB.out)); replace HB := Aside0.mk (below_step HB.out hb); have NB256_257 := Aside0.mk ((by rw [hg]; exact Nat.ne_of_lt (blk_lt BK256.out) : gb256 ≠ gb257)); have NB257_256 := Aside0.mk ((by rw [hg]; exact Nat.ne_of_gt (blk_lt BK256.out) : gb257 ≠ gb256)); replace BK256 := Aside0.mk (blk_below BK256.out hb); clear hb hbox hg) | ((with_reducible refine gate_dst (N := 5) rfl ?_); refine box_event ?hg (N := 5) ?hd (cs := #[.int .i64 a2]) (t := 2) ?hr ?_; (case hd => rfl); (case hg => rfl); (case hr => (go_simp; done)); intro gb258 hg w7 hbox hb; have BK258 := Aside0.mk (hbox); have GW258 := Aside0.mk (geg hg (below_size HB.out)); have GE258 := Aside0.mk (geg hg (below_size HB.out)); replace HB := Aside0.mk (below_step HB.out hb); have NB256_258 := Aside0.mk ((by rw [hg]; exact Nat.ne_of_lt (blk_lt BK256.out) : gb256 ≠ gb258)); have NB258_256 := Aside0.mk ((by rw [hg]; exact Nat.ne_of_gt (blk_lt BK256.out) : gb258 ≠ gb256)); replace BK256 := Aside0.mk (blk_below BK256.out hb); have NB257_258 := Aside0.mk ((by rw [hg]; exact Nat.ne_of_lt (blk_lt BK257.out) : gb257 ≠ gb258)); have NB258_257 := Aside0.mk ((by rw [hg]; exact Nat.ne_of_gt (blk_lt BK257.out) : gb258 ≠ gb257)); replace BK257 := Aside0.mk (blk_below BK257.out hb); clear hb hbox hg) | ((with_reducible refine gate_dst (N := 6) rfl ?_); refine box_event ?hg (N := 6) ?hd (cs := #[.int .i64 0, .slice none 0 0]) (t := 30) ?hr ?_; (case hd => rfl); (case hg => rfl); (case hr => (go_simp; done)); intro gb259 hg w8 hbox hb; have BK259 := Aside0.mk (hbox); have GW259 := Aside0.mk (geg hg (below_size HB.out)); have GE259 := Aside0.mk (geg hg (below_size HB.out)); replace HB := Aside0.mk (below_step HB.out hb); have NB256_259 := Aside0.mk ((by rw [hg]; exact Nat.ne_of_lt (blk_lt BK256.out) : gb256 ≠ gb259)); have NB259_256 := Aside0.mk ((by rw [hg]; exact Nat.ne_of_gt (blk_lt BK256.out) : gb259 ≠ gb256)); replace BK256 := Aside0.mk (blk_below BK256.out hb); have NB257_259 := Aside0.mk ((by rw [hg]; exact Nat.ne_of_lt (blk_lt BK257.out) : gb257 ≠ gb259)); have NB259_257 := Aside0.mk ((by rw [hg]; exact Nat.ne_of_gt (blk_lt BK257.out) : gb259 ≠ gb257)); replace BK257 := Aside0.mk (blk_below BK257.out hb); have NB258_259 := Aside0.mk ((by rw [hg]; exact Nat.ne_of_lt (blk_lt BK258.out) : gb258 ≠ gb259)); have NB259_258 := Aside0.mk ((by rw [hg]; exact Nat.ne_of_gt (blk_lt BK258.out) : gb259 ≠ gb258)); replace BK258 := Aside0.mk (blk_below BK258.out hb); clear hb hbox hg; have hnb9 := NB256_257.out; have hnc9 := NB257_256.out; have hnb10 := NB256_258.out; have hnc10 := NB258_256.out; have hnb11 := NB256_259.out; have hnc11 := NB259_256.out; have hcz12_0 := bc0 BK256.out; have hfz12_0 := blk_frozen BK256.out 0; have hnb13 := NB258_257.out; have hnc13 := NB257_258.out; have hnb14 := NB258_259.out; have hnc14 := NB259_258.out; have hcz15_0 := bc0 BK258.out; have hfz15_0 := blk_frozen BK258.out 0) | ((with_reducible refine gate_callee (f := 122) rfl ?_); refine goesL_ (some 10) rfl rfl Try.func122 (by kernel_rfl) rfl #[.agg #[.slice A0_0 l0_0.length c0_0], .int .i64 a2, .func (.func 123) #[] #[.pointer (some ⟨gb257, 0, none⟩), .pointer (some ⟨gb258, 0, none⟩)]] rfl (by (simp only [List.map_toArray, List.map_cons, List.map_nil]); rfl) ?_; (refine (impl_unitsOf_at123.calls k _ _ l0_0 a2 _ ([(⟨a1_0, l1_1⟩ : S30)] : List (S30)) _ ([a2] : List Int) t260 t261 _ ?side1 ?side2 ?side3 ?side4 A4.out).mono ?_); (case side1 => exact (Kd.C_below HR0_0.out HB.out)); (case side2 => exact HC0_0.out); (case side3 => exact Go.Proofs.YtkpcogaahgfmcaaX.cap_one (cs := #[.int .i64 a1_0, .slice A1_1 l1_1.length c1_1]) (T := 30) BK257.out (k30_mk _ _ HC1_1.out (Kd.C_below HR1_1.out HB.out))); (case side4 => exact Go.Proofs.YtkpcogaahgfmcaaX.cap_one (cs := #[.int .i64 a2]) (T := 2) BK258.out (rfl)); rintro e w16 ⟨v262, rfl, ho0, hb⟩; refine ⟨_, rfl, ?_⟩; have HO263 := Aside0.mk (Kd.R_lower (Kd.R_newB ho0 (g := gb258) (o := .cells #[.int .i64 a2] 2 (0, 0)) BK258.out) (below_size HB.out)); replace BK256 := Aside0.mk (blk_below BK256.out hb); replace BK257 := Aside0.mk (blk_below BK257.out hb); replace BK258 := Aside0.mk (blk_below BK258.out hb); replace BK259 := Aside0.mk (blk_below BK259.out hb); replace HB := Aside0.mk (below_step HB.out hb); clear hb ho0; have hnb17 := NB259_257.out; have hnc17 := NB257_259.out; have hcz18_0 := bc0 BK259.out; have hcz18_1 := bc1 BK259.out; have hfz18_0 := blk_frozen BK259.out 0; have hfz18_1 := blk_frozen BK259.out 1; obtain ⟨Ao19, co19, eo19⟩ := Kd.R_slice HO263.out; subst eo19))
 refine bodyPost_ret (results_cell_row rfl _ _ gb259 30 #[.int .i64 t260, .slice Ao19 t261.length co19] (0, 0) _ rfl (by refine blk_put (cs := #[.int .i64 t260, .slice none 0 0]) ?_ 1 _ rfl; refine blk_put (cs := #[.int .i64 0, .slice none 0 0]) ?_ 0 _ rfl; exact BK259.out) Try.underlying30 rfl (by kernel_rfl)) rfl ?_
 exact ⟨_, by rfl, by exact Kd.R_mono (Kd.R_far (p := ⟨gb259, 1, none⟩) (Kd.R_far (p := ⟨gb259, 0, none⟩) (Kd.R_types HO263.out BK259.out (by decide)) (fun _ hk => hk.2) (.int .i64 t260)) (fun _ hk => hk.2) (.slice Ao19 t261.length co19)) (fun _ hk => trivial), by repeat ((with_reducible first | exact HB.out | refine below_set ?_ GE259.out))⟩

/-! ### impl_InnerModule: function 20 -/
def impl_InnerModule.f (k : Nat) (l0_0 : List (List Int)) (a1_0 : Int) (l1_1 : List Int) (a2 : Int) : Option (Int × List Int × Int) := (impl_divisorCode.f k l0_0 a1_0 l1_1 a2).bind fun t267 => (if t267 = 0 then ((impl_reduced.f k l0_0 a1_0 l1_1 a2).bind fun bt268 => (some (bt268.1, bt268.2, 0))) else (some (0, ([] : List Int), t267)))
theorem impl_InnerModule.mono : ∀ a0 a1 a2 a3 k, LeO (impl_InnerModule.f k a0 a1 a2 a3) (impl_InnerModule.f (k + 1) a0 a1 a2 a3) := by
 intro a0 a1 a2 a3 k
 unfold impl_InnerModule.f
 repeat' first
   | (with_reducible exact impl_divisorCode.mono _ _ _ _ _)
   | (with_reducible exact impl_reduced.mono _ _ _ _ _)
   | (with_reducible exact LeO.refl _)
   | (with_reducible refine LeO.ite ?_ ?_)
   | (with_reducible refine LeO.bind ?_ (fun _ => ?_))
set_option maxHeartbeats 8000000 in
set_option maxRecDepth 100000 in
theorem impl_InnerModule.calls (k : Nat) (A0_0 : Option Addr) (c0_0 : Nat) (l0_0 : List (List Int)) (a1_0 : Int) (A1_1 : Option Addr) (c1_1 : Nat) (l1_1 : List Int) (a2 : Int) (r1 : Int) (r2 : List Int) (r3 : Int) (w : World) (hr0_0 : Kd.C (Kd.slice 2 (Kd.int .i64)) w A0_0 l0_0.length l0_0) (hc0_0 : l0_0.length ≤ c0_0) (hr1_1 : Kd.C (Kd.int .i64) w A1_1 l1_1.length l1_1) (hc1_1 : l1_1.length ≤ c1_1) (h : impl_InnerModule.f k l0_0 a1_0 l1_1 a2 = some (r1, r2, r3)) :
  Calls Try.prog 20 #[.agg #[.slice A0_0 l0_0.length c0_0], .agg #[.int .i64 a1_0, .slice A1_1 l1_1.length c1_1], .int .i64 a2] w fun e w' => ∃ v1_ : Value, e = .returned (.tuple #[.agg #[.int .i64 r1, v1_], .int .i64 r3]) ∧ Kd.R (Kd.int .i64) 2 w' w.heap.size (fun _ => True) v1_ r2 ∧ Below w.heap.size w w' := by
 have hu33 := Try.underlying33
 have hu30 := Try.underlying30
 have HR0_0 := Aside0.mk hr0_0
 have HC0_0 := Aside0.mk hc0_0
 clear hr0_0 hc0_0
 have HR1_1 := Aside0.mk hr1_1
 have HC1_1 := Aside0.mk hc1_1
 clear hr1_1 hc1_1
 have HB := Aside0.mk (Below.refl w.heap.size w)
 have H : ((impl_divisorCode.f k l0_0 a1_0 l1_1 a2).bind fun t267 => (if t267 = 0 then ((impl_reduced.f k l0_0 a1_0 l1_1 a2).bind fun bt268 => (some (bt268.1, bt268.2, 0))) else (some (0, ([] : List Int), t267)))) = some (r1, r2, r3) := h
 clear h
 replace H := Option.bind_eq_some_iff.mp H
 obtain ⟨t267, A40, H⟩ := H
 replace H : (if t267 = 0 then ((impl_reduced.f k l0_0 a1_0 l1_1 a2).bind fun bt268 => (some (bt268.1, bt268.2, 0))) else (some (0, ([] : List Int), t267))) = some (r1, r2, r3) := H
 have A4 := Aside0.mk A40
 clear A40
 by_cases c5 : t267 = 0
 ·rw [if_pos c5] at H
  have c5b0 : (t267 == 0) = true := beq_iff_eq.mpr c5
  have c5b1 : (t267 != 0) = false := bne_eq_false_iff_eq.mpr c5
  clear c5
  replace H := Option.bind_eq_some_iff.mp H
  obtain ⟨⟨t268, t269⟩, A60, H⟩ := H
  replace H : (some (t268, t269, 0)) = some (r1, r2, r3) := H
  have A6 := Aside0.mk A60
  clear A60
  simp only [Option.some.injEq, Prod.mk.injEq] at H
  obtain ⟨rfl, rfl, rfl⟩ := H
  go_enter Try.func20, Try.ntmps20
  go_wp2_with (first | ((with_reducible refine gate_dst (N := 3) rfl ?_); refine box_event ?hg (N := 3) ?hd (cs := #[.slice A0_0 l0_0.length c0_0]) (t := 33) ?hr ?_; (case hd => rfl); (case hg => rfl); (case hr => (go_simp; done)); intro gb264 hg w7 hbox hb; have BK264 := Aside0.mk (hbox); have GW264 := Aside0.mk (geg hg (below_size HB.out)); have GE264 := Aside0.mk (geg hg (below_size HB.out)); replace HB := Aside0.mk (below_step HB.out hb); clear hb hbox hg) | ((with_reducible refine gate_dst (N := 4) rfl ?_); refine box_event ?hg (N := 4) ?hd (cs := #[.int .i64 a1_0, .slice A1_1 l1_1.length c1_1]) (t := 30) ?hr ?_; (case hd => rfl); (case hg => rfl); (case hr => (go_simp; done)); intro gb265 hg w8 hbox hb; have BK265 := Aside0.mk (hbox); have GW265 := Aside0.mk (geg hg (below_size HB.out)); have GE265 := Aside0.mk (geg hg (below_size HB.out)); replace HB := Aside0.mk (below_step HB.out hb); have NB264_265 := Aside0.mk ((by rw [hg]; exact Nat.ne_of_lt (blk_lt BK264.out) : gb264 ≠ gb265)); have NB265_264 := Aside0.mk ((by rw [hg]; exact Nat.ne_of_gt (blk_lt BK264.out) : gb265 ≠ gb264)); replace BK264 := Aside0.mk (blk_below BK264.out hb); clear hb hbox hg) | ((with_reducible refine gate_dst (N := 6) rfl ?_); refine box_event ?hg (N := 6) ?hd (cs := #[.int .i64 0, .slice none 0 0]) (t := 30) ?hr ?_; (case hd => rfl); (case hg => rfl); (case hr => (go_simp; done)); intro gb266 hg w9 hbox hb; have BK266 := Aside0.mk (hbox); have GW266 := Aside0.mk (geg hg (below_size HB.out)); have GE266 := Aside0.mk (geg hg (below_size HB.out)); replace HB := Aside0.mk (below_step HB.out hb); have NB264_266 := Aside0.mk ((by rw [hg]; exact Nat.ne_of_lt (blk_lt BK264.out) : gb264 ≠ gb266)); have NB266_264 := Aside0.mk ((by rw [hg]; exact Nat.ne_of_gt (blk_lt BK264.out) : gb266 ≠ gb264)); replace BK264 := Aside0.mk (blk_below BK264.out hb); have NB265_266 := Aside0.mk ((by rw [hg]; exact Nat.ne_of_lt (blk_lt BK265.out) : gb265 ≠ gb266)); have NB266_265 := Aside0.mk ((by rw [hg]; exact Nat.ne_of_gt (blk_lt BK265.out) : gb266 ≠ gb265)); replace BK265 := Aside0.mk (blk_below BK265.out hb); clear hb hbox hg; have hnb10 := NB264_265.out; have hnc10 := NB265_264.out; have hnb11 := NB264_266.out; have hnc11 := NB266_264.out; have hcz12_0 := bc0 BK264.out; have hfz12_0 := blk_frozen BK264.out 0; have hnb13 := NB265_266.out; have hnc13 := NB266_265.out; have hcz14_0 := bc0 BK265.out; have hcz14_1 := bc1 BK265.out; have hfz14_0 := blk_frozen BK265.out 0; have hfz14_1 := blk_frozen BK265.out 1) | ((with_reducible refine gate_callee (f := 76) rfl ?_); refine goesL_ (some 12) rfl rfl Try.func76 (by kernel_rfl) rfl #[.agg #[.slice A0_0 l0_0.length c0_0], .agg #[.int .i64 a1_0, .slice A1_1 l1_1.length c1_1], .int .i64 a2] rfl (by (simp only [List.map_toArray, List.map_cons, List.map_nil]); rfl) ?_; (with_reducible refine (impl_divisorCode.calls k _ _ l0_0 a1_0 (fun k_ => k_ < w.heap.size) _ _ l1_1 a2 t267 _ ?side1 ?side2 ?side3 A4.out).mono ?_); (case side1 => exact (Kd.C_below HR0_0.out HB.out)); (case side2 => exact HC0_0.out); (case side3 => exact Kd.V_mk HC1_1.out (Kd.F_below (Kd.C_F (Kd.heap_int .i64) HR1_1.out) HB.out)); rintro e w15 ⟨rfl, hb⟩; refine ⟨_, rfl, ?_⟩; replace BK264 := Aside0.mk (blk_below BK264.out hb); replace BK265 := Aside0.mk (blk_below BK265.out hb); replace BK266 := Aside0.mk (blk_below BK266.out hb); replace HB := Aside0.mk (below_step HB.out hb); clear hb; have hcz16_0 := bc0 BK264.out; have hfz16_0 := blk_frozen BK264.out 0; have hcz17_0 := bc0 BK265.out; have hcz17_1 := bc1 BK265.out; have hfz17_0 := blk_frozen BK265.out 0; have hfz17_1 := blk_frozen BK265.out 1) | ((with_reducible refine gate_callee (f := 77) rfl ?_); refine goesL_ (some 20) rfl rfl Try.func77 (by kernel_rfl) rfl #[.agg #[.slice A0_0 l0_0.length c0_0], .agg #[.int .i64 a1_0, .slice A1_1 l1_1.length c1_1], .int .i64 a2] rfl (by (simp only [List.map_toArray, List.map_cons, List.map_nil]); rfl) ?_; (with_reducible refine (impl_reduced.calls k _ _ l0_0 a1_0 _ _ l1_1 a2 t268 t269 _ ?side1 ?side2 ?side3 ?side4 A6.out).mono ?_); (case side1 => exact (Kd.C_below HR0_0.out HB.out)); (case side2 => exact HC0_0.out); (case side3 => exact (Kd.C_below HR1_1.out HB.out)); (case side4 => exact HC1_1.out); rintro e w18 ⟨v270, rfl, ho0, hb⟩; refine ⟨_, rfl, ?_⟩; have HO271 := Aside0.mk (Kd.R_lower ho0 (below_size HB.out)); replace BK264 := Aside0.mk (blk_below BK264.out hb); replace BK265 := Aside0.mk (blk_below BK265.out hb); replace BK266 := Aside0.mk (blk_below BK266.out hb); replace HB := Aside0.mk (below_step HB.out hb); clear hb ho0; have hcz19_0 := bc0 BK266.out; have hcz19_1 := bc1 BK266.out; have hfz19_0 := blk_frozen BK266.out 0; have hfz19_1 := blk_frozen BK266.out 1; obtain ⟨Ao20, co20, eo20⟩ := Kd.R_slice HO271.out; subst eo20))
  refine bodyPost_ret (results_ct rfl _ _ gb266 30 #[.int .i64 t268, .slice Ao20 t269.length co20] (0, 0) _ rfl (by refine blk_put (cs := #[.int .i64 t268, .slice none 0 0]) ?_ 1 _ rfl; refine blk_put (cs := #[.int .i64 0, .slice none 0 0]) ?_ 0 _ rfl; exact BK266.out) Try.underlying30 rfl (by kernel_rfl)) rfl ?_
  exact ⟨_, by rfl, by exact Kd.R_mono (Kd.R_far (p := ⟨gb266, 1, none⟩) (Kd.R_far (p := ⟨gb266, 0, none⟩) (Kd.R_types HO271.out BK266.out (by decide)) (fun _ hk => hk.2) (.int .i64 t268)) (fun _ hk => hk.2) (.slice Ao20 t269.length co20)) (fun _ hk => trivial), by repeat ((with_reducible first | exact HB.out | refine below_set ?_ GE266.out))⟩
 ·rw [if_neg c5] at H
  have c5b0 : (t267 == 0) = false := beq_eq_false_iff_ne.mpr c5
  have c5b1 : (t267 != 0) = true := bne_iff_ne.mpr c5
  simp only [Option.some.injEq, Prod.mk.injEq] at H
  obtain ⟨rfl, rfl, rfl⟩ := H
  go_enter Try.func20, Try.ntmps20
  go_wp2_with (first | ((with_reducible refine gate_dst (N := 3) rfl ?_); refine box_event ?hg (N := 3) ?hd (cs := #[.slice A0_0 l0_0.length c0_0]) (t := 33) ?hr ?_; (case hd => rfl); (case hg => rfl); (case hr => (go_simp; done)); intro gb264 hg w21 hbox hb; have BK264 := Aside0.mk (hbox); have GW264 := Aside0.mk (geg hg (below_size HB.out)); have GE264 := Aside0.mk (geg hg (below_size HB.out)); replace HB := Aside0.mk (below_step HB.out hb); clear hb hbox hg) | ((with_reducible refine gate_dst (N := 4) rfl ?_); refine box_event ?hg (N := 4) ?hd (cs := #[.int .i64 a1_0, .slice A1_1 l1_1.length c1_1]) (t := 30) ?hr ?_; (case hd => rfl); (case hg => rfl); (case hr => (go_simp; done)); intro gb265 hg w22 hbox hb; have BK265 := Aside0.mk (hbox); have GW265 := Aside0.mk (geg hg (below_size HB.out)); have GE265 := Aside0.mk (geg hg (below_size HB.out)); replace HB := Aside0.mk (below_step HB.out hb); have NB264_265 := Aside0.mk ((by rw [hg]; exact Nat.ne_of_lt (blk_lt BK264.out) : gb264 ≠ gb265)); have NB265_264 := Aside0.mk ((by rw [hg]; exact Nat.ne_of_gt (blk_lt BK264.out) : gb265 ≠ gb264)); replace BK264 := Aside0.mk (blk_below BK264.out hb); clear hb hbox hg) | ((with_reducible refine gate_dst (N := 6) rfl ?_); refine box_event ?hg (N := 6) ?hd (cs := #[.int .i64 0, .slice none 0 0]) (t := 30) ?hr ?_; (case hd => rfl); (case hg => rfl); (case hr => (go_simp; done)); intro gb266 hg w23 hbox hb; have BK266 := Aside0.mk (hbox); have GW266 := Aside0.mk (geg hg (below_size HB.out)); have GE266 := Aside0.mk (geg hg (below_size HB.out)); replace HB := Aside0.mk (below_step HB.out hb); have NB264_266 := Aside0.mk ((by rw [hg]; exact Nat.ne_of_lt (blk_lt BK264.out) : gb264 ≠ gb266)); have NB266_264 := Aside0.mk ((by rw [hg]; exact Nat.ne_of_gt (blk_lt BK264.out) : gb266 ≠ gb264)); replace BK264 := Aside0.mk (blk_below BK264.out hb); have NB265_266 := Aside0.mk ((by rw [hg]; exact Nat.ne_of_lt (blk_lt BK265.out) : gb265 ≠ gb266)); have NB266_265 := Aside0.mk ((by rw [hg]; exact Nat.ne_of_gt (blk_lt BK265.out) : gb266 ≠ gb265)); replace BK265 := Aside0.mk (blk_below BK265.out hb); clear hb hbox hg; have hnb24 := NB264_265.out; have hnc24 := NB265_264.out; have hnb25 := NB264_266.out; have hnc25 := NB266_264.out; have hcz26_0 := bc0 BK264.out; have hfz26_0 := blk_frozen BK264.out 0; have hnb27 := NB265_266.out; have hnc27 := NB266_265.out; have hcz28_0 := bc0 BK265.out; have hcz28_1 := bc1 BK265.out; have hfz28_0 := blk_frozen BK265.out 0; have hfz28_1 := blk_frozen BK265.out 1) | ((with_reducible refine gate_callee (f := 76) rfl ?_); refine goesL_ (some 12) rfl rfl Try.func76 (by kernel_rfl) rfl #[.agg #[.slice A0_0 l0_0.length c0_0], .agg #[.int .i64 a1_0, .slice A1_1 l1_1.length c1_1], .int .i64 a2] rfl (by (simp only [List.map_toArray, List.map_cons, List.map_nil]); rfl) ?_; (with_reducible refine (impl_divisorCode.calls k _ _ l0_0 a1_0 (fun k_ => k_ < w.heap.size) _ _ l1_1 a2 t267 _ ?side1 ?side2 ?side3 A4.out).mono ?_); (case side1 => exact (Kd.C_below HR0_0.out HB.out)); (case side2 => exact HC0_0.out); (case side3 => exact Kd.V_mk HC1_1.out (Kd.F_below (Kd.C_F (Kd.heap_int .i64) HR1_1.out) HB.out)); rintro e w29 ⟨rfl, hb⟩; refine ⟨_, rfl, ?_⟩; replace BK264 := Aside0.mk (blk_below BK264.out hb); replace BK265 := Aside0.mk (blk_below BK265.out hb); replace BK266 := Aside0.mk (blk_below BK266.out hb); replace HB := Aside0.mk (below_step HB.out hb); clear hb; have hcz30_0 := bc0 BK266.out; have hcz30_1 := bc1 BK266.out; have hfz30_0 := blk_frozen BK266.out 0; have hfz30_1 := blk_frozen BK266.out 1))
  refine bodyPost_ret (results_ct rfl _ _ gb266 30 #[.int .i64 0, .slice none 0 0] (0, 0) _ rfl (by refine blk_put (cs := #[.int .i64 0, .slice none 0 0]) ?_ 1 _ rfl; refine blk_put (cs := #[.int .i64 0, .slice none 0 0]) ?_ 0 _ rfl; exact BK266.out) Try.underlying30 rfl (by kernel_rfl)) rfl ?_
  exact ⟨_, by rfl, by exact Kd.R_nil _ _ _ _ _, by repeat ((with_reducible first | exact HB.out | refine below_set ?_ GE266.out))⟩

end Go.Proofs.Ytkpcogaahgfmcaa.PFnExactInnerModule
