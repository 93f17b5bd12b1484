-- Made by a program of this session (wip/tools: the patched printer), for this claim.
import Derived.Test.YtkpcogaahgfmcaaXSqZ
import Derived.Test.YtkpcogaahgfmcaaPFnExactIsDeskx0Z
import Derived.Test.YtkpcogaahgfmcaaPFnExactIsDeskx1Z
import Derived.Test.YtkpcogaahgfmcaaPFnExactIsDeskx6Z
import Derived.Test.YtkpcogaahgfmcaaPFnExactIsDeskx7Z
import Derived.Test.YtkpcogaahgfmcaaPFnExactIsDeskx12Z
namespace Go.Proofs.Ytkpcogaahgfmcaa.PFnExactIsDesk
open Go.Proofs.YtkpcogaahgfmcaaX
open Go.RowKit Go.Proofs.YtkpcogaahgfmcaaW.PrintWords Go.Proofs.YtkpcogaahgfmcaaW.PrintLast Go.Proofs.YtkpcogaahgfmcaaW.PrintMore
attribute [local go_sem] max2_int min2_int max_two min_two max_three min_three max_four min_four   -- for this text's walks alone
set_option linter.unusedVariables false
set_option linter.unusedSimpArgs false

/-! ### laws_eqCochain: function 37 -/
def laws_eqCochain.f (k : Nat) (a0_0 : Int) (l0_1 : List Int) (a1_0 : Int) (l1_1 : List Int) : Option (Bool) := if a0_0 = a1_0 then ((laws_eqInt64S.f k l0_1 l1_1).bind fun t297 => (if t297 = true then (some true) else (some false))) else (some false)
theorem laws_eqCochain.mono : ∀ a0 a1 a2 a3 k, LeO (laws_eqCochain.f k a0 a1 a2 a3) (laws_eqCochain.f (k + 1) a0 a1 a2 a3) := by
 intro a0 a1 a2 a3 k
 unfold laws_eqCochain.f
 repeat' first
   | (with_reducible exact laws_eqInt64S.mono _ _ _)
   | (with_reducible exact LeO.refl _)
   | (with_reducible refine LeO.ite ?_ ?_)
   | (with_reducible refine LeO.bind ?_ (fun _ => ?_))
set_option maxHeartbeats 8000000 in
set_option maxRecDepth 100000 in
theorem laws_eqCochain.calls (k : Nat) (a0_0 : Int) (A0_1 : Option Addr) (c0_1 : Nat) (l0_1 : List Int) (a1_0 : Int) (A1_1 : Option Addr) (c1_1 : Nat) (l1_1 : List Int) (r : Bool) (w : World) (hr0_1 : Kd.C (Kd.int .i64) w A0_1 l0_1.length l0_1) (hc0_1 : l0_1.length ≤ c0_1) (hr1_1 : Kd.C (Kd.int .i64) w A1_1 l1_1.length l1_1) (hc1_1 : l1_1.length ≤ c1_1) (h : laws_eqCochain.f k a0_0 l0_1 a1_0 l1_1 = some r) :
  Calls Try.prog 37 #[.agg #[.int .i64 a0_0, .slice A0_1 l0_1.length c0_1], .agg #[.int .i64 a1_0, .slice A1_1 l1_1.length c1_1]] w fun e w' => e = .returned (.bool r) ∧ Below w.heap.size w w' := by
 have hu47 := Try.underlying47
 have hu2 := Try.underlying2
 have hu25 := Try.underlying25
 have HR0_1 := Aside0.mk hr0_1
 have HC0_1 := Aside0.mk hc0_1
 clear hr0_1 hc0_1
 have HR1_1 := Aside0.mk hr1_1
 have HC1_1 := Aside0.mk hc1_1
 clear hr1_1 hc1_1
 have HB := Aside0.mk (Below.refl w.heap.size w)
 have H : (if a0_0 = a1_0 then ((laws_eqInt64S.f k l0_1 l1_1).bind fun t297 => (if t297 = true then (some true) else (some false))) else (some false)) = some r := h
 clear h
 by_cases c3 : a0_0 = a1_0
 ·rw [if_pos c3] at H
  have c3b0 : (a0_0 == a1_0) = true := beq_iff_eq.mpr c3
  have c3b1 : (a0_0 != a1_0) = false := bne_eq_false_iff_eq.mpr c3
  clear c3
  replace H := Option.bind_eq_some_iff.mp H
  obtain ⟨t297, A40, H⟩ := H
  replace H : (if t297 = true then (some true) else (some false)) = some r := H
  have A4 := Aside0.mk A40
  clear A40
  by_cases c5 : t297 = true
  ·subst c5
   have H1 : (some true) = some r := by rw [if_pos rfl] at H; exact H
   clear H
   have H := H1
   clear H1
   obtain rfl := Option.some.inj H
   go_enter Try.func37, Try.ntmps37
   go_wp2_with (first | ((with_reducible refine gate_dst (N := 2) rfl ?_); refine box_event ?hg (N := 2) ?hd (cs := #[.int .i64 a0_0, .slice A0_1 l0_1.length c0_1]) (t := 47) ?hr ?_; (case hd => rfl); (case hg => rfl); (case hr => (go_simp; done)); intro gb295 hg w6 hbox hb; have BK295 := Aside0.mk (hbox); have GW295 := Aside0.mk (geg hg (below_size HB.out)); have GE295 := Aside0.mk (geg hg (below_size HB.out)); replace HB := Aside0.mk (below_step HB.out hb); clear hb hbox hg) | ((with_reducible refine gate_dst (N := 3) rfl ?_); refine box_event ?hg (N := 3) ?hd (cs := #[.int .i64 a1_0, .slice A1_1 l1_1.length c1_1]) (t := 47) ?hr ?_; (case hd => rfl); (case hg => rfl); (case hr => (go_simp; done)); intro gb296 hg w7 hbox hb; have BK296 := Aside0.mk (hbox); have GW296 := Aside0.mk (geg hg (below_size HB.out)); have GE296 := Aside0.mk (geg hg (below_size HB.out)); replace HB := Aside0.mk (below_step HB.out hb); have NB295_296 := Aside0.mk ((by rw [hg]; exact Nat.ne_of_lt (blk_lt BK295.out) : gb295 ≠ gb296)); have NB296_295 := Aside0.mk ((by rw [hg]; exact Nat.ne_of_gt (blk_lt BK295.out) : gb296 ≠ gb295)); replace BK295 := Aside0.mk (blk_below BK295.out hb); clear hb hbox hg; have hnb8 := NB295_296.out; have hnc8 := NB296_295.out; have hcz9_0 := bc0 BK295.out; have hcz9_1 := bc1 BK295.out; have hfz9_0 := blk_frozen BK295.out 0; have hfz9_1 := blk_frozen BK295.out 1; have hcz10_0 := bc0 BK296.out; have hcz10_1 := bc1 BK296.out; have hfz10_0 := blk_frozen BK296.out 0; have hfz10_1 := blk_frozen BK296.out 1) | ((with_reducible refine gate_callee (f := 65) rfl ?_); refine goesL_ (some 14) rfl rfl Try.func65 (by kernel_rfl) rfl #[.slice A0_1 l0_1.length c0_1, .slice A1_1 l1_1.length c1_1] rfl (by (simp only [List.map_toArray, List.map_cons, List.map_nil]); rfl) ?_; (with_reducible refine (laws_eqInt64S.calls k _ _ l0_1 _ _ l1_1 true _ ?side1 ?side2 ?side3 ?side4 A4.out).mono ?_); (case side1 => exact (Kd.C_below HR0_1.out HB.out)); (case side2 => exact HC0_1.out); (case side3 => exact (Kd.C_below HR1_1.out HB.out)); (case side4 => exact HC1_1.out); rintro e w' ⟨rfl, ⟨nd, rfl⟩⟩; refine ⟨_, rfl, ?_⟩))
   go_ret
   exact ⟨by rfl, by repeat ((with_reducible first | exact HB.out | apply pw_below_drewN))⟩
  ·replace c5 := Bool.eq_false_iff.mpr c5
   subst c5
   have H1 : (some false) = some r := by rw [if_neg (show ¬ (false = true) by decide)] at H; exact H
   clear H
   have H := H1
   clear H1
   obtain rfl := Option.some.inj H
   go_enter Try.func37, Try.ntmps37
   go_wp2_with (first | ((with_reducible refine gate_dst (N := 2) rfl ?_); refine box_event ?hg (N := 2) ?hd (cs := #[.int .i64 a0_0, .slice A0_1 l0_1.length c0_1]) (t := 47) ?hr ?_; (case hd => rfl); (case hg => rfl); (case hr => (go_simp; done)); intro gb295 hg w11 hbox hb; have BK295 := Aside0.mk (hbox); have GW295 := Aside0.mk (geg hg (below_size HB.out)); have GE295 := Aside0.mk (geg hg (below_size HB.out)); replace HB := Aside0.mk (below_step HB.out hb); clear hb hbox hg) | ((with_reducible refine gate_dst (N := 3) rfl ?_); refine box_event ?hg (N := 3) ?hd (cs := #[.int .i64 a1_0, .slice A1_1 l1_1.length c1_1]) (t := 47) ?hr ?_; (case hd => rfl); (case hg => rfl); (case hr => (go_simp; done)); intro gb296 hg w12 hbox hb; have BK296 := Aside0.mk (hbox); have GW296 := Aside0.mk (geg hg (below_size HB.out)); have GE296 := Aside0.mk (geg hg (below_size HB.out)); replace HB := Aside0.mk (below_step HB.out hb); have NB295_296 := Aside0.mk ((by rw [hg]; exact Nat.ne_of_lt (blk_lt BK295.out) : gb295 ≠ gb296)); have NB296_295 := Aside0.mk ((by rw [hg]; exact Nat.ne_of_gt (blk_lt BK295.out) : gb296 ≠ gb295)); replace BK295 := Aside0.mk (blk_below BK295.out hb); clear hb hbox hg; have hnb13 := NB295_296.out; have hnc13 := NB296_295.out; have hcz14_0 := bc0 BK295.out; have hcz14_1 := bc1 BK295.out; have hfz14_0 := blk_frozen BK295.out 0; have hfz14_1 := blk_frozen BK295.out 1; have hcz15_0 := bc0 BK296.out; have hcz15_1 := bc1 BK296.out; have hfz15_0 := blk_frozen BK296.out 0; have hfz15_1 := blk_frozen BK296.out 1) | ((with_reducible refine gate_callee (f := 65) rfl ?_); refine goesL_ (some 14) rfl rfl Try.func65 (by kernel_rfl) rfl #[.slice A0_1 l0_1.length c0_1, .slice A1_1 l1_1.length c1_1] rfl (by (simp only [List.map_toArray, List.map_cons, List.map_nil]); rfl) ?_; (with_reducible refine (laws_eqInt64S.calls k _ _ l0_1 _ _ l1_1 false _ ?side1 ?side2 ?side3 ?side4 A4.out).mono ?_); (case side1 => exact (Kd.C_below HR0_1.out HB.out)); (case side2 => exact HC0_1.out); (case side3 => exact (Kd.C_below HR1_1.out HB.out)); (case side4 => exact HC1_1.out); rintro e w' ⟨rfl, ⟨nd, rfl⟩⟩; refine ⟨_, rfl, ?_⟩))
   go_ret
   exact ⟨by rfl, by repeat ((with_reducible first | exact HB.out | apply pw_below_drewN))⟩
 ·rw [if_neg c3] at H
  have c3b0 : (a0_0 == a1_0) = false := beq_eq_false_iff_ne.mpr c3
  have c3b1 : (a0_0 != a1_0) = true := bne_iff_ne.mpr c3
  obtain rfl := Option.some.inj H
  go_enter Try.func37, Try.ntmps37
  go_wp2_with (first | ((with_reducible refine gate_dst (N := 2) rfl ?_); refine box_event ?hg (N := 2) ?hd (cs := #[.int .i64 a0_0, .slice A0_1 l0_1.length c0_1]) (t := 47) ?hr ?_; (case hd => rfl); (case hg => rfl); (case hr => (go_simp; done)); intro gb295 hg w16 hbox hb; have BK295 := Aside0.mk (hbox); have GW295 := Aside0.mk (geg hg (below_size HB.out)); have GE295 := Aside0.mk (geg hg (below_size HB.out)); replace HB := Aside0.mk (below_step HB.out hb); clear hb hbox hg) | ((with_reducible refine gate_dst (N := 3) rfl ?_); refine box_event ?hg (N := 3) ?hd (cs := #[.int .i64 a1_0, .slice A1_1 l1_1.length c1_1]) (t := 47) ?hr ?_; (case hd => rfl); (case hg => rfl); (case hr => (go_simp; done)); intro gb296 hg w17 hbox hb; have BK296 := Aside0.mk (hbox); have GW296 := Aside0.mk (geg hg (below_size HB.out)); have GE296 := Aside0.mk (geg hg (below_size HB.out)); replace HB := Aside0.mk (below_step HB.out hb); have NB295_296 := Aside0.mk ((by rw [hg]; exact Nat.ne_of_lt (blk_lt BK295.out) : gb295 ≠ gb296)); have NB296_295 := Aside0.mk ((by rw [hg]; exact Nat.ne_of_gt (blk_lt BK295.out) : gb296 ≠ gb295)); replace BK295 := Aside0.mk (blk_below BK295.out hb); clear hb hbox hg; have hnb18 := NB295_296.out; have hnc18 := NB296_295.out; have hcz19_0 := bc0 BK295.out; have hcz19_1 := bc1 BK295.out; have hfz19_0 := blk_frozen BK295.out 0; have hfz19_1 := blk_frozen BK295.out 1; have hcz20_0 := bc0 BK296.out; have hcz20_1 := bc1 BK296.out; have hfz20_0 := blk_frozen BK296.out 0; have hfz20_1 := blk_frozen BK296.out 1))
  go_ret
  exact ⟨by rfl, by exact HB.out⟩

/-! ### laws_eqDesk: function 32 -/
def laws_eqDesk.f (k : Nat) (l0_0 : List (List Int)) (a0_1 : Int) (l0_2 : List Int) (a0_3 : Int) (l0_4 : List Int) (l1_0 : List (List Int)) (a1_1 : Int) (l1_2 : List Int) (a1_3 : Int) (l1_4 : List Int) : Option (Bool) := (laws_eqGroup.f k l0_0 l1_0).bind fun t300 => (if t300 = true then ((laws_eqModule.f k a0_1 l0_2 a1_1 l1_2).bind fun t301 => (if t301 = true then ((laws_eqCochain.f k a0_3 l0_4 a1_3 l1_4).bind fun t302 => (if t302 = true then (some true) else (some false))) else (some false))) else (some false))
theorem laws_eqDesk.mono : ∀ a0 a1 a2 a3 a4 a5 a6 a7 a8 a9 k, LeO (laws_eqDesk.f k a0 a1 a2 a3 a4 a5 a6 a7 a8 a9) (laws_eqDesk.f (k + 1) a0 a1 a2 a3 a4 a5 a6 a7 a8 a9) := by
 intro a0 a1 a2 a3 a4 a5 a6 a7 a8 a9 k
 unfold laws_eqDesk.f
 repeat' first
   | (with_reducible exact laws_eqCochain.mono _ _ _ _ _)
   | (with_reducible exact laws_eqGroup.mono _ _ _)
   | (with_reducible exact laws_eqModule.mono _ _ _ _ _)
   | (with_reducible exact LeO.refl _)
   | (with_reducible refine LeO.ite ?_ ?_)
   | (with_reducible refine LeO.bind ?_ (fun _ => ?_))
set_option maxHeartbeats 8000000 in
set_option maxRecDepth 100000 in
theorem laws_eqDesk.calls (k : Nat) (A0_0 : Option Addr) (c0_0 : Nat) (l0_0 : List (List Int)) (a0_1 : Int) (A0_2 : Option Addr) (c0_2 : Nat) (l0_2 : List Int) (a0_3 : Int) (A0_4 : Option Addr) (c0_4 : Nat) (l0_4 : List Int) (A1_0 : Option Addr) (c1_0 : Nat) (l1_0 : List (List Int)) (a1_1 : Int) (A1_2 : Option Addr) (c1_2 : Nat) (l1_2 : List Int) (a1_3 : Int) (A1_4 : Option Addr) (c1_4 : Nat) (l1_4 : List Int) (r : Bool) (w : World) (hr0_0 : Kd.C (Kd.slice 2 (Kd.int .i64)) w A0_0 l0_0.length l0_0) (hc0_0 : l0_0.length ≤ c0_0) (hr0_2 : Kd.C (Kd.int .i64) w A0_2 l0_2.length l0_2) (hc0_2 : l0_2.length ≤ c0_2) (hr0_4 : Kd.C (Kd.int .i64) w A0_4 l0_4.length l0_4) (hc0_4 : l0_4.length ≤ c0_4) (hr1_0 : Kd.C (Kd.slice 2 (Kd.int .i64)) w A1_0 l1_0.length l1_0) (hc1_0 : l1_0.length ≤ c1_0) (hr1_2 : Kd.C (Kd.int .i64) w A1_2 l1_2.length l1_2) (hc1_2 : l1_2.length ≤ c1_2) (hr1_4 : Kd.C (Kd.int .i64) w A1_4 l1_4.length l1_4) (hc1_4 : l1_4.length ≤ c1_4) (h : laws_eqDesk.f k l0_0 a0_1 l0_2 a0_3 l0_4 l1_0 a1_1 l1_2 a1_3 l1_4 = some r) :
  Calls Try.prog 32 #[.agg #[.slice A0_0 l0_0.length c0_0, .int .i64 a0_1, .slice A0_2 l0_2.length c0_2, .int .i64 a0_3, .slice A0_4 l0_4.length c0_4], .agg #[.slice A1_0 l1_0.length c1_0, .int .i64 a1_1, .slice A1_2 l1_2.length c1_2, .int .i64 a1_3, .slice A1_4 l1_4.length c1_4]] w fun e w' => e = .returned (.bool r) ∧ Below w.heap.size w w' := by
 have hu49 := Try.underlying49
 have hu33 := Try.underlying33
 have hu30 := Try.underlying30
 have hu47 := Try.underlying47
 have HR0_0 := Aside0.mk hr0_0
 have HC0_0 := Aside0.mk hc0_0
 clear hr0_0 hc0_0
 have HR0_2 := Aside0.mk hr0_2
 have HC0_2 := Aside0.mk hc0_2
 clear hr0_2 hc0_2
 have HR0_4 := Aside0.mk hr0_4
 have HC0_4 := Aside0.mk hc0_4
 clear hr0_4 hc0_4
 have HR1_0 := Aside0.mk hr1_0
 have HC1_0 := Aside0.mk hc1_0
 clear hr1_0 hc1_0
 have HR1_2 := Aside0.mk hr1_2
 have HC1_2 := Aside0.mk hc1_2
 clear hr1_2 hc1_2
 have HR1_4 := Aside0.mk hr1_4
 have HC1_4 := Aside0.mk hc1_4
 clear hr1_4 hc1_4
 have HB := Aside0.mk (Below.refl w.heap.size w)
 have H : ((laws_eqGroup.f k l0_0 l1_0).bind fun t300 => (if t300 = true then ((laws_eqModule.f k a0_1 l0_2 a1_1 l1_2).bind fun t301 => (if t301 = true then ((laws_eqCochain.f k a0_3 l0_4 a1_3 l1_4).bind fun t302 => (if t302 = true then (some true) else (some false))) else (some false))) else (some false))) = some r := h
 clear h
 replace H := Option.bind_eq_some_iff.mp H
 obtain ⟨t300, A30, H⟩ := H
 replace H : (if t300 = true then ((laws_eqModule.f k a0_1 l0_2 a1_1 l1_2).bind fun t301 => (if t301 = true then ((laws_eqCochain.f k a0_3 l0_4 a1_3 l1_4).bind fun t302 => (if t302 = true then (some true) else (some false))) else (some false))) else (some false)) = some r := H
 have A3 := Aside0.mk A30
 clear A30
 by_cases c4 : t300 = true
 ·subst c4
  have H1 : ((laws_eqModule.f k a0_1 l0_2 a1_1 l1_2).bind fun t301 => (if t301 = true then ((laws_eqCochain.f k a0_3 l0_4 a1_3 l1_4).bind fun t302 => (if t302 = true then (some true) else (some false))) else (some false))) = some r := by rw [if_pos rfl] at H; exact H
  clear H
  have H := H1
  clear H1
  replace H := Option.bind_eq_some_iff.mp H
  obtain ⟨t301, A50, H⟩ := H
  replace H : (if t301 = true then ((laws_eqCochain.f k a0_3 l0_4 a1_3 l1_4).bind fun t302 => (if t302 = true then (some true) else (some false))) else (some false)) = some r := H
  have A5 := Aside0.mk A50
  clear A50
  by_cases c6 : t301 = true
  ·subst c6
   have H1 : ((laws_eqCochain.f k a0_3 l0_4 a1_3 l1_4).bind fun t302 => (if t302 = true then (some true) else (some false))) = some r := by rw [if_pos rfl] at H; exact H
   clear H
   have H := H1
   clear H1
   replace H := Option.bind_eq_some_iff.mp H
   obtain ⟨t302, A70, H⟩ := H
   replace H : (if t302 = true then (some true) else (some false)) = some r := H
   have A7 := Aside0.mk A70
   clear A70
   by_cases c8 : t302 = true
   ·subst c8
    have H1 : (some true) = some r := by rw [if_pos rfl] at H; exact H
    clear H
    have H := H1
    clear H1
    obtain rfl := Option.some.inj H
    go_enter Try.func32, Try.ntmps32
    go_wp2_with (first | ((with_reducible refine gate_dst (N := 2) rfl ?_); refine box_event ?hg (N := 2) ?hd (cs := #[.slice A0_0 l0_0.length c0_0, .int .i64 a0_1, .slice A0_2 l0_2.length c0_2, .int .i64 a0_3, .slice A0_4 l0_4.length c0_4]) (t := 49) ?hr ?_; (case hd => rfl); (case hg => rfl); (case hr => (go_simp; done)); intro gb298 hg w9 hbox hb; have BK298 := Aside0.mk (hbox); have GW298 := Aside0.mk (geg hg (below_size HB.out)); have GE298 := Aside0.mk (geg hg (below_size HB.out)); replace HB := Aside0.mk (below_step HB.out hb); clear hb hbox hg) | ((with_reducible refine gate_dst (N := 3) rfl ?_); refine box_event ?hg (N := 3) ?hd (cs := #[.slice A1_0 l1_0.length c1_0, .int .i64 a1_1, .slice A1_2 l1_2.length c1_2, .int .i64 a1_3, .slice A1_4 l1_4.length c1_4]) (t := 49) ?hr ?_; (case hd => rfl); (case hg => rfl); (case hr => (go_simp; done)); intro gb299 hg w10 hbox hb; have BK299 := Aside0.mk (hbox); have GW299 := Aside0.mk (geg hg (below_size HB.out)); have GE299 := Aside0.mk (geg hg (below_size HB.out)); replace HB := Aside0.mk (below_step HB.out hb); have NB298_299 := Aside0.mk ((by rw [hg]; exact Nat.ne_of_lt (blk_lt BK298.out) : gb298 ≠ gb299)); have NB299_298 := Aside0.mk ((by rw [hg]; exact Nat.ne_of_gt (blk_lt BK298.out) : gb299 ≠ gb298)); replace BK298 := Aside0.mk (blk_below BK298.out hb); clear hb hbox hg; have hnb11 := NB298_299.out; have hnc11 := NB299_298.out; have hcz12_0 := bc0 BK298.out; have hcz12_1 := bc1 BK298.out; have hcz12_2 := bc2 BK298.out; have hcz12_3 := bc3 BK298.out; have hcz12_4 := bc4 BK298.out; have hfz12_0 := blk_frozen BK298.out 0; have hfz12_1 := blk_frozen BK298.out 1; have hfz12_2 := blk_frozen BK298.out 2; have hfz12_3 := blk_frozen BK298.out 3; have hfz12_4 := blk_frozen BK298.out 4; have hcz13_0 := bc0 BK299.out; have hcz13_1 := bc1 BK299.out; have hcz13_2 := bc2 BK299.out; have hcz13_3 := bc3 BK299.out; have hcz13_4 := bc4 BK299.out; have hfz13_0 := blk_frozen BK299.out 0; have hfz13_1 := blk_frozen BK299.out 1; have hfz13_2 := blk_frozen BK299.out 2; have hfz13_3 := blk_frozen BK299.out 3; have hfz13_4 := blk_frozen BK299.out 4) | ((with_reducible refine gate_callee (f := 22) rfl ?_); refine goesL_ (some 9) rfl rfl Try.func22 (by kernel_rfl) rfl #[.agg #[.slice A0_0 l0_0.length c0_0], .agg #[.slice A1_0 l1_0.length c1_0]] rfl (by (simp only [List.map_toArray, List.map_cons, List.map_nil]); rfl) ?_; (with_reducible refine (laws_eqGroup.calls k _ _ l0_0 _ _ l1_0 true _ ?side1 ?side2 ?side3 ?side4 A3.out).mono ?_); (case side1 => exact (Kd.C_below HR0_0.out HB.out)); (case side2 => exact HC0_0.out); (case side3 => exact (Kd.C_below HR1_0.out HB.out)); (case side4 => exact HC1_0.out); rintro e w14 ⟨rfl, hb⟩; refine ⟨_, rfl, ?_⟩; replace BK298 := Aside0.mk (blk_below BK298.out hb); replace BK299 := Aside0.mk (blk_below BK299.out hb); replace HB := Aside0.mk (below_step HB.out hb); clear hb; have hcz15_0 := bc0 BK298.out; have hcz15_1 := bc1 BK298.out; have hcz15_2 := bc2 BK298.out; have hcz15_3 := bc3 BK298.out; have hcz15_4 := bc4 BK298.out; have hfz15_0 := blk_frozen BK298.out 0; have hfz15_1 := blk_frozen BK298.out 1; have hfz15_2 := blk_frozen BK298.out 2; have hfz15_3 := blk_frozen BK298.out 3; have hfz15_4 := blk_frozen BK298.out 4; have hcz16_0 := bc0 BK299.out; have hcz16_1 := bc1 BK299.out; have hcz16_2 := bc2 BK299.out; have hcz16_3 := bc3 BK299.out; have hcz16_4 := bc4 BK299.out; have hfz16_0 := blk_frozen BK299.out 0; have hfz16_1 := blk_frozen BK299.out 1; have hfz16_2 := blk_frozen BK299.out 2; have hfz16_3 := blk_frozen BK299.out 3; have hfz16_4 := blk_frozen BK299.out 4) | ((with_reducible refine gate_callee (f := 21) rfl ?_); refine goesL_ (some 15) rfl rfl Try.func21 (by kernel_rfl) rfl #[.agg #[.int .i64 a0_1, .slice A0_2 l0_2.length c0_2], .agg #[.int .i64 a1_1, .slice A1_2 l1_2.length c1_2]] rfl (by (simp only [List.map_toArray, List.map_cons, List.map_nil]); rfl) ?_; (with_reducible refine (laws_eqModule.calls k a0_1 _ _ l0_2 a1_1 _ _ l1_2 true _ ?side1 ?side2 ?side3 ?side4 A5.out).mono ?_); (case side1 => exact (Kd.C_below HR0_2.out HB.out)); (case side2 => exact HC0_2.out); (case side3 => exact (Kd.C_below HR1_2.out HB.out)); (case side4 => exact HC1_2.out); rintro e w17 ⟨rfl, hb⟩; refine ⟨_, rfl, ?_⟩; replace BK298 := Aside0.mk (blk_below BK298.out hb); replace BK299 := Aside0.mk (blk_below BK299.out hb); replace HB := Aside0.mk (below_step HB.out hb); clear hb; have hcz18_0 := bc0 BK298.out; have hcz18_1 := bc1 BK298.out; have hcz18_2 := bc2 BK298.out; have hcz18_3 := bc3 BK298.out; have hcz18_4 := bc4 BK298.out; have hfz18_0 := blk_frozen BK298.out 0; have hfz18_1 := blk_frozen BK298.out 1; have hfz18_2 := blk_frozen BK298.out 2; have hfz18_3 := blk_frozen BK298.out 3; have hfz18_4 := blk_frozen BK298.out 4; have hcz19_0 := bc0 BK299.out; have hcz19_1 := bc1 BK299.out; have hcz19_2 := bc2 BK299.out; have hcz19_3 := bc3 BK299.out; have hcz19_4 := bc4 BK299.out; have hfz19_0 := blk_frozen BK299.out 0; have hfz19_1 := blk_frozen BK299.out 1; have hfz19_2 := blk_frozen BK299.out 2; have hfz19_3 := blk_frozen BK299.out 3; have hfz19_4 := blk_frozen BK299.out 4) | ((with_reducible refine gate_callee (f := 37) rfl ?_); refine goesL_ (some 21) rfl rfl Try.func37 (by kernel_rfl) rfl #[.agg #[.int .i64 a0_3, .slice A0_4 l0_4.length c0_4], .agg #[.int .i64 a1_3, .slice A1_4 l1_4.length c1_4]] rfl (by (simp only [List.map_toArray, List.map_cons, List.map_nil]); rfl) ?_; (with_reducible refine (laws_eqCochain.calls k a0_3 _ _ l0_4 a1_3 _ _ l1_4 true _ ?side1 ?side2 ?side3 ?side4 A7.out).mono ?_); (case side1 => exact (Kd.C_below HR0_4.out HB.out)); (case side2 => exact HC0_4.out); (case side3 => exact (Kd.C_below HR1_4.out HB.out)); (case side4 => exact HC1_4.out); rintro e w20 ⟨rfl, hb⟩; refine ⟨_, rfl, ?_⟩; replace BK298 := Aside0.mk (blk_below BK298.out hb); replace BK299 := Aside0.mk (blk_below BK299.out hb); replace HB := Aside0.mk (below_step HB.out hb); clear hb))
    go_ret
    exact ⟨by rfl, by exact HB.out⟩
   ·replace c8 := Bool.eq_false_iff.mpr c8
    subst c8
    have H1 : (some false) = some r := by rw [if_neg (show ¬ (false = true) by decide)] at H; exact H
    clear H
    have H := H1
    clear H1
    obtain rfl := Option.some.inj H
    go_enter Try.func32, Try.ntmps32
    go_wp2_with (first | ((with_reducible refine gate_dst (N := 2) rfl ?_); refine box_event ?hg (N := 2) ?hd (cs := #[.slice A0_0 l0_0.length c0_0, .int .i64 a0_1, .slice A0_2 l0_2.length c0_2, .int .i64 a0_3, .slice A0_4 l0_4.length c0_4]) (t := 49) ?hr ?_; (case hd => rfl); (case hg => rfl); (case hr => (go_simp; done)); intro gb298 hg w21 hbox hb; have BK298 := Aside0.mk (hbox); have GW298 := Aside0.mk (geg hg (below_size HB.out)); have GE298 := Aside0.mk (geg hg (below_size HB.out)); replace HB := Aside0.mk (below_step HB.out hb); clear hb hbox hg) | ((with_reducible refine gate_dst (N := 3) rfl ?_); refine box_event ?hg (N := 3) ?hd (cs := #[.slice A1_0 l1_0.length c1_0, .int .i64 a1_1, .slice A1_2 l1_2.length c1_2, .int .i64 a1_3, .slice A1_4 l1_4.length c1_4]) (t := 49) ?hr ?_; (case hd => rfl); (case hg => rfl); (case hr => (go_simp; done)); intro gb299 hg w22 hbox hb; have BK299 := Aside0.mk (hbox); have GW299 := Aside0.mk (geg hg (below_size HB.out)); have GE299 := Aside0.mk (geg hg (below_size HB.out)); replace HB := Aside0.mk (below_step HB.out hb); have NB298_299 := Aside0.mk ((by rw [hg]; exact Nat.ne_of_lt (blk_lt BK298.out) : gb298 ≠ gb299)); have NB299_298 := Aside0.mk ((by rw [hg]; exact Nat.ne_of_gt (blk_lt BK298.out) : gb299 ≠ gb298)); replace BK298 := Aside0.mk (blk_below BK298.out hb); clear hb hbox hg; have hnb23 := NB298_299.out; have hnc23 := NB299_298.out; have hcz24_0 := bc0 BK298.out; have hcz24_1 := bc1 BK298.out; have hcz24_2 := bc2 BK298.out; have hcz24_3 := bc3 BK298.out; have hcz24_4 := bc4 BK298.out; have hfz24_0 := blk_frozen BK298.out 0; have hfz24_1 := blk_frozen BK298.out 1; have hfz24_2 := blk_frozen BK298.out 2; have hfz24_3 := blk_frozen BK298.out 3; have hfz24_4 := blk_frozen BK298.out 4; have hcz25_0 := bc0 BK299.out; have hcz25_1 := bc1 BK299.out; have hcz25_2 := bc2 BK299.out; have hcz25_3 := bc3 BK299.out; have hcz25_4 := bc4 BK299.out; have hfz25_0 := blk_frozen BK299.out 0; have hfz25_1 := blk_frozen BK299.out 1; have hfz25_2 := blk_frozen BK299.out 2; have hfz25_3 := blk_frozen BK299.out 3; have hfz25_4 := blk_frozen BK299.out 4) | ((with_reducible refine gate_callee (f := 22) rfl ?_); refine goesL_ (some 9) rfl rfl Try.func22 (by kernel_rfl) rfl #[.agg #[.slice A0_0 l0_0.length c0_0], .agg #[.slice A1_0 l1_0.length c1_0]] rfl (by (simp only [List.map_toArray, List.map_cons, List.map_nil]); rfl) ?_; (with_reducible refine (laws_eqGroup.calls k _ _ l0_0 _ _ l1_0 true _ ?side1 ?side2 ?side3 ?side4 A3.out).mono ?_); (case side1 => exact (Kd.C_below HR0_0.out HB.out)); (case side2 => exact HC0_0.out); (case side3 => exact (Kd.C_below HR1_0.out HB.out)); (case side4 => exact HC1_0.out); rintro e w26 ⟨rfl, hb⟩; refine ⟨_, rfl, ?_⟩; replace BK298 := Aside0.mk (blk_below BK298.out hb); replace BK299 := Aside0.mk (blk_below BK299.out hb); replace HB := Aside0.mk (below_step HB.out hb); clear hb; have hcz27_0 := bc0 BK298.out; have hcz27_1 := bc1 BK298.out; have hcz27_2 := bc2 BK298.out; have hcz27_3 := bc3 BK298.out; have hcz27_4 := bc4 BK298.out; have hfz27_0 := blk_frozen BK298.out 0; have hfz27_1 := blk_frozen BK298.out 1; have hfz27_2 := blk_frozen BK298.out 2; have hfz27_3 := blk_frozen BK298.out 3; have hfz27_4 := blk_frozen BK298.out 4; have hcz28_0 := bc0 BK299.out; have hcz28_1 := bc1 BK299.out; have hcz28_2 := bc2 BK299.out; have hcz28_3 := bc3 BK299.out; have hcz28_4 := bc4 BK299.out; have hfz28_0 := blk_frozen BK299.out 0; have hfz28_1 := blk_frozen BK299.out 1; have hfz28_2 := blk_frozen BK299.out 2; have hfz28_3 := blk_frozen BK299.out 3; have hfz28_4 := blk_frozen BK299.out 4) | ((with_reducible refine gate_callee (f := 21) rfl ?_); refine goesL_ (some 15) rfl rfl Try.func21 (by kernel_rfl) rfl #[.agg #[.int .i64 a0_1, .slice A0_2 l0_2.length c0_2], .agg #[.int .i64 a1_1, .slice A1_2 l1_2.length c1_2]] rfl (by (simp only [List.map_toArray, List.map_cons, List.map_nil]); rfl) ?_; (with_reducible refine (laws_eqModule.calls k a0_1 _ _ l0_2 a1_1 _ _ l1_2 true _ ?side1 ?side2 ?side3 ?side4 A5.out).mono ?_); (case side1 => exact (Kd.C_below HR0_2.out HB.out)); (case side2 => exact HC0_2.out); (case side3 => exact (Kd.C_below HR1_2.out HB.out)); (case side4 => exact HC1_2.out); rintro e w29 ⟨rfl, hb⟩; refine ⟨_, rfl, ?_⟩; replace BK298 := Aside0.mk (blk_below BK298.out hb); replace BK299 := Aside0.mk (blk_below BK299.out hb); replace HB := Aside0.mk (below_step HB.out hb); clear hb; have hcz30_0 := bc0 BK298.out; have hcz30_1 := bc1 BK298.out; have hcz30_2 := bc2 BK298.out; have hcz30_3 := bc3 BK298.out; have hcz30_4 := bc4 BK298.out; have hfz30_0 := blk_frozen BK298.out 0; have hfz30_1 := blk_frozen BK298.out 1; have hfz30_2 := blk_frozen BK298.out 2; have hfz30_3 := blk_frozen BK298.out 3; have hfz30_4 := blk_frozen BK298.out 4; have hcz31_0 := bc0 BK299.out; have hcz31_1 := bc1 BK299.out; have hcz31_2 := bc2 BK299.out; have hcz31_3 := bc3 BK299.out; have hcz31_4 := bc4 BK299.out; have hfz31_0 := blk_frozen BK299.out 0; have hfz31_1 := blk_frozen BK299.out 1; have hfz31_2 := blk_frozen BK299.out 2; have hfz31_3 := blk_frozen BK299.out 3; have hfz31_4 := blk_frozen BK299.out 4) | ((with_reducible refine gate_callee (f := 37) rfl ?_); refine goesL_ (some 21) rfl rfl Try.func37 (by kernel_rfl) rfl #[.agg #[.int .i64 a0_3, .slice A0_4 l0_4.length c0_4], .agg #[.int .i64 a1_3, .slice A1_4 l1_4.length c1_4]] rfl (by (simp only [List.map_toArray, List.map_cons, List.map_nil]); rfl) ?_; (with_reducible refine (laws_eqCochain.calls k a0_3 _ _ l0_4 a1_3 _ _ l1_4 false _ ?side1 ?side2 ?side3 ?side4 A7.out).mono ?_); (case side1 => exact (Kd.C_below HR0_4.out HB.out)); (case side2 => exact HC0_4.out); (case side3 => exact (Kd.C_below HR1_4.out HB.out)); (case side4 => exact HC1_4.out); rintro e w32 ⟨rfl, hb⟩; refine ⟨_, rfl, ?_⟩; replace BK298 := Aside0.mk (blk_below BK298.out hb); replace BK299 := Aside0.mk (blk_below BK299.out hb); replace HB := Aside0.mk (below_step HB.out hb); clear hb))
    go_ret
    exact ⟨by rfl, by exact HB.out⟩
  ·replace c6 := Bool.eq_false_iff.mpr c6
   subst c6
   have H1 : (some false) = some r := by rw [if_neg (show ¬ (false = true) by decide)] at H; exact H
   clear H
   have H := H1
   clear H1
   obtain rfl := Option.some.inj H
   go_enter Try.func32, Try.ntmps32
   go_wp2_with (first | ((with_reducible refine gate_dst (N := 2) rfl ?_); refine box_event ?hg (N := 2) ?hd (cs := #[.slice A0_0 l0_0.length c0_0, .int .i64 a0_1, .slice A0_2 l0_2.length c0_2, .int .i64 a0_3, .slice A0_4 l0_4.length c0_4]) (t := 49) ?hr ?_; (case hd => rfl); (case hg => rfl); (case hr => (go_simp; done)); intro gb298 hg w33 hbox hb; have BK298 := Aside0.mk (hbox); have GW298 := Aside0.mk (geg hg (below_size HB.out)); have GE298 := Aside0.mk (geg hg (below_size HB.out)); replace HB := Aside0.mk (below_step HB.out hb); clear hb hbox hg) | ((with_reducible refine gate_dst (N := 3) rfl ?_); refine box_event ?hg (N := 3) ?hd (cs := #[.slice A1_0 l1_0.length c1_0, .int .i64 a1_1, .slice A1_2 l1_2.length c1_2, .int .i64 a1_3, .slice A1_4 l1_4.length c1_4]) (t := 49) ?hr ?_; (case hd => rfl); (case hg => rfl); (case hr => (go_simp; done)); intro gb299 hg w34 hbox hb; have BK299 := Aside0.mk (hbox); have GW299 := Aside0.mk (geg hg (below_size HB.out)); have GE299 := Aside0.mk (geg hg (below_size HB.out)); replace HB := Aside0.mk (below_step HB.out hb); have NB298_299 := Aside0.mk ((by rw [hg]; exact Nat.ne_of_lt (blk_lt BK298.out) : gb298 ≠ gb299)); have NB299_298 := Aside0.mk ((by rw [hg]; exact Nat.ne_of_gt (blk_lt BK298.out) : gb299 ≠ gb298)); replace BK298 := Aside0.mk (blk_below BK298.out hb); clear hb hbox hg; have hnb35 := NB298_299.out; have hnc35 := NB299_298.out; have hcz36_0 := bc0 BK298.out; have hcz36_1 := bc1 BK298.out; have hcz36_2 := bc2 BK298.out; have hcz36_3 := bc3 BK298.out; have hcz36_4 := bc4 BK298.out; have hfz36_0 := blk_frozen BK298.out 0; have hfz36_1 := blk_frozen BK298.out 1; have hfz36_2 := blk_frozen BK298.out 2; have hfz36_3 := blk_frozen BK298.out 3; have hfz36_4 := blk_frozen BK298.out 4; have hcz37_0 := bc0 BK299.out; have hcz37_1 := bc1 BK299.out; have hcz37_2 := bc2 BK299.out; have hcz37_3 := bc3 BK299.out; have hcz37_4 := bc4 BK299.out; have hfz37_0 := blk_frozen BK299.out 0; have hfz37_1 := blk_frozen BK299.out 1; have hfz37_2 := blk_frozen BK299.out 2; have hfz37_3 := blk_frozen BK299.out 3; have hfz37_4 := blk_frozen BK299.out 4) | ((with_reducible refine gate_callee (f := 22) rfl ?_); refine goesL_ (some 9) rfl rfl Try.func22 (by kernel_rfl) rfl #[.agg #[.slice A0_0 l0_0.length c0_0], .agg #[.slice A1_0 l1_0.length c1_0]] rfl (by (simp only [List.map_toArray, List.map_cons, List.map_nil]); rfl) ?_; (with_reducible refine (laws_eqGroup.calls k _ _ l0_0 _ _ l1_0 true _ ?side1 ?side2 ?side3 ?side4 A3.out).mono ?_); (case side1 => exact (Kd.C_below HR0_0.out HB.out)); (case side2 => exact HC0_0.out); (case side3 => exact (Kd.C_below HR1_0.out HB.out)); (case side4 => exact HC1_0.out); rintro e w38 ⟨rfl, hb⟩; refine ⟨_, rfl, ?_⟩; replace BK298 := Aside0.mk (blk_below BK298.out hb); replace BK299 := Aside0.mk (blk_below BK299.out hb); replace HB := Aside0.mk (below_step HB.out hb); clear hb; have hcz39_0 := bc0 BK298.out; have hcz39_1 := bc1 BK298.out; have hcz39_2 := bc2 BK298.out; have hcz39_3 := bc3 BK298.out; have hcz39_4 := bc4 BK298.out; have hfz39_0 := blk_frozen BK298.out 0; have hfz39_1 := blk_frozen BK298.out 1; have hfz39_2 := blk_frozen BK298.out 2; have hfz39_3 := blk_frozen BK298.out 3; have hfz39_4 := blk_frozen BK298.out 4; have hcz40_0 := bc0 BK299.out; have hcz40_1 := bc1 BK299.out; have hcz40_2 := bc2 BK299.out; have hcz40_3 := bc3 BK299.out; have hcz40_4 := bc4 BK299.out; have hfz40_0 := blk_frozen BK299.out 0; have hfz40_1 := blk_frozen BK299.out 1; have hfz40_2 := blk_frozen BK299.out 2; have hfz40_3 := blk_frozen BK299.out 3; have hfz40_4 := blk_frozen BK299.out 4) | ((with_reducible refine gate_callee (f := 21) rfl ?_); refine goesL_ (some 15) rfl rfl Try.func21 (by kernel_rfl) rfl #[.agg #[.int .i64 a0_1, .slice A0_2 l0_2.length c0_2], .agg #[.int .i64 a1_1, .slice A1_2 l1_2.length c1_2]] rfl (by (simp only [List.map_toArray, List.map_cons, List.map_nil]); rfl) ?_; (with_reducible refine (laws_eqModule.calls k a0_1 _ _ l0_2 a1_1 _ _ l1_2 false _ ?side1 ?side2 ?side3 ?side4 A5.out).mono ?_); (case side1 => exact (Kd.C_below HR0_2.out HB.out)); (case side2 => exact HC0_2.out); (case side3 => exact (Kd.C_below HR1_2.out HB.out)); (case side4 => exact HC1_2.out); rintro e w41 ⟨rfl, hb⟩; refine ⟨_, rfl, ?_⟩; replace BK298 := Aside0.mk (blk_below BK298.out hb); replace BK299 := Aside0.mk (blk_below BK299.out hb); replace HB := Aside0.mk (below_step HB.out hb); clear hb))
   go_ret
   exact ⟨by rfl, by exact HB.out⟩
 ·replace c4 := Bool.eq_false_iff.mpr c4
  subst c4
  have H1 : (some false) = some r := by rw [if_neg (show ¬ (false = true) by decide)] at H; exact H
  clear H
  have H := H1
  clear H1
  obtain rfl := Option.some.inj H
  go_enter Try.func32, Try.ntmps32
  go_wp2_with (first | ((with_reducible refine gate_dst (N := 2) rfl ?_); refine box_event ?hg (N := 2) ?hd (cs := #[.slice A0_0 l0_0.length c0_0, .int .i64 a0_1, .slice A0_2 l0_2.length c0_2, .int .i64 a0_3, .slice A0_4 l0_4.length c0_4]) (t := 49) ?hr ?_; (case hd => rfl); (case hg => rfl); (case hr => (go_simp; done)); intro gb298 hg w42 hbox hb; have BK298 := Aside0.mk (hbox); have GW298 := Aside0.mk (geg hg (below_size HB.out)); have GE298 := Aside0.mk (geg hg (below_size HB.out)); replace HB := Aside0.mk (below_step HB.out hb); clear hb hbox hg) | ((with_reducible refine gate_dst (N := 3) rfl ?_); refine box_event ?hg (N := 3) ?hd (cs := #[.slice A1_0 l1_0.length c1_0, .int .i64 a1_1, .slice A1_2 l1_2.length c1_2, .int .i64 a1_3, .slice A1_4 l1_4.length c1_4]) (t := 49) ?hr ?_; (case hd => rfl); (case hg => rfl); (case hr => (go_simp; done)); intro gb299 hg w43 hbox hb; have BK299 := Aside0.mk (hbox); have GW299 := Aside0.mk (geg hg (below_size HB.out)); have GE299 := Aside0.mk (geg hg (below_size HB.out)); replace HB := Aside0.mk (below_step HB.out hb); have NB298_299 := Aside0.mk ((by rw [hg]; exact Nat.ne_of_lt (blk_lt BK298.out) : gb298 ≠ gb299)); have NB299_298 := Aside0.mk ((by rw [hg]; exact Nat.ne_of_gt (blk_lt BK298.out) : gb299 ≠ gb298)); replace BK298 := Aside0.mk (blk_below BK298.out hb); clear hb hbox hg; have hnb44 := NB298_299.out; have hnc44 := NB299_298.out; have hcz45_0 := bc0 BK298.out; have hcz45_1 := bc1 BK298.out; have hcz45_2 := bc2 BK298.out; have hcz45_3 := bc3 BK298.out; have hcz45_4 := bc4 BK298.out; have hfz45_0 := blk_frozen BK298.out 0; have hfz45_1 := blk_frozen BK298.out 1; have hfz45_2 := blk_frozen BK298.out 2; have hfz45_3 := blk_frozen BK298.out 3; have hfz45_4 := blk_frozen BK298.out 4; have hcz46_0 := bc0 BK299.out; have hcz46_1 := bc1 BK299.out; have hcz46_2 := bc2 BK299.out; have hcz46_3 := bc3 BK299.out; have hcz46_4 := bc4 BK299.out; have hfz46_0 := blk_frozen BK299.out 0; have hfz46_1 := blk_frozen BK299.out 1; have hfz46_2 := blk_frozen BK299.out 2; have hfz46_3 := blk_frozen BK299.out 3; have hfz46_4 := blk_frozen BK299.out 4) | ((with_reducible refine gate_callee (f := 22) rfl ?_); refine goesL_ (some 9) rfl rfl Try.func22 (by kernel_rfl) rfl #[.agg #[.slice A0_0 l0_0.length c0_0], .agg #[.slice A1_0 l1_0.length c1_0]] rfl (by (simp only [List.map_toArray, List.map_cons, List.map_nil]); rfl) ?_; (with_reducible refine (laws_eqGroup.calls k _ _ l0_0 _ _ l1_0 false _ ?side1 ?side2 ?side3 ?side4 A3.out).mono ?_); (case side1 => exact (Kd.C_below HR0_0.out HB.out)); (case side2 => exact HC0_0.out); (case side3 => exact (Kd.C_below HR1_0.out HB.out)); (case side4 => exact HC1_0.out); rintro e w47 ⟨rfl, hb⟩; refine ⟨_, rfl, ?_⟩; replace BK298 := Aside0.mk (blk_below BK298.out hb); replace BK299 := Aside0.mk (blk_below BK299.out hb); replace HB := Aside0.mk (below_step HB.out hb); clear hb))
  go_ret
  exact ⟨by rfl, by exact HB.out⟩

/-! ### laws_FnExactIsDesk: function 5 -/
def laws_FnExactIsDesk.f (k : Nat) (l0_0 : List (List Int)) (a0_1 : Int) (l0_2 : List Int) (a0_3 : Int) (l0_4 : List Int) : Option (Bool) := (laws_szDesk.f k l0_0 a0_1 l0_2 a0_3 l0_4 1048576).bind fun t304 => (if t304 < 0 then (some true) else ((laws_toDesk.f k l0_0 a0_1 l0_2 a0_3 l0_4).bind fun bt305 => ((spec_IsDesk.f k bt305.1 bt305.2.1 bt305.2.2.1 bt305.2.2.2.1 bt305.2.2.2.2).bind fun t316 => ((laws_toDesk.f k l0_0 a0_1 l0_2 a0_3 l0_4).bind fun bt317 => ((impl_IsDesk.f k bt317.1 bt317.2.1 bt317.2.2.1 bt317.2.2.2.1 bt317.2.2.2.2).bind fun t329 => (if (t329 != t316) = true then (some false) else ((laws_toDesk.f k l0_0 a0_1 l0_2 a0_3 l0_4).bind fun bt330 => ((laws_eqDesk.f k bt317.1 bt317.2.1 bt317.2.2.1 bt317.2.2.2.1 bt317.2.2.2.2 bt330.1 bt330.2.1 bt330.2.2.1 bt330.2.2.2.1 bt330.2.2.2.2).bind fun t341 => (if t341 = true then (some true) else (some false))))))))))
theorem laws_FnExactIsDesk.mono : ∀ a0 a1 a2 a3 a4 k, LeO (laws_FnExactIsDesk.f k a0 a1 a2 a3 a4) (laws_FnExactIsDesk.f (k + 1) a0 a1 a2 a3 a4) := by
 intro a0 a1 a2 a3 a4 k
 unfold laws_FnExactIsDesk.f
 repeat' first
   | (with_reducible exact impl_IsDesk.mono _ _ _ _ _ _)
   | (with_reducible exact laws_eqDesk.mono _ _ _ _ _ _ _ _ _ _ _)
   | (with_reducible exact laws_szDesk.mono _ _ _ _ _ _ _)
   | (with_reducible exact laws_toDesk.mono _ _ _ _ _ _)
   | (with_reducible exact spec_IsDesk.mono _ _ _ _ _ _)
   | (with_reducible exact LeO.refl _)
   | (with_reducible refine LeO.ite ?_ ?_)
   | (with_reducible refine LeO.bind ?_ (fun _ => ?_))
set_option maxHeartbeats 8000000 in
set_option maxRecDepth 100000 in
theorem laws_FnExactIsDesk.calls (k : Nat) (A0_0 : Option Addr) (c0_0 : Nat) (l0_0 : List (List Int)) (a0_1 : Int) (A0_2 : Option Addr) (c0_2 : Nat) (l0_2 : List Int) (a0_3 : Int) (A0_4 : Option Addr) (c0_4 : Nat) (l0_4 : List Int) (r : Bool) (w : World) (hr0_0 : Kd.C (Kd.slice 2 (Kd.int .i64)) w A0_0 l0_0.length l0_0) (hc0_0 : l0_0.length ≤ c0_0) (hr0_2 : Kd.C (Kd.int .i64) w A0_2 l0_2.length l0_2) (hc0_2 : l0_2.length ≤ c0_2) (hr0_4 : Kd.C (Kd.int .i64) w A0_4 l0_4.length l0_4) (hc0_4 : l0_4.length ≤ c0_4) (h : laws_FnExactIsDesk.f k l0_0 a0_1 l0_2 a0_3 l0_4 = some r) :
  Calls Try.prog 5 #[.agg #[.slice A0_0 l0_0.length c0_0, .int .i64 a0_1, .slice A0_2 l0_2.length c0_2, .int .i64 a0_3, .slice A0_4 l0_4.length c0_4]] w fun e w' => e = .returned (.bool r) ∧ Below w.heap.size w w' := by
 have hu44 := Try.underlying44
 have hu49 := Try.underlying49
 have HR0_0 := Aside0.mk hr0_0
 have HC0_0 := Aside0.mk hc0_0
 clear hr0_0 hc0_0
 have HR0_2 := Aside0.mk hr0_2
 have HC0_2 := Aside0.mk hc0_2
 clear hr0_2 hc0_2
 have HR0_4 := Aside0.mk hr0_4
 have HC0_4 := Aside0.mk hc0_4
 clear hr0_4 hc0_4
 have HB := Aside0.mk (Below.refl w.heap.size w)
 have H : ((laws_szDesk.f k l0_0 a0_1 l0_2 a0_3 l0_4 1048576).bind fun t304 => (if t304 < 0 then (some true) else ((laws_toDesk.f k l0_0 a0_1 l0_2 a0_3 l0_4).bind fun bt305 => ((spec_IsDesk.f k bt305.1 bt305.2.1 bt305.2.2.1 bt305.2.2.2.1 bt305.2.2.2.2).bind fun t316 => ((laws_toDesk.f k l0_0 a0_1 l0_2 a0_3 l0_4).bind fun bt317 => ((impl_IsDesk.f k bt317.1 bt317.2.1 bt317.2.2.1 bt317.2.2.2.1 bt317.2.2.2.2).bind fun t329 => (if (t329 != t316) = true then (some false) else ((laws_toDesk.f k l0_0 a0_1 l0_2 a0_3 l0_4).bind fun bt330 => ((laws_eqDesk.f k bt317.1 bt317.2.1 bt317.2.2.1 bt317.2.2.2.1 bt317.2.2.2.2 bt330.1 bt330.2.1 bt330.2.2.1 bt330.2.2.2.1 bt330.2.2.2.2).bind fun t341 => (if t341 = true then (some true) else (some false))))))))))) = some r := h
 clear h
 replace H := Option.bind_eq_some_iff.mp H
 obtain ⟨t304, A20, H⟩ := H
 replace H : (if t304 < 0 then (some true) else ((laws_toDesk.f k l0_0 a0_1 l0_2 a0_3 l0_4).bind fun bt305 => ((spec_IsDesk.f k bt305.1 bt305.2.1 bt305.2.2.1 bt305.2.2.2.1 bt305.2.2.2.2).bind fun t316 => ((laws_toDesk.f k l0_0 a0_1 l0_2 a0_3 l0_4).bind fun bt317 => ((impl_IsDesk.f k bt317.1 bt317.2.1 bt317.2.2.1 bt317.2.2.2.1 bt317.2.2.2.2).bind fun t329 => (if (t329 != t316) = true then (some false) else ((laws_toDesk.f k l0_0 a0_1 l0_2 a0_3 l0_4).bind fun bt330 => ((laws_eqDesk.f k bt317.1 bt317.2.1 bt317.2.2.1 bt317.2.2.2.1 bt317.2.2.2.2 bt330.1 bt330.2.1 bt330.2.2.1 bt330.2.2.2.1 bt330.2.2.2.2).bind fun t341 => (if t341 = true then (some true) else (some false)))))))))) = some r := H
 have A2 := Aside0.mk A20
 clear A20
 by_cases c3 : t304 < 0
 ·rw [if_pos c3] at H
  have c3b0 : decide (t304 < 0) = true := decide_eq_true c3
  clear c3
  obtain rfl := Option.some.inj H
  go_enter Try.func5, Try.ntmps5
  go_wp2_with (first | ((with_reducible refine gate_dst (N := 1) rfl ?_); refine box_event ?hg (N := 1) ?hd (cs := #[.slice A0_0 l0_0.length c0_0, .int .i64 a0_1, .slice A0_2 l0_2.length c0_2, .int .i64 a0_3, .slice A0_4 l0_4.length c0_4]) (t := 44) ?hr ?_; (case hd => rfl); (case hg => rfl); (case hr => (go_simp; done)); intro gb303 hg w4 hbox hb; have BK303 := Aside0.mk (hbox); have GW303 := Aside0.mk (geg hg (below_size HB.out)); have GE303 := Aside0.mk (geg hg (below_size HB.out)); replace HB := Aside0.mk (below_step HB.out hb); clear hb hbox hg; have hcz5_0 := bc0 BK303.out; have hcz5_1 := bc1 BK303.out; have hcz5_2 := bc2 BK303.out; have hcz5_3 := bc3 BK303.out; have hcz5_4 := bc4 BK303.out; have hfz5_0 := blk_frozen BK303.out 0; have hfz5_1 := blk_frozen BK303.out 1; have hfz5_2 := blk_frozen BK303.out 2; have hfz5_3 := blk_frozen BK303.out 3; have hfz5_4 := blk_frozen BK303.out 4) | ((with_reducible refine gate_callee (f := 28) rfl ?_); refine goesL_ (some 9) rfl rfl Try.func28 (by kernel_rfl) rfl #[.agg #[.slice A0_0 l0_0.length c0_0, .int .i64 a0_1, .slice A0_2 l0_2.length c0_2, .int .i64 a0_3, .slice A0_4 l0_4.length c0_4], .int .i64 1048576] rfl (by (simp only [List.map_toArray, List.map_cons, List.map_nil]); rfl) ?_; (with_reducible refine (laws_szDesk.calls k _ _ l0_0 a0_1 _ _ l0_2 a0_3 _ _ l0_4 1048576 t304 _ ?side1 ?side2 ?side3 ?side4 ?side5 ?side6 A2.out).mono ?_); (case side1 => exact (Kd.C_below HR0_0.out HB.out)); (case side2 => exact HC0_0.out); (case side3 => exact (Kd.C_below HR0_2.out HB.out)); (case side4 => exact HC0_2.out); (case side5 => exact (Kd.C_below HR0_4.out HB.out)); (case side6 => exact HC0_4.out); rintro e w6 ⟨rfl, hb⟩; refine ⟨_, rfl, ?_⟩; replace BK303 := Aside0.mk (blk_below BK303.out hb); replace HB := Aside0.mk (below_step HB.out hb); clear hb))
  go_ret
  exact ⟨by rfl, by exact HB.out⟩
 ·rw [if_neg c3] at H
  have c3b0 : decide (t304 < 0) = false := decide_eq_false c3
  clear c3
  replace H := Option.bind_eq_some_iff.mp H
  obtain ⟨⟨t305, t308, t309, t312, t313⟩, A70, H⟩ := H
  replace H : ((spec_IsDesk.f k t305 t308 t309 t312 t313).bind fun t316 => ((laws_toDesk.f k l0_0 a0_1 l0_2 a0_3 l0_4).bind fun bt317 => ((impl_IsDesk.f k bt317.1 bt317.2.1 bt317.2.2.1 bt317.2.2.2.1 bt317.2.2.2.2).bind fun t329 => (if (t329 != t316) = true then (some false) else ((laws_toDesk.f k l0_0 a0_1 l0_2 a0_3 l0_4).bind fun bt330 => ((laws_eqDesk.f k bt317.1 bt317.2.1 bt317.2.2.1 bt317.2.2.2.1 bt317.2.2.2.2 bt330.1 bt330.2.1 bt330.2.2.1 bt330.2.2.2.1 bt330.2.2.2.2).bind fun t341 => (if t341 = true then (some true) else (some false)))))))) = some r := H
  have A7 := Aside0.mk A70
  clear A70
  replace H := Option.bind_eq_some_iff.mp H
  obtain ⟨t316, A80, H⟩ := H
  replace H : ((laws_toDesk.f k l0_0 a0_1 l0_2 a0_3 l0_4).bind fun bt317 => ((impl_IsDesk.f k bt317.1 bt317.2.1 bt317.2.2.1 bt317.2.2.2.1 bt317.2.2.2.2).bind fun t329 => (if (t329 != t316) = true then (some false) else ((laws_toDesk.f k l0_0 a0_1 l0_2 a0_3 l0_4).bind fun bt330 => ((laws_eqDesk.f k bt317.1 bt317.2.1 bt317.2.2.1 bt317.2.2.2.1 bt317.2.2.2.2 bt330.1 bt330.2.1 bt330.2.2.1 bt330.2.2.2.1 bt330.2.2.2.2).bind fun t341 => (if t341 = true then (some true) else (some false))))))) = some r := H
  have A8 := Aside0.mk A80
  clear A80
  replace H := Option.bind_eq_some_iff.mp H
  obtain ⟨⟨t317, t320, t321, t324, t325⟩, A90, H⟩ := H
  replace H : ((impl_IsDesk.f k t317 t320 t321 t324 t325).bind fun t329 => (if (t329 != t316) = true then (some false) else ((laws_toDesk.f k l0_0 a0_1 l0_2 a0_3 l0_4).bind fun bt330 => ((laws_eqDesk.f k t317 t320 t321 t324 t325 bt330.1 bt330.2.1 bt330.2.2.1 bt330.2.2.2.1 bt330.2.2.2.2).bind fun t341 => (if t341 = true then (some true) else (some false)))))) = some r := H
  have A9 := Aside0.mk A90
  clear A90
  replace H := Option.bind_eq_some_iff.mp H
  obtain ⟨t329, A100, H⟩ := H
  replace H : (if (t329 != t316) = true then (some false) else ((laws_toDesk.f k l0_0 a0_1 l0_2 a0_3 l0_4).bind fun bt330 => ((laws_eqDesk.f k t317 t320 t321 t324 t325 bt330.1 bt330.2.1 bt330.2.2.1 bt330.2.2.2.1 bt330.2.2.2.2).bind fun t341 => (if t341 = true then (some true) else (some false))))) = some r := H
  have A10 := Aside0.mk A100
  clear A100
  by_cases c11 : (t329 != t316) = true
  ·rw [if_pos c11] at H
   have c11b0 : (t329 != t316) = true := c11
   ((have c11b1 : decide (t329 = t316) = false := by simpa using c11))
   ((have c11b2 : (t329 == t316) = false := by simpa using c11))
   ((have c11b3 : ¬ (t329 = t316) := by simpa using c11))
   clear c11
   obtain rfl := Option.some.inj H
   go_enter Try.func5, Try.ntmps5
   go_wp2_with (first | ((with_reducible refine gate_dst (N := 1) rfl ?_); refine box_event ?hg (N := 1) ?hd (cs := #[.slice A0_0 l0_0.length c0_0, .int .i64 a0_1, .slice A0_2 l0_2.length c0_2, .int .i64 a0_3, .slice A0_4 l0_4.length c0_4]) (t := 44) ?hr ?_; (case hd => rfl); (case hg => rfl); (case hr => (go_simp; done)); intro gb303 hg w12 hbox hb; have BK303 := Aside0.mk (hbox); have GW303 := Aside0.mk (geg hg (below_size HB.out)); have GE303 := Aside0.mk (geg hg (below_size HB.out)); replace HB := Aside0.mk (below_step HB.out hb); clear hb hbox hg; have hcz13_0 := bc0 BK303.out; have hcz13_1 := bc1 BK303.out; have hcz13_2 := bc2 BK303.out; have hcz13_3 := bc3 BK303.out; have hcz13_4 := bc4 BK303.out; have hfz13_0 := blk_frozen BK303.out 0; have hfz13_1 := blk_frozen BK303.out 1; have hfz13_2 := blk_frozen BK303.out 2; have hfz13_3 := blk_frozen BK303.out 3; have hfz13_4 := blk_frozen BK303.out 4) | ((with_reducible refine gate_callee (f := 28) rfl ?_); refine goesL_ (some 9) rfl rfl Try.func28 (by kernel_rfl) rfl #[.agg #[.slice A0_0 l0_0.length c0_0, .int .i64 a0_1, .slice A0_2 l0_2.length c0_2, .int .i64 a0_3, .slice A0_4 l0_4.length c0_4], .int .i64 1048576] rfl (by (simp only [List.map_toArray, List.map_cons, List.map_nil]); rfl) ?_; (with_reducible refine (laws_szDesk.calls k _ _ l0_0 a0_1 _ _ l0_2 a0_3 _ _ l0_4 1048576 t304 _ ?side1 ?side2 ?side3 ?side4 ?side5 ?side6 A2.out).mono ?_); (case side1 => exact (Kd.C_below HR0_0.out HB.out)); (case side2 => exact HC0_0.out); (case side3 => exact (Kd.C_below HR0_2.out HB.out)); (case side4 => exact HC0_2.out); (case side5 => exact (Kd.C_below HR0_4.out HB.out)); (case side6 => exact HC0_4.out); rintro e w14 ⟨rfl, hb⟩; refine ⟨_, rfl, ?_⟩; replace BK303 := Aside0.mk (blk_below BK303.out hb); replace HB := Aside0.mk (below_step HB.out hb); clear hb; have hcz15_0 := bc0 BK303.out; have hcz15_1 := bc1 BK303.out; have hcz15_2 := bc2 BK303.out; have hcz15_3 := bc3 BK303.out; have hcz15_4 := bc4 BK303.out; have hfz15_0 := blk_frozen BK303.out 0; have hfz15_1 := blk_frozen BK303.out 1; have hfz15_2 := blk_frozen BK303.out 2; have hfz15_3 := blk_frozen BK303.out 3; have hfz15_4 := blk_frozen BK303.out 4) | ((with_reducible refine gate_callee (f := 30) rfl ?_); refine goesL_ (some 13) rfl rfl Try.func30 (by kernel_rfl) rfl #[.agg #[.slice A0_0 l0_0.length c0_0, .int .i64 a0_1, .slice A0_2 l0_2.length c0_2, .int .i64 a0_3, .slice A0_4 l0_4.length c0_4]] rfl (by (simp only [List.map_toArray, List.map_cons, List.map_nil]); rfl) ?_; (with_reducible refine (laws_toDesk.calls k _ _ l0_0 a0_1 _ _ l0_2 a0_3 _ _ l0_4 t305 t308 t309 t312 t313 _ ?side1 ?side2 ?side3 ?side4 ?side5 ?side6 A7.out).mono ?_); (case side1 => exact (Kd.C_below HR0_0.out HB.out)); (case side2 => exact HC0_0.out); (case side3 => exact (Kd.C_below HR0_2.out HB.out)); (case side4 => exact HC0_2.out); (case side5 => exact (Kd.C_below HR0_4.out HB.out)); (case side6 => exact HC0_4.out); rintro e w16 ⟨v306, v310, v314, rfl, ho0, ho1, ho2, hb⟩; refine ⟨_, rfl, ?_⟩; have HO307 := Aside0.mk (Kd.S_lower ho0 (below_size HB.out)); have HO311 := Aside0.mk (Kd.R_lower ho1 (below_size HB.out)); have HO315 := Aside0.mk (Kd.R_lower ho2 (below_size HB.out)); replace BK303 := Aside0.mk (blk_below BK303.out hb); replace HB := Aside0.mk (below_step HB.out hb); clear hb ho0 ho1 ho2; obtain ⟨Ao17, co17, eo17⟩ := Kd.S_slice HO307.out; subst eo17; obtain ⟨Ao18, co18, eo18⟩ := Kd.R_slice HO311.out; subst eo18; obtain ⟨Ao19, co19, eo19⟩ := Kd.R_slice HO315.out; subst eo19) | ((with_reducible refine gate_callee (f := 29) rfl ?_); refine goesL_ (some 14) rfl rfl Try.func29 (by kernel_rfl) rfl #[.agg #[.slice Ao17 t305.length co17, .int .i64 t308, .slice Ao18 t309.length co18, .int .i64 t312, .slice Ao19 t313.length co19]] rfl (by (simp only [List.map_toArray, List.map_cons, List.map_nil]); rfl) ?_; (with_reducible refine (spec_IsDesk.calls k _ _ t305 t308 _ _ t309 t312 (fun k_ => some k_ = (.slice Ao19 t313.length co19 : Value).ownBlock) _ _ t313 t316 _ ?side1 ?side2 ?side3 ?side4 ?side5 A8.out).mono ?_); (case side1 => repeat (exact (Kd.S_reads' HO307.out).2.2)); (case side2 => exact (Kd.S_reads' HO307.out).2.1); (case side3 => repeat (exact (Kd.R_reads' HO311.out).2.2)); (case side4 => exact (Kd.R_reads' HO311.out).2.1); (case side5 => exact Kd.R_V (Kd.R_tight rfl (Kd.R_types (Kd.R_apart' (HO315.out) (Kd.S_typed HO307.out) (by decide)) BK303.out (by decide)))); rintro e w20 ⟨rfl, hb⟩; refine ⟨_, rfl, ?_⟩; replace HO307 := Aside0.mk (Kd.S_below HO307.out hb); replace HO311 := Aside0.mk (Kd.R_below HO311.out hb); replace HO315 := Aside0.mk (Kd.R_below HO315.out hb); replace BK303 := Aside0.mk (blk_below BK303.out hb); replace HB := Aside0.mk (below_step HB.out hb); clear hb; have hcz21_0 := bc0 BK303.out; have hcz21_1 := bc1 BK303.out; have hcz21_2 := bc2 BK303.out; have hcz21_3 := bc3 BK303.out; have hcz21_4 := bc4 BK303.out; have hfz21_0 := blk_frozen BK303.out 0; have hfz21_1 := blk_frozen BK303.out 1; have hfz21_2 := blk_frozen BK303.out 2; have hfz21_3 := blk_frozen BK303.out 3; have hfz21_4 := blk_frozen BK303.out 4) | ((with_reducible refine gate_callee (f := 30) rfl ?_); refine goesL_ (some 16) rfl rfl Try.func30 (by kernel_rfl) rfl #[.agg #[.slice A0_0 l0_0.length c0_0, .int .i64 a0_1, .slice A0_2 l0_2.length c0_2, .int .i64 a0_3, .slice A0_4 l0_4.length c0_4]] rfl (by (simp only [List.map_toArray, List.map_cons, List.map_nil]); rfl) ?_; (with_reducible refine (laws_toDesk.calls k _ _ l0_0 a0_1 _ _ l0_2 a0_3 _ _ l0_4 t317 t320 t321 t324 t325 _ ?side1 ?side2 ?side3 ?side4 ?side5 ?side6 A9.out).mono ?_); (case side1 => exact (Kd.C_below HR0_0.out HB.out)); (case side2 => exact HC0_0.out); (case side3 => exact (Kd.C_below HR0_2.out HB.out)); (case side4 => exact HC0_2.out); (case side5 => exact (Kd.C_below HR0_4.out HB.out)); (case side6 => exact HC0_4.out); rintro e w22 ⟨v318, v322, v326, rfl, ho0, ho1, ho2, hb⟩; refine ⟨_, rfl, ?_⟩; have HO319 := Aside0.mk (Kd.S_lower (Kd.S_new' (Kd.S_new' (Kd.S_new' ho0 (Kd.S_lt HO307.out)) (Kd.R_lt HO311.out)) (Kd.R_lt HO315.out)) (below_size HB.out)); replace HO307 := Aside0.mk (Kd.S_mono (Kd.S_told (Kd.S_told (Kd.S_told (Kd.S_old HO307.out hb) (Kd.S_base ho0)) (Kd.R_base ho1)) (Kd.R_base ho2)) (fun _ h_ => h_.1)); have HO323 := Aside0.mk (Kd.R_lower (Kd.R_new' (Kd.R_new' ho1 (Kd.R_lt HO311.out)) (Kd.R_lt HO315.out)) (below_size HB.out)); have HO327 := Aside0.mk (Kd.R_lower (Kd.R_new' (Kd.R_new' ho2 (Kd.R_lt HO311.out)) (Kd.R_lt HO315.out)) (below_size HB.out)); replace HO311 := Aside0.mk (Kd.R_mono (Kd.R_told (Kd.R_told (Kd.R_old HO311.out hb) (Kd.R_base ho1)) (Kd.R_base ho2)) (fun _ h_ => h_.1)); replace HO315 := Aside0.mk (Kd.R_mono (Kd.R_told (Kd.R_told (Kd.R_old HO315.out hb) (Kd.R_base ho1)) (Kd.R_base ho2)) (fun _ h_ => h_.1)); replace BK303 := Aside0.mk (blk_below BK303.out hb); replace HB := Aside0.mk (below_step HB.out hb); clear hb ho0 ho1 ho2) | ((with_reducible refine gate_dst (N := 5) rfl ?_); refine box_event ?hg (N := 5) ?hd (cs := #[.slice none 0 0, .int .i64 0, .slice none 0 0, .int .i64 0, .slice none 0 0]) (t := 49) ?hr ?_; (case hd => rfl); (case hg => rfl); (case hr => (go_simp; done)); intro gb328 hg w23 hbox hb; replace HO307 := Aside0.mk (Kd.S_below HO307.out hb); replace HO311 := Aside0.mk (Kd.R_below HO311.out hb); replace HO315 := Aside0.mk (Kd.R_below HO315.out hb); replace HO319 := Aside0.mk (Kd.S_below HO319.out hb); replace HO323 := Aside0.mk (Kd.R_below HO323.out hb); replace HO327 := Aside0.mk (Kd.R_below HO327.out hb); have BK328 := Aside0.mk (hbox); have GW328 := Aside0.mk (geg hg (below_size HB.out)); have GE328 := Aside0.mk (geg hg (below_size HB.out)); replace HB := Aside0.mk (below_step HB.out hb); have NB303_328 := Aside0.mk ((by rw [hg]; exact Nat.ne_of_lt (blk_lt BK303.out) : gb303 ≠ gb328)); have NB328_303 := Aside0.mk ((by rw [hg]; exact Nat.ne_of_gt (blk_lt BK303.out) : gb328 ≠ gb303)); replace BK303 := Aside0.mk (blk_below BK303.out hb); clear hb hbox hg; obtain ⟨Ao24, co24, eo24⟩ := Kd.S_slice HO319.out; subst eo24; have hnb25 := NB328_303.out; have hnc25 := NB303_328.out; have hcz26_0 := bc0 BK328.out; have hcz26_1 := bc1 BK328.out; have hcz26_2 := bc2 BK328.out; have hcz26_3 := bc3 BK328.out; have hcz26_4 := bc4 BK328.out; have hfz26_0 := blk_frozen BK328.out 0; have hfz26_1 := blk_frozen BK328.out 1; have hfz26_2 := blk_frozen BK328.out 2; have hfz26_3 := blk_frozen BK328.out 3; have hfz26_4 := blk_frozen BK328.out 4; obtain ⟨Ao27, co27, eo27⟩ := Kd.R_slice HO323.out; subst eo27; obtain ⟨Ao28, co28, eo28⟩ := Kd.R_slice HO327.out; subst eo28) | ((with_reducible refine gate_store (t := 49) (p := 5) rfl ?_); refine store_event (t := 49) (p := 5) (v := ?vo_w29) (w1 := (((((w23.setCell ⟨gb328, 0, none⟩ (.slice Ao24 t317.length co24)).setCell ⟨gb328, 1, none⟩ (.int .i64 t320)).setCell ⟨gb328, 2, none⟩ (.slice Ao27 t321.length co27)).setCell ⟨gb328, 3, none⟩ (.int .i64 t324)).setCell ⟨gb328, 4, none⟩ (.slice Ao28 t325.length co28))) ?hg ?ho ?hn ?hr ?_; (case ho => rfl); (case hg => rfl); (case hn => rfl); (case hr => (go_simp; done)); intro w29 hw; have n0_ : Aside0 (Kd.S (Kd.slice 2 (Kd.int .i64)) 25 w29 w.heap.size (fun k_ => some k_ ≠ (.slice Ao18 t309.length co18 : Value).ownBlock ∧ some k_ ≠ (.slice Ao19 t313.length co19 : Value).ownBlock ∧ some k_ ≠ (.slice Ao24 t317.length co24 : Value).ownBlock ∧ some k_ ≠ (.slice Ao27 t321.length co27 : Value).ownBlock ∧ some k_ ≠ (.slice Ao28 t325.length co28 : Value).ownBlock) (.slice Ao17 t305.length co17) t305) := ⟨(by rw [hw]; exact (by exact Kd.S_mono (Kd.S_far (p := ⟨gb328, 4, none⟩) (Kd.S_far (p := ⟨gb328, 3, none⟩) (Kd.S_far (p := ⟨gb328, 2, none⟩) (Kd.S_far (p := ⟨gb328, 1, none⟩) (Kd.S_far (p := ⟨gb328, 0, none⟩) (Kd.S_types HO307.out BK328.out (by decide)) (fun _ hk => hk.2) (.slice Ao24 t317.length co24)) (fun _ hk => hk.2) (.int .i64 t320)) (fun _ hk => hk.2) (.slice Ao27 t321.length co27)) (fun _ hk => hk.2) (.int .i64 t324)) (fun _ hk => hk.2) (.slice Ao28 t325.length co28)) (fun _ hk => ⟨hk.1.1.1.1.1, ⟨hk.1.1.1.1.2, ⟨hk.1.1.1.2, ⟨hk.1.1.2, hk.1.2⟩⟩⟩⟩)))⟩; have n1_ : Aside0 (Kd.R (Kd.int .i64) 2 w29 w.heap.size (fun k_ => some k_ ≠ (.slice Ao19 t313.length co19 : Value).ownBlock ∧ some k_ ≠ (.slice Ao27 t321.length co27 : Value).ownBlock ∧ some k_ ≠ (.slice Ao28 t325.length co28 : Value).ownBlock) (.slice Ao18 t309.length co18) t309) := ⟨(by rw [hw]; exact (by exact Kd.R_mono (Kd.R_far (p := ⟨gb328, 4, none⟩) (Kd.R_far (p := ⟨gb328, 3, none⟩) (Kd.R_far (p := ⟨gb328, 2, none⟩) (Kd.R_far (p := ⟨gb328, 1, none⟩) (Kd.R_far (p := ⟨gb328, 0, none⟩) (Kd.R_types HO311.out BK328.out (by decide)) (fun _ hk => hk.2) (.slice Ao24 t317.length co24)) (fun _ hk => hk.2) (.int .i64 t320)) (fun _ hk => hk.2) (.slice Ao27 t321.length co27)) (fun _ hk => hk.2) (.int .i64 t324)) (fun _ hk => hk.2) (.slice Ao28 t325.length co28)) (fun _ hk => ⟨hk.1.1.1, ⟨hk.1.1.2, hk.1.2⟩⟩)))⟩; have n2_ : Aside0 (Kd.R (Kd.int .i64) 2 w29 w.heap.size (fun k_ => some k_ ≠ (.slice Ao18 t309.length co18 : Value).ownBlock ∧ some k_ ≠ (.slice Ao27 t321.length co27 : Value).ownBlock ∧ some k_ ≠ (.slice Ao28 t325.length co28 : Value).ownBlock) (.slice Ao19 t313.length co19) t313) := ⟨(by rw [hw]; exact (by exact Kd.R_mono (Kd.R_far (p := ⟨gb328, 4, none⟩) (Kd.R_far (p := ⟨gb328, 3, none⟩) (Kd.R_far (p := ⟨gb328, 2, none⟩) (Kd.R_far (p := ⟨gb328, 1, none⟩) (Kd.R_far (p := ⟨gb328, 0, none⟩) (Kd.R_types HO315.out BK328.out (by decide)) (fun _ hk => hk.2) (.slice Ao24 t317.length co24)) (fun _ hk => hk.2) (.int .i64 t320)) (fun _ hk => hk.2) (.slice Ao27 t321.length co27)) (fun _ hk => hk.2) (.int .i64 t324)) (fun _ hk => hk.2) (.slice Ao28 t325.length co28)) (fun _ hk => ⟨hk.1.1.1, ⟨hk.1.1.2, hk.1.2⟩⟩)))⟩; have n3_ : Aside0 (Kd.S (Kd.slice 2 (Kd.int .i64)) 25 w29 w.heap.size (fun k_ => some k_ ≠ (.slice Ao17 t305.length co17 : Value).ownBlock ∧ some k_ ≠ (.slice Ao18 t309.length co18 : Value).ownBlock ∧ some k_ ≠ (.slice Ao19 t313.length co19 : Value).ownBlock ∧ some k_ ≠ (.slice Ao27 t321.length co27 : Value).ownBlock ∧ some k_ ≠ (.slice Ao28 t325.length co28 : Value).ownBlock) (.slice Ao24 t317.length co24) t317) := ⟨(by rw [hw]; exact (by exact Kd.S_mono (Kd.S_far (p := ⟨gb328, 4, none⟩) (Kd.S_far (p := ⟨gb328, 3, none⟩) (Kd.S_far (p := ⟨gb328, 2, none⟩) (Kd.S_far (p := ⟨gb328, 1, none⟩) (Kd.S_far (p := ⟨gb328, 0, none⟩) (Kd.S_types HO319.out BK328.out (by decide)) (fun _ hk => hk.2) (.slice Ao24 t317.length co24)) (fun _ hk => hk.2) (.int .i64 t320)) (fun _ hk => hk.2) (.slice Ao27 t321.length co27)) (fun _ hk => hk.2) (.int .i64 t324)) (fun _ hk => hk.2) (.slice Ao28 t325.length co28)) (fun _ hk => ⟨hk.1.1.1.2, ⟨hk.1.1.2, ⟨hk.1.2, ⟨hk.1.1.1.1.1, hk.1.1.1.1.2⟩⟩⟩⟩)))⟩; have n4_ : Aside0 (Kd.R (Kd.int .i64) 2 w29 w.heap.size (fun k_ => some k_ ≠ (.slice Ao18 t309.length co18 : Value).ownBlock ∧ some k_ ≠ (.slice Ao19 t313.length co19 : Value).ownBlock ∧ some k_ ≠ (.slice Ao28 t325.length co28 : Value).ownBlock) (.slice Ao27 t321.length co27) t321) := ⟨(by rw [hw]; exact (by exact Kd.R_mono (Kd.R_far (p := ⟨gb328, 4, none⟩) (Kd.R_far (p := ⟨gb328, 3, none⟩) (Kd.R_far (p := ⟨gb328, 2, none⟩) (Kd.R_far (p := ⟨gb328, 1, none⟩) (Kd.R_far (p := ⟨gb328, 0, none⟩) (Kd.R_types HO323.out BK328.out (by decide)) (fun _ hk => hk.2) (.slice Ao24 t317.length co24)) (fun _ hk => hk.2) (.int .i64 t320)) (fun _ hk => hk.2) (.slice Ao27 t321.length co27)) (fun _ hk => hk.2) (.int .i64 t324)) (fun _ hk => hk.2) (.slice Ao28 t325.length co28)) (fun _ hk => ⟨hk.1.1.2, ⟨hk.1.2, hk.1.1.1⟩⟩)))⟩; have n5_ : Aside0 (Kd.R (Kd.int .i64) 2 w29 w.heap.size (fun k_ => some k_ ≠ (.slice Ao18 t309.length co18 : Value).ownBlock ∧ some k_ ≠ (.slice Ao19 t313.length co19 : Value).ownBlock ∧ some k_ ≠ (.slice Ao27 t321.length co27 : Value).ownBlock) (.slice Ao28 t325.length co28) t325) := ⟨(by rw [hw]; exact (by exact Kd.R_mono (Kd.R_far (p := ⟨gb328, 4, none⟩) (Kd.R_far (p := ⟨gb328, 3, none⟩) (Kd.R_far (p := ⟨gb328, 2, none⟩) (Kd.R_far (p := ⟨gb328, 1, none⟩) (Kd.R_far (p := ⟨gb328, 0, none⟩) (Kd.R_types HO327.out BK328.out (by decide)) (fun _ hk => hk.2) (.slice Ao24 t317.length co24)) (fun _ hk => hk.2) (.int .i64 t320)) (fun _ hk => hk.2) (.slice Ao27 t321.length co27)) (fun _ hk => hk.2) (.int .i64 t324)) (fun _ hk => hk.2) (.slice Ao28 t325.length co28)) (fun _ hk => ⟨hk.1.1.2, ⟨hk.1.2, hk.1.1.1⟩⟩)))⟩; have n6_ : Aside0 (w29.heap[gb303]? = some (.cells #[.slice A0_0 l0_0.length c0_0, .int .i64 a0_1, .slice A0_2 l0_2.length c0_2, .int .i64 a0_3, .slice A0_4 l0_4.length c0_4] 44 (0, 0))) := ⟨(by rw [hw]; exact (by refine blk_far ?_ NB303_328.out _; refine blk_far ?_ NB303_328.out _; refine blk_far ?_ NB303_328.out _; refine blk_far ?_ NB303_328.out _; refine blk_far ?_ NB303_328.out _; exact BK303.out))⟩; have n7_ : Aside0 (w29.heap[gb328]? = some (.cells #[.slice Ao24 t317.length co24, .int .i64 t320, .slice Ao27 t321.length co27, .int .i64 t324, .slice Ao28 t325.length co28] 49 (0, 0))) := ⟨(by rw [hw]; exact (by refine blk_put (cs := #[.slice Ao24 t317.length co24, .int .i64 t320, .slice Ao27 t321.length co27, .int .i64 t324, .slice none 0 0]) ?_ 4 _ rfl; refine blk_put (cs := #[.slice Ao24 t317.length co24, .int .i64 t320, .slice Ao27 t321.length co27, .int .i64 0, .slice none 0 0]) ?_ 3 _ rfl; refine blk_put (cs := #[.slice Ao24 t317.length co24, .int .i64 t320, .slice none 0 0, .int .i64 0, .slice none 0 0]) ?_ 2 _ rfl; refine blk_put (cs := #[.slice Ao24 t317.length co24, .int .i64 0, .slice none 0 0, .int .i64 0, .slice none 0 0]) ?_ 1 _ rfl; refine blk_put (cs := #[.slice none 0 0, .int .i64 0, .slice none 0 0, .int .i64 0, .slice none 0 0]) ?_ 0 _ rfl; exact BK328.out))⟩; have n8_ : Aside0 (Below w.heap.size w w29) := ⟨(by rw [hw]; exact (by repeat ((with_reducible first | exact HB.out | refine below_set ?_ GE328.out))))⟩; clear hw; clear HO307; clear HO311; clear HO315; clear HO319; clear HO323; clear HO327; clear BK303; clear BK328; clear HB; have HO307 := n0_; have HO311 := n1_; have HO315 := n2_; have HO319 := n3_; have HO323 := n4_; have HO327 := n5_; have BK303 := n6_; have BK328 := n7_; have HB := n8_; clear n0_ n1_ n2_ n3_ n4_ n5_ n6_ n7_ n8_; have hcz30_0 := bc0 BK328.out; have hcz30_1 := bc1 BK328.out; have hcz30_2 := bc2 BK328.out; have hcz30_3 := bc3 BK328.out; have hcz30_4 := bc4 BK328.out; have hfz30_0 := blk_frozen BK328.out 0; have hfz30_1 := blk_frozen BK328.out 1; have hfz30_2 := blk_frozen BK328.out 2; have hfz30_3 := blk_frozen BK328.out 3; have hfz30_4 := blk_frozen BK328.out 4) | ((with_reducible refine gate_callee (f := 31) rfl ?_); refine goesL_ (some 18) rfl rfl Try.func31 (by kernel_rfl) rfl #[.agg #[.slice Ao24 t317.length co24, .int .i64 t320, .slice Ao27 t321.length co27, .int .i64 t324, .slice Ao28 t325.length co28]] rfl (by (simp only [List.map_toArray, List.map_cons, List.map_nil]); rfl) ?_; (with_reducible refine (impl_IsDesk.calls k _ _ t317 t320 _ _ t321 t324 (fun k_ => some k_ = (.slice Ao28 t325.length co28 : Value).ownBlock) _ _ t325 t329 _ ?side1 ?side2 ?side3 ?side4 ?side5 A10.out).mono ?_); (case side1 => repeat (exact (Kd.S_reads' HO319.out).2.2)); (case side2 => exact (Kd.S_reads' HO319.out).2.1); (case side3 => repeat (exact (Kd.R_reads' HO323.out).2.2)); (case side4 => exact (Kd.R_reads' HO323.out).2.1); (case side5 => exact Kd.R_V (Kd.R_tight rfl (Kd.R_types (Kd.R_types (Kd.R_apart' (Kd.R_apart' (HO327.out) (Kd.S_typed HO307.out) (by decide)) (Kd.S_typed HO319.out) (by decide)) BK303.out (by decide)) BK328.out (by decide)))); rintro e w31 ⟨rfl, hb⟩; refine ⟨_, rfl, ?_⟩; replace HO307 := Aside0.mk (Kd.S_below HO307.out hb); replace HO311 := Aside0.mk (Kd.R_below HO311.out hb); replace HO315 := Aside0.mk (Kd.R_below HO315.out hb); replace HO319 := Aside0.mk (Kd.S_below HO319.out hb); replace HO323 := Aside0.mk (Kd.R_below HO323.out hb); replace HO327 := Aside0.mk (Kd.R_below HO327.out hb); replace BK303 := Aside0.mk (blk_below BK303.out hb); replace BK328 := Aside0.mk (blk_below BK328.out hb); replace HB := Aside0.mk (below_step HB.out hb); clear hb))
   go_ret
   exact ⟨by rfl, by exact HB.out⟩
  ·rw [if_neg c11] at H
   have c11b0 : (t329 != t316) = false := by simpa using c11
   ((have c11b1 : decide (t329 = t316) = true := by simpa using c11))
   ((have c11b2 : (t329 == t316) = true := by simpa using c11))
   clear c11
   replace H := Option.bind_eq_some_iff.mp H
   obtain ⟨⟨t330, t333, t334, t337, t338⟩, A320, H⟩ := H
   replace H : ((laws_eqDesk.f k t317 t320 t321 t324 t325 t330 t333 t334 t337 t338).bind fun t341 => (if t341 = true then (some true) else (some false))) = some r := H
   have A32 := Aside0.mk A320
   clear A320
   replace H := Option.bind_eq_some_iff.mp H
   obtain ⟨t341, A330, H⟩ := H
   replace H : (if t341 = true then (some true) else (some false)) = some r := H
   have A33 := Aside0.mk A330
   clear A330
   by_cases c34 : t341 = true
   ·subst c34
    have H1 : (some true) = some r := by rw [if_pos rfl] at H; exact H
    clear H
    have H := H1
    clear H1
    obtain rfl := Option.some.inj H
    go_enter Try.func5, Try.ntmps5
    go_wp2_with (first | ((with_reducible refine gate_dst (N := 1) rfl ?_); refine box_event ?hg (N := 1) ?hd (cs := #[.slice A0_0 l0_0.length c0_0, .int .i64 a0_1, .slice A0_2 l0_2.length c0_2, .int .i64 a0_3, .slice A0_4 l0_4.length c0_4]) (t := 44) ?hr ?_; (case hd => rfl); (case hg => rfl); (case hr => (go_simp; done)); intro gb303 hg w35 hbox hb; have BK303 := Aside0.mk (hbox); have GW303 := Aside0.mk (geg hg (below_size HB.out)); have GE303 := Aside0.mk (geg hg (below_size HB.out)); replace HB := Aside0.mk (below_step HB.out hb); clear hb hbox hg; have hcz36_0 := bc0 BK303.out; have hcz36_1 := bc1 BK303.out; have hcz36_2 := bc2 BK303.out; have hcz36_3 := bc3 BK303.out; have hcz36_4 := bc4 BK303.out; have hfz36_0 := blk_frozen BK303.out 0; have hfz36_1 := blk_frozen BK303.out 1; have hfz36_2 := blk_frozen BK303.out 2; have hfz36_3 := blk_frozen BK303.out 3; have hfz36_4 := blk_frozen BK303.out 4) | ((with_reducible refine gate_callee (f := 28) rfl ?_); refine goesL_ (some 9) rfl rfl Try.func28 (by kernel_rfl) rfl #[.agg #[.slice A0_0 l0_0.length c0_0, .int .i64 a0_1, .slice A0_2 l0_2.length c0_2, .int .i64 a0_3, .slice A0_4 l0_4.length c0_4], .int .i64 1048576] rfl (by (simp only [List.map_toArray, List.map_cons, List.map_nil]); rfl) ?_; (with_reducible refine (laws_szDesk.calls k _ _ l0_0 a0_1 _ _ l0_2 a0_3 _ _ l0_4 1048576 t304 _ ?side1 ?side2 ?side3 ?side4 ?side5 ?side6 A2.out).mono ?_); (case side1 => exact (Kd.C_below HR0_0.out HB.out)); (case side2 => exact HC0_0.out); (case side3 => exact (Kd.C_below HR0_2.out HB.out)); (case side4 => exact HC0_2.out); (case side5 => exact (Kd.C_below HR0_4.out HB.out)); (case side6 => exact HC0_4.out); rintro e w37 ⟨rfl, hb⟩; refine ⟨_, rfl, ?_⟩; replace BK303 := Aside0.mk (blk_below BK303.out hb); replace HB := Aside0.mk (below_step HB.out hb); clear hb; have hcz38_0 := bc0 BK303.out; have hcz38_1 := bc1 BK303.out; have hcz38_2 := bc2 BK303.out; have hcz38_3 := bc3 BK303.out; have hcz38_4 := bc4 BK303.out; have hfz38_0 := blk_frozen BK303.out 0; have hfz38_1 := blk_frozen BK303.out 1; have hfz38_2 := blk_frozen BK303.out 2; have hfz38_3 := blk_frozen BK303.out 3; have hfz38_4 := blk_frozen BK303.out 4) | ((with_reducible refine gate_callee (f := 30) rfl ?_); refine goesL_ (some 13) rfl rfl Try.func30 (by kernel_rfl) rfl #[.agg #[.slice A0_0 l0_0.length c0_0, .int .i64 a0_1, .slice A0_2 l0_2.length c0_2, .int .i64 a0_3, .slice A0_4 l0_4.length c0_4]] rfl (by (simp only [List.map_toArray, List.map_cons, List.map_nil]); rfl) ?_; (with_reducible refine (laws_toDesk.calls k _ _ l0_0 a0_1 _ _ l0_2 a0_3 _ _ l0_4 t305 t308 t309 t312 t313 _ ?side1 ?side2 ?side3 ?side4 ?side5 ?side6 A7.out).mono ?_); (case side1 => exact (Kd.C_below HR0_0.out HB.out)); (case side2 => exact HC0_0.out); (case side3 => exact (Kd.C_below HR0_2.out HB.out)); (case side4 => exact HC0_2.out); (case side5 => exact (Kd.C_below HR0_4.out HB.out)); (case side6 => exact HC0_4.out); rintro e w39 ⟨v306, v310, v314, rfl, ho0, ho1, ho2, hb⟩; refine ⟨_, rfl, ?_⟩; have HO307 := Aside0.mk (Kd.S_lower ho0 (below_size HB.out)); have HO311 := Aside0.mk (Kd.R_lower ho1 (below_size HB.out)); have HO315 := Aside0.mk (Kd.R_lower ho2 (below_size HB.out)); replace BK303 := Aside0.mk (blk_below BK303.out hb); replace HB := Aside0.mk (below_step HB.out hb); clear hb ho0 ho1 ho2; obtain ⟨Ao40, co40, eo40⟩ := Kd.S_slice HO307.out; subst eo40; obtain ⟨Ao41, co41, eo41⟩ := Kd.R_slice HO311.out; subst eo41; obtain ⟨Ao42, co42, eo42⟩ := Kd.R_slice HO315.out; subst eo42) | ((with_reducible refine gate_callee (f := 29) rfl ?_); refine goesL_ (some 14) rfl rfl Try.func29 (by kernel_rfl) rfl #[.agg #[.slice Ao40 t305.length co40, .int .i64 t308, .slice Ao41 t309.length co41, .int .i64 t312, .slice Ao42 t313.length co42]] rfl (by (simp only [List.map_toArray, List.map_cons, List.map_nil]); rfl) ?_; (with_reducible refine (spec_IsDesk.calls k _ _ t305 t308 _ _ t309 t312 (fun k_ => some k_ = (.slice Ao42 t313.length co42 : Value).ownBlock) _ _ t313 t316 _ ?side1 ?side2 ?side3 ?side4 ?side5 A8.out).mono ?_); (case side1 => repeat (exact (Kd.S_reads' HO307.out).2.2)); (case side2 => exact (Kd.S_reads' HO307.out).2.1); (case side3 => repeat (exact (Kd.R_reads' HO311.out).2.2)); (case side4 => exact (Kd.R_reads' HO311.out).2.1); (case side5 => exact Kd.R_V (Kd.R_tight rfl (Kd.R_types (Kd.R_apart' (HO315.out) (Kd.S_typed HO307.out) (by decide)) BK303.out (by decide)))); rintro e w43 ⟨rfl, hb⟩; refine ⟨_, rfl, ?_⟩; replace HO307 := Aside0.mk (Kd.S_below HO307.out hb); replace HO311 := Aside0.mk (Kd.R_below HO311.out hb); replace HO315 := Aside0.mk (Kd.R_below HO315.out hb); replace BK303 := Aside0.mk (blk_below BK303.out hb); replace HB := Aside0.mk (below_step HB.out hb); clear hb; have hcz44_0 := bc0 BK303.out; have hcz44_1 := bc1 BK303.out; have hcz44_2 := bc2 BK303.out; have hcz44_3 := bc3 BK303.out; have hcz44_4 := bc4 BK303.out; have hfz44_0 := blk_frozen BK303.out 0; have hfz44_1 := blk_frozen BK303.out 1; have hfz44_2 := blk_frozen BK303.out 2; have hfz44_3 := blk_frozen BK303.out 3; have hfz44_4 := blk_frozen BK303.out 4) | ((with_reducible refine gate_callee (f := 30) rfl ?_); refine goesL_ (some 16) rfl rfl Try.func30 (by kernel_rfl) rfl #[.agg #[.slice A0_0 l0_0.length c0_0, .int .i64 a0_1, .slice A0_2 l0_2.length c0_2, .int .i64 a0_3, .slice A0_4 l0_4.length c0_4]] rfl (by (simp only [List.map_toArray, List.map_cons, List.map_nil]); rfl) ?_; (with_reducible refine (laws_toDesk.calls k _ _ l0_0 a0_1 _ _ l0_2 a0_3 _ _ l0_4 t317 t320 t321 t324 t325 _ ?side1 ?side2 ?side3 ?side4 ?side5 ?side6 A9.out).mono ?_); (case side1 => exact (Kd.C_below HR0_0.out HB.out)); (case side2 => exact HC0_0.out); (case side3 => exact (Kd.C_below HR0_2.out HB.out)); (case side4 => exact HC0_2.out); (case side5 => exact (Kd.C_below HR0_4.out HB.out)); (case side6 => exact HC0_4.out); rintro e w45 ⟨v318, v322, v326, rfl, ho0, ho1, ho2, hb⟩; refine ⟨_, rfl, ?_⟩; have HO319 := Aside0.mk (Kd.S_lower (Kd.S_new' (Kd.S_new' (Kd.S_new' ho0 (Kd.S_lt HO307.out)) (Kd.R_lt HO311.out)) (Kd.R_lt HO315.out)) (below_size HB.out)); replace HO307 := Aside0.mk (Kd.S_mono (Kd.S_told (Kd.S_told (Kd.S_told (Kd.S_old HO307.out hb) (Kd.S_base ho0)) (Kd.R_base ho1)) (Kd.R_base ho2)) (fun _ h_ => h_.1)); have HO323 := Aside0.mk (Kd.R_lower (Kd.R_new' (Kd.R_new' ho1 (Kd.R_lt HO311.out)) (Kd.R_lt HO315.out)) (below_size HB.out)); have HO327 := Aside0.mk (Kd.R_lower (Kd.R_new' (Kd.R_new' ho2 (Kd.R_lt HO311.out)) (Kd.R_lt HO315.out)) (below_size HB.out)); replace HO311 := Aside0.mk (Kd.R_mono (Kd.R_told (Kd.R_told (Kd.R_old HO311.out hb) (Kd.R_base ho1)) (Kd.R_base ho2)) (fun _ h_ => h_.1)); replace HO315 := Aside0.mk (Kd.R_mono (Kd.R_told (Kd.R_told (Kd.R_old HO315.out hb) (Kd.R_base ho1)) (Kd.R_base ho2)) (fun _ h_ => h_.1)); replace BK303 := Aside0.mk (blk_below BK303.out hb); replace HB := Aside0.mk (below_step HB.out hb); clear hb ho0 ho1 ho2) | ((with_reducible refine gate_dst (N := 5) rfl ?_); refine box_event ?hg (N := 5) ?hd (cs := #[.slice none 0 0, .int .i64 0, .slice none 0 0, .int .i64 0, .slice none 0 0]) (t := 49) ?hr ?_; (case hd => rfl); (case hg => rfl); (case hr => (go_simp; done)); intro gb328 hg w46 hbox hb; replace HO307 := Aside0.mk (Kd.S_below HO307.out hb); replace HO311 := Aside0.mk (Kd.R_below HO311.out hb); replace HO315 := Aside0.mk (Kd.R_below HO315.out hb); replace HO319 := Aside0.mk (Kd.S_below HO319.out hb); replace HO323 := Aside0.mk (Kd.R_below HO323.out hb); replace HO327 := Aside0.mk (Kd.R_below HO327.out hb); have BK328 := Aside0.mk (hbox); have GW328 := Aside0.mk (geg hg (below_size HB.out)); have GE328 := Aside0.mk (geg hg (below_size HB.out)); replace HB := Aside0.mk (below_step HB.out hb); have NB303_328 := Aside0.mk ((by rw [hg]; exact Nat.ne_of_lt (blk_lt BK303.out) : gb303 ≠ gb328)); have NB328_303 := Aside0.mk ((by rw [hg]; exact Nat.ne_of_gt (blk_lt BK303.out) : gb328 ≠ gb303)); replace BK303 := Aside0.mk (blk_below BK303.out hb); clear hb hbox hg; obtain ⟨Ao47, co47, eo47⟩ := Kd.S_slice HO319.out; subst eo47; have hnb48 := NB328_303.out; have hnc48 := NB303_328.out; have hcz49_0 := bc0 BK328.out; have hcz49_1 := bc1 BK328.out; have hcz49_2 := bc2 BK328.out; have hcz49_3 := bc3 BK328.out; have hcz49_4 := bc4 BK328.out; have hfz49_0 := blk_frozen BK328.out 0; have hfz49_1 := blk_frozen BK328.out 1; have hfz49_2 := blk_frozen BK328.out 2; have hfz49_3 := blk_frozen BK328.out 3; have hfz49_4 := blk_frozen BK328.out 4; obtain ⟨Ao50, co50, eo50⟩ := Kd.R_slice HO323.out; subst eo50; obtain ⟨Ao51, co51, eo51⟩ := Kd.R_slice HO327.out; subst eo51) | ((with_reducible refine gate_store (t := 49) (p := 5) rfl ?_); refine store_event (t := 49) (p := 5) (v := ?vo_w52) (w1 := (((((w46.setCell ⟨gb328, 0, none⟩ (.slice Ao47 t317.length co47)).setCell ⟨gb328, 1, none⟩ (.int .i64 t320)).setCell ⟨gb328, 2, none⟩ (.slice Ao50 t321.length co50)).setCell ⟨gb328, 3, none⟩ (.int .i64 t324)).setCell ⟨gb328, 4, none⟩ (.slice Ao51 t325.length co51))) ?hg ?ho ?hn ?hr ?_; (case ho => rfl); (case hg => rfl); (case hn => rfl); (case hr => (go_simp; done)); intro w52 hw; have n0_ : Aside0 (Kd.S (Kd.slice 2 (Kd.int .i64)) 25 w52 w.heap.size (fun k_ => some k_ ≠ (.slice Ao41 t309.length co41 : Value).ownBlock ∧ some k_ ≠ (.slice Ao42 t313.length co42 : Value).ownBlock ∧ some k_ ≠ (.slice Ao47 t317.length co47 : Value).ownBlock ∧ some k_ ≠ (.slice Ao50 t321.length co50 : Value).ownBlock ∧ some k_ ≠ (.slice Ao51 t325.length co51 : Value).ownBlock) (.slice Ao40 t305.length co40) t305) := ⟨(by rw [hw]; exact (by exact Kd.S_mono (Kd.S_far (p := ⟨gb328, 4, none⟩) (Kd.S_far (p := ⟨gb328, 3, none⟩) (Kd.S_far (p := ⟨gb328, 2, none⟩) (Kd.S_far (p := ⟨gb328, 1, none⟩) (Kd.S_far (p := ⟨gb328, 0, none⟩) (Kd.S_types HO307.out BK328.out (by decide)) (fun _ hk => hk.2) (.slice Ao47 t317.length co47)) (fun _ hk => hk.2) (.int .i64 t320)) (fun _ hk => hk.2) (.slice Ao50 t321.length co50)) (fun _ hk => hk.2) (.int .i64 t324)) (fun _ hk => hk.2) (.slice Ao51 t325.length co51)) (fun _ hk => ⟨hk.1.1.1.1.1, ⟨hk.1.1.1.1.2, ⟨hk.1.1.1.2, ⟨hk.1.1.2, hk.1.2⟩⟩⟩⟩)))⟩; have n1_ : Aside0 (Kd.R (Kd.int .i64) 2 w52 w.heap.size (fun k_ => some k_ ≠ (.slice Ao42 t313.length co42 : Value).ownBlock ∧ some k_ ≠ (.slice Ao50 t321.length co50 : Value).ownBlock ∧ some k_ ≠ (.slice Ao51 t325.length co51 : Value).ownBlock) (.slice Ao41 t309.length co41) t309) := ⟨(by rw [hw]; exact (by exact Kd.R_mono (Kd.R_far (p := ⟨gb328, 4, none⟩) (Kd.R_far (p := ⟨gb328, 3, none⟩) (Kd.R_far (p := ⟨gb328, 2, none⟩) (Kd.R_far (p := ⟨gb328, 1, none⟩) (Kd.R_far (p := ⟨gb328, 0, none⟩) (Kd.R_types HO311.out BK328.out (by decide)) (fun _ hk => hk.2) (.slice Ao47 t317.length co47)) (fun _ hk => hk.2) (.int .i64 t320)) (fun _ hk => hk.2) (.slice Ao50 t321.length co50)) (fun _ hk => hk.2) (.int .i64 t324)) (fun _ hk => hk.2) (.slice Ao51 t325.length co51)) (fun _ hk => ⟨hk.1.1.1, ⟨hk.1.1.2, hk.1.2⟩⟩)))⟩; have n2_ : Aside0 (Kd.R (Kd.int .i64) 2 w52 w.heap.size (fun k_ => some k_ ≠ (.slice Ao41 t309.length co41 : Value).ownBlock ∧ some k_ ≠ (.slice Ao50 t321.length co50 : Value).ownBlock ∧ some k_ ≠ (.slice Ao51 t325.length co51 : Value).ownBlock) (.slice Ao42 t313.length co42) t313) := ⟨(by rw [hw]; exact (by exact Kd.R_mono (Kd.R_far (p := ⟨gb328, 4, none⟩) (Kd.R_far (p := ⟨gb328, 3, none⟩) (Kd.R_far (p := ⟨gb328, 2, none⟩) (Kd.R_far (p := ⟨gb328, 1, none⟩) (Kd.R_far (p := ⟨gb328, 0, none⟩) (Kd.R_types HO315.out BK328.out (by decide)) (fun _ hk => hk.2) (.slice Ao47 t317.length co47)) (fun _ hk => hk.2) (.int .i64 t320)) (fun _ hk => hk.2) (.slice Ao50 t321.length co50)) (fun _ hk => hk.2) (.int .i64 t324)) (fun _ hk => hk.2) (.slice Ao51 t325.length co51)) (fun _ hk => ⟨hk.1.1.1, ⟨hk.1.1.2, hk.1.2⟩⟩)))⟩; have n3_ : Aside0 (Kd.S (Kd.slice 2 (Kd.int .i64)) 25 w52 w.heap.size (fun k_ => some k_ ≠ (.slice Ao40 t305.length co40 : Value).ownBlock ∧ some k_ ≠ (.slice Ao41 t309.length co41 : Value).ownBlock ∧ some k_ ≠ (.slice Ao42 t313.length co42 : Value).ownBlock ∧ some k_ ≠ (.slice Ao50 t321.length co50 : Value).ownBlock ∧ some k_ ≠ (.slice Ao51 t325.length co51 : Value).ownBlock) (.slice Ao47 t317.length co47) t317) := ⟨(by rw [hw]; exact (by exact Kd.S_mono (Kd.S_far (p := ⟨gb328, 4, none⟩) (Kd.S_far (p := ⟨gb328, 3, none⟩) (Kd.S_far (p := ⟨gb328, 2, none⟩) (Kd.S_far (p := ⟨gb328, 1, none⟩) (Kd.S_far (p := ⟨gb328, 0, none⟩) (Kd.S_types HO319.out BK328.out (by decide)) (fun _ hk => hk.2) (.slice Ao47 t317.length co47)) (fun _ hk => hk.2) (.int .i64 t320)) (fun _ hk => hk.2) (.slice Ao50 t321.length co50)) (fun _ hk => hk.2) (.int .i64 t324)) (fun _ hk => hk.2) (.slice Ao51 t325.length co51)) (fun _ hk => ⟨hk.1.1.1.2, ⟨hk.1.1.2, ⟨hk.1.2, ⟨hk.1.1.1.1.1, hk.1.1.1.1.2⟩⟩⟩⟩)))⟩; have n4_ : Aside0 (Kd.R (Kd.int .i64) 2 w52 w.heap.size (fun k_ => some k_ ≠ (.slice Ao41 t309.length co41 : Value).ownBlock ∧ some k_ ≠ (.slice Ao42 t313.length co42 : Value).ownBlock ∧ some k_ ≠ (.slice Ao51 t325.length co51 : Value).ownBlock) (.slice Ao50 t321.length co50) t321) := ⟨(by rw [hw]; exact (by exact Kd.R_mono (Kd.R_far (p := ⟨gb328, 4, none⟩) (Kd.R_far (p := ⟨gb328, 3, none⟩) (Kd.R_far (p := ⟨gb328, 2, none⟩) (Kd.R_far (p := ⟨gb328, 1, none⟩) (Kd.R_far (p := ⟨gb328, 0, none⟩) (Kd.R_types HO323.out BK328.out (by decide)) (fun _ hk => hk.2) (.slice Ao47 t317.length co47)) (fun _ hk => hk.2) (.int .i64 t320)) (fun _ hk => hk.2) (.slice Ao50 t321.length co50)) (fun _ hk => hk.2) (.int .i64 t324)) (fun _ hk => hk.2) (.slice Ao51 t325.length co51)) (fun _ hk => ⟨hk.1.1.2, ⟨hk.1.2, hk.1.1.1⟩⟩)))⟩; have n5_ : Aside0 (Kd.R (Kd.int .i64) 2 w52 w.heap.size (fun k_ => some k_ ≠ (.slice Ao41 t309.length co41 : Value).ownBlock ∧ some k_ ≠ (.slice Ao42 t313.length co42 : Value).ownBlock ∧ some k_ ≠ (.slice Ao50 t321.length co50 : Value).ownBlock) (.slice Ao51 t325.length co51) t325) := ⟨(by rw [hw]; exact (by exact Kd.R_mono (Kd.R_far (p := ⟨gb328, 4, none⟩) (Kd.R_far (p := ⟨gb328, 3, none⟩) (Kd.R_far (p := ⟨gb328, 2, none⟩) (Kd.R_far (p := ⟨gb328, 1, none⟩) (Kd.R_far (p := ⟨gb328, 0, none⟩) (Kd.R_types HO327.out BK328.out (by decide)) (fun _ hk => hk.2) (.slice Ao47 t317.length co47)) (fun _ hk => hk.2) (.int .i64 t320)) (fun _ hk => hk.2) (.slice Ao50 t321.length co50)) (fun _ hk => hk.2) (.int .i64 t324)) (fun _ hk => hk.2) (.slice Ao51 t325.length co51)) (fun _ hk => ⟨hk.1.1.2, ⟨hk.1.2, hk.1.1.1⟩⟩)))⟩; have n6_ : Aside0 (w52.heap[gb303]? = some (.cells #[.slice A0_0 l0_0.length c0_0, .int .i64 a0_1, .slice A0_2 l0_2.length c0_2, .int .i64 a0_3, .slice A0_4 l0_4.length c0_4] 44 (0, 0))) := ⟨(by rw [hw]; exact (by refine blk_far ?_ NB303_328.out _; refine blk_far ?_ NB303_328.out _; refine blk_far ?_ NB303_328.out _; refine blk_far ?_ NB303_328.out _; refine blk_far ?_ NB303_328.out _; exact BK303.out))⟩; have n7_ : Aside0 (w52.heap[gb328]? = some (.cells #[.slice Ao47 t317.length co47, .int .i64 t320, .slice Ao50 t321.length co50, .int .i64 t324, .slice Ao51 t325.length co51] 49 (0, 0))) := ⟨(by rw [hw]; exact (by refine blk_put (cs := #[.slice Ao47 t317.length co47, .int .i64 t320, .slice Ao50 t321.length co50, .int .i64 t324, .slice none 0 0]) ?_ 4 _ rfl; refine blk_put (cs := #[.slice Ao47 t317.length co47, .int .i64 t320, .slice Ao50 t321.length co50, .int .i64 0, .slice none 0 0]) ?_ 3 _ rfl; refine blk_put (cs := #[.slice Ao47 t317.length co47, .int .i64 t320, .slice none 0 0, .int .i64 0, .slice none 0 0]) ?_ 2 _ rfl; refine blk_put (cs := #[.slice Ao47 t317.length co47, .int .i64 0, .slice none 0 0, .int .i64 0, .slice none 0 0]) ?_ 1 _ rfl; refine blk_put (cs := #[.slice none 0 0, .int .i64 0, .slice none 0 0, .int .i64 0, .slice none 0 0]) ?_ 0 _ rfl; exact BK328.out))⟩; have n8_ : Aside0 (Below w.heap.size w w52) := ⟨(by rw [hw]; exact (by repeat ((with_reducible first | exact HB.out | refine below_set ?_ GE328.out))))⟩; clear hw; clear HO307; clear HO311; clear HO315; clear HO319; clear HO323; clear HO327; clear BK303; clear BK328; clear HB; have HO307 := n0_; have HO311 := n1_; have HO315 := n2_; have HO319 := n3_; have HO323 := n4_; have HO327 := n5_; have BK303 := n6_; have BK328 := n7_; have HB := n8_; clear n0_ n1_ n2_ n3_ n4_ n5_ n6_ n7_ n8_; have hcz53_0 := bc0 BK328.out; have hcz53_1 := bc1 BK328.out; have hcz53_2 := bc2 BK328.out; have hcz53_3 := bc3 BK328.out; have hcz53_4 := bc4 BK328.out; have hfz53_0 := blk_frozen BK328.out 0; have hfz53_1 := blk_frozen BK328.out 1; have hfz53_2 := blk_frozen BK328.out 2; have hfz53_3 := blk_frozen BK328.out 3; have hfz53_4 := blk_frozen BK328.out 4) | ((with_reducible refine gate_callee (f := 31) rfl ?_); refine goesL_ (some 18) rfl rfl Try.func31 (by kernel_rfl) rfl #[.agg #[.slice Ao47 t317.length co47, .int .i64 t320, .slice Ao50 t321.length co50, .int .i64 t324, .slice Ao51 t325.length co51]] rfl (by (simp only [List.map_toArray, List.map_cons, List.map_nil]); rfl) ?_; (with_reducible refine (impl_IsDesk.calls k _ _ t317 t320 _ _ t321 t324 (fun k_ => some k_ = (.slice Ao51 t325.length co51 : Value).ownBlock) _ _ t325 t329 _ ?side1 ?side2 ?side3 ?side4 ?side5 A10.out).mono ?_); (case side1 => repeat (exact (Kd.S_reads' HO319.out).2.2)); (case side2 => exact (Kd.S_reads' HO319.out).2.1); (case side3 => repeat (exact (Kd.R_reads' HO323.out).2.2)); (case side4 => exact (Kd.R_reads' HO323.out).2.1); (case side5 => exact Kd.R_V (Kd.R_tight rfl (Kd.R_types (Kd.R_types (Kd.R_apart' (Kd.R_apart' (HO327.out) (Kd.S_typed HO307.out) (by decide)) (Kd.S_typed HO319.out) (by decide)) BK303.out (by decide)) BK328.out (by decide)))); rintro e w54 ⟨rfl, hb⟩; refine ⟨_, rfl, ?_⟩; replace HO307 := Aside0.mk (Kd.S_below HO307.out hb); replace HO311 := Aside0.mk (Kd.R_below HO311.out hb); replace HO315 := Aside0.mk (Kd.R_below HO315.out hb); replace HO319 := Aside0.mk (Kd.S_below HO319.out hb); replace HO323 := Aside0.mk (Kd.R_below HO323.out hb); replace HO327 := Aside0.mk (Kd.R_below HO327.out hb); replace BK303 := Aside0.mk (blk_below BK303.out hb); replace BK328 := Aside0.mk (blk_below BK328.out hb); replace HB := Aside0.mk (below_step HB.out hb); clear hb))
    have n0_ := Aside0.mk (Kd.S_drew HO307.out)
    have n1_ := Aside0.mk (Kd.R_drew HO311.out)
    have n2_ := Aside0.mk (Kd.R_drew HO315.out)
    have n3_ := Aside0.mk (Kd.S_drew HO319.out)
    have n4_ := Aside0.mk (Kd.R_drew HO323.out)
    have n5_ := Aside0.mk (Kd.R_drew HO327.out)
    have n6_ := Aside0.mk (blk_drew BK303.out)
    have n7_ := Aside0.mk (blk_drew BK328.out)
    have n8_ := Aside0.mk (below_drew1 HB.out)
    clear HO307
    clear HO311
    clear HO315
    clear HO319
    clear HO323
    clear HO327
    clear BK303
    clear BK328
    clear HB
    have HO307 := n0_
    have HO311 := n1_
    have HO315 := n2_
    have HO319 := n3_
    have HO323 := n4_
    have HO327 := n5_
    have BK303 := n6_
    have BK328 := n7_
    have HB := n8_
    clear n0_ n1_ n2_ n3_ n4_ n5_ n6_ n7_ n8_
    refine start_ (n := 5) (S := fun w' => w'.cell? ⟨gb328, 0, none⟩ = some (.slice Ao47 t317.length co47) ∧ w'.cell? ⟨gb328, 1, none⟩ = some (.int .i64 t320) ∧ w'.cell? ⟨gb328, 2, none⟩ = some (.slice Ao50 t321.length co50) ∧ w'.cell? ⟨gb328, 3, none⟩ = some (.int .i64 t324) ∧ w'.cell? ⟨gb328, 4, none⟩ = some (.slice Ao51 t325.length co51) ∧ w'.cell? ⟨gb303, 0, none⟩ = some (.slice A0_0 l0_0.length c0_0) ∧ w'.cell? ⟨gb303, 1, none⟩ = some (.int .i64 a0_1) ∧ w'.cell? ⟨gb303, 2, none⟩ = some (.slice A0_2 l0_2.length c0_2) ∧ w'.cell? ⟨gb303, 3, none⟩ = some (.int .i64 a0_3) ∧ w'.cell? ⟨gb303, 4, none⟩ = some (.slice A0_4 l0_4.length c0_4)) (ds := []) #[false,false,false,false,false] (by kernel_rfl) rfl rfl ⟨(blk_cell BK328.out 0).trans rfl, (blk_cell BK328.out 1).trans rfl, (blk_cell BK328.out 2).trans rfl, (blk_cell BK328.out 3).trans rfl, (blk_cell BK328.out 4).trans rfl, (blk_cell BK303.out 0).trans rfl, (blk_cell BK303.out 1).trans rfl, (blk_cell BK303.out 2).trans rfl, (blk_cell BK303.out 3).trans rfl, (blk_cell BK303.out 4).trans rfl⟩ (fun hHeld => ?_)
    generalize w54.drew = w55 at HO307 HO311 HO315 HO319 HO323 HO327 BK303 BK328 HB hHeld ⊢
    refine take_ (i := 0) (N := some 22) (v := ?_) (a' := ?_) #[true,false,false,false,false] rfl rfl (by kernel_rfl) (fun _ _ _ h => h) (Or.inl ⟨by rfl, ?_⟩) hHeld ?_ ?_
    rotate_left
    ·rintro w' ⟨s0, s1, s2, s3, s4, s5, s6, s7, s8, s9⟩
     go_simp
     with_reducible rfl
    rotate_left
    ·simp only [Act.put, List.setIfInBounds_toArray, List.set_cons_zero, List.set_cons_succ, i64_w, i32_w]
     rfl
    refine take_ (i := 1) (N := some 23) (v := ?_) (a' := ?_) #[true,true,false,false,false] rfl rfl (by kernel_rfl) (fun _ _ _ h => h) (Or.inl ⟨by rfl, ?_⟩) hHeld ?_ ?_
    rotate_left
    ·rintro w' ⟨s0, s1, s2, s3, s4, s5, s6, s7, s8, s9⟩
     go_simp
     with_reducible rfl
    rotate_left
    ·simp only [Act.put, List.setIfInBounds_toArray, List.set_cons_zero, List.set_cons_succ, i64_w, i32_w]
     rfl
    refine one_ (i := 2) (N := some 24) #[true,true,true,false,false] rfl rfl (by kernel_rfl) (by decide) (fun K hK => ?_)
    refine goes_ Try.func30 (by kernel_rfl) rfl #[.agg #[.slice A0_0 l0_0.length c0_0, .int .i64 a0_1, .slice A0_2 l0_2.length c0_2, .int .i64 a0_3, .slice A0_4 l0_4.length c0_4]] (by rfl) rfl rfl (by (simp only [List.map_toArray, List.map_cons, List.map_nil]); rfl) ?_
    with_reducible refine (laws_toDesk.calls k _ _ l0_0 a0_1 _ _ l0_2 a0_3 _ _ l0_4 t330 t333 t334 t337 t338 _ ?side1 ?side2 ?side3 ?side4 ?side5 ?side6 A32.out).mono ?_
    (case side1 => exact (Kd.C_below HR0_0.out HB.out))
    (case side2 => exact HC0_0.out)
    (case side3 => exact (Kd.C_below HR0_2.out HB.out))
    (case side4 => exact HC0_2.out)
    (case side5 => exact (Kd.C_below HR0_4.out HB.out))
    (case side6 => exact HC0_4.out)
    rintro e w56 ⟨v331, v335, v339, rfl, ho0, ho1, ho2, hb⟩
    refine ⟨_, rfl, ?_⟩
    have n0_ := Aside0.mk (Kd.S_mono (Kd.S_told (Kd.S_told (Kd.S_told (Kd.S_old HO307.out hb) (Kd.S_base ho0)) (Kd.R_base ho1)) (Kd.R_base ho2)) (fun _ h_ => h_.1))
    have n1_ := Aside0.mk (Kd.R_mono (Kd.R_told (Kd.R_told (Kd.R_old HO311.out hb) (Kd.R_base ho1)) (Kd.R_base ho2)) (fun _ h_ => h_.1))
    have n2_ := Aside0.mk (Kd.R_mono (Kd.R_told (Kd.R_told (Kd.R_old HO315.out hb) (Kd.R_base ho1)) (Kd.R_base ho2)) (fun _ h_ => h_.1))
    have n3_ := Aside0.mk (Kd.S_mono (Kd.S_told (Kd.S_told (Kd.S_told (Kd.S_old HO319.out hb) (Kd.S_base ho0)) (Kd.R_base ho1)) (Kd.R_base ho2)) (fun _ h_ => h_.1))
    have n4_ := Aside0.mk (Kd.R_mono (Kd.R_told (Kd.R_told (Kd.R_old HO323.out hb) (Kd.R_base ho1)) (Kd.R_base ho2)) (fun _ h_ => h_.1))
    have n5_ := Aside0.mk (Kd.R_mono (Kd.R_told (Kd.R_told (Kd.R_old HO327.out hb) (Kd.R_base ho1)) (Kd.R_base ho2)) (fun _ h_ => h_.1))
    have n6_ := Aside0.mk (Kd.S_lower (Kd.S_new' (Kd.S_new' (Kd.S_new' (Kd.S_new' (Kd.S_new' (Kd.S_new' ho0 (Kd.S_lt HO307.out)) (Kd.R_lt HO311.out)) (Kd.R_lt HO315.out)) (Kd.S_lt HO319.out)) (Kd.R_lt HO323.out)) (Kd.R_lt HO327.out)) (below_size HB.out))
    have n7_ := Aside0.mk (Kd.R_lower (Kd.R_new' (Kd.R_new' (Kd.R_new' (Kd.R_new' ho1 (Kd.R_lt HO311.out)) (Kd.R_lt HO315.out)) (Kd.R_lt HO323.out)) (Kd.R_lt HO327.out)) (below_size HB.out))
    have n8_ := Aside0.mk (Kd.R_lower (Kd.R_new' (Kd.R_new' (Kd.R_new' (Kd.R_new' ho2 (Kd.R_lt HO311.out)) (Kd.R_lt HO315.out)) (Kd.R_lt HO323.out)) (Kd.R_lt HO327.out)) (below_size HB.out))
    have n9_ := Aside0.mk (blk_below BK303.out hb)
    have n10_ := Aside0.mk (blk_below BK328.out hb)
    have n11_ := Aside0.mk (below_step HB.out hb)
    clear HO307
    clear HO311
    clear HO315
    clear HO319
    clear HO323
    clear HO327
    clear BK303
    clear BK328
    clear HB
    have HO307 := n0_
    have HO311 := n1_
    have HO315 := n2_
    have HO319 := n3_
    have HO323 := n4_
    have HO327 := n5_
    have HO332 := n6_
    have HO336 := n7_
    have HO340 := n8_
    have BK303 := n9_
    have BK328 := n10_
    have HB := n11_
    clear n0_ n1_ n2_ n3_ n4_ n5_ n6_ n7_ n8_ n9_ n10_ n11_
    clear hb
    clear ho0
    clear ho1
    clear ho2
    obtain ⟨Ao57, co57, eo57⟩ := Kd.S_slice HO332.out
    (subst eo57)
    obtain ⟨Ao58, co58, eo58⟩ := Kd.R_slice HO336.out
    (subst eo58)
    obtain ⟨Ao59, co59, eo59⟩ := Kd.R_slice HO340.out
    (subst eo59)
    refine hK.out _ _ ⟨(blk_cell BK328.out 0).trans rfl, (blk_cell BK328.out 1).trans rfl, (blk_cell BK328.out 2).trans rfl, (blk_cell BK328.out 3).trans rfl, (blk_cell BK328.out 4).trans rfl, (blk_cell BK303.out 0).trans rfl, (blk_cell BK303.out 1).trans rfl, (blk_cell BK303.out 2).trans rfl, (blk_cell BK303.out 3).trans rfl, (blk_cell BK303.out 4).trans rfl⟩ (fun hHeld => ?_)
    clear hK K
    refine norm_ (a' := ?_) ?_ ?_
    rotate_left
    ·show Act.put _ (some 24) _ = _
     simp only [Act.put, List.setIfInBounds_toArray, List.set_cons_zero, List.set_cons_succ, i64_w, i32_w]
     rfl
    refine one_ (i := 3) (N := some 25) #[true,true,true,true,false] rfl rfl (by kernel_rfl) (by decide) (fun K hK => ?_)
    refine goes_ Try.func32 (by kernel_rfl) rfl #[.agg #[.slice Ao47 t317.length co47, .int .i64 t320, .slice Ao50 t321.length co50, .int .i64 t324, .slice Ao51 t325.length co51], .agg #[.slice Ao57 t330.length co57, .int .i64 t333, .slice Ao58 t334.length co58, .int .i64 t337, .slice Ao59 t338.length co59]] (by rfl) rfl rfl (by (simp only [List.map_toArray, List.map_cons, List.map_nil]); rfl) ?_
    with_reducible refine (laws_eqDesk.calls k _ _ t317 t320 _ _ t321 t324 _ _ t325 _ _ t330 t333 _ _ t334 t337 _ _ t338 true _ ?side1 ?side2 ?side3 ?side4 ?side5 ?side6 ?side7 ?side8 ?side9 ?side10 ?side11 ?side12 A33.out).mono ?_
    (case side1 => repeat (exact (Kd.S_reads' HO319.out).2.2))
    (case side2 => exact (Kd.S_reads' HO319.out).2.1)
    (case side3 => repeat (exact (Kd.R_reads' HO323.out).2.2))
    (case side4 => exact (Kd.R_reads' HO323.out).2.1)
    (case side5 => repeat (exact (Kd.R_reads' HO327.out).2.2))
    (case side6 => exact (Kd.R_reads' HO327.out).2.1)
    (case side7 => repeat (exact (Kd.S_reads' HO332.out).2.2))
    (case side8 => exact (Kd.S_reads' HO332.out).2.1)
    (case side9 => repeat (exact (Kd.R_reads' HO336.out).2.2))
    (case side10 => exact (Kd.R_reads' HO336.out).2.1)
    (case side11 => repeat (exact (Kd.R_reads' HO340.out).2.2))
    (case side12 => exact (Kd.R_reads' HO340.out).2.1)
    rintro e w60 ⟨rfl, hb⟩
    refine ⟨_, rfl, ?_⟩
    have n0_ := Aside0.mk (Kd.S_below HO307.out hb)
    have n1_ := Aside0.mk (Kd.R_below HO311.out hb)
    have n2_ := Aside0.mk (Kd.R_below HO315.out hb)
    have n3_ := Aside0.mk (Kd.S_below HO319.out hb)
    have n4_ := Aside0.mk (Kd.R_below HO323.out hb)
    have n5_ := Aside0.mk (Kd.R_below HO327.out hb)
    have n6_ := Aside0.mk (Kd.S_below HO332.out hb)
    have n7_ := Aside0.mk (Kd.R_below HO336.out hb)
    have n8_ := Aside0.mk (Kd.R_below HO340.out hb)
    have n9_ := Aside0.mk (blk_below BK303.out hb)
    have n10_ := Aside0.mk (blk_below BK328.out hb)
    have n11_ := Aside0.mk (below_step HB.out hb)
    clear HO307
    clear HO311
    clear HO315
    clear HO319
    clear HO323
    clear HO327
    clear HO332
    clear HO336
    clear HO340
    clear BK303
    clear BK328
    clear HB
    have HO307 := n0_
    have HO311 := n1_
    have HO315 := n2_
    have HO319 := n3_
    have HO323 := n4_
    have HO327 := n5_
    have HO332 := n6_
    have HO336 := n7_
    have HO340 := n8_
    have BK303 := n9_
    have BK328 := n10_
    have HB := n11_
    clear n0_ n1_ n2_ n3_ n4_ n5_ n6_ n7_ n8_ n9_ n10_ n11_
    clear hb
    refine hK.out _ _ ⟨(blk_cell BK328.out 0).trans rfl, (blk_cell BK328.out 1).trans rfl, (blk_cell BK328.out 2).trans rfl, (blk_cell BK328.out 3).trans rfl, (blk_cell BK328.out 4).trans rfl, (blk_cell BK303.out 0).trans rfl, (blk_cell BK303.out 1).trans rfl, (blk_cell BK303.out 2).trans rfl, (blk_cell BK303.out 3).trans rfl, (blk_cell BK303.out 4).trans rfl⟩ (fun hHeld => ?_)
    clear hK K
    refine norm_ (a' := ?_) ?_ ?_
    rotate_left
    ·show Act.put _ (some 25) _ = _
     simp only [Act.put, List.setIfInBounds_toArray, List.set_cons_zero, List.set_cons_succ, i64_w, i32_w]
     rfl
    refine pure_ (i := 4) (N := some 26) (v := ?_) (a' := ?_) #[true,true,true,true,true] rfl rfl (by kernel_rfl) (fun _ _ _ h => h) (Or.inl ⟨by rfl, ?_⟩) ?_ ?_
    rotate_left
    ·intro w'
     go_simp
     with_reducible rfl
    rotate_left
    ·simp only [Act.put, List.setIfInBounds_toArray, List.set_cons_zero, List.set_cons_succ, i64_w, i32_w]
     rfl
    refine done_ (by kernel_rfl) ?_
    go_wp2
    go_ret
    exact ⟨by rfl, by exact HB.out⟩
   ·replace c34 := Bool.eq_false_iff.mpr c34
    subst c34
    have H1 : (some false) = some r := by rw [if_neg (show ¬ (false = true) by decide)] at H; exact H
    clear H
    have H := H1
    clear H1
    obtain rfl := Option.some.inj H
    go_enter Try.func5, Try.ntmps5
    go_wp2_with (first | ((with_reducible refine gate_dst (N := 1) rfl ?_); refine box_event ?hg (N := 1) ?hd (cs := #[.slice A0_0 l0_0.length c0_0, .int .i64 a0_1, .slice A0_2 l0_2.length c0_2, .int .i64 a0_3, .slice A0_4 l0_4.length c0_4]) (t := 44) ?hr ?_; (case hd => rfl); (case hg => rfl); (case hr => (go_simp; done)); intro gb303 hg w61 hbox hb; have BK303 := Aside0.mk (hbox); have GW303 := Aside0.mk (geg hg (below_size HB.out)); have GE303 := Aside0.mk (geg hg (below_size HB.out)); replace HB := Aside0.mk (below_step HB.out hb); clear hb hbox hg; have hcz62_0 := bc0 BK303.out; have hcz62_1 := bc1 BK303.out; have hcz62_2 := bc2 BK303.out; have hcz62_3 := bc3 BK303.out; have hcz62_4 := bc4 BK303.out; have hfz62_0 := blk_frozen BK303.out 0; have hfz62_1 := blk_frozen BK303.out 1; have hfz62_2 := blk_frozen BK303.out 2; have hfz62_3 := blk_frozen BK303.out 3; have hfz62_4 := blk_frozen BK303.out 4) | ((with_reducible refine gate_callee (f := 28) rfl ?_); refine goesL_ (some 9) rfl rfl Try.func28 (by kernel_rfl) rfl #[.agg #[.slice A0_0 l0_0.length c0_0, .int .i64 a0_1, .slice A0_2 l0_2.length c0_2, .int .i64 a0_3, .slice A0_4 l0_4.length c0_4], .int .i64 1048576] rfl (by (simp only [List.map_toArray, List.map_cons, List.map_nil]); rfl) ?_; (with_reducible refine (laws_szDesk.calls k _ _ l0_0 a0_1 _ _ l0_2 a0_3 _ _ l0_4 1048576 t304 _ ?side1 ?side2 ?side3 ?side4 ?side5 ?side6 A2.out).mono ?_); (case side1 => exact (Kd.C_below HR0_0.out HB.out)); (case side2 => exact HC0_0.out); (case side3 => exact (Kd.C_below HR0_2.out HB.out)); (case side4 => exact HC0_2.out); (case side5 => exact (Kd.C_below HR0_4.out HB.out)); (case side6 => exact HC0_4.out); rintro e w63 ⟨rfl, hb⟩; refine ⟨_, rfl, ?_⟩; replace BK303 := Aside0.mk (blk_below BK303.out hb); replace HB := Aside0.mk (below_step HB.out hb); clear hb; have hcz64_0 := bc0 BK303.out; have hcz64_1 := bc1 BK303.out; have hcz64_2 := bc2 BK303.out; have hcz64_3 := bc3 BK303.out; have hcz64_4 := bc4 BK303.out; have hfz64_0 := blk_frozen BK303.out 0; have hfz64_1 := blk_frozen BK303.out 1; have hfz64_2 := blk_frozen BK303.out 2; have hfz64_3 := blk_frozen BK303.out 3; have hfz64_4 := blk_frozen BK303.out 4) | ((with_reducible refine gate_callee (f := 30) rfl ?_); refine goesL_ (some 13) rfl rfl Try.func30 (by kernel_rfl) rfl #[.agg #[.slice A0_0 l0_0.length c0_0, .int .i64 a0_1, .slice A0_2 l0_2.length c0_2, .int .i64 a0_3, .slice A0_4 l0_4.length c0_4]] rfl (by (simp only [List.map_toArray, List.map_cons, List.map_nil]); rfl) ?_; (with_reducible refine (laws_toDesk.calls k _ _ l0_0 a0_1 _ _ l0_2 a0_3 _ _ l0_4 t305 t308 t309 t312 t313 _ ?side1 ?side2 ?side3 ?side4 ?side5 ?side6 A7.out).mono ?_); (case side1 => exact (Kd.C_below HR0_0.out HB.out)); (case side2 => exact HC0_0.out); (case side3 => exact (Kd.C_below HR0_2.out HB.out)); (case side4 => exact HC0_2.out); (case side5 => exact (Kd.C_below HR0_4.out HB.out)); (case side6 => exact HC0_4.out); rintro e w65 ⟨v306, v310, v314, rfl, ho0, ho1, ho2, hb⟩; refine ⟨_, rfl, ?_⟩; have HO307 := Aside0.mk (Kd.S_lower ho0 (below_size HB.out)); have HO311 := Aside0.mk (Kd.R_lower ho1 (below_size HB.out)); have HO315 := Aside0.mk (Kd.R_lower ho2 (below_size HB.out)); replace BK303 := Aside0.mk (blk_below BK303.out hb); replace HB := Aside0.mk (below_step HB.out hb); clear hb ho0 ho1 ho2; obtain ⟨Ao66, co66, eo66⟩ := Kd.S_slice HO307.out; subst eo66; obtain ⟨Ao67, co67, eo67⟩ := Kd.R_slice HO311.out; subst eo67; obtain ⟨Ao68, co68, eo68⟩ := Kd.R_slice HO315.out; subst eo68) | ((with_reducible refine gate_callee (f := 29) rfl ?_); refine goesL_ (some 14) rfl rfl Try.func29 (by kernel_rfl) rfl #[.agg #[.slice Ao66 t305.length co66, .int .i64 t308, .slice Ao67 t309.length co67, .int .i64 t312, .slice Ao68 t313.length co68]] rfl (by (simp only [List.map_toArray, List.map_cons, List.map_nil]); rfl) ?_; (with_reducible refine (spec_IsDesk.calls k _ _ t305 t308 _ _ t309 t312 (fun k_ => some k_ = (.slice Ao68 t313.length co68 : Value).ownBlock) _ _ t313 t316 _ ?side1 ?side2 ?side3 ?side4 ?side5 A8.out).mono ?_); (case side1 => repeat (exact (Kd.S_reads' HO307.out).2.2)); (case side2 => exact (Kd.S_reads' HO307.out).2.1); (case side3 => repeat (exact (Kd.R_reads' HO311.out).2.2)); (case side4 => exact (Kd.R_reads' HO311.out).2.1); (case side5 => exact Kd.R_V (Kd.R_tight rfl (Kd.R_types (Kd.R_apart' (HO315.out) (Kd.S_typed HO307.out) (by decide)) BK303.out (by decide)))); rintro e w69 ⟨rfl, hb⟩; refine ⟨_, rfl, ?_⟩; replace HO307 := Aside0.mk (Kd.S_below HO307.out hb); replace HO311 := Aside0.mk (Kd.R_below HO311.out hb); replace HO315 := Aside0.mk (Kd.R_below HO315.out hb); replace BK303 := Aside0.mk (blk_below BK303.out hb); replace HB := Aside0.mk (below_step HB.out hb); clear hb; have hcz70_0 := bc0 BK303.out; have hcz70_1 := bc1 BK303.out; have hcz70_2 := bc2 BK303.out; have hcz70_3 := bc3 BK303.out; have hcz70_4 := bc4 BK303.out; have hfz70_0 := blk_frozen BK303.out 0; have hfz70_1 := blk_frozen BK303.out 1; have hfz70_2 := blk_frozen BK303.out 2; have hfz70_3 := blk_frozen BK303.out 3; have hfz70_4 := blk_frozen BK303.out 4) | ((with_reducible refine gate_callee (f := 30) rfl ?_); refine goesL_ (some 16) rfl rfl Try.func30 (by kernel_rfl) rfl #[.agg #[.slice A0_0 l0_0.length c0_0, .int .i64 a0_1, .slice A0_2 l0_2.length c0_2, .int .i64 a0_3, .slice A0_4 l0_4.length c0_4]] rfl (by (simp only [List.map_toArray, List.map_cons, List.map_nil]); rfl) ?_; (with_reducible refine (laws_toDesk.calls k _ _ l0_0 a0_1 _ _ l0_2 a0_3 _ _ l0_4 t317 t320 t321 t324 t325 _ ?side1 ?side2 ?side3 ?side4 ?side5 ?side6 A9.out).mono ?_); (case side1 => exact (Kd.C_below HR0_0.out HB.out)); (case side2 => exact HC0_0.out); (case side3 => exact (Kd.C_below HR0_2.out HB.out)); (case side4 => exact HC0_2.out); (case side5 => exact (Kd.C_below HR0_4.out HB.out)); (case side6 => exact HC0_4.out); rintro e w71 ⟨v318, v322, v326, rfl, ho0, ho1, ho2, hb⟩; refine ⟨_, rfl, ?_⟩; have HO319 := Aside0.mk (Kd.S_lower (Kd.S_new' (Kd.S_new' (Kd.S_new' ho0 (Kd.S_lt HO307.out)) (Kd.R_lt HO311.out)) (Kd.R_lt HO315.out)) (below_size HB.out)); replace HO307 := Aside0.mk (Kd.S_mono (Kd.S_told (Kd.S_told (Kd.S_told (Kd.S_old HO307.out hb) (Kd.S_base ho0)) (Kd.R_base ho1)) (Kd.R_base ho2)) (fun _ h_ => h_.1)); have HO323 := Aside0.mk (Kd.R_lower (Kd.R_new' (Kd.R_new' ho1 (Kd.R_lt HO311.out)) (Kd.R_lt HO315.out)) (below_size HB.out)); have HO327 := Aside0.mk (Kd.R_lower (Kd.R_new' (Kd.R_new' ho2 (Kd.R_lt HO311.out)) (Kd.R_lt HO315.out)) (below_size HB.out)); replace HO311 := Aside0.mk (Kd.R_mono (Kd.R_told (Kd.R_told (Kd.R_old HO311.out hb) (Kd.R_base ho1)) (Kd.R_base ho2)) (fun _ h_ => h_.1)); replace HO315 := Aside0.mk (Kd.R_mono (Kd.R_told (Kd.R_told (Kd.R_old HO315.out hb) (Kd.R_base ho1)) (Kd.R_base ho2)) (fun _ h_ => h_.1)); replace BK303 := Aside0.mk (blk_below BK303.out hb); replace HB := Aside0.mk (below_step HB.out hb); clear hb ho0 ho1 ho2) | ((with_reducible refine gate_dst (N := 5) rfl ?_); refine box_event ?hg (N := 5) ?hd (cs := #[.slice none 0 0, .int .i64 0, .slice none 0 0, .int .i64 0, .slice none 0 0]) (t := 49) ?hr ?_; (case hd => rfl); (case hg => rfl); (case hr => (go_simp; done)); intro gb328 hg w72 hbox hb; replace HO307 := Aside0.mk (Kd.S_below HO307.out hb); replace HO311 := Aside0.mk (Kd.R_below HO311.out hb); replace HO315 := Aside0.mk (Kd.R_below HO315.out hb); replace HO319 := Aside0.mk (Kd.S_below HO319.out hb); replace HO323 := Aside0.mk (Kd.R_below HO323.out hb); replace HO327 := Aside0.mk (Kd.R_below HO327.out hb); have BK328 := Aside0.mk (hbox); have GW328 := Aside0.mk (geg hg (below_size HB.out)); have GE328 := Aside0.mk (geg hg (below_size HB.out)); replace HB := Aside0.mk (below_step HB.out hb); have NB303_328 := Aside0.mk ((by rw [hg]; exact Nat.ne_of_lt (blk_lt BK303.out) : gb303 ≠ gb328)); have NB328_303 := Aside0.mk ((by rw [hg]; exact Nat.ne_of_gt (blk_lt BK303.out) : gb328 ≠ gb303)); replace BK303 := Aside0.mk (blk_below BK303.out hb); clear hb hbox hg; obtain ⟨Ao73, co73, eo73⟩ := Kd.S_slice HO319.out; subst eo73; have hnb74 := NB328_303.out; have hnc74 := NB303_328.out; have hcz75_0 := bc0 BK328.out; have hcz75_1 := bc1 BK328.out; have hcz75_2 := bc2 BK328.out; have hcz75_3 := bc3 BK328.out; have hcz75_4 := bc4 BK328.out; have hfz75_0 := blk_frozen BK328.out 0; have hfz75_1 := blk_frozen BK328.out 1; have hfz75_2 := blk_frozen BK328.out 2; have hfz75_3 := blk_frozen BK328.out 3; have hfz75_4 := blk_frozen BK328.out 4; obtain ⟨Ao76, co76, eo76⟩ := Kd.R_slice HO323.out; subst eo76; obtain ⟨Ao77, co77, eo77⟩ := Kd.R_slice HO327.out; subst eo77) | ((with_reducible refine gate_store (t := 49) (p := 5) rfl ?_); refine store_event (t := 49) (p := 5) (v := ?vo_w78) (w1 := (((((w72.setCell ⟨gb328, 0, none⟩ (.slice Ao73 t317.length co73)).setCell ⟨gb328, 1, none⟩ (.int .i64 t320)).setCell ⟨gb328, 2, none⟩ (.slice Ao76 t321.length co76)).setCell ⟨gb328, 3, none⟩ (.int .i64 t324)).setCell ⟨gb328, 4, none⟩ (.slice Ao77 t325.length co77))) ?hg ?ho ?hn ?hr ?_; (case ho => rfl); (case hg => rfl); (case hn => rfl); (case hr => (go_simp; done)); intro w78 hw; have n0_ : Aside0 (Kd.S (Kd.slice 2 (Kd.int .i64)) 25 w78 w.heap.size (fun k_ => some k_ ≠ (.slice Ao67 t309.length co67 : Value).ownBlock ∧ some k_ ≠ (.slice Ao68 t313.length co68 : Value).ownBlock ∧ some k_ ≠ (.slice Ao73 t317.length co73 : Value).ownBlock ∧ some k_ ≠ (.slice Ao76 t321.length co76 : Value).ownBlock ∧ some k_ ≠ (.slice Ao77 t325.length co77 : Value).ownBlock) (.slice Ao66 t305.length co66) t305) := ⟨(by rw [hw]; exact (by exact Kd.S_mono (Kd.S_far (p := ⟨gb328, 4, none⟩) (Kd.S_far (p := ⟨gb328, 3, none⟩) (Kd.S_far (p := ⟨gb328, 2, none⟩) (Kd.S_far (p := ⟨gb328, 1, none⟩) (Kd.S_far (p := ⟨gb328, 0, none⟩) (Kd.S_types HO307.out BK328.out (by decide)) (fun _ hk => hk.2) (.slice Ao73 t317.length co73)) (fun _ hk => hk.2) (.int .i64 t320)) (fun _ hk => hk.2) (.slice Ao76 t321.length co76)) (fun _ hk => hk.2) (.int .i64 t324)) (fun _ hk => hk.2) (.slice Ao77 t325.length co77)) (fun _ hk => ⟨hk.1.1.1.1.1, ⟨hk.1.1.1.1.2, ⟨hk.1.1.1.2, ⟨hk.1.1.2, hk.1.2⟩⟩⟩⟩)))⟩; have n1_ : Aside0 (Kd.R (Kd.int .i64) 2 w78 w.heap.size (fun k_ => some k_ ≠ (.slice Ao68 t313.length co68 : Value).ownBlock ∧ some k_ ≠ (.slice Ao76 t321.length co76 : Value).ownBlock ∧ some k_ ≠ (.slice Ao77 t325.length co77 : Value).ownBlock) (.slice Ao67 t309.length co67) t309) := ⟨(by rw [hw]; exact (by exact Kd.R_mono (Kd.R_far (p := ⟨gb328, 4, none⟩) (Kd.R_far (p := ⟨gb328, 3, none⟩) (Kd.R_far (p := ⟨gb328, 2, none⟩) (Kd.R_far (p := ⟨gb328, 1, none⟩) (Kd.R_far (p := ⟨gb328, 0, none⟩) (Kd.R_types HO311.out BK328.out (by decide)) (fun _ hk => hk.2) (.slice Ao73 t317.length co73)) (fun _ hk => hk.2) (.int .i64 t320)) (fun _ hk => hk.2) (.slice Ao76 t321.length co76)) (fun _ hk => hk.2) (.int .i64 t324)) (fun _ hk => hk.2) (.slice Ao77 t325.length co77)) (fun _ hk => ⟨hk.1.1.1, ⟨hk.1.1.2, hk.1.2⟩⟩)))⟩; have n2_ : Aside0 (Kd.R (Kd.int .i64) 2 w78 w.heap.size (fun k_ => some k_ ≠ (.slice Ao67 t309.length co67 : Value).ownBlock ∧ some k_ ≠ (.slice Ao76 t321.length co76 : Value).ownBlock ∧ some k_ ≠ (.slice Ao77 t325.length co77 : Value).ownBlock) (.slice Ao68 t313.length co68) t313) := ⟨(by rw [hw]; exact (by exact Kd.R_mono (Kd.R_far (p := ⟨gb328, 4, none⟩) (Kd.R_far (p := ⟨gb328, 3, none⟩) (Kd.R_far (p := ⟨gb328, 2, none⟩) (Kd.R_far (p := ⟨gb328, 1, none⟩) (Kd.R_far (p := ⟨gb328, 0, none⟩) (Kd.R_types HO315.out BK328.out (by decide)) (fun _ hk => hk.2) (.slice Ao73 t317.length co73)) (fun _ hk => hk.2) (.int .i64 t320)) (fun _ hk => hk.2) (.slice Ao76 t321.length co76)) (fun _ hk => hk.2) (.int .i64 t324)) (fun _ hk => hk.2) (.slice Ao77 t325.length co77)) (fun _ hk => ⟨hk.1.1.1, ⟨hk.1.1.2, hk.1.2⟩⟩)))⟩; have n3_ : Aside0 (Kd.S (Kd.slice 2 (Kd.int .i64)) 25 w78 w.heap.size (fun k_ => some k_ ≠ (.slice Ao66 t305.length co66 : Value).ownBlock ∧ some k_ ≠ (.slice Ao67 t309.length co67 : Value).ownBlock ∧ some k_ ≠ (.slice Ao68 t313.length co68 : Value).ownBlock ∧ some k_ ≠ (.slice Ao76 t321.length co76 : Value).ownBlock ∧ some k_ ≠ (.slice Ao77 t325.length co77 : Value).ownBlock) (.slice Ao73 t317.length co73) t317) := ⟨(by rw [hw]; exact (by exact Kd.S_mono (Kd.S_far (p := ⟨gb328, 4, none⟩) (Kd.S_far (p := ⟨gb328, 3, none⟩) (Kd.S_far (p := ⟨gb328, 2, none⟩) (Kd.S_far (p := ⟨gb328, 1, none⟩) (Kd.S_far (p := ⟨gb328, 0, none⟩) (Kd.S_types HO319.out BK328.out (by decide)) (fun _ hk => hk.2) (.slice Ao73 t317.length co73)) (fun _ hk => hk.2) (.int .i64 t320)) (fun _ hk => hk.2) (.slice Ao76 t321.length co76)) (fun _ hk => hk.2) (.int .i64 t324)) (fun _ hk => hk.2) (.slice Ao77 t325.length co77)) (fun _ hk => ⟨hk.1.1.1.2, ⟨hk.1.1.2, ⟨hk.1.2, ⟨hk.1.1.1.1.1, hk.1.1.1.1.2⟩⟩⟩⟩)))⟩; have n4_ : Aside0 (Kd.R (Kd.int .i64) 2 w78 w.heap.size (fun k_ => some k_ ≠ (.slice Ao67 t309.length co67 : Value).ownBlock ∧ some k_ ≠ (.slice Ao68 t313.length co68 : Value).ownBlock ∧ some k_ ≠ (.slice Ao77 t325.length co77 : Value).ownBlock) (.slice Ao76 t321.length co76) t321) := ⟨(by rw [hw]; exact (by exact Kd.R_mono (Kd.R_far (p := ⟨gb328, 4, none⟩) (Kd.R_far (p := ⟨gb328, 3, none⟩) (Kd.R_far (p := ⟨gb328, 2, none⟩) (Kd.R_far (p := ⟨gb328, 1, none⟩) (Kd.R_far (p := ⟨gb328, 0, none⟩) (Kd.R_types HO323.out BK328.out (by decide)) (fun _ hk => hk.2) (.slice Ao73 t317.length co73)) (fun _ hk => hk.2) (.int .i64 t320)) (fun _ hk => hk.2) (.slice Ao76 t321.length co76)) (fun _ hk => hk.2) (.int .i64 t324)) (fun _ hk => hk.2) (.slice Ao77 t325.length co77)) (fun _ hk => ⟨hk.1.1.2, ⟨hk.1.2, hk.1.1.1⟩⟩)))⟩; have n5_ : Aside0 (Kd.R (Kd.int .i64) 2 w78 w.heap.size (fun k_ => some k_ ≠ (.slice Ao67 t309.length co67 : Value).ownBlock ∧ some k_ ≠ (.slice Ao68 t313.length co68 : Value).ownBlock ∧ some k_ ≠ (.slice Ao76 t321.length co76 : Value).ownBlock) (.slice Ao77 t325.length co77) t325) := ⟨(by rw [hw]; exact (by exact Kd.R_mono (Kd.R_far (p := ⟨gb328, 4, none⟩) (Kd.R_far (p := ⟨gb328, 3, none⟩) (Kd.R_far (p := ⟨gb328, 2, none⟩) (Kd.R_far (p := ⟨gb328, 1, none⟩) (Kd.R_far (p := ⟨gb328, 0, none⟩) (Kd.R_types HO327.out BK328.out (by decide)) (fun _ hk => hk.2) (.slice Ao73 t317.length co73)) (fun _ hk => hk.2) (.int .i64 t320)) (fun _ hk => hk.2) (.slice Ao76 t321.length co76)) (fun _ hk => hk.2) (.int .i64 t324)) (fun _ hk => hk.2) (.slice Ao77 t325.length co77)) (fun _ hk => ⟨hk.1.1.2, ⟨hk.1.2, hk.1.1.1⟩⟩)))⟩; have n6_ : Aside0 (w78.heap[gb303]? = some (.cells #[.slice A0_0 l0_0.length c0_0, .int .i64 a0_1, .slice A0_2 l0_2.length c0_2, .int .i64 a0_3, .slice A0_4 l0_4.length c0_4] 44 (0, 0))) := ⟨(by rw [hw]; exact (by refine blk_far ?_ NB303_328.out _; refine blk_far ?_ NB303_328.out _; refine blk_far ?_ NB303_328.out _; refine blk_far ?_ NB303_328.out _; refine blk_far ?_ NB303_328.out _; exact BK303.out))⟩; have n7_ : Aside0 (w78.heap[gb328]? = some (.cells #[.slice Ao73 t317.length co73, .int .i64 t320, .slice Ao76 t321.length co76, .int .i64 t324, .slice Ao77 t325.length co77] 49 (0, 0))) := ⟨(by rw [hw]; exact (by refine blk_put (cs := #[.slice Ao73 t317.length co73, .int .i64 t320, .slice Ao76 t321.length co76, .int .i64 t324, .slice none 0 0]) ?_ 4 _ rfl; refine blk_put (cs := #[.slice Ao73 t317.length co73, .int .i64 t320, .slice Ao76 t321.length co76, .int .i64 0, .slice none 0 0]) ?_ 3 _ rfl; refine blk_put (cs := #[.slice Ao73 t317.length co73, .int .i64 t320, .slice none 0 0, .int .i64 0, .slice none 0 0]) ?_ 2 _ rfl; refine blk_put (cs := #[.slice Ao73 t317.length co73, .int .i64 0, .slice none 0 0, .int .i64 0, .slice none 0 0]) ?_ 1 _ rfl; refine blk_put (cs := #[.slice none 0 0, .int .i64 0, .slice none 0 0, .int .i64 0, .slice none 0 0]) ?_ 0 _ rfl; exact BK328.out))⟩; have n8_ : Aside0 (Below w.heap.size w w78) := ⟨(by rw [hw]; exact (by repeat ((with_reducible first | exact HB.out | refine below_set ?_ GE328.out))))⟩; clear hw; clear HO307; clear HO311; clear HO315; clear HO319; clear HO323; clear HO327; clear BK303; clear BK328; clear HB; have HO307 := n0_; have HO311 := n1_; have HO315 := n2_; have HO319 := n3_; have HO323 := n4_; have HO327 := n5_; have BK303 := n6_; have BK328 := n7_; have HB := n8_; clear n0_ n1_ n2_ n3_ n4_ n5_ n6_ n7_ n8_; have hcz79_0 := bc0 BK328.out; have hcz79_1 := bc1 BK328.out; have hcz79_2 := bc2 BK328.out; have hcz79_3 := bc3 BK328.out; have hcz79_4 := bc4 BK328.out; have hfz79_0 := blk_frozen BK328.out 0; have hfz79_1 := blk_frozen BK328.out 1; have hfz79_2 := blk_frozen BK328.out 2; have hfz79_3 := blk_frozen BK328.out 3; have hfz79_4 := blk_frozen BK328.out 4) | ((with_reducible refine gate_callee (f := 31) rfl ?_); refine goesL_ (some 18) rfl rfl Try.func31 (by kernel_rfl) rfl #[.agg #[.slice Ao73 t317.length co73, .int .i64 t320, .slice Ao76 t321.length co76, .int .i64 t324, .slice Ao77 t325.length co77]] rfl (by (simp only [List.map_toArray, List.map_cons, List.map_nil]); rfl) ?_; (with_reducible refine (impl_IsDesk.calls k _ _ t317 t320 _ _ t321 t324 (fun k_ => some k_ = (.slice Ao77 t325.length co77 : Value).ownBlock) _ _ t325 t329 _ ?side1 ?side2 ?side3 ?side4 ?side5 A10.out).mono ?_); (case side1 => repeat (exact (Kd.S_reads' HO319.out).2.2)); (case side2 => exact (Kd.S_reads' HO319.out).2.1); (case side3 => repeat (exact (Kd.R_reads' HO323.out).2.2)); (case side4 => exact (Kd.R_reads' HO323.out).2.1); (case side5 => exact Kd.R_V (Kd.R_tight rfl (Kd.R_types (Kd.R_types (Kd.R_apart' (Kd.R_apart' (HO327.out) (Kd.S_typed HO307.out) (by decide)) (Kd.S_typed HO319.out) (by decide)) BK303.out (by decide)) BK328.out (by decide)))); rintro e w80 ⟨rfl, hb⟩; refine ⟨_, rfl, ?_⟩; replace HO307 := Aside0.mk (Kd.S_below HO307.out hb); replace HO311 := Aside0.mk (Kd.R_below HO311.out hb); replace HO315 := Aside0.mk (Kd.R_below HO315.out hb); replace HO319 := Aside0.mk (Kd.S_below HO319.out hb); replace HO323 := Aside0.mk (Kd.R_below HO323.out hb); replace HO327 := Aside0.mk (Kd.R_below HO327.out hb); replace BK303 := Aside0.mk (blk_below BK303.out hb); replace BK328 := Aside0.mk (blk_below BK328.out hb); replace HB := Aside0.mk (below_step HB.out hb); clear hb))
    have n0_ := Aside0.mk (Kd.S_drew HO307.out)
    have n1_ := Aside0.mk (Kd.R_drew HO311.out)
    have n2_ := Aside0.mk (Kd.R_drew HO315.out)
    have n3_ := Aside0.mk (Kd.S_drew HO319.out)
    have n4_ := Aside0.mk (Kd.R_drew HO323.out)
    have n5_ := Aside0.mk (Kd.R_drew HO327.out)
    have n6_ := Aside0.mk (blk_drew BK303.out)
    have n7_ := Aside0.mk (blk_drew BK328.out)
    have n8_ := Aside0.mk (below_drew1 HB.out)
    clear HO307
    clear HO311
    clear HO315
    clear HO319
    clear HO323
    clear HO327
    clear BK303
    clear BK328
    clear HB
    have HO307 := n0_
    have HO311 := n1_
    have HO315 := n2_
    have HO319 := n3_
    have HO323 := n4_
    have HO327 := n5_
    have BK303 := n6_
    have BK328 := n7_
    have HB := n8_
    clear n0_ n1_ n2_ n3_ n4_ n5_ n6_ n7_ n8_
    refine start_ (n := 5) (S := fun w' => w'.cell? ⟨gb328, 0, none⟩ = some (.slice Ao73 t317.length co73) ∧ w'.cell? ⟨gb328, 1, none⟩ = some (.int .i64 t320) ∧ w'.cell? ⟨gb328, 2, none⟩ = some (.slice Ao76 t321.length co76) ∧ w'.cell? ⟨gb328, 3, none⟩ = some (.int .i64 t324) ∧ w'.cell? ⟨gb328, 4, none⟩ = some (.slice Ao77 t325.length co77) ∧ w'.cell? ⟨gb303, 0, none⟩ = some (.slice A0_0 l0_0.length c0_0) ∧ w'.cell? ⟨gb303, 1, none⟩ = some (.int .i64 a0_1) ∧ w'.cell? ⟨gb303, 2, none⟩ = some (.slice A0_2 l0_2.length c0_2) ∧ w'.cell? ⟨gb303, 3, none⟩ = some (.int .i64 a0_3) ∧ w'.cell? ⟨gb303, 4, none⟩ = some (.slice A0_4 l0_4.length c0_4)) (ds := []) #[false,false,false,false,false] (by kernel_rfl) rfl rfl ⟨(blk_cell BK328.out 0).trans rfl, (blk_cell BK328.out 1).trans rfl, (blk_cell BK328.out 2).trans rfl, (blk_cell BK328.out 3).trans rfl, (blk_cell BK328.out 4).trans rfl, (blk_cell BK303.out 0).trans rfl, (blk_cell BK303.out 1).trans rfl, (blk_cell BK303.out 2).trans rfl, (blk_cell BK303.out 3).trans rfl, (blk_cell BK303.out 4).trans rfl⟩ (fun hHeld => ?_)
    generalize w80.drew = w81 at HO307 HO311 HO315 HO319 HO323 HO327 BK303 BK328 HB hHeld ⊢
    refine take_ (i := 0) (N := some 22) (v := ?_) (a' := ?_) #[true,false,false,false,false] rfl rfl (by kernel_rfl) (fun _ _ _ h => h) (Or.inl ⟨by rfl, ?_⟩) hHeld ?_ ?_
    rotate_left
    ·rintro w' ⟨s0, s1, s2, s3, s4, s5, s6, s7, s8, s9⟩
     go_simp
     with_reducible rfl
    rotate_left
    ·simp only [Act.put, List.setIfInBounds_toArray, List.set_cons_zero, List.set_cons_succ, i64_w, i32_w]
     rfl
    refine take_ (i := 1) (N := some 23) (v := ?_) (a' := ?_) #[true,true,false,false,false] rfl rfl (by kernel_rfl) (fun _ _ _ h => h) (Or.inl ⟨by rfl, ?_⟩) hHeld ?_ ?_
    rotate_left
    ·rintro w' ⟨s0, s1, s2, s3, s4, s5, s6, s7, s8, s9⟩
     go_simp
     with_reducible rfl
    rotate_left
    ·simp only [Act.put, List.setIfInBounds_toArray, List.set_cons_zero, List.set_cons_succ, i64_w, i32_w]
     rfl
    refine one_ (i := 2) (N := some 24) #[true,true,true,false,false] rfl rfl (by kernel_rfl) (by decide) (fun K hK => ?_)
    refine goes_ Try.func30 (by kernel_rfl) rfl #[.agg #[.slice A0_0 l0_0.length c0_0, .int .i64 a0_1, .slice A0_2 l0_2.length c0_2, .int .i64 a0_3, .slice A0_4 l0_4.length c0_4]] (by rfl) rfl rfl (by (simp only [List.map_toArray, List.map_cons, List.map_nil]); rfl) ?_
    with_reducible refine (laws_toDesk.calls k _ _ l0_0 a0_1 _ _ l0_2 a0_3 _ _ l0_4 t330 t333 t334 t337 t338 _ ?side1 ?side2 ?side3 ?side4 ?side5 ?side6 A32.out).mono ?_
    (case side1 => exact (Kd.C_below HR0_0.out HB.out))
    (case side2 => exact HC0_0.out)
    (case side3 => exact (Kd.C_below HR0_2.out HB.out))
    (case side4 => exact HC0_2.out)
    (case side5 => exact (Kd.C_below HR0_4.out HB.out))
    (case side6 => exact HC0_4.out)
    rintro e w82 ⟨v331, v335, v339, rfl, ho0, ho1, ho2, hb⟩
    refine ⟨_, rfl, ?_⟩
    have n0_ := Aside0.mk (Kd.S_mono (Kd.S_told (Kd.S_told (Kd.S_told (Kd.S_old HO307.out hb) (Kd.S_base ho0)) (Kd.R_base ho1)) (Kd.R_base ho2)) (fun _ h_ => h_.1))
    have n1_ := Aside0.mk (Kd.R_mono (Kd.R_told (Kd.R_told (Kd.R_old HO311.out hb) (Kd.R_base ho1)) (Kd.R_base ho2)) (fun _ h_ => h_.1))
    have n2_ := Aside0.mk (Kd.R_mono (Kd.R_told (Kd.R_told (Kd.R_old HO315.out hb) (Kd.R_base ho1)) (Kd.R_base ho2)) (fun _ h_ => h_.1))
    have n3_ := Aside0.mk (Kd.S_mono (Kd.S_told (Kd.S_told (Kd.S_told (Kd.S_old HO319.out hb) (Kd.S_base ho0)) (Kd.R_base ho1)) (Kd.R_base ho2)) (fun _ h_ => h_.1))
    have n4_ := Aside0.mk (Kd.R_mono (Kd.R_told (Kd.R_told (Kd.R_old HO323.out hb) (Kd.R_base ho1)) (Kd.R_base ho2)) (fun _ h_ => h_.1))
    have n5_ := Aside0.mk (Kd.R_mono (Kd.R_told (Kd.R_told (Kd.R_old HO327.out hb) (Kd.R_base ho1)) (Kd.R_base ho2)) (fun _ h_ => h_.1))
    have n6_ := Aside0.mk (Kd.S_lower (Kd.S_new' (Kd.S_new' (Kd.S_new' (Kd.S_new' (Kd.S_new' (Kd.S_new' ho0 (Kd.S_lt HO307.out)) (Kd.R_lt HO311.out)) (Kd.R_lt HO315.out)) (Kd.S_lt HO319.out)) (Kd.R_lt HO323.out)) (Kd.R_lt HO327.out)) (below_size HB.out))
    have n7_ := Aside0.mk (Kd.R_lower (Kd.R_new' (Kd.R_new' (Kd.R_new' (Kd.R_new' ho1 (Kd.R_lt HO311.out)) (Kd.R_lt HO315.out)) (Kd.R_lt HO323.out)) (Kd.R_lt HO327.out)) (below_size HB.out))
    have n8_ := Aside0.mk (Kd.R_lower (Kd.R_new' (Kd.R_new' (Kd.R_new' (Kd.R_new' ho2 (Kd.R_lt HO311.out)) (Kd.R_lt HO315.out)) (Kd.R_lt HO323.out)) (Kd.R_lt HO327.out)) (below_size HB.out))
    have n9_ := Aside0.mk (blk_below BK303.out hb)
    have n10_ := Aside0.mk (blk_below BK328.out hb)
    have n11_ := Aside0.mk (below_step HB.out hb)
    clear HO307
    clear HO311
    clear HO315
    clear HO319
    clear HO323
    clear HO327
    clear BK303
    clear BK328
    clear HB
    have HO307 := n0_
    have HO311 := n1_
    have HO315 := n2_
    have HO319 := n3_
    have HO323 := n4_
    have HO327 := n5_
    have HO332 := n6_
    have HO336 := n7_
    have HO340 := n8_
    have BK303 := n9_
    have BK328 := n10_
    have HB := n11_
    clear n0_ n1_ n2_ n3_ n4_ n5_ n6_ n7_ n8_ n9_ n10_ n11_
    clear hb
    clear ho0
    clear ho1
    clear ho2
    obtain ⟨Ao83, co83, eo83⟩ := Kd.S_slice HO332.out
    (subst eo83)
    obtain ⟨Ao84, co84, eo84⟩ := Kd.R_slice HO336.out
    (subst eo84)
    obtain ⟨Ao85, co85, eo85⟩ := Kd.R_slice HO340.out
    (subst eo85)
    refine hK.out _ _ ⟨(blk_cell BK328.out 0).trans rfl, (blk_cell BK328.out 1).trans rfl, (blk_cell BK328.out 2).trans rfl, (blk_cell BK328.out 3).trans rfl, (blk_cell BK328.out 4).trans rfl, (blk_cell BK303.out 0).trans rfl, (blk_cell BK303.out 1).trans rfl, (blk_cell BK303.out 2).trans rfl, (blk_cell BK303.out 3).trans rfl, (blk_cell BK303.out 4).trans rfl⟩ (fun hHeld => ?_)
    clear hK K
    refine norm_ (a' := ?_) ?_ ?_
    rotate_left
    ·show Act.put _ (some 24) _ = _
     simp only [Act.put, List.setIfInBounds_toArray, List.set_cons_zero, List.set_cons_succ, i64_w, i32_w]
     rfl
    refine one_ (i := 3) (N := some 25) #[true,true,true,true,false] rfl rfl (by kernel_rfl) (by decide) (fun K hK => ?_)
    refine goes_ Try.func32 (by kernel_rfl) rfl #[.agg #[.slice Ao73 t317.length co73, .int .i64 t320, .slice Ao76 t321.length co76, .int .i64 t324, .slice Ao77 t325.length co77], .agg #[.slice Ao83 t330.length co83, .int .i64 t333, .slice Ao84 t334.length co84, .int .i64 t337, .slice Ao85 t338.length co85]] (by rfl) rfl rfl (by (simp only [List.map_toArray, List.map_cons, List.map_nil]); rfl) ?_
    with_reducible refine (laws_eqDesk.calls k _ _ t317 t320 _ _ t321 t324 _ _ t325 _ _ t330 t333 _ _ t334 t337 _ _ t338 false _ ?side1 ?side2 ?side3 ?side4 ?side5 ?side6 ?side7 ?side8 ?side9 ?side10 ?side11 ?side12 A33.out).mono ?_
    (case side1 => repeat (exact (Kd.S_reads' HO319.out).2.2))
    (case side2 => exact (Kd.S_reads' HO319.out).2.1)
    (case side3 => repeat (exact (Kd.R_reads' HO323.out).2.2))
    (case side4 => exact (Kd.R_reads' HO323.out).2.1)
    (case side5 => repeat (exact (Kd.R_reads' HO327.out).2.2))
    (case side6 => exact (Kd.R_reads' HO327.out).2.1)
    (case side7 => repeat (exact (Kd.S_reads' HO332.out).2.2))
    (case side8 => exact (Kd.S_reads' HO332.out).2.1)
    (case side9 => repeat (exact (Kd.R_reads' HO336.out).2.2))
    (case side10 => exact (Kd.R_reads' HO336.out).2.1)
    (case side11 => repeat (exact (Kd.R_reads' HO340.out).2.2))
    (case side12 => exact (Kd.R_reads' HO340.out).2.1)
    rintro e w86 ⟨rfl, hb⟩
    refine ⟨_, rfl, ?_⟩
    have n0_ := Aside0.mk (Kd.S_below HO307.out hb)
    have n1_ := Aside0.mk (Kd.R_below HO311.out hb)
    have n2_ := Aside0.mk (Kd.R_below HO315.out hb)
    have n3_ := Aside0.mk (Kd.S_below HO319.out hb)
    have n4_ := Aside0.mk (Kd.R_below HO323.out hb)
    have n5_ := Aside0.mk (Kd.R_below HO327.out hb)
    have n6_ := Aside0.mk (Kd.S_below HO332.out hb)
    have n7_ := Aside0.mk (Kd.R_below HO336.out hb)
    have n8_ := Aside0.mk (Kd.R_below HO340.out hb)
    have n9_ := Aside0.mk (blk_below BK303.out hb)
    have n10_ := Aside0.mk (blk_below BK328.out hb)
    have n11_ := Aside0.mk (below_step HB.out hb)
    clear HO307
    clear HO311
    clear HO315
    clear HO319
    clear HO323
    clear HO327
    clear HO332
    clear HO336
    clear HO340
    clear BK303
    clear BK328
    clear HB
    have HO307 := n0_
    have HO311 := n1_
    have HO315 := n2_
    have HO319 := n3_
    have HO323 := n4_
    have HO327 := n5_
    have HO332 := n6_
    have HO336 := n7_
    have HO340 := n8_
    have BK303 := n9_
    have BK328 := n10_
    have HB := n11_
    clear n0_ n1_ n2_ n3_ n4_ n5_ n6_ n7_ n8_ n9_ n10_ n11_
    clear hb
    refine hK.out _ _ ⟨(blk_cell BK328.out 0).trans rfl, (blk_cell BK328.out 1).trans rfl, (blk_cell BK328.out 2).trans rfl, (blk_cell BK328.out 3).trans rfl, (blk_cell BK328.out 4).trans rfl, (blk_cell BK303.out 0).trans rfl, (blk_cell BK303.out 1).trans rfl, (blk_cell BK303.out 2).trans rfl, (blk_cell BK303.out 3).trans rfl, (blk_cell BK303.out 4).trans rfl⟩ (fun hHeld => ?_)
    clear hK K
    refine norm_ (a' := ?_) ?_ ?_
    rotate_left
    ·show Act.put _ (some 25) _ = _
     simp only [Act.put, List.setIfInBounds_toArray, List.set_cons_zero, List.set_cons_succ, i64_w, i32_w]
     rfl
    refine pure_ (i := 4) (N := some 26) (v := ?_) (a' := ?_) #[true,true,true,true,true] rfl rfl (by kernel_rfl) (fun _ _ _ h => h) (Or.inl ⟨by rfl, ?_⟩) ?_ ?_
    rotate_left
    ·intro w'
     go_simp
     with_reducible rfl
    rotate_left
    ·simp only [Act.put, List.setIfInBounds_toArray, List.set_cons_zero, List.set_cons_succ, i64_w, i32_w]
     rfl
    refine done_ (by kernel_rfl) ?_
    go_wp2
    go_ret
    exact ⟨by rfl, by exact HB.out⟩

/-- THE ONE PURE STATEMENT of laws_FnExactIsDesk: yours. -/
def laws_FnExactIsDesk.Pure : Prop := ∀ (l0_0 : List (List Int)) (a0_1 : Int) (l0_2 : List Int) (a0_3 : Int) (l0_4 : List Int), l0_0.length ≤ maxLen → (∀ r ∈ l0_0, r.length ≤ maxLen ∧ ∀ x ∈ r, (Lit.int .i64 x).wf = true) → (Lit.int .i64 a0_1).wf = true → l0_2.length ≤ maxLen → (∀ x ∈ l0_2, (Lit.int .i64 x).wf = true) → (Lit.int .i64 a0_3).wf = true → l0_4.length ≤ maxLen → (∀ x ∈ l0_4, (Lit.int .i64 x).wf = true) → ∃ k, laws_FnExactIsDesk.f k l0_0 a0_1 l0_2 a0_3 l0_4 = some true
theorem laws_FnExactIsDesk.walk (P : laws_FnExactIsDesk.Pure) (A0_0 : Option Addr) (c0_0 : Nat) (l0_0 : List (List Int)) (a0_1 : Int) (A0_2 : Option Addr) (c0_2 : Nat) (l0_2 : List Int) (a0_3 : Int) (A0_4 : Option Addr) (c0_4 : Nat) (l0_4 : List Int) (w : World) (hc0_0 : l0_0.length ≤ c0_0) (hm0_0 : l0_0.length ≤ maxLen) (hw0_0 : (∀ r ∈ l0_0, r.length ≤ maxLen ∧ ∀ x ∈ r, (Lit.int .i64 x).wf = true)) (hr0_0 : Kd.C (Kd.slice 2 (Kd.int .i64)) w A0_0 l0_0.length l0_0) (hw0_1 : (Lit.int .i64 a0_1).wf = true) (hc0_2 : l0_2.length ≤ c0_2) (hm0_2 : l0_2.length ≤ maxLen) (hw0_2 : (∀ x ∈ l0_2, (Lit.int .i64 x).wf = true)) (hr0_2 : Kd.C (Kd.int .i64) w A0_2 l0_2.length l0_2) (hw0_3 : (Lit.int .i64 a0_3).wf = true) (hc0_4 : l0_4.length ≤ c0_4) (hm0_4 : l0_4.length ≤ maxLen) (hw0_4 : (∀ x ∈ l0_4, (Lit.int .i64 x).wf = true)) (hr0_4 : Kd.C (Kd.int .i64) w A0_4 l0_4.length l0_4) :
  Calls Try.prog 5 #[.agg #[.slice A0_0 l0_0.length c0_0, .int .i64 a0_1, .slice A0_2 l0_2.length c0_2, .int .i64 a0_3, .slice A0_4 l0_4.length c0_4]] w fun e w' => e = .returned (.bool true) ∧ Below w.heap.size w w' := by
 obtain ⟨k, h⟩ := P l0_0 a0_1 l0_2 a0_3 l0_4 hm0_0 hw0_0 hw0_1 hm0_2 hw0_2 hw0_3 hm0_4 hw0_4
 refine (laws_FnExactIsDesk.calls k _ _ l0_0 a0_1 _ _ l0_2 a0_3 _ _ l0_4 true w hr0_0 hc0_0 hr0_2 hc0_2 hr0_4 hc0_4 h).mono ?_
 rintro e w' ⟨rfl, hd⟩
 exact ⟨rfl, hd⟩

end Go.Proofs.Ytkpcogaahgfmcaa.PFnExactIsDesk
