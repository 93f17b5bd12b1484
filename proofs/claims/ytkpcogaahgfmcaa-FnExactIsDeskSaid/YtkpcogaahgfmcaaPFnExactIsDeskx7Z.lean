-- Made by a program of this session (wip/tools: the patched printer), for this claim.
import Derived.Test.YtkpcogaahgfmcaaXSqZ
import Derived.Test.YtkpcogaahgfmcaaPFnExactIsDeskx0Z
import Derived.Test.YtkpcogaahgfmcaaPFnExactIsDeskx6Z
namespace Go.Proofs.Ytkpcogaahgfmcaa.PFnExactIsDesk
open Go.Proofs.YtkpcogaahgfmcaaX
open Go.RowKit Go.Proofs.YtkpcogaahgfmcaaW.PrintWords Go.Proofs.YtkpcogaahgfmcaaW.PrintLast Go.Proofs.YtkpcogaahgfmcaaW.PrintMore
attribute [local go_sem] max2_int min2_int max_two min_two max_three min_three max_four min_four   -- for this text's walks alone
set_option linter.unusedVariables false
set_option linter.unusedSimpArgs false

/-! ### laws_toCochain: function 35 -/
def laws_toCochain.f (k : Nat) (a0_0 : Int) (l0_1 : List Int) : Option (Int × List Int) := (laws_toInt64S.f k l0_1).bind fun t196 => (some (a0_0, t196))
theorem laws_toCochain.mono : ∀ a0 a1 k, LeO (laws_toCochain.f k a0 a1) (laws_toCochain.f (k + 1) a0 a1) := by
 intro a0 a1 k
 unfold laws_toCochain.f
 repeat' first
   | (with_reducible exact laws_toInt64S.mono _ _)
   | (with_reducible exact LeO.refl _)
   | (with_reducible refine LeO.bind ?_ (fun _ => ?_))
set_option maxHeartbeats 8000000 in
set_option maxRecDepth 100000 in
theorem laws_toCochain.calls (k : Nat) (a0_0 : Int) (A0_1 : Option Addr) (c0_1 : Nat) (l0_1 : List Int) (r1 : Int) (r2 : List Int) (w : World) (hr0_1 : Kd.C (Kd.int .i64) w A0_1 l0_1.length l0_1) (hc0_1 : l0_1.length ≤ c0_1) (h : laws_toCochain.f k a0_0 l0_1 = some (r1, r2)) :
  Calls Try.prog 35 #[.agg #[.int .i64 a0_0, .slice A0_1 l0_1.length c0_1]] w fun e w' => ∃ v1_ : Value, e = .returned (.agg #[.int .i64 r1, v1_]) ∧ Kd.R (Kd.int .i64) 2 w' w.heap.size (fun _ => True) v1_ r2 ∧ Below w.heap.size w w' := by
 have hu42 := Try.underlying42
 have hu47 := Try.underlying47
 have hu2 := Try.underlying2
 have hu25 := Try.underlying25
 have HR0_1 := Aside0.mk hr0_1
 have HC0_1 := Aside0.mk hc0_1
 clear hr0_1 hc0_1
 have HB := Aside0.mk (Below.refl w.heap.size w)
 have H : ((laws_toInt64S.f k l0_1).bind fun t196 => (some (a0_0, t196))) = some (r1, r2) := h
 clear h
 replace H := Option.bind_eq_some_iff.mp H
 obtain ⟨t196, A20, H⟩ := H
 replace H : (some (a0_0, t196)) = some (r1, r2) := H
 have A2 := Aside0.mk A20
 clear A20
 simp only [Option.some.injEq, Prod.mk.injEq] at H
 obtain ⟨rfl, rfl⟩ := H
 go_enter Try.func35, Try.ntmps35
 go_wp2_with (first | ((with_reducible refine gate_dst (N := 1) rfl ?_); refine box_event ?hg (N := 1) ?hd (cs := #[.int .i64 a0_0, .slice A0_1 l0_1.length c0_1]) (t := 42) ?hr ?_; (case hd => rfl); (case hg => rfl); (case hr => (go_simp; done)); intro gb193 hg w3 hbox hb; have BK193 := Aside0.mk (hbox); have GW193 := Aside0.mk (geg hg (below_size HB.out)); have GE193 := Aside0.mk (geg hg (below_size HB.out)); replace HB := Aside0.mk (below_step HB.out hb); clear hb hbox hg) | ((with_reducible refine gate_dst (N := 2) rfl ?_); refine box_event ?hg (N := 2) ?hd (cs := #[.int .i64 0, .slice none 0 0]) (t := 47) ?hr ?_; (case hd => rfl); (case hg => rfl); (case hr => (go_simp; done)); intro gb194 hg w4 hbox hb; have BK194 := Aside0.mk (hbox); have GW194 := Aside0.mk (geg hg (below_size HB.out)); have GE194 := Aside0.mk (geg hg (below_size HB.out)); replace HB := Aside0.mk (below_step HB.out hb); have NB193_194 := Aside0.mk ((by rw [hg]; exact Nat.ne_of_lt (blk_lt BK193.out) : gb193 ≠ gb194)); have NB194_193 := Aside0.mk ((by rw [hg]; exact Nat.ne_of_gt (blk_lt BK193.out) : gb194 ≠ gb193)); replace BK193 := Aside0.mk (blk_below BK193.out hb); clear hb hbox hg) | ((with_reducible refine gate_dst (N := 3) rfl ?_); refine box_event ?hg (N := 3) ?hd (cs := #[.int .i64 0, .slice none 0 0]) (t := 47) ?hr ?_; (case hd => rfl); (case hg => rfl); (case hr => (go_simp; done)); intro gb195 hg w5 hbox hb; have BK195 := Aside0.mk (hbox); have GW195 := Aside0.mk (geg hg (below_size HB.out)); have GE195 := Aside0.mk (geg hg (below_size HB.out)); replace HB := Aside0.mk (below_step HB.out hb); have NB193_195 := Aside0.mk ((by rw [hg]; exact Nat.ne_of_lt (blk_lt BK193.out) : gb193 ≠ gb195)); have NB195_193 := Aside0.mk ((by rw [hg]; exact Nat.ne_of_gt (blk_lt BK193.out) : gb195 ≠ gb193)); replace BK193 := Aside0.mk (blk_below BK193.out hb); have NB194_195 := Aside0.mk ((by rw [hg]; exact Nat.ne_of_lt (blk_lt BK194.out) : gb194 ≠ gb195)); have NB195_194 := Aside0.mk ((by rw [hg]; exact Nat.ne_of_gt (blk_lt BK194.out) : gb195 ≠ gb194)); replace BK194 := Aside0.mk (blk_below BK194.out hb); clear hb hbox hg; have hnb6 := NB193_194.out; have hnc6 := NB194_193.out; have hnb7 := NB193_195.out; have hnc7 := NB195_193.out; have hcz8_0 := bc0 BK193.out; have hcz8_1 := bc1 BK193.out; have hfz8_0 := blk_frozen BK193.out 0; have hfz8_1 := blk_frozen BK193.out 1; have hnb9 := NB195_194.out; have hnc9 := NB194_195.out; have hcz10_0 := bc0 BK195.out; have hcz10_1 := bc1 BK195.out; have hfz10_0 := blk_frozen BK195.out 0; have hfz10_1 := blk_frozen BK195.out 1) | ((with_reducible refine gate_callee (f := 69) rfl ?_); refine goesL_ (some 9) rfl rfl Try.func69 (by kernel_rfl) rfl #[.slice A0_1 l0_1.length c0_1] rfl (by (simp only [List.map_toArray, List.map_cons, List.map_nil]); rfl) ?_; (with_reducible refine (laws_toInt64S.calls k _ _ l0_1 t196 _ ?side1 ?side2 A2.out).mono ?_); (case side1 => exact Kd.C_below HR0_1.out (by repeat ((with_reducible first | exact HB.out | refine below_set ?_ GE195.out)))); (case side2 => exact HC0_1.out); rintro e w11 ⟨v197, rfl, ho0, hb⟩; refine ⟨_, rfl, ?_⟩; have HO198 := Aside0.mk (Kd.R_lower ho0 (below_size (by repeat ((with_reducible first | exact HB.out | refine below_set ?_ GE195.out))))); replace BK193 := Aside0.mk (blk_below (g := gb193) (o := .cells #[.int .i64 a0_0, .slice A0_1 l0_1.length c0_1] 42 (0, 0)) (by refine blk_far ?_ NB193_195.out _; exact BK193.out) hb); replace BK194 := Aside0.mk (blk_below (g := gb194) (o := .cells #[.int .i64 0, .slice none 0 0] 47 (0, 0)) (by refine blk_far ?_ NB194_195.out _; exact BK194.out) hb); replace BK195 := Aside0.mk (blk_below (g := gb195) (o := .cells #[.int .i64 a0_0, .slice none 0 0] 47 (0, 0)) (by refine blk_put (cs := #[.int .i64 0, .slice none 0 0]) ?_ 0 _ rfl; exact BK195.out) hb); replace HB := Aside0.mk (below_step (by repeat ((with_reducible first | exact HB.out | refine below_set ?_ GE195.out))) hb); clear hb ho0; obtain ⟨Ao12, co12, eo12⟩ := Kd.R_slice HO198.out; subst eo12; have hcz13_0 := bc0 BK195.out; have hcz13_1 := bc1 BK195.out; have hfz13_0 := blk_frozen BK195.out 0; have hfz13_1 := blk_frozen BK195.out 1; have hcz14_0 := bc0 BK194.out; have hcz14_1 := bc1 BK194.out; have hfz14_0 := blk_frozen BK194.out 0; have hfz14_1 := blk_frozen BK194.out 1))
 refine bodyPost_ret (results_cell_row rfl _ _ gb194 47 #[.int .i64 a0_0, .slice Ao12 t196.length co12] (0, 0) _ rfl (by refine blk_put (cs := #[.int .i64 a0_0, .slice none 0 0]) ?_ 1 _ rfl; refine blk_put (cs := #[.int .i64 0, .slice none 0 0]) ?_ 0 _ rfl; refine blk_far ?_ NB194_195.out _; exact BK194.out) Try.underlying47 rfl (by kernel_rfl)) rfl ?_
 exact ⟨_, by rfl, by exact Kd.R_mono (Kd.R_far (p := ⟨gb194, 1, none⟩) (Kd.R_far (p := ⟨gb194, 0, none⟩) (Kd.R_far (p := ⟨gb195, 1, none⟩) (Kd.R_types (Kd.R_types HO198.out BK195.out (by decide)) BK194.out (by decide)) (fun _ hk => hk.1.2) (.slice Ao12 t196.length co12)) (fun _ hk => hk.2) (.int .i64 a0_0)) (fun _ hk => hk.2) (.slice Ao12 t196.length co12)) (fun _ hk => trivial), by repeat ((with_reducible first | exact HB.out | refine below_set ?_ GE194.out | refine below_set ?_ GE195.out))⟩

/-! ### laws_toDesk: function 30 -/
def laws_toDesk.f (k : Nat) (l0_0 : List (List Int)) (a0_1 : Int) (l0_2 : List Int) (a0_3 : Int) (l0_4 : List Int) : Option ((List (List Int)) × Int × List Int × Int × List Int) := (laws_toGroup.f k l0_0).bind fun t202 => ((laws_toModule.f k a0_1 l0_2).bind fun bt205 => ((laws_toCochain.f k a0_3 l0_4).bind fun bt209 => (some (t202, bt205.1, bt205.2, bt209.1, bt209.2))))
theorem laws_toDesk.mono : ∀ a0 a1 a2 a3 a4 k, LeO (laws_toDesk.f k a0 a1 a2 a3 a4) (laws_toDesk.f (k + 1) a0 a1 a2 a3 a4) := by
 intro a0 a1 a2 a3 a4 k
 unfold laws_toDesk.f
 repeat' first
   | (with_reducible exact laws_toCochain.mono _ _ _)
   | (with_reducible exact laws_toGroup.mono _ _)
   | (with_reducible exact laws_toModule.mono _ _ _)
   | (with_reducible exact LeO.refl _)
   | (with_reducible refine LeO.bind ?_ (fun _ => ?_))
set_option maxHeartbeats 8000000 in
set_option maxRecDepth 100000 in
theorem laws_toDesk.calls (k : Nat) (A0_0 : Option Addr) (c0_0 : Nat) (l0_0 : List (List Int)) (a0_1 : Int) (A0_2 : Option Addr) (c0_2 : Nat) (l0_2 : List Int) (a0_3 : Int) (A0_4 : Option Addr) (c0_4 : Nat) (l0_4 : List Int) (r1 : List (List Int)) (r2 : Int) (r3 : List Int) (r4 : Int) (r5 : List Int) (w : World) (hr0_0 : Kd.C (Kd.slice 2 (Kd.int .i64)) w A0_0 l0_0.length l0_0) (hc0_0 : l0_0.length ≤ c0_0) (hr0_2 : Kd.C (Kd.int .i64) w A0_2 l0_2.length l0_2) (hc0_2 : l0_2.length ≤ c0_2) (hr0_4 : Kd.C (Kd.int .i64) w A0_4 l0_4.length l0_4) (hc0_4 : l0_4.length ≤ c0_4) (h : laws_toDesk.f k l0_0 a0_1 l0_2 a0_3 l0_4 = some (r1, r2, r3, r4, r5)) :
  Calls Try.prog 30 #[.agg #[.slice A0_0 l0_0.length c0_0, .int .i64 a0_1, .slice A0_2 l0_2.length c0_2, .int .i64 a0_3, .slice A0_4 l0_4.length c0_4]] w fun e w' => ∃ v0_ v2_ v4_ : Value, e = .returned (.agg #[v0_, .int .i64 r2, v2_, .int .i64 r4, v4_]) ∧ Kd.S (Kd.slice 2 (Kd.int .i64)) 25 w' w.heap.size (fun k_ => some k_ ≠ (v2_ : Value).ownBlock ∧ some k_ ≠ (v4_ : Value).ownBlock) v0_ r1 ∧ Kd.R (Kd.int .i64) 2 w' w.heap.size (fun k_ => some k_ ≠ (v4_ : Value).ownBlock) v2_ r3 ∧ Kd.R (Kd.int .i64) 2 w' w.heap.size (fun k_ => some k_ ≠ (v2_ : Value).ownBlock) v4_ r5 ∧ Below w.heap.size w w' := by
 have hu44 := Try.underlying44
 have hu49 := Try.underlying49
 have hu24 := Try.underlying24
 have hu33 := Try.underlying33
 have hu27 := Try.underlying27
 have hu30 := Try.underlying30
 have hu42 := Try.underlying42
 have hu47 := Try.underlying47
 have HR0_0 := Aside0.mk hr0_0
 have HC0_0 := Aside0.mk hc0_0
 clear hr0_0 hc0_0
 have HR0_2 := Aside0.mk hr0_2
 have HC0_2 := Aside0.mk hc0_2
 clear hr0_2 hc0_2
 have HR0_4 := Aside0.mk hr0_4
 have HC0_4 := Aside0.mk hc0_4
 clear hr0_4 hc0_4
 have HB := Aside0.mk (Below.refl w.heap.size w)
 have H : ((laws_toGroup.f k l0_0).bind fun t202 => ((laws_toModule.f k a0_1 l0_2).bind fun bt205 => ((laws_toCochain.f k a0_3 l0_4).bind fun bt209 => (some (t202, bt205.1, bt205.2, bt209.1, bt209.2))))) = some (r1, r2, r3, r4, r5) := h
 clear h
 replace H := Option.bind_eq_some_iff.mp H
 obtain ⟨t202, A20, H⟩ := H
 replace H : ((laws_toModule.f k a0_1 l0_2).bind fun bt205 => ((laws_toCochain.f k a0_3 l0_4).bind fun bt209 => (some (t202, bt205.1, bt205.2, bt209.1, bt209.2)))) = some (r1, r2, r3, r4, r5) := H
 have A2 := Aside0.mk A20
 clear A20
 replace H := Option.bind_eq_some_iff.mp H
 obtain ⟨⟨t205, t206⟩, A30, H⟩ := H
 replace H : ((laws_toCochain.f k a0_3 l0_4).bind fun bt209 => (some (t202, t205, t206, bt209.1, bt209.2))) = some (r1, r2, r3, r4, r5) := H
 have A3 := Aside0.mk A30
 clear A30
 replace H := Option.bind_eq_some_iff.mp H
 obtain ⟨⟨t209, t210⟩, A40, H⟩ := H
 replace H : (some (t202, t205, t206, t209, t210)) = some (r1, r2, r3, r4, r5) := H
 have A4 := Aside0.mk A40
 clear A40
 simp only [Option.some.injEq, Prod.mk.injEq] at H
 obtain ⟨rfl, rfl, rfl, rfl, rfl⟩ := H
 go_enter Try.func30, Try.ntmps30
 go_wp2_with (first | ((with_reducible refine gate_dst (N := 1) rfl ?_); refine box_event ?hg (N := 1) ?hd (cs := #[.slice A0_0 l0_0.length c0_0, .int .i64 a0_1, .slice A0_2 l0_2.length c0_2, .int .i64 a0_3, .slice A0_4 l0_4.length c0_4]) (t := 44) ?hr ?_; (case hd => rfl); (case hg => rfl); (case hr => (go_simp; done)); intro gb199 hg w5 hbox hb; have BK199 := Aside0.mk (hbox); have GW199 := Aside0.mk (geg hg (below_size HB.out)); have GE199 := Aside0.mk (geg hg (below_size HB.out)); replace HB := Aside0.mk (below_step HB.out hb); clear hb hbox hg) | ((with_reducible refine gate_dst (N := 2) rfl ?_); refine box_event ?hg (N := 2) ?hd (cs := #[.slice none 0 0, .int .i64 0, .slice none 0 0, .int .i64 0, .slice none 0 0]) (t := 49) ?hr ?_; (case hd => rfl); (case hg => rfl); (case hr => (go_simp; done)); intro gb200 hg w6 hbox hb; have BK200 := Aside0.mk (hbox); have GW200 := Aside0.mk (geg hg (below_size HB.out)); have GE200 := Aside0.mk (geg hg (below_size HB.out)); replace HB := Aside0.mk (below_step HB.out hb); have NB199_200 := Aside0.mk ((by rw [hg]; exact Nat.ne_of_lt (blk_lt BK199.out) : gb199 ≠ gb200)); have NB200_199 := Aside0.mk ((by rw [hg]; exact Nat.ne_of_gt (blk_lt BK199.out) : gb200 ≠ gb199)); replace BK199 := Aside0.mk (blk_below BK199.out hb); clear hb hbox hg) | ((with_reducible refine gate_dst (N := 3) rfl ?_); refine box_event ?hg (N := 3) ?hd (cs := #[.slice none 0 0, .int .i64 0, .slice none 0 0, .int .i64 0, .slice none 0 0]) (t := 49) ?hr ?_; (case hd => rfl); (case hg => rfl); (case hr => (go_simp; done)); intro gb201 hg w7 hbox hb; have BK201 := Aside0.mk (hbox); have GW201 := Aside0.mk (geg hg (below_size HB.out)); have GE201 := Aside0.mk (geg hg (below_size HB.out)); replace HB := Aside0.mk (below_step HB.out hb); have NB199_201 := Aside0.mk ((by rw [hg]; exact Nat.ne_of_lt (blk_lt BK199.out) : gb199 ≠ gb201)); have NB201_199 := Aside0.mk ((by rw [hg]; exact Nat.ne_of_gt (blk_lt BK199.out) : gb201 ≠ gb199)); replace BK199 := Aside0.mk (blk_below BK199.out hb); have NB200_201 := Aside0.mk ((by rw [hg]; exact Nat.ne_of_lt (blk_lt BK200.out) : gb200 ≠ gb201)); have NB201_200 := Aside0.mk ((by rw [hg]; exact Nat.ne_of_gt (blk_lt BK200.out) : gb201 ≠ gb200)); replace BK200 := Aside0.mk (blk_below BK200.out hb); clear hb hbox hg; have hnb8 := NB199_200.out; have hnc8 := NB200_199.out; have hnb9 := NB199_201.out; have hnc9 := NB201_199.out; have hcz10_0 := bc0 BK199.out; have hcz10_1 := bc1 BK199.out; have hcz10_2 := bc2 BK199.out; have hcz10_3 := bc3 BK199.out; have hcz10_4 := bc4 BK199.out; have hfz10_0 := blk_frozen BK199.out 0; have hfz10_1 := blk_frozen BK199.out 1; have hfz10_2 := blk_frozen BK199.out 2; have hfz10_3 := blk_frozen BK199.out 3; have hfz10_4 := blk_frozen BK199.out 4) | ((with_reducible refine gate_callee (f := 18) rfl ?_); refine goesL_ (some 6) rfl rfl Try.func18 (by kernel_rfl) rfl #[.agg #[.slice A0_0 l0_0.length c0_0]] rfl (by (simp only [List.map_toArray, List.map_cons, List.map_nil]); rfl) ?_; (with_reducible refine (laws_toGroup.calls k _ _ l0_0 t202 _ ?side1 ?side2 A2.out).mono ?_); (case side1 => exact (Kd.C_below HR0_0.out HB.out)); (case side2 => exact HC0_0.out); rintro e w11 ⟨v203, rfl, ho0, hb⟩; refine ⟨_, rfl, ?_⟩; have HO204 := Aside0.mk (Kd.S_lower ho0 (below_size HB.out)); replace BK199 := Aside0.mk (blk_below BK199.out hb); replace BK200 := Aside0.mk (blk_below BK200.out hb); replace BK201 := Aside0.mk (blk_below BK201.out hb); replace HB := Aside0.mk (below_step HB.out hb); clear hb ho0; obtain ⟨Ao12, co12, eo12⟩ := Kd.S_slice HO204.out; subst eo12; have hnb13 := NB201_200.out; have hnc13 := NB200_201.out; have hcz14_0 := bc0 BK201.out; have hcz14_1 := bc1 BK201.out; have hcz14_2 := bc2 BK201.out; have hcz14_3 := bc3 BK201.out; have hcz14_4 := bc4 BK201.out; have hfz14_0 := blk_frozen BK201.out 0; have hfz14_1 := blk_frozen BK201.out 1; have hfz14_2 := blk_frozen BK201.out 2; have hfz14_3 := blk_frozen BK201.out 3; have hfz14_4 := blk_frozen BK201.out 4; have hcz15_0 := bc0 BK199.out; have hcz15_1 := bc1 BK199.out; have hcz15_2 := bc2 BK199.out; have hcz15_3 := bc3 BK199.out; have hcz15_4 := bc4 BK199.out; have hfz15_0 := blk_frozen BK199.out 0; have hfz15_1 := blk_frozen BK199.out 1; have hfz15_2 := blk_frozen BK199.out 2; have hfz15_3 := blk_frozen BK199.out 3; have hfz15_4 := blk_frozen BK199.out 4) | ((with_reducible refine gate_callee (f := 19) rfl ?_); refine goesL_ (some 10) rfl rfl Try.func19 (by kernel_rfl) rfl #[.agg #[.int .i64 a0_1, .slice A0_2 l0_2.length c0_2]] rfl (by (simp only [List.map_toArray, List.map_cons, List.map_nil]); rfl) ?_; (with_reducible refine (laws_toModule.calls k a0_1 _ _ l0_2 t205 t206 _ ?side1 ?side2 A3.out).mono ?_); (case side1 => exact Kd.C_below HR0_2.out (by repeat ((with_reducible first | exact HB.out | refine below_set ?_ GE201.out)))); (case side2 => exact HC0_2.out); rintro e w16 ⟨v207, rfl, ho0, hb⟩; refine ⟨_, rfl, ?_⟩; replace HO204 := Aside0.mk (Kd.S_elder' (by exact (Kd.S_mono (Kd.S_far (p := ⟨gb201, 0, none⟩) (Kd.S_types HO204.out BK201.out (by decide)) (fun _ hk => hk.2) (.slice Ao12 t202.length co12)) (fun _ h_ => h_.1))) (Kd.R_base ho0) hb); have HO208 := Aside0.mk (Kd.R_lower ho0 (below_size (by repeat ((with_reducible first | exact HB.out | refine below_set ?_ GE201.out))))); replace BK199 := Aside0.mk (blk_below (g := gb199) (o := .cells #[.slice A0_0 l0_0.length c0_0, .int .i64 a0_1, .slice A0_2 l0_2.length c0_2, .int .i64 a0_3, .slice A0_4 l0_4.length c0_4] 44 (0, 0)) (by refine blk_far ?_ NB199_201.out _; exact BK199.out) hb); replace BK200 := Aside0.mk (blk_below (g := gb200) (o := .cells #[.slice none 0 0, .int .i64 0, .slice none 0 0, .int .i64 0, .slice none 0 0] 49 (0, 0)) (by refine blk_far ?_ NB200_201.out _; exact BK200.out) hb); replace BK201 := Aside0.mk (blk_below (g := gb201) (o := .cells #[.slice Ao12 t202.length co12, .int .i64 0, .slice none 0 0, .int .i64 0, .slice none 0 0] 49 (0, 0)) (by refine blk_put (cs := #[.slice none 0 0, .int .i64 0, .slice none 0 0, .int .i64 0, .slice none 0 0]) ?_ 0 _ rfl; exact BK201.out) hb); replace HB := Aside0.mk (below_step (by repeat ((with_reducible first | exact HB.out | refine below_set ?_ GE201.out))) hb); clear hb ho0; have hcz17_0 := bc0 BK201.out; have hcz17_1 := bc1 BK201.out; have hcz17_2 := bc2 BK201.out; have hcz17_3 := bc3 BK201.out; have hcz17_4 := bc4 BK201.out; have hfz17_0 := blk_frozen BK201.out 0; have hfz17_1 := blk_frozen BK201.out 1; have hfz17_2 := blk_frozen BK201.out 2; have hfz17_3 := blk_frozen BK201.out 3; have hfz17_4 := blk_frozen BK201.out 4; obtain ⟨Ao18, co18, eo18⟩ := Kd.R_slice HO208.out; subst eo18; have hcz19_0 := bc0 BK199.out; have hcz19_1 := bc1 BK199.out; have hcz19_2 := bc2 BK199.out; have hcz19_3 := bc3 BK199.out; have hcz19_4 := bc4 BK199.out; have hfz19_0 := blk_frozen BK199.out 0; have hfz19_1 := blk_frozen BK199.out 1; have hfz19_2 := blk_frozen BK199.out 2; have hfz19_3 := blk_frozen BK199.out 3; have hfz19_4 := blk_frozen BK199.out 4) | ((with_reducible refine gate_callee (f := 35) rfl ?_); refine goesL_ (some 14) rfl rfl Try.func35 (by kernel_rfl) rfl #[.agg #[.int .i64 a0_3, .slice A0_4 l0_4.length c0_4]] rfl (by (simp only [List.map_toArray, List.map_cons, List.map_nil]); rfl) ?_; (with_reducible refine (laws_toCochain.calls k a0_3 _ _ l0_4 t209 t210 _ ?side1 ?side2 A4.out).mono ?_); (case side1 => exact Kd.C_below HR0_4.out (by repeat ((with_reducible first | exact HB.out | refine below_set ?_ GE201.out)))); (case side2 => exact HC0_4.out); rintro e w20 ⟨v211, rfl, ho0, hb⟩; refine ⟨_, rfl, ?_⟩; replace HO204 := Aside0.mk (Kd.S_elder' (by exact (Kd.S_mono (Kd.S_far (p := ⟨gb201, 2, none⟩) (Kd.S_far (p := ⟨gb201, 1, none⟩) (Kd.S_types HO204.out BK201.out (by decide)) (fun _ hk => hk.2) (.int .i64 t205)) (fun _ hk => hk.2) (.slice Ao18 t206.length co18)) (fun _ h_ => h_.1))) (Kd.R_base ho0) hb); have HO212 := Aside0.mk (Kd.R_lower (Kd.R_new' ho0 (Kd.R_lt (by exact (Kd.R_mono (Kd.R_far (p := ⟨gb201, 2, none⟩) (Kd.R_far (p := ⟨gb201, 1, none⟩) (Kd.R_types HO208.out BK201.out (by decide)) (fun _ hk => hk.2) (.int .i64 t205)) (fun _ hk => hk.2) (.slice Ao18 t206.length co18)) (fun _ h_ => h_.1))))) (below_size (by repeat ((with_reducible first | exact HB.out | refine below_set ?_ GE201.out))))); replace HO208 := Aside0.mk (Kd.R_elder' (by exact (Kd.R_mono (Kd.R_far (p := ⟨gb201, 2, none⟩) (Kd.R_far (p := ⟨gb201, 1, none⟩) (Kd.R_types HO208.out BK201.out (by decide)) (fun _ hk => hk.2) (.int .i64 t205)) (fun _ hk => hk.2) (.slice Ao18 t206.length co18)) (fun _ h_ => h_.1))) (Kd.R_base ho0) hb); replace BK199 := Aside0.mk (blk_below (g := gb199) (o := .cells #[.slice A0_0 l0_0.length c0_0, .int .i64 a0_1, .slice A0_2 l0_2.length c0_2, .int .i64 a0_3, .slice A0_4 l0_4.length c0_4] 44 (0, 0)) (by refine blk_far ?_ NB199_201.out _; refine blk_far ?_ NB199_201.out _; exact BK199.out) hb); replace BK200 := Aside0.mk (blk_below (g := gb200) (o := .cells #[.slice none 0 0, .int .i64 0, .slice none 0 0, .int .i64 0, .slice none 0 0] 49 (0, 0)) (by refine blk_far ?_ NB200_201.out _; refine blk_far ?_ NB200_201.out _; exact BK200.out) hb); replace BK201 := Aside0.mk (blk_below (g := gb201) (o := .cells #[.slice Ao12 t202.length co12, .int .i64 t205, .slice Ao18 t206.length co18, .int .i64 0, .slice none 0 0] 49 (0, 0)) (by refine blk_put (cs := #[.slice Ao12 t202.length co12, .int .i64 t205, .slice none 0 0, .int .i64 0, .slice none 0 0]) ?_ 2 _ rfl; refine blk_put (cs := #[.slice Ao12 t202.length co12, .int .i64 0, .slice none 0 0, .int .i64 0, .slice none 0 0]) ?_ 1 _ rfl; exact BK201.out) hb); replace HB := Aside0.mk (below_step (by repeat ((with_reducible first | exact HB.out | refine below_set ?_ GE201.out))) hb); clear hb ho0; have hcz21_0 := bc0 BK201.out; have hcz21_1 := bc1 BK201.out; have hcz21_2 := bc2 BK201.out; have hcz21_3 := bc3 BK201.out; have hcz21_4 := bc4 BK201.out; have hfz21_0 := blk_frozen BK201.out 0; have hfz21_1 := blk_frozen BK201.out 1; have hfz21_2 := blk_frozen BK201.out 2; have hfz21_3 := blk_frozen BK201.out 3; have hfz21_4 := blk_frozen BK201.out 4; obtain ⟨Ao22, co22, eo22⟩ := Kd.R_slice HO212.out; subst eo22; have hcz23_0 := bc0 BK200.out; have hcz23_1 := bc1 BK200.out; have hcz23_2 := bc2 BK200.out; have hcz23_3 := bc3 BK200.out; have hcz23_4 := bc4 BK200.out; have hfz23_0 := blk_frozen BK200.out 0; have hfz23_1 := blk_frozen BK200.out 1; have hfz23_2 := blk_frozen BK200.out 2; have hfz23_3 := blk_frozen BK200.out 3; have hfz23_4 := blk_frozen BK200.out 4))
 refine bodyPost_ret (results_cell_row rfl _ _ gb200 49 #[.slice Ao12 t202.length co12, .int .i64 t205, .slice Ao18 t206.length co18, .int .i64 t209, .slice Ao22 t210.length co22] (0, 0) _ rfl (by refine blk_put (cs := #[.slice Ao12 t202.length co12, .int .i64 t205, .slice Ao18 t206.length co18, .int .i64 t209, .slice none 0 0]) ?_ 4 _ rfl; refine blk_put (cs := #[.slice Ao12 t202.length co12, .int .i64 t205, .slice Ao18 t206.length co18, .int .i64 0, .slice none 0 0]) ?_ 3 _ rfl; refine blk_put (cs := #[.slice Ao12 t202.length co12, .int .i64 t205, .slice none 0 0, .int .i64 0, .slice none 0 0]) ?_ 2 _ rfl; refine blk_put (cs := #[.slice Ao12 t202.length co12, .int .i64 0, .slice none 0 0, .int .i64 0, .slice none 0 0]) ?_ 1 _ rfl; refine blk_put (cs := #[.slice none 0 0, .int .i64 0, .slice none 0 0, .int .i64 0, .slice none 0 0]) ?_ 0 _ rfl; refine blk_far ?_ NB200_201.out _; refine blk_far ?_ NB200_201.out _; exact BK200.out) Try.underlying49 rfl (by kernel_rfl)) rfl ?_
 exact ⟨_, _, _, by rfl, by exact Kd.S_mono (Kd.S_far (p := ⟨gb200, 4, none⟩) (Kd.S_far (p := ⟨gb200, 3, none⟩) (Kd.S_far (p := ⟨gb200, 2, none⟩) (Kd.S_far (p := ⟨gb200, 1, none⟩) (Kd.S_far (p := ⟨gb200, 0, none⟩) (Kd.S_far (p := ⟨gb201, 4, none⟩) (Kd.S_far (p := ⟨gb201, 3, none⟩) (Kd.S_types (Kd.S_types HO204.out BK201.out (by decide)) BK200.out (by decide)) (fun _ hk => hk.1.2) (.int .i64 t209)) (fun _ hk => hk.1.2) (.slice Ao22 t210.length co22)) (fun _ hk => hk.2) (.slice Ao12 t202.length co12)) (fun _ hk => hk.2) (.int .i64 t205)) (fun _ hk => hk.2) (.slice Ao18 t206.length co18)) (fun _ hk => hk.2) (.int .i64 t209)) (fun _ hk => hk.2) (.slice Ao22 t210.length co22)) (fun _ hk => ⟨hk.1.1.1.2, hk.1.1.2⟩), by exact Kd.R_mono (Kd.R_far (p := ⟨gb200, 4, none⟩) (Kd.R_far (p := ⟨gb200, 3, none⟩) (Kd.R_far (p := ⟨gb200, 2, none⟩) (Kd.R_far (p := ⟨gb200, 1, none⟩) (Kd.R_far (p := ⟨gb200, 0, none⟩) (Kd.R_far (p := ⟨gb201, 4, none⟩) (Kd.R_far (p := ⟨gb201, 3, none⟩) (Kd.R_types (Kd.R_types HO208.out BK201.out (by decide)) BK200.out (by decide)) (fun _ hk => hk.1.2) (.int .i64 t209)) (fun _ hk => hk.1.2) (.slice Ao22 t210.length co22)) (fun _ hk => hk.2) (.slice Ao12 t202.length co12)) (fun _ hk => hk.2) (.int .i64 t205)) (fun _ hk => hk.2) (.slice Ao18 t206.length co18)) (fun _ hk => hk.2) (.int .i64 t209)) (fun _ hk => hk.2) (.slice Ao22 t210.length co22)) (fun _ hk => hk.1.1.2), by exact Kd.R_mono (Kd.R_far (p := ⟨gb200, 4, none⟩) (Kd.R_far (p := ⟨gb200, 3, none⟩) (Kd.R_far (p := ⟨gb200, 2, none⟩) (Kd.R_far (p := ⟨gb200, 1, none⟩) (Kd.R_far (p := ⟨gb200, 0, none⟩) (Kd.R_far (p := ⟨gb201, 4, none⟩) (Kd.R_far (p := ⟨gb201, 3, none⟩) (Kd.R_types (Kd.R_types HO212.out BK201.out (by decide)) BK200.out (by decide)) (fun _ hk => hk.1.2) (.int .i64 t209)) (fun _ hk => hk.1.2) (.slice Ao22 t210.length co22)) (fun _ hk => hk.2) (.slice Ao12 t202.length co12)) (fun _ hk => hk.2) (.int .i64 t205)) (fun _ hk => hk.2) (.slice Ao18 t206.length co18)) (fun _ hk => hk.2) (.int .i64 t209)) (fun _ hk => hk.2) (.slice Ao22 t210.length co22)) (fun _ hk => hk.1.1.2), by repeat ((with_reducible first | exact HB.out | refine below_set ?_ GE200.out | refine below_set ?_ GE201.out))⟩

/-! ### impl_isDegree: function 126 -/
def impl_isDegree.f (a0 : Int) : Option (Bool) := if a0 ≥ 0 then (some (decide (a0 ≤ 3))) else (some false)
set_option maxHeartbeats 8000000 in
set_option maxRecDepth 100000 in
theorem impl_isDegree.calls (a0 : Int) (r : Bool) (w : World) (h : impl_isDegree.f a0 = some r) :
  Calls Try.prog 126 #[.int .i64 a0] w fun e w' => e = .returned (.bool r) ∧ Drawn0 w w' := by
 have H : (if a0 ≥ 0 then (some (decide (a0 ≤ 3))) else (some false)) = some r := h
 clear h
 by_cases c2 : a0 ≥ 0
 ·rw [if_pos c2] at H
  have c2b0 : decide (0 ≤ a0) = true := decide_eq_true c2
  clear c2
  obtain rfl := Option.some.inj H
  go_enter Try.func126, Try.ntmps126
  go_wp2
  go_ret
  exact ⟨by rfl, by repeat (exact Drawn0.refl _)⟩
 ·rw [if_neg c2] at H
  have c2b0 : decide (0 ≤ a0) = false := decide_eq_false c2
  clear c2
  obtain rfl := Option.some.inj H
  go_enter Try.func126, Try.ntmps126
  go_wp2
  go_ret
  exact ⟨by rfl, by repeat (exact Drawn0.refl _)⟩

/-! ### impl_order: function 107 -/
def impl_order.f (l0_0 : List (List Int)) : Option (Int) := some (l0_0.length : Int)
set_option maxHeartbeats 8000000 in
set_option maxRecDepth 100000 in
theorem impl_order.calls (A0_0 : Option Addr) (c0_0 : Nat) (l0_0 : List (List Int)) (r : Int) (w : World) (hr0_0 : Kd.C (Kd.slice 2 (Kd.int .i64)) w A0_0 l0_0.length l0_0) (hc0_0 : l0_0.length ≤ c0_0) (h : impl_order.f l0_0 = some r) :
  Calls Try.prog 107 #[.agg #[.slice A0_0 l0_0.length c0_0]] w fun e w' => e = .returned (.int .i64 r) ∧ Below w.heap.size w w' := by
 have hu33 := Try.underlying33
 have hu22 := Try.underlying22
 have HR0_0 := Aside0.mk hr0_0
 have HC0_0 := Aside0.mk hc0_0
 clear hr0_0 hc0_0
 have HB := Aside0.mk (Below.refl w.heap.size w)
 have H : (some (l0_0.length : Int)) = some r := h
 clear h
 obtain rfl := Option.some.inj H
 go_enter Try.func107, Try.ntmps107
 go_wp2_with (((with_reducible refine gate_dst (N := 1) rfl ?_); refine box_event ?hg (N := 1) ?hd (cs := #[.slice A0_0 l0_0.length c0_0]) (t := 33) ?hr ?_; (case hd => rfl); (case hg => rfl); (case hr => (go_simp; done)); intro gb213 hg w2 hbox hb; have BK213 := Aside0.mk (hbox); have GW213 := Aside0.mk (geg hg (below_size HB.out)); have GE213 := Aside0.mk (geg hg (below_size HB.out)); replace HB := Aside0.mk (below_step HB.out hb); clear hb hbox hg; have hcz3_0 := bc0 BK213.out; have hfz3_0 := blk_frozen BK213.out 0))
 go_ret
 exact ⟨by rfl, by exact HB.out⟩

/-! ### impl_power: function 168 -/
def impl_power.l0 : Nat → Int → Int → Int → Int → Option (Int)
 | 0, _, _, _, _ => none
 | k + 1, x0, x5, x6, x7 => if x7 < x6 then (impl_power.l0 k x0 (wrap64 (x5 * x0)) x6 (wrap64 (x7 + 1))) else (some x5)
def impl_power.f (k : Nat) (a0 : Int) (a1 : Int) : Option (Int) := impl_power.l0 k a0 1 a1 0
theorem impl_power.mono_l : ∀ k, (∀ y0 y1 y2 y3, LeO (impl_power.l0 k y0 y1 y2 y3) (impl_power.l0 (k + 1) y0 y1 y2 y3))
 | 0 => fun _ _ _ _ r h => by simp [impl_power.l0] at h
 | k + 1 => by
  have ih0 := impl_power.mono_l k
  ·intro y0 y1 y2 y3
   unfold impl_power.l0
   repeat' first
   | (with_reducible exact ih0 _ _ _ _)
   | (with_reducible exact LeO.refl _)
   | (with_reducible exact LeO.none _)
   | (with_reducible refine LeO.ite ?_ ?_)
   | (with_reducible refine LeO.bind ?_ (fun _ => ?_))
   | exact ih0 _ _ _ _
   | exact LeO.none _
   | refine LeO.ite ?_ ?_
   | refine LeO.bind ?_ (fun _ => ?_)
theorem impl_power.mono : ∀ a0 a1 k, LeO (impl_power.f k a0 a1) (impl_power.f (k + 1) a0 a1) := by
 intro a0 a1 k
 have ih0 := impl_power.mono_l k
 unfold impl_power.f
 repeat' first
   | (with_reducible exact ih0 _ _ _ _)
set_option maxHeartbeats 8000000 in
set_option maxRecDepth 100000 in
theorem impl_power.calls (k : Nat) (a0 : Int) (a1 : Int) (r : Int) (w : World) (h : impl_power.f k a0 a1 = some r) :
  Calls Try.prog 168 #[.int .i64 a0, .int .i64 a1] w fun e w' => e = .returned (.int .i64 r) ∧ Drawn0 w w' := by
 have H : (impl_power.l0 k a0 1 a1 0) = some r := h
 clear h
 have H' := Aside0.mk H
 clear H
 go_enter Try.func168, Try.ntmps168
 go_wp2
 go_loopg [5, 7] k (fun kq v5 v7 w' => ∃ (x5_1 : Int) (x7_1 : Int), v5 = .int .i64 x5_1 ∧ v7 = .int .i64 x7_1 ∧ Aside0 (impl_power.l0 kq a0 x5_1 a1 x7_1 = some r) ∧ Aside0 (kq ≤ k) ∧ Drawn0 w w')
 case atStart => exact ⟨(1), (0), (by rfl), (by rfl), H', ⟨Nat.le_refl _⟩, by repeat (exact Drawn0.refl _)⟩
 case round =>
  clear H'
  obtain ⟨x5_1, x7_1, rfl, rfl, HA, HK1, ⟨m1, rfl⟩⟩ := hrel
  cases gk with
  | zero => exact absurd HA.out (by simp [impl_power.l0])
  | succ k1 =>
   have H := HA.out
   clear HA
   simp only [impl_power.l0] at H
   by_cases c3 : x7_1 < a1
   ·rw [if_pos c3] at H
    have c3b0 : decide (x7_1 < a1) = true := decide_eq_true c3
    clear c3
    have H' := Aside0.mk H
    clear H
    go_wp2
    go_roundg k1
    case measure => have := HK1.out; omega
    case rel => exact ⟨(wrap64 (x5_1 * a0)), (wrap64 (x7_1 + 1)), (by rfl), (by rfl), H', ⟨by have := HK1.out; omega⟩, by repeat (first | exact Drawn0.refl _ | apply Drawn0.step)⟩
   ·rw [if_neg c3] at H
    have c3b0 : decide (x7_1 < a1) = false := decide_eq_false c3
    clear c3
    obtain rfl := Option.some.inj H
    go_wp2
    go_ret
    exact ⟨by rfl, by repeat (first | exact Drawn0.refl _ | apply Drawn0.step)⟩

/-! ### impl_cells: function 127 -/
def impl_cells.f (k : Nat) (l0_0 : List (List Int)) (a1 : Int) : Option (Int) := (impl_order.f l0_0).bind fun t215 => ((impl_power.f k (wrap64 (t215 - 1)) a1).bind fun t216 => (some t216))
theorem impl_cells.mono : ∀ a0 a1 k, LeO (impl_cells.f k a0 a1) (impl_cells.f (k + 1) a0 a1) := by
 intro a0 a1 k
 unfold impl_cells.f
 repeat' first
   | (with_reducible exact impl_power.mono _ _ _)
   | (with_reducible exact LeO.refl _)
   | (with_reducible refine LeO.bind ?_ (fun _ => ?_))
set_option maxHeartbeats 8000000 in
set_option maxRecDepth 100000 in
theorem impl_cells.calls (k : Nat) (A0_0 : Option Addr) (c0_0 : Nat) (l0_0 : List (List Int)) (a1 : Int) (r : Int) (w : World) (hr0_0 : Kd.C (Kd.slice 2 (Kd.int .i64)) w A0_0 l0_0.length l0_0) (hc0_0 : l0_0.length ≤ c0_0) (h : impl_cells.f k l0_0 a1 = some r) :
  Calls Try.prog 127 #[.agg #[.slice A0_0 l0_0.length c0_0], .int .i64 a1] w fun e w' => e = .returned (.int .i64 r) ∧ Below w.heap.size w w' := by
 have hu33 := Try.underlying33
 have HR0_0 := Aside0.mk hr0_0
 have HC0_0 := Aside0.mk hc0_0
 clear hr0_0 hc0_0
 have HB := Aside0.mk (Below.refl w.heap.size w)
 have H : ((impl_order.f l0_0).bind fun t215 => ((impl_power.f k (wrap64 (t215 - 1)) a1).bind fun t216 => (some t216))) = some r := h
 clear h
 replace H := Option.bind_eq_some_iff.mp H
 obtain ⟨t215, A30, H⟩ := H
 replace H : ((impl_power.f k (wrap64 (t215 - 1)) a1).bind fun t216 => (some t216)) = some r := H
 have A3 := Aside0.mk A30
 clear A30
 replace H := Option.bind_eq_some_iff.mp H
 obtain ⟨t216, A40, H⟩ := H
 replace H : (some t216) = some r := H
 have A4 := Aside0.mk A40
 clear A40
 obtain rfl := Option.some.inj H
 go_enter Try.func127, Try.ntmps127
 go_wp2_with (first | ((with_reducible refine gate_dst (N := 2) rfl ?_); refine box_event ?hg (N := 2) ?hd (cs := #[.slice A0_0 l0_0.length c0_0]) (t := 33) ?hr ?_; (case hd => rfl); (case hg => rfl); (case hr => (go_simp; done)); intro gb214 hg w5 hbox hb; have BK214 := Aside0.mk (hbox); have GW214 := Aside0.mk (geg hg (below_size HB.out)); have GE214 := Aside0.mk (geg hg (below_size HB.out)); replace HB := Aside0.mk (below_step HB.out hb); clear hb hbox hg; have hcz6_0 := bc0 BK214.out; have hfz6_0 := blk_frozen BK214.out 0) | ((with_reducible refine gate_callee (f := 107) rfl ?_); refine goesL_ (some 6) rfl rfl Try.func107 (by kernel_rfl) rfl #[.agg #[.slice A0_0 l0_0.length c0_0]] rfl (by (simp only [List.map_toArray, List.map_cons, List.map_nil]); rfl) ?_; (with_reducible refine (impl_order.calls _ _ l0_0 t215 _ ?side1 ?side2 A3.out).mono ?_); (case side1 => exact (Kd.C_below HR0_0.out HB.out)); (case side2 => exact HC0_0.out); rintro e w7 ⟨rfl, hb⟩; refine ⟨_, rfl, ?_⟩; replace BK214 := Aside0.mk (blk_below BK214.out hb); replace HB := Aside0.mk (below_step HB.out hb); clear hb) | ((with_reducible refine gate_callee (f := 168) rfl ?_); refine goesL_ (some 9) rfl rfl Try.func168 (by kernel_rfl) rfl #[.int .i64 (wrap64 (t215 - 1)), .int .i64 a1] rfl (by (simp only [List.map_toArray, List.map_cons, List.map_nil]); rfl) ?_; (with_reducible refine (impl_power.calls k (wrap64 (t215 - 1)) a1 t216 _ A4.out).mono ?_); rintro e w' ⟨rfl, ⟨nd, rfl⟩⟩; refine ⟨_, rfl, ?_⟩))
 go_ret
 exact ⟨by rfl, by repeat ((with_reducible first | exact HB.out | apply pw_below_drewN))⟩

/-! ### impl_areIn: function 128 -/
def impl_areIn.l0 : Nat → Int → List Int → Int → Int → Option (Bool)
 | 0, _, _, _, _ => none
 | k + 1, x0, x7, x8, x9 => if x9 < x8 then (if 0 ≤ x9 then (if x9 < (x7.length : Int) then (if (rd x7 x9) < 0 then (some false) else (if (rd x7 x9) ≥ x0 then (some false) else (impl_areIn.l0 k x0 x7 x8 (wrap64 (x9 + 1))))) else (none)) else (none)) else (some true)
def impl_areIn.f (k : Nat) (a0 : Int) (l1 : List Int) : Option (Bool) := impl_areIn.l0 k a0 l1 (l1.length : Int) 0
theorem impl_areIn.mono_l : ∀ k, (∀ y0 y1 y2 y3, LeO (impl_areIn.l0 k y0 y1 y2 y3) (impl_areIn.l0 (k + 1) y0 y1 y2 y3))
 | 0 => fun _ _ _ _ r h => by simp [impl_areIn.l0] at h
 | k + 1 => by
  have ih0 := impl_areIn.mono_l k
  ·intro y0 y1 y2 y3
   unfold impl_areIn.l0
   repeat' first
   | (with_reducible exact ih0 _ _ _ _)
   | (with_reducible exact LeO.refl _)
   | (with_reducible exact LeO.none _)
   | (with_reducible refine LeO.ite ?_ ?_)
   | (with_reducible refine LeO.bind ?_ (fun _ => ?_))
   | exact ih0 _ _ _ _
   | exact LeO.none _
   | refine LeO.ite ?_ ?_
   | refine LeO.bind ?_ (fun _ => ?_)
theorem impl_areIn.mono : ∀ a0 a1 k, LeO (impl_areIn.f k a0 a1) (impl_areIn.f (k + 1) a0 a1) := by
 intro a0 a1 k
 have ih0 := impl_areIn.mono_l k
 unfold impl_areIn.f
 repeat' first
   | (with_reducible exact ih0 _ _ _ _)
set_option maxHeartbeats 8000000 in
set_option maxRecDepth 100000 in
theorem impl_areIn.calls (k : Nat) (a0 : Int) (A1 : Option Addr) (c1 : Nat) (l1 : List Int) (r : Bool) (w : World) (hr1 : Kd.C (Kd.int .i64) w A1 l1.length l1) (hc1 : l1.length ≤ c1) (h : impl_areIn.f k a0 l1 = some r) :
  Calls Try.prog 128 #[.int .i64 a0, .slice A1 l1.length c1] w fun e w' => e = .returned (.bool r) ∧ Drawn0 w w' := by
 have hu2 := Try.underlying2
 have HR1 := Aside0.mk hr1
 have HC1 := Aside0.mk hc1
 clear hr1 hc1
 have H : (impl_areIn.l0 k a0 l1 (l1.length : Int) 0) = some r := h
 clear h
 have H' := Aside0.mk H
 clear H
 go_enter Try.func128, Try.ntmps128
 go_wp2
 go_loopg [9] k (fun kq v9 w' => ∃ (x9_1 : Int), v9 = .int .i64 x9_1 ∧ Aside0 (impl_areIn.l0 kq a0 l1 (l1.length : Int) x9_1 = some r) ∧ Aside0 (kq ≤ k) ∧ Drawn0 w w')
 case atStart => exact ⟨(0), (by rfl), H', ⟨Nat.le_refl _⟩, by repeat (exact Drawn0.refl _)⟩
 case round =>
  clear H'
  obtain ⟨x9_1, rfl, HA, HK1, ⟨m1, rfl⟩⟩ := hrel
  cases gk with
  | zero => exact absurd HA.out (by simp [impl_areIn.l0])
  | succ k1 =>
   have H := HA.out
   clear HA
   simp only [impl_areIn.l0] at H
   by_cases c3 : x9_1 < (l1.length : Int)
   ·rw [if_pos c3] at H
    have c3b0 : decide (x9_1 < (l1.length : Int)) = true := decide_eq_true c3
    clear c3
    by_cases c4 : 0 ≤ x9_1
    ·rw [if_pos c4] at H
     have c4b0 : decide (0 ≤ x9_1) = true := decide_eq_true c4
     clear c4
     by_cases c5 : x9_1 < (l1.length : Int)
     ·rw [if_pos c5] at H
      have c5b0 : decide (x9_1 < (l1.length : Int)) = true := decide_eq_true c5
      clear c5
      by_cases c6 : (rd l1 x9_1) < 0
      ·rw [if_pos c6] at H
       have c6b0 : decide ((rd l1 x9_1) < 0) = true := decide_eq_true c6
       clear c6
       obtain rfl := Option.some.inj H
       have p217 : 0 ≤ (x9_1 : Int) := of_decide_eq_true ‹_›
       have q217 : x9_1 < (l1.length : Int) := of_decide_eq_true ‹_›
       obtain ⟨ad217, e217, hx217_0⟩ := Kd.at_int HR1.out x9_1 p217 q217
       cases e217
       replace p217 := eq_true p217
       replace q217 := eq_true q217
       go_wp2
       go_ret
       exact ⟨by rfl, by repeat (first | exact Drawn0.refl _ | apply Drawn0.step)⟩
      ·rw [if_neg c6] at H
       have c6b0 : decide ((rd l1 x9_1) < 0) = false := decide_eq_false c6
       clear c6
       by_cases c7 : (rd l1 x9_1) ≥ a0
       ·rw [if_pos c7] at H
        have c7b0 : decide (a0 ≤ (rd l1 x9_1)) = true := decide_eq_true c7
        clear c7
        obtain rfl := Option.some.inj H
        have p217 : 0 ≤ (x9_1 : Int) := of_decide_eq_true ‹_›
        have q217 : x9_1 < (l1.length : Int) := of_decide_eq_true ‹_›
        obtain ⟨ad217, e217, hx217_0⟩ := Kd.at_int HR1.out x9_1 p217 q217
        cases e217
        replace p217 := eq_true p217
        replace q217 := eq_true q217
        go_wp2
        go_ret
        exact ⟨by rfl, by repeat (first | exact Drawn0.refl _ | apply Drawn0.step)⟩
       ·rw [if_neg c7] at H
        have c7b0 : decide (a0 ≤ (rd l1 x9_1)) = false := decide_eq_false c7
        clear c7
        have H' := Aside0.mk H
        clear H
        have p217 : 0 ≤ (x9_1 : Int) := of_decide_eq_true ‹_›
        have q217 : x9_1 < (l1.length : Int) := of_decide_eq_true ‹_›
        obtain ⟨ad217, e217, hx217_0⟩ := Kd.at_int HR1.out x9_1 p217 q217
        cases e217
        replace p217 := eq_true p217
        replace q217 := eq_true q217
        go_wp2
        go_roundg k1
        case measure => have := HK1.out; omega
        case rel => exact ⟨(wrap64 (x9_1 + 1)), (by rfl), H', ⟨by have := HK1.out; omega⟩, by repeat (first | exact Drawn0.refl _ | apply Drawn0.step)⟩
     ·rw [if_neg c5] at H
      exact absurd H (by simp)
    ·rw [if_neg c4] at H
     exact absurd H (by simp)
   ·rw [if_neg c3] at H
    have c3b0 : decide (x9_1 < (l1.length : Int)) = false := decide_eq_false c3
    clear c3
    obtain rfl := Option.some.inj H
    go_wp2
    go_ret
    exact ⟨by rfl, by repeat (first | exact Drawn0.refl _ | apply Drawn0.step)⟩

end Go.Proofs.Ytkpcogaahgfmcaa.PFnExactIsDesk
