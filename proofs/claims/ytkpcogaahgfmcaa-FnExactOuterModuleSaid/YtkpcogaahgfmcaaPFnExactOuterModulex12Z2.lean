-- Made by a program of this session (wip/tools: the patched printer), for this claim.
import Derived.Test.YtkpcogaahgfmcaaXSqZ2
import Derived.Test.YtkpcogaahgfmcaaPFnExactOuterModulex0Z2
import Derived.Test.YtkpcogaahgfmcaaPFnExactOuterModulex11Z2
namespace Go.Proofs.Ytkpcogaahgfmcaa.PFnExactOuterModule
open Go.Proofs.YtkpcogaahgfmcaaX
open Go.RowKit Go.Proofs.YtkpcogaahgfmcaaW.PrintWords Go.Proofs.YtkpcogaahgfmcaaW.PrintLast Go.Proofs.YtkpcogaahgfmcaaW.PrintMore
attribute [local go_sem] max2_int min2_int max_two min_two max_three min_three max_four min_four   -- for this text's walks alone
set_option linter.unusedVariables false
set_option linter.unusedSimpArgs false

/-! ### impl_OuterModule: function 27 -/
def impl_OuterModule.f (k : Nat) (l0_0 : List (List Int)) (a1_0 : Int) (l1_1 : List Int) (a2 : Int) : Option (Int × List Int × Int) := (impl_divisorCode.f k l0_0 a1_0 l1_1 a2).bind fun t285 => (if t285 = 0 then (if a2 = 0 then (none) else ((impl_reduced.f k l0_0 a1_0 l1_1 (wrap64 (Int.tdiv a1_0 a2))).bind fun bt286 => (some (bt286.1, bt286.2, 0)))) else (some (0, ([] : List Int), t285)))
theorem impl_OuterModule.mono : ∀ a0 a1 a2 a3 k, LeO (impl_OuterModule.f k a0 a1 a2 a3) (impl_OuterModule.f (k + 1) a0 a1 a2 a3) := by
 intro a0 a1 a2 a3 k
 unfold impl_OuterModule.f
 repeat' first
   | (with_reducible exact impl_divisorCode.mono _ _ _ _ _)
   | (with_reducible exact impl_reduced.mono _ _ _ _ _)
   | (with_reducible exact LeO.refl _)
   | (with_reducible refine LeO.ite ?_ ?_)
   | (with_reducible refine LeO.bind ?_ (fun _ => ?_))
def impl_OuterModule.T4 : Bool × List (List Nat × List Nat) := (true, [([], []), ([], []), ([], []), ([2], [2]), ([], []), ([3, 4], [3, 4]), ([0, 1, 5], [0, 1, 5]), ([6, 6, 0, 1, 2, 3, 4, 5, 6], [6]), ([7, 0, 1, 2, 3, 4, 5, 6, 7], [])])
def impl_OuterModule.B4 : List Nat := [0, 0, 0, 4, 0, 28, 63, 127, 255]
theorem impl_OuterModule.tab4 : rtab .any (opsOf Try.f27 4) = impl_OuterModule.T4 := by kernel_rfl
theorem impl_OuterModule.bits4 : waitsOk impl_OuterModule.T4.2 impl_OuterModule.B4 = true := by kernel_rfl
set_option maxHeartbeats 8000000 in
set_option maxRecDepth 100000 in
theorem impl_OuterModule.calls (k : Nat) (A0_0 : Option Addr) (c0_0 : Nat) (l0_0 : List (List Int)) (a1_0 : Int) (A1_1 : Option Addr) (c1_1 : Nat) (l1_1 : List Int) (a2 : Int) (r1 : Int) (r2 : List Int) (r3 : Int) (w : World) (hr0_0 : Kd.C (Kd.slice 2 (Kd.int .i64)) w A0_0 l0_0.length l0_0) (hc0_0 : l0_0.length ≤ c0_0) (hr1_1 : Kd.C (Kd.int .i64) w A1_1 l1_1.length l1_1) (hc1_1 : l1_1.length ≤ c1_1) (h : impl_OuterModule.f k l0_0 a1_0 l1_1 a2 = some (r1, r2, r3)) :
  Calls Try.prog 27 #[.agg #[.slice A0_0 l0_0.length c0_0], .agg #[.int .i64 a1_0, .slice A1_1 l1_1.length c1_1], .int .i64 a2] w fun e w' => ∃ v1_ : Value, e = .returned (.tuple #[.agg #[.int .i64 r1, v1_], .int .i64 r3]) ∧ Kd.R (Kd.int .i64) 2 w' w.heap.size (fun _ => True) v1_ r2 ∧ Below w.heap.size w w' := by
 have hu33 := Try.underlying33
 have hu30 := Try.underlying30
 have hu2 := Try.underlying2
 have HR0_0 := Aside0.mk hr0_0
 have HC0_0 := Aside0.mk hc0_0
 clear hr0_0 hc0_0
 have HR1_1 := Aside0.mk hr1_1
 have HC1_1 := Aside0.mk hc1_1
 clear hr1_1 hc1_1
 have HB := Aside0.mk (Below.refl w.heap.size w)
 have H : ((impl_divisorCode.f k l0_0 a1_0 l1_1 a2).bind fun t285 => (if t285 = 0 then (if a2 = 0 then (none) else ((impl_reduced.f k l0_0 a1_0 l1_1 (wrap64 (Int.tdiv a1_0 a2))).bind fun bt286 => (some (bt286.1, bt286.2, 0)))) else (some (0, ([] : List Int), t285)))) = some (r1, r2, r3) := h
 clear h
 obtain ⟨t285, A4, H⟩ := bnd H
 try dsimp only at H
 by_cases c5 : t285 = 0
 ·rw [if_pos c5] at H
  have c5b0 : (t285 == 0) = true := beq_iff_eq.mpr c5
  have c5b1 : (t285 != 0) = false := bne_eq_false_iff_eq.mpr c5
  clear c5
  by_cases c6 : a2 = 0
  ·rw [if_pos c6] at H
   exact absurd H (by simp)
  rw [if_neg c6] at H
  have c6b0 : (a2 == 0) = false := beq_eq_false_iff_ne.mpr c6
  have c6b1 : (a2 != 0) = true := bne_iff_ne.mpr c6
  obtain ⟨⟨t286, t287⟩, A7, H⟩ := bnd H
  try dsimp only at H
  simp only [Option.some.injEq, Prod.mk.injEq] at H
  obtain ⟨rfl, rfl, rfl⟩ := H
  go_enter Try.func27, Try.ntmps27
  go_wp2_with (first | ((with_reducible refine gate_dst (N := 3) rfl ?_); refine box_event ?hg (N := 3) ?hd (cs := #[.slice A0_0 l0_0.length c0_0]) (t := 33) ?hr ?_; (case hd => rfl); (case hg => rfl); (case hr => (go_simp; done)); intro gb282 hg w8 hbox hb; have BK282 := Aside0.mk (hbox); have GW282 := Aside0.mk (geg hg (below_size HB.out)); have GE282 := Aside0.mk (geg hg (below_size HB.out)); replace HB := Aside0.mk (below_step HB.out hb); clear hb hbox hg) | ((with_reducible refine gate_dst (N := 4) rfl ?_); refine box_event ?hg (N := 4) ?hd (cs := #[.int .i64 a1_0, .slice A1_1 l1_1.length c1_1]) (t := 30) ?hr ?_; (case hd => rfl); (case hg => rfl); (case hr => (go_simp; done)); intro gb283 hg w9 hbox hb; have BK283 := Aside0.mk (hbox); have GW283 := Aside0.mk (geg hg (below_size HB.out)); have GE283 := Aside0.mk (geg hg (below_size HB.out)); replace HB := Aside0.mk (below_step HB.out hb); have NB282_283 := Aside0.mk (neg1 hg (Nat.ne_of_lt (blk_lt BK282.out))); have NB283_282 := Aside0.mk (neg2 hg (Nat.ne_of_gt (blk_lt BK282.out))); replace BK282 := Aside0.mk (blk_below BK282.out hb); clear hb hbox hg) | ((with_reducible refine gate_dst (N := 6) rfl ?_); refine box_event ?hg (N := 6) ?hd (cs := #[.int .i64 0, .slice none 0 0]) (t := 30) ?hr ?_; (case hd => rfl); (case hg => rfl); (case hr => (go_simp; done)); intro gb284 hg w10 hbox hb; have BK284 := Aside0.mk (hbox); have GW284 := Aside0.mk (geg hg (below_size HB.out)); have GE284 := Aside0.mk (geg hg (below_size HB.out)); replace HB := Aside0.mk (below_step HB.out hb); have NB282_284 := Aside0.mk (neg1 hg (Nat.ne_of_lt (blk_lt BK282.out))); have NB284_282 := Aside0.mk (neg2 hg (Nat.ne_of_gt (blk_lt BK282.out))); replace BK282 := Aside0.mk (blk_below BK282.out hb); have NB283_284 := Aside0.mk (neg1 hg (Nat.ne_of_lt (blk_lt BK283.out))); have NB284_283 := Aside0.mk (neg2 hg (Nat.ne_of_gt (blk_lt BK283.out))); replace BK283 := Aside0.mk (blk_below BK283.out hb); clear hb hbox hg; have hnb11 := NB282_283.out; have hnc11 := NB283_282.out; have hnb12 := NB282_284.out; have hnc12 := NB284_282.out; have hcz13_0 := bc0 BK282.out; have hfz13_0 := blk_frozen BK282.out 0; have hnb14 := NB283_284.out; have hnc14 := NB284_283.out; have hcz15_0 := bc0 BK283.out; have hcz15_1 := bc1 BK283.out; have hfz15_0 := blk_frozen BK283.out 0; have hfz15_1 := blk_frozen BK283.out 1) | ((with_reducible refine gate_callee (f := 76) rfl ?_); refine goesL_ (some 12) rfl rfl Try.func76 (by kernel_rfl) rfl #[.agg #[.slice A0_0 l0_0.length c0_0], .agg #[.int .i64 a1_0, .slice A1_1 l1_1.length c1_1], .int .i64 a2] rfl (by (simp only [List.map_toArray, List.map_cons, List.map_nil]); rfl) ?_; (with_reducible refine (impl_divisorCode.calls k _ _ l0_0 a1_0 (fun k_ => k_ < w.heap.size) _ _ l1_1 a2 t285 _ ?side1 ?side2 ?side3 A4.out).mono ?_); (case side1 => exact (Kd.C_below HR0_0.out HB.out)); (case side2 => exact HC0_0.out); (case side3 => exact Kd.V_mk HC1_1.out (Kd.F_below (Kd.C_F (Kd.heap_int .i64) HR1_1.out) HB.out)); rintro e w16 ⟨rfl, hb⟩; refine ⟨_, rfl, ?_⟩; replace BK282 := Aside0.mk (blk_below BK282.out hb); replace BK283 := Aside0.mk (blk_below BK283.out hb); replace BK284 := Aside0.mk (blk_below BK284.out hb); replace HB := Aside0.mk (below_step HB.out hb); clear hb))
  replace BK282 := Aside0.mk (blk_drew BK282.out); replace BK283 := Aside0.mk (blk_drew BK283.out); replace BK284 := Aside0.mk (blk_drew BK284.out); replace HB := Aside0.mk (below_drew1 HB.out)
  refine start_ (n := 9) (S := fun w' => w'.cell? ⟨gb282, 0, none⟩ = some (.slice A0_0 l0_0.length c0_0) ∧ w'.cell? ⟨gb283, 0, none⟩ = some (.int .i64 a1_0) ∧ w'.cell? ⟨gb283, 1, none⟩ = some (.slice A1_1 l1_1.length c1_1)) (ds := []) #[false,false,false,false,false,false,false,false,false] (by kernel_rfl) rfl rfl ⟨(blk_cell BK282.out 0).trans rfl, (blk_cell BK283.out 0).trans rfl, (blk_cell BK283.out 1).trans rfl⟩ (fun hHeld => ?_); refine with_tabW impl_OuterModule.tab4 impl_OuterModule.bits4 (fun HT_ HW_ => ?_)
  generalize w16.drew = w17 at BK282 BK283 BK284 HB hHeld ⊢
  refine pure_ (i := 2) (N := some 19) (v := ?_) (a' := ?_) #[false,false,true,false,false,false,false,false,false] rfl rfl (any_of HT_.out (by kernel_rfl)) (fun _ _ _ h => h) (Or.inl ⟨by rfl, ?_⟩) ?_ ?_
  rotate_left
  ·intro w'
   go_simp
   with_reducible rfl
  rotate_left
  ·simp only [Act.put, List.setIfInBounds_toArray, List.set_cons_zero, List.set_cons_succ, i64_w, i32_w]
   rfl
  refine pure_ (i := 4) (N := some 21) (v := ?_) (a' := ?_) #[false,false,true,false,true,false,false,false,false] rfl rfl (any_of HT_.out (by kernel_rfl)) (fun _ _ _ h => h) (Or.inl ⟨by rfl, ?_⟩) ?_ ?_
  rotate_left
  ·intro w'
   go_simp
   with_reducible rfl
  rotate_left
  ·simp only [Act.put, List.setIfInBounds_toArray, List.set_cons_zero, List.set_cons_succ, i64_w, i32_w]
   rfl
  refine take_ (i := 0) (N := some 17) (v := ?_) (a' := ?_) #[true,false,true,false,true,false,false,false,false] rfl rfl (take_ofW HT_.out HW_.out (by kernel_rfl)) (fun _ _ _ h => h) (Or.inl ⟨by rfl, ?_⟩) hHeld ?_ ?_
  rotate_left
  ·rintro w' ⟨s0, s1, s2⟩
   go_simp
   with_reducible rfl
  rotate_left
  ·simp only [Act.put, List.setIfInBounds_toArray, List.set_cons_zero, List.set_cons_succ, i64_w, i32_w]
   rfl
  refine take_ (i := 1) (N := some 18) (v := ?_) (a' := ?_) #[true,true,true,false,true,false,false,false,false] rfl rfl (take_ofW HT_.out HW_.out (by kernel_rfl)) (fun _ _ _ h => h) (Or.inl ⟨by rfl, ?_⟩) hHeld ?_ ?_
  rotate_left
  ·rintro w' ⟨s0, s1, s2⟩
   go_simp
   with_reducible rfl
  rotate_left
  ·simp only [Act.put, List.setIfInBounds_toArray, List.set_cons_zero, List.set_cons_succ, i64_w, i32_w]
   rfl
  refine take_ (i := 3) (N := some 20) (v := ?_) (a' := ?_) #[true,true,true,true,true,false,false,false,false] rfl rfl (take_ofW HT_.out HW_.out (by kernel_rfl)) (fun _ _ _ h => h) (Or.inl ⟨by rfl, ?_⟩) hHeld ?_ ?_
  rotate_left
  ·rintro w' ⟨s0, s1, s2⟩
   go_simp
   with_reducible rfl
  rotate_left
  ·simp only [Act.put, List.setIfInBounds_toArray, List.set_cons_zero, List.set_cons_succ, i64_w, i32_w]
   rfl
  refine pure_ (i := 5) (N := some 22) (v := ?_) (a' := ?_) #[true,true,true,true,true,true,false,false,false] rfl rfl (any_of HT_.out (by kernel_rfl)) (fun _ _ _ h => h) (Or.inl ⟨by rfl, ?_⟩) ?_ ?_
  rotate_left
  ·intro w'
   go_simp
   with_reducible rfl
  rotate_left
  ·simp only [Act.put, List.setIfInBounds_toArray, List.set_cons_zero, List.set_cons_succ, i64_w, i32_w]
   rfl
  refine one_ (i := 6) (N := some 23) #[true,true,true,true,true,true,true,false,false] rfl rfl (one_of HT_.out (by kernel_rfl)) (by decide) (fun K hK => ?_)
  refine goes_ Try.func77 (by kernel_rfl) rfl #[.agg #[.slice A0_0 l0_0.length c0_0], .agg #[.int .i64 a1_0, .slice A1_1 l1_1.length c1_1], .int .i64 (wrap64 (Int.tdiv a1_0 a2))] (by rfl) rfl rfl (by (simp only [List.map_toArray, List.map_cons, List.map_nil]); rfl) ?_
  with_reducible refine (impl_reduced.calls k _ _ l0_0 a1_0 _ _ l1_1 (wrap64 (Int.tdiv a1_0 a2)) t286 t287 _ ?side1 ?side2 ?side3 ?side4 A7.out).mono ?_
  (case side1 => exact (Kd.C_below HR0_0.out HB.out))
  (case side2 => exact HC0_0.out)
  (case side3 => exact (Kd.C_below HR1_1.out HB.out))
  (case side4 => exact HC1_1.out)
  rintro e w18 ⟨v288, rfl, ho0, hb⟩
  refine ⟨_, rfl, ?_⟩
  have HO289 := Aside0.mk (Kd.R_lower ho0 (below_size HB.out)); replace BK282 := Aside0.mk (blk_below BK282.out hb); replace BK283 := Aside0.mk (blk_below BK283.out hb); replace BK284 := Aside0.mk (blk_below BK284.out hb); replace HB := Aside0.mk (below_step HB.out hb)
  clear hb
  clear ho0
  obtain ⟨Ao20, co20, eo20⟩ := Kd.R_slice HO289.out
  (subst eo20)
  refine hK.out _ _ ⟨(blk_cell BK282.out 0).trans rfl, (blk_cell BK283.out 0).trans rfl, (blk_cell BK283.out 1).trans rfl⟩ (fun hHeld => ?_)
  clear hK K
  refine norm_ (a' := ?_) ?_ ?_
  rotate_left
  ·show Act.put _ (some 23) _ = _
   simp only [Act.put, List.setIfInBounds_toArray, List.set_cons_zero, List.set_cons_succ, i64_w, i32_w]
   rfl
  refine one_ (i := 7) (N := none) #[true,true,true,true,true,true,true,true,false] rfl rfl (one_of HT_.out (by kernel_rfl)) (by decide) (fun K hK => ?_)
  have hs19 : w18.cell? ⟨gb284, 0, none⟩ = some (.int .i64 0) := (blk_cell BK284.out 0).trans rfl
  have hfs19 := blk_frozen BK284.out 0
  have hns19_0 := NB282_284.out
  have hns19_1 := NB283_284.out
  have hms19_0 := NB284_282.out
  have hms19_1 := NB284_283.out
  have hs21 : w18.cell? ⟨gb284, 1, none⟩ = some (.slice none 0 0) := (blk_cell BK284.out 1).trans rfl
  have hfs21 := blk_frozen BK284.out 1
  have hns21_0 := NB282_284.out
  have hns21_1 := NB283_284.out
  have hms21_0 := NB284_282.out
  have hms21_1 := NB284_283.out
  refine skip_ (w1 := ?_) (by rfl) rfl ?_ ?_
  rotate_left
  ·go_simp
   rfl
  refine hK.out _ _ ⟨((cell_far (p := ⟨gb284, _, none⟩) NB282_284.out _).trans (((cell_far (p := ⟨gb284, _, none⟩) NB282_284.out _).trans (hHeld.1)))), ((cell_far (p := ⟨gb284, _, none⟩) NB283_284.out _).trans (((cell_far (p := ⟨gb284, _, none⟩) NB283_284.out _).trans (hHeld.2.1)))), ((cell_far (p := ⟨gb284, _, none⟩) NB283_284.out _).trans (((cell_far (p := ⟨gb284, _, none⟩) NB283_284.out _).trans (hHeld.2.2))))⟩ (fun hHeld => ?_)
  clear hK K
  refine pure_ (i := 8) (N := some 7) (v := ?_) (a' := ?_) #[true,true,true,true,true,true,true,true,true] rfl rfl (any_of HT_.out (by kernel_rfl)) (fun _ _ _ h => h) (Or.inl ⟨by rfl, ?_⟩) ?_ ?_
  rotate_left
  ·intro w'
   go_simp
   with_reducible rfl
  rotate_left
  ·simp only [Act.put, List.setIfInBounds_toArray, List.set_cons_zero, List.set_cons_succ, i64_w, i32_w]
   rfl
  refine done_ (done_of HT_.out (by kernel_rfl)) ?_
  go_wp2
  refine bodyPost_ret (results_ct rfl _ _ gb284 30 #[.int .i64 t286, .slice Ao20 t287.length co20] (0, 0) _ rfl (by refine blk_put (cs := #[.int .i64 t286, .slice none 0 0]) ?_ 1 _ rfl; refine blk_put (cs := #[.int .i64 0, .slice none 0 0]) ?_ 0 _ rfl; exact BK284.out) Try.underlying30 rfl (by kernel_rfl)) rfl ?_
  exact ⟨_, by rfl, by exact Kd.R_mono (Kd.R_far (p := ⟨gb284, 1, none⟩) (Kd.R_far (p := ⟨gb284, 0, none⟩) (Kd.R_types HO289.out BK284.out (by decide)) (fun _ hk => hk.2) (.int .i64 t286)) (fun _ hk => hk.2) (.slice Ao20 t287.length co20)) (fun _ hk => trivial), by repeat ((with_reducible first | exact HB.out | refine below_set ?_ GE284.out))⟩
 rw [if_neg c5] at H
 have c5b0 : (t285 == 0) = false := beq_eq_false_iff_ne.mpr c5
 have c5b1 : (t285 != 0) = true := bne_iff_ne.mpr c5
 simp only [Option.some.injEq, Prod.mk.injEq] at H
 obtain ⟨rfl, rfl, rfl⟩ := H
 go_enter Try.func27, Try.ntmps27
 go_wp2_with (first | ((with_reducible refine gate_dst (N := 3) rfl ?_); refine box_event ?hg (N := 3) ?hd (cs := #[.slice A0_0 l0_0.length c0_0]) (t := 33) ?hr ?_; (case hd => rfl); (case hg => rfl); (case hr => (go_simp; done)); intro gb282 hg w22 hbox hb; have BK282 := Aside0.mk (hbox); have GW282 := Aside0.mk (geg hg (below_size HB.out)); have GE282 := Aside0.mk (geg hg (below_size HB.out)); replace HB := Aside0.mk (below_step HB.out hb); clear hb hbox hg) | ((with_reducible refine gate_dst (N := 4) rfl ?_); refine box_event ?hg (N := 4) ?hd (cs := #[.int .i64 a1_0, .slice A1_1 l1_1.length c1_1]) (t := 30) ?hr ?_; (case hd => rfl); (case hg => rfl); (case hr => (go_simp; done)); intro gb283 hg w23 hbox hb; have BK283 := Aside0.mk (hbox); have GW283 := Aside0.mk (geg hg (below_size HB.out)); have GE283 := Aside0.mk (geg hg (below_size HB.out)); replace HB := Aside0.mk (below_step HB.out hb); have NB282_283 := Aside0.mk (neg1 hg (Nat.ne_of_lt (blk_lt BK282.out))); have NB283_282 := Aside0.mk (neg2 hg (Nat.ne_of_gt (blk_lt BK282.out))); replace BK282 := Aside0.mk (blk_below BK282.out hb); clear hb hbox hg) | ((with_reducible refine gate_dst (N := 6) rfl ?_); refine box_event ?hg (N := 6) ?hd (cs := #[.int .i64 0, .slice none 0 0]) (t := 30) ?hr ?_; (case hd => rfl); (case hg => rfl); (case hr => (go_simp; done)); intro gb284 hg w24 hbox hb; have BK284 := Aside0.mk (hbox); have GW284 := Aside0.mk (geg hg (below_size HB.out)); have GE284 := Aside0.mk (geg hg (below_size HB.out)); replace HB := Aside0.mk (below_step HB.out hb); have NB282_284 := Aside0.mk (neg1 hg (Nat.ne_of_lt (blk_lt BK282.out))); have NB284_282 := Aside0.mk (neg2 hg (Nat.ne_of_gt (blk_lt BK282.out))); replace BK282 := Aside0.mk (blk_below BK282.out hb); have NB283_284 := Aside0.mk (neg1 hg (Nat.ne_of_lt (blk_lt BK283.out))); have NB284_283 := Aside0.mk (neg2 hg (Nat.ne_of_gt (blk_lt BK283.out))); replace BK283 := Aside0.mk (blk_below BK283.out hb); clear hb hbox hg; have hnb25 := NB282_283.out; have hnc25 := NB283_282.out; have hnb26 := NB282_284.out; have hnc26 := NB284_282.out; have hcz27_0 := bc0 BK282.out; have hfz27_0 := blk_frozen BK282.out 0; have hnb28 := NB283_284.out; have hnc28 := NB284_283.out; have hcz29_0 := bc0 BK283.out; have hcz29_1 := bc1 BK283.out; have hfz29_0 := blk_frozen BK283.out 0; have hfz29_1 := blk_frozen BK283.out 1) | ((with_reducible refine gate_callee (f := 76) rfl ?_); refine goesL_ (some 12) rfl rfl Try.func76 (by kernel_rfl) rfl #[.agg #[.slice A0_0 l0_0.length c0_0], .agg #[.int .i64 a1_0, .slice A1_1 l1_1.length c1_1], .int .i64 a2] rfl (by (simp only [List.map_toArray, List.map_cons, List.map_nil]); rfl) ?_; (with_reducible refine (impl_divisorCode.calls k _ _ l0_0 a1_0 (fun k_ => k_ < w.heap.size) _ _ l1_1 a2 t285 _ ?side1 ?side2 ?side3 A4.out).mono ?_); (case side1 => exact (Kd.C_below HR0_0.out HB.out)); (case side2 => exact HC0_0.out); (case side3 => exact Kd.V_mk HC1_1.out (Kd.F_below (Kd.C_F (Kd.heap_int .i64) HR1_1.out) HB.out)); rintro e w30 ⟨rfl, hb⟩; refine ⟨_, rfl, ?_⟩; replace BK282 := Aside0.mk (blk_below BK282.out hb); replace BK283 := Aside0.mk (blk_below BK283.out hb); replace BK284 := Aside0.mk (blk_below BK284.out hb); replace HB := Aside0.mk (below_step HB.out hb); clear hb; have hcz31_0 := bc0 BK284.out; have hcz31_1 := bc1 BK284.out; have hfz31_0 := blk_frozen BK284.out 0; have hfz31_1 := blk_frozen BK284.out 1))
 refine bodyPost_ret (results_ct rfl _ _ gb284 30 #[.int .i64 0, .slice none 0 0] (0, 0) _ rfl (by refine blk_put (cs := #[.int .i64 0, .slice none 0 0]) ?_ 1 _ rfl; refine blk_put (cs := #[.int .i64 0, .slice none 0 0]) ?_ 0 _ rfl; exact BK284.out) Try.underlying30 rfl (by kernel_rfl)) rfl ?_
 exact ⟨_, by rfl, by exact Kd.R_nil _ _ _ _ _, by repeat ((with_reducible first | exact HB.out | refine below_set ?_ GE284.out))⟩

end Go.Proofs.Ytkpcogaahgfmcaa.PFnExactOuterModule
