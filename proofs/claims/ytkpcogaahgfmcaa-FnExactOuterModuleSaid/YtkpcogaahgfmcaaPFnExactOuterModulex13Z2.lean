-- Made by a program of this session (wip/tools: the patched printer), for this claim.
import Derived.Test.YtkpcogaahgfmcaaXSqZ2
import Derived.Test.YtkpcogaahgfmcaaPFnExactOuterModulex0Z2
import Derived.Test.YtkpcogaahgfmcaaPFnExactOuterModulex1Z2
import Derived.Test.YtkpcogaahgfmcaaPFnExactOuterModulex2Z2
import Derived.Test.YtkpcogaahgfmcaaPFnExactOuterModulex6Z2
import Derived.Test.YtkpcogaahgfmcaaPFnExactOuterModulex12Z2
namespace Go.Proofs.Ytkpcogaahgfmcaa.PFnExactOuterModule
open Go.Proofs.YtkpcogaahgfmcaaX
open Go.RowKit Go.Proofs.YtkpcogaahgfmcaaW.PrintWords Go.Proofs.YtkpcogaahgfmcaaW.PrintLast Go.Proofs.YtkpcogaahgfmcaaW.PrintMore
attribute [local go_sem] max2_int min2_int max_two min_two max_three min_three max_four min_four   -- for this text's walks alone
set_option linter.unusedVariables false
set_option linter.unusedSimpArgs false

/-! ### laws_FnExactOuterModule: function 4 -/
mutual
def laws_FnExactOuterModule.j0 : Nat → Int → Int → Int → Bool → List (List Int) → Int → List Int → Int → List Int → List (List Int) → Int → List Int → Int → List Int → Option (Bool)
 | 0, _, _, _, _, _, _, _, _, _, _, _, _, _, _ => none
 | k + 1, x2, x9, x13, x57, x291000, x292000, x292001, x307000, x307001, x311000, x316000, x316001, x322000, x322001 => if x57 = true then (some false) else ((laws_toGroup.f k x291000).bind fun t323 => ((laws_eqGroup.f k x311000 t323).bind fun t326 => (if t326 = true then ((laws_toModule.f k x292000 x292001).bind fun bt327 => ((laws_eqModule.f k x316000 x316001 bt327.1 bt327.2).bind fun t331 => (if t331 = true then ((laws_markGroup.f k x311000 1).bind fun bt332 => ((laws_markModule.f k x316000 x316001 bt332.1).bind fun bt334 => (if bt334.1 < 0 then (laws_FnExactOuterModule.j1 k x2 x9 true x291000 x292000 x292001 x307000 x307001 x322000 x322001) else ((laws_eqModule.f k x322000 x322001 x307000 x307001).bind fun t336 => (if t336 = true then (laws_FnExactOuterModule.j1 k x2 x9 (x13 != x9) x291000 x292000 x292001 x307000 x307001 x322000 x322001) else (laws_FnExactOuterModule.j1 k x2 x9 true x291000 x292000 x292001 x307000 x307001 x322000 x322001)))))) else (some false)))) else (some false))))
def laws_FnExactOuterModule.j1 : Nat → Int → Int → Bool → List (List Int) → Int → List Int → Int → List Int → Int → List Int → Option (Bool)
 | 0, _, _, _, _, _, _, _, _, _, _ => none
 | k + 1, x2, x9, x86, x291000, x292000, x292001, x307000, x307001, x322000, x322001 => if x86 = true then (some false) else ((laws_markModule.f k x322000 x322001 1).bind fun bt337 => ((laws_heldModule.f k x322000 bt337.2 1).bind fun t339 => (if t339 < 0 then (some false) else (if t339 = bt337.1 then ((laws_toGroup.f k x291000).bind fun t340 => ((laws_toModule.f k x292000 x292001).bind fun bt343 => ((impl_OuterModule.f k t340 bt343.1 bt343.2 x2).bind fun bt347 => ((laws_eqModule.f k bt347.1 bt347.2.1 x307000 x307001).bind fun t353 => (if t353 = true then (laws_FnExactOuterModule.j2 k bt337.1 (bt347.2.2 != x9) x322000 bt337.2) else (laws_FnExactOuterModule.j2 k bt337.1 true x322000 bt337.2)))))) else (some false)))))
def laws_FnExactOuterModule.j2 : Nat → Int → Bool → Int → List Int → Option (Bool)
 | 0, _, _, _, _ => none
 | k + 1, x15, x115, x322000, x322001 => if x115 = true then (some false) else ((laws_heldModule.f k x322000 x322001 1).bind fun t354 => (if t354 < 0 then (some false) else (if t354 = x15 then (some true) else (some false))))
end
def laws_FnExactOuterModule.f (k : Nat) (l0_0 : List (List Int)) (a1_0 : Int) (l1_1 : List Int) (a2 : Int) : Option (Bool) := (laws_szGroup.f k l0_0 1048576).bind fun t292 => (if t292 < 0 then (some true) else ((laws_szModule.f a1_0 l1_1 t292).bind fun t293 => (if t293 < 0 then (some true) else ((laws_toGroup.f k l0_0).bind fun t294 => ((laws_toModule.f k a1_0 l1_1).bind fun bt297 => ((spec_OuterModule.f k t294 bt297.1 bt297.2 a2).bind fun bt301 => ((laws_toGroup.f k l0_0).bind fun t307 => ((laws_toModule.f k a1_0 l1_1).bind fun bt311 => ((impl_OuterModule.f k t307 bt311.1 bt311.2 a2).bind fun bt316 => ((laws_eqModule.f k bt316.1 bt316.2.1 bt301.1 bt301.2.1).bind fun t322 => (if t322 = true then (laws_FnExactOuterModule.j0 k a2 bt301.2.2 bt316.2.2 (bt316.2.2 != bt301.2.2) l0_0 a1_0 l1_1 bt301.1 bt301.2.1 t307 bt311.1 bt311.2 bt316.1 bt316.2.1) else (laws_FnExactOuterModule.j0 k a2 bt301.2.2 bt316.2.2 true l0_0 a1_0 l1_1 bt301.1 bt301.2.1 t307 bt311.1 bt311.2 bt316.1 bt316.2.1))))))))))))
theorem laws_FnExactOuterModule.mono_l : ∀ k, (∀ y0 y1 y2 y3 y4 y5 y6 y7 y8 y9 y10 y11 y12 y13, LeO (laws_FnExactOuterModule.j0 k y0 y1 y2 y3 y4 y5 y6 y7 y8 y9 y10 y11 y12 y13) (laws_FnExactOuterModule.j0 (k + 1) y0 y1 y2 y3 y4 y5 y6 y7 y8 y9 y10 y11 y12 y13)) ∧ (∀ y0 y1 y2 y3 y4 y5 y6 y7 y8 y9, LeO (laws_FnExactOuterModule.j1 k y0 y1 y2 y3 y4 y5 y6 y7 y8 y9) (laws_FnExactOuterModule.j1 (k + 1) y0 y1 y2 y3 y4 y5 y6 y7 y8 y9)) ∧ (∀ y0 y1 y2 y3, LeO (laws_FnExactOuterModule.j2 k y0 y1 y2 y3) (laws_FnExactOuterModule.j2 (k + 1) y0 y1 y2 y3))
 | 0 => ⟨fun _ _ _ _ _ _ _ _ _ _ _ _ _ _ r h => by simp [laws_FnExactOuterModule.j0] at h, fun _ _ _ _ _ _ _ _ _ _ r h => by simp [laws_FnExactOuterModule.j1] at h, fun _ _ _ _ r h => by simp [laws_FnExactOuterModule.j2] at h⟩
 | k + 1 => by
  obtain ⟨ih0, ih1, ih2⟩ := laws_FnExactOuterModule.mono_l k
  refine ⟨?_, ?_, ?_⟩
  ·intro y0 y1 y2 y3 y4 y5 y6 y7 y8 y9 y10 y11 y12 y13
   unfold laws_FnExactOuterModule.j0
   repeat' first
   | (with_reducible exact ih0 _ _ _ _ _ _ _ _ _ _ _ _ _ _)
   | (with_reducible exact ih1 _ _ _ _ _ _ _ _ _ _)
   | (with_reducible exact ih2 _ _ _ _)
   | (with_reducible exact impl_OuterModule.mono _ _ _ _ _)
   | (with_reducible exact laws_eqGroup.mono _ _ _)
   | (with_reducible exact laws_eqModule.mono _ _ _ _ _)
   | (with_reducible exact laws_heldModule.mono _ _ _ _)
   | (with_reducible exact laws_markGroup.mono _ _ _)
   | (with_reducible exact laws_markModule.mono _ _ _ _)
   | (with_reducible exact laws_szGroup.mono _ _ _)
   | (with_reducible exact laws_toGroup.mono _ _)
   | (with_reducible exact laws_toModule.mono _ _ _)
   | (with_reducible exact spec_OuterModule.mono _ _ _ _ _)
   | (with_reducible exact LeO.refl _)
   | (with_reducible exact LeO.none _)
   | (with_reducible refine LeO.ite ?_ ?_)
   | (with_reducible refine LeO.bind ?_ (fun _ => ?_))
   | exact ih0 _ _ _ _ _ _ _ _ _ _ _ _ _ _
   | exact ih1 _ _ _ _ _ _ _ _ _ _
   | exact ih2 _ _ _ _
   | exact impl_OuterModule.mono _ _ _ _ _
   | exact laws_eqGroup.mono _ _ _
   | exact laws_eqModule.mono _ _ _ _ _
   | exact laws_heldModule.mono _ _ _ _
   | exact laws_markGroup.mono _ _ _
   | exact laws_markModule.mono _ _ _ _
   | exact laws_szGroup.mono _ _ _
   | exact laws_toGroup.mono _ _
   | exact laws_toModule.mono _ _ _
   | exact spec_OuterModule.mono _ _ _ _ _
   | exact LeO.none _
   | refine LeO.ite ?_ ?_
   | refine LeO.bind ?_ (fun _ => ?_)
  ·intro y0 y1 y2 y3 y4 y5 y6 y7 y8 y9
   unfold laws_FnExactOuterModule.j1
   repeat' first
   | (with_reducible exact ih0 _ _ _ _ _ _ _ _ _ _ _ _ _ _)
   | (with_reducible exact ih1 _ _ _ _ _ _ _ _ _ _)
   | (with_reducible exact ih2 _ _ _ _)
   | (with_reducible exact impl_OuterModule.mono _ _ _ _ _)
   | (with_reducible exact laws_eqGroup.mono _ _ _)
   | (with_reducible exact laws_eqModule.mono _ _ _ _ _)
   | (with_reducible exact laws_heldModule.mono _ _ _ _)
   | (with_reducible exact laws_markGroup.mono _ _ _)
   | (with_reducible exact laws_markModule.mono _ _ _ _)
   | (with_reducible exact laws_szGroup.mono _ _ _)
   | (with_reducible exact laws_toGroup.mono _ _)
   | (with_reducible exact laws_toModule.mono _ _ _)
   | (with_reducible exact spec_OuterModule.mono _ _ _ _ _)
   | (with_reducible exact LeO.refl _)
   | (with_reducible exact LeO.none _)
   | (with_reducible refine LeO.ite ?_ ?_)
   | (with_reducible refine LeO.bind ?_ (fun _ => ?_))
   | exact ih0 _ _ _ _ _ _ _ _ _ _ _ _ _ _
   | exact ih1 _ _ _ _ _ _ _ _ _ _
   | exact ih2 _ _ _ _
   | exact impl_OuterModule.mono _ _ _ _ _
   | exact laws_eqGroup.mono _ _ _
   | exact laws_eqModule.mono _ _ _ _ _
   | exact laws_heldModule.mono _ _ _ _
   | exact laws_markGroup.mono _ _ _
   | exact laws_markModule.mono _ _ _ _
   | exact laws_szGroup.mono _ _ _
   | exact laws_toGroup.mono _ _
   | exact laws_toModule.mono _ _ _
   | exact spec_OuterModule.mono _ _ _ _ _
   | exact LeO.none _
   | refine LeO.ite ?_ ?_
   | refine LeO.bind ?_ (fun _ => ?_)
  ·intro y0 y1 y2 y3
   unfold laws_FnExactOuterModule.j2
   repeat' first
   | (with_reducible exact ih0 _ _ _ _ _ _ _ _ _ _ _ _ _ _)
   | (with_reducible exact ih1 _ _ _ _ _ _ _ _ _ _)
   | (with_reducible exact ih2 _ _ _ _)
   | (with_reducible exact impl_OuterModule.mono _ _ _ _ _)
   | (with_reducible exact laws_eqGroup.mono _ _ _)
   | (with_reducible exact laws_eqModule.mono _ _ _ _ _)
   | (with_reducible exact laws_heldModule.mono _ _ _ _)
   | (with_reducible exact laws_markGroup.mono _ _ _)
   | (with_reducible exact laws_markModule.mono _ _ _ _)
   | (with_reducible exact laws_szGroup.mono _ _ _)
   | (with_reducible exact laws_toGroup.mono _ _)
   | (with_reducible exact laws_toModule.mono _ _ _)
   | (with_reducible exact spec_OuterModule.mono _ _ _ _ _)
   | (with_reducible exact LeO.refl _)
   | (with_reducible exact LeO.none _)
   | (with_reducible refine LeO.ite ?_ ?_)
   | (with_reducible refine LeO.bind ?_ (fun _ => ?_))
   | exact ih0 _ _ _ _ _ _ _ _ _ _ _ _ _ _
   | exact ih1 _ _ _ _ _ _ _ _ _ _
   | exact ih2 _ _ _ _
   | exact impl_OuterModule.mono _ _ _ _ _
   | exact laws_eqGroup.mono _ _ _
   | exact laws_eqModule.mono _ _ _ _ _
   | exact laws_heldModule.mono _ _ _ _
   | exact laws_markGroup.mono _ _ _
   | exact laws_markModule.mono _ _ _ _
   | exact laws_szGroup.mono _ _ _
   | exact laws_toGroup.mono _ _
   | exact laws_toModule.mono _ _ _
   | exact spec_OuterModule.mono _ _ _ _ _
   | exact LeO.none _
   | refine LeO.ite ?_ ?_
   | refine LeO.bind ?_ (fun _ => ?_)
theorem laws_FnExactOuterModule.mono : ∀ a0 a1 a2 a3 k, LeO (laws_FnExactOuterModule.f k a0 a1 a2 a3) (laws_FnExactOuterModule.f (k + 1) a0 a1 a2 a3) := by
 intro a0 a1 a2 a3 k
 obtain ⟨ih0, ih1, ih2⟩ := laws_FnExactOuterModule.mono_l k
 unfold laws_FnExactOuterModule.f
 repeat' first
   | (with_reducible exact ih0 _ _ _ _ _ _ _ _ _ _ _ _ _ _)
   | (with_reducible exact impl_OuterModule.mono _ _ _ _ _)
   | (with_reducible exact laws_eqModule.mono _ _ _ _ _)
   | (with_reducible exact laws_szGroup.mono _ _ _)
   | (with_reducible exact laws_toGroup.mono _ _)
   | (with_reducible exact laws_toModule.mono _ _ _)
   | (with_reducible exact spec_OuterModule.mono _ _ _ _ _)
   | (with_reducible exact LeO.refl _)
   | (with_reducible refine LeO.ite ?_ ?_)
   | (with_reducible refine LeO.bind ?_ (fun _ => ?_))
def laws_FnExactOuterModule.T8 : Bool × List (List Nat × List Nat) := (true, [([], []), ([0], [0]), ([], []), ([2, 1], [2]), ([], []), ([1, 3, 4, 3], [1, 3, 4]), ([5], [5]), ([6], [6]), ([6], [6]), ([], []), ([9, 7, 5, 0, 1, 2, 3, 4, 5, 6, 7, 9], [7, 9]), ([8, 10, 0, 1, 2, 3, 4, 5, 6, 7, 8, 9, 10], [8])])
def laws_FnExactOuterModule.B8 : List Nat := [0, 1, 0, 7, 0, 31, 63, 127, 127, 0, 767, 2047]
theorem laws_FnExactOuterModule.tab8 : rtab .any (opsOf Try.f4 8) = laws_FnExactOuterModule.T8 := by kernel_rfl
theorem laws_FnExactOuterModule.bits8 : waitsOk laws_FnExactOuterModule.T8.2 laws_FnExactOuterModule.B8 = true := by kernel_rfl
def laws_FnExactOuterModule.T31 : Bool × List (List Nat × List Nat) := (true, [([], []), ([0], [0]), ([], []), ([2, 1], [2]), ([], []), ([1, 3, 4, 3], [1, 3, 4]), ([5], [5]), ([6], [6]), ([6], [6]), ([], []), ([9, 7, 5, 0, 1, 2, 3, 4, 5, 6, 7, 9], [7, 9]), ([8, 10, 0, 1, 2, 3, 4, 5, 6, 7, 8, 9, 10], [8])])
def laws_FnExactOuterModule.B31 : List Nat := [0, 1, 0, 7, 0, 31, 63, 127, 127, 0, 767, 2047]
theorem laws_FnExactOuterModule.tab31 : rtab .any (opsOf Try.f4 31) = laws_FnExactOuterModule.T31 := by kernel_rfl
theorem laws_FnExactOuterModule.bits31 : waitsOk laws_FnExactOuterModule.T31.2 laws_FnExactOuterModule.B31 = true := by kernel_rfl
set_option maxHeartbeats 8000000 in
set_option maxRecDepth 100000 in
theorem laws_FnExactOuterModule.calls (k : Nat) (A0_0 : Option Addr) (c0_0 : Nat) (l0_0 : List (List Int)) (a1_0 : Int) (A1_1 : Option Addr) (c1_1 : Nat) (l1_1 : List Int) (a2 : Int) (r : Bool) (w : World) (hr0_0 : Kd.C (Kd.slice 2 (Kd.int .i64)) w A0_0 l0_0.length l0_0) (hc0_0 : l0_0.length ≤ c0_0) (hr1_1 : Kd.C (Kd.int .i64) w A1_1 l1_1.length l1_1) (hc1_1 : l1_1.length ≤ c1_1) (h : laws_FnExactOuterModule.f k l0_0 a1_0 l1_1 a2 = some r) :
  Calls Try.prog 4 #[.agg #[.slice A0_0 l0_0.length c0_0], .agg #[.int .i64 a1_0, .slice A1_1 l1_1.length c1_1], .int .i64 a2] w fun e w' => e = .returned (.bool r) ∧ Below w.heap.size w w' := by
 have hu24 := Try.underlying24
 have hu27 := Try.underlying27
 have hu30 := Try.underlying30
 have hu33 := Try.underlying33
 have HR0_0 := Aside0.mk hr0_0
 have HC0_0 := Aside0.mk hc0_0
 clear hr0_0 hc0_0
 have HR1_1 := Aside0.mk hr1_1
 have HC1_1 := Aside0.mk hc1_1
 clear hr1_1 hc1_1
 have HB := Aside0.mk (Below.refl w.heap.size w)
 have H : ((laws_szGroup.f k l0_0 1048576).bind fun t292 => (if t292 < 0 then (some true) else ((laws_szModule.f a1_0 l1_1 t292).bind fun t293 => (if t293 < 0 then (some true) else ((laws_toGroup.f k l0_0).bind fun t294 => ((laws_toModule.f k a1_0 l1_1).bind fun bt297 => ((spec_OuterModule.f k t294 bt297.1 bt297.2 a2).bind fun bt301 => ((laws_toGroup.f k l0_0).bind fun t307 => ((laws_toModule.f k a1_0 l1_1).bind fun bt311 => ((impl_OuterModule.f k t307 bt311.1 bt311.2 a2).bind fun bt316 => ((laws_eqModule.f k bt316.1 bt316.2.1 bt301.1 bt301.2.1).bind fun t322 => (if t322 = true then (laws_FnExactOuterModule.j0 k a2 bt301.2.2 bt316.2.2 (bt316.2.2 != bt301.2.2) l0_0 a1_0 l1_1 bt301.1 bt301.2.1 t307 bt311.1 bt311.2 bt316.1 bt316.2.1) else (laws_FnExactOuterModule.j0 k a2 bt301.2.2 bt316.2.2 true l0_0 a1_0 l1_1 bt301.1 bt301.2.1 t307 bt311.1 bt311.2 bt316.1 bt316.2.1))))))))))))) = some r := h
 clear h
 obtain ⟨t292, A4, H⟩ := bnd H
 try dsimp only at H
 by_cases c5 : t292 < 0
 ·rw [if_pos c5] at H
  have c5b0 : decide (t292 < 0) = true := decide_eq_true c5
  clear c5
  obtain rfl := Option.some.inj H
  go_enter Try.func4, Try.ntmps4
  go_wp2_with (first | ((with_reducible refine gate_dst (N := 3) rfl ?_); refine box_event ?hg (N := 3) ?hd (cs := #[.slice A0_0 l0_0.length c0_0]) (t := 24) ?hr ?_; (case hd => rfl); (case hg => rfl); (case hr => (go_simp; done)); intro gb290 hg w6 hbox hb; have BK290 := Aside0.mk (hbox); have GW290 := Aside0.mk (geg hg (below_size HB.out)); have GE290 := Aside0.mk (geg hg (below_size HB.out)); replace HB := Aside0.mk (below_step HB.out hb); clear hb hbox hg) | ((with_reducible refine gate_dst (N := 4) rfl ?_); refine box_event ?hg (N := 4) ?hd (cs := #[.int .i64 a1_0, .slice A1_1 l1_1.length c1_1]) (t := 27) ?hr ?_; (case hd => rfl); (case hg => rfl); (case hr => (go_simp; done)); intro gb291 hg w7 hbox hb; have BK291 := Aside0.mk (hbox); have GW291 := Aside0.mk (geg hg (below_size HB.out)); have GE291 := Aside0.mk (geg hg (below_size HB.out)); replace HB := Aside0.mk (below_step HB.out hb); have NB290_291 := Aside0.mk (neg1 hg (Nat.ne_of_lt (blk_lt BK290.out))); have NB291_290 := Aside0.mk (neg2 hg (Nat.ne_of_gt (blk_lt BK290.out))); replace BK290 := Aside0.mk (blk_below BK290.out hb); clear hb hbox hg; have hnb8 := NB290_291.out; have hnc8 := NB291_290.out; have hcz9_0 := bc0 BK290.out; have hfz9_0 := blk_frozen BK290.out 0) | ((with_reducible refine gate_callee (f := 15) rfl ?_); refine goesL_ (some 21) rfl rfl Try.func15 (by kernel_rfl) rfl #[.agg #[.slice A0_0 l0_0.length c0_0], .int .i64 1048576] rfl (by (simp only [List.map_toArray, List.map_cons, List.map_nil]); rfl) ?_; (with_reducible refine (laws_szGroup.calls k _ _ l0_0 1048576 t292 _ ?side1 ?side2 A4.out).mono ?_); (case side1 => exact (Kd.C_below HR0_0.out HB.out)); (case side2 => exact HC0_0.out); rintro e w10 ⟨rfl, hb⟩; refine ⟨_, rfl, ?_⟩; replace BK290 := Aside0.mk (blk_below BK290.out hb); replace BK291 := Aside0.mk (blk_below BK291.out hb); replace HB := Aside0.mk (below_step HB.out hb); clear hb))
  go_ret
  exact ⟨by rfl, by exact HB.out⟩
 rw [if_neg c5] at H
 have c5b0 : decide (t292 < 0) = false := decide_eq_false c5
 clear c5
 obtain ⟨t293, A11, H⟩ := bnd H
 try dsimp only at H
 by_cases c12 : t293 < 0
 ·rw [if_pos c12] at H
  have c12b0 : decide (t293 < 0) = true := decide_eq_true c12
  clear c12
  obtain rfl := Option.some.inj H
  go_enter Try.func4, Try.ntmps4
  go_wp2_with (first | ((with_reducible refine gate_dst (N := 3) rfl ?_); refine box_event ?hg (N := 3) ?hd (cs := #[.slice A0_0 l0_0.length c0_0]) (t := 24) ?hr ?_; (case hd => rfl); (case hg => rfl); (case hr => (go_simp; done)); intro gb290 hg w13 hbox hb; have BK290 := Aside0.mk (hbox); have GW290 := Aside0.mk (geg hg (below_size HB.out)); have GE290 := Aside0.mk (geg hg (below_size HB.out)); replace HB := Aside0.mk (below_step HB.out hb); clear hb hbox hg) | ((with_reducible refine gate_dst (N := 4) rfl ?_); refine box_event ?hg (N := 4) ?hd (cs := #[.int .i64 a1_0, .slice A1_1 l1_1.length c1_1]) (t := 27) ?hr ?_; (case hd => rfl); (case hg => rfl); (case hr => (go_simp; done)); intro gb291 hg w14 hbox hb; have BK291 := Aside0.mk (hbox); have GW291 := Aside0.mk (geg hg (below_size HB.out)); have GE291 := Aside0.mk (geg hg (below_size HB.out)); replace HB := Aside0.mk (below_step HB.out hb); have NB290_291 := Aside0.mk (neg1 hg (Nat.ne_of_lt (blk_lt BK290.out))); have NB291_290 := Aside0.mk (neg2 hg (Nat.ne_of_gt (blk_lt BK290.out))); replace BK290 := Aside0.mk (blk_below BK290.out hb); clear hb hbox hg; have hnb15 := NB290_291.out; have hnc15 := NB291_290.out; have hcz16_0 := bc0 BK290.out; have hfz16_0 := blk_frozen BK290.out 0) | ((with_reducible refine gate_callee (f := 15) rfl ?_); refine goesL_ (some 21) rfl rfl Try.func15 (by kernel_rfl) rfl #[.agg #[.slice A0_0 l0_0.length c0_0], .int .i64 1048576] rfl (by (simp only [List.map_toArray, List.map_cons, List.map_nil]); rfl) ?_; (with_reducible refine (laws_szGroup.calls k _ _ l0_0 1048576 t292 _ ?side1 ?side2 A4.out).mono ?_); (case side1 => exact (Kd.C_below HR0_0.out HB.out)); (case side2 => exact HC0_0.out); rintro e w17 ⟨rfl, hb⟩; refine ⟨_, rfl, ?_⟩; replace BK290 := Aside0.mk (blk_below BK290.out hb); replace BK291 := Aside0.mk (blk_below BK291.out hb); replace HB := Aside0.mk (below_step HB.out hb); clear hb; have hcz18_0 := bc0 BK291.out; have hcz18_1 := bc1 BK291.out; have hfz18_0 := blk_frozen BK291.out 0; have hfz18_1 := blk_frozen BK291.out 1) | ((with_reducible refine gate_callee (f := 16) rfl ?_); refine goesL_ (some 26) rfl rfl Try.func16 (by kernel_rfl) rfl #[.agg #[.int .i64 a1_0, .slice A1_1 l1_1.length c1_1], .int .i64 t292] rfl (by (simp only [List.map_toArray, List.map_cons, List.map_nil]); rfl) ?_; (with_reducible refine (laws_szModule.calls a1_0 _ _ l1_1 t292 t293 _ ?side1 ?side2 A11.out).mono ?_); (case side1 => exact (Kd.C_below HR1_1.out HB.out)); (case side2 => exact HC1_1.out); rintro e w19 ⟨rfl, hb⟩; refine ⟨_, rfl, ?_⟩; replace BK290 := Aside0.mk (blk_below BK290.out hb); replace BK291 := Aside0.mk (blk_below BK291.out hb); replace HB := Aside0.mk (below_step HB.out hb); clear hb))
  go_ret
  exact ⟨by rfl, by exact HB.out⟩
 rw [if_neg c12] at H
 have c12b0 : decide (t293 < 0) = false := decide_eq_false c12
 clear c12
 obtain ⟨t294, A20, H⟩ := bnd H
 try dsimp only at H
 obtain ⟨⟨t297, t298⟩, A21, H⟩ := bnd H
 try dsimp only at H
 obtain ⟨⟨t301, t302, t305⟩, A22, H⟩ := bnd H
 try dsimp only at H
 obtain ⟨t307, A23, H⟩ := bnd H
 try dsimp only at H
 obtain ⟨⟨t311, t312⟩, A24, H⟩ := bnd H
 try dsimp only at H
 obtain ⟨⟨t316, t317, t320⟩, A25, H⟩ := bnd H
 try dsimp only at H
 have HC26 := Aside0.mk H
 clear H
 go_enter Try.func4, Try.ntmps4
 go_wp2_with (first | ((with_reducible refine gate_dst (N := 3) rfl ?_); refine box_event ?hg (N := 3) ?hd (cs := #[.slice A0_0 l0_0.length c0_0]) (t := 24) ?hr ?_; (case hd => rfl); (case hg => rfl); (case hr => (go_simp; done)); intro gb290 hg w27 hbox hb; have BK290 := Aside0.mk (hbox); have GW290 := Aside0.mk (geg hg (below_size HB.out)); have GE290 := Aside0.mk (geg hg (below_size HB.out)); replace HB := Aside0.mk (below_step HB.out hb); clear hb hbox hg) | ((with_reducible refine gate_dst (N := 4) rfl ?_); refine box_event ?hg (N := 4) ?hd (cs := #[.int .i64 a1_0, .slice A1_1 l1_1.length c1_1]) (t := 27) ?hr ?_; (case hd => rfl); (case hg => rfl); (case hr => (go_simp; done)); intro gb291 hg w28 hbox hb; have BK291 := Aside0.mk (hbox); have GW291 := Aside0.mk (geg hg (below_size HB.out)); have GE291 := Aside0.mk (geg hg (below_size HB.out)); replace HB := Aside0.mk (below_step HB.out hb); have NB290_291 := Aside0.mk (neg1 hg (Nat.ne_of_lt (blk_lt BK290.out))); have NB291_290 := Aside0.mk (neg2 hg (Nat.ne_of_gt (blk_lt BK290.out))); replace BK290 := Aside0.mk (blk_below BK290.out hb); clear hb hbox hg; have hnb29 := NB290_291.out; have hnc29 := NB291_290.out; have hcz30_0 := bc0 BK290.out; have hfz30_0 := blk_frozen BK290.out 0) | ((with_reducible refine gate_callee (f := 15) rfl ?_); refine goesL_ (some 21) rfl rfl Try.func15 (by kernel_rfl) rfl #[.agg #[.slice A0_0 l0_0.length c0_0], .int .i64 1048576] rfl (by (simp only [List.map_toArray, List.map_cons, List.map_nil]); rfl) ?_; (with_reducible refine (laws_szGroup.calls k _ _ l0_0 1048576 t292 _ ?side1 ?side2 A4.out).mono ?_); (case side1 => exact (Kd.C_below HR0_0.out HB.out)); (case side2 => exact HC0_0.out); rintro e w31 ⟨rfl, hb⟩; refine ⟨_, rfl, ?_⟩; replace BK290 := Aside0.mk (blk_below BK290.out hb); replace BK291 := Aside0.mk (blk_below BK291.out hb); replace HB := Aside0.mk (below_step HB.out hb); clear hb; have hcz32_0 := bc0 BK291.out; have hcz32_1 := bc1 BK291.out; have hfz32_0 := blk_frozen BK291.out 0; have hfz32_1 := blk_frozen BK291.out 1) | ((with_reducible refine gate_callee (f := 16) rfl ?_); refine goesL_ (some 26) rfl rfl Try.func16 (by kernel_rfl) rfl #[.agg #[.int .i64 a1_0, .slice A1_1 l1_1.length c1_1], .int .i64 t292] rfl (by (simp only [List.map_toArray, List.map_cons, List.map_nil]); rfl) ?_; (with_reducible refine (laws_szModule.calls a1_0 _ _ l1_1 t292 t293 _ ?side1 ?side2 A11.out).mono ?_); (case side1 => exact (Kd.C_below HR1_1.out HB.out)); (case side2 => exact HC1_1.out); rintro e w33 ⟨rfl, hb⟩; refine ⟨_, rfl, ?_⟩; replace BK290 := Aside0.mk (blk_below BK290.out hb); replace BK291 := Aside0.mk (blk_below BK291.out hb); replace HB := Aside0.mk (below_step HB.out hb); clear hb))
 replace BK290 := Aside0.mk (blk_drew BK290.out); replace BK291 := Aside0.mk (blk_drew BK291.out); replace HB := Aside0.mk (below_drew1 HB.out)
 refine start_ (n := 12) (S := fun w' => w'.cell? ⟨gb290, 0, none⟩ = some (.slice A0_0 l0_0.length c0_0) ∧ w'.cell? ⟨gb291, 0, none⟩ = some (.int .i64 a1_0) ∧ w'.cell? ⟨gb291, 1, none⟩ = some (.slice A1_1 l1_1.length c1_1)) (ds := []) #[false,false,false,false,false,false,false,false,false,false,false,false] (by kernel_rfl) rfl rfl ⟨(blk_cell BK290.out 0).trans rfl, (blk_cell BK291.out 0).trans rfl, (blk_cell BK291.out 1).trans rfl⟩ (fun hHeld => ?_); refine with_tabW laws_FnExactOuterModule.tab8 laws_FnExactOuterModule.bits8 (fun HT_ HW_ => ?_)
 generalize w33.drew = w34 at BK290 BK291 HB hHeld ⊢
 refine pure_ (i := 4) (N := some 34) (v := ?_) (a' := ?_) #[false,false,false,false,true,false,false,false,false,false,false,false] rfl rfl (any_of HT_.out (by kernel_rfl)) (fun _ _ _ h => h) (Or.inl ⟨by rfl, ?_⟩) ?_ ?_
 rotate_left
 ·intro w'
  go_simp
  with_reducible rfl
 rotate_left
 ·simp only [Act.put, List.setIfInBounds_toArray, List.set_cons_zero, List.set_cons_succ, i64_w, i32_w]
  rfl
 refine take_ (i := 0) (N := some 30) (v := ?_) (a' := ?_) #[true,false,false,false,true,false,false,false,false,false,false,false] rfl rfl (take_ofW HT_.out HW_.out (by kernel_rfl)) (fun _ _ _ h => h) (Or.inl ⟨by rfl, ?_⟩) hHeld ?_ ?_
 rotate_left
 ·rintro w' ⟨s0, s1, s2⟩
  go_simp
  with_reducible rfl
 rotate_left
 ·simp only [Act.put, List.setIfInBounds_toArray, List.set_cons_zero, List.set_cons_succ, i64_w, i32_w]
  rfl
 refine take_ (i := 2) (N := some 32) (v := ?_) (a' := ?_) #[true,false,true,false,true,false,false,false,false,false,false,false] rfl rfl (take_ofW HT_.out HW_.out (by kernel_rfl)) (fun _ _ _ h => h) (Or.inl ⟨by rfl, ?_⟩) hHeld ?_ ?_
 rotate_left
 ·rintro w' ⟨s0, s1, s2⟩
  go_simp
  with_reducible rfl
 rotate_left
 ·simp only [Act.put, List.setIfInBounds_toArray, List.set_cons_zero, List.set_cons_succ, i64_w, i32_w]
  rfl
 refine join_ (σ := Value × Value × Value × Nat) 2 #[true,true,true,true,true,true,true,true,true,true,false,false] (fun s_ => [(31, .agg #[s_.1]), (33, .agg #[.int .i64 t297, s_.2.1]), (35, .tuple #[.agg #[.int .i64 t301, s_.2.2.1], .int .i64 t305]), (8, .pointer (some ⟨s_.2.2.2, 0, none⟩)), (29, .tuple #[.agg #[.int .i64 t301, s_.2.2.1], .int .i64 t305]), (36, .agg #[.int .i64 t301, s_.2.2.1]), (37, .int .i64 t305)]) (fun s_ w' => (w'.cell? ⟨gb290, 0, none⟩ = some (.slice A0_0 l0_0.length c0_0) ∧ w'.cell? ⟨gb291, 0, none⟩ = some (.int .i64 a1_0) ∧ w'.cell? ⟨gb291, 1, none⟩ = some (.slice A1_1 l1_1.length c1_1)) ∧ (Kd.S (Kd.slice 2 (Kd.int .i64)) 25 w' w.heap.size (fun k_ => some k_ ≠ (s_.2.1 : Value).ownBlock ∧ some k_ ≠ (s_.2.2.1 : Value).ownBlock) s_.1 t294) ∧ (Kd.R (Kd.int .i64) 2 w' w.heap.size (fun k_ => some k_ ≠ (s_.2.2.1 : Value).ownBlock) s_.2.1 t298) ∧ (Kd.R (Kd.int .i64) 2 w' w.heap.size (fun k_ => some k_ ≠ (s_.2.1 : Value).ownBlock) s_.2.2.1 t302) ∧ (w'.heap[gb290]? = some (.cells #[.slice A0_0 l0_0.length c0_0] 24 (0, 0))) ∧ (w'.heap[gb291]? = some (.cells #[.int .i64 a1_0, .slice A1_1 l1_1.length c1_1] 27 (0, 0))) ∧ (w'.heap[s_.2.2.2]? = some (.cells #[.int .i64 0, .slice none 0 0] 30 (0, 0))) ∧ (w.heap.size ≤ s_.2.2.2) ∧ (w.heap.size ≤ s_.2.2.2) ∧ (gb290 ≠ s_.2.2.2) ∧ (s_.2.2.2 ≠ gb290) ∧ (gb291 ≠ s_.2.2.2) ∧ (s_.2.2.2 ≠ gb291) ∧ (Below w.heap.size w w')) ?_ ?_
 rotate_left
 ·intro hCont
  refine two_ (i := 1) (j := 9) (Ni := some 31) (Nj := some 8) #[true,true,true,false,true,false,false,false,false,false,false,false] #[true,false,true,false,true,false,false,false,false,true,false,false] rfl rfl rfl rfl (two_of HT_.out (by kernel_rfl)) (by decide) (by decide) (fun K hK => ?_) (fun K hK => ?_)
  ·skip
   refine goes_ Try.func18 (by kernel_rfl) rfl #[.agg #[.slice A0_0 l0_0.length c0_0]] (by rfl) rfl rfl (by (simp only [List.map_toArray, List.map_cons, List.map_nil]); rfl) ?_
   with_reducible refine (laws_toGroup.calls k _ _ l0_0 t294 _ ?side1 ?side2 A20.out).mono ?_
   (case side1 => exact (Kd.C_below HR0_0.out HB.out))
   (case side2 => exact HC0_0.out)
   rintro e w35 ⟨v295, rfl, ho0, hb⟩
   refine ⟨_, rfl, ?_⟩
   have HO296 := Aside0.mk (Kd.S_lower ho0 (below_size HB.out)); replace BK290 := Aside0.mk (blk_below BK290.out hb); replace BK291 := Aside0.mk (blk_below BK291.out hb); replace HB := Aside0.mk (below_step HB.out hb)
   clear hb
   clear ho0
   refine hK.out _ _ ⟨(blk_cell BK290.out 0).trans rfl, (blk_cell BK291.out 0).trans rfl, (blk_cell BK291.out 1).trans rfl⟩ (fun hHeld => ?_)
   clear hK K
   refine norm_ (a' := ?_) ?_ ?_
   rotate_left
   ·show Act.put _ (some 31) _ = _
    simp only [Act.put, List.setIfInBounds_toArray, List.set_cons_zero, List.set_cons_succ, i64_w, i32_w]
    rfl
   refine two_ (i := 3) (j := 9) (Ni := some 33) (Nj := some 8) #[true,true,true,true,true,false,false,false,false,false,false,false] #[true,true,true,false,true,false,false,false,false,true,false,false] rfl rfl rfl rfl (two_of HT_.out (by kernel_rfl)) (by decide) (by decide) (fun K hK => ?_) (fun K hK => ?_)
   ·skip
    refine goes_ Try.func19 (by kernel_rfl) rfl #[.agg #[.int .i64 a1_0, .slice A1_1 l1_1.length c1_1]] (by rfl) rfl rfl (by (simp only [List.map_toArray, List.map_cons, List.map_nil]); rfl) ?_
    with_reducible refine (laws_toModule.calls k a1_0 _ _ l1_1 t297 t298 _ ?side1 ?side2 A21.out).mono ?_
    (case side1 => exact (Kd.C_below HR1_1.out HB.out))
    (case side2 => exact HC1_1.out)
    rintro e w36 ⟨v299, rfl, ho0, hb⟩
    refine ⟨_, rfl, ?_⟩
    replace HO296 := Aside0.mk (Kd.S_elder' HO296.out (Kd.R_base ho0) hb); have HO300 := Aside0.mk (Kd.R_lower ho0 (below_size HB.out)); replace BK290 := Aside0.mk (blk_below BK290.out hb); replace BK291 := Aside0.mk (blk_below BK291.out hb); replace HB := Aside0.mk (below_step HB.out hb)
    clear hb
    clear ho0
    obtain ⟨Ao37, co37, eo37⟩ := Kd.S_slice HO296.out
    (subst eo37)
    obtain ⟨Ao38, co38, eo38⟩ := Kd.R_slice HO300.out
    (subst eo38)
    refine hK.out _ _ ⟨(blk_cell BK290.out 0).trans rfl, (blk_cell BK291.out 0).trans rfl, (blk_cell BK291.out 1).trans rfl⟩ (fun hHeld => ?_)
    clear hK K
    refine norm_ (a' := ?_) ?_ ?_
    rotate_left
    ·show Act.put _ (some 33) _ = _
     simp only [Act.put, List.setIfInBounds_toArray, List.set_cons_zero, List.set_cons_succ, i64_w, i32_w]
     rfl
    refine two_ (i := 5) (j := 9) (Ni := some 35) (Nj := some 8) #[true,true,true,true,true,true,false,false,false,false,false,false] #[true,true,true,true,true,false,false,false,false,true,false,false] rfl rfl rfl rfl (two_of HT_.out (by kernel_rfl)) (by decide) (by decide) (fun K hK => ?_) (fun K hK => ?_)
    ·skip
     refine goes_ Try.func26 (by kernel_rfl) rfl #[.agg #[.slice Ao37 t294.length co37], .agg #[.int .i64 t297, .slice Ao38 t298.length co38], .int .i64 a2] (by rfl) rfl rfl (by (simp only [List.map_toArray, List.map_cons, List.map_nil]); rfl) ?_
     with_reducible refine (spec_OuterModule.calls k _ _ t294 t297 _ _ t298 a2 t301 t302 t305 _ ?side1 ?side2 ?side3 ?side4 A22.out).mono ?_
     (case side1 => repeat (exact (Kd.S_reads' HO296.out).2.2))
     (case side2 => exact (Kd.S_reads' HO296.out).2.1)
     (case side3 => repeat (exact (Kd.R_reads' HO300.out).2.2))
     (case side4 => exact (Kd.R_reads' HO300.out).2.1)
     rintro e w39 ⟨v303, rfl, ho0, hb⟩
     refine ⟨_, rfl, ?_⟩
     replace HO296 := Aside0.mk (Kd.S_elder' HO296.out (Kd.R_base ho0) hb); have HO304 := Aside0.mk (Kd.R_lower (Kd.R_new' ho0 (Kd.R_lt HO300.out)) (below_size HB.out)); replace HO300 := Aside0.mk (Kd.R_elder' HO300.out (Kd.R_base ho0) hb); replace BK290 := Aside0.mk (blk_below BK290.out hb); replace BK291 := Aside0.mk (blk_below BK291.out hb); replace HB := Aside0.mk (below_step HB.out hb)
     clear hb
     clear ho0
     refine hK.out _ _ ⟨(blk_cell BK290.out 0).trans rfl, (blk_cell BK291.out 0).trans rfl, (blk_cell BK291.out 1).trans rfl⟩ (fun hHeld => ?_)
     clear hK K
     refine norm_ (a' := ?_) ?_ ?_
     rotate_left
     ·show Act.put _ (some 35) _ = _
      simp only [Act.put, List.setIfInBounds_toArray, List.set_cons_zero, List.set_cons_succ, i64_w, i32_w]
      rfl
     refine pure_ (i := 6) (N := some 29) (v := ?_) (a' := ?_) #[true,true,true,true,true,true,true,false,false,false,false,false] rfl rfl (any_of HT_.out (by kernel_rfl)) (fun _ _ _ h => h) (Or.inl ⟨by rfl, ?_⟩) ?_ ?_
     rotate_left
     ·intro w'
      go_simp
      with_reducible rfl
     rotate_left
     ·simp only [Act.put, List.setIfInBounds_toArray, List.set_cons_zero, List.set_cons_succ, i64_w, i32_w]
      rfl
     refine pure_ (i := 7) (N := some 36) (v := ?_) (a' := ?_) #[true,true,true,true,true,true,true,true,false,false,false,false] rfl rfl (any_of HT_.out (by kernel_rfl)) (fun _ _ _ h => h) (Or.inl ⟨by rfl, ?_⟩) ?_ ?_
     rotate_left
     ·intro w'
      go_simp
      with_reducible rfl
     rotate_left
     ·simp only [Act.put, List.setIfInBounds_toArray, List.set_cons_zero, List.set_cons_succ, i64_w, i32_w]
      rfl
     refine pure_ (i := 8) (N := some 37) (v := ?_) (a' := ?_) #[true,true,true,true,true,true,true,true,true,false,false,false] rfl rfl (any_of HT_.out (by kernel_rfl)) (fun _ _ _ h => h) (Or.inl ⟨by rfl, ?_⟩) ?_ ?_
     rotate_left
     ·intro w'
      go_simp
      with_reducible rfl
     rotate_left
     ·simp only [Act.put, List.setIfInBounds_toArray, List.set_cons_zero, List.set_cons_succ, i64_w, i32_w]
      rfl
     refine one_ (i := 9) (N := some 8) #[true,true,true,true,true,true,true,true,true,true,false,false] rfl rfl (one_of HT_.out (by kernel_rfl)) (by decide) (fun K hK => ?_)
     refine box_step ?hg (N := 8) ?hd (cs := #[.int .i64 0, .slice none 0 0]) (t := 30) ?hr ?_; (case hd => rfl); (case hg => rfl); (case hr => (go_simp; done))
     intro gb306 hg w40 hbox hb
     replace HO296 := Aside0.mk (Kd.S_below HO296.out hb); replace HO300 := Aside0.mk (Kd.R_below HO300.out hb); replace HO304 := Aside0.mk (Kd.R_below HO304.out hb); have BK306 := Aside0.mk (hbox); have GW306 := Aside0.mk (geg hg (below_size HB.out)); have GE306 := Aside0.mk (geg hg (below_size HB.out)); replace HB := Aside0.mk (below_step HB.out hb); have NB290_306 := Aside0.mk (neg1 hg (Nat.ne_of_lt (blk_lt BK290.out))); have NB306_290 := Aside0.mk (neg2 hg (Nat.ne_of_gt (blk_lt BK290.out))); replace BK290 := Aside0.mk (blk_below BK290.out hb); have NB291_306 := Aside0.mk (neg1 hg (Nat.ne_of_lt (blk_lt BK291.out))); have NB306_291 := Aside0.mk (neg2 hg (Nat.ne_of_gt (blk_lt BK291.out))); replace BK291 := Aside0.mk (blk_below BK291.out hb)
     clear hb hbox hg
     refine hK.out _ _ ⟨(blk_cell BK290.out 0).trans rfl, (blk_cell BK291.out 0).trans rfl, (blk_cell BK291.out 1).trans rfl⟩ (fun hHeld => ?_)
     clear hK K
     refine norm_ (a' := ?_) ?_ ?_
     rotate_left
     ·show Act.put _ (some 8) _ = _
      simp only [Act.put, List.setIfInBounds_toArray, List.set_cons_zero, List.set_cons_succ, i64_w, i32_w]
      rfl
     exact norm_ (by simp only [putAll, Act.put, List.setIfInBounds_toArray, List.set_cons_zero, List.set_cons_succ]) (hCont (.slice Ao37 t294.length co37, .slice Ao38 t298.length co38, v303, gb306) _ ⟨hHeld, (by exact Kd.S_mono HO296.out (fun _ hk => ⟨hk.1.2, hk.2⟩)), (by exact Kd.R_mono HO300.out (fun _ hk => hk.2)), (by exact Kd.R_mono HO304.out (fun _ hk => hk.2)), BK290.out, BK291.out, BK306.out, GW306.out, GE306.out, NB290_306.out, NB306_290.out, NB291_306.out, NB306_291.out, HB.out⟩)
    ·skip
     refine box_step ?hg (N := 8) ?hd (cs := #[.int .i64 0, .slice none 0 0]) (t := 30) ?hr ?_; (case hd => rfl); (case hg => rfl); (case hr => (go_simp; done))
     intro gb306 hg w37 hbox hb
     replace HO296 := Aside0.mk (Kd.S_below HO296.out hb); replace HO300 := Aside0.mk (Kd.R_below HO300.out hb); have BK306 := Aside0.mk (hbox); have GW306 := Aside0.mk (geg hg (below_size HB.out)); have GE306 := Aside0.mk (geg hg (below_size HB.out)); replace HB := Aside0.mk (below_step HB.out hb); have NB290_306 := Aside0.mk (neg1 hg (Nat.ne_of_lt (blk_lt BK290.out))); have NB306_290 := Aside0.mk (neg2 hg (Nat.ne_of_gt (blk_lt BK290.out))); replace BK290 := Aside0.mk (blk_below BK290.out hb); have NB291_306 := Aside0.mk (neg1 hg (Nat.ne_of_lt (blk_lt BK291.out))); have NB306_291 := Aside0.mk (neg2 hg (Nat.ne_of_gt (blk_lt BK291.out))); replace BK291 := Aside0.mk (blk_below BK291.out hb)
     clear hb hbox hg
     obtain ⟨Ao38, co38, eo38⟩ := Kd.S_slice HO296.out
     ((injection eo38 with f1_ f2_ f3_; have f4_ := f1_.symm; have f5_ := f3_.symm; clear f1_ f2_ f3_; subst f4_; subst f5_))
     obtain ⟨Ao39, co39, eo39⟩ := Kd.R_slice HO300.out
     ((injection eo39 with f1_ f2_ f3_; have f4_ := f1_.symm; have f5_ := f3_.symm; clear f1_ f2_ f3_; subst f4_; subst f5_))
     refine hK.out _ _ ⟨(blk_cell BK290.out 0).trans rfl, (blk_cell BK291.out 0).trans rfl, (blk_cell BK291.out 1).trans rfl⟩ (fun hHeld => ?_)
     clear hK K
     refine norm_ (a' := ?_) ?_ ?_
     rotate_left
     ·show Act.put _ (some 8) _ = _
      simp only [Act.put, List.setIfInBounds_toArray, List.set_cons_zero, List.set_cons_succ, i64_w, i32_w]
      rfl
     refine one_ (i := 5) (N := some 35) #[true,true,true,true,true,true,false,false,false,true,false,false] rfl rfl (one_of HT_.out (by kernel_rfl)) (by decide) (fun K hK => ?_)
     refine goes_ Try.func26 (by kernel_rfl) rfl #[.agg #[.slice Ao38 t294.length co38], .agg #[.int .i64 t297, .slice Ao39 t298.length co39], .int .i64 a2] (by rfl) rfl rfl (by (simp only [List.map_toArray, List.map_cons, List.map_nil]); rfl) ?_
     with_reducible refine (spec_OuterModule.calls k _ _ t294 t297 _ _ t298 a2 t301 t302 t305 _ ?side1 ?side2 ?side3 ?side4 A22.out).mono ?_
     (case side1 => repeat (exact (Kd.S_reads' HO296.out).2.2))
     (case side2 => exact (Kd.S_reads' HO296.out).2.1)
     (case side3 => repeat (exact (Kd.R_reads' HO300.out).2.2))
     (case side4 => exact (Kd.R_reads' HO300.out).2.1)
     rintro e w40 ⟨v303, rfl, ho0, hb⟩
     refine ⟨_, rfl, ?_⟩
     replace HO296 := Aside0.mk (Kd.S_elder' HO296.out (Kd.R_base ho0) hb); have HO304 := Aside0.mk (Kd.R_lower (Kd.R_new' ho0 (Kd.R_lt HO300.out)) (below_size HB.out)); replace HO300 := Aside0.mk (Kd.R_elder' HO300.out (Kd.R_base ho0) hb); replace BK290 := Aside0.mk (blk_below BK290.out hb); replace BK291 := Aside0.mk (blk_below BK291.out hb); replace BK306 := Aside0.mk (blk_below BK306.out hb); replace HB := Aside0.mk (below_step HB.out hb)
     clear hb
     clear ho0
     refine hK.out _ _ ⟨(blk_cell BK290.out 0).trans rfl, (blk_cell BK291.out 0).trans rfl, (blk_cell BK291.out 1).trans rfl⟩ (fun hHeld => ?_)
     clear hK K
     refine norm_ (a' := ?_) ?_ ?_
     rotate_left
     ·show Act.put _ (some 35) _ = _
      simp only [Act.put, List.setIfInBounds_toArray, List.set_cons_zero, List.set_cons_succ, i64_w, i32_w]
      rfl
     refine pure_ (i := 6) (N := some 29) (v := ?_) (a' := ?_) #[true,true,true,true,true,true,true,false,false,true,false,false] rfl rfl (any_of HT_.out (by kernel_rfl)) (fun _ _ _ h => h) (Or.inl ⟨by rfl, ?_⟩) ?_ ?_
     rotate_left
     ·intro w'
      go_simp
      with_reducible rfl
     rotate_left
     ·simp only [Act.put, List.setIfInBounds_toArray, List.set_cons_zero, List.set_cons_succ, i64_w, i32_w]
      rfl
     refine pure_ (i := 7) (N := some 36) (v := ?_) (a' := ?_) #[true,true,true,true,true,true,true,true,false,true,false,false] rfl rfl (any_of HT_.out (by kernel_rfl)) (fun _ _ _ h => h) (Or.inl ⟨by rfl, ?_⟩) ?_ ?_
     rotate_left
     ·intro w'
      go_simp
      with_reducible rfl
     rotate_left
     ·simp only [Act.put, List.setIfInBounds_toArray, List.set_cons_zero, List.set_cons_succ, i64_w, i32_w]
      rfl
     refine pure_ (i := 8) (N := some 37) (v := ?_) (a' := ?_) #[true,true,true,true,true,true,true,true,true,true,false,false] rfl rfl (any_of HT_.out (by kernel_rfl)) (fun _ _ _ h => h) (Or.inl ⟨by rfl, ?_⟩) ?_ ?_
     rotate_left
     ·intro w'
      go_simp
      with_reducible rfl
     rotate_left
     ·simp only [Act.put, List.setIfInBounds_toArray, List.set_cons_zero, List.set_cons_succ, i64_w, i32_w]
      rfl
     exact norm_ (by simp only [putAll, Act.put, List.setIfInBounds_toArray, List.set_cons_zero, List.set_cons_succ]) (hCont (.slice Ao38 t294.length co38, .slice Ao39 t298.length co39, v303, gb306) _ ⟨hHeld, (by exact Kd.S_mono HO296.out (fun _ hk => ⟨hk.1.2, hk.2⟩)), (by exact Kd.R_mono HO300.out (fun _ hk => hk.2)), (by exact Kd.R_mono HO304.out (fun _ hk => hk.2)), BK290.out, BK291.out, BK306.out, GW306.out, GE306.out, NB290_306.out, NB306_290.out, NB291_306.out, NB306_291.out, HB.out⟩)
   ·skip
    refine box_step ?hg (N := 8) ?hd (cs := #[.int .i64 0, .slice none 0 0]) (t := 30) ?hr ?_; (case hd => rfl); (case hg => rfl); (case hr => (go_simp; done))
    intro gb306 hg w36 hbox hb
    replace HO296 := Aside0.mk (Kd.S_below HO296.out hb); have BK306 := Aside0.mk (hbox); have GW306 := Aside0.mk (geg hg (below_size HB.out)); have GE306 := Aside0.mk (geg hg (below_size HB.out)); replace HB := Aside0.mk (below_step HB.out hb); have NB290_306 := Aside0.mk (neg1 hg (Nat.ne_of_lt (blk_lt BK290.out))); have NB306_290 := Aside0.mk (neg2 hg (Nat.ne_of_gt (blk_lt BK290.out))); replace BK290 := Aside0.mk (blk_below BK290.out hb); have NB291_306 := Aside0.mk (neg1 hg (Nat.ne_of_lt (blk_lt BK291.out))); have NB306_291 := Aside0.mk (neg2 hg (Nat.ne_of_gt (blk_lt BK291.out))); replace BK291 := Aside0.mk (blk_below BK291.out hb)
    clear hb hbox hg
    refine hK.out _ _ ⟨(blk_cell BK290.out 0).trans rfl, (blk_cell BK291.out 0).trans rfl, (blk_cell BK291.out 1).trans rfl⟩ (fun hHeld => ?_)
    clear hK K
    refine norm_ (a' := ?_) ?_ ?_
    rotate_left
    ·show Act.put _ (some 8) _ = _
     simp only [Act.put, List.setIfInBounds_toArray, List.set_cons_zero, List.set_cons_succ, i64_w, i32_w]
     rfl
    refine one_ (i := 3) (N := some 33) #[true,true,true,true,true,false,false,false,false,true,false,false] rfl rfl (one_of HT_.out (by kernel_rfl)) (by decide) (fun K hK => ?_)
    refine goes_ Try.func19 (by kernel_rfl) rfl #[.agg #[.int .i64 a1_0, .slice A1_1 l1_1.length c1_1]] (by rfl) rfl rfl (by (simp only [List.map_toArray, List.map_cons, List.map_nil]); rfl) ?_
    with_reducible refine (laws_toModule.calls k a1_0 _ _ l1_1 t297 t298 _ ?side1 ?side2 A21.out).mono ?_
    (case side1 => exact (Kd.C_below HR1_1.out HB.out))
    (case side2 => exact HC1_1.out)
    rintro e w37 ⟨v299, rfl, ho0, hb⟩
    refine ⟨_, rfl, ?_⟩
    replace HO296 := Aside0.mk (Kd.S_elder' HO296.out (Kd.R_base ho0) hb); have HO300 := Aside0.mk (Kd.R_lower ho0 (below_size HB.out)); replace BK290 := Aside0.mk (blk_below BK290.out hb); replace BK291 := Aside0.mk (blk_below BK291.out hb); replace BK306 := Aside0.mk (blk_below BK306.out hb); replace HB := Aside0.mk (below_step HB.out hb)
    clear hb
    clear ho0
    obtain ⟨Ao38, co38, eo38⟩ := Kd.S_slice HO296.out
    (subst eo38)
    obtain ⟨Ao39, co39, eo39⟩ := Kd.R_slice HO300.out
    (subst eo39)
    refine hK.out _ _ ⟨(blk_cell BK290.out 0).trans rfl, (blk_cell BK291.out 0).trans rfl, (blk_cell BK291.out 1).trans rfl⟩ (fun hHeld => ?_)
    clear hK K
    refine norm_ (a' := ?_) ?_ ?_
    rotate_left
    ·show Act.put _ (some 33) _ = _
     simp only [Act.put, List.setIfInBounds_toArray, List.set_cons_zero, List.set_cons_succ, i64_w, i32_w]
     rfl
    refine one_ (i := 5) (N := some 35) #[true,true,true,true,true,true,false,false,false,true,false,false] rfl rfl (one_of HT_.out (by kernel_rfl)) (by decide) (fun K hK => ?_)
    refine goes_ Try.func26 (by kernel_rfl) rfl #[.agg #[.slice Ao38 t294.length co38], .agg #[.int .i64 t297, .slice Ao39 t298.length co39], .int .i64 a2] (by rfl) rfl rfl (by (simp only [List.map_toArray, List.map_cons, List.map_nil]); rfl) ?_
    with_reducible refine (spec_OuterModule.calls k _ _ t294 t297 _ _ t298 a2 t301 t302 t305 _ ?side1 ?side2 ?side3 ?side4 A22.out).mono ?_
    (case side1 => repeat (exact (Kd.S_reads' HO296.out).2.2))
    (case side2 => exact (Kd.S_reads' HO296.out).2.1)
    (case side3 => repeat (exact (Kd.R_reads' HO300.out).2.2))
    (case side4 => exact (Kd.R_reads' HO300.out).2.1)
    rintro e w40 ⟨v303, rfl, ho0, hb⟩
    refine ⟨_, rfl, ?_⟩
    replace HO296 := Aside0.mk (Kd.S_elder' HO296.out (Kd.R_base ho0) hb); have HO304 := Aside0.mk (Kd.R_lower (Kd.R_new' ho0 (Kd.R_lt HO300.out)) (below_size HB.out)); replace HO300 := Aside0.mk (Kd.R_elder' HO300.out (Kd.R_base ho0) hb); replace BK290 := Aside0.mk (blk_below BK290.out hb); replace BK291 := Aside0.mk (blk_below BK291.out hb); replace BK306 := Aside0.mk (blk_below BK306.out hb); replace HB := Aside0.mk (below_step HB.out hb)
    clear hb
    clear ho0
    refine hK.out _ _ ⟨(blk_cell BK290.out 0).trans rfl, (blk_cell BK291.out 0).trans rfl, (blk_cell BK291.out 1).trans rfl⟩ (fun hHeld => ?_)
    clear hK K
    refine norm_ (a' := ?_) ?_ ?_
    rotate_left
    ·show Act.put _ (some 35) _ = _
     simp only [Act.put, List.setIfInBounds_toArray, List.set_cons_zero, List.set_cons_succ, i64_w, i32_w]
     rfl
    refine pure_ (i := 6) (N := some 29) (v := ?_) (a' := ?_) #[true,true,true,true,true,true,true,false,false,true,false,false] rfl rfl (any_of HT_.out (by kernel_rfl)) (fun _ _ _ h => h) (Or.inl ⟨by rfl, ?_⟩) ?_ ?_
    rotate_left
    ·intro w'
     go_simp
     with_reducible rfl
    rotate_left
    ·simp only [Act.put, List.setIfInBounds_toArray, List.set_cons_zero, List.set_cons_succ, i64_w, i32_w]
     rfl
    refine pure_ (i := 7) (N := some 36) (v := ?_) (a' := ?_) #[true,true,true,true,true,true,true,true,false,true,false,false] rfl rfl (any_of HT_.out (by kernel_rfl)) (fun _ _ _ h => h) (Or.inl ⟨by rfl, ?_⟩) ?_ ?_
    rotate_left
    ·intro w'
     go_simp
     with_reducible rfl
    rotate_left
    ·simp only [Act.put, List.setIfInBounds_toArray, List.set_cons_zero, List.set_cons_succ, i64_w, i32_w]
     rfl
    refine pure_ (i := 8) (N := some 37) (v := ?_) (a' := ?_) #[true,true,true,true,true,true,true,true,true,true,false,false] rfl rfl (any_of HT_.out (by kernel_rfl)) (fun _ _ _ h => h) (Or.inl ⟨by rfl, ?_⟩) ?_ ?_
    rotate_left
    ·intro w'
     go_simp
     with_reducible rfl
    rotate_left
    ·simp only [Act.put, List.setIfInBounds_toArray, List.set_cons_zero, List.set_cons_succ, i64_w, i32_w]
     rfl
    exact norm_ (by simp only [putAll, Act.put, List.setIfInBounds_toArray, List.set_cons_zero, List.set_cons_succ]) (hCont (.slice Ao38 t294.length co38, .slice Ao39 t298.length co39, v303, gb306) _ ⟨hHeld, (by exact Kd.S_mono HO296.out (fun _ hk => ⟨hk.1.2, hk.2⟩)), (by exact Kd.R_mono HO300.out (fun _ hk => hk.2)), (by exact Kd.R_mono HO304.out (fun _ hk => hk.2)), BK290.out, BK291.out, BK306.out, GW306.out, GE306.out, NB290_306.out, NB306_290.out, NB291_306.out, NB306_291.out, HB.out⟩)
  ·skip
   refine box_step ?hg (N := 8) ?hd (cs := #[.int .i64 0, .slice none 0 0]) (t := 30) ?hr ?_; (case hd => rfl); (case hg => rfl); (case hr => (go_simp; done))
   intro gb306 hg w35 hbox hb
   have BK306 := Aside0.mk (hbox); have GW306 := Aside0.mk (geg hg (below_size HB.out)); have GE306 := Aside0.mk (geg hg (below_size HB.out)); replace HB := Aside0.mk (below_step HB.out hb); have NB290_306 := Aside0.mk (neg1 hg (Nat.ne_of_lt (blk_lt BK290.out))); have NB306_290 := Aside0.mk (neg2 hg (Nat.ne_of_gt (blk_lt BK290.out))); replace BK290 := Aside0.mk (blk_below BK290.out hb); have NB291_306 := Aside0.mk (neg1 hg (Nat.ne_of_lt (blk_lt BK291.out))); have NB306_291 := Aside0.mk (neg2 hg (Nat.ne_of_gt (blk_lt BK291.out))); replace BK291 := Aside0.mk (blk_below BK291.out hb)
   clear hb hbox hg
   refine hK.out _ _ ⟨(blk_cell BK290.out 0).trans rfl, (blk_cell BK291.out 0).trans rfl, (blk_cell BK291.out 1).trans rfl⟩ (fun hHeld => ?_)
   clear hK K
   refine norm_ (a' := ?_) ?_ ?_
   rotate_left
   ·show Act.put _ (some 8) _ = _
    simp only [Act.put, List.setIfInBounds_toArray, List.set_cons_zero, List.set_cons_succ, i64_w, i32_w]
    rfl
   refine one_ (i := 1) (N := some 31) #[true,true,true,false,true,false,false,false,false,true,false,false] rfl rfl (one_of HT_.out (by kernel_rfl)) (by decide) (fun K hK => ?_)
   refine goes_ Try.func18 (by kernel_rfl) rfl #[.agg #[.slice A0_0 l0_0.length c0_0]] (by rfl) rfl rfl (by (simp only [List.map_toArray, List.map_cons, List.map_nil]); rfl) ?_
   with_reducible refine (laws_toGroup.calls k _ _ l0_0 t294 _ ?side1 ?side2 A20.out).mono ?_
   (case side1 => exact (Kd.C_below HR0_0.out HB.out))
   (case side2 => exact HC0_0.out)
   rintro e w36 ⟨v295, rfl, ho0, hb⟩
   refine ⟨_, rfl, ?_⟩
   have HO296 := Aside0.mk (Kd.S_lower ho0 (below_size HB.out)); replace BK290 := Aside0.mk (blk_below BK290.out hb); replace BK291 := Aside0.mk (blk_below BK291.out hb); replace BK306 := Aside0.mk (blk_below BK306.out hb); replace HB := Aside0.mk (below_step HB.out hb)
   clear hb
   clear ho0
   refine hK.out _ _ ⟨(blk_cell BK290.out 0).trans rfl, (blk_cell BK291.out 0).trans rfl, (blk_cell BK291.out 1).trans rfl⟩ (fun hHeld => ?_)
   clear hK K
   refine norm_ (a' := ?_) ?_ ?_
   rotate_left
   ·show Act.put _ (some 31) _ = _
    simp only [Act.put, List.setIfInBounds_toArray, List.set_cons_zero, List.set_cons_succ, i64_w, i32_w]
    rfl
   refine one_ (i := 3) (N := some 33) #[true,true,true,true,true,false,false,false,false,true,false,false] rfl rfl (one_of HT_.out (by kernel_rfl)) (by decide) (fun K hK => ?_)
   refine goes_ Try.func19 (by kernel_rfl) rfl #[.agg #[.int .i64 a1_0, .slice A1_1 l1_1.length c1_1]] (by rfl) rfl rfl (by (simp only [List.map_toArray, List.map_cons, List.map_nil]); rfl) ?_
   with_reducible refine (laws_toModule.calls k a1_0 _ _ l1_1 t297 t298 _ ?side1 ?side2 A21.out).mono ?_
   (case side1 => exact (Kd.C_below HR1_1.out HB.out))
   (case side2 => exact HC1_1.out)
   rintro e w37 ⟨v299, rfl, ho0, hb⟩
   refine ⟨_, rfl, ?_⟩
   replace HO296 := Aside0.mk (Kd.S_elder' HO296.out (Kd.R_base ho0) hb); have HO300 := Aside0.mk (Kd.R_lower ho0 (below_size HB.out)); replace BK290 := Aside0.mk (blk_below BK290.out hb); replace BK291 := Aside0.mk (blk_below BK291.out hb); replace BK306 := Aside0.mk (blk_below BK306.out hb); replace HB := Aside0.mk (below_step HB.out hb)
   clear hb
   clear ho0
   obtain ⟨Ao38, co38, eo38⟩ := Kd.S_slice HO296.out
   (subst eo38)
   obtain ⟨Ao39, co39, eo39⟩ := Kd.R_slice HO300.out
   (subst eo39)
   refine hK.out _ _ ⟨(blk_cell BK290.out 0).trans rfl, (blk_cell BK291.out 0).trans rfl, (blk_cell BK291.out 1).trans rfl⟩ (fun hHeld => ?_)
   clear hK K
   refine norm_ (a' := ?_) ?_ ?_
   rotate_left
   ·show Act.put _ (some 33) _ = _
    simp only [Act.put, List.setIfInBounds_toArray, List.set_cons_zero, List.set_cons_succ, i64_w, i32_w]
    rfl
   refine one_ (i := 5) (N := some 35) #[true,true,true,true,true,true,false,false,false,true,false,false] rfl rfl (one_of HT_.out (by kernel_rfl)) (by decide) (fun K hK => ?_)
   refine goes_ Try.func26 (by kernel_rfl) rfl #[.agg #[.slice Ao38 t294.length co38], .agg #[.int .i64 t297, .slice Ao39 t298.length co39], .int .i64 a2] (by rfl) rfl rfl (by (simp only [List.map_toArray, List.map_cons, List.map_nil]); rfl) ?_
   with_reducible refine (spec_OuterModule.calls k _ _ t294 t297 _ _ t298 a2 t301 t302 t305 _ ?side1 ?side2 ?side3 ?side4 A22.out).mono ?_
   (case side1 => repeat (exact (Kd.S_reads' HO296.out).2.2))
   (case side2 => exact (Kd.S_reads' HO296.out).2.1)
   (case side3 => repeat (exact (Kd.R_reads' HO300.out).2.2))
   (case side4 => exact (Kd.R_reads' HO300.out).2.1)
   rintro e w40 ⟨v303, rfl, ho0, hb⟩
   refine ⟨_, rfl, ?_⟩
   replace HO296 := Aside0.mk (Kd.S_elder' HO296.out (Kd.R_base ho0) hb); have HO304 := Aside0.mk (Kd.R_lower (Kd.R_new' ho0 (Kd.R_lt HO300.out)) (below_size HB.out)); replace HO300 := Aside0.mk (Kd.R_elder' HO300.out (Kd.R_base ho0) hb); replace BK290 := Aside0.mk (blk_below BK290.out hb); replace BK291 := Aside0.mk (blk_below BK291.out hb); replace BK306 := Aside0.mk (blk_below BK306.out hb); replace HB := Aside0.mk (below_step HB.out hb)
   clear hb
   clear ho0
   refine hK.out _ _ ⟨(blk_cell BK290.out 0).trans rfl, (blk_cell BK291.out 0).trans rfl, (blk_cell BK291.out 1).trans rfl⟩ (fun hHeld => ?_)
   clear hK K
   refine norm_ (a' := ?_) ?_ ?_
   rotate_left
   ·show Act.put _ (some 35) _ = _
    simp only [Act.put, List.setIfInBounds_toArray, List.set_cons_zero, List.set_cons_succ, i64_w, i32_w]
    rfl
   refine pure_ (i := 6) (N := some 29) (v := ?_) (a' := ?_) #[true,true,true,true,true,true,true,false,false,true,false,false] rfl rfl (any_of HT_.out (by kernel_rfl)) (fun _ _ _ h => h) (Or.inl ⟨by rfl, ?_⟩) ?_ ?_
   rotate_left
   ·intro w'
    go_simp
    with_reducible rfl
   rotate_left
   ·simp only [Act.put, List.setIfInBounds_toArray, List.set_cons_zero, List.set_cons_succ, i64_w, i32_w]
    rfl
   refine pure_ (i := 7) (N := some 36) (v := ?_) (a' := ?_) #[true,true,true,true,true,true,true,true,false,true,false,false] rfl rfl (any_of HT_.out (by kernel_rfl)) (fun _ _ _ h => h) (Or.inl ⟨by rfl, ?_⟩) ?_ ?_
   rotate_left
   ·intro w'
    go_simp
    with_reducible rfl
   rotate_left
   ·simp only [Act.put, List.setIfInBounds_toArray, List.set_cons_zero, List.set_cons_succ, i64_w, i32_w]
    rfl
   refine pure_ (i := 8) (N := some 37) (v := ?_) (a' := ?_) #[true,true,true,true,true,true,true,true,true,true,false,false] rfl rfl (any_of HT_.out (by kernel_rfl)) (fun _ _ _ h => h) (Or.inl ⟨by rfl, ?_⟩) ?_ ?_
   rotate_left
   ·intro w'
    go_simp
    with_reducible rfl
   rotate_left
   ·simp only [Act.put, List.setIfInBounds_toArray, List.set_cons_zero, List.set_cons_succ, i64_w, i32_w]
    rfl
   exact norm_ (by simp only [putAll, Act.put, List.setIfInBounds_toArray, List.set_cons_zero, List.set_cons_succ]) (hCont (.slice Ao38 t294.length co38, .slice Ao39 t298.length co39, v303, gb306) _ ⟨hHeld, (by exact Kd.S_mono HO296.out (fun _ hk => ⟨hk.1.2, hk.2⟩)), (by exact Kd.R_mono HO300.out (fun _ hk => hk.2)), (by exact Kd.R_mono HO304.out (fun _ hk => hk.2)), BK290.out, BK291.out, BK306.out, GW306.out, GE306.out, NB290_306.out, NB306_290.out, NB291_306.out, NB306_291.out, HB.out⟩)
 rintro ⟨v295, v299, v303, gb306⟩ w41 ⟨hS_, h0_, h1_, h2_, h3_, h4_, h5_, h6_, h7_, h8_, h9_, h10_, h11_, h12_⟩
 have n0_ : Aside0 (Kd.S (Kd.slice 2 (Kd.int .i64)) 25 w41 w.heap.size (fun k_ => some k_ ≠ (v299 : Value).ownBlock ∧ some k_ ≠ (v303 : Value).ownBlock) v295 t294) := ⟨h0_⟩
 have n1_ : Aside0 (Kd.R (Kd.int .i64) 2 w41 w.heap.size (fun k_ => some k_ ≠ (v303 : Value).ownBlock) v299 t298) := ⟨h1_⟩
 have n2_ : Aside0 (Kd.R (Kd.int .i64) 2 w41 w.heap.size (fun k_ => some k_ ≠ (v299 : Value).ownBlock) v303 t302) := ⟨h2_⟩
 have n3_ : Aside0 (w41.heap[gb290]? = some (.cells #[.slice A0_0 l0_0.length c0_0] 24 (0, 0))) := ⟨h3_⟩
 have n4_ : Aside0 (w41.heap[gb291]? = some (.cells #[.int .i64 a1_0, .slice A1_1 l1_1.length c1_1] 27 (0, 0))) := ⟨h4_⟩
 have n5_ : Aside0 (w41.heap[gb306]? = some (.cells #[.int .i64 0, .slice none 0 0] 30 (0, 0))) := ⟨h5_⟩
 have n6_ : Aside0 (w.heap.size ≤ gb306) := ⟨h6_⟩
 have n7_ : Aside0 (w.heap.size ≤ gb306) := ⟨h7_⟩
 have n8_ : Aside0 (gb290 ≠ gb306) := ⟨h8_⟩
 have n9_ : Aside0 (gb306 ≠ gb290) := ⟨h9_⟩
 have n10_ : Aside0 (gb291 ≠ gb306) := ⟨h10_⟩
 have n11_ : Aside0 (gb306 ≠ gb291) := ⟨h11_⟩
 have n12_ : Aside0 (Below w.heap.size w w41) := ⟨h12_⟩
 clear BK290 BK291 HB h0_ h1_ h2_ h3_ h4_ h5_ h6_ h7_ h8_ h9_ h10_ h11_ h12_
 have HO296 := n0_
 have HO300 := n1_
 have HO304 := n2_
 have BK290 := n3_
 have BK291 := n4_
 have BK306 := n5_
 have GW306 := n6_
 have GE306 := n7_
 have NB290_306 := n8_
 have NB306_290 := n9_
 have NB291_306 := n10_
 have NB306_291 := n11_
 have HB := n12_
 clear n0_ n1_ n2_ n3_ n4_ n5_ n6_ n7_ n8_ n9_ n10_ n11_ n12_
 have hHeld : w41.cell? ⟨gb290, 0, none⟩ = some (.slice A0_0 l0_0.length c0_0) ∧ w41.cell? ⟨gb291, 0, none⟩ = some (.int .i64 a1_0) ∧ w41.cell? ⟨gb291, 1, none⟩ = some (.slice A1_1 l1_1.length c1_1) := hS_
 obtain ⟨Ao43, co43, eo43⟩ := Kd.R_slice HO304.out
 (subst eo43)
 refine norm_ (a' := ?_) ?_ ?_
 rotate_left
 ·simp only [putAll, Act.put, List.setIfInBounds_toArray, List.set_cons_zero, List.set_cons_succ]
  rfl
 refine one_ (i := 10) (N := none) #[true,true,true,true,true,true,true,true,true,true,true,false] rfl rfl (one_of HT_.out (by kernel_rfl)) (by decide) (fun K hK => ?_)
 have hs42 : w41.cell? ⟨gb306, 0, none⟩ = some (.int .i64 0) := (blk_cell BK306.out 0).trans rfl
 have hfs42 := blk_frozen BK306.out 0
 have hns42_0 := NB290_306.out
 have hns42_1 := NB291_306.out
 have hms42_0 := NB306_290.out
 have hms42_1 := NB306_291.out
 have hs44 : w41.cell? ⟨gb306, 1, none⟩ = some (.slice none 0 0) := (blk_cell BK306.out 1).trans rfl
 have hfs44 := blk_frozen BK306.out 1
 have hns44_0 := NB290_306.out
 have hns44_1 := NB291_306.out
 have hms44_0 := NB306_290.out
 have hms44_1 := NB306_291.out
 refine skip_ (w1 := ?_) (by rfl) rfl ?_ ?_
 rotate_left
 ·go_simp
  rfl
 refine hK.out _ _ ⟨((cell_far (p := ⟨gb306, _, none⟩) NB290_306.out _).trans (((cell_far (p := ⟨gb306, _, none⟩) NB290_306.out _).trans (hHeld.1)))), ((cell_far (p := ⟨gb306, _, none⟩) NB291_306.out _).trans (((cell_far (p := ⟨gb306, _, none⟩) NB291_306.out _).trans (hHeld.2.1)))), ((cell_far (p := ⟨gb306, _, none⟩) NB291_306.out _).trans (((cell_far (p := ⟨gb306, _, none⟩) NB291_306.out _).trans (hHeld.2.2))))⟩ (fun hHeld => ?_)
 clear hK K
 refine pure_ (i := 11) (N := some 9) (v := ?_) (a' := ?_) #[true,true,true,true,true,true,true,true,true,true,true,true] rfl rfl (any_of HT_.out (by kernel_rfl)) (fun _ _ _ h => h) (Or.inl ⟨by rfl, ?_⟩) ?_ ?_
 rotate_left
 ·intro w'
  go_simp
  with_reducible rfl
 rotate_left
 ·simp only [Act.put, List.setIfInBounds_toArray, List.set_cons_zero, List.set_cons_succ, i64_w, i32_w]
  rfl
 refine done_ (done_of HT_.out (by kernel_rfl)) ?_
 have hnb45 := NB290_306.out
 have hnc45 := NB306_290.out
 have hcz46_0 := bc0 BK290.out
 have hfz46_0 := blk_frozen BK290.out 0
 go_upto_region 12 with (first | ((with_reducible refine gate_callee (f := 18) rfl ?_); refine goesL_ (some 39) rfl rfl Try.func18 (by kernel_rfl) rfl #[.agg #[.slice A0_0 l0_0.length c0_0]] rfl (by (simp only [List.map_toArray, List.map_cons, List.map_nil]); rfl) ?_; (with_reducible refine (laws_toGroup.calls k _ _ l0_0 t307 _ ?side1 ?side2 A23.out).mono ?_); (case side1 => exact Kd.C_below HR0_0.out (by repeat ((with_reducible first | exact HB.out | refine below_set ?_ GE306.out)))); (case side2 => exact HC0_0.out); rintro e w47 ⟨v308, rfl, ho0, hb⟩; refine ⟨_, rfl, ?_⟩; have HO309 := Aside0.mk (Kd.S_lower (Kd.S_new' (Kd.S_new' (Kd.S_new' ho0 (Kd.S_lt (by exact (Kd.S_mono (Kd.S_far (p := ⟨gb306, 1, none⟩) (Kd.S_far (p := ⟨gb306, 0, none⟩) (Kd.S_types HO296.out BK306.out (by decide)) (fun _ hk => hk.2) (.int .i64 t301)) (fun _ hk => hk.2) (.slice Ao43 t302.length co43)) (fun _ h_ => h_.1))))) (Kd.R_lt (by exact (Kd.R_mono (Kd.R_far (p := ⟨gb306, 1, none⟩) (Kd.R_far (p := ⟨gb306, 0, none⟩) (Kd.R_types HO300.out BK306.out (by decide)) (fun _ hk => hk.2) (.int .i64 t301)) (fun _ hk => hk.2) (.slice Ao43 t302.length co43)) (fun _ h_ => h_.1))))) (Kd.R_lt (by exact (Kd.R_mono (Kd.R_far (p := ⟨gb306, 1, none⟩) (Kd.R_far (p := ⟨gb306, 0, none⟩) (Kd.R_types HO304.out BK306.out (by decide)) (fun _ hk => hk.2) (.int .i64 t301)) (fun _ hk => hk.2) (.slice Ao43 t302.length co43)) (fun _ h_ => h_.1))))) (below_size (by repeat ((with_reducible first | exact HB.out | refine below_set ?_ GE306.out))))); replace HO296 := Aside0.mk (Kd.S_elder' (by exact (Kd.S_mono (Kd.S_far (p := ⟨gb306, 1, none⟩) (Kd.S_far (p := ⟨gb306, 0, none⟩) (Kd.S_types HO296.out BK306.out (by decide)) (fun _ hk => hk.2) (.int .i64 t301)) (fun _ hk => hk.2) (.slice Ao43 t302.length co43)) (fun _ h_ => h_.1))) (Kd.S_base ho0) hb); replace HO300 := Aside0.mk (Kd.R_below (by exact (Kd.R_mono (Kd.R_far (p := ⟨gb306, 1, none⟩) (Kd.R_far (p := ⟨gb306, 0, none⟩) (Kd.R_types HO300.out BK306.out (by decide)) (fun _ hk => hk.2) (.int .i64 t301)) (fun _ hk => hk.2) (.slice Ao43 t302.length co43)) (fun _ h_ => h_.1))) hb); replace HO304 := Aside0.mk (Kd.R_below (by exact (Kd.R_mono (Kd.R_far (p := ⟨gb306, 1, none⟩) (Kd.R_far (p := ⟨gb306, 0, none⟩) (Kd.R_types HO304.out BK306.out (by decide)) (fun _ hk => hk.2) (.int .i64 t301)) (fun _ hk => hk.2) (.slice Ao43 t302.length co43)) (fun _ h_ => h_.1))) hb); replace BK290 := Aside0.mk (blk_below (g := gb290) (o := .cells #[.slice A0_0 l0_0.length c0_0] 24 (0, 0)) (by refine blk_far ?_ NB290_306.out _; refine blk_far ?_ NB290_306.out _; exact BK290.out) hb); replace BK291 := Aside0.mk (blk_below (g := gb291) (o := .cells #[.int .i64 a1_0, .slice A1_1 l1_1.length c1_1] 27 (0, 0)) (by refine blk_far ?_ NB291_306.out _; refine blk_far ?_ NB291_306.out _; exact BK291.out) hb); replace BK306 := Aside0.mk (blk_below (g := gb306) (o := .cells #[.int .i64 t301, .slice Ao43 t302.length co43] 30 (0, 0)) (by refine blk_put (cs := #[.int .i64 t301, .slice none 0 0]) ?_ 1 _ rfl; refine blk_put (cs := #[.int .i64 0, .slice none 0 0]) ?_ 0 _ rfl; exact BK306.out) hb); replace HB := Aside0.mk (below_step (by repeat ((with_reducible first | exact HB.out | refine below_set ?_ GE306.out))) hb); clear hb ho0) | ((with_reducible refine gate_dst (N := 10) rfl ?_); refine box_event ?hg (N := 10) ?hd (cs := #[.slice none 0 0]) (t := 33) ?hr ?_; (case hd => rfl); (case hg => rfl); (case hr => (go_simp; done)); intro gb310 hg w48 hbox hb; replace HO296 := Aside0.mk (Kd.S_below HO296.out hb); replace HO300 := Aside0.mk (Kd.R_below HO300.out hb); replace HO304 := Aside0.mk (Kd.R_below HO304.out hb); replace HO309 := Aside0.mk (Kd.S_below HO309.out hb); have BK310 := Aside0.mk (hbox); have GW310 := Aside0.mk (geg hg (below_size HB.out)); have GE310 := Aside0.mk (geg hg (below_size HB.out)); replace HB := Aside0.mk (below_step HB.out hb); have NB290_310 := Aside0.mk (neg1 hg (Nat.ne_of_lt (blk_lt BK290.out))); have NB310_290 := Aside0.mk (neg2 hg (Nat.ne_of_gt (blk_lt BK290.out))); replace BK290 := Aside0.mk (blk_below BK290.out hb); have NB291_310 := Aside0.mk (neg1 hg (Nat.ne_of_lt (blk_lt BK291.out))); have NB310_291 := Aside0.mk (neg2 hg (Nat.ne_of_gt (blk_lt BK291.out))); replace BK291 := Aside0.mk (blk_below BK291.out hb); have NB306_310 := Aside0.mk (neg1 hg (Nat.ne_of_lt (blk_lt BK306.out))); have NB310_306 := Aside0.mk (neg2 hg (Nat.ne_of_gt (blk_lt BK306.out))); replace BK306 := Aside0.mk (blk_below BK306.out hb); clear hb hbox hg; obtain ⟨Ao49, co49, eo49⟩ := Kd.S_slice HO309.out; subst eo49; have hnb50 := NB310_290.out; have hnc50 := NB290_310.out; have hnb51 := NB310_291.out; have hnc51 := NB291_310.out; have hnb52 := NB310_306.out; have hnc52 := NB306_310.out; have hcz53_0 := bc0 BK310.out; have hfz53_0 := blk_frozen BK310.out 0; have hnb54 := NB291_306.out; have hnc54 := NB306_291.out; have hcz55_0 := bc0 BK291.out; have hcz55_1 := bc1 BK291.out; have hfz55_0 := blk_frozen BK291.out 0; have hfz55_1 := blk_frozen BK291.out 1) | ((with_reducible refine gate_callee (f := 19) rfl ?_); refine goesL_ (some 41) rfl rfl Try.func19 (by kernel_rfl) rfl #[.agg #[.int .i64 a1_0, .slice A1_1 l1_1.length c1_1]] rfl (by (simp only [List.map_toArray, List.map_cons, List.map_nil]); rfl) ?_; (with_reducible refine (laws_toModule.calls k a1_0 _ _ l1_1 t311 t312 _ ?side1 ?side2 A24.out).mono ?_); (case side1 => exact Kd.C_below HR1_1.out (by repeat ((with_reducible first | exact HB.out | refine below_set ?_ GE310.out)))); (case side2 => exact HC1_1.out); rintro e w56 ⟨v313, rfl, ho0, hb⟩; refine ⟨_, rfl, ?_⟩; replace HO296 := Aside0.mk (Kd.S_elder' (by exact (Kd.S_mono (Kd.S_far (p := ⟨gb310, 0, none⟩) (Kd.S_types HO296.out BK310.out (by decide)) (fun _ hk => hk.2) (.slice Ao49 t307.length co49)) (fun _ h_ => h_.1))) (Kd.R_base ho0) hb); replace HO309 := Aside0.mk (Kd.S_elder' (by exact (Kd.S_mono (Kd.S_far (p := ⟨gb310, 0, none⟩) (Kd.S_types HO309.out BK310.out (by decide)) (fun _ hk => hk.2) (.slice Ao49 t307.length co49)) (fun _ h_ => h_.1))) (Kd.R_base ho0) hb); have HO314 := Aside0.mk (Kd.R_lower (Kd.R_new' (Kd.R_new' ho0 (Kd.R_lt (by exact (Kd.R_mono (Kd.R_far (p := ⟨gb310, 0, none⟩) (Kd.R_types HO300.out BK310.out (by decide)) (fun _ hk => hk.2) (.slice Ao49 t307.length co49)) (fun _ h_ => h_.1))))) (Kd.R_lt (by exact (Kd.R_mono (Kd.R_far (p := ⟨gb310, 0, none⟩) (Kd.R_types HO304.out BK310.out (by decide)) (fun _ hk => hk.2) (.slice Ao49 t307.length co49)) (fun _ h_ => h_.1))))) (below_size (by repeat ((with_reducible first | exact HB.out | refine below_set ?_ GE310.out))))); replace HO300 := Aside0.mk (Kd.R_elder' (by exact (Kd.R_mono (Kd.R_far (p := ⟨gb310, 0, none⟩) (Kd.R_types HO300.out BK310.out (by decide)) (fun _ hk => hk.2) (.slice Ao49 t307.length co49)) (fun _ h_ => h_.1))) (Kd.R_base ho0) hb); replace HO304 := Aside0.mk (Kd.R_elder' (by exact (Kd.R_mono (Kd.R_far (p := ⟨gb310, 0, none⟩) (Kd.R_types HO304.out BK310.out (by decide)) (fun _ hk => hk.2) (.slice Ao49 t307.length co49)) (fun _ h_ => h_.1))) (Kd.R_base ho0) hb); replace BK290 := Aside0.mk (blk_below (g := gb290) (o := .cells #[.slice A0_0 l0_0.length c0_0] 24 (0, 0)) (by refine blk_far ?_ NB290_310.out _; exact BK290.out) hb); replace BK291 := Aside0.mk (blk_below (g := gb291) (o := .cells #[.int .i64 a1_0, .slice A1_1 l1_1.length c1_1] 27 (0, 0)) (by refine blk_far ?_ NB291_310.out _; exact BK291.out) hb); replace BK306 := Aside0.mk (blk_below (g := gb306) (o := .cells #[.int .i64 t301, .slice Ao43 t302.length co43] 30 (0, 0)) (by refine blk_far ?_ NB306_310.out _; exact BK306.out) hb); replace BK310 := Aside0.mk (blk_below (g := gb310) (o := .cells #[.slice Ao49 t307.length co49] 33 (0, 0)) (by refine blk_put (cs := #[.slice none 0 0]) ?_ 0 _ rfl; exact BK310.out) hb); replace HB := Aside0.mk (below_step (by repeat ((with_reducible first | exact HB.out | refine below_set ?_ GE310.out))) hb); clear hb ho0) | ((with_reducible refine gate_dst (N := 11) rfl ?_); refine box_event ?hg (N := 11) ?hd (cs := #[.int .i64 0, .slice none 0 0]) (t := 30) ?hr ?_; (case hd => rfl); (case hg => rfl); (case hr => (go_simp; done)); intro gb315 hg w57 hbox hb; replace HO296 := Aside0.mk (Kd.S_below HO296.out hb); replace HO300 := Aside0.mk (Kd.R_below HO300.out hb); replace HO304 := Aside0.mk (Kd.R_below HO304.out hb); replace HO309 := Aside0.mk (Kd.S_below HO309.out hb); replace HO314 := Aside0.mk (Kd.R_below HO314.out hb); have BK315 := Aside0.mk (hbox); have GW315 := Aside0.mk (geg hg (below_size HB.out)); have GE315 := Aside0.mk (geg hg (below_size HB.out)); replace HB := Aside0.mk (below_step HB.out hb); have NB290_315 := Aside0.mk (neg1 hg (Nat.ne_of_lt (blk_lt BK290.out))); have NB315_290 := Aside0.mk (neg2 hg (Nat.ne_of_gt (blk_lt BK290.out))); replace BK290 := Aside0.mk (blk_below BK290.out hb); have NB291_315 := Aside0.mk (neg1 hg (Nat.ne_of_lt (blk_lt BK291.out))); have NB315_291 := Aside0.mk (neg2 hg (Nat.ne_of_gt (blk_lt BK291.out))); replace BK291 := Aside0.mk (blk_below BK291.out hb); have NB306_315 := Aside0.mk (neg1 hg (Nat.ne_of_lt (blk_lt BK306.out))); have NB315_306 := Aside0.mk (neg2 hg (Nat.ne_of_gt (blk_lt BK306.out))); replace BK306 := Aside0.mk (blk_below BK306.out hb); have NB310_315 := Aside0.mk (neg1 hg (Nat.ne_of_lt (blk_lt BK310.out))); have NB315_310 := Aside0.mk (neg2 hg (Nat.ne_of_gt (blk_lt BK310.out))); replace BK310 := Aside0.mk (blk_below BK310.out hb); clear hb hbox hg; have hnb58 := NB315_290.out; have hnc58 := NB290_315.out; have hnb59 := NB315_291.out; have hnc59 := NB291_315.out; have hnb60 := NB315_306.out; have hnc60 := NB306_315.out; have hnb61 := NB315_310.out; have hnc61 := NB310_315.out; have hcz62_0 := bc0 BK315.out; have hcz62_1 := bc1 BK315.out; have hfz62_0 := blk_frozen BK315.out 0; have hfz62_1 := blk_frozen BK315.out 1; obtain ⟨Ao63, co63, eo63⟩ := Kd.R_slice HO314.out; subst eo63; have hcz64_0 := bc0 BK310.out; have hfz64_0 := blk_frozen BK310.out 0) | ((with_reducible refine gate_callee (f := 27) rfl ?_); refine goesL_ (some 46) rfl rfl Try.func27 (by kernel_rfl) rfl #[.agg #[.slice Ao49 t307.length co49], .agg #[.int .i64 t311, .slice Ao63 t312.length co63], .int .i64 a2] rfl (by (simp only [List.map_toArray, List.map_cons, List.map_nil]); rfl) ?_; (with_reducible refine (impl_OuterModule.calls k _ _ t307 t311 _ _ t312 a2 t316 t317 t320 _ ?side1 ?side2 ?side3 ?side4 A25.out).mono ?_); (case side1 => refine (Kd.S_reads' (e := 25) (base := w.heap.size) (ok := fun k_ => ((((True ∧ some k_ ≠ (v295 : Value).ownBlock) ∧ some k_ ≠ (v299 : Value).ownBlock) ∧ some k_ ≠ (.slice Ao43 t302.length co43 : Value).ownBlock) ∧ some k_ ≠ (.slice Ao63 t312.length co63 : Value).ownBlock)) (n := t307.length) (c := co49) ?_).2.2; exact (by exact (Kd.S_mono (Kd.S_far (p := ⟨gb315, 1, none⟩) (Kd.S_far (p := ⟨gb315, 0, none⟩) (Kd.S_types HO309.out BK315.out (by decide)) (fun _ hk => hk.2) (.int .i64 t311)) (fun _ hk => hk.2) (.slice Ao63 t312.length co63)) (fun _ h_ => h_.1)))); (case side2 => exact (Kd.S_reads' HO309.out).2.1); (case side3 => refine (Kd.R_reads' (e := 2) (base := w.heap.size) (ok := fun k_ => ((True ∧ some k_ ≠ (v299 : Value).ownBlock) ∧ some k_ ≠ (.slice Ao43 t302.length co43 : Value).ownBlock)) (n := t312.length) (c := co63) ?_).2.2; exact (by exact (Kd.R_mono (Kd.R_far (p := ⟨gb315, 1, none⟩) (Kd.R_far (p := ⟨gb315, 0, none⟩) (Kd.R_types HO314.out BK315.out (by decide)) (fun _ hk => hk.2) (.int .i64 t311)) (fun _ hk => hk.2) (.slice Ao63 t312.length co63)) (fun _ h_ => h_.1)))); (case side4 => exact (Kd.R_reads' HO314.out).2.1); rintro e w65 ⟨v318, rfl, ho0, hb⟩; refine ⟨_, rfl, ?_⟩; replace HO296 := Aside0.mk (Kd.S_elder' (by exact (Kd.S_mono (Kd.S_far (p := ⟨gb315, 1, none⟩) (Kd.S_far (p := ⟨gb315, 0, none⟩) (Kd.S_types HO296.out BK315.out (by decide)) (fun _ hk => hk.2) (.int .i64 t311)) (fun _ hk => hk.2) (.slice Ao63 t312.length co63)) (fun _ h_ => h_.1))) (Kd.R_base ho0) hb); replace HO309 := Aside0.mk (Kd.S_elder' (by exact (Kd.S_mono (Kd.S_far (p := ⟨gb315, 1, none⟩) (Kd.S_far (p := ⟨gb315, 0, none⟩) (Kd.S_types HO309.out BK315.out (by decide)) (fun _ hk => hk.2) (.int .i64 t311)) (fun _ hk => hk.2) (.slice Ao63 t312.length co63)) (fun _ h_ => h_.1))) (Kd.R_base ho0) hb); have HO319 := Aside0.mk (Kd.R_lower (Kd.R_new' (Kd.R_new' (Kd.R_new' ho0 (Kd.R_lt (by exact (Kd.R_mono (Kd.R_far (p := ⟨gb315, 1, none⟩) (Kd.R_far (p := ⟨gb315, 0, none⟩) (Kd.R_types HO300.out BK315.out (by decide)) (fun _ hk => hk.2) (.int .i64 t311)) (fun _ hk => hk.2) (.slice Ao63 t312.length co63)) (fun _ h_ => h_.1))))) (Kd.R_lt (by exact (Kd.R_mono (Kd.R_far (p := ⟨gb315, 1, none⟩) (Kd.R_far (p := ⟨gb315, 0, none⟩) (Kd.R_types HO304.out BK315.out (by decide)) (fun _ hk => hk.2) (.int .i64 t311)) (fun _ hk => hk.2) (.slice Ao63 t312.length co63)) (fun _ h_ => h_.1))))) (Kd.R_lt (by exact (Kd.R_mono (Kd.R_far (p := ⟨gb315, 1, none⟩) (Kd.R_far (p := ⟨gb315, 0, none⟩) (Kd.R_types HO314.out BK315.out (by decide)) (fun _ hk => hk.2) (.int .i64 t311)) (fun _ hk => hk.2) (.slice Ao63 t312.length co63)) (fun _ h_ => h_.1))))) (below_size (by repeat ((with_reducible first | exact HB.out | refine below_set ?_ GE315.out))))); replace HO300 := Aside0.mk (Kd.R_elder' (by exact (Kd.R_mono (Kd.R_far (p := ⟨gb315, 1, none⟩) (Kd.R_far (p := ⟨gb315, 0, none⟩) (Kd.R_types HO300.out BK315.out (by decide)) (fun _ hk => hk.2) (.int .i64 t311)) (fun _ hk => hk.2) (.slice Ao63 t312.length co63)) (fun _ h_ => h_.1))) (Kd.R_base ho0) hb); replace HO304 := Aside0.mk (Kd.R_elder' (by exact (Kd.R_mono (Kd.R_far (p := ⟨gb315, 1, none⟩) (Kd.R_far (p := ⟨gb315, 0, none⟩) (Kd.R_types HO304.out BK315.out (by decide)) (fun _ hk => hk.2) (.int .i64 t311)) (fun _ hk => hk.2) (.slice Ao63 t312.length co63)) (fun _ h_ => h_.1))) (Kd.R_base ho0) hb); replace HO314 := Aside0.mk (Kd.R_elder' (by exact (Kd.R_mono (Kd.R_far (p := ⟨gb315, 1, none⟩) (Kd.R_far (p := ⟨gb315, 0, none⟩) (Kd.R_types HO314.out BK315.out (by decide)) (fun _ hk => hk.2) (.int .i64 t311)) (fun _ hk => hk.2) (.slice Ao63 t312.length co63)) (fun _ h_ => h_.1))) (Kd.R_base ho0) hb); replace BK290 := Aside0.mk (blk_below (g := gb290) (o := .cells #[.slice A0_0 l0_0.length c0_0] 24 (0, 0)) (by refine blk_far ?_ NB290_315.out _; refine blk_far ?_ NB290_315.out _; exact BK290.out) hb); replace BK291 := Aside0.mk (blk_below (g := gb291) (o := .cells #[.int .i64 a1_0, .slice A1_1 l1_1.length c1_1] 27 (0, 0)) (by refine blk_far ?_ NB291_315.out _; refine blk_far ?_ NB291_315.out _; exact BK291.out) hb); replace BK306 := Aside0.mk (blk_below (g := gb306) (o := .cells #[.int .i64 t301, .slice Ao43 t302.length co43] 30 (0, 0)) (by refine blk_far ?_ NB306_315.out _; refine blk_far ?_ NB306_315.out _; exact BK306.out) hb); replace BK310 := Aside0.mk (blk_below (g := gb310) (o := .cells #[.slice Ao49 t307.length co49] 33 (0, 0)) (by refine blk_far ?_ NB310_315.out _; refine blk_far ?_ NB310_315.out _; exact BK310.out) hb); replace BK315 := Aside0.mk (blk_below (g := gb315) (o := .cells #[.int .i64 t311, .slice Ao63 t312.length co63] 30 (0, 0)) (by refine blk_put (cs := #[.int .i64 t311, .slice none 0 0]) ?_ 1 _ rfl; refine blk_put (cs := #[.int .i64 0, .slice none 0 0]) ?_ 0 _ rfl; exact BK315.out) hb); replace HB := Aside0.mk (below_step (by repeat ((with_reducible first | exact HB.out | refine below_set ?_ GE315.out))) hb); clear hb ho0) | ((with_reducible refine gate_dst (N := 12) rfl ?_); refine box_event ?hg (N := 12) ?hd (cs := #[.int .i64 0, .slice none 0 0]) (t := 30) ?hr ?_; (case hd => rfl); (case hg => rfl); (case hr => (go_simp; done)); intro gb321 hg w66 hbox hb; replace HO296 := Aside0.mk (Kd.S_below HO296.out hb); replace HO300 := Aside0.mk (Kd.R_below HO300.out hb); replace HO304 := Aside0.mk (Kd.R_below HO304.out hb); replace HO309 := Aside0.mk (Kd.S_below HO309.out hb); replace HO314 := Aside0.mk (Kd.R_below HO314.out hb); replace HO319 := Aside0.mk (Kd.R_below HO319.out hb); have BK321 := Aside0.mk (hbox); have GW321 := Aside0.mk (geg hg (below_size HB.out)); have GE321 := Aside0.mk (geg hg (below_size HB.out)); replace HB := Aside0.mk (below_step HB.out hb); have NB290_321 := Aside0.mk (neg1 hg (Nat.ne_of_lt (blk_lt BK290.out))); have NB321_290 := Aside0.mk (neg2 hg (Nat.ne_of_gt (blk_lt BK290.out))); replace BK290 := Aside0.mk (blk_below BK290.out hb); have NB291_321 := Aside0.mk (neg1 hg (Nat.ne_of_lt (blk_lt BK291.out))); have NB321_291 := Aside0.mk (neg2 hg (Nat.ne_of_gt (blk_lt BK291.out))); replace BK291 := Aside0.mk (blk_below BK291.out hb); have NB306_321 := Aside0.mk (neg1 hg (Nat.ne_of_lt (blk_lt BK306.out))); have NB321_306 := Aside0.mk (neg2 hg (Nat.ne_of_gt (blk_lt BK306.out))); replace BK306 := Aside0.mk (blk_below BK306.out hb); have NB310_321 := Aside0.mk (neg1 hg (Nat.ne_of_lt (blk_lt BK310.out))); have NB321_310 := Aside0.mk (neg2 hg (Nat.ne_of_gt (blk_lt BK310.out))); replace BK310 := Aside0.mk (blk_below BK310.out hb); have NB315_321 := Aside0.mk (neg1 hg (Nat.ne_of_lt (blk_lt BK315.out))); have NB321_315 := Aside0.mk (neg2 hg (Nat.ne_of_gt (blk_lt BK315.out))); replace BK315 := Aside0.mk (blk_below BK315.out hb); clear hb hbox hg; have hnb67 := NB321_290.out; have hnc67 := NB290_321.out; have hnb68 := NB321_291.out; have hnc68 := NB291_321.out; have hnb69 := NB321_306.out; have hnc69 := NB306_321.out; have hnb70 := NB321_310.out; have hnc70 := NB310_321.out; have hnb71 := NB321_315.out; have hnc71 := NB315_321.out; have hcz72_0 := bc0 BK321.out; have hcz72_1 := bc1 BK321.out; have hfz72_0 := blk_frozen BK321.out 0; have hfz72_1 := blk_frozen BK321.out 1; obtain ⟨Ao73, co73, eo73⟩ := Kd.R_slice HO319.out; subst eo73))
 go_cut [57] (fun v57 wc => ∃ (kq : Nat) (x57_25 : Bool), v57 = .bool x57_25 ∧ Aside0 (laws_FnExactOuterModule.j0 kq a2 t305 t320 x57_25 l0_0 a1_0 l1_1 t301 t302 t307 t311 t312 t316 t317 = some r) ∧ Aside0 (kq ≤ k) ∧ Aside0 (Kd.R (Kd.int .i64) 2 wc w.heap.size (fun k_ => some k_ ≠ ((.slice Ao63 t312.length co63) : Value).ownBlock ∧ some k_ ≠ ((.slice Ao73 t317.length co73) : Value).ownBlock) (.slice Ao43 t302.length co43) t302) ∧ Aside0 (Kd.S (Kd.slice 2 (Kd.int .i64)) 25 wc w.heap.size (fun k_ => some k_ ≠ ((.slice Ao43 t302.length co43) : Value).ownBlock ∧ some k_ ≠ ((.slice Ao63 t312.length co63) : Value).ownBlock ∧ some k_ ≠ ((.slice Ao73 t317.length co73) : Value).ownBlock) (.slice Ao49 t307.length co49) t307) ∧ Aside0 (Kd.R (Kd.int .i64) 2 wc w.heap.size (fun k_ => some k_ ≠ ((.slice Ao43 t302.length co43) : Value).ownBlock ∧ some k_ ≠ ((.slice Ao73 t317.length co73) : Value).ownBlock) (.slice Ao63 t312.length co63) t312) ∧ Aside0 (Kd.R (Kd.int .i64) 2 wc w.heap.size (fun k_ => some k_ ≠ ((.slice Ao43 t302.length co43) : Value).ownBlock ∧ some k_ ≠ ((.slice Ao63 t312.length co63) : Value).ownBlock) (.slice Ao73 t317.length co73) t317) ∧ Aside0 (wc.heap[gb290]? = some (.cells #[(.slice A0_0 l0_0.length c0_0)] 24 (0, 0))) ∧ Aside0 (wc.heap[gb291]? = some (.cells #[.int .i64 a1_0, (.slice A1_1 l1_1.length c1_1)] 27 (0, 0))) ∧ Aside0 (wc.heap[gb306]? = some (.cells #[.int .i64 t301, (.slice Ao43 t302.length co43)] 30 (0, 0))) ∧ Aside0 (wc.heap[gb310]? = some (.cells #[(.slice Ao49 t307.length co49)] 33 (0, 0))) ∧ Aside0 (wc.heap[gb315]? = some (.cells #[.int .i64 t311, (.slice Ao63 t312.length co63)] 30 (0, 0))) ∧ Aside0 (wc.heap[gb321]? = some (.cells #[.int .i64 t316, (.slice Ao73 t317.length co73)] 30 (0, 0))) ∧ Aside0 (Below w.heap.size w wc))
 case first =>
  have H := HC26.out
  clear HC26
  obtain ⟨t322, A74, H⟩ := bnd H
  try dsimp only at H
  by_cases c75 : t322 = true
  ·subst c75
   have H1 : (laws_FnExactOuterModule.j0 k a2 t305 t320 (t320 != t305) l0_0 a1_0 l1_1 t301 t302 t307 t311 t312 t316 t317) = some r := by rw [if_pos rfl] at H; exact H
   clear H
   have H := H1
   clear H1
   have H' := Aside0.mk H
   clear H
   have hnb76 := NB321_290.out
   have hnc76 := NB290_321.out
   have hnb77 := NB321_291.out
   have hnc77 := NB291_321.out
   have hnb78 := NB321_306.out
   have hnc78 := NB306_321.out
   have hnb79 := NB321_310.out
   have hnc79 := NB310_321.out
   have hnb80 := NB321_315.out
   have hnc80 := NB315_321.out
   have hcz81_0 := bc0 BK321.out
   have hcz81_1 := bc1 BK321.out
   have hfz81_0 := blk_frozen BK321.out 0
   have hfz81_1 := blk_frozen BK321.out 1
   have hnb82 := NB306_290.out
   have hnc82 := NB290_306.out
   have hnb83 := NB306_291.out
   have hnc83 := NB291_306.out
   have hnb84 := NB306_310.out
   have hnc84 := NB310_306.out
   have hnb85 := NB306_315.out
   have hnc85 := NB315_306.out
   have hcz86_0 := bc0 BK306.out
   have hcz86_1 := bc1 BK306.out
   have hfz86_0 := blk_frozen BK306.out 0
   have hfz86_1 := blk_frozen BK306.out 1
   go_wp2_with (((with_reducible refine gate_callee (f := 21) rfl ?_); refine goesL_ (some 51) rfl rfl Try.func21 (by kernel_rfl) rfl #[.agg #[.int .i64 t316, .slice Ao73 t317.length co73], .agg #[.int .i64 t301, .slice Ao43 t302.length co43]] rfl (by (simp only [List.map_toArray, List.map_cons, List.map_nil]); rfl) ?_; (with_reducible refine (laws_eqModule.calls k t316 _ _ t317 t301 _ _ t302 true _ ?side1 ?side2 ?side3 ?side4 A74.out).mono ?_); (case side1 => refine (Kd.R_reads' (e := 2) (base := w.heap.size) (ok := fun k_ => (((True ∧ some k_ ≠ (v299 : Value).ownBlock) ∧ some k_ ≠ (.slice Ao43 t302.length co43 : Value).ownBlock) ∧ some k_ ≠ (.slice Ao63 t312.length co63 : Value).ownBlock)) (n := t317.length) (c := co73) ?_).2.2; exact (by exact (Kd.R_mono (Kd.R_far (p := ⟨gb321, 1, none⟩) (Kd.R_far (p := ⟨gb321, 0, none⟩) (Kd.R_types HO319.out BK321.out (by decide)) (fun _ hk => hk.2) (.int .i64 t316)) (fun _ hk => hk.2) (.slice Ao73 t317.length co73)) (fun _ h_ => h_.1)))); (case side2 => exact (Kd.R_reads' HO319.out).2.1); (case side3 => refine (Kd.R_reads' (e := 2) (base := w.heap.size) (ok := fun k_ => ((some k_ ≠ (v299 : Value).ownBlock ∧ some k_ ≠ (.slice Ao63 t312.length co63 : Value).ownBlock) ∧ some k_ ≠ (.slice Ao73 t317.length co73 : Value).ownBlock)) (n := t302.length) (c := co43) ?_).2.2; exact (by exact (Kd.R_mono (Kd.R_far (p := ⟨gb321, 1, none⟩) (Kd.R_far (p := ⟨gb321, 0, none⟩) (Kd.R_types HO304.out BK321.out (by decide)) (fun _ hk => hk.2) (.int .i64 t316)) (fun _ hk => hk.2) (.slice Ao73 t317.length co73)) (fun _ h_ => h_.1)))); (case side4 => exact (Kd.R_reads' HO304.out).2.1); rintro e w87 ⟨rfl, hb⟩; refine ⟨_, rfl, ?_⟩; replace HO296 := Aside0.mk (Kd.S_below (by exact (Kd.S_mono (Kd.S_far (p := ⟨gb321, 1, none⟩) (Kd.S_far (p := ⟨gb321, 0, none⟩) (Kd.S_types HO296.out BK321.out (by decide)) (fun _ hk => hk.2) (.int .i64 t316)) (fun _ hk => hk.2) (.slice Ao73 t317.length co73)) (fun _ h_ => h_.1))) hb); replace HO300 := Aside0.mk (Kd.R_below (by exact (Kd.R_mono (Kd.R_far (p := ⟨gb321, 1, none⟩) (Kd.R_far (p := ⟨gb321, 0, none⟩) (Kd.R_types HO300.out BK321.out (by decide)) (fun _ hk => hk.2) (.int .i64 t316)) (fun _ hk => hk.2) (.slice Ao73 t317.length co73)) (fun _ h_ => h_.1))) hb); replace HO304 := Aside0.mk (Kd.R_below (by exact (Kd.R_mono (Kd.R_far (p := ⟨gb321, 1, none⟩) (Kd.R_far (p := ⟨gb321, 0, none⟩) (Kd.R_types HO304.out BK321.out (by decide)) (fun _ hk => hk.2) (.int .i64 t316)) (fun _ hk => hk.2) (.slice Ao73 t317.length co73)) (fun _ h_ => h_.1))) hb); replace HO309 := Aside0.mk (Kd.S_below (by exact (Kd.S_mono (Kd.S_far (p := ⟨gb321, 1, none⟩) (Kd.S_far (p := ⟨gb321, 0, none⟩) (Kd.S_types HO309.out BK321.out (by decide)) (fun _ hk => hk.2) (.int .i64 t316)) (fun _ hk => hk.2) (.slice Ao73 t317.length co73)) (fun _ h_ => h_.1))) hb); replace HO314 := Aside0.mk (Kd.R_below (by exact (Kd.R_mono (Kd.R_far (p := ⟨gb321, 1, none⟩) (Kd.R_far (p := ⟨gb321, 0, none⟩) (Kd.R_types HO314.out BK321.out (by decide)) (fun _ hk => hk.2) (.int .i64 t316)) (fun _ hk => hk.2) (.slice Ao73 t317.length co73)) (fun _ h_ => h_.1))) hb); replace HO319 := Aside0.mk (Kd.R_below (by exact (Kd.R_mono (Kd.R_far (p := ⟨gb321, 1, none⟩) (Kd.R_far (p := ⟨gb321, 0, none⟩) (Kd.R_types HO319.out BK321.out (by decide)) (fun _ hk => hk.2) (.int .i64 t316)) (fun _ hk => hk.2) (.slice Ao73 t317.length co73)) (fun _ h_ => h_.1))) hb); replace BK290 := Aside0.mk (blk_below (g := gb290) (o := .cells #[.slice A0_0 l0_0.length c0_0] 24 (0, 0)) (by refine blk_far ?_ NB290_321.out _; refine blk_far ?_ NB290_321.out _; exact BK290.out) hb); replace BK291 := Aside0.mk (blk_below (g := gb291) (o := .cells #[.int .i64 a1_0, .slice A1_1 l1_1.length c1_1] 27 (0, 0)) (by refine blk_far ?_ NB291_321.out _; refine blk_far ?_ NB291_321.out _; exact BK291.out) hb); replace BK306 := Aside0.mk (blk_below (g := gb306) (o := .cells #[.int .i64 t301, .slice Ao43 t302.length co43] 30 (0, 0)) (by refine blk_far ?_ NB306_321.out _; refine blk_far ?_ NB306_321.out _; exact BK306.out) hb); replace BK310 := Aside0.mk (blk_below (g := gb310) (o := .cells #[.slice Ao49 t307.length co49] 33 (0, 0)) (by refine blk_far ?_ NB310_321.out _; refine blk_far ?_ NB310_321.out _; exact BK310.out) hb); replace BK315 := Aside0.mk (blk_below (g := gb315) (o := .cells #[.int .i64 t311, .slice Ao63 t312.length co63] 30 (0, 0)) (by refine blk_far ?_ NB315_321.out _; refine blk_far ?_ NB315_321.out _; exact BK315.out) hb); replace BK321 := Aside0.mk (blk_below (g := gb321) (o := .cells #[.int .i64 t316, .slice Ao73 t317.length co73] 30 (0, 0)) (by refine blk_put (cs := #[.int .i64 t316, .slice none 0 0]) ?_ 1 _ rfl; refine blk_put (cs := #[.int .i64 0, .slice none 0 0]) ?_ 0 _ rfl; exact BK321.out) hb); replace HB := Aside0.mk (below_step (by repeat ((with_reducible first | exact HB.out | refine below_set ?_ GE321.out))) hb); clear hb))
   go_meet
   case rel => exact ⟨_, ((t320 != t305)), (by rfl), H', ⟨by omega⟩, ⟨by exact Kd.R_mono HO304.out (fun _ hk => ⟨hk.1.2, hk.2⟩)⟩, ⟨by exact Kd.S_mono HO309.out (fun _ hk => ⟨hk.1.1.2, ⟨hk.1.2, hk.2⟩⟩)⟩, ⟨by exact Kd.R_mono HO314.out (fun _ hk => ⟨hk.1.2, hk.2⟩)⟩, ⟨by exact Kd.R_mono HO319.out (fun _ hk => ⟨hk.1.2, hk.2⟩)⟩, ⟨by exact BK290.out⟩, ⟨by exact BK291.out⟩, ⟨by exact BK306.out⟩, ⟨by exact BK310.out⟩, ⟨by exact BK315.out⟩, ⟨by exact BK321.out⟩, ⟨by exact HB.out⟩⟩
  replace c75 := Bool.eq_false_iff.mpr c75
  subst c75
  have H1 : (laws_FnExactOuterModule.j0 k a2 t305 t320 true l0_0 a1_0 l1_1 t301 t302 t307 t311 t312 t316 t317) = some r := by rw [if_neg (show ¬ (false = true) by decide)] at H; exact H
  clear H
  have H := H1
  clear H1
  have H' := Aside0.mk H
  clear H
  have hnb88 := NB321_290.out
  have hnc88 := NB290_321.out
  have hnb89 := NB321_291.out
  have hnc89 := NB291_321.out
  have hnb90 := NB321_306.out
  have hnc90 := NB306_321.out
  have hnb91 := NB321_310.out
  have hnc91 := NB310_321.out
  have hnb92 := NB321_315.out
  have hnc92 := NB315_321.out
  have hcz93_0 := bc0 BK321.out
  have hcz93_1 := bc1 BK321.out
  have hfz93_0 := blk_frozen BK321.out 0
  have hfz93_1 := blk_frozen BK321.out 1
  have hnb94 := NB306_290.out
  have hnc94 := NB290_306.out
  have hnb95 := NB306_291.out
  have hnc95 := NB291_306.out
  have hnb96 := NB306_310.out
  have hnc96 := NB310_306.out
  have hnb97 := NB306_315.out
  have hnc97 := NB315_306.out
  have hcz98_0 := bc0 BK306.out
  have hcz98_1 := bc1 BK306.out
  have hfz98_0 := blk_frozen BK306.out 0
  have hfz98_1 := blk_frozen BK306.out 1
  go_wp2_with (((with_reducible refine gate_callee (f := 21) rfl ?_); refine goesL_ (some 51) rfl rfl Try.func21 (by kernel_rfl) rfl #[.agg #[.int .i64 t316, .slice Ao73 t317.length co73], .agg #[.int .i64 t301, .slice Ao43 t302.length co43]] rfl (by (simp only [List.map_toArray, List.map_cons, List.map_nil]); rfl) ?_; (with_reducible refine (laws_eqModule.calls k t316 _ _ t317 t301 _ _ t302 false _ ?side1 ?side2 ?side3 ?side4 A74.out).mono ?_); (case side1 => refine (Kd.R_reads' (e := 2) (base := w.heap.size) (ok := fun k_ => (((True ∧ some k_ ≠ (v299 : Value).ownBlock) ∧ some k_ ≠ (.slice Ao43 t302.length co43 : Value).ownBlock) ∧ some k_ ≠ (.slice Ao63 t312.length co63 : Value).ownBlock)) (n := t317.length) (c := co73) ?_).2.2; exact (by exact (Kd.R_mono (Kd.R_far (p := ⟨gb321, 1, none⟩) (Kd.R_far (p := ⟨gb321, 0, none⟩) (Kd.R_types HO319.out BK321.out (by decide)) (fun _ hk => hk.2) (.int .i64 t316)) (fun _ hk => hk.2) (.slice Ao73 t317.length co73)) (fun _ h_ => h_.1)))); (case side2 => exact (Kd.R_reads' HO319.out).2.1); (case side3 => refine (Kd.R_reads' (e := 2) (base := w.heap.size) (ok := fun k_ => ((some k_ ≠ (v299 : Value).ownBlock ∧ some k_ ≠ (.slice Ao63 t312.length co63 : Value).ownBlock) ∧ some k_ ≠ (.slice Ao73 t317.length co73 : Value).ownBlock)) (n := t302.length) (c := co43) ?_).2.2; exact (by exact (Kd.R_mono (Kd.R_far (p := ⟨gb321, 1, none⟩) (Kd.R_far (p := ⟨gb321, 0, none⟩) (Kd.R_types HO304.out BK321.out (by decide)) (fun _ hk => hk.2) (.int .i64 t316)) (fun _ hk => hk.2) (.slice Ao73 t317.length co73)) (fun _ h_ => h_.1)))); (case side4 => exact (Kd.R_reads' HO304.out).2.1); rintro e w99 ⟨rfl, hb⟩; refine ⟨_, rfl, ?_⟩; replace HO296 := Aside0.mk (Kd.S_below (by exact (Kd.S_mono (Kd.S_far (p := ⟨gb321, 1, none⟩) (Kd.S_far (p := ⟨gb321, 0, none⟩) (Kd.S_types HO296.out BK321.out (by decide)) (fun _ hk => hk.2) (.int .i64 t316)) (fun _ hk => hk.2) (.slice Ao73 t317.length co73)) (fun _ h_ => h_.1))) hb); replace HO300 := Aside0.mk (Kd.R_below (by exact (Kd.R_mono (Kd.R_far (p := ⟨gb321, 1, none⟩) (Kd.R_far (p := ⟨gb321, 0, none⟩) (Kd.R_types HO300.out BK321.out (by decide)) (fun _ hk => hk.2) (.int .i64 t316)) (fun _ hk => hk.2) (.slice Ao73 t317.length co73)) (fun _ h_ => h_.1))) hb); replace HO304 := Aside0.mk (Kd.R_below (by exact (Kd.R_mono (Kd.R_far (p := ⟨gb321, 1, none⟩) (Kd.R_far (p := ⟨gb321, 0, none⟩) (Kd.R_types HO304.out BK321.out (by decide)) (fun _ hk => hk.2) (.int .i64 t316)) (fun _ hk => hk.2) (.slice Ao73 t317.length co73)) (fun _ h_ => h_.1))) hb); replace HO309 := Aside0.mk (Kd.S_below (by exact (Kd.S_mono (Kd.S_far (p := ⟨gb321, 1, none⟩) (Kd.S_far (p := ⟨gb321, 0, none⟩) (Kd.S_types HO309.out BK321.out (by decide)) (fun _ hk => hk.2) (.int .i64 t316)) (fun _ hk => hk.2) (.slice Ao73 t317.length co73)) (fun _ h_ => h_.1))) hb); replace HO314 := Aside0.mk (Kd.R_below (by exact (Kd.R_mono (Kd.R_far (p := ⟨gb321, 1, none⟩) (Kd.R_far (p := ⟨gb321, 0, none⟩) (Kd.R_types HO314.out BK321.out (by decide)) (fun _ hk => hk.2) (.int .i64 t316)) (fun _ hk => hk.2) (.slice Ao73 t317.length co73)) (fun _ h_ => h_.1))) hb); replace HO319 := Aside0.mk (Kd.R_below (by exact (Kd.R_mono (Kd.R_far (p := ⟨gb321, 1, none⟩) (Kd.R_far (p := ⟨gb321, 0, none⟩) (Kd.R_types HO319.out BK321.out (by decide)) (fun _ hk => hk.2) (.int .i64 t316)) (fun _ hk => hk.2) (.slice Ao73 t317.length co73)) (fun _ h_ => h_.1))) hb); replace BK290 := Aside0.mk (blk_below (g := gb290) (o := .cells #[.slice A0_0 l0_0.length c0_0] 24 (0, 0)) (by refine blk_far ?_ NB290_321.out _; refine blk_far ?_ NB290_321.out _; exact BK290.out) hb); replace BK291 := Aside0.mk (blk_below (g := gb291) (o := .cells #[.int .i64 a1_0, .slice A1_1 l1_1.length c1_1] 27 (0, 0)) (by refine blk_far ?_ NB291_321.out _; refine blk_far ?_ NB291_321.out _; exact BK291.out) hb); replace BK306 := Aside0.mk (blk_below (g := gb306) (o := .cells #[.int .i64 t301, .slice Ao43 t302.length co43] 30 (0, 0)) (by refine blk_far ?_ NB306_321.out _; refine blk_far ?_ NB306_321.out _; exact BK306.out) hb); replace BK310 := Aside0.mk (blk_below (g := gb310) (o := .cells #[.slice Ao49 t307.length co49] 33 (0, 0)) (by refine blk_far ?_ NB310_321.out _; refine blk_far ?_ NB310_321.out _; exact BK310.out) hb); replace BK315 := Aside0.mk (blk_below (g := gb315) (o := .cells #[.int .i64 t311, .slice Ao63 t312.length co63] 30 (0, 0)) (by refine blk_far ?_ NB315_321.out _; refine blk_far ?_ NB315_321.out _; exact BK315.out) hb); replace BK321 := Aside0.mk (blk_below (g := gb321) (o := .cells #[.int .i64 t316, .slice Ao73 t317.length co73] 30 (0, 0)) (by refine blk_put (cs := #[.int .i64 t316, .slice none 0 0]) ?_ 1 _ rfl; refine blk_put (cs := #[.int .i64 0, .slice none 0 0]) ?_ 0 _ rfl; exact BK321.out) hb); replace HB := Aside0.mk (below_step (by repeat ((with_reducible first | exact HB.out | refine below_set ?_ GE321.out))) hb); clear hb))
  go_meet
  case rel => exact ⟨_, (true), (by rfl), H', ⟨by omega⟩, ⟨by exact Kd.R_mono HO304.out (fun _ hk => ⟨hk.1.2, hk.2⟩)⟩, ⟨by exact Kd.S_mono HO309.out (fun _ hk => ⟨hk.1.1.2, ⟨hk.1.2, hk.2⟩⟩)⟩, ⟨by exact Kd.R_mono HO314.out (fun _ hk => ⟨hk.1.2, hk.2⟩)⟩, ⟨by exact Kd.R_mono HO319.out (fun _ hk => ⟨hk.1.2, hk.2⟩)⟩, ⟨by exact BK290.out⟩, ⟨by exact BK291.out⟩, ⟨by exact BK306.out⟩, ⟨by exact BK310.out⟩, ⟨by exact BK315.out⟩, ⟨by exact BK321.out⟩, ⟨by exact HB.out⟩⟩
 case rest =>
  clear HC26 hcz46_0 hcz53_0 hcz55_0 hcz55_1 hcz62_0 hcz62_1 hcz64_0 hcz72_0 hcz72_1 hfz46_0 hfz53_0 hfz55_0 hfz55_1 hfz62_0 hfz62_1 hfz64_0 hfz72_0 hfz72_1
  obtain ⟨kq, x57_25, rfl, HA, HJ25, HO_307001, HO_311000, HO_316001, HO_322001, BK290, BK291, BK306, BK310, BK315, BK321, HB⟩ := hcut
  cases kq with
  | zero => exact absurd HA.out (by simp [laws_FnExactOuterModule.j0])
  | succ kj25 =>
   have H := HA.out
   clear HA
   simp only [laws_FnExactOuterModule.j0] at H
   by_cases c100 : x57_25 = true
   ·subst c100
    have H1 : (some false) = some r := by rw [if_pos rfl] at H; exact H
    clear H
    have H := H1
    clear H1
    obtain rfl := Option.some.inj H
    go_wp2
    go_ret
    exact ⟨by rfl, by exact HB.out⟩
   replace c100 := Bool.eq_false_iff.mpr c100
   subst c100
   have H1 : ((laws_toGroup.f kj25 l0_0).bind fun t323 => ((laws_eqGroup.f kj25 t307 t323).bind fun t326 => (if t326 = true then ((laws_toModule.f kj25 a1_0 l1_1).bind fun bt327 => ((laws_eqModule.f kj25 t311 t312 bt327.1 bt327.2).bind fun t331 => (if t331 = true then ((laws_markGroup.f kj25 t307 1).bind fun bt332 => ((laws_markModule.f kj25 t311 t312 bt332.1).bind fun bt334 => (if bt334.1 < 0 then (laws_FnExactOuterModule.j1 kj25 a2 t305 true l0_0 a1_0 l1_1 t301 t302 t316 t317) else ((laws_eqModule.f kj25 t316 t317 t301 t302).bind fun t336 => (if t336 = true then (laws_FnExactOuterModule.j1 kj25 a2 t305 (t320 != t305) l0_0 a1_0 l1_1 t301 t302 t316 t317) else (laws_FnExactOuterModule.j1 kj25 a2 t305 true l0_0 a1_0 l1_1 t301 t302 t316 t317)))))) else (some false)))) else (some false)))) = some r := by rw [if_neg (show ¬ (false = true) by decide)] at H; exact H
   clear H
   have H := H1
   clear H1
   obtain ⟨t323, A101, H⟩ := bnd H
   try dsimp only at H
   obtain ⟨t326, A102, H⟩ := bnd H
   try dsimp only at H
   by_cases c103 : t326 = true
   ·subst c103
    have H1 : ((laws_toModule.f kj25 a1_0 l1_1).bind fun bt327 => ((laws_eqModule.f kj25 t311 t312 bt327.1 bt327.2).bind fun t331 => (if t331 = true then ((laws_markGroup.f kj25 t307 1).bind fun bt332 => ((laws_markModule.f kj25 t311 t312 bt332.1).bind fun bt334 => (if bt334.1 < 0 then (laws_FnExactOuterModule.j1 kj25 a2 t305 true l0_0 a1_0 l1_1 t301 t302 t316 t317) else ((laws_eqModule.f kj25 t316 t317 t301 t302).bind fun t336 => (if t336 = true then (laws_FnExactOuterModule.j1 kj25 a2 t305 (t320 != t305) l0_0 a1_0 l1_1 t301 t302 t316 t317) else (laws_FnExactOuterModule.j1 kj25 a2 t305 true l0_0 a1_0 l1_1 t301 t302 t316 t317)))))) else (some false)))) = some r := by rw [if_pos rfl] at H; exact H
    clear H
    have H := H1
    clear H1
    obtain ⟨⟨t327, t328⟩, A104, H⟩ := bnd H
    try dsimp only at H
    obtain ⟨t331, A105, H⟩ := bnd H
    try dsimp only at H
    by_cases c106 : t331 = true
    ·subst c106
     have H1 : ((laws_markGroup.f kj25 t307 1).bind fun bt332 => ((laws_markModule.f kj25 t311 t312 bt332.1).bind fun bt334 => (if bt334.1 < 0 then (laws_FnExactOuterModule.j1 kj25 a2 t305 true l0_0 a1_0 l1_1 t301 t302 t316 t317) else ((laws_eqModule.f kj25 t316 t317 t301 t302).bind fun t336 => (if t336 = true then (laws_FnExactOuterModule.j1 kj25 a2 t305 (t320 != t305) l0_0 a1_0 l1_1 t301 t302 t316 t317) else (laws_FnExactOuterModule.j1 kj25 a2 t305 true l0_0 a1_0 l1_1 t301 t302 t316 t317)))))) = some r := by rw [if_pos rfl] at H; exact H
     clear H
     have H := H1
     clear H1
     obtain ⟨⟨t332, t333⟩, A107, H⟩ := bnd H
     try dsimp only at H
     obtain ⟨⟨t334, t335⟩, A108, H⟩ := bnd H
     try dsimp only at H
     have HC109 := Aside0.mk H
     clear H
     go_wp2
     replace HO_307001 := Aside0.mk (Kd.R_drew HO_307001.out); replace HO_311000 := Aside0.mk (Kd.S_drew HO_311000.out); replace HO_316001 := Aside0.mk (Kd.R_drew HO_316001.out); replace HO_322001 := Aside0.mk (Kd.R_drew HO_322001.out); replace BK290 := Aside0.mk (blk_drew BK290.out); replace BK291 := Aside0.mk (blk_drew BK291.out); replace BK306 := Aside0.mk (blk_drew BK306.out); replace BK310 := Aside0.mk (blk_drew BK310.out); replace BK315 := Aside0.mk (blk_drew BK315.out); replace BK321 := Aside0.mk (blk_drew BK321.out); replace HB := Aside0.mk (below_drew1 HB.out)
     refine start_ (n := 5) (S := fun w' => w'.cell? ⟨gb310, 0, none⟩ = some (.slice Ao49 t307.length co49) ∧ w'.cell? ⟨gb290, 0, none⟩ = some (.slice A0_0 l0_0.length c0_0)) (ds := []) #[false,false,false,false,false] (by kernel_rfl) rfl rfl ⟨(blk_cell BK310.out 0).trans rfl, (blk_cell BK290.out 0).trans rfl⟩ (fun hHeld => ?_)
     generalize wc.drew = w110 at HO_307001 HO_311000 HO_316001 HO_322001 BK290 BK291 BK306 BK310 BK315 BK321 HB hHeld ⊢
     refine take_ (i := 0) (N := some 58) (v := ?_) (a' := ?_) #[true,false,false,false,false] rfl rfl (by kernel_rfl) (fun _ _ _ h => h) (Or.inl ⟨by rfl, ?_⟩) hHeld ?_ ?_
     rotate_left
     ·rintro w' ⟨s0, s1⟩
      go_simp
      with_reducible rfl
     rotate_left
     ·simp only [Act.put, List.setIfInBounds_toArray, List.set_cons_zero, List.set_cons_succ, i64_w, i32_w]
      rfl
     refine take_ (i := 1) (N := some 59) (v := ?_) (a' := ?_) #[true,true,false,false,false] rfl rfl (by kernel_rfl) (fun _ _ _ h => h) (Or.inl ⟨by rfl, ?_⟩) hHeld ?_ ?_
     rotate_left
     ·rintro w' ⟨s0, s1⟩
      go_simp
      with_reducible rfl
     rotate_left
     ·simp only [Act.put, List.setIfInBounds_toArray, List.set_cons_zero, List.set_cons_succ, i64_w, i32_w]
      rfl
     refine one_ (i := 2) (N := some 60) #[true,true,true,false,false] rfl rfl (by kernel_rfl) (by decide) (fun K hK => ?_)
     refine goes_ Try.func18 (by kernel_rfl) rfl #[.agg #[.slice A0_0 l0_0.length c0_0]] (by rfl) rfl rfl (by (simp only [List.map_toArray, List.map_cons, List.map_nil]); rfl) ?_
     with_reducible refine (laws_toGroup.calls kj25 _ _ l0_0 t323 _ ?side1 ?side2 A101.out).mono ?_
     (case side1 => exact (Kd.C_below HR0_0.out HB.out))
     (case side2 => exact HC0_0.out)
     rintro e w111 ⟨v324, rfl, ho0, hb⟩
     refine ⟨_, rfl, ?_⟩
     have HO325 := Aside0.mk (Kd.S_lower (Kd.S_new' (Kd.S_new' (Kd.S_new' (Kd.S_new' ho0 (Kd.R_lt HO_307001.out)) (Kd.S_lt HO_311000.out)) (Kd.R_lt HO_316001.out)) (Kd.R_lt HO_322001.out)) (below_size HB.out)); replace HO_307001 := Aside0.mk (Kd.R_below HO_307001.out hb); replace HO_311000 := Aside0.mk (Kd.S_elder' HO_311000.out (Kd.S_base ho0) hb); replace HO_316001 := Aside0.mk (Kd.R_below HO_316001.out hb); replace HO_322001 := Aside0.mk (Kd.R_below HO_322001.out hb); replace BK290 := Aside0.mk (blk_below BK290.out hb); replace BK291 := Aside0.mk (blk_below BK291.out hb); replace BK306 := Aside0.mk (blk_below BK306.out hb); replace BK310 := Aside0.mk (blk_below BK310.out hb); replace BK315 := Aside0.mk (blk_below BK315.out hb); replace BK321 := Aside0.mk (blk_below BK321.out hb); replace HB := Aside0.mk (below_step HB.out hb)
     clear hb
     clear ho0
     obtain ⟨Ao112, co112, eo112⟩ := Kd.S_slice HO325.out
     (subst eo112)
     refine hK.out _ _ ⟨(blk_cell BK310.out 0).trans rfl, (blk_cell BK290.out 0).trans rfl⟩ (fun hHeld => ?_)
     clear hK K
     refine norm_ (a' := ?_) ?_ ?_
     rotate_left
     ·show Act.put _ (some 60) _ = _
      simp only [Act.put, List.setIfInBounds_toArray, List.set_cons_zero, List.set_cons_succ, i64_w, i32_w]
      rfl
     refine one_ (i := 3) (N := some 61) #[true,true,true,true,false] rfl rfl (by kernel_rfl) (by decide) (fun K hK => ?_)
     refine goes_ Try.func22 (by kernel_rfl) rfl #[.agg #[.slice Ao49 t307.length co49], .agg #[.slice Ao112 t323.length co112]] (by rfl) rfl rfl (by (simp only [List.map_toArray, List.map_cons, List.map_nil]); rfl) ?_
     with_reducible refine (laws_eqGroup.calls kj25 _ _ t307 _ _ t323 true _ ?side1 ?side2 ?side3 ?side4 A102.out).mono ?_
     (case side1 => repeat (exact (Kd.S_reads' HO_311000.out).2.2))
     (case side2 => exact (Kd.S_reads' HO_311000.out).2.1)
     (case side3 => repeat (exact (Kd.S_reads' HO325.out).2.2))
     (case side4 => exact (Kd.S_reads' HO325.out).2.1)
     rintro e w113 ⟨rfl, hb⟩
     refine ⟨_, rfl, ?_⟩
     replace HO_307001 := Aside0.mk (Kd.R_below HO_307001.out hb); replace HO_311000 := Aside0.mk (Kd.S_below HO_311000.out hb); replace HO_316001 := Aside0.mk (Kd.R_below HO_316001.out hb); replace HO_322001 := Aside0.mk (Kd.R_below HO_322001.out hb); replace HO325 := Aside0.mk (Kd.S_below HO325.out hb); replace BK290 := Aside0.mk (blk_below BK290.out hb); replace BK291 := Aside0.mk (blk_below BK291.out hb); replace BK306 := Aside0.mk (blk_below BK306.out hb); replace BK310 := Aside0.mk (blk_below BK310.out hb); replace BK315 := Aside0.mk (blk_below BK315.out hb); replace BK321 := Aside0.mk (blk_below BK321.out hb); replace HB := Aside0.mk (below_step HB.out hb)
     clear hb
     refine hK.out _ _ ⟨(blk_cell BK310.out 0).trans rfl, (blk_cell BK290.out 0).trans rfl⟩ (fun hHeld => ?_)
     clear hK K
     refine norm_ (a' := ?_) ?_ ?_
     rotate_left
     ·show Act.put _ (some 61) _ = _
      simp only [Act.put, List.setIfInBounds_toArray, List.set_cons_zero, List.set_cons_succ, i64_w, i32_w]
      rfl
     refine pure_ (i := 4) (N := some 62) (v := ?_) (a' := ?_) #[true,true,true,true,true] rfl rfl (by kernel_rfl) (fun _ _ _ h => h) (Or.inl ⟨by rfl, ?_⟩) ?_ ?_
     rotate_left
     ·intro w'
      go_simp
      with_reducible rfl
     rotate_left
     ·simp only [Act.put, List.setIfInBounds_toArray, List.set_cons_zero, List.set_cons_succ, i64_w, i32_w]
      rfl
     refine done_ (by kernel_rfl) ?_
     go_wp2
     replace HO_307001 := Aside0.mk (Kd.R_drew HO_307001.out); replace HO_311000 := Aside0.mk (Kd.S_drew HO_311000.out); replace HO_316001 := Aside0.mk (Kd.R_drew HO_316001.out); replace HO_322001 := Aside0.mk (Kd.R_drew HO_322001.out); replace HO325 := Aside0.mk (Kd.S_drew HO325.out); replace BK290 := Aside0.mk (blk_drew BK290.out); replace BK291 := Aside0.mk (blk_drew BK291.out); replace BK306 := Aside0.mk (blk_drew BK306.out); replace BK310 := Aside0.mk (blk_drew BK310.out); replace BK315 := Aside0.mk (blk_drew BK315.out); replace BK321 := Aside0.mk (blk_drew BK321.out); replace HB := Aside0.mk (below_drew1 HB.out)
     refine start_ (n := 5) (S := fun w' => w'.cell? ⟨gb315, 0, none⟩ = some (.int .i64 t311) ∧ w'.cell? ⟨gb315, 1, none⟩ = some (.slice Ao63 t312.length co63) ∧ w'.cell? ⟨gb291, 0, none⟩ = some (.int .i64 a1_0) ∧ w'.cell? ⟨gb291, 1, none⟩ = some (.slice A1_1 l1_1.length c1_1)) (ds := []) #[false,false,false,false,false] (by kernel_rfl) rfl rfl ⟨(blk_cell BK315.out 0).trans rfl, (blk_cell BK315.out 1).trans rfl, (blk_cell BK291.out 0).trans rfl, (blk_cell BK291.out 1).trans rfl⟩ (fun hHeld => ?_)
     generalize w113.drew = w114 at HO_307001 HO_311000 HO_316001 HO_322001 HO325 BK290 BK291 BK306 BK310 BK315 BK321 HB hHeld ⊢
     refine take_ (i := 0) (N := some 63) (v := ?_) (a' := ?_) #[true,false,false,false,false] rfl rfl (by kernel_rfl) (fun _ _ _ h => h) (Or.inl ⟨by rfl, ?_⟩) hHeld ?_ ?_
     rotate_left
     ·rintro w' ⟨s0, s1, s2, s3⟩
      go_simp
      with_reducible rfl
     rotate_left
     ·simp only [Act.put, List.setIfInBounds_toArray, List.set_cons_zero, List.set_cons_succ, i64_w, i32_w]
      rfl
     refine take_ (i := 1) (N := some 64) (v := ?_) (a' := ?_) #[true,true,false,false,false] rfl rfl (by kernel_rfl) (fun _ _ _ h => h) (Or.inl ⟨by rfl, ?_⟩) hHeld ?_ ?_
     rotate_left
     ·rintro w' ⟨s0, s1, s2, s3⟩
      go_simp
      with_reducible rfl
     rotate_left
     ·simp only [Act.put, List.setIfInBounds_toArray, List.set_cons_zero, List.set_cons_succ, i64_w, i32_w]
      rfl
     refine one_ (i := 2) (N := some 65) #[true,true,true,false,false] rfl rfl (by kernel_rfl) (by decide) (fun K hK => ?_)
     refine goes_ Try.func19 (by kernel_rfl) rfl #[.agg #[.int .i64 a1_0, .slice A1_1 l1_1.length c1_1]] (by rfl) rfl rfl (by (simp only [List.map_toArray, List.map_cons, List.map_nil]); rfl) ?_
     with_reducible refine (laws_toModule.calls kj25 a1_0 _ _ l1_1 t327 t328 _ ?side1 ?side2 A104.out).mono ?_
     (case side1 => exact (Kd.C_below HR1_1.out HB.out))
     (case side2 => exact HC1_1.out)
     rintro e w115 ⟨v329, rfl, ho0, hb⟩
     refine ⟨_, rfl, ?_⟩
     replace HO_311000 := Aside0.mk (Kd.S_elder' HO_311000.out (Kd.R_base ho0) hb); replace HO325 := Aside0.mk (Kd.S_elder' HO325.out (Kd.R_base ho0) hb); have HO330 := Aside0.mk (Kd.R_lower (Kd.R_new' (Kd.R_new' (Kd.R_new' ho0 (Kd.R_lt HO_307001.out)) (Kd.R_lt HO_316001.out)) (Kd.R_lt HO_322001.out)) (below_size HB.out)); replace HO_307001 := Aside0.mk (Kd.R_elder' HO_307001.out (Kd.R_base ho0) hb); replace HO_316001 := Aside0.mk (Kd.R_elder' HO_316001.out (Kd.R_base ho0) hb); replace HO_322001 := Aside0.mk (Kd.R_elder' HO_322001.out (Kd.R_base ho0) hb); replace BK290 := Aside0.mk (blk_below BK290.out hb); replace BK291 := Aside0.mk (blk_below BK291.out hb); replace BK306 := Aside0.mk (blk_below BK306.out hb); replace BK310 := Aside0.mk (blk_below BK310.out hb); replace BK315 := Aside0.mk (blk_below BK315.out hb); replace BK321 := Aside0.mk (blk_below BK321.out hb); replace HB := Aside0.mk (below_step HB.out hb)
     clear hb
     clear ho0
     obtain ⟨Ao116, co116, eo116⟩ := Kd.R_slice HO330.out
     (subst eo116)
     refine hK.out _ _ ⟨(blk_cell BK315.out 0).trans rfl, (blk_cell BK315.out 1).trans rfl, (blk_cell BK291.out 0).trans rfl, (blk_cell BK291.out 1).trans rfl⟩ (fun hHeld => ?_)
     clear hK K
     refine norm_ (a' := ?_) ?_ ?_
     rotate_left
     ·show Act.put _ (some 65) _ = _
      simp only [Act.put, List.setIfInBounds_toArray, List.set_cons_zero, List.set_cons_succ, i64_w, i32_w]
      rfl
     refine one_ (i := 3) (N := some 66) #[true,true,true,true,false] rfl rfl (by kernel_rfl) (by decide) (fun K hK => ?_)
     refine goes_ Try.func21 (by kernel_rfl) rfl #[.agg #[.int .i64 t311, .slice Ao63 t312.length co63], .agg #[.int .i64 t327, .slice Ao116 t328.length co116]] (by rfl) rfl rfl (by (simp only [List.map_toArray, List.map_cons, List.map_nil]); rfl) ?_
     with_reducible refine (laws_eqModule.calls kj25 t311 _ _ t312 t327 _ _ t328 true _ ?side1 ?side2 ?side3 ?side4 A105.out).mono ?_
     (case side1 => repeat (exact (Kd.R_reads' HO_316001.out).2.2))
     (case side2 => exact (Kd.R_reads' HO_316001.out).2.1)
     (case side3 => repeat (exact (Kd.R_reads' HO330.out).2.2))
     (case side4 => exact (Kd.R_reads' HO330.out).2.1)
     rintro e w117 ⟨rfl, hb⟩
     refine ⟨_, rfl, ?_⟩
     replace HO_307001 := Aside0.mk (Kd.R_below HO_307001.out hb); replace HO_311000 := Aside0.mk (Kd.S_below HO_311000.out hb); replace HO_316001 := Aside0.mk (Kd.R_below HO_316001.out hb); replace HO_322001 := Aside0.mk (Kd.R_below HO_322001.out hb); replace HO325 := Aside0.mk (Kd.S_below HO325.out hb); replace HO330 := Aside0.mk (Kd.R_below HO330.out hb); replace BK290 := Aside0.mk (blk_below BK290.out hb); replace BK291 := Aside0.mk (blk_below BK291.out hb); replace BK306 := Aside0.mk (blk_below BK306.out hb); replace BK310 := Aside0.mk (blk_below BK310.out hb); replace BK315 := Aside0.mk (blk_below BK315.out hb); replace BK321 := Aside0.mk (blk_below BK321.out hb); replace HB := Aside0.mk (below_step HB.out hb)
     clear hb
     refine hK.out _ _ ⟨(blk_cell BK315.out 0).trans rfl, (blk_cell BK315.out 1).trans rfl, (blk_cell BK291.out 0).trans rfl, (blk_cell BK291.out 1).trans rfl⟩ (fun hHeld => ?_)
     clear hK K
     refine norm_ (a' := ?_) ?_ ?_
     rotate_left
     ·show Act.put _ (some 66) _ = _
      simp only [Act.put, List.setIfInBounds_toArray, List.set_cons_zero, List.set_cons_succ, i64_w, i32_w]
      rfl
     refine pure_ (i := 4) (N := some 67) (v := ?_) (a' := ?_) #[true,true,true,true,true] rfl rfl (by kernel_rfl) (fun _ _ _ h => h) (Or.inl ⟨by rfl, ?_⟩) ?_ ?_
     rotate_left
     ·intro w'
      go_simp
      with_reducible rfl
     rotate_left
     ·simp only [Act.put, List.setIfInBounds_toArray, List.set_cons_zero, List.set_cons_succ, i64_w, i32_w]
      rfl
     refine done_ (by kernel_rfl) ?_
     have hnb118 := NB310_290.out
     have hnc118 := NB290_310.out
     have hnb119 := NB310_291.out
     have hnc119 := NB291_310.out
     have hnb120 := NB310_306.out
     have hnc120 := NB306_310.out
     have hnb121 := NB310_315.out
     have hnc121 := NB315_310.out
     have hnb122 := NB310_321.out
     have hnc122 := NB321_310.out
     have hcz123_0 := bc0 BK310.out
     have hfz123_0 := blk_frozen BK310.out 0
     go_upto_region 21 with (first | ((with_reducible refine gate_callee (f := 23) rfl ?_); refine goesL_ (some 70) rfl rfl Try.func23 (by kernel_rfl) rfl #[.agg #[.slice Ao49 t307.length co49], .int .i64 1] rfl (by (simp only [List.map_toArray, List.map_cons, List.map_nil]); rfl) ?_; (with_reducible refine (laws_markGroup.calls kj25 (fun k_ => ((((some k_ ≠ (.slice Ao43 t302.length co43 : Value).ownBlock ∧ (some k_ ≠ (.slice Ao63 t312.length co63 : Value).ownBlock ∧ some k_ ≠ (.slice Ao73 t317.length co73 : Value).ownBlock)) ∧ some k_ ≠ (.slice Ao112 t323.length co112 : Value).ownBlock) ∧ some k_ ≠ (.slice Ao116 t328.length co116 : Value).ownBlock)) ∧ ∃ q_, q_ ∈ (25 :: ((Kd.slice 2 (Kd.int .i64))).E) ∧ ∃ cells_, w117.heap[k_]? = some (.cells cells_ q_ (0, 0))) (.slice Ao49 t307.length co49) t307 1 t332 t333 w _ ?side1 ?side2 A107.out).mono ?_); (case side1 => exact HB.out); (case side2 => exact Kd.S_mono (Kd.S_bound (HO_311000.out)) (fun k_ h_ => ⟨h_.1, h_.2.2.2⟩)); rintro e w124 ⟨rfl, hy0, hb, hkp⟩; refine ⟨_, rfl, ?_⟩; replace HO_307001 := Aside0.mk (Kd.R_mono (ok' := fun k_ => some k_ ≠ (.slice Ao63 t312.length co63 : Value).ownBlock ∧ some k_ ≠ (.slice Ao73 t317.length co73 : Value).ownBlock ∧ some k_ ≠ (.slice Ao116 t328.length co116 : Value).ownBlock) (Go.Proofs.YtkpcogaahgfmcaaX.R_kept_off rfl (HO_307001.out) hkp (fun k_ e_ => e_.1.1.1.1)) (fun k_ hk_ => ⟨hk_.1.1.1, hk_.1.1.2, hk_.1.2⟩)); replace HO_311000 := Aside0.mk (Kd.S_mono hy0 (fun k_ h_ => h_.1)); replace HO_316001 := Aside0.mk (Kd.R_mono (ok' := fun k_ => some k_ ≠ (.slice Ao43 t302.length co43 : Value).ownBlock ∧ some k_ ≠ (.slice Ao73 t317.length co73 : Value).ownBlock ∧ some k_ ≠ (.slice Ao116 t328.length co116 : Value).ownBlock) (Go.Proofs.YtkpcogaahgfmcaaX.R_kept_off rfl (HO_316001.out) hkp (fun k_ e_ => e_.1.1.1.2.1)) (fun k_ hk_ => ⟨hk_.1.1.1, hk_.1.1.2, hk_.1.2⟩)); replace HO_322001 := Aside0.mk (Kd.R_mono (ok' := fun k_ => some k_ ≠ (.slice Ao43 t302.length co43 : Value).ownBlock ∧ some k_ ≠ (.slice Ao63 t312.length co63 : Value).ownBlock ∧ some k_ ≠ (.slice Ao116 t328.length co116 : Value).ownBlock) (Go.Proofs.YtkpcogaahgfmcaaX.R_kept_off rfl (HO_322001.out) hkp (fun k_ e_ => e_.1.1.1.2.2)) (fun k_ hk_ => ⟨hk_.1.1.1, hk_.1.1.2, hk_.1.2⟩)); replace BK290 := Aside0.mk (blk_kept BK290.out hkp (fun hs_ => Go.Proofs.YtkpcogaahgfmcaaX.S_not_blk hs_.2 BK290.out (by decide))); replace BK291 := Aside0.mk (blk_kept BK291.out hkp (fun hs_ => Go.Proofs.YtkpcogaahgfmcaaX.S_not_blk hs_.2 BK291.out (by decide))); replace BK306 := Aside0.mk (blk_kept BK306.out hkp (fun hs_ => Go.Proofs.YtkpcogaahgfmcaaX.S_not_blk hs_.2 BK306.out (by decide))); replace BK310 := Aside0.mk (blk_kept BK310.out hkp (fun hs_ => Go.Proofs.YtkpcogaahgfmcaaX.S_not_blk hs_.2 BK310.out (by decide))); replace BK315 := Aside0.mk (blk_kept BK315.out hkp (fun hs_ => Go.Proofs.YtkpcogaahgfmcaaX.S_not_blk hs_.2 BK315.out (by decide))); replace BK321 := Aside0.mk (blk_kept BK321.out hkp (fun hs_ => Go.Proofs.YtkpcogaahgfmcaaX.S_not_blk hs_.2 BK321.out (by decide))); replace HO330 := Aside0.mk (Kd.R_mono (ok' := fun k_ => some k_ ≠ (.slice Ao43 t302.length co43 : Value).ownBlock ∧ some k_ ≠ (.slice Ao63 t312.length co63 : Value).ownBlock ∧ some k_ ≠ (.slice Ao73 t317.length co73 : Value).ownBlock) (Go.Proofs.YtkpcogaahgfmcaaX.R_kept_off rfl (HO330.out) hkp (fun k_ e_ => e_.1.2)) (fun k_ hk_ => ⟨hk_.1.1.1.2, hk_.1.1.2, hk_.1.2⟩)); replace HB := Aside0.mk (hb); clear HO325; clear hb hkp hy0; have hnb125 := NB315_290.out; have hnc125 := NB290_315.out; have hnb126 := NB315_291.out; have hnc126 := NB291_315.out; have hnb127 := NB315_306.out; have hnc127 := NB306_315.out; have hnb128 := NB315_321.out; have hnc128 := NB321_315.out; have hcz129_0 := bc0 BK315.out; have hcz129_1 := bc1 BK315.out; have hfz129_0 := blk_frozen BK315.out 0; have hfz129_1 := blk_frozen BK315.out 1) | ((with_reducible refine gate_callee (f := 24) rfl ?_); refine goesL_ (some 73) rfl rfl Try.func24 (by kernel_rfl) rfl #[.agg #[.int .i64 t311, .slice Ao63 t312.length co63], .int .i64 t332] rfl (by (simp only [List.map_toArray, List.map_cons, List.map_nil]); rfl) ?_; (with_reducible refine (laws_markModule.calls kj25 t311 (fun k_ => some k_ = (.slice Ao63 t312.length co63 : Value).ownBlock) (.slice Ao63 t312.length co63) t312 t332 t334 t335 w _ ?side1 ?side2 A108.out).mono ?_); (case side1 => exact HB.out); (case side2 => exact Kd.R_tight rfl HO_316001.out); rintro e w130 ⟨rfl, hy0, hb, hkp⟩; refine ⟨_, rfl, ?_⟩; replace HO_307001 := Aside0.mk (Kd.R_mono (ok' := fun k_ => some k_ ≠ (.slice Ao63 t312.length co63 : Value).ownBlock ∧ some k_ ≠ (.slice Ao73 t317.length co73 : Value).ownBlock ∧ some k_ ≠ (.slice Ao116 t328.length co116 : Value).ownBlock) (Kd.R_keptB (HO_307001.out) hkp (fun k_ hk_ hs_ => (hk_.1) hs_)) (fun k_ hk_ => ⟨hk_.1.1, hk_.1.2.1, hk_.1.2.2⟩)); replace HO_311000 := Aside0.mk (Kd.S_mono (ok' := fun k_ => some k_ ≠ (.slice Ao43 t302.length co43 : Value).ownBlock ∧ some k_ ≠ (.slice Ao63 t312.length co63 : Value).ownBlock ∧ some k_ ≠ (.slice Ao73 t317.length co73 : Value).ownBlock ∧ some k_ ≠ (.slice Ao116 t328.length co116 : Value).ownBlock) (Kd.S_keptB (HO_311000.out) hkp (fun k_ hk_ hs_ => (hk_.1.1.2.1) hs_)) (fun k_ hk_ => ⟨hk_.1.1.1.1, hk_.1.1.1.2.1, hk_.1.1.1.2.2, hk_.1.2⟩)); replace HO_322001 := Aside0.mk (Kd.R_mono (ok' := fun k_ => some k_ ≠ (.slice Ao43 t302.length co43 : Value).ownBlock ∧ some k_ ≠ (.slice Ao63 t312.length co63 : Value).ownBlock ∧ some k_ ≠ (.slice Ao116 t328.length co116 : Value).ownBlock) (Kd.R_keptB (HO_322001.out) hkp (fun k_ hk_ hs_ => (hk_.2.1) hs_)) (fun k_ hk_ => ⟨hk_.1.1, hk_.1.2.1, hk_.1.2.2⟩)); replace BK290 := Aside0.mk (blk_kept BK290.out hkp (fun hs_ => (fun e_ => (Kd.R_ne HO_316001.out BK290.out (by decide)) e_) hs_)); replace BK291 := Aside0.mk (blk_kept BK291.out hkp (fun hs_ => (fun e_ => (Kd.R_ne HO_316001.out BK291.out (by decide)) e_) hs_)); replace BK306 := Aside0.mk (blk_kept BK306.out hkp (fun hs_ => (fun e_ => (Kd.R_ne HO_316001.out BK306.out (by decide)) e_) hs_)); replace BK310 := Aside0.mk (blk_kept BK310.out hkp (fun hs_ => (fun e_ => (Kd.R_ne HO_316001.out BK310.out (by decide)) e_) hs_)); replace BK315 := Aside0.mk (blk_kept BK315.out hkp (fun hs_ => (fun e_ => (Kd.R_ne HO_316001.out BK315.out (by decide)) e_) hs_)); replace BK321 := Aside0.mk (blk_kept BK321.out hkp (fun hs_ => (fun e_ => (Kd.R_ne HO_316001.out BK321.out (by decide)) e_) hs_)); replace HO_316001 := Aside0.mk (Kd.R_reok rfl hy0 (fun k_ e_ => HO_316001.out.1 k_ e_)); replace HO330 := Aside0.mk (Kd.R_mono (ok' := fun k_ => some k_ ≠ (.slice Ao43 t302.length co43 : Value).ownBlock ∧ some k_ ≠ (.slice Ao63 t312.length co63 : Value).ownBlock ∧ some k_ ≠ (.slice Ao73 t317.length co73 : Value).ownBlock) (Kd.R_keptB (HO330.out) hkp (fun k_ hk_ hs_ => (hk_.2.1) hs_)) (fun k_ hk_ => ⟨hk_.1.1, hk_.1.2.1, hk_.1.2.2⟩)); replace HB := Aside0.mk (hb); clear hb hkp hy0))
     go_cut [86] (fun v86 wc => ∃ (kq : Nat) (x86_108 : Bool), v86 = .bool x86_108 ∧ Aside0 (laws_FnExactOuterModule.j1 kq a2 t305 x86_108 l0_0 a1_0 l1_1 t301 t302 t316 t317 = some r) ∧ Aside0 (kq ≤ kj25) ∧ Aside0 (Kd.R (Kd.int .i64) 2 wc w.heap.size (fun k_ => some k_ ≠ ((.slice Ao63 t312.length co63) : Value).ownBlock ∧ some k_ ≠ ((.slice Ao73 t317.length co73) : Value).ownBlock) (.slice Ao43 t302.length co43) t302) ∧ Aside0 (Kd.S (Kd.slice 2 (Kd.int .i64)) 25 wc w.heap.size (fun k_ => some k_ ≠ ((.slice Ao43 t302.length co43) : Value).ownBlock ∧ some k_ ≠ ((.slice Ao63 t312.length co63) : Value).ownBlock ∧ some k_ ≠ ((.slice Ao73 t317.length co73) : Value).ownBlock) (.slice Ao49 t307.length co49) t333) ∧ Aside0 (Kd.R (Kd.int .i64) 2 wc w.heap.size (fun k_ => some k_ ≠ ((.slice Ao43 t302.length co43) : Value).ownBlock ∧ some k_ ≠ ((.slice Ao73 t317.length co73) : Value).ownBlock) (.slice Ao63 t312.length co63) t335) ∧ Aside0 (Kd.R (Kd.int .i64) 2 wc w.heap.size (fun k_ => some k_ ≠ ((.slice Ao43 t302.length co43) : Value).ownBlock ∧ some k_ ≠ ((.slice Ao63 t312.length co63) : Value).ownBlock) (.slice Ao73 t317.length co73) t317) ∧ Aside0 (wc.heap[gb290]? = some (.cells #[(.slice A0_0 l0_0.length c0_0)] 24 (0, 0))) ∧ Aside0 (wc.heap[gb291]? = some (.cells #[.int .i64 a1_0, (.slice A1_1 l1_1.length c1_1)] 27 (0, 0))) ∧ Aside0 (wc.heap[gb306]? = some (.cells #[.int .i64 t301, (.slice Ao43 t302.length co43)] 30 (0, 0))) ∧ Aside0 (wc.heap[gb310]? = some (.cells #[(.slice Ao49 t307.length co49)] 33 (0, 0))) ∧ Aside0 (wc.heap[gb315]? = some (.cells #[.int .i64 t311, (.slice Ao63 t312.length co63)] 30 (0, 0))) ∧ Aside0 (wc.heap[gb321]? = some (.cells #[.int .i64 t316, (.slice Ao73 t317.length co73)] 30 (0, 0))) ∧ Aside0 (Below w.heap.size w wc))
     case first =>
      have H := HC109.out
      clear HC109
      by_cases c131 : t334 < 0
      ·rw [if_pos c131] at H
       have c131b0 : decide (t334 < 0) = true := decide_eq_true c131
       clear c131
       have H' := Aside0.mk H
       clear H
       go_wp2
       go_meet
       case rel => exact ⟨_, (true), (by rfl), H', ⟨by have := HJ25.out; omega⟩, ⟨by exact Kd.R_mono HO_307001.out (fun _ hk => ⟨hk.1, hk.2.1⟩)⟩, ⟨by exact Kd.S_mono HO_311000.out (fun _ hk => ⟨hk.1, ⟨hk.2.1, hk.2.2.1⟩⟩)⟩, ⟨by exact Kd.R_mono HO_316001.out (fun _ hk => ⟨hk.1, hk.2.1⟩)⟩, ⟨by exact Kd.R_mono HO_322001.out (fun _ hk => ⟨hk.1, hk.2.1⟩)⟩, ⟨by exact BK290.out⟩, ⟨by exact BK291.out⟩, ⟨by exact BK306.out⟩, ⟨by exact BK310.out⟩, ⟨by exact BK315.out⟩, ⟨by exact BK321.out⟩, ⟨by exact HB.out⟩⟩
      rw [if_neg c131] at H
      have c131b0 : decide (t334 < 0) = false := decide_eq_false c131
      clear c131
      obtain ⟨t336, A132, H⟩ := bnd H
      try dsimp only at H
      by_cases c133 : t336 = true
      ·subst c133
       have H1 : (laws_FnExactOuterModule.j1 kj25 a2 t305 (t320 != t305) l0_0 a1_0 l1_1 t301 t302 t316 t317) = some r := by rw [if_pos rfl] at H; exact H
       clear H
       have H := H1
       clear H1
       have H' := Aside0.mk H
       clear H
       have hnb134 := NB321_290.out
       have hnc134 := NB290_321.out
       have hnb135 := NB321_291.out
       have hnc135 := NB291_321.out
       have hnb136 := NB321_306.out
       have hnc136 := NB306_321.out
       have hnb137 := NB321_310.out
       have hnc137 := NB310_321.out
       have hnb138 := NB321_315.out
       have hnc138 := NB315_321.out
       have hcz139_0 := bc0 BK321.out
       have hcz139_1 := bc1 BK321.out
       have hfz139_0 := blk_frozen BK321.out 0
       have hfz139_1 := blk_frozen BK321.out 1
       have hnb140 := NB306_290.out
       have hnc140 := NB290_306.out
       have hnb141 := NB306_291.out
       have hnc141 := NB291_306.out
       have hnb142 := NB306_310.out
       have hnc142 := NB310_306.out
       have hnb143 := NB306_315.out
       have hnc143 := NB315_306.out
       have hcz144_0 := bc0 BK306.out
       have hcz144_1 := bc1 BK306.out
       have hfz144_0 := blk_frozen BK306.out 0
       have hfz144_1 := blk_frozen BK306.out 1
       go_wp2_with ((go_at_call 21; (with_reducible refine (laws_eqModule.calls kj25 t316 _ _ t317 t301 _ _ t302 true _ ?side1 ?side2 ?side3 ?side4 A132.out).mono ?_); (case side1 => repeat (exact (Kd.R_reads' HO_322001.out).2.2)); (case side2 => exact (Kd.R_reads' HO_322001.out).2.1); (case side3 => repeat (exact (Kd.R_reads' HO_307001.out).2.2)); (case side4 => exact (Kd.R_reads' HO_307001.out).2.1); rintro e w145 ⟨rfl, hb⟩; replace HO_307001 := Aside0.mk (Kd.R_below HO_307001.out hb); replace HO_311000 := Aside0.mk (Kd.S_below HO_311000.out hb); replace HO_316001 := Aside0.mk (Kd.R_below HO_316001.out hb); replace HO_322001 := Aside0.mk (Kd.R_below HO_322001.out hb); replace HO330 := Aside0.mk (Kd.R_below HO330.out hb); replace BK290 := Aside0.mk (blk_below BK290.out hb); replace BK291 := Aside0.mk (blk_below BK291.out hb); replace BK306 := Aside0.mk (blk_below BK306.out hb); replace BK310 := Aside0.mk (blk_below BK310.out hb); replace BK315 := Aside0.mk (blk_below BK315.out hb); replace BK321 := Aside0.mk (blk_below BK321.out hb); replace HB := Aside0.mk (below_step HB.out hb); clear hb))
       go_meet
       case rel => exact ⟨_, ((t320 != t305)), (by rfl), H', ⟨by have := HJ25.out; omega⟩, ⟨by exact Kd.R_mono HO_307001.out (fun _ hk => ⟨hk.1, hk.2.1⟩)⟩, ⟨by exact Kd.S_mono HO_311000.out (fun _ hk => ⟨hk.1, ⟨hk.2.1, hk.2.2.1⟩⟩)⟩, ⟨by exact Kd.R_mono HO_316001.out (fun _ hk => ⟨hk.1, hk.2.1⟩)⟩, ⟨by exact Kd.R_mono HO_322001.out (fun _ hk => ⟨hk.1, hk.2.1⟩)⟩, ⟨by exact BK290.out⟩, ⟨by exact BK291.out⟩, ⟨by exact BK306.out⟩, ⟨by exact BK310.out⟩, ⟨by exact BK315.out⟩, ⟨by exact BK321.out⟩, ⟨by exact HB.out⟩⟩
      replace c133 := Bool.eq_false_iff.mpr c133
      subst c133
      have H1 : (laws_FnExactOuterModule.j1 kj25 a2 t305 true l0_0 a1_0 l1_1 t301 t302 t316 t317) = some r := by rw [if_neg (show ¬ (false = true) by decide)] at H; exact H
      clear H
      have H := H1
      clear H1
      have H' := Aside0.mk H
      clear H
      have hnb146 := NB321_290.out
      have hnc146 := NB290_321.out
      have hnb147 := NB321_291.out
      have hnc147 := NB291_321.out
      have hnb148 := NB321_306.out
      have hnc148 := NB306_321.out
      have hnb149 := NB321_310.out
      have hnc149 := NB310_321.out
      have hnb150 := NB321_315.out
      have hnc150 := NB315_321.out
      have hcz151_0 := bc0 BK321.out
      have hcz151_1 := bc1 BK321.out
      have hfz151_0 := blk_frozen BK321.out 0
      have hfz151_1 := blk_frozen BK321.out 1
      have hnb152 := NB306_290.out
      have hnc152 := NB290_306.out
      have hnb153 := NB306_291.out
      have hnc153 := NB291_306.out
      have hnb154 := NB306_310.out
      have hnc154 := NB310_306.out
      have hnb155 := NB306_315.out
      have hnc155 := NB315_306.out
      have hcz156_0 := bc0 BK306.out
      have hcz156_1 := bc1 BK306.out
      have hfz156_0 := blk_frozen BK306.out 0
      have hfz156_1 := blk_frozen BK306.out 1
      go_wp2_with ((go_at_call 21; (with_reducible refine (laws_eqModule.calls kj25 t316 _ _ t317 t301 _ _ t302 false _ ?side1 ?side2 ?side3 ?side4 A132.out).mono ?_); (case side1 => repeat (exact (Kd.R_reads' HO_322001.out).2.2)); (case side2 => exact (Kd.R_reads' HO_322001.out).2.1); (case side3 => repeat (exact (Kd.R_reads' HO_307001.out).2.2)); (case side4 => exact (Kd.R_reads' HO_307001.out).2.1); rintro e w157 ⟨rfl, hb⟩; replace HO_307001 := Aside0.mk (Kd.R_below HO_307001.out hb); replace HO_311000 := Aside0.mk (Kd.S_below HO_311000.out hb); replace HO_316001 := Aside0.mk (Kd.R_below HO_316001.out hb); replace HO_322001 := Aside0.mk (Kd.R_below HO_322001.out hb); replace HO330 := Aside0.mk (Kd.R_below HO330.out hb); replace BK290 := Aside0.mk (blk_below BK290.out hb); replace BK291 := Aside0.mk (blk_below BK291.out hb); replace BK306 := Aside0.mk (blk_below BK306.out hb); replace BK310 := Aside0.mk (blk_below BK310.out hb); replace BK315 := Aside0.mk (blk_below BK315.out hb); replace BK321 := Aside0.mk (blk_below BK321.out hb); replace HB := Aside0.mk (below_step HB.out hb); clear hb))
      go_meet
      case rel => exact ⟨_, (true), (by rfl), H', ⟨by have := HJ25.out; omega⟩, ⟨by exact Kd.R_mono HO_307001.out (fun _ hk => ⟨hk.1, hk.2.1⟩)⟩, ⟨by exact Kd.S_mono HO_311000.out (fun _ hk => ⟨hk.1, ⟨hk.2.1, hk.2.2.1⟩⟩)⟩, ⟨by exact Kd.R_mono HO_316001.out (fun _ hk => ⟨hk.1, hk.2.1⟩)⟩, ⟨by exact Kd.R_mono HO_322001.out (fun _ hk => ⟨hk.1, hk.2.1⟩)⟩, ⟨by exact BK290.out⟩, ⟨by exact BK291.out⟩, ⟨by exact BK306.out⟩, ⟨by exact BK310.out⟩, ⟨by exact BK315.out⟩, ⟨by exact BK321.out⟩, ⟨by exact HB.out⟩⟩
     case rest =>
      clear HC109 hcz123_0 hcz129_0 hcz129_1 hfz123_0 hfz129_0 hfz129_1
      obtain ⟨kq, x86_108, rfl, HA, HJ108, HO_307001, HO_311000, HO_316001, HO_322001, BK290, BK291, BK306, BK310, BK315, BK321, HB⟩ := hcut
      have hl311000_108 := (Kd.S_reads' HO_311000.out).1
      rw [hl311000_108] at HO_311000
      (simp only [hl311000_108] at BK310)
      have hl316001_108 := (Kd.R_reads' HO_316001.out).1
      rw [hl316001_108] at HO_316001
      (simp only [hl316001_108] at BK315)
      (simp only [hl316001_108] at HO_307001)
      (simp only [hl316001_108] at HO_311000)
      (simp only [hl316001_108] at HO_322001)
      cases kq with
      | zero => exact absurd HA.out (by simp [laws_FnExactOuterModule.j1])
      | succ kj108 =>
       have H := HA.out
       clear HA
       simp only [laws_FnExactOuterModule.j1] at H
       by_cases c158 : x86_108 = true
       ·subst c158
        have H1 : (some false) = some r := by rw [if_pos rfl] at H; exact H
        clear H
        have H := H1
        clear H1
        obtain rfl := Option.some.inj H
        go_wp2
        go_ret
        exact ⟨by rfl, by exact HB.out⟩
       replace c158 := Bool.eq_false_iff.mpr c158
       subst c158
       have H1 : ((laws_markModule.f kj108 t316 t317 1).bind fun bt337 => ((laws_heldModule.f kj108 t316 bt337.2 1).bind fun t339 => (if t339 < 0 then (some false) else (if t339 = bt337.1 then ((laws_toGroup.f kj108 l0_0).bind fun t340 => ((laws_toModule.f kj108 a1_0 l1_1).bind fun bt343 => ((impl_OuterModule.f kj108 t340 bt343.1 bt343.2 a2).bind fun bt347 => ((laws_eqModule.f kj108 bt347.1 bt347.2.1 t301 t302).bind fun t353 => (if t353 = true then (laws_FnExactOuterModule.j2 kj108 bt337.1 (bt347.2.2 != t305) t316 bt337.2) else (laws_FnExactOuterModule.j2 kj108 bt337.1 true t316 bt337.2)))))) else (some false))))) = some r := by rw [if_neg (show ¬ (false = true) by decide)] at H; exact H
       clear H
       have H := H1
       clear H1
       obtain ⟨⟨t337, t338⟩, A159, H⟩ := bnd H
       try dsimp only at H
       obtain ⟨t339, A160, H⟩ := bnd H
       try dsimp only at H
       by_cases c161 : t339 < 0
       ·rw [if_pos c161] at H
        have c161b0 : decide (t339 < 0) = true := decide_eq_true c161
        clear c161
        obtain rfl := Option.some.inj H
        have hnb162 := NB321_290.out
        have hnc162 := NB290_321.out
        have hnb163 := NB321_291.out
        have hnc163 := NB291_321.out
        have hnb164 := NB321_306.out
        have hnc164 := NB306_321.out
        have hnb165 := NB321_310.out
        have hnc165 := NB310_321.out
        have hnb166 := NB321_315.out
        have hnc166 := NB315_321.out
        have hcz167_0 := bc0 BK321.out
        have hcz167_1 := bc1 BK321.out
        have hfz167_0 := blk_frozen BK321.out 0
        have hfz167_1 := blk_frozen BK321.out 1
        go_wp2_with (first | ((with_reducible refine gate_callee (f := 24) rfl ?_); refine goesL_ (some 89) rfl rfl Try.func24 (by kernel_rfl) rfl #[.agg #[.int .i64 t316, .slice Ao73 t317.length co73], .int .i64 1] rfl (by (simp only [List.map_toArray, List.map_cons, List.map_nil]); rfl) ?_; (with_reducible refine (laws_markModule.calls kj108 t316 (fun k_ => some k_ = (.slice Ao73 t317.length co73 : Value).ownBlock) (.slice Ao73 t317.length co73) t317 1 t337 t338 w _ ?side1 ?side2 A159.out).mono ?_); (case side1 => exact HB.out); (case side2 => exact Kd.R_tight rfl HO_322001.out); rintro e w168 ⟨rfl, hy0, hb, hkp⟩; refine ⟨_, rfl, ?_⟩; replace HO_307001 := Aside0.mk (Kd.R_mono (ok' := fun k_ => some k_ ≠ (.slice Ao63 t335.length co63 : Value).ownBlock ∧ some k_ ≠ (.slice Ao73 t317.length co73 : Value).ownBlock) (Kd.R_keptB (HO_307001.out) hkp (fun k_ hk_ hs_ => (hk_.2) hs_)) (fun k_ hk_ => ⟨hk_.1.1, hk_.1.2⟩)); replace HO_311000 := Aside0.mk (Kd.S_mono (ok' := fun k_ => some k_ ≠ (.slice Ao43 t302.length co43 : Value).ownBlock ∧ some k_ ≠ (.slice Ao63 t335.length co63 : Value).ownBlock ∧ some k_ ≠ (.slice Ao73 t317.length co73 : Value).ownBlock) (Kd.S_keptB (HO_311000.out) hkp (fun k_ hk_ hs_ => (hk_.2.2) hs_)) (fun k_ hk_ => ⟨hk_.1.1, hk_.1.2.1, hk_.1.2.2⟩)); replace HO_316001 := Aside0.mk (Kd.R_mono (ok' := fun k_ => some k_ ≠ (.slice Ao43 t302.length co43 : Value).ownBlock ∧ some k_ ≠ (.slice Ao73 t317.length co73 : Value).ownBlock) (Kd.R_keptB (HO_316001.out) hkp (fun k_ hk_ hs_ => (hk_.2) hs_)) (fun k_ hk_ => ⟨hk_.1.1, hk_.1.2⟩)); replace BK290 := Aside0.mk (blk_kept BK290.out hkp (fun hs_ => (fun e_ => (Kd.R_ne HO_322001.out BK290.out (by decide)) e_) hs_)); replace BK291 := Aside0.mk (blk_kept BK291.out hkp (fun hs_ => (fun e_ => (Kd.R_ne HO_322001.out BK291.out (by decide)) e_) hs_)); replace BK306 := Aside0.mk (blk_kept BK306.out hkp (fun hs_ => (fun e_ => (Kd.R_ne HO_322001.out BK306.out (by decide)) e_) hs_)); replace BK310 := Aside0.mk (blk_kept BK310.out hkp (fun hs_ => (fun e_ => (Kd.R_ne HO_322001.out BK310.out (by decide)) e_) hs_)); replace BK315 := Aside0.mk (blk_kept BK315.out hkp (fun hs_ => (fun e_ => (Kd.R_ne HO_322001.out BK315.out (by decide)) e_) hs_)); replace BK321 := Aside0.mk (blk_kept BK321.out hkp (fun hs_ => (fun e_ => (Kd.R_ne HO_322001.out BK321.out (by decide)) e_) hs_)); replace HO_322001 := Aside0.mk (Kd.R_reok rfl hy0 (fun k_ e_ => HO_322001.out.1 k_ e_)); replace HB := Aside0.mk (hb); clear hb hkp hy0; have hcz169_0 := bc0 BK321.out; have hcz169_1 := bc1 BK321.out; have hfz169_0 := blk_frozen BK321.out 0; have hfz169_1 := blk_frozen BK321.out 1) | ((with_reducible refine gate_callee (f := 25) rfl ?_); refine goesL_ (some 92) rfl rfl Try.func25 (by kernel_rfl) rfl #[.agg #[.int .i64 t316, .slice Ao73 t338.length co73], .int .i64 1] rfl (by (simp only [List.map_toArray, List.map_cons, List.map_nil]); (rw [show t338.length = t317.length from (Kd.R_reads' HO_322001.out).1.symm] <;> rfl)) ?_; (with_reducible refine (laws_heldModule.calls kj108 t316 _ _ t338 1 t339 _ ?side1 ?side2 A160.out).mono ?_); (case side1 => repeat (exact (Kd.R_reads' HO_322001.out).2.2)); (case side2 => rw [show t338.length = t317.length from (Kd.R_reads' HO_322001.out).1.symm]; exact (Kd.R_reads' HO_322001.out).2.1); rintro e w170 ⟨rfl, hb⟩; refine ⟨_, rfl, ?_⟩; replace HO_307001 := Aside0.mk (Kd.R_below HO_307001.out hb); replace HO_311000 := Aside0.mk (Kd.S_below HO_311000.out hb); replace HO_316001 := Aside0.mk (Kd.R_below HO_316001.out hb); replace HO_322001 := Aside0.mk (Kd.R_below HO_322001.out hb); replace BK290 := Aside0.mk (blk_below BK290.out hb); replace BK291 := Aside0.mk (blk_below BK291.out hb); replace BK306 := Aside0.mk (blk_below BK306.out hb); replace BK310 := Aside0.mk (blk_below BK310.out hb); replace BK315 := Aside0.mk (blk_below BK315.out hb); replace BK321 := Aside0.mk (blk_below BK321.out hb); replace HB := Aside0.mk (below_step HB.out hb); clear hb))
        go_ret
        exact ⟨by rfl, by exact HB.out⟩
       rw [if_neg c161] at H
       have c161b0 : decide (t339 < 0) = false := decide_eq_false c161
       clear c161
       by_cases c171 : t339 = t337
       ·rw [if_pos c171] at H
        have c171b0 : (t339 == t337) = true := beq_iff_eq.mpr c171
        have c171b1 : (t339 != t337) = false := bne_eq_false_iff_eq.mpr c171
        clear c171
        obtain ⟨t340, A172, H⟩ := bnd H
        try dsimp only at H
        obtain ⟨⟨t343, t344⟩, A173, H⟩ := bnd H
        try dsimp only at H
        obtain ⟨⟨t347, t348, t351⟩, A174, H⟩ := bnd H
        try dsimp only at H
        have HC175 := Aside0.mk H
        clear H
        have hnb176 := NB321_290.out
        have hnc176 := NB290_321.out
        have hnb177 := NB321_291.out
        have hnc177 := NB291_321.out
        have hnb178 := NB321_306.out
        have hnc178 := NB306_321.out
        have hnb179 := NB321_310.out
        have hnc179 := NB310_321.out
        have hnb180 := NB321_315.out
        have hnc180 := NB315_321.out
        have hcz181_0 := bc0 BK321.out
        have hcz181_1 := bc1 BK321.out
        have hfz181_0 := blk_frozen BK321.out 0
        have hfz181_1 := blk_frozen BK321.out 1
        go_wp2_with (first | ((with_reducible refine gate_callee (f := 24) rfl ?_); refine goesL_ (some 89) rfl rfl Try.func24 (by kernel_rfl) rfl #[.agg #[.int .i64 t316, .slice Ao73 t317.length co73], .int .i64 1] rfl (by (simp only [List.map_toArray, List.map_cons, List.map_nil]); rfl) ?_; (with_reducible refine (laws_markModule.calls kj108 t316 (fun k_ => some k_ = (.slice Ao73 t317.length co73 : Value).ownBlock) (.slice Ao73 t317.length co73) t317 1 t337 t338 w _ ?side1 ?side2 A159.out).mono ?_); (case side1 => exact HB.out); (case side2 => exact Kd.R_tight rfl HO_322001.out); rintro e w182 ⟨rfl, hy0, hb, hkp⟩; refine ⟨_, rfl, ?_⟩; replace HO_307001 := Aside0.mk (Kd.R_mono (ok' := fun k_ => some k_ ≠ (.slice Ao63 t335.length co63 : Value).ownBlock ∧ some k_ ≠ (.slice Ao73 t317.length co73 : Value).ownBlock) (Kd.R_keptB (HO_307001.out) hkp (fun k_ hk_ hs_ => (hk_.2) hs_)) (fun k_ hk_ => ⟨hk_.1.1, hk_.1.2⟩)); replace HO_311000 := Aside0.mk (Kd.S_mono (ok' := fun k_ => some k_ ≠ (.slice Ao43 t302.length co43 : Value).ownBlock ∧ some k_ ≠ (.slice Ao63 t335.length co63 : Value).ownBlock ∧ some k_ ≠ (.slice Ao73 t317.length co73 : Value).ownBlock) (Kd.S_keptB (HO_311000.out) hkp (fun k_ hk_ hs_ => (hk_.2.2) hs_)) (fun k_ hk_ => ⟨hk_.1.1, hk_.1.2.1, hk_.1.2.2⟩)); replace HO_316001 := Aside0.mk (Kd.R_mono (ok' := fun k_ => some k_ ≠ (.slice Ao43 t302.length co43 : Value).ownBlock ∧ some k_ ≠ (.slice Ao73 t317.length co73 : Value).ownBlock) (Kd.R_keptB (HO_316001.out) hkp (fun k_ hk_ hs_ => (hk_.2) hs_)) (fun k_ hk_ => ⟨hk_.1.1, hk_.1.2⟩)); replace BK290 := Aside0.mk (blk_kept BK290.out hkp (fun hs_ => (fun e_ => (Kd.R_ne HO_322001.out BK290.out (by decide)) e_) hs_)); replace BK291 := Aside0.mk (blk_kept BK291.out hkp (fun hs_ => (fun e_ => (Kd.R_ne HO_322001.out BK291.out (by decide)) e_) hs_)); replace BK306 := Aside0.mk (blk_kept BK306.out hkp (fun hs_ => (fun e_ => (Kd.R_ne HO_322001.out BK306.out (by decide)) e_) hs_)); replace BK310 := Aside0.mk (blk_kept BK310.out hkp (fun hs_ => (fun e_ => (Kd.R_ne HO_322001.out BK310.out (by decide)) e_) hs_)); replace BK315 := Aside0.mk (blk_kept BK315.out hkp (fun hs_ => (fun e_ => (Kd.R_ne HO_322001.out BK315.out (by decide)) e_) hs_)); replace BK321 := Aside0.mk (blk_kept BK321.out hkp (fun hs_ => (fun e_ => (Kd.R_ne HO_322001.out BK321.out (by decide)) e_) hs_)); replace HO_322001 := Aside0.mk (Kd.R_reok rfl hy0 (fun k_ e_ => HO_322001.out.1 k_ e_)); replace HB := Aside0.mk (hb); clear hb hkp hy0; have hcz183_0 := bc0 BK321.out; have hcz183_1 := bc1 BK321.out; have hfz183_0 := blk_frozen BK321.out 0; have hfz183_1 := blk_frozen BK321.out 1) | ((with_reducible refine gate_callee (f := 25) rfl ?_); refine goesL_ (some 92) rfl rfl Try.func25 (by kernel_rfl) rfl #[.agg #[.int .i64 t316, .slice Ao73 t338.length co73], .int .i64 1] rfl (by (simp only [List.map_toArray, List.map_cons, List.map_nil]); (rw [show t338.length = t317.length from (Kd.R_reads' HO_322001.out).1.symm] <;> rfl)) ?_; (with_reducible refine (laws_heldModule.calls kj108 t316 _ _ t338 1 t339 _ ?side1 ?side2 A160.out).mono ?_); (case side1 => repeat (exact (Kd.R_reads' HO_322001.out).2.2)); (case side2 => rw [show t338.length = t317.length from (Kd.R_reads' HO_322001.out).1.symm]; exact (Kd.R_reads' HO_322001.out).2.1); rintro e w184 ⟨rfl, hb⟩; refine ⟨_, rfl, ?_⟩; replace HO_307001 := Aside0.mk (Kd.R_below HO_307001.out hb); replace HO_311000 := Aside0.mk (Kd.S_below HO_311000.out hb); replace HO_316001 := Aside0.mk (Kd.R_below HO_316001.out hb); replace HO_322001 := Aside0.mk (Kd.R_below HO_322001.out hb); replace BK290 := Aside0.mk (blk_below BK290.out hb); replace BK291 := Aside0.mk (blk_below BK291.out hb); replace BK306 := Aside0.mk (blk_below BK306.out hb); replace BK310 := Aside0.mk (blk_below BK310.out hb); replace BK315 := Aside0.mk (blk_below BK315.out hb); replace BK321 := Aside0.mk (blk_below BK321.out hb); replace HB := Aside0.mk (below_step HB.out hb); clear hb))
        replace HO_307001 := Aside0.mk (Kd.R_drew HO_307001.out); replace HO_311000 := Aside0.mk (Kd.S_drew HO_311000.out); replace HO_316001 := Aside0.mk (Kd.R_drew HO_316001.out); replace HO_322001 := Aside0.mk (Kd.R_drew HO_322001.out); replace BK290 := Aside0.mk (blk_drew BK290.out); replace BK291 := Aside0.mk (blk_drew BK291.out); replace BK306 := Aside0.mk (blk_drew BK306.out); replace BK310 := Aside0.mk (blk_drew BK310.out); replace BK315 := Aside0.mk (blk_drew BK315.out); replace BK321 := Aside0.mk (blk_drew BK321.out); replace HB := Aside0.mk (below_drew1 HB.out)
        refine start_ (n := 12) (S := fun w' => w'.cell? ⟨gb290, 0, none⟩ = some (.slice A0_0 l0_0.length c0_0) ∧ w'.cell? ⟨gb291, 0, none⟩ = some (.int .i64 a1_0) ∧ w'.cell? ⟨gb291, 1, none⟩ = some (.slice A1_1 l1_1.length c1_1)) (ds := []) #[false,false,false,false,false,false,false,false,false,false,false,false] (by kernel_rfl) rfl rfl ⟨(blk_cell BK290.out 0).trans rfl, (blk_cell BK291.out 0).trans rfl, (blk_cell BK291.out 1).trans rfl⟩ (fun hHeld => ?_); refine with_tabW laws_FnExactOuterModule.tab31 laws_FnExactOuterModule.bits31 (fun HT_ HW_ => ?_)
        generalize w184.drew = w185 at HO_307001 HO_311000 HO_316001 HO_322001 BK290 BK291 BK306 BK310 BK315 BK321 HB hHeld ⊢
        refine pure_ (i := 4) (N := some 103) (v := ?_) (a' := ?_) #[false,false,false,false,true,false,false,false,false,false,false,false] rfl rfl (any_of HT_.out (by kernel_rfl)) (fun _ _ _ h => h) (Or.inl ⟨by rfl, ?_⟩) ?_ ?_
        rotate_left
        ·intro w'
         go_simp
         with_reducible rfl
        rotate_left
        ·simp only [Act.put, List.setIfInBounds_toArray, List.set_cons_zero, List.set_cons_succ, i64_w, i32_w]
         rfl
        refine take_ (i := 0) (N := some 99) (v := ?_) (a' := ?_) #[true,false,false,false,true,false,false,false,false,false,false,false] rfl rfl (take_ofW HT_.out HW_.out (by kernel_rfl)) (fun _ _ _ h => h) (Or.inl ⟨by rfl, ?_⟩) hHeld ?_ ?_
        rotate_left
        ·rintro w' ⟨s0, s1, s2⟩
         go_simp
         with_reducible rfl
        rotate_left
        ·simp only [Act.put, List.setIfInBounds_toArray, List.set_cons_zero, List.set_cons_succ, i64_w, i32_w]
         rfl
        refine take_ (i := 2) (N := some 101) (v := ?_) (a' := ?_) #[true,false,true,false,true,false,false,false,false,false,false,false] rfl rfl (take_ofW HT_.out HW_.out (by kernel_rfl)) (fun _ _ _ h => h) (Or.inl ⟨by rfl, ?_⟩) hHeld ?_ ?_
        rotate_left
        ·rintro w' ⟨s0, s1, s2⟩
         go_simp
         with_reducible rfl
        rotate_left
        ·simp only [Act.put, List.setIfInBounds_toArray, List.set_cons_zero, List.set_cons_succ, i64_w, i32_w]
         rfl
        refine join_ (σ := Value × Value × Value × Nat) 2 #[true,true,true,true,true,true,true,true,true,true,false,false] (fun s_ => [(100, .agg #[s_.1]), (102, .agg #[.int .i64 t343, s_.2.1]), (104, .tuple #[.agg #[.int .i64 t347, s_.2.2.1], .int .i64 t351]), (17, .pointer (some ⟨s_.2.2.2, 0, none⟩)), (98, .tuple #[.agg #[.int .i64 t347, s_.2.2.1], .int .i64 t351]), (105, .agg #[.int .i64 t347, s_.2.2.1]), (106, .int .i64 t351)]) (fun s_ w' => (w'.cell? ⟨gb290, 0, none⟩ = some (.slice A0_0 l0_0.length c0_0) ∧ w'.cell? ⟨gb291, 0, none⟩ = some (.int .i64 a1_0) ∧ w'.cell? ⟨gb291, 1, none⟩ = some (.slice A1_1 l1_1.length c1_1)) ∧ (Kd.S (Kd.slice 2 (Kd.int .i64)) 25 w' w.heap.size (fun k_ => some k_ ≠ (s_.2.1 : Value).ownBlock ∧ some k_ ≠ (s_.2.2.1 : Value).ownBlock ∧ some k_ ≠ (.slice Ao43 t302.length co43 : Value).ownBlock ∧ some k_ ≠ (.slice Ao49 t333.length co49 : Value).ownBlock ∧ some k_ ≠ (.slice Ao63 t335.length co63 : Value).ownBlock ∧ some k_ ≠ (.slice Ao73 t317.length co73 : Value).ownBlock) s_.1 t340) ∧ (Kd.R (Kd.int .i64) 2 w' w.heap.size (fun k_ => some k_ ≠ (s_.2.2.1 : Value).ownBlock ∧ some k_ ≠ (.slice Ao43 t302.length co43 : Value).ownBlock ∧ some k_ ≠ (.slice Ao63 t335.length co63 : Value).ownBlock ∧ some k_ ≠ (.slice Ao73 t317.length co73 : Value).ownBlock) s_.2.1 t344) ∧ (Kd.R (Kd.int .i64) 2 w' w.heap.size (fun k_ => some k_ ≠ (s_.2.1 : Value).ownBlock ∧ some k_ ≠ (.slice Ao43 t302.length co43 : Value).ownBlock ∧ some k_ ≠ (.slice Ao63 t335.length co63 : Value).ownBlock ∧ some k_ ≠ (.slice Ao73 t317.length co73 : Value).ownBlock) s_.2.2.1 t348) ∧ (Kd.R (Kd.int .i64) 2 w' w.heap.size (fun k_ => some k_ ≠ (s_.2.1 : Value).ownBlock ∧ some k_ ≠ (s_.2.2.1 : Value).ownBlock ∧ some k_ ≠ (.slice Ao63 t335.length co63 : Value).ownBlock ∧ some k_ ≠ (.slice Ao73 t317.length co73 : Value).ownBlock) (.slice Ao43 t302.length co43) t302) ∧ (Kd.S (Kd.slice 2 (Kd.int .i64)) 25 w' w.heap.size (fun k_ => some k_ ≠ (s_.1 : Value).ownBlock ∧ some k_ ≠ (s_.2.1 : Value).ownBlock ∧ some k_ ≠ (s_.2.2.1 : Value).ownBlock ∧ some k_ ≠ (.slice Ao43 t302.length co43 : Value).ownBlock ∧ some k_ ≠ (.slice Ao63 t335.length co63 : Value).ownBlock ∧ some k_ ≠ (.slice Ao73 t317.length co73 : Value).ownBlock) (.slice Ao49 t333.length co49) t333) ∧ (Kd.R (Kd.int .i64) 2 w' w.heap.size (fun k_ => some k_ ≠ (s_.2.1 : Value).ownBlock ∧ some k_ ≠ (s_.2.2.1 : Value).ownBlock ∧ some k_ ≠ (.slice Ao43 t302.length co43 : Value).ownBlock ∧ some k_ ≠ (.slice Ao73 t317.length co73 : Value).ownBlock) (.slice Ao63 t335.length co63) t335) ∧ (Kd.R (Kd.int .i64) 2 w' w.heap.size (fun k_ => some k_ ≠ (s_.2.1 : Value).ownBlock ∧ some k_ ≠ (s_.2.2.1 : Value).ownBlock ∧ some k_ ≠ (.slice Ao43 t302.length co43 : Value).ownBlock ∧ some k_ ≠ (.slice Ao63 t335.length co63 : Value).ownBlock) (.slice Ao73 t317.length co73) t338) ∧ (w'.heap[gb290]? = some (.cells #[.slice A0_0 l0_0.length c0_0] 24 (0, 0))) ∧ (w'.heap[gb291]? = some (.cells #[.int .i64 a1_0, .slice A1_1 l1_1.length c1_1] 27 (0, 0))) ∧ (w'.heap[gb306]? = some (.cells #[.int .i64 t301, .slice Ao43 t302.length co43] 30 (0, 0))) ∧ (w'.heap[gb310]? = some (.cells #[.slice Ao49 t333.length co49] 33 (0, 0))) ∧ (w'.heap[gb315]? = some (.cells #[.int .i64 t311, .slice Ao63 t335.length co63] 30 (0, 0))) ∧ (w'.heap[gb321]? = some (.cells #[.int .i64 t316, .slice Ao73 t317.length co73] 30 (0, 0))) ∧ (w'.heap[s_.2.2.2]? = some (.cells #[.int .i64 0, .slice none 0 0] 30 (0, 0))) ∧ (w.heap.size ≤ s_.2.2.2) ∧ (w.heap.size ≤ s_.2.2.2) ∧ (gb290 ≠ s_.2.2.2) ∧ (s_.2.2.2 ≠ gb290) ∧ (gb291 ≠ s_.2.2.2) ∧ (s_.2.2.2 ≠ gb291) ∧ (gb306 ≠ s_.2.2.2) ∧ (s_.2.2.2 ≠ gb306) ∧ (gb310 ≠ s_.2.2.2) ∧ (s_.2.2.2 ≠ gb310) ∧ (gb315 ≠ s_.2.2.2) ∧ (s_.2.2.2 ≠ gb315) ∧ (gb321 ≠ s_.2.2.2) ∧ (s_.2.2.2 ≠ gb321) ∧ (Below w.heap.size w w')) ?_ ?_
        rotate_left
        ·intro hCont
         refine two_ (i := 1) (j := 9) (Ni := some 100) (Nj := some 17) #[true,true,true,false,true,false,false,false,false,false,false,false] #[true,false,true,false,true,false,false,false,false,true,false,false] rfl rfl rfl rfl (two_of HT_.out (by kernel_rfl)) (by decide) (by decide) (fun K hK => ?_) (fun K hK => ?_)
         ·skip
          refine goes_ Try.func18 (by kernel_rfl) rfl #[.agg #[.slice A0_0 l0_0.length c0_0]] (by rfl) rfl rfl (by (simp only [List.map_toArray, List.map_cons, List.map_nil]); rfl) ?_
          with_reducible refine (laws_toGroup.calls kj108 _ _ l0_0 t340 _ ?side1 ?side2 A172.out).mono ?_
          (case side1 => exact (Kd.C_below HR0_0.out HB.out))
          (case side2 => exact HC0_0.out)
          rintro e w186 ⟨v341, rfl, ho0, hb⟩
          refine ⟨_, rfl, ?_⟩
          have HO342 := Aside0.mk (Kd.S_lower (Kd.S_new' (Kd.S_new' (Kd.S_new' (Kd.S_new' ho0 (Kd.R_lt HO_307001.out)) (Kd.S_lt HO_311000.out)) (Kd.R_lt HO_316001.out)) (Kd.R_lt HO_322001.out)) (below_size HB.out)); replace HO_307001 := Aside0.mk (Kd.R_below HO_307001.out hb); replace HO_311000 := Aside0.mk (Kd.S_elder' HO_311000.out (Kd.S_base ho0) hb); replace HO_316001 := Aside0.mk (Kd.R_below HO_316001.out hb); replace HO_322001 := Aside0.mk (Kd.R_below HO_322001.out hb); replace BK290 := Aside0.mk (blk_below BK290.out hb); replace BK291 := Aside0.mk (blk_below BK291.out hb); replace BK306 := Aside0.mk (blk_below BK306.out hb); replace BK310 := Aside0.mk (blk_below BK310.out hb); replace BK315 := Aside0.mk (blk_below BK315.out hb); replace BK321 := Aside0.mk (blk_below BK321.out hb); replace HB := Aside0.mk (below_step HB.out hb)
          clear hb
          clear ho0
          refine hK.out _ _ ⟨(blk_cell BK290.out 0).trans rfl, (blk_cell BK291.out 0).trans rfl, (blk_cell BK291.out 1).trans rfl⟩ (fun hHeld => ?_)
          clear hK K
          refine norm_ (a' := ?_) ?_ ?_
          rotate_left
          ·show Act.put _ (some 100) _ = _
           simp only [Act.put, List.setIfInBounds_toArray, List.set_cons_zero, List.set_cons_succ, i64_w, i32_w]
           rfl
          refine two_ (i := 3) (j := 9) (Ni := some 102) (Nj := some 17) #[true,true,true,true,true,false,false,false,false,false,false,false] #[true,true,true,false,true,false,false,false,false,true,false,false] rfl rfl rfl rfl (two_of HT_.out (by kernel_rfl)) (by decide) (by decide) (fun K hK => ?_) (fun K hK => ?_)
          ·skip
           refine goes_ Try.func19 (by kernel_rfl) rfl #[.agg #[.int .i64 a1_0, .slice A1_1 l1_1.length c1_1]] (by rfl) rfl rfl (by (simp only [List.map_toArray, List.map_cons, List.map_nil]); rfl) ?_
           with_reducible refine (laws_toModule.calls kj108 a1_0 _ _ l1_1 t343 t344 _ ?side1 ?side2 A173.out).mono ?_
           (case side1 => exact (Kd.C_below HR1_1.out HB.out))
           (case side2 => exact HC1_1.out)
           rintro e w187 ⟨v345, rfl, ho0, hb⟩
           refine ⟨_, rfl, ?_⟩
           replace HO_311000 := Aside0.mk (Kd.S_elder' HO_311000.out (Kd.R_base ho0) hb); replace HO342 := Aside0.mk (Kd.S_elder' HO342.out (Kd.R_base ho0) hb); have HO346 := Aside0.mk (Kd.R_lower (Kd.R_new' (Kd.R_new' (Kd.R_new' ho0 (Kd.R_lt HO_307001.out)) (Kd.R_lt HO_316001.out)) (Kd.R_lt HO_322001.out)) (below_size HB.out)); replace HO_307001 := Aside0.mk (Kd.R_elder' HO_307001.out (Kd.R_base ho0) hb); replace HO_316001 := Aside0.mk (Kd.R_elder' HO_316001.out (Kd.R_base ho0) hb); replace HO_322001 := Aside0.mk (Kd.R_elder' HO_322001.out (Kd.R_base ho0) hb); replace BK290 := Aside0.mk (blk_below BK290.out hb); replace BK291 := Aside0.mk (blk_below BK291.out hb); replace BK306 := Aside0.mk (blk_below BK306.out hb); replace BK310 := Aside0.mk (blk_below BK310.out hb); replace BK315 := Aside0.mk (blk_below BK315.out hb); replace BK321 := Aside0.mk (blk_below BK321.out hb); replace HB := Aside0.mk (below_step HB.out hb)
           clear hb
           clear ho0
           obtain ⟨Ao188, co188, eo188⟩ := Kd.S_slice HO342.out
           (subst eo188)
           obtain ⟨Ao189, co189, eo189⟩ := Kd.R_slice HO346.out
           (subst eo189)
           refine hK.out _ _ ⟨(blk_cell BK290.out 0).trans rfl, (blk_cell BK291.out 0).trans rfl, (blk_cell BK291.out 1).trans rfl⟩ (fun hHeld => ?_)
           clear hK K
           refine norm_ (a' := ?_) ?_ ?_
           rotate_left
           ·show Act.put _ (some 102) _ = _
            simp only [Act.put, List.setIfInBounds_toArray, List.set_cons_zero, List.set_cons_succ, i64_w, i32_w]
            rfl
           refine two_ (i := 5) (j := 9) (Ni := some 104) (Nj := some 17) #[true,true,true,true,true,true,false,false,false,false,false,false] #[true,true,true,true,true,false,false,false,false,true,false,false] rfl rfl rfl rfl (two_of HT_.out (by kernel_rfl)) (by decide) (by decide) (fun K hK => ?_) (fun K hK => ?_)
           ·skip
            refine goes_ Try.func27 (by kernel_rfl) rfl #[.agg #[.slice Ao188 t340.length co188], .agg #[.int .i64 t343, .slice Ao189 t344.length co189], .int .i64 a2] (by rfl) rfl rfl (by (simp only [List.map_toArray, List.map_cons, List.map_nil]); rfl) ?_
            with_reducible refine (impl_OuterModule.calls kj108 _ _ t340 t343 _ _ t344 a2 t347 t348 t351 _ ?side1 ?side2 ?side3 ?side4 A174.out).mono ?_
            (case side1 => repeat (exact (Kd.S_reads' HO342.out).2.2))
            (case side2 => exact (Kd.S_reads' HO342.out).2.1)
            (case side3 => repeat (exact (Kd.R_reads' HO346.out).2.2))
            (case side4 => exact (Kd.R_reads' HO346.out).2.1)
            rintro e w190 ⟨v349, rfl, ho0, hb⟩
            refine ⟨_, rfl, ?_⟩
            replace HO_311000 := Aside0.mk (Kd.S_elder' HO_311000.out (Kd.R_base ho0) hb); replace HO342 := Aside0.mk (Kd.S_elder' HO342.out (Kd.R_base ho0) hb); have HO350 := Aside0.mk (Kd.R_lower (Kd.R_new' (Kd.R_new' (Kd.R_new' (Kd.R_new' ho0 (Kd.R_lt HO_307001.out)) (Kd.R_lt HO_316001.out)) (Kd.R_lt HO_322001.out)) (Kd.R_lt HO346.out)) (below_size HB.out)); replace HO_307001 := Aside0.mk (Kd.R_elder' HO_307001.out (Kd.R_base ho0) hb); replace HO_316001 := Aside0.mk (Kd.R_elder' HO_316001.out (Kd.R_base ho0) hb); replace HO_322001 := Aside0.mk (Kd.R_elder' HO_322001.out (Kd.R_base ho0) hb); replace HO346 := Aside0.mk (Kd.R_elder' HO346.out (Kd.R_base ho0) hb); replace BK290 := Aside0.mk (blk_below BK290.out hb); replace BK291 := Aside0.mk (blk_below BK291.out hb); replace BK306 := Aside0.mk (blk_below BK306.out hb); replace BK310 := Aside0.mk (blk_below BK310.out hb); replace BK315 := Aside0.mk (blk_below BK315.out hb); replace BK321 := Aside0.mk (blk_below BK321.out hb); replace HB := Aside0.mk (below_step HB.out hb)
            clear hb
            clear ho0
            refine hK.out _ _ ⟨(blk_cell BK290.out 0).trans rfl, (blk_cell BK291.out 0).trans rfl, (blk_cell BK291.out 1).trans rfl⟩ (fun hHeld => ?_)
            clear hK K
            refine norm_ (a' := ?_) ?_ ?_
            rotate_left
            ·show Act.put _ (some 104) _ = _
             simp only [Act.put, List.setIfInBounds_toArray, List.set_cons_zero, List.set_cons_succ, i64_w, i32_w]
             rfl
            refine pure_ (i := 6) (N := some 98) (v := ?_) (a' := ?_) #[true,true,true,true,true,true,true,false,false,false,false,false] rfl rfl (any_of HT_.out (by kernel_rfl)) (fun _ _ _ h => h) (Or.inl ⟨by rfl, ?_⟩) ?_ ?_
            rotate_left
            ·intro w'
             go_simp
             with_reducible rfl
            rotate_left
            ·simp only [Act.put, List.setIfInBounds_toArray, List.set_cons_zero, List.set_cons_succ, i64_w, i32_w]
             rfl
            refine pure_ (i := 7) (N := some 105) (v := ?_) (a' := ?_) #[true,true,true,true,true,true,true,true,false,false,false,false] rfl rfl (any_of HT_.out (by kernel_rfl)) (fun _ _ _ h => h) (Or.inl ⟨by rfl, ?_⟩) ?_ ?_
            rotate_left
            ·intro w'
             go_simp
             with_reducible rfl
            rotate_left
            ·simp only [Act.put, List.setIfInBounds_toArray, List.set_cons_zero, List.set_cons_succ, i64_w, i32_w]
             rfl
            refine pure_ (i := 8) (N := some 106) (v := ?_) (a' := ?_) #[true,true,true,true,true,true,true,true,true,false,false,false] rfl rfl (any_of HT_.out (by kernel_rfl)) (fun _ _ _ h => h) (Or.inl ⟨by rfl, ?_⟩) ?_ ?_
            rotate_left
            ·intro w'
             go_simp
             with_reducible rfl
            rotate_left
            ·simp only [Act.put, List.setIfInBounds_toArray, List.set_cons_zero, List.set_cons_succ, i64_w, i32_w]
             rfl
            refine one_ (i := 9) (N := some 17) #[true,true,true,true,true,true,true,true,true,true,false,false] rfl rfl (one_of HT_.out (by kernel_rfl)) (by decide) (fun K hK => ?_)
            refine box_step ?hg (N := 17) ?hd (cs := #[.int .i64 0, .slice none 0 0]) (t := 30) ?hr ?_; (case hd => rfl); (case hg => rfl); (case hr => (go_simp; done))
            intro gb352 hg w191 hbox hb
            replace HO_307001 := Aside0.mk (Kd.R_below HO_307001.out hb); replace HO_311000 := Aside0.mk (Kd.S_below HO_311000.out hb); replace HO_316001 := Aside0.mk (Kd.R_below HO_316001.out hb); replace HO_322001 := Aside0.mk (Kd.R_below HO_322001.out hb); replace HO342 := Aside0.mk (Kd.S_below HO342.out hb); replace HO346 := Aside0.mk (Kd.R_below HO346.out hb); replace HO350 := Aside0.mk (Kd.R_below HO350.out hb); have BK352 := Aside0.mk (hbox); have GW352 := Aside0.mk (geg hg (below_size HB.out)); have GE352 := Aside0.mk (geg hg (below_size HB.out)); replace HB := Aside0.mk (below_step HB.out hb); have NB290_352 := Aside0.mk (neg1 hg (Nat.ne_of_lt (blk_lt BK290.out))); have NB352_290 := Aside0.mk (neg2 hg (Nat.ne_of_gt (blk_lt BK290.out))); replace BK290 := Aside0.mk (blk_below BK290.out hb); have NB291_352 := Aside0.mk (neg1 hg (Nat.ne_of_lt (blk_lt BK291.out))); have NB352_291 := Aside0.mk (neg2 hg (Nat.ne_of_gt (blk_lt BK291.out))); replace BK291 := Aside0.mk (blk_below BK291.out hb); have NB306_352 := Aside0.mk (neg1 hg (Nat.ne_of_lt (blk_lt BK306.out))); have NB352_306 := Aside0.mk (neg2 hg (Nat.ne_of_gt (blk_lt BK306.out))); replace BK306 := Aside0.mk (blk_below BK306.out hb); have NB310_352 := Aside0.mk (neg1 hg (Nat.ne_of_lt (blk_lt BK310.out))); have NB352_310 := Aside0.mk (neg2 hg (Nat.ne_of_gt (blk_lt BK310.out))); replace BK310 := Aside0.mk (blk_below BK310.out hb); have NB315_352 := Aside0.mk (neg1 hg (Nat.ne_of_lt (blk_lt BK315.out))); have NB352_315 := Aside0.mk (neg2 hg (Nat.ne_of_gt (blk_lt BK315.out))); replace BK315 := Aside0.mk (blk_below BK315.out hb); have NB321_352 := Aside0.mk (neg1 hg (Nat.ne_of_lt (blk_lt BK321.out))); have NB352_321 := Aside0.mk (neg2 hg (Nat.ne_of_gt (blk_lt BK321.out))); replace BK321 := Aside0.mk (blk_below BK321.out hb)
            clear hb hbox hg
            refine hK.out _ _ ⟨(blk_cell BK290.out 0).trans rfl, (blk_cell BK291.out 0).trans rfl, (blk_cell BK291.out 1).trans rfl⟩ (fun hHeld => ?_)
            clear hK K
            refine norm_ (a' := ?_) ?_ ?_
            rotate_left
            ·show Act.put _ (some 17) _ = _
             simp only [Act.put, List.setIfInBounds_toArray, List.set_cons_zero, List.set_cons_succ, i64_w, i32_w]
             rfl
            exact norm_ (by simp only [putAll, Act.put, List.setIfInBounds_toArray, List.set_cons_zero, List.set_cons_succ]) (hCont (.slice Ao188 t340.length co188, .slice Ao189 t344.length co189, v349, gb352) _ ⟨hHeld, (by exact Kd.S_mono HO342.out (fun _ hk => ⟨hk.1.2, ⟨hk.2, ⟨hk.1.1.1.1.1.2, ⟨hk.1.1.1.1.2, ⟨hk.1.1.1.2, hk.1.1.2⟩⟩⟩⟩⟩)), (by exact Kd.R_mono HO346.out (fun _ hk => ⟨hk.2, ⟨hk.1.1.1.2, ⟨hk.1.1.2, hk.1.2⟩⟩⟩)), (by exact Kd.R_mono HO350.out (fun _ hk => ⟨hk.2, ⟨hk.1.1.1.2, ⟨hk.1.1.2, hk.1.2⟩⟩⟩)), (by exact Kd.R_mono HO_307001.out (fun _ hk => ⟨hk.1.2, ⟨hk.2, ⟨hk.1.1.1, hk.1.1.2⟩⟩⟩)), (by exact Kd.S_mono HO_311000.out (fun _ hk => ⟨hk.1.1.2, ⟨hk.1.2, ⟨hk.2, ⟨hk.1.1.1.1, ⟨hk.1.1.1.2.1, hk.1.1.1.2.2⟩⟩⟩⟩⟩)), (by exact Kd.R_mono HO_316001.out (fun _ hk => ⟨hk.1.2, ⟨hk.2, ⟨hk.1.1.1, hk.1.1.2⟩⟩⟩)), (by exact Kd.R_mono HO_322001.out (fun _ hk => ⟨hk.1.2, ⟨hk.2, ⟨hk.1.1.1, hk.1.1.2⟩⟩⟩)), BK290.out, BK291.out, BK306.out, BK310.out, BK315.out, BK321.out, BK352.out, GW352.out, GE352.out, NB290_352.out, NB352_290.out, NB291_352.out, NB352_291.out, NB306_352.out, NB352_306.out, NB310_352.out, NB352_310.out, NB315_352.out, NB352_315.out, NB321_352.out, NB352_321.out, HB.out⟩)
           ·skip
            refine box_step ?hg (N := 17) ?hd (cs := #[.int .i64 0, .slice none 0 0]) (t := 30) ?hr ?_; (case hd => rfl); (case hg => rfl); (case hr => (go_simp; done))
            intro gb352 hg w188 hbox hb
            replace HO_307001 := Aside0.mk (Kd.R_below HO_307001.out hb); replace HO_311000 := Aside0.mk (Kd.S_below HO_311000.out hb); replace HO_316001 := Aside0.mk (Kd.R_below HO_316001.out hb); replace HO_322001 := Aside0.mk (Kd.R_below HO_322001.out hb); replace HO342 := Aside0.mk (Kd.S_below HO342.out hb); replace HO346 := Aside0.mk (Kd.R_below HO346.out hb); have BK352 := Aside0.mk (hbox); have GW352 := Aside0.mk (geg hg (below_size HB.out)); have GE352 := Aside0.mk (geg hg (below_size HB.out)); replace HB := Aside0.mk (below_step HB.out hb); have NB290_352 := Aside0.mk (neg1 hg (Nat.ne_of_lt (blk_lt BK290.out))); have NB352_290 := Aside0.mk (neg2 hg (Nat.ne_of_gt (blk_lt BK290.out))); replace BK290 := Aside0.mk (blk_below BK290.out hb); have NB291_352 := Aside0.mk (neg1 hg (Nat.ne_of_lt (blk_lt BK291.out))); have NB352_291 := Aside0.mk (neg2 hg (Nat.ne_of_gt (blk_lt BK291.out))); replace BK291 := Aside0.mk (blk_below BK291.out hb); have NB306_352 := Aside0.mk (neg1 hg (Nat.ne_of_lt (blk_lt BK306.out))); have NB352_306 := Aside0.mk (neg2 hg (Nat.ne_of_gt (blk_lt BK306.out))); replace BK306 := Aside0.mk (blk_below BK306.out hb); have NB310_352 := Aside0.mk (neg1 hg (Nat.ne_of_lt (blk_lt BK310.out))); have NB352_310 := Aside0.mk (neg2 hg (Nat.ne_of_gt (blk_lt BK310.out))); replace BK310 := Aside0.mk (blk_below BK310.out hb); have NB315_352 := Aside0.mk (neg1 hg (Nat.ne_of_lt (blk_lt BK315.out))); have NB352_315 := Aside0.mk (neg2 hg (Nat.ne_of_gt (blk_lt BK315.out))); replace BK315 := Aside0.mk (blk_below BK315.out hb); have NB321_352 := Aside0.mk (neg1 hg (Nat.ne_of_lt (blk_lt BK321.out))); have NB352_321 := Aside0.mk (neg2 hg (Nat.ne_of_gt (blk_lt BK321.out))); replace BK321 := Aside0.mk (blk_below BK321.out hb)
            clear hb hbox hg
            obtain ⟨Ao189, co189, eo189⟩ := Kd.S_slice HO342.out
            ((injection eo189 with f1_ f2_ f3_; have f4_ := f1_.symm; have f5_ := f3_.symm; clear f1_ f2_ f3_; subst f4_; subst f5_))
            obtain ⟨Ao190, co190, eo190⟩ := Kd.R_slice HO346.out
            ((injection eo190 with f1_ f2_ f3_; have f4_ := f1_.symm; have f5_ := f3_.symm; clear f1_ f2_ f3_; subst f4_; subst f5_))
            refine hK.out _ _ ⟨(blk_cell BK290.out 0).trans rfl, (blk_cell BK291.out 0).trans rfl, (blk_cell BK291.out 1).trans rfl⟩ (fun hHeld => ?_)
            clear hK K
            refine norm_ (a' := ?_) ?_ ?_
            rotate_left
            ·show Act.put _ (some 17) _ = _
             simp only [Act.put, List.setIfInBounds_toArray, List.set_cons_zero, List.set_cons_succ, i64_w, i32_w]
             rfl
            refine one_ (i := 5) (N := some 104) #[true,true,true,true,true,true,false,false,false,true,false,false] rfl rfl (one_of HT_.out (by kernel_rfl)) (by decide) (fun K hK => ?_)
            refine goes_ Try.func27 (by kernel_rfl) rfl #[.agg #[.slice Ao189 t340.length co189], .agg #[.int .i64 t343, .slice Ao190 t344.length co190], .int .i64 a2] (by rfl) rfl rfl (by (simp only [List.map_toArray, List.map_cons, List.map_nil]); rfl) ?_
            with_reducible refine (impl_OuterModule.calls kj108 _ _ t340 t343 _ _ t344 a2 t347 t348 t351 _ ?side1 ?side2 ?side3 ?side4 A174.out).mono ?_
            (case side1 => repeat (exact (Kd.S_reads' HO342.out).2.2))
            (case side2 => exact (Kd.S_reads' HO342.out).2.1)
            (case side3 => repeat (exact (Kd.R_reads' HO346.out).2.2))
            (case side4 => exact (Kd.R_reads' HO346.out).2.1)
            rintro e w191 ⟨v349, rfl, ho0, hb⟩
            refine ⟨_, rfl, ?_⟩
            replace HO_311000 := Aside0.mk (Kd.S_elder' HO_311000.out (Kd.R_base ho0) hb); replace HO342 := Aside0.mk (Kd.S_elder' HO342.out (Kd.R_base ho0) hb); have HO350 := Aside0.mk (Kd.R_lower (Kd.R_new' (Kd.R_new' (Kd.R_new' (Kd.R_new' ho0 (Kd.R_lt HO_307001.out)) (Kd.R_lt HO_316001.out)) (Kd.R_lt HO_322001.out)) (Kd.R_lt HO346.out)) (below_size HB.out)); replace HO_307001 := Aside0.mk (Kd.R_elder' HO_307001.out (Kd.R_base ho0) hb); replace HO_316001 := Aside0.mk (Kd.R_elder' HO_316001.out (Kd.R_base ho0) hb); replace HO_322001 := Aside0.mk (Kd.R_elder' HO_322001.out (Kd.R_base ho0) hb); replace HO346 := Aside0.mk (Kd.R_elder' HO346.out (Kd.R_base ho0) hb); replace BK290 := Aside0.mk (blk_below BK290.out hb); replace BK291 := Aside0.mk (blk_below BK291.out hb); replace BK306 := Aside0.mk (blk_below BK306.out hb); replace BK310 := Aside0.mk (blk_below BK310.out hb); replace BK315 := Aside0.mk (blk_below BK315.out hb); replace BK321 := Aside0.mk (blk_below BK321.out hb); replace BK352 := Aside0.mk (blk_below BK352.out hb); replace HB := Aside0.mk (below_step HB.out hb)
            clear hb
            clear ho0
            refine hK.out _ _ ⟨(blk_cell BK290.out 0).trans rfl, (blk_cell BK291.out 0).trans rfl, (blk_cell BK291.out 1).trans rfl⟩ (fun hHeld => ?_)
            clear hK K
            refine norm_ (a' := ?_) ?_ ?_
            rotate_left
            ·show Act.put _ (some 104) _ = _
             simp only [Act.put, List.setIfInBounds_toArray, List.set_cons_zero, List.set_cons_succ, i64_w, i32_w]
             rfl
            refine pure_ (i := 6) (N := some 98) (v := ?_) (a' := ?_) #[true,true,true,true,true,true,true,false,false,true,false,false] rfl rfl (any_of HT_.out (by kernel_rfl)) (fun _ _ _ h => h) (Or.inl ⟨by rfl, ?_⟩) ?_ ?_
            rotate_left
            ·intro w'
             go_simp
             with_reducible rfl
            rotate_left
            ·simp only [Act.put, List.setIfInBounds_toArray, List.set_cons_zero, List.set_cons_succ, i64_w, i32_w]
             rfl
            refine pure_ (i := 7) (N := some 105) (v := ?_) (a' := ?_) #[true,true,true,true,true,true,true,true,false,true,false,false] rfl rfl (any_of HT_.out (by kernel_rfl)) (fun _ _ _ h => h) (Or.inl ⟨by rfl, ?_⟩) ?_ ?_
            rotate_left
            ·intro w'
             go_simp
             with_reducible rfl
            rotate_left
            ·simp only [Act.put, List.setIfInBounds_toArray, List.set_cons_zero, List.set_cons_succ, i64_w, i32_w]
             rfl
            refine pure_ (i := 8) (N := some 106) (v := ?_) (a' := ?_) #[true,true,true,true,true,true,true,true,true,true,false,false] rfl rfl (any_of HT_.out (by kernel_rfl)) (fun _ _ _ h => h) (Or.inl ⟨by rfl, ?_⟩) ?_ ?_
            rotate_left
            ·intro w'
             go_simp
             with_reducible rfl
            rotate_left
            ·simp only [Act.put, List.setIfInBounds_toArray, List.set_cons_zero, List.set_cons_succ, i64_w, i32_w]
             rfl
            exact norm_ (by simp only [putAll, Act.put, List.setIfInBounds_toArray, List.set_cons_zero, List.set_cons_succ]) (hCont (.slice Ao189 t340.length co189, .slice Ao190 t344.length co190, v349, gb352) _ ⟨hHeld, (by exact Kd.S_mono HO342.out (fun _ hk => ⟨hk.1.2, ⟨hk.2, ⟨hk.1.1.1.1.1.2, ⟨hk.1.1.1.1.2, ⟨hk.1.1.1.2, hk.1.1.2⟩⟩⟩⟩⟩)), (by exact Kd.R_mono HO346.out (fun _ hk => ⟨hk.2, ⟨hk.1.1.1.2, ⟨hk.1.1.2, hk.1.2⟩⟩⟩)), (by exact Kd.R_mono HO350.out (fun _ hk => ⟨hk.2, ⟨hk.1.1.1.2, ⟨hk.1.1.2, hk.1.2⟩⟩⟩)), (by exact Kd.R_mono HO_307001.out (fun _ hk => ⟨hk.1.2, ⟨hk.2, ⟨hk.1.1.1, hk.1.1.2⟩⟩⟩)), (by exact Kd.S_mono HO_311000.out (fun _ hk => ⟨hk.1.1.2, ⟨hk.1.2, ⟨hk.2, ⟨hk.1.1.1.1, ⟨hk.1.1.1.2.1, hk.1.1.1.2.2⟩⟩⟩⟩⟩)), (by exact Kd.R_mono HO_316001.out (fun _ hk => ⟨hk.1.2, ⟨hk.2, ⟨hk.1.1.1, hk.1.1.2⟩⟩⟩)), (by exact Kd.R_mono HO_322001.out (fun _ hk => ⟨hk.1.2, ⟨hk.2, ⟨hk.1.1.1, hk.1.1.2⟩⟩⟩)), BK290.out, BK291.out, BK306.out, BK310.out, BK315.out, BK321.out, BK352.out, GW352.out, GE352.out, NB290_352.out, NB352_290.out, NB291_352.out, NB352_291.out, NB306_352.out, NB352_306.out, NB310_352.out, NB352_310.out, NB315_352.out, NB352_315.out, NB321_352.out, NB352_321.out, HB.out⟩)
          ·skip
           refine box_step ?hg (N := 17) ?hd (cs := #[.int .i64 0, .slice none 0 0]) (t := 30) ?hr ?_; (case hd => rfl); (case hg => rfl); (case hr => (go_simp; done))
           intro gb352 hg w187 hbox hb
           replace HO_307001 := Aside0.mk (Kd.R_below HO_307001.out hb); replace HO_311000 := Aside0.mk (Kd.S_below HO_311000.out hb); replace HO_316001 := Aside0.mk (Kd.R_below HO_316001.out hb); replace HO_322001 := Aside0.mk (Kd.R_below HO_322001.out hb); replace HO342 := Aside0.mk (Kd.S_below HO342.out hb); have BK352 := Aside0.mk (hbox); have GW352 := Aside0.mk (geg hg (below_size HB.out)); have GE352 := Aside0.mk (geg hg (below_size HB.out)); replace HB := Aside0.mk (below_step HB.out hb); have NB290_352 := Aside0.mk (neg1 hg (Nat.ne_of_lt (blk_lt BK290.out))); have NB352_290 := Aside0.mk (neg2 hg (Nat.ne_of_gt (blk_lt BK290.out))); replace BK290 := Aside0.mk (blk_below BK290.out hb); have NB291_352 := Aside0.mk (neg1 hg (Nat.ne_of_lt (blk_lt BK291.out))); have NB352_291 := Aside0.mk (neg2 hg (Nat.ne_of_gt (blk_lt BK291.out))); replace BK291 := Aside0.mk (blk_below BK291.out hb); have NB306_352 := Aside0.mk (neg1 hg (Nat.ne_of_lt (blk_lt BK306.out))); have NB352_306 := Aside0.mk (neg2 hg (Nat.ne_of_gt (blk_lt BK306.out))); replace BK306 := Aside0.mk (blk_below BK306.out hb); have NB310_352 := Aside0.mk (neg1 hg (Nat.ne_of_lt (blk_lt BK310.out))); have NB352_310 := Aside0.mk (neg2 hg (Nat.ne_of_gt (blk_lt BK310.out))); replace BK310 := Aside0.mk (blk_below BK310.out hb); have NB315_352 := Aside0.mk (neg1 hg (Nat.ne_of_lt (blk_lt BK315.out))); have NB352_315 := Aside0.mk (neg2 hg (Nat.ne_of_gt (blk_lt BK315.out))); replace BK315 := Aside0.mk (blk_below BK315.out hb); have NB321_352 := Aside0.mk (neg1 hg (Nat.ne_of_lt (blk_lt BK321.out))); have NB352_321 := Aside0.mk (neg2 hg (Nat.ne_of_gt (blk_lt BK321.out))); replace BK321 := Aside0.mk (blk_below BK321.out hb)
           clear hb hbox hg
           refine hK.out _ _ ⟨(blk_cell BK290.out 0).trans rfl, (blk_cell BK291.out 0).trans rfl, (blk_cell BK291.out 1).trans rfl⟩ (fun hHeld => ?_)
           clear hK K
           refine norm_ (a' := ?_) ?_ ?_
           rotate_left
           ·show Act.put _ (some 17) _ = _
            simp only [Act.put, List.setIfInBounds_toArray, List.set_cons_zero, List.set_cons_succ, i64_w, i32_w]
            rfl
           refine one_ (i := 3) (N := some 102) #[true,true,true,true,true,false,false,false,false,true,false,false] rfl rfl (one_of HT_.out (by kernel_rfl)) (by decide) (fun K hK => ?_)
           refine goes_ Try.func19 (by kernel_rfl) rfl #[.agg #[.int .i64 a1_0, .slice A1_1 l1_1.length c1_1]] (by rfl) rfl rfl (by (simp only [List.map_toArray, List.map_cons, List.map_nil]); rfl) ?_
           with_reducible refine (laws_toModule.calls kj108 a1_0 _ _ l1_1 t343 t344 _ ?side1 ?side2 A173.out).mono ?_
           (case side1 => exact (Kd.C_below HR1_1.out HB.out))
           (case side2 => exact HC1_1.out)
           rintro e w188 ⟨v345, rfl, ho0, hb⟩
           refine ⟨_, rfl, ?_⟩
           replace HO_311000 := Aside0.mk (Kd.S_elder' HO_311000.out (Kd.R_base ho0) hb); replace HO342 := Aside0.mk (Kd.S_elder' HO342.out (Kd.R_base ho0) hb); have HO346 := Aside0.mk (Kd.R_lower (Kd.R_new' (Kd.R_new' (Kd.R_new' ho0 (Kd.R_lt HO_307001.out)) (Kd.R_lt HO_316001.out)) (Kd.R_lt HO_322001.out)) (below_size HB.out)); replace HO_307001 := Aside0.mk (Kd.R_elder' HO_307001.out (Kd.R_base ho0) hb); replace HO_316001 := Aside0.mk (Kd.R_elder' HO_316001.out (Kd.R_base ho0) hb); replace HO_322001 := Aside0.mk (Kd.R_elder' HO_322001.out (Kd.R_base ho0) hb); replace BK290 := Aside0.mk (blk_below BK290.out hb); replace BK291 := Aside0.mk (blk_below BK291.out hb); replace BK306 := Aside0.mk (blk_below BK306.out hb); replace BK310 := Aside0.mk (blk_below BK310.out hb); replace BK315 := Aside0.mk (blk_below BK315.out hb); replace BK321 := Aside0.mk (blk_below BK321.out hb); replace BK352 := Aside0.mk (blk_below BK352.out hb); replace HB := Aside0.mk (below_step HB.out hb)
           clear hb
           clear ho0
           obtain ⟨Ao189, co189, eo189⟩ := Kd.S_slice HO342.out
           (subst eo189)
           obtain ⟨Ao190, co190, eo190⟩ := Kd.R_slice HO346.out
           (subst eo190)
           refine hK.out _ _ ⟨(blk_cell BK290.out 0).trans rfl, (blk_cell BK291.out 0).trans rfl, (blk_cell BK291.out 1).trans rfl⟩ (fun hHeld => ?_)
           clear hK K
           refine norm_ (a' := ?_) ?_ ?_
           rotate_left
           ·show Act.put _ (some 102) _ = _
            simp only [Act.put, List.setIfInBounds_toArray, List.set_cons_zero, List.set_cons_succ, i64_w, i32_w]
            rfl
           refine one_ (i := 5) (N := some 104) #[true,true,true,true,true,true,false,false,false,true,false,false] rfl rfl (one_of HT_.out (by kernel_rfl)) (by decide) (fun K hK => ?_)
           refine goes_ Try.func27 (by kernel_rfl) rfl #[.agg #[.slice Ao189 t340.length co189], .agg #[.int .i64 t343, .slice Ao190 t344.length co190], .int .i64 a2] (by rfl) rfl rfl (by (simp only [List.map_toArray, List.map_cons, List.map_nil]); rfl) ?_
           with_reducible refine (impl_OuterModule.calls kj108 _ _ t340 t343 _ _ t344 a2 t347 t348 t351 _ ?side1 ?side2 ?side3 ?side4 A174.out).mono ?_
           (case side1 => repeat (exact (Kd.S_reads' HO342.out).2.2))
           (case side2 => exact (Kd.S_reads' HO342.out).2.1)
           (case side3 => repeat (exact (Kd.R_reads' HO346.out).2.2))
           (case side4 => exact (Kd.R_reads' HO346.out).2.1)
           rintro e w191 ⟨v349, rfl, ho0, hb⟩
           refine ⟨_, rfl, ?_⟩
           replace HO_311000 := Aside0.mk (Kd.S_elder' HO_311000.out (Kd.R_base ho0) hb); replace HO342 := Aside0.mk (Kd.S_elder' HO342.out (Kd.R_base ho0) hb); have HO350 := Aside0.mk (Kd.R_lower (Kd.R_new' (Kd.R_new' (Kd.R_new' (Kd.R_new' ho0 (Kd.R_lt HO_307001.out)) (Kd.R_lt HO_316001.out)) (Kd.R_lt HO_322001.out)) (Kd.R_lt HO346.out)) (below_size HB.out)); replace HO_307001 := Aside0.mk (Kd.R_elder' HO_307001.out (Kd.R_base ho0) hb); replace HO_316001 := Aside0.mk (Kd.R_elder' HO_316001.out (Kd.R_base ho0) hb); replace HO_322001 := Aside0.mk (Kd.R_elder' HO_322001.out (Kd.R_base ho0) hb); replace HO346 := Aside0.mk (Kd.R_elder' HO346.out (Kd.R_base ho0) hb); replace BK290 := Aside0.mk (blk_below BK290.out hb); replace BK291 := Aside0.mk (blk_below BK291.out hb); replace BK306 := Aside0.mk (blk_below BK306.out hb); replace BK310 := Aside0.mk (blk_below BK310.out hb); replace BK315 := Aside0.mk (blk_below BK315.out hb); replace BK321 := Aside0.mk (blk_below BK321.out hb); replace BK352 := Aside0.mk (blk_below BK352.out hb); replace HB := Aside0.mk (below_step HB.out hb)
           clear hb
           clear ho0
           refine hK.out _ _ ⟨(blk_cell BK290.out 0).trans rfl, (blk_cell BK291.out 0).trans rfl, (blk_cell BK291.out 1).trans rfl⟩ (fun hHeld => ?_)
           clear hK K
           refine norm_ (a' := ?_) ?_ ?_
           rotate_left
           ·show Act.put _ (some 104) _ = _
            simp only [Act.put, List.setIfInBounds_toArray, List.set_cons_zero, List.set_cons_succ, i64_w, i32_w]
            rfl
           refine pure_ (i := 6) (N := some 98) (v := ?_) (a' := ?_) #[true,true,true,true,true,true,true,false,false,true,false,false] rfl rfl (any_of HT_.out (by kernel_rfl)) (fun _ _ _ h => h) (Or.inl ⟨by rfl, ?_⟩) ?_ ?_
           rotate_left
           ·intro w'
            go_simp
            with_reducible rfl
           rotate_left
           ·simp only [Act.put, List.setIfInBounds_toArray, List.set_cons_zero, List.set_cons_succ, i64_w, i32_w]
            rfl
           refine pure_ (i := 7) (N := some 105) (v := ?_) (a' := ?_) #[true,true,true,true,true,true,true,true,false,true,false,false] rfl rfl (any_of HT_.out (by kernel_rfl)) (fun _ _ _ h => h) (Or.inl ⟨by rfl, ?_⟩) ?_ ?_
           rotate_left
           ·intro w'
            go_simp
            with_reducible rfl
           rotate_left
           ·simp only [Act.put, List.setIfInBounds_toArray, List.set_cons_zero, List.set_cons_succ, i64_w, i32_w]
            rfl
           refine pure_ (i := 8) (N := some 106) (v := ?_) (a' := ?_) #[true,true,true,true,true,true,true,true,true,true,false,false] rfl rfl (any_of HT_.out (by kernel_rfl)) (fun _ _ _ h => h) (Or.inl ⟨by rfl, ?_⟩) ?_ ?_
           rotate_left
           ·intro w'
            go_simp
            with_reducible rfl
           rotate_left
           ·simp only [Act.put, List.setIfInBounds_toArray, List.set_cons_zero, List.set_cons_succ, i64_w, i32_w]
            rfl
           exact norm_ (by simp only [putAll, Act.put, List.setIfInBounds_toArray, List.set_cons_zero, List.set_cons_succ]) (hCont (.slice Ao189 t340.length co189, .slice Ao190 t344.length co190, v349, gb352) _ ⟨hHeld, (by exact Kd.S_mono HO342.out (fun _ hk => ⟨hk.1.2, ⟨hk.2, ⟨hk.1.1.1.1.1.2, ⟨hk.1.1.1.1.2, ⟨hk.1.1.1.2, hk.1.1.2⟩⟩⟩⟩⟩)), (by exact Kd.R_mono HO346.out (fun _ hk => ⟨hk.2, ⟨hk.1.1.1.2, ⟨hk.1.1.2, hk.1.2⟩⟩⟩)), (by exact Kd.R_mono HO350.out (fun _ hk => ⟨hk.2, ⟨hk.1.1.1.2, ⟨hk.1.1.2, hk.1.2⟩⟩⟩)), (by exact Kd.R_mono HO_307001.out (fun _ hk => ⟨hk.1.2, ⟨hk.2, ⟨hk.1.1.1, hk.1.1.2⟩⟩⟩)), (by exact Kd.S_mono HO_311000.out (fun _ hk => ⟨hk.1.1.2, ⟨hk.1.2, ⟨hk.2, ⟨hk.1.1.1.1, ⟨hk.1.1.1.2.1, hk.1.1.1.2.2⟩⟩⟩⟩⟩)), (by exact Kd.R_mono HO_316001.out (fun _ hk => ⟨hk.1.2, ⟨hk.2, ⟨hk.1.1.1, hk.1.1.2⟩⟩⟩)), (by exact Kd.R_mono HO_322001.out (fun _ hk => ⟨hk.1.2, ⟨hk.2, ⟨hk.1.1.1, hk.1.1.2⟩⟩⟩)), BK290.out, BK291.out, BK306.out, BK310.out, BK315.out, BK321.out, BK352.out, GW352.out, GE352.out, NB290_352.out, NB352_290.out, NB291_352.out, NB352_291.out, NB306_352.out, NB352_306.out, NB310_352.out, NB352_310.out, NB315_352.out, NB352_315.out, NB321_352.out, NB352_321.out, HB.out⟩)
         ·skip
          refine box_step ?hg (N := 17) ?hd (cs := #[.int .i64 0, .slice none 0 0]) (t := 30) ?hr ?_; (case hd => rfl); (case hg => rfl); (case hr => (go_simp; done))
          intro gb352 hg w186 hbox hb
          replace HO_307001 := Aside0.mk (Kd.R_below HO_307001.out hb); replace HO_311000 := Aside0.mk (Kd.S_below HO_311000.out hb); replace HO_316001 := Aside0.mk (Kd.R_below HO_316001.out hb); replace HO_322001 := Aside0.mk (Kd.R_below HO_322001.out hb); have BK352 := Aside0.mk (hbox); have GW352 := Aside0.mk (geg hg (below_size HB.out)); have GE352 := Aside0.mk (geg hg (below_size HB.out)); replace HB := Aside0.mk (below_step HB.out hb); have NB290_352 := Aside0.mk (neg1 hg (Nat.ne_of_lt (blk_lt BK290.out))); have NB352_290 := Aside0.mk (neg2 hg (Nat.ne_of_gt (blk_lt BK290.out))); replace BK290 := Aside0.mk (blk_below BK290.out hb); have NB291_352 := Aside0.mk (neg1 hg (Nat.ne_of_lt (blk_lt BK291.out))); have NB352_291 := Aside0.mk (neg2 hg (Nat.ne_of_gt (blk_lt BK291.out))); replace BK291 := Aside0.mk (blk_below BK291.out hb); have NB306_352 := Aside0.mk (neg1 hg (Nat.ne_of_lt (blk_lt BK306.out))); have NB352_306 := Aside0.mk (neg2 hg (Nat.ne_of_gt (blk_lt BK306.out))); replace BK306 := Aside0.mk (blk_below BK306.out hb); have NB310_352 := Aside0.mk (neg1 hg (Nat.ne_of_lt (blk_lt BK310.out))); have NB352_310 := Aside0.mk (neg2 hg (Nat.ne_of_gt (blk_lt BK310.out))); replace BK310 := Aside0.mk (blk_below BK310.out hb); have NB315_352 := Aside0.mk (neg1 hg (Nat.ne_of_lt (blk_lt BK315.out))); have NB352_315 := Aside0.mk (neg2 hg (Nat.ne_of_gt (blk_lt BK315.out))); replace BK315 := Aside0.mk (blk_below BK315.out hb); have NB321_352 := Aside0.mk (neg1 hg (Nat.ne_of_lt (blk_lt BK321.out))); have NB352_321 := Aside0.mk (neg2 hg (Nat.ne_of_gt (blk_lt BK321.out))); replace BK321 := Aside0.mk (blk_below BK321.out hb)
          clear hb hbox hg
          refine hK.out _ _ ⟨(blk_cell BK290.out 0).trans rfl, (blk_cell BK291.out 0).trans rfl, (blk_cell BK291.out 1).trans rfl⟩ (fun hHeld => ?_)
          clear hK K
          refine norm_ (a' := ?_) ?_ ?_
          rotate_left
          ·show Act.put _ (some 17) _ = _
           simp only [Act.put, List.setIfInBounds_toArray, List.set_cons_zero, List.set_cons_succ, i64_w, i32_w]
           rfl
          refine one_ (i := 1) (N := some 100) #[true,true,true,false,true,false,false,false,false,true,false,false] rfl rfl (one_of HT_.out (by kernel_rfl)) (by decide) (fun K hK => ?_)
          refine goes_ Try.func18 (by kernel_rfl) rfl #[.agg #[.slice A0_0 l0_0.length c0_0]] (by rfl) rfl rfl (by (simp only [List.map_toArray, List.map_cons, List.map_nil]); rfl) ?_
          with_reducible refine (laws_toGroup.calls kj108 _ _ l0_0 t340 _ ?side1 ?side2 A172.out).mono ?_
          (case side1 => exact (Kd.C_below HR0_0.out HB.out))
          (case side2 => exact HC0_0.out)
          rintro e w187 ⟨v341, rfl, ho0, hb⟩
          refine ⟨_, rfl, ?_⟩
          have HO342 := Aside0.mk (Kd.S_lower (Kd.S_new' (Kd.S_new' (Kd.S_new' (Kd.S_new' ho0 (Kd.R_lt HO_307001.out)) (Kd.S_lt HO_311000.out)) (Kd.R_lt HO_316001.out)) (Kd.R_lt HO_322001.out)) (below_size HB.out)); replace HO_307001 := Aside0.mk (Kd.R_below HO_307001.out hb); replace HO_311000 := Aside0.mk (Kd.S_elder' HO_311000.out (Kd.S_base ho0) hb); replace HO_316001 := Aside0.mk (Kd.R_below HO_316001.out hb); replace HO_322001 := Aside0.mk (Kd.R_below HO_322001.out hb); replace BK290 := Aside0.mk (blk_below BK290.out hb); replace BK291 := Aside0.mk (blk_below BK291.out hb); replace BK306 := Aside0.mk (blk_below BK306.out hb); replace BK310 := Aside0.mk (blk_below BK310.out hb); replace BK315 := Aside0.mk (blk_below BK315.out hb); replace BK321 := Aside0.mk (blk_below BK321.out hb); replace BK352 := Aside0.mk (blk_below BK352.out hb); replace HB := Aside0.mk (below_step HB.out hb)
          clear hb
          clear ho0
          refine hK.out _ _ ⟨(blk_cell BK290.out 0).trans rfl, (blk_cell BK291.out 0).trans rfl, (blk_cell BK291.out 1).trans rfl⟩ (fun hHeld => ?_)
          clear hK K
          refine norm_ (a' := ?_) ?_ ?_
          rotate_left
          ·show Act.put _ (some 100) _ = _
           simp only [Act.put, List.setIfInBounds_toArray, List.set_cons_zero, List.set_cons_succ, i64_w, i32_w]
           rfl
          refine one_ (i := 3) (N := some 102) #[true,true,true,true,true,false,false,false,false,true,false,false] rfl rfl (one_of HT_.out (by kernel_rfl)) (by decide) (fun K hK => ?_)
          refine goes_ Try.func19 (by kernel_rfl) rfl #[.agg #[.int .i64 a1_0, .slice A1_1 l1_1.length c1_1]] (by rfl) rfl rfl (by (simp only [List.map_toArray, List.map_cons, List.map_nil]); rfl) ?_
          with_reducible refine (laws_toModule.calls kj108 a1_0 _ _ l1_1 t343 t344 _ ?side1 ?side2 A173.out).mono ?_
          (case side1 => exact (Kd.C_below HR1_1.out HB.out))
          (case side2 => exact HC1_1.out)
          rintro e w188 ⟨v345, rfl, ho0, hb⟩
          refine ⟨_, rfl, ?_⟩
          replace HO_311000 := Aside0.mk (Kd.S_elder' HO_311000.out (Kd.R_base ho0) hb); replace HO342 := Aside0.mk (Kd.S_elder' HO342.out (Kd.R_base ho0) hb); have HO346 := Aside0.mk (Kd.R_lower (Kd.R_new' (Kd.R_new' (Kd.R_new' ho0 (Kd.R_lt HO_307001.out)) (Kd.R_lt HO_316001.out)) (Kd.R_lt HO_322001.out)) (below_size HB.out)); replace HO_307001 := Aside0.mk (Kd.R_elder' HO_307001.out (Kd.R_base ho0) hb); replace HO_316001 := Aside0.mk (Kd.R_elder' HO_316001.out (Kd.R_base ho0) hb); replace HO_322001 := Aside0.mk (Kd.R_elder' HO_322001.out (Kd.R_base ho0) hb); replace BK290 := Aside0.mk (blk_below BK290.out hb); replace BK291 := Aside0.mk (blk_below BK291.out hb); replace BK306 := Aside0.mk (blk_below BK306.out hb); replace BK310 := Aside0.mk (blk_below BK310.out hb); replace BK315 := Aside0.mk (blk_below BK315.out hb); replace BK321 := Aside0.mk (blk_below BK321.out hb); replace BK352 := Aside0.mk (blk_below BK352.out hb); replace HB := Aside0.mk (below_step HB.out hb)
          clear hb
          clear ho0
          obtain ⟨Ao189, co189, eo189⟩ := Kd.S_slice HO342.out
          (subst eo189)
          obtain ⟨Ao190, co190, eo190⟩ := Kd.R_slice HO346.out
          (subst eo190)
          refine hK.out _ _ ⟨(blk_cell BK290.out 0).trans rfl, (blk_cell BK291.out 0).trans rfl, (blk_cell BK291.out 1).trans rfl⟩ (fun hHeld => ?_)
          clear hK K
          refine norm_ (a' := ?_) ?_ ?_
          rotate_left
          ·show Act.put _ (some 102) _ = _
           simp only [Act.put, List.setIfInBounds_toArray, List.set_cons_zero, List.set_cons_succ, i64_w, i32_w]
           rfl
          refine one_ (i := 5) (N := some 104) #[true,true,true,true,true,true,false,false,false,true,false,false] rfl rfl (one_of HT_.out (by kernel_rfl)) (by decide) (fun K hK => ?_)
          refine goes_ Try.func27 (by kernel_rfl) rfl #[.agg #[.slice Ao189 t340.length co189], .agg #[.int .i64 t343, .slice Ao190 t344.length co190], .int .i64 a2] (by rfl) rfl rfl (by (simp only [List.map_toArray, List.map_cons, List.map_nil]); rfl) ?_
          with_reducible refine (impl_OuterModule.calls kj108 _ _ t340 t343 _ _ t344 a2 t347 t348 t351 _ ?side1 ?side2 ?side3 ?side4 A174.out).mono ?_
          (case side1 => repeat (exact (Kd.S_reads' HO342.out).2.2))
          (case side2 => exact (Kd.S_reads' HO342.out).2.1)
          (case side3 => repeat (exact (Kd.R_reads' HO346.out).2.2))
          (case side4 => exact (Kd.R_reads' HO346.out).2.1)
          rintro e w191 ⟨v349, rfl, ho0, hb⟩
          refine ⟨_, rfl, ?_⟩
          replace HO_311000 := Aside0.mk (Kd.S_elder' HO_311000.out (Kd.R_base ho0) hb); replace HO342 := Aside0.mk (Kd.S_elder' HO342.out (Kd.R_base ho0) hb); have HO350 := Aside0.mk (Kd.R_lower (Kd.R_new' (Kd.R_new' (Kd.R_new' (Kd.R_new' ho0 (Kd.R_lt HO_307001.out)) (Kd.R_lt HO_316001.out)) (Kd.R_lt HO_322001.out)) (Kd.R_lt HO346.out)) (below_size HB.out)); replace HO_307001 := Aside0.mk (Kd.R_elder' HO_307001.out (Kd.R_base ho0) hb); replace HO_316001 := Aside0.mk (Kd.R_elder' HO_316001.out (Kd.R_base ho0) hb); replace HO_322001 := Aside0.mk (Kd.R_elder' HO_322001.out (Kd.R_base ho0) hb); replace HO346 := Aside0.mk (Kd.R_elder' HO346.out (Kd.R_base ho0) hb); replace BK290 := Aside0.mk (blk_below BK290.out hb); replace BK291 := Aside0.mk (blk_below BK291.out hb); replace BK306 := Aside0.mk (blk_below BK306.out hb); replace BK310 := Aside0.mk (blk_below BK310.out hb); replace BK315 := Aside0.mk (blk_below BK315.out hb); replace BK321 := Aside0.mk (blk_below BK321.out hb); replace BK352 := Aside0.mk (blk_below BK352.out hb); replace HB := Aside0.mk (below_step HB.out hb)
          clear hb
          clear ho0
          refine hK.out _ _ ⟨(blk_cell BK290.out 0).trans rfl, (blk_cell BK291.out 0).trans rfl, (blk_cell BK291.out 1).trans rfl⟩ (fun hHeld => ?_)
          clear hK K
          refine norm_ (a' := ?_) ?_ ?_
          rotate_left
          ·show Act.put _ (some 104) _ = _
           simp only [Act.put, List.setIfInBounds_toArray, List.set_cons_zero, List.set_cons_succ, i64_w, i32_w]
           rfl
          refine pure_ (i := 6) (N := some 98) (v := ?_) (a' := ?_) #[true,true,true,true,true,true,true,false,false,true,false,false] rfl rfl (any_of HT_.out (by kernel_rfl)) (fun _ _ _ h => h) (Or.inl ⟨by rfl, ?_⟩) ?_ ?_
          rotate_left
          ·intro w'
           go_simp
           with_reducible rfl
          rotate_left
          ·simp only [Act.put, List.setIfInBounds_toArray, List.set_cons_zero, List.set_cons_succ, i64_w, i32_w]
           rfl
          refine pure_ (i := 7) (N := some 105) (v := ?_) (a' := ?_) #[true,true,true,true,true,true,true,true,false,true,false,false] rfl rfl (any_of HT_.out (by kernel_rfl)) (fun _ _ _ h => h) (Or.inl ⟨by rfl, ?_⟩) ?_ ?_
          rotate_left
          ·intro w'
           go_simp
           with_reducible rfl
          rotate_left
          ·simp only [Act.put, List.setIfInBounds_toArray, List.set_cons_zero, List.set_cons_succ, i64_w, i32_w]
           rfl
          refine pure_ (i := 8) (N := some 106) (v := ?_) (a' := ?_) #[true,true,true,true,true,true,true,true,true,true,false,false] rfl rfl (any_of HT_.out (by kernel_rfl)) (fun _ _ _ h => h) (Or.inl ⟨by rfl, ?_⟩) ?_ ?_
          rotate_left
          ·intro w'
           go_simp
           with_reducible rfl
          rotate_left
          ·simp only [Act.put, List.setIfInBounds_toArray, List.set_cons_zero, List.set_cons_succ, i64_w, i32_w]
           rfl
          exact norm_ (by simp only [putAll, Act.put, List.setIfInBounds_toArray, List.set_cons_zero, List.set_cons_succ]) (hCont (.slice Ao189 t340.length co189, .slice Ao190 t344.length co190, v349, gb352) _ ⟨hHeld, (by exact Kd.S_mono HO342.out (fun _ hk => ⟨hk.1.2, ⟨hk.2, ⟨hk.1.1.1.1.1.2, ⟨hk.1.1.1.1.2, ⟨hk.1.1.1.2, hk.1.1.2⟩⟩⟩⟩⟩)), (by exact Kd.R_mono HO346.out (fun _ hk => ⟨hk.2, ⟨hk.1.1.1.2, ⟨hk.1.1.2, hk.1.2⟩⟩⟩)), (by exact Kd.R_mono HO350.out (fun _ hk => ⟨hk.2, ⟨hk.1.1.1.2, ⟨hk.1.1.2, hk.1.2⟩⟩⟩)), (by exact Kd.R_mono HO_307001.out (fun _ hk => ⟨hk.1.2, ⟨hk.2, ⟨hk.1.1.1, hk.1.1.2⟩⟩⟩)), (by exact Kd.S_mono HO_311000.out (fun _ hk => ⟨hk.1.1.2, ⟨hk.1.2, ⟨hk.2, ⟨hk.1.1.1.1, ⟨hk.1.1.1.2.1, hk.1.1.1.2.2⟩⟩⟩⟩⟩)), (by exact Kd.R_mono HO_316001.out (fun _ hk => ⟨hk.1.2, ⟨hk.2, ⟨hk.1.1.1, hk.1.1.2⟩⟩⟩)), (by exact Kd.R_mono HO_322001.out (fun _ hk => ⟨hk.1.2, ⟨hk.2, ⟨hk.1.1.1, hk.1.1.2⟩⟩⟩)), BK290.out, BK291.out, BK306.out, BK310.out, BK315.out, BK321.out, BK352.out, GW352.out, GE352.out, NB290_352.out, NB352_290.out, NB291_352.out, NB352_291.out, NB306_352.out, NB352_306.out, NB310_352.out, NB352_310.out, NB315_352.out, NB352_315.out, NB321_352.out, NB352_321.out, HB.out⟩)
        rintro ⟨v341, v345, v349, gb352⟩ w192 ⟨hS_, h0_, h1_, h2_, h3_, h4_, h5_, h6_, h7_, h8_, h9_, h10_, h11_, h12_, h13_, h14_, h15_, h16_, h17_, h18_, h19_, h20_, h21_, h22_, h23_, h24_, h25_, h26_, h27_, h28_⟩
        have n0_ : Aside0 (Kd.S (Kd.slice 2 (Kd.int .i64)) 25 w192 w.heap.size (fun k_ => some k_ ≠ (v345 : Value).ownBlock ∧ some k_ ≠ (v349 : Value).ownBlock ∧ some k_ ≠ (.slice Ao43 t302.length co43 : Value).ownBlock ∧ some k_ ≠ (.slice Ao49 t333.length co49 : Value).ownBlock ∧ some k_ ≠ (.slice Ao63 t335.length co63 : Value).ownBlock ∧ some k_ ≠ (.slice Ao73 t317.length co73 : Value).ownBlock) v341 t340) := ⟨h0_⟩
        have n1_ : Aside0 (Kd.R (Kd.int .i64) 2 w192 w.heap.size (fun k_ => some k_ ≠ (v349 : Value).ownBlock ∧ some k_ ≠ (.slice Ao43 t302.length co43 : Value).ownBlock ∧ some k_ ≠ (.slice Ao63 t335.length co63 : Value).ownBlock ∧ some k_ ≠ (.slice Ao73 t317.length co73 : Value).ownBlock) v345 t344) := ⟨h1_⟩
        have n2_ : Aside0 (Kd.R (Kd.int .i64) 2 w192 w.heap.size (fun k_ => some k_ ≠ (v345 : Value).ownBlock ∧ some k_ ≠ (.slice Ao43 t302.length co43 : Value).ownBlock ∧ some k_ ≠ (.slice Ao63 t335.length co63 : Value).ownBlock ∧ some k_ ≠ (.slice Ao73 t317.length co73 : Value).ownBlock) v349 t348) := ⟨h2_⟩
        have n3_ : Aside0 (Kd.R (Kd.int .i64) 2 w192 w.heap.size (fun k_ => some k_ ≠ (v345 : Value).ownBlock ∧ some k_ ≠ (v349 : Value).ownBlock ∧ some k_ ≠ (.slice Ao63 t335.length co63 : Value).ownBlock ∧ some k_ ≠ (.slice Ao73 t317.length co73 : Value).ownBlock) (.slice Ao43 t302.length co43) t302) := ⟨h3_⟩
        have n4_ : Aside0 (Kd.S (Kd.slice 2 (Kd.int .i64)) 25 w192 w.heap.size (fun k_ => some k_ ≠ (v341 : Value).ownBlock ∧ some k_ ≠ (v345 : Value).ownBlock ∧ some k_ ≠ (v349 : Value).ownBlock ∧ some k_ ≠ (.slice Ao43 t302.length co43 : Value).ownBlock ∧ some k_ ≠ (.slice Ao63 t335.length co63 : Value).ownBlock ∧ some k_ ≠ (.slice Ao73 t317.length co73 : Value).ownBlock) (.slice Ao49 t333.length co49) t333) := ⟨h4_⟩
        have n5_ : Aside0 (Kd.R (Kd.int .i64) 2 w192 w.heap.size (fun k_ => some k_ ≠ (v345 : Value).ownBlock ∧ some k_ ≠ (v349 : Value).ownBlock ∧ some k_ ≠ (.slice Ao43 t302.length co43 : Value).ownBlock ∧ some k_ ≠ (.slice Ao73 t317.length co73 : Value).ownBlock) (.slice Ao63 t335.length co63) t335) := ⟨h5_⟩
        have n6_ : Aside0 (Kd.R (Kd.int .i64) 2 w192 w.heap.size (fun k_ => some k_ ≠ (v345 : Value).ownBlock ∧ some k_ ≠ (v349 : Value).ownBlock ∧ some k_ ≠ (.slice Ao43 t302.length co43 : Value).ownBlock ∧ some k_ ≠ (.slice Ao63 t335.length co63 : Value).ownBlock) (.slice Ao73 t317.length co73) t338) := ⟨h6_⟩
        have n7_ : Aside0 (w192.heap[gb290]? = some (.cells #[.slice A0_0 l0_0.length c0_0] 24 (0, 0))) := ⟨h7_⟩
        have n8_ : Aside0 (w192.heap[gb291]? = some (.cells #[.int .i64 a1_0, .slice A1_1 l1_1.length c1_1] 27 (0, 0))) := ⟨h8_⟩
        have n9_ : Aside0 (w192.heap[gb306]? = some (.cells #[.int .i64 t301, .slice Ao43 t302.length co43] 30 (0, 0))) := ⟨h9_⟩
        have n10_ : Aside0 (w192.heap[gb310]? = some (.cells #[.slice Ao49 t333.length co49] 33 (0, 0))) := ⟨h10_⟩
        have n11_ : Aside0 (w192.heap[gb315]? = some (.cells #[.int .i64 t311, .slice Ao63 t335.length co63] 30 (0, 0))) := ⟨h11_⟩
        have n12_ : Aside0 (w192.heap[gb321]? = some (.cells #[.int .i64 t316, .slice Ao73 t317.length co73] 30 (0, 0))) := ⟨h12_⟩
        have n13_ : Aside0 (w192.heap[gb352]? = some (.cells #[.int .i64 0, .slice none 0 0] 30 (0, 0))) := ⟨h13_⟩
        have n14_ : Aside0 (w.heap.size ≤ gb352) := ⟨h14_⟩
        have n15_ : Aside0 (w.heap.size ≤ gb352) := ⟨h15_⟩
        have n16_ : Aside0 (gb290 ≠ gb352) := ⟨h16_⟩
        have n17_ : Aside0 (gb352 ≠ gb290) := ⟨h17_⟩
        have n18_ : Aside0 (gb291 ≠ gb352) := ⟨h18_⟩
        have n19_ : Aside0 (gb352 ≠ gb291) := ⟨h19_⟩
        have n20_ : Aside0 (gb306 ≠ gb352) := ⟨h20_⟩
        have n21_ : Aside0 (gb352 ≠ gb306) := ⟨h21_⟩
        have n22_ : Aside0 (gb310 ≠ gb352) := ⟨h22_⟩
        have n23_ : Aside0 (gb352 ≠ gb310) := ⟨h23_⟩
        have n24_ : Aside0 (gb315 ≠ gb352) := ⟨h24_⟩
        have n25_ : Aside0 (gb352 ≠ gb315) := ⟨h25_⟩
        have n26_ : Aside0 (gb321 ≠ gb352) := ⟨h26_⟩
        have n27_ : Aside0 (gb352 ≠ gb321) := ⟨h27_⟩
        have n28_ : Aside0 (Below w.heap.size w w192) := ⟨h28_⟩
        clear HO_307001 HO_311000 HO_316001 HO_322001 BK290 BK291 BK306 BK310 BK315 BK321 HB h0_ h1_ h2_ h3_ h4_ h5_ h6_ h7_ h8_ h9_ h10_ h11_ h12_ h13_ h14_ h15_ h16_ h17_ h18_ h19_ h20_ h21_ h22_ h23_ h24_ h25_ h26_ h27_ h28_
        have HO342 := n0_
        have HO346 := n1_
        have HO350 := n2_
        have HO_307001 := n3_
        have HO_311000 := n4_
        have HO_316001 := n5_
        have HO_322001 := n6_
        have BK290 := n7_
        have BK291 := n8_
        have BK306 := n9_
        have BK310 := n10_
        have BK315 := n11_
        have BK321 := n12_
        have BK352 := n13_
        have GW352 := n14_
        have GE352 := n15_
        have NB290_352 := n16_
        have NB352_290 := n17_
        have NB291_352 := n18_
        have NB352_291 := n19_
        have NB306_352 := n20_
        have NB352_306 := n21_
        have NB310_352 := n22_
        have NB352_310 := n23_
        have NB315_352 := n24_
        have NB352_315 := n25_
        have NB321_352 := n26_
        have NB352_321 := n27_
        have HB := n28_
        clear n0_ n1_ n2_ n3_ n4_ n5_ n6_ n7_ n8_ n9_ n10_ n11_ n12_ n13_ n14_ n15_ n16_ n17_ n18_ n19_ n20_ n21_ n22_ n23_ n24_ n25_ n26_ n27_ n28_
        have hHeld : w192.cell? ⟨gb290, 0, none⟩ = some (.slice A0_0 l0_0.length c0_0) ∧ w192.cell? ⟨gb291, 0, none⟩ = some (.int .i64 a1_0) ∧ w192.cell? ⟨gb291, 1, none⟩ = some (.slice A1_1 l1_1.length c1_1) := hS_
        obtain ⟨Ao194, co194, eo194⟩ := Kd.R_slice HO350.out
        (subst eo194)
        refine norm_ (a' := ?_) ?_ ?_
        rotate_left
        ·simp only [putAll, Act.put, List.setIfInBounds_toArray, List.set_cons_zero, List.set_cons_succ]
         rfl
        refine one_ (i := 10) (N := none) #[true,true,true,true,true,true,true,true,true,true,true,false] rfl rfl (one_of HT_.out (by kernel_rfl)) (by decide) (fun K hK => ?_)
        have hs193 : w192.cell? ⟨gb352, 0, none⟩ = some (.int .i64 0) := (blk_cell BK352.out 0).trans rfl
        have hfs193 := blk_frozen BK352.out 0
        have hns193_0 := NB290_352.out
        have hns193_1 := NB291_352.out
        have hns193_2 := NB306_352.out
        have hns193_3 := NB310_352.out
        have hns193_4 := NB315_352.out
        have hns193_5 := NB321_352.out
        have hms193_0 := NB352_290.out
        have hms193_1 := NB352_291.out
        have hms193_2 := NB352_306.out
        have hms193_3 := NB352_310.out
        have hms193_4 := NB352_315.out
        have hms193_5 := NB352_321.out
        have hs195 : w192.cell? ⟨gb352, 1, none⟩ = some (.slice none 0 0) := (blk_cell BK352.out 1).trans rfl
        have hfs195 := blk_frozen BK352.out 1
        have hns195_0 := NB290_352.out
        have hns195_1 := NB291_352.out
        have hns195_2 := NB306_352.out
        have hns195_3 := NB310_352.out
        have hns195_4 := NB315_352.out
        have hns195_5 := NB321_352.out
        have hms195_0 := NB352_290.out
        have hms195_1 := NB352_291.out
        have hms195_2 := NB352_306.out
        have hms195_3 := NB352_310.out
        have hms195_4 := NB352_315.out
        have hms195_5 := NB352_321.out
        refine skip_ (w1 := ?_) (by rfl) rfl ?_ ?_
        rotate_left
        ·go_simp
         rfl
        refine hK.out _ _ ⟨((cell_far (p := ⟨gb352, _, none⟩) NB290_352.out _).trans (((cell_far (p := ⟨gb352, _, none⟩) NB290_352.out _).trans (hHeld.1)))), ((cell_far (p := ⟨gb352, _, none⟩) NB291_352.out _).trans (((cell_far (p := ⟨gb352, _, none⟩) NB291_352.out _).trans (hHeld.2.1)))), ((cell_far (p := ⟨gb352, _, none⟩) NB291_352.out _).trans (((cell_far (p := ⟨gb352, _, none⟩) NB291_352.out _).trans (hHeld.2.2))))⟩ (fun hHeld => ?_)
        clear hK K
        refine pure_ (i := 11) (N := some 18) (v := ?_) (a' := ?_) #[true,true,true,true,true,true,true,true,true,true,true,true] rfl rfl (any_of HT_.out (by kernel_rfl)) (fun _ _ _ h => h) (Or.inl ⟨by rfl, ?_⟩) ?_ ?_
        rotate_left
        ·intro w'
         go_simp
         with_reducible rfl
        rotate_left
        ·simp only [Act.put, List.setIfInBounds_toArray, List.set_cons_zero, List.set_cons_succ, i64_w, i32_w]
         rfl
        refine done_ (done_of HT_.out (by kernel_rfl)) ?_
        go_upto_region 32 with (fail)
        go_cut [115] (fun v115 wc => ∃ (kq : Nat) (x115_174 : Bool), v115 = .bool x115_174 ∧ Aside0 (laws_FnExactOuterModule.j2 kq t337 x115_174 t316 t338 = some r) ∧ Aside0 (kq ≤ kj108) ∧ Aside0 (Kd.R (Kd.int .i64) 2 wc w.heap.size (fun k_ => some k_ ≠ ((.slice Ao63 t335.length co63) : Value).ownBlock ∧ some k_ ≠ ((.slice Ao73 t317.length co73) : Value).ownBlock ∧ some k_ ≠ ((.slice Ao194 t348.length co194) : Value).ownBlock) (.slice Ao43 t302.length co43) t302) ∧ Aside0 (Kd.S (Kd.slice 2 (Kd.int .i64)) 25 wc w.heap.size (fun k_ => some k_ ≠ ((.slice Ao43 t302.length co43) : Value).ownBlock ∧ some k_ ≠ ((.slice Ao63 t335.length co63) : Value).ownBlock ∧ some k_ ≠ ((.slice Ao73 t317.length co73) : Value).ownBlock ∧ some k_ ≠ ((.slice Ao194 t348.length co194) : Value).ownBlock) (.slice Ao49 t333.length co49) t333) ∧ Aside0 (Kd.R (Kd.int .i64) 2 wc w.heap.size (fun k_ => some k_ ≠ ((.slice Ao43 t302.length co43) : Value).ownBlock ∧ some k_ ≠ ((.slice Ao73 t317.length co73) : Value).ownBlock ∧ some k_ ≠ ((.slice Ao194 t348.length co194) : Value).ownBlock) (.slice Ao63 t335.length co63) t335) ∧ Aside0 (Kd.R (Kd.int .i64) 2 wc w.heap.size (fun k_ => some k_ ≠ ((.slice Ao43 t302.length co43) : Value).ownBlock ∧ some k_ ≠ ((.slice Ao63 t335.length co63) : Value).ownBlock ∧ some k_ ≠ ((.slice Ao194 t348.length co194) : Value).ownBlock) (.slice Ao73 t317.length co73) t338) ∧ Aside0 (Kd.R (Kd.int .i64) 2 wc w.heap.size (fun k_ => some k_ ≠ ((.slice Ao43 t302.length co43) : Value).ownBlock ∧ some k_ ≠ ((.slice Ao63 t335.length co63) : Value).ownBlock ∧ some k_ ≠ ((.slice Ao73 t317.length co73) : Value).ownBlock) (.slice Ao194 t348.length co194) t348) ∧ Aside0 (wc.heap[gb290]? = some (.cells #[(.slice A0_0 l0_0.length c0_0)] 24 (0, 0))) ∧ Aside0 (wc.heap[gb291]? = some (.cells #[.int .i64 a1_0, (.slice A1_1 l1_1.length c1_1)] 27 (0, 0))) ∧ Aside0 (wc.heap[gb306]? = some (.cells #[.int .i64 t301, (.slice Ao43 t302.length co43)] 30 (0, 0))) ∧ Aside0 (wc.heap[gb310]? = some (.cells #[(.slice Ao49 t333.length co49)] 33 (0, 0))) ∧ Aside0 (wc.heap[gb315]? = some (.cells #[.int .i64 t311, (.slice Ao63 t335.length co63)] 30 (0, 0))) ∧ Aside0 (wc.heap[gb321]? = some (.cells #[.int .i64 t316, (.slice Ao73 t317.length co73)] 30 (0, 0))) ∧ Aside0 (wc.heap[gb352]? = some (.cells #[.int .i64 t347, (.slice Ao194 t348.length co194)] 30 (0, 0))) ∧ Aside0 (Below w.heap.size w wc))
        case first =>
         have H := HC175.out
         clear HC175
         obtain ⟨t353, A196, H⟩ := bnd H
         try dsimp only at H
         by_cases c197 : t353 = true
         ·subst c197
          have H1 : (laws_FnExactOuterModule.j2 kj108 t337 (t351 != t305) t316 t338) = some r := by rw [if_pos rfl] at H; exact H
          clear H
          have H := H1
          clear H1
          have H' := Aside0.mk H
          clear H
          have hnb198 := NB352_290.out
          have hnc198 := NB290_352.out
          have hnb199 := NB352_291.out
          have hnc199 := NB291_352.out
          have hnb200 := NB352_306.out
          have hnc200 := NB306_352.out
          have hnb201 := NB352_310.out
          have hnc201 := NB310_352.out
          have hnb202 := NB352_315.out
          have hnc202 := NB315_352.out
          have hnb203 := NB352_321.out
          have hnc203 := NB321_352.out
          have hcz204_0 := bc0 BK352.out
          have hcz204_1 := bc1 BK352.out
          have hfz204_0 := blk_frozen BK352.out 0
          have hfz204_1 := blk_frozen BK352.out 1
          have hnb205 := NB306_290.out
          have hnc205 := NB290_306.out
          have hnb206 := NB306_291.out
          have hnc206 := NB291_306.out
          have hnb207 := NB306_310.out
          have hnc207 := NB310_306.out
          have hnb208 := NB306_315.out
          have hnc208 := NB315_306.out
          have hnb209 := NB306_321.out
          have hnc209 := NB321_306.out
          have hcz210_0 := bc0 BK306.out
          have hcz210_1 := bc1 BK306.out
          have hfz210_0 := blk_frozen BK306.out 0
          have hfz210_1 := blk_frozen BK306.out 1
          go_wp2_with (((with_reducible refine gate_callee (f := 21) rfl ?_); refine goesL_ (some 109) rfl rfl Try.func21 (by kernel_rfl) rfl #[.agg #[.int .i64 t347, .slice Ao194 t348.length co194], .agg #[.int .i64 t301, .slice Ao43 t302.length co43]] rfl (by (simp only [List.map_toArray, List.map_cons, List.map_nil]); rfl) ?_; (with_reducible refine (laws_eqModule.calls kj108 t347 _ _ t348 t301 _ _ t302 true _ ?side1 ?side2 ?side3 ?side4 A196.out).mono ?_); (case side1 => refine (Kd.R_reads' (e := 2) (base := w.heap.size) (ok := fun k_ => (some k_ ≠ (v345 : Value).ownBlock ∧ (some k_ ≠ (.slice Ao43 t302.length co43 : Value).ownBlock ∧ (some k_ ≠ (.slice Ao63 t335.length co63 : Value).ownBlock ∧ some k_ ≠ (.slice Ao73 t317.length co73 : Value).ownBlock)))) (n := t348.length) (c := co194) ?_).2.2; exact (by exact (Kd.R_mono (Kd.R_far (p := ⟨gb352, 1, none⟩) (Kd.R_far (p := ⟨gb352, 0, none⟩) (Kd.R_types HO350.out BK352.out (by decide)) (fun _ hk => hk.2) (.int .i64 t347)) (fun _ hk => hk.2) (.slice Ao194 t348.length co194)) (fun _ h_ => h_.1)))); (case side2 => exact (Kd.R_reads' HO350.out).2.1); (case side3 => refine (Kd.R_reads' (e := 2) (base := w.heap.size) (ok := fun k_ => (some k_ ≠ (v345 : Value).ownBlock ∧ (some k_ ≠ (.slice Ao194 t348.length co194 : Value).ownBlock ∧ (some k_ ≠ (.slice Ao63 t335.length co63 : Value).ownBlock ∧ some k_ ≠ (.slice Ao73 t317.length co73 : Value).ownBlock)))) (n := t302.length) (c := co43) ?_).2.2; exact (by exact (Kd.R_mono (Kd.R_far (p := ⟨gb352, 1, none⟩) (Kd.R_far (p := ⟨gb352, 0, none⟩) (Kd.R_types HO_307001.out BK352.out (by decide)) (fun _ hk => hk.2) (.int .i64 t347)) (fun _ hk => hk.2) (.slice Ao194 t348.length co194)) (fun _ h_ => h_.1)))); (case side4 => exact (Kd.R_reads' HO_307001.out).2.1); rintro e w211 ⟨rfl, hb⟩; refine ⟨_, rfl, ?_⟩; replace HO_307001 := Aside0.mk (Kd.R_below (by exact (Kd.R_mono (Kd.R_far (p := ⟨gb352, 1, none⟩) (Kd.R_far (p := ⟨gb352, 0, none⟩) (Kd.R_types HO_307001.out BK352.out (by decide)) (fun _ hk => hk.2) (.int .i64 t347)) (fun _ hk => hk.2) (.slice Ao194 t348.length co194)) (fun _ h_ => h_.1))) hb); replace HO_311000 := Aside0.mk (Kd.S_below (by exact (Kd.S_mono (Kd.S_far (p := ⟨gb352, 1, none⟩) (Kd.S_far (p := ⟨gb352, 0, none⟩) (Kd.S_types HO_311000.out BK352.out (by decide)) (fun _ hk => hk.2) (.int .i64 t347)) (fun _ hk => hk.2) (.slice Ao194 t348.length co194)) (fun _ h_ => h_.1))) hb); replace HO_316001 := Aside0.mk (Kd.R_below (by exact (Kd.R_mono (Kd.R_far (p := ⟨gb352, 1, none⟩) (Kd.R_far (p := ⟨gb352, 0, none⟩) (Kd.R_types HO_316001.out BK352.out (by decide)) (fun _ hk => hk.2) (.int .i64 t347)) (fun _ hk => hk.2) (.slice Ao194 t348.length co194)) (fun _ h_ => h_.1))) hb); replace HO_322001 := Aside0.mk (Kd.R_below (by exact (Kd.R_mono (Kd.R_far (p := ⟨gb352, 1, none⟩) (Kd.R_far (p := ⟨gb352, 0, none⟩) (Kd.R_types HO_322001.out BK352.out (by decide)) (fun _ hk => hk.2) (.int .i64 t347)) (fun _ hk => hk.2) (.slice Ao194 t348.length co194)) (fun _ h_ => h_.1))) hb); replace HO342 := Aside0.mk (Kd.S_below (by exact (Kd.S_mono (Kd.S_far (p := ⟨gb352, 1, none⟩) (Kd.S_far (p := ⟨gb352, 0, none⟩) (Kd.S_types HO342.out BK352.out (by decide)) (fun _ hk => hk.2) (.int .i64 t347)) (fun _ hk => hk.2) (.slice Ao194 t348.length co194)) (fun _ h_ => h_.1))) hb); replace HO346 := Aside0.mk (Kd.R_below (by exact (Kd.R_mono (Kd.R_far (p := ⟨gb352, 1, none⟩) (Kd.R_far (p := ⟨gb352, 0, none⟩) (Kd.R_types HO346.out BK352.out (by decide)) (fun _ hk => hk.2) (.int .i64 t347)) (fun _ hk => hk.2) (.slice Ao194 t348.length co194)) (fun _ h_ => h_.1))) hb); replace HO350 := Aside0.mk (Kd.R_below (by exact (Kd.R_mono (Kd.R_far (p := ⟨gb352, 1, none⟩) (Kd.R_far (p := ⟨gb352, 0, none⟩) (Kd.R_types HO350.out BK352.out (by decide)) (fun _ hk => hk.2) (.int .i64 t347)) (fun _ hk => hk.2) (.slice Ao194 t348.length co194)) (fun _ h_ => h_.1))) hb); replace BK290 := Aside0.mk (blk_below (g := gb290) (o := .cells #[.slice A0_0 l0_0.length c0_0] 24 (0, 0)) (by refine blk_far ?_ NB290_352.out _; refine blk_far ?_ NB290_352.out _; exact BK290.out) hb); replace BK291 := Aside0.mk (blk_below (g := gb291) (o := .cells #[.int .i64 a1_0, .slice A1_1 l1_1.length c1_1] 27 (0, 0)) (by refine blk_far ?_ NB291_352.out _; refine blk_far ?_ NB291_352.out _; exact BK291.out) hb); replace BK306 := Aside0.mk (blk_below (g := gb306) (o := .cells #[.int .i64 t301, .slice Ao43 t302.length co43] 30 (0, 0)) (by refine blk_far ?_ NB306_352.out _; refine blk_far ?_ NB306_352.out _; exact BK306.out) hb); replace BK310 := Aside0.mk (blk_below (g := gb310) (o := .cells #[.slice Ao49 t333.length co49] 33 (0, 0)) (by refine blk_far ?_ NB310_352.out _; refine blk_far ?_ NB310_352.out _; exact BK310.out) hb); replace BK315 := Aside0.mk (blk_below (g := gb315) (o := .cells #[.int .i64 t311, .slice Ao63 t335.length co63] 30 (0, 0)) (by refine blk_far ?_ NB315_352.out _; refine blk_far ?_ NB315_352.out _; exact BK315.out) hb); replace BK321 := Aside0.mk (blk_below (g := gb321) (o := .cells #[.int .i64 t316, .slice Ao73 t317.length co73] 30 (0, 0)) (by refine blk_far ?_ NB321_352.out _; refine blk_far ?_ NB321_352.out _; exact BK321.out) hb); replace BK352 := Aside0.mk (blk_below (g := gb352) (o := .cells #[.int .i64 t347, .slice Ao194 t348.length co194] 30 (0, 0)) (by refine blk_put (cs := #[.int .i64 t347, .slice none 0 0]) ?_ 1 _ rfl; refine blk_put (cs := #[.int .i64 0, .slice none 0 0]) ?_ 0 _ rfl; exact BK352.out) hb); replace HB := Aside0.mk (below_step (by repeat ((with_reducible first | exact HB.out | refine below_set ?_ GE352.out))) hb); clear hb))
          go_meet
          case rel => exact ⟨_, ((t351 != t305)), (by rfl), H', ⟨by have := HJ25.out; have := HJ108.out; omega⟩, ⟨by exact Kd.R_mono HO_307001.out (fun _ hk => ⟨hk.2.2.1, ⟨hk.2.2.2, hk.2.1⟩⟩)⟩, ⟨by exact Kd.S_mono HO_311000.out (fun _ hk => ⟨hk.2.2.2.1, ⟨hk.2.2.2.2.1, ⟨hk.2.2.2.2.2, hk.2.2.1⟩⟩⟩)⟩, ⟨by exact Kd.R_mono HO_316001.out (fun _ hk => ⟨hk.2.2.1, ⟨hk.2.2.2, hk.2.1⟩⟩)⟩, ⟨by exact Kd.R_mono HO_322001.out (fun _ hk => ⟨hk.2.2.1, ⟨hk.2.2.2, hk.2.1⟩⟩)⟩, ⟨by exact Kd.R_mono HO350.out (fun _ hk => ⟨hk.2.1, ⟨hk.2.2.1, hk.2.2.2⟩⟩)⟩, ⟨by exact BK290.out⟩, ⟨by exact BK291.out⟩, ⟨by exact BK306.out⟩, ⟨by exact BK310.out⟩, ⟨by exact BK315.out⟩, ⟨by exact BK321.out⟩, ⟨by exact BK352.out⟩, ⟨by exact HB.out⟩⟩
         replace c197 := Bool.eq_false_iff.mpr c197
         subst c197
         have H1 : (laws_FnExactOuterModule.j2 kj108 t337 true t316 t338) = some r := by rw [if_neg (show ¬ (false = true) by decide)] at H; exact H
         clear H
         have H := H1
         clear H1
         have H' := Aside0.mk H
         clear H
         have hnb212 := NB352_290.out
         have hnc212 := NB290_352.out
         have hnb213 := NB352_291.out
         have hnc213 := NB291_352.out
         have hnb214 := NB352_306.out
         have hnc214 := NB306_352.out
         have hnb215 := NB352_310.out
         have hnc215 := NB310_352.out
         have hnb216 := NB352_315.out
         have hnc216 := NB315_352.out
         have hnb217 := NB352_321.out
         have hnc217 := NB321_352.out
         have hcz218_0 := bc0 BK352.out
         have hcz218_1 := bc1 BK352.out
         have hfz218_0 := blk_frozen BK352.out 0
         have hfz218_1 := blk_frozen BK352.out 1
         have hnb219 := NB306_290.out
         have hnc219 := NB290_306.out
         have hnb220 := NB306_291.out
         have hnc220 := NB291_306.out
         have hnb221 := NB306_310.out
         have hnc221 := NB310_306.out
         have hnb222 := NB306_315.out
         have hnc222 := NB315_306.out
         have hnb223 := NB306_321.out
         have hnc223 := NB321_306.out
         have hcz224_0 := bc0 BK306.out
         have hcz224_1 := bc1 BK306.out
         have hfz224_0 := blk_frozen BK306.out 0
         have hfz224_1 := blk_frozen BK306.out 1
         go_wp2_with (((with_reducible refine gate_callee (f := 21) rfl ?_); refine goesL_ (some 109) rfl rfl Try.func21 (by kernel_rfl) rfl #[.agg #[.int .i64 t347, .slice Ao194 t348.length co194], .agg #[.int .i64 t301, .slice Ao43 t302.length co43]] rfl (by (simp only [List.map_toArray, List.map_cons, List.map_nil]); rfl) ?_; (with_reducible refine (laws_eqModule.calls kj108 t347 _ _ t348 t301 _ _ t302 false _ ?side1 ?side2 ?side3 ?side4 A196.out).mono ?_); (case side1 => refine (Kd.R_reads' (e := 2) (base := w.heap.size) (ok := fun k_ => (some k_ ≠ (v345 : Value).ownBlock ∧ (some k_ ≠ (.slice Ao43 t302.length co43 : Value).ownBlock ∧ (some k_ ≠ (.slice Ao63 t335.length co63 : Value).ownBlock ∧ some k_ ≠ (.slice Ao73 t317.length co73 : Value).ownBlock)))) (n := t348.length) (c := co194) ?_).2.2; exact (by exact (Kd.R_mono (Kd.R_far (p := ⟨gb352, 1, none⟩) (Kd.R_far (p := ⟨gb352, 0, none⟩) (Kd.R_types HO350.out BK352.out (by decide)) (fun _ hk => hk.2) (.int .i64 t347)) (fun _ hk => hk.2) (.slice Ao194 t348.length co194)) (fun _ h_ => h_.1)))); (case side2 => exact (Kd.R_reads' HO350.out).2.1); (case side3 => refine (Kd.R_reads' (e := 2) (base := w.heap.size) (ok := fun k_ => (some k_ ≠ (v345 : Value).ownBlock ∧ (some k_ ≠ (.slice Ao194 t348.length co194 : Value).ownBlock ∧ (some k_ ≠ (.slice Ao63 t335.length co63 : Value).ownBlock ∧ some k_ ≠ (.slice Ao73 t317.length co73 : Value).ownBlock)))) (n := t302.length) (c := co43) ?_).2.2; exact (by exact (Kd.R_mono (Kd.R_far (p := ⟨gb352, 1, none⟩) (Kd.R_far (p := ⟨gb352, 0, none⟩) (Kd.R_types HO_307001.out BK352.out (by decide)) (fun _ hk => hk.2) (.int .i64 t347)) (fun _ hk => hk.2) (.slice Ao194 t348.length co194)) (fun _ h_ => h_.1)))); (case side4 => exact (Kd.R_reads' HO_307001.out).2.1); rintro e w225 ⟨rfl, hb⟩; refine ⟨_, rfl, ?_⟩; replace HO_307001 := Aside0.mk (Kd.R_below (by exact (Kd.R_mono (Kd.R_far (p := ⟨gb352, 1, none⟩) (Kd.R_far (p := ⟨gb352, 0, none⟩) (Kd.R_types HO_307001.out BK352.out (by decide)) (fun _ hk => hk.2) (.int .i64 t347)) (fun _ hk => hk.2) (.slice Ao194 t348.length co194)) (fun _ h_ => h_.1))) hb); replace HO_311000 := Aside0.mk (Kd.S_below (by exact (Kd.S_mono (Kd.S_far (p := ⟨gb352, 1, none⟩) (Kd.S_far (p := ⟨gb352, 0, none⟩) (Kd.S_types HO_311000.out BK352.out (by decide)) (fun _ hk => hk.2) (.int .i64 t347)) (fun _ hk => hk.2) (.slice Ao194 t348.length co194)) (fun _ h_ => h_.1))) hb); replace HO_316001 := Aside0.mk (Kd.R_below (by exact (Kd.R_mono (Kd.R_far (p := ⟨gb352, 1, none⟩) (Kd.R_far (p := ⟨gb352, 0, none⟩) (Kd.R_types HO_316001.out BK352.out (by decide)) (fun _ hk => hk.2) (.int .i64 t347)) (fun _ hk => hk.2) (.slice Ao194 t348.length co194)) (fun _ h_ => h_.1))) hb); replace HO_322001 := Aside0.mk (Kd.R_below (by exact (Kd.R_mono (Kd.R_far (p := ⟨gb352, 1, none⟩) (Kd.R_far (p := ⟨gb352, 0, none⟩) (Kd.R_types HO_322001.out BK352.out (by decide)) (fun _ hk => hk.2) (.int .i64 t347)) (fun _ hk => hk.2) (.slice Ao194 t348.length co194)) (fun _ h_ => h_.1))) hb); replace HO342 := Aside0.mk (Kd.S_below (by exact (Kd.S_mono (Kd.S_far (p := ⟨gb352, 1, none⟩) (Kd.S_far (p := ⟨gb352, 0, none⟩) (Kd.S_types HO342.out BK352.out (by decide)) (fun _ hk => hk.2) (.int .i64 t347)) (fun _ hk => hk.2) (.slice Ao194 t348.length co194)) (fun _ h_ => h_.1))) hb); replace HO346 := Aside0.mk (Kd.R_below (by exact (Kd.R_mono (Kd.R_far (p := ⟨gb352, 1, none⟩) (Kd.R_far (p := ⟨gb352, 0, none⟩) (Kd.R_types HO346.out BK352.out (by decide)) (fun _ hk => hk.2) (.int .i64 t347)) (fun _ hk => hk.2) (.slice Ao194 t348.length co194)) (fun _ h_ => h_.1))) hb); replace HO350 := Aside0.mk (Kd.R_below (by exact (Kd.R_mono (Kd.R_far (p := ⟨gb352, 1, none⟩) (Kd.R_far (p := ⟨gb352, 0, none⟩) (Kd.R_types HO350.out BK352.out (by decide)) (fun _ hk => hk.2) (.int .i64 t347)) (fun _ hk => hk.2) (.slice Ao194 t348.length co194)) (fun _ h_ => h_.1))) hb); replace BK290 := Aside0.mk (blk_below (g := gb290) (o := .cells #[.slice A0_0 l0_0.length c0_0] 24 (0, 0)) (by refine blk_far ?_ NB290_352.out _; refine blk_far ?_ NB290_352.out _; exact BK290.out) hb); replace BK291 := Aside0.mk (blk_below (g := gb291) (o := .cells #[.int .i64 a1_0, .slice A1_1 l1_1.length c1_1] 27 (0, 0)) (by refine blk_far ?_ NB291_352.out _; refine blk_far ?_ NB291_352.out _; exact BK291.out) hb); replace BK306 := Aside0.mk (blk_below (g := gb306) (o := .cells #[.int .i64 t301, .slice Ao43 t302.length co43] 30 (0, 0)) (by refine blk_far ?_ NB306_352.out _; refine blk_far ?_ NB306_352.out _; exact BK306.out) hb); replace BK310 := Aside0.mk (blk_below (g := gb310) (o := .cells #[.slice Ao49 t333.length co49] 33 (0, 0)) (by refine blk_far ?_ NB310_352.out _; refine blk_far ?_ NB310_352.out _; exact BK310.out) hb); replace BK315 := Aside0.mk (blk_below (g := gb315) (o := .cells #[.int .i64 t311, .slice Ao63 t335.length co63] 30 (0, 0)) (by refine blk_far ?_ NB315_352.out _; refine blk_far ?_ NB315_352.out _; exact BK315.out) hb); replace BK321 := Aside0.mk (blk_below (g := gb321) (o := .cells #[.int .i64 t316, .slice Ao73 t317.length co73] 30 (0, 0)) (by refine blk_far ?_ NB321_352.out _; refine blk_far ?_ NB321_352.out _; exact BK321.out) hb); replace BK352 := Aside0.mk (blk_below (g := gb352) (o := .cells #[.int .i64 t347, .slice Ao194 t348.length co194] 30 (0, 0)) (by refine blk_put (cs := #[.int .i64 t347, .slice none 0 0]) ?_ 1 _ rfl; refine blk_put (cs := #[.int .i64 0, .slice none 0 0]) ?_ 0 _ rfl; exact BK352.out) hb); replace HB := Aside0.mk (below_step (by repeat ((with_reducible first | exact HB.out | refine below_set ?_ GE352.out))) hb); clear hb))
         go_meet
         case rel => exact ⟨_, (true), (by rfl), H', ⟨by have := HJ25.out; have := HJ108.out; omega⟩, ⟨by exact Kd.R_mono HO_307001.out (fun _ hk => ⟨hk.2.2.1, ⟨hk.2.2.2, hk.2.1⟩⟩)⟩, ⟨by exact Kd.S_mono HO_311000.out (fun _ hk => ⟨hk.2.2.2.1, ⟨hk.2.2.2.2.1, ⟨hk.2.2.2.2.2, hk.2.2.1⟩⟩⟩)⟩, ⟨by exact Kd.R_mono HO_316001.out (fun _ hk => ⟨hk.2.2.1, ⟨hk.2.2.2, hk.2.1⟩⟩)⟩, ⟨by exact Kd.R_mono HO_322001.out (fun _ hk => ⟨hk.2.2.1, ⟨hk.2.2.2, hk.2.1⟩⟩)⟩, ⟨by exact Kd.R_mono HO350.out (fun _ hk => ⟨hk.2.1, ⟨hk.2.2.1, hk.2.2.2⟩⟩)⟩, ⟨by exact BK290.out⟩, ⟨by exact BK291.out⟩, ⟨by exact BK306.out⟩, ⟨by exact BK310.out⟩, ⟨by exact BK315.out⟩, ⟨by exact BK321.out⟩, ⟨by exact BK352.out⟩, ⟨by exact HB.out⟩⟩
        case rest =>
         clear HC175
         obtain ⟨kq, x115_174, rfl, HA, HJ174, HO_307001, HO_311000, HO_316001, HO_322001, HO_353001, BK290, BK291, BK306, BK310, BK315, BK321, BK352, HB⟩ := hcut
         have hl322001_174 := (Kd.R_reads' HO_322001.out).1
         rw [hl322001_174] at HO_322001
         (simp only [hl322001_174] at BK321)
         (simp only [hl322001_174] at HO_307001)
         (simp only [hl322001_174] at HO_311000)
         (simp only [hl322001_174] at HO_316001)
         (simp only [hl322001_174] at HO_353001)
         cases kq with
         | zero => exact absurd HA.out (by simp [laws_FnExactOuterModule.j2])
         | succ kj174 =>
          have H := HA.out
          clear HA
          simp only [laws_FnExactOuterModule.j2] at H
          by_cases c226 : x115_174 = true
          ·subst c226
           have H1 : (some false) = some r := by rw [if_pos rfl] at H; exact H
           clear H
           have H := H1
           clear H1
           obtain rfl := Option.some.inj H
           go_wp2
           go_ret
           exact ⟨by rfl, by exact HB.out⟩
          replace c226 := Bool.eq_false_iff.mpr c226
          subst c226
          have H1 : ((laws_heldModule.f kj174 t316 t338 1).bind fun t354 => (if t354 < 0 then (some false) else (if t354 = t337 then (some true) else (some false)))) = some r := by rw [if_neg (show ¬ (false = true) by decide)] at H; exact H
          clear H
          have H := H1
          clear H1
          obtain ⟨t354, A227, H⟩ := bnd H
          try dsimp only at H
          by_cases c228 : t354 < 0
          ·rw [if_pos c228] at H
           have c228b0 : decide (t354 < 0) = true := decide_eq_true c228
           clear c228
           obtain rfl := Option.some.inj H
           have hnb229 := NB321_290.out
           have hnc229 := NB290_321.out
           have hnb230 := NB321_291.out
           have hnc230 := NB291_321.out
           have hnb231 := NB321_306.out
           have hnc231 := NB306_321.out
           have hnb232 := NB321_310.out
           have hnc232 := NB310_321.out
           have hnb233 := NB321_315.out
           have hnc233 := NB315_321.out
           have hnb234 := NB321_352.out
           have hnc234 := NB352_321.out
           have hcz235_0 := bc0 BK321.out
           have hcz235_1 := bc1 BK321.out
           have hfz235_0 := blk_frozen BK321.out 0
           have hfz235_1 := blk_frozen BK321.out 1
           go_wp2_with (((with_reducible refine gate_callee (f := 25) rfl ?_); refine goesL_ (some 118) rfl rfl Try.func25 (by kernel_rfl) rfl #[.agg #[.int .i64 t316, .slice Ao73 t338.length co73], .int .i64 1] rfl (by (simp only [List.map_toArray, List.map_cons, List.map_nil]); rfl) ?_; (with_reducible refine (laws_heldModule.calls kj174 t316 _ _ t338 1 t354 _ ?side1 ?side2 A227.out).mono ?_); (case side1 => repeat (exact (Kd.R_reads' HO_322001.out).2.2)); (case side2 => exact (Kd.R_reads' HO_322001.out).2.1); rintro e w236 ⟨rfl, hb⟩; refine ⟨_, rfl, ?_⟩; replace HO_307001 := Aside0.mk (Kd.R_below HO_307001.out hb); replace HO_311000 := Aside0.mk (Kd.S_below HO_311000.out hb); replace HO_316001 := Aside0.mk (Kd.R_below HO_316001.out hb); replace HO_322001 := Aside0.mk (Kd.R_below HO_322001.out hb); replace HO_353001 := Aside0.mk (Kd.R_below HO_353001.out hb); replace BK290 := Aside0.mk (blk_below BK290.out hb); replace BK291 := Aside0.mk (blk_below BK291.out hb); replace BK306 := Aside0.mk (blk_below BK306.out hb); replace BK310 := Aside0.mk (blk_below BK310.out hb); replace BK315 := Aside0.mk (blk_below BK315.out hb); replace BK321 := Aside0.mk (blk_below BK321.out hb); replace BK352 := Aside0.mk (blk_below BK352.out hb); replace HB := Aside0.mk (below_step HB.out hb); clear hb))
           go_ret
           exact ⟨by rfl, by exact HB.out⟩
          rw [if_neg c228] at H
          have c228b0 : decide (t354 < 0) = false := decide_eq_false c228
          clear c228
          by_cases c237 : t354 = t337
          ·rw [if_pos c237] at H
           have c237b0 : (t354 == t337) = true := beq_iff_eq.mpr c237
           have c237b1 : (t354 != t337) = false := bne_eq_false_iff_eq.mpr c237
           clear c237
           obtain rfl := Option.some.inj H
           have hnb238 := NB321_290.out
           have hnc238 := NB290_321.out
           have hnb239 := NB321_291.out
           have hnc239 := NB291_321.out
           have hnb240 := NB321_306.out
           have hnc240 := NB306_321.out
           have hnb241 := NB321_310.out
           have hnc241 := NB310_321.out
           have hnb242 := NB321_315.out
           have hnc242 := NB315_321.out
           have hnb243 := NB321_352.out
           have hnc243 := NB352_321.out
           have hcz244_0 := bc0 BK321.out
           have hcz244_1 := bc1 BK321.out
           have hfz244_0 := blk_frozen BK321.out 0
           have hfz244_1 := blk_frozen BK321.out 1
           go_wp2_with (((with_reducible refine gate_callee (f := 25) rfl ?_); refine goesL_ (some 118) rfl rfl Try.func25 (by kernel_rfl) rfl #[.agg #[.int .i64 t316, .slice Ao73 t338.length co73], .int .i64 1] rfl (by (simp only [List.map_toArray, List.map_cons, List.map_nil]); rfl) ?_; (with_reducible refine (laws_heldModule.calls kj174 t316 _ _ t338 1 t354 _ ?side1 ?side2 A227.out).mono ?_); (case side1 => repeat (exact (Kd.R_reads' HO_322001.out).2.2)); (case side2 => exact (Kd.R_reads' HO_322001.out).2.1); rintro e w245 ⟨rfl, hb⟩; refine ⟨_, rfl, ?_⟩; replace HO_307001 := Aside0.mk (Kd.R_below HO_307001.out hb); replace HO_311000 := Aside0.mk (Kd.S_below HO_311000.out hb); replace HO_316001 := Aside0.mk (Kd.R_below HO_316001.out hb); replace HO_322001 := Aside0.mk (Kd.R_below HO_322001.out hb); replace HO_353001 := Aside0.mk (Kd.R_below HO_353001.out hb); replace BK290 := Aside0.mk (blk_below BK290.out hb); replace BK291 := Aside0.mk (blk_below BK291.out hb); replace BK306 := Aside0.mk (blk_below BK306.out hb); replace BK310 := Aside0.mk (blk_below BK310.out hb); replace BK315 := Aside0.mk (blk_below BK315.out hb); replace BK321 := Aside0.mk (blk_below BK321.out hb); replace BK352 := Aside0.mk (blk_below BK352.out hb); replace HB := Aside0.mk (below_step HB.out hb); clear hb))
           go_ret
           exact ⟨by rfl, by exact HB.out⟩
          rw [if_neg c237] at H
          have c237b0 : (t354 == t337) = false := beq_eq_false_iff_ne.mpr c237
          have c237b1 : (t354 != t337) = true := bne_iff_ne.mpr c237
          obtain rfl := Option.some.inj H
          have hnb246 := NB321_290.out
          have hnc246 := NB290_321.out
          have hnb247 := NB321_291.out
          have hnc247 := NB291_321.out
          have hnb248 := NB321_306.out
          have hnc248 := NB306_321.out
          have hnb249 := NB321_310.out
          have hnc249 := NB310_321.out
          have hnb250 := NB321_315.out
          have hnc250 := NB315_321.out
          have hnb251 := NB321_352.out
          have hnc251 := NB352_321.out
          have hcz252_0 := bc0 BK321.out
          have hcz252_1 := bc1 BK321.out
          have hfz252_0 := blk_frozen BK321.out 0
          have hfz252_1 := blk_frozen BK321.out 1
          go_wp2_with (((with_reducible refine gate_callee (f := 25) rfl ?_); refine goesL_ (some 118) rfl rfl Try.func25 (by kernel_rfl) rfl #[.agg #[.int .i64 t316, .slice Ao73 t338.length co73], .int .i64 1] rfl (by (simp only [List.map_toArray, List.map_cons, List.map_nil]); rfl) ?_; (with_reducible refine (laws_heldModule.calls kj174 t316 _ _ t338 1 t354 _ ?side1 ?side2 A227.out).mono ?_); (case side1 => repeat (exact (Kd.R_reads' HO_322001.out).2.2)); (case side2 => exact (Kd.R_reads' HO_322001.out).2.1); rintro e w253 ⟨rfl, hb⟩; refine ⟨_, rfl, ?_⟩; replace HO_307001 := Aside0.mk (Kd.R_below HO_307001.out hb); replace HO_311000 := Aside0.mk (Kd.S_below HO_311000.out hb); replace HO_316001 := Aside0.mk (Kd.R_below HO_316001.out hb); replace HO_322001 := Aside0.mk (Kd.R_below HO_322001.out hb); replace HO_353001 := Aside0.mk (Kd.R_below HO_353001.out hb); replace BK290 := Aside0.mk (blk_below BK290.out hb); replace BK291 := Aside0.mk (blk_below BK291.out hb); replace BK306 := Aside0.mk (blk_below BK306.out hb); replace BK310 := Aside0.mk (blk_below BK310.out hb); replace BK315 := Aside0.mk (blk_below BK315.out hb); replace BK321 := Aside0.mk (blk_below BK321.out hb); replace BK352 := Aside0.mk (blk_below BK352.out hb); replace HB := Aside0.mk (below_step HB.out hb); clear hb))
          go_ret
          exact ⟨by rfl, by exact HB.out⟩
       rw [if_neg c171] at H
       have c171b0 : (t339 == t337) = false := beq_eq_false_iff_ne.mpr c171
       have c171b1 : (t339 != t337) = true := bne_iff_ne.mpr c171
       obtain rfl := Option.some.inj H
       have hnb254 := NB321_290.out
       have hnc254 := NB290_321.out
       have hnb255 := NB321_291.out
       have hnc255 := NB291_321.out
       have hnb256 := NB321_306.out
       have hnc256 := NB306_321.out
       have hnb257 := NB321_310.out
       have hnc257 := NB310_321.out
       have hnb258 := NB321_315.out
       have hnc258 := NB315_321.out
       have hcz259_0 := bc0 BK321.out
       have hcz259_1 := bc1 BK321.out
       have hfz259_0 := blk_frozen BK321.out 0
       have hfz259_1 := blk_frozen BK321.out 1
       go_wp2_with (first | ((with_reducible refine gate_callee (f := 24) rfl ?_); refine goesL_ (some 89) rfl rfl Try.func24 (by kernel_rfl) rfl #[.agg #[.int .i64 t316, .slice Ao73 t317.length co73], .int .i64 1] rfl (by (simp only [List.map_toArray, List.map_cons, List.map_nil]); rfl) ?_; (with_reducible refine (laws_markModule.calls kj108 t316 (fun k_ => some k_ = (.slice Ao73 t317.length co73 : Value).ownBlock) (.slice Ao73 t317.length co73) t317 1 t337 t338 w _ ?side1 ?side2 A159.out).mono ?_); (case side1 => exact HB.out); (case side2 => exact Kd.R_tight rfl HO_322001.out); rintro e w260 ⟨rfl, hy0, hb, hkp⟩; refine ⟨_, rfl, ?_⟩; replace HO_307001 := Aside0.mk (Kd.R_mono (ok' := fun k_ => some k_ ≠ (.slice Ao63 t335.length co63 : Value).ownBlock ∧ some k_ ≠ (.slice Ao73 t317.length co73 : Value).ownBlock) (Kd.R_keptB (HO_307001.out) hkp (fun k_ hk_ hs_ => (hk_.2) hs_)) (fun k_ hk_ => ⟨hk_.1.1, hk_.1.2⟩)); replace HO_311000 := Aside0.mk (Kd.S_mono (ok' := fun k_ => some k_ ≠ (.slice Ao43 t302.length co43 : Value).ownBlock ∧ some k_ ≠ (.slice Ao63 t335.length co63 : Value).ownBlock ∧ some k_ ≠ (.slice Ao73 t317.length co73 : Value).ownBlock) (Kd.S_keptB (HO_311000.out) hkp (fun k_ hk_ hs_ => (hk_.2.2) hs_)) (fun k_ hk_ => ⟨hk_.1.1, hk_.1.2.1, hk_.1.2.2⟩)); replace HO_316001 := Aside0.mk (Kd.R_mono (ok' := fun k_ => some k_ ≠ (.slice Ao43 t302.length co43 : Value).ownBlock ∧ some k_ ≠ (.slice Ao73 t317.length co73 : Value).ownBlock) (Kd.R_keptB (HO_316001.out) hkp (fun k_ hk_ hs_ => (hk_.2) hs_)) (fun k_ hk_ => ⟨hk_.1.1, hk_.1.2⟩)); replace BK290 := Aside0.mk (blk_kept BK290.out hkp (fun hs_ => (fun e_ => (Kd.R_ne HO_322001.out BK290.out (by decide)) e_) hs_)); replace BK291 := Aside0.mk (blk_kept BK291.out hkp (fun hs_ => (fun e_ => (Kd.R_ne HO_322001.out BK291.out (by decide)) e_) hs_)); replace BK306 := Aside0.mk (blk_kept BK306.out hkp (fun hs_ => (fun e_ => (Kd.R_ne HO_322001.out BK306.out (by decide)) e_) hs_)); replace BK310 := Aside0.mk (blk_kept BK310.out hkp (fun hs_ => (fun e_ => (Kd.R_ne HO_322001.out BK310.out (by decide)) e_) hs_)); replace BK315 := Aside0.mk (blk_kept BK315.out hkp (fun hs_ => (fun e_ => (Kd.R_ne HO_322001.out BK315.out (by decide)) e_) hs_)); replace BK321 := Aside0.mk (blk_kept BK321.out hkp (fun hs_ => (fun e_ => (Kd.R_ne HO_322001.out BK321.out (by decide)) e_) hs_)); replace HO_322001 := Aside0.mk (Kd.R_reok rfl hy0 (fun k_ e_ => HO_322001.out.1 k_ e_)); replace HB := Aside0.mk (hb); clear hb hkp hy0; have hcz261_0 := bc0 BK321.out; have hcz261_1 := bc1 BK321.out; have hfz261_0 := blk_frozen BK321.out 0; have hfz261_1 := blk_frozen BK321.out 1) | ((with_reducible refine gate_callee (f := 25) rfl ?_); refine goesL_ (some 92) rfl rfl Try.func25 (by kernel_rfl) rfl #[.agg #[.int .i64 t316, .slice Ao73 t338.length co73], .int .i64 1] rfl (by (simp only [List.map_toArray, List.map_cons, List.map_nil]); (rw [show t338.length = t317.length from (Kd.R_reads' HO_322001.out).1.symm] <;> rfl)) ?_; (with_reducible refine (laws_heldModule.calls kj108 t316 _ _ t338 1 t339 _ ?side1 ?side2 A160.out).mono ?_); (case side1 => repeat (exact (Kd.R_reads' HO_322001.out).2.2)); (case side2 => rw [show t338.length = t317.length from (Kd.R_reads' HO_322001.out).1.symm]; exact (Kd.R_reads' HO_322001.out).2.1); rintro e w262 ⟨rfl, hb⟩; refine ⟨_, rfl, ?_⟩; replace HO_307001 := Aside0.mk (Kd.R_below HO_307001.out hb); replace HO_311000 := Aside0.mk (Kd.S_below HO_311000.out hb); replace HO_316001 := Aside0.mk (Kd.R_below HO_316001.out hb); replace HO_322001 := Aside0.mk (Kd.R_below HO_322001.out hb); replace BK290 := Aside0.mk (blk_below BK290.out hb); replace BK291 := Aside0.mk (blk_below BK291.out hb); replace BK306 := Aside0.mk (blk_below BK306.out hb); replace BK310 := Aside0.mk (blk_below BK310.out hb); replace BK315 := Aside0.mk (blk_below BK315.out hb); replace BK321 := Aside0.mk (blk_below BK321.out hb); replace HB := Aside0.mk (below_step HB.out hb); clear hb))
       go_ret
       exact ⟨by rfl, by exact HB.out⟩
    replace c106 := Bool.eq_false_iff.mpr c106
    subst c106
    have H1 : (some false) = some r := by rw [if_neg (show ¬ (false = true) by decide)] at H; exact H
    clear H
    have H := H1
    clear H1
    obtain rfl := Option.some.inj H
    go_wp2
    replace HO_307001 := Aside0.mk (Kd.R_drew HO_307001.out); replace HO_311000 := Aside0.mk (Kd.S_drew HO_311000.out); replace HO_316001 := Aside0.mk (Kd.R_drew HO_316001.out); replace HO_322001 := Aside0.mk (Kd.R_drew HO_322001.out); replace BK290 := Aside0.mk (blk_drew BK290.out); replace BK291 := Aside0.mk (blk_drew BK291.out); replace BK306 := Aside0.mk (blk_drew BK306.out); replace BK310 := Aside0.mk (blk_drew BK310.out); replace BK315 := Aside0.mk (blk_drew BK315.out); replace BK321 := Aside0.mk (blk_drew BK321.out); replace HB := Aside0.mk (below_drew1 HB.out)
    refine start_ (n := 5) (S := fun w' => w'.cell? ⟨gb310, 0, none⟩ = some (.slice Ao49 t307.length co49) ∧ w'.cell? ⟨gb290, 0, none⟩ = some (.slice A0_0 l0_0.length c0_0)) (ds := []) #[false,false,false,false,false] (by kernel_rfl) rfl rfl ⟨(blk_cell BK310.out 0).trans rfl, (blk_cell BK290.out 0).trans rfl⟩ (fun hHeld => ?_)
    generalize wc.drew = w263 at HO_307001 HO_311000 HO_316001 HO_322001 BK290 BK291 BK306 BK310 BK315 BK321 HB hHeld ⊢
    refine take_ (i := 0) (N := some 58) (v := ?_) (a' := ?_) #[true,false,false,false,false] rfl rfl (by kernel_rfl) (fun _ _ _ h => h) (Or.inl ⟨by rfl, ?_⟩) hHeld ?_ ?_
    rotate_left
    ·rintro w' ⟨s0, s1⟩
     go_simp
     with_reducible rfl
    rotate_left
    ·simp only [Act.put, List.setIfInBounds_toArray, List.set_cons_zero, List.set_cons_succ, i64_w, i32_w]
     rfl
    refine take_ (i := 1) (N := some 59) (v := ?_) (a' := ?_) #[true,true,false,false,false] rfl rfl (by kernel_rfl) (fun _ _ _ h => h) (Or.inl ⟨by rfl, ?_⟩) hHeld ?_ ?_
    rotate_left
    ·rintro w' ⟨s0, s1⟩
     go_simp
     with_reducible rfl
    rotate_left
    ·simp only [Act.put, List.setIfInBounds_toArray, List.set_cons_zero, List.set_cons_succ, i64_w, i32_w]
     rfl
    refine one_ (i := 2) (N := some 60) #[true,true,true,false,false] rfl rfl (by kernel_rfl) (by decide) (fun K hK => ?_)
    refine goes_ Try.func18 (by kernel_rfl) rfl #[.agg #[.slice A0_0 l0_0.length c0_0]] (by rfl) rfl rfl (by (simp only [List.map_toArray, List.map_cons, List.map_nil]); rfl) ?_
    with_reducible refine (laws_toGroup.calls kj25 _ _ l0_0 t323 _ ?side1 ?side2 A101.out).mono ?_
    (case side1 => exact (Kd.C_below HR0_0.out HB.out))
    (case side2 => exact HC0_0.out)
    rintro e w264 ⟨v324, rfl, ho0, hb⟩
    refine ⟨_, rfl, ?_⟩
    have HO325 := Aside0.mk (Kd.S_lower (Kd.S_new' (Kd.S_new' (Kd.S_new' (Kd.S_new' ho0 (Kd.R_lt HO_307001.out)) (Kd.S_lt HO_311000.out)) (Kd.R_lt HO_316001.out)) (Kd.R_lt HO_322001.out)) (below_size HB.out)); replace HO_307001 := Aside0.mk (Kd.R_below HO_307001.out hb); replace HO_311000 := Aside0.mk (Kd.S_elder' HO_311000.out (Kd.S_base ho0) hb); replace HO_316001 := Aside0.mk (Kd.R_below HO_316001.out hb); replace HO_322001 := Aside0.mk (Kd.R_below HO_322001.out hb); replace BK290 := Aside0.mk (blk_below BK290.out hb); replace BK291 := Aside0.mk (blk_below BK291.out hb); replace BK306 := Aside0.mk (blk_below BK306.out hb); replace BK310 := Aside0.mk (blk_below BK310.out hb); replace BK315 := Aside0.mk (blk_below BK315.out hb); replace BK321 := Aside0.mk (blk_below BK321.out hb); replace HB := Aside0.mk (below_step HB.out hb)
    clear hb
    clear ho0
    obtain ⟨Ao265, co265, eo265⟩ := Kd.S_slice HO325.out
    (subst eo265)
    refine hK.out _ _ ⟨(blk_cell BK310.out 0).trans rfl, (blk_cell BK290.out 0).trans rfl⟩ (fun hHeld => ?_)
    clear hK K
    refine norm_ (a' := ?_) ?_ ?_
    rotate_left
    ·show Act.put _ (some 60) _ = _
     simp only [Act.put, List.setIfInBounds_toArray, List.set_cons_zero, List.set_cons_succ, i64_w, i32_w]
     rfl
    refine one_ (i := 3) (N := some 61) #[true,true,true,true,false] rfl rfl (by kernel_rfl) (by decide) (fun K hK => ?_)
    refine goes_ Try.func22 (by kernel_rfl) rfl #[.agg #[.slice Ao49 t307.length co49], .agg #[.slice Ao265 t323.length co265]] (by rfl) rfl rfl (by (simp only [List.map_toArray, List.map_cons, List.map_nil]); rfl) ?_
    with_reducible refine (laws_eqGroup.calls kj25 _ _ t307 _ _ t323 true _ ?side1 ?side2 ?side3 ?side4 A102.out).mono ?_
    (case side1 => repeat (exact (Kd.S_reads' HO_311000.out).2.2))
    (case side2 => exact (Kd.S_reads' HO_311000.out).2.1)
    (case side3 => repeat (exact (Kd.S_reads' HO325.out).2.2))
    (case side4 => exact (Kd.S_reads' HO325.out).2.1)
    rintro e w266 ⟨rfl, hb⟩
    refine ⟨_, rfl, ?_⟩
    replace HO_307001 := Aside0.mk (Kd.R_below HO_307001.out hb); replace HO_311000 := Aside0.mk (Kd.S_below HO_311000.out hb); replace HO_316001 := Aside0.mk (Kd.R_below HO_316001.out hb); replace HO_322001 := Aside0.mk (Kd.R_below HO_322001.out hb); replace HO325 := Aside0.mk (Kd.S_below HO325.out hb); replace BK290 := Aside0.mk (blk_below BK290.out hb); replace BK291 := Aside0.mk (blk_below BK291.out hb); replace BK306 := Aside0.mk (blk_below BK306.out hb); replace BK310 := Aside0.mk (blk_below BK310.out hb); replace BK315 := Aside0.mk (blk_below BK315.out hb); replace BK321 := Aside0.mk (blk_below BK321.out hb); replace HB := Aside0.mk (below_step HB.out hb)
    clear hb
    refine hK.out _ _ ⟨(blk_cell BK310.out 0).trans rfl, (blk_cell BK290.out 0).trans rfl⟩ (fun hHeld => ?_)
    clear hK K
    refine norm_ (a' := ?_) ?_ ?_
    rotate_left
    ·show Act.put _ (some 61) _ = _
     simp only [Act.put, List.setIfInBounds_toArray, List.set_cons_zero, List.set_cons_succ, i64_w, i32_w]
     rfl
    refine pure_ (i := 4) (N := some 62) (v := ?_) (a' := ?_) #[true,true,true,true,true] rfl rfl (by kernel_rfl) (fun _ _ _ h => h) (Or.inl ⟨by rfl, ?_⟩) ?_ ?_
    rotate_left
    ·intro w'
     go_simp
     with_reducible rfl
    rotate_left
    ·simp only [Act.put, List.setIfInBounds_toArray, List.set_cons_zero, List.set_cons_succ, i64_w, i32_w]
     rfl
    refine done_ (by kernel_rfl) ?_
    go_wp2
    replace HO_307001 := Aside0.mk (Kd.R_drew HO_307001.out); replace HO_311000 := Aside0.mk (Kd.S_drew HO_311000.out); replace HO_316001 := Aside0.mk (Kd.R_drew HO_316001.out); replace HO_322001 := Aside0.mk (Kd.R_drew HO_322001.out); replace HO325 := Aside0.mk (Kd.S_drew HO325.out); replace BK290 := Aside0.mk (blk_drew BK290.out); replace BK291 := Aside0.mk (blk_drew BK291.out); replace BK306 := Aside0.mk (blk_drew BK306.out); replace BK310 := Aside0.mk (blk_drew BK310.out); replace BK315 := Aside0.mk (blk_drew BK315.out); replace BK321 := Aside0.mk (blk_drew BK321.out); replace HB := Aside0.mk (below_drew1 HB.out)
    refine start_ (n := 5) (S := fun w' => w'.cell? ⟨gb315, 0, none⟩ = some (.int .i64 t311) ∧ w'.cell? ⟨gb315, 1, none⟩ = some (.slice Ao63 t312.length co63) ∧ w'.cell? ⟨gb291, 0, none⟩ = some (.int .i64 a1_0) ∧ w'.cell? ⟨gb291, 1, none⟩ = some (.slice A1_1 l1_1.length c1_1)) (ds := []) #[false,false,false,false,false] (by kernel_rfl) rfl rfl ⟨(blk_cell BK315.out 0).trans rfl, (blk_cell BK315.out 1).trans rfl, (blk_cell BK291.out 0).trans rfl, (blk_cell BK291.out 1).trans rfl⟩ (fun hHeld => ?_)
    generalize w266.drew = w267 at HO_307001 HO_311000 HO_316001 HO_322001 HO325 BK290 BK291 BK306 BK310 BK315 BK321 HB hHeld ⊢
    refine take_ (i := 0) (N := some 63) (v := ?_) (a' := ?_) #[true,false,false,false,false] rfl rfl (by kernel_rfl) (fun _ _ _ h => h) (Or.inl ⟨by rfl, ?_⟩) hHeld ?_ ?_
    rotate_left
    ·rintro w' ⟨s0, s1, s2, s3⟩
     go_simp
     with_reducible rfl
    rotate_left
    ·simp only [Act.put, List.setIfInBounds_toArray, List.set_cons_zero, List.set_cons_succ, i64_w, i32_w]
     rfl
    refine take_ (i := 1) (N := some 64) (v := ?_) (a' := ?_) #[true,true,false,false,false] rfl rfl (by kernel_rfl) (fun _ _ _ h => h) (Or.inl ⟨by rfl, ?_⟩) hHeld ?_ ?_
    rotate_left
    ·rintro w' ⟨s0, s1, s2, s3⟩
     go_simp
     with_reducible rfl
    rotate_left
    ·simp only [Act.put, List.setIfInBounds_toArray, List.set_cons_zero, List.set_cons_succ, i64_w, i32_w]
     rfl
    refine one_ (i := 2) (N := some 65) #[true,true,true,false,false] rfl rfl (by kernel_rfl) (by decide) (fun K hK => ?_)
    refine goes_ Try.func19 (by kernel_rfl) rfl #[.agg #[.int .i64 a1_0, .slice A1_1 l1_1.length c1_1]] (by rfl) rfl rfl (by (simp only [List.map_toArray, List.map_cons, List.map_nil]); rfl) ?_
    with_reducible refine (laws_toModule.calls kj25 a1_0 _ _ l1_1 t327 t328 _ ?side1 ?side2 A104.out).mono ?_
    (case side1 => exact (Kd.C_below HR1_1.out HB.out))
    (case side2 => exact HC1_1.out)
    rintro e w268 ⟨v329, rfl, ho0, hb⟩
    refine ⟨_, rfl, ?_⟩
    replace HO_311000 := Aside0.mk (Kd.S_elder' HO_311000.out (Kd.R_base ho0) hb); replace HO325 := Aside0.mk (Kd.S_elder' HO325.out (Kd.R_base ho0) hb); have HO330 := Aside0.mk (Kd.R_lower (Kd.R_new' (Kd.R_new' (Kd.R_new' ho0 (Kd.R_lt HO_307001.out)) (Kd.R_lt HO_316001.out)) (Kd.R_lt HO_322001.out)) (below_size HB.out)); replace HO_307001 := Aside0.mk (Kd.R_elder' HO_307001.out (Kd.R_base ho0) hb); replace HO_316001 := Aside0.mk (Kd.R_elder' HO_316001.out (Kd.R_base ho0) hb); replace HO_322001 := Aside0.mk (Kd.R_elder' HO_322001.out (Kd.R_base ho0) hb); replace BK290 := Aside0.mk (blk_below BK290.out hb); replace BK291 := Aside0.mk (blk_below BK291.out hb); replace BK306 := Aside0.mk (blk_below BK306.out hb); replace BK310 := Aside0.mk (blk_below BK310.out hb); replace BK315 := Aside0.mk (blk_below BK315.out hb); replace BK321 := Aside0.mk (blk_below BK321.out hb); replace HB := Aside0.mk (below_step HB.out hb)
    clear hb
    clear ho0
    obtain ⟨Ao269, co269, eo269⟩ := Kd.R_slice HO330.out
    (subst eo269)
    refine hK.out _ _ ⟨(blk_cell BK315.out 0).trans rfl, (blk_cell BK315.out 1).trans rfl, (blk_cell BK291.out 0).trans rfl, (blk_cell BK291.out 1).trans rfl⟩ (fun hHeld => ?_)
    clear hK K
    refine norm_ (a' := ?_) ?_ ?_
    rotate_left
    ·show Act.put _ (some 65) _ = _
     simp only [Act.put, List.setIfInBounds_toArray, List.set_cons_zero, List.set_cons_succ, i64_w, i32_w]
     rfl
    refine one_ (i := 3) (N := some 66) #[true,true,true,true,false] rfl rfl (by kernel_rfl) (by decide) (fun K hK => ?_)
    refine goes_ Try.func21 (by kernel_rfl) rfl #[.agg #[.int .i64 t311, .slice Ao63 t312.length co63], .agg #[.int .i64 t327, .slice Ao269 t328.length co269]] (by rfl) rfl rfl (by (simp only [List.map_toArray, List.map_cons, List.map_nil]); rfl) ?_
    with_reducible refine (laws_eqModule.calls kj25 t311 _ _ t312 t327 _ _ t328 false _ ?side1 ?side2 ?side3 ?side4 A105.out).mono ?_
    (case side1 => repeat (exact (Kd.R_reads' HO_316001.out).2.2))
    (case side2 => exact (Kd.R_reads' HO_316001.out).2.1)
    (case side3 => repeat (exact (Kd.R_reads' HO330.out).2.2))
    (case side4 => exact (Kd.R_reads' HO330.out).2.1)
    rintro e w270 ⟨rfl, hb⟩
    refine ⟨_, rfl, ?_⟩
    replace HO_307001 := Aside0.mk (Kd.R_below HO_307001.out hb); replace HO_311000 := Aside0.mk (Kd.S_below HO_311000.out hb); replace HO_316001 := Aside0.mk (Kd.R_below HO_316001.out hb); replace HO_322001 := Aside0.mk (Kd.R_below HO_322001.out hb); replace HO325 := Aside0.mk (Kd.S_below HO325.out hb); replace HO330 := Aside0.mk (Kd.R_below HO330.out hb); replace BK290 := Aside0.mk (blk_below BK290.out hb); replace BK291 := Aside0.mk (blk_below BK291.out hb); replace BK306 := Aside0.mk (blk_below BK306.out hb); replace BK310 := Aside0.mk (blk_below BK310.out hb); replace BK315 := Aside0.mk (blk_below BK315.out hb); replace BK321 := Aside0.mk (blk_below BK321.out hb); replace HB := Aside0.mk (below_step HB.out hb)
    clear hb
    refine hK.out _ _ ⟨(blk_cell BK315.out 0).trans rfl, (blk_cell BK315.out 1).trans rfl, (blk_cell BK291.out 0).trans rfl, (blk_cell BK291.out 1).trans rfl⟩ (fun hHeld => ?_)
    clear hK K
    refine norm_ (a' := ?_) ?_ ?_
    rotate_left
    ·show Act.put _ (some 66) _ = _
     simp only [Act.put, List.setIfInBounds_toArray, List.set_cons_zero, List.set_cons_succ, i64_w, i32_w]
     rfl
    refine pure_ (i := 4) (N := some 67) (v := ?_) (a' := ?_) #[true,true,true,true,true] rfl rfl (by kernel_rfl) (fun _ _ _ h => h) (Or.inl ⟨by rfl, ?_⟩) ?_ ?_
    rotate_left
    ·intro w'
     go_simp
     with_reducible rfl
    rotate_left
    ·simp only [Act.put, List.setIfInBounds_toArray, List.set_cons_zero, List.set_cons_succ, i64_w, i32_w]
     rfl
    refine done_ (by kernel_rfl) ?_
    go_wp2
    go_ret
    exact ⟨by rfl, by exact HB.out⟩
   replace c103 := Bool.eq_false_iff.mpr c103
   subst c103
   have H1 : (some false) = some r := by rw [if_neg (show ¬ (false = true) by decide)] at H; exact H
   clear H
   have H := H1
   clear H1
   obtain rfl := Option.some.inj H
   go_wp2
   replace HO_307001 := Aside0.mk (Kd.R_drew HO_307001.out); replace HO_311000 := Aside0.mk (Kd.S_drew HO_311000.out); replace HO_316001 := Aside0.mk (Kd.R_drew HO_316001.out); replace HO_322001 := Aside0.mk (Kd.R_drew HO_322001.out); replace BK290 := Aside0.mk (blk_drew BK290.out); replace BK291 := Aside0.mk (blk_drew BK291.out); replace BK306 := Aside0.mk (blk_drew BK306.out); replace BK310 := Aside0.mk (blk_drew BK310.out); replace BK315 := Aside0.mk (blk_drew BK315.out); replace BK321 := Aside0.mk (blk_drew BK321.out); replace HB := Aside0.mk (below_drew1 HB.out)
   refine start_ (n := 5) (S := fun w' => w'.cell? ⟨gb310, 0, none⟩ = some (.slice Ao49 t307.length co49) ∧ w'.cell? ⟨gb290, 0, none⟩ = some (.slice A0_0 l0_0.length c0_0)) (ds := []) #[false,false,false,false,false] (by kernel_rfl) rfl rfl ⟨(blk_cell BK310.out 0).trans rfl, (blk_cell BK290.out 0).trans rfl⟩ (fun hHeld => ?_)
   generalize wc.drew = w271 at HO_307001 HO_311000 HO_316001 HO_322001 BK290 BK291 BK306 BK310 BK315 BK321 HB hHeld ⊢
   refine take_ (i := 0) (N := some 58) (v := ?_) (a' := ?_) #[true,false,false,false,false] rfl rfl (by kernel_rfl) (fun _ _ _ h => h) (Or.inl ⟨by rfl, ?_⟩) hHeld ?_ ?_
   rotate_left
   ·rintro w' ⟨s0, s1⟩
    go_simp
    with_reducible rfl
   rotate_left
   ·simp only [Act.put, List.setIfInBounds_toArray, List.set_cons_zero, List.set_cons_succ, i64_w, i32_w]
    rfl
   refine take_ (i := 1) (N := some 59) (v := ?_) (a' := ?_) #[true,true,false,false,false] rfl rfl (by kernel_rfl) (fun _ _ _ h => h) (Or.inl ⟨by rfl, ?_⟩) hHeld ?_ ?_
   rotate_left
   ·rintro w' ⟨s0, s1⟩
    go_simp
    with_reducible rfl
   rotate_left
   ·simp only [Act.put, List.setIfInBounds_toArray, List.set_cons_zero, List.set_cons_succ, i64_w, i32_w]
    rfl
   refine one_ (i := 2) (N := some 60) #[true,true,true,false,false] rfl rfl (by kernel_rfl) (by decide) (fun K hK => ?_)
   refine goes_ Try.func18 (by kernel_rfl) rfl #[.agg #[.slice A0_0 l0_0.length c0_0]] (by rfl) rfl rfl (by (simp only [List.map_toArray, List.map_cons, List.map_nil]); rfl) ?_
   with_reducible refine (laws_toGroup.calls kj25 _ _ l0_0 t323 _ ?side1 ?side2 A101.out).mono ?_
   (case side1 => exact (Kd.C_below HR0_0.out HB.out))
   (case side2 => exact HC0_0.out)
   rintro e w272 ⟨v324, rfl, ho0, hb⟩
   refine ⟨_, rfl, ?_⟩
   have HO325 := Aside0.mk (Kd.S_lower (Kd.S_new' (Kd.S_new' (Kd.S_new' (Kd.S_new' ho0 (Kd.R_lt HO_307001.out)) (Kd.S_lt HO_311000.out)) (Kd.R_lt HO_316001.out)) (Kd.R_lt HO_322001.out)) (below_size HB.out)); replace HO_307001 := Aside0.mk (Kd.R_below HO_307001.out hb); replace HO_311000 := Aside0.mk (Kd.S_elder' HO_311000.out (Kd.S_base ho0) hb); replace HO_316001 := Aside0.mk (Kd.R_below HO_316001.out hb); replace HO_322001 := Aside0.mk (Kd.R_below HO_322001.out hb); replace BK290 := Aside0.mk (blk_below BK290.out hb); replace BK291 := Aside0.mk (blk_below BK291.out hb); replace BK306 := Aside0.mk (blk_below BK306.out hb); replace BK310 := Aside0.mk (blk_below BK310.out hb); replace BK315 := Aside0.mk (blk_below BK315.out hb); replace BK321 := Aside0.mk (blk_below BK321.out hb); replace HB := Aside0.mk (below_step HB.out hb)
   clear hb
   clear ho0
   obtain ⟨Ao273, co273, eo273⟩ := Kd.S_slice HO325.out
   (subst eo273)
   refine hK.out _ _ ⟨(blk_cell BK310.out 0).trans rfl, (blk_cell BK290.out 0).trans rfl⟩ (fun hHeld => ?_)
   clear hK K
   refine norm_ (a' := ?_) ?_ ?_
   rotate_left
   ·show Act.put _ (some 60) _ = _
    simp only [Act.put, List.setIfInBounds_toArray, List.set_cons_zero, List.set_cons_succ, i64_w, i32_w]
    rfl
   refine one_ (i := 3) (N := some 61) #[true,true,true,true,false] rfl rfl (by kernel_rfl) (by decide) (fun K hK => ?_)
   refine goes_ Try.func22 (by kernel_rfl) rfl #[.agg #[.slice Ao49 t307.length co49], .agg #[.slice Ao273 t323.length co273]] (by rfl) rfl rfl (by (simp only [List.map_toArray, List.map_cons, List.map_nil]); rfl) ?_
   with_reducible refine (laws_eqGroup.calls kj25 _ _ t307 _ _ t323 false _ ?side1 ?side2 ?side3 ?side4 A102.out).mono ?_
   (case side1 => repeat (exact (Kd.S_reads' HO_311000.out).2.2))
   (case side2 => exact (Kd.S_reads' HO_311000.out).2.1)
   (case side3 => repeat (exact (Kd.S_reads' HO325.out).2.2))
   (case side4 => exact (Kd.S_reads' HO325.out).2.1)
   rintro e w274 ⟨rfl, hb⟩
   refine ⟨_, rfl, ?_⟩
   replace HO_307001 := Aside0.mk (Kd.R_below HO_307001.out hb); replace HO_311000 := Aside0.mk (Kd.S_below HO_311000.out hb); replace HO_316001 := Aside0.mk (Kd.R_below HO_316001.out hb); replace HO_322001 := Aside0.mk (Kd.R_below HO_322001.out hb); replace HO325 := Aside0.mk (Kd.S_below HO325.out hb); replace BK290 := Aside0.mk (blk_below BK290.out hb); replace BK291 := Aside0.mk (blk_below BK291.out hb); replace BK306 := Aside0.mk (blk_below BK306.out hb); replace BK310 := Aside0.mk (blk_below BK310.out hb); replace BK315 := Aside0.mk (blk_below BK315.out hb); replace BK321 := Aside0.mk (blk_below BK321.out hb); replace HB := Aside0.mk (below_step HB.out hb)
   clear hb
   refine hK.out _ _ ⟨(blk_cell BK310.out 0).trans rfl, (blk_cell BK290.out 0).trans rfl⟩ (fun hHeld => ?_)
   clear hK K
   refine norm_ (a' := ?_) ?_ ?_
   rotate_left
   ·show Act.put _ (some 61) _ = _
    simp only [Act.put, List.setIfInBounds_toArray, List.set_cons_zero, List.set_cons_succ, i64_w, i32_w]
    rfl
   refine pure_ (i := 4) (N := some 62) (v := ?_) (a' := ?_) #[true,true,true,true,true] rfl rfl (by kernel_rfl) (fun _ _ _ h => h) (Or.inl ⟨by rfl, ?_⟩) ?_ ?_
   rotate_left
   ·intro w'
    go_simp
    with_reducible rfl
   rotate_left
   ·simp only [Act.put, List.setIfInBounds_toArray, List.set_cons_zero, List.set_cons_succ, i64_w, i32_w]
    rfl
   refine done_ (by kernel_rfl) ?_
   go_wp2
   go_ret
   exact ⟨by rfl, by exact HB.out⟩

/-- THE ONE PURE STATEMENT of laws_FnExactOuterModule: yours. -/
def laws_FnExactOuterModule.Pure : Prop := ∀ (l0_0 : List (List Int)) (a1_0 : Int) (l1_1 : List Int) (a2 : Int), l0_0.length ≤ maxLen → (∀ r ∈ l0_0, r.length ≤ maxLen ∧ ∀ x ∈ r, (Lit.int .i64 x).wf = true) → (Lit.int .i64 a1_0).wf = true → l1_1.length ≤ maxLen → (∀ x ∈ l1_1, (Lit.int .i64 x).wf = true) → (Lit.int .i64 a2).wf = true → ∃ k, laws_FnExactOuterModule.f k l0_0 a1_0 l1_1 a2 = some true
theorem laws_FnExactOuterModule.walk (P : laws_FnExactOuterModule.Pure) (A0_0 : Option Addr) (c0_0 : Nat) (l0_0 : List (List Int)) (a1_0 : Int) (A1_1 : Option Addr) (c1_1 : Nat) (l1_1 : List Int) (a2 : Int) (w : World) (hc0_0 : l0_0.length ≤ c0_0) (hm0_0 : l0_0.length ≤ maxLen) (hw0_0 : (∀ r ∈ l0_0, r.length ≤ maxLen ∧ ∀ x ∈ r, (Lit.int .i64 x).wf = true)) (hr0_0 : Kd.C (Kd.slice 2 (Kd.int .i64)) w A0_0 l0_0.length l0_0) (hw1_0 : (Lit.int .i64 a1_0).wf = true) (hc1_1 : l1_1.length ≤ c1_1) (hm1_1 : l1_1.length ≤ maxLen) (hw1_1 : (∀ x ∈ l1_1, (Lit.int .i64 x).wf = true)) (hr1_1 : Kd.C (Kd.int .i64) w A1_1 l1_1.length l1_1) (w2 : (Lit.int .i64 a2).wf = true) :
  Calls Try.prog 4 #[.agg #[.slice A0_0 l0_0.length c0_0], .agg #[.int .i64 a1_0, .slice A1_1 l1_1.length c1_1], .int .i64 a2] w fun e w' => e = .returned (.bool true) ∧ Below w.heap.size w w' := by
 obtain ⟨k, h⟩ := P l0_0 a1_0 l1_1 a2 hm0_0 hw0_0 hw1_0 hm1_1 hw1_1 w2
 refine (laws_FnExactOuterModule.calls k _ _ l0_0 a1_0 _ _ l1_1 a2 true w hr0_0 hc0_0 hr1_1 hc1_1 h).mono ?_
 rintro e w' ⟨rfl, hd⟩
 exact ⟨rfl, hd⟩

end Go.Proofs.Ytkpcogaahgfmcaa.PFnExactOuterModule
