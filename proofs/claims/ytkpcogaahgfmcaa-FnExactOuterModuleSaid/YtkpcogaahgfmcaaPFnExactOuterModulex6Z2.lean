-- Made by a program of this session (wip/tools: the patched printer), for this claim.
import Derived.Test.YtkpcogaahgfmcaaXSqZ2
import Derived.Test.YtkpcogaahgfmcaaPFnExactOuterModulex0Z2
import Derived.Test.YtkpcogaahgfmcaaPFnExactOuterModulex2Z2
import Derived.Test.YtkpcogaahgfmcaaPFnExactOuterModulex3Z2
import Derived.Test.YtkpcogaahgfmcaaPFnExactOuterModulex5Z2
namespace Go.Proofs.Ytkpcogaahgfmcaa.PFnExactOuterModule
open Go.Proofs.YtkpcogaahgfmcaaX
open Go.RowKit Go.Proofs.YtkpcogaahgfmcaaW.PrintWords Go.Proofs.YtkpcogaahgfmcaaW.PrintLast Go.Proofs.YtkpcogaahgfmcaaW.PrintMore
attribute [local go_sem] max2_int min2_int max_two min_two max_three min_three max_four min_four   -- for this text's walks alone
set_option linter.unusedVariables false
set_option linter.unusedSimpArgs false

/-! ### spec_l08Code: function 73 -/
def spec_l08Code.j0 : Nat → Int → Bool → Int → List Int → Option (Int)
 | 0, _, _, _, _ => none
 | k + 1, x2, x7, x186000, x186001 => if x7 = true then (some 1) else ((spec_l01In.f x2 2 (wrap64 (Int.tdiv x186000 2))).bind fun t188 => (if t188 = true then (if x2 = 0 then (none) else (if (Int.tmod x186000 x2) = 0 then (some 0) else (some 2))) else (some 2)))
def spec_l08Code.f (k : Nat) (l0_0 : List (List Int)) (a1_0 : Int) (l1_1 : List Int) (a2 : Int) : Option (Int) := (spec_l01Is.f k l0_0).bind fun t186 => (if t186 = true then ((spec_l02Is.f k l0_0 a1_0 l1_1).bind fun t187 => (spec_l08Code.j0 k a2 (!t187) a1_0 l1_1)) else (spec_l08Code.j0 k a2 true a1_0 l1_1))
theorem spec_l08Code.mono_l : ∀ k, (∀ y0 y1 y2 y3, LeO (spec_l08Code.j0 k y0 y1 y2 y3) (spec_l08Code.j0 (k + 1) y0 y1 y2 y3))
 | 0 => fun _ _ _ _ r h => by simp [spec_l08Code.j0] at h
 | k + 1 => by
  have ih0 := spec_l08Code.mono_l k
  ·intro y0 y1 y2 y3
   unfold spec_l08Code.j0
   repeat' first
   | (with_reducible exact ih0 _ _ _ _)
   | (with_reducible exact spec_l01Is.mono _ _)
   | (with_reducible exact spec_l02Is.mono _ _ _ _)
   | (with_reducible exact LeO.refl _)
   | (with_reducible exact LeO.none _)
   | (with_reducible refine LeO.ite ?_ ?_)
   | (with_reducible refine LeO.bind ?_ (fun _ => ?_))
   | exact ih0 _ _ _ _
   | exact spec_l01Is.mono _ _
   | exact spec_l02Is.mono _ _ _ _
   | exact LeO.none _
   | refine LeO.ite ?_ ?_
   | refine LeO.bind ?_ (fun _ => ?_)
theorem spec_l08Code.mono : ∀ a0 a1 a2 a3 k, LeO (spec_l08Code.f k a0 a1 a2 a3) (spec_l08Code.f (k + 1) a0 a1 a2 a3) := by
 intro a0 a1 a2 a3 k
 have ih0 := spec_l08Code.mono_l k
 unfold spec_l08Code.f
 repeat' first
   | (with_reducible exact ih0 _ _ _ _)
   | (with_reducible exact spec_l01Is.mono _ _)
   | (with_reducible exact spec_l02Is.mono _ _ _ _)
   | (with_reducible refine LeO.ite ?_ ?_)
   | (with_reducible refine LeO.bind ?_ (fun _ => ?_))
set_option maxHeartbeats 8000000 in
set_option maxRecDepth 100000 in
theorem spec_l08Code.calls (k : Nat) (A0_0 : Option Addr) (c0_0 : Nat) (l0_0 : List (List Int)) (a1_0 : Int) (A1_1 : Option Addr) (c1_1 : Nat) (l1_1 : List Int) (a2 : Int) (r : Int) (w : World) (hr0_0 : Kd.C (Kd.slice 2 (Kd.int .i64)) w A0_0 l0_0.length l0_0) (hc0_0 : l0_0.length ≤ c0_0) (hr1_1 : Kd.C (Kd.int .i64) w A1_1 l1_1.length l1_1) (hc1_1 : l1_1.length ≤ c1_1) (h : spec_l08Code.f k l0_0 a1_0 l1_1 a2 = some r) :
  Calls Try.prog 73 #[.agg #[.slice A0_0 l0_0.length c0_0], .agg #[.int .i64 a1_0, .slice A1_1 l1_1.length c1_1], .int .i64 a2] w fun e w' => e = .returned (.int .i64 r) ∧ Below w.heap.size w w' := by
 have hu33 := Try.underlying33
 have hu30 := Try.underlying30
 have hu2 := Try.underlying2
 have HR0_0 := Aside0.mk hr0_0
 have HC0_0 := Aside0.mk hc0_0
 clear hr0_0 hc0_0
 have HR1_1 := Aside0.mk hr1_1
 have HC1_1 := Aside0.mk hc1_1
 clear hr1_1 hc1_1
 have HB := Aside0.mk (Below.refl w.heap.size w)
 have H : ((spec_l01Is.f k l0_0).bind fun t186 => (if t186 = true then ((spec_l02Is.f k l0_0 a1_0 l1_1).bind fun t187 => (spec_l08Code.j0 k a2 (!t187) a1_0 l1_1)) else (spec_l08Code.j0 k a2 true a1_0 l1_1))) = some r := h
 clear h
 have HC4 := Aside0.mk H
 clear H
 go_enter Try.func73, Try.ntmps73
 go_upto_region 1 with (first | ((with_reducible refine gate_dst (N := 3) rfl ?_); refine box_event ?hg (N := 3) ?hd (cs := #[.slice A0_0 l0_0.length c0_0]) (t := 33) ?hr ?_; (case hd => rfl); (case hg => rfl); (case hr => (go_simp; done)); intro gb184 hg w5 hbox hb; have BK184 := Aside0.mk (hbox); have GW184 := Aside0.mk (geg hg (below_size HB.out)); have GE184 := Aside0.mk (geg hg (below_size HB.out)); replace HB := Aside0.mk (below_step HB.out hb); clear hb hbox hg) | ((with_reducible refine gate_dst (N := 4) rfl ?_); refine box_event ?hg (N := 4) ?hd (cs := #[.int .i64 a1_0, .slice A1_1 l1_1.length c1_1]) (t := 30) ?hr ?_; (case hd => rfl); (case hg => rfl); (case hr => (go_simp; done)); intro gb185 hg w6 hbox hb; have BK185 := Aside0.mk (hbox); have GW185 := Aside0.mk (geg hg (below_size HB.out)); have GE185 := Aside0.mk (geg hg (below_size HB.out)); replace HB := Aside0.mk (below_step HB.out hb); have NB184_185 := Aside0.mk (neg1 hg (Nat.ne_of_lt (blk_lt BK184.out))); have NB185_184 := Aside0.mk (neg2 hg (Nat.ne_of_gt (blk_lt BK184.out))); replace BK184 := Aside0.mk (blk_below BK184.out hb); clear hb hbox hg))
 go_cut [7] (fun v7 wc => ∃ (kq : Nat) (x7_3 : Bool), v7 = .bool x7_3 ∧ Aside0 (spec_l08Code.j0 kq a2 x7_3 a1_0 l1_1 = some r) ∧ Aside0 (kq ≤ k) ∧ Aside0 (wc.heap[gb184]? = some (.cells #[(.slice A0_0 l0_0.length c0_0)] 33 (0, 0))) ∧ Aside0 (wc.heap[gb185]? = some (.cells #[.int .i64 a1_0, (.slice A1_1 l1_1.length c1_1)] 30 (0, 0))) ∧ Aside0 (Below w.heap.size w wc))
 case first =>
  have H := HC4.out
  clear HC4
  obtain ⟨t186, A7, H⟩ := bnd H
  try dsimp only at H
  by_cases c8 : t186 = true
  ·subst c8
   have H1 : ((spec_l02Is.f k l0_0 a1_0 l1_1).bind fun t187 => (spec_l08Code.j0 k a2 (!t187) a1_0 l1_1)) = some r := by rw [if_pos rfl] at H; exact H
   clear H
   have H := H1
   clear H1
   obtain ⟨t187, A9, H⟩ := bnd H
   try dsimp only at H
   have H' := Aside0.mk H
   clear H
   have hnb10 := NB184_185.out
   have hnc10 := NB185_184.out
   have hcz11_0 := bc0 BK184.out
   have hfz11_0 := blk_frozen BK184.out 0
   go_wp2_with (first | ((with_reducible refine gate_callee (f := 118) rfl ?_); refine goesL_ (some 9) rfl rfl Try.func118 (by kernel_rfl) rfl #[.agg #[.slice A0_0 l0_0.length c0_0]] rfl (by (simp only [List.map_toArray, List.map_cons, List.map_nil]); rfl) ?_; (with_reducible refine (spec_l01Is.calls k _ _ l0_0 true _ ?side1 ?side2 A7.out).mono ?_); (case side1 => exact (Kd.C_below HR0_0.out HB.out)); (case side2 => exact HC0_0.out); rintro e w12 ⟨rfl, hb⟩; refine ⟨_, rfl, ?_⟩; replace BK184 := Aside0.mk (blk_below BK184.out hb); replace BK185 := Aside0.mk (blk_below BK185.out hb); replace HB := Aside0.mk (below_step HB.out hb); clear hb; have hcz13_0 := bc0 BK184.out; have hfz13_0 := blk_frozen BK184.out 0; have hcz14_0 := bc0 BK185.out; have hcz14_1 := bc1 BK185.out; have hfz14_0 := blk_frozen BK185.out 0; have hfz14_1 := blk_frozen BK185.out 1) | (go_at_call 119; (with_reducible refine (spec_l02Is.calls k _ _ l0_0 a1_0 _ _ l1_1 t187 _ ?side1 ?side2 ?side3 ?side4 A9.out).mono ?_); (case side1 => exact (Kd.C_below HR0_0.out HB.out)); (case side2 => exact HC0_0.out); (case side3 => exact (Kd.C_below HR1_1.out HB.out)); (case side4 => exact HC1_1.out); rintro e w15 ⟨rfl, hb⟩; replace BK184 := Aside0.mk (blk_below BK184.out hb); replace BK185 := Aside0.mk (blk_below BK185.out hb); replace HB := Aside0.mk (below_step HB.out hb); clear hb))
   go_meet
   case rel => exact ⟨_, (!t187), (by rfl), H', ⟨by omega⟩, ⟨by exact BK184.out⟩, ⟨by exact BK185.out⟩, ⟨by exact HB.out⟩⟩
  replace c8 := Bool.eq_false_iff.mpr c8
  subst c8
  have H1 : (spec_l08Code.j0 k a2 true a1_0 l1_1) = some r := by rw [if_neg (show ¬ (false = true) by decide)] at H; exact H
  clear H
  have H := H1
  clear H1
  have H' := Aside0.mk H
  clear H
  have hnb16 := NB184_185.out
  have hnc16 := NB185_184.out
  have hcz17_0 := bc0 BK184.out
  have hfz17_0 := blk_frozen BK184.out 0
  go_wp2_with (((with_reducible refine gate_callee (f := 118) rfl ?_); refine goesL_ (some 9) rfl rfl Try.func118 (by kernel_rfl) rfl #[.agg #[.slice A0_0 l0_0.length c0_0]] rfl (by (simp only [List.map_toArray, List.map_cons, List.map_nil]); rfl) ?_; (with_reducible refine (spec_l01Is.calls k _ _ l0_0 false _ ?side1 ?side2 A7.out).mono ?_); (case side1 => exact (Kd.C_below HR0_0.out HB.out)); (case side2 => exact HC0_0.out); rintro e w18 ⟨rfl, hb⟩; refine ⟨_, rfl, ?_⟩; replace BK184 := Aside0.mk (blk_below BK184.out hb); replace BK185 := Aside0.mk (blk_below BK185.out hb); replace HB := Aside0.mk (below_step HB.out hb); clear hb))
  go_meet
  case rel => exact ⟨_, (true), (by rfl), H', ⟨by omega⟩, ⟨by exact BK184.out⟩, ⟨by exact BK185.out⟩, ⟨by exact HB.out⟩⟩
 case rest =>
  clear HC4
  obtain ⟨kq, x7_3, rfl, HA, HJ3, BK184, BK185, HB⟩ := hcut
  cases kq with
  | zero => exact absurd HA.out (by simp [spec_l08Code.j0])
  | succ kj3 =>
   have H := HA.out
   clear HA
   simp only [spec_l08Code.j0] at H
   by_cases c19 : x7_3 = true
   ·subst c19
    have H1 : (some 1) = some r := by rw [if_pos rfl] at H; exact H
    clear H
    have H := H1
    clear H1
    obtain rfl := Option.some.inj H
    go_wp2
    go_ret
    exact ⟨by rfl, by exact HB.out⟩
   replace c19 := Bool.eq_false_iff.mpr c19
   subst c19
   have H1 : ((spec_l01In.f a2 2 (wrap64 (Int.tdiv a1_0 2))).bind fun t188 => (if t188 = true then (if a2 = 0 then (none) else (if (Int.tmod a1_0 a2) = 0 then (some 0) else (some 2))) else (some 2))) = some r := by rw [if_neg (show ¬ (false = true) by decide)] at H; exact H
   clear H
   have H := H1
   clear H1
   obtain ⟨t188, A20, H⟩ := bnd H
   try dsimp only at H
   by_cases c21 : t188 = true
   ·subst c21
    have H1 : (if a2 = 0 then (none) else (if (Int.tmod a1_0 a2) = 0 then (some 0) else (some 2))) = some r := by rw [if_pos rfl] at H; exact H
    clear H
    have H := H1
    clear H1
    by_cases c22 : a2 = 0
    ·rw [if_pos c22] at H
     exact absurd H (by simp)
    rw [if_neg c22] at H
    have c22b0 : (a2 == 0) = false := beq_eq_false_iff_ne.mpr c22
    have c22b1 : (a2 != 0) = true := bne_iff_ne.mpr c22
    by_cases c23 : (Int.tmod a1_0 a2) = 0
    ·rw [if_pos c23] at H
     have c23b0 : ((Int.tmod a1_0 a2) == 0) = true := beq_iff_eq.mpr c23
     have c23b1 : ((Int.tmod a1_0 a2) != 0) = false := bne_eq_false_iff_eq.mpr c23
     clear c23
     obtain rfl := Option.some.inj H
     have hnb24 := NB185_184.out
     have hnc24 := NB184_185.out
     have hcz25_0 := bc0 BK185.out
     have hcz25_1 := bc1 BK185.out
     have hfz25_0 := blk_frozen BK185.out 0
     have hfz25_1 := blk_frozen BK185.out 1
     go_wp2_with (((with_reducible refine gate_callee (f := 120) rfl ?_); refine goesL_ (some 22) rfl rfl Try.func120 (by kernel_rfl) rfl #[.int .i64 a2, .int .i64 2, .int .i64 (wrap64 (Int.tdiv a1_0 2))] rfl (by (simp only [List.map_toArray, List.map_cons, List.map_nil]); rfl) ?_; (with_reducible refine (spec_l01In.calls a2 2 (wrap64 (Int.tdiv a1_0 2)) true _ A20.out).mono ?_); rintro e w' ⟨rfl, ⟨nd, rfl⟩⟩; refine ⟨_, rfl, ?_⟩))
     go_ret
     exact ⟨by rfl, by repeat ((with_reducible first | exact HB.out | apply pw_below_drewN))⟩
    rw [if_neg c23] at H
    have c23b0 : ((Int.tmod a1_0 a2) == 0) = false := beq_eq_false_iff_ne.mpr c23
    have c23b1 : ((Int.tmod a1_0 a2) != 0) = true := bne_iff_ne.mpr c23
    obtain rfl := Option.some.inj H
    have hnb26 := NB185_184.out
    have hnc26 := NB184_185.out
    have hcz27_0 := bc0 BK185.out
    have hcz27_1 := bc1 BK185.out
    have hfz27_0 := blk_frozen BK185.out 0
    have hfz27_1 := blk_frozen BK185.out 1
    go_wp2_with (((with_reducible refine gate_callee (f := 120) rfl ?_); refine goesL_ (some 22) rfl rfl Try.func120 (by kernel_rfl) rfl #[.int .i64 a2, .int .i64 2, .int .i64 (wrap64 (Int.tdiv a1_0 2))] rfl (by (simp only [List.map_toArray, List.map_cons, List.map_nil]); rfl) ?_; (with_reducible refine (spec_l01In.calls a2 2 (wrap64 (Int.tdiv a1_0 2)) true _ A20.out).mono ?_); rintro e w' ⟨rfl, ⟨nd, rfl⟩⟩; refine ⟨_, rfl, ?_⟩))
    go_ret
    exact ⟨by rfl, by repeat ((with_reducible first | exact HB.out | apply pw_below_drewN))⟩
   replace c21 := Bool.eq_false_iff.mpr c21
   subst c21
   have H1 : (some 2) = some r := by rw [if_neg (show ¬ (false = true) by decide)] at H; exact H
   clear H
   have H := H1
   clear H1
   obtain rfl := Option.some.inj H
   have hnb28 := NB185_184.out
   have hnc28 := NB184_185.out
   have hcz29_0 := bc0 BK185.out
   have hcz29_1 := bc1 BK185.out
   have hfz29_0 := blk_frozen BK185.out 0
   have hfz29_1 := blk_frozen BK185.out 1
   go_wp2_with (((with_reducible refine gate_callee (f := 120) rfl ?_); refine goesL_ (some 22) rfl rfl Try.func120 (by kernel_rfl) rfl #[.int .i64 a2, .int .i64 2, .int .i64 (wrap64 (Int.tdiv a1_0 2))] rfl (by (simp only [List.map_toArray, List.map_cons, List.map_nil]); rfl) ?_; (with_reducible refine (spec_l01In.calls a2 2 (wrap64 (Int.tdiv a1_0 2)) false _ A20.out).mono ?_); rintro e w' ⟨rfl, ⟨nd, rfl⟩⟩; refine ⟨_, rfl, ?_⟩))
   go_ret
   exact ⟨by rfl, by repeat ((with_reducible first | exact HB.out | apply pw_below_drewN))⟩

/-! ### spec_l02Reduced: function 74 -/
def spec_l02Reduced.l0 : Nat → Int → Int → Int → List Int → Int → List Int → Option (Int × List Int)
 | 0, _, _, _, _, _, _ => none
 | k + 1, x1, x6, x190000, x190001, x195000, x195001 => if x6 < (x190001.length : Int) then (if 0 ≤ x6 then (if x1 = 0 then (none) else (if x195001.length < 17592186044416 then (spec_l02Reduced.l0 k x1 (wrap64 (x6 + 1)) x190000 x190001 x195000 (x195001 ++ [Int.tmod (rd x190001 x6) x1])) else (none))) else (none)) else (some (x195000, x195001))
def spec_l02Reduced.f (k : Nat) (a0_0 : Int) (l0_1 : List Int) (a1 : Int) : Option (Int × List Int) := spec_l02Reduced.l0 k a1 0 a0_0 l0_1 a1 (([] : List Int))
theorem spec_l02Reduced.mono_l : ∀ k, (∀ y0 y1 y2 y3 y4 y5, LeO (spec_l02Reduced.l0 k y0 y1 y2 y3 y4 y5) (spec_l02Reduced.l0 (k + 1) y0 y1 y2 y3 y4 y5))
 | 0 => fun _ _ _ _ _ _ r h => by simp [spec_l02Reduced.l0] at h
 | k + 1 => by
  have ih0 := spec_l02Reduced.mono_l k
  ·intro y0 y1 y2 y3 y4 y5
   unfold spec_l02Reduced.l0
   repeat' first
   | (with_reducible exact ih0 _ _ _ _ _ _)
   | (with_reducible exact LeO.refl _)
   | (with_reducible exact LeO.none _)
   | (with_reducible refine LeO.ite ?_ ?_)
   | (with_reducible refine LeO.bind ?_ (fun _ => ?_))
   | exact ih0 _ _ _ _ _ _
   | exact LeO.none _
   | refine LeO.ite ?_ ?_
   | refine LeO.bind ?_ (fun _ => ?_)
theorem spec_l02Reduced.mono : ∀ a0 a1 a2 k, LeO (spec_l02Reduced.f k a0 a1 a2) (spec_l02Reduced.f (k + 1) a0 a1 a2) := by
 intro a0 a1 a2 k
 have ih0 := spec_l02Reduced.mono_l k
 unfold spec_l02Reduced.f
 repeat' first
   | (with_reducible exact ih0 _ _ _ _ _ _)
def spec_l02Reduced.T5 : Bool × List (List Nat × List Nat) := (true, [([], []), ([0], [0]), ([], []), ([2], [2]), ([], []), ([3, 4], [3, 4]), ([5], [5]), ([], []), ([6, 7], [6, 7]), ([8], [8]), ([1, 9], [1, 9]), ([0, 1, 2, 3, 4, 5, 6, 7, 8, 9, 10], []), ([11, 10, 10, 0, 1, 2, 3, 4, 5, 6, 7, 8, 9, 10], [10, 11])])
def spec_l02Reduced.B5 : List Nat := [0, 1, 0, 4, 0, 28, 60, 0, 252, 508, 1023, 2047, 4095]
theorem spec_l02Reduced.tab5 : rtab .any (opsOf Try.f74 5) = spec_l02Reduced.T5 := by kernel_rfl
theorem spec_l02Reduced.bits5 : waitsOk spec_l02Reduced.T5.2 spec_l02Reduced.B5 = true := by kernel_rfl
set_option maxHeartbeats 8000000 in
set_option maxRecDepth 100000 in
theorem spec_l02Reduced.calls (k : Nat) (a0_0 : Int) (A0_1 : Option Addr) (c0_1 : Nat) (l0_1 : List Int) (a1 : Int) (r1 : Int) (r2 : List Int) (w : World) (hr0_1 : Kd.C (Kd.int .i64) w A0_1 l0_1.length l0_1) (hc0_1 : l0_1.length ≤ c0_1) (h : spec_l02Reduced.f k a0_0 l0_1 a1 = some (r1, r2)) :
  Calls Try.prog 74 #[.agg #[.int .i64 a0_0, .slice A0_1 l0_1.length c0_1], .int .i64 a1] w fun e w' => ∃ v1_ : Value, e = .returned (.agg #[.int .i64 r1, v1_]) ∧ Kd.R (Kd.int .i64) 2 w' w.heap.size (fun _ => True) v1_ r2 ∧ Below w.heap.size w w' := by
 have hu30 := Try.underlying30
 have hu25 := Try.underlying25
 have hu2 := Try.underlying2
 have HR0_1 := Aside0.mk hr0_1
 have HC0_1 := Aside0.mk hc0_1
 clear hr0_1 hc0_1
 have HB := Aside0.mk (Below.refl w.heap.size w)
 have H : (spec_l02Reduced.l0 k a1 0 a0_0 l0_1 a1 (([] : List Int))) = some (r1, r2) := h
 clear h
 obtain ⟨y191, hy191⟩ : ∃ y_ : List Int, y_ = (([] : List Int)) := ⟨_, rfl⟩
 replace H : (spec_l02Reduced.l0 k a1 0 a0_0 l0_1 a1 y191) = some (r1, r2) := by (rw [hy191]; with_reducible exact H)
 have Ny191 := Aside0.mk hy191
 clear hy191
 have H' := Aside0.mk H
 clear H
 go_enter Try.func74, Try.ntmps74
 go_wp2_with (first | ((with_reducible refine gate_dst (N := 2) rfl ?_); refine box_event ?hg (N := 2) ?hd (cs := #[.int .i64 a0_0, .slice A0_1 l0_1.length c0_1]) (t := 30) ?hr ?_; (case hd => rfl); (case hg => rfl); (case hr => (go_simp; done)); intro gb189 hg w3 hbox hb; have BK189 := Aside0.mk (hbox); have GW189 := Aside0.mk (geg hg (below_size HB.out)); have GE189 := Aside0.mk (geg hg (below_size HB.out)); replace HB := Aside0.mk (below_step HB.out hb); clear hb hbox hg) | ((with_reducible refine gate_dst (N := 4) rfl ?_); refine box_event ?hg (N := 4) ?hd (cs := #[.int .i64 0, .slice none 0 0]) (t := 30) ?hr ?_; (case hd => rfl); (case hg => rfl); (case hr => (go_simp; done)); intro gb190 hg w4 hbox hb; have BK190 := Aside0.mk (hbox); have GW190 := Aside0.mk (geg hg (below_size HB.out)); have GE190 := Aside0.mk (geg hg (below_size HB.out)); replace HB := Aside0.mk (below_step HB.out hb); have NB189_190 := Aside0.mk (neg1 hg (Nat.ne_of_lt (blk_lt BK189.out))); have NB190_189 := Aside0.mk (neg2 hg (Nat.ne_of_gt (blk_lt BK189.out))); replace BK189 := Aside0.mk (blk_below BK189.out hb); clear hb hbox hg) | ((with_reducible refine gate_dst (N := 8) rfl ?_); refine Kd.R_lit (Kd.int .i64) _ 2 ?hg (N := 8) ?hd (xs := ([] : List Int)) (inner := []) (ok := fun _ => True) (okp := fun _ => True) ?hr ?hp (fun _ hk => hk) trivial (Below.refl _ _) (Nat.le_refl _) (by simp) ?_; (case hd => rfl); (case hg => rfl); (case hr => (go_simp; done)); (case hp => exact (Reps.none _ _)); intro v192 w5 ho6 hb hg_ hnew_; clear hg_ hnew_; (rw [← Ny191.out] at ho6); have HO193 := Aside0.mk (Kd.R_lower ho6 (below_size HB.out)); replace BK189 := Aside0.mk (blk_below BK189.out hb); replace BK190 := Aside0.mk (blk_below BK190.out hb); replace HB := Aside0.mk (below_step HB.out hb); clear hb ho6; obtain ⟨Ao7, co7, eo7⟩ := Kd.R_slice HO193.out; subst eo7) | ((with_reducible refine gate_dst (N := 5) rfl ?_); refine box_event ?hg (N := 5) ?hd (cs := #[.int .i64 0, .slice none 0 0]) (t := 30) ?hr ?_; (case hd => rfl); (case hg => rfl); (case hr => (go_simp; done)); intro gb194 hg w8 hbox hb; replace HO193 := Aside0.mk (Kd.R_below HO193.out hb); have BK194 := Aside0.mk (hbox); have GW194 := Aside0.mk (geg hg (below_size HB.out)); have GE194 := Aside0.mk (geg hg (below_size HB.out)); replace HB := Aside0.mk (below_step HB.out hb); have NB189_194 := Aside0.mk (neg1 hg (Nat.ne_of_lt (blk_lt BK189.out))); have NB194_189 := Aside0.mk (neg2 hg (Nat.ne_of_gt (blk_lt BK189.out))); replace BK189 := Aside0.mk (blk_below BK189.out hb); have NB190_194 := Aside0.mk (neg1 hg (Nat.ne_of_lt (blk_lt BK190.out))); have NB194_190 := Aside0.mk (neg2 hg (Nat.ne_of_gt (blk_lt BK190.out))); replace BK190 := Aside0.mk (blk_below BK190.out hb); clear hb hbox hg; have hnb9 := NB194_189.out; have hnc9 := NB189_194.out; have hnb10 := NB194_190.out; have hnc10 := NB190_194.out; have hcz11_0 := bc0 BK194.out; have hcz11_1 := bc1 BK194.out; have hfz11_0 := blk_frozen BK194.out 0; have hfz11_1 := blk_frozen BK194.out 1))
 go_loopg [6] k (fun kq v6 w' => ∃ (x6_1 : Int) (x195001_1 : List Int) (u195001 : Value), v6 = .int .i64 x6_1 ∧ Aside0 (spec_l02Reduced.l0 kq a1 x6_1 a0_0 l0_1 a1 x195001_1 = some (r1, r2)) ∧ Aside0 (kq ≤ k) ∧ Aside0 (Kd.R (Kd.int .i64) 2 w' w.heap.size (fun _ => True) u195001 x195001_1) ∧ Aside0 (w'.heap[gb189]? = some (.cells #[.int .i64 a0_0, (.slice A0_1 l0_1.length c0_1)] 30 (0, 0))) ∧ Aside0 (w'.heap[gb190]? = some (.cells #[.int .i64 0, (.slice none 0 0)] 30 (0, 0))) ∧ Aside0 (w'.heap[gb194]? = some (.cells #[.int .i64 a1, u195001] 30 (0, 0))) ∧ Aside0 (Below w.heap.size w w'))
 case atStart => exact ⟨(0), (y191), (.slice Ao7 y191.length co7), (by rfl), H', ⟨Nat.le_refl _⟩, ⟨by exact Kd.R_mono (Kd.R_far (p := ⟨gb194, 1, none⟩) (Kd.R_far (p := ⟨gb194, 0, none⟩) (Kd.R_types HO193.out BK194.out (by decide)) (fun _ hk => hk.2) (.int .i64 a1)) (fun _ hk => hk.2) (.slice Ao7 y191.length co7)) (fun _ hk => trivial)⟩, ⟨by refine blk_far ?_ NB189_194.out _; refine blk_far ?_ NB189_194.out _; exact BK189.out⟩, ⟨by refine blk_far ?_ NB190_194.out _; refine blk_far ?_ NB190_194.out _; exact BK190.out⟩, ⟨by refine blk_put (cs := #[.int .i64 a1, .slice none 0 0]) ?_ 1 _ rfl; refine blk_put (cs := #[.int .i64 0, .slice none 0 0]) ?_ 0 _ rfl; exact BK194.out⟩, ⟨by repeat ((with_reducible first | exact HB.out | refine below_set ?_ GE194.out))⟩⟩
 case round =>
  clear H' hcz11_0 hcz11_1 hfz11_0 hfz11_1
  obtain ⟨x6_1, x195001_1, u195001, rfl, HA, HK1, HO_195001, BK189, BK190, BK194, HB⟩ := hrel
  cases gk with
  | zero => exact absurd HA.out (by simp [spec_l02Reduced.l0])
  | succ k1 =>
   have H := HA.out
   clear HA
   simp only [spec_l02Reduced.l0] at H
   by_cases c12 : x6_1 < (l0_1.length : Int)
   ·rw [if_pos c12] at H
    have c12b0 : decide (x6_1 < (l0_1.length : Int)) = true := decide_eq_true c12
    clear c12
    by_cases c13 : 0 ≤ x6_1
    ·rw [if_pos c13] at H
     have c13b0 : decide (0 ≤ x6_1) = true := decide_eq_true c13
     clear c13
     by_cases c14 : a1 = 0
     ·rw [if_pos c14] at H
      exact absurd H (by simp)
     rw [if_neg c14] at H
     have c14b0 : (a1 == 0) = false := beq_eq_false_iff_ne.mpr c14
     have c14b1 : (a1 != 0) = true := bne_iff_ne.mpr c14
     by_cases c15 : x195001_1.length < 17592186044416
     ·rw [if_pos c15] at H
      have LMc15 := Aside0.mk c15
      clear c15
      obtain ⟨y196, hy196⟩ : ∃ y_ : List Int, y_ = (x195001_1 ++ [Int.tmod (rd l0_1 x6_1) a1]) := ⟨_, rfl⟩
      replace H : (spec_l02Reduced.l0 k1 a1 (wrap64 (x6_1 + 1)) a0_0 l0_1 a1 y196) = some (r1, r2) := by (rw [hy196]; with_reducible exact H)
      have Ny196 := Aside0.mk hy196
      clear hy196
      have H' := Aside0.mk H
      clear H
      have hnb16 := NB189_190.out
      have hnc16 := NB190_189.out
      have hnb17 := NB189_194.out
      have hnc17 := NB194_189.out
      have hcz18_0 := bc0 BK189.out
      have hcz18_1 := bc1 BK189.out
      have hfz18_0 := blk_frozen BK189.out 0
      have hfz18_1 := blk_frozen BK189.out 1
      go_wp2
      replace HO_195001 := Aside0.mk (Kd.R_drew HO_195001.out); replace BK189 := Aside0.mk (blk_drew BK189.out); replace BK190 := Aside0.mk (blk_drew BK190.out); replace BK194 := Aside0.mk (blk_drew BK194.out); replace HB := Aside0.mk (below_drew1 HB.out)
      have p195 : 0 ≤ (x6_1 : Int) := of_decide_eq_true ‹_›
      have q195 : x6_1 < (l0_1.length : Int) := of_decide_eq_true ‹_›
      obtain ⟨ad195, e195, hx195_0⟩ := Kd.at_int HR0_1.out x6_1 p195 q195
      have hw195_0 := hx195_0
      cases e195
      replace hx195_0 := (HB.out.cell (World.block_lt_of_cell? w _ hx195_0)).trans hx195_0
      replace p195 := eq_true p195
      replace q195 := eq_true q195
      refine start_ (n := 13) (S := fun w' => w'.cell? ⟨gb194, 0, none⟩ = some (.int .i64 a1) ∧ w'.cell? ⟨gb194, 1, none⟩ = some (u195001) ∧ w'.cell? ⟨gb189, 0, none⟩ = some (.int .i64 a0_0) ∧ w'.cell? ⟨gb189, 1, none⟩ = some (.slice (some ad195) l0_1.length c0_1) ∧ w'.cell? (ad195.add (x6_1).toNat) = some (.int .i64 (rd l0_1 x6_1))) (ds := [12]) #[false,false,false,false,false,false,false,false,false,false,false,false,false] (by kernel_rfl) rfl rfl ⟨(blk_cell BK194.out 0).trans rfl, (blk_cell BK194.out 1).trans rfl, (blk_cell BK189.out 0).trans rfl, (blk_cell BK189.out 1).trans rfl, ((HB.out.cell (World.block_lt_of_cell? w _ hw195_0)).trans hw195_0)⟩ (fun hHeld => ?_); refine with_tabW spec_l02Reduced.tab5 spec_l02Reduced.bits5 (fun HT_ HW_ => ?_)
      generalize wr.drew = w19 at HO_195001 BK189 BK190 BK194 HB hx195_0 hHeld ⊢
      refine pure_ (i := 0) (N := some 17) (v := ?_) (a' := ?_) #[true,false,false,false,false,false,false,false,false,false,false,false,false] rfl rfl (any_of HT_.out (by kernel_rfl)) (fun _ _ _ h => h) (Or.inl ⟨by rfl, ?_⟩) ?_ ?_
      rotate_left
      ·intro w'
       go_simp
       with_reducible rfl
      rotate_left
      ·simp only [Act.put, List.setIfInBounds_toArray, List.set_cons_zero, List.set_cons_succ, i64_w, i32_w]
       rfl
      refine pure_ (i := 2) (N := some 19) (v := ?_) (a' := ?_) #[true,false,true,false,false,false,false,false,false,false,false,false,false] rfl rfl (any_of HT_.out (by kernel_rfl)) (fun _ _ _ h => h) (Or.inl ⟨by rfl, ?_⟩) ?_ ?_
      rotate_left
      ·intro w'
       go_simp
       with_reducible rfl
      rotate_left
      ·simp only [Act.put, List.setIfInBounds_toArray, List.set_cons_zero, List.set_cons_succ, i64_w, i32_w]
       rfl
      refine pure_ (i := 4) (N := some 21) (v := ?_) (a' := ?_) #[true,false,true,false,true,false,false,false,false,false,false,false,false] rfl rfl (any_of HT_.out (by kernel_rfl)) (fun _ _ _ h => h) (Or.inl ⟨by rfl, ?_⟩) ?_ ?_
      rotate_left
      ·intro w'
       go_simp
       with_reducible rfl
      rotate_left
      ·simp only [Act.put, List.setIfInBounds_toArray, List.set_cons_zero, List.set_cons_succ, i64_w, i32_w]
       rfl
      refine pure_ (i := 7) (N := some 24) (v := ?_) (a' := ?_) #[true,false,true,false,true,false,false,true,false,false,false,false,false] rfl rfl (any_of HT_.out (by kernel_rfl)) (fun _ _ _ h => h) (Or.inl ⟨by rfl, ?_⟩) ?_ ?_
      rotate_left
      ·intro w'
       go_simp
       with_reducible rfl
      rotate_left
      ·simp only [Act.put, List.setIfInBounds_toArray, List.set_cons_zero, List.set_cons_succ, i64_w, i32_w]
       rfl
      refine take_ (i := 1) (N := some 18) (v := ?_) (a' := ?_) #[true,true,true,false,true,false,false,true,false,false,false,false,false] rfl rfl (take_ofW HT_.out HW_.out (by kernel_rfl)) (fun _ _ _ h => h) (Or.inl ⟨by rfl, ?_⟩) hHeld ?_ ?_
      rotate_left
      ·rintro w' ⟨s0, s1, s2, s3, s4⟩
       go_simp
       with_reducible rfl
      rotate_left
      ·simp only [Act.put, List.setIfInBounds_toArray, List.set_cons_zero, List.set_cons_succ, i64_w, i32_w]
       rfl
      refine take_ (i := 3) (N := some 20) (v := ?_) (a' := ?_) #[true,true,true,true,true,false,false,true,false,false,false,false,false] rfl rfl (take_ofW HT_.out HW_.out (by kernel_rfl)) (fun _ _ _ h => h) (Or.inl ⟨by rfl, ?_⟩) hHeld ?_ ?_
      rotate_left
      ·rintro w' ⟨s0, s1, s2, s3, s4⟩
       go_simp
       with_reducible rfl
      rotate_left
      ·simp only [Act.put, List.setIfInBounds_toArray, List.set_cons_zero, List.set_cons_succ, i64_w, i32_w]
       rfl
      refine pure_ (i := 5) (N := some 22) (v := ?_) (a' := ?_) #[true,true,true,true,true,true,false,true,false,false,false,false,false] rfl rfl (any_of HT_.out (by kernel_rfl)) (fun _ _ _ h => h) (Or.inl ⟨by rfl, ?_⟩) ?_ ?_
      rotate_left
      ·intro w'
       go_simp
       with_reducible rfl
      rotate_left
      ·simp only [Act.put, List.setIfInBounds_toArray, List.set_cons_zero, List.set_cons_succ, i64_w, i32_w]
       rfl
      refine take_ (i := 6) (N := some 23) (v := ?_) (a' := ?_) #[true,true,true,true,true,true,true,true,false,false,false,false,false] rfl rfl (take_ofW HT_.out HW_.out (by kernel_rfl)) (fun _ _ _ h => h) (Or.inl ⟨by rfl, ?_⟩) hHeld ?_ ?_
      rotate_left
      ·rintro w' ⟨s0, s1, s2, s3, s4⟩
       go_simp
       with_reducible rfl
      rotate_left
      ·simp only [Act.put, List.setIfInBounds_toArray, List.set_cons_zero, List.set_cons_succ, i64_w, i32_w]
       rfl
      refine pure_ (i := 8) (N := some 25) (v := ?_) (a' := ?_) #[true,true,true,true,true,true,true,true,true,false,false,false,false] rfl rfl (any_of HT_.out (by kernel_rfl)) (fun _ _ _ h => h) (Or.inl ⟨by rfl, ?_⟩) ?_ ?_
      rotate_left
      ·intro w'
       go_simp
       with_reducible rfl
      rotate_left
      ·simp only [Act.put, List.setIfInBounds_toArray, List.set_cons_zero, List.set_cons_succ, i64_w, i32_w]
       rfl
      refine one_ (i := 9) (N := some 26) #[true,true,true,true,true,true,true,true,true,true,false,false,false] rfl rfl (one_of HT_.out (by kernel_rfl)) (by decide) (fun K hK => ?_)
      refine value_ (w1 := ?_) (v := ?_) (by rfl) rfl ?_ ?_
      rotate_left 2
      ·go_simp
       constructor
       ·rfl
       ·rfl
      refine hK.out _ _ ⟨(blk_cell (blk_alloc BK194.out _) 0).trans rfl, (blk_cell (blk_alloc BK194.out _) 1).trans rfl, (blk_cell (blk_alloc BK189.out _) 0).trans rfl, (blk_cell (blk_alloc BK189.out _) 1).trans rfl, (World.cell?_alloc_lt _ _ _ (World.block_lt_of_cell? _ _ (((HB.out.cell (World.block_lt_of_cell? w _ hw195_0)).trans hw195_0)))).trans (((HB.out.cell (World.block_lt_of_cell? w _ hw195_0)).trans hw195_0))⟩ (fun hHeld => ?_)
      clear hK K
      refine norm_ (a' := ?_) ?_ ?_
      rotate_left
      ·show Act.put _ (some 26) _ = _
       simp only [Act.put, List.setIfInBounds_toArray, List.set_cons_zero, List.set_cons_succ, i64_w, i32_w]
       rfl
      refine one_ (i := 10) (N := some 27) #[true,true,true,true,true,true,true,true,true,true,true,false,false] rfl rfl (one_of HT_.out (by kernel_rfl)) (by decide) (fun K hK => ?_)
      refine Kd.R_append_step (Kd.int .i64) (w0 := w) w.heap.size (by rfl) (.tmp 18) (.tmp 26) 25 2 (.int .i64 0) 8 rfl Try.underlying25 info2 rfl (by decide) (by omega) u195001 x195001_1 (Int.tmod (rd l0_1 x6_1) a1) [.int .i64 (Int.tmod (rd l0_1 x6_1) a1)] (fun _ => True) (fun _ => False) rfl rfl ?aP (fun _ hk => hk.elim) ?aF ?aO ?aB ?aS ?aL ?_
      (case aP => exact rfl)
      (case aB => exact HB.out)
      (case aF => exact (fun _ _ => trivial))
      (case aO => exact HO_195001.out)
      (case aS => exact (below_size HB.out))
      (case aL => have := LMc15.out; omega)
      intro v197 w20 ho hb hg hat
      rw [← Ny196.out] at ho
      replace BK189 := Aside0.mk (blk_grown (g := gb189) (o := .cells #[.int .i64 a0_0, .slice (some ad195) l0_1.length c0_1] 30 (0, 0)) BK189.out hg (Kd.R_ne HO_195001.out BK189.out (by decide))); replace BK190 := Aside0.mk (blk_grown (g := gb190) (o := .cells #[.int .i64 0, .slice none 0 0] 30 (0, 0)) BK190.out hg (Kd.R_ne HO_195001.out BK190.out (by decide))); replace BK194 := Aside0.mk (blk_grown (g := gb194) (o := .cells #[.int .i64 a1, u195001] 30 (0, 0)) BK194.out hg (Kd.R_ne HO_195001.out BK194.out (by decide))); replace HB := Aside0.mk (hb); have HO198 := Aside0.mk (ho); clear HO_195001
      clear ho hb hg hat
      obtain ⟨Ao21, co21, eo21⟩ := Kd.R_slice HO198.out
      (subst eo21)
      refine hK.out _ _ ⟨(blk_cell BK194.out 0).trans rfl, (blk_cell BK194.out 1).trans rfl, (blk_cell BK189.out 0).trans rfl, (blk_cell BK189.out 1).trans rfl, ((HB.out.cell (World.block_lt_of_cell? w _ hw195_0)).trans hw195_0)⟩ (fun hHeld => ?_)
      clear hK K
      refine norm_ (a' := ?_) ?_ ?_
      rotate_left
      ·show Act.put _ (some 27) _ = _
       simp only [Act.put, List.setIfInBounds_toArray, List.set_cons_zero, List.set_cons_succ, i64_w, i32_w]
       rfl
      refine pure_ (i := 11) (N := some 28) (v := ?_) (a' := ?_) #[true,true,true,true,true,true,true,true,true,true,true,true,false] rfl rfl (any_of HT_.out (by kernel_rfl)) (fun _ _ _ h => h) (Or.inl ⟨by rfl, ?_⟩) ?_ ?_
      rotate_left
      ·intro w'
       go_simp
       with_reducible rfl
      rotate_left
      ·simp only [Act.put, List.setIfInBounds_toArray, List.set_cons_zero, List.set_cons_succ, i64_w, i32_w]
       rfl
      refine last_ (i := 12) (N := none) #[true,true,true,true,true,true,true,true,true,true,true,true,true] rfl rfl (one_of HT_.out (by kernel_rfl)) (by decide) (fun K hK => ?_)
      have hs22 : w20.cell? ⟨gb194, 1, none⟩ = some (u195001) := (blk_cell BK194.out 1).trans rfl
      have hfs22 := blk_frozen BK194.out 1
      have hns22_0 := NB189_194.out
      have hns22_1 := NB190_194.out
      have hms22_0 := NB194_189.out
      have hms22_1 := NB194_190.out
      refine skip_ (w1 := ?_) (by rfl) rfl ?_ ?_
      rotate_left
      ·go_simp
       rfl
      refine hK.out _ _ ?_
      clear hK K
      refine done_ (done_of HT_.out (by kernel_rfl)) ?_
      go_wp2
      go_roundg k1
      case measure => have := HK1.out; omega
      case rel => exact ⟨(wrap64 (x6_1 + 1)), (y196), (.slice Ao21 y196.length co21), (by rfl), H', ⟨by have := HK1.out; omega⟩, ⟨by exact Kd.R_mono (Kd.R_far (p := ⟨gb194, 1, none⟩) (Kd.R_types HO198.out BK194.out (by decide)) (fun _ hk => hk.2) (.slice Ao21 y196.length co21)) (fun _ hk => trivial)⟩, ⟨by refine blk_far ?_ NB189_194.out _; exact BK189.out⟩, ⟨by refine blk_far ?_ NB190_194.out _; exact BK190.out⟩, ⟨by refine blk_put (cs := #[.int .i64 a1, u195001]) ?_ 1 _ rfl; exact BK194.out⟩, ⟨by repeat ((with_reducible first | exact HB.out | refine below_set ?_ GE194.out))⟩⟩
     rw [if_neg c15] at H
     exact absurd H (by simp)
    rw [if_neg c13] at H
    exact absurd H (by simp)
   rw [if_neg c12] at H
   have c12b0 : decide (x6_1 < (l0_1.length : Int)) = false := decide_eq_false c12
   clear c12
   simp only [Option.some.injEq, Prod.mk.injEq] at H
   obtain ⟨rfl, rfl⟩ := H
   have hnb23 := NB189_190.out
   have hnc23 := NB190_189.out
   have hnb24 := NB189_194.out
   have hnc24 := NB194_189.out
   have hcz25_0 := bc0 BK189.out
   have hcz25_1 := bc1 BK189.out
   have hfz25_0 := blk_frozen BK189.out 0
   have hfz25_1 := blk_frozen BK189.out 1
   have hnb26 := NB194_190.out
   have hnc26 := NB190_194.out
   have hcz27_0 := bc0 BK194.out
   have hcz27_1 := bc1 BK194.out
   have hfz27_0 := blk_frozen BK194.out 0
   have hfz27_1 := blk_frozen BK194.out 1
   have hcz28_0 := bc0 BK190.out
   have hcz28_1 := bc1 BK190.out
   have hfz28_0 := blk_frozen BK190.out 0
   have hfz28_1 := blk_frozen BK190.out 1
   obtain ⟨Ao29, co29, eo29⟩ := Kd.R_slice HO_195001.out
   subst eo29
   go_wp2
   refine bodyPost_ret (results_cell_row rfl _ _ gb190 30 #[.int .i64 a1, .slice Ao29 x195001_1.length co29] (0, 0) _ rfl (by refine blk_put (cs := #[.int .i64 a1, .slice none 0 0]) ?_ 1 _ rfl; refine blk_put (cs := #[.int .i64 0, .slice none 0 0]) ?_ 0 _ rfl; exact BK190.out) Try.underlying30 rfl (by kernel_rfl)) rfl ?_
   exact ⟨_, by rfl, by exact Kd.R_mono (Kd.R_far (p := ⟨gb190, 1, none⟩) (Kd.R_far (p := ⟨gb190, 0, none⟩) (Kd.R_types HO_195001.out BK190.out (by decide)) (fun _ hk => hk.2) (.int .i64 a1)) (fun _ hk => hk.2) (.slice Ao29 x195001_1.length co29)) (fun _ hk => trivial), by repeat ((with_reducible first | exact HB.out | refine below_set ?_ GE190.out))⟩

/-! ### spec_OuterModule: function 26 -/
def spec_OuterModule.f (k : Nat) (l0_0 : List (List Int)) (a1_0 : Int) (l1_1 : List Int) (a2 : Int) : Option (Int × List Int × Int) := (spec_l08Code.f k l0_0 a1_0 l1_1 a2).bind fun t202 => (if t202 = 0 then (if a2 = 0 then (none) else ((spec_l02Reduced.f k a1_0 l1_1 (wrap64 (Int.tdiv a1_0 a2))).bind fun bt203 => (some (bt203.1, bt203.2, 0)))) else (some (0, ([] : List Int), t202)))
theorem spec_OuterModule.mono : ∀ a0 a1 a2 a3 k, LeO (spec_OuterModule.f k a0 a1 a2 a3) (spec_OuterModule.f (k + 1) a0 a1 a2 a3) := by
 intro a0 a1 a2 a3 k
 unfold spec_OuterModule.f
 repeat' first
   | (with_reducible exact spec_l02Reduced.mono _ _ _ _)
   | (with_reducible exact spec_l08Code.mono _ _ _ _ _)
   | (with_reducible exact LeO.refl _)
   | (with_reducible refine LeO.ite ?_ ?_)
   | (with_reducible refine LeO.bind ?_ (fun _ => ?_))
def spec_OuterModule.T4 : Bool × List (List Nat × List Nat) := (true, [([], []), ([], []), ([1], [1]), ([], []), ([2, 3], [2, 3]), ([0, 4], [0, 4]), ([5, 5, 0, 1, 2, 3, 4, 5], [5]), ([6, 0, 1, 2, 3, 4, 5, 6], [])])
def spec_OuterModule.B4 : List Nat := [0, 0, 2, 0, 14, 31, 63, 127]
theorem spec_OuterModule.tab4 : rtab .any (opsOf Try.f26 4) = spec_OuterModule.T4 := by kernel_rfl
theorem spec_OuterModule.bits4 : waitsOk spec_OuterModule.T4.2 spec_OuterModule.B4 = true := by kernel_rfl
set_option maxHeartbeats 8000000 in
set_option maxRecDepth 100000 in
theorem spec_OuterModule.calls (k : Nat) (A0_0 : Option Addr) (c0_0 : Nat) (l0_0 : List (List Int)) (a1_0 : Int) (A1_1 : Option Addr) (c1_1 : Nat) (l1_1 : List Int) (a2 : Int) (r1 : Int) (r2 : List Int) (r3 : Int) (w : World) (hr0_0 : Kd.C (Kd.slice 2 (Kd.int .i64)) w A0_0 l0_0.length l0_0) (hc0_0 : l0_0.length ≤ c0_0) (hr1_1 : Kd.C (Kd.int .i64) w A1_1 l1_1.length l1_1) (hc1_1 : l1_1.length ≤ c1_1) (h : spec_OuterModule.f k l0_0 a1_0 l1_1 a2 = some (r1, r2, r3)) :
  Calls Try.prog 26 #[.agg #[.slice A0_0 l0_0.length c0_0], .agg #[.int .i64 a1_0, .slice A1_1 l1_1.length c1_1], .int .i64 a2] w fun e w' => ∃ v1_ : Value, e = .returned (.tuple #[.agg #[.int .i64 r1, v1_], .int .i64 r3]) ∧ Kd.R (Kd.int .i64) 2 w' w.heap.size (fun _ => True) v1_ r2 ∧ Below w.heap.size w w' := by
 have hu33 := Try.underlying33
 have hu30 := Try.underlying30
 have hu2 := Try.underlying2
 have HR0_0 := Aside0.mk hr0_0
 have HC0_0 := Aside0.mk hc0_0
 clear hr0_0 hc0_0
 have HR1_1 := Aside0.mk hr1_1
 have HC1_1 := Aside0.mk hc1_1
 clear hr1_1 hc1_1
 have HB := Aside0.mk (Below.refl w.heap.size w)
 have H : ((spec_l08Code.f k l0_0 a1_0 l1_1 a2).bind fun t202 => (if t202 = 0 then (if a2 = 0 then (none) else ((spec_l02Reduced.f k a1_0 l1_1 (wrap64 (Int.tdiv a1_0 a2))).bind fun bt203 => (some (bt203.1, bt203.2, 0)))) else (some (0, ([] : List Int), t202)))) = some (r1, r2, r3) := h
 clear h
 obtain ⟨t202, A4, H⟩ := bnd H
 try dsimp only at H
 by_cases c5 : t202 = 0
 ·rw [if_pos c5] at H
  have c5b0 : (t202 == 0) = true := beq_iff_eq.mpr c5
  have c5b1 : (t202 != 0) = false := bne_eq_false_iff_eq.mpr c5
  clear c5
  by_cases c6 : a2 = 0
  ·rw [if_pos c6] at H
   exact absurd H (by simp)
  rw [if_neg c6] at H
  have c6b0 : (a2 == 0) = false := beq_eq_false_iff_ne.mpr c6
  have c6b1 : (a2 != 0) = true := bne_iff_ne.mpr c6
  obtain ⟨⟨t203, t204⟩, A7, H⟩ := bnd H
  try dsimp only at H
  simp only [Option.some.injEq, Prod.mk.injEq] at H
  obtain ⟨rfl, rfl, rfl⟩ := H
  go_enter Try.func26, Try.ntmps26
  go_wp2_with (first | ((with_reducible refine gate_dst (N := 3) rfl ?_); refine box_event ?hg (N := 3) ?hd (cs := #[.slice A0_0 l0_0.length c0_0]) (t := 33) ?hr ?_; (case hd => rfl); (case hg => rfl); (case hr => (go_simp; done)); intro gb199 hg w8 hbox hb; have BK199 := Aside0.mk (hbox); have GW199 := Aside0.mk (geg hg (below_size HB.out)); have GE199 := Aside0.mk (geg hg (below_size HB.out)); replace HB := Aside0.mk (below_step HB.out hb); clear hb hbox hg) | ((with_reducible refine gate_dst (N := 4) rfl ?_); refine box_event ?hg (N := 4) ?hd (cs := #[.int .i64 a1_0, .slice A1_1 l1_1.length c1_1]) (t := 30) ?hr ?_; (case hd => rfl); (case hg => rfl); (case hr => (go_simp; done)); intro gb200 hg w9 hbox hb; have BK200 := Aside0.mk (hbox); have GW200 := Aside0.mk (geg hg (below_size HB.out)); have GE200 := Aside0.mk (geg hg (below_size HB.out)); replace HB := Aside0.mk (below_step HB.out hb); have NB199_200 := Aside0.mk (neg1 hg (Nat.ne_of_lt (blk_lt BK199.out))); have NB200_199 := Aside0.mk (neg2 hg (Nat.ne_of_gt (blk_lt BK199.out))); replace BK199 := Aside0.mk (blk_below BK199.out hb); clear hb hbox hg) | ((with_reducible refine gate_dst (N := 6) rfl ?_); refine box_event ?hg (N := 6) ?hd (cs := #[.int .i64 0, .slice none 0 0]) (t := 30) ?hr ?_; (case hd => rfl); (case hg => rfl); (case hr => (go_simp; done)); intro gb201 hg w10 hbox hb; have BK201 := Aside0.mk (hbox); have GW201 := Aside0.mk (geg hg (below_size HB.out)); have GE201 := Aside0.mk (geg hg (below_size HB.out)); replace HB := Aside0.mk (below_step HB.out hb); have NB199_201 := Aside0.mk (neg1 hg (Nat.ne_of_lt (blk_lt BK199.out))); have NB201_199 := Aside0.mk (neg2 hg (Nat.ne_of_gt (blk_lt BK199.out))); replace BK199 := Aside0.mk (blk_below BK199.out hb); have NB200_201 := Aside0.mk (neg1 hg (Nat.ne_of_lt (blk_lt BK200.out))); have NB201_200 := Aside0.mk (neg2 hg (Nat.ne_of_gt (blk_lt BK200.out))); replace BK200 := Aside0.mk (blk_below BK200.out hb); clear hb hbox hg; have hnb11 := NB199_200.out; have hnc11 := NB200_199.out; have hnb12 := NB199_201.out; have hnc12 := NB201_199.out; have hcz13_0 := bc0 BK199.out; have hfz13_0 := blk_frozen BK199.out 0; have hnb14 := NB200_201.out; have hnc14 := NB201_200.out; have hcz15_0 := bc0 BK200.out; have hcz15_1 := bc1 BK200.out; have hfz15_0 := blk_frozen BK200.out 0; have hfz15_1 := blk_frozen BK200.out 1) | ((with_reducible refine gate_callee (f := 73) rfl ?_); refine goesL_ (some 12) rfl rfl Try.func73 (by kernel_rfl) rfl #[.agg #[.slice A0_0 l0_0.length c0_0], .agg #[.int .i64 a1_0, .slice A1_1 l1_1.length c1_1], .int .i64 a2] rfl (by (simp only [List.map_toArray, List.map_cons, List.map_nil]); rfl) ?_; (with_reducible refine (spec_l08Code.calls k _ _ l0_0 a1_0 _ _ l1_1 a2 t202 _ ?side1 ?side2 ?side3 ?side4 A4.out).mono ?_); (case side1 => exact (Kd.C_below HR0_0.out HB.out)); (case side2 => exact HC0_0.out); (case side3 => exact (Kd.C_below HR1_1.out HB.out)); (case side4 => exact HC1_1.out); rintro e w16 ⟨rfl, hb⟩; refine ⟨_, rfl, ?_⟩; replace BK199 := Aside0.mk (blk_below BK199.out hb); replace BK200 := Aside0.mk (blk_below BK200.out hb); replace BK201 := Aside0.mk (blk_below BK201.out hb); replace HB := Aside0.mk (below_step HB.out hb); clear hb))
  replace BK199 := Aside0.mk (blk_drew BK199.out); replace BK200 := Aside0.mk (blk_drew BK200.out); replace BK201 := Aside0.mk (blk_drew BK201.out); replace HB := Aside0.mk (below_drew1 HB.out)
  refine start_ (n := 8) (S := fun w' => w'.cell? ⟨gb200, 0, none⟩ = some (.int .i64 a1_0) ∧ w'.cell? ⟨gb200, 1, none⟩ = some (.slice A1_1 l1_1.length c1_1)) (ds := []) #[false,false,false,false,false,false,false,false] (by kernel_rfl) rfl rfl ⟨(blk_cell BK200.out 0).trans rfl, (blk_cell BK200.out 1).trans rfl⟩ (fun hHeld => ?_); refine with_tabW spec_OuterModule.tab4 spec_OuterModule.bits4 (fun HT_ HW_ => ?_)
  generalize w16.drew = w17 at BK199 BK200 BK201 HB hHeld ⊢
  refine pure_ (i := 1) (N := some 18) (v := ?_) (a' := ?_) #[false,true,false,false,false,false,false,false] rfl rfl (any_of HT_.out (by kernel_rfl)) (fun _ _ _ h => h) (Or.inl ⟨by rfl, ?_⟩) ?_ ?_
  rotate_left
  ·intro w'
   go_simp
   with_reducible rfl
  rotate_left
  ·simp only [Act.put, List.setIfInBounds_toArray, List.set_cons_zero, List.set_cons_succ, i64_w, i32_w]
   rfl
  refine pure_ (i := 3) (N := some 20) (v := ?_) (a' := ?_) #[false,true,false,true,false,false,false,false] rfl rfl (any_of HT_.out (by kernel_rfl)) (fun _ _ _ h => h) (Or.inl ⟨by rfl, ?_⟩) ?_ ?_
  rotate_left
  ·intro w'
   go_simp
   with_reducible rfl
  rotate_left
  ·simp only [Act.put, List.setIfInBounds_toArray, List.set_cons_zero, List.set_cons_succ, i64_w, i32_w]
   rfl
  refine take_ (i := 0) (N := some 17) (v := ?_) (a' := ?_) #[true,true,false,true,false,false,false,false] rfl rfl (take_ofW HT_.out HW_.out (by kernel_rfl)) (fun _ _ _ h => h) (Or.inl ⟨by rfl, ?_⟩) hHeld ?_ ?_
  rotate_left
  ·rintro w' ⟨s0, s1⟩
   go_simp
   with_reducible rfl
  rotate_left
  ·simp only [Act.put, List.setIfInBounds_toArray, List.set_cons_zero, List.set_cons_succ, i64_w, i32_w]
   rfl
  refine take_ (i := 2) (N := some 19) (v := ?_) (a' := ?_) #[true,true,true,true,false,false,false,false] rfl rfl (take_ofW HT_.out HW_.out (by kernel_rfl)) (fun _ _ _ h => h) (Or.inl ⟨by rfl, ?_⟩) hHeld ?_ ?_
  rotate_left
  ·rintro w' ⟨s0, s1⟩
   go_simp
   with_reducible rfl
  rotate_left
  ·simp only [Act.put, List.setIfInBounds_toArray, List.set_cons_zero, List.set_cons_succ, i64_w, i32_w]
   rfl
  refine pure_ (i := 4) (N := some 21) (v := ?_) (a' := ?_) #[true,true,true,true,true,false,false,false] rfl rfl (any_of HT_.out (by kernel_rfl)) (fun _ _ _ h => h) (Or.inl ⟨by rfl, ?_⟩) ?_ ?_
  rotate_left
  ·intro w'
   go_simp
   with_reducible rfl
  rotate_left
  ·simp only [Act.put, List.setIfInBounds_toArray, List.set_cons_zero, List.set_cons_succ, i64_w, i32_w]
   rfl
  refine one_ (i := 5) (N := some 22) #[true,true,true,true,true,true,false,false] rfl rfl (one_of HT_.out (by kernel_rfl)) (by decide) (fun K hK => ?_)
  refine goes_ Try.func74 (by kernel_rfl) rfl #[.agg #[.int .i64 a1_0, .slice A1_1 l1_1.length c1_1], .int .i64 (wrap64 (Int.tdiv a1_0 a2))] (by rfl) rfl rfl (by (simp only [List.map_toArray, List.map_cons, List.map_nil]); rfl) ?_
  with_reducible refine (spec_l02Reduced.calls k a1_0 _ _ l1_1 (wrap64 (Int.tdiv a1_0 a2)) t203 t204 _ ?side1 ?side2 A7.out).mono ?_
  (case side1 => exact (Kd.C_below HR1_1.out HB.out))
  (case side2 => exact HC1_1.out)
  rintro e w18 ⟨v205, rfl, ho0, hb⟩
  refine ⟨_, rfl, ?_⟩
  have HO206 := Aside0.mk (Kd.R_lower ho0 (below_size HB.out)); replace BK199 := Aside0.mk (blk_below BK199.out hb); replace BK200 := Aside0.mk (blk_below BK200.out hb); replace BK201 := Aside0.mk (blk_below BK201.out hb); replace HB := Aside0.mk (below_step HB.out hb)
  clear hb
  clear ho0
  obtain ⟨Ao20, co20, eo20⟩ := Kd.R_slice HO206.out
  (subst eo20)
  refine hK.out _ _ ⟨(blk_cell BK200.out 0).trans rfl, (blk_cell BK200.out 1).trans rfl⟩ (fun hHeld => ?_)
  clear hK K
  refine norm_ (a' := ?_) ?_ ?_
  rotate_left
  ·show Act.put _ (some 22) _ = _
   simp only [Act.put, List.setIfInBounds_toArray, List.set_cons_zero, List.set_cons_succ, i64_w, i32_w]
   rfl
  refine one_ (i := 6) (N := none) #[true,true,true,true,true,true,true,false] rfl rfl (one_of HT_.out (by kernel_rfl)) (by decide) (fun K hK => ?_)
  have hs19 : w18.cell? ⟨gb201, 0, none⟩ = some (.int .i64 0) := (blk_cell BK201.out 0).trans rfl
  have hfs19 := blk_frozen BK201.out 0
  have hns19_0 := NB199_201.out
  have hns19_1 := NB200_201.out
  have hms19_0 := NB201_199.out
  have hms19_1 := NB201_200.out
  have hs21 : w18.cell? ⟨gb201, 1, none⟩ = some (.slice none 0 0) := (blk_cell BK201.out 1).trans rfl
  have hfs21 := blk_frozen BK201.out 1
  have hns21_0 := NB199_201.out
  have hns21_1 := NB200_201.out
  have hms21_0 := NB201_199.out
  have hms21_1 := NB201_200.out
  refine skip_ (w1 := ?_) (by rfl) rfl ?_ ?_
  rotate_left
  ·go_simp
   rfl
  refine hK.out _ _ ⟨((cell_far (p := ⟨gb201, _, none⟩) NB200_201.out _).trans (((cell_far (p := ⟨gb201, _, none⟩) NB200_201.out _).trans (hHeld.1)))), ((cell_far (p := ⟨gb201, _, none⟩) NB200_201.out _).trans (((cell_far (p := ⟨gb201, _, none⟩) NB200_201.out _).trans (hHeld.2))))⟩ (fun hHeld => ?_)
  clear hK K
  refine pure_ (i := 7) (N := some 7) (v := ?_) (a' := ?_) #[true,true,true,true,true,true,true,true] rfl rfl (any_of HT_.out (by kernel_rfl)) (fun _ _ _ h => h) (Or.inl ⟨by rfl, ?_⟩) ?_ ?_
  rotate_left
  ·intro w'
   go_simp
   with_reducible rfl
  rotate_left
  ·simp only [Act.put, List.setIfInBounds_toArray, List.set_cons_zero, List.set_cons_succ, i64_w, i32_w]
   rfl
  refine done_ (done_of HT_.out (by kernel_rfl)) ?_
  go_wp2
  refine bodyPost_ret (results_ct rfl _ _ gb201 30 #[.int .i64 t203, .slice Ao20 t204.length co20] (0, 0) _ rfl (by refine blk_put (cs := #[.int .i64 t203, .slice none 0 0]) ?_ 1 _ rfl; refine blk_put (cs := #[.int .i64 0, .slice none 0 0]) ?_ 0 _ rfl; exact BK201.out) Try.underlying30 rfl (by kernel_rfl)) rfl ?_
  exact ⟨_, by rfl, by exact Kd.R_mono (Kd.R_far (p := ⟨gb201, 1, none⟩) (Kd.R_far (p := ⟨gb201, 0, none⟩) (Kd.R_types HO206.out BK201.out (by decide)) (fun _ hk => hk.2) (.int .i64 t203)) (fun _ hk => hk.2) (.slice Ao20 t204.length co20)) (fun _ hk => trivial), by repeat ((with_reducible first | exact HB.out | refine below_set ?_ GE201.out))⟩
 rw [if_neg c5] at H
 have c5b0 : (t202 == 0) = false := beq_eq_false_iff_ne.mpr c5
 have c5b1 : (t202 != 0) = true := bne_iff_ne.mpr c5
 simp only [Option.some.injEq, Prod.mk.injEq] at H
 obtain ⟨rfl, rfl, rfl⟩ := H
 go_enter Try.func26, Try.ntmps26
 go_wp2_with (first | ((with_reducible refine gate_dst (N := 3) rfl ?_); refine box_event ?hg (N := 3) ?hd (cs := #[.slice A0_0 l0_0.length c0_0]) (t := 33) ?hr ?_; (case hd => rfl); (case hg => rfl); (case hr => (go_simp; done)); intro gb199 hg w22 hbox hb; have BK199 := Aside0.mk (hbox); have GW199 := Aside0.mk (geg hg (below_size HB.out)); have GE199 := Aside0.mk (geg hg (below_size HB.out)); replace HB := Aside0.mk (below_step HB.out hb); clear hb hbox hg) | ((with_reducible refine gate_dst (N := 4) rfl ?_); refine box_event ?hg (N := 4) ?hd (cs := #[.int .i64 a1_0, .slice A1_1 l1_1.length c1_1]) (t := 30) ?hr ?_; (case hd => rfl); (case hg => rfl); (case hr => (go_simp; done)); intro gb200 hg w23 hbox hb; have BK200 := Aside0.mk (hbox); have GW200 := Aside0.mk (geg hg (below_size HB.out)); have GE200 := Aside0.mk (geg hg (below_size HB.out)); replace HB := Aside0.mk (below_step HB.out hb); have NB199_200 := Aside0.mk (neg1 hg (Nat.ne_of_lt (blk_lt BK199.out))); have NB200_199 := Aside0.mk (neg2 hg (Nat.ne_of_gt (blk_lt BK199.out))); replace BK199 := Aside0.mk (blk_below BK199.out hb); clear hb hbox hg) | ((with_reducible refine gate_dst (N := 6) rfl ?_); refine box_event ?hg (N := 6) ?hd (cs := #[.int .i64 0, .slice none 0 0]) (t := 30) ?hr ?_; (case hd => rfl); (case hg => rfl); (case hr => (go_simp; done)); intro gb201 hg w24 hbox hb; have BK201 := Aside0.mk (hbox); have GW201 := Aside0.mk (geg hg (below_size HB.out)); have GE201 := Aside0.mk (geg hg (below_size HB.out)); replace HB := Aside0.mk (below_step HB.out hb); have NB199_201 := Aside0.mk (neg1 hg (Nat.ne_of_lt (blk_lt BK199.out))); have NB201_199 := Aside0.mk (neg2 hg (Nat.ne_of_gt (blk_lt BK199.out))); replace BK199 := Aside0.mk (blk_below BK199.out hb); have NB200_201 := Aside0.mk (neg1 hg (Nat.ne_of_lt (blk_lt BK200.out))); have NB201_200 := Aside0.mk (neg2 hg (Nat.ne_of_gt (blk_lt BK200.out))); replace BK200 := Aside0.mk (blk_below BK200.out hb); clear hb hbox hg; have hnb25 := NB199_200.out; have hnc25 := NB200_199.out; have hnb26 := NB199_201.out; have hnc26 := NB201_199.out; have hcz27_0 := bc0 BK199.out; have hfz27_0 := blk_frozen BK199.out 0; have hnb28 := NB200_201.out; have hnc28 := NB201_200.out; have hcz29_0 := bc0 BK200.out; have hcz29_1 := bc1 BK200.out; have hfz29_0 := blk_frozen BK200.out 0; have hfz29_1 := blk_frozen BK200.out 1) | ((with_reducible refine gate_callee (f := 73) rfl ?_); refine goesL_ (some 12) rfl rfl Try.func73 (by kernel_rfl) rfl #[.agg #[.slice A0_0 l0_0.length c0_0], .agg #[.int .i64 a1_0, .slice A1_1 l1_1.length c1_1], .int .i64 a2] rfl (by (simp only [List.map_toArray, List.map_cons, List.map_nil]); rfl) ?_; (with_reducible refine (spec_l08Code.calls k _ _ l0_0 a1_0 _ _ l1_1 a2 t202 _ ?side1 ?side2 ?side3 ?side4 A4.out).mono ?_); (case side1 => exact (Kd.C_below HR0_0.out HB.out)); (case side2 => exact HC0_0.out); (case side3 => exact (Kd.C_below HR1_1.out HB.out)); (case side4 => exact HC1_1.out); rintro e w30 ⟨rfl, hb⟩; refine ⟨_, rfl, ?_⟩; replace BK199 := Aside0.mk (blk_below BK199.out hb); replace BK200 := Aside0.mk (blk_below BK200.out hb); replace BK201 := Aside0.mk (blk_below BK201.out hb); replace HB := Aside0.mk (below_step HB.out hb); clear hb; have hcz31_0 := bc0 BK201.out; have hcz31_1 := bc1 BK201.out; have hfz31_0 := blk_frozen BK201.out 0; have hfz31_1 := blk_frozen BK201.out 1))
 refine bodyPost_ret (results_ct rfl _ _ gb201 30 #[.int .i64 0, .slice none 0 0] (0, 0) _ rfl (by refine blk_put (cs := #[.int .i64 0, .slice none 0 0]) ?_ 1 _ rfl; refine blk_put (cs := #[.int .i64 0, .slice none 0 0]) ?_ 0 _ rfl; exact BK201.out) Try.underlying30 rfl (by kernel_rfl)) rfl ?_
 exact ⟨_, by rfl, by exact Kd.R_nil _ _ _ _ _, by repeat ((with_reducible first | exact HB.out | refine below_set ?_ GE201.out))⟩

/-! ### impl_order: function 107 -/
def impl_order.f (l0_0 : List (List Int)) : Option (Int) := some (l0_0.length : Int)
set_option maxHeartbeats 8000000 in
set_option maxRecDepth 100000 in
theorem impl_order.calls (A0_0 : Option Addr) (c0_0 : Nat) (l0_0 : List (List Int)) (r : Int) (w : World) (hr0_0 : Kd.C (Kd.slice 2 (Kd.int .i64)) w A0_0 l0_0.length l0_0) (hc0_0 : l0_0.length ≤ c0_0) (h : impl_order.f l0_0 = some r) :
  Calls Try.prog 107 #[.agg #[.slice A0_0 l0_0.length c0_0]] w fun e w' => e = .returned (.int .i64 r) ∧ Below w.heap.size w w' := by
 have hu33 := Try.underlying33
 have hu22 := Try.underlying22
 have HR0_0 := Aside0.mk hr0_0
 have HC0_0 := Aside0.mk hc0_0
 clear hr0_0 hc0_0
 have HB := Aside0.mk (Below.refl w.heap.size w)
 have H : (some (l0_0.length : Int)) = some r := h
 clear h
 obtain rfl := Option.some.inj H
 go_enter Try.func107, Try.ntmps107
 go_wp2_with (((with_reducible refine gate_dst (N := 1) rfl ?_); refine box_event ?hg (N := 1) ?hd (cs := #[.slice A0_0 l0_0.length c0_0]) (t := 33) ?hr ?_; (case hd => rfl); (case hg => rfl); (case hr => (go_simp; done)); intro gb207 hg w2 hbox hb; have BK207 := Aside0.mk (hbox); have GW207 := Aside0.mk (geg hg (below_size HB.out)); have GE207 := Aside0.mk (geg hg (below_size HB.out)); replace HB := Aside0.mk (below_step HB.out hb); clear hb hbox hg; have hcz3_0 := bc0 BK207.out; have hfz3_0 := blk_frozen BK207.out 0))
 go_ret
 exact ⟨by rfl, by exact HB.out⟩

/-! ### impl_areIn: function 128 -/
def impl_areIn.l0 : Nat → Int → List Int → Int → Int → Option (Bool)
 | 0, _, _, _, _ => none
 | k + 1, x0, x7, x8, x9 => if x9 < x8 then (if 0 ≤ x9 then (if x9 < (x7.length : Int) then (if (rd x7 x9) < 0 then (some false) else (if (rd x7 x9) ≥ x0 then (some false) else (impl_areIn.l0 k x0 x7 x8 (wrap64 (x9 + 1))))) else (none)) else (none)) else (some true)
def impl_areIn.f (k : Nat) (a0 : Int) (l1 : List Int) : Option (Bool) := impl_areIn.l0 k a0 l1 (l1.length : Int) 0
theorem impl_areIn.mono_l : ∀ k, (∀ y0 y1 y2 y3, LeO (impl_areIn.l0 k y0 y1 y2 y3) (impl_areIn.l0 (k + 1) y0 y1 y2 y3))
 | 0 => fun _ _ _ _ r h => by simp [impl_areIn.l0] at h
 | k + 1 => by
  have ih0 := impl_areIn.mono_l k
  ·intro y0 y1 y2 y3
   unfold impl_areIn.l0
   repeat' first
   | (with_reducible exact ih0 _ _ _ _)
   | (with_reducible exact LeO.refl _)
   | (with_reducible exact LeO.none _)
   | (with_reducible refine LeO.ite ?_ ?_)
   | (with_reducible refine LeO.bind ?_ (fun _ => ?_))
   | exact ih0 _ _ _ _
   | exact LeO.none _
   | refine LeO.ite ?_ ?_
   | refine LeO.bind ?_ (fun _ => ?_)
theorem impl_areIn.mono : ∀ a0 a1 k, LeO (impl_areIn.f k a0 a1) (impl_areIn.f (k + 1) a0 a1) := by
 intro a0 a1 k
 have ih0 := impl_areIn.mono_l k
 unfold impl_areIn.f
 repeat' first
   | (with_reducible exact ih0 _ _ _ _)
set_option maxHeartbeats 8000000 in
set_option maxRecDepth 100000 in
theorem impl_areIn.calls (k : Nat) (a0 : Int) (A1 : Option Addr) (c1 : Nat) (l1 : List Int) (r : Bool) (w : World) (hr1 : Kd.C (Kd.int .i64) w A1 l1.length l1) (hc1 : l1.length ≤ c1) (h : impl_areIn.f k a0 l1 = some r) :
  Calls Try.prog 128 #[.int .i64 a0, .slice A1 l1.length c1] w fun e w' => e = .returned (.bool r) ∧ Drawn0 w w' := by
 have hu2 := Try.underlying2
 have HR1 := Aside0.mk hr1
 have HC1 := Aside0.mk hc1
 clear hr1 hc1
 have H : (impl_areIn.l0 k a0 l1 (l1.length : Int) 0) = some r := h
 clear h
 have H' := Aside0.mk H
 clear H
 go_enter Try.func128, Try.ntmps128
 go_wp2
 go_loopg [9] k (fun kq v9 w' => ∃ (x9_1 : Int), v9 = .int .i64 x9_1 ∧ Aside0 (impl_areIn.l0 kq a0 l1 (l1.length : Int) x9_1 = some r) ∧ Aside0 (kq ≤ k) ∧ Drawn0 w w')
 case atStart => exact ⟨(0), (by rfl), H', ⟨Nat.le_refl _⟩, by repeat (exact Drawn0.refl _)⟩
 case round =>
  clear H'
  obtain ⟨x9_1, rfl, HA, HK1, ⟨m1, rfl⟩⟩ := hrel
  cases gk with
  | zero => exact absurd HA.out (by simp [impl_areIn.l0])
  | succ k1 =>
   have H := HA.out
   clear HA
   simp only [impl_areIn.l0] at H
   by_cases c3 : x9_1 < (l1.length : Int)
   ·rw [if_pos c3] at H
    have c3b0 : decide (x9_1 < (l1.length : Int)) = true := decide_eq_true c3
    clear c3
    by_cases c4 : 0 ≤ x9_1
    ·rw [if_pos c4] at H
     have c4b0 : decide (0 ≤ x9_1) = true := decide_eq_true c4
     clear c4
     by_cases c5 : x9_1 < (l1.length : Int)
     ·rw [if_pos c5] at H
      have c5b0 : decide (x9_1 < (l1.length : Int)) = true := decide_eq_true c5
      clear c5
      by_cases c6 : (rd l1 x9_1) < 0
      ·rw [if_pos c6] at H
       have c6b0 : decide ((rd l1 x9_1) < 0) = true := decide_eq_true c6
       clear c6
       obtain rfl := Option.some.inj H
       have p208 : 0 ≤ (x9_1 : Int) := of_decide_eq_true ‹_›
       have q208 : x9_1 < (l1.length : Int) := of_decide_eq_true ‹_›
       obtain ⟨ad208, e208, hx208_0⟩ := Kd.at_int HR1.out x9_1 p208 q208
       cases e208
       replace p208 := eq_true p208
       replace q208 := eq_true q208
       go_wp2
       go_ret
       exact ⟨by rfl, by repeat (first | exact Drawn0.refl _ | apply Drawn0.step)⟩
      rw [if_neg c6] at H
      have c6b0 : decide ((rd l1 x9_1) < 0) = false := decide_eq_false c6
      clear c6
      by_cases c7 : (rd l1 x9_1) ≥ a0
      ·rw [if_pos c7] at H
       have c7b0 : decide (a0 ≤ (rd l1 x9_1)) = true := decide_eq_true c7
       clear c7
       obtain rfl := Option.some.inj H
       have p208 : 0 ≤ (x9_1 : Int) := of_decide_eq_true ‹_›
       have q208 : x9_1 < (l1.length : Int) := of_decide_eq_true ‹_›
       obtain ⟨ad208, e208, hx208_0⟩ := Kd.at_int HR1.out x9_1 p208 q208
       cases e208
       replace p208 := eq_true p208
       replace q208 := eq_true q208
       go_wp2
       go_ret
       exact ⟨by rfl, by repeat (first | exact Drawn0.refl _ | apply Drawn0.step)⟩
      rw [if_neg c7] at H
      have c7b0 : decide (a0 ≤ (rd l1 x9_1)) = false := decide_eq_false c7
      clear c7
      have H' := Aside0.mk H
      clear H
      have p208 : 0 ≤ (x9_1 : Int) := of_decide_eq_true ‹_›
      have q208 : x9_1 < (l1.length : Int) := of_decide_eq_true ‹_›
      obtain ⟨ad208, e208, hx208_0⟩ := Kd.at_int HR1.out x9_1 p208 q208
      cases e208
      replace p208 := eq_true p208
      replace q208 := eq_true q208
      go_wp2
      go_roundg k1
      case measure => have := HK1.out; omega
      case rel => exact ⟨(wrap64 (x9_1 + 1)), (by rfl), H', ⟨by have := HK1.out; omega⟩, by repeat (first | exact Drawn0.refl _ | apply Drawn0.step)⟩
     rw [if_neg c5] at H
     exact absurd H (by simp)
    rw [if_neg c4] at H
    exact absurd H (by simp)
   rw [if_neg c3] at H
   have c3b0 : decide (x9_1 < (l1.length : Int)) = false := decide_eq_false c3
   clear c3
   obtain rfl := Option.some.inj H
   go_wp2
   go_ret
   exact ⟨by rfl, by repeat (first | exact Drawn0.refl _ | apply Drawn0.step)⟩

end Go.Proofs.Ytkpcogaahgfmcaa.PFnExactOuterModule
