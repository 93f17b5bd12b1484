/- Contracts of functions of the program and of the reference: what the evaluator gives for a call of each. -/
import Derived.Test.YtfpeijfomacgeaaAEf
import Derived.Test.YtfpeijfomacgeaaK0
import Derived.Test.YtfpeijfomacgeaaK7
import Derived.Test.YtfpeijfomacgeaaK26
import Derived.Test.YtfpeijfomacgeaaK31
import Derived.Test.YtfpeijfomacgeaaK32
import Derived.Test.YtfpeijfomacgeaaK33
import Derived.Test.YtfpeijfomacgeaaK34
import Derived.Test.YtfpeijfomacgeaaK35
import Derived.Test.YtfpeijfomacgeaaK36
import Derived.Test.YtfpeijfomacgeaaK38
import Derived.Test.YtfpeijfomacgeaaK39
import Derived.Test.YtfpeijfomacgeaaK42
import Derived.Test.YtfpeijfomacgeaaK44
import Derived.Test.YtfpeijfomacgeaaK48
import Derived.Test.YtfpeijfomacgeaaK49
namespace Go.Proofs.YtfpeijfomacgeaaE
open Go Go.Proofs
set_option maxHeartbeats 4000000
set_option maxRecDepth 4000
set_option linter.unusedSimpArgs false
set_option linter.unusedVariables false
set_option pp.deepTerms false
set_option pp.deepTerms.threshold 10
/-! ## TransferElement, the program -/
theorem ct_implTr (n : Nat) (hn : B + 11 + 15 ≤ n) (T : List (List Int)) (hT : T.length ≤ 2000000) (hr : ∀ i, (rown T i).length ≤ 1000000000000) (l : List Int) (hl : l.length ≤ 10000000) (c : Int) (h : TGood T l c) :
    evalCall Try.prog An n 37 [.agg [.d (intss T)], .d (ints l), .d (.int .i64 c)] [] = some ⟨.tuple [.d (.int .i64 (trN T l c.toNat (firsts T l).length)), .d (.int .i64 0)], [], []⟩ := by
  obtain ⟨m, rfl⟩ : ∃ m, n = m + 1 := ⟨n - 1, by omega⟩
  have hB := B_eq
  simp only [evalCall_at, fb37, bnd_some, bodyOf, Try.f37, Option.getD_some]
  generalize hb0 : Code.loop _ = cc0
  obtain rfl : cc0 = .loop (lp Try.f37 0) := by rw [← hb0]; rfl
  clear hb0
  have H := h.1.1
  have G := H.1
  have c1 := ct_setCode m (by omega) T hT hr l hl
  have c0 := ct_order m (by omega) T
  have c2 := ct_areIn m (by omega) T.length [c] (by simp -implicitDefEqProofs (maxSteps := 3000000))
  rw [show ints [c] = .sl 1 [.int .i64 c] from rfl] at c2
  have c3 := ct_isSubgroup m (by omega) T G l H.2.1
  have e1 : setcode T l = 0 := by rw [setcode, if_pos G, if_pos H.2.1]
  rw [e1] at c1
  rw [bl_true (all1.2 h.1.2)] at c2
  rw [bl_true H.2.2] at c3
  have c4 := ct_groupOf m (by omega) T l H
  have c5 := ct_isAbelian m (by omega) (sbG T l) (sbG_ok H) (sbG_zero H)
  rw [bl_true (by rw [sbG_len]; exact h.2)] at c5
  have c6 := ct_cosets m (by omega) T l H
  have hlen := setOk_len H.2.1
  have hT8 := G.1.1
  obtain ⟨xa, hxa⟩ := Int.eq_ofNat_of_zero_le h.1.2.1
  have hxT : xa < T.length := by have := h.1.2.2; omega
  subst hxa
  simp only [Int.ofNat_eq_natCast, Int.toNat_natCast] at *
  have fb := (firsts_bd T l).1
  simp -implicitDefEqProofs (maxSteps := 3000000) [c0, c1, c2, c3, c4, c5, c6]
  generalize hx : loopC _ _ _ = x
  generalize hl : lp Try.f37 0 = L at hx
  simp only [lp, bodyOf, Try.f37, Option.getD_some, loopsIn, List.append_nil, List.nil_append, List.cons_append, List.getD, List.getElem?_cons_zero, List.getElem?_cons_succ] at hl
  subst hl
  obtain ⟨qq, rfl, hqq⟩ := loop_end hx ((firsts T l).length) (fun i s => ∃ g v v2, s = ⟨[(2, .d (.int .i64 xa)), (3, .ptr 48 1 0), (9, .own 688 v), (10, .own 689 v2), (11, .d (.int .i64 (trN T l xa i))), (46, .own 688 v), (47, .d (.int .i64 (firsts T l).length)), (48, .d (.int .i64 i))], [(48, some (1, .box [.d (intss T)])), (688, some (v, .row (icells (firsts T l)))), (689, some (v2, .row (icells (nums T l))))], g⟩)
    (fun qq => ∃ s v v2, qq = (.exit 1, s) ∧ lookL s.env 2 = some (.d (.int .i64 xa)) ∧ lookL s.env 3 = some (.ptr 48 1 0) ∧ lookL s.env 9 = some (.own 688 v) ∧ lookL s.env 10 = some (.own 689 v2) ∧ lookL s.env 11 = some (.d (.int .i64 (trN T l xa ((firsts T l).length)))) ∧ lookL s.env 46 = some (.own 688 v) ∧ lookL s.env 47 = some (.d (.int .i64 (firsts T l).length)) ∧ lookL s.env 48 = some (.d (.int .i64 ((firsts T l).length))) ∧ obsL s.obs 48 = some (1, .box [.d (intss T)]) ∧ obsL s.obs 688 = some (v, .row (icells (firsts T l))) ∧ obsL s.obs 689 = some (v2, .row (icells (nums T l))))
    (by show (firsts T l).length < m; omega) (by
      simp -implicitDefEqProofs (maxSteps := 3000000) [trN]
      exact ⟨_, _, _, ⟨rfl, rfl, rfl⟩, ⟨rfl, rfl⟩, rfl⟩)
    (by
      rintro i s hi ⟨g, v, v2, rfl⟩
      have w2 := wrap_id (n := (i : Int) + 1) (by omega)
      obtain ⟨f1, f2⟩ := fst_nat hi
      have t1 := trN_lt H hxT i (by omega)
      generalize ht : (rn (firsts T l) i).toNat = t at *
      have s1 := stp_lt H hxT f2
      have mx := mu_cl G.1 hxT f2
      obtain ⟨g1, g2, g3, g4⟩ := fr_lt H mx.2
      have hi0 := (inv_spec G g2).1
      have c7 := ct_times2i m (by omega) T G xa t (by omega) (by omega)
      rw [Int.toNat_natCast, Int.toNat_natCast, mx.1] at c7
      have c8 := ct_inverse m (by omega) T G _ g2
      have c9 := ct_times3 m (by omega) T G (trN T l xa i) (inv T (fr T l (mu T xa t))) (mu T xa t) t1 hi0 mx.2
      have e3 : trN T l xa (i + 1) = mu T (mu T (trN T l xa i) (inv T (fr T l (mu T xa t)))) (mu T xa t) := by
        rw [mu_as G t1 hi0 mx.2, ← ht]; rfl
      rw [e3]
      have h2 := mx.2
      have nl := nums_len T l
      generalize (rn (nums T l) (mu T xa t)).toNat = q at *
      simp -implicitDefEqProofs (maxSteps := 3000000) [hi, f1, c7, w2, h2, nl, g1, g3, g4, c8, c9]
      exact ⟨_, _, _, ⟨rfl, rfl, rfl⟩, ⟨rfl, rfl⟩, rfl⟩)
    (by
      rintro s ⟨g, v, v2, rfl⟩
      simp -implicitDefEqProofs (maxSteps := 3000000))
  obtain ⟨s, v, v2, rfl, hf⟩ := hqq
  simp -implicitDefEqProofs (maxSteps := 3000000) [hf]
theorem ct_implTr_bad (n : Nat) (hn : B + 11 + 15 ≤ n) (T : List (List Int)) (hT : T.length ≤ 2000000) (hr : ∀ i, (rown T i).length ≤ 1000000000000) (l : List Int) (hl : l.length ≤ 10000000) (c : Int) (h : ¬ TGood T l c) :
    evalCall Try.prog An n 37 [.agg [.d (intss T)], .d (ints l), .d (.int .i64 c)] [] = some ⟨.tuple [.d (.int .i64 0), .d (.int .i64 (tcode T l c))], [], []⟩ := by
  obtain ⟨m, rfl⟩ : ∃ m, n = m + 1 := ⟨n - 1, by omega⟩
  have hB := B_eq
  simp only [evalCall_at, fb37, bnd_some, bodyOf, Try.f37, Option.getD_some]
  generalize hb0 : Code.loop _ = cc0
  obtain rfl : cc0 = .loop (lp Try.f37 0) := by rw [← hb0]; rfl
  clear hb0
  have c1 := ct_setCode m (by omega) T hT hr l hl
  have c0 := ct_order m (by omega) T
  by_cases g : HGood T l ∧ 0 ≤ c ∧ c < T.length
  · have H := g.1
    have G := H.1
    have c2 := ct_areIn m (by omega) T.length [c] (by simp -implicitDefEqProofs (maxSteps := 3000000))
    rw [show ints [c] = .sl 1 [.int .i64 c] from rfl] at c2
    have c3 := ct_isSubgroup m (by omega) T G l H.2.1
    have e1 : setcode T l = 0 := by rw [setcode, if_pos G, if_pos H.2.1]
    rw [e1] at c1
    rw [bl_true (all1.2 g.2)] at c2
    rw [bl_true H.2.2] at c3
    have c4 := ct_groupOf m (by omega) T l H
    have c5 := ct_isAbelian m (by omega) (sbG T l) (sbG_ok H) (sbG_zero H)
    rw [bl_false (by rw [sbG_len]; exact fun z => h ⟨g, z⟩)] at c5
    have et : tcode T l c = 5 := by rw [tcode, if_pos g]
    simp -implicitDefEqProofs (maxSteps := 3000000) [c0, c1, c2, c3, c4, c5, et]
  · have ne := cjcode_ne g
    have et : tcode T l c = cjcode T l c := by rw [tcode, if_neg g]
    rw [et]
    by_cases s0 : setcode T l = 0
    · obtain ⟨G, A⟩ := set_0 s0
      have c2 := ct_areIn m (by omega) T.length [c] (by simp -implicitDefEqProofs (maxSteps := 3000000))
      rw [show ints [c] = .sl 1 [.int .i64 c] from rfl] at c2
      rw [s0] at c1
      by_cases q : 0 ≤ c ∧ c < T.length
      · rw [bl_true (all1.2 q)] at c2
        have c3 := ct_isSubgroup m (by omega) T G l A
        have hS : ¬ SubG T l := fun z => g ⟨⟨G, A, z⟩, q⟩
        rw [bl_false hS] at c3
        have e3 : cjcode T l c = 5 := by rw [cjcode, if_neg (fun z => z.2.2 q), subcode, if_pos G, if_pos A, if_neg hS]
        simp -implicitDefEqProofs (maxSteps := 3000000) [c1, c0, c2, c3, e3]
      · rw [bl_false (fun z => q (all1.1 z))] at c2
        have e3 : cjcode T l c = 2 := by rw [cjcode, if_pos ⟨G, A, q⟩]
        simp -implicitDefEqProofs (maxSteps := 3000000) [c1, c0, c2, e3]
    · have e3 := cj_set_ne (c := c) s0
      have ne2 := bne_t s0
      simp -implicitDefEqProofs (maxSteps := 3000000) [c1, s0, ne2, e3]
end Go.Proofs.YtfpeijfomacgeaaE
