/- Contracts of functions of the program and of the reference: what the evaluator gives for a call of each. -/
import Derived.Test.YtfpeijfomacgeaaAEf
import Derived.Test.YtfpeijfomacgeaaK0
import Derived.Test.YtfpeijfomacgeaaK3
import Derived.Test.YtfpeijfomacgeaaK24
import Derived.Test.YtfpeijfomacgeaaK26
import Derived.Test.YtfpeijfomacgeaaK31
import Derived.Test.YtfpeijfomacgeaaK33
import Derived.Test.YtfpeijfomacgeaaK34
import Derived.Test.YtfpeijfomacgeaaK35
import Derived.Test.YtfpeijfomacgeaaK36
import Derived.Test.YtfpeijfomacgeaaK38
import Derived.Test.YtfpeijfomacgeaaK40
import Derived.Test.YtfpeijfomacgeaaK42
import Derived.Test.YtfpeijfomacgeaaK44
import Derived.Test.YtfpeijfomacgeaaK47
import Derived.Test.YtfpeijfomacgeaaK48
namespace Go.Proofs.YtfpeijfomacgeaaE
open Go Go.Proofs
set_option maxHeartbeats 4000000
set_option maxRecDepth 4000
set_option linter.unusedSimpArgs false
set_option linter.unusedVariables false
set_option pp.deepTerms false
set_option pp.deepTerms.threshold 10
/-! ## TransferElement -/
noncomputable def fr (T : List (List Int)) (h : List Int) (w : Nat) : Nat := (rn (firsts T h) (rn (nums T h) w).toNat).toNat
noncomputable def stp (T : List (List Int)) (h : List Int) (x t : Nat) : Nat := mu T (inv T (fr T h (mu T x t))) (mu T x t)
noncomputable def trN (T : List (List Int)) (h : List Int) (x : Nat) : Nat → Nat
  | 0 => 0
  | i + 1 => mu T (trN T h x i) (stp T h x (rn (firsts T h) i).toNat)
theorem fr_lt {T : List (List Int)} {h : List Int} (H : HGood T h) {w : Nat} (hw : w < T.length) : (rn (nums T h) w).toNat < (firsts T h).length ∧ fr T h w < T.length ∧ rn (nums T h) w = ((rn (nums T h) w).toNat : Int) ∧ rn (firsts T h) (rn (nums T h) w).toNat = (fr T h w : Int) := by
  have h1 := nums_bd H w hw
  have h2 := (firsts_bd T h).2 (rn (nums T h) w).toNat (by omega)
  refine ⟨by omega, ?_, by omega, ?_⟩
  · simp only [fr]; omega
  · simp only [fr]; omega
theorem stp_lt {T : List (List Int)} {h : List Int} (H : HGood T h) {x t : Nat} (hx : x < T.length) (ht : t < T.length) : stp T h x t < T.length :=
  mu_lt H.1 (inv_spec H.1 (fr_lt H (mu_lt H.1 hx ht)).2.1).1 (mu_lt H.1 hx ht)
theorem fst_nat {T : List (List Int)} {h : List Int} {i : Nat} (hi : i < (firsts T h).length) : rn (firsts T h) i = ((rn (firsts T h) i).toNat : Int) ∧ (rn (firsts T h) i).toNat < T.length := by
  have := (firsts_bd T h).2 i hi
  omega
theorem trN_lt {T : List (List Int)} {h : List Int} (H : HGood T h) {x : Nat} (hx : x < T.length) : ∀ i ≤ (firsts T h).length, trN T h x i < T.length
  | 0, _ => zero_lt_len H.1
  | i + 1, hi => mu_lt H.1 (trN_lt H hx i (by omega)) (stp_lt H hx (fst_nat (by omega)).2)
theorem ct_l07Step (n : Nat) (hn : B + 3 ≤ n) (T : List (List Int)) (h : List Int) (H : HGood T h) (x t : Nat) (hx : x < T.length) (ht : t < T.length) :
    evalCall Try.prog An n 70 [.agg [.d (intss T)], .d (ints (nums T h)), .d (ints (firsts T h)), .d (.int .i64 x), .d (.int .i64 t)] [] = some ⟨.tuple [.d (.int .i64 (fr T h (mu T x t))), .d (.int .i64 (stp T h x t))], [], []⟩ := by
  obtain ⟨m, rfl⟩ : ∃ m, n = m + 1 := ⟨n - 1, by omega⟩
  have hB := B_eq
  simp only [evalCall_at, fb70, bnd_some, bodyOf, Try.f70, Option.getD_some]
  have G := H.1
  have m1 := mu_cl G.1 hx ht
  obtain ⟨f1, f2, f3, f4⟩ := fr_lt H m1.2
  have hi0 := (inv_spec G f2).1
  have c1 := ct_l01Inverse m (by omega) T G (fr T h (mu T x t)) f2
  have rx := (G.1.2 x hx).1
  have m2 := mu_cl G.1 hi0 m1.2
  have ri := (G.1.2 _ hi0).1
  have nl := nums_len T h
  have e : (stp T h x t : Int) = cl T (inv T (fr T h (mu T x t))) (mu T x t) := by rw [m2.1]; rfl
  rw [e]
  have h1 := m1.1
  have h2 := m1.2
  simp only [cl] at h1 ⊢
  generalize (rn (nums T h) (mu T x t)).toNat = q at *
  simp -implicitDefEqProofs (maxSteps := 3000000) [hx, ht, rx, h1, h2, nl, f1, f3, f4, c1, hi0, ri]
def TGood (T : List (List Int)) (l : List Int) (c : Int) : Prop := (HGood T l ∧ 0 ≤ c ∧ c < T.length) ∧ (cenL (sbG T l)).length = l.length
open Classical in
noncomputable def tcode (T : List (List Int)) (l : List Int) (c : Int) : Int := if HGood T l ∧ 0 ≤ c ∧ c < T.length then 5 else cjcode T l c
theorem ct_specTr (n : Nat) (hn : B + 6 + 3 ≤ n) (T : List (List Int)) (hT : T.length ≤ 2000000) (l : List Int) (hl : l.length ≤ 10000000) (c : Int) (h : TGood T l c) :
    evalCall Try.prog An n 36 [.agg [.d (intss T)], .d (ints l), .d (.int .i64 c)] [] = some ⟨.tuple [.d (.int .i64 (trN T l c.toNat (firsts T l).length)), .d (.int .i64 0)], [], []⟩ := by
  obtain ⟨m, rfl⟩ : ∃ m, n = m + 1 := ⟨n - 1, by omega⟩
  have hB := B_eq
  simp only [evalCall_at, fb36, bnd_some, bodyOf, Try.f36, Option.getD_some]
  generalize hb0 : Code.loop _ = cc0
  obtain rfl : cc0 = .loop (lp Try.f36 0) := by rw [← hb0]; rfl
  clear hb0
  have H := h.1.1
  have G := H.1
  have c1 := ct_l01Set m (by omega) T (by omega) l hl
  have c3 := ct_l07Code m (by omega) T (by omega) l hl
  have c2 := ct_l01Elements m (by omega) T (by omega) [c] (by simp -implicitDefEqProofs (maxSteps := 3000000))
  rw [show ints [c] = .sl 1 [.int .i64 c] from rfl] at c2
  have e1 : setcode T l = 0 := by rw [setcode, if_pos G, if_pos H.2.1]
  have e2 : elcode T [c] = 0 := by rw [elcode, if_pos G, if_pos (all1.2 h.1.2)]
  rw [e1] at c1
  rw [e2] at c2
  rw [subcode_0 H] at c3
  have c4 := ct_l07Group m (by omega) T l H
  have c5 := ct_l01Centre m (by omega) (sbG T l) (sbG_ok H)
  have c6 := ct_l01Cosets m (by omega) T l H
  have hlen := setOk_len H.2.1
  have hT8 := G.1.1
  have w0 := wrap_id (n := (l.length : Int)) (by omega)
  have ab := h.2
  obtain ⟨xa, hxa⟩ := Int.eq_ofNat_of_zero_le h.1.2.1
  have hxT : xa < T.length := by have := h.1.2.2; omega
  subst hxa
  simp only [Int.ofNat_eq_natCast, Int.toNat_natCast] at *
  have fb := (firsts_bd T l).1
  simp -implicitDefEqProofs (maxSteps := 3000000) [c1, c2, c3, c4, c5, c6, ab, w0]
  generalize hx : loopC _ _ _ = x
  generalize hl : lp Try.f36 0 = L at hx
  simp only [lp, bodyOf, Try.f36, Option.getD_some, loopsIn, List.append_nil, List.nil_append, List.cons_append, List.getD, List.getElem?_cons_zero, List.getElem?_cons_succ] at hl
  subst hl
  obtain ⟨qq, rfl, hqq⟩ := loop_end hx ((firsts T l).length) (fun i s => ∃ g v v2, s = ⟨[(2, .d (.int .i64 xa)), (3, .ptr 48 1 0), (9, .own 736 v), (10, .own 737 v2), (11, .d (.int .i64 (trN T l xa i))), (12, .d (.int .i64 i))], [(48, some (1, .box [.d (intss T)])), (736, some (v, .row (icells (nums T l)))), (737, some (v2, .row (icells (firsts T l))))], g⟩)
    (fun qq => ∃ s v v2, qq = (.exit 0, s) ∧ lookL s.env 2 = some (.d (.int .i64 xa)) ∧ lookL s.env 3 = some (.ptr 48 1 0) ∧ lookL s.env 9 = some (.own 736 v) ∧ lookL s.env 10 = some (.own 737 v2) ∧ lookL s.env 11 = some (.d (.int .i64 (trN T l xa ((firsts T l).length)))) ∧ lookL s.env 12 = some (.d (.int .i64 ((firsts T l).length))) ∧ obsL s.obs 48 = some (1, .box [.d (intss T)]) ∧ obsL s.obs 736 = some (v, .row (icells (nums T l))) ∧ obsL s.obs 737 = some (v2, .row (icells (firsts T l))))
    (by show (firsts T l).length < m; omega) (by
      simp -implicitDefEqProofs (maxSteps := 3000000) [trN])
    (by
      rintro i s hi ⟨g, v, v2, rfl⟩
      have w2 := wrap_id (n := (i : Int) + 1) (by omega)
      obtain ⟨f1, f2⟩ := fst_nat hi
      have c7 := ct_l07Step m (by omega) T l H xa (rn (firsts T l) i).toNat hxT f2
      rw [← f1] at c7
      have t1 := trN_lt H hxT i (by omega)
      have s1 := stp_lt H hxT f2
      have m1 := (mu_cl G.1 t1 s1).1
      have ra := (G.1.2 _ t1).1
      have e3 : trN T l xa (i + 1) = mu T (trN T l xa i) (stp T l xa (rn (firsts T l) i).toNat) := rfl
      rw [e3]
      simp only [cl] at m1
      simp -implicitDefEqProofs (maxSteps := 3000000) [hi, c7, w2, t1, s1, ra, m1])
    (by
      rintro s ⟨g, v, v2, rfl⟩
      simp -implicitDefEqProofs (maxSteps := 3000000))
  obtain ⟨s, v, v2, rfl, hf⟩ := hqq
  simp -implicitDefEqProofs (maxSteps := 3000000) [hf]
theorem ct_specTr_bad (n : Nat) (hn : B + 6 + 3 ≤ n) (T : List (List Int)) (hT : T.length ≤ 2000000) (l : List Int) (hl : l.length ≤ 10000000) (c : Int) (h : ¬ TGood T l c) :
    evalCall Try.prog An n 36 [.agg [.d (intss T)], .d (ints l), .d (.int .i64 c)] [] = some ⟨.tuple [.d (.int .i64 0), .d (.int .i64 (tcode T l c))], [], []⟩ := by
  obtain ⟨m, rfl⟩ : ∃ m, n = m + 1 := ⟨n - 1, by omega⟩
  have hB := B_eq
  simp only [evalCall_at, fb36, bnd_some, bodyOf, Try.f36, Option.getD_some]
  generalize hb0 : Code.loop _ = cc0
  obtain rfl : cc0 = .loop (lp Try.f36 0) := by rw [← hb0]; rfl
  clear hb0
  have c1 := ct_l01Set m (by omega) T (by omega) l hl
  have c3 := ct_l07Code m (by omega) T (by omega) l hl
  by_cases g : HGood T l ∧ 0 ≤ c ∧ c < T.length
  · have H := g.1
    have G := H.1
    have c2 := ct_l01Elements m (by omega) T (by omega) [c] (by simp -implicitDefEqProofs (maxSteps := 3000000))
    rw [show ints [c] = .sl 1 [.int .i64 c] from rfl] at c2
    have e1 : setcode T l = 0 := by rw [setcode, if_pos G, if_pos H.2.1]
    have e2 : elcode T [c] = 0 := by rw [elcode, if_pos G, if_pos (all1.2 g.2)]
    rw [e1] at c1
    rw [e2] at c2
    rw [subcode_0 H] at c3
    have c4 := ct_l07Group m (by omega) T l H
    have c5 := ct_l01Centre m (by omega) (sbG T l) (sbG_ok H)
    have hlen := setOk_len H.2.1
    have hT8 := G.1.1
    have tl : (cenL (sbG T l)).length ≤ (sbG T l).length := thoseL_le (cenQ (sbG T l)) (sbG T l).length
    rw [sbG_len] at tl
    have w0 := wrap_id (n := (l.length : Int)) (by omega)
    have w1 := wrap_id (n := ((cenL (sbG T l)).length : Int)) (by omega)
    have ab : ¬ (cenL (sbG T l)).length = l.length := fun z => h ⟨g, z⟩
    have ab2 : (((cenL (sbG T l)).length : Int) != l.length) = true := bne_t (by omega)
    have et : tcode T l c = 5 := by rw [tcode, if_pos g]
    simp -implicitDefEqProofs (maxSteps := 3000000) [c1, c2, c3, c4, c5, ab, ab2, w0, w1, et]
  · have ne := cjcode_ne g
    have et : tcode T l c = cjcode T l c := by rw [tcode, if_neg g]
    rw [et]
    by_cases s0 : setcode T l = 0
    · obtain ⟨G, A⟩ := set_0 s0
      have c2 := ct_l01Elements m (by omega) T (by omega) [c] (by simp -implicitDefEqProofs (maxSteps := 3000000))
      rw [show ints [c] = .sl 1 [.int .i64 c] from rfl] at c2
      rw [s0] at c1
      by_cases q : 0 ≤ c ∧ c < T.length
      · have e2 : elcode T [c] = 0 := by rw [elcode, if_pos G, if_pos (all1.2 q)]
        have e3 : cjcode T l c = subcode T l := by rw [cjcode, if_neg (fun z => z.2.2 q)]
        rw [e2] at c2
        rw [e3] at ne ⊢
        have ne2 := bne_t ne
        simp -implicitDefEqProofs (maxSteps := 3000000) [c1, c2, c3, ne, ne2]
      · have e2 : elcode T [c] = 2 := by rw [elcode, if_pos G, if_neg (fun z => q (all1.1 z))]
        have e3 : cjcode T l c = 2 := by rw [cjcode, if_pos ⟨G, A, q⟩]
        rw [e2] at c2
        simp -implicitDefEqProofs (maxSteps := 3000000) [c1, c2, e3]
    · have e3 := cj_set_ne (c := c) s0
      have ne2 := bne_t s0
      have ne3 := beq_f s0
      simp -implicitDefEqProofs (maxSteps := 3000000) [c1, s0, ne2, ne3, e3]
end Go.Proofs.YtfpeijfomacgeaaE
