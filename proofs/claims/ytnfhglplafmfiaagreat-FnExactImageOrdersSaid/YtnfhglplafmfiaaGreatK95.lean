/- Contracts of functions of the program and of the reference: what the evaluator gives for a call of each. -/
import Derived.Test.YtnfhglplafmfiaaGreatAEf
import Derived.Test.YtnfhglplafmfiaaGreatK1M
import Derived.Test.YtnfhglplafmfiaaGreatK4
import Derived.Test.YtnfhglplafmfiaaGreatK16
import Derived.Test.YtnfhglplafmfiaaGreatK40M
import Derived.Test.YtnfhglplafmfiaaGreatK64
import Derived.Test.YtnfhglplafmfiaaGreatK90M
import Derived.Test.YtnfhglplafmfiaaGreatK91
import Derived.Test.YtnfhglplafmfiaaGreatK92
import Derived.Test.YtnfhglplafmfiaaGreatK94
namespace Go.Proofs.YtnfhglplafmfiaaGreatE
open Go Go.Proofs
set_option maxHeartbeats 16000000
set_option maxRecDepth 8000
set_option linter.unusedSimpArgs false
set_option linter.unusedVariables false
set_option pp.deepTerms false
set_option pp.deepTerms.threshold 10
/-! ## the reference's rows modulo m -/
theorem ct_l04Mix (n : Nat) (hn : B + 1 + 1 ≤ n) (M : Int) (hM : 1 ≤ M ∧ M ≤ 200) (x y : Int) (hx : -200 ≤ x ∧ x ≤ 200) (hy : -200 ≤ y ∧ y ≤ 200) (p q : Bool) (a b : List Int) (hl : a.length ≤ 10000000) (hab : a.length ≤ b.length)
    (ha : ∀ i, 0 ≤ rn a i ∧ rn a i ≤ 200) (hb : ∀ i, 0 ≤ rn b i ∧ rn b i ≤ 200) :
    evalCall Tryz.prog An n 170 [.d (srow p a), .d (srow q b), .d (.int .i64 x), .d (.int .i64 y), .d (.int .i64 M)] [] = some ⟨.own 0 0, [.row (icells (cmb M x a y b))], []⟩ := by
  obtain ⟨m, rfl⟩ : ∃ m, n = m + 1 := ⟨n - 1, by omega⟩
  have hB := B_eq
  simp only [evalCall_at, fb170, bnd_some, bodyOf, Tryz.f170, Option.getD_some]
  generalize hb0 : Code.loop _ = cc0
  obtain rfl : cc0 = .loop (lp Tryz.f170 0) := by rw [← hb0]; rfl
  clear hb0
  have h1 : (a.length : Int) ≤ 1099511627776 := by omega
  have z0 := cmbP_0 M x a y b
  have step : ∀ i, i < a.length → ∃ t : Int, IntKind.wrap .i64 (IntKind.wrap .i64 (x * rn a i) + IntKind.wrap .i64 (y * rn b i)) = t ∧ evalCall Tryz.prog An m 152 [.d (.int .i64 t), .d (.int .i64 M)] [] = some ⟨.d (.int .i64 ((x * rn a i + y * rn b i) % M)), [], []⟩ := by
    intro i hi
    have m1 := mul_sm2 hx (ha i)
    have m2 := mul_sm2 hy (hb i)
    refine ⟨x * rn a i + y * rn b i, ?_, ct_l01Mod m (by omega) _ M (by omega) (by omega)⟩
    rw [wrap_id (n := x * rn a i) (by omega), wrap_id (n := y * rn b i) (by omega), wrap_id (by omega)]
  cases p <;> cases q
  all_goals
    simp -implicitDefEqProofs (maxSteps := 3000000) [h1, z0]
    generalize hx : loopC _ _ _ = z
  · skip
    generalize hl : lp Tryz.f170 0 = L at hx
    simp only [lp, bodyOf, Tryz.f170, Option.getD_some, loopsIn, List.append_nil, List.nil_append, List.cons_append, List.getD, List.getElem?_cons_zero, List.getElem?_cons_succ] at hl
    subst hl
    obtain ⟨qq, rfl, hqq⟩ := loop_end hx a.length (fun i s => ∃ g, s = ⟨[(0, .d (ints a)), (1, .d (ints b)), (2, .d (.int .i64 x)), (3, .d (.int .i64 y)), (4, .d (.int .i64 M)), (11, .own 240 4), (12, .d (.int .i64 i))], [(240, some (4, .row (icells (cmbP M x a y b i))))], g⟩)
      (fun qq => ∃ s, qq = (.exit 0, s) ∧ lookL s.env 11 = some (.own 240 4) ∧ obsL s.obs 240 = some (4, .row (icells (cmbP M x a y b a.length))))
      (by show a.length < m; omega) (by simp -implicitDefEqProofs (maxSteps := 3000000))
      (by
        rintro i s hi ⟨g, rfl⟩
        have w2 := wrap_id (n := (i : Int) + 1) (by omega)
        have hib : i < b.length := by omega
        obtain ⟨t, t1, t2⟩ := step i hi
        have cs := cmbP_set (m := M) (x := x) (a := a) (y := y) (b := b) hi
        rw [← cs]
        simp -implicitDefEqProofs (maxSteps := 3000000) [hi, hib, w2, t1, t2])
      (by
        rintro s ⟨g, rfl⟩
        simp -implicitDefEqProofs (maxSteps := 3000000))
    obtain ⟨s, rfl, hf⟩ := hqq
    simp -implicitDefEqProofs (maxSteps := 3000000) [hf, cmbP_all]
  · skip
    generalize hl : lp Tryz.f170 0 = L at hx
    simp only [lp, bodyOf, Tryz.f170, Option.getD_some, loopsIn, List.append_nil, List.nil_append, List.cons_append, List.getD, List.getElem?_cons_zero, List.getElem?_cons_succ] at hl
    subst hl
    obtain ⟨qq, rfl, hqq⟩ := loop_end hx a.length (fun i s => ∃ g, s = ⟨[(0, .d (ints a)), (1, .d (.pin (icells b))), (2, .d (.int .i64 x)), (3, .d (.int .i64 y)), (4, .d (.int .i64 M)), (11, .own 240 4), (12, .d (.int .i64 i))], [(240, some (4, .row (icells (cmbP M x a y b i))))], g⟩)
      (fun qq => ∃ s, qq = (.exit 0, s) ∧ lookL s.env 11 = some (.own 240 4) ∧ obsL s.obs 240 = some (4, .row (icells (cmbP M x a y b a.length))))
      (by show a.length < m; omega) (by simp -implicitDefEqProofs (maxSteps := 3000000))
      (by
        rintro i s hi ⟨g, rfl⟩
        have w2 := wrap_id (n := (i : Int) + 1) (by omega)
        have hib : i < b.length := by omega
        obtain ⟨t, t1, t2⟩ := step i hi
        have cs := cmbP_set (m := M) (x := x) (a := a) (y := y) (b := b) hi
        rw [← cs]
        simp -implicitDefEqProofs (maxSteps := 3000000) [hi, hib, w2, t1, t2])
      (by
        rintro s ⟨g, rfl⟩
        simp -implicitDefEqProofs (maxSteps := 3000000))
    obtain ⟨s, rfl, hf⟩ := hqq
    simp -implicitDefEqProofs (maxSteps := 3000000) [hf, cmbP_all]
  · skip
    generalize hl : lp Tryz.f170 0 = L at hx
    simp only [lp, bodyOf, Tryz.f170, Option.getD_some, loopsIn, List.append_nil, List.nil_append, List.cons_append, List.getD, List.getElem?_cons_zero, List.getElem?_cons_succ] at hl
    subst hl
    obtain ⟨qq, rfl, hqq⟩ := loop_end hx a.length (fun i s => ∃ g, s = ⟨[(0, .d (.pin (icells a))), (1, .d (ints b)), (2, .d (.int .i64 x)), (3, .d (.int .i64 y)), (4, .d (.int .i64 M)), (11, .own 240 4), (12, .d (.int .i64 i))], [(240, some (4, .row (icells (cmbP M x a y b i))))], g⟩)
      (fun qq => ∃ s, qq = (.exit 0, s) ∧ lookL s.env 11 = some (.own 240 4) ∧ obsL s.obs 240 = some (4, .row (icells (cmbP M x a y b a.length))))
      (by show a.length < m; omega) (by simp -implicitDefEqProofs (maxSteps := 3000000))
      (by
        rintro i s hi ⟨g, rfl⟩
        have w2 := wrap_id (n := (i : Int) + 1) (by omega)
        have hib : i < b.length := by omega
        obtain ⟨t, t1, t2⟩ := step i hi
        have cs := cmbP_set (m := M) (x := x) (a := a) (y := y) (b := b) hi
        rw [← cs]
        simp -implicitDefEqProofs (maxSteps := 3000000) [hi, hib, w2, t1, t2])
      (by
        rintro s ⟨g, rfl⟩
        simp -implicitDefEqProofs (maxSteps := 3000000))
    obtain ⟨s, rfl, hf⟩ := hqq
    simp -implicitDefEqProofs (maxSteps := 3000000) [hf, cmbP_all]
  · skip
    generalize hl : lp Tryz.f170 0 = L at hx
    simp only [lp, bodyOf, Tryz.f170, Option.getD_some, loopsIn, List.append_nil, List.nil_append, List.cons_append, List.getD, List.getElem?_cons_zero, List.getElem?_cons_succ] at hl
    subst hl
    obtain ⟨qq, rfl, hqq⟩ := loop_end hx a.length (fun i s => ∃ g, s = ⟨[(0, .d (.pin (icells a))), (1, .d (.pin (icells b))), (2, .d (.int .i64 x)), (3, .d (.int .i64 y)), (4, .d (.int .i64 M)), (11, .own 240 4), (12, .d (.int .i64 i))], [(240, some (4, .row (icells (cmbP M x a y b i))))], g⟩)
      (fun qq => ∃ s, qq = (.exit 0, s) ∧ lookL s.env 11 = some (.own 240 4) ∧ obsL s.obs 240 = some (4, .row (icells (cmbP M x a y b a.length))))
      (by show a.length < m; omega) (by simp -implicitDefEqProofs (maxSteps := 3000000))
      (by
        rintro i s hi ⟨g, rfl⟩
        have w2 := wrap_id (n := (i : Int) + 1) (by omega)
        have hib : i < b.length := by omega
        obtain ⟨t, t1, t2⟩ := step i hi
        have cs := cmbP_set (m := M) (x := x) (a := a) (y := y) (b := b) hi
        rw [← cs]
        simp -implicitDefEqProofs (maxSteps := 3000000) [hi, hib, w2, t1, t2])
      (by
        rintro s ⟨g, rfl⟩
        simp -implicitDefEqProofs (maxSteps := 3000000))
    obtain ⟨s, rfl, hf⟩ := hqq
    simp -implicitDefEqProofs (maxSteps := 3000000) [hf, cmbP_all]
/-- The steps of the reference's division with rests. -/
structure Bz where
  a : Int
  b : Int
  s : Int
  t : Int
  u : Int
  v : Int
  deriving DecidableEq
def bzS (z : Bz) : Bz := ⟨z.b, z.a - z.a.tdiv z.b * z.b, z.u, z.v, z.s - z.a.tdiv z.b * z.u, z.t - z.a.tdiv z.b * z.v⟩
def bzI (A C : Int) : Nat → Bz
  | 0 => ⟨A, C, 1, 0, 0, 1⟩
  | n + 1 => bzS (bzI A C n)
def sm (x : Int) : Bool := decide (-200 ≤ x) && decide (x ≤ 200)
def bzOk (z : Bz) : Bool := sm z.a && sm z.b && sm z.s && sm z.t && sm z.u && sm z.v && sm (z.a.tdiv z.b) && sm (z.a.tdiv z.b * z.b) && sm (z.a.tdiv z.b * z.u) && sm (z.a.tdiv z.b * z.v)
def bzRun (A C : Int) : Nat → Nat → Bool
  | _, 0 => false
  | i, f + 1 => if (bzI A C i).b = 0 then decide ((bzI A C i).a = gcdI A C) && decide ((bzI A C i).s * A + (bzI A C i).t * C = gcdI A C) && sm (bzI A C i).s && sm (bzI A C i).t else bzOk (bzI A C i) && bzRun A C (i + 1) f
theorem bzAll : ∀ A : Fin 13, ∀ C : Fin 13, bzRun (A.val : Int) (C.val : Int) 0 9 = true := by decide
theorem bzRun_ex {A C : Int} : ∀ (f i : Nat), bzRun A C i f = true → ∃ N, i ≤ N ∧ N < i + f ∧ (∀ j, i ≤ j → j < N → (bzI A C j).b ≠ 0 ∧ bzOk (bzI A C j) = true) ∧ (bzI A C N).b = 0 ∧ (bzI A C N).a = gcdI A C ∧ (bzI A C N).s * A + (bzI A C N).t * C = gcdI A C ∧ sm (bzI A C N).s = true ∧ sm (bzI A C N).t = true
  | 0, i, h => by simp -implicitDefEqProofs (maxSteps := 3000000) [bzRun] at h
  | f + 1, i, h => by
    unfold bzRun at h
    by_cases e : (bzI A C i).b = 0
    · rw [if_pos e] at h
      simp only [Bool.and_eq_true, decide_eq_true_eq] at h
      exact ⟨i, Nat.le_refl _, by omega, fun j h1 h2 => by omega, e, h.1.1.1, h.1.1.2, h.1.2, h.2⟩
    · rw [if_neg e, Bool.and_eq_true] at h
      obtain ⟨N, h1, h2, h3, h4⟩ := bzRun_ex f (i + 1) h.2
      refine ⟨N, by omega, by omega, fun j h5 h6 => ?_, h4⟩
      rcases Nat.lt_or_ge i j with z | z
      · exact h3 j z h6
      · obtain rfl : j = i := by omega
        exact ⟨e, h.1⟩
theorem sm_wrap {x : Int} (h : sm x = true) : IntKind.wrap .i64 x = x := by
  simp only [sm, Bool.and_eq_true, decide_eq_true_eq] at h
  exact wrap_id (by omega)
theorem sm_sub {x y : Int} (h : sm x = true) (h2 : sm y = true) : IntKind.wrap .i64 (x - y) = x - y := by
  simp only [sm, Bool.and_eq_true, decide_eq_true_eq] at h h2
  exact wrap_id (by omega)
theorem sm_le {x : Int} (h : sm x = true) : -200 ≤ x ∧ x ≤ 200 := by
  simpa [sm, Bool.and_eq_true, decide_eq_true_eq] using h
theorem ct_l04Bezout (n : Nat) (hn : B + 1 ≤ n) (A C : Int) (hA : 0 ≤ A ∧ A ≤ 12) (hC : 0 ≤ C ∧ C ≤ 12) :
    ∃ s t : Int, (-200 ≤ s ∧ s ≤ 200) ∧ (-200 ≤ t ∧ t ≤ 200) ∧ s * A + t * C = gcdI A C ∧
      evalCall Tryz.prog An n 217 [.d (.int .i64 A), .d (.int .i64 C)] [] = some ⟨.tuple [.d (.int .i64 (gcdI A C)), .d (.int .i64 s), .d (.int .i64 t)], [], []⟩ := by
  obtain ⟨m, rfl⟩ : ∃ m, n = m + 1 := ⟨n - 1, by omega⟩
  have hB := B_eq
  simp only [evalCall_at, fb217, bnd_some, bodyOf, Tryz.f217, Option.getD_some]
  generalize hb0 : Code.loop _ = cc0
  obtain rfl : cc0 = .loop (lp Tryz.f217 0) := by rw [← hb0]; rfl
  clear hb0
  have h0 := bzAll ⟨A.toNat, by omega⟩ ⟨C.toNat, by omega⟩
  simp only [Int.toNat_of_nonneg hA.1, Int.toNat_of_nonneg hC.1] at h0
  obtain ⟨N, h1, h2, h3, h4, h5, h6, h7, h8⟩ := bzRun_ex 9 0 h0
  refine ⟨(bzI A C N).s, (bzI A C N).t, sm_le h7, sm_le h8, h6, ?_⟩
  simp -implicitDefEqProofs (maxSteps := 3000000)
  generalize hx : loopC _ _ _ = z
  generalize hl : lp Tryz.f217 0 = L at hx
  simp only [lp, bodyOf, Tryz.f217, Option.getD_some, loopsIn, List.append_nil, List.nil_append, List.cons_append, List.getD, List.getElem?_cons_zero, List.getElem?_cons_succ] at hl
  subst hl
  obtain ⟨qq, rfl, hqq⟩ := loop_end hx N (fun i s => ∃ g, s = ⟨[(0, .d (.int .i64 (bzI A C i).a)), (1, .d (.int .i64 (bzI A C i).b)), (7, .d (.int .i64 (bzI A C i).s)), (8, .d (.int .i64 (bzI A C i).t)), (9, .d (.int .i64 (bzI A C i).u)), (10, .d (.int .i64 (bzI A C i).v))], [], g⟩)
    (fun qq => ∃ s, qq = (.exit 0, s) ∧ lookL s.env 0 = some (.d (.int .i64 (bzI A C N).a)) ∧ lookL s.env 7 = some (.d (.int .i64 (bzI A C N).s)) ∧ lookL s.env 8 = some (.d (.int .i64 (bzI A C N).t)))
    (by show N < m; omega) (by simp -implicitDefEqProofs (maxSteps := 3000000) [bzI])
    (by
      rintro i s hi ⟨g, rfl⟩
      obtain ⟨k1, k2⟩ := h3 i (by omega) hi
      have e : bzI A C (i + 1) = bzS (bzI A C i) := rfl
      rw [e]
      generalize bzI A C i = z at *
      simp only [bzOk, Bool.and_eq_true] at k2
      obtain ⟨⟨⟨⟨⟨⟨⟨⟨⟨o1, o2⟩, o3⟩, o4⟩, o5⟩, o6⟩, o7⟩, o8⟩, o9⟩, o10⟩ := k2
      have u1 := sm_wrap o7
      have u2 := sm_wrap o8
      have u3 := sm_wrap o9
      have u4 := sm_wrap o10
      have u5 := sm_sub o1 o8
      have u6 := sm_sub o3 o9
      have u7 := sm_sub o4 o10
      have k1b : (z.b != 0) = true := by simpa using k1
      simp -implicitDefEqProofs (maxSteps := 3000000) [k1, k1b, u1, u2, u3, u4, u5, u6, u7, bzS])
    (by
      rintro s ⟨g, rfl⟩
      simp -implicitDefEqProofs (maxSteps := 3000000) [h4])
  obtain ⟨s, rfl, hf⟩ := hqq
  simp -implicitDefEqProofs (maxSteps := 3000000) [hf, h5]
/-- The first unit that makes a number a divisor. -/
def unB (m r u : Nat) : Bool := decide (Nat.gcd u m = 1) && decide (r * u % m = Nat.gcd r m % m)
def unEx (m r : Nat) : Nat → Nat → Bool
  | _, 0 => false
  | u, f + 1 => unB m r u || unEx m r (u + 1) f
theorem unAll : ∀ m : Fin 13, ∀ r : Fin 13, 2 ≤ m.val → 0 < r.val → r.val < m.val → unEx m.val r.val 1 13 = true := by decide
theorem unEx_ex {m r : Nat} : ∀ (f u : Nat), unEx m r u f = true → ∃ N, u ≤ N ∧ N < u + f ∧ (∀ j, u ≤ j → j < N → unB m r j = false) ∧ unB m r N = true
  | 0, u, h => by simp -implicitDefEqProofs (maxSteps := 3000000) [unEx] at h
  | f + 1, u, h => by
    unfold unEx at h
    cases e : unB m r u
    · rw [e, Bool.false_or] at h
      obtain ⟨N, h1, h2, h3, h4⟩ := unEx_ex f (u + 1) h
      refine ⟨N, by omega, by omega, fun j h5 h6 => ?_, h4⟩
      rcases Nat.lt_or_ge u j with z | z
      · exact h3 j z h6
      · obtain rfl : j = u := by omega
        exact e
    · exact ⟨u, Nat.le_refl _, by omega, fun j h1 h2 => by omega, e⟩
theorem gcdI_nat (a b : Nat) : gcdI (a : Int) (b : Int) = (Nat.gcd a b : Nat) := by simp -implicitDefEqProofs (maxSteps := 3000000) [gcdI]
theorem ct_l04Unit (n : Nat) (hn : B + 3 + 6 ≤ n) (M : Int) (hM : 2 ≤ M ∧ M ≤ 12) (N : Nat) (hN : N ≤ 10000000) (w : List Int) (hw : Vec M N w) (j : Nat) (hj : j < N) (h0 : rn w j ≠ 0) :
    ∃ u u' : Int, M ∣ u * u' - 1 ∧ M ∣ u * rn w j - gcdI (rn w j) M ∧
      evalCall Tryz.prog An n 216 [.d (ints w), .d (.int .i64 j), .d (.int .i64 M)] [] = some ⟨.own 0 0, [.row (icells (cmb M u w 0 w))], []⟩ := by
  obtain ⟨m, rfl⟩ : ∃ m, n = m + 1 := ⟨n - 1, by omega⟩
  have hB := B_eq
  simp only [evalCall_at, fb216, bnd_some, bodyOf, Tryz.f216, Option.getD_some]
  generalize hb0 : Code.loop _ = cc0
  obtain rfl : cc0 = .loop (lp Tryz.f216 0) := by rw [← hb0]; rfl
  clear hb0
  have hwj := hw.2 j
  obtain ⟨K, rfl⟩ := Int.eq_ofNat_of_zero_le (show 0 ≤ M by omega)
  obtain ⟨r, hr⟩ := Int.eq_ofNat_of_zero_le hwj.1
  have hrK : r < K := by omega
  have h1 := unAll ⟨K, by omega⟩ ⟨r, by omega⟩ (by show 2 ≤ K; omega) (by show 0 < r; omega) hrK
  obtain ⟨U, u1, u2, u3, u4⟩ := unEx_ex 13 1 h1
  have u5 := u4
  simp only [unB, Bool.and_eq_true, decide_eq_true_eq] at u5
  have hwl := hw.1
  have hwb := vec_bd (M := (K : Int)) (by omega) hw
  have hjw : j < w.length := by omega
  obtain ⟨x0, y0, hb⟩ := bez (a := (U : Int)) (b := (K : Int)) (by omega) (by omega)
  rw [gcdI_nat, u5.1] at hb
  have cg := ct_l01Gcd m (by omega) (rn w j) K (by omega) (by omega)
  have hgr : gcdI (rn w j) K = ((Nat.gcd r K : Nat) : Int) := by rw [hr]; exact gcdI_nat r K
  refine ⟨U, x0, ⟨-y0, by have := hb; simp -implicitDefEqProofs (maxSteps := 3000000) at this; rw [Int.mul_neg]; omega⟩, ?_, ?_⟩
  · rw [hgr, hr]
    have e1 := u5.2
    have e2 : (r * U) % K = Nat.gcd r K % K := e1
    have e3 : ((r : Int) * U) % K = ((Nat.gcd r K : Nat) : Int) % K := by exact_mod_cast e2
    rw [Int.mul_comm]
    exact Int.dvd_of_emod_eq_zero (Int.emod_eq_emod_iff_emod_sub_eq_zero.1 e3)
  · have cm := ct_l04Mix m (by omega) K (by omega) U 0 (by omega) (by omega) false false w w (by omega) (by omega) hwb hwb
    simp only [srow_f] at cm
    generalize hD : gcdI (rn w j) (K : Int) = D at *
    have hD0 : 0 ≤ D := by rw [hgr]; omega
    have hK0 : ¬ K = 0 := by omega
    have hD1 : D.tmod (K : Int) = ((Nat.gcd r K % K : Nat) : Int) := by rw [hgr, Int.tmod_eq_emod_of_nonneg (by omega)]; simp -implicitDefEqProofs (maxSteps := 3000000)
    have hrb : 0 ≤ rn w j ∧ rn w j ≤ 12 := by omega
    have key : ∀ u : Nat, u < 14 → IntKind.wrap .i64 (rn w j * (u : Int)) = rn w j * (u : Int) ∧ (rn w j * (u : Int)).tmod (K : Int) = ((r * u % K : Nat) : Int) := by
      intro u hu
      have e0 : rn w j * (u : Int) = ((r * u : Nat) : Int) := by rw [hr]; simp -implicitDefEqProofs (maxSteps := 3000000)
      have e1 : r * u ≤ 12 * 14 := Nat.mul_le_mul (by omega) (by omega)
      refine ⟨wrap_id (by omega), ?_⟩
      rw [e0, Int.tmod_eq_emod_of_nonneg (by omega)]; simp -implicitDefEqProofs (maxSteps := 3000000)
    simp -implicitDefEqProofs (maxSteps := 3000000) [hjw, cg]
    generalize hx : loopC _ _ _ = z
    generalize hl : lp Tryz.f216 0 = L at hx
    simp only [lp, bodyOf, Tryz.f216, Option.getD_some, loopsIn, List.append_nil, List.nil_append, List.cons_append, List.getD, List.getElem?_cons_zero, List.getElem?_cons_succ] at hl
    subst hl
    obtain ⟨qq, rfl, hqq⟩ := loop_end hx (U - 1) (fun i s => ∃ g, s = ⟨[(0, .d (ints w)), (1, .d (.int .i64 j)), (2, .d (.int .i64 K)), (7, .d (.int .i64 D)), (8, .d (.int .i64 ((i : Int) + 1)))], [], g⟩)
      (fun qq => ∃ s v, qq = (.ret, s) ∧ lookL s.env 6 = some (.own 624 v) ∧ obsL s.obs 624 = some (v, .row (icells (cmb K U w 0 w))))
      (by show U - 1 < m; omega) (by simp -implicitDefEqProofs (maxSteps := 3000000))
      (by
        rintro i s hi ⟨g, rfl⟩
        have hf := u3 (i + 1) (by omega) (by omega)
        obtain ⟨w1, w2⟩ := key (i + 1) (by omega)
        rw [show ((i + 1 : Nat) : Int) = (i : Int) + 1 by simp] at w1 w2
        have w3 := wrap_id (n := (i : Int) + 1 + 1) (by omega)
        have cg2 := ct_l01Gcd m (by omega) ((i : Int) + 1) K (by omega) (by omega)
        have hg2 : gcdI ((i : Int) + 1) K = ((Nat.gcd (i + 1) K : Nat) : Int) := by
          rw [show (i : Int) + 1 = ((i + 1 : Nat) : Int) by simp]; exact gcdI_nat _ _
        generalize gcdI ((i : Int) + 1) K = G at *
        by_cases g1 : Nat.gcd (i + 1) K = 1
        · have e1 : G = 1 := by rw [hg2, g1]; rfl
          have g2 : ¬ r * (i + 1) % K = Nat.gcd r K % K := by intro e; simp -implicitDefEqProofs (maxSteps := 3000000) [unB, g1, e] at hf
          have e2 : ((rn w j * ((i : Int) + 1)).tmod K == D.tmod K) = false := by
            rw [w2, hD1]
            simp only [beq_eq_false_iff_ne, ne_eq]
            intro e; exact g2 (by exact_mod_cast e)
          simp -implicitDefEqProofs (maxSteps := 3000000) [cg2, e1, w1, e2, hjw, hK0, w3]
        · have e1 : (G == 1) = false := by
            rw [hg2]; simp only [beq_eq_false_iff_ne, ne_eq]; intro e; exact g1 (by exact_mod_cast e)
          simp -implicitDefEqProofs (maxSteps := 3000000) [cg2, e1, w3])
      (by
        rintro s ⟨g, rfl⟩
        obtain ⟨w1, w2⟩ := key U (by omega)
        have hU1 : ((U - 1 : Nat) : Int) + 1 = (U : Int) := by omega
        have cg2 := ct_l01Gcd m (by omega) (U : Int) K (by omega) (by omega)
        rw [gcdI_nat, u5.1] at cg2
        have e2 : ((rn w j * (U : Int)).tmod K == D.tmod K) = true := by
          rw [w2, hD1, u5.2]; simp -implicitDefEqProofs (maxSteps := 3000000)
        rw [hU1]
        simp -implicitDefEqProofs (maxSteps := 3000000) [cg2, w1, e2, hjw, hK0, cm])
    obtain ⟨s, v, rfl, hf⟩ := hqq
    simp -implicitDefEqProofs (maxSteps := 3000000) [hf]
end Go.Proofs.YtnfhglplafmfiaaGreatE
