/- Contracts of functions of the program and of the reference: what the evaluator gives for a call of each. -/
import Derived.Test.YtnfhglplafmfiaaGreatAEf
import Derived.Test.YtnfhglplafmfiaaGreatK1M
import Derived.Test.YtnfhglplafmfiaaGreatK3M
import Derived.Test.YtnfhglplafmfiaaGreatK4
import Derived.Test.YtnfhglplafmfiaaGreatK8M
import Derived.Test.YtnfhglplafmfiaaGreatK15
import Derived.Test.YtnfhglplafmfiaaGreatK16
namespace Go.Proofs.YtnfhglplafmfiaaGreatE
open Go Go.Proofs
set_option maxHeartbeats 4000000
set_option maxRecDepth 2000
set_option linter.unusedSimpArgs false
set_option linter.unusedVariables false
set_option pp.deepTerms false
set_option pp.deepTerms.threshold 10
theorem pow_cast {N : Nat} (hN : 1 ≤ N) (d : Nat) : ((N : Int) - 1) ^ d = (((N - 1) ^ d : Nat) : Int) := by
  have : (N : Int) - 1 = ((N - 1 : Nat) : Int) := by omega
  rw [this, Int.natCast_pow]
theorem pow_bd {N : Nat} (hN : 1 ≤ N ∧ N ≤ 8) {d : Nat} (hd : d ≤ 4) : (N - 1) ^ d ≤ 2401 := by
  have := (cells_bd4 hN d hd).2
  rw [pow_cast hN.1] at this
  omega
theorem ct_listOf (n : Nat) (hn : B + 2 ≤ n) (T : List (List Int)) (hT : 1 ≤ T.length ∧ T.length ≤ 8) (d i : Nat) (hD : d ≤ 4) (h : i < (T.length - 1) ^ d) (hi4 : i < 1000000) :
    evalCall Tryz.prog An n 211 [.agg [.d (intss T)], .d (.int .i64 d), .d (.int .i64 i)] [] = some ⟨.own 0 0, [.row (icells (digs (T.length - 1) d i))], []⟩ := by
  obtain ⟨m, rfl⟩ : ∃ m, n = m + 1 := ⟨n - 1, by omega⟩
  have hB := B_eq
  simp only [evalCall_at, fb211, bnd_some, bodyOf, Tryz.f211, Option.getD_some]
  generalize hb0 : Code.loop _ = cc0
  obtain rfl : cc0 = .loop (lp Tryz.f211 0) := by rw [← hb0]; rfl
  clear hb0
  have c1 := ct_order m (by omega) T
  have eb : (T.length : Int) - 1 = ((T.length - 1 : Nat) : Int) := by omega
  have w := wrap_id (n := (T.length : Int) - 1) (by omega)
  have w0 := wrap_id (n := (d : Int) - 1) (by omega)
  have hd2 : (d : Int) ≤ 1099511627776 := by omega
  simp -implicitDefEqProofs (maxSteps := 3000000) [c1, w, w0, hd2, rowJ_zero (T.length - 1) d i]
  generalize hx : loopC _ _ _ = x
  generalize hl : lp Tryz.f211 0 = L at hx
  simp only [lp, bodyOf, Tryz.f211, Option.getD_some, loopsIn, List.append_nil, List.nil_append, List.cons_append, List.getD, List.getElem?_cons_zero, List.getElem?_cons_succ] at hl
  subst hl
  obtain ⟨p, rfl, hp⟩ := loop_end hx d (fun j s => ∃ g v, s = ⟨[(2, .d (.int .i64 ((i / (T.length - 1) ^ j : Nat) : Int))), (7, .own 176 v), (8, .d (.int .i64 ((T.length : Int) - 1))), (9, .d (.int .i64 ((d : Int) - 1 - j)))], [(176, some (v, .row (icells (rowJ (T.length - 1) d i j))))], g⟩)
    (fun p => ∃ s v, p = (.exit 0, s) ∧ lookL s.env 7 = some (.own 176 v) ∧ obsL s.obs 176 = some (v, .row (icells (digs (T.length - 1) d i))))
    (by show d < m; omega) (by simp -implicitDefEqProofs (maxSteps := 3000000))
    (by
      rintro j s hj ⟨g, v, rfl⟩
      have hb : 0 < T.length - 1 := by
        rcases Nat.eq_zero_or_pos (T.length - 1) with z | z
        · rw [z, Nat.zero_pow (by omega)] at h; omega
        · exact z
      have hz : (T.length : Int) - 1 ≠ 0 := by omega
      have q1 : i / (T.length - 1) ^ j ≤ i := Nat.div_le_self _ _
      have q2 : i / (T.length - 1) ^ (j + 1) ≤ i := Nat.div_le_self _ _
      have ml := Nat.mod_lt (i / (T.length - 1) ^ j) hb
      have tm : ((i / (T.length - 1) ^ j : Nat) : Int).tmod ((T.length : Int) - 1) = ((i / (T.length - 1) ^ j % (T.length - 1) : Nat) : Int) := by
        rw [eb, tmod_nn _ (Int.natCast_nonneg _)]; rfl
      have td : ((i / (T.length - 1) ^ j : Nat) : Int).tdiv ((T.length : Int) - 1) = ((i / (T.length - 1) ^ (j + 1) : Nat) : Int) := by
        rw [eb, Int.tdiv_eq_ediv_of_nonneg (Int.natCast_nonneg _), ← div_pow_succ]; rfl
      have hs := rowJ_set (T.length - 1) d i j hj
      generalize i / (T.length - 1) ^ j % (T.length - 1) = Z at *
      generalize i / (T.length - 1) ^ j = X at *
      generalize i / (T.length - 1) ^ (j + 1) = Y at *
      have w3 := wrap_id (n := 1 + (Z : Int)) (by omega)
      have w4 := wrap_id (n := (Y : Int)) (by omega)
      have w5 := wrap_id (n := (d : Int) - 1 - ((j : Int) + 1)) (by omega)
      have e5 : (d : Int) - 1 - (j : Int) - 1 = (d : Int) - 1 - ((j : Int) + 1) := by omega
      have h0 : (j : Int) ≤ (d : Int) - 1 := by omega
      have et : ((d : Int) - 1 - (j : Int)).toNat = d - 1 - j := by omega
      have h6 : 1 + (Z : Int) = ((1 + Z : Nat) : Int) := by omega
      have h7 : d - 1 - j < d := by omega
      have h8 : (d : Int) - 1 - (j : Int) < d := by omega
      rw [h6] at w3
      generalize ((1 + Z : Nat) : Int) = Z1 at *
      simp -implicitDefEqProofs (maxSteps := 3000000) [h0, hz, tm, td, w3, w4, w5, e5, et, h6, h7, h8, hs])
    (by
      rintro s ⟨g, v, rfl⟩
      have h0 : ¬ ((d : Int) ≤ (d : Int) - 1) := by omega
      simp -implicitDefEqProofs (maxSteps := 3000000) [h0, rowJ_all])
  obtain ⟨s, v, rfl, hf⟩ := hp
  simp -implicitDefEqProofs (maxSteps := 3000000) [hf]
theorem ct_zero (n : Nat) (hn : B + 3 ≤ n) (T : List (List Int)) (hT : 1 ≤ T.length ∧ T.length ≤ 8) (d : Nat) (hD : d ≤ 4) :
    evalCall Tryz.prog An n 182 [.agg [.d (intss T)], .d (.int .i64 d)] [] = some ⟨.agg [.d (.int .i64 d), .own 0 0], [.row (icells (List.replicate ((T.length - 1) ^ d) 0))], []⟩ := by
  obtain ⟨m, rfl⟩ : ∃ m, n = m + 1 := ⟨n - 1, by omega⟩
  have hB := B_eq
  simp only [evalCall_at, fb182, bnd_some, bodyOf, Tryz.f182, Option.getD_some]
  have c1 := ct_cells4 m (by omega) T hT d hD
  rw [pow_cast hT.1] at c1
  have b := pow_bd hT hD
  generalize (T.length - 1) ^ d = K at *
  have k1 : (K : Int) ≤ 1099511627776 := by omega
  simp -implicitDefEqProofs (maxSteps := 3000000) [c1, k1]
/-! ## tables that are filled -/
def fillR (G : Nat → Int) (i n : Nat) : List Int := tabI G i ++ List.replicate (n - i) 0
@[simp] theorem fillR_len (G : Nat → Int) {i n : Nat} (h : i ≤ n) : (fillR G i n).length = n := by simp -implicitDefEqProofs (maxSteps := 3000000) [fillR]; omega
theorem fillR_zero (G : Nat → Int) (n : Nat) : fillR G 0 n = List.replicate n 0 := by simp -implicitDefEqProofs (maxSteps := 3000000) [fillR]
theorem fillR_all (G : Nat → Int) (n : Nat) : fillR G n n = tabI G n := by simp -implicitDefEqProofs (maxSteps := 3000000) [fillR]
theorem fillR_set (G : Nat → Int) {i n : Nat} (h : i < n) : (fillR G i n).set i (G i) = fillR G (i + 1) n := by
  unfold fillR
  rw [List.set_append_right _ _ (by simp -implicitDefEqProofs (maxSteps := 3000000)), tabI_len, Nat.sub_self, show n - i = (n - (i + 1)) + 1 by omega, List.replicate_succ, List.set_cons_zero, ← tabI_succ, List.append_assoc]
  rfl
theorem ct_toldG (n : Nat) (hn : B + 4 ≤ n) (T : List (List Int)) (hT : 1 ≤ T.length ∧ T.length ≤ 8) (k : Int) (hk : 0 < k ∧ k < 1000000000000) (d : Nat) (hD : d ≤ 4) (c : Nat) (b : List YtnfhglplafmfiaaGreatE.D) (F : List Int → Int) (L : Nat) (hL : L + 1 ≤ n)
    (hF : ∀ m, L ≤ m → ∀ i < (T.length - 1) ^ d, evalCall Tryz.prog An m c (.d (ints (digs (T.length - 1) d i)) :: b.map ofD) [] = some ⟨.d (.int .i64 (F (digs (T.length - 1) d i))), [], []⟩)
    (hb : ∀ i < (T.length - 1) ^ d, -1000000000000 < F (digs (T.length - 1) d i) ∧ F (digs (T.length - 1) d i) < 1000000000000) (hc : c ∉ An.lend) :
    evalCall Tryz.prog An n 136 [.agg [.d (intss T)], .d (.int .i64 k), .d (.int .i64 d), .d (.clo c [] b)] [] = some ⟨.agg [.d (.int .i64 d), .own 0 0], [.row (icells (tabI (fun i => F (digs (T.length - 1) d i) % k) ((T.length - 1) ^ d)))], []⟩ := by
  obtain ⟨m, rfl⟩ : ∃ m, n = m + 1 := ⟨n - 1, by omega⟩
  have hB := B_eq
  simp only [evalCall_at, fb136, bnd_some, bodyOf, Tryz.f136, Option.getD_some]
  generalize hb0 : Code.loop _ = cc0
  obtain rfl : cc0 = .loop (lp Tryz.f136 0) := by rw [← hb0]; rfl
  clear hb0
  simp -implicitDefEqProofs (maxSteps := 3000000) at hc
  have c1 := ct_zero m (by omega) T hT d hD
  have pb := pow_bd hT hD
  have hz : k ≠ 0 := by omega
  have cl : ∀ i < (T.length - 1) ^ d, _ := fun i hi => ct_listOf m (by omega) T hT d i hD hi (by omega)
  generalize hK : (T.length - 1) ^ d = K at *
  rw [← fillR_zero (fun i => F (digs (T.length - 1) d i) % k)] at c1
  simp -implicitDefEqProofs (maxSteps := 3000000) [c1]
  generalize hx : loopC _ _ _ = x
  generalize hl : lp Tryz.f136 0 = L at hx
  simp only [lp, bodyOf, Tryz.f136, Option.getD_some, loopsIn, List.append_nil, List.nil_append, List.cons_append, List.getD, List.getElem?_cons_zero, List.getElem?_cons_succ] at hl
  subst hl
  obtain ⟨qq, rfl, hqq⟩ := loop_end hx (K) (fun i s => ∃ g, s = ⟨[(1, .d (.int .i64 k)), (2, .d (.int .i64 d)), (3, .d (.clo c [] b)), (4, .ptr 64 1 0), (8, .ptr 128 2 0), (9, .ptr 144 6 0), (16, .d (.int .i64 K)), (17, .d (.int .i64 i))], [(64, some (1, .box [.d (intss T)])), (128, some (2, .box [.d (.int .i64 0), .d .nil])), (144, some (6, .box [.d (.int .i64 d), .own 208 5])), (208, some (5, .row (icells (fillR (fun j => F (digs (T.length - 1) d j) % k) i K))))], g⟩)
    (fun qq => ∃ s, qq = (.exit 0, s) ∧ lookL s.env 1 = some (.d (.int .i64 k)) ∧ lookL s.env 2 = some (.d (.int .i64 d)) ∧ lookL s.env 3 = some (.d (.clo c [] b)) ∧ lookL s.env 4 = some (.ptr 64 1 0) ∧ lookL s.env 8 = some (.ptr 128 2 0) ∧ lookL s.env 9 = some (.ptr 144 6 0) ∧ lookL s.env 16 = some (.d (.int .i64 K)) ∧ lookL s.env 17 = some (.d (.int .i64 (K))) ∧ obsL s.obs 64 = some (1, .box [.d (intss T)]) ∧ obsL s.obs 128 = some (2, .box [.d (.int .i64 0), .d .nil]) ∧ obsL s.obs 144 = some (6, .box [.d (.int .i64 d), .own 208 5]) ∧ obsL s.obs 208 = some (5, .row (icells (fillR (fun j => F (digs (T.length - 1) d j) % k) (K) K))))
    (by show K < m; omega) (by
      simp -implicitDefEqProofs (maxSteps := 3000000))
    (by
      rintro i s hi ⟨g, rfl⟩
      have w2 := wrap_id (n := (i : Int) + 1) (by omega)
      have c2 := cl i hi
      have c3 := hF m (by omega) i hi
      have b3 := hb i hi
      have hs := fillR_set (fun j => F (digs (T.length - 1) d j) % k) hi
      have hlen : i < (fillR (fun j => F (digs (T.length - 1) d j) % k) i K).length := by rw [fillR_len _ (by omega)]; exact hi
      have hlen2 : (fillR (fun j => F (digs (T.length - 1) d j) % k) i K).length = K := fillR_len _ (by omega)
      generalize F (digs (T.length - 1) d i) = X at *
      have h1 := Int.lt_tmod_of_pos X hk.1
      have h2 := Int.tmod_lt_of_pos X hk.1
      have w3 := wrap_id (n := X.tmod k + k) (by omega)
      have g1 := gomod (x := X) hk.1
      simp -implicitDefEqProofs (maxSteps := 3000000) [hi, w2, w3, c2, c3, hz, g1, hs, hc, hlen, hlen2])
    (by
      rintro s ⟨g, rfl⟩
      simp -implicitDefEqProofs (maxSteps := 3000000))
  obtain ⟨s, rfl, hf⟩ := hqq
  simp -implicitDefEqProofs (maxSteps := 3000000) [hf, fillR_all]
/-! ## boundaries -/
structure CoOk (T : List (List Int)) (U V : List Int) (p : Nat) : Prop where
  R : RowsOk T
  e0 : ∀ a < T.length, cl T 0 a = a
  hU : U.length = T.length
  bU : ∀ i < U.length, 0 ≤ rn U i ∧ rn U i ≤ 11
  hV : (V.length : Int) = ((T.length : Int) - 1) ^ p
  bV : ∀ i < V.length, 0 ≤ rn V i ∧ rn V i ≤ 11
  hp : p ≤ 3
theorem CoOk.side {T : List (List Int)} {U V : List Int} {p : Nat} (S : CoOk T U V p) {i : Nat} (hi : i < (T.length - 1) ^ (p + 1)) : SideOk T U V (digs (T.length - 1) (p + 1) i) p :=
  ⟨S.R, S.e0, S.hU, S.bU, S.hV, S.bV, by simp, S.hp, digs_inG S.R.1.1 hi⟩
noncomputable def bnd1 (T : List (List Int)) (M : Int) (U V : List Int) (p i : Nat) : Int := sideV T U V (digs (T.length - 1) (p + 1) i) % M
noncomputable def bndL (T : List (List Int)) (M : Int) (U V : List Int) (p : Nat) : List Int := tabI (bnd1 T M U V p) ((T.length - 1) ^ (p + 1))
def IsCy (T : List (List Int)) (M : Int) (U V : List Int) (p : Nat) : Prop := ∀ i < (T.length - 1) ^ (p + 1), bnd1 T M U V p i = 0
theorem sideV_bd {T : List (List Int)} {U V l : List Int} {p : Nat} (S : SideOk T U V l p) : -200 < sideV T U V l ∧ sideV T U V l < 200 := by
  have h := sdA_bd (T := T) l S.bU S.bV (l.length - 1)
  have := sgn_mul (l.length - 1) (atv_bd (N := T.length) (l := l.take (l.length - 1)) (by omega) S.bV)
  have := S.hl
  have := S.hp
  unfold sideV
  omega
theorem ct_boundary1 (n : Nat) (hn : B + 5 ≤ n) (T : List (List Int)) (M : Int) (U : List Int) (D : Int) (V l : List Int) (p : Nat) (S : SideOk T U V l p) :
    evalCall Tryz.prog An n 172 [.d (ints l), .d (.cellp [intss T]), .d (.cellp [.int .i64 M, ints U]), .d (.cellp [.int .i64 D, ints V])] [] = some ⟨.d (.int .i64 (sideV T U V l)), [], []⟩ := by
  obtain ⟨m, rfl⟩ : ∃ m, n = m + 1 := ⟨n - 1, by omega⟩
  have hB := B_eq
  simp only [evalCall_at, fb172, bnd_some, bodyOf, Tryz.f172, Option.getD_some]
  have c := ct_boundaryAt m (by omega) T M U D V l p S
  simp -implicitDefEqProofs (maxSteps := 3000000) [c]
theorem ct_boundary (n : Nat) (hn : B + 6 + 4 ≤ n) (T : List (List Int)) (M : Int) (hM : 0 < M ∧ M ≤ 12) (U V : List Int) (p : Nat) (S : CoOk T U V p) :
    evalCall Tryz.prog An n 93 [.agg [.d (intss T)], .agg [.d (.int .i64 M), .d (ints U)], .agg [.d (.int .i64 p), .d (ints V)]] [] = some ⟨.agg [.d (.int .i64 ((p : Int) + 1)), .own 0 0], [.row (icells (bndL T M U V p))], []⟩ := by
  obtain ⟨m, rfl⟩ : ∃ m, n = m + 1 := ⟨n - 1, by omega⟩
  have hB := B_eq
  simp only [evalCall_at, fb93, bnd_some, bodyOf, Tryz.f93, Option.getD_some]
  have hT := S.R.1
  have hp := S.hp
  have w := wrap_id (n := (p : Int) + 1) (by omega)
  have c := ct_toldG m (by omega) T hT M (by omega) (p + 1) (by omega) 172 [.cellp [intss T], .cellp [.int .i64 M, ints U], .cellp [.int .i64 p, ints V]] (fun l => sideV T U V l) (B + 5) (by omega)
    (fun m hm i hi => by simpa using ct_boundary1 m (by omega) T M U p V _ p (S.side hi)) (fun i hi => by have := sideV_bd (S.side hi); omega) (by simp -implicitDefEqProofs (maxSteps := 3000000))
  have e : ((p + 1 : Nat) : Int) = (p : Int) + 1 := by omega
  rw [e] at c
  simp -implicitDefEqProofs (maxSteps := 3000000) [w, c, bndL]
  rfl
theorem ct_isCocycle (n : Nat) (hn : B + 7 + 4 ≤ n) (T : List (List Int)) (M : Int) (hM : 0 < M ∧ M ≤ 12) (U V : List Int) (p : Nat) (S : CoOk T U V p) :
    evalCall Tryz.prog An n 87 [.agg [.d (intss T)], .agg [.d (.int .i64 M), .d (ints U)], .agg [.d (.int .i64 p), .d (ints V)]] [] = some ⟨.d (.bool (bl (IsCy T M U V p))), [], []⟩ := by
  obtain ⟨m, rfl⟩ : ∃ m, n = m + 1 := ⟨n - 1, by omega⟩
  have hB := B_eq
  simp only [evalCall_at, fb87, bnd_some, bodyOf, Tryz.f87, Option.getD_some]
  generalize hb0 : Code.loop _ = cc0
  obtain rfl : cc0 = .loop (lp Tryz.f87 0) := by rw [← hb0]; rfl
  clear hb0
  have c := ct_boundary m (by omega) T M hM U V p S
  have pb := pow_bd S.R.1 (show p + 1 ≤ 4 by have := S.hp; omega)
  have hlen : (bndL T M U V p).length = (T.length - 1) ^ (p + 1) := by simp -implicitDefEqProofs (maxSteps := 3000000) [bndL]
  have hr : ∀ i < (T.length - 1) ^ (p + 1), rn (bndL T M U V p) i = bnd1 T M U V p i := fun i hi => rn_tabI _ hi
  have hcy : IsCy T M U V p ↔ ∀ i < (T.length - 1) ^ (p + 1), bnd1 T M U V p i = 0 := Iff.rfl
  generalize bndL T M U V p = W at *
  generalize (T.length - 1) ^ (p + 1) = K at *
  simp -implicitDefEqProofs (maxSteps := 3000000) [c, hlen]
  generalize hx : loopC _ _ _ = x
  generalize hl : lp Tryz.f87 0 = L at hx
  simp only [lp, bodyOf, Tryz.f87, Option.getD_some, loopsIn, List.append_nil, List.nil_append, List.cons_append, List.getD, List.getElem?_cons_zero, List.getElem?_cons_succ] at hl
  subst hl
  rcases loop_chk hx K 0 (fun i => rn W i = 0)
    (fun i g => ⟨[(13, .own 192 8), (14, .d (.int .i64 K)), (15, .d (.int .i64 i))], [(192, some (8, .row (icells W)))], g⟩)
    (fun s => s.obs = s.obs) (fun s => lookL s.env 6 = some (.d (.bool false)))
    (by show K < m; omega) (by simp -implicitDefEqProofs (maxSteps := 3000000))
    (by
      rintro i g hi hp
      have w2 := wrap_id (n := (i : Int) + 1) (by omega)
      have hi' : i < W.length := by omega
      by_cases h : rn W i = 0
      · simp -implicitDefEqProofs (maxSteps := 3000000) [hi, hi', w2, h]
      · have h2 := bne_t h
        simp -implicitDefEqProofs (maxSteps := 3000000) [hi, hi', w2, h, h2])
    (by
      rintro g
      simp -implicitDefEqProofs (maxSteps := 3000000)) with ⟨h1, s, rfl, _⟩ | ⟨⟨i, hi, h1⟩, s, rfl, h2⟩
  · have : IsCy T M U V p := hcy.2 fun i hi => by rw [← hr i hi]; exact h1 i hi
    simp -implicitDefEqProofs (maxSteps := 3000000) [bl_true this]
  · have : ¬ IsCy T M U V p := fun z => h1 (by rw [hr i hi]; exact hcy.1 z i hi)
    simp -implicitDefEqProofs (maxSteps := 3000000) [h2, bl_false this]
theorem ct_l03Boundary (n : Nat) (hn : B + 4 ≤ n) (T : List (List Int)) (M : Int) (hM : 0 < M ∧ M ≤ 12) (U V : List Int) (p : Nat) (S : CoOk T U V p) :
    evalCall Tryz.prog An n 156 [.agg [.d (intss T)], .agg [.d (.int .i64 M), .d (ints U)], .agg [.d (.int .i64 p), .d (ints V)]] [] = some ⟨.agg [.d (.int .i64 ((p : Int) + 1)), .own 0 0], [.row (icells (bndL T M U V p))], []⟩ := by
  obtain ⟨m, rfl⟩ : ∃ m, n = m + 1 := ⟨n - 1, by omega⟩
  have hB := B_eq
  simp only [evalCall_at, fb156, bnd_some, bodyOf, Tryz.f156, Option.getD_some]
  generalize hb0 : Code.loop _ = cc0
  obtain rfl : cc0 = .loop (lp Tryz.f156 0) := by rw [← hb0]; rfl
  clear hb0
  have hT := S.R.1
  have hp := S.hp
  have w := wrap_id (n := (p : Int) + 1) (by omega)
  have e : ((p + 1 : Nat) : Int) = (p : Int) + 1 := by omega
  have c1 := ct_l03Cells4 m (by omega) T hT (p + 1) (by omega)
  have pb := pow_bd hT (show p + 1 ≤ 4 by omega)
  rw [pow_cast hT.1, e] at c1
  have cl : ∀ i < (T.length - 1) ^ (p + 1), _ := fun i hi => ct_l03List m (by omega) T hT (p + 1) i (by omega) hi (by omega)
  have cs : ∀ i < (T.length - 1) ^ (p + 1), _ := fun i hi => ct_l03Side m (by omega) T M hM U p V _ p (S.side hi)
  unfold bndL
  simp only [← show ∀ i, bnd1 T M U V p i = sideV T U V (digs (T.length - 1) (p + 1) i) % M from fun i => rfl] at cs
  rw [e] at cl
  generalize (T.length - 1) ^ (p + 1) = K at *
  simp -implicitDefEqProofs (maxSteps := 3000000) [w]
  generalize hx : loopC _ _ _ = x
  generalize hl : lp Tryz.f156 0 = L at hx
  simp only [lp, bodyOf, Tryz.f156, Option.getD_some, loopsIn, List.append_nil, List.nil_append, List.cons_append, List.getD, List.getElem?_cons_zero, List.getElem?_cons_succ] at hl
  subst hl
  obtain ⟨qq, rfl, hqq⟩ := loop_end hx (K) (fun i s => ∃ g v, s = ⟨[(3, .ptr 48 1 0), (4, .ptr 64 2 0), (5, .ptr 80 3 0), (6, .ptr 96 4 0), (7, .d (.int .i64 ((p : Int) + 1))), (8, .ptr 128 12 0), (9, .d (.int .i64 i))], [(48, some (1, .box [.d (intss T)])), (64, some (2, .box [.d (.int .i64 M), .d (ints U)])), (80, some (3, .box [.d (.int .i64 p), .d (ints V)])), (96, some (4, .box [.d (.int .i64 0), .d .nil])), (128, some (12, .box [.d (.int .i64 ((p : Int) + 1)), .own 224 v])), (224, some (v, .row (icells (tabI (bnd1 T M U V p) i))))], g⟩)
    (fun qq => ∃ s v, qq = (.exit 0, s) ∧ lookL s.env 3 = some (.ptr 48 1 0) ∧ lookL s.env 4 = some (.ptr 64 2 0) ∧ lookL s.env 5 = some (.ptr 80 3 0) ∧ lookL s.env 6 = some (.ptr 96 4 0) ∧ lookL s.env 7 = some (.d (.int .i64 ((p : Int) + 1))) ∧ lookL s.env 8 = some (.ptr 128 12 0) ∧ lookL s.env 9 = some (.d (.int .i64 (K))) ∧ obsL s.obs 48 = some (1, .box [.d (intss T)]) ∧ obsL s.obs 64 = some (2, .box [.d (.int .i64 M), .d (ints U)]) ∧ obsL s.obs 80 = some (3, .box [.d (.int .i64 p), .d (ints V)]) ∧ obsL s.obs 96 = some (4, .box [.d (.int .i64 0), .d .nil]) ∧ obsL s.obs 128 = some (12, .box [.d (.int .i64 ((p : Int) + 1)), .own 224 v]) ∧ obsL s.obs 224 = some (v, .row (icells (tabI (bnd1 T M U V p) (K)))))
    (by show K < m; omega) (by
      simp -implicitDefEqProofs (maxSteps := 3000000))
    (by
      rintro i s hi ⟨g, v, rfl⟩
      have w2 := wrap_id (n := (i : Int) + 1) (by omega)
      have c2 := cl i hi
      have c3 := cs i hi
      have hs := tabI_succ (bnd1 T M U V p) i
      have hl := lt_bound (n := i) (by omega)
      simp -implicitDefEqProofs (maxSteps := 3000000) [hi, c1, w2, c2, c3, hs, hl, le_bound (n := i) (by omega)])
    (by
      rintro s ⟨g, v, rfl⟩
      simp -implicitDefEqProofs (maxSteps := 3000000) [c1])
  obtain ⟨s, v, rfl, hf⟩ := hqq
  simp -implicitDefEqProofs (maxSteps := 3000000) [hf]
theorem ct_l03Cocycle (n : Nat) (hn : B + 4 ≤ n) (T : List (List Int)) (M : Int) (hM : 0 < M ∧ M ≤ 12) (U V : List Int) (p : Nat) (S : CoOk T U V p) :
    evalCall Tryz.prog An n 89 [.agg [.d (intss T)], .agg [.d (.int .i64 M), .d (ints U)], .agg [.d (.int .i64 p), .d (ints V)]] [] = some ⟨.d (.bool (bl (IsCy T M U V p))), [], []⟩ := by
  obtain ⟨m, rfl⟩ : ∃ m, n = m + 1 := ⟨n - 1, by omega⟩
  have hB := B_eq
  simp only [evalCall_at, fb89, bnd_some, bodyOf, Tryz.f89, Option.getD_some]
  generalize hb0 : Code.loop _ = cc0
  obtain rfl : cc0 = .loop (lp Tryz.f89 0) := by rw [← hb0]; rfl
  clear hb0
  have hT := S.R.1
  have hp := S.hp
  have w := wrap_id (n := (p : Int) + 1) (by omega)
  have e : ((p + 1 : Nat) : Int) = (p : Int) + 1 := by omega
  have c1 := ct_l03Cells4 m (by omega) T hT (p + 1) (by omega)
  have pb := pow_bd hT (show p + 1 ≤ 4 by omega)
  rw [pow_cast hT.1, e] at c1
  have cl : ∀ i < (T.length - 1) ^ (p + 1), _ := fun i hi => ct_l03List m (by omega) T hT (p + 1) i (by omega) hi (by omega)
  have cs : ∀ i < (T.length - 1) ^ (p + 1), _ := fun i hi => ct_l03Side m (by omega) T M hM U p V _ p (S.side hi)
  simp only [← show ∀ i, bnd1 T M U V p i = sideV T U V (digs (T.length - 1) (p + 1) i) % M from fun i => rfl] at cs
  rw [e] at cl
  have hcy : IsCy T M U V p ↔ ∀ i < (T.length - 1) ^ (p + 1), bnd1 T M U V p i = 0 := Iff.rfl
  generalize (T.length - 1) ^ (p + 1) = K at *
  simp -implicitDefEqProofs (maxSteps := 3000000)
  generalize hx : loopC _ _ _ = x
  generalize hl : lp Tryz.f89 0 = L at hx
  simp only [lp, bodyOf, Tryz.f89, Option.getD_some, loopsIn, List.append_nil, List.nil_append, List.cons_append, List.getD, List.getElem?_cons_zero, List.getElem?_cons_succ] at hl
  subst hl
  rcases loop_chk hx K 0 (fun i => bnd1 T M U V p i = 0)
    (fun i g => ⟨[(3, .ptr 48 1 0), (4, .ptr 64 2 0), (5, .ptr 80 3 0), (7, .d (.int .i64 i))], [(48, some (1, .box [.d (intss T)])), (64, some (2, .box [.d (.int .i64 M), .d (ints U)])), (80, some (3, .box [.d (.int .i64 p), .d (ints V)]))], g⟩)
    (fun s => s.obs = s.obs) (fun s => lookL s.env 6 = some (.d (.bool false)))
    (by show K < m; omega) (by simp -implicitDefEqProofs (maxSteps := 3000000))
    (by
      rintro i g hi hp
      have w2 := wrap_id (n := (i : Int) + 1) (by omega)
      have c2 := cl i hi
      have c3 := cs i hi
      by_cases h : bnd1 T M U V p i = 0
      · simp -implicitDefEqProofs (maxSteps := 3000000) [hi, w, c1, c2, c3, w2, h]
      · have h2 := bne_t h
        simp -implicitDefEqProofs (maxSteps := 3000000) [hi, w, c1, c2, c3, w2, h, h2])
    (by
      rintro g
      simp -implicitDefEqProofs (maxSteps := 3000000) [w, c1]) with ⟨h1, s, rfl, _⟩ | ⟨⟨i, hi, h1⟩, s, rfl, h2⟩
  · have : IsCy T M U V p := hcy.2 h1
    simp -implicitDefEqProofs (maxSteps := 3000000) [bl_true this]
  · have : ¬ IsCy T M U V p := fun z => h1 (hcy.1 z i hi)
    simp -implicitDefEqProofs (maxSteps := 3000000) [h2, bl_false this]
end Go.Proofs.YtnfhglplafmfiaaGreatE
