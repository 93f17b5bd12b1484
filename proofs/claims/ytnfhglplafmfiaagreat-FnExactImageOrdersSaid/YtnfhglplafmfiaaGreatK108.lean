/- Contracts of functions of the program and of the reference: what the evaluator gives for a call of each. -/
import Derived.Test.YtnfhglplafmfiaaGreatAEf
import Derived.Test.YtnfhglplafmfiaaGreatK1M
import Derived.Test.YtnfhglplafmfiaaGreatK3M
import Derived.Test.YtnfhglplafmfiaaGreatK4
import Derived.Test.YtnfhglplafmfiaaGreatK6M
import Derived.Test.YtnfhglplafmfiaaGreatK8M
import Derived.Test.YtnfhglplafmfiaaGreatK11M
import Derived.Test.YtnfhglplafmfiaaGreatK13
import Derived.Test.YtnfhglplafmfiaaGreatK14
import Derived.Test.YtnfhglplafmfiaaGreatK17
import Derived.Test.YtnfhglplafmfiaaGreatK18
import Derived.Test.YtnfhglplafmfiaaGreatK90M
import Derived.Test.YtnfhglplafmfiaaGreatK98M
import Derived.Test.YtnfhglplafmfiaaGreatK103
import Derived.Test.YtnfhglplafmfiaaGreatK105M
import Derived.Test.YtnfhglplafmfiaaGreatK107M
namespace Go.Proofs.YtnfhglplafmfiaaGreatE
open Go Go.Proofs
set_option maxHeartbeats 16000000
set_option maxRecDepth 8000
set_option linter.unusedSimpArgs false
set_option linter.unusedVariables false
set_option pp.deepTerms false
set_option pp.deepTerms.threshold 10
/-! ## ImageOrders: the program -/
/-- x is the number of a span's rows by those of a smaller one, modulo 2^64. -/
def IsSz (m : Int) (N : Nat) (A Bt : (Nat → Int) → Prop) (x : Int) : Prop :=
  ∃ Ra Rb, (Sat m N Ra [] ∧ ∀ u, Sp m (GR Ra 0) u ↔ A u) ∧ (Sat m N Rb [] ∧ ∀ u, Sp m (GR Rb 0) u ↔ Bt u) ∧ x = IntKind.wrap .i64 (quoP (sval m Ra) (sval m Rb) N)
theorem IsSz.uniq {m : Int} (hm : 0 < m) {N : Nat} {A Bt : (Nat → Int) → Prop} {x y : Int} (h : IsSz m N A Bt x) (h' : IsSz m N A Bt y) : x = y := by
  obtain ⟨Ra, Rb, ⟨S1, a1⟩, ⟨S2, a2⟩, rfl⟩ := h
  obtain ⟨Ra', Rb', ⟨S1', a1'⟩, ⟨S2', a2'⟩, rfl⟩ := h'
  rw [sval_eq hm S1 S1' fun u => (a1 u).trans (a1' u).symm, sval_eq hm S2 S2' fun u => (a2 u).trans (a2' u).symm]
def ImE (T : List (List Int)) (M k q : Int) (U : List Int) (p : Nat) (u : Nat → Int) : Prop := ∃ z, Zc T k U p z ∧ Bc T M U p (fun i => u i - q * z i)
def ImR (T : List (List Int)) (M q : Int) (U : List Int) (p : Nat) (u : Nat → Int) : Prop := ∃ z, Zc T M U p z ∧ Bc T q U p (fun i => u i - z i)
def ImC (T : List (List Int)) (k q : Int) (U : List Int) (p : Nat) (u : Nat → Int) : Prop := ∃ z, Zc T q U p z ∧ Bc T k U (p + 1) (fun i => u i - dF T U p z i / q)
theorem co_vec {T : List (List Int)} {U : List Int} {p : Nat} (R0 : RowsOk T) (e0 : ∀ a < T.length, cl T 0 a = a) (hU : U.length = T.length) (bU : ∀ i < U.length, 0 ≤ rn U i ∧ rn U i ≤ 11) (hp : p ≤ 3) {m : Int} (hm : m ≤ 12) {r : List Int} (hv : Vec m ((T.length - 1) ^ p) r) : CoOk T U r p :=
  ⟨R0, e0, hU, bU, by rw [hv.1, pow_cast R0.1.1], fun i hi => by have := hv.2 i; omega, hp⟩
theorem vec_times {k q M : Int} (hM : M = q * k) (hq : 0 < q) {N : Nat} {r : List Int} (hv : Vec k N r) : Vec M N (timesU r q) := by
  refine ⟨by rw [timesU_len, hv.1], fun i => ?_⟩
  obtain ⟨h1, h2⟩ := hv.2 i
  rw [rn_timesU, hM]
  exact ⟨Int.mul_nonneg (by omega) h1, Int.mul_lt_mul_of_pos_left h2 hq⟩
theorem vec_rest {q : Int} (hq : 0 < q) {N : Nat} {r : List Int} (hv : r.length = N) : Vec q N (restU r q) :=
  ⟨by simp -implicitDefEqProofs (maxSteps := 3000000) [restU, hv], fun i => by rw [rn_restU]; exact ⟨Int.emod_nonneg _ (by omega), Int.emod_lt_of_pos _ hq⟩⟩
theorem vec_con {T : List (List Int)} {k q M : Int} (hM : M = q * k) (hq : 0 < q) (hM0 : 0 < M) (U r : List Int) (p : Nat) : Vec k ((T.length - 1) ^ (p + 1)) (conL T M U r p q) := by
  refine ⟨conL_len, fun i => ?_⟩
  rw [rn_conL, bndL_F]
  have h1 := Int.emod_nonneg (dF T U p (rn r) i) (show M ≠ 0 by omega)
  have h2 := Int.emod_lt_of_pos (dF T U p (rn r) i) hM0
  generalize dF T U p (rn r) i % M = x at *
  refine ⟨Int.ediv_nonneg h1 (by omega), Int.ediv_lt_of_lt_mul hq ?_⟩
  rw [Int.mul_comm, ← hM]; exact h2
theorem ct_img1 (n : Nat) (hn : B + 60 ≤ n) (q : Int) (D : Int) (V : List Int) (hV : V.length ≤ 10000000) (hq : ∀ i < V.length, -9223372036854775808 ≤ q * rn V i ∧ q * rn V i < 9223372036854775808) :
    evalCall Tryz.prog An n 77 [.agg [.d (.int .i64 D), .d (ints V)], .d (.cellp [.int .i64 q])] [] = some ⟨.agg [.d (.int .i64 D), .own 0 0], [.row (icells (timesU V q))], []⟩ := by
  obtain ⟨m, rfl⟩ : ∃ m, n = m + 1 := ⟨n - 1, by omega⟩
  have hB := B_eq
  simp only [evalCall_at, fb77, bnd_some, bodyOf, Tryz.f77, Option.getD_some]
  have c := ct_embedded m (by omega) D V hV q hq
  simp -implicitDefEqProofs (maxSteps := 3000000) [c]
theorem ct_img2 (n : Nat) (hn : B + 60 ≤ n) (q : Int) (hq : 0 < q) (D : Int) (V : List Int) (hV : V.length ≤ 10000000) (h0 : ∀ i < V.length, 0 ≤ rn V i) :
    evalCall Tryz.prog An n 79 [.agg [.d (.int .i64 D), .d (ints V)], .d (.cellp [.int .i64 q])] [] = some ⟨.agg [.d (.int .i64 D), .own 0 0], [.row (icells (restU V q))], []⟩ := by
  obtain ⟨m, rfl⟩ : ∃ m, n = m + 1 := ⟨n - 1, by omega⟩
  have hB := B_eq
  simp only [evalCall_at, fb79, bnd_some, bodyOf, Tryz.f79, Option.getD_some]
  have c := ct_rests m (by omega) D V hV h0 q hq
  simp -implicitDefEqProofs (maxSteps := 3000000) [c]
theorem ct_img3 (n : Nat) (hn : B + 60 ≤ n) (T : List (List Int)) (M : Int) (hM : 2 ≤ M ∧ M ≤ 12) (U V : List Int) (k : Int) (hk : 2 ≤ k ∧ k ≤ M.tdiv 2 ∧ M.tmod k = 0) (p : Nat) (S : CoOk T U V p) :
    evalCall Tryz.prog An n 81 [.agg [.d (.int .i64 p), .d (ints V)], .d (.cellp [intss T]), .d (.cellp [.int .i64 M, ints U]), .d (.cellp [.int .i64 k])] [] = some ⟨.agg [.d (.int .i64 ((p : Int) + 1)), .own 0 0], [.row (icells (conL T M U V p (M / k)))], []⟩ := by
  obtain ⟨m, rfl⟩ : ∃ m, n = m + 1 := ⟨n - 1, by omega⟩
  have hB := B_eq
  simp only [evalCall_at, fb81, bnd_some, bodyOf, Tryz.f81, Option.getD_some]
  have c := ct_connecting m (by omega) T M hM U V k hk p S
  simp -implicitDefEqProofs (maxSteps := 3000000) [c]
/-- What ImageOrders asks for. -/
def IGood (T : List (List Int)) (M : Int) (U : List Int) (k n : Int) : Prop := icode T M U k = 0 ∧ (0 ≤ n ∧ n ≤ 2) ∧ (T.length - 1) ^ n.toNat ≤ 49 ∧ (T.length - 1) ^ (n.toNat + 1) ≤ 49
noncomputable def imcode (T : List (List Int)) (M : Int) (U : List Int) (k n : Int) : Int := if icode T M U k ≠ 0 then icode T M U k else if 0 ≤ n ∧ n ≤ 2 then 3 else 2
theorem ct_implImg_bad (n : Nat) (hn : B + 100 ≤ n) (T : List (List Int)) (hT : T.length ≤ 2000000) (hr : ∀ i, (rown T i).length ≤ 1000000000000) (M : Int) (U : List Int) (hU : U.length ≤ 2000000) (k N : Int) (hN : -9223372036854775808 ≤ N ∧ N < 9223372036854775808) (h : ¬ IGood T M U k N) :
    evalCall Tryz.prog An n 12 [.agg [.d (intss T)], .agg [.d (.int .i64 M), .d (ints U)], .d (.int .i64 k), .d (.int .i64 N)] [] = some ⟨.tuple [.d .nil, .d (.int .i64 (imcode T M U k N))], [], []⟩ := by
  obtain ⟨m, rfl⟩ : ∃ m, n = m + 1 := ⟨n - 1, by omega⟩
  have hB := B_eq
  simp only [evalCall_at, fb12, bnd_some, bodyOf, Tryz.f12, Option.getD_some]
  have c1 := ct_divisorCode m (by omega) T hT hr M U hU k
  by_cases h1 : icode T M U k = 0
  · obtain ⟨G, hk⟩ := icode_0.1 h1
    rw [h1] at c1
    by_cases h2 : N < 0
    · have h3 : ¬ (0 ≤ N ∧ N ≤ 2) := by omega
      simp -implicitDefEqProofs (maxSteps := 3000000) [c1, h2, imcode, h1, h3]
    · by_cases h3 : N ≤ 2
      · obtain ⟨p, rfl⟩ := Int.eq_ofNat_of_zero_le (show 0 ≤ N by omega)
        have hp : p ≤ 2 := by omega
        have c2 := ct_isRanked m (by omega) T G.1.1.1 p (by omega)
        have c3 := ct_isRanked m (by omega) T G.1.1.1 (p + 1) (by omega)
        rw [show ((p + 1 : Nat) : Int) = (p : Int) + 1 by simp] at c3
        have w := wrap_id (n := (p : Int) + 1) (by omega)
        have h4 : ¬ ((2 : Int) < p) := by omega
        have h5 : ¬ ((T.length - 1) ^ p ≤ 49 ∧ (T.length - 1) ^ (p + 1) ≤ 49) := fun z => h ⟨h1, by omega, by simpa using z⟩
        have h6 : (0 : Int) ≤ p ∧ (p : Int) ≤ 2 := by omega
        generalize (T.length - 1) ^ p = X at *
        generalize (T.length - 1) ^ (p + 1) = Y at *
        by_cases h7 : X ≤ 49
        · have h8 : ¬ Y ≤ 49 := fun z => h5 ⟨h7, z⟩
          simp -implicitDefEqProofs (maxSteps := 3000000) [c1, c2, c3, w, imcode, h1, h2, h4, h6, h7, h8]
        · simp -implicitDefEqProofs (maxSteps := 3000000) [c1, c2, c3, w, imcode, h1, h2, h4, h6, h7]
      · have h4 : 2 < N := by omega
        have h5 : ¬ (0 ≤ N ∧ N ≤ 2) := by omega
        simp -implicitDefEqProofs (maxSteps := 3000000) [c1, h2, h4, imcode, h1, h5]
  · have h3 := bne_t h1
    simp -implicitDefEqProofs (maxSteps := 3000000) [c1, imcode, h1, h3]
theorem ct_implImg (n : Nat) (hn : B + 100 ≤ n) (T : List (List Int)) (hT : T.length ≤ 2000000) (hr : ∀ i, (rown T i).length ≤ 1000000000000) (M : Int) (U : List Int) (hU : U.length ≤ 2000000) (k : Int) (p : Nat) (h : IGood T M U k p) :
    ∃ x y z, IsSz M ((T.length - 1) ^ p) (ImE T M k (M / k) U p) (Bc T M U p) x ∧ IsSz (M / k) ((T.length - 1) ^ p) (ImR T M (M / k) U p) (Bc T (M / k) U p) y ∧ IsSz k ((T.length - 1) ^ (p + 1)) (ImC T k (M / k) U p) (Bc T k U (p + 1)) z ∧
    evalCall Tryz.prog An n 12 [.agg [.d (intss T)], .agg [.d (.int .i64 M), .d (ints U)], .d (.int .i64 k), .d (.int .i64 p)] [] = some ⟨.tuple [.own 0 0, .d (.int .i64 0)], [.row (icells [x, y, z])], []⟩ := by
  obtain ⟨m, rfl⟩ : ∃ m, n = m + 1 := ⟨n - 1, by omega⟩
  have hB := B_eq
  simp only [evalCall_at, fb12, bnd_some, bodyOf, Tryz.f12, Option.getD_some]
  obtain ⟨h1, h2, h3, h3'⟩ := h
  obtain ⟨G, hk⟩ := icode_0.1 h1
  have hM := G.2.1.1
  have hlU := G.2.1.2
  obtain ⟨d1, d2, d3⟩ := div_ok hM.1 hk
  have R0 := G.1.1
  have e0 := isGr_e0 G.1
  simp only [Int.toNat_natCast] at h3 h3'
  have hp : p ≤ 2 := by omega
  have c1 := ct_divisorCode m (by omega) T hT hr M U hU k
  rw [h1] at c1
  have c2 := ct_isRanked m (by omega) T R0.1 p (by omega)
  have c3 := ct_isRanked m (by omega) T R0.1 (p + 1) (by omega)
  rw [decide_eq_true h3] at c2
  rw [decide_eq_true h3', show ((p + 1 : Nat) : Int) = (p : Int) + 1 by simp] at c3
  have w := wrap_id (n := (p : Int) + 1) (by omega)
  have wq := wrap_id (n := M / k) (by omega)
  have kz : k ≠ 0 := by omega
  have hU0 : ∀ i < U.length, 0 ≤ rn U i := fun i hi => by have := (G.2.2.1 i hi).1; omega
  have bU : ∀ i < U.length, 0 ≤ rn U i ∧ rn U i ≤ 11 := fun i hi => by have := (G.2.2.1 i hi).1; omega
  have c4 := ct_reduced m (by omega) T R0.1.1 M U (by omega) hlU hU0 k (by omega)
  have c5 := ct_reduced m (by omega) T R0.1.1 M U (by omega) hlU hU0 (M / k) (by omega)
  have hMk : M = M / k * k := by rw [Int.mul_comm]; exact (Int.mul_ediv_cancel' (Int.dvd_of_emod_eq_zero d1.2.2)).symm
  have lr : ∀ x, (restU U x).length = T.length := fun x => by simp -implicitDefEqProofs (maxSteps := 3000000) [restU, hlU]
  have br : ∀ x, 0 < x → x ≤ 12 → ∀ i < (restU U x).length, 0 ≤ rn (restU U x) i ∧ rn (restU U x) i ≤ 11 := fun x hx hx2 i _ => by
    rw [rn_restU]
    have := Int.emod_nonneg (rn U i) (show x ≠ 0 by omega)
    have := Int.emod_lt_of_pos (rn U i) hx
    omega
  have hb := pow_bdN (N := T.length) (p := p) R0.1.2 (by omega)
  obtain ⟨Z1, ⟨s1, z1⟩, B1, ⟨s2, z2⟩, A1, ⟨s3, z3⟩, i1⟩ := ct_imageOrder m (by omega) T R0 e0 k (by omega) (restU U k) (lr k) (br k (by omega) (by omega)) p (by omega) M hM U hlU bU p (by omega)
    77 [.cellp [.int .i64 (M / k)]] (fun r => timesU r (M / k)) p (B + 60) (by omega)
    (fun m hm r hv => by
      have := ct_img1 m (by omega) (M / k) p r (by rw [hv.1]; omega) (fun i _ => by
        obtain ⟨a1, a2⟩ := hv.2 i
        have := mul_bd (a := M / k) (b := rn r i) (x := 12) (y := 12) (by omega) (by omega) a1 (by omega)
        omega)
      simpa using this)
    (fun r hv => vec_times hMk (by omega) hv) (by simp -implicitDefEqProofs (maxSteps := 3000000))
  obtain ⟨Z2, ⟨s4, z4⟩, B2, ⟨s5, z5⟩, A2, ⟨s6, z6⟩, i2⟩ := ct_imageOrder m (by omega) T R0 e0 M hM U hlU bU p (by omega) (M / k) (by omega) (restU U (M / k)) (lr _) (br _ (by omega) (by omega)) p (by omega)
    79 [.cellp [.int .i64 (M / k)]] (fun r => restU r (M / k)) p (B + 60) (by omega)
    (fun m hm r hv => by
      have := ct_img2 m (by omega) (M / k) (by omega) p r (by rw [hv.1]; omega) (fun i _ => (hv.2 i).1)
      simpa using this)
    (fun r hv => vec_rest (by omega) hv.1) (by simp -implicitDefEqProofs (maxSteps := 3000000))
  obtain ⟨Z3, ⟨s7, z7⟩, B3, ⟨s8, z8⟩, A3, ⟨s9, z9⟩, i3⟩ := ct_imageOrder m (by omega) T R0 e0 (M / k) (by omega) (restU U (M / k)) (lr _) (br _ (by omega) (by omega)) p (by omega) k (by omega) (restU U k) (lr k) (br k (by omega) (by omega)) (p + 1) (by omega)
    81 [.cellp [intss T], .cellp [.int .i64 M, ints U], .cellp [.int .i64 k]] (fun r => conL T M U r p (M / k)) ((p : Int) + 1) (B + 60) (by omega)
    (fun m hm r hv => by
      have := ct_img3 m (by omega) T M hM U r k hk p (co_vec R0 e0 hlU bU (by omega) (by omega) hv)
      simpa using this)
    (fun r hv => vec_con hMk (by omega) (by omega) U r p) (by simp -implicitDefEqProofs (maxSteps := 3000000))
  rw [show ((p + 1 : Nat) : Int) = (p : Int) + 1 by simp] at i3
  refine ⟨_, _, _, ⟨A1, B1, ⟨s3, fun u => (z3 u).trans (im_emb R0 hMk (by omega) (by omega) (by rw [s1.rws.len]; exact Nat.le_refl _) (fun u => bc_iff R0 M U p u) (fun u => (z1 u).trans zc_U) u)⟩, ⟨s2, fun u => (z2 u).trans (bc_iff R0 M U p u)⟩, rfl⟩,
    ⟨A2, B2, ⟨s6, fun u => (z6 u).trans (im_red R0 hMk (by omega) (by omega) (by rw [s4.rws.len]; exact Nat.le_refl _) (fun u => (bc_iff R0 _ _ p u).trans bc_U) z4 u)⟩, ⟨s5, fun u => (z5 u).trans ((bc_iff R0 _ _ p u).trans bc_U)⟩, rfl⟩,
    ⟨A3, B3, ⟨s9, fun u => (z9 u).trans (im_con R0 hMk (by omega) (by omega) (by rw [s7.rws.len]; exact Nat.le_refl _) (fun u => (bc_iff R0 _ _ (p + 1) u).trans bc_U) (fun u => (z7 u).trans zc_U) u)⟩, ⟨s8, fun u => (z8 u).trans ((bc_iff R0 _ _ (p + 1) u).trans bc_U)⟩, rfl⟩, ?_⟩
  clear z1 z2 z3 z4 z5 z6 z7 z8 z9 s1 s2 s3 s4 s5 s6 s7 s8 s9
  generalize IntKind.wrap .i64 (quoP (sval M A1) (sval M B1) ((T.length - 1) ^ p)) = x at *
  generalize IntKind.wrap .i64 (quoP (sval (M / k) A2) (sval (M / k) B2) ((T.length - 1) ^ p)) = y at *
  generalize IntKind.wrap .i64 (quoP (sval k A3) (sval k B3) ((T.length - 1) ^ (p + 1))) = zz at *
  have h4 : ¬ ((p : Int) < 0) := by omega
  have h5 : ¬ ((2 : Int) < p) := by omega
  simp -implicitDefEqProofs (maxSteps := 3000000) [c1, c2, c3, c4, c5, w, wq, d2, kz, h4, h5, i1, i2, i3]
  rfl
end Go.Proofs.YtnfhglplafmfiaaGreatE
