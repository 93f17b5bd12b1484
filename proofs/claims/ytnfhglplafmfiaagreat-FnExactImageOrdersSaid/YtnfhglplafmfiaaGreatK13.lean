/- Contracts of functions of the program and of the reference: what the evaluator gives for a call of each. -/
import Derived.Test.YtnfhglplafmfiaaGreatAEf
import Derived.Test.YtnfhglplafmfiaaGreatK1M
import Derived.Test.YtnfhglplafmfiaaGreatK3M
import Derived.Test.YtnfhglplafmfiaaGreatK4
import Derived.Test.YtnfhglplafmfiaaGreatK6M
import Derived.Test.YtnfhglplafmfiaaGreatK8M
import Derived.Test.YtnfhglplafmfiaaGreatK11M
namespace Go.Proofs.YtnfhglplafmfiaaGreatE
open Go Go.Proofs
set_option maxHeartbeats 2000000
set_option linter.unusedSimpArgs false
set_option linter.unusedVariables false
set_option pp.deepTerms false
set_option pp.deepTerms.threshold 10
theorem ct_l02Reduced (n : Nat) (hn : B + 1 ≤ n) (M : Int) (U : List Int) (hU : U.length ≤ 10000000) (h0 : ∀ i < U.length, 0 ≤ rn U i) (k : Int) (hk : 0 < k) :
    evalCall Tryz.prog An n 65 [.agg [.d (.int .i64 M), .d (ints U)], .d (.int .i64 k)] [] = some ⟨.agg [.d (.int .i64 k), .own 0 0], [.row (icells (restU U k))], []⟩ := by
  obtain ⟨m, rfl⟩ : ∃ m, n = m + 1 := ⟨n - 1, by omega⟩
  have hB := B_eq
  simp only [evalCall_at, fb65, bnd_some, bodyOf, Tryz.f65, Option.getD_some]
  generalize hb0 : Code.loop _ = cc0
  obtain rfl : cc0 = .loop (lp Tryz.f65 0) := by rw [← hb0]; rfl
  clear hb0
  simp -implicitDefEqProofs (maxSteps := 3000000)
  generalize hx : loopC _ _ _ = x
  generalize hl : lp Tryz.f65 0 = L at hx
  simp only [lp, bodyOf, Tryz.f65, Option.getD_some, loopsIn, List.append_nil, List.nil_append, List.cons_append, List.getD, List.getElem?_cons_zero, List.getElem?_cons_succ] at hl
  subst hl
  obtain ⟨qq, rfl, hqq⟩ := loop_end hx (U.length) (fun i s => ∃ g v, s = ⟨[(1, .d (.int .i64 k)), (2, .ptr 32 1 0), (4, .ptr 64 2 0), (5, .ptr 80 6 0), (6, .d (.int .i64 i))], [(32, some (1, .box [.d (.int .i64 M), .d (ints U)])), (64, some (2, .box [.d (.int .i64 0), .d .nil])), (80, some (6, .box [.d (.int .i64 k), .own 128 v])), (128, some (v, .row (icells (tabI (fun j => rn U j % k) i))))], g⟩)
    (fun qq => ∃ s v, qq = (.exit 0, s) ∧ lookL s.env 1 = some (.d (.int .i64 k)) ∧ lookL s.env 2 = some (.ptr 32 1 0) ∧ lookL s.env 4 = some (.ptr 64 2 0) ∧ lookL s.env 5 = some (.ptr 80 6 0) ∧ lookL s.env 6 = some (.d (.int .i64 (U.length))) ∧ obsL s.obs 32 = some (1, .box [.d (.int .i64 M), .d (ints U)]) ∧ obsL s.obs 64 = some (2, .box [.d (.int .i64 0), .d .nil]) ∧ obsL s.obs 80 = some (6, .box [.d (.int .i64 k), .own 128 v]) ∧ obsL s.obs 128 = some (v, .row (icells (tabI (fun j => rn U j % k) (U.length)))))
    (by show U.length < m; omega) (by
      simp -implicitDefEqProofs (maxSteps := 3000000))
    (by
      rintro i s hi ⟨g, v, rfl⟩
      have w2 := wrap_id (n := (i : Int) + 1) (by omega)
      have tm := tmod_nn k (h0 i hi)
      have hz : k ≠ 0 := by omega
      have hl := lt_bound (n := i) (by omega)
      have hs := tabI_succ (fun j => rn U j % k) i
      simp -implicitDefEqProofs (maxSteps := 3000000) [hi, w2, tm, hz, hl, le_bound (n := i) (by omega), hs])
    (by
      rintro s ⟨g, v, rfl⟩
      simp -implicitDefEqProofs (maxSteps := 3000000))
  obtain ⟨s, v, rfl, hf⟩ := hqq
  simp -implicitDefEqProofs (maxSteps := 3000000) [hf, tab_map (fun x => x % k), restU]
def timesU (V : List Int) (q : Int) : List Int := V.map (q * ·)
theorem ct_l08Times (n : Nat) (hn : B + 1 ≤ n) (D : Int) (V : List Int) (hV : V.length ≤ 10000000) (q : Int) (hq : ∀ i < V.length, -9223372036854775808 ≤ q * rn V i ∧ q * rn V i < 9223372036854775808) :
    evalCall Tryz.prog An n 67 [.agg [.d (.int .i64 D), .d (ints V)], .d (.int .i64 q)] [] = some ⟨.agg [.d (.int .i64 D), .own 0 0], [.row (icells (timesU V q))], []⟩ := by
  obtain ⟨m, rfl⟩ : ∃ m, n = m + 1 := ⟨n - 1, by omega⟩
  have hB := B_eq
  simp only [evalCall_at, fb67, bnd_some, bodyOf, Tryz.f67, Option.getD_some]
  generalize hb0 : Code.loop _ = cc0
  obtain rfl : cc0 = .loop (lp Tryz.f67 0) := by rw [← hb0]; rfl
  clear hb0
  simp -implicitDefEqProofs (maxSteps := 3000000)
  generalize hx : loopC _ _ _ = x
  generalize hl : lp Tryz.f67 0 = L at hx
  simp only [lp, bodyOf, Tryz.f67, Option.getD_some, loopsIn, List.append_nil, List.nil_append, List.cons_append, List.getD, List.getElem?_cons_zero, List.getElem?_cons_succ] at hl
  subst hl
  obtain ⟨qq, rfl, hqq⟩ := loop_end hx (V.length) (fun i s => ∃ g v, s = ⟨[(1, .d (.int .i64 q)), (2, .ptr 32 1 0), (4, .ptr 64 2 0), (5, .ptr 80 7 0), (6, .d (.int .i64 i))], [(32, some (1, .box [.d (.int .i64 D), .d (ints V)])), (64, some (2, .box [.d (.int .i64 0), .d .nil])), (80, some (7, .box [.d (.int .i64 D), .own 144 v])), (144, some (v, .row (icells (tabI (fun j => q * rn V j) i))))], g⟩)
    (fun qq => ∃ s v, qq = (.exit 0, s) ∧ lookL s.env 1 = some (.d (.int .i64 q)) ∧ lookL s.env 2 = some (.ptr 32 1 0) ∧ lookL s.env 4 = some (.ptr 64 2 0) ∧ lookL s.env 5 = some (.ptr 80 7 0) ∧ lookL s.env 6 = some (.d (.int .i64 (V.length))) ∧ obsL s.obs 32 = some (1, .box [.d (.int .i64 D), .d (ints V)]) ∧ obsL s.obs 64 = some (2, .box [.d (.int .i64 0), .d .nil]) ∧ obsL s.obs 80 = some (7, .box [.d (.int .i64 D), .own 144 v]) ∧ obsL s.obs 144 = some (v, .row (icells (tabI (fun j => q * rn V j) (V.length)))))
    (by show V.length < m; omega) (by
      simp -implicitDefEqProofs (maxSteps := 3000000))
    (by
      rintro i s hi ⟨g, v, rfl⟩
      have w2 := wrap_id (n := (i : Int) + 1) (by omega)
      have w3 := wrap_id (hq i hi)
      have hl := lt_bound (n := i) (by omega)
      have hs := tabI_succ (fun j => q * rn V j) i
      simp -implicitDefEqProofs (maxSteps := 3000000) [hi, w2, w3, hl, le_bound (n := i) (by omega), hs])
    (by
      rintro s ⟨g, v, rfl⟩
      simp -implicitDefEqProofs (maxSteps := 3000000))
  obtain ⟨s, v, rfl, hf⟩ := hqq
  simp -implicitDefEqProofs (maxSteps := 3000000) [hf, tab_map (fun x => q * x), timesU]
/-! ## functions that are given functions -/
theorem ct_mappedG (n : Nat) (hn : B + 2 ≤ n) (V : List Int) (hV : V.length ≤ 10000000) (c : Nat) (b : List YtnfhglplafmfiaaGreatE.D) (F : Int → Int) (L : Nat) (hL : L + 1 ≤ n)
    (hF : ∀ m, L ≤ m → ∀ i < V.length, evalCall Tryz.prog An m c (.d (.int .i64 (rn V i)) :: b.map ofD) [] = some ⟨.d (.int .i64 (F (rn V i))), [], []⟩) (hc : c ∉ An.lend) :
    evalCall Tryz.prog An n 139 [.d (ints V), .d (.clo c [] b)] [] = some ⟨.own 0 0, [.row (icells (V.map F))], []⟩ := by
  obtain ⟨m, rfl⟩ : ∃ m, n = m + 1 := ⟨n - 1, by omega⟩
  have hB := B_eq
  simp only [evalCall_at, fb139, bnd_some, bodyOf, Tryz.f139, Option.getD_some]
  generalize hb0 : Code.loop _ = cc0
  obtain rfl : cc0 = .loop (lp Tryz.f139 0) := by rw [← hb0]; rfl
  clear hb0
  simp -implicitDefEqProofs (maxSteps := 3000000) at hc
  simp -implicitDefEqProofs (maxSteps := 3000000)
  generalize hx : loopC _ _ _ = x
  generalize hl : lp Tryz.f139 0 = L at hx
  simp only [lp, bodyOf, Tryz.f139, Option.getD_some, loopsIn, List.append_nil, List.nil_append, List.cons_append, List.getD, List.getElem?_cons_zero, List.getElem?_cons_succ] at hl
  subst hl
  obtain ⟨qq, rfl, hqq⟩ := loop_end hx (V.length) (fun i s => ∃ g v, s = ⟨[(1, .d (.clo c [] b)), (5, .own 128 v), (9, .d (ints V)), (10, .d (.int .i64 V.length)), (11, .d (.int .i64 i))], [(128, some (v, .row (icells (tabI (fun j => F (rn V j)) i))))], g⟩)
    (fun qq => ∃ s v, qq = (.exit 0, s) ∧ lookL s.env 1 = some (.d (.clo c [] b)) ∧ lookL s.env 5 = some (.own 128 v) ∧ lookL s.env 9 = some (.d (ints V)) ∧ lookL s.env 10 = some (.d (.int .i64 V.length)) ∧ lookL s.env 11 = some (.d (.int .i64 (V.length))) ∧ obsL s.obs 128 = some (v, .row (icells (tabI (fun j => F (rn V j)) (V.length)))))
    (by show V.length < m; omega) (by
      simp -implicitDefEqProofs (maxSteps := 3000000))
    (by
      rintro i s hi ⟨g, v, rfl⟩
      have w2 := wrap_id (n := (i : Int) + 1) (by omega)
      have c := hF m (by omega) i hi
      have hl := lt_bound (n := i) (by omega)
      have hs := tabI_succ (fun j => F (rn V j)) i
      simp -implicitDefEqProofs (maxSteps := 3000000) [hi, w2, c, hl, le_bound (n := i) (by omega), hs, hc])
    (by
      rintro s ⟨g, v, rfl⟩
      simp -implicitDefEqProofs (maxSteps := 3000000))
  obtain ⟨s, v, rfl, hf⟩ := hqq
  simp -implicitDefEqProofs (maxSteps := 3000000) [hf, tab_map F]
theorem ct_changedValuesG (n : Nat) (hn : B + 3 ≤ n) (D : Int) (V : List Int) (hV : V.length ≤ 10000000) (c : Nat) (b : List YtnfhglplafmfiaaGreatE.D) (F : Int → Int) (L : Nat) (hL : L + 2 ≤ n)
    (hF : ∀ m, L ≤ m → ∀ i < V.length, evalCall Tryz.prog An m c (.d (.int .i64 (rn V i)) :: b.map ofD) [] = some ⟨.d (.int .i64 (F (rn V i))), [], []⟩) (hc : c ∉ An.lend) :
    evalCall Tryz.prog An n 164 [.agg [.d (.int .i64 D), .d (ints V)], .d (.clo c [] b)] [] = some ⟨.agg [.d (.int .i64 D), .own 0 0], [.row (icells (V.map F))], []⟩ := by
  obtain ⟨m, rfl⟩ : ∃ m, n = m + 1 := ⟨n - 1, by omega⟩
  have hB := B_eq
  simp only [evalCall_at, fb164, bnd_some, bodyOf, Tryz.f164, Option.getD_some]
  have c := ct_mappedG m (by omega) V hV c b F L (by omega) hF hc
  simp -implicitDefEqProofs (maxSteps := 3000000) [c]
theorem ct_embedded1 (n : Nat) (hn : B + 1 ≤ n) (q : Int) (x : Int) (h : -9223372036854775808 ≤ q * x ∧ q * x < 9223372036854775808) :
    evalCall Tryz.prog An n 165 [.d (.int .i64 x), .d (.cellp [.int .i64 q])] [] = some ⟨.d (.int .i64 (q * x)), [], []⟩ := by
  obtain ⟨m, rfl⟩ : ∃ m, n = m + 1 := ⟨n - 1, by omega⟩
  have hB := B_eq
  simp only [evalCall_at, fb165, bnd_some, bodyOf, Tryz.f165, Option.getD_some]
  have w := wrap_id h
  simp -implicitDefEqProofs (maxSteps := 3000000) [w]
theorem ct_embedded (n : Nat) (hn : B + 3 + 3 ≤ n) (D : Int) (V : List Int) (hV : V.length ≤ 10000000) (q : Int) (hq : ∀ i < V.length, -9223372036854775808 ≤ q * rn V i ∧ q * rn V i < 9223372036854775808) :
    evalCall Tryz.prog An n 78 [.d (.int .i64 q), .agg [.d (.int .i64 D), .d (ints V)]] [] = some ⟨.agg [.d (.int .i64 D), .own 0 0], [.row (icells (timesU V q))], []⟩ := by
  obtain ⟨m, rfl⟩ : ∃ m, n = m + 1 := ⟨n - 1, by omega⟩
  have hB := B_eq
  simp only [evalCall_at, fb78, bnd_some, bodyOf, Tryz.f78, Option.getD_some]
  have c := ct_changedValuesG m (by omega) D V hV 165 [.cellp [.int .i64 q]] (fun x => q * x) (B + 1) (by omega) (fun m hm i hi => by
    simpa using ct_embedded1 m (by omega) q (rn V i) (hq i hi)) (by simp -implicitDefEqProofs (maxSteps := 3000000))
  simp -implicitDefEqProofs (maxSteps := 3000000) [c, timesU]
theorem ct_unitsOfG (n : Nat) (hn : B + 2 ≤ n) (T : List (List Int)) (hT : T.length ≤ 10000000) (k : Int) (h1 : 1 ≤ T.length) (c : Nat) (b : List D) (F : Nat → Int) (L : Nat) (hL : L + 1 ≤ n)
    (hF : ∀ m, L ≤ m → ∀ i < T.length, evalCall Tryz.prog An m c (.d (.int .i64 i) :: b.map ofD) [] = some ⟨.d (.int .i64 (F i)), [], []⟩) (hc : c ∉ An.lend) :
    evalCall Tryz.prog An n 161 [.agg [.d (intss T)], .d (.int .i64 k), .d (.clo c [] b)] [] = some ⟨.agg [.d (.int .i64 k), .own 0 0], [.row (icells (tabI F T.length))], []⟩ := by
  obtain ⟨m, rfl⟩ : ∃ m, n = m + 1 := ⟨n - 1, by omega⟩
  have hB := B_eq
  simp only [evalCall_at, fb161, bnd_some, bodyOf, Tryz.f161, Option.getD_some]
  generalize hb0 : Code.loop _ = cc0
  obtain rfl : cc0 = .loop (lp Tryz.f161 0) := by rw [← hb0]; rfl
  clear hb0
  simp -implicitDefEqProofs (maxSteps := 3000000) at hc
  have c0 := ct_order m (by omega) T
  simp -implicitDefEqProofs (maxSteps := 3000000) [c0]
  generalize hx : loopC _ _ _ = x
  generalize hl : lp Tryz.f161 0 = L at hx
  simp only [lp, bodyOf, Tryz.f161, Option.getD_some, loopsIn, List.append_nil, List.nil_append, List.cons_append, List.getD, List.getElem?_cons_zero, List.getElem?_cons_succ] at hl
  subst hl
  obtain ⟨p, rfl, hp⟩ := loop_end hx T.length (fun i s => (i = 0 ∧ ∃ g, s = ⟨[(2, .d (.clo c [] b)), (6, .ptr 96 2 0), (7, .ptr 112 5 0), (12, .d (.int .i64 T.length)), (13, .d (.int .i64 i))], [(96, some (2, .box [.d (.int .i64 0), .d .nil])), (112, some (5, .box [.d (.int .i64 k), .d .nil]))], g⟩) ∨
      (0 < i ∧ ∃ g v, s = ⟨[(2, .d (.clo c [] b)), (6, .ptr 96 2 0), (7, .ptr 112 5 0), (12, .d (.int .i64 T.length)), (13, .d (.int .i64 i))], [(96, some (2, .box [.d (.int .i64 0), .d .nil])), (112, some (5, .box [.d (.int .i64 k), .own 352 v])), (352, some (v, .row (icells (tabI F i))))], g⟩))
    (fun p => ∃ s v, p = (.exit 0, s) ∧ lookL s.env 6 = some (.ptr 96 2 0) ∧ lookL s.env 7 = some (.ptr 112 5 0) ∧ obsL s.obs 96 = some (2, .box [.d (.int .i64 0), .d .nil]) ∧ obsL s.obs 112 = some (5, .box [.d (.int .i64 k), .own 352 v]) ∧ obsL s.obs 352 = some (v, .row (icells (tabI F T.length))))
    (by show T.length < m; omega) (by simp -implicitDefEqProofs (maxSteps := 3000000))
    (by
      rintro i s hi h
      have w2 := wrap_id (n := (i : Int) + 1) (by omega)
      have c := hF m (by omega) i hi
      have hl := lt_bound (n := i) (by omega)
      have hs := tabI_succ F i
      rcases h with ⟨rfl, g, rfl⟩ | ⟨h0, g, v, rfl⟩
      · have w3 := wrap_id (n := 1) (by omega)
        have hs : icells (tabI F 1) = [D.int .i64 (F 0)] := by simp -implicitDefEqProofs (maxSteps := 3000000) [← hs, icells]
        simp -implicitDefEqProofs (maxSteps := 3000000) at c
        simp -implicitDefEqProofs (maxSteps := 3000000) [hi, w3, c, hs, hc, bound]
      · simp -implicitDefEqProofs (maxSteps := 3000000) [hi, w2, c, hl, le_bound (n := i) (by omega), hs, hc])
    (by
      rintro s (⟨h, g, rfl⟩ | ⟨h0, g, v, rfl⟩)
      · omega
      · simp -implicitDefEqProofs (maxSteps := 3000000))
  obtain ⟨s, v, rfl, hf⟩ := hp
  simp -implicitDefEqProofs (maxSteps := 3000000) [hf]
theorem ct_reduced1 (n : Nat) (hn : B + 1 ≤ n) (M : Int) (U : List Int) (k : Int) (hk : 0 < k) (i : Nat) (hi : i < U.length) (h0 : 0 ≤ rn U i) :
    evalCall Tryz.prog An n 162 [.d (.int .i64 i), .d (.cellp [.int .i64 M, ints U]), .d (.cellp [.int .i64 k])] [] = some ⟨.d (.int .i64 (rn U i % k)), [], []⟩ := by
  obtain ⟨m, rfl⟩ : ∃ m, n = m + 1 := ⟨n - 1, by omega⟩
  have hB := B_eq
  simp only [evalCall_at, fb162, bnd_some, bodyOf, Tryz.f162, Option.getD_some]
  have tm := tmod_nn k h0
  have hz : k ≠ 0 := by omega
  simp -implicitDefEqProofs (maxSteps := 3000000) [tm, hz, hi]
theorem ct_reduced (n : Nat) (hn : B + 3 + 2 ≤ n) (T : List (List Int)) (h1 : 1 ≤ T.length) (M : Int) (U : List Int) (hU : U.length ≤ 10000000) (hl : U.length = T.length) (h0 : ∀ i < U.length, 0 ≤ rn U i) (k : Int) (hk : 0 < k) :
    evalCall Tryz.prog An n 75 [.agg [.d (intss T)], .agg [.d (.int .i64 M), .d (ints U)], .d (.int .i64 k)] [] = some ⟨.agg [.d (.int .i64 k), .own 0 0], [.row (icells (restU U k))], []⟩ := by
  obtain ⟨m, rfl⟩ : ∃ m, n = m + 1 := ⟨n - 1, by omega⟩
  have hB := B_eq
  simp only [evalCall_at, fb75, bnd_some, bodyOf, Tryz.f75, Option.getD_some]
  have c := ct_unitsOfG m (by omega) T (by omega) k h1 162 [.cellp [.int .i64 M, ints U], .cellp [.int .i64 k]] (fun i => rn U i % k) (B + 1) (by omega) (fun m hm i hi => by
    simpa using ct_reduced1 m (by omega) M U k hk i (by omega) (h0 i (by omega))) (by simp -implicitDefEqProofs (maxSteps := 3000000))
  rw [← hl, tab_map (fun x => x % k)] at c
  simp -implicitDefEqProofs (maxSteps := 3000000) [c, restU]
/-! ## a reduced module is a module -/
theorem red_unit : ∀ M q u : Fin 13, 2 ≤ q.val → M.val % q.val = 0 → u.val < M.val → Nat.gcd u.val M.val = 1 → 1 ≤ u.val % q.val ∧ Nat.gcd (u.val % q.val) q.val = 1 := by decide +kernel
theorem isMo_red {T : List (List Int)} {M q : Int} {U : List Int} (hR : RowsOk T) (h : IsMo T M U) (hq : 2 ≤ q) (hqM : q ≤ M) (hd : M % q = 0) : IsMo T q (restU U q) := by
  obtain ⟨⟨hM, hl⟩, hu, hp⟩ := h
  have hlen : (restU U q).length = U.length := by simp -implicitDefEqProofs (maxSteps := 3000000) [restU]
  have hr : ∀ i, i < U.length → rn (restU U q) i = rn U i % q := fun i hi => rn_map (fun x => x % q) U hi
  refine ⟨⟨⟨hq, by omega⟩, by rw [hlen, hl]⟩, fun i hi => ?_, fun a ha b hb => ?_⟩
  · rw [hlen] at hi
    rw [hr i hi]
    obtain ⟨hr1, hg⟩ := hu i hi
    generalize rn U i = u at *
    obtain ⟨M', rfl⟩ := Int.eq_ofNat_of_zero_le (show 0 ≤ M by omega)
    obtain ⟨q', rfl⟩ := Int.eq_ofNat_of_zero_le (show 0 ≤ q by omega)
    obtain ⟨u', rfl⟩ := Int.eq_ofNat_of_zero_le (show 0 ≤ u by omega)
    unfold gcdI at hg
    rw [Int.toNat_natCast, Int.toNat_natCast] at hg
    have z := red_unit ⟨M', by omega⟩ ⟨q', by omega⟩ ⟨u', by omega⟩ (show 2 ≤ q' by omega) (show M' % q' = 0 by exact_mod_cast hd) (show u' < M' by omega) (show Nat.gcd u' M' = 1 by omega)
    have z1 : 1 ≤ u' % q' := z.1
    have z2 : Nat.gcd (u' % q') q' = 1 := z.2
    have z3 : u' % q' < q' := Nat.mod_lt _ (by omega)
    have e : (u' : Int) % (q' : Int) = ((u' % q' : Nat) : Int) := by rw [Int.natCast_emod]
    unfold Unit1 gcdI
    rw [e, Int.toNat_natCast, Int.toNat_natCast, z2]
    omega
  · rw [hlen] at ha hb
    have hc := (hR.2 a (by omega)).2 b (by omega)
    rw [hr _ (by omega), hr a ha, hr b hb, hp a ha b hb, Int.emod_emod_of_dvd _ (Int.dvd_of_emod_eq_zero hd), Int.mul_emod]
theorem div_ok {M k : Int} (hM : 2 ≤ M) (h : 2 ≤ k ∧ k ≤ M.tdiv 2 ∧ M.tmod k = 0) : (2 ≤ k ∧ k ≤ M ∧ M % k = 0) ∧ M.tdiv k = M / k ∧ (2 ≤ M / k ∧ M / k ≤ M ∧ M % (M / k) = 0) := by
  have h' := (half hM h.1 h.2.2).2 h.2.1
  have hd : M % k = 0 := by rw [← tmod_nn k (by omega)]; exact h.2.2
  have e : M = k * (M / k) := (Int.mul_ediv_cancel' (Int.dvd_of_emod_eq_zero hd)).symm
  have h1 : 1 ≤ M / k := Int.le_ediv_of_mul_le (show 0 < k by omega) (show 1 * k ≤ M by omega)
  have h2 : M / k ≠ 1 := fun q => by rw [q] at e; omega
  refine ⟨⟨h.1, by omega, hd⟩, Int.tdiv_eq_ediv_of_nonneg (by omega), by omega, Int.ediv_le_self k (by omega), ?_⟩
  exact Int.emod_eq_zero_of_dvd ⟨k, by rw [Int.mul_comm]; exact e⟩
/-! ## the code of a cochain of a reduced module -/
theorem ct_l08Given_bad (n : Nat) (hn : B + 5 ≤ n) (T : List (List Int)) (hT : T.length ≤ 2000000) (M : Int) (U : List Int) (hU : U.length ≤ 2000000) (k q D : Int) (V : List Int) (h : icode T M U k ≠ 0) :
    evalCall Tryz.prog An n 88 [.agg [.d (intss T)], .agg [.d (.int .i64 M), .d (ints U)], .d (.int .i64 k), .d (.int .i64 q), .agg [.d (.int .i64 D), .d (ints V)]] [] = some ⟨.d (.int .i64 (icode T M U k)), [], []⟩ := by
  obtain ⟨m, rfl⟩ : ∃ m, n = m + 1 := ⟨n - 1, by omega⟩
  have hB := B_eq
  simp only [evalCall_at, fb88, bnd_some, bodyOf, Tryz.f88, Option.getD_some]
  by_cases G : GM T M U
  · have c := ct_l08Code m (by omega) T hT M U hU k G
    have e : icode T M U k = dcode M k := if_pos G
    rw [e] at h
    have h2 := bne_t h
    simp -implicitDefEqProofs (maxSteps := 3000000) [c, e, h, h2]
  · have c := ct_l08Code_1 m (by omega) T hT M U hU k G
    have e : icode T M U k = 1 := if_neg G
    simp -implicitDefEqProofs (maxSteps := 3000000) [c, e]
theorem ct_l08Given (n : Nat) (hn : B + 5 ≤ n) (T : List (List Int)) (hT : T.length ≤ 2000000) (M : Int) (U : List Int) (hU : U.length ≤ 2000000) (k q D : Int) (V : List Int) (hV : V.length ≤ 10000000) (G : GM T M U) (hk : 2 ≤ k ∧ k ≤ M.tdiv 2 ∧ M.tmod k = 0) (hq : 2 ≤ q ∧ q ≤ M ∧ M % q = 0) :
    evalCall Tryz.prog An n 88 [.agg [.d (intss T)], .agg [.d (.int .i64 M), .d (ints U)], .d (.int .i64 k), .d (.int .i64 q), .agg [.d (.int .i64 D), .d (ints V)]] [] = some ⟨.d (.int .i64 (ccode T q (restU U q) D V)), [], []⟩ := by
  obtain ⟨m, rfl⟩ : ∃ m, n = m + 1 := ⟨n - 1, by omega⟩
  have hB := B_eq
  simp only [evalCall_at, fb88, bnd_some, bodyOf, Tryz.f88, Option.getD_some]
  have c := ct_l08Code m (by omega) T hT M U hU k G
  rw [dcode_0 hk] at c
  have c2 := ct_l02Reduced m (by omega) M U (by omega) (fun i hi => by have := (G.2.2.1 i hi).1; omega) q (by omega)
  have c3 := ct_l03Code1 m (by omega) T q (restU U q) (by simp -implicitDefEqProofs (maxSteps := 3000000) [restU]; omega) ⟨G.1, isMo_red G.1.1 G.2 hq.1 hq.2.1 hq.2.2⟩ D V hV
  simp -implicitDefEqProofs (maxSteps := 3000000) [c, c2, c3]
end Go.Proofs.YtnfhglplafmfiaaGreatE
