/- Contracts of functions of the program and of the reference: what the evaluator gives for a call of each. -/
import Derived.Test.YtnfhglplafmfiaaGreatAEf
import Derived.Test.YtnfhglplafmfiaaGreatK1M
import Derived.Test.YtnfhglplafmfiaaGreatK15
import Derived.Test.YtnfhglplafmfiaaGreatK17
import Derived.Test.YtnfhglplafmfiaaGreatK31
import Derived.Test.YtnfhglplafmfiaaGreatK90M
import Derived.Test.YtnfhglplafmfiaaGreatK92
import Derived.Test.YtnfhglplafmfiaaGreatK100M
import Derived.Test.YtnfhglplafmfiaaGreatK102M
import Derived.Test.YtnfhglplafmfiaaGreatK105M
import Derived.Test.YtnfhglplafmfiaaGreatK3M
import Derived.Test.YtnfhglplafmfiaaGreatK94
import Derived.Test.YtnfhglplafmfiaaGreatK98M
import Derived.Test.YtnfhglplafmfiaaGreatK103
namespace Go.Proofs.YtnfhglplafmfiaaGreatE
open Go Go.Proofs
set_option maxHeartbeats 16000000
set_option maxRecDepth 8000
set_option linter.unusedSimpArgs false
set_option linter.unusedVariables false
set_option pp.deepTerms false
set_option pp.deepTerms.threshold 10
/-! ## the size of a span by another one -/
def prP (a b : Nat → Int) (N : Nat) : Nat → Int
  | 0 => 1
  | i + 1 => prP a b N i * szF a b N (rn [2, 3, 5, 7, 11] i)
theorem prP_5 {a b : Nat → Int} {N : Nat} (h : AB a b N) : prP a b N 5 = quoP a b N := by
  rw [(quoP_eq h N (Nat.le_refl _)).2]
  simp -implicitDefEqProofs (maxSteps := 3000000) [prP, rn]
theorem prime5 {i : Nat} (h : i < 5) : 2 ≤ rn [2, 3, 5, 7, 11] i ∧ rn [2, 3, 5, 7, 11] i ≤ 11 := by
  have : i = 0 ∨ i = 1 ∨ i = 2 ∨ i = 3 ∨ i = 4 := by omega
  rcases this with rfl | rfl | rfl | rfl | rfl <;> decide
theorem exS_nn {a b : Nat → Int} {N : Nat} (h : AB a b N) {i : Nat} (hi : i < 5) : 0 ≤ exS a b (rn [2, 3, 5, 7, 11] i) N := by
  obtain ⟨⟨z1, z2, z3, z4, z5⟩, _⟩ := quoP_eq h N (Nat.le_refl _)
  have : i = 0 ∨ i = 1 ∨ i = 2 ∨ i = 3 ∨ i = 4 := by omega
  rcases this with rfl | rfl | rfl | rfl | rfl
  · exact z1
  · exact z2
  · exact z3
  · exact z4
  · exact z5
theorem ct_sizeBy (n : Nat) (hn : B + 2 ≤ n) (M : Int) (hM : 2 ≤ M ∧ M ≤ 12) (N : Nat) (hN : N ≤ 10000) (R R' : List (List Int)) (S : Rws M N R) (S' : Rws M N R') (h : AB (sval M R) (sval M R') N) :
    evalCall Tryz.prog An n 100 [.d (spd M R), .d (spd M R')] [] = some ⟨.d (.int .i64 (IntKind.wrap .i64 (quoP (sval M R) (sval M R') N))), [], []⟩ := by
  obtain ⟨m, rfl⟩ : ∃ m, n = m + 1 := ⟨n - 1, by omega⟩
  have hB := B_eq
  simp only [evalCall_at, fb100, bnd_some, bodyOf, Tryz.f100, Option.getD_some]
  generalize hb0 : Code.loop _ = cc0
  obtain rfl : cc0 = .loop (lp Tryz.f100 0) := by rw [← hb0]; rfl
  clear hb0
  have c1 := ct_steps m (by omega) M hM N hN R S
  have c2 := ct_steps m (by omega) M hM N hN R' S'
  rw [← prP_5 h]
  have h5 : rn (stpL M R N) = rn (stpL M R N) := rfl
  have ga : ∀ j < N, rn (stpL M R N) j = sval M R j := fun j hj => stpL_get (by omega) hj
  have gb : ∀ j < N, rn (stpL M R' N) j = sval M R' j := fun j hj => stpL_get (by omega) hj
  have la := stpL_len M R N
  have lb := stpL_len M R' N
  generalize sval M R = a at *
  generalize sval M R' = b at *
  generalize stpL M R N = LA at *
  generalize stpL M R' N = LB at *
  have w1 : IntKind.wrap .i64 1 = 1 := wrap_id (by omega)
  simp -implicitDefEqProofs (maxSteps := 3000000) [c1, c2, la, lb]
  generalize hx : loopC _ _ _ = z
  generalize hl : lp Tryz.f100 0 = L at hx
  simp only [lp, bodyOf, Tryz.f100, Option.getD_some, loopsIn, List.append_nil, List.nil_append, List.cons_append, List.getD, List.getElem?_cons_zero, List.getElem?_cons_succ] at hl
  subst hl
  generalize hb1 : Code.loop _ = cc1 at hx
  generalize hb2 : Code.loop _ = cc2 at hx
  obtain rfl : cc1 = .loop (lp Tryz.f100 1) := by rw [← hb1]; rfl
  clear hb1
  obtain rfl : cc2 = .loop (lp Tryz.f100 2) := by rw [← hb2]; rfl
  clear hb2
  obtain ⟨qq, rfl, s, hqq⟩ := loop_end hx 5 (fun i s => ∃ g, s = ⟨[(5, .own 208 3), (6, .own 240 5), (7, .d (.int .i64 (IntKind.wrap .i64 (prP a b N i)))), (16, .own 256 9), (17, .d (.int .i64 5)), (18, .d (.int .i64 (i : Int)))], [(208, some (3, .row (icells LA))), (240, some (5, .row (icells LB))), (256, some (9, .row (icells [2, 3, 5, 7, 11])))], g⟩)
    (fun qq => ∃ s, qq = (.exit 0, s) ∧ lookL s.env 7 = some (.d (.int .i64 (IntKind.wrap .i64 (prP a b N 5)))))
    (by show 5 < m; omega) (by simp -implicitDefEqProofs (maxSteps := 3000000) [prP, w1]; rfl)
    (by
      rintro i s hi ⟨g, rfl⟩
      have w2 := wrap_id (n := (i : Int) + 1) (by omega)
      have hp := prime5 hi
      have hnn := exS_nn h hi
      have hi5 : (i : Int) < 5 := by omega
      simp -implicitDefEqProofs (maxSteps := 3000000) [hi, hi5, la, lb]
      have hprs : prP a b N (i + 1) = prP a b N i * szF a b N (rn [2, 3, 5, 7, 11] i) := rfl
      rw [hprs]
      generalize rn [2, 3, 5, 7, 11] i = p at *
      generalize prP a b N i = c0 at *
      generalize hx : loopC _ _ _ = y
      generalize hl : lp Tryz.f100 1 = L at hx
      simp only [lp, bodyOf, Tryz.f100, Option.getD_some, loopsIn, List.append_nil, List.nil_append, List.cons_append, List.getD, List.getElem?_cons_zero, List.getElem?_cons_succ] at hl
      subst hl
      obtain ⟨qq, rfl, s, hqq⟩ := loop_end hx N (fun j s => ∃ g, s = ⟨[(5, .own 208 3), (6, .own 240 5), (7, .d (.int .i64 (IntKind.wrap .i64 c0))), (9, .d (.int .i64 p)), (10, .d (.int .i64 (exS a b p j))), (16, .own 256 9), (17, .d (.int .i64 5)), (18, .d (.int .i64 (i : Int))), (23, .d (.int .i64 (N : Int))), (24, .d (.int .i64 (j : Int)))], [(208, some (3, .row (icells LA))), (240, some (5, .row (icells LB))), (256, some (9, .row (icells [2, 3, 5, 7, 11])))], g⟩)
        (fun qq => ∃ s, qq = (.exit 2, s) ∧ Has s [(5, .own 208 3), (6, .own 240 5), (7, .d (.int .i64 (IntKind.wrap .i64 c0))), (9, .d (.int .i64 p)), (10, .d (.int .i64 (exS a b p N))), (16, .own 256 9), (17, .d (.int .i64 5)), (18, .d (.int .i64 (i : Int)))] [(208, some (3, .row (icells LA))), (209, none), (210, none), (211, none), (240, some (5, .row (icells LB))), (241, none), (242, none), (243, none), (256, some (9, .row (icells [2, 3, 5, 7, 11])))])
        (by show N < m; omega) (by simp -implicitDefEqProofs (maxSteps := 3000000) [exS])
        (by
          rintro j s hj ⟨g, rfl⟩
          have w3 := wrap_id (n := (j : Int) + 1) (by omega)
          obtain ⟨b1, b2, _⟩ := h j hj
          have e1 := ct_exponent m (by omega) p (a j) hp b1
          have e2 := ct_exponent m (by omega) p (b j) hp b2
          have x1 := exS_bd h hp j (by omega)
          have x2 := exS_bd h hp (j + 1) (by omega)
          have e3 : exS a b p (j + 1) = exS a b p j + ((exV p (a j) : Int) - exV p (b j)) := rfl
          have w4 := wrap_id (n := (exV p (a j) : Int) - exV p (b j)) (by omega)
          have w5 := wrap_id (n := exS a b p j + ((exV p (a j) : Int) - exV p (b j))) (by omega)
          have ja : j < LA.length := by omega
          have jb : j < LB.length := by omega
          have g1 := ga j hj
          have g2 := gb j hj
          simp -implicitDefEqProofs (maxSteps := 3000000) [hj, ja, jb, g1, g2, e1, e2, w3, w4, w5, e3])
        (by
          rintro s ⟨g, rfl⟩
          simp -implicitDefEqProofs (maxSteps := 3000000))
      obtain ⟨rfl, hf⟩ := hqq
      simp only [Has, hasE, hasO] at hf
      simp -implicitDefEqProofs (maxSteps := 3000000) [hf]
      obtain ⟨K, hK⟩ : ∃ K : Nat, exS a b p N = (K : Int) := ⟨(exS a b p N).toNat, by omega⟩
      have hKb := exS_bd h hp N (by omega)
      have hsz : szF a b N p = p ^ K := by unfold szF; rw [hK]; rfl
      rw [hsz, hK]
      generalize hx : loopC _ _ _ = y
      generalize hl : lp Tryz.f100 2 = L at hx
      simp only [lp, bodyOf, Tryz.f100, Option.getD_some, loopsIn, List.append_nil, List.nil_append, List.cons_append, List.getD, List.getElem?_cons_zero, List.getElem?_cons_succ] at hl
      subst hl
      obtain ⟨qq, rfl, s, hqq⟩ := loop_end hx K (fun j s => ∃ g, s = ⟨[(5, .own 208 3), (6, .own 240 5), (7, .d (.int .i64 (IntKind.wrap .i64 (c0 * p ^ j)))), (9, .d (.int .i64 p)), (16, .own 256 9), (17, .d (.int .i64 5)), (18, .d (.int .i64 (i : Int))), (43, .d (.int .i64 (K : Int))), (44, .d (.int .i64 (j : Int)))], [(208, some (3, .row (icells LA))), (240, some (5, .row (icells LB))), (256, some (9, .row (icells [2, 3, 5, 7, 11])))], g⟩)
        (fun qq => ∃ s, qq = (.exit 4, s) ∧ Has s [(5, .own 208 3), (6, .own 240 5), (7, .d (.int .i64 (IntKind.wrap .i64 (c0 * p ^ K)))), (16, .own 256 9), (17, .d (.int .i64 5)), (18, .d (.int .i64 (i : Int)))] [(208, some (3, .row (icells LA))), (209, none), (210, none), (211, none), (240, some (5, .row (icells LB))), (241, none), (242, none), (243, none), (256, some (9, .row (icells [2, 3, 5, 7, 11])))])
        (by show K < m; omega) (by simp -implicitDefEqProofs (maxSteps := 3000000) [hf, hK])
        (by
          rintro j s hj ⟨g, rfl⟩
          have w3 := wrap_id (n := (j : Int) + 1) (by omega)
          have e3 : c0 * p ^ (j + 1) = c0 * p ^ j * p := by rw [Int.pow_succ, Int.mul_assoc]
          simp -implicitDefEqProofs (maxSteps := 3000000) [hj, w3, wrap_mul, e3])
        (by
          rintro s ⟨g, rfl⟩
          simp -implicitDefEqProofs (maxSteps := 3000000))
      obtain ⟨rfl, hf⟩ := hqq
      simp only [Has, hasE, hasO] at hf
      simp -implicitDefEqProofs (maxSteps := 3000000) [hf, w2])
    (by
      rintro s ⟨g, rfl⟩
      simp -implicitDefEqProofs (maxSteps := 3000000))
  obtain ⟨rfl, h3⟩ := hqq
  simp -implicitDefEqProofs (maxSteps := 3000000) [h3]
theorem ct_isRanked (n : Nat) (hn : B + 10 ≤ n) (T : List (List Int)) (hT : 1 ≤ T.length ∧ T.length ≤ 8) (d : Nat) (hD : d ≤ 4) :
    evalCall Tryz.prog An n 74 [.agg [.d (intss T)], .d (.int .i64 d)] [] = some ⟨.d (.bool (decide ((T.length - 1) ^ d ≤ 49))), [], []⟩ := by
  obtain ⟨m, rfl⟩ : ∃ m, n = m + 1 := ⟨n - 1, by omega⟩
  have hB := B_eq
  simp only [evalCall_at, fb74, bnd_some, bodyOf, Tryz.f74, Option.getD_some]
  have c1 := ct_cells4 m (by omega) T hT d hD
  rw [pow_cast hT.1] at c1
  generalize (T.length - 1) ^ d = K at *
  have e : ((K : Int) ≤ 49) ↔ K ≤ 49 := by norm_cast
  simp -implicitDefEqProofs (maxSteps := 3000000) [c1, e]
end Go.Proofs.YtnfhglplafmfiaaGreatE

namespace Go.Proofs.YtnfhglplafmfiaaGreatE
open Go Go.Proofs
set_option maxHeartbeats 16000000
set_option maxRecDepth 8000
set_option linter.unusedSimpArgs false
set_option linter.unusedVariables false
set_option pp.deepTerms false
set_option pp.deepTerms.threshold 10
/-! ## rows read as data -/
def rinD (r : List Int) : YtnfhglplafmfiaaGreatE.D := if r = [] then .nil else ints r
def rcells (R : List (List Int)) : List YtnfhglplafmfiaaGreatE.D := R.map rinD
@[simp] theorem rinD_nil : rinD [] = .nil := rfl
theorem rinD_ne {r : List Int} (h : r ≠ []) : rinD r = ints r := if_neg h
@[simp] theorem rcells_length (R : List (List Int)) : (rcells R).length = R.length := by simp -implicitDefEqProofs (maxSteps := 3000000) [rcells]
@[simp] theorem wk_pcells (R : List (List Int)) : (pcells R).map wk1 = rcells R := by
  simp only [pcells, rcells, List.map_map]
  apply List.map_congr_left
  intro r _
  show wk1 (pinD r) = rinD r
  unfold pinD rinD
  split <;> rfl
@[simp] theorem rcells_get (R : List (List Int)) (k : Nat) : (rcells R)[k]? = if k < R.length then some (rinD (rown R k)) else none := by
  by_cases h : k < R.length
  · simp -implicitDefEqProofs (maxSteps := 3000000) [rcells, rown, h, List.getD]
  · simp -implicitDefEqProofs (maxSteps := 3000000) [rcells, h]
@[simp] theorem rcells_getE (R : List (List Int)) (k : Nat) (h : k < (rcells R).length) : (rcells R)[k] = rinD (rown R k) := by
  have := rcells_get R k
  rw [List.getElem?_eq_getElem h, if_pos (by simpa using h)] at this
  exact Option.some.inj this
/-! ## the number of classes in an image -/
/-- The boundaries of the places' rows of the degree below. -/
noncomputable def bdL (T : List (List Int)) (M : Int) (U : List Int) (d : Nat) : List (List Int) := if d = 0 then [] else bds T M U (d - 1) ((T.length - 1) ^ (d - 1))
theorem ct_imageOrder (n : Nat) (hn : B + 40 ≤ n) (T : List (List Int)) (R0 : RowsOk T) (e0 : ∀ a < T.length, cl T 0 a = a) (Mf : Int) (hMf : 2 ≤ Mf ∧ Mf ≤ 12) (Uf : List Int) (hUf : Uf.length = T.length) (bUf : ∀ i < Uf.length, 0 ≤ rn Uf i ∧ rn Uf i ≤ 11) (p : Nat) (hp : p ≤ 3)
    (Mt : Int) (hMt : 2 ≤ Mt ∧ Mt ≤ 12) (Ut : List Int) (hUt : Ut.length = T.length) (bUt : ∀ i < Ut.length, 0 ≤ rn Ut i ∧ rn Ut i ≤ 11) (d : Nat) (hd : d ≤ 3)
    (c : Nat) (b : List YtnfhglplafmfiaaGreatE.D) (h : List Int → List Int) (D' : Int) (L : Nat) (hL : L + 1 ≤ n)
    (hF : ∀ m, L ≤ m → ∀ r, Vec Mf ((T.length - 1) ^ p) r → evalCall Tryz.prog An m c (.agg [.d (.int .i64 p), .d (ints r)] :: b.map ofD) [] = some ⟨.agg [.d (.int .i64 D'), .own 0 0], [.row (icells (h r))], []⟩)
    (hV : ∀ r, Vec Mf ((T.length - 1) ^ p) r → Vec Mt ((T.length - 1) ^ d) (h r)) (hc : c ∉ An.lend) :
    ∃ Rz, (Sat Mf ((T.length - 1) ^ p) Rz [] ∧ ∀ u, Sp Mf (GR Rz 0) u ↔ Zc T Mf Uf p u) ∧ ∃ Rb, (Sat Mt ((T.length - 1) ^ d) Rb [] ∧ ∀ u, Sp Mt (GR Rb 0) u ↔ Sp Mt (GL (bdL T Mt Ut d)) u) ∧
      ∃ Ra, (Sat Mt ((T.length - 1) ^ d) Ra [] ∧ ∀ u, Sp Mt (GR Ra 0) u ↔ Sp Mt (GL (bdL T Mt Ut d ++ imgs h Rz ((T.length - 1) ^ p))) u) ∧
      evalCall Tryz.prog An n 76 [.agg [.d (intss T)], .agg [.d (.int .i64 Mf), .d (ints Uf)], .d (.int .i64 p), .agg [.d (.int .i64 Mt), .d (ints Ut)], .d (.int .i64 d), .d (.clo c [] b)] [] =
        some ⟨.d (.int .i64 (IntKind.wrap .i64 (quoP (sval Mt Ra) (sval Mt Rb) ((T.length - 1) ^ d)))), [], []⟩ := by
  obtain ⟨m, rfl⟩ : ∃ m, n = m + 1 := ⟨n - 1, by omega⟩
  have hB := B_eq
  simp only [evalCall_at, fb76, bnd_some, bodyOf, Tryz.f76, Option.getD_some]
  generalize hb0 : Code.loop _ = cc0
  obtain rfl : cc0 = .loop (lp Tryz.f76 0) := by rw [← hb0]; rfl
  clear hb0
  simp -implicitDefEqProofs (maxSteps := 3000000) at hc
  have hT := R0.1
  have hb := pow_bdN (N := T.length) (p := p) hT.2 (by omega)
  have hb2 := pow_bdN (N := T.length) (p := d) hT.2 (by omega)
  obtain ⟨Rz, Sz, hZ, cz⟩ := ct_cocycles m (by omega) T R0 e0 Mf hMf Uf hUf bUf p hp
  obtain ⟨Rb, Sb, hB, cb⟩ := ct_boundings m (by omega) T R0 e0 Mt hMt Ut hUt bUt d hd
  have hZ2 : ∀ u, Sp Mf (GR Rz 0) u ↔ Zc T Mf Uf p u := fun u => (hZ u).trans (zc_iff R0 Mf Uf p u)
  have hB2 : ∀ u, Sp Mt (GR Rb 0) u ↔ Sp Mt (GL (bdL T Mt Ut d)) u := hB
  have lz := Sz.rws.len
  clear hZ hB
  generalize hP : (T.length - 1) ^ p = P at *
  generalize hQ : (T.length - 1) ^ d = Q at *
  refine ⟨Rz, ⟨Sz, hZ2⟩, Rb, ⟨Sb, hB2⟩, ?_⟩
  simp -implicitDefEqProofs (maxSteps := 3000000) [cz, cb, pcD, lz]
  generalize hx : loopC _ _ _ = z
  generalize hl : lp Tryz.f76 0 = L at hx
  simp only [lp, bodyOf, Tryz.f76, Option.getD_some, loopsIn, List.append_nil, List.nil_append, List.cons_append, List.getD, List.getElem?_cons_zero, List.getElem?_cons_succ] at hl
  subst hl
  obtain ⟨qq, rfl, s, Ra, hqq⟩ := loop_end hx P (fun i s => ∃ g v Ra, (Sat Mt Q Ra [] ∧ ∀ u, Sp Mt (GR Ra 0) u ↔ Sp Mt (GL (bdL T Mt Ut d ++ imgs h Rz i)) u) ∧ s = ⟨[(2, .d (.int .i64 (p : Int))), (5, .d (.clo c [] b)), (13, .ptr 320 v 0), (14, .ptr 384 12 0), (31, .d (.sl 1 (rcells Rz))), (32, .d (.int .i64 (P : Int))), (33, .d (.int .i64 (i : Int)))], [(320, some (v, spn Mt Ra)), (384, some (12, spn Mt Rb))], g⟩)
    (fun qq => ∃ s Ra, qq = (.exit 0, s) ∧ (Sat Mt Q Ra [] ∧ ∀ u, Sp Mt (GR Ra 0) u ↔ Sp Mt (GL (bdL T Mt Ut d ++ imgs h Rz P)) u) ∧ ∃ v, Has s [(13, .ptr 320 v 0), (14, .ptr 384 12 0)] [(320, some (v, spn Mt Ra)), (384, some (12, spn Mt Rb))])
    (by show P < m; omega) ⟨_, _, Rb, ⟨Sb, by simpa [imgs] using hB2⟩, by simp; repeat' constructor⟩
    (by
      rintro i s hi ⟨g, v, Ra, ⟨Sa, hA⟩, rfl⟩
      have w2 := wrap_id (n := (i : Int) + 1) (by omega)
      have hiz : i < Rz.length := by omega
      have hs := imgs_succ h Rz i
      by_cases hne : rown Rz i = []
      · rw [if_pos hne, List.append_nil] at hs
        simp -implicitDefEqProofs (maxSteps := 3000000) [hi, hiz, hne, w2, hs]
        exact ⟨_, _, Ra, ⟨Sa, hA⟩, rfl, ⟨rfl, rfl⟩, rfl⟩
      · rw [if_neg hne] at hs
        have hv := (Sz.rws.row i hne).1
        have hpn := rinD_ne hne
        have hlp : 0 < (rown Rz i).length := by rw [hv.1]; omega
        have cF := hF m (by omega) (rown Rz i) hv
        have hVr := hV _ hv
        obtain ⟨Ra', Sa', hA', cp⟩ := ct_put m (by omega) Mt hMt Q (by omega) Ra Sa _ hVr
        have hA2 := sp_ins hA hA'
        rw [List.append_assoc, ← hs] at hA2
        generalize h (rown Rz i) = hr at *
        simp -implicitDefEqProofs (maxSteps := 3000000) [hi, hiz, hne, hpn, hlp, w2, cF, hc, cp]
        exact ⟨_, _, Ra', ⟨Sa', hA2⟩, rfl, ⟨rfl, rfl⟩, rfl⟩)
    (by
      rintro s ⟨g, v, Ra, hA, rfl⟩
      simp -implicitDefEqProofs (maxSteps := 3000000)
      exact ⟨Ra, hA, rfl⟩)
  obtain ⟨rfl, hA, v, hf⟩ := hqq
  simp only [Has, hasE, hasO] at hf
  have hab : AB (sval Mt Ra) (sval Mt Rb) Q := ab_of hMt Sb hA.1 (fun u hu => (hA.2 u).2 (((hB2 u).1 hu).mono fun g ⟨w, hw, e⟩ => ⟨w, by simp -implicitDefEqProofs (maxSteps := 3000000) [hw], e⟩)) Q
  have cs := ct_sizeBy m (by omega) Mt hMt Q (by omega) Ra Rb hA.1.rws Sb.rws hab
  refine ⟨Ra, hA, ?_⟩
  simp -implicitDefEqProofs (maxSteps := 3000000) [hf, cs, pcD]
end Go.Proofs.YtnfhglplafmfiaaGreatE
