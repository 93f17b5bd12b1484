/- Contracts of functions of the program and of the reference: what the evaluator gives for a call of each. -/
import Derived.Test.YtnfhglplafmfiaaGreatAEf
import Derived.Test.YtnfhglplafmfiaaGreatK1M
import Derived.Test.YtnfhglplafmfiaaGreatK90M
import Derived.Test.YtnfhglplafmfiaaGreatK92
import Derived.Test.YtnfhglplafmfiaaGreatK94
import Derived.Test.YtnfhglplafmfiaaGreatK96
import Derived.Test.YtnfhglplafmfiaaGreatK98M
import Derived.Test.YtnfhglplafmfiaaGreatK100M
namespace Go.Proofs.YtnfhglplafmfiaaGreatE
open Go Go.Proofs
set_option maxHeartbeats 16000000
set_option maxRecDepth 8000
set_option linter.unusedSimpArgs false
set_option linter.unusedVariables false
set_option pp.deepTerms false
set_option pp.deepTerms.threshold 10
/-! ## the reference's reduced rows and steps -/
theorem ct_l04Steps (n : Nat) (hn : B + 1 ≤ n) (M : Int) (hM : 2 ≤ M ∧ M ≤ 12) (N : Nat) (hN : N ≤ 10000) (R : List (List Int)) (S : Rws M N R) :
    evalCall Tryz.prog An n 158 [.d (.sl 1 (pcells R)), .d (.int .i64 M)] [] = some ⟨.own 0 0, [.row (icells (stpL M R N))], []⟩ := by
  obtain ⟨m, rfl⟩ : ∃ m, n = m + 1 := ⟨n - 1, by omega⟩
  have hB := B_eq
  simp only [evalCall_at, fb158, bnd_some, bodyOf, Tryz.f158, Option.getD_some]
  generalize hb0 : Code.loop _ = cc0
  obtain rfl : cc0 = .loop (lp Tryz.f158 0) := by rw [← hb0]; rfl
  clear hb0
  have hl := S.len
  simp -implicitDefEqProofs (maxSteps := 3000000)
  generalize hx : loopC _ _ _ = z
  generalize hl : lp Tryz.f158 0 = L at hx
  simp only [lp, bodyOf, Tryz.f158, Option.getD_some, loopsIn, List.append_nil, List.nil_append, List.cons_append, List.getD, List.getElem?_cons_zero, List.getElem?_cons_succ] at hl
  subst hl
  obtain ⟨qq, rfl, s, hqq⟩ := loop_end hx N (fun i s => ∃ g v, s = ⟨[(0, .d (.sl 1 (pcells R))), (1, .d (.int .i64 M)), (5, .own 112 v), (6, .d (.int .i64 (i : Int)))], [(112, some (v, .row (icells (stpL M R i))))], g⟩)
    (fun qq => ∃ s, qq = (.exit 0, s) ∧ ∃ v, lookL s.env 5 = some (.own 112 v) ∧ obsL s.obs 112 = some (v, .row (icells (stpL M R N))))
    (by show N < m; omega) (by simp -implicitDefEqProofs (maxSteps := 3000000) [stpL])
    (by
      rintro i s hi ⟨g, v, rfl⟩
      have w2 := wrap_id (n := (i : Int) + 1) (by omega)
      have h2 : i < R.length := by omega
      have hs := stpL_succ M R i
      have hb : i + 1 ≤ bound := by simp -implicitDefEqProofs (maxSteps := 3000000) [bound]; omega
      by_cases hne : rown R i = []
      · rw [if_pos hne] at hs
        simp -implicitDefEqProofs (maxSteps := 3000000) [hl, hi, h2, hne, w2, hs, hb]
      · rw [if_neg hne] at hs
        obtain ⟨hv, hz, h0, hd⟩ := S.row i hne
        have hp := pinD_ne hne
        have hi2 : i < (rown R i).length := by rw [hv.1]; omega
        have hlp : 0 < (rown R i).length := by omega
        have hl0 : ((((rown R i).length : Nat) : Int) == 0) = false := by simp; exact hne
        have hn0 : ¬ rn (rown R i) i = 0 := by omega
        have t1 : M.tdiv (rn (rown R i) i) = M / rn (rown R i) i := Int.tdiv_eq_ediv_of_nonneg (by omega)
        have q1 := ediv_bd (a := M) (d := rn (rown R i) i) (by omega) h0
        have v1 := wrap_sm (x := M / rn (rown R i) i) (by omega)
        simp -implicitDefEqProofs (maxSteps := 3000000) [hl, hi, h2, hne, hp, hi2, hlp, hl0, hn0, t1, v1, w2, hs, hb])
    (by
      rintro s ⟨g, v, rfl⟩
      simp -implicitDefEqProofs (maxSteps := 3000000) [hl])
  obtain ⟨rfl, v, h3, h4⟩ := hqq
  simp -implicitDefEqProofs (maxSteps := 3000000) [h3, h4]
theorem take_succ_rown (L : List (List Int)) {i : Nat} (h : i < L.length) : L.take (i + 1) = L.take i ++ [rown L i] := by
  rw [List.take_add_one]; simp -implicitDefEqProofs (maxSteps := 3000000) [rown, List.getD, h]
theorem ct_l04Reduced (n : Nat) (hn : B + 30 ≤ n) (M : Int) (hM : 2 ≤ M ∧ M ≤ 12) (N : Nat) (hN : N ≤ 10000) (L : List (List Int)) (hLl : L.length ≤ 1000000) (hL : ∀ i < L.length, Vec M N (rown L i)) :
    ∃ R, Sat M N R [] ∧ (∀ u, Sp M (GR R 0) u ↔ Sp M (GL L) u) ∧
      evalCall Tryz.prog An n 214 [.d (.sl 1 (rowcells L)), .d (.int .i64 N), .d (.int .i64 M)] [] = some ⟨.own 0 0, [.row (pcells R)], []⟩ := by
  obtain ⟨m, rfl⟩ : ∃ m, n = m + 1 := ⟨n - 1, by omega⟩
  have hB := B_eq
  simp only [evalCall_at, fb214, bnd_some, bodyOf, Tryz.f214, Option.getD_some]
  generalize hb0 : Code.loop _ = cc0
  obtain rfl : cc0 = .loop (lp Tryz.f214 0) := by rw [← hb0]; rfl
  clear hb0
  have hN2 : (N : Int) ≤ 1099511627776 := by omega
  simp -implicitDefEqProofs (maxSteps := 3000000) [hN2]
  generalize hx : loopC _ _ _ = z
  generalize hl : lp Tryz.f214 0 = L at hx
  simp only [lp, bodyOf, Tryz.f214, Option.getD_some, loopsIn, List.append_nil, List.nil_append, List.cons_append, List.getD, List.getElem?_cons_zero, List.getElem?_cons_succ] at hl
  subst hl
  obtain ⟨qq, rfl, s, R, hqq⟩ := loop_end hx L.length (fun i s => ∃ g v R, (Sat M N R [] ∧ ∀ u, Sp M (GR R 0) u ↔ Sp M (GL (L.take i)) u) ∧ s = ⟨[(0, .d (.sl 1 (rowcells L))), (2, .d (.int .i64 M)), (7, .own 160 v), (8, .d (.int .i64 (i : Int)))], [(160, some (v, .row (pcells R)))], g⟩)
    (fun qq => ∃ s R, qq = (.exit 0, s) ∧ (Sat M N R [] ∧ ∀ u, Sp M (GR R 0) u ↔ Sp M (GL L) u) ∧ ∃ v, lookL s.env 7 = some (.own 160 v) ∧ obsL s.obs 160 = some (v, .row (pcells R)))
    (by show L.length < m; omega) ⟨_, _, List.replicate N [], ⟨sat_new M _, sp_new M _⟩, by simp; exact ⟨rfl, rfl⟩⟩
    (by
      rintro i s hi ⟨g, v, R, ⟨S, hS⟩, rfl⟩
      have w2 := wrap_id (n := (i : Int) + 1) (by omega)
      obtain ⟨R', S', hS', c6⟩ := ct_l04Insert m (by omega) M hM N hN R S _ (hL i hi)
      have hS2 := sp_ins hS hS'
      rw [← take_succ_rown L hi] at hS2
      simp -implicitDefEqProofs (maxSteps := 3000000) [hi, w2, c6]
      exact ⟨_, _, R', ⟨S', hS2⟩, rfl, ⟨rfl, rfl⟩, rfl⟩)
    (by
      rintro s ⟨g, v, R, h, rfl⟩
      rw [List.take_length] at h
      simp -implicitDefEqProofs (maxSteps := 3000000)
      exact ⟨R, h, rfl⟩)
  obtain ⟨rfl, ⟨h1, h2⟩, v, h3, h4⟩ := hqq
  refine ⟨R, h1, h2, ?_⟩
  simp -implicitDefEqProofs (maxSteps := 3000000) [h3, h4]
end Go.Proofs.YtnfhglplafmfiaaGreatE

namespace Go.Proofs.YtnfhglplafmfiaaGreatE
open Go Go.Proofs
set_option maxHeartbeats 16000000
set_option maxRecDepth 8000
set_option linter.unusedSimpArgs false
set_option linter.unusedVariables false
set_option pp.deepTerms false
set_option pp.deepTerms.threshold 10
/-! ## how often a prime divides a step -/
def exI (p n : Int) : Nat → Int
  | 0 => n
  | k + 1 => (exI p n k).tdiv p
def exRun (p n : Int) : Nat → Nat → Option Nat
  | _, 0 => none
  | i, f + 1 => if (exI p n i).tmod p = 0 then (if 0 ≤ (exI p n i).tdiv p ∧ (exI p n i).tdiv p ≤ 200 then exRun p n (i + 1) f else none) else some i
/-- The power of p in n. -/
def exV (p n : Int) : Nat := (exRun p n 0 6).getD 0
theorem exAll : ∀ p : Fin 12, ∀ n : Fin 13, 2 ≤ p.val → 0 < n.val → (exRun (p.val : Int) (n.val : Int) 0 6).isSome = true := by decide
theorem exRun_ex {p n : Int} : ∀ (f i N : Nat), exRun p n i f = some N → i ≤ N ∧ N < i + f ∧ (∀ j, i ≤ j → j < N → (exI p n j).tmod p = 0 ∧ 0 ≤ (exI p n j).tdiv p ∧ (exI p n j).tdiv p ≤ 200) ∧ (exI p n N).tmod p ≠ 0
  | 0, i, N, h => by simp -implicitDefEqProofs (maxSteps := 3000000) [exRun] at h
  | f + 1, i, N, h => by
    unfold exRun at h
    by_cases e : (exI p n i).tmod p = 0
    · rw [if_pos e] at h
      by_cases e2 : 0 ≤ (exI p n i).tdiv p ∧ (exI p n i).tdiv p ≤ 200
      · rw [if_pos e2] at h
        obtain ⟨h1, h2, h3, h4⟩ := exRun_ex f (i + 1) N h
        refine ⟨by omega, by omega, fun j h5 h6 => ?_, h4⟩
        rcases Nat.lt_or_ge i j with z | z
        · exact h3 j z h6
        · obtain rfl : j = i := by omega
          exact ⟨e, e2⟩
      · rw [if_neg e2] at h; exact absurd h (by simp -implicitDefEqProofs (maxSteps := 3000000))
    · rw [if_neg e] at h
      obtain rfl : i = N := Option.some.inj h
      exact ⟨Nat.le_refl _, by omega, fun j h1 h2 => by omega, e⟩
theorem ct_exponent (n : Nat) (hn : B + 1 ≤ n) (p v : Int) (hp : 2 ≤ p ∧ p ≤ 11) (hv : 1 ≤ v ∧ v ≤ 12) :
    evalCall Tryz.prog An n 180 [.d (.int .i64 p), .d (.int .i64 v)] [] = some ⟨.d (.int .i64 (exV p v)), [], []⟩ := by
  obtain ⟨m, rfl⟩ : ∃ m, n = m + 1 := ⟨n - 1, by omega⟩
  have hB := B_eq
  simp only [evalCall_at, fb180, bnd_some, bodyOf, Tryz.f180, Option.getD_some]
  generalize hb0 : Code.loop _ = cc0
  obtain rfl : cc0 = .loop (lp Tryz.f180 0) := by rw [← hb0]; rfl
  clear hb0
  have h0 := exAll ⟨p.toNat, by omega⟩ ⟨v.toNat, by omega⟩ (by show 2 ≤ p.toNat; omega) (by show 0 < v.toNat; omega)
  simp only [Int.toNat_of_nonneg (show 0 ≤ p by omega), Int.toNat_of_nonneg (show 0 ≤ v by omega)] at h0
  obtain ⟨N, hN⟩ := Option.isSome_iff_exists.1 h0
  have hN2 : exV p v = N := by simp -implicitDefEqProofs (maxSteps := 3000000) [exV, hN]
  obtain ⟨h1, h2, h3, h4⟩ := exRun_ex 6 0 N hN
  rw [hN2]
  have hp0 : ¬ p = 0 := by omega
  simp -implicitDefEqProofs (maxSteps := 3000000)
  generalize hx : loopC _ _ _ = z
  generalize hl : lp Tryz.f180 0 = L at hx
  simp only [lp, bodyOf, Tryz.f180, Option.getD_some, loopsIn, List.append_nil, List.nil_append, List.cons_append, List.getD, List.getElem?_cons_zero, List.getElem?_cons_succ] at hl
  subst hl
  obtain ⟨qq, rfl, s, hqq⟩ := loop_end hx N (fun i s => ∃ g, s = ⟨[(0, .d (.int .i64 p)), (1, .d (.int .i64 (exI p v i))), (5, .d (.int .i64 (i : Int)))], [], g⟩)
    (fun qq => ∃ s, qq = (.exit 0, s) ∧ lookL s.env 5 = some (.d (.int .i64 (N : Int))))
    (by show N < m; omega) (by simp -implicitDefEqProofs (maxSteps := 3000000) [exI])
    (by
      rintro i s hi ⟨g, rfl⟩
      obtain ⟨k1, k2, k3⟩ := h3 i (by omega) hi
      have e : exI p v (i + 1) = (exI p v i).tdiv p := rfl
      have w1 := wrap_id (n := (exI p v i).tdiv p) (by omega)
      have w2 := wrap_id (n := (i : Int) + 1) (by omega)
      simp -implicitDefEqProofs (maxSteps := 3000000) [k1, hp0, w1, w2, e])
    (by
      rintro s ⟨g, rfl⟩
      have h4b : ((exI p v N).tmod p == 0) = false := by simpa using h4
      simp -implicitDefEqProofs (maxSteps := 3000000) [h4b, hp0])
  obtain ⟨rfl, h5⟩ := hqq
  simp -implicitDefEqProofs (maxSteps := 3000000) [h5]
end Go.Proofs.YtnfhglplafmfiaaGreatE
