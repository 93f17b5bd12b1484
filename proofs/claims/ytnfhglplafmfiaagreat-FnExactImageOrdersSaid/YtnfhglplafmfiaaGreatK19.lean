/- Contracts of functions of the program and of the reference: what the evaluator gives for a call of each. -/
import Derived.Test.YtnfhglplafmfiaaGreatAEf
import Derived.Test.YtnfhglplafmfiaaGreatK1M
import Derived.Test.YtnfhglplafmfiaaGreatK3M
import Derived.Test.YtnfhglplafmfiaaGreatK4
import Derived.Test.YtnfhglplafmfiaaGreatK6M
import Derived.Test.YtnfhglplafmfiaaGreatK17
import Derived.Test.YtnfhglplafmfiaaGreatK18
namespace Go.Proofs.YtnfhglplafmfiaaGreatE
open Go Go.Proofs
set_option maxHeartbeats 4000000
set_option maxRecDepth 2000
set_option linter.unusedSimpArgs false
set_option linter.unusedVariables false
set_option pp.deepTerms false
set_option pp.deepTerms.threshold 10
/-! ## slices.Repeat of one number -/
theorem wrap_u64 {n : Int} (h : 0 ≤ n ∧ n < 18446744073709551616) : IntKind.wrap .u64 n = n := by
  unfold IntKind.wrap
  have e : IntKind.bits .u64 = 64 := rfl
  have e2 : IntKind.signed .u64 = false := rfl
  simp only [e, e2, Bool.false_and, Bool.false_eq_true, if_false]
  omega
theorem bv_and32 {n : Int} (h : 0 ≤ n ∧ n < 4294967296) : (BitVec.ofInt 64 n &&& BitVec.ofInt 64 4294967295).toNat = n.toNat := by
  obtain ⟨k, rfl⟩ := Int.eq_ofNat_of_zero_le h.1
  have e : BitVec.ofInt 64 4294967295 = BitVec.ofNat 64 (2 ^ 32 - 1) := rfl
  have e1 : BitVec.ofInt 64 (k : Int) = BitVec.ofNat 64 k := by simp -implicitDefEqProofs (maxSteps := 3000000)
  rw [e, e1, BitVec.toNat_and, BitVec.toNat_ofNat, BitVec.toNat_ofNat, Nat.mod_eq_of_lt (by omega), Nat.mod_eq_of_lt (by decide), Nat.and_two_pow_sub_one_eq_mod, Nat.mod_eq_of_lt (by omega)]
  rfl
theorem and32 (y : Nat) (h : y < 4294967296) : ((y : Int) % 18446744073709551616).toNat &&& 4294967295 = y := by
  have e : ((y : Int) % 18446744073709551616).toNat = y := by omega
  rw [e, show (4294967295 : Nat) = 2 ^ 32 - 1 from rfl, Nat.and_two_pow_sub_one_eq_mod, Nat.mod_eq_of_lt (by omega)]
theorem fdiv32 {n : Int} (h : 0 ≤ n ∧ n < 4294967296) : n.fdiv 4294967296 = 0 := by
  rw [Int.fdiv_eq_ediv_of_nonneg _ (by omega)]
  exact Int.ediv_eq_zero_of_lt h.1 h.2
theorem ct_Mul64_1 (n : Nat) (hn : B + 1 ≤ n) (y : Nat) (hy : y < 1000000) :
    evalCall Tryz.prog An n 257 [.d (.int .u64 1), .d (.int .u64 y)] [] = some ⟨.tuple [.d (.int .u64 0), .d (.int .u64 y)], [], []⟩ := by
  obtain ⟨m, rfl⟩ : ∃ m, n = m + 1 := ⟨n - 1, by omega⟩
  have hB := B_eq
  simp only [evalCall_at, fb257, bnd_some, bodyOf, Tryz.f257, Option.getD_some]
  have a2 := and32 y (by omega)
  have f1 := fdiv32 (n := 1) (by omega)
  have f2 := fdiv32 (n := (y : Int)) (by omega)
  have f3 := fdiv32 (n := 0) (by omega)
  have w0 := wrap_u64 (n := 0) (by omega)
  have w1 := wrap_u64 (n := 1) (by omega)
  have w2 := wrap_u64 (n := (y : Int)) (by omega)
  have b64 : IntKind.bits .u64 = 64 := rfl
  have t1 : ((1 : Int)).toNat = 1 := rfl
  simp -implicitDefEqProofs (maxSteps := 3000000) [b64, a2, f1, f2, f3, w0, w1, w2]
theorem ct_Mul_1 (n : Nat) (hn : B + 2 ≤ n) (y : Nat) (hy : y < 1000000) :
    evalCall Tryz.prog An n 244 [.d (.int .u64 1), .d (.int .u64 y)] [] = some ⟨.tuple [.d (.int .u64 0), .d (.int .u64 y)], [], []⟩ := by
  obtain ⟨m, rfl⟩ : ∃ m, n = m + 1 := ⟨n - 1, by omega⟩
  have hB := B_eq
  simp only [evalCall_at, fb244, bnd_some, bodyOf, Tryz.f244, Option.getD_some]
  have c := ct_Mul64_1 m (by omega) y hy
  simp -implicitDefEqProofs (maxSteps := 3000000) [c]
theorem pow_cover : ∀ n : Nat, ∃ N, N ≤ n ∧ n ≤ 2 ^ N ∧ ∀ i < N, 2 ^ i < n
  | 0 => ⟨0, Nat.le_refl _, by omega, fun i hi => by omega⟩
  | n + 1 => by
    obtain ⟨N, h1, h2, h3⟩ := pow_cover n
    by_cases h : n + 1 ≤ 2 ^ N
    · exact ⟨N, by omega, h, fun i hi => by have := h3 i hi; omega⟩
    · have hp : 0 < 2 ^ N := Nat.two_pow_pos N
      refine ⟨N + 1, by omega, by rw [Nat.pow_succ]; omega, fun i hi => ?_⟩
      rcases Nat.lt_or_ge i N with z | z
      · have := h3 i z; omega
      · obtain rfl : i = N := by omega
        omega
def repJ (v : Int) (n c : Nat) : List Int := List.replicate c v ++ List.replicate (n - c) 0
theorem repJ_len (v : Int) {n c : Nat} (h : c ≤ n) : (repJ v n c).length = n := by simp -implicitDefEqProofs (maxSteps := 3000000) [repJ]; omega
theorem repJ_set (v : Int) {n c : Nat} (h : c < n) : (repJ v n c).set c v = repJ v n (c + 1) := by
  unfold repJ
  rw [List.set_append_right _ _ (by simp -implicitDefEqProofs (maxSteps := 3000000)), List.length_replicate, Nat.sub_self, show n - c = (n - (c + 1)) + 1 by omega, List.replicate_succ, List.set_cons_zero, List.replicate_succ', List.append_assoc]
  rfl
theorem repJ_put (v : Int) {n : Nat} : ∀ (k c : Nat), c + k ≤ n → setFrom (repJ v n c) c (List.replicate k v) = repJ v n (c + k)
  | 0, c, _ => rfl
  | k + 1, c, h => by
    rw [List.replicate_succ, setFrom, repJ_set v (by omega), repJ_put v k (c + 1) (by omega)]
    congr 1; omega
theorem repJ_take (v : Int) {n c : Nat} : (repJ v n c).take c = List.replicate c v := by simp -implicitDefEqProofs (maxSteps := 3000000) [repJ, List.take_append]
theorem ct_Repeat1 (n : Nat) (hn : B + 3 ≤ n) (v : Int) (k : Nat) (hk : 1 ≤ k ∧ k < 1000000) :
    evalCall Tryz.prog An n 232 [.d (.sl 1 [.int .i64 v]), .d (.int .i64 k)] [] = some ⟨.own 0 0, [.row (icells (List.replicate k v))], []⟩ := by
  obtain ⟨m, rfl⟩ : ∃ m, n = m + 1 := ⟨n - 1, by omega⟩
  have hB := B_eq
  simp only [evalCall_at, fb232, bnd_some, bodyOf, Tryz.f232, Option.getD_some]
  generalize hb0 : Code.loop _ = cc0
  obtain rfl : cc0 = .loop (lp Tryz.f232 0) := by rw [← hb0]; rfl
  clear hb0
  have c := ct_Mul_1 m (by omega) k (by omega)
  have w1 := wrap_u64 (n := 1) (by omega)
  have w2 := wrap_u64 (n := (k : Int)) (by omega)
  have w3 := wrap_id (n := (k : Int)) (by omega)
  have h1 : ¬ ((k : Int) < 0) := by omega
  have h2 : ¬ (9223372036854775807 < (k : Int)) := by omega
  have h3 : (k : Int) ≤ 1099511627776 := by omega
  have h4 : min 1 k = 1 := by omega
  have h5 : setFrom (icells (List.replicate k 0)) 0 [D.int .i64 v] = icells (repJ v k 1) := by
    have e : [D.int .i64 v] = icells [v] := rfl
    rw [e, setFrom_icells]
    have := repJ_put v (n := k) 1 0 (by omega)
    have e0 : repJ v k 0 = List.replicate k 0 := by simp -implicitDefEqProofs (maxSteps := 3000000) [repJ]
    rw [e0] at this
    exact congrArg icells this
  simp only [setFrom] at h5
  simp -implicitDefEqProofs (maxSteps := 3000000) [c, w1, w2, w3, h1, h2, h3, h4, h5]
  obtain ⟨N, n1, n2, n3⟩ := pow_cover k
  generalize hx : loopC _ _ _ = x
  generalize hl : lp Tryz.f232 0 = L at hx
  simp only [lp, bodyOf, Tryz.f232, Option.getD_some, loopsIn, List.append_nil, List.nil_append, List.cons_append, List.getD, List.getElem?_cons_zero, List.getElem?_cons_succ] at hl
  subst hl
  obtain ⟨p, rfl, hp⟩ := loop_end hx N (fun i s => ∃ g u, s = ⟨[(7, .own 480 u), (8, .d (.int .i64 (min (2 ^ i) k : Nat)))], [(480, some (u, .row (icells (repJ v k (min (2 ^ i) k)))))], g⟩)
    (fun p => ∃ s u, p = (.exit 0, s) ∧ lookL s.env 7 = some (.own 480 u) ∧ obsL s.obs 480 = some (u, .row (icells (List.replicate k v))))
    (by show N < m; omega) (by simp -implicitDefEqProofs (maxSteps := 3000000) [h4])
    (by
      rintro i s hi ⟨g, u, rfl⟩
      have q := n3 i hi
      have e1 : min (2 ^ i) k = 2 ^ i := by omega
      have e2 : min (2 ^ (i + 1)) k = 2 ^ i + min (2 ^ i) (k - 2 ^ i) := by rw [Nat.pow_succ]; omega
      rw [e1, e2]
      generalize 2 ^ i = C at *
      have l1 := repJ_len v (n := k) (c := C) (by omega)
      have t1 := repJ_take v (n := k) (c := C)
      have p1 := repJ_put v (n := k) (min C (k - C)) C (by omega)
      have hC : (C : Int) < k := by omega
      have hC2 : C ≤ k := by omega
      have hC3 : (C : Int) ≤ k := by omega
      have hC4 : C + (k - C) ≤ k := by omega
      have w4 := wrap_id (n := (C : Int) + (min C (k - C) : Nat)) (by omega)
      have e5 : C + (k - C) = k := by omega
      generalize repJ v k C = X at *
      generalize repJ v k (C + min C (k - C)) = Y at *
      have e6 : min C k = C := by omega
      have e7 : List.take (min C (k - C)) (List.replicate C v) = List.replicate (min C (k - C)) v := by rw [List.take_replicate]; congr 1; omega
      generalize hQ : min C (k - C) = Q at *
      simp -implicitDefEqProofs (maxSteps := 3000000) [l1, t1, p1, hC, hC2, hC3, hC4, w4, e5, e6, e7, hQ])
    (by
      rintro s ⟨g, u, rfl⟩
      have e1 : min (2 ^ N) k = k := by omega
      have l1 := repJ_len v (n := k) (c := k) (by omega)
      have e2 : repJ v k k = List.replicate k v := by simp -implicitDefEqProofs (maxSteps := 3000000) [repJ]
      rw [e1]
      rw [e2] at l1 ⊢
      simp -implicitDefEqProofs (maxSteps := 3000000) [e2])
  obtain ⟨s, u, rfl, hf⟩ := hp
  simp -implicitDefEqProofs (maxSteps := 3000000) [hf]
/-! ## trivial modules -/
def trU (T : List (List Int)) : List Int := List.replicate T.length 1
theorem rn_trU {T : List (List Int)} {i : Nat} (h : i < T.length) : rn (trU T) i = 1 := by simp -implicitDefEqProofs (maxSteps := 3000000) [rn, trU, List.getD, h]
theorem isMo_tr {T : List (List Int)} (R : RowsOk T) {M : Int} (hM : 2 ≤ M ∧ M ≤ 12) : IsMo T M (trU T) := by
  have hl : (trU T).length = T.length := by simp -implicitDefEqProofs (maxSteps := 3000000) [trU]
  refine ⟨⟨hM, hl⟩, fun i hi => ?_, fun a ha b hb => ?_⟩
  · rw [rn_trU (by omega)]
    refine ⟨by omega, ?_⟩
    unfold gcdI
    have : (1 : Int).toNat = 1 := rfl
    rw [this, Nat.gcd_one_left]; rfl
  · have hc := (R.2 a (by omega)).2 b (by omega)
    rw [rn_trU (by omega), rn_trU (by omega), rn_trU (by omega)]
    exact (Int.emod_eq_of_lt (by omega) (by omega)).symm
theorem tab_const (n : Nat) (v : Int) : tabI (fun _ => v) n = List.replicate n v := by
  apply List.ext_getElem
  · simp -implicitDefEqProofs (maxSteps := 3000000)
  · intro i h1 h2; simp -implicitDefEqProofs (maxSteps := 3000000) [tabI]
def SGood (T : List (List Int)) (M D : Int) (V : List Int) : Prop := IsGr T ∧ (2 ≤ M ∧ M ≤ 12) ∧ IsCo T M D V ∧ D = 2 ∧ IsCy T M (trU T) V 2
open Classical in
noncomputable def scode (T : List (List Int)) (M D : Int) (V : List Int) : Int :=
  if IsGr T then if 2 ≤ M ∧ M ≤ 12 then if IsCo T M D V then if D = 2 then if IsCy T M (trU T) V 2 then 0 else 5 else 2 else 1 else 2 else 1
theorem scode_0 {T : List (List Int)} {M D : Int} {V : List Int} : SGood T M D V → scode T M D V = 0 := fun ⟨h1, h2, h3, h4, h5⟩ => by
  simp only [scode, if_pos h1, if_pos h2, if_pos h3, if_pos h4, if_pos h5]
theorem scode_ne {T : List (List Int)} {M D : Int} {V : List Int} (h : ¬ SGood T M D V) : scode T M D V ≠ 0 := by
  unfold scode
  by_cases h1 : IsGr T
  · by_cases h2 : 2 ≤ M ∧ M ≤ 12
    · by_cases h3 : IsCo T M D V
      · by_cases h4 : D = 2
        · by_cases h5 : IsCy T M (trU T) V 2
          · exact absurd ⟨h1, h2, h3, h4, h5⟩ h
          · simp only [if_pos h1, if_pos h2, if_pos h3, if_pos h4, if_neg h5]; omega
        · simp only [if_pos h1, if_pos h2, if_pos h3, if_neg h4]; omega
      · simp only [if_pos h1, if_pos h2, if_neg h3]; omega
    · simp only [if_pos h1, if_neg h2]; omega
  · simp only [if_neg h1]; omega
theorem coOkTr {T : List (List Int)} {M : Int} {V : List Int} (G : IsGr T) (hM : 2 ≤ M ∧ M ≤ 12) (h : IsCo T M 2 V) : CoOk T (trU T) V 2 :=
  coOk1 (M := M) ⟨G, isMo_tr G.1 hM⟩ hM.2 h
end Go.Proofs.YtnfhglplafmfiaaGreatE
