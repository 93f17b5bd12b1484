/- Contracts of functions of the program and of the reference: what the evaluator gives for a call of each. -/
import Derived.Test.YtnfhglplafmfiaaGreatAEf
import Derived.Test.YtnfhglplafmfiaaGreatK1M
import Derived.Test.YtnfhglplafmfiaaGreatK3M
import Derived.Test.YtnfhglplafmfiaaGreatK6M
import Derived.Test.YtnfhglplafmfiaaGreatK13
import Derived.Test.YtnfhglplafmfiaaGreatK17
import Derived.Test.YtnfhglplafmfiaaGreatK18
import Derived.Test.YtnfhglplafmfiaaGreatK90M
import Derived.Test.YtnfhglplafmfiaaGreatK91
import Derived.Test.YtnfhglplafmfiaaGreatK98M
import Derived.Test.YtnfhglplafmfiaaGreatK103
import Derived.Test.YtnfhglplafmfiaaGreatK100M
import Derived.Test.YtnfhglplafmfiaaGreatK102M
namespace Go.Proofs.YtnfhglplafmfiaaGreatE
open Go Go.Proofs
set_option maxHeartbeats 4000000
set_option maxRecDepth 4000
set_option linter.unusedSimpArgs false
set_option linter.unusedVariables false
set_option linter.unusedSectionVars false
/-! ## what bounds, and what a map makes of cocycles, together -/
/-- What is made of the rows that there are, as far as the place k. -/
def imgs (h : List Int → List Int) (R : List (List Int)) (k : Nat) : List (List Int) := (List.range k).flatMap fun j => if rown R j = [] then [] else [h (rown R j)]
theorem imgs_succ (h : List Int → List Int) (R : List (List Int)) (k : Nat) : imgs h R (k + 1) = imgs h R k ++ if rown R k = [] then [] else [h (rown R k)] := by simp -implicitDefEqProofs (maxSteps := 3000000) [imgs, List.range_succ]
theorem mem_imgs {h : List Int → List Int} {R : List (List Int)} {k : Nat} {v : List Int} : v ∈ imgs h R k ↔ ∃ j < k, rown R j ≠ [] ∧ v = h (rown R j) := by
  simp only [imgs, List.mem_flatMap, List.mem_range]
  constructor
  · rintro ⟨j, hj, hv⟩
    by_cases e : rown R j = []
    · rw [if_pos e] at hv; simp -implicitDefEqProofs (maxSteps := 3000000) at hv
    · rw [if_neg e] at hv; exact ⟨j, hj, e, by simpa using hv⟩
  · rintro ⟨j, hj, e, rfl⟩
    exact ⟨j, hj, by rw [if_neg e]; simp⟩
theorem imgs_id {M : Int} {R : List (List Int)} {k : Nat} (hk : R.length ≤ k) (u : Nat → Int) : Sp M (GL (imgs id R k)) u ↔ Sp M (GR R 0) u := by
  constructor
  · intro h
    refine h.mono fun g ⟨v, hv, e⟩ => ?_
    obtain ⟨j, hj, hne, rfl⟩ := mem_imgs.1 hv
    exact ⟨j, by omega, hne, e⟩
  · intro h
    refine h.mono fun g ⟨j, _, hne, e⟩ => ?_
    have := rown_ne_lt hne
    exact ⟨_, mem_imgs.2 ⟨j, by omega, hne, rfl⟩, e⟩
theorem sp_two {M : Int} {L L' X : List (List Int)} (h : ∀ u, Sp M (GL L) u ↔ Sp M (GL L') u) (u : Nat → Int) : Sp M (GL (L ++ X)) u ↔ Sp M (GL (L' ++ X)) u := by
  have key : ∀ {L L' : List (List Int)}, (∀ u, Sp M (GL L) u → Sp M (GL L') u) → Sp M (GL (L ++ X)) u → Sp M (GL (L' ++ X)) u := by
    intro L L' h hu
    refine hu.trans fun g hg => ?_
    obtain ⟨v, hv, rfl⟩ := hg
    rcases List.mem_append.1 hv with hv | hv
    · exact (h _ (.gen ⟨v, hv, rfl⟩)).mono fun g ⟨w, hw, e⟩ => ⟨w, by simp -implicitDefEqProofs (maxSteps := 3000000) [hw], e⟩
    · exact .gen ⟨v, by simp -implicitDefEqProofs (maxSteps := 3000000) [hv], rfl⟩
  exact ⟨key fun u => (h u).1, key fun u => (h u).2⟩
theorem im_iff {mf mt : Int} {f : (Nat → Int) → (Nat → Int)} {h : List Int → List Int} {R L : List (List Int)} {k : Nat} {Bt Zf : (Nat → Int) → Prop} (hk : R.length ≤ k)
    (hB : ∀ u, Sp mt (GL L) u ↔ Bt u) (hZ : ∀ u, Sp mf (GR R 0) u ↔ Zf u) (hh : ∀ j, rown R j ≠ [] → ∀ i, mt ∣ rn (h (rown R j)) i - f (rn (rown R j)) i)
    (lin : ∀ u g w x, Zf u → Zf g → (∀ i, mf ∣ w i - (u i + x * g i)) → Bt (fun i => f w i - (f u i + x * f g i)))
    (zero : ∀ u, (∀ i, mf ∣ u i) → Bt (f u)) (u : Nat → Int) :
    Sp mt (GL (L ++ imgs h R k)) u ↔ ∃ z, Zf z ∧ Bt (fun i => u i - f z i) := by
  constructor
  · intro hu
    induction hu with
    | @zero u h0 =>
      refine ⟨fun _ => 0, (hZ _).1 (.zero fun i => Int.dvd_zero _), (hB _).1 ?_⟩
      have h1 := (hB _).2 (zero (fun _ => 0) (fun i => Int.dvd_zero _))
      exact Sp.comb 1 (-1) (.zero h0) h1 fun i => ⟨0, by omega⟩
    | @step u w g x hg hu h0 ih =>
      obtain ⟨z, hz, hb⟩ := ih
      obtain ⟨v, hv, rfl⟩ := hg
      rcases List.mem_append.1 hv with hv | hv
      · refine ⟨z, hz, (hB _).1 ?_⟩
        have h1 : Sp mt (GL L) (rn v) := .gen ⟨v, hv, rfl⟩
        refine Sp.comb 1 x ((hB _).2 hb) h1 fun i => ?_
        have := h0 i
        rwa [show w i - f z i - (1 * (u i - f z i) + x * rn v i) = w i - (u i + x * rn v i) by omega]
      · obtain ⟨j, hj, hne, rfl⟩ := mem_imgs.1 hv
        have hr : Zf (rn (rown R j)) := (hZ _).1 (.gen ⟨j, by omega, hne, rfl⟩)
        have hz2 : Zf (fun i => z i + x * rn (rown R j) i) := (hZ _).1 (Sp.comb 1 x ((hZ _).2 hz) ((hZ _).2 hr) fun i => ⟨0, by omega⟩)
        refine ⟨_, hz2, (hB _).1 ?_⟩
        have h1 := (hB _).2 (lin z (rn (rown R j)) (fun i => z i + x * rn (rown R j) i) x hz hr fun i => by simp -implicitDefEqProofs (maxSteps := 3000000))
        refine Sp.comb 1 (-1) ((hB _).2 hb) h1 fun i => ?_
        obtain ⟨a, ha⟩ := h0 i
        obtain ⟨b, hb⟩ := hh j hne i
        refine ⟨a + x * b, ?_⟩
        rw [Int.mul_add, ← ha, show mt * (x * b) = x * (mt * b) by grind, ← hb]
        grind
  · rintro ⟨z, hz, hb⟩
    have mono : ∀ u, Bt u → Sp mt (GL (L ++ imgs h R k)) u := fun u hu => ((hB u).2 hu).mono fun g ⟨v, hv, e⟩ => ⟨v, by simp -implicitDefEqProofs (maxSteps := 3000000) [hv], e⟩
    have key : ∀ z, Sp mf (GR R 0) z → Sp mt (GL (L ++ imgs h R k)) (f z) := by
      intro z hz
      induction hz with
      | @zero u h0 => exact mono _ (zero u h0)
      | @step u w g x hg hu h0 ih =>
        have hg' := hg
        obtain ⟨j, _, hne, rfl⟩ := hg'
        have h1 := mono _ (lin u _ w x ((hZ _).1 hu) ((hZ _).1 (.gen hg)) h0)
        have hj := rown_ne_lt hne
        have h2 : Sp mt (GL (L ++ imgs h R k)) (rn (h (rown R j))) := .gen ⟨_, by simp only [List.mem_append]; exact .inr (mem_imgs.2 ⟨j, by omega, hne, rfl⟩), rfl⟩
        have h3 := Sp.comb 1 x ih h2 (v := fun i => f u i + x * f (rn (rown R j)) i) fun i => by
          obtain ⟨b, hb⟩ := hh j hne i
          exact ⟨-(x * b), by rw [Int.mul_neg, show mt * (x * b) = x * (mt * b) by grind, ← hb]; grind⟩
        exact Sp.comb 1 1 h1 h3 fun i => ⟨0, by omega⟩
    exact Sp.comb 1 1 (mono _ hb) (key z ((hZ z).2 hz)) fun i => ⟨0, by omega⟩
/-! ## the three maps -/
theorem rn_timesU (V : List Int) (q : Int) (i : Nat) : rn (timesU V q) i = q * rn V i := by
  by_cases h : i < V.length
  · exact rn_map (fun x => q * x) V h
  · rw [rn_ge (by simp -implicitDefEqProofs (maxSteps := 3000000) [timesU]; omega), rn_ge (by omega)]; simp -implicitDefEqProofs (maxSteps := 3000000)
theorem rn_conL (T : List (List Int)) (M : Int) (U V : List Int) (p : Nat) (q : Int) (i : Nat) : rn (conL T M U V p q) i = rn (bndL T M U V p) i / q := by
  by_cases h : i < (bndL T M U V p).length
  · exact rn_map (fun x => x / q) _ h
  · rw [rn_ge (by simp -implicitDefEqProofs (maxSteps := 3000000) [conL]; omega), rn_ge (by omega)]; simp -implicitDefEqProofs (maxSteps := 3000000)
section
variable {T : List (List Int)} (R0 : RowsOk T) {M k q : Int} {U : List Int} {p : Nat} (hM : M = q * k) (hk : 0 < k) (hq : 0 < q)
include R0 hM hk hq
theorem im_emb {R L : List (List Int)} {K : Nat} (hK : R.length ≤ K) (hB : ∀ u, Sp M (GL L) u ↔ Bc T M U p u) (hZ : ∀ u, Sp k (GR R 0) u ↔ Zc T k U p u) (u : Nat → Int) :
    Sp M (GL (L ++ imgs (fun r => timesU r q) R K)) u ↔ ∃ z, Zc T k U p z ∧ Bc T M U p (fun i => u i - q * z i) := by
  refine im_iff (f := fun z i => q * z i) hK hB hZ (fun j _ i => by rw [rn_timesU, Int.sub_self]; exact Int.dvd_zero _) (fun u g w x _ _ h => (hB _).1 (.zero fun i => ?_)) (fun u h => (hB _).1 (.zero fun i => ?_)) u
  · obtain ⟨c, hc⟩ := h i
    exact ⟨c, by rw [hM]; show q * w i - (q * u i + x * (q * g i)) = q * k * c; rw [Int.mul_assoc, ← hc]; grind⟩
  · obtain ⟨c, hc⟩ := h i
    exact ⟨c, by rw [hM]; show q * u i = q * k * c; rw [Int.mul_assoc, ← hc]⟩
theorem im_red {R L : List (List Int)} {K : Nat} (hK : R.length ≤ K) (hB : ∀ u, Sp q (GL L) u ↔ Bc T q U p u) (hZ : ∀ u, Sp M (GR R 0) u ↔ Zc T M U p u) (u : Nat → Int) :
    Sp q (GL (L ++ imgs (fun r => restU r q) R K)) u ↔ ∃ z, Zc T M U p z ∧ Bc T q U p (fun i => u i - z i) := by
  have hqM : q ∣ M := ⟨k, hM⟩
  refine im_iff (f := fun z i => z i) hK hB hZ (fun j _ i => by rw [rn_restU]; exact mod_dvd _ _) (fun u g w x _ _ h => (hB _).1 (.zero fun i => Int.dvd_trans hqM (h i))) (fun u h => (hB _).1 (.zero fun i => Int.dvd_trans hqM (h i))) u
theorem im_con {R L : List (List Int)} {K : Nat} (hK : R.length ≤ K) (hB : ∀ u, Sp k (GL L) u ↔ Bc T k U (p + 1) u) (hZ : ∀ u, Sp q (GR R 0) u ↔ Zc T q U p u) (u : Nat → Int) :
    Sp k (GL (L ++ imgs (fun r => conL T M U r p q) R K)) u ↔ ∃ z, Zc T q U p z ∧ Bc T k U (p + 1) (fun i => u i - dF T U p z i / q) := by
  refine im_iff (f := fun z i => dF T U p z i / q) hK hB hZ (fun j hj i => ?_) (fun u g w x hu hg h => ?_) (fun u h => ?_) u
  · rw [rn_conL, bndL_F]
    have h1 := Int.emod_add_mul_ediv (dF T U p (rn (rown R j)) i) M
    generalize dF T U p (rn (rown R j)) i = X at *
    have h2 : X = X % M + q * (k * (X / M)) := by rw [← Int.mul_assoc, ← hM]; omega
    have h3 : X / q = X % M / q + k * (X / M) := by
      rw (config := {occs := .pos [1]}) [h2]
      rw [Int.add_mul_ediv_left _ _ (by omega)]
    exact ⟨-(X / M), by rw [Int.mul_neg, h3]; omega⟩
  · obtain ⟨t, rfl⟩ := cong_ex h
    refine ⟨t, fun i => ?_⟩
    show k ∣ dF T U p (fun i => u i + x * g i + q * t i) i / q - (dF T U p u i / q + x * (dF T U p g i / q)) - dF T U p t i
    rw [dF_lin, dF_lin]
    obtain ⟨a, ha⟩ := hu.1 i
    obtain ⟨b, hb⟩ := hg.1 i
    rw [ha, hb, Int.mul_ediv_cancel_left _ (by omega), Int.mul_ediv_cancel_left _ (by omega), show q * a + x * (q * b) + q * dF T U p t i = q * (a + x * b + dF T U p t i) by grind, Int.mul_ediv_cancel_left _ (by omega)]
    exact ⟨0, by omega⟩
  · obtain ⟨t, rfl⟩ := cong_ex (u := fun _ => 0) (w := u) (m := q) (fun i => by simpa using h i)
    refine ⟨t, fun i => ?_⟩
    show k ∣ dF T U p (fun i => 0 + q * t i) i / q - dF T U p t i
    rw [dF_lin T U p (fun _ => 0) t q, dF_zero, Int.zero_add, Int.mul_ediv_cancel_left _ (by omega), Int.sub_self]
    exact Int.dvd_zero k
end
end Go.Proofs.YtnfhglplafmfiaaGreatE

namespace Go.Proofs.YtnfhglplafmfiaaGreatE
open Go Go.Proofs
set_option maxHeartbeats 4000000
set_option maxRecDepth 4000
set_option linter.unusedSimpArgs false
set_option linter.unusedVariables false
/-! ## what a state has -/
@[simp] def hasE (e : Env) : List (Nat × AV) → Prop
  | [] => True
  | (t, x) :: r => lookL e t = some x ∧ hasE e r
@[simp] def hasO (o : Obs) : List (Nat × Option (Nat × Ob)) → Prop
  | [] => True
  | (t, x) :: r => obsL o t = x ∧ hasO o r
/-- What stands in slots and objects. -/
@[simp] def Has (s : St) (e : List (Nat × AV)) (o : List (Nat × Option (Nat × Ob))) : Prop := hasE s.env e ∧ hasO s.obs o
/-! ## sizes: products modulo 2^64 -/
theorem wrap_dvd (x : Int) : (18446744073709551616 : Int) ∣ IntKind.wrap .i64 x - x := by
  unfold IntKind.wrap
  have e : IntKind.bits .i64 = 64 := rfl
  have e2 : IntKind.signed .i64 = true := rfl
  simp only [e, e2, Bool.true_and, decide_eq_true_eq]
  split <;> omega
theorem wrap_rng (x : Int) : -9223372036854775808 ≤ IntKind.wrap .i64 x ∧ IntKind.wrap .i64 x < 9223372036854775808 := by
  unfold IntKind.wrap
  have e : IntKind.bits .i64 = 64 := rfl
  have e2 : IntKind.signed .i64 = true := rfl
  simp only [e, e2, Bool.true_and, decide_eq_true_eq]
  split <;> omega
theorem wrap_eq {x y : Int} (h : (18446744073709551616 : Int) ∣ x - y) : IntKind.wrap .i64 x = IntKind.wrap .i64 y := by
  have h1 := wrap_dvd x
  have h2 := wrap_dvd y
  have h3 := wrap_rng x
  have h4 := wrap_rng y
  omega
theorem wrap_mul (a b : Int) : IntKind.wrap .i64 (IntKind.wrap .i64 a * b) = IntKind.wrap .i64 (a * b) := wrap_eq (by
  rw [← Int.sub_mul]; exact Int.dvd_mul_of_dvd_left (wrap_dvd a))
def quoP (a b : Nat → Int) : Nat → Int
  | 0 => 1
  | k + 1 => quoP a b k * (a k / b k)
def exS (a b : Nat → Int) (p : Int) : Nat → Int
  | 0 => 0
  | k + 1 => exS a b p k + ((exV p (a k) : Int) - exV p (b k))
theorem quo_split : ∀ a b : Fin 13, 0 < a.val → 0 < b.val → a.val % b.val = 0 →
    exV 2 b.val ≤ exV 2 a.val ∧ exV 3 b.val ≤ exV 3 a.val ∧ exV 5 b.val ≤ exV 5 a.val ∧ exV 7 b.val ≤ exV 7 a.val ∧ exV 11 b.val ≤ exV 11 a.val ∧
      a.val / b.val = 2 ^ (exV 2 a.val - exV 2 b.val) * 3 ^ (exV 3 a.val - exV 3 b.val) * 5 ^ (exV 5 a.val - exV 5 b.val) * 7 ^ (exV 7 a.val - exV 7 b.val) * 11 ^ (exV 11 a.val - exV 11 b.val) := by decide +kernel
theorem exV_le : ∀ p n : Fin 13, 2 ≤ p.val → 0 < n.val → exV p.val n.val ≤ 5 := by decide +kernel
def AB (a b : Nat → Int) (N : Nat) : Prop := ∀ i < N, (1 ≤ a i ∧ a i ≤ 12) ∧ (1 ≤ b i ∧ b i ≤ 12) ∧ b i ∣ a i
def szF (a b : Nat → Int) (N : Nat) (p : Int) : Int := p ^ (exS a b p N).toNat
theorem exS_bd {a b : Nat → Int} {N : Nat} (h : AB a b N) {p : Int} (hp : 2 ≤ p ∧ p ≤ 11) : ∀ k, k ≤ N → -(10 * (k : Int)) ≤ exS a b p k ∧ exS a b p k ≤ 10 * k
  | 0, _ => by simp -implicitDefEqProofs (maxSteps := 3000000) [exS]
  | k + 1, hk => by
    have ih := exS_bd h hp k (by omega)
    obtain ⟨h1, h2, _⟩ := h k (by omega)
    have e1 := exV_le ⟨p.toNat, by omega⟩ ⟨(a k).toNat, by omega⟩ (by show 2 ≤ p.toNat; omega) (by show 0 < (a k).toNat; omega)
    have e2 := exV_le ⟨p.toNat, by omega⟩ ⟨(b k).toNat, by omega⟩ (by show 2 ≤ p.toNat; omega) (by show 0 < (b k).toNat; omega)
    simp only [Int.toNat_of_nonneg (show 0 ≤ p by omega), Int.toNat_of_nonneg (show 0 ≤ a k by omega), Int.toNat_of_nonneg (show 0 ≤ b k by omega)] at e1 e2
    simp only [exS]
    omega
theorem quoP_eq {a b : Nat → Int} {N : Nat} (h : AB a b N) : ∀ k, k ≤ N → (0 ≤ exS a b 2 k ∧ 0 ≤ exS a b 3 k ∧ 0 ≤ exS a b 5 k ∧ 0 ≤ exS a b 7 k ∧ 0 ≤ exS a b 11 k) ∧
    quoP a b k = szF a b k 2 * szF a b k 3 * szF a b k 5 * szF a b k 7 * szF a b k 11
  | 0, _ => by simp -implicitDefEqProofs (maxSteps := 3000000) [exS, quoP, szF]
  | k + 1, hk => by
    obtain ⟨⟨z1, z2, z3, z4, z5⟩, ih⟩ := quoP_eq h k (by omega)
    obtain ⟨h1, h2, h3⟩ := h k (by omega)
    have h4 := Int.emod_eq_zero_of_dvd h3
    have h5 : (a k).toNat % (b k).toNat = 0 := by
      have : (((a k).toNat % (b k).toNat : Nat) : Int) = 0 := by
        rw [Int.natCast_emod, Int.toNat_of_nonneg (by omega), Int.toNat_of_nonneg (by omega)]; exact h4
      omega
    have e := quo_split ⟨(a k).toNat, by omega⟩ ⟨(b k).toNat, by omega⟩ (by show 0 < (a k).toNat; omega) (by show 0 < (b k).toNat; omega) h5
    simp only [Int.toNat_of_nonneg (show 0 ≤ a k by omega), Int.toNat_of_nonneg (show 0 ≤ b k by omega)] at e
    obtain ⟨e1, e2, e3, e4, e5, e6⟩ := e
    have tn : ∀ p : Int, 0 ≤ exS a b p k → exV p (b k) ≤ exV p (a k) → (exS a b p (k + 1)).toNat = (exS a b p k).toNat + (exV p (a k) - exV p (b k)) := by
      intro p h1 h2
      simp only [exS]
      omega
    have nn : ∀ p : Int, 0 ≤ exS a b p k → exV p (b k) ≤ exV p (a k) → 0 ≤ exS a b p (k + 1) := by
      intro p h1 h2
      simp only [exS]
      omega
    refine ⟨⟨nn 2 z1 e1, nn 3 z2 e2, nn 5 z3 e3, nn 7 z4 e4, nn 11 z5 e5⟩, ?_⟩
    have q : a k / b k = (((a k).toNat / (b k).toNat : Nat) : Int) := by
      have e1 : ((a k).toNat : Int) = a k := by omega
      have e2 : ((b k).toNat : Int) = b k := by omega
      rw [Int.natCast_ediv, e1, e2]
    simp only [quoP, szF]
    rw [tn 2 z1 e1, tn 3 z2 e2, tn 5 z3 e3, tn 7 z4 e4, tn 11 z5 e5, ih, q, e6]
    simp only [szF, Int.pow_add, Int.natCast_mul, Int.natCast_pow]
    simp only [Int.mul_assoc, Int.mul_left_comm, Int.mul_comm]
    grind
/-- The steps. -/
def sval (M : Int) (R : List (List Int)) (j : Nat) : Int := M / stpD M R j
theorem stpL_get {M : Int} (hM : 0 < M) {R : List (List Int)} {N j : Nat} (hj : j < N) : rn (stpL M R N) j = sval M R j := by
  have : rn (stpL M R N) j = if rown R j = [] then 1 else M / rn (rown R j) j := by simp -implicitDefEqProofs (maxSteps := 3000000) [stpL, rn, List.getD, hj]
  rw [this]
  unfold sval stpD
  split
  · rw [Int.ediv_self (by omega)]
  · rfl
theorem ediv_dvd {M d e : Int} (h0 : 0 < d) (he : 0 < e) (h : d ∣ e) (h2 : e ∣ M) : M / e ∣ M / d := by
  obtain ⟨a, rfl⟩ := h
  obtain ⟨b, rfl⟩ := h2
  rw [Int.mul_ediv_cancel_left _ (by omega), Int.mul_assoc, Int.mul_ediv_cancel_left _ (by omega)]
  exact ⟨a, Int.mul_comm _ _⟩
theorem sval_bd {M : Int} (hM : 2 ≤ M ∧ M ≤ 12) {N : Nat} {R : List (List Int)} (S : Rws M N R) (j : Nat) : 1 ≤ sval M R j ∧ sval M R j ≤ 12 := by
  obtain ⟨h1, h2⟩ := stpD_pos (show 0 < M by omega) S j
  obtain ⟨c, hc⟩ := h2
  have e : sval M R j = c := by unfold sval; rw (config := {occs := .pos [1]}) [hc]; exact Int.mul_ediv_cancel_left _ (by omega)
  rw [e]
  have h3 : 0 < c := by
    rcases Int.lt_or_le 0 c with z | z
    · exact z
    · have := Int.mul_nonneg (show 0 ≤ stpD M R j by omega) (show 0 ≤ -c by omega)
      rw [Int.mul_neg] at this; omega
  have h4 : 1 * c ≤ stpD M R j * c := Int.mul_le_mul_of_nonneg_right (by omega) (by omega)
  omega
/-- What stands in the smaller span stands in the greater: the steps divide. -/
theorem stpD_dvd {m : Int} {N N' : Nat} {R R' : List (List Int)} (hm : 0 < m) (S : Sat m N R []) (S' : Sat m N' R' []) (h : ∀ u, Sp m (GR R 0) u → Sp m (GR R' 0) u) (j : Nat) : stpD m R' j ∣ stpD m R j := by
  by_cases e : rown R j = []
  · have : stpD m R j = m := by simp -implicitDefEqProofs (maxSteps := 3000000) [stpD, e]
    rw [this]; exact (stpD_pos hm S'.rws j).2
  · have : stpD m R j = rn (rown R j) j := by simp -implicitDefEqProofs (maxSteps := 3000000) [stpD, e]
    rw [this]
    refine head_dvd hm S' (h _ (.gen ⟨j, by omega, e, rfl⟩)) fun i hi => ?_
    rw [(S.rws.row j e).2.1 i hi]; exact Int.dvd_zero _
theorem ab_of {m : Int} (hM : 2 ≤ m ∧ m ≤ 12) {N N' : Nat} {R R' : List (List Int)} (S : Sat m N R []) (S' : Sat m N' R' []) (h : ∀ u, Sp m (GR R 0) u → Sp m (GR R' 0) u) (K : Nat) : AB (sval m R') (sval m R) K :=
  fun i _ => ⟨sval_bd hM S'.rws i, sval_bd hM S.rws i, ediv_dvd (stpD_pos (by omega) S'.rws i).1 (stpD_pos (by omega) S.rws i).1 (stpD_dvd (by omega) S S' h i) (stpD_pos (by omega) S.rws i).2⟩
theorem sval_eq {m : Int} {N N' : Nat} {R R' : List (List Int)} (hm : 0 < m) (S : Sat m N R []) (S' : Sat m N' R' []) (h : ∀ u, Sp m (GR R 0) u ↔ Sp m (GR R' 0) u) : sval m R = sval m R' := by
  funext j; unfold sval; rw [stpD_eq hm S S' h j]
end Go.Proofs.YtnfhglplafmfiaaGreatE
