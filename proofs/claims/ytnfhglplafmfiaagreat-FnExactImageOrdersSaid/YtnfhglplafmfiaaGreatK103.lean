/- Contracts of functions of the program and of the reference: what the evaluator gives for a call of each. -/
import Derived.Test.YtnfhglplafmfiaaGreatAEf
import Derived.Test.YtnfhglplafmfiaaGreatK1M
import Derived.Test.YtnfhglplafmfiaaGreatK3M
import Derived.Test.YtnfhglplafmfiaaGreatK6M
import Derived.Test.YtnfhglplafmfiaaGreatK15
import Derived.Test.YtnfhglplafmfiaaGreatK16
import Derived.Test.YtnfhglplafmfiaaGreatK17
import Derived.Test.YtnfhglplafmfiaaGreatK90M
import Derived.Test.YtnfhglplafmfiaaGreatK91
import Derived.Test.YtnfhglplafmfiaaGreatK98M
import Derived.Test.YtnfhglplafmfiaaGreatK100M
namespace Go.Proofs.YtnfhglplafmfiaaGreatE
open Go Go.Proofs
set_option maxHeartbeats 4000000
set_option maxRecDepth 4000
set_option linter.unusedSimpArgs false
set_option linter.unusedVariables false
/-! ## the boundary as a linear map over whole numbers -/
noncomputable def atF (N : Nat) (u : Nat → Int) (l : List Int) : Int := @ite Int (NoZ l) (Classical.propDecidable _) (u (numA N l l.length).toNat) 0
theorem atF_lin (N : Nat) (u w : Nat → Int) (x : Int) (l : List Int) : atF N (fun i => u i + x * w i) l = atF N u l + x * atF N w l := by
  unfold atF; split
  · rfl
  · simp -implicitDefEqProofs (maxSteps := 3000000)
noncomputable def sdF (T : List (List Int)) (U : List Int) (u : Nat → Int) (l : List Int) : Nat → Int
  | 0 => rn U (rn l 0).toNat * atF T.length u (l.drop 1)
  | k + 1 => sdF T U u l k + sgn k * atF T.length u (mrg T l k)
theorem sdF_lin (T : List (List Int)) (U : List Int) (u w : Nat → Int) (x : Int) (l : List Int) : ∀ k, sdF T U (fun i => u i + x * w i) l k = sdF T U u l k + x * sdF T U w l k
  | 0 => by simp only [sdF, atF_lin]; grind
  | k + 1 => by simp only [sdF, atF_lin, sdF_lin T U u w x l k]; grind
noncomputable def sideF (T : List (List Int)) (U : List Int) (u : Nat → Int) (l : List Int) : Int := sdF T U u l (l.length - 1) + sgn (l.length - 1) * atF T.length u (l.take (l.length - 1))
theorem sideF_lin (T : List (List Int)) (U : List Int) (u w : Nat → Int) (x : Int) (l : List Int) : sideF T U (fun i => u i + x * w i) l = sideF T U u l + x * sideF T U w l := by
  simp only [sideF, sdF_lin, atF_lin]; grind
theorem sdA_F (T : List (List Int)) (U V l : List Int) : ∀ k, sdA T U V l k = sdF T U (rn V) l k
  | 0 => rfl
  | k + 1 => by simp only [sdA, sdF, sdA_F T U V l k]; rfl
theorem sideV_F (T : List (List Int)) (U V l : List Int) : sideV T U V l = sideF T U (rn V) l := by simp only [sideV, sideF, sdA_F]; rfl
noncomputable def dF (T : List (List Int)) (U : List Int) (p : Nat) (u : Nat → Int) (i : Nat) : Int := if i < (T.length - 1) ^ (p + 1) then sideF T U u (digs (T.length - 1) (p + 1) i) else 0
theorem dF_lin (T : List (List Int)) (U : List Int) (p : Nat) (u w : Nat → Int) (x : Int) (i : Nat) : dF T U p (fun i => u i + x * w i) i = dF T U p u i + x * dF T U p w i := by
  unfold dF; split
  · exact sideF_lin ..
  · simp -implicitDefEqProofs (maxSteps := 3000000)
theorem dF_zero (T : List (List Int)) (U : List Int) (p : Nat) (i : Nat) : dF T U p (fun _ => 0) i = 0 := by
  have := dF_lin T U p (fun _ => 0) (fun _ => 0) 1 i
  simp only [Int.mul_zero, Int.add_zero, Int.one_mul] at this
  omega
/-- What is led to differs by a multiple. -/
theorem cong_ex {m : Int} {u w : Nat → Int} (h : ∀ i, m ∣ w i - u i) : ∃ t : Nat → Int, w = fun i => u i + m * t i :=
  ⟨fun i => (w i - u i) / m, funext fun i => by rw [Int.mul_ediv_cancel' (h i)]; omega⟩
theorem dF_cong {T : List (List Int)} {U : List Int} {p : Nat} {m : Int} {u w : Nat → Int} (h : ∀ i, m ∣ w i - u i) (i : Nat) : m ∣ dF T U p w i - dF T U p u i := by
  obtain ⟨t, rfl⟩ := cong_ex h
  rw [dF_lin]
  exact ⟨dF T U p t i, by omega⟩
theorem dF_dvd {T : List (List Int)} {U : List Int} {p : Nat} {m : Int} {u : Nat → Int} (h : ∀ i, m ∣ u i) (i : Nat) : m ∣ dF T U p u i := by
  have := dF_cong (T := T) (U := U) (p := p) (u := fun _ => 0) (w := u) (m := m) (fun i => by simpa using h i) i
  rwa [dF_zero, Int.sub_zero] at this
theorem atF_loc {N : Nat} (hN : 1 ≤ N) {u w : Nat → Int} {l : List Int} (hg : InG N l) (h : ∀ i < (N - 1) ^ l.length, u i = w i) : atF N u l = atF N w l := by
  unfold atF; split
  · rename_i h1
    have nb := numA_bd hN (l := l) l.length (fun j hj => by have := hg j hj; have := h1 j hj; omega)
    rw [pow_cast hN] at nb
    exact h _ (by omega)
  · rfl
theorem sdF_loc {T : List (List Int)} (R : RowsOk T) {U : List Int} {u w : Nat → Int} {l : List Int} {p : Nat} (hl : l.length = p + 1) (hg : InG T.length l) (h : ∀ i < (T.length - 1) ^ p, u i = w i) : ∀ k, k ≤ p → sdF T U u l k = sdF T U w l k
  | 0, _ => by
    simp only [sdF]
    rw [atF_loc R.1.1 (inG_drop hg 1) (by rw [List.length_drop, hl]; exact h)]
  | k + 1, hk => by
    simp only [sdF]
    rw [sdF_loc R hl hg h k (by omega), atF_loc R.1.1 (mrg_inG R hg (by omega)) (by rw [mrg_len _ _ _ (by omega), hl]; exact h)]
theorem dF_loc {T : List (List Int)} (R : RowsOk T) {U : List Int} {u w : Nat → Int} {p : Nat} (h : ∀ i < (T.length - 1) ^ p, u i = w i) (i : Nat) : dF T U p u i = dF T U p w i := by
  unfold dF
  by_cases hi : i < (T.length - 1) ^ (p + 1)
  · rw [if_pos hi, if_pos hi]
    have hg := digs_inG R.1.1 hi
    have hl : (digs (T.length - 1) (p + 1) i).length = p + 1 := digs_len ..
    generalize digs (T.length - 1) (p + 1) i = l at *
    unfold sideF
    rw [hl, Nat.add_sub_cancel, sdF_loc R hl hg h p (Nat.le_refl _), atF_loc R.1.1 (inG_take hg p) (by rw [List.length_take, hl, Nat.min_eq_left (by omega)]; exact h)]
  · rw [if_neg hi, if_neg hi]
theorem rn_restU (U : List Int) (q : Int) (i : Nat) : rn (restU U q) i = rn U i % q := by
  by_cases h : i < U.length
  · exact rn_map (fun x => x % q) U h
  · rw [rn_ge (by simp -implicitDefEqProofs (maxSteps := 3000000) [restU]; omega), rn_ge (by omega)]; simp -implicitDefEqProofs (maxSteps := 3000000)
theorem sdF_U {T : List (List Int)} {U U' : List Int} {m : Int} (h : ∀ i, m ∣ rn U' i - rn U i) (u : Nat → Int) (l : List Int) : ∀ k, m ∣ sdF T U' u l k - sdF T U u l k
  | 0 => by
    simp only [sdF]
    rw [← Int.sub_mul]
    exact Int.dvd_mul_of_dvd_left (h _)
  | k + 1 => by
    simp only [sdF]
    have := sdF_U (T := T) h u l k
    rwa [show ∀ a b c : Int, a + c - (b + c) = a - b by intro a b c; omega]
theorem dF_U {T : List (List Int)} {U : List Int} {p : Nat} (m : Int) (u : Nat → Int) (i : Nat) : m ∣ dF T (restU U m) p u i - dF T U p u i := by
  unfold dF; split
  · unfold sideF
    have := sdF_U (T := T) (U := U) (U' := restU U m) (m := m) (fun i => by rw [rn_restU]; have := Int.emod_add_mul_ediv (rn U i) m; exact ⟨-(rn U i / m), by rw [Int.mul_neg]; omega⟩) u (digs (T.length - 1) (p + 1) i) ((digs (T.length - 1) (p + 1) i).length - 1)
    rwa [show ∀ a b c : Int, a + c - (b + c) = a - b by intro a b c; omega]
  · simp -implicitDefEqProofs (maxSteps := 3000000)
theorem bndL_F (T : List (List Int)) (M : Int) (U V : List Int) (p i : Nat) : rn (bndL T M U V p) i = dF T U p (rn V) i % M := by
  unfold dF; split
  · rename_i h
    rw [bndL, rn_tabI _ h, bnd1, sideV_F]
  · rename_i h
    rw [rn_ge (by simpa [bndL] using h)]; simp -implicitDefEqProofs (maxSteps := 3000000)
theorem mod_dvd (x m : Int) : m ∣ x % m - x := by
  have := Int.emod_add_mul_ediv x m
  exact ⟨-(x / m), by rw [Int.mul_neg]; omega⟩
theorem bndL_dvd (T : List (List Int)) (M : Int) (U V : List Int) (p i : Nat) : M ∣ rn (bndL T M U V p) i - dF T U p (rn V) i := by rw [bndL_F]; exact mod_dvd _ _
/-! ## what bounds, and cocycles -/
def trunc (u : Nat → Int) (k : Nat) (i : Nat) : Int := if i < k then u i else 0
theorem trunc_succ (u : Nat → Int) {k n : Nat} (hk : k < n) : trunc u (k + 1) = fun i => trunc u k i + u k * rn (uni n k) i := by
  funext i
  rw [uni_get]
  unfold trunc
  by_cases e : i = k
  · subst e; rw [if_pos (by omega), if_neg (by omega), if_pos ⟨rfl, hk⟩]; omega
  · rw [if_neg (show ¬ (i = k ∧ k < n) from fun z => e z.1), Int.mul_zero, Int.add_zero]
    by_cases h : i < k
    · rw [if_pos (by omega), if_pos h]
    · rw [if_neg (by omega), if_neg h]
theorem trunc_zero (u : Nat → Int) : trunc u 0 = fun _ => 0 := by funext i; simp -implicitDefEqProofs (maxSteps := 3000000) [trunc]
theorem dF_trunc_sp {T : List (List Int)} {m : Int} {U : List Int} {p : Nat} (u : Nat → Int) : ∀ k, k ≤ (T.length - 1) ^ p → Sp m (GL (bds T m U p k)) (dF T U p (trunc u k))
  | 0, _ => .zero fun i => by rw [trunc_zero, dF_zero]; exact Int.dvd_zero m
  | k + 1, hk => by
    have ih := dF_trunc_sp (T := T) (m := m) (U := U) (p := p) u k (by omega)
    rw [bds_succ]
    refine .step (u k) (g := rn (bndL T m U (uni ((T.length - 1) ^ p) k) p)) ⟨_, by simp, rfl⟩ (ih.mono fun g ⟨v, hv, e⟩ => ⟨v, by simp -implicitDefEqProofs (maxSteps := 3000000) [hv], e⟩) fun i => ?_
    rw [trunc_succ u hk, dF_lin]
    have := bndL_dvd T m U (uni ((T.length - 1) ^ p) k) p i
    obtain ⟨c, hc⟩ := this
    exact ⟨-(u k * c), by rw [Int.mul_neg]; have e : rn (bndL T m U (uni ((T.length - 1) ^ p) k) p) i = dF T U p (rn (uni ((T.length - 1) ^ p) k)) i + m * c := by omega
                          rw [e]; grind⟩
theorem trunc_eq {u : Nat → Int} {k i : Nat} (h : i < k) : trunc u k i = u i := if_pos h
theorem dF_sp {T : List (List Int)} (R : RowsOk T) {m : Int} {U : List Int} {p : Nat} (u : Nat → Int) : Sp m (GL (bds T m U p ((T.length - 1) ^ p))) (dF T U p u) :=
  (dF_trunc_sp u _ (Nat.le_refl _)).cong fun i => by
    rw [dF_loc R (U := U) (u := trunc u ((T.length - 1) ^ p)) (w := u) (fun i hi => trunc_eq hi) i, Int.sub_self]; exact Int.dvd_zero m
/-- What is a boundary modulo m. -/
def Bc (T : List (List Int)) (m : Int) (U : List Int) : Nat → (Nat → Int) → Prop
  | 0, u => ∀ i, m ∣ u i
  | p + 1, u => ∃ t, ∀ i, m ∣ u i - dF T U p t i
theorem bc_iff {T : List (List Int)} (R : RowsOk T) (m : Int) (U : List Int) (p : Nat) (u : Nat → Int) : Sp m (GL (if p = 0 then [] else bds T m U (p - 1) ((T.length - 1) ^ (p - 1)))) u ↔ Bc T m U p u := by
  cases p with
  | zero =>
    rw [if_pos rfl]
    constructor
    · intro h
      cases h with
      | zero h => exact h
      | step x hg _ _ => obtain ⟨v, hv, _⟩ := hg; simp -implicitDefEqProofs (maxSteps := 3000000) at hv
    · intro h; exact .zero h
  | succ p =>
    rw [if_neg (by omega), Nat.add_sub_cancel]
    constructor
    · intro h
      induction h with
      | @zero u h => exact ⟨fun _ => 0, fun i => by rw [dF_zero, Int.sub_zero]; exact h i⟩
      | @step u w g x hg hu h ih =>
        obtain ⟨t, ht⟩ := ih
        obtain ⟨v, hv, rfl⟩ := hg
        simp only [bds, List.mem_map, List.mem_range] at hv
        obtain ⟨k, hk, rfl⟩ := hv
        refine ⟨fun i => t i + x * rn (uni ((T.length - 1) ^ p) k) i, fun i => ?_⟩
        rw [dF_lin]
        obtain ⟨a, ha⟩ := h i
        obtain ⟨b, hb⟩ := ht i
        obtain ⟨c, hc⟩ := bndL_dvd T m U (uni ((T.length - 1) ^ p) k) p i
        refine ⟨a + b + x * c, ?_⟩
        rw [Int.mul_add, Int.mul_add, ← ha, ← hb, show m * (x * c) = x * (m * c) by grind, ← hc]
        grind
    · rintro ⟨t, ht⟩
      exact (dF_sp R t).cong ht
/-- What is led to 0 modulo m. -/
def Zc (T : List (List Int)) (m : Int) (U : List Int) (p : Nat) (u : Nat → Int) : Prop := (∀ i, m ∣ dF T U p u i) ∧ ∀ i, (T.length - 1) ^ p ≤ i → m ∣ u i
theorem rn_appL {a b : List Int} {k : Nat} (h : k < a.length) : rn (a ++ b) k = rn a k := by
  simp only [rn, List.getD_eq_getElem?_getD]; rw [List.getElem?_append_left h]
theorem rn_appR {a b : List Int} {k : Nat} (h : a.length ≤ k) : rn (a ++ b) k = rn b (k - a.length) := by
  simp only [rn, List.getD_eq_getElem?_getD]; rw [List.getElem?_append_right h]
theorem bndL_len (T : List (List Int)) (M : Int) (U V : List Int) (p : Nat) : (bndL T M U V p).length = (T.length - 1) ^ (p + 1) := by simp -implicitDefEqProofs (maxSteps := 3000000) [bndL]
/-- A row: the boundary, then the cochain. -/
noncomputable def pairF (T : List (List Int)) (U : List Int) (p : Nat) (u : Nat → Int) (i : Nat) : Int := if i < (T.length - 1) ^ (p + 1) then dF T U p u i else u (i - (T.length - 1) ^ (p + 1))
theorem pairF_lin (T : List (List Int)) (U : List Int) (p : Nat) (u w : Nat → Int) (x : Int) (i : Nat) : pairF T U p (fun i => u i + x * w i) i = pairF T U p u i + x * pairF T U p w i := by
  unfold pairF; split
  · exact dF_lin ..
  · rfl
theorem bdU_dvd (T : List (List Int)) (M : Int) (U : List Int) (p k i : Nat) : M ∣ rn (bdU T M U p k) i - pairF T U p (rn (uni ((T.length - 1) ^ p) k)) i := by
  unfold bdU pairF
  by_cases h : i < (T.length - 1) ^ (p + 1)
  · rw [rn_appL (by rw [bndL_len]; exact h), if_pos h]; exact bndL_dvd ..
  · rw [rn_appR (by rw [bndL_len]; omega), bndL_len, if_neg h, Int.sub_self]; exact Int.dvd_zero M
theorem pair_trunc_sp {T : List (List Int)} {m : Int} {U : List Int} {p : Nat} (u : Nat → Int) : ∀ k, k ≤ (T.length - 1) ^ p → Sp m (GL (bdUs T m U p k)) (pairF T U p (trunc u k))
  | 0, _ => .zero fun i => by
    have : pairF T U p (fun _ => 0) i = 0 := by unfold pairF; split; exact dF_zero ..; rfl
    rw [trunc_zero, this]; exact Int.dvd_zero m
  | k + 1, hk => by
    have ih := pair_trunc_sp (T := T) (m := m) (U := U) (p := p) u k (by omega)
    rw [bdUs_succ]
    refine .step (u k) (g := rn (bdU T m U p k)) ⟨_, by simp, rfl⟩ (ih.mono fun g ⟨v, hv, e⟩ => ⟨v, by simp -implicitDefEqProofs (maxSteps := 3000000) [hv], e⟩) fun i => ?_
    rw [trunc_succ u hk, pairF_lin]
    obtain ⟨c, hc⟩ := bdU_dvd T m U p k i
    exact ⟨-(u k * c), by rw [Int.mul_neg]; have e : rn (bdU T m U p k) i = pairF T U p (rn (uni ((T.length - 1) ^ p) k)) i + m * c := by omega
                          rw [e]; grind⟩
theorem pair_sp {T : List (List Int)} {m : Int} {U : List Int} {p : Nat} {v : Nat → Int} (h : Sp m (GL (bdUs T m U p ((T.length - 1) ^ p))) v) :
    ∃ u, (∀ i, (T.length - 1) ^ p ≤ i → u i = 0) ∧ ∀ i, m ∣ v i - pairF T U p u i := by
  induction h with
  | @zero v h =>
    refine ⟨fun _ => 0, fun _ _ => rfl, fun i => ?_⟩
    have : pairF T U p (fun _ => 0) i = 0 := by unfold pairF; split; exact dF_zero ..; rfl
    rw [this, Int.sub_zero]; exact h i
  | @step v w g x hg hu h ih =>
    obtain ⟨t, ht0, ht⟩ := ih
    obtain ⟨r, hr, rfl⟩ := hg
    simp only [bdUs, List.mem_map, List.mem_range] at hr
    obtain ⟨k, hk, rfl⟩ := hr
    refine ⟨fun i => t i + x * rn (uni ((T.length - 1) ^ p) k) i, fun i hi => by
      show t i + x * rn (uni ((T.length - 1) ^ p) k) i = 0
      rw [ht0 i hi, uni_get, if_neg (by omega)]; simp, fun i => ?_⟩
    rw [pairF_lin]
    obtain ⟨a, ha⟩ := h i
    obtain ⟨b, hb⟩ := ht i
    obtain ⟨c, hc⟩ := bdU_dvd T m U p k i
    refine ⟨a + b + x * c, ?_⟩
    rw [Int.mul_add, Int.mul_add, ← ha, ← hb, show m * (x * c) = x * (m * c) by grind, ← hc]
    grind
theorem zc_iff {T : List (List Int)} (R : RowsOk T) (m : Int) (U : List Int) (p : Nat) (u : Nat → Int) : Sp m (GL (bdUs T m U p ((T.length - 1) ^ p))) (shf ((T.length - 1) ^ (p + 1)) u) ↔ Zc T m U p u := by
  constructor
  · intro h
    obtain ⟨t, ht0, ht⟩ := pair_sp h
    have h1 : ∀ i, m ∣ u i - t i := fun i => by
      have := ht (i + (T.length - 1) ^ (p + 1))
      unfold shf pairF at this
      rwa [if_neg (by omega), if_neg (by omega), Nat.add_sub_cancel] at this
    refine ⟨fun i => ?_, fun i hi => by have := h1 i; rwa [ht0 i hi, Int.sub_zero] at this⟩
    have h2 := dF_cong (T := T) (U := U) (p := p) h1 i
    have h3 : m ∣ dF T U p t i := by
      by_cases hi : i < (T.length - 1) ^ (p + 1)
      · have := ht i
        unfold shf pairF at this
        rw [if_pos hi, if_pos hi, Int.zero_sub] at this
        exact Int.dvd_neg.1 this
      · unfold dF; rw [if_neg hi]; exact Int.dvd_zero m
    have := Int.dvd_add h2 h3
    rwa [Int.sub_add_cancel] at this
  · rintro ⟨h1, h2⟩
    refine (pair_trunc_sp u _ (Nat.le_refl _)).cong fun i => ?_
    unfold shf pairF
    by_cases hi : i < (T.length - 1) ^ (p + 1)
    · rw [if_pos hi, if_pos hi, dF_loc R (U := U) (u := trunc u ((T.length - 1) ^ p)) (w := u) (fun i hi => trunc_eq hi) i, Int.zero_sub]
      exact Int.dvd_neg.2 (h1 i)
    · rw [if_neg hi, if_neg hi]
      unfold trunc
      by_cases hj : i - (T.length - 1) ^ (p + 1) < (T.length - 1) ^ p
      · rw [if_pos hj, Int.sub_self]; exact Int.dvd_zero m
      · rw [if_neg hj, Int.sub_zero]; exact h2 _ (by omega)
theorem zc_U {T : List (List Int)} {m : Int} {U : List Int} {p : Nat} {u : Nat → Int} : Zc T m (restU U m) p u ↔ Zc T m U p u := by
  have h := dF_U (T := T) (U := U) (p := p) m u
  unfold Zc
  constructor
  · rintro ⟨h1, h2⟩
    exact ⟨fun i => by have := Int.dvd_sub (h1 i) (h i); rwa [show ∀ a b : Int, a - (a - b) = b by intro a b; omega] at this, h2⟩
  · rintro ⟨h1, h2⟩
    exact ⟨fun i => by have := Int.dvd_add (h i) (h1 i); rwa [Int.sub_add_cancel] at this, h2⟩
theorem bc_U {T : List (List Int)} {m : Int} {U : List Int} {p : Nat} {u : Nat → Int} : Bc T m (restU U m) p u ↔ Bc T m U p u := by
  cases p with
  | zero => exact Iff.rfl
  | succ p =>
    constructor
    · rintro ⟨t, h1⟩
      exact ⟨t, fun i => by have := Int.dvd_add (h1 i) (dF_U (T := T) (U := U) (p := p) m t i); rwa [show ∀ a b c : Int, a - b + (b - c) = a - c by intro a b c; omega] at this⟩
    · rintro ⟨t, h1⟩
      exact ⟨t, fun i => by have := Int.dvd_sub (h1 i) (dF_U (T := T) (U := U) (p := p) m t i); rwa [show ∀ a b c : Int, a - b - (c - b) = a - c by intro a b c; omega] at this⟩
end Go.Proofs.YtnfhglplafmfiaaGreatE
