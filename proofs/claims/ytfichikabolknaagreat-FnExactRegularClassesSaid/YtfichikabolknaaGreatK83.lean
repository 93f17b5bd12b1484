/- Contracts of functions of the program and of the reference: what the evaluator gives for a call of each. -/
import Derived.Test.YtfichikabolknaaGreatAEf
import Derived.Test.YtfichikabolknaaGreatK0
import Derived.Test.YtfichikabolknaaGreatK3
import Derived.Test.YtfichikabolknaaGreatK15
import Derived.Test.YtfichikabolknaaGreatK17
import Derived.Test.YtfichikabolknaaGreatK19
import Derived.Test.YtfichikabolknaaGreatK20
import Derived.Test.YtfichikabolknaaGreatK24
import Derived.Test.YtfichikabolknaaGreatK28
import Derived.Test.YtfichikabolknaaGreatK34
import Derived.Test.YtfichikabolknaaGreatK37
import Derived.Test.YtfichikabolknaaGreatK51
import Derived.Test.YtfichikabolknaaGreatK75
import Derived.Test.YtfichikabolknaaGreatK76
namespace Go.Proofs.YtfichikabolknaaGreatE
open Go Go.Proofs
set_option maxHeartbeats 4000000
set_option maxRecDepth 4000
set_option linter.unusedSimpArgs false
set_option linter.unusedVariables false
set_option pp.deepTerms false
set_option pp.deepTerms.threshold 10
/-! ## conjugacy classes -/
theorem cj_times {T : List (List Int)} (G : IsGr T) {c a : Nat} (hc : c < T.length) (ha : a < T.length) : mu T (cj T c a) c = mu T c a := by
  obtain ⟨i1, i2, i3⟩ := inv_spec G hc
  unfold cj
  rw [mu_as G (mu_lt G hc ha) i1 hc, i3, mu_0r G (mu_lt G hc ha)]
theorem cj_comp {T : List (List Int)} (G : IsGr T) {d c a : Nat} (hd : d < T.length) (hc : c < T.length) (ha : a < T.length) : cj T d (cj T c a) = cj T (mu T d c) a := by
  have hx := cj_lt G hc ha
  have hdc := mu_lt G hd hc
  refine cancel_r G hdc (cj_lt G hd hx) (cj_lt G hdc ha) ?_
  rw [cj_times G hdc ha, ← mu_as G (cj_lt G hd hx) hd hc, cj_times G hd hx, mu_as G hd hx hc, cj_times G hc ha, mu_as G hd hc ha]
theorem cj_one {T : List (List Int)} (G : IsGr T) {a : Nat} (ha : a < T.length) : cj T 0 a = a := by
  have h0 := zero_lt_len G
  have := cj_times G h0 ha
  rwa [mu_0r G (cj_lt G h0 ha), mu_0l G ha] at this
def cjQ (T : List (List Int)) (a b : Nat) : Prop := ∃ c < T.length, cj T c a = b
theorem cjQ_lt {T : List (List Int)} (G : IsGr T) {a b : Nat} (ha : a < T.length) (h : cjQ T a b) : b < T.length := by
  obtain ⟨c, hc, rfl⟩ := h
  exact cj_lt G hc ha
theorem cjQ_refl {T : List (List Int)} (G : IsGr T) {a : Nat} (ha : a < T.length) : cjQ T a a := ⟨0, zero_lt_len G, cj_one G ha⟩
theorem cjQ_symm {T : List (List Int)} (G : IsGr T) {a b : Nat} (ha : a < T.length) (h : cjQ T a b) : cjQ T b a := by
  obtain ⟨c, hc, rfl⟩ := h
  exact ⟨inv T c, (inv_spec G hc).1, cj_back G hc ha⟩
theorem cjQ_trans {T : List (List Int)} (G : IsGr T) {a b d : Nat} (ha : a < T.length) (h : cjQ T a b) (h2 : cjQ T b d) : cjQ T a d := by
  obtain ⟨c, hc, rfl⟩ := h
  obtain ⟨e, he, rfl⟩ := h2
  exact ⟨mu T e c, mu_lt G he hc, (cj_comp G he hc ha).symm⟩
/-- The class of an element, ascending. -/
noncomputable def clsL (T : List (List Int)) (a : Nat) : List Int := thoseL (fun b => bl (cjQ T a b)) T.length
/-- The least element of its class. -/
def Lst (T : List (List Int)) (a : Nat) : Prop := ∀ b < a, ¬ cjQ T b a
noncomputable def lsts (T : List (List Int)) (i : Nat) : List Nat := (List.range i).filter fun a => bl (Lst T a)
theorem lsts_succ (T : List (List Int)) (i : Nat) : lsts T (i + 1) = lsts T i ++ (if bl (Lst T i) = true then [i] else []) := by
  unfold lsts
  rw [List.range_succ, List.filter_append]
  congr 1
  by_cases h : bl (Lst T i) = true
  · simp -implicitDefEqProofs (maxSteps := 3000000) [h]
  · simp -implicitDefEqProofs (maxSteps := 3000000) [h]
theorem lsts_len (T : List (List Int)) (i : Nat) : (lsts T i).length ≤ i := by
  have := List.length_filter_le (fun a => bl (Lst T a)) (List.range i)
  simpa [lsts] using this
theorem mem_thoseL {q : Nat → Bool} {n : Nat} {x : Int} : x ∈ thoseL q n ↔ ∃ a < n, q a = true ∧ (a : Int) = x := by
  unfold thoseL
  simp only [List.mem_map, List.mem_filter, List.mem_range]
  constructor
  · rintro ⟨a, ⟨h1, h2⟩, e⟩; exact ⟨a, h1, h2, e⟩
  · rintro ⟨a, h1, h2, e⟩; exact ⟨a, ⟨h1, h2⟩, e⟩
theorem of_bl {p : Prop} (h : bl p = true) : p := by simpa [bl] using h
theorem mem_clsL {T : List (List Int)} (G : IsGr T) {a : Nat} (ha : a < T.length) {x : Int} : x ∈ clsL T a ↔ ∃ b : Nat, cjQ T a b ∧ (b : Int) = x := by
  unfold clsL
  rw [mem_thoseL]
  constructor
  · rintro ⟨b, _, h, e⟩; exact ⟨b, of_bl h, e⟩
  · rintro ⟨b, h, e⟩; exact ⟨b, cjQ_lt G ha h, bl_true h, e⟩
theorem clsL_len {T : List (List Int)} (a : Nat) : (clsL T a).length ≤ T.length := thoseL_le _ _
theorem clsL_first {T : List (List Int)} (G : IsGr T) {a : Nat} (ha : a < T.length) (hL : Lst T a) : 0 < (clsL T a).length ∧ rn (clsL T a) 0 = (a : Int) := by
  have h1 : (a : Int) ∈ clsL T a := (mem_clsL G ha).2 ⟨a, cjQ_refl G ha, rfl⟩
  have hp : 0 < (clsL T a).length := List.length_pos_of_mem h1
  refine ⟨hp, ?_⟩
  have hm : rn (clsL T a) 0 ∈ clsL T a := mem_rn.2 ⟨0, hp, rfl⟩
  obtain ⟨b, hb, e⟩ := (mem_clsL G ha).1 hm
  have h2 : ¬ b < a := fun z => hL b z (cjQ_symm G ha hb)
  have hs := thoseL_pw (fun b => bl (cjQ T a b)) T.length
  obtain ⟨j, hj, ej⟩ := mem_rn.1 h1
  rcases Nat.eq_zero_or_pos j with z | z
  · rw [z] at ej; exact ej
  · have := List.pairwise_iff_getElem.1 hs 0 j hp hj z
    have e0 : rn (clsL T a) 0 = (clsL T a)[0] := by simp -implicitDefEqProofs (maxSteps := 3000000) [rn, hp]
    have ejj : rn (clsL T a) j = (clsL T a)[j] := by simp -implicitDefEqProofs (maxSteps := 3000000) [rn, hj]
    have h3 : (clsL T a)[0] < (clsL T a)[j] := this
    omega
/-! ### regular elements -/
theorem fv_0l {N : Nat} {V : List Int} {y : Nat} : fv N V 0 y = 0 := by
  unfold fv atv
  rw [if_neg]
  intro h
  exact h 0 (by simp -implicitDefEqProofs (maxSteps := 3000000)) (by simp -implicitDefEqProofs (maxSteps := 3000000) [rn])
theorem fv_0r {N : Nat} {V : List Int} {x : Nat} : fv N V x 0 = 0 := by
  unfold fv atv
  rw [if_neg]
  intro h
  exact h 1 (by simp -implicitDefEqProofs (maxSteps := 3000000)) (by simp -implicitDefEqProofs (maxSteps := 3000000) [rn])
theorem cy2 {T : List (List Int)} {M : Int} {V : List Int} (S : FOk T M V) (hcy : IsCy T M (trU T) V 2) {a b d : Nat} (ha : a < T.length) (hb : b < T.length) (hd : d < T.length) :
    M ∣ fv T.length V b d - fv T.length V (mu T a b) d + fv T.length V a (mu T b d) - fv T.length V a b := by
  have G := S.G
  rcases Nat.eq_zero_or_pos a with z | a0
  · subst z
    rw [mu_0l G hb, fv_0l, fv_0l]
    exact ⟨0, by omega⟩
  rcases Nat.eq_zero_or_pos b with z | b0
  · subst z
    rw [mu_0r G ha, mu_0l G hd, fv_0l, fv_0r]
    exact ⟨0, by omega⟩
  rcases Nat.eq_zero_or_pos d with z | d0
  · subst z
    rw [mu_0r G hb, fv_0r, fv_0r]
    exact ⟨0, by omega⟩
  have hb2 : ∀ j < [(a : Int), (b : Int), (d : Int)].length, 1 ≤ rn [(a : Int), (b : Int), (d : Int)] j ∧ rn [(a : Int), (b : Int), (d : Int)] j ≤ ((T.length - 1 : Nat) : Int) := by
    intro j hj
    have e : j = 0 ∨ j = 1 ∨ j = 2 := by simp -implicitDefEqProofs (maxSteps := 3000000) at hj; omega
    rcases e with rfl | rfl | rfl <;> simp -implicitDefEqProofs (maxSteps := 3000000) [rn] <;> omega
  have e := digs_num hb2
  have hlt := numN_lt [(a : Int), (b : Int), (d : Int)].length hb2
  have h := hcy _ hlt
  unfold bnd1 at h
  rw [show (2 + 1 : Nat) = [(a : Int), (b : Int), (d : Int)].length from rfl, e, sideV3] at h
  have ht : rn (trU T) (a : Int).toNat = 1 := by
    exact rn_trU (by simpa using ha)
  rw [ht, Int.one_mul, Int.toNat_natCast, Int.toNat_natCast, Int.toNat_natCast, (mu_cl G.1 ha hb).1, (mu_cl G.1 hb hd).1] at h
  exact Int.dvd_of_emod_eq_zero h
theorem cj_comm {T : List (List Int)} (G : IsGr T) {c x : Nat} (hc : c < T.length) (hx : x < T.length) : mu T (cj T c x) c = mu T c x := cj_times G hc hx
theorem frm_cj {T : List (List Int)} {M : Int} {V : List Int} (S : FOk T M V) (hcy : IsCy T M (trU T) V 2) {c x y : Nat} (hc : c < T.length) (hx : x < T.length) (hy : y < T.length) (h : mu T x y = mu T y x) :
    frm T.length M V (cj T c x) (cj T c y) = frm T.length M V x y := by
  have G := S.G
  have hx' := cj_lt G hc hx
  have hy' := cj_lt G hc hy
  have key : ∀ {x y : Nat}, x < T.length → y < T.length → M ∣ (fv T.length V x y - fv T.length V (cj T c x) (cj T c y)) - (fv T.length V c y - fv T.length V (cj T c y) c + fv T.length V c x - fv T.length V (cj T c x) c - (fv T.length V c (mu T x y) - fv T.length V (cj T c (mu T x y)) c)) := by
    intro x y hx hy
    have hx' := cj_lt G hc hx
    have hy' := cj_lt G hc hy
    obtain ⟨t1, e1⟩ := cy2 S hcy hc hx hy
    obtain ⟨t2, e2⟩ := cy2 S hcy hx' hc hy
    obtain ⟨t3, e3⟩ := cy2 S hcy hx' hy' hc
    rw [cj_times G hc hx] at e2
    rw [cj_times G hc hy, cj_mu G hc hx hy] at e3
    exact ⟨t1 - t2 + t3, by grind⟩
  obtain ⟨s1, e1⟩ := key hx hy
  obtain ⟨s2, e2⟩ := key hy hx
  rw [← h] at e2
  unfold frm
  have e : (fv T.length V (cj T c x) (cj T c y) - fv T.length V (cj T c y) (cj T c x)) = (fv T.length V x y - fv T.length V y x) + M * (s2 - s1) := by grind
  rw [e, Int.add_mul_emod_self_left]
