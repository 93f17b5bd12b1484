/- Contracts of functions of the program and of the reference: what the evaluator gives for a call of each. -/
import Derived.Test.YtgklblkigjbggaaGreatAEf
import Derived.Test.YtgklblkigjbggaaGreatK0
import Derived.Test.YtgklblkigjbggaaGreatK3
import Derived.Test.YtgklblkigjbggaaGreatK33
import Derived.Test.YtgklblkigjbggaaGreatK34
import Derived.Test.YtgklblkigjbggaaGreatK35
import Derived.Test.YtgklblkigjbggaaGreatK36
import Derived.Test.YtgklblkigjbggaaGreatK38
import Derived.Test.YtgklblkigjbggaaGreatK42
import Derived.Test.YtgklblkigjbggaaGreatK47
import Derived.Test.YtgklblkigjbggaaGreatK26
import Derived.Test.YtgklblkigjbggaaGreatK28
import Derived.Test.YtgklblkigjbggaaGreatK29
import Derived.Test.YtgklblkigjbggaaGreatK31
import Derived.Test.YtgklblkigjbggaaGreatK37
import Derived.Test.YtgklblkigjbggaaGreatK4
import Derived.Test.YtgklblkigjbggaaGreatK5
import Derived.Test.YtgklblkigjbggaaGreatK6
import Derived.Test.YtgklblkigjbggaaGreatK15
import Derived.Test.YtgklblkigjbggaaGreatK44
import Derived.Test.YtgklblkigjbggaaGreatK17
import Derived.Test.YtgklblkigjbggaaGreatK32
import Derived.Test.YtgklblkigjbggaaGreatK8
import Derived.Test.YtgklblkigjbggaaGreatK16
import Derived.Test.YtgklblkigjbggaaGreatK39
import Derived.Test.YtgklblkigjbggaaGreatK40
import Derived.Test.YtgklblkigjbggaaGreatK45
import Derived.Test.YtgklblkigjbggaaGreatK46
namespace Go.Proofs.YtgklblkigjbggaaGreatE
open Go Go.Proofs
set_option maxHeartbeats 4000000
set_option maxRecDepth 4000
set_option linter.unusedSimpArgs false
set_option linter.unusedVariables false
set_option pp.deepTerms false
set_option pp.deepTerms.threshold 10
/-! ## TransferElement -/
noncomputable def fr (T : List (List Int)) (h : List Int) (w : Nat) : Nat := (rn (firsts T h) (rn (nums T h) w).toNat).toNat
noncomputable def stp (T : List (List Int)) (h : List Int) (x t : Nat) : Nat := mu T (inv T (fr T h (mu T x t))) (mu T x t)
noncomputable def trN (T : List (List Int)) (h : List Int) (x : Nat) : Nat → Nat
  | 0 => 0
  | i + 1 => mu T (trN T h x i) (stp T h x (rn (firsts T h) i).toNat)
theorem fr_lt {T : List (List Int)} {h : List Int} (H : HGood T h) {w : Nat} (hw : w < T.length) : (rn (nums T h) w).toNat < (firsts T h).length ∧ fr T h w < T.length ∧ rn (nums T h) w = ((rn (nums T h) w).toNat : Int) ∧ rn (firsts T h) (rn (nums T h) w).toNat = (fr T h w : Int) := by
  have h1 := nums_bd H w hw
  have h2 := (firsts_bd T h).2 (rn (nums T h) w).toNat (by omega)
  refine ⟨by omega, ?_, by omega, ?_⟩
  · simp only [fr]; omega
  · simp only [fr]; omega
theorem stp_lt {T : List (List Int)} {h : List Int} (H : HGood T h) {x t : Nat} (hx : x < T.length) (ht : t < T.length) : stp T h x t < T.length :=
  mu_lt H.1 (inv_spec H.1 (fr_lt H (mu_lt H.1 hx ht)).2.1).1 (mu_lt H.1 hx ht)
theorem fst_nat {T : List (List Int)} {h : List Int} {i : Nat} (hi : i < (firsts T h).length) : rn (firsts T h) i = ((rn (firsts T h) i).toNat : Int) ∧ (rn (firsts T h) i).toNat < T.length := by
  have := (firsts_bd T h).2 i hi
  omega
theorem trN_lt {T : List (List Int)} {h : List Int} (H : HGood T h) {x : Nat} (hx : x < T.length) : ∀ i ≤ (firsts T h).length, trN T h x i < T.length
  | 0, _ => zero_lt_len H.1
  | i + 1, hi => mu_lt H.1 (trN_lt H hx i (by omega)) (stp_lt H hx (fst_nat (by omega)).2)
theorem ct_l07Step (n : Nat) (hn : B + 3 ≤ n) (T : List (List Int)) (h : List Int) (H : HGood T h) (x t : Nat) (hx : x < T.length) (ht : t < T.length) :
    evalCall Tryz.prog An n 96 [.agg [.d (intss T)], .d (ints (nums T h)), .d (ints (firsts T h)), .d (.int .i64 x), .d (.int .i64 t)] [] = some ⟨.tuple [.d (.int .i64 (fr T h (mu T x t))), .d (.int .i64 (stp T h x t))], [], []⟩ := by
  obtain ⟨m, rfl⟩ : ∃ m, n = m + 1 := ⟨n - 1, by omega⟩
  have hB := B_eq
  simp only [evalCall_at, fb96, bnd_some, bodyOf, Tryz.f96, Option.getD_some]
  have G := H.1
  have m1 := mu_cl G.1 hx ht
  obtain ⟨f1, f2, f3, f4⟩ := fr_lt H m1.2
  have hi0 := (inv_spec G f2).1
  have c1 := ct_l01Inverse m (by omega) T G (fr T h (mu T x t)) f2
  have rx := (G.1.2 x hx).1
  have m2 := mu_cl G.1 hi0 m1.2
  have ri := (G.1.2 _ hi0).1
  have nl := nums_len T h
  have e : (stp T h x t : Int) = cl T (inv T (fr T h (mu T x t))) (mu T x t) := by rw [m2.1]; rfl
  rw [e]
  have h1 := m1.1
  have h2 := m1.2
  simp only [cl] at h1 ⊢
  generalize (rn (nums T h) (mu T x t)).toNat = q at *
  simp -implicitDefEqProofs (maxSteps := 3000000) [hx, ht, rx, h1, h2, nl, f1, f3, f4, c1, hi0, ri]
def TGood (T : List (List Int)) (l : List Int) (c : Int) : Prop := (HGood T l ∧ 0 ≤ c ∧ c < T.length) ∧ (cenL (sbG T l)).length = l.length
open Classical in
noncomputable def tcode (T : List (List Int)) (l : List Int) (c : Int) : Int := if HGood T l ∧ 0 ≤ c ∧ c < T.length then 5 else cjcode T l c
end Go.Proofs.YtgklblkigjbggaaGreatE

namespace Go.Proofs.YtgklblkigjbggaaGreatE
open Go Go.Proofs
set_option maxHeartbeats 4000000
set_option maxRecDepth 4000
set_option linter.unusedSimpArgs false
set_option linter.unusedVariables false
set_option pp.deepTerms false
set_option pp.deepTerms.threshold 10
/-! ## conjugate subgroups, cosets: laws -/
theorem mu_0il {T : List (List Int)} (G : IsGr T) {a b : Nat} (ha : a < T.length) (hb : b < T.length) : mu T (inv T a) (mu T a b) = b := by
  obtain ⟨i1, i2, i3⟩ := inv_spec G ha
  rw [← mu_as G i1 ha hb, i3, mu_0l G hb]
theorem mu_0il' {T : List (List Int)} (G : IsGr T) {a b : Nat} (ha : a < T.length) (hb : b < T.length) : mu T (inv T a) (mu T a b) = b := mu_0il G ha hb
theorem inv_inv {T : List (List Int)} (G : IsGr T) {a : Nat} (ha : a < T.length) : inv T (inv T a) = a := by
  obtain ⟨i1, i2, i3⟩ := inv_spec G ha
  exact (inv_uniq G i1 ha i3).symm
theorem cj_mu {T : List (List Int)} (G : IsGr T) {c a b : Nat} (hc : c < T.length) (ha : a < T.length) (hb : b < T.length) : mu T (cj T c a) (cj T c b) = cj T c (mu T a b) := by
  obtain ⟨i1, i2, i3⟩ := inv_spec G hc
  have ca := mu_lt G hc ha
  have cb := mu_lt G hc hb
  have ab := mu_lt G ha hb
  unfold cj
  rw [← mu_as G (mu_lt G ca i1) cb i1]
  congr 1
  rw [mu_as G ca i1 cb, mu_0il' G hc hb, mu_as G hc ha hb]
theorem cj_back {T : List (List Int)} (G : IsGr T) {c a : Nat} (hc : c < T.length) (ha : a < T.length) : cj T (inv T c) (cj T c a) = a := by
  obtain ⟨i1, i2, i3⟩ := inv_spec G hc
  have ca := mu_lt G hc ha
  unfold cj
  rw [inv_inv G hc, ← mu_as G i1 ca i1, mu_0il G hc ha, mu_as G ha i1 hc, i3, mu_0r G ha]
theorem cj_0 {T : List (List Int)} (G : IsGr T) {c : Nat} (hc : c < T.length) : cj T c 0 = 0 := by
  unfold cj
  rw [mu_0r G hc]
  exact (inv_spec G hc).2.1
theorem mem_conjL {T : List (List Int)} (G : IsGr T) {h : List Int} (hS : SetOk T h) {c : Nat} (hc : c < T.length) (z : Int) : z ∈ conjL T h c ↔ ∃ a : Nat, (a : Int) ∈ h ∧ a < T.length ∧ z = (cj T c a : Int) := by
  have hN := G.1.1
  have hr := cjL_rg G hS.1 hc
  have hr8 : ∀ i < (cjL T h c h.length).length, 0 ≤ rn (cjL T h c h.length) i ∧ rn (cjL T h c h.length) i < 8 := fun i hi => by have := hr i hi; omega
  rw [conjL, mem_bitL]
  constructor
  · rintro ⟨a, _, h1, rfl⟩
    rw [bits_tb hr8, mem_rn] at h1
    obtain ⟨i, hi, e⟩ := h1
    have hi' : i < h.length := by simpa [cjL] using hi
    have e2 : rn (cjL T h c h.length) i = (cj T c (rn h i).toNat : Int) := rn_tabI _ hi'
    have h3 := hS.1 i hi'
    refine ⟨(rn h i).toNat, mem_rn.2 ⟨i, hi', by omega⟩, by omega, by omega⟩
  · rintro ⟨a, h1, h2, rfl⟩
    have h4 := cj_lt G hc h2
    refine ⟨cj T c a, by omega, ?_, rfl⟩
    rw [bits_tb hr8, mem_rn]
    obtain ⟨i, hi, e⟩ := mem_rn.1 h1
    refine ⟨i, by simpa [cjL] using hi, ?_⟩
    have e2 : rn (cjL T h c h.length) i = (cj T c (rn h i).toNat : Int) := rn_tabI _ hi
    rw [e2, e, Int.toNat_natCast]
theorem pw_asc {l : List Int} (h : l.Pairwise (· < ·)) : AscL l := fun i hi => by
  rw [List.pairwise_iff_getElem] at h
  have := h i (i + 1) (by omega) hi (by omega)
  rwa [rn_get (by omega), rn_get hi]
theorem nodup_sub : ∀ (X Y : List Int), X.Nodup → (∀ x ∈ X, x ∈ Y) → X.length ≤ Y.length
  | [], _, _, _ => by simp -implicitDefEqProofs (maxSteps := 3000000)
  | a :: X, Y, hd, h => by
    rw [List.nodup_cons] at hd
    have h1 := h a (by simp -implicitDefEqProofs (maxSteps := 3000000))
    have h2 := List.length_erase_of_mem h1
    have h3 := nodup_sub X (Y.erase a) hd.2 fun x hx => by
      have : x ≠ a := fun e => hd.1 (e ▸ hx)
      exact (List.mem_erase_of_ne this).2 (h x (by simp -implicitDefEqProofs (maxSteps := 3000000) [hx]))
    have h4 := List.length_pos_of_mem h1
    simp only [List.length_cons]
    omega
theorem conjL_good {T : List (List Int)} {h : List Int} (H : HGood T h) {c : Nat} (hc : c < T.length) : HGood T (conjL T h c) := by
  have G := H.1
  refine ⟨G, ⟨fun i hi => ?_, pw_asc (thoseL_pw _ _)⟩, ?_, ?_⟩
  · obtain ⟨a, _, h2, e⟩ := (mem_conjL G H.2.1 hc _).1 (mem_rn.2 ⟨i, hi, rfl⟩)
    have := cj_lt G hc h2
    omega
  · exact (mem_conjL G H.2.1 hc _).2 ⟨0, H.2.2.1, zero_lt_len G, by rw [cj_0 G hc]; rfl⟩
  · intro x y hx hy
    obtain ⟨a, a1, a2, e1⟩ := (mem_conjL G H.2.1 hc _).1 hx
    obtain ⟨b, b1, b2, e2⟩ := (mem_conjL G H.2.1 hc _).1 hy
    have e1' : x = cj T c a := by omega
    have e2' : y = cj T c b := by omega
    subst e1' e2'
    have m1 := mu_cl G.1 (cj_lt G hc a2) (cj_lt G hc b2)
    have m2 := mu_cl G.1 a2 b2
    refine (mem_conjL G H.2.1 hc _).2 ⟨mu T a b, ?_, m2.2, ?_⟩
    · rw [← m2.1]; exact H.2.2.2 a b a1 b1
    · rw [m1.1, cj_mu G hc a2 b2]
theorem conjL_len {T : List (List Int)} {h : List Int} (H : HGood T h) {c : Nat} (hc : c < T.length) : (conjL T h c).length = h.length := by
  have G := H.1
  have h1 := nodup_sub (conjL T h c) (cjL T h c h.length) (setOk_nodup (conjL_good H hc).2.1) fun x hx => by
    obtain ⟨a, a1, a2, rfl⟩ := (mem_conjL G H.2.1 hc _).1 hx
    obtain ⟨i, hi, e⟩ := mem_rn.1 a1
    refine mem_rn.2 ⟨i, by simpa [cjL] using hi, ?_⟩
    have e2 : rn (cjL T h c h.length) i = (cj T c (rn h i).toNat : Int) := rn_tabI _ hi
    rw [e2, e, Int.toNat_natCast]
  have h2 := nodup_sub (cjL T h c h.length) (conjL T h c) (cjL_nodup G H.2.1 hc) fun x hx => by
    obtain ⟨i, hi, e⟩ := mem_rn.1 hx
    have hi' : i < h.length := by simpa [cjL] using hi
    have e2 : rn (cjL T h c h.length) i = (cj T c (rn h i).toNat : Int) := rn_tabI _ hi'
    have h3 := H.2.1.1 i hi'
    exact (mem_conjL G H.2.1 hc _).2 ⟨(rn h i).toNat, mem_rn.2 ⟨i, hi', by omega⟩, by omega, by omega⟩
  have h3 : (cjL T h c h.length).length = h.length := by simp -implicitDefEqProofs (maxSteps := 3000000) [cjL]
  omega
/-- Every element is the first of its coset, times an element of the subgroup. -/
theorem csN_hit {T : List (List Int)} {h : List Int} (H : HGood T h) : ∀ a ≤ T.length, ∀ b < T.length, 0 ≤ rn (csN T h a).1 b → ∃ i < h.length, mu T (rn (csN T h a).2 (rn (csN T h a).1 b).toNat).toNat (rn h i).toNat = b
  | 0, _, b, hb, hz => by simp -implicitDefEqProofs (maxSteps := 3000000) [csN, rn, List.getD, hb] at hz
  | a + 1, ha, b, hb, hz => by
    have ih := csN_hit H a (by omega) b hb
    have bd := csN_bd H a (by omega) b hb
    simp only [csN] at hz ⊢
    split
    · rename_i h1
      rw [if_pos h1] at hz
      exact ih hz
    · rename_i h1
      rw [if_neg h1] at hz
      simp only at hz ⊢
      rcases csH_get (k := ((csN T h a).2.length : Int)) (csN_len T h a) (hg_mu H (show a < T.length by omega)) b hb h.length (Nat.le_refl _) with ⟨e, i, hi, e2⟩ | ⟨e, _⟩
      · refine ⟨i, hi, ?_⟩
        rw [e, Int.toNat_natCast]
        have e3 : rn ((csN T h a).2 ++ [(a : Int)]) (csN T h a).2.length = a := by simp -implicitDefEqProofs (maxSteps := 3000000) [rn, List.getD]
        rw [e3, Int.toNat_natCast, e2]
      · rw [e] at hz ⊢
        obtain ⟨i, hi, e2⟩ := ih hz
        refine ⟨i, hi, ?_⟩
        have e3 : rn ((csN T h a).2 ++ [(a : Int)]) (rn (csN T h a).1 b).toNat = rn (csN T h a).2 (rn (csN T h a).1 b).toNat := by
          have hk : (rn (csN T h a).1 b).toNat < (csN T h a).2.length := by omega
          generalize (rn (csN T h a).1 b).toNat = q at hk
          simp only [rn, List.getD]
          rw [List.getElem?_append_left hk]
        rw [e3, e2]
end Go.Proofs.YtgklblkigjbggaaGreatE

namespace Go.Proofs.YtgklblkigjbggaaGreatE
open Go Go.Proofs
set_option maxHeartbeats 4000000
set_option maxRecDepth 4000
set_option linter.unusedSimpArgs false
set_option linter.unusedVariables false
set_option pp.deepTerms false
set_option pp.deepTerms.threshold 10
/-! ## TransferCochain -/
theorem stp_mem {T : List (List Int)} {h : List Int} (H : HGood T h) {x t : Nat} (hx : x < T.length) (ht : t < T.length) : (stp T h x t : Int) ∈ h := by
  have G := H.1
  have my := mu_lt G hx ht
  obtain ⟨f1, f2, f3, f4⟩ := fr_lt H my
  have nb := nums_bd H (mu T x t) my
  obtain ⟨i, hi, e⟩ := csN_hit H T.length (Nat.le_refl _) (mu T x t) my nb.1
  have r := H.2.1.1 i hi
  have e2 : mu T (fr T h (mu T x t)) (rn h i).toNat = mu T x t := e
  have hi2 : (rn h i).toNat < T.length := by omega
  have e3 : stp T h x t = (rn h i).toNat := by
    have : mu T (inv T (fr T h (mu T x t))) (mu T (fr T h (mu T x t)) (rn h i).toNat) = (rn h i).toNat := mu_0il G f2 hi2
    rw [e2] at this
    exact this
  rw [e3]
  exact mem_rn.2 ⟨i, hi, by omega⟩
noncomputable def trT (T : List (List Int)) (U V h : List Int) (x p t : Nat) : Int := if p = 0 then rn U t * rn V 0 else rn U (fr T h (mu T x t)) * atv h.length V [(pl h (stp T h x t) : Int)]
noncomputable def trS (T : List (List Int)) (U V h : List Int) (x p : Nat) : Nat → Int
  | 0 => 0
  | i + 1 => trS T U V h x p i + trT T U V h x p (rn (firsts T h) i).toNat
structure TrOk (T : List (List Int)) (M : Int) (U V h : List Int) (p : Nat) : Prop where
  G : GM T M U
  H : HGood T h
  hp : p ≤ 1
  C : IsCo (sbG T h) M p V
theorem TrOk.hV {T : List (List Int)} {M : Int} {U V h : List Int} {p : Nat} (S : TrOk T M U V h p) : (V.length : Int) = ((h.length : Int) - 1) ^ p := by
  have := S.C.2.1
  rw [sbG_len] at this
  simpa [cellsOf_] using this
theorem TrOk.t_bd {T : List (List Int)} {M : Int} {U V h : List Int} {p : Nat} (S : TrOk T M U V h p) (x t : Nat) : 0 ≤ trT T U V h x p t ∧ trT T U V h x p t ≤ 121 := by
  have I := S.G.2
  have hM := I.1.1
  have bU : ∀ i < U.length, 0 ≤ rn U i ∧ rn U i ≤ 11 := fun i hi => by have := (I.2.1 i hi).1; omega
  have bV : ∀ i < V.length, 0 ≤ rn V i ∧ rn V i ≤ 11 := fun i hi => by have := S.C.2.2 i hi; omega
  unfold trT
  split
  · have a := rn_mem_bd (by omega) bU t
    have b := rn_mem_bd (by omega) bV 0
    have := mul_bd a.1 a.2 b.1 b.2
    omega
  · have a := rn_mem_bd (by omega) bU (fr T h (mu T x t))
    have b := atv_bd (N := h.length) (l := [(pl h (stp T h x t) : Int)]) (by omega) bV
    have := mul_bd a.1 a.2 b.1 b.2
    omega
theorem TrOk.s_bd {T : List (List Int)} {M : Int} {U V h : List Int} {p : Nat} (S : TrOk T M U V h p) (x : Nat) : ∀ i : Nat, 0 ≤ trS T U V h x p i ∧ trS T U V h x p i ≤ 121 * i
  | 0 => by simp -implicitDefEqProofs (maxSteps := 3000000) [trS]
  | i + 1 => by
    have := S.s_bd x i
    have := S.t_bd x (rn (firsts T h) i).toNat
    simp only [trS]
    omega
noncomputable def trV (T : List (List Int)) (M : Int) (U V h : List Int) (p k : Nat) : Int := trS T U V h (k + 1) p (firsts T h).length % M
noncomputable def trW (T : List (List Int)) (M : Int) (U V h : List Int) (p : Nat) : List Int := tabI (trV T M U V h p) ((T.length - 1) ^ p)
theorem inG1 {N x : Nat} (hx : x < N) : InG N [(x : Int)] := fun i hi => by
  have : i = 0 := by simpa using hi
  subst this
  simp -implicitDefEqProofs (maxSteps := 3000000) [rn]
  omega
theorem lp_TrC_1 (m : Nat) (hm : B + 8 ≤ m) (T : List (List Int)) (M : Int) (U V h : List Int) (p : Nat) (S : TrOk T M U V h p) (wr : List Int) (i : Nat) (hi : p = 1 → i + 1 < T.length)
    {st : St} {o : Option (Ex × St)} (hx : loopC (cxAt 36 m) (lp Tryz.f36 1) st = o)
    (f : obsL st.obs 64 = some (1, .box [.d (intss T)]) ∧ obsL st.obs 80 = some (2, .box [.d (.int .i64 M), .d (ints U)]) ∧ obsL st.obs 112 = some (3, .box [.d (.int .i64 p), .d (ints V)]) ∧ obsL st.obs 128 = some (4, .box [.d (.int .i64 0), .d .nil]) ∧ obsL st.obs 176 = some (19, .box [.own 496 15]) ∧ obsL st.obs 240 = some (43, .box [.d (.int .i64 p), .own 864 42]) ∧ obsL st.obs 496 = some (15, .mat false (mcells (sbG T h))) ∧ obsL st.obs 768 = some (33, .row (icells (nums T h))) ∧ obsL st.obs 769 = some (33, .row (icells (firsts T h))) ∧ obsL st.obs 864 = some (42, .row (icells wr)) ∧ obsL st.obs 497 = none ∧ obsL st.obs 498 = none ∧ obsL st.obs 499 = none ∧ obsL st.obs 770 = none ∧ obsL st.obs 771 = none ∧ obsL st.obs 865 = none ∧ obsL st.obs 866 = none ∧ obsL st.obs 867 = none ∧ lookL st.env 2 = some (.d (ints h)) ∧ lookL st.env 4 = some (.ptr 64 1 0) ∧ lookL st.env 5 = some (.ptr 80 2 0) ∧ lookL st.env 7 = some (.ptr 112 3 0) ∧ lookL st.env 8 = some (.ptr 128 4 0) ∧ lookL st.env 11 = some (.ptr 176 19 0) ∧ lookL st.env 13 = some (.own 768 33) ∧ lookL st.env 14 = some (.own 769 33) ∧ lookL st.env 15 = some (.ptr 240 43 0) ∧ lookL st.env 16 = some (.d (.int .i64 i)) ∧ lookL st.env 17 = some (.d (.int .i64 (trS T U V h (i + 1) p (0)))) ∧ lookL st.env 18 = some (.d (.int .i64 (0)))) :
    ∃ s, o = some (.exit 2, s) ∧ obsL s.obs 64 = some (1, .box [.d (intss T)]) ∧ obsL s.obs 80 = some (2, .box [.d (.int .i64 M), .d (ints U)]) ∧ obsL s.obs 112 = some (3, .box [.d (.int .i64 p), .d (ints V)]) ∧ obsL s.obs 128 = some (4, .box [.d (.int .i64 0), .d .nil]) ∧ obsL s.obs 176 = some (19, .box [.own 496 15]) ∧ obsL s.obs 240 = some (43, .box [.d (.int .i64 p), .own 864 42]) ∧ obsL s.obs 496 = some (15, .mat false (mcells (sbG T h))) ∧ obsL s.obs 768 = some (33, .row (icells (nums T h))) ∧ obsL s.obs 769 = some (33, .row (icells (firsts T h))) ∧ obsL s.obs 864 = some (42, .row (icells wr)) ∧ obsL s.obs 497 = none ∧ obsL s.obs 498 = none ∧ obsL s.obs 499 = none ∧ obsL s.obs 770 = none ∧ obsL s.obs 771 = none ∧ obsL s.obs 865 = none ∧ obsL s.obs 866 = none ∧ obsL s.obs 867 = none ∧ lookL s.env 2 = some (.d (ints h)) ∧ lookL s.env 4 = some (.ptr 64 1 0) ∧ lookL s.env 5 = some (.ptr 80 2 0) ∧ lookL s.env 7 = some (.ptr 112 3 0) ∧ lookL s.env 8 = some (.ptr 128 4 0) ∧ lookL s.env 11 = some (.ptr 176 19 0) ∧ lookL s.env 13 = some (.own 768 33) ∧ lookL s.env 14 = some (.own 769 33) ∧ lookL s.env 15 = some (.ptr 240 43 0) ∧ lookL s.env 16 = some (.d (.int .i64 i)) ∧ lookL s.env 17 = some (.d (.int .i64 (trS T U V h (i + 1) p ((firsts T h).length)))) := by
  have hB := B_eq
  have fb := (firsts_bd T h).1
  have hT := S.H.1.1.1
  generalize hl : lp Tryz.f36 1 = L at hx
  simp only [lp, bodyOf, Tryz.f36, Option.getD_some, loopsIn, List.append_nil, List.nil_append, List.cons_append, List.getD, List.getElem?_cons_zero, List.getElem?_cons_succ] at hl
  subst hl
  obtain ⟨qq, rfl, hqq⟩ := loop_end hx ((firsts T h).length) (fun k s => ∃ g, s = ⟨[(2, .d (ints h)), (4, .ptr 64 1 0), (5, .ptr 80 2 0), (7, .ptr 112 3 0), (8, .ptr 128 4 0), (11, .ptr 176 19 0), (13, .own 768 33), (14, .own 769 33), (15, .ptr 240 43 0), (16, .d (.int .i64 i)), (17, .d (.int .i64 (trS T U V h (i + 1) p k))), (18, .d (.int .i64 k))], [(64, some (1, .box [.d (intss T)])), (80, some (2, .box [.d (.int .i64 M), .d (ints U)])), (112, some (3, .box [.d (.int .i64 p), .d (ints V)])), (128, some (4, .box [.d (.int .i64 0), .d .nil])), (176, some (19, .box [.own 496 15])), (240, some (43, .box [.d (.int .i64 p), .own 864 42])), (496, some (15, .mat false (mcells (sbG T h)))), (768, some (33, .row (icells (nums T h)))), (769, some (33, .row (icells (firsts T h)))), (864, some (42, .row (icells wr)))], g⟩)
    (fun qq => ∃ s, qq = (.exit 2, s) ∧ obsL s.obs 64 = some (1, .box [.d (intss T)]) ∧ obsL s.obs 80 = some (2, .box [.d (.int .i64 M), .d (ints U)]) ∧ obsL s.obs 112 = some (3, .box [.d (.int .i64 p), .d (ints V)]) ∧ obsL s.obs 128 = some (4, .box [.d (.int .i64 0), .d .nil]) ∧ obsL s.obs 176 = some (19, .box [.own 496 15]) ∧ obsL s.obs 240 = some (43, .box [.d (.int .i64 p), .own 864 42]) ∧ obsL s.obs 496 = some (15, .mat false (mcells (sbG T h))) ∧ obsL s.obs 768 = some (33, .row (icells (nums T h))) ∧ obsL s.obs 769 = some (33, .row (icells (firsts T h))) ∧ obsL s.obs 864 = some (42, .row (icells wr)) ∧ obsL s.obs 497 = none ∧ obsL s.obs 498 = none ∧ obsL s.obs 499 = none ∧ obsL s.obs 770 = none ∧ obsL s.obs 771 = none ∧ obsL s.obs 865 = none ∧ obsL s.obs 866 = none ∧ obsL s.obs 867 = none ∧ lookL s.env 2 = some (.d (ints h)) ∧ lookL s.env 4 = some (.ptr 64 1 0) ∧ lookL s.env 5 = some (.ptr 80 2 0) ∧ lookL s.env 7 = some (.ptr 112 3 0) ∧ lookL s.env 8 = some (.ptr 128 4 0) ∧ lookL s.env 11 = some (.ptr 176 19 0) ∧ lookL s.env 13 = some (.own 768 33) ∧ lookL s.env 14 = some (.own 769 33) ∧ lookL s.env 15 = some (.ptr 240 43 0) ∧ lookL s.env 16 = some (.d (.int .i64 i)) ∧ lookL s.env 17 = some (.d (.int .i64 (trS T U V h (i + 1) p ((firsts T h).length)))))
    (by show (firsts T h).length < m; omega) (by
      simp -implicitDefEqProofs (maxSteps := 3000000) [f, trS])
    (by
      rintro k s hk ⟨g, rfl⟩
      have w2 := wrap_id (n := (k : Int) + 1) (by omega)
      have H := S.H
      have G := H.1
      have hlen := setOk_len H.2.1
      obtain ⟨f1, f2⟩ := fst_nat hk
      have es : trS T U V h (i + 1) p (k + 1) = trS T U V h (i + 1) p k + trT T U V h (i + 1) p (rn (firsts T h) k).toNat := rfl
      have b1 := S.s_bd (i + 1) k
      have b2 := S.t_bd (i + 1) (rn (firsts T h) k).toNat
      have hUl := S.G.2.1.2
      have hp := S.hp
      have hV := S.hV
      rw [es]
      generalize trS T U V h (i + 1) p k = sm at *
      generalize (rn (firsts T h) k).toNat = t at *
      have w3 := wrap_id (n := sm + trT T U V h (i + 1) p t) (by omega)
      have w4 := wrap_id (n := trT T U V h (i + 1) p t) (by omega)
      have htU : t < U.length := by omega
      by_cases hp0 : p = 0
      · subst hp0
        have et : trT T U V h (i + 1) 0 t = rn U t * rn V 0 := if_pos rfl
        rw [et] at w3 w4 ⊢
        have hV0 : 0 < V.length := by simp -implicitDefEqProofs (maxSteps := 3000000) at hV; omega
        simp -implicitDefEqProofs (maxSteps := 3000000) [hk, f1, htU, hV0, w2, w3, w4]
      · obtain rfl : p = 1 := by omega
        have et : trT T U V h (i + 1) 1 t = rn U (fr T h (mu T (i + 1) t)) * atv h.length V [(pl h (stp T h (i + 1) t) : Int)] := if_neg hp0
        rw [et] at w3 w4 ⊢
        have hx := hi rfl
        have c7 := ct_l07Step m (by omega) T h H (i + 1) t hx f2
        have hm := stp_mem H hx f2
        have hpl := pl_spec hm
        have c8 := ct_l07Place m (by omega) h (by omega) (setOk_nodup H.2.1) _ hm
        have hfr := (fr_lt H (mu_lt G hx f2)).2.1
        have c9 := ct_l03At m (by omega) (sbG T h) (by rw [sbG_len]; omega) 1 V [(pl h (stp T h (i + 1) t) : Int)] (by simp -implicitDefEqProofs (maxSteps := 3000000)) (by rw [sbG_len]; simpa using hV) (by rw [sbG_len]; exact inG1 hpl.1)
        rw [sbG_len, show ints [(pl h (stp T h (i + 1) t) : Int)] = .sl 1 [.int .i64 (pl h (stp T h (i + 1) t) : Int)] from rfl] at c9
        have w5 := wrap_id (n := (i : Int) + 1) (by omega)
        have ec : ((i + 1 : Nat) : Int) = (i : Int) + 1 := by omega
        rw [ec] at c7
        generalize stp T h (i + 1) t = b at *
        generalize pl h b = q at *
        generalize fr T h (mu T (i + 1) t) = u at *
        generalize atv h.length V [(q : Int)] = A at *
        have huU : u < U.length := by omega
        simp -implicitDefEqProofs (maxSteps := 3000000) [hk, f1, huU, c7, c8, c9, w2, w3, w4, w5])
    (by
      rintro s ⟨g, rfl⟩
      simp -implicitDefEqProofs (maxSteps := 3000000))
  obtain ⟨s, rfl, hf⟩ := hqq
  exact ⟨s, rfl, hf⟩
end Go.Proofs.YtgklblkigjbggaaGreatE

namespace Go.Proofs.YtgklblkigjbggaaGreatE
open Go Go.Proofs
set_option maxHeartbeats 4000000
set_option maxRecDepth 4000
set_option linter.unusedSimpArgs false
set_option linter.unusedVariables false
set_option pp.deepTerms false
set_option pp.deepTerms.threshold 10
/-! ## TransferCochain: the reference and the program -/
theorem ct_l03Zero (n : Nat) (hn : B + 3 ≤ n) (T : List (List Int)) (hT : 1 ≤ T.length ∧ T.length ≤ 8) (d : Nat) (hD : d ≤ 3) :
    evalCall Tryz.prog An n 95 [.agg [.d (intss T)], .d (.int .i64 d)] [] = some ⟨.agg [.d (.int .i64 d), .own 0 0], [.row (icells (List.replicate ((T.length - 1) ^ d) 0))], []⟩ := by
  obtain ⟨m, rfl⟩ : ∃ m, n = m + 1 := ⟨n - 1, by omega⟩
  have hB := B_eq
  simp only [evalCall_at, fb95, bnd_some, bodyOf, Tryz.f95, Option.getD_some]
  have c1 := ct_l03Cells m (by omega) T hT d (by omega)
  have ec : cellsOf_ T.length d = (((T.length - 1) ^ d : Nat) : Int) := by rw [cellsOf_, Int.toNat_natCast, pow_cast hT.1]
  rw [ec] at c1
  have b := pow_bd hT (show d ≤ 4 by omega)
  generalize (T.length - 1) ^ d = K at *
  have k1 : (K : Int) ≤ 1099511627776 := by omega
  simp -implicitDefEqProofs (maxSteps := 3000000) [c1, k1]
theorem digs1 {b i : Nat} (hi : i < b) : digs b 1 i = [((i + 1 : Nat) : Int)] := by
  simp -implicitDefEqProofs (maxSteps := 3000000) [digs, tabI, dig, Nat.mod_eq_of_lt hi]
  omega
theorem digs0 (b i : Nat) : digs b 0 i = [] := rfl
theorem trS_0 (T : List (List Int)) (U V h : List Int) (x y : Nat) : ∀ i, trS T U V h x 0 i = trS T U V h y 0 i
  | 0 => rfl
  | i + 1 => by simp only [trS, trS_0 T U V h x y i, trT, if_pos]
noncomputable def trF (T : List (List Int)) (U V h : List Int) (l : List Int) : Int := trS T U V h (rn l 0).toNat l.length (firsts T h).length
theorem trF_digs {T : List (List Int)} {M : Int} {U V h : List Int} {p : Nat} (S : TrOk T M U V h p) {i : Nat} (hi : i < (T.length - 1) ^ p) : trF T U V h (digs (T.length - 1) p i) = trS T U V h (i + 1) p (firsts T h).length := by
  have hp := S.hp
  rcases Nat.eq_zero_or_pos p with rfl | z
  · rw [digs0, trF]; exact trS_0 T U V h _ _ _
  · obtain rfl : p = 1 := by omega
    rw [digs1 (by simpa using hi), trF]
    rfl
theorem ct_TrC1 (n : Nat) (hn : B + 6 ≤ n) (T : List (List Int)) (M : Int) (U V h : List Int) (p : Nat) (S : TrOk T M U V h p) (iii : Nat) (hiii : iii < (T.length - 1) ^ p) :
    evalCall Tryz.prog An n 98 [.d (ints (digs (T.length - 1) p iii)), .d (.cellp [ints (firsts T h)]), .d (.cellp [.int .i64 M, ints U]), .d (.cellp [.int .i64 p, ints V]), .d (.cellp [intss T]), .d (.cellp [ints (nums T h)]), .d (.cellp [ints h]), .d (.cellp [intss (sbG T h)])] [] = some ⟨.d (.int .i64 (trS T U V h (iii + 1) p (firsts T h).length)), [], []⟩ := by
  obtain ⟨m, rfl⟩ : ∃ m, n = m + 1 := ⟨n - 1, by omega⟩
  have hB := B_eq
  simp only [evalCall_at, fb98, bnd_some, bodyOf, Tryz.f98, Option.getD_some]
  generalize hb0 : Code.loop _ = cc0
  obtain rfl : cc0 = .loop (lp Tryz.f98 0) := by rw [← hb0]; rfl
  clear hb0
  have H := S.H
  have G := H.1
  have hT := G.1.1
  have fb := (firsts_bd T h).1
  have hlen := setOk_len H.2.1
  have hUl := S.G.2.1.2
  have hp := S.hp
  have hV := S.hV
  have hl : (digs (T.length - 1) p iii).length = p := digs_len _ _ _
  have h1 : p = 1 → iii + 1 < T.length ∧ digs (T.length - 1) p iii = [((iii + 1 : Nat) : Int)] := fun e => by
    subst e
    have : iii < T.length - 1 := by simpa using hiii
    exact ⟨by omega, digs1 this⟩
  generalize digs (T.length - 1) p iii = l at *
  simp -implicitDefEqProofs (maxSteps := 3000000)
  generalize hx : loopC _ _ _ = x
  generalize hl : lp Tryz.f98 0 = L at hx
  simp only [lp, bodyOf, Tryz.f98, Option.getD_some, loopsIn, List.append_nil, List.nil_append, List.cons_append, List.getD, List.getElem?_cons_zero, List.getElem?_cons_succ] at hl
  subst hl
  obtain ⟨qq, rfl, hqq⟩ := loop_end hx ((firsts T h).length) (fun i s => ∃ g, s = ⟨[(0, .d (ints l)), (1, .d (.cellp [ints (firsts T h)])), (2, .d (.cellp [.int .i64 M, ints U])), (3, .d (.cellp [.int .i64 p, ints V])), (4, .d (.cellp [intss T])), (5, .d (.cellp [ints (nums T h)])), (6, .d (.cellp [ints h])), (7, .d (.cellp [intss (sbG T h)])), (10, .d (.int .i64 (trS T U V h (iii + 1) p i))), (16, .d (ints (firsts T h))), (17, .d (.int .i64 (firsts T h).length)), (18, .d (.int .i64 i))], [], g⟩)
    (fun qq => ∃ s, qq = (.exit 0, s) ∧ lookL s.env 0 = some (.d (ints l)) ∧ lookL s.env 1 = some (.d (.cellp [ints (firsts T h)])) ∧ lookL s.env 2 = some (.d (.cellp [.int .i64 M, ints U])) ∧ lookL s.env 3 = some (.d (.cellp [.int .i64 p, ints V])) ∧ lookL s.env 4 = some (.d (.cellp [intss T])) ∧ lookL s.env 5 = some (.d (.cellp [ints (nums T h)])) ∧ lookL s.env 6 = some (.d (.cellp [ints h])) ∧ lookL s.env 7 = some (.d (.cellp [intss (sbG T h)])) ∧ lookL s.env 10 = some (.d (.int .i64 (trS T U V h (iii + 1) p ((firsts T h).length)))) ∧ lookL s.env 16 = some (.d (ints (firsts T h))) ∧ lookL s.env 17 = some (.d (.int .i64 (firsts T h).length)) ∧ lookL s.env 18 = some (.d (.int .i64 ((firsts T h).length))))
    (by show (firsts T h).length < m; omega) (by
      simp -implicitDefEqProofs (maxSteps := 3000000) [trS])
    (by
      rintro i s hi ⟨g, rfl⟩
      have w2 := wrap_id (n := (i : Int) + 1) (by omega)
      obtain ⟨f1, f2⟩ := fst_nat hi
      have es : trS T U V h (iii + 1) p (i + 1) = trS T U V h (iii + 1) p i + trT T U V h (iii + 1) p (rn (firsts T h) i).toNat := rfl
      have b1 := S.s_bd (iii + 1) i
      have b2 := S.t_bd (iii + 1) (rn (firsts T h) i).toNat
      rw [es]
      generalize trS T U V h (iii + 1) p i = sm at *
      generalize (rn (firsts T h) i).toNat = t at *
      have w3 := wrap_id (n := sm + trT T U V h (iii + 1) p t) (by omega)
      have w4 := wrap_id (n := trT T U V h (iii + 1) p t) (by omega)
      have htU : t < U.length := by omega
      by_cases hp0 : p = 0
      · subst hp0
        have et : trT T U V h (iii + 1) 0 t = rn U t * rn V 0 := if_pos rfl
        rw [et] at w3 w4 ⊢
        have hV0 : 0 < V.length := by simp -implicitDefEqProofs (maxSteps := 3000000) at hV; omega
        simp -implicitDefEqProofs (maxSteps := 3000000) [hi, f1, htU, hV0, w2, w3, w4, hl]
      · obtain rfl : p = 1 := by omega
        have et : trT T U V h (iii + 1) 1 t = rn U (fr T h (mu T (iii + 1) t)) * atv h.length V [(pl h (stp T h (iii + 1) t) : Int)] := if_neg hp0
        rw [et] at w3 w4 ⊢
        obtain ⟨hx, hl2⟩ := h1 rfl
        have hl3 : rn l 0 = ((iii + 1 : Nat) : Int) := by rw [hl2]; rfl
        have my := mu_cl G.1 hx f2
        have c7 := ct_times2i m (by omega) T G ((iii + 1 : Nat) : Int) (t : Int) (by omega) (by omega)
        rw [Int.toNat_natCast, Int.toNat_natCast, my.1] at c7
        obtain ⟨g1, g2, g3, g4⟩ := fr_lt H my.2
        have hm := stp_mem H hx f2
        have hpl := pl_spec hm
        have c8 := ct_IndexP m (by omega) h (by omega) (setOk_nodup H.2.1) _ hm
        have c9 := ct_at m (by omega) (sbG T h) (by rw [sbG_len]; omega) 1 V [(pl h (stp T h (iii + 1) t) : Int)] (by simp -implicitDefEqProofs (maxSteps := 3000000)) (by rw [sbG_len]; simpa using hV) (by rw [sbG_len]; exact inG1 hpl.1)
        rw [sbG_len, show ints [(pl h (stp T h (iii + 1) t) : Int)] = .sl 1 [.int .i64 (pl h (stp T h (iii + 1) t) : Int)] from rfl] at c9
        have hi0 := (inv_spec G g2).1
        have c10 := ct_inverse m (by omega) T G _ g2
        have mb := mu_cl G.1 hi0 my.2
        have c11 := ct_times2i m (by omega) T G (inv T (fr T h (mu T (iii + 1) t)) : Int) (mu T (iii + 1) t : Int) (by omega) (by omega)
        rw [Int.toNat_natCast, Int.toNat_natCast, mb.1] at c11
        have eb : mu T (inv T (fr T h (mu T (iii + 1) t))) (mu T (iii + 1) t) = stp T h (iii + 1) t := rfl
        rw [eb] at c11
        have ec : ((iii + 1 : Nat) : Int) = (iii : Int) + 1 := by omega
        rw [ec] at c7 hl3
        have nl := nums_len T h
        have my2 := my.2
        generalize stp T h (iii + 1) t = b at *
        generalize pl h b = q at *
        generalize inv T (fr T h (mu T (iii + 1) t)) = iv at *
        generalize fr T h (mu T (iii + 1) t) = u at *
        generalize (rn (nums T h) (mu T (iii + 1) t)).toNat = z at *
        generalize mu T (iii + 1) t = y at *
        generalize atv h.length V [(q : Int)] = A at *
        have huU : u < U.length := by omega
        have hl0 : 0 < l.length := by omega
        simp -implicitDefEqProofs (maxSteps := 3000000) [hi, f1, huU, hl, hl0, hl3, nl, my2, g1, g3, g4, c7, c8, c9, c10, c11, w2, w3, w4])
    (by
      rintro s ⟨g, rfl⟩
      simp -implicitDefEqProofs (maxSteps := 3000000))
  obtain ⟨s, rfl, hf⟩ := hqq
  simp -implicitDefEqProofs (maxSteps := 3000000) [hf]
end Go.Proofs.YtgklblkigjbggaaGreatE

namespace Go.Proofs.YtgklblkigjbggaaGreatE
open Go Go.Proofs
set_option maxHeartbeats 4000000
set_option maxRecDepth 4000
set_option linter.unusedSimpArgs false
set_option linter.unusedVariables false
set_option pp.deepTerms false
set_option pp.deepTerms.threshold 10
/-! ## TransferCochain: both -/
def TCGood (T : List (List Int)) (M : Int) (U l : List Int) (D : Int) (V : List Int) : Prop := (WGood T M U l ∧ IsCo (sbG T l) M D V) ∧ D ≤ 1
open Classical in
noncomputable def tccode (T : List (List Int)) (M : Int) (U l : List Int) (D : Int) (V : List Int) : Int := if WGood T M U l then (if IsCo (sbG T l) M D V then 2 else 1) else wcode T M U l
theorem trOk {T : List (List Int)} {M : Int} {U l : List Int} {p : Nat} {V : List Int} (h : TCGood T M U l p V) : TrOk T M U V l p := ⟨h.1.1.1, h.1.1.2, by have := h.2; omega, h.1.2⟩
theorem trW_bd {T : List (List Int)} {M : Int} {U V l : List Int} {D : Int} (h : TCGood T M U l D V) : (trW T M U V l D.toNat).length ≤ 343 := by
  have hT := h.1.1.1.1.1.1
  have hp : D.toNat ≤ 3 := by have := h.2; omega
  have := (cells_bd hT D.toNat hp).2
  rw [pow_cast hT.1] at this
  simp only [trW, tabI_len]
  omega
theorem ct_specTC (n : Nat) (hn : B + 7 + 8 ≤ n) (T : List (List Int)) (hT : T.length ≤ 2000000) (M : Int) (U : List Int) (hU : U.length ≤ 2000000) (l : List Int) (hl : l.length ≤ 10000000) (D : Int) (V : List Int) (hV : V.length ≤ 10000000) (h : TCGood T M U l D V) :
    evalCall Tryz.prog An n 36 [.agg [.d (intss T)], .agg [.d (.int .i64 M), .d (ints U)], .d (ints l), .agg [.d (.int .i64 D), .d (ints V)]] [] = some ⟨.tuple [.agg [.d (.int .i64 D), .own 0 0], .d (.int .i64 0)], [.row (icells (trW T M U V l D.toNat))], []⟩ := by
  obtain ⟨m, rfl⟩ : ∃ m, n = m + 1 := ⟨n - 1, by omega⟩
  have hB := B_eq
  simp only [evalCall_at, fb36, bnd_some, bodyOf, Tryz.f36, Option.getD_some]
  generalize hb0 : Code.loop _ = cc0
  obtain rfl : cc0 = .loop (lp Tryz.f36 0) := by rw [← hb0]; rfl
  clear hb0
  have W := h.1.1
  have G := W.1.1
  have H := W.2
  have hM := W.1.2.1.1
  have hlen := setOk_len H.2.1
  have hpos := H.pos
  obtain ⟨p, rfl⟩ := Int.eq_ofNat_of_zero_le h.1.2.1.1
  rw [Int.toNat_natCast]
  have S := trOk h
  have hp := S.hp
  have hT8 := G.1.1
  have c1 := ct_l07Given m (by omega) T hT M U hU l hl
  rw [wcode_0 W] at c1
  have c6 := ct_l07Group m (by omega) T l H
  have c7 := ct_l07Module m (by omega) M U T.length W.1.2.1.2 l (by omega) H.2.1.1
  have c8 := ct_l03Is m (by omega) (sbG T l) (by rw [sbG_len]; omega) M hM (sbU U l) p V hV
  rw [bl_true h.1.2] at c8
  have c9 := ct_l01Cosets m (by omega) T l H
  have c10 := ct_l03Zero m (by omega) T hT8 p (by omega)
  have pb := pow_bd hT8 (show p ≤ 4 by omega)
  have fb := (firsts_bd T l).1
  have h1 : ¬ (1 < (p : Int)) := by omega
  have bd := fun i => S.s_bd (i + 1) (firsts T l).length
  have cm := fun i => ct_l01Mod m (by omega) (trS T U V l (i + 1) p (firsts T l).length) M (by omega) (by have := bd i; omega)
  simp only [← show ∀ i, trV T M U V l p i = trS T U V l (i + 1) p (firsts T l).length % M from fun i => rfl] at cm
  have hK1 : ∀ i < (T.length - 1) ^ p, p = 1 → i + 1 < T.length := by
    intro i hi e
    rw [e, Nat.pow_one] at hi
    omega
  unfold trW
  generalize hK : (T.length - 1) ^ p = K at *
  rw [← fillR_zero (trV T M U V l p)] at c10
  simp -implicitDefEqProofs (maxSteps := 3000000) [c1, c6, c7, c8, c9, c10, h1]
  generalize hx : loopC _ _ _ = x
  generalize hl : lp Tryz.f36 0 = L at hx
  simp only [lp, bodyOf, Tryz.f36, Option.getD_some, loopsIn, List.append_nil, List.nil_append, List.cons_append, List.getD, List.getElem?_cons_zero, List.getElem?_cons_succ] at hl
  subst hl
  generalize hb1 : Code.loop _ = cc1 at hx
  obtain rfl : cc1 = .loop (lp Tryz.f36 1) := by rw [← hb1]; rfl
  clear hb1
  obtain ⟨qq, rfl, hqq⟩ := loop_end hx (K) (fun i s => ∃ g, s = ⟨[(2, .d (ints l)), (4, .ptr 64 1 0), (5, .ptr 80 2 0), (7, .ptr 112 3 0), (8, .ptr 128 4 0), (11, .ptr 176 19 0), (13, .own 768 33), (14, .own 769 33), (15, .ptr 240 43 0), (16, .d (.int .i64 i))], [(64, some (1, .box [.d (intss T)])), (80, some (2, .box [.d (.int .i64 M), .d (ints U)])), (112, some (3, .box [.d (.int .i64 p), .d (ints V)])), (128, some (4, .box [.d (.int .i64 0), .d .nil])), (176, some (19, .box [.own 496 15])), (240, some (43, .box [.d (.int .i64 p), .own 864 42])), (496, some (15, .mat false (mcells (sbG T l)))), (768, some (33, .row (icells (nums T l)))), (769, some (33, .row (icells (firsts T l)))), (864, some (42, .row (icells (fillR (trV T M U V l p) i K))))], g⟩)
    (fun qq => ∃ s, qq = (.exit 0, s) ∧ lookL s.env 2 = some (.d (ints l)) ∧ lookL s.env 4 = some (.ptr 64 1 0) ∧ lookL s.env 5 = some (.ptr 80 2 0) ∧ lookL s.env 7 = some (.ptr 112 3 0) ∧ lookL s.env 8 = some (.ptr 128 4 0) ∧ lookL s.env 11 = some (.ptr 176 19 0) ∧ lookL s.env 13 = some (.own 768 33) ∧ lookL s.env 14 = some (.own 769 33) ∧ lookL s.env 15 = some (.ptr 240 43 0) ∧ lookL s.env 16 = some (.d (.int .i64 (K))) ∧ obsL s.obs 64 = some (1, .box [.d (intss T)]) ∧ obsL s.obs 80 = some (2, .box [.d (.int .i64 M), .d (ints U)]) ∧ obsL s.obs 112 = some (3, .box [.d (.int .i64 p), .d (ints V)]) ∧ obsL s.obs 128 = some (4, .box [.d (.int .i64 0), .d .nil]) ∧ obsL s.obs 176 = some (19, .box [.own 496 15]) ∧ obsL s.obs 240 = some (43, .box [.d (.int .i64 p), .own 864 42]) ∧ obsL s.obs 496 = some (15, .mat false (mcells (sbG T l))) ∧ obsL s.obs 768 = some (33, .row (icells (nums T l))) ∧ obsL s.obs 769 = some (33, .row (icells (firsts T l))) ∧ obsL s.obs 864 = some (42, .row (icells (fillR (trV T M U V l p) (K) K))))
    (by show K < m; omega) (by
      simp -implicitDefEqProofs (maxSteps := 3000000))
    (by
      rintro i s hi ⟨g, rfl⟩
      have w2 := wrap_id (n := (i : Int) + 1) (by omega)
      have c13 := cm i
      have b13 := bd i
      have hs := fillR_set (trV T M U V l p) hi
      have hlen2 : (fillR (trV T M U V l p) i K).length = K := fillR_len _ (by omega)
      have hx1 := hK1 i hi
      generalize fillR (trV T M U V l p) i K = X at *
      generalize fillR (trV T M U V l p) (i + 1) K = Y at *
      have hiX : i < X.length := by omega
      simp -implicitDefEqProofs (maxSteps := 3000000) [hi, hiX, hlen2]
      generalize hy : loopC _ _ _ = y
      obtain ⟨s, rfl, hq⟩ := lp_TrC_1 m (by omega) T M U V l p S X i hx1 hy (by simp -implicitDefEqProofs (maxSteps := 3000000) [trS])
      generalize trV T M U V l p i = Z at *
      generalize trS T U V l (i + 1) p (firsts T l).length = Q at *
      simp -implicitDefEqProofs (maxSteps := 3000000) [hq, hi, hiX, w2, c13, hs, hlen2])
    (by
      rintro s ⟨g, rfl⟩
      simp -implicitDefEqProofs (maxSteps := 3000000))
  obtain ⟨s, rfl, hf⟩ := hqq
  have ef := fillR_all (trV T M U V l p) K
  rw [ef] at hf
  simp -implicitDefEqProofs (maxSteps := 3000000) [hf]
theorem ct_specTC_bad (n : Nat) (hn : B + 7 + 8 ≤ n) (T : List (List Int)) (hT : T.length ≤ 2000000) (M : Int) (U : List Int) (hU : U.length ≤ 2000000) (l : List Int) (hl : l.length ≤ 10000000) (D : Int) (V : List Int) (hV : V.length ≤ 10000000) (h : ¬ TCGood T M U l D V) :
    evalCall Tryz.prog An n 36 [.agg [.d (intss T)], .agg [.d (.int .i64 M), .d (ints U)], .d (ints l), .agg [.d (.int .i64 D), .d (ints V)]] [] = some ⟨.tuple [.agg [.d (.int .i64 0), .d .nil], .d (.int .i64 (tccode T M U l D V))], [], []⟩ := by
  obtain ⟨m, rfl⟩ : ∃ m, n = m + 1 := ⟨n - 1, by omega⟩
  have hB := B_eq
  simp only [evalCall_at, fb36, bnd_some, bodyOf, Tryz.f36, Option.getD_some]
  generalize hb0 : Code.loop _ = cc0
  obtain rfl : cc0 = .loop (lp Tryz.f36 0) := by rw [← hb0]; rfl
  clear hb0
  have c1 := ct_l07Given m (by omega) T hT M U hU l hl
  by_cases W : WGood T M U l
  · have H := W.2
    have hlen := setOk_len H.2.1
    have hpos := H.pos
    have hT8 := H.1.1.1
    rw [wcode_0 W] at c1
    have c6 := ct_l07Group m (by omega) T l H
    have c7 := ct_l07Module m (by omega) M U T.length W.1.2.1.2 l (by omega) H.2.1.1
    have c8 := ct_l03Is m (by omega) (sbG T l) (by rw [sbG_len]; omega) M W.1.2.1.1 (sbU U l) D V hV
    by_cases C : IsCo (sbG T l) M D V
    · rw [bl_true C] at c8
      have h1 : 1 < D := by
        rcases Int.lt_or_le 1 D with z | z
        · exact z
        · exact absurd ⟨⟨W, C⟩, z⟩ h
      have e : tccode T M U l D V = 2 := by rw [tccode, if_pos W, if_pos C]
      simp -implicitDefEqProofs (maxSteps := 3000000) [c1, c6, c7, c8, h1, e]
    · rw [bl_false C] at c8
      have e : tccode T M U l D V = 1 := by rw [tccode, if_pos W, if_neg C]
      simp -implicitDefEqProofs (maxSteps := 3000000) [c1, c6, c7, c8, e]
  · have ne := wcode_ne W
    have ne2 := bne_t ne
    have e : tccode T M U l D V = wcode T M U l := if_neg W
    rw [e]
    simp -implicitDefEqProofs (maxSteps := 3000000) [c1, ne, ne2]
theorem ct_implTC (n : Nat) (hn : B + 13 + 16 ≤ n) (T : List (List Int)) (hT : T.length ≤ 2000000) (hr : ∀ i, (rown T i).length ≤ 1000000000000) (M : Int) (U : List Int) (hU : U.length ≤ 2000000) (l : List Int) (hl : l.length ≤ 10000000) (D : Int) (V : List Int) (hV : V.length ≤ 10000000) (h : TCGood T M U l D V) :
    evalCall Tryz.prog An n 37 [.agg [.d (intss T)], .agg [.d (.int .i64 M), .d (ints U)], .d (ints l), .agg [.d (.int .i64 D), .d (ints V)]] [] = some ⟨.tuple [.agg [.d (.int .i64 D), .own 0 0], .d (.int .i64 0)], [.row (icells (trW T M U V l D.toNat))], []⟩ := by
  obtain ⟨m, rfl⟩ : ∃ m, n = m + 1 := ⟨n - 1, by omega⟩
  have hB := B_eq
  simp only [evalCall_at, fb37, bnd_some, bodyOf, Tryz.f37, Option.getD_some]
  have W := h.1.1
  have G := W.1.1
  have H := W.2
  have hM := W.1.2.1.1
  have hlen := setOk_len H.2.1
  have hpos := H.pos
  obtain ⟨p, rfl⟩ := Int.eq_ofNat_of_zero_le h.1.2.1.1
  rw [Int.toNat_natCast]
  have S := trOk h
  have hp := S.hp
  have hT8 := G.1.1
  have c1 := ct_withinCode m (by omega) T hT hr M U hU l hl
  rw [wcode_0 W] at c1
  have c2 := ct_groupOf m (by omega) T l H
  have c3 := ct_moduleOf m (by omega) T l H M U W.1.2.1.2
  have c4 := ct_isCochain m (by omega) (sbG T l) (by rw [sbG_len]; omega) M (sbU U l) p V hV
  rw [bl_true h.1.2] at c4
  have c5 := ct_cosets m (by omega) T l H
  have fb := (firsts_bd T l).1
  have h1 : ¬ (1 < (p : Int)) := by omega
  have c8 := ct_toldG m (by omega) T hT8 M (by omega) p (by omega) 98 [.cellp [ints (firsts T l)], .cellp [.int .i64 M, ints U], .cellp [.int .i64 p, ints V], .cellp [intss T], .cellp [ints (nums T l)], .cellp [ints l], .cellp [intss (sbG T l)]] (trF T U V l) (B + 6) (by omega)
    (fun m hm i hi => by
      rw [trF_digs S hi]
      simpa using ct_TrC1 m hm T M U V l p S i hi)
    (fun i hi => by
      rw [trF_digs S hi]
      have := S.s_bd (i + 1) (firsts T l).length
      omega) (by simp -implicitDefEqProofs (maxSteps := 3000000))
  have e2 : tabI (fun i => trF T U V l (digs (T.length - 1) p i) % M) ((T.length - 1) ^ p) = trW T M U V l p := by
    unfold trW tabI
    apply List.map_congr_left
    intro i hi
    rw [List.mem_range] at hi
    rw [trF_digs S hi]; rfl
  rw [e2] at c8
  simp -implicitDefEqProofs (maxSteps := 3000000) [c1, c2, c3, c4, c5, c8, h1]
theorem ct_implTC_bad (n : Nat) (hn : B + 13 + 16 ≤ n) (T : List (List Int)) (hT : T.length ≤ 2000000) (hr : ∀ i, (rown T i).length ≤ 1000000000000) (M : Int) (U : List Int) (hU : U.length ≤ 2000000) (l : List Int) (hl : l.length ≤ 10000000) (D : Int) (V : List Int) (hV : V.length ≤ 10000000) (h : ¬ TCGood T M U l D V) :
    evalCall Tryz.prog An n 37 [.agg [.d (intss T)], .agg [.d (.int .i64 M), .d (ints U)], .d (ints l), .agg [.d (.int .i64 D), .d (ints V)]] [] = some ⟨.tuple [.agg [.d (.int .i64 0), .d .nil], .d (.int .i64 (tccode T M U l D V))], [], []⟩ := by
  obtain ⟨m, rfl⟩ : ∃ m, n = m + 1 := ⟨n - 1, by omega⟩
  have hB := B_eq
  simp only [evalCall_at, fb37, bnd_some, bodyOf, Tryz.f37, Option.getD_some]
  have c1 := ct_withinCode m (by omega) T hT hr M U hU l hl
  by_cases W : WGood T M U l
  · have H := W.2
    have hlen := setOk_len H.2.1
    have hpos := H.pos
    have hT8 := H.1.1.1
    rw [wcode_0 W] at c1
    have c2 := ct_groupOf m (by omega) T l H
    have c3 := ct_moduleOf m (by omega) T l H M U W.1.2.1.2
    have c4 := ct_isCochain m (by omega) (sbG T l) (by rw [sbG_len]; omega) M (sbU U l) D V hV
    by_cases C : IsCo (sbG T l) M D V
    · rw [bl_true C] at c4
      have h1 : 1 < D := by
        rcases Int.lt_or_le 1 D with z | z
        · exact z
        · exact absurd ⟨⟨W, C⟩, z⟩ h
      have e : tccode T M U l D V = 2 := by rw [tccode, if_pos W, if_pos C]
      simp -implicitDefEqProofs (maxSteps := 3000000) [c1, c2, c3, c4, h1, e]
    · rw [bl_false C] at c4
      have e : tccode T M U l D V = 1 := by rw [tccode, if_pos W, if_neg C]
      simp -implicitDefEqProofs (maxSteps := 3000000) [c1, c2, c3, c4, e]
  · have ne := wcode_ne W
    have ne2 := bne_t ne
    have e : tccode T M U l D V = wcode T M U l := if_neg W
    rw [e]
    simp -implicitDefEqProofs (maxSteps := 3000000) [c1, ne, ne2]
end Go.Proofs.YtgklblkigjbggaaGreatE
