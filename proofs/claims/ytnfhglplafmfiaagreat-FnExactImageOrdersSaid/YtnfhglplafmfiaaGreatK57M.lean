/- Contracts of functions of the program and of the reference: what the evaluator gives for a call of each. -/
import Derived.Test.YtnfhglplafmfiaaGreatAEf
import Derived.Test.YtnfhglplafmfiaaGreatK1M
import Derived.Test.YtnfhglplafmfiaaGreatK3M
import Derived.Test.YtnfhglplafmfiaaGreatK26
import Derived.Test.YtnfhglplafmfiaaGreatK29M
import Derived.Test.YtnfhglplafmfiaaGreatK31
import Derived.Test.YtnfhglplafmfiaaGreatK33M
import Derived.Test.YtnfhglplafmfiaaGreatK36M
import Derived.Test.YtnfhglplafmfiaaGreatK37
import Derived.Test.YtnfhglplafmfiaaGreatK4
import Derived.Test.YtnfhglplafmfiaaGreatK6M
import Derived.Test.YtnfhglplafmfiaaGreatK15
import Derived.Test.YtnfhglplafmfiaaGreatK42
import Derived.Test.YtnfhglplafmfiaaGreatK49M
import Derived.Test.YtnfhglplafmfiaaGreatK17
namespace Go.Proofs.YtnfhglplafmfiaaGreatE
open Go Go.Proofs
set_option maxHeartbeats 4000000
set_option maxRecDepth 4000
set_option linter.unusedSimpArgs false
set_option linter.unusedVariables false
set_option pp.deepTerms false
set_option pp.deepTerms.threshold 10
/-! ## conjugate subgroups, cosets: laws -/
theorem mu_0il {T : List (List Int)} (G : IsGr T) {a b : Nat} (ha : a < T.length) (hb : b < T.length) : mu T (inv T a) (mu T a b) = b := by
  obtain ⟨i1, i2, i3⟩ := inv_spec G ha
  rw [← mu_as G i1 ha hb, i3, mu_0l G hb]
theorem mu_0il' {T : List (List Int)} (G : IsGr T) {a b : Nat} (ha : a < T.length) (hb : b < T.length) : mu T (inv T a) (mu T a b) = b := mu_0il G ha hb
theorem inv_inv {T : List (List Int)} (G : IsGr T) {a : Nat} (ha : a < T.length) : inv T (inv T a) = a := by
  obtain ⟨i1, i2, i3⟩ := inv_spec G ha
  exact (inv_uniq G i1 ha i3).symm
theorem cj_mu {T : List (List Int)} (G : IsGr T) {c a b : Nat} (hc : c < T.length) (ha : a < T.length) (hb : b < T.length) : mu T (cj T c a) (cj T c b) = cj T c (mu T a b) := by
  obtain ⟨i1, i2, i3⟩ := inv_spec G hc
  have ca := mu_lt G hc ha
  have cb := mu_lt G hc hb
  have ab := mu_lt G ha hb
  unfold cj
  rw [← mu_as G (mu_lt G ca i1) cb i1]
  congr 1
  rw [mu_as G ca i1 cb, mu_0il' G hc hb, mu_as G hc ha hb]
theorem cj_back {T : List (List Int)} (G : IsGr T) {c a : Nat} (hc : c < T.length) (ha : a < T.length) : cj T (inv T c) (cj T c a) = a := by
  obtain ⟨i1, i2, i3⟩ := inv_spec G hc
  have ca := mu_lt G hc ha
  unfold cj
  rw [inv_inv G hc, ← mu_as G i1 ca i1, mu_0il G hc ha, mu_as G ha i1 hc, i3, mu_0r G ha]
theorem cj_0 {T : List (List Int)} (G : IsGr T) {c : Nat} (hc : c < T.length) : cj T c 0 = 0 := by
  unfold cj
  rw [mu_0r G hc]
  exact (inv_spec G hc).2.1
theorem mem_conjL {T : List (List Int)} (G : IsGr T) {h : List Int} (hS : SetOk T h) {c : Nat} (hc : c < T.length) (z : Int) : z ∈ conjL T h c ↔ ∃ a : Nat, (a : Int) ∈ h ∧ a < T.length ∧ z = (cj T c a : Int) := by
  have hN := G.1.1
  have hr := cjL_rg G hS.1 hc
  have hr8 : ∀ i < (cjL T h c h.length).length, 0 ≤ rn (cjL T h c h.length) i ∧ rn (cjL T h c h.length) i < 8 := fun i hi => by have := hr i hi; omega
  rw [conjL, mem_bitL]
  constructor
  · rintro ⟨a, _, h1, rfl⟩
    rw [bits_tb hr8, mem_rn] at h1
    obtain ⟨i, hi, e⟩ := h1
    have hi' : i < h.length := by simpa [cjL] using hi
    have e2 : rn (cjL T h c h.length) i = (cj T c (rn h i).toNat : Int) := rn_tabI _ hi'
    have h3 := hS.1 i hi'
    refine ⟨(rn h i).toNat, mem_rn.2 ⟨i, hi', by omega⟩, by omega, by omega⟩
  · rintro ⟨a, h1, h2, rfl⟩
    have h4 := cj_lt G hc h2
    refine ⟨cj T c a, by omega, ?_, rfl⟩
    rw [bits_tb hr8, mem_rn]
    obtain ⟨i, hi, e⟩ := mem_rn.1 h1
    refine ⟨i, by simpa [cjL] using hi, ?_⟩
    have e2 : rn (cjL T h c h.length) i = (cj T c (rn h i).toNat : Int) := rn_tabI _ hi
    rw [e2, e, Int.toNat_natCast]
theorem pw_asc {l : List Int} (h : l.Pairwise (· < ·)) : AscL l := fun i hi => by
  rw [List.pairwise_iff_getElem] at h
  have := h i (i + 1) (by omega) hi (by omega)
  rwa [rn_get (by omega), rn_get hi]
theorem nodup_sub : ∀ (X Y : List Int), X.Nodup → (∀ x ∈ X, x ∈ Y) → X.length ≤ Y.length
  | [], _, _, _ => by simp -implicitDefEqProofs (maxSteps := 3000000)
  | a :: X, Y, hd, h => by
    rw [List.nodup_cons] at hd
    have h1 := h a (by simp -implicitDefEqProofs (maxSteps := 3000000))
    have h2 := List.length_erase_of_mem h1
    have h3 := nodup_sub X (Y.erase a) hd.2 fun x hx => by
      have : x ≠ a := fun e => hd.1 (e ▸ hx)
      exact (List.mem_erase_of_ne this).2 (h x (by simp -implicitDefEqProofs (maxSteps := 3000000) [hx]))
    have h4 := List.length_pos_of_mem h1
    simp only [List.length_cons]
    omega
theorem conjL_good {T : List (List Int)} {h : List Int} (H : HGood T h) {c : Nat} (hc : c < T.length) : HGood T (conjL T h c) := by
  have G := H.1
  refine ⟨G, ⟨fun i hi => ?_, pw_asc (thoseL_pw _ _)⟩, ?_, ?_⟩
  · obtain ⟨a, _, h2, e⟩ := (mem_conjL G H.2.1 hc _).1 (mem_rn.2 ⟨i, hi, rfl⟩)
    have := cj_lt G hc h2
    omega
  · exact (mem_conjL G H.2.1 hc _).2 ⟨0, H.2.2.1, zero_lt_len G, by rw [cj_0 G hc]; rfl⟩
  · intro x y hx hy
    obtain ⟨a, a1, a2, e1⟩ := (mem_conjL G H.2.1 hc _).1 hx
    obtain ⟨b, b1, b2, e2⟩ := (mem_conjL G H.2.1 hc _).1 hy
    have e1' : x = cj T c a := by omega
    have e2' : y = cj T c b := by omega
    subst e1' e2'
    have m1 := mu_cl G.1 (cj_lt G hc a2) (cj_lt G hc b2)
    have m2 := mu_cl G.1 a2 b2
    refine (mem_conjL G H.2.1 hc _).2 ⟨mu T a b, ?_, m2.2, ?_⟩
    · rw [← m2.1]; exact H.2.2.2 a b a1 b1
    · rw [m1.1, cj_mu G hc a2 b2]
theorem conjL_len {T : List (List Int)} {h : List Int} (H : HGood T h) {c : Nat} (hc : c < T.length) : (conjL T h c).length = h.length := by
  have G := H.1
  have h1 := nodup_sub (conjL T h c) (cjL T h c h.length) (setOk_nodup (conjL_good H hc).2.1) fun x hx => by
    obtain ⟨a, a1, a2, rfl⟩ := (mem_conjL G H.2.1 hc _).1 hx
    obtain ⟨i, hi, e⟩ := mem_rn.1 a1
    refine mem_rn.2 ⟨i, by simpa [cjL] using hi, ?_⟩
    have e2 : rn (cjL T h c h.length) i = (cj T c (rn h i).toNat : Int) := rn_tabI _ hi
    rw [e2, e, Int.toNat_natCast]
  have h2 := nodup_sub (cjL T h c h.length) (conjL T h c) (cjL_nodup G H.2.1 hc) fun x hx => by
    obtain ⟨i, hi, e⟩ := mem_rn.1 hx
    have hi' : i < h.length := by simpa [cjL] using hi
    have e2 : rn (cjL T h c h.length) i = (cj T c (rn h i).toNat : Int) := rn_tabI _ hi'
    have h3 := H.2.1.1 i hi'
    exact (mem_conjL G H.2.1 hc _).2 ⟨(rn h i).toNat, mem_rn.2 ⟨i, hi', by omega⟩, by omega, by omega⟩
  have h3 : (cjL T h c h.length).length = h.length := by simp -implicitDefEqProofs (maxSteps := 3000000) [cjL]
  omega
/-- Every element is the first of its coset, times an element of the subgroup. -/
theorem csN_hit {T : List (List Int)} {h : List Int} (H : HGood T h) : ∀ a ≤ T.length, ∀ b < T.length, 0 ≤ rn (csN T h a).1 b → ∃ i < h.length, mu T (rn (csN T h a).2 (rn (csN T h a).1 b).toNat).toNat (rn h i).toNat = b
  | 0, _, b, hb, hz => by simp -implicitDefEqProofs (maxSteps := 3000000) [csN, rn, List.getD, hb] at hz
  | a + 1, ha, b, hb, hz => by
    have ih := csN_hit H a (by omega) b hb
    have bd := csN_bd H a (by omega) b hb
    simp only [csN] at hz ⊢
    split
    · rename_i h1
      rw [if_pos h1] at hz
      exact ih hz
    · rename_i h1
      rw [if_neg h1] at hz
      simp only at hz ⊢
      rcases csH_get (k := ((csN T h a).2.length : Int)) (csN_len T h a) (hg_mu H (show a < T.length by omega)) b hb h.length (Nat.le_refl _) with ⟨e, i, hi, e2⟩ | ⟨e, _⟩
      · refine ⟨i, hi, ?_⟩
        rw [e, Int.toNat_natCast]
        have e3 : rn ((csN T h a).2 ++ [(a : Int)]) (csN T h a).2.length = a := by simp -implicitDefEqProofs (maxSteps := 3000000) [rn, List.getD]
        rw [e3, Int.toNat_natCast, e2]
      · rw [e] at hz ⊢
        obtain ⟨i, hi, e2⟩ := ih hz
        refine ⟨i, hi, ?_⟩
        have e3 : rn ((csN T h a).2 ++ [(a : Int)]) (rn (csN T h a).1 b).toNat = rn (csN T h a).2 (rn (csN T h a).1 b).toNat := by
          have hk : (rn (csN T h a).1 b).toNat < (csN T h a).2.length := by omega
          generalize (rn (csN T h a).1 b).toNat = q at hk
          simp only [rn, List.getD]
          rw [List.getElem?_append_left hk]
        rw [e3, e2]
end Go.Proofs.YtnfhglplafmfiaaGreatE

namespace Go.Proofs.YtnfhglplafmfiaaGreatE
open Go Go.Proofs
set_option maxHeartbeats 4000000
set_option maxRecDepth 4000
set_option linter.unusedSimpArgs false
set_option linter.unusedVariables false
set_option pp.deepTerms false
set_option pp.deepTerms.threshold 10
/-! ## TransferCochain -/
theorem stp_mem {T : List (List Int)} {h : List Int} (H : HGood T h) {x t : Nat} (hx : x < T.length) (ht : t < T.length) : (stp T h x t : Int) ∈ h := by
  have G := H.1
  have my := mu_lt G hx ht
  obtain ⟨f1, f2, f3, f4⟩ := fr_lt H my
  have nb := nums_bd H (mu T x t) my
  obtain ⟨i, hi, e⟩ := csN_hit H T.length (Nat.le_refl _) (mu T x t) my nb.1
  have r := H.2.1.1 i hi
  have e2 : mu T (fr T h (mu T x t)) (rn h i).toNat = mu T x t := e
  have hi2 : (rn h i).toNat < T.length := by omega
  have e3 : stp T h x t = (rn h i).toNat := by
    have : mu T (inv T (fr T h (mu T x t))) (mu T (fr T h (mu T x t)) (rn h i).toNat) = (rn h i).toNat := mu_0il G f2 hi2
    rw [e2] at this
    exact this
  rw [e3]
  exact mem_rn.2 ⟨i, hi, by omega⟩
noncomputable def trT (T : List (List Int)) (U V h : List Int) (x p t : Nat) : Int := if p = 0 then rn U t * rn V 0 else rn U (fr T h (mu T x t)) * atv h.length V [(pl h (stp T h x t) : Int)]
noncomputable def trS (T : List (List Int)) (U V h : List Int) (x p : Nat) : Nat → Int
  | 0 => 0
  | i + 1 => trS T U V h x p i + trT T U V h x p (rn (firsts T h) i).toNat
structure TrOk (T : List (List Int)) (M : Int) (U V h : List Int) (p : Nat) : Prop where
  G : GM T M U
  H : HGood T h
  hp : p ≤ 1
  C : IsCo (sbG T h) M p V
theorem TrOk.hV {T : List (List Int)} {M : Int} {U V h : List Int} {p : Nat} (S : TrOk T M U V h p) : (V.length : Int) = ((h.length : Int) - 1) ^ p := by
  have := S.C.2.1
  rw [sbG_len] at this
  simpa [cellsOf_] using this
theorem TrOk.t_bd {T : List (List Int)} {M : Int} {U V h : List Int} {p : Nat} (S : TrOk T M U V h p) (x t : Nat) : 0 ≤ trT T U V h x p t ∧ trT T U V h x p t ≤ 121 := by
  have I := S.G.2
  have hM := I.1.1
  have bU : ∀ i < U.length, 0 ≤ rn U i ∧ rn U i ≤ 11 := fun i hi => by have := (I.2.1 i hi).1; omega
  have bV : ∀ i < V.length, 0 ≤ rn V i ∧ rn V i ≤ 11 := fun i hi => by have := S.C.2.2 i hi; omega
  unfold trT
  split
  · have a := rn_mem_bd (by omega) bU t
    have b := rn_mem_bd (by omega) bV 0
    have := mul_bd a.1 a.2 b.1 b.2
    omega
  · have a := rn_mem_bd (by omega) bU (fr T h (mu T x t))
    have b := atv_bd (N := h.length) (l := [(pl h (stp T h x t) : Int)]) (by omega) bV
    have := mul_bd a.1 a.2 b.1 b.2
    omega
theorem TrOk.s_bd {T : List (List Int)} {M : Int} {U V h : List Int} {p : Nat} (S : TrOk T M U V h p) (x : Nat) : ∀ i : Nat, 0 ≤ trS T U V h x p i ∧ trS T U V h x p i ≤ 121 * i
  | 0 => by simp -implicitDefEqProofs (maxSteps := 3000000) [trS]
  | i + 1 => by
    have := S.s_bd x i
    have := S.t_bd x (rn (firsts T h) i).toNat
    simp only [trS]
    omega
noncomputable def trV (T : List (List Int)) (M : Int) (U V h : List Int) (p k : Nat) : Int := trS T U V h (k + 1) p (firsts T h).length % M
noncomputable def trW (T : List (List Int)) (M : Int) (U V h : List Int) (p : Nat) : List Int := tabI (trV T M U V h p) ((T.length - 1) ^ p)
theorem inG1 {N x : Nat} (hx : x < N) : InG N [(x : Int)] := fun i hi => by
  have : i = 0 := by simpa using hi
  subst this
  simp -implicitDefEqProofs (maxSteps := 3000000) [rn]
  omega
end Go.Proofs.YtnfhglplafmfiaaGreatE

namespace Go.Proofs.YtnfhglplafmfiaaGreatE
open Go Go.Proofs
set_option maxHeartbeats 4000000
set_option maxRecDepth 4000
set_option linter.unusedSimpArgs false
set_option linter.unusedVariables false
set_option pp.deepTerms false
set_option pp.deepTerms.threshold 10
/-! ## TransferCochain: the reference and the program -/
theorem ct_l03Zero (n : Nat) (hn : B + 3 ≤ n) (T : List (List Int)) (hT : 1 ≤ T.length ∧ T.length ≤ 8) (d : Nat) (hD : d ≤ 3) :
    evalCall Tryz.prog An n 189 [.agg [.d (intss T)], .d (.int .i64 d)] [] = some ⟨.agg [.d (.int .i64 d), .own 0 0], [.row (icells (List.replicate ((T.length - 1) ^ d) 0))], []⟩ := by
  obtain ⟨m, rfl⟩ : ∃ m, n = m + 1 := ⟨n - 1, by omega⟩
  have hB := B_eq
  simp only [evalCall_at, fb189, bnd_some, bodyOf, Tryz.f189, Option.getD_some]
  have c1 := ct_l03Cells m (by omega) T hT d (by omega)
  have ec : cellsOf_ T.length d = (((T.length - 1) ^ d : Nat) : Int) := by rw [cellsOf_, Int.toNat_natCast, pow_cast hT.1]
  rw [ec] at c1
  have b := pow_bd hT (show d ≤ 4 by omega)
  generalize (T.length - 1) ^ d = K at *
  have k1 : (K : Int) ≤ 1099511627776 := by omega
  simp -implicitDefEqProofs (maxSteps := 3000000) [c1, k1]
theorem digs1 {b i : Nat} (hi : i < b) : digs b 1 i = [((i + 1 : Nat) : Int)] := by
  simp -implicitDefEqProofs (maxSteps := 3000000) [digs, tabI, dig, Nat.mod_eq_of_lt hi]
  omega
theorem digs0 (b i : Nat) : digs b 0 i = [] := rfl
theorem trS_0 (T : List (List Int)) (U V h : List Int) (x y : Nat) : ∀ i, trS T U V h x 0 i = trS T U V h y 0 i
  | 0 => rfl
  | i + 1 => by simp only [trS, trS_0 T U V h x y i, trT, if_pos]
noncomputable def trF (T : List (List Int)) (U V h : List Int) (l : List Int) : Int := trS T U V h (rn l 0).toNat l.length (firsts T h).length
theorem trF_digs {T : List (List Int)} {M : Int} {U V h : List Int} {p : Nat} (S : TrOk T M U V h p) {i : Nat} (hi : i < (T.length - 1) ^ p) : trF T U V h (digs (T.length - 1) p i) = trS T U V h (i + 1) p (firsts T h).length := by
  have hp := S.hp
  rcases Nat.eq_zero_or_pos p with rfl | z
  · rw [digs0, trF]; exact trS_0 T U V h _ _ _
  · obtain rfl : p = 1 := by omega
    rw [digs1 (by simpa using hi), trF]
    rfl
end Go.Proofs.YtnfhglplafmfiaaGreatE
