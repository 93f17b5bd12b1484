/- Contracts of functions of the program and of the reference: what the evaluator gives for a call of each. -/
import Derived.Test.YtcdmhlagibjeiaaAEf
import Derived.Test.YtcdmhlagibjeiaaK0
import Derived.Test.YtcdmhlagibjeiaaK3
import Derived.Test.YtcdmhlagibjeiaaK18
import Derived.Test.YtcdmhlagibjeiaaK26
import Derived.Test.YtcdmhlagibjeiaaK27
import Derived.Test.YtcdmhlagibjeiaaK28
import Derived.Test.YtcdmhlagibjeiaaK31
import Derived.Test.YtcdmhlagibjeiaaK32
namespace Go.Proofs.YtcdmhlagibjeiaaE
open Go Go.Proofs
set_option maxHeartbeats 4000000
set_option maxRecDepth 4000
set_option linter.unusedSimpArgs false
set_option linter.unusedVariables false
set_option pp.deepTerms false
set_option pp.deepTerms.threshold 10
/-! ## the subgroup that some elements make -/
theorem sort_asc {X Y : List Int} (hd : X.Nodup) (hl : Y.length = X.length) (hc : ∀ x, Y.count x = X.count x) (hs : Srt Y X.length) : Y.Pairwise (· < ·) ∧ ∀ z, z ∈ Y ↔ z ∈ X :=
  ⟨srt_pw (by rw [hl]; exact hs) (nodup_cnt hc hd), fun z => mem_cnt hc z⟩
theorem sub_iff {T : List (List Int)} (G : IsGr T) {l X Y : List Int} (h : SetOk T l) (F : Fnd T l X) (hH : ∀ k < X.length, Hit T l X k) (hY : Y.Pairwise (· < ·) ∧ ∀ z, z ∈ Y ↔ z ∈ X) : Y = l ↔ SubG T l := by
  have R := G.1
  have hN := R.1
  have h0X : (0 : Int) ∈ X := mem_rn.2 ⟨0, F.z.1, F.z.2⟩
  constructor
  · intro e
    subst e
    refine ⟨(hY.2 0).2 h0X, fun a b ha hb => ?_⟩
    obtain ⟨i, hi, ei⟩ := mem_rn.1 ((hY.2 _).1 ha)
    obtain ⟨j, hj, ej⟩ := mem_rn.1 hb
    have := hH i hi j hj
    rw [ei, ej, Int.toNat_natCast, Int.toNat_natCast] at this
    exact (hY.2 _).2 this
  · intro hs
    refine pw_ext Y l hY.1 (asc_pw h.2) fun z => ?_
    rw [hY.2]
    constructor
    · intro hz
      refine F.gen l hs.1 (fun x hx a ha => ?_) z hz
      have gx := setOk_mem h hx
      have ga := setOk_mem h ha
      exact hs.2 x.toNat a.toNat (by rwa [Int.toNat_of_nonneg gx.1]) (by rwa [Int.toNat_of_nonneg ga.1])
    · intro hz
      obtain ⟨j, hj, ej⟩ := mem_rn.1 hz
      have gz := setOk_mem h hz
      have := hH 0 F.z.1 j hj
      have e0 := isGr_e0 G z.toNat (by omega)
      have zz : ((0 : Int)).toNat = 0 := rfl
      rw [F.z.2, ej, zz, e0, Int.toNat_of_nonneg gz.1] at this
      exact this
def HGood (T : List (List Int)) (l : List Int) : Prop := IsGr T ∧ SetOk T l ∧ SubG T l
theorem subcode_0 {T : List (List Int)} {l : List Int} (h : HGood T l) : subcode T l = 0 := by
  simp only [subcode, if_pos h.1, if_pos h.2.1, if_pos h.2.2]
theorem subcode_ne {T : List (List Int)} {l : List Int} (h : ¬ HGood T l) : subcode T l ≠ 0 := by
  unfold subcode
  by_cases h1 : IsGr T
  · by_cases h2 : SetOk T l
    · by_cases h3 : SubG T l
      · exact absurd ⟨h1, h2, h3⟩ h
      · simp only [if_pos h1, if_pos h2, if_neg h3]; omega
    · simp only [if_pos h1, if_neg h2]; omega
  · simp only [if_neg h1]; omega
theorem HGood.pos {T : List (List Int)} {l : List Int} (h : HGood T l) : 0 < l.length := by
  obtain ⟨i, hi, _⟩ := mem_rn.1 h.2.2.1; omega
/-! ## IndexOf -/
end Go.Proofs.YtcdmhlagibjeiaaE
