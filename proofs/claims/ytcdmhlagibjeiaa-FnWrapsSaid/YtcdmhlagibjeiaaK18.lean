/- Contracts of functions of the program and of the reference: what the evaluator gives for a call of each. -/
import Derived.Test.YtcdmhlagibjeiaaAEf
import Derived.Test.YtcdmhlagibjeiaaK0
import Derived.Test.YtcdmhlagibjeiaaK3
import Derived.Test.YtcdmhlagibjeiaaK5
import Derived.Test.YtcdmhlagibjeiaaK6
import Derived.Test.YtcdmhlagibjeiaaK13
import Derived.Test.YtcdmhlagibjeiaaK14
import Derived.Test.YtcdmhlagibjeiaaK17
namespace Go.Proofs.YtcdmhlagibjeiaaE
open Go Go.Proofs
set_option maxHeartbeats 4000000
set_option maxRecDepth 2000
set_option linter.unusedSimpArgs false
set_option linter.unusedVariables false
set_option pp.deepTerms false
set_option pp.deepTerms.threshold 10
/-! ## ConnectingCochain -/
theorem isGr_e0 {T : List (List Int)} (G : IsGr T) : ∀ a < T.length, cl T 0 a = a := fun a ha => (G.2 a ha).1.1
theorem coOk {T : List (List Int)} {M q : Int} {U V : List Int} {p : Nat} (G : GM T M U) (hq : 2 ≤ q ∧ q ≤ M ∧ M % q = 0) (h : IsCo T q p V) : CoOk T (restU U q) V p := by
  have I := isMo_red G.1.1 G.2 hq.1 hq.2.1 hq.2.2
  have hM := G.2.1.1
  refine ⟨G.1.1, isGr_e0 G.1, I.1.2, fun i hi => ?_, ?_, fun i hi => ?_, ?_⟩
  · have := (I.2.1 i hi).1; omega
  · have := h.2.1; simpa [cellsOf_] using this
  · have := h.2.2 i hi; omega
  · have := h.1; omega
theorem coOk1 {T : List (List Int)} {M q : Int} {U V : List Int} {p : Nat} (G : GM T M U) (hq : q ≤ 12) (h : IsCo T q p V) : CoOk T U V p := by
  have I := G.2
  have hM := G.2.1.1
  refine ⟨G.1.1, isGr_e0 G.1, I.1.2, fun i hi => ?_, ?_, fun i hi => ?_, ?_⟩
  · have := (I.2.1 i hi).1; omega
  · have := h.2.1; simpa [cellsOf_] using this
  · have := h.2.2 i hi; omega
  · have := h.1; omega
theorem bnd1_bd {T : List (List Int)} {M : Int} {U V : List Int} {p i : Nat} (hM : 0 < M) : 0 ≤ bnd1 T M U V p i ∧ bnd1 T M U V p i < M :=
  ⟨Int.emod_nonneg _ (by omega), Int.emod_lt_of_pos _ hM⟩
noncomputable def conL (T : List (List Int)) (M : Int) (U V : List Int) (p : Nat) (q : Int) : List Int := (bndL T M U V p).map (· / q)
theorem conL_len {T : List (List Int)} {M : Int} {U V : List Int} {p : Nat} {q : Int} : (conL T M U V p q).length = (T.length - 1) ^ (p + 1) := by simp -implicitDefEqProofs (maxSteps := 3000000) [conL, bndL]
theorem bndL_bd {T : List (List Int)} {M : Int} {U V : List Int} {p : Nat} (hM : 0 < M) (i : Nat) (hi : i < (bndL T M U V p).length) : 0 ≤ rn (bndL T M U V p) i ∧ rn (bndL T M U V p) i < M := by
  have hi' : i < (T.length - 1) ^ (p + 1) := by simpa [bndL] using hi
  have : rn (bndL T M U V p) i = bnd1 T M U V p i := rn_tabI _ hi'
  rw [this]; exact bnd1_bd hM
def CGood (T : List (List Int)) (M : Int) (U : List Int) (k D : Int) (V : List Int) : Prop := EGood T M U k (M / k) D V ∧ D ≤ 2 ∧ IsCy T (M / k) (restU U (M / k)) V D.toNat
noncomputable def concode (T : List (List Int)) (M : Int) (U : List Int) (k D : Int) (V : List Int) : Int :=
  @ite Int (EGood T M U k (M / k) D V) (Classical.propDecidable _) (if D ≤ 2 then 5 else 2) (ecode T M U k (M / k) D V)
end Go.Proofs.YtcdmhlagibjeiaaE
