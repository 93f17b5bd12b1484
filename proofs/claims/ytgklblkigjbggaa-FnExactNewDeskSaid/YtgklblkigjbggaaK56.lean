/- Contracts of functions of the program and of the reference: what the evaluator gives for a call of each. -/
import Derived.Test.YtgklblkigjbggaaAEf
import Derived.Test.YtgklblkigjbggaaK0
import Derived.Test.YtgklblkigjbggaaK4
import Derived.Test.YtgklblkigjbggaaK5
import Derived.Test.YtgklblkigjbggaaK6
import Derived.Test.YtgklblkigjbggaaK15
import Derived.Test.YtgklblkigjbggaaK28
import Derived.Test.YtgklblkigjbggaaK33
import Derived.Test.YtgklblkigjbggaaK34
import Derived.Test.YtgklblkigjbggaaK35
import Derived.Test.YtgklblkigjbggaaK42
import Derived.Test.YtgklblkigjbggaaK44
import Derived.Test.YtgklblkigjbggaaK49
import Derived.Test.YtgklblkigjbggaaK51
namespace Go.Proofs.YtgklblkigjbggaaE
open Go Go.Proofs
set_option maxHeartbeats 4000000
set_option maxRecDepth 4000
set_option linter.unusedSimpArgs false
set_option linter.unusedVariables false
set_option pp.deepTerms false
set_option pp.deepTerms.threshold 10
/-! ## TransferCochain -/
theorem stp_mem {T : List (List Int)} {h : List Int} (H : HGood T h) {x t : Nat} (hx : x < T.length) (ht : t < T.length) : (stp T h x t : Int) ∈ h := by
  have G := H.1
  have my := mu_lt G hx ht
  obtain ⟨f1, f2, f3, f4⟩ := fr_lt H my
  have nb := nums_bd H (mu T x t) my
  obtain ⟨i, hi, e⟩ := csN_hit H T.length (Nat.le_refl _) (mu T x t) my nb.1
  have r := H.2.1.1 i hi
  have e2 : mu T (fr T h (mu T x t)) (rn h i).toNat = mu T x t := e
  have hi2 : (rn h i).toNat < T.length := by omega
  have e3 : stp T h x t = (rn h i).toNat := by
    have : mu T (inv T (fr T h (mu T x t))) (mu T (fr T h (mu T x t)) (rn h i).toNat) = (rn h i).toNat := mu_0il G f2 hi2
    rw [e2] at this
    exact this
  rw [e3]
  exact mem_rn.2 ⟨i, hi, by omega⟩
noncomputable def trT (T : List (List Int)) (U V h : List Int) (x p t : Nat) : Int := if p = 0 then rn U t * rn V 0 else rn U (fr T h (mu T x t)) * atv h.length V [(pl h (stp T h x t) : Int)]
noncomputable def trS (T : List (List Int)) (U V h : List Int) (x p : Nat) : Nat → Int
  | 0 => 0
  | i + 1 => trS T U V h x p i + trT T U V h x p (rn (firsts T h) i).toNat
structure TrOk (T : List (List Int)) (M : Int) (U V h : List Int) (p : Nat) : Prop where
  G : GM T M U
  H : HGood T h
  hp : p ≤ 1
  C : IsCo (sbG T h) M p V
theorem TrOk.hV {T : List (List Int)} {M : Int} {U V h : List Int} {p : Nat} (S : TrOk T M U V h p) : (V.length : Int) = ((h.length : Int) - 1) ^ p := by
  have := S.C.2.1
  rw [sbG_len] at this
  simpa [cellsOf_] using this
theorem TrOk.t_bd {T : List (List Int)} {M : Int} {U V h : List Int} {p : Nat} (S : TrOk T M U V h p) (x t : Nat) : 0 ≤ trT T U V h x p t ∧ trT T U V h x p t ≤ 121 := by
  have I := S.G.2
  have hM := I.1.1
  have bU : ∀ i < U.length, 0 ≤ rn U i ∧ rn U i ≤ 11 := fun i hi => by have := (I.2.1 i hi).1; omega
  have bV : ∀ i < V.length, 0 ≤ rn V i ∧ rn V i ≤ 11 := fun i hi => by have := S.C.2.2 i hi; omega
  unfold trT
  split
  · have a := rn_mem_bd (by omega) bU t
    have b := rn_mem_bd (by omega) bV 0
    have := mul_bd a.1 a.2 b.1 b.2
    omega
  · have a := rn_mem_bd (by omega) bU (fr T h (mu T x t))
    have b := atv_bd (N := h.length) (l := [(pl h (stp T h x t) : Int)]) (by omega) bV
    have := mul_bd a.1 a.2 b.1 b.2
    omega
theorem TrOk.s_bd {T : List (List Int)} {M : Int} {U V h : List Int} {p : Nat} (S : TrOk T M U V h p) (x : Nat) : ∀ i : Nat, 0 ≤ trS T U V h x p i ∧ trS T U V h x p i ≤ 121 * i
  | 0 => by simp -implicitDefEqProofs (maxSteps := 3000000) [trS]
  | i + 1 => by
    have := S.s_bd x i
    have := S.t_bd x (rn (firsts T h) i).toNat
    simp only [trS]
    omega
noncomputable def trV (T : List (List Int)) (M : Int) (U V h : List Int) (p k : Nat) : Int := trS T U V h (k + 1) p (firsts T h).length % M
noncomputable def trW (T : List (List Int)) (M : Int) (U V h : List Int) (p : Nat) : List Int := tabI (trV T M U V h p) ((T.length - 1) ^ p)
theorem inG1 {N x : Nat} (hx : x < N) : InG N [(x : Int)] := fun i hi => by
  have : i = 0 := by simpa using hi
  subst this
  simp -implicitDefEqProofs (maxSteps := 3000000) [rn]
  omega
end Go.Proofs.YtgklblkigjbggaaE
