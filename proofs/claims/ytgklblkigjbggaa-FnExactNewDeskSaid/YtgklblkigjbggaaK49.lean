/- Contracts of functions of the program and of the reference: what the evaluator gives for a call of each. -/
import Derived.Test.YtgklblkigjbggaaAEf
import Derived.Test.YtgklblkigjbggaaK0
import Derived.Test.YtgklblkigjbggaaK33
import Derived.Test.YtgklblkigjbggaaK34
import Derived.Test.YtgklblkigjbggaaK35
import Derived.Test.YtgklblkigjbggaaK38
import Derived.Test.YtgklblkigjbggaaK42
import Derived.Test.YtgklblkigjbggaaK47
namespace Go.Proofs.YtgklblkigjbggaaE
open Go Go.Proofs
set_option maxHeartbeats 4000000
set_option maxRecDepth 4000
set_option linter.unusedSimpArgs false
set_option linter.unusedVariables false
set_option pp.deepTerms false
set_option pp.deepTerms.threshold 10
/-! ## TransferElement -/
noncomputable def fr (T : List (List Int)) (h : List Int) (w : Nat) : Nat := (rn (firsts T h) (rn (nums T h) w).toNat).toNat
noncomputable def stp (T : List (List Int)) (h : List Int) (x t : Nat) : Nat := mu T (inv T (fr T h (mu T x t))) (mu T x t)
noncomputable def trN (T : List (List Int)) (h : List Int) (x : Nat) : Nat → Nat
  | 0 => 0
  | i + 1 => mu T (trN T h x i) (stp T h x (rn (firsts T h) i).toNat)
theorem fr_lt {T : List (List Int)} {h : List Int} (H : HGood T h) {w : Nat} (hw : w < T.length) : (rn (nums T h) w).toNat < (firsts T h).length ∧ fr T h w < T.length ∧ rn (nums T h) w = ((rn (nums T h) w).toNat : Int) ∧ rn (firsts T h) (rn (nums T h) w).toNat = (fr T h w : Int) := by
  have h1 := nums_bd H w hw
  have h2 := (firsts_bd T h).2 (rn (nums T h) w).toNat (by omega)
  refine ⟨by omega, ?_, by omega, ?_⟩
  · simp only [fr]; omega
  · simp only [fr]; omega
theorem stp_lt {T : List (List Int)} {h : List Int} (H : HGood T h) {x t : Nat} (hx : x < T.length) (ht : t < T.length) : stp T h x t < T.length :=
  mu_lt H.1 (inv_spec H.1 (fr_lt H (mu_lt H.1 hx ht)).2.1).1 (mu_lt H.1 hx ht)
theorem fst_nat {T : List (List Int)} {h : List Int} {i : Nat} (hi : i < (firsts T h).length) : rn (firsts T h) i = ((rn (firsts T h) i).toNat : Int) ∧ (rn (firsts T h) i).toNat < T.length := by
  have := (firsts_bd T h).2 i hi
  omega
theorem trN_lt {T : List (List Int)} {h : List Int} (H : HGood T h) {x : Nat} (hx : x < T.length) : ∀ i ≤ (firsts T h).length, trN T h x i < T.length
  | 0, _ => zero_lt_len H.1
  | i + 1, hi => mu_lt H.1 (trN_lt H hx i (by omega)) (stp_lt H hx (fst_nat (by omega)).2)
def TGood (T : List (List Int)) (l : List Int) (c : Int) : Prop := (HGood T l ∧ 0 ≤ c ∧ c < T.length) ∧ (cenL (sbG T l)).length = l.length
open Classical in
noncomputable def tcode (T : List (List Int)) (l : List Int) (c : Int) : Int := if HGood T l ∧ 0 ≤ c ∧ c < T.length then 5 else cjcode T l c
end Go.Proofs.YtgklblkigjbggaaE
