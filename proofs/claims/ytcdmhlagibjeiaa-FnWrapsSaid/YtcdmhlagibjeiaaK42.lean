/- Contracts of functions of the program and of the reference: what the evaluator gives for a call of each. -/
import Derived.Test.YtcdmhlagibjeiaaAEf
import Derived.Test.YtcdmhlagibjeiaaK0
import Derived.Test.YtcdmhlagibjeiaaK7
import Derived.Test.YtcdmhlagibjeiaaK21
import Derived.Test.YtcdmhlagibjeiaaK28
import Derived.Test.YtcdmhlagibjeiaaK33
import Derived.Test.YtcdmhlagibjeiaaK34
namespace Go.Proofs.YtcdmhlagibjeiaaE
open Go Go.Proofs
set_option maxHeartbeats 4000000
set_option maxRecDepth 4000
set_option linter.unusedSimpArgs false
set_option linter.unusedVariables false
set_option pp.deepTerms false
set_option pp.deepTerms.threshold 10
/-! ## the group of a subgroup -/
open Classical in
noncomputable def pl (l : List Int) (x : Nat) : Nat := if h : ∃ j < l.length, rn l j = x then Classical.choose h else 0
theorem pl_spec {l : List Int} {x : Nat} (h : (x : Int) ∈ l) : pl l x < l.length ∧ rn l (pl l x) = x := by
  have e : ∃ j < l.length, rn l j = x := mem_rn.1 h
  rw [pl, dif_pos e]
  exact Classical.choose_spec e
theorem nodup_rn {l : List Int} (hd : l.Nodup) {i j : Nat} (hi : i < l.length) (hj : j < l.length) (h : rn l i = rn l j) : i = j := by
  rw [rn_get hi, rn_get hj] at h
  rw [List.nodup_iff_pairwise_ne, List.pairwise_iff_getElem] at hd
  rcases Nat.lt_trichotomy i j with z | z | z
  · exact absurd h (hd i j hi hj z)
  · exact z
  · exact absurd h.symm (hd j i hj hi z)
theorem pl_uniq {l : List Int} (hd : l.Nodup) {x j : Nat} (hj : j < l.length) (h : rn l j = x) : j = pl l x := by
  have := pl_spec (mem_rn.2 ⟨j, hj, h⟩)
  exact nodup_rn hd hj this.1 (by rw [h, this.2])
theorem ct_IndexP (n : Nat) (hn : B + 1 ≤ n) (l : List Int) (hl : l.length ≤ 1000000) (hd : l.Nodup) (x : Nat) (hx0 : (x : Int) ∈ l) :
    evalCall Try.prog An n 100 [.d (ints l), .d (.int .i64 x)] [] = some ⟨.d (.int .i64 (pl l x)), [], []⟩ := by
  have hp := pl_spec hx0
  rcases ct_Index n hn l x (by omega) with ⟨h1, c⟩ | ⟨j, ⟨h1, h2⟩, c⟩
  · exact absurd hp.2 (h1 _ hp.1)
  · rw [c, pl_uniq hd h1 h2]
noncomputable def sbE (T : List (List Int)) (h : List Int) (i k : Nat) : Int := pl h (mu T (rn h i).toNat (rn h k).toNat)
noncomputable def sbR (T : List (List Int)) (h : List Int) (i : Nat) : List Int := tabI (sbE T h i) h.length
noncomputable def sbG (T : List (List Int)) (h : List Int) : List (List Int) := tabM (sbR T h) h.length
theorem sb_mem {T : List (List Int)} {h : List Int} (H : HGood T h) {i k : Nat} (hi : i < h.length) (hk : k < h.length) : (mu T (rn h i).toNat (rn h k).toNat : Int) ∈ h := by
  have r1 := H.2.1.1 i hi
  have r2 := H.2.1.1 k hk
  have := H.2.2.2 (rn h i).toNat (rn h k).toNat (by rw [Int.toNat_of_nonneg r1.1]; exact mem_rn.2 ⟨i, hi, rfl⟩) (by rw [Int.toNat_of_nonneg r2.1]; exact mem_rn.2 ⟨k, hk, rfl⟩)
  rwa [(mu_cl H.1.1 (by omega) (by omega)).1] at this
end Go.Proofs.YtcdmhlagibjeiaaE
