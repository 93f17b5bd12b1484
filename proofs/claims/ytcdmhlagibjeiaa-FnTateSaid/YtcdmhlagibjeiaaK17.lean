/- Contracts of functions of the program and of the reference: what the evaluator gives for a call of each. -/
import Derived.Test.YtcdmhlagibjeiaaAEf
import Derived.Test.YtcdmhlagibjeiaaK0
import Derived.Test.YtcdmhlagibjeiaaK3
import Derived.Test.YtcdmhlagibjeiaaK15
import Derived.Test.YtcdmhlagibjeiaaK16
namespace Go.Proofs.YtcdmhlagibjeiaaE
open Go Go.Proofs
set_option maxHeartbeats 4000000
set_option maxRecDepth 2000
set_option linter.unusedSimpArgs false
set_option linter.unusedVariables false
set_option pp.deepTerms false
set_option pp.deepTerms.threshold 10
theorem pow_cast {N : Nat} (hN : 1 ≤ N) (d : Nat) : ((N : Int) - 1) ^ d = (((N - 1) ^ d : Nat) : Int) := by
  have : (N : Int) - 1 = ((N - 1 : Nat) : Int) := by omega
  rw [this, Int.natCast_pow]
theorem pow_bd {N : Nat} (hN : 1 ≤ N ∧ N ≤ 8) {d : Nat} (hd : d ≤ 4) : (N - 1) ^ d ≤ 2401 := by
  have := (cells_bd4 hN d hd).2
  rw [pow_cast hN.1] at this
  omega
def fillR (G : Nat → Int) (i n : Nat) : List Int := tabI G i ++ List.replicate (n - i) 0
@[simp] theorem fillR_len (G : Nat → Int) {i n : Nat} (h : i ≤ n) : (fillR G i n).length = n := by simp -implicitDefEqProofs (maxSteps := 3000000) [fillR]; omega
theorem fillR_zero (G : Nat → Int) (n : Nat) : fillR G 0 n = List.replicate n 0 := by simp -implicitDefEqProofs (maxSteps := 3000000) [fillR]
theorem fillR_all (G : Nat → Int) (n : Nat) : fillR G n n = tabI G n := by simp -implicitDefEqProofs (maxSteps := 3000000) [fillR]
theorem fillR_set (G : Nat → Int) {i n : Nat} (h : i < n) : (fillR G i n).set i (G i) = fillR G (i + 1) n := by
  unfold fillR
  rw [List.set_append_right _ _ (by simp -implicitDefEqProofs (maxSteps := 3000000)), tabI_len, Nat.sub_self, show n - i = (n - (i + 1)) + 1 by omega, List.replicate_succ, List.set_cons_zero, ← tabI_succ, List.append_assoc]
  rfl
structure CoOk (T : List (List Int)) (U V : List Int) (p : Nat) : Prop where
  R : RowsOk T
  e0 : ∀ a < T.length, cl T 0 a = a
  hU : U.length = T.length
  bU : ∀ i < U.length, 0 ≤ rn U i ∧ rn U i ≤ 11
  hV : (V.length : Int) = ((T.length : Int) - 1) ^ p
  bV : ∀ i < V.length, 0 ≤ rn V i ∧ rn V i ≤ 11
  hp : p ≤ 3
theorem CoOk.side {T : List (List Int)} {U V : List Int} {p : Nat} (S : CoOk T U V p) {i : Nat} (hi : i < (T.length - 1) ^ (p + 1)) : SideOk T U V (digs (T.length - 1) (p + 1) i) p :=
  ⟨S.R, S.e0, S.hU, S.bU, S.hV, S.bV, by simp, S.hp, digs_inG S.R.1.1 hi⟩
noncomputable def bnd1 (T : List (List Int)) (M : Int) (U V : List Int) (p i : Nat) : Int := sideV T U V (digs (T.length - 1) (p + 1) i) % M
noncomputable def bndL (T : List (List Int)) (M : Int) (U V : List Int) (p : Nat) : List Int := tabI (bnd1 T M U V p) ((T.length - 1) ^ (p + 1))
def IsCy (T : List (List Int)) (M : Int) (U V : List Int) (p : Nat) : Prop := ∀ i < (T.length - 1) ^ (p + 1), bnd1 T M U V p i = 0
theorem sideV_bd {T : List (List Int)} {U V l : List Int} {p : Nat} (S : SideOk T U V l p) : -200 < sideV T U V l ∧ sideV T U V l < 200 := by
  have h := sdA_bd (T := T) l S.bU S.bV (l.length - 1)
  have := sgn_mul (l.length - 1) (atv_bd (N := T.length) (l := l.take (l.length - 1)) (by omega) S.bV)
  have := S.hl
  have := S.hp
  unfold sideV
  omega
end Go.Proofs.YtcdmhlagibjeiaaE
