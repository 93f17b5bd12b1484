/- Contracts of functions of the program and of the reference: what the evaluator gives for a call of each. -/
import Derived.Test.YtgklblkigjbggaaAEf
import Derived.Test.YtgklblkigjbggaaK0
import Derived.Test.YtgklblkigjbggaaK5
import Derived.Test.YtgklblkigjbggaaK15
import Derived.Test.YtgklblkigjbggaaK17
import Derived.Test.YtgklblkigjbggaaK35
import Derived.Test.YtgklblkigjbggaaK56
namespace Go.Proofs.YtgklblkigjbggaaE
open Go Go.Proofs
set_option maxHeartbeats 4000000
set_option maxRecDepth 4000
set_option linter.unusedSimpArgs false
set_option linter.unusedVariables false
set_option pp.deepTerms false
set_option pp.deepTerms.threshold 10
/-! ## TransferCochain: the reference and the program -/
theorem ct_l03Zero (n : Nat) (hn : B + 3 ≤ n) (T : List (List Int)) (hT : 1 ≤ T.length ∧ T.length ≤ 8) (d : Nat) (hD : d ≤ 3) :
    evalCall Try.prog An n 35 [.agg [.d (intss T)], .d (.int .i64 d)] [] = some ⟨.agg [.d (.int .i64 d), .own 0 0], [.row (icells (List.replicate ((T.length - 1) ^ d) 0))], []⟩ := by
  obtain ⟨m, rfl⟩ : ∃ m, n = m + 1 := ⟨n - 1, by omega⟩
  have hB := B_eq
  simp only [evalCall_at, fb35, bnd_some, bodyOf, Try.f35, Option.getD_some]
  have c1 := ct_l03Cells m (by omega) T hT d (by omega)
  have ec : cellsOf_ T.length d = (((T.length - 1) ^ d : Nat) : Int) := by rw [cellsOf_, Int.toNat_natCast, pow_cast hT.1]
  rw [ec] at c1
  have b := pow_bd hT (show d ≤ 4 by omega)
  generalize (T.length - 1) ^ d = K at *
  have k1 : (K : Int) ≤ 1099511627776 := by omega
  simp -implicitDefEqProofs (maxSteps := 3000000) [c1, k1]
theorem digs1 {b i : Nat} (hi : i < b) : digs b 1 i = [((i + 1 : Nat) : Int)] := by
  simp -implicitDefEqProofs (maxSteps := 3000000) [digs, tabI, dig, Nat.mod_eq_of_lt hi]
  omega
theorem digs0 (b i : Nat) : digs b 0 i = [] := rfl
theorem trS_0 (T : List (List Int)) (U V h : List Int) (x y : Nat) : ∀ i, trS T U V h x 0 i = trS T U V h y 0 i
  | 0 => rfl
  | i + 1 => by simp only [trS, trS_0 T U V h x y i, trT, if_pos]
noncomputable def trF (T : List (List Int)) (U V h : List Int) (l : List Int) : Int := trS T U V h (rn l 0).toNat l.length (firsts T h).length
theorem trF_digs {T : List (List Int)} {M : Int} {U V h : List Int} {p : Nat} (S : TrOk T M U V h p) {i : Nat} (hi : i < (T.length - 1) ^ p) : trF T U V h (digs (T.length - 1) p i) = trS T U V h (i + 1) p (firsts T h).length := by
  have hp := S.hp
  rcases Nat.eq_zero_or_pos p with rfl | z
  · rw [digs0, trF]; exact trS_0 T U V h _ _ _
  · obtain rfl : p = 1 := by omega
    rw [digs1 (by simpa using hi), trF]
    rfl
end Go.Proofs.YtgklblkigjbggaaE
