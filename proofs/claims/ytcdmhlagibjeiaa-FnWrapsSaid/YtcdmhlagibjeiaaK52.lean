/- Contracts of functions of the program and of the reference: what the evaluator gives for a call of each. -/
import Derived.Test.YtcdmhlagibjeiaaAEf
import Derived.Test.YtcdmhlagibjeiaaK0
import Derived.Test.YtcdmhlagibjeiaaK5
import Derived.Test.YtcdmhlagibjeiaaK15
import Derived.Test.YtcdmhlagibjeiaaK17
namespace Go.Proofs.YtcdmhlagibjeiaaE
open Go Go.Proofs
set_option maxHeartbeats 4000000
set_option maxRecDepth 4000
set_option linter.unusedSimpArgs false
set_option linter.unusedVariables false
set_option pp.deepTerms false
set_option pp.deepTerms.threshold 10
/-! ## cochains pulled back along images -/
def imL (im l : List Int) : List Int := tabI (fun k => rn im (rn l k).toNat) l.length
@[simp] theorem imL_len (im l : List Int) : (imL im l).length = l.length := by simp -implicitDefEqProofs (maxSteps := 3000000) [imL]
theorem imL_inG {Q : Nat} {im l : List Int} (h : ∀ j < im.length, 0 ≤ rn im j ∧ rn im j < Q) (hl : ∀ k < l.length, 0 ≤ rn l k ∧ rn l k < im.length) : InG Q (imL im l) := fun k hk => by
  have hk' : k < l.length := by simpa using hk
  have e : rn (imL im l) k = rn im (rn l k).toNat := rn_tabI _ hk'
  have := hl k hk'
  have := h (rn l k).toNat (by omega)
  omega
noncomputable def pulV (N Q : Nat) (V im : List Int) (p i : Nat) : Int := atv Q V (imL im (digs (N - 1) p i))
noncomputable def pulW (N Q : Nat) (V im : List Int) (p : Nat) : List Int := tabI (pulV N Q V im p) ((N - 1) ^ p)
structure PulOk (N Q : Nat) (M : Int) (V im : List Int) (p : Nat) : Prop where
  hN : 1 ≤ N ∧ N ≤ 8
  hQ : 1 ≤ Q ∧ Q ≤ 8
  hp : p ≤ 3
  hM : 2 ≤ M ∧ M ≤ 12
  hV : (V.length : Int) = ((Q : Int) - 1) ^ p
  bV : ∀ i < V.length, 0 ≤ rn V i ∧ rn V i ≤ M - 1
  hi : im.length = N
  bi : ∀ i < im.length, 0 ≤ rn im i ∧ rn im i < Q
theorem PulOk.dg {N Q : Nat} {M : Int} {V im : List Int} {p : Nat} (S : PulOk N Q M V im p) {i : Nat} (h : i < (N - 1) ^ p) : InG N (digs (N - 1) p i) := digs_inG S.hN.1 h
theorem PulOk.inG {N Q : Nat} {M : Int} {V im : List Int} {p : Nat} (S : PulOk N Q M V im p) {i : Nat} (h : i < (N - 1) ^ p) : InG Q (imL im (digs (N - 1) p i)) := imL_inG S.bi fun k hk => by
  have := S.dg h k hk
  rw [S.hi]; exact this
theorem PulOk.bd {N Q : Nat} {M : Int} {V im : List Int} {p : Nat} (S : PulOk N Q M V im p) (i : Nat) : 0 ≤ pulV N Q V im p i ∧ pulV N Q V im p i ≤ M - 1 := atv_bd (by have := S.hM; omega) S.bV
theorem pulW_bd {N Q : Nat} {M : Int} {V im : List Int} {p : Nat} (S : PulOk N Q M V im p) : (pulW N Q V im p).length ≤ 343 := by
  have := pow_bd S.hN (show p ≤ 4 by have := S.hp; omega)
  have := (cells_bd S.hN p S.hp).2
  rw [pow_cast S.hN.1] at this
  simp only [pulW, tabI_len]
  omega
theorem imL_succ (im l : List Int) {k : Nat} (hk : k < l.length) : (tabI (fun j => rn im (rn l j).toNat) k ++ l.drop k).set k (rn im (rn l k).toNat) = tabI (fun j => rn im (rn l j).toNat) (k + 1) ++ l.drop (k + 1) := by
  rw [List.set_append_right _ _ (by simp -implicitDefEqProofs (maxSteps := 3000000)), tabI_len, Nat.sub_self, List.drop_eq_getElem_cons hk, List.set_cons_zero, ← tabI_succ, List.append_assoc]
  rfl
def imA (im l : List Int) (k : Nat) : List Int := tabI (fun j => rn im (rn l j).toNat) k ++ l.drop k
theorem imA_len (im l : List Int) {k : Nat} (hk : k ≤ l.length) : (imA im l k).length = l.length := by simp -implicitDefEqProofs (maxSteps := 3000000) [imA]; omega
theorem imA_zero (im l : List Int) : imA im l 0 = l := by simp -implicitDefEqProofs (maxSteps := 3000000) [imA]
theorem imA_all (im l : List Int) : imA im l l.length = imL im l := by simp -implicitDefEqProofs (maxSteps := 3000000) [imA, imL]
theorem imA_set (im l : List Int) {k : Nat} (hk : k < l.length) : (imA im l k).set k (rn im (rn l k).toNat) = imA im l (k + 1) := imL_succ im l hk
theorem imA_rn (im l : List Int) {k : Nat} (hk : k < l.length) : rn (imA im l k) k = rn l k := by
  simp only [imA, rn, List.getD, List.getElem?_append, tabI_len, Nat.lt_irrefl, if_false, Nat.sub_self, List.getElem?_drop, Nat.add_zero]
end Go.Proofs.YtcdmhlagibjeiaaE
