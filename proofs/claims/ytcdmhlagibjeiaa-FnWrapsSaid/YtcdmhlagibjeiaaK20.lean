/- Contracts of functions of the program and of the reference: what the evaluator gives for a call of each. -/
import Derived.Test.YtcdmhlagibjeiaaAEf
import Derived.Test.YtcdmhlagibjeiaaK0
import Derived.Test.YtcdmhlagibjeiaaK3
import Derived.Test.YtcdmhlagibjeiaaK5
import Derived.Test.YtcdmhlagibjeiaaK15
import Derived.Test.YtcdmhlagibjeiaaK19
namespace Go.Proofs.YtcdmhlagibjeiaaE
open Go Go.Proofs
set_option maxHeartbeats 4000000
set_option maxRecDepth 2000
set_option linter.unusedSimpArgs false
set_option linter.unusedVariables false
set_option pp.deepTerms false
set_option pp.deepTerms.threshold 10
/-! ## forms -/
noncomputable def fv (N : Nat) (V : List Int) (x y : Nat) : Int := atv N V [(x : Int), (y : Int)]
structure FOk (T : List (List Int)) (M : Int) (V : List Int) : Prop where
  G : IsGr T
  hM : 2 ≤ M ∧ M ≤ 12
  hV : (V.length : Int) = ((T.length : Int) - 1) ^ 2
  bV : ∀ i < V.length, 0 ≤ rn V i ∧ rn V i ≤ M - 1
theorem SGood.fok {T : List (List Int)} {M D : Int} {V : List Int} (h : SGood T M D V) : FOk T M V := by
  obtain ⟨h1, h2, h3, rfl, _⟩ := h
  exact ⟨h1, h2, by simpa [cellsOf_] using h3.2.1, h3.2.2⟩
theorem inG_pair {N x y : Nat} (hx : x < N) (hy : y < N) : InG N [(x : Int), (y : Int)] := fun i hi => by
  match i, hi with
  | 0, _ => simp -implicitDefEqProofs (maxSteps := 3000000) [rn]; omega
  | 1, _ => simp -implicitDefEqProofs (maxSteps := 3000000) [rn]; omega
theorem fv_bd {T : List (List Int)} {M : Int} {V : List Int} (S : FOk T M V) (x y : Nat) : 0 ≤ fv T.length V x y ∧ fv T.length V x y ≤ M - 1 :=
  atv_bd (by have := S.hM; omega) S.bV
theorem ct_at2 (n : Nat) (hn : B + 3 ≤ n) (T : List (List Int)) (M D : Int) (V : List Int) (S : FOk T M V) (x y : Nat) (hx : x < T.length) (hy : y < T.length) :
    evalCall Try.prog An n 99 [.agg [.d (.int .i64 D), .d (ints V)], .agg [.d (intss T)], .d (.sl 1 [.int .i64 x, .int .i64 y])] [] = some ⟨.d (.int .i64 (fv T.length V x y)), [], []⟩ :=
  ct_at n hn T S.G.1.1 D V [(x : Int), (y : Int)] (by simp -implicitDefEqProofs (maxSteps := 3000000)) (by simpa using S.hV) (inG_pair hx hy)
noncomputable def frm (N : Nat) (M : Int) (V : List Int) (x y : Nat) : Int := (fv N V x y - fv N V y x) % M
theorem frm_0 {T : List (List Int)} {M : Int} {V : List Int} (S : FOk T M V) (x y : Nat) : frm T.length M V x y = 0 ↔ fv T.length V x y = fv T.length V y x := by
  have a := fv_bd S x y
  have b := fv_bd S y x
  have hM := S.hM
  unfold frm
  constructor
  · intro h
    rcases Int.le_total (fv T.length V y x) (fv T.length V x y) with z | z
    · rw [Int.emod_eq_of_lt (by omega) (by omega)] at h; omega
    · have : (fv T.length V x y - fv T.length V y x) % M = (fv T.length V x y - fv T.length V y x + M) % M := by rw [Int.add_emod_right]
      rw [this] at h
      by_cases e : fv T.length V x y = fv T.length V y x
      · exact e
      · rw [Int.emod_eq_of_lt (by omega) (by omega)] at h; omega
  · intro h
    rw [h, Int.sub_self, Int.zero_emod]
def IsSym (T : List (List Int)) (V : List Int) : Prop := ∀ x < T.length, ∀ y < T.length, fv T.length V x y = fv T.length V y x
theorem isSym_half {T : List (List Int)} {V : List Int} : IsSym T V ↔ ∀ x < T.length, ∀ y < x, fv T.length V x y = fv T.length V y x := by
  constructor
  · intro h x hx y hy; exact h x hx y (by omega)
  · intro h x hx y hy
    rcases Nat.lt_trichotomy x y with z | z | z
    · exact (h y hy x z).symm
    · rw [z]
    · exact h x hx y z
end Go.Proofs.YtcdmhlagibjeiaaE
