/- Contracts of functions of the program and of the reference: what the evaluator gives for a call of each. -/
import Derived.Test.YtgklblkigjbggaaGreatAEf
import Derived.Test.YtgklblkigjbggaaGreatK0
import Derived.Test.YtgklblkigjbggaaGreatK3
import Derived.Test.YtgklblkigjbggaaGreatK4
import Derived.Test.YtgklblkigjbggaaGreatK5
import Derived.Test.YtgklblkigjbggaaGreatK15
import Derived.Test.YtgklblkigjbggaaGreatK19
namespace Go.Proofs.YtgklblkigjbggaaGreatE
open Go Go.Proofs
set_option maxHeartbeats 4000000
set_option maxRecDepth 2000
set_option linter.unusedSimpArgs false
set_option linter.unusedVariables false
set_option pp.deepTerms false
set_option pp.deepTerms.threshold 10
/-! ## forms -/
noncomputable def fv (N : Nat) (V : List Int) (x y : Nat) : Int := atv N V [(x : Int), (y : Int)]
structure FOk (T : List (List Int)) (M : Int) (V : List Int) : Prop where
  G : IsGr T
  hM : 2 ≤ M ∧ M ≤ 12
  hV : (V.length : Int) = ((T.length : Int) - 1) ^ 2
  bV : ∀ i < V.length, 0 ≤ rn V i ∧ rn V i ≤ M - 1
theorem SGood.fok {T : List (List Int)} {M D : Int} {V : List Int} (h : SGood T M D V) : FOk T M V := by
  obtain ⟨h1, h2, h3, rfl, _⟩ := h
  exact ⟨h1, h2, by simpa [cellsOf_] using h3.2.1, h3.2.2⟩
theorem inG_pair {N x y : Nat} (hx : x < N) (hy : y < N) : InG N [(x : Int), (y : Int)] := fun i hi => by
  match i, hi with
  | 0, _ => simp -implicitDefEqProofs (maxSteps := 3000000) [rn]; omega
  | 1, _ => simp -implicitDefEqProofs (maxSteps := 3000000) [rn]; omega
theorem fv_bd {T : List (List Int)} {M : Int} {V : List Int} (S : FOk T M V) (x y : Nat) : 0 ≤ fv T.length V x y ∧ fv T.length V x y ≤ M - 1 :=
  atv_bd (by have := S.hM; omega) S.bV
theorem ct_at2 (n : Nat) (hn : B + 3 ≤ n) (T : List (List Int)) (M D : Int) (V : List Int) (S : FOk T M V) (x y : Nat) (hx : x < T.length) (hy : y < T.length) :
    evalCall Tryz.prog An n 88 [.agg [.d (.int .i64 D), .d (ints V)], .agg [.d (intss T)], .d (.sl 1 [.int .i64 x, .int .i64 y])] [] = some ⟨.d (.int .i64 (fv T.length V x y)), [], []⟩ :=
  ct_at n hn T S.G.1.1 D V [(x : Int), (y : Int)] (by simp -implicitDefEqProofs (maxSteps := 3000000)) (by simpa using S.hV) (inG_pair hx hy)
theorem ct_l03At2 (n : Nat) (hn : B + 2 ≤ n) (T : List (List Int)) (M D : Int) (V : List Int) (S : FOk T M V) (x y : Nat) (hx : x < T.length) (hy : y < T.length) :
    evalCall Tryz.prog An n 81 [.agg [.d (intss T)], .agg [.d (.int .i64 D), .d (ints V)], .d (.sl 1 [.int .i64 x, .int .i64 y])] [] = some ⟨.d (.int .i64 (fv T.length V x y)), [], []⟩ :=
  ct_l03At n hn T S.G.1.1 D V [(x : Int), (y : Int)] (by simp -implicitDefEqProofs (maxSteps := 3000000)) (by simpa using S.hV) (inG_pair hx hy)
noncomputable def frm (N : Nat) (M : Int) (V : List Int) (x y : Nat) : Int := (fv N V x y - fv N V y x) % M
theorem frm_0 {T : List (List Int)} {M : Int} {V : List Int} (S : FOk T M V) (x y : Nat) : frm T.length M V x y = 0 ↔ fv T.length V x y = fv T.length V y x := by
  have a := fv_bd S x y
  have b := fv_bd S y x
  have hM := S.hM
  unfold frm
  constructor
  · intro h
    rcases Int.le_total (fv T.length V y x) (fv T.length V x y) with z | z
    · rw [Int.emod_eq_of_lt (by omega) (by omega)] at h; omega
    · have : (fv T.length V x y - fv T.length V y x) % M = (fv T.length V x y - fv T.length V y x + M) % M := by rw [Int.add_emod_right]
      rw [this] at h
      by_cases e : fv T.length V x y = fv T.length V y x
      · exact e
      · rw [Int.emod_eq_of_lt (by omega) (by omega)] at h; omega
  · intro h
    rw [h, Int.sub_self, Int.zero_emod]
theorem ct_formAt (n : Nat) (hn : B + 4 ≤ n) (T : List (List Int)) (M D : Int) (V : List Int) (S : FOk T M V) (x y : Nat) (hx : x < T.length) (hy : y < T.length) :
    evalCall Tryz.prog An n 191 [.agg [.d (intss T)], .d (.int .i64 M), .agg [.d (.int .i64 D), .d (ints V)], .d (.int .i64 x), .d (.int .i64 y)] [] = some ⟨.d (.int .i64 (frm T.length M V x y)), [], []⟩ := by
  obtain ⟨m, rfl⟩ : ∃ m, n = m + 1 := ⟨n - 1, by omega⟩
  have hB := B_eq
  simp only [evalCall_at, fb191, bnd_some, bodyOf, Tryz.f191, Option.getD_some]
  have c1 := ct_at2 m (by omega) T M D V S x y hx hy
  have c2 := ct_at2 m (by omega) T M D V S y x hy hx
  have a := fv_bd S x y
  have b := fv_bd S y x
  have hM := S.hM
  have w1 := wrap_id (n := fv T.length V x y - fv T.length V y x) (by omega)
  have w2 := wrap_id (n := fv T.length V x y - fv T.length V y x + M) (by omega)
  have e : (fv T.length V x y - fv T.length V y x + M).tmod M = frm T.length M V x y := by
    rw [tmod_nn M (by omega), Int.add_emod_right]; rfl
  have hz : M ≠ 0 := by omega
  simp -implicitDefEqProofs (maxSteps := 3000000) [c1, c2, w1, w2, e, hz]
/-! ## IsSymmetric -/
def IsSym (T : List (List Int)) (V : List Int) : Prop := ∀ x < T.length, ∀ y < T.length, fv T.length V x y = fv T.length V y x
theorem isSym_half {T : List (List Int)} {V : List Int} : IsSym T V ↔ ∀ x < T.length, ∀ y < x, fv T.length V x y = fv T.length V y x := by
  constructor
  · intro h x hx y hy; exact h x hx y (by omega)
  · intro h x hx y hy
    rcases Nat.lt_trichotomy x y with z | z | z
    · exact (h y hy x z).symm
    · rw [z]
    · exact h x hx y z
end Go.Proofs.YtgklblkigjbggaaGreatE
