/- Contracts of functions of the program and of the reference: what the evaluator gives for a call of each. -/
import Derived.Test.YtnfhglplafmfiaaGreatAEf
import Derived.Test.YtnfhglplafmfiaaGreatK1M
import Derived.Test.YtnfhglplafmfiaaGreatK31
import Derived.Test.YtnfhglplafmfiaaGreatK90M
namespace Go.Proofs.YtnfhglplafmfiaaGreatE
open Go Go.Proofs
set_option maxHeartbeats 4000000
set_option maxRecDepth 4000
set_option linter.unusedSimpArgs false
set_option linter.unusedVariables false
/-! ## rows put to rows -/
theorem Zb.le {v : List Int} {k k' : Nat} (h : Zb v k) (hk : k' ≤ k) : Zb v k' := fun i hi => h i (by omega)
theorem rown_setD {R : List (List Int)} {j : Nat} (hj : j < R.length) (r : List Int) (i : Nat) : rown (R.set j r) i = if i = j then r else rown R i := by
  unfold rown
  rw [List.getD_eq_getElem?_getD, List.getD_eq_getElem?_getD, List.getElem?_set]
  by_cases h : j = i
  · subst h; simp -implicitDefEqProofs (maxSteps := 3000000) [hj]
  · have h' : ¬ i = j := fun e => h e.symm
    simp -implicitDefEqProofs (maxSteps := 3000000) [h, h']
theorem vec_ne {m : Int} {N j : Nat} {v : List Int} (hv : Vec m N v) (hj : j < N) : v ≠ [] := by
  intro e; rw [e] at hv; have := hv.1; simp -implicitDefEqProofs (maxSteps := 3000000) at this; omega
/-- A row that cannot take part any more goes. -/
theorem put_zero {m : Int} {N : Nat} {R T : List (List Int)} {v : List Int} (S : Sat m N R (T ++ [v])) (hv : ∀ i, rn v i = 0) :
    Sat m N R T ∧ ∀ u, Sp m (GA R T 0) u ↔ Sp m (GA R (T ++ [v]) 0) u := by
  have key : ∀ k g, GA R (T ++ [v]) k g → Sp m (GA R T k) g := by
    rintro k g (hg | ⟨w, hw, hz, rfl⟩)
    · exact .gen (.inl hg)
    · rcases List.mem_append.1 hw with h | h
      · exact .gen (.inr ⟨w, h, hz, rfl⟩)
      · obtain rfl : w = v := by simpa using h
        exact .zero fun i => by rw [hv i]; exact Int.dvd_zero _
  refine ⟨⟨S.rws, fun w hw => S.vec w (List.mem_append_left _ hw), fun j hj => (S.sat j hj).trans (key _)⟩, fun u => ⟨fun h => h.mono ?_, fun h => h.trans (key 0)⟩⟩
  rintro g (hg | ⟨w, hw, hz, rfl⟩)
  · exact .inl hg
  · exact .inr ⟨w, List.mem_append_left _ hw, hz, rfl⟩
/-- A row is made shorter by one that stands. -/
theorem put_red {m : Int} {N : Nat} {R T : List (List Int)} {v v' : List Int} {j : Nat} (S : Sat m N R (T ++ [v])) (hne : rown R j ≠ []) (hz : Zb v j) (h0 : rn v j ≠ 0) (hv' : Vec m N v') (hz' : Zb v' (j + 1)) {c : Int}
    (h : ∀ i, m ∣ rn v' i - (rn v i + c * rn (rown R j) i)) : Sat m N R (T ++ [v']) ∧ ∀ u, Sp m (GA R (T ++ [v']) 0) u ↔ Sp m (GA R (T ++ [v]) 0) u := by
  have key : ∀ k g, GA R (T ++ [v]) k g → Sp m (GA R (T ++ [v']) k) g := by
    rintro k g (hg | ⟨w, hw, hzw, rfl⟩)
    · exact .gen (.inl hg)
    · rcases List.mem_append.1 hw with hm | hm
      · exact .gen (.inr ⟨w, List.mem_append_left _ hm, hzw, rfl⟩)
      · obtain rfl : w = v := by simpa using hm
        have hk : k ≤ j := by
          rcases Nat.lt_or_ge j k with z | z
          · exact absurd (hzw j z) h0
          · exact z
        refine Sp.comb 1 (-c) (.gen (.inr ⟨v', List.mem_append_right _ (by simp -implicitDefEqProofs (maxSteps := 3000000)), hz'.le (by omega), rfl⟩)) (.gen (.inl ⟨j, hk, hne, rfl⟩)) fun i => ?_
        have := Int.dvd_neg.2 (h i)
        rwa [show -(rn v' i - (rn w i + c * rn (rown R j) i)) = rn w i - (1 * rn v' i + -c * rn (rown R j) i) by grind] at this
  have back : ∀ g, GA R (T ++ [v']) 0 g → Sp m (GA R (T ++ [v]) 0) g := by
    rintro g (hg | ⟨w, hw, hzw, rfl⟩)
    · exact .gen (.inl hg)
    · rcases List.mem_append.1 hw with hm | hm
      · exact .gen (.inr ⟨w, List.mem_append_left _ hm, hzw, rfl⟩)
      · obtain rfl : w = v' := by simpa using hm
        exact Sp.comb 1 c (.gen (.inr ⟨v, List.mem_append_right _ (by simp -implicitDefEqProofs (maxSteps := 3000000)), Zb.zero v, rfl⟩)) (.gen (.inl ⟨j, by omega, hne, rfl⟩)) fun i => by rw [Int.one_mul]; exact h i
  refine ⟨⟨S.rws, fun w hw => ?_, fun i hi => (S.sat i hi).trans (key _)⟩, fun u => ⟨fun h => h.trans back, fun h => h.trans (key 0)⟩⟩
  rcases List.mem_append.1 hw with hm | hm
  · exact S.vec w (List.mem_append_left _ hm)
  · obtain rfl : w = v' := by simpa using hm
    exact hv'
/-- A row and one that stands are mixed. -/
theorem put_gen {m : Int} {N : Nat} {R T X : List (List Int)} {v next : List Int} {j : Nat} (hj : j < N) (S : Sat m N R (T ++ [v])) (h0 : rn v j ≠ 0) (hn : Vec m N next) (hnz : Zb next j) (hnp : 0 < rn next j) (hnd : rn next j ∣ m)
    (hX : ∀ w ∈ X, Vec m N w ∧ Zb w (j + 1)) (h1 : rown R j ≠ [] → Sp m (fun g => g = rn next ∨ ∃ w ∈ X, g = rn w) (rn (rown R j))) (h2 : Sp m (fun g => g = rn next ∨ ∃ w ∈ X, g = rn w) (rn v))
    (h3 : Sp m (fun g => ∃ w ∈ X, g = rn w) (fun i => m / rn next j * rn next i)) (h4 : ∀ g, (g = rn next ∨ ∃ w ∈ X, g = rn w) → Sp m (fun g => (rown R j ≠ [] ∧ g = rn (rown R j)) ∨ g = rn v) g) :
    Sat m N (R.set j next) (T ++ X) ∧ ∀ u, Sp m (GA (R.set j next) (T ++ X) 0) u ↔ Sp m (GA R (T ++ [v]) 0) u := by
  have hjl : j < R.length := by rw [S.rws.len]; exact hj
  have hnn := vec_ne hn hj
  have rs := rown_setD hjl next
  have rj : rown (R.set j next) j = next := by rw [rs]; simp -implicitDefEqProofs (maxSteps := 3000000)
  have up : ∀ k, k ≤ j → ∀ g, (g = rn next ∨ ∃ w ∈ X, g = rn w) → GA (R.set j next) (T ++ X) k g := by
    rintro k hk g (rfl | ⟨w, hw, rfl⟩)
    · exact .inl ⟨j, hk, by rw [rj]; exact hnn, by rw [rj]⟩
    · exact .inr ⟨w, List.mem_append_right _ hw, (hX w hw).2.le (by omega), rfl⟩
  have key : ∀ k g, GA R (T ++ [v]) k g → Sp m (GA (R.set j next) (T ++ X) k) g := by
    rintro k g (⟨i, hi, hne, rfl⟩ | ⟨w, hw, hzw, rfl⟩)
    · by_cases e : i = j
      · subst e
        exact (h1 hne).mono (up k hi)
      · exact .gen (.inl ⟨i, hi, by rw [rs, if_neg e]; exact hne, by rw [rs, if_neg e]⟩)
    · rcases List.mem_append.1 hw with hm | hm
      · exact .gen (.inr ⟨w, List.mem_append_left _ hm, hzw, rfl⟩)
      · obtain rfl : w = v := by simpa using hm
        have hk : k ≤ j := by
          rcases Nat.lt_or_ge j k with z | z
          · exact absurd (hzw j z) h0
          · exact z
        exact h2.mono (up k hk)
  have down : ∀ g, ((rown R j ≠ [] ∧ g = rn (rown R j)) ∨ g = rn v) → GA R (T ++ [v]) 0 g := by
    rintro g (⟨hne, rfl⟩ | rfl)
    · exact .inl ⟨j, by omega, hne, rfl⟩
    · exact .inr ⟨v, List.mem_append_right _ (by simp -implicitDefEqProofs (maxSteps := 3000000)), Zb.zero v, rfl⟩
  have back : ∀ g, GA (R.set j next) (T ++ X) 0 g → Sp m (GA R (T ++ [v]) 0) g := by
    rintro g (⟨i, hi, hne, rfl⟩ | ⟨w, hw, hzw, rfl⟩)
    · by_cases e : i = j
      · subst e
        rw [rj]
        exact (h4 _ (.inl rfl)).mono down
      · rw [rs, if_neg e] at hne ⊢
        exact .gen (.inl ⟨i, hi, hne, rfl⟩)
    · rcases List.mem_append.1 hw with hm | hm
      · exact .gen (.inr ⟨w, List.mem_append_left _ hm, hzw, rfl⟩)
      · exact (h4 _ (.inr ⟨w, hm, rfl⟩)).mono down
  refine ⟨⟨⟨by rw [List.length_set]; exact S.rws.len, fun i hi => ?_⟩, fun w hw => ?_, fun i hi => ?_⟩, fun u => ⟨fun h => h.trans back, fun h => h.trans (key 0)⟩⟩
  · rw [rs] at hi ⊢
    by_cases e : i = j
    · subst e
      simp only [if_true]
      exact ⟨hn, hnz, hnp, hnd⟩
    · rw [if_neg e] at hi ⊢
      exact S.rws.row i hi
  · rcases List.mem_append.1 hw with hm | hm
    · exact S.vec w (List.mem_append_left _ hm)
    · exact (hX w hm).1
  · rw [rs] at hi ⊢
    by_cases e : i = j
    · subst e
      simp only [if_true]
      refine h3.mono ?_
      rintro g ⟨w, hw, rfl⟩
      exact .inr ⟨w, List.mem_append_right _ hw, (hX w hw).2, rfl⟩
    · rw [if_neg e] at hi ⊢
      exact (S.sat i hi).trans (key _)
/-! ## combinations -/
def cmb (m x : Int) (a : List Int) (y : Int) (b : List Int) : List Int := tabI (fun i => (x * rn a i + y * rn b i) % m) a.length
theorem rn_ge {l : List Int} {i : Nat} (h : l.length ≤ i) : rn l i = 0 := by simp -implicitDefEqProofs (maxSteps := 3000000) [rn, List.getD, h]
theorem cmb_len (m x : Int) (a : List Int) (y : Int) (b : List Int) : (cmb m x a y b).length = a.length := by simp -implicitDefEqProofs (maxSteps := 3000000) [cmb]
theorem cmb_get {m x y : Int} {a b : List Int} {i : Nat} (hi : i < a.length) : rn (cmb m x a y b) i = (x * rn a i + y * rn b i) % m := rn_tabI _ hi
theorem cmb_vec {m : Int} (hm : 0 < m) {N : Nat} {x y : Int} {a b : List Int} (ha : a.length = N) : Vec m N (cmb m x a y b) := by
  refine ⟨by rw [cmb_len, ha], fun i => ?_⟩
  rcases Nat.lt_or_ge i a.length with z | z
  · rw [cmb_get z]; exact ⟨Int.emod_nonneg _ (by omega), Int.emod_lt_of_pos _ hm⟩
  · rw [rn_ge (by rw [cmb_len]; exact z)]; omega
theorem cmb_dvd {m : Int} {N : Nat} {x y : Int} {a b : List Int} (ha : a.length = N) (hb : b.length = N) (i : Nat) : m ∣ rn (cmb m x a y b) i - (x * rn a i + y * rn b i) := by
  rcases Nat.lt_or_ge i a.length with z | z
  · rw [cmb_get z]
    exact ⟨-((x * rn a i + y * rn b i) / m), by have := Int.emod_add_mul_ediv (x * rn a i + y * rn b i) m; rw [Int.mul_neg]; omega⟩
  · rw [rn_ge (by rw [cmb_len]; exact z), rn_ge z, rn_ge (by omega)]; simp -implicitDefEqProofs (maxSteps := 3000000)
theorem cmb_zb {m x y : Int} {a b : List Int} {k : Nat} (ha : Zb a k) (hb : Zb b k) : Zb (cmb m x a y b) k := by
  intro i hi
  rcases Nat.lt_or_ge i a.length with z | z
  · rw [cmb_get z, ha i hi, hb i hi]; simp -implicitDefEqProofs (maxSteps := 3000000)
  · exact rn_ge (by rw [cmb_len]; exact z)
theorem cmb_at {m x y d : Int} {a b : List Int} {j : Nat} (hj : j < a.length) (h : m ∣ x * rn a j + y * rn b j - d) (h0 : 0 ≤ d) (h1 : d < m) : rn (cmb m x a y b) j = d := by
  rw [cmb_get hj]
  obtain ⟨t, ht⟩ := h
  rw [show x * rn a j + y * rn b j = d + m * t by omega, Int.add_mul_emod_self_left, Int.emod_eq_of_lt h0 h1]
theorem Zb.succ {v : List Int} {k : Nat} (h : Zb v k) (h0 : rn v k = 0) : Zb v (k + 1) := fun i hi => by
  rcases Nat.lt_or_ge i k with z | z
  · exact h i z
  · obtain rfl : i = k := by omega
    exact h0
/-- The program's way to mix: two rows by a common divisor, what remains of both, and the multiple that is 0 there. -/
theorem put_mix {m : Int} {N : Nat} {R T : List (List Int)} {v old : List Int} {j : Nat} {x y d : Int} (hm : 0 < m) (hj : j < N) (S : Sat m N R (T ++ [v])) (hz : Zb v j) (h0 : rn v j ≠ 0) (ho : old.length = N) (hoz : Zb old j)
    (hold : (rown R j ≠ [] ∧ old = rown R j) ∨ (rown R j = [] ∧ ∀ i, rn old i = 0)) (hdo : d ∣ rn old j) (hdv : d ∣ rn v j) (hdm : d ∣ m) (hd0 : 0 < d) (hd1 : d < m) (hb : m ∣ x * rn old j + y * rn v j - d) :
    Sat m N (R.set j (cmb m x old y v)) (T ++ [cmb m 1 old (-(rn old j / d)) (cmb m x old y v), cmb m 1 v (-(rn v j / d)) (cmb m x old y v), cmb m (m / d) (cmb m x old y v) 0 (cmb m x old y v)]) ∧
      ∀ u, Sp m (GA (R.set j (cmb m x old y v)) (T ++ [cmb m 1 old (-(rn old j / d)) (cmb m x old y v), cmb m 1 v (-(rn v j / d)) (cmb m x old y v), cmb m (m / d) (cmb m x old y v) 0 (cmb m x old y v)]) 0) u ↔ Sp m (GA R (T ++ [v]) 0) u := by
  have hv := S.vec v (by simp -implicitDefEqProofs (maxSteps := 3000000))
  have hvl := hv.1
  generalize hnx : cmb m x old y v = next
  have nl : next.length = N := by rw [← hnx, cmb_len, ho]
  have nv : Vec m N next := by rw [← hnx]; exact cmb_vec hm ho
  have nz : Zb next j := by rw [← hnx]; exact cmb_zb hoz hz
  have nj : rn next j = d := by rw [← hnx]; exact cmb_at (by omega) hb (by omega) hd1
  have nd : ∀ i, m ∣ rn next i - (x * rn old i + y * rn v i) := by rw [← hnx]; exact cmb_dvd ho hvl
  have z1 : rn (cmb m 1 old (-(rn old j / d)) next) j = 0 := by
    refine cmb_at (by omega) ?_ (by omega) hm
    rw [nj, show 1 * rn old j + -(rn old j / d) * d - 0 = rn old j - rn old j / d * d by grind, Int.ediv_mul_cancel hdo]; simp -implicitDefEqProofs (maxSteps := 3000000)
  have z2 : rn (cmb m 1 v (-(rn v j / d)) next) j = 0 := by
    refine cmb_at (by omega) ?_ (by omega) hm
    rw [nj, show 1 * rn v j + -(rn v j / d) * d - 0 = rn v j - rn v j / d * d by grind, Int.ediv_mul_cancel hdv]; simp -implicitDefEqProofs (maxSteps := 3000000)
  have z3 : rn (cmb m (m / d) next 0 next) j = 0 := by
    refine cmb_at (by omega) ?_ (by omega) hm
    rw [nj, show m / d * d + 0 * d - 0 = m / d * d by grind, Int.ediv_mul_cancel hdm]; exact Int.dvd_refl m
  have c1 := cmb_dvd (m := m) (x := 1) (y := -(rn old j / d)) ho nl
  have c2 := cmb_dvd (m := m) (x := 1) (y := -(rn v j / d)) hvl nl
  have c3 := cmb_dvd (m := m) (x := m / d) (y := 0) nl nl
  have v1 : Vec m N (cmb m 1 old (-(rn old j / d)) next) := cmb_vec hm ho
  have v2 : Vec m N (cmb m 1 v (-(rn v j / d)) next) := cmb_vec hm hvl
  have v3 : Vec m N (cmb m (m / d) next 0 next) := cmb_vec hm nl
  have b1 : Zb (cmb m 1 old (-(rn old j / d)) next) (j + 1) := (cmb_zb hoz nz).succ z1
  have b2 : Zb (cmb m 1 v (-(rn v j / d)) next) (j + 1) := (cmb_zb hz nz).succ z2
  have b3 : Zb (cmb m (m / d) next 0 next) (j + 1) := (cmb_zb nz nz).succ z3
  generalize cmb m 1 old (-(rn old j / d)) next = a1 at *
  generalize cmb m 1 v (-(rn v j / d)) next = a2 at *
  generalize cmb m (m / d) next 0 next = a3 at *
  have oldS : Sp m (fun g => (rown R j ≠ [] ∧ g = rn (rown R j)) ∨ g = rn v) (rn old) := by
    rcases hold with ⟨e, rfl⟩ | ⟨_, e⟩
    · exact .gen (.inl ⟨e, rfl⟩)
    · exact .zero fun i => by rw [e i]; exact Int.dvd_zero _
  have vS : Sp m (fun g => (rown R j ≠ [] ∧ g = rn (rown R j)) ∨ g = rn v) (rn v) := .gen (.inr rfl)
  have nS : Sp m (fun g => (rown R j ≠ [] ∧ g = rn (rown R j)) ∨ g = rn v) (rn next) := Sp.comb x y oldS vS nd
  refine put_gen hj S h0 nv nz (by omega) (by rw [nj]; exact hdm) ?_ ?_ ?_ ?_ ?_
  · intro w hw
    simp only [List.mem_cons, List.not_mem_nil, or_false] at hw
    rcases hw with rfl | rfl | rfl
    · exact ⟨v1, b1⟩
    · exact ⟨v2, b2⟩
    · exact ⟨v3, b3⟩
  · intro e
    rcases hold with ⟨_, rfl⟩ | ⟨e', _⟩
    · refine Sp.comb 1 (rn (rown R j) j / d) (.gen (.inr ⟨a1, by simp, rfl⟩)) (.gen (.inl rfl)) fun i => ?_
      have := Int.dvd_neg.2 (c1 i)
      rwa [show -(rn a1 i - (1 * rn (rown R j) i + -(rn (rown R j) j / d) * rn next i)) = rn (rown R j) i - (1 * rn a1 i + rn (rown R j) j / d * rn next i) by grind] at this
    · exact absurd e' e
  · refine Sp.comb 1 (rn v j / d) (.gen (.inr ⟨a2, by simp, rfl⟩)) (.gen (.inl rfl)) fun i => ?_
    have := Int.dvd_neg.2 (c2 i)
    rwa [show -(rn a2 i - (1 * rn v i + -(rn v j / d) * rn next i)) = rn v i - (1 * rn a2 i + rn v j / d * rn next i) by grind] at this
  · rw [nj]
    refine (Sp.gen ⟨a3, by simp, rfl⟩).cong fun i => ?_
    have := Int.dvd_neg.2 (c3 i)
    rwa [show -(rn a3 i - (m / d * rn next i + 0 * rn next i)) = m / d * rn next i - rn a3 i by grind] at this
  · rintro g (rfl | ⟨w, hw, rfl⟩)
    · exact nS
    · simp only [List.mem_cons, List.not_mem_nil, or_false] at hw
      rcases hw with rfl | rfl | rfl
      · exact Sp.comb _ _ oldS nS c1
      · exact Sp.comb _ _ vS nS c2
      · exact Sp.comb _ _ nS nS c3
/-- The reference's way: the row that stands is a multiple by a unit. -/
theorem put_unit {m : Int} {N : Nat} {R T : List (List Int)} {v : List Int} {j : Nat} {u u' d : Int} (hm : 0 < m) (hj : j < N) (S : Sat m N R (T ++ [v])) (hz : Zb v j) (h0 : rn v j ≠ 0) (hne : rown R j = []) (hdm : d ∣ m) (hd0 : 0 < d) (hd1 : d < m)
    (hu : m ∣ u * u' - 1) (hb : m ∣ u * rn v j - d) :
    Sat m N (R.set j (cmb m u v 0 v)) (T ++ [cmb m (m / d) (cmb m u v 0 v) 0 v]) ∧ ∀ z, Sp m (GA (R.set j (cmb m u v 0 v)) (T ++ [cmb m (m / d) (cmb m u v 0 v) 0 v]) 0) z ↔ Sp m (GA R (T ++ [v]) 0) z := by
  have hv := S.vec v (by simp -implicitDefEqProofs (maxSteps := 3000000))
  have hvl := hv.1
  generalize hnx : cmb m u v 0 v = next
  have nl : next.length = N := by rw [← hnx, cmb_len, hvl]
  have nv : Vec m N next := by rw [← hnx]; exact cmb_vec hm hvl
  have nz : Zb next j := by rw [← hnx]; exact cmb_zb hz hz
  have nj : rn next j = d := by rw [← hnx]; exact cmb_at (by omega) (by rwa [show u * rn v j + 0 * rn v j - d = u * rn v j - d by grind]) (by omega) hd1
  have nd : ∀ i, m ∣ rn next i - (u * rn v i + 0 * rn v i) := by rw [← hnx]; exact cmb_dvd hvl hvl
  have z3 : rn (cmb m (m / d) next 0 v) j = 0 := by
    refine cmb_at (by omega) ?_ (by omega) hm
    rw [nj, show m / d * d + 0 * rn v j - 0 = m / d * d by grind, Int.ediv_mul_cancel hdm]; exact Int.dvd_refl m
  have c3 := cmb_dvd (m := m) (x := m / d) (y := 0) nl hvl
  have v3 : Vec m N (cmb m (m / d) next 0 v) := cmb_vec hm nl
  have b3 : Zb (cmb m (m / d) next 0 v) (j + 1) := (cmb_zb nz hz).succ z3
  generalize cmb m (m / d) next 0 v = a3 at *
  have vS : Sp m (fun g => (rown R j ≠ [] ∧ g = rn (rown R j)) ∨ g = rn v) (rn v) := .gen (.inr rfl)
  have nS : Sp m (fun g => (rown R j ≠ [] ∧ g = rn (rown R j)) ∨ g = rn v) (rn next) := Sp.comb _ _ vS vS nd
  refine put_gen hj S h0 nv nz (by omega) (by rw [nj]; exact hdm) ?_ (fun e => absurd hne e) ?_ ?_ ?_
  · intro w hw
    obtain rfl : w = a3 := by simpa using hw
    exact ⟨v3, b3⟩
  · refine (Sp.smul u' (Sp.gen (.inl rfl : rn next = rn next ∨ ∃ w ∈ [a3], rn next = rn w))).cong fun i => ?_
    obtain ⟨t, ht⟩ := nd i
    obtain ⟨s, hs⟩ := hu
    exact ⟨-(s * rn v i) - u' * t, by grind⟩
  · rw [nj]
    refine (Sp.gen ⟨a3, by simp, rfl⟩).cong fun i => ?_
    have := Int.dvd_neg.2 (c3 i)
    rwa [show -(rn a3 i - (m / d * rn next i + 0 * rn v i)) = m / d * rn next i - rn a3 i by grind] at this
  · rintro g (rfl | ⟨w, hw, rfl⟩)
    · exact nS
    · obtain rfl : w = a3 := by simpa using hw
      exact Sp.comb _ _ nS vS c3
/-- The reference's way to mix. -/
theorem put_mix2 {m : Int} {N : Nat} {R T : List (List Int)} {v : List Int} {j : Nat} {s t g : Int} (hm : 0 < m) (hj : j < N) (S : Sat m N R (T ++ [v])) (hz : Zb v j) (h0 : rn v j ≠ 0) (hne : rown R j ≠ []) (hg0 : 0 < g) (hg1 : g < m) (hgm : g ∣ m)
    (hgd : g ∣ rn (rown R j) j) (hgx : g ∣ rn v j) (hb : s * rn (rown R j) j + t * rn v j = g) :
    Sat m N (R.set j (cmb m s (rown R j) t v)) (T ++ [cmb m (m / g) (cmb m s (rown R j) t v) 0 v, cmb m (rn v j / g) (rown R j) (-(rn (rown R j) j / g)) v]) ∧
      ∀ u, Sp m (GA (R.set j (cmb m s (rown R j) t v)) (T ++ [cmb m (m / g) (cmb m s (rown R j) t v) 0 v, cmb m (rn v j / g) (rown R j) (-(rn (rown R j) j / g)) v]) 0) u ↔ Sp m (GA R (T ++ [v]) 0) u := by
  have hv := S.vec v (by simp -implicitDefEqProofs (maxSteps := 3000000))
  have hvl := hv.1
  obtain ⟨hP, hPz, _, _⟩ := S.rws.row j hne
  have hPl := hP.1
  generalize hPe : rown R j = P at *
  generalize hnx : cmb m s P t v = next
  have nl : next.length = N := by rw [← hnx, cmb_len, hPl]
  have nv : Vec m N next := by rw [← hnx]; exact cmb_vec hm hPl
  have nz : Zb next j := by rw [← hnx]; exact cmb_zb hPz hz
  have nj : rn next j = g := by rw [← hnx]; exact cmb_at (by omega) (by rw [hb]; simp -implicitDefEqProofs (maxSteps := 3000000)) (by omega) hg1
  have nd : ∀ i, m ∣ rn next i - (s * rn P i + t * rn v i) := by rw [← hnx]; exact cmb_dvd hPl hvl
  obtain ⟨p, hp⟩ := hgd
  obtain ⟨q, hq⟩ := hgx
  have ep : rn P j / g = p := by rw [hp, Int.mul_ediv_cancel_left _ (by omega)]
  have eq : rn v j / g = q := by rw [hq, Int.mul_ediv_cancel_left _ (by omega)]
  have hone : s * p + t * q = 1 := by
    have : g * (s * p + t * q) = g * 1 := by rw [hp, hq] at hb; grind
    exact Int.eq_of_mul_eq_mul_left (by omega) this
  have z3 : rn (cmb m (m / g) next 0 v) j = 0 := by
    refine cmb_at (by omega) ?_ (by omega) hm
    rw [nj, show m / g * g + 0 * rn v j - 0 = m / g * g by grind, Int.ediv_mul_cancel hgm]; exact Int.dvd_refl m
  have z4 : rn (cmb m (rn v j / g) P (-(rn P j / g)) v) j = 0 := by
    refine cmb_at (by omega) ?_ (by omega) hm
    rw [ep, eq, hp, hq, show q * (g * p) + -p * (g * q) - 0 = 0 by grind]; exact Int.dvd_zero m
  have c3 := cmb_dvd (m := m) (x := m / g) (y := 0) nl hvl
  have c4 := cmb_dvd (m := m) (x := rn v j / g) (y := -(rn P j / g)) hPl hvl
  have v3 : Vec m N (cmb m (m / g) next 0 v) := cmb_vec hm nl
  have v4 : Vec m N (cmb m (rn v j / g) P (-(rn P j / g)) v) := cmb_vec hm hPl
  have b3 : Zb (cmb m (m / g) next 0 v) (j + 1) := (cmb_zb nz hz).succ z3
  have b4 : Zb (cmb m (rn v j / g) P (-(rn P j / g)) v) (j + 1) := (cmb_zb hPz hz).succ z4
  generalize cmb m (m / g) next 0 v = a3 at *
  generalize cmb m (rn v j / g) P (-(rn P j / g)) v = a4 at *
  rw [ep, eq] at c4
  have PS : Sp m (fun g => (rown R j ≠ [] ∧ g = rn (rown R j)) ∨ g = rn v) (rn P) := .gen (.inl ⟨by rw [hPe]; exact hne, by rw [hPe]⟩)
  have vS : Sp m (fun g => (rown R j ≠ [] ∧ g = rn (rown R j)) ∨ g = rn v) (rn v) := .gen (.inr rfl)
  have nS : Sp m (fun g => (rown R j ≠ [] ∧ g = rn (rown R j)) ∨ g = rn v) (rn next) := Sp.comb s t PS vS nd
  refine put_gen hj S h0 nv nz (by omega) (by rw [nj]; exact hgm) ?_ ?_ ?_ ?_ ?_
  · intro w hw
    simp only [List.mem_cons, List.not_mem_nil, or_false] at hw
    rcases hw with rfl | rfl
    · exact ⟨v3, b3⟩
    · exact ⟨v4, b4⟩
  · intro _
    rw [hPe]
    refine Sp.comb p t (.gen (.inl rfl)) (.gen (.inr ⟨a4, by simp, rfl⟩)) fun i => ?_
    obtain ⟨x1, e1⟩ := nd i
    obtain ⟨x2, e2⟩ := c4 i
    exact ⟨-(p * x1) - t * x2, by
      have h1 : rn next i = s * rn P i + t * rn v i + m * x1 := by omega
      have h2 : rn a4 i = q * rn P i + -p * rn v i + m * x2 := by omega
      rw [h1, h2]
      have : p * (s * rn P i) + t * (q * rn P i) = rn P i := by
        rw [← Int.mul_assoc, ← Int.mul_assoc, ← Int.add_mul, show p * s + t * q = 1 by rw [Int.mul_comm p s]; exact hone, Int.one_mul]
      grind⟩
  · refine Sp.comb q (-s) (.gen (.inl rfl)) (.gen (.inr ⟨a4, by simp, rfl⟩)) fun i => ?_
    obtain ⟨x1, e1⟩ := nd i
    obtain ⟨x2, e2⟩ := c4 i
    exact ⟨-(q * x1) + s * x2, by
      have h1 : rn next i = s * rn P i + t * rn v i + m * x1 := by omega
      have h2 : rn a4 i = q * rn P i + -p * rn v i + m * x2 := by omega
      rw [h1, h2]
      have : q * (t * rn v i) + s * (p * rn v i) = rn v i := by
        rw [← Int.mul_assoc, ← Int.mul_assoc, ← Int.add_mul, show q * t + s * p = 1 by rw [Int.mul_comm q t, Int.add_comm]; exact hone, Int.one_mul]
      grind⟩
  · rw [nj]
    refine (Sp.gen ⟨a3, by simp, rfl⟩).cong fun i => ?_
    have := Int.dvd_neg.2 (c3 i)
    rwa [show -(rn a3 i - (m / g * rn next i + 0 * rn v i)) = m / g * rn next i - rn a3 i by grind] at this
  · rintro g (rfl | ⟨w, hw, rfl⟩)
    · exact nS
    · simp only [List.mem_cons, List.not_mem_nil, or_false] at hw
      rcases hw with rfl | rfl
      · exact Sp.comb _ _ nS vS c3
      · exact Sp.comb _ _ PS vS c4
/-! ## how long it lasts -/
/-- How many zeros a row begins with. -/
def ld (v : List Int) : Nat := (v.takeWhile (fun x => x == 0)).length
theorem ld_le (v : List Int) : ld v ≤ v.length := by
  induction v with
  | nil => simp -implicitDefEqProofs (maxSteps := 3000000) [ld]
  | cons a v ih =>
    unfold ld at *
    rw [List.takeWhile_cons]
    split <;> simp <;> omega
theorem ld_zb : ∀ (v : List Int) (k : Nat), Zb v k → k ≤ v.length → k ≤ ld v
  | _, 0, _, _ => by omega
  | [], k + 1, _, h => by simp -implicitDefEqProofs (maxSteps := 3000000) at h
  | a :: v, k + 1, hz, h => by
    have h0 : a = 0 := hz 0 (by omega)
    have := ld_zb v k (fun i hi => hz (i + 1) (by omega)) (by simpa using h)
    unfold ld at *
    rw [List.takeWhile_cons, h0]
    simp; omega
theorem ld_nz : ∀ (v : List Int) (j : Nat), rn v j ≠ 0 → ld v ≤ j
  | [], j, h => by simp -implicitDefEqProofs (maxSteps := 3000000) [rn] at h
  | a :: v, 0, h => by
    have : ¬ a = 0 := h
    unfold ld
    rw [List.takeWhile_cons]
    simp -implicitDefEqProofs (maxSteps := 3000000) [this]
  | a :: v, j + 1, h => by
    have := ld_nz v j h
    unfold ld at *
    rw [List.takeWhile_cons]
    split <;> simp <;> omega
def wts (N : Nat) (T : List (List Int)) : Nat := (T.map fun v => N + 1 - ld v).sum
theorem wts_app (N : Nat) (T X : List (List Int)) : wts N (T ++ X) = wts N T + wts N X := by simp -implicitDefEqProofs (maxSteps := 3000000) [wts]
def stpsD (m : Int) (R : List (List Int)) : Nat := ((List.range R.length).map fun j => (stpD m R j).toNat).sum
theorem sum_set : ∀ (l : List Nat) (f g : Nat → Nat) (j : Nat), l.Nodup → j ∈ l → (∀ i ∈ l, i ≠ j → f i = g i) → (l.map f).sum + g j = (l.map g).sum + f j
  | [], _, _, _, _, h, _ => by simp -implicitDefEqProofs (maxSteps := 3000000) at h
  | a :: l, f, g, j, hn, hj, h => by
    simp only [List.nodup_cons] at hn
    simp only [List.map_cons, List.sum_cons]
    rcases List.mem_cons.1 hj with rfl | hj
    · have : l.map f = l.map g := List.map_congr_left fun i hi => h i (List.mem_cons_of_mem _ hi) (fun e => hn.1 (e ▸ hi))
      rw [this]; omega
    · have := sum_set l f g j hn.2 hj (fun i hi => h i (List.mem_cons_of_mem _ hi))
      have e := h a (by simp -implicitDefEqProofs (maxSteps := 3000000)) (fun e => hn.1 (e ▸ hj))
      omega
theorem stpsD_set {m : Int} {R : List (List Int)} {j : Nat} (hj : j < R.length) (r : List Int) (h : (stpD m (R.set j r) j).toNat < (stpD m R j).toNat) : stpsD m (R.set j r) < stpsD m R := by
  unfold stpsD
  rw [List.length_set]
  have := sum_set (List.range R.length) (fun i => (stpD m (R.set j r) i).toNat) (fun i => (stpD m R i).toNat) j List.nodup_range (by simpa using hj) (fun i _ hi => by
    simp only [stpD, rown_setD hj, if_neg hi])
  omega
theorem stpsD_le {m : Int} {N : Nat} {R : List (List Int)} (hm : 0 < m) (S : Rws m N R) : stpsD m R ≤ N * m.toNat := by
  unfold stpsD
  rw [S.len]
  have : ∀ l : List Nat, (l.map fun j => (stpD m R j).toNat).sum ≤ l.length * m.toNat := by
    intro l
    induction l with
    | nil => simp -implicitDefEqProofs (maxSteps := 3000000)
    | cons a l ih =>
      simp only [List.map_cons, List.sum_cons, List.length_cons, Nat.add_mul, Nat.one_mul]
      have h := stpD_pos hm S a
      have := Int.le_of_dvd hm h.2
      omega
  have h := this (List.range N)
  simpa using h
/-- What falls with each round. -/
def dec (m : Int) (N : Nat) (R T : List (List Int)) : Nat := wts N T + (3 * N + 4) * stpsD m R
end Go.Proofs.YtnfhglplafmfiaaGreatE
