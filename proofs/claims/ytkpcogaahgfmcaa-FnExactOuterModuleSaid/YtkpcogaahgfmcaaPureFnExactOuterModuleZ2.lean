/- OuterModule: what the program answers, the reference answers, too. No conditions. -/
import Derived.Test.YtkpcogaahgfmcaaPFnExactOuterModulex13Z2
import Derived.Test.YtkpcogaahgfmcaaXPureZ2
namespace Go.Proofs.Ytkpcogaahgfmcaa.Pure
open Go.RowKit Go.Proofs.Ytkpcogaahgfmcaa.PFnExactOuterModule Go.Proofs.YtkpcogaahgfmcaaW.PrintWords Go.Proofs.YtkpcogaahgfmcaaW.PrintLast Go.Proofs.YtkpcogaahgfmcaaW.PrintMore Go.Proofs.Ytkpcogaahgfmcaa.XPure

def gcdI (a b : Int) : Int := ((Nat.gcd a.toNat b.toNat : Nat) : Int)
theorem gcdI_zero {a : Int} (h : 0 ≤ a) : gcdI a 0 = a := by unfold gcdI; simp; omega
theorem gcdI_comm (a b : Int) : gcdI a b = gcdI b a := by unfold gcdI; rw [Nat.gcd_comm]
theorem gcdI_nonneg (a b : Int) : 0 ≤ gcdI a b := by unfold gcdI; omega
theorem gcdI_le_left {a : Int} (b : Int) (h : 0 < a) : gcdI a b ≤ a := by
  unfold gcdI
  have := Nat.gcd_le_left (m := a.toNat) b.toNat (by omega)
  omega
theorem gcdI_pos {a : Int} (b : Int) (h : 0 < a) : 0 < gcdI a b := by
  unfold gcdI
  have := Nat.gcd_pos_of_pos_left (m := a.toNat) b.toNat (by omega)
  omega
theorem gcdI_step {a b : Int} (ha : 0 ≤ a) (hb : 0 < b) : gcdI b (a % b) = gcdI a b := by
  obtain ⟨a, rfl⟩ := Int.eq_ofNat_of_zero_le ha
  obtain ⟨b, rfl⟩ := Int.eq_ofNat_of_zero_le (Int.le_of_lt hb)
  unfold gcdI
  rw [← Int.natCast_emod, Int.toNat_natCast, Int.toNat_natCast, Int.toNat_natCast]
  rw [Nat.gcd_comm b, ← Nat.gcd_rec, Nat.gcd_comm]
theorem igcd_ev : ∀ (n : Nat) (a b : Int), 0 ≤ a → 0 ≤ b → b.toNat ≤ n → Ev (fun k => impl_gcd.l0 k a b) (gcdI a b) := by
  intro n
  induction n with
  | zero =>
    intro a b ha hb hn
    obtain rfl : b = 0 := by omega
    exact Ev.step (f := fun _ => some a) (fun k => by simp only [impl_gcd.l0, if_true]) (by rw [gcdI_zero ha]; exact Ev.now _)
  | succ n ih =>
    intro a b ha hb hn
    by_cases h : b = 0
    · subst h
      exact Ev.step (f := fun _ => some a) (fun k => by simp only [impl_gcd.l0, if_true]) (by rw [gcdI_zero ha]; exact Ev.now _)
    · have hm := Int.emod_lt_of_pos a (show 0 < b by omega)
      have hm0 := Int.emod_nonneg a h
      refine Ev.step (f := fun k => impl_gcd.l0 k b (a % b)) (fun k => by simp only [impl_gcd.l0]; rw [if_neg h, tmod_nn b ha]) ?_
      rw [← gcdI_step ha (by omega)]
      exact ih b (a % b) hb hm0 (by omega)
theorem igcd {a b : Int} (ha : 0 ≤ a) (hb : 0 ≤ b) : Ev (fun k => impl_gcd.f k a b) (gcdI a b) := igcd_ev b.toNat a b ha hb (Nat.le_refl _)
theorem sgcd_ev : ∀ (n : Nat) (a b : Int), 0 ≤ a → a ≤ 9223372036854775807 → 0 ≤ b → b ≤ 9223372036854775807 → b.toNat ≤ n → Ev (fun k => spec_l01Gcd.l0 k a b) (gcdI a b) := by
  intro n
  have base : ∀ a : Int, 0 ≤ a → a ≤ 9223372036854775807 → mx a (wrap64 (-a)) = a := by
    intro a h h'
    rw [w64 (by omega)]
    unfold mx
    split <;> omega
  induction n with
  | zero =>
    intro a b ha ha' hb _ hn
    obtain rfl : b = 0 := by omega
    exact Ev.step (f := fun _ => some a) (fun k => by simp only [spec_l01Gcd.l0, if_true]; rw [base a ha ha']) (by rw [gcdI_zero ha]; exact Ev.now _)
  | succ n ih =>
    intro a b ha ha' hb hb' hn
    by_cases h : b = 0
    · subst h
      exact Ev.step (f := fun _ => some a) (fun k => by simp only [spec_l01Gcd.l0, if_true]; rw [base a ha ha']) (by rw [gcdI_zero ha]; exact Ev.now _)
    · have hm := Int.emod_lt_of_pos a (show 0 < b by omega)
      have hm0 := Int.emod_nonneg a h
      refine Ev.step (f := fun k => spec_l01Gcd.l0 k b (a % b)) (fun k => by simp only [spec_l01Gcd.l0]; rw [if_neg h, tmod_nn b ha]) ?_
      rw [← gcdI_step ha (by omega)]
      exact ih b (a % b) hb hb' hm0 (by omega) (by omega)
theorem sgcd {a b : Int} (ha : 0 ≤ a) (ha' : a ≤ 9223372036854775807) (hb : 0 ≤ b) (hb' : b ≤ 9223372036854775807) : Ev (fun k => spec_l01Gcd.f k a b) (gcdI a b) := sgcd_ev b.toNat a b ha ha' hb hb' (Nat.le_refl _)
theorem sIn (a b c : Int) : spec_l01In.f a b c = some (decide (b ≤ a) && decide (a ≤ c)) := by
  unfold spec_l01In.f
  by_cases h : a ≥ b
  · rw [if_pos h]; simp [show b ≤ a from h]
  · rw [if_neg h]; simp [show ¬ b ≤ a from h]

/-! ## groups: both tellings of what a group is -/
def cel (T : List (List Int)) (a b : Int) : Int := rd (rd_L1 T a) b
def RowOk (T : List (List Int)) (a : Int) : Prop := ((rd_L1 T a).length : Int) = T.length ∧ ∀ b, 0 ≤ b → b < (T.length : Int) → 0 ≤ cel T a b ∧ cel T a b < T.length
def Rows (T : List (List Int)) : Prop := (1 ≤ (T.length : Int) ∧ (T.length : Int) ≤ 8) ∧ ∀ a, 0 ≤ a → a < (T.length : Int) → RowOk T a
def Assoc (T : List (List Int)) (a : Int) : Prop := ∀ b, 0 ≤ b → b < (T.length : Int) → ∀ d, 0 ≤ d → d < (T.length : Int) → cel T (cel T a b) d = cel T a (cel T b d)
def Line (T : List (List Int)) (a : Int) : Prop := (cel T 0 a = a ∧ cel T a 0 = a ∧ ∃ b, 0 ≤ b ∧ b < (T.length : Int) ∧ cel T a b = 0) ∧ Assoc T a
def SLine (T : List (List Int)) (a : Int) : Prop := (cel T 0 a = a ∧ cel T a 0 = a) ∧ Assoc T a ∧ ∃ b, 0 ≤ b ∧ b < (T.length : Int) ∧ cel T a b = 0 ∧ cel T b a = 0
def IsG (T : List (List Int)) : Prop := Rows T ∧ ∀ a, 0 ≤ a → a < (T.length : Int) → Line T a
theorem isG_sline {T : List (List Int)} (h : IsG T) : ∀ a, 0 ≤ a → a < (T.length : Int) → SLine T a := by
  intro a h0 h1
  obtain ⟨⟨e1, e2, b, b0, b1, eb⟩, asc⟩ := h.2 a h0 h1
  refine ⟨⟨e1, e2⟩, asc, b, b0, b1, eb, ?_⟩
  obtain ⟨⟨f1, f2, d, d0, d1, ed⟩, _⟩ := h.2 b b0 b1
  have hs := asc b b0 b1 d d0 d1
  rw [eb, ed, (h.2 d d0 d1).1.1, e2] at hs
  rw [← hs]
  exact ed
theorem isG_of_sline {T : List (List Int)} (hr : Rows T) (h : ∀ a, 0 ≤ a → a < (T.length : Int) → SLine T a) : IsG T :=
  ⟨hr, fun a h0 h1 => ⟨⟨(h a h0 h1).1.1, (h a h0 h1).1.2, let ⟨b, b0, b1, eb, _⟩ := (h a h0 h1).2.2; ⟨b, b0, b1, eb⟩⟩, (h a h0 h1).2.1⟩⟩
def fnd (T : List (List Int)) (a : Int) : Nat → Bool
  | 0 => false
  | i + 1 => fnd T a i || (cel T a i == 0 && cel T i a == 0)
theorem fnd_true {T : List (List Int)} {a : Int} : ∀ {n : Nat}, fnd T a n = true ↔ ∃ b, 0 ≤ b ∧ b < (n : Int) ∧ cel T a b = 0 ∧ cel T b a = 0
  | 0 => ⟨fun h => by simp [fnd] at h, fun ⟨b, h0, h1, _⟩ => by omega⟩
  | n + 1 => by
    simp only [fnd, Bool.or_eq_true, Bool.and_eq_true, beq_iff_eq, fnd_true (n := n)]
    constructor
    · rintro (⟨b, h0, h1, h2⟩ | ⟨h1, h2⟩)
      · exact ⟨b, h0, by omega, h2⟩
      · exact ⟨n, by omega, by omega, h1, h2⟩
    · rintro ⟨b, h0, h1, h2⟩
      by_cases e : b = n
      · subst e; exact .inr h2
      · exact .inl ⟨b, h0, by omega, h2⟩

theorem sIs_lines (T : List (List Int)) (r : Bool) (R : Rows T) (h1 : IsG T → r = true) (h2 : ¬ IsG T → r = false) : Ev (fun k => spec_l01Is.l2 k (T.length : Int) 0 T) r := by
  have e : ∀ a b, rd (rd_L1 T a) b = cel T a b := fun _ _ => rfl
  have hn := R.1
  have row : ∀ a, 0 ≤ a → a < (T.length : Int) → ((rd_L1 T a).length : Int) = T.length := fun a x y => (R.2 a x y).1
  have rng : ∀ a b, 0 ≤ a → a < (T.length : Int) → 0 ≤ b → b < (T.length : Int) → 0 ≤ cel T a b ∧ cel T a b < T.length := fun a b x y z w => (R.2 a x y).2 b z w
  refine Ev.loop (fun k i => spec_l01Is.l2 k (T.length : Int) i T) T.length (SLine T) (bad := false) (by omega) ?_ ?_ ?_
  · intro a a0 an _ hgood hbad
    have r0 := row 0 (by omega) (by omega)
    have ra := row a a0 an
    refine Ev.step (f := fun k => if cel T 0 a = a then spec_l01Is.j3 k T.length a (cel T a 0 != a) T else spec_l01Is.j3 k T.length a true T) (fun k => by
      simp only [spec_l01Is.l2, e]
      rw [if_pos an, if_pos (by omega), if_pos a0, if_pos (by omega)]
      by_cases e1 : cel T 0 a = a
      · rw [if_pos e1, if_pos e1, if_pos an, if_pos (by omega)]
      · rw [if_neg e1, if_neg e1]) ?_
    refine Ev.ite (fun e1 => ?_) (fun e1 => ?_)
    · by_cases e2 : cel T a 0 = a
      · refine Ev.step (f := fun k => spec_l01Is.l3 k T.length a false 0 T) (fun k => by simp only [spec_l01Is.j3, e2, bne_self_eq_false, Bool.false_eq_true, if_false]) ?_
        refine Ev.loop (fun k i => spec_l01Is.l3 k T.length a (fnd T a i.toNat) i T) T.length (fun b => ∀ d, 0 ≤ d → d < (T.length : Int) → cel T (cel T a b) d = cel T a (cel T b d)) (bad := false) (by omega) ?_ ?_ ?_
        · intro b b0 bn _ g2 n2
          have rb := row b b0 bn
          have gab := rng a b a0 an b0 bn
          have rab := row _ gab.1 gab.2
          have eN : (b + 1).toNat = b.toNat + 1 := by omega
          have eb : ((b.toNat : Nat) : Int) = b := by omega
          refine Ev.step (f := fun k => spec_l01Is.j5 k T.length a (fnd T a (b.toNat + 1)) b T) (fun k => by
            simp only [spec_l01Is.l3, e, fnd, eb]
            rw [if_pos bn]
            by_cases hf : fnd T a b.toNat = true
            · rw [if_pos hf, hf, Bool.true_or]
            · rw [if_neg hf, if_pos a0, if_pos an, if_pos b0, if_pos (by omega), Bool.eq_false_iff.2 hf, Bool.false_or]
              by_cases hz : cel T a b = 0
              · rw [if_pos hz, if_pos bn, if_pos (by omega), hz]; rfl
              · rw [if_neg hz, show (cel T a b == 0) = false by simpa using hz, Bool.false_and]) ?_
          refine Ev.step (f := fun k => spec_l01Is.l4 k T.length a (fnd T a (b.toNat + 1)) b 0 T) (fun k => by simp only [spec_l01Is.j5]) ?_
          refine Ev.loop (fun k i => spec_l01Is.l4 k T.length a (fnd T a (b.toNat + 1)) b i T) T.length (fun d => cel T (cel T a b) d = cel T a (cel T b d)) (bad := false) (by omega) ?_ ?_ ?_
          · intro d d0 dn _ g3 n3
            have gbd := rng b d b0 bn d0 dn
            refine Ev.step (f := fun k => if cel T (cel T a b) d = cel T a (cel T b d) then spec_l01Is.l4 k T.length a (fnd T a (b.toNat + 1)) b (wrap64 (d + 1)) T else some false) (fun k => by
              simp only [spec_l01Is.l4, e]
              rw [if_pos dn, if_pos a0, if_pos an, if_pos b0, if_pos (by omega), if_pos gab.1, if_pos gab.2, if_pos d0, if_pos (by omega), if_pos bn, if_pos (by omega), if_pos gbd.1, if_pos (by omega)]) ?_
            refine Ev.ite (fun hq => ?_) (fun hq => ?_)
            · rw [w64 (by omega)]; exact g3 hq
            · rw [n3 hq]; exact Ev.now _
          · intro hall
            refine Ev.step (f := fun k => spec_l01Is.l3 k T.length a (fnd T a (b + 1).toNat) (b + 1) T) (fun k => by simp only [spec_l01Is.l4]; rw [if_neg (by omega), w64 (by omega), eN]) (g2 hall)
          · exact n2
        · intro hall
          refine Ev.step (f := fun k => if fnd T a (T.length : Int).toNat = true then spec_l01Is.l2 k T.length (a + 1) T else some false) (fun k => by simp only [spec_l01Is.l3]; rw [if_neg (by omega), w64 (by omega)]) ?_
          rw [Int.toNat_natCast]
          refine Ev.ite (fun hf => hgood ⟨⟨e1, e2⟩, hall, fnd_true.1 hf⟩) (fun hf => ?_)
          rw [hbad (fun h => hf (fnd_true.2 h.2.2))]; exact Ev.now _
        · intro hno; exact hbad (fun h => hno h.2.1)
      · refine Ev.step (f := fun _ => some false) (fun k => by simp only [spec_l01Is.j3]; rw [if_pos (by simpa using e2)]) ?_
        rw [hbad (fun h => e2 h.1.2)]; exact Ev.now _
    · refine Ev.step (f := fun _ => some false) (fun k => by simp only [spec_l01Is.j3, if_true]) ?_
      rw [hbad (fun h => e1 h.1.1)]; exact Ev.now _
  · intro hall
    rw [h1 (isG_of_sline R hall)]
    exact Ev.step (f := fun _ => some true) (fun k => by simp only [spec_l01Is.l2]; rw [if_neg (by omega)]) (Ev.now _)
  · intro hno; exact h2 (fun h => hno (isG_sline h))
theorem sIs (T : List (List Int)) (r : Bool) (h1 : IsG T → r = true) (h2 : ¬ IsG T → r = false) : Ev (fun k => spec_l01Is.f k T) r := by
  unfold spec_l01Is.f
  have e : ∀ a b, rd (rd_L1 T a) b = cel T a b := fun _ _ => rfl
  refine Ev.bindc (sIn _ _ _) ?_
  by_cases hn : 1 ≤ (T.length : Int) ∧ (T.length : Int) ≤ 8
  · refine Ev.pos (by simp [hn]) ?_
    refine Ev.loop (fun k i => spec_l01Is.l0 k (T.length : Int) i T) T.length (RowOk T) (bad := false) (by omega) ?_ ?_ ?_
    · intro a h0 ha prev hgood hbad
      refine Ev.step (f := fun k => if ((rd_L1 T a).length : Int) = T.length then spec_l01Is.l1 k T.length a 0 T else some false) (fun k => by simp only [spec_l01Is.l0]; rw [if_pos ha, if_pos h0, if_pos ha]) ?_
      refine Ev.ite (fun hl => ?_) (fun hl => ?_)
      · refine Ev.loop (fun k i => spec_l01Is.l1 k T.length a i T) T.length (fun b => 0 ≤ cel T a b ∧ cel T a b < T.length) (bad := false) (by omega) ?_ ?_ ?_
        · intro b hb0 hb prev2 g2 b2
          refine Ev.step (f := fun k => (spec_l01In.f (cel T a b) 0 (wrap64 (T.length - 1))).bind fun t => if t = true then spec_l01Is.l1 k T.length a (wrap64 (b + 1)) T else some false) (fun k => by simp only [spec_l01Is.l1, e]; rw [if_pos hb, if_pos h0, if_pos ha, if_pos hb0, if_pos (by omega)]) ?_
          refine Ev.bindc (sIn _ _ _) ?_
          rw [w64 (by omega), w64 (by omega)]
          by_cases hg : 0 ≤ cel T a b ∧ cel T a b < T.length
          · refine Ev.pos (by simp; omega) (g2 hg)
          · refine Ev.neg (by simp; omega) ?_
            rw [b2 hg]; exact Ev.now _
        · intro hall
          exact Ev.step (f := fun k => spec_l01Is.l0 k T.length (a + 1) T) (fun k => by simp only [spec_l01Is.l1]; rw [if_neg (by omega), w64 (by omega)]) (hgood ⟨hl, hall⟩)
        · intro hno; exact hbad (fun h => hno h.2)
      · rw [hbad (fun h => hl h.1)]; exact Ev.now _
    · intro hrows
      exact Ev.step (f := fun k => spec_l01Is.l2 k T.length 0 T) (fun k => by simp only [spec_l01Is.l0]; rw [if_neg (by omega)]) (sIs_lines T r ⟨hn, hrows⟩ h1 h2)
    · intro hno; exact h2 (fun h => hno h.1.2)
  · refine Ev.neg (by simp; omega) ?_
    rw [h2 (fun h => hn h.1.1)]; exact Ev.now _
/-! the program's telling -/
theorem iareIn (n : Int) (l : List Int) (hl : l.length < 4611686018427387904) (r : Bool) (h1 : (∀ b, 0 ≤ b → b < (l.length : Int) → 0 ≤ rd l b ∧ rd l b < n) → r = true) (h2 : (¬ ∀ b, 0 ≤ b → b < (l.length : Int) → 0 ≤ rd l b ∧ rd l b < n) → r = false) : Ev (fun k => impl_areIn.f k n l) r := by
  unfold impl_areIn.f
  refine Ev.loop (fun k i => impl_areIn.l0 k n l l.length i) l.length (fun b => 0 ≤ rd l b ∧ rd l b < n) (bad := false) (by omega) ?_ ?_ h2
  · intro b b0 bn _ g hn
    refine Ev.step (f := fun k => if rd l b < 0 then some false else if rd l b ≥ n then some false else impl_areIn.l0 k n l l.length (wrap64 (b + 1))) (fun k => by simp only [impl_areIn.l0]; rw [if_pos bn, if_pos b0, if_pos bn]) ?_
    refine Ev.ite (fun h => ?_) (fun h => Ev.ite (fun h' => ?_) (fun h' => ?_))
    · rw [hn (by omega)]; exact Ev.now _
    · rw [hn (by omega)]; exact Ev.now _
    · rw [w64 (by omega)]; exact g (by omega)
  · intro hall
    rw [h1 hall]
    exact Ev.step (f := fun _ => some true) (fun k => by simp only [impl_areIn.l0]; rw [if_neg (by omega)]) (Ev.now _)
theorem iidx (l : List Int) (x : Int) (hl : l.length < 4611686018427387904) : ∃ r, Ev (fun k => slices_Index_int64_int64.f k l x) r ∧
    (r = -1 ∧ (∀ b, 0 ≤ b → b < (l.length : Int) → rd l b ≠ x) ∨ (0 ≤ r ∧ r < (l.length : Int) ∧ rd l r = x ∧ ∀ b, 0 ≤ b → b < r → rd l b ≠ x)) := by
  have all : ∀ (d : Nat) (i : Int), (l.length : Int) - i = d → 0 ≤ i → (∀ b, 0 ≤ b → b < i → rd l b ≠ x) → ∃ r, Ev (fun k => slices_Index_int64_int64.l0 k l x l.length i) r ∧
      (r = -1 ∧ (∀ b, 0 ≤ b → b < (l.length : Int) → rd l b ≠ x) ∨ (0 ≤ r ∧ r < (l.length : Int) ∧ rd l r = x ∧ ∀ b, 0 ≤ b → b < r → rd l b ≠ x)) := by
    intro d
    induction d with
    | zero =>
      intro i hd hi hb
      obtain rfl : i = l.length := by omega
      exact ⟨-1, Ev.step (f := fun _ => some (-1)) (fun k => by simp only [slices_Index_int64_int64.l0]; rw [if_neg (by omega)]) (Ev.now _), .inl ⟨rfl, hb⟩⟩
    | succ d ih =>
      intro i hd hi hb
      by_cases hx : x = rd l i
      · exact ⟨i, Ev.step (f := fun _ => some i) (fun k => by simp only [slices_Index_int64_int64.l0]; rw [if_pos (by omega), if_pos hi, if_pos (by omega), if_pos hx]) (Ev.now _), .inr ⟨hi, by omega, hx.symm, hb⟩⟩
      · obtain ⟨r, hr, hs⟩ := ih (i + 1) (by omega) (by omega) (fun b h0 h1 => by
          by_cases e : b = i
          · subst e; exact fun h => hx h.symm
          · exact hb b h0 (by omega))
        exact ⟨r, Ev.step (f := fun k => slices_Index_int64_int64.l0 k l x l.length (i + 1)) (fun k => by simp only [slices_Index_int64_int64.l0]; rw [if_pos (by omega), if_pos hi, if_pos (by omega), if_neg hx, w64 (by omega)]) hr, hs⟩
  exact all l.length 0 (by omega) (Int.le_refl _) (fun b h0 h1 => by omega)
theorem icont (l : List Int) (x : Int) (hl : l.length < 4611686018427387904) (r : Bool) (h1 : (∃ b, 0 ≤ b ∧ b < (l.length : Int) ∧ rd l b = x) → r = true) (h2 : (¬ ∃ b, 0 ≤ b ∧ b < (l.length : Int) ∧ rd l b = x) → r = false) : Ev (fun k => slices_Contains_int64_int64.f k l x) r := by
  unfold slices_Contains_int64_int64.f
  obtain ⟨q, hq, hs⟩ := iidx l x hl
  refine Ev.bind hq ?_
  rcases hs with ⟨rfl, h⟩ | ⟨q0, q1, q2, _⟩
  · rw [h2 (fun ⟨b, b0, b1, e⟩ => h b b0 b1 e)]; exact Ev.now _
  · rw [h1 ⟨q, q0, q1, q2⟩, show decide (q ≥ 0) = true by simpa using q0]; exact Ev.now _
theorem iIs_lines (T : List (List Int)) (r : Bool) (R : Rows T) (h1 : IsG T → r = true) (h2 : ¬ IsG T → r = false) : Ev (fun k => impl_IsGroup.l1 k (T.length : Int) (T.length : Int) 0 T) r := by
  have e : ∀ a b, rd (rd_L1 T a) b = cel T a b := fun _ _ => rfl
  have hn := R.1
  have row : ∀ a, 0 ≤ a → a < (T.length : Int) → ((rd_L1 T a).length : Int) = T.length := fun a x y => (R.2 a x y).1
  have rng : ∀ a b, 0 ≤ a → a < (T.length : Int) → 0 ≤ b → b < (T.length : Int) → 0 ≤ cel T a b ∧ cel T a b < T.length := fun a b x y z w => (R.2 a x y).2 b z w
  refine Ev.loop (fun k i => impl_IsGroup.l1 k (T.length : Int) T.length i T) T.length (Line T) (bad := false) (by omega) ?_ ?_ ?_
  · intro a a0 an _ hgood hbad
    have r0 := row 0 (by omega) (by omega)
    have ra := row a a0 an
    have jno : ¬ Line T a → Ev (fun k => impl_IsGroup.j3 k T.length a T.length a true T) r := fun h => by
      rw [hbad h]
      exact Ev.step (f := fun _ => some false) (fun k => by simp only [impl_IsGroup.j3, if_true]) (Ev.now _)
    refine Ev.step (f := fun k => if cel T 0 a = a then (if cel T a 0 = a then (slices_Contains_int64_int64.f k (rd_L1 T a) 0).bind fun t => impl_IsGroup.j3 k T.length a T.length a (!t) T else impl_IsGroup.j3 k T.length a T.length a true T) else impl_IsGroup.j3 k T.length a T.length a true T) (fun k => by
      simp only [impl_IsGroup.l1, e]
      rw [if_pos an, if_pos (by omega), if_pos a0, if_pos (by omega)]
      by_cases e1 : cel T 0 a = a
      · rw [if_pos e1, if_pos e1, if_pos an, if_pos (by omega)]
      · rw [if_neg e1, if_neg e1]) ?_
    refine Ev.ite (fun e1 => Ev.ite (fun e2 => ?_) (fun e2 => jno (fun h => e2 h.1.2.1))) (fun e1 => jno (fun h => e1 h.1.1))
    by_cases hc : ∃ b, 0 ≤ b ∧ b < (T.length : Int) ∧ cel T a b = 0
    · refine Ev.bind (icont (rd_L1 T a) 0 (by omega) true (fun _ => rfl) (fun h => absurd (by rw [ra]; exact hc) h)) ?_
      refine Ev.step (f := fun k => impl_IsGroup.l2 k T.length a T.length a T.length 0 T) (fun k => by simp only [impl_IsGroup.j3, Bool.not_true, Bool.false_eq_true, if_false]) ?_
      refine Ev.loop (fun k i => impl_IsGroup.l2 k T.length a T.length a T.length i T) T.length (fun b => ∀ d, 0 ≤ d → d < (T.length : Int) → cel T (cel T a b) d = cel T a (cel T b d)) (bad := false) (by omega) ?_ ?_ ?_
      · intro b b0 bn _ g2 n2
        have rb := row b b0 bn
        have gab := rng a b a0 an b0 bn
        have rab := row _ gab.1 gab.2
        refine Ev.step (f := fun k => impl_IsGroup.l3 k T.length a b T.length a T.length b T.length 0 T) (fun k => by simp only [impl_IsGroup.l2]; rw [if_pos bn]) ?_
        refine Ev.loop (fun k i => impl_IsGroup.l3 k T.length a b T.length a T.length b T.length i T) T.length (fun d => cel T (cel T a b) d = cel T a (cel T b d)) (bad := false) (by omega) ?_ ?_ n2
        · intro d d0 dn _ g3 n3
          have gbd := rng b d b0 bn d0 dn
          refine Ev.step (f := fun k => if cel T (cel T a b) d = cel T a (cel T b d) then impl_IsGroup.l3 k T.length a b T.length a T.length b T.length (wrap64 (d + 1)) T else some false) (fun k => by
            simp only [impl_IsGroup.l3, e]
            rw [if_pos dn, if_pos a0, if_pos an, if_pos b0, if_pos (by omega), if_pos gab.1, if_pos gab.2, if_pos d0, if_pos (by omega), if_pos bn, if_pos (by omega), if_pos gbd.1, if_pos (by omega)]) ?_
          refine Ev.ite (fun hq => ?_) (fun hq => ?_)
          · rw [w64 (by omega)]; exact g3 hq
          · rw [n3 hq]; exact Ev.now _
        · intro hall
          exact Ev.step (f := fun k => impl_IsGroup.l2 k T.length a T.length a T.length (b + 1) T) (fun k => by simp only [impl_IsGroup.l3]; rw [if_neg (by omega), w64 (by omega)]) (g2 hall)
      · intro hall
        exact Ev.step (f := fun k => impl_IsGroup.l1 k T.length T.length (a + 1) T) (fun k => by simp only [impl_IsGroup.l2]; rw [if_neg (by omega), w64 (by omega)]) (hgood ⟨⟨e1, e2, hc⟩, hall⟩)
      · intro hno; exact hbad (fun h => hno h.2)
    · refine Ev.bind (icont (rd_L1 T a) 0 (by omega) false (fun h => absurd (by rw [ra] at h; exact h) hc) (fun _ => rfl)) ?_
      exact jno (fun h => hc h.1.2.2)
  · intro hall
    rw [h1 ⟨R, hall⟩]
    exact Ev.step (f := fun _ => some true) (fun k => by simp only [impl_IsGroup.l1]; rw [if_neg (by omega)]) (Ev.now _)
  · intro hno; exact h2 (fun h => hno h.2)
theorem iIs (T : List (List Int)) (hT : T.length ≤ 9223372036854775807) (r : Bool) (h1 : IsG T → r = true) (h2 : ¬ IsG T → r = false) : Ev (fun k => impl_IsGroup.f k T) r := by
  unfold impl_IsGroup.f
  have e : ∀ a b, rd (rd_L1 T a) b = cel T a b := fun _ _ => rfl
  refine Ev.bindc (show impl_order.f T = some (T.length : Int) from rfl) ?_
  have jno : (¬ (1 ≤ (T.length : Int) ∧ (T.length : Int) ≤ 8)) → Ev (fun k => impl_IsGroup.j0 k T.length true T) r := fun h => by
    rw [h2 (fun g => h g.1.1)]
    exact Ev.step (f := fun _ => some false) (fun k => by simp only [impl_IsGroup.j0, if_true]) (Ev.now _)
  refine Ev.ite (fun h => jno (by omega)) (fun h => ?_)
  by_cases hn : (T.length : Int) > 8
  · rw [show decide ((T.length : Int) > 8) = true by simpa using hn]; exact jno (by omega)
  · rw [show decide ((T.length : Int) > 8) = false by simpa using hn]
    refine Ev.step (f := fun k => impl_IsGroup.l0 k T.length T T.length 0 T) (fun k => by simp only [impl_IsGroup.j0, Bool.false_eq_true, if_false]) ?_
    refine Ev.loop (fun k i => impl_IsGroup.l0 k (T.length : Int) T T.length i T) T.length (RowOk T) (bad := false) (by omega) ?_ ?_ ?_
    · intro a h0 ha prev hgood hbad
      refine Ev.step (f := fun k => if ((rd_L1 T a).length : Int) = T.length then (impl_areIn.f k T.length (rd_L1 T a)).bind fun t => (if t = true then impl_IsGroup.l0 k T.length T T.length (wrap64 (a + 1)) T else some false) else some false) (fun k => by simp only [impl_IsGroup.l0]; rw [if_pos ha, if_pos h0, if_pos ha]) ?_
      refine Ev.ite (fun hl => ?_) (fun hl => ?_)
      · by_cases hg : ∀ b, 0 ≤ b → b < (T.length : Int) → 0 ≤ cel T a b ∧ cel T a b < T.length
        · refine Ev.bind (iareIn T.length (rd_L1 T a) (by omega) true (fun _ => rfl) (fun h => absurd (by rw [hl]; exact hg) h)) ?_
          refine Ev.pos rfl ?_
          rw [w64 (by omega)]; exact hgood ⟨hl, hg⟩
        · refine Ev.bind (iareIn T.length (rd_L1 T a) (by omega) false (fun h => absurd (by rw [hl] at h; exact h) hg) (fun _ => rfl)) ?_
          refine Ev.neg (by simp) ?_
          rw [hbad (fun h => hg h.2)]; exact Ev.now _
      · rw [hbad (fun h => hl h.1)]; exact Ev.now _
    · intro hrows
      exact Ev.step (f := fun k => impl_IsGroup.l1 k T.length T.length 0 T) (fun k => by simp only [impl_IsGroup.l0]; rw [if_neg (by omega)]) (iIs_lines T r ⟨by omega, hrows⟩ h1 h2)
    · intro hno; exact h2 (fun h => hno h.1.2)

/-! ## modules: both tellings of what a module is -/
def IsM (T : List (List Int)) (M : Int) (U : List Int) : Prop :=
  (2 ≤ M ∧ M ≤ 12) ∧ (U.length : Int) = T.length ∧ (∀ i, 0 ≤ i → i < (T.length : Int) → (1 ≤ rd U i ∧ rd U i < M) ∧ gcdI M (rd U i) = 1) ∧
    ∀ i, 0 ≤ i → i < (T.length : Int) → ∀ j, 0 ≤ j → j < (T.length : Int) → rd U (cel T i j) = rd U i * rd U j % M
theorem idem_one : ∀ M u : Fin 13, u.val < M.val → Nat.gcd M.val u.val = 1 → u.val = u.val * u.val % M.val → u.val = 1 ∨ M.val = 1 := by decide +kernel
theorem isM_one {T : List (List Int)} {M : Int} {U : List Int} (hG : IsG T) (h : IsM T M U) : rd U 0 = 1 := by
  have hn := hG.1.1
  have e := h.2.2.2 0 (by omega) (by omega) 0 (by omega) (by omega)
  rw [(hG.2 0 (by omega) (by omega)).1.1] at e
  obtain ⟨⟨u0, u1⟩, g⟩ := h.2.2.1 0 (by omega) (by omega)
  have hM := h.1
  generalize rd U 0 = u at *
  obtain ⟨M', rfl⟩ := Int.eq_ofNat_of_zero_le (show 0 ≤ M by omega)
  obtain ⟨u', rfl⟩ := Int.eq_ofNat_of_zero_le (show 0 ≤ u by omega)
  unfold gcdI at g
  rw [Int.toNat_natCast, Int.toNat_natCast] at g
  have := idem_one ⟨M', by omega⟩ ⟨u', by omega⟩ (show u' < M' by omega) (show Nat.gcd M' u' = 1 by omega) (show u' = u' * u' % M' by exact_mod_cast e)
  have hq : u' = 1 ∨ M' = 1 := this
  omega
theorem g_rng {T : List (List Int)} (hG : IsG T) {a b : Int} (a0 : 0 ≤ a) (an : a < T.length) (b0 : 0 ≤ b) (bn : b < T.length) : 0 ≤ cel T a b ∧ cel T a b < T.length := (hG.1.2 a a0 an).2 b b0 bn
theorem g_row {T : List (List Int)} (hG : IsG T) {a : Int} (a0 : 0 ≤ a) (an : a < T.length) : ((rd_L1 T a).length : Int) = T.length := (hG.1.2 a a0 an).1

theorem sIsM (T : List (List Int)) (M : Int) (U : List Int) (hG : IsG T) (r : Bool) (h1 : IsM T M U → r = true) (h2 : ¬ IsM T M U → r = false) : Ev (fun k => spec_l02Is.f k T M U) r := by
  have e : ∀ a b, rd (rd_L1 T a) b = cel T a b := fun _ _ => rfl
  have hn := hG.1.1
  unfold spec_l02Is.f
  refine Ev.bindc (sIn _ _ _) ?_
  have jno : (¬ IsM T M U) → Ev (fun k => spec_l02Is.j0 k true T M U) r := fun h => by
    rw [h2 h]
    exact Ev.step (f := fun _ => some false) (fun k => by simp only [spec_l02Is.j0, if_true]) (Ev.now _)
  by_cases hM : 2 ≤ M ∧ M ≤ 12
  · refine Ev.pos (by simp [hM]) ?_
    by_cases hl : (U.length : Int) = T.length
    · rw [hl, bne_self_eq_false]
      refine Ev.step (f := fun k => spec_l02Is.l0 k 0 T M U) (fun k => by simp only [spec_l02Is.j0, Bool.false_eq_true, if_false]) ?_
      refine Ev.loop (fun k i => spec_l02Is.l0 k i T M U) T.length (fun i => (1 ≤ rd U i ∧ rd U i < M) ∧ gcdI M (rd U i) = 1) (bad := false) (by omega) ?_ ?_ ?_
      · intro i i0 i1 _ g n
        refine Ev.step (f := fun k => (spec_l01In.f (rd U i) 1 (wrap64 (M - 1))).bind fun t => (if t = true then ((spec_l01Gcd.f k (rd U i) M).bind fun t => (if t = 1 then (spec_l02Is.l0 k (wrap64 (i + 1)) T M U) else (some false))) else (some false))) (fun k => by simp only [spec_l02Is.l0]; rw [if_pos (by omega), if_pos i0]) ?_
        refine Ev.bindc (sIn _ _ _) ?_
        rw [w64 (by omega), w64 (by omega)]
        by_cases hu : 1 ≤ rd U i ∧ rd U i < M
        · refine Ev.pos (by simp; omega) (Ev.bind (sgcd (by omega) (by omega) (by omega) (by omega)) ?_)
          rw [gcdI_comm]
          refine Ev.ite (fun h => g ⟨hu, h⟩) (fun h => ?_)
          rw [n (fun z => h z.2)]; exact Ev.now _
        · refine Ev.neg (by simp; omega) ?_
          rw [n (fun z => hu z.1)]; exact Ev.now _
      · intro hu
        refine Ev.step (f := fun k => spec_l02Is.l1 k 0 T M U) (fun k => by simp only [spec_l02Is.l0]; rw [if_neg (by omega)]) ?_
        refine Ev.loop (fun k i => spec_l02Is.l1 k i T M U) T.length (fun i => ∀ j, 0 ≤ j → j < (T.length : Int) → rd U (cel T i j) = rd U i * rd U j % M) (bad := false) (by omega) ?_ ?_ ?_
        · intro i i0 i1 _ g n
          refine Ev.step (f := fun k => spec_l02Is.l2 k i 0 T M U) (fun k => by simp only [spec_l02Is.l1]; rw [if_pos (by omega)]) ?_
          refine Ev.loop (fun k j => spec_l02Is.l2 k i j T M U) T.length (fun j => rd U (cel T i j) = rd U i * rd U j % M) (bad := false) (by omega) ?_ ?_ n
          · intro j j0 j1 _ g2 n2
            have hr := g_row hG i0 i1
            have hc := g_rng hG i0 i1 j0 j1
            have ui := (hu i i0 i1).1
            have uj := (hu j j0 j1).1
            have hp := mul_bd (show 0 ≤ rd U i by omega) (show 0 ≤ rd U j by omega) (show rd U i ≤ 12 by omega) (show rd U j ≤ 12 by omega)
            refine Ev.step (f := fun k => if rd U (cel T i j) = rd U i * rd U j % M then spec_l02Is.l2 k i (j + 1) T M U else some false) (fun k => by
              simp only [spec_l02Is.l2, e]
              rw [if_pos (by omega), if_pos i0, if_pos i1, if_pos j0, if_pos (by omega), if_pos hc.1, if_pos (by omega), if_pos (by omega), if_neg (by omega), w64 (by omega), w64 (by omega), tmod_nn _ hp.1]) ?_
            refine Ev.ite g2 (fun h => ?_)
            rw [n2 h]; exact Ev.now _
          · intro hall
            exact Ev.step (f := fun k => spec_l02Is.l1 k (i + 1) T M U) (fun k => by simp only [spec_l02Is.l2]; rw [if_neg (by omega), w64 (by omega)]) (g hall)
        · intro hall
          rw [h1 ⟨hM, hl, hu, hall⟩]
          exact Ev.step (f := fun _ => some true) (fun k => by simp only [spec_l02Is.l1]; rw [if_neg (by omega)]) (Ev.now _)
        · intro hno; exact h2 (fun h => hno h.2.2.2)
      · intro hno; exact h2 (fun h => hno h.2.2.1)
    · rw [show ((U.length : Int) != (T.length : Int)) = true by simpa using hl]
      exact jno (fun h => hl h.2.1)
  · refine Ev.neg (by simp; omega) (jno (fun h => hM h.1))

/-! the program's telling -/
theorem itimes_l0 {T : List (List Int)} (hG : IsG T) (l : List Int) (hl : l.length < 4611686018427387904) (hx : ∀ x ∈ l, 0 ≤ x ∧ x < (T.length : Int)) : ∀ (d i : Nat) (out : Int), l.length - i = d → i ≤ l.length → 0 ≤ out → out < T.length →
    Ev (fun k => impl_Group_times.l0 k out l l.length i T) ((l.drop i).foldl (cel T) out) := by
  have e : ∀ a b, rd (rd_L1 T a) b = cel T a b := fun _ _ => rfl
  intro d
  induction d with
  | zero =>
    intro i out hd hi o0 o1
    obtain rfl : i = l.length := by omega
    rw [List.drop_length]
    exact Ev.step (f := fun _ => some out) (fun k => by simp only [impl_Group_times.l0]; rw [if_neg (by omega)]) (Ev.now _)
  | succ d ih =>
    intro i out hd hi o0 o1
    have hlt : i < l.length := by omega
    have hxi := hx l[i] (List.getElem_mem hlt)
    have hr := g_row hG o0 o1
    have hc := g_rng hG o0 o1 hxi.1 hxi.2
    rw [List.drop_eq_getElem_cons hlt, List.foldl_cons]
    refine Ev.step (f := fun k => impl_Group_times.l0 k (cel T out l[i]) l l.length ((i + 1 : Nat) : Int) T) (fun k => by
      simp only [impl_Group_times.l0, e]
      rw [if_pos (by omega), if_pos (by omega), if_pos (by omega), if_pos o0, if_pos o1, rd_get hlt, if_pos hxi.1, if_pos (by omega), w64 (by omega)]
      rfl) (ih (i + 1) _ (by omega) (by omega) hc.1 hc.2)
theorem itimes {T : List (List Int)} (hG : IsG T) (l : List Int) (hl : l.length < 4611686018427387904) (hx : ∀ x ∈ l, 0 ≤ x ∧ x < (T.length : Int)) : Ev (fun k => impl_Group_times.f k T l) (l.foldl (cel T) 0) := by
  unfold impl_Group_times.f
  have hn := hG.1.1
  have h := itimes_l0 hG l hl hx l.length 0 0 (by omega) (by omega) (by omega) (by omega)
  rw [List.drop_zero] at h
  exact h
theorem itimes2 {T : List (List Int)} (hG : IsG T) {x y : Int} (x0 : 0 ≤ x) (x1 : x < T.length) (y0 : 0 ≤ y) (y1 : y < T.length) : Ev (fun k => impl_Group_times.f k T [x, y]) (cel T x y) := by
  have h := itimes hG [x, y] (by simp) (fun z hz => by
    rcases List.mem_cons.1 hz with rfl | hz
    · exact ⟨x0, x1⟩
    · rw [List.mem_singleton.1 hz]; exact ⟨y0, y1⟩)
  simp only [List.foldl_cons, List.foldl_nil] at h
  rw [(hG.2 x x0 x1).1.1] at h
  exact h
theorem iMod (M : Int) : impl_isModulus.f M = some (decide (2 ≤ M) && decide (M ≤ 12)) := by
  unfold impl_isModulus.f
  by_cases h : M ≥ 2
  · rw [if_pos h]; simp [show 2 ≤ M from h]
  · rw [if_neg h]; simp [show ¬ 2 ≤ M from h]
theorem iUnit (M u : Int) (hM : 2 ≤ M ∧ M ≤ 1000000) : Ev (fun k => impl_isUnit.f k M u) (decide ((1 ≤ u ∧ u < M) ∧ gcdI M u = 1)) := by
  unfold impl_isUnit.f
  refine Ev.ite (fun h1 => Ev.ite (fun h2 => Ev.bind (igcd (by omega) (by omega)) ?_) (fun h2 => ?_)) (fun h1 => ?_)
  · refine Ev.same (Ev.now _) ?_
    by_cases hg : gcdI M u = 1 <;> simp [hg]
    omega
  · exact Ev.same (Ev.now _) (by symm; simp; omega)
  · exact Ev.same (Ev.now _) (by symm; simp; omega)
theorem iIsM (T : List (List Int)) (M : Int) (U : List Int) (hG : IsG T) (r : Bool) (h1 : IsM T M U → r = true) (h2 : ¬ IsM T M U → r = false) : Ev (fun k => impl_isModule.f k T M U) r := by
  have e : ∀ a b, rd (rd_L1 T a) b = cel T a b := fun _ _ => rfl
  have hn := hG.1.1
  unfold impl_isModule.f
  refine Ev.bindc (iMod M) ?_
  have jno : (¬ IsM T M U) → Ev (fun k => impl_isModule.j0 k true T M U) r := fun h => by
    rw [h2 h]
    exact Ev.step (f := fun _ => some false) (fun k => by simp only [impl_isModule.j0, if_true]) (Ev.now _)
  by_cases hM : 2 ≤ M ∧ M ≤ 12
  · refine Ev.pos (by simp [hM]) (Ev.bindc (show impl_order.f T = some (T.length : Int) from rfl) ?_)
    refine Ev.ite (fun hl => Ev.pos (by omega) ?_) (fun hl => jno (fun h => hl h.2.1))
    by_cases ho : rd U 0 = 1
    · rw [ho, bne_self_eq_false]
      refine Ev.step (f := fun k => impl_isModule.l0 k U U.length 0 T M U) (fun k => by simp only [impl_isModule.j0, Bool.false_eq_true, if_false]) ?_
      refine Ev.loop (fun k i => impl_isModule.l0 k U U.length i T M U) T.length (fun i => (1 ≤ rd U i ∧ rd U i < M) ∧ gcdI M (rd U i) = 1) (bad := false) (by omega) ?_ ?_ ?_
      · intro i i0 i1 _ g n
        refine Ev.step (f := fun k => (impl_isUnit.f k M (rd U i)).bind fun t => (if t = true then (impl_isModule.l0 k U U.length (wrap64 (i + 1)) T M U) else (some false))) (fun k => by simp only [impl_isModule.l0]; rw [if_pos (by omega), if_pos i0, if_pos (by omega)]) ?_
        refine Ev.bind (iUnit M (rd U i) (by omega)) (Ev.ite (fun h => ?_) (fun h => ?_))
        · rw [w64 (by omega)]; exact g (of_decide_eq_true h)
        · rw [n (fun z => h (decide_eq_true z))]; exact Ev.now _
      · intro hu
        refine Ev.step (f := fun k => impl_isModule.l1 k T.length 0 T M U) (fun k => by simp only [impl_isModule.l0]; rw [if_neg (by omega)]; rfl) ?_
        refine Ev.loop (fun k i => impl_isModule.l1 k T.length i T M U) T.length (fun i => ∀ j, 0 ≤ j → j < (T.length : Int) → rd U (cel T i j) = rd U i * rd U j % M) (bad := false) (by omega) ?_ ?_ ?_
        · intro i i0 i1 _ g n
          refine Ev.step (f := fun k => impl_isModule.l2 k i T.length i T.length 0 T M U) (fun k => by simp only [impl_isModule.l1]; rw [if_pos (by omega)]; rfl) ?_
          refine Ev.loop (fun k j => impl_isModule.l2 k i T.length i T.length j T M U) T.length (fun j => rd U (cel T i j) = rd U i * rd U j % M) (bad := false) (by omega) ?_ ?_ n
          · intro j j0 j1 _ g2 n2
            have hc := g_rng hG i0 i1 j0 j1
            have ui := (hu i i0 i1).1
            have uj := (hu j j0 j1).1
            have hp := mul_bd (show 0 ≤ rd U i by omega) (show 0 ≤ rd U j by omega) (show rd U i ≤ 12 by omega) (show rd U j ≤ 12 by omega)
            refine Ev.step (f := fun k => (impl_Group_times.f k T [i, j]).bind fun t => (if 0 ≤ t then (if t < (U.length : Int) then (if 0 ≤ i then (if i < (U.length : Int) then (if 0 ≤ j then (if j < (U.length : Int) then (if M = 0 then (none) else (if (rd U t) = (Int.tmod (wrap64 ((rd U i) * (rd U j))) M) then (impl_isModule.l2 k i T.length i T.length (wrap64 (j + 1)) T M U) else (some false))) else (none)) else (none)) else (none)) else (none)) else (none)) else (none))) (fun k => by simp only [impl_isModule.l2]; rw [if_pos j1]) ?_
            refine Ev.bind (itimes2 hG i0 i1 j0 j1) ?_
            refine Ev.pos hc.1 (Ev.pos (by omega) (Ev.pos i0 (Ev.pos (by omega) (Ev.pos j0 (Ev.pos (by omega) (Ev.neg (by omega) ?_))))))
            rw [w64 (by omega), w64 (by omega), tmod_nn _ hp.1]
            refine Ev.ite g2 (fun h => ?_)
            rw [n2 h]; exact Ev.now _
          · intro hall
            exact Ev.step (f := fun k => impl_isModule.l1 k T.length (i + 1) T M U) (fun k => by simp only [impl_isModule.l2]; rw [if_neg (by omega), w64 (by omega)]) (g hall)
        · intro hall
          rw [h1 ⟨hM, hl, hu, hall⟩]
          exact Ev.step (f := fun _ => some true) (fun k => by simp only [impl_isModule.l1]; rw [if_neg (by omega)]) (Ev.now _)
        · intro hno; exact h2 (fun h => hno h.2.2.2)
      · intro hno; exact h2 (fun h => hno h.2.2.1)
    · rw [show (rd U 0 != 1) = true by simpa using ho]
      exact jno (fun h => ho (isM_one hG h))
  · refine Ev.neg (by simp; omega) (jno (fun h => hM h.1))

theorem iMods1 (T : List (List Int)) (hT : T.length ≤ 9223372036854775807) (M : Int) (U : List Int) (r : Bool) (h1 : IsG T ∧ IsM T M U → r = true) (h2 : ¬ (IsG T ∧ IsM T M U) → r = false) : Ev (fun k => impl_areModules.f k T [⟨M, U⟩]) r := by
  unfold impl_areModules.f
  refine Ev.step (f := fun k => (impl_IsGroup.f k T).bind fun t => (if t = true then ((impl_isModule.f k T M U).bind fun t => (if t = true then (impl_areModules.l0 k [⟨M, U⟩] 1 1 T) else (some false))) else (some false))) (fun k => by simp only [impl_areModules.l0]; rw [if_pos (by simp), if_pos (by omega), if_pos (by simp), w64 (by omega)]; rfl) ?_
  by_cases hG : IsG T
  · refine Ev.bind (iIs T hT true (fun _ => rfl) (fun h => absurd hG h)) (Ev.pos rfl ?_)
    by_cases hM : IsM T M U
    · refine Ev.bind (iIsM T M U hG true (fun _ => rfl) (fun h => absurd hM h)) (Ev.pos rfl ?_)
      rw [h1 ⟨hG, hM⟩]
      exact Ev.step (f := fun _ => some true) (fun k => by simp only [impl_areModules.l0]; rw [if_neg (by omega)]) (Ev.now _)
    · refine Ev.bind (iIsM T M U hG false (fun h => absurd h hM) (fun _ => rfl)) (Ev.neg (by simp) ?_)
      rw [h2 (fun h => hM h.2)]; exact Ev.now _
  · refine Ev.bind (iIs T hT false (fun h => absurd h hG) (fun _ => rfl)) (Ev.neg (by simp) ?_)
    rw [h2 (fun h => hG h.1)]; exact Ev.now _

/-! ## the code of a divisor -/
theorem half_div : ∀ M k : Fin 13, 2 ≤ k.val → k.val < M.val → M.val % k.val = 0 → k.val ≤ M.val / 2 := by decide
def dcode (M k : Int) : Int := if 2 ≤ k ∧ k < M ∧ M % k = 0 then 0 else 2
theorem dcode_half {M k : Int} (hM : 2 ≤ M ∧ M ≤ 12) : dcode M k = if 2 ≤ k ∧ k ≤ M / 2 ∧ M % k = 0 then 0 else 2 := by
  unfold dcode
  by_cases h : 2 ≤ k ∧ k < M ∧ M % k = 0
  · rw [if_pos h, if_pos]
    refine ⟨h.1, ?_, h.2.2⟩
    obtain ⟨M', rfl⟩ := Int.eq_ofNat_of_zero_le (show 0 ≤ M by omega)
    obtain ⟨k', rfl⟩ := Int.eq_ofNat_of_zero_le (show 0 ≤ k by omega)
    have := half_div ⟨M', by omega⟩ ⟨k', by omega⟩ (show 2 ≤ k' by omega) (show k' < M' by omega) (show M' % k' = 0 by exact_mod_cast h.2.2)
    have hq : k' ≤ M' / 2 := this
    exact_mod_cast hq
  · rw [if_neg h, if_neg (fun z => h ⟨z.1, by omega, z.2.2⟩)]
def IsGM (T : List (List Int)) (M : Int) (U : List Int) : Prop := IsG T ∧ IsM T M U
theorem sDiv (T : List (List Int)) (M : Int) (U : List Int) (k : Int) (r : Int) (h1 : IsGM T M U → r = dcode M k) (h2 : ¬ IsGM T M U → r = 1) : Ev (fun n => spec_l08Code.f n T M U k) r := by
  unfold spec_l08Code.f
  have jno : (¬ IsGM T M U) → Ev (fun n => spec_l08Code.j0 n k true M U) r := fun h => by
    rw [h2 h]
    exact Ev.step (f := fun _ => some 1) (fun n => by simp only [spec_l08Code.j0, if_true]) (Ev.now _)
  by_cases hG : IsG T
  · refine Ev.bind (sIs T true (fun _ => rfl) (fun h => absurd hG h)) (Ev.pos rfl ?_)
    by_cases hM : IsM T M U
    · refine Ev.bind (sIsM T M U hG true (fun _ => rfl) (fun h => absurd hM h)) ?_
      have hm := hM.1
      rw [h1 ⟨hG, hM⟩, dcode_half hm]
      refine Ev.step (f := fun _ => (spec_l01In.f k 2 (M / 2)).bind fun t => (if t = true then (if k = 0 then (none) else (if (Int.tmod M k) = 0 then (some 0) else (some 2))) else (some 2))) (fun n => by
        simp only [spec_l08Code.j0, Bool.not_true, Bool.false_eq_true, if_false]
        rw [tdiv_nn _ (by omega), w64 (by omega)]) ?_
      refine Ev.bindc (sIn _ _ _) ?_
      by_cases hk : 2 ≤ k ∧ k ≤ M / 2
      · refine Ev.pos (by simp [hk]) (Ev.neg (by omega) ?_)
        rw [tmod_nn _ (by omega)]
        refine Ev.ite (fun h => ?_) (fun h => ?_)
        · rw [if_pos ⟨hk.1, hk.2, h⟩]; exact Ev.now _
        · rw [if_neg (fun z => h z.2.2)]; exact Ev.now _
      · refine Ev.neg (by simp; omega) ?_
        rw [if_neg (fun z => hk ⟨z.1, z.2.1⟩)]; exact Ev.now _
    · exact Ev.bind (sIsM T M U hG false (fun h => absurd h hM) (fun _ => rfl)) (jno (fun h => hM h.2))
  · exact Ev.bind (sIs T false (fun h => absurd h hG) (fun _ => rfl)) (Ev.neg (by simp) (jno (fun h => hG h.1)))
theorem iMCode (T : List (List Int)) (hT : T.length ≤ 9223372036854775807) (M : Int) (U : List Int) (r : Int) (h1 : IsGM T M U → r = 0) (h2 : ¬ IsGM T M U → r = 1) : Ev (fun k => impl_moduleCode.f k T [⟨M, U⟩]) r := by
  unfold impl_moduleCode.f
  by_cases h : IsGM T M U
  · refine Ev.bind (iMods1 T hT M U true (fun _ => rfl) (fun z => absurd h z)) (Ev.pos rfl ?_)
    rw [h1 h]; exact Ev.now _
  · refine Ev.bind (iMods1 T hT M U false (fun z => absurd z h) (fun _ => rfl)) (Ev.neg (by simp) ?_)
    rw [h2 h]; exact Ev.now _
theorem iDiv (T : List (List Int)) (hT : T.length ≤ 9223372036854775807) (M : Int) (U : List Int) (k : Int) (r : Int) (h1 : IsGM T M U → r = dcode M k) (h2 : ¬ IsGM T M U → r = 1) : Ev (fun n => impl_divisorCode.f n T M U k) r := by
  unfold impl_divisorCode.f
  by_cases h : IsGM T M U
  · refine Ev.bind (iMCode T hT M U 0 (fun _ => rfl) (fun z => absurd h z)) (Ev.pos rfl ?_)
    have hm := h.2.1
    rw [h1 h]
    unfold dcode
    refine Ev.ite (fun z => ?_) (fun z => Ev.ite (fun z2 => ?_) (fun z2 => Ev.neg (by omega) ?_))
    · rw [if_neg (fun q => by omega)]; exact Ev.now _
    · rw [if_neg (fun q => by omega)]; exact Ev.now _
    · rw [tmod_nn _ (by omega)]
      refine Ev.ite (fun q => ?_) (fun q => ?_)
      · rw [if_pos ⟨by omega, by omega, q⟩]; exact Ev.now _
      · rw [if_neg (fun y => q y.2.2)]; exact Ev.now _
  · refine Ev.bind (iMCode T hT M U 1 (fun z => absurd z h) (fun _ => rfl)) (Ev.neg (by omega) ?_)
    rw [h2 h]; exact Ev.now _

/-! ## reduced modules -/
def redU (U : List Int) (k : Int) : List Int := U.map fun u => Int.tmod u k
theorem sReduced (M : Int) (U : List Int) (k : Int) (hk : k ≠ 0) (hU : U.length ≤ 1100000) : Ev (fun n => spec_l02Reduced.f n M U k) (k, redU U k) := by
  unfold spec_l02Reduced.f
  have all : ∀ (d i : Nat), U.length - i = d → i ≤ U.length → Ev (fun n => spec_l02Reduced.l0 n k i M U k (redU (U.take i) k)) (k, redU U k) := by
    intro d
    induction d with
    | zero =>
      intro i hd hi
      obtain rfl : i = U.length := by omega
      rw [List.take_length]
      exact Ev.step (f := fun _ => some (k, redU U k)) (fun n => by simp only [spec_l02Reduced.l0]; rw [if_neg (by omega)]) (Ev.now _)
    | succ d ih =>
      intro i hd hi
      have hlt : i < U.length := by omega
      refine Ev.step (f := fun n => spec_l02Reduced.l0 n k ((i + 1 : Nat) : Int) M U k (redU (U.take (i + 1)) k)) (fun n => ?_) (ih (i + 1) (by omega) (by omega))
      simp only [spec_l02Reduced.l0]
      rw [if_pos (by omega), if_pos (by omega), if_neg hk, if_pos (by simp [redU]; omega), rd_get hlt, w64 (by omega), List.take_succ_eq_append_getElem hlt]
      simp only [redU, List.map_append, List.map_cons, List.map_nil]
      rfl
  exact all U.length 0 (by omega) (by omega)
theorem iReduced (T : List (List Int)) (M : Int) (U : List Int) (k : Int) (hk : k ≠ 0) (hU : (U.length : Int) = T.length) (hT : T.length ≤ 1100000) : Ev (fun n => impl_reduced.f n T M U k) (k, redU U k) := by
  unfold impl_reduced.f impl_unitsOf_at123.f
  refine Ev.bind (a := (k, redU U k)) ?_ (Ev.now _)
  refine Ev.bindc (show impl_order.f T = some (T.length : Int) from rfl) ?_
  have all : ∀ (d i : Nat), U.length - i = d → i ≤ U.length → Ev (fun n => impl_unitsOf_at123.l0 n (T.length : Int) i [⟨M, U⟩] [k] k (redU (U.take i) k)) (k, redU U k) := by
    intro d
    induction d with
    | zero =>
      intro i hd hi
      obtain rfl : i = U.length := by omega
      rw [List.take_length]
      exact Ev.step (f := fun _ => some (k, redU U k)) (fun n => by simp only [impl_unitsOf_at123.l0]; rw [if_neg (by omega)]) (Ev.now _)
    | succ d ih =>
      intro i hd hi
      have hlt : i < U.length := by omega
      have hr : impl_reduced_1.f (i : Int) [⟨M, U⟩] [k] = some (Int.tmod U[i] k) := by
        unfold impl_reduced_1.f
        rw [if_pos (by simp), if_pos (by omega)]
        show (if (i : Int) < (U.length : Int) then (if 0 < (([k] : List Int).length : Int) then (if k = 0 then (none) else (some (Int.tmod (rd U i) k))) else (none)) else (none)) = _
        rw [if_pos (by omega), if_pos (by simp), if_neg hk, rd_get hlt]
      refine Ev.step (f := fun n => impl_unitsOf_at123.l0 n (T.length : Int) ((i + 1 : Nat) : Int) [⟨M, U⟩] [k] k (redU (U.take (i + 1)) k)) (fun n => ?_) (ih (i + 1) (by omega) (by omega))
      simp only [impl_unitsOf_at123.l0]
      rw [if_pos (by omega), hr, Option.bind_some, if_pos (by simp [redU]; omega), w64 (by omega), List.take_succ_eq_append_getElem hlt]
      simp only [redU, List.map_append, List.map_cons, List.map_nil]
      rfl
  exact all U.length 0 (by omega) (by omega)

/-! ## the laws' own words for lists, rows, groups, modules, cochains: size, copy, equality -/
theorem szI (l : List Int) {a : Int} (h0 : 0 ≤ a) (ha : a ≤ 1048576) (hl : l.length ≤ maxLen) : ∃ r, laws_szInt64S.f l a = some r ∧ (r < 0 ∨ 0 ≤ r ∧ r ≤ a ∧ (l.length : Int) ≤ 1048576) := by
  unfold laws_szInt64S.f
  unfold maxLen at hl
  rw [w64 (by omega)]
  by_cases h : a - (l.length : Int) < 0
  · exact ⟨-1, if_pos h, .inl (by omega)⟩
  · exact ⟨_, if_neg h, .inr (by omega)⟩
theorem szII (T : List (List Int)) {a : Int} (h0 : 0 ≤ a) (ha : a ≤ 1048576) (hl : T.length ≤ maxLen) (hr : ∀ r ∈ T, r.length ≤ maxLen) : ∃ r, Ev (fun k => laws_szInt64SS.f k T a) r ∧ (r < 0 ∨ 0 ≤ r ∧ r ≤ a ∧ (T.length : Int) ≤ 1048576 ∧ ∀ r ∈ T, (r.length : Int) ≤ 1048576) := by
  unfold laws_szInt64SS.f
  have hl' := hl
  unfold maxLen at hl'
  rw [w64 (by omega)]
  by_cases h : a - (T.length : Int) < 0
  · exact ⟨-1, Ev.pos h (Ev.now _), .inl (by omega)⟩
  · have all : ∀ (d i : Nat) (b : Int), T.length - i = d → i ≤ T.length → 0 ≤ b → b ≤ a → (∀ r ∈ T.take i, (r.length : Int) ≤ 1048576) → ∃ r, Ev (fun k => laws_szInt64SS.l0 k T b i) r ∧ (r < 0 ∨ 0 ≤ r ∧ r ≤ a ∧ ∀ r ∈ T, (r.length : Int) ≤ 1048576) := by
      intro d
      induction d with
      | zero =>
        intro i b hd hi b0 b1 ht
        rw [List.take_of_length_le (by omega)] at ht
        exact ⟨b, Ev.step (f := fun _ => some b) (fun k => by simp only [laws_szInt64SS.l0]; rw [if_neg (by omega)]) (Ev.now _), .inr ⟨b0, b1, ht⟩⟩
      | succ d ih =>
        intro i b hd hi b0 b1 ht
        have hlt : i < T.length := by omega
        have eT : rd_L1 T (i : Int) = T[i] := by unfold rd_L1; rw [Int.toNat_natCast]; simp [hlt]
        obtain ⟨q, hq, hs⟩ := szI T[i] b0 (by omega) (hr _ (List.getElem_mem hlt))
        have st : ∀ k, laws_szInt64SS.l0 (k + 1) T b i = (laws_szInt64S.f T[i] b).bind fun t => (if t < 0 then (some (-1)) else (laws_szInt64SS.l0 k T t ((i + 1 : Nat) : Int))) := fun k => by
          simp only [laws_szInt64SS.l0]
          rw [if_pos (by omega), if_pos (by omega), eT, w64 (by omega)]
          rfl
        by_cases hq0 : q < 0
        · exact ⟨-1, Ev.step st (Ev.bindc hq (Ev.pos hq0 (Ev.now _))), .inl (by omega)⟩
        · have hs' : 0 ≤ q ∧ q ≤ b ∧ (T[i].length : Int) ≤ 1048576 := by omega
          obtain ⟨r, hr1, hr2⟩ := ih (i + 1) q (by omega) (by omega) (by omega) (by omega) (fun r hr => by
            rw [List.take_succ_eq_append_getElem hlt] at hr
            rcases List.mem_append.1 hr with hr | hr
            · exact ht r hr
            · rw [List.mem_singleton.1 hr]; exact hs'.2.2)
          exact ⟨r, Ev.step st (Ev.bindc hq (Ev.neg hq0 hr1)), hr2⟩
    obtain ⟨r, h1, h2⟩ := all T.length 0 (a - T.length) (by omega) (by omega) (by omega) (by omega) (fun r hr => by simp at hr)
    exact ⟨r, Ev.neg h h1, h2.elim .inl (fun h2 => .inr ⟨h2.1, h2.2.1, by omega, h2.2.2⟩)⟩
theorem szG (T : List (List Int)) {a : Int} (h0 : 0 ≤ a) (ha : a ≤ 1048576) (hl : T.length ≤ maxLen) (hr : ∀ r ∈ T, r.length ≤ maxLen) : ∃ r, Ev (fun k => laws_szGroup.f k T a) r ∧ (r < 0 ∨ 0 ≤ r ∧ r ≤ a ∧ (T.length : Int) ≤ 1048576 ∧ ∀ r ∈ T, (r.length : Int) ≤ 1048576) := by
  unfold laws_szGroup.f
  obtain ⟨q, h1, h2⟩ := szII T h0 ha hl hr
  by_cases hq : q < 0
  · exact ⟨-1, Ev.bind h1 (Ev.pos hq (Ev.now _)), .inl (by omega)⟩
  · exact ⟨q, Ev.bind h1 (Ev.neg hq (Ev.now _)), h2⟩
theorem szM (M : Int) (l : List Int) {a : Int} (h0 : 0 ≤ a) (ha : a ≤ 1048576) (hl : l.length ≤ maxLen) : ∃ r, laws_szModule.f M l a = some r ∧ (r < 0 ∨ 0 ≤ r ∧ r ≤ a ∧ (l.length : Int) ≤ 1048576) := by
  unfold laws_szModule.f
  obtain ⟨q, h1, h2⟩ := szI l h0 ha hl
  rw [h1, Option.bind_some]
  by_cases hq : q < 0
  · exact ⟨-1, if_pos hq, .inl (by omega)⟩
  · exact ⟨q, if_neg hq, h2⟩
theorem toI (l : List Int) (hl : (l.length : Int) ≤ 1048576) : Ev (fun k => laws_toInt64S.f k l) l := by
  unfold laws_toInt64S.f
  refine Ev.pos (by omega) (Ev.pos (by omega) ?_)
  rw [Int.toNat_natCast]
  have all : ∀ (d i : Nat), l.length - i = d → i ≤ l.length → Ev (fun k => laws_toInt64S.l0 k l (l.take i ++ List.replicate (l.length - i) 0) i) l := by
    intro d
    induction d with
    | zero =>
      intro i hd hi
      obtain rfl : i = l.length := by omega
      rw [List.take_length, Nat.sub_self, List.replicate_zero, List.append_nil]
      exact Ev.step (f := fun _ => some l) (fun k => by simp only [laws_toInt64S.l0]; rw [if_neg (by omega)]) (Ev.now _)
    | succ d ih =>
      intro i hd hi
      have hlt : i < l.length := by omega
      refine Ev.step (f := fun k => laws_toInt64S.l0 k l (l.take (i + 1) ++ List.replicate (l.length - (i + 1)) 0) ((i + 1 : Nat) : Int)) (fun k => ?_) (ih (i + 1) (by omega) (by omega))
      simp only [laws_toInt64S.l0]
      rw [if_pos (by omega), if_pos (by omega), if_pos (by simp; omega), rd_get hlt, w64 (by omega), Int.toNat_natCast]
      have e : (l.take i ++ List.replicate (l.length - i) 0).set i l[i] = l.take (i + 1) ++ List.replicate (l.length - (i + 1)) 0 := by
        rw [List.set_append_right _ _ (show (List.take i l).length ≤ i by rw [List.length_take]; omega), List.length_take, Nat.min_eq_left (by omega), Nat.sub_self, show l.length - i = (l.length - (i + 1)) + 1 by omega, List.replicate_succ, List.set_cons_zero, List.take_succ_eq_append_getElem hlt, List.append_assoc]
        rfl
      rw [e]
      rfl
  have h := all l.length 0 (by omega) (by omega)
  rw [List.take_zero, List.nil_append, Nat.sub_zero] at h
  exact h
theorem toII (T : List (List Int)) (hl : (T.length : Int) ≤ 1048576) (hr : ∀ r ∈ T, (r.length : Int) ≤ 1048576) : Ev (fun k => laws_toInt64SS.f k T) T := by
  unfold laws_toInt64SS.f
  refine Ev.pos (by omega) (Ev.pos (by omega) ?_)
  rw [Int.toNat_natCast]
  have all : ∀ (d i : Nat), T.length - i = d → i ≤ T.length → Ev (fun k => laws_toInt64SS.l0 k T (T.take i ++ List.replicate (T.length - i) []) i) T := by
    intro d
    induction d with
    | zero =>
      intro i hd hi
      obtain rfl : i = T.length := by omega
      rw [List.take_length, Nat.sub_self, List.replicate_zero, List.append_nil]
      exact Ev.step (f := fun _ => some T) (fun k => by simp only [laws_toInt64SS.l0]; rw [if_neg (by omega)]) (Ev.now _)
    | succ d ih =>
      intro i hd hi
      have hlt : i < T.length := by omega
      have eT : rd_L1 T (i : Int) = T[i] := by unfold rd_L1; rw [Int.toNat_natCast]; simp [hlt]
      refine Ev.step (f := fun k => (laws_toInt64S.f k T[i]).bind fun t => laws_toInt64SS.l0 k T ((T.take i ++ List.replicate (T.length - i) []).set i t) ((i + 1 : Nat) : Int)) (fun k => by
        simp only [laws_toInt64SS.l0]
        rw [if_pos (by omega), if_pos (by omega), eT]
        refine congrArg _ (funext fun t => ?_)
        rw [if_pos (by simp; omega), w64 (by omega), Int.toNat_natCast]
        rfl) (Ev.bind (toI T[i] (hr _ (List.getElem_mem hlt))) ?_)
      have e : (T.take i ++ List.replicate (T.length - i) []).set i T[i] = T.take (i + 1) ++ List.replicate (T.length - (i + 1)) [] := by
        rw [List.set_append_right _ _ (show (List.take i T).length ≤ i by rw [List.length_take]; omega), List.length_take, Nat.min_eq_left (by omega), Nat.sub_self, show T.length - i = (T.length - (i + 1)) + 1 by omega, List.replicate_succ, List.set_cons_zero, List.take_succ_eq_append_getElem hlt, List.append_assoc]
        rfl
      rw [e]
      exact ih (i + 1) (by omega) (by omega)
  have h := all T.length 0 (by omega) (by omega)
  rw [List.take_zero, List.nil_append, Nat.sub_zero] at h
  exact h
theorem toG (T : List (List Int)) (hl : (T.length : Int) ≤ 1048576) (hr : ∀ r ∈ T, (r.length : Int) ≤ 1048576) : Ev (fun k => laws_toGroup.f k T) T := by
  unfold laws_toGroup.f
  exact Ev.bind (toII T hl hr) (Ev.now _)
theorem toM (M : Int) (U : List Int) (hl : (U.length : Int) ≤ 1048576) : Ev (fun k => laws_toModule.f k M U) (M, U) := by
  unfold laws_toModule.f
  exact Ev.bind (toI U hl) (Ev.now _)
theorem eqI (l : List Int) (hl : (l.length : Int) ≤ 1048576) : Ev (fun k => laws_eqInt64S.f k l l) true := by
  unfold laws_eqInt64S.f
  refine Ev.pos rfl ?_
  refine Ev.congr (f := fun k => gEq k l l 0) (fun k => ?_) (gEq_refl l (by omega) l.length 0 rfl)
  have e : ∀ k (a b : List Int) i, laws_eqInt64S.l0 k a b i = gEq k a b i := by
    intro k
    induction k with
    | zero => intros; rfl
    | succ k ih => intros; simp only [laws_eqInt64S.l0, gEq, ih]
  exact e k l l 0
theorem eqII (T : List (List Int)) (hl : (T.length : Int) ≤ 1048576) (hr : ∀ r ∈ T, (r.length : Int) ≤ 1048576) : Ev (fun k => laws_eqInt64SS.f k T T) true := by
  unfold laws_eqInt64SS.f
  refine Ev.pos rfl ?_
  refine Ev.loop (fun k i => laws_eqInt64SS.l0 k T T i) T.length (fun _ => True) (bad := true) (by omega) ?_ ?_ (fun _ => rfl)
  · intro i i0 i1 _ g _
    obtain ⟨i, rfl⟩ := Int.eq_ofNat_of_zero_le i0
    have hlt : i < T.length := by omega
    have eT : rd_L1 T (i : Int) = T[i] := by unfold rd_L1; rw [Int.toNat_natCast]; simp [hlt]
    refine Ev.step (f := fun k => (laws_eqInt64S.f k T[i] T[i]).bind fun t => (if t = true then laws_eqInt64SS.l0 k T T ((i : Int) + 1) else some false)) (fun k => by
      simp only [laws_eqInt64SS.l0]
      rw [if_pos (by omega), if_pos (by omega), if_pos (by omega), eT, w64 (by omega)]) ?_
    exact Ev.bind (eqI T[i] (hr _ (List.getElem_mem hlt))) (Ev.pos rfl (g trivial))
  · intro _
    exact Ev.step (f := fun _ => some true) (fun k => by simp only [laws_eqInt64SS.l0]; rw [if_neg (by omega)]) (Ev.now _)
theorem eqG (T : List (List Int)) (hl : (T.length : Int) ≤ 1048576) (hr : ∀ r ∈ T, (r.length : Int) ≤ 1048576) : Ev (fun k => laws_eqGroup.f k T T) true := by
  unfold laws_eqGroup.f
  exact Ev.bind (eqII T hl hr) (Ev.pos rfl (Ev.now _))
theorem eqM (M : Int) (U : List Int) (hl : (U.length : Int) ≤ 1048576) : Ev (fun k => laws_eqModule.f k M U M U) true := by
  unfold laws_eqModule.f
  exact Ev.pos rfl (Ev.bind (eqI U hl) (Ev.pos rfl (Ev.now _)))

/-! ## the laws' marks -/
theorem markI (l : List Int) {a : Int} (h0 : 0 ≤ a) (hl : a + l.length < 4611686018427387904) : Ev (fun k => laws_markInt64S.f k l a) (a + (l.length : Int), marks a l.length) := by
  unfold laws_markInt64S.f
  refine Ev.congr (f := fun k => gMark k l a 0) (fun k => ?_) (gMark_all l h0 hl)
  have e : ∀ k (a : List Int) b i, laws_markInt64S.l0 k a b i = gMark k a b i := by
    intro k
    induction k with
    | zero => intros; rfl
    | succ k ih => intros; simp only [laws_markInt64S.l0, gMark, ih]
  exact e k l a 0
theorem heldI {a : Int} (n : Nat) (h0 : 0 ≤ a) (hn : a + n < 4611686018427387904) : Ev (fun k => laws_heldInt64S.f k (marks a n) a) (a + n) := by
  unfold laws_heldInt64S.f
  refine Ev.congr (f := fun k => gHeld k (marks a n) a 0) (fun k => ?_) (gHeld_all n h0 hn)
  have e : ∀ k (a : List Int) b i, laws_heldInt64S.l0 k a b i = gHeld k a b i := by
    intro k
    induction k with
    | zero => intros; rfl
    | succ k ih => intros; simp only [laws_heldInt64S.l0, gHeld, ih]
  exact e k _ a 0
/-- A table's marks: some number not below the first, and not too far above. -/
theorem markII (T : List (List Int)) {a : Int} (h0 : 0 ≤ a) (hl : (T.length : Int) ≤ 1048576) (hr : ∀ r ∈ T, (r.length : Int) ≤ 1048576) (ha : a ≤ 1048576) : ∃ b T', Ev (fun k => laws_markInt64SS.f k T a) (b, T') ∧ a ≤ b ∧ b ≤ a + 1048576 * T.length := by
  unfold laws_markInt64SS.f
  have all : ∀ (d i : Nat) (c : Int) (S : List (List Int)), S.length - i = d → i ≤ S.length → S.length = T.length → (∀ r ∈ S.drop i, (r.length : Int) ≤ 1048576) → a ≤ c → c ≤ a + 1048576 * i → ∃ b T', Ev (fun k => laws_markInt64SS.l0 k S c i) (b, T') ∧ a ≤ b ∧ b ≤ a + 1048576 * T.length := by
    intro d
    induction d with
    | zero =>
      intro i c S hd hi hS hr c0 c1
      exact ⟨c, S, Ev.step (f := fun _ => some (c, S)) (fun k => by simp only [laws_markInt64SS.l0]; rw [if_neg (by omega)]) (Ev.now _), c0, by omega⟩
    | succ d ih =>
      intro i c S hd hi hS hr c0 c1
      have hlt : i < S.length := by omega
      have eT : rd_L1 S (i : Int) = S[i] := by unfold rd_L1; rw [Int.toNat_natCast]; simp [hlt]
      have hx : (S[i].length : Int) ≤ 1048576 := hr _ (by rw [List.drop_eq_getElem_cons hlt]; exact List.mem_cons_self)
      obtain ⟨b, T', hb, h1, h2⟩ := ih (i + 1) (c + (S[i].length : Int)) (S.set i (marks c S[i].length)) (by simp; omega) (by simp; omega) (by simpa using hS) (fun r hr2 => by
        rw [List.drop_set_of_lt (by omega)] at hr2
        exact hr r (by rw [List.drop_eq_getElem_cons hlt]; exact List.mem_cons_of_mem _ hr2)) (by omega) (by omega)
      refine ⟨b, T', Ev.step (f := fun k => (laws_markInt64S.f k S[i] c).bind fun bt => laws_markInt64SS.l0 k (S.set i bt.2) bt.1 ((i + 1 : Nat) : Int)) (fun k => by
        simp only [laws_markInt64SS.l0]
        rw [if_pos (by omega), if_pos (by omega), eT, w64 (by omega), Int.toNat_natCast]
        rfl) (Ev.bind (markI S[i] (by omega) (by omega)) hb), h1, h2⟩
  have h := all T.length 0 a T (by omega) (by omega) rfl (fun r hr2 => hr r (by simpa using hr2)) (by omega) (by omega)
  simpa using h
theorem markG (T : List (List Int)) {a : Int} (h0 : 0 ≤ a) (hl : (T.length : Int) ≤ 1048576) (hr : ∀ r ∈ T, (r.length : Int) ≤ 1048576) (ha : a ≤ 1048576) : ∃ b T', Ev (fun k => laws_markGroup.f k T a) (b, T') ∧ a ≤ b ∧ b ≤ a + 1048576 * T.length := by
  unfold laws_markGroup.f
  obtain ⟨b, T', h, h1, h2⟩ := markII T h0 hl hr ha
  exact ⟨b, T', Ev.bind h (Ev.now _), h1, h2⟩
theorem markM (M : Int) (U : List Int) {a : Int} (h0 : 0 ≤ a) (hl : a + U.length < 4611686018427387904) : Ev (fun k => laws_markModule.f k M U a) (a + (U.length : Int), marks a U.length) := by
  unfold laws_markModule.f
  exact Ev.bind (markI U h0 hl) (Ev.now _)

theorem heldM (M : Int) {a : Int} (n : Nat) (h0 : 0 ≤ a) (hn : a + n < 4611686018427387904) : Ev (fun k => laws_heldModule.f k M (marks a n) a) (a + n) := by
  unfold laws_heldModule.f
  exact Ev.bind (heldI n h0 hn) (Ev.neg (by omega) (Ev.now _))

theorem both (T : List (List Int)) (hT : T.length ≤ 1048576) (M : Int) (U : List Int) (hU : (U.length : Int) ≤ 1048576) (k : Int) :
    ∃ D V c, Ev (fun n => spec_OuterModule.f n T M U k) (D, V, c) ∧ Ev (fun n => impl_OuterModule.f n T M U k) (D, V, c) ∧ (V.length : Int) ≤ 1048576 := by
  unfold spec_OuterModule.f impl_OuterModule.f
  by_cases h : IsGM T M U
  · have h1 := sDiv T M U k (dcode M k) (fun _ => rfl) (fun z => absurd h z)
    have h2 := iDiv T (by omega) M U k (dcode M k) (fun _ => rfl) (fun z => absurd h z)
    have hm := h.2.1
    by_cases hd : dcode M k = 0
    · have hk : 2 ≤ k ∧ k < M := by
        unfold dcode at hd
        by_cases q : 2 ≤ k ∧ k < M ∧ M % k = 0
        · exact ⟨q.1, q.2.1⟩
        · rw [if_neg q] at hd; omega
      have hq : 1 ≤ M / k ∧ M / k ≤ 12 := ⟨Int.le_ediv_of_mul_le (show 0 < k by omega) (show 1 * k ≤ M by omega), by
        have := Int.ediv_le_self k (show 0 ≤ M by omega)
        omega⟩
      have e1 : wrap64 (Int.tdiv M k) = M / k := by rw [tdiv_nn _ (by omega), w64 (by omega)]
      refine ⟨M / k, redU U (M / k), 0, Ev.bind h1 (Ev.pos hd (Ev.neg (by omega) ?_)), Ev.bind h2 (Ev.pos hd (Ev.neg (by omega) ?_)), by simp [redU]; omega⟩
      · rw [e1]; exact Ev.bind (sReduced M U (M / k) (by omega) (by omega)) (Ev.now _)
      · rw [e1]; exact Ev.bind (iReduced T M U (M / k) (by omega) h.2.2.1 (by omega)) (Ev.now _)
    · exact ⟨0, [], dcode M k, Ev.bind h1 (Ev.neg hd (Ev.now _)), Ev.bind h2 (Ev.neg hd (Ev.now _)), by simp⟩
  · exact ⟨0, [], 1, Ev.bind (sDiv T M U k 1 (fun z => absurd z h) (fun _ => rfl)) (Ev.neg (by omega) (Ev.now _)), Ev.bind (iDiv T (by omega) M U k 1 (fun z => absurd z h) (fun _ => rfl)) (Ev.neg (by omega) (Ev.now _)), by simp⟩
theorem FnExactOuterModule : laws_FnExactOuterModule.Pure := by
  intro T M U k hT hrows hM hU _ hk
  have hrl : ∀ r ∈ T, r.length ≤ maxLen := fun r hr => (hrows r hr).1
  suffices h : Ev (fun n => laws_FnExactOuterModule.f n T M U k) true from h.rounds
  unfold laws_FnExactOuterModule.f
  obtain ⟨a, a1, a2⟩ := szG T (a := 1048576) (by omega) (by omega) hT hrl
  refine Ev.bind a1 ?_
  by_cases ha : a < 0
  · exact Ev.pos ha (Ev.now _)
  · have a3 := a2.resolve_left ha
    refine Ev.neg ha ?_
    obtain ⟨b, b1, b2⟩ := szM M U (a := a) (by omega) (by omega) hU
    refine Ev.bindc b1 ?_
    by_cases hb : b < 0
    · exact Ev.pos hb (Ev.now _)
    · have b3 := b2.resolve_left hb
      refine Ev.neg hb ?_
      have tG := toG T a3.2.2.1 a3.2.2.2
      have tM := toM M U b3.2.2
      obtain ⟨D, V, c, s1, i1, hV⟩ := both T (by omega) M U b3.2.2 k
      have eV := eqM D V hV
      have hend : Ev (fun n => laws_FnExactOuterModule.j2 n (1 + (V.length : Int)) false D (marks 1 V.length)) true := by
        refine Ev.step (f := fun n => (laws_heldModule.f n D (marks 1 V.length) 1).bind fun t => (if t < 0 then (some false) else (if t = 1 + (V.length : Int) then (some true) else (some false)))) (fun n => by simp only [laws_FnExactOuterModule.j2, Bool.false_eq_true, if_false]) ?_
        exact Ev.bind (heldM D V.length (by omega) (by omega)) (Ev.neg (by omega) (Ev.pos rfl (Ev.now _)))
      have hmid : Ev (fun n => laws_FnExactOuterModule.j1 n k c false T M U D V D V) true := by
        refine Ev.step (f := fun n => ((laws_markModule.f n D V 1).bind fun bt => ((laws_heldModule.f n D bt.2 1).bind fun t => (if t < 0 then (some false) else (if t = bt.1 then ((laws_toGroup.f n T).bind fun t3 => ((laws_toModule.f n M U).bind fun bt3 => ((impl_OuterModule.f n t3 bt3.1 bt3.2 k).bind fun bt4 => ((laws_eqModule.f n bt4.1 bt4.2.1 D V).bind fun t5 => (if t5 = true then (laws_FnExactOuterModule.j2 n bt.1 (bt4.2.2 != c) D bt.2) else (laws_FnExactOuterModule.j2 n bt.1 true D bt.2)))))) else (some false)))))) (fun n => by simp only [laws_FnExactOuterModule.j1, Bool.false_eq_true, if_false]) ?_
        refine Ev.bind (markM D V (by omega) (by omega)) (Ev.bind (heldM D V.length (by omega) (by omega)) (Ev.neg (by omega) (Ev.pos rfl (Ev.bind tG (Ev.bind tM (Ev.bind i1 (Ev.bind eV (Ev.pos rfl ?_))))))))
        simp only [bne_self_eq_false]
        exact hend
      refine Ev.bind tG (Ev.bind tM (Ev.bind s1 (Ev.bind tG (Ev.bind tM (Ev.bind i1 (Ev.bind eV (Ev.pos rfl ?_)))))))
      simp only [bne_self_eq_false]
      obtain ⟨q, T', q1, q2, q3⟩ := markG T (a := 1) (by omega) a3.2.2.1 a3.2.2.2 (by omega)
      refine Ev.step (f := fun n => ((laws_toGroup.f n T).bind fun t323 => ((laws_eqGroup.f n T t323).bind fun t326 => (if t326 = true then ((laws_toModule.f n M U).bind fun bt327 => ((laws_eqModule.f n M U bt327.1 bt327.2).bind fun t331 => (if t331 = true then ((laws_markGroup.f n T 1).bind fun bt332 => ((laws_markModule.f n M U bt332.1).bind fun bt334 => (if bt334.1 < 0 then (laws_FnExactOuterModule.j1 n k c true T M U D V D V) else ((laws_eqModule.f n D V D V).bind fun t336 => (if t336 = true then (laws_FnExactOuterModule.j1 n k c (c != c) T M U D V D V) else (laws_FnExactOuterModule.j1 n k c true T M U D V D V)))))) else (some false)))) else (some false))))) (fun n => by simp only [laws_FnExactOuterModule.j0, Bool.false_eq_true, if_false]) ?_
      refine Ev.bind tG (Ev.bind (eqG T a3.2.2.1 a3.2.2.2) (Ev.pos rfl (Ev.bind tM (Ev.bind (eqM M U b3.2.2) (Ev.pos rfl (Ev.bind q1 (Ev.bind (markM M U (by omega) (by omega)) (Ev.neg (by omega) (Ev.bind eV (Ev.pos rfl ?_))))))))))
      simp only [bne_self_eq_false]
      exact hmid

end Go.Proofs.Ytkpcogaahgfmcaa.Pure
