/- Own plain lemmas about loops over lists, from some number of rounds on; no program in sight. -/
import Derived.Test.YtkpcogaahgfmcaaWWordsZ2
import Derived.Test.YtkpcogaahgfmcaaWLastZ2
import Derived.Test.YtkpcogaahgfmcaaWMoreZ2
namespace Go.Proofs.Ytkpcogaahgfmcaa.XPure
open Go.RowKit Go.Proofs.YtkpcogaahgfmcaaW.PrintWords Go.Proofs.YtkpcogaahgfmcaaW.PrintLast Go.Proofs.YtkpcogaahgfmcaaW.PrintMore

theorem w64 {n : Int} (h : -9223372036854775808 ≤ n ∧ n ≤ 9223372036854775807) : wrap64 n = n := by unfold wrap64; omega
theorem wfm {m : Int} (h : (Lit.int .i64 m).wf = true) : -9223372036854775808 ≤ m ∧ m ≤ 9223372036854775807 := by
  have hmin : IntKind.i64.min = -9223372036854775808 := rfl
  have hmax : IntKind.i64.max = 9223372036854775807 := rfl
  simp only [Lit.wf, Bool.and_eq_true, decide_eq_true_eq] at h
  omega
theorem Ev.ite {α : Type} {p : Prop} [Decidable p] {g f : Nat → Option α} {r : α} (h1 : p → Ev g r) (h2 : ¬ p → Ev f r) : Ev (fun k => if p then g k else f k) r := by
  by_cases h : p
  · simp only [if_pos h]; exact h1 h
  · simp only [if_neg h]; exact h2 h
theorem Ev.pos {α : Type} {p : Prop} [Decidable p] {g f : Nat → Option α} {r : α} (h : p) (h1 : Ev g r) : Ev (fun k => if p then g k else f k) r := by simp only [if_pos h]; exact h1
theorem Ev.neg {α : Type} {p : Prop} [Decidable p] {g f : Nat → Option α} {r : α} (h : ¬ p) (h1 : Ev f r) : Ev (fun k => if p then g k else f k) r := by simp only [if_neg h]; exact h1
theorem Ev.same {α : Type} {g : Nat → Option α} {r r' : α} (h : Ev g r) (e : r = r') : Ev g r' := e ▸ h
theorem Ev.const {α : Type} {o : Option α} {r : α} (h : o = some r) : Ev (fun _ => o) r := by subst h; exact Ev.now r
/-- A value known outright, bound. -/
theorem Ev.bindc {α β : Type} {o : Option α} {f : Nat → α → Option β} {a : α} {r : β} (h : o = some a) (k : Ev (fun n => f n a) r) : Ev (fun n => o.bind (f n)) r := by subst h; exact k
theorem rd_nat (l : List Int) (i : Nat) : rd l (i : Int) = l.getD i 0 := by unfold rd; rw [Int.toNat_natCast]
theorem rd_get {l : List Int} {i : Nat} (h : i < l.length) : rd l (i : Int) = l[i] := by rw [rd_nat]; simp [h]
theorem tmod_nn {a : Int} (b : Int) (h : 0 ≤ a) : Int.tmod a b = a % b := Int.tmod_eq_emod_of_nonneg h
theorem tdiv_nn {a : Int} (b : Int) (h : 0 ≤ a) : Int.tdiv a b = a / b := Int.tdiv_eq_ediv_of_nonneg h
theorem mul_bd {a b m n : Int} (ha : 0 ≤ a) (hb : 0 ≤ b) (h1 : a ≤ m) (h2 : b ≤ n) : 0 ≤ a * b ∧ a * b ≤ m * n :=
  ⟨Int.mul_nonneg ha hb, Int.mul_le_mul h1 h2 hb (by omega)⟩

/-- A loop over 0 to n - 1 that goes on where all is good, and stops with 'bad' where it is not. -/
theorem Ev.loop {α : Type} (L : Nat → Int → Option α) (n : Int) (good : Int → Prop) {r bad : α} (h0 : 0 ≤ n)
    (body : ∀ i, 0 ≤ i → i < n → (∀ j, 0 ≤ j → j < i → good j) → (good i → Ev (fun k => L k (i + 1)) r) → (¬ good i → r = bad) → Ev (fun k => L k i) r)
    (fin : (∀ i, 0 ≤ i → i < n → good i) → Ev (fun k => L k n) r)
    (no : (¬ ∀ i, 0 ≤ i → i < n → good i) → r = bad) : Ev (fun k => L k 0) r := by
  have all : ∀ (d : Nat) (i : Int), n - i = d → 0 ≤ i → (∀ j, 0 ≤ j → j < i → good j) → Ev (fun k => L k i) r := by
    intro d
    induction d with
    | zero =>
      intro i hd hi hj
      obtain rfl : i = n := by omega
      exact fin hj
    | succ d ih =>
      intro i hd hi hj
      refine body i hi (by omega) hj (fun hg => ih (i + 1) (by omega) (by omega) (fun j h1 h2 => ?_)) (fun hg => no (fun h => hg (h i hi (by omega))))
      by_cases e : j = i
      · subst e; exact hg
      · exact hj j h1 (by omega)
  exact all n.toNat 0 (by omega) (Int.le_refl _) (fun j h1 h2 => by omega)

/-! ## the numbers 0 to n - 1 -/
def upto (n : Nat) : List Int := (List.range n).map fun (i : Nat) => (i : Int)
theorem upto_length (n : Nat) : (upto n).length = n := by simp [upto]
theorem upto_succ (n : Nat) : upto (n + 1) = upto n ++ [(n : Int)] := by simp [upto, List.range_succ]
theorem mem_upto {n : Nat} {x : Int} : x ∈ upto n ↔ 0 ≤ x ∧ x < n := by
  unfold upto
  constructor
  · intro h
    obtain ⟨i, hi, rfl⟩ := List.mem_map.1 h
    have := List.mem_range.1 hi
    omega
  · intro h
    exact List.mem_map.2 ⟨x.toNat, List.mem_range.2 (by omega), by omega⟩
theorem upto_get {n i : Nat} (h : i < n) : rd (upto n) (i : Int) = i := by rw [rd_get (by rw [upto_length]; exact h)]; simp [upto]
def gCount : Nat → List Int → Int → Int → Option (List Int)
  | 0, _, _, _ => none
  | k + 1, x3, x6, x7 => if x7 < x6 then (if x3.length < 17592186044416 then (gCount k (x3 ++ [x7]) x6 (wrap64 (x7 + 1))) else (none)) else (some x3)
theorem gCount_ev : ∀ (d i : Nat) (n : Int), n ≤ 1000000000 → n - i = d → Ev (fun k => gCount k (upto i) n i) (upto n.toNat) := by
  intro d
  induction d with
  | zero =>
    intro i n _ hd
    refine Ev.step (f := fun _ => some (upto i)) (fun k => by simp only [gCount]; rw [if_neg (by omega)]) ?_
    rw [show n.toNat = i by omega]
    exact Ev.now _
  | succ d ih =>
    intro i n hn hd
    refine Ev.step (f := fun k => gCount k (upto (i + 1)) n ((i + 1 : Nat) : Int)) (fun k => ?_) (ih (i + 1) n hn (by omega))
    simp only [gCount]
    rw [if_pos (by omega), if_pos (by rw [upto_length]; omega), w64 (by omega), upto_succ]
    rfl

/-! ## the first element for which something is so; all others -/
def gIdx (C : Nat → Int → Option Bool) : Nat → List Int → Int → Int → Option Int
  | 0, _, _, _ => none
  | k + 1, x0, x7, x8 => if x8 < x7 then (if 0 ≤ x8 then (if x8 < (x0.length : Int) then ((C k (rd x0 x8)).bind fun t => (if t = true then (some x8) else (gIdx C k x0 x7 (wrap64 (x8 + 1))))) else (none)) else (none)) else (some (-1))
theorem gIdx_ev (C : Nat → Int → Option Bool) (p : Int → Bool) (l : List Int) (hl : l.length < 4611686018427387904) (hp : ∀ x ∈ l, Ev (fun k => C k x) (p x)) : ∀ (d i : Nat), l.length - i = d → i ≤ l.length →
    ∃ r, Ev (fun k => gIdx C k l (l.length : Int) i) r ∧ (r = -1 ∧ (∀ j, i ≤ j → (h : j < l.length) → p l[j] = false) ∨ ∃ j : Nat, r = j ∧ i ≤ j ∧ ∃ h : j < l.length, p l[j] = true ∧ ∀ q, i ≤ q → (hq : q < j) → p l[q] = false) := by
  intro d
  induction d with
  | zero =>
    intro i hd hi
    exact ⟨-1, Ev.step (f := fun _ => some (-1)) (fun k => by simp only [gIdx]; rw [if_neg (by omega)]) (Ev.now _), .inl ⟨rfl, fun j h1 h2 => by omega⟩⟩
  | succ d ih =>
    intro i hd hi
    have hlt : i < l.length := by omega
    have hpi := hp l[i] (List.getElem_mem hlt)
    have st : ∀ k, gIdx C (k + 1) l (l.length : Int) i = (C k l[i]).bind fun t => (if t = true then (some (i : Int)) else (gIdx C k l (l.length : Int) ((i + 1 : Nat) : Int))) := fun k => by
      simp only [gIdx]
      rw [if_pos (by omega), if_pos (by omega), if_pos (by omega), rd_get hlt, w64 (by omega)]
      rfl
    cases hb : p l[i] with
    | true =>
      refine ⟨i, Ev.step st (Ev.bind hpi ?_), .inr ⟨i, rfl, Nat.le_refl _, hlt, hb, fun q h1 h2 => by omega⟩⟩
      simp only [hb, if_true]; exact Ev.now _
    | false =>
      obtain ⟨r, hr, hs⟩ := ih (i + 1) (by omega) (by omega)
      refine ⟨r, Ev.step st (Ev.bind hpi ?_), ?_⟩
      · simp only [hb, Bool.false_eq_true, if_false]; exact hr
      · rcases hs with ⟨rfl, h⟩ | ⟨j, rfl, h1, h2, h3, h4⟩
        · refine .inl ⟨rfl, fun j h1 h2 => ?_⟩
          by_cases e : j = i
          · subst e; exact hb
          · exact h j (by omega) h2
        · refine .inr ⟨j, rfl, by omega, h2, h3, fun q h5 h6 => ?_⟩
          by_cases e : q = i
          · subst e; exact hb
          · exact h4 q (by omega) h6
def gDel (C : Nat → Int → Option Bool) : Nat → List Int → Int → Int → Option (List Int)
  | 0, _, _, _ => none
  | k + 1, x0, x5, x6 => if x6 < (x0.length : Int) then (if 0 ≤ x6 then ((C k (rd x0 x6)).bind fun t => (if t = true then (gDel C k x0 x5 (wrap64 (x6 + 1))) else (if 0 ≤ x5 then (if x5 < (x0.length : Int) then (gDel C k (x0.set (x5 : Int).toNat (rd x0 x6)) (wrap64 (x5 + 1)) (wrap64 (x6 + 1))) else (none)) else (none)))) else (none)) else (if 0 ≤ x5 then (if x5 ≤ (x0.length : Int) then (some ((x0.take (x5 : Int).toNat ++ List.replicate (x0.length - (x5 : Int).toNat) 0).take (x5 : Int).toNat)) else (none)) else (none))
theorem gDel_ev (C : Nat → Int → Option Bool) (p : Int → Bool) : ∀ (d : Nat) (done rest mid : List Int), rest.length = d → done.length + mid.length + rest.length < 4611686018427387904 → (∀ x ∈ rest, Ev (fun k => C k x) (p x)) →
    Ev (fun k => gDel C k (done ++ mid ++ rest) (done.length : Int) ((done.length + mid.length : Nat) : Int)) (done ++ rest.filter fun x => !p x) := by
  intro d
  induction d with
  | zero =>
    intro done rest mid hd hl hp
    obtain rfl : rest = [] := List.length_eq_zero_iff.1 hd
    simp only [List.append_nil, List.filter_nil]
    refine Ev.step (f := fun _ => some done) (fun k => ?_) (Ev.now _)
    simp only [gDel]
    rw [if_neg (by simp), if_pos (by omega), if_pos (by simp; omega), Int.toNat_natCast]
    simp
  | succ d ih =>
    intro done rest mid hd hl hp
    match rest, hd with
    | y :: rest, hd =>
      have hd' : rest.length = d := by simpa using hd
      simp only [List.length_cons] at hl
      have hlen : (done ++ mid ++ y :: rest).length = done.length + mid.length + rest.length + 1 := by simp; omega
      have hy : rd (done ++ mid ++ y :: rest) ((done.length + mid.length : Nat) : Int) = y := by
        rw [rd_nat]
        simp [List.getD]
      have st : ∀ k, gDel C (k + 1) (done ++ mid ++ y :: rest) (done.length : Int) ((done.length + mid.length : Nat) : Int) = (C k y).bind fun t => (if t = true then (gDel C k (done ++ mid ++ y :: rest) (done.length : Int) ((done.length + mid.length + 1 : Nat) : Int)) else (gDel C k ((done ++ mid ++ y :: rest).set done.length y) ((done.length + 1 : Nat) : Int) ((done.length + mid.length + 1 : Nat) : Int))) := fun k => by
        simp only [gDel]
        rw [if_pos (by rw [hlen]; omega), if_pos (by omega), hy, w64 (by omega), if_pos (by omega), if_pos (by rw [hlen]; omega), Int.toNat_natCast, w64 (by omega)]
        rfl
      refine Ev.step st (Ev.bind (hp y (List.mem_cons_self)) ?_)
      have hp' : ∀ x ∈ rest, Ev (fun k => C k x) (p x) := fun x hx => hp x (List.mem_cons_of_mem _ hx)
      cases hb : p y with
      | true =>
        have h := ih done rest (mid ++ [y]) hd' (by simp; omega) hp'
        simp only [if_true, List.filter_cons, hb, Bool.not_true, Bool.false_eq_true, if_false]
        have e1 : done ++ (mid ++ [y]) ++ rest = done ++ mid ++ y :: rest := by simp
        have e2 : done.length + (mid ++ [y]).length = done.length + mid.length + 1 := by simp; omega
        rw [e1, e2] at h
        exact h
      | false =>
        simp only [Bool.false_eq_true, if_false, List.filter_cons, hb, Bool.not_false, if_true]
        cases mid with
        | nil =>
          have h := ih (done ++ [y]) rest [] hd' (by simp; omega) hp'
          have e1 : done ++ [y] ++ [] ++ rest = (done ++ [] ++ y :: rest).set done.length y := by simp [List.set_append_right]
          have e2 : (done ++ [y]).length = done.length + 1 := by simp
          have e3 : (done ++ [y]).length + ([] : List Int).length = done.length + ([] : List Int).length + 1 := by simp
          rw [e1, e3, e2] at h
          simpa using h
        | cons z mid =>
          have h := ih (done ++ [y]) rest (mid ++ [y]) hd' (by simp at hl ⊢; omega) hp'
          have e1 : done ++ [y] ++ (mid ++ [y]) ++ rest = (done ++ z :: mid ++ y :: rest).set done.length y := by simp [List.set_append_right]
          have e2 : (done ++ [y]).length = done.length + 1 := by simp
          have e3 : (done ++ [y]).length + (mid ++ [y]).length = done.length + (z :: mid).length + 1 := by simp; omega
          rw [e1, e3, e2] at h
          simpa using h
/-- DeleteFunc: what is left. -/
theorem gDelete {C : Nat → Int → Option Bool} {p : Int → Bool} {l : List Int} {I : Nat → Option Int} {D : Nat → List Int → Int → Int → Option (List Int)} (hl : l.length < 4611686018427387904) (hI : ∀ k, I k = gIdx C k l (l.length : Int) 0) (hD : ∀ k a b c, D k a b c = gDel C k a b c) (hp : ∀ x ∈ l, Ev (fun k => C k x) (p x)) :
    Ev (fun k => (I k).bind fun t => (if t = (-1) then (some l) else (D k l t (wrap64 (t + 1))))) (l.filter fun x => !p x) := by
  obtain ⟨r, hr, hs⟩ := gIdx_ev C p l hl hp l.length 0 rfl (Nat.zero_le _)
  refine Ev.bind (Ev.congr hI hr) ?_
  rcases hs with ⟨rfl, h⟩ | ⟨j, rfl, _, h2, h3, h4⟩
  · refine Ev.pos rfl ?_
    have e : l.filter (fun x => !p x) = l := by
      rw [List.filter_eq_self]
      intro x hx
      obtain ⟨i, hi, rfl⟩ := List.getElem_of_mem hx
      rw [h i (Nat.zero_le _) hi]; rfl
    rw [e]; exact Ev.now _
  · refine Ev.neg (by omega) ?_
    rw [w64 (by omega)]
    refine Ev.congr (fun k => hD k _ _ _) ?_
    have h := gDel_ev C p (l.drop (j + 1)).length (l.take j) (l.drop (j + 1)) [l[j]] rfl (by simp; omega) (fun x hx => hp x (List.mem_of_mem_drop hx))
    have e1 : l.take j ++ [l[j]] ++ l.drop (j + 1) = l := by simp
    have e2 : (l.take j).length = j := by simp; omega
    have e3 : (l.take j).filter (fun x => !p x) = l.take j := by
      rw [List.filter_eq_self]
      intro x hx
      obtain ⟨i, hi, rfl⟩ := List.getElem_of_mem hx
      have hij : i < j := by simp at hi; omega
      rw [List.getElem_take, h4 i (Nat.zero_le _) hij]; rfl
    rw [e1, e2] at h
    have e4 : l.filter (fun x => !p x) = l.take j ++ (l.drop (j + 1)).filter (fun x => !p x) := by
      have q := congrArg (List.filter fun x => !p x) e1.symm
      rw [List.filter_append, List.filter_append, e3] at q
      rw [q]
      simp [h3]
    rw [e4]
    exact h

/-! ## what the laws ask of lists of numbers -/
def gEq : Nat → List Int → List Int → Int → Option Bool
  | 0, _, _, _ => none
  | k + 1, x0, x1, x5 => if x5 < (x0.length : Int) then (if 0 ≤ x5 then (if x5 < (x1.length : Int) then (if (rd x0 x5) = (rd x1 x5) then (gEq k x0 x1 (wrap64 (x5 + 1))) else (some false)) else (none)) else (none)) else (some true)
theorem gEq_refl (l : List Int) (hl : l.length < 4611686018427387904) : ∀ (d i : Nat), l.length - i = d → Ev (fun k => gEq k l l i) true := by
  intro d
  induction d with
  | zero => intro i hd; exact Ev.step (f := fun _ => some true) (fun k => by simp only [gEq]; rw [if_neg (by omega)]) (Ev.now _)
  | succ d ih =>
    intro i hd
    refine Ev.step (f := fun k => gEq k l l ((i + 1 : Nat) : Int)) (fun k => ?_) (ih (i + 1) (by omega))
    simp only [gEq]
    rw [if_pos (by omega), if_pos (by omega), if_pos (by omega), w64 (by omega)]
    simp only [if_true]
    rfl
def marks (a : Int) (n : Nat) : List Int := (List.range n).map fun (i : Nat) => a + (i : Int)
theorem marks_length (a : Int) (n : Nat) : (marks a n).length = n := by simp [marks]
def gMark : Nat → List Int → Int → Int → Option (Int × List Int)
  | 0, _, _, _ => none
  | k + 1, x0, x1, x5 => if x5 < (x0.length : Int) then (if 0 ≤ x5 then (gMark k (x0.set (x5 : Int).toNat x1) (wrap64 (x1 + 1)) (wrap64 (x5 + 1))) else (none)) else (some (x1, x0))
theorem gMark_ev (a : Int) (h0 : 0 ≤ a) : ∀ (d : Nat) (i : Nat) (rest : List Int), rest.length = d → a + i + rest.length < 4611686018427387904 → Ev (fun k => gMark k (marks a i ++ rest) (a + i) i) (a + (i + rest.length : Nat), marks a (i + rest.length)) := by
  intro d
  induction d with
  | zero =>
    intro i rest hd hl
    obtain rfl : rest = [] := List.length_eq_zero_iff.1 hd
    refine Ev.step (f := fun _ => some (a + i, marks a i ++ [])) (fun k => by simp only [gMark]; rw [if_neg (by simp [marks_length])]) ?_
    simp only [List.append_nil, List.length_nil, Nat.add_zero]
    exact Ev.now _
  | succ d ih =>
    intro i rest hd hl
    match rest, hd with
    | y :: rest, hd =>
      simp only [List.length_cons] at hl hd
      have h := ih (i + 1) rest (by omega) (by omega)
      have e : (i + 1) + rest.length = i + (y :: rest).length := by simp; omega
      rw [e] at h
      refine Ev.step (f := fun k => gMark k (marks a (i + 1) ++ rest) (a + ((i + 1 : Nat) : Int)) ((i + 1 : Nat) : Int)) (fun k => ?_) h
      simp only [gMark]
      rw [if_pos (by simp [marks_length]; omega), if_pos (by omega), Int.toNat_natCast, w64 (by omega), w64 (by omega)]
      have e2 : (marks a i ++ y :: rest).set i (a + i) = marks a (i + 1) ++ rest := by
        have q : (marks a i ++ y :: rest).set (marks a i).length (a + i) = marks a i ++ (a + i) :: rest := by simp
        rw [marks_length] at q
        rw [q]
        simp [marks, List.range_succ]
      rw [e2, show a + (i : Int) + 1 = a + ((i + 1 : Nat) : Int) by omega]
      rfl
theorem gMark_all (l : List Int) {a : Int} (h0 : 0 ≤ a) (hl : a + l.length < 4611686018427387904) : Ev (fun k => gMark k l a 0) (a + (l.length : Int), marks a l.length) := by
  have h := gMark_ev a h0 l.length 0 l rfl (by omega)
  simp only [Nat.zero_add] at h
  have e : marks a 0 ++ l = l := rfl
  rw [e] at h
  simpa using h
def gHeld : Nat → List Int → Int → Int → Option Int
  | 0, _, _, _ => none
  | k + 1, x0, x1, x5 => if x5 < (x0.length : Int) then (if 0 ≤ x5 then (if (rd x0 x5) = x1 then (gHeld k x0 (wrap64 (x1 + 1)) (wrap64 (x5 + 1))) else (some (-1))) else (none)) else (some x1)
theorem gHeld_ev (a : Int) (n : Nat) (h0 : 0 ≤ a) (hn : a + n < 4611686018427387904) : ∀ (d i : Nat), n - i = d → i ≤ n → Ev (fun k => gHeld k (marks a n) (a + i) i) (a + n) := by
  intro d
  induction d with
  | zero =>
    intro i hd hi
    refine Ev.step (f := fun _ => some (a + i)) (fun k => by simp only [gHeld]; rw [if_neg (by rw [marks_length]; omega)]) ?_
    rw [show i = n by omega]
    exact Ev.now _
  | succ d ih =>
    intro i hd hi
    refine Ev.step (f := fun k => gHeld k (marks a n) (a + ((i + 1 : Nat) : Int)) ((i + 1 : Nat) : Int)) (fun k => ?_) (ih (i + 1) (by omega) (by omega))
    simp only [gHeld]
    have e : rd (marks a n) (i : Int) = a + i := by rw [rd_get (by rw [marks_length]; omega)]; simp [marks]
    rw [if_pos (by rw [marks_length]; omega), if_pos (by omega), if_pos e, w64 (by omega), w64 (by omega), show a + (i : Int) + 1 = a + ((i + 1 : Nat) : Int) by omega]
    rfl
theorem gHeld_all {a : Int} (n : Nat) (h0 : 0 ≤ a) (hn : a + n < 4611686018427387904) : Ev (fun k => gHeld k (marks a n) a 0) (a + n) := by
  have h := gHeld_ev a n h0 hn n 0 (by omega) (by omega)
  simpa using h
end Go.Proofs.Ytkpcogaahgfmcaa.XPure
