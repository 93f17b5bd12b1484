/- Own plain lemmas about groups by tables, lists of elements, cochains told by functions; no program in sight. -/
import Derived.Test.YtkpnhkccdjphgaaXPure
namespace Go.Proofs.Ytkpnhkccdjphgaa.XPure
open Go.RowKit Go.Proofs.YtkpnhkccdjphgaaW.PrintWords Go.Proofs.YtkpnhkccdjphgaaW.PrintLast Go.Proofs.YtkpnhkccdjphgaaW.PrintMore
/-! ## groups by tables, lists of elements, cochains by functions -/
def gMade (C : Nat → Int → Int → Option Int) : Nat → Bool → Int → Int → List Int → Int → List (List Int) → Option (List (List Int))
  | 0, _, _, _, _, _, _ => none
  | k + 1, true, n, a, _, _, g => if a < n then (gMade C k false n a [] 0 g) else (some g)
  | k + 1, false, n, a, row, b, g => if b < n then ((C k a b).bind fun t => (if row.length < 17592186044416 then (gMade C k false n a (row ++ [t]) (wrap64 (b + 1)) g) else (none))) else (if g.length < 5864062014805 then (gMade C k true n (wrap64 (a + 1)) [] 0 (g ++ [row])) else (none))
def rowOf (p : Int → Int → Int) (n : Nat) (a : Int) : List Int := (upto n).map fun b => p a b
def tableOf (p : Int → Int → Int) (n : Nat) (i : Nat) : List (List Int) := (upto i).map fun a => rowOf p n a
theorem gMade_row {C : Nat → Int → Int → Option Int} {p : Int → Int → Int} {n : Nat} (hn : n ≤ 1000) {a : Nat} (ha : a < n) (hC : ∀ b : Nat, b < n → Ev (fun k => C k a b) (p a b)) {r : List (List Int)} {g : List (List Int)} (hg : g.length < 5864062014805) (hr : Ev (fun k => gMade C k true n ((a + 1 : Nat) : Int) [] 0 (g ++ [rowOf p n a])) r) :
    ∀ (d i : Nat), n - i = d → i ≤ n → Ev (fun k => gMade C k false n a ((upto i).map fun b => p a b) i g) r := by
  intro d
  induction d with
  | zero =>
    intro i hd hi
    obtain rfl : i = n := by omega
    refine Ev.step (f := fun k => gMade C k true i ((a + 1 : Nat) : Int) [] 0 (g ++ [rowOf p i a])) (fun k => ?_) hr
    simp only [gMade]
    rw [if_neg (by omega), if_pos hg, w64 (by omega)]
    rfl
  | succ d ih =>
    intro i hd hi
    have h := ih (i + 1) (by omega) (by omega)
    rw [upto_succ, List.map_append] at h
    have hl : ((upto i).map fun b => p a b).length < 17592186044416 := by rw [List.length_map, upto_length]; omega
    refine Ev.step (f := fun k => (C k a i).bind fun t => (if ((upto i).map fun b => p a b).length < 17592186044416 then (gMade C k false n a (((upto i).map fun b => p a b) ++ [t]) (wrap64 ((i : Int) + 1)) g) else (none))) (fun k => ?_) ?_
    · simp only [gMade]
      rw [if_pos (by omega)]
    · refine Ev.bind (hC i (by omega)) (Ev.pos hl ?_)
      rw [w64 (by omega)]
      exact h
theorem gMade_ev {C : Nat → Int → Int → Option Int} {p : Int → Int → Int} {n : Nat} (hn : n ≤ 1000) (hC : ∀ a b : Nat, a < n → b < n → Ev (fun k => C k a b) (p a b)) : ∀ (d i : Nat), n - i = d → i ≤ n → Ev (fun k => gMade C k true n i [] 0 (tableOf p n i)) (tableOf p n n) := by
  intro d
  induction d with
  | zero =>
    intro i hd hi
    obtain rfl : i = n := by omega
    refine Ev.step (f := fun _ => some (tableOf p i i)) (fun k => by simp only [gMade]; rw [if_neg (by omega)]) (Ev.now _)
  | succ d ih =>
    intro i hd hi
    have h := ih (i + 1) (by omega) (by omega)
    have e : tableOf p n (i + 1) = tableOf p n i ++ [rowOf p n i] := by unfold tableOf; rw [upto_succ, List.map_append]; rfl
    rw [e] at h
    refine Ev.step (f := fun k => gMade C k false n i [] 0 (tableOf p n i)) (fun k => by simp only [gMade]; rw [if_pos (by omega)]) ?_
    have h2 := gMade_row hn (show i < n by omega) (fun b hb => hC i b (by omega) hb) (g := tableOf p n i) (by unfold tableOf; rw [List.length_map, upto_length]; omega) h n 0 (by omega) (by omega)
    exact h2
theorem tableOf_length (p : Int → Int → Int) (n i : Nat) : (tableOf p n i).length = i := by unfold tableOf; rw [List.length_map, upto_length]

/-- b to the n, as the loops have it. -/
def gPow : Nat → Int → Int → Int → Int → Option Int
  | 0, _, _, _, _ => none
  | k + 1, x0, x5, x6, x7 => if x7 < x6 then (gPow k x0 (wrap64 (x5 * x0)) x6 (wrap64 (x7 + 1))) else (some x5)
theorem gPow_ev {b : Int} (h0 : 0 ≤ b) (h1 : b ≤ 1000) : ∀ (d i : Nat) (n : Int), n ≤ 5 → n - i = d → Ev (fun k => gPow k b (b ^ i) n i) (b ^ n.toNat) := by
  intro d
  induction d with
  | zero =>
    intro i n _ hd
    refine Ev.step (f := fun _ => some (b ^ i)) (fun k => by simp only [gPow]; rw [if_neg (by omega)]) ?_
    rw [show n.toNat = i by omega]
    exact Ev.now _
  | succ d ih =>
    intro i n hn hd
    have hb : ∀ j : Nat, 0 ≤ b ^ j ∧ b ^ j ≤ 1000 ^ j := by
      intro j
      induction j with
      | zero => simp
      | succ j ihj => rw [Int.pow_succ, Int.pow_succ]; exact mul_bd ihj.1 h0 ihj.2 h1
    have hq := hb (i + 1)
    rw [Int.pow_succ] at hq
    have hm : (1000 : Int) ^ (i + 1) ≤ 1000 ^ 5 := by
      rcases (show i = 0 ∨ i = 1 ∨ i = 2 ∨ i = 3 ∨ i = 4 by omega) with rfl | rfl | rfl | rfl | rfl <;> decide
    refine Ev.step (f := fun k => gPow k b (b ^ (i + 1)) n ((i + 1 : Nat) : Int)) (fun k => ?_) (ih (i + 1) n hn (by omega))
    simp only [gPow]
    rw [if_pos (by omega), w64 (n := b ^ i * b) (by omega), w64 (n := (i : Int) + 1) (by omega), Int.pow_succ]
    rfl

/-- The list of deg elements with a number, by digits to the base b: the last one first. -/
def digits (b : Nat) : Nat → Nat → List Int
  | 0, _ => []
  | deg + 1, i => digits b deg (i / b) ++ [1 + ((i % b : Nat) : Int)]
theorem digits_length (b : Nat) : ∀ deg i, (digits b deg i).length = deg
  | 0, _ => rfl
  | deg + 1, i => by simp [digits, digits_length b deg]
def gList : Nat → Int → List Int → Int → Int → Option (List Int)
  | 0, _, _, _, _ => none
  | k + 1, x2, x7, x8, x9 => if x9 ≥ 0 then (if x8 = 0 then (none) else (if 0 ≤ x9 then (if x9 < (x7.length : Int) then (gList k (wrap64 (Int.tdiv x2 x8)) (x7.set (x9 : Int).toNat (wrap64 (1 + (Int.tmod x2 x8)))) x8 (wrap64 (x9 - 1))) else (none)) else (none))) else (some x7)
theorem gList_ev {b : Nat} (hb : 0 < b) (hb' : b ≤ 1000) : ∀ (deg i : Nat) (rest : List Int), deg ≤ 1000 → i ≤ 1000000000000000 → Ev (fun k => gList k (i : Int) (List.replicate deg 0 ++ rest) (b : Int) ((deg : Int) - 1)) (digits b deg i ++ rest) := by
  intro deg
  induction deg with
  | zero =>
    intro i rest _ _
    exact Ev.step (f := fun _ => some rest) (fun k => by simp only [gList]; rw [if_neg (by omega)]; rfl) (Ev.now _)
  | succ deg ih =>
    intro i rest hd hi
    have hdiv : i / b ≤ i := Nat.div_le_self i b
    have hmod := Nat.mod_lt i hb
    have h := ih (i / b) ((1 + ((i % b : Nat) : Int)) :: rest) (by omega) (by omega)
    have e : digits b deg (i / b) ++ (1 + ((i % b : Nat) : Int)) :: rest = digits b (deg + 1) i ++ rest := by simp [digits]
    rw [e] at h
    refine Ev.step (f := fun k => gList k ((i / b : Nat) : Int) (List.replicate deg 0 ++ (1 + ((i % b : Nat) : Int)) :: rest) (b : Int) ((deg : Int) - 1)) (fun k => ?_) h
    simp only [gList]
    have hw : wrap64 ((i / b : Nat) : Int) = ((i / b : Nat) : Int) := by
      generalize i / b = q at hdiv
      exact w64 (by omega)
    have hw2 : wrap64 (1 + ((i % b : Nat) : Int)) = 1 + ((i % b : Nat) : Int) := by
      generalize i % b = q at hmod
      exact w64 (by omega)
    have e1 : Int.tdiv (i : Int) (b : Int) = ((i / b : Nat) : Int) := by rw [tdiv_nn _ (by omega)]; rfl
    have e2 : Int.tmod (i : Int) (b : Int) = ((i % b : Nat) : Int) := by rw [tmod_nn _ (by omega)]; rfl
    have e3 : (((deg + 1 : Nat) : Int) - 1).toNat = deg := by omega
    have hlen : ((deg + 1 : Nat) : Int) - 1 < ((List.replicate (deg + 1) (0 : Int) ++ rest).length : Int) := by simp; omega
    rw [if_pos (by omega), if_neg (by omega), if_pos (by omega), if_pos hlen, e1, e2, e3, hw, hw2, w64 (n := ((deg + 1 : Nat) : Int) - 1 - 1) (by omega)]
    have e4 : (List.replicate (deg + 1) (0 : Int) ++ rest).set deg (1 + ((i % b : Nat) : Int)) = List.replicate deg 0 ++ (1 + ((i % b : Nat) : Int)) :: rest := by
      rw [List.replicate_succ', List.append_assoc]
      have q : (List.replicate deg (0 : Int) ++ ([0] ++ rest)).set (List.replicate deg (0 : Int)).length (1 + ((i % b : Nat) : Int)) = List.replicate deg 0 ++ (1 + ((i % b : Nat) : Int)) :: rest := by simp
      rw [List.length_replicate] at q
      exact q
    rw [e4, show ((deg + 1 : Nat) : Int) - 1 - 1 = (deg : Int) - 1 by omega]

/-- A cochain told by a function. -/
def gTold (L : Nat → Int → Option (List Int)) (C : Nat → List Int → Option Int) (m : Int) : Nat → Int → Int → Int → List Int → Option (Int × List Int)
  | 0, _, _, _, _ => none
  | k + 1, c, i, deg, vs => if i < c then ((L k i).bind fun t => ((C k t).bind fun v => (if m = 0 then (none) else (if 0 ≤ i then (if i < (vs.length : Int) then (gTold L C m k c (wrap64 (i + 1)) deg (vs.set (i : Int).toNat (Int.tmod (wrap64 ((Int.tmod v m) + m)) m))) else (none)) else (none))))) else (some (deg, vs))
theorem gTold_ev {L : Nat → Int → Option (List Int)} {C : Nat → List Int → Option Int} {m : Int} (hm : 0 < m) (hm' : m ≤ 1000) {c : Nat} (hc : c ≤ 1000000) (deg : Int) (val : Nat → Int) (hv : ∀ i, i < c → ∃ l, Ev (fun k => L k i) l ∧ Ev (fun k => C k l) (val i)) :
    ∀ (d i : Nat) (rest : List Int), rest.length = d → c - i = d → i ≤ c → Ev (fun k => gTold L C m k c i deg (((List.range i).map fun j => val j % m) ++ rest)) (deg, (List.range c).map fun j => val j % m) := by
  intro d
  induction d with
  | zero =>
    intro i rest hr hd hi
    obtain rfl : rest = [] := List.length_eq_zero_iff.1 hr
    obtain rfl : i = c := by omega
    rw [List.append_nil]
    exact Ev.step (f := fun _ => some (deg, (List.range i).map fun j => val j % m)) (fun k => by simp only [gTold]; rw [if_neg (by omega)]) (Ev.now _)
  | succ d ih =>
    intro i rest hr hd hi
    match rest, hr with
    | y :: rest, hr =>
      obtain ⟨l, hL, hC⟩ := hv i (by omega)
      have h := ih (i + 1) rest (by simpa using hr) (by omega) (by omega)
      have e : ((List.range (i + 1)).map fun j => val j % m) ++ rest = (((List.range i).map fun j => val j % m) ++ y :: rest).set i (val i % m) := by
        have q : (((List.range i).map fun j => val j % m) ++ y :: rest).set ((List.range i).map fun j => val j % m).length (val i % m) = ((List.range i).map fun j => val j % m) ++ (val i % m) :: rest := by simp
        rw [List.length_map, List.length_range] at q
        rw [q, List.range_succ, List.map_append, List.append_assoc]
        rfl
      rw [e] at h
      refine Ev.step (f := fun k => (L k i).bind fun t => ((C k t).bind fun v => (if m = 0 then (none) else (if 0 ≤ (i : Int) then (if (i : Int) < ((((List.range i).map fun j => val j % m) ++ y :: rest).length : Int) then (gTold L C m k c (wrap64 ((i : Int) + 1)) deg ((((List.range i).map fun j => val j % m) ++ y :: rest).set i (Int.tmod (wrap64 ((Int.tmod v m) + m)) m))) else (none)) else (none))))) (fun k => by simp only [gTold]; rw [if_pos (by omega), Int.toNat_natCast]) ?_
      refine Ev.bind hL (Ev.bind hC (Ev.neg (by omega) (Ev.pos (by omega) (Ev.pos (by simp; omega) ?_))))
      have t1 := Int.tmod_lt_of_pos (val i) hm
      have t0 : -m < Int.tmod (val i) m := by
        have hx := Int.tmod_lt_of_pos (-(val i)) hm
        rw [Int.neg_tmod] at hx
        omega
      have e2 : Int.tmod (wrap64 ((Int.tmod (val i) m) + m)) m = val i % m := by
        rw [w64 (by omega), tmod_nn _ (by omega), Int.add_emod_right]
        have q := Int.mul_tdiv_add_tmod (val i) m
        rw [show Int.tmod (val i) m = val i - m * Int.tdiv (val i) m by omega, Int.sub_mul_emod_self_left]
      rw [e2, w64 (by omega)]
      exact h

theorem range_mul_map {α : Type} (g : Nat → Nat → α) {b : Nat} (hb : 0 < b) : ∀ a : Nat, (List.range (a * b)).map (fun i => g (i / b) (i % b)) = (List.range a).flatMap fun p => (List.range b).map fun q => g p q
  | 0 => by simp
  | a + 1 => by
    rw [Nat.succ_mul, List.range_add, List.map_append, range_mul_map g hb a, List.range_succ, List.flatMap_append]
    congr 1
    simp only [List.map_map, List.flatMap_cons, List.flatMap_nil, List.append_nil]
    apply List.map_congr_left
    intro q hq
    have hq' := List.mem_range.1 hq
    show g ((a * b + q) / b) ((a * b + q) % b) = g a q
    rw [Nat.mul_comm a b, Nat.mul_add_div hb, Nat.mul_add_mod, Nat.div_eq_of_lt hq', Nat.mod_eq_of_lt hq']
    rfl

end Go.Proofs.Ytkpnhkccdjphgaa.XPure
