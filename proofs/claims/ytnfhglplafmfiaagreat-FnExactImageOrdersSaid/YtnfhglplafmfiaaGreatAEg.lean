/- What the parameters of a law read as. -/
import Derived.Test.YtnfhglplafmfiaaGreatAEd
import Derived.ChangeSame
import Derived.ChangeSlices
import Derived.Deep.Slices
import Derived.Below
import Derived.OpenShut
namespace Go.Proofs.YtnfhglplafmfiaaGreatE
set_option linter.unusedSimpArgs false
set_option linter.unusedVariables false
open Go Go.RowKit Go.ChangeShapes Go.Deep
set_option linter.unusedSectionVars false
set_option linter.unusedVariables false

/-! ## what the parameters of a law read as -/
theorem cell_addr {w : World} {a : Addr} {i : Nat} {u v : Value} (h0 : w.cell? (a.add 0) = some u) (h : w.cell? (a.add i) = some v) : a = ⟨a.block, a.off, none⟩ ∧ a.block < w.heap.size ∧ cellAt w.heap a.block (a.off + i) = some v := by
  obtain ⟨b, o, s⟩ := a
  have hs : s = none := by
    simp only [World.cell?, Addr.add, if_true] at h0
    cases s with
    | none => rfl
    | some s =>
      split at h0
      · simp at h0
      · simp at h0
  subst hs
  have e : (⟨b, o, none⟩ : Addr).add i = ⟨b, o + i, none⟩ := by
    unfold Addr.add
    split
    · rename_i h; subst h; rfl
    · rfl
  rw [e, cell?_eq] at h
  refine ⟨rfl, ?_, h⟩
  simp only [cellAt] at h
  split at h
  · rename_i hb
    exact (Array.getElem?_eq_some_iff.1 hb).1
  · simp at h

theorem range_get {n i z : Nat} (h : (List.range n)[i]? = some z) : i < n ∧ i = z := by
  obtain ⟨h1, h2⟩ := List.getElem?_eq_some_iff.1 h
  exact ⟨by simpa using h1, by simpa using h2⟩
def Old (w : World) : Frz := ⟨fun b => b < w.heap.size, fun b => b < w.heap.size⟩

section
variable {H : Type} {enc : TypeId × Value → H} {P : Program} {w : World} {base : Nat} {held : Bool}
theorem drep_ints {t e : TypeId} {fuel : Nat} {cs : List Value} {x : DataW H × List MemPlace} (ht : P.underlying t = some (.slice e)) (he : P.underlying e = some (.int .i64)) (hc : P.cellsOf e = 1)
    (h : DataW.trod enc P w base (fun _ => true) held fuel t cs = some x) :
    ∃ v, ∃ l : List Int, cs = [v] ∧ l.length ≤ maxLen ∧ DRep (Old w) w.heap (ints l) v := by
  rcases open_ints ht he hc h with ⟨hcs, _⟩ | ⟨a, len, cap, zs, hcs, _, hl, hm, hz, _, hcell, hwz⟩
  · exact ⟨_, [], hcs, Nat.zero_le _, .sl 1 _ none 0 0 [] rfl (Nat.le_refl _) rfl (fun i v hv => by simp at hv) (fun i x v hx => by simp [icells] at hx)⟩
  · simp only [if_true] at hz
    have hlen : (zs.take len).length = len := by simp; omega
    refine ⟨_, zs.take len, hcs, by rw [hlen]; omega, .sl 1 _ _ _ _ ((zs.take len).map (Value.int .i64)) (by rw [icells_length, hlen, Nat.mul_one]) hl (by simp) (fun i v hv => ?_) (fun i x v hx hv => ?_)⟩
    · simp only [List.getElem?_map, Option.map_eq_some_iff] at hv
      obtain ⟨z, hz2, rfl⟩ := hv
      have hi : i < len := by have := (List.getElem?_eq_some_iff.1 hz2).1; omega
      rw [List.getElem?_take, if_pos hi] at hz2
      obtain ⟨h1, h2, h3⟩ := cell_addr (hcell 0 (by omega)) (hcell i (by omega))
      exact ⟨a.block, a.off, by rw [← h1], h2, by rw [h3, List.getD, hz2]; rfl⟩
    · simp only [icells, List.getElem?_map, Option.map_eq_some_iff] at hx hv
      obtain ⟨z, hz2, rfl⟩ := hx
      obtain ⟨z', hz3, rfl⟩ := hv
      rw [hz2] at hz3
      obtain rfl := Option.some.inj hz3
      exact .int _ _
/-- A slice of bytes, that stood there before. -/
theorem drep_bytes {t e : TypeId} {fuel : Nat} {cs : List Value} {x : DataW H × List MemPlace} (ht : P.underlying t = some (.slice e)) (he : P.underlying e = some (.int .u8)) (hc : P.cellsOf e = 1)
    (h : DataW.trod enc P w base (fun _ => true) held fuel t cs = some x) :
    ∃ v, ∃ l : List Int, cs = [v] ∧ l.length ≤ maxLen ∧ (∀ i < l.length, 0 ≤ rn l i ∧ rn l i < 256) ∧ DRep (Old w) w.heap (.pin (bcells l)) v := by
  rcases open_ints ht he hc h with ⟨hcs, _⟩ | ⟨a, len, cap, zs, hcs, _, hl, hm, hz, _, hcell, hwz⟩
  · exact ⟨_, [], hcs, Nat.zero_le _, fun i hi => by simp at hi, .pin _ none 0 0 [] rfl (Nat.le_refl _) rfl (fun i v hv => by simp at hv) (fun i x v hx => by simp [bcells] at hx)⟩
  · simp only [if_true] at hz
    have hlen : (zs.take len).length = len := by simp; omega
    refine ⟨_, zs.take len, hcs, by rw [hlen]; omega, fun i hi => ?_, .pin _ _ _ _ ((zs.take len).map (Value.int .u8)) (by rw [bcells, List.length_map, hlen]) hl (by simp [bcells]) (fun i v hv => ?_) (fun i x v hx hv => ?_)⟩
    · have hi2 : i < len := by omega
      have hi3 : i < zs.length := by omega
      have e : rn (zs.take len) i = zs[i] := by
        simp only [rn, List.getD, List.getElem?_take, if_pos hi2, List.getElem?_eq_getElem hi3, Option.getD_some]
      have hw := hwz zs[i] (List.getElem_mem hi3)
      rw [e]
      simp only [Lit.wf, Bool.and_eq_true] at hw
      have h1 : 0 ≤ zs[i] := of_decide_eq_true hw.1
      have h2 : zs[i] ≤ 255 := of_decide_eq_true hw.2
      omega
    · simp only [List.getElem?_map, Option.map_eq_some_iff] at hv
      obtain ⟨z, hz2, rfl⟩ := hv
      have hi : i < len := by have := (List.getElem?_eq_some_iff.1 hz2).1; omega
      rw [List.getElem?_take, if_pos hi] at hz2
      obtain ⟨h1, h2, h3⟩ := cell_addr (hcell 0 (by omega)) (hcell i (by omega))
      exact ⟨a.block, a.off, by rw [← h1], ⟨h2, h2⟩, by rw [h3, List.getD, hz2]; rfl⟩
    · simp only [bcells, List.getElem?_map, Option.map_eq_some_iff] at hx hv
      obtain ⟨z, hz2, rfl⟩ := hx
      obtain ⟨z', hz3, rfl⟩ := hv
      rw [hz2] at hz3
      obtain rfl := Option.some.inj hz3
      exact ⟨rfl, rfl⟩
theorem drep_rows {t e q : TypeId} {fuel : Nat} {cs : List Value} {x : DataW H × List MemPlace} (ht : P.underlying t = some (.slice e)) (he : P.underlying e = some (.slice q)) (hq : P.underlying q = some (.int .i64)) (hc : P.cellsOf e = 1) (hd : P.cellsOf q = 1)
    (h : DataW.trod enc P w base (fun _ => true) held fuel t cs = some x) :
    ∃ v, ∃ l : List (List Int), cs = [v] ∧ l.length ≤ maxLen ∧ (∀ i, (rown l i).length ≤ maxLen) ∧ DRep (Old w) w.heap (intss l) v := by
  rcases open_slice1 ht hc h with ⟨hcs, _⟩ | ⟨a, len, cap, m, n, V, D, Pl, hcs, _, hl, hm, hmm, _, hx⟩
  · exact ⟨_, [], hcs, Nat.zero_le _, fun i => by simp [rown], .sl 1 _ none 0 0 [] rfl (Nat.le_refl _) rfl (fun i v hv => by simp at hv) (fun i x v hx => by simp [rowcells] at hx)⟩
  · simp only [if_true] at hmm
    have each : ∀ r, r < len → ∃ y : List Int, y.length ≤ maxLen ∧ DRep (Old w) w.heap (ints y) (V r) := by
      intro r hr
      obtain ⟨v, l, e1, h1, h2⟩ := drep_ints he hq hd (hx r (by omega)).2
      simp only [List.cons.injEq, and_true] at e1
      subst e1
      exact ⟨l, h1, h2⟩
    obtain ⟨y, hy⟩ := choose_lt each
    have hlen : ((List.range len).map y).length = len := by simp
    refine ⟨_, (List.range len).map y, hcs, by rw [hlen]; omega, fun i => ?_, .sl 1 _ _ _ _ ((List.range len).map V) (by rw [rowcells_length, hlen, Nat.mul_one]) hl (by simp) (fun i v hv => ?_) (fun i x v hxx hv => ?_)⟩
    · by_cases hi : i < len
      · simp only [rown, List.getD, List.getElem?_map, List.getElem?_range hi, Option.map_some, Option.getD_some]
        exact (hy i hi).1
      · simp [rown, List.getD, List.getElem?_eq_none (show (List.range len).length ≤ i by simp; omega)]
    · simp only [List.getElem?_map, Option.map_eq_some_iff] at hv
      obtain ⟨z, hz2, rfl⟩ := hv
      obtain ⟨hi, rfl⟩ := range_get hz2
      obtain ⟨h1, h2, h3⟩ := cell_addr (hx 0 (by omega)).1 (hx i (by omega)).1
      exact ⟨a.block, a.off, by rw [← h1], h2, h3⟩
    · simp only [rowcells, List.getElem?_map, Option.map_eq_some_iff] at hxx hv
      obtain ⟨z, ⟨z1, hz1, rfl⟩, rfl⟩ := hxx
      obtain ⟨z', hz3, rfl⟩ := hv
      rw [hz1] at hz3
      obtain rfl := Option.some.inj hz3
      obtain ⟨hi, rfl⟩ := range_get hz1
      exact (hy _ hi).2
theorem csl_one {α : Type} {cs : List α} (h : cs.length = 1) : ∃ x0, cs = [x0] := by
  match cs, h with
  | [x0], _ => exact ⟨x0, rfl⟩
theorem csl_two {α : Type} {cs : List α} (h : cs.length = 2) : ∃ x0 x1, cs = [x0, x1] := by
  match cs, h with
  | [x0, x1], _ => exact ⟨x0, x1, rfl⟩
/-- A struct of rows of rows. -/
theorem drep_group {t t1 e q : TypeId} {f0 : Field} {fuel : Nat} {cs : List Value} {x : DataW H × List MemPlace} (hs : P.underlying t = some (.struct #[f0])) (e1 : f0.type = t1) (o1 : f0.offset = 0) (c1 : P.cellsOf t = 1) (c2 : P.cellsOf t1 = 1)
    (ht : P.underlying t1 = some (.slice e)) (he : P.underlying e = some (.slice q)) (hq : P.underlying q = some (.int .i64)) (hc : P.cellsOf e = 1) (hd : P.cellsOf q = 1)
    (h : DataW.trod enc P w base (fun _ => true) held fuel t cs = some x) :
    ∃ v, ∃ l : List (List Int), cs = [v] ∧ l.length ≤ maxLen ∧ (∀ i, (rown l i).length ≤ maxLen) ∧ DRep (Old w) w.heap (intss l) v := by
  obtain ⟨y0, n, _, hlen, h0⟩ := trod_struct1 hs h
  rw [c1] at hlen
  obtain ⟨x0, rfl⟩ := csl_one hlen
  rw [e1, o1, c2] at h0
  exact drep_rows ht he hq hc hd h0
/-- A struct of a whole number and a row. -/
theorem drep_pair {t t1 t2 e : TypeId} {f0 f1 : Field} {fuel : Nat} {cs : List Value} {x : DataW H × List MemPlace} (hs : P.underlying t = some (.struct #[f0, f1])) (e1 : f0.type = t1) (o1 : f0.offset = 0) (e2 : f1.type = t2) (o2 : f1.offset = 1)
    (c : P.cellsOf t = 2) (c1 : P.cellsOf t1 = 1) (c2 : P.cellsOf t2 = 1) (h1 : P.underlying t1 = some (.int .i64))
    (ht : P.underlying t2 = some (.slice e)) (he : P.underlying e = some (.int .i64)) (hc : P.cellsOf e = 1)
    (h : DataW.trod enc P w base (fun _ => true) held fuel t cs = some x) :
    ∃ v, ∃ k : Int, ∃ l : List Int, cs = [.int .i64 k, v] ∧ l.length ≤ maxLen ∧ DRep (Old w) w.heap (ints l) v := by
  obtain ⟨y0, y1, n, _, hlen, h0, h2⟩ := trod_struct2 hs h
  rw [c] at hlen
  obtain ⟨x0, x1, rfl⟩ := csl_two hlen
  rw [e1, o1, c1] at h0
  rw [e2, o2, c2] at h2
  obtain ⟨m, hm, _⟩ := DataW.trod_int h1 h0
  obtain ⟨v, l, hv, hl, hr⟩ := drep_ints ht he hc h2
  simp only [List.drop_zero, List.take_succ_cons, List.take_zero, List.cons.injEq, and_true] at hm
  simp only [List.drop_succ_cons, List.drop_zero, List.take_succ_cons, List.take_zero, List.cons.injEq, and_true] at hv
  subst hm hv
  exact ⟨_, _, l, rfl, hl, hr⟩
end
section
variable {F : Frz} {h : Heap} {β : Beta} {U : Nat → Prop}
theorem lrel_nil : LRel F h β U [] [] := ⟨rfl, fun i x u hx => by simp at hx⟩
theorem lrel_cons {x : AV} {v : Value} {xs : List AV} {vs : List Value} (h0 : VRep F h β U x v) (r : LRel F h β U xs vs) : LRel F h β U (x :: xs) (v :: vs) := by
  refine ⟨by simp [r.1], fun i y u hy hu => ?_⟩
  cases i with
  | zero =>
    obtain rfl : x = y := by simpa using hy
    obtain rfl : v = u := by simpa using hu
    exact h0
  | succ i => exact r.2 i y u (by simpa using hy) (by simpa using hu)
theorem wf_bd {n : Int} (h : (Lit.int .i64 n).wf = true) : -9223372036854775808 ≤ n ∧ n < 9223372036854775808 := by
  simp only [Lit.wf, Bool.and_eq_true] at h
  have h1 : -9223372036854775808 ≤ n := of_decide_eq_true h.1
  have h2 : n ≤ 9223372036854775807 := of_decide_eq_true h.2
  omega
theorem vrep_int (k : IntKind) (n : Int) : VRep F h β U (.d (.int k n)) (.int k n) := .d _ _ (.int _ _)
theorem vrep_agg1 {x : D} {v : Value} (h0 : DRep F h x v) : VRep F h β U (.agg [.d x]) (.agg #[v]) :=
  .agg _ _ rfl fun i y u hy hu => by
    cases i with
    | zero =>
      obtain rfl : AV.d x = y := by simpa using hy
      obtain rfl : v = u := by simpa using hu
      exact .d _ _ h0
    | succ i => simp at hy
theorem vrep_agg2 {k : Int} {x : D} {v : Value} (h0 : DRep F h x v) : VRep F h β U (.agg [.d (.int .i64 k), .d x]) (.agg #[.int .i64 k, v]) :=
  .agg _ _ rfl fun i y u hy hu => by
    match i with
    | 0 =>
      obtain rfl : AV.d (.int .i64 k) = y := by simpa using hy
      obtain rfl : Value.int .i64 k = u := by simpa using hu
      exact vrep_int _ _
    | 1 =>
      obtain rfl : AV.d x = y := by simpa using hy
      obtain rfl : v = u := by simpa using hu
      exact .d _ _ h0
    | i + 2 => simp at hy
end

/-- What the evaluator gives for a law, as the law's call. -/
theorem calls_of_eval {P : Program} (hm : P.follows .mixedOrders = true) {A : Ann} {n : Nat} {k : FuncId} {args : List AV} (h : evalCall P A n k args [] = some ⟨.d (.bool true), [], []⟩) {w : World} {vals : Array Value}
    (R : LRel (Old w) w.heap (lentB []) (· = 0) args vals.toList) : Calls P k vals w fun e w' => e = .returned (.bool true) ∧ Below w.heap.size w w' := by
  obtain ⟨g, _⟩ := evalCall_sound hm A n k args [] _ h
  have e0 : ∀ id, lentB [] id = none := fun id => by simp [lentB]
  have I : Inv w.heap.size (lentM []) (Old w) (lentB []) (· = 0) (lentO []) w.heap := by
    refine ⟨fun id v ob ho => by simp [lentO] at ho, fun id v L hL => ?_, fun id v L hL => ?_, fun id v L id' v' L' hL => ?_, fun id v L hL => ?_, fun b hb => hb, Nat.le_refl _, fun b hb => hb⟩ <;> (rw [e0] at hL; simp at hL)
  refine (g w (Old w) vals [] rfl I R).mono fun e w' hq => ?_
  obtain ⟨val, β', Z, rfl, S, _, _, V, _⟩ := hq
  have hv : val = .bool true := by
    cases V with
    | d _ _ hd => cases hd; rfl
  subst hv
  exact ⟨rfl, S.os, S.tape, S.output, S.size, fun b hb => S.block b hb (fun hM => by simp [lentM] at hM)⟩
end Go.Proofs.YtnfhglplafmfiaaGreatE
