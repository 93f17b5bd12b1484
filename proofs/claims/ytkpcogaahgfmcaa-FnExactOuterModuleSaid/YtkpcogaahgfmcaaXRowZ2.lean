/- Own words for a law's row: what a slice of whole numbers, or of rows of them, inside a struct argument reads as. -/
import Derived.Test.YtkpcogaahgfmcaaWWordsZ2
import Derived.Test.YtkpcogaahgfmcaaWMoreZ2
import Derived.Test.YtkpcogaahgfmcaaWLastZ2
import Derived.Deep.Matrix
import Derived.Deep.Strs
import Derived.ChangeSame
import Derived.ChangeSlices
namespace Go.Proofs.YtkpcogaahgfmcaaX
open Go.RowKit Go.ChangeShapes Go.WideShapes Go.Deep Go.Proofs.YtkpcogaahgfmcaaW.PrintWords Go.Proofs.YtkpcogaahgfmcaaW.PrintLast

theorem nums_of_row {w : World} {a : Option Addr} {len cap : Nat} {zs : List Int} (h : (a = none ∧ len = 0 ∧ cap = 0 ∧ zs = []) ∨ ∃ x, a = some x ∧ len ≤ cap ∧ cap ≤ maxLen ∧ zs.length = cap ∧ (∀ i, i < zs.length → w.cell? (x.add i) = some (.int .i64 (zs.getD i 0))) ∧ ∀ n ∈ zs, (Lit.int .i64 n).wf = true) :
    ∃ l : List Int, len = l.length ∧ l.length ≤ cap ∧ l.length ≤ maxLen ∧ (∀ x ∈ l, (Lit.int .i64 x).wf = true) ∧ (Kd.int .i64).C w a l.length l := by
  obtain ⟨l, e, h1, h2, h3, h4⟩ := ReadsInt.ofRowC h
  exact ⟨l, e, h4, h2, h3, Kd.C_of_reads (d := (0 : Int)) (h1 := fun _ => rfl) h1⟩

section
variable {H : Type} {enc : TypeId × Value → H} {P : Program} {w : World} {base : Nat} {held : Bool}

theorem trod_nums {t e : TypeId} {fuel : Nat} {cs : List Value} {x : DataW H × List MemPlace} (ht : P.underlying t = some (.slice e)) (he : P.underlying e = some (.int .i64)) (hc : P.cellsOf e = 1)
    (h : DataW.trod enc P w base (fun _ => true) held fuel t cs = some x) :
    ∃ A c, ∃ l : List Int, cs = [.slice A l.length c] ∧ l.length ≤ c ∧ l.length ≤ maxLen ∧ (∀ x ∈ l, (Lit.int .i64 x).wf = true) ∧ (Kd.int .i64).C w A l.length l := by
  rcases open_ints ht he hc h with ⟨hcs, _⟩ | ⟨a, len, cap, zs, hcs, _, hl, hm, hz, _, hcell, hwz⟩
  · obtain ⟨l, e1, h1, h2, h3, h4⟩ := nums_of_row (w := w) (a := none) (len := 0) (cap := 0) (zs := []) (.inl ⟨rfl, rfl, rfl, rfl⟩)
    exact ⟨none, 0, l, by rw [hcs, ← e1], h1, h2, h3, h4⟩
  · obtain ⟨l, e1, h1, h2, h3, h4⟩ := nums_of_row (w := w) (a := some a) (len := len) (cap := cap) (zs := zs) (.inr ⟨a, rfl, hl, hm, by simpa using hz, hcell, hwz⟩)
    exact ⟨some a, cap, l, by rw [hcs, ← e1], h1, h2, h3, h4⟩

theorem trod_rows {t e q : TypeId} {fuel : Nat} {cs : List Value} {x : DataW H × List MemPlace} (ht : P.underlying t = some (.slice e)) (he : P.underlying e = some (.slice q)) (hq : P.underlying q = some (.int .i64)) (hc : P.cellsOf e = 1) (hd : P.cellsOf q = 1)
    (h : DataW.trod enc P w base (fun _ => true) held fuel t cs = some x) :
    ∃ A c, ∃ l : List (List Int), cs = [.slice A l.length c] ∧ l.length ≤ c ∧ l.length ≤ maxLen ∧ (∀ r ∈ l, r.length ≤ maxLen ∧ ∀ x ∈ r, (Lit.int .i64 x).wf = true) ∧ (Kd.slice q (Kd.int .i64)).C w A l.length l := by
  rcases open_slice1 ht hc h with ⟨hcs, _⟩ | ⟨a, len, cap, m, n, V, D, Pl, hcs, _, hl, hm, hmm, _, hx⟩
  · exact ⟨none, 0, [], hcs, Nat.le_refl _, Nat.zero_le _, fun r hr => (List.not_mem_nil hr).elim, rfl, Nat.zero_le _, fun h0 => absurd h0 (Nat.lt_irrefl 0)⟩
  · simp only [if_true] at hmm
    have each : ∀ r, r < cap → ∃ y : Option Addr × Nat × List Int, V r = .slice y.1 y.2.2.length y.2.1 ∧ y.2.2.length ≤ y.2.1 ∧ y.2.2.length ≤ maxLen ∧ (∀ x ∈ y.2.2, (Lit.int .i64 x).wf = true) ∧ (Kd.int .i64).C w y.1 y.2.2.length y.2.2 := by
      intro r hr
      obtain ⟨A, c, l, e1, h1, h2, h3, h4⟩ := trod_nums he hq hd (hx r (by omega)).2
      exact ⟨(A, c, l), by simpa using e1, h1, h2, h3, h4⟩
    obtain ⟨y, hy⟩ := choose_lt each
    refine ⟨some a, cap, (List.range len).map fun r => (y r).2.2, by rw [hcs]; simp, by simpa using hl, by simp; omega, ?_, ?_⟩
    · intro r hr
      obtain ⟨i, hi, rfl⟩ := List.mem_map.1 hr
      have := hy i (by have := List.mem_range.1 hi; omega)
      exact ⟨this.2.2.1, this.2.2.2.1⟩
    · refine ⟨rfl, by simp [maxLen] at hm ⊢; omega, fun _ => ⟨a, rfl, fun j p hj => ?_⟩⟩
      obtain ⟨hj1, hj2⟩ := List.getElem?_eq_some_iff.1 hj
      have hj3 : j < len := by simpa using hj1
      obtain rfl : (y j).2.2 = p := by simpa using hj2
      obtain ⟨e1, h1, h2, h3, h4⟩ := hy j (by omega)
      refine ⟨[V j], rfl, ⟨(y j).1, (y j).2.1, by rw [e1], h1, h4⟩, fun i u hu => ?_⟩
      cases i with
      | succ i => simp at hu
      | zero =>
        obtain rfl : V j = u := by simpa using hu
        have := (hx j (by omega)).1
        simpa [Kd.slice] using this

theorem trod_num {t : TypeId} {fuel : Nat} {cs : List Value} {x : DataW H × List MemPlace} (ht : P.underlying t = some (.int .i64)) (h : DataW.trod enc P w base (fun _ => true) held fuel t cs = some x) :
    ∃ n : Int, cs = [.int .i64 n] ∧ (Lit.int .i64 n).wf = true := by
  obtain ⟨m, h1, _, h2⟩ := DataW.trod_int ht h
  exact ⟨m, h1, h2⟩
end
theorem cells_of1 {α : Type} {cs : List α} (h : cs.length = 1) : ∃ x0, cs = [x0] := by
  match cs, h with
  | [x0], _ => exact ⟨x0, rfl⟩
theorem cells_of2 {α : Type} {cs : List α} (h : cs.length = 2) : ∃ x0 x1, cs = [x0, x1] := by
  match cs, h with
  | [x0, x1], _ => exact ⟨x0, x1, rfl⟩
theorem cells_of3 {α : Type} {cs : List α} (h : cs.length = 3) : ∃ x0 x1 x2, cs = [x0, x1, x2] := by
  match cs, h with
  | [x0, x1, x2], _ => exact ⟨x0, x1, x2, rfl⟩
theorem cells_of4 {α : Type} {cs : List α} (h : cs.length = 4) : ∃ x0 x1 x2 x3, cs = [x0, x1, x2, x3] := by
  match cs, h with
  | [x0, x1, x2, x3], _ => exact ⟨x0, x1, x2, x3, rfl⟩
theorem cells_of5 {α : Type} {cs : List α} (h : cs.length = 5) : ∃ x0 x1 x2 x3 x4, cs = [x0, x1, x2, x3, x4] := by
  match cs, h with
  | [x0, x1, x2, x3, x4], _ => exact ⟨x0, x1, x2, x3, x4, rfl⟩
theorem cells_of6 {α : Type} {cs : List α} (h : cs.length = 6) : ∃ x0 x1 x2 x3 x4 x5, cs = [x0, x1, x2, x3, x4, x5] := by
  match cs, h with
  | [x0, x1, x2, x3, x4, x5], _ => exact ⟨x0, x1, x2, x3, x4, x5, rfl⟩
theorem cells_of7 {α : Type} {cs : List α} (h : cs.length = 7) : ∃ x0 x1 x2 x3 x4 x5 x6, cs = [x0, x1, x2, x3, x4, x5, x6] := by
  match cs, h with
  | [x0, x1, x2, x3, x4, x5, x6], _ => exact ⟨x0, x1, x2, x3, x4, x5, x6, rfl⟩
theorem cells_of8 {α : Type} {cs : List α} (h : cs.length = 8) : ∃ x0 x1 x2 x3 x4 x5 x6 x7, cs = [x0, x1, x2, x3, x4, x5, x6, x7] := by
  match cs, h with
  | [x0, x1, x2, x3, x4, x5, x6, x7], _ => exact ⟨x0, x1, x2, x3, x4, x5, x6, x7, rfl⟩
end Go.Proofs.YtkpcogaahgfmcaaX
