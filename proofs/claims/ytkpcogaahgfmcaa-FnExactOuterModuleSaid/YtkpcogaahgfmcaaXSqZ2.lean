/- Own short words for phrases that stand often in the printed walks; nothing new is said. -/
import Derived.Test.YtkpcogaahgfmcaaWWordsZ2
import Derived.Test.YtkpcogaahgfmcaaWMoreZ2
import Derived.Test.YtkpcogaahgfmcaaWLastZ2
namespace Go.Proofs.YtkpcogaahgfmcaaX
open Go.RowKit Go.Proofs.YtkpcogaahgfmcaaW.PrintWords Go.Proofs.YtkpcogaahgfmcaaW.PrintLast
theorem geg {a b g : Nat} (hg : g = b) (h : a ≤ b) : a ≤ g := hg ▸ h
theorem bnd {α β : Type} {o : Option α} {f : α → Option β} {r : β} (h : o.bind f = some r) : ∃ a, Aside0 (o = some a) ∧ f a = some r := let ⟨a, h1, h2⟩ := Option.bind_eq_some_iff.mp h; ⟨a, ⟨h1⟩, h2⟩
theorem neg1 {a b g : Nat} (hg : g = b) (h : a ≠ b) : a ≠ g := hg ▸ h
theorem neg2 {a b g : Nat} (hg : g = b) (h : b ≠ a) : g ≠ a := hg ▸ h
theorem bc0 {w : World} {g : Nat} {t : TypeId} {x0 : Value} {l : List Value} (h : w.heap[g]? = some (.cells ⟨x0 :: l⟩ t (0, 0))) : w.cell? ⟨g, 0, none⟩ = some x0 := (blk_cell h 0).trans rfl
theorem bc1 {w : World} {g : Nat} {t : TypeId} {x0 x1 : Value} {l : List Value} (h : w.heap[g]? = some (.cells ⟨x0 :: x1 :: l⟩ t (0, 0))) : w.cell? ⟨g, 1, none⟩ = some x1 := (blk_cell h 1).trans rfl
theorem bc2 {w : World} {g : Nat} {t : TypeId} {x0 x1 x2 : Value} {l : List Value} (h : w.heap[g]? = some (.cells ⟨x0 :: x1 :: x2 :: l⟩ t (0, 0))) : w.cell? ⟨g, 2, none⟩ = some x2 := (blk_cell h 2).trans rfl
theorem bc3 {w : World} {g : Nat} {t : TypeId} {x0 x1 x2 x3 : Value} {l : List Value} (h : w.heap[g]? = some (.cells ⟨x0 :: x1 :: x2 :: x3 :: l⟩ t (0, 0))) : w.cell? ⟨g, 3, none⟩ = some x3 := (blk_cell h 3).trans rfl
theorem bc4 {w : World} {g : Nat} {t : TypeId} {x0 x1 x2 x3 x4 : Value} {l : List Value} (h : w.heap[g]? = some (.cells ⟨x0 :: x1 :: x2 :: x3 :: x4 :: l⟩ t (0, 0))) : w.cell? ⟨g, 4, none⟩ = some x4 := (blk_cell h 4).trans rfl
theorem bc5 {w : World} {g : Nat} {t : TypeId} {x0 x1 x2 x3 x4 x5 : Value} {l : List Value} (h : w.heap[g]? = some (.cells ⟨x0 :: x1 :: x2 :: x3 :: x4 :: x5 :: l⟩ t (0, 0))) : w.cell? ⟨g, 5, none⟩ = some x5 := (blk_cell h 5).trans rfl
theorem bc6 {w : World} {g : Nat} {t : TypeId} {x0 x1 x2 x3 x4 x5 x6 : Value} {l : List Value} (h : w.heap[g]? = some (.cells ⟨x0 :: x1 :: x2 :: x3 :: x4 :: x5 :: x6 :: l⟩ t (0, 0))) : w.cell? ⟨g, 6, none⟩ = some x6 := (blk_cell h 6).trans rfl
theorem bc7 {w : World} {g : Nat} {t : TypeId} {x0 x1 x2 x3 x4 x5 x6 x7 : Value} {l : List Value} (h : w.heap[g]? = some (.cells ⟨x0 :: x1 :: x2 :: x3 :: x4 :: x5 :: x6 :: x7 :: l⟩ t (0, 0))) : w.cell? ⟨g, 7, none⟩ = some x7 := (blk_cell h 7).trans rfl
end Go.Proofs.YtkpcogaahgfmcaaX
