/-
  No cell of these rows narrows 'for every input' (looked for: loops, veiled, ifaces, maps, wideKeys, modest, calm, conditions, laid).
  DERIVED. THE GIVEN ROWS OF THIS SEAT. 8 by the template 'for every input the law returns true; each argument reads behind the call as it read before'; 0 by the template 'total and deterministic' (their statements: YtgklblkigjbggaaGreatTotals.lean).
  GIVEN WITH THE SEED: the statements are not yours to turn. If you find one false, say at which input.
  Laid BY PROGRAM, IN A SANDBOX (cutbox-rows.mjs): the forced cells as the released guide's own fill.sh prints them over the translation 68308fa6af4f8e12… (all of the seat's roots in one cut). By AI agents, Wed Nov 11 2026. No macro, syntax, notation, axiom, sorry.
-/
import Derived.Test.YtgklblkigjbggaaGreatChecked
import GoSem.Claim
import GoSem.ClaimJoined
import GoSem.ClaimMapViews
import Derived.JoinedTies
import Derived.KernelRfl
namespace Go.Proofs.YtgklblkigjbggaaGreat
/- THE CELL 'sum', in the pinned program and in every row, IS THE sha256 OF THE DUMP (.gsa) THAT YtgklblkigjbggaaGreatProg.lean LOADS. Nothing in Lean hashes anything: it is a label: what it is worth is what the hold of that sum in a sandbox is worth. -/
noncomputable def Tryz.pinned : Pinned := { name := "ytgklblkigjbggaagreat", sum := "68308fa6af4f8e12ac76e21ca8f5e0b86d143dcb33fb738f980cbaa57f3ee484", checked := Tryz.checked }
namespace Rows
def none {H : Type} : Left H := { results := [], args := [] }

/-- 'laws.FnExactRegularClasses': WHATEVER THE INPUT: true; the input reads as it did. -/
def fnExactRegularClassesSpec : ChangeSpec := { name := "fnExactRegularClasses", fn := fun _ => fun
  | [d1, d2, d3] => { results := [.lit (.bool true)], args := [d1, d2, d3] }
  | _ => none }
def fnExactRegularClassesRow : OpenClaim := { program := "ytgklblkigjbggaagreat", sum := "68308fa6af4f8e12ac76e21ca8f5e0b86d143dcb33fb738f980cbaa57f3ee484", func := "loop.example/g01363/laws.FnExactRegularClasses", spec := "fnExactRegularClasses", unfollowed := true, recurses := true, apart := false }
def FnExactRegularClassesSaid : Prop := fnExactRegularClassesRow.holds Tryz.pinned (OpenSpec.ofChange fnExactRegularClassesSpec)

/-- ITS FALSE NEIGHBOUR: 'it returns false'. Refute it at one input. -/
def fnExactRegularClassesWrong : ChangeSpec := { name := "fnExactRegularClasses", fn := fun _ => fun
  | [d1, d2, d3] => { results := [.lit (.bool false)], args := [d1, d2, d3] }
  | _ => none }
def FnExactRegularClassesWrongFalsely : Prop := fnExactRegularClassesRow.holds Tryz.pinned (OpenSpec.ofChange fnExactRegularClassesWrong)

/-- 'laws.FnExactRestrictCochain': WHATEVER THE INPUT: true; the input reads as it did. -/
def fnExactRestrictCochainSpec : ChangeSpec := { name := "fnExactRestrictCochain", fn := fun _ => fun
  | [d1, d2, d3, d4] => { results := [.lit (.bool true)], args := [d1, d2, d3, d4] }
  | _ => none }
def fnExactRestrictCochainRow : OpenClaim := { program := "ytgklblkigjbggaagreat", sum := "68308fa6af4f8e12ac76e21ca8f5e0b86d143dcb33fb738f980cbaa57f3ee484", func := "loop.example/g01363/laws.FnExactRestrictCochain", spec := "fnExactRestrictCochain", unfollowed := true, recurses := true, apart := false }
def FnExactRestrictCochainSaid : Prop := fnExactRestrictCochainRow.holds Tryz.pinned (OpenSpec.ofChange fnExactRestrictCochainSpec)

/-- ITS FALSE NEIGHBOUR: 'it returns false'. Refute it at one input. -/
def fnExactRestrictCochainWrong : ChangeSpec := { name := "fnExactRestrictCochain", fn := fun _ => fun
  | [d1, d2, d3, d4] => { results := [.lit (.bool false)], args := [d1, d2, d3, d4] }
  | _ => none }
def FnExactRestrictCochainWrongFalsely : Prop := fnExactRestrictCochainRow.holds Tryz.pinned (OpenSpec.ofChange fnExactRestrictCochainWrong)

/-- 'laws.FnExactConjugateCochain': WHATEVER THE INPUT: true; the input reads as it did. -/
def fnExactConjugateCochainSpec : ChangeSpec := { name := "fnExactConjugateCochain", fn := fun _ => fun
  | [d1, d2, d3, d4, d5] => { results := [.lit (.bool true)], args := [d1, d2, d3, d4, d5] }
  | _ => none }
def fnExactConjugateCochainRow : OpenClaim := { program := "ytgklblkigjbggaagreat", sum := "68308fa6af4f8e12ac76e21ca8f5e0b86d143dcb33fb738f980cbaa57f3ee484", func := "loop.example/g01363/laws.FnExactConjugateCochain", spec := "fnExactConjugateCochain", unfollowed := true, recurses := true, apart := false }
def FnExactConjugateCochainSaid : Prop := fnExactConjugateCochainRow.holds Tryz.pinned (OpenSpec.ofChange fnExactConjugateCochainSpec)

/-- ITS FALSE NEIGHBOUR: 'it returns false'. Refute it at one input. -/
def fnExactConjugateCochainWrong : ChangeSpec := { name := "fnExactConjugateCochain", fn := fun _ => fun
  | [d1, d2, d3, d4, d5] => { results := [.lit (.bool false)], args := [d1, d2, d3, d4, d5] }
  | _ => none }
def FnExactConjugateCochainWrongFalsely : Prop := fnExactConjugateCochainRow.holds Tryz.pinned (OpenSpec.ofChange fnExactConjugateCochainWrong)

/-- 'laws.FnExactTransferCochain': WHATEVER THE INPUT: true; the input reads as it did. -/
def fnExactTransferCochainSpec : ChangeSpec := { name := "fnExactTransferCochain", fn := fun _ => fun
  | [d1, d2, d3, d4] => { results := [.lit (.bool true)], args := [d1, d2, d3, d4] }
  | _ => none }
def fnExactTransferCochainRow : OpenClaim := { program := "ytgklblkigjbggaagreat", sum := "68308fa6af4f8e12ac76e21ca8f5e0b86d143dcb33fb738f980cbaa57f3ee484", func := "loop.example/g01363/laws.FnExactTransferCochain", spec := "fnExactTransferCochain", unfollowed := true, recurses := true, apart := false }
def FnExactTransferCochainSaid : Prop := fnExactTransferCochainRow.holds Tryz.pinned (OpenSpec.ofChange fnExactTransferCochainSpec)

/-- ITS FALSE NEIGHBOUR: 'it returns false'. Refute it at one input. -/
def fnExactTransferCochainWrong : ChangeSpec := { name := "fnExactTransferCochain", fn := fun _ => fun
  | [d1, d2, d3, d4] => { results := [.lit (.bool false)], args := [d1, d2, d3, d4] }
  | _ => none }
def FnExactTransferCochainWrongFalsely : Prop := fnExactTransferCochainRow.holds Tryz.pinned (OpenSpec.ofChange fnExactTransferCochainWrong)

/-- 'laws.FnExactInflateCochain': WHATEVER THE INPUT: true; the input reads as it did. -/
def fnExactInflateCochainSpec : ChangeSpec := { name := "fnExactInflateCochain", fn := fun _ => fun
  | [d1, d2, d3, d4] => { results := [.lit (.bool true)], args := [d1, d2, d3, d4] }
  | _ => none }
def fnExactInflateCochainRow : OpenClaim := { program := "ytgklblkigjbggaagreat", sum := "68308fa6af4f8e12ac76e21ca8f5e0b86d143dcb33fb738f980cbaa57f3ee484", func := "loop.example/g01363/laws.FnExactInflateCochain", spec := "fnExactInflateCochain", unfollowed := true, recurses := true, apart := false }
def FnExactInflateCochainSaid : Prop := fnExactInflateCochainRow.holds Tryz.pinned (OpenSpec.ofChange fnExactInflateCochainSpec)

/-- ITS FALSE NEIGHBOUR: 'it returns false'. Refute it at one input. -/
def fnExactInflateCochainWrong : ChangeSpec := { name := "fnExactInflateCochain", fn := fun _ => fun
  | [d1, d2, d3, d4] => { results := [.lit (.bool false)], args := [d1, d2, d3, d4] }
  | _ => none }
def FnExactInflateCochainWrongFalsely : Prop := fnExactInflateCochainRow.holds Tryz.pinned (OpenSpec.ofChange fnExactInflateCochainWrong)

/-- 'laws.FnExactImageOrders': WHATEVER THE INPUT: true; the input reads as it did. -/
def fnExactImageOrdersSpec : ChangeSpec := { name := "fnExactImageOrders", fn := fun _ => fun
  | [d1, d2, d3, d4] => { results := [.lit (.bool true)], args := [d1, d2, d3, d4] }
  | _ => none }
def fnExactImageOrdersRow : OpenClaim := { program := "ytgklblkigjbggaagreat", sum := "68308fa6af4f8e12ac76e21ca8f5e0b86d143dcb33fb738f980cbaa57f3ee484", func := "loop.example/g01363/laws.FnExactImageOrders", spec := "fnExactImageOrders", unfollowed := true, recurses := true, apart := false }
def FnExactImageOrdersSaid : Prop := fnExactImageOrdersRow.holds Tryz.pinned (OpenSpec.ofChange fnExactImageOrdersSpec)

/-- ITS FALSE NEIGHBOUR: 'it returns false'. Refute it at one input. -/
def fnExactImageOrdersWrong : ChangeSpec := { name := "fnExactImageOrders", fn := fun _ => fun
  | [d1, d2, d3, d4] => { results := [.lit (.bool false)], args := [d1, d2, d3, d4] }
  | _ => none }
def FnExactImageOrdersWrongFalsely : Prop := fnExactImageOrdersRow.holds Tryz.pinned (OpenSpec.ofChange fnExactImageOrdersWrong)

/-- 'laws.FnExactAbelianInvariants': WHATEVER THE INPUT: true; the input reads as it did. -/
def fnExactAbelianInvariantsSpec : ChangeSpec := { name := "fnExactAbelianInvariants", fn := fun _ => fun
  | [d] => { results := [.lit (.bool true)], args := [d] }
  | _ => none }
def fnExactAbelianInvariantsRow : OpenClaim := { program := "ytgklblkigjbggaagreat", sum := "68308fa6af4f8e12ac76e21ca8f5e0b86d143dcb33fb738f980cbaa57f3ee484", func := "loop.example/g01363/laws.FnExactAbelianInvariants", spec := "fnExactAbelianInvariants", unfollowed := true, recurses := true, apart := false }
def FnExactAbelianInvariantsSaid : Prop := fnExactAbelianInvariantsRow.holds Tryz.pinned (OpenSpec.ofChange fnExactAbelianInvariantsSpec)

/-- ITS FALSE NEIGHBOUR: 'it returns false'. Refute it at one input. -/
def fnExactAbelianInvariantsWrong : ChangeSpec := { name := "fnExactAbelianInvariants", fn := fun _ => fun
  | [d] => { results := [.lit (.bool false)], args := [d] }
  | _ => none }
def FnExactAbelianInvariantsWrongFalsely : Prop := fnExactAbelianInvariantsRow.holds Tryz.pinned (OpenSpec.ofChange fnExactAbelianInvariantsWrong)

/-- 'laws.FnExactMultiplierOf': WHATEVER THE INPUT: true; the input reads as it did. -/
def fnExactMultiplierOfSpec : ChangeSpec := { name := "fnExactMultiplierOf", fn := fun _ => fun
  | [d] => { results := [.lit (.bool true)], args := [d] }
  | _ => none }
def fnExactMultiplierOfRow : OpenClaim := { program := "ytgklblkigjbggaagreat", sum := "68308fa6af4f8e12ac76e21ca8f5e0b86d143dcb33fb738f980cbaa57f3ee484", func := "loop.example/g01363/laws.FnExactMultiplierOf", spec := "fnExactMultiplierOf", unfollowed := true, recurses := true, apart := false }
def FnExactMultiplierOfSaid : Prop := fnExactMultiplierOfRow.holds Tryz.pinned (OpenSpec.ofChange fnExactMultiplierOfSpec)

/-- ITS FALSE NEIGHBOUR: 'it returns false'. Refute it at one input. -/
def fnExactMultiplierOfWrong : ChangeSpec := { name := "fnExactMultiplierOf", fn := fun _ => fun
  | [d] => { results := [.lit (.bool false)], args := [d] }
  | _ => none }
def FnExactMultiplierOfWrongFalsely : Prop := fnExactMultiplierOfRow.holds Tryz.pinned (OpenSpec.ofChange fnExactMultiplierOfWrong)

/- THE SECOND FORM. 'bulk': how many values and letters a reading holds, each counted each time it is reached (what is shared counts as often as it is met; a slice's spare places count too). A statement '..UptoSaid' is the law's where the arguments, and the package variables that the reading takes, are together of bulk at most 1048576: NARROWER than '..Said'. Prove '..Said' where nothing that the law and all that it calls make is longer than what came in: it says more and counts as full. Else prove '..UptoSaid'. A law counts once. -/
mutual
def uptoBulk {H : Type} : DataW H → Nat
  | .lit (.string bytes) => bytes.length + 1
  | .lit _ => 1
  | .nil => 1
  | .ptr d => uptoBulk d + 1
  | .slice elems spare => uptoBulkAll elems + uptoBulkAll spare + 1
  | .agg parts => uptoBulkAll parts + 1
  | .iface _ d => uptoBulk d + 1
  | .map entries => uptoBulkEntries entries + 1
  | .held _ => 1
def uptoBulkAll {H : Type} : List (DataW H) → Nat
  | [] => 0
  | d :: r => uptoBulk d + uptoBulkAll r
def uptoBulkEntries {H : Type} : List (Lit × DataW H) → Nat
  | [] => 0
  | x :: r => uptoBulkEntry x + uptoBulkEntries r
def uptoBulkEntry {H : Type} : Lit × DataW H → Nat
  | (.string bytes, d) => bytes.length + uptoBulk d + 1
  | (_, d) => uptoBulk d + 1
 end
def uptoSmall : (H : Type) → List (DataW H) → Bool := fun _ ds => decide (uptoBulkAll ds ≤ 1048576)
def OpenSpec.upto (s : _root_.Go.ChangeSpec) : _root_.Go.OpenSpec := { _root_.Go.OpenSpec.ofChange s with cond := some uptoSmall }

/-- 'laws.FnExactRegularClasses', WHERE WHAT IT READS IS OF BULK AT MOST 1048576: true; the input reads as it did. -/
def fnExactRegularClassesUptoRow : OpenClaim := { program := "ytgklblkigjbggaagreat", sum := "68308fa6af4f8e12ac76e21ca8f5e0b86d143dcb33fb738f980cbaa57f3ee484", func := "loop.example/g01363/laws.FnExactRegularClasses", spec := "fnExactRegularClasses", unfollowed := true, recurses := true, apart := false, narrowed := true }
def FnExactRegularClassesUptoSaid : Prop := fnExactRegularClassesUptoRow.holds Tryz.pinned (OpenSpec.upto fnExactRegularClassesSpec)

/-- 'laws.FnExactRestrictCochain', WHERE WHAT IT READS IS OF BULK AT MOST 1048576: true; the input reads as it did. -/
def fnExactRestrictCochainUptoRow : OpenClaim := { program := "ytgklblkigjbggaagreat", sum := "68308fa6af4f8e12ac76e21ca8f5e0b86d143dcb33fb738f980cbaa57f3ee484", func := "loop.example/g01363/laws.FnExactRestrictCochain", spec := "fnExactRestrictCochain", unfollowed := true, recurses := true, apart := false, narrowed := true }
def FnExactRestrictCochainUptoSaid : Prop := fnExactRestrictCochainUptoRow.holds Tryz.pinned (OpenSpec.upto fnExactRestrictCochainSpec)

/-- 'laws.FnExactConjugateCochain', WHERE WHAT IT READS IS OF BULK AT MOST 1048576: true; the input reads as it did. -/
def fnExactConjugateCochainUptoRow : OpenClaim := { program := "ytgklblkigjbggaagreat", sum := "68308fa6af4f8e12ac76e21ca8f5e0b86d143dcb33fb738f980cbaa57f3ee484", func := "loop.example/g01363/laws.FnExactConjugateCochain", spec := "fnExactConjugateCochain", unfollowed := true, recurses := true, apart := false, narrowed := true }
def FnExactConjugateCochainUptoSaid : Prop := fnExactConjugateCochainUptoRow.holds Tryz.pinned (OpenSpec.upto fnExactConjugateCochainSpec)

/-- 'laws.FnExactTransferCochain', WHERE WHAT IT READS IS OF BULK AT MOST 1048576: true; the input reads as it did. -/
def fnExactTransferCochainUptoRow : OpenClaim := { program := "ytgklblkigjbggaagreat", sum := "68308fa6af4f8e12ac76e21ca8f5e0b86d143dcb33fb738f980cbaa57f3ee484", func := "loop.example/g01363/laws.FnExactTransferCochain", spec := "fnExactTransferCochain", unfollowed := true, recurses := true, apart := false, narrowed := true }
def FnExactTransferCochainUptoSaid : Prop := fnExactTransferCochainUptoRow.holds Tryz.pinned (OpenSpec.upto fnExactTransferCochainSpec)

/-- 'laws.FnExactInflateCochain', WHERE WHAT IT READS IS OF BULK AT MOST 1048576: true; the input reads as it did. -/
def fnExactInflateCochainUptoRow : OpenClaim := { program := "ytgklblkigjbggaagreat", sum := "68308fa6af4f8e12ac76e21ca8f5e0b86d143dcb33fb738f980cbaa57f3ee484", func := "loop.example/g01363/laws.FnExactInflateCochain", spec := "fnExactInflateCochain", unfollowed := true, recurses := true, apart := false, narrowed := true }
def FnExactInflateCochainUptoSaid : Prop := fnExactInflateCochainUptoRow.holds Tryz.pinned (OpenSpec.upto fnExactInflateCochainSpec)

/-- 'laws.FnExactImageOrders', WHERE WHAT IT READS IS OF BULK AT MOST 1048576: true; the input reads as it did. -/
def fnExactImageOrdersUptoRow : OpenClaim := { program := "ytgklblkigjbggaagreat", sum := "68308fa6af4f8e12ac76e21ca8f5e0b86d143dcb33fb738f980cbaa57f3ee484", func := "loop.example/g01363/laws.FnExactImageOrders", spec := "fnExactImageOrders", unfollowed := true, recurses := true, apart := false, narrowed := true }
def FnExactImageOrdersUptoSaid : Prop := fnExactImageOrdersUptoRow.holds Tryz.pinned (OpenSpec.upto fnExactImageOrdersSpec)

/-- 'laws.FnExactAbelianInvariants', WHERE WHAT IT READS IS OF BULK AT MOST 1048576: true; the input reads as it did. -/
def fnExactAbelianInvariantsUptoRow : OpenClaim := { program := "ytgklblkigjbggaagreat", sum := "68308fa6af4f8e12ac76e21ca8f5e0b86d143dcb33fb738f980cbaa57f3ee484", func := "loop.example/g01363/laws.FnExactAbelianInvariants", spec := "fnExactAbelianInvariants", unfollowed := true, recurses := true, apart := false, narrowed := true }
def FnExactAbelianInvariantsUptoSaid : Prop := fnExactAbelianInvariantsUptoRow.holds Tryz.pinned (OpenSpec.upto fnExactAbelianInvariantsSpec)

/-- 'laws.FnExactMultiplierOf', WHERE WHAT IT READS IS OF BULK AT MOST 1048576: true; the input reads as it did. -/
def fnExactMultiplierOfUptoRow : OpenClaim := { program := "ytgklblkigjbggaagreat", sum := "68308fa6af4f8e12ac76e21ca8f5e0b86d143dcb33fb738f980cbaa57f3ee484", func := "loop.example/g01363/laws.FnExactMultiplierOf", spec := "fnExactMultiplierOf", unfollowed := true, recurses := true, apart := false, narrowed := true }
def FnExactMultiplierOfUptoSaid : Prop := fnExactMultiplierOfUptoRow.holds Tryz.pinned (OpenSpec.upto fnExactMultiplierOfSpec)

end Rows
end Go.Proofs.YtgklblkigjbggaaGreat
