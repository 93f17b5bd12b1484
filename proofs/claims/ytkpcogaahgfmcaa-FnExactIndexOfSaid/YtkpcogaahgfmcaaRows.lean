/-
  No cell of these rows narrows 'for every input' (looked for: loops, veiled, ifaces, maps, wideKeys, modest, calm, conditions, laid).
  DERIVED. THE GIVEN ROWS OF THIS SEAT. 12 by the template 'for every input the law returns true; each argument reads behind the call as it read before'; 0 by the template 'total and deterministic' (their statements: YtkpcogaahgfmcaaTotals.lean).
  GIVEN WITH THE SEED: the statements are not yours to turn. If you find one false, say at which input.
  Laid BY PROGRAM, IN A SANDBOX (cutbox-rows.mjs): the forced cells as the released guide's own fill.sh prints them over the translation d9c6f9be1868ed59… (all of the seat's roots in one cut). By AI agents, Wed Nov 11 2026. No macro, syntax, notation, axiom, sorry.
-/
import Derived.Test.YtkpcogaahgfmcaaChecked
import GoSem.Claim
import GoSem.ClaimJoined
import GoSem.ClaimMapViews
import Derived.JoinedTies
import Derived.KernelRfl
namespace Go.Proofs.Ytkpcogaahgfmcaa
/- THE CELL 'sum', in the pinned program and in every row, IS THE sha256 OF THE DUMP (.gsa) THAT YtkpcogaahgfmcaaProg.lean LOADS. Nothing in Lean hashes anything: it is a label: what it is worth is what the hold of that sum in a sandbox is worth. -/
noncomputable def Try.pinned : Pinned := { name := "ytkpcogaahgfmcaa", sum := "d9c6f9be1868ed5939ec3103652cfad366561579d8438442e72d6c5fde518e7b", checked := Try.checked }
namespace Rows
def none {H : Type} : Left H := { results := [], args := [] }

/-- 'laws.FnExactInnerModule': WHATEVER THE INPUT: true; the input reads as it did. -/
def fnExactInnerModuleSpec : ChangeSpec := { name := "fnExactInnerModule", fn := fun _ => fun
  | [d1, d2, d3] => { results := [.lit (.bool true)], args := [d1, d2, d3] }
  | _ => none }
def fnExactInnerModuleRow : OpenClaim := { program := "ytkpcogaahgfmcaa", sum := "d9c6f9be1868ed5939ec3103652cfad366561579d8438442e72d6c5fde518e7b", func := "loop.example/g01363/laws.FnExactInnerModule", spec := "fnExactInnerModule", unfollowed := true, recurses := true, apart := false }
def FnExactInnerModuleSaid : Prop := fnExactInnerModuleRow.holds Try.pinned (OpenSpec.ofChange fnExactInnerModuleSpec)

/-- ITS FALSE NEIGHBOUR: 'it returns false'. Refute it at one input. -/
def fnExactInnerModuleWrong : ChangeSpec := { name := "fnExactInnerModule", fn := fun _ => fun
  | [d1, d2, d3] => { results := [.lit (.bool false)], args := [d1, d2, d3] }
  | _ => none }
def FnExactInnerModuleWrongFalsely : Prop := fnExactInnerModuleRow.holds Try.pinned (OpenSpec.ofChange fnExactInnerModuleWrong)

/-- 'laws.FnExactOuterModule': WHATEVER THE INPUT: true; the input reads as it did. -/
def fnExactOuterModuleSpec : ChangeSpec := { name := "fnExactOuterModule", fn := fun _ => fun
  | [d1, d2, d3] => { results := [.lit (.bool true)], args := [d1, d2, d3] }
  | _ => none }
def fnExactOuterModuleRow : OpenClaim := { program := "ytkpcogaahgfmcaa", sum := "d9c6f9be1868ed5939ec3103652cfad366561579d8438442e72d6c5fde518e7b", func := "loop.example/g01363/laws.FnExactOuterModule", spec := "fnExactOuterModule", unfollowed := true, recurses := true, apart := false }
def FnExactOuterModuleSaid : Prop := fnExactOuterModuleRow.holds Try.pinned (OpenSpec.ofChange fnExactOuterModuleSpec)

/-- ITS FALSE NEIGHBOUR: 'it returns false'. Refute it at one input. -/
def fnExactOuterModuleWrong : ChangeSpec := { name := "fnExactOuterModule", fn := fun _ => fun
  | [d1, d2, d3] => { results := [.lit (.bool false)], args := [d1, d2, d3] }
  | _ => none }
def FnExactOuterModuleWrongFalsely : Prop := fnExactOuterModuleRow.holds Try.pinned (OpenSpec.ofChange fnExactOuterModuleWrong)

/-- 'laws.FnExactIsDesk': WHATEVER THE INPUT: true; the input reads as it did. -/
def fnExactIsDeskSpec : ChangeSpec := { name := "fnExactIsDesk", fn := fun _ => fun
  | [d] => { results := [.lit (.bool true)], args := [d] }
  | _ => none }
def fnExactIsDeskRow : OpenClaim := { program := "ytkpcogaahgfmcaa", sum := "d9c6f9be1868ed5939ec3103652cfad366561579d8438442e72d6c5fde518e7b", func := "loop.example/g01363/laws.FnExactIsDesk", spec := "fnExactIsDesk", apart := false }
def FnExactIsDeskSaid : Prop := fnExactIsDeskRow.holds Try.pinned (OpenSpec.ofChange fnExactIsDeskSpec)

/-- ITS FALSE NEIGHBOUR: 'it returns false'. Refute it at one input. -/
def fnExactIsDeskWrong : ChangeSpec := { name := "fnExactIsDesk", fn := fun _ => fun
  | [d] => { results := [.lit (.bool false)], args := [d] }
  | _ => none }
def FnExactIsDeskWrongFalsely : Prop := fnExactIsDeskRow.holds Try.pinned (OpenSpec.ofChange fnExactIsDeskWrong)

/-- 'laws.FnExactReduceCochain': WHATEVER THE INPUT: true; the input reads as it did. -/
def fnExactReduceCochainSpec : ChangeSpec := { name := "fnExactReduceCochain", fn := fun _ => fun
  | [d1, d2, d3, d4] => { results := [.lit (.bool true)], args := [d1, d2, d3, d4] }
  | _ => none }
def fnExactReduceCochainRow : OpenClaim := { program := "ytkpcogaahgfmcaa", sum := "d9c6f9be1868ed5939ec3103652cfad366561579d8438442e72d6c5fde518e7b", func := "loop.example/g01363/laws.FnExactReduceCochain", spec := "fnExactReduceCochain", unfollowed := true, recurses := true, apart := false }
def FnExactReduceCochainSaid : Prop := fnExactReduceCochainRow.holds Try.pinned (OpenSpec.ofChange fnExactReduceCochainSpec)

/-- ITS FALSE NEIGHBOUR: 'it returns false'. Refute it at one input. -/
def fnExactReduceCochainWrong : ChangeSpec := { name := "fnExactReduceCochain", fn := fun _ => fun
  | [d1, d2, d3, d4] => { results := [.lit (.bool false)], args := [d1, d2, d3, d4] }
  | _ => none }
def FnExactReduceCochainWrongFalsely : Prop := fnExactReduceCochainRow.holds Try.pinned (OpenSpec.ofChange fnExactReduceCochainWrong)

/-- 'laws.FnExactEmbedCochain': WHATEVER THE INPUT: true; the input reads as it did. -/
def fnExactEmbedCochainSpec : ChangeSpec := { name := "fnExactEmbedCochain", fn := fun _ => fun
  | [d1, d2, d3, d4] => { results := [.lit (.bool true)], args := [d1, d2, d3, d4] }
  | _ => none }
def fnExactEmbedCochainRow : OpenClaim := { program := "ytkpcogaahgfmcaa", sum := "d9c6f9be1868ed5939ec3103652cfad366561579d8438442e72d6c5fde518e7b", func := "loop.example/g01363/laws.FnExactEmbedCochain", spec := "fnExactEmbedCochain", unfollowed := true, recurses := true, apart := false }
def FnExactEmbedCochainSaid : Prop := fnExactEmbedCochainRow.holds Try.pinned (OpenSpec.ofChange fnExactEmbedCochainSpec)

/-- ITS FALSE NEIGHBOUR: 'it returns false'. Refute it at one input. -/
def fnExactEmbedCochainWrong : ChangeSpec := { name := "fnExactEmbedCochain", fn := fun _ => fun
  | [d1, d2, d3, d4] => { results := [.lit (.bool false)], args := [d1, d2, d3, d4] }
  | _ => none }
def FnExactEmbedCochainWrongFalsely : Prop := fnExactEmbedCochainRow.holds Try.pinned (OpenSpec.ofChange fnExactEmbedCochainWrong)

/-- 'laws.FnExactLiftCochain': WHATEVER THE INPUT: true; the input reads as it did. -/
def fnExactLiftCochainSpec : ChangeSpec := { name := "fnExactLiftCochain", fn := fun _ => fun
  | [d1, d2, d3, d4] => { results := [.lit (.bool true)], args := [d1, d2, d3, d4] }
  | _ => none }
def fnExactLiftCochainRow : OpenClaim := { program := "ytkpcogaahgfmcaa", sum := "d9c6f9be1868ed5939ec3103652cfad366561579d8438442e72d6c5fde518e7b", func := "loop.example/g01363/laws.FnExactLiftCochain", spec := "fnExactLiftCochain", unfollowed := true, recurses := true, apart := false }
def FnExactLiftCochainSaid : Prop := fnExactLiftCochainRow.holds Try.pinned (OpenSpec.ofChange fnExactLiftCochainSpec)

/-- ITS FALSE NEIGHBOUR: 'it returns false'. Refute it at one input. -/
def fnExactLiftCochainWrong : ChangeSpec := { name := "fnExactLiftCochain", fn := fun _ => fun
  | [d1, d2, d3, d4] => { results := [.lit (.bool false)], args := [d1, d2, d3, d4] }
  | _ => none }
def FnExactLiftCochainWrongFalsely : Prop := fnExactLiftCochainRow.holds Try.pinned (OpenSpec.ofChange fnExactLiftCochainWrong)

/-- 'laws.FnWraps': WHATEVER THE INPUT: true; the input reads as it did. -/
def fnWrapsSpec : ChangeSpec := { name := "fnWraps", fn := fun _ => fun
  | [d] => { results := [.lit (.bool true)], args := [d] }
  | _ => none }
def fnWrapsRow : OpenClaim := { program := "ytkpcogaahgfmcaa", sum := "d9c6f9be1868ed5939ec3103652cfad366561579d8438442e72d6c5fde518e7b", func := "loop.example/g01363/laws.FnWraps", spec := "fnWraps", unfollowed := true, recurses := true, apart := false }
def FnWrapsSaid : Prop := fnWrapsRow.holds Try.pinned (OpenSpec.ofChange fnWrapsSpec)

/-- ITS FALSE NEIGHBOUR: 'it returns false'. Refute it at one input. -/
def fnWrapsWrong : ChangeSpec := { name := "fnWraps", fn := fun _ => fun
  | [d] => { results := [.lit (.bool false)], args := [d] }
  | _ => none }
def FnWrapsWrongFalsely : Prop := fnWrapsRow.holds Try.pinned (OpenSpec.ofChange fnWrapsWrong)

/-- 'laws.FnExactIsSymmetric': WHATEVER THE INPUT: true; the input reads as it did. -/
def fnExactIsSymmetricSpec : ChangeSpec := { name := "fnExactIsSymmetric", fn := fun _ => fun
  | [d1, d2, d3] => { results := [.lit (.bool true)], args := [d1, d2, d3] }
  | _ => none }
def fnExactIsSymmetricRow : OpenClaim := { program := "ytkpcogaahgfmcaa", sum := "d9c6f9be1868ed5939ec3103652cfad366561579d8438442e72d6c5fde518e7b", func := "loop.example/g01363/laws.FnExactIsSymmetric", spec := "fnExactIsSymmetric", unfollowed := true, recurses := true, apart := false }
def FnExactIsSymmetricSaid : Prop := fnExactIsSymmetricRow.holds Try.pinned (OpenSpec.ofChange fnExactIsSymmetricSpec)

/-- ITS FALSE NEIGHBOUR: 'it returns false'. Refute it at one input. -/
def fnExactIsSymmetricWrong : ChangeSpec := { name := "fnExactIsSymmetric", fn := fun _ => fun
  | [d1, d2, d3] => { results := [.lit (.bool false)], args := [d1, d2, d3] }
  | _ => none }
def FnExactIsSymmetricWrongFalsely : Prop := fnExactIsSymmetricRow.holds Try.pinned (OpenSpec.ofChange fnExactIsSymmetricWrong)

/-- 'laws.FnExactFormOf': WHATEVER THE INPUT: true; the input reads as it did. -/
def fnExactFormOfSpec : ChangeSpec := { name := "fnExactFormOf", fn := fun _ => fun
  | [d1, d2, d3] => { results := [.lit (.bool true)], args := [d1, d2, d3] }
  | _ => none }
def fnExactFormOfRow : OpenClaim := { program := "ytkpcogaahgfmcaa", sum := "d9c6f9be1868ed5939ec3103652cfad366561579d8438442e72d6c5fde518e7b", func := "loop.example/g01363/laws.FnExactFormOf", spec := "fnExactFormOf", unfollowed := true, recurses := true, apart := false }
def FnExactFormOfSaid : Prop := fnExactFormOfRow.holds Try.pinned (OpenSpec.ofChange fnExactFormOfSpec)

/-- ITS FALSE NEIGHBOUR: 'it returns false'. Refute it at one input. -/
def fnExactFormOfWrong : ChangeSpec := { name := "fnExactFormOf", fn := fun _ => fun
  | [d1, d2, d3] => { results := [.lit (.bool false)], args := [d1, d2, d3] }
  | _ => none }
def FnExactFormOfWrongFalsely : Prop := fnExactFormOfRow.holds Try.pinned (OpenSpec.ofChange fnExactFormOfWrong)

/-- 'laws.FnExactConnectingCochain': WHATEVER THE INPUT: true; the input reads as it did. -/
def fnExactConnectingCochainSpec : ChangeSpec := { name := "fnExactConnectingCochain", fn := fun _ => fun
  | [d1, d2, d3, d4] => { results := [.lit (.bool true)], args := [d1, d2, d3, d4] }
  | _ => none }
def fnExactConnectingCochainRow : OpenClaim := { program := "ytkpcogaahgfmcaa", sum := "d9c6f9be1868ed5939ec3103652cfad366561579d8438442e72d6c5fde518e7b", func := "loop.example/g01363/laws.FnExactConnectingCochain", spec := "fnExactConnectingCochain", unfollowed := true, recurses := true, apart := false }
def FnExactConnectingCochainSaid : Prop := fnExactConnectingCochainRow.holds Try.pinned (OpenSpec.ofChange fnExactConnectingCochainSpec)

/-- ITS FALSE NEIGHBOUR: 'it returns false'. Refute it at one input. -/
def fnExactConnectingCochainWrong : ChangeSpec := { name := "fnExactConnectingCochain", fn := fun _ => fun
  | [d1, d2, d3, d4] => { results := [.lit (.bool false)], args := [d1, d2, d3, d4] }
  | _ => none }
def FnExactConnectingCochainWrongFalsely : Prop := fnExactConnectingCochainRow.holds Try.pinned (OpenSpec.ofChange fnExactConnectingCochainWrong)

/-- 'laws.FnExactRegularElements': WHATEVER THE INPUT: true; the input reads as it did. -/
def fnExactRegularElementsSpec : ChangeSpec := { name := "fnExactRegularElements", fn := fun _ => fun
  | [d1, d2, d3] => { results := [.lit (.bool true)], args := [d1, d2, d3] }
  | _ => none }
def fnExactRegularElementsRow : OpenClaim := { program := "ytkpcogaahgfmcaa", sum := "d9c6f9be1868ed5939ec3103652cfad366561579d8438442e72d6c5fde518e7b", func := "loop.example/g01363/laws.FnExactRegularElements", spec := "fnExactRegularElements", unfollowed := true, recurses := true, apart := false }
def FnExactRegularElementsSaid : Prop := fnExactRegularElementsRow.holds Try.pinned (OpenSpec.ofChange fnExactRegularElementsSpec)

/-- ITS FALSE NEIGHBOUR: 'it returns false'. Refute it at one input. -/
def fnExactRegularElementsWrong : ChangeSpec := { name := "fnExactRegularElements", fn := fun _ => fun
  | [d1, d2, d3] => { results := [.lit (.bool false)], args := [d1, d2, d3] }
  | _ => none }
def FnExactRegularElementsWrongFalsely : Prop := fnExactRegularElementsRow.holds Try.pinned (OpenSpec.ofChange fnExactRegularElementsWrong)

/-- 'laws.FnExactIndexOf': WHATEVER THE INPUT: true; the input reads as it did. -/
def fnExactIndexOfSpec : ChangeSpec := { name := "fnExactIndexOf", fn := fun _ => fun
  | [d1, d2] => { results := [.lit (.bool true)], args := [d1, d2] }
  | _ => none }
def fnExactIndexOfRow : OpenClaim := { program := "ytkpcogaahgfmcaa", sum := "d9c6f9be1868ed5939ec3103652cfad366561579d8438442e72d6c5fde518e7b", func := "loop.example/g01363/laws.FnExactIndexOf", spec := "fnExactIndexOf", recurses := true, apart := false }
def FnExactIndexOfSaid : Prop := fnExactIndexOfRow.holds Try.pinned (OpenSpec.ofChange fnExactIndexOfSpec)

/-- ITS FALSE NEIGHBOUR: 'it returns false'. Refute it at one input. -/
def fnExactIndexOfWrong : ChangeSpec := { name := "fnExactIndexOf", fn := fun _ => fun
  | [d1, d2] => { results := [.lit (.bool false)], args := [d1, d2] }
  | _ => none }
def FnExactIndexOfWrongFalsely : Prop := fnExactIndexOfRow.holds Try.pinned (OpenSpec.ofChange fnExactIndexOfWrong)

/- THE SECOND FORM. 'bulk': how many values and letters a reading holds, each counted each time it is reached (what is shared counts as often as it is met; a slice's spare places count too). A statement '..UptoSaid' is the law's where the arguments, and the package variables that the reading takes, are together of bulk at most 1048576: NARROWER than '..Said'. Prove '..Said' where nothing that the law and all that it calls make is longer than what came in: it says more and counts as full. Else prove '..UptoSaid'. A law counts once. -/
mutual
def uptoBulk {H : Type} : DataW H → Nat
  | .lit (.string bytes) => bytes.length + 1
  | .lit _ => 1
  | .nil => 1
  | .ptr d => uptoBulk d + 1
  | .slice elems spare => uptoBulkAll elems + uptoBulkAll spare + 1
  | .agg parts => uptoBulkAll parts + 1
  | .iface _ d => uptoBulk d + 1
  | .map entries => uptoBulkEntries entries + 1
  | .held _ => 1
def uptoBulkAll {H : Type} : List (DataW H) → Nat
  | [] => 0
  | d :: r => uptoBulk d + uptoBulkAll r
def uptoBulkEntries {H : Type} : List (Lit × DataW H) → Nat
  | [] => 0
  | x :: r => uptoBulkEntry x + uptoBulkEntries r
def uptoBulkEntry {H : Type} : Lit × DataW H → Nat
  | (.string bytes, d) => bytes.length + uptoBulk d + 1
  | (_, d) => uptoBulk d + 1
 end
def uptoSmall : (H : Type) → List (DataW H) → Bool := fun _ ds => decide (uptoBulkAll ds ≤ 1048576)
def OpenSpec.upto (s : _root_.Go.ChangeSpec) : _root_.Go.OpenSpec := { _root_.Go.OpenSpec.ofChange s with cond := some uptoSmall }

/-- 'laws.FnExactInnerModule', WHERE WHAT IT READS IS OF BULK AT MOST 1048576: true; the input reads as it did. -/
def fnExactInnerModuleUptoRow : OpenClaim := { program := "ytkpcogaahgfmcaa", sum := "d9c6f9be1868ed5939ec3103652cfad366561579d8438442e72d6c5fde518e7b", func := "loop.example/g01363/laws.FnExactInnerModule", spec := "fnExactInnerModule", unfollowed := true, recurses := true, apart := false, narrowed := true }
def FnExactInnerModuleUptoSaid : Prop := fnExactInnerModuleUptoRow.holds Try.pinned (OpenSpec.upto fnExactInnerModuleSpec)

/-- 'laws.FnExactOuterModule', WHERE WHAT IT READS IS OF BULK AT MOST 1048576: true; the input reads as it did. -/
def fnExactOuterModuleUptoRow : OpenClaim := { program := "ytkpcogaahgfmcaa", sum := "d9c6f9be1868ed5939ec3103652cfad366561579d8438442e72d6c5fde518e7b", func := "loop.example/g01363/laws.FnExactOuterModule", spec := "fnExactOuterModule", unfollowed := true, recurses := true, apart := false, narrowed := true }
def FnExactOuterModuleUptoSaid : Prop := fnExactOuterModuleUptoRow.holds Try.pinned (OpenSpec.upto fnExactOuterModuleSpec)

/-- 'laws.FnExactIsDesk', WHERE WHAT IT READS IS OF BULK AT MOST 1048576: true; the input reads as it did. -/
def fnExactIsDeskUptoRow : OpenClaim := { program := "ytkpcogaahgfmcaa", sum := "d9c6f9be1868ed5939ec3103652cfad366561579d8438442e72d6c5fde518e7b", func := "loop.example/g01363/laws.FnExactIsDesk", spec := "fnExactIsDesk", apart := false, narrowed := true }
def FnExactIsDeskUptoSaid : Prop := fnExactIsDeskUptoRow.holds Try.pinned (OpenSpec.upto fnExactIsDeskSpec)

/-- 'laws.FnExactReduceCochain', WHERE WHAT IT READS IS OF BULK AT MOST 1048576: true; the input reads as it did. -/
def fnExactReduceCochainUptoRow : OpenClaim := { program := "ytkpcogaahgfmcaa", sum := "d9c6f9be1868ed5939ec3103652cfad366561579d8438442e72d6c5fde518e7b", func := "loop.example/g01363/laws.FnExactReduceCochain", spec := "fnExactReduceCochain", unfollowed := true, recurses := true, apart := false, narrowed := true }
def FnExactReduceCochainUptoSaid : Prop := fnExactReduceCochainUptoRow.holds Try.pinned (OpenSpec.upto fnExactReduceCochainSpec)

/-- 'laws.FnExactEmbedCochain', WHERE WHAT IT READS IS OF BULK AT MOST 1048576: true; the input reads as it did. -/
def fnExactEmbedCochainUptoRow : OpenClaim := { program := "ytkpcogaahgfmcaa", sum := "d9c6f9be1868ed5939ec3103652cfad366561579d8438442e72d6c5fde518e7b", func := "loop.example/g01363/laws.FnExactEmbedCochain", spec := "fnExactEmbedCochain", unfollowed := true, recurses := true, apart := false, narrowed := true }
def FnExactEmbedCochainUptoSaid : Prop := fnExactEmbedCochainUptoRow.holds Try.pinned (OpenSpec.upto fnExactEmbedCochainSpec)

/-- 'laws.FnExactLiftCochain', WHERE WHAT IT READS IS OF BULK AT MOST 1048576: true; the input reads as it did. -/
def fnExactLiftCochainUptoRow : OpenClaim := { program := "ytkpcogaahgfmcaa", sum := "d9c6f9be1868ed5939ec3103652cfad366561579d8438442e72d6c5fde518e7b", func := "loop.example/g01363/laws.FnExactLiftCochain", spec := "fnExactLiftCochain", unfollowed := true, recurses := true, apart := false, narrowed := true }
def FnExactLiftCochainUptoSaid : Prop := fnExactLiftCochainUptoRow.holds Try.pinned (OpenSpec.upto fnExactLiftCochainSpec)

/-- 'laws.FnWraps', WHERE WHAT IT READS IS OF BULK AT MOST 1048576: true; the input reads as it did. -/
def fnWrapsUptoRow : OpenClaim := { program := "ytkpcogaahgfmcaa", sum := "d9c6f9be1868ed5939ec3103652cfad366561579d8438442e72d6c5fde518e7b", func := "loop.example/g01363/laws.FnWraps", spec := "fnWraps", unfollowed := true, recurses := true, apart := false, narrowed := true }
def FnWrapsUptoSaid : Prop := fnWrapsUptoRow.holds Try.pinned (OpenSpec.upto fnWrapsSpec)

/-- 'laws.FnExactIsSymmetric', WHERE WHAT IT READS IS OF BULK AT MOST 1048576: true; the input reads as it did. -/
def fnExactIsSymmetricUptoRow : OpenClaim := { program := "ytkpcogaahgfmcaa", sum := "d9c6f9be1868ed5939ec3103652cfad366561579d8438442e72d6c5fde518e7b", func := "loop.example/g01363/laws.FnExactIsSymmetric", spec := "fnExactIsSymmetric", unfollowed := true, recurses := true, apart := false, narrowed := true }
def FnExactIsSymmetricUptoSaid : Prop := fnExactIsSymmetricUptoRow.holds Try.pinned (OpenSpec.upto fnExactIsSymmetricSpec)

/-- 'laws.FnExactFormOf', WHERE WHAT IT READS IS OF BULK AT MOST 1048576: true; the input reads as it did. -/
def fnExactFormOfUptoRow : OpenClaim := { program := "ytkpcogaahgfmcaa", sum := "d9c6f9be1868ed5939ec3103652cfad366561579d8438442e72d6c5fde518e7b", func := "loop.example/g01363/laws.FnExactFormOf", spec := "fnExactFormOf", unfollowed := true, recurses := true, apart := false, narrowed := true }
def FnExactFormOfUptoSaid : Prop := fnExactFormOfUptoRow.holds Try.pinned (OpenSpec.upto fnExactFormOfSpec)

/-- 'laws.FnExactConnectingCochain', WHERE WHAT IT READS IS OF BULK AT MOST 1048576: true; the input reads as it did. -/
def fnExactConnectingCochainUptoRow : OpenClaim := { program := "ytkpcogaahgfmcaa", sum := "d9c6f9be1868ed5939ec3103652cfad366561579d8438442e72d6c5fde518e7b", func := "loop.example/g01363/laws.FnExactConnectingCochain", spec := "fnExactConnectingCochain", unfollowed := true, recurses := true, apart := false, narrowed := true }
def FnExactConnectingCochainUptoSaid : Prop := fnExactConnectingCochainUptoRow.holds Try.pinned (OpenSpec.upto fnExactConnectingCochainSpec)

/-- 'laws.FnExactRegularElements', WHERE WHAT IT READS IS OF BULK AT MOST 1048576: true; the input reads as it did. -/
def fnExactRegularElementsUptoRow : OpenClaim := { program := "ytkpcogaahgfmcaa", sum := "d9c6f9be1868ed5939ec3103652cfad366561579d8438442e72d6c5fde518e7b", func := "loop.example/g01363/laws.FnExactRegularElements", spec := "fnExactRegularElements", unfollowed := true, recurses := true, apart := false, narrowed := true }
def FnExactRegularElementsUptoSaid : Prop := fnExactRegularElementsUptoRow.holds Try.pinned (OpenSpec.upto fnExactRegularElementsSpec)

/-- 'laws.FnExactIndexOf', WHERE WHAT IT READS IS OF BULK AT MOST 1048576: true; the input reads as it did. -/
def fnExactIndexOfUptoRow : OpenClaim := { program := "ytkpcogaahgfmcaa", sum := "d9c6f9be1868ed5939ec3103652cfad366561579d8438442e72d6c5fde518e7b", func := "loop.example/g01363/laws.FnExactIndexOf", spec := "fnExactIndexOf", recurses := true, apart := false, narrowed := true }
def FnExactIndexOfUptoSaid : Prop := fnExactIndexOfUptoRow.holds Try.pinned (OpenSpec.upto fnExactIndexOfSpec)

end Rows
end Go.Proofs.Ytkpcogaahgfmcaa
