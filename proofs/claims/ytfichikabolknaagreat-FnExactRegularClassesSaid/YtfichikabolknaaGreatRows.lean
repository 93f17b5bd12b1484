/-
  No cell of these rows narrows 'for every input' (looked for: loops, veiled, ifaces, maps, wideKeys, modest, calm, conditions, laid).
  DERIVED. THE GIVEN ROWS OF THIS SEAT. 10 by the template 'for every input the law returns true; each argument reads behind the call as it read before'; 0 by the template 'total and deterministic' (their statements: YtfichikabolknaaGreatTotals.lean).
  GIVEN WITH THE SEED: the statements are not yours to turn. If you find one false, say at which input.
  Laid BY PROGRAM, IN A SANDBOX (cutbox-rows.mjs): the forced cells as the released guide's own fill.sh prints them over the translation 0b869b007968f393… (all of the seat's roots in one cut). By AI agents, Wed Nov 11 2026. No macro, syntax, notation, axiom, sorry.
-/
import Derived.Test.YtfichikabolknaaGreatChecked
import GoSem.Claim
import GoSem.ClaimJoined
import GoSem.ClaimMapViews
import Derived.JoinedTies
import Derived.KernelRfl
namespace Go.Proofs.YtfichikabolknaaGreat
/- THE CELL 'sum', in the pinned program and in every row, IS THE sha256 OF THE DUMP (.gsa) THAT YtfichikabolknaaGreatProg.lean LOADS. Nothing in Lean hashes anything: it is a label: what it is worth is what the hold of that sum in a sandbox is worth. -/
noncomputable def Tryz.pinned : Pinned := { name := "ytfichikabolknaagreat", sum := "0b869b007968f393de7263213f7b50f0b91ec4cf98c00179d5791a83cd190796", checked := Tryz.checked }
namespace Rows
def none {H : Type} : Left H := { results := [], args := [] }

/-- 'laws.FnExactImageOrders': WHATEVER THE INPUT: true; the input reads as it did. -/
def fnExactImageOrdersSpec : ChangeSpec := { name := "fnExactImageOrders", fn := fun _ => fun
  | [d1, d2, d3, d4] => { results := [.lit (.bool true)], args := [d1, d2, d3, d4] }
  | _ => none }
def fnExactImageOrdersRow : OpenClaim := { program := "ytfichikabolknaagreat", sum := "0b869b007968f393de7263213f7b50f0b91ec4cf98c00179d5791a83cd190796", func := "loop.example/g01363/laws.FnExactImageOrders", spec := "fnExactImageOrders", unfollowed := true, recurses := true, apart := false }
def FnExactImageOrdersSaid : Prop := fnExactImageOrdersRow.holds Tryz.pinned (OpenSpec.ofChange fnExactImageOrdersSpec)

/-- ITS FALSE NEIGHBOUR: 'it returns false'. Refute it at one input. -/
def fnExactImageOrdersWrong : ChangeSpec := { name := "fnExactImageOrders", fn := fun _ => fun
  | [d1, d2, d3, d4] => { results := [.lit (.bool false)], args := [d1, d2, d3, d4] }
  | _ => none }
def FnExactImageOrdersWrongFalsely : Prop := fnExactImageOrdersRow.holds Tryz.pinned (OpenSpec.ofChange fnExactImageOrdersWrong)

/-- 'laws.FnSequences': WHATEVER THE INPUT: true; the input reads as it did. -/
def fnSequencesSpec : ChangeSpec := { name := "fnSequences", fn := fun _ => fun
  | [d] => { results := [.lit (.bool true)], args := [d] }
  | _ => none }
def fnSequencesRow : OpenClaim := { program := "ytfichikabolknaagreat", sum := "0b869b007968f393de7263213f7b50f0b91ec4cf98c00179d5791a83cd190796", func := "loop.example/g01363/laws.FnSequences", spec := "fnSequences", unfollowed := true, recurses := true, apart := false }
def FnSequencesSaid : Prop := fnSequencesRow.holds Tryz.pinned (OpenSpec.ofChange fnSequencesSpec)

/-- ITS FALSE NEIGHBOUR: 'it returns false'. Refute it at one input. -/
def fnSequencesWrong : ChangeSpec := { name := "fnSequences", fn := fun _ => fun
  | [d] => { results := [.lit (.bool false)], args := [d] }
  | _ => none }
def FnSequencesWrongFalsely : Prop := fnSequencesRow.holds Tryz.pinned (OpenSpec.ofChange fnSequencesWrong)

/-- 'laws.FnExact': WHATEVER THE INPUT: true; the input reads as it did. -/
def fnExactSpec : ChangeSpec := { name := "fnExact", fn := fun _ => fun
  | [d] => { results := [.lit (.bool true)], args := [d] }
  | _ => none }
def fnExactRow : OpenClaim := { program := "ytfichikabolknaagreat", sum := "0b869b007968f393de7263213f7b50f0b91ec4cf98c00179d5791a83cd190796", func := "loop.example/g01363/laws.FnExact", spec := "fnExact", unfollowed := true, recurses := true, apart := false }
def FnExactSaid : Prop := fnExactRow.holds Tryz.pinned (OpenSpec.ofChange fnExactSpec)

/-- ITS FALSE NEIGHBOUR: 'it returns false'. Refute it at one input. -/
def fnExactWrong : ChangeSpec := { name := "fnExact", fn := fun _ => fun
  | [d] => { results := [.lit (.bool false)], args := [d] }
  | _ => none }
def FnExactWrongFalsely : Prop := fnExactRow.holds Tryz.pinned (OpenSpec.ofChange fnExactWrong)

/-- 'laws.FnExactRegularClasses': WHATEVER THE INPUT: true; the input reads as it did. -/
def fnExactRegularClassesSpec : ChangeSpec := { name := "fnExactRegularClasses", fn := fun _ => fun
  | [d1, d2, d3] => { results := [.lit (.bool true)], args := [d1, d2, d3] }
  | _ => none }
def fnExactRegularClassesRow : OpenClaim := { program := "ytfichikabolknaagreat", sum := "0b869b007968f393de7263213f7b50f0b91ec4cf98c00179d5791a83cd190796", func := "loop.example/g01363/laws.FnExactRegularClasses", spec := "fnExactRegularClasses", unfollowed := true, recurses := true, apart := false }
def FnExactRegularClassesSaid : Prop := fnExactRegularClassesRow.holds Tryz.pinned (OpenSpec.ofChange fnExactRegularClassesSpec)

/-- ITS FALSE NEIGHBOUR: 'it returns false'. Refute it at one input. -/
def fnExactRegularClassesWrong : ChangeSpec := { name := "fnExactRegularClasses", fn := fun _ => fun
  | [d1, d2, d3] => { results := [.lit (.bool false)], args := [d1, d2, d3] }
  | _ => none }
def FnExactRegularClassesWrongFalsely : Prop := fnExactRegularClassesRow.holds Tryz.pinned (OpenSpec.ofChange fnExactRegularClassesWrong)

/-- 'laws.FnExactAbelianInvariants': WHATEVER THE INPUT: true; the input reads as it did. -/
def fnExactAbelianInvariantsSpec : ChangeSpec := { name := "fnExactAbelianInvariants", fn := fun _ => fun
  | [d] => { results := [.lit (.bool true)], args := [d] }
  | _ => none }
def fnExactAbelianInvariantsRow : OpenClaim := { program := "ytfichikabolknaagreat", sum := "0b869b007968f393de7263213f7b50f0b91ec4cf98c00179d5791a83cd190796", func := "loop.example/g01363/laws.FnExactAbelianInvariants", spec := "fnExactAbelianInvariants", unfollowed := true, recurses := true, apart := false }
def FnExactAbelianInvariantsSaid : Prop := fnExactAbelianInvariantsRow.holds Tryz.pinned (OpenSpec.ofChange fnExactAbelianInvariantsSpec)

/-- ITS FALSE NEIGHBOUR: 'it returns false'. Refute it at one input. -/
def fnExactAbelianInvariantsWrong : ChangeSpec := { name := "fnExactAbelianInvariants", fn := fun _ => fun
  | [d] => { results := [.lit (.bool false)], args := [d] }
  | _ => none }
def FnExactAbelianInvariantsWrongFalsely : Prop := fnExactAbelianInvariantsRow.holds Tryz.pinned (OpenSpec.ofChange fnExactAbelianInvariantsWrong)

/-- 'laws.FnExactMultiplierOf': WHATEVER THE INPUT: true; the input reads as it did. -/
def fnExactMultiplierOfSpec : ChangeSpec := { name := "fnExactMultiplierOf", fn := fun _ => fun
  | [d] => { results := [.lit (.bool true)], args := [d] }
  | _ => none }
def fnExactMultiplierOfRow : OpenClaim := { program := "ytfichikabolknaagreat", sum := "0b869b007968f393de7263213f7b50f0b91ec4cf98c00179d5791a83cd190796", func := "loop.example/g01363/laws.FnExactMultiplierOf", spec := "fnExactMultiplierOf", unfollowed := true, recurses := true, apart := false }
def FnExactMultiplierOfSaid : Prop := fnExactMultiplierOfRow.holds Tryz.pinned (OpenSpec.ofChange fnExactMultiplierOfSpec)

/-- ITS FALSE NEIGHBOUR: 'it returns false'. Refute it at one input. -/
def fnExactMultiplierOfWrong : ChangeSpec := { name := "fnExactMultiplierOf", fn := fun _ => fun
  | [d] => { results := [.lit (.bool false)], args := [d] }
  | _ => none }
def FnExactMultiplierOfWrongFalsely : Prop := fnExactMultiplierOfRow.holds Tryz.pinned (OpenSpec.ofChange fnExactMultiplierOfWrong)

/-- 'laws.FnForms': WHATEVER THE INPUT: true; the input reads as it did. -/
def fnFormsSpec : ChangeSpec := { name := "fnForms", fn := fun _ => fun
  | [d] => { results := [.lit (.bool true)], args := [d] }
  | _ => none }
def fnFormsRow : OpenClaim := { program := "ytfichikabolknaagreat", sum := "0b869b007968f393de7263213f7b50f0b91ec4cf98c00179d5791a83cd190796", func := "loop.example/g01363/laws.FnForms", spec := "fnForms", unfollowed := true, recurses := true, apart := false }
def FnFormsSaid : Prop := fnFormsRow.holds Tryz.pinned (OpenSpec.ofChange fnFormsSpec)

/-- ITS FALSE NEIGHBOUR: 'it returns false'. Refute it at one input. -/
def fnFormsWrong : ChangeSpec := { name := "fnForms", fn := fun _ => fun
  | [d] => { results := [.lit (.bool false)], args := [d] }
  | _ => none }
def FnFormsWrongFalsely : Prop := fnFormsRow.holds Tryz.pinned (OpenSpec.ofChange fnFormsWrong)

/-- 'laws.FnMultipliers': WHATEVER THE INPUT: true; the input reads as it did. -/
def fnMultipliersSpec : ChangeSpec := { name := "fnMultipliers", fn := fun _ => fun
  | [d] => { results := [.lit (.bool true)], args := [d] }
  | _ => none }
def fnMultipliersRow : OpenClaim := { program := "ytfichikabolknaagreat", sum := "0b869b007968f393de7263213f7b50f0b91ec4cf98c00179d5791a83cd190796", func := "loop.example/g01363/laws.FnMultipliers", spec := "fnMultipliers", unfollowed := true, recurses := true, apart := false }
def FnMultipliersSaid : Prop := fnMultipliersRow.holds Tryz.pinned (OpenSpec.ofChange fnMultipliersSpec)

/-- ITS FALSE NEIGHBOUR: 'it returns false'. Refute it at one input. -/
def fnMultipliersWrong : ChangeSpec := { name := "fnMultipliers", fn := fun _ => fun
  | [d] => { results := [.lit (.bool false)], args := [d] }
  | _ => none }
def FnMultipliersWrongFalsely : Prop := fnMultipliersRow.holds Tryz.pinned (OpenSpec.ofChange fnMultipliersWrong)

/-- 'laws.FnInflations': WHATEVER THE INPUT: true; the input reads as it did. -/
def fnInflationsSpec : ChangeSpec := { name := "fnInflations", fn := fun _ => fun
  | [d] => { results := [.lit (.bool true)], args := [d] }
  | _ => none }
def fnInflationsRow : OpenClaim := { program := "ytfichikabolknaagreat", sum := "0b869b007968f393de7263213f7b50f0b91ec4cf98c00179d5791a83cd190796", func := "loop.example/g01363/laws.FnInflations", spec := "fnInflations", unfollowed := true, recurses := true, apart := false }
def FnInflationsSaid : Prop := fnInflationsRow.holds Tryz.pinned (OpenSpec.ofChange fnInflationsSpec)

/-- ITS FALSE NEIGHBOUR: 'it returns false'. Refute it at one input. -/
def fnInflationsWrong : ChangeSpec := { name := "fnInflations", fn := fun _ => fun
  | [d] => { results := [.lit (.bool false)], args := [d] }
  | _ => none }
def FnInflationsWrongFalsely : Prop := fnInflationsRow.holds Tryz.pinned (OpenSpec.ofChange fnInflationsWrong)

/-- 'laws.FnTransfers': WHATEVER THE INPUT: true; the input reads as it did. -/
def fnTransfersSpec : ChangeSpec := { name := "fnTransfers", fn := fun _ => fun
  | [d] => { results := [.lit (.bool true)], args := [d] }
  | _ => none }
def fnTransfersRow : OpenClaim := { program := "ytfichikabolknaagreat", sum := "0b869b007968f393de7263213f7b50f0b91ec4cf98c00179d5791a83cd190796", func := "loop.example/g01363/laws.FnTransfers", spec := "fnTransfers", unfollowed := true, recurses := true, apart := false }
def FnTransfersSaid : Prop := fnTransfersRow.holds Tryz.pinned (OpenSpec.ofChange fnTransfersSpec)

/-- ITS FALSE NEIGHBOUR: 'it returns false'. Refute it at one input. -/
def fnTransfersWrong : ChangeSpec := { name := "fnTransfers", fn := fun _ => fun
  | [d] => { results := [.lit (.bool false)], args := [d] }
  | _ => none }
def FnTransfersWrongFalsely : Prop := fnTransfersRow.holds Tryz.pinned (OpenSpec.ofChange fnTransfersWrong)

/- THE SECOND FORM. 'bulk': how many values and letters a reading holds, each counted each time it is reached (what is shared counts as often as it is met; a slice's spare places count too). A statement '..UptoSaid' is the law's where the arguments, and the package variables that the reading takes, are together of bulk at most 1048576: NARROWER than '..Said'. Prove '..Said' where nothing that the law and all that it calls make is longer than what came in: it says more and counts as full. Else prove '..UptoSaid'. A law counts once. -/
mutual
def uptoBulk {H : Type} : DataW H → Nat
  | .lit (.string bytes) => bytes.length + 1
  | .lit _ => 1
  | .nil => 1
  | .ptr d => uptoBulk d + 1
  | .slice elems spare => uptoBulkAll elems + uptoBulkAll spare + 1
  | .agg parts => uptoBulkAll parts + 1
  | .iface _ d => uptoBulk d + 1
  | .map entries => uptoBulkEntries entries + 1
  | .held _ => 1
def uptoBulkAll {H : Type} : List (DataW H) → Nat
  | [] => 0
  | d :: r => uptoBulk d + uptoBulkAll r
def uptoBulkEntries {H : Type} : List (Lit × DataW H) → Nat
  | [] => 0
  | x :: r => uptoBulkEntry x + uptoBulkEntries r
def uptoBulkEntry {H : Type} : Lit × DataW H → Nat
  | (.string bytes, d) => bytes.length + uptoBulk d + 1
  | (_, d) => uptoBulk d + 1
 end
def uptoSmall : (H : Type) → List (DataW H) → Bool := fun _ ds => decide (uptoBulkAll ds ≤ 1048576)
def OpenSpec.upto (s : _root_.Go.ChangeSpec) : _root_.Go.OpenSpec := { _root_.Go.OpenSpec.ofChange s with cond := some uptoSmall }

/-- 'laws.FnExactImageOrders', WHERE WHAT IT READS IS OF BULK AT MOST 1048576: true; the input reads as it did. -/
def fnExactImageOrdersUptoRow : OpenClaim := { program := "ytfichikabolknaagreat", sum := "0b869b007968f393de7263213f7b50f0b91ec4cf98c00179d5791a83cd190796", func := "loop.example/g01363/laws.FnExactImageOrders", spec := "fnExactImageOrders", unfollowed := true, recurses := true, apart := false, narrowed := true }
def FnExactImageOrdersUptoSaid : Prop := fnExactImageOrdersUptoRow.holds Tryz.pinned (OpenSpec.upto fnExactImageOrdersSpec)

/-- 'laws.FnSequences', WHERE WHAT IT READS IS OF BULK AT MOST 1048576: true; the input reads as it did. -/
def fnSequencesUptoRow : OpenClaim := { program := "ytfichikabolknaagreat", sum := "0b869b007968f393de7263213f7b50f0b91ec4cf98c00179d5791a83cd190796", func := "loop.example/g01363/laws.FnSequences", spec := "fnSequences", unfollowed := true, recurses := true, apart := false, narrowed := true }
def FnSequencesUptoSaid : Prop := fnSequencesUptoRow.holds Tryz.pinned (OpenSpec.upto fnSequencesSpec)

/-- 'laws.FnExact', WHERE WHAT IT READS IS OF BULK AT MOST 1048576: true; the input reads as it did. -/
def fnExactUptoRow : OpenClaim := { program := "ytfichikabolknaagreat", sum := "0b869b007968f393de7263213f7b50f0b91ec4cf98c00179d5791a83cd190796", func := "loop.example/g01363/laws.FnExact", spec := "fnExact", unfollowed := true, recurses := true, apart := false, narrowed := true }
def FnExactUptoSaid : Prop := fnExactUptoRow.holds Tryz.pinned (OpenSpec.upto fnExactSpec)

/-- 'laws.FnExactRegularClasses', WHERE WHAT IT READS IS OF BULK AT MOST 1048576: true; the input reads as it did. -/
def fnExactRegularClassesUptoRow : OpenClaim := { program := "ytfichikabolknaagreat", sum := "0b869b007968f393de7263213f7b50f0b91ec4cf98c00179d5791a83cd190796", func := "loop.example/g01363/laws.FnExactRegularClasses", spec := "fnExactRegularClasses", unfollowed := true, recurses := true, apart := false, narrowed := true }
def FnExactRegularClassesUptoSaid : Prop := fnExactRegularClassesUptoRow.holds Tryz.pinned (OpenSpec.upto fnExactRegularClassesSpec)

/-- 'laws.FnExactAbelianInvariants', WHERE WHAT IT READS IS OF BULK AT MOST 1048576: true; the input reads as it did. -/
def fnExactAbelianInvariantsUptoRow : OpenClaim := { program := "ytfichikabolknaagreat", sum := "0b869b007968f393de7263213f7b50f0b91ec4cf98c00179d5791a83cd190796", func := "loop.example/g01363/laws.FnExactAbelianInvariants", spec := "fnExactAbelianInvariants", unfollowed := true, recurses := true, apart := false, narrowed := true }
def FnExactAbelianInvariantsUptoSaid : Prop := fnExactAbelianInvariantsUptoRow.holds Tryz.pinned (OpenSpec.upto fnExactAbelianInvariantsSpec)

/-- 'laws.FnExactMultiplierOf', WHERE WHAT IT READS IS OF BULK AT MOST 1048576: true; the input reads as it did. -/
def fnExactMultiplierOfUptoRow : OpenClaim := { program := "ytfichikabolknaagreat", sum := "0b869b007968f393de7263213f7b50f0b91ec4cf98c00179d5791a83cd190796", func := "loop.example/g01363/laws.FnExactMultiplierOf", spec := "fnExactMultiplierOf", unfollowed := true, recurses := true, apart := false, narrowed := true }
def FnExactMultiplierOfUptoSaid : Prop := fnExactMultiplierOfUptoRow.holds Tryz.pinned (OpenSpec.upto fnExactMultiplierOfSpec)

/-- 'laws.FnForms', WHERE WHAT IT READS IS OF BULK AT MOST 1048576: true; the input reads as it did. -/
def fnFormsUptoRow : OpenClaim := { program := "ytfichikabolknaagreat", sum := "0b869b007968f393de7263213f7b50f0b91ec4cf98c00179d5791a83cd190796", func := "loop.example/g01363/laws.FnForms", spec := "fnForms", unfollowed := true, recurses := true, apart := false, narrowed := true }
def FnFormsUptoSaid : Prop := fnFormsUptoRow.holds Tryz.pinned (OpenSpec.upto fnFormsSpec)

/-- 'laws.FnMultipliers', WHERE WHAT IT READS IS OF BULK AT MOST 1048576: true; the input reads as it did. -/
def fnMultipliersUptoRow : OpenClaim := { program := "ytfichikabolknaagreat", sum := "0b869b007968f393de7263213f7b50f0b91ec4cf98c00179d5791a83cd190796", func := "loop.example/g01363/laws.FnMultipliers", spec := "fnMultipliers", unfollowed := true, recurses := true, apart := false, narrowed := true }
def FnMultipliersUptoSaid : Prop := fnMultipliersUptoRow.holds Tryz.pinned (OpenSpec.upto fnMultipliersSpec)

/-- 'laws.FnInflations', WHERE WHAT IT READS IS OF BULK AT MOST 1048576: true; the input reads as it did. -/
def fnInflationsUptoRow : OpenClaim := { program := "ytfichikabolknaagreat", sum := "0b869b007968f393de7263213f7b50f0b91ec4cf98c00179d5791a83cd190796", func := "loop.example/g01363/laws.FnInflations", spec := "fnInflations", unfollowed := true, recurses := true, apart := false, narrowed := true }
def FnInflationsUptoSaid : Prop := fnInflationsUptoRow.holds Tryz.pinned (OpenSpec.upto fnInflationsSpec)

/-- 'laws.FnTransfers', WHERE WHAT IT READS IS OF BULK AT MOST 1048576: true; the input reads as it did. -/
def fnTransfersUptoRow : OpenClaim := { program := "ytfichikabolknaagreat", sum := "0b869b007968f393de7263213f7b50f0b91ec4cf98c00179d5791a83cd190796", func := "loop.example/g01363/laws.FnTransfers", spec := "fnTransfers", unfollowed := true, recurses := true, apart := false, narrowed := true }
def FnTransfersUptoSaid : Prop := fnTransfersUptoRow.holds Tryz.pinned (OpenSpec.upto fnTransfersSpec)

end Rows
end Go.Proofs.YtfichikabolknaaGreat
