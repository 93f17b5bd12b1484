/-
  No cell of these rows narrows 'for every input' (looked for: loops, veiled, ifaces, maps, wideKeys, modest, calm, conditions, laid).
  DERIVED. THE GIVEN ROWS OF THIS SEAT. 4 by the template 'for every input the law returns true; each argument reads behind the call as it read before'; 0 by the template 'total and deterministic' (their statements: YtnfhglplafmfiaaGreatTotals.lean).
  GIVEN WITH THE SEED: the statements are not yours to turn. If you find one false, say at which input.
  Laid BY PROGRAM, IN A SANDBOX (cutbox-rows.mjs): the forced cells as the released guide's own fill.sh prints them over the translation e35738c7dc0b188f… (all of the seat's roots in one cut). By AI agents, Wed Nov 11 2026. No macro, syntax, notation, axiom, sorry.
-/
import Derived.Test.YtnfhglplafmfiaaGreatChecked
import GoSem.Claim
import GoSem.ClaimJoined
import GoSem.ClaimMapViews
import Derived.JoinedTies
import Derived.KernelRfl
namespace Go.Proofs.YtnfhglplafmfiaaGreat
/- THE CELL 'sum', in the pinned program and in every row, IS THE sha256 OF THE DUMP (.gsa) THAT YtnfhglplafmfiaaGreatProg.lean LOADS. Nothing in Lean hashes anything: it is a label: what it is worth is what the hold of that sum in a sandbox is worth. -/
noncomputable def Tryz.pinned : Pinned := { name := "ytnfhglplafmfiaagreat", sum := "e35738c7dc0b188f5cc591a9293c28fe1a7e220d6d0e43ffd379753bf3c66b19", checked := Tryz.checked }
namespace Rows
def none {H : Type} : Left H := { results := [], args := [] }

/-- 'laws.FnExactImageOrders': WHATEVER THE INPUT: true; the input reads as it did. -/
def fnExactImageOrdersSpec : ChangeSpec := { name := "fnExactImageOrders", fn := fun _ => fun
  | [d1, d2, d3, d4] => { results := [.lit (.bool true)], args := [d1, d2, d3, d4] }
  | _ => none }
def fnExactImageOrdersRow : OpenClaim := { program := "ytnfhglplafmfiaagreat", sum := "e35738c7dc0b188f5cc591a9293c28fe1a7e220d6d0e43ffd379753bf3c66b19", func := "loop.example/g01363/laws.FnExactImageOrders", spec := "fnExactImageOrders", unfollowed := true, recurses := true, apart := false }
def FnExactImageOrdersSaid : Prop := fnExactImageOrdersRow.holds Tryz.pinned (OpenSpec.ofChange fnExactImageOrdersSpec)

/-- ITS FALSE NEIGHBOUR: 'it returns false'. Refute it at one input. -/
def fnExactImageOrdersWrong : ChangeSpec := { name := "fnExactImageOrders", fn := fun _ => fun
  | [d1, d2, d3, d4] => { results := [.lit (.bool false)], args := [d1, d2, d3, d4] }
  | _ => none }
def FnExactImageOrdersWrongFalsely : Prop := fnExactImageOrdersRow.holds Tryz.pinned (OpenSpec.ofChange fnExactImageOrdersWrong)

/-- 'laws.FnSequences': WHATEVER THE INPUT: true; the input reads as it did. -/
def fnSequencesSpec : ChangeSpec := { name := "fnSequences", fn := fun _ => fun
  | [d] => { results := [.lit (.bool true)], args := [d] }
  | _ => none }
def fnSequencesRow : OpenClaim := { program := "ytnfhglplafmfiaagreat", sum := "e35738c7dc0b188f5cc591a9293c28fe1a7e220d6d0e43ffd379753bf3c66b19", func := "loop.example/g01363/laws.FnSequences", spec := "fnSequences", unfollowed := true, recurses := true, apart := false }
def FnSequencesSaid : Prop := fnSequencesRow.holds Tryz.pinned (OpenSpec.ofChange fnSequencesSpec)

/-- ITS FALSE NEIGHBOUR: 'it returns false'. Refute it at one input. -/
def fnSequencesWrong : ChangeSpec := { name := "fnSequences", fn := fun _ => fun
  | [d] => { results := [.lit (.bool false)], args := [d] }
  | _ => none }
def FnSequencesWrongFalsely : Prop := fnSequencesRow.holds Tryz.pinned (OpenSpec.ofChange fnSequencesWrong)

/-- 'laws.FnExact': WHATEVER THE INPUT: true; the input reads as it did. -/
def fnExactSpec : ChangeSpec := { name := "fnExact", fn := fun _ => fun
  | [d] => { results := [.lit (.bool true)], args := [d] }
  | _ => none }
def fnExactRow : OpenClaim := { program := "ytnfhglplafmfiaagreat", sum := "e35738c7dc0b188f5cc591a9293c28fe1a7e220d6d0e43ffd379753bf3c66b19", func := "loop.example/g01363/laws.FnExact", spec := "fnExact", unfollowed := true, recurses := true, apart := false }
def FnExactSaid : Prop := fnExactRow.holds Tryz.pinned (OpenSpec.ofChange fnExactSpec)

/-- ITS FALSE NEIGHBOUR: 'it returns false'. Refute it at one input. -/
def fnExactWrong : ChangeSpec := { name := "fnExact", fn := fun _ => fun
  | [d] => { results := [.lit (.bool false)], args := [d] }
  | _ => none }
def FnExactWrongFalsely : Prop := fnExactRow.holds Tryz.pinned (OpenSpec.ofChange fnExactWrong)

/-- 'laws.FnInflations': WHATEVER THE INPUT: true; the input reads as it did. -/
def fnInflationsSpec : ChangeSpec := { name := "fnInflations", fn := fun _ => fun
  | [d] => { results := [.lit (.bool true)], args := [d] }
  | _ => none }
def fnInflationsRow : OpenClaim := { program := "ytnfhglplafmfiaagreat", sum := "e35738c7dc0b188f5cc591a9293c28fe1a7e220d6d0e43ffd379753bf3c66b19", func := "loop.example/g01363/laws.FnInflations", spec := "fnInflations", unfollowed := true, recurses := true, apart := false }
def FnInflationsSaid : Prop := fnInflationsRow.holds Tryz.pinned (OpenSpec.ofChange fnInflationsSpec)

/-- ITS FALSE NEIGHBOUR: 'it returns false'. Refute it at one input. -/
def fnInflationsWrong : ChangeSpec := { name := "fnInflations", fn := fun _ => fun
  | [d] => { results := [.lit (.bool false)], args := [d] }
  | _ => none }
def FnInflationsWrongFalsely : Prop := fnInflationsRow.holds Tryz.pinned (OpenSpec.ofChange fnInflationsWrong)

/- THE SECOND FORM. 'bulk': how many values and letters a reading holds, each counted each time it is reached (what is shared counts as often as it is met; a slice's spare places count too). A statement '..UptoSaid' is the law's where the arguments, and the package variables that the reading takes, are together of bulk at most 1048576: NARROWER than '..Said'. Prove '..Said' where nothing that the law and all that it calls make is longer than what came in: it says more and counts as full. Else prove '..UptoSaid'. A law counts once. -/
mutual
def uptoBulk {H : Type} : DataW H → Nat
  | .lit (.string bytes) => bytes.length + 1
  | .lit _ => 1
  | .nil => 1
  | .ptr d => uptoBulk d + 1
  | .slice elems spare => uptoBulkAll elems + uptoBulkAll spare + 1
  | .agg parts => uptoBulkAll parts + 1
  | .iface _ d => uptoBulk d + 1
  | .map entries => uptoBulkEntries entries + 1
  | .held _ => 1
def uptoBulkAll {H : Type} : List (DataW H) → Nat
  | [] => 0
  | d :: r => uptoBulk d + uptoBulkAll r
def uptoBulkEntries {H : Type} : List (Lit × DataW H) → Nat
  | [] => 0
  | x :: r => uptoBulkEntry x + uptoBulkEntries r
def uptoBulkEntry {H : Type} : Lit × DataW H → Nat
  | (.string bytes, d) => bytes.length + uptoBulk d + 1
  | (_, d) => uptoBulk d + 1
 end
def uptoSmall : (H : Type) → List (DataW H) → Bool := fun _ ds => decide (uptoBulkAll ds ≤ 1048576)
def OpenSpec.upto (s : _root_.Go.ChangeSpec) : _root_.Go.OpenSpec := { _root_.Go.OpenSpec.ofChange s with cond := some uptoSmall }

/-- 'laws.FnExactImageOrders', WHERE WHAT IT READS IS OF BULK AT MOST 1048576: true; the input reads as it did. -/
def fnExactImageOrdersUptoRow : OpenClaim := { program := "ytnfhglplafmfiaagreat", sum := "e35738c7dc0b188f5cc591a9293c28fe1a7e220d6d0e43ffd379753bf3c66b19", func := "loop.example/g01363/laws.FnExactImageOrders", spec := "fnExactImageOrders", unfollowed := true, recurses := true, apart := false, narrowed := true }
def FnExactImageOrdersUptoSaid : Prop := fnExactImageOrdersUptoRow.holds Tryz.pinned (OpenSpec.upto fnExactImageOrdersSpec)

/-- 'laws.FnSequences', WHERE WHAT IT READS IS OF BULK AT MOST 1048576: true; the input reads as it did. -/
def fnSequencesUptoRow : OpenClaim := { program := "ytnfhglplafmfiaagreat", sum := "e35738c7dc0b188f5cc591a9293c28fe1a7e220d6d0e43ffd379753bf3c66b19", func := "loop.example/g01363/laws.FnSequences", spec := "fnSequences", unfollowed := true, recurses := true, apart := false, narrowed := true }
def FnSequencesUptoSaid : Prop := fnSequencesUptoRow.holds Tryz.pinned (OpenSpec.upto fnSequencesSpec)

/-- 'laws.FnExact', WHERE WHAT IT READS IS OF BULK AT MOST 1048576: true; the input reads as it did. -/
def fnExactUptoRow : OpenClaim := { program := "ytnfhglplafmfiaagreat", sum := "e35738c7dc0b188f5cc591a9293c28fe1a7e220d6d0e43ffd379753bf3c66b19", func := "loop.example/g01363/laws.FnExact", spec := "fnExact", unfollowed := true, recurses := true, apart := false, narrowed := true }
def FnExactUptoSaid : Prop := fnExactUptoRow.holds Tryz.pinned (OpenSpec.upto fnExactSpec)

/-- 'laws.FnInflations', WHERE WHAT IT READS IS OF BULK AT MOST 1048576: true; the input reads as it did. -/
def fnInflationsUptoRow : OpenClaim := { program := "ytnfhglplafmfiaagreat", sum := "e35738c7dc0b188f5cc591a9293c28fe1a7e220d6d0e43ffd379753bf3c66b19", func := "loop.example/g01363/laws.FnInflations", spec := "fnInflations", unfollowed := true, recurses := true, apart := false, narrowed := true }
def FnInflationsUptoSaid : Prop := fnInflationsUptoRow.holds Tryz.pinned (OpenSpec.upto fnInflationsSpec)

end Rows
end Go.Proofs.YtnfhglplafmfiaaGreat
