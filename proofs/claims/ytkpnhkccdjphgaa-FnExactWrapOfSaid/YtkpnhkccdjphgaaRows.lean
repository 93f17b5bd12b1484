/-
  No cell of these rows narrows 'for every input' (looked for: loops, veiled, ifaces, maps, wideKeys, modest, calm, conditions, laid).
  DERIVED. THE GIVEN ROWS OF THIS SEAT. 12 by the template 'for every input the law returns true; each argument reads behind the call as it read before'; 0 by the template 'total and deterministic' (their statements: YtkpnhkccdjphgaaTotals.lean).
  GIVEN WITH THE SEED: the statements are not yours to turn. If you find one false, say at which input.
  Laid BY PROGRAM, IN A SANDBOX (cutbox-rows.mjs): the forced cells as the released guide's own fill.sh prints them over the translation 5e5cf8f38fe75d1e… (all of the seat's roots in one cut). By AI agents, Wed Nov 11 2026. No macro, syntax, notation, axiom, sorry.
-/
import Derived.Test.YtkpnhkccdjphgaaChecked
import GoSem.Claim
import GoSem.ClaimJoined
import GoSem.ClaimMapViews
import Derived.JoinedTies
import Derived.KernelRfl
namespace Go.Proofs.Ytkpnhkccdjphgaa
/- THE CELL 'sum', in the pinned program and in every row, IS THE sha256 OF THE DUMP (.gsa) THAT YtkpnhkccdjphgaaProg.lean LOADS. Nothing in Lean hashes anything: it is a label: what it is worth is what the hold of that sum in a sandbox is worth. -/
noncomputable def Try.pinned : Pinned := { name := "ytkpnhkccdjphgaa", sum := "5e5cf8f38fe75d1e8a7eaa42e254f50956061367c6aa65122ac11cb0c28c4884", checked := Try.checked }
namespace Rows
def none {H : Type} : Left H := { results := [], args := [] }

/-- 'laws.FnExactIsCircle': WHATEVER THE INPUT: true; the input reads as it did. -/
def fnExactIsCircleSpec : ChangeSpec := { name := "fnExactIsCircle", fn := fun _ => fun
  | [d1, d2, d3] => { results := [.lit (.bool true)], args := [d1, d2, d3] }
  | _ => none }
def fnExactIsCircleRow : OpenClaim := { program := "ytkpnhkccdjphgaa", sum := "5e5cf8f38fe75d1e8a7eaa42e254f50956061367c6aa65122ac11cb0c28c4884", func := "loop.example/g01363/laws.FnExactIsCircle", spec := "fnExactIsCircle", apart := false }
def FnExactIsCircleSaid : Prop := fnExactIsCircleRow.holds Try.pinned (OpenSpec.ofChange fnExactIsCircleSpec)

/-- ITS FALSE NEIGHBOUR: 'it returns false'. Refute it at one input. -/
def fnExactIsCircleWrong : ChangeSpec := { name := "fnExactIsCircle", fn := fun _ => fun
  | [d1, d2, d3] => { results := [.lit (.bool false)], args := [d1, d2, d3] }
  | _ => none }
def FnExactIsCircleWrongFalsely : Prop := fnExactIsCircleRow.holds Try.pinned (OpenSpec.ofChange fnExactIsCircleWrong)

/-- 'laws.FnExactReducedCircle': WHATEVER THE INPUT: true; the input reads as it did. -/
def fnExactReducedCircleSpec : ChangeSpec := { name := "fnExactReducedCircle", fn := fun _ => fun
  | [d1, d2, d3, d4] => { results := [.lit (.bool true)], args := [d1, d2, d3, d4] }
  | _ => none }
def fnExactReducedCircleRow : OpenClaim := { program := "ytkpnhkccdjphgaa", sum := "5e5cf8f38fe75d1e8a7eaa42e254f50956061367c6aa65122ac11cb0c28c4884", func := "loop.example/g01363/laws.FnExactReducedCircle", spec := "fnExactReducedCircle", apart := false }
def FnExactReducedCircleSaid : Prop := fnExactReducedCircleRow.holds Try.pinned (OpenSpec.ofChange fnExactReducedCircleSpec)

/-- ITS FALSE NEIGHBOUR: 'it returns false'. Refute it at one input. -/
def fnExactReducedCircleWrong : ChangeSpec := { name := "fnExactReducedCircle", fn := fun _ => fun
  | [d1, d2, d3, d4] => { results := [.lit (.bool false)], args := [d1, d2, d3, d4] }
  | _ => none }
def FnExactReducedCircleWrongFalsely : Prop := fnExactReducedCircleRow.holds Try.pinned (OpenSpec.ofChange fnExactReducedCircleWrong)

/-- 'laws.FnExactCircleNorm': WHATEVER THE INPUT: true; the input reads as it did. -/
def fnExactCircleNormSpec : ChangeSpec := { name := "fnExactCircleNorm", fn := fun _ => fun
  | [d1, d2, d3] => { results := [.lit (.bool true)], args := [d1, d2, d3] }
  | _ => none }
def fnExactCircleNormRow : OpenClaim := { program := "ytkpnhkccdjphgaa", sum := "5e5cf8f38fe75d1e8a7eaa42e254f50956061367c6aa65122ac11cb0c28c4884", func := "loop.example/g01363/laws.FnExactCircleNorm", spec := "fnExactCircleNorm", apart := false }
def FnExactCircleNormSaid : Prop := fnExactCircleNormRow.holds Try.pinned (OpenSpec.ofChange fnExactCircleNormSpec)

/-- ITS FALSE NEIGHBOUR: 'it returns false'. Refute it at one input. -/
def fnExactCircleNormWrong : ChangeSpec := { name := "fnExactCircleNorm", fn := fun _ => fun
  | [d1, d2, d3] => { results := [.lit (.bool false)], args := [d1, d2, d3] }
  | _ => none }
def FnExactCircleNormWrongFalsely : Prop := fnExactCircleNormRow.holds Try.pinned (OpenSpec.ofChange fnExactCircleNormWrong)

/-- 'laws.FnExactTateOrder': WHATEVER THE INPUT: true; the input reads as it did. -/
def fnExactTateOrderSpec : ChangeSpec := { name := "fnExactTateOrder", fn := fun _ => fun
  | [d1, d2, d3, d4] => { results := [.lit (.bool true)], args := [d1, d2, d3, d4] }
  | _ => none }
def fnExactTateOrderRow : OpenClaim := { program := "ytkpnhkccdjphgaa", sum := "5e5cf8f38fe75d1e8a7eaa42e254f50956061367c6aa65122ac11cb0c28c4884", func := "loop.example/g01363/laws.FnExactTateOrder", spec := "fnExactTateOrder", apart := false }
def FnExactTateOrderSaid : Prop := fnExactTateOrderRow.holds Try.pinned (OpenSpec.ofChange fnExactTateOrderSpec)

/-- ITS FALSE NEIGHBOUR: 'it returns false'. Refute it at one input. -/
def fnExactTateOrderWrong : ChangeSpec := { name := "fnExactTateOrder", fn := fun _ => fun
  | [d1, d2, d3, d4] => { results := [.lit (.bool false)], args := [d1, d2, d3, d4] }
  | _ => none }
def FnExactTateOrderWrongFalsely : Prop := fnExactTateOrderRow.holds Try.pinned (OpenSpec.ofChange fnExactTateOrderWrong)

/-- 'laws.FnExactHerbrandOf': WHATEVER THE INPUT: true; the input reads as it did. -/
def fnExactHerbrandOfSpec : ChangeSpec := { name := "fnExactHerbrandOf", fn := fun _ => fun
  | [d1, d2, d3] => { results := [.lit (.bool true)], args := [d1, d2, d3] }
  | _ => none }
def fnExactHerbrandOfRow : OpenClaim := { program := "ytkpnhkccdjphgaa", sum := "5e5cf8f38fe75d1e8a7eaa42e254f50956061367c6aa65122ac11cb0c28c4884", func := "loop.example/g01363/laws.FnExactHerbrandOf", spec := "fnExactHerbrandOf", apart := false }
def FnExactHerbrandOfSaid : Prop := fnExactHerbrandOfRow.holds Try.pinned (OpenSpec.ofChange fnExactHerbrandOfSpec)

/-- ITS FALSE NEIGHBOUR: 'it returns false'. Refute it at one input. -/
def fnExactHerbrandOfWrong : ChangeSpec := { name := "fnExactHerbrandOf", fn := fun _ => fun
  | [d1, d2, d3] => { results := [.lit (.bool false)], args := [d1, d2, d3] }
  | _ => none }
def FnExactHerbrandOfWrongFalsely : Prop := fnExactHerbrandOfRow.holds Try.pinned (OpenSpec.ofChange fnExactHerbrandOfWrong)

/-- 'laws.FnExactTateClass': WHATEVER THE INPUT: true; the input reads as it did. -/
def fnExactTateClassSpec : ChangeSpec := { name := "fnExactTateClass", fn := fun _ => fun
  | [d1, d2, d3, d4, d5] => { results := [.lit (.bool true)], args := [d1, d2, d3, d4, d5] }
  | _ => none }
def fnExactTateClassRow : OpenClaim := { program := "ytkpnhkccdjphgaa", sum := "5e5cf8f38fe75d1e8a7eaa42e254f50956061367c6aa65122ac11cb0c28c4884", func := "loop.example/g01363/laws.FnExactTateClass", spec := "fnExactTateClass", apart := false }
def FnExactTateClassSaid : Prop := fnExactTateClassRow.holds Try.pinned (OpenSpec.ofChange fnExactTateClassSpec)

/-- ITS FALSE NEIGHBOUR: 'it returns false'. Refute it at one input. -/
def fnExactTateClassWrong : ChangeSpec := { name := "fnExactTateClass", fn := fun _ => fun
  | [d1, d2, d3, d4, d5] => { results := [.lit (.bool false)], args := [d1, d2, d3, d4, d5] }
  | _ => none }
def FnExactTateClassWrongFalsely : Prop := fnExactTateClassRow.holds Try.pinned (OpenSpec.ofChange fnExactTateClassWrong)

/-- 'laws.FnExactUnitsOfCircle': WHATEVER THE INPUT: true; the input reads as it did. -/
def fnExactUnitsOfCircleSpec : ChangeSpec := { name := "fnExactUnitsOfCircle", fn := fun _ => fun
  | [d1, d2] => { results := [.lit (.bool true)], args := [d1, d2] }
  | _ => none }
def fnExactUnitsOfCircleRow : OpenClaim := { program := "ytkpnhkccdjphgaa", sum := "5e5cf8f38fe75d1e8a7eaa42e254f50956061367c6aa65122ac11cb0c28c4884", func := "loop.example/g01363/laws.FnExactUnitsOfCircle", spec := "fnExactUnitsOfCircle", unfollowed := true, recurses := true, apart := false }
def FnExactUnitsOfCircleSaid : Prop := fnExactUnitsOfCircleRow.holds Try.pinned (OpenSpec.ofChange fnExactUnitsOfCircleSpec)

/-- ITS FALSE NEIGHBOUR: 'it returns false'. Refute it at one input. -/
def fnExactUnitsOfCircleWrong : ChangeSpec := { name := "fnExactUnitsOfCircle", fn := fun _ => fun
  | [d1, d2] => { results := [.lit (.bool false)], args := [d1, d2] }
  | _ => none }
def FnExactUnitsOfCircleWrongFalsely : Prop := fnExactUnitsOfCircleRow.holds Try.pinned (OpenSpec.ofChange fnExactUnitsOfCircleWrong)

/-- 'laws.FnExactTateMembers': WHATEVER THE INPUT: true; the input reads as it did. -/
def fnExactTateMembersSpec : ChangeSpec := { name := "fnExactTateMembers", fn := fun _ => fun
  | [d1, d2, d3, d4] => { results := [.lit (.bool true)], args := [d1, d2, d3, d4] }
  | _ => none }
def fnExactTateMembersRow : OpenClaim := { program := "ytkpnhkccdjphgaa", sum := "5e5cf8f38fe75d1e8a7eaa42e254f50956061367c6aa65122ac11cb0c28c4884", func := "loop.example/g01363/laws.FnExactTateMembers", spec := "fnExactTateMembers", unfollowed := true, recurses := true, apart := false }
def FnExactTateMembersSaid : Prop := fnExactTateMembersRow.holds Try.pinned (OpenSpec.ofChange fnExactTateMembersSpec)

/-- ITS FALSE NEIGHBOUR: 'it returns false'. Refute it at one input. -/
def fnExactTateMembersWrong : ChangeSpec := { name := "fnExactTateMembers", fn := fun _ => fun
  | [d1, d2, d3, d4] => { results := [.lit (.bool false)], args := [d1, d2, d3, d4] }
  | _ => none }
def FnExactTateMembersWrongFalsely : Prop := fnExactTateMembersRow.holds Try.pinned (OpenSpec.ofChange fnExactTateMembersWrong)

/-- 'laws.FnExactWrapOf': WHATEVER THE INPUT: true; the input reads as it did. -/
def fnExactWrapOfSpec : ChangeSpec := { name := "fnExactWrapOf", fn := fun _ => fun
  | [d1, d2, d3, d4] => { results := [.lit (.bool true)], args := [d1, d2, d3, d4] }
  | _ => none }
def fnExactWrapOfRow : OpenClaim := { program := "ytkpnhkccdjphgaa", sum := "5e5cf8f38fe75d1e8a7eaa42e254f50956061367c6aa65122ac11cb0c28c4884", func := "loop.example/g01363/laws.FnExactWrapOf", spec := "fnExactWrapOf", unfollowed := true, recurses := true, apart := false }
def FnExactWrapOfSaid : Prop := fnExactWrapOfRow.holds Try.pinned (OpenSpec.ofChange fnExactWrapOfSpec)

/-- ITS FALSE NEIGHBOUR: 'it returns false'. Refute it at one input. -/
def fnExactWrapOfWrong : ChangeSpec := { name := "fnExactWrapOf", fn := fun _ => fun
  | [d1, d2, d3, d4] => { results := [.lit (.bool false)], args := [d1, d2, d3, d4] }
  | _ => none }
def FnExactWrapOfWrongFalsely : Prop := fnExactWrapOfRow.holds Try.pinned (OpenSpec.ofChange fnExactWrapOfWrong)

/-- 'laws.FnExactLadderOf': WHATEVER THE INPUT: true; the input reads as it did. -/
def fnExactLadderOfSpec : ChangeSpec := { name := "fnExactLadderOf", fn := fun _ => fun
  | [d1, d2, d3, d4] => { results := [.lit (.bool true)], args := [d1, d2, d3, d4] }
  | _ => none }
def fnExactLadderOfRow : OpenClaim := { program := "ytkpnhkccdjphgaa", sum := "5e5cf8f38fe75d1e8a7eaa42e254f50956061367c6aa65122ac11cb0c28c4884", func := "loop.example/g01363/laws.FnExactLadderOf", spec := "fnExactLadderOf", unfollowed := true, recurses := true, apart := false }
def FnExactLadderOfSaid : Prop := fnExactLadderOfRow.holds Try.pinned (OpenSpec.ofChange fnExactLadderOfSpec)

/-- ITS FALSE NEIGHBOUR: 'it returns false'. Refute it at one input. -/
def fnExactLadderOfWrong : ChangeSpec := { name := "fnExactLadderOf", fn := fun _ => fun
  | [d1, d2, d3, d4] => { results := [.lit (.bool false)], args := [d1, d2, d3, d4] }
  | _ => none }
def FnExactLadderOfWrongFalsely : Prop := fnExactLadderOfRow.holds Try.pinned (OpenSpec.ofChange fnExactLadderOfWrong)

/-- 'laws.FnExactNewDesk': WHATEVER THE INPUT: true; the input reads as it did. -/
def fnExactNewDeskSpec : ChangeSpec := { name := "fnExactNewDesk", fn := fun _ => fun
  | [] => { results := [.lit (.bool true)], args := [] }
  | _ => none }
def fnExactNewDeskRow : OpenClaim := { program := "ytkpnhkccdjphgaa", sum := "5e5cf8f38fe75d1e8a7eaa42e254f50956061367c6aa65122ac11cb0c28c4884", func := "loop.example/g01363/laws.FnExactNewDesk", spec := "fnExactNewDesk", unfollowed := true, recurses := true, apart := false }
def FnExactNewDeskSaid : Prop := fnExactNewDeskRow.holds Try.pinned (OpenSpec.ofChange fnExactNewDeskSpec)

/-- ITS FALSE NEIGHBOUR: 'it returns false'. Refute it at one input. -/
def fnExactNewDeskWrong : ChangeSpec := { name := "fnExactNewDesk", fn := fun _ => fun
  | [] => { results := [.lit (.bool false)], args := [] }
  | _ => none }
def FnExactNewDeskWrongFalsely : Prop := fnExactNewDeskRow.holds Try.pinned (OpenSpec.ofChange fnExactNewDeskWrong)

/-- 'laws.FnTate': WHATEVER THE INPUT: true; the input reads as it did. -/
def fnTateSpec : ChangeSpec := { name := "fnTate", fn := fun _ => fun
  | [d] => { results := [.lit (.bool true)], args := [d] }
  | _ => none }
def fnTateRow : OpenClaim := { program := "ytkpnhkccdjphgaa", sum := "5e5cf8f38fe75d1e8a7eaa42e254f50956061367c6aa65122ac11cb0c28c4884", func := "loop.example/g01363/laws.FnTate", spec := "fnTate", unfollowed := true, recurses := true, apart := false }
def FnTateSaid : Prop := fnTateRow.holds Try.pinned (OpenSpec.ofChange fnTateSpec)

/-- ITS FALSE NEIGHBOUR: 'it returns false'. Refute it at one input. -/
def fnTateWrong : ChangeSpec := { name := "fnTate", fn := fun _ => fun
  | [d] => { results := [.lit (.bool false)], args := [d] }
  | _ => none }
def FnTateWrongFalsely : Prop := fnTateRow.holds Try.pinned (OpenSpec.ofChange fnTateWrong)

/- THE SECOND FORM. 'bulk': how many values and letters a reading holds, each counted each time it is reached (what is shared counts as often as it is met; a slice's spare places count too). A statement '..UptoSaid' is the law's where the arguments, and the package variables that the reading takes, are together of bulk at most 1048576: NARROWER than '..Said'. Prove '..Said' where nothing that the law and all that it calls make is longer than what came in: it says more and counts as full. Else prove '..UptoSaid'. A law counts once. -/
mutual
def uptoBulk {H : Type} : DataW H → Nat
  | .lit (.string bytes) => bytes.length + 1
  | .lit _ => 1
  | .nil => 1
  | .ptr d => uptoBulk d + 1
  | .slice elems spare => uptoBulkAll elems + uptoBulkAll spare + 1
  | .agg parts => uptoBulkAll parts + 1
  | .iface _ d => uptoBulk d + 1
  | .map entries => uptoBulkEntries entries + 1
  | .held _ => 1
def uptoBulkAll {H : Type} : List (DataW H) → Nat
  | [] => 0
  | d :: r => uptoBulk d + uptoBulkAll r
def uptoBulkEntries {H : Type} : List (Lit × DataW H) → Nat
  | [] => 0
  | x :: r => uptoBulkEntry x + uptoBulkEntries r
def uptoBulkEntry {H : Type} : Lit × DataW H → Nat
  | (.string bytes, d) => bytes.length + uptoBulk d + 1
  | (_, d) => uptoBulk d + 1
 end
def uptoSmall : (H : Type) → List (DataW H) → Bool := fun _ ds => decide (uptoBulkAll ds ≤ 1048576)
def OpenSpec.upto (s : _root_.Go.ChangeSpec) : _root_.Go.OpenSpec := { _root_.Go.OpenSpec.ofChange s with cond := some uptoSmall }

/-- 'laws.FnExactIsCircle', WHERE WHAT IT READS IS OF BULK AT MOST 1048576: true; the input reads as it did. -/
def fnExactIsCircleUptoRow : OpenClaim := { program := "ytkpnhkccdjphgaa", sum := "5e5cf8f38fe75d1e8a7eaa42e254f50956061367c6aa65122ac11cb0c28c4884", func := "loop.example/g01363/laws.FnExactIsCircle", spec := "fnExactIsCircle", apart := false, narrowed := true }
def FnExactIsCircleUptoSaid : Prop := fnExactIsCircleUptoRow.holds Try.pinned (OpenSpec.upto fnExactIsCircleSpec)

/-- 'laws.FnExactReducedCircle', WHERE WHAT IT READS IS OF BULK AT MOST 1048576: true; the input reads as it did. -/
def fnExactReducedCircleUptoRow : OpenClaim := { program := "ytkpnhkccdjphgaa", sum := "5e5cf8f38fe75d1e8a7eaa42e254f50956061367c6aa65122ac11cb0c28c4884", func := "loop.example/g01363/laws.FnExactReducedCircle", spec := "fnExactReducedCircle", apart := false, narrowed := true }
def FnExactReducedCircleUptoSaid : Prop := fnExactReducedCircleUptoRow.holds Try.pinned (OpenSpec.upto fnExactReducedCircleSpec)

/-- 'laws.FnExactCircleNorm', WHERE WHAT IT READS IS OF BULK AT MOST 1048576: true; the input reads as it did. -/
def fnExactCircleNormUptoRow : OpenClaim := { program := "ytkpnhkccdjphgaa", sum := "5e5cf8f38fe75d1e8a7eaa42e254f50956061367c6aa65122ac11cb0c28c4884", func := "loop.example/g01363/laws.FnExactCircleNorm", spec := "fnExactCircleNorm", apart := false, narrowed := true }
def FnExactCircleNormUptoSaid : Prop := fnExactCircleNormUptoRow.holds Try.pinned (OpenSpec.upto fnExactCircleNormSpec)

/-- 'laws.FnExactTateOrder', WHERE WHAT IT READS IS OF BULK AT MOST 1048576: true; the input reads as it did. -/
def fnExactTateOrderUptoRow : OpenClaim := { program := "ytkpnhkccdjphgaa", sum := "5e5cf8f38fe75d1e8a7eaa42e254f50956061367c6aa65122ac11cb0c28c4884", func := "loop.example/g01363/laws.FnExactTateOrder", spec := "fnExactTateOrder", apart := false, narrowed := true }
def FnExactTateOrderUptoSaid : Prop := fnExactTateOrderUptoRow.holds Try.pinned (OpenSpec.upto fnExactTateOrderSpec)

/-- 'laws.FnExactHerbrandOf', WHERE WHAT IT READS IS OF BULK AT MOST 1048576: true; the input reads as it did. -/
def fnExactHerbrandOfUptoRow : OpenClaim := { program := "ytkpnhkccdjphgaa", sum := "5e5cf8f38fe75d1e8a7eaa42e254f50956061367c6aa65122ac11cb0c28c4884", func := "loop.example/g01363/laws.FnExactHerbrandOf", spec := "fnExactHerbrandOf", apart := false, narrowed := true }
def FnExactHerbrandOfUptoSaid : Prop := fnExactHerbrandOfUptoRow.holds Try.pinned (OpenSpec.upto fnExactHerbrandOfSpec)

/-- 'laws.FnExactTateClass', WHERE WHAT IT READS IS OF BULK AT MOST 1048576: true; the input reads as it did. -/
def fnExactTateClassUptoRow : OpenClaim := { program := "ytkpnhkccdjphgaa", sum := "5e5cf8f38fe75d1e8a7eaa42e254f50956061367c6aa65122ac11cb0c28c4884", func := "loop.example/g01363/laws.FnExactTateClass", spec := "fnExactTateClass", apart := false, narrowed := true }
def FnExactTateClassUptoSaid : Prop := fnExactTateClassUptoRow.holds Try.pinned (OpenSpec.upto fnExactTateClassSpec)

/-- 'laws.FnExactUnitsOfCircle', WHERE WHAT IT READS IS OF BULK AT MOST 1048576: true; the input reads as it did. -/
def fnExactUnitsOfCircleUptoRow : OpenClaim := { program := "ytkpnhkccdjphgaa", sum := "5e5cf8f38fe75d1e8a7eaa42e254f50956061367c6aa65122ac11cb0c28c4884", func := "loop.example/g01363/laws.FnExactUnitsOfCircle", spec := "fnExactUnitsOfCircle", unfollowed := true, recurses := true, apart := false, narrowed := true }
def FnExactUnitsOfCircleUptoSaid : Prop := fnExactUnitsOfCircleUptoRow.holds Try.pinned (OpenSpec.upto fnExactUnitsOfCircleSpec)

/-- 'laws.FnExactTateMembers', WHERE WHAT IT READS IS OF BULK AT MOST 1048576: true; the input reads as it did. -/
def fnExactTateMembersUptoRow : OpenClaim := { program := "ytkpnhkccdjphgaa", sum := "5e5cf8f38fe75d1e8a7eaa42e254f50956061367c6aa65122ac11cb0c28c4884", func := "loop.example/g01363/laws.FnExactTateMembers", spec := "fnExactTateMembers", unfollowed := true, recurses := true, apart := false, narrowed := true }
def FnExactTateMembersUptoSaid : Prop := fnExactTateMembersUptoRow.holds Try.pinned (OpenSpec.upto fnExactTateMembersSpec)

/-- 'laws.FnExactWrapOf', WHERE WHAT IT READS IS OF BULK AT MOST 1048576: true; the input reads as it did. -/
def fnExactWrapOfUptoRow : OpenClaim := { program := "ytkpnhkccdjphgaa", sum := "5e5cf8f38fe75d1e8a7eaa42e254f50956061367c6aa65122ac11cb0c28c4884", func := "loop.example/g01363/laws.FnExactWrapOf", spec := "fnExactWrapOf", unfollowed := true, recurses := true, apart := false, narrowed := true }
def FnExactWrapOfUptoSaid : Prop := fnExactWrapOfUptoRow.holds Try.pinned (OpenSpec.upto fnExactWrapOfSpec)

/-- 'laws.FnExactLadderOf', WHERE WHAT IT READS IS OF BULK AT MOST 1048576: true; the input reads as it did. -/
def fnExactLadderOfUptoRow : OpenClaim := { program := "ytkpnhkccdjphgaa", sum := "5e5cf8f38fe75d1e8a7eaa42e254f50956061367c6aa65122ac11cb0c28c4884", func := "loop.example/g01363/laws.FnExactLadderOf", spec := "fnExactLadderOf", unfollowed := true, recurses := true, apart := false, narrowed := true }
def FnExactLadderOfUptoSaid : Prop := fnExactLadderOfUptoRow.holds Try.pinned (OpenSpec.upto fnExactLadderOfSpec)

/-- 'laws.FnExactNewDesk', WHERE WHAT IT READS IS OF BULK AT MOST 1048576: true; the input reads as it did. -/
def fnExactNewDeskUptoRow : OpenClaim := { program := "ytkpnhkccdjphgaa", sum := "5e5cf8f38fe75d1e8a7eaa42e254f50956061367c6aa65122ac11cb0c28c4884", func := "loop.example/g01363/laws.FnExactNewDesk", spec := "fnExactNewDesk", unfollowed := true, recurses := true, apart := false, narrowed := true }
def FnExactNewDeskUptoSaid : Prop := fnExactNewDeskUptoRow.holds Try.pinned (OpenSpec.upto fnExactNewDeskSpec)

/-- 'laws.FnTate', WHERE WHAT IT READS IS OF BULK AT MOST 1048576: true; the input reads as it did. -/
def fnTateUptoRow : OpenClaim := { program := "ytkpnhkccdjphgaa", sum := "5e5cf8f38fe75d1e8a7eaa42e254f50956061367c6aa65122ac11cb0c28c4884", func := "loop.example/g01363/laws.FnTate", spec := "fnTate", unfollowed := true, recurses := true, apart := false, narrowed := true }
def FnTateUptoSaid : Prop := fnTateUptoRow.holds Try.pinned (OpenSpec.upto fnTateSpec)

end Rows
end Go.Proofs.Ytkpnhkccdjphgaa
