/-
  No cell of these rows narrows 'for every input' (looked for: loops, veiled, ifaces, maps, wideKeys, modest, calm, conditions, laid).
  DERIVED. THE GIVEN ROWS OF THIS SEAT. 6 by the template 'for every input the law returns true; each argument reads behind the call as it read before'; 0 by the template 'total and deterministic' (their statements: YtfpeijfomacgeaaTotals.lean).
  GIVEN WITH THE SEED: the statements are not yours to turn. If you find one false, say at which input.
  Laid BY PROGRAM, IN A SANDBOX (cutbox-rows.mjs): the forced cells as the released guide's own fill.sh prints them over the translation dfa35e91e4233584… (all of the seat's roots in one cut). By AI agents, Wed Nov 11 2026. No macro, syntax, notation, axiom, sorry.
-/
import Derived.Test.YtfpeijfomacgeaaChecked
import GoSem.Claim
import GoSem.ClaimJoined
import GoSem.ClaimMapViews
import Derived.JoinedTies
import Derived.KernelRfl
namespace Go.Proofs.Ytfpeijfomacgeaa
/- THE CELL 'sum', in the pinned program and in every row, IS THE sha256 OF THE DUMP (.gsa) THAT YtfpeijfomacgeaaProg.lean LOADS. Nothing in Lean hashes anything: it is a label: what it is worth is what the hold of that sum in a sandbox is worth. -/
noncomputable def Try.pinned : Pinned := { name := "ytfpeijfomacgeaa", sum := "dfa35e91e42335844e7e8bcddfe156553a534e082d5bd8a8148362e7f8a195f3", checked := Try.checked }
namespace Rows
def none {H : Type} : Left H := { results := [], args := [] }

/-- 'laws.FnExactNewDesk': WHATEVER THE INPUT: true; the input reads as it did. -/
def fnExactNewDeskSpec : ChangeSpec := { name := "fnExactNewDesk", fn := fun _ => fun
  | [] => { results := [.lit (.bool true)], args := [] }
  | _ => none }
def fnExactNewDeskRow : OpenClaim := { program := "ytfpeijfomacgeaa", sum := "dfa35e91e42335844e7e8bcddfe156553a534e082d5bd8a8148362e7f8a195f3", func := "loop.example/g01363/laws.FnExactNewDesk", spec := "fnExactNewDesk", unfollowed := true, recurses := true, apart := false }
def FnExactNewDeskSaid : Prop := fnExactNewDeskRow.holds Try.pinned (OpenSpec.ofChange fnExactNewDeskSpec)

/-- ITS FALSE NEIGHBOUR: 'it returns false'. Refute it at one input. -/
def fnExactNewDeskWrong : ChangeSpec := { name := "fnExactNewDesk", fn := fun _ => fun
  | [] => { results := [.lit (.bool false)], args := [] }
  | _ => none }
def FnExactNewDeskWrongFalsely : Prop := fnExactNewDeskRow.holds Try.pinned (OpenSpec.ofChange fnExactNewDeskWrong)

/-- 'laws.FnExactConjugateSubgroup': WHATEVER THE INPUT: true; the input reads as it did. -/
def fnExactConjugateSubgroupSpec : ChangeSpec := { name := "fnExactConjugateSubgroup", fn := fun _ => fun
  | [d1, d2, d3] => { results := [.lit (.bool true)], args := [d1, d2, d3] }
  | _ => none }
def fnExactConjugateSubgroupRow : OpenClaim := { program := "ytfpeijfomacgeaa", sum := "dfa35e91e42335844e7e8bcddfe156553a534e082d5bd8a8148362e7f8a195f3", func := "loop.example/g01363/laws.FnExactConjugateSubgroup", spec := "fnExactConjugateSubgroup", unfollowed := true, recurses := true, apart := false }
def FnExactConjugateSubgroupSaid : Prop := fnExactConjugateSubgroupRow.holds Try.pinned (OpenSpec.ofChange fnExactConjugateSubgroupSpec)

/-- ITS FALSE NEIGHBOUR: 'it returns false'. Refute it at one input. -/
def fnExactConjugateSubgroupWrong : ChangeSpec := { name := "fnExactConjugateSubgroup", fn := fun _ => fun
  | [d1, d2, d3] => { results := [.lit (.bool false)], args := [d1, d2, d3] }
  | _ => none }
def FnExactConjugateSubgroupWrongFalsely : Prop := fnExactConjugateSubgroupRow.holds Try.pinned (OpenSpec.ofChange fnExactConjugateSubgroupWrong)

/-- 'laws.FnExactGroupOfSubgroup': WHATEVER THE INPUT: true; the input reads as it did. -/
def fnExactGroupOfSubgroupSpec : ChangeSpec := { name := "fnExactGroupOfSubgroup", fn := fun _ => fun
  | [d1, d2] => { results := [.lit (.bool true)], args := [d1, d2] }
  | _ => none }
def fnExactGroupOfSubgroupRow : OpenClaim := { program := "ytfpeijfomacgeaa", sum := "dfa35e91e42335844e7e8bcddfe156553a534e082d5bd8a8148362e7f8a195f3", func := "loop.example/g01363/laws.FnExactGroupOfSubgroup", spec := "fnExactGroupOfSubgroup", unfollowed := true, recurses := true, apart := false }
def FnExactGroupOfSubgroupSaid : Prop := fnExactGroupOfSubgroupRow.holds Try.pinned (OpenSpec.ofChange fnExactGroupOfSubgroupSpec)

/-- ITS FALSE NEIGHBOUR: 'it returns false'. Refute it at one input. -/
def fnExactGroupOfSubgroupWrong : ChangeSpec := { name := "fnExactGroupOfSubgroup", fn := fun _ => fun
  | [d1, d2] => { results := [.lit (.bool false)], args := [d1, d2] }
  | _ => none }
def FnExactGroupOfSubgroupWrongFalsely : Prop := fnExactGroupOfSubgroupRow.holds Try.pinned (OpenSpec.ofChange fnExactGroupOfSubgroupWrong)

/-- 'laws.FnExactRepresentativesOf': WHATEVER THE INPUT: true; the input reads as it did. -/
def fnExactRepresentativesOfSpec : ChangeSpec := { name := "fnExactRepresentativesOf", fn := fun _ => fun
  | [d1, d2] => { results := [.lit (.bool true)], args := [d1, d2] }
  | _ => none }
def fnExactRepresentativesOfRow : OpenClaim := { program := "ytfpeijfomacgeaa", sum := "dfa35e91e42335844e7e8bcddfe156553a534e082d5bd8a8148362e7f8a195f3", func := "loop.example/g01363/laws.FnExactRepresentativesOf", spec := "fnExactRepresentativesOf", recurses := true, apart := false }
def FnExactRepresentativesOfSaid : Prop := fnExactRepresentativesOfRow.holds Try.pinned (OpenSpec.ofChange fnExactRepresentativesOfSpec)

/-- ITS FALSE NEIGHBOUR: 'it returns false'. Refute it at one input. -/
def fnExactRepresentativesOfWrong : ChangeSpec := { name := "fnExactRepresentativesOf", fn := fun _ => fun
  | [d1, d2] => { results := [.lit (.bool false)], args := [d1, d2] }
  | _ => none }
def FnExactRepresentativesOfWrongFalsely : Prop := fnExactRepresentativesOfRow.holds Try.pinned (OpenSpec.ofChange fnExactRepresentativesOfWrong)

/-- 'laws.FnExactModuleOfSubgroup': WHATEVER THE INPUT: true; the input reads as it did. -/
def fnExactModuleOfSubgroupSpec : ChangeSpec := { name := "fnExactModuleOfSubgroup", fn := fun _ => fun
  | [d1, d2, d3] => { results := [.lit (.bool true)], args := [d1, d2, d3] }
  | _ => none }
def fnExactModuleOfSubgroupRow : OpenClaim := { program := "ytfpeijfomacgeaa", sum := "dfa35e91e42335844e7e8bcddfe156553a534e082d5bd8a8148362e7f8a195f3", func := "loop.example/g01363/laws.FnExactModuleOfSubgroup", spec := "fnExactModuleOfSubgroup", unfollowed := true, recurses := true, apart := false }
def FnExactModuleOfSubgroupSaid : Prop := fnExactModuleOfSubgroupRow.holds Try.pinned (OpenSpec.ofChange fnExactModuleOfSubgroupSpec)

/-- ITS FALSE NEIGHBOUR: 'it returns false'. Refute it at one input. -/
def fnExactModuleOfSubgroupWrong : ChangeSpec := { name := "fnExactModuleOfSubgroup", fn := fun _ => fun
  | [d1, d2, d3] => { results := [.lit (.bool false)], args := [d1, d2, d3] }
  | _ => none }
def FnExactModuleOfSubgroupWrongFalsely : Prop := fnExactModuleOfSubgroupRow.holds Try.pinned (OpenSpec.ofChange fnExactModuleOfSubgroupWrong)

/-- 'laws.FnExactTransferElement': WHATEVER THE INPUT: true; the input reads as it did. -/
def fnExactTransferElementSpec : ChangeSpec := { name := "fnExactTransferElement", fn := fun _ => fun
  | [d1, d2, d3] => { results := [.lit (.bool true)], args := [d1, d2, d3] }
  | _ => none }
def fnExactTransferElementRow : OpenClaim := { program := "ytfpeijfomacgeaa", sum := "dfa35e91e42335844e7e8bcddfe156553a534e082d5bd8a8148362e7f8a195f3", func := "loop.example/g01363/laws.FnExactTransferElement", spec := "fnExactTransferElement", unfollowed := true, recurses := true, apart := false }
def FnExactTransferElementSaid : Prop := fnExactTransferElementRow.holds Try.pinned (OpenSpec.ofChange fnExactTransferElementSpec)

/-- ITS FALSE NEIGHBOUR: 'it returns false'. Refute it at one input. -/
def fnExactTransferElementWrong : ChangeSpec := { name := "fnExactTransferElement", fn := fun _ => fun
  | [d1, d2, d3] => { results := [.lit (.bool false)], args := [d1, d2, d3] }
  | _ => none }
def FnExactTransferElementWrongFalsely : Prop := fnExactTransferElementRow.holds Try.pinned (OpenSpec.ofChange fnExactTransferElementWrong)

/- THE SECOND FORM. 'bulk': how many values and letters a reading holds, each counted each time it is reached (what is shared counts as often as it is met; a slice's spare places count too). A statement '..UptoSaid' is the law's where the arguments, and the package variables that the reading takes, are together of bulk at most 1048576: NARROWER than '..Said'. Prove '..Said' where nothing that the law and all that it calls make is longer than what came in: it says more and counts as full. Else prove '..UptoSaid'. A law counts once. -/
mutual
def uptoBulk {H : Type} : DataW H → Nat
  | .lit (.string bytes) => bytes.length + 1
  | .lit _ => 1
  | .nil => 1
  | .ptr d => uptoBulk d + 1
  | .slice elems spare => uptoBulkAll elems + uptoBulkAll spare + 1
  | .agg parts => uptoBulkAll parts + 1
  | .iface _ d => uptoBulk d + 1
  | .map entries => uptoBulkEntries entries + 1
  | .held _ => 1
def uptoBulkAll {H : Type} : List (DataW H) → Nat
  | [] => 0
  | d :: r => uptoBulk d + uptoBulkAll r
def uptoBulkEntries {H : Type} : List (Lit × DataW H) → Nat
  | [] => 0
  | x :: r => uptoBulkEntry x + uptoBulkEntries r
def uptoBulkEntry {H : Type} : Lit × DataW H → Nat
  | (.string bytes, d) => bytes.length + uptoBulk d + 1
  | (_, d) => uptoBulk d + 1
 end
def uptoSmall : (H : Type) → List (DataW H) → Bool := fun _ ds => decide (uptoBulkAll ds ≤ 1048576)
def OpenSpec.upto (s : _root_.Go.ChangeSpec) : _root_.Go.OpenSpec := { _root_.Go.OpenSpec.ofChange s with cond := some uptoSmall }

/-- 'laws.FnExactNewDesk', WHERE WHAT IT READS IS OF BULK AT MOST 1048576: true; the input reads as it did. -/
def fnExactNewDeskUptoRow : OpenClaim := { program := "ytfpeijfomacgeaa", sum := "dfa35e91e42335844e7e8bcddfe156553a534e082d5bd8a8148362e7f8a195f3", func := "loop.example/g01363/laws.FnExactNewDesk", spec := "fnExactNewDesk", unfollowed := true, recurses := true, apart := false, narrowed := true }
def FnExactNewDeskUptoSaid : Prop := fnExactNewDeskUptoRow.holds Try.pinned (OpenSpec.upto fnExactNewDeskSpec)

/-- 'laws.FnExactConjugateSubgroup', WHERE WHAT IT READS IS OF BULK AT MOST 1048576: true; the input reads as it did. -/
def fnExactConjugateSubgroupUptoRow : OpenClaim := { program := "ytfpeijfomacgeaa", sum := "dfa35e91e42335844e7e8bcddfe156553a534e082d5bd8a8148362e7f8a195f3", func := "loop.example/g01363/laws.FnExactConjugateSubgroup", spec := "fnExactConjugateSubgroup", unfollowed := true, recurses := true, apart := false, narrowed := true }
def FnExactConjugateSubgroupUptoSaid : Prop := fnExactConjugateSubgroupUptoRow.holds Try.pinned (OpenSpec.upto fnExactConjugateSubgroupSpec)

/-- 'laws.FnExactGroupOfSubgroup', WHERE WHAT IT READS IS OF BULK AT MOST 1048576: true; the input reads as it did. -/
def fnExactGroupOfSubgroupUptoRow : OpenClaim := { program := "ytfpeijfomacgeaa", sum := "dfa35e91e42335844e7e8bcddfe156553a534e082d5bd8a8148362e7f8a195f3", func := "loop.example/g01363/laws.FnExactGroupOfSubgroup", spec := "fnExactGroupOfSubgroup", unfollowed := true, recurses := true, apart := false, narrowed := true }
def FnExactGroupOfSubgroupUptoSaid : Prop := fnExactGroupOfSubgroupUptoRow.holds Try.pinned (OpenSpec.upto fnExactGroupOfSubgroupSpec)

/-- 'laws.FnExactRepresentativesOf', WHERE WHAT IT READS IS OF BULK AT MOST 1048576: true; the input reads as it did. -/
def fnExactRepresentativesOfUptoRow : OpenClaim := { program := "ytfpeijfomacgeaa", sum := "dfa35e91e42335844e7e8bcddfe156553a534e082d5bd8a8148362e7f8a195f3", func := "loop.example/g01363/laws.FnExactRepresentativesOf", spec := "fnExactRepresentativesOf", recurses := true, apart := false, narrowed := true }
def FnExactRepresentativesOfUptoSaid : Prop := fnExactRepresentativesOfUptoRow.holds Try.pinned (OpenSpec.upto fnExactRepresentativesOfSpec)

/-- 'laws.FnExactModuleOfSubgroup', WHERE WHAT IT READS IS OF BULK AT MOST 1048576: true; the input reads as it did. -/
def fnExactModuleOfSubgroupUptoRow : OpenClaim := { program := "ytfpeijfomacgeaa", sum := "dfa35e91e42335844e7e8bcddfe156553a534e082d5bd8a8148362e7f8a195f3", func := "loop.example/g01363/laws.FnExactModuleOfSubgroup", spec := "fnExactModuleOfSubgroup", unfollowed := true, recurses := true, apart := false, narrowed := true }
def FnExactModuleOfSubgroupUptoSaid : Prop := fnExactModuleOfSubgroupUptoRow.holds Try.pinned (OpenSpec.upto fnExactModuleOfSubgroupSpec)

/-- 'laws.FnExactTransferElement', WHERE WHAT IT READS IS OF BULK AT MOST 1048576: true; the input reads as it did. -/
def fnExactTransferElementUptoRow : OpenClaim := { program := "ytfpeijfomacgeaa", sum := "dfa35e91e42335844e7e8bcddfe156553a534e082d5bd8a8148362e7f8a195f3", func := "loop.example/g01363/laws.FnExactTransferElement", spec := "fnExactTransferElement", unfollowed := true, recurses := true, apart := false, narrowed := true }
def FnExactTransferElementUptoSaid : Prop := fnExactTransferElementUptoRow.holds Try.pinned (OpenSpec.upto fnExactTransferElementSpec)

end Rows
end Go.Proofs.Ytfpeijfomacgeaa
