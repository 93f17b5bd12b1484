/- Contracts of functions of the program and of the reference: what the evaluator gives for a call of each. -/
import Derived.Test.YtcdmhlagibjeiaaAEf
import Derived.Test.YtcdmhlagibjeiaaK0
import Derived.Test.YtcdmhlagibjeiaaK3
import Derived.Test.YtcdmhlagibjeiaaK7
namespace Go.Proofs.YtcdmhlagibjeiaaE
open Go Go.Proofs
set_option maxHeartbeats 4000000
set_option maxRecDepth 2000
set_option linter.unusedSimpArgs false
set_option linter.unusedVariables false
set_option pp.deepTerms false
set_option pp.deepTerms.threshold 10
/-! ## sets of elements: ascending lists -/
def AscL (l : List Int) : Prop := ∀ i, i + 1 < l.length → rn l i < rn l (i + 1)
def SetOk (T : List (List Int)) (l : List Int) : Prop := AllIn T.length l ∧ AscL l
open Classical in
noncomputable def elcode (T : List (List Int)) (l : List Int) : Int := if IsGr T then if AllIn T.length l then 0 else 2 else 1
open Classical in
noncomputable def setcode (T : List (List Int)) (l : List Int) : Int := if IsGr T then if SetOk T l then 0 else 2 else 1
end Go.Proofs.YtcdmhlagibjeiaaE
