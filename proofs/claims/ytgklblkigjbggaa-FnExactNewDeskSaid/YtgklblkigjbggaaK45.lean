/- Contracts of functions of the program and of the reference: what the evaluator gives for a call of each. -/
import Derived.Test.YtgklblkigjbggaaAEf
import Derived.Test.YtgklblkigjbggaaK0
namespace Go.Proofs.YtgklblkigjbggaaE
open Go Go.Proofs
set_option maxHeartbeats 4000000
set_option maxRecDepth 4000
set_option linter.unusedSimpArgs false
set_option linter.unusedVariables false
set_option pp.deepTerms false
set_option pp.deepTerms.threshold 10
/-! ## the module of a subgroup -/
def sbF (U : List Int) (h : List Int) (i : Nat) : Int := rn U (rn h i).toNat
def sbU (U : List Int) (h : List Int) : List Int := tabI (sbF U h) h.length
end Go.Proofs.YtgklblkigjbggaaE
