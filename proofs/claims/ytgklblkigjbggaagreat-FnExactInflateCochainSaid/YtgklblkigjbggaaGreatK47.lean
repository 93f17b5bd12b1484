/- Contracts of functions of the program and of the reference: what the evaluator gives for a call of each. -/
import Derived.Test.YtgklblkigjbggaaGreatAEf
import Derived.Test.YtgklblkigjbggaaGreatK0
import Derived.Test.YtgklblkigjbggaaGreatK3
import Derived.Test.YtgklblkigjbggaaGreatK24
namespace Go.Proofs.YtgklblkigjbggaaGreatE
open Go Go.Proofs
set_option maxHeartbeats 4000000
set_option maxRecDepth 4000
set_option linter.unusedSimpArgs false
set_option linter.unusedVariables false
set_option pp.deepTerms false
set_option pp.deepTerms.threshold 10
/-! ## centres -/
noncomputable def cenQ (S : List (List Int)) (a : Nat) : Bool := bl (∀ b < S.length, cl S a b = cl S b a)
noncomputable def cenL (S : List (List Int)) : List Int := thoseL (cenQ S) S.length
end Go.Proofs.YtgklblkigjbggaaGreatE
