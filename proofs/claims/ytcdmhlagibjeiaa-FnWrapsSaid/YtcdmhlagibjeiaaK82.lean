/- Contracts of functions of the program and of the reference: what the evaluator gives for a call of each. -/
import Derived.Test.YtcdmhlagibjeiaaAEf
import Derived.Test.YtcdmhlagibjeiaaK0
import Derived.Test.YtcdmhlagibjeiaaK81M
namespace Go.Proofs.YtcdmhlagibjeiaaE
open Go Go.Proofs
set_option maxHeartbeats 4000000
set_option linter.unusedSimpArgs false
set_option linter.unusedVariables false
/-! ## FnWraps -/
theorem ct_FnWraps (n : Nat) (hn : B + 100 ≤ n) (l : List Int) (hl : (l.length : Int) ≤ 9223372036854775807) (hb : ∀ i < l.length, 0 ≤ rn l i ∧ rn l i < 256) :
    evalCall Try.prog An n 4 [.d (.pin (bcells l))] [] = some ⟨.d (.bool true), [], []⟩ := by
  by_cases h : 4096 < l.length
  · exact ct_FnWraps_big n (by omega) l h
  · have C : CodeOk l := ⟨by omega, hb⟩
    obtain ⟨a1, q1, u1, z1, e1⟩ := ct_DrawWrap (n - 1) (by have := B_eq; omega) l C
    obtain ⟨a2, q2, u2, z2, e2⟩ := ct_DrawLadder (n - 1) (by have := B_eq; omega) l C
    by_cases h1 : WrOk a1 q1 u1 z1
    · by_cases g1 : WrGood q1 u1 z1
      · by_cases h2 : WrOk a2 q2 u2 z2
        · by_cases g2 : LaGood a2 q2 u2 z2
          · exact ct_FnWraps_aa n hn l C h _ _ _ _ _ _ _ _ h1 g1 h2 g2 e1 e2
          · exact ct_FnWraps_ab n hn l C h _ _ _ _ _ _ _ _ h1 g1 h2 g2 e1 e2
        · exact ct_FnWraps_ac n hn l C h _ _ _ _ _ _ _ _ h1 g1 h2 e1 e2
      · by_cases h2 : WrOk a2 q2 u2 z2
        · by_cases g2 : LaGood a2 q2 u2 z2
          · exact ct_FnWraps_ba n hn l C h _ _ _ _ _ _ _ _ h1 g1 h2 g2 e1 e2
          · exact ct_FnWraps_bb n hn l C h _ _ _ _ _ _ _ _ h1 g1 h2 g2 e1 e2
        · exact ct_FnWraps_bc n hn l C h _ _ _ _ _ _ _ _ h1 g1 h2 e1 e2
    · by_cases h2 : WrOk a2 q2 u2 z2
      · by_cases g2 : LaGood a2 q2 u2 z2
        · exact ct_FnWraps_ca n hn l C h _ _ _ _ _ _ _ _ h1 h2 g2 e1 e2
        · exact ct_FnWraps_cb n hn l C h _ _ _ _ _ _ _ _ h1 h2 g2 e1 e2
      · exact ct_FnWraps_cc n hn l C h _ _ _ _ _ _ _ _ h1 h2 e1 e2
end Go.Proofs.YtcdmhlagibjeiaaE
