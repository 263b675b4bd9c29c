/- homesteadlaw19.ViewMore. -/
import Derived.Test.YtelgmmcnopjolaaGi
set_option linter.unusedSimpArgs false
set_option linter.unusedVariables false
set_option maxRecDepth 100000
set_option maxHeartbeats 16000000
namespace Go.Proofs.Ytelgmmcnopjolaa
open Go Go.RowKit Eng
theorem ofW_none {w : Wld} {id r : Int} (h : ¬ (ofW w id r).2 = 0) : (ofW w id r).1 = zeroV:=by
 unfold ofW at *
 by_cases h1 : r < 0 ∨ 3 < r
 ·rw [if_pos h1]
 ·rw [if_neg h1] at h ⊢
  by_cases h2 : rightW w = false
  ·rw [if_pos h2]
  ·rw [if_neg h2] at h ⊢
   by_cases h3 : (playerW w id).2 = false
   ·rw [if_pos h3]
   ·rw [if_neg h3] at h;simp at h
end Go.Proofs.Ytelgmmcnopjolaa
