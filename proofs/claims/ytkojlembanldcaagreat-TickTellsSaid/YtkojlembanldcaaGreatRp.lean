/- What is together behind orders and ticks. -/
import Derived.Test.YtkojlembanldcaaGreatRe
import Derived.Test.YtkojlembanldcaaGreatRb
set_option linter.unusedSimpArgs false
set_option linter.unusedVariables false
set_option maxRecDepth 100000
set_option maxHeartbeats 16000000
namespace Go.Proofs.YtkojlembanldcaaGreat
open Go Go.RowKit Eng
theorem deltas_len (w : Wld) (id : Int) (c : Cmd) : (deltasW w id c).length = 13:=by
 unfold deltasW
 (repeat' split)<;>first|rfl|(rw [addAt_len];rfl)|(rw [addAt_len,subAll_len];rfl)
end Go.Proofs.YtkojlembanldcaaGreat
