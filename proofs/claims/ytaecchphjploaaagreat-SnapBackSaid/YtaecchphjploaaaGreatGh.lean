/- homesteadlaw13.WorldPuts: plain laws. -/
import Derived.Test.YtaecchphjploaaaGreatGg
set_option linter.unusedSimpArgs false
set_option linter.unusedVariables false
set_option maxRecDepth 100000
set_option maxHeartbeats 16000000
namespace Go.Proofs.YtaecchphjploaaaGreat
open Go Go.RowKit Eng
theorem set_num (w : Wld) (p : Player) : 0 ≤ (setW w p).2 ∧ (setW w p).2 ≤ 113:=by
 rcases set_err w p with ⟨_,h⟩|⟨_,⟨h,_⟩|⟨h,_⟩|⟨h,_⟩⟩<;>omega
end Go.Proofs.YtaecchphjploaaaGreat
