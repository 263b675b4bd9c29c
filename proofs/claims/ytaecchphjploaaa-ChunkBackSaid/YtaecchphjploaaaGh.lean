/- homesteadlaw13.WorldPuts: plain laws. -/
import Derived.Test.YtaecchphjploaaaGg
set_option linter.unusedSimpArgs false
set_option linter.unusedVariables false
set_option maxRecDepth 100000
set_option maxHeartbeats 16000000
namespace Go.Proofs.Ytaecchphjploaaa
open Go Go.RowKit Eng
end Go.Proofs.Ytaecchphjploaaa
