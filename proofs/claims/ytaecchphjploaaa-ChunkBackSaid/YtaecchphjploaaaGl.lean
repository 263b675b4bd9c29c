/- view.Right, view.Same. -/
import Derived.Test.YtaecchphjploaaaGi
import Derived.Test.YtaecchphjploaaaGk
import Derived.Test.YtaecchphjploaaaGh
import Derived.Test.YtaecchphjploaaaGg
set_option linter.unusedSimpArgs false
set_option linter.unusedVariables false
set_option maxRecDepth 100000
set_option maxHeartbeats 16000000
namespace Go.Proofs.Ytaecchphjploaaa
open Go Go.RowKit Eng
open Go Go.RowKit Eng
def bagLe (x : Box) : Prop:=x.bag.length ≤ 9000000000000000000
theorem OkC.bags {c : Chunk} (hc : OkC c) : ∀ x ∈ c.boxes,bagLe x:=fun x hx=>by
 have:=(hc.boxes x hx).2
 unfold big at this
 unfold bagLe;omega
end Go.Proofs.Ytaecchphjploaaa
