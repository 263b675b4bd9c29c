
/- From how a player reads to what its contracts ask. -/
import Derived.Test.YtdbnihckckekcaaReads
import Derived.Test.YtdbnihckckekcaaPlayer
set_option linter.unusedSimpArgs false
set_option linter.unusedVariables false
namespace Go.Proofs.Ytdbnihckckekcaa
open Go Go.RowKit Eng
theorem FitPlayer.okP {p : Player} (h : FitPlayer p) : OkP p := ⟨fun s hs => (h.bag s hs).1, fun s hs => (h.offer s hs).1, h.nb, h.no⟩
end Go.Proofs.Ytdbnihckckekcaa
