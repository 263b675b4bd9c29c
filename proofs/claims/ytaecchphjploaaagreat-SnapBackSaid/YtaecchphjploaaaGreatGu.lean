/- Closed facts. -/
import Derived.Test.YtaecchphjploaaaGreatGc
import Derived.Test.YtaecchphjploaaaGreatRows
set_option linter.unusedSimpArgs false
set_option linter.unusedVariables false
set_option maxRecDepth 100000
set_option maxHeartbeats 16000000
namespace Go.Proofs.YtaecchphjploaaaGreat
open Go Go.RowKit Eng
theorem aT {a b : Bool} (h : a = true) (h2 : b = true) : (a && b) = true:=by rw [h,h2];rfl
theorem js_1 : (laidOutB Tryz.pinned.checked.prog) = true:=by kernel_rfl
theorem js_2 : (mapsRowed Tryz.pinned.checked.prog) = true:=by kernel_rfl
theorem js_22 : ((Rows.snapShortRow.plainKeys == Tryz.pinned.checked.prog.plainKeys)) = true:=by kernel_rfl
theorem js_24 : (Tryz.pinned.checked.prog.stopsHeard) = true:=by kernel_rfl
theorem js_25 : (Tryz.pinned.checked.prog.mayEnter) = true:=by kernel_rfl
theorem js_26 : ((Rows.snapShortRow.lifted == Tryz.pinned.checked.prog.liftsFinal)) = true:=by kernel_rfl
theorem js_27 : ((Tryz.pinned.checked.prog.make == some Rows.snapShortRow.make)) = true:=by kernel_rfl
end Go.Proofs.YtaecchphjploaaaGreat
