/- homesteadlaw16: awake and seen. -/
import Derived.Test.YtkojlembanldcaaGreatGc
import Derived.Test.YtkojlembanldcaaGreatRows
set_option linter.unusedSimpArgs false
set_option linter.unusedVariables false
set_option maxRecDepth 100000
set_option maxHeartbeats 16000000
namespace Go.Proofs.YtkojlembanldcaaGreat
open Go Go.RowKit Eng
theorem aT {a b : Bool} (h : a = true) (h2 : b = true) : (a && b) = true:=by rw [h,h2];rfl
theorem LC : (laidOutB Tryz.pinned.checked.prog) = true:=by kernel_rfl
theorem LD : (mapsRowed Tryz.pinned.checked.prog) = true:=by kernel_rfl
theorem KX : ((Rows.rulesComesRow.plainKeys == Tryz.pinned.checked.prog.plainKeys)) = true:=by kernel_rfl
theorem KY : (Tryz.pinned.checked.prog.stopsHeard) = true:=by kernel_rfl
theorem KZ : (Tryz.pinned.checked.prog.mayEnter) = true:=by kernel_rfl
theorem K1 : ((Rows.rulesComesRow.lifted == Tryz.pinned.checked.prog.liftsFinal)) = true:=by kernel_rfl
theorem K2 : ((Tryz.pinned.checked.prog.make == some Rows.rulesComesRow.make)) = true:=by kernel_rfl
end Go.Proofs.YtkojlembanldcaaGreat
