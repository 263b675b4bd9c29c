/- Closures as results; contracts of view. -/
import Derived.Test.YtaecchphjploaaaGg
import Derived.Test.YtaecchphjploaaaGc
import Derived.Test.YtaecchphjploaaaGe
set_option linter.unusedSimpArgs false
set_option linter.unusedVariables false
set_option maxRecDepth 100000
set_option maxHeartbeats 16000000
namespace Go.Proofs.Ytaecchphjploaaa
open Go Go.RowKit Eng
open Go Go.RowKit Eng
open Go Go.RowKit Eng
def subK {α κ : Type} (key : α → κ) (A B : List α) (k i : Nat) : Prop:=k ≤ A.length ∧ ((A.drop k).map key).Sublist ((B.drop i).map key)
theorem sub_zero {α κ : Type} {key : α → κ} {A B : List α} (h : A.Sublist B) : subK key A B 0 0:=⟨by omega,h.map _⟩
open Go Go.RowKit Eng
end Go.Proofs.Ytaecchphjploaaa
