
/- Plain laws for Delete and Insert. -/
import Derived.Test.YtdbnihckckekcaaLib2
set_option linter.unusedSimpArgs false
set_option linter.unusedVariables false
namespace Go.Proofs.Ytdbnihckckekcaa
open Go Go.RowKit Eng

theorem take_upon {tt : Ty} (A R : List (El tt)) (p : Nat) (hp : p ≤ A.length) : (upon A p R).take p = A.take p := by
  unfold upon
  rw [List.take_left' (by rw [List.length_take]; omega)]
theorem upon_length {tt : Ty} (A R : List (El tt)) (p : Nat) (hp : p ≤ A.length) : p ≤ (upon A p R).length := by
  unfold upon
  rw [List.length_append, List.length_take]; omega

theorem upon_part {tt : Ty} (A R : List (El tt)) (p : Nat) (hp : p ≤ A.length) : (upon A p R).take (p + R.length) = A.take p ++ R := by
  unfold upon
  rw [← List.append_assoc]
  exact List.take_left' (by rw [List.length_append, List.length_take]; omega)


end Go.Proofs.Ytdbnihckckekcaa
