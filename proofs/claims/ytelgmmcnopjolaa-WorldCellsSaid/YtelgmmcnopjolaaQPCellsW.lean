/- For every world and place the call of homesteadlaw13.WorldCells returns true, and its arguments read as they did. No conditions. -/
import Derived.Test.YtelgmmcnopjolaaGg
import Derived.Test.YtelgmmcnopjolaaGe
set_option linter.unusedSimpArgs false
set_option linter.unusedVariables false
namespace Go.Proofs.Ytelgmmcnopjolaa
open Go Go.RowKit Eng

set_option maxRecDepth 100000 in
theorem worldCells_lifted (os : Os) (started : os.Started) (H : Type) (enc : TypeId × Value → H) :
    ReturnsInHanded {} Try.checked os 4 .any (Rows.worldCellsSpec.pre6 enc Try.prog Try.f4 Rows.worldCellsRow.domain false) (Rows.worldCellsSpec.post enc Try.prog Try.f4 false true false false) := by
  refine lifted_true (C := Try.checked) (boolT := 4) P_own started (by kernel_rfl) Try.func4 P_laid (of_decide_eq_true (by kernel_rfl)) rfl boolUn rfl ?_
    (ChangeSpec.witness6 (enc := enc) (C := Try.checked) false ⟨#[], #[.agg #[.int .i64 0, .int .u64 0, .int .i64 0, .slice none 0 0, .slice none 0 0], .int .i64 0, .int .i64 0], []⟩ 8 (by kernel_rfl) (by kernel_rfl) (by kernel_rfl) (by kernel_rfl))
    (args_cons ag_world (args_cons ag_int (args_cons ag_int (args_nil _)))) ?_
  · intro ds hd
    match ds, hd with
    | [d1, d2, d3], _ => rfl
  · rintro ⟨w, x, y, _⟩ ⟨hw, hx, hy, _⟩
    exact cellsW_api w x y hw.okW hx.2 hy.2

theorem worldCells_holds : Rows.WorldCellsSaid :=
  OpenClaim.holds_of_wide 4 Try.f4 rfl rfl rfl rfl rfl rfl rfl ⟨rfl, rfl, rfl, rfl, rfl⟩ rfl rfl rfl rfl rfl (by kernel_rfl) Try.func4 (by kernel_rfl)
    (of_decide_eq_true (by kernel_rfl)) (by unfold Func.isWrapper; rw [if_neg (of_decide_eq_false (by kernel_rfl))]; exact ⟨rfl, rfl⟩)
    (fun os started H enc _ => worldCells_lifted os started H enc)

end Go.Proofs.Ytelgmmcnopjolaa
