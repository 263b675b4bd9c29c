/- For every world, player, cell and most the call of homesteadlaw27.PathTells returns true, and its arguments read as they did. No conditions. -/
import Derived.Test.YtchdgiooggdfeaaGz
import Derived.Test.YtchdgiooggdfeaaGe
set_option linter.unusedSimpArgs false
set_option linter.unusedVariables false
namespace Go.Proofs.Ytchdgiooggdfeaa
open Go Go.RowKit Eng

set_option maxRecDepth 100000 in
theorem pathTells_lifted (os : Os) (started : os.Started) (H : Type) (enc : TypeId × Value → H) :
    ReturnsInHanded {} Try.checked os 6 .any (Rows.pathTellsSpec.pre6 enc Try.prog Try.f6 Rows.pathTellsRow.domain false) (Rows.pathTellsSpec.post enc Try.prog Try.f6 false true false false) := by
  refine lifted_true (C := Try.checked) (boolT := 4) P_own started (by kernel_rfl) Try.func6 P_laid (of_decide_eq_true (by kernel_rfl)) rfl boolUn rfl ?_
    (ChangeSpec.witness6 (enc := enc) (C := Try.checked) false ⟨#[], #[.agg #[.int .i64 0, .int .u64 0, .int .i64 0, .slice none 0 0, .slice none 0 0], .int .i64 0, .agg #[.int .i64 0, .int .i64 0, .int .i64 0]], []⟩ 8 (by kernel_rfl) (by kernel_rfl) (by kernel_rfl) (by kernel_rfl))
    (args_cons ag_world (args_cons ag_int (args_cons ag_3int (args_nil _)))) ?_
  · intro ds hd
    match ds, hd with
    | [d1, d2, d3], _ => rfl
  · rintro ⟨w, id, ⟨x, y, m, _⟩, _⟩ ⟨hw, _, _, _⟩
    exact ptells_api w hw.okW id x y m

theorem pathTells_holds : Rows.PathTellsSaid :=
  OpenClaim.holds_of_wide 6 Try.f6 rfl rfl rfl rfl rfl rfl rfl ⟨rfl, rfl, rfl, rfl, rfl⟩ rfl rfl rfl rfl rfl (by kernel_rfl) Try.func6 (by kernel_rfl)
    (of_decide_eq_true (by kernel_rfl)) (by unfold Func.isWrapper; rw [if_neg (of_decide_eq_false (by kernel_rfl))]; exact ⟨rfl, rfl⟩)
    (fun os started H enc _ => pathTells_lifted os started H enc)

end Go.Proofs.Ytchdgiooggdfeaa
