/- For every world, two players and radius the call of homesteadlaw19.ViewBoth returns true, and its arguments read as they did. No conditions. -/
import Derived.Test.YtelgmmcnopjolaaGk
import Derived.Test.YtelgmmcnopjolaaGe
set_option linter.unusedSimpArgs false
set_option linter.unusedVariables false
namespace Go.Proofs.Ytelgmmcnopjolaa
open Go Go.RowKit Eng

set_option maxRecDepth 100000 in
theorem viewBoth_lifted (os : Os) (started : os.Started) (H : Type) (enc : TypeId × Value → H) :
    ReturnsInHanded {} Try.checked os 7 .any (Rows.viewBothSpec.pre6 enc Try.prog Try.f7 Rows.viewBothRow.domain false) (Rows.viewBothSpec.post enc Try.prog Try.f7 false true false false) := by
  refine lifted_true (C := Try.checked) (boolT := 4) P_own started (by kernel_rfl) Try.func7 P_laid (of_decide_eq_true (by kernel_rfl)) rfl boolUn rfl ?_
    (ChangeSpec.witness6 (enc := enc) (C := Try.checked) false ⟨#[], #[.agg #[.int .i64 0, .int .u64 0, .int .i64 0, .slice none 0 0, .slice none 0 0], .agg #[.int .i64 0, .int .i64 0], .int .u8 0], []⟩ 8 (by kernel_rfl) (by kernel_rfl) (by kernel_rfl) (by kernel_rfl))
    (args_cons ag_world (args_cons ag_2int (args_cons ag_u8 (args_nil _)))) ?_
  · intro ds hd
    match ds, hd with
    | [d1, d2, d3], _ => rfl
  · rintro ⟨w, ⟨i, j⟩, b, _⟩ ⟨hw, _, hb, _⟩
    exact bothV_api w i j b hw.okW hb.1 hb.2

theorem viewBoth_holds : Rows.ViewBothSaid :=
  OpenClaim.holds_of_wide 7 Try.f7 rfl rfl rfl rfl rfl rfl rfl ⟨rfl, rfl, rfl, rfl, rfl⟩ rfl rfl rfl rfl rfl (by kernel_rfl) Try.func7 (by kernel_rfl)
    (of_decide_eq_true (by kernel_rfl)) (by unfold Func.isWrapper; rw [if_neg (of_decide_eq_false (by kernel_rfl))]; exact ⟨rfl, rfl⟩)
    (fun os started H enc _ => viewBoth_lifted os started H enc)

end Go.Proofs.Ytelgmmcnopjolaa
