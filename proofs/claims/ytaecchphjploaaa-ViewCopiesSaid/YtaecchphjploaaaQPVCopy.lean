/- For every world, player and radius the call of homesteadlaw19.ViewCopies returns true, and its arguments read as they did. No conditions. -/
import Derived.Test.YtaecchphjploaaaRs
import Derived.Test.YtaecchphjploaaaGe
set_option linter.unusedSimpArgs false
set_option linter.unusedVariables false
namespace Go.Proofs.Ytaecchphjploaaa
open Go Go.RowKit Eng

set_option maxRecDepth 100000 in
theorem viewCopies_lifted (os : Os) (started : os.Started) (H : Type) (enc : TypeId × Value → H) :
    ReturnsInHanded {} Try.checked os 4 .any (Rows.viewCopiesSpec.pre6 enc Try.prog Try.f4 Rows.viewCopiesRow.domain false) (Rows.viewCopiesSpec.post enc Try.prog Try.f4 false true false false) := by
  refine lifted_true (C := Try.checked) (boolT := 4) P_own started (by kernel_rfl) Try.func4 P_laid (of_decide_eq_true (by kernel_rfl)) rfl boolUn rfl ?_
    (ChangeSpec.witness6 (enc := enc) (C := Try.checked) false ⟨#[], #[.agg #[.int .i64 0, .int .u64 0, .int .i64 0, .slice none 0 0, .slice none 0 0], .int .i64 0, .int .u8 0], []⟩ 8 (by kernel_rfl) (by kernel_rfl) (by kernel_rfl) (by kernel_rfl))
    (args_cons ag_world (args_cons ag_int (args_cons ag_u8 (args_nil _)))) ?_
  · intro ds hd
    match ds, hd with
    | [d1, d2, d3], _ => rfl
  · rintro ⟨w, x, b, _⟩ ⟨hw, hx, hb, _⟩
    exact vcopies_api w hw.okW x b hb

theorem viewCopies_holds : Rows.ViewCopiesSaid :=
  OpenClaim.holds_of_wide 4 Try.f4 rfl rfl rfl rfl rfl rfl rfl ⟨rfl, rfl, rfl, rfl, rfl⟩ rfl rfl rfl rfl rfl (by kernel_rfl) Try.func4 (by kernel_rfl)
    (of_decide_eq_true (by kernel_rfl)) (by unfold Func.isWrapper; rw [if_neg (of_decide_eq_false (by kernel_rfl))]; exact ⟨rfl, rfl⟩)
    (fun os started H enc _ => viewCopies_lifted os started H enc)

end Go.Proofs.Ytaecchphjploaaa
