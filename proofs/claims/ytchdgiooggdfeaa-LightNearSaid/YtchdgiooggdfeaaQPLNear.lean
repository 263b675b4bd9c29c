/- For every world the call of homesteadlaw26.LightNear returns true, and its argument reads as it did. No conditions. -/
import Derived.Test.YtchdgiooggdfeaaGp
import Derived.Test.YtchdgiooggdfeaaGe
set_option linter.unusedSimpArgs false
set_option linter.unusedVariables false
namespace Go.Proofs.Ytchdgiooggdfeaa
open Go Go.RowKit Eng

set_option maxRecDepth 100000 in
theorem lightNear_lifted (os : Os) (started : os.Started) (H : Type) (enc : TypeId × Value → H) :
    ReturnsInHanded {} Try.checked os 8 .any (Rows.lightNearSpec.pre6 enc Try.prog Try.f8 Rows.lightNearRow.domain false) (Rows.lightNearSpec.post enc Try.prog Try.f8 false true false false) := by
  refine lifted_true (C := Try.checked) (boolT := 4) P_own started (by kernel_rfl) Try.func8 P_laid (of_decide_eq_true (by kernel_rfl)) rfl boolUn rfl ?_
    (ChangeSpec.witness6 (enc := enc) (C := Try.checked) false ⟨#[], #[.agg #[.int .i64 0, .int .u64 0, .int .i64 0, .slice none 0 0, .slice none 0 0]], []⟩ 8 (by kernel_rfl) (by kernel_rfl) (by kernel_rfl) (by kernel_rfl))
    (args_cons ag_world (args_nil _)) ?_
  · intro ds hd
    match ds, hd with
    | [d1], _ => rfl
  · rintro ⟨w, _⟩ ⟨hw, _⟩
    exact lnear_api w hw.okW

theorem lightNear_holds : Rows.LightNearSaid :=
  OpenClaim.holds_of_wide 8 Try.f8 rfl rfl rfl rfl rfl rfl rfl ⟨rfl, rfl, rfl, rfl, rfl⟩ rfl rfl rfl rfl rfl (by kernel_rfl) Try.func8 (by kernel_rfl)
    (of_decide_eq_true (by kernel_rfl)) (by unfold Func.isWrapper; rw [if_neg (of_decide_eq_false (by kernel_rfl))]; exact ⟨rfl, rfl⟩)
    (fun os started H enc _ => lightNear_lifted os started H enc)

end Go.Proofs.Ytchdgiooggdfeaa
