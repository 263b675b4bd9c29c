/- For every place and either way the call of homesteadlaw26.LightTorch returns true, and its arguments read as they did. No conditions. -/
import Derived.Test.YtchdgiooggdfeaaGr
import Derived.Test.YtchdgiooggdfeaaGe
set_option linter.unusedSimpArgs false
set_option linter.unusedVariables false
namespace Go.Proofs.Ytchdgiooggdfeaa
open Go Go.RowKit Eng

set_option maxRecDepth 100000 in
theorem lightTorch_lifted (os : Os) (started : os.Started) (H : Type) (enc : TypeId × Value → H) :
    ReturnsInHanded {} Try.checked os 5 .any (Rows.lightTorchSpec.pre6 enc Try.prog Try.f5 Rows.lightTorchRow.domain false) (Rows.lightTorchSpec.post enc Try.prog Try.f5 false true false false) := by
  refine lifted_true (C := Try.checked) (boolT := 4) P_own started (by kernel_rfl) Try.func5 P_laid (of_decide_eq_true (by kernel_rfl)) rfl boolUn rfl ?_
    (ChangeSpec.witness6 (enc := enc) (C := Try.checked) false ⟨#[], #[.int .u8 0, .bool false], []⟩ 8 (by kernel_rfl) (by kernel_rfl) (by kernel_rfl) (by kernel_rfl))
    (args_cons ag_u8 (args_cons ag_bool (args_nil _))) ?_
  · intro ds hd
    match ds, hd with
    | [d1, d2], _ => rfl
  · rintro ⟨a, b, _⟩ ⟨ha, _, _⟩
    exact ltorch_api a b ha

theorem lightTorch_holds : Rows.LightTorchSaid :=
  OpenClaim.holds_of_wide 5 Try.f5 rfl rfl rfl rfl rfl rfl rfl ⟨rfl, rfl, rfl, rfl, rfl⟩ rfl rfl rfl rfl rfl (by kernel_rfl) Try.func5 (by kernel_rfl)
    (of_decide_eq_true (by kernel_rfl)) (by unfold Func.isWrapper; rw [if_neg (of_decide_eq_false (by kernel_rfl))]; exact ⟨rfl, rfl⟩)
    (fun os started H enc _ => lightTorch_lifted os started H enc)

end Go.Proofs.Ytchdgiooggdfeaa
