/- For every size, number and place the call of homesteadlaw13.WorldFirst returns true, and its arguments read as they did. No conditions. -/
import Derived.Test.YtelgmmcnopjolaaGl
import Derived.Test.YtelgmmcnopjolaaGe
set_option linter.unusedSimpArgs false
set_option linter.unusedVariables false
namespace Go.Proofs.Ytelgmmcnopjolaa
open Go Go.RowKit Eng

set_option maxRecDepth 100000 in
theorem worldFirst_lifted (os : Os) (started : os.Started) (H : Type) (enc : TypeId × Value → H) :
    ReturnsInHanded {} Try.checked os 11 .any (Rows.worldFirstSpec.pre6 enc Try.prog Try.f11 Rows.worldFirstRow.domain false) (Rows.worldFirstSpec.post enc Try.prog Try.f11 false true false false) := by
  refine lifted_true (C := Try.checked) (boolT := 4) P_own started (by kernel_rfl) Try.func11 P_laid (of_decide_eq_true (by kernel_rfl)) rfl boolUn rfl ?_
    (ChangeSpec.witness6 (enc := enc) (C := Try.checked) false ⟨#[], #[.int .i64 0, .int .u64 0, .agg #[.int .i64 0, .int .i64 0]], []⟩ 8 (by kernel_rfl) (by kernel_rfl) (by kernel_rfl) (by kernel_rfl))
    (args_cons ag_int (args_cons ag_u64 (args_cons ag_2int (args_nil _)))) ?_
  · intro ds hd
    match ds, hd with
    | [d1, d2, d3], _ => rfl
  · rintro ⟨s, z, ⟨x, y⟩, _⟩ ⟨hs, hz, ⟨hx, hy⟩, _⟩
    exact first_api s z x y hz hx.2 hy.2

theorem worldFirst_holds : Rows.WorldFirstSaid :=
  OpenClaim.holds_of_wide 11 Try.f11 rfl rfl rfl rfl rfl rfl rfl ⟨rfl, rfl, rfl, rfl, rfl⟩ rfl rfl rfl rfl rfl (by kernel_rfl) Try.func11 (by kernel_rfl)
    (of_decide_eq_true (by kernel_rfl)) (by unfold Func.isWrapper; rw [if_neg (of_decide_eq_false (by kernel_rfl))]; exact ⟨rfl, rfl⟩)
    (fun os started H enc _ => worldFirst_lifted os started H enc)

end Go.Proofs.Ytelgmmcnopjolaa
