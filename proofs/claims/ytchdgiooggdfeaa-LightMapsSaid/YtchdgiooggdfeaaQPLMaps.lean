/- For every world, place and box the call of homesteadlaw26.LightMaps returns true, and its arguments read as they did. No conditions. -/
import Derived.Test.YtchdgiooggdfeaaGq
import Derived.Test.YtchdgiooggdfeaaGe
set_option linter.unusedSimpArgs false
set_option linter.unusedVariables false
namespace Go.Proofs.Ytchdgiooggdfeaa
open Go Go.RowKit Eng

set_option maxRecDepth 100000 in
theorem lightMaps_lifted (os : Os) (started : os.Started) (H : Type) (enc : TypeId × Value → H) :
    ReturnsInHanded {} Try.checked os 4 .any (Rows.lightMapsSpec.pre6 enc Try.prog Try.f4 Rows.lightMapsRow.domain false) (Rows.lightMapsSpec.post enc Try.prog Try.f4 false true false false) := by
  refine lifted_true (C := Try.checked) (boolT := 4) P_own started (by kernel_rfl) Try.func4 P_laid (of_decide_eq_true (by kernel_rfl)) rfl boolUn rfl ?_
    (ChangeSpec.witness6 (enc := enc) (C := Try.checked) false ⟨#[], #[.agg #[.int .i64 0, .int .u64 0, .int .i64 0, .slice none 0 0, .slice none 0 0], .agg #[.int .i64 0, .int .i64 0], .agg #[.int .u8 0, .int .u8 0]], []⟩ 8 (by kernel_rfl) (by kernel_rfl) (by kernel_rfl) (by kernel_rfl))
    (args_cons ag_world (args_cons ag_2int (args_cons ag_2u8 (args_nil _)))) ?_
  · intro ds hd
    match ds, hd with
    | [d1, d2, d3], _ => rfl
  · rintro ⟨w, ⟨a0, a1⟩, ⟨b0, b1⟩, _⟩ ⟨hw, _, ⟨hb0, hb1⟩, _⟩
    exact lmaps_api w hw.okW a0 a1 b0 b1 hb0 hb1

theorem lightMaps_holds : Rows.LightMapsSaid :=
  OpenClaim.holds_of_wide 4 Try.f4 rfl rfl rfl rfl rfl rfl rfl ⟨rfl, rfl, rfl, rfl, rfl⟩ rfl rfl rfl rfl rfl (by kernel_rfl) Try.func4 (by kernel_rfl)
    (of_decide_eq_true (by kernel_rfl)) (by unfold Func.isWrapper; rw [if_neg (of_decide_eq_false (by kernel_rfl))]; exact ⟨rfl, rfl⟩)
    (fun os started H enc _ => lightMaps_lifted os started H enc)

end Go.Proofs.Ytchdgiooggdfeaa
