/- For every gap, two columns, with a gap or without, the call of homesteadlaw27.PathWalls returns true, and its arguments read as they did. No conditions. -/
import Derived.Test.YtchdgiooggdfeaaGk
import Derived.Test.YtchdgiooggdfeaaGj
set_option linter.unusedSimpArgs false
set_option linter.unusedVariables false
namespace Go.Proofs.Ytchdgiooggdfeaa
open Go Go.RowKit Eng

set_option maxRecDepth 100000 in
theorem pathWalls_lifted (os : Os) (started : os.Started) (H : Type) (enc : TypeId × Value → H) :
    ReturnsInHanded {} Try.checked os 7 .any (Rows.pathWallsSpec.pre6 enc Try.prog Try.f7 Rows.pathWallsRow.domain false) (Rows.pathWallsSpec.post enc Try.prog Try.f7 false true false false) := by
  refine lifted_true (C := Try.checked) (boolT := 4) P_own started (by kernel_rfl) Try.func7 P_laid (of_decide_eq_true (by kernel_rfl)) rfl boolUn rfl ?_
    (ChangeSpec.witness6 (enc := enc) (C := Try.checked) false ⟨#[], #[.agg #[.int .u8 0, .int .u8 0, .int .u8 0], .bool false], []⟩ 8 (by kernel_rfl) (by kernel_rfl) (by kernel_rfl) (by kernel_rfl))
    (args_cons ag_3u8 (args_cons ag_bool (args_nil _))) ?_
  · intro ds hd
    match ds, hd with
    | [d1, d2], _ => rfl
  · rintro ⟨⟨g, f, t, _⟩, b, _⟩ ⟨⟨hg, hf, ht, _⟩, _, _⟩
    exact walls_api g f t b hg hf ht

theorem pathWalls_holds : Rows.PathWallsSaid :=
  OpenClaim.holds_of_wide 7 Try.f7 rfl rfl rfl rfl rfl rfl rfl ⟨rfl, rfl, rfl, rfl, rfl⟩ rfl rfl rfl rfl rfl (by kernel_rfl) Try.func7 (by kernel_rfl)
    (of_decide_eq_true (by kernel_rfl)) (by unfold Func.isWrapper; rw [if_neg (of_decide_eq_false (by kernel_rfl))]; exact ⟨rfl, rfl⟩)
    (fun os started H enc _ => pathWalls_lifted os started H enc)

end Go.Proofs.Ytchdgiooggdfeaa
