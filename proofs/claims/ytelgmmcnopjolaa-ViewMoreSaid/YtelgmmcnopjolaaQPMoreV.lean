/- For every world, player and two radii the call of homesteadlaw19.ViewMore returns true, and its arguments read as they did. No conditions. -/
import Derived.Test.YtelgmmcnopjolaaGj
import Derived.Test.YtelgmmcnopjolaaGe
set_option linter.unusedSimpArgs false
set_option linter.unusedVariables false
namespace Go.Proofs.Ytelgmmcnopjolaa
open Go Go.RowKit Eng

set_option maxRecDepth 100000 in
theorem viewMore_lifted (os : Os) (started : os.Started) (H : Type) (enc : TypeId × Value → H) :
    ReturnsInHanded {} Try.checked os 5 .any (Rows.viewMoreSpec.pre6 enc Try.prog Try.f5 Rows.viewMoreRow.domain false) (Rows.viewMoreSpec.post enc Try.prog Try.f5 false true false false) := by
  refine lifted_true (C := Try.checked) (boolT := 4) P_own started (by kernel_rfl) Try.func5 P_laid (of_decide_eq_true (by kernel_rfl)) rfl boolUn rfl ?_
    (ChangeSpec.witness6 (enc := enc) (C := Try.checked) false ⟨#[], #[.agg #[.int .i64 0, .int .u64 0, .int .i64 0, .slice none 0 0, .slice none 0 0], .int .i64 0, .agg #[.int .u8 0, .int .u8 0]], []⟩ 8 (by kernel_rfl) (by kernel_rfl) (by kernel_rfl) (by kernel_rfl))
    (args_cons ag_world (args_cons ag_int (args_cons ag_2u8 (args_nil _)))) ?_
  · intro ds hd
    match ds, hd with
    | [d1, d2, d3], _ => rfl
  · rintro ⟨w, x, ⟨b, c⟩, _⟩ ⟨hw, hx, ⟨hb, hc⟩, _⟩
    exact moreV_api w x b c hw.okW hb.1 hb.2 hc.1 hc.2

theorem viewMore_holds : Rows.ViewMoreSaid :=
  OpenClaim.holds_of_wide 5 Try.f5 rfl rfl rfl rfl rfl rfl rfl ⟨rfl, rfl, rfl, rfl, rfl⟩ rfl rfl rfl rfl rfl (by kernel_rfl) Try.func5 (by kernel_rfl)
    (of_decide_eq_true (by kernel_rfl)) (by unfold Func.isWrapper; rw [if_neg (of_decide_eq_false (by kernel_rfl))]; exact ⟨rfl, rfl⟩)
    (fun os started H enc _ => viewMore_lifted os started H enc)

end Go.Proofs.Ytelgmmcnopjolaa
