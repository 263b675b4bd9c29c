/- For every world, two chunks and two players the call of homesteadlaw13.WorldPuts returns true, and its arguments read as they did. No conditions. -/
import Derived.Test.YtelgmmcnopjolaaGh
import Derived.Test.YtelgmmcnopjolaaGe
set_option linter.unusedSimpArgs false
set_option linter.unusedVariables false
namespace Go.Proofs.Ytelgmmcnopjolaa
open Go Go.RowKit Eng

set_option maxRecDepth 100000 in
theorem worldPuts_lifted (os : Os) (started : os.Started) (H : Type) (enc : TypeId × Value → H) :
    ReturnsInHanded {} Try.checked os 9 .any (Rows.worldPutsSpec.pre6 enc Try.prog Try.f9 Rows.worldPutsRow.domain false) (Rows.worldPutsSpec.post enc Try.prog Try.f9 false true false false) := by
  refine lifted_true (C := Try.checked) (boolT := 4) P_own started (by kernel_rfl) Try.func9 P_laid (of_decide_eq_true (by kernel_rfl)) rfl boolUn rfl ?_
    (ChangeSpec.witness6 (enc := enc) (C := Try.checked) false ⟨#[], #[.agg #[.int .i64 0, .int .u64 0, .int .i64 0, .slice none 0 0, .slice none 0 0], .agg #[.int .i64 0, .int .i64 0, .slice none 0 0, .slice none 0 0, .slice none 0 0, .int .i64 0, .int .i64 0, .slice none 0 0, .slice none 0 0, .slice none 0 0], .agg #[.int .i64 0, .int .i64 0, .int .i64 0, .slice none 0 0, .int .i64 0, .slice none 0 0, .bool false, .int .i64 0, .int .i64 0, .int .i64 0, .slice none 0 0, .int .i64 0, .slice none 0 0, .bool false]], []⟩ 8 (by kernel_rfl) (by kernel_rfl) (by kernel_rfl) (by kernel_rfl))
    (args_cons ag_world (args_cons ag_2chunk (args_cons ag_2player (args_nil _)))) ?_
  · intro ds hd
    match ds, hd with
    | [d1, d2, d3], _ => rfl
  · rintro ⟨w, ⟨c, d, _⟩, ⟨p, q, _⟩, _⟩ ⟨hw, ⟨hc, hd, _⟩, ⟨hp, hq, _⟩, _⟩
    exact putsW_api w c d p q hw.okW hc.okC hd.okC hc.fitC hd.fitC hp.okP hq.okP

theorem worldPuts_holds : Rows.WorldPutsSaid :=
  OpenClaim.holds_of_wide 9 Try.f9 rfl rfl rfl rfl rfl rfl rfl ⟨rfl, rfl, rfl, rfl, rfl⟩ rfl rfl rfl rfl rfl (by kernel_rfl) Try.func9 (by kernel_rfl)
    (of_decide_eq_true (by kernel_rfl)) (by unfold Func.isWrapper; rw [if_neg (of_decide_eq_false (by kernel_rfl))]; exact ⟨rfl, rfl⟩)
    (fun os started H enc _ => worldPuts_lifted os started H enc)

end Go.Proofs.Ytelgmmcnopjolaa
