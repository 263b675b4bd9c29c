/- For every world, player, radius, chunk and other player the call of homesteadlaw19.ViewAlone returns true, and its arguments read as they did. No conditions. -/
import Derived.Test.YtelgmmcnopjolaaGo
set_option linter.unusedSimpArgs false
set_option linter.unusedVariables false
namespace Go.Proofs.Ytelgmmcnopjolaa
open Go Go.RowKit Eng

set_option maxRecDepth 100000 in
theorem viewAlone_lifted (os : Os) (started : os.Started) (H : Type) (enc : TypeId × Value → H) :
  ReturnsInHanded {} Try.checked os 12 .any (Rows.viewAloneSpec.pre6 enc Try.prog Try.f12 Rows.viewAloneRow.domain false) (Rows.viewAloneSpec.post enc Try.prog Try.f12 false true false false) := by
 refine lifted_true (C := Try.checked) (boolT := 4) P_own started (by kernel_rfl) Try.func12 P_laid (of_decide_eq_true (by kernel_rfl)) rfl boolUn rfl ?_
  (ChangeSpec.witness6 (enc := enc) (C := Try.checked) false ⟨#[], #[.agg #[.int .i64 0, .int .u64 0, .int .i64 0, .slice none 0 0, .slice none 0 0], .agg #[.int .i64 0, .int .i64 0], .agg #[.int .i64 0, .int .i64 0, .slice none 0 0, .slice none 0 0, .slice none 0 0, .int .i64 0, .int .i64 0, .int .i64 0, .slice none 0 0, .int .i64 0, .slice none 0 0, .bool false]], []⟩ 8 (by kernel_rfl) (by kernel_rfl) (by kernel_rfl) (by kernel_rfl))
  (args_cons ag_world (args_cons ag_2int (args_cons ag_other (args_nil _)))) ?_
 ·intro ds hd
  match ds, hd with
  | [d1, d2, d3], _ => rfl
 ·rintro ⟨w, ⟨i, r⟩, ⟨c, p, _⟩, _⟩ ⟨hw, _, ⟨hc, hp, _⟩, _⟩
  exact aloneV_api w i r c p hw.okW hc.okC hc.fitC hp.okP

theorem viewAlone_holds : Rows.ViewAloneSaid :=
 OpenClaim.holds_of_wide 12 Try.f12 rfl rfl rfl rfl rfl rfl rfl ⟨rfl, rfl, rfl, rfl, rfl⟩ rfl rfl rfl rfl rfl (by kernel_rfl) Try.func12 (by kernel_rfl)
  (of_decide_eq_true (by kernel_rfl)) (by unfold Func.isWrapper; rw [if_neg (of_decide_eq_false (by kernel_rfl))]; exact ⟨rfl, rfl⟩)
  (fun os started H enc _ => viewAlone_lifted os started H enc)

end Go.Proofs.Ytelgmmcnopjolaa
