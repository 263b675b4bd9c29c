/- For every chunk, two cells and two items the call of homesteadlaw11.ChunkSets returns true, and its arguments read as they did. No conditions. -/
import Derived.Test.YtokdgkdpdepaeaaSets
import Derived.Test.YtokdgkdpdepaeaaFits
set_option linter.unusedSimpArgs false
set_option linter.unusedVariables false
namespace Go.Proofs.Ytokdgkdpdepaeaa
open Go Go.RowKit Eng

set_option maxRecDepth 100000 in
theorem chunkSets_lifted (os : Os) (started : os.Started) (H : Type) (enc : TypeId × Value → H) :
    ReturnsInHanded {} Try.checked os 3 .any (Rows.chunkSetsSpec.pre6 enc Try.prog Try.f3 Rows.chunkSetsRow.domain false) (Rows.chunkSetsSpec.post enc Try.prog Try.f3 false true false false) := by
  refine lifted_true (C := Try.checked) (boolT := 4) P_own started (by kernel_rfl) Try.func3 P_laid (of_decide_eq_true (by kernel_rfl)) rfl boolUn rfl ?_
    (ChangeSpec.witness6 (enc := enc) (C := Try.checked) false ⟨#[], #[.agg #[.int .i64 0, .int .i64 0, .slice none 0 0, .slice none 0 0, .slice none 0 0], .agg #[.int .i64 0, .int .i64 0], .agg #[.int .u8 0, .int .u8 0]], []⟩ 8 (by kernel_rfl) (by kernel_rfl) (by kernel_rfl) (by kernel_rfl))
    (args_cons ag_chunk (args_cons ag_2int (args_cons ag_2u8 (args_nil _)))) ?_
  · intro ds hd
    match ds, hd with
    | [d1, d2, d3], _ => rfl
  · rintro ⟨c, x, i, _⟩ ⟨hc, hx, hi, _⟩
    exact sets_api c x.1 x.2 i.1 i.2 hc.okC hi.1.1 hi.1.2 hi.2.1 hi.2.2

theorem chunkSets_holds : Rows.ChunkSetsSaid :=
  OpenClaim.holds_of_wide 3 Try.f3 rfl rfl rfl rfl rfl rfl rfl ⟨rfl, rfl, rfl, rfl, rfl⟩ rfl rfl rfl rfl rfl (by kernel_rfl) Try.func3 (by kernel_rfl)
    (of_decide_eq_true (by kernel_rfl)) (by unfold Func.isWrapper; rw [if_neg (of_decide_eq_false (by kernel_rfl))]; exact ⟨rfl, rfl⟩)
    (fun os started H enc _ => chunkSets_lifted os started H enc)

end Go.Proofs.Ytokdgkdpdepaeaa
