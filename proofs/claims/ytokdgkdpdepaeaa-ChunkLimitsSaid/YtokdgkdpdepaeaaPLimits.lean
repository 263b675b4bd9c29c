/- For every n, slot and cell the call of homesteadlaw11.ChunkLimits returns true, and its arguments read as they did. No conditions. -/
import Derived.Test.YtokdgkdpdepaeaaLimits
import Derived.Test.YtokdgkdpdepaeaaReads
set_option linter.unusedSimpArgs false
set_option linter.unusedVariables false
namespace Go.Proofs.Ytokdgkdpdepaeaa
open Go Go.RowKit Eng

set_option maxRecDepth 100000 in
theorem chunkLimits_lifted (os : Os) (started : os.Started) (H : Type) (enc : TypeId × Value → H) :
    ReturnsInHanded {} Try.checked os 5 .any (Rows.chunkLimitsSpec.pre6 enc Try.prog Try.f5 Rows.chunkLimitsRow.domain false) (Rows.chunkLimitsSpec.post enc Try.prog Try.f5 false true false false) := by
  refine lifted_true (C := Try.checked) (boolT := 4) P_own started (by kernel_rfl) Try.func5 P_laid (of_decide_eq_true (by kernel_rfl)) rfl boolUn rfl ?_
    (ChangeSpec.witness6 (enc := enc) (C := Try.checked) false ⟨#[], #[.int .u8 0, .agg #[.int .u8 0, .int .i64 0], .int .i64 0], []⟩ 8 (by kernel_rfl) (by kernel_rfl) (by kernel_rfl) (by kernel_rfl))
    (args_cons ag_u8 (args_cons ag_slot (args_cons ag_int (args_nil _)))) ?_
  · intro ds hd
    match ds, hd with
    | [d1, d2, d3], _ => rfl
  · rintro ⟨b, s, cell, _⟩ ⟨hb, hs, hc, _⟩
    exact limits_api b cell s hb.1 hb.2 hs.1

theorem chunkLimits_holds : Rows.ChunkLimitsSaid :=
  OpenClaim.holds_of_wide 5 Try.f5 rfl rfl rfl rfl rfl rfl rfl ⟨rfl, rfl, rfl, rfl, rfl⟩ rfl rfl rfl rfl rfl (by kernel_rfl) Try.func5 (by kernel_rfl)
    (of_decide_eq_true (by kernel_rfl)) (by unfold Func.isWrapper; rw [if_neg (of_decide_eq_false (by kernel_rfl))]; exact ⟨rfl, rfl⟩)
    (fun os started H enc _ => chunkLimits_lifted os started H enc)

end Go.Proofs.Ytokdgkdpdepaeaa
