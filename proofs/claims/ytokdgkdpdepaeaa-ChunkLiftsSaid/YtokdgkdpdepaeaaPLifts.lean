
/- For every chunk, two cells and slots the call of homesteadlaw11.ChunkLifts returns true, and its arguments read as they did. No conditions. -/
import Derived.Test.YtokdgkdpdepaeaaLifts
import Derived.Test.YtokdgkdpdepaeaaFits
set_option linter.unusedSimpArgs false
set_option linter.unusedVariables false
namespace Go.Proofs.Ytokdgkdpdepaeaa
open Go Go.RowKit Eng

set_option maxRecDepth 100000 in
theorem chunkLifts_lifted (os : Os) (started : os.Started) (H : Type) (enc : TypeId × Value → H) :
    ReturnsInHanded {} Try.checked os 6 .any (Rows.chunkLiftsSpec.pre6 enc Try.prog Try.f6 Rows.chunkLiftsRow.domain false) (Rows.chunkLiftsSpec.post enc Try.prog Try.f6 false true false false) := by
  refine lifted_true (C := Try.checked) (boolT := 4) P_own started (by kernel_rfl) Try.func6 P_laid (of_decide_eq_true (by kernel_rfl)) rfl boolUn rfl ?_
    (ChangeSpec.witness6 (enc := enc) (C := Try.checked) false ⟨#[], #[.agg #[.int .i64 0, .int .i64 0, .slice none 0 0, .slice none 0 0, .slice none 0 0], .agg #[.int .i64 0, .int .i64 0], .slice none 0 0], []⟩ 8 (by kernel_rfl) (by kernel_rfl) (by kernel_rfl) (by kernel_rfl))
    (args_cons ag_chunk (args_cons ag_2int (args_cons ag_slots (args_nil _)))) ?_
  · intro ds hd
    match ds, hd with
    | [d1, d2, d3], _ => rfl
  · rintro ⟨c, x, l, _⟩ ⟨hc, hx, hl, _⟩
    exact lifts_api c x.1 x.2 l hc.okC hl.2 (fun s hs => (hl.1 s hs).1)

theorem chunkLifts_holds : Rows.ChunkLiftsSaid :=
  OpenClaim.holds_of_wide 6 Try.f6 rfl rfl rfl rfl rfl rfl rfl ⟨rfl, rfl, rfl, rfl, rfl⟩ rfl rfl rfl rfl rfl (by kernel_rfl) Try.func6 (by kernel_rfl)
    (of_decide_eq_true (by kernel_rfl)) (by unfold Func.isWrapper; rw [if_neg (of_decide_eq_false (by kernel_rfl))]; exact ⟨rfl, rfl⟩)
    (fun os started H enc _ => chunkLifts_lifted os started H enc)

end Go.Proofs.Ytokdgkdpdepaeaa
