/- For every chunk and every case the call of homesteadlaw11.ChunkBack returns true, and its arguments read as they did. No conditions. -/
import Derived.Test.YtaecchphjploaaaRs
import Derived.Test.YtaecchphjploaaaGu
set_option linter.unusedSimpArgs false
set_option linter.unusedVariables false
namespace Go.Proofs.Ytaecchphjploaaa
open Go Go.RowKit Eng

set_option maxRecDepth 100000 in
theorem chunkBack_lifted (os : Os) (started : os.Started) (H : Type) (enc : TypeId × Value → H) :
    ReturnsInHanded {} Try.checked os 3 .any (Rows.chunkBackSpec.pre6 enc Try.prog Try.f3 Rows.chunkBackRow.domain false) (Rows.chunkBackSpec.post enc Try.prog Try.f3 false true false false) := by
  refine lifted_true (C := Try.checked) (boolT := 4) P_own started (by kernel_rfl) Try.func3 P_laid (of_decide_eq_true (by kernel_rfl)) rfl boolUn rfl ?_
    (ChangeSpec.witness6 (enc := enc) (C := Try.checked) false ⟨#[], #[.agg #[.int .i64 0, .int .i64 0, .slice none 0 0, .slice none 0 0, .slice none 0 0], .agg #[.int .i64 0, .int .u8 0, .int .u8 0, .int .i64 0, .slice none 0 0, .slice none 0 0]], []⟩ 8 (by kernel_rfl) (by kernel_rfl) (by kernel_rfl) (by kernel_rfl))
    (args_cons ag_chunk (args_cons ag_case11 (args_nil _))) ?_
  · intro ds hd
    match ds, hd with
    | [d1, d2], _ => rfl
  · rintro ⟨c, ⟨cell, item, s, bag, bs, _⟩, _⟩ ⟨hc, ⟨hcell, hitem, hs, hbag, hbs, _⟩, _⟩
    exact cback_api c hc.okC hc.fitC cell item s.item s.n bag bs hitem hs.1 (fun s hs => (hbag.1 s hs).1) hbs.1

theorem chunkBack_holds : Rows.ChunkBackSaid :=
  OpenClaim.holds_of_wide 3 Try.f3 rfl rfl rfl rfl rfl rfl rfl ⟨rfl, rfl, rfl, rfl, rfl⟩ rfl rfl rfl rfl rfl (by kernel_rfl) Try.func3 (by kernel_rfl)
    (of_decide_eq_true (by kernel_rfl)) (by unfold Func.isWrapper; rw [if_neg (of_decide_eq_false (by kernel_rfl))]; exact ⟨rfl, rfl⟩)
    (fun os started H enc _ => chunkBack_lifted os started H enc)

end Go.Proofs.Ytaecchphjploaaa
