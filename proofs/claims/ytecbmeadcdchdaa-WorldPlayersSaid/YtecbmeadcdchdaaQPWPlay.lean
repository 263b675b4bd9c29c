/- For any number and any Ids the call of homesteadlaw13.WorldPlayers returns true, and its arguments read as they did. No conditions. -/
import Derived.Test.YtecbmeadcdchdaaGp
set_option linter.unusedSimpArgs false
set_option linter.unusedVariables false
namespace Go.Proofs.Ytecbmeadcdchdaa
open Go Go.RowKit Eng

set_option maxRecDepth 100000 in
theorem worldPlayers_lifted (os : Os) (started : os.Started) (H : Type) (enc : TypeId × Value → H) :
    ReturnsInHanded {} Try.checked os 3 .any (Rows.worldPlayersSpec.pre6 enc Try.prog Try.f3 Rows.worldPlayersRow.domain false) (Rows.worldPlayersSpec.post enc Try.prog Try.f3 false true false false) := by
  refine lifted_true (C := Try.checked) (boolT := 4) P_own started (by kernel_rfl) Try.func3 P_laid (of_decide_eq_true (by kernel_rfl)) rfl boolUn rfl ?_
    (ChangeSpec.witness6 (enc := enc) (C := Try.checked) false ⟨#[], #[.int .u8 0, .slice none 0 0], []⟩ 8 (by kernel_rfl) (by kernel_rfl) (by kernel_rfl) (by kernel_rfl))
    (args_cons ag_u8 (args_cons ag_nums (args_nil _))) ?_
  · intro ds hd
    match ds, hd with
    | [d1, d2], _ => rfl
  · rintro ⟨b, l, _⟩ ⟨hb, hl, _⟩
    exact wplay_api b hb l (Nat.le_trans (Nat.le_of_eq (Nat.mul_one l.length).symm) (Nat.le_trans (Nat.mul_le_mul_left l.length (by decide : 1 ≤ 8)) (Nat.le_trans hl.2 (by decide))))

theorem worldPlayers_holds : Rows.WorldPlayersSaid :=
  OpenClaim.holds_of_wide 3 Try.f3 rfl rfl rfl rfl rfl rfl rfl ⟨rfl, rfl, rfl, rfl, rfl⟩ rfl rfl rfl rfl rfl (by kernel_rfl) Try.func3 (by kernel_rfl)
    (of_decide_eq_true (by kernel_rfl)) (by unfold Func.isWrapper; rw [if_neg (of_decide_eq_false (by kernel_rfl))]; exact ⟨rfl, rfl⟩)
    (fun os started H enc _ => worldPlayers_lifted os started H enc)

end Go.Proofs.Ytecbmeadcdchdaa
