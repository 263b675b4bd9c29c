import Derived.Test.YtdbnihckckekcaaReads
import Derived.Test.YtdbnihckckekcaaPlayer
import Derived.Test.YtdbnihckckekcaaTTells

/- From how a player reads to what its contracts ask. -/
set_option linter.unusedSimpArgs false
set_option linter.unusedVariables false
namespace Go.Proofs.Ytdbnihckckekcaa
open Go Go.RowKit Eng
theorem FitPlayer.okP {p : Player} (h : FitPlayer p) : OkP p := ⟨fun s hs => (h.bag s hs).1, fun s hs => (h.offer s hs).1, h.nb, h.no⟩
end Go.Proofs.Ytdbnihckckekcaa


/- For every two players and steps the call of homesteadlaw14.TradeTells returns true, and its arguments read as they did. No conditions. -/
set_option linter.unusedSimpArgs false
set_option linter.unusedVariables false
namespace Go.Proofs.Ytdbnihckckekcaa
open Go Go.RowKit Eng

set_option maxRecDepth 100000 in
theorem tradeTells_lifted (os : Os) (started : os.Started) (H : Type) (enc : TypeId × Value → H) :
    ReturnsInHanded {} Try.checked os 4 .any (Rows.tradeTellsSpec.pre6 enc Try.prog Try.f4 Rows.tradeTellsRow.domain false) (Rows.tradeTellsSpec.post enc Try.prog Try.f4 false true false false) := by
  refine lifted_true (C := Try.checked) (boolT := 4) P_own started (by kernel_rfl) Try.func4 P_laid (of_decide_eq_true (by kernel_rfl)) rfl boolUn rfl ?_
    (ChangeSpec.witness6 (enc := enc) (C := Try.checked) false ⟨#[], #[.agg #[.int .i64 0, .int .i64 0, .int .i64 0, .slice none 0 0, .int .i64 0, .slice none 0 0, .bool false], .agg #[.int .i64 0, .int .i64 0, .int .i64 0, .slice none 0 0, .int .i64 0, .slice none 0 0, .bool false], .slice none 0 0], []⟩ 8 (by kernel_rfl) (by kernel_rfl) (by kernel_rfl) (by kernel_rfl))
    (args_cons ag_player (args_cons ag_player (args_cons ag_steps (args_nil _)))) ?_
  · intro ds hd
    match ds, hd with
    | [d1, d2, d3], _ => rfl
  · rintro ⟨p, q, l, _⟩ ⟨hp, hq, hl, _⟩
    exact tells_api p q l hp.okP hq.okP (by have h : l.length * 32 ≤ 140737488351232 := hl.2; omega)

theorem tradeTells_holds : Rows.TradeTellsSaid :=
  OpenClaim.holds_of_wide 4 Try.f4 rfl rfl rfl rfl rfl rfl rfl ⟨rfl, rfl, rfl, rfl, rfl⟩ rfl rfl rfl rfl rfl (by kernel_rfl) Try.func4 (by kernel_rfl)
    (of_decide_eq_true (by kernel_rfl)) (by unfold Func.isWrapper; rw [if_neg (of_decide_eq_false (by kernel_rfl))]; exact ⟨rfl, rfl⟩)
    (fun os started H enc _ => tradeTells_lifted os started H enc)

end Go.Proofs.Ytdbnihckckekcaa
