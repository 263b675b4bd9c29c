/- homesteadlaw16.RulesKeep. -/
import Derived.Test.YtkojlembanldcaaGreatGk
import Derived.Test.YtkojlembanldcaaGreatRb
set_option linter.unusedSimpArgs false
set_option linter.unusedVariables false
set_option maxRecDepth 100000
set_option maxHeartbeats 16000000
namespace Go.Proofs.YtkojlembanldcaaGreat
open Go Go.RowKit Eng
theorem deltas_len (w : Wld) (id : Int) (c : Cmd) : (deltasW w id c).length = 13:=by
 unfold deltasW
 split
 ·rfl
 split
 ·rw [addAt_len];rfl
 split
 ·rw [addAt_len];rfl
 split
 ·rw [addAt_len];rfl
 split
 ·cases recipeN c.c with
  | none=>rfl
  | some r=>obtain ⟨W,M⟩:=r;dsimp only;rw [addAt_len,subAll_len];rfl
 ·rfl
end Go.Proofs.YtkojlembanldcaaGreat
