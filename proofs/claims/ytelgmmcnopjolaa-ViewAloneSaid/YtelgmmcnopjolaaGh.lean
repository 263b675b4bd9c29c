/- homesteadlaw13.WorldPuts. -/
import Derived.Test.YtelgmmcnopjolaaGg
set_option linter.unusedSimpArgs false
set_option linter.unusedVariables false
set_option maxRecDepth 100000
set_option maxHeartbeats 16000000
namespace Go.Proofs.Ytelgmmcnopjolaa
open Go Go.RowKit Eng
theorem put_num (w : Wld) (c : Chunk) : 0 ≤ (putW w c).2 ∧ (putW w c).2 ≤ 113:=by
 rcases put_err w c with ⟨_,_,_,h⟩|⟨_,⟨h,_⟩|⟨h,_⟩⟩<;>omega
theorem set_num (w : Wld) (p : Player) : 0 ≤ (setW w p).2 ∧ (setW w p).2 ≤ 113:=by
 rcases set_err w p with ⟨_,h⟩|⟨_,⟨h,_⟩|⟨h,_⟩|⟨h,_⟩⟩<;>omega
theorem put_ok {w : Wld} {c : Chunk} (h : (putW w c).2 = 0) : RW w ∧ rightB c = true ∧ max c.x c.y < w.size:=by
 rcases put_err w c with ⟨h1,h2,h3,_⟩|⟨_,⟨h1,_⟩|⟨h1,_⟩⟩
 ·exact ⟨h1,h2,h3⟩
 all_goals omega
theorem set_ok {w : Wld} {p : Player} (h : (setW w p).2 = 0) : setOk w p:=by
 rcases set_err w p with ⟨h1,_⟩|⟨_,⟨h1,_⟩|⟨h1,_⟩|⟨h1,_⟩⟩
 ·exact h1
 all_goals omega
end Go.Proofs.Ytelgmmcnopjolaa
