/- homesteadlaw13.WorldPuts: plain laws. -/
import Derived.Test.YtaecchphjploaaaGreatKg
import Derived.Test.YtaecchphjploaaaGreatKd
set_option linter.unusedSimpArgs false
set_option linter.unusedVariables false
set_option maxRecDepth 100000
set_option maxHeartbeats 16000000
namespace Go.Proofs.YtaecchphjploaaaGreat
open Go Go.RowKit Eng
theorem set_num (w : Wld) (p : Player) : 0 ≤ (setW w p).2 ∧ (setW w p).2 ≤ 113:=by
 rcases set_err w p with ⟨_,h⟩|⟨_,⟨h,_⟩|⟨h,_⟩|⟨h,_⟩⟩<;>omega
open Go Go.RowKit Eng
theorem tmod_pos {n s : Int} (h : 1 ≤ s) : (if Int.tmod n s < 0 then Int.tmod n s + s else Int.tmod n s) = n % s:=by
 rw [Int.tmod_eq_emod]
 have h1:=Int.emod_nonneg n (by omega : s ≠ 0)
 have h2:=Int.emod_lt_of_pos n (by omega : 0 < s)
 by_cases hd : 0 ≤ n ∨ s ∣ n
 · rw [if_pos hd];split<;>omega
 · rw [if_neg hd];split<;>omega
theorem tmod_bd {n s : Int} (h : 1 ≤ s) : -s < Int.tmod n s ∧ Int.tmod n s < s:=by
 rw [Int.tmod_eq_emod]
 have h1:=Int.emod_nonneg n (by omega : s ≠ 0)
 have h2:=Int.emod_lt_of_pos n (by omega : 0 < s)
 have h3 : n % s = 0 → s ∣ n:=Int.dvd_of_emod_eq_zero
 by_cases hd : 0 ≤ n ∨ s ∣ n
 · rw [if_pos hd];omega
 · rw [if_neg hd];omega
theorem pick_api (n s : Int) (hs : 1 ≤ s) (hs2 : s ≤ 4611686018427387904) : Api Tryz.prog 46 [i64 n,i64 s] (i64 (n % s)):=by
 have hb:=tmod_bd (n:=n) hs
 have he:=tmod_pos (n:=n) hs
 refine Api.of_fin cfg_ok Tryz.func46 rfl (nt:=14) rfl rfl ?_
 conv=>whnf
 repeat' (first|exact trivial|((first|refine kL ?_|(refine ⟨fun hb=>?_,fun hb=>?_⟩<;>(try simp only [nrm] at hb)<;>(try (first|(exfalso;omega)|contradiction|exact kB hb)))|(refine .inr ⟨(by omega : s ≠ 0),?_⟩)|refine kW cfg_ok ?_|refine kC ?_|refine bdA ?_|refine bd2 ?_|refine bdR ?_|refine bdL ?_)<;>(conv=>whnf))|(refine And.intro ?_ ?_;rotate_left;(conv=>whnf);rotate_right))
end Go.Proofs.YtaecchphjploaaaGreat
