/- What lies out of reach: plain laws. -/
import Derived.Test.YtkojlembanldcaaGreatGd
import Derived.Test.YtkojlembanldcaaGreatGk
import Derived.Test.YtkojlembanldcaaGreatGg
set_option linter.unusedSimpArgs false
set_option linter.unusedVariables false
set_option maxRecDepth 100000
set_option maxHeartbeats 4000000
namespace Go.Proofs.YtkojlembanldcaaGreat
open Go Go.RowKit Eng
theorem tmod_pos {n s : Int} (h : 1 ≤ s) : (if Int.tmod n s < 0 then Int.tmod n s + s else Int.tmod n s) = n % s:=by
 rw [Int.tmod_eq_emod]
 have h1:=Int.emod_nonneg n (by omega : s ≠ 0)
 have h2:=Int.emod_lt_of_pos n (by omega : 0 < s)
 by_cases hd : 0 ≤ n ∨ s ∣ n
 · rw [if_pos hd];split<;>omega
 · rw [if_neg hd];split<;>omega
theorem tmod_bd {n s : Int} (h : 1 ≤ s) : -s < Int.tmod n s ∧ Int.tmod n s < s:=by
 rw [Int.tmod_eq_emod]
 have h1:=Int.emod_nonneg n (by omega : s ≠ 0)
 have h2:=Int.emod_lt_of_pos n (by omega : 0 < s)
 have h3 : n % s = 0 → s ∣ n:=Int.dvd_of_emod_eq_zero
 by_cases hd : 0 ≤ n ∨ s ∣ n
 · rw [if_pos hd];omega
 · rw [if_neg hd];omega
theorem pick_api (n s : Int) (hs : 1 ≤ s) (hs2 : s ≤ 4611686018427387904) : Api Tryz.prog 23 [i64 n,i64 s] (i64 (n % s)):=by
 have hb:=tmod_bd (n:=n) hs
 have he:=tmod_pos (n:=n) hs
 refine Api.of_fin cfg_ok Tryz.func23 rfl (nt:=14) rfl rfl ?_
 conv=>whnf
 repeat' (first|exact trivial|((first|refine kL ?_|(refine ⟨fun hb=>?_,fun hb=>?_⟩<;>(try simp only [nrm] at hb)<;>(try (first|(exfalso;omega)|contradiction|exact kB hb)))|(refine .inr ⟨(by omega : s ≠ 0),?_⟩)|refine kW cfg_ok ?_|refine kC ?_|refine bdA ?_|refine bd2 ?_|refine bdR ?_|refine bdL ?_)<;>(conv=>whnf))|(refine And.intro ?_ ?_;rotate_left;(conv=>whnf);rotate_right))
open Go Go.RowKit Eng
abbrev dooA (id : Int) (c : Cmd) : AV:=.agg [i64 id,.lit (.int .u8 c.dol),i64 c.a,i64 c.b,i64 c.c,i64 c.n]
structure FarG (w n : Wld) (id : Int) (c : Cmd) (x0 x1 x y e : Int) (P : Player) (B : Bool) (K1 K2 : Chunk) (B1 B2 : Bool) : Prop where
 se : Api Tryz.prog 27 [wldV w] (bol true)
 px : Api Tryz.prog 23 [i64 x0,i64 w.size] (i64 x)
 py : Api Tryz.prog 23 [i64 x1,i64 w.size] (i64 y)
 pl : Api Tryz.prog 29 [wldV w,i64 id] (.tup [playerV P,bol B])
 ap : Api Tryz.prog 30 [wldV w,i64 id,cmdV c] (.tup [wldV n,i64 e])
 ch : Api Tryz.prog 31 [wldV w,i64 x,i64 y] (.tup [chunkV K1,bol B1])
 cn : Api Tryz.prog 31 [wldV n,i64 x,i64 y] (.tup [chunkV K2,bol B2])
 fp : ∀ q ∈ w.players,∃ r,Api Tryz.prog 29 [wldV n,i64 q.id] (.tup [playerV r,bol true]) ∧ (¬ q.id = id → ¬ q.wth = id → ¬ (B = true ∧ P.wth = q.id) → ¬ (c.dol = 11 ∧ c.a = q.id) → r = q)
 sp : ∀ q ∈ w.players,Api Tryz.prog 33 [playerV q,playerV q] (bol true)
theorem farG (w : Wld) (id : Int) (c : Cmd) (x0 x1 : Int) (hg : greatW w = false) (hR : RW w) (hi : id ≤ 9223372036854775807) (hd : 0 ≤ c.dol ∧ c.dol ≤ 255) :
   FarG w (applyW w id c).1 id c x0 x1 (x0 % w.size) (x1 % w.size) (applyW w id c).2 (playerW w id).1 (playerW w id).2 (chunkW w (x0 % w.size) (x1 % w.size)).1 (chunkW (applyW w id c).1 (x0 % w.size) (x1 % w.size)).1 (chunkW w (x0 % w.size) (x1 % w.size)).2 (chunkW (applyW w id c).1 (x0 % w.size) (x1 % w.size)).2:=by
 have hw:=okW_rw hR
 have hsz:=hR.size
 have hn:=apply_rw (id:=id) (c:=c) (rightW_iff.2 hR)
 have hse:=seen16_api w hw
 rw [show (!(greatW w) && rightW w) = true from by rw [hg,rightW_iff.2 hR];rfl] at hse
 refine ⟨hse,pick_api x0 w.size hsz.1 (by omega),pick_api x1 w.size hsz.1 (by omega),wplayer_api w id hw,apply_api w id c hw hi hd,wchunk_api w _ _ hw,wchunk_api _ _ _ (okW_rw hn),fun q hq=>?_,fun q hq=>sameP_self q (okP_sound (hR.players q hq).1)⟩
 obtain ⟨r,e1,e2⟩:=far_player hR id c hq
 have h:=wplayer_api (applyW w id c).1 q.id (okW_rw hn)
 rw [e1] at h
 exact ⟨r,h,fun h1 _ h3 h4=>(e2 h1).2.2 h3 h4⟩
end Go.Proofs.YtkojlembanldcaaGreat
