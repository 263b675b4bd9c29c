/- Closures as results; contracts of view. -/
import Derived.Test.YtaecchphjploaaaGreatGg
import Derived.Test.YtaecchphjploaaaGreatGc
import Derived.Test.YtaecchphjploaaaGreatGe
set_option linter.unusedSimpArgs false
set_option linter.unusedVariables false
set_option maxRecDepth 100000
set_option maxHeartbeats 16000000
namespace Go.Proofs.YtaecchphjploaaaGreat
open Go Go.RowKit Eng
def zeroP : Player:=⟨0,0,0,[],0,[],false⟩
def playerW (w : Wld) (id : Int) : Player × Bool:=
 if rightW w = false then (zeroP,false) else match getK pid w.players id with
   | some p=>(p,true)
   | none=>(zeroP,false)
theorem wplayer_api (w : Wld) (id : Int) (hw : OkW w) : Api Tryz.prog 26 [wldV w,i64 id] (.tup [playerV (playerW w id).1,bol (playerW w id).2]):=by
 have hnp:=hw.np
 have hrt:=rightW_api w hw
 have hsk:=seek_api w id (by omega)
 cases hR : rightW w with
 | false =>
   rw [hR] at hrt
   have hs : playerW w id = (zeroP,false):=by unfold playerW;rw [if_pos hR]
   rw [hs]
   refine Api.of_fin cfg_ok Tryz.func26 rfl (nt:=25) rfl rfl ?_
   conv=>whnf
   repeat' (first|exact trivial|((first|refine kL ?_|(refine ⟨fun hb=>?_,fun hb=>?_⟩<;>(try simp only [nrm] at hb)<;>(try (first|(exfalso;omega)|contradiction|exact kB hb)))|refine kA hrt ?_|refine kD hrt ?_|refine kA hsk ?_|refine kD hsk ?_|refine kW cfg_ok ?_|refine kC ?_|refine bdA ?_|refine bd2 ?_|refine bdR ?_|refine bdL ?_)<;>(conv=>whnf))|(refine And.intro ?_ ?_;rotate_left;(conv=>whnf);rotate_right))
   all_goals first|rfl|trace_state
 | true =>
   rw [hR] at hrt
   obtain ⟨hri,_,_,_⟩:=rightW_players hR
   obtain ⟨e1,e2⟩:=bsP_rises hri id
   rw [e1,e2] at hsk
   cases hg : getK pid w.players id with
   | none =>
     rw [hg] at hsk
     have hs : playerW w id = (zeroP,false):=by unfold playerW;rw [if_neg (by rw [hR];simp),hg]
     rw [hs]
     refine Api.of_fin cfg_ok Tryz.func26 rfl (nt:=25) rfl rfl ?_
     conv=>whnf
     repeat' (first|exact trivial|((first|refine kL ?_|(refine ⟨fun hb=>?_,fun hb=>?_⟩<;>(try simp only [nrm] at hb)<;>(try (first|(exfalso;omega)|contradiction|exact kB hb)))|refine kA hrt ?_|refine kD hrt ?_|refine kA hsk ?_|refine kD hsk ?_|refine kW cfg_ok ?_|refine kC ?_|refine bdA ?_|refine bd2 ?_|refine bdR ?_|refine bdL ?_)<;>(conv=>whnf))|(refine And.intro ?_ ?_;rotate_left;(conv=>whnf);rotate_right))
     all_goals first|rfl|trace_state
   | some p =>
     rw [hg] at hsk
     have hs : playerW w id = (p,true):=by unfold playerW;rw [if_neg (by rw [hR];simp),hg]
     rw [hs]
     obtain ⟨h1,h2⟩:=lbK_lt hri hg
     have h3 : elt .player w.players (lbK pid id w.players) = p:=by
       have:=elt_get .player w.players _ h1
       rw [h2] at this
       exact (Option.some.inj this).symm
     have hal:=alone_api p (hw.players p (getK_mem hg).1)
     generalize lbK pid id w.players = at_ at *
     subst h3
     refine Api.of_fin cfg_ok Tryz.func26 rfl (nt:=25) rfl rfl ?_
     conv=>whnf
     repeat' (first|exact trivial|((first|refine kL ?_|(refine ⟨fun hb=>?_,fun hb=>?_⟩<;>(try simp only [nrm] at hb)<;>(try (first|(exfalso;omega)|contradiction|exact kB hb)))|refine kA hrt ?_|refine kD hrt ?_|refine kA hsk ?_|refine kD hsk ?_|refine kA hal ?_|refine kD hal ?_|refine kW cfg_ok ?_|refine kC ?_|refine bdA ?_|refine bd2 ?_|refine bdR ?_|refine bdL ?_)<;>(conv=>whnf))|(refine And.intro ?_ ?_;rotate_left;(conv=>whnf);rotate_right))
     all_goals first|omega|rfl|trace_state
open Go Go.RowKit Eng
abbrev viewV (v : Viw) : AV:=.agg [i64 v.tick,i64 v.me.id,i64 v.me.x,i64 v.me.y,.vec .slot v.me.bag,i64 v.me.wth,.vec .slot v.me.offer,bol v.me.agrees,.vec .chunk v.chunks,.vec .seen v.others]
open Go Go.RowKit Eng
def subK {α κ : Type} (key : α → κ) (A B : List α) (k i : Nat) : Prop:=k ≤ A.length ∧ ((A.drop k).map key).Sublist ((B.drop i).map key)
theorem sub_zero {α κ : Type} {key : α → κ} {A B : List α} (h : A.Sublist B) : subK key A B 0 0:=⟨by omega,h.map _⟩
open Go Go.RowKit Eng
end Go.Proofs.YtaecchphjploaaaGreat
