/- homesteadlaw16.RulesApart. -/
import Derived.Test.YtkojlembanldcaaGreatGk
import Derived.Test.YtkojlembanldcaaGreatRf
set_option linter.unusedSimpArgs false
set_option linter.unusedVariables false
set_option maxRecDepth 100000
set_option maxHeartbeats 4000000
namespace Go.Proofs.YtkojlembanldcaaGreat
open Go Go.RowKit Eng
theorem player_bd {w : Wld} (hR : RW w) (id : Int) : 0 ≤ (playerW w id).1.x ∧ (playerW w id).1.x ≤ 200 ∧ 0 ≤ (playerW w id).1.y ∧ (playerW w id).1.y ≤ 200:=by
 rw [playerW_get hR]
 have hs:=hR.size
 cases hg : getK pid w.players id with
 | none=>exact ⟨by decide,by decide,by decide,by decide⟩
 | some p =>
   have h:=(within_iff hR).1 (hR.players p (getK_mem hg).1).2
   dsimp only
   omega
theorem rapart_api (w : Wld) (ia ib : Int) (a b : Cmd) (hw : OkW w) (hi : ia ≤ 9223372036854775807) (hj : ib ≤ 9223372036854775807) (hd : 0 ≤ a.dol ∧ a.dol ≤ 255) (hd2 : 0 ≤ b.dol ∧ b.dol ≤ 255) : Api Tryz.prog 6 [wldV w,.agg [i64 ia,.lit (.int .u8 a.dol),i64 a.a,i64 a.b,i64 a.c,i64 a.n],.agg [i64 ib,.lit (.int .u8 b.dol),i64 b.a,i64 b.b,i64 b.c,i64 b.n]] (bol true):=by
 have hse:=seen16_api w hw
 have haw:=awake16_api
 cases hS : (!(greatW w) && rightW w) with
 | false =>
   rw [hS] at hse
   refine Api.of_fin cfg_ok Tryz.func6 rfl (nt:=147) rfl rfl ?_
   ((try with_reducible refine evCut fun N hN hE hT=>?_);(conv=>whnf))
   repeat' (first|exact trivial|((first|((first|refine hT _ _ ?_|refine hE _ _ _ ?_|refine hN _ _ ?_);clear hN hE hT)|refine kL ?_|(refine ⟨fun hb=>?_,fun hb=>?_⟩<;>(try simp only [nrm] at hb)<;>(try (first|(exfalso;omega)|contradiction|exact kB hb)))|refine kA hse ?_|refine kD hse ?_|refine kA haw ?_|refine kD haw ?_|refine kW cfg_ok ?_|refine kC ?_|refine bdA ?_|refine bd2 ?_|refine bdR ?_|refine bdL ?_)<;>((try with_reducible refine evCut fun N hN hE hT=>?_);(conv=>whnf)))|(refine And.intro ?_ ?_;rotate_left;(conv=>whnf);rotate_right))
   all_goals first|rfl|omega|trace_state
 | true =>
   rw [hS] at hse
   rw [Bool.and_eq_true] at hS
   have hR:=rightW_iff.1 hS.2
   have hsz:=hR.size
   by_cases hid : ia = ib
   · skip
     refine Api.of_fin cfg_ok Tryz.func6 rfl (nt:=147) rfl rfl ?_
     ((try with_reducible refine evCut fun N hN hE hT=>?_);(conv=>whnf))
     repeat' (first|exact trivial|((first|((first|refine hT _ _ ?_|refine hE _ _ _ ?_|refine hN _ _ ?_);clear hN hE hT)|refine kL ?_|(refine ⟨fun hb=>?_,fun hb=>?_⟩<;>(try simp only [nrm] at hb)<;>(try (first|(exfalso;omega)|contradiction|exact kB hb)))|refine kA hse ?_|refine kD hse ?_|refine kA haw ?_|refine kD haw ?_|refine kW cfg_ok ?_|refine kC ?_|refine bdA ?_|refine bd2 ?_|refine bdR ?_|refine bdL ?_)<;>((try with_reducible refine evCut fun N hN hE hT=>?_);(conv=>whnf)))|(refine And.intro ?_ ?_;rotate_left;(conv=>whnf);rotate_right))
     all_goals first|rfl|omega|trace_state
   · have hp1:=wplayer_api w ia hw
     have hp2:=wplayer_api w ib hw
     have hA:=apply_api w ia a hw hi hd
     have hB:=apply_api w ib b hw hj hd2
     have rA:=apply_rw (id:=ia) (c:=a) hS.2
     have rB:=apply_rw (id:=ib) (c:=b) hS.2
     have hA2:=apply_api (applyW w ia a).1 ib b (okW_rw rA) hj hd2
     have hB2:=apply_api (applyW w ib b).1 ia a (okW_rw rB) hi hd
     have rA2:=apply_rw (id:=ib) (c:=b) (rightW_iff.2 rA)
     have hsm:=sameW_self (applyW (applyW w ia a).1 ib b).1 (okW_rw rA2)
     have hsg:=sameW_api (applyW (applyW w ia a).1 ib b).1 (applyW (applyW w ib b).1 ia a).1 (okW_rw rA2)
     have hh1 : (playerW w ia).2 = true → Here w (playerW w ia).1 ∧ (playerW w ia).1.id = ia:=here_of hR
     have hh2 : (playerW w ib).2 = true → Here w (playerW w ib).1 ∧ (playerW w ib).1.id = ib:=here_of hR
     have hq1:=player_bd hR ia
     have hq2:=player_bd hR ib
     generalize playerW w ia = PA at *
     generalize playerW w ib = PB at *
     obtain ⟨P,BA⟩:=PA
     obtain ⟨Q,BB⟩:=PB
     dsimp only at *
     cases BA with
     | false =>
       clear hsm hsg hA2 hB2
       refine Api.of_fin cfg_ok Tryz.func6 rfl (nt:=147) rfl rfl ?_
       ((try with_reducible refine evCut fun N hN hE hT=>?_);(conv=>whnf))
       repeat' (first|exact trivial|((first|((first|refine hT _ _ ?_|refine hE _ _ _ ?_|refine hN _ _ ?_);clear hN hE hT)|refine kL ?_|(refine ⟨fun hb=>?_,fun hb=>?_⟩<;>(try simp only [nrm] at hb)<;>(try (first|(exfalso;omega)|contradiction|exact kB hb)))|refine kA hse ?_|refine kD hse ?_|refine kA haw ?_|refine kD haw ?_|refine kA hp1 ?_|refine kD hp1 ?_|refine kA hp2 ?_|refine kD hp2 ?_|refine kW cfg_ok ?_|refine kC ?_|refine bdA ?_|refine bd2 ?_|refine bdR ?_|refine bdL ?_)<;>((try with_reducible refine evCut fun N hN hE hT=>?_);(conv=>whnf)))|(refine And.intro ?_ ?_;rotate_left;(conv=>whnf);rotate_right))
       all_goals first|rfl|omega|trace_state
     | true =>
       cases BB with
       | false =>
         clear hsm hsg hA2 hB2
         refine Api.of_fin cfg_ok Tryz.func6 rfl (nt:=147) rfl rfl ?_
         ((try with_reducible refine evCut fun N hN hE hT=>?_);(conv=>whnf))
         repeat' (first|exact trivial|((first|((first|refine hT _ _ ?_|refine hE _ _ _ ?_|refine hN _ _ ?_);clear hN hE hT)|refine kL ?_|(refine ⟨fun hb=>?_,fun hb=>?_⟩<;>(try simp only [nrm] at hb)<;>(try (first|(exfalso;omega)|contradiction|exact kB hb)))|refine kA hse ?_|refine kD hse ?_|refine kA haw ?_|refine kD haw ?_|refine kA hp1 ?_|refine kD hp1 ?_|refine kA hp2 ?_|refine kD hp2 ?_|refine kW cfg_ok ?_|refine kC ?_|refine bdA ?_|refine bd2 ?_|refine bdR ?_|refine bdL ?_)<;>((try with_reducible refine evCut fun N hN hE hT=>?_);(conv=>whnf)))|(refine And.intro ?_ ?_;rotate_left;(conv=>whnf);rotate_right))
         all_goals first|rfl|omega|trace_state
       | true =>
         obtain ⟨g1,e1⟩:=hh1 rfl
         obtain ⟨g2,e2⟩:=hh2 rfl
         have b1:=(within_iff hR).1 g1.sound.2
         have b2:=(within_iff hR).1 g2.sound.2
         by_cases hc : (24 < P.x - Q.x ∨ 24 < Q.x - P.x ∨ 24 < P.y - Q.y ∨ 24 < Q.y - P.y) ∧ ¬ a.dol = 11 ∧ ¬ b.dol = 11 ∧ P.wth = -1 ∧ Q.wth = -1
         · have hf : farP P Q:=by unfold farP;omega
           have hlaw:=apart_law (a:=a) (b:=b) g1 g2 (by rw [e1,e2];exact hid) hf hc.2.1 hc.2.2.1 hc.2.2.2.1 hc.2.2.2.2
           rw [e1,e2] at hlaw
           rw [← hlaw.1,← hlaw.2.2] at hB2
           rw [hlaw.2.1] at hA2
           clear hlaw hsg hh1 hh2
           generalize (applyW (applyW w ia a).1 ib b).1 = X at *
           generalize applyW w ia a = RA at *
           generalize applyW w ib b = RB at *
           obtain ⟨RA1,RA2⟩:=RA
           obtain ⟨RB1,RB2⟩:=RB
           dsimp only at *
           refine Api.of_fin cfg_ok Tryz.func6 rfl (nt:=147) rfl rfl ?_
           ((try with_reducible refine evCut fun N hN hE hT=>?_);(conv=>whnf))
           repeat' (first|exact trivial|((first|((first|refine hT _ _ ?_|refine hE _ _ _ ?_|refine hN _ _ ?_);clear hN hE hT)|refine kL ?_|(refine ⟨fun hb=>?_,fun hb=>?_⟩<;>(try simp only [nrm] at hb)<;>(try (first|(exfalso;omega)|contradiction|exact kB hb)))|refine kA hse ?_|refine kD hse ?_|refine kA haw ?_|refine kD haw ?_|refine kA hp1 ?_|refine kD hp1 ?_|refine kA hp2 ?_|refine kD hp2 ?_|refine kA hA ?_|refine kD hA ?_|refine kA hA2 ?_|refine kD hA2 ?_|refine kA hB ?_|refine kD hB ?_|refine kA hB2 ?_|refine kD hB2 ?_|refine kA hsm ?_|refine kD hsm ?_|refine kW cfg_ok ?_|refine kC ?_|refine bdA ?_|refine bd2 ?_|refine bdR ?_|refine bdL ?_)<;>((try with_reducible refine evCut fun N hN hE hT=>?_);(conv=>whnf)))|(refine And.intro ?_ ?_;rotate_left;(conv=>whnf);rotate_right))
           all_goals first|rfl|omega|trace_state
         · clear hsm hsg hA2 hB2 hh1 hh2
           refine Api.of_fin cfg_ok Tryz.func6 rfl (nt:=147) rfl rfl ?_
           ((try with_reducible refine evCut fun N hN hE hT=>?_);(conv=>whnf))
           repeat' (first|exact trivial|((first|((first|refine hT _ _ ?_|refine hE _ _ _ ?_|refine hN _ _ ?_);clear hN hE hT)|refine kL ?_|(refine ⟨fun hb=>?_,fun hb=>?_⟩<;>(try simp only [nrm] at hb)<;>(try (first|(exfalso;omega)|contradiction|exact kB hb)))|refine kA hse ?_|refine kD hse ?_|refine kA haw ?_|refine kD haw ?_|refine kA hp1 ?_|refine kD hp1 ?_|refine kA hp2 ?_|refine kD hp2 ?_|refine kW cfg_ok ?_|refine kC ?_|refine bdA ?_|refine bd2 ?_|refine bdR ?_|refine bdL ?_)<;>((try with_reducible refine evCut fun N hN hE hT=>?_);(conv=>whnf)))|(refine And.intro ?_ ?_;rotate_left;(conv=>whnf);rotate_right))
           all_goals first|rfl|omega|trace_state
end Go.Proofs.YtkojlembanldcaaGreat
