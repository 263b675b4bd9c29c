/- homesteadlaw20.SnapShort. -/
import Derived.Test.YtaecchphjploaaaGreatRq
set_option linter.unusedSimpArgs false
set_option linter.unusedVariables false
set_option maxRecDepth 100000
set_option maxHeartbeats 16000000
namespace Go.Proofs.YtaecchphjploaaaGreat
open Go Go.RowKit Eng
theorem short_data {v : Viw} (h : rightV v = true) : ∃ b d : List (El .u8),makeE v v = (b,0) ∧ makeE v { v with tick:=(v.tick + 1) % 1099511627776 } = (d,0) ∧ b.length ≤ 8 * 4 + 8 * v.me.bag.length + 8 * v.me.offer.length + 7 * v.chunks.length + 24 * v.others.length + 20 ∧ d.length ≤ 300000 ∧ okU8 d ∧ takeY v d = ({ v with tick:=(v.tick + 1) % 1099511627776 },0):=by
 have hw : rightV { v with tick:=(v.tick + 1) % 1099511627776 } = true:=right_tick h (by omega)
 exact ⟨makeY v v,makeY v { v with tick:=(v.tick + 1) % 1099511627776 },makeE_good (right_base h) h,makeE_good (right_base h) hw,make_short h,makeY_le hw,u8_makeY (right_base h) hw,take_make hw (right_base h)⟩
theorem snapShort_api (v : Viw) (hv : OkV v) : Api Tryz.prog 5 [viewV v] (bol true):=by
 have hsm:=small_api v hv
 have haw:=awake20_api
 cases hS : smallB v with
 | false =>
   rw [hS] at hsm
   refine Api.of_fin cfg_ok Tryz.func5 rfl (nt:=85) rfl rfl ?_
   conv=>whnf
   repeat' (first|exact trivial|((first|refine kL ?_|(refine ⟨fun hb=>?_,fun hb=>?_⟩<;>(try simp only [nrm] at hb)<;>(try (first|(exfalso;omega)|contradiction|exact kB hb)))|refine kA hsm ?_|refine kD hsm ?_|refine kA haw ?_|refine kD haw ?_|refine kW cfg_ok ?_|refine kC ?_|refine bdA ?_|refine bd2 ?_|refine bdR ?_|refine bdL ?_)<;>(conv=>whnf))|(refine And.intro ?_ ?_;rotate_left;(conv=>whnf);rotate_right))
 | true =>
   rw [hS] at hsm
   have hr : rightV v = true:=by
     unfold smallB at hS
     rw [Bool.and_eq_true] at hS
     exact hS.2
   have hP:=rightV_P hr
   have p1:=hP.tick;have p6:=hP.nc;have p7:=hP.no;have p8:=hP.bag
   have p9 : v.me.offer.length ≤ 8:=by
     rcases hP.off with ⟨_,h,_⟩|⟨_,h⟩
     · rw [h];simp
     · omega
   have hw : rightV { v with tick:=(v.tick + 1) % 1099511627776 } = true:=right_tick hr (by omega)
   have hwv:=okV_right3 hw
   obtain ⟨b,d,h1,h2,h3,h4,h5,h6⟩:=short_data hr
   have g1:=make_api v v hv hv
   rw [h1] at g1
   have g2:=make_api v _ hv hwv
   rw [h2] at g2
   have g3:=take_api (b:=d) hv h5 (by omega)
   rw [h6] at g3
   have g4:=same19_api _ { v with tick:=(v.tick + 1) % 1099511627776 } hwv
   rw [eqv_self] at g4
   clear h1 h2 h5 h6 hw hwv hP hr hS
   dsimp only at *
   refine Api.of_fin cfg_ok Tryz.func5 rfl (nt:=85) rfl rfl ?_
   ((repeat (first|(with_reducible refine evCut fun N hN hE hT=>?_)|(with_reducible refine evBlk fun N hN hE hT=>?_)));(try with_reducible refine evCnd fun X Y hX hY=>?_);(conv=>whnf))
   repeat' (first|exact trivial|((first|((first|refine hT _ _ ?_|refine hE _ _ _ ?_|refine hN _ _ ?_);clear hN hE hT)|((first|refine hX ?_|refine hY ?_);clear hX hY)|refine kL ?_|(refine ⟨fun hb=>?_,fun hb=>?_⟩<;>(try simp only [nrm] at hb)<;>(try (first|(exfalso;omega)|contradiction|exact kB hb)))|refine kA hsm ?_|refine kD hsm ?_|refine kA g1 ?_|refine kD g1 ?_|refine kA g2 ?_|refine kD g2 ?_|refine kA g3 ?_|refine kD g3 ?_|refine kA g4 ?_|refine kD g4 ?_|refine kA haw ?_|refine kD haw ?_|refine kW cfg_ok ?_|refine kC ?_|refine bdA ?_|refine bd2 ?_|refine bdR ?_|refine bdL ?_)<;>((repeat (first|(with_reducible refine evCut fun N hN hE hT=>?_)|(with_reducible refine evBlk fun N hN hE hT=>?_)));(try with_reducible refine evCnd fun X Y hX hY=>?_);(conv=>whnf)))|(refine And.intro ?_ ?_;rotate_left;(conv=>whnf);rotate_right))
   all_goals trace_state
end Go.Proofs.YtaecchphjploaaaGreat
