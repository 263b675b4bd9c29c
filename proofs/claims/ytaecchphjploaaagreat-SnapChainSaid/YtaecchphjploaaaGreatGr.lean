/- homesteadlaw20.SnapChain. -/
import Derived.Test.YtaecchphjploaaaGreatRq
set_option linter.unusedSimpArgs false
set_option linter.unusedVariables false
set_option maxRecDepth 100000
set_option maxHeartbeats 16000000
namespace Go.Proofs.YtaecchphjploaaaGreat
open Go Go.RowKit Eng
theorem chain_data {now v : Viw} (hb : baseB now = true) (h : rightV v = true) : ∃ b w : List (El .u8),makeE now v = (b,0) ∧ takeY now b = (v,0) ∧ makeE emptyV v = (w,0) ∧ takeY emptyV w = (v,0) ∧ b.length ≤ 300000 ∧ okU8 b ∧ w.length ≤ 300000 ∧ okU8 w:=
 ⟨makeY now v,makeY emptyV v,makeE_good hb h,take_make h hb,makeE_good empty_base h,take_make h empty_base,makeY_le h,u8_makeY hb h,makeY_le h,u8_makeY empty_base h⟩
theorem snapChain_api (l : List (El .view)) (hl : l.length * 144 ≤ 140737488351232) (ho : ∀ v ∈ l,OkV v) : Api Tryz.prog 6 [.vec .view l] (bol true):=by
 have haw:=awake20_api
 refine Api.of_fin cfg_ok Tryz.func6 rfl (nt:=87) rfl rfl ?_
 ((repeat (first|(with_reducible refine evCut fun N hN hE hT=>?_)|(with_reducible refine evBlk fun N hN hE hT=>?_)));(try with_reducible refine evCnd fun X Y hX hY=>?_);(conv=>whnf))
 repeat' (first|exact trivial|((first|((first|refine hT _ _ ?_|refine hE _ _ _ ?_|refine hN _ _ ?_);clear hN hE hT)|((first|refine hX ?_|refine hY ?_);clear hX hY)|refine kL ?_|(refine ⟨fun hb=>?_,fun hb=>?_⟩<;>(try simp only [nrm] at hb)<;>(try (first|(exfalso;omega)|contradiction|exact kB hb)))|refine kW cfg_ok ?_|refine kC ?_|refine bdA ?_|refine bd2 ?_|refine bdR ?_|refine bdL ?_)<;>((repeat (first|(with_reducible refine evCut fun N hN hE hT=>?_)|(with_reducible refine evBlk fun N hN hE hT=>?_)));(try with_reducible refine evCnd fun X Y hX hY=>?_);(conv=>whnf)))|(refine And.intro ?_ ?_;rotate_left;(conv=>whnf);rotate_right))
 refine Runs.loopS cfg_ok (σ:=Nat × Viw) [0,3,4] (fun p=>[.vec .view l,.ptr 6 0,i64 p.1]) (fun p=>[(6,.box (viewC p.2))]) (fun p=>(p.1 ≤ l.length ∧ p.1 ≤ 5) ∧ baseB p.2 = true ∧ OkV p.2) (fun p=>l.length - p.1) (0,emptyV) ⟨⟨by omega,by omega⟩,empty_base,okV_empty⟩ ?_ ?_
 · conv=>whnf
   repeat' (first|exact trivial|((first|((first|refine hT _ _ ?_|refine hE _ _ _ ?_|refine hN _ _ ?_);clear hN hE hT)|((first|refine hX ?_|refine hY ?_);clear hX hY)|refine kL ?_|(refine ⟨fun hb=>?_,fun hb=>?_⟩<;>(try simp only [nrm] at hb)<;>(try (first|(exfalso;omega)|contradiction|exact kB hb)))|refine kW cfg_ok ?_|refine kC ?_|refine bdA ?_|refine bd2 ?_|refine bdR ?_|refine bdL ?_)<;>((repeat (first|(with_reducible refine evCut fun N hN hE hT=>?_)|(with_reducible refine evBlk fun N hN hE hT=>?_)));(try with_reducible refine evCnd fun X Y hX hY=>?_);(conv=>whnf)))|(refine And.intro ?_ ?_;rotate_left;(conv=>whnf);rotate_right))
   all_goals trace_state
 · rintro ⟨k,now⟩ ⟨⟨hk,hk5⟩,hb,hnow⟩
   dsimp only at hk hk5 hb hnow ⊢
   by_cases hlt : k < l.length ∧ k < 5
   · obtain ⟨hlt,hlt5⟩:=hlt
     have hv:=ho _ (elt_mem (t:=.view) hlt)
     obtain ⟨v,e⟩ : ∃ v : Viw,elt .view l k = v:=⟨_,rfl⟩
     have e2 : elt .view l (k : Int).toNat = v:=e
     rw [e] at hv
     have hsm:=small_api v hv
     cases hS : smallB v with
     | false =>
       rw [hS] at hsm
       clear ho
       conv=>whnf
       repeat' (first|exact trivial|((first|((first|refine hT _ _ ?_|refine hE _ _ _ ?_|refine hN _ _ ?_);clear hN hE hT)|((first|refine hX ?_|refine hY ?_);clear hX hY)|refine kL ?_|(refine ⟨fun hb=>?_,fun hb=>?_⟩<;>(try simp only [nrm] at hb)<;>(try (first|(exfalso;omega)|contradiction|exact kB hb)))|(rw [e2])|refine kA hsm ?_|refine kD hsm ?_|refine kA haw ?_|refine kD haw ?_|refine kW cfg_ok ?_|refine kC ?_|refine bdA ?_|refine bd2 ?_|refine bdR ?_|refine bdL ?_)<;>((repeat (first|(with_reducible refine evCut fun N hN hE hT=>?_)|(with_reducible refine evBlk fun N hN hE hT=>?_)));(try with_reducible refine evCnd fun X Y hX hY=>?_);(conv=>whnf)))|(refine And.intro ?_ ?_;rotate_left;(conv=>whnf);rotate_right))
       all_goals trace_state
     | true =>
       rw [hS] at hsm
       have hr : rightV v = true:=by
         unfold smallB at hS
         rw [Bool.and_eq_true] at hS
         exact hS.2
       obtain ⟨b,w,h1,h2,h3,h4,h5,h6,h7,h8⟩:=chain_data hb hr
       have g1:=make_api now v hnow hv
       rw [h1] at g1
       have g2:=take_api (b:=b) hnow h6 (by omega)
       rw [h2] at g2
       have g3:=make_api emptyV v okV_empty hv
       rw [h3] at g3
       have g4:=take_api (b:=w) okV_empty h8 (by omega)
       rw [h4] at g4
       have g5:=same19_api v v hv
       rw [eqv_self] at g5
       have lE : Le (AV.agg [i64 0,i64 0,i64 0,i64 0,.lit (.slice none 0 0),i64 0,.lit (.slice none 0 0),.ff,.lit (.slice none 0 0),.lit (.slice none 0 0)]) (viewV emptyV):=Le.agg (.cons (Le.refl _) (.cons (Le.refl _) (.cons (Le.refl _) (.cons (Le.refl _) (.cons (Le.nil _) (.cons (Le.refl _) (.cons (Le.nil _) (.cons (Le.ff rfl) (.cons (Le.nil _) (.cons (Le.nil _) .nil))))))))))
       have g3:=api_weak g3 (.cons lE (.cons (Le.refl _) .nil))
       have g4:=api_weak g4 (.cons lE (.cons (Le.refl _) .nil))
       have hbv:=right_base hr
       clear h1 h2 h3 h4 h6 h8 hr hS ho lE hnow
       dsimp only at g1 g2 g3 g4
       conv=>whnf
       repeat' (first|exact trivial|((first|((first|refine hT _ _ ?_|refine hE _ _ _ ?_|refine hN _ _ ?_);clear hN hE hT)|((first|refine hX ?_|refine hY ?_);clear hX hY)|refine kL ?_|(refine ⟨fun hb=>?_,fun hb=>?_⟩<;>(try simp only [nrm] at hb)<;>(try (first|(exfalso;omega)|contradiction|exact kB hb)))|(rw [e2])|refine kA hsm ?_|refine kD hsm ?_|refine kA g1 ?_|refine kD g1 ?_|refine kA g2 ?_|refine kD g2 ?_|refine kA g3 ?_|refine kD g3 ?_|refine kA g4 ?_|refine kD g4 ?_|refine kA g5 ?_|refine kD g5 ?_|refine kW cfg_ok ?_|refine kC ?_|refine bdA ?_|refine bd2 ?_|refine bdR ?_|refine bdL ?_)<;>((repeat (first|(with_reducible refine evCut fun N hN hE hT=>?_)|(with_reducible refine evBlk fun N hN hE hT=>?_)));(try with_reducible refine evCnd fun X Y hX hY=>?_);(conv=>whnf)))|(refine And.intro ?_ ?_;rotate_left;(conv=>whnf);rotate_right))
       all_goals
         refine .to (k + 1,v) ⟨⟨hlt,hlt5⟩,hbv,hv⟩ (by show l.length - (k + 1) < l.length - k;omega) ?_
         conv=>whnf
         repeat' (first|exact trivial|((first|((first|refine hT _ _ ?_|refine hE _ _ _ ?_|refine hN _ _ ?_);clear hN hE hT)|((first|refine hX ?_|refine hY ?_);clear hX hY)|refine kL ?_|(refine ⟨fun hb=>?_,fun hb=>?_⟩<;>(try simp only [nrm] at hb)<;>(try (first|(exfalso;omega)|contradiction|exact kB hb)))|refine kW cfg_ok ?_|refine kC ?_|refine bdA ?_|refine bd2 ?_|refine bdR ?_|refine bdL ?_)<;>((repeat (first|(with_reducible refine evCut fun N hN hE hT=>?_)|(with_reducible refine evBlk fun N hN hE hT=>?_)));(try with_reducible refine evCnd fun X Y hX hY=>?_);(conv=>whnf)))|(refine And.intro ?_ ?_;rotate_left;(conv=>whnf);rotate_right))
         all_goals trace_state
   · conv=>whnf
     repeat' (first|exact trivial|((first|((first|refine hT _ _ ?_|refine hE _ _ _ ?_|refine hN _ _ ?_);clear hN hE hT)|((first|refine hX ?_|refine hY ?_);clear hX hY)|refine kL ?_|(refine ⟨fun hb=>?_,fun hb=>?_⟩<;>(try simp only [nrm] at hb)<;>(try (first|(exfalso;omega)|contradiction|exact kB hb)))|refine kA haw ?_|refine kD haw ?_|refine kW cfg_ok ?_|refine kC ?_|refine bdA ?_|refine bd2 ?_|refine bdR ?_|refine bdL ?_)<;>((repeat (first|(with_reducible refine evCut fun N hN hE hT=>?_)|(with_reducible refine evBlk fun N hN hE hT=>?_)));(try with_reducible refine evCnd fun X Y hX hY=>?_);(conv=>whnf)))|(refine And.intro ?_ ?_;rotate_left;(conv=>whnf);rotate_right))
     all_goals trace_state
end Go.Proofs.YtaecchphjploaaaGreat
