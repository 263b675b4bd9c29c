/- homesteadlaw17.TickEmpty. -/
import Derived.Test.YtkojlembanldcaaGreatRh
set_option linter.unusedSimpArgs false
set_option linter.unusedVariables false
set_option maxRecDepth 100000
set_option maxHeartbeats 4000000
namespace Go.Proofs.YtkojlembanldcaaGreat
open Go Go.RowKit Eng
theorem foldN_api (w : Wld) (hR : RW w) (ht : w.tick < 1099511627776) : Api Tryz.prog 44 [wldV w,.lit (.slice none 0 0)] (.tup [wldV (withT w (w.tick + 1)),.vec .reply [],i64 0]):=by
 have h:=fold_api w [] (okW_rw hR) (by simp) (by simp)
 rw [fold_empty hR ht] at h
 exact api_weak h (.cons (Le.refl _) (.cons (Le.nil _) .nil))
theorem tempty_api (w : Wld) (n : Int) (hw : OkW w) (hn : 0 ≤ n ∧ n ≤ 255) : Api Tryz.prog 11 [wldV w,.lit (.int .u8 n)] (bol true):=by
 have haw:=awake17_api
 have hgr:=greatW_api w hw
 have hrt:=rightW_api w hw
 by_cases hgo : greatW w = false ∧ rightW w = true ∧ w.tick ≤ 1099511627746
 · obtain ⟨hg,hr,ht⟩:=hgo
   rw [hg] at hgr
   rw [hr] at hrt
   have hR:=rightW_iff.1 hr
   have hsz:=hR.size
   have hst : ∀ k : Nat,k ≤ 20 → Api Tryz.prog 44 [.agg [i64 w.size,.lit (.int .u64 w.seed),i64 (w.tick + k),.vec .chunk w.chunks,.vec .player w.players],.lit (.slice none 0 0)] (.tup [.agg [i64 w.size,.lit (.int .u64 w.seed),i64 (w.tick + (k + 1 : Nat)),.vec .chunk w.chunks,.vec .player w.players],.vec .reply [],i64 0]):=fun k hk=>by
     have h:=foldN_api (withT w (w.tick + k)) (right_T hR ⟨by omega,by omega⟩) (by show w.tick + k < _;omega)
     have e : w.tick + (k : Int) + 1 = w.tick + (k + 1 : Nat):=by omega
     change Api _ _ _ (.tup [wldV (withT w (w.tick + (k : Int) + 1)),_,_]) at h
     rw [e] at h
     exact h
   have hsm:=sameW_self w hw
   obtain ⟨m,hm,hm2⟩ : ∃ m : Nat,n % 21 = m ∧ m ≤ 20:=⟨(n % 21).toNat,by omega,by omega⟩
   refine Api.of_fin cfg_ok Tryz.func11 rfl (nt:=53) rfl rfl ?_
   conv=>whnf
   repeat' (first|exact trivial|((first|refine kL ?_|(refine ⟨fun hb=>?_,fun hb=>?_⟩<;>(try simp only [nrm] at hb)<;>(try (first|(exfalso;omega)|contradiction|exact kB hb)))|refine kA hgr ?_|refine kD hgr ?_|refine kA hrt ?_|refine kD hrt ?_|refine kW cfg_ok ?_|refine kC ?_|refine bdA ?_|refine bd2 ?_|refine bdR ?_|refine bdL ?_)<;>(conv=>whnf))|(refine And.intro ?_ ?_;rotate_left;(conv=>whnf);rotate_right))
   refine Runs.loopS cfg_ok (σ:=Nat) [1,2,5,24,25] (fun k=>[.lit (.int .u8 n),.ptr 4 0,.ptr 10 0,.lit (.int .u8 (m : Nat)),.lit (.int .u8 (k : Nat))]) (fun k=>[(4,.box (wldC w)),(10,.box [i64 w.size,.lit (.int .u64 w.seed),i64 (w.tick + (k : Nat)),.vec .chunk w.chunks,.vec .player w.players])]) (fun k=>k ≤ m) (fun k=>m - k) 0 (by omega) ?_ ?_
   · conv=>whnf
     repeat' (first|exact trivial|((first|refine kL ?_|(refine ⟨fun hb=>?_,fun hb=>?_⟩<;>(try simp only [nrm] at hb)<;>(try (first|(exfalso;omega)|contradiction|exact kB hb)))|refine kW cfg_ok ?_|refine kC ?_|refine bdA ?_|refine bd2 ?_|refine bdR ?_|refine bdL ?_)<;>(conv=>whnf))|(refine And.intro ?_ ?_;rotate_left;(conv=>whnf);rotate_right))
     all_goals first|rfl|omega|exact congrArg (Value.int .u8) hm|exact congrArg (Value.int .i64) (by omega)|trace_state
   · intro k hk
     by_cases hlt : k < m
     · have h1:=hst k (by omega)
       conv=>whnf
       repeat' (first|exact trivial|((first|refine kL ?_|(refine ⟨fun hb=>?_,fun hb=>?_⟩<;>(try simp only [nrm] at hb)<;>(try (first|(exfalso;omega)|contradiction|exact kB hb)))|refine kA h1 ?_|refine kD h1 ?_|refine kW cfg_ok ?_|refine kC ?_|refine bdA ?_|refine bd2 ?_|refine bdR ?_|refine bdL ?_)<;>(conv=>whnf))|(refine And.intro ?_ ?_;rotate_left;(conv=>whnf);rotate_right))
       refine .to (k + 1) (by omega) (by omega) ?_
       conv=>whnf
       repeat' (first|exact trivial|((first|refine kL ?_|(refine ⟨fun hb=>?_,fun hb=>?_⟩<;>(try simp only [nrm] at hb)<;>(try (first|(exfalso;omega)|contradiction|exact kB hb)))|refine kW cfg_ok ?_|refine kC ?_|refine bdA ?_|refine bd2 ?_|refine bdR ?_|refine bdL ?_)<;>(conv=>whnf))|(refine And.intro ?_ ?_;rotate_left;(conv=>whnf);rotate_right))
       all_goals first|rfl|omega|trace_state
     · obtain rfl : k = m:=by omega
       have hsm2 : Api Tryz.prog 26 [.agg [i64 w.size,.lit (.int .u64 w.seed),i64 (w.tick + (k : Nat) - n % 21),.vec .chunk w.chunks,.vec .player w.players],wldV w] (bol true):=by
         rw [hm,Int.add_sub_cancel];exact hsm
       conv=>whnf
       repeat' (first|exact trivial|((first|refine kL ?_|(refine ⟨fun hb=>?_,fun hb=>?_⟩<;>(try simp only [nrm] at hb)<;>(try (first|(exfalso;omega)|contradiction|exact kB hb)))|refine kA hsm2 ?_|refine kD hsm2 ?_|refine kA haw ?_|refine kD haw ?_|refine kW cfg_ok ?_|refine kC ?_|refine bdA ?_|refine bd2 ?_|refine bdR ?_|refine bdL ?_)<;>(conv=>whnf))|(refine And.intro ?_ ?_;rotate_left;(conv=>whnf);rotate_right))
       all_goals trace_state
 · cases hg : greatW w with
   | true =>
     rw [hg] at hgr
     refine Api.of_fin cfg_ok Tryz.func11 rfl (nt:=53) rfl rfl ?_
     conv=>whnf
     repeat' (first|exact trivial|((first|refine kL ?_|(refine ⟨fun hb=>?_,fun hb=>?_⟩<;>(try simp only [nrm] at hb)<;>(try (first|(exfalso;omega)|contradiction|exact kB hb)))|refine kA hgr ?_|refine kD hgr ?_|refine kA haw ?_|refine kD haw ?_|refine kW cfg_ok ?_|refine kC ?_|refine bdA ?_|refine bd2 ?_|refine bdR ?_|refine bdL ?_)<;>(conv=>whnf))|(refine And.intro ?_ ?_;rotate_left;(conv=>whnf);rotate_right))
     all_goals first|rfl|omega|trace_state
   | false =>
     rw [hg] at hgr
     cases hr : rightW w with
     | false =>
       rw [hr] at hrt
       refine Api.of_fin cfg_ok Tryz.func11 rfl (nt:=53) rfl rfl ?_
       conv=>whnf
       repeat' (first|exact trivial|((first|refine kL ?_|(refine ⟨fun hb=>?_,fun hb=>?_⟩<;>(try simp only [nrm] at hb)<;>(try (first|(exfalso;omega)|contradiction|exact kB hb)))|refine kA hgr ?_|refine kD hgr ?_|refine kA hrt ?_|refine kD hrt ?_|refine kA haw ?_|refine kD haw ?_|refine kW cfg_ok ?_|refine kC ?_|refine bdA ?_|refine bd2 ?_|refine bdR ?_|refine bdL ?_)<;>(conv=>whnf))|(refine And.intro ?_ ?_;rotate_left;(conv=>whnf);rotate_right))
       all_goals first|rfl|omega|trace_state
     | true =>
       rw [hr] at hrt
       have ht : 1099511627746 < w.tick:=by
         by_cases h : w.tick ≤ 1099511627746
         · exact absurd ⟨hg,hr,h⟩ hgo
         · omega
       refine Api.of_fin cfg_ok Tryz.func11 rfl (nt:=53) rfl rfl ?_
       conv=>whnf
       repeat' (first|exact trivial|((first|refine kL ?_|(refine ⟨fun hb=>?_,fun hb=>?_⟩<;>(try simp only [nrm] at hb)<;>(try (first|(exfalso;omega)|contradiction|exact kB hb)))|refine kA hgr ?_|refine kD hgr ?_|refine kA hrt ?_|refine kD hrt ?_|refine kA haw ?_|refine kD haw ?_|refine kW cfg_ok ?_|refine kC ?_|refine bdA ?_|refine bd2 ?_|refine bdR ?_|refine bdL ?_)<;>(conv=>whnf))|(refine And.intro ?_ ?_;rotate_left;(conv=>whnf);rotate_right))
       all_goals first|rfl|omega|trace_state
end Go.Proofs.YtkojlembanldcaaGreat
