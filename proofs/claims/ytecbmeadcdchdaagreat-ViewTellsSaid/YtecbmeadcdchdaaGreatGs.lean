/- homesteadlaw19.Great, Same; homesteadref19. -/
import Derived.Test.YtecbmeadcdchdaaGreatGo
import Derived.Test.YtecbmeadcdchdaaGreatGi
import Derived.Test.YtecbmeadcdchdaaGreatGq
import Derived.Test.YtecbmeadcdchdaaGreatGr
set_option linter.unusedSimpArgs false
set_option linter.unusedVariables false
set_option maxRecDepth 100000
set_option maxHeartbeats 16000000
namespace Go.Proofs.YtecbmeadcdchdaaGreat
open Go Go.RowKit Eng
def headG (v : Viw) : Bool:=decide (60 < (v.chunks.length : Int) ∨ 100 < (v.others.length : Int) ∨ 300 < (v.me.bag.length : Int) + v.me.offer.length)
def greatV (v : Viw) : Bool:=headG v || v.chunks.any greatB
theorem greatV_api (v : Viw) (hv : OkV v) : Api Tryz.prog 5 [viewV v] (bol (greatV v)):=by
 have hnc:=hv.nc
 have hno:=hv.no
 have hm1:=hv.me.nb
 have hm2:=hv.me.no
 by_cases hbig : 60 < (v.chunks.length : Int) ∨ 100 < (v.others.length : Int) ∨ 300 < (v.me.bag.length : Int) + v.me.offer.length
 · have hs : greatV v = true:=by
     unfold greatV headG;rw [decide_eq_true hbig];rfl
   rw [hs]
   refine Api.of_fin cfg_ok Tryz.func5 rfl (nt:=38) rfl rfl ?_
   conv=>whnf
   repeat' (first|exact trivial|((first|refine kL ?_|(refine ⟨fun hb=>?_,fun hb=>?_⟩<;>(try simp only [nrm] at hb)<;>(try (first|(exfalso;omega)|contradiction|exact kB hb)))|refine kW cfg_ok ?_|refine kC ?_|refine bdA ?_|refine bd2 ?_|refine bdR ?_|refine bdL ?_)<;>(conv=>whnf))|(refine And.intro ?_ ?_;rotate_left;(conv=>whnf);rotate_right))
   all_goals first|rfl|omega|trace_state
 · have hs : greatV v = v.chunks.any greatB:=by
     unfold greatV headG;rw [decide_eq_false hbig];rfl
   rw [hs]
   refine Api.of_fin cfg_ok Tryz.func5 rfl (nt:=38) rfl rfl ?_
   conv=>whnf
   repeat' (first|exact trivial|((first|refine kL ?_|(refine ⟨fun hb=>?_,fun hb=>?_⟩<;>(try simp only [nrm] at hb)<;>(try (first|(exfalso;omega)|contradiction|exact kB hb)))|refine kW cfg_ok ?_|refine kC ?_|refine bdA ?_|refine bd2 ?_|refine bdR ?_|refine bdL ?_)<;>(conv=>whnf))|(refine And.intro ?_ ?_;rotate_left;(conv=>whnf);rotate_right))
   all_goals try omega
   refine Runs.loopS cfg_ok (σ:=Nat) [1,28,29] (fun k=>[.ptr 2 0,i64 v.chunks.length,i64 k]) (fun _=>[(2,.box (viewC v))]) (fun k=>k ≤ v.chunks.length ∧ (v.chunks.drop k).any greatB = v.chunks.any greatB) (fun k=>v.chunks.length - k) 0 ⟨by omega,rfl⟩ ?_ ?_
   · conv=>whnf
     repeat' (first|exact trivial|((first|refine kL ?_|(refine ⟨fun hb=>?_,fun hb=>?_⟩<;>(try simp only [nrm] at hb)<;>(try (first|(exfalso;omega)|contradiction|exact kB hb)))|refine kW cfg_ok ?_|refine kC ?_|refine bdA ?_|refine bd2 ?_|refine bdR ?_|refine bdL ?_)<;>(conv=>whnf))|(refine And.intro ?_ ?_;rotate_left;(conv=>whnf);rotate_right))
     all_goals first|rfl|omega|trace_state
   · rintro k ⟨hk,hg⟩
     by_cases hlt : k < v.chunks.length
     · rw [any_drop (tt:=.chunk) hlt] at hg
       have hgr:=great_api (elt .chunk v.chunks k) (hv.chunks _ (elt_mem (t:=.chunk) hlt))
       cases hq : greatB (elt .chunk v.chunks k) with
       | true =>
         rw [hq] at hgr hg
         conv=>whnf
         repeat' (first|exact trivial|((first|refine kL ?_|(refine ⟨fun hb=>?_,fun hb=>?_⟩<;>(try simp only [nrm] at hb)<;>(try (first|(exfalso;omega)|contradiction|exact kB hb)))|refine kA hgr ?_|refine kD hgr ?_|refine kW cfg_ok ?_|refine kC ?_|refine bdA ?_|refine bd2 ?_|refine bdR ?_|refine bdL ?_)<;>(conv=>whnf))|(refine And.intro ?_ ?_;rotate_left;(conv=>whnf);rotate_right))
         all_goals first|omega|(refine congrArg Value.bool ?_;rw [← hg];rfl)|trace_state
       | false =>
         rw [hq] at hgr hg
         conv=>whnf
         repeat' (first|exact trivial|((first|refine kL ?_|(refine ⟨fun hb=>?_,fun hb=>?_⟩<;>(try simp only [nrm] at hb)<;>(try (first|(exfalso;omega)|contradiction|exact kB hb)))|refine kA hgr ?_|refine kD hgr ?_|refine kW cfg_ok ?_|refine kC ?_|refine bdA ?_|refine bd2 ?_|refine bdR ?_|refine bdL ?_)<;>(conv=>whnf))|(refine And.intro ?_ ?_;rotate_left;(conv=>whnf);rotate_right))
         all_goals try omega
         all_goals
           refine .to (k + 1) ⟨by omega,hg⟩ (by omega) ?_
           conv=>whnf
           repeat' (first|exact trivial|((first|refine kL ?_|(refine ⟨fun hb=>?_,fun hb=>?_⟩<;>(try simp only [nrm] at hb)<;>(try (first|(exfalso;omega)|contradiction|exact kB hb)))|refine kW cfg_ok ?_|refine kC ?_|refine bdA ?_|refine bd2 ?_|refine bdR ?_|refine bdL ?_)<;>(conv=>whnf))|(refine And.intro ?_ ?_;rotate_left;(conv=>whnf);rotate_right))
           all_goals first|rfl|omega|trace_state
     · obtain rfl : k = v.chunks.length:=by omega
       rw [List.drop_length] at hg
       rw [← hg]
       conv=>whnf
       repeat' (first|exact trivial|((first|refine kL ?_|(refine ⟨fun hb=>?_,fun hb=>?_⟩<;>(try simp only [nrm] at hb)<;>(try (first|(exfalso;omega)|contradiction|exact kB hb)))|refine kW cfg_ok ?_|refine kC ?_|refine bdA ?_|refine bd2 ?_|refine bdR ?_|refine bdL ?_)<;>(conv=>whnf))|(refine And.intro ?_ ?_;rotate_left;(conv=>whnf);rotate_right))
       all_goals first|rfl|omega|trace_state
theorem same19_api (a b : Viw) (hv : OkV a) : Api Tryz.prog 10 [viewV a,viewV b] (bol (eqv a b)):=by
 have hnc:=hv.nc
 have hno:=hv.no
 have hp:=sameP_api a.me b.me hv.me
 by_cases hh : a.tick = b.tick ∧ a.me = b.me ∧ a.chunks.length = b.chunks.length ∧ a.others.length = b.others.length
 · obtain ⟨h1,h2,h3,h4⟩:=hh
   rw [eqv_iff.2 h2] at hp
   have hext:=fun e1 e2=>@viw_ext a b h1 h2 e1 e2
   refine Api.of_fin cfg_ok Tryz.func10 rfl (nt:=73) rfl rfl ?_
   conv=>whnf
   repeat' (first|exact trivial|((first|refine kL ?_|(refine ⟨fun hb=>?_,fun hb=>?_⟩<;>(try simp only [nrm] at hb)<;>(try (first|(exfalso;omega)|contradiction|exact kB hb)))|refine kA hp ?_|refine kD hp ?_|refine kW cfg_ok ?_|refine kC ?_|refine bdA ?_|refine bd2 ?_|refine bdR ?_|refine bdL ?_)<;>(conv=>whnf))|(refine And.intro ?_ ?_;rotate_left;(conv=>whnf);rotate_right))
   all_goals try omega
   refine Runs.loopS cfg_ok (σ:=Nat) [2,3,40,41] (fun k=>[.ptr 4 0,.ptr 6 0,i64 a.chunks.length,i64 k]) (fun _=>[(4,.box (viewC a)),(6,.box (viewC b))]) (fun k=>k ≤ a.chunks.length ∧ ∀ i < k,elt .chunk a.chunks i = elt .chunk b.chunks i) (fun k=>a.chunks.length - k) 0 ⟨by omega,by omega⟩ ?_ ?_
   · conv=>whnf
     repeat' (first|exact trivial|((first|refine kL ?_|(refine ⟨fun hb=>?_,fun hb=>?_⟩<;>(try simp only [nrm] at hb)<;>(try (first|(exfalso;omega)|contradiction|exact kB hb)))|refine kW cfg_ok ?_|refine kC ?_|refine bdA ?_|refine bd2 ?_|refine bdR ?_|refine bdL ?_)<;>(conv=>whnf))|(refine And.intro ?_ ?_;rotate_left;(conv=>whnf);rotate_right))
     all_goals first|rfl|omega|trace_state
   · rintro k ⟨hk,ht⟩
     by_cases hlt : k < a.chunks.length
     · have hok:=hv.chunks _ (elt_mem (t:=.chunk) hlt)
       by_cases he : elt .chunk a.chunks k = elt .chunk b.chunks k
       · have hsm:=same_self (elt .chunk a.chunks k) hok
         rw [show chunkV (elt .chunk a.chunks k) = chunkV (elt .chunk a.chunks k) from rfl] at hsm
         have hsm2 : Api Tryz.prog 30 [chunkV (elt .chunk a.chunks k),chunkV (elt .chunk b.chunks k)] (bol true):=by rw [← he];exact hsm
         conv=>whnf
         repeat' (first|exact trivial|((first|refine kL ?_|(refine ⟨fun hb=>?_,fun hb=>?_⟩<;>(try simp only [nrm] at hb)<;>(try (first|(exfalso;omega)|contradiction|exact kB hb)))|refine kA hsm2 ?_|refine kD hsm2 ?_|refine kW cfg_ok ?_|refine kC ?_|refine bdA ?_|refine bd2 ?_|refine bdR ?_|refine bdL ?_)<;>(conv=>whnf))|(refine And.intro ?_ ?_;rotate_left;(conv=>whnf);rotate_right))
         all_goals try omega
         all_goals
           refine .to (k + 1) ⟨by omega,fun i hi=>?_⟩ (by omega) ?_
           · by_cases hik : i = k
             · rw [hik];exact he
             · exact ht i (by omega)
           conv=>whnf
           repeat' (first|exact trivial|((first|refine kL ?_|(refine ⟨fun hb=>?_,fun hb=>?_⟩<;>(try simp only [nrm] at hb)<;>(try (first|(exfalso;omega)|contradiction|exact kB hb)))|refine kW cfg_ok ?_|refine kC ?_|refine bdA ?_|refine bd2 ?_|refine bdR ?_|refine bdL ?_)<;>(conv=>whnf))|(refine And.intro ?_ ?_;rotate_left;(conv=>whnf);rotate_right))
           all_goals first|rfl|omega|trace_state
       · have hsm:=same_ne (elt .chunk a.chunks k) (elt .chunk b.chunks k) hok he
         have hne : eqv a b = false:=eqv_false.2 fun e=>he (by rw [e])
         rw [hne]
         conv=>whnf
         repeat' (first|exact trivial|((first|refine kL ?_|(refine ⟨fun hb=>?_,fun hb=>?_⟩<;>(try simp only [nrm] at hb)<;>(try (first|(exfalso;omega)|contradiction|exact kB hb)))|refine kA hsm ?_|refine kD hsm ?_|refine kW cfg_ok ?_|refine kC ?_|refine bdA ?_|refine bd2 ?_|refine bdR ?_|refine bdL ?_)<;>(conv=>whnf))|(refine And.intro ?_ ?_;rotate_left;(conv=>whnf);rotate_right))
         all_goals first|rfl|omega|trace_state
     · obtain rfl : k = a.chunks.length:=by omega
       have hce : a.chunks = b.chunks:=elt_ext (tt:=.chunk) h3 ht
       conv=>whnf
       repeat' (first|exact trivial|((first|refine kL ?_|(refine ⟨fun hb=>?_,fun hb=>?_⟩<;>(try simp only [nrm] at hb)<;>(try (first|(exfalso;omega)|contradiction|exact kB hb)))|refine kW cfg_ok ?_|refine kC ?_|refine bdA ?_|refine bd2 ?_|refine bdR ?_|refine bdL ?_)<;>(conv=>whnf))|(refine And.intro ?_ ?_;rotate_left;(conv=>whnf);rotate_right))
       all_goals try omega
       refine Runs.loopS cfg_ok (σ:=Nat) [2,3,59,60] (fun k=>[.ptr 4 0,.ptr 6 0,i64 a.others.length,i64 k]) (fun _=>[(4,.box (viewC a)),(6,.box (viewC b))]) (fun k=>k ≤ a.others.length ∧ ∀ i < k,elt .seen a.others i = elt .seen b.others i) (fun k=>a.others.length - k) 0 ⟨by omega,by omega⟩ ?_ ?_
       · conv=>whnf
         repeat' (first|exact trivial|((first|refine kL ?_|(refine ⟨fun hb=>?_,fun hb=>?_⟩<;>(try simp only [nrm] at hb)<;>(try (first|(exfalso;omega)|contradiction|exact kB hb)))|refine kW cfg_ok ?_|refine kC ?_|refine bdA ?_|refine bd2 ?_|refine bdR ?_|refine bdL ?_)<;>(conv=>whnf))|(refine And.intro ?_ ?_;rotate_left;(conv=>whnf);rotate_right))
         all_goals first|rfl|omega|trace_state
       · rintro k ⟨hk,ht⟩
         by_cases hlt : k < a.others.length
         · by_cases he : elt .seen a.others k = elt .seen b.others k
           · have e1:=congrArg Seen.id he
             have e2:=congrArg Seen.x he
             have e3:=congrArg Seen.y he
             conv=>whnf
             repeat' (first|exact trivial|((first|refine kL ?_|(refine ⟨fun hb=>?_,fun hb=>?_⟩<;>(try simp only [nrm] at hb)<;>(try (first|(exfalso;omega)|contradiction|exact kB hb)))|refine kW cfg_ok ?_|refine kC ?_|refine bdA ?_|refine bd2 ?_|refine bdR ?_|refine bdL ?_)<;>(conv=>whnf))|(refine And.intro ?_ ?_;rotate_left;(conv=>whnf);rotate_right))
             all_goals try omega
             all_goals
               refine .to (k + 1) ⟨by omega,fun i hi=>?_⟩ (by omega) ?_
               · by_cases hik : i = k
                 · rw [hik];exact he
                 · exact ht i (by omega)
               conv=>whnf
               repeat' (first|exact trivial|((first|refine kL ?_|(refine ⟨fun hb=>?_,fun hb=>?_⟩<;>(try simp only [nrm] at hb)<;>(try (first|(exfalso;omega)|contradiction|exact kB hb)))|refine kW cfg_ok ?_|refine kC ?_|refine bdA ?_|refine bd2 ?_|refine bdR ?_|refine bdL ?_)<;>(conv=>whnf))|(refine And.intro ?_ ?_;rotate_left;(conv=>whnf);rotate_right))
               all_goals first|rfl|omega|trace_state
           · have hne : eqv a b = false:=eqv_false.2 fun e=>he (by rw [e])
             have hne2 : ¬ ((elt .seen a.others k).id = (elt .seen b.others k).id ∧ (elt .seen a.others k).x = (elt .seen b.others k).x ∧ (elt .seen a.others k).y = (elt .seen b.others k).y):=fun h=>he (seen_ext h.1 h.2.1 h.2.2)
             rw [hne]
             conv=>whnf
             repeat' (first|exact trivial|((first|refine kL ?_|(refine ⟨fun hb=>?_,fun hb=>?_⟩<;>(try simp only [nrm] at hb)<;>(try (first|(exfalso;omega)|contradiction|exact kB hb)))|refine kW cfg_ok ?_|refine kC ?_|refine bdA ?_|refine bd2 ?_|refine bdR ?_|refine bdL ?_)<;>(conv=>whnf))|(refine And.intro ?_ ?_;rotate_left;(conv=>whnf);rotate_right))
             all_goals first|rfl|omega|trace_state
         · obtain rfl : k = a.others.length:=by omega
           have heq : eqv a b = true:=eqv_iff.2 (hext hce (elt_ext (tt:=.seen) h4 ht))
           rw [heq]
           conv=>whnf
           repeat' (first|exact trivial|((first|refine kL ?_|(refine ⟨fun hb=>?_,fun hb=>?_⟩<;>(try simp only [nrm] at hb)<;>(try (first|(exfalso;omega)|contradiction|exact kB hb)))|refine kW cfg_ok ?_|refine kC ?_|refine bdA ?_|refine bd2 ?_|refine bdR ?_|refine bdL ?_)<;>(conv=>whnf))|(refine And.intro ?_ ?_;rotate_left;(conv=>whnf);rotate_right))
           all_goals first|rfl|omega|trace_state
 · have hne : eqv a b = false:=eqv_false.2 fun e=>hh (by rw [e];exact ⟨rfl,rfl,rfl,rfl⟩)
   rw [hne]
   by_cases h2 : a.me = b.me
   · rw [eqv_iff.2 h2] at hp
     have hh2 : ¬ (a.tick = b.tick ∧ a.chunks.length = b.chunks.length ∧ a.others.length = b.others.length):=fun h=>hh ⟨h.1,h2,h.2⟩
     refine Api.of_fin cfg_ok Tryz.func10 rfl (nt:=73) rfl rfl ?_
     conv=>whnf
     repeat' (first|exact trivial|((first|refine kL ?_|(refine ⟨fun hb=>?_,fun hb=>?_⟩<;>(try simp only [nrm] at hb)<;>(try (first|(exfalso;omega)|contradiction|exact kB hb)))|refine kA hp ?_|refine kD hp ?_|refine kW cfg_ok ?_|refine kC ?_|refine bdA ?_|refine bd2 ?_|refine bdR ?_|refine bdL ?_)<;>(conv=>whnf))|(refine And.intro ?_ ?_;rotate_left;(conv=>whnf);rotate_right))
     all_goals first|rfl|omega|trace_state
   · rw [eqv_false.2 h2] at hp
     refine Api.of_fin cfg_ok Tryz.func10 rfl (nt:=73) rfl rfl ?_
     conv=>whnf
     repeat' (first|exact trivial|((first|refine kL ?_|(refine ⟨fun hb=>?_,fun hb=>?_⟩<;>(try simp only [nrm] at hb)<;>(try (first|(exfalso;omega)|contradiction|exact kB hb)))|refine kA hp ?_|refine kD hp ?_|refine kW cfg_ok ?_|refine kC ?_|refine bdA ?_|refine bd2 ?_|refine bdR ?_|refine bdL ?_)<;>(conv=>whnf))|(refine And.intro ?_ ?_;rotate_left;(conv=>whnf);rotate_right))
     all_goals first|rfl|omega|trace_state
open Go Go.RowKit Eng
def farI (a b : Int) : Int:=if a < b then b - a else a - b
theorem far19_api (a b : Int) (ha : -1000 ≤ a ∧ a ≤ 1000) (hb1 : -1000 ≤ b ∧ b ≤ 1000) : Api Tryz.prog 31 [i64 a,i64 b] (i64 (farI a b)):=by
 by_cases h : a < b
 · rw [show farI a b = b - a from if_pos h]
   refine Api.of_fin cfg_ok Tryz.func31 rfl (nt:=12) rfl rfl ?_
   conv=>whnf
   repeat' (first|exact trivial|((first|refine kL ?_|(refine ⟨fun hb=>?_,fun hb=>?_⟩<;>(try simp only [nrm] at hb)<;>(try (first|(exfalso;omega)|contradiction|exact kB hb)))|refine kW cfg_ok ?_|refine kC ?_|refine bdA ?_|refine bd2 ?_|refine bdR ?_|refine bdL ?_)<;>(conv=>whnf))|(refine And.intro ?_ ?_;rotate_left;(conv=>whnf);rotate_right))
   all_goals first|rfl|omega|trace_state
 · rw [show farI a b = a - b from if_neg h]
   refine Api.of_fin cfg_ok Tryz.func31 rfl (nt:=12) rfl rfl ?_
   conv=>whnf
   repeat' (first|exact trivial|((first|refine kL ?_|(refine ⟨fun hb=>?_,fun hb=>?_⟩<;>(try simp only [nrm] at hb)<;>(try (first|(exfalso;omega)|contradiction|exact kB hb)))|refine kW cfg_ok ?_|refine kC ?_|refine bdA ?_|refine bd2 ?_|refine bdR ?_|refine bdL ?_)<;>(conv=>whnf))|(refine And.intro ?_ ?_;rotate_left;(conv=>whnf);rotate_right))
   all_goals first|rfl|omega|trace_state
theorem far_near (a b r : Int) : nearB a b r = decide (farI a b ≤ r):=by
 unfold nearB farI
 by_cases h : a < b
 · rw [if_pos h,show max (a - b) (b - a) = b - a by omega]
 · rw [if_neg h,show max (a - b) (b - a) = a - b by omega]
theorem r19sees_api (w : Wld) (id r x y : Int) (hw : OkW w) : Api Tryz.prog 12 [wldV w,i64 id,i64 r,i64 x,i64 y] (bol (seesW w id r x y)):=by
 have hpl:=r13player_api w id hw
 cases hP : (playerW w id).2 with
 | false =>
   rw [hP] at hpl
   have hs : seesW w id r x y = false:=by unfold seesW;rw [hP];rfl
   rw [hs]
   generalize (playerW w id).1 = p at *
   refine Api.of_fin cfg_ok Tryz.func12 rfl (nt:=60) rfl rfl ?_
   conv=>whnf
   repeat' (first|exact trivial|((first|refine kL ?_|(refine ⟨fun hb=>?_,fun hb=>?_⟩<;>(try simp only [nrm] at hb)<;>(try (first|(exfalso;omega)|contradiction|exact kB hb)))|refine kA hpl ?_|refine kD hpl ?_|refine kW cfg_ok ?_|refine kC ?_|refine bdA ?_|refine bd2 ?_|refine bdR ?_|refine bdL ?_)<;>(conv=>whnf))|(refine And.intro ?_ ?_;rotate_left;(conv=>whnf);rotate_right))
   all_goals first|omega|rfl|trace_state
 | true =>
   rw [hP] at hpl
   have hRW:=player_right hP
   have hsz:=hRW.size
   have hpb:=within_bd hRW (player_mem hP).1
   by_cases hin : 0 ≤ r ∧ r ≤ 3 ∧ 0 ≤ x ∧ 0 ≤ y ∧ x < w.size ∧ y < w.size
   · have hs : seesW w id r x y = (decide (farI ((playerW w id).1.x / 8) x ≤ r) && decide (farI ((playerW w id).1.y / 8) y ≤ r)):=by
       unfold seesW
       rw [hP,decide_eq_true hin]
       show seesB _ r x y = _
       unfold seesB
       rw [far_near,far_near]
     rw [hs]
     generalize (playerW w id).1 = p at *
     have h1:=far19_api (p.x / 8) x (by omega) (by omega)
     have h2:=far19_api (p.y / 8) y (by omega) (by omega)
     generalize farI (p.x / 8) x = F1 at *
     generalize farI (p.y / 8) y = F2 at *
     clear hs
     by_cases c1 : F1 ≤ r
     · rw [decide_eq_true c1]
       by_cases c2 : F2 ≤ r
       · rw [decide_eq_true c2]
         refine Api.of_fin cfg_ok Tryz.func12 rfl (nt:=60) rfl rfl ?_
         conv=>whnf
         repeat' (first|exact trivial|((first|refine kL ?_|(refine ⟨fun hb=>?_,fun hb=>?_⟩<;>(try simp only [nrm] at hb)<;>(try (first|(exfalso;omega)|contradiction|exact kB hb)))|refine kA hpl ?_|refine kD hpl ?_|refine kA h1 ?_|refine kD h1 ?_|refine kA h2 ?_|refine kD h2 ?_|refine kW cfg_ok ?_|refine kC ?_|refine bdA ?_|refine bd2 ?_|refine bdR ?_|refine bdL ?_)<;>(conv=>whnf))|(refine And.intro ?_ ?_;rotate_left;(conv=>whnf);rotate_right))
         all_goals first|omega|rfl|(rw [decide_eq_true c2];rfl)|trace_state
       · rw [decide_eq_false c2]
         refine Api.of_fin cfg_ok Tryz.func12 rfl (nt:=60) rfl rfl ?_
         conv=>whnf
         repeat' (first|exact trivial|((first|refine kL ?_|(refine ⟨fun hb=>?_,fun hb=>?_⟩<;>(try simp only [nrm] at hb)<;>(try (first|(exfalso;omega)|contradiction|exact kB hb)))|refine kA hpl ?_|refine kD hpl ?_|refine kA h1 ?_|refine kD h1 ?_|refine kA h2 ?_|refine kD h2 ?_|refine kW cfg_ok ?_|refine kC ?_|refine bdA ?_|refine bd2 ?_|refine bdR ?_|refine bdL ?_)<;>(conv=>whnf))|(refine And.intro ?_ ?_;rotate_left;(conv=>whnf);rotate_right))
         all_goals first|omega|rfl|(rw [decide_eq_false c2];rfl)|trace_state
     · rw [decide_eq_false c1]
       refine Api.of_fin cfg_ok Tryz.func12 rfl (nt:=60) rfl rfl ?_
       conv=>whnf
       repeat' (first|exact trivial|((first|refine kL ?_|(refine ⟨fun hb=>?_,fun hb=>?_⟩<;>(try simp only [nrm] at hb)<;>(try (first|(exfalso;omega)|contradiction|exact kB hb)))|refine kA hpl ?_|refine kD hpl ?_|refine kA h1 ?_|refine kD h1 ?_|refine kA h2 ?_|refine kD h2 ?_|refine kW cfg_ok ?_|refine kC ?_|refine bdA ?_|refine bd2 ?_|refine bdR ?_|refine bdL ?_)<;>(conv=>whnf))|(refine And.intro ?_ ?_;rotate_left;(conv=>whnf);rotate_right))
       all_goals first|omega|rfl|trace_state
   · have hs : seesW w id r x y = false:=by unfold seesW;rw [hP,decide_eq_false hin];rfl
     rw [hs]
     generalize (playerW w id).1 = p at *
     refine Api.of_fin cfg_ok Tryz.func12 rfl (nt:=60) rfl rfl ?_
     conv=>whnf
     repeat' (first|exact trivial|((first|refine kL ?_|(refine ⟨fun hb=>?_,fun hb=>?_⟩<;>(try simp only [nrm] at hb)<;>(try (first|(exfalso;omega)|contradiction|exact kB hb)))|refine kA hpl ?_|refine kD hpl ?_|refine kW cfg_ok ?_|refine kC ?_|refine bdA ?_|refine bd2 ?_|refine bdR ?_|refine bdL ?_)<;>(conv=>whnf))|(refine And.intro ?_ ?_;rotate_left;(conv=>whnf);rotate_right))
     all_goals first|omega|rfl|trace_state
theorem r19of_api (w : Wld) (id r : Int) (hw : OkW w) : Api Tryz.prog 9 [wldV w,i64 id,i64 r] (.tup [viewV (ofW w id r).1,i64 (ofW w id r).2]):=by
 have hrt:=r13right_api w hw
 have hpl:=r13player_api w id hw
 have hnp:=hw.np
 by_cases hr : r < 0 ∨ 3 < r
 · have hs : ofW w id r = (zeroV,2):=by unfold ofW;rw [if_pos hr]
   rw [hs]
   refine Api.of_fin cfg_ok Tryz.func9 rfl (nt:=110) rfl rfl ?_
   conv=>whnf
   repeat' (first|exact trivial|((first|refine kL ?_|(refine ⟨fun hb=>?_,fun hb=>?_⟩<;>(try simp only [nrm] at hb)<;>(try (first|(exfalso;omega)|contradiction|exact kB hb)))|refine kA hrt ?_|refine kD hrt ?_|refine kA hpl ?_|refine kD hpl ?_|refine kW cfg_ok ?_|refine kC ?_|refine bdA ?_|refine bd2 ?_|refine bdR ?_|refine bdL ?_)<;>(conv=>whnf))|(refine And.intro ?_ ?_;rotate_left;(conv=>whnf);rotate_right))
   all_goals first|omega|rfl|trace_state
 · cases hR : rightW w with
   | false =>
     rw [hR] at hrt
     have hs : ofW w id r = (zeroV,113):=by unfold ofW;rw [if_neg hr,if_pos hR]
     rw [hs]
     refine Api.of_fin cfg_ok Tryz.func9 rfl (nt:=110) rfl rfl ?_
     conv=>whnf
     repeat' (first|exact trivial|((first|refine kL ?_|(refine ⟨fun hb=>?_,fun hb=>?_⟩<;>(try simp only [nrm] at hb)<;>(try (first|(exfalso;omega)|contradiction|exact kB hb)))|refine kA hrt ?_|refine kD hrt ?_|refine kA hpl ?_|refine kD hpl ?_|refine kW cfg_ok ?_|refine kC ?_|refine bdA ?_|refine bd2 ?_|refine bdR ?_|refine bdL ?_)<;>(conv=>whnf))|(refine And.intro ?_ ?_;rotate_left;(conv=>whnf);rotate_right))
     all_goals first|omega|rfl|trace_state
   | true =>
     rw [hR] at hrt
     have hRW:=rightW_iff.1 hR
     have hsz:=hRW.size
     cases hP : (playerW w id).2 with
     | false =>
       rw [hP] at hpl
       have hs : ofW w id r = (zeroV,110):=by unfold ofW;rw [if_neg hr,if_neg (by rw [hR];simp),if_pos hP]
       rw [hs]
       refine Api.of_fin cfg_ok Tryz.func9 rfl (nt:=110) rfl rfl ?_
       conv=>whnf
       repeat' (first|exact trivial|((first|refine kL ?_|(refine ⟨fun hb=>?_,fun hb=>?_⟩<;>(try simp only [nrm] at hb)<;>(try (first|(exfalso;omega)|contradiction|exact kB hb)))|refine kA hrt ?_|refine kD hrt ?_|refine kA hpl ?_|refine kD hpl ?_|refine kW cfg_ok ?_|refine kC ?_|refine bdA ?_|refine bd2 ?_|refine bdR ?_|refine bdL ?_)<;>(conv=>whnf))|(refine And.intro ?_ ?_;rotate_left;(conv=>whnf);rotate_right))
       all_goals first|omega|rfl|trace_state
     | true =>
       rw [hP] at hpl
       have hs : ofW w id r = (⟨w.tick,(playerW w id).1,rowsV w (playerW w id).1 r w.size.toNat w.size.toNat,othV w.players (playerW w id).1 r id w.players.length⟩,0):=by unfold ofW;rw [if_neg hr,if_neg (by rw [hR];simp),if_neg (by rw [hP];simp)]
       rw [hs]
       obtain ⟨S,hS⟩ : ∃ S : Nat,w.size = S:=⟨w.size.toNat,by omega⟩
       rw [hS,Int.toNat_natCast]
       have hse:=fun x y=>r19sees_api w id r x y hw
       have hsB : ∀ x y : Int,0 ≤ x ∧ x < S → 0 ≤ y ∧ y < S → seesW w id r x y = seesB (playerW w id).1 r x y:=fun x y hx hy=>by
         unfold seesW;rw [hP,decide_eq_true (show 0 ≤ r ∧ r ≤ 3 ∧ 0 ≤ x ∧ 0 ≤ y ∧ x < w.size ∧ y < w.size by omega)];rfl
       have hwb:=fun q hq=>@within_bd w hRW q hq
       have hwi:=fun q (hq : q ∈ w.players)=>(within_iff hRW).1 (hRW.players q hq).2
       generalize (playerW w id).1 = p at *
       have hch : ∃ G : Nat → Nat → Chunk,(∀ x y : Nat,G x y = (chunkW w (x : Nat) (y : Nat)).1) ∧ ∀ x y : Nat,x < S → y < S → Api Tryz.prog 28 [wldV w,i64 (x : Nat),i64 (y : Nat)] (.tup [chunkV (G x y),bol true]):=
         ⟨fun x y=>(chunkW w (x : Nat) (y : Nat)).1,fun x y=>rfl,fun x y hx hy=>by
           have h:=r13chunk_api w (x : Nat) (y : Nat) hw
           rw [show (chunkW w (x : Nat) (y : Nat)).2 = true by rw [(chunkW_in hRW (x:=x) (y:=y) (by omega) (by omega)).1]] at h
           exact h⟩
       obtain ⟨G,hG,hch⟩:=hch
       have hF : ∃ F : Nat → Nat → List Chunk,(∀ y,F y 0 = rowsV w p r S y) ∧ (∀ y,F y S = rowsV w p r S (y + 1)) ∧ (∀ y x : Nat,seesB p r (x : Nat) (y : Nat) = true → F y (x + 1) = F y x ++ [G x y]) ∧ (∀ y x : Nat,seesB p r (x : Nat) (y : Nat) = false → F y (x + 1) = F y x) ∧ (∀ y x : Nat,y ≤ S → x ≤ S → (F y x).length ≤ 272):=
         ⟨accV w p r S,fun y=>accV_zero w p r S y,fun y=>accV_end w p r S y,fun y x h=>by rw [accV_yes h,hG],fun y x h=>accV_no h,fun y x hy hx=>rowsV_bd w p r (s:=S) (y:=y) (k:=x) (by omega) (by omega) hx⟩
       obtain ⟨F,f0,f1,f2,f3,f4⟩:=hF
       have hRl : ∀ y,(rowsV w p r S y).length ≤ y * S:=rowsV_len w p r S
       have hO : ∃ O : Nat → List Seen,O 0 = [] ∧ (∀ k,k < w.players.length → O (k + 1) = O k ++ (if othB p r id (elt .player w.players k) = true then [seenP (elt .player w.players k)] else [])) ∧ (∀ k,(O k).length ≤ w.players.length) ∧ O w.players.length = othV w.players p r id w.players.length:=
         ⟨othV w.players p r id,rfl,fun k hk=>othV_succ hk,fun k=>othV_len w.players p r id k,rfl⟩
       obtain ⟨O,o0,o1,o2,o3⟩:=hO
       rw [← o3]
       have hR0 : rowsV w p r S 0 = []:=rfl
       generalize rowsV w p r S = R at *
       clear o3 hG
       refine Api.of_fin cfg_ok Tryz.func9 rfl (nt:=110) rfl rfl ?_
       conv=>whnf
       repeat' (first|exact trivial|((first|refine kL ?_|(refine ⟨fun hb=>?_,fun hb=>?_⟩<;>(try simp only [nrm] at hb)<;>(try (first|(exfalso;omega)|contradiction|exact kB hb)))|refine kA hrt ?_|refine kD hrt ?_|refine kA hpl ?_|refine kD hpl ?_|refine kW cfg_ok ?_|refine kC ?_|refine bdA ?_|refine bd2 ?_|refine bdR ?_|refine bdL ?_)<;>(conv=>whnf))|(refine And.intro ?_ ?_;rotate_left;(conv=>whnf);rotate_right))
       all_goals try omega
       refine Runs.loopQ cfg_ok (σ:=Nat) [1,2,3,6,10,11] (fun y=>[i64 id,i64 r,.ptr 6 0,.ptr 12 0,.ptr 20 0,i64 y])
         (fun y=>[(6,.box (wldC w)),(12,.box (viewC zeroV)),(20,.box (viewO w.tick p 150001 (R y).length 150003 0)),(150001,.row .chunk (R y)),(150003,.row .seen [])])
         (fun y=>y ≤ S) (fun y=>S - y) 0 (by omega) ?_ ?_
       · conv=>whnf
         repeat' (first|exact trivial|((first|refine kL ?_|(refine ⟨fun hb=>?_,fun hb=>?_⟩<;>(try simp only [nrm] at hb)<;>(try (first|(exfalso;omega)|contradiction|exact kB hb)))|refine kW cfg_ok ?_|refine kC ?_|refine bdA ?_|refine bd2 ?_|refine bdR ?_|refine bdL ?_)<;>(conv=>whnf))|(refine And.intro ?_ ?_;rotate_left;(conv=>whnf);rotate_right))
         all_goals first|rfl|omega|(rw [hR0];done)|(rw [hR0];rfl)|trace_state
       · intro y hy N1 hN1 hE1 hT1
         by_cases hlt : y < S
         · have hz:=f0 y
           conv=>whnf
           repeat' (first|exact trivial|((first|refine kL ?_|(refine ⟨fun hb=>?_,fun hb=>?_⟩<;>(try simp only [nrm] at hb)<;>(try (first|(exfalso;omega)|contradiction|exact kB hb)))|refine kW cfg_ok ?_|refine kC ?_|refine bdA ?_|refine bd2 ?_|refine bdR ?_|refine bdL ?_)<;>(conv=>whnf))|(refine And.intro ?_ ?_;rotate_left;(conv=>whnf);rotate_right))
           all_goals try omega
           refine Runs.loopQ cfg_ok (σ:=Nat) [1,2,3,6,10,11,12] (fun x=>[i64 id,i64 r,.ptr 6 0,.ptr 12 0,.ptr 20 0,i64 y,i64 x])
             (fun x=>[(6,.box (wldC w)),(12,.box (viewC zeroV)),(20,.box (viewO w.tick p 150001 (F y x).length 150003 0)),(150001,.row .chunk (F y x)),(150003,.row .seen [])])
             (fun x=>x ≤ S) (fun x=>S - x) 0 (by omega) ?_ ?_
           · conv=>whnf
             repeat' (first|exact trivial|((first|refine kL ?_|(refine ⟨fun hb=>?_,fun hb=>?_⟩<;>(try simp only [nrm] at hb)<;>(try (first|(exfalso;omega)|contradiction|exact kB hb)))|refine kW cfg_ok ?_|refine kC ?_|refine bdA ?_|refine bd2 ?_|refine bdR ?_|refine bdL ?_)<;>(conv=>whnf))|(refine And.intro ?_ ?_;rotate_left;(conv=>whnf);rotate_right))
             all_goals first|rfl|omega|(rw [hz];done)|(rw [hz];exact List.take_length)|trace_state
           · intro x hx N2 hN2 hE2 hT2
             by_cases hlx : x < S
             · have hd : (F y x).length ≤ 272:=f4 y x hy hx
               have hcl:=hse x y
               rw [hsB x y (by omega) (by omega)] at hcl
               have hch:=hch x y hlx hlt
               cases hq : seesB p r x y with
               | true =>
                 rw [hq] at hcl
                 have hsu:=f2 y x hq
                 conv=>whnf
                 repeat' (first|exact trivial|((first|refine kL ?_|(refine ⟨fun hb=>?_,fun hb=>?_⟩<;>(try simp only [nrm] at hb)<;>(try (first|(exfalso;omega)|contradiction|exact kB hb)))|refine kA hcl ?_|refine kD hcl ?_|refine kA hch ?_|refine kD hch ?_|refine kW cfg_ok ?_|refine kC ?_|refine bdA ?_|refine bd2 ?_|refine bdR ?_|refine bdL ?_)<;>(conv=>whnf))|(refine And.intro ?_ ?_;rotate_left;(conv=>whnf);rotate_right))
                 all_goals try omega
                 all_goals
                   refine hN2 _ _ ?_
                   conv=>whnf
                   refine .to (x + 1) (by omega) (by omega) ?_
                   conv=>whnf
                   repeat' (first|exact trivial|((first|refine kL ?_|(refine ⟨fun hb=>?_,fun hb=>?_⟩<;>(try simp only [nrm] at hb)<;>(try (first|(exfalso;omega)|contradiction|exact kB hb)))|refine kW cfg_ok ?_|refine kC ?_|refine bdA ?_|refine bd2 ?_|refine bdR ?_|refine bdL ?_)<;>(conv=>whnf))|(refine And.intro ?_ ?_;rotate_left;(conv=>whnf);rotate_right))
                   all_goals first|rfl|omega|(rw [hsu];simp;done)|(rw [hsu];exact List.take_of_length_le (by simp))|(rw [hsu,List.take_of_length_le (by simp),List.take_of_length_le (by simp)];rfl)|(rw [hsu,List.take_of_length_le (by simp)];simp;done)|trace_state
               | false =>
                 rw [hq] at hcl
                 have hsu:=f3 y x hq
                 conv=>whnf
                 repeat' (first|exact trivial|((first|refine kL ?_|(refine ⟨fun hb=>?_,fun hb=>?_⟩<;>(try simp only [nrm] at hb)<;>(try (first|(exfalso;omega)|contradiction|exact kB hb)))|refine kA hcl ?_|refine kD hcl ?_|refine kA hch ?_|refine kD hch ?_|refine kW cfg_ok ?_|refine kC ?_|refine bdA ?_|refine bd2 ?_|refine bdR ?_|refine bdL ?_)<;>(conv=>whnf))|(refine And.intro ?_ ?_;rotate_left;(conv=>whnf);rotate_right))
                 all_goals try omega
                 all_goals
                   refine hN2 _ _ ?_
                   conv=>whnf
                   refine .to (x + 1) (by omega) (by omega) ?_
                   conv=>whnf
                   repeat' (first|exact trivial|((first|refine kL ?_|(refine ⟨fun hb=>?_,fun hb=>?_⟩<;>(try simp only [nrm] at hb)<;>(try (first|(exfalso;omega)|contradiction|exact kB hb)))|refine kW cfg_ok ?_|refine kC ?_|refine bdA ?_|refine bd2 ?_|refine bdR ?_|refine bdL ?_)<;>(conv=>whnf))|(refine And.intro ?_ ?_;rotate_left;(conv=>whnf);rotate_right))
                   all_goals first|rfl|omega|(rw [hsu];done)|(rw [hsu];exact List.take_length)|trace_state
             · obtain rfl : x = S:=by omega
               have hsu:=f1 y
               conv=>whnf
               repeat' (first|exact trivial|((first|refine kL ?_|(refine ⟨fun hb=>?_,fun hb=>?_⟩<;>(try simp only [nrm] at hb)<;>(try (first|(exfalso;omega)|contradiction|exact kB hb)))|refine kW cfg_ok ?_|refine kC ?_|refine bdA ?_|refine bd2 ?_|refine bdR ?_|refine bdL ?_)<;>(conv=>whnf))|(refine And.intro ?_ ?_;rotate_left;(conv=>whnf);rotate_right))
               all_goals try omega
               refine hE2 _ _ _ ?_
               conv=>whnf
               repeat' (first|exact trivial|((first|refine kL ?_|(refine ⟨fun hb=>?_,fun hb=>?_⟩<;>(try simp only [nrm] at hb)<;>(try (first|(exfalso;omega)|contradiction|exact kB hb)))|refine kW cfg_ok ?_|refine kC ?_|refine bdA ?_|refine bd2 ?_|refine bdR ?_|refine bdL ?_)<;>(conv=>whnf))|(refine And.intro ?_ ?_;rotate_left;(conv=>whnf);rotate_right))
               all_goals try omega
               refine hN1 _ _ ?_
               conv=>whnf
               refine .to (y + 1) (by omega) (by omega) ?_
               conv=>whnf
               repeat' (first|exact trivial|((first|refine kL ?_|(refine ⟨fun hb=>?_,fun hb=>?_⟩<;>(try simp only [nrm] at hb)<;>(try (first|(exfalso;omega)|contradiction|exact kB hb)))|refine kW cfg_ok ?_|refine kC ?_|refine bdA ?_|refine bd2 ?_|refine bdR ?_|refine bdL ?_)<;>(conv=>whnf))|(refine And.intro ?_ ?_;rotate_left;(conv=>whnf);rotate_right))
               all_goals first|rfl|omega|(rw [hsu];done)|(rw [hsu];exact List.take_length)|trace_state
         · obtain rfl : y = S:=by omega
           have hln:=hRl y
           have hln2 : y * y ≤ 16 * 16:=Nat.mul_le_mul (by omega) (by omega)
           conv=>whnf
           repeat' (first|exact trivial|((first|refine kL ?_|(refine ⟨fun hb=>?_,fun hb=>?_⟩<;>(try simp only [nrm] at hb)<;>(try (first|(exfalso;omega)|contradiction|exact kB hb)))|refine kW cfg_ok ?_|refine kC ?_|refine bdA ?_|refine bd2 ?_|refine bdR ?_|refine bdL ?_)<;>(conv=>whnf))|(refine And.intro ?_ ?_;rotate_left;(conv=>whnf);rotate_right))
           all_goals try omega
           refine hE1 _ _ _ ?_
           conv=>whnf
           repeat' (first|exact trivial|((first|refine kL ?_|(refine ⟨fun hb=>?_,fun hb=>?_⟩<;>(try simp only [nrm] at hb)<;>(try (first|(exfalso;omega)|contradiction|exact kB hb)))|refine kW cfg_ok ?_|refine kC ?_|refine bdA ?_|refine bd2 ?_|refine bdR ?_|refine bdL ?_)<;>(conv=>whnf))|(refine And.intro ?_ ?_;rotate_left;(conv=>whnf);rotate_right))
           all_goals try omega
           refine Runs.loopQ cfg_ok (σ:=Nat) [1,2,3,6,10,15] (fun k=>[i64 id,i64 r,.ptr 6 0,.ptr 12 0,.ptr 20 0,i64 k])
             (fun k=>[(6,.box (wldC w)),(12,.box (viewC zeroV)),(20,.box (viewO w.tick p 150001 (R y).length 150003 (O k).length)),(150001,.row .chunk (R y)),(150003,.row .seen (O k))])
             (fun k=>k ≤ w.players.length) (fun k=>w.players.length - k) 0 (by omega) ?_ ?_
           · conv=>whnf
             repeat' (first|exact trivial|((first|refine kL ?_|(refine ⟨fun hb=>?_,fun hb=>?_⟩<;>(try simp only [nrm] at hb)<;>(try (first|(exfalso;omega)|contradiction|exact kB hb)))|refine kW cfg_ok ?_|refine kC ?_|refine bdA ?_|refine bd2 ?_|refine bdR ?_|refine bdL ?_)<;>(conv=>whnf))|(refine And.intro ?_ ?_;rotate_left;(conv=>whnf);rotate_right))
             all_goals first|rfl|omega|(rw [o0];done)|(rw [o0];rfl)|exact List.take_length|trace_state
           · intro k hk N3 hN3 hE3 hT3
             by_cases hlk : k < w.players.length
             · have hmem : elt .player w.players k ∈ w.players:=elt_mem (t:=.player) hlk
               have hb1:=hwi _ hmem
               have hb2 : 0 ≤ (elt .player w.players ((k : Nat) : Int).toNat).x ∧ (elt .player w.players ((k : Nat) : Int).toNat).x < 128 ∧ 0 ≤ (elt .player w.players ((k : Nat) : Int).toNat).y ∧ (elt .player w.players ((k : Nat) : Int).toNat).y < 128:=hwb _ hmem
               have ho1:=o1 k hlk
               have ho2:=o2 k
               have hcl:=hse ((elt .player w.players k).x / 8) ((elt .player w.players k).y / 8)
               rw [hsB _ _ (by omega) (by omega)] at hcl
               have hdef : othB p r id (elt .player w.players k) = (!(decide ((elt .player w.players k).id = id)) && seesB p r ((elt .player w.players k).x / 8) ((elt .player w.players k).y / 8)):=rfl
               by_cases hid : (elt .player w.players k).id = id
               · rw [hdef,decide_eq_true hid] at ho1
                 replace ho1 : O (k + 1) = O k:=by rw [ho1];simp
                 conv=>whnf
                 repeat' (first|exact trivial|((first|refine kL ?_|(refine ⟨fun hb=>?_,fun hb=>?_⟩<;>(try simp only [nrm] at hb)<;>(try (first|(exfalso;omega)|contradiction|exact kB hb)))|refine kA hcl ?_|refine kD hcl ?_|refine kW cfg_ok ?_|refine kC ?_|refine bdA ?_|refine bd2 ?_|refine bdR ?_|refine bdL ?_)<;>(conv=>whnf))|(refine And.intro ?_ ?_;rotate_left;(conv=>whnf);rotate_right))
                 all_goals try omega
                 all_goals
                   refine hN3 _ _ ?_
                   conv=>whnf
                   refine .to (k + 1) (by omega) (by omega) ?_
                   conv=>whnf
                   repeat' (first|exact trivial|((first|refine kL ?_|(refine ⟨fun hb=>?_,fun hb=>?_⟩<;>(try simp only [nrm] at hb)<;>(try (first|(exfalso;omega)|contradiction|exact kB hb)))|refine kW cfg_ok ?_|refine kC ?_|refine bdA ?_|refine bd2 ?_|refine bdR ?_|refine bdL ?_)<;>(conv=>whnf))|(refine And.intro ?_ ?_;rotate_left;(conv=>whnf);rotate_right))
                   all_goals first|rfl|omega|exact List.take_length|(rw [ho1];done)|(rw [ho1];exact List.take_length)|trace_state
               · rw [hdef,decide_eq_false hid] at ho1
                 cases hq : seesB p r ((elt .player w.players k).x / 8) ((elt .player w.players k).y / 8) with
                 | true =>
                   rw [hq] at hcl ho1
                   replace ho1 : O (k + 1) = O k ++ [seenP (elt .player w.players k)]:=by rw [ho1];simp
                   conv=>whnf
                   repeat' (first|exact trivial|((first|refine kL ?_|(refine ⟨fun hb=>?_,fun hb=>?_⟩<;>(try simp only [nrm] at hb)<;>(try (first|(exfalso;omega)|contradiction|exact kB hb)))|refine kA hcl ?_|refine kD hcl ?_|refine kW cfg_ok ?_|refine kC ?_|refine bdA ?_|refine bd2 ?_|refine bdR ?_|refine bdL ?_)<;>(conv=>whnf))|(refine And.intro ?_ ?_;rotate_left;(conv=>whnf);rotate_right))
                   all_goals try omega
                   all_goals
                     refine hN3 _ _ ?_
                     conv=>whnf
                     refine .to (k + 1) (by omega) (by omega) ?_
                     conv=>whnf
                     repeat' (first|exact trivial|((first|refine kL ?_|(refine ⟨fun hb=>?_,fun hb=>?_⟩<;>(try simp only [nrm] at hb)<;>(try (first|(exfalso;omega)|contradiction|exact kB hb)))|refine kW cfg_ok ?_|refine kC ?_|refine bdA ?_|refine bd2 ?_|refine bdR ?_|refine bdL ?_)<;>(conv=>whnf))|(refine And.intro ?_ ?_;rotate_left;(conv=>whnf);rotate_right))
                     all_goals first|rfl|omega|exact List.take_length|(rw [ho1];simp;done)|(rw [ho1];exact List.take_of_length_le (by simp))|(rw [ho1,List.take_of_length_le (by simp),List.take_of_length_le (by simp)];rfl)|(rw [ho1,List.take_of_length_le (by simp)];simp;done)|trace_state
                 | false =>
                   rw [hq] at hcl ho1
                   replace ho1 : O (k + 1) = O k:=by rw [ho1];simp
                   conv=>whnf
                   repeat' (first|exact trivial|((first|refine kL ?_|(refine ⟨fun hb=>?_,fun hb=>?_⟩<;>(try simp only [nrm] at hb)<;>(try (first|(exfalso;omega)|contradiction|exact kB hb)))|refine kA hcl ?_|refine kD hcl ?_|refine kW cfg_ok ?_|refine kC ?_|refine bdA ?_|refine bd2 ?_|refine bdR ?_|refine bdL ?_)<;>(conv=>whnf))|(refine And.intro ?_ ?_;rotate_left;(conv=>whnf);rotate_right))
                   all_goals try omega
                   all_goals
                     refine hN3 _ _ ?_
                     conv=>whnf
                     refine .to (k + 1) (by omega) (by omega) ?_
                     conv=>whnf
                     repeat' (first|exact trivial|((first|refine kL ?_|(refine ⟨fun hb=>?_,fun hb=>?_⟩<;>(try simp only [nrm] at hb)<;>(try (first|(exfalso;omega)|contradiction|exact kB hb)))|refine kW cfg_ok ?_|refine kC ?_|refine bdA ?_|refine bd2 ?_|refine bdR ?_|refine bdL ?_)<;>(conv=>whnf))|(refine And.intro ?_ ?_;rotate_left;(conv=>whnf);rotate_right))
                     all_goals first|rfl|omega|exact List.take_length|(rw [ho1];done)|(rw [ho1];exact List.take_length)|trace_state
             · obtain rfl : k = w.players.length:=by omega
               conv=>whnf
               repeat' (first|exact trivial|((first|refine kL ?_|(refine ⟨fun hb=>?_,fun hb=>?_⟩<;>(try simp only [nrm] at hb)<;>(try (first|(exfalso;omega)|contradiction|exact kB hb)))|refine kW cfg_ok ?_|refine kC ?_|refine bdA ?_|refine bd2 ?_|refine bdR ?_|refine bdL ?_)<;>(conv=>whnf))|(refine And.intro ?_ ?_;rotate_left;(conv=>whnf);rotate_right))
               all_goals try omega
               refine hE3 _ _ _ ?_
               conv=>whnf
               repeat' (first|exact trivial|((first|refine kL ?_|(refine ⟨fun hb=>?_,fun hb=>?_⟩<;>(try simp only [nrm] at hb)<;>(try (first|(exfalso;omega)|contradiction|exact kB hb)))|refine kW cfg_ok ?_|refine kC ?_|refine bdA ?_|refine bd2 ?_|refine bdR ?_|refine bdL ?_)<;>(conv=>whnf))|(refine And.intro ?_ ?_;rotate_left;(conv=>whnf);rotate_right))
               all_goals first|rfl|omega|exact List.take_length|(rw [List.drop_zero];exact List.take_length)|trace_state
open Go Go.RowKit Eng
theorem r19right_api (v : Viw) (hv : OkV v) : Api Tryz.prog 15 [viewV v] (bol (rightV v)):=by
 have hnc:=hv.nc
 have hno:=hv.no
 have hset:=api_weak (r13set_api wv16 v.me okWv16 hv.me) (.cons (Le.agg (.cons (Le.refl _) (.cons (Le.refl _) (.cons (Le.refl _) (.cons (Le.nil _) (.cons (Le.nil _) .nil)))))) (.cons (Le.refl _) .nil))
 by_cases hh : headV v = true
 · have hh':=hh
   unfold headV at hh'
   rw [decide_eq_true_eq] at hh'
   obtain ⟨h1,h2,h3,h4,h5⟩:=hh'
   generalize (setW wv16 v.me).1 = X at *
   generalize (setW wv16 v.me).2 = e at *
   subst h1
   have hR : rightV v = ((List.range v.chunks.length).all (okCh v.chunks) && (List.range v.others.length).all (okOt v.me.id v.others)):=by unfold rightV;rw [hh,Bool.true_and]
   rw [hR]
   clear hR hh
   refine Api.of_fin cfg_ok Tryz.func15 rfl (nt:=147) rfl rfl ?_
   conv=>whnf
   repeat' (first|exact trivial|((first|refine kL ?_|(refine ⟨fun hb=>?_,fun hb=>?_⟩<;>(try simp only [nrm] at hb)<;>(try (first|(exfalso;omega)|contradiction|exact kB hb)))|refine kA hset ?_|refine kD hset ?_|refine kW cfg_ok ?_|refine kC ?_|refine bdA ?_|refine bd2 ?_|refine bdR ?_|refine bdL ?_)<;>(conv=>whnf))|(refine And.intro ?_ ?_;rotate_left;(conv=>whnf);rotate_right))
   all_goals try omega
   refine Runs.loopS cfg_ok (σ:=Nat) [1,5] (fun k=>[.ptr 2 0,i64 k]) (fun _=>[(2,.box (viewC v))]) (fun k=>k ≤ v.chunks.length ∧ ∀ i < k,okCh v.chunks i = true) (fun k=>v.chunks.length - k) 0 ⟨by omega,by omega⟩ ?_ ?_
   · conv=>whnf
     repeat' (first|exact trivial|((first|refine kL ?_|(refine ⟨fun hb=>?_,fun hb=>?_⟩<;>(try simp only [nrm] at hb)<;>(try (first|(exfalso;omega)|contradiction|exact kB hb)))|refine kW cfg_ok ?_|refine kC ?_|refine bdA ?_|refine bd2 ?_|refine bdR ?_|refine bdL ?_)<;>(conv=>whnf))|(refine And.intro ?_ ?_;rotate_left;(conv=>whnf);rotate_right))
     all_goals first|rfl|omega|trace_state
   · rintro k ⟨hk,hall⟩
     by_cases hlt : k < v.chunks.length
     · have hcr:=r11right_api (elt .chunk v.chunks k) (hv.chunks _ (elt_mem (t:=.chunk) hlt))
       have hkk : (((k : Nat) : Int) - 1).toNat = k - 1:=by omega
       have hQ : okCh v.chunks k = (rightB (elt .chunk v.chunks k) && (decide (k = 0) || decide (orderI (elt .chunk v.chunks (((k : Nat) : Int) - 1).toNat) (elt .chunk v.chunks k) < 0))):=by rw [hkk];rfl
       cases hB : rightB (elt .chunk v.chunks k) with
       | false =>
         have hF : ((List.range v.chunks.length).all (okCh v.chunks) && (List.range v.others.length).all (okOt v.me.id v.others)) = false:=by
           rw [all_false hlt (by rw [hQ,hB];rfl)];rfl
         rw [hF]
         rw [hB] at hcr
         clear hF hQ hall
         conv=>whnf
         repeat' (first|exact trivial|((first|refine kL ?_|(refine ⟨fun hb=>?_,fun hb=>?_⟩<;>(try simp only [nrm] at hb)<;>(try (first|(exfalso;omega)|contradiction|exact kB hb)))|refine kA hcr ?_|refine kD hcr ?_|refine kW cfg_ok ?_|refine kC ?_|refine bdA ?_|refine bd2 ?_|refine bdR ?_|refine bdL ?_)<;>(conv=>whnf))|(refine And.intro ?_ ?_;rotate_left;(conv=>whnf);rotate_right))
         all_goals first|rfl|omega|trace_state
       | true =>
         rw [hB] at hcr
         have hb1:=rightB_pos hB
         have hb3 : 0 ≤ (elt .chunk v.chunks ((k : Nat) : Int).toNat).x ∧ 0 ≤ (elt .chunk v.chunks ((k : Nat) : Int).toNat).y ∧ (elt .chunk v.chunks ((k : Nat) : Int).toNat).x < 16 ∧ (elt .chunk v.chunks ((k : Nat) : Int).toNat).y < 16:=hb1
         have hb2 : 0 < k → 0 ≤ (elt .chunk v.chunks (((k : Nat) : Int) - 1).toNat).x ∧ 0 ≤ (elt .chunk v.chunks (((k : Nat) : Int) - 1).toNat).y ∧ (elt .chunk v.chunks (((k : Nat) : Int) - 1).toNat).x < 16 ∧ (elt .chunk v.chunks (((k : Nat) : Int) - 1).toNat).y < 16:=fun h0=>by
           rw [hkk]
           have h9:=hall (k - 1) (by omega)
           unfold okCh at h9
           rw [Bool.and_eq_true] at h9
           exact rightB_pos h9.1
         have hok : 0 < k → (orderI (elt .chunk v.chunks (((k : Nat) : Int) - 1).toNat) (elt .chunk v.chunks k) < 0 ↔ keyC (elt .chunk v.chunks (((k : Nat) : Int) - 1).toNat) < keyC (elt .chunk v.chunks k)):=fun h0=>(order_key ⟨(hb2 h0).1,(hb2 h0).2.2.1⟩ ⟨hb1.1,hb1.2.2.1⟩).1
         unfold keyC at hok
         generalize orderI (elt .chunk v.chunks (((k : Nat) : Int) - 1).toNat) (elt .chunk v.chunks k) = O at *
         clear hkk
         by_cases hO : k = 0 ∨ O < 0
         · have hT : okCh v.chunks k = true:=by
             rw [hQ,hB,Bool.true_and,Bool.or_eq_true,decide_eq_true_eq,decide_eq_true_eq];exact hO
           clear hQ
           conv=>whnf
           repeat' (first|exact trivial|((first|refine kL ?_|(refine ⟨fun hb=>?_,fun hb=>?_⟩<;>(try simp only [nrm] at hb)<;>(try (first|(exfalso;omega)|contradiction|exact kB hb)))|refine kA hcr ?_|refine kD hcr ?_|refine kW cfg_ok ?_|refine kC ?_|refine bdA ?_|refine bd2 ?_|refine bdR ?_|refine bdL ?_)<;>(conv=>whnf))|(refine And.intro ?_ ?_;rotate_left;(conv=>whnf);rotate_right))
           all_goals try omega
           all_goals
             refine .to (k + 1) ⟨hlt,fun i hi=>?_⟩ (by omega) ?_
             · by_cases hik : i = k
               · rw [hik];exact hT
               · exact hall i (by omega)
             conv=>whnf
             repeat' (first|exact trivial|((first|refine kL ?_|(refine ⟨fun hb=>?_,fun hb=>?_⟩<;>(try simp only [nrm] at hb)<;>(try (first|(exfalso;omega)|contradiction|exact kB hb)))|refine kW cfg_ok ?_|refine kC ?_|refine bdA ?_|refine bd2 ?_|refine bdR ?_|refine bdL ?_)<;>(conv=>whnf))|(refine And.intro ?_ ?_;rotate_left;(conv=>whnf);rotate_right))
             all_goals first|rfl|omega|trace_state
         · have hF : ((List.range v.chunks.length).all (okCh v.chunks) && (List.range v.others.length).all (okOt v.me.id v.others)) = false:=by
             rw [all_false hlt (by rw [hQ,hB,Bool.true_and,Bool.or_eq_false_iff,decide_eq_false_iff_not,decide_eq_false_iff_not];exact ⟨fun h=>hO (.inl h),fun h=>hO (.inr h)⟩)];rfl
           rw [hF]
           clear hF hQ hall
           conv=>whnf
           repeat' (first|exact trivial|((first|refine kL ?_|(refine ⟨fun hb=>?_,fun hb=>?_⟩<;>(try simp only [nrm] at hb)<;>(try (first|(exfalso;omega)|contradiction|exact kB hb)))|refine kA hcr ?_|refine kD hcr ?_|refine kW cfg_ok ?_|refine kC ?_|refine bdA ?_|refine bd2 ?_|refine bdR ?_|refine bdL ?_)<;>(conv=>whnf))|(refine And.intro ?_ ?_;rotate_left;(conv=>whnf);rotate_right))
           all_goals first|rfl|omega|trace_state
     · obtain rfl : k = v.chunks.length:=by omega
       rw [all_true hall,Bool.true_and]
       conv=>whnf
       repeat' (first|exact trivial|((first|refine kL ?_|(refine ⟨fun hb=>?_,fun hb=>?_⟩<;>(try simp only [nrm] at hb)<;>(try (first|(exfalso;omega)|contradiction|exact kB hb)))|refine kW cfg_ok ?_|refine kC ?_|refine bdA ?_|refine bd2 ?_|refine bdR ?_|refine bdL ?_)<;>(conv=>whnf))|(refine And.intro ?_ ?_;rotate_left;(conv=>whnf);rotate_right))
       all_goals try omega
       refine Runs.loopS cfg_ok (σ:=Nat) [1,7] (fun k=>[.ptr 2 0,i64 k]) (fun _=>[(2,.box (viewC v))]) (fun k=>k ≤ v.others.length ∧ ∀ i < k,okOt v.me.id v.others i = true) (fun k=>v.others.length - k) 0 ⟨by omega,by omega⟩ ?_ ?_
       · conv=>whnf
         repeat' (first|exact trivial|((first|refine kL ?_|(refine ⟨fun hb=>?_,fun hb=>?_⟩<;>(try simp only [nrm] at hb)<;>(try (first|(exfalso;omega)|contradiction|exact kB hb)))|refine kW cfg_ok ?_|refine kC ?_|refine bdA ?_|refine bd2 ?_|refine bdR ?_|refine bdL ?_)<;>(conv=>whnf))|(refine And.intro ?_ ?_;rotate_left;(conv=>whnf);rotate_right))
         all_goals first|rfl|omega|trace_state
       · rintro k ⟨hk,hall⟩
         by_cases hlt : k < v.others.length
         · have hkk : (((k : Nat) : Int) - 1).toNat = k - 1:=by omega
           have hQ : okOt v.me.id v.others k = true ↔ (0 ≤ (elt .seen v.others k).id ∧ (elt .seen v.others k).id ≤ 1073741824 ∧ (elt .seen v.others k).id ≠ v.me.id ∧ 0 ≤ min (elt .seen v.others k).x (elt .seen v.others k).y ∧ max (elt .seen v.others k).x (elt .seen v.others k).y < 128 ∧ (k = 0 ∨ (elt .seen v.others (((k : Nat) : Int) - 1).toNat).id < (elt .seen v.others k).id)):=by
             rw [hkk];unfold okOt;rw [decide_eq_true_eq]
           clear hkk
           by_cases hO : okOt v.me.id v.others k = true
           · have hO2:=hQ.1 hO
             clear hQ
             conv=>whnf
             repeat' (first|exact trivial|((first|refine kL ?_|(refine ⟨fun hb=>?_,fun hb=>?_⟩<;>(try simp only [nrm] at hb)<;>(try (first|(exfalso;omega)|contradiction|exact kB hb)))|refine kW cfg_ok ?_|refine kC ?_|refine bdA ?_|refine bd2 ?_|refine bdR ?_|refine bdL ?_)<;>(conv=>whnf))|(refine And.intro ?_ ?_;rotate_left;(conv=>whnf);rotate_right))
             all_goals try omega
             all_goals
               refine .to (k + 1) ⟨hlt,fun i hi=>?_⟩ (by omega) ?_
               · by_cases hik : i = k
                 · rw [hik];exact hO
                 · exact hall i (by omega)
               conv=>whnf
               repeat' (first|exact trivial|((first|refine kL ?_|(refine ⟨fun hb=>?_,fun hb=>?_⟩<;>(try simp only [nrm] at hb)<;>(try (first|(exfalso;omega)|contradiction|exact kB hb)))|refine kW cfg_ok ?_|refine kC ?_|refine bdA ?_|refine bd2 ?_|refine bdR ?_|refine bdL ?_)<;>(conv=>whnf))|(refine And.intro ?_ ?_;rotate_left;(conv=>whnf);rotate_right))
               all_goals first|rfl|omega|trace_state
           · have hF:=all_false hlt (Bool.eq_false_iff.2 hO)
             rw [hF]
             have hO2 : ¬ (0 ≤ (elt .seen v.others k).id ∧ (elt .seen v.others k).id ≤ 1073741824 ∧ (elt .seen v.others k).id ≠ v.me.id ∧ 0 ≤ min (elt .seen v.others k).x (elt .seen v.others k).y ∧ max (elt .seen v.others k).x (elt .seen v.others k).y < 128 ∧ (k = 0 ∨ (elt .seen v.others (((k : Nat) : Int) - 1).toNat).id < (elt .seen v.others k).id)):=fun h=>hO (hQ.2 h)
             clear hQ hF hO hall
             conv=>whnf
             repeat' (first|exact trivial|((first|refine kL ?_|(refine ⟨fun hb=>?_,fun hb=>?_⟩<;>(try simp only [nrm] at hb)<;>(try (first|(exfalso;omega)|contradiction|exact kB hb)))|refine kW cfg_ok ?_|refine kC ?_|refine bdA ?_|refine bd2 ?_|refine bdR ?_|refine bdL ?_)<;>(conv=>whnf))|(refine And.intro ?_ ?_;rotate_left;(conv=>whnf);rotate_right))
             all_goals first|rfl|omega|trace_state
         · obtain rfl : k = v.others.length:=by omega
           rw [all_true hall]
           conv=>whnf
           repeat' (first|exact trivial|((first|refine kL ?_|(refine ⟨fun hb=>?_,fun hb=>?_⟩<;>(try simp only [nrm] at hb)<;>(try (first|(exfalso;omega)|contradiction|exact kB hb)))|refine kW cfg_ok ?_|refine kC ?_|refine bdA ?_|refine bd2 ?_|refine bdR ?_|refine bdL ?_)<;>(conv=>whnf))|(refine And.intro ?_ ?_;rotate_left;(conv=>whnf);rotate_right))
           all_goals first|rfl|omega|trace_state
 · have hR : rightV v = false:=by unfold rightV;rw [Bool.eq_false_iff.2 hh];rfl
   rw [hR]
   have hh' : ¬ ((setW wv16 v.me).2 = 0 ∧ 0 ≤ v.tick ∧ v.tick ≤ 1099511627776 ∧ v.chunks.length ≤ 49 ∧ v.others.length ≤ 32):=by
     intro h;exact hh (by unfold headV;rw [decide_eq_true_eq];exact h)
   have hn:=set_num wv16 v.me
   generalize (setW wv16 v.me).1 = X at *
   generalize (setW wv16 v.me).2 = e at *
   refine Api.of_fin cfg_ok Tryz.func15 rfl (nt:=147) rfl rfl ?_
   conv=>whnf
   repeat' (first|exact trivial|((first|refine kL ?_|(refine ⟨fun hb=>?_,fun hb=>?_⟩<;>(try simp only [nrm] at hb)<;>(try (first|(exfalso;omega)|contradiction|exact kB hb)))|refine kA hset ?_|refine kD hset ?_|refine kW cfg_ok ?_|refine kC ?_|refine bdA ?_|refine bd2 ?_|refine bdR ?_|refine bdL ?_)<;>(conv=>whnf))|(refine And.intro ?_ ?_;rotate_left;(conv=>whnf);rotate_right))
   all_goals first|omega|rfl|trace_state
end Go.Proofs.YtecbmeadcdchdaaGreat
