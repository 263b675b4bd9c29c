/- homesteadlaw19.ViewTells. -/
import Derived.Test.YtecbmeadcdchdaaGreatGs
import Derived.Test.YtecbmeadcdchdaaGreatGf
import Derived.Test.YtecbmeadcdchdaaGreatGo
set_option linter.unusedSimpArgs false
set_option linter.unusedVariables false
set_option maxRecDepth 100000
set_option maxHeartbeats 16000000
namespace Go.Proofs.YtecbmeadcdchdaaGreat
open Go Go.RowKit Eng
theorem okV_right2 {v : Viw} (hm : OkP v.me) (h : rightV v = true) : OkV v:=by
 unfold rightV headV at h
 simp only [Bool.and_eq_true,decide_eq_true_eq,List.all_eq_true,List.mem_range] at h
 obtain ⟨⟨⟨_,_,_,h4,h5⟩,h6⟩,_⟩:=h
 refine ⟨hm,fun c hc=>?_,by omega,by omega⟩
 obtain ⟨i,hi,rfl⟩:=List.getElem_of_mem hc
 have h7:=h6 i hi
 unfold okCh at h7
 rw [Bool.and_eq_true] at h7
 have h8 : elt .chunk v.chunks i = v.chunks[i]:=by
   have:=elt_get .chunk v.chunks i hi
   rw [List.getElem?_eq_getElem hi] at this
   exact (Option.some.inj this).symm
 rw [h8] at h7
 exact okC_right h7.1
theorem okV_of {w : Wld} (hw : OkW w) (id r : Int) : OkV (ofW w id r).1:=by
 by_cases h : (ofW w id r).2 = 0
 · obtain ⟨_,_,_,hP,hof⟩:=ofW_ok h
   refine okV_right2 ?_ (of_right h)
   rw [hof]
   exact hw.players _ (player_mem hP).1
 · have hz : (ofW w id r).1 = zeroV:=by
     unfold ofW at h ⊢
     by_cases c1 : r < 0 ∨ 3 < r
     · rw [if_pos c1]
     · rw [if_neg c1] at h ⊢
       by_cases c2 : rightW w = false
       · rw [if_pos c2]
       · rw [if_neg c2] at h ⊢
         by_cases c3 : (playerW w id).2 = false
         · rw [if_pos c3]
         · rw [if_neg c3] at h;exact absurd rfl h
   rw [hz]
   exact ⟨⟨(by intro s hs;cases hs),(by intro s hs;cases hs),by decide,by decide⟩,(by intro c hc;cases hc),by decide,by decide⟩
theorem vtellNo_api (w : Wld) (hw : OkW w) (i r x y : Int) (a b : Viw) (ha : OkV a) (hb9 : OkV b) (hg : (greatW w).or ((greatV a).or (greatV b)) = true) : Api Tryz.prog 3 [wldV w,.agg [i64 i,i64 r,i64 x,i64 y],.agg (viewC a ++ (viewC b ++ []))] (bol true):=by
 have haw:=awake19_api
 have hgr:=greatW_api w hw
 have g1:=greatV_api a ha
 have g2:=greatV_api b hb9
 cases e0 : greatW w
 all_goals
   cases e1 : greatV a
   all_goals
     cases e2 : greatV b
     all_goals
       rw [e0] at hgr
       rw [e1] at g1
       rw [e2] at g2
       rw [e0,e1,e2] at hg
 all_goals first|(exact absurd hg (by decide))|skip
 all_goals clear hg
 all_goals
   refine Api.of_fin cfg_ok Tryz.func3 rfl (nt:=112) rfl rfl ?_
   conv=>whnf
   repeat' (first|exact trivial|((first|refine kL ?_|(refine ⟨fun hb=>?_,fun hb=>?_⟩<;>(try simp only [nrm] at hb)<;>(try (first|(exfalso;omega)|contradiction|exact kB hb)))|refine kA hgr ?_|refine kD hgr ?_|refine kA g1 ?_|refine kD g1 ?_|refine kA g2 ?_|refine kD g2 ?_|refine kA haw ?_|refine kD haw ?_|refine kW cfg_ok ?_|refine kC ?_|refine bdA ?_|refine bd2 ?_|refine bdR ?_|refine bdL ?_)<;>(conv=>whnf))|(refine And.intro ?_ ?_;rotate_left;(conv=>whnf);rotate_right))
   all_goals first|rfl|omega|trace_state
theorem vtellIn_api (w : Wld) (hw : OkW w) (i r x y : Int) (a b V : Viw) (e : Int) (ha : OkV a) (hb9 : OkV b) (hg0 : greatW w = false) (hg1 : greatV a = false) (hg2 : greatV b = false) (h1 : Api Tryz.prog 8 [wldV w,i64 i,i64 r] (.tup [viewV V,i64 e])) (h2 : Api Tryz.prog 9 [wldV w,i64 i,i64 r] (.tup [viewV V,i64 e])) (h3 : Api Tryz.prog 10 [viewV V,viewV V] (bol true)) (S : Bool) (h4 : Api Tryz.prog 11 [wldV w,i64 i,i64 r,i64 x,i64 y] (bol S)) (h5 : Api Tryz.prog 12 [wldV w,i64 i,i64 r,i64 x,i64 y] (bol S)) (R1 R2 E : Bool) (h6 : Api Tryz.prog 14 [viewV a] (bol R1)) (h7 : Api Tryz.prog 15 [viewV a] (bol R1)) (h8 : Api Tryz.prog 14 [viewV b] (bol R2)) (h9 : Api Tryz.prog 15 [viewV b] (bol R2)) (h10 : Api Tryz.prog 16 [viewV a,viewV a] (bol true)) (h11 : Api Tryz.prog 16 [viewV b,viewV b] (bol true)) (h12 : Api Tryz.prog 16 [viewV a,viewV b] (bol E)) (h13 : Api Tryz.prog 10 [viewV a,viewV b] (bol E)) : Api Tryz.prog 3 [wldV w,.agg [i64 i,i64 r,i64 x,i64 y],.agg (viewC a ++ (viewC b ++ []))] (bol true):=by
 have haw:=awake19_api
 have hgr:=greatW_api w hw
 rw [hg0] at hgr
 have g1:=greatV_api a ha
 rw [hg1] at g1
 have g2:=greatV_api b hb9
 rw [hg2] at g2
 have hcp:=r13copied_api w hw
 have hsw:=sameW_self w hw
 cases S
 all_goals
   cases R1
   all_goals
     cases R2
     all_goals
       cases E
 all_goals
   refine Api.of_fin cfg_ok Tryz.func3 rfl (nt:=112) rfl rfl ?_
   conv=>whnf
   repeat' (first|exact trivial|((first|refine kL ?_|(refine ⟨fun hb=>?_,fun hb=>?_⟩<;>(try simp only [nrm] at hb)<;>(try (first|(exfalso;omega)|contradiction|exact kB hb)))|refine kA hgr ?_|refine kD hgr ?_|refine kA g1 ?_|refine kD g1 ?_|refine kA g2 ?_|refine kD g2 ?_|refine kA hcp ?_|refine kD hcp ?_|refine kA h1 ?_|refine kD h1 ?_|refine kA h2 ?_|refine kD h2 ?_|refine kA h3 ?_|refine kD h3 ?_|refine kA h4 ?_|refine kD h4 ?_|refine kA h5 ?_|refine kD h5 ?_|refine kA hsw ?_|refine kD hsw ?_|refine kW cfg_ok ?_|refine kC ?_|refine bdA ?_|refine bd2 ?_|refine bdR ?_|refine bdL ?_)<;>(conv=>whnf))|(refine And.intro ?_ ?_;rotate_left;(conv=>whnf);rotate_right))
   all_goals first|rfl|omega|skip
   all_goals
     refine Runs.loopQ cfg_ok (σ:=Nat) [5,85,86] (fun k=>[.ptr 10 0,.agg (viewC a ++ (viewC b ++ [])),i64 (k : Nat)])
       (fun k=>[(10,.box (viewC a ++ (viewC b ++ [])))])
       (fun k=>k ≤ 2) (fun k=>2 - k) 0 (by omega) ?_ ?_
     · conv=>whnf
       repeat' (first|exact trivial|((first|refine kL ?_|(refine ⟨fun hb=>?_,fun hb=>?_⟩<;>(try simp only [nrm] at hb)<;>(try (first|(exfalso;omega)|contradiction|exact kB hb)))|refine kW cfg_ok ?_|refine kC ?_|refine bdA ?_|refine bd2 ?_|refine bdR ?_|refine bdL ?_)<;>(conv=>whnf))|(refine And.intro ?_ ?_;rotate_left;(conv=>whnf);rotate_right))
       all_goals first|rfl|omega|trace_state
     · intro k hk N1 hN1 hE1 hT1
       match k,hk with
       | 0,_ =>
         conv=>whnf
         repeat' (first|exact trivial|((first|refine kL ?_|(refine ⟨fun hb=>?_,fun hb=>?_⟩<;>(try simp only [nrm] at hb)<;>(try (first|(exfalso;omega)|contradiction|exact kB hb)))|refine kA h6 ?_|refine kD h6 ?_|refine kA h7 ?_|refine kD h7 ?_|refine kA h10 ?_|refine kD h10 ?_|refine kW cfg_ok ?_|refine kC ?_|refine bdA ?_|refine bd2 ?_|refine bdR ?_|refine bdL ?_)<;>(conv=>whnf))|(refine And.intro ?_ ?_;rotate_left;(conv=>whnf);rotate_right))
         all_goals first|rfl|omega|skip
         all_goals
           refine hN1 _ _ ?_
           conv=>whnf
           refine .to 1 (by omega) (by omega) ?_
           conv=>whnf
           repeat' (first|exact trivial|((first|refine kL ?_|(refine ⟨fun hb=>?_,fun hb=>?_⟩<;>(try simp only [nrm] at hb)<;>(try (first|(exfalso;omega)|contradiction|exact kB hb)))|refine kW cfg_ok ?_|refine kC ?_|refine bdA ?_|refine bd2 ?_|refine bdR ?_|refine bdL ?_)<;>(conv=>whnf))|(refine And.intro ?_ ?_;rotate_left;(conv=>whnf);rotate_right))
           all_goals first|rfl|omega|trace_state
       | 1,_ =>
         conv=>whnf
         repeat' (first|exact trivial|((first|refine kL ?_|(refine ⟨fun hb=>?_,fun hb=>?_⟩<;>(try simp only [nrm] at hb)<;>(try (first|(exfalso;omega)|contradiction|exact kB hb)))|refine kA h8 ?_|refine kD h8 ?_|refine kA h9 ?_|refine kD h9 ?_|refine kA h11 ?_|refine kD h11 ?_|refine kW cfg_ok ?_|refine kC ?_|refine bdA ?_|refine bd2 ?_|refine bdR ?_|refine bdL ?_)<;>(conv=>whnf))|(refine And.intro ?_ ?_;rotate_left;(conv=>whnf);rotate_right))
         all_goals first|rfl|omega|skip
         all_goals
           refine hN1 _ _ ?_
           conv=>whnf
           refine .to 2 (by omega) (by omega) ?_
           conv=>whnf
           repeat' (first|exact trivial|((first|refine kL ?_|(refine ⟨fun hb=>?_,fun hb=>?_⟩<;>(try simp only [nrm] at hb)<;>(try (first|(exfalso;omega)|contradiction|exact kB hb)))|refine kW cfg_ok ?_|refine kC ?_|refine bdA ?_|refine bd2 ?_|refine bdR ?_|refine bdL ?_)<;>(conv=>whnf))|(refine And.intro ?_ ?_;rotate_left;(conv=>whnf);rotate_right))
           all_goals first|rfl|omega|trace_state
       | 2,_ =>
         conv=>whnf
         repeat' (first|exact trivial|((first|refine kL ?_|(refine ⟨fun hb=>?_,fun hb=>?_⟩<;>(try simp only [nrm] at hb)<;>(try (first|(exfalso;omega)|contradiction|exact kB hb)))|refine kW cfg_ok ?_|refine kC ?_|refine bdA ?_|refine bd2 ?_|refine bdR ?_|refine bdL ?_)<;>(conv=>whnf))|(refine And.intro ?_ ?_;rotate_left;(conv=>whnf);rotate_right))
         all_goals first|rfl|omega|skip
         all_goals
           refine hE1 _ _ _ ?_
           conv=>whnf
           repeat' (first|exact trivial|((first|refine kL ?_|(refine ⟨fun hb=>?_,fun hb=>?_⟩<;>(try simp only [nrm] at hb)<;>(try (first|(exfalso;omega)|contradiction|exact kB hb)))|refine kA h12 ?_|refine kD h12 ?_|refine kA h13 ?_|refine kD h13 ?_|refine kA haw ?_|refine kD haw ?_|refine kW cfg_ok ?_|refine kC ?_|refine bdA ?_|refine bd2 ?_|refine bdR ?_|refine bdL ?_)<;>(conv=>whnf))|(refine And.intro ?_ ?_;rotate_left;(conv=>whnf);rotate_right))
           all_goals first|rfl|omega|trace_state
theorem vtells_api (w : Wld) (hw : OkW w) (i r x y : Int) (a b : Viw) (ha : OkV a) (hb9 : OkV b) : Api Tryz.prog 3 [wldV w,.agg [i64 i,i64 r,i64 x,i64 y],.agg (viewC a ++ (viewC b ++ []))] (bol true):=by
 cases hg : (greatW w || (greatV a || greatV b)) with
 | true=>exact vtellNo_api w hw i r x y a b ha hb9 hg
 | false =>
   rw [Bool.or_eq_false_iff,Bool.or_eq_false_iff] at hg
   have hV:=okV_of hw i r
   have h3:=same19_api (ofW w i r).1 (ofW w i r).1 hV
   rw [eqv_self] at h3
   have h10:=vsame_api a a ha
   rw [eqv_self] at h10
   have h11:=vsame_api b b hb9
   rw [eqv_self] at h11
   exact vtellIn_api w hw i r x y a b _ _ ha hb9 hg.1 hg.2.1 hg.2.2 (viewOf_api w i r hw) (r19of_api w i r hw) h3 _ (seesW_api w i r x y hw) (r19sees_api w i r x y hw) _ _ _ (vright_api a ha) (r19right_api a ha) (vright_api b hb9) (r19right_api b hb9) h10 h11 (vsame_api a b ha) (same19_api a b ha)
open Go Go.RowKit Eng
theorem FitView.okV {v : Viw} (h : FitView v) : OkV v:=⟨h.me.okP,fun c hc=>(h.chunks c hc).okC,h.nc,h.no⟩
theorem ag_2view : ArgOf Tryz.prog 34 (fun p : Viw × Viw × Unit=>.agg (viewC p.1 ++ (viewC p.2.1 ++ []))) (fun p=>FitView p.1 ∧ FitView p.2.1 ∧ True):=arg_array (m:=2) (e:=33) (by kernel_rfl) (reads_arrayL (n:=2) (e:=33) (by kernel_rfl) (by kernel_rfl) (by rw [show Tryz.prog.cellsOf 33 = 10 by kernel_rfl];exact readsL_cons rd_view (readsL_cons rd_view (readsL_nil _ _))))
end Go.Proofs.YtecbmeadcdchdaaGreat
