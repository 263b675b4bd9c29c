/- homesteadlaw19.ViewCopies. -/
import Derived.Test.YtaecchphjploaaaGo
import Derived.Test.YtaecchphjploaaaGl
import Derived.Test.YtaecchphjploaaaGn
import Derived.Test.YtaecchphjploaaaGf
set_option linter.unusedSimpArgs false
set_option linter.unusedVariables false
set_option maxRecDepth 100000
set_option maxHeartbeats 16000000
namespace Go.Proofs.Ytaecchphjploaaa
open Go Go.RowKit Eng
theorem okV_rightN {v : Viw} (hm : OkP v.me) (h : rightV v = true) : OkV v:=by
 unfold rightV headV at h
 simp only [Bool.and_eq_true,decide_eq_true_eq,List.all_eq_true,List.mem_range] at h
 obtain ⟨⟨⟨_,_,_,h4,h5⟩,h6⟩,_⟩:=h
 refine ⟨hm,fun c hc=>?_,by omega,by omega⟩
 obtain ⟨i,hi,rfl⟩:=List.getElem_of_mem hc
 have h7:=h6 i hi
 unfold okCh at h7
 rw [Bool.and_eq_true] at h7
 have h8 : elt .chunk v.chunks i = v.chunks[i]:=by
   have:=elt_get .chunk v.chunks i hi
   rw [List.getElem?_eq_getElem hi] at this
   exact (Option.some.inj this).symm
 rw [h8] at h7
 exact okC_right h7.1
theorem bags_of {v : Viw} (h : rightV v = true) : ∀ i : Nat,i < v.chunks.length → ∀ k : Nat,k < (elt .chunk v.chunks i).boxes.length → (elt .box (elt .chunk v.chunks i).boxes k).bag.length = 6:=by
 intro i hi k hk
 unfold rightV at h
 simp only [Bool.and_eq_true,List.all_eq_true,List.mem_range] at h
 have h7:=h.1.2 i hi
 unfold okCh at h7
 rw [Bool.and_eq_true] at h7
 exact (right_bag h7.1 (elt_mem (t:=.box) hk)).1
theorem lens_of {v : Viw} (h : rightV v = true) : ∀ i : Nat,i < v.chunks.length → (elt .chunk v.chunks i).cells.length = 64 ∧ (elt .chunk v.chunks i).boxes.length ≤ 64:=by
 intro i hi
 unfold rightV at h
 simp only [Bool.and_eq_true,List.all_eq_true,List.mem_range] at h
 have h7:=h.1.2 i hi
 unfold okCh at h7
 rw [Bool.and_eq_true] at h7
 exact ⟨right_len h7.1,right_boxes h7.1⟩
theorem vcopNo_api (w : Wld) (hw : OkW w) (id r : Int) (hg : greatW w = true) : Api Try.prog 4 [wldV w,i64 id,u8 r] (bol true):=by
 have hgr:=greatW_api w hw
 rw [hg] at hgr
 have haw:=awake19_api
 refine Api.of_fin cfg_ok Try.func4 rfl (nt:=128) rfl rfl ?_
 conv=>whnf
 repeat' (first|exact trivial|((first|refine kL ?_|(refine ⟨fun hb=>?_,fun hb=>?_⟩<;>(try simp only [nrm] at hb)<;>(try (first|(exfalso;omega)|contradiction|exact kB hb)))|refine kA hgr ?_|refine kD hgr ?_|refine kA haw ?_|refine kD haw ?_|refine kW cfg_ok ?_|refine kC ?_|refine bdA ?_|refine bd2 ?_|refine bdR ?_|refine bdL ?_)<;>(conv=>whnf))|(refine And.intro ?_ ?_;rotate_left;(conv=>whnf);rotate_right))
 all_goals first|rfl|omega|trace_state
theorem vcopErr_api (w : Wld) (hw : OkW w) (id r : Int) (hr : 0 ≤ r ∧ r ≤ 255) (hg : greatW w = false) (V : Viw) (e : Int) (h1 : Api Try.prog 19 [wldV w,i64 id,i64 (r % 4)] (.tup [viewV V,i64 e])) (he : e ≠ 0) : Api Try.prog 4 [wldV w,i64 id,u8 r] (bol true):=by
 have hgr:=greatW_api w hw
 rw [hg] at hgr
 have haw:=awake19_api
 have hcp:=r13copied_api w hw
 refine Api.of_fin cfg_ok Try.func4 rfl (nt:=128) rfl rfl ?_
 conv=>whnf
 repeat' (first|exact trivial|((first|refine kL ?_|(refine ⟨fun hb=>?_,fun hb=>?_⟩<;>(try simp only [nrm] at hb)<;>(try (first|(exfalso;omega)|contradiction|exact kB hb)))|refine kA hgr ?_|refine kD hgr ?_|refine kA hcp ?_|refine kD hcp ?_|refine kA h1 ?_|refine kD h1 ?_|refine kA haw ?_|refine kD haw ?_|refine kW cfg_ok ?_|refine kC ?_|refine bdA ?_|refine bd2 ?_|refine bdR ?_|refine bdL ?_)<;>(conv=>whnf))|(refine And.intro ?_ ?_;rotate_left;(conv=>whnf);rotate_right))
 all_goals first|rfl|omega|trace_state
abbrev viewJC (v : Viw) : List AV:=[i64 v.tick,i64 v.me.id,i64 v.me.x,i64 v.me.y,.fec true .slot v.me.bag,i64 v.me.wth,.vec .slot v.me.offer,bol v.me.agrees,.vec .chunkJ v.chunks,.vec .seen v.others]
theorem vcopIn_api (w : Wld) (hw : OkW w) (id r : Int) (hr : 0 ≤ r ∧ r ≤ 255) (hg : greatW w = false) (V : Viw) (h0 : Api Try.prog 19 [wldV w,i64 id,i64 (r % 4)] (.tup [viewFV V,i64 0])) (h1 : Api Try.prog 19 [wldV w,i64 id,i64 (r % 4)] (.tup [viewV V,i64 0])) (hS : Api Try.prog 21 [viewV V,viewV V] (bol true)) (hrt : Api Try.prog 22 [wldV w] (bol true)) (hok : OkV V) (hcl : ∀ i : Nat,i < V.chunks.length → (elt .chunk V.chunks i).cells.length = 64 ∧ (elt .chunk V.chunks i).boxes.length ≤ 64) (hbag : ∀ i : Nat,i < V.chunks.length → ∀ k : Nat,k < (elt .chunk V.chunks i).boxes.length → (elt .box (elt .chunk V.chunks i).boxes k).bag.length = 6) : Api Try.prog 4 [wldV w,i64 id,u8 r] (bol true):=by
 have hgr:=greatW_api w hw
 rw [hg] at hgr
 have haw:=awake19_api
 have hcp:=r13copied_api w hw
 have hsw:=sameW_self w hw
 have hn1:=hok.nc
 have hn2:=hok.me.nb
 refine Api.of_fin cfg_ok Try.func4 rfl (nt:=128) rfl rfl ?_
 ((repeat (first|(with_reducible refine evCut fun N hN hE hT=>?_)|(with_reducible refine evBlk fun N hN hE hT=>?_)));(try with_reducible refine evCnd fun X Y hX hY=>?_);(conv=>whnf))
 repeat' (first|exact trivial|((first|((first|refine hT _ _ ?_|refine hE _ _ _ ?_|refine hN _ _ ?_);clear hN hE hT)|((first|refine hX ?_|refine hY ?_);clear hX hY)|refine kL ?_|(refine ⟨fun hb=>?_,fun hb=>?_⟩<;>(try simp only [nrm] at hb)<;>(try (first|(exfalso;omega)|contradiction|exact kB hb)))|refine kA hgr ?_|refine kD hgr ?_|refine kA hcp ?_|refine kD hcp ?_|refine kW cfg_ok ?_|refine kC ?_|refine bdA ?_|refine bd2 ?_|refine bdR ?_|refine bdL ?_)<;>((repeat (first|(with_reducible refine evCut fun N hN hE hT=>?_)|(with_reducible refine evBlk fun N hN hE hT=>?_)));(try with_reducible refine evCnd fun X Y hX hY=>?_);(conv=>whnf)))|(refine And.intro ?_ ?_;rotate_left;(conv=>whnf);rotate_right))
 all_goals try (first|omega|(exfalso;omega))
 refine kA h0 ?_
 conv=>whnf
 repeat' (first|exact trivial|((first|((first|refine hT _ _ ?_|refine hE _ _ _ ?_|refine hN _ _ ?_);clear hN hE hT)|((first|refine hX ?_|refine hY ?_);clear hX hY)|refine kL ?_|(refine ⟨fun hb=>?_,fun hb=>?_⟩<;>(try simp only [nrm] at hb)<;>(try (first|(exfalso;omega)|contradiction|exact kB hb)))|refine kA h1 ?_|refine kD h1 ?_|refine kW cfg_ok ?_|refine kC ?_|refine bdA ?_|refine bd2 ?_|refine bdR ?_|refine bdL ?_)<;>((repeat (first|(with_reducible refine evCut fun N hN hE hT=>?_)|(with_reducible refine evBlk fun N hN hE hT=>?_)));(try with_reducible refine evCnd fun X Y hX hY=>?_);(conv=>whnf)))|(refine And.intro ?_ ?_;rotate_left;(conv=>whnf);rotate_right))
 all_goals try (first|omega|(exfalso;omega))
 refine Runs.burn ?_
 refine Runs.loopS cfg_ok (σ:=Nat) [1,2,3,7,8,10,46,47] (fun i=>[i64 id,u8 r,.ptr 6 0,.ptr 14 0,.ptr 16 0,.ptr 20 0,i64 V.chunks.length,i64 i])
   (fun i=>[(6,.box (wldC w)),(14,.box (wldC w)),(16,.box (viewJC V)),(20,.box (viewC V))])
   (fun i=>i ≤ V.chunks.length) (fun i=>V.chunks.length - i) 0 (by omega) ?_ ?_
 · conv=>whnf
   repeat' (first|exact trivial|((first|((first|refine hT _ _ ?_|refine hE _ _ _ ?_|refine hN _ _ ?_);clear hN hE hT)|((first|refine hX ?_|refine hY ?_);clear hX hY)|refine kL ?_|(refine ⟨fun hb=>?_,fun hb=>?_⟩<;>(try simp only [nrm] at hb)<;>(try (first|(exfalso;omega)|contradiction|exact kB hb)))|refine kW cfg_ok ?_|refine kC ?_|refine bdA ?_|refine bd2 ?_|refine bdR ?_|refine bdL ?_)<;>((repeat (first|(with_reducible refine evCut fun N hN hE hT=>?_)|(with_reducible refine evBlk fun N hN hE hT=>?_)));(try with_reducible refine evCnd fun X Y hX hY=>?_);(conv=>whnf)))|(refine And.intro ?_ ?_;rotate_left;(conv=>whnf);rotate_right))
   all_goals first|rfl|omega|trace_state
 · intro i hi
   by_cases hli : i < V.chunks.length
   · have hbg:=hbag i hli
     obtain ⟨hc1,hc2⟩:=hcl i hli
     have hd1 : (elt .chunkJ V.chunks ((i : Nat) : Int).toNat).cells.length = 64:=hc1
     have hd2 : (elt .chunkJ V.chunks ((i : Nat) : Int).toNat).boxes.length = (elt .chunk V.chunks i).boxes.length:=rfl
     conv=>whnf
     repeat' (first|exact trivial|((first|((first|refine hT _ _ ?_|refine hE _ _ _ ?_|refine hN _ _ ?_);clear hN hE hT)|((first|refine hX ?_|refine hY ?_);clear hX hY)|refine kL ?_|(refine ⟨fun hb=>?_,fun hb=>?_⟩<;>(try simp only [nrm] at hb)<;>(try (first|(exfalso;omega)|contradiction|exact kB hb)))|refine kW cfg_ok ?_|refine kC ?_|refine bdA ?_|refine bd2 ?_|refine bdR ?_|refine bdL ?_)<;>((repeat (first|(with_reducible refine evCut fun N hN hE hT=>?_)|(with_reducible refine evBlk fun N hN hE hT=>?_)));(try with_reducible refine evCnd fun X Y hX hY=>?_);(conv=>whnf)))|(refine And.intro ?_ ?_;rotate_left;(conv=>whnf);rotate_right))
     all_goals try (first|omega|(exfalso;omega))
     refine Runs.loopS cfg_ok (σ:=Nat) [1,2,3,7,8,10,12,46,47,56,57] (fun k=>[i64 id,u8 r,.ptr 6 0,.ptr 14 0,.ptr 16 0,.ptr 20 0,i64 i,i64 V.chunks.length,i64 i,i64 (elt .chunk V.chunks i).cells.length,i64 k])
       (fun k=>[(6,.box (wldC w)),(14,.box (wldC w)),(16,.box (viewJC V)),(20,.box (viewC V))])
       (fun k=>k ≤ (elt .chunk V.chunks i).cells.length) (fun k=>(elt .chunk V.chunks i).cells.length - k) 0 (by omega) ?_ ?_
     · conv=>whnf
       repeat' (first|exact trivial|((first|((first|refine hT _ _ ?_|refine hE _ _ _ ?_|refine hN _ _ ?_);clear hN hE hT)|((first|refine hX ?_|refine hY ?_);clear hX hY)|refine kL ?_|(refine ⟨fun hb=>?_,fun hb=>?_⟩<;>(try simp only [nrm] at hb)<;>(try (first|(exfalso;omega)|contradiction|exact kB hb)))|refine kW cfg_ok ?_|refine kC ?_|refine bdA ?_|refine bd2 ?_|refine bdR ?_|refine bdL ?_)<;>((repeat (first|(with_reducible refine evCut fun N hN hE hT=>?_)|(with_reducible refine evBlk fun N hN hE hT=>?_)));(try with_reducible refine evCnd fun X Y hX hY=>?_);(conv=>whnf)))|(refine And.intro ?_ ?_;rotate_left;(conv=>whnf);rotate_right))
       all_goals first|rfl|omega|trace_state
     · intro k hk
       by_cases hlk : k < (elt .chunk V.chunks i).cells.length
       · conv=>whnf
         repeat' (first|exact trivial|((first|((first|refine hT _ _ ?_|refine hE _ _ _ ?_|refine hN _ _ ?_);clear hN hE hT)|((first|refine hX ?_|refine hY ?_);clear hX hY)|refine kL ?_|(refine ⟨fun hb=>?_,fun hb=>?_⟩<;>(try simp only [nrm] at hb)<;>(try (first|(exfalso;omega)|contradiction|exact kB hb)))|refine kW cfg_ok ?_|refine kC ?_|refine bdA ?_|refine bd2 ?_|refine bdR ?_|refine bdL ?_)<;>((repeat (first|(with_reducible refine evCut fun N hN hE hT=>?_)|(with_reducible refine evBlk fun N hN hE hT=>?_)));(try with_reducible refine evCnd fun X Y hX hY=>?_);(conv=>whnf)))|(refine And.intro ?_ ?_;rotate_left;(conv=>whnf);rotate_right))
         all_goals try (first|omega|(exfalso;omega))
         refine .to (k + 1) (by omega) (by omega) ?_
         conv=>whnf
         repeat' (first|exact trivial|((first|((first|refine hT _ _ ?_|refine hE _ _ _ ?_|refine hN _ _ ?_);clear hN hE hT)|((first|refine hX ?_|refine hY ?_);clear hX hY)|refine kL ?_|(refine ⟨fun hb=>?_,fun hb=>?_⟩<;>(try simp only [nrm] at hb)<;>(try (first|(exfalso;omega)|contradiction|exact kB hb)))|refine kW cfg_ok ?_|refine kC ?_|refine bdA ?_|refine bd2 ?_|refine bdR ?_|refine bdL ?_)<;>((repeat (first|(with_reducible refine evCut fun N hN hE hT=>?_)|(with_reducible refine evBlk fun N hN hE hT=>?_)));(try with_reducible refine evCnd fun X Y hX hY=>?_);(conv=>whnf)))|(refine And.intro ?_ ?_;rotate_left;(conv=>whnf);rotate_right))
         all_goals first|rfl|omega|trace_state
       · obtain rfl : k = (elt .chunk V.chunks i).cells.length:=by omega
         conv=>whnf
         repeat' (first|exact trivial|((first|((first|refine hT _ _ ?_|refine hE _ _ _ ?_|refine hN _ _ ?_);clear hN hE hT)|((first|refine hX ?_|refine hY ?_);clear hX hY)|refine kL ?_|(refine ⟨fun hb=>?_,fun hb=>?_⟩<;>(try simp only [nrm] at hb)<;>(try (first|(exfalso;omega)|contradiction|exact kB hb)))|refine kW cfg_ok ?_|refine kC ?_|refine bdA ?_|refine bd2 ?_|refine bdR ?_|refine bdL ?_)<;>((repeat (first|(with_reducible refine evCut fun N hN hE hT=>?_)|(with_reducible refine evBlk fun N hN hE hT=>?_)));(try with_reducible refine evCnd fun X Y hX hY=>?_);(conv=>whnf)))|(refine And.intro ?_ ?_;rotate_left;(conv=>whnf);rotate_right))
         all_goals try (first|omega|(exfalso;omega))
         refine Runs.loopS cfg_ok (σ:=Nat) [1,2,3,7,8,10,12,46,47,75,76] (fun k=>[i64 id,u8 r,.ptr 6 0,.ptr 14 0,.ptr 16 0,.ptr 20 0,i64 i,i64 V.chunks.length,i64 i,i64 (elt .chunk V.chunks i).boxes.length,i64 k])
           (fun k=>[(6,.box (wldC w)),(14,.box (wldC w)),(16,.box (viewJC V)),(20,.box (viewC V))])
           (fun k=>k ≤ (elt .chunk V.chunks i).boxes.length) (fun k=>(elt .chunk V.chunks i).boxes.length - k) 0 (by omega) ?_ ?_
         · conv=>whnf
           repeat' (first|exact trivial|((first|((first|refine hT _ _ ?_|refine hE _ _ _ ?_|refine hN _ _ ?_);clear hN hE hT)|((first|refine hX ?_|refine hY ?_);clear hX hY)|refine kL ?_|(refine ⟨fun hb=>?_,fun hb=>?_⟩<;>(try simp only [nrm] at hb)<;>(try (first|(exfalso;omega)|contradiction|exact kB hb)))|refine kW cfg_ok ?_|refine kC ?_|refine bdA ?_|refine bd2 ?_|refine bdR ?_|refine bdL ?_)<;>((repeat (first|(with_reducible refine evCut fun N hN hE hT=>?_)|(with_reducible refine evBlk fun N hN hE hT=>?_)));(try with_reducible refine evCnd fun X Y hX hY=>?_);(conv=>whnf)))|(refine And.intro ?_ ?_;rotate_left;(conv=>whnf);rotate_right))
           all_goals first|rfl|omega|trace_state
         · intro k hk
           by_cases hlk : k < (elt .chunk V.chunks i).boxes.length
           · have hb6:=hbg k hlk
             have hb7 : (elt .boxJ (elt .chunkJ V.chunks (((i : Nat) : Int).toNat + 0)).boxes (((k : Nat) : Int).toNat + 0)).bag.length = 6:=hb6
             have hb8 : (elt .boxJ (elt .chunkJ V.chunks ((i : Nat) : Int).toNat).boxes ((k : Nat) : Int).toNat).bag.length = 6:=hb6
             conv=>whnf
             repeat' (first|exact trivial|((first|((first|refine hT _ _ ?_|refine hE _ _ _ ?_|refine hN _ _ ?_);clear hN hE hT)|((first|refine hX ?_|refine hY ?_);clear hX hY)|refine kL ?_|(refine ⟨fun hb=>?_,fun hb=>?_⟩<;>(try simp only [nrm] at hb)<;>(try (first|(exfalso;omega)|contradiction|exact kB hb)))|refine kW cfg_ok ?_|refine kC ?_|refine bdA ?_|refine bd2 ?_|refine bdR ?_|refine bdL ?_)<;>((repeat (first|(with_reducible refine evCut fun N hN hE hT=>?_)|(with_reducible refine evBlk fun N hN hE hT=>?_)));(try with_reducible refine evCnd fun X Y hX hY=>?_);(conv=>whnf)))|(refine And.intro ?_ ?_;rotate_left;(conv=>whnf);rotate_right))
             all_goals try (first|omega|(exfalso;omega))
             refine .to (k + 1) (by omega) (by omega) ?_
             conv=>whnf
             repeat' (first|exact trivial|((first|((first|refine hT _ _ ?_|refine hE _ _ _ ?_|refine hN _ _ ?_);clear hN hE hT)|((first|refine hX ?_|refine hY ?_);clear hX hY)|refine kL ?_|(refine ⟨fun hb=>?_,fun hb=>?_⟩<;>(try simp only [nrm] at hb)<;>(try (first|(exfalso;omega)|contradiction|exact kB hb)))|refine kW cfg_ok ?_|refine kC ?_|refine bdA ?_|refine bd2 ?_|refine bdR ?_|refine bdL ?_)<;>((repeat (first|(with_reducible refine evCut fun N hN hE hT=>?_)|(with_reducible refine evBlk fun N hN hE hT=>?_)));(try with_reducible refine evCnd fun X Y hX hY=>?_);(conv=>whnf)))|(refine And.intro ?_ ?_;rotate_left;(conv=>whnf);rotate_right))
             all_goals first|rfl|omega|trace_state
           · obtain rfl : k = (elt .chunk V.chunks i).boxes.length:=by omega
             conv=>whnf
             repeat' (first|exact trivial|((first|((first|refine hT _ _ ?_|refine hE _ _ _ ?_|refine hN _ _ ?_);clear hN hE hT)|((first|refine hX ?_|refine hY ?_);clear hX hY)|refine kL ?_|(refine ⟨fun hb=>?_,fun hb=>?_⟩<;>(try simp only [nrm] at hb)<;>(try (first|(exfalso;omega)|contradiction|exact kB hb)))|refine kW cfg_ok ?_|refine kC ?_|refine bdA ?_|refine bd2 ?_|refine bdR ?_|refine bdL ?_)<;>((repeat (first|(with_reducible refine evCut fun N hN hE hT=>?_)|(with_reducible refine evBlk fun N hN hE hT=>?_)));(try with_reducible refine evCnd fun X Y hX hY=>?_);(conv=>whnf)))|(refine And.intro ?_ ?_;rotate_left;(conv=>whnf);rotate_right))
             all_goals try (first|omega|(exfalso;omega))
             refine .to (i + 1) (by omega) (by omega) ?_
             conv=>whnf
             repeat' (first|exact trivial|((first|((first|refine hT _ _ ?_|refine hE _ _ _ ?_|refine hN _ _ ?_);clear hN hE hT)|((first|refine hX ?_|refine hY ?_);clear hX hY)|refine kL ?_|(refine ⟨fun hb=>?_,fun hb=>?_⟩<;>(try simp only [nrm] at hb)<;>(try (first|(exfalso;omega)|contradiction|exact kB hb)))|refine kW cfg_ok ?_|refine kC ?_|refine bdA ?_|refine bd2 ?_|refine bdR ?_|refine bdL ?_)<;>((repeat (first|(with_reducible refine evCut fun N hN hE hT=>?_)|(with_reducible refine evBlk fun N hN hE hT=>?_)));(try with_reducible refine evCnd fun X Y hX hY=>?_);(conv=>whnf)))|(refine And.intro ?_ ?_;rotate_left;(conv=>whnf);rotate_right))
             all_goals first|rfl|omega|trace_state
   · obtain rfl : i = V.chunks.length:=by omega
     conv=>whnf
     repeat' (first|exact trivial|((first|((first|refine hT _ _ ?_|refine hE _ _ _ ?_|refine hN _ _ ?_);clear hN hE hT)|((first|refine hX ?_|refine hY ?_);clear hX hY)|refine kL ?_|(refine ⟨fun hb=>?_,fun hb=>?_⟩<;>(try simp only [nrm] at hb)<;>(try (first|(exfalso;omega)|contradiction|exact kB hb)))|refine kW cfg_ok ?_|refine kC ?_|refine bdA ?_|refine bd2 ?_|refine bdR ?_|refine bdL ?_)<;>((repeat (first|(with_reducible refine evCut fun N hN hE hT=>?_)|(with_reducible refine evBlk fun N hN hE hT=>?_)));(try with_reducible refine evCnd fun X Y hX hY=>?_);(conv=>whnf)))|(refine And.intro ?_ ?_;rotate_left;(conv=>whnf);rotate_right))
     all_goals try (first|omega|(exfalso;omega))
     refine Runs.loopS cfg_ok (σ:=Nat) [1,2,3,7,8,10,96,97] (fun k=>[i64 id,u8 r,.ptr 6 0,.ptr 14 0,.ptr 16 0,.ptr 20 0,i64 V.me.bag.length,i64 k])
       (fun k=>[(6,.box (wldC w)),(14,.box (wldC w)),(16,.box (viewJC V)),(20,.box (viewC V))])
       (fun k=>k ≤ V.me.bag.length) (fun k=>V.me.bag.length - k) 0 (by omega) ?_ ?_
     · conv=>whnf
       repeat' (first|exact trivial|((first|((first|refine hT _ _ ?_|refine hE _ _ _ ?_|refine hN _ _ ?_);clear hN hE hT)|((first|refine hX ?_|refine hY ?_);clear hX hY)|refine kL ?_|(refine ⟨fun hb=>?_,fun hb=>?_⟩<;>(try simp only [nrm] at hb)<;>(try (first|(exfalso;omega)|contradiction|exact kB hb)))|refine kW cfg_ok ?_|refine kC ?_|refine bdA ?_|refine bd2 ?_|refine bdR ?_|refine bdL ?_)<;>((repeat (first|(with_reducible refine evCut fun N hN hE hT=>?_)|(with_reducible refine evBlk fun N hN hE hT=>?_)));(try with_reducible refine evCnd fun X Y hX hY=>?_);(conv=>whnf)))|(refine And.intro ?_ ?_;rotate_left;(conv=>whnf);rotate_right))
       all_goals first|rfl|omega|trace_state
     · intro k hk
       by_cases hlk : k < V.me.bag.length
       · conv=>whnf
         repeat' (first|exact trivial|((first|((first|refine hT _ _ ?_|refine hE _ _ _ ?_|refine hN _ _ ?_);clear hN hE hT)|((first|refine hX ?_|refine hY ?_);clear hX hY)|refine kL ?_|(refine ⟨fun hb=>?_,fun hb=>?_⟩<;>(try simp only [nrm] at hb)<;>(try (first|(exfalso;omega)|contradiction|exact kB hb)))|refine kW cfg_ok ?_|refine kC ?_|refine bdA ?_|refine bd2 ?_|refine bdR ?_|refine bdL ?_)<;>((repeat (first|(with_reducible refine evCut fun N hN hE hT=>?_)|(with_reducible refine evBlk fun N hN hE hT=>?_)));(try with_reducible refine evCnd fun X Y hX hY=>?_);(conv=>whnf)))|(refine And.intro ?_ ?_;rotate_left;(conv=>whnf);rotate_right))
         all_goals try (first|omega|(exfalso;omega))
         refine .to (k + 1) (by omega) (by omega) ?_
         conv=>whnf
         repeat' (first|exact trivial|((first|((first|refine hT _ _ ?_|refine hE _ _ _ ?_|refine hN _ _ ?_);clear hN hE hT)|((first|refine hX ?_|refine hY ?_);clear hX hY)|refine kL ?_|(refine ⟨fun hb=>?_,fun hb=>?_⟩<;>(try simp only [nrm] at hb)<;>(try (first|(exfalso;omega)|contradiction|exact kB hb)))|refine kW cfg_ok ?_|refine kC ?_|refine bdA ?_|refine bd2 ?_|refine bdR ?_|refine bdL ?_)<;>((repeat (first|(with_reducible refine evCut fun N hN hE hT=>?_)|(with_reducible refine evBlk fun N hN hE hT=>?_)));(try with_reducible refine evCnd fun X Y hX hY=>?_);(conv=>whnf)))|(refine And.intro ?_ ?_;rotate_left;(conv=>whnf);rotate_right))
         all_goals first|rfl|omega|trace_state
       · obtain rfl : k = V.me.bag.length:=by omega
         conv=>whnf
         repeat' (first|exact trivial|((first|((first|refine hT _ _ ?_|refine hE _ _ _ ?_|refine hN _ _ ?_);clear hN hE hT)|((first|refine hX ?_|refine hY ?_);clear hX hY)|refine kL ?_|(refine ⟨fun hb=>?_,fun hb=>?_⟩<;>(try simp only [nrm] at hb)<;>(try (first|(exfalso;omega)|contradiction|exact kB hb)))|refine kA h1 ?_|refine kD h1 ?_|refine kA hsw ?_|refine kD hsw ?_|refine kA hS ?_|refine kD hS ?_|refine kA hrt ?_|refine kD hrt ?_|refine kA haw ?_|refine kD haw ?_|refine kW cfg_ok ?_|refine kC ?_|refine bdA ?_|refine bd2 ?_|refine bdR ?_|refine bdL ?_)<;>((repeat (first|(with_reducible refine evCut fun N hN hE hT=>?_)|(with_reducible refine evBlk fun N hN hE hT=>?_)));(try with_reducible refine evCnd fun X Y hX hY=>?_);(conv=>whnf)))|(refine And.intro ?_ ?_;rotate_left;(conv=>whnf);rotate_right))
         all_goals first|rfl|omega|(exfalso;omega)|trace_state
theorem vcopies_api (w : Wld) (hw : OkW w) (id r : Int) (hr : 0 ≤ r ∧ r ≤ 255) : Api Try.prog 4 [wldV w,i64 id,u8 r] (bol true):=by
 cases hg : greatW w with
 | true=>exact vcopNo_api w hw id r hg
 | false =>
   have h1:=viewOf_api w id (r % 4) hw
   have h0:=viewOfF_api w id (r % 4) hw
   by_cases he : (ofW w id (r % 4)).2 = 0
   · have hof:=ofW_ok he
     have hr9:=of_right he
     have hok : OkV (ofW w id (r % 4)).1:=okV_rightN (by rw [hof.2.2.2.2];exact hw.players _ (player_mem hof.2.2.2.1).1) hr9
     have hS:=same19_api (ofW w id (r % 4)).1 (ofW w id (r % 4)).1 hok
     rw [eqv_self] at hS
     have hrt:=rightW_api w hw
     rw [rightW_iff.2 hof.2.2.1] at hrt
     rw [he] at h0 h1
     exact vcopIn_api w hw id r hr hg _ h0 h1 hS hrt hok (lens_of hr9) (bags_of hr9)
   · exact vcopErr_api w hw id r hr hg _ _ h1 he
end Go.Proofs.Ytaecchphjploaaa
