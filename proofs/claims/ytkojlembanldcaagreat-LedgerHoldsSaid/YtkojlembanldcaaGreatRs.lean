/- homesteadlaw18.LedgerHolds. -/
import Derived.Test.YtkojlembanldcaaGreatRr
set_option linter.unusedSimpArgs false
set_option linter.unusedVariables false
set_option maxRecDepth 100000
set_option maxHeartbeats 4000000
namespace Go.Proofs.YtkojlembanldcaaGreat
open Go Go.RowKit Eng
theorem lholds_api (w : Wld) (l : List (El .orders)) (hw : OkW w) (hL : OkL l) : Api Tryz.prog 18 [wldV w,.vec .orders l] (bol true):=by
 have haw:=awake18_api
 have hgr:=greatW_api w hw
 cases hg : greatW w with
 | true =>
   rw [hg] at hgr
   refine Api.of_fin cfg_ok Tryz.func18 rfl (nt:=80) rfl rfl ?_
   conv=>whnf
   repeat' (first|exact trivial|((first|refine kL ?_|(refine ⟨fun hb=>?_,fun hb=>?_⟩<;>(try simp only [nrm] at hb)<;>(try (first|(exfalso;omega)|contradiction|exact kB hb)))|refine kA hgr ?_|refine kD hgr ?_|refine kA haw ?_|refine kD haw ?_|refine kW cfg_ok ?_|refine kC ?_|refine bdA ?_|refine bd2 ?_|refine bdR ?_|refine bdL ?_)<;>(conv=>whnf))|(refine And.intro ?_ ?_;rotate_left;(conv=>whnf);rotate_right))
   all_goals first|rfl|omega|trace_state
 | false =>
   rw [hg] at hgr
   have hcu:=cut_api l hL.1 (fun b hb=>(hL.2 b hb).1)
   obtain ⟨hs1,hs2⟩:=cut_small (l:=l) (fun b hb=>(hL.2 b hb).2)
   generalize cutL l = T at *
   obtain ⟨V,hV⟩ : ∃ V : Nat → Wld,V = fun k=>foldsW w (T.take k):=⟨_,rfl⟩
   have hV0 : V 0 = w:=by rw [hV];rfl
   have hVE : foldsW w T = V T.length:=by rw [hV];dsimp only;rw [List.take_length]
   have hVok : ∀ k,OkW (V k):=fun k=>by rw [hV];exact folds_okW hw
   have hVs : ∀ k,k < T.length → V (k + 1) = (foldW (V k) (elt .orders T k)).1:=fun k hk=>by
     rw [hV];dsimp only
     rw [List.take_add_one,elt_get .orders T k hk,Option.toList_some,folds_app];rfl
   have hE : ∀ k,k ≤ T.length → Api Tryz.prog 24 [wldV w,.vec .orders (List.take ((k : Int) - 0).toNat (List.drop (Int.toNat 0) T))] (.tup [.vec .i64 (cntW (V k)),wldV (V k)]):=fun k hk=>by
     have h:=expect_api w (List.take ((k : Int) - 0).toNat (List.drop (Int.toNat 0) T)) hw (by rw [List.length_take];omega) (fun b hb=>hs2 b (List.mem_of_mem_take hb))
     rw [show foldsW w (List.take ((k : Int) - 0).toNat (List.drop (Int.toNat 0) T)) = V k from by rw [show ((k : Int) - 0).toNat = k by omega,hV];rfl] at h
     exact h
   have e3:=expect_api w T hw (by omega) hs2
   rw [hVE] at e3
   have hsm:=sameW_self (V T.length) (hVok _)
   clear hV hVE
   refine Api.of_fin cfg_ok Tryz.func18 rfl (nt:=80) rfl rfl ?_
   conv=>whnf
   repeat' (first|exact trivial|((first|refine kL ?_|(refine ⟨fun hb=>?_,fun hb=>?_⟩<;>(try simp only [nrm] at hb)<;>(try (first|(exfalso;omega)|contradiction|exact kB hb)))|refine kA hgr ?_|refine kD hgr ?_|refine kA hcu ?_|refine kD hcu ?_|refine kW cfg_ok ?_|refine kC ?_|refine bdA ?_|refine bd2 ?_|refine bdR ?_|refine bdL ?_)<;>(conv=>whnf))|(refine And.intro ?_ ?_;rotate_left;(conv=>whnf);rotate_right))
   refine Runs.loopS cfg_ok (σ:=Nat) [1,2,25,26] (fun k=>[.vec .orders T,.ptr 4 0,i64 ((T.length : Int) + 1),i64 k]) (fun k=>[(4,.box (wldC w))]) (fun k=>k ≤ T.length + 1) (fun k=>T.length + 1 - k) 0 (by omega) ?_ ?_
   · conv=>whnf
     repeat' (first|exact trivial|((first|refine kL ?_|(refine ⟨fun hb=>?_,fun hb=>?_⟩<;>(try simp only [nrm] at hb)<;>(try (first|(exfalso;omega)|contradiction|exact kB hb)))|refine kW cfg_ok ?_|refine kC ?_|refine bdA ?_|refine bd2 ?_|refine bdR ?_|refine bdL ?_)<;>(conv=>whnf))|(refine And.intro ?_ ?_;rotate_left;(conv=>whnf);rotate_right))
     all_goals first|rfl|omega|trace_state
   · intro k hk
     by_cases hlt : k < T.length + 1
     · have e1:=hE k (by omega)
       have hco:=lcount_api (V k) (hVok k)
       have hsc:=same_cnt (hVok k)
       have hcl : (cntW (V k)).length = 13:=(cnt_law (hVok k)).1
       have hcn : ∀ j : Nat,j < 13 → 0 ≤ (elt .i64 (cntW (V k)) j : Int):=fun j hj=>cnt_nn (hVok k) hj
       generalize cntW (V k) = C at *
       generalize V k = F at *
       conv=>whnf
       repeat' (first|exact trivial|((first|refine kL ?_|(refine ⟨fun hb=>?_,fun hb=>?_⟩<;>(try simp only [nrm] at hb)<;>(try (first|(exfalso;omega)|contradiction|exact kB hb)))|refine kA e1 ?_|refine kD e1 ?_|refine kA hco ?_|refine kD hco ?_|refine kA hsc ?_|refine kD hsc ?_|refine kW cfg_ok ?_|refine kC ?_|refine bdA ?_|refine bd2 ?_|refine bdR ?_|refine bdL ?_)<;>(conv=>whnf))|(refine And.intro ?_ ?_;rotate_left;(conv=>whnf);rotate_right))
       refine Runs.loopS cfg_ok (σ:=Nat) [1,2,25,26,42,43,44] (fun j=>[.vec .orders T,.ptr 4 0,i64 ((T.length : Int) + 1),i64 k,.vec .i64 C,i64 C.length,i64 j]) (fun j=>[(4,.box (wldC w))]) (fun j=>j ≤ C.length) (fun j=>C.length - j) 0 (by omega) ?_ ?_
       · conv=>whnf
         repeat' (first|exact trivial|((first|refine kL ?_|(refine ⟨fun hb=>?_,fun hb=>?_⟩<;>(try simp only [nrm] at hb)<;>(try (first|(exfalso;omega)|contradiction|exact kB hb)))|refine kW cfg_ok ?_|refine kC ?_|refine bdA ?_|refine bd2 ?_|refine bdR ?_|refine bdL ?_)<;>(conv=>whnf))|(refine And.intro ?_ ?_;rotate_left;(conv=>whnf);rotate_right))
         all_goals first|rfl|omega|trace_state
       · intro j hj
         by_cases hlj : j < C.length
         · have hn:=hcn j (by omega)
           have hn2 : 0 ≤ (elt .i64 C (j : Int).toNat : Int):=hn
           conv=>whnf
           repeat' (first|exact trivial|((first|refine kL ?_|(refine ⟨fun hb=>?_,fun hb=>?_⟩<;>(try simp only [nrm] at hb)<;>(try (first|(exfalso;omega)|contradiction|exact kB hb)))|refine kW cfg_ok ?_|refine kC ?_|refine bdA ?_|refine bd2 ?_|refine bdR ?_|refine bdL ?_)<;>(conv=>whnf))|(refine And.intro ?_ ?_;rotate_left;(conv=>whnf);rotate_right))
           · exact absurd hb (Int.not_lt.2 hn)
           refine .to (j + 1) (by omega) (by omega) ?_
           conv=>whnf
           repeat' (first|exact trivial|((first|refine kL ?_|(refine ⟨fun hb=>?_,fun hb=>?_⟩<;>(try simp only [nrm] at hb)<;>(try (first|(exfalso;omega)|contradiction|exact kB hb)))|refine kW cfg_ok ?_|refine kC ?_|refine bdA ?_|refine bd2 ?_|refine bdR ?_|refine bdL ?_)<;>(conv=>whnf))|(refine And.intro ?_ ?_;rotate_left;(conv=>whnf);rotate_right))
           all_goals first|rfl|omega|trace_state
         · obtain rfl : j = C.length:=by omega
           conv=>whnf
           repeat' (first|exact trivial|((first|refine kL ?_|(refine ⟨fun hb=>?_,fun hb=>?_⟩<;>(try simp only [nrm] at hb)<;>(try (first|(exfalso;omega)|contradiction|exact kB hb)))|refine kW cfg_ok ?_|refine kC ?_|refine bdA ?_|refine bd2 ?_|refine bdR ?_|refine bdL ?_)<;>(conv=>whnf))|(refine And.intro ?_ ?_;rotate_left;(conv=>whnf);rotate_right))
           refine .to (k + 1) (by omega) (by omega) ?_
           conv=>whnf
           repeat' (first|exact trivial|((first|refine kL ?_|(refine ⟨fun hb=>?_,fun hb=>?_⟩<;>(try simp only [nrm] at hb)<;>(try (first|(exfalso;omega)|contradiction|exact kB hb)))|refine kW cfg_ok ?_|refine kC ?_|refine bdA ?_|refine bd2 ?_|refine bdR ?_|refine bdL ?_)<;>(conv=>whnf))|(refine And.intro ?_ ?_;rotate_left;(conv=>whnf);rotate_right))
           all_goals first|rfl|omega|trace_state
     · obtain rfl : k = T.length + 1:=by omega
       clear hE
       conv=>whnf
       repeat' (first|exact trivial|((first|refine kL ?_|(refine ⟨fun hb=>?_,fun hb=>?_⟩<;>(try simp only [nrm] at hb)<;>(try (first|(exfalso;omega)|contradiction|exact kB hb)))|refine kW cfg_ok ?_|refine kC ?_|refine bdA ?_|refine bd2 ?_|refine bdR ?_|refine bdL ?_)<;>(conv=>whnf))|(refine And.intro ?_ ?_;rotate_left;(conv=>whnf);rotate_right))
       refine Runs.loopS cfg_ok (σ:=Nat) [1,2,10,53,54,55] (fun k=>[.vec .orders T,.ptr 4 0,.ptr 20 0,.vec .orders T,i64 T.length,i64 k]) (fun k=>[(4,.box (wldC w)),(20,.box (wldC (V k)))]) (fun k=>k ≤ T.length) (fun k=>T.length - k) 0 (by omega) ?_ ?_
       · conv=>whnf
         repeat' (first|exact trivial|((first|refine kL ?_|(refine ⟨fun hb=>?_,fun hb=>?_⟩<;>(try simp only [nrm] at hb)<;>(try (first|(exfalso;omega)|contradiction|exact kB hb)))|refine kW cfg_ok ?_|refine kC ?_|refine bdA ?_|refine bd2 ?_|refine bdR ?_|refine bdL ?_)<;>(conv=>whnf))|(refine And.intro ?_ ?_;rotate_left;(conv=>whnf);rotate_right))
         all_goals first|rfl|omega|rw [hV0]|trace_state
       · intro k hk
         by_cases hlt : k < T.length
         · have hb:=hs2 _ (elt_mem (t:=.orders) hlt)
           have hs:=hVs k hlt
           have hf:=fold_api (V k) (elt .orders T k) (hVok k) (by omega) hb.2
           rcases fold_cases (V k) (elt .orders T k) with ⟨a1,a2,_⟩|⟨_,_,_,e⟩
           · rw [a2] at hs hf
             generalize (foldW (V k) (elt .orders T k)).2.2 = E at *
             generalize (foldW (V k) (elt .orders T k)).2.1 = R at *
             conv=>whnf
             repeat' (first|exact trivial|((first|refine kL ?_|(refine ⟨fun hb=>?_,fun hb=>?_⟩<;>(try simp only [nrm] at hb)<;>(try (first|(exfalso;omega)|contradiction|exact kB hb)))|refine kA hf ?_|refine kD hf ?_|refine kW cfg_ok ?_|refine kC ?_|refine bdA ?_|refine bd2 ?_|refine bdR ?_|refine bdL ?_)<;>(conv=>whnf))|(refine And.intro ?_ ?_;rotate_left;(conv=>whnf);rotate_right))
             refine .to (k + 1) (by omega) (by omega) ?_
             conv=>whnf
             repeat' (first|exact trivial|((first|refine kL ?_|(refine ⟨fun hb=>?_,fun hb=>?_⟩<;>(try simp only [nrm] at hb)<;>(try (first|(exfalso;omega)|contradiction|exact kB hb)))|refine kW cfg_ok ?_|refine kC ?_|refine bdA ?_|refine bd2 ?_|refine bdR ?_|refine bdL ?_)<;>(conv=>whnf))|(refine And.intro ?_ ?_;rotate_left;(conv=>whnf);rotate_right))
             all_goals first|rfl|omega|rw [hs]|trace_state
           · have e0 : (foldW (V k) (elt .orders T k)).2.2 = 0:=by rw [e]
             rw [e0,← hs] at hf
             generalize (foldW (V k) (elt .orders T k)).2.1 = R at *
             conv=>whnf
             repeat' (first|exact trivial|((first|refine kL ?_|(refine ⟨fun hb=>?_,fun hb=>?_⟩<;>(try simp only [nrm] at hb)<;>(try (first|(exfalso;omega)|contradiction|exact kB hb)))|refine kA hf ?_|refine kD hf ?_|refine kW cfg_ok ?_|refine kC ?_|refine bdA ?_|refine bd2 ?_|refine bdR ?_|refine bdL ?_)<;>(conv=>whnf))|(refine And.intro ?_ ?_;rotate_left;(conv=>whnf);rotate_right))
             refine .to (k + 1) (by omega) (by omega) ?_
             conv=>whnf
             repeat' (first|exact trivial|((first|refine kL ?_|(refine ⟨fun hb=>?_,fun hb=>?_⟩<;>(try simp only [nrm] at hb)<;>(try (first|(exfalso;omega)|contradiction|exact kB hb)))|refine kW cfg_ok ?_|refine kC ?_|refine bdA ?_|refine bd2 ?_|refine bdR ?_|refine bdL ?_)<;>(conv=>whnf))|(refine And.intro ?_ ?_;rotate_left;(conv=>whnf);rotate_right))
             all_goals first|rfl|omega|trace_state
         · obtain rfl : k = T.length:=by omega
           conv=>whnf
           repeat' (first|exact trivial|((first|refine kL ?_|(refine ⟨fun hb=>?_,fun hb=>?_⟩<;>(try simp only [nrm] at hb)<;>(try (first|(exfalso;omega)|contradiction|exact kB hb)))|refine kA e3 ?_|refine kD e3 ?_|refine kA hsm ?_|refine kD hsm ?_|refine kA haw ?_|refine kD haw ?_|refine kW cfg_ok ?_|refine kC ?_|refine bdA ?_|refine bd2 ?_|refine bdR ?_|refine bdL ?_)<;>(conv=>whnf))|(refine And.intro ?_ ?_;rotate_left;(conv=>whnf);rotate_right))
           all_goals first|rfl|omega|trace_state
end Go.Proofs.YtkojlembanldcaaGreat
