/- homesteadlaw18.LedgerZero. -/
import Derived.Test.YtkojlembanldcaaGreatRr
set_option linter.unusedSimpArgs false
set_option linter.unusedVariables false
set_option maxRecDepth 100000
set_option maxHeartbeats 4000000
namespace Go.Proofs.YtkojlembanldcaaGreat
open Go Go.RowKit Eng
def calmB (b : List Order) : List Order:=b.filter calmO
def calmL (l : List (List Order)) : List (List Order):=l.map calmB
theorem calm_all (l : List (List Order)) : ∀ b ∈ calmL l,∀ o ∈ b,calmO o = true:=by
 intro b hb o ho
 obtain ⟨c,_,rfl⟩:=List.mem_map.1 hb
 exact (List.mem_filter.1 ho).2
theorem calm_small {l : List (List Order)} (h : ∀ b ∈ l,List.length b ≤ 1000 ∧ ∀ o ∈ b,OkO o) : ∀ b ∈ calmL l,List.length b ≤ 1000 ∧ ∀ o ∈ b,OkO o:=by
 intro b hb
 obtain ⟨c,hc,rfl⟩:=List.mem_map.1 hb
 have h1:=h c hc
 have h2 : (c.filter calmO).length ≤ c.length:=List.length_filter_le _ _
 exact ⟨by unfold calmB;omega,fun o ho=>h1.2 o (List.mem_filter.1 ho).1⟩
theorem calmB_step (b : List (El .order)) : ∃ B : Nat → List (El .order),B 0 = [] ∧ B b.length = calmB b ∧ (∀ j,(B j).length ≤ j) ∧ (∀ j,j < b.length → calmO (elt .order b j) = true → B (j + 1) = B j ++ [elt .order b j]) ∧ (∀ j,j < b.length → ¬ calmO (elt .order b j) = true → B (j + 1) = B j):=by
 refine ⟨fun j=>(b.take j).filter calmO,rfl,by dsimp only;rw [List.take_length];rfl,fun j=>?_,fun j hj hc=>?_,fun j hj hc=>?_⟩
 · have h2 : ((b.take j).filter calmO).length ≤ (b.take j).length:=List.length_filter_le _ _
   rw [List.length_take] at h2;dsimp only;omega
 · dsimp only
   rw [List.take_add_one,elt_get .order b j hj,Option.toList_some,List.filter_append,List.filter_cons_of_pos hc];rfl
 · dsimp only
   rw [List.take_add_one,elt_get .order b j hj,Option.toList_some,List.filter_append,List.filter_cons_of_neg hc,List.filter_nil,List.append_nil]
theorem calmL_step (T : List (El .orders)) : ∃ L : Nat → List (El .orders),L 0 = [] ∧ L T.length = calmL T ∧ (∀ k,k ≤ T.length → (L k).length = k) ∧ ∀ k,k < T.length → L (k + 1) = L k ++ [calmB (elt .orders T k)]:=by
 refine ⟨fun k=>calmL (T.take k),rfl,by dsimp only;rw [List.take_length],fun k hk=>by unfold calmL;rw [List.length_map,List.length_take];omega,fun k hk=>?_⟩
 dsimp only
 unfold calmL
 rw [List.take_add_one,elt_get .orders T k hk,Option.toList_some,List.map_append];rfl
theorem calmO_iff (o : Order) : calmO o = true ↔ (¬ o.cmd.dol = 3 ∧ ¬ o.cmd.dol = 4 ∧ ¬ o.cmd.dol = 9 ∧ ¬ o.cmd.dol = 10):=by
 unfold calmO
 simp only [Bool.not_eq_true',Bool.or_eq_false_iff,decide_eq_false_iff_not]
theorem lzero_api (w : Wld) (l : List (El .orders)) (hw : OkW w) (hL : OkL l) : Api Tryz.prog 19 [wldV w,.vec .orders l] (bol true):=by
 have haw:=awake18_api
 have hgr:=greatW_api w hw
 cases hg : greatW w with
 | true =>
   rw [hg] at hgr
   refine Api.of_fin cfg_ok Tryz.func19 rfl (nt:=64) rfl rfl ?_
   conv=>whnf
   repeat' (first|exact trivial|((first|refine kL ?_|(refine ⟨fun hb=>?_,fun hb=>?_⟩<;>(try simp only [nrm] at hb)<;>(try (first|(exfalso;omega)|contradiction|exact kB hb)))|refine kA hgr ?_|refine kD hgr ?_|refine kA haw ?_|refine kD haw ?_|refine kW cfg_ok ?_|refine kC ?_|refine bdA ?_|refine bd2 ?_|refine bdR ?_|refine bdL ?_)<;>(conv=>whnf))|(refine And.intro ?_ ?_;rotate_left;(conv=>whnf);rotate_right))
   all_goals first|rfl|omega|trace_state
 | false =>
   rw [hg] at hgr
   clear hg
   have hcu:=cut_api l hL.1 (fun b hb=>(hL.2 b hb).1)
   obtain ⟨hs1,hs2⟩:=cut_small (l:=l) (fun b hb=>(hL.2 b hb).2)
   generalize cutL l = T at *
   obtain ⟨L,hL0,hLE,hLn,hLs⟩:=calmL_step T
   have e3:=expect_api w (calmL T) hw (by rw [← hLE,hLn _ (Nat.le_refl _)];omega) (calm_small hs2)
   have hcc:=calm_cnt (w:=w) (calm_all T)
   have hc1:=lcount_api w hw
   have hFok : OkW (foldsW w (calmL T)):=folds_okW hw
   have hc2:=lcount_api (foldsW w (calmL T)) hFok
   have hsc:=same_cnt hw
   rw [hcc] at e3 hc2
   generalize foldsW w (calmL T) = F at *
   rw [← hLE] at e3
   generalize cntW w = C at *
   clear hcc hLE
   refine Api.of_fin cfg_ok Tryz.func19 rfl (nt:=64) rfl rfl ?_
   ((try with_reducible refine evCut fun N hN hE hT=>?_);(conv=>whnf))
   repeat' (first|exact trivial|((first|((first|refine hT _ _ ?_|refine hE _ _ _ ?_|refine hN _ _ ?_);clear hN hE hT)|refine kL ?_|(refine ⟨fun hb=>?_,fun hb=>?_⟩<;>(try simp only [nrm] at hb)<;>(try (first|(exfalso;omega)|contradiction|exact kB hb)))|refine kA hgr ?_|refine kD hgr ?_|refine kA hcu ?_|refine kD hcu ?_|refine kW cfg_ok ?_|refine kC ?_|refine bdA ?_|refine bd2 ?_|refine bdR ?_|refine bdL ?_)<;>((try with_reducible refine evCut fun N hN hE hT=>?_);(conv=>whnf)))|(refine And.intro ?_ ?_;rotate_left;(conv=>whnf);rotate_right))
   refine Runs.loopQ cfg_ok (σ:=Nat) [2,5,17,18,19] (fun k=>[.ptr 4 0,.own .orders 91 0 k none,.vec .orders T,i64 T.length,i64 k]) (fun k=>[(4,.box (wldC w)),(91,.row .orders (L k))]) (fun k=>k ≤ T.length) (fun k=>T.length - k) 0 (by omega) ?_ ?_
   · conv=>whnf
     repeat' (first|exact trivial|((first|((first|refine hT _ _ ?_|refine hE _ _ _ ?_|refine hN _ _ ?_);clear hN hE hT)|refine kL ?_|(refine ⟨fun hb=>?_,fun hb=>?_⟩<;>(try simp only [nrm] at hb)<;>(try (first|(exfalso;omega)|contradiction|exact kB hb)))|refine kW cfg_ok ?_|refine kC ?_|refine bdA ?_|refine bd2 ?_|refine bdR ?_|refine bdL ?_)<;>((try with_reducible refine evCut fun N hN hE hT=>?_);(conv=>whnf)))|(refine And.intro ?_ ?_;rotate_left;(conv=>whnf);rotate_right))
     all_goals first|rfl|omega|rw [hL0]|(rw [hL0];rfl)|trace_state
   · intro k hk N hN hE hT
     have hLk:=hLn k hk
     by_cases hlt : k < T.length
     · have hbb:=hs2 _ (elt_mem (t:=.orders) hlt)
       have hs:=hLs k hlt
       have hLk1:=hLn (k + 1) hlt
       obtain ⟨b,hbE⟩ : ∃ b : List (El .order),elt .orders T (k : Int).toNat = b:=⟨_,rfl⟩
       have hbE2 : elt .orders T k = b:=hbE
       rw [hbE2] at hbb hs
       clear hbE2
       obtain ⟨B,hB0,hBE,hBn,hB1,hB2⟩:=calmB_step b
       rw [← hBE] at hs
       have hbl:=hbb.1
       clear hbb hBE hc1 hc2 e3 hsc hLn hLs hw hFok haw hL
       conv=>whnf
       repeat' (first|exact trivial|((first|((first|refine hT _ _ ?_|refine hE _ _ _ ?_|refine hN _ _ ?_);clear hN hE hT)|refine kL ?_|(refine ⟨fun hb=>?_,fun hb=>?_⟩<;>(try simp only [nrm] at hb)<;>(try (first|(exfalso;omega)|contradiction|exact kB hb)))|(rw [hbE])|refine kW cfg_ok ?_|refine kC ?_|refine bdA ?_|refine bd2 ?_|refine bdR ?_|refine bdL ?_)<;>((try with_reducible refine evCut fun N hN hE hT=>?_);(conv=>whnf)))|(refine And.intro ?_ ?_;rotate_left;(conv=>whnf);rotate_right))
       clear hbE
       refine Runs.loopQ cfg_ok (σ:=Nat) [2,5,8,17,18,19,23,24,25] (fun j=>[.ptr 4 0,.own .orders 91 0 k none,.own .order 71 0 (B j).length none,.vec .orders T,i64 T.length,i64 k,.vec .order b,i64 b.length,i64 j]) (fun j=>[(4,.box (wldC w)),(91,.row .orders (L k)),(71,.row .order (B j))]) (fun j=>j ≤ b.length) (fun j=>b.length - j) 0 (by omega) ?_ ?_
       · conv=>whnf
         repeat' (first|exact trivial|((first|((first|refine hT _ _ ?_|refine hE _ _ _ ?_|refine hN _ _ ?_);clear hN hE hT)|refine kL ?_|(refine ⟨fun hb=>?_,fun hb=>?_⟩<;>(try simp only [nrm] at hb)<;>(try (first|(exfalso;omega)|contradiction|exact kB hb)))|refine kW cfg_ok ?_|refine kC ?_|refine bdA ?_|refine bd2 ?_|refine bdR ?_|refine bdL ?_)<;>((try with_reducible refine evCut fun N hN hE hT=>?_);(conv=>whnf)))|(refine And.intro ?_ ?_;rotate_left;(conv=>whnf);rotate_right))
         all_goals first|rfl|omega|exact List.take_of_length_le (by omega)|(rw [hB0];rfl)|rw [hB0]|trace_state
       · intro j hj N hN hE hT
         have hBj:=hBn j
         by_cases hlj : j < b.length
         · obtain ⟨o,hoE⟩ : ∃ o : Order,elt .order b (j : Int).toNat = o:=⟨_,rfl⟩
           have hoE2 : elt .order b j = o:=hoE
           have hB1:=hB1 j hlj
           have hB2:=hB2 j hlj
           rw [hoE2] at hB1 hB2
           clear hoE2
           by_cases hc : calmO o = true
           · have h1:=hB1 hc
             have el : (B (j + 1)).length = (B j).length + 1:=by rw [h1];simp
             obtain ⟨n1,n2,n3,n4⟩:=(calmO_iff _).1 hc
             clear hc hB1 hB2
             conv=>whnf
             repeat' (first|exact trivial|((first|((first|refine hT _ _ ?_|refine hE _ _ _ ?_|refine hN _ _ ?_);clear hN hE hT)|refine kL ?_|(refine ⟨fun hb=>?_,fun hb=>?_⟩<;>(try simp only [nrm] at hb)<;>(try (first|(exfalso;omega)|contradiction|exact kB hb)))|(rw [hoE])|refine kW cfg_ok ?_|refine kC ?_|refine bdA ?_|refine bd2 ?_|refine bdR ?_|refine bdL ?_)<;>((try with_reducible refine evCut fun N hN hE hT=>?_);(conv=>whnf)))|(refine And.intro ?_ ?_;rotate_left;(conv=>whnf);rotate_right))
             refine .to (j + 1) (by omega) (by omega) ?_
             conv=>whnf
             repeat' (first|exact trivial|((first|((first|refine hT _ _ ?_|refine hE _ _ _ ?_|refine hN _ _ ?_);clear hN hE hT)|refine kL ?_|(refine ⟨fun hb=>?_,fun hb=>?_⟩<;>(try simp only [nrm] at hb)<;>(try (first|(exfalso;omega)|contradiction|exact kB hb)))|refine kW cfg_ok ?_|refine kC ?_|refine bdA ?_|refine bd2 ?_|refine bdR ?_|refine bdL ?_)<;>((try with_reducible refine evCut fun N hN hE hT=>?_);(conv=>whnf)))|(refine And.intro ?_ ?_;rotate_left;(conv=>whnf);rotate_right))
             all_goals first|rfl|omega|(rw [el];rfl)|(rw [h1,List.take_length];exact List.take_of_length_le (by simp))|exact List.take_of_length_le (by omega)|trace_state
           · have h1:=hB2 hc
             have hn : ¬ (¬ o.cmd.dol = 3 ∧ ¬ o.cmd.dol = 4 ∧ ¬ o.cmd.dol = 9 ∧ ¬ o.cmd.dol = 10):=fun h=>hc ((calmO_iff _).2 h)
             clear hc hB1 hB2
             conv=>whnf
             repeat' (first|exact trivial|((first|((first|refine hT _ _ ?_|refine hE _ _ _ ?_|refine hN _ _ ?_);clear hN hE hT)|refine kL ?_|(refine ⟨fun hb=>?_,fun hb=>?_⟩<;>(try simp only [nrm] at hb)<;>(try (first|(exfalso;omega)|contradiction|exact kB hb)))|(rw [hoE])|refine kW cfg_ok ?_|refine kC ?_|refine bdA ?_|refine bd2 ?_|refine bdR ?_|refine bdL ?_)<;>((try with_reducible refine evCut fun N hN hE hT=>?_);(conv=>whnf)))|(refine And.intro ?_ ?_;rotate_left;(conv=>whnf);rotate_right))
             all_goals try (exfalso;refine hn ⟨?_,?_,?_,?_⟩<;>assumption)
             all_goals (refine .to (j + 1) (by omega) (by omega) ?_)
             all_goals (conv=>whnf)
             repeat' (first|exact trivial|((first|((first|refine hT _ _ ?_|refine hE _ _ _ ?_|refine hN _ _ ?_);clear hN hE hT)|refine kL ?_|(refine ⟨fun hb=>?_,fun hb=>?_⟩<;>(try simp only [nrm] at hb)<;>(try (first|(exfalso;omega)|contradiction|exact kB hb)))|refine kW cfg_ok ?_|refine kC ?_|refine bdA ?_|refine bd2 ?_|refine bdR ?_|refine bdL ?_)<;>((try with_reducible refine evCut fun N hN hE hT=>?_);(conv=>whnf)))|(refine And.intro ?_ ?_;rotate_left;(conv=>whnf);rotate_right))
             all_goals first|rfl|omega|exact List.take_of_length_le (by omega)|exact List.take_length|(rw [h1];done)|(rw [h1];rfl)|(rw [h1];exact List.take_length)|trace_state
         · obtain rfl : j = b.length:=by omega
           conv=>whnf
           repeat' (first|exact trivial|((first|((first|refine hT _ _ ?_|refine hE _ _ _ ?_|refine hN _ _ ?_);clear hN hE hT)|refine kL ?_|(refine ⟨fun hb=>?_,fun hb=>?_⟩<;>(try simp only [nrm] at hb)<;>(try (first|(exfalso;omega)|contradiction|exact kB hb)))|refine kW cfg_ok ?_|refine kC ?_|refine bdA ?_|refine bd2 ?_|refine bdR ?_|refine bdL ?_)<;>((try with_reducible refine evCut fun N hN hE hT=>?_);(conv=>whnf)))|(refine And.intro ?_ ?_;rotate_left;(conv=>whnf);rotate_right))
           refine .to (k + 1) (by omega) (by omega) ?_
           conv=>whnf
           repeat' (first|exact trivial|((first|((first|refine hT _ _ ?_|refine hE _ _ _ ?_|refine hN _ _ ?_);clear hN hE hT)|refine kL ?_|(refine ⟨fun hb=>?_,fun hb=>?_⟩<;>(try simp only [nrm] at hb)<;>(try (first|(exfalso;omega)|contradiction|exact kB hb)))|refine kW cfg_ok ?_|refine kC ?_|refine bdA ?_|refine bd2 ?_|refine bdR ?_|refine bdL ?_)<;>((try with_reducible refine evCut fun N hN hE hT=>?_);(conv=>whnf)))|(refine And.intro ?_ ?_;rotate_left;(conv=>whnf);rotate_right))
           all_goals first|rfl|omega|(rw [hs];simp only [List.drop_zero];rw [show List.take (B b.length).length (B b.length) = B b.length from List.take_length,List.take_of_length_le (l:=L k) (by omega)];exact List.take_of_length_le (by simp;omega))|trace_state
     · obtain rfl : k = T.length:=by omega
       conv=>whnf
       repeat' (first|exact trivial|((first|((first|refine hT _ _ ?_|refine hE _ _ _ ?_|refine hN _ _ ?_);clear hN hE hT)|refine kL ?_|(refine ⟨fun hb=>?_,fun hb=>?_⟩<;>(try simp only [nrm] at hb)<;>(try (first|(exfalso;omega)|contradiction|exact kB hb)))|refine kW cfg_ok ?_|refine kC ?_|refine bdA ?_|refine bd2 ?_|refine bdR ?_|refine bdL ?_)<;>((try with_reducible refine evCut fun N hN hE hT=>?_);(conv=>whnf)))|(refine And.intro ?_ ?_;rotate_left;(conv=>whnf);rotate_right))
       refine callGiveN e3 rfl rfl ?_
       conv=>whnf
       refine ⟨by omega,?_⟩
       conv=>whnf
       refine ⟨by rw [show List.take T.length (List.drop 0 (L T.length)) = L T.length from List.take_of_length_le (Nat.le_of_eq (hLn _ (Nat.le_refl _)))],?_⟩
       repeat' (first|exact trivial|((first|((first|refine hT _ _ ?_|refine hE _ _ _ ?_|refine hN _ _ ?_);clear hN hE hT)|refine kL ?_|(refine ⟨fun hb=>?_,fun hb=>?_⟩<;>(try simp only [nrm] at hb)<;>(try (first|(exfalso;omega)|contradiction|exact kB hb)))|refine kA hc1 ?_|refine kD hc1 ?_|refine kA hc2 ?_|refine kD hc2 ?_|refine kA hsc ?_|refine kD hsc ?_|refine kA haw ?_|refine kD haw ?_|refine kW cfg_ok ?_|refine kC ?_|refine bdA ?_|refine bd2 ?_|refine bdR ?_|refine bdL ?_)<;>((try with_reducible refine evCut fun N hN hE hT=>?_);(conv=>whnf)))|(refine And.intro ?_ ?_;rotate_left;(conv=>whnf);rotate_right))
       all_goals first|rfl|omega|trace_state
end Go.Proofs.YtkojlembanldcaaGreat
