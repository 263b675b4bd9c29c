/- ledger.Expect. -/
import Derived.Test.YtkojlembanldcaaGreatRp
import Derived.Test.YtkojlembanldcaaGreatRh
import Derived.Test.YtkojlembanldcaaGreatRb
set_option linter.unusedSimpArgs false
set_option linter.unusedVariables false
set_option maxRecDepth 100000
set_option maxHeartbeats 4000000
namespace Go.Proofs.YtkojlembanldcaaGreat
open Go Go.RowKit Eng
theorem lcount_own (w : Wld) (hw : OkW w) : Ev1 Tryz.prog 55 [wldV w] [] (.own .i64 390001 0 13 none) [(390001,.row .i64 (cntW w))]:=by
 have hrt:=rightW_api w hw
 cases hR : rightW w with
 | false =>
   rw [hR] at hrt
   have hs : cntW w = zeros13:=by unfold cntW;rw [if_neg (by rw [hR];simp)]
   rw [hs]
   refine Ev1.of_fin cfg_ok Tryz.func55 rfl (nt:=10) rfl rfl rfl ?_
   conv=>whnf
   repeat' (first|exact trivial|((first|refine kL ?_|(refine ⟨fun hb=>?_,fun hb=>?_⟩<;>(try simp only [nrm] at hb)<;>(try (first|(exfalso;omega)|contradiction|exact kB hb)))|refine kA hrt ?_|refine kD hrt ?_|refine kW cfg_ok ?_|refine kC ?_|refine bdA ?_|refine bd2 ?_|refine bdR ?_|refine bdL ?_)<;>(conv=>whnf))|(refine And.intro ?_ ?_;rotate_left;(conv=>whnf);rotate_right))
   all_goals first|rfl|omega|trace_state
 | true =>
   rw [hR] at hrt
   have hRW:=rightW_iff.1 hR
   have hs : cntW w = tot (slotsW w):=by unfold cntW;rw [if_pos hR]
   rw [hs]
   have hev:=leach_ev w (fit_world hRW hw) (slots_bd hRW hw) hw
   have hln:=(tot_ok (fit_world hRW hw).fit).len
   generalize tot (slotsW w) = T at *
   refine Ev1.of_fin cfg_ok Tryz.func55 rfl (nt:=10) rfl rfl rfl ?_
   conv=>whnf
   repeat' (first|exact trivial|((first|refine kL ?_|(refine ⟨fun hb=>?_,fun hb=>?_⟩<;>(try simp only [nrm] at hb)<;>(try (first|(exfalso;omega)|contradiction|exact kB hb)))|refine kE hev [(0,200006),(1,200009)] rfl ?_|refine kF hev [(0,200006),(1,200009)] rfl ?_|refine kA hrt ?_|refine kD hrt ?_|refine kW cfg_ok ?_|refine kC ?_|refine bdA ?_|refine bd2 ?_|refine bdR ?_|refine bdL ?_)<;>(conv=>whnf))|(refine And.intro ?_ ?_;rotate_left;(conv=>whnf);rotate_right))
   all_goals first|rfl|omega|exact List.take_of_length_le (by omega)|(rw [List.drop_zero];exact List.take_of_length_le (by omega))|trace_state
theorem exp_run {V : Wld} (hR : RW V) (S : List (El .order)) (hS : ∀ o ∈ S,OkO o) : ∃ (W : Nat → Wld) (H : Nat → List (El .i64)),W 0 = V ∧ H 0 = haveW V ∧ H S.length = haveW (runW V S).1 ∧ (∀ j,j ≤ S.length → (H j).length = 13) ∧
   ∀ j,j < S.length → ∃ (D : List (El .i64)) (e : Int) (X : Nat → List (El .i64)),Api Tryz.prog 39 [wldV (W j),i64 (elt .order S j).player,cmdV (elt .order S j).cmd] (.vec .i64 D) ∧
     Api Tryz.prog 30 [wldV (W j),i64 (elt .order S j).player,cmdV (elt .order S j).cmd] (.tup [wldV (W (j + 1)),i64 e]) ∧ D.length = 13 ∧ X 0 = H j ∧ X 13 = H (j + 1) ∧ (∀ i,i ≤ 13 → (X i).length = 13) ∧
     (∀ i,i < 13 → (X i).set i ((elt .i64 (X i) i : Int) + elt .i64 D i) = X (i + 1)) ∧ (∀ i,i < 13 → inN 288230376151711744 (elt .i64 (X i) i) ∧ inN 288230376151711744 ((elt .i64 (X i) i : Int) + elt .i64 D i)):=by
 refine ⟨fun k=>(runW V (S.take k)).1,fun k=>haveW (runW V (S.take k)).1,rfl,rfl,by dsimp only;rw [List.take_length],fun j _=>hv_len _ (by omega),fun j hj=>?_⟩
 have hR2:=run_rw (l:=S.take j) hR
 have ho:=hS _ (elt_mem (t:=.order) hj)
 have e:=run_take_succ V (elt_get .order S j hj)
 have hl : (haveW (runW V (S.take j)).1).length = 13:=hv_len _ (by omega)
 have hst:=have_step hR2 (elt .order S j)
 refine ⟨deltasW (runW V (S.take j)).1 (elt .order S j).player (elt .order S j).cmd,(stepW (runW V (S.take j)).1 (elt .order S j)).2,fun i=>mixL (haveW (runW V (S.take j)).1) (deltasW (runW V (S.take j)).1 (elt .order S j).player (elt .order S j).cmd) i,
   deltas_api _ _ _ (okW_rw hR2) ho.1 ho.2,?_,deltas_len _ _ _,rfl,?_,fun i hi=>mix_len hl hi,fun i hi=>?_,fun i hi=>?_⟩
 · dsimp only
   rw [e];exact apply_api _ _ _ (okW_rw hR2) ho.1 ho.2
 · dsimp only
   rw [e];exact hst
 · dsimp only
   rw [mix_at hl hi];exact mix_next hl hi
 · dsimp only
   rw [mix_at hl hi]
   refine ⟨have_bd hR2 hi,?_⟩
   have h1:=have_bd (step_rw hR2 (elt .order S j)) hi
   rw [← hst,mix_end hl hi] at h1
   exact h1
theorem expect_api (w : Wld) (l : List (El .orders)) (hw : OkW w) (hl : l.length ≤ 1000) (hO : ∀ b ∈ l,List.length b ≤ 1000 ∧ ∀ o ∈ b,OkO o) : Api Tryz.prog 24 [wldV w,.vec .orders l] (.tup [.vec .i64 (cntW (foldsW w l)),wldV (foldsW w l)]):=by
 have hs:=setN_api w hw
 have hlen : ∀ V : Wld,OkW V → (cntW V).length = 13:=fun V hV=>(cnt_law hV).1
 obtain ⟨V,hV⟩ : ∃ V : Nat → Wld,V = fun k=>foldsW w (l.take k):=⟨_,rfl⟩
 have hV0 : V 0 = w:=by rw [hV];rfl
 have hVE : V l.length = foldsW w l:=by rw [hV];dsimp only;rw [List.take_length]
 have hVok : ∀ k,OkW (V k):=fun k=>by rw [hV];exact folds_okW hw
 have hVs : ∀ k,k < l.length → V (k + 1) = (foldW (V k) (elt .orders l k)).1:=fun k hk=>by
   rw [hV];dsimp only
   rw [List.take_add_one,elt_get .orders l k hk,Option.toList_some,folds_app];rfl
 rw [← hVE]
 clear hV hVE
 have hN0 : (cntW (V 0)).length = 13:=hlen _ (hVok 0)
 have hco:=lcount_own w hw
 rw [show cntW w = cntW (V 0) by rw [hV0]] at hco
 have hT0 : wldC w = wldC (V 0):=by rw [hV0]
 refine Api.of_fin cfg_ok Tryz.func24 rfl (nt:=78) rfl rfl ?_
 conv=>whnf
 repeat' (first|exact trivial|((first|refine kL ?_|(refine ⟨fun hb=>?_,fun hb=>?_⟩<;>(try simp only [nrm] at hb)<;>(try (first|(exfalso;omega)|contradiction|exact kB hb)))|refine kE hco [(390001,150001)] rfl ?_|refine kF hco [(390001,150001)] rfl ?_|refine kA hs ?_|refine kD hs ?_|refine kW cfg_ok ?_|refine kC ?_|refine bdA ?_|refine bd2 ?_|refine bdR ?_|refine bdL ?_)<;>(conv=>whnf))|(refine And.intro ?_ ?_;rotate_left;(conv=>whnf);rotate_right))
 refine Runs.loopS cfg_ok (σ:=Nat) [2,5,6,24,25,26] (fun k=>[.ptr 4 0,.ptr 10 0,.own .i64 150001 0 13 none,.vec .orders l,i64 l.length,i64 k]) (fun k=>[(4,.box (wldC (V k))),(10,.box zeroW),(150001,.row .i64 (cntW (V k)))]) (fun k=>k ≤ l.length) (fun k=>l.length - k) 0 (by omega) ?_ ?_
 · conv=>whnf
   repeat' (first|exact trivial|((first|refine kL ?_|(refine ⟨fun hb=>?_,fun hb=>?_⟩<;>(try simp only [nrm] at hb)<;>(try (first|(exfalso;omega)|contradiction|exact kB hb)))|refine kW cfg_ok ?_|refine kC ?_|refine bdA ?_|refine bd2 ?_|refine bdR ?_|refine bdL ?_)<;>(conv=>whnf))|(refine And.intro ?_ ?_;rotate_left;(conv=>whnf);rotate_right))
   all_goals first|rfl|omega|exact List.take_of_length_le (by omega)|rw [hV0]|trace_state
 · intro k hk
   have hNk:=hlen _ (hVok k)
   by_cases hlt : k < l.length
   · have hb:=hO _ (elt_mem (t:=.orders) hlt)
     have hs1:=hVs k hlt
     have hNk1:=hlen _ (hVok (k + 1))
     have hf:=fold_api (V k) (elt .orders l k) (hVok k) (by omega) hb.2
     have hso:=sorted_api (elt .orders l k) (by omega)
     rcases fold_cases (V k) (elt .orders l k) with ⟨e1,e2,_⟩|⟨hR,_,h200,e⟩
     · rw [e2] at hs1
       rw [e2] at hf
       generalize (foldW (V k) (elt .orders l k)).2.2 = E at *
       generalize (foldW (V k) (elt .orders l k)).2.1 = F at *
       conv=>whnf
       repeat' (first|exact trivial|((first|refine kL ?_|(refine ⟨fun hb=>?_,fun hb=>?_⟩<;>(try simp only [nrm] at hb)<;>(try (first|(exfalso;omega)|contradiction|exact kB hb)))|refine kA hf ?_|refine kD hf ?_|refine kW cfg_ok ?_|refine kC ?_|refine bdA ?_|refine bd2 ?_|refine bdR ?_|refine bdL ?_)<;>(conv=>whnf))|(refine And.intro ?_ ?_;rotate_left;(conv=>whnf);rotate_right))
       refine .to (k + 1) (by omega) (by omega) ?_
       conv=>whnf
       repeat' (first|exact trivial|((first|refine kL ?_|(refine ⟨fun hb=>?_,fun hb=>?_⟩<;>(try simp only [nrm] at hb)<;>(try (first|(exfalso;omega)|contradiction|exact kB hb)))|refine kW cfg_ok ?_|refine kC ?_|refine bdA ?_|refine bd2 ?_|refine bdR ?_|refine bdL ?_)<;>(conv=>whnf))|(refine And.intro ?_ ?_;rotate_left;(conv=>whnf);rotate_right))
       all_goals first|rfl|omega|(rw [hs1];exact List.take_of_length_le (by omega))|rw [hs1]|trace_state
     · rw [e] at hf hs1
       dsimp only at hf hs1
       have hSO : ∀ o ∈ sortedL (elt .orders l k),OkO o:=fun o ho=>hb.2 o (sorted_mem ho)
       have hSl:=sortedL_le (elt .orders l k)
       have hcE : cntW (V (k + 1)) = haveW (runW (V k) (sortedL (elt .orders l k))).1:=by
         rw [hs1,cnt_have (right_T (run_rw hR) ⟨by have:=hR.size;omega,by omega⟩)];rfl
       have hc0 : cntW (V k) = haveW (V k):=cnt_have hR
       have hrl : (runW (V k) (sortedL (elt .orders l k))).2.length ≤ 1000:=by rw [run_len];omega
       generalize sortedL (elt .orders l k) = S at *
       obtain ⟨W,H,w0,h0,hE,hHl,hst⟩:=exp_run hR S hSO
       rw [← hE] at hcE
       rw [← h0] at hc0
       generalize (runW (V k) S).2 = Q at *
       generalize withT (runW (V k) S).1 ((V k).tick + 1) = Nx at *
       have hH0:=hHl 0 (by omega)
       conv=>whnf
       repeat' (first|exact trivial|((first|refine kL ?_|(refine ⟨fun hb=>?_,fun hb=>?_⟩<;>(try simp only [nrm] at hb)<;>(try (first|(exfalso;omega)|contradiction|exact kB hb)))|refine kA hf ?_|refine kD hf ?_|refine kA hso ?_|refine kD hso ?_|refine kW cfg_ok ?_|refine kC ?_|refine bdA ?_|refine bd2 ?_|refine bdR ?_|refine bdL ?_)<;>(conv=>whnf))|(refine And.intro ?_ ?_;rotate_left;(conv=>whnf);rotate_right))
       refine Runs.loopS cfg_ok (σ:=Nat) [2,5,6,9,24,25,26,40,41,42] (fun j=>[.ptr 4 0,.ptr 10 0,.own .i64 150001 0 13 none,.ptr 18 0,.vec .orders l,i64 l.length,i64 k,.vec .order S,i64 S.length,i64 j])
         (fun j=>[(4,.box (wldC (W j))),(10,.box zeroW),(18,.box (wldC Nx)),(150001,.row .i64 (H j))]) (fun j=>j ≤ S.length) (fun j=>S.length - j) 0 (by omega) ?_ ?_
       · conv=>whnf
         repeat' (first|exact trivial|((first|refine kL ?_|(refine ⟨fun hb=>?_,fun hb=>?_⟩<;>(try simp only [nrm] at hb)<;>(try (first|(exfalso;omega)|contradiction|exact kB hb)))|refine kW cfg_ok ?_|refine kC ?_|refine bdA ?_|refine bd2 ?_|refine bdR ?_|refine bdL ?_)<;>(conv=>whnf))|(refine And.intro ?_ ?_;rotate_left;(conv=>whnf);rotate_right))
         all_goals first|rfl|omega|rw [w0]|(rw [← hc0];exact List.take_of_length_le (by omega))|trace_state
       · intro j hj
         have hHj:=hHl j hj
         by_cases hlj : j < S.length
         · obtain ⟨D,e,X,hD,hA,hDl,x0,xE,xl,xs,xb⟩:=hst j hlj
           have hHj1:=hHl (j + 1) (by omega)
           conv=>whnf
           repeat' (first|exact trivial|((first|refine kL ?_|(refine ⟨fun hb=>?_,fun hb=>?_⟩<;>(try simp only [nrm] at hb)<;>(try (first|(exfalso;omega)|contradiction|exact kB hb)))|refine kA hD ?_|refine kD hD ?_|refine kW cfg_ok ?_|refine kC ?_|refine bdA ?_|refine bd2 ?_|refine bdR ?_|refine bdL ?_)<;>(conv=>whnf))|(refine And.intro ?_ ?_;rotate_left;(conv=>whnf);rotate_right))
           refine Runs.loopS cfg_ok (σ:=Nat) [2,5,6,9,13,24,25,26,40,41,42,51,52,53] (fun i=>[.ptr 4 0,.ptr 10 0,.own .i64 150001 0 13 none,.ptr 18 0,.ptr 26 0,.vec .orders l,i64 l.length,i64 k,.vec .order S,i64 S.length,i64 j,.vec .i64 D,i64 D.length,i64 i])
             (fun i=>[(4,.box (wldC (W j))),(10,.box zeroW),(18,.box (wldC Nx)),(26,.box (cells .order (elt .order S j))),(150001,.row .i64 (X i))]) (fun i=>i ≤ 13) (fun i=>13 - i) 0 (by omega) ?_ ?_
           · conv=>whnf
             repeat' (first|exact trivial|((first|refine kL ?_|(refine ⟨fun hb=>?_,fun hb=>?_⟩<;>(try simp only [nrm] at hb)<;>(try (first|(exfalso;omega)|contradiction|exact kB hb)))|refine kW cfg_ok ?_|refine kC ?_|refine bdA ?_|refine bd2 ?_|refine bdR ?_|refine bdL ?_)<;>(conv=>whnf))|(refine And.intro ?_ ?_;rotate_left;(conv=>whnf);rotate_right))
             all_goals first|rfl|omega|(rw [x0];exact List.take_of_length_le (by omega))|trace_state
           · intro i hi
             have hxl:=xl i hi
             by_cases hli : i < 13
             · have hxb:=xb i hli
               have hxs:=xs i hli
               have hxl1:=xl (i + 1) (by omega)
               have hxb2 : inN 288230376151711744 (elt .i64 (X i) ((i : Int).toNat + 0)) ∧ inN 288230376151711744 ((elt .i64 (X i) ((i : Int).toNat + 0) : Int) + elt .i64 D (i : Int).toNat):=hxb
               have hxs2 : (X i).set ((i : Int).toNat + 0) ((elt .i64 (X i) ((i : Int).toNat + 0) : Int) + elt .i64 D (i : Int).toNat) = X (i + 1):=hxs
               unfold inN at hxb2
               conv=>whnf
               repeat' (first|exact trivial|((first|refine kL ?_|(refine ⟨fun hb=>?_,fun hb=>?_⟩<;>(try simp only [nrm] at hb)<;>(try (first|(exfalso;omega)|contradiction|exact kB hb)))|refine kW cfg_ok ?_|refine kC ?_|refine bdA ?_|refine bd2 ?_|refine bdR ?_|refine bdL ?_)<;>(conv=>whnf))|(refine And.intro ?_ ?_;rotate_left;(conv=>whnf);rotate_right))
               refine .to (i + 1) (by omega) (by omega) ?_
               conv=>whnf
               repeat' (first|exact trivial|((first|refine kL ?_|(refine ⟨fun hb=>?_,fun hb=>?_⟩<;>(try simp only [nrm] at hb)<;>(try (first|(exfalso;omega)|contradiction|exact kB hb)))|refine kW cfg_ok ?_|refine kC ?_|refine bdA ?_|refine bd2 ?_|refine bdR ?_|refine bdL ?_)<;>(conv=>whnf))|(refine And.intro ?_ ?_;rotate_left;(conv=>whnf);rotate_right))
               all_goals first|rfl|omega|(rw [hxs2];exact List.take_of_length_le (by omega))|(rw [hxs2];omega)|(rw [List.length_set];omega)|trace_state
             · obtain rfl : i = 13:=by omega
               conv=>whnf
               repeat' (first|exact trivial|((first|refine kL ?_|(refine ⟨fun hb=>?_,fun hb=>?_⟩<;>(try simp only [nrm] at hb)<;>(try (first|(exfalso;omega)|contradiction|exact kB hb)))|refine kA hA ?_|refine kD hA ?_|refine kW cfg_ok ?_|refine kC ?_|refine bdA ?_|refine bd2 ?_|refine bdR ?_|refine bdL ?_)<;>(conv=>whnf))|(refine And.intro ?_ ?_;rotate_left;(conv=>whnf);rotate_right))
               refine .to (j + 1) (by omega) (by omega) ?_
               conv=>whnf
               repeat' (first|exact trivial|((first|refine kL ?_|(refine ⟨fun hb=>?_,fun hb=>?_⟩<;>(try simp only [nrm] at hb)<;>(try (first|(exfalso;omega)|contradiction|exact kB hb)))|refine kW cfg_ok ?_|refine kC ?_|refine bdA ?_|refine bd2 ?_|refine bdR ?_|refine bdL ?_)<;>(conv=>whnf))|(refine And.intro ?_ ?_;rotate_left;(conv=>whnf);rotate_right))
               all_goals first|rfl|omega|(rw [xE];exact List.take_of_length_le (by omega))|trace_state
         · obtain rfl : j = S.length:=by omega
           conv=>whnf
           repeat' (first|exact trivial|((first|refine kL ?_|(refine ⟨fun hb=>?_,fun hb=>?_⟩<;>(try simp only [nrm] at hb)<;>(try (first|(exfalso;omega)|contradiction|exact kB hb)))|refine kW cfg_ok ?_|refine kC ?_|refine bdA ?_|refine bd2 ?_|refine bdR ?_|refine bdL ?_)<;>(conv=>whnf))|(refine And.intro ?_ ?_;rotate_left;(conv=>whnf);rotate_right))
           refine .to (k + 1) (by omega) (by omega) ?_
           conv=>whnf
           repeat' (first|exact trivial|((first|refine kL ?_|(refine ⟨fun hb=>?_,fun hb=>?_⟩<;>(try simp only [nrm] at hb)<;>(try (first|(exfalso;omega)|contradiction|exact kB hb)))|refine kW cfg_ok ?_|refine kC ?_|refine bdA ?_|refine bd2 ?_|refine bdR ?_|refine bdL ?_)<;>(conv=>whnf))|(refine And.intro ?_ ?_;rotate_left;(conv=>whnf);rotate_right))
           all_goals first|rfl|omega|(rw [hcE];exact List.take_of_length_le (by omega))|rw [hs1]|trace_state
   · obtain rfl : k = l.length:=by omega
     conv=>whnf
     repeat' (first|exact trivial|((first|refine kL ?_|(refine ⟨fun hb=>?_,fun hb=>?_⟩<;>(try simp only [nrm] at hb)<;>(try (first|(exfalso;omega)|contradiction|exact kB hb)))|refine kW cfg_ok ?_|refine kC ?_|refine bdA ?_|refine bd2 ?_|refine bdR ?_|refine bdL ?_)<;>(conv=>whnf))|(refine And.intro ?_ ?_;rotate_left;(conv=>whnf);rotate_right))
     all_goals first|rfl|omega|exact List.take_of_length_le (by omega)|(rw [List.drop_zero];exact List.take_of_length_le (by omega))|trace_state
end Go.Proofs.YtkojlembanldcaaGreat
