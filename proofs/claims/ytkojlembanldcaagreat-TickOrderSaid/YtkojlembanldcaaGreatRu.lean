/- homesteadlaw17.TickOrder. -/
import Derived.Test.YtkojlembanldcaaGreatRb
import Derived.Test.YtkojlembanldcaaGreatRh
import Derived.Test.YtkojlembanldcaaGreatRp
import Derived.Test.YtkojlembanldcaaGreatRc
set_option linter.unusedSimpArgs false
set_option linter.unusedVariables false
set_option maxRecDepth 100000
set_option maxHeartbeats 4000000
namespace Go.Proofs.YtkojlembanldcaaGreat
open Go Go.RowKit Eng
theorem have_own (w : Wld) (hR : RW w) : Ev1 Tryz.prog 35 [wldV w] [] (.own .i64 390001 0 13 none) [(390001,.row .i64 (haveW w))]:=by
 have hw:=okW_rw hR
 have hnp:=hw.np
 have hnc:=hw.nc
 unfold haveW
 obtain ⟨V,hz0,hnx,hat,hsf,hln,hVe⟩ : ∃ V : Nat → List (El .i64),V 0 = zeros13 ∧ (∀ i,i < 13 → (V i).set i (tw i w) = V (i + 1)) ∧ (∀ i,i < 13 → ∀ x : Int,elt .i64 ((V i).set i x) i = x) ∧ (∀ i,i < 13 → (V i).set i (0 : Int) = V i) ∧ (∀ i,i ≤ 13 → (V i).length = 13) ∧ V 13 = hv w 13:=
   ⟨hv w,hv_zero w,fun i h=>hv_next w h,fun i h x=>hv_at w h x,fun i h=>hv_self w h,fun i h=>hv_len w h,rfl⟩
 rw [← hVe]
 clear hVe
 have hlz : zeros13.length = 13:=rfl
 refine Ev1.of_fin cfg_ok Tryz.func35 rfl (nt:=86) rfl rfl rfl ?_
 ((try with_reducible refine evCut fun N hN hE hT=>?_);(conv=>whnf))
 repeat' (first|exact trivial|((first|((first|refine hT _ _ ?_|refine hE _ _ _ ?_|refine hN _ _ ?_);clear hN hE hT)|refine kL ?_|(refine ⟨fun hb=>?_,fun hb=>?_⟩<;>(try simp only [nrm] at hb)<;>(try (first|(exfalso;omega)|contradiction|exact kB hb)))|refine kW cfg_ok ?_|refine kC ?_|refine bdA ?_|refine bd2 ?_|refine bdR ?_|refine bdL ?_)<;>((try with_reducible refine evCut fun N hN hE hT=>?_);(conv=>whnf)))|(refine And.intro ?_ ?_;rotate_left;(conv=>whnf);rotate_right))
 refine Runs.loopQ cfg_ok (σ:=Nat) [1,3,14] (fun i=>[.ptr 200002 0,.own .i64 200027 0 13 none,.lit (.int .u8 (i : Nat))]) (fun i=>[(200002,.box (wldC w)),(200027,.row .i64 (V i))]) (fun i=>i ≤ 13) (fun i=>13 - i) 0 (by omega) ?_ ?_
 · conv=>whnf
   repeat' (first|exact trivial|((first|((first|refine hT _ _ ?_|refine hE _ _ _ ?_|refine hN _ _ ?_);clear hN hE hT)|refine kL ?_|(refine ⟨fun hb=>?_,fun hb=>?_⟩<;>(try simp only [nrm] at hb)<;>(try (first|(exfalso;omega)|contradiction|exact kB hb)))|refine kW cfg_ok ?_|refine kC ?_|refine bdA ?_|refine bd2 ?_|refine bdR ?_|refine bdL ?_)<;>((try with_reducible refine evCut fun N hN hE hT=>?_);(conv=>whnf)))|(refine And.intro ?_ ?_;rotate_left;(conv=>whnf);rotate_right))
   all_goals first|rfl|omega|(rw [hz0];rfl)|trace_state
 · intro i hi N hN hE hT
   have hl1:=hln i hi
   by_cases hlt : i < 13
   · have hPQ : ∃ P Q : Nat → Int,P 0 = 0 ∧ P w.players.length = Q 0 ∧ Q w.chunks.length = tw i w ∧ (∀ k,inN 288230376151711744 (P k)) ∧ (∀ k,inN 288230376151711744 (Q k)) ∧
         (∀ k,k < w.players.length → P (k + 1) = P k + (countS (elt .player w.players k).bag i + countS (elt .player w.players k).offer i)) ∧
         (∀ k,k < w.chunks.length → ∃ H B : Nat → Int,H 0 = Q k ∧ H (elt .chunk w.chunks k).heaps.length = B 0 ∧ B (elt .chunk w.chunks k).boxes.length = Q (k + 1) ∧ (∀ j,inN 288230376151711744 (H j)) ∧ (∀ j,inN 288230376151711744 (B j)) ∧
           (∀ j,j < (elt .chunk w.chunks k).heaps.length → H (j + 1) = H j + countS [(elt .heap (elt .chunk w.chunks k).heaps j).slot] i) ∧ (∀ j,j < (elt .chunk w.chunks k).boxes.length → B (j + 1) = B j + countS (elt .box (elt .chunk w.chunks k).boxes j).bag i)):=
       ⟨fun k=>countS (lgP w k) i,fun k=>countS (lgC w k) i,rfl,by dsimp only;rw [lgP_end],by dsimp only;rw [lgC_end,count_slots],fun k=>pre_bd hR (pre_lgP w k) _,fun k=>pre_bd hR (pre_lgC w k) _,
         fun k hk=>by dsimp only;rw [lgP_succ hk,countS_app,countS_app],
         fun k hk=>⟨fun j=>countS (lgH w k j) i,fun j=>countS (lgB w k j) i,by dsimp only;rw [lgH_zero],by dsimp only;rw [lgB_zero],by dsimp only;rw [lgB_end hk],fun j=>pre_bd hR (pre_lgH hk j) _,fun j=>pre_bd hR (pre_lgB hk j) _,
           fun j hj=>by dsimp only;rw [lgH_succ hj,countS_app],fun j hj=>by dsimp only;rw [lgB_succ hj,countS_app]⟩⟩
     obtain ⟨P,Q,p0,p1,q1,p2,q2,p3,q3⟩:=hPQ
     obtain ⟨R,r0,rE,rl,re,rs⟩ : ∃ R : Int → List (El .i64),R 0 = V i ∧ R (tw i w) = V (i + 1) ∧ (∀ x,(R x).length = 13) ∧ (∀ b x : Int,inN b x → inN b (elt .i64 (R x) (((i : Nat) : Int).toNat + 0))) ∧ (∀ x z : Int,x + z = x + z → (R x).set (((i : Nat) : Int).toNat + 0) (elt .i64 (R x) (((i : Nat) : Int).toNat + 0) + z) = R (x + z)):=
       ⟨fun x=>(V i).set i x,hsf i hlt,hnx i hlt,fun x=>by rw [List.length_set];exact hl1,fun b x h=>by rw [Int.toNat_natCast,Nat.add_zero];exact (hat i hlt x).symm ▸ h,fun x z _=>by rw [Int.toNat_natCast,Nat.add_zero,List.set_set,hat i hlt x]⟩
     rw [← q1] at rE
     rw [← p0] at r0
     clear hnx hat hsf
     have hsP:=fun p (hp : p ∈ w.players)=>okP_sound (hR.players p hp).1
     have hsm:=small_slots hR
     conv=>whnf
     repeat' (first|exact trivial|((first|((first|refine hT _ _ ?_|refine hE _ _ _ ?_|refine hN _ _ ?_);clear hN hE hT)|refine kL ?_|(refine ⟨fun hb=>?_,fun hb=>?_⟩<;>(try simp only [nrm] at hb)<;>(try (first|(exfalso;omega)|contradiction|exact kB hb)))|refine kW cfg_ok ?_|refine kC ?_|refine bdA ?_|refine bd2 ?_|refine bdR ?_|refine bdL ?_)<;>((try with_reducible refine evCut fun N hN hE hT=>?_);(conv=>whnf)))|(refine And.intro ?_ ?_;rotate_left;(conv=>whnf);rotate_right))
     refine Runs.loopQ cfg_ok (σ:=Nat) [1,3,4,14,18,19,20] (fun k=>[.ptr 200002 0,.own .i64 200027 0 13 none,.lit (.int .u8 (i : Nat)),.lit (.int .u8 (i : Nat)),.vec .player w.players,i64 w.players.length,i64 k]) (fun k=>[(200002,.box (wldC w)),(200027,.row .i64 (R (P k)))]) (fun k=>k ≤ w.players.length) (fun k=>w.players.length - k) 0 (by omega) ?_ ?_
     · conv=>whnf
       repeat' (first|exact trivial|((first|((first|refine hT _ _ ?_|refine hE _ _ _ ?_|refine hN _ _ ?_);clear hN hE hT)|refine kL ?_|(refine ⟨fun hb=>?_,fun hb=>?_⟩<;>(try simp only [nrm] at hb)<;>(try (first|(exfalso;omega)|contradiction|exact kB hb)))|refine kW cfg_ok ?_|refine kC ?_|refine bdA ?_|refine bd2 ?_|refine bdR ?_|refine bdL ?_)<;>((try with_reducible refine evCut fun N hN hE hT=>?_);(conv=>whnf)))|(refine And.intro ?_ ?_;rotate_left;(conv=>whnf);rotate_right))
       all_goals first|rfl|omega|(rw [r0];exact List.take_of_length_le (by omega))|(rw [r0];omega)|trace_state
     · intro k hk N hN hE hT
       have hz2:=rl (P k)
       by_cases hlk : k < w.players.length
       · have hm:=elt_mem (t:=.player) hlk
         have hbl:=bag_le hm
         have hsb:=slots_bd hR hw
         have hb1 : ∀ s ∈ (elt .player w.players k).bag,s.n ≤ 16:=fun s hs=>((bagOk_small (sound_parts (hR.players _ hm).1).2.2.2.1) s hs).2
         have hb2 : ∀ s ∈ (elt .player w.players k).offer,s.n ≤ 16:=fun s hs=>by
           rcases (sound_parts (hR.players _ hm).1).2.2.2.2 with h|h
           · rw [h.2.1] at hs;cases hs
           · exact ((bagOk_small h.2.2.2.2) s hs).2
         have c1:=count_api (elt .player w.players k).bag i hb1 (by omega)
         have c2:=count_api (elt .player w.players k).offer i hb2 (by omega)
         have n1:=countS_nn i (elt .player w.players k).bag
         have n2:=countS_nn i (elt .player w.players k).offer
         have hs3:=p3 k hlk
         have hz3:=rl (P (k + 1))
         have hi1:=p2 k
         have hi2:=p2 (k + 1)
         have he:=re _ _ (p2 k)
         have hst:=rs (P k)
         unfold inN at hi1 hi2 he
         generalize countS (elt .player w.players k).bag i = C1 at *
         generalize countS (elt .player w.players k).offer i = C2 at *
         conv=>whnf
         repeat' (first|exact trivial|((first|((first|refine hT _ _ ?_|refine hE _ _ _ ?_|refine hN _ _ ?_);clear hN hE hT)|refine kL ?_|(refine ⟨fun hb=>?_,fun hb=>?_⟩<;>(try simp only [nrm] at hb)<;>(try (first|(exfalso;omega)|contradiction|exact kB hb)))|refine kA c1 ?_|refine kD c1 ?_|refine kA c2 ?_|refine kD c2 ?_|refine kW cfg_ok ?_|refine kC ?_|refine bdA ?_|refine bd2 ?_|refine bdR ?_|refine bdL ?_)<;>((try with_reducible refine evCut fun N hN hE hT=>?_);(conv=>whnf)))|(refine And.intro ?_ ?_;rotate_left;(conv=>whnf);rotate_right))
         refine .to (k + 1) (by omega) (by omega) ?_
         conv=>whnf
         repeat' (first|exact trivial|((first|((first|refine hT _ _ ?_|refine hE _ _ _ ?_|refine hN _ _ ?_);clear hN hE hT)|refine kL ?_|(refine ⟨fun hb=>?_,fun hb=>?_⟩<;>(try simp only [nrm] at hb)<;>(try (first|(exfalso;omega)|contradiction|exact kB hb)))|refine kW cfg_ok ?_|refine kC ?_|refine bdA ?_|refine bd2 ?_|refine bdR ?_|refine bdL ?_)<;>((try with_reducible refine evCut fun N hN hE hT=>?_);(conv=>whnf)))|(refine And.intro ?_ ?_;rotate_left;(conv=>whnf);rotate_right))
         all_goals first|rfl|omega|exact List.take_of_length_le (by omega)|(rw [hst _ rfl,← hs3];exact List.take_of_length_le (by omega))|(rw [List.length_set];omega)|trace_state
       · obtain rfl : k = w.players.length:=by omega
         have hz4:=rl (Q 0)
         conv=>whnf
         repeat' (first|exact trivial|((first|((first|refine hT _ _ ?_|refine hE _ _ _ ?_|refine hN _ _ ?_);clear hN hE hT)|refine kL ?_|(refine ⟨fun hb=>?_,fun hb=>?_⟩<;>(try simp only [nrm] at hb)<;>(try (first|(exfalso;omega)|contradiction|exact kB hb)))|refine kW cfg_ok ?_|refine kC ?_|refine bdA ?_|refine bd2 ?_|refine bdR ?_|refine bdL ?_)<;>((try with_reducible refine evCut fun N hN hE hT=>?_);(conv=>whnf)))|(refine And.intro ?_ ?_;rotate_left;(conv=>whnf);rotate_right))
         refine Runs.loopQ cfg_ok (σ:=Nat) [1,3,4,14,41,42,43] (fun k=>[.ptr 200002 0,.own .i64 200027 0 13 none,.lit (.int .u8 (i : Nat)),.lit (.int .u8 (i : Nat)),.vec .chunk w.chunks,i64 w.chunks.length,i64 k]) (fun k=>[(200002,.box (wldC w)),(200027,.row .i64 (R (Q k)))]) (fun k=>k ≤ w.chunks.length) (fun k=>w.chunks.length - k) 0 (by omega) ?_ ?_
         · conv=>whnf
           repeat' (first|exact trivial|((first|((first|refine hT _ _ ?_|refine hE _ _ _ ?_|refine hN _ _ ?_);clear hN hE hT)|refine kL ?_|(refine ⟨fun hb=>?_,fun hb=>?_⟩<;>(try simp only [nrm] at hb)<;>(try (first|(exfalso;omega)|contradiction|exact kB hb)))|refine kW cfg_ok ?_|refine kC ?_|refine bdA ?_|refine bd2 ?_|refine bdR ?_|refine bdL ?_)<;>((try with_reducible refine evCut fun N hN hE hT=>?_);(conv=>whnf)))|(refine And.intro ?_ ?_;rotate_left;(conv=>whnf);rotate_right))
           all_goals first|rfl|omega|(rw [p1];exact List.take_of_length_le (by omega))|(rw [p1];omega)|trace_state
         · intro k hk N hN hE hT
           have hz5:=rl (Q k)
           by_cases hlc : k < w.chunks.length
           · have hm:=elt_mem (t:=.chunk) hlc
             obtain ⟨H,B,h0,h1,h2,h3,h4,h5,h6⟩:=q3 k hlc
             have hok:=hw.fit _ hm
             have nh:=hok.heaps
             have nb:=hok.boxes
             have hcr:=(hR.chunks _ hm).1
             generalize hc : elt .chunk w.chunks k = c at *
             conv=>whnf
             repeat' (first|exact trivial|((first|((first|refine hT _ _ ?_|refine hE _ _ _ ?_|refine hN _ _ ?_);clear hN hE hT)|refine kL ?_|(refine ⟨fun hb=>?_,fun hb=>?_⟩<;>(try simp only [nrm] at hb)<;>(try (first|(exfalso;omega)|contradiction|exact kB hb)))|refine kW cfg_ok ?_|refine kC ?_|refine bdA ?_|refine bd2 ?_|refine bdR ?_|refine bdL ?_)<;>((try with_reducible refine evCut fun N hN hE hT=>?_);(conv=>whnf)))|(refine And.intro ?_ ?_;rotate_left;(conv=>whnf);rotate_right))
             rw [show elt .chunk w.chunks ((k : Nat) : Int).toNat = c from hc]
             have hz7:=rl (H 0)
             refine Runs.loopQ cfg_ok (σ:=Nat) [1,3,4,8,14,41,42,43,48,49,50] (fun j=>[.ptr 200002 0,.own .i64 200027 0 13 none,.lit (.int .u8 (i : Nat)),.ptr 200016 0,.lit (.int .u8 (i : Nat)),.vec .chunk w.chunks,i64 w.chunks.length,i64 k,.vec .heap c.heaps,i64 c.heaps.length,i64 j]) (fun j=>[(200002,.box (wldC w)),(200016,.box (chunkC c)),(200027,.row .i64 (R (H j)))]) (fun j=>j ≤ c.heaps.length) (fun j=>c.heaps.length - j) 0 (by omega) ?_ ?_
             · conv=>whnf
               repeat' (first|exact trivial|((first|((first|refine hT _ _ ?_|refine hE _ _ _ ?_|refine hN _ _ ?_);clear hN hE hT)|refine kL ?_|(refine ⟨fun hb=>?_,fun hb=>?_⟩<;>(try simp only [nrm] at hb)<;>(try (first|(exfalso;omega)|contradiction|exact kB hb)))|refine kW cfg_ok ?_|refine kC ?_|refine bdA ?_|refine bd2 ?_|refine bdR ?_|refine bdL ?_)<;>((try with_reducible refine evCut fun N hN hE hT=>?_);(conv=>whnf)))|(refine And.intro ?_ ?_;rotate_left;(conv=>whnf);rotate_right))
               all_goals first|rfl|omega|(rw [h0];exact List.take_of_length_le (by omega))|(rw [h0];omega)|trace_state
             · intro j hj N hN hE hT
               have hz8:=rl (H j)
               by_cases hlj : j < c.heaps.length
               · have hsl:=someB_ok (right_heap hcr (elt_mem (t:=.heap) hlj)).1
                 have c1:=count_api [(elt .heap c.heaps j).slot] i (fun s hs=>by rw [List.mem_singleton] at hs;rw [hs];omega) (by simp)
                 have n1:=countS_nn i [(elt .heap c.heaps j).slot]
                 have hs3:=h5 j hlj
                 have hz3:=rl (H (j + 1))
                 have hi1:=h3 j
                 have hi2:=h3 (j + 1)
                 have he:=re _ _ (h3 j)
                 have hst:=rs (H j)
                 unfold inN at hi1 hi2 he
                 generalize countS [(elt .heap c.heaps j).slot] i = C1 at *
                 conv=>whnf
                 repeat' (first|exact trivial|((first|((first|refine hT _ _ ?_|refine hE _ _ _ ?_|refine hN _ _ ?_);clear hN hE hT)|refine kL ?_|(refine ⟨fun hb=>?_,fun hb=>?_⟩<;>(try simp only [nrm] at hb)<;>(try (first|(exfalso;omega)|contradiction|exact kB hb)))|refine kE (lend1c c1 rfl) [(1,200121)] rfl ?_|refine kF (lend1c c1 rfl) [(1,200121)] rfl ?_|refine kW cfg_ok ?_|refine kC ?_|refine bdA ?_|refine bd2 ?_|refine bdR ?_|refine bdL ?_)<;>((try with_reducible refine evCut fun N hN hE hT=>?_);(conv=>whnf)))|(refine And.intro ?_ ?_;rotate_left;(conv=>whnf);rotate_right))
                 refine .to (j + 1) (by omega) (by omega) ?_
                 conv=>whnf
                 repeat' (first|exact trivial|((first|((first|refine hT _ _ ?_|refine hE _ _ _ ?_|refine hN _ _ ?_);clear hN hE hT)|refine kL ?_|(refine ⟨fun hb=>?_,fun hb=>?_⟩<;>(try simp only [nrm] at hb)<;>(try (first|(exfalso;omega)|contradiction|exact kB hb)))|refine kW cfg_ok ?_|refine kC ?_|refine bdA ?_|refine bd2 ?_|refine bdR ?_|refine bdL ?_)<;>((try with_reducible refine evCut fun N hN hE hT=>?_);(conv=>whnf)))|(refine And.intro ?_ ?_;rotate_left;(conv=>whnf);rotate_right))
                 all_goals first|rfl|omega|exact List.take_of_length_le (by omega)|(rw [hst _ rfl,← hs3];exact List.take_of_length_le (by omega))|(rw [List.length_set];omega)|trace_state
               · obtain rfl : j = c.heaps.length:=by omega
                 have hz9:=rl (B 0)
                 conv=>whnf
                 repeat' (first|exact trivial|((first|((first|refine hT _ _ ?_|refine hE _ _ _ ?_|refine hN _ _ ?_);clear hN hE hT)|refine kL ?_|(refine ⟨fun hb=>?_,fun hb=>?_⟩<;>(try simp only [nrm] at hb)<;>(try (first|(exfalso;omega)|contradiction|exact kB hb)))|refine kW cfg_ok ?_|refine kC ?_|refine bdA ?_|refine bd2 ?_|refine bdR ?_|refine bdL ?_)<;>((try with_reducible refine evCut fun N hN hE hT=>?_);(conv=>whnf)))|(refine And.intro ?_ ?_;rotate_left;(conv=>whnf);rotate_right))
                 refine Runs.loopQ cfg_ok (σ:=Nat) [1,3,4,14,41,42,43,67,68,69] (fun j=>[.ptr 200002 0,.own .i64 200027 0 13 none,.lit (.int .u8 (i : Nat)),.lit (.int .u8 (i : Nat)),.vec .chunk w.chunks,i64 w.chunks.length,i64 k,.vec .box c.boxes,i64 c.boxes.length,i64 j]) (fun j=>[(200002,.box (wldC w)),(200027,.row .i64 (R (B j)))]) (fun j=>j ≤ c.boxes.length) (fun j=>c.boxes.length - j) 0 (by omega) ?_ ?_
                 · conv=>whnf
                   repeat' (first|exact trivial|((first|((first|refine hT _ _ ?_|refine hE _ _ _ ?_|refine hN _ _ ?_);clear hN hE hT)|refine kL ?_|(refine ⟨fun hb=>?_,fun hb=>?_⟩<;>(try simp only [nrm] at hb)<;>(try (first|(exfalso;omega)|contradiction|exact kB hb)))|refine kW cfg_ok ?_|refine kC ?_|refine bdA ?_|refine bd2 ?_|refine bdR ?_|refine bdL ?_)<;>((try with_reducible refine evCut fun N hN hE hT=>?_);(conv=>whnf)))|(refine And.intro ?_ ?_;rotate_left;(conv=>whnf);rotate_right))
                   all_goals first|rfl|omega|(rw [h1];exact List.take_of_length_le (by omega))|(rw [h1];omega)|trace_state
                 · intro j hj N hN hE hT
                   have hz10:=rl (B j)
                   by_cases hlb : j < c.boxes.length
                   · have hbr:=right_bag hcr (elt_mem (t:=.box) hlb)
                     have c1:=count_api (elt .box c.boxes j).bag i (fun s hs=>(bagOk_small hbr.2 s hs).2) (by omega)
                     have n1:=countS_nn i (elt .box c.boxes j).bag
                     have hs3:=h6 j hlb
                     have hz3:=rl (B (j + 1))
                     have hi1:=h4 j
                     have hi2:=h4 (j + 1)
                     have he:=re _ _ (h4 j)
                     have hst:=rs (B j)
                     unfold inN at hi1 hi2 he
                     generalize countS (elt .box c.boxes j).bag i = C1 at *
                     conv=>whnf
                     repeat' (first|exact trivial|((first|((first|refine hT _ _ ?_|refine hE _ _ _ ?_|refine hN _ _ ?_);clear hN hE hT)|refine kL ?_|(refine ⟨fun hb=>?_,fun hb=>?_⟩<;>(try simp only [nrm] at hb)<;>(try (first|(exfalso;omega)|contradiction|exact kB hb)))|refine kA c1 ?_|refine kD c1 ?_|refine kW cfg_ok ?_|refine kC ?_|refine bdA ?_|refine bd2 ?_|refine bdR ?_|refine bdL ?_)<;>((try with_reducible refine evCut fun N hN hE hT=>?_);(conv=>whnf)))|(refine And.intro ?_ ?_;rotate_left;(conv=>whnf);rotate_right))
                     refine .to (j + 1) (by omega) (by omega) ?_
                     conv=>whnf
                     repeat' (first|exact trivial|((first|((first|refine hT _ _ ?_|refine hE _ _ _ ?_|refine hN _ _ ?_);clear hN hE hT)|refine kL ?_|(refine ⟨fun hb=>?_,fun hb=>?_⟩<;>(try simp only [nrm] at hb)<;>(try (first|(exfalso;omega)|contradiction|exact kB hb)))|refine kW cfg_ok ?_|refine kC ?_|refine bdA ?_|refine bd2 ?_|refine bdR ?_|refine bdL ?_)<;>((try with_reducible refine evCut fun N hN hE hT=>?_);(conv=>whnf)))|(refine And.intro ?_ ?_;rotate_left;(conv=>whnf);rotate_right))
                     all_goals first|rfl|omega|exact List.take_of_length_le (by omega)|(rw [hst _ rfl,← hs3];exact List.take_of_length_le (by omega))|(rw [List.length_set];omega)|trace_state
                   · obtain rfl : j = c.boxes.length:=by omega
                     have hz11:=rl (Q (k + 1))
                     conv=>whnf
                     repeat' (first|exact trivial|((first|((first|refine hT _ _ ?_|refine hE _ _ _ ?_|refine hN _ _ ?_);clear hN hE hT)|refine kL ?_|(refine ⟨fun hb=>?_,fun hb=>?_⟩<;>(try simp only [nrm] at hb)<;>(try (first|(exfalso;omega)|contradiction|exact kB hb)))|refine kW cfg_ok ?_|refine kC ?_|refine bdA ?_|refine bd2 ?_|refine bdR ?_|refine bdL ?_)<;>((try with_reducible refine evCut fun N hN hE hT=>?_);(conv=>whnf)))|(refine And.intro ?_ ?_;rotate_left;(conv=>whnf);rotate_right))
                     refine .to (k + 1) (by omega) (by omega) ?_
                     conv=>whnf
                     repeat' (first|exact trivial|((first|((first|refine hT _ _ ?_|refine hE _ _ _ ?_|refine hN _ _ ?_);clear hN hE hT)|refine kL ?_|(refine ⟨fun hb=>?_,fun hb=>?_⟩<;>(try simp only [nrm] at hb)<;>(try (first|(exfalso;omega)|contradiction|exact kB hb)))|refine kW cfg_ok ?_|refine kC ?_|refine bdA ?_|refine bd2 ?_|refine bdR ?_|refine bdL ?_)<;>((try with_reducible refine evCut fun N hN hE hT=>?_);(conv=>whnf)))|(refine And.intro ?_ ?_;rotate_left;(conv=>whnf);rotate_right))
                     all_goals first|rfl|omega|(rw [h2];exact List.take_of_length_le (by omega))|(rw [h2];omega)|trace_state
           · obtain rfl : k = w.chunks.length:=by omega
             have hz12:=hln (i + 1) (by omega)
             conv=>whnf
             repeat' (first|exact trivial|((first|((first|refine hT _ _ ?_|refine hE _ _ _ ?_|refine hN _ _ ?_);clear hN hE hT)|refine kL ?_|(refine ⟨fun hb=>?_,fun hb=>?_⟩<;>(try simp only [nrm] at hb)<;>(try (first|(exfalso;omega)|contradiction|exact kB hb)))|refine kW cfg_ok ?_|refine kC ?_|refine bdA ?_|refine bd2 ?_|refine bdR ?_|refine bdL ?_)<;>((try with_reducible refine evCut fun N hN hE hT=>?_);(conv=>whnf)))|(refine And.intro ?_ ?_;rotate_left;(conv=>whnf);rotate_right))
             refine .to (i + 1) (by omega) (by omega) ?_
             conv=>whnf
             repeat' (first|exact trivial|((first|((first|refine hT _ _ ?_|refine hE _ _ _ ?_|refine hN _ _ ?_);clear hN hE hT)|refine kL ?_|(refine ⟨fun hb=>?_,fun hb=>?_⟩<;>(try simp only [nrm] at hb)<;>(try (first|(exfalso;omega)|contradiction|exact kB hb)))|refine kW cfg_ok ?_|refine kC ?_|refine bdA ?_|refine bd2 ?_|refine bdR ?_|refine bdL ?_)<;>((try with_reducible refine evCut fun N hN hE hT=>?_);(conv=>whnf)))|(refine And.intro ?_ ?_;rotate_left;(conv=>whnf);rotate_right))
             all_goals first|rfl|omega|(rw [rE];exact List.take_of_length_le (by omega))|(rw [rE];omega)|trace_state
   · obtain rfl : i = 13:=by omega
     conv=>whnf
     repeat' (first|exact trivial|((first|((first|refine hT _ _ ?_|refine hE _ _ _ ?_|refine hN _ _ ?_);clear hN hE hT)|refine kL ?_|(refine ⟨fun hb=>?_,fun hb=>?_⟩<;>(try simp only [nrm] at hb)<;>(try (first|(exfalso;omega)|contradiction|exact kB hb)))|refine kW cfg_ok ?_|refine kC ?_|refine bdA ?_|refine bd2 ?_|refine bdR ?_|refine bdL ?_)<;>((try with_reducible refine evCut fun N hN hE hT=>?_);(conv=>whnf)))|(refine And.intro ?_ ?_;rotate_left;(conv=>whnf);rotate_right))
     all_goals first|rfl|omega|exact List.take_of_length_le (Nat.le_of_eq hl1)|(rw [List.drop_zero];exact List.take_of_length_le (by omega))|trace_state
open Go Go.RowKit Eng
theorem clone_own (l : List (El .order)) (c : Option Nat) (hl : l.length * 56 ≤ 140737488355328) : Ev1 Tryz.prog 101 [.own .order 1 0 l.length c] [(1,.row .order l)] (.own .order 390001 0 l.length none) [(1,.row .order l),(390001,.row .order l)]:=by
 refine Ev1.of_fin cfg_ok Tryz.func101 rfl (nt:=7) rfl rfl rfl ?_
 conv=>whnf
 repeat' (first|exact trivial|((first|refine kL ?_|(refine ⟨fun hb=>?_,fun hb=>?_⟩<;>(try simp only [nrm] at hb)<;>(try (first|(exfalso;omega)|contradiction|exact kB hb)))|refine kW cfg_ok ?_|refine kC ?_|refine bdA ?_|refine bd2 ?_|refine bdR ?_|refine bdL ?_)<;>(conv=>whnf))|(refine And.intro ?_ ?_;rotate_left;(conv=>whnf);rotate_right))
 all_goals simp_all
theorem sorted_own (l : List (El .order)) (c : Option Nat) (hl : l.length ≤ 2000000000000) : Ev1 Tryz.prog 48 [.own .order 1 0 l.length c] [(1,.row .order l)] (.vec .order (sortedL l)) [(1,.row .order l)]:=by
 have hn:=sortO_length l
 refine Ev1.of_fin cfg_ok Tryz.func48 rfl (nt:=8) rfl rfl rfl ?_
 conv=>whnf
 repeat' (first|exact trivial|((first|refine kL ?_|(refine ⟨fun hb=>?_,fun hb=>?_⟩<;>(try simp only [nrm] at hb)<;>(try (first|(exfalso;omega)|contradiction|exact kB hb)))|(refine isE 101 ?_;refine kE (clone_own l c (by omega)) [(1,1),(390001,350001)] rfl ?_)|(refine isD 101 ?_;refine kF (clone_own l c (by omega)) [(1,1),(390001,350001)] rfl ?_)|refine kE (sort_ev l (by omega) none) [(1,350001)] rfl ?_|refine kF (sort_ev l (by omega) none) [(1,350001)] rfl ?_|(refine isE 107 ?_;refine kE (compact_n (sortO l) l.length hn.symm (by omega)) [(1,350001)] rfl ?_)|(refine isD 107 ?_;refine kF (compact_n (sortO l) l.length hn.symm (by omega)) [(1,350001)] rfl ?_)|refine kW cfg_ok ?_|refine kC ?_|refine bdA ?_|refine bd2 ?_|refine bdR ?_|refine bdL ?_)<;>(conv=>whnf))|(refine And.intro ?_ ?_;rotate_left;(conv=>whnf);rotate_right))
 all_goals first|rfl|exact List.take_length|trace_state
theorem fold_own (w : Wld) (l : List (El .order)) (c : Option Nat) (hw : OkW w) (hl : l.length ≤ 2000000000000) (hO : ∀ o ∈ l,OkO o) : Ev1 Tryz.prog 44 [wldV w,.own .order 1 0 l.length c] [(1,.row .order l)] (.tup [wldV (foldW w l).1,.vec .reply (foldW w l).2.1,i64 (foldW w l).2.2]) [(1,.row .order l)]:=by
 have hrt:=rightW_api w hw
 have how:=own_api w hw
 have hso:=sorted_own l c hl
 by_cases h1 : 1099511627776 ≤ w.tick
 · have hf : foldW w l = (w,[],113):=by unfold foldW;rw [if_pos (.inl h1)]
   rw [hf]
   dsimp only
   refine Ev1.of_fin cfg_ok Tryz.func44 rfl (nt:=62) rfl rfl rfl ?_
   conv=>whnf
   repeat' (first|exact trivial|((first|refine kL ?_|(refine ⟨fun hb=>?_,fun hb=>?_⟩<;>(try simp only [nrm] at hb)<;>(try (first|(exfalso;omega)|contradiction|exact kB hb)))|refine kA hrt ?_|refine kD hrt ?_|refine kA how ?_|refine kD how ?_|refine kW cfg_ok ?_|refine kC ?_|refine bdA ?_|refine bd2 ?_|refine bdR ?_|refine bdL ?_)<;>(conv=>whnf))|(refine And.intro ?_ ?_;rotate_left;(conv=>whnf);rotate_right))
   all_goals first|rfl|omega|trace_state
 · cases hR : rightW w with
   | false =>
     have hf : foldW w l = (w,[],113):=by unfold foldW;rw [if_pos (.inr hR)]
     rw [hf]
     rw [hR] at hrt
     dsimp only
     refine Ev1.of_fin cfg_ok Tryz.func44 rfl (nt:=62) rfl rfl rfl ?_
     conv=>whnf
     repeat' (first|exact trivial|((first|refine kL ?_|(refine ⟨fun hb=>?_,fun hb=>?_⟩<;>(try simp only [nrm] at hb)<;>(try (first|(exfalso;omega)|contradiction|exact kB hb)))|refine kA hrt ?_|refine kD hrt ?_|refine kA how ?_|refine kD how ?_|refine kW cfg_ok ?_|refine kC ?_|refine bdA ?_|refine bd2 ?_|refine bdR ?_|refine bdL ?_)<;>(conv=>whnf))|(refine And.intro ?_ ?_;rotate_left;(conv=>whnf);rotate_right))
     all_goals first|rfl|omega|trace_state
   | true =>
     rw [hR] at hrt
     by_cases h2 : 200 < l.length
     · have hf : foldW w l = (w,[],3):=by unfold foldW;rw [if_neg (by rw [hR];simp;omega),if_pos h2]
       rw [hf]
       dsimp only
       refine Ev1.of_fin cfg_ok Tryz.func44 rfl (nt:=62) rfl rfl rfl ?_
       conv=>whnf
       repeat' (first|exact trivial|((first|refine kL ?_|(refine ⟨fun hb=>?_,fun hb=>?_⟩<;>(try simp only [nrm] at hb)<;>(try (first|(exfalso;omega)|contradiction|exact kB hb)))|refine kA hrt ?_|refine kD hrt ?_|refine kA how ?_|refine kD how ?_|refine kW cfg_ok ?_|refine kC ?_|refine bdA ?_|refine bd2 ?_|refine bdR ?_|refine bdL ?_)<;>(conv=>whnf))|(refine And.intro ?_ ?_;rotate_left;(conv=>whnf);rotate_right))
       all_goals first|rfl|omega|trace_state
     · have hRW:=rightW_iff.1 hR
       have hf:=fold_good hRW (by omega) (l:=l) (by omega)
       have hsz:=hRW.size
       rw [hf]
       dsimp only
       have hSl:=sortedL_le l
       have hSO : ∀ o ∈ sortedL l,OkO o:=fun o ho=>hO o (sorted_mem ho)
       have htk:=run_tick (l:=sortedL l) hRW
       have hRE:=run_rw (l:=sortedL l) hRW
       generalize sortedL l = S at *
       obtain ⟨W,Rp,w0,r0,wE,rE,hlen,hst⟩:=run_walk hRW S hSO
       rw [← wE] at htk hRE
       rw [← wE,← rE]
       clear hf wE rE hSO
       have hz : S.length ≤ 200:=by omega
       refine Ev1.of_fin cfg_ok Tryz.func44 rfl (nt:=62) rfl rfl rfl ?_
       conv=>whnf
       repeat' (first|exact trivial|((first|refine kL ?_|(refine ⟨fun hb=>?_,fun hb=>?_⟩<;>(try simp only [nrm] at hb)<;>(try (first|(exfalso;omega)|contradiction|exact kB hb)))|refine kE hso [(1,1)] rfl ?_|refine kF hso [(1,1)] rfl ?_|refine kA hrt ?_|refine kD hrt ?_|refine kA how ?_|refine kD how ?_|refine kW cfg_ok ?_|refine kC ?_|refine bdA ?_|refine bd2 ?_|refine bdR ?_|refine bdL ?_)<;>(conv=>whnf))|(refine And.intro ?_ ?_;rotate_left;(conv=>whnf);rotate_right))
       refine Runs.loopS cfg_ok (σ:=Nat) [2,4,7,32,33,34] (fun k=>[.ptr 200004 0,.ptr 200008 0,.own .reply 200113 0 k none,.vec .order S,i64 S.length,i64 k]) (fun k=>[(200004,.box (wldC (W k))),(200008,.box zeroW),(200113,.row .reply (Rp k)),(1,.row .order l)]) (fun k=>k ≤ S.length) (fun k=>S.length - k) 0 (by omega) ?_ ?_
       · conv=>whnf
         repeat' (first|exact trivial|((first|refine kL ?_|(refine ⟨fun hb=>?_,fun hb=>?_⟩<;>(try simp only [nrm] at hb)<;>(try (first|(exfalso;omega)|contradiction|exact kB hb)))|refine kW cfg_ok ?_|refine kC ?_|refine bdA ?_|refine bd2 ?_|refine bdR ?_|refine bdL ?_)<;>(conv=>whnf))|(refine And.intro ?_ ?_;rotate_left;(conv=>whnf);rotate_right))
         all_goals first|rfl|omega|exact r0|rw [w0]|trace_state
       · intro k hk
         have hln:=hlen k hk
         by_cases hlt : k < S.length
         · obtain ⟨e,ha,hr⟩:=hst k hlt
           have hln2:=hlen (k + 1) (by omega)
           conv=>whnf
           repeat' (first|exact trivial|((first|refine kL ?_|(refine ⟨fun hb=>?_,fun hb=>?_⟩<;>(try simp only [nrm] at hb)<;>(try (first|(exfalso;omega)|contradiction|exact kB hb)))|refine kA ha ?_|refine kD ha ?_|refine kW cfg_ok ?_|refine kC ?_|refine bdA ?_|refine bd2 ?_|refine bdR ?_|refine bdL ?_)<;>(conv=>whnf))|(refine And.intro ?_ ?_;rotate_left;(conv=>whnf);rotate_right))
           refine .to (k + 1) (by omega) (by omega) ?_
           conv=>whnf
           repeat' (first|exact trivial|((first|refine kL ?_|(refine ⟨fun hb=>?_,fun hb=>?_⟩<;>(try simp only [nrm] at hb)<;>(try (first|(exfalso;omega)|contradiction|exact kB hb)))|refine kW cfg_ok ?_|refine kC ?_|refine bdA ?_|refine bd2 ?_|refine bdR ?_|refine bdL ?_)<;>(conv=>whnf))|(refine And.intro ?_ ?_;rotate_left;(conv=>whnf);rotate_right))
           all_goals first|rfl|omega|(rw [hr,List.take_of_length_le (l:=Rp k) (by omega)];exact List.take_of_length_le (by simp;omega))|trace_state
         · obtain rfl : k = S.length:=by omega
           conv=>whnf
           repeat' (first|exact trivial|((first|refine kL ?_|(refine ⟨fun hb=>?_,fun hb=>?_⟩<;>(try simp only [nrm] at hb)<;>(try (first|(exfalso;omega)|contradiction|exact kB hb)))|refine kW cfg_ok ?_|refine kC ?_|refine bdA ?_|refine bd2 ?_|refine bdR ?_|refine bdL ?_)<;>(conv=>whnf))|(refine And.intro ?_ ?_;rotate_left;(conv=>whnf);rotate_right))
           all_goals first|rfl|omega|exact congrArg (fun t : Int=>Value.int .i64 (t + 1)) htk|(rw [List.drop_zero];exact List.take_of_length_le (by omega))|trace_state
open Go Go.RowKit Eng
def turnL (T : List Order) (i k : Nat) : List Order:=((T.set i (elt .order T k)).set k (elt .order T i)) ++ [elt .order T i]
theorem mem_set_of {α : Type} {l : List α} {i : Nat} {a x : α} (h : x ∈ l.set i a) : x ∈ l ∨ x = a:=List.mem_or_eq_of_mem_set h
theorem turn_mem {T : List Order} {i k : Nat} (hi : i < T.length) (hk : k < T.length) (x : Order) : x ∈ turnL T i k ↔ x ∈ T:=by
 unfold turnL
 have mi:=elt_mem (t:=.order) (l:=T) hi
 have mk:=elt_mem (t:=.order) (l:=T) hk
 constructor
 · intro h
   rcases List.mem_append.1 h with h|h
   · rcases mem_set_of h with h|rfl
     · rcases mem_set_of h with h|rfl
       · exact h
       · exact mk
     · exact mi
   · rw [List.mem_singleton.1 h];exact mi
 · intro h
   obtain ⟨j,hj,e⟩:=List.getElem_of_mem h
   rw [List.mem_append]
   have key : ∀ n,((T.set i (elt .order T k)).set k (elt .order T i))[n]? = some x → x ∈ (T.set i (elt .order T k)).set k (elt .order T i):=fun n hn=>List.mem_of_getElem? hn
   by_cases h1 : j = i
   · right
     have:=elt_get .order T i hi
     subst h1
     rw [List.getElem?_eq_getElem hj,e] at this
     rw [List.mem_singleton];exact Option.some.inj this
   · left
     by_cases h2 : j = k
     · subst h2
       by_cases h3 : i = j
       · exact absurd h3.symm h1
       · refine key i ?_
         rw [List.getElem?_set_ne (fun h=>h3 h.symm),List.getElem?_set_self hi]
         have:=elt_get .order T j hj
         rw [List.getElem?_eq_getElem hj,e] at this
         exact this.symm
     · refine key j ?_
       rw [List.getElem?_set_ne (fun h=>h2 h.symm),List.getElem?_set_ne (fun h=>h1 h.symm),List.getElem?_eq_getElem hj,e]
def turnR (T : List Order) (i k : Nat) : List (El .order):=List.take T.length ((T.set i (elt .order T k)).set k (elt .order T i)) ++ [elt .order ((T.set i (elt .order T k)).set k (elt .order T i)) k]
theorem turnR_eq {T : List Order} {i k : Nat} (hk : k < T.length) : turnR T i k = turnL T i k:=by
 have h : elt .order ((T.set i (elt .order T k)).set k (elt .order T i)) k = elt .order T i:=by
   have h1:=elt_get .order ((T.set i (elt .order T k)).set k (elt .order T i)) k (by rw [List.length_set,List.length_set];exact hk)
   rw [List.getElem?_set_self (by rw [List.length_set];exact hk)] at h1
   exact (Option.some.inj h1).symm
 unfold turnR turnL
 rw [h,List.take_of_length_le (by rw [List.length_set,List.length_set];exact Nat.le_refl _)]
theorem turnR_len (T : List Order) (i k : Nat) : T.length + 1 = (turnR T i k).length:=by
 unfold turnR;rw [List.length_append,List.length_take,List.length_set,List.length_set,Nat.min_self];rfl
theorem ord_run {V : Wld} (hR : RW V) (S : List (El .order)) (hS : ∀ o ∈ S,OkO o) : ∃ (W : Nat → Wld) (H : Nat → List (El .i64)),W 0 = V ∧ H 0 = haveW V ∧ W S.length = (runW V S).1 ∧ H S.length = haveW (runW V S).1 ∧ (∀ j,j ≤ S.length → (H j).length = 13) ∧
   ∀ j,j < S.length → ∃ (D : List (El .i64)) (e : Int) (X : Nat → List (El .i64)),Api Tryz.prog 39 [wldV (W j),i64 (elt .order S j).player,cmdV (elt .order S j).cmd] (.vec .i64 D) ∧
     Api Tryz.prog 30 [wldV (W j),i64 (elt .order S j).player,cmdV (elt .order S j).cmd] (.tup [wldV (W (j + 1)),i64 e]) ∧ elt .reply (runW V S).2 j = (⟨(elt .order S j).player,(elt .order S j).seq,e⟩ : Reply) ∧ D.length = 13 ∧ X 0 = H j ∧ X 13 = H (j + 1) ∧ (∀ i,i ≤ 13 → (X i).length = 13) ∧
     (∀ i,i < 13 → (X i).set i ((elt .i64 (X i) i : Int) + elt .i64 D i) = X (i + 1)) ∧ (∀ i,i < 13 → inN 288230376151711744 (elt .i64 (X i) i) ∧ inN 288230376151711744 ((elt .i64 (X i) i : Int) + elt .i64 D i)):=by
 refine ⟨fun k=>(runW V (S.take k)).1,fun k=>haveW (runW V (S.take k)).1,rfl,rfl,by dsimp only;rw [List.take_length],by dsimp only;rw [List.take_length],fun j _=>hv_len _ (by omega),fun j hj=>?_⟩
 have hR2:=run_rw (l:=S.take j) hR
 have ho:=hS _ (elt_mem (t:=.order) hj)
 have e:=run_take_succ V (elt_get .order S j hj)
 have hl : (haveW (runW V (S.take j)).1).length = 13:=hv_len _ (by omega)
 have hst:=have_step hR2 (elt .order S j)
 refine ⟨deltasW (runW V (S.take j)).1 (elt .order S j).player (elt .order S j).cmd,(stepW (runW V (S.take j)).1 (elt .order S j)).2,fun i=>mixL (haveW (runW V (S.take j)).1) (deltasW (runW V (S.take j)).1 (elt .order S j).player (elt .order S j).cmd) i,
   deltas_api _ _ _ (okW_rw hR2) ho.1 ho.2,?_,?_,deltas_len _ _ _,rfl,?_,fun i hi=>mix_len hl hi,fun i hi=>?_,fun i hi=>?_⟩
 · dsimp only
   rw [e];exact apply_api _ _ _ (okW_rw hR2) ho.1 ho.2
 · have e2:=run_reply (w:=V) (elt_get .order S j hj)
   have e3:=elt_get .reply (runW V S).2 j (by rw [run_len];exact hj)
   rw [e3] at e2
   exact Option.some.inj e2
 · dsimp only
   rw [e];exact hst
 · dsimp only
   rw [mix_at hl hi];exact mix_next hl hi
 · dsimp only
   rw [mix_at hl hi]
   refine ⟨have_bd hR2 hi,?_⟩
   have h1:=have_bd (step_rw hR2 (elt .order S j)) hi
   rw [← hst,mix_end hl hi] at h1
   exact h1
theorem lend2o {P : Program} {fid : FuncId} {tt : Ty} {a b : List (El tt)} {n : Nat} {v : AV} (h : Api P fid [.vec tt a,.vec tt b] v) (hn : n = b.length) (hv : scalB v = true) : Ev1 P fid [.vec tt a,.own tt 1 0 n none] [(1,.row tt b)] v [(1,.row tt b)]:=by
 subst hn
 refine Api.lend h ?_ hv
 cases tt<;>(conv=>whnf)<;>exact ⟨by omega,by rw [List.drop_zero,List.take_length];rfl⟩
theorem fold_n {w : Wld} (T : List (El .order)) (c : Option Nat) (n : Nat) (hn : n = T.length) (hw : OkW w) (hl : T.length ≤ 2000000000000) (hO : ∀ o ∈ T,OkO o) {r : AV} (hr : AV.tup [wldV (foldW w T).1,.vec .reply (foldW w T).2.1,i64 (foldW w T).2.2] = r) :
   Ev1 Tryz.prog 44 [wldV w,.own .order 1 0 n c] [(1,.row .order T)] r [(1,.row .order T)]:=by
 subst hn;subst hr;exact fold_own w T c hw hl hO
theorem torder_api (w : Wld) (l : List (El .order)) (p q : Int) (hw : OkW w) (hl : l.length ≤ 4000000000000) (hO : ∀ o ∈ l,OkO o) : Api Tryz.prog 15 [wldV w,.vec .order l,.agg [i64 p,i64 q]] (bol true):=by
 have haw:=awake17_api
 have hgr:=greatW_api w hw
 have hrt:=rightW_api w hw
 obtain ⟨T,hTq⟩ : ∃ T : List (El .order),T = List.take (min (l.length : Int) 20 - 0).toNat (List.drop (Int.toNat 0) l):=⟨_,rfl⟩
 have hTl : T.length ≤ 20:=by rw [hTq,List.length_take];omega
 have hTO : ∀ o ∈ T,OkO o:=fun o ho=>hO o (by rw [hTq] at ho;exact List.mem_of_mem_take ho)
 cases hg : greatW w with
 | true =>
   rw [hg] at hgr
   clear hg
   refine Api.of_fin cfg_ok Tryz.func15 rfl (nt:=206) rfl rfl ?_
   conv=>whnf
   repeat' (first|exact trivial|((first|refine kL ?_|(refine ⟨fun hb=>?_,fun hb=>?_⟩<;>(try simp only [nrm] at hb)<;>(try (first|(exfalso;omega)|contradiction|exact kB hb)))|refine kA hgr ?_|refine kD hgr ?_|refine kA haw ?_|refine kD haw ?_|refine kW cfg_ok ?_|refine kC ?_|refine bdA ?_|refine bd2 ?_|refine bdR ?_|refine bdL ?_)<;>(conv=>whnf))|(refine And.intro ?_ ?_;rotate_left;(conv=>whnf);rotate_right))
   all_goals first|rfl|omega|trace_state
 | false =>
   rw [hg] at hgr
   clear hg
   cases hr : rightW w with
   | false =>
     rw [hr] at hrt
     clear hr
     refine Api.of_fin cfg_ok Tryz.func15 rfl (nt:=206) rfl rfl ?_
     conv=>whnf
     repeat' (first|exact trivial|((first|refine kL ?_|(refine ⟨fun hb=>?_,fun hb=>?_⟩<;>(try simp only [nrm] at hb)<;>(try (first|(exfalso;omega)|contradiction|exact kB hb)))|refine kA hgr ?_|refine kD hgr ?_|refine kA hrt ?_|refine kD hrt ?_|refine kA haw ?_|refine kD haw ?_|refine kW cfg_ok ?_|refine kC ?_|refine bdA ?_|refine bd2 ?_|refine bdR ?_|refine bdL ?_)<;>(conv=>whnf))|(refine And.intro ?_ ?_;rotate_left;(conv=>whnf);rotate_right))
     all_goals first|rfl|omega|trace_state
   | true =>
     rw [hr] at hrt
     have hR:=rightW_iff.1 hr
     have hsz:=hR.size
     rcases fold_cases w T with ⟨a1,a2,a3⟩|⟨_,htk,_,e⟩
     · have ht : 1099511627776 ≤ w.tick ∧ (foldW w T).2.2 = 113:=by
         by_cases h : 1099511627776 ≤ w.tick
         · refine ⟨h,?_⟩
           unfold foldW;rw [if_pos (.inl h)]
         · exact absurd (by rw [fold_good hR (by omega) (by omega)]) a1
       have f1:=fold_n T none (0 + T.length) (Nat.zero_add _) hw (by omega) hTO rfl
       rw [a2,a3,ht.2] at f1
       clear a1 a2 a3 hr
       refine Api.of_fin cfg_ok Tryz.func15 rfl (nt:=206) rfl rfl ?_
       conv=>whnf
       repeat' (first|exact trivial|((first|refine kL ?_|(refine ⟨fun hb=>?_,fun hb=>?_⟩<;>(try simp only [nrm] at hb)<;>(try (first|(exfalso;omega)|contradiction|exact kB hb)))|(rw [← hTq])|refine kE f1 [(1,77)] rfl ?_|refine kF f1 [(1,77)] rfl ?_|refine kA hgr ?_|refine kD hgr ?_|refine kA hrt ?_|refine kD hrt ?_|refine kA haw ?_|refine kD haw ?_|refine kW cfg_ok ?_|refine kC ?_|refine bdA ?_|refine bd2 ?_|refine bdR ?_|refine bdL ?_)<;>(conv=>whnf))|(refine And.intro ?_ ?_;rotate_left;(conv=>whnf);rotate_right))
       all_goals first|rfl|omega|trace_state
     · clear hr
       have f1:=fold_n T none T.length rfl hw (by omega) hTO rfl
       have hrl : (runW w (sortedL T)).2.length ≤ 1000:=by rw [run_len];have:=sortedL_le T;omega
       have hrL : (runW w (sortedL T)).2.length = (sortedL T).length:=run_len
       have hso:=sorted_own T none (by omega)
       have hso0:=sorted_own T (some 0) (by omega)
       have hSO : ∀ o ∈ sortedL T,OkO o:=fun o ho=>hTO o (sorted_mem ho)
       have hRA : RW (withT (runW w (sortedL T)).1 (w.tick + 1)):=right_T (run_rw hR) ⟨by omega,by omega⟩
       have hsm:=sameW_self (withT (runW w (sortedL T)).1 (w.tick + 1)) (okW_rw hRA)
       have hsr:=sameR_self (runW w (sortedL T)).2 (by omega)
       have hAt : (withT (runW w (sortedL T)).1 (w.tick + 1)).tick = w.tick + 1:=rfl
       have hho:=have_own w hR
       have hha:=have16_api _ hRA
       have hhl : (haveW w).length = 13:=hv_len w (Nat.le_refl 13)
       have hVt:=run_tick (l:=sortedL T) hR
       have hSl:=sortedL_le T
       obtain ⟨W,H,w0,h0',wE,hE',hHl,hst⟩:=ord_run hR (sortedL T) hSO
       have hHA : haveW (withT (runW w (sortedL T)).1 (w.tick + 1)) = H (sortedL T).length:=by rw [hE'];rfl
       have hnH : 13 = (H (sortedL T).length).length:=(hHl _ (Nat.le_refl _)).symm
       have hsi:=sameInts_api (H (sortedL T).length) (H (sortedL T).length) (by rw [← hnH];decide)
       rw [show eqI (H (sortedL T).length) (H (sortedL T).length) = true from decide_eq_true rfl] at hsi
       rw [hHA] at hha
       have hA2 : withT (runW w (sortedL T)).1 (w.tick + 1) = withT (W (sortedL T).length) ((W (sortedL T).length).tick + 1):=by rw [wE,hVt]
       have hsm2 : Api Tryz.prog 26 [wldV (withT (runW w (sortedL T)).1 (w.tick + 1)),wldV (withT (W (sortedL T).length) ((W (sortedL T).length).tick + 1))] (bol true):=by rw [← hA2];exact hsm
       have hWt : (W (sortedL T).length).tick = w.tick:=by rw [wE];exact hVt
       have hz : 0 + T.length = T.length:=Nat.zero_add _
       have hd : List.take T.length (List.drop 0 T) = T:=List.take_length
       have hext : ∀ U : List Order,(∀ x,x ∈ U ↔ x ∈ T) → U.length ≤ 200 → foldW w U = foldW w T:=fun U h hl=>fold_ext h hl (by omega)
       rw [e] at hext f1
       dsimp only at f1
       clear hA2 hVt wE hE' hHA hSO e hl hO
       generalize (runW w (sortedL T)).2 = R at *
       generalize withT (runW w (sortedL T)).1 (w.tick + 1) = A at *
       generalize sortedL T = S at *
       by_cases h0 : T.length = 0
       · have f1:=fold_n T (some 0) 0 h0.symm hw (by omega) hTO rfl
         rw [hext T (fun _=>Iff.rfl) (by omega)] at f1
         dsimp only at f1
         clear hext hTO
         obtain rfl:=List.eq_nil_of_length_eq_zero h0
         refine Api.of_fin cfg_ok Tryz.func15 rfl (nt:=206) rfl rfl ?_
         ((try with_reducible refine evCut fun N hN hE hT=>?_);(conv=>whnf))
         repeat' (first|exact trivial|((first|((first|refine hT _ _ ?_|refine hE _ _ _ ?_|refine hN _ _ ?_);clear hN hE hT)|refine kL ?_|(refine ⟨fun hb=>?_,fun hb=>?_⟩<;>(try simp only [nrm] at hb)<;>(try (first|(exfalso;omega)|contradiction|exact kB hb)))|(rw [← hTq])|refine kE f1 [(1,65)] rfl ?_|refine kF f1 [(1,65)] rfl ?_|refine kE f1 [(1,117)] rfl ?_|refine kF f1 [(1,117)] rfl ?_|refine kE hho [(390001,150001)] rfl ?_|refine kF hho [(390001,150001)] rfl ?_|refine kE hso0 [(1,65)] rfl ?_|refine kF hso0 [(1,65)] rfl ?_|refine kA hgr ?_|refine kD hgr ?_|refine kA hrt ?_|refine kD hrt ?_|refine kA hsm ?_|refine kD hsm ?_|refine kA hsr ?_|refine kD hsr ?_|refine kW cfg_ok ?_|refine kC ?_|refine bdA ?_|refine bd2 ?_|refine bdR ?_|refine bdL ?_)<;>((try with_reducible refine evCut fun N hN hE hT=>?_);(conv=>whnf)))|(refine And.intro ?_ ?_;rotate_left;(conv=>whnf);rotate_right))
         refine Runs.loopQ cfg_ok (σ:=Nat) [7,8,16,17,128,129,130] (fun j=>[.ptr 14 0,.vec .reply R,.own .i64 150001 0 13 none,.ptr 34 0,.vec .order S,i64 S.length,i64 j]) (fun j=>[(14,.box (wldC A)),(34,.box (wldC (W j))),(150001,.row .i64 (H j))]) (fun j=>j ≤ S.length) (fun j=>S.length - j) 0 (by omega) ?_ ?_
         · conv=>whnf
           repeat' (first|exact trivial|((first|((first|refine hT _ _ ?_|refine hE _ _ _ ?_|refine hN _ _ ?_);clear hN hE hT)|refine kL ?_|(refine ⟨fun hb=>?_,fun hb=>?_⟩<;>(try simp only [nrm] at hb)<;>(try (first|(exfalso;omega)|contradiction|exact kB hb)))|refine kW cfg_ok ?_|refine kC ?_|refine bdA ?_|refine bd2 ?_|refine bdR ?_|refine bdL ?_)<;>((try with_reducible refine evCut fun N hN hE hT=>?_);(conv=>whnf)))|(refine And.intro ?_ ?_;rotate_left;(conv=>whnf);rotate_right))
           all_goals first|rfl|omega|rw [w0]|exact congrArg wldC w0.symm|(rw [h0'];exact List.take_of_length_le (by omega))|trace_state
         · intro j hj N hN hE hT
           have hS0 : S.length = 0:=Nat.le_zero.1 hSl
           obtain rfl : j = S.length:=by omega
           conv=>whnf
           repeat' (first|exact trivial|((first|((first|refine hT _ _ ?_|refine hE _ _ _ ?_|refine hN _ _ ?_);clear hN hE hT)|refine kL ?_|(refine ⟨fun hb=>?_,fun hb=>?_⟩<;>(try simp only [nrm] at hb)<;>(try (first|(exfalso;omega)|contradiction|exact kB hb)))|refine kA hsm2 ?_|refine kD hsm2 ?_|refine kA hha ?_|refine kD hha ?_|refine kW cfg_ok ?_|refine kC ?_|refine bdA ?_|refine bd2 ?_|refine bdR ?_|refine bdL ?_)<;>((try with_reducible refine evCut fun N hN hE hT=>?_);(conv=>whnf)))|(refine And.intro ?_ ?_;rotate_left;(conv=>whnf);rotate_right))
           refine kE (lend2o hsi hnH rfl) [(1,150001)] rfl ?_
           conv=>whnf
           repeat' (first|exact trivial|((first|((first|refine hT _ _ ?_|refine hE _ _ _ ?_|refine hN _ _ ?_);clear hN hE hT)|refine kL ?_|(refine ⟨fun hb=>?_,fun hb=>?_⟩<;>(try simp only [nrm] at hb)<;>(try (first|(exfalso;omega)|contradiction|exact kB hb)))|refine kA haw ?_|refine kD haw ?_|refine kW cfg_ok ?_|refine kC ?_|refine bdA ?_|refine bd2 ?_|refine bdR ?_|refine bdL ?_)<;>((try with_reducible refine evCut fun N hN hE hT=>?_);(conv=>whnf)))|(refine And.intro ?_ ?_;rotate_left;(conv=>whnf);rotate_right))
           all_goals first|rfl|omega|trace_state
       · obtain ⟨i,hi,hil⟩ : ∃ i : Nat,p % (T.length : Int) = i ∧ i < T.length:=by
           have h1:=Int.emod_nonneg p (b:=(T.length : Int)) (by omega)
           have h2:=Int.emod_lt_of_pos p (b:=(T.length : Int)) (by omega)
           exact ⟨(p % (T.length : Int)).toNat,by omega,by omega⟩
         obtain ⟨k,hk,hkl⟩ : ∃ k : Nat,q % (T.length : Int) = k ∧ k < T.length:=by
           have h1:=Int.emod_nonneg q (b:=(T.length : Int)) (by omega)
           have h2:=Int.emod_lt_of_pos q (b:=(T.length : Int)) (by omega)
           exact ⟨(q % (T.length : Int)).toNat,by omega,by omega⟩
         have k1:=pick_api p (T.length : Int) (by omega) (by omega)
         have k2:=pick_api q (T.length : Int) (by omega) (by omega)
         rw [hi] at k1
         rw [hk] at k2
         have hUl:=turnR_len T i k
         have hUm : ∀ x,x ∈ turnR T i k ↔ x ∈ T:=fun x=>by rw [turnR_eq hkl];exact turn_mem hil hkl x
         have f2:=fold_n (turnR T i k) none (T.length + 1) hUl hw (by omega) (fun o ho=>hTO o ((hUm o).1 ho)) rfl
         rw [hext _ hUm (by omega)] at f2
         dsimp only at f2
         clear hext hUm hTO
         refine Api.of_fin cfg_ok Tryz.func15 rfl (nt:=206) rfl rfl ?_
         ((try with_reducible refine evCut fun N hN hE hT=>?_);(conv=>whnf))
         repeat' (first|exact trivial|((first|((first|refine hT _ _ ?_|refine hE _ _ _ ?_|refine hN _ _ ?_);clear hN hE hT)|refine kL ?_|(refine ⟨fun hb=>?_,fun hb=>?_⟩<;>(try simp only [nrm] at hb)<;>(try (first|(exfalso;omega)|contradiction|exact kB hb)))|(rw [← hTq])|(rw [hz])|(rw [hd])|refine kE f1 [(1,77)] rfl ?_|refine kF f1 [(1,77)] rfl ?_|refine kE f2 [(1,189)] rfl ?_|refine kF f2 [(1,189)] rfl ?_|refine kE hho [(390001,150001)] rfl ?_|refine kF hho [(390001,150001)] rfl ?_|refine kE hso [(1,77)] rfl ?_|refine kF hso [(1,77)] rfl ?_|refine kA hgr ?_|refine kD hgr ?_|refine kA hrt ?_|refine kD hrt ?_|refine kA k1 ?_|refine kD k1 ?_|refine kA k2 ?_|refine kD k2 ?_|refine kA hsm ?_|refine kD hsm ?_|refine kA hsr ?_|refine kD hsr ?_|refine kW cfg_ok ?_|refine kC ?_|refine bdA ?_|refine bd2 ?_|refine bdR ?_|refine bdL ?_)<;>((try with_reducible refine evCut fun N hN hE hT=>?_);(conv=>whnf)))|(refine And.intro ?_ ?_;rotate_left;(conv=>whnf);rotate_right))
         refine Runs.loopQ cfg_ok (σ:=Nat) [7,8,16,17,128,129,130] (fun j=>[.ptr 14 0,.vec .reply R,.own .i64 150001 0 13 none,.ptr 34 0,.vec .order S,i64 S.length,i64 j]) (fun j=>[(14,.box (wldC A)),(34,.box (wldC (W j))),(150001,.row .i64 (H j))]) (fun j=>j ≤ S.length) (fun j=>S.length - j) 0 (by omega) ?_ ?_
         · conv=>whnf
           repeat' (first|exact trivial|((first|((first|refine hT _ _ ?_|refine hE _ _ _ ?_|refine hN _ _ ?_);clear hN hE hT)|refine kL ?_|(refine ⟨fun hb=>?_,fun hb=>?_⟩<;>(try simp only [nrm] at hb)<;>(try (first|(exfalso;omega)|contradiction|exact kB hb)))|refine kW cfg_ok ?_|refine kC ?_|refine bdA ?_|refine bd2 ?_|refine bdR ?_|refine bdL ?_)<;>((try with_reducible refine evCut fun N hN hE hT=>?_);(conv=>whnf)))|(refine And.intro ?_ ?_;rotate_left;(conv=>whnf);rotate_right))
           all_goals first|rfl|omega|rw [w0]|exact congrArg wldC w0.symm|(rw [h0'];exact List.take_of_length_le (by omega))|trace_state
         · intro j hj N hN hE hT
           have hHj:=hHl j hj
           by_cases hlj : j < S.length
           · obtain ⟨D,e,X,hD,hAp,hRj,hDl,x0,xE,xl,xs,xb⟩:=hst j hlj
             have hHj1:=hHl (j + 1) (by omega)
             have r1 : (elt .reply R (j : Int).toNat).player = (elt .order S (j : Int).toNat).player:=congrArg Reply.player hRj
             have r2 : (elt .reply R (j : Int).toNat).seq = (elt .order S (j : Int).toNat).seq:=congrArg Reply.seq hRj
             have r3 : (elt .reply R (j : Int).toNat).err = e:=congrArg Reply.err hRj
             clear hRj
             conv=>whnf
             repeat' (first|exact trivial|((first|((first|refine hT _ _ ?_|refine hE _ _ _ ?_|refine hN _ _ ?_);clear hN hE hT)|refine kL ?_|(refine ⟨fun hb=>?_,fun hb=>?_⟩<;>(try simp only [nrm] at hb)<;>(try (first|(exfalso;omega)|contradiction|exact kB hb)))|refine kA hD ?_|refine kD hD ?_|refine kW cfg_ok ?_|refine kC ?_|refine bdA ?_|refine bd2 ?_|refine bdR ?_|refine bdL ?_)<;>((try with_reducible refine evCut fun N hN hE hT=>?_);(conv=>whnf)))|(refine And.intro ?_ ?_;rotate_left;(conv=>whnf);rotate_right))
             refine Runs.loopQ cfg_ok (σ:=Nat) [7,8,16,17,18,19,128,129,130,140,141,142] (fun i=>[.ptr 14 0,.vec .reply R,.own .i64 150001 0 13 none,.ptr 34 0,i64 j,.ptr 38 0,.vec .order S,i64 S.length,i64 j,.vec .i64 D,i64 D.length,i64 i])
               (fun i=>[(14,.box (wldC A)),(34,.box (wldC (W j))),(38,.box (cells .order (elt .order S j))),(150001,.row .i64 (X i))]) (fun i=>i ≤ 13) (fun i=>13 - i) 0 (by omega) ?_ ?_
             · conv=>whnf
               repeat' (first|exact trivial|((first|((first|refine hT _ _ ?_|refine hE _ _ _ ?_|refine hN _ _ ?_);clear hN hE hT)|refine kL ?_|(refine ⟨fun hb=>?_,fun hb=>?_⟩<;>(try simp only [nrm] at hb)<;>(try (first|(exfalso;omega)|contradiction|exact kB hb)))|refine kW cfg_ok ?_|refine kC ?_|refine bdA ?_|refine bd2 ?_|refine bdR ?_|refine bdL ?_)<;>((try with_reducible refine evCut fun N hN hE hT=>?_);(conv=>whnf)))|(refine And.intro ?_ ?_;rotate_left;(conv=>whnf);rotate_right))
               all_goals first|rfl|omega|(rw [x0];exact List.take_of_length_le (by omega))|trace_state
             · intro i hi N hN hE hT
               have hxl:=xl i hi
               by_cases hli : i < 13
               · have hxb:=xb i hli
                 have hxs:=xs i hli
                 have hxl1:=xl (i + 1) (by omega)
                 have hxb2 : inN 288230376151711744 (elt .i64 (X i) ((i : Int).toNat + 0)) ∧ inN 288230376151711744 ((elt .i64 (X i) ((i : Int).toNat + 0) : Int) + elt .i64 D (i : Int).toNat):=hxb
                 have hxs2 : (X i).set ((i : Int).toNat + 0) ((elt .i64 (X i) ((i : Int).toNat + 0) : Int) + elt .i64 D (i : Int).toNat) = X (i + 1):=hxs
                 unfold inN at hxb2
                 conv=>whnf
                 repeat' (first|exact trivial|((first|((first|refine hT _ _ ?_|refine hE _ _ _ ?_|refine hN _ _ ?_);clear hN hE hT)|refine kL ?_|(refine ⟨fun hb=>?_,fun hb=>?_⟩<;>(try simp only [nrm] at hb)<;>(try (first|(exfalso;omega)|contradiction|exact kB hb)))|refine kW cfg_ok ?_|refine kC ?_|refine bdA ?_|refine bd2 ?_|refine bdR ?_|refine bdL ?_)<;>((try with_reducible refine evCut fun N hN hE hT=>?_);(conv=>whnf)))|(refine And.intro ?_ ?_;rotate_left;(conv=>whnf);rotate_right))
                 refine .to (i + 1) (by omega) (by omega) ?_
                 conv=>whnf
                 repeat' (first|exact trivial|((first|((first|refine hT _ _ ?_|refine hE _ _ _ ?_|refine hN _ _ ?_);clear hN hE hT)|refine kL ?_|(refine ⟨fun hb=>?_,fun hb=>?_⟩<;>(try simp only [nrm] at hb)<;>(try (first|(exfalso;omega)|contradiction|exact kB hb)))|refine kW cfg_ok ?_|refine kC ?_|refine bdA ?_|refine bd2 ?_|refine bdR ?_|refine bdL ?_)<;>((try with_reducible refine evCut fun N hN hE hT=>?_);(conv=>whnf)))|(refine And.intro ?_ ?_;rotate_left;(conv=>whnf);rotate_right))
                 all_goals first|rfl|omega|(rw [hxs2];exact List.take_of_length_le (by omega))|(rw [hxs2];omega)|(rw [List.length_set];omega)|trace_state
               · obtain rfl : i = 13:=by omega
                 conv=>whnf
                 repeat' (first|exact trivial|((first|((first|refine hT _ _ ?_|refine hE _ _ _ ?_|refine hN _ _ ?_);clear hN hE hT)|refine kL ?_|(refine ⟨fun hb=>?_,fun hb=>?_⟩<;>(try simp only [nrm] at hb)<;>(try (first|(exfalso;omega)|contradiction|exact kB hb)))|refine kA hAp ?_|refine kD hAp ?_|refine kW cfg_ok ?_|refine kC ?_|refine bdA ?_|refine bd2 ?_|refine bdR ?_|refine bdL ?_)<;>((try with_reducible refine evCut fun N hN hE hT=>?_);(conv=>whnf)))|(refine And.intro ?_ ?_;rotate_left;(conv=>whnf);rotate_right))
                 all_goals try (exfalso;first|exact hb r1|exact hb r2|exact hb r3|omega)
                 refine .to (j + 1) (by omega) (by omega) ?_
                 conv=>whnf
                 repeat' (first|exact trivial|((first|((first|refine hT _ _ ?_|refine hE _ _ _ ?_|refine hN _ _ ?_);clear hN hE hT)|refine kL ?_|(refine ⟨fun hb=>?_,fun hb=>?_⟩<;>(try simp only [nrm] at hb)<;>(try (first|(exfalso;omega)|contradiction|exact kB hb)))|refine kW cfg_ok ?_|refine kC ?_|refine bdA ?_|refine bd2 ?_|refine bdR ?_|refine bdL ?_)<;>((try with_reducible refine evCut fun N hN hE hT=>?_);(conv=>whnf)))|(refine And.intro ?_ ?_;rotate_left;(conv=>whnf);rotate_right))
                 all_goals first|rfl|omega|(rw [xE];exact List.take_of_length_le (by omega))|trace_state
           · obtain rfl : j = S.length:=by omega
             conv=>whnf
             repeat' (first|exact trivial|((first|((first|refine hT _ _ ?_|refine hE _ _ _ ?_|refine hN _ _ ?_);clear hN hE hT)|refine kL ?_|(refine ⟨fun hb=>?_,fun hb=>?_⟩<;>(try simp only [nrm] at hb)<;>(try (first|(exfalso;omega)|contradiction|exact kB hb)))|refine kA hsm2 ?_|refine kD hsm2 ?_|refine kA hha ?_|refine kD hha ?_|refine kW cfg_ok ?_|refine kC ?_|refine bdA ?_|refine bd2 ?_|refine bdR ?_|refine bdL ?_)<;>((try with_reducible refine evCut fun N hN hE hT=>?_);(conv=>whnf)))|(refine And.intro ?_ ?_;rotate_left;(conv=>whnf);rotate_right))
             refine kE (lend2o hsi hnH rfl) [(1,150001)] rfl ?_
             conv=>whnf
             repeat' (first|exact trivial|((first|((first|refine hT _ _ ?_|refine hE _ _ _ ?_|refine hN _ _ ?_);clear hN hE hT)|refine kL ?_|(refine ⟨fun hb=>?_,fun hb=>?_⟩<;>(try simp only [nrm] at hb)<;>(try (first|(exfalso;omega)|contradiction|exact kB hb)))|refine kA haw ?_|refine kD haw ?_|refine kW cfg_ok ?_|refine kC ?_|refine bdA ?_|refine bd2 ?_|refine bdR ?_|refine bdL ?_)<;>((try with_reducible refine evCut fun N hN hE hT=>?_);(conv=>whnf)))|(refine And.intro ?_ ?_;rotate_left;(conv=>whnf);rotate_right))
             all_goals first|rfl|omega|trace_state
end Go.Proofs.YtkojlembanldcaaGreat
