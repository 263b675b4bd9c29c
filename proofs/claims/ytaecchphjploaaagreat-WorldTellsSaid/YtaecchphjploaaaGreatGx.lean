/- homesteadref13.Put, Set. -/
import Derived.Test.YtaecchphjploaaaGreatGw
set_option linter.unusedSimpArgs false
set_option linter.unusedVariables false
set_option maxRecDepth 100000
set_option maxHeartbeats 16000000
namespace Go.Proofs.YtaecchphjploaaaGreat
open Go Go.RowKit Eng
theorem put_step {w : Wld} {c : Chunk} (hR : RW w) (hB : rightB c = true) {x y : Int} (h0 : 0 ≤ x) (h1 : x < 16) : ltK keyC (16 * y + (x + 1)) (putL w.seed w.chunks c) = ltK keyC (16 * y + x) (putL w.seed w.chunks c) ++ (if x = c.x ∧ y = c.y then (if plainW w.seed c = true then [] else [c]) else w.chunks.filter (atB x y)):=by
 have hc:=rightB_pos hB
 rw [← at_putL (seed:=w.seed) hR.rc hR.xy ⟨hc.1,by omega⟩ h0 h1,at_eqK (fun b hb=>by rcases putL_mem hb with rfl|hb;exact ⟨hc.1,by omega⟩;exact hR.xy b hb) h0 h1,← Int.add_assoc]
 exact ltK_step (risesK_putL hR.rc)
theorem ltK_len {α : Type} {key : α → Int} {t : Int} {l : List α} : (ltK key t l).length ≤ l.length:=List.length_filter_le _ _
theorem r13put_api (w : Wld) (c : Chunk) (hw : OkW w) (hc : OkC c) (hf : FitC c) : Api Tryz.prog 23 [wldV w,chunkV c] (.tup [wldV (putW w c).1,i64 (putW w c).2]):=by
 have hrt:=r13right_api w hw
 have hcp:=r13copied_api w hw
 have hcr:=r11right_api c hc
 cases hR : rightW w with
 | false =>
   rw [hR] at hrt
   have hs : putW w c = (w,113):=by unfold putW;rw [if_pos hR]
   rw [hs]
   refine Api.of_fin cfg_ok Tryz.func23 rfl (nt:=104) rfl rfl ?_
   ((try with_reducible refine evCut fun N hN hE hT=>?_);(conv=>whnf))
   repeat' (first|exact trivial|((first|((first|refine hT _ _ ?_|refine hE _ _ _ ?_|refine hN _ _ ?_);clear hN hE hT)|refine kL ?_|(refine ⟨fun hb=>?_,fun hb=>?_⟩<;>(try simp only [nrm] at hb)<;>(try (first|(exfalso;omega)|contradiction|exact kB hb)))|refine kA hrt ?_|refine kD hrt ?_|refine kA hcp ?_|refine kD hcp ?_|refine kW cfg_ok ?_|refine kC ?_|refine bdA ?_|refine bd2 ?_|refine bdR ?_|refine bdL ?_)<;>((try with_reducible refine evCut fun N hN hE hT=>?_);(conv=>whnf)))|(refine And.intro ?_ ?_;rotate_left;(conv=>whnf);rotate_right))
   all_goals first|rfl|trace_state
 | true =>
   rw [hR] at hrt
   cases hB : rightB c with
   | false =>
     rw [hB] at hcr
     have hs : putW w c = (w,101):=by unfold putW;rw [if_neg (by rw [hR];simp),if_pos (.inr hB)]
     rw [hs]
     refine Api.of_fin cfg_ok Tryz.func23 rfl (nt:=104) rfl rfl ?_
     ((try with_reducible refine evCut fun N hN hE hT=>?_);(conv=>whnf))
     repeat' (first|exact trivial|((first|((first|refine hT _ _ ?_|refine hE _ _ _ ?_|refine hN _ _ ?_);clear hN hE hT)|refine kL ?_|(refine ⟨fun hb=>?_,fun hb=>?_⟩<;>(try simp only [nrm] at hb)<;>(try (first|(exfalso;omega)|contradiction|exact kB hb)))|refine kA hrt ?_|refine kD hrt ?_|refine kA hcp ?_|refine kD hcp ?_|refine kA hcr ?_|refine kD hcr ?_|refine kW cfg_ok ?_|refine kC ?_|refine bdA ?_|refine bd2 ?_|refine bdR ?_|refine bdL ?_)<;>((try with_reducible refine evCut fun N hN hE hT=>?_);(conv=>whnf)))|(refine And.intro ?_ ?_;rotate_left;(conv=>whnf);rotate_right))
     all_goals first|rfl|trace_state
   | true =>
     rw [hB] at hcr
     by_cases hM : max c.x c.y < w.size
     · have hRW:=rightW_iff.1 hR
       have hsz:=hRW.size
       have hfew:=hRW.few
       have hcx:=rightB_pos hB
       have hst:=fun x y (h0 : 0 ≤ x) (h1 : x < 16)=>put_step (x:=x) (y:=y) hRW hB h0 h1
       have hTl:=@putL_length w.seed w.chunks c
       have hTx : ∀ b ∈ putL w.seed w.chunks c,0 ≤ b.x ∧ b.x < w.size ∧ 0 ≤ b.y ∧ b.y < w.size:=fun b hb=>by
         rcases putL_mem hb with rfl|hb
         · omega
         · have h1:=hRW.chunks b hb
           have h2:=rightB_pos h1.1
           omega
       have hcpc:=r11copied_ev c hf
       rw [put_eq hRW hB hM]
       unfold withCs
       dsimp only
       generalize putL w.seed w.chunks c = T at *
       refine Api.of_fin cfg_ok Tryz.func23 rfl (nt:=104) rfl rfl ?_
       ((try with_reducible refine evCut fun N hN hE hT=>?_);(conv=>whnf))
       repeat' (first|exact trivial|((first|((first|refine hT _ _ ?_|refine hE _ _ _ ?_|refine hN _ _ ?_);clear hN hE hT)|refine kL ?_|(refine ⟨fun hb=>?_,fun hb=>?_⟩<;>(try simp only [nrm] at hb)<;>(try (first|(exfalso;omega)|contradiction|exact kB hb)))|refine kA hrt ?_|refine kD hrt ?_|refine kA hcp ?_|refine kD hcp ?_|refine kA hcr ?_|refine kD hcr ?_|refine kW cfg_ok ?_|refine kC ?_|refine bdA ?_|refine bd2 ?_|refine bdR ?_|refine bdL ?_)<;>((try with_reducible refine evCut fun N hN hE hT=>?_);(conv=>whnf)))|(refine And.intro ?_ ?_;rotate_left;(conv=>whnf);rotate_right))
       refine Runs.loopQ cfg_ok (σ:=Nat × List Chunk) [3,4,6,7,8] (fun (y,L)=>[.ptr 6 0,.ptr 8 0,.ptr 12 0,.own .chunk 150101 0 L.length none,i64 y]) (fun (_,L)=>[(6,.box (chunkC c)),(8,.box zeroW13),(12,.box (wldC w)),(150101,.row .chunk L)])
         (fun (y,L)=>(y : Int) ≤ w.size ∧ L = ltK keyC (16 * y) T ∧ L.length ≤ 300) (fun (y,_)=>w.size.toNat - y) (0,[]) ⟨by first|omega|(dsimp only;omega),(ltK_nil fun b hb=>by have:=hTx b hb;unfold keyC;omega).symm,by simp⟩ ?_ ?_
       · conv=>whnf
         repeat' (first|exact trivial|((first|((first|refine hT _ _ ?_|refine hE _ _ _ ?_|refine hN _ _ ?_);clear hN hE hT)|refine kL ?_|(refine ⟨fun hb=>?_,fun hb=>?_⟩<;>(try simp only [nrm] at hb)<;>(try (first|(exfalso;omega)|contradiction|exact kB hb)))|refine kW cfg_ok ?_|refine kC ?_|refine bdA ?_|refine bd2 ?_|refine bdR ?_|refine bdL ?_)<;>((try with_reducible refine evCut fun N hN hE hT=>?_);(conv=>whnf)))|(refine And.intro ?_ ?_;rotate_left;(conv=>whnf);rotate_right))
         all_goals first|rfl|trace_state
       · rintro ⟨y,L⟩ ⟨hy,hL,hLl⟩ N hN hE hT
         try dsimp only at hy hL hLl
         by_cases hyl : (y : Int) < w.size
         · conv=>whnf
           repeat' (first|exact trivial|((first|((first|refine hT _ _ ?_|refine hE _ _ _ ?_|refine hN _ _ ?_);clear hN hE hT)|refine kL ?_|(refine ⟨fun hb=>?_,fun hb=>?_⟩<;>(try simp only [nrm] at hb)<;>(try (first|(exfalso;omega)|contradiction|exact kB hb)))|refine kW cfg_ok ?_|refine kC ?_|refine bdA ?_|refine bd2 ?_|refine bdR ?_|refine bdL ?_)<;>((try with_reducible refine evCut fun N hN hE hT=>?_);(conv=>whnf)))|(refine And.intro ?_ ?_;rotate_left;(conv=>whnf);rotate_right))
           refine Runs.loopQ cfg_ok (σ:=Nat × List Chunk) [3,4,6,7,8,9] (fun (x,L)=>[.ptr 6 0,.ptr 8 0,.ptr 12 0,.own .chunk 150101 0 L.length none,i64 y,i64 x]) (fun (_,L)=>[(6,.box (chunkC c)),(8,.box zeroW13),(12,.box (wldC w)),(150101,.row .chunk L)])
             (fun (x,L)=>(x : Int) ≤ w.size ∧ L = ltK keyC (16 * y + x) T ∧ L.length ≤ 300) (fun (x,_)=>w.size.toNat - x) (0,L) ⟨by first|omega|(dsimp only;omega),by (try dsimp only);rw [hL];congr 1,hLl⟩ ?_ ?_
           · conv=>whnf
             repeat' (first|exact trivial|((first|((first|refine hT _ _ ?_|refine hE _ _ _ ?_|refine hN _ _ ?_);clear hN hE hT)|refine kL ?_|(refine ⟨fun hb=>?_,fun hb=>?_⟩<;>(try simp only [nrm] at hb)<;>(try (first|(exfalso;omega)|contradiction|exact kB hb)))|refine kW cfg_ok ?_|refine kC ?_|refine bdA ?_|refine bd2 ?_|refine bdR ?_|refine bdL ?_)<;>((try with_reducible refine evCut fun N hN hE hT=>?_);(conv=>whnf)))|(refine And.intro ?_ ?_;rotate_left;(conv=>whnf);rotate_right))
             all_goals first|rfl|exact List.take_length|trace_state
           · rintro ⟨x,L⟩ ⟨hx,hL,hLl⟩ N hN hE hT
             try dsimp only at hx hL hLl
             by_cases hxl : (x : Int) < w.size
             · have hs1:=hst x y (by omega) (by omega)
               rw [← hL] at hs1
               have hll:=@ltK_len _ keyC (16 * y + ((x : Int) + 1)) T
               by_cases he : (x : Int) = c.x ∧ (y : Int) = c.y
               · rw [if_pos he] at hs1
                 obtain ⟨he1,he2⟩:=he
                 have hsm:=r13same_api c w.seed x y hB he1.symm he2.symm
                 have hgn:=r12chunk_api w.seed x y (by omega) (by omega) (by omega) (by omega)
                 generalize genC w.seed x y = G at *
                 cases hP : plainW w.seed c with
                 | true =>
                   rw [hP] at hsm
                   rw [if_pos hP,List.append_nil] at hs1
                   conv=>whnf
                   repeat' (first|exact trivial|((first|((first|refine hT _ _ ?_|refine hE _ _ _ ?_|refine hN _ _ ?_);clear hN hE hT)|refine kL ?_|(refine ⟨fun hb=>?_,fun hb=>?_⟩<;>(try simp only [nrm] at hb)<;>(try (first|(exfalso;omega)|contradiction|exact kB hb)))|refine kE hcpc [(390001,150001),(390003,150003),(390005,150005)] rfl ?_|refine kF hcpc [(390001,150001),(390003,150003),(390005,150005)] rfl ?_|refine kA hsm ?_|refine kD hsm ?_|refine kA hgn ?_|refine kD hgn ?_|refine kW cfg_ok ?_|refine kC ?_|refine bdA ?_|refine bd2 ?_|refine bdR ?_|refine bdL ?_)<;>((try with_reducible refine evCut fun N hN hE hT=>?_);(conv=>whnf)))|(refine And.intro ?_ ?_;rotate_left;(conv=>whnf);rotate_right))
                   refine .to (x + 1,L) ⟨by first|omega|(dsimp only;omega),by (try dsimp only);rw [← hs1];rfl,hLl⟩ (by first|omega|(dsimp only;omega)) ?_
                   conv=>whnf
                   repeat' (first|exact trivial|((first|((first|refine hT _ _ ?_|refine hE _ _ _ ?_|refine hN _ _ ?_);clear hN hE hT)|refine kL ?_|(refine ⟨fun hb=>?_,fun hb=>?_⟩<;>(try simp only [nrm] at hb)<;>(try (first|(exfalso;omega)|contradiction|exact kB hb)))|refine kW cfg_ok ?_|refine kC ?_|refine bdA ?_|refine bd2 ?_|refine bdR ?_|refine bdL ?_)<;>((try with_reducible refine evCut fun N hN hE hT=>?_);(conv=>whnf)))|(refine And.intro ?_ ?_;rotate_left;(conv=>whnf);rotate_right))
                   all_goals first|rfl|exact List.take_length|trace_state
                 | false =>
                   rw [hP] at hsm
                   rw [if_neg (by rw [hP];simp)] at hs1
                   conv=>whnf
                   repeat' (first|exact trivial|((first|((first|refine hT _ _ ?_|refine hE _ _ _ ?_|refine hN _ _ ?_);clear hN hE hT)|refine kL ?_|(refine ⟨fun hb=>?_,fun hb=>?_⟩<;>(try simp only [nrm] at hb)<;>(try (first|(exfalso;omega)|contradiction|exact kB hb)))|refine kE hcpc [(390001,150001),(390003,150003),(390005,150005)] rfl ?_|refine kF hcpc [(390001,150001),(390003,150003),(390005,150005)] rfl ?_|refine kA hsm ?_|refine kD hsm ?_|refine kA hgn ?_|refine kD hgn ?_|refine kW cfg_ok ?_|refine kC ?_|refine bdA ?_|refine bd2 ?_|refine bdR ?_|refine bdL ?_)<;>((try with_reducible refine evCut fun N hN hE hT=>?_);(conv=>whnf)))|(refine And.intro ?_ ?_;rotate_left;(conv=>whnf);rotate_right))
                   refine .to (x + 1,L ++ [c]) ⟨by first|omega|(dsimp only;omega),by (try dsimp only);rw [← hs1];rfl,by rw [← hs1];omega⟩ (by first|omega|(dsimp only;omega)) ?_
                   conv=>whnf
                   repeat' (first|exact trivial|((first|((first|refine hT _ _ ?_|refine hE _ _ _ ?_|refine hN _ _ ?_);clear hN hE hT)|refine kL ?_|(refine ⟨fun hb=>?_,fun hb=>?_⟩<;>(try simp only [nrm] at hb)<;>(try (first|(exfalso;omega)|contradiction|exact kB hb)))|refine kW cfg_ok ?_|refine kC ?_|refine bdA ?_|refine bd2 ?_|refine bdR ?_|refine bdL ?_)<;>((try with_reducible refine evCut fun N hN hE hT=>?_);(conv=>whnf)))|(refine And.intro ?_ ?_;rotate_left;(conv=>whnf);rotate_right))
                   all_goals first|rfl|(simp;done)|(refine growO ?_;simp only [List.drop_zero,List.take_length];done)|trace_state
               · rw [if_neg he] at hs1
                 have he1 : (x : Int) = c.x → ¬ (y : Int) = c.y:=fun h1 h2=>he ⟨h1,h2⟩
                 conv=>whnf
                 repeat' (first|exact trivial|((first|((first|refine hT _ _ ?_|refine hE _ _ _ ?_|refine hN _ _ ?_);clear hN hE hT)|refine kL ?_|(refine ⟨fun hb=>?_,fun hb=>?_⟩<;>(try simp only [nrm] at hb)<;>(try (first|(exfalso;omega)|contradiction|exact kB hb)))|refine kW cfg_ok ?_|refine kC ?_|refine bdA ?_|refine bd2 ?_|refine bdR ?_|refine bdL ?_)<;>((try with_reducible refine evCut fun N hN hE hT=>?_);(conv=>whnf)))|(refine And.intro ?_ ?_;rotate_left;(conv=>whnf);rotate_right))
                 all_goals
                   refine Runs.loopQ cfg_ok (σ:=Nat × List Chunk) [3,4,6,7,8,9,10] (fun (i,M)=>[.ptr 6 0,.ptr 8 0,.ptr 12 0,.own .chunk 150101 0 M.length none,i64 y,i64 x,i64 i]) (fun (_,M)=>[(6,.box (chunkC c)),(8,.box zeroW13),(12,.box (wldC w)),(150101,.row .chunk M)])
                     (fun (i,M)=>i ≤ w.chunks.length ∧ M = L ++ (w.chunks.take i).filter (atB x y) ∧ M.length ≤ 300 + i) (fun (i,_)=>w.chunks.length - i) (0,L) ⟨by omega,by simp,by omega⟩ ?_ ?_
                   · conv=>whnf
                     repeat' (first|exact trivial|((first|((first|refine hT _ _ ?_|refine hE _ _ _ ?_|refine hN _ _ ?_);clear hN hE hT)|refine kL ?_|(refine ⟨fun hb=>?_,fun hb=>?_⟩<;>(try simp only [nrm] at hb)<;>(try (first|(exfalso;omega)|contradiction|exact kB hb)))|refine kW cfg_ok ?_|refine kC ?_|refine bdA ?_|refine bd2 ?_|refine bdR ?_|refine bdL ?_)<;>((try with_reducible refine evCut fun N hN hE hT=>?_);(conv=>whnf)))|(refine And.intro ?_ ?_;rotate_left;(conv=>whnf);rotate_right))
                     all_goals first|rfl|exact List.take_length|trace_state
                   · rintro ⟨i,M⟩ ⟨hi,hM2,hMl⟩ N hN hE hT
                     try dsimp only at hi hM2 hMl
                     by_cases hil : i < w.chunks.length
                     · have ha:=at_take (x:=x) (y:=y) hil
                       have q0 : (elt .chunk w.chunks (i : Int).toNat).x = (elt .chunk w.chunks i).x:=rfl
                       have q1 : (elt .chunk w.chunks (i : Int).toNat).y = (elt .chunk w.chunks i).y:=rfl
                       by_cases hk : (elt .chunk w.chunks i).x = x ∧ (elt .chunk w.chunks i).y = y
                       · rw [if_pos hk] at ha
                         obtain ⟨hk1,hk2⟩:=hk
                         conv=>whnf
                         repeat' (first|exact trivial|((first|((first|refine hT _ _ ?_|refine hE _ _ _ ?_|refine hN _ _ ?_);clear hN hE hT)|refine kL ?_|(refine ⟨fun hb=>?_,fun hb=>?_⟩<;>(try simp only [nrm] at hb)<;>(try (first|(exfalso;omega)|contradiction|exact kB hb)))|refine kW cfg_ok ?_|refine kC ?_|refine bdA ?_|refine bd2 ?_|refine bdR ?_|refine bdL ?_)<;>((try with_reducible refine evCut fun N hN hE hT=>?_);(conv=>whnf)))|(refine And.intro ?_ ?_;rotate_left;(conv=>whnf);rotate_right))
                         refine .to (i + 1,M ++ [elt .chunk w.chunks i]) ⟨hil,by (try dsimp only);rw [ha,hM2,List.append_assoc],by simp;omega⟩ (by first|omega|(dsimp only;omega)) ?_
                         conv=>whnf
                         repeat' (first|exact trivial|((first|((first|refine hT _ _ ?_|refine hE _ _ _ ?_|refine hN _ _ ?_);clear hN hE hT)|refine kL ?_|(refine ⟨fun hb=>?_,fun hb=>?_⟩<;>(try simp only [nrm] at hb)<;>(try (first|(exfalso;omega)|contradiction|exact kB hb)))|refine kW cfg_ok ?_|refine kC ?_|refine bdA ?_|refine bd2 ?_|refine bdR ?_|refine bdL ?_)<;>((try with_reducible refine evCut fun N hN hE hT=>?_);(conv=>whnf)))|(refine And.intro ?_ ?_;rotate_left;(conv=>whnf);rotate_right))
                         all_goals first|rfl|(simp;done)|exact growO rfl|trace_state
                       · rw [if_neg hk,List.append_nil] at ha
                         have hk1 : (elt .chunk w.chunks i).x = x → ¬ (elt .chunk w.chunks i).y = y:=fun h1 h2=>hk ⟨h1,h2⟩
                         conv=>whnf
                         repeat' (first|exact trivial|((first|((first|refine hT _ _ ?_|refine hE _ _ _ ?_|refine hN _ _ ?_);clear hN hE hT)|refine kL ?_|(refine ⟨fun hb=>?_,fun hb=>?_⟩<;>(try simp only [nrm] at hb)<;>(try (first|(exfalso;omega)|contradiction|exact kB hb)))|refine kW cfg_ok ?_|refine kC ?_|refine bdA ?_|refine bd2 ?_|refine bdR ?_|refine bdL ?_)<;>((try with_reducible refine evCut fun N hN hE hT=>?_);(conv=>whnf)))|(refine And.intro ?_ ?_;rotate_left;(conv=>whnf);rotate_right))
                         all_goals
                           refine .to (i + 1,M) ⟨hil,by (try dsimp only);rw [ha,hM2],by first|omega|(dsimp only;omega)⟩ (by first|omega|(dsimp only;omega)) ?_
                           conv=>whnf
                           repeat' (first|exact trivial|((first|((first|refine hT _ _ ?_|refine hE _ _ _ ?_|refine hN _ _ ?_);clear hN hE hT)|refine kL ?_|(refine ⟨fun hb=>?_,fun hb=>?_⟩<;>(try simp only [nrm] at hb)<;>(try (first|(exfalso;omega)|contradiction|exact kB hb)))|refine kW cfg_ok ?_|refine kC ?_|refine bdA ?_|refine bd2 ?_|refine bdR ?_|refine bdL ?_)<;>((try with_reducible refine evCut fun N hN hE hT=>?_);(conv=>whnf)))|(refine And.intro ?_ ?_;rotate_left;(conv=>whnf);rotate_right))
                           all_goals first|rfl|exact List.take_length|trace_state
                     · obtain rfl : i = w.chunks.length:=by omega
                       rw [List.take_length,← hs1] at hM2
                       conv=>whnf
                       repeat' (first|exact trivial|((first|((first|refine hT _ _ ?_|refine hE _ _ _ ?_|refine hN _ _ ?_);clear hN hE hT)|refine kL ?_|(refine ⟨fun hb=>?_,fun hb=>?_⟩<;>(try simp only [nrm] at hb)<;>(try (first|(exfalso;omega)|contradiction|exact kB hb)))|refine kW cfg_ok ?_|refine kC ?_|refine bdA ?_|refine bd2 ?_|refine bdR ?_|refine bdL ?_)<;>((try with_reducible refine evCut fun N hN hE hT=>?_);(conv=>whnf)))|(refine And.intro ?_ ?_;rotate_left;(conv=>whnf);rotate_right))
                       refine .to (x + 1,M) ⟨by first|omega|(dsimp only;omega),by (try dsimp only);rw [hM2];rfl,by rw [hM2];omega⟩ (by first|omega|(dsimp only;omega)) ?_
                       conv=>whnf
                       repeat' (first|exact trivial|((first|((first|refine hT _ _ ?_|refine hE _ _ _ ?_|refine hN _ _ ?_);clear hN hE hT)|refine kL ?_|(refine ⟨fun hb=>?_,fun hb=>?_⟩<;>(try simp only [nrm] at hb)<;>(try (first|(exfalso;omega)|contradiction|exact kB hb)))|refine kW cfg_ok ?_|refine kC ?_|refine bdA ?_|refine bd2 ?_|refine bdR ?_|refine bdL ?_)<;>((try with_reducible refine evCut fun N hN hE hT=>?_);(conv=>whnf)))|(refine And.intro ?_ ?_;rotate_left;(conv=>whnf);rotate_right))
                       all_goals first|rfl|exact List.take_length|trace_state
             · have hxe : (x : Int) = w.size:=by omega
               conv=>whnf
               repeat' (first|exact trivial|((first|((first|refine hT _ _ ?_|refine hE _ _ _ ?_|refine hN _ _ ?_);clear hN hE hT)|refine kL ?_|(refine ⟨fun hb=>?_,fun hb=>?_⟩<;>(try simp only [nrm] at hb)<;>(try (first|(exfalso;omega)|contradiction|exact kB hb)))|refine kW cfg_ok ?_|refine kC ?_|refine bdA ?_|refine bd2 ?_|refine bdR ?_|refine bdL ?_)<;>((try with_reducible refine evCut fun N hN hE hT=>?_);(conv=>whnf)))|(refine And.intro ?_ ?_;rotate_left;(conv=>whnf);rotate_right))
               refine .to (y + 1,L) ⟨by first|omega|(dsimp only;omega),by (try dsimp only);rw [hL,hxe,ltK_row (fun b hb=>by have:=hTx b hb;omega) (by omega)];rfl,hLl⟩ (by first|omega|(dsimp only;omega)) ?_
               conv=>whnf
               repeat' (first|exact trivial|((first|((first|refine hT _ _ ?_|refine hE _ _ _ ?_|refine hN _ _ ?_);clear hN hE hT)|refine kL ?_|(refine ⟨fun hb=>?_,fun hb=>?_⟩<;>(try simp only [nrm] at hb)<;>(try (first|(exfalso;omega)|contradiction|exact kB hb)))|refine kW cfg_ok ?_|refine kC ?_|refine bdA ?_|refine bd2 ?_|refine bdR ?_|refine bdL ?_)<;>((try with_reducible refine evCut fun N hN hE hT=>?_);(conv=>whnf)))|(refine And.intro ?_ ?_;rotate_left;(conv=>whnf);rotate_right))
               all_goals first|rfl|exact List.take_length|trace_state
         · have hye : (y : Int) = w.size:=by omega
           have hL2 : L = T:=by rw [hL,hye];exact ltK_all fun b hb=>by have:=hTx b hb;unfold keyC;omega
           conv=>whnf
           repeat' (first|exact trivial|((first|((first|refine hT _ _ ?_|refine hE _ _ _ ?_|refine hN _ _ ?_);clear hN hE hT)|refine kL ?_|(refine ⟨fun hb=>?_,fun hb=>?_⟩<;>(try simp only [nrm] at hb)<;>(try (first|(exfalso;omega)|contradiction|exact kB hb)))|refine kW cfg_ok ?_|refine kC ?_|refine bdA ?_|refine bd2 ?_|refine bdR ?_|refine bdL ?_)<;>((try with_reducible refine evCut fun N hN hE hT=>?_);(conv=>whnf)))|(refine And.intro ?_ ?_;rotate_left;(conv=>whnf);rotate_right))
           all_goals first|rfl|exact hL2|(rw [List.drop_zero,List.take_length];exact hL2)|(rw [List.take_length];exact hL2)|trace_state
     · have hs : putW w c = (w,101):=by unfold putW;rw [if_neg (by rw [hR];simp),if_pos (.inl (by omega))]
       rw [hs]
       refine Api.of_fin cfg_ok Tryz.func23 rfl (nt:=104) rfl rfl ?_
       ((try with_reducible refine evCut fun N hN hE hT=>?_);(conv=>whnf))
       repeat' (first|exact trivial|((first|((first|refine hT _ _ ?_|refine hE _ _ _ ?_|refine hN _ _ ?_);clear hN hE hT)|refine kL ?_|(refine ⟨fun hb=>?_,fun hb=>?_⟩<;>(try simp only [nrm] at hb)<;>(try (first|(exfalso;omega)|contradiction|exact kB hb)))|refine kA hrt ?_|refine kD hrt ?_|refine kA hcp ?_|refine kD hcp ?_|refine kA hcr ?_|refine kD hcr ?_|refine kW cfg_ok ?_|refine kC ?_|refine bdA ?_|refine bd2 ?_|refine bdR ?_|refine bdL ?_)<;>((try with_reducible refine evCut fun N hN hE hT=>?_);(conv=>whnf)))|(refine And.intro ?_ ?_;rotate_left;(conv=>whnf);rotate_right))
       all_goals first|rfl|omega|trace_state
theorem grow2 {α : Type} {L : List α} {p q a b : α} (h1 : a = p) (h2 : b = q) : List.take (L.length + (List.take 1 (List.drop 0 [a])).length + (List.take 1 (List.drop 0 [b])).length) (List.take (L.length + (List.take 1 (List.drop 0 [a])).length) (List.take L.length L ++ List.take 1 (List.drop 0 [a])) ++ List.take 1 (List.drop 0 [b])) = L ++ [p] ++ [q]:=by
 subst h1 h2
 rw [List.take_length]
 show List.take (L.length + 1 + 1) (List.take (L.length + 1) (L ++ [a]) ++ [b]) = L ++ [a] ++ [b]
 rw [List.take_of_length_le (l:=L ++ [a]) (by simp),List.take_of_length_le (by simp)]
abbrev setBox (p : Player) (d : Bool) : Blk:=match d with
 | true=>.box [i64 p.id,i64 p.x,i64 p.y,.top,i64 p.wth,.top,bol p.agrees]
 | false=>.box [i64 p.id,i64 p.x,i64 p.y,.own .slot 95 0 p.bag.length none,i64 p.wth,.own .slot 103 0 p.offer.length none,bol p.agrees]
abbrev setMem (w : Wld) (p : Player) (L : List Player) (d : Bool) : Mem:=match d with
 | true=>[(6,setBox p true),(8,.box zeroW13),(12,.box (wldC w)),(150101,.row .player L)]
 | false=>[(6,setBox p false),(8,.box zeroW13),(12,.box (wldC w)),(150101,.row .player L),(95,.row .slot p.bag),(103,.row .slot p.offer)]
theorem r13set_api (w : Wld) (p : Player) (hw : OkW w) (hp : OkP p) : Api Tryz.prog 25 [wldV w,playerV p] (.tup [wldV (setW w p).1,i64 (setW w p).2]):=by
 have hrt:=r13right_api w hw
 have hcp:=r13copied_api w hw
 have hpl:=rplayer_api p hp
 have hgp:=r13player_api w p.id hw
 have hb1:=hp.nb
 have hb2:=hp.no
 cases hR : rightW w with
 | false =>
   rw [hR] at hrt
   have hs : setW w p = (w,113):=by unfold setW;rw [if_pos hR]
   rw [hs]
   refine Api.of_fin cfg_ok Tryz.func25 rfl (nt:=102) rfl rfl ?_
   ((try with_reducible refine evCut fun N hN hE hT=>?_);(conv=>whnf))
   repeat' (first|exact trivial|((first|((first|refine hT _ _ ?_|refine hE _ _ _ ?_|refine hN _ _ ?_);clear hN hE hT)|refine kL ?_|(refine ⟨fun hb=>?_,fun hb=>?_⟩<;>(try simp only [nrm] at hb)<;>(try (first|(exfalso;omega)|contradiction|exact kB hb)))|refine kA hrt ?_|refine kD hrt ?_|refine kA hcp ?_|refine kD hcp ?_|refine kW cfg_ok ?_|refine kC ?_|refine bdA ?_|refine bd2 ?_|refine bdR ?_|refine bdL ?_)<;>((try with_reducible refine evCut fun N hN hE hT=>?_);(conv=>whnf)))|(refine And.intro ?_ ?_;rotate_left;(conv=>whnf);rotate_right))
   all_goals first|rfl|trace_state
 | true =>
   rw [hR] at hrt
   have hRW:=rightW_iff.1 hR
   have hsz:=hRW.size
   have hth:=r13there_api w p ⟨hsz.1,hsz.2.1⟩
   cases hS : soundB p with
   | false =>
     rw [hS] at hpl
     have hs : setW w p = (w,110):=by unfold setW;rw [if_neg (by rw [hR];simp),if_pos (.inl hS)]
     rw [hs]
     refine Api.of_fin cfg_ok Tryz.func25 rfl (nt:=102) rfl rfl ?_
     ((try with_reducible refine evCut fun N hN hE hT=>?_);(conv=>whnf))
     repeat' (first|exact trivial|((first|((first|refine hT _ _ ?_|refine hE _ _ _ ?_|refine hN _ _ ?_);clear hN hE hT)|refine kL ?_|(refine ⟨fun hb=>?_,fun hb=>?_⟩<;>(try simp only [nrm] at hb)<;>(try (first|(exfalso;omega)|contradiction|exact kB hb)))|refine kA hrt ?_|refine kD hrt ?_|refine kA hcp ?_|refine kD hcp ?_|refine kA hpl ?_|refine kD hpl ?_|refine kW cfg_ok ?_|refine kC ?_|refine bdA ?_|refine bd2 ?_|refine bdR ?_|refine bdL ?_)<;>((try with_reducible refine evCut fun N hN hE hT=>?_);(conv=>whnf)))|(refine And.intro ?_ ?_;rotate_left;(conv=>whnf);rotate_right))
     all_goals first|rfl|trace_state
   | true =>
     rw [hS] at hpl
     cases hI : withinW w.size p.x p.y with
     | false =>
       rw [hI] at hth
       have hs : setW w p = (w,110):=by unfold setW;rw [if_neg (by rw [hR];simp),if_pos (.inr hI)]
       rw [hs]
       refine Api.of_fin cfg_ok Tryz.func25 rfl (nt:=102) rfl rfl ?_
       ((try with_reducible refine evCut fun N hN hE hT=>?_);(conv=>whnf))
       repeat' (first|exact trivial|((first|((first|refine hT _ _ ?_|refine hE _ _ _ ?_|refine hN _ _ ?_);clear hN hE hT)|refine kL ?_|(refine ⟨fun hb=>?_,fun hb=>?_⟩<;>(try simp only [nrm] at hb)<;>(try (first|(exfalso;omega)|contradiction|exact kB hb)))|refine kA hrt ?_|refine kD hrt ?_|refine kA hcp ?_|refine kD hcp ?_|refine kA hpl ?_|refine kD hpl ?_|refine kA hth ?_|refine kD hth ?_|refine kW cfg_ok ?_|refine kC ?_|refine bdA ?_|refine bd2 ?_|refine bdR ?_|refine bdL ?_)<;>((try with_reducible refine evCut fun N hN hE hT=>?_);(conv=>whnf)))|(refine And.intro ?_ ?_;rotate_left;(conv=>whnf);rotate_right))
       all_goals first|rfl|trace_state
     | true =>
       rw [hI] at hth
       have e : playerW w p.id = match getK pid w.players p.id with|some p=>(p,true)|none=>(zeroP,false):=by
         unfold playerW;rw [if_neg (by rw [hR];simp)];rfl
       have e2 : (playerW w p.id).2 = (getK pid w.players p.id).isSome:=by rw [e];cases getK pid w.players p.id<;>rfl
       rw [e2] at hgp
       generalize (playerW w p.id).1 = Z at *
       by_cases hF : (getK pid w.players p.id).isSome = false ∧ 32 ≤ w.players.length
       · have hs : setW w p = (w,3):=by unfold setW;rw [if_neg (by rw [hR];simp),if_neg (by rw [hS,hI];simp),if_neg (by rw [hF.1];simp),if_pos hF.2]
         rw [hs]
         rw [hF.1] at hgp
         have hF2:=hF.2
         refine Api.of_fin cfg_ok Tryz.func25 rfl (nt:=102) rfl rfl ?_
         ((try with_reducible refine evCut fun N hN hE hT=>?_);(conv=>whnf))
         repeat' (first|exact trivial|((first|((first|refine hT _ _ ?_|refine hE _ _ _ ?_|refine hN _ _ ?_);clear hN hE hT)|refine kL ?_|(refine ⟨fun hb=>?_,fun hb=>?_⟩<;>(try simp only [nrm] at hb)<;>(try (first|(exfalso;omega)|contradiction|exact kB hb)))|refine kA hrt ?_|refine kD hrt ?_|refine kA hcp ?_|refine kD hcp ?_|refine kA hpl ?_|refine kD hpl ?_|refine kA hth ?_|refine kD hth ?_|refine kA hgp ?_|refine kD hgp ?_|refine kW cfg_ok ?_|refine kC ?_|refine bdA ?_|refine bd2 ?_|refine bdR ?_|refine bdL ?_)<;>((try with_reducible refine evCut fun N hN hE hT=>?_);(conv=>whnf)))|(refine And.intro ?_ ?_;rotate_left;(conv=>whnf);rotate_right))
         all_goals first|rfl|omega|trace_state
       · have ho : setOk w p:=⟨hRW,hS,hI,by
           cases hg : (getK pid w.players p.id).isSome with
           | true=>exact .inl rfl
           | false=>exact .inr (by rw [hg] at hF;simp at hF;omega)⟩
         rw [set_eq ho,← refS_setL hRW.rp]
         unfold withP
         dsimp only
         cases hg : (getK pid w.players p.id).isSome
         all_goals
           rw [hg] at hgp
           have hlen : (getK pid w.players p.id).isSome = false → w.players.length < 32:=fun h=>by rw [h] at hF;simp at hF;omega
           rw [hg] at hlen
           first|(have hlen2:=hlen rfl)|skip
           refine Api.of_fin cfg_ok Tryz.func25 rfl (nt:=102) rfl rfl ?_
           ((try with_reducible refine evCut fun N hN hE hT=>?_);(conv=>whnf))
           repeat' (first|exact trivial|((first|((first|refine hT _ _ ?_|refine hE _ _ _ ?_|refine hN _ _ ?_);clear hN hE hT)|refine kL ?_|(refine ⟨fun hb=>?_,fun hb=>?_⟩<;>(try simp only [nrm] at hb)<;>(try (first|(exfalso;omega)|contradiction|exact kB hb)))|refine kA hrt ?_|refine kD hrt ?_|refine kA hcp ?_|refine kD hcp ?_|refine kA hpl ?_|refine kD hpl ?_|refine kA hth ?_|refine kD hth ?_|refine kA hgp ?_|refine kD hgp ?_|refine kW cfg_ok ?_|refine kC ?_|refine bdA ?_|refine bd2 ?_|refine bdR ?_|refine bdL ?_)<;>((try with_reducible refine evCut fun N hN hE hT=>?_);(conv=>whnf)))|(refine And.intro ?_ ?_;rotate_left;(conv=>whnf);rotate_right))
           refine Runs.loopS cfg_ok (σ:=Nat × Bool × List Player) [3,4,6,9,10,11] (fun (k,d,L)=>[.ptr 6 0,.ptr 8 0,.ptr 12 0,.own .player 150101 0 L.length none,bol d,i64 k]) (fun (k,d,L)=>setMem w p L d)
             (fun (k,d,L)=>k ≤ w.players.length ∧ L ++ refS p (w.players.drop k) d = refS p w.players false ∧ L.length ≤ k + d.toNat) (fun (k,_,_)=>w.players.length - k) (0,false,[]) ⟨by omega,rfl,by simp⟩ ?_ ?_
           · conv=>whnf
             repeat' (first|exact trivial|((first|((first|refine hT _ _ ?_|refine hE _ _ _ ?_|refine hN _ _ ?_);clear hN hE hT)|refine kL ?_|(refine ⟨fun hb=>?_,fun hb=>?_⟩<;>(try simp only [nrm] at hb)<;>(try (first|(exfalso;omega)|contradiction|exact kB hb)))|refine kW cfg_ok ?_|refine kC ?_|refine bdA ?_|refine bd2 ?_|refine bdR ?_|refine bdL ?_)<;>((try with_reducible refine evCut fun N hN hE hT=>?_);(conv=>whnf)))|(refine And.intro ?_ ?_;rotate_left;(conv=>whnf);rotate_right))
             all_goals first|rfl|(simp;done)|trace_state
           · rintro ⟨k,d,L⟩ ⟨hk,hL,hLl⟩
             try dsimp only at hk hL hLl
             by_cases hlt : k < w.players.length
             · rw [drop_elt (t:=.player) hlt] at hL
               have q0 : (elt .player w.players (k : Int).toNat).id = (elt .player w.players k).id:=rfl
               cases d with
               | true =>
                 simp only [Bool.toNat_true] at hLl
                 rw [refS_cons,if_neg (show ¬ (true = false ∧ p.id ≤ (elt .player w.players k).id) by simp),Bool.true_or,List.nil_append] at hL
                 by_cases h2 : (elt .player w.players k).id = p.id
                 · rw [if_pos h2,List.nil_append] at hL
                   conv=>whnf
                   repeat' (first|exact trivial|((first|((first|refine hT _ _ ?_|refine hE _ _ _ ?_|refine hN _ _ ?_);clear hN hE hT)|refine kL ?_|(refine ⟨fun hb=>?_,fun hb=>?_⟩<;>(try simp only [nrm] at hb)<;>(try (first|(exfalso;omega)|contradiction|exact kB hb)))|refine kW cfg_ok ?_|refine kC ?_|refine bdA ?_|refine bd2 ?_|refine bdR ?_|refine bdL ?_)<;>((try with_reducible refine evCut fun N hN hE hT=>?_);(conv=>whnf)))|(refine And.intro ?_ ?_;rotate_left;(conv=>whnf);rotate_right))
                   refine .to (k + 1,true,L) ⟨hlt,hL,by simp;omega⟩ (by first|omega|(dsimp only;omega)) ?_
                   conv=>whnf
                   repeat' (first|exact trivial|((first|((first|refine hT _ _ ?_|refine hE _ _ _ ?_|refine hN _ _ ?_);clear hN hE hT)|refine kL ?_|(refine ⟨fun hb=>?_,fun hb=>?_⟩<;>(try simp only [nrm] at hb)<;>(try (first|(exfalso;omega)|contradiction|exact kB hb)))|refine kW cfg_ok ?_|refine kC ?_|refine bdA ?_|refine bd2 ?_|refine bdR ?_|refine bdL ?_)<;>((try with_reducible refine evCut fun N hN hE hT=>?_);(conv=>whnf)))|(refine And.intro ?_ ?_;rotate_left;(conv=>whnf);rotate_right))
                   all_goals first|rfl|exact List.take_length|exact growO rfl|exact grow2 (by simp only [List.drop_zero,List.take_length]) rfl|(simp;done)|trace_state
                 · rw [if_neg h2] at hL
                   conv=>whnf
                   repeat' (first|exact trivial|((first|((first|refine hT _ _ ?_|refine hE _ _ _ ?_|refine hN _ _ ?_);clear hN hE hT)|refine kL ?_|(refine ⟨fun hb=>?_,fun hb=>?_⟩<;>(try simp only [nrm] at hb)<;>(try (first|(exfalso;omega)|contradiction|exact kB hb)))|refine kW cfg_ok ?_|refine kC ?_|refine bdA ?_|refine bd2 ?_|refine bdR ?_|refine bdL ?_)<;>((try with_reducible refine evCut fun N hN hE hT=>?_);(conv=>whnf)))|(refine And.intro ?_ ?_;rotate_left;(conv=>whnf);rotate_right))
                   refine .to (k + 1,true,L ++ [elt .player w.players k]) ⟨hlt,by rw [← hL];simp,by simp;omega⟩ (by first|omega|(dsimp only;omega)) ?_
                   conv=>whnf
                   repeat' (first|exact trivial|((first|((first|refine hT _ _ ?_|refine hE _ _ _ ?_|refine hN _ _ ?_);clear hN hE hT)|refine kL ?_|(refine ⟨fun hb=>?_,fun hb=>?_⟩<;>(try simp only [nrm] at hb)<;>(try (first|(exfalso;omega)|contradiction|exact kB hb)))|refine kW cfg_ok ?_|refine kC ?_|refine bdA ?_|refine bd2 ?_|refine bdR ?_|refine bdL ?_)<;>((try with_reducible refine evCut fun N hN hE hT=>?_);(conv=>whnf)))|(refine And.intro ?_ ?_;rotate_left;(conv=>whnf);rotate_right))
                   all_goals first|rfl|exact List.take_length|exact growO rfl|exact grow2 (by simp only [List.drop_zero,List.take_length]) rfl|(simp;done)|trace_state
               | false =>
                 simp only [Bool.toNat_false] at hLl
                 by_cases h1 : (elt .player w.players k).id < p.id
                 · rw [refS_lt h1] at hL
                   conv=>whnf
                   repeat' (first|exact trivial|((first|((first|refine hT _ _ ?_|refine hE _ _ _ ?_|refine hN _ _ ?_);clear hN hE hT)|refine kL ?_|(refine ⟨fun hb=>?_,fun hb=>?_⟩<;>(try simp only [nrm] at hb)<;>(try (first|(exfalso;omega)|contradiction|exact kB hb)))|refine kW cfg_ok ?_|refine kC ?_|refine bdA ?_|refine bd2 ?_|refine bdR ?_|refine bdL ?_)<;>((try with_reducible refine evCut fun N hN hE hT=>?_);(conv=>whnf)))|(refine And.intro ?_ ?_;rotate_left;(conv=>whnf);rotate_right))
                   refine .to (k + 1,false,L ++ [elt .player w.players k]) ⟨hlt,by rw [← hL];simp,by simp;omega⟩ (by first|omega|(dsimp only;omega)) ?_
                   conv=>whnf
                   repeat' (first|exact trivial|((first|((first|refine hT _ _ ?_|refine hE _ _ _ ?_|refine hN _ _ ?_);clear hN hE hT)|refine kL ?_|(refine ⟨fun hb=>?_,fun hb=>?_⟩<;>(try simp only [nrm] at hb)<;>(try (first|(exfalso;omega)|contradiction|exact kB hb)))|refine kW cfg_ok ?_|refine kC ?_|refine bdA ?_|refine bd2 ?_|refine bdR ?_|refine bdL ?_)<;>((try with_reducible refine evCut fun N hN hE hT=>?_);(conv=>whnf)))|(refine And.intro ?_ ?_;rotate_left;(conv=>whnf);rotate_right))
                   all_goals first|rfl|exact List.take_length|exact growO rfl|exact grow2 (by simp only [List.drop_zero,List.take_length]) rfl|(simp;done)|trace_state
                 · by_cases h2 : (elt .player w.players k).id = p.id
                   · rw [refS_eq h2] at hL
                     conv=>whnf
                     repeat' (first|exact trivial|((first|((first|refine hT _ _ ?_|refine hE _ _ _ ?_|refine hN _ _ ?_);clear hN hE hT)|refine kL ?_|(refine ⟨fun hb=>?_,fun hb=>?_⟩<;>(try simp only [nrm] at hb)<;>(try (first|(exfalso;omega)|contradiction|exact kB hb)))|refine kW cfg_ok ?_|refine kC ?_|refine bdA ?_|refine bd2 ?_|refine bdR ?_|refine bdL ?_)<;>((try with_reducible refine evCut fun N hN hE hT=>?_);(conv=>whnf)))|(refine And.intro ?_ ?_;rotate_left;(conv=>whnf);rotate_right))
                     refine .to (k + 1,true,L ++ [p]) ⟨hlt,by rw [← hL];simp,by simp;omega⟩ (by first|omega|(dsimp only;omega)) ?_
                     conv=>whnf
                     repeat' (first|exact trivial|((first|((first|refine hT _ _ ?_|refine hE _ _ _ ?_|refine hN _ _ ?_);clear hN hE hT)|refine kL ?_|(refine ⟨fun hb=>?_,fun hb=>?_⟩<;>(try simp only [nrm] at hb)<;>(try (first|(exfalso;omega)|contradiction|exact kB hb)))|refine kW cfg_ok ?_|refine kC ?_|refine bdA ?_|refine bd2 ?_|refine bdR ?_|refine bdL ?_)<;>((try with_reducible refine evCut fun N hN hE hT=>?_);(conv=>whnf)))|(refine And.intro ?_ ?_;rotate_left;(conv=>whnf);rotate_right))
                     all_goals first|rfl|exact List.take_length|exact growO rfl|(refine growO ?_;simp only [List.drop_zero,List.take_length];done)|(simp;done)|trace_state
                   · rw [refS_gt (by omega)] at hL
                     conv=>whnf
                     repeat' (first|exact trivial|((first|((first|refine hT _ _ ?_|refine hE _ _ _ ?_|refine hN _ _ ?_);clear hN hE hT)|refine kL ?_|(refine ⟨fun hb=>?_,fun hb=>?_⟩<;>(try simp only [nrm] at hb)<;>(try (first|(exfalso;omega)|contradiction|exact kB hb)))|refine kW cfg_ok ?_|refine kC ?_|refine bdA ?_|refine bd2 ?_|refine bdR ?_|refine bdL ?_)<;>((try with_reducible refine evCut fun N hN hE hT=>?_);(conv=>whnf)))|(refine And.intro ?_ ?_;rotate_left;(conv=>whnf);rotate_right))
                     refine .to (k + 1,true,L ++ [p] ++ [elt .player w.players k]) ⟨hlt,by rw [← hL];simp,by simp;omega⟩ (by first|omega|(dsimp only;omega)) ?_
                     conv=>whnf
                     repeat' (first|exact trivial|((first|((first|refine hT _ _ ?_|refine hE _ _ _ ?_|refine hN _ _ ?_);clear hN hE hT)|refine kL ?_|(refine ⟨fun hb=>?_,fun hb=>?_⟩<;>(try simp only [nrm] at hb)<;>(try (first|(exfalso;omega)|contradiction|exact kB hb)))|refine kW cfg_ok ?_|refine kC ?_|refine bdA ?_|refine bd2 ?_|refine bdR ?_|refine bdL ?_)<;>((try with_reducible refine evCut fun N hN hE hT=>?_);(conv=>whnf)))|(refine And.intro ?_ ?_;rotate_left;(conv=>whnf);rotate_right))
                     all_goals first|rfl|exact List.take_length|exact growO rfl|exact grow2 (by simp only [List.drop_zero,List.take_length]) rfl|(simp;done)|trace_state
             · obtain rfl : k = w.players.length:=by omega
               rw [List.drop_length] at hL
               cases d
               all_goals
                 simp only [refS] at hL
                 simp only [Bool.toNat_true,Bool.toNat_false] at hLl
                 first|rw [if_neg Bool.false_ne_true] at hL|rw [if_neg (fun h=>h)] at hL|rw [if_pos rfl,List.append_nil] at hL|rw [if_pos trivial,List.append_nil] at hL|trace_state
                 conv=>whnf
                 repeat' (first|exact trivial|((first|((first|refine hT _ _ ?_|refine hE _ _ _ ?_|refine hN _ _ ?_);clear hN hE hT)|refine kL ?_|(refine ⟨fun hb=>?_,fun hb=>?_⟩<;>(try simp only [nrm] at hb)<;>(try (first|(exfalso;omega)|contradiction|exact kB hb)))|refine kW cfg_ok ?_|refine kC ?_|refine bdA ?_|refine bd2 ?_|refine bdR ?_|refine bdL ?_)<;>((try with_reducible refine evCut fun N hN hE hT=>?_);(conv=>whnf)))|(refine And.intro ?_ ?_;rotate_left;(conv=>whnf);rotate_right))
                 all_goals first|rfl|(refine Eq.trans ?_ hL;rw [List.drop_zero];refine growO ?_;simp only [List.drop_zero,List.take_length];done)|(refine Eq.trans ?_ hL;rw [List.drop_zero,List.take_length])|(refine Eq.trans ?_ hL;rw [List.take_length])|trace_state
end Go.Proofs.YtaecchphjploaaaGreat
