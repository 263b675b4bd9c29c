/- homesteadref27.Path: its main way, in another column. -/
import Derived.Test.YtchdgiooggdfeaaGw
set_option linter.unusedSimpArgs false
set_option linter.unusedVariables false
set_option maxRecDepth 100000
set_option maxHeartbeats 16000000
namespace Go.Proofs.Ytchdgiooggdfeaa
open Go Go.RowKit Eng
set_option maxHeartbeats 40000000 in
theorem r27maina_api (w : Wld) (hw : OkW w) (hR : RW w) (h4 : w.size ≤ 4) (p : Player) (hp : Here w p) (x y most : Int) (hm : 0 ≤ most ∧ most ≤ 64) (hx : 0 ≤ x ∧ x < 8 * w.size) (hy : 0 ≤ y ∧ y < 8 * w.size) (hpx : ¬ p.x = x) (n : Nat) (hn : (n : Int) = 8 * w.size) (hs : sizeN n) (R1 : List (El .cmd)) (R2 : Int) (hsp : (R2 = 0 ∧ ∃ d : Nat,d ≤ most.toNat ∧ fst (airW w) ⟨x,y⟩ d (atP p) ∧ ∃ ls,R1 = ls.map cmdOf ∧ Told (airW w) ⟨x,y⟩ d (atP p) ls) ∨ (R1 = [] ∧ R2 = 107 ∧ ∀ d : Nat,d ≤ most.toNat → ¬ fst (airW w) ⟨x,y⟩ d (atP p))) : Api Try.prog 23 [wldV w,i64 p.id,i64 x,i64 y,i64 most] (.tup [.vec .cmd R1,i64 R2]):=by
 have hsz:=hR.size
 have hrt:=r13right_api w hw
 rw [rightW_iff.2 hR] at hrt
 have hpl:=r13player_api w p.id hw
 rw [here_player hp] at hpl
 have hch:=fun cx cy=>r13chunk_api w cx cy hw
 obtain ⟨hnn,hq1,hq2,hq3,hq4⟩:=size_sq hn hs
 have hpb:=(within_iff hR).1 (hR.players p (getK_mem hp.get).1).2
 have hal:=airN_len w n
 have hnl:=needN_len n
 have ha0 : List.take (8 * w.size * (8 * w.size)).toNat (List.replicate (8 * w.size * (8 * w.size)).toNat (dflt Ty.flag)) = airN w n 0 0 0:=by
   rw [hnn,airN_none];exact List.take_of_length_le (by rw [List.length_replicate];exact Nat.le_refl _)
 have hn0 : List.take (8 * w.size * (8 * w.size)).toNat (List.replicate (8 * w.size * (8 * w.size)).toNat (dflt Ty.i64)) = needN n 0 0 0:=by
   rw [hnn,needN_none];exact List.take_of_length_le (by rw [List.length_replicate];exact Nat.le_refl _)
 have ha1 : ∀ cy cx k,n * n ≤ (airN w n cy cx k).length:=fun cy cx k=>Nat.le_of_eq (hal cy cx k).symm
 have hn1 : ∀ cy cx k,n * n ≤ (needN n cy cx k).length:=fun cy cx k=>Nat.le_of_eq (hnl cy cx k).symm
 have ha2 : ∀ cy cx k,List.take (n * n) (airN w n cy cx k) = airN w n cy cx k:=fun cy cx k=>List.take_of_length_le (Nat.le_of_eq (hal cy cx k))
 have hn2 : ∀ cy cx k,List.take (n * n) (needN n cy cx k) = needN n cy cx k:=fun cy cx k=>List.take_of_length_le (Nat.le_of_eq (hnl cy cx k))
 refine Api.of_fin cfg_ok Try.func23 rfl (nt:=352) rfl rfl ?_
 ((try with_reducible refine evCut fun N hN hE hT=>?_);(conv=>whnf))
 repeat' (first|exact trivial|((first|((first|refine hT _ _ ?_|refine hE _ _ _ ?_|refine hN _ _ ?_);clear hN hE hT)|refine kL ?_|(refine ⟨fun hb=>?_,fun hb=>?_⟩<;>(try simp only [nrm] at hb)<;>(try (first|(exfalso;omega)|contradiction|exact kB hb)))|refine kA hrt ?_|refine kD hrt ?_|refine kA hpl ?_|refine kD hpl ?_|refine kW cfg_ok ?_|refine kC ?_|refine bdA ?_|refine bd2 ?_|refine bdR ?_|refine bdL ?_)<;>((try with_reducible refine evCut fun N hN hE hT=>?_);(conv=>whnf)))|(refine And.intro ?_ ?_;rotate_left;(conv=>whnf);rotate_right))
 all_goals first|omega|skip
 refine Runs.loopQ cfg_ok (σ:=Nat) [2,3,4,5,12,14,15,16,17] (fun cy=>[i64 x,i64 y,i64 most,.ptr 10 0,.ptr 24 0,i64 (8 * w.size),.own .flag 177 0 (n * n) none,.own .i64 185 0 (n * n) none,i64 (cy : Nat)])
   (fun cy=>[(10,.box (wldC w)),(24,.box (playerC p)),(177,.row .flag (airN w n cy 0 0)),(185,.row .i64 (needN n cy 0 0))])
   (fun cy=>8 * cy ≤ n) (fun cy=>n - cy) 0 (by omega) ?_ ?_
 · conv=>whnf
   repeat' (first|exact trivial|((first|((first|refine hT _ _ ?_|refine hE _ _ _ ?_|refine hN _ _ ?_);clear hN hE hT)|refine kL ?_|(refine ⟨fun hb=>?_,fun hb=>?_⟩<;>(try simp only [nrm] at hb)<;>(try (first|(exfalso;omega)|contradiction|exact kB hb)))|refine kW cfg_ok ?_|refine kC ?_|refine bdA ?_|refine bd2 ?_|refine bdR ?_|refine bdL ?_)<;>((try with_reducible refine evCut fun N hN hE hT=>?_);(conv=>whnf)))|(refine And.intro ?_ ?_;rotate_left;(conv=>whnf);rotate_right))
   all_goals first|rfl|omega|exact ha0|exact hn0|exact ha1 _ _ _|exact hn1 _ _ _|exact ha2 _ _ _|exact hn2 _ _ _|trace_state
 · intro cy hcy N1 hN1 hE1 hT1
   by_cases hlt : 8 * cy < n
   · as_aux_lemma =>
       conv=>whnf
       repeat' (first|exact trivial|((first|((first|refine hT _ _ ?_|refine hE _ _ _ ?_|refine hN _ _ ?_);clear hN hE hT)|refine kL ?_|(refine ⟨fun hb=>?_,fun hb=>?_⟩<;>(try simp only [nrm] at hb)<;>(try (first|(exfalso;omega)|contradiction|exact kB hb)))|refine kW cfg_ok ?_|refine kC ?_|refine bdA ?_|refine bd2 ?_|refine bdR ?_|refine bdL ?_)<;>((try with_reducible refine evCut fun N hN hE hT=>?_);(conv=>whnf)))|(refine And.intro ?_ ?_;rotate_left;(conv=>whnf);rotate_right))
       all_goals first|omega|skip
       refine Runs.loopQ cfg_ok (σ:=Nat) [2,3,4,5,12,14,15,16,17,18] (fun cx=>[i64 x,i64 y,i64 most,.ptr 10 0,.ptr 24 0,i64 (8 * w.size),.own .flag 177 0 (n * n) none,.own .i64 185 0 (n * n) none,i64 (cy : Nat),i64 (cx : Nat)])
         (fun cx=>[(10,.box (wldC w)),(24,.box (playerC p)),(177,.row .flag (airN w n cy cx 0)),(185,.row .i64 (needN n cy cx 0))])
         (fun cx=>8 * cx ≤ n) (fun cx=>n - cx) 0 (by omega) ?_ ?_
       · conv=>whnf
         repeat' (first|exact trivial|((first|((first|refine hT _ _ ?_|refine hE _ _ _ ?_|refine hN _ _ ?_);clear hN hE hT)|refine kL ?_|(refine ⟨fun hb=>?_,fun hb=>?_⟩<;>(try simp only [nrm] at hb)<;>(try (first|(exfalso;omega)|contradiction|exact kB hb)))|refine kW cfg_ok ?_|refine kC ?_|refine bdA ?_|refine bd2 ?_|refine bdR ?_|refine bdL ?_)<;>((try with_reducible refine evCut fun N hN hE hT=>?_);(conv=>whnf)))|(refine And.intro ?_ ?_;rotate_left;(conv=>whnf);rotate_right))
         all_goals first|rfl|omega|exact ha0|exact hn0|exact ha1 _ _ _|exact hn1 _ _ _|exact ha2 _ _ _|exact hn2 _ _ _|trace_state
       · intro cx hcx N2 hN2 hE2 hT2
         by_cases hlx : 8 * cx < n
         · have hc:=hch (cx : Nat) (cy : Nat)
           obtain ⟨hc1,_⟩:=chunkW_in hR (x:=(cx : Nat)) (y:=(cy : Nat)) (by omega) (by omega)
           have hc2 : (chunkW w (cx : Nat) (cy : Nat)).2 = true:=by rw [hc1]
           have hc3:=chunkW_len hc2
           rw [hc2] at hc
           have hset:=fun k=>@bld_air w n cy cx k hs hlt hlx
           have hset2:=fun k=>@needN_set n cy cx k hs hlt hlx
           clear hc1 hc2
           generalize (chunkW w (cx : Nat) (cy : Nat)).1 = C at *
           conv=>whnf
           repeat' (first|exact trivial|((first|((first|refine hT _ _ ?_|refine hE _ _ _ ?_|refine hN _ _ ?_);clear hN hE hT)|refine kL ?_|(refine ⟨fun hb=>?_,fun hb=>?_⟩<;>(try simp only [nrm] at hb)<;>(try (first|(exfalso;omega)|contradiction|exact kB hb)))|refine kA hc ?_|refine kD hc ?_|refine kW cfg_ok ?_|refine kC ?_|refine bdA ?_|refine bd2 ?_|refine bdR ?_|refine bdL ?_)<;>((try with_reducible refine evCut fun N hN hE hT=>?_);(conv=>whnf)))|(refine And.intro ?_ ?_;rotate_left;(conv=>whnf);rotate_right))
           all_goals first|omega|skip
           refine Runs.loopQ cfg_ok (σ:=Nat) [2,3,4,5,12,14,15,16,17,18,19,21] (fun k=>[i64 x,i64 y,i64 most,.ptr 10 0,.ptr 24 0,i64 (8 * w.size),.own .flag 177 0 (n * n) none,.own .i64 185 0 (n * n) none,i64 (cy : Nat),i64 (cx : Nat),.ptr 38 0,i64 (k : Nat)])
             (fun k=>[(10,.box (wldC w)),(24,.box (playerC p)),(38,.box (cells .chunk C)),(177,.row .flag (airN w n cy cx k)),(185,.row .i64 (needN n cy cx k))])
             (fun k=>k ≤ 64) (fun k=>64 - k) 0 (by omega) ?_ ?_
           · as_aux_lemma =>
               conv=>whnf
               repeat' (first|exact trivial|((first|((first|refine hT _ _ ?_|refine hE _ _ _ ?_|refine hN _ _ ?_);clear hN hE hT)|refine kL ?_|(refine ⟨fun hb=>?_,fun hb=>?_⟩<;>(try simp only [nrm] at hb)<;>(try (first|(exfalso;omega)|contradiction|exact kB hb)))|refine kW cfg_ok ?_|refine kC ?_|refine bdA ?_|refine bd2 ?_|refine bdR ?_|refine bdL ?_)<;>((try with_reducible refine evCut fun N hN hE hT=>?_);(conv=>whnf)))|(refine And.intro ?_ ?_;rotate_left;(conv=>whnf);rotate_right))
               all_goals first|rfl|omega|exact ha0|exact hn0|exact ha1 _ _ _|exact hn1 _ _ _|exact ha2 _ _ _|exact hn2 _ _ _|trace_state
           · intro k hk N3 hN3 hE3 hT3
             by_cases hlk : k < 64
             · have hset:=hset k hlk
               have hset2:=hset2 k hlk
               obtain ⟨i1,i2,i3,i4⟩:=bld_idx hn hs hlt hlx hlk
               have s1 : (airN w n cy cx k).set ((((cy : Int) * 8 + (k : Int) / 8) * (8 * w.size) + (cx : Int) * 8 + (k : Int) % 8).toNat + 0) (elt .u8 C.cells ((k : Nat) : Int).toNat == (0 : Int)) = airN w n cy cx (k + 1):=by rw [Nat.add_zero,i4];exact hset
               have s2 : (needN n cy cx k).set ((((cy : Int) * 8 + (k : Int) / 8) * (8 * w.size) + (cx : Int) * 8 + (k : Int) % 8).toNat + 0) (-1) = needN n cy cx (k + 1):=by rw [Nat.add_zero,i4];exact hset2
               have s3 : (((cy : Int) * 8 + (k : Int) / 8) * (8 * w.size) + (cx : Int) * 8 + (k : Int) % 8).toNat + 0 < (airN w n cy cx k).length:=by rw [hal];omega
               have s4 : (((cy : Int) * 8 + (k : Int) / 8) * (8 * w.size) + (cx : Int) * 8 + (k : Int) % 8).toNat + 0 < (needN n cy cx k).length:=by rw [hnl];omega
               conv=>whnf
               repeat' (first|exact trivial|((first|((first|refine hT _ _ ?_|refine hE _ _ _ ?_|refine hN _ _ ?_);clear hN hE hT)|refine kL ?_|(refine ⟨fun hb=>?_,fun hb=>?_⟩<;>(try simp only [nrm] at hb)<;>(try (first|(exfalso;omega)|contradiction|exact kB hb)))|refine kW cfg_ok ?_|refine kC ?_|refine bdA ?_|refine bd2 ?_|refine bdR ?_|refine bdL ?_)<;>((try with_reducible refine evCut fun N hN hE hT=>?_);(conv=>whnf)))|(refine And.intro ?_ ?_;rotate_left;(conv=>whnf);rotate_right))
               all_goals first|omega|exact s3|exact s4|skip
               all_goals
                 refine hN3 _ _ ?_
                 conv=>whnf
                 refine .to (k + 1) (by omega) (by omega) ?_
                 conv=>whnf
                 repeat' (first|exact trivial|((first|((first|refine hT _ _ ?_|refine hE _ _ _ ?_|refine hN _ _ ?_);clear hN hE hT)|refine kL ?_|(refine ⟨fun hb=>?_,fun hb=>?_⟩<;>(try simp only [nrm] at hb)<;>(try (first|(exfalso;omega)|contradiction|exact kB hb)))|refine kW cfg_ok ?_|refine kC ?_|refine bdA ?_|refine bd2 ?_|refine bdR ?_|refine bdL ?_)<;>((try with_reducible refine evCut fun N hN hE hT=>?_);(conv=>whnf)))|(refine And.intro ?_ ?_;rotate_left;(conv=>whnf);rotate_right))
                 all_goals first|rfl|omega|exact ha0|exact hn0|exact ha1 _ _ _|exact hn1 _ _ _|exact ha2 _ _ _|exact hn2 _ _ _|(rw [s1];exact ha1 _ _ _)|(rw [s1];exact ha2 _ _ _)|(rw [s2];exact hn1 _ _ _)|(rw [s2];exact hn2 _ _ _)|trace_state
             · have e1 : airN w n cy cx k = airN w n cy (cx + 1) 0:=by rw [show k = 64 by omega];exact airN_row hs
               have e2 : needN n cy cx k = needN n cy (cx + 1) 0:=by rw [show k = 64 by omega];exact needN_row hs
               rw [e1,e2]
               conv=>whnf
               repeat' (first|exact trivial|((first|((first|refine hT _ _ ?_|refine hE _ _ _ ?_|refine hN _ _ ?_);clear hN hE hT)|refine kL ?_|(refine ⟨fun hb=>?_,fun hb=>?_⟩<;>(try simp only [nrm] at hb)<;>(try (first|(exfalso;omega)|contradiction|exact kB hb)))|refine kW cfg_ok ?_|refine kC ?_|refine bdA ?_|refine bd2 ?_|refine bdR ?_|refine bdL ?_)<;>((try with_reducible refine evCut fun N hN hE hT=>?_);(conv=>whnf)))|(refine And.intro ?_ ?_;rotate_left;(conv=>whnf);rotate_right))
               all_goals first|omega|skip
               all_goals
                 refine hE3 _ _ _ ?_
                 conv=>whnf
                 repeat' (first|exact trivial|((first|((first|refine hT _ _ ?_|refine hE _ _ _ ?_|refine hN _ _ ?_);clear hN hE hT)|refine kL ?_|(refine ⟨fun hb=>?_,fun hb=>?_⟩<;>(try simp only [nrm] at hb)<;>(try (first|(exfalso;omega)|contradiction|exact kB hb)))|refine kW cfg_ok ?_|refine kC ?_|refine bdA ?_|refine bd2 ?_|refine bdR ?_|refine bdL ?_)<;>((try with_reducible refine evCut fun N hN hE hT=>?_);(conv=>whnf)))|(refine And.intro ?_ ?_;rotate_left;(conv=>whnf);rotate_right))
                 all_goals first|omega|skip
                 all_goals
                   refine hN2 _ _ ?_
                   conv=>whnf
                   refine .to (cx + 1) (by omega) (by omega) ?_
                   conv=>whnf
                   repeat' (first|exact trivial|((first|((first|refine hT _ _ ?_|refine hE _ _ _ ?_|refine hN _ _ ?_);clear hN hE hT)|refine kL ?_|(refine ⟨fun hb=>?_,fun hb=>?_⟩<;>(try simp only [nrm] at hb)<;>(try (first|(exfalso;omega)|contradiction|exact kB hb)))|refine kW cfg_ok ?_|refine kC ?_|refine bdA ?_|refine bd2 ?_|refine bdR ?_|refine bdL ?_)<;>((try with_reducible refine evCut fun N hN hE hT=>?_);(conv=>whnf)))|(refine And.intro ?_ ?_;rotate_left;(conv=>whnf);rotate_right))
                   all_goals first|rfl|omega|exact ha1 _ _ _|exact hn1 _ _ _|exact ha2 _ _ _|exact hn2 _ _ _|trace_state
         · have e1 : airN w n cy cx 0 = airN w n (cy + 1) 0 0:=airN_col hs (by omega)
           have e2 : needN n cy cx 0 = needN n (cy + 1) 0 0:=needN_col hs (by omega)
           rw [e1,e2]
           conv=>whnf
           repeat' (first|exact trivial|((first|((first|refine hT _ _ ?_|refine hE _ _ _ ?_|refine hN _ _ ?_);clear hN hE hT)|refine kL ?_|(refine ⟨fun hb=>?_,fun hb=>?_⟩<;>(try simp only [nrm] at hb)<;>(try (first|(exfalso;omega)|contradiction|exact kB hb)))|refine kW cfg_ok ?_|refine kC ?_|refine bdA ?_|refine bd2 ?_|refine bdR ?_|refine bdL ?_)<;>((try with_reducible refine evCut fun N hN hE hT=>?_);(conv=>whnf)))|(refine And.intro ?_ ?_;rotate_left;(conv=>whnf);rotate_right))
           all_goals first|omega|skip
           all_goals
             refine hE2 _ _ _ ?_
             conv=>whnf
             repeat' (first|exact trivial|((first|((first|refine hT _ _ ?_|refine hE _ _ _ ?_|refine hN _ _ ?_);clear hN hE hT)|refine kL ?_|(refine ⟨fun hb=>?_,fun hb=>?_⟩<;>(try simp only [nrm] at hb)<;>(try (first|(exfalso;omega)|contradiction|exact kB hb)))|refine kW cfg_ok ?_|refine kC ?_|refine bdA ?_|refine bd2 ?_|refine bdR ?_|refine bdL ?_)<;>((try with_reducible refine evCut fun N hN hE hT=>?_);(conv=>whnf)))|(refine And.intro ?_ ?_;rotate_left;(conv=>whnf);rotate_right))
             all_goals first|omega|skip
             all_goals
               refine hN1 _ _ ?_
               conv=>whnf
               refine .to (cy + 1) (by omega) (by omega) ?_
               conv=>whnf
               repeat' (first|exact trivial|((first|((first|refine hT _ _ ?_|refine hE _ _ _ ?_|refine hN _ _ ?_);clear hN hE hT)|refine kL ?_|(refine ⟨fun hb=>?_,fun hb=>?_⟩<;>(try simp only [nrm] at hb)<;>(try (first|(exfalso;omega)|contradiction|exact kB hb)))|refine kW cfg_ok ?_|refine kC ?_|refine bdA ?_|refine bd2 ?_|refine bdR ?_|refine bdL ?_)<;>((try with_reducible refine evCut fun N hN hE hT=>?_);(conv=>whnf)))|(refine And.intro ?_ ?_;rotate_left;(conv=>whnf);rotate_right))
               all_goals first|rfl|omega|exact ha1 _ _ _|exact hn1 _ _ _|exact ha2 _ _ _|exact hn2 _ _ _|trace_state
   · have e1 : airN w n cy 0 0 = rowN n (openN w n):=airN_all hs (by omega)
     have e2 : needN n cy 0 0 = rowN n (fun _=>-1):=needN_all hs (by omega)
     rw [e1,e2]
     conv=>whnf
     repeat' (first|exact trivial|((first|((first|refine hT _ _ ?_|refine hE _ _ _ ?_|refine hN _ _ ?_);clear hN hE hT)|refine kL ?_|(refine ⟨fun hb=>?_,fun hb=>?_⟩<;>(try simp only [nrm] at hb)<;>(try (first|(exfalso;omega)|contradiction|exact kB hb)))|refine kW cfg_ok ?_|refine kC ?_|refine bdA ?_|refine bd2 ?_|refine bdR ?_|refine bdL ?_)<;>((try with_reducible refine evCut fun N hN hE hT=>?_);(conv=>whnf)))|(refine And.intro ?_ ?_;rotate_left;(conv=>whnf);rotate_right))
     all_goals first|omega|skip
     all_goals
       refine hE1 _ _ _ ?_
       obtain ⟨j1,j2,j3,j4,j5,j6⟩:=cell_idx hn hs hx hy
       have hAl : (rowN n (openN w n)).length = n * n:=rowN_len _ _
       have hAg : ∀ i,i < n * n → elt .flag (rowN n (openN w n)) i = openN w n i:=fun i hi=>rowN_flag hi
       have hNl : (rowN n (fun _=>(-1 : Int))).length = n * n:=rowN_len _ _
       have hAe:=hAg _ j5
       have hAw:=air_of_open hs hn j5
       rw [j6] at hAw
       rw [← hAe] at hAw
       have hAk : ∀ i,i < n * n → (elt .flag (rowN n (openN w n)) i = true ↔ airW w (cellN n i)):=fun i hi=>by rw [hAg i hi];exact air_of_open hs hn hi
       clear hAg hAe e1 e2
       generalize rowN n (openN w n) = A at *
       by_cases he : airW w ⟨x,y⟩
       · have hAe:=hAw.2 he
         have hro : (rowN n (fun _=>(-1 : Int))).set ((y * (8 * w.size) + x).toNat + 0) 0 = rowO w ⟨x,y⟩ (atP p) n 0 0:=by
           rw [Nat.add_zero,← hn];exact rowO_init hs he (by dsimp only;omega) (by dsimp only;omega)
         have hOl:=rowO_len w ⟨x,y⟩ (atP p) n
         have hOa:=fun r k hk=>@rowO_at w ⟨x,y⟩ (atP p) n r k hk
         have hOs:=rowO_all w ⟨x,y⟩ (atP p) n
         have hOk:=fun r k h=>@rowO_keep w ⟨x,y⟩ (atP p) n r k h
         have hOz : ∀ r i,i < n * n → elt .i64 (rowO w ⟨x,y⟩ (atP p) n r 0) i = offW w ⟨x,y⟩ (atP p) r (cellN n i):=fun r i hi=>by rw [rowO_zero];exact rowN_int hi
         have hD0 : ∀ r k,rowD w ⟨x,y⟩ (atP p) n r k false = rowO w ⟨x,y⟩ (atP p) n r k:=fun r k=>rfl
         have hDl:=rowD_len w ⟨x,y⟩ (atP p) n
         have hDt:=fun r k hit i hi hk=>@rowD_test w ⟨x,y⟩ (atP p) n r k hit i hi hk
         have hDs:=rowD_set w ⟨x,y⟩ (atP p) n
         have hDe:=fun r k hit hk hc h1 h2=>@rowD_end w ⟨x,y⟩ (atP p) n r k hit hk hc h1 h2
         have hFk:=fun c r h=>@off_keep w ⟨x,y⟩ (atP p) c r h
         generalize hOO : rowO w ⟨x,y⟩ (atP p) n = O at *
         generalize rowD w ⟨x,y⟩ (atP p) n = D at *
         have hO1 : ∀ r k,n * n ≤ (O r k).length:=fun r k=>Nat.le_of_eq (hOl r k).symm
         have hO2 : ∀ r k,List.take (n * n) (O r k) = O r k:=fun r k=>List.take_of_length_le (Nat.le_of_eq (hOl r k))
         have hA1 : n * n ≤ A.length:=Nat.le_of_eq hAl.symm
         have hA2 : List.take (n * n) A = A:=List.take_of_length_le (Nat.le_of_eq hAl)
         have hd1:=fun k=>(cell_div hn k).1
         have hd2:=fun k=>(cell_div hn k).2
         obtain ⟨g1,g2,g3,g4,g5,g6⟩:=cell_idx hn hs (x:=p.x) (y:=p.y) ⟨hpb.1,hpb.2.2.1⟩ ⟨hpb.2.1,hpb.2.2.2⟩
         obtain ⟨DX,hDX⟩ : ∃ DX,DX = dxL:=⟨_,rfl⟩
         obtain ⟨DY,hDY⟩ : ∃ DY,DY = dyL:=⟨_,rfl⟩
         have hDXl : DX.length = 8:=by rw [hDX];rfl
         have hDYl : DY.length = 8:=by rw [hDY];rfl
         have hDX0 : [-1,0,1,-1,1,-1,0,1] = DX:=by rw [hDX];rfl
         have hDY0 : [-1,-1,-1,0,0,1,1,1] = DY:=by rw [hDY];rfl
         have hDX2 : ∀ d,d < 8 → elt .i64 DX d = (elt .pos stepsL d).x:=fun d hd=>by rw [hDX];exact (step_xy hd).1
         have hDY2 : ∀ d,d < 8 → elt .i64 DY d = (elt .pos stepsL d).y:=fun d hd=>by rw [hDY];exact (step_xy hd).2
         clear hDX hDY hAw ha0 hn0 ha1 hn1 ha2 hn2 hal hnl
         have hs8 : 8 ≤ DX.length:=by omega
         have hs9 : 8 ≤ DY.length:=by omega
         have ht8 : List.take 8 DX = DX:=List.take_of_length_le (by omega)
         have ht9 : List.take 8 DY = DY:=List.take_of_length_le (by omega)
         generalize rowN n (fun _=>(-1 : Int)) = N0 at *
         conv=>whnf
         repeat' (first|exact trivial|((first|((first|refine hT _ _ ?_|refine hE _ _ _ ?_|refine hN _ _ ?_);clear hN hE hT)|refine kL ?_|(refine ⟨fun hb=>?_,fun hb=>?_⟩<;>(try simp only [nrm] at hb)<;>(try (first|(exfalso;omega)|contradiction|exact kB hb)))|refine kW cfg_ok ?_|refine kC ?_|refine bdA ?_|refine bd2 ?_|refine bdR ?_|refine bdL ?_)<;>((try with_reducible refine evCut fun N hN hE hT=>?_);(conv=>whnf)))|(refine And.intro ?_ ?_;rotate_left;(conv=>whnf);rotate_right))
         all_goals first|omega|(rw [hNl];omega)|skip
         refine Runs.loopQ cfg_ok (σ:=Nat) [4,12,14,15,16,23,24,25] (fun r=>[i64 most,.ptr 24 0,i64 (8 * w.size),.own .flag 177 0 (n * n) none,.own .i64 185 0 (n * n) none,.own .i64 307 0 8 none,.own .i64 309 0 8 none,i64 ((r : Nat) + 1)])
           (fun r=>[(24,.box (playerC p)),(177,.row .flag A),(185,.row .i64 (O r 0)),(307,.row .i64 DX),(309,.row .i64 DY)])
           (fun r=>r ≤ most.toNat) (fun r=>most.toNat - r) 0 (by omega) ?_ ?_
         · conv=>whnf
           repeat' (first|exact trivial|((first|((first|refine hT _ _ ?_|refine hE _ _ _ ?_|refine hN _ _ ?_);clear hN hE hT)|refine kL ?_|(refine ⟨fun hb=>?_,fun hb=>?_⟩<;>(try simp only [nrm] at hb)<;>(try (first|(exfalso;omega)|contradiction|exact kB hb)))|refine kW cfg_ok ?_|refine kC ?_|refine bdA ?_|refine bd2 ?_|refine bdR ?_|refine bdL ?_)<;>((try with_reducible refine evCut fun N hN hE hT=>?_);(conv=>whnf)))|(refine And.intro ?_ ?_;rotate_left;(conv=>whnf);rotate_right))
           all_goals first|rfl|omega|exact hDX0|exact hDY0|(rw [hro];exact hO1 _ _)|(rw [hro];exact hO2 _ _)|exact hA1|exact hA2|trace_state
         · intro r hr N4 hN4 hE4 hT4
           by_cases hlr : r < most.toNat
           · as_aux_lemma =>
               conv=>whnf
               repeat' (first|exact trivial|((first|((first|refine hT _ _ ?_|refine hE _ _ _ ?_|refine hN _ _ ?_);clear hN hE hT)|refine kL ?_|(refine ⟨fun hb=>?_,fun hb=>?_⟩<;>(try simp only [nrm] at hb)<;>(try (first|(exfalso;omega)|contradiction|exact kB hb)))|refine kW cfg_ok ?_|refine kC ?_|refine bdA ?_|refine bd2 ?_|refine bdR ?_|refine bdL ?_)<;>((try with_reducible refine evCut fun N hN hE hT=>?_);(conv=>whnf)))|(refine And.intro ?_ ?_;rotate_left;(conv=>whnf);rotate_right))
               all_goals first|omega|skip
               refine Runs.loopQ cfg_ok (σ:=Nat) [4,12,14,15,16,23,24,25,26] (fun k=>[i64 most,.ptr 24 0,i64 (8 * w.size),.own .flag 177 0 (n * n) none,.own .i64 185 0 (n * n) none,.own .i64 307 0 8 none,.own .i64 309 0 8 none,i64 ((r : Nat) + 1),i64 (k : Nat)])
                 (fun k=>[(24,.box (playerC p)),(177,.row .flag A),(185,.row .i64 (O r k)),(307,.row .i64 DX),(309,.row .i64 DY)])
                 (fun k=>k ≤ n * n) (fun k=>n * n - k) 0 (by omega) ?_ ?_
               · conv=>whnf
                 repeat' (first|exact trivial|((first|((first|refine hT _ _ ?_|refine hE _ _ _ ?_|refine hN _ _ ?_);clear hN hE hT)|refine kL ?_|(refine ⟨fun hb=>?_,fun hb=>?_⟩<;>(try simp only [nrm] at hb)<;>(try (first|(exfalso;omega)|contradiction|exact kB hb)))|refine kW cfg_ok ?_|refine kC ?_|refine bdA ?_|refine bd2 ?_|refine bdR ?_|refine bdL ?_)<;>((try with_reducible refine evCut fun N hN hE hT=>?_);(conv=>whnf)))|(refine And.intro ?_ ?_;rotate_left;(conv=>whnf);rotate_right))
                 all_goals first|rfl|omega|exact hO1 _ _|exact hO2 _ _|exact hA1|exact hA2|trace_state
               · as_aux_lemma =>
                   intro k hk N5 hN5 hE5 hT5
                   by_cases hlk : k < n * n
                   · have hOak : elt .i64 (O r k) (((k : Nat) : Int).toNat + 0) = offW w ⟨x,y⟩ (atP p) r (cellN n k):=hOa r k hlk
                     have hAkk : elt .flag A (((k : Nat) : Int).toNat + 0) = true ↔ airW w (cellN n k):=hAk k hlk
                     have hkP : (k : Int) = p.y * (8 * w.size) + p.x ↔ cellN n k = atP p:=by rw [← hn];exact idx_one hs hlk (c:=atP p) (by show 0 ≤ p.x ∧ p.x < n;omega) (by show 0 ≤ p.y ∧ p.y < n;omega)
                     have hb1 : ((k : Nat) : Int).toNat + 0 < (O r k).length:=by rw [hOl];omega
                     have hb2 : ((k : Nat) : Int).toNat + 0 < (O r (k + 1)).length:=by rw [hOl];omega
                     have hb3 : ((k : Nat) : Int).toNat + 0 < A.length:=by rw [hAl];omega
                     by_cases hk0 : 0 ≤ offW w ⟨x,y⟩ (atP p) r (cellN n k)
                     · as_aux_lemma =>
                         have e1:=(hOk r k (hFk _ r (.inl hk0))).symm
                         have hv : (0 : Int) ≤ elt .i64 (O r k) (k + 0):=by rw [show elt .i64 (O r k) (k + 0) = _ from hOak];exact hk0
                         rw [e1] at hv
                         clear hOak hOk hOs hOa hAkk
                         rw [e1]
                         conv=>whnf
                         repeat' (first|exact trivial|((first|((first|refine hT _ _ ?_|refine hE _ _ _ ?_|refine hN _ _ ?_);clear hN hE hT)|refine kL ?_|(refine ⟨fun hb=>?_,fun hb=>?_⟩<;>(try simp only [nrm] at hb)<;>(try (first|(exfalso;omega)|contradiction|exact kB hb)))|refine kW cfg_ok ?_|refine kC ?_|refine bdA ?_|refine bd2 ?_|refine bdR ?_|refine bdL ?_)<;>((try with_reducible refine evCut fun N hN hE hT=>?_);(conv=>whnf)))|(refine And.intro ?_ ?_;rotate_left;(conv=>whnf);rotate_right))
                         all_goals first|omega|exact hb2|exact hb3|skip
                         all_goals
                           refine hN5 _ _ ?_
                           conv=>whnf
                           refine .to (k + 1) (by omega) (by omega) ?_
                           conv=>whnf
                           repeat' (first|exact trivial|((first|((first|refine hT _ _ ?_|refine hE _ _ _ ?_|refine hN _ _ ?_);clear hN hE hT)|refine kL ?_|(refine ⟨fun hb=>?_,fun hb=>?_⟩<;>(try simp only [nrm] at hb)<;>(try (first|(exfalso;omega)|contradiction|exact kB hb)))|refine kW cfg_ok ?_|refine kC ?_|refine bdA ?_|refine bd2 ?_|refine bdR ?_|refine bdL ?_)<;>((try with_reducible refine evCut fun N hN hE hT=>?_);(conv=>whnf)))|(refine And.intro ?_ ?_;rotate_left;(conv=>whnf);rotate_right))
                           all_goals first|rfl|omega|exact hO1 _ _|exact hO2 _ _|exact hA1|exact hA2|trace_state
                     · have hv : ¬ (0 : Int) ≤ elt .i64 (O r k) (k + 0):=by rw [show elt .i64 (O r k) (k + 0) = _ from hOak];exact hk0
                       by_cases hc : airW w (cellN n k) ∨ cellN n k = atP p
                       · have hD0k:=hD0 r k
                         have hDlk:=hDl r k
                         have hDtk:=fun hit i hi=>hDt r k hit i hi hk0
                         have hDsk:=hDs r k
                         have hDek:=fun hit h1 h2=>hDe r k hit hk0 hc h1 h2
                         clear hD0 hDl hDt hDs hDe hOk hOs hOa hFk
                         have hcase : elt .flag A (k + 0) = true ∨ (¬ elt .flag A (k + 0) = true ∧ (k : Int) = p.y * (8 * w.size) + p.x):=by
                           rcases hc with hc|hc
                           · exact .inl (hAkk.2 hc)
                           · by_cases ha : elt .flag A (k + 0) = true
                             · exact .inl ha
                             · exact .inr ⟨ha,hkP.2 hc⟩
                         have hD1 : ∀ hit,n * n ≤ (D r k hit).length:=fun hit=>Nat.le_of_eq (hDlk hit).symm
                         have hD2 : ∀ hit,List.take (n * n) (D r k hit) = D r k hit:=fun hit=>List.take_of_length_le (Nat.le_of_eq (hDlk hit))
                         generalize hDk : D r k = Dk at *
                         conv=>whnf
                         repeat' (first|exact trivial|((first|((first|refine hT _ _ ?_|refine hE _ _ _ ?_|refine hN _ _ ?_);clear hN hE hT)|refine kL ?_|(refine ⟨fun hb=>?_,fun hb=>?_⟩<;>(try simp only [nrm] at hb)<;>(try (first|(exfalso;omega)|contradiction|exact kB hb)))|refine kW cfg_ok ?_|refine kC ?_|refine bdA ?_|refine bd2 ?_|refine bdR ?_|refine bdL ?_)<;>((try with_reducible refine evCut fun N hN hE hT=>?_);(conv=>whnf)))|(refine And.intro ?_ ?_;rotate_left;(conv=>whnf);rotate_right))
                         all_goals first|omega|exact hb1|exact hb3|(exfalso;rcases hcase with h|⟨h,h'⟩<;>first|omega|contradiction|(exact absurd (h.symm.trans ‹elt Ty.flag A (k + 0) = false›) (by decide)))|skip
                         all_goals
                           refine Runs.loopQ cfg_ok (σ:=Nat × Bool) [4,12,14,15,16,23,24,25,26,27] (fun s=>[i64 most,.ptr 24 0,i64 (8 * w.size),.own .flag 177 0 (n * n) none,.own .i64 185 0 (n * n) none,.own .i64 307 0 8 none,.own .i64 309 0 8 none,i64 ((r : Nat) + 1),i64 (k : Nat),i64 (s.1 : Nat)])
                             (fun s=>[(24,.box (playerC p)),(177,.row .flag A),(185,.row .i64 (Dk s.2)),(307,.row .i64 DX),(309,.row .i64 DY)])
                             (fun s=>s.1 ≤ 8 ∧ (s.2 = true → ∃ z ∈ stepsL,nextW w ⟨x,y⟩ (atP p) r (addP (cellN n k) z)) ∧ (s.2 = false → ∀ j < s.1,¬ nextW w ⟨x,y⟩ (atP p) r (addP (cellN n k) (elt .pos stepsL j)))) (fun s=>8 - s.1) (0,false) ⟨Nat.zero_le _,(fun h=>Bool.noConfusion h),fun _ j hj=>absurd hj (Nat.not_lt_zero j)⟩ ?_ ?_
                           · conv=>whnf
                             repeat' (first|exact trivial|((first|((first|refine hT _ _ ?_|refine hE _ _ _ ?_|refine hN _ _ ?_);clear hN hE hT)|refine kL ?_|(refine ⟨fun hb=>?_,fun hb=>?_⟩<;>(try simp only [nrm] at hb)<;>(try (first|(exfalso;omega)|contradiction|exact kB hb)))|refine kW cfg_ok ?_|refine kC ?_|refine bdA ?_|refine bd2 ?_|refine bdR ?_|refine bdL ?_)<;>((try with_reducible refine evCut fun N hN hE hT=>?_);(conv=>whnf)))|(refine And.intro ?_ ?_;rotate_left;(conv=>whnf);rotate_right))
                             all_goals first|rfl|omega|exact hO1 _ _|exact hO2 _ _|(rw [hD0k];done)|(rw [hD0k];exact hO1 _ _)|(rw [hD0k];exact hO2 _ _)|exact hA1|exact hA2|trace_state
                           · as_aux_lemma =>
                               rintro ⟨d,hit⟩ ⟨hd,hy1,hy2⟩ N6 hN6 hE6 hT6
                               dsimp only at hd hy1 hy2 ⊢
                               by_cases hld : d < 8
                               · have hbx : ((d : Nat) : Int).toNat + 0 < DX.length:=by omega
                                 have hby : ((d : Nat) : Int).toNat + 0 < DY.length:=by omega
                                 have hst:=step_in hld
                                 have hsb:=steps_bd hst
                                 have hpk:=idx_bd hs hlk
                                 have hm1:=hd1 k
                                 have hm2:=hd2 k
                                 have hx1 : @Eq Int (elt .i64 DX (d + 0)) (elt .pos stepsL d).x:=hDX2 d hld
                                 have hx2 : @Eq Int (elt .i64 DX (((d : Nat) : Int).toNat + 0)) (elt .pos stepsL d).x:=hDX2 d hld
                                 have hx3 : @Eq Int (elt .i64 DY (d + 0)) (elt .pos stepsL d).y:=hDY2 d hld
                                 have hx4 : @Eq Int (elt .i64 DY (((d : Nat) : Int).toNat + 0)) (elt .pos stepsL d).y:=hDY2 d hld
                                 have hbk : ((k : Nat) : Int).toNat + 0 < (Dk hit).length:=by rw [hDlk];omega
                                 by_cases hin : 0 ≤ (cellN n k).x + (elt .pos stepsL d).x ∧ 0 ≤ (cellN n k).y + (elt .pos stepsL d).y ∧ (cellN n k).x + (elt .pos stepsL d).x < 8 * w.size ∧ (cellN n k).y + (elt .pos stepsL d).y < 8 * w.size
                                 · obtain ⟨c1,c2,c3,c4,c5,c6⟩:=cell_idx hn hs (x:=(k : Int) % (8 * w.size) + elt .i64 DX (((d : Nat) : Int).toNat + 0)) (y:=(k : Int) / (8 * w.size) + elt .i64 DY (((d : Nat) : Int).toNat + 0)) (by omega) (by omega)
                                   rw [show (⟨(k : Int) % (8 * w.size) + elt .i64 DX (((d : Nat) : Int).toNat + 0),(k : Int) / (8 * w.size) + elt .i64 DY (((d : Nat) : Int).toNat + 0)⟩ : Pos) = addP (cellN n k) (elt .pos stepsL d) from pos_ext (by show _ = (cellN n k).x + _;dsimp only;omega) (by show _ = (cellN n k).y + _;dsimp only;omega)] at c6
                                   have hJa:=hAk _ c5
                                   have hJd:=hDtk hit _ c5
                                   rw [c6] at hJa hJd
                                   have hJ1 : (((k : Int) / (8 * w.size) + elt .i64 DY (((d : Nat) : Int).toNat + 0)) * (8 * w.size) + ((k : Int) % (8 * w.size) + elt .i64 DX (((d : Nat) : Int).toNat + 0))).toNat + 0 < A.length:=by rw [hAl];exact c5
                                   have hJ2 : (((k : Int) / (8 * w.size) + elt .i64 DY (((d : Nat) : Int).toNat + 0)) * (8 * w.size) + ((k : Int) % (8 * w.size) + elt .i64 DX (((d : Nat) : Int).toNat + 0))).toNat + 0 < (Dk hit).length:=by rw [hDlk];exact c5
                                   have hset : (Dk hit).set (((k : Nat) : Int).toNat + 0) ((r : Int) + 1) = Dk true:=hDsk hit
                                   have hu0 : 0 ≤ ((k : Int) % (8 * w.size) + elt .i64 DX (d + 0)) ∧ ((k : Int) % (8 * w.size) + elt .i64 DX (d + 0)) < 8 * w.size:=by omega
                                   have hu0r : 0 ≤ ((k : Int) % (8 * w.size) + elt .i64 DX (((d : Nat) : Int).toNat + 0)) ∧ ((k : Int) % (8 * w.size) + elt .i64 DX (((d : Nat) : Int).toNat + 0)) < 8 * w.size:=by omega
                                   have hv0 : 0 ≤ ((k : Int) / (8 * w.size) + elt .i64 DY (d + 0)) ∧ ((k : Int) / (8 * w.size) + elt .i64 DY (d + 0)) < 8 * w.size:=by omega
                                   have hv0r : 0 ≤ ((k : Int) / (8 * w.size) + elt .i64 DY (((d : Nat) : Int).toNat + 0)) ∧ ((k : Int) / (8 * w.size) + elt .i64 DY (((d : Nat) : Int).toNat + 0)) < 8 * w.size:=by omega
                                   have hqd : 0 ≤ (k : Int) / (8 * w.size) ∧ (k : Int) / (8 * w.size) ≤ 2000:=by omega
                                   have hqr : 0 ≤ (k : Int) % (8 * w.size) ∧ (k : Int) % (8 * w.size) ≤ 2000:=by omega
                                   have hsz1 : 1 ≤ w.size ∧ w.size ≤ 16:=by omega
                                   clear hsz hnn hq1 hq2 hq3 hq4 hpb j1 j2 j3 j4 g1 g2 g3 g4 hx hy hm1 hm2 hx1 hx2 hx3 hx4 hsb hpk hin hcase hkP hlr hm hr
                                   by_cases ha : airW w (addP (cellN n k) (elt .pos stepsL d))
                                   · have hJa : ¬ elt .flag A ((((k : Int) / (8 * w.size) + elt .i64 DY (d + 0)) * (8 * w.size) + ((k : Int) % (8 * w.size) + elt .i64 DX (d + 0))).toNat + 0) = false:=fun h=>absurd ((hJa.2 ha).symm.trans h) (by decide)
                                     by_cases ho : offW w ⟨x,y⟩ (atP p) r (addP (cellN n k) (elt .pos stepsL d)) = r
                                     · have hJd : @Eq Int (elt .i64 (Dk hit) ((((k : Int) / (8 * w.size) + elt .i64 DY (d + 0)) * (8 * w.size) + ((k : Int) % (8 * w.size) + elt .i64 DX (d + 0))).toNat + 0)) r:=hJd.2 ho
                                       conv=>whnf
                                       repeat' (first|exact trivial|((first|((first|refine hT _ _ ?_|refine hE _ _ _ ?_|refine hN _ _ ?_);clear hN hE hT)|refine kL ?_|(refine ⟨fun hb=>?_,fun hb=>?_⟩<;>(try simp only [nrm] at hb)<;>(try (first|(exfalso;omega)|contradiction|exact kB hb)))|refine kW cfg_ok ?_|refine kC ?_|refine bdA ?_|refine bd2 ?_|refine bdR ?_|refine bdL ?_)<;>((try with_reducible refine evCut fun N hN hE hT=>?_);(conv=>whnf)))|(refine And.intro ?_ ?_;rotate_left;(conv=>whnf);rotate_right))
                                       all_goals first|omega|exact hbx|exact hby|exact hJ1|exact hJ2|exact hbk|skip
                                       all_goals
                                         refine hN6 _ _ ?_
                                         conv=>whnf
                                         refine .to (d + 1,true) ⟨(by omega : d + 1 ≤ 8),fun _=>⟨_,hst,ha,ho⟩,fun h=>Bool.noConfusion h⟩ (by show 8 - (d + 1) < 8 - d;omega) ?_
                                         conv=>whnf
                                         repeat' (first|exact trivial|((first|((first|refine hT _ _ ?_|refine hE _ _ _ ?_|refine hN _ _ ?_);clear hN hE hT)|refine kL ?_|(refine ⟨fun hb=>?_,fun hb=>?_⟩<;>(try simp only [nrm] at hb)<;>(try (first|(exfalso;omega)|contradiction|exact kB hb)))|refine kW cfg_ok ?_|refine kC ?_|refine bdA ?_|refine bd2 ?_|refine bdR ?_|refine bdL ?_)<;>((try with_reducible refine evCut fun N hN hE hT=>?_);(conv=>whnf)))|(refine And.intro ?_ ?_;rotate_left;(conv=>whnf);rotate_right))
                                         all_goals first|rfl|omega|exact hD1 _|exact hD2 _|(rw [hset];exact hD1 _)|(rw [hset];exact hD2 _)|exact hA1|exact hA2|trace_state
                                     · have hJd : ¬ @Eq Int (elt .i64 (Dk hit) ((((k : Int) / (8 * w.size) + elt .i64 DY (d + 0)) * (8 * w.size) + ((k : Int) % (8 * w.size) + elt .i64 DX (d + 0))).toNat + 0)) r:=fun h=>ho (hJd.1 h)
                                       have hno : hit = false → ∀ j < d + 1,¬ nextW w ⟨x,y⟩ (atP p) r (addP (cellN n k) (elt .pos stepsL j)):=fun h j hj=>by
                                         by_cases hjd : j = d
                                         · rw [hjd];exact fun h=>ho h.2
                                         · exact hy2 h j (by omega)
                                       conv=>whnf
                                       repeat' (first|exact trivial|((first|((first|refine hT _ _ ?_|refine hE _ _ _ ?_|refine hN _ _ ?_);clear hN hE hT)|refine kL ?_|(refine ⟨fun hb=>?_,fun hb=>?_⟩<;>(try simp only [nrm] at hb)<;>(try (first|(exfalso;omega)|contradiction|exact kB hb)))|refine kW cfg_ok ?_|refine kC ?_|refine bdA ?_|refine bd2 ?_|refine bdR ?_|refine bdL ?_)<;>((try with_reducible refine evCut fun N hN hE hT=>?_);(conv=>whnf)))|(refine And.intro ?_ ?_;rotate_left;(conv=>whnf);rotate_right))
                                       all_goals first|omega|exact hbx|exact hby|exact hJ1|exact hJ2|exact hbk|skip
                                       all_goals
                                         refine hN6 _ _ ?_
                                         conv=>whnf
                                         refine .to (d + 1,hit) ⟨(by omega : d + 1 ≤ 8),hy1,hno⟩ (by show 8 - (d + 1) < 8 - d;omega) ?_
                                         conv=>whnf
                                         repeat' (first|exact trivial|((first|((first|refine hT _ _ ?_|refine hE _ _ _ ?_|refine hN _ _ ?_);clear hN hE hT)|refine kL ?_|(refine ⟨fun hb=>?_,fun hb=>?_⟩<;>(try simp only [nrm] at hb)<;>(try (first|(exfalso;omega)|contradiction|exact kB hb)))|refine kW cfg_ok ?_|refine kC ?_|refine bdA ?_|refine bd2 ?_|refine bdR ?_|refine bdL ?_)<;>((try with_reducible refine evCut fun N hN hE hT=>?_);(conv=>whnf)))|(refine And.intro ?_ ?_;rotate_left;(conv=>whnf);rotate_right))
                                         all_goals first|rfl|omega|exact hD1 _|exact hD2 _|(rw [hset];exact hD1 _)|(rw [hset];exact hD2 _)|exact hA1|exact hA2|trace_state
                                   · have hJa : ¬ elt .flag A ((((k : Int) / (8 * w.size) + elt .i64 DY (d + 0)) * (8 * w.size) + ((k : Int) % (8 * w.size) + elt .i64 DX (d + 0))).toNat + 0) = true:=fun h=>ha (hJa.1 h)
                                     have hno : hit = false → ∀ j < d + 1,¬ nextW w ⟨x,y⟩ (atP p) r (addP (cellN n k) (elt .pos stepsL j)):=fun h j hj=>by
                                       by_cases hjd : j = d
                                       · rw [hjd];exact fun h=>ha h.1
                                       · exact hy2 h j (by omega)
                                     conv=>whnf
                                     repeat' (first|exact trivial|((first|((first|refine hT _ _ ?_|refine hE _ _ _ ?_|refine hN _ _ ?_);clear hN hE hT)|refine kL ?_|(refine ⟨fun hb=>?_,fun hb=>?_⟩<;>(try simp only [nrm] at hb)<;>(try (first|(exfalso;omega)|contradiction|exact kB hb)))|refine kW cfg_ok ?_|refine kC ?_|refine bdA ?_|refine bd2 ?_|refine bdR ?_|refine bdL ?_)<;>((try with_reducible refine evCut fun N hN hE hT=>?_);(conv=>whnf)))|(refine And.intro ?_ ?_;rotate_left;(conv=>whnf);rotate_right))
                                     all_goals first|omega|exact hbx|exact hby|exact hJ1|exact hJ2|exact hbk|skip
                                     all_goals
                                       refine hN6 _ _ ?_
                                       conv=>whnf
                                       refine .to (d + 1,hit) ⟨(by omega : d + 1 ≤ 8),hy1,hno⟩ (by show 8 - (d + 1) < 8 - d;omega) ?_
                                       conv=>whnf
                                       repeat' (first|exact trivial|((first|((first|refine hT _ _ ?_|refine hE _ _ _ ?_|refine hN _ _ ?_);clear hN hE hT)|refine kL ?_|(refine ⟨fun hb=>?_,fun hb=>?_⟩<;>(try simp only [nrm] at hb)<;>(try (first|(exfalso;omega)|contradiction|exact kB hb)))|refine kW cfg_ok ?_|refine kC ?_|refine bdA ?_|refine bd2 ?_|refine bdR ?_|refine bdL ?_)<;>((try with_reducible refine evCut fun N hN hE hT=>?_);(conv=>whnf)))|(refine And.intro ?_ ?_;rotate_left;(conv=>whnf);rotate_right))
                                       all_goals first|rfl|omega|exact hD1 _|exact hD2 _|(rw [hset];exact hD1 _)|(rw [hset];exact hD2 _)|exact hA1|exact hA2|trace_state
                                 · have hset : (Dk hit).set (((k : Nat) : Int).toNat + 0) ((r : Int) + 1) = Dk true:=hDsk hit
                                   have hJ1 : True:=trivial
                                   have hJ2 : True:=trivial
                                   have hsz1 : 1 ≤ w.size ∧ w.size ≤ 16:=by omega
                                   have hu0 : -1 ≤ ((k : Int) % (8 * w.size) + elt .i64 DX (d + 0)) ∧ ((k : Int) % (8 * w.size) + elt .i64 DX (d + 0)) ≤ 200:=by omega
                                   have hu0r : -1 ≤ ((k : Int) % (8 * w.size) + elt .i64 DX (((d : Nat) : Int).toNat + 0)) ∧ ((k : Int) % (8 * w.size) + elt .i64 DX (((d : Nat) : Int).toNat + 0)) ≤ 200:=by omega
                                   have hv0 : -1 ≤ ((k : Int) / (8 * w.size) + elt .i64 DY (d + 0)) ∧ ((k : Int) / (8 * w.size) + elt .i64 DY (d + 0)) ≤ 200:=by omega
                                   have hv0r : -1 ≤ ((k : Int) / (8 * w.size) + elt .i64 DY (((d : Nat) : Int).toNat + 0)) ∧ ((k : Int) / (8 * w.size) + elt .i64 DY (((d : Nat) : Int).toNat + 0)) ≤ 200:=by omega
                                   have hqd : 0 ≤ (k : Int) / (8 * w.size) ∧ (k : Int) / (8 * w.size) ≤ 2000:=by omega
                                   have hqr : 0 ≤ (k : Int) % (8 * w.size) ∧ (k : Int) % (8 * w.size) ≤ 2000:=by omega
                                   have hnin : ¬ (0 ≤ ((k : Int) % (8 * w.size) + elt .i64 DX (d + 0)) ∧ 0 ≤ ((k : Int) / (8 * w.size) + elt .i64 DY (d + 0)) ∧ ((k : Int) % (8 * w.size) + elt .i64 DX (d + 0)) < 8 * w.size ∧ ((k : Int) / (8 * w.size) + elt .i64 DY (d + 0)) < 8 * w.size):=by omega
                                   have hno : hit = false → ∀ j < d + 1,¬ nextW w ⟨x,y⟩ (atP p) r (addP (cellN n k) (elt .pos stepsL j)):=fun h j hj=>by
                                     by_cases hjd : j = d
                                     · rw [hjd];exact fun h=>hin ⟨h.1.1,h.1.2.1,h.1.2.2.1,h.1.2.2.2.1⟩
                                     · exact hy2 h j (by omega)
                                   clear hsz hnn hq1 hq2 hq3 hq4 hpb j1 j2 j3 j4 g1 g2 g3 g4 hx hy hm1 hm2 hx1 hx2 hx3 hx4 hsb hpk hin hcase hkP hlr hm hr
                                   conv=>whnf
                                   repeat' (first|exact trivial|((first|((first|refine hT _ _ ?_|refine hE _ _ _ ?_|refine hN _ _ ?_);clear hN hE hT)|refine kL ?_|(refine ⟨fun hb=>?_,fun hb=>?_⟩<;>(try simp only [nrm] at hb)<;>(try (first|(exfalso;omega)|contradiction|exact kB hb)))|refine kW cfg_ok ?_|refine kC ?_|refine bdA ?_|refine bd2 ?_|refine bdR ?_|refine bdL ?_)<;>((try with_reducible refine evCut fun N hN hE hT=>?_);(conv=>whnf)))|(refine And.intro ?_ ?_;rotate_left;(conv=>whnf);rotate_right))
                                   all_goals first|omega|exact hbx|exact hby|exact hJ1|exact hJ2|exact hbk|skip
                                   all_goals
                                     refine hN6 _ _ ?_
                                     conv=>whnf
                                     refine .to (d + 1,hit) ⟨(by omega : d + 1 ≤ 8),hy1,hno⟩ (by show 8 - (d + 1) < 8 - d;omega) ?_
                                     conv=>whnf
                                     repeat' (first|exact trivial|((first|((first|refine hT _ _ ?_|refine hE _ _ _ ?_|refine hN _ _ ?_);clear hN hE hT)|refine kL ?_|(refine ⟨fun hb=>?_,fun hb=>?_⟩<;>(try simp only [nrm] at hb)<;>(try (first|(exfalso;omega)|contradiction|exact kB hb)))|refine kW cfg_ok ?_|refine kC ?_|refine bdA ?_|refine bd2 ?_|refine bdR ?_|refine bdL ?_)<;>((try with_reducible refine evCut fun N hN hE hT=>?_);(conv=>whnf)))|(refine And.intro ?_ ?_;rotate_left;(conv=>whnf);rotate_right))
                                     all_goals first|rfl|omega|exact hD1 _|exact hD2 _|(rw [hset];exact hD1 _)|(rw [hset];exact hD2 _)|exact hA1|exact hA2|trace_state
                               · have hend : Dk hit = O r (k + 1):=hDek hit hy1 fun h=>step_all fun j hj=>hy2 h j (by omega)
                                 rw [hend]
                                 conv=>whnf
                                 repeat' (first|exact trivial|((first|((first|refine hT _ _ ?_|refine hE _ _ _ ?_|refine hN _ _ ?_);clear hN hE hT)|refine kL ?_|(refine ⟨fun hb=>?_,fun hb=>?_⟩<;>(try simp only [nrm] at hb)<;>(try (first|(exfalso;omega)|contradiction|exact kB hb)))|refine kW cfg_ok ?_|refine kC ?_|refine bdA ?_|refine bd2 ?_|refine bdR ?_|refine bdL ?_)<;>((try with_reducible refine evCut fun N hN hE hT=>?_);(conv=>whnf)))|(refine And.intro ?_ ?_;rotate_left;(conv=>whnf);rotate_right))
                                 all_goals first|omega|skip
                                 all_goals
                                   refine hE6 _ _ _ ?_
                                   conv=>whnf
                                   repeat' (first|exact trivial|((first|((first|refine hT _ _ ?_|refine hE _ _ _ ?_|refine hN _ _ ?_);clear hN hE hT)|refine kL ?_|(refine ⟨fun hb=>?_,fun hb=>?_⟩<;>(try simp only [nrm] at hb)<;>(try (first|(exfalso;omega)|contradiction|exact kB hb)))|refine kW cfg_ok ?_|refine kC ?_|refine bdA ?_|refine bd2 ?_|refine bdR ?_|refine bdL ?_)<;>((try with_reducible refine evCut fun N hN hE hT=>?_);(conv=>whnf)))|(refine And.intro ?_ ?_;rotate_left;(conv=>whnf);rotate_right))
                                   all_goals first|omega|skip
                                   all_goals
                                     refine hN5 _ _ ?_
                                     conv=>whnf
                                     refine .to (k + 1) (by omega) (by omega) ?_
                                     conv=>whnf
                                     repeat' (first|exact trivial|((first|((first|refine hT _ _ ?_|refine hE _ _ _ ?_|refine hN _ _ ?_);clear hN hE hT)|refine kL ?_|(refine ⟨fun hb=>?_,fun hb=>?_⟩<;>(try simp only [nrm] at hb)<;>(try (first|(exfalso;omega)|contradiction|exact kB hb)))|refine kW cfg_ok ?_|refine kC ?_|refine bdA ?_|refine bd2 ?_|refine bdR ?_|refine bdL ?_)<;>((try with_reducible refine evCut fun N hN hE hT=>?_);(conv=>whnf)))|(refine And.intro ?_ ?_;rotate_left;(conv=>whnf);rotate_right))
                                     all_goals first|rfl|omega|exact hO1 _ _|exact hO2 _ _|exact hA1|exact hA2|trace_state
                       · have e1:=(hOk r k (hFk _ r (.inr hc))).symm
                         have hna : elt .flag A (k + 0) = false:=by
                           cases ha : elt .flag A (k + 0) with
                           | true=>exact absurd (.inl (hAkk.1 ha)) hc
                           | false=>rfl
                         have hkn : ¬ (k : Int) = p.y * (8 * w.size) + p.x:=fun h=>hc (.inr (hkP.1 h))
                         rw [e1] at hv
                         clear hOak hOk hOs hOa hAkk
                         rw [e1]
                         conv=>whnf
                         repeat' (first|exact trivial|((first|((first|refine hT _ _ ?_|refine hE _ _ _ ?_|refine hN _ _ ?_);clear hN hE hT)|refine kL ?_|(refine ⟨fun hb=>?_,fun hb=>?_⟩<;>(try simp only [nrm] at hb)<;>(try (first|(exfalso;omega)|contradiction|exact kB hb)))|refine kW cfg_ok ?_|refine kC ?_|refine bdA ?_|refine bd2 ?_|refine bdR ?_|refine bdL ?_)<;>((try with_reducible refine evCut fun N hN hE hT=>?_);(conv=>whnf)))|(refine And.intro ?_ ?_;rotate_left;(conv=>whnf);rotate_right))
                         all_goals first|omega|exact hb2|exact hb3|(exfalso;exact absurd (hna.symm.trans ‹elt Ty.flag A (k + 0) = true›) (by decide))|skip
                         all_goals
                           refine hN5 _ _ ?_
                           conv=>whnf
                           refine .to (k + 1) (by omega) (by omega) ?_
                           conv=>whnf
                           repeat' (first|exact trivial|((first|((first|refine hT _ _ ?_|refine hE _ _ _ ?_|refine hN _ _ ?_);clear hN hE hT)|refine kL ?_|(refine ⟨fun hb=>?_,fun hb=>?_⟩<;>(try simp only [nrm] at hb)<;>(try (first|(exfalso;omega)|contradiction|exact kB hb)))|refine kW cfg_ok ?_|refine kC ?_|refine bdA ?_|refine bd2 ?_|refine bdR ?_|refine bdL ?_)<;>((try with_reducible refine evCut fun N hN hE hT=>?_);(conv=>whnf)))|(refine And.intro ?_ ?_;rotate_left;(conv=>whnf);rotate_right))
                           all_goals first|rfl|omega|exact hO1 _ _|exact hO2 _ _|exact hA1|exact hA2|trace_state
                   · have e1 : O r k = O (r + 1) 0:=by rw [show k = n * n by omega];exact hOs r
                     rw [e1]
                     conv=>whnf
                     repeat' (first|exact trivial|((first|((first|refine hT _ _ ?_|refine hE _ _ _ ?_|refine hN _ _ ?_);clear hN hE hT)|refine kL ?_|(refine ⟨fun hb=>?_,fun hb=>?_⟩<;>(try simp only [nrm] at hb)<;>(try (first|(exfalso;omega)|contradiction|exact kB hb)))|refine kW cfg_ok ?_|refine kC ?_|refine bdA ?_|refine bd2 ?_|refine bdR ?_|refine bdL ?_)<;>((try with_reducible refine evCut fun N hN hE hT=>?_);(conv=>whnf)))|(refine And.intro ?_ ?_;rotate_left;(conv=>whnf);rotate_right))
                     all_goals first|omega|skip
                     all_goals
                       refine hE5 _ _ _ ?_
                       conv=>whnf
                       repeat' (first|exact trivial|((first|((first|refine hT _ _ ?_|refine hE _ _ _ ?_|refine hN _ _ ?_);clear hN hE hT)|refine kL ?_|(refine ⟨fun hb=>?_,fun hb=>?_⟩<;>(try simp only [nrm] at hb)<;>(try (first|(exfalso;omega)|contradiction|exact kB hb)))|refine kW cfg_ok ?_|refine kC ?_|refine bdA ?_|refine bd2 ?_|refine bdR ?_|refine bdL ?_)<;>((try with_reducible refine evCut fun N hN hE hT=>?_);(conv=>whnf)))|(refine And.intro ?_ ?_;rotate_left;(conv=>whnf);rotate_right))
                       all_goals first|omega|skip
                       all_goals
                         refine hN4 _ _ ?_
                         conv=>whnf
                         refine .to (r + 1) (by omega) (by omega) ?_
                         conv=>whnf
                         repeat' (first|exact trivial|((first|((first|refine hT _ _ ?_|refine hE _ _ _ ?_|refine hN _ _ ?_);clear hN hE hT)|refine kL ?_|(refine ⟨fun hb=>?_,fun hb=>?_⟩<;>(try simp only [nrm] at hb)<;>(try (first|(exfalso;omega)|contradiction|exact kB hb)))|refine kW cfg_ok ?_|refine kC ?_|refine bdA ?_|refine bd2 ?_|refine bdR ?_|refine bdL ?_)<;>((try with_reducible refine evCut fun N hN hE hT=>?_);(conv=>whnf)))|(refine And.intro ?_ ?_;rotate_left;(conv=>whnf);rotate_right))
                         all_goals first|rfl|omega|exact hO1 _ _|exact hO2 _ _|exact hA1|exact hA2|trace_state
           · as_aux_lemma =>
               conv=>whnf
               repeat' (first|exact trivial|((first|((first|refine hT _ _ ?_|refine hE _ _ _ ?_|refine hN _ _ ?_);clear hN hE hT)|refine kL ?_|(refine ⟨fun hb=>?_,fun hb=>?_⟩<;>(try simp only [nrm] at hb)<;>(try (first|(exfalso;omega)|contradiction|exact kB hb)))|refine kW cfg_ok ?_|refine kC ?_|refine bdA ?_|refine bd2 ?_|refine bdR ?_|refine bdL ?_)<;>((try with_reducible refine evCut fun N hN hE hT=>?_);(conv=>whnf)))|(refine And.intro ?_ ?_;rotate_left;(conv=>whnf);rotate_right))
               all_goals first|omega|skip
               all_goals
                 refine hE4 _ _ _ ?_
                 obtain rfl : r = most.toNat:=by omega
                 have hOzp:=hOz most.toNat _ g5
                 rw [g6] at hOzp
                 have hpb0 : (p.y * (8 * w.size) + p.x).toNat + 0 < (O most.toNat 0).length:=by rw [hOl];exact g5
                 rcases hsp with ⟨rfl,d,a2,a3,ls,rfl,a5⟩|⟨rfl,rfl,a2⟩
                 · have hv : elt .i64 (O most.toNat 0) ((p.y * (8 * w.size) + p.x).toNat + 0) = (d : Int):=by
                     show elt .i64 (O most.toNat 0) (p.y * (8 * w.size) + p.x).toNat = _
                     rw [hOzp];exact off_is (.inr rfl) a2 a3
                   have hv0 : (0 : Int) ≤ elt .i64 (O most.toNat 0) ((p.y * (8 * w.size) + p.x).toNat + 0):=by rw [hv];exact Int.natCast_nonneg d
                   conv=>whnf
                   repeat' (first|exact trivial|((first|((first|refine hT _ _ ?_|refine hE _ _ _ ?_|refine hN _ _ ?_);clear hN hE hT)|refine kL ?_|(refine ⟨fun hb=>?_,fun hb=>?_⟩<;>(try simp only [nrm] at hb)<;>(try (first|(exfalso;omega)|contradiction|exact kB hb)))|refine kW cfg_ok ?_|refine kC ?_|refine bdA ?_|refine bd2 ?_|refine bdR ?_|refine bdL ?_)<;>((try with_reducible refine evCut fun N hN hE hT=>?_);(conv=>whnf)))|(refine And.intro ?_ ?_;rotate_left;(conv=>whnf);rotate_right))
                   all_goals first|omega|exact hpb0|skip
                   have hll:=told_len a5
                   have hpos : ∀ i,i ≤ d → Trk w ⟨x,y⟩ (atP p) d ls i:=fun i=>by
                     induction i with
                     | zero=>intro _;exact trk_zero a3 a5
                     | succ i ih=>intro hi;exact (trk_step (ih (by omega)) hll (by omega)).1
                   have hbdI : ∀ i,i ≤ d → 0 ≤ (posI (atP p) ls i).x ∧ (posI (atP p) ls i).x < 8 * w.size ∧ 0 ≤ (posI (atP p) ls i).y ∧ (posI (atP p) ls i).y < 8 * w.size:=fun i hi=>by
                     rcases (hpos i hi).air with h|h
                     · exact ⟨h.1,h.2.2.1,h.2.1,h.2.2.2.1⟩
                     · rw [h];exact ⟨hpb.1,hpb.2.2.1,hpb.2.1,hpb.2.2.2⟩
                   have hOm : ∀ i,i ≤ d → elt .i64 (O most.toNat 0) ((posI (atP p) ls i).y * (8 * w.size) + (posI (atP p) ls i).x).toNat = ((d - i : Nat) : Int):=fun i hi=>by
                     obtain ⟨b1,b2,b3,b4⟩:=hbdI i hi
                     obtain ⟨_,_,_,_,c5,c6⟩:=cell_idx hn hs ⟨b1,b2⟩ ⟨b3,b4⟩
                     rw [hOz most.toNat _ c5,c6]
                     exact off_is (hpos i hi).air (by omega) (hpos i hi).fst
                   have hOl0:=hOl most.toNat 0
                   have hO10:=hO1 most.toNat 0
                   have hO20:=hO2 most.toNat 0
                   have hOz0:=hOz most.toNat
                   generalize O most.toNat 0 = OM at *
                   have hgi : ∀ i,i ≤ d → ((ls.take i).map cmdOf).length = i:=fun i hi=>by rw [List.length_map,List.length_take];omega
                   have hgs:=fun i hi=>@cmds_succ ls i hi
                   have hg0 : (ls.take 0).map cmdOf = []:=rfl
                   have hgd : (ls.take d).map cmdOf = ls.map cmdOf:=by rw [List.take_of_length_le (by omega)]
                   refine Runs.loopQ cfg_ok (σ:=Nat) [14,15,16,23,24,30,31] (fun i=>[i64 (8 * w.size),.own .flag 177 0 (n * n) none,.own .i64 185 0 (n * n) none,.own .i64 307 0 8 none,.own .i64 309 0 8 none,i64 ((posI (atP p) ls i).y * (8 * w.size) + (posI (atP p) ls i).x),.own .cmd 350001 0 ((ls.take i).map cmdOf).length none])
                     (fun i=>[(177,.row .flag A),(185,.row .i64 OM),(307,.row .i64 DX),(309,.row .i64 DY),(350001,.row .cmd ((ls.take i).map cmdOf))])
                     (fun i=>i ≤ d) (fun i=>d - i) 0 (by omega) ?_ ?_
                   · conv=>whnf
                     repeat' (first|exact trivial|((first|((first|refine hT _ _ ?_|refine hE _ _ _ ?_|refine hN _ _ ?_);clear hN hE hT)|refine kL ?_|(refine ⟨fun hb=>?_,fun hb=>?_⟩<;>(try simp only [nrm] at hb)<;>(try (first|(exfalso;omega)|contradiction|exact kB hb)))|refine kW cfg_ok ?_|refine kC ?_|refine bdA ?_|refine bd2 ?_|refine bdR ?_|refine bdL ?_)<;>((try with_reducible refine evCut fun N hN hE hT=>?_);(conv=>whnf)))|(refine And.intro ?_ ?_;rotate_left;(conv=>whnf);rotate_right))
                     all_goals first|rfl|omega|exact hA1|exact hA2|exact hO10|exact hO20|(rw [hg0];done)|trace_state
                   · intro i hi N7 hN7 hE7 hT7
                     obtain ⟨b1,b2,b3,b4⟩:=hbdI i hi
                     have hOi:=hOm i hi
                     obtain ⟨q1,q2,q3,q4,q5,q6⟩:=cell_idx hn hs (x:=(posI (atP p) ls i).x) (y:=(posI (atP p) ls i).y) ⟨b1,b2⟩ ⟨b3,b4⟩
                     obtain ⟨u1,u2⟩:=at_div hn hs (c:=posI (atP p) ls i) ⟨b1,b2⟩ ⟨b3,b4⟩
                     have hq5 : ((posI (atP p) ls i).y * (8 * w.size) + (posI (atP p) ls i).x).toNat + 0 < OM.length:=by rw [hOl0];exact q5
                     have hOi0 : @Eq Int (elt .i64 OM (((posI (atP p) ls i).y * (8 * w.size) + (posI (atP p) ls i).x).toNat + 0)) ((d - i : Nat) : Int):=hOi
                     by_cases hlt : i < d
                     · obtain ⟨tn,z,z1,z2,z3⟩:=trk_step (hpos i hi) hll hlt
                       have hsucc:=posI_succ (atP p) (ls:=ls) (i:=i) (by omega)
                       have hgsi:=hgs i (by omega)
                       have hgli:=hgi i hi
                       have hgl2:=hgi (i + 1) hlt
                       rw [← z2] at hsucc hgsi
                       generalize posI (atP p) ls i = c at *
                       generalize (ls.take i).map cmdOf = S1 at *
                       conv=>whnf
                       repeat' (first|exact trivial|((first|((first|refine hT _ _ ?_|refine hE _ _ _ ?_|refine hN _ _ ?_);clear hN hE hT)|refine kL ?_|(refine ⟨fun hb=>?_,fun hb=>?_⟩<;>(try simp only [nrm] at hb)<;>(try (first|(exfalso;omega)|contradiction|exact kB hb)))|refine kW cfg_ok ?_|refine kC ?_|refine bdA ?_|refine bd2 ?_|refine bdR ?_|refine bdL ?_)<;>((try with_reducible refine evCut fun N hN hE hT=>?_);(conv=>whnf)))|(refine And.intro ?_ ?_;rotate_left;(conv=>whnf);rotate_right))
                       all_goals first|omega|exact hq5|skip
                       refine Runs.loopQ cfg_ok (σ:=Nat) [14,15,16,23,24,30,31,32] (fun j=>[i64 (8 * w.size),.own .flag 177 0 (n * n) none,.own .i64 185 0 (n * n) none,.own .i64 307 0 8 none,.own .i64 309 0 8 none,i64 (c.y * (8 * w.size) + c.x),.own .cmd 350001 0 S1.length none,i64 (j : Nat)])
                         (fun j=>[(177,.row .flag A),(185,.row .i64 OM),(307,.row .i64 DX),(309,.row .i64 DY),(350001,.row .cmd S1)])
                         (fun j=>j ≤ z) (fun j=>z - j) 0 (by omega) ?_ ?_
                       · conv=>whnf
                         repeat' (first|exact trivial|((first|((first|refine hT _ _ ?_|refine hE _ _ _ ?_|refine hN _ _ ?_);clear hN hE hT)|refine kL ?_|(refine ⟨fun hb=>?_,fun hb=>?_⟩<;>(try simp only [nrm] at hb)<;>(try (first|(exfalso;omega)|contradiction|exact kB hb)))|refine kW cfg_ok ?_|refine kC ?_|refine bdA ?_|refine bd2 ?_|refine bdR ?_|refine bdL ?_)<;>((try with_reducible refine evCut fun N hN hE hT=>?_);(conv=>whnf)))|(refine And.intro ?_ ?_;rotate_left;(conv=>whnf);rotate_right))
                         all_goals first|rfl|omega|exact hA1|exact hA2|exact hO10|exact hO20|exact List.take_length|trace_state
                       · as_aux_lemma =>
                           intro j hj N8 hN8 hE8 hT8
                           have hj8 : j < 8:=by omega
                           have hz:=z3 j hj
                           have hbx : ((j : Nat) : Int).toNat + 0 < DX.length:=by omega
                           have hby : ((j : Nat) : Int).toNat + 0 < DY.length:=by omega
                           have hst:=step_in hj8
                           have hsb:=steps_bd hst
                           have hx1 : @Eq Int (elt .i64 DX (j + 0)) (elt .pos stepsL j).x:=hDX2 j hj8
                           have hx2 : @Eq Int (elt .i64 DX (((j : Nat) : Int).toNat + 0)) (elt .pos stepsL j).x:=hDX2 j hj8
                           have hx3 : @Eq Int (elt .i64 DY (j + 0)) (elt .pos stepsL j).y:=hDY2 j hj8
                           have hx4 : @Eq Int (elt .i64 DY (((j : Nat) : Int).toNat + 0)) (elt .pos stepsL j).y:=hDY2 j hj8
                           by_cases hin : 0 ≤ c.x + (elt .pos stepsL j).x ∧ 0 ≤ c.y + (elt .pos stepsL j).y ∧ c.x + (elt .pos stepsL j).x < 8 * w.size ∧ c.y + (elt .pos stepsL j).y < 8 * w.size
                           · obtain ⟨c1,c2',c3,c4,c5,c6⟩:=cell_idx hn hs (x:=((c.y * (8 * w.size) + c.x) % (8 * w.size) + elt .i64 DX (((j : Nat) : Int).toNat + 0))) (y:=((c.y * (8 * w.size) + c.x) / (8 * w.size) + elt .i64 DY (((j : Nat) : Int).toNat + 0))) (by omega) (by omega)
                             rw [show (⟨((c.y * (8 * w.size) + c.x) % (8 * w.size) + elt .i64 DX (((j : Nat) : Int).toNat + 0)),((c.y * (8 * w.size) + c.x) / (8 * w.size) + elt .i64 DY (((j : Nat) : Int).toNat + 0))⟩ : Pos) = addP c (elt .pos stepsL j) from pos_ext (by show _ = c.x + _;dsimp only;omega) (by show _ = c.y + _;dsimp only;omega)] at c6
                             have hJa:=hAk _ c5
                             have hJo:=hOz0 _ c5
                             rw [c6] at hJa hJo
                             have hJ1 : (((c.y * (8 * w.size) + c.x) / (8 * w.size) + elt .i64 DY (((j : Nat) : Int).toNat + 0)) * (8 * w.size) + ((c.y * (8 * w.size) + c.x) % (8 * w.size) + elt .i64 DX (((j : Nat) : Int).toNat + 0))).toNat + 0 < A.length:=by rw [hAl];exact c5
                             have hJ2 : (((c.y * (8 * w.size) + c.x) / (8 * w.size) + elt .i64 DY (((j : Nat) : Int).toNat + 0)) * (8 * w.size) + ((c.y * (8 * w.size) + c.x) % (8 * w.size) + elt .i64 DX (((j : Nat) : Int).toNat + 0))).toNat + 0 < OM.length:=by rw [hOl0];exact c5
                             have hof:=fun h=>@off_eq w ⟨x,y⟩ (atP p) (addP c (elt .pos stepsL j)) most.toNat (d - (i + 1)) (by omega) h
                             have hu0 : 0 ≤ ((c.y * (8 * w.size) + c.x) % (8 * w.size) + elt .i64 DX (j + 0)) ∧ ((c.y * (8 * w.size) + c.x) % (8 * w.size) + elt .i64 DX (j + 0)) < 8 * w.size:=by omega
                             have hu0r : 0 ≤ ((c.y * (8 * w.size) + c.x) % (8 * w.size) + elt .i64 DX (((j : Nat) : Int).toNat + 0)) ∧ ((c.y * (8 * w.size) + c.x) % (8 * w.size) + elt .i64 DX (((j : Nat) : Int).toNat + 0)) < 8 * w.size:=by omega
                             have hv1 : 0 ≤ ((c.y * (8 * w.size) + c.x) / (8 * w.size) + elt .i64 DY (j + 0)) ∧ ((c.y * (8 * w.size) + c.x) / (8 * w.size) + elt .i64 DY (j + 0)) < 8 * w.size:=by omega
                             have hv1r : 0 ≤ ((c.y * (8 * w.size) + c.x) / (8 * w.size) + elt .i64 DY (((j : Nat) : Int).toNat + 0)) ∧ ((c.y * (8 * w.size) + c.x) / (8 * w.size) + elt .i64 DY (((j : Nat) : Int).toNat + 0)) < 8 * w.size:=by omega
                             have hqd : 0 ≤ (c.y * (8 * w.size) + c.x) / (8 * w.size) ∧ (c.y * (8 * w.size) + c.x) / (8 * w.size) ≤ 2000:=by omega
                             have hqr : 0 ≤ (c.y * (8 * w.size) + c.x) % (8 * w.size) ∧ (c.y * (8 * w.size) + c.x) % (8 * w.size) ≤ 2000:=by omega
                             have hsz1 : 1 ≤ w.size ∧ w.size ≤ 16:=by omega
                             have hat0 : 0 ≤ (c.y * (8 * w.size) + c.x) ∧ (c.y * (8 * w.size) + c.x) ≤ 2000:=by omega
                             have hd64 : d ≤ 64:=by omega
                             have hc2x : j = z → (posI (atP p) ls (i + 1)).x = ((c.y * (8 * w.size) + c.x) % (8 * w.size) + elt .i64 DX (((j : Nat) : Int).toNat + 0)):=fun hjz=>by rw [hsucc,← hjz];show c.x + _ = _;omega
                             have hc2y : j = z → (posI (atP p) ls (i + 1)).y = ((c.y * (8 * w.size) + c.x) / (8 * w.size) + elt .i64 DY (((j : Nat) : Int).toNat + 0)):=fun hjz=>by rw [hsucc,← hjz];show c.y + _ = _;omega
                             clear hsz hnn hq1 hq2 hq3 hq4 hpb j1 j2 j3 j4 g1 g2 g3 g4 hx hy u1 u2 hsb hin b1 b2 b3 b4 q1 q2 q3 q4 hm a2
                             by_cases ha : airW w (addP c (elt .pos stepsL j))
                             · have hJa : ¬ elt .flag A ((((c.y * (8 * w.size) + c.x) / (8 * w.size) + elt .i64 DY (j + 0)) * (8 * w.size) + ((c.y * (8 * w.size) + c.x) % (8 * w.size) + elt .i64 DX (j + 0))).toNat + 0) = false:=fun h=>absurd ((hJa.2 ha).symm.trans h) (by decide)
                               have hof:=hof ha
                               by_cases hf : fst (airW w) ⟨x,y⟩ (d - (i + 1)) (addP c (elt .pos stepsL j))
                               · have hjz : j = z:=hz.1 ⟨ha,hf⟩
                                 have hJd : @Eq Int (elt .i64 OM ((((c.y * (8 * w.size) + c.x) / (8 * w.size) + elt .i64 DY (j + 0)) * (8 * w.size) + ((c.y * (8 * w.size) + c.x) % (8 * w.size) + elt .i64 DX (j + 0))).toNat + 0)) ((d - (i + 1) : Nat) : Int):=hJo.trans (hof.2 hf)
                                 have hcm : cmdOf (elt .pos stepsL z) = ⟨2,elt .i64 DX (((j : Nat) : Int).toNat + 0),elt .i64 DY (((j : Nat) : Int).toNat + 0),0,0⟩:=by
                                   unfold cmdOf
                                   rw [← hjz,show elt .i64 DX (((j : Nat) : Int).toNat + 0) = (elt .pos stepsL j).x from hx2,show elt .i64 DY (((j : Nat) : Int).toNat + 0) = (elt .pos stepsL j).y from hx4]
                                 rw [hcm] at hgsi
                                 conv=>whnf
                                 repeat' (first|exact trivial|((first|((first|refine hT _ _ ?_|refine hE _ _ _ ?_|refine hN _ _ ?_);clear hN hE hT)|refine kL ?_|(refine ⟨fun hb=>?_,fun hb=>?_⟩<;>(try simp only [nrm] at hb)<;>(try (first|(exfalso;omega)|contradiction|exact kB hb)))|refine kW cfg_ok ?_|refine kC ?_|refine bdA ?_|refine bd2 ?_|refine bdR ?_|refine bdL ?_)<;>((try with_reducible refine evCut fun N hN hE hT=>?_);(conv=>whnf)))|(refine And.intro ?_ ?_;rotate_left;(conv=>whnf);rotate_right))
                                 all_goals first|omega|exact hbx|exact hby|exact hJ1|exact hJ2|exact hq5|skip
                                 all_goals
                                   refine hE8 _ _ _ ?_
                                   conv=>whnf
                                   repeat' (first|exact trivial|((first|((first|refine hT _ _ ?_|refine hE _ _ _ ?_|refine hN _ _ ?_);clear hN hE hT)|refine kL ?_|(refine ⟨fun hb=>?_,fun hb=>?_⟩<;>(try simp only [nrm] at hb)<;>(try (first|(exfalso;omega)|contradiction|exact kB hb)))|refine kW cfg_ok ?_|refine kC ?_|refine bdA ?_|refine bd2 ?_|refine bdR ?_|refine bdL ?_)<;>((try with_reducible refine evCut fun N hN hE hT=>?_);(conv=>whnf)))|(refine And.intro ?_ ?_;rotate_left;(conv=>whnf);rotate_right))
                                   all_goals first|omega|skip
                                   all_goals
                                     refine hN7 _ _ ?_
                                     conv=>whnf
                                     refine .to (i + 1) (by omega) (by omega) ?_
                                     conv=>whnf
                                     repeat' (first|exact trivial|((first|((first|refine hT _ _ ?_|refine hE _ _ _ ?_|refine hN _ _ ?_);clear hN hE hT)|refine kL ?_|(refine ⟨fun hb=>?_,fun hb=>?_⟩<;>(try simp only [nrm] at hb)<;>(try (first|(exfalso;omega)|contradiction|exact kB hb)))|refine kW cfg_ok ?_|refine kC ?_|refine bdA ?_|refine bd2 ?_|refine bdR ?_|refine bdL ?_)<;>((try with_reducible refine evCut fun N hN hE hT=>?_);(conv=>whnf)))|(refine And.intro ?_ ?_;rotate_left;(conv=>whnf);rotate_right))
                                     all_goals first|rfl|omega|exact hA1|exact hA2|exact hO10|exact hO20|exact List.take_length|(rw [hgsi];exact grow_cmd _ _)|(rw [hgsi,List.length_append];simp;done)|(refine congrArg (Value.int .i64) ?_;rw [hc2x hjz,hc2y hjz];done)|(rw [hgsi];simp;done)|trace_state
                               · have hjz : ¬ j = z:=fun h=>hf (hz.2 h).2
                                 have hJd : ¬ @Eq Int (elt .i64 OM ((((c.y * (8 * w.size) + c.x) / (8 * w.size) + elt .i64 DY (j + 0)) * (8 * w.size) + ((c.y * (8 * w.size) + c.x) % (8 * w.size) + elt .i64 DX (j + 0))).toNat + 0)) ((d - (i + 1) : Nat) : Int):=fun h=>hf (hof.1 (hJo.symm.trans h))
                                 conv=>whnf
                                 repeat' (first|exact trivial|((first|((first|refine hT _ _ ?_|refine hE _ _ _ ?_|refine hN _ _ ?_);clear hN hE hT)|refine kL ?_|(refine ⟨fun hb=>?_,fun hb=>?_⟩<;>(try simp only [nrm] at hb)<;>(try (first|(exfalso;omega)|contradiction|exact kB hb)))|refine kW cfg_ok ?_|refine kC ?_|refine bdA ?_|refine bd2 ?_|refine bdR ?_|refine bdL ?_)<;>((try with_reducible refine evCut fun N hN hE hT=>?_);(conv=>whnf)))|(refine And.intro ?_ ?_;rotate_left;(conv=>whnf);rotate_right))
                                 all_goals first|omega|exact hbx|exact hby|exact hJ1|exact hJ2|exact hq5|skip
                                 all_goals
                                   refine hN8 _ _ ?_
                                   conv=>whnf
                                   refine .to (j + 1) (by omega) (by omega) ?_
                                   conv=>whnf
                                   repeat' (first|exact trivial|((first|((first|refine hT _ _ ?_|refine hE _ _ _ ?_|refine hN _ _ ?_);clear hN hE hT)|refine kL ?_|(refine ⟨fun hb=>?_,fun hb=>?_⟩<;>(try simp only [nrm] at hb)<;>(try (first|(exfalso;omega)|contradiction|exact kB hb)))|refine kW cfg_ok ?_|refine kC ?_|refine bdA ?_|refine bd2 ?_|refine bdR ?_|refine bdL ?_)<;>((try with_reducible refine evCut fun N hN hE hT=>?_);(conv=>whnf)))|(refine And.intro ?_ ?_;rotate_left;(conv=>whnf);rotate_right))
                                   all_goals first|rfl|omega|exact hA1|exact hA2|exact hO10|exact hO20|exact List.take_length|trace_state
                             · have hjz : ¬ j = z:=fun h=>ha (hz.2 h).1
                               have hJa : ¬ elt .flag A ((((c.y * (8 * w.size) + c.x) / (8 * w.size) + elt .i64 DY (j + 0)) * (8 * w.size) + ((c.y * (8 * w.size) + c.x) % (8 * w.size) + elt .i64 DX (j + 0))).toNat + 0) = true:=fun h=>ha (hJa.1 h)
                               conv=>whnf
                               repeat' (first|exact trivial|((first|((first|refine hT _ _ ?_|refine hE _ _ _ ?_|refine hN _ _ ?_);clear hN hE hT)|refine kL ?_|(refine ⟨fun hb=>?_,fun hb=>?_⟩<;>(try simp only [nrm] at hb)<;>(try (first|(exfalso;omega)|contradiction|exact kB hb)))|refine kW cfg_ok ?_|refine kC ?_|refine bdA ?_|refine bd2 ?_|refine bdR ?_|refine bdL ?_)<;>((try with_reducible refine evCut fun N hN hE hT=>?_);(conv=>whnf)))|(refine And.intro ?_ ?_;rotate_left;(conv=>whnf);rotate_right))
                               all_goals first|omega|exact hbx|exact hby|exact hJ1|exact hJ2|exact hq5|skip
                               all_goals
                                 refine hN8 _ _ ?_
                                 conv=>whnf
                                 refine .to (j + 1) (by omega) (by omega) ?_
                                 conv=>whnf
                                 repeat' (first|exact trivial|((first|((first|refine hT _ _ ?_|refine hE _ _ _ ?_|refine hN _ _ ?_);clear hN hE hT)|refine kL ?_|(refine ⟨fun hb=>?_,fun hb=>?_⟩<;>(try simp only [nrm] at hb)<;>(try (first|(exfalso;omega)|contradiction|exact kB hb)))|refine kW cfg_ok ?_|refine kC ?_|refine bdA ?_|refine bd2 ?_|refine bdR ?_|refine bdL ?_)<;>((try with_reducible refine evCut fun N hN hE hT=>?_);(conv=>whnf)))|(refine And.intro ?_ ?_;rotate_left;(conv=>whnf);rotate_right))
                                 all_goals first|rfl|omega|exact hA1|exact hA2|exact hO10|exact hO20|exact List.take_length|trace_state
                           · have hjz : ¬ j = z:=fun h=>hin ⟨(hz.2 h).1.1,(hz.2 h).1.2.1,(hz.2 h).1.2.2.1,(hz.2 h).1.2.2.2.1⟩
                             have hJ1 : True:=trivial
                             have hJ2 : True:=trivial
                             have hnin : ¬ (0 ≤ ((c.y * (8 * w.size) + c.x) % (8 * w.size) + elt .i64 DX (j + 0)) ∧ 0 ≤ ((c.y * (8 * w.size) + c.x) / (8 * w.size) + elt .i64 DY (j + 0)) ∧ ((c.y * (8 * w.size) + c.x) % (8 * w.size) + elt .i64 DX (j + 0)) < 8 * w.size ∧ ((c.y * (8 * w.size) + c.x) / (8 * w.size) + elt .i64 DY (j + 0)) < 8 * w.size):=by omega
                             have hu0 : -1 ≤ ((c.y * (8 * w.size) + c.x) % (8 * w.size) + elt .i64 DX (j + 0)) ∧ ((c.y * (8 * w.size) + c.x) % (8 * w.size) + elt .i64 DX (j + 0)) ≤ 200:=by omega
                             have hu0r : -1 ≤ ((c.y * (8 * w.size) + c.x) % (8 * w.size) + elt .i64 DX (((j : Nat) : Int).toNat + 0)) ∧ ((c.y * (8 * w.size) + c.x) % (8 * w.size) + elt .i64 DX (((j : Nat) : Int).toNat + 0)) ≤ 200:=by omega
                             have hv1 : -1 ≤ ((c.y * (8 * w.size) + c.x) / (8 * w.size) + elt .i64 DY (j + 0)) ∧ ((c.y * (8 * w.size) + c.x) / (8 * w.size) + elt .i64 DY (j + 0)) ≤ 200:=by omega
                             have hv1r : -1 ≤ ((c.y * (8 * w.size) + c.x) / (8 * w.size) + elt .i64 DY (((j : Nat) : Int).toNat + 0)) ∧ ((c.y * (8 * w.size) + c.x) / (8 * w.size) + elt .i64 DY (((j : Nat) : Int).toNat + 0)) ≤ 200:=by omega
                             have hqd : 0 ≤ (c.y * (8 * w.size) + c.x) / (8 * w.size) ∧ (c.y * (8 * w.size) + c.x) / (8 * w.size) ≤ 2000:=by omega
                             have hqr : 0 ≤ (c.y * (8 * w.size) + c.x) % (8 * w.size) ∧ (c.y * (8 * w.size) + c.x) % (8 * w.size) ≤ 2000:=by omega
                             have hsz1 : 1 ≤ w.size ∧ w.size ≤ 16:=by omega
                             have hat0 : 0 ≤ (c.y * (8 * w.size) + c.x) ∧ (c.y * (8 * w.size) + c.x) ≤ 2000:=by omega
                             clear hsz hnn hq1 hq2 hq3 hq4 hpb j1 j2 j3 j4 g1 g2 g3 g4 hx hy u1 u2 hsb hin b1 b2 b3 b4 q1 q2 q3 q4 hm a2 hx1 hx2 hx3 hx4
                             conv=>whnf
                             repeat' (first|exact trivial|((first|((first|refine hT _ _ ?_|refine hE _ _ _ ?_|refine hN _ _ ?_);clear hN hE hT)|refine kL ?_|(refine ⟨fun hb=>?_,fun hb=>?_⟩<;>(try simp only [nrm] at hb)<;>(try (first|(exfalso;omega)|contradiction|exact kB hb)))|refine kW cfg_ok ?_|refine kC ?_|refine bdA ?_|refine bd2 ?_|refine bdR ?_|refine bdL ?_)<;>((try with_reducible refine evCut fun N hN hE hT=>?_);(conv=>whnf)))|(refine And.intro ?_ ?_;rotate_left;(conv=>whnf);rotate_right))
                             all_goals first|omega|exact hbx|exact hby|exact hJ1|exact hJ2|exact hq5|skip
                             all_goals
                               refine hN8 _ _ ?_
                               conv=>whnf
                               refine .to (j + 1) (by omega) (by omega) ?_
                               conv=>whnf
                               repeat' (first|exact trivial|((first|((first|refine hT _ _ ?_|refine hE _ _ _ ?_|refine hN _ _ ?_);clear hN hE hT)|refine kL ?_|(refine ⟨fun hb=>?_,fun hb=>?_⟩<;>(try simp only [nrm] at hb)<;>(try (first|(exfalso;omega)|contradiction|exact kB hb)))|refine kW cfg_ok ?_|refine kC ?_|refine bdA ?_|refine bd2 ?_|refine bdR ?_|refine bdL ?_)<;>((try with_reducible refine evCut fun N hN hE hT=>?_);(conv=>whnf)))|(refine And.intro ?_ ?_;rotate_left;(conv=>whnf);rotate_right))
                               all_goals first|rfl|omega|exact hA1|exact hA2|exact hO10|exact hO20|exact List.take_length|trace_state
                     · obtain rfl : i = d:=by omega
                       rw [hgd]
                       conv=>whnf
                       repeat' (first|exact trivial|((first|((first|refine hT _ _ ?_|refine hE _ _ _ ?_|refine hN _ _ ?_);clear hN hE hT)|refine kL ?_|(refine ⟨fun hb=>?_,fun hb=>?_⟩<;>(try simp only [nrm] at hb)<;>(try (first|(exfalso;omega)|contradiction|exact kB hb)))|refine kW cfg_ok ?_|refine kC ?_|refine bdA ?_|refine bd2 ?_|refine bdR ?_|refine bdL ?_)<;>((try with_reducible refine evCut fun N hN hE hT=>?_);(conv=>whnf)))|(refine And.intro ?_ ?_;rotate_left;(conv=>whnf);rotate_right))
                       all_goals first|omega|exact hq5|skip
                       all_goals
                         refine hE7 _ _ _ ?_
                         conv=>whnf
                         repeat' (first|exact trivial|((first|((first|refine hT _ _ ?_|refine hE _ _ _ ?_|refine hN _ _ ?_);clear hN hE hT)|refine kL ?_|(refine ⟨fun hb=>?_,fun hb=>?_⟩<;>(try simp only [nrm] at hb)<;>(try (first|(exfalso;omega)|contradiction|exact kB hb)))|refine kW cfg_ok ?_|refine kC ?_|refine bdA ?_|refine bd2 ?_|refine bdR ?_|refine bdL ?_)<;>((try with_reducible refine evCut fun N hN hE hT=>?_);(conv=>whnf)))|(refine And.intro ?_ ?_;rotate_left;(conv=>whnf);rotate_right))
                         all_goals first|rfl|omega|(rw [List.drop_zero];exact List.take_length)|trace_state
                 · have hv : elt .i64 (O most.toNat 0) ((p.y * (8 * w.size) + p.x).toNat + 0) = (-1 : Int):=by
                     show elt .i64 (O most.toNat 0) (p.y * (8 * w.size) + p.x).toNat = _
                     rw [hOzp];exact off_not fun h=>by obtain ⟨_,d,h1,h2⟩:=h;exact a2 d h1 h2
                   have hv0 : ¬ (0 : Int) ≤ elt .i64 (O most.toNat 0) ((p.y * (8 * w.size) + p.x).toNat + 0):=by rw [hv];decide
                   conv=>whnf
                   repeat' (first|exact trivial|((first|((first|refine hT _ _ ?_|refine hE _ _ _ ?_|refine hN _ _ ?_);clear hN hE hT)|refine kL ?_|(refine ⟨fun hb=>?_,fun hb=>?_⟩<;>(try simp only [nrm] at hb)<;>(try (first|(exfalso;omega)|contradiction|exact kB hb)))|refine kW cfg_ok ?_|refine kC ?_|refine bdA ?_|refine bd2 ?_|refine bdR ?_|refine bdL ?_)<;>((try with_reducible refine evCut fun N hN hE hT=>?_);(conv=>whnf)))|(refine And.intro ?_ ?_;rotate_left;(conv=>whnf);rotate_right))
                   all_goals first|rfl|omega|exact hpb0|trace_state
       · have hAe : elt .flag A (y * (8 * w.size) + x).toNat = false:=by
           cases hb : elt .flag A (y * (8 * w.size) + x).toNat with
           | true=>exact absurd (hAw.1 hb) he
           | false=>rfl
         rcases hsp with ⟨_,d,_,hf,_⟩|⟨rfl,rfl,_⟩
         · exfalso
           cases d with
           | zero=>exact absurd (congrArg Pos.x (show atP p = ⟨x,y⟩ from hf.1)) hpx
           | succ d=>exact absurd (WW_last d _ hf.1) he
         clear hAw hAk
         conv=>whnf
         repeat' (first|exact trivial|((first|((first|refine hT _ _ ?_|refine hE _ _ _ ?_|refine hN _ _ ?_);clear hN hE hT)|refine kL ?_|(refine ⟨fun hb=>?_,fun hb=>?_⟩<;>(try simp only [nrm] at hb)<;>(try (first|(exfalso;omega)|contradiction|exact kB hb)))|refine kW cfg_ok ?_|refine kC ?_|refine bdA ?_|refine bd2 ?_|refine bdR ?_|refine bdL ?_)<;>((try with_reducible refine evCut fun N hN hE hT=>?_);(conv=>whnf)))|(refine And.intro ?_ ?_;rotate_left;(conv=>whnf);rotate_right))
         all_goals first|rfl|omega|trace_state
end Go.Proofs.Ytchdgiooggdfeaa
