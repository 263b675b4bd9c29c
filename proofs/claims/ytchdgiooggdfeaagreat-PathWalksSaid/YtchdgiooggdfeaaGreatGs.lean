/- homesteadlaw27.PathNear. -/
import Derived.Test.YtchdgiooggdfeaaGreatGj
import Derived.Test.YtchdgiooggdfeaaGreatGu
set_option linter.unusedSimpArgs false
set_option linter.unusedVariables false
set_option maxRecDepth 100000
set_option maxHeartbeats 16000000
namespace Go.Proofs.YtchdgiooggdfeaaGreat
open Go Go.RowKit Eng
def goW (w : Wld) (id : Int) (ls : List Pos) : Nat → Wld
 | 0=>w
 | i + 1=>(applyW (goW w id ls i) id (cmdOf (elt .pos ls i))).1
theorem go_gone {w : Wld} (hR : RW w) {id : Int} {e : Pos} {ls : List Pos} (h0 : Gone w id e ls 0 w) : ∀ i,i ≤ ls.length → Gone w id e ls i (goW w id ls i):=by
 intro i
 induction i with
 | zero=>intro _;exact h0
 | succ i ih=>intro hi;exact (gone_step hR (ih (by omega)) (by omega)).2
theorem go_goneE {w : Wld} (hR : RW w) {id : Int} {e : Pos} {ls : List Pos} (h0 : GoneE w id e ls 0 w) : ∀ i,i ≤ ls.length → GoneE w id e ls i (goW w id ls i):=by
 intro i
 induction i with
 | zero=>intro _;exact h0
 | succ i ih=>intro hi;exact (goneE_step hR (ih (by omega)) (by omega)).2
theorem pnearIn_api (a b : Int) (ha : 0 ≤ a ∧ a ≤ 255) (hb8 : 0 ≤ b ∧ b ≤ 255) (W : Nat → Wld) (L : List (El .cmd)) (hr : Api Tryz.prog 13 [i64 (a % 8),i64 (a / 8 % 8),.lit (.slice none 0 0)] (.tup [wldV (W 0),bol true])) (hp : Api Tryz.prog 9 [wldV (W 0),i64 1,i64 (b % 8),i64 (b / 8 % 8),i64 64] (.tup [.vec .cmd L,i64 0])) (hL : (L.length : Int) = max (max (b % 8 - a % 8) (-(b % 8 - a % 8))) (max (b / 8 % 8 - a / 8 % 8) (-(b / 8 % 8 - a / 8 % 8)))) (hap : ∀ i : Nat,i < L.length → Api Tryz.prog 11 [wldV (W i),i64 1,cmdV (elt .cmd L i)] (.tup [wldV (W (i + 1)),i64 0])) (hpp : ∀ i : Nat,i < L.length → Api Tryz.prog 9 [wldV (W (i + 1)),i64 1,i64 (b % 8),i64 (b / 8 % 8),i64 64] (.tup [.vec .cmd (L.drop (i + 1)),i64 0])) (hsm : ∀ i : Nat,Api Tryz.prog 10 [.vec .cmd (L.drop (i + 1)),.vec .cmd (List.take ((L.length : Int) - ((i : Int) + 1)).toNat (List.drop ((i : Int) + 1).toNat L))] (bol true)) : Api Tryz.prog 4 [.lit (.int .u8 a),.lit (.int .u8 b)] (bol true):=by
 have haw:=awake27_api
 refine Api.of_fin cfg_ok Tryz.func4 rfl (nt:=116) rfl rfl ?_
 conv=>whnf
 repeat' (first|exact trivial|((first|refine kL ?_|(refine ⟨fun hb=>?_,fun hb=>?_⟩<;>(try simp only [nrm] at hb)<;>(try (first|(exfalso;omega)|contradiction|exact kB hb)))|refine kA hr ?_|refine kD hr ?_|refine kA hp ?_|refine kD hp ?_|refine kW cfg_ok ?_|refine kC ?_|refine bdA ?_|refine bd2 ?_|refine bdR ?_|refine bdL ?_)<;>(conv=>whnf))|(refine And.intro ?_ ?_;rotate_left;(conv=>whnf);rotate_right))
 all_goals first|omega|skip
 refine Runs.loopQ cfg_ok (σ:=Nat) [7,8,9,11,72,73,74] (fun i=>[i64 (b % 8),i64 (b / 8 % 8),.ptr 18 0,.vec .cmd L,.vec .cmd L,i64 (L.length : Nat),i64 (i : Nat)])
   (fun i=>[(18,.box (wldC (W i)))])
   (fun i=>i ≤ L.length) (fun i=>L.length - i) 0 (by omega) ?_ ?_
 · conv=>whnf
   repeat' (first|exact trivial|((first|refine kL ?_|(refine ⟨fun hb=>?_,fun hb=>?_⟩<;>(try simp only [nrm] at hb)<;>(try (first|(exfalso;omega)|contradiction|exact kB hb)))|refine kW cfg_ok ?_|refine kC ?_|refine bdA ?_|refine bd2 ?_|refine bdR ?_|refine bdL ?_)<;>(conv=>whnf))|(refine And.intro ?_ ?_;rotate_left;(conv=>whnf);rotate_right))
   all_goals first|rfl|omega|trace_state
 · intro i hi N1 hN1 hE1 hT1
   by_cases hlt : i < L.length
   · have h1:=hap i hlt
     have h2:=hpp i hlt
     have h3:=hsm i
     have h4 : (L.drop (i + 1)).length = L.length - (i + 1):=List.length_drop
     conv=>whnf
     repeat' (first|exact trivial|((first|refine kL ?_|(refine ⟨fun hb=>?_,fun hb=>?_⟩<;>(try simp only [nrm] at hb)<;>(try (first|(exfalso;omega)|contradiction|exact kB hb)))|refine kA h1 ?_|refine kD h1 ?_|refine kA h2 ?_|refine kD h2 ?_|refine kA h3 ?_|refine kD h3 ?_|refine kW cfg_ok ?_|refine kC ?_|refine bdA ?_|refine bd2 ?_|refine bdR ?_|refine bdL ?_)<;>(conv=>whnf))|(refine And.intro ?_ ?_;rotate_left;(conv=>whnf);rotate_right))
     all_goals first|omega|skip
     all_goals
       refine hN1 _ _ ?_
       conv=>whnf
       refine .to (i + 1) (by omega) (by omega) ?_
       conv=>whnf
       repeat' (first|exact trivial|((first|refine kL ?_|(refine ⟨fun hb=>?_,fun hb=>?_⟩<;>(try simp only [nrm] at hb)<;>(try (first|(exfalso;omega)|contradiction|exact kB hb)))|refine kW cfg_ok ?_|refine kC ?_|refine bdA ?_|refine bd2 ?_|refine bdR ?_|refine bdL ?_)<;>(conv=>whnf))|(refine And.intro ?_ ?_;rotate_left;(conv=>whnf);rotate_right))
       all_goals first|rfl|omega|trace_state
   · obtain rfl : i = L.length:=by omega
     conv=>whnf
     repeat' (first|exact trivial|((first|refine kL ?_|(refine ⟨fun hb=>?_,fun hb=>?_⟩<;>(try simp only [nrm] at hb)<;>(try (first|(exfalso;omega)|contradiction|exact kB hb)))|refine kW cfg_ok ?_|refine kC ?_|refine bdA ?_|refine bd2 ?_|refine bdR ?_|refine bdL ?_)<;>(conv=>whnf))|(refine And.intro ?_ ?_;rotate_left;(conv=>whnf);rotate_right))
     all_goals first|omega|skip
     refine hE1 _ _ _ ?_
     conv=>whnf
     repeat' (first|exact trivial|((first|refine kL ?_|(refine ⟨fun hb=>?_,fun hb=>?_⟩<;>(try simp only [nrm] at hb)<;>(try (first|(exfalso;omega)|contradiction|exact kB hb)))|refine kA haw ?_|refine kD haw ?_|refine kW cfg_ok ?_|refine kC ?_|refine bdA ?_|refine bd2 ?_|refine bdR ?_|refine bdL ?_)<;>(conv=>whnf))|(refine And.intro ?_ ?_;rotate_left;(conv=>whnf);rotate_right))
     all_goals first|rfl|omega|trace_state
theorem pnear_api (a b : Int) (ha : 0 ≤ a ∧ a ≤ 255) (hb8 : 0 ≤ b ∧ b ≤ 255) : Api Tryz.prog 4 [.lit (.int .u8 a),.lit (.int .u8 b)] (bol true):=by
 have hr:=room27_api (a % 8) (a / 8 % 8) [] (by omega) (by omega) (by decide) (fun k hk=>by cases hk)
 replace hr:=api_weak hr (.cons (Le.refl _) (.cons (Le.refl _) (.cons (Le.nil _) .nil)))
 rw [show roomS [] = air64 from rfl] at hr
 obtain ⟨_,q2,q3,q4⟩:=room_set air64_ok (x:=a % 8) (y:=a / 8 % 8) (by omega) (by omega)
 have hR:=q2.rw
 have hnw:=near_way q2 q3 q4 (x:=b % 8) (y:=b / 8 % 8) (by omega) (by omega)
 have hid : (roomP (a % 8) (a / 8 % 8)).id = 1:=rfl
 have hpx : (roomP (a % 8) (a / 8 % 8)).x = a % 8:=rfl
 have hpy : (roomP (a % 8) (a / 8 % 8)).y = a / 8 % 8:=rfl
 rw [hid,hpx,hpy] at hnw
 obtain ⟨w2,ls,w1,wt⟩:=hnw
 have hlen:=told_len wt
 have hair:=air_box q3 q4
 have h0 : Gone (roomW air64 (a % 8) (a / 8 % 8)) 1 ⟨b % 8,b / 8 % 8⟩ ls 0 (roomW air64 (a % 8) (a / 8 % 8)):=⟨⟨hR,rfl,rfl,rfl⟩,_,q2,hid,by rw [hair,Nat.sub_zero,hlen,List.drop_zero];exact wt⟩
 have hp:=ppath_api (roomW air64 (a % 8) (a / 8 % 8)) 1 (b % 8) (b / 8 % 8) 64 (okW_rw hR)
 rw [w1,w2] at hp
 have hgo:=go_gone hR h0
 have hsize:=q3
 clear q2
 generalize roomW air64 (a % 8) (a / 8 % 8) = B at *
 have hll : (ls.map cmdOf).length = ls.length:=List.length_map ..
 refine pnearIn_api a b ha hb8 (goW B 1 ls) (ls.map cmdOf) hr hp ?_ ?_ ?_ ?_
 · rw [hll,hlen];unfold absI;omega
 · intro i hi
   rw [hll] at hi
   rw [gone_cmd hi]
   have hok:=(hgo i (by omega)).same.rw
   have h:=apply_api (goW B 1 ls i) 1 (cmdOf (elt .pos ls i)) (okW_rw hok) (by decide) (by show (0 : Int) ≤ 2 ∧ (2 : Int) ≤ 255;decide)
   rw [(gone_step hR (hgo i (by omega)) hi).1] at h
   exact h
 · intro i hi
   rw [hll] at hi
   have hok:=(hgo (i + 1) (by omega)).same.rw
   have h:=ppath_api (goW B 1 ls (i + 1)) 1 (b % 8) (b / 8 % 8) 64 (okW_rw hok)
   have hn:=near_step (v:=goW B 1 ls i) (id:=1) (x:=b % 8) (y:=b / 8 % 8) (by omega) (by omega) hR hsize q4 (hgo i (by omega)) hi
   rw [show pathW (goW B 1 ls (i + 1)) 1 (b % 8) (b / 8 % 8) 64 = ((ls.map cmdOf).drop (i + 1),0) from hn] at h
   exact h
 · intro i
   have h:=same27_api ((ls.map cmdOf).drop (i + 1)) ((ls.map cmdOf).drop (i + 1)) (by
     have : ((ls.map cmdOf).drop (i + 1)).length ≤ ls.length:=by rw [List.length_drop,hll];omega
     have h2 : (max (absI (b % 8 - a % 8)) (absI (b / 8 % 8 - a / 8 % 8))).toNat ≤ 100:=by unfold absI;omega
     omega)
   rw [eqv_self] at h
   have e1 : ((i : Int) + 1).toNat = i + 1:=by omega
   rw [e1,List.take_of_length_le (by rw [List.length_drop];omega)]
   exact h
end Go.Proofs.YtchdgiooggdfeaaGreat
