/- homesteadlaw26.LightTorch. -/
import Derived.Test.YtchdgiooggdfeaaGo
import Derived.Test.YtchdgiooggdfeaaGc
set_option linter.unusedSimpArgs false
set_option linter.unusedVariables false
set_option maxRecDepth 100000
set_option maxHeartbeats 16000000
namespace Go.Proofs.Ytchdgiooggdfeaa
open Go Go.RowKit Eng
theorem torch_row1 {l : List Int} (h : l.length = 64) : List.take (0 + l.length) (List.drop 0 ((List.take 0 [] ++ l).set (Int.toNat 36 + 0) 0)) = l.set 36 0:=by
 show List.take (0 + l.length) (l.set 36 0) = _
 rw [List.take_of_length_le (by rw [List.length_set];omega)]
theorem torch_row2 {l : List Int} (h : l.length = 64) (k : Nat) : List.take (0 + l.length) (List.drop 0 (((List.take 0 [] ++ l).set (Int.toNat 36 + 0) 0).set (k + 0) 10)) = (l.set 36 0).set k 10:=by
 show List.take (0 + l.length) ((l.set 36 0).set k 10) = _
 rw [List.take_of_length_le (by rw [List.length_set,List.length_set];omega)]
theorem ltorchNo_api (at_ : Int) (hat : 0 ≤ at_ ∧ at_ ≤ 255) (B U : Wld) (M : List (List Int)) (RS : List Int) (hr : Api Try.prog 18 [] (.tup [wldV B,bol true])) (hc : Api Try.prog 19 [wldV B,i64 0,i64 0] (.tup [.agg [i64 0,i64 0,.vec .u8 RS,.vec .heap [],.vec .box []],bol true])) (hp : Api Try.prog 20 [wldV B,.agg [i64 0,i64 0,.vec .u8 (RS.set 36 0),.vec .heap [],.vec .box []]] (.tup [wldV U,i64 0])) (hm : Api Try.prog 14 [wldV U,i64 0,i64 0,i64 8,i64 8] (.vec .ints M)) (hl : RS.length = 64) (hM : M.length = 8) (hrow : ∀ b : Nat,b < 8 → (elt .ints M b).length = 8) (hval : ∀ i : Nat,i < 64 → elt .i64 (elt .ints M ((i : Int) / 8).toNat) ((i : Int) % 8).toNat = roofV (-1) ((i : Int) % 8) ((i : Int) / 8)) (haw : Api Try.prog 10 [] (bol true)) : Api Try.prog 5 [.lit (.int .u8 at_),bol true] (bol true):=by
 have hv3 : elt .i64 (elt .ints M (Int.toNat 0)) (Int.toNat 3) = 15:=hval 3 (by decide)
 have hv11 : elt .i64 (elt .ints M (Int.toNat 1)) (Int.toNat 3) = 0:=hval 11 (by decide)
 have hr0 : (elt .ints M (Int.toNat 0)).length = 8:=hrow 0 (by decide)
 have hr1 : (elt .ints M (Int.toNat 1)).length = 8:=hrow 1 (by decide)
 refine Api.of_fin cfg_ok Try.func5 rfl (nt:=116) rfl rfl ?_
 conv=>whnf
 repeat' (first|exact trivial|((first|refine kL ?_|(refine ⟨fun hb=>?_,fun hb=>?_⟩<;>(try simp only [nrm] at hb)<;>(try (first|(exfalso;omega)|contradiction|exact kB hb)))|refine kA hr ?_|refine kD hr ?_|refine kA hc ?_|refine kD hc ?_|refine kW cfg_ok ?_|refine kC ?_|refine bdA ?_|refine bd2 ?_|refine bdR ?_|refine bdL ?_)<;>(conv=>whnf))|(refine And.intro ?_ ?_;rotate_left;(conv=>whnf);rotate_right))
 all_goals first|omega|skip
 refine callGiveN hp rfl rfl ?_
 conv=>whnf
 refine ⟨by first|omega|(simp;done)|(simp;omega),?_,?_⟩
 · exact congrArg (fun l=>[wldV B,AV.agg [i64 0,i64 0,AV.vec Ty.u8 l,AV.vec Ty.heap [],AV.vec Ty.box []]]) (torch_row1 hl)
 conv=>whnf
 repeat' (first|exact trivial|((first|refine kL ?_|(refine ⟨fun hb=>?_,fun hb=>?_⟩<;>(try simp only [nrm] at hb)<;>(try (first|(exfalso;omega)|contradiction|exact kB hb)))|refine kA hm ?_|refine kD hm ?_|refine kW cfg_ok ?_|refine kC ?_|refine bdA ?_|refine bd2 ?_|refine bdR ?_|refine bdL ?_)<;>(conv=>whnf))|(refine And.intro ?_ ?_;rotate_left;(conv=>whnf);rotate_right))
 all_goals first|omega|skip
 refine Runs.loopS cfg_ok (σ:=Nat) [1,9,11,12] (fun i=>[.tt,i64 (16 + at_ % 48),.vec .ints M,i64 (i : Nat)]) (fun i=>[]) (fun i=>16 ≤ i ∧ i ≤ 64) (fun i=>64 - i) 16 (by omega) ?_ ?_
 · conv=>whnf
   repeat' (first|exact trivial|((first|refine kL ?_|(refine ⟨fun hb=>?_,fun hb=>?_⟩<;>(try simp only [nrm] at hb)<;>(try (first|(exfalso;omega)|contradiction|exact kB hb)))|refine kW cfg_ok ?_|refine kC ?_|refine bdA ?_|refine bd2 ?_|refine bdR ?_|refine bdL ?_)<;>(conv=>whnf))|(refine And.intro ?_ ?_;rotate_left;(conv=>whnf);rotate_right))
   all_goals first|rfl|omega|trace_state
 · rintro i ⟨hi,hi2⟩
   by_cases hlt : i < 64
   · have hvi:=hval i hlt
     have hri:=hrow ((i : Int) / 8).toNat (by omega)
     rw [show roofV (-1) ((i : Int) % 8) ((i : Int) / 8) = 0 by unfold roofV;rw [if_neg (by omega),if_pos (.inr (by decide))]] at hvi
     conv=>whnf
     repeat' (first|exact trivial|((first|refine kL ?_|(refine ⟨fun hb=>?_,fun hb=>?_⟩<;>(try simp only [nrm] at hb)<;>(try (first|(exfalso;omega)|contradiction|exact kB hb)))|refine kW cfg_ok ?_|refine kC ?_|refine bdA ?_|refine bd2 ?_|refine bdR ?_|refine bdL ?_)<;>(conv=>whnf))|(refine And.intro ?_ ?_;rotate_left;(conv=>whnf);rotate_right))
     all_goals first|omega|skip
     all_goals
       refine .to (i + 1) (by omega) (by omega) ?_
       conv=>whnf
       repeat' (first|exact trivial|((first|refine kL ?_|(refine ⟨fun hb=>?_,fun hb=>?_⟩<;>(try simp only [nrm] at hb)<;>(try (first|(exfalso;omega)|contradiction|exact kB hb)))|refine kW cfg_ok ?_|refine kC ?_|refine bdA ?_|refine bd2 ?_|refine bdR ?_|refine bdL ?_)<;>(conv=>whnf))|(refine And.intro ?_ ?_;rotate_left;(conv=>whnf);rotate_right))
       all_goals first|rfl|omega|trace_state
   · obtain rfl : i = 64:=by omega
     conv=>whnf
     repeat' (first|exact trivial|((first|refine kL ?_|(refine ⟨fun hb=>?_,fun hb=>?_⟩<;>(try simp only [nrm] at hb)<;>(try (first|(exfalso;omega)|contradiction|exact kB hb)))|refine kA haw ?_|refine kD haw ?_|refine kW cfg_ok ?_|refine kC ?_|refine bdA ?_|refine bd2 ?_|refine bdR ?_|refine bdL ?_)<;>(conv=>whnf))|(refine And.intro ?_ ?_;rotate_left;(conv=>whnf);rotate_right))
     all_goals first|rfl|omega|trace_state
theorem ltorchYes_api (at_ : Int) (hat : 0 ≤ at_ ∧ at_ ≤ 255) (B U : Wld) (M : List (List Int)) (RS : List Int) (hr : Api Try.prog 18 [] (.tup [wldV B,bol true])) (hc : Api Try.prog 19 [wldV B,i64 0,i64 0] (.tup [.agg [i64 0,i64 0,.vec .u8 RS,.vec .heap [],.vec .box []],bol true])) (hp : Api Try.prog 20 [wldV B,.agg [i64 0,i64 0,.vec .u8 ((RS.set 36 0).set (16 + at_ % 48).toNat 10),.vec .heap [],.vec .box []]] (.tup [wldV U,i64 0])) (hm : Api Try.prog 14 [wldV U,i64 0,i64 0,i64 8,i64 8] (.vec .ints M)) (hl : RS.length = 64) (hM : M.length = 8) (hrow : ∀ b : Nat,b < 8 → (elt .ints M b).length = 8) (hval : ∀ i : Nat,i < 64 → elt .i64 (elt .ints M ((i : Int) / 8).toNat) ((i : Int) % 8).toNat = roofV (16 + at_ % 48) ((i : Int) % 8) ((i : Int) / 8)) (haw : Api Try.prog 10 [] (bol true)) : Api Try.prog 5 [.lit (.int .u8 at_),bol false] (bol true):=by
 have hv3 : elt .i64 (elt .ints M (Int.toNat 0)) (Int.toNat 3) = 15:=hval 3 (by decide)
 have hv11 : elt .i64 (elt .ints M (Int.toNat 1)) (Int.toNat 3) = 0:=hval 11 (by decide)
 have hr0 : (elt .ints M (Int.toNat 0)).length = 8:=hrow 0 (by decide)
 have hr1 : (elt .ints M (Int.toNat 1)).length = 8:=hrow 1 (by decide)
 have hl1 : (RS.set 36 0).length = 64:=by rw [List.length_set];exact hl
 refine Api.of_fin cfg_ok Try.func5 rfl (nt:=116) rfl rfl ?_
 conv=>whnf
 repeat' (first|exact trivial|((first|refine kL ?_|(refine ⟨fun hb=>?_,fun hb=>?_⟩<;>(try simp only [nrm] at hb)<;>(try (first|(exfalso;omega)|contradiction|exact kB hb)))|((refine ⟨(⟨by omega,by omega⟩ : 0 ≤ 16 + at_ % 48 ∧ 16 + at_ % 48 < _),?_⟩;show opsK _ _ _ _ _ _ _ _;unfold opsK;unfold guardK;show stepK _ _ _ _ _ _ _;unfold stepK;show opA _ _ _ _ _ _ _;unfold opA;show avalK _ _ _))|refine kA hr ?_|refine kD hr ?_|refine kA hc ?_|refine kD hc ?_|refine kW cfg_ok ?_|refine kC ?_|refine bdA ?_|refine bd2 ?_|refine bdR ?_|refine bdL ?_)<;>(conv=>whnf))|(refine And.intro ?_ ?_;rotate_left;(conv=>whnf);rotate_right))
 all_goals first|omega|skip
 refine callGiveN hp rfl rfl ?_
 conv=>whnf
 refine ⟨by first|omega|(simp;done)|(simp;omega),?_,?_⟩
 · exact congrArg (fun l=>[wldV B,AV.agg [i64 0,i64 0,AV.vec Ty.u8 l,AV.vec Ty.heap [],AV.vec Ty.box []]]) (torch_row2 hl _)
 conv=>whnf
 repeat' (first|exact trivial|((first|refine kL ?_|(refine ⟨fun hb=>?_,fun hb=>?_⟩<;>(try simp only [nrm] at hb)<;>(try (first|(exfalso;omega)|contradiction|exact kB hb)))|refine kA hm ?_|refine kD hm ?_|refine kW cfg_ok ?_|refine kC ?_|refine bdA ?_|refine bd2 ?_|refine bdR ?_|refine bdL ?_)<;>(conv=>whnf))|(refine And.intro ?_ ?_;rotate_left;(conv=>whnf);rotate_right))
 all_goals first|omega|skip
 refine Runs.loopS cfg_ok (σ:=Nat) [1,9,11,12] (fun i=>[.ff,i64 (16 + at_ % 48),.vec .ints M,i64 (i : Nat)]) (fun i=>[]) (fun i=>16 ≤ i ∧ i ≤ 64) (fun i=>64 - i) 16 (by omega) ?_ ?_
 · conv=>whnf
   repeat' (first|exact trivial|((first|refine kL ?_|(refine ⟨fun hb=>?_,fun hb=>?_⟩<;>(try simp only [nrm] at hb)<;>(try (first|(exfalso;omega)|contradiction|exact kB hb)))|refine kW cfg_ok ?_|refine kC ?_|refine bdA ?_|refine bd2 ?_|refine bdR ?_|refine bdL ?_)<;>(conv=>whnf))|(refine And.intro ?_ ?_;rotate_left;(conv=>whnf);rotate_right))
   all_goals first|rfl|omega|trace_state
 · rintro i ⟨hi,hi2⟩
   by_cases hlt : i < 64
   · have hvi:=hval i hlt
     have hri:=hrow ((i : Int) / 8).toNat (by omega)
     rw [show roofV (16 + at_ % 48) ((i : Int) % 8) ((i : Int) / 8) = 14 - max ((i : Int) % 8 - (16 + at_ % 48) % 8) (0 - ((i : Int) % 8 - (16 + at_ % 48) % 8)) - max ((i : Int) / 8 - (16 + at_ % 48) / 8) (0 - ((i : Int) / 8 - (16 + at_ % 48) / 8)) by unfold roofV;rw [if_neg (by omega),if_neg (by omega)];unfold absZ;omega] at hvi
     conv=>whnf
     repeat' (first|exact trivial|((first|refine kL ?_|(refine ⟨fun hb=>?_,fun hb=>?_⟩<;>(try simp only [nrm] at hb)<;>(try (first|(exfalso;omega)|contradiction|exact kB hb)))|refine kW cfg_ok ?_|refine kC ?_|refine bdA ?_|refine bd2 ?_|refine bdR ?_|refine bdL ?_)<;>(conv=>whnf))|(refine And.intro ?_ ?_;rotate_left;(conv=>whnf);rotate_right))
     all_goals first|omega|skip
     all_goals
       refine .to (i + 1) (by omega) (by omega) ?_
       conv=>whnf
       repeat' (first|exact trivial|((first|refine kL ?_|(refine ⟨fun hb=>?_,fun hb=>?_⟩<;>(try simp only [nrm] at hb)<;>(try (first|(exfalso;omega)|contradiction|exact kB hb)))|refine kW cfg_ok ?_|refine kC ?_|refine bdA ?_|refine bd2 ?_|refine bdR ?_|refine bdL ?_)<;>(conv=>whnf))|(refine And.intro ?_ ?_;rotate_left;(conv=>whnf);rotate_right))
       all_goals first|rfl|omega|trace_state
   · obtain rfl : i = 64:=by omega
     conv=>whnf
     repeat' (first|exact trivial|((first|refine kL ?_|(refine ⟨fun hb=>?_,fun hb=>?_⟩<;>(try simp only [nrm] at hb)<;>(try (first|(exfalso;omega)|contradiction|exact kB hb)))|refine kA haw ?_|refine kD haw ?_|refine kW cfg_ok ?_|refine kC ?_|refine bdA ?_|refine bd2 ?_|refine bdR ?_|refine bdL ?_)<;>(conv=>whnf))|(refine And.intro ?_ ?_;rotate_left;(conv=>whnf);rotate_right))
     all_goals first|rfl|omega|trace_state
open Go Go.RowKit Eng
theorem torch_map {v : Wld} (hR : RW v) {t : Int} (h : Roofed v t) (ht : t < 0 ∨ (16 ≤ t ∧ t < 64)) {a b : Nat} (ha : a < 8) (hb : b < 8) : elt .i64 (elt .ints (mapW v 0 0 8 8) b) a = roofV t (a : Nat) (b : Nat):=by
 have hi : inW v ⟨0 + (a : Nat),0 + (b : Nat)⟩:=(roof_in h).2 (by dsimp only;omega)
 have h1:=(mapW_at hR.size.1 0 0 hb ha).1 hi
 rw [Int.zero_add,Int.zero_add] at h1
 exact bright_one h1 (roof_bright h ht (c:=⟨(a : Nat),(b : Nat)⟩) (by dsimp only;omega) (by dsimp only;omega))
theorem torch_chunk {v : Wld} (hR : RW v) {t : Int} (h : Roofed v t) : chunkW v 0 0 = (roomC (roofN 8 t),true):=by
 have h1:=(chunkW_in hR (x:=0) (y:=0) ⟨by decide,by rw [h.size];decide⟩ ⟨by decide,by rw [h.size];decide⟩).1
 refine Prod.ext h.chunk ?_
 rw [h1]
theorem torch_vals {v : Wld} (hR : RW v) {t : Int} (h : Roofed v t) (ht : t < 0 ∨ (16 ≤ t ∧ t < 64)) : (∀ i : Nat,i < 64 → elt .i64 (elt .ints (mapW v 0 0 8 8) ((i : Int) / 8).toNat) ((i : Int) % 8).toNat = roofV t ((i : Int) % 8) ((i : Int) / 8)) ∧ (∀ b : Nat,b < 8 → (elt .ints (mapW v 0 0 8 8) b).length = 8):=by
 refine ⟨fun i hi=>?_,fun b hb=>mapW_row v 0 0 hb⟩
 have h1:=torch_map hR h ht (a:=((i : Int) % 8).toNat) (b:=((i : Int) / 8).toNat) (by omega) (by omega)
 rw [show ((((i : Int) % 8).toNat : Nat) : Int) = (i : Int) % 8 by omega,show ((((i : Int) / 8).toNat : Nat) : Int) = (i : Int) / 8 by omega] at h1
 exact h1
theorem torch_fin (w : Wld) (hR : RW w) (hs : w.size = 1) (t : Int) : OkW (putW w (roomC (roofN 8 t))).1 ∧ Api Try.prog 20 [wldV w,chunkV (roomC (roofN 8 t))] (.tup [wldV (putW w (roomC (roofN 8 t))).1,i64 0]):=by
 obtain ⟨r1,r2,r3⟩:=roof_put hR hs t
 have hp:=worldPut_api w (roomC (roofN 8 t)) (okW_rw hR) (okC_right (room_right (roofN_ok 8 t))) (fitC_right (room_right (roofN_ok 8 t)))
 rw [r1] at hp
 exact ⟨okW_rw r2,hp⟩
theorem ltorch_api (at_ : Int) (none_ : Bool) (hat : 0 ≤ at_ ∧ at_ ≤ 255) : Api Try.prog 5 [.lit (.int .u8 at_),bol none_] (bol true):=by
 have hr:=roof_api
 obtain ⟨hR,hT⟩:=roof_here
 have hc:=wchunk_api roofW 0 0 (okW_rw hR)
 rw [torch_chunk hR hT] at hc
 have key : ∀ t : Int,∃ U,OkW U ∧ RW U ∧ Roofed U t ∧ Api Try.prog 20 [wldV roofW,chunkV (roomC (roofN 8 t))] (.tup [wldV U,i64 0]):=fun t=>by
   obtain ⟨r1,r2,r3⟩:=roof_put hR hT.size t
   obtain ⟨f1,f2⟩:=torch_fin roofW hR hT.size t
   exact ⟨_,f1,r2,r3,f2⟩
 have h36 : (roofN 8 36).set 36 0 = roofN 8 (-1):=roofN_bare (t:=36) (by decide)
 cases none_ with
 | true =>
   obtain ⟨U,u1,u2,u3,u4⟩:=key (-1)
   have hm:=map_api U 0 0 8 8 u1 (rightW_iff.2 u2) (by decide)
   obtain ⟨v1,v2⟩:=torch_vals u2 u3 (by decide)
   refine ltorchNo_api at_ hat roofW U (mapW U 0 0 8 8) (roofN 8 36) hr hc ?_ hm (roofN_len 8 36) (mapW_len U 0 0 8 8) v2 v1 awake26_api
   rw [h36];exact u4
 | false =>
   obtain ⟨U,u1,u2,u3,u4⟩:=key (16 + at_ % 48)
   have hm:=map_api U 0 0 8 8 u1 (rightW_iff.2 u2) (by decide)
   obtain ⟨v1,v2⟩:=torch_vals u2 u3 (by omega)
   refine ltorchYes_api at_ hat roofW U (mapW U 0 0 8 8) (roofN 8 36) hr hc ?_ hm (roofN_len 8 36) (mapW_len U 0 0 8 8) v2 v1 awake26_api
   have e:=roofN_torch (t:=(16 + at_ % 48).toNat) (by omega)
   rw [show (((16 + at_ % 48).toNat : Nat) : Int) = 16 + at_ % 48 by omega] at e
   rw [h36,e];exact u4
end Go.Proofs.Ytchdgiooggdfeaa
