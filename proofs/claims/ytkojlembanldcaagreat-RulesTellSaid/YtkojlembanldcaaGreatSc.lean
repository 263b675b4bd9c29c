/- The reference of rules. -/
import Derived.Test.YtkojlembanldcaaGreatSb
import Derived.Test.YtkojlembanldcaaGreatSa
import Derived.Test.YtkojlembanldcaaGreatGj
import Derived.Test.YtkojlembanldcaaGreatRz
import Derived.Test.YtkojlembanldcaaGreatGi
import Derived.Test.YtkojlembanldcaaGreatGe
import Derived.Test.YtkojlembanldcaaGreatRb
set_option linter.unusedSimpArgs false
set_option linter.unusedVariables false
set_option maxRecDepth 100000
set_option maxHeartbeats 16000000
namespace Go.Proofs.YtkojlembanldcaaGreat
open Go Go.RowKit Eng
theorem r16spawn_api (size id : Int) (h : id ≤ 9223372036854775807) : Api Tryz.prog 41 [i64 size,i64 id] (.tup [i64 (spawnX size id),i64 0]):=by
 by_cases hs : size < 1 ∨ 16 < size ∨ id < 0
 ·rw [show spawnX size id = 0 by unfold spawnX;rw [if_pos hs]]
  refine aF Tryz.func41 23 ?_
  exact fB0
 ·rw [show spawnX size id = (id % (8 * size) * 7 + 3) % (8 * size) by unfold spawnX;rw [if_neg hs]]
  have hm:=Int.emod_nonneg id (show (8 * size) ≠ 0 by omega)
  have hm2:=Int.emod_lt_of_pos id (show 0 < 8 * size by omega)
  refine aF Tryz.func41 23 ?_
  exact fB0
theorem r16there_api (w : Wld) (x y : Int) (hs : 1 ≤ w.size ∧ w.size ≤ 16) : Api Tryz.prog 156 [wldV w,i64 x,i64 y] (bol (withinW w.size x y)):=by
 have h:=withinS (x:=x) (y:=y) hs
 cases hW : withinW w.size x y with
 | true =>
  obtain ⟨h1,h2,h3,h4⟩:=h.1 hW
  refine aF Tryz.func156 24 ?_
  conv=>whnf
  repeat' (first|exact trivial|((first|(refine ⟨fun hb=>?_,fun hb=>?_⟩<;>(try simp only [nrm] at hb)<;>try exact kZ hb)|refine kV ?_)<;>(conv=>whnf))|refine kY ?_ ?_)
  all_goals (refine congrArg Value.bool ?_;simp;omega)
 | false =>
  have h5 : ¬ (0 ≤ x ∧ 0 ≤ y ∧ x < 8 * w.size ∧ y < 8 * w.size):=fun hx=>by rw [h.2 hx] at hW;cases hW
  refine aF Tryz.func156 24 ?_
  conv=>whnf
  repeat' (first|exact trivial|((first|(refine ⟨fun hb=>?_,fun hb=>?_⟩<;>(try simp only [nrm] at hb)<;>try exact kZ hb)|refine kV ?_)<;>(conv=>whnf))|refine kY ?_ ?_)
  all_goals (refine congrArg Value.bool ?_;simp;omega)
theorem r16near_api (p : Player) (x y : Int) (hx : 0 ≤ x ∧ x ≤ 1000) (hy : 0 ≤ y ∧ y ≤ 1000) (hpx : 0 ≤ p.x ∧ p.x ≤ 1000) (hpy : 0 ≤ p.y ∧ p.y ≤ 1000) : Api Tryz.prog 157 [playerV p,i64 x,i64 y] (bol (nearP p x y)):=by
 have h : nearP p x y = true ↔ x - p.x ≤ 3 ∧ p.x - x ≤ 3 ∧ y - p.y ≤ 3 ∧ p.y - y ≤ 3:=by
  unfold nearP
  rw [Bool.and_eq_true,decide_eq_true_eq,decide_eq_true_eq]
  omega
 cases hN : nearP p x y with
 | true =>
  obtain ⟨h1,h2,h3,h4⟩:=h.1 hN
  refine aF Tryz.func157 30 ?_
  conv=>whnf
  repeat' (first|exact trivial|((first|(refine ⟨fun hb=>?_,fun hb=>?_⟩<;>(try simp only [nrm] at hb)<;>try exact kZ hb)|refine kV ?_)<;>(conv=>whnf))|refine kY ?_ ?_)
  all_goals (refine congrArg Value.bool ?_;simp;omega)
 | false =>
  have h5 : ¬ (x - p.x ≤ 3 ∧ p.x - x ≤ 3 ∧ y - p.y ≤ 3 ∧ p.y - y ≤ 3):=fun hx=>by rw [h.2 hx] at hN;cases hN
  refine aF Tryz.func157 30 ?_
  conv=>whnf
  repeat' (first|exact trivial|((first|(refine ⟨fun hb=>?_,fun hb=>?_⟩<;>(try simp only [nrm] at hb)<;>try exact kZ hb)|refine kV ?_)<;>(conv=>whnf))|refine kY ?_ ?_)
  all_goals (refine congrArg Value.bool ?_;simp;omega)
theorem r16chunk_api (w : Wld) (x y : Int) (hw : OkW w) (hx : 0 ≤ x ∧ x ≤ 1000) (hy : 0 ≤ y ∧ y ≤ 1000) : Api Tryz.prog 161 [wldV w,i64 x,i64 y] (.tup [chunkV (placeC w x y),i64 (placeI x y)]):=by
 have hch:=r13chunk_api w (x / 8) (y / 8) hw
 unfold placeC placeI
 generalize chunkW w (x / 8) (y / 8) = R at *
 refine aF Tryz.func161 23 ?_
 exact fA0
theorem r16put_api (w : Wld) (k : Chunk) (p : Player) (hw : OkW w) (hk : OkC k) (hf : FitC k) (hp : OkP p) : Api Tryz.prog 163 [wldV w,chunkV k,playerV p] (.tup [wldV (setW (putW w k).1 p).1,i64 0]):=by
 have h1:=r13put_api w k hw hk hf
 have h2:=r13set_api (putW w k).1 p (okW_put hw hk hf) hp
 generalize setW (putW w k).1 p = S at *
 generalize putW w k = U at *
 refine aF Tryz.func163 18 ?_
 exact fA0
theorem cell_len {K : Chunk} (h : rightB K = true) : K.cells.length = 64:=(rightC_of h).len
theorem r16break_api (w : Wld) (p : Player) (c : Cmd) (h : Here w p) (hA : aimE w p c.a c.b = 0) (hd : c.dol = 3) : Api Tryz.prog 158 [wldV w,playerV p,cmdV c] (.tup [wldV (okA w (breakA w p c)).1,i64 (okA w (breakA w p c)).2]):=by
 have hw:=okW_rw h.rw
 obtain ⟨hS,hI0⟩:=h.sound
 have hP:=okP_sound hS
 obtain ⟨_,_,hPl,hPb,_⟩:=sound_parts hS
 have hin:=(aim_in hA).1
 have hab:=(within_iff h.rw).1 hin
 have hsz:=h.rw.size
 have hch:=r16chunk_api w c.a c.b hw (by omega) (by omega)
 unfold breakA
 rw [if_neg (not_not_intro hA)]
 obtain ⟨hK,hKx,hKy⟩:=place_right h.rw hin
 have hI:=placeI_bd c.a c.b
 have hmx:=fun {k : Chunk} (hx : k.x = (placeC w c.a c.b).x) (hy : k.y = (placeC w c.a c.b).y)=>here_max h hin hx hy
 generalize placeC w c.a c.b = K at *
 generalize placeI c.a c.b = I at *
 have hlen:=cell_len hK
 have hbx:=r11box_api K I (okC_right hK) (fitC_right hK)
 have hcell:=(okC_right hK).cells _ (elt_mem (t:=.u8) (l:=K.cells) (i:=I.toNat) (by omega))
 have hgv:=r08gives_api (cellA K I) hcell.1 hcell.2
 have hgb:=givesI_bd (cellA K I) hcell.1 hcell.2
 have hst:=r11set_api K I 0 (okC_right hK) (fitC_right hK) (by omega) (by omega)
 have hsr:=right_setC hK (t:=I) (i:=0) hI.1 hI.2
 have hxy:=setC_xy K I 0
 have hpu:=refPut_api p.bag (givesI (cellA K I)) 1 (by omega) hP.bag hgb.1 hgb.2 (by omega) (by omega)
 have hpl:=putS_length p.bag (givesI (cellA K I)) 1
 have hpb:=putS_bagOk (i:=givesI (cellA K I)) (n:=1) hPb
 have hE : elt .u8 K.cells (I.toNat) = cellA K I:=rfl
 generalize boxC K I = X at *
 obtain ⟨X1,X2⟩:=X
 dsimp only at *
 by_cases h0 : cellA K I = 0
 ·rw [if_pos h0,okA_err (by decide)]
  have h0' : elt .u8 K.cells I.toNat = 0:=h0
  refine aF Tryz.func158 211 ?_
  exact fA0
 ·rw [if_neg h0]
  have h0' : ¬ elt .u8 K.cells I.toNat = 0:=h0
  have hmk:=hmx (k:=(setC K I 0).1) hxy.1 hxy.2
  have hput:=r16put_api w (setC K I 0).1 { p with bag:=(putS p.bag (givesI (cellA K I)) 1).1 } hw (okC_right hsr) (fitC_right hsr) (okP_bag hP (bagOk_okSlot hpb) (by omega))
  have hkp:=here_keep h (p':={ p with bag:=(putS p.bag (givesI (cellA K I)) 1).1 }) rfl (soundB_bag hS (by omega) hpb) hI0 hsr hmk
  rw [hkp]
  clear hkp hmx hxy hsr hmk
  generalize setC K I 0 = S at *
  generalize putS p.bag (givesI (cellA K I)) 1 = B at *
  obtain ⟨S1,S2⟩:=S
  obtain ⟨B1,B2⟩:=B
  dsimp only at *
  generalize setW (putW w S1).1 { p with bag:=B1 } = V at *
  by_cases hs0 : S2 = 0
  ·rw [if_neg (not_not_intro hs0)]
   by_cases hb0 : 0 < B2
   ·rw [if_pos hb0,okA_err (by decide)]
    refine aF Tryz.func158 211 ?_
    exact fA0
   ·rw [if_neg hb0,okA_ok]
    refine aF Tryz.func158 211 ?_
    exact fA0
  ·rw [if_pos hs0,okA_err hs0]
   refine aF Tryz.func158 211 ?_
   exact fA0
open Go Go.RowKit Eng
theorem any_take {f : Player → Bool} {l : List Player} {k : Nat} (h : k < l.length) : (l.take (k + 1)).any f = ((l.take k).any f || f (elt .player l k)):=by
 rw [List.take_add_one,elt_get .player l k h,List.any_append]
 simp
theorem set_free {K : Chunk} (hK : rightB K = true) {I i : Int} (hI : 0 ≤ I ∧ I < 64) (h0 : cellA K I = 0) (hi : blockB i = true) : (setC K I i).2 = 0:=by
 rw [setC_right hK hI.1 hI.2,if_neg (by simp [itemOk,hi])]
 have hn : getB K.boxes I = none:=by
  have h:=chest_iff hK hI.1 hI.2
  cases hg : getB K.boxes I with
  | none=>rfl
  | some s =>
   rw [hg] at h
   have:=h.2 rfl
   rw [show elt .u8 K.cells I.toNat = cellA K I from rfl,h0] at this
   cases this
 rw [if_neg (by unfold fullAt;rw [hn];simp)]
theorem r16place_api (w : Wld) (p : Player) (c : Cmd) (h : Here w p) (hA : aimE w p c.a c.b = 0) (hd : c.dol = 4) : Api Tryz.prog 158 [wldV w,playerV p,cmdV c] (.tup [wldV (okA w (placeA w p c)).1,i64 (okA w (placeA w p c)).2]):=by
 have hw:=okW_rw h.rw
 have hnp:=hw.np
 obtain ⟨hS,hI0⟩:=h.sound
 have hP:=okP_sound hS
 obtain ⟨_,_,hPl,hPb,_⟩:=sound_parts hS
 have hin:=(aim_in hA).1
 have hab:=(within_iff h.rw).1 hin
 have hsz:=h.rw.size
 have hch:=r16chunk_api w c.a c.b hw (by omega) (by omega)
 unfold placeA
 rw [if_neg (not_not_intro hA)]
 obtain ⟨hK,hKx,hKy⟩:=place_right h.rw hin
 have hI:=placeI_bd c.a c.b
 have hmx:=fun {k : Chunk} (hx : k.x = (placeC w c.a c.b).x) (hy : k.y = (placeC w c.a c.b).y)=>here_max h hin hx hy
 generalize placeC w c.a c.b = K at *
 generalize placeI c.a c.b = I at *
 have hlen:=cell_len hK
 have hbx:=r11box_api K I (okC_right hK) (fitC_right hK)
 have htk:=refTake_api p.bag c.c 1 (by omega) hP.bag
 have hT1:=takeS_ok (a:=c.c) (n:=1) hP.bag
 have hTn:=takeS_n (l:=p.bag) (a:=c.c) (n:=1)
 have hTl:=takeS_len p.bag c.c 1
 have hE : elt .u8 K.cells (I.toNat) = cellA K I:=rfl
 have hbl:=r08block_api (takeS p.bag c.c 1).2.1.item hT1.1.1 hT1.1.2
 generalize boxC K I = X at *
 obtain ⟨X1,X2⟩:=X
 dsimp only at *
 by_cases h1 : (takeS p.bag c.c 1).2.2 = 0
 ·rw [if_neg (not_not_intro h1)]
  obtain ⟨n1,n2,n3,n4,n5,n6,n7,n8⟩:=hTn h1
  have hb2 : bagOk (takeS p.bag c.c 1).1 = true:=by rw [n8];exact take_bagOk n4 (by omega) n2 n7
  rw [h1] at htk
  have hst:=r11set_api K I (takeS p.bag c.c 1).2.1.item (okC_right hK) (fitC_right hK) hT1.1.1 hT1.1.2
  have hsr:=right_setC hK (t:=I) (i:=(takeS p.bag c.c 1).2.1.item) hI.1 hI.2
  have hxy:=setC_xy K I (takeS p.bag c.c 1).2.1.item
  have hsf:=fun h0 hi=>set_free (i:=(takeS p.bag c.c 1).2.1.item) hK hI h0 hi
  have hmk:=hmx (k:=(setC K I (takeS p.bag c.c 1).2.1.item).1) hxy.1 hxy.2
  have hput:=r16put_api w (setC K I (takeS p.bag c.c 1).2.1.item).1 { p with bag:=(takeS p.bag c.c 1).1 } hw (okC_right hsr) (fitC_right hsr) (okP_bag hP hT1.2 (by omega))
  have hkp:=here_keep h (p':={ p with bag:=(takeS p.bag c.c 1).1 }) rfl (soundB_bag hS (by omega) hb2) hI0 hsr hmk
  rw [hkp]
  clear hkp hmx hxy hsr hmk n8 hb2
  generalize setC K I (takeS p.bag c.c 1).2.1.item = S at *
  generalize takeS p.bag c.c 1 = T at *
  obtain ⟨S1,S2⟩:=S
  obtain ⟨T1,T2,T3⟩:=T
  dsimp only at *
  generalize setW (putW w S1).1 { p with bag:=T1 } = V at *
  cases hB : blockB T2.item with
  | false =>
   rw [hB] at hbl
   rw [if_pos rfl,okA_err (by decide)]
   refine aF Tryz.func158 211 ?_
   exact fA0
  | true =>
   rw [hB] at hbl
   rw [if_neg (by simp)]
   have hno : cellA K I = 0 → S2 = 0:=fun h0=>hsf h0 hB
   have hres : (if ¬ cellA K I = 0 ∨ w.players.any (standsB c) = true then (w,(107 : Int)) else if ¬ S2 = 0 then (w,S2) else (V.1,0)) = if (decide (cellA K I = 0) && !(w.players.any (standsB c))) = true then (V.1,0) else (w,107):=by
    by_cases h0 : cellA K I = 0
    ·cases hA2 : w.players.any (standsB c)
     ·rw [if_neg (by simp [h0]),if_neg (by simp [hno h0]),if_pos (by simp [h0])]
     ·rw [if_pos (.inr rfl),if_neg (by simp)]
    ·rw [if_pos (.inl h0),if_neg (by simp [h0])]
   rw [hres]
   clear hres
   refine aF Tryz.func158 211 ?_
   conv=>whnf
   repeat' (first|exact trivial|((first|(refine ⟨fun hb=>?_,fun hb=>?_⟩<;>(try simp only [nrm] at hb)<;>try exact kZ hb)|refine kV ?_)<;>(conv=>whnf))|refine kY ?_ ?_)
   refine Runs.loopS cfg_ok (σ:=Nat × Bool) [3,4,5,6,8,9,17,18,20,21] (fun (k,b)=>[.ptr 6 0,.ptr 8 0,.ptr 10 0,.ptr 12 0,.ptr 16 0,i64 I,.vec .slot T1,.ptr 36 0,bol b,i64 k])
    (fun _=>[(6,.box (wldC w)),(8,.box (playerC p)),(10,.box (cmdC c)),(12,.box zeroW13),(16,.box (chunkC K)),(36,.box [.lit (.int .u8 T2.item),.lit (.int .i64 T2.n)])])
    (fun (k,b)=>k ≤ w.players.length ∧ b = (decide (cellA K I = 0) && !((w.players.take k).any (standsB c)))) (fun (k,_)=>w.players.length - k) (0,decide (cellA K I = 0)) ⟨by omega,by simp⟩ ?_ ?_
   ·conv=>whnf
    repeat' (first|exact trivial|((first|(refine ⟨fun hb=>?_,fun hb=>?_⟩<;>(try simp only [nrm] at hb)<;>try exact kZ hb)|refine kV ?_)<;>(conv=>whnf))|refine kY ?_ ?_)
    all_goals first|rfl|(refine congrArg Value.bool ?_;rw [Bool.eq_iff_iff];simp;done)|trace_state
   ·rintro ⟨k,b⟩ ⟨hk,hv⟩
    try dsimp only at hk hv
    by_cases hlt : k < w.players.length
    ·have q0 : (elt .player w.players (k : Int).toNat).x = (elt .player w.players k).x:=rfl
     have q1 : (elt .player w.players (k : Int).toNat).y = (elt .player w.players k).y:=rfl
     have hn:=any_take (f:=standsB c) hlt
     have hsd : standsB c (elt .player w.players k) = (decide ((elt .player w.players k).x = c.a) && decide ((elt .player w.players k).y = c.b)):=rfl
     cases b with
     | false =>
      have hf2 : false = (decide (cellA K I = 0) && !((w.players.take (k + 1)).any (standsB c))):=by
       rw [hn]
       cases hd0 : decide (cellA K I = 0)
       ·rfl
       ·rw [hd0,Bool.true_and] at hv
        cases hf : (w.players.take k).any (standsB c)
        ·rw [hf] at hv;cases hv
        ·rfl
      conv=>whnf
      repeat' (first|exact trivial|((first|(refine ⟨fun hb=>?_,fun hb=>?_⟩<;>(try simp only [nrm] at hb)<;>try exact kZ hb)|refine kV ?_)<;>(conv=>whnf))|refine kY ?_ ?_)
      refine .to (k + 1,false) ⟨hlt,hf2⟩ (by first|omega|(dsimp only;omega)) ?_
      exact fD0
     | true =>
      have hb2 : decide (cellA K I = 0) = true ∧ (w.players.take k).any (standsB c) = false:=by simpa using hv.symm
      by_cases e1 : (elt .player w.players k).x = c.a ∧ (elt .player w.players k).y = c.b
      ·obtain ⟨e1,e2⟩:=e1
       conv=>whnf
       repeat' (first|exact trivial|((first|(refine ⟨fun hb=>?_,fun hb=>?_⟩<;>(try simp only [nrm] at hb)<;>try exact kZ hb)|refine kV ?_)<;>(conv=>whnf))|refine kY ?_ ?_)
       refine .to (k + 1,false) ⟨hlt,by (try dsimp only);rw [hn,hsd,e1,e2];simp⟩ (by first|omega|(dsimp only;omega)) ?_
       conv=>whnf
       repeat' (first|exact trivial|((first|(refine ⟨fun hb=>?_,fun hb=>?_⟩<;>(try simp only [nrm] at hb)<;>try exact kZ hb)|refine kV ?_)<;>(conv=>whnf))|refine kY ?_ ?_)
       all_goals first|rfl|(refine congrArg Value.bool ?_;rw [q1,e2];simp;done)|trace_state
      ·have e2 : (elt .player w.players k).x = c.a → ¬ (elt .player w.players k).y = c.b:=fun h1 h2=>e1 ⟨h1,h2⟩
       conv=>whnf
       repeat' (first|exact trivial|((first|(refine ⟨fun hb=>?_,fun hb=>?_⟩<;>(try simp only [nrm] at hb)<;>try exact kZ hb)|refine kV ?_)<;>(conv=>whnf))|refine kY ?_ ?_)
       all_goals
        refine .to (k + 1,true) ⟨hlt,by (try dsimp only);rw [hn,hsd,hb2.1,hb2.2];simp;omega⟩ (by first|omega|(dsimp only;omega)) ?_
        conv=>whnf
        repeat' (first|exact trivial|((first|(refine ⟨fun hb=>?_,fun hb=>?_⟩<;>(try simp only [nrm] at hb)<;>try exact kZ hb)|refine kV ?_)<;>(conv=>whnf))|refine kY ?_ ?_)
        all_goals first|rfl|(refine congrArg Value.bool ?_;rw [q1];simp;omega)|trace_state
    ·obtain rfl : k = w.players.length:=by omega
     rw [List.take_length] at hv
     rw [← hv]
     cases b with
     | false =>
      rw [if_neg (by simp),okA_err (by decide)]
      exact fD0
     | true =>
      rw [if_pos rfl,okA_ok]
      exact fD0
 ·rw [if_pos h1,okA_err h1]
  generalize takeS p.bag c.c 1 = T at *
  obtain ⟨T1,T2,T3⟩:=T
  dsimp only at *
  refine aF Tryz.func158 211 ?_
  exact fA0
theorem r16take_api (w : Wld) (p : Player) (h : Here w p) : Api Tryz.prog 159 [wldV w,playerV p] (.tup [wldV (okA w (takeA w p)).1,i64 (okA w (takeA w p)).2]):=by
 have hw:=okW_rw h.rw
 obtain ⟨hS,hI0⟩:=h.sound
 have hP:=okP_sound hS
 obtain ⟨_,_,hPl,hPb,_⟩:=sound_parts hS
 have hab:=(within_iff h.rw).1 hI0
 have hsz:=h.rw.size
 have hch:=r16chunk_api w p.x p.y hw (by omega) (by omega)
 unfold takeA
 dsimp only
 obtain ⟨hK,hKx,hKy⟩:=place_right h.rw hI0
 have hI:=placeI_bd p.x p.y
 have hmx:=fun {k : Chunk} (hx : k.x = (placeC w p.x p.y).x) (hy : k.y = (placeC w p.x p.y).y)=>here_max h hI0 hx hy
 generalize placeC w p.x p.y = K at *
 generalize placeI p.x p.y = I at *
 have hli:=r11lift_api K I (okC_right hK) (fitC_right hK)
 have hL:=lift_right hK I
 have hh:=lift_heaps hK I
 have hlx:=liftC_xy K I
 generalize liftC K I = G at *
 obtain ⟨K0,L⟩:=G
 dsimp only at *
 have hLl : L.length ≤ 32:=by omega
 by_cases h0 : L.length = 0
 ·rw [if_pos h0,okA_err (by decide)]
  refine aF Tryz.func159 88 ?_
  exact fA0
 ·rw [if_neg h0]
  obtain ⟨i1,i2,i3,i4,i5,_⟩:=pick_law I hI L K0 p.bag false hL.1 hPb hL.2 hh
  have hmk:=hmx (k:=(pickA I L (K0,p.bag,false)).1) (i4.trans hlx.1) (i5.trans hlx.2)
  have hput:=r16put_api w (pickA I L (K0,p.bag,false)).1 { p with bag:=(pickA I L (K0,p.bag,false)).2.1 } hw (okC_right i1) (fitC_right i1) (okP_bag hP (bagOk_okSlot i2) (by omega))
  have hkp:=here_keep h (p':={ p with bag:=(pickA I L (K0,p.bag,false)).2.1 }) rfl (soundB_bag hS (by omega) i2) hI0 i1 hmk
  rw [hkp]
  clear hkp hmx hmk
  generalize hV : (setW (putW w (pickA I L (K0,p.bag,false)).1).1 { p with bag:=(pickA I L (K0,p.bag,false)).2.1 }).1 = V at *
  clear hV
  refine aF Tryz.func159 88 ?_
  conv=>whnf
  repeat' (first|exact trivial|((first|(refine ⟨fun hb=>?_,fun hb=>?_⟩<;>(try simp only [nrm] at hb)<;>try exact kZ hb)|refine kV ?_)<;>(conv=>whnf))|refine kY ?_ ?_)
  refine Runs.loopS cfg_ok (σ:=Nat) [2,3,4,6,7,8,9,10] (fun k=>[.ptr 4 0,.ptr 6 0,.ptr 8 0,.ptr 12 0,i64 I,.vec .slot L,bol (pickA I (L.take k) (K0,p.bag,false)).2.2,i64 k])
   (fun k=>[(4,.box (wldC w)),(6,.box (playerC { p with bag:=(pickA I (L.take k) (K0,p.bag,false)).2.1 })),(8,.box zeroW13),(12,.box (chunkC (pickA I (L.take k) (K0,p.bag,false)).1))]) (fun k=>k ≤ L.length) (fun k=>L.length - k) 0 (by omega) ?_ ?_
  ·exact fD0
  ·intro k hk
   by_cases hlt : k < L.length
   ·have hsl:=hL.2 _ (elt_mem (t:=.slot) hlt)
    obtain ⟨hs1,hs2,hs3⟩:=someB_ok hsl
    have q0 : (elt .slot L (k : Int).toNat).n = (elt .slot L k).n:=rfl
    obtain ⟨j1,j2,j3,_,_,_⟩:=pick_law I hI (L.take k) K0 p.bag false hL.1 hPb (fun s hs=>hL.2 s (List.mem_of_mem_take hs)) (by rw [List.length_take];omega)
    obtain ⟨⟨A1,A2,A3⟩,hA⟩ : ∃ A,A = pickA I (L.take k) (K0,p.bag,false):=⟨_,rfl⟩
    have hN:=pickA_next hlt hA.symm
    rw [← hA] at j1 j2 j3 ⊢
    dsimp only at j1 j2 j3 ⊢
    clear hA
    have hpu:=refPut_api A2 (elt .slot L k).item (elt .slot L k).n (by omega) (bagOk_okSlot j2) hs1.1 hs1.2 (by omega) (by omega)
    have hle:=putS_left (l:=A2) (i:=(elt .slot L k).item) (n:=(elt .slot L k).n) (by omega)
    generalize putS A2 (elt .slot L k).item (elt .slot L k).n = Q at *
    obtain ⟨Q1,Q2⟩:=Q
    dsimp only at *
    have hdr:=r11drop_api A1 I ⟨(elt .slot L k).item,Q2⟩ (okC_right j1) (fitC_right j1) hs1
    generalize dropC A1 I ⟨(elt .slot L k).item,Q2⟩ = D at *
    obtain ⟨D1,D2⟩:=D
    dsimp only at *
    by_cases hq : 0 < Q2
    ·rw [if_pos hq] at hN
     cases A3
     all_goals
      conv=>whnf
      repeat' (first|exact trivial|((first|(refine ⟨fun hb=>?_,fun hb=>?_⟩<;>(try simp only [nrm] at hb)<;>try exact kZ hb)|refine kV ?_)<;>(conv=>whnf))|refine kY ?_ ?_)
      all_goals
       refine .to (k + 1) hlt (by omega) ?_
       rw [hN]
       conv=>whnf
       repeat' (first|exact trivial|((first|(refine ⟨fun hb=>?_,fun hb=>?_⟩<;>(try simp only [nrm] at hb)<;>try exact kZ hb)|refine kV ?_)<;>(conv=>whnf))|refine kY ?_ ?_)
       all_goals first|rfl|(refine congrArg Value.bool ?_;simp_all;done)|(refine congrArg Value.bool ?_;simp_all;omega)|trace_state
    ·rw [if_neg hq] at hN
     cases A3
     all_goals
      conv=>whnf
      repeat' (first|exact trivial|((first|(refine ⟨fun hb=>?_,fun hb=>?_⟩<;>(try simp only [nrm] at hb)<;>try exact kZ hb)|refine kV ?_)<;>(conv=>whnf))|refine kY ?_ ?_)
      all_goals
       refine .to (k + 1) hlt (by omega) ?_
       rw [hN]
       conv=>whnf
       repeat' (first|exact trivial|((first|(refine ⟨fun hb=>?_,fun hb=>?_⟩<;>(try simp only [nrm] at hb)<;>try exact kZ hb)|refine kV ?_)<;>(conv=>whnf))|refine kY ?_ ?_)
       all_goals first|rfl|(refine congrArg Value.bool ?_;simp_all;done)|(refine congrArg Value.bool ?_;simp_all;omega)|trace_state
   ·obtain rfl : k = L.length:=by omega
    rw [List.take_length]
    generalize pickA I L (K0,p.bag,false) = R at *
    obtain ⟨R1,R2,R3⟩:=R
    dsimp only at *
    cases R3 with
    | false =>
     rw [if_pos rfl,okA_err (by decide)]
     exact fD0
    | true =>
     rw [if_neg (by simp),okA_ok]
     exact fD0
theorem r16store_api (w : Wld) (p : Player) (c : Cmd) (h : Here w p) (hA : aimE w p c.a c.b = 0) (hd : c.dol = 7 ∨ c.dol = 8) : Api Tryz.prog 158 [wldV w,playerV p,cmdV c] (.tup [wldV (okA w (storeA w p c)).1,i64 (okA w (storeA w p c)).2]):=by
 have hw:=okW_rw h.rw
 obtain ⟨hS,hI0⟩:=h.sound
 have hP:=okP_sound hS
 obtain ⟨_,_,hPl,hPb,_⟩:=sound_parts hS
 have hin:=(aim_in hA).1
 have hab:=(within_iff h.rw).1 hin
 have hsz:=h.rw.size
 have hch:=r16chunk_api w c.a c.b hw (by omega) (by omega)
 unfold storeA
 rw [if_neg (not_not_intro hA)]
 obtain ⟨hK,hKx,hKy⟩:=place_right h.rw hin
 have hI:=placeI_bd c.a c.b
 have hmx:=fun {k : Chunk} (hx : k.x = (placeC w c.a c.b).x) (hy : k.y = (placeC w c.a c.b).y)=>here_max h hin hx hy
 generalize placeC w c.a c.b = K at *
 generalize placeI c.a c.b = I at *
 have hlen:=cell_len hK
 have hbx:=r11box_api K I (okC_right hK) (fitC_right hK)
 cases hB : (boxC K I).2 with
 | false =>
  rw [if_pos rfl,okA_err (by decide)]
  rw [hB] at hbx
  generalize (boxC K I).1 = X at *
  refine aF Tryz.func158 211 ?_
  exact fA0
 | true =>
  rw [if_neg (by simp)]
  rw [hB] at hbx
  obtain ⟨hx1,hx2⟩:=box_right hK hB
  have hx3:=bagOk_okSlot hx2
  have hgB : (getB K.boxes I).isSome = true:=by have e:=boxC_get hK I;rw [e] at hB;exact hB
  have hff : ∀ l : List Slot,l.length = 6 → bagOk l = true → (fillC K I l).2 = 0:=fun l h6 hb=>by
   rw [fillC_right hK,if_neg (by rw [hgB];simp),if_neg (by unfold bagR;rw [hb,decide_eq_true (by omega)];simp)]
  generalize (boxC K I).1 = X at *
  dsimp only
  rcases hd with hd|hd
  ·rw [if_pos hd,if_pos hd,if_pos hd]
   have htk:=refTake_api p.bag c.c c.n (by omega) hP.bag
   have hT:=takeS_ok (a:=c.c) (n:=c.n) hP.bag
   have hTn:=takeS_n (l:=p.bag) (a:=c.c) (n:=c.n)
   have hTl:=takeS_len p.bag c.c c.n
   unfold movedA
   by_cases h1 : (takeS p.bag c.c c.n).2.2 = 0
   ·rw [if_neg (not_not_intro h1)]
    obtain ⟨n1,n2,n3,n4,n5,n6,n7,n8⟩:=hTn h1
    have hb2 : bagOk (takeS p.bag c.c c.n).1 = true:=by rw [n8];exact take_bagOk n4 (by omega) n2 n7
    have hpu:=refPut_api X (takeS p.bag c.c c.n).2.1.item (takeS p.bag c.c c.n).2.1.n (by omega) hx3 hT.1.1 hT.1.2 (by omega) (by omega)
    have hpl:=putS_length X (takeS p.bag c.c c.n).2.1.item (takeS p.bag c.c c.n).2.1.n
    have hpb:=putS_bagOk (i:=(takeS p.bag c.c c.n).2.1.item) (n:=(takeS p.bag c.c c.n).2.1.n) hx2
    rw [h1] at htk
    clear n8
    generalize putS X (takeS p.bag c.c c.n).2.1.item (takeS p.bag c.c c.n).2.1.n = B at *
    generalize takeS p.bag c.c c.n = T at *
    obtain ⟨T1,T2,T3⟩:=T
    obtain ⟨B1,B2⟩:=B
    dsimp only at *
    by_cases h2 : 0 < B2
    ·rw [if_pos h2,if_pos (by decide),okA_err (by decide)]
     refine aF Tryz.func158 211 ?_
     exact fA0
    ·rw [if_neg h2,if_neg (by simp)]
     have hff1:=hff B1 (by omega) hpb
     rw [if_neg (not_not_intro hff1)]
     have hfi:=r11fill_api K I B1 (okC_right hK) (fitC_right hK) (by omega) (bagOk_okSlot hpb)
     have hK1:=fill_right hK I B1
     have hxy:=fillC_xy K I B1
     have hmk:=hmx (k:=(fillC K I B1).1) hxy.1 hxy.2
     have hput:=r16put_api w (fillC K I B1).1 { p with bag:=T1 } hw (okC_right hK1) (fitC_right hK1) (okP_bag hP (bagOk_okSlot hb2) (by omega))
     have hkp:=here_keep h (p':={ p with bag:=T1 }) rfl (soundB_bag hS (by omega) hb2) hI0 hK1 hmk
     dsimp only
     rw [hkp,okA_ok]
     generalize fillC K I B1 = S at *
     generalize (setW (putW w S.1).1 { p with bag:=T1 }).1 = V at *
     obtain ⟨S1,S2⟩:=S
     dsimp only at *
     refine aF Tryz.func158 211 ?_
     exact fA0
   ·rw [if_pos h1,if_pos h1,okA_err h1]
    generalize takeS p.bag c.c c.n = T at *
    obtain ⟨T1,T2,T3⟩:=T
    dsimp only at *
    refine aF Tryz.func158 211 ?_
    exact fA0
  ·have hd7 : ¬ c.dol = 7:=by omega
   rw [if_neg hd7,if_neg hd7,if_neg hd7]
   have htk:=refTake_api X c.c c.n (by omega) hx3
   have hT:=takeS_ok (a:=c.c) (n:=c.n) hx3
   have hTn:=takeS_n (l:=X) (a:=c.c) (n:=c.n)
   have hTl:=takeS_len X c.c c.n
   unfold movedA
   by_cases h1 : (takeS X c.c c.n).2.2 = 0
   ·rw [if_neg (not_not_intro h1)]
    obtain ⟨n1,n2,n3,n4,n5,n6,n7,n8⟩:=hTn h1
    have hb2 : bagOk (takeS X c.c c.n).1 = true:=by rw [n8];exact take_bagOk n4 (by omega) n2 n7
    have hpu:=refPut_api p.bag (takeS X c.c c.n).2.1.item (takeS X c.c c.n).2.1.n (by omega) hP.bag hT.1.1 hT.1.2 (by omega) (by omega)
    have hpl:=putS_length p.bag (takeS X c.c c.n).2.1.item (takeS X c.c c.n).2.1.n
    have hpb:=putS_bagOk (i:=(takeS X c.c c.n).2.1.item) (n:=(takeS X c.c c.n).2.1.n) hPb
    rw [h1] at htk
    clear n8
    generalize putS p.bag (takeS X c.c c.n).2.1.item (takeS X c.c c.n).2.1.n = B at *
    generalize takeS X c.c c.n = T at *
    obtain ⟨T1,T2,T3⟩:=T
    obtain ⟨B1,B2⟩:=B
    dsimp only at *
    by_cases h2 : 0 < B2
    ·rw [if_pos h2,if_pos (by decide),okA_err (by decide)]
     refine aF Tryz.func158 211 ?_
     exact fA0
    ·rw [if_neg h2,if_neg (by simp)]
     have hff1:=hff T1 (by omega) hb2
     rw [if_neg (not_not_intro hff1)]
     have hfi:=r11fill_api K I T1 (okC_right hK) (fitC_right hK) (by omega) (bagOk_okSlot hb2)
     have hK1:=fill_right hK I T1
     have hxy:=fillC_xy K I T1
     have hmk:=hmx (k:=(fillC K I T1).1) hxy.1 hxy.2
     have hput:=r16put_api w (fillC K I T1).1 { p with bag:=B1 } hw (okC_right hK1) (fitC_right hK1) (okP_bag hP (bagOk_okSlot hpb) (by omega))
     have hkp:=here_keep h (p':={ p with bag:=B1 }) rfl (soundB_bag hS (by omega) hpb) hI0 hK1 hmk
     dsimp only
     rw [hkp,okA_ok]
     generalize fillC K I T1 = S at *
     generalize (setW (putW w S.1).1 { p with bag:=B1 }).1 = V at *
     obtain ⟨S1,S2⟩:=S
     dsimp only at *
     refine aF Tryz.func158 211 ?_
     exact fA0
   ·rw [if_pos h1,if_pos h1,okA_err h1]
    generalize takeS X c.c c.n = T at *
    obtain ⟨T1,T2,T3⟩:=T
    dsimp only at *
    refine aF Tryz.func158 211 ?_
    exact fA0
open Go Go.RowKit Eng
theorem offer_ids (p q : Player) (a n : Int) : (offerP p q a n).1.id = p.id ∧ (offerP p q a n).2.1.id = q.id:=by
 unfold offerP;(repeat' split)<;>exact ⟨rfl,rfl⟩
theorem agree_ids (p q : Player) : (agreeP p q).1.id = p.id ∧ (agreeP p q).2.1.id = q.id:=by
 unfold agreeP;(repeat' split)<;>exact ⟨rfl,rfl⟩
theorem cancel_ids (p q : Player) : (cancelP p q).1.id = p.id ∧ (cancelP p q).2.1.id = q.id:=by
 unfold cancelP;(repeat' split)<;>exact ⟨rfl,rfl⟩
theorem here_after {w : Wld} {p q : Player} (hp : Here w p) (hq : setOk w q) (hne : ¬ p.id = q.id) : Here (withP w (setL w.players q)) p:=
 ⟨rw_set hq,by show getK pid (setL w.players q) p.id = some p;rw [getK_setL hp.rw.rp,if_neg hne];exact hp.get⟩
theorem deal_sets {w : Wld} {p q a b : Player} (hp : Here w p) (hq : Here w q) (hne : ¬ p.id = q.id) (ha : a.id = p.id) (hb : b.id = q.id) (sa : mayB a = true) (sb : mayB b = true) (ax : a.x = p.x ∧ a.y = p.y) (bx : b.x = q.x ∧ b.y = q.y) :
  (setW w b).2 = 0 ∧ (setW (setW w b).1 a).2 = 0 ∧ (setW (setW w a).1 b).1 = (setW (setW w b).1 a).1:=by
 have s1 : soundB a = true:=(Bool.and_eq_true _ _ ▸ sa).1
 have s2 : soundB b = true:=(Bool.and_eq_true _ _ ▸ sb).1
 have oa : setOk w a:=⟨hp.rw,s1,by rw [ax.1,ax.2];exact hp.sound.2,.inl (by rw [ha,hp.get];rfl)⟩
 have ob : setOk w b:=⟨hp.rw,s2,by rw [bx.1,bx.2];exact hq.sound.2,.inl (by rw [hb,hq.get];rfl)⟩
 have hp2:=here_after hp ob (by rw [hb];exact hne)
 have hq2:=here_after hq oa (by rw [ha];exact fun e=>hne e.symm)
 have e1:=set_eq oa
 have e2:=set_eq ob
 have e3:=here_set hp2 ha s1 (by rw [ax.1,ax.2];exact hp.sound.2)
 have e4:=here_set hq2 hb s2 (by rw [bx.1,bx.2];exact hq.sound.2)
 rw [e1,e2]
 dsimp only
 rw [e3,e4]
 refine ⟨rfl,rfl,?_⟩
 have:=set_comm hp.rw (p:=a) (q:=b) (by rw [ha,hb];exact hne)
 dsimp only [withP]
 rw [this]
theorem here_q {w : Wld} (hR : RW w) {id : Int} (h : (playerW w id).2 = true) : Here w (playerW w id).1:=(here_of hR h).1
theorem r16offer_api (w : Wld) (p : Player) (c : Cmd) (h : Here w p) (hd : c.dol = 11) : Api Tryz.prog 166 [wldV w,playerV p,cmdV c] (.tup [wldV (okA w (dealA w p c)).1,i64 (okA w (dealA w p c)).2]):=by
 have hw:=okW_rw h.rw
 obtain ⟨hS,hI0⟩:=h.sound
 have hP:=okP_sound hS
 have hpm:=mayB_in h.rw hS hI0
 have hxy:=(within_iff h.rw).1 hI0
 have hs:=h.rw.size
 obtain ⟨d,ca,cb,cc,cn⟩:=c
 dsimp only at hd
 subst hd
 have hpl:=r13player_api w ca hw
 unfold dealA
 dsimp only
 rw [if_pos rfl,if_pos rfl,if_pos rfl]
 cases hB : (playerW w ca).2 with
 | false =>
  rw [hB] at hpl
  rw [if_pos rfl,okA_err (by decide)]
  generalize (playerW w ca).1 = q at *
  refine aF Tryz.func166 89 ?_
  exact fA0
 | true =>
  rw [hB] at hpl
  rw [if_neg (by simp)]
  have hqh:=here_q h.rw hB
  generalize (playerW w ca).1 = q at *
  have hqs:=hqh.sound
  have hqy:=(within_iff h.rw).1 hqs.2
  have hqM:=mayB_in h.rw hqs.1 hqs.2
  have hne:=r16near_api p q.x q.y (by omega) (by omega) (by omega) (by omega)
  have hcl:=roffer_api p q cc cn hP (okP_of hqM)
  have hmm:=offer_may hpm hqM cc cn
  have hid:=offer_ids p q cc cn
  have hpp:=offer_xy p q cc cn
  have hsm:=fun e : p.id = q.id=>offer_same e cc cn
  cases hN : nearP p q.x q.y with
  | false =>
   rw [hN] at hne
   rw [if_pos ⟨by decide,rfl⟩,okA_err (by decide)]
   refine aF Tryz.func166 89 ?_
   exact fA0
  | true =>
   rw [hN] at hne
   rw [if_neg (fun h=>by cases h.2)]
   by_cases hid0 : p.id = q.id
   ·rw [hsm hid0] at hcl ⊢
    dsimp only at *
    rw [if_pos (by decide),okA_err (by decide)]
    refine aF Tryz.func166 89 ?_
    exact fA0
   ·obtain ⟨d1,d2,d3⟩:=deal_sets h hqh hid0 hid.1 hid.2 hmm.1 hmm.2 ⟨hpp.1,hpp.2.1⟩ ⟨hpp.2.2.1,hpp.2.2.2⟩
    have oa:=okP_of hmm.1
    have ob:=okP_of hmm.2
    clear hsm hpp hid hmm
    generalize offerP p q cc cn = T at *
    obtain ⟨T1,T2,T3⟩:=T
    dsimp only at *
    have hs1:=r13set_api w T1 hw oa
    have hs2:=r13set_api (setW w T1).1 T2 (okW_set hw oa) ob
    rw [d3] at hs2
    by_cases ht : T3 = 0
    ·subst ht
     rw [if_neg (not_not_intro rfl),if_neg (not_not_intro d1)]
     have e : okA w (setW (setW w T2).1 T1) = ((setW (setW w T2).1 T1).1,0):=by unfold okA;rw [if_pos d2]
     rw [e]
     clear e d1 d2 d3
     generalize setW (setW w T2).1 T1 = V at *
     generalize setW (setW w T1).1 T2 = V2 at *
     generalize setW w T1 = U at *
     refine aF Tryz.func166 89 ?_
     exact fA0
    ·rw [if_pos ht,okA_err ht]
     refine aF Tryz.func166 89 ?_
     exact fA0
theorem r16agree_api (w : Wld) (p : Player) (c : Cmd) (h : Here w p) (hd : c.dol = 12) : Api Tryz.prog 166 [wldV w,playerV p,cmdV c] (.tup [wldV (okA w (dealA w p c)).1,i64 (okA w (dealA w p c)).2]):=by
 have hw:=okW_rw h.rw
 obtain ⟨hS,hI0⟩:=h.sound
 have hP:=okP_sound hS
 have hpm:=mayB_in h.rw hS hI0
 have hxy:=(within_iff h.rw).1 hI0
 have hs:=h.rw.size
 obtain ⟨d,ca,cb,cc,cn⟩:=c
 dsimp only at hd
 subst hd
 have hpl:=r13player_api w p.wth hw
 unfold dealA
 dsimp only
 simp only [Int.reduceEq,reduceIte,not_false_eq_true,not_true_eq_false,true_and,false_and]
 cases hB : (playerW w p.wth).2 with
 | false =>
  rw [hB] at hpl
  rw [if_pos rfl,okA_err (by decide)]
  generalize (playerW w p.wth).1 = q at *
  refine aF Tryz.func166 89 ?_
  exact fA0
 | true =>
  rw [hB] at hpl
  rw [if_neg (by simp)]
  have hqh:=here_q h.rw hB
  generalize (playerW w p.wth).1 = q at *
  have hqs:=hqh.sound
  have hqy:=(within_iff h.rw).1 hqs.2
  have hqM:=mayB_in h.rw hqs.1 hqs.2
  have hne:=r16near_api p q.x q.y (by omega) (by omega) (by omega) (by omega)
  have hcl:=ragree_api p q hP (okP_of hqM)
  have hmm:=agree_may hpm hqM
  have hid:=agree_ids p q
  have hpp:=agree_xy p q
  have hsm:=fun e : p.id = q.id=>agree_same e
  cases hN : nearP p q.x q.y with
  | false =>
   rw [hN] at hne
   rw [if_pos rfl,okA_err (by decide)]
   refine aF Tryz.func166 89 ?_
   exact fA0
  | true =>
   rw [hN] at hne
   rw [if_neg (by simp)]
   by_cases hid0 : p.id = q.id
   ·rw [hsm hid0] at hcl ⊢
    dsimp only at *
    rw [if_pos (by decide),okA_err (by decide)]
    refine aF Tryz.func166 89 ?_
    exact fA0
   ·obtain ⟨d1,d2,d3⟩:=deal_sets h hqh hid0 hid.1 hid.2 hmm.1 hmm.2 ⟨hpp.1,hpp.2.1⟩ ⟨hpp.2.2.1,hpp.2.2.2⟩
    have oa:=okP_of hmm.1
    have ob:=okP_of hmm.2
    clear hsm hpp hid hmm
    generalize agreeP p q = T at *
    obtain ⟨T1,T2,T4,T3⟩:=T
    dsimp only at *
    have hs1:=r13set_api w T1 hw oa
    have hs2:=r13set_api (setW w T1).1 T2 (okW_set hw oa) ob
    rw [d3] at hs2
    by_cases ht : T3 = 0
    ·subst ht
     rw [if_neg (not_not_intro rfl),if_neg (not_not_intro d1)]
     have e : okA w (setW (setW w T2).1 T1) = ((setW (setW w T2).1 T1).1,0):=by unfold okA;rw [if_pos d2]
     rw [e]
     clear e d1 d2 d3
     generalize setW (setW w T2).1 T1 = V at *
     generalize setW (setW w T1).1 T2 = V2 at *
     generalize setW w T1 = U at *
     refine aF Tryz.func166 89 ?_
     exact fA0
    ·rw [if_pos ht,okA_err ht]
     refine aF Tryz.func166 89 ?_
     exact fA0
theorem r16cancel_api (w : Wld) (p : Player) (c : Cmd) (h : Here w p) (hd : c.dol = 13) : Api Tryz.prog 166 [wldV w,playerV p,cmdV c] (.tup [wldV (okA w (dealA w p c)).1,i64 (okA w (dealA w p c)).2]):=by
 have hw:=okW_rw h.rw
 obtain ⟨hS,hI0⟩:=h.sound
 have hP:=okP_sound hS
 have hpm:=mayB_in h.rw hS hI0
 have hxy:=(within_iff h.rw).1 hI0
 have hs:=h.rw.size
 obtain ⟨d,ca,cb,cc,cn⟩:=c
 dsimp only at hd
 subst hd
 have hpl:=r13player_api w p.wth hw
 unfold dealA
 dsimp only
 simp only [Int.reduceEq,reduceIte,not_false_eq_true,not_true_eq_false,true_and,false_and]
 cases hB : (playerW w p.wth).2 with
 | false =>
  rw [hB] at hpl
  rw [if_pos rfl,okA_err (by decide)]
  generalize (playerW w p.wth).1 = q at *
  refine aF Tryz.func166 89 ?_
  exact fA0
 | true =>
  rw [hB] at hpl
  rw [if_neg (by simp)]
  have hqh:=here_q h.rw hB
  generalize (playerW w p.wth).1 = q at *
  have hqs:=hqh.sound
  have hqy:=(within_iff h.rw).1 hqs.2
  have hqM:=mayB_in h.rw hqs.1 hqs.2
  have hne:=r16near_api p q.x q.y (by omega) (by omega) (by omega) (by omega)
  have hcl:=rcancel_api p q hP (okP_of hqM)
  have hmm:=cancel_may hpm hqM
  have hid:=cancel_ids p q
  have hpp:=cancel_xy p q
  have hsm:=fun e : p.id = q.id=>cancel_same e
  by_cases hid0 : p.id = q.id
  ·rw [hsm hid0] at hcl ⊢
   dsimp only at *
   rw [if_pos (by decide),okA_err (by decide)]
   refine aF Tryz.func166 89 ?_
   exact fA0
  ·obtain ⟨d1,d2,d3⟩:=deal_sets h hqh hid0 hid.1 hid.2 hmm.1 hmm.2 ⟨hpp.1,hpp.2.1⟩ ⟨hpp.2.2.1,hpp.2.2.2⟩
   have oa:=okP_of hmm.1
   have ob:=okP_of hmm.2
   clear hsm hpp hid hmm
   generalize cancelP p q = T at *
   obtain ⟨T1,T2,T3⟩:=T
   dsimp only at *
   have hs1:=r13set_api w T1 hw oa
   have hs2:=r13set_api (setW w T1).1 T2 (okW_set hw oa) ob
   rw [d3] at hs2
   by_cases ht : T3 = 0
   ·subst ht
    rw [if_neg (not_not_intro rfl),if_neg (not_not_intro d1)]
    have e : okA w (setW (setW w T2).1 T1) = ((setW (setW w T2).1 T1).1,0):=by unfold okA;rw [if_pos d2]
    rw [e]
    clear e d1 d2 d3
    generalize setW (setW w T2).1 T1 = V at *
    generalize setW (setW w T1).1 T2 = V2 at *
    generalize setW w T1 = U at *
    refine aF Tryz.func166 89 ?_
    exact fA0
   ·rw [if_pos ht,okA_err ht]
    refine aF Tryz.func166 89 ?_
    exact fA0
theorem r16move_api (w : Wld) (p : Player) (c : Cmd) (h : Here w p) (hd : c.dol = 2) (ha : -1 ≤ c.a ∧ c.a ≤ 1) (hb1 : -1 ≤ c.b ∧ c.b ≤ 1) : Api Tryz.prog 84 [wldV w,playerV p,cmdV c] (.tup [wldV (okA w (moveA w p c)).1,i64 (okA w (moveA w p c)).2]):=by
 have hw:=okW_rw h.rw
 obtain ⟨hS,hI0⟩:=h.sound
 have hP:=okP_sound hS
 have hxy:=(within_iff h.rw).1 hI0
 have hs:=h.rw.size
 have hth:=r16there_api w (p.x + c.a) (p.y + c.b) ⟨hs.1,hs.2.1⟩
 have hat:=r13at_api w (p.x + c.a) (p.y + c.b) hw (by omega) (by omega)
 unfold moveA
 cases hI : withinW w.size (p.x + c.a) (p.y + c.b) with
 | false =>
  rw [hI] at hth
  rw [if_pos rfl,okA_err (by decide)]
  refine aF Tryz.func84 182 ?_
  exact fA0
 | true =>
  rw [hI] at hth
  rw [if_neg (by simp)]
  have hst:=r13set_api w { p with x:=p.x + c.a,y:=p.y + c.b } hw ⟨hP.bag,hP.offer,hP.nb,hP.no⟩
  have hse:=here_set h (p':={ p with x:=p.x + c.a,y:=p.y + c.b }) rfl (soundB_at hS _ _) hI
  rw [hse] at hst ⊢
  generalize withP w (setL w.players { p with x:=p.x + c.a,y:=p.y + c.b }) = V at *
  generalize atW w (p.x + c.a) (p.y + c.b) = A at *
  obtain ⟨A1,A2⟩:=A
  dsimp only at *
  by_cases h0 : A1 = 0
  ·rw [if_neg (not_not_intro h0),okA_ok]
   refine aF Tryz.func84 182 ?_
   exact fA0
  ·rw [if_pos h0,okA_err (by decide)]
   refine aF Tryz.func84 182 ?_
   exact fA0
theorem r16drop_api (w : Wld) (p : Player) (c : Cmd) (h : Here w p) (hd : c.dol = 6) : Api Tryz.prog 84 [wldV w,playerV p,cmdV c] (.tup [wldV (okA w (dropA w p c)).1,i64 (okA w (dropA w p c)).2]):=by
 have hw:=okW_rw h.rw
 obtain ⟨hS,hI0⟩:=h.sound
 have hP:=okP_sound hS
 obtain ⟨_,_,hPl,hPb,_⟩:=sound_parts hS
 have hab:=(within_iff h.rw).1 hI0
 have hsz:=h.rw.size
 have hch:=r16chunk_api w p.x p.y hw (by omega) (by omega)
 unfold dropA
 obtain ⟨hK,hKx,hKy⟩:=place_right h.rw hI0
 have hI:=placeI_bd p.x p.y
 have hmx:=fun {k : Chunk} (hx : k.x = (placeC w p.x p.y).x) (hy : k.y = (placeC w p.x p.y).y)=>here_max h hI0 hx hy
 generalize placeC w p.x p.y = K at *
 generalize placeI p.x p.y = I at *
 have htk:=refTake_api p.bag c.c c.n (by omega) hP.bag
 have hT:=takeS_ok (a:=c.c) (n:=c.n) hP.bag
 have hTn:=takeS_n (l:=p.bag) (a:=c.c) (n:=c.n)
 have hTl:=takeS_len p.bag c.c c.n
 by_cases h1 : (takeS p.bag c.c c.n).2.2 = 0
 ·rw [if_neg (not_not_intro h1)]
  obtain ⟨n1,n2,n3,n4,n5,n6,n7,n8⟩:=hTn h1
  have hb2 : bagOk (takeS p.bag c.c c.n).1 = true:=by rw [n8];exact take_bagOk n4 (by omega) n2 n7
  rw [h1] at htk
  have hdr:=r11drop_api K I (takeS p.bag c.c c.n).2.1 (okC_right hK) (fitC_right hK) hT.1
  have hK1:=drop_right hK (t:=I) (s:=(takeS p.bag c.c c.n).2.1) hI
  have hxy:=dropC_xy K I (takeS p.bag c.c c.n).2.1
  have hmk:=hmx (k:=(dropC K I (takeS p.bag c.c c.n).2.1).1) hxy.1 hxy.2
  have hput:=r16put_api w (dropC K I (takeS p.bag c.c c.n).2.1).1 { p with bag:=(takeS p.bag c.c c.n).1 } hw (okC_right hK1) (fitC_right hK1) (okP_bag hP hT.2 (by omega))
  have hkp:=here_keep h (p':={ p with bag:=(takeS p.bag c.c c.n).1 }) rfl (soundB_bag hS (by omega) hb2) hI0 hK1 hmk
  rw [hkp]
  clear hkp hmx hmk n8
  generalize dropC K I (takeS p.bag c.c c.n).2.1 = D at *
  generalize takeS p.bag c.c c.n = T at *
  generalize (setW (putW w D.1).1 { p with bag:=T.1 }).1 = V at *
  obtain ⟨D1,D2⟩:=D
  obtain ⟨T1,T2,T3⟩:=T
  dsimp only at *
  by_cases h2 : D2 = 0
  ·rw [if_neg (not_not_intro h2),okA_ok]
   refine aF Tryz.func84 182 ?_
   exact fA0
  ·rw [if_pos h2,okA_err h2]
   refine aF Tryz.func84 182 ?_
   exact fA0
 ·rw [if_pos h1,okA_err h1]
  generalize takeS p.bag c.c c.n = T at *
  obtain ⟨T1,T2,T3⟩:=T
  dsimp only at *
  refine aF Tryz.func84 182 ?_
  exact fA0
theorem r16craft_api (w : Wld) (p : Player) (c : Cmd) (h : Here w p) (hd : c.dol = 9) : Api Tryz.prog 84 [wldV w,playerV p,cmdV c] (.tup [wldV (okA w (craftA w p c)).1,i64 (okA w (craftA w p c)).2]):=by
 have hw:=okW_rw h.rw
 obtain ⟨hS,hI0⟩:=h.sound
 have hP:=okP_sound hS
 obtain ⟨_,_,hPl,hPb,_⟩:=sound_parts hS
 unfold craftA
 have hmk:=r10make_api p.bag c.c (by omega) hP.bag
 have hM : (makeS p.bag c.c).1.length = p.bag.length ∧ bagOk (makeS p.bag c.c).1 = true:=makeS_any p.bag c.c hPb
 have hst:=r13set_api w { p with bag:=(makeS p.bag c.c).1 } hw (okP_bag hP (bagOk_okSlot hM.2) (by omega))
 have hse:=here_set h (p':={ p with bag:=(makeS p.bag c.c).1 }) rfl (soundB_bag hS (by omega) hM.2) hI0
 rw [hse] at hst ⊢
 generalize withP w (setL w.players { p with bag:=(makeS p.bag c.c).1 }) = V at *
 generalize makeS p.bag c.c = T at *
 obtain ⟨T1,T2⟩:=T
 dsimp only at *
 by_cases h1 : T2 = 0
 ·rw [if_neg (not_not_intro h1),okA_ok]
  refine aF Tryz.func84 182 ?_
  exact fA0
 ·rw [if_pos h1,okA_err h1]
  refine aF Tryz.func84 182 ?_
  exact fA0
theorem r16eat_api (w : Wld) (p : Player) (c : Cmd) (h : Here w p) (hd : c.dol = 10) : Api Tryz.prog 84 [wldV w,playerV p,cmdV c] (.tup [wldV (okA w (eatA w p)).1,i64 (okA w (eatA w p)).2]):=by
 have hw:=okW_rw h.rw
 obtain ⟨hS,hI0⟩:=h.sound
 have hP:=okP_sound hS
 obtain ⟨_,_,hPl,hPb,_⟩:=sound_parts hS
 unfold eatA
 have hmk:=r09spend_api p.bag 11 1 (by omega) hP.bag (by omega)
 have hM : (spendS p.bag 11 1).1.length = p.bag.length ∧ bagOk (spendS p.bag 11 1).1 = true:=(fun h=>⟨h.1,h.2 hPb⟩) (spendS_any p.bag 11 1)
 have hst:=r13set_api w { p with bag:=(spendS p.bag 11 1).1 } hw (okP_bag hP (bagOk_okSlot hM.2) (by omega))
 have hse:=here_set h (p':={ p with bag:=(spendS p.bag 11 1).1 }) rfl (soundB_bag hS (by omega) hM.2) hI0
 rw [hse] at hst ⊢
 generalize withP w (setL w.players { p with bag:=(spendS p.bag 11 1).1 }) = V at *
 generalize spendS p.bag 11 1 = T at *
 obtain ⟨T1,T2⟩:=T
 dsimp only at *
 by_cases h1 : T2 = 0
 ·rw [if_neg (not_not_intro h1),okA_ok]
  refine aF Tryz.func84 182 ?_
  exact fA0
 ·rw [if_pos h1,okA_err h1]
  refine aF Tryz.func84 182 ?_
  exact fA0
theorem r16reach_api (w : Wld) (p : Player) (c : Cmd) (h : Here w p) (hd : c.dol = 3 ∨ c.dol = 4 ∨ c.dol = 7 ∨ c.dol = 8) (ha : 0 ≤ c.a ∧ c.a ≤ 127) (hb1 : 0 ≤ c.b ∧ c.b ≤ 127) : Api Tryz.prog 84 [wldV w,playerV p,cmdV c] (.tup [wldV (okA w (actA w p c)).1,i64 (okA w (actA w p c)).2]):=by
 obtain ⟨hS,hI0⟩:=h.sound
 have hxy:=(within_iff h.rw).1 hI0
 have hs:=h.rw.size
 have hth:=r16there_api w c.a c.b ⟨hs.1,hs.2.1⟩
 have hne:=r16near_api p c.a c.b (by omega) (by omega) (by omega) (by omega)
 have hbad : ∀ e : Int,aimE w p c.a c.b = e → ¬ e = 0 → actA w p c = (w,e):=fun e he hz=>by
  unfold actA
  rcases hd with hd|hd|hd|hd
  ·rw [if_neg (by omega),if_pos hd];unfold breakA;rw [if_pos (by omega),he]
  ·rw [if_neg (by omega),if_neg (by omega),if_pos hd];unfold placeA;rw [if_pos (by omega),he]
  ·rw [if_neg (by omega),if_neg (by omega),if_neg (by omega),if_neg (by omega),if_neg (by omega),if_pos (.inl hd)];unfold storeA;rw [if_pos (by omega),he]
  ·rw [if_neg (by omega),if_neg (by omega),if_neg (by omega),if_neg (by omega),if_neg (by omega),if_pos (.inr hd)];unfold storeA;rw [if_pos (by omega),he]
 have haim : aimE w p c.a c.b = if withinW w.size c.a c.b = false then 102 else if nearP p c.a c.b = false then 106 else 0:=rfl
 cases hI : withinW w.size c.a c.b with
 | false =>
  rw [hI] at hth haim
  rw [if_pos rfl] at haim
  rw [hbad 102 haim (by decide),okA_err (by decide)]
  refine aF Tryz.func84 182 ?_
  exact fA0
 | true =>
  rw [hI] at hth haim
  rw [if_neg (by simp)] at haim
  cases hN : nearP p c.a c.b with
  | false =>
   rw [hN] at hne haim
   rw [if_pos rfl] at haim
   rw [hbad 106 haim (by decide),okA_err (by decide)]
   refine aF Tryz.func84 182 ?_
   exact fA0
  | true =>
   rw [hN] at hne haim
   rw [if_neg (by simp)] at haim
   have hfar : Api Tryz.prog 158 [wldV w,playerV p,cmdV c] (.tup [wldV (okA w (actA w p c)).1,i64 (okA w (actA w p c)).2]):=by
    unfold actA
    rcases hd with hd|hd|hd|hd
    ·rw [if_neg (by omega),if_pos hd];exact r16break_api w p c h haim hd
    ·rw [if_neg (by omega),if_neg (by omega),if_pos hd];exact r16place_api w p c h haim hd
    ·rw [if_neg (by omega),if_neg (by omega),if_neg (by omega),if_neg (by omega),if_neg (by omega),if_pos (.inl hd)];exact r16store_api w p c h haim (.inl hd)
    ·rw [if_neg (by omega),if_neg (by omega),if_neg (by omega),if_neg (by omega),if_neg (by omega),if_pos (.inr hd)];exact r16store_api w p c h haim (.inr hd)
   generalize okA w (actA w p c) = R at *
   refine aF Tryz.func84 182 ?_
   exact fA0
theorem r16taken_api (w : Wld) (p : Player) (c : Cmd) (h : Here w p) (hd : c.dol = 5) : Api Tryz.prog 84 [wldV w,playerV p,cmdV c] (.tup [wldV (okA w (takeA w p)).1,i64 (okA w (takeA w p)).2]):=by
 have ht:=r16take_api w p h
 generalize okA w (takeA w p) = R at *
 refine aF Tryz.func84 182 ?_
 exact fA0
theorem r16deals_api (w : Wld) (p : Player) (c : Cmd) (h : Here w p) (hd : 11 ≤ c.dol ∧ c.dol ≤ 13) : Api Tryz.prog 84 [wldV w,playerV p,cmdV c] (.tup [wldV (okA w (dealA w p c)).1,i64 (okA w (dealA w p c)).2]):=by
 have ht : Api Tryz.prog 166 [wldV w,playerV p,cmdV c] (.tup [wldV (okA w (dealA w p c)).1,i64 (okA w (dealA w p c)).2]):=by
  rcases (show c.dol = 11 ∨ c.dol = 12 ∨ c.dol = 13 by omega) with hd|hd|hd
  ·exact r16offer_api w p c h hd
  ·exact r16agree_api w p c h hd
  ·exact r16cancel_api w p c h hd
 generalize okA w (dealA w p c) = R at *
 refine aF Tryz.func84 182 ?_
 exact fA0
theorem r16does_api (w : Wld) (p : Player) (c : Cmd) (h : Here w p) (hD : rightD c = true) (h0 : 0 ≤ c.dol) (h1 : ¬ c.dol = 1) : Api Tryz.prog 84 [wldV w,playerV p,cmdV c] (.tup [wldV (okA w (actA w p c)).1,i64 (okA w (actA w p c)).2]):=by
 have hlt : c.dol < 14:=by
  rcases Int.lt_or_le c.dol 14 with h|h
  ·exact h
  ·rw [rightD_hi h] at hD;cases hD
 have hn0 : ¬ c.dol = 0:=fun e=>by unfold rightD at hD;simp [e] at hD
 have hrng : ∀ lo hi n : Int,rngB lo hi n = true → lo ≤ n ∧ n ≤ hi:=fun lo hi n hh=>by simpa [rngB] using hh
 rcases (show c.dol = 2 ∨ (c.dol = 3 ∨ c.dol = 4 ∨ c.dol = 7 ∨ c.dol = 8) ∨ c.dol = 5 ∨ c.dol = 6 ∨ c.dol = 9 ∨ c.dol = 10 ∨ (11 ≤ c.dol ∧ c.dol ≤ 13) by omega) with hd|hd|hd|hd|hd|hd|hd
 ·have e : actA w p c = moveA w p c:=by unfold actA;rw [if_pos hd]
  have hr : rngB (-1) 1 c.a = true ∧ rngB (-1) 1 c.b = true:=by
   unfold rightD at hD
   rw [if_neg (by omega),if_pos hd] at hD
   simp only [Bool.and_eq_true] at hD
   exact ⟨hD.1,hD.2.1⟩
  rw [e];exact r16move_api w p c h hd (hrng _ _ _ hr.1) (hrng _ _ _ hr.2)
 ·have hr : rngB 0 127 c.a = true ∧ rngB 0 127 c.b = true:=by
   unfold rightD at hD
   rcases hd with hd|hd|hd|hd
   ·rw [if_neg (by omega),if_neg (by omega),if_pos hd] at hD
    simp only [Bool.and_eq_true] at hD;exact ⟨hD.1,hD.2.1⟩
   ·rw [if_neg (by omega),if_neg (by omega),if_neg (by omega),if_pos hd] at hD
    simp only [Bool.and_eq_true] at hD;exact ⟨hD.1,hD.2.1⟩
   ·rw [if_neg (by omega),if_neg (by omega),if_neg (by omega),if_neg (by omega),if_neg (by omega),if_pos (.inl hd)] at hD
    simp only [Bool.and_eq_true] at hD;exact ⟨hD.1,hD.2.1⟩
   ·rw [if_neg (by omega),if_neg (by omega),if_neg (by omega),if_neg (by omega),if_neg (by omega),if_pos (.inr hd)] at hD
    simp only [Bool.and_eq_true] at hD;exact ⟨hD.1,hD.2.1⟩
  exact r16reach_api w p c h hd (hrng _ _ _ hr.1) (hrng _ _ _ hr.2)
 ·have e : actA w p c = takeA w p:=by unfold actA;rw [if_neg (by omega),if_neg (by omega),if_neg (by omega),if_pos hd]
  rw [e];exact r16taken_api w p c h hd
 ·have e : actA w p c = dropA w p c:=by unfold actA;rw [if_neg (by omega),if_neg (by omega),if_neg (by omega),if_neg (by omega),if_pos hd]
  rw [e];exact r16drop_api w p c h hd
 ·have e : actA w p c = craftA w p c:=by unfold actA;rw [if_neg (by omega),if_neg (by omega),if_neg (by omega),if_neg (by omega),if_neg (by omega),if_neg (by omega),if_pos hd]
  rw [e];exact r16craft_api w p c h hd
 ·have e : actA w p c = eatA w p:=by unfold actA;rw [if_neg (by omega),if_neg (by omega),if_neg (by omega),if_neg (by omega),if_neg (by omega),if_neg (by omega),if_neg (by omega),if_pos hd]
  rw [e];exact r16eat_api w p c h hd
 ·have e : actA w p c = dealA w p c:=by unfold actA;rw [if_neg (by omega),if_neg (by omega),if_neg (by omega),if_neg (by omega),if_neg (by omega),if_neg (by omega),if_neg (by omega),if_neg (by omega)]
  rw [e];exact r16deals_api w p c h hd
theorem r16join_ok (id X : Int) : OkP ⟨id,X,0,newB8,-1,[],false⟩:=⟨fun s hs=>by rw [(List.mem_replicate.1 hs).2];exact ⟨by decide,by decide⟩,by simp,by show newB8.length * 16 ≤ _;rw [show newB8.length = 8 from rfl];omega,by simp⟩
theorem r16join_api (w : Wld) (id : Int) (hw : OkW w) : Api Tryz.prog 83 [wldV w,.agg [i64 id,i64 (spawnX w.size id),i64 0,.vec .slot newB8,i64 (-1),.lit (.slice none 0 0),.ff]] (.tup [wldV (setW w ⟨id,spawnX w.size id,0,newB8,-1,[],false⟩).1,i64 (setW w ⟨id,spawnX w.size id,0,newB8,-1,[],false⟩).2]):=
 api_weak (r13set_api w ⟨id,spawnX w.size id,0,newB8,-1,[],false⟩ hw (r16join_ok id _)) (args':=[wldV w,.agg [i64 id,i64 (spawnX w.size id),i64 0,.vec .slot newB8,i64 (-1),.lit (.slice none 0 0),.ff]])
  (.cons (Le.refl _) (.cons (Le.agg (.cons (Le.refl _) (.cons (Le.refl _) (.cons (Le.refl _) (.cons (Le.refl _) (.cons (Le.refl _) (.cons (Le.nil _) (.cons (Le.ff rfl) .nil)))))))) .nil))
theorem r16apply_api (w : Wld) (id : Int) (c : Cmd) (hw : OkW w) (hi : id ≤ 9223372036854775807) (hd : 0 ≤ c.dol ∧ c.dol ≤ 255) : Api Tryz.prog 38 [wldV w,i64 id,cmdV c] (.tup [wldV (applyW w id c).1,i64 (applyW w id c).2]):=by
 have hcp:=r13copied_api w hw
 have hrt:=r13right_api w hw
 have hcr:=r15right_api c hd.1 hd.2
 have hpl:=r13player_api w id hw
 cases hR : rightW w with
 | false =>
  rw [hR] at hrt
  have e : applyW w id c = (w,113):=by unfold applyW;rw [if_pos hR]
  rw [e]
  refine aF Tryz.func38 64 ?_
  exact fA0
 | true =>
  rw [hR] at hrt
  have hRW:=rightW_iff.1 hR
  cases hD : rightD c with
  | false =>
   rw [hD] at hcr
   have e : applyW w id c = (w,109):=by unfold applyW;rw [if_neg (by rw [hR];simp),if_pos hD]
   rw [e]
   refine aF Tryz.func38 64 ?_
   exact fA0
  | true =>
   rw [hD] at hcr
   by_cases h1 : c.dol = 1
   ·cases hB : (playerW w id).2 with
    | true =>
     rw [hB] at hpl
     have e : applyW w id c = (w,110):=by unfold applyW;rw [if_neg (by rw [hR];simp),if_neg (by rw [hD];simp),if_pos (by rw [hB,decide_eq_true h1])]
     rw [e]
     generalize (playerW w id).1 = P at *
     refine aF Tryz.func38 64 ?_
     exact fA0
    | false =>
     rw [hB] at hpl
     have e : applyW w id c = setW w ⟨id,spawnX w.size id,0,newB8,-1,[],false⟩:=by unfold applyW;rw [if_neg (by rw [hR];simp),if_neg (by rw [hD];simp),if_neg (by rw [hB,decide_eq_true h1];simp),if_pos h1]
     rw [e]
     have hsp:=r16spawn_api w.size id hi
     have hsj:=r16join_api w id hw
     generalize (playerW w id).1 = P at *
     generalize spawnX w.size id = X at *
     generalize setW w ⟨id,X,0,newB8,-1,[],false⟩ = V at *
     refine aF Tryz.func38 64 ?_
     ((try with_reducible refine evCut fun N hN hE hT=>?_);(conv=>whnf))
     repeat' (first|exact trivial|((first|((first|apply hT|apply hE|apply hN);clear hN hE hT)|refine kL ?_|(refine ⟨fun hb=>?_,fun hb=>?_⟩<;>(try simp only [nrm] at hb)<;>try exact kZ hb)|(refine callGiveND hsj rfl rfl ?_;(conv=>whnf);refine ⟨by decide,rfl,?_⟩)|refine kV ?_)<;>((try with_reducible refine evCut fun N hN hE hT=>?_);(conv=>whnf)))|refine kY ?_ ?_)
     all_goals first|rfl|omega|trace_state
   ·cases hB : (playerW w id).2 with
    | false =>
     rw [hB] at hpl
     have e : applyW w id c = (w,110):=by unfold applyW;rw [if_neg (by rw [hR];simp),if_neg (by rw [hD];simp),if_pos (by rw [hB,decide_eq_false h1])]
     rw [e]
     generalize (playerW w id).1 = P at *
     refine aF Tryz.func38 64 ?_
     exact fA0
    | true =>
     rw [apply_ref hR hD hB h1]
     have hdo:=r16does_api w (playerW w id).1 c (here_q hRW hB) hD hd.1 h1
     rw [hB] at hpl
     have hok : (okA w (actA w (playerW w id).1 c)).2 = 0 ∨ (okA w (actA w (playerW w id).1 c)).1 = w:=by
      unfold okA;split
      ·exact .inl rfl
      ·exact .inr rfl
     generalize okA w (actA w (playerW w id).1 c) = R at *
     generalize (playerW w id).1 = P at *
     obtain ⟨R1,R2⟩:=R
     dsimp only at *
     by_cases h0 : R2 = 0
     ·subst h0
      refine aF Tryz.func38 64 ?_
      exact fA0
     ·have h2 : R1 = w:=hok.resolve_left h0
      subst h2
      refine aF Tryz.func38 64 ?_
      exact fA0
open Go Go.RowKit Eng
theorem d16_err (w : Wld) (id : Int) (c : Cmd) (hw : OkW w) (hi : id ≤ 9223372036854775807) (hd : 0 ≤ c.dol ∧ c.dol ≤ 255) (he : ¬ (applyW w id c).2 = 0) : Api Tryz.prog 40 [wldV w,i64 id,cmdV c] (.vec .i64 zeros13):=by
 have hap:=r16apply_api w id c hw hi hd
 have hz : List.replicate 13 (0 : Int) = zeros13:=rfl
 generalize applyW w id c = R at *
 generalize zeros13 = Z at *
 refine aF Tryz.func40 122 ?_
 ((try with_reducible refine evCut fun N hN hE hT=>?_);(conv=>whnf))
 repeat' (first|exact trivial|((first|((first|apply hT|apply hE|apply hN);clear hN hE hT)|(refine ⟨fun hb=>?_,fun hb=>?_⟩<;>(try simp only [nrm] at hb)<;>try exact kZ hb)|refine kV ?_)<;>((try with_reducible refine evCut fun N hN hE hT=>?_);(conv=>whnf)))|refine kY ?_ ?_)
 all_goals first|rfl|omega|exact hz|(rw [← hz];rfl)|trace_state
theorem d16_no (w : Wld) (id : Int) (c : Cmd) (hw : OkW w) (hi : id ≤ 9223372036854775807) (hd : 0 ≤ c.dol ∧ c.dol ≤ 255) (he : (applyW w id c).2 = 0) (h3 : ¬ c.dol = 3) (h4 : ¬ c.dol = 4) (h10 : ¬ c.dol = 10) (h9 : ¬ c.dol = 9) : Api Tryz.prog 40 [wldV w,i64 id,cmdV c] (.vec .i64 zeros13):=by
 have hap:=r16apply_api w id c hw hi hd
 have hpl:=r13player_api w id hw
 have hz : List.replicate 13 (0 : Int) = zeros13:=rfl
 generalize playerW w id = P at *
 generalize applyW w id c = R at *
 generalize zeros13 = Z at *
 refine aF Tryz.func40 122 ?_
 ((try with_reducible refine evCut fun N hN hE hT=>?_);(conv=>whnf))
 repeat' (first|exact trivial|((first|((first|apply hT|apply hE|apply hN);clear hN hE hT)|(refine ⟨fun hb=>?_,fun hb=>?_⟩<;>(try simp only [nrm] at hb)<;>try exact kZ hb)|refine kV ?_)<;>((try with_reducible refine evCut fun N hN hE hT=>?_);(conv=>whnf)))|refine kY ?_ ?_)
 all_goals first|rfl|omega|exact hz|(rw [← hz];rfl)|trace_state
theorem d16_3 (w : Wld) (id : Int) (c : Cmd) (hw : OkW w) (hi : id ≤ 9223372036854775807) (hd : 0 ≤ c.dol ∧ c.dol ≤ 255) (he : (applyW w id c).2 = 0) (h3 : c.dol = 3) (hab : c.a ≤ 127 ∧ c.b ≤ 127) (hc : 0 ≤ (atW w c.a c.b).1 ∧ (atW w c.a c.b).1 ≤ 12) : Api Tryz.prog 40 [wldV w,i64 id,cmdV c] (.vec .i64 (addAt zeros13 (givesI (atW w c.a c.b).1) 1)):=by
 have hap:=r16apply_api w id c hw hi hd
 have hpl:=r13player_api w id hw
 have hat:=r13at_api w c.a c.b hw (by omega) (by omega)
 have hgv:=r08gives_api (atW w c.a c.b).1 hc.1 (by omega)
 have hg:=givesI_12 hc
 have hf:=fin_one hg (x:=1) (by decide)
 generalize playerW w id = P at *
 generalize givesI (atW w c.a c.b).1 = G at *
 generalize atW w c.a c.b = A at *
 generalize applyW w id c = R at *
 refine aF Tryz.func40 122 ?_
 exact fA0
theorem d16_4 (w : Wld) (id : Int) (c : Cmd) (hw : OkW w) (hi : id ≤ 9223372036854775807) (hd : 0 ≤ c.dol ∧ c.dol ≤ 255) (he : (applyW w id c).2 = 0) (h4 : c.dol = 4) (hc : 0 ≤ c.c ∧ c.c < (playerW w id).1.bag.length) (hit : 0 ≤ (elt .slot (playerW w id).1.bag c.c.toNat).item ∧ (elt .slot (playerW w id).1.bag c.c.toNat).item ≤ 12) : Api Tryz.prog 40 [wldV w,i64 id,cmdV c] (.vec .i64 (addAt zeros13 (elt .slot (playerW w id).1.bag c.c.toNat).item (-1))):=by
 have hap:=r16apply_api w id c hw hi hd
 have hpl:=r13player_api w id hw
 have hf:=fin_one hit (x:=-1) (by decide)
 have hit2 : (elt .slot (playerW w id).1.bag (c.c.toNat + 0)).item = (elt .slot (playerW w id).1.bag c.c.toNat).item:=rfl
 generalize playerW w id = P at *
 generalize applyW w id c = R at *
 refine aF Tryz.func40 122 ?_
 exact fA0
theorem d16_10 (w : Wld) (id : Int) (c : Cmd) (hw : OkW w) (hi : id ≤ 9223372036854775807) (hd : 0 ≤ c.dol ∧ c.dol ≤ 255) (he : (applyW w id c).2 = 0) (h10 : c.dol = 10) : Api Tryz.prog 40 [wldV w,i64 id,cmdV c] (.vec .i64 (addAt zeros13 11 (-1))):=by
 have hap:=r16apply_api w id c hw hi hd
 have hpl:=r13player_api w id hw
 generalize playerW w id = P at *
 generalize applyW w id c = R at *
 refine aF Tryz.func40 122 ?_
 exact fA0
theorem d16_9 (w : Wld) (id : Int) (c : Cmd) (hw : OkW w) (hi : id ≤ 9223372036854775807) (hd : 0 ≤ c.dol ∧ c.dol ≤ 255) (he : (applyW w id c).2 = 0) (h9 : c.dol = 9) (hn : 0 ≤ c.c ∧ c.c < 7) : Api Tryz.prog 40 [wldV w,i64 id,cmdV c] (.vec .i64 (addAt (subAll zeros13 (elt .recipe recipesR c.c.toNat).of) (elt .recipe recipesR c.c.toNat).makes.item (elt .recipe recipesR c.c.toNat).makes.n)):=by
 have hap:=r16apply_api w id c hw hi hd
 have hpl:=r13player_api w id hw
 have hre:=r08some_api c.c hn.1 hn.2
 obtain ⟨r1,r2,r3,r4,r5,r6,r7⟩:=recipe_ok (recipe_at hn.1 hn.2)
 generalize (elt .recipe recipesR c.c.toNat).of = W at *
 generalize (elt .recipe recipesR c.c.toNat).makes = M at *
 generalize playerW w id = P at *
 generalize applyW w id c = R at *
 have hnx:=fun k (h : k < W.length)=>subAll_next (C:=zeros13) h
 have hln:=fun k=>(subAll_len (W.take k) zeros13).trans (show zeros13.length = 13 from rfl)
 have hbd : ∀ k i : Nat,i < 13 → inZ 32 (elt .i64 (subAll zeros13 (W.take k)) i):=fun k i hi=>by
  obtain ⟨z,e,z0,z1⟩:=sub_bd (l:=W.take k) (fun s hs=>r1 s (List.mem_of_mem_take hs)) (by rw [List.length_take];omega) hi
  rw [e];unfold inZ;omega
 have h0 : subAll zeros13 (W.take 0) = List.replicate 13 (0 : Int):=rfl
 have hend : subAll zeros13 W = subAll zeros13 (W.take W.length):=by rw [List.take_length]
 rw [hend]
 obtain ⟨D,hD⟩ : ∃ D : Nat → List (El .i64),D = fun k=>subAll zeros13 (W.take k):=⟨_,rfl⟩
 have hnx2 : ∀ k,k < W.length → D (k + 1) = addAt (D k) (elt .slot W k).item (-(elt .slot W k).n):=by rw [hD];exact hnx
 have hln2 : ∀ k,(D k).length = 13:=by rw [hD];exact hln
 have hbd2 : ∀ k i : Nat,i < 13 → inZ 32 (elt .i64 (D k) i):=by rw [hD];exact hbd
 have h02 : D 0 = List.replicate 13 (0 : Int):=by rw [hD];exact h0
 have hgoal : addAt (subAll zeros13 (W.take W.length)) M.item M.n = addAt (D W.length) M.item M.n:=by rw [hD]
 rw [hgoal]
 clear hgoal hnx hln hbd h0 hend hD
 refine aF Tryz.func40 122 ?_
 ((try with_reducible refine evCut fun N hN hE hT=>?_);(conv=>whnf))
 repeat' (first|exact trivial|((first|((first|apply hT|apply hE|apply hN);clear hN hE hT)|(refine ⟨fun hb=>?_,fun hb=>?_⟩<;>(try simp only [nrm] at hb)<;>try exact kZ hb)|refine kV ?_)<;>((try with_reducible refine evCut fun N hN hE hT=>?_);(conv=>whnf)))|refine kY ?_ ?_)
 refine Runs.loopS cfg_ok (σ:=Nat) [7,14,15,17] (fun k=>[.own .i64 37 0 13 none,.vec .slot W,.ptr 30 0,i64 k]) (fun k=>[(30,.box [.lit (.int .u8 M.item),i64 M.n]),(37,.row .i64 (D k))]) (fun k=>k ≤ W.length) (fun k=>W.length - k) 0 (by omega) ?_ ?_
 ·conv=>whnf
  repeat' (first|exact trivial|((first|((first|apply hT|apply hE|apply hN);clear hN hE hT)|(refine ⟨fun hb=>?_,fun hb=>?_⟩<;>(try simp only [nrm] at hb)<;>try exact kZ hb)|refine kV ?_)<;>((try with_reducible refine evCut fun N hN hE hT=>?_);(conv=>whnf)))|refine kY ?_ ?_)
  all_goals first|rfl|omega|(rw [h02];rfl)|trace_state
 ·intro k hk
  have hz1:=hln2 k
  by_cases hlt : k < W.length
  ·have hs:=r1 _ (elt_mem (t:=.slot) hlt)
   have hz2:=hln2 (k + 1)
   have hb:=hbd2 k ((elt .slot W ((k : Nat) : Int).toNat).item.toNat + 0) (by rw [Int.toNat_natCast];omega)
   have hs4 : 1 ≤ (elt .slot W ((k : Nat) : Int).toNat).item ∧ (elt .slot W ((k : Nat) : Int).toNat).item ≤ 12 ∧ 1 ≤ (elt .slot W ((k : Nat) : Int).toNat).n ∧ (elt .slot W ((k : Nat) : Int).toNat).n ≤ 16:=by rw [Int.toNat_natCast];exact hs
   have hx:=hnx2 k hlt
   unfold inZ at hb
   conv=>whnf
   repeat' (first|exact trivial|((first|((first|apply hT|apply hE|apply hN);clear hN hE hT)|(refine ⟨fun hb=>?_,fun hb=>?_⟩<;>(try simp only [nrm] at hb)<;>try exact kZ hb)|refine kV ?_)<;>((try with_reducible refine evCut fun N hN hE hT=>?_);(conv=>whnf)))|refine kY ?_ ?_)
   refine .to (k + 1) hlt (by omega) ?_
   conv=>whnf
   repeat' (first|exact trivial|((first|((first|apply hT|apply hE|apply hN);clear hN hE hT)|(refine ⟨fun hb=>?_,fun hb=>?_⟩<;>(try simp only [nrm] at hb)<;>try exact kZ hb)|refine kV ?_)<;>((try with_reducible refine evCut fun N hN hE hT=>?_);(conv=>whnf)))|refine kY ?_ ?_)
   all_goals first|rfl|omega|(rw [List.length_set];omega)|(rw [hx];exact List.take_of_length_le (by rw [List.length_set];omega))|trace_state
  ·obtain rfl : k = W.length:=by omega
   have hb:=hbd2 W.length (M.item.toNat + 0) (by omega)
   unfold inZ at hb
   conv=>whnf
   repeat' (first|exact trivial|((first|((first|apply hT|apply hE|apply hN);clear hN hE hT)|(refine ⟨fun hb=>?_,fun hb=>?_⟩<;>(try simp only [nrm] at hb)<;>try exact kZ hb)|refine kV ?_)<;>((try with_reducible refine evCut fun N hN hE hT=>?_);(conv=>whnf)))|refine kY ?_ ?_)
   all_goals first|rfl|omega|(rw [List.length_set];omega)|(rw [List.drop_zero];exact List.take_of_length_le (by rw [List.length_set];omega))|trace_state
theorem d16_api (w : Wld) (id : Int) (c : Cmd) (hw : OkW w) (hi : id ≤ 9223372036854775807) (hd : 0 ≤ c.dol ∧ c.dol ≤ 255) : Api Tryz.prog 40 [wldV w,i64 id,cmdV c] (.vec .i64 (deltasW w id c)):=by
 unfold deltasW
 by_cases he : (applyW w id c).2 = 0
 ·rw [if_neg (not_not_intro he)]
  have hR:=apply_rightW he
  rcases apply_cases hR id c with ⟨h1,_⟩|⟨h1,h2,_⟩|⟨h1,h2,h3,hp,hi2,h4,h5⟩
  ·exact absurd he h1
  ·rw [if_neg (by omega),if_neg (by omega),if_neg (by omega),if_neg (by omega)]
   exact d16_no w id c hw hi hd he (by omega) (by omega) (by omega) (by omega)
  ·by_cases d3 : c.dol = 3
   ·rw [if_pos d3]
    rw [actA_3 d3] at h4
    obtain ⟨b1,b2,b3,b4⟩:=break_in hp.rw h4
    have hab:=rightD_place h3 (.inl d3)
    exact d16_3 w id c hw hi hd he d3 (by omega) (by omega)
   ·rw [if_neg d3]
    by_cases d4 : c.dol = 4
    ·rw [if_pos d4]
     rw [actA_4 d4] at h4
     obtain ⟨t1,t2,t3,t4⟩:=take_item (place_in h4).1
     exact d16_4 w id c hw hi hd he d4 ⟨t1,t2⟩ (by omega)
    ·rw [if_neg d4]
     by_cases d10 : c.dol = 10
     ·rw [if_pos d10];exact d16_10 w id c hw hi hd he d10
     ·rw [if_neg d10]
      by_cases d9 : c.dol = 9
      ·rw [if_pos d9]
       rw [actA_9 d9] at h4
       have hn : 0 ≤ c.c ∧ c.c < 7:=by
        by_cases hn : 0 ≤ c.c ∧ c.c < 7
        ·exact hn
        ·unfold craftA at h4
         have hm : ¬ (makeS (playerW w id).1.bag c.c).2 = 0:=by
          unfold makeS
          rw [if_neg (by rw [hp.bag.2];simp),recipe_out hn];simp
         rw [if_pos hm] at h4;exact absurd h4 hm
       rw [recipe_at hn.1 hn.2]
       exact d16_9 w id c hw hi hd he d9 hn
      ·rw [if_neg d9];exact d16_no w id c hw hi hd he d3 d4 d10 d9
 ·rw [if_pos he];exact d16_err w id c hw hi hd he
end Go.Proofs.YtkojlembanldcaaGreat
