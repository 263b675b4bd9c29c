/- The reference of rules. -/
import Derived.Test.YtkojlembanldcaaGreatSb
import Derived.Test.YtkojlembanldcaaGreatSa
import Derived.Test.YtkojlembanldcaaGreatGj
import Derived.Test.YtkojlembanldcaaGreatRz
import Derived.Test.YtkojlembanldcaaGreatGi
import Derived.Test.YtkojlembanldcaaGreatGe
import Derived.Test.YtkojlembanldcaaGreatRb
set_option linter.unusedSimpArgs false
set_option linter.unusedVariables false
set_option maxRecDepth 100000
set_option maxHeartbeats 16000000
namespace Go.Proofs.YtkojlembanldcaaGreat
open Go Go.RowKit Eng
theorem zU (size id : Int) (h : id ≤ 9223372036854775807) : Api Tryz.prog 41 [i64 size,i64 id] (.tup [i64 (cL size id),i64 0]):=by
 by_cases hs : size < 1 ∨ 16 < size ∨ id < 0
 ·rw [show cL size id = 0 by unfold cL;rw [if_pos hs]]
  refine aF Tryz.func41 23 ?_
  exact fB0
 ·rw [show cL size id = (id % (8 * size) * 7 + 3) % (8 * size) by unfold cL;rw [if_neg hs]]
  have hm:=Int.emod_nonneg id (show (8 * size) ≠ 0 by omega)
  have hm2:=Int.emod_lt_of_pos id (show 0 < 8 * size by omega)
  refine aF Tryz.func41 23 ?_
  exact fB0
theorem qm (w : Wld) (x y : Int) (hs : 1 ≤ w.size ∧ w.size ≤ 16) : Api Tryz.prog 156 [az w,i64 x,i64 y] (bol (av w.size x y)):=by
 have h:=Cp (x:=x) (y:=y) hs
 cases hW : av w.size x y with
 | true =>
  obtain ⟨h1,h2,h3,h4⟩:=h.1 hW
  refine aF Tryz.func156 24 ?_
  conv=>whnf
  repeat' (first|exact trivial|((first|(refine ⟨fun hb=>?_,fun hb=>?_⟩<;>(try simp only [nrm] at hb)<;>try exact kZ hb)|refine kV ?_)<;>(conv=>whnf))|refine kY ?_ ?_)
  all_goals (refine congrArg Value.bool ?_;simp;omega)
 | false =>
  have h5 : ¬ (0 ≤ x ∧ 0 ≤ y ∧ x < 8 * w.size ∧ y < 8 * w.size):=fun hx=>by rw [h.2 hx] at hW;cases hW
  refine aF Tryz.func156 24 ?_
  conv=>whnf
  repeat' (first|exact trivial|((first|(refine ⟨fun hb=>?_,fun hb=>?_⟩<;>(try simp only [nrm] at hb)<;>try exact kZ hb)|refine kV ?_)<;>(conv=>whnf))|refine kY ?_ ?_)
  all_goals (refine congrArg Value.bool ?_;simp;omega)
theorem kh (p : Player) (x y : Int) (hx : 0 ≤ x ∧ x ≤ 1000) (hy : 0 ≤ y ∧ y ≤ 1000) (hpx : 0 ≤ p.x ∧ p.x ≤ 1000) (hpy : 0 ≤ p.y ∧ p.y ≤ 1000) : Api Tryz.prog 157 [aw p,i64 x,i64 y] (bol (d_ p x y)):=by
 have h : d_ p x y = true ↔ x - p.x ≤ 3 ∧ p.x - x ≤ 3 ∧ y - p.y ≤ 3 ∧ p.y - y ≤ 3:=by
  unfold d_
  rw [Bool.and_eq_true,decide_eq_true_eq,decide_eq_true_eq]
  omega
 cases hN : d_ p x y with
 | true =>
  obtain ⟨h1,h2,h3,h4⟩:=h.1 hN
  refine aF Tryz.func157 30 ?_
  conv=>whnf
  repeat' (first|exact trivial|((first|(refine ⟨fun hb=>?_,fun hb=>?_⟩<;>(try simp only [nrm] at hb)<;>try exact kZ hb)|refine kV ?_)<;>(conv=>whnf))|refine kY ?_ ?_)
  all_goals (refine congrArg Value.bool ?_;simp;omega)
 | false =>
  have h5 : ¬ (x - p.x ≤ 3 ∧ p.x - x ≤ 3 ∧ y - p.y ≤ 3 ∧ p.y - y ≤ 3):=fun hx=>by rw [h.2 hx] at hN;cases hN
  refine aF Tryz.func157 30 ?_
  conv=>whnf
  repeat' (first|exact trivial|((first|(refine ⟨fun hb=>?_,fun hb=>?_⟩<;>(try simp only [nrm] at hb)<;>try exact kZ hb)|refine kV ?_)<;>(conv=>whnf))|refine kY ?_ ?_)
  all_goals (refine congrArg Value.bool ?_;simp;omega)
theorem g_ (w : Wld) (x y : Int) (hw : OkW w) (hx : 0 ≤ x ∧ x ≤ 1000) (hy : 0 ≤ y ∧ y ≤ 1000) : Api Tryz.prog 161 [az w,i64 x,i64 y] (.tup [bq (aA w x y),i64 (aJ x y)]):=by
 have hch:=qy w (x / 8) (y / 8) hw
 unfold aA aJ
 generalize ba w (x / 8) (y / 8) = R at *
 refine aF Tryz.func161 23 ?_
 exact fA0
theorem io (w : Wld) (k : Chunk) (p : Player) (hw : OkW w) (hk : OkC k) (hf : fH k) (hp : OkP p) : Api Tryz.prog 163 [az w,bq k,aw p] (.tup [az (am (br w k).1 p).1,i64 0]):=by
 have h1:=D9 w k hw hk hf
 have h2:=dS (br w k).1 p (Cf hw hk hf) hp
 generalize am (br w k).1 p = S at *
 generalize br w k = U at *
 refine aF Tryz.func163 18 ?_
 exact fA0
theorem ta {K : Chunk} (h : ai K = true) : K.cells.length = 64:=(dK h).len
theorem zV (w : Wld) (p : Player) (c : Cmd) (h : bH w p) (hA : dF w p c.a c.b = 0) (hd : c.dol = 3) : Api Tryz.prog 158 [az w,aw p,co c] (.tup [az (okA w (dH w p c)).1,i64 (okA w (dH w p c)).2]):=by
 have hw:=bZ h.rw
 obtain ⟨hS,hI0⟩:=h.sound
 have hP:=bS hS
 obtain ⟨_,_,hPl,hPb,_⟩:=cm hS
 have hin:=(g6 hA).1
 have hab:=(a6 h.rw).1 hin
 have hsz:=h.rw.size
 have hch:=g_ w c.a c.b hw (by omega) (by omega)
 unfold dH
 rw [if_neg (not_not_intro hA)]
 obtain ⟨hK,hKx,hKy⟩:=cd h.rw hin
 have hI:=c9 c.a c.b
 have hmx:=fun {k : Chunk} (hx : k.x = (aA w c.a c.b).x) (hy : k.y = (aA w c.a c.b).y)=>my h hin hx hy
 generalize aA w c.a c.b = K at *
 generalize aJ c.a c.b = I at *
 have hlen:=ta hK
 have hbx:=ip K I (aS hK) (aV hK)
 have hcell:=(aS hK).cells _ (ao (t:=.u8) (l:=K.cells) (i:=I.toNat) (by omega))
 have hgv:=qu (bQ K I) hcell.1 hcell.2
 have hgb:=wj (bQ K I) hcell.1 hcell.2
 have hst:=uC K I 0 (aS hK) (aV hK) (by omega) (by omega)
 have hsr:=lv hK (t:=I) (i:=0) hI.1 hI.2
 have hxy:=rg K I 0
 have hpu:=fE p.bag (bL (bQ K I)) 1 (by omega) hP.bag hgb.1 hgb.2 (by omega) (by omega)
 have hpl:=da p.bag (bL (bQ K I)) 1
 have hpb:=fB (i:=bL (bQ K I)) (n:=1) hPb
 have hE : elt .u8 K.cells (I.toNat) = bQ K I:=rfl
 generalize c8 K I = X at *
 obtain ⟨X1,X2⟩:=X
 dsimp only at *
 by_cases h0 : bQ K I = 0
 ·rw [if_pos h0,bE (by decide)]
  have h0' : elt .u8 K.cells I.toNat = 0:=h0
  refine aF Tryz.func158 211 ?_
  exact fA0
 ·rw [if_neg h0]
  have h0' : ¬ elt .u8 K.cells I.toNat = 0:=h0
  have hmk:=hmx (k:=(cC K I 0).1) hxy.1 hxy.2
  have hput:=io w (cC K I 0).1 { p with bag:=(bk p.bag (bL (bQ K I)) 1).1 } hw (aS hsr) (aV hsr) (dU hP (aX hpb) (by omega))
  have hkp:=jb h (p':={ p with bag:=(bk p.bag (bL (bQ K I)) 1).1 }) rfl (fA hS (by omega) hpb) hI0 hsr hmk
  rw [hkp]
  clear hkp hmx hxy hsr hmk
  generalize cC K I 0 = S at *
  generalize bk p.bag (bL (bQ K I)) 1 = B at *
  obtain ⟨S1,S2⟩:=S
  obtain ⟨B1,B2⟩:=B
  dsimp only at *
  generalize am (br w S1).1 { p with bag:=B1 } = V at *
  by_cases hs0 : S2 = 0
  ·rw [if_neg (not_not_intro hs0)]
   by_cases hb0 : 0 < B2
   ·rw [if_pos hb0,bE (by decide)]
    refine aF Tryz.func158 211 ?_
    exact fA0
   ·rw [if_neg hb0,jA]
    refine aF Tryz.func158 211 ?_
    exact fA0
  ·rw [if_pos hs0,bE hs0]
   refine aF Tryz.func158 211 ?_
   exact fA0
open Go Go.RowKit Eng
theorem H4 {f : Player → Bool} {l : List Player} {k : Nat} (h : k < l.length) : (l.take (k + 1)).any f = ((l.take k).any f || f (elt .player l k)):=by
 rw [List.take_add_one,ar .player l k h,List.any_append]
 simp
theorem H5 {K : Chunk} (hK : ai K = true) {I i : Int} (hI : 0 ≤ I ∧ I < 64) (h0 : bQ K I = 0) (hi : cG i = true) : (cC K I i).2 = 0:=by
 rw [lu hK hI.1 hI.2,if_neg (by simp [cK,hi])]
 have hn : bu K.boxes I = none:=by
  have h:=wm hK hI.1 hI.2
  cases hg : bu K.boxes I with
  | none=>rfl
  | some s =>
   rw [hg] at h
   have:=h.2 rfl
   rw [show elt .u8 K.cells I.toNat = bQ K I from rfl,h0] at this
   cases this
 rw [if_neg (by unfold jr;rw [hn];simp)]
theorem zW (w : Wld) (p : Player) (c : Cmd) (h : bH w p) (hA : dF w p c.a c.b = 0) (hd : c.dol = 4) : Api Tryz.prog 158 [az w,aw p,co c] (.tup [az (okA w (dI w p c)).1,i64 (okA w (dI w p c)).2]):=by
 have hw:=bZ h.rw
 have hnp:=hw.np
 obtain ⟨hS,hI0⟩:=h.sound
 have hP:=bS hS
 obtain ⟨_,_,hPl,hPb,_⟩:=cm hS
 have hin:=(g6 hA).1
 have hab:=(a6 h.rw).1 hin
 have hsz:=h.rw.size
 have hch:=g_ w c.a c.b hw (by omega) (by omega)
 unfold dI
 rw [if_neg (not_not_intro hA)]
 obtain ⟨hK,hKx,hKy⟩:=cd h.rw hin
 have hI:=c9 c.a c.b
 have hmx:=fun {k : Chunk} (hx : k.x = (aA w c.a c.b).x) (hy : k.y = (aA w c.a c.b).y)=>my h hin hx hy
 generalize aA w c.a c.b = K at *
 generalize aJ c.a c.b = I at *
 have hlen:=ta hK
 have hbx:=ip K I (aS hK) (aV hK)
 have htk:=iw p.bag c.c 1 (by omega) hP.bag
 have hT1:=fK (a:=c.c) (n:=1) hP.bag
 have hTn:=fm (l:=p.bag) (a:=c.c) (n:=1)
 have hTl:=g9 p.bag c.c 1
 have hE : elt .u8 K.cells (I.toNat) = bQ K I:=rfl
 have hbl:=jz (aj p.bag c.c 1).2.1.item hT1.1.1 hT1.1.2
 generalize c8 K I = X at *
 obtain ⟨X1,X2⟩:=X
 dsimp only at *
 by_cases h1 : (aj p.bag c.c 1).2.2 = 0
 ·rw [if_neg (not_not_intro h1)]
  obtain ⟨n1,n2,n3,n4,n5,n6,n7,n8⟩:=hTn h1
  have hb2 : an (aj p.bag c.c 1).1 = true:=by rw [n8];exact im n4 (by omega) n2 n7
  rw [h1] at htk
  have hst:=uC K I (aj p.bag c.c 1).2.1.item (aS hK) (aV hK) hT1.1.1 hT1.1.2
  have hsr:=lv hK (t:=I) (i:=(aj p.bag c.c 1).2.1.item) hI.1 hI.2
  have hxy:=rg K I (aj p.bag c.c 1).2.1.item
  have hsf:=fun h0 hi=>H5 (i:=(aj p.bag c.c 1).2.1.item) hK hI h0 hi
  have hmk:=hmx (k:=(cC K I (aj p.bag c.c 1).2.1.item).1) hxy.1 hxy.2
  have hput:=io w (cC K I (aj p.bag c.c 1).2.1.item).1 { p with bag:=(aj p.bag c.c 1).1 } hw (aS hsr) (aV hsr) (dU hP hT1.2 (by omega))
  have hkp:=jb h (p':={ p with bag:=(aj p.bag c.c 1).1 }) rfl (fA hS (by omega) hb2) hI0 hsr hmk
  rw [hkp]
  clear hkp hmx hxy hsr hmk n8 hb2
  generalize cC K I (aj p.bag c.c 1).2.1.item = S at *
  generalize aj p.bag c.c 1 = T at *
  obtain ⟨S1,S2⟩:=S
  obtain ⟨T1,T2,T3⟩:=T
  dsimp only at *
  generalize am (br w S1).1 { p with bag:=T1 } = V at *
  cases hB : cG T2.item with
  | false =>
   rw [hB] at hbl
   rw [if_pos rfl,bE (by decide)]
   refine aF Tryz.func158 211 ?_
   exact fA0
  | true =>
   rw [hB] at hbl
   rw [if_neg (by simp)]
   have hno : bQ K I = 0 → S2 = 0:=fun h0=>hsf h0 hB
   have hres : (if ¬ bQ K I = 0 ∨ w.players.any (dq c) = true then (w,(107 : Int)) else if ¬ S2 = 0 then (w,S2) else (V.1,0)) = if (decide (bQ K I = 0) && !(w.players.any (dq c))) = true then (V.1,0) else (w,107):=by
    by_cases h0 : bQ K I = 0
    ·cases hA2 : w.players.any (dq c)
     ·rw [if_neg (by simp [h0]),if_neg (by simp [hno h0]),if_pos (by simp [h0])]
     ·rw [if_pos (.inr rfl),if_neg (by simp)]
    ·rw [if_pos (.inl h0),if_neg (by simp [h0])]
   rw [hres]
   clear hres
   refine aF Tryz.func158 211 ?_
   conv=>whnf
   repeat' (first|exact trivial|((first|(refine ⟨fun hb=>?_,fun hb=>?_⟩<;>(try simp only [nrm] at hb)<;>try exact kZ hb)|refine kV ?_)<;>(conv=>whnf))|refine kY ?_ ?_)
   refine ap.loopS ah (σ:=Nat × Bool) [3,4,5,6,8,9,17,18,20,21] (fun (k,b)=>[.ptr 6 0,.ptr 8 0,.ptr 10 0,.ptr 12 0,.ptr 16 0,i64 I,.vec .slot T1,.ptr 36 0,bol b,i64 k])
    (fun _=>[(6,.box (bA w)),(8,.box (B4 p)),(10,.box (LK c)),(12,.box eX),(16,.box (bB K)),(36,.box [.lit (.int .u8 T2.item),.lit (.int .i64 T2.n)])])
    (fun (k,b)=>k ≤ w.players.length ∧ b = (decide (bQ K I = 0) && !((w.players.take k).any (dq c)))) (fun (k,_)=>w.players.length - k) (0,decide (bQ K I = 0)) ⟨by omega,by simp⟩ ?_ ?_
   ·conv=>whnf
    repeat' (first|exact trivial|((first|(refine ⟨fun hb=>?_,fun hb=>?_⟩<;>(try simp only [nrm] at hb)<;>try exact kZ hb)|refine kV ?_)<;>(conv=>whnf))|refine kY ?_ ?_)
    all_goals first|rfl|(refine congrArg Value.bool ?_;rw [Bool.eq_iff_iff];simp;done)|trace_state
   ·rintro ⟨k,b⟩ ⟨hk,hv⟩
    try dsimp only at hk hv
    by_cases hlt : k < w.players.length
    ·have q0 : (elt .player w.players (k : Int).toNat).x = (elt .player w.players k).x:=rfl
     have q1 : (elt .player w.players (k : Int).toNat).y = (elt .player w.players k).y:=rfl
     have hn:=H4 (f:=dq c) hlt
     have hsd : dq c (elt .player w.players k) = (decide ((elt .player w.players k).x = c.a) && decide ((elt .player w.players k).y = c.b)):=rfl
     cases b with
     | false =>
      have hf2 : false = (decide (bQ K I = 0) && !((w.players.take (k + 1)).any (dq c))):=by
       rw [hn]
       cases hd0 : decide (bQ K I = 0)
       ·rfl
       ·rw [hd0,Bool.true_and] at hv
        cases hf : (w.players.take k).any (dq c)
        ·rw [hf] at hv;cases hv
        ·rfl
      conv=>whnf
      repeat' (first|exact trivial|((first|(refine ⟨fun hb=>?_,fun hb=>?_⟩<;>(try simp only [nrm] at hb)<;>try exact kZ hb)|refine kV ?_)<;>(conv=>whnf))|refine kY ?_ ?_)
      refine .to (k + 1,false) ⟨hlt,hf2⟩ (by first|omega|(dsimp only;omega)) ?_
      exact fD0
     | true =>
      have hb2 : decide (bQ K I = 0) = true ∧ (w.players.take k).any (dq c) = false:=by simpa using hv.symm
      by_cases e1 : (elt .player w.players k).x = c.a ∧ (elt .player w.players k).y = c.b
      ·obtain ⟨e1,e2⟩:=e1
       conv=>whnf
       repeat' (first|exact trivial|((first|(refine ⟨fun hb=>?_,fun hb=>?_⟩<;>(try simp only [nrm] at hb)<;>try exact kZ hb)|refine kV ?_)<;>(conv=>whnf))|refine kY ?_ ?_)
       refine .to (k + 1,false) ⟨hlt,by (try dsimp only);rw [hn,hsd,e1,e2];simp⟩ (by first|omega|(dsimp only;omega)) ?_
       conv=>whnf
       repeat' (first|exact trivial|((first|(refine ⟨fun hb=>?_,fun hb=>?_⟩<;>(try simp only [nrm] at hb)<;>try exact kZ hb)|refine kV ?_)<;>(conv=>whnf))|refine kY ?_ ?_)
       all_goals first|rfl|(refine congrArg Value.bool ?_;rw [q1,e2];simp;done)|trace_state
      ·have e2 : (elt .player w.players k).x = c.a → ¬ (elt .player w.players k).y = c.b:=fun h1 h2=>e1 ⟨h1,h2⟩
       conv=>whnf
       repeat' (first|exact trivial|((first|(refine ⟨fun hb=>?_,fun hb=>?_⟩<;>(try simp only [nrm] at hb)<;>try exact kZ hb)|refine kV ?_)<;>(conv=>whnf))|refine kY ?_ ?_)
       all_goals
        refine .to (k + 1,true) ⟨hlt,by (try dsimp only);rw [hn,hsd,hb2.1,hb2.2];simp;omega⟩ (by first|omega|(dsimp only;omega)) ?_
        conv=>whnf
        repeat' (first|exact trivial|((first|(refine ⟨fun hb=>?_,fun hb=>?_⟩<;>(try simp only [nrm] at hb)<;>try exact kZ hb)|refine kV ?_)<;>(conv=>whnf))|refine kY ?_ ?_)
        all_goals first|rfl|(refine congrArg Value.bool ?_;rw [q1];simp;omega)|trace_state
    ·obtain rfl : k = w.players.length:=by omega
     rw [List.take_length] at hv
     rw [← hv]
     cases b with
     | false =>
      rw [if_neg (by simp),bE (by decide)]
      exact fD0
     | true =>
      rw [if_pos rfl,jA]
      exact fD0
 ·rw [if_pos h1,bE h1]
  generalize aj p.bag c.c 1 = T at *
  obtain ⟨T1,T2,T3⟩:=T
  dsimp only at *
  refine aF Tryz.func158 211 ?_
  exact fA0
theorem A5 (w : Wld) (p : Player) (h : bH w p) : Api Tryz.prog 159 [az w,aw p] (.tup [az (okA w (eC w p)).1,i64 (okA w (eC w p)).2]):=by
 have hw:=bZ h.rw
 obtain ⟨hS,hI0⟩:=h.sound
 have hP:=bS hS
 obtain ⟨_,_,hPl,hPb,_⟩:=cm hS
 have hab:=(a6 h.rw).1 hI0
 have hsz:=h.rw.size
 have hch:=g_ w p.x p.y hw (by omega) (by omega)
 unfold eC
 dsimp only
 obtain ⟨hK,hKx,hKy⟩:=cd h.rw hI0
 have hI:=c9 p.x p.y
 have hmx:=fun {k : Chunk} (hx : k.x = (aA w p.x p.y).x) (hy : k.y = (aA w p.x p.y).y)=>my h hI0 hx hy
 generalize aA w p.x p.y = K at *
 generalize aJ p.x p.y = I at *
 have hli:=Be K I (aS hK) (aV hK)
 have hL:=oG hK I
 have hh:=oN hK I
 have hlx:=zv K I
 generalize cE K I = G at *
 obtain ⟨K0,L⟩:=G
 dsimp only at *
 have hLl : L.length ≤ 32:=by omega
 by_cases h0 : L.length = 0
 ·rw [if_pos h0,bE (by decide)]
  refine aF Tryz.func159 88 ?_
  exact fA0
 ·rw [if_neg h0]
  obtain ⟨i1,i2,i3,i4,i5,_⟩:=gu I hI L K0 p.bag false hL.1 hPb hL.2 hh
  have hmk:=hmx (k:=(bD I L (K0,p.bag,false)).1) (i4.trans hlx.1) (i5.trans hlx.2)
  have hput:=io w (bD I L (K0,p.bag,false)).1 { p with bag:=(bD I L (K0,p.bag,false)).2.1 } hw (aS i1) (aV i1) (dU hP (aX i2) (by omega))
  have hkp:=jb h (p':={ p with bag:=(bD I L (K0,p.bag,false)).2.1 }) rfl (fA hS (by omega) i2) hI0 i1 hmk
  rw [hkp]
  clear hkp hmx hmk
  generalize hV : (am (br w (bD I L (K0,p.bag,false)).1).1 { p with bag:=(bD I L (K0,p.bag,false)).2.1 }).1 = V at *
  clear hV
  refine aF Tryz.func159 88 ?_
  conv=>whnf
  repeat' (first|exact trivial|((first|(refine ⟨fun hb=>?_,fun hb=>?_⟩<;>(try simp only [nrm] at hb)<;>try exact kZ hb)|refine kV ?_)<;>(conv=>whnf))|refine kY ?_ ?_)
  refine ap.loopS ah (σ:=Nat) [2,3,4,6,7,8,9,10] (fun k=>[.ptr 4 0,.ptr 6 0,.ptr 8 0,.ptr 12 0,i64 I,.vec .slot L,bol (bD I (L.take k) (K0,p.bag,false)).2.2,i64 k])
   (fun k=>[(4,.box (bA w)),(6,.box (B4 { p with bag:=(bD I (L.take k) (K0,p.bag,false)).2.1 })),(8,.box eX),(12,.box (bB (bD I (L.take k) (K0,p.bag,false)).1))]) (fun k=>k ≤ L.length) (fun k=>L.length - k) 0 (by omega) ?_ ?_
  ·exact fD0
  ·intro k hk
   by_cases hlt : k < L.length
   ·have hsl:=hL.2 _ (ao (t:=.slot) hlt)
    obtain ⟨hs1,hs2,hs3⟩:=gZ hsl
    have q0 : (elt .slot L (k : Int).toNat).n = (elt .slot L k).n:=rfl
    obtain ⟨j1,j2,j3,_,_,_⟩:=gu I hI (L.take k) K0 p.bag false hL.1 hPb (fun s hs=>hL.2 s (List.mem_of_mem_take hs)) (by rw [List.length_take];omega)
    obtain ⟨⟨A1,A2,A3⟩,hA⟩ : ∃ A,A = bD I (L.take k) (K0,p.bag,false):=⟨_,rfl⟩
    have hN:=lj hlt hA.symm
    rw [← hA] at j1 j2 j3 ⊢
    dsimp only at j1 j2 j3 ⊢
    clear hA
    have hpu:=fE A2 (elt .slot L k).item (elt .slot L k).n (by omega) (aX j2) hs1.1 hs1.2 (by omega) (by omega)
    have hle:=eT (l:=A2) (i:=(elt .slot L k).item) (n:=(elt .slot L k).n) (by omega)
    generalize bk A2 (elt .slot L k).item (elt .slot L k).n = Q at *
    obtain ⟨Q1,Q2⟩:=Q
    dsimp only at *
    have hdr:=sj A1 I ⟨(elt .slot L k).item,Q2⟩ (aS j1) (aV j1) hs1
    generalize b9 A1 I ⟨(elt .slot L k).item,Q2⟩ = D at *
    obtain ⟨D1,D2⟩:=D
    dsimp only at *
    by_cases hq : 0 < Q2
    ·rw [if_pos hq] at hN
     cases A3
     all_goals
      conv=>whnf
      repeat' (first|exact trivial|((first|(refine ⟨fun hb=>?_,fun hb=>?_⟩<;>(try simp only [nrm] at hb)<;>try exact kZ hb)|refine kV ?_)<;>(conv=>whnf))|refine kY ?_ ?_)
      all_goals
       refine .to (k + 1) hlt (by omega) ?_
       rw [hN]
       conv=>whnf
       repeat' (first|exact trivial|((first|(refine ⟨fun hb=>?_,fun hb=>?_⟩<;>(try simp only [nrm] at hb)<;>try exact kZ hb)|refine kV ?_)<;>(conv=>whnf))|refine kY ?_ ?_)
       all_goals first|rfl|(refine congrArg Value.bool ?_;simp_all;done)|(refine congrArg Value.bool ?_;simp_all;omega)|trace_state
    ·rw [if_neg hq] at hN
     cases A3
     all_goals
      conv=>whnf
      repeat' (first|exact trivial|((first|(refine ⟨fun hb=>?_,fun hb=>?_⟩<;>(try simp only [nrm] at hb)<;>try exact kZ hb)|refine kV ?_)<;>(conv=>whnf))|refine kY ?_ ?_)
      all_goals
       refine .to (k + 1) hlt (by omega) ?_
       rw [hN]
       conv=>whnf
       repeat' (first|exact trivial|((first|(refine ⟨fun hb=>?_,fun hb=>?_⟩<;>(try simp only [nrm] at hb)<;>try exact kZ hb)|refine kV ?_)<;>(conv=>whnf))|refine kY ?_ ?_)
       all_goals first|rfl|(refine congrArg Value.bool ?_;simp_all;done)|(refine congrArg Value.bool ?_;simp_all;omega)|trace_state
   ·obtain rfl : k = L.length:=by omega
    rw [List.take_length]
    generalize bD I L (K0,p.bag,false) = R at *
    obtain ⟨R1,R2,R3⟩:=R
    dsimp only at *
    cases R3 with
    | false =>
     rw [if_pos rfl,bE (by decide)]
     exact fD0
    | true =>
     rw [if_neg (by simp),jA]
     exact fD0
theorem qn (w : Wld) (p : Player) (c : Cmd) (h : bH w p) (hA : dF w p c.a c.b = 0) (hd : c.dol = 7 ∨ c.dol = 8) : Api Tryz.prog 158 [az w,aw p,co c] (.tup [az (okA w (ee w p c)).1,i64 (okA w (ee w p c)).2]):=by
 have hw:=bZ h.rw
 obtain ⟨hS,hI0⟩:=h.sound
 have hP:=bS hS
 obtain ⟨_,_,hPl,hPb,_⟩:=cm hS
 have hin:=(g6 hA).1
 have hab:=(a6 h.rw).1 hin
 have hsz:=h.rw.size
 have hch:=g_ w c.a c.b hw (by omega) (by omega)
 unfold ee
 rw [if_neg (not_not_intro hA)]
 obtain ⟨hK,hKx,hKy⟩:=cd h.rw hin
 have hI:=c9 c.a c.b
 have hmx:=fun {k : Chunk} (hx : k.x = (aA w c.a c.b).x) (hy : k.y = (aA w c.a c.b).y)=>my h hin hx hy
 generalize aA w c.a c.b = K at *
 generalize aJ c.a c.b = I at *
 have hlen:=ta hK
 have hbx:=ip K I (aS hK) (aV hK)
 cases hB : (c8 K I).2 with
 | false =>
  rw [if_pos rfl,bE (by decide)]
  rw [hB] at hbx
  generalize (c8 K I).1 = X at *
  refine aF Tryz.func158 211 ?_
  exact fA0
 | true =>
  rw [if_neg (by simp)]
  rw [hB] at hbx
  obtain ⟨hx1,hx2⟩:=pU hK hB
  have hx3:=aX hx2
  have hgB : (bu K.boxes I).isSome = true:=by have e:=g8 hK I;rw [e] at hB;exact hB
  have hff : ∀ l : List aa,l.length = 6 → an l = true → (ct K I l).2 = 0:=fun l h6 hb=>by
   rw [kd hK,if_neg (by rw [hgB];simp),if_neg (by unfold jq;rw [hb,decide_eq_true (by omega)];simp)]
  generalize (c8 K I).1 = X at *
  dsimp only
  rcases hd with hd|hd
  ·rw [if_pos hd,if_pos hd,if_pos hd]
   have htk:=iw p.bag c.c c.n (by omega) hP.bag
   have hT:=fK (a:=c.c) (n:=c.n) hP.bag
   have hTn:=fm (l:=p.bag) (a:=c.c) (n:=c.n)
   have hTl:=g9 p.bag c.c c.n
   unfold cA
   by_cases h1 : (aj p.bag c.c c.n).2.2 = 0
   ·rw [if_neg (not_not_intro h1)]
    obtain ⟨n1,n2,n3,n4,n5,n6,n7,n8⟩:=hTn h1
    have hb2 : an (aj p.bag c.c c.n).1 = true:=by rw [n8];exact im n4 (by omega) n2 n7
    have hpu:=fE X (aj p.bag c.c c.n).2.1.item (aj p.bag c.c c.n).2.1.n (by omega) hx3 hT.1.1 hT.1.2 (by omega) (by omega)
    have hpl:=da X (aj p.bag c.c c.n).2.1.item (aj p.bag c.c c.n).2.1.n
    have hpb:=fB (i:=(aj p.bag c.c c.n).2.1.item) (n:=(aj p.bag c.c c.n).2.1.n) hx2
    rw [h1] at htk
    clear n8
    generalize bk X (aj p.bag c.c c.n).2.1.item (aj p.bag c.c c.n).2.1.n = B at *
    generalize aj p.bag c.c c.n = T at *
    obtain ⟨T1,T2,T3⟩:=T
    obtain ⟨B1,B2⟩:=B
    dsimp only at *
    by_cases h2 : 0 < B2
    ·rw [if_pos h2,if_pos (by decide),bE (by decide)]
     refine aF Tryz.func158 211 ?_
     exact fA0
    ·rw [if_neg h2,if_neg (by simp)]
     have hff1:=hff B1 (by omega) hpb
     rw [if_neg (not_not_intro hff1)]
     have hfi:=sk K I B1 (aS hK) (aV hK) (by omega) (aX hpb)
     have hK1:=lm hK I B1
     have hxy:=oM K I B1
     have hmk:=hmx (k:=(ct K I B1).1) hxy.1 hxy.2
     have hput:=io w (ct K I B1).1 { p with bag:=T1 } hw (aS hK1) (aV hK1) (dU hP (aX hb2) (by omega))
     have hkp:=jb h (p':={ p with bag:=T1 }) rfl (fA hS (by omega) hb2) hI0 hK1 hmk
     dsimp only
     rw [hkp,jA]
     generalize ct K I B1 = S at *
     generalize (am (br w S.1).1 { p with bag:=T1 }).1 = V at *
     obtain ⟨S1,S2⟩:=S
     dsimp only at *
     refine aF Tryz.func158 211 ?_
     exact fA0
   ·rw [if_pos h1,if_pos h1,bE h1]
    generalize aj p.bag c.c c.n = T at *
    obtain ⟨T1,T2,T3⟩:=T
    dsimp only at *
    refine aF Tryz.func158 211 ?_
    exact fA0
  ·have hd7 : ¬ c.dol = 7:=by omega
   rw [if_neg hd7,if_neg hd7,if_neg hd7]
   have htk:=iw X c.c c.n (by omega) hx3
   have hT:=fK (a:=c.c) (n:=c.n) hx3
   have hTn:=fm (l:=X) (a:=c.c) (n:=c.n)
   have hTl:=g9 X c.c c.n
   unfold cA
   by_cases h1 : (aj X c.c c.n).2.2 = 0
   ·rw [if_neg (not_not_intro h1)]
    obtain ⟨n1,n2,n3,n4,n5,n6,n7,n8⟩:=hTn h1
    have hb2 : an (aj X c.c c.n).1 = true:=by rw [n8];exact im n4 (by omega) n2 n7
    have hpu:=fE p.bag (aj X c.c c.n).2.1.item (aj X c.c c.n).2.1.n (by omega) hP.bag hT.1.1 hT.1.2 (by omega) (by omega)
    have hpl:=da p.bag (aj X c.c c.n).2.1.item (aj X c.c c.n).2.1.n
    have hpb:=fB (i:=(aj X c.c c.n).2.1.item) (n:=(aj X c.c c.n).2.1.n) hPb
    rw [h1] at htk
    clear n8
    generalize bk p.bag (aj X c.c c.n).2.1.item (aj X c.c c.n).2.1.n = B at *
    generalize aj X c.c c.n = T at *
    obtain ⟨T1,T2,T3⟩:=T
    obtain ⟨B1,B2⟩:=B
    dsimp only at *
    by_cases h2 : 0 < B2
    ·rw [if_pos h2,if_pos (by decide),bE (by decide)]
     refine aF Tryz.func158 211 ?_
     exact fA0
    ·rw [if_neg h2,if_neg (by simp)]
     have hff1:=hff T1 (by omega) hb2
     rw [if_neg (not_not_intro hff1)]
     have hfi:=sk K I T1 (aS hK) (aV hK) (by omega) (aX hb2)
     have hK1:=lm hK I T1
     have hxy:=oM K I T1
     have hmk:=hmx (k:=(ct K I T1).1) hxy.1 hxy.2
     have hput:=io w (ct K I T1).1 { p with bag:=B1 } hw (aS hK1) (aV hK1) (dU hP (aX hpb) (by omega))
     have hkp:=jb h (p':={ p with bag:=B1 }) rfl (fA hS (by omega) hpb) hI0 hK1 hmk
     dsimp only
     rw [hkp,jA]
     generalize ct K I T1 = S at *
     generalize (am (br w S.1).1 { p with bag:=B1 }).1 = V at *
     obtain ⟨S1,S2⟩:=S
     dsimp only at *
     refine aF Tryz.func158 211 ?_
     exact fA0
   ·rw [if_pos h1,if_pos h1,bE h1]
    generalize aj X c.c c.n = T at *
    obtain ⟨T1,T2,T3⟩:=T
    dsimp only at *
    refine aF Tryz.func158 211 ?_
    exact fA0
open Go Go.RowKit Eng
theorem F7 (p q : Player) (a n : Int) : (cB p q a n).1.id = p.id ∧ (cB p q a n).2.1.id = q.id:=by
 unfold cB;(repeat' split)<;>exact ⟨rfl,rfl⟩
theorem F8 (p q : Player) : (bo p q).1.id = p.id ∧ (bo p q).2.1.id = q.id:=by
 unfold bo;(repeat' split)<;>exact ⟨rfl,rfl⟩
theorem DU (p q : Player) : (b6 p q).1.id = p.id ∧ (b6 p q).2.1.id = q.id:=by
 unfold b6;(repeat' split)<;>exact ⟨rfl,rfl⟩
theorem ut {w : Wld} {p q : Player} (hp : bH w p) (hq : fD w q) (hne : ¬ p.id = q.id) : bH (cR w (ck w.players q)) p:=
 ⟨qd hq,by show aH pid (ck w.players q) p.id = some p;rw [eU hp.rw.rp,if_neg hne];exact hp.get⟩
theorem qo {w : Wld} {p q a b : Player} (hp : bH w p) (hq : bH w q) (hne : ¬ p.id = q.id) (ha : a.id = p.id) (hb : b.id = q.id) (sa : bV a = true) (sb : bV b = true) (ax : a.x = p.x ∧ a.y = p.y) (bx : b.x = q.x ∧ b.y = q.y) :
  (am w b).2 = 0 ∧ (am (am w b).1 a).2 = 0 ∧ (am (am w a).1 b).1 = (am (am w b).1 a).1:=by
 have s1 : a7 a = true:=(Bool.and_eq_true _ _ ▸ sa).1
 have s2 : a7 b = true:=(Bool.and_eq_true _ _ ▸ sb).1
 have oa : fD w a:=⟨hp.rw,s1,by rw [ax.1,ax.2];exact hp.sound.2,.inl (by rw [ha,hp.get];rfl)⟩
 have ob : fD w b:=⟨hp.rw,s2,by rw [bx.1,bx.2];exact hq.sound.2,.inl (by rw [hb,hq.get];rfl)⟩
 have hp2:=ut hp ob (by rw [hb];exact hne)
 have hq2:=ut hq oa (by rw [ha];exact fun e=>hne e.symm)
 have e1:=iv oa
 have e2:=iv ob
 have e3:=jX hp2 ha s1 (by rw [ax.1,ax.2];exact hp.sound.2)
 have e4:=jX hq2 hb s2 (by rw [bx.1,bx.2];exact hq.sound.2)
 rw [e1,e2]
 dsimp only
 rw [e3,e4]
 refine ⟨rfl,rfl,?_⟩
 have:=set_comm hp.rw (p:=a) (q:=b) (by rw [ha,hb];exact hne)
 dsimp only [cR]
 rw [this]
theorem uv {w : Wld} (hR : RW w) {id : Int} (h : (ag w id).2 = true) : bH w (ag w id).1:=(ri hR h).1
theorem zX (w : Wld) (p : Player) (c : Cmd) (h : bH w p) (hd : c.dol = 11) : Api Tryz.prog 166 [az w,aw p,co c] (.tup [az (okA w (cz w p c)).1,i64 (okA w (cz w p c)).2]):=by
 have hw:=bZ h.rw
 obtain ⟨hS,hI0⟩:=h.sound
 have hP:=bS hS
 have hpm:=eD h.rw hS hI0
 have hxy:=(a6 h.rw).1 hI0
 have hs:=h.rw.size
 obtain ⟨d,ca,cb,cc,cn⟩:=c
 dsimp only at hd
 subst hd
 have hpl:=db w ca hw
 unfold cz
 dsimp only
 rw [if_pos rfl,if_pos rfl,if_pos rfl]
 cases hB : (ag w ca).2 with
 | false =>
  rw [hB] at hpl
  rw [if_pos rfl,bE (by decide)]
  generalize (ag w ca).1 = q at *
  refine aF Tryz.func166 89 ?_
  exact fA0
 | true =>
  rw [hB] at hpl
  rw [if_neg (by simp)]
  have hqh:=uv h.rw hB
  generalize (ag w ca).1 = q at *
  have hqs:=hqh.sound
  have hqy:=(a6 h.rw).1 hqs.2
  have hqM:=eD h.rw hqs.1 hqs.2
  have hne:=kh p q.x q.y (by omega) (by omega) (by omega) (by omega)
  have hcl:=DZ p q cc cn hP (dx hqM)
  have hmm:=wc hpm hqM cc cn
  have hid:=F7 p q cc cn
  have hpp:=HI p q cc cn
  have hsm:=fun e : p.id = q.id=>oH e cc cn
  cases hN : d_ p q.x q.y with
  | false =>
   rw [hN] at hne
   rw [if_pos ⟨by decide,rfl⟩,bE (by decide)]
   refine aF Tryz.func166 89 ?_
   exact fA0
  | true =>
   rw [hN] at hne
   rw [if_neg (fun h=>by cases h.2)]
   by_cases hid0 : p.id = q.id
   ·rw [hsm hid0] at hcl ⊢
    dsimp only at *
    rw [if_pos (by decide),bE (by decide)]
    refine aF Tryz.func166 89 ?_
    exact fA0
   ·obtain ⟨d1,d2,d3⟩:=qo h hqh hid0 hid.1 hid.2 hmm.1 hmm.2 ⟨hpp.1,hpp.2.1⟩ ⟨hpp.2.2.1,hpp.2.2.2⟩
    have oa:=dx hmm.1
    have ob:=dx hmm.2
    clear hsm hpp hid hmm
    generalize cB p q cc cn = T at *
    obtain ⟨T1,T2,T3⟩:=T
    dsimp only at *
    have hs1:=dS w T1 hw oa
    have hs2:=dS (am w T1).1 T2 (lR hw oa) ob
    rw [d3] at hs2
    by_cases ht : T3 = 0
    ·subst ht
     rw [if_neg (not_not_intro rfl),if_neg (not_not_intro d1)]
     have e : okA w (am (am w T2).1 T1) = ((am (am w T2).1 T1).1,0):=by unfold okA;rw [if_pos d2]
     rw [e]
     clear e d1 d2 d3
     generalize am (am w T2).1 T1 = V at *
     generalize am (am w T1).1 T2 = V2 at *
     generalize am w T1 = U at *
     refine aF Tryz.func166 89 ?_
     exact fA0
    ·rw [if_pos ht,bE ht]
     refine aF Tryz.func166 89 ?_
     exact fA0
theorem zY (w : Wld) (p : Player) (c : Cmd) (h : bH w p) (hd : c.dol = 12) : Api Tryz.prog 166 [az w,aw p,co c] (.tup [az (okA w (cz w p c)).1,i64 (okA w (cz w p c)).2]):=by
 have hw:=bZ h.rw
 obtain ⟨hS,hI0⟩:=h.sound
 have hP:=bS hS
 have hpm:=eD h.rw hS hI0
 have hxy:=(a6 h.rw).1 hI0
 have hs:=h.rw.size
 obtain ⟨d,ca,cb,cc,cn⟩:=c
 dsimp only at hd
 subst hd
 have hpl:=db w p.wth hw
 unfold cz
 dsimp only
 simp only [Int.reduceEq,reduceIte,not_false_eq_true,not_true_eq_false,true_and,false_and]
 cases hB : (ag w p.wth).2 with
 | false =>
  rw [hB] at hpl
  rw [if_pos rfl,bE (by decide)]
  generalize (ag w p.wth).1 = q at *
  refine aF Tryz.func166 89 ?_
  exact fA0
 | true =>
  rw [hB] at hpl
  rw [if_neg (by simp)]
  have hqh:=uv h.rw hB
  generalize (ag w p.wth).1 = q at *
  have hqs:=hqh.sound
  have hqy:=(a6 h.rw).1 hqs.2
  have hqM:=eD h.rw hqs.1 hqs.2
  have hne:=kh p q.x q.y (by omega) (by omega) (by omega) (by omega)
  have hcl:=D0 p q hP (dx hqM)
  have hmm:=wd hpm hqM
  have hid:=F8 p q
  have hpp:=HJ p q
  have hsm:=fun e : p.id = q.id=>oI e
  cases hN : d_ p q.x q.y with
  | false =>
   rw [hN] at hne
   rw [if_pos rfl,bE (by decide)]
   refine aF Tryz.func166 89 ?_
   exact fA0
  | true =>
   rw [hN] at hne
   rw [if_neg (by simp)]
   by_cases hid0 : p.id = q.id
   ·rw [hsm hid0] at hcl ⊢
    dsimp only at *
    rw [if_pos (by decide),bE (by decide)]
    refine aF Tryz.func166 89 ?_
    exact fA0
   ·obtain ⟨d1,d2,d3⟩:=qo h hqh hid0 hid.1 hid.2 hmm.1 hmm.2 ⟨hpp.1,hpp.2.1⟩ ⟨hpp.2.2.1,hpp.2.2.2⟩
    have oa:=dx hmm.1
    have ob:=dx hmm.2
    clear hsm hpp hid hmm
    generalize bo p q = T at *
    obtain ⟨T1,T2,T4,T3⟩:=T
    dsimp only at *
    have hs1:=dS w T1 hw oa
    have hs2:=dS (am w T1).1 T2 (lR hw oa) ob
    rw [d3] at hs2
    by_cases ht : T3 = 0
    ·subst ht
     rw [if_neg (not_not_intro rfl),if_neg (not_not_intro d1)]
     have e : okA w (am (am w T2).1 T1) = ((am (am w T2).1 T1).1,0):=by unfold okA;rw [if_pos d2]
     rw [e]
     clear e d1 d2 d3
     generalize am (am w T2).1 T1 = V at *
     generalize am (am w T1).1 T2 = V2 at *
     generalize am w T1 = U at *
     refine aF Tryz.func166 89 ?_
     exact fA0
    ·rw [if_pos ht,bE ht]
     refine aF Tryz.func166 89 ?_
     exact fA0
theorem w9 (w : Wld) (p : Player) (c : Cmd) (h : bH w p) (hd : c.dol = 13) : Api Tryz.prog 166 [az w,aw p,co c] (.tup [az (okA w (cz w p c)).1,i64 (okA w (cz w p c)).2]):=by
 have hw:=bZ h.rw
 obtain ⟨hS,hI0⟩:=h.sound
 have hP:=bS hS
 have hpm:=eD h.rw hS hI0
 have hxy:=(a6 h.rw).1 hI0
 have hs:=h.rw.size
 obtain ⟨d,ca,cb,cc,cn⟩:=c
 dsimp only at hd
 subst hd
 have hpl:=db w p.wth hw
 unfold cz
 dsimp only
 simp only [Int.reduceEq,reduceIte,not_false_eq_true,not_true_eq_false,true_and,false_and]
 cases hB : (ag w p.wth).2 with
 | false =>
  rw [hB] at hpl
  rw [if_pos rfl,bE (by decide)]
  generalize (ag w p.wth).1 = q at *
  refine aF Tryz.func166 89 ?_
  exact fA0
 | true =>
  rw [hB] at hpl
  rw [if_neg (by simp)]
  have hqh:=uv h.rw hB
  generalize (ag w p.wth).1 = q at *
  have hqs:=hqh.sound
  have hqy:=(a6 h.rw).1 hqs.2
  have hqM:=eD h.rw hqs.1 hqs.2
  have hne:=kh p q.x q.y (by omega) (by omega) (by omega) (by omega)
  have hcl:=Bb p q hP (dx hqM)
  have hmm:=tZ hpm hqM
  have hid:=DU p q
  have hpp:=FE p q
  have hsm:=fun e : p.id = q.id=>rS e
  by_cases hid0 : p.id = q.id
  ·rw [hsm hid0] at hcl ⊢
   dsimp only at *
   rw [if_pos (by decide),bE (by decide)]
   refine aF Tryz.func166 89 ?_
   exact fA0
  ·obtain ⟨d1,d2,d3⟩:=qo h hqh hid0 hid.1 hid.2 hmm.1 hmm.2 ⟨hpp.1,hpp.2.1⟩ ⟨hpp.2.2.1,hpp.2.2.2⟩
   have oa:=dx hmm.1
   have ob:=dx hmm.2
   clear hsm hpp hid hmm
   generalize b6 p q = T at *
   obtain ⟨T1,T2,T3⟩:=T
   dsimp only at *
   have hs1:=dS w T1 hw oa
   have hs2:=dS (am w T1).1 T2 (lR hw oa) ob
   rw [d3] at hs2
   by_cases ht : T3 = 0
   ·subst ht
    rw [if_neg (not_not_intro rfl),if_neg (not_not_intro d1)]
    have e : okA w (am (am w T2).1 T1) = ((am (am w T2).1 T1).1,0):=by unfold okA;rw [if_pos d2]
    rw [e]
    clear e d1 d2 d3
    generalize am (am w T2).1 T1 = V at *
    generalize am (am w T1).1 T2 = V2 at *
    generalize am w T1 = U at *
    refine aF Tryz.func166 89 ?_
    exact fA0
   ·rw [if_pos ht,bE ht]
    refine aF Tryz.func166 89 ?_
    exact fA0
theorem A6 (w : Wld) (p : Player) (c : Cmd) (h : bH w p) (hd : c.dol = 2) (ha : -1 ≤ c.a ∧ c.a ≤ 1) (hb1 : -1 ≤ c.b ∧ c.b ≤ 1) : Api Tryz.prog 84 [az w,aw p,co c] (.tup [az (okA w (fx w p c)).1,i64 (okA w (fx w p c)).2]):=by
 have hw:=bZ h.rw
 obtain ⟨hS,hI0⟩:=h.sound
 have hP:=bS hS
 have hxy:=(a6 h.rw).1 hI0
 have hs:=h.rw.size
 have hth:=qm w (p.x + c.a) (p.y + c.b) ⟨hs.1,hs.2.1⟩
 have hat:=w4 w (p.x + c.a) (p.y + c.b) hw (by omega) (by omega)
 unfold fx
 cases hI : av w.size (p.x + c.a) (p.y + c.b) with
 | false =>
  rw [hI] at hth
  rw [if_pos rfl,bE (by decide)]
  refine aF Tryz.func84 182 ?_
  exact fA0
 | true =>
  rw [hI] at hth
  rw [if_neg (by simp)]
  have hst:=dS w { p with x:=p.x + c.a,y:=p.y + c.b } hw ⟨hP.bag,hP.offer,hP.nb,hP.no⟩
  have hse:=jX h (p':={ p with x:=p.x + c.a,y:=p.y + c.b }) rfl (Fz hS _ _) hI
  rw [hse] at hst ⊢
  generalize cR w (ck w.players { p with x:=p.x + c.a,y:=p.y + c.b }) = V at *
  generalize atW w (p.x + c.a) (p.y + c.b) = A at *
  obtain ⟨A1,A2⟩:=A
  dsimp only at *
  by_cases h0 : A1 = 0
  ·rw [if_neg (not_not_intro h0),jA]
   refine aF Tryz.func84 182 ?_
   exact fA0
  ·rw [if_pos h0,bE (by decide)]
   refine aF Tryz.func84 182 ?_
   exact fA0
theorem A7 (w : Wld) (p : Player) (c : Cmd) (h : bH w p) (hd : c.dol = 6) : Api Tryz.prog 84 [az w,aw p,co c] (.tup [az (okA w (fy w p c)).1,i64 (okA w (fy w p c)).2]):=by
 have hw:=bZ h.rw
 obtain ⟨hS,hI0⟩:=h.sound
 have hP:=bS hS
 obtain ⟨_,_,hPl,hPb,_⟩:=cm hS
 have hab:=(a6 h.rw).1 hI0
 have hsz:=h.rw.size
 have hch:=g_ w p.x p.y hw (by omega) (by omega)
 unfold fy
 obtain ⟨hK,hKx,hKy⟩:=cd h.rw hI0
 have hI:=c9 p.x p.y
 have hmx:=fun {k : Chunk} (hx : k.x = (aA w p.x p.y).x) (hy : k.y = (aA w p.x p.y).y)=>my h hI0 hx hy
 generalize aA w p.x p.y = K at *
 generalize aJ p.x p.y = I at *
 have htk:=iw p.bag c.c c.n (by omega) hP.bag
 have hT:=fK (a:=c.c) (n:=c.n) hP.bag
 have hTn:=fm (l:=p.bag) (a:=c.c) (n:=c.n)
 have hTl:=g9 p.bag c.c c.n
 by_cases h1 : (aj p.bag c.c c.n).2.2 = 0
 ·rw [if_neg (not_not_intro h1)]
  obtain ⟨n1,n2,n3,n4,n5,n6,n7,n8⟩:=hTn h1
  have hb2 : an (aj p.bag c.c c.n).1 = true:=by rw [n8];exact im n4 (by omega) n2 n7
  rw [h1] at htk
  have hdr:=sj K I (aj p.bag c.c c.n).2.1 (aS hK) (aV hK) hT.1
  have hK1:=oF hK (t:=I) (s:=(aj p.bag c.c c.n).2.1) hI
  have hxy:=sY K I (aj p.bag c.c c.n).2.1
  have hmk:=hmx (k:=(b9 K I (aj p.bag c.c c.n).2.1).1) hxy.1 hxy.2
  have hput:=io w (b9 K I (aj p.bag c.c c.n).2.1).1 { p with bag:=(aj p.bag c.c c.n).1 } hw (aS hK1) (aV hK1) (dU hP hT.2 (by omega))
  have hkp:=jb h (p':={ p with bag:=(aj p.bag c.c c.n).1 }) rfl (fA hS (by omega) hb2) hI0 hK1 hmk
  rw [hkp]
  clear hkp hmx hmk n8
  generalize b9 K I (aj p.bag c.c c.n).2.1 = D at *
  generalize aj p.bag c.c c.n = T at *
  generalize (am (br w D.1).1 { p with bag:=T.1 }).1 = V at *
  obtain ⟨D1,D2⟩:=D
  obtain ⟨T1,T2,T3⟩:=T
  dsimp only at *
  by_cases h2 : D2 = 0
  ·rw [if_neg (not_not_intro h2),jA]
   refine aF Tryz.func84 182 ?_
   exact fA0
  ·rw [if_pos h2,bE h2]
   refine aF Tryz.func84 182 ?_
   exact fA0
 ·rw [if_pos h1,bE h1]
  generalize aj p.bag c.c c.n = T at *
  obtain ⟨T1,T2,T3⟩:=T
  dsimp only at *
  refine aF Tryz.func84 182 ?_
  exact fA0
theorem zZ (w : Wld) (p : Player) (c : Cmd) (h : bH w p) (hd : c.dol = 9) : Api Tryz.prog 84 [az w,aw p,co c] (.tup [az (okA w (dJ w p c)).1,i64 (okA w (dJ w p c)).2]):=by
 have hw:=bZ h.rw
 obtain ⟨hS,hI0⟩:=h.sound
 have hP:=bS hS
 obtain ⟨_,_,hPl,hPb,_⟩:=cm hS
 unfold dJ
 have hmk:=Bd p.bag c.c (by omega) hP.bag
 have hM : (cF p.bag c.c).1.length = p.bag.length ∧ an (cF p.bag c.c).1 = true:=we p.bag c.c hPb
 have hst:=dS w { p with bag:=(cF p.bag c.c).1 } hw (dU hP (aX hM.2) (by omega))
 have hse:=jX h (p':={ p with bag:=(cF p.bag c.c).1 }) rfl (fA hS (by omega) hM.2) hI0
 rw [hse] at hst ⊢
 generalize cR w (ck w.players { p with bag:=(cF p.bag c.c).1 }) = V at *
 generalize cF p.bag c.c = T at *
 obtain ⟨T1,T2⟩:=T
 dsimp only at *
 by_cases h1 : T2 = 0
 ·rw [if_neg (not_not_intro h1),jA]
  refine aF Tryz.func84 182 ?_
  exact fA0
 ·rw [if_pos h1,bE h1]
  refine aF Tryz.func84 182 ?_
  exact fA0
theorem DV (w : Wld) (p : Player) (c : Cmd) (h : bH w p) (hd : c.dol = 10) : Api Tryz.prog 84 [az w,aw p,co c] (.tup [az (okA w (gI w p)).1,i64 (okA w (gI w p)).2]):=by
 have hw:=bZ h.rw
 obtain ⟨hS,hI0⟩:=h.sound
 have hP:=bS hS
 obtain ⟨_,_,hPl,hPb,_⟩:=cm hS
 unfold gI
 have hmk:=qv p.bag 11 1 (by omega) hP.bag (by omega)
 have hM : (a_ p.bag 11 1).1.length = p.bag.length ∧ an (a_ p.bag 11 1).1 = true:=(fun h=>⟨h.1,h.2 hPb⟩) (oL p.bag 11 1)
 have hst:=dS w { p with bag:=(a_ p.bag 11 1).1 } hw (dU hP (aX hM.2) (by omega))
 have hse:=jX h (p':={ p with bag:=(a_ p.bag 11 1).1 }) rfl (fA hS (by omega) hM.2) hI0
 rw [hse] at hst ⊢
 generalize cR w (ck w.players { p with bag:=(a_ p.bag 11 1).1 }) = V at *
 generalize a_ p.bag 11 1 = T at *
 obtain ⟨T1,T2⟩:=T
 dsimp only at *
 by_cases h1 : T2 = 0
 ·rw [if_neg (not_not_intro h1),jA]
  refine aF Tryz.func84 182 ?_
  exact fA0
 ·rw [if_pos h1,bE h1]
  refine aF Tryz.func84 182 ?_
  exact fA0
theorem z6 (w : Wld) (p : Player) (c : Cmd) (h : bH w p) (hd : c.dol = 3 ∨ c.dol = 4 ∨ c.dol = 7 ∨ c.dol = 8) (ha : 0 ≤ c.a ∧ c.a ≤ 127) (hb1 : 0 ≤ c.b ∧ c.b ≤ 127) : Api Tryz.prog 84 [az w,aw p,co c] (.tup [az (okA w (aZ w p c)).1,i64 (okA w (aZ w p c)).2]):=by
 obtain ⟨hS,hI0⟩:=h.sound
 have hxy:=(a6 h.rw).1 hI0
 have hs:=h.rw.size
 have hth:=qm w c.a c.b ⟨hs.1,hs.2.1⟩
 have hne:=kh p c.a c.b (by omega) (by omega) (by omega) (by omega)
 have hbad : ∀ e : Int,dF w p c.a c.b = e → ¬ e = 0 → aZ w p c = (w,e):=fun e he hz=>by
  unfold aZ
  rcases hd with hd|hd|hd|hd
  ·rw [if_neg (by omega),if_pos hd];unfold dH;rw [if_pos (by omega),he]
  ·rw [if_neg (by omega),if_neg (by omega),if_pos hd];unfold dI;rw [if_pos (by omega),he]
  ·rw [if_neg (by omega),if_neg (by omega),if_neg (by omega),if_neg (by omega),if_neg (by omega),if_pos (.inl hd)];unfold ee;rw [if_pos (by omega),he]
  ·rw [if_neg (by omega),if_neg (by omega),if_neg (by omega),if_neg (by omega),if_neg (by omega),if_pos (.inr hd)];unfold ee;rw [if_pos (by omega),he]
 have haim : dF w p c.a c.b = if av w.size c.a c.b = false then 102 else if d_ p c.a c.b = false then 106 else 0:=rfl
 cases hI : av w.size c.a c.b with
 | false =>
  rw [hI] at hth haim
  rw [if_pos rfl] at haim
  rw [hbad 102 haim (by decide),bE (by decide)]
  refine aF Tryz.func84 182 ?_
  exact fA0
 | true =>
  rw [hI] at hth haim
  rw [if_neg (by simp)] at haim
  cases hN : d_ p c.a c.b with
  | false =>
   rw [hN] at hne haim
   rw [if_pos rfl] at haim
   rw [hbad 106 haim (by decide),bE (by decide)]
   refine aF Tryz.func84 182 ?_
   exact fA0
  | true =>
   rw [hN] at hne haim
   rw [if_neg (by simp)] at haim
   have hfar : Api Tryz.prog 158 [az w,aw p,co c] (.tup [az (okA w (aZ w p c)).1,i64 (okA w (aZ w p c)).2]):=by
    unfold aZ
    rcases hd with hd|hd|hd|hd
    ·rw [if_neg (by omega),if_pos hd];exact zV w p c h haim hd
    ·rw [if_neg (by omega),if_neg (by omega),if_pos hd];exact zW w p c h haim hd
    ·rw [if_neg (by omega),if_neg (by omega),if_neg (by omega),if_neg (by omega),if_neg (by omega),if_pos (.inl hd)];exact qn w p c h haim (.inl hd)
    ·rw [if_neg (by omega),if_neg (by omega),if_neg (by omega),if_neg (by omega),if_neg (by omega),if_pos (.inr hd)];exact qn w p c h haim (.inr hd)
   generalize okA w (aZ w p c) = R at *
   refine aF Tryz.func84 182 ?_
   exact fA0
theorem z7 (w : Wld) (p : Player) (c : Cmd) (h : bH w p) (hd : c.dol = 5) : Api Tryz.prog 84 [az w,aw p,co c] (.tup [az (okA w (eC w p)).1,i64 (okA w (eC w p)).2]):=by
 have ht:=A5 w p h
 generalize okA w (eC w p) = R at *
 refine aF Tryz.func84 182 ?_
 exact fA0
theorem z8 (w : Wld) (p : Player) (c : Cmd) (h : bH w p) (hd : 11 ≤ c.dol ∧ c.dol ≤ 13) : Api Tryz.prog 84 [az w,aw p,co c] (.tup [az (okA w (cz w p c)).1,i64 (okA w (cz w p c)).2]):=by
 have ht : Api Tryz.prog 166 [az w,aw p,co c] (.tup [az (okA w (cz w p c)).1,i64 (okA w (cz w p c)).2]):=by
  rcases (show c.dol = 11 ∨ c.dol = 12 ∨ c.dol = 13 by omega) with hd|hd|hd
  ·exact zX w p c h hd
  ·exact zY w p c h hd
  ·exact w9 w p c h hd
 generalize okA w (cz w p c) = R at *
 refine aF Tryz.func84 182 ?_
 exact fA0
theorem A8 (w : Wld) (p : Player) (c : Cmd) (h : bH w p) (hD : bG c = true) (h0 : 0 ≤ c.dol) (h1 : ¬ c.dol = 1) : Api Tryz.prog 84 [az w,aw p,co c] (.tup [az (okA w (aZ w p c)).1,i64 (okA w (aZ w p c)).2]):=by
 have hlt : c.dol < 14:=by
  rcases Int.lt_or_le c.dol 14 with h|h
  ·exact h
  ·rw [pR h] at hD;cases hD
 have hn0 : ¬ c.dol = 0:=fun e=>by unfold bG at hD;simp [e] at hD
 have hrng : ∀ lo hi n : Int,bm lo hi n = true → lo ≤ n ∧ n ≤ hi:=fun lo hi n hh=>by simpa [bm] using hh
 rcases (show c.dol = 2 ∨ (c.dol = 3 ∨ c.dol = 4 ∨ c.dol = 7 ∨ c.dol = 8) ∨ c.dol = 5 ∨ c.dol = 6 ∨ c.dol = 9 ∨ c.dol = 10 ∨ (11 ≤ c.dol ∧ c.dol ≤ 13) by omega) with hd|hd|hd|hd|hd|hd|hd
 ·have e : aZ w p c = fx w p c:=by unfold aZ;rw [if_pos hd]
  have hr : bm (-1) 1 c.a = true ∧ bm (-1) 1 c.b = true:=by
   unfold bG at hD
   rw [if_neg (by omega),if_pos hd] at hD
   simp only [Bool.and_eq_true] at hD
   exact ⟨hD.1,hD.2.1⟩
  rw [e];exact A6 w p c h hd (hrng _ _ _ hr.1) (hrng _ _ _ hr.2)
 ·have hr : bm 0 127 c.a = true ∧ bm 0 127 c.b = true:=by
   unfold bG at hD
   rcases hd with hd|hd|hd|hd
   ·rw [if_neg (by omega),if_neg (by omega),if_pos hd] at hD
    simp only [Bool.and_eq_true] at hD;exact ⟨hD.1,hD.2.1⟩
   ·rw [if_neg (by omega),if_neg (by omega),if_neg (by omega),if_pos hd] at hD
    simp only [Bool.and_eq_true] at hD;exact ⟨hD.1,hD.2.1⟩
   ·rw [if_neg (by omega),if_neg (by omega),if_neg (by omega),if_neg (by omega),if_neg (by omega),if_pos (.inl hd)] at hD
    simp only [Bool.and_eq_true] at hD;exact ⟨hD.1,hD.2.1⟩
   ·rw [if_neg (by omega),if_neg (by omega),if_neg (by omega),if_neg (by omega),if_neg (by omega),if_pos (.inr hd)] at hD
    simp only [Bool.and_eq_true] at hD;exact ⟨hD.1,hD.2.1⟩
  exact z6 w p c h hd (hrng _ _ _ hr.1) (hrng _ _ _ hr.2)
 ·have e : aZ w p c = eC w p:=by unfold aZ;rw [if_neg (by omega),if_neg (by omega),if_neg (by omega),if_pos hd]
  rw [e];exact z7 w p c h hd
 ·have e : aZ w p c = fy w p c:=by unfold aZ;rw [if_neg (by omega),if_neg (by omega),if_neg (by omega),if_neg (by omega),if_pos hd]
  rw [e];exact A7 w p c h hd
 ·have e : aZ w p c = dJ w p c:=by unfold aZ;rw [if_neg (by omega),if_neg (by omega),if_neg (by omega),if_neg (by omega),if_neg (by omega),if_neg (by omega),if_pos hd]
  rw [e];exact zZ w p c h hd
 ·have e : aZ w p c = gI w p:=by unfold aZ;rw [if_neg (by omega),if_neg (by omega),if_neg (by omega),if_neg (by omega),if_neg (by omega),if_neg (by omega),if_neg (by omega),if_pos hd]
  rw [e];exact DV w p c h hd
 ·have e : aZ w p c = cz w p c:=by unfold aZ;rw [if_neg (by omega),if_neg (by omega),if_neg (by omega),if_neg (by omega),if_neg (by omega),if_neg (by omega),if_neg (by omega),if_neg (by omega)]
  rw [e];exact z8 w p c h hd
theorem DW (id X : Int) : OkP ⟨id,X,0,ce,-1,[],false⟩:=⟨fun s hs=>by rw [(List.mem_replicate.1 hs).2];exact ⟨by decide,by decide⟩,by simp,by show ce.length * 16 ≤ _;rw [show ce.length = 8 from rfl];omega,by simp⟩
theorem A9 (w : Wld) (id : Int) (hw : OkW w) : Api Tryz.prog 83 [az w,.agg [i64 id,i64 (cL w.size id),i64 0,.vec .slot ce,i64 (-1),.lit (.slice none 0 0),.ff]] (.tup [az (am w ⟨id,cL w.size id,0,ce,-1,[],false⟩).1,i64 (am w ⟨id,cL w.size id,0,ce,-1,[],false⟩).2]):=
 ml (dS w ⟨id,cL w.size id,0,ce,-1,[],false⟩ hw (DW id _)) (args':=[az w,.agg [i64 id,i64 (cL w.size id),i64 0,.vec .slot ce,i64 (-1),.lit (.slice none 0 0),.ff]])
  (.cons (Le.refl _) (.cons (Le.agg (.cons (Le.refl _) (.cons (Le.refl _) (.cons (Le.refl _) (.cons (Le.refl _) (.cons (Le.refl _) (.cons (Le.nil _) (.cons (Le.ff rfl) .nil)))))))) .nil))
theorem ew (w : Wld) (id : Int) (c : Cmd) (hw : OkW w) (hi : id ≤ 9223372036854775807) (hd : 0 ≤ c.dol ∧ c.dol ≤ 255) : Api Tryz.prog 38 [az w,i64 id,co c] (.tup [az (aG w id c).1,i64 (aG w id c).2]):=by
 have hcp:=fp w hw
 have hrt:=fd w hw
 have hcr:=Af c hd.1 hd.2
 have hpl:=db w id hw
 cases hR : aO w with
 | false =>
  rw [hR] at hrt
  have e : aG w id c = (w,113):=by unfold aG;rw [if_pos hR]
  rw [e]
  refine aF Tryz.func38 64 ?_
  exact fA0
 | true =>
  rw [hR] at hrt
  have hRW:=aK.1 hR
  cases hD : bG c with
  | false =>
   rw [hD] at hcr
   have e : aG w id c = (w,109):=by unfold aG;rw [if_neg (by rw [hR];simp),if_pos hD]
   rw [e]
   refine aF Tryz.func38 64 ?_
   exact fA0
  | true =>
   rw [hD] at hcr
   by_cases h1 : c.dol = 1
   ·cases hB : (ag w id).2 with
    | true =>
     rw [hB] at hpl
     have e : aG w id c = (w,110):=by unfold aG;rw [if_neg (by rw [hR];simp),if_neg (by rw [hD];simp),if_pos (by rw [hB,decide_eq_true h1])]
     rw [e]
     generalize (ag w id).1 = P at *
     refine aF Tryz.func38 64 ?_
     exact fA0
    | false =>
     rw [hB] at hpl
     have e : aG w id c = am w ⟨id,cL w.size id,0,ce,-1,[],false⟩:=by unfold aG;rw [if_neg (by rw [hR];simp),if_neg (by rw [hD];simp),if_neg (by rw [hB,decide_eq_true h1];simp),if_pos h1]
     rw [e]
     have hsp:=zU w.size id hi
     have hsj:=A9 w id hw
     generalize (ag w id).1 = P at *
     generalize cL w.size id = X at *
     generalize am w ⟨id,X,0,ce,-1,[],false⟩ = V at *
     refine aF Tryz.func38 64 ?_
     ((try with_reducible refine ab fun N hN hE hT=>?_);(conv=>whnf))
     repeat' (first|exact trivial|((first|((first|apply hT|apply hE|apply hN);clear hN hE hT)|refine kL ?_|(refine ⟨fun hb=>?_,fun hb=>?_⟩<;>(try simp only [nrm] at hb)<;>try exact kZ hb)|(refine tk hsj rfl rfl ?_;(conv=>whnf);refine ⟨by decide,rfl,?_⟩)|refine kV ?_)<;>((try with_reducible refine ab fun N hN hE hT=>?_);(conv=>whnf)))|refine kY ?_ ?_)
     all_goals first|rfl|omega|trace_state
   ·cases hB : (ag w id).2 with
    | false =>
     rw [hB] at hpl
     have e : aG w id c = (w,110):=by unfold aG;rw [if_neg (by rw [hR];simp),if_neg (by rw [hD];simp),if_pos (by rw [hB,decide_eq_false h1])]
     rw [e]
     generalize (ag w id).1 = P at *
     refine aF Tryz.func38 64 ?_
     exact fA0
    | true =>
     rw [Gm hR hD hB h1]
     have hdo:=A8 w (ag w id).1 c (uv hRW hB) hD hd.1 h1
     rw [hB] at hpl
     have hok : (okA w (aZ w (ag w id).1 c)).2 = 0 ∨ (okA w (aZ w (ag w id).1 c)).1 = w:=by
      unfold okA;split
      ·exact .inl rfl
      ·exact .inr rfl
     generalize okA w (aZ w (ag w id).1 c) = R at *
     generalize (ag w id).1 = P at *
     obtain ⟨R1,R2⟩:=R
     dsimp only at *
     by_cases h0 : R2 = 0
     ·subst h0
      refine aF Tryz.func38 64 ?_
      exact fA0
     ·have h2 : R1 = w:=hok.resolve_left h0
      subst h2
      refine aF Tryz.func38 64 ?_
      exact fA0
open Go Go.RowKit Eng
theorem JM (w : Wld) (id : Int) (c : Cmd) (hw : OkW w) (hi : id ≤ 9223372036854775807) (hd : 0 ≤ c.dol ∧ c.dol ≤ 255) (he : ¬ (aG w id c).2 = 0) : Api Tryz.prog 40 [az w,i64 id,co c] (.vec .i64 aq):=by
 have hap:=ew w id c hw hi hd
 have hz : List.replicate 13 (0 : Int) = aq:=rfl
 generalize aG w id c = R at *
 generalize aq = Z at *
 refine aF Tryz.func40 122 ?_
 ((try with_reducible refine ab fun N hN hE hT=>?_);(conv=>whnf))
 repeat' (first|exact trivial|((first|((first|apply hT|apply hE|apply hN);clear hN hE hT)|(refine ⟨fun hb=>?_,fun hb=>?_⟩<;>(try simp only [nrm] at hb)<;>try exact kZ hb)|refine kV ?_)<;>((try with_reducible refine ab fun N hN hE hT=>?_);(conv=>whnf)))|refine kY ?_ ?_)
 all_goals first|rfl|omega|exact hz|(rw [← hz];rfl)|trace_state
theorem F9 (w : Wld) (id : Int) (c : Cmd) (hw : OkW w) (hi : id ≤ 9223372036854775807) (hd : 0 ≤ c.dol ∧ c.dol ≤ 255) (he : (aG w id c).2 = 0) (h3 : ¬ c.dol = 3) (h4 : ¬ c.dol = 4) (h10 : ¬ c.dol = 10) (h9 : ¬ c.dol = 9) : Api Tryz.prog 40 [az w,i64 id,co c] (.vec .i64 aq):=by
 have hap:=ew w id c hw hi hd
 have hpl:=db w id hw
 have hz : List.replicate 13 (0 : Int) = aq:=rfl
 generalize ag w id = P at *
 generalize aG w id c = R at *
 generalize aq = Z at *
 refine aF Tryz.func40 122 ?_
 ((try with_reducible refine ab fun N hN hE hT=>?_);(conv=>whnf))
 repeat' (first|exact trivial|((first|((first|apply hT|apply hE|apply hN);clear hN hE hT)|(refine ⟨fun hb=>?_,fun hb=>?_⟩<;>(try simp only [nrm] at hb)<;>try exact kZ hb)|refine kV ?_)<;>((try with_reducible refine ab fun N hN hE hT=>?_);(conv=>whnf)))|refine kY ?_ ?_)
 all_goals first|rfl|omega|exact hz|(rw [← hz];rfl)|trace_state
theorem Lw (w : Wld) (id : Int) (c : Cmd) (hw : OkW w) (hi : id ≤ 9223372036854775807) (hd : 0 ≤ c.dol ∧ c.dol ≤ 255) (he : (aG w id c).2 = 0) (h3 : c.dol = 3) (hab : c.a ≤ 127 ∧ c.b ≤ 127) (hc : 0 ≤ (atW w c.a c.b).1 ∧ (atW w c.a c.b).1 ≤ 12) : Api Tryz.prog 40 [az w,i64 id,co c] (.vec .i64 (c5 aq (bL (atW w c.a c.b).1) 1)):=by
 have hap:=ew w id c hw hi hd
 have hpl:=db w id hw
 have hat:=w4 w c.a c.b hw (by omega) (by omega)
 have hgv:=qu (atW w c.a c.b).1 hc.1 (by omega)
 have hg:=vV hc
 have hf:=qZ hg (x:=1) (by decide)
 generalize ag w id = P at *
 generalize bL (atW w c.a c.b).1 = G at *
 generalize atW w c.a c.b = A at *
 generalize aG w id c = R at *
 refine aF Tryz.func40 122 ?_
 exact fA0
theorem Lx (w : Wld) (id : Int) (c : Cmd) (hw : OkW w) (hi : id ≤ 9223372036854775807) (hd : 0 ≤ c.dol ∧ c.dol ≤ 255) (he : (aG w id c).2 = 0) (h4 : c.dol = 4) (hc : 0 ≤ c.c ∧ c.c < (ag w id).1.bag.length) (hit : 0 ≤ (elt .slot (ag w id).1.bag c.c.toNat).item ∧ (elt .slot (ag w id).1.bag c.c.toNat).item ≤ 12) : Api Tryz.prog 40 [az w,i64 id,co c] (.vec .i64 (c5 aq (elt .slot (ag w id).1.bag c.c.toNat).item (-1))):=by
 have hap:=ew w id c hw hi hd
 have hpl:=db w id hw
 have hf:=qZ hit (x:=-1) (by decide)
 have hit2 : (elt .slot (ag w id).1.bag (c.c.toNat + 0)).item = (elt .slot (ag w id).1.bag c.c.toNat).item:=rfl
 generalize ag w id = P at *
 generalize aG w id c = R at *
 refine aF Tryz.func40 122 ?_
 exact fA0
theorem KS (w : Wld) (id : Int) (c : Cmd) (hw : OkW w) (hi : id ≤ 9223372036854775807) (hd : 0 ≤ c.dol ∧ c.dol ≤ 255) (he : (aG w id c).2 = 0) (h10 : c.dol = 10) : Api Tryz.prog 40 [az w,i64 id,co c] (.vec .i64 (c5 aq 11 (-1))):=by
 have hap:=ew w id c hw hi hd
 have hpl:=db w id hw
 generalize ag w id = P at *
 generalize aG w id c = R at *
 refine aF Tryz.func40 122 ?_
 exact fA0
theorem Lz (w : Wld) (id : Int) (c : Cmd) (hw : OkW w) (hi : id ≤ 9223372036854775807) (hd : 0 ≤ c.dol ∧ c.dol ≤ 255) (he : (aG w id c).2 = 0) (h9 : c.dol = 9) (hn : 0 ≤ c.c ∧ c.c < 7) : Api Tryz.prog 40 [az w,i64 id,co c] (.vec .i64 (c5 (c6 aq (elt .recipe bJ c.c.toNat).of) (elt .recipe bJ c.c.toNat).makes.item (elt .recipe bJ c.c.toNat).makes.n)):=by
 have hap:=ew w id c hw hi hd
 have hpl:=db w id hw
 have hre:=sf c.c hn.1 hn.2
 obtain ⟨r1,r2,r3,r4,r5,r6,r7⟩:=iY (iX hn.1 hn.2)
 generalize (elt .recipe bJ c.c.toNat).of = W at *
 generalize (elt .recipe bJ c.c.toNat).makes = M at *
 generalize ag w id = P at *
 generalize aG w id c = R at *
 have hnx:=fun k (h : k < W.length)=>rO (C:=aq) h
 have hln:=fun k=>(ld (W.take k) aq).trans (show aq.length = 13 from rfl)
 have hbd : ∀ k i : Nat,i < 13 → inZ 32 (elt .i64 (c6 aq (W.take k)) i):=fun k i hi=>by
  obtain ⟨z,e,z0,z1⟩:=Fh (l:=W.take k) (fun s hs=>r1 s (List.mem_of_mem_take hs)) (by rw [List.length_take];omega) hi
  rw [e];unfold inZ;omega
 have h0 : c6 aq (W.take 0) = List.replicate 13 (0 : Int):=rfl
 have hend : c6 aq W = c6 aq (W.take W.length):=by rw [List.take_length]
 rw [hend]
 obtain ⟨D,hD⟩ : ∃ D : Nat → List (El .i64),D = fun k=>c6 aq (W.take k):=⟨_,rfl⟩
 have hnx2 : ∀ k,k < W.length → D (k + 1) = c5 (D k) (elt .slot W k).item (-(elt .slot W k).n):=by rw [hD];exact hnx
 have hln2 : ∀ k,(D k).length = 13:=by rw [hD];exact hln
 have hbd2 : ∀ k i : Nat,i < 13 → inZ 32 (elt .i64 (D k) i):=by rw [hD];exact hbd
 have h02 : D 0 = List.replicate 13 (0 : Int):=by rw [hD];exact h0
 have hgoal : c5 (c6 aq (W.take W.length)) M.item M.n = c5 (D W.length) M.item M.n:=by rw [hD]
 rw [hgoal]
 clear hgoal hnx hln hbd h0 hend hD
 refine aF Tryz.func40 122 ?_
 ((try with_reducible refine ab fun N hN hE hT=>?_);(conv=>whnf))
 repeat' (first|exact trivial|((first|((first|apply hT|apply hE|apply hN);clear hN hE hT)|(refine ⟨fun hb=>?_,fun hb=>?_⟩<;>(try simp only [nrm] at hb)<;>try exact kZ hb)|refine kV ?_)<;>((try with_reducible refine ab fun N hN hE hT=>?_);(conv=>whnf)))|refine kY ?_ ?_)
 refine ap.loopS ah (σ:=Nat) [7,14,15,17] (fun k=>[.own .i64 37 0 13 none,.vec .slot W,.ptr 30 0,i64 k]) (fun k=>[(30,.box [.lit (.int .u8 M.item),i64 M.n]),(37,.row .i64 (D k))]) (fun k=>k ≤ W.length) (fun k=>W.length - k) 0 (by omega) ?_ ?_
 ·conv=>whnf
  repeat' (first|exact trivial|((first|((first|apply hT|apply hE|apply hN);clear hN hE hT)|(refine ⟨fun hb=>?_,fun hb=>?_⟩<;>(try simp only [nrm] at hb)<;>try exact kZ hb)|refine kV ?_)<;>((try with_reducible refine ab fun N hN hE hT=>?_);(conv=>whnf)))|refine kY ?_ ?_)
  all_goals first|rfl|omega|(rw [h02];rfl)|trace_state
 ·intro k hk
  have hz1:=hln2 k
  by_cases hlt : k < W.length
  ·have hs:=r1 _ (ao (t:=.slot) hlt)
   have hz2:=hln2 (k + 1)
   have hb:=hbd2 k ((elt .slot W ((k : Nat) : Int).toNat).item.toNat + 0) (by rw [Int.toNat_natCast];omega)
   have hs4 : 1 ≤ (elt .slot W ((k : Nat) : Int).toNat).item ∧ (elt .slot W ((k : Nat) : Int).toNat).item ≤ 12 ∧ 1 ≤ (elt .slot W ((k : Nat) : Int).toNat).n ∧ (elt .slot W ((k : Nat) : Int).toNat).n ≤ 16:=by rw [Int.toNat_natCast];exact hs
   have hx:=hnx2 k hlt
   unfold inZ at hb
   conv=>whnf
   repeat' (first|exact trivial|((first|((first|apply hT|apply hE|apply hN);clear hN hE hT)|(refine ⟨fun hb=>?_,fun hb=>?_⟩<;>(try simp only [nrm] at hb)<;>try exact kZ hb)|refine kV ?_)<;>((try with_reducible refine ab fun N hN hE hT=>?_);(conv=>whnf)))|refine kY ?_ ?_)
   refine .to (k + 1) hlt (by omega) ?_
   conv=>whnf
   repeat' (first|exact trivial|((first|((first|apply hT|apply hE|apply hN);clear hN hE hT)|(refine ⟨fun hb=>?_,fun hb=>?_⟩<;>(try simp only [nrm] at hb)<;>try exact kZ hb)|refine kV ?_)<;>((try with_reducible refine ab fun N hN hE hT=>?_);(conv=>whnf)))|refine kY ?_ ?_)
   all_goals first|rfl|omega|(rw [List.length_set];omega)|(rw [hx];exact List.take_of_length_le (by rw [List.length_set];omega))|trace_state
  ·obtain rfl : k = W.length:=by omega
   have hb:=hbd2 W.length (M.item.toNat + 0) (by omega)
   unfold inZ at hb
   conv=>whnf
   repeat' (first|exact trivial|((first|((first|apply hT|apply hE|apply hN);clear hN hE hT)|(refine ⟨fun hb=>?_,fun hb=>?_⟩<;>(try simp only [nrm] at hb)<;>try exact kZ hb)|refine kV ?_)<;>((try with_reducible refine ab fun N hN hE hT=>?_);(conv=>whnf)))|refine kY ?_ ?_)
   all_goals first|rfl|omega|(rw [List.length_set];omega)|(rw [List.drop_zero];exact List.take_of_length_le (by rw [List.length_set];omega))|trace_state
theorem JN (w : Wld) (id : Int) (c : Cmd) (hw : OkW w) (hi : id ≤ 9223372036854775807) (hd : 0 ≤ c.dol ∧ c.dol ≤ 255) : Api Tryz.prog 40 [az w,i64 id,co c] (.vec .i64 (dp w id c)):=by
 unfold dp
 by_cases he : (aG w id c).2 = 0
 ·rw [if_neg (not_not_intro he)]
  have hR:=pQ he
  rcases nu hR id c with ⟨h1,_⟩|⟨h1,h2,_⟩|⟨h1,h2,h3,hp,hi2,h4,h5⟩
  ·exact absurd he h1
  ·rw [if_neg (by omega),if_neg (by omega),if_neg (by omega),if_neg (by omega)]
   exact F9 w id c hw hi hd he (by omega) (by omega) (by omega) (by omega)
  ·by_cases d3 : c.dol = 3
   ·rw [if_pos d3]
    rw [yW d3] at h4
    obtain ⟨b1,b2,b3,b4⟩:=sM hp.rw h4
    have hab:=pO h3 (.inl d3)
    exact Lw w id c hw hi hd he d3 (by omega) (by omega)
   ·rw [if_neg d3]
    by_cases d4 : c.dol = 4
    ·rw [if_pos d4]
     rw [yX d4] at h4
     obtain ⟨t1,t2,t3,t4⟩:=pP (sN h4).1
     exact Lx w id c hw hi hd he d4 ⟨t1,t2⟩ (by omega)
    ·rw [if_neg d4]
     by_cases d10 : c.dol = 10
     ·rw [if_pos d10];exact KS w id c hw hi hd he d10
     ·rw [if_neg d10]
      by_cases d9 : c.dol = 9
      ·rw [if_pos d9]
       rw [yY d9] at h4
       have hn : 0 ≤ c.c ∧ c.c < 7:=by
        by_cases hn : 0 ≤ c.c ∧ c.c < 7
        ·exact hn
        ·unfold dJ at h4
         have hm : ¬ (cF (ag w id).1.bag c.c).2 = 0:=by
          unfold cF
          rw [if_neg (by rw [hp.bag.2];simp),lg hn];simp
         rw [if_pos hm] at h4;exact absurd h4 hm
       rw [iX hn.1 hn.2]
       exact Lz w id c hw hi hd he d9 hn
      ·rw [if_neg d9];exact F9 w id c hw hi hd he d3 d4 d10 d9
 ·rw [if_pos he];exact JM w id c hw hi hd he
end Go.Proofs.YtkojlembanldcaaGreat
