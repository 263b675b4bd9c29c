/- homesteadref11's Right, Copied. -/
import Derived.Test.YtaecchphjploaaaGreatGs
import Derived.Test.YtaecchphjploaaaGreatGk
set_option linter.unusedSimpArgs false
set_option linter.unusedVariables false
set_option maxRecDepth 100000
set_option maxHeartbeats 16000000
namespace Go.Proofs.YtaecchphjploaaaGreat
open Go Go.RowKit Eng
theorem Ak {i : Int} : eY i = true ↔ 1 ≤ i ∧ i ≤ 5 ∨ i = 7 ∨ i = 9 ∨ i = 10:=by
 unfold eY
 simp only [decide_eq_true_eq,Bool.and_eq_true,Bool.not_eq_true',decide_eq_false_iff_not]
 omega
theorem wz (i : Int) (h0 : 0 ≤ i) (h1 : i ≤ 255) : Api Tryz.prog 137 [.lit (.int .u8 i)] (bol (eY i)):=by
 have hb1:=@Ak i
 cases hB : eY i with
 | true =>
  have hb2:=hb1.1 hB
  refine aF Tryz.func137 20 ?_
  ((try with_reducible refine af fun N hN hE hT=>?_);(conv=>whnf))
  repeat' (first|exact trivial|((first|((first|apply hT|apply hE|apply hN);clear hN hE hT)|(refine ⟨fun hb=>?_,fun hb=>?_⟩<;>(try simp only [nrm] at hb)<;>try exact kZ hb)|refine kV ?_)<;>((try with_reducible refine af fun N hN hE hT=>?_);(conv=>whnf)))|refine kY ?_ ?_)
  all_goals first|rfl|omega|(refine congrArg Value.bool ?_;simp;omega)|trace_state
 | false =>
  have hb2 : ¬ (1 ≤ i ∧ i ≤ 5 ∨ i = 7 ∨ i = 9 ∨ i = 10):=fun h=>by rw [hb1.2 h] at hB;cases hB
  refine aF Tryz.func137 20 ?_
  ((try with_reducible refine af fun N hN hE hT=>?_);(conv=>whnf))
  repeat' (first|exact trivial|((first|((first|apply hT|apply hE|apply hN);clear hN hE hT)|(refine ⟨fun hb=>?_,fun hb=>?_⟩<;>(try simp only [nrm] at hb)<;>try exact kZ hb)|refine kV ?_)<;>((try with_reducible refine af fun N hN hE hT=>?_);(conv=>whnf)))|refine kY ?_ ?_)
  all_goals first|rfl|omega|(refine congrArg Value.bool ?_;simp;omega)|trace_state
open Go Go.RowKit Eng
theorem xz (s : aG) (h : bP s) : Api Tryz.prog 139 [.agg [.lit (.int .u8 s.item),.lit (.int .i64 s.n)]] (bol (iA s)):=by
 have h1:=oH s.item h.1 h.2
 refine aF Tryz.func139 13 ?_
 conv=>whnf
 repeat' (first|exact trivial|((first|(refine ⟨fun hb=>?_,fun hb=>?_⟩<;>(try simp only [nrm] at hb)<;>try exact kZ hb)|refine kV ?_)<;>(conv=>whnf))|refine kY ?_ ?_)
 all_goals (refine congrArg Value.bool ?_;rw [Bool.eq_iff_iff];simp only [iA,Bool.and_eq_true,Bool.or_eq_true,Bool.not_eq_true',Bool.and_eq_false_iff,Bool.or_eq_false_iff,decide_eq_true_eq,decide_eq_false_iff_not,beq_iff_eq,beq_eq_false_iff_ne,bne_iff_ne,ne_eq,Bool.false_eq_true,Int.toNat_natCast,eq_self,iff_true,true_iff,iff_false,false_iff,Bool.true_eq_false,not_and,Decidable.not_not,not_true_eq_false,not_false_eq_true];(first|done|omega|(simp_all;done)|(simp_all;omega)))
theorem pH {c : Chunk} (h : c.heaps.any cm = true) : ar c = false:=by
 unfold ar
 rw [h]
 cases da c
 ·rfl
 ·simp only [Bool.true_and]
  split<;>rfl
theorem wA {c : Chunk} {bs : List Box} (hh : da c = true) (h : bC c.cells 0 c.boxes = some bs) (hp : c.heaps.any cm = false) : ar c = decide (bs.length = 0):=by
 unfold ar
 rw [hh,h,hp]
 cases bs<;>rfl
theorem f9 (c : Chunk) (hc : OkC c) : Api Tryz.prog 64 [bz c] (bol (ar c)):=by
 have nc:=hc.nc
 have nb:=hc.nb
 have nh:=hc.nh
 unfold big at nc nb nh
 refine aF Tryz.func64 125 ?_
 conv=>whnf
 repeat' (first|exact trivial|((first|(refine ⟨fun hb=>?_,fun hb=>?_⟩<;>(try simp only [nrm] at hb)<;>try exact kZ hb)|refine kV ?_)<;>(conv=>whnf))|refine kY ?_ ?_)
 all_goals (try (rw [pt (by simp only [da,Bool.and_eq_false_iff,decide_eq_false_iff_not];omega)];done))
 have hH : da c = true:=by simp only [da,Bool.and_eq_true,decide_eq_true_eq];omega
 refine aw.loopS aa (σ:=Nat × Nat) [1,3,4] (fun (k,b)=>[.ptr 2 0,i64 b,i64 k]) (fun _=>[(2,.box (bj c))]) (fun (k,b)=>k ≤ 64 ∧ b ≤ c.boxes.length ∧ bC (c.cells.drop k) k (c.boxes.drop b) = bC c.cells 0 c.boxes) (fun (k,_)=>64 - k) (0,0) ⟨by omega,by omega,rfl⟩ ?_ ?_
 ·exact fD0
 ·rintro ⟨k,b⟩ ⟨hk,hb1,he⟩
  try dsimp only at hk hb1 he
  by_cases hlt : k < 64
  ·rw [bJ (t:=.u8) (by omega)] at he
   simp only [bC] at he
   have hcell:=hc.cells _ (ay (t:=.u8) (i:=k) (by omega))
   have hbl:=wz (elt .u8 c.cells k) hcell.1 hcell.2
   have hE : elt .u8 c.cells (k : Int).toNat = elt .u8 c.cells k:=rfl
   cases hI : dz (elt .u8 c.cells k) with
   | false =>
    rw [hI,if_neg (by simp)] at he
    rw [fp he.symm]
    have hi0 : ¬ elt .u8 c.cells k = 0:=by intro h;rw [h] at hI;cases hI
    have hib : eY (elt .u8 c.cells k) = false:=by simpa [dz,hi0] using hI
    rw [hib] at hbl
    exact fD0
   | true =>
    rw [hI,if_pos rfl] at he
    by_cases h0 : elt .u8 c.cells k = 0
    ·rw [if_neg (by rw [h0];decide)] at he
     conv=>whnf
     repeat' (first|exact trivial|((first|(refine ⟨fun hb=>?_,fun hb=>?_⟩<;>(try simp only [nrm] at hb)<;>try exact kZ hb)|refine kV ?_)<;>(conv=>whnf))|refine kY ?_ ?_)
     refine .to (k + 1,b) ⟨by first|omega|(dsimp only;omega),hb1,he⟩ (by first|omega|(dsimp only;omega)) ?_
     exact fD0
    ·have hib : eY (elt .u8 c.cells k) = true:=by simpa [dz,h0] using hI
     rw [hib] at hbl
     by_cases h9 : elt .u8 c.cells k = 9
     ·rw [if_pos h9] at he
      by_cases hbn : b < c.boxes.length
      ·rw [bJ (t:=.box) hbn] at he
       dsimp only at he
       have hbx:=hc.boxes _ (ay (t:=.box) hbn)
       have hbg:=kM (elt .box c.boxes b).bag 6 hbx.2 hbx.1
       have hE2 : (elt .box c.boxes (b : Int).toNat).cell = (elt .box c.boxes b).cell:=rfl
       by_cases hck : (elt .box c.boxes b).cell = k
       ·cases hA : d9 (elt .box c.boxes b) k with
        | false =>
         rw [hA,if_neg (by simp)] at he
         rw [fp he.symm]
         have hA2 : (decide (((elt .box c.boxes b).bag.length : Int) = 6) && cn (elt .box c.boxes b).bag) = false:=by simpa [d9,hck] using hA
         rw [hA2] at hbg
         exact fD0
        | true =>
         rw [hA,if_pos rfl] at he
         have hA2 : (decide (((elt .box c.boxes b).bag.length : Int) = 6) && cn (elt .box c.boxes b).bag) = true:=by simpa [d9,hck] using hA
         rw [hA2] at hbg
         conv=>whnf
         repeat' (first|exact trivial|((first|(refine ⟨fun hb=>?_,fun hb=>?_⟩<;>(try simp only [nrm] at hb)<;>try exact kZ hb)|refine kV ?_)<;>(conv=>whnf))|refine kY ?_ ?_)
         refine .to (k + 1,b + 1) ⟨by first|omega|(dsimp only;omega),hbn,he⟩ (by first|omega|(dsimp only;omega)) ?_
         exact fD0
       ·have hA : d9 (elt .box c.boxes b) k = false:=by simp [d9,hck]
        rw [hA,if_neg (by simp)] at he
        rw [fp he.symm]
        exact fD0
      ·rw [List.drop_of_length_le (by omega)] at he
       dsimp only at he
       rw [fp he.symm]
       exact fD0
     ·rw [if_neg h9] at he
      conv=>whnf
      repeat' (first|exact trivial|((first|(refine ⟨fun hb=>?_,fun hb=>?_⟩<;>(try simp only [nrm] at hb)<;>try exact kZ hb)|refine kV ?_)<;>(conv=>whnf))|refine kY ?_ ?_)
      refine .to (k + 1,b) ⟨by first|omega|(dsimp only;omega),hb1,he⟩ (by first|omega|(dsimp only;omega)) ?_
      exact fD0
  ·obtain rfl : k = 64:=by omega
   rw [List.drop_of_length_le (by omega)] at he
   simp only [bC] at he
   conv=>whnf
   repeat' (first|exact trivial|((first|(refine ⟨fun hb=>?_,fun hb=>?_⟩<;>(try simp only [nrm] at hb)<;>try exact kZ hb)|refine kV ?_)<;>(conv=>whnf))|refine kY ?_ ?_)
   refine aw.loopS aa (σ:=Nat) [1,3,5] (fun j=>[.ptr 2 0,i64 b,i64 j]) (fun _=>[(2,.box (bj c))]) (fun j=>j ≤ c.heaps.length ∧ (c.heaps.drop j).any cm = c.heaps.any cm) (fun j=>c.heaps.length - j) 0 ⟨by omega,rfl⟩ ?_ ?_
   ·exact fD0
   ·rintro j ⟨hj,hany⟩
    by_cases hjl : j < c.heaps.length
    ·rw [bJ (t:=.heap) hjl,List.any_cons] at hany
     have hok:=hc.heaps _ (ay (t:=.heap) hjl)
     have hsl:=xz (elt .heap c.heaps j).slot hok
     have hE : (elt .heap c.heaps (j : Int).toNat).cell = (elt .heap c.heaps j).cell:=rfl
     have hbd : cm (elt .heap c.heaps j) = (!(decide (0 ≤ (elt .heap c.heaps j).cell) && decide ((elt .heap c.heaps j).cell < 64)) || !iA (elt .heap c.heaps j).slot):=rfl
     cases hS : iA (elt .heap c.heaps j).slot
     all_goals
      rw [hS] at hsl hbd
      conv=>whnf
      repeat' (first|exact trivial|((first|(refine ⟨fun hb=>?_,fun hb=>?_⟩<;>(try simp only [nrm] at hb)<;>try exact kZ hb)|refine kV ?_)<;>(conv=>whnf))|refine kY ?_ ?_)
     all_goals first
      | (rw [pH (by rw [← hany,hbd];simp;omega)];done)
      | (rw [pH (by rw [← hany,hbd];simp)];done)
      | (refine .to (j + 1) ⟨hjl,by rw [← hany,hbd];simp;omega⟩ (by omega) ?_;(conv=>whnf))
      | trace_state
     repeat' (first|exact trivial|((first|(refine ⟨fun hb=>?_,fun hb=>?_⟩<;>(try simp only [nrm] at hb)<;>try exact kZ hb)|refine kV ?_)<;>(conv=>whnf))|refine kY ?_ ?_)
    ·obtain rfl : j = c.heaps.length:=by omega
     rw [List.drop_length] at hany
     have e:=wA hH he.symm hany.symm
     rw [List.length_drop] at e
     rw [e]
     conv=>whnf
     repeat' (first|exact trivial|((first|(refine ⟨fun hb=>?_,fun hb=>?_⟩<;>(try simp only [nrm] at hb)<;>try exact kZ hb)|refine kV ?_)<;>(conv=>whnf))|refine kY ?_ ?_)
     all_goals (refine congrArg Value.bool ?_;rw [Bool.eq_iff_iff];simp;omega)
theorem kK (c : Chunk) (hc : mS c) : Ev1 Tryz.prog 49 [bz c] [] (.agg (qW c 390001 390003 390005)) (qX c 390001 390003 390005):=by
 have h1:=hc.cells
 have h2:=hc.heaps
 have h3:=hc.boxes
 refine eF Tryz.func49 45 ?_
 conv=>whnf
 repeat' (first|exact trivial|((first|(refine ⟨fun hb=>?_,fun hb=>?_⟩<;>(try simp only [nrm] at hb)<;>try exact kZ hb)|refine kV ?_)<;>(conv=>whnf))|refine kY ?_ ?_)
 all_goals first|(simp;done)|skip
 refine aw.loopS aa (σ:=Nat) [1,2,3,4] (fun k=>[.ptr 200002 0,.ptr 200004 0,.ptr 200006 0,i64 k]) (fun k=>[(200002,.box (bj c)),(200004,.box (bj ⟨0,0,[],[],[]⟩)),(200006,.box [i64 c.x,i64 c.y,.own .u8 200025 0 c.cells.length none,.own .heap 200033 0 c.heaps.length none,.own .box 350001 0 k none]),(200025,.row .u8 c.cells),(200033,.row .heap c.heaps),(350001,.row .box (c.boxes.take k))]) (fun k=>k ≤ c.boxes.length) (fun k=>c.boxes.length - k) 0 (by omega) ?_ ?_
 ·exact fD0
 ·intro k hk
  by_cases hlt : k < c.boxes.length
  ·have hbk:=hc.bags _ (ay (t:=.box) hlt)
   have hnx:=oG (tt:=.box) hlt
   conv=>whnf
   repeat' (first|exact trivial|((first|(refine ⟨fun hb=>?_,fun hb=>?_⟩<;>(try simp only [nrm] at hb)<;>try exact kZ hb)|refine kV ?_)<;>(conv=>whnf))|refine kY ?_ ?_)
   refine .to (k + 1) hlt (by omega) ?_
   conv=>whnf
   repeat' (first|exact trivial|((first|(refine ⟨fun hb=>?_,fun hb=>?_⟩<;>(try simp only [nrm] at hb)<;>try exact kZ hb)|refine kV ?_)<;>(conv=>whnf))|refine kY ?_ ?_)
   all_goals first|(simp;done)|(simp;exact D1 hnx hlt (wB _ _) rfl rfl)|trace_state
  ·obtain rfl : k = c.boxes.length:=by omega
   exact fD0
open Go Go.RowKit Eng
end Go.Proofs.YtaecchphjploaaaGreat
