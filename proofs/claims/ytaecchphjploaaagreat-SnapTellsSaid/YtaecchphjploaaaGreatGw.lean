/- homesteadref01.Uint; homesteadref11.Bytes. -/
import Derived.Test.YtaecchphjploaaaGreatGr
import Derived.Test.YtaecchphjploaaaGreatGj
import Derived.Test.YtaecchphjploaaaGreatGk
import Derived.Test.YtaecchphjploaaaGreatGv
set_option linter.unusedSimpArgs false
set_option linter.unusedVariables false
set_option maxRecDepth 100000
set_option maxHeartbeats 16000000
namespace Go.Proofs.YtaecchphjploaaaGreat
open Go Go.RowKit Eng
theorem oB (f : Nat) (hf9 : f ≤ 9) : ∀ (n : Nat),n < 128 ^ (f + 1) → n < 18446744073709551616 → Api Tryz.prog 151 [.lit (.int .u64 n)] (.vec .u8 (aC f n)):=by
 induction f with
 | zero =>
  intro n hn hm
  have h1 : n < 128:=by simpa using hn
  have e : aC 0 n = [(n : Int)]:=rfl
  rw [e]
  refine aF Tryz.func151 16 ?_
  exact fD0
 | succ f ih =>
  intro n hn hm
  have hq : n / 128 < 128 ^ (f + 1):=Nat.div_lt_of_lt_mul (by rw [Nat.pow_succ] at hn;omega)
  have hi : Api Tryz.prog 151 [.lit (.int .u64 ((n : Int) / 128))] (.vec .u8 (aC f (n / 128))):=ih (by omega) (n / 128) hq (by omega)
  have hl:=eA f (n / 128)
  have e : aC (f + 1) n = if n < 128 then [(n : Int)] else ((n % 128 + 128 : Nat) : Int) :: aC f (n / 128):=rfl
  rw [e]
  by_cases h : n < 128
  ·rw [if_pos h]
   refine aF Tryz.func151 16 ?_
   exact fD0
  ·rw [if_neg h]
   generalize aC f (n / 128) = R at *
   refine aF Tryz.func151 16 ?_
   conv=>whnf
   repeat' (first|exact trivial|((first|(refine ⟨fun hb=>?_,fun hb=>?_⟩<;>(try simp only [nrm] at hb)<;>try exact kZ hb)|refine kV ?_)<;>(conv=>whnf))|refine kY ?_ ?_)
   all_goals first|(simp only [List.drop_zero];refine (List.take_of_length_le (by simp;omega)).trans ?_;exact congrArg (· :: R) (by omega))|rfl|(simp;done)|omega|trace_state
theorem Fq (a b X Y : List (El .u8)) : List.take (a.length + b.length) (List.take a.length (a ++ X) ++ (b ++ Y)) = a ++ b:=by
 rw [List.take_left' rfl,← List.append_assoc,← List.length_append]
 exact List.take_left' rfl
theorem tM (a b : List (El .u8)) (n : Nat) (hn : n = a.length) (hl : a.length + b.length ≤ 140737488355328) : Ev1 Tryz.prog 150 [.own .u8 1 0 n none,.vec .u8 b] [(1,.row .u8 a)] (.own .u8 390001 0 (n + b.length) none) [(390001,.row .u8 (a ++ b))]:=by
 subst hn
 refine eF Tryz.func150 16 ?_
 conv=>whnf
 repeat' (first|exact trivial|((first|(refine ⟨fun hb=>?_,fun hb=>?_⟩<;>(try simp only [nrm] at hb)<;>try exact kZ hb)|refine kV ?_)<;>(conv=>whnf))|refine kY ?_ ?_)
 all_goals first|rfl|(simp;done)|omega|(simp only [List.drop_zero,List.take_length,Int.toNat_zero,Nat.zero_add,Nat.add_zero,List.take_zero,List.nil_append];exact Fq _ _ _ _)|trace_state
theorem rI (b : List (El .u8)) (hl : b.length ≤ 140737488355328) : Ev1 Tryz.prog 150 [.lit (.slice none 0 0),.vec .u8 b] [] (.own .u8 390001 0 b.length none) [(390001,.row .u8 b)]:=by
 refine eF Tryz.func150 16 ?_
 exact fD0
theorem di (a : List (El .u8)) (n : Nat) (z : Int) (hn : n = a.length) (h0 : 0 ≤ z) (hz : z ≤ 18446744073709551615) (hl : a.length ≤ 100000000000000) : Ev1 Tryz.prog 81 [.own .u8 1 0 n none,.lit (.int .u64 z)] [(1,.row .u8 a)] (.own .u8 390001 0 (n + (aj z.toNat).length) none) [(390001,.row .u8 (a ++ aj z.toNat))]:=by
 have hv:=oB 9 (Nat.le_refl 9) z.toNat (by omega) (by omega)
 rw [Int.toNat_of_nonneg h0] at hv
 have hu:=eA 9 z.toNat
 change Api _ _ _ (.vec .u8 (aj z.toNat)) at hv
 change (aj z.toNat).length ≤ 10 at hu
 generalize aj z.toNat = B at *
 have hb:=tM a B n hn (by omega)
 refine eF Tryz.func81 7 ?_
 conv=>whnf
 repeat' (first|exact trivial|((first|refine kL ?_|(refine ⟨fun hb=>?_,fun hb=>?_⟩<;>(try simp only [nrm] at hb)<;>try exact kZ hb)|refine kE hb [(1,1),(390001,350001)] rfl ?_|refine kF hb [(1,1),(390001,350001)] rfl ?_|refine kV ?_)<;>(conv=>whnf))|refine kY ?_ ?_)
 all_goals first|exact List.take_of_length_le (by rw [List.length_append];omega)|rfl|(simp;done)|omega|trace_state
theorem xw (z : Int) (h0 : 0 ≤ z) (hz : z ≤ 18446744073709551615) : Ev1 Tryz.prog 81 [.lit (.slice none 0 0),.lit (.int .u64 z)] [] (.own .u8 390001 0 (aj z.toNat).length none) [(390001,.row .u8 (aj z.toNat))]:=by
 have hv:=oB 9 (Nat.le_refl 9) z.toNat (by omega) (by omega)
 rw [Int.toNat_of_nonneg h0] at hv
 have hu:=eA 9 z.toNat
 change Api _ _ _ (.vec .u8 (aj z.toNat)) at hv
 change (aj z.toNat).length ≤ 10 at hu
 generalize aj z.toNat = B at *
 have hb:=rI B (by omega)
 refine eF Tryz.func81 7 ?_
 conv=>whnf
 repeat' (first|exact trivial|((first|refine kL ?_|(refine ⟨fun hb=>?_,fun hb=>?_⟩<;>(try simp only [nrm] at hb)<;>try exact kZ hb)|refine kE hb [(390001,350001)] rfl ?_|refine kF hb [(390001,350001)] rfl ?_|refine kV ?_)<;>(conv=>whnf))|refine kY ?_ ?_)
 all_goals first|exact List.take_of_length_le (by rw [List.length_append];omega)|rfl|(simp;done)|omega|trace_state
open Go Go.RowKit Eng
theorem Fr {s : aG} (h : bP s) (h2 : cZ s = false) : 0 ≤ s.item ∧ s.item ≤ 255 ∧ 0 ≤ s.n ∧ s.n ≤ 16:=by
 have:=iV h2;exact ⟨h.1,h.2,this.1,this.2⟩
theorem Eo (a b : Int) : an [a,b] = aj a.toNat ++ aj b.toNat:=by unfold an;simp
theorem Gq (a b c : Int) : an [a,b,c] = aj a.toNat ++ (aj b.toNat ++ aj c.toNat):=by unfold an;simp
theorem Gr (a : Int) : an [a] = aj a.toNat:=by unfold an;simp
theorem dn (z : Nat) : (aj z).length ≤ 10:=eA 9 z
theorem wx (c : Chunk) (hc : OkC c) (hR : ar c = true) : Api Tryz.prog 82 [bz c] (.tup [.vec .u8 (aK c),i64 0]):=by
 have hrt:=f9 c hc
 rw [hR] at hrt
 have hRC:=fV hR
 have hlen:=hRC.len
 have hH:=hRC.head
 simp only [da,Bool.and_eq_true,decide_eq_true_eq] at hH
 obtain ⟨hx0,hy0,hx1,hy1,-,hh32⟩:=hH
 obtain ⟨hbl,hbx⟩:=eZ _ _ _ hRC.go
 have lx:=dn c.x.toNat
 have ly:=dn c.y.toNat
 have e1:=xw c.x hx0 (by omega)
 have e2:=di (aj c.x.toNat) _ c.y rfl hy0 (by omega) (by omega)
 have hB : aK c = aj c.x.toNat ++ aj c.y.toNat ++ c.cells ++ aj (c.heaps.length : Int).toNat ++ c.heaps.flatMap cg ++ c.boxes.flatMap cR:=by
  unfold aK;rw [Eo,Gr]
 rw [← List.length_append] at e2
 have lP : (aj c.x.toNat ++ aj c.y.toNat).length ≤ 20:=by rw [List.length_append];omega
 rw [hB]
 generalize hX : aj c.x.toNat = X at *
 generalize hP : X ++ aj c.y.toNat = P at *
 refine aF Tryz.func82 112 ?_
 conv=>whnf
 repeat' (first|exact trivial|((first|refine kL ?_|(refine ⟨fun hb=>?_,fun hb=>?_⟩<;>(try simp only [nrm] at hb)<;>try exact kZ hb)|refine kE e1 [(390001,150101)] rfl ?_|refine kF e1 [(390001,150101)] rfl ?_|refine kE e2 [(1,150101),(390001,150103)] rfl ?_|refine kF e2 [(1,150101),(390001,150103)] rfl ?_|refine kV ?_)<;>(conv=>whnf))|refine kY ?_ ?_)
 refine aw.loopS aa (σ:=Nat) [1,4,5] (fun k=>[.ptr 2 0,.own .u8 150103 0 (P.length + k) none,i64 k]) (fun k=>[(2,.box (bj c)),(150103,.row .u8 (P ++ c.cells.take k))]) (fun k=>k ≤ 64) (fun k=>64 - k) 0 (by omega) ?_ ?_
 ·exact fD0
 ·intro k hk
  by_cases hlt : k < 64
  ·have hn:=v4 P c.cells k (by omega)
   conv=>whnf
   repeat' (first|exact trivial|((first|(refine ⟨fun hb=>?_,fun hb=>?_⟩<;>(try simp only [nrm] at hb)<;>try exact kZ hb)|refine kV ?_)<;>(conv=>whnf))|refine kY ?_ ?_)
   refine .to (k + 1) hlt (by omega) ?_
   exact fD0
  ·obtain rfl : k = 64:=by omega
   have hcl : c.cells.take 64 = c.cells:=List.take_of_length_le (by omega)
   rw [hcl]
   have lQ : (P ++ c.cells).length ≤ 84:=by rw [List.length_append];omega
   have lQ2 : P.length + 64 = (P ++ c.cells).length:=by rw [List.length_append];omega
   rw [lQ2]
   have lh:=dn (c.heaps.length : Int).toNat
   have e3:=di (P ++ c.cells) _ (c.heaps.length : Int) rfl (by omega) (by omega) (by omega)
   rw [← List.length_append] at e3
   have lS : (P ++ c.cells ++ aj (c.heaps.length : Int).toNat).length ≤ 94:=by rw [List.length_append];omega
   generalize P ++ c.cells ++ aj (c.heaps.length : Int).toNat = S at *
   generalize P ++ c.cells = Q at *
   conv=>whnf
   repeat' (first|exact trivial|((first|refine kL ?_|(refine ⟨fun hb=>?_,fun hb=>?_⟩<;>(try simp only [nrm] at hb)<;>try exact kZ hb)|refine kE e3 [(1,150103),(390001,150101)] rfl ?_|refine kF e3 [(1,150103),(390001,150101)] rfl ?_|refine kV ?_)<;>(conv=>whnf))|refine kY ?_ ?_)
   refine aw.loopS aa (σ:=Nat × List Int) [1,4,6] (fun (k,T)=>[.ptr 2 0,.own .u8 150101 0 T.length none,i64 k]) (fun (_,T)=>[(2,.box (bj c)),(150101,.row .u8 T)]) (fun (k,T)=>k ≤ c.heaps.length ∧ T = S ++ (c.heaps.take k).flatMap cg ∧ T.length ≤ 94 + k * 30) (fun (k,_)=>c.heaps.length - k) (0,S) ⟨by omega,by simp,by omega⟩ ?_ ?_
   ·exact fD0
   ·rintro ⟨k,T⟩ ⟨hk,hT,hTl⟩
    try dsimp only at hk hT hTl
    by_cases hlt : k < c.heaps.length
    ·obtain ⟨ha1,ha2,ha3,ha4⟩:=kG (dm hRC.heaps (ay (t:=.heap) hlt))
     obtain ⟨hb1,hb2⟩ : 0 ≤ (elt .heap c.heaps k).slot.item ∧ (elt .heap c.heaps k).slot.item ≤ 255:=hc.heaps _ (ay (t:=.heap) hlt)
     have l1:=dn (elt .heap c.heaps k).cell.toNat
     have l2:=dn (elt .heap c.heaps k).slot.item.toNat
     have l3:=dn (elt .heap c.heaps k).slot.n.toNat
     have q0 : (elt .heap c.heaps (k : Int).toNat).cell = (elt .heap c.heaps k).cell:=rfl
     have q1 : (elt .heap c.heaps (k : Int).toNat).slot.item = (elt .heap c.heaps k).slot.item:=rfl
     have q2 : (elt .heap c.heaps (k : Int).toNat).slot.n = (elt .heap c.heaps k).slot.n:=rfl
     have u1:=di T _ (elt .heap c.heaps k).cell rfl ha1 (by omega) (by omega)
     have u2:=di (T ++ aj (elt .heap c.heaps k).cell.toNat) _ (elt .heap c.heaps k).slot.item (by rw [List.length_append]) hb1 (by omega) (by rw [List.length_append];omega)
     have u3:=di (T ++ aj (elt .heap c.heaps k).cell.toNat ++ aj (elt .heap c.heaps k).slot.item.toNat) _ (elt .heap c.heaps k).slot.n (by rw [List.length_append,List.length_append]) (by omega) (by omega) (by rw [List.length_append,List.length_append];omega)
     have hT2 : T ++ aj (elt .heap c.heaps k).cell.toNat ++ aj (elt .heap c.heaps k).slot.item.toNat ++ aj (elt .heap c.heaps k).slot.n.toNat = S ++ (c.heaps.take (k + 1)).flatMap cg:=by
      rw [cf (t:=.heap) cg hlt,hT]
      unfold cg
      rw [Gq]
      simp only [List.append_assoc]
     have hT3 : (T ++ aj (elt .heap c.heaps k).cell.toNat ++ aj (elt .heap c.heaps k).slot.item.toNat ++ aj (elt .heap c.heaps k).slot.n.toNat).length ≤ 94 + (k + 1) * 30:=by
      simp only [List.length_append];omega
     conv=>whnf
     repeat' (first|exact trivial|((first|refine kL ?_|(refine ⟨fun hb=>?_,fun hb=>?_⟩<;>(try simp only [nrm] at hb)<;>try exact kZ hb)|refine kE u1 [(1,150101),(390001,150103)] rfl ?_|refine kF u1 [(1,150101),(390001,150103)] rfl ?_|refine kE u2 [(1,150103),(390001,150105)] rfl ?_|refine kF u2 [(1,150103),(390001,150105)] rfl ?_|refine kE u3 [(1,150105),(390001,150101)] rfl ?_|refine kF u3 [(1,150105),(390001,150101)] rfl ?_|refine kV ?_)<;>(conv=>whnf))|refine kY ?_ ?_)
     refine .to (k + 1,_) ⟨hlt,hT2,hT3⟩ (by first|omega|(dsimp only;omega)) ?_
     conv=>whnf
     repeat' (first|exact trivial|((first|(refine ⟨fun hb=>?_,fun hb=>?_⟩<;>(try simp only [nrm] at hb)<;>try exact kZ hb)|refine kV ?_)<;>(conv=>whnf))|refine kY ?_ ?_)
     all_goals first|rfl|(simp only [List.length_append];done)|(simp only [List.length_append,List.take_length];done)|(refine List.take_of_length_le ?_;simp only [List.length_append];omega)|trace_state
    ·obtain rfl : k = c.heaps.length:=by omega
     rw [List.take_length] at hT
     rw [← hT]
     conv=>whnf
     repeat' (first|exact trivial|((first|(refine ⟨fun hb=>?_,fun hb=>?_⟩<;>(try simp only [nrm] at hb)<;>try exact kZ hb)|refine kV ?_)<;>(conv=>whnf))|refine kY ?_ ?_)
     refine aw.loopS aa (σ:=Nat × List Int) [1,4,7] (fun (k,U)=>[.ptr 2 0,.own .u8 150101 0 U.length none,i64 k]) (fun (_,U)=>[(2,.box (bj c)),(150101,.row .u8 U)]) (fun (k,U)=>k ≤ c.boxes.length ∧ U = T ++ (c.boxes.take k).flatMap cR ∧ U.length ≤ 1060 + k * 120) (fun (k,_)=>c.boxes.length - k) (0,T) ⟨by omega,by simp,by omega⟩ ?_ ?_
     ·exact fD0
     ·rintro ⟨k,U⟩ ⟨hk,hU,hUl⟩
      try dsimp only at hk hU hUl
      by_cases hlt : k < c.boxes.length
      ·obtain ⟨hb6,hbo⟩:=hbx _ (ay (t:=.box) hlt)
       have hok:=hc.boxes _ (ay (t:=.box) hlt)
       conv=>whnf
       repeat' (first|exact trivial|((first|(refine ⟨fun hb=>?_,fun hb=>?_⟩<;>(try simp only [nrm] at hb)<;>try exact kZ hb)|refine kV ?_)<;>(conv=>whnf))|refine kY ?_ ?_)
       refine aw.loopS aa (σ:=Nat × List Int) [1,4,7,8] (fun (j,V)=>[.ptr 2 0,.own .u8 150101 0 V.length none,i64 k,i64 j]) (fun (_,V)=>[(2,.box (bj c)),(150101,.row .u8 V)]) (fun (j,V)=>j ≤ 6 ∧ V = U ++ ((elt .box c.boxes k).bag.take j).flatMap a_ ∧ V.length ≤ U.length + j * 20) (fun (j,_)=>6 - j) (0,U) ⟨by omega,by simp,by omega⟩ ?_ ?_
       ·exact fD0
       ·rintro ⟨j,V⟩ ⟨hj,hV,hVl⟩
        try dsimp only at hj hV hVl
        by_cases hjl : j < 6
        ·have hjl2 : j < (elt .box c.boxes k).bag.length:=by omega
         have hm:=ay (t:=.slot) hjl2
         obtain ⟨s1,s2,s3,s4⟩:=Fr (hok.1 _ hm) (dm (by simpa [cn] using hbo) hm)
         have l1:=dn (elt .slot (elt .box c.boxes k).bag j).item.toNat
         have l2:=dn (elt .slot (elt .box c.boxes k).bag j).n.toNat
         have q1 : (elt .slot (elt .box c.boxes (k : Int).toNat).bag (j : Int).toNat).item = (elt .slot (elt .box c.boxes k).bag j).item:=rfl
         have q2 : (elt .slot (elt .box c.boxes (k : Int).toNat).bag (j : Int).toNat).n = (elt .slot (elt .box c.boxes k).bag j).n:=rfl
         have q3 : (elt .box c.boxes (k : Int).toNat).bag.length = (elt .box c.boxes k).bag.length:=rfl
         have u1:=di V _ (elt .slot (elt .box c.boxes k).bag j).item rfl s1 (by omega) (by omega)
         have u2:=di (V ++ aj (elt .slot (elt .box c.boxes k).bag j).item.toNat) _ (elt .slot (elt .box c.boxes k).bag j).n (by rw [List.length_append]) s3 (by omega) (by rw [List.length_append];omega)
         have hT2 : V ++ aj (elt .slot (elt .box c.boxes k).bag j).item.toNat ++ aj (elt .slot (elt .box c.boxes k).bag j).n.toNat = U ++ ((elt .box c.boxes k).bag.take (j + 1)).flatMap a_:=by
          rw [cf (t:=.slot) a_ hjl2,hV]
          unfold a_
          rw [Eo]
          simp only [List.append_assoc]
         have hT3 : (V ++ aj (elt .slot (elt .box c.boxes k).bag j).item.toNat ++ aj (elt .slot (elt .box c.boxes k).bag j).n.toNat).length ≤ U.length + (j + 1) * 20:=by
          simp only [List.length_append];omega
         conv=>whnf
         repeat' (first|exact trivial|((first|refine kL ?_|(refine ⟨fun hb=>?_,fun hb=>?_⟩<;>(try simp only [nrm] at hb)<;>try exact kZ hb)|refine kE u1 [(1,150101),(390001,150103)] rfl ?_|refine kF u1 [(1,150101),(390001,150103)] rfl ?_|refine kE u2 [(1,150103),(390001,150101)] rfl ?_|refine kF u2 [(1,150103),(390001,150101)] rfl ?_|refine kV ?_)<;>(conv=>whnf))|refine kY ?_ ?_)
         refine .to (j + 1,_) ⟨hjl,hT2,hT3⟩ (by first|omega|(dsimp only;omega)) ?_
         conv=>whnf
         repeat' (first|exact trivial|((first|(refine ⟨fun hb=>?_,fun hb=>?_⟩<;>(try simp only [nrm] at hb)<;>try exact kZ hb)|refine kV ?_)<;>(conv=>whnf))|refine kY ?_ ?_)
         all_goals first|rfl|(simp only [List.length_append];done)|(simp only [List.length_append,List.take_length];done)|(refine List.take_of_length_le ?_;simp only [List.length_append];omega)|trace_state
        ·obtain rfl : j = 6:=by omega
         rw [List.take_of_length_le (by omega)] at hV
         have hV2 : V = T ++ (c.boxes.take (k + 1)).flatMap cR:=by rw [cf (t:=.box) cR hlt,hV,hU,List.append_assoc];rfl
         conv=>whnf
         repeat' (first|exact trivial|((first|(refine ⟨fun hb=>?_,fun hb=>?_⟩<;>(try simp only [nrm] at hb)<;>try exact kZ hb)|refine kV ?_)<;>(conv=>whnf))|refine kY ?_ ?_)
         refine .to (k + 1,V) ⟨hlt,hV2,by first|omega|(dsimp only;omega)⟩ (by first|omega|(dsimp only;omega)) ?_
         exact fD0
      ·obtain rfl : k = c.boxes.length:=by omega
       rw [List.take_length] at hU
       rw [← hU]
       exact fD0
theorem wy : ∀ (f n : Nat),n < 128 ^ (f + 1) → au (aC f n)
 | 0,n,h=>by intro i hi;unfold aC at hi;simp at hi h;omega
 | f + 1,n,h=>by
  intro i hi
  unfold aC at hi
  split at hi
  ·simp at hi;omega
  ·rcases List.mem_cons.1 hi with rfl|hi
   ·omega
   ·exact wy f _ (by rw [Nat.pow_succ] at h;omega) i hi
theorem Fs (n : Nat) (h : n < 18446744073709551616) : au (aj n):=wy 9 n (by omega)
theorem rJ (l : List Int) (h : ∀ z ∈ l,z < 18446744073709551616) : au (an l):=by
 intro i hi
 unfold an at hi
 rw [List.mem_flatMap] at hi
 obtain ⟨z,hm,hz⟩:=hi
 exact Fs _ (by have:=h z hm;omega) i hz
theorem rK {a b : List Int} (ha : au a) (hb : au b) : au (a ++ b):=fun i hi=>(List.mem_append.1 hi).elim (ha i) (hb i)
theorem sC {α : Type} {f : α → List Int} {l : List α} (h : ∀ a ∈ l,au (f a)) : au (l.flatMap f):=fun i hi=>by
 obtain ⟨a,ha,h2⟩:=List.mem_flatMap.1 hi
 exact h a ha i h2
theorem oC {c : Chunk} (h : ar c = true) : au (aK c):=by
 have hp:=cX h
 have hh:=lX h
 have hC:=fU h
 unfold aK
 refine rK (rK (rK (rK (rJ _ ?_) hC.cells) (rJ _ ?_)) (sC fun x hx=>rJ _ ?_)) (sC fun b hb=>sC fun s hs=>rJ _ ?_)
 ·intro z hz;simp at hz;omega
 ·intro z hz;simp at hz;omega
 ·intro z hz
  obtain ⟨k1,k2,k3⟩:=rj h hx
  have k4:=(hC.heaps x hx).2
  have k5:=(vW k1).2.2
  simp at hz
  rcases hz with rfl|rfl|rfl<;>omega
 ·intro z hz
  have k1:=((hC.boxes b hb).1 s hs).2
  have k2:=iV (dm (by simpa [cn] using (lA h hb).2) hs)
  simp at hz
  rcases hz with rfl|rfl<;>omega
end Go.Proofs.YtaecchphjploaaaGreat
