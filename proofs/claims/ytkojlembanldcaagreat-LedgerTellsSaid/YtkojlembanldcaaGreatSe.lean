/- The reference of ticks. -/
import Derived.Test.YtkojlembanldcaaGreatSc
import Derived.Test.YtkojlembanldcaaGreatRu
import Derived.Test.YtkojlembanldcaaGreatRe
set_option linter.unusedSimpArgs false
set_option linter.unusedVariables false
set_option maxRecDepth 100000
set_option maxHeartbeats 16000000
namespace Go.Proofs.YtkojlembanldcaaGreat
open Go Go.RowKit Eng
theorem uI (o : ay) (h0 : 0 ≤ o.cmd.dol) (h1 : o.cmd.dol ≤ 255) : Api Tryz.prog 183 [.agg (cells .order o)] (.vec .i64 (iO o)):=by
 have hk : iO o = [o.player,o.seq,o.cmd.dol,o.cmd.a,o.cmd.b,o.cmd.c,o.cmd.n]:=rfl
 rw [hk]
 refine aF Tryz.func183 23 ?_
 exact fD0
theorem J1 {a b : Int} {r s : List Int} (h : ¬ a = b) : decide (fM (a :: r) (b :: s) < 0) = decide (a < b):=by
 rw [decide_eq_decide,kG]
 exact ⟨fun x=>x.elim id fun y=>absurd y.1 h,.inl⟩
theorem J2 {a b : Int} {r s : List Int} (h : a = b) : fM (a :: r) (b :: s) = fM r s:=by
 show (if bX a b = 0 then fM r s else bX a b) = _
 rw [if_pos (qf.2 h)]
theorem Bj (x y : ay) (hx : 0 ≤ x.cmd.dol ∧ x.cmd.dol ≤ 255) (hy : 0 ≤ y.cmd.dol ∧ y.cmd.dol ≤ 255) : Api Tryz.prog 109 [.agg (cells .order x),.agg (cells .order y)] (bol (ltO x y)):=by
 have h1:=uI x hx.1 hx.2
 have h2:=uI y hy.1 hy.2
 have l1 : (iO x).length = 7:=rfl
 have l2 : (iO y).length = 7:=rfl
 have e : ltO x y = decide (fM (iO x) (iO y) < 0):=rfl
 rw [e]
 clear e
 generalize iO x = X at *
 generalize iO y = Y at *
 refine aF Tryz.func109 34 ?_
 conv=>whnf
 repeat' (first|exact trivial|((first|(refine ⟨fun hb=>?_,fun hb=>?_⟩<;>(try simp only [nrm] at hb)<;>try exact kZ hb)|refine kV ?_)<;>(conv=>whnf))|refine kY ?_ ?_)
 refine ap.loopS ah (σ:=Nat) [5,6,7] (fun k=>[.vec .i64 X,.vec .i64 Y,i64 k]) (fun _=>[]) (fun k=>k ≤ 7 ∧ fM (X.drop k) (Y.drop k) = fM X Y) (fun k=>7 - k) 0 ⟨by omega,rfl⟩ ?_ ?_
 ·exact fD0
 ·rintro k ⟨hk,he⟩
  by_cases hlt : k < 7
  ·rw [aY (t:=.i64) (l:=X) (by omega),aY (t:=.i64) (l:=Y) (by omega)] at he
   have q0 : elt .i64 X (k : Int).toNat = elt .i64 X k:=rfl
   have q1 : elt .i64 Y (k : Int).toNat = elt .i64 Y k:=rfl
   by_cases hq : elt .i64 X k = elt .i64 Y k
   ·rw [J2 hq] at he
    have hq2 : (elt .i64 X (k : Int).toNat : Int) = elt .i64 Y (k : Int).toNat:=hq
    conv=>whnf
    repeat' (first|exact trivial|((first|refine kL ?_|(refine ⟨fun hb=>?_,fun hb=>?_⟩<;>(try simp only [nrm] at hb)<;>try exact kZ hb)|(exact absurd hq (by assumption);done)|refine kV ?_)<;>(conv=>whnf))|refine kY ?_ ?_)
    refine .to (k + 1) ⟨hlt,he⟩ (by omega) ?_
    exact fD0
   ·have hd:=J1 (r:=X.drop (k + 1)) (s:=Y.drop (k + 1)) hq
    rw [he] at hd
    rw [hd]
    conv=>whnf
    repeat' (first|exact trivial|((first|refine kL ?_|(refine ⟨fun hb=>?_,fun hb=>?_⟩<;>(try simp only [nrm] at hb)<;>try exact kZ hb)|(exact absurd (by assumption) hq;done)|refine kV ?_)<;>(conv=>whnf))|refine kY ?_ ?_)
    all_goals first|rfl|trace_state
  ·obtain rfl : k = 7:=by omega
   rw [List.drop_of_length_le (by omega),List.drop_of_length_le (by omega)] at he
   rw [← he]
   exact fD0
theorem D_ {S : List ay} {x : ay} {j : Nat} (hS : S.Pairwise (fun a b=>leO a b = true)) (hj : j ≤ S.length) (hlo : ∀ i < j,ltO (elt .order S i) x = true) (hhi : j < S.length → ltO (elt .order S j) x = false) :
  (S.take j ++ x :: S.drop j).Pairwise (fun a b=>leO a b = true):=by
 have hSd : (S.take j ++ S.drop j).Pairwise (fun a b=>leO a b = true):=by rw [List.take_append_drop];exact hS
 obtain ⟨p1,p2,p3⟩:=List.pairwise_append.1 hSd
 have hlt : ∀ a ∈ S.take j,leO a x = true:=fun a ha=>by
  obtain ⟨i,hi,rfl⟩:=List.getElem_of_mem ha
  have hi2 : i < j:=by rw [List.length_take] at hi;omega
  have e:=ar .order S i (by omega)
  rw [List.getElem_take]
  rw [List.getElem?_eq_getElem (by omega)] at e
  rw [Option.some.inj e]
  have:=wM _ _ (hlo i hi2)
  unfold leO
  rw [this];rfl
 have hgt : ∀ b ∈ S.drop j,leO x b = true:=fun b hb=>by
  by_cases hjl : j < S.length
  ·have h1 : leO x (elt .order S j) = true:=by unfold leO;rw [hhi hjl];rfl
   rw [aY (t:=.order) hjl] at hb p2
   rcases List.mem_cons.1 hb with rfl|hb
   ·exact h1
   ·exact wL _ _ _ h1 ((List.pairwise_cons.1 p2).1 b hb)
  ·rw [List.drop_of_length_le (by omega)] at hb
   cases hb
 exact List.pairwise_append.2 ⟨p1,List.pairwise_cons.2 ⟨hgt,p2⟩,fun a ha b hb=>by
  rcases List.mem_cons.1 hb with rfl|hb
  ·exact hlt a ha
  ·exact p3 a ha b hb⟩
theorem Ii {S l : List ay} {x : ay} {j : Nat} (h : S.Perm l) : (S.take j ++ x :: S.drop j).Perm (l ++ [x]):=by
 refine List.perm_middle.trans ?_
 rw [List.take_append_drop]
 exact (List.Perm.cons x h).trans (List.perm_append_singleton x l).symm
theorem KV {α : Type} {A B C L : List α} (h : A ++ (B ++ C) = L) : List.take (0 + A.length + B.length + C.length) (List.drop 0 (List.take (0 + A.length + B.length) (List.take (0 + A.length) (List.take 0 [] ++ A) ++ B) ++ C)) = L:=by
 subst h
 have e1 : List.take (0 + A.length) (List.take 0 [] ++ A) = A:=by simp
 rw [e1]
 have e2 : List.take (0 + A.length + B.length) (A ++ B) = A ++ B:=List.take_of_length_le (by simp)
 rw [e2,List.drop_zero,List.take_of_length_le (by simp;omega),List.append_assoc]
theorem KW {α : Type} {S : List α} {j : Nat} {x y : α} (hj : j ≤ S.length) (hx : x = y) : List.take ((j : Int) - 0).toNat (List.drop (Int.toNat 0) S) ++ (List.take 1 (List.drop 0 [x]) ++ List.take ((S.length : Int) - j).toNat (List.drop (j : Int).toNat S)) = S.take j ++ y :: S.drop j:=by
 subst hx
 rw [show ((j : Int) - 0).toNat = j by omega,show ((S.length : Int) - j).toNat = S.length - j by omega,show ((j : Int)).toNat = j by omega,List.take_of_length_le (l:=List.drop j S) (by simp)]
 rfl
def lE (S : List ay) (k : Nat) : List ay:=if k = 0 then dR S else e_ (elt .order S (k - 1)) (S.drop k)
theorem Gn {S : List ay} {k : Nat} (h : k < S.length) : lE S k = (if k = 0 ∨ ¬ ((elt .order S k).player = (elt .order S (k - 1)).player ∧ (elt .order S k).seq = (elt .order S (k - 1)).seq) then [elt .order S k] else []) ++ lE S (k + 1):=by
 unfold lE
 rw [if_neg (show ¬ k + 1 = 0 by omega),Nat.add_sub_cancel]
 by_cases hk : k = 0
 ·subst hk
  rw [if_pos rfl,if_pos (.inl rfl)]
  conv=>lhs;rw [← List.drop_zero (l:=S),aY (t:=.order) h]
  rfl
 ·rw [if_neg hk,aY (t:=.order) h]
  simp only [e_]
  by_cases hs : (elt .order S k).player = (elt .order S (k - 1)).player ∧ (elt .order S k).seq = (elt .order S (k - 1)).seq
  ·rw [if_pos (wN.2 hs),if_neg (by intro h;rcases h with h|h;exact hk h;exact h hs)];rfl
  ·rw [if_neg (fun e=>hs (wN.1 e)),if_pos (.inr hs)];rfl
theorem pe (l : List (El .order)) (hl : l.length ≤ 2000000000000) (hO : ∀ o ∈ l,OkO o) : Api Tryz.prog 49 [.vec .order l] (.vec .order (b7 l)):=by
 refine aF Tryz.func49 89 ?_
 conv=>whnf
 repeat' (first|exact trivial|((first|(refine ⟨fun hb=>?_,fun hb=>?_⟩<;>(try simp only [nrm] at hb)<;>try exact kZ hb)|refine kV ?_)<;>(conv=>whnf))|refine kY ?_ ?_)
 refine ap.loopS ah (σ:=Nat × List ay) [0,3,4] (fun (k,S)=>[.vec .order l,.vec .order S,i64 k]) (fun _=>[]) (fun (k,S)=>k ≤ l.length ∧ S.length = k ∧ S.Pairwise (fun a b=>leO a b = true) ∧ S.Perm (l.take k)) (fun (k,_)=>l.length - k) (0,[]) ⟨by omega,rfl,List.Pairwise.nil,List.Perm.refl _⟩ ?_ ?_
 ·exact fD0
 ·rintro ⟨k,S⟩ ⟨hk,hSl,hS,hP⟩
  try dsimp only at hk hSl hS hP
  by_cases hlt : k < l.length
  ·have hx:=hO _ (ao (t:=.order) hlt)
   have hSO : ∀ o ∈ S,OkO o:=fun o ho=>hO o (List.mem_of_mem_take (hP.subset ho))
   conv=>whnf
   repeat' (first|exact trivial|((first|(refine ⟨fun hb=>?_,fun hb=>?_⟩<;>(try simp only [nrm] at hb)<;>try exact kZ hb)|refine kV ?_)<;>(conv=>whnf))|refine kY ?_ ?_)
   refine ap.loopS ah (σ:=Nat) [0,3,4,5] (fun j=>[.vec .order l,.vec .order S,i64 k,i64 j]) (fun _=>[]) (fun j=>j ≤ S.length ∧ ∀ i < j,ltO (elt .order S i) (elt .order l k) = true) (fun j=>S.length - j) 0 ⟨by omega,by omega⟩ ?_ ?_
   ·exact fD0
   ·rintro j ⟨hj,hlo⟩
    have hnext : (j < S.length → ltO (elt .order S j) (elt .order l k) = false) → (S.take j ++ elt .order l k :: S.drop j).length = k + 1 ∧ (S.take j ++ elt .order l k :: S.drop j).Pairwise (fun a b=>leO a b = true) ∧ (S.take j ++ elt .order l k :: S.drop j).Perm (l.take (k + 1)):=fun hhi =>
     ⟨by simp;omega,D_ hS hj hlo hhi,by rw [ja (tt:=.order) hlt];exact Ii hP⟩
    by_cases hjl : j < S.length
    ·have hy:=hSO _ (ao (t:=.order) hjl)
     have hls:=Bj (elt .order S j) (elt .order l k) hy.2 hx.2
     cases hB : ltO (elt .order S j) (elt .order l k) with
     | true =>
      rw [hB] at hls
      conv=>whnf
      repeat' (first|exact trivial|((first|(refine ⟨fun hb=>?_,fun hb=>?_⟩<;>(try simp only [nrm] at hb)<;>try exact kZ hb)|refine kV ?_)<;>(conv=>whnf))|refine kY ?_ ?_)
      refine .to (j + 1) ⟨hjl,fun i hi=>?_⟩ (by omega) ?_
      ·rcases Nat.lt_succ_iff_lt_or_eq.1 hi with h|rfl
       ·exact hlo i h
       ·exact hB
      exact fD0
     | false =>
      rw [hB] at hls
      obtain ⟨n1,n2,n3⟩:=hnext fun _=>hB
      conv=>whnf
      repeat' (first|exact trivial|((first|(refine ⟨fun hb=>?_,fun hb=>?_⟩<;>(try simp only [nrm] at hb)<;>try exact kZ hb)|refine kV ?_)<;>(conv=>whnf))|refine kY ?_ ?_)
      refine .to (k + 1,S.take j ++ elt .order l k :: S.drop j) ⟨hlt,n1,n2,n3⟩ (by first|omega|(dsimp only;omega)) ?_
      conv=>whnf
      repeat' (first|exact trivial|((first|(refine ⟨fun hb=>?_,fun hb=>?_⟩<;>(try simp only [nrm] at hb)<;>try exact kZ hb)|refine kV ?_)<;>(conv=>whnf))|refine kY ?_ ?_)
      all_goals first|rfl|(refine KV ?_;exact KW (by omega) rfl)|trace_state
    ·obtain ⟨n1,n2,n3⟩:=hnext fun h=>absurd h hjl
     conv=>whnf
     repeat' (first|exact trivial|((first|(refine ⟨fun hb=>?_,fun hb=>?_⟩<;>(try simp only [nrm] at hb)<;>try exact kZ hb)|refine kV ?_)<;>(conv=>whnf))|refine kY ?_ ?_)
     refine .to (k + 1,S.take j ++ elt .order l k :: S.drop j) ⟨hlt,n1,n2,n3⟩ (by first|omega|(dsimp only;omega)) ?_
     conv=>whnf
     repeat' (first|exact trivial|((first|(refine ⟨fun hb=>?_,fun hb=>?_⟩<;>(try simp only [nrm] at hb)<;>try exact kZ hb)|refine kV ?_)<;>(conv=>whnf))|refine kY ?_ ?_)
     all_goals first|rfl|(refine KV ?_;exact KW (by omega) rfl)|trace_state
  ·have hk2 : k = l.length:=by omega
   clear hk hlt
   subst hk2
   rw [List.take_length] at hP
   have hSs : S = jv l:=by rw [← AZ hP,DQ hS]
   have hC : b7 l = lE S 0:=by unfold b7 lE;rw [if_pos rfl,hSs]
   rw [hC]
   clear hC hSs
   conv=>whnf
   repeat' (first|exact trivial|((first|(refine ⟨fun hb=>?_,fun hb=>?_⟩<;>(try simp only [nrm] at hb)<;>try exact kZ hb)|refine kV ?_)<;>(conv=>whnf))|refine kY ?_ ?_)
   refine ap.loopS ah (σ:=Nat × List ay) [3,6,7] (fun (k,C)=>[.vec .order S,.own .order 150103 0 C.length none,i64 k]) (fun (_,C)=>[(150103,.row .order C)]) (fun (k,C)=>k ≤ S.length ∧ C.length ≤ k ∧ C ++ lE S k = lE S 0) (fun (k,_)=>S.length - k) (0,[]) ⟨by omega,by simp,rfl⟩ ?_ ?_
   ·exact fD0
   ·rintro ⟨k,C⟩ ⟨hk,hCl,hC⟩
    try dsimp only at hk hCl hC
    by_cases hlt2 : k < S.length
    ·rw [Gn hlt2] at hC
     cases k with
     | zero =>
      rw [if_pos (.inl rfl)] at hC
      conv=>whnf
      repeat' (first|exact trivial|((first|(refine ⟨fun hb=>?_,fun hb=>?_⟩<;>(try simp only [nrm] at hb)<;>try exact kZ hb)|refine kV ?_)<;>(conv=>whnf))|refine kY ?_ ?_)
      refine .to (0 + 1,C ++ [elt .order S 0]) ⟨hlt2,by rw [List.length_append,List.length_singleton];omega,by rw [List.append_assoc];exact hC⟩ (by first|omega|(dsimp only;omega)) ?_
      exact fD0
     | succ j =>
      have e : (((j + 1 : Nat) : Int) - 1).toNat = j:=by omega
      have x1 : (elt .order S ((((j + 1 : Nat) : Int) - 1).toNat + 0)).player = (elt .order S j).player:=by rw [e];rfl
      have x2 : (elt .order S ((((j + 1 : Nat) : Int) - 1).toNat + 0)).seq = (elt .order S j).seq:=by rw [e];rfl
      have y1 : (elt .order S (((j + 1 : Nat) : Int) - 1).toNat).player = (elt .order S j).player:=by rw [e]
      have y2 : (elt .order S (((j + 1 : Nat) : Int) - 1).toNat).seq = (elt .order S j).seq:=by rw [e]
      have y3 : (elt .order S ((j + 1 : Nat) : Int).toNat).player = (elt .order S (j + 1)).player:=rfl
      have y4 : (elt .order S ((j + 1 : Nat) : Int).toNat).seq = (elt .order S (j + 1)).seq:=rfl
      have x3 : (elt .order S (j + 1 + 0)).player = (elt .order S (j + 1)).player:=rfl
      have x4 : (elt .order S (j + 1 + 0)).seq = (elt .order S (j + 1)).seq:=rfl
      rw [Nat.add_sub_cancel] at hC
      by_cases hs : (elt .order S (j + 1)).player = (elt .order S j).player ∧ (elt .order S (j + 1)).seq = (elt .order S j).seq
      ·rw [if_neg (by intro h;rcases h with h|h;omega;exact h hs),List.nil_append] at hC
       obtain ⟨hs1,hs2⟩:=hs
       conv=>whnf
       repeat' (first|exact trivial|((first|(refine ⟨fun hb=>?_,fun hb=>?_⟩<;>(try simp only [nrm] at hb)<;>try exact kZ hb)|refine kV ?_)<;>(conv=>whnf))|refine kY ?_ ?_)
       refine .to (j + 1 + 1,C) ⟨hlt2,by first|omega|(dsimp only;omega),hC⟩ (by first|omega|(dsimp only;omega)) ?_
       exact fD0
      ·rw [if_pos (.inr hs)] at hC
       have hs1 : (elt .order S (j + 1)).player = (elt .order S j).player → ¬ (elt .order S (j + 1)).seq = (elt .order S j).seq:=fun h1 h2=>hs ⟨h1,h2⟩
       conv=>whnf
       repeat' (first|exact trivial|((first|(refine ⟨fun hb=>?_,fun hb=>?_⟩<;>(try simp only [nrm] at hb)<;>try exact kZ hb)|refine kV ?_)<;>(conv=>whnf))|refine kY ?_ ?_)
       all_goals
        refine .to (j + 1 + 1,C ++ [elt .order S (j + 1)]) ⟨hlt2,by rw [List.length_append,List.length_singleton];omega,by rw [List.append_assoc];exact hC⟩ (by first|omega|(dsimp only;omega)) ?_
        exact fD0
    ·obtain rfl : k = S.length:=by omega
     have hr : lE S S.length = []:=by
      unfold lE
      by_cases h0 : S.length = 0
      ·rw [if_pos h0]
       have : S = []:=List.eq_nil_of_length_eq_zero h0
       subst this;rfl
      ·rw [if_neg h0,List.drop_length];rfl
     rw [hr,List.append_nil] at hC
     rw [← hC]
     exact fD0
theorem Bk (w : Wld) (l : List (El .order)) (hw : OkW w) (hl : l.length ≤ 2000000000000) (hO : ∀ o ∈ l,OkO o) : Api Tryz.prog 45 [az w,.vec .order l] (.tup [az (ci w l).1,.vec .reply (ci w l).2.1,i64 (ci w l).2.2]):=by
 have hrt:=fd w hw
 have hcp:=fp w hw
 have hso:=pe l hl hO
 cases hR : aO w with
 | false =>
  have hf : ci w l = (w,[],113):=by unfold ci;rw [if_pos (.inr hR)]
  rw [hf]
  rw [hR] at hrt
  dsimp only
  refine aF Tryz.func45 71 ?_
  exact fD0
 | true =>
  rw [hR] at hrt
  by_cases h1 : 1099511627776 ≤ w.tick
  ·have hf : ci w l = (w,[],113):=by unfold ci;rw [if_pos (.inl h1)]
   rw [hf]
   dsimp only
   refine aF Tryz.func45 71 ?_
   exact fD0
  ·by_cases h2 : 200 < l.length
   ·have hf : ci w l = (w,[],3):=by unfold ci;rw [if_neg (by rw [hR];simp;omega),if_pos h2]
    rw [hf]
    dsimp only
    refine aF Tryz.func45 71 ?_
    exact fD0
   ·have hRW:=aK.1 hR
    have hf:=qk hRW (by omega) (l:=l) (by omega)
    have hsz:=hRW.size
    rw [hf]
    dsimp only
    have hSl:=lC l
    have hSO : ∀ o ∈ b7 l,OkO o:=fun o ho=>hO o (lB ho)
    have htk:=s_ (l:=b7 l) hRW
    generalize b7 l = T at *
    refine aF Tryz.func45 71 ?_
    conv=>whnf
    repeat' (first|exact trivial|((first|(refine ⟨fun hb=>?_,fun hb=>?_⟩<;>(try simp only [nrm] at hb)<;>try exact kZ hb)|refine kV ?_)<;>(conv=>whnf))|refine kY ?_ ?_)
    refine ap.loopS ah (σ:=Nat × Wld × List nX) [4,7,8,9,10] (fun (k,_,R)=>[.ptr 8 0,.ptr 14 0,.own .reply 150105 0 R.length none,.vec .order T,i64 k]) (fun (_,v,R)=>[(8,.box eX),(14,.box (bA v)),(150105,.row .reply R)])
     (fun (k,v,R)=>k ≤ T.length ∧ R.length = k ∧ RW v ∧ v.tick = w.tick ∧ (bw v (T.drop k)).1 = (bw w T).1 ∧ R ++ (bw v (T.drop k)).2 = (bw w T).2) (fun (k,_,_)=>T.length - k) (0,w,[]) ⟨by omega,rfl,hRW,rfl,rfl,rfl⟩ ?_ ?_
    ·exact fD0
    ·rintro ⟨k,v,R⟩ ⟨hk,hRl,hv,hvt,hr1,hr2⟩
     try dsimp only at hk hRl hv hvt hr1 hr2
     by_cases hlt : k < T.length
     ·obtain ⟨o1,o2,o3⟩:=hSO _ (ao (t:=.order) hlt)
      rw [aY (t:=.order) hlt] at hr1 hr2
      simp only [bw] at hr1 hr2
      have hap:=ew v (elt .order T k).player (elt .order T k).cmd (bZ hv) o1 ⟨o2,o3⟩
      have hn:=nM hv (elt .order T k)
      have ht2:=um hv (elt .order T k).player (elt .order T k).cmd
      have hst : fP v (elt .order T k) = aG v (elt .order T k).player (elt .order T k).cmd:=rfl
      rw [hst] at hr1 hr2 hn
      generalize aG v (elt .order T k).player (elt .order T k).cmd = A at *
      obtain ⟨A1,A2⟩:=A
      dsimp only at *
      conv=>whnf
      repeat' (first|exact trivial|((first|(refine ⟨fun hb=>?_,fun hb=>?_⟩<;>(try simp only [nrm] at hb)<;>try exact kZ hb)|refine kV ?_)<;>(conv=>whnf))|refine kY ?_ ?_)
      refine .to (k + 1,A1,R ++ [⟨(elt .order T k).player,(elt .order T k).seq,A2⟩]) ⟨hlt,by simp;omega,hn,ht2.trans hvt,hr1,by rw [List.append_assoc];exact hr2⟩ (by first|omega|(dsimp only;omega)) ?_
      exact fD0
     ·obtain rfl : k = T.length:=by omega
      rw [List.drop_length] at hr1 hr2
      simp only [bw,List.append_nil] at hr1 hr2
      rw [← hr1,← hr2]
      conv=>whnf
      repeat' (first|exact trivial|((first|(refine ⟨fun hb=>?_,fun hb=>?_⟩<;>(try simp only [nrm] at hb)<;>try exact kZ hb)|refine kV ?_)<;>(conv=>whnf))|refine kY ?_ ?_)
      all_goals first|rfl|exact List.take_length|(rw [List.drop_zero];exact List.take_length)|(rw [hvt];done)|(rw [hvt];rfl)|(refine congrArg (Value.int .i64) ?_;omega)|(simp;done)|trace_state
end Go.Proofs.YtkojlembanldcaaGreat
