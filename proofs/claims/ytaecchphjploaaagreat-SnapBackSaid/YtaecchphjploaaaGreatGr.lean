/- chunk.Read and snap's reader, with new cells. -/
import Derived.Test.YtaecchphjploaaaGreatGn
import Derived.Test.YtaecchphjploaaaGreatGc
import Derived.Test.YtaecchphjploaaaGreatGp
set_option linter.unusedSimpArgs false
set_option linter.unusedVariables false
set_option maxRecDepth 100000
set_option maxHeartbeats 16000000
namespace Go.Proofs.YtaecchphjploaaaGreat
open Go Go.RowKit Eng
abbrev chunkSV (c : Chunk) : AV:=.agg [i64 c.x,i64 c.y,.fec false .u8 c.cells,.vec .heap c.heaps,.vec .box c.boxes]
theorem creadF_api (b : List (El .u8)) (h8 : okU8 b) (hl : b.length ≤ 1000000000000) : Api Tryz.prog 154 [.vec .u8 b] (.tup [chunkSV (readC b).1,i64 (readC b).2]):=by
 have hx:=cnum0_ev b 1000 h8 hl (by omega)
 have hy:=cnum_ev b (readK b).x.2 1000 h8 hl (numI_pos h8 (Nat.zero_le _)) (by omega)
 have hyp : (readK b).y.2.pos ≤ b.length:=numI_pos h8 (numI_pos h8 (Nat.zero_le _))
 have hok:=okC_K h8
 have hrt:=cright_api (chunkK b) hok
 unfold readC
 change Ev1 _ _ _ _ (i64 (readK b).x.1) [(0,.box (rdC b (readK b).x.2))] at hx
 change Ev1 _ _ _ _ (i64 (readK b).y.1) [(0,.box (rdC b (readK b).y.2))] at hy
 have e1 : (readK b).n = numI b 1000 ⟨(readK b).y.2.pos + 64,false⟩:=rfl
 have hn0 : 0 ≤ (readK b).n.1 ∧ (readK b).n.1 ≤ (1000 : Nat):=numI_le
 have e2 : (readK b).hs = manyR (heapR b) (readK b).n.1.toNat (readK b).n.2:=rfl
 have e3 : (readK b).bx = boxesR b ((b.drop (readK b).y.2.pos).take 64) 0 (readK b).hs.2:=rfl
 unfold chunkK at hok hrt ⊢
 generalize (readK b).y = Y at *
 obtain ⟨y,yp,yb⟩:=Y
 generalize (readK b).x = X at *
 obtain ⟨x,xp,xb⟩:=X
 dsimp only at *
 change Ev1 _ _ _ _ _ [(0,.box [.vec .u8 b,i64 xp,bol xb])] at hx
 change Ev1 _ _ _ [(0,.box [.vec .u8 b,i64 xp,bol xb])] _ [(0,.box [.vec .u8 b,i64 yp,bol yb])] at hy
 cases yb with
 | true =>
   rw [if_pos (.inl rfl)]
   clear hok hrt e1 e2 e3 hn0
   refine Api.of_fin cfg_ok Tryz.func154 rfl (nt:=146) rfl rfl ?_
   conv=>whnf
   repeat' (first|exact trivial|((first|refine kL ?_|(refine ⟨fun hb=>?_,fun hb=>?_⟩<;>(try simp only [nrm] at hb)<;>(try (first|(exfalso;omega)|contradiction|exact kB hb)))|refine kE hx [(0,30)] rfl ?_ (hrd:=⟨rfl,trivial⟩)|refine kF hx [(0,30)] rfl ?_ (hrd:=⟨rfl,trivial⟩)|refine kE hy [(0,30)] rfl ?_ (hrd:=⟨rfl,trivial⟩)|refine kF hy [(0,30)] rfl ?_ (hrd:=⟨rfl,trivial⟩)|refine kW cfg_ok ?_|refine kC ?_|refine bdA ?_|refine bd2 ?_|refine bdR ?_|refine bdL ?_)<;>(conv=>whnf))|(refine And.intro ?_ ?_;rotate_left;(conv=>whnf);rotate_right))
 | false =>
 by_cases c1 : b.length - yp < 64
 · rw [if_pos (.inr c1)]
   clear hok hrt e1 e2 e3 hn0
   refine Api.of_fin cfg_ok Tryz.func154 rfl (nt:=146) rfl rfl ?_
   conv=>whnf
   repeat' (first|exact trivial|((first|refine kL ?_|(refine ⟨fun hb=>?_,fun hb=>?_⟩<;>(try simp only [nrm] at hb)<;>(try (first|(exfalso;omega)|contradiction|exact kB hb)))|refine kE hx [(0,30)] rfl ?_ (hrd:=⟨rfl,trivial⟩)|refine kF hx [(0,30)] rfl ?_ (hrd:=⟨rfl,trivial⟩)|refine kE hy [(0,30)] rfl ?_ (hrd:=⟨rfl,trivial⟩)|refine kF hy [(0,30)] rfl ?_ (hrd:=⟨rfl,trivial⟩)|refine kW cfg_ok ?_|refine kC ?_|refine bdA ?_|refine bd2 ?_|refine bdR ?_|refine bdL ?_)<;>(conv=>whnf))|(refine And.intro ?_ ?_;rotate_left;(conv=>whnf);rotate_right))
 · rw [if_neg (by rintro (h|h);exact Bool.noConfusion h;exact c1 h)]
   have hyp2 : yp + 64 ≤ b.length:=by omega
   clear c1
   have hn:=cnum_ev b ⟨yp + 64,false⟩ 1000 h8 hl hyp2 (by omega)
   have hnp : (readK b).n.2.pos ≤ b.length:=by rw [e1];exact numI_pos h8 hyp2
   rw [← e1] at hn
   change Ev1 _ _ _ [(0,.box [.vec .u8 b,i64 (yp + 64 : Nat),bol false])] _ _ at hn
   have eD : (b.drop (yp : Int).toNat).take ((yp : Int) + 64 - yp).toNat = (b.drop yp).take 64:=by
     rw [Int.toNat_natCast,show ((yp : Int) + 64 - yp).toNat = 64 by omega]
   have hDl : ((b.drop yp).take 64).length = 64:=by rw [List.length_take,List.length_drop];omega
   generalize hD : (b.drop yp).take 64 = D at *
   clear e1
   generalize (readK b).n = N at *
   obtain ⟨n,np,nb⟩:=N
   dsimp only at *
   generalize (readK b).hs = HS at *
   generalize (readK b).bx = BX at *
   obtain ⟨xs,xq,xd⟩:=BX
   dsimp only at *
   refine Api.of_fin cfg_ok Tryz.func154 rfl (nt:=146) rfl rfl ?_
   conv=>whnf
   repeat' (first|exact trivial|((first|refine kL ?_|(refine ⟨fun hb=>?_,fun hb=>?_⟩<;>(try simp only [nrm] at hb)<;>(try (first|(exfalso;omega)|contradiction|exact kB hb)))|refine kE hx [(0,30)] rfl ?_ (hrd:=⟨rfl,trivial⟩)|refine kF hx [(0,30)] rfl ?_ (hrd:=⟨rfl,trivial⟩)|refine kE hy [(0,30)] rfl ?_ (hrd:=⟨rfl,trivial⟩)|refine kF hy [(0,30)] rfl ?_ (hrd:=⟨rfl,trivial⟩)|(rw [eD])|refine kW cfg_ok ?_|refine kC ?_|refine bdA ?_|refine bd2 ?_|refine bdR ?_|refine bdL ?_)<;>(conv=>whnf))|(refine And.intro ?_ ?_;rotate_left;(conv=>whnf);rotate_right))
   clear hx hy
   refine Runs.loopS cfg_ok (σ:=Nat) [0,2,4,5,47,48,49] (fun k=>[.vec .u8 b,.ptr 4 0,.ptr 30 0,.ptr 10 0,.vec .u8 D,i64 64,i64 k]) (fun k=>[(4,.box (chunkC emptyK)),(30,.box [.vec .u8 b,i64 yp,bol false]),(10,.box [i64 x,i64 y,.own .u8 115 0 k none,.lit (.slice none 0 0),.lit (.slice none 0 0)]),(115,.row .u8 (D.take k))]) (fun k=>k ≤ 64) (fun k=>64 - k) 0 (by omega) ?_ ?_
   · conv=>whnf
     repeat' (first|exact trivial|((first|refine kL ?_|(refine ⟨fun hb=>?_,fun hb=>?_⟩<;>(try simp only [nrm] at hb)<;>(try (first|(exfalso;omega)|contradiction|exact kB hb)))|refine kW cfg_ok ?_|refine kC ?_|refine bdA ?_|refine bd2 ?_|refine bdR ?_|refine bdL ?_)<;>(conv=>whnf))|(refine And.intro ?_ ?_;rotate_left;(conv=>whnf);rotate_right))
     all_goals rfl
   · intro k hk
     by_cases hlt : k < 64
     · conv=>whnf
       repeat' (first|exact trivial|((first|refine kL ?_|(refine ⟨fun hb=>?_,fun hb=>?_⟩<;>(try simp only [nrm] at hb)<;>(try (first|(exfalso;omega)|contradiction|exact kB hb)))|refine kW cfg_ok ?_|refine kC ?_|refine bdA ?_|refine bd2 ?_|refine bdR ?_|refine bdL ?_)<;>(conv=>whnf))|(refine And.intro ?_ ?_;rotate_left;(conv=>whnf);rotate_right))
       refine .to (k + 1) hlt (by omega) ?_
       conv=>whnf
       repeat' (first|exact trivial|((first|refine kL ?_|(refine ⟨fun hb=>?_,fun hb=>?_⟩<;>(try simp only [nrm] at hb)<;>(try (first|(exfalso;omega)|contradiction|exact kB hb)))|refine kW cfg_ok ?_|refine kC ?_|refine bdA ?_|refine bd2 ?_|refine bdR ?_|refine bdL ?_)<;>(conv=>whnf))|(refine And.intro ?_ ?_;rotate_left;(conv=>whnf);rotate_right))
       exact row_next (t:=.u8) (by omega) rfl
     · obtain rfl : k = 64:=by omega
       rw [List.take_of_length_le (by omega)]
       conv=>whnf
       repeat' (first|exact trivial|((first|refine kL ?_|(refine ⟨fun hb=>?_,fun hb=>?_⟩<;>(try simp only [nrm] at hb)<;>(try (first|(exfalso;omega)|contradiction|exact kB hb)))|refine kE hn [(0,30)] rfl ?_ (hrd:=⟨rfl,trivial⟩)|refine kF hn [(0,30)] rfl ?_ (hrd:=⟨rfl,trivial⟩)|refine kW cfg_ok ?_|refine kC ?_|refine bdA ?_|refine bd2 ?_|refine bdR ?_|refine bdL ?_)<;>(conv=>whnf))|(refine And.intro ?_ ?_;rotate_left;(conv=>whnf);rotate_right))
       clear hn eD hD
       refine Runs.loopS cfg_ok (σ:=List (El .heap) × Nat × Nat × Bool) [0,2,4,5,8] (fun (l,r,p,bd)=>[.vec .u8 b,.ptr 4 0,.ptr 30 0,.ptr 10 0,i64 r]) (fun (l,r,p,bd)=>[(4,.box (chunkC emptyK)),(30,.box [.vec .u8 b,i64 p,bol bd]),(10,.box [i64 x,i64 y,.fec false .u8 D,.own .heap 350001 0 l.length none,.lit (.slice none 0 0)]),(350001,.row .heap l)])
         (fun (l,r,p,bd)=>p ≤ b.length ∧ l.length + r ≤ 1000 ∧ l ++ (manyR (heapR b) r ⟨p,bd⟩).1 = HS.1 ∧ (manyR (heapR b) r ⟨p,bd⟩).2 = HS.2) (fun (l,r,p,bd)=>r) ([],n.toNat,np,nb) ⟨hnp,by show 0 + n.toNat ≤ 1000;omega,by rw [e2];rfl,by rw [e2]⟩ ?_ ?_
       · conv=>whnf
         repeat' (first|exact trivial|((first|refine kL ?_|(refine ⟨fun hb=>?_,fun hb=>?_⟩<;>(try simp only [nrm] at hb)<;>(try (first|(exfalso;omega)|contradiction|exact kB hb)))|refine kW cfg_ok ?_|refine kC ?_|refine bdA ?_|refine bd2 ?_|refine bdR ?_|refine bdL ?_)<;>(conv=>whnf))|(refine And.intro ?_ ?_;rotate_left;(conv=>whnf);rotate_right))
         all_goals first|exact List.take_of_length_le (by rw [List.drop_zero];omega)|trace_state
       · rintro ⟨l,r,p,bd⟩ ⟨i1,i2,i3,i4⟩
         try dsimp only at i1 i2 i3 i4
         by_cases hlive : 0 < r ∧ bd = false
         · obtain ⟨hr0,rfl⟩:=hlive
           obtain ⟨r,rfl⟩ : ∃ r' : Nat,r = r' + 1:=⟨r - 1,by omega⟩
           rw [many_next rfl] at i3 i4
           have g1:=cnum_ev b ⟨p,false⟩ 1000 h8 hl i1 (by omega)
           have g2:=cslot_ev b (numI b 1000 ⟨p,false⟩).2 h8 hl (numI_pos h8 i1)
           have g3 : (heapR b ⟨p,false⟩).2.pos ≤ b.length:=heapR_pos h8 i1
           have g4 : heapR b ⟨p,false⟩ = (⟨(numI b 1000 ⟨p,false⟩).1,(slotR b (numI b 1000 ⟨p,false⟩).2).1⟩,(slotR b (numI b 1000 ⟨p,false⟩).2).2):=rfl
           rw [g4] at i3 i4 g3
           clear g4
           generalize numI b 1000 ⟨p,false⟩ = C at *
           generalize slotR b C.2 = S at *
           obtain ⟨c,cp,cb⟩:=C
           obtain ⟨⟨si,sn⟩,sp,sb⟩:=S
           try dsimp only at *
           change Ev1 _ _ _ [(0,.box [.vec .u8 b,i64 p,bol false])] _ [(0,.box [.vec .u8 b,i64 cp,bol cb])] at g1
           change Ev1 _ _ _ [(0,.box [.vec .u8 b,i64 cp,bol cb])] _ [(0,.box [.vec .u8 b,i64 sp,bol sb])] at g2
           conv=>whnf
           repeat' (first|exact trivial|((first|refine kL ?_|(refine ⟨fun hb=>?_,fun hb=>?_⟩<;>(try simp only [nrm] at hb)<;>(try (first|(exfalso;omega)|contradiction|exact kB hb)))|refine kE g1 [(0,30)] rfl ?_ (hrd:=⟨rfl,trivial⟩)|refine kF g1 [(0,30)] rfl ?_ (hrd:=⟨rfl,trivial⟩)|refine kE g2 [(0,30)] rfl ?_ (hrd:=⟨rfl,trivial⟩)|refine kF g2 [(0,30)] rfl ?_ (hrd:=⟨rfl,trivial⟩)|refine kW cfg_ok ?_|refine kC ?_|refine bdA ?_|refine bd2 ?_|refine bdR ?_|refine bdL ?_)<;>(conv=>whnf))|(refine And.intro ?_ ?_;rotate_left;(conv=>whnf);rotate_right))
           refine .to (l ++ [⟨c,⟨si,sn⟩⟩],r,sp,sb) ⟨g3,by show (l ++ [_]).length + r ≤ 1000;rw [List.length_append,List.length_singleton];omega,by rw [List.append_assoc];exact i3,i4⟩ (by first|omega|(dsimp only;omega)) ?_
           conv=>whnf
           repeat' (first|exact trivial|((first|refine kL ?_|(refine ⟨fun hb=>?_,fun hb=>?_⟩<;>(try simp only [nrm] at hb)<;>(try (first|(exfalso;omega)|contradiction|exact kB hb)))|refine kW cfg_ok ?_|refine kC ?_|refine bdA ?_|refine bd2 ?_|refine bdR ?_|refine bdL ?_)<;>(conv=>whnf))|(refine And.intro ?_ ?_;rotate_left;(conv=>whnf);rotate_right))
           · show Value.int _ (((r + 1 : Nat) : Int) - 1) = Value.int _ (r : Int)
             exact congrArg (Value.int _) (by omega)
           · exact row_grow (t:=.heap)
         · have hdead : l = HS.1 ∧ (⟨p,bd⟩ : Rd) = HS.2:=by
             cases bd with
             | true=>rw [many_stays _ _ rfl] at i3 i4;exact ⟨by rw [← i3];simp,i4⟩
             | false =>
               have : r = 0:=by by_cases h : 0 < r;exact absurd ⟨h,rfl⟩ hlive;omega
               subst this
               exact ⟨by rw [← i3];simp [manyR],i4⟩
           clear i3 i4
           obtain ⟨rfl,i4⟩:=hdead
           rw [← i4] at e3
           conv=>whnf
           repeat' (first|exact trivial|((first|refine kL ?_|(refine ⟨fun hb=>?_,fun hb=>?_⟩<;>(try simp only [nrm] at hb)<;>(try (first|(exfalso;omega)|contradiction|exact kB hb)))|refine kW cfg_ok ?_|refine kC ?_|refine bdA ?_|refine bd2 ?_|refine bdR ?_|refine bdL ?_)<;>(conv=>whnf))|(refine And.intro ?_ ?_;rotate_left;(conv=>whnf);rotate_right))
           all_goals (try (exact absurd ⟨by omega,by simpa using hb⟩ hlive))
           all_goals
             clear hn0 hnp
             refine Runs.loopS cfg_ok (σ:=List (El .box) × Nat × Nat × Bool) [0,2,4,5,92,93,94] (fun (q,k,p,bd)=>[.vec .u8 b,.ptr 4 0,.ptr 30 0,.ptr 10 0,.fec false .u8 D,i64 64,i64 k]) (fun (q,k,p,bd)=>[(4,.box (chunkC emptyK)),(30,.box [.vec .u8 b,i64 p,bol bd]),(10,.box [i64 x,i64 y,.fec false .u8 D,.vec .heap HS.1,.own .box 249 0 q.length none]),(249,.row .box q)])
               (fun (q,k,p,bd)=>k ≤ 64 ∧ p ≤ b.length ∧ q.length ≤ k ∧ q ++ (boxesR b (D.drop k) k ⟨p,bd⟩).1 = xs ∧ (boxesR b (D.drop k) k ⟨p,bd⟩).2 = ⟨xq,xd⟩) (fun (q,k,p,bd)=>64 - k) ([],0,p,bd) ⟨by omega,i1,by simp,(congrArg Prod.fst e3).symm,(congrArg Prod.snd e3).symm⟩ ?_ ?_
             · conv=>whnf
               repeat' (first|exact trivial|((first|refine kL ?_|(refine ⟨fun hb=>?_,fun hb=>?_⟩<;>(try simp only [nrm] at hb)<;>(try (first|(exfalso;omega)|contradiction|exact kB hb)))|refine kW cfg_ok ?_|refine kC ?_|refine bdA ?_|refine bd2 ?_|refine bdR ?_|refine bdL ?_)<;>(conv=>whnf))|(refine And.intro ?_ ?_;rotate_left;(conv=>whnf);rotate_right))
               all_goals first|exact List.take_length|exact row_grow (t:=.slot)|exact row_grow (t:=.heap)|exact congrArg (Value.int _) (by simp)|(rw [show List.take l.length (List.drop 0 l) = l from List.take_length];exact row_grow (t:=.box))|exact List.take_of_length_le (by rw [List.drop_zero];omega)
             · clear i1 i2 i4 e2 e3
               rintro ⟨q,k,p,bd⟩ ⟨j1,j2,j3,j4,j5⟩
               try dsimp only at j1 j2 j3 j4 j5
               by_cases hlk : k < 64
               · have hdr : D.drop k = elt .u8 D k :: D.drop (k + 1):=drop_elt (t:=.u8) (by omega)
                 rw [hdr] at j4 j5
                 unfold boxesR at j4 j5
                 obtain ⟨E,hE⟩ : ∃ E : Int,elt .u8 D (k : Int).toNat = E:=⟨_,rfl⟩
                 have hE2 : elt .u8 D k = E:=hE
                 rw [hE2] at j4 j5
                 by_cases h9 : E = 9 ∧ bd = false
                 · rw [if_pos h9] at j4 j5
                   obtain ⟨h9,rfl⟩:=h9
                   have hal : ∀ x : List (El .slot) × Rd,x = allR (slotR b) 6 ⟨p,false⟩ → q ++ ((⟨k,x.1⟩ : Box) :: (boxesR b (D.drop (k + 1)) (k + 1) x.2).1) = xs ∧ (boxesR b (D.drop (k + 1)) (k + 1) x.2).2 = ⟨xq,xd⟩:=fun x hx=>by rw [hx];exact ⟨j4,j5⟩
                   clear j4 j5
                   conv=>whnf
                   repeat' (first|exact trivial|((first|refine kL ?_|(refine ⟨fun hb=>?_,fun hb=>?_⟩<;>(try simp only [nrm] at hb)<;>(try (first|(exfalso;omega)|contradiction|exact kB hb)))|(rw [hE])|refine kW cfg_ok ?_|refine kC ?_|refine bdA ?_|refine bd2 ?_|refine bdR ?_|refine bdL ?_)<;>(conv=>whnf))|(refine And.intro ?_ ?_;rotate_left;(conv=>whnf);rotate_right))
                   refine Runs.loopS cfg_ok (σ:=List (El .slot) × Nat × Bool) [0,2,4,5,12,92,93,94,110] (fun (l,t,u)=>[.vec .u8 b,.ptr 4 0,.ptr 30 0,.ptr 10 0,.ptr 24 0,.fec false .u8 D,i64 64,i64 k,i64 l.length]) (fun (l,t,u)=>[(4,.box (chunkC emptyK)),(30,.box [.vec .u8 b,i64 t,bol u]),(10,.box [i64 x,i64 y,.fec false .u8 D,.vec .heap HS.1,.own .box 249 0 q.length none]),(249,.row .box q),(24,.box [i64 k,.own .slot 350005 0 l.length none]),(350005,.row .slot l)])
                     (fun (l,t,u)=>l.length ≤ 6 ∧ t ≤ b.length ∧ (l ++ (allR (slotR b) (6 - l.length) ⟨t,u⟩).1,(allR (slotR b) (6 - l.length) ⟨t,u⟩).2) = allR (slotR b) 6 ⟨p,false⟩) (fun (l,t,u)=>6 - l.length) ([],p,false) ⟨by simp,j2,rfl⟩ ?_ ?_
                   · conv=>whnf
                     repeat' (first|exact trivial|((first|refine kL ?_|(refine ⟨fun hb=>?_,fun hb=>?_⟩<;>(try simp only [nrm] at hb)<;>(try (first|(exfalso;omega)|contradiction|exact kB hb)))|refine kW cfg_ok ?_|refine kC ?_|refine bdA ?_|refine bd2 ?_|refine bdR ?_|refine bdL ?_)<;>(conv=>whnf))|(refine And.intro ?_ ?_;rotate_left;(conv=>whnf);rotate_right))
                     all_goals first|exact List.take_length|exact row_grow (t:=.slot)|exact row_grow (t:=.heap)|exact congrArg (Value.int _) (by simp)|(rw [show List.take l.length (List.drop 0 l) = l from List.take_length];exact row_grow (t:=.box))|exact List.take_of_length_le (by rw [List.drop_zero];omega)
                   · rintro ⟨l,t,u⟩ ⟨m1,m2,m3⟩
                     try dsimp only at m1 m2 m3
                     by_cases hl6 : l.length < 6
                     · have g1:=cslot_ev b ⟨t,u⟩ h8 hl m2
                       have g3 : (slotR b ⟨t,u⟩).2.pos ≤ b.length:=slotR_pos h8 m2
                       have g4 : allR (slotR b) (6 - l.length) ⟨t,u⟩ = ((slotR b ⟨t,u⟩).1 :: (allR (slotR b) (6 - (l.length + 1)) (slotR b ⟨t,u⟩).2).1,(allR (slotR b) (6 - (l.length + 1)) (slotR b ⟨t,u⟩).2).2):=by
                         rw [show 6 - l.length = (6 - (l.length + 1)) + 1 by omega];rfl
                       rw [g4] at m3
                       clear g4
                       generalize slotR b ⟨t,u⟩ = S at *
                       obtain ⟨⟨si,sn⟩,sp,sb⟩:=S
                       try dsimp only at *
                       change Ev1 _ _ _ [(0,.box [.vec .u8 b,i64 t,bol u])] _ [(0,.box [.vec .u8 b,i64 sp,bol sb])] at g1
                       conv=>whnf
                       repeat' (first|exact trivial|((first|refine kL ?_|(refine ⟨fun hb=>?_,fun hb=>?_⟩<;>(try simp only [nrm] at hb)<;>(try (first|(exfalso;omega)|contradiction|exact kB hb)))|refine kE g1 [(0,30)] rfl ?_ (hrd:=⟨rfl,trivial⟩)|refine kF g1 [(0,30)] rfl ?_ (hrd:=⟨rfl,trivial⟩)|refine kW cfg_ok ?_|refine kC ?_|refine bdA ?_|refine bd2 ?_|refine bdR ?_|refine bdL ?_)<;>(conv=>whnf))|(refine And.intro ?_ ?_;rotate_left;(conv=>whnf);rotate_right))
                       refine .to (l ++ [⟨si,sn⟩],sp,sb) ⟨by rw [List.length_append,List.length_singleton];omega,g3,by rw [List.append_assoc,List.length_append,List.length_singleton];exact m3⟩ (by first|(rw [List.length_append,List.length_singleton];omega)|(dsimp only;rw [List.length_append,List.length_singleton];omega)) ?_
                       conv=>whnf
                       repeat' (first|exact trivial|((first|refine kL ?_|(refine ⟨fun hb=>?_,fun hb=>?_⟩<;>(try simp only [nrm] at hb)<;>(try (first|(exfalso;omega)|contradiction|exact kB hb)))|refine kW cfg_ok ?_|refine kC ?_|refine bdA ?_|refine bd2 ?_|refine bdR ?_|refine bdL ?_)<;>(conv=>whnf))|(refine And.intro ?_ ?_;rotate_left;(conv=>whnf);rotate_right))
                       all_goals first|exact List.take_length|exact row_grow (t:=.slot)|exact row_grow (t:=.heap)|exact congrArg (Value.int _) (by simp)|(rw [show List.take l.length (List.drop 0 l) = l from List.take_length];exact row_grow (t:=.box))|exact List.take_of_length_le (by rw [List.drop_zero];omega)
                     · have hl6 : l.length = 6:=by omega
                       rw [hl6] at m3
                       obtain ⟨n4,n5⟩:=hal (l,⟨t,u⟩) (by rw [← m3];simp [allR])
                       clear m3 hal
                       conv=>whnf
                       repeat' (first|exact trivial|((first|refine kL ?_|(refine ⟨fun hb=>?_,fun hb=>?_⟩<;>(try simp only [nrm] at hb)<;>(try (first|(exfalso;omega)|contradiction|exact kB hb)))|refine kW cfg_ok ?_|refine kC ?_|refine bdA ?_|refine bd2 ?_|refine bdR ?_|refine bdL ?_)<;>(conv=>whnf))|(refine And.intro ?_ ?_;rotate_left;(conv=>whnf);rotate_right))
                       refine .to (q ++ [⟨k,l⟩],k + 1,t,u) ⟨hlk,m2,by rw [List.length_append,List.length_singleton];omega,by rw [List.append_assoc];exact n4,n5⟩ (by first|omega|(dsimp only;omega)) ?_
                       conv=>whnf
                       repeat' (first|exact trivial|((first|refine kL ?_|(refine ⟨fun hb=>?_,fun hb=>?_⟩<;>(try simp only [nrm] at hb)<;>(try (first|(exfalso;omega)|contradiction|exact kB hb)))|refine kW cfg_ok ?_|refine kC ?_|refine bdA ?_|refine bd2 ?_|refine bdR ?_|refine bdL ?_)<;>(conv=>whnf))|(refine And.intro ?_ ?_;rotate_left;(conv=>whnf);rotate_right))
                       all_goals first|exact List.take_length|exact row_grow (t:=.slot)|exact row_grow (t:=.heap)|exact congrArg (Value.int _) (by simp)|(rw [show List.take l.length (List.drop 0 l) = l from List.take_length];exact row_grow (t:=.box))|exact List.take_of_length_le (by rw [List.drop_zero];omega)
                 · rw [if_neg h9] at j4 j5
                   conv=>whnf
                   repeat' (first|exact trivial|((first|refine kL ?_|(refine ⟨fun hb=>?_,fun hb=>?_⟩<;>(try simp only [nrm] at hb)<;>(try (first|(exfalso;omega)|contradiction|exact kB hb)))|(rw [hE])|refine kW cfg_ok ?_|refine kC ?_|refine bdA ?_|refine bd2 ?_|refine bdR ?_|refine bdL ?_)<;>(conv=>whnf))|(refine And.intro ?_ ?_;rotate_left;(conv=>whnf);rotate_right))
                   all_goals (try (exact absurd ⟨‹E = 9›,by simpa using hb⟩ h9))
                   all_goals
                     refine .to (q,k + 1,p,bd) ⟨hlk,j2,by omega,j4,j5⟩ (by first|omega|(dsimp only;omega)) ?_
                     conv=>whnf
                     repeat' (first|exact trivial|((first|refine kL ?_|(refine ⟨fun hb=>?_,fun hb=>?_⟩<;>(try simp only [nrm] at hb)<;>(try (first|(exfalso;omega)|contradiction|exact kB hb)))|refine kW cfg_ok ?_|refine kC ?_|refine bdA ?_|refine bd2 ?_|refine bdR ?_|refine bdL ?_)<;>(conv=>whnf))|(refine And.intro ?_ ?_;rotate_left;(conv=>whnf);rotate_right))
                   all_goals first|exact List.take_length|exact row_grow (t:=.slot)|exact row_grow (t:=.heap)|exact congrArg (Value.int _) (by simp)|(rw [show List.take l.length (List.drop 0 l) = l from List.take_length];exact row_grow (t:=.box))|exact List.take_of_length_le (by rw [List.drop_zero];omega)
               · obtain rfl : k = 64:=by omega
                 rw [List.drop_of_length_le (by omega)] at j4 j5
                 unfold boxesR at j4 j5
                 obtain ⟨rfl,rfl⟩:=Rd.mk.inj j5
                 rw [show q ++ ([] : List Box) = q from List.append_nil q] at j4
                 clear j5
                 subst j4
                 generalize rightB ⟨x,y,D,HS.1,q⟩ = R at *
                 by_cases hfin : bd = true ∨ ¬ p = b.length ∨ R = false
                 · rw [if_pos hfin]
                   rcases hfin with rfl|hfin|rfl
                   all_goals
                     conv=>whnf
                     repeat' (first|exact trivial|((first|refine kL ?_|(refine ⟨fun hb=>?_,fun hb=>?_⟩<;>(try simp only [nrm] at hb)<;>(try (first|(exfalso;omega)|contradiction|exact kB hb)))|(refine kN hrt ?_ rfl)|refine kW cfg_ok ?_|refine kC ?_|refine bdA ?_|refine bd2 ?_|refine bdR ?_|refine bdL ?_)<;>(conv=>whnf))|(refine And.intro ?_ ?_;rotate_left;(conv=>whnf);rotate_right))
                     all_goals first|rfl|(rw [List.drop_zero,List.take_length];done)|(rw [List.drop_zero,List.take_length];rfl)|trace_state
                 · rw [if_neg hfin]
                   rw [not_or,not_or] at hfin
                   obtain ⟨f1,f2,f3⟩:=hfin
                   have f1 : bd = false:=by simpa using f1
                   have f3 : R = true:=by simpa using f3
                   have f2 : (p : Int) = b.length:=by omega
                   subst f1 f3
                   conv=>whnf
                   repeat' (first|exact trivial|((first|refine kL ?_|(refine ⟨fun hb=>?_,fun hb=>?_⟩<;>(try simp only [nrm] at hb)<;>(try (first|(exfalso;omega)|contradiction|exact kB hb)))|(refine kN hrt ?_ rfl)|refine kW cfg_ok ?_|refine kC ?_|refine bdA ?_|refine bd2 ?_|refine bdR ?_|refine bdL ?_)<;>(conv=>whnf))|(refine And.intro ?_ ?_;rotate_left;(conv=>whnf);rotate_right))
                   all_goals first|exact List.take_length|(rw [List.drop_zero,List.take_length];done)|(rw [List.drop_zero,List.take_length];rfl)|trace_state
open Go Go.RowKit Eng
theorem rblobF_ev (b : List (El .u8)) (x y : Int) (s : Rd) (h8 : okU8 b) (hl : b.length ≤ 1000000000000) (hp : s.pos ≤ b.length) : Ev1 Tryz.prog 162 [.ptr 0 0,i64 x,i64 y] [(0,.box (rdC b s))] (chunkSV (blobS b x y s).1) [(0,.box (rdC b (blobS b x y s).2))]:=by
 cases hs : s.bad with
 | true =>
   have e : blobS b x y s = (emptyK,s):=if_pos hs
   rw [e]
   clear e
   obtain ⟨p,bd⟩:=s
   replace hs : bd = true:=hs
   subst hs
   refine Ev1.of_fin cfg_ok Tryz.func162 rfl (nt:=63) rfl rfl rfl ?_
   conv=>whnf
   repeat' (first|exact trivial|((first|refine kL ?_|(refine ⟨fun hb=>?_,fun hb=>?_⟩<;>(try simp only [nrm] at hb)<;>(try (first|(exfalso;omega)|contradiction|exact kB hb)))|refine kW cfg_ok ?_|refine kC ?_|refine bdA ?_|refine bd2 ?_|refine bdR ?_|refine bdL ?_)<;>(conv=>whnf))|(refine And.intro ?_ ?_;rotate_left;(conv=>whnf);rotate_right))
 | false =>
   rw [blobS_eq hs h8 hp]
   have hg:=getB_api b s.pos 5000 h8 hl hp (by omega)
   obtain ⟨o1,o2,o3,_⟩:=gbN_ok h8 (most:=5000) hp
   obtain ⟨p,bd⟩:=s
   replace hs : bd = false:=hs
   subst hs
   dsimp only at *
   generalize gbN b p 5000 = G at *
   obtain ⟨B,f,e⟩:=G
   dsimp only at *
   have hc:=creadF_api B o1 (by omega)
   generalize readC B = R at *
   obtain ⟨c,ce⟩:=R
   dsimp only at *
   by_cases hf : e = 0 ∧ ce = 0 ∧ c.x = x ∧ c.y = y
   · rw [if_pos hf]
     obtain ⟨rfl,rfl,rfl,rfl⟩:=hf
     refine Ev1.of_fin cfg_ok Tryz.func162 rfl (nt:=63) rfl rfl rfl ?_
     ((repeat (first|(with_reducible refine evCut fun N hN hE hT=>?_)|(with_reducible refine evBlk fun N hN hE hT=>?_)));(try with_reducible refine evCnd fun X Y hX hY=>?_);(conv=>whnf))
     repeat' (first|exact trivial|((first|((first|refine hT _ _ ?_|refine hE _ _ _ ?_|refine hN _ _ ?_);clear hN hE hT)|((first|refine hX ?_|refine hY ?_);clear hX hY)|refine kL ?_|(refine ⟨fun hb=>?_,fun hb=>?_⟩<;>(try simp only [nrm] at hb)<;>(try (first|(exfalso;omega)|contradiction|exact kB hb)))|refine kA hg ?_|refine kD hg ?_|refine kA hc ?_|refine kD hc ?_|refine kW cfg_ok ?_|refine kC ?_|refine bdA ?_|refine bd2 ?_|refine bdR ?_|refine bdL ?_)<;>((repeat (first|(with_reducible refine evCut fun N hN hE hT=>?_)|(with_reducible refine evBlk fun N hN hE hT=>?_)));(try with_reducible refine evCnd fun X Y hX hY=>?_);(conv=>whnf)))|(refine And.intro ?_ ?_;rotate_left;(conv=>whnf);rotate_right))
     all_goals first|exact congrArg Value.bool (by simp)|exact congrArg Value.bool (by simp [hb])
   · rw [if_neg hf]
     refine Ev1.of_fin cfg_ok Tryz.func162 rfl (nt:=63) rfl rfl rfl ?_
     ((repeat (first|(with_reducible refine evCut fun N hN hE hT=>?_)|(with_reducible refine evBlk fun N hN hE hT=>?_)));(try with_reducible refine evCnd fun X Y hX hY=>?_);(conv=>whnf))
     repeat' (first|exact trivial|((first|((first|refine hT _ _ ?_|refine hE _ _ _ ?_|refine hN _ _ ?_);clear hN hE hT)|((first|refine hX ?_|refine hY ?_);clear hX hY)|refine kL ?_|(refine ⟨fun hb=>?_,fun hb=>?_⟩<;>(try simp only [nrm] at hb)<;>(try (first|(exfalso;omega)|contradiction|exact kB hb)))|refine kA hg ?_|refine kD hg ?_|refine kA hc ?_|refine kD hc ?_|refine kW cfg_ok ?_|refine kC ?_|refine bdA ?_|refine bd2 ?_|refine bdR ?_|refine bdL ?_)<;>((repeat (first|(with_reducible refine evCut fun N hN hE hT=>?_)|(with_reducible refine evBlk fun N hN hE hT=>?_)));(try with_reducible refine evCnd fun X Y hX hY=>?_);(conv=>whnf)))|(refine And.intro ?_ ?_;rotate_left;(conv=>whnf);rotate_right))
     all_goals first|exact congrArg Value.bool (by simpa using hb)|exact absurd ⟨‹e = 0›,‹ce = 0›,‹c.x = x›,hb⟩ hf
theorem rchunkF_ev (b : List (El .u8)) (v : Viw) (s : Rd) (hv : OkV v) (hB : baseB v = true) (h8 : okU8 b) (hl : b.length ≤ 1000000000000) (hp : s.pos ≤ b.length) : Ev1 Tryz.prog 102 [.ptr 0 0,viewV v] [(0,.box (rdC b s))] (chunkSV (chunkRS b v s).1) [(0,.box (rdC b (chunkRS b v s).2))]:=by
 have g1:=snum_ev b s B40 h8 hl hp (by decide)
 have e1 : (numI b B40 s).2.pos ≤ b.length:=numI_pos h8 hp
 have g2:=snum_ev b (numI b B40 s).2 B40 h8 hl e1 (by decide)
 have e2 : (numI b B40 (numI b B40 s).2).2.pos ≤ b.length:=numI_pos h8 e1
 have g3:=snum_ev b (numI b B40 (numI b B40 s).2).2 2 h8 hl e2 (by decide)
 have e3 : (numI b 2 (numI b B40 (numI b B40 s).2).2).2.pos ≤ b.length:=numI_pos h8 e2
 have hfd:=vfind_api v (numI b B40 s).1 (numI b B40 (numI b B40 s).2).1 (by have:=hv.nc;omega)
 have hfo:=findV_ok hB (x:=(numI b B40 s).1) (y:=(numI b B40 (numI b B40 s).2).1)
 have e : chunkRS b v s = restR b (findV v (numI b B40 s).1 (numI b B40 (numI b B40 s).2).1) (numI b B40 s).1 (numI b B40 (numI b B40 s).2).1 (numI b 2 (numI b B40 (numI b B40 s).2).2).1 (numI b 2 (numI b B40 (numI b B40 s).2).2).2:=rfl
 rw [e]
 clear e
 generalize numI b B40 s = X at *
 obtain ⟨x,xp,xb⟩:=X
 dsimp only at *
 generalize numI b B40 ⟨xp,xb⟩ = Y at *
 obtain ⟨y,yp,yb⟩:=Y
 dsimp only at *
 generalize numI b 2 ⟨yp,yb⟩ = M at *
 obtain ⟨fm,mp,mb⟩:=M
 dsimp only at *
 generalize findV v x y = W at *
 obtain ⟨was,there⟩:=W
 obtain ⟨sp,sb⟩:=s
 dsimp only at *
 change Ev1 _ _ _ [(0,.box [.vec .u8 b,i64 sp,bol sb])] _ [(0,.box [.vec .u8 b,i64 xp,bol xb])] at g1
 change Ev1 _ _ _ [(0,.box [.vec .u8 b,i64 xp,bol xb])] _ [(0,.box [.vec .u8 b,i64 yp,bol yb])] at g2
 change Ev1 _ _ _ [(0,.box [.vec .u8 b,i64 yp,bol yb])] _ [(0,.box [.vec .u8 b,i64 mp,bol mb])] at g3
 change Ev1 _ _ _ [(0,.box [.vec .u8 b,i64 sp,bol sb])] _ _
 unfold restR
 by_cases c2 : fm = 2
 · rw [if_pos c2]
   subst c2
   have gb:=rblobF_ev b x y ⟨mp,mb⟩ h8 hl e3
   generalize blobS b x y ⟨mp,mb⟩ = R at *
   obtain ⟨k,rp,rb⟩:=R
   change Ev1 _ _ _ [(0,.box [.vec .u8 b,i64 mp,bol mb])] _ _ at gb
   dsimp only at *
   refine Ev1.of_fin cfg_ok Tryz.func102 rfl (nt:=67) rfl rfl rfl ?_
   ((repeat (first|(with_reducible refine evCut fun N hN hE hT=>?_)|(with_reducible refine evBlk fun N hN hE hT=>?_)));(try with_reducible refine evCnd fun X Y hX hY=>?_);(conv=>whnf))
   repeat' (first|exact trivial|((first|((first|refine hT _ _ ?_|refine hE _ _ _ ?_|refine hN _ _ ?_);clear hN hE hT)|((first|refine hX ?_|refine hY ?_);clear hX hY)|refine kL ?_|(refine ⟨fun hb=>?_,fun hb=>?_⟩<;>(try simp only [nrm] at hb)<;>(try (first|(exfalso;omega)|contradiction|exact kB hb)))|refine kE g1 [(0,0)] rfl ?_ (hrd:=⟨rfl,trivial⟩)|refine kF g1 [(0,0)] rfl ?_ (hrd:=⟨rfl,trivial⟩)|refine kE g2 [(0,0)] rfl ?_ (hrd:=⟨rfl,trivial⟩)|refine kF g2 [(0,0)] rfl ?_ (hrd:=⟨rfl,trivial⟩)|refine kE g3 [(0,0)] rfl ?_ (hrd:=⟨rfl,trivial⟩)|refine kF g3 [(0,0)] rfl ?_ (hrd:=⟨rfl,trivial⟩)|refine kE gb [(0,0)] rfl ?_ (hrd:=⟨rfl,trivial⟩)|refine kF gb [(0,0)] rfl ?_ (hrd:=⟨rfl,trivial⟩)|refine kA hfd ?_|refine kD hfd ?_|refine kW cfg_ok ?_|refine kC ?_|refine bdA ?_|refine bd2 ?_|refine bdR ?_|refine bdL ?_)<;>((repeat (first|(with_reducible refine evCut fun N hN hE hT=>?_)|(with_reducible refine evBlk fun N hN hE hT=>?_)));(try with_reducible refine evCnd fun X Y hX hY=>?_);(conv=>whnf)))|(refine And.intro ?_ ?_;rotate_left;(conv=>whnf);rotate_right))
   all_goals trace_state
 · rw [if_neg c2]
   cases there with
   | false =>
     rw [if_pos rfl]
     refine Ev1.of_fin cfg_ok Tryz.func102 rfl (nt:=67) rfl rfl rfl ?_
     ((repeat (first|(with_reducible refine evCut fun N hN hE hT=>?_)|(with_reducible refine evBlk fun N hN hE hT=>?_)));(try with_reducible refine evCnd fun X Y hX hY=>?_);(conv=>whnf))
     repeat' (first|exact trivial|((first|((first|refine hT _ _ ?_|refine hE _ _ _ ?_|refine hN _ _ ?_);clear hN hE hT)|((first|refine hX ?_|refine hY ?_);clear hX hY)|refine kL ?_|(refine ⟨fun hb=>?_,fun hb=>?_⟩<;>(try simp only [nrm] at hb)<;>(try (first|(exfalso;omega)|contradiction|exact kB hb)))|refine kE g1 [(0,0)] rfl ?_ (hrd:=⟨rfl,trivial⟩)|refine kF g1 [(0,0)] rfl ?_ (hrd:=⟨rfl,trivial⟩)|refine kE g2 [(0,0)] rfl ?_ (hrd:=⟨rfl,trivial⟩)|refine kF g2 [(0,0)] rfl ?_ (hrd:=⟨rfl,trivial⟩)|refine kE g3 [(0,0)] rfl ?_ (hrd:=⟨rfl,trivial⟩)|refine kF g3 [(0,0)] rfl ?_ (hrd:=⟨rfl,trivial⟩)|refine kA hfd ?_|refine kD hfd ?_|refine kW cfg_ok ?_|refine kC ?_|refine bdA ?_|refine bd2 ?_|refine bdR ?_|refine bdL ?_)<;>((repeat (first|(with_reducible refine evCut fun N hN hE hT=>?_)|(with_reducible refine evBlk fun N hN hE hT=>?_)));(try with_reducible refine evCnd fun X Y hX hY=>?_);(conv=>whnf)))|(refine And.intro ?_ ?_;rotate_left;(conv=>whnf);rotate_right))
     all_goals trace_state
   | true =>
     rw [if_neg (show ¬ true = false by simp)]
     have hwr:=hfo.1 rfl
     have hwl : was.cells.length = 64:=by have:=right_len hwr;omega
     have hwf:=fitC_right hwr
     have go:=sown_ev was hwf
     change Ev1 _ _ _ _ (.agg [i64 was.x,i64 was.y,.own .u8 390001 0 was.cells.length none,.own .heap 390003 0 was.heaps.length none,.own .box 390005 0 was.boxes.length none]) _ at go
     rw [hwl] at go
     dsimp only
     by_cases c1 : fm = 1
     · rw [if_pos c1]
       subst c1
       have g4:=snum_ev b ⟨mp,mb⟩ 16 h8 hl e3 (by decide)
       have e4 : (numI b 16 ⟨mp,mb⟩).2.pos ≤ b.length:=numI_pos h8 e3
       have e5:=numI_le (b:=b) (most:=16) (s:=⟨mp,mb⟩)
       change Ev1 _ _ _ [(0,.box [.vec .u8 b,i64 mp,bol mb])] _ _ at g4
       generalize numI b 16 ⟨mp,mb⟩ = C at *
       obtain ⟨n,np,nb⟩:=C
       dsimp only at *
       generalize hR : cellsR b n.toNat was.cells ⟨np,nb⟩ = R at *
       obtain ⟨rl,rp,rb⟩:=R
       dsimp only
       refine Ev1.of_fin cfg_ok Tryz.func102 rfl (nt:=67) rfl rfl rfl ?_
       ((repeat (first|(with_reducible refine evCut fun N hN hE hT=>?_)|(with_reducible refine evBlk fun N hN hE hT=>?_)));(try with_reducible refine evCnd fun X Y hX hY=>?_);(conv=>whnf))
       repeat' (first|exact trivial|((first|((first|refine hT _ _ ?_|refine hE _ _ _ ?_|refine hN _ _ ?_);clear hN hE hT)|((first|refine hX ?_|refine hY ?_);clear hX hY)|refine kL ?_|(refine ⟨fun hb=>?_,fun hb=>?_⟩<;>(try simp only [nrm] at hb)<;>(try (first|(exfalso;omega)|contradiction|exact kB hb)))|refine kE g1 [(0,0)] rfl ?_ (hrd:=⟨rfl,trivial⟩)|refine kF g1 [(0,0)] rfl ?_ (hrd:=⟨rfl,trivial⟩)|refine kE g2 [(0,0)] rfl ?_ (hrd:=⟨rfl,trivial⟩)|refine kF g2 [(0,0)] rfl ?_ (hrd:=⟨rfl,trivial⟩)|refine kE g3 [(0,0)] rfl ?_ (hrd:=⟨rfl,trivial⟩)|refine kF g3 [(0,0)] rfl ?_ (hrd:=⟨rfl,trivial⟩)|refine kE go [(390001,350001),(390003,350003),(390005,350005)] rfl ?_|refine kF go [(390001,350001),(390003,350003),(390005,350005)] rfl ?_|refine kE g4 [(0,0)] rfl ?_ (hrd:=⟨rfl,trivial⟩)|refine kF g4 [(0,0)] rfl ?_ (hrd:=⟨rfl,trivial⟩)|refine kA hfd ?_|refine kD hfd ?_|refine kW cfg_ok ?_|refine kC ?_|refine bdA ?_|refine bd2 ?_|refine bdR ?_|refine bdL ?_)<;>((repeat (first|(with_reducible refine evCut fun N hN hE hT=>?_)|(with_reducible refine evBlk fun N hN hE hT=>?_)));(try with_reducible refine evCnd fun X Y hX hY=>?_);(conv=>whnf)))|(refine And.intro ?_ ?_;rotate_left;(conv=>whnf);rotate_right))
       clear g1 g2 g3 g4 go hfd hfo
       refine Runs.loopS cfg_ok (σ:=List (El .u8) × Nat × Nat × Bool) [0,4,10,11] (fun (l,r,t,u)=>[.ptr 0 0,.ptr 200008 0,.ptr 200020 0,i64 r]) (fun (l,r,t,u)=>[(0,.box [.vec .u8 b,i64 t,bol u]),(200008,.box (chunkC emptyK)),(200020,.box [i64 was.x,i64 was.y,.own .u8 350001 0 64 none,.vec .heap was.heaps,.vec .box was.boxes]),(350001,.row .u8 l)])
         (fun (l,r,t,u)=>(l.length = 64 ∧ r ≤ 16) ∧ t ≤ b.length ∧ cellsR b r l ⟨t,u⟩ = (rl,⟨rp,rb⟩)) (fun (l,r,t,u)=>r) (was.cells,n.toNat,np,nb) ⟨⟨hwl,by show n.toNat ≤ 16;omega⟩,e4,hR⟩ ?_ ?_
       · conv=>whnf
         repeat' (first|exact trivial|((first|((first|refine hT _ _ ?_|refine hE _ _ _ ?_|refine hN _ _ ?_);clear hN hE hT)|((first|refine hX ?_|refine hY ?_);clear hX hY)|refine kL ?_|(refine ⟨fun hb=>?_,fun hb=>?_⟩<;>(try simp only [nrm] at hb)<;>(try (first|(exfalso;omega)|contradiction|exact kB hb)))|refine kW cfg_ok ?_|refine kC ?_|refine bdA ?_|refine bd2 ?_|refine bdR ?_|refine bdL ?_)<;>((repeat (first|(with_reducible refine evCut fun N hN hE hT=>?_)|(with_reducible refine evBlk fun N hN hE hT=>?_)));(try with_reducible refine evCnd fun X Y hX hY=>?_);(conv=>whnf)))|(refine And.intro ?_ ?_;rotate_left;(conv=>whnf);rotate_right))
         all_goals first|rfl|exact List.take_length|exact congrArg (Value.int _) (by omega)|exact List.take_of_length_le (by omega)|trace_state
       · rintro ⟨l,r,t,u⟩ ⟨⟨m1,m0⟩,m2,m3⟩
         try dsimp only at m0 m1 m2 m3
         by_cases hlive : 0 < r ∧ u = false
         · obtain ⟨hr0,rfl⟩:=hlive
           obtain ⟨r,rfl⟩ : ∃ r' : Nat,r = r' + 1:=⟨r - 1,by omega⟩
           rw [cells_next rfl] at m3
           have q1:=snum_ev b ⟨t,false⟩ 63 h8 hl m2 (by decide)
           have q2 : (numI b 63 ⟨t,false⟩).2.pos ≤ b.length:=numI_pos h8 m2
           have q3:=snum_ev b (numI b 63 ⟨t,false⟩).2 255 h8 hl q2 (by decide)
           have q4 : (numI b 255 (numI b 63 ⟨t,false⟩).2).2.pos ≤ b.length:=numI_pos h8 q2
           obtain ⟨q5,q6⟩:=numI_le (b:=b) (most:=63) (s:=⟨t,false⟩)
           obtain ⟨q7,q8⟩:=numI_le (b:=b) (most:=255) (s:=(numI b 63 ⟨t,false⟩).2)
           generalize numI b 63 ⟨t,false⟩ = I at *
           obtain ⟨i,ip,ib⟩:=I
           dsimp only at *
           generalize numI b 255 ⟨ip,ib⟩ = V at *
           obtain ⟨z,zp,zb⟩:=V
           dsimp only at *
           change Ev1 _ _ _ [(0,.box [.vec .u8 b,i64 t,bol false])] _ [(0,.box [.vec .u8 b,i64 ip,bol ib])] at q1
           change Ev1 _ _ _ [(0,.box [.vec .u8 b,i64 ip,bol ib])] _ [(0,.box [.vec .u8 b,i64 zp,bol zb])] at q3
           conv=>whnf
           repeat' (first|exact trivial|((first|((first|refine hT _ _ ?_|refine hE _ _ _ ?_|refine hN _ _ ?_);clear hN hE hT)|((first|refine hX ?_|refine hY ?_);clear hX hY)|refine kL ?_|(refine ⟨fun hb=>?_,fun hb=>?_⟩<;>(try simp only [nrm] at hb)<;>(try (first|(exfalso;omega)|contradiction|exact kB hb)))|refine kE q1 [(0,0)] rfl ?_ (hrd:=⟨rfl,trivial⟩)|refine kF q1 [(0,0)] rfl ?_ (hrd:=⟨rfl,trivial⟩)|refine kE q3 [(0,0)] rfl ?_ (hrd:=⟨rfl,trivial⟩)|refine kF q3 [(0,0)] rfl ?_ (hrd:=⟨rfl,trivial⟩)|refine kW cfg_ok ?_|refine kC ?_|refine bdA ?_|refine bd2 ?_|refine bdR ?_|refine bdL ?_)<;>((repeat (first|(with_reducible refine evCut fun N hN hE hT=>?_)|(with_reducible refine evBlk fun N hN hE hT=>?_)));(try with_reducible refine evCnd fun X Y hX hY=>?_);(conv=>whnf)))|(refine And.intro ?_ ?_;rotate_left;(conv=>whnf);rotate_right))
           refine .to (l.set i.toNat z,r,zp,zb) ⟨⟨by rw [List.length_set];exact m1,by show r ≤ 16;omega⟩,q4,m3⟩ (by first|omega|(dsimp only;omega)) ?_
           conv=>whnf
           repeat' (first|exact trivial|((first|((first|refine hT _ _ ?_|refine hE _ _ _ ?_|refine hN _ _ ?_);clear hN hE hT)|((first|refine hX ?_|refine hY ?_);clear hX hY)|refine kL ?_|(refine ⟨fun hb=>?_,fun hb=>?_⟩<;>(try simp only [nrm] at hb)<;>(try (first|(exfalso;omega)|contradiction|exact kB hb)))|refine kW cfg_ok ?_|refine kC ?_|refine bdA ?_|refine bd2 ?_|refine bdR ?_|refine bdL ?_)<;>((repeat (first|(with_reducible refine evCut fun N hN hE hT=>?_)|(with_reducible refine evBlk fun N hN hE hT=>?_)));(try with_reducible refine evCnd fun X Y hX hY=>?_);(conv=>whnf)))|(refine And.intro ?_ ?_;rotate_left;(conv=>whnf);rotate_right))
           · show Value.int _ (((r + 1 : Nat) : Int) - 1) = Value.int _ (r : Int)
             exact congrArg (Value.int _) (by omega)
           · exact List.take_of_length_le (by rw [List.length_set];omega)
         · have hdead : l = rl ∧ (⟨t,u⟩ : Rd) = ⟨rp,rb⟩:=by
             rw [cells_dead hlive] at m3
             exact ⟨congrArg Prod.fst m3,congrArg Prod.snd m3⟩
           obtain ⟨d1,h2⟩:=hdead
           obtain ⟨d2,d3⟩:=Rd.mk.inj h2
           clear h2 m3 hR
           conv=>whnf
           repeat' (first|exact trivial|((first|((first|refine hT _ _ ?_|refine hE _ _ _ ?_|refine hN _ _ ?_);clear hN hE hT)|((first|refine hX ?_|refine hY ?_);clear hX hY)|refine kL ?_|(refine ⟨fun hb=>?_,fun hb=>?_⟩<;>(try simp only [nrm] at hb)<;>(try (first|(exfalso;omega)|contradiction|exact kB hb)))|refine kW cfg_ok ?_|refine kC ?_|refine bdA ?_|refine bd2 ?_|refine bdR ?_|refine bdL ?_)<;>((repeat (first|(with_reducible refine evCut fun N hN hE hT=>?_)|(with_reducible refine evBlk fun N hN hE hT=>?_)));(try with_reducible refine evCnd fun X Y hX hY=>?_);(conv=>whnf)))|(refine And.intro ?_ ?_;rotate_left;(conv=>whnf);rotate_right))
           all_goals (try (exact absurd ⟨by omega,by simpa using hb⟩ hlive))
           all_goals first|rfl|exact congrArg Value.bool d3|(rw [← d1];exact List.take_of_length_le (by rw [List.drop_zero];omega))|(show Value.int _ (t : Int) = Value.int _ (rp : Int);rw [d2])|exact List.take_of_length_le (by rw [List.drop_zero];omega)|trace_state
     · rw [if_neg c1]
       refine Ev1.of_fin cfg_ok Tryz.func102 rfl (nt:=67) rfl rfl rfl ?_
       ((repeat (first|(with_reducible refine evCut fun N hN hE hT=>?_)|(with_reducible refine evBlk fun N hN hE hT=>?_)));(try with_reducible refine evCnd fun X Y hX hY=>?_);(conv=>whnf))
       repeat' (first|exact trivial|((first|((first|refine hT _ _ ?_|refine hE _ _ _ ?_|refine hN _ _ ?_);clear hN hE hT)|((first|refine hX ?_|refine hY ?_);clear hX hY)|refine kL ?_|(refine ⟨fun hb=>?_,fun hb=>?_⟩<;>(try simp only [nrm] at hb)<;>(try (first|(exfalso;omega)|contradiction|exact kB hb)))|refine kE g1 [(0,0)] rfl ?_ (hrd:=⟨rfl,trivial⟩)|refine kF g1 [(0,0)] rfl ?_ (hrd:=⟨rfl,trivial⟩)|refine kE g2 [(0,0)] rfl ?_ (hrd:=⟨rfl,trivial⟩)|refine kF g2 [(0,0)] rfl ?_ (hrd:=⟨rfl,trivial⟩)|refine kE g3 [(0,0)] rfl ?_ (hrd:=⟨rfl,trivial⟩)|refine kF g3 [(0,0)] rfl ?_ (hrd:=⟨rfl,trivial⟩)|refine kE go [(390001,350001),(390003,350003),(390005,350005)] rfl ?_|refine kF go [(390001,350001),(390003,350003),(390005,350005)] rfl ?_|refine kA hfd ?_|refine kD hfd ?_|refine kW cfg_ok ?_|refine kC ?_|refine bdA ?_|refine bd2 ?_|refine bdR ?_|refine bdL ?_)<;>((repeat (first|(with_reducible refine evCut fun N hN hE hT=>?_)|(with_reducible refine evBlk fun N hN hE hT=>?_)));(try with_reducible refine evCnd fun X Y hX hY=>?_);(conv=>whnf)))|(refine And.intro ?_ ?_;rotate_left;(conv=>whnf);rotate_right))
       all_goals first|rfl|exact List.take_length|exact List.take_of_length_le (by rw [List.drop_zero];omega)
end Go.Proofs.YtaecchphjploaaaGreat
