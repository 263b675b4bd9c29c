/- homesteadref11.Read. -/
import Derived.Test.YtaecchphjploaaaGreatGy
set_option linter.unusedSimpArgs false
set_option linter.unusedVariables false
set_option maxRecDepth 100000
set_option maxHeartbeats 16000000
namespace Go.Proofs.YtaecchphjploaaaGreat
open Go Go.RowKit Eng
theorem DY {b : List Int} {s : Rd} {x1 x2 x3 : Int × Rd} (h1 : ac b 1000 s = x1) (h2 : ac b 1000 x1.2 = x2) (h3 : ac b 1000 x2.2 = x3) : jN b s = (⟨x1.1,⟨x2.1 % 256,x3.1⟩⟩,if 255 < x2.1 then ⟨x3.2.pos,true⟩ else x3.2):=by
 subst h1 h2 h3;rfl
theorem DZ {b : List Int} {s : Rd} {x1 x2 : Int × Rd} (h1 : ac b 1000 s = x1) (h2 : ac b 1000 x1.2 = x2) : ct b s = (⟨x1.1 % 256,x2.1⟩,if 255 < x1.1 then ⟨x2.2.pos,true⟩ else x2.2):=by
 subst h1 h2;rfl
theorem rH {α : Type} {f : Rd → α × Rd} {n : Nat} {s : Rd} (h : ¬ (0 < n ∧ s.bad = false)) : ao f n s = ([],s):=by
 cases n with
 | zero=>rfl
 | succ n =>
   have hu : s.bad = true:=by
     cases hb : s.bad with
     | true=>rfl
     | false=>exact absurd ⟨Nat.succ_pos n,hb⟩ h
   exact if_pos hu
theorem xr (b : List (El .u8)) (h8 : au b) (hl : b.length ≤ 1000000000000) (R : Chunk × Int) (hR : bh b = R) : Api Tryz.prog 91 [.vec .u8 b] (.tup [bz R.1,i64 R.2]):=by
 have hw:=Fp h8
 rw [hR] at hw
 clear hR
 obtain ⟨w1,w2,w3,w4,w5⟩:=hw
 have z1 : (0 : Int) = atI ⟨0,false⟩:=rfl
 have hx:=dI b 0 ⟨0,false⟩ z1 h8 hl (Nat.zero_le _)
 have hxp : (aP b).x.2.pos ≤ b.length:=av h8 (Nat.zero_le _)
 have hy:=dI b _ (aP b).x.2 rfl h8 hl hxp
 have hyp : (aP b).y.2.pos ≤ b.length:=av h8 hxp
 change Api _ _ _ (.tup [i64 (aP b).x.1,i64 (atI (aP b).x.2)]) at hx
 change Api _ _ _ (.tup [i64 (aP b).y.1,i64 (atI (aP b).y.2)]) at hy
 have hyw:=qo (aP b).y.2
 have hbt:=ny (fc b) (Gp h8)
 have hc8 : ar (fc b) = true → au (aK (fc b)):=fun h=>oC h
 have e1 : (aP b).n = ac b 1000 ⟨(aP b).y.2.pos + 64,false⟩:=rfl
 have hn0 : 0 ≤ (aP b).n.1 ∧ (aP b).n.1 ≤ (1000 : Nat):=bt
 have e2 : (aP b).hs = ao (jN b) (aP b).n.1.toNat (aP b).n.2:=rfl
 have e3 : (aP b).bx = cE b ((b.drop (aP b).y.2.pos).take 64) 0 (aP b).hs.2:=rfl
 unfold fc at hbt w4 w5 hc8
 generalize (aP b).y = Y at *
 obtain ⟨y,Ys⟩:=Y
 generalize (aP b).x = X at *
 obtain ⟨x,Xs⟩:=X
 generalize atI Xs = XA at *
 dsimp only at *
 generalize hYA : atI Ys = YA at *
 by_cases c1 : Ys.bad = true ∨ b.length - Ys.pos < 64
 · rw [w1 c1]
   clear hbt e1 e2 e3 hn0 w1 w2 w3 w4 w5 hc8
   have c2 : YA < 0 ∨ (b.length : Int) - YA < 64:=by
     rcases hyw with ⟨h1,h2⟩|⟨h1,h2⟩
     · left;omega
     · rcases c1 with c1|c1
       · rw [h1] at c1;cases c1
       · right;omega
   refine Api.of_fin aa Tryz.func91 rfl (nt:=179) rfl rfl ?_
   ((repeat (first|(with_reducible refine af fun N hN hE hT=>?_)|(with_reducible refine ah fun N hN hE hT=>?_)));(try with_reducible refine ai fun X Y hX hY=>?_);(conv=>whnf))
   repeat' (first|exact trivial|((first|((first|refine hT _ _ ?_|refine hE _ _ _ ?_|refine hN _ _ ?_);clear hN hE hT)|((first|refine hX ?_|refine hY ?_);clear hX hY)|refine kL ?_|(refine ⟨fun hb=>?_,fun hb=>?_⟩<;>(try simp only [nrm] at hb)<;>(try (first|(exfalso;omega)|contradiction|exact kB hb)))|refine kA hx ?_|refine kD hx ?_|refine kA hy ?_|refine kD hy ?_|refine kW aa ?_|refine kC ?_|refine bdA ?_|refine bd2 ?_|refine bdR ?_|refine bdL ?_)<;>((repeat (first|(with_reducible refine af fun N hN hE hT=>?_)|(with_reducible refine ah fun N hN hE hT=>?_)));(try with_reducible refine ai fun X Y hX hY=>?_);(conv=>whnf)))|(refine And.intro ?_ ?_;rotate_left;(conv=>whnf);rotate_right))
   all_goals first|rfl|omega|trace_state
 · have hyf : Ys.bad = false:=by cases h : Ys.bad with|false=>rfl|true=>exact absurd (.inl h) c1
   obtain rfl : YA = (Ys.pos : Int):=by rw [← hYA];exact eT hyf
   have w6:=w5 c1
   have c3 : Ys.pos + 64 ≤ b.length:=by omega
   clear w1 w5 c1 hyw
   generalize Ys.pos = yp at *
   have hnx:=dI b ((yp : Int) + 64) ⟨yp + 64,false⟩ (by rw [eT rfl];rfl) h8 hl c3
   rw [← e1] at hnx
   have hnp : (aP b).n.2.pos ≤ b.length:=by rw [e1];exact av h8 c3
   have hDl : ((b.drop yp).take 64).length = 64:=by rw [List.length_take,List.length_drop];omega
   have hDe : ∀ k : Nat,k < 64 → elt .u8 b ((yp : Int) + k).toNat = elt .u8 ((b.drop yp).take 64) k:=fun k hk=>by
     have h1:=aL .u8 ((b.drop yp).take 64) k (by omega)
     rw [List.getElem?_take,if_pos hk,List.getElem?_drop,aL .u8 b (yp + k) (by omega)] at h1
     exact Option.some.inj h1
   have hD8 : au ((b.drop yp).take 64):=fun i hi=>h8 i (List.mem_of_mem_drop (List.mem_of_mem_take hi))
   generalize hD : (b.drop yp).take 64 = D at *
   clear e1 hD hYA hyf
   generalize (aP b).n = N at *
   obtain ⟨n,Ns⟩:=N
   generalize (aP b).hs = HS at *
   generalize (aP b).bx = BX at *
   obtain ⟨xs,Bs⟩:=BX
   dsimp only at *
   generalize hNA : atI Ns = NA at *
   generalize hEE : (if ar ⟨x,y,D,HS.1,xs⟩ = true then (0 : Int) else 101) = EE at *
   generalize hBB : (if ar ⟨x,y,D,HS.1,xs⟩ = true then aK ⟨x,y,D,HS.1,xs⟩ else []) = BB at *
   refine Api.of_fin aa Tryz.func91 rfl (nt:=179) rfl rfl ?_
   ((repeat (first|(with_reducible refine af fun N hN hE hT=>?_)|(with_reducible refine ah fun N hN hE hT=>?_)));(try with_reducible refine ai fun X Y hX hY=>?_);(conv=>whnf))
   repeat' (first|exact trivial|((first|((first|refine hT _ _ ?_|refine hE _ _ _ ?_|refine hN _ _ ?_);clear hN hE hT)|((first|refine hX ?_|refine hY ?_);clear hX hY)|refine kL ?_|(refine ⟨fun hb=>?_,fun hb=>?_⟩<;>(try simp only [nrm] at hb)<;>(try (first|(exfalso;omega)|contradiction|exact kB hb)))|refine kA hx ?_|refine kD hx ?_|refine kA hy ?_|refine kD hy ?_|refine kW aa ?_|refine kC ?_|refine bdA ?_|refine bd2 ?_|refine bdR ?_|refine bdL ?_)<;>((repeat (first|(with_reducible refine af fun N hN hE hT=>?_)|(with_reducible refine ah fun N hN hE hT=>?_)));(try with_reducible refine ai fun X Y hX hY=>?_);(conv=>whnf)))|(refine And.intro ?_ ?_;rotate_left;(conv=>whnf);rotate_right))
   clear hx hy
   refine aw.loopS aa (σ:=Nat) [0,2,4,6,7] (fun k=>[.vec .u8 b,.ptr 4 0,.ptr 8 0,i64 yp,i64 k]) (fun k=>[(4,.box (bj bf)),(8,.box [i64 x,i64 y,.own .u8 350001 0 k none,.lit (.slice none 0 0),.lit (.slice none 0 0)]),(350001,.row .u8 (D.take k))]) (fun k=>k ≤ 64) (fun k=>64 - k) 0 (by omega) ?_ ?_
   · conv=>whnf
     repeat' (first|exact trivial|((first|((first|refine hT _ _ ?_|refine hE _ _ _ ?_|refine hN _ _ ?_);clear hN hE hT)|((first|refine hX ?_|refine hY ?_);clear hX hY)|refine kL ?_|(refine ⟨fun hb=>?_,fun hb=>?_⟩<;>(try simp only [nrm] at hb)<;>(try (first|(exfalso;omega)|contradiction|exact kB hb)))|refine kW aa ?_|refine kC ?_|refine bdA ?_|refine bd2 ?_|refine bdR ?_|refine bdL ?_)<;>((repeat (first|(with_reducible refine af fun N hN hE hT=>?_)|(with_reducible refine ah fun N hN hE hT=>?_)));(try with_reducible refine ai fun X Y hX hY=>?_);(conv=>whnf)))|(refine And.intro ?_ ?_;rotate_left;(conv=>whnf);rotate_right))
     all_goals first|rfl|trace_state
   · intro k hk
     by_cases hlt : k < 64
     · have hek:=hDe k hlt
       clear hnx hbt
       conv=>whnf
       repeat' (first|exact trivial|((first|((first|refine hT _ _ ?_|refine hE _ _ _ ?_|refine hN _ _ ?_);clear hN hE hT)|((first|refine hX ?_|refine hY ?_);clear hX hY)|refine kL ?_|(refine ⟨fun hb=>?_,fun hb=>?_⟩<;>(try simp only [nrm] at hb)<;>(try (first|(exfalso;omega)|contradiction|exact kB hb)))|refine kW aa ?_|refine kC ?_|refine bdA ?_|refine bd2 ?_|refine bdR ?_|refine bdL ?_)<;>((repeat (first|(with_reducible refine af fun N hN hE hT=>?_)|(with_reducible refine ah fun N hN hE hT=>?_)));(try with_reducible refine ai fun X Y hX hY=>?_);(conv=>whnf)))|(refine And.intro ?_ ?_;rotate_left;(conv=>whnf);rotate_right))
       refine .to (k + 1) hlt (by omega) ?_
       conv=>whnf
       repeat' (first|exact trivial|((first|((first|refine hT _ _ ?_|refine hE _ _ _ ?_|refine hN _ _ ?_);clear hN hE hT)|((first|refine hX ?_|refine hY ?_);clear hX hY)|refine kL ?_|(refine ⟨fun hb=>?_,fun hb=>?_⟩<;>(try simp only [nrm] at hb)<;>(try (first|(exfalso;omega)|contradiction|exact kB hb)))|refine kW aa ?_|refine kC ?_|refine bdA ?_|refine bd2 ?_|refine bdR ?_|refine bdL ?_)<;>((repeat (first|(with_reducible refine af fun N hN hE hT=>?_)|(with_reducible refine ah fun N hN hE hT=>?_)));(try with_reducible refine ai fun X Y hX hY=>?_);(conv=>whnf)))|(refine And.intro ?_ ?_;rotate_left;(conv=>whnf);rotate_right))
       all_goals first|rfl|exact ws (t:=.u8) (by omega) (by first|exact hek|rfl|(rw [← hek];rfl))|trace_state
     · obtain rfl : k = 64:=by omega
       rw [List.take_of_length_le (by omega)]
       clear hDe
       conv=>whnf
       repeat' (first|exact trivial|((first|((first|refine hT _ _ ?_|refine hE _ _ _ ?_|refine hN _ _ ?_);clear hN hE hT)|((first|refine hX ?_|refine hY ?_);clear hX hY)|refine kL ?_|(refine ⟨fun hb=>?_,fun hb=>?_⟩<;>(try simp only [nrm] at hb)<;>(try (first|(exfalso;omega)|contradiction|exact kB hb)))|refine kA hnx ?_|refine kD hnx ?_|refine kW aa ?_|refine kC ?_|refine bdA ?_|refine bd2 ?_|refine bdR ?_|refine bdL ?_)<;>((repeat (first|(with_reducible refine af fun N hN hE hT=>?_)|(with_reducible refine ah fun N hN hE hT=>?_)));(try with_reducible refine ai fun X Y hX hY=>?_);(conv=>whnf)))|(refine And.intro ?_ ?_;rotate_left;(conv=>whnf);rotate_right))
       clear hnx
       refine aw.loopS aa (σ:=List (El .heap) × Nat × Int × Rd) [0,2,4,5,6,8] (fun (l,k,A,s)=>[.vec .u8 b,.ptr 4 0,.ptr 8 0,i64 n,i64 A,i64 k]) (fun (l,k,A,s)=>[(4,.box (bj bf)),(8,.box [i64 x,i64 y,.vec .u8 D,.own .heap 350003 0 l.length none,.lit (.slice none 0 0)]),(350003,.row .heap l)])
         (fun (l,k,A,s)=>A = atI s ∧ s.pos ≤ b.length ∧ l.length = k ∧ k ≤ n.toNat ∧ l ++ (ao (jN b) (n.toNat - k) s).1 = HS.1 ∧ (ao (jN b) (n.toNat - k) s).2 = HS.2) (fun (l,k,A,s)=>n.toNat - k) ([],0,NA,Ns) ⟨hNA.symm,hnp,rfl,Nat.zero_le _,by rw [e2];rfl,by rw [e2];rfl⟩ ?_ ?_
       · conv=>whnf
         repeat' (first|exact trivial|((first|((first|refine hT _ _ ?_|refine hE _ _ _ ?_|refine hN _ _ ?_);clear hN hE hT)|((first|refine hX ?_|refine hY ?_);clear hX hY)|refine kL ?_|(refine ⟨fun hb=>?_,fun hb=>?_⟩<;>(try simp only [nrm] at hb)<;>(try (first|(exfalso;omega)|contradiction|exact kB hb)))|refine kW aa ?_|refine kC ?_|refine bdA ?_|refine bd2 ?_|refine bdR ?_|refine bdL ?_)<;>((repeat (first|(with_reducible refine af fun N hN hE hT=>?_)|(with_reducible refine ah fun N hN hE hT=>?_)));(try with_reducible refine ai fun X Y hX hY=>?_);(conv=>whnf)))|(refine And.intro ?_ ?_;rotate_left;(conv=>whnf);rotate_right))
         all_goals first|rfl|exact List.take_of_length_le (by rw [List.drop_zero];omega)|trace_state
       · rintro ⟨l,k,A,s⟩ ⟨i1,i2,i3,i4,i5,i6⟩
         try dsimp only at i1 i2 i3 i4 i5 i6
         by_cases hlive : 0 < n.toNat - k ∧ s.bad = false
         · obtain ⟨hr0,hsf⟩:=hlive
           obtain ⟨r,hr⟩ : ∃ r' : Nat,n.toNat - k = r' + 1:=⟨n.toNat - k - 1,by omega⟩
           have hr2 : n.toNat - (k + 1) = r:=by omega
           rw [hr,dH hsf] at i5 i6
           obtain ⟨C1,hC1⟩ : ∃ C,ac b 1000 s = C:=⟨_,rfl⟩
           obtain ⟨C2,hC2⟩ : ∃ C,ac b 1000 C1.2 = C:=⟨_,rfl⟩
           obtain ⟨C3,hC3⟩ : ∃ C,ac b 1000 C2.2 = C:=⟨_,rfl⟩
           have g1:=dI b A s i1 h8 hl i2
           have q1 : C1.2.pos ≤ b.length:=by rw [← hC1];exact av h8 i2
           have g2:=dI b _ C1.2 rfl h8 hl q1
           have q2 : C2.2.pos ≤ b.length:=by rw [← hC2];exact av h8 q1
           have g3:=dI b _ C2.2 rfl h8 hl q2
           have q3 : C3.2.pos ≤ b.length:=by rw [← hC3];exact av h8 q2
           have q4 : 0 ≤ C2.1 ∧ C2.1 ≤ (1000 : Nat):=by rw [← hC2];exact bt
           rw [hC1] at g1
           rw [hC2] at g2
           rw [hC3] at g3
           rw [DY hC1 hC2 hC3] at i5 i6
           rw [eT hsf] at i1
           clear hC1 hC2 hC3
           obtain ⟨c1,S1⟩:=C1
           obtain ⟨c2,S2⟩:=C2
           obtain ⟨c3,S3⟩:=C3
           dsimp only at *
           generalize atI S1 = A1 at *
           generalize atI S2 = A2 at *
           generalize hA3 : atI S3 = A3 at *
           by_cases hbig : 255 < c2
           · rw [if_pos hbig] at i5 i6
             conv=>whnf
             repeat' (first|exact trivial|((first|((first|refine hT _ _ ?_|refine hE _ _ _ ?_|refine hN _ _ ?_);clear hN hE hT)|((first|refine hX ?_|refine hY ?_);clear hX hY)|refine kL ?_|(refine ⟨fun hb=>?_,fun hb=>?_⟩<;>(try simp only [nrm] at hb)<;>(try (first|(exfalso;omega)|contradiction|exact kB hb)))|(refine u8K ?_)|refine kA g1 ?_|refine kD g1 ?_|refine kA g2 ?_|refine kD g2 ?_|refine kA g3 ?_|refine kD g3 ?_|refine kW aa ?_|refine kC ?_|refine bdA ?_|refine bd2 ?_|refine bdR ?_|refine bdL ?_)<;>((repeat (first|(with_reducible refine af fun N hN hE hT=>?_)|(with_reducible refine ah fun N hN hE hT=>?_)));(try with_reducible refine ai fun X Y hX hY=>?_);(conv=>whnf)))|(refine And.intro ?_ ?_;rotate_left;(conv=>whnf);rotate_right))
             refine .to (l ++ [⟨c1,⟨c2 % 256,c3⟩⟩],k + 1,-1,⟨S3.pos,true⟩) ⟨(my rfl).symm,q3,by rw [List.length_append,List.length_singleton,i3],(by first|omega|(dsimp only;omega)),by rw [List.append_assoc,hr2];exact i5,by rw [hr2];exact i6⟩ (by first|omega|(dsimp only;omega)) ?_
             conv=>whnf
             repeat' (first|exact trivial|((first|((first|refine hT _ _ ?_|refine hE _ _ _ ?_|refine hN _ _ ?_);clear hN hE hT)|((first|refine hX ?_|refine hY ?_);clear hX hY)|refine kL ?_|(refine ⟨fun hb=>?_,fun hb=>?_⟩<;>(try simp only [nrm] at hb)<;>(try (first|(exfalso;omega)|contradiction|exact kB hb)))|refine kW aa ?_|refine kC ?_|refine bdA ?_|refine bd2 ?_|refine bdR ?_|refine bdL ?_)<;>((repeat (first|(with_reducible refine af fun N hN hE hT=>?_)|(with_reducible refine ah fun N hN hE hT=>?_)));(try with_reducible refine ai fun X Y hX hY=>?_);(conv=>whnf)))|(refine And.intro ?_ ?_;rotate_left;(conv=>whnf);rotate_right))
             all_goals first|rfl|exact aB (t:=.heap)|(rw [ww];exact aB (t:=.heap))|trace_state
           · rw [if_neg hbig] at i5 i6
             have hsm : c2 % 256 = c2:=wU8 q4.1 (by omega)
             rw [hsm] at i5
             conv=>whnf
             repeat' (first|exact trivial|((first|((first|refine hT _ _ ?_|refine hE _ _ _ ?_|refine hN _ _ ?_);clear hN hE hT)|((first|refine hX ?_|refine hY ?_);clear hX hY)|refine kL ?_|(refine ⟨fun hb=>?_,fun hb=>?_⟩<;>(try simp only [nrm] at hb)<;>(try (first|(exfalso;omega)|contradiction|exact kB hb)))|refine kA g1 ?_|refine kD g1 ?_|refine kA g2 ?_|refine kD g2 ?_|refine kA g3 ?_|refine kD g3 ?_|refine kW aa ?_|refine kC ?_|refine bdA ?_|refine bd2 ?_|refine bdR ?_|refine bdL ?_)<;>((repeat (first|(with_reducible refine af fun N hN hE hT=>?_)|(with_reducible refine ah fun N hN hE hT=>?_)));(try with_reducible refine ai fun X Y hX hY=>?_);(conv=>whnf)))|(refine And.intro ?_ ?_;rotate_left;(conv=>whnf);rotate_right))
             refine .to (l ++ [⟨c1,⟨c2,c3⟩⟩],k + 1,A3,S3) ⟨hA3.symm,q3,by rw [List.length_append,List.length_singleton,i3],(by first|omega|(dsimp only;omega)),by rw [List.append_assoc,hr2];exact i5,by rw [hr2];exact i6⟩ (by first|omega|(dsimp only;omega)) ?_
             conv=>whnf
             repeat' (first|exact trivial|((first|((first|refine hT _ _ ?_|refine hE _ _ _ ?_|refine hN _ _ ?_);clear hN hE hT)|((first|refine hX ?_|refine hY ?_);clear hX hY)|refine kL ?_|(refine ⟨fun hb=>?_,fun hb=>?_⟩<;>(try simp only [nrm] at hb)<;>(try (first|(exfalso;omega)|contradiction|exact kB hb)))|refine kW aa ?_|refine kC ?_|refine bdA ?_|refine bd2 ?_|refine bdR ?_|refine bdL ?_)<;>((repeat (first|(with_reducible refine af fun N hN hE hT=>?_)|(with_reducible refine ah fun N hN hE hT=>?_)));(try with_reducible refine ai fun X Y hX hY=>?_);(conv=>whnf)))|(refine And.intro ?_ ?_;rotate_left;(conv=>whnf);rotate_right))
             all_goals first|rfl|exact aB (t:=.heap)|trace_state
         · rw [rH hlive] at i5 i6
           have hAw:=qo s
           rw [← i1] at hAw
           have hdead : k < n.toNat → A < 0:=fun h=>by
             rcases hAw with ⟨h1,h2⟩|⟨h1,h2⟩
             · omega
             · exact absurd ⟨by omega,h1⟩ hlive
           obtain ⟨HL,HR⟩:=HS
           dsimp only at *
           obtain rfl : HL = l:=by rw [← i5];simp
           obtain rfl : HR = s:=i6.symm
           clear i5 i6 hlive hAw
           conv=>whnf
           repeat' (first|exact trivial|((first|((first|refine hT _ _ ?_|refine hE _ _ _ ?_|refine hN _ _ ?_);clear hN hE hT)|((first|refine hX ?_|refine hY ?_);clear hX hY)|refine kL ?_|(refine ⟨fun hb=>?_,fun hb=>?_⟩<;>(try simp only [nrm] at hb)<;>(try (first|(exfalso;omega)|contradiction|exact kB hb)))|refine kW aa ?_|refine kC ?_|refine bdA ?_|refine bd2 ?_|refine bdR ?_|refine bdL ?_)<;>((repeat (first|(with_reducible refine af fun N hN hE hT=>?_)|(with_reducible refine ah fun N hN hE hT=>?_)));(try with_reducible refine ai fun X Y hX hY=>?_);(conv=>whnf)))|(refine And.intro ?_ ?_;rotate_left;(conv=>whnf);rotate_right))
           all_goals first|(exfalso;omega)|skip
           all_goals
             clear hn0 hnp hdead
             refine aw.loopS aa (σ:=List (El .box) × Nat × Int × Rd × Bool) [0,2,4,6,11] (fun (q,k,A,s,fin)=>[.vec .u8 b,.ptr 4 0,.ptr 8 0,i64 A,i64 k]) (fun (q,k,A,s,fin)=>match fin with|false=>[(4,.box (bj bf)),(8,.box [i64 x,i64 y,.vec .u8 D,.vec .heap HL,.own .box 350007 0 q.length none]),(350007,.row .box q)]|true=>[(4,.box (bj bf)),(8,.box [i64 x,i64 y,.vec .u8 D,.vec .heap HL,.vec .box q])])
               (fun (q,k,A,s,fin)=>A = atI s ∧ k ≤ 64 ∧ s.pos ≤ b.length ∧ q.length ≤ k ∧ q ++ (cE b (D.drop k) k s).1 = xs ∧ (cE b (D.drop k) k s).2 = Bs ∧ (fin = true ↔ ¬ (k < 64 ∧ s.bad = false))) (fun (q,k,A,s,fin)=>64 - k) ([],0,A,HR,HR.bad) ⟨i1,by omega,i2,by simp,(congrArg Prod.fst e3).symm,(congrArg Prod.snd e3).symm,by simp⟩ ?_ ?_
             · cases hrb : HR.bad
               all_goals
                 conv=>whnf
                 repeat' (first|exact trivial|((first|((first|refine hT _ _ ?_|refine hE _ _ _ ?_|refine hN _ _ ?_);clear hN hE hT)|((first|refine hX ?_|refine hY ?_);clear hX hY)|refine kL ?_|(refine ⟨fun hb=>?_,fun hb=>?_⟩<;>(try simp only [nrm] at hb)<;>(try (first|(exfalso;omega)|contradiction|exact kB hb)))|refine kW aa ?_|refine kC ?_|refine bdA ?_|refine bd2 ?_|refine bdR ?_|refine bdL ?_)<;>((repeat (first|(with_reducible refine af fun N hN hE hT=>?_)|(with_reducible refine ah fun N hN hE hT=>?_)));(try with_reducible refine ai fun X Y hX hY=>?_);(conv=>whnf)))|(refine And.intro ?_ ?_;rotate_left;(conv=>whnf);rotate_right))
               all_goals first|rfl|exact List.take_length|exact List.take_of_length_le (by rw [List.drop_zero];omega)|trace_state
             · clear i1 i2 i3 i4 e2 e3
               rintro ⟨q,k,A,s,fin⟩ ⟨j1,j2,j3,j4,j5,j6,j7⟩
               try dsimp only at j1 j2 j3 j4 j5 j6 j7
               cases fin with
               | true =>
                 have hnl:=j7.1 rfl
                 have hAw:=qo s
                 rw [← j1] at hAw
                 have hst : cE b (D.drop k) k s = ([],s):=by
                   cases hsb : s.bad with
                   | true=>exact iF b _ k s hsb
                   | false =>
                     obtain rfl : k = 64:=by have : ¬ k < 64:=fun h=>hnl ⟨h,hsb⟩;omega
                     rw [List.drop_of_length_le (by omega)];rfl
                 rw [hst] at j5 j6
                 dsimp only at j5 j6
                 obtain rfl : xs = q:=by rw [← j5];simp
                 obtain rfl : Bs = s:=j6.symm
                 have hdead : k < 64 → A < 0:=fun h=>by
                   rcases hAw with ⟨h1,h2⟩|⟨h1,h2⟩
                   · omega
                   · exact absurd ⟨h,h1⟩ hnl
                 clear j1 j5 j6 j7 hnl hst
                 by_cases hAl : A = b.length
                 · have hbf : Bs.bad = false ∧ Bs.pos = b.length:=by
                     rcases hAw with ⟨h1,h2⟩|⟨h1,h2⟩
                     · omega
                     · exact ⟨h1,by omega⟩
                   have w7:=w6 hbf.1 hbf.2
                   cases hQ : ar ⟨x,y,D,HL,xs⟩ with
                   | true =>
                     obtain ⟨w8,w9⟩:=w7 hQ
                     rw [if_pos hQ] at hEE hBB
                     have hB2 : BB = b:=by rw [← hBB];exact w9
                     rw [hB2,← hEE] at hbt
                     clear w2 w3 w4 w6 w7 hAw
                     conv=>whnf
                     repeat' (first|exact trivial|((first|((first|refine hT _ _ ?_|refine hE _ _ _ ?_|refine hN _ _ ?_);clear hN hE hT)|((first|refine hX ?_|refine hY ?_);clear hX hY)|refine kL ?_|(refine ⟨fun hb=>?_,fun hb=>?_⟩<;>(try simp only [nrm] at hb)<;>(try (first|(exfalso;omega)|contradiction|exact kB hb)))|refine kA hbt ?_|refine kD hbt ?_|refine kW aa ?_|refine kC ?_|refine bdA ?_|refine bd2 ?_|refine bdR ?_|refine bdL ?_)<;>((repeat (first|(with_reducible refine af fun N hN hE hT=>?_)|(with_reducible refine ah fun N hN hE hT=>?_)));(try with_reducible refine ai fun X Y hX hY=>?_);(conv=>whnf)))|(refine And.intro ?_ ?_;rotate_left;(conv=>whnf);rotate_right))
                     all_goals first|(exfalso;omega)|(rw [w8];done)|(rw [w8];rfl)|(exfalso;simp at hb;done)|trace_state
                   | false =>
                     rw [if_neg (by rw [hQ];simp)] at hEE
                     have w8:=w4 hQ
                     rw [← hEE] at hbt
                     clear w2 w3 w4 w6 w7 hAw
                     conv=>whnf
                     repeat' (first|exact trivial|((first|((first|refine hT _ _ ?_|refine hE _ _ _ ?_|refine hN _ _ ?_);clear hN hE hT)|((first|refine hX ?_|refine hY ?_);clear hX hY)|refine kL ?_|(refine ⟨fun hb=>?_,fun hb=>?_⟩<;>(try simp only [nrm] at hb)<;>(try (first|(exfalso;omega)|contradiction|exact kB hb)))|refine kA hbt ?_|refine kD hbt ?_|refine kW aa ?_|refine kC ?_|refine bdA ?_|refine bd2 ?_|refine bdR ?_|refine bdL ?_)<;>((repeat (first|(with_reducible refine af fun N hN hE hT=>?_)|(with_reducible refine ah fun N hN hE hT=>?_)));(try with_reducible refine ai fun X Y hX hY=>?_);(conv=>whnf)))|(refine And.intro ?_ ?_;rotate_left;(conv=>whnf);rotate_right))
                     all_goals first|(exfalso;omega)|(rw [w8];done)|(rw [w8];rfl)|trace_state
                 · have w7 : R = (bf,101):=by
                     rcases hAw with ⟨h1,h2⟩|⟨h1,h2⟩
                     · exact w2 h1
                     · exact w3 (by omega)
                   clear w2 w3 w4 w6 hAw
                   conv=>whnf
                   repeat' (first|exact trivial|((first|((first|refine hT _ _ ?_|refine hE _ _ _ ?_|refine hN _ _ ?_);clear hN hE hT)|((first|refine hX ?_|refine hY ?_);clear hX hY)|refine kL ?_|(refine ⟨fun hb=>?_,fun hb=>?_⟩<;>(try simp only [nrm] at hb)<;>(try (first|(exfalso;omega)|contradiction|exact kB hb)))|refine kA hbt ?_|refine kD hbt ?_|refine kW aa ?_|refine kC ?_|refine bdA ?_|refine bd2 ?_|refine bdR ?_|refine bdL ?_)<;>((repeat (first|(with_reducible refine af fun N hN hE hT=>?_)|(with_reducible refine ah fun N hN hE hT=>?_)));(try with_reducible refine ai fun X Y hX hY=>?_);(conv=>whnf)))|(refine And.intro ?_ ?_;rotate_left;(conv=>whnf);rotate_right))
                   all_goals first|(exfalso;omega)|(rw [w7];done)|(rw [w7];rfl)|trace_state
               | false =>
                 have hlv : k < 64 ∧ s.bad = false:=by
                   by_cases h : k < 64 ∧ s.bad = false
                   · exact h
                   · exact absurd (j7.2 h) (by simp)
                 obtain ⟨hlk,hsf⟩:=hlv
                 rw [eT hsf] at j1
                 have hdr : D.drop k = elt .u8 D k :: D.drop (k + 1):=bJ (t:=.u8) (by omega)
                 rw [hdr] at j5 j6
                 unfold cE at j5 j6
                 obtain ⟨E,hE0⟩ : ∃ E : Int,elt .u8 D (k : Int).toNat = E:=⟨_,rfl⟩
                 have hE2 : elt .u8 D k = E:=hE0
                 have hE8 : 0 ≤ E ∧ E ≤ 255:=by rw [← hE2];exact hD8 _ (ay (t:=.u8) (by omega))
                 rw [hE2] at j5 j6
                 clear hbt w2 w3 w4 w6 hBB hEE j7 hdr
                 by_cases h9 : E = 9
                 · rw [if_pos ⟨h9,hsf⟩] at j5 j6
                   have hal : ∀ z : List (El .slot) × Rd,z = aO (ct b) 6 s → q ++ ((⟨k,z.1⟩ : Box) :: (cE b (D.drop (k + 1)) (k + 1) z.2).1) = xs ∧ (cE b (D.drop (k + 1)) (k + 1) z.2).2 = Bs:=fun z hz=>by rw [hz];exact ⟨j5,j6⟩
                   clear j5 j6
                   conv=>whnf
                   repeat' (first|exact trivial|((first|((first|refine hT _ _ ?_|refine hE _ _ _ ?_|refine hN _ _ ?_);clear hN hE hT)|((first|refine hX ?_|refine hY ?_);clear hX hY)|refine kL ?_|(refine ⟨fun hb=>?_,fun hb=>?_⟩<;>(try simp only [nrm] at hb)<;>(try (first|(exfalso;omega)|contradiction|exact kB hb)))|(rw [hE0])|refine kW aa ?_|refine kC ?_|refine bdA ?_|refine bd2 ?_|refine bdR ?_|refine bdL ?_)<;>((repeat (first|(with_reducible refine af fun N hN hE hT=>?_)|(with_reducible refine ah fun N hN hE hT=>?_)));(try with_reducible refine ai fun X Y hX hY=>?_);(conv=>whnf)))|(refine And.intro ?_ ?_;rotate_left;(conv=>whnf);rotate_right))
                   refine aw.loopS aa (σ:=List (El .slot) × Nat × Int × Rd) [0,2,4,6,11,12,13] (fun (l,j,A,t)=>[.vec .u8 b,.ptr 4 0,.ptr 8 0,i64 A,i64 k,.ptr 24 0,i64 j]) (fun (l,j,A,t)=>[(4,.box (bj bf)),(8,.box [i64 x,i64 y,.vec .u8 D,.vec .heap HL,.own .box 350007 0 q.length none]),(350007,.row .box q),(24,.box [i64 k,.own .slot 350005 0 l.length none]),(350005,.row .slot l)])
                     (fun (l,j,A,t)=>A = atI t ∧ l.length = j ∧ j ≤ 6 ∧ t.pos ≤ b.length ∧ (l ++ (aO (ct b) (6 - j) t).1,(aO (ct b) (6 - j) t).2) = aO (ct b) 6 s) (fun (l,j,A,t)=>6 - j) ([],0,A,s) ⟨by rw [eT hsf];exact j1,rfl,by omega,j3,rfl⟩ ?_ ?_
                   · conv=>whnf
                     repeat' (first|exact trivial|((first|((first|refine hT _ _ ?_|refine hE _ _ _ ?_|refine hN _ _ ?_);clear hN hE hT)|((first|refine hX ?_|refine hY ?_);clear hX hY)|refine kL ?_|(refine ⟨fun hb=>?_,fun hb=>?_⟩<;>(try simp only [nrm] at hb)<;>(try (first|(exfalso;omega)|contradiction|exact kB hb)))|refine kW aa ?_|refine kC ?_|refine bdA ?_|refine bd2 ?_|refine bdR ?_|refine bdL ?_)<;>((repeat (first|(with_reducible refine af fun N hN hE hT=>?_)|(with_reducible refine ah fun N hN hE hT=>?_)));(try with_reducible refine ai fun X Y hX hY=>?_);(conv=>whnf)))|(refine And.intro ?_ ?_;rotate_left;(conv=>whnf);rotate_right))
                     all_goals first|rfl|exact List.take_length|exact congrArg (Value.int _) (by simp)|exact List.take_of_length_le (by rw [List.drop_zero];omega)|trace_state
                   · rintro ⟨l,j,A,t⟩ ⟨m1,m2,m3,m4,m5⟩
                     try dsimp only at m1 m2 m3 m4 m5
                     by_cases hl6 : j < 6
                     · obtain ⟨C1,hC1⟩ : ∃ C,ac b 1000 t = C:=⟨_,rfl⟩
                       obtain ⟨C2,hC2⟩ : ∃ C,ac b 1000 C1.2 = C:=⟨_,rfl⟩
                       have g1:=dI b A t m1 h8 hl m4
                       have q1 : C1.2.pos ≤ b.length:=by rw [← hC1];exact av h8 m4
                       have g2:=dI b _ C1.2 rfl h8 hl q1
                       have q2 : C2.2.pos ≤ b.length:=by rw [← hC2];exact av h8 q1
                       have q4 : 0 ≤ C1.1 ∧ C1.1 ≤ (1000 : Nat):=by rw [← hC1];exact bt
                       rw [hC1] at g1
                       rw [hC2] at g2
                       have g4 : aO (ct b) (6 - j) t = ((ct b t).1 :: (aO (ct b) (6 - (j + 1)) (ct b t).2).1,(aO (ct b) (6 - (j + 1)) (ct b t).2).2):=by
                         rw [show 6 - j = (6 - (j + 1)) + 1 by omega];rfl
                       rw [g4,DZ hC1 hC2] at m5
                       clear hC1 hC2 g4
                       obtain ⟨c1,S1⟩:=C1
                       obtain ⟨c2,S2⟩:=C2
                       dsimp only at *
                       generalize atI S1 = A1 at *
                       generalize hA2 : atI S2 = A2 at *
                       by_cases hbig : 255 < c1
                       · rw [if_pos hbig] at m5
                         conv=>whnf
                         repeat' (first|exact trivial|((first|((first|refine hT _ _ ?_|refine hE _ _ _ ?_|refine hN _ _ ?_);clear hN hE hT)|((first|refine hX ?_|refine hY ?_);clear hX hY)|refine kL ?_|(refine ⟨fun hb=>?_,fun hb=>?_⟩<;>(try simp only [nrm] at hb)<;>(try (first|(exfalso;omega)|contradiction|exact kB hb)))|(refine u8K ?_)|refine kA g1 ?_|refine kD g1 ?_|refine kA g2 ?_|refine kD g2 ?_|refine kW aa ?_|refine kC ?_|refine bdA ?_|refine bd2 ?_|refine bdR ?_|refine bdL ?_)<;>((repeat (first|(with_reducible refine af fun N hN hE hT=>?_)|(with_reducible refine ah fun N hN hE hT=>?_)));(try with_reducible refine ai fun X Y hX hY=>?_);(conv=>whnf)))|(refine And.intro ?_ ?_;rotate_left;(conv=>whnf);rotate_right))
                         refine .to (l ++ [⟨c1 % 256,c2⟩],j + 1,-1,⟨S2.pos,true⟩) ⟨(my rfl).symm,by rw [List.length_append,List.length_singleton,m2],(by first|omega|(dsimp only;omega)),q2,by rw [List.append_assoc];exact m5⟩ (by first|omega|(dsimp only;omega)) ?_
                         conv=>whnf
                         repeat' (first|exact trivial|((first|((first|refine hT _ _ ?_|refine hE _ _ _ ?_|refine hN _ _ ?_);clear hN hE hT)|((first|refine hX ?_|refine hY ?_);clear hX hY)|refine kL ?_|(refine ⟨fun hb=>?_,fun hb=>?_⟩<;>(try simp only [nrm] at hb)<;>(try (first|(exfalso;omega)|contradiction|exact kB hb)))|refine kW aa ?_|refine kC ?_|refine bdA ?_|refine bd2 ?_|refine bdR ?_|refine bdL ?_)<;>((repeat (first|(with_reducible refine af fun N hN hE hT=>?_)|(with_reducible refine ah fun N hN hE hT=>?_)));(try with_reducible refine ai fun X Y hX hY=>?_);(conv=>whnf)))|(refine And.intro ?_ ?_;rotate_left;(conv=>whnf);rotate_right))
                         all_goals first|rfl|exact List.take_length|exact aB (t:=.slot)|(rw [ww];exact aB (t:=.slot))|exact congrArg (Value.int _) (by simp)|trace_state
                       · rw [if_neg hbig] at m5
                         have hsm : c1 % 256 = c1:=wU8 q4.1 (by omega)
                         rw [hsm] at m5
                         conv=>whnf
                         repeat' (first|exact trivial|((first|((first|refine hT _ _ ?_|refine hE _ _ _ ?_|refine hN _ _ ?_);clear hN hE hT)|((first|refine hX ?_|refine hY ?_);clear hX hY)|refine kL ?_|(refine ⟨fun hb=>?_,fun hb=>?_⟩<;>(try simp only [nrm] at hb)<;>(try (first|(exfalso;omega)|contradiction|exact kB hb)))|refine kA g1 ?_|refine kD g1 ?_|refine kA g2 ?_|refine kD g2 ?_|refine kW aa ?_|refine kC ?_|refine bdA ?_|refine bd2 ?_|refine bdR ?_|refine bdL ?_)<;>((repeat (first|(with_reducible refine af fun N hN hE hT=>?_)|(with_reducible refine ah fun N hN hE hT=>?_)));(try with_reducible refine ai fun X Y hX hY=>?_);(conv=>whnf)))|(refine And.intro ?_ ?_;rotate_left;(conv=>whnf);rotate_right))
                         refine .to (l ++ [⟨c1,c2⟩],j + 1,A2,S2) ⟨hA2.symm,by rw [List.length_append,List.length_singleton,m2],(by first|omega|(dsimp only;omega)),q2,by rw [List.append_assoc];exact m5⟩ (by first|omega|(dsimp only;omega)) ?_
                         conv=>whnf
                         repeat' (first|exact trivial|((first|((first|refine hT _ _ ?_|refine hE _ _ _ ?_|refine hN _ _ ?_);clear hN hE hT)|((first|refine hX ?_|refine hY ?_);clear hX hY)|refine kL ?_|(refine ⟨fun hb=>?_,fun hb=>?_⟩<;>(try simp only [nrm] at hb)<;>(try (first|(exfalso;omega)|contradiction|exact kB hb)))|refine kW aa ?_|refine kC ?_|refine bdA ?_|refine bd2 ?_|refine bdR ?_|refine bdL ?_)<;>((repeat (first|(with_reducible refine af fun N hN hE hT=>?_)|(with_reducible refine ah fun N hN hE hT=>?_)));(try with_reducible refine ai fun X Y hX hY=>?_);(conv=>whnf)))|(refine And.intro ?_ ?_;rotate_left;(conv=>whnf);rotate_right))
                         all_goals first|rfl|exact List.take_length|exact aB (t:=.slot)|exact congrArg (Value.int _) (by simp)|trace_state
                     · have hj6 : j = 6:=by omega
                       rw [hj6] at m5
                       obtain ⟨n4,n5⟩:=hal (l,t) (by rw [← m5];simp [aO])
                       clear m5 hal
                       dsimp only at n4 n5
                       by_cases hfin : k + 1 < 64 ∧ t.bad = false
                       · conv=>whnf
                         repeat' (first|exact trivial|((first|((first|refine hT _ _ ?_|refine hE _ _ _ ?_|refine hN _ _ ?_);clear hN hE hT)|((first|refine hX ?_|refine hY ?_);clear hX hY)|refine kL ?_|(refine ⟨fun hb=>?_,fun hb=>?_⟩<;>(try simp only [nrm] at hb)<;>(try (first|(exfalso;omega)|contradiction|exact kB hb)))|refine kW aa ?_|refine kC ?_|refine bdA ?_|refine bd2 ?_|refine bdR ?_|refine bdL ?_)<;>((repeat (first|(with_reducible refine af fun N hN hE hT=>?_)|(with_reducible refine ah fun N hN hE hT=>?_)));(try with_reducible refine ai fun X Y hX hY=>?_);(conv=>whnf)))|(refine And.intro ?_ ?_;rotate_left;(conv=>whnf);rotate_right))
                         refine .to (q ++ [⟨k,l⟩],k + 1,A,t,false) ⟨m1,hlk,m4,by rw [List.length_append,List.length_singleton];omega,by rw [List.append_assoc];exact n4,n5,by simp [hfin]⟩ (by first|omega|(dsimp only;omega)) ?_
                         conv=>whnf
                         repeat' (first|exact trivial|((first|((first|refine hT _ _ ?_|refine hE _ _ _ ?_|refine hN _ _ ?_);clear hN hE hT)|((first|refine hX ?_|refine hY ?_);clear hX hY)|refine kL ?_|(refine ⟨fun hb=>?_,fun hb=>?_⟩<;>(try simp only [nrm] at hb)<;>(try (first|(exfalso;omega)|contradiction|exact kB hb)))|refine kW aa ?_|refine kC ?_|refine bdA ?_|refine bd2 ?_|refine bdR ?_|refine bdL ?_)<;>((repeat (first|(with_reducible refine af fun N hN hE hT=>?_)|(with_reducible refine ah fun N hN hE hT=>?_)));(try with_reducible refine ai fun X Y hX hY=>?_);(conv=>whnf)))|(refine And.intro ?_ ?_;rotate_left;(conv=>whnf);rotate_right))
                         all_goals first|rfl|exact List.take_length|exact aB (t:=.box)|(rw [show List.take l.length (List.drop 0 l) = l from List.take_length];exact aB (t:=.box))|exact congrArg (Value.int _) (by simp)|trace_state
                       · conv=>whnf
                         repeat' (first|exact trivial|((first|((first|refine hT _ _ ?_|refine hE _ _ _ ?_|refine hN _ _ ?_);clear hN hE hT)|((first|refine hX ?_|refine hY ?_);clear hX hY)|refine kL ?_|(refine ⟨fun hb=>?_,fun hb=>?_⟩<;>(try simp only [nrm] at hb)<;>(try (first|(exfalso;omega)|contradiction|exact kB hb)))|refine kW aa ?_|refine kC ?_|refine bdA ?_|refine bd2 ?_|refine bdR ?_|refine bdL ?_)<;>((repeat (first|(with_reducible refine af fun N hN hE hT=>?_)|(with_reducible refine ah fun N hN hE hT=>?_)));(try with_reducible refine ai fun X Y hX hY=>?_);(conv=>whnf)))|(refine And.intro ?_ ?_;rotate_left;(conv=>whnf);rotate_right))
                         refine .to (q ++ [⟨k,l⟩],k + 1,A,t,true) ⟨m1,hlk,m4,by rw [List.length_append,List.length_singleton];omega,by rw [List.append_assoc];exact n4,n5,by simp only [true_iff];exact hfin⟩ (by first|omega|(dsimp only;omega)) ?_
                         conv=>whnf
                         repeat' (first|exact trivial|((first|((first|refine hT _ _ ?_|refine hE _ _ _ ?_|refine hN _ _ ?_);clear hN hE hT)|((first|refine hX ?_|refine hY ?_);clear hX hY)|refine kL ?_|(refine ⟨fun hb=>?_,fun hb=>?_⟩<;>(try simp only [nrm] at hb)<;>(try (first|(exfalso;omega)|contradiction|exact kB hb)))|refine kW aa ?_|refine kC ?_|refine bdA ?_|refine bd2 ?_|refine bdR ?_|refine bdL ?_)<;>((repeat (first|(with_reducible refine af fun N hN hE hT=>?_)|(with_reducible refine ah fun N hN hE hT=>?_)));(try with_reducible refine ai fun X Y hX hY=>?_);(conv=>whnf)))|(refine And.intro ?_ ?_;rotate_left;(conv=>whnf);rotate_right))
                         all_goals first|rfl|exact List.take_length|exact aB (t:=.box)|(rw [show List.take l.length (List.drop 0 l) = l from List.take_length];exact aB (t:=.box))|exact congrArg (Value.int _) (by simp)|trace_state
                 · rw [if_neg (fun h=>h9 h.1)] at j5 j6
                   by_cases hfin : k + 1 < 64
                   · conv=>whnf
                     repeat' (first|exact trivial|((first|((first|refine hT _ _ ?_|refine hE _ _ _ ?_|refine hN _ _ ?_);clear hN hE hT)|((first|refine hX ?_|refine hY ?_);clear hX hY)|refine kL ?_|(refine ⟨fun hb=>?_,fun hb=>?_⟩<;>(try simp only [nrm] at hb)<;>(try (first|(exfalso;omega)|contradiction|exact kB hb)))|(rw [hE0])|refine kW aa ?_|refine kC ?_|refine bdA ?_|refine bd2 ?_|refine bdR ?_|refine bdL ?_)<;>((repeat (first|(with_reducible refine af fun N hN hE hT=>?_)|(with_reducible refine ah fun N hN hE hT=>?_)));(try with_reducible refine ai fun X Y hX hY=>?_);(conv=>whnf)))|(refine And.intro ?_ ?_;rotate_left;(conv=>whnf);rotate_right))
                     refine .to (q,k + 1,A,s,false) ⟨by rw [eT hsf];exact j1,hlk,j3,by omega,j5,j6,by simp [hfin,hsf]⟩ (by first|omega|(dsimp only;omega)) ?_
                     conv=>whnf
                     repeat' (first|exact trivial|((first|((first|refine hT _ _ ?_|refine hE _ _ _ ?_|refine hN _ _ ?_);clear hN hE hT)|((first|refine hX ?_|refine hY ?_);clear hX hY)|refine kL ?_|(refine ⟨fun hb=>?_,fun hb=>?_⟩<;>(try simp only [nrm] at hb)<;>(try (first|(exfalso;omega)|contradiction|exact kB hb)))|refine kW aa ?_|refine kC ?_|refine bdA ?_|refine bd2 ?_|refine bdR ?_|refine bdL ?_)<;>((repeat (first|(with_reducible refine af fun N hN hE hT=>?_)|(with_reducible refine ah fun N hN hE hT=>?_)));(try with_reducible refine ai fun X Y hX hY=>?_);(conv=>whnf)))|(refine And.intro ?_ ?_;rotate_left;(conv=>whnf);rotate_right))
                     all_goals first|rfl|exact List.take_length|trace_state
                   · conv=>whnf
                     repeat' (first|exact trivial|((first|((first|refine hT _ _ ?_|refine hE _ _ _ ?_|refine hN _ _ ?_);clear hN hE hT)|((first|refine hX ?_|refine hY ?_);clear hX hY)|refine kL ?_|(refine ⟨fun hb=>?_,fun hb=>?_⟩<;>(try simp only [nrm] at hb)<;>(try (first|(exfalso;omega)|contradiction|exact kB hb)))|(rw [hE0])|refine kW aa ?_|refine kC ?_|refine bdA ?_|refine bd2 ?_|refine bdR ?_|refine bdL ?_)<;>((repeat (first|(with_reducible refine af fun N hN hE hT=>?_)|(with_reducible refine ah fun N hN hE hT=>?_)));(try with_reducible refine ai fun X Y hX hY=>?_);(conv=>whnf)))|(refine And.intro ?_ ?_;rotate_left;(conv=>whnf);rotate_right))
                     refine .to (q,k + 1,A,s,true) ⟨by rw [eT hsf];exact j1,hlk,j3,by omega,j5,j6,by simp only [true_iff];exact fun h=>hfin h.1⟩ (by first|omega|(dsimp only;omega)) ?_
                     conv=>whnf
                     repeat' (first|exact trivial|((first|((first|refine hT _ _ ?_|refine hE _ _ _ ?_|refine hN _ _ ?_);clear hN hE hT)|((first|refine hX ?_|refine hY ?_);clear hX hY)|refine kL ?_|(refine ⟨fun hb=>?_,fun hb=>?_⟩<;>(try simp only [nrm] at hb)<;>(try (first|(exfalso;omega)|contradiction|exact kB hb)))|refine kW aa ?_|refine kC ?_|refine bdA ?_|refine bd2 ?_|refine bdR ?_|refine bdL ?_)<;>((repeat (first|(with_reducible refine af fun N hN hE hT=>?_)|(with_reducible refine ah fun N hN hE hT=>?_)));(try with_reducible refine ai fun X Y hX hY=>?_);(conv=>whnf)))|(refine And.intro ?_ ?_;rotate_left;(conv=>whnf);rotate_right))
                     all_goals first|rfl|exact List.take_length|trace_state
end Go.Proofs.YtaecchphjploaaaGreat
