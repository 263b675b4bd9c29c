/- snap.Make, with new bytes. -/
import Derived.Test.YtaecchphjploaaaGreatGo
import Derived.Test.YtaecchphjploaaaGreatGc
set_option linter.unusedSimpArgs false
set_option linter.unusedVariables false
set_option maxRecDepth 100000
set_option maxHeartbeats 16000000
namespace Go.Proofs.YtaecchphjploaaaGreat
open Go Go.RowKit Eng
theorem makeF_api (v n : Viw) (hv : OkV v) (hn : OkV n) : Api Tryz.prog 37 [viewV v,viewV n] (.tup [.fec false .u8 (makeE v n).1,i64 (makeE v n).2]):=by
 have hr:=vright_api n hn
 have hb1:=vbase_api v hv
 unfold makeE makeB
 cases hR : rightV n with
 | false =>
   rw [hR] at hr
   rw [Bool.false_and,if_neg (by simp),if_neg (by simp)]
   refine Api.of_fin cfg_ok Tryz.func37 rfl (nt:=108) rfl rfl ?_
   conv=>whnf
   repeat' (first|exact trivial|((first|refine kL ?_|(refine ⟨fun hb=>?_,fun hb=>?_⟩<;>(try simp only [nrm] at hb)<;>(try (first|(exfalso;omega)|contradiction|exact kB hb)))|refine kA hr ?_|refine kD hr ?_|refine kA hb1 ?_|refine kD hb1 ?_|refine kW cfg_ok ?_|refine kC ?_|refine bdA ?_|refine bd2 ?_|refine bdR ?_|refine bdL ?_)<;>(conv=>whnf))|(refine And.intro ?_ ?_;rotate_left;(conv=>whnf);rotate_right))
 | true =>
 rw [hR] at hr
 cases hB : baseB v with
 | false =>
   rw [hB] at hb1
   rw [Bool.true_and,if_neg (by simp),if_neg (by simp)]
   refine Api.of_fin cfg_ok Tryz.func37 rfl (nt:=108) rfl rfl ?_
   conv=>whnf
   repeat' (first|exact trivial|((first|refine kL ?_|(refine ⟨fun hb=>?_,fun hb=>?_⟩<;>(try simp only [nrm] at hb)<;>(try (first|(exfalso;omega)|contradiction|exact kB hb)))|refine kA hr ?_|refine kD hr ?_|refine kA hb1 ?_|refine kD hb1 ?_|refine kW cfg_ok ?_|refine kC ?_|refine bdA ?_|refine bd2 ?_|refine bdR ?_|refine bdL ?_)<;>(conv=>whnf))|(refine And.intro ?_ ?_;rotate_left;(conv=>whnf);rotate_right))
 | true =>
 rw [hB] at hb1
 rw [Bool.true_and,if_pos rfl,if_pos rfl]
 have hP:=rightV_P hR
 have p1:=hP.tick;have p2:=hP.id;have p3:=hP.x;have p4:=hP.y;have p5:=hP.w;have p6:=hP.nc;have p7:=hP.no;have p8:=hP.bag
 have p9 : n.me.offer.length ≤ 8:=by
   rcases hP.off with ⟨_,h,_⟩|⟨_,h⟩
   · rw [h];simp
   · omega
 have hag : 0 ≤ agI n.me.agrees ∧ agI n.me.agrees ≤ 1:=by unfold agI;split<;>omega
 have g1:=sput_nil [n.tick,n.me.id,n.me.x,n.me.y] _ rfl (okN_four (by unfold okN;omega) (by unfold okN;omega) (by unfold okN;omega) (by unfold okN;omega)) (by simp only [List.length_cons,List.length_nil];omega)
 have a1:=putY_len [n.tick,n.me.id,n.me.x,n.me.y]
 simp only [List.length_cons,List.length_nil] at a1
 have hY : makeY v n = putY [n.tick,n.me.id,n.me.x,n.me.y] ++ n.me.bag.flatMap slotL ++ putY [n.me.wth + 1,agI n.me.agrees] ++ n.me.offer.flatMap slotL ++ putY [(n.chunks.length : Int)] ++ n.chunks.flatMap (chunkY v) ++ putY [(n.others.length : Int)] ++ n.others.flatMap seenY:=rfl
 rw [hY]
 clear hY
 generalize putY [n.tick,n.me.id,n.me.x,n.me.y] = A1 at *
 have g2:=sslots_ev A1 A1.length n.me.bag rfl (fun s hs=>⟨(hP.bagS s hs).1,by have:=(hP.bagS s hs).2;unfold okN;omega⟩) (by omega)
 have b1:=flatMap_len slotL 20 n.me.bag (fun s _=>slotL_len s)
 generalize n.me.bag.flatMap slotL = B1 at *
 have g3:=sput_ev (A1 ++ B1) _ [n.me.wth + 1,agI n.me.agrees] _ rfl (by rw [List.length_append]) (okN_two (by unfold okN;omega) (by unfold okN;omega)) (by simp only [List.length_cons,List.length_nil,List.length_append];omega)
 have a2:=putY_len [n.me.wth + 1,agI n.me.agrees]
 simp only [List.length_cons,List.length_nil] at a2
 generalize putY [n.me.wth + 1,agI n.me.agrees] = A2 at *
 have g4:=sslots_ev (A1 ++ B1 ++ A2) _ n.me.offer (by rw [List.length_append,List.length_append]) (fun s hs=>⟨(hP.offS s hs).1,by have:=(hP.offS s hs).2;unfold okN;omega⟩) (by simp only [List.length_append];omega)
 have b2:=flatMap_len slotL 20 n.me.offer (fun s _=>slotL_len s)
 generalize n.me.offer.flatMap slotL = B2 at *
 have g5:=sput_ev (A1 ++ B1 ++ A2 ++ B2) _ [(n.chunks.length : Int)] _ rfl (by rw [List.length_append,List.length_append,List.length_append]) (okN_one (by unfold okN;omega)) (by simp only [List.length_cons,List.length_nil,List.length_append];omega)
 have a3:=putY_len [(n.chunks.length : Int)]
 simp only [List.length_cons,List.length_nil] at a3
 generalize putY [(n.chunks.length : Int)] = A3 at *
 have hQe : A1.length + B1.length + A2.length + B2.length + A3.length = (A1 ++ B1 ++ A2 ++ B2 ++ A3).length:=by simp only [List.length_append]
 have hQl : (A1 ++ B1 ++ A2 ++ B2 ++ A3).length ≤ 1000:=by simp only [List.length_append];omega
 rw [hQe] at g5
 generalize hQ : A1 ++ B1 ++ A2 ++ B2 ++ A3 = Q at *
 clear hQ hQe
 have hcl : (n.chunks.flatMap (chunkY v)).length ≤ n.chunks.length * 5200:=flatMap_len (chunkY v) 5200 n.chunks (fun c hc=>chunkY_le (hP.chunks c hc))
 have g6:=sput_ev (Q ++ n.chunks.flatMap (chunkY v)) _ [(n.others.length : Int)] _ rfl (by rw [List.length_append]) (okN_one (by unfold okN;omega)) (by simp only [List.length_cons,List.length_nil,List.length_append];omega)
 have a4:=putY_len [(n.others.length : Int)]
 simp only [List.length_cons,List.length_nil] at a4
 have hRl : (Q ++ n.chunks.flatMap (chunkY v) ++ putY [(n.others.length : Int)]).length ≤ 1000000:=by simp only [List.length_append];omega
 have hRe : Q.length + (n.chunks.flatMap (chunkY v)).length + (putY [(n.others.length : Int)]).length = (Q ++ n.chunks.flatMap (chunkY v) ++ putY [(n.others.length : Int)]).length:=by simp only [List.length_append]
 rw [hRe] at g6
 generalize hRR : Q ++ n.chunks.flatMap (chunkY v) ++ putY [(n.others.length : Int)] = R at *
 clear hRR hRe a4
 have hax : (n.me.agrees = true ∧ agI n.me.agrees = 1) ∨ (n.me.agrees = false ∧ agI n.me.agrees = 0):=by unfold agI;cases n.me.agrees<;>simp
 rcases hax with ⟨hx,hy⟩|⟨hx,hy⟩
 all_goals
   rw [hy] at g3
   refine Api.of_fin cfg_ok Tryz.func37 rfl (nt:=108) rfl rfl ?_
   ((repeat (first|(with_reducible refine evCut fun N hN hE hT=>?_)|(with_reducible refine evBlk fun N hN hE hT=>?_)));(try with_reducible refine evCnd fun X Y hX hY=>?_);(conv=>whnf))
   repeat' (first|exact trivial|((first|((first|refine hT _ _ ?_|refine hE _ _ _ ?_|refine hN _ _ ?_);clear hN hE hT)|((first|refine hX ?_|refine hY ?_);clear hX hY)|refine kL ?_|(refine ⟨fun hb=>?_,fun hb=>?_⟩<;>(try simp only [nrm] at hb)<;>(try (first|(exfalso;omega)|contradiction|exact kB hb)))|refine kE g1 [(0,48),(3,73),(390001,150001)] rfl ?_ (hrd:=⟨rfl,rfl,trivial⟩)|refine kF g1 [(0,48),(3,73),(390001,150001)] rfl ?_ (hrd:=⟨rfl,rfl,trivial⟩)|refine kE g2 [(0,48),(1,150001),(390001,150003)] rfl ?_ (hrd:=⟨rfl,rfl,trivial⟩)|refine kF g2 [(0,48),(1,150001),(390001,150003)] rfl ?_ (hrd:=⟨rfl,rfl,trivial⟩)|refine kE g3 [(0,48),(1,150003),(3,99),(390001,150005)] rfl ?_ (hrd:=⟨rfl,rfl,rfl,trivial⟩)|refine kF g3 [(0,48),(1,150003),(3,99),(390001,150005)] rfl ?_ (hrd:=⟨rfl,rfl,rfl,trivial⟩)|refine kE g4 [(0,48),(1,150005),(390001,150007)] rfl ?_ (hrd:=⟨rfl,rfl,trivial⟩)|refine kF g4 [(0,48),(1,150005),(390001,150007)] rfl ?_ (hrd:=⟨rfl,rfl,trivial⟩)|refine kE g5 [(0,48),(1,150007),(3,119),(390001,150009)] rfl ?_ (hrd:=⟨rfl,rfl,rfl,trivial⟩)|refine kF g5 [(0,48),(1,150007),(3,119),(390001,150009)] rfl ?_ (hrd:=⟨rfl,rfl,rfl,trivial⟩)|refine kA hr ?_|refine kD hr ?_|refine kA hb1 ?_|refine kD hb1 ?_|refine kW cfg_ok ?_|refine kC ?_|refine bdA ?_|refine bd2 ?_|refine bdR ?_|refine bdL ?_)<;>((repeat (first|(with_reducible refine evCut fun N hN hE hT=>?_)|(with_reducible refine evBlk fun N hN hE hT=>?_)));(try with_reducible refine evCnd fun X Y hX hY=>?_);(conv=>whnf)))|(refine And.intro ?_ ?_;rotate_left;(conv=>whnf);rotate_right))
   clear g1 g2 g3 g4 g5 hr hb1 hx hy
   refine Runs.loopS cfg_ok (σ:=Nat) [2,3,6,62,63,64] (fun k=>[.ptr 4 0,.ptr 6 0,.ptr 48 0,.vec .chunk n.chunks,i64 n.chunks.length,i64 k]) (fun k=>[(4,.box (viewC v)),(6,.box (viewC n)),(48,.box [.own .u8 150011 0 (Q.length + ((n.chunks.take k).flatMap (chunkY v)).length) none]),(150011,.row .u8 (Q ++ (n.chunks.take k).flatMap (chunkY v)))])
     (fun k=>k ≤ n.chunks.length) (fun k=>n.chunks.length - k) 0 (by omega) ?_ ?_
   · conv=>whnf
     repeat' (first|exact trivial|((first|((first|refine hT _ _ ?_|refine hE _ _ _ ?_|refine hN _ _ ?_);clear hN hE hT)|((first|refine hX ?_|refine hY ?_);clear hX hY)|refine kL ?_|(refine ⟨fun hb=>?_,fun hb=>?_⟩<;>(try simp only [nrm] at hb)<;>(try (first|(exfalso;omega)|contradiction|exact kB hb)))|refine kW cfg_ok ?_|refine kC ?_|refine bdA ?_|refine bd2 ?_|refine bdR ?_|refine bdL ?_)<;>((repeat (first|(with_reducible refine evCut fun N hN hE hT=>?_)|(with_reducible refine evBlk fun N hN hE hT=>?_)));(try with_reducible refine evCnd fun X Y hX hY=>?_);(conv=>whnf)))|(refine And.intro ?_ ?_;rotate_left;(conv=>whnf);rotate_right))
     all_goals first|rfl|(rw [List.take_length];simp;done)
   · intro k hk
     have hfl:=flatMap_len (chunkY v) 5200 (n.chunks.take k) (fun c hc=>chunkY_le (hP.chunks c (List.mem_of_mem_take hc)))
     rw [List.length_take] at hfl
     by_cases hlt : k < n.chunks.length
     · have hcr:=hP.chunks _ (elt_mem (t:=.chunk) hlt)
       obtain ⟨f1,f2⟩:=findV_ok hB (x:=(elt .chunk n.chunks k).x) (y:=(elt .chunk n.chunks k).y)
       have hfd:=vfind_api v (elt .chunk n.chunks k).x (elt .chunk n.chunks k).y (by have:=hv.nc;omega)
       have hck : chunkY v (elt .chunk n.chunks k) = putY [(elt .chunk n.chunks k).x,(elt .chunk n.chunks k).y] ++ formY (findV v (elt .chunk n.chunks k).x (elt .chunk n.chunks k).y) (elt .chunk n.chunks k):=rfl
       generalize findV v (elt .chunk n.chunks k).x (elt .chunk n.chunks k).y = F at *
       obtain ⟨was,there⟩:=F
       dsimp only at *
       have hs:=schunk_ev (Q ++ (n.chunks.take k).flatMap (chunkY v)) _ was (elt .chunk n.chunks k) there (by rw [List.length_append]) f1 f2 hcr (by simp only [List.length_append];omega)
       rw [← hck] at hs
       conv=>whnf
       repeat' (first|exact trivial|((first|((first|refine hT _ _ ?_|refine hE _ _ _ ?_|refine hN _ _ ?_);clear hN hE hT)|((first|refine hX ?_|refine hY ?_);clear hX hY)|refine kL ?_|(refine ⟨fun hb=>?_,fun hb=>?_⟩<;>(try simp only [nrm] at hb)<;>(try (first|(exfalso;omega)|contradiction|exact kB hb)))|refine kE hs [(0,48),(1,150011),(390001,150013)] rfl ?_ (hrd:=⟨rfl,rfl,trivial⟩)|refine kF hs [(0,48),(1,150011),(390001,150013)] rfl ?_ (hrd:=⟨rfl,rfl,trivial⟩)|refine kA hfd ?_|refine kD hfd ?_|refine kW cfg_ok ?_|refine kC ?_|refine bdA ?_|refine bd2 ?_|refine bdR ?_|refine bdL ?_)<;>((repeat (first|(with_reducible refine evCut fun N hN hE hT=>?_)|(with_reducible refine evBlk fun N hN hE hT=>?_)));(try with_reducible refine evCnd fun X Y hX hY=>?_);(conv=>whnf)))|(refine And.intro ?_ ?_;rotate_left;(conv=>whnf);rotate_right))
       refine .to (k + 1) hlt (by omega) ?_
       conv=>whnf
       repeat' (first|exact trivial|((first|((first|refine hT _ _ ?_|refine hE _ _ _ ?_|refine hN _ _ ?_);clear hN hE hT)|((first|refine hX ?_|refine hY ?_);clear hX hY)|refine kL ?_|(refine ⟨fun hb=>?_,fun hb=>?_⟩<;>(try simp only [nrm] at hb)<;>(try (first|(exfalso;omega)|contradiction|exact kB hb)))|refine kW cfg_ok ?_|refine kC ?_|refine bdA ?_|refine bd2 ?_|refine bdR ?_|refine bdL ?_)<;>((repeat (first|(with_reducible refine evCut fun N hN hE hT=>?_)|(with_reducible refine evBlk fun N hN hE hT=>?_)));(try with_reducible refine evCnd fun X Y hX hY=>?_);(conv=>whnf)))|(refine And.intro ?_ ?_;rotate_left;(conv=>whnf);rotate_right))
       · exact grow_len (t:=.chunk) (f:=chunkY v) Q hlt rfl
       · exact grow_row (t:=.chunk) (f:=chunkY v) Q hlt rfl
     · obtain rfl : k = n.chunks.length:=by omega
       rw [List.take_length] at hfl ⊢
       conv=>whnf
       repeat' (first|exact trivial|((first|((first|refine hT _ _ ?_|refine hE _ _ _ ?_|refine hN _ _ ?_);clear hN hE hT)|((first|refine hX ?_|refine hY ?_);clear hX hY)|refine kL ?_|(refine ⟨fun hb=>?_,fun hb=>?_⟩<;>(try simp only [nrm] at hb)<;>(try (first|(exfalso;omega)|contradiction|exact kB hb)))|refine kE g6 [(0,48),(1,150011),(3,175),(390001,150015)] rfl ?_ (hrd:=⟨rfl,rfl,rfl,trivial⟩)|refine kF g6 [(0,48),(1,150011),(3,175),(390001,150015)] rfl ?_ (hrd:=⟨rfl,rfl,rfl,trivial⟩)|refine kW cfg_ok ?_|refine kC ?_|refine bdA ?_|refine bd2 ?_|refine bdR ?_|refine bdL ?_)<;>((repeat (first|(with_reducible refine evCut fun N hN hE hT=>?_)|(with_reducible refine evBlk fun N hN hE hT=>?_)));(try with_reducible refine evCnd fun X Y hX hY=>?_);(conv=>whnf)))|(refine And.intro ?_ ?_;rotate_left;(conv=>whnf);rotate_right))
       clear g6
       refine Runs.loopS cfg_ok (σ:=Nat) [6,90,91,92] (fun k=>[.ptr 48 0,.vec .seen n.others,i64 n.others.length,i64 k]) (fun k=>[(48,.box [.own .u8 150017 0 (R.length + ((n.others.take k).flatMap seenY).length) none]),(150017,.row .u8 (R ++ (n.others.take k).flatMap seenY))])
         (fun k=>k ≤ n.others.length) (fun k=>n.others.length - k) 0 (by omega) ?_ ?_
       · conv=>whnf
         repeat' (first|exact trivial|((first|((first|refine hT _ _ ?_|refine hE _ _ _ ?_|refine hN _ _ ?_);clear hN hE hT)|((first|refine hX ?_|refine hY ?_);clear hX hY)|refine kL ?_|(refine ⟨fun hb=>?_,fun hb=>?_⟩<;>(try simp only [nrm] at hb)<;>(try (first|(exfalso;omega)|contradiction|exact kB hb)))|refine kW cfg_ok ?_|refine kC ?_|refine bdA ?_|refine bd2 ?_|refine bdR ?_|refine bdL ?_)<;>((repeat (first|(with_reducible refine evCut fun N hN hE hT=>?_)|(with_reducible refine evBlk fun N hN hE hT=>?_)));(try with_reducible refine evCnd fun X Y hX hY=>?_);(conv=>whnf)))|(refine And.intro ?_ ?_;rotate_left;(conv=>whnf);rotate_right))
         all_goals first|rfl|(rw [List.take_length];simp;done)
       · intro j hj
         have hf2:=flatMap_len seenY 30 (n.others.take j) (fun s _=>seenY_len s)
         rw [List.length_take] at hf2
         by_cases hlj : j < n.others.length
         · have ho:=hP.others _ (elt_mem (t:=.seen) hlj)
           have hs:=sput_ev (R ++ (n.others.take j).flatMap seenY) _ [(elt .seen n.others j).id,(elt .seen n.others j).x,(elt .seen n.others j).y] _ rfl (by rw [List.length_append]) (okN_three (by unfold okN;omega) (by unfold okN;omega) (by unfold okN;omega)) (by simp only [List.length_append,List.length_cons,List.length_nil];omega)
           conv=>whnf
           repeat' (first|exact trivial|((first|((first|refine hT _ _ ?_|refine hE _ _ _ ?_|refine hN _ _ ?_);clear hN hE hT)|((first|refine hX ?_|refine hY ?_);clear hX hY)|refine kL ?_|(refine ⟨fun hb=>?_,fun hb=>?_⟩<;>(try simp only [nrm] at hb)<;>(try (first|(exfalso;omega)|contradiction|exact kB hb)))|refine kE hs [(0,48),(1,150017),(3,207),(390001,150019)] rfl ?_ (hrd:=⟨rfl,rfl,rfl,trivial⟩)|refine kF hs [(0,48),(1,150017),(3,207),(390001,150019)] rfl ?_ (hrd:=⟨rfl,rfl,rfl,trivial⟩)|refine kW cfg_ok ?_|refine kC ?_|refine bdA ?_|refine bd2 ?_|refine bdR ?_|refine bdL ?_)<;>((repeat (first|(with_reducible refine evCut fun N hN hE hT=>?_)|(with_reducible refine evBlk fun N hN hE hT=>?_)));(try with_reducible refine evCnd fun X Y hX hY=>?_);(conv=>whnf)))|(refine And.intro ?_ ?_;rotate_left;(conv=>whnf);rotate_right))
           refine .to (j + 1) hlj (by omega) ?_
           conv=>whnf
           repeat' (first|exact trivial|((first|((first|refine hT _ _ ?_|refine hE _ _ _ ?_|refine hN _ _ ?_);clear hN hE hT)|((first|refine hX ?_|refine hY ?_);clear hX hY)|refine kL ?_|(refine ⟨fun hb=>?_,fun hb=>?_⟩<;>(try simp only [nrm] at hb)<;>(try (first|(exfalso;omega)|contradiction|exact kB hb)))|refine kW cfg_ok ?_|refine kC ?_|refine bdA ?_|refine bd2 ?_|refine bdR ?_|refine bdL ?_)<;>((repeat (first|(with_reducible refine evCut fun N hN hE hT=>?_)|(with_reducible refine evBlk fun N hN hE hT=>?_)));(try with_reducible refine evCnd fun X Y hX hY=>?_);(conv=>whnf)))|(refine And.intro ?_ ?_;rotate_left;(conv=>whnf);rotate_right))
           · exact grow_len (t:=.seen) (f:=seenY) R hlj rfl
           · exact grow_row (t:=.seen) (f:=seenY) R hlj rfl
         · obtain rfl : j = n.others.length:=by omega
           rw [List.take_length]
           conv=>whnf
           repeat' (first|exact trivial|((first|((first|refine hT _ _ ?_|refine hE _ _ _ ?_|refine hN _ _ ?_);clear hN hE hT)|((first|refine hX ?_|refine hY ?_);clear hX hY)|refine kL ?_|(refine ⟨fun hb=>?_,fun hb=>?_⟩<;>(try simp only [nrm] at hb)<;>(try (first|(exfalso;omega)|contradiction|exact kB hb)))|refine kW cfg_ok ?_|refine kC ?_|refine bdA ?_|refine bd2 ?_|refine bdR ?_|refine bdL ?_)<;>((repeat (first|(with_reducible refine evCut fun N hN hE hT=>?_)|(with_reducible refine evBlk fun N hN hE hT=>?_)));(try with_reducible refine evCnd fun X Y hX hY=>?_);(conv=>whnf)))|(refine And.intro ?_ ?_;rotate_left;(conv=>whnf);rotate_right))
           all_goals first|rfl|exact List.take_length|(rw [List.drop_zero];exact take_app _ _)
end Go.Proofs.YtaecchphjploaaaGreat
