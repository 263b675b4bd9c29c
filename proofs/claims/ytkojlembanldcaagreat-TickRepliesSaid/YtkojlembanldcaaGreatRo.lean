/- homesteadlaw17.TickReplies. -/
import Derived.Test.YtkojlembanldcaaGreatRl
set_option linter.unusedSimpArgs false
set_option linter.unusedVariables false
set_option maxRecDepth 100000
set_option maxHeartbeats 4000000
namespace Go.Proofs.YtkojlembanldcaaGreat
open Go Go.RowKit Eng
theorem nd_le {α : Type} : ∀ {a b : List α},a.Nodup → (∀ x ∈ a,x ∈ b) → a.length ≤ b.length
 | [],_,_,_=>Nat.zero_le _
 | x :: a,b,h,hs=>by
   obtain ⟨p,q,rfl⟩:=List.append_of_mem (hs x (by simp))
   have h1:=List.nodup_cons.1 h
   have:=nd_le (a:=a) (b:=p ++ q) h1.2 fun y hy=>by
     have:=hs y (List.mem_cons_of_mem _ hy)
     rw [List.mem_append,List.mem_cons] at this
     rcases this with h|rfl|h
     · exact List.mem_append_left _ h
     · exact absurd hy h1.1
     · exact List.mem_append_right _ h
   rw [List.length_append] at this
   rw [List.length_append,List.length_cons,List.length_cons];omega
theorem nd_eq {α : Type} {a b : List α} (ha : a.Nodup) (hb : b.Nodup) (h : ∀ x,x ∈ a ↔ x ∈ b) : a.length = b.length:=Nat.le_antisymm (nd_le ha fun x hx=>(h x).1 hx) (nd_le hb fun x hx=>(h x).2 hx)
def keyP (o : Order) : Int × Int:=(o.player,o.seq)
def askF : List Order → Int → Int → Option Int
 | []=>noF
 | o :: r=>setF (askF r) o.player o.seq 1
def askN : List Order → Nat
 | []=>0
 | o :: r=>Eng.cntF (askF r) o.player o.seq (askN r)
def askD : List Order → List (Int × Int)
 | []=>[]
 | o :: r=>if (askF r o.player o.seq).isSome = true then askD r else keyP o :: askD r
theorem ask_mem : ∀ {l : List Order} {a b : Int},(askF l a b = some 1 ∧ (a,b) ∈ askD l ∧ (a,b) ∈ l.map keyP) ∨ (askF l a b = none ∧ (a,b) ∉ askD l ∧ (a,b) ∉ l.map keyP)
 | [],a,b=>.inr ⟨rfl,by simp [askD],by simp⟩
 | o :: r,a,b=>by
   have ih:=ask_mem (l:=r) (a:=a) (b:=b)
   have ih2:=ask_mem (l:=r) (a:=o.player) (b:=o.seq)
   simp only [askF,askD,setF,List.map_cons,List.mem_cons]
   by_cases h : a = o.player ∧ b = o.seq
   · obtain ⟨rfl,rfl⟩:=h
     left
     rw [if_pos ⟨rfl,rfl⟩]
     refine ⟨rfl,?_,.inl rfl⟩
     rcases ih2 with ⟨e,m,_⟩|⟨e,_,_⟩
     · rw [e];simp only [Option.isSome_some,if_true];exact m
     · rw [e,if_neg (by simp)];simp [keyP]
   · rw [if_neg h]
     have hk : (a,b) ≠ keyP o:=fun e=>h (by unfold keyP at e;exact ⟨(Prod.mk.inj e).1,(Prod.mk.inj e).2⟩)
     rcases ih with ⟨e,m,m2⟩|⟨e,m,m2⟩
     · left;refine ⟨e,?_,.inr m2⟩;split
       · exact m
       · exact List.mem_cons_of_mem _ m
     · right;refine ⟨e,?_,fun q=>q.elim hk m2⟩;split
       · exact m
       · exact fun q=>(List.mem_cons.1 q).elim hk m
theorem ask_nodup : ∀ l : List Order,(askD l).Nodup ∧ (askD l).length = askN l
 | []=>⟨List.nodup_nil,rfl⟩
 | o :: r=>by
   obtain ⟨h1,h2⟩:=ask_nodup r
   have hm:=ask_mem (l:=r) (a:=o.player) (b:=o.seq)
   simp only [askD,askN,Eng.cntF]
   rcases hm with ⟨e,m,_⟩|⟨e,m,_⟩
   · rw [e];simp only [Option.isSome_some,if_true];exact ⟨h1,h2⟩
   · rw [e,if_neg (by simp),if_neg (by simp),List.length_cons,h2]
     exact ⟨List.nodup_cons.2 ⟨m,h1⟩,rfl⟩
theorem key_nodup {l : List Order} (h : l.Pairwise keyLt) : (l.map keyP).Nodup:=by
 unfold List.Nodup
 rw [List.pairwise_map]
 exact h.imp fun {x y} q e=>by
   unfold keyP at e
   obtain ⟨e1,e2⟩:=Prod.mk.inj e
   unfold keyLt at q;omega
theorem ask_sorted (l : List Order) : askN l = (sortedL l).length:=by
 rw [← (ask_nodup l).2]
 suffices h : (askD l).length = ((sortedL l).map keyP).length by rw [h,List.length_map]
 refine nd_eq (ask_nodup l).1 (key_nodup (sorted_rises l)) fun x=>?_
 obtain ⟨a,b⟩:=x
 have hm:=ask_mem (l:=l) (a:=a) (b:=b)
 constructor
 · intro hx
   rcases hm with ⟨_,_,m⟩|⟨_,m,_⟩
   · obtain ⟨o,ho,e⟩:=List.mem_map.1 m
     obtain ⟨z,hz,h1,h2⟩:=sorted_has ho
     exact List.mem_map.2 ⟨z,hz,by rw [← e];unfold keyP;rw [h1,h2]⟩
   · exact absurd hx m
 · intro hx
   obtain ⟨z,hz,e⟩:=List.mem_map.1 hx
   have hz2:=sorted_mem hz
   rcases hm with ⟨_,m,_⟩|⟨_,_,m⟩
   · exact m
   · exact absurd (List.mem_map.2 ⟨z,hz2,e⟩) m
theorem ask_rev (l : List Order) : (∀ a b,askF l.reverse a b = askF l a b) ∧ askN l.reverse = askN l:=by
 constructor
 · intro a b
   have h1:=ask_mem (l:=l) (a:=a) (b:=b)
   have h2:=ask_mem (l:=l.reverse) (a:=a) (b:=b)
   rw [List.map_reverse,List.mem_reverse] at h2
   rcases h1 with ⟨e,_,m⟩|⟨e,_,m⟩<;>rcases h2 with ⟨e2,_,m2⟩|⟨e2,_,m2⟩
   · rw [e,e2]
   · exact absurd m m2
   · exact absurd m2 m
   · rw [e,e2]
 · rw [ask_sorted,ask_sorted,sorted_ext (m:=l) fun x=>by rw [List.mem_reverse]]
theorem rep_at (w : Wld) (l : List Order) {k : Nat} (h : k < (runW w (sortedL l)).2.length) : ∃ o ∈ sortedL l,(elt .reply (runW w (sortedL l)).2 k).player = o.player ∧ (elt .reply (runW w (sortedL l)).2 k).seq = o.seq ∧ elt .order (sortedL l) k = o:=by
 rw [run_len] at h
 have e1:=elt_get .order (sortedL l) k h
 have e2:=run_reply (w:=w) e1
 have e3:=elt_get .reply (runW w (sortedL l)).2 k (by rw [run_len];exact h)
 rw [e3] at e2
 have e4:=Option.some.inj e2
 exact ⟨elt .order (sortedL l) k,elt_mem (t:=.order) h,by rw [e4],by rw [e4],rfl⟩
theorem treplies_api (w : Wld) (l : List (El .order)) (hw : OkW w) (hl : l.length ≤ 4000000000000) (hO : ∀ o ∈ l,OkO o) : Api Tryz.prog 12 [wldV w,.vec .order l] (bol true):=by
 have haw:=awake17_api
 have hgr:=greatW_api w hw
 cases hg : greatW w with
 | true =>
   rw [hg] at hgr
   refine Api.of_fin cfg_ok Tryz.func12 rfl (nt:=109) rfl rfl ?_
   conv=>whnf
   repeat' (first|exact trivial|((first|refine kL ?_|(refine ⟨fun hb=>?_,fun hb=>?_⟩<;>(try simp only [nrm] at hb)<;>(try (first|(exfalso;omega)|contradiction|exact kB hb)))|refine kA hgr ?_|refine kD hgr ?_|refine kA haw ?_|refine kD haw ?_|refine kW cfg_ok ?_|refine kC ?_|refine bdA ?_|refine bd2 ?_|refine bdR ?_|refine bdL ?_)<;>(conv=>whnf))|(refine And.intro ?_ ?_;rotate_left;(conv=>whnf);rotate_right))
   all_goals first|rfl|omega|trace_state
 | false =>
   rw [hg] at hgr
   obtain ⟨T,hT⟩ : ∃ T : List (El .order),T = List.take (min (l.length : Int) 60 - 0).toNat (List.drop (Int.toNat 0) l):=⟨_,rfl⟩
   have hTl : T.length ≤ 60:=by rw [hT,List.length_take];omega
   have hTO : ∀ o ∈ T,OkO o:=fun o ho=>hO o (by rw [hT] at ho;exact List.mem_of_mem_take ho)
   have f1:=fold_api w T hw (by omega) hTO
   rcases fold_cases w T with ⟨e1,_,e3⟩|⟨hR,ht,_,e⟩
   · rw [e3] at f1
     generalize (foldW w T).2.2 = E at *
     generalize (foldW w T).1 = F at *
     refine Api.of_fin cfg_ok Tryz.func12 rfl (nt:=109) rfl rfl ?_
     conv=>whnf
     repeat' (first|exact trivial|((first|refine kL ?_|(refine ⟨fun hb=>?_,fun hb=>?_⟩<;>(try simp only [nrm] at hb)<;>(try (first|(exfalso;omega)|contradiction|exact kB hb)))|(rw [← hT])|refine kA hgr ?_|refine kD hgr ?_|refine kA f1 ?_|refine kD f1 ?_|refine kA haw ?_|refine kD haw ?_|refine kW cfg_ok ?_|refine kC ?_|refine bdA ?_|refine bd2 ?_|refine bdR ?_|refine bdL ?_)<;>(conv=>whnf))|(refine And.intro ?_ ?_;rotate_left;(conv=>whnf);rotate_right))
     all_goals first|rfl|omega|trace_state
   · rw [e] at f1
     dsimp only at f1
     have hSl:=sortedL_le T
     have hrl : (runW w (sortedL T)).2.length = (sortedL T).length:=run_len
     have hkey : ∀ k,k < (runW w (sortedL T)).2.length → getZ (askF T.reverse (elt .reply (runW w (sortedL T)).2 k).player (elt .reply (runW w (sortedL T)).2 k).seq) = 1:=fun k hk=>by
       obtain ⟨o,ho,h1,h2,_⟩:=rep_at w T hk
       rw [(ask_rev T).1,h1,h2]
       rcases ask_mem (l:=T) (a:=o.player) (b:=o.seq) with ⟨q,_,_⟩|⟨_,_,q⟩
       · rw [q];rfl
       · exact absurd (List.mem_map.2 ⟨o,sorted_mem ho,rfl⟩) q
     have hrise : ∀ k,0 < k → k < (runW w (sortedL T)).2.length → (elt .reply (runW w (sortedL T)).2 (k - 1)).player < (elt .reply (runW w (sortedL T)).2 k).player ∨ (elt .reply (runW w (sortedL T)).2 (k - 1)).player = (elt .reply (runW w (sortedL T)).2 k).player ∧ (elt .reply (runW w (sortedL T)).2 (k - 1)).seq < (elt .reply (runW w (sortedL T)).2 k).seq:=fun k h0 hk=>by
       obtain ⟨o,_,h1,h2,h3⟩:=rep_at w T hk
       obtain ⟨o2,_,g1,g2,g3⟩:=rep_at w T (k:=k - 1) (by omega)
       have hr:=rise_at T h0 (by rw [← hrl];exact hk)
       rw [h1,h2,g1,g2,← h3,← g3];exact hr
     have hN : askN T.reverse = (runW w (sortedL T)).2.length:=by rw [(ask_rev T).2,ask_sorted,hrl]
     have hrl2 : (runW w (sortedL T)).2.length ≤ 60:=by omega
     generalize (runW w (sortedL T)).2 = R at *
     generalize withT (runW w (sortedL T)).1 (w.tick + 1) = A at *
     obtain ⟨FK,hFK⟩ : ∃ f : Nat → Int → Int → Option Int,f = fun k=>askF (T.take k).reverse:=⟨_,rfl⟩
     obtain ⟨NK,hNK⟩ : ∃ f : Nat → Nat,f = fun k=>askN (T.take k).reverse:=⟨_,rfl⟩
     have hF0 : FK 0 = noF ∧ NK 0 = 0:=by rw [hFK,hNK];exact ⟨rfl,rfl⟩
     have hFS : ∀ k,k < T.length → FK (k + 1) = setF (FK k) (elt .order T k).player (elt .order T k).seq 1 ∧ NK (k + 1) = Eng.cntF (FK k) (elt .order T k).player (elt .order T k).seq (NK k):=fun k hk=>by
       rw [hFK,hNK]
       dsimp only
       rw [List.take_add_one,elt_get .order T k hk,Option.toList_some,List.reverse_append]
       exact ⟨rfl,rfl⟩
     rw [show askN T.reverse = NK T.length by rw [hNK];dsimp only;rw [List.take_length]] at hN
     rw [show askF T.reverse = FK T.length by rw [hFK];dsimp only;rw [List.take_length]] at hkey
     clear hFK hNK hSl hrl e hO
     refine Api.of_fin cfg_ok Tryz.func12 rfl (nt:=109) rfl rfl ?_
     conv=>whnf
     repeat' (first|exact trivial|((first|refine kL ?_|(refine ⟨fun hb=>?_,fun hb=>?_⟩<;>(try simp only [nrm] at hb)<;>(try (first|(exfalso;omega)|contradiction|exact kB hb)))|(rw [← hT])|refine kA hgr ?_|refine kD hgr ?_|refine kA f1 ?_|refine kD f1 ?_|refine kW cfg_ok ?_|refine kC ?_|refine bdA ?_|refine bd2 ?_|refine bdR ?_|refine bdL ?_)<;>(conv=>whnf))|(refine And.intro ?_ ?_;rotate_left;(conv=>whnf);rotate_right))
     refine Runs.loopS cfg_ok (σ:=Nat) [6,8,37,38,39] (fun k=>[.vec .reply R,.mp 72,.vec .order T,i64 T.length,i64 k]) (fun k=>[(72,.pm .i64 (FK k) (NK k))]) (fun k=>k ≤ T.length) (fun k=>T.length - k) 0 (by omega) ?_ ?_
     · conv=>whnf
       repeat' (first|exact trivial|((first|refine kL ?_|(refine ⟨fun hb=>?_,fun hb=>?_⟩<;>(try simp only [nrm] at hb)<;>(try (first|(exfalso;omega)|contradiction|exact kB hb)))|refine kW cfg_ok ?_|refine kC ?_|refine bdA ?_|refine bd2 ?_|refine bdR ?_|refine bdL ?_)<;>(conv=>whnf))|(refine And.intro ?_ ?_;rotate_left;(conv=>whnf);rotate_right))
       all_goals first|rfl|omega|exact hF0.1.symm|exact hF0.2.symm|(show Blk.pm .i64 noF 0 = Blk.pm .i64 (FK 0) (NK 0);rw [hF0.1,hF0.2])|trace_state
     · intro k hk
       by_cases hlt : k < T.length
       · obtain ⟨s1,s2⟩:=hFS k hlt
         conv=>whnf
         repeat' (first|exact trivial|((first|refine kL ?_|(refine ⟨fun hb=>?_,fun hb=>?_⟩<;>(try simp only [nrm] at hb)<;>(try (first|(exfalso;omega)|contradiction|exact kB hb)))|refine kW cfg_ok ?_|refine kC ?_|refine bdA ?_|refine bd2 ?_|refine bdR ?_|refine bdL ?_)<;>(conv=>whnf))|(refine And.intro ?_ ?_;rotate_left;(conv=>whnf);rotate_right))
         refine .to (k + 1) (by omega) (by omega) ?_
         conv=>whnf
         repeat' (first|exact trivial|((first|refine kL ?_|(refine ⟨fun hb=>?_,fun hb=>?_⟩<;>(try simp only [nrm] at hb)<;>(try (first|(exfalso;omega)|contradiction|exact kB hb)))|refine kW cfg_ok ?_|refine kC ?_|refine bdA ?_|refine bd2 ?_|refine bdR ?_|refine bdL ?_)<;>(conv=>whnf))|(refine And.intro ?_ ?_;rotate_left;(conv=>whnf);rotate_right))
         all_goals first|rfl|omega|exact s1.symm|exact s2.symm|(show Blk.pm .i64 (setF (FK k) _ _ 1) (Eng.cntF (FK k) _ _ (NK k)) = Blk.pm .i64 (FK (k + 1)) (NK (k + 1));rw [s1,s2];rfl)|trace_state
       · obtain rfl : k = T.length:=by omega
         generalize FK T.length = G at *
         generalize NK T.length = n at *
         subst hN
         conv=>whnf
         repeat' (first|exact trivial|((first|refine kL ?_|(refine ⟨fun hb=>?_,fun hb=>?_⟩<;>(try simp only [nrm] at hb)<;>(try (first|(exfalso;omega)|contradiction|exact kB hb)))|refine kW cfg_ok ?_|refine kC ?_|refine bdA ?_|refine bd2 ?_|refine bdR ?_|refine bdL ?_)<;>(conv=>whnf))|(refine And.intro ?_ ?_;rotate_left;(conv=>whnf);rotate_right))
         refine Runs.loopS cfg_ok (σ:=Nat) [6,8,50,51,52] (fun k=>[.vec .reply R,.mp 72,.vec .reply R,i64 R.length,i64 k]) (fun k=>[(72,.pm .i64 G R.length)]) (fun k=>k ≤ R.length) (fun k=>R.length - k) 0 (by omega) ?_ ?_
         · conv=>whnf
           repeat' (first|exact trivial|((first|refine kL ?_|(refine ⟨fun hb=>?_,fun hb=>?_⟩<;>(try simp only [nrm] at hb)<;>(try (first|(exfalso;omega)|contradiction|exact kB hb)))|refine kW cfg_ok ?_|refine kC ?_|refine bdA ?_|refine bd2 ?_|refine bdR ?_|refine bdL ?_)<;>(conv=>whnf))|(refine And.intro ?_ ?_;rotate_left;(conv=>whnf);rotate_right))
           all_goals first|rfl|omega|trace_state
         · intro k hk
           by_cases hlt : k < R.length
           · have q1:=hkey k hlt
             have q2 : 0 < k → (elt .reply R ((k : Int) - 1).toNat).player < (elt .reply R k).player ∨ (elt .reply R ((k : Int) - 1).toNat).player = (elt .reply R k).player ∧ (elt .reply R ((k : Int) - 1).toNat).seq < (elt .reply R k).seq:=fun h=>by
               rw [show ((k : Int) - 1).toNat = k - 1 by omega];exact hrise k h hlt
             conv=>whnf
             repeat' (first|exact trivial|((first|refine kL ?_|(refine ⟨fun hb=>?_,fun hb=>?_⟩<;>(try simp only [nrm] at hb)<;>(try (first|(exfalso;omega)|contradiction|exact kB hb)))|refine kW cfg_ok ?_|refine kC ?_|refine bdA ?_|refine bd2 ?_|refine bdR ?_|refine bdL ?_)<;>(conv=>whnf))|(refine And.intro ?_ ?_;rotate_left;(conv=>whnf);rotate_right))
             all_goals
               refine .to (k + 1) (by omega) (by omega) ?_
               conv=>whnf
               repeat' (first|exact trivial|((first|refine kL ?_|(refine ⟨fun hb=>?_,fun hb=>?_⟩<;>(try simp only [nrm] at hb)<;>(try (first|(exfalso;omega)|contradiction|exact kB hb)))|refine kW cfg_ok ?_|refine kC ?_|refine bdA ?_|refine bd2 ?_|refine bdR ?_|refine bdL ?_)<;>(conv=>whnf))|(refine And.intro ?_ ?_;rotate_left;(conv=>whnf);rotate_right))
               all_goals first|rfl|omega|trace_state
           · obtain rfl : k = R.length:=by omega
             conv=>whnf
             repeat' (first|exact trivial|((first|refine kL ?_|(refine ⟨fun hb=>?_,fun hb=>?_⟩<;>(try simp only [nrm] at hb)<;>(try (first|(exfalso;omega)|contradiction|exact kB hb)))|refine kA haw ?_|refine kD haw ?_|refine kW cfg_ok ?_|refine kC ?_|refine bdA ?_|refine bd2 ?_|refine bdR ?_|refine bdL ?_)<;>(conv=>whnf))|(refine And.intro ?_ ?_;rotate_left;(conv=>whnf);rotate_right))
             all_goals first|rfl|omega|trace_state
end Go.Proofs.YtkojlembanldcaaGreat
