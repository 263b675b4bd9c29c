/- homesteadlaw17.TickParts. -/
import Derived.Test.YtkojlembanldcaaGreatRh
set_option linter.unusedSimpArgs false
set_option linter.unusedVariables false
set_option maxRecDepth 100000
set_option maxHeartbeats 4000000
namespace Go.Proofs.YtkojlembanldcaaGreat
open Go Go.RowKit Eng
def lowL (T : List Order) (t : Int) : List Order:=T.filter fun o=>decide (o.player ≤ t)
def highL (T : List Order) (t : Int) : List Order:=T.filter fun o=>!decide (o.player ≤ t)
theorem low_next {T : List Order} {t : Int} {k : Nat} (h : k < T.length) : lowL (T.take (k + 1)) t = lowL (T.take k) t ++ (if (elt .order T k).player ≤ t then [elt .order T k] else []) ∧ highL (T.take (k + 1)) t = highL (T.take k) t ++ (if (elt .order T k).player ≤ t then [] else [elt .order T k]):=by
 unfold lowL highL
 rw [List.take_add_one,elt_get .order T k h,Option.toList_some,List.filter_append,List.filter_append]
 by_cases hp : (elt .order T k).player ≤ t
 · rw [if_pos hp,if_pos hp,List.filter_cons_of_pos (by simpa using hp),List.filter_cons_of_neg (by simpa using hp)];exact ⟨rfl,rfl⟩
 · rw [if_neg hp,if_neg hp,List.filter_cons_of_neg (by simpa using hp),List.filter_cons_of_pos (by simpa using hp)];exact ⟨rfl,rfl⟩
theorem low_le (T : List Order) (t : Int) : (lowL T t).length ≤ T.length ∧ (highL T t).length ≤ T.length:=⟨List.length_filter_le _ _,List.length_filter_le _ _⟩
theorem low_mem {T : List Order} {t : Int} {P : Order → Prop} (h : ∀ o ∈ T,P o) : (∀ o ∈ lowL T t,P o) ∧ ∀ o ∈ highL T t,P o:=⟨fun o ho=>h o (List.mem_filter.1 ho).1,fun o ho=>h o (List.mem_filter.1 ho).1⟩
theorem tparts_api (w : Wld) (l : List (El .order)) (at_ : Int) (hw : OkW w) (hl : l.length ≤ 4000000000000) (hO : ∀ o ∈ l,OkO o) : Api Tryz.prog 14 [wldV w,.vec .order l,i64 at_] (bol true):=by
 have haw:=awake17_api
 have hgr:=greatW_api w hw
 have hrt:=rightW_api w hw
 by_cases hgo : greatW w = false ∧ rightW w = true ∧ w.tick ≤ 1099511627773
 · obtain ⟨hg,hr,ht⟩:=hgo
   rw [hg] at hgr
   rw [hr] at hrt
   have hR:=rightW_iff.1 hr
   have hsz:=hR.size
   obtain ⟨T,hT⟩ : ∃ T : List (El .order),T = List.take (min (l.length : Int) 30 - 0).toNat (List.drop (Int.toNat 0) l):=⟨_,rfl⟩
   have hTl : T.length ≤ 30:=by rw [hT,List.length_take];omega
   have hTO : ∀ o ∈ T,OkO o:=fun o ho=>hO o (by rw [hT] at ho;exact List.mem_of_mem_take ho)
   have hfp:=fold_part hR (show w.tick + 1 < 1099511627776 by omega) T (by omega) at_
   change (foldW w T).2.2 = 0 ∧ (foldW w (lowL T at_)).2.2 = 0 ∧ (foldW (foldW w (lowL T at_)).1 (highL T at_)).2.2 = 0 ∧ (foldW w T).2.1 = (foldW w (lowL T at_)).2.1 ++ (foldW (foldW w (lowL T at_)).1 (highL T at_)).2.1 ∧
     (foldW w T).1 = withT (foldW (foldW w (lowL T at_)).1 (highL T at_)).1 ((foldW (foldW w (lowL T at_)).1 (highL T at_)).1.tick - 1) at hfp
   obtain ⟨p1,p2,p3,p4,p5⟩:=hfp
   have hlo:=low_le T at_
   have hmo:=low_mem (t:=at_) hTO
   have f1:=fold_api w T hw (by omega) hTO
   have f2:=fold_api w (lowL T at_) hw (by omega) hmo.1
   have hRB:=fold_rw hR (lowL T at_)
   have f3:=fold_api (foldW w (lowL T at_)).1 (highL T at_) (okW_rw hRB) (by omega) hmo.2
   have hRC:=fold_rw hRB (highL T at_)
   have hRA:=fold_rw hR T
   have hra : (foldW w T).2.1.length ≤ 1000:=by
     rcases fold_cases w T with ⟨_,_,e⟩|⟨_,_,_,e⟩
     · rw [e];simp
     · rw [e];dsimp only;rw [run_len];have:=sortedL_le T;omega
   rw [p1,p4,p5] at f1
   rw [p5] at hRA
   rw [p4] at hra
   rw [p2] at f2
   rw [p3] at f3
   clear p1 p2 p3 p4 p5 hmo hO
   have hlo0 : lowL (T.take 0) at_ = [] ∧ highL (T.take 0) at_ = []:=⟨rfl,rfl⟩
   have hloE : lowL (T.take T.length) at_ = lowL T at_ ∧ highL (T.take T.length) at_ = highL T at_:=by rw [List.take_length];exact ⟨rfl,rfl⟩
   have hloS : ∀ k,k < T.length → (lowL (T.take (k + 1)) at_ = lowL (T.take k) at_ ++ (if (elt .order T k).player ≤ at_ then [elt .order T k] else []) ∧ highL (T.take (k + 1)) at_ = highL (T.take k) at_ ++ (if (elt .order T k).player ≤ at_ then [] else [elt .order T k])):=fun k hk=>low_next hk
   have hloL : ∀ k,(lowL (T.take k) at_).length ≤ 30 ∧ (highL (T.take k) at_).length ≤ 30:=fun k=>by
     have:=low_le (T.take k) at_
     have h2 : (T.take k).length ≤ 30:=by rw [List.length_take];omega
     omega
   obtain ⟨Lo,hLo⟩ : ∃ f : Nat → List (El .order),f = fun k=>lowL (T.take k) at_:=⟨_,rfl⟩
   obtain ⟨Hi,hHi⟩ : ∃ f : Nat → List (El .order),f = fun k=>highL (T.take k) at_:=⟨_,rfl⟩
   rw [show lowL (T.take 0) at_ = Lo 0 by rw [hLo],show highL (T.take 0) at_ = Hi 0 by rw [hHi]] at hlo0
   rw [show lowL (T.take T.length) at_ = Lo T.length by rw [hLo],show highL (T.take T.length) at_ = Hi T.length by rw [hHi]] at hloE
   have hS1 : ∀ k,k < T.length → (elt .order T k).player ≤ at_ → Lo (k + 1) = Lo k ++ [elt .order T k] ∧ Hi (k + 1) = Hi k:=fun k hk hp=>by
     have:=hloS k hk
     rw [if_pos hp,if_pos hp,List.append_nil] at this
     rw [hLo,hHi];exact this
   have hS2 : ∀ k,k < T.length → at_ < (elt .order T k).player → Lo (k + 1) = Lo k ∧ Hi (k + 1) = Hi k ++ [elt .order T k]:=fun k hk hp=>by
     have:=hloS k hk
     rw [if_neg (by omega),if_neg (by omega),List.append_nil] at this
     rw [hLo,hHi];exact this
   have hLL : ∀ k,(Lo k).length ≤ 30 ∧ (Hi k).length ≤ 30:=fun k=>by rw [hLo,hHi];exact hloL k
   rw [← hloE.1] at f1 f2 f3 hra hRA hRB hRC
   rw [← hloE.2] at f1 f3 hra hRA hRC
   clear hloS hloL hLo hHi hloE hlo
   generalize (foldW w (Lo T.length)).2.1 = Rb at *
   generalize (foldW w (Lo T.length)).1 = B at *
   generalize (foldW B (Hi T.length)).2.1 = Rc at *
   generalize (foldW B (Hi T.length)).1 = C at *
   have hCs:=hRC.size
   have hsm:=sameW_self (withT C (C.tick - 1)) (okW_rw hRA)
   have hsr:=sameR_self (Rb ++ Rc) (by omega)
   rw [List.length_append] at hra
   clear hRA hRC hRB
   refine Api.of_fin cfg_ok Tryz.func14 rfl (nt:=101) rfl rfl ?_
   conv=>whnf
   repeat' (first|exact trivial|((first|refine kL ?_|(refine ⟨fun hb=>?_,fun hb=>?_⟩<;>(try simp only [nrm] at hb)<;>(try (first|(exfalso;omega)|contradiction|exact kB hb)))|(rw [← hT])|refine kA hgr ?_|refine kD hgr ?_|refine kA hrt ?_|refine kD hrt ?_|refine kW cfg_ok ?_|refine kC ?_|refine bdA ?_|refine bd2 ?_|refine bdR ?_|refine bdL ?_)<;>(conv=>whnf))|(refine And.intro ?_ ?_;rotate_left;(conv=>whnf);rotate_right))
   refine Runs.loopS cfg_ok (σ:=Nat) [1,2,3,7,8,37,38,39] (fun k=>[.vec .order T,i64 at_,.ptr 6 0,.own .order 101 0 (Lo k).length none,.own .order 109 0 (Hi k).length none,.vec .order T,i64 T.length,i64 k])
     (fun k=>[(6,.box (wldC w)),(101,.row .order (Lo k)),(109,.row .order (Hi k))]) (fun k=>k ≤ T.length) (fun k=>T.length - k) 0 (by omega) ?_ ?_
   · conv=>whnf
     repeat' (first|exact trivial|((first|refine kL ?_|(refine ⟨fun hb=>?_,fun hb=>?_⟩<;>(try simp only [nrm] at hb)<;>(try (first|(exfalso;omega)|contradiction|exact kB hb)))|refine kW cfg_ok ?_|refine kC ?_|refine bdA ?_|refine bd2 ?_|refine bdR ?_|refine bdL ?_)<;>(conv=>whnf))|(refine And.intro ?_ ?_;rotate_left;(conv=>whnf);rotate_right))
     all_goals first|rfl|omega|exact hlo0.1|exact hlo0.2|(rw [hlo0.1];rfl)|(rw [hlo0.2];rfl)|trace_state
   · intro k hk
     have hl1:=hLL k
     by_cases hlt : k < T.length
     · have s1:=hS1 k hlt
       have s2:=hS2 k hlt
       have hl2:=hLL (k + 1)
       conv=>whnf
       repeat' (first|exact trivial|((first|refine kL ?_|(refine ⟨fun hb=>?_,fun hb=>?_⟩<;>(try simp only [nrm] at hb)<;>(try (first|(exfalso;omega)|contradiction|exact kB hb)))|refine kW cfg_ok ?_|refine kC ?_|refine bdA ?_|refine bd2 ?_|refine bdR ?_|refine bdL ?_)<;>(conv=>whnf))|(refine And.intro ?_ ?_;rotate_left;(conv=>whnf);rotate_right))
       · obtain ⟨e1,e2⟩:=s1 hb
         have el : (Lo (k + 1)).length = (Lo k).length + 1:=by rw [e1];simp
         refine .to (k + 1) (by omega) (by omega) ?_
         conv=>whnf
         repeat' (first|exact trivial|((first|refine kL ?_|(refine ⟨fun hb=>?_,fun hb=>?_⟩<;>(try simp only [nrm] at hb)<;>(try (first|(exfalso;omega)|contradiction|exact kB hb)))|refine kW cfg_ok ?_|refine kC ?_|refine bdA ?_|refine bd2 ?_|refine bdR ?_|refine bdL ?_)<;>(conv=>whnf))|(refine And.intro ?_ ?_;rotate_left;(conv=>whnf);rotate_right))
         all_goals first|rfl|omega|(rw [el];rfl)|(rw [e1,List.take_length];exact List.take_of_length_le (by simp))|(rw [e2];exact List.take_length)|rw [e2]|trace_state
       · obtain ⟨e1,e2⟩:=s2 hb
         have el : (Hi (k + 1)).length = (Hi k).length + 1:=by rw [e2];simp
         refine .to (k + 1) (by omega) (by omega) ?_
         conv=>whnf
         repeat' (first|exact trivial|((first|refine kL ?_|(refine ⟨fun hb=>?_,fun hb=>?_⟩<;>(try simp only [nrm] at hb)<;>(try (first|(exfalso;omega)|contradiction|exact kB hb)))|refine kW cfg_ok ?_|refine kC ?_|refine bdA ?_|refine bd2 ?_|refine bdR ?_|refine bdL ?_)<;>(conv=>whnf))|(refine And.intro ?_ ?_;rotate_left;(conv=>whnf);rotate_right))
         all_goals first|rfl|omega|(rw [el];rfl)|(rw [e2,List.take_length];exact List.take_of_length_le (by simp))|(rw [e1];exact List.take_length)|rw [e1]|trace_state
     · obtain rfl : k = T.length:=by omega
       conv=>whnf
       repeat' (first|exact trivial|((first|refine kL ?_|(refine ⟨fun hb=>?_,fun hb=>?_⟩<;>(try simp only [nrm] at hb)<;>(try (first|(exfalso;omega)|contradiction|exact kB hb)))|refine kA f1 ?_|refine kD f1 ?_|refine kW cfg_ok ?_|refine kC ?_|refine bdA ?_|refine bd2 ?_|refine bdR ?_|refine bdL ?_)<;>(conv=>whnf))|(refine And.intro ?_ ?_;rotate_left;(conv=>whnf);rotate_right))
       refine callGiveN f2 rfl rfl ?_
       conv=>whnf
       refine ⟨by omega,?_⟩
       conv=>whnf
       refine ⟨by rw [List.drop_zero,List.take_length],?_⟩
       repeat' (first|exact trivial|((first|refine kL ?_|(refine ⟨fun hb=>?_,fun hb=>?_⟩<;>(try simp only [nrm] at hb)<;>(try (first|(exfalso;omega)|contradiction|exact kB hb)))|refine kW cfg_ok ?_|refine kC ?_|refine bdA ?_|refine bd2 ?_|refine bdR ?_|refine bdL ?_)<;>(conv=>whnf))|(refine And.intro ?_ ?_;rotate_left;(conv=>whnf);rotate_right))
       refine callGiveN f3 rfl rfl ?_
       conv=>whnf
       refine ⟨by omega,?_⟩
       conv=>whnf
       refine ⟨by rw [List.drop_zero,List.take_length],?_⟩
       repeat' (first|exact trivial|((first|refine kL ?_|(refine ⟨fun hb=>?_,fun hb=>?_⟩<;>(try simp only [nrm] at hb)<;>(try (first|(exfalso;omega)|contradiction|exact kB hb)))|refine kA hsm ?_|refine kD hsm ?_|refine kW cfg_ok ?_|refine kC ?_|refine bdA ?_|refine bd2 ?_|refine bdR ?_|refine bdL ?_)<;>(conv=>whnf))|(refine And.intro ?_ ?_;rotate_left;(conv=>whnf);rotate_right))
       have hrow : List.take (0 + Rb.length) (List.take 0 [] ++ Rb) ++ Rc = Rb ++ Rc:=by simp
       refine callGiveN hsr rfl rfl ?_
       conv=>whnf
       refine ⟨by rw [hrow,List.length_append];omega,?_⟩
       conv=>whnf
       refine ⟨by rw [List.drop_zero,hrow,List.take_of_length_le (by rw [List.length_append];omega)],?_⟩
       repeat' (first|exact trivial|((first|refine kL ?_|(refine ⟨fun hb=>?_,fun hb=>?_⟩<;>(try simp only [nrm] at hb)<;>(try (first|(exfalso;omega)|contradiction|exact kB hb)))|refine kA haw ?_|refine kD haw ?_|refine kW cfg_ok ?_|refine kC ?_|refine bdA ?_|refine bd2 ?_|refine bdR ?_|refine bdL ?_)<;>(conv=>whnf))|(refine And.intro ?_ ?_;rotate_left;(conv=>whnf);rotate_right))
       all_goals first|rfl|omega|trace_state
 · cases hg : greatW w with
   | true =>
     rw [hg] at hgr
     refine Api.of_fin cfg_ok Tryz.func14 rfl (nt:=101) rfl rfl ?_
     conv=>whnf
     repeat' (first|exact trivial|((first|refine kL ?_|(refine ⟨fun hb=>?_,fun hb=>?_⟩<;>(try simp only [nrm] at hb)<;>(try (first|(exfalso;omega)|contradiction|exact kB hb)))|refine kA hgr ?_|refine kD hgr ?_|refine kA haw ?_|refine kD haw ?_|refine kW cfg_ok ?_|refine kC ?_|refine bdA ?_|refine bd2 ?_|refine bdR ?_|refine bdL ?_)<;>(conv=>whnf))|(refine And.intro ?_ ?_;rotate_left;(conv=>whnf);rotate_right))
     all_goals first|rfl|omega|trace_state
   | false =>
     rw [hg] at hgr
     cases hr : rightW w with
     | false =>
       rw [hr] at hrt
       refine Api.of_fin cfg_ok Tryz.func14 rfl (nt:=101) rfl rfl ?_
       conv=>whnf
       repeat' (first|exact trivial|((first|refine kL ?_|(refine ⟨fun hb=>?_,fun hb=>?_⟩<;>(try simp only [nrm] at hb)<;>(try (first|(exfalso;omega)|contradiction|exact kB hb)))|refine kA hgr ?_|refine kD hgr ?_|refine kA hrt ?_|refine kD hrt ?_|refine kA haw ?_|refine kD haw ?_|refine kW cfg_ok ?_|refine kC ?_|refine bdA ?_|refine bd2 ?_|refine bdR ?_|refine bdL ?_)<;>(conv=>whnf))|(refine And.intro ?_ ?_;rotate_left;(conv=>whnf);rotate_right))
       all_goals first|rfl|omega|trace_state
     | true =>
       rw [hr] at hrt
       have ht : 1099511627773 < w.tick:=by
         by_cases h : w.tick ≤ 1099511627773
         · exact absurd ⟨hg,hr,h⟩ hgo
         · omega
       refine Api.of_fin cfg_ok Tryz.func14 rfl (nt:=101) rfl rfl ?_
       conv=>whnf
       repeat' (first|exact trivial|((first|refine kL ?_|(refine ⟨fun hb=>?_,fun hb=>?_⟩<;>(try simp only [nrm] at hb)<;>(try (first|(exfalso;omega)|contradiction|exact kB hb)))|refine kA hgr ?_|refine kD hgr ?_|refine kA hrt ?_|refine kD hrt ?_|refine kA haw ?_|refine kD haw ?_|refine kW cfg_ok ?_|refine kC ?_|refine bdA ?_|refine bd2 ?_|refine bdR ?_|refine bdL ?_)<;>(conv=>whnf))|(refine And.intro ?_ ?_;rotate_left;(conv=>whnf);rotate_right))
       all_goals first|rfl|omega|trace_state
end Go.Proofs.YtkojlembanldcaaGreat
