/- homesteadlaw17.TickSorts. -/
import Derived.Test.YtkojlembanldcaaGreatRh
set_option linter.unusedSimpArgs false
set_option linter.unusedVariables false
set_option maxRecDepth 100000
set_option maxHeartbeats 4000000
namespace Go.Proofs.YtkojlembanldcaaGreat
open Go Go.RowKit Eng
structure HasO (P : Order → Prop) (T : List Order) (j : Nat) (b : Bool) : Prop where
 yes : (∃ x ∈ T.take j,P x) → b = true
theorem HasO.zero {P : Order → Prop} {T : List Order} : HasO P T 0 false:=⟨fun ⟨x,hx,_⟩=>by simp at hx⟩
theorem HasO.all {P : Order → Prop} {T : List Order} {b : Bool} (h : HasO P T T.length b) (ho : ∃ x ∈ T,P x) : b = true:=h.yes (by rw [List.take_length];exact ho)
theorem HasO.keep {P : Order → Prop} {T : List Order} {j : Nat} : HasO P T j true:=⟨fun _=>rfl⟩
theorem HasO.next {P : Order → Prop} {T : List Order} {j : Nat} (h : HasO P T j false) (hj : j < T.length) {b : Bool} (hb : P (elt .order T j) → b = true) : HasO P T (j + 1) b:=by
 refine ⟨fun ⟨x,hx,hp⟩=>?_⟩
 rw [List.take_add_one,elt_get .order T j hj,Option.toList_some,List.mem_append,List.mem_singleton] at hx
 rcases hx with hx|rfl
 · have:=h.yes ⟨x,hx,hp⟩;cases this
 · exact hb hp
theorem rise_at (l : List Order) {k : Nat} (h0 : 0 < k) (h : k < (sortedL l).length) : keyLt (elt .order (sortedL l) (k - 1)) (elt .order (sortedL l) k):=by
 have hr:=sorted_rises l
 rw [List.pairwise_iff_getElem] at hr
 have:=hr (k - 1) k (by omega) h (by omega)
 have e1:=elt_get .order (sortedL l) (k - 1) (by omega)
 have e2:=elt_get .order (sortedL l) k h
 rw [List.getElem?_eq_getElem (by omega)] at e1
 rw [List.getElem?_eq_getElem h] at e2
 rw [Option.some.inj e1,Option.some.inj e2] at this
 exact this
def eqOB (x o : Order) : Bool:=x.player == o.player && (x.seq == o.seq && (x.cmd.dol == o.cmd.dol && (x.cmd.a == o.cmd.a && (x.cmd.b == o.cmd.b && (x.cmd.c == o.cmd.c && x.cmd.n == o.cmd.n)))))
theorem eqOB_of {T S : List Order} {j k : Nat} (_ : j < T.length) (h : elt .order T j = elt .order S k) : eqOB (elt .order T j) (elt .order S k) = true:=by
 rw [h];unfold eqOB;simp only [beq_self_eq_true,Bool.and_self]
theorem tsorts_api (l : List (El .order)) (hl : l.length ≤ 4000000000000) : Api Tryz.prog 13 [.vec .order l] (bol true):=by
 have haw:=awake17_api
 obtain ⟨T,hT⟩ : ∃ T : List (El .order),T = List.take (min (l.length : Int) 100 - 0).toNat (List.drop (Int.toNat 0) l):=⟨_,rfl⟩
 have hTl : T.length ≤ 100:=by rw [hT,List.length_take];omega
 have h1:=sorted_api T (by omega)
 have hSl:=sortedL_le T
 have h2:=sorted_api (sortedL T) (by omega)
 rw [sorted_idem] at h2
 have h3:=sameO_self (sortedL T) (by omega)
 have hrise:=fun k=>rise_at T (k:=k)
 have hmem:=fun o (ho : o ∈ sortedL T)=>sorted_mem ho
 have hhas:=fun o (ho : o ∈ T)=>sorted_has ho
 generalize sortedL T = S at *
 refine Api.of_fin cfg_ok Tryz.func13 rfl (nt:=115) rfl rfl ?_
 conv=>whnf
 repeat' (first|exact trivial|((first|refine kL ?_|(refine ⟨fun hb=>?_,fun hb=>?_⟩<;>(try simp only [nrm] at hb)<;>(try (first|(exfalso;omega)|contradiction|exact kB hb)))|(rw [← hT])|refine kA h1 ?_|refine kD h1 ?_|refine kA h2 ?_|refine kD h2 ?_|refine kA h3 ?_|refine kD h3 ?_|refine kW cfg_ok ?_|refine kC ?_|refine bdA ?_|refine bd2 ?_|refine bdR ?_|refine bdL ?_)<;>(conv=>whnf))|(refine And.intro ?_ ?_;rotate_left;(conv=>whnf);rotate_right))
 refine Runs.loopS cfg_ok (σ:=Nat) [0,3,26,27,28] (fun k=>[.vec .order T,.vec .order S,.vec .order S,i64 S.length,i64 k]) (fun _=>[]) (fun k=>k ≤ S.length) (fun k=>S.length - k) 0 (by omega) ?_ ?_
 · conv=>whnf
   repeat' (first|exact trivial|((first|refine kL ?_|(refine ⟨fun hb=>?_,fun hb=>?_⟩<;>(try simp only [nrm] at hb)<;>(try (first|(exfalso;omega)|contradiction|exact kB hb)))|refine kW cfg_ok ?_|refine kC ?_|refine bdA ?_|refine bd2 ?_|refine bdR ?_|refine bdL ?_)<;>(conv=>whnf))|(refine And.intro ?_ ?_;rotate_left;(conv=>whnf);rotate_right))
   all_goals first|rfl|trace_state
 · intro k hk
   by_cases hlt : k < S.length
   · have hr : 0 < k → keyLt (elt .order S ((k : Int) - 1).toNat) (elt .order S k):=fun h=>by
       rw [show ((k : Int) - 1).toNat = k - 1 by omega];exact hrise k h hlt
     unfold keyLt at hr
     have hin:=hmem _ (elt_mem (t:=.order) hlt)
     conv=>whnf
     repeat' (first|exact trivial|((first|refine kL ?_|(refine ⟨fun hb=>?_,fun hb=>?_⟩<;>(try simp only [nrm] at hb)<;>(try (first|(exfalso;omega)|contradiction|exact kB hb)))|refine kW cfg_ok ?_|refine kC ?_|refine bdA ?_|refine bd2 ?_|refine bdR ?_|refine bdL ?_)<;>(conv=>whnf))|(refine And.intro ?_ ?_;rotate_left;(conv=>whnf);rotate_right))
     all_goals
       refine Runs.loopS cfg_ok (σ:=Nat × Bool) [0,3,5,6,26,27,28,68,69,70] (fun (j,b)=>[.vec .order T,.vec .order S,.ptr 10 0,bol b,.vec .order S,i64 S.length,i64 k,.vec .order T,i64 T.length,i64 j]) (fun _=>[(10,.box (cells .order (elt .order S k)))]) (fun (j,b)=>j ≤ T.length ∧ HasO (· = elt .order S k) T j b) (fun (j,b)=>T.length - j) (0,false) ⟨by omega,HasO.zero⟩ ?_ ?_
       · conv=>whnf
         repeat' (first|exact trivial|((first|refine kL ?_|(refine ⟨fun hb=>?_,fun hb=>?_⟩<;>(try simp only [nrm] at hb)<;>(try (first|(exfalso;omega)|contradiction|exact kB hb)))|refine kW cfg_ok ?_|refine kC ?_|refine bdA ?_|refine bd2 ?_|refine bdR ?_|refine bdL ?_)<;>(conv=>whnf))|(refine And.intro ?_ ?_;rotate_left;(conv=>whnf);rotate_right))
         all_goals first|rfl|trace_state
       · rintro ⟨j,b⟩ ⟨hj,hB⟩
         dsimp only
         by_cases hlj : j < T.length
         · cases b with
           | true =>
             conv=>whnf
             repeat' (first|exact trivial|((first|refine kL ?_|(refine ⟨fun hb=>?_,fun hb=>?_⟩<;>(try simp only [nrm] at hb)<;>(try (first|(exfalso;omega)|contradiction|exact kB hb)))|refine kW cfg_ok ?_|refine kC ?_|refine bdA ?_|refine bd2 ?_|refine bdR ?_|refine bdL ?_)<;>(conv=>whnf))|(refine And.intro ?_ ?_;rotate_left;(conv=>whnf);rotate_right))
             refine .to (j + 1,true) ⟨by dsimp only;omega,HasO.keep⟩ (by dsimp only;omega) ?_
             conv=>whnf
             repeat' (first|exact trivial|((first|refine kL ?_|(refine ⟨fun hb=>?_,fun hb=>?_⟩<;>(try simp only [nrm] at hb)<;>(try (first|(exfalso;omega)|contradiction|exact kB hb)))|refine kW cfg_ok ?_|refine kC ?_|refine bdA ?_|refine bd2 ?_|refine bdR ?_|refine bdL ?_)<;>(conv=>whnf))|(refine And.intro ?_ ?_;rotate_left;(conv=>whnf);rotate_right))
             all_goals first|rfl|trace_state
           | false =>
             have hB2 : HasO (· = elt .order S k) T (j + 1) (eqOB (elt .order T j) (elt .order S k)):=hB.next hlj (eqOB_of hlj)
             conv=>whnf
             repeat' (first|exact trivial|((first|refine kL ?_|(refine ⟨fun hb=>?_,fun hb=>?_⟩<;>(try simp only [nrm] at hb)<;>(try (first|(exfalso;omega)|contradiction|exact kB hb)))|refine kW cfg_ok ?_|refine kC ?_|refine bdA ?_|refine bd2 ?_|refine bdR ?_|refine bdL ?_)<;>(conv=>whnf))|(refine And.intro ?_ ?_;rotate_left;(conv=>whnf);rotate_right))
             refine .to (j + 1,eqOB (elt .order T j) (elt .order S k)) ⟨by dsimp only;omega,hB2⟩ (by dsimp only;omega) ?_
             conv=>whnf
             repeat' (first|exact trivial|((first|refine kL ?_|(refine ⟨fun hb=>?_,fun hb=>?_⟩<;>(try simp only [nrm] at hb)<;>(try (first|(exfalso;omega)|contradiction|exact kB hb)))|refine kW cfg_ok ?_|refine kC ?_|refine bdA ?_|refine bd2 ?_|refine bdR ?_|refine bdL ?_)<;>(conv=>whnf))|(refine And.intro ?_ ?_;rotate_left;(conv=>whnf);rotate_right))
             all_goals first|rfl|trace_state
         · obtain rfl : j = T.length:=by omega
           have hb1:=hB.all ⟨_,hin,rfl⟩
           subst hb1
           conv=>whnf
           repeat' (first|exact trivial|((first|refine kL ?_|(refine ⟨fun hb=>?_,fun hb=>?_⟩<;>(try simp only [nrm] at hb)<;>(try (first|(exfalso;omega)|contradiction|exact kB hb)))|refine kW cfg_ok ?_|refine kC ?_|refine bdA ?_|refine bd2 ?_|refine bdR ?_|refine bdL ?_)<;>(conv=>whnf))|(refine And.intro ?_ ?_;rotate_left;(conv=>whnf);rotate_right))
           refine .to (k + 1) (by omega) (by omega) ?_
           conv=>whnf
           repeat' (first|exact trivial|((first|refine kL ?_|(refine ⟨fun hb=>?_,fun hb=>?_⟩<;>(try simp only [nrm] at hb)<;>(try (first|(exfalso;omega)|contradiction|exact kB hb)))|refine kW cfg_ok ?_|refine kC ?_|refine bdA ?_|refine bd2 ?_|refine bdR ?_|refine bdL ?_)<;>(conv=>whnf))|(refine And.intro ?_ ?_;rotate_left;(conv=>whnf);rotate_right))
           all_goals first|rfl|trace_state
   · obtain rfl : k = S.length:=by omega
     clear hrise hmem h1 h2 h3 hT
     conv=>whnf
     repeat' (first|exact trivial|((first|refine kL ?_|(refine ⟨fun hb=>?_,fun hb=>?_⟩<;>(try simp only [nrm] at hb)<;>(try (first|(exfalso;omega)|contradiction|exact kB hb)))|refine kW cfg_ok ?_|refine kC ?_|refine bdA ?_|refine bd2 ?_|refine bdR ?_|refine bdL ?_)<;>(conv=>whnf))|(refine And.intro ?_ ?_;rotate_left;(conv=>whnf);rotate_right))
     refine Runs.loopS cfg_ok (σ:=Nat) [3,84,85,86] (fun k=>[.vec .order S,.vec .order T,i64 T.length,i64 k]) (fun _=>[]) (fun k=>k ≤ T.length) (fun k=>T.length - k) 0 (by omega) ?_ ?_
     · conv=>whnf
       repeat' (first|exact trivial|((first|refine kL ?_|(refine ⟨fun hb=>?_,fun hb=>?_⟩<;>(try simp only [nrm] at hb)<;>(try (first|(exfalso;omega)|contradiction|exact kB hb)))|refine kW cfg_ok ?_|refine kC ?_|refine bdA ?_|refine bd2 ?_|refine bdR ?_|refine bdL ?_)<;>(conv=>whnf))|(refine And.intro ?_ ?_;rotate_left;(conv=>whnf);rotate_right))
       all_goals first|rfl|trace_state
     · intro k hk
       by_cases hlt : k < T.length
       · have hin:=hhas _ (elt_mem (t:=.order) hlt)
         conv=>whnf
         repeat' (first|exact trivial|((first|refine kL ?_|(refine ⟨fun hb=>?_,fun hb=>?_⟩<;>(try simp only [nrm] at hb)<;>(try (first|(exfalso;omega)|contradiction|exact kB hb)))|refine kW cfg_ok ?_|refine kC ?_|refine bdA ?_|refine bd2 ?_|refine bdR ?_|refine bdL ?_)<;>(conv=>whnf))|(refine And.intro ?_ ?_;rotate_left;(conv=>whnf);rotate_right))
         refine Runs.loopS cfg_ok (σ:=Nat × Bool) [3,10,11,84,85,86,90,91,92] (fun (j,b)=>[.vec .order S,.ptr 20 0,bol b,.vec .order T,i64 T.length,i64 k,.vec .order S,i64 S.length,i64 j]) (fun _=>[(20,.box (cells .order (elt .order T k)))])
           (fun (j,b)=>j ≤ S.length ∧ HasO (fun z=>z.player = (elt .order T k).player ∧ z.seq = (elt .order T k).seq) S j b) (fun (j,b)=>S.length - j) (0,false) ⟨by omega,HasO.zero⟩ ?_ ?_
         · conv=>whnf
           repeat' (first|exact trivial|((first|refine kL ?_|(refine ⟨fun hb=>?_,fun hb=>?_⟩<;>(try simp only [nrm] at hb)<;>(try (first|(exfalso;omega)|contradiction|exact kB hb)))|refine kW cfg_ok ?_|refine kC ?_|refine bdA ?_|refine bd2 ?_|refine bdR ?_|refine bdL ?_)<;>(conv=>whnf))|(refine And.intro ?_ ?_;rotate_left;(conv=>whnf);rotate_right))
           all_goals first|rfl|trace_state
         · rintro ⟨j,b⟩ ⟨hj,hB⟩
           dsimp only
           by_cases hlj : j < S.length
           · cases b with
             | true =>
               conv=>whnf
               repeat' (first|exact trivial|((first|refine kL ?_|(refine ⟨fun hb=>?_,fun hb=>?_⟩<;>(try simp only [nrm] at hb)<;>(try (first|(exfalso;omega)|contradiction|exact kB hb)))|refine kW cfg_ok ?_|refine kC ?_|refine bdA ?_|refine bd2 ?_|refine bdR ?_|refine bdL ?_)<;>(conv=>whnf))|(refine And.intro ?_ ?_;rotate_left;(conv=>whnf);rotate_right))
               refine .to (j + 1,true) ⟨by dsimp only;omega,HasO.keep⟩ (by dsimp only;omega) ?_
               conv=>whnf
               repeat' (first|exact trivial|((first|refine kL ?_|(refine ⟨fun hb=>?_,fun hb=>?_⟩<;>(try simp only [nrm] at hb)<;>(try (first|(exfalso;omega)|contradiction|exact kB hb)))|refine kW cfg_ok ?_|refine kC ?_|refine bdA ?_|refine bd2 ?_|refine bdR ?_|refine bdL ?_)<;>(conv=>whnf))|(refine And.intro ?_ ?_;rotate_left;(conv=>whnf);rotate_right))
               all_goals first|rfl|trace_state
             | false =>
               conv=>whnf
               repeat' (first|exact trivial|((first|refine kL ?_|(refine ⟨fun hb=>?_,fun hb=>?_⟩<;>(try simp only [nrm] at hb)<;>(try (first|(exfalso;omega)|contradiction|exact kB hb)))|refine kW cfg_ok ?_|refine kC ?_|refine bdA ?_|refine bd2 ?_|refine bdR ?_|refine bdL ?_)<;>(conv=>whnf))|(refine And.intro ?_ ?_;rotate_left;(conv=>whnf);rotate_right))
               · refine .to (j + 1,(elt .order S j).seq == (elt .order T k).seq) ⟨by dsimp only;omega,hB.next hlj (fun h=>by rw [h.2];simp)⟩ (by dsimp only;omega) ?_
                 conv=>whnf
                 repeat' (first|exact trivial|((first|refine kL ?_|(refine ⟨fun hb=>?_,fun hb=>?_⟩<;>(try simp only [nrm] at hb)<;>(try (first|(exfalso;omega)|contradiction|exact kB hb)))|refine kW cfg_ok ?_|refine kC ?_|refine bdA ?_|refine bd2 ?_|refine bdR ?_|refine bdL ?_)<;>(conv=>whnf))|(refine And.intro ?_ ?_;rotate_left;(conv=>whnf);rotate_right))
                 all_goals first|rfl|trace_state
               · refine .to (j + 1,false) ⟨by dsimp only;omega,hB.next hlj (fun h=>absurd h.1 hb)⟩ (by dsimp only;omega) ?_
                 conv=>whnf
                 repeat' (first|exact trivial|((first|refine kL ?_|(refine ⟨fun hb=>?_,fun hb=>?_⟩<;>(try simp only [nrm] at hb)<;>(try (first|(exfalso;omega)|contradiction|exact kB hb)))|refine kW cfg_ok ?_|refine kC ?_|refine bdA ?_|refine bd2 ?_|refine bdR ?_|refine bdL ?_)<;>(conv=>whnf))|(refine And.intro ?_ ?_;rotate_left;(conv=>whnf);rotate_right))
                 all_goals first|rfl|trace_state
           · obtain rfl : j = S.length:=by omega
             have hb1:=hB.all hin
             subst hb1
             conv=>whnf
             repeat' (first|exact trivial|((first|refine kL ?_|(refine ⟨fun hb=>?_,fun hb=>?_⟩<;>(try simp only [nrm] at hb)<;>(try (first|(exfalso;omega)|contradiction|exact kB hb)))|refine kW cfg_ok ?_|refine kC ?_|refine bdA ?_|refine bd2 ?_|refine bdR ?_|refine bdL ?_)<;>(conv=>whnf))|(refine And.intro ?_ ?_;rotate_left;(conv=>whnf);rotate_right))
             refine .to (k + 1) (by omega) (by omega) ?_
             conv=>whnf
             repeat' (first|exact trivial|((first|refine kL ?_|(refine ⟨fun hb=>?_,fun hb=>?_⟩<;>(try simp only [nrm] at hb)<;>(try (first|(exfalso;omega)|contradiction|exact kB hb)))|refine kW cfg_ok ?_|refine kC ?_|refine bdA ?_|refine bd2 ?_|refine bdR ?_|refine bdL ?_)<;>(conv=>whnf))|(refine And.intro ?_ ?_;rotate_left;(conv=>whnf);rotate_right))
             all_goals first|rfl|trace_state
       · obtain rfl : k = T.length:=by omega
         conv=>whnf
         repeat' (first|exact trivial|((first|refine kL ?_|(refine ⟨fun hb=>?_,fun hb=>?_⟩<;>(try simp only [nrm] at hb)<;>(try (first|(exfalso;omega)|contradiction|exact kB hb)))|refine kA haw ?_|refine kD haw ?_|refine kW cfg_ok ?_|refine kC ?_|refine bdA ?_|refine bd2 ?_|refine bdR ?_|refine bdL ?_)<;>(conv=>whnf))|(refine And.intro ?_ ?_;rotate_left;(conv=>whnf);rotate_right))
         all_goals first|rfl|trace_state
end Go.Proofs.YtkojlembanldcaaGreat
