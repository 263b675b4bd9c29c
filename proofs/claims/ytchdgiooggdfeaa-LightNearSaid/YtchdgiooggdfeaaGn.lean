/- light.shine. -/
import Derived.Test.YtchdgiooggdfeaaGm
set_option linter.unusedSimpArgs false
set_option linter.unusedVariables false
set_option maxRecDepth 100000
set_option maxHeartbeats 16000000
namespace Go.Proofs.Ytchdgiooggdfeaa
open Go Go.RowKit Eng
set_option maxHeartbeats 40000000 in
theorem fshine_ev (fr to_ la : Int) (I : PF) (nI : Nat) (h1 : 0 ≤ fr) (h2 : fr ≤ to_) (h3 : to_ < 128) (h4 : 0 ≤ la) (h5 : la < 128) :
   Ev1 Try.prog 61 [.ptr 0 0] (fldM 0 1 3 fr to_ la I noF nI 0) (.tup [])
     (fldM 0 1 3 fr to_ la I (shineF I fr to_ la (srcF I fr la (to_ + 1 - fr).toNat).1 (srcF I fr la (to_ + 1 - fr).toNat).2 15).1.1 nI (shineF I fr to_ la (srcF I fr la (to_ + 1 - fr).toNat).1 (srcF I fr la (to_ + 1 - fr).toNat).2 15).1.2):=by
 have hs:=fsources_ev fr to_ la I nI h1 h2 h3 h4 h5
 obtain ⟨nx,hnx⟩ : ∃ nx : Nat,nx = (to_ + 1 - fr).toNat:=⟨_,rfl⟩
 have hi5 : ∀ c ∈ (srcF I fr la nx).1,inF fr to_ la c:=fun c hc=>by
   have:=(srcF_15 I fr la h4 c nx).1 hc
   unfold inF;omega
 have hi4 : ∀ c ∈ (srcF I fr la nx).2,inF fr to_ la c:=fun c hc=>by
   have:=(srcF_14 I fr la h4 c nx).1 hc
   unfold inF;omega
 have hl:=srcF_len I fr la nx
 have a3 : nx * (la + 1).toNat ≤ 128 * 128:=Nat.mul_le_mul (by omega) (by omega)
 rw [← hnx] at hs ⊢
 have hin:=shineF_in (I:=I) hi5 hi4
 have hbig:=fun k hk=>shineF_big (I:=I) (fr:=fr) (to_:=to_) (la:=la) (l15:=(srcF I fr la nx).1) (l14:=(srcF I fr la nx).2) h1 h3 h5 hi5 hi4 (by omega) (by omega) (k:=k) hk
 have hsu:=shineF_succ I fr to_ la (srcF I fr la nx).1 (srcF I fr la nx).2
 have hz : shineF I fr to_ la (srcF I fr la nx).1 (srcF I fr la nx).2 0 = ((noF,0),(srcF I fr la nx).1):=rfl
 have hl4 : (srcF I fr la nx).2.length ≤ 20000:=by omega
 generalize (srcF I fr la nx).2 = l14 at *
 generalize (srcF I fr la nx).1 = l15 at *
 generalize shineF I fr to_ la l15 l14 = sh at *
 refine Ev1.of_fin cfg_ok Try.func61 rfl (nt:=92) rfl rfl rfl ?_
 conv=>whnf
 repeat' (first|exact trivial|((first|refine kL ?_|(refine ⟨fun hb=>?_,fun hb=>?_⟩<;>(try simp only [nrm] at hb)<;>(try (first|(exfalso;omega)|contradiction|exact kB hb)))|refine kE hs [(0,0),(1,1),(3,3),(8,200004),(390001,350201),(390003,350203)] rfl ?_|refine kF hs [(0,0),(1,1),(3,3),(8,200004),(390001,350201),(390003,350203)] rfl ?_|refine kW cfg_ok ?_|refine kC ?_|refine bdA ?_|refine bd2 ?_|refine bdR ?_|refine bdL ?_)<;>(conv=>whnf))|(refine And.intro ?_ ?_;rotate_left;(conv=>whnf);rotate_right))
 all_goals first|omega|exact List.take_length|skip
 refine Runs.loopQ cfg_ok (σ:=Nat) [0,2,3] (fun k=>[.ptr 0 0,.ptr 200004 0,i64 (15 - (k : Int))])
   (fun k=>(200004,.box (byR k (.own .pos (350201 + 2 * k) 0 (sh k).2.length none) (.own .pos (350203 + 2 * k) 0 (n0F l14 k).length none))) :: (350201 + 2 * k,.row .pos (sh k).2) :: n0M l14 k (fldM 0 1 3 fr to_ la I (sh k).1.1 nI (sh k).1.2))
   (fun k=>k ≤ 15) (fun k=>15 - k) 0 (by omega) ?_ ?_
 · conv=>whnf
   repeat' (first|exact trivial|((first|refine kL ?_|(refine ⟨fun hb=>?_,fun hb=>?_⟩<;>(try simp only [nrm] at hb)<;>(try (first|(exfalso;omega)|contradiction|exact kB hb)))|refine kW cfg_ok ?_|refine kC ?_|refine bdA ?_|refine bd2 ?_|refine bdR ?_|refine bdL ?_)<;>(conv=>whnf))|(refine And.intro ?_ ?_;rotate_left;(conv=>whnf);rotate_right))
   all_goals first|rfl|omega|(simp;done)|exact List.take_length|(rw [hz];exact List.take_length)|(rw [hz];done)|(rw [hz];exact rfl)|trace_state
 · intro k hk N1 hN1 hE1 hT1
   have hcur:=hin k
   have hbc:=hbig k hk
   have hsk:=hsu k
   have hn0 : (n0F l14 k).length ≤ 20000:=by
     cases k with
     | zero=>exact hl4
     | succ k=>exact Nat.zero_le _
   have e : k = 0 ∨ k = 1 ∨ k = 2 ∨ k = 3 ∨ k = 4 ∨ k = 5 ∨ k = 6 ∨ k = 7 ∨ k = 8 ∨ k = 9 ∨ k = 10 ∨ k = 11 ∨ k = 12 ∨ k = 13 ∨ k = 14 ∨ k = 15:=by omega
   rcases e with rfl|rfl|rfl|rfl|rfl|rfl|rfl|rfl|rfl|rfl|rfl|rfl|rfl|rfl|rfl|rfl
   · generalize (sh 0).2 = cur at *
     generalize (sh 0).1 = F0 at *
     have hr0 : litR I fr to_ la (15 - ((0 : Nat) : Int)) cur (F0,n0F l14 0) 0 = (F0,n0F l14 0):=rfl
     have hrs:=fun j hj=>litR_succ I fr to_ la (15 - ((0 : Nat) : Int)) cur (F0,n0F l14 0) (j:=j) hj
     have hrl:=fun j hj=>@litR_big I fr to_ la (15 - ((0 : Nat) : Int)) cur (F0,n0F l14 0) h1 h3 h5 (by omega) hcur j hj
     dsimp only at hrl
     generalize litR I fr to_ la (15 - ((0 : Nat) : Int)) cur (F0,n0F l14 0) = R at *
     conv=>whnf
     repeat' (first|exact trivial|((first|refine kL ?_|(refine ⟨fun hb=>?_,fun hb=>?_⟩<;>(try simp only [nrm] at hb)<;>(try (first|(exfalso;omega)|contradiction|exact kB hb)))|refine kW cfg_ok ?_|refine kC ?_|refine bdA ?_|refine bd2 ?_|refine bdR ?_|refine bdL ?_)<;>(conv=>whnf))|(refine And.intro ?_ ?_;rotate_left;(conv=>whnf);rotate_right))
     all_goals first|omega|exact List.take_length|skip
     refine Runs.loopQ cfg_ok (σ:=Nat) [0,2,3,4] (fun j=>[.ptr 0 0,.ptr 200004 0,i64 (15 - ((0 : Nat) : Int)),i64 (j : Nat)])
       (fun j=>(200004,.box (byR 0 (.own .pos (350201 + 2 * 0) 0 cur.length none) (.own .pos (350203 + 2 * 0) 0 (R j).2.length none))) :: (350201 + 2 * 0,.row .pos cur) :: (350203 + 2 * 0,.row .pos (R j).2) :: fldM 0 1 3 fr to_ la I (R j).1.1 nI (R j).1.2)
       (fun j=>j ≤ cur.length) (fun j=>cur.length - j) 0 (by omega) ?_ ?_
     · conv=>whnf
       repeat' (first|exact trivial|((first|refine kL ?_|(refine ⟨fun hb=>?_,fun hb=>?_⟩<;>(try simp only [nrm] at hb)<;>(try (first|(exfalso;omega)|contradiction|exact kB hb)))|refine kW cfg_ok ?_|refine kC ?_|refine bdA ?_|refine bd2 ?_|refine bdR ?_|refine bdL ?_)<;>(conv=>whnf))|(refine And.intro ?_ ?_;rotate_left;(conv=>whnf);rotate_right))
       all_goals first|rfl|omega|(simp;done)|(rw [hr0];done)|(rw [hr0];exact List.take_length)|(rw [hr0];exact rfl)|trace_state
     · intro j hj N2 hN2 hE2 hT2
       by_cases hlt : j < cur.length
       · have hrj:=hrs j hlt
         have hrn:=hrl j hj
         have hc : inF fr to_ la (elt .pos cur (j + 0)):=hcur _ (List.mem_of_getElem? (elt_get .pos cur j hlt))
         have hci : inF fr to_ la (elt .pos cur (((j : Nat) : Int).toNat + 0)):=hc
         unfold inF at hc hci
         by_cases hon : 0 < getZ ((R j).1.1 (elt .pos cur (j + 0)).x (elt .pos cur (j + 0)).y)
         · rw [litC_on (c:=elt .pos cur j) hon] at hrj
           conv=>whnf
           repeat' (first|exact trivial|((first|refine kL ?_|(refine ⟨fun hb=>?_,fun hb=>?_⟩<;>(try simp only [nrm] at hb)<;>(try (first|(exfalso;omega)|contradiction|exact kB hb)))|refine kW cfg_ok ?_|refine kC ?_|refine bdA ?_|refine bd2 ?_|refine bdR ?_|refine bdL ?_)<;>(conv=>whnf))|(refine And.intro ?_ ?_;rotate_left;(conv=>whnf);rotate_right))
           all_goals first|omega|exact List.take_length|skip
           refine hN2 _ _ ?_
           conv=>whnf
           refine .to (j + 1) (by omega) (by omega) ?_
           conv=>whnf
           repeat' (first|exact trivial|((first|refine kL ?_|(refine ⟨fun hb=>?_,fun hb=>?_⟩<;>(try simp only [nrm] at hb)<;>(try (first|(exfalso;omega)|contradiction|exact kB hb)))|refine kW cfg_ok ?_|refine kC ?_|refine bdA ?_|refine bd2 ?_|refine bdR ?_|refine bdL ?_)<;>(conv=>whnf))|(refine And.intro ?_ ?_;rotate_left;(conv=>whnf);rotate_right))
           all_goals first|rfl|omega|exact List.take_length|(rw [hrj];done)|(rw [hrj];exact rfl)|(rw [hrj];exact List.take_length)|trace_state
         · rw [litC_off (c:=elt .pos cur j) hon] at hrj
           conv=>whnf
           repeat' (first|exact trivial|((first|refine kL ?_|(refine ⟨fun hb=>?_,fun hb=>?_⟩<;>(try simp only [nrm] at hb)<;>(try (first|(exfalso;omega)|contradiction|exact kB hb)))|refine kW cfg_ok ?_|refine kC ?_|refine bdA ?_|refine bd2 ?_|refine bdR ?_|refine bdL ?_)<;>(conv=>whnf))|(refine And.intro ?_ ?_;rotate_left;(conv=>whnf);rotate_right))
           all_goals first|omega|exact List.take_length|skip
           have hal:=fun d hd=>@askM_len I fr to_ la (putM (R j).1 (elt .pos cur (j + 0)).x (elt .pos cur (j + 0)).y (15 - ((0 : Nat) : Int))).1 (elt .pos cur (j + 0)) (R j).2 d hd
           have has:=fun d hd=>askM_succ I fr to_ la (putM (R j).1 (elt .pos cur (j + 0)).x (elt .pos cur (j + 0)).y (15 - ((0 : Nat) : Int))).1 (elt .pos cur (j + 0)) (R j).2 (d:=d) hd
           have ha0 : askM I fr to_ la (putM (R j).1 (elt .pos cur (j + 0)).x (elt .pos cur (j + 0)).y (15 - ((0 : Nat) : Int))).1 (elt .pos cur (j + 0)) (R j).2 0 = (R j).2:=rfl
           have hrj1 : (R (j + 1)).2 = askM I fr to_ la (putM (R j).1 (elt .pos cur (j + 0)).x (elt .pos cur (j + 0)).y (15 - ((0 : Nat) : Int))).1 (elt .pos cur (j + 0)) (R j).2 4:=by rw [hrj];rfl
           have hrj2 : (R (j + 1)).1 = putM (R j).1 (elt .pos cur (j + 0)).x (elt .pos cur (j + 0)).y (15 - ((0 : Nat) : Int)):=by rw [hrj];rfl
           clear hrj
           generalize hA : askM I fr to_ la (putM (R j).1 (elt .pos cur (j + 0)).x (elt .pos cur (j + 0)).y (15 - ((0 : Nat) : Int))).1 (elt .pos cur (j + 0)) (R j).2 = A at *
           generalize hP : putM (R j).1 (elt .pos cur (j + 0)).x (elt .pos cur (j + 0)).y (15 - ((0 : Nat) : Int)) = P1 at *
           refine Runs.loopQ cfg_ok (σ:=Nat) [0,2,3,4,66,67] (fun d=>[.ptr 0 0,.ptr 200004 0,i64 (15 - ((0 : Nat) : Int)),i64 (j : Nat),.agg [i64 ((elt .pos cur (j + 0)).x - 1),i64 (elt .pos cur (j + 0)).y,i64 ((elt .pos cur (j + 0)).x + 1),i64 (elt .pos cur (j + 0)).y,i64 (elt .pos cur (j + 0)).x,i64 ((elt .pos cur (j + 0)).y - 1),i64 (elt .pos cur (j + 0)).x,i64 ((elt .pos cur (j + 0)).y + 1)],i64 (d : Nat)])
             (fun d=>(200004,.box (byR 0 (.own .pos (350201 + 2 * 0) 0 cur.length none) (.own .pos (350203 + 2 * 0) 0 (A d).length none))) :: (350201 + 2 * 0,.row .pos cur) :: (350203 + 2 * 0,.row .pos (A d)) :: fldM 0 1 3 fr to_ la I P1.1 nI P1.2)
             (fun d=>d ≤ 4) (fun d=>4 - d) 0 (by omega) ?_ ?_
           · conv=>whnf
             repeat' (first|exact trivial|((first|refine kL ?_|(refine ⟨fun hb=>?_,fun hb=>?_⟩<;>(try simp only [nrm] at hb)<;>(try (first|(exfalso;omega)|contradiction|exact kB hb)))|refine kW cfg_ok ?_|refine kC ?_|refine bdA ?_|refine bd2 ?_|refine bdR ?_|refine bdL ?_)<;>(conv=>whnf))|(refine And.intro ?_ ?_;rotate_left;(conv=>whnf);rotate_right))
             all_goals first|rfl|omega|(simp;done)|(rw [ha0];done)|(rw [ha0];exact List.take_length)|(rw [ha0];exact rfl)|(rw [← hP];exact rfl)|(rw [← hP,ha0];exact rfl)|trace_state
           · intro d hd N3 hN3 hE3 hT3
             by_cases hld : d < 4
             · have hbd:=dirD_bd hld
               have hop:=fopen_ev fr to_ la I P1.1 nI P1.2 (addP (elt .pos cur (j + 0)) (dirD d))
               have hade:=has d hld
               have hadl:=hal d (by omega)
               conv=>whnf
               repeat' (first|exact trivial|((first|refine kL ?_|(refine ⟨fun hb=>?_,fun hb=>?_⟩<;>(try simp only [nrm] at hb)<;>(try (first|(exfalso;omega)|contradiction|exact kB hb)))|refine kE hop [(0,0),(1,1),(3,3)] rfl ?_|refine kF hop [(0,0),(1,1),(3,3)] rfl ?_|(refine dir_pick hld rfl rfl ?_)|refine kW cfg_ok ?_|refine kC ?_|refine bdA ?_|refine bd2 ?_|refine bdR ?_|refine bdL ?_)<;>(conv=>whnf))|(refine And.intro ?_ ?_;rotate_left;(conv=>whnf);rotate_right))
               all_goals first|omega|skip
               all_goals
                 first
                   | rw [push_yes (by assumption) (by assumption)] at hade
                   | rw [push_shut (by assumption)] at hade
                   | rw [push_lit (by assumption)] at hade
                 refine hN3 _ _ ?_
                 conv=>whnf
                 refine .to (d + 1) (by omega) (by omega) ?_
                 conv=>whnf
                 repeat' (first|exact trivial|((first|refine kL ?_|(refine ⟨fun hb=>?_,fun hb=>?_⟩<;>(try simp only [nrm] at hb)<;>(try (first|(exfalso;omega)|contradiction|exact kB hb)))|refine kW cfg_ok ?_|refine kC ?_|refine bdA ?_|refine bd2 ?_|refine bdR ?_|refine bdL ?_)<;>(conv=>whnf))|(refine And.intro ?_ ?_;rotate_left;(conv=>whnf);rotate_right))
                 all_goals first|rfl|omega|exact List.take_length|(rw [hade];done)|(rw [hade];exact rfl)|(rw [hade];exact List.take_length)|(rw [hade];exact grow_pos _ (addP (elt .pos cur (j + 0)) (dirD d)))|(rw [hade];simp;done)|trace_state
             · obtain rfl : d = 4:=by omega
               conv=>whnf
               repeat' (first|exact trivial|((first|refine kL ?_|(refine ⟨fun hb=>?_,fun hb=>?_⟩<;>(try simp only [nrm] at hb)<;>(try (first|(exfalso;omega)|contradiction|exact kB hb)))|refine kW cfg_ok ?_|refine kC ?_|refine bdA ?_|refine bd2 ?_|refine bdR ?_|refine bdL ?_)<;>(conv=>whnf))|(refine And.intro ?_ ?_;rotate_left;(conv=>whnf);rotate_right))
               all_goals first|omega|skip
               refine hE3 _ _ _ ?_
               conv=>whnf
               repeat' (first|exact trivial|((first|refine kL ?_|(refine ⟨fun hb=>?_,fun hb=>?_⟩<;>(try simp only [nrm] at hb)<;>(try (first|(exfalso;omega)|contradiction|exact kB hb)))|refine kW cfg_ok ?_|refine kC ?_|refine bdA ?_|refine bd2 ?_|refine bdR ?_|refine bdL ?_)<;>(conv=>whnf))|(refine And.intro ?_ ?_;rotate_left;(conv=>whnf);rotate_right))
               all_goals first|omega|skip
               refine hN2 _ _ ?_
               conv=>whnf
               refine .to (j + 1) (by omega) (by omega) ?_
               conv=>whnf
               repeat' (first|exact trivial|((first|refine kL ?_|(refine ⟨fun hb=>?_,fun hb=>?_⟩<;>(try simp only [nrm] at hb)<;>(try (first|(exfalso;omega)|contradiction|exact kB hb)))|refine kW cfg_ok ?_|refine kC ?_|refine bdA ?_|refine bd2 ?_|refine bdR ?_|refine bdL ?_)<;>(conv=>whnf))|(refine And.intro ?_ ?_;rotate_left;(conv=>whnf);rotate_right))
               all_goals first|rfl|omega|exact List.take_length|(rw [hrj1];done)|(rw [hrj2];done)|(rw [hrj1];exact List.take_length)|(rw [hrj1,hrj2];exact rfl)|trace_state
       · obtain rfl : j = cur.length:=by omega
         conv=>whnf
         repeat' (first|exact trivial|((first|refine kL ?_|(refine ⟨fun hb=>?_,fun hb=>?_⟩<;>(try simp only [nrm] at hb)<;>(try (first|(exfalso;omega)|contradiction|exact kB hb)))|refine kW cfg_ok ?_|refine kC ?_|refine bdA ?_|refine bd2 ?_|refine bdR ?_|refine bdL ?_)<;>(conv=>whnf))|(refine And.intro ?_ ?_;rotate_left;(conv=>whnf);rotate_right))
         all_goals first|omega|exact List.take_length|skip
         refine hE2 _ _ _ ?_
         conv=>whnf
         repeat' (first|exact trivial|((first|refine kL ?_|(refine ⟨fun hb=>?_,fun hb=>?_⟩<;>(try simp only [nrm] at hb)<;>(try (first|(exfalso;omega)|contradiction|exact kB hb)))|refine kW cfg_ok ?_|refine kC ?_|refine bdA ?_|refine bd2 ?_|refine bdR ?_|refine bdL ?_)<;>(conv=>whnf))|(refine And.intro ?_ ?_;rotate_left;(conv=>whnf);rotate_right))
         all_goals first|omega|exact List.take_length|skip
         refine hN1 _ _ ?_
         conv=>whnf
         refine .to (0 + 1) (by omega) (by omega) ?_
         conv=>whnf
         repeat' (first|exact trivial|((first|refine kL ?_|(refine ⟨fun hb=>?_,fun hb=>?_⟩<;>(try simp only [nrm] at hb)<;>(try (first|(exfalso;omega)|contradiction|exact kB hb)))|refine kW cfg_ok ?_|refine kC ?_|refine bdA ?_|refine bd2 ?_|refine bdR ?_|refine bdL ?_)<;>(conv=>whnf))|(refine And.intro ?_ ?_;rotate_left;(conv=>whnf);rotate_right))
         all_goals first|rfl|omega|(rw [hsk];done)|(rw [hsk];exact rfl)|(rw [hsk];exact List.take_length)|trace_state
   · generalize (sh 1).2 = cur at *
     generalize (sh 1).1 = F0 at *
     have hr0 : litR I fr to_ la (15 - ((1 : Nat) : Int)) cur (F0,n0F l14 1) 0 = (F0,n0F l14 1):=rfl
     have hrs:=fun j hj=>litR_succ I fr to_ la (15 - ((1 : Nat) : Int)) cur (F0,n0F l14 1) (j:=j) hj
     have hrl:=fun j hj=>@litR_big I fr to_ la (15 - ((1 : Nat) : Int)) cur (F0,n0F l14 1) h1 h3 h5 (by omega) hcur j hj
     dsimp only at hrl
     generalize litR I fr to_ la (15 - ((1 : Nat) : Int)) cur (F0,n0F l14 1) = R at *
     conv=>whnf
     repeat' (first|exact trivial|((first|refine kL ?_|(refine ⟨fun hb=>?_,fun hb=>?_⟩<;>(try simp only [nrm] at hb)<;>(try (first|(exfalso;omega)|contradiction|exact kB hb)))|refine kW cfg_ok ?_|refine kC ?_|refine bdA ?_|refine bd2 ?_|refine bdR ?_|refine bdL ?_)<;>(conv=>whnf))|(refine And.intro ?_ ?_;rotate_left;(conv=>whnf);rotate_right))
     all_goals first|omega|exact List.take_length|skip
     refine Runs.loopQ cfg_ok (σ:=Nat) [0,2,3,4] (fun j=>[.ptr 0 0,.ptr 200004 0,i64 (15 - ((1 : Nat) : Int)),i64 (j : Nat)])
       (fun j=>(200004,.box (byR 1 (.own .pos (350201 + 2 * 1) 0 cur.length none) (.own .pos (350203 + 2 * 1) 0 (R j).2.length none))) :: (350201 + 2 * 1,.row .pos cur) :: (350203 + 2 * 1,.row .pos (R j).2) :: fldM 0 1 3 fr to_ la I (R j).1.1 nI (R j).1.2)
       (fun j=>j ≤ cur.length) (fun j=>cur.length - j) 0 (by omega) ?_ ?_
     · conv=>whnf
       repeat' (first|exact trivial|((first|refine kL ?_|(refine ⟨fun hb=>?_,fun hb=>?_⟩<;>(try simp only [nrm] at hb)<;>(try (first|(exfalso;omega)|contradiction|exact kB hb)))|refine kW cfg_ok ?_|refine kC ?_|refine bdA ?_|refine bd2 ?_|refine bdR ?_|refine bdL ?_)<;>(conv=>whnf))|(refine And.intro ?_ ?_;rotate_left;(conv=>whnf);rotate_right))
       all_goals first|rfl|omega|(simp;done)|(rw [hr0];done)|(rw [hr0];exact List.take_length)|(rw [hr0];exact rfl)|trace_state
     · intro j hj N2 hN2 hE2 hT2
       by_cases hlt : j < cur.length
       · have hrj:=hrs j hlt
         have hrn:=hrl j hj
         have hc : inF fr to_ la (elt .pos cur (j + 0)):=hcur _ (List.mem_of_getElem? (elt_get .pos cur j hlt))
         have hci : inF fr to_ la (elt .pos cur (((j : Nat) : Int).toNat + 0)):=hc
         unfold inF at hc hci
         by_cases hon : 0 < getZ ((R j).1.1 (elt .pos cur (j + 0)).x (elt .pos cur (j + 0)).y)
         · rw [litC_on (c:=elt .pos cur j) hon] at hrj
           conv=>whnf
           repeat' (first|exact trivial|((first|refine kL ?_|(refine ⟨fun hb=>?_,fun hb=>?_⟩<;>(try simp only [nrm] at hb)<;>(try (first|(exfalso;omega)|contradiction|exact kB hb)))|refine kW cfg_ok ?_|refine kC ?_|refine bdA ?_|refine bd2 ?_|refine bdR ?_|refine bdL ?_)<;>(conv=>whnf))|(refine And.intro ?_ ?_;rotate_left;(conv=>whnf);rotate_right))
           all_goals first|omega|exact List.take_length|skip
           refine hN2 _ _ ?_
           conv=>whnf
           refine .to (j + 1) (by omega) (by omega) ?_
           conv=>whnf
           repeat' (first|exact trivial|((first|refine kL ?_|(refine ⟨fun hb=>?_,fun hb=>?_⟩<;>(try simp only [nrm] at hb)<;>(try (first|(exfalso;omega)|contradiction|exact kB hb)))|refine kW cfg_ok ?_|refine kC ?_|refine bdA ?_|refine bd2 ?_|refine bdR ?_|refine bdL ?_)<;>(conv=>whnf))|(refine And.intro ?_ ?_;rotate_left;(conv=>whnf);rotate_right))
           all_goals first|rfl|omega|exact List.take_length|(rw [hrj];done)|(rw [hrj];exact rfl)|(rw [hrj];exact List.take_length)|trace_state
         · rw [litC_off (c:=elt .pos cur j) hon] at hrj
           conv=>whnf
           repeat' (first|exact trivial|((first|refine kL ?_|(refine ⟨fun hb=>?_,fun hb=>?_⟩<;>(try simp only [nrm] at hb)<;>(try (first|(exfalso;omega)|contradiction|exact kB hb)))|refine kW cfg_ok ?_|refine kC ?_|refine bdA ?_|refine bd2 ?_|refine bdR ?_|refine bdL ?_)<;>(conv=>whnf))|(refine And.intro ?_ ?_;rotate_left;(conv=>whnf);rotate_right))
           all_goals first|omega|exact List.take_length|skip
           have hal:=fun d hd=>@askM_len I fr to_ la (putM (R j).1 (elt .pos cur (j + 0)).x (elt .pos cur (j + 0)).y (15 - ((1 : Nat) : Int))).1 (elt .pos cur (j + 0)) (R j).2 d hd
           have has:=fun d hd=>askM_succ I fr to_ la (putM (R j).1 (elt .pos cur (j + 0)).x (elt .pos cur (j + 0)).y (15 - ((1 : Nat) : Int))).1 (elt .pos cur (j + 0)) (R j).2 (d:=d) hd
           have ha0 : askM I fr to_ la (putM (R j).1 (elt .pos cur (j + 0)).x (elt .pos cur (j + 0)).y (15 - ((1 : Nat) : Int))).1 (elt .pos cur (j + 0)) (R j).2 0 = (R j).2:=rfl
           have hrj1 : (R (j + 1)).2 = askM I fr to_ la (putM (R j).1 (elt .pos cur (j + 0)).x (elt .pos cur (j + 0)).y (15 - ((1 : Nat) : Int))).1 (elt .pos cur (j + 0)) (R j).2 4:=by rw [hrj];rfl
           have hrj2 : (R (j + 1)).1 = putM (R j).1 (elt .pos cur (j + 0)).x (elt .pos cur (j + 0)).y (15 - ((1 : Nat) : Int)):=by rw [hrj];rfl
           clear hrj
           generalize hA : askM I fr to_ la (putM (R j).1 (elt .pos cur (j + 0)).x (elt .pos cur (j + 0)).y (15 - ((1 : Nat) : Int))).1 (elt .pos cur (j + 0)) (R j).2 = A at *
           generalize hP : putM (R j).1 (elt .pos cur (j + 0)).x (elt .pos cur (j + 0)).y (15 - ((1 : Nat) : Int)) = P1 at *
           refine Runs.loopQ cfg_ok (σ:=Nat) [0,2,3,4,66,67] (fun d=>[.ptr 0 0,.ptr 200004 0,i64 (15 - ((1 : Nat) : Int)),i64 (j : Nat),.agg [i64 ((elt .pos cur (j + 0)).x - 1),i64 (elt .pos cur (j + 0)).y,i64 ((elt .pos cur (j + 0)).x + 1),i64 (elt .pos cur (j + 0)).y,i64 (elt .pos cur (j + 0)).x,i64 ((elt .pos cur (j + 0)).y - 1),i64 (elt .pos cur (j + 0)).x,i64 ((elt .pos cur (j + 0)).y + 1)],i64 (d : Nat)])
             (fun d=>(200004,.box (byR 1 (.own .pos (350201 + 2 * 1) 0 cur.length none) (.own .pos (350203 + 2 * 1) 0 (A d).length none))) :: (350201 + 2 * 1,.row .pos cur) :: (350203 + 2 * 1,.row .pos (A d)) :: fldM 0 1 3 fr to_ la I P1.1 nI P1.2)
             (fun d=>d ≤ 4) (fun d=>4 - d) 0 (by omega) ?_ ?_
           · conv=>whnf
             repeat' (first|exact trivial|((first|refine kL ?_|(refine ⟨fun hb=>?_,fun hb=>?_⟩<;>(try simp only [nrm] at hb)<;>(try (first|(exfalso;omega)|contradiction|exact kB hb)))|refine kW cfg_ok ?_|refine kC ?_|refine bdA ?_|refine bd2 ?_|refine bdR ?_|refine bdL ?_)<;>(conv=>whnf))|(refine And.intro ?_ ?_;rotate_left;(conv=>whnf);rotate_right))
             all_goals first|rfl|omega|(simp;done)|(rw [ha0];done)|(rw [ha0];exact List.take_length)|(rw [ha0];exact rfl)|(rw [← hP];exact rfl)|(rw [← hP,ha0];exact rfl)|trace_state
           · intro d hd N3 hN3 hE3 hT3
             by_cases hld : d < 4
             · have hbd:=dirD_bd hld
               have hop:=fopen_ev fr to_ la I P1.1 nI P1.2 (addP (elt .pos cur (j + 0)) (dirD d))
               have hade:=has d hld
               have hadl:=hal d (by omega)
               conv=>whnf
               repeat' (first|exact trivial|((first|refine kL ?_|(refine ⟨fun hb=>?_,fun hb=>?_⟩<;>(try simp only [nrm] at hb)<;>(try (first|(exfalso;omega)|contradiction|exact kB hb)))|refine kE hop [(0,0),(1,1),(3,3)] rfl ?_|refine kF hop [(0,0),(1,1),(3,3)] rfl ?_|(refine dir_pick hld rfl rfl ?_)|refine kW cfg_ok ?_|refine kC ?_|refine bdA ?_|refine bd2 ?_|refine bdR ?_|refine bdL ?_)<;>(conv=>whnf))|(refine And.intro ?_ ?_;rotate_left;(conv=>whnf);rotate_right))
               all_goals first|omega|skip
               all_goals
                 first
                   | rw [push_yes (by assumption) (by assumption)] at hade
                   | rw [push_shut (by assumption)] at hade
                   | rw [push_lit (by assumption)] at hade
                 refine hN3 _ _ ?_
                 conv=>whnf
                 refine .to (d + 1) (by omega) (by omega) ?_
                 conv=>whnf
                 repeat' (first|exact trivial|((first|refine kL ?_|(refine ⟨fun hb=>?_,fun hb=>?_⟩<;>(try simp only [nrm] at hb)<;>(try (first|(exfalso;omega)|contradiction|exact kB hb)))|refine kW cfg_ok ?_|refine kC ?_|refine bdA ?_|refine bd2 ?_|refine bdR ?_|refine bdL ?_)<;>(conv=>whnf))|(refine And.intro ?_ ?_;rotate_left;(conv=>whnf);rotate_right))
                 all_goals first|rfl|omega|exact List.take_length|(rw [hade];done)|(rw [hade];exact rfl)|(rw [hade];exact List.take_length)|(rw [hade];exact grow_pos _ (addP (elt .pos cur (j + 0)) (dirD d)))|(rw [hade];simp;done)|trace_state
             · obtain rfl : d = 4:=by omega
               conv=>whnf
               repeat' (first|exact trivial|((first|refine kL ?_|(refine ⟨fun hb=>?_,fun hb=>?_⟩<;>(try simp only [nrm] at hb)<;>(try (first|(exfalso;omega)|contradiction|exact kB hb)))|refine kW cfg_ok ?_|refine kC ?_|refine bdA ?_|refine bd2 ?_|refine bdR ?_|refine bdL ?_)<;>(conv=>whnf))|(refine And.intro ?_ ?_;rotate_left;(conv=>whnf);rotate_right))
               all_goals first|omega|skip
               refine hE3 _ _ _ ?_
               conv=>whnf
               repeat' (first|exact trivial|((first|refine kL ?_|(refine ⟨fun hb=>?_,fun hb=>?_⟩<;>(try simp only [nrm] at hb)<;>(try (first|(exfalso;omega)|contradiction|exact kB hb)))|refine kW cfg_ok ?_|refine kC ?_|refine bdA ?_|refine bd2 ?_|refine bdR ?_|refine bdL ?_)<;>(conv=>whnf))|(refine And.intro ?_ ?_;rotate_left;(conv=>whnf);rotate_right))
               all_goals first|omega|skip
               refine hN2 _ _ ?_
               conv=>whnf
               refine .to (j + 1) (by omega) (by omega) ?_
               conv=>whnf
               repeat' (first|exact trivial|((first|refine kL ?_|(refine ⟨fun hb=>?_,fun hb=>?_⟩<;>(try simp only [nrm] at hb)<;>(try (first|(exfalso;omega)|contradiction|exact kB hb)))|refine kW cfg_ok ?_|refine kC ?_|refine bdA ?_|refine bd2 ?_|refine bdR ?_|refine bdL ?_)<;>(conv=>whnf))|(refine And.intro ?_ ?_;rotate_left;(conv=>whnf);rotate_right))
               all_goals first|rfl|omega|exact List.take_length|(rw [hrj1];done)|(rw [hrj2];done)|(rw [hrj1];exact List.take_length)|(rw [hrj1,hrj2];exact rfl)|trace_state
       · obtain rfl : j = cur.length:=by omega
         conv=>whnf
         repeat' (first|exact trivial|((first|refine kL ?_|(refine ⟨fun hb=>?_,fun hb=>?_⟩<;>(try simp only [nrm] at hb)<;>(try (first|(exfalso;omega)|contradiction|exact kB hb)))|refine kW cfg_ok ?_|refine kC ?_|refine bdA ?_|refine bd2 ?_|refine bdR ?_|refine bdL ?_)<;>(conv=>whnf))|(refine And.intro ?_ ?_;rotate_left;(conv=>whnf);rotate_right))
         all_goals first|omega|exact List.take_length|skip
         refine hE2 _ _ _ ?_
         conv=>whnf
         repeat' (first|exact trivial|((first|refine kL ?_|(refine ⟨fun hb=>?_,fun hb=>?_⟩<;>(try simp only [nrm] at hb)<;>(try (first|(exfalso;omega)|contradiction|exact kB hb)))|refine kW cfg_ok ?_|refine kC ?_|refine bdA ?_|refine bd2 ?_|refine bdR ?_|refine bdL ?_)<;>(conv=>whnf))|(refine And.intro ?_ ?_;rotate_left;(conv=>whnf);rotate_right))
         all_goals first|omega|exact List.take_length|skip
         refine hN1 _ _ ?_
         conv=>whnf
         refine .to (1 + 1) (by omega) (by omega) ?_
         conv=>whnf
         repeat' (first|exact trivial|((first|refine kL ?_|(refine ⟨fun hb=>?_,fun hb=>?_⟩<;>(try simp only [nrm] at hb)<;>(try (first|(exfalso;omega)|contradiction|exact kB hb)))|refine kW cfg_ok ?_|refine kC ?_|refine bdA ?_|refine bd2 ?_|refine bdR ?_|refine bdL ?_)<;>(conv=>whnf))|(refine And.intro ?_ ?_;rotate_left;(conv=>whnf);rotate_right))
         all_goals first|rfl|omega|(rw [hsk];done)|(rw [hsk];exact rfl)|(rw [hsk];exact List.take_length)|trace_state
   · generalize (sh 2).2 = cur at *
     generalize (sh 2).1 = F0 at *
     have hr0 : litR I fr to_ la (15 - ((2 : Nat) : Int)) cur (F0,n0F l14 2) 0 = (F0,n0F l14 2):=rfl
     have hrs:=fun j hj=>litR_succ I fr to_ la (15 - ((2 : Nat) : Int)) cur (F0,n0F l14 2) (j:=j) hj
     have hrl:=fun j hj=>@litR_big I fr to_ la (15 - ((2 : Nat) : Int)) cur (F0,n0F l14 2) h1 h3 h5 (by omega) hcur j hj
     dsimp only at hrl
     generalize litR I fr to_ la (15 - ((2 : Nat) : Int)) cur (F0,n0F l14 2) = R at *
     conv=>whnf
     repeat' (first|exact trivial|((first|refine kL ?_|(refine ⟨fun hb=>?_,fun hb=>?_⟩<;>(try simp only [nrm] at hb)<;>(try (first|(exfalso;omega)|contradiction|exact kB hb)))|refine kW cfg_ok ?_|refine kC ?_|refine bdA ?_|refine bd2 ?_|refine bdR ?_|refine bdL ?_)<;>(conv=>whnf))|(refine And.intro ?_ ?_;rotate_left;(conv=>whnf);rotate_right))
     all_goals first|omega|exact List.take_length|skip
     refine Runs.loopQ cfg_ok (σ:=Nat) [0,2,3,4] (fun j=>[.ptr 0 0,.ptr 200004 0,i64 (15 - ((2 : Nat) : Int)),i64 (j : Nat)])
       (fun j=>(200004,.box (byR 2 (.own .pos (350201 + 2 * 2) 0 cur.length none) (.own .pos (350203 + 2 * 2) 0 (R j).2.length none))) :: (350201 + 2 * 2,.row .pos cur) :: (350203 + 2 * 2,.row .pos (R j).2) :: fldM 0 1 3 fr to_ la I (R j).1.1 nI (R j).1.2)
       (fun j=>j ≤ cur.length) (fun j=>cur.length - j) 0 (by omega) ?_ ?_
     · conv=>whnf
       repeat' (first|exact trivial|((first|refine kL ?_|(refine ⟨fun hb=>?_,fun hb=>?_⟩<;>(try simp only [nrm] at hb)<;>(try (first|(exfalso;omega)|contradiction|exact kB hb)))|refine kW cfg_ok ?_|refine kC ?_|refine bdA ?_|refine bd2 ?_|refine bdR ?_|refine bdL ?_)<;>(conv=>whnf))|(refine And.intro ?_ ?_;rotate_left;(conv=>whnf);rotate_right))
       all_goals first|rfl|omega|(simp;done)|(rw [hr0];done)|(rw [hr0];exact List.take_length)|(rw [hr0];exact rfl)|trace_state
     · intro j hj N2 hN2 hE2 hT2
       by_cases hlt : j < cur.length
       · have hrj:=hrs j hlt
         have hrn:=hrl j hj
         have hc : inF fr to_ la (elt .pos cur (j + 0)):=hcur _ (List.mem_of_getElem? (elt_get .pos cur j hlt))
         have hci : inF fr to_ la (elt .pos cur (((j : Nat) : Int).toNat + 0)):=hc
         unfold inF at hc hci
         by_cases hon : 0 < getZ ((R j).1.1 (elt .pos cur (j + 0)).x (elt .pos cur (j + 0)).y)
         · rw [litC_on (c:=elt .pos cur j) hon] at hrj
           conv=>whnf
           repeat' (first|exact trivial|((first|refine kL ?_|(refine ⟨fun hb=>?_,fun hb=>?_⟩<;>(try simp only [nrm] at hb)<;>(try (first|(exfalso;omega)|contradiction|exact kB hb)))|refine kW cfg_ok ?_|refine kC ?_|refine bdA ?_|refine bd2 ?_|refine bdR ?_|refine bdL ?_)<;>(conv=>whnf))|(refine And.intro ?_ ?_;rotate_left;(conv=>whnf);rotate_right))
           all_goals first|omega|exact List.take_length|skip
           refine hN2 _ _ ?_
           conv=>whnf
           refine .to (j + 1) (by omega) (by omega) ?_
           conv=>whnf
           repeat' (first|exact trivial|((first|refine kL ?_|(refine ⟨fun hb=>?_,fun hb=>?_⟩<;>(try simp only [nrm] at hb)<;>(try (first|(exfalso;omega)|contradiction|exact kB hb)))|refine kW cfg_ok ?_|refine kC ?_|refine bdA ?_|refine bd2 ?_|refine bdR ?_|refine bdL ?_)<;>(conv=>whnf))|(refine And.intro ?_ ?_;rotate_left;(conv=>whnf);rotate_right))
           all_goals first|rfl|omega|exact List.take_length|(rw [hrj];done)|(rw [hrj];exact rfl)|(rw [hrj];exact List.take_length)|trace_state
         · rw [litC_off (c:=elt .pos cur j) hon] at hrj
           conv=>whnf
           repeat' (first|exact trivial|((first|refine kL ?_|(refine ⟨fun hb=>?_,fun hb=>?_⟩<;>(try simp only [nrm] at hb)<;>(try (first|(exfalso;omega)|contradiction|exact kB hb)))|refine kW cfg_ok ?_|refine kC ?_|refine bdA ?_|refine bd2 ?_|refine bdR ?_|refine bdL ?_)<;>(conv=>whnf))|(refine And.intro ?_ ?_;rotate_left;(conv=>whnf);rotate_right))
           all_goals first|omega|exact List.take_length|skip
           have hal:=fun d hd=>@askM_len I fr to_ la (putM (R j).1 (elt .pos cur (j + 0)).x (elt .pos cur (j + 0)).y (15 - ((2 : Nat) : Int))).1 (elt .pos cur (j + 0)) (R j).2 d hd
           have has:=fun d hd=>askM_succ I fr to_ la (putM (R j).1 (elt .pos cur (j + 0)).x (elt .pos cur (j + 0)).y (15 - ((2 : Nat) : Int))).1 (elt .pos cur (j + 0)) (R j).2 (d:=d) hd
           have ha0 : askM I fr to_ la (putM (R j).1 (elt .pos cur (j + 0)).x (elt .pos cur (j + 0)).y (15 - ((2 : Nat) : Int))).1 (elt .pos cur (j + 0)) (R j).2 0 = (R j).2:=rfl
           have hrj1 : (R (j + 1)).2 = askM I fr to_ la (putM (R j).1 (elt .pos cur (j + 0)).x (elt .pos cur (j + 0)).y (15 - ((2 : Nat) : Int))).1 (elt .pos cur (j + 0)) (R j).2 4:=by rw [hrj];rfl
           have hrj2 : (R (j + 1)).1 = putM (R j).1 (elt .pos cur (j + 0)).x (elt .pos cur (j + 0)).y (15 - ((2 : Nat) : Int)):=by rw [hrj];rfl
           clear hrj
           generalize hA : askM I fr to_ la (putM (R j).1 (elt .pos cur (j + 0)).x (elt .pos cur (j + 0)).y (15 - ((2 : Nat) : Int))).1 (elt .pos cur (j + 0)) (R j).2 = A at *
           generalize hP : putM (R j).1 (elt .pos cur (j + 0)).x (elt .pos cur (j + 0)).y (15 - ((2 : Nat) : Int)) = P1 at *
           refine Runs.loopQ cfg_ok (σ:=Nat) [0,2,3,4,66,67] (fun d=>[.ptr 0 0,.ptr 200004 0,i64 (15 - ((2 : Nat) : Int)),i64 (j : Nat),.agg [i64 ((elt .pos cur (j + 0)).x - 1),i64 (elt .pos cur (j + 0)).y,i64 ((elt .pos cur (j + 0)).x + 1),i64 (elt .pos cur (j + 0)).y,i64 (elt .pos cur (j + 0)).x,i64 ((elt .pos cur (j + 0)).y - 1),i64 (elt .pos cur (j + 0)).x,i64 ((elt .pos cur (j + 0)).y + 1)],i64 (d : Nat)])
             (fun d=>(200004,.box (byR 2 (.own .pos (350201 + 2 * 2) 0 cur.length none) (.own .pos (350203 + 2 * 2) 0 (A d).length none))) :: (350201 + 2 * 2,.row .pos cur) :: (350203 + 2 * 2,.row .pos (A d)) :: fldM 0 1 3 fr to_ la I P1.1 nI P1.2)
             (fun d=>d ≤ 4) (fun d=>4 - d) 0 (by omega) ?_ ?_
           · conv=>whnf
             repeat' (first|exact trivial|((first|refine kL ?_|(refine ⟨fun hb=>?_,fun hb=>?_⟩<;>(try simp only [nrm] at hb)<;>(try (first|(exfalso;omega)|contradiction|exact kB hb)))|refine kW cfg_ok ?_|refine kC ?_|refine bdA ?_|refine bd2 ?_|refine bdR ?_|refine bdL ?_)<;>(conv=>whnf))|(refine And.intro ?_ ?_;rotate_left;(conv=>whnf);rotate_right))
             all_goals first|rfl|omega|(simp;done)|(rw [ha0];done)|(rw [ha0];exact List.take_length)|(rw [ha0];exact rfl)|(rw [← hP];exact rfl)|(rw [← hP,ha0];exact rfl)|trace_state
           · intro d hd N3 hN3 hE3 hT3
             by_cases hld : d < 4
             · have hbd:=dirD_bd hld
               have hop:=fopen_ev fr to_ la I P1.1 nI P1.2 (addP (elt .pos cur (j + 0)) (dirD d))
               have hade:=has d hld
               have hadl:=hal d (by omega)
               conv=>whnf
               repeat' (first|exact trivial|((first|refine kL ?_|(refine ⟨fun hb=>?_,fun hb=>?_⟩<;>(try simp only [nrm] at hb)<;>(try (first|(exfalso;omega)|contradiction|exact kB hb)))|refine kE hop [(0,0),(1,1),(3,3)] rfl ?_|refine kF hop [(0,0),(1,1),(3,3)] rfl ?_|(refine dir_pick hld rfl rfl ?_)|refine kW cfg_ok ?_|refine kC ?_|refine bdA ?_|refine bd2 ?_|refine bdR ?_|refine bdL ?_)<;>(conv=>whnf))|(refine And.intro ?_ ?_;rotate_left;(conv=>whnf);rotate_right))
               all_goals first|omega|skip
               all_goals
                 first
                   | rw [push_yes (by assumption) (by assumption)] at hade
                   | rw [push_shut (by assumption)] at hade
                   | rw [push_lit (by assumption)] at hade
                 refine hN3 _ _ ?_
                 conv=>whnf
                 refine .to (d + 1) (by omega) (by omega) ?_
                 conv=>whnf
                 repeat' (first|exact trivial|((first|refine kL ?_|(refine ⟨fun hb=>?_,fun hb=>?_⟩<;>(try simp only [nrm] at hb)<;>(try (first|(exfalso;omega)|contradiction|exact kB hb)))|refine kW cfg_ok ?_|refine kC ?_|refine bdA ?_|refine bd2 ?_|refine bdR ?_|refine bdL ?_)<;>(conv=>whnf))|(refine And.intro ?_ ?_;rotate_left;(conv=>whnf);rotate_right))
                 all_goals first|rfl|omega|exact List.take_length|(rw [hade];done)|(rw [hade];exact rfl)|(rw [hade];exact List.take_length)|(rw [hade];exact grow_pos _ (addP (elt .pos cur (j + 0)) (dirD d)))|(rw [hade];simp;done)|trace_state
             · obtain rfl : d = 4:=by omega
               conv=>whnf
               repeat' (first|exact trivial|((first|refine kL ?_|(refine ⟨fun hb=>?_,fun hb=>?_⟩<;>(try simp only [nrm] at hb)<;>(try (first|(exfalso;omega)|contradiction|exact kB hb)))|refine kW cfg_ok ?_|refine kC ?_|refine bdA ?_|refine bd2 ?_|refine bdR ?_|refine bdL ?_)<;>(conv=>whnf))|(refine And.intro ?_ ?_;rotate_left;(conv=>whnf);rotate_right))
               all_goals first|omega|skip
               refine hE3 _ _ _ ?_
               conv=>whnf
               repeat' (first|exact trivial|((first|refine kL ?_|(refine ⟨fun hb=>?_,fun hb=>?_⟩<;>(try simp only [nrm] at hb)<;>(try (first|(exfalso;omega)|contradiction|exact kB hb)))|refine kW cfg_ok ?_|refine kC ?_|refine bdA ?_|refine bd2 ?_|refine bdR ?_|refine bdL ?_)<;>(conv=>whnf))|(refine And.intro ?_ ?_;rotate_left;(conv=>whnf);rotate_right))
               all_goals first|omega|skip
               refine hN2 _ _ ?_
               conv=>whnf
               refine .to (j + 1) (by omega) (by omega) ?_
               conv=>whnf
               repeat' (first|exact trivial|((first|refine kL ?_|(refine ⟨fun hb=>?_,fun hb=>?_⟩<;>(try simp only [nrm] at hb)<;>(try (first|(exfalso;omega)|contradiction|exact kB hb)))|refine kW cfg_ok ?_|refine kC ?_|refine bdA ?_|refine bd2 ?_|refine bdR ?_|refine bdL ?_)<;>(conv=>whnf))|(refine And.intro ?_ ?_;rotate_left;(conv=>whnf);rotate_right))
               all_goals first|rfl|omega|exact List.take_length|(rw [hrj1];done)|(rw [hrj2];done)|(rw [hrj1];exact List.take_length)|(rw [hrj1,hrj2];exact rfl)|trace_state
       · obtain rfl : j = cur.length:=by omega
         conv=>whnf
         repeat' (first|exact trivial|((first|refine kL ?_|(refine ⟨fun hb=>?_,fun hb=>?_⟩<;>(try simp only [nrm] at hb)<;>(try (first|(exfalso;omega)|contradiction|exact kB hb)))|refine kW cfg_ok ?_|refine kC ?_|refine bdA ?_|refine bd2 ?_|refine bdR ?_|refine bdL ?_)<;>(conv=>whnf))|(refine And.intro ?_ ?_;rotate_left;(conv=>whnf);rotate_right))
         all_goals first|omega|exact List.take_length|skip
         refine hE2 _ _ _ ?_
         conv=>whnf
         repeat' (first|exact trivial|((first|refine kL ?_|(refine ⟨fun hb=>?_,fun hb=>?_⟩<;>(try simp only [nrm] at hb)<;>(try (first|(exfalso;omega)|contradiction|exact kB hb)))|refine kW cfg_ok ?_|refine kC ?_|refine bdA ?_|refine bd2 ?_|refine bdR ?_|refine bdL ?_)<;>(conv=>whnf))|(refine And.intro ?_ ?_;rotate_left;(conv=>whnf);rotate_right))
         all_goals first|omega|exact List.take_length|skip
         refine hN1 _ _ ?_
         conv=>whnf
         refine .to (2 + 1) (by omega) (by omega) ?_
         conv=>whnf
         repeat' (first|exact trivial|((first|refine kL ?_|(refine ⟨fun hb=>?_,fun hb=>?_⟩<;>(try simp only [nrm] at hb)<;>(try (first|(exfalso;omega)|contradiction|exact kB hb)))|refine kW cfg_ok ?_|refine kC ?_|refine bdA ?_|refine bd2 ?_|refine bdR ?_|refine bdL ?_)<;>(conv=>whnf))|(refine And.intro ?_ ?_;rotate_left;(conv=>whnf);rotate_right))
         all_goals first|rfl|omega|(rw [hsk];done)|(rw [hsk];exact rfl)|(rw [hsk];exact List.take_length)|trace_state
   · generalize (sh 3).2 = cur at *
     generalize (sh 3).1 = F0 at *
     have hr0 : litR I fr to_ la (15 - ((3 : Nat) : Int)) cur (F0,n0F l14 3) 0 = (F0,n0F l14 3):=rfl
     have hrs:=fun j hj=>litR_succ I fr to_ la (15 - ((3 : Nat) : Int)) cur (F0,n0F l14 3) (j:=j) hj
     have hrl:=fun j hj=>@litR_big I fr to_ la (15 - ((3 : Nat) : Int)) cur (F0,n0F l14 3) h1 h3 h5 (by omega) hcur j hj
     dsimp only at hrl
     generalize litR I fr to_ la (15 - ((3 : Nat) : Int)) cur (F0,n0F l14 3) = R at *
     conv=>whnf
     repeat' (first|exact trivial|((first|refine kL ?_|(refine ⟨fun hb=>?_,fun hb=>?_⟩<;>(try simp only [nrm] at hb)<;>(try (first|(exfalso;omega)|contradiction|exact kB hb)))|refine kW cfg_ok ?_|refine kC ?_|refine bdA ?_|refine bd2 ?_|refine bdR ?_|refine bdL ?_)<;>(conv=>whnf))|(refine And.intro ?_ ?_;rotate_left;(conv=>whnf);rotate_right))
     all_goals first|omega|exact List.take_length|skip
     refine Runs.loopQ cfg_ok (σ:=Nat) [0,2,3,4] (fun j=>[.ptr 0 0,.ptr 200004 0,i64 (15 - ((3 : Nat) : Int)),i64 (j : Nat)])
       (fun j=>(200004,.box (byR 3 (.own .pos (350201 + 2 * 3) 0 cur.length none) (.own .pos (350203 + 2 * 3) 0 (R j).2.length none))) :: (350201 + 2 * 3,.row .pos cur) :: (350203 + 2 * 3,.row .pos (R j).2) :: fldM 0 1 3 fr to_ la I (R j).1.1 nI (R j).1.2)
       (fun j=>j ≤ cur.length) (fun j=>cur.length - j) 0 (by omega) ?_ ?_
     · conv=>whnf
       repeat' (first|exact trivial|((first|refine kL ?_|(refine ⟨fun hb=>?_,fun hb=>?_⟩<;>(try simp only [nrm] at hb)<;>(try (first|(exfalso;omega)|contradiction|exact kB hb)))|refine kW cfg_ok ?_|refine kC ?_|refine bdA ?_|refine bd2 ?_|refine bdR ?_|refine bdL ?_)<;>(conv=>whnf))|(refine And.intro ?_ ?_;rotate_left;(conv=>whnf);rotate_right))
       all_goals first|rfl|omega|(simp;done)|(rw [hr0];done)|(rw [hr0];exact List.take_length)|(rw [hr0];exact rfl)|trace_state
     · intro j hj N2 hN2 hE2 hT2
       by_cases hlt : j < cur.length
       · have hrj:=hrs j hlt
         have hrn:=hrl j hj
         have hc : inF fr to_ la (elt .pos cur (j + 0)):=hcur _ (List.mem_of_getElem? (elt_get .pos cur j hlt))
         have hci : inF fr to_ la (elt .pos cur (((j : Nat) : Int).toNat + 0)):=hc
         unfold inF at hc hci
         by_cases hon : 0 < getZ ((R j).1.1 (elt .pos cur (j + 0)).x (elt .pos cur (j + 0)).y)
         · rw [litC_on (c:=elt .pos cur j) hon] at hrj
           conv=>whnf
           repeat' (first|exact trivial|((first|refine kL ?_|(refine ⟨fun hb=>?_,fun hb=>?_⟩<;>(try simp only [nrm] at hb)<;>(try (first|(exfalso;omega)|contradiction|exact kB hb)))|refine kW cfg_ok ?_|refine kC ?_|refine bdA ?_|refine bd2 ?_|refine bdR ?_|refine bdL ?_)<;>(conv=>whnf))|(refine And.intro ?_ ?_;rotate_left;(conv=>whnf);rotate_right))
           all_goals first|omega|exact List.take_length|skip
           refine hN2 _ _ ?_
           conv=>whnf
           refine .to (j + 1) (by omega) (by omega) ?_
           conv=>whnf
           repeat' (first|exact trivial|((first|refine kL ?_|(refine ⟨fun hb=>?_,fun hb=>?_⟩<;>(try simp only [nrm] at hb)<;>(try (first|(exfalso;omega)|contradiction|exact kB hb)))|refine kW cfg_ok ?_|refine kC ?_|refine bdA ?_|refine bd2 ?_|refine bdR ?_|refine bdL ?_)<;>(conv=>whnf))|(refine And.intro ?_ ?_;rotate_left;(conv=>whnf);rotate_right))
           all_goals first|rfl|omega|exact List.take_length|(rw [hrj];done)|(rw [hrj];exact rfl)|(rw [hrj];exact List.take_length)|trace_state
         · rw [litC_off (c:=elt .pos cur j) hon] at hrj
           conv=>whnf
           repeat' (first|exact trivial|((first|refine kL ?_|(refine ⟨fun hb=>?_,fun hb=>?_⟩<;>(try simp only [nrm] at hb)<;>(try (first|(exfalso;omega)|contradiction|exact kB hb)))|refine kW cfg_ok ?_|refine kC ?_|refine bdA ?_|refine bd2 ?_|refine bdR ?_|refine bdL ?_)<;>(conv=>whnf))|(refine And.intro ?_ ?_;rotate_left;(conv=>whnf);rotate_right))
           all_goals first|omega|exact List.take_length|skip
           have hal:=fun d hd=>@askM_len I fr to_ la (putM (R j).1 (elt .pos cur (j + 0)).x (elt .pos cur (j + 0)).y (15 - ((3 : Nat) : Int))).1 (elt .pos cur (j + 0)) (R j).2 d hd
           have has:=fun d hd=>askM_succ I fr to_ la (putM (R j).1 (elt .pos cur (j + 0)).x (elt .pos cur (j + 0)).y (15 - ((3 : Nat) : Int))).1 (elt .pos cur (j + 0)) (R j).2 (d:=d) hd
           have ha0 : askM I fr to_ la (putM (R j).1 (elt .pos cur (j + 0)).x (elt .pos cur (j + 0)).y (15 - ((3 : Nat) : Int))).1 (elt .pos cur (j + 0)) (R j).2 0 = (R j).2:=rfl
           have hrj1 : (R (j + 1)).2 = askM I fr to_ la (putM (R j).1 (elt .pos cur (j + 0)).x (elt .pos cur (j + 0)).y (15 - ((3 : Nat) : Int))).1 (elt .pos cur (j + 0)) (R j).2 4:=by rw [hrj];rfl
           have hrj2 : (R (j + 1)).1 = putM (R j).1 (elt .pos cur (j + 0)).x (elt .pos cur (j + 0)).y (15 - ((3 : Nat) : Int)):=by rw [hrj];rfl
           clear hrj
           generalize hA : askM I fr to_ la (putM (R j).1 (elt .pos cur (j + 0)).x (elt .pos cur (j + 0)).y (15 - ((3 : Nat) : Int))).1 (elt .pos cur (j + 0)) (R j).2 = A at *
           generalize hP : putM (R j).1 (elt .pos cur (j + 0)).x (elt .pos cur (j + 0)).y (15 - ((3 : Nat) : Int)) = P1 at *
           refine Runs.loopQ cfg_ok (σ:=Nat) [0,2,3,4,66,67] (fun d=>[.ptr 0 0,.ptr 200004 0,i64 (15 - ((3 : Nat) : Int)),i64 (j : Nat),.agg [i64 ((elt .pos cur (j + 0)).x - 1),i64 (elt .pos cur (j + 0)).y,i64 ((elt .pos cur (j + 0)).x + 1),i64 (elt .pos cur (j + 0)).y,i64 (elt .pos cur (j + 0)).x,i64 ((elt .pos cur (j + 0)).y - 1),i64 (elt .pos cur (j + 0)).x,i64 ((elt .pos cur (j + 0)).y + 1)],i64 (d : Nat)])
             (fun d=>(200004,.box (byR 3 (.own .pos (350201 + 2 * 3) 0 cur.length none) (.own .pos (350203 + 2 * 3) 0 (A d).length none))) :: (350201 + 2 * 3,.row .pos cur) :: (350203 + 2 * 3,.row .pos (A d)) :: fldM 0 1 3 fr to_ la I P1.1 nI P1.2)
             (fun d=>d ≤ 4) (fun d=>4 - d) 0 (by omega) ?_ ?_
           · conv=>whnf
             repeat' (first|exact trivial|((first|refine kL ?_|(refine ⟨fun hb=>?_,fun hb=>?_⟩<;>(try simp only [nrm] at hb)<;>(try (first|(exfalso;omega)|contradiction|exact kB hb)))|refine kW cfg_ok ?_|refine kC ?_|refine bdA ?_|refine bd2 ?_|refine bdR ?_|refine bdL ?_)<;>(conv=>whnf))|(refine And.intro ?_ ?_;rotate_left;(conv=>whnf);rotate_right))
             all_goals first|rfl|omega|(simp;done)|(rw [ha0];done)|(rw [ha0];exact List.take_length)|(rw [ha0];exact rfl)|(rw [← hP];exact rfl)|(rw [← hP,ha0];exact rfl)|trace_state
           · intro d hd N3 hN3 hE3 hT3
             by_cases hld : d < 4
             · have hbd:=dirD_bd hld
               have hop:=fopen_ev fr to_ la I P1.1 nI P1.2 (addP (elt .pos cur (j + 0)) (dirD d))
               have hade:=has d hld
               have hadl:=hal d (by omega)
               conv=>whnf
               repeat' (first|exact trivial|((first|refine kL ?_|(refine ⟨fun hb=>?_,fun hb=>?_⟩<;>(try simp only [nrm] at hb)<;>(try (first|(exfalso;omega)|contradiction|exact kB hb)))|refine kE hop [(0,0),(1,1),(3,3)] rfl ?_|refine kF hop [(0,0),(1,1),(3,3)] rfl ?_|(refine dir_pick hld rfl rfl ?_)|refine kW cfg_ok ?_|refine kC ?_|refine bdA ?_|refine bd2 ?_|refine bdR ?_|refine bdL ?_)<;>(conv=>whnf))|(refine And.intro ?_ ?_;rotate_left;(conv=>whnf);rotate_right))
               all_goals first|omega|skip
               all_goals
                 first
                   | rw [push_yes (by assumption) (by assumption)] at hade
                   | rw [push_shut (by assumption)] at hade
                   | rw [push_lit (by assumption)] at hade
                 refine hN3 _ _ ?_
                 conv=>whnf
                 refine .to (d + 1) (by omega) (by omega) ?_
                 conv=>whnf
                 repeat' (first|exact trivial|((first|refine kL ?_|(refine ⟨fun hb=>?_,fun hb=>?_⟩<;>(try simp only [nrm] at hb)<;>(try (first|(exfalso;omega)|contradiction|exact kB hb)))|refine kW cfg_ok ?_|refine kC ?_|refine bdA ?_|refine bd2 ?_|refine bdR ?_|refine bdL ?_)<;>(conv=>whnf))|(refine And.intro ?_ ?_;rotate_left;(conv=>whnf);rotate_right))
                 all_goals first|rfl|omega|exact List.take_length|(rw [hade];done)|(rw [hade];exact rfl)|(rw [hade];exact List.take_length)|(rw [hade];exact grow_pos _ (addP (elt .pos cur (j + 0)) (dirD d)))|(rw [hade];simp;done)|trace_state
             · obtain rfl : d = 4:=by omega
               conv=>whnf
               repeat' (first|exact trivial|((first|refine kL ?_|(refine ⟨fun hb=>?_,fun hb=>?_⟩<;>(try simp only [nrm] at hb)<;>(try (first|(exfalso;omega)|contradiction|exact kB hb)))|refine kW cfg_ok ?_|refine kC ?_|refine bdA ?_|refine bd2 ?_|refine bdR ?_|refine bdL ?_)<;>(conv=>whnf))|(refine And.intro ?_ ?_;rotate_left;(conv=>whnf);rotate_right))
               all_goals first|omega|skip
               refine hE3 _ _ _ ?_
               conv=>whnf
               repeat' (first|exact trivial|((first|refine kL ?_|(refine ⟨fun hb=>?_,fun hb=>?_⟩<;>(try simp only [nrm] at hb)<;>(try (first|(exfalso;omega)|contradiction|exact kB hb)))|refine kW cfg_ok ?_|refine kC ?_|refine bdA ?_|refine bd2 ?_|refine bdR ?_|refine bdL ?_)<;>(conv=>whnf))|(refine And.intro ?_ ?_;rotate_left;(conv=>whnf);rotate_right))
               all_goals first|omega|skip
               refine hN2 _ _ ?_
               conv=>whnf
               refine .to (j + 1) (by omega) (by omega) ?_
               conv=>whnf
               repeat' (first|exact trivial|((first|refine kL ?_|(refine ⟨fun hb=>?_,fun hb=>?_⟩<;>(try simp only [nrm] at hb)<;>(try (first|(exfalso;omega)|contradiction|exact kB hb)))|refine kW cfg_ok ?_|refine kC ?_|refine bdA ?_|refine bd2 ?_|refine bdR ?_|refine bdL ?_)<;>(conv=>whnf))|(refine And.intro ?_ ?_;rotate_left;(conv=>whnf);rotate_right))
               all_goals first|rfl|omega|exact List.take_length|(rw [hrj1];done)|(rw [hrj2];done)|(rw [hrj1];exact List.take_length)|(rw [hrj1,hrj2];exact rfl)|trace_state
       · obtain rfl : j = cur.length:=by omega
         conv=>whnf
         repeat' (first|exact trivial|((first|refine kL ?_|(refine ⟨fun hb=>?_,fun hb=>?_⟩<;>(try simp only [nrm] at hb)<;>(try (first|(exfalso;omega)|contradiction|exact kB hb)))|refine kW cfg_ok ?_|refine kC ?_|refine bdA ?_|refine bd2 ?_|refine bdR ?_|refine bdL ?_)<;>(conv=>whnf))|(refine And.intro ?_ ?_;rotate_left;(conv=>whnf);rotate_right))
         all_goals first|omega|exact List.take_length|skip
         refine hE2 _ _ _ ?_
         conv=>whnf
         repeat' (first|exact trivial|((first|refine kL ?_|(refine ⟨fun hb=>?_,fun hb=>?_⟩<;>(try simp only [nrm] at hb)<;>(try (first|(exfalso;omega)|contradiction|exact kB hb)))|refine kW cfg_ok ?_|refine kC ?_|refine bdA ?_|refine bd2 ?_|refine bdR ?_|refine bdL ?_)<;>(conv=>whnf))|(refine And.intro ?_ ?_;rotate_left;(conv=>whnf);rotate_right))
         all_goals first|omega|exact List.take_length|skip
         refine hN1 _ _ ?_
         conv=>whnf
         refine .to (3 + 1) (by omega) (by omega) ?_
         conv=>whnf
         repeat' (first|exact trivial|((first|refine kL ?_|(refine ⟨fun hb=>?_,fun hb=>?_⟩<;>(try simp only [nrm] at hb)<;>(try (first|(exfalso;omega)|contradiction|exact kB hb)))|refine kW cfg_ok ?_|refine kC ?_|refine bdA ?_|refine bd2 ?_|refine bdR ?_|refine bdL ?_)<;>(conv=>whnf))|(refine And.intro ?_ ?_;rotate_left;(conv=>whnf);rotate_right))
         all_goals first|rfl|omega|(rw [hsk];done)|(rw [hsk];exact rfl)|(rw [hsk];exact List.take_length)|trace_state
   · generalize (sh 4).2 = cur at *
     generalize (sh 4).1 = F0 at *
     have hr0 : litR I fr to_ la (15 - ((4 : Nat) : Int)) cur (F0,n0F l14 4) 0 = (F0,n0F l14 4):=rfl
     have hrs:=fun j hj=>litR_succ I fr to_ la (15 - ((4 : Nat) : Int)) cur (F0,n0F l14 4) (j:=j) hj
     have hrl:=fun j hj=>@litR_big I fr to_ la (15 - ((4 : Nat) : Int)) cur (F0,n0F l14 4) h1 h3 h5 (by omega) hcur j hj
     dsimp only at hrl
     generalize litR I fr to_ la (15 - ((4 : Nat) : Int)) cur (F0,n0F l14 4) = R at *
     conv=>whnf
     repeat' (first|exact trivial|((first|refine kL ?_|(refine ⟨fun hb=>?_,fun hb=>?_⟩<;>(try simp only [nrm] at hb)<;>(try (first|(exfalso;omega)|contradiction|exact kB hb)))|refine kW cfg_ok ?_|refine kC ?_|refine bdA ?_|refine bd2 ?_|refine bdR ?_|refine bdL ?_)<;>(conv=>whnf))|(refine And.intro ?_ ?_;rotate_left;(conv=>whnf);rotate_right))
     all_goals first|omega|exact List.take_length|skip
     refine Runs.loopQ cfg_ok (σ:=Nat) [0,2,3,4] (fun j=>[.ptr 0 0,.ptr 200004 0,i64 (15 - ((4 : Nat) : Int)),i64 (j : Nat)])
       (fun j=>(200004,.box (byR 4 (.own .pos (350201 + 2 * 4) 0 cur.length none) (.own .pos (350203 + 2 * 4) 0 (R j).2.length none))) :: (350201 + 2 * 4,.row .pos cur) :: (350203 + 2 * 4,.row .pos (R j).2) :: fldM 0 1 3 fr to_ la I (R j).1.1 nI (R j).1.2)
       (fun j=>j ≤ cur.length) (fun j=>cur.length - j) 0 (by omega) ?_ ?_
     · conv=>whnf
       repeat' (first|exact trivial|((first|refine kL ?_|(refine ⟨fun hb=>?_,fun hb=>?_⟩<;>(try simp only [nrm] at hb)<;>(try (first|(exfalso;omega)|contradiction|exact kB hb)))|refine kW cfg_ok ?_|refine kC ?_|refine bdA ?_|refine bd2 ?_|refine bdR ?_|refine bdL ?_)<;>(conv=>whnf))|(refine And.intro ?_ ?_;rotate_left;(conv=>whnf);rotate_right))
       all_goals first|rfl|omega|(simp;done)|(rw [hr0];done)|(rw [hr0];exact List.take_length)|(rw [hr0];exact rfl)|trace_state
     · intro j hj N2 hN2 hE2 hT2
       by_cases hlt : j < cur.length
       · have hrj:=hrs j hlt
         have hrn:=hrl j hj
         have hc : inF fr to_ la (elt .pos cur (j + 0)):=hcur _ (List.mem_of_getElem? (elt_get .pos cur j hlt))
         have hci : inF fr to_ la (elt .pos cur (((j : Nat) : Int).toNat + 0)):=hc
         unfold inF at hc hci
         by_cases hon : 0 < getZ ((R j).1.1 (elt .pos cur (j + 0)).x (elt .pos cur (j + 0)).y)
         · rw [litC_on (c:=elt .pos cur j) hon] at hrj
           conv=>whnf
           repeat' (first|exact trivial|((first|refine kL ?_|(refine ⟨fun hb=>?_,fun hb=>?_⟩<;>(try simp only [nrm] at hb)<;>(try (first|(exfalso;omega)|contradiction|exact kB hb)))|refine kW cfg_ok ?_|refine kC ?_|refine bdA ?_|refine bd2 ?_|refine bdR ?_|refine bdL ?_)<;>(conv=>whnf))|(refine And.intro ?_ ?_;rotate_left;(conv=>whnf);rotate_right))
           all_goals first|omega|exact List.take_length|skip
           refine hN2 _ _ ?_
           conv=>whnf
           refine .to (j + 1) (by omega) (by omega) ?_
           conv=>whnf
           repeat' (first|exact trivial|((first|refine kL ?_|(refine ⟨fun hb=>?_,fun hb=>?_⟩<;>(try simp only [nrm] at hb)<;>(try (first|(exfalso;omega)|contradiction|exact kB hb)))|refine kW cfg_ok ?_|refine kC ?_|refine bdA ?_|refine bd2 ?_|refine bdR ?_|refine bdL ?_)<;>(conv=>whnf))|(refine And.intro ?_ ?_;rotate_left;(conv=>whnf);rotate_right))
           all_goals first|rfl|omega|exact List.take_length|(rw [hrj];done)|(rw [hrj];exact rfl)|(rw [hrj];exact List.take_length)|trace_state
         · rw [litC_off (c:=elt .pos cur j) hon] at hrj
           conv=>whnf
           repeat' (first|exact trivial|((first|refine kL ?_|(refine ⟨fun hb=>?_,fun hb=>?_⟩<;>(try simp only [nrm] at hb)<;>(try (first|(exfalso;omega)|contradiction|exact kB hb)))|refine kW cfg_ok ?_|refine kC ?_|refine bdA ?_|refine bd2 ?_|refine bdR ?_|refine bdL ?_)<;>(conv=>whnf))|(refine And.intro ?_ ?_;rotate_left;(conv=>whnf);rotate_right))
           all_goals first|omega|exact List.take_length|skip
           have hal:=fun d hd=>@askM_len I fr to_ la (putM (R j).1 (elt .pos cur (j + 0)).x (elt .pos cur (j + 0)).y (15 - ((4 : Nat) : Int))).1 (elt .pos cur (j + 0)) (R j).2 d hd
           have has:=fun d hd=>askM_succ I fr to_ la (putM (R j).1 (elt .pos cur (j + 0)).x (elt .pos cur (j + 0)).y (15 - ((4 : Nat) : Int))).1 (elt .pos cur (j + 0)) (R j).2 (d:=d) hd
           have ha0 : askM I fr to_ la (putM (R j).1 (elt .pos cur (j + 0)).x (elt .pos cur (j + 0)).y (15 - ((4 : Nat) : Int))).1 (elt .pos cur (j + 0)) (R j).2 0 = (R j).2:=rfl
           have hrj1 : (R (j + 1)).2 = askM I fr to_ la (putM (R j).1 (elt .pos cur (j + 0)).x (elt .pos cur (j + 0)).y (15 - ((4 : Nat) : Int))).1 (elt .pos cur (j + 0)) (R j).2 4:=by rw [hrj];rfl
           have hrj2 : (R (j + 1)).1 = putM (R j).1 (elt .pos cur (j + 0)).x (elt .pos cur (j + 0)).y (15 - ((4 : Nat) : Int)):=by rw [hrj];rfl
           clear hrj
           generalize hA : askM I fr to_ la (putM (R j).1 (elt .pos cur (j + 0)).x (elt .pos cur (j + 0)).y (15 - ((4 : Nat) : Int))).1 (elt .pos cur (j + 0)) (R j).2 = A at *
           generalize hP : putM (R j).1 (elt .pos cur (j + 0)).x (elt .pos cur (j + 0)).y (15 - ((4 : Nat) : Int)) = P1 at *
           refine Runs.loopQ cfg_ok (σ:=Nat) [0,2,3,4,66,67] (fun d=>[.ptr 0 0,.ptr 200004 0,i64 (15 - ((4 : Nat) : Int)),i64 (j : Nat),.agg [i64 ((elt .pos cur (j + 0)).x - 1),i64 (elt .pos cur (j + 0)).y,i64 ((elt .pos cur (j + 0)).x + 1),i64 (elt .pos cur (j + 0)).y,i64 (elt .pos cur (j + 0)).x,i64 ((elt .pos cur (j + 0)).y - 1),i64 (elt .pos cur (j + 0)).x,i64 ((elt .pos cur (j + 0)).y + 1)],i64 (d : Nat)])
             (fun d=>(200004,.box (byR 4 (.own .pos (350201 + 2 * 4) 0 cur.length none) (.own .pos (350203 + 2 * 4) 0 (A d).length none))) :: (350201 + 2 * 4,.row .pos cur) :: (350203 + 2 * 4,.row .pos (A d)) :: fldM 0 1 3 fr to_ la I P1.1 nI P1.2)
             (fun d=>d ≤ 4) (fun d=>4 - d) 0 (by omega) ?_ ?_
           · conv=>whnf
             repeat' (first|exact trivial|((first|refine kL ?_|(refine ⟨fun hb=>?_,fun hb=>?_⟩<;>(try simp only [nrm] at hb)<;>(try (first|(exfalso;omega)|contradiction|exact kB hb)))|refine kW cfg_ok ?_|refine kC ?_|refine bdA ?_|refine bd2 ?_|refine bdR ?_|refine bdL ?_)<;>(conv=>whnf))|(refine And.intro ?_ ?_;rotate_left;(conv=>whnf);rotate_right))
             all_goals first|rfl|omega|(simp;done)|(rw [ha0];done)|(rw [ha0];exact List.take_length)|(rw [ha0];exact rfl)|(rw [← hP];exact rfl)|(rw [← hP,ha0];exact rfl)|trace_state
           · intro d hd N3 hN3 hE3 hT3
             by_cases hld : d < 4
             · have hbd:=dirD_bd hld
               have hop:=fopen_ev fr to_ la I P1.1 nI P1.2 (addP (elt .pos cur (j + 0)) (dirD d))
               have hade:=has d hld
               have hadl:=hal d (by omega)
               conv=>whnf
               repeat' (first|exact trivial|((first|refine kL ?_|(refine ⟨fun hb=>?_,fun hb=>?_⟩<;>(try simp only [nrm] at hb)<;>(try (first|(exfalso;omega)|contradiction|exact kB hb)))|refine kE hop [(0,0),(1,1),(3,3)] rfl ?_|refine kF hop [(0,0),(1,1),(3,3)] rfl ?_|(refine dir_pick hld rfl rfl ?_)|refine kW cfg_ok ?_|refine kC ?_|refine bdA ?_|refine bd2 ?_|refine bdR ?_|refine bdL ?_)<;>(conv=>whnf))|(refine And.intro ?_ ?_;rotate_left;(conv=>whnf);rotate_right))
               all_goals first|omega|skip
               all_goals
                 first
                   | rw [push_yes (by assumption) (by assumption)] at hade
                   | rw [push_shut (by assumption)] at hade
                   | rw [push_lit (by assumption)] at hade
                 refine hN3 _ _ ?_
                 conv=>whnf
                 refine .to (d + 1) (by omega) (by omega) ?_
                 conv=>whnf
                 repeat' (first|exact trivial|((first|refine kL ?_|(refine ⟨fun hb=>?_,fun hb=>?_⟩<;>(try simp only [nrm] at hb)<;>(try (first|(exfalso;omega)|contradiction|exact kB hb)))|refine kW cfg_ok ?_|refine kC ?_|refine bdA ?_|refine bd2 ?_|refine bdR ?_|refine bdL ?_)<;>(conv=>whnf))|(refine And.intro ?_ ?_;rotate_left;(conv=>whnf);rotate_right))
                 all_goals first|rfl|omega|exact List.take_length|(rw [hade];done)|(rw [hade];exact rfl)|(rw [hade];exact List.take_length)|(rw [hade];exact grow_pos _ (addP (elt .pos cur (j + 0)) (dirD d)))|(rw [hade];simp;done)|trace_state
             · obtain rfl : d = 4:=by omega
               conv=>whnf
               repeat' (first|exact trivial|((first|refine kL ?_|(refine ⟨fun hb=>?_,fun hb=>?_⟩<;>(try simp only [nrm] at hb)<;>(try (first|(exfalso;omega)|contradiction|exact kB hb)))|refine kW cfg_ok ?_|refine kC ?_|refine bdA ?_|refine bd2 ?_|refine bdR ?_|refine bdL ?_)<;>(conv=>whnf))|(refine And.intro ?_ ?_;rotate_left;(conv=>whnf);rotate_right))
               all_goals first|omega|skip
               refine hE3 _ _ _ ?_
               conv=>whnf
               repeat' (first|exact trivial|((first|refine kL ?_|(refine ⟨fun hb=>?_,fun hb=>?_⟩<;>(try simp only [nrm] at hb)<;>(try (first|(exfalso;omega)|contradiction|exact kB hb)))|refine kW cfg_ok ?_|refine kC ?_|refine bdA ?_|refine bd2 ?_|refine bdR ?_|refine bdL ?_)<;>(conv=>whnf))|(refine And.intro ?_ ?_;rotate_left;(conv=>whnf);rotate_right))
               all_goals first|omega|skip
               refine hN2 _ _ ?_
               conv=>whnf
               refine .to (j + 1) (by omega) (by omega) ?_
               conv=>whnf
               repeat' (first|exact trivial|((first|refine kL ?_|(refine ⟨fun hb=>?_,fun hb=>?_⟩<;>(try simp only [nrm] at hb)<;>(try (first|(exfalso;omega)|contradiction|exact kB hb)))|refine kW cfg_ok ?_|refine kC ?_|refine bdA ?_|refine bd2 ?_|refine bdR ?_|refine bdL ?_)<;>(conv=>whnf))|(refine And.intro ?_ ?_;rotate_left;(conv=>whnf);rotate_right))
               all_goals first|rfl|omega|exact List.take_length|(rw [hrj1];done)|(rw [hrj2];done)|(rw [hrj1];exact List.take_length)|(rw [hrj1,hrj2];exact rfl)|trace_state
       · obtain rfl : j = cur.length:=by omega
         conv=>whnf
         repeat' (first|exact trivial|((first|refine kL ?_|(refine ⟨fun hb=>?_,fun hb=>?_⟩<;>(try simp only [nrm] at hb)<;>(try (first|(exfalso;omega)|contradiction|exact kB hb)))|refine kW cfg_ok ?_|refine kC ?_|refine bdA ?_|refine bd2 ?_|refine bdR ?_|refine bdL ?_)<;>(conv=>whnf))|(refine And.intro ?_ ?_;rotate_left;(conv=>whnf);rotate_right))
         all_goals first|omega|exact List.take_length|skip
         refine hE2 _ _ _ ?_
         conv=>whnf
         repeat' (first|exact trivial|((first|refine kL ?_|(refine ⟨fun hb=>?_,fun hb=>?_⟩<;>(try simp only [nrm] at hb)<;>(try (first|(exfalso;omega)|contradiction|exact kB hb)))|refine kW cfg_ok ?_|refine kC ?_|refine bdA ?_|refine bd2 ?_|refine bdR ?_|refine bdL ?_)<;>(conv=>whnf))|(refine And.intro ?_ ?_;rotate_left;(conv=>whnf);rotate_right))
         all_goals first|omega|exact List.take_length|skip
         refine hN1 _ _ ?_
         conv=>whnf
         refine .to (4 + 1) (by omega) (by omega) ?_
         conv=>whnf
         repeat' (first|exact trivial|((first|refine kL ?_|(refine ⟨fun hb=>?_,fun hb=>?_⟩<;>(try simp only [nrm] at hb)<;>(try (first|(exfalso;omega)|contradiction|exact kB hb)))|refine kW cfg_ok ?_|refine kC ?_|refine bdA ?_|refine bd2 ?_|refine bdR ?_|refine bdL ?_)<;>(conv=>whnf))|(refine And.intro ?_ ?_;rotate_left;(conv=>whnf);rotate_right))
         all_goals first|rfl|omega|(rw [hsk];done)|(rw [hsk];exact rfl)|(rw [hsk];exact List.take_length)|trace_state
   · generalize (sh 5).2 = cur at *
     generalize (sh 5).1 = F0 at *
     have hr0 : litR I fr to_ la (15 - ((5 : Nat) : Int)) cur (F0,n0F l14 5) 0 = (F0,n0F l14 5):=rfl
     have hrs:=fun j hj=>litR_succ I fr to_ la (15 - ((5 : Nat) : Int)) cur (F0,n0F l14 5) (j:=j) hj
     have hrl:=fun j hj=>@litR_big I fr to_ la (15 - ((5 : Nat) : Int)) cur (F0,n0F l14 5) h1 h3 h5 (by omega) hcur j hj
     dsimp only at hrl
     generalize litR I fr to_ la (15 - ((5 : Nat) : Int)) cur (F0,n0F l14 5) = R at *
     conv=>whnf
     repeat' (first|exact trivial|((first|refine kL ?_|(refine ⟨fun hb=>?_,fun hb=>?_⟩<;>(try simp only [nrm] at hb)<;>(try (first|(exfalso;omega)|contradiction|exact kB hb)))|refine kW cfg_ok ?_|refine kC ?_|refine bdA ?_|refine bd2 ?_|refine bdR ?_|refine bdL ?_)<;>(conv=>whnf))|(refine And.intro ?_ ?_;rotate_left;(conv=>whnf);rotate_right))
     all_goals first|omega|exact List.take_length|skip
     refine Runs.loopQ cfg_ok (σ:=Nat) [0,2,3,4] (fun j=>[.ptr 0 0,.ptr 200004 0,i64 (15 - ((5 : Nat) : Int)),i64 (j : Nat)])
       (fun j=>(200004,.box (byR 5 (.own .pos (350201 + 2 * 5) 0 cur.length none) (.own .pos (350203 + 2 * 5) 0 (R j).2.length none))) :: (350201 + 2 * 5,.row .pos cur) :: (350203 + 2 * 5,.row .pos (R j).2) :: fldM 0 1 3 fr to_ la I (R j).1.1 nI (R j).1.2)
       (fun j=>j ≤ cur.length) (fun j=>cur.length - j) 0 (by omega) ?_ ?_
     · conv=>whnf
       repeat' (first|exact trivial|((first|refine kL ?_|(refine ⟨fun hb=>?_,fun hb=>?_⟩<;>(try simp only [nrm] at hb)<;>(try (first|(exfalso;omega)|contradiction|exact kB hb)))|refine kW cfg_ok ?_|refine kC ?_|refine bdA ?_|refine bd2 ?_|refine bdR ?_|refine bdL ?_)<;>(conv=>whnf))|(refine And.intro ?_ ?_;rotate_left;(conv=>whnf);rotate_right))
       all_goals first|rfl|omega|(simp;done)|(rw [hr0];done)|(rw [hr0];exact List.take_length)|(rw [hr0];exact rfl)|trace_state
     · intro j hj N2 hN2 hE2 hT2
       by_cases hlt : j < cur.length
       · have hrj:=hrs j hlt
         have hrn:=hrl j hj
         have hc : inF fr to_ la (elt .pos cur (j + 0)):=hcur _ (List.mem_of_getElem? (elt_get .pos cur j hlt))
         have hci : inF fr to_ la (elt .pos cur (((j : Nat) : Int).toNat + 0)):=hc
         unfold inF at hc hci
         by_cases hon : 0 < getZ ((R j).1.1 (elt .pos cur (j + 0)).x (elt .pos cur (j + 0)).y)
         · rw [litC_on (c:=elt .pos cur j) hon] at hrj
           conv=>whnf
           repeat' (first|exact trivial|((first|refine kL ?_|(refine ⟨fun hb=>?_,fun hb=>?_⟩<;>(try simp only [nrm] at hb)<;>(try (first|(exfalso;omega)|contradiction|exact kB hb)))|refine kW cfg_ok ?_|refine kC ?_|refine bdA ?_|refine bd2 ?_|refine bdR ?_|refine bdL ?_)<;>(conv=>whnf))|(refine And.intro ?_ ?_;rotate_left;(conv=>whnf);rotate_right))
           all_goals first|omega|exact List.take_length|skip
           refine hN2 _ _ ?_
           conv=>whnf
           refine .to (j + 1) (by omega) (by omega) ?_
           conv=>whnf
           repeat' (first|exact trivial|((first|refine kL ?_|(refine ⟨fun hb=>?_,fun hb=>?_⟩<;>(try simp only [nrm] at hb)<;>(try (first|(exfalso;omega)|contradiction|exact kB hb)))|refine kW cfg_ok ?_|refine kC ?_|refine bdA ?_|refine bd2 ?_|refine bdR ?_|refine bdL ?_)<;>(conv=>whnf))|(refine And.intro ?_ ?_;rotate_left;(conv=>whnf);rotate_right))
           all_goals first|rfl|omega|exact List.take_length|(rw [hrj];done)|(rw [hrj];exact rfl)|(rw [hrj];exact List.take_length)|trace_state
         · rw [litC_off (c:=elt .pos cur j) hon] at hrj
           conv=>whnf
           repeat' (first|exact trivial|((first|refine kL ?_|(refine ⟨fun hb=>?_,fun hb=>?_⟩<;>(try simp only [nrm] at hb)<;>(try (first|(exfalso;omega)|contradiction|exact kB hb)))|refine kW cfg_ok ?_|refine kC ?_|refine bdA ?_|refine bd2 ?_|refine bdR ?_|refine bdL ?_)<;>(conv=>whnf))|(refine And.intro ?_ ?_;rotate_left;(conv=>whnf);rotate_right))
           all_goals first|omega|exact List.take_length|skip
           have hal:=fun d hd=>@askM_len I fr to_ la (putM (R j).1 (elt .pos cur (j + 0)).x (elt .pos cur (j + 0)).y (15 - ((5 : Nat) : Int))).1 (elt .pos cur (j + 0)) (R j).2 d hd
           have has:=fun d hd=>askM_succ I fr to_ la (putM (R j).1 (elt .pos cur (j + 0)).x (elt .pos cur (j + 0)).y (15 - ((5 : Nat) : Int))).1 (elt .pos cur (j + 0)) (R j).2 (d:=d) hd
           have ha0 : askM I fr to_ la (putM (R j).1 (elt .pos cur (j + 0)).x (elt .pos cur (j + 0)).y (15 - ((5 : Nat) : Int))).1 (elt .pos cur (j + 0)) (R j).2 0 = (R j).2:=rfl
           have hrj1 : (R (j + 1)).2 = askM I fr to_ la (putM (R j).1 (elt .pos cur (j + 0)).x (elt .pos cur (j + 0)).y (15 - ((5 : Nat) : Int))).1 (elt .pos cur (j + 0)) (R j).2 4:=by rw [hrj];rfl
           have hrj2 : (R (j + 1)).1 = putM (R j).1 (elt .pos cur (j + 0)).x (elt .pos cur (j + 0)).y (15 - ((5 : Nat) : Int)):=by rw [hrj];rfl
           clear hrj
           generalize hA : askM I fr to_ la (putM (R j).1 (elt .pos cur (j + 0)).x (elt .pos cur (j + 0)).y (15 - ((5 : Nat) : Int))).1 (elt .pos cur (j + 0)) (R j).2 = A at *
           generalize hP : putM (R j).1 (elt .pos cur (j + 0)).x (elt .pos cur (j + 0)).y (15 - ((5 : Nat) : Int)) = P1 at *
           refine Runs.loopQ cfg_ok (σ:=Nat) [0,2,3,4,66,67] (fun d=>[.ptr 0 0,.ptr 200004 0,i64 (15 - ((5 : Nat) : Int)),i64 (j : Nat),.agg [i64 ((elt .pos cur (j + 0)).x - 1),i64 (elt .pos cur (j + 0)).y,i64 ((elt .pos cur (j + 0)).x + 1),i64 (elt .pos cur (j + 0)).y,i64 (elt .pos cur (j + 0)).x,i64 ((elt .pos cur (j + 0)).y - 1),i64 (elt .pos cur (j + 0)).x,i64 ((elt .pos cur (j + 0)).y + 1)],i64 (d : Nat)])
             (fun d=>(200004,.box (byR 5 (.own .pos (350201 + 2 * 5) 0 cur.length none) (.own .pos (350203 + 2 * 5) 0 (A d).length none))) :: (350201 + 2 * 5,.row .pos cur) :: (350203 + 2 * 5,.row .pos (A d)) :: fldM 0 1 3 fr to_ la I P1.1 nI P1.2)
             (fun d=>d ≤ 4) (fun d=>4 - d) 0 (by omega) ?_ ?_
           · conv=>whnf
             repeat' (first|exact trivial|((first|refine kL ?_|(refine ⟨fun hb=>?_,fun hb=>?_⟩<;>(try simp only [nrm] at hb)<;>(try (first|(exfalso;omega)|contradiction|exact kB hb)))|refine kW cfg_ok ?_|refine kC ?_|refine bdA ?_|refine bd2 ?_|refine bdR ?_|refine bdL ?_)<;>(conv=>whnf))|(refine And.intro ?_ ?_;rotate_left;(conv=>whnf);rotate_right))
             all_goals first|rfl|omega|(simp;done)|(rw [ha0];done)|(rw [ha0];exact List.take_length)|(rw [ha0];exact rfl)|(rw [← hP];exact rfl)|(rw [← hP,ha0];exact rfl)|trace_state
           · intro d hd N3 hN3 hE3 hT3
             by_cases hld : d < 4
             · have hbd:=dirD_bd hld
               have hop:=fopen_ev fr to_ la I P1.1 nI P1.2 (addP (elt .pos cur (j + 0)) (dirD d))
               have hade:=has d hld
               have hadl:=hal d (by omega)
               conv=>whnf
               repeat' (first|exact trivial|((first|refine kL ?_|(refine ⟨fun hb=>?_,fun hb=>?_⟩<;>(try simp only [nrm] at hb)<;>(try (first|(exfalso;omega)|contradiction|exact kB hb)))|refine kE hop [(0,0),(1,1),(3,3)] rfl ?_|refine kF hop [(0,0),(1,1),(3,3)] rfl ?_|(refine dir_pick hld rfl rfl ?_)|refine kW cfg_ok ?_|refine kC ?_|refine bdA ?_|refine bd2 ?_|refine bdR ?_|refine bdL ?_)<;>(conv=>whnf))|(refine And.intro ?_ ?_;rotate_left;(conv=>whnf);rotate_right))
               all_goals first|omega|skip
               all_goals
                 first
                   | rw [push_yes (by assumption) (by assumption)] at hade
                   | rw [push_shut (by assumption)] at hade
                   | rw [push_lit (by assumption)] at hade
                 refine hN3 _ _ ?_
                 conv=>whnf
                 refine .to (d + 1) (by omega) (by omega) ?_
                 conv=>whnf
                 repeat' (first|exact trivial|((first|refine kL ?_|(refine ⟨fun hb=>?_,fun hb=>?_⟩<;>(try simp only [nrm] at hb)<;>(try (first|(exfalso;omega)|contradiction|exact kB hb)))|refine kW cfg_ok ?_|refine kC ?_|refine bdA ?_|refine bd2 ?_|refine bdR ?_|refine bdL ?_)<;>(conv=>whnf))|(refine And.intro ?_ ?_;rotate_left;(conv=>whnf);rotate_right))
                 all_goals first|rfl|omega|exact List.take_length|(rw [hade];done)|(rw [hade];exact rfl)|(rw [hade];exact List.take_length)|(rw [hade];exact grow_pos _ (addP (elt .pos cur (j + 0)) (dirD d)))|(rw [hade];simp;done)|trace_state
             · obtain rfl : d = 4:=by omega
               conv=>whnf
               repeat' (first|exact trivial|((first|refine kL ?_|(refine ⟨fun hb=>?_,fun hb=>?_⟩<;>(try simp only [nrm] at hb)<;>(try (first|(exfalso;omega)|contradiction|exact kB hb)))|refine kW cfg_ok ?_|refine kC ?_|refine bdA ?_|refine bd2 ?_|refine bdR ?_|refine bdL ?_)<;>(conv=>whnf))|(refine And.intro ?_ ?_;rotate_left;(conv=>whnf);rotate_right))
               all_goals first|omega|skip
               refine hE3 _ _ _ ?_
               conv=>whnf
               repeat' (first|exact trivial|((first|refine kL ?_|(refine ⟨fun hb=>?_,fun hb=>?_⟩<;>(try simp only [nrm] at hb)<;>(try (first|(exfalso;omega)|contradiction|exact kB hb)))|refine kW cfg_ok ?_|refine kC ?_|refine bdA ?_|refine bd2 ?_|refine bdR ?_|refine bdL ?_)<;>(conv=>whnf))|(refine And.intro ?_ ?_;rotate_left;(conv=>whnf);rotate_right))
               all_goals first|omega|skip
               refine hN2 _ _ ?_
               conv=>whnf
               refine .to (j + 1) (by omega) (by omega) ?_
               conv=>whnf
               repeat' (first|exact trivial|((first|refine kL ?_|(refine ⟨fun hb=>?_,fun hb=>?_⟩<;>(try simp only [nrm] at hb)<;>(try (first|(exfalso;omega)|contradiction|exact kB hb)))|refine kW cfg_ok ?_|refine kC ?_|refine bdA ?_|refine bd2 ?_|refine bdR ?_|refine bdL ?_)<;>(conv=>whnf))|(refine And.intro ?_ ?_;rotate_left;(conv=>whnf);rotate_right))
               all_goals first|rfl|omega|exact List.take_length|(rw [hrj1];done)|(rw [hrj2];done)|(rw [hrj1];exact List.take_length)|(rw [hrj1,hrj2];exact rfl)|trace_state
       · obtain rfl : j = cur.length:=by omega
         conv=>whnf
         repeat' (first|exact trivial|((first|refine kL ?_|(refine ⟨fun hb=>?_,fun hb=>?_⟩<;>(try simp only [nrm] at hb)<;>(try (first|(exfalso;omega)|contradiction|exact kB hb)))|refine kW cfg_ok ?_|refine kC ?_|refine bdA ?_|refine bd2 ?_|refine bdR ?_|refine bdL ?_)<;>(conv=>whnf))|(refine And.intro ?_ ?_;rotate_left;(conv=>whnf);rotate_right))
         all_goals first|omega|exact List.take_length|skip
         refine hE2 _ _ _ ?_
         conv=>whnf
         repeat' (first|exact trivial|((first|refine kL ?_|(refine ⟨fun hb=>?_,fun hb=>?_⟩<;>(try simp only [nrm] at hb)<;>(try (first|(exfalso;omega)|contradiction|exact kB hb)))|refine kW cfg_ok ?_|refine kC ?_|refine bdA ?_|refine bd2 ?_|refine bdR ?_|refine bdL ?_)<;>(conv=>whnf))|(refine And.intro ?_ ?_;rotate_left;(conv=>whnf);rotate_right))
         all_goals first|omega|exact List.take_length|skip
         refine hN1 _ _ ?_
         conv=>whnf
         refine .to (5 + 1) (by omega) (by omega) ?_
         conv=>whnf
         repeat' (first|exact trivial|((first|refine kL ?_|(refine ⟨fun hb=>?_,fun hb=>?_⟩<;>(try simp only [nrm] at hb)<;>(try (first|(exfalso;omega)|contradiction|exact kB hb)))|refine kW cfg_ok ?_|refine kC ?_|refine bdA ?_|refine bd2 ?_|refine bdR ?_|refine bdL ?_)<;>(conv=>whnf))|(refine And.intro ?_ ?_;rotate_left;(conv=>whnf);rotate_right))
         all_goals first|rfl|omega|(rw [hsk];done)|(rw [hsk];exact rfl)|(rw [hsk];exact List.take_length)|trace_state
   · generalize (sh 6).2 = cur at *
     generalize (sh 6).1 = F0 at *
     have hr0 : litR I fr to_ la (15 - ((6 : Nat) : Int)) cur (F0,n0F l14 6) 0 = (F0,n0F l14 6):=rfl
     have hrs:=fun j hj=>litR_succ I fr to_ la (15 - ((6 : Nat) : Int)) cur (F0,n0F l14 6) (j:=j) hj
     have hrl:=fun j hj=>@litR_big I fr to_ la (15 - ((6 : Nat) : Int)) cur (F0,n0F l14 6) h1 h3 h5 (by omega) hcur j hj
     dsimp only at hrl
     generalize litR I fr to_ la (15 - ((6 : Nat) : Int)) cur (F0,n0F l14 6) = R at *
     conv=>whnf
     repeat' (first|exact trivial|((first|refine kL ?_|(refine ⟨fun hb=>?_,fun hb=>?_⟩<;>(try simp only [nrm] at hb)<;>(try (first|(exfalso;omega)|contradiction|exact kB hb)))|refine kW cfg_ok ?_|refine kC ?_|refine bdA ?_|refine bd2 ?_|refine bdR ?_|refine bdL ?_)<;>(conv=>whnf))|(refine And.intro ?_ ?_;rotate_left;(conv=>whnf);rotate_right))
     all_goals first|omega|exact List.take_length|skip
     refine Runs.loopQ cfg_ok (σ:=Nat) [0,2,3,4] (fun j=>[.ptr 0 0,.ptr 200004 0,i64 (15 - ((6 : Nat) : Int)),i64 (j : Nat)])
       (fun j=>(200004,.box (byR 6 (.own .pos (350201 + 2 * 6) 0 cur.length none) (.own .pos (350203 + 2 * 6) 0 (R j).2.length none))) :: (350201 + 2 * 6,.row .pos cur) :: (350203 + 2 * 6,.row .pos (R j).2) :: fldM 0 1 3 fr to_ la I (R j).1.1 nI (R j).1.2)
       (fun j=>j ≤ cur.length) (fun j=>cur.length - j) 0 (by omega) ?_ ?_
     · conv=>whnf
       repeat' (first|exact trivial|((first|refine kL ?_|(refine ⟨fun hb=>?_,fun hb=>?_⟩<;>(try simp only [nrm] at hb)<;>(try (first|(exfalso;omega)|contradiction|exact kB hb)))|refine kW cfg_ok ?_|refine kC ?_|refine bdA ?_|refine bd2 ?_|refine bdR ?_|refine bdL ?_)<;>(conv=>whnf))|(refine And.intro ?_ ?_;rotate_left;(conv=>whnf);rotate_right))
       all_goals first|rfl|omega|(simp;done)|(rw [hr0];done)|(rw [hr0];exact List.take_length)|(rw [hr0];exact rfl)|trace_state
     · intro j hj N2 hN2 hE2 hT2
       by_cases hlt : j < cur.length
       · have hrj:=hrs j hlt
         have hrn:=hrl j hj
         have hc : inF fr to_ la (elt .pos cur (j + 0)):=hcur _ (List.mem_of_getElem? (elt_get .pos cur j hlt))
         have hci : inF fr to_ la (elt .pos cur (((j : Nat) : Int).toNat + 0)):=hc
         unfold inF at hc hci
         by_cases hon : 0 < getZ ((R j).1.1 (elt .pos cur (j + 0)).x (elt .pos cur (j + 0)).y)
         · rw [litC_on (c:=elt .pos cur j) hon] at hrj
           conv=>whnf
           repeat' (first|exact trivial|((first|refine kL ?_|(refine ⟨fun hb=>?_,fun hb=>?_⟩<;>(try simp only [nrm] at hb)<;>(try (first|(exfalso;omega)|contradiction|exact kB hb)))|refine kW cfg_ok ?_|refine kC ?_|refine bdA ?_|refine bd2 ?_|refine bdR ?_|refine bdL ?_)<;>(conv=>whnf))|(refine And.intro ?_ ?_;rotate_left;(conv=>whnf);rotate_right))
           all_goals first|omega|exact List.take_length|skip
           refine hN2 _ _ ?_
           conv=>whnf
           refine .to (j + 1) (by omega) (by omega) ?_
           conv=>whnf
           repeat' (first|exact trivial|((first|refine kL ?_|(refine ⟨fun hb=>?_,fun hb=>?_⟩<;>(try simp only [nrm] at hb)<;>(try (first|(exfalso;omega)|contradiction|exact kB hb)))|refine kW cfg_ok ?_|refine kC ?_|refine bdA ?_|refine bd2 ?_|refine bdR ?_|refine bdL ?_)<;>(conv=>whnf))|(refine And.intro ?_ ?_;rotate_left;(conv=>whnf);rotate_right))
           all_goals first|rfl|omega|exact List.take_length|(rw [hrj];done)|(rw [hrj];exact rfl)|(rw [hrj];exact List.take_length)|trace_state
         · rw [litC_off (c:=elt .pos cur j) hon] at hrj
           conv=>whnf
           repeat' (first|exact trivial|((first|refine kL ?_|(refine ⟨fun hb=>?_,fun hb=>?_⟩<;>(try simp only [nrm] at hb)<;>(try (first|(exfalso;omega)|contradiction|exact kB hb)))|refine kW cfg_ok ?_|refine kC ?_|refine bdA ?_|refine bd2 ?_|refine bdR ?_|refine bdL ?_)<;>(conv=>whnf))|(refine And.intro ?_ ?_;rotate_left;(conv=>whnf);rotate_right))
           all_goals first|omega|exact List.take_length|skip
           have hal:=fun d hd=>@askM_len I fr to_ la (putM (R j).1 (elt .pos cur (j + 0)).x (elt .pos cur (j + 0)).y (15 - ((6 : Nat) : Int))).1 (elt .pos cur (j + 0)) (R j).2 d hd
           have has:=fun d hd=>askM_succ I fr to_ la (putM (R j).1 (elt .pos cur (j + 0)).x (elt .pos cur (j + 0)).y (15 - ((6 : Nat) : Int))).1 (elt .pos cur (j + 0)) (R j).2 (d:=d) hd
           have ha0 : askM I fr to_ la (putM (R j).1 (elt .pos cur (j + 0)).x (elt .pos cur (j + 0)).y (15 - ((6 : Nat) : Int))).1 (elt .pos cur (j + 0)) (R j).2 0 = (R j).2:=rfl
           have hrj1 : (R (j + 1)).2 = askM I fr to_ la (putM (R j).1 (elt .pos cur (j + 0)).x (elt .pos cur (j + 0)).y (15 - ((6 : Nat) : Int))).1 (elt .pos cur (j + 0)) (R j).2 4:=by rw [hrj];rfl
           have hrj2 : (R (j + 1)).1 = putM (R j).1 (elt .pos cur (j + 0)).x (elt .pos cur (j + 0)).y (15 - ((6 : Nat) : Int)):=by rw [hrj];rfl
           clear hrj
           generalize hA : askM I fr to_ la (putM (R j).1 (elt .pos cur (j + 0)).x (elt .pos cur (j + 0)).y (15 - ((6 : Nat) : Int))).1 (elt .pos cur (j + 0)) (R j).2 = A at *
           generalize hP : putM (R j).1 (elt .pos cur (j + 0)).x (elt .pos cur (j + 0)).y (15 - ((6 : Nat) : Int)) = P1 at *
           refine Runs.loopQ cfg_ok (σ:=Nat) [0,2,3,4,66,67] (fun d=>[.ptr 0 0,.ptr 200004 0,i64 (15 - ((6 : Nat) : Int)),i64 (j : Nat),.agg [i64 ((elt .pos cur (j + 0)).x - 1),i64 (elt .pos cur (j + 0)).y,i64 ((elt .pos cur (j + 0)).x + 1),i64 (elt .pos cur (j + 0)).y,i64 (elt .pos cur (j + 0)).x,i64 ((elt .pos cur (j + 0)).y - 1),i64 (elt .pos cur (j + 0)).x,i64 ((elt .pos cur (j + 0)).y + 1)],i64 (d : Nat)])
             (fun d=>(200004,.box (byR 6 (.own .pos (350201 + 2 * 6) 0 cur.length none) (.own .pos (350203 + 2 * 6) 0 (A d).length none))) :: (350201 + 2 * 6,.row .pos cur) :: (350203 + 2 * 6,.row .pos (A d)) :: fldM 0 1 3 fr to_ la I P1.1 nI P1.2)
             (fun d=>d ≤ 4) (fun d=>4 - d) 0 (by omega) ?_ ?_
           · conv=>whnf
             repeat' (first|exact trivial|((first|refine kL ?_|(refine ⟨fun hb=>?_,fun hb=>?_⟩<;>(try simp only [nrm] at hb)<;>(try (first|(exfalso;omega)|contradiction|exact kB hb)))|refine kW cfg_ok ?_|refine kC ?_|refine bdA ?_|refine bd2 ?_|refine bdR ?_|refine bdL ?_)<;>(conv=>whnf))|(refine And.intro ?_ ?_;rotate_left;(conv=>whnf);rotate_right))
             all_goals first|rfl|omega|(simp;done)|(rw [ha0];done)|(rw [ha0];exact List.take_length)|(rw [ha0];exact rfl)|(rw [← hP];exact rfl)|(rw [← hP,ha0];exact rfl)|trace_state
           · intro d hd N3 hN3 hE3 hT3
             by_cases hld : d < 4
             · have hbd:=dirD_bd hld
               have hop:=fopen_ev fr to_ la I P1.1 nI P1.2 (addP (elt .pos cur (j + 0)) (dirD d))
               have hade:=has d hld
               have hadl:=hal d (by omega)
               conv=>whnf
               repeat' (first|exact trivial|((first|refine kL ?_|(refine ⟨fun hb=>?_,fun hb=>?_⟩<;>(try simp only [nrm] at hb)<;>(try (first|(exfalso;omega)|contradiction|exact kB hb)))|refine kE hop [(0,0),(1,1),(3,3)] rfl ?_|refine kF hop [(0,0),(1,1),(3,3)] rfl ?_|(refine dir_pick hld rfl rfl ?_)|refine kW cfg_ok ?_|refine kC ?_|refine bdA ?_|refine bd2 ?_|refine bdR ?_|refine bdL ?_)<;>(conv=>whnf))|(refine And.intro ?_ ?_;rotate_left;(conv=>whnf);rotate_right))
               all_goals first|omega|skip
               all_goals
                 first
                   | rw [push_yes (by assumption) (by assumption)] at hade
                   | rw [push_shut (by assumption)] at hade
                   | rw [push_lit (by assumption)] at hade
                 refine hN3 _ _ ?_
                 conv=>whnf
                 refine .to (d + 1) (by omega) (by omega) ?_
                 conv=>whnf
                 repeat' (first|exact trivial|((first|refine kL ?_|(refine ⟨fun hb=>?_,fun hb=>?_⟩<;>(try simp only [nrm] at hb)<;>(try (first|(exfalso;omega)|contradiction|exact kB hb)))|refine kW cfg_ok ?_|refine kC ?_|refine bdA ?_|refine bd2 ?_|refine bdR ?_|refine bdL ?_)<;>(conv=>whnf))|(refine And.intro ?_ ?_;rotate_left;(conv=>whnf);rotate_right))
                 all_goals first|rfl|omega|exact List.take_length|(rw [hade];done)|(rw [hade];exact rfl)|(rw [hade];exact List.take_length)|(rw [hade];exact grow_pos _ (addP (elt .pos cur (j + 0)) (dirD d)))|(rw [hade];simp;done)|trace_state
             · obtain rfl : d = 4:=by omega
               conv=>whnf
               repeat' (first|exact trivial|((first|refine kL ?_|(refine ⟨fun hb=>?_,fun hb=>?_⟩<;>(try simp only [nrm] at hb)<;>(try (first|(exfalso;omega)|contradiction|exact kB hb)))|refine kW cfg_ok ?_|refine kC ?_|refine bdA ?_|refine bd2 ?_|refine bdR ?_|refine bdL ?_)<;>(conv=>whnf))|(refine And.intro ?_ ?_;rotate_left;(conv=>whnf);rotate_right))
               all_goals first|omega|skip
               refine hE3 _ _ _ ?_
               conv=>whnf
               repeat' (first|exact trivial|((first|refine kL ?_|(refine ⟨fun hb=>?_,fun hb=>?_⟩<;>(try simp only [nrm] at hb)<;>(try (first|(exfalso;omega)|contradiction|exact kB hb)))|refine kW cfg_ok ?_|refine kC ?_|refine bdA ?_|refine bd2 ?_|refine bdR ?_|refine bdL ?_)<;>(conv=>whnf))|(refine And.intro ?_ ?_;rotate_left;(conv=>whnf);rotate_right))
               all_goals first|omega|skip
               refine hN2 _ _ ?_
               conv=>whnf
               refine .to (j + 1) (by omega) (by omega) ?_
               conv=>whnf
               repeat' (first|exact trivial|((first|refine kL ?_|(refine ⟨fun hb=>?_,fun hb=>?_⟩<;>(try simp only [nrm] at hb)<;>(try (first|(exfalso;omega)|contradiction|exact kB hb)))|refine kW cfg_ok ?_|refine kC ?_|refine bdA ?_|refine bd2 ?_|refine bdR ?_|refine bdL ?_)<;>(conv=>whnf))|(refine And.intro ?_ ?_;rotate_left;(conv=>whnf);rotate_right))
               all_goals first|rfl|omega|exact List.take_length|(rw [hrj1];done)|(rw [hrj2];done)|(rw [hrj1];exact List.take_length)|(rw [hrj1,hrj2];exact rfl)|trace_state
       · obtain rfl : j = cur.length:=by omega
         conv=>whnf
         repeat' (first|exact trivial|((first|refine kL ?_|(refine ⟨fun hb=>?_,fun hb=>?_⟩<;>(try simp only [nrm] at hb)<;>(try (first|(exfalso;omega)|contradiction|exact kB hb)))|refine kW cfg_ok ?_|refine kC ?_|refine bdA ?_|refine bd2 ?_|refine bdR ?_|refine bdL ?_)<;>(conv=>whnf))|(refine And.intro ?_ ?_;rotate_left;(conv=>whnf);rotate_right))
         all_goals first|omega|exact List.take_length|skip
         refine hE2 _ _ _ ?_
         conv=>whnf
         repeat' (first|exact trivial|((first|refine kL ?_|(refine ⟨fun hb=>?_,fun hb=>?_⟩<;>(try simp only [nrm] at hb)<;>(try (first|(exfalso;omega)|contradiction|exact kB hb)))|refine kW cfg_ok ?_|refine kC ?_|refine bdA ?_|refine bd2 ?_|refine bdR ?_|refine bdL ?_)<;>(conv=>whnf))|(refine And.intro ?_ ?_;rotate_left;(conv=>whnf);rotate_right))
         all_goals first|omega|exact List.take_length|skip
         refine hN1 _ _ ?_
         conv=>whnf
         refine .to (6 + 1) (by omega) (by omega) ?_
         conv=>whnf
         repeat' (first|exact trivial|((first|refine kL ?_|(refine ⟨fun hb=>?_,fun hb=>?_⟩<;>(try simp only [nrm] at hb)<;>(try (first|(exfalso;omega)|contradiction|exact kB hb)))|refine kW cfg_ok ?_|refine kC ?_|refine bdA ?_|refine bd2 ?_|refine bdR ?_|refine bdL ?_)<;>(conv=>whnf))|(refine And.intro ?_ ?_;rotate_left;(conv=>whnf);rotate_right))
         all_goals first|rfl|omega|(rw [hsk];done)|(rw [hsk];exact rfl)|(rw [hsk];exact List.take_length)|trace_state
   · generalize (sh 7).2 = cur at *
     generalize (sh 7).1 = F0 at *
     have hr0 : litR I fr to_ la (15 - ((7 : Nat) : Int)) cur (F0,n0F l14 7) 0 = (F0,n0F l14 7):=rfl
     have hrs:=fun j hj=>litR_succ I fr to_ la (15 - ((7 : Nat) : Int)) cur (F0,n0F l14 7) (j:=j) hj
     have hrl:=fun j hj=>@litR_big I fr to_ la (15 - ((7 : Nat) : Int)) cur (F0,n0F l14 7) h1 h3 h5 (by omega) hcur j hj
     dsimp only at hrl
     generalize litR I fr to_ la (15 - ((7 : Nat) : Int)) cur (F0,n0F l14 7) = R at *
     conv=>whnf
     repeat' (first|exact trivial|((first|refine kL ?_|(refine ⟨fun hb=>?_,fun hb=>?_⟩<;>(try simp only [nrm] at hb)<;>(try (first|(exfalso;omega)|contradiction|exact kB hb)))|refine kW cfg_ok ?_|refine kC ?_|refine bdA ?_|refine bd2 ?_|refine bdR ?_|refine bdL ?_)<;>(conv=>whnf))|(refine And.intro ?_ ?_;rotate_left;(conv=>whnf);rotate_right))
     all_goals first|omega|exact List.take_length|skip
     refine Runs.loopQ cfg_ok (σ:=Nat) [0,2,3,4] (fun j=>[.ptr 0 0,.ptr 200004 0,i64 (15 - ((7 : Nat) : Int)),i64 (j : Nat)])
       (fun j=>(200004,.box (byR 7 (.own .pos (350201 + 2 * 7) 0 cur.length none) (.own .pos (350203 + 2 * 7) 0 (R j).2.length none))) :: (350201 + 2 * 7,.row .pos cur) :: (350203 + 2 * 7,.row .pos (R j).2) :: fldM 0 1 3 fr to_ la I (R j).1.1 nI (R j).1.2)
       (fun j=>j ≤ cur.length) (fun j=>cur.length - j) 0 (by omega) ?_ ?_
     · conv=>whnf
       repeat' (first|exact trivial|((first|refine kL ?_|(refine ⟨fun hb=>?_,fun hb=>?_⟩<;>(try simp only [nrm] at hb)<;>(try (first|(exfalso;omega)|contradiction|exact kB hb)))|refine kW cfg_ok ?_|refine kC ?_|refine bdA ?_|refine bd2 ?_|refine bdR ?_|refine bdL ?_)<;>(conv=>whnf))|(refine And.intro ?_ ?_;rotate_left;(conv=>whnf);rotate_right))
       all_goals first|rfl|omega|(simp;done)|(rw [hr0];done)|(rw [hr0];exact List.take_length)|(rw [hr0];exact rfl)|trace_state
     · intro j hj N2 hN2 hE2 hT2
       by_cases hlt : j < cur.length
       · have hrj:=hrs j hlt
         have hrn:=hrl j hj
         have hc : inF fr to_ la (elt .pos cur (j + 0)):=hcur _ (List.mem_of_getElem? (elt_get .pos cur j hlt))
         have hci : inF fr to_ la (elt .pos cur (((j : Nat) : Int).toNat + 0)):=hc
         unfold inF at hc hci
         by_cases hon : 0 < getZ ((R j).1.1 (elt .pos cur (j + 0)).x (elt .pos cur (j + 0)).y)
         · rw [litC_on (c:=elt .pos cur j) hon] at hrj
           conv=>whnf
           repeat' (first|exact trivial|((first|refine kL ?_|(refine ⟨fun hb=>?_,fun hb=>?_⟩<;>(try simp only [nrm] at hb)<;>(try (first|(exfalso;omega)|contradiction|exact kB hb)))|refine kW cfg_ok ?_|refine kC ?_|refine bdA ?_|refine bd2 ?_|refine bdR ?_|refine bdL ?_)<;>(conv=>whnf))|(refine And.intro ?_ ?_;rotate_left;(conv=>whnf);rotate_right))
           all_goals first|omega|exact List.take_length|skip
           refine hN2 _ _ ?_
           conv=>whnf
           refine .to (j + 1) (by omega) (by omega) ?_
           conv=>whnf
           repeat' (first|exact trivial|((first|refine kL ?_|(refine ⟨fun hb=>?_,fun hb=>?_⟩<;>(try simp only [nrm] at hb)<;>(try (first|(exfalso;omega)|contradiction|exact kB hb)))|refine kW cfg_ok ?_|refine kC ?_|refine bdA ?_|refine bd2 ?_|refine bdR ?_|refine bdL ?_)<;>(conv=>whnf))|(refine And.intro ?_ ?_;rotate_left;(conv=>whnf);rotate_right))
           all_goals first|rfl|omega|exact List.take_length|(rw [hrj];done)|(rw [hrj];exact rfl)|(rw [hrj];exact List.take_length)|trace_state
         · rw [litC_off (c:=elt .pos cur j) hon] at hrj
           conv=>whnf
           repeat' (first|exact trivial|((first|refine kL ?_|(refine ⟨fun hb=>?_,fun hb=>?_⟩<;>(try simp only [nrm] at hb)<;>(try (first|(exfalso;omega)|contradiction|exact kB hb)))|refine kW cfg_ok ?_|refine kC ?_|refine bdA ?_|refine bd2 ?_|refine bdR ?_|refine bdL ?_)<;>(conv=>whnf))|(refine And.intro ?_ ?_;rotate_left;(conv=>whnf);rotate_right))
           all_goals first|omega|exact List.take_length|skip
           have hal:=fun d hd=>@askM_len I fr to_ la (putM (R j).1 (elt .pos cur (j + 0)).x (elt .pos cur (j + 0)).y (15 - ((7 : Nat) : Int))).1 (elt .pos cur (j + 0)) (R j).2 d hd
           have has:=fun d hd=>askM_succ I fr to_ la (putM (R j).1 (elt .pos cur (j + 0)).x (elt .pos cur (j + 0)).y (15 - ((7 : Nat) : Int))).1 (elt .pos cur (j + 0)) (R j).2 (d:=d) hd
           have ha0 : askM I fr to_ la (putM (R j).1 (elt .pos cur (j + 0)).x (elt .pos cur (j + 0)).y (15 - ((7 : Nat) : Int))).1 (elt .pos cur (j + 0)) (R j).2 0 = (R j).2:=rfl
           have hrj1 : (R (j + 1)).2 = askM I fr to_ la (putM (R j).1 (elt .pos cur (j + 0)).x (elt .pos cur (j + 0)).y (15 - ((7 : Nat) : Int))).1 (elt .pos cur (j + 0)) (R j).2 4:=by rw [hrj];rfl
           have hrj2 : (R (j + 1)).1 = putM (R j).1 (elt .pos cur (j + 0)).x (elt .pos cur (j + 0)).y (15 - ((7 : Nat) : Int)):=by rw [hrj];rfl
           clear hrj
           generalize hA : askM I fr to_ la (putM (R j).1 (elt .pos cur (j + 0)).x (elt .pos cur (j + 0)).y (15 - ((7 : Nat) : Int))).1 (elt .pos cur (j + 0)) (R j).2 = A at *
           generalize hP : putM (R j).1 (elt .pos cur (j + 0)).x (elt .pos cur (j + 0)).y (15 - ((7 : Nat) : Int)) = P1 at *
           refine Runs.loopQ cfg_ok (σ:=Nat) [0,2,3,4,66,67] (fun d=>[.ptr 0 0,.ptr 200004 0,i64 (15 - ((7 : Nat) : Int)),i64 (j : Nat),.agg [i64 ((elt .pos cur (j + 0)).x - 1),i64 (elt .pos cur (j + 0)).y,i64 ((elt .pos cur (j + 0)).x + 1),i64 (elt .pos cur (j + 0)).y,i64 (elt .pos cur (j + 0)).x,i64 ((elt .pos cur (j + 0)).y - 1),i64 (elt .pos cur (j + 0)).x,i64 ((elt .pos cur (j + 0)).y + 1)],i64 (d : Nat)])
             (fun d=>(200004,.box (byR 7 (.own .pos (350201 + 2 * 7) 0 cur.length none) (.own .pos (350203 + 2 * 7) 0 (A d).length none))) :: (350201 + 2 * 7,.row .pos cur) :: (350203 + 2 * 7,.row .pos (A d)) :: fldM 0 1 3 fr to_ la I P1.1 nI P1.2)
             (fun d=>d ≤ 4) (fun d=>4 - d) 0 (by omega) ?_ ?_
           · conv=>whnf
             repeat' (first|exact trivial|((first|refine kL ?_|(refine ⟨fun hb=>?_,fun hb=>?_⟩<;>(try simp only [nrm] at hb)<;>(try (first|(exfalso;omega)|contradiction|exact kB hb)))|refine kW cfg_ok ?_|refine kC ?_|refine bdA ?_|refine bd2 ?_|refine bdR ?_|refine bdL ?_)<;>(conv=>whnf))|(refine And.intro ?_ ?_;rotate_left;(conv=>whnf);rotate_right))
             all_goals first|rfl|omega|(simp;done)|(rw [ha0];done)|(rw [ha0];exact List.take_length)|(rw [ha0];exact rfl)|(rw [← hP];exact rfl)|(rw [← hP,ha0];exact rfl)|trace_state
           · intro d hd N3 hN3 hE3 hT3
             by_cases hld : d < 4
             · have hbd:=dirD_bd hld
               have hop:=fopen_ev fr to_ la I P1.1 nI P1.2 (addP (elt .pos cur (j + 0)) (dirD d))
               have hade:=has d hld
               have hadl:=hal d (by omega)
               conv=>whnf
               repeat' (first|exact trivial|((first|refine kL ?_|(refine ⟨fun hb=>?_,fun hb=>?_⟩<;>(try simp only [nrm] at hb)<;>(try (first|(exfalso;omega)|contradiction|exact kB hb)))|refine kE hop [(0,0),(1,1),(3,3)] rfl ?_|refine kF hop [(0,0),(1,1),(3,3)] rfl ?_|(refine dir_pick hld rfl rfl ?_)|refine kW cfg_ok ?_|refine kC ?_|refine bdA ?_|refine bd2 ?_|refine bdR ?_|refine bdL ?_)<;>(conv=>whnf))|(refine And.intro ?_ ?_;rotate_left;(conv=>whnf);rotate_right))
               all_goals first|omega|skip
               all_goals
                 first
                   | rw [push_yes (by assumption) (by assumption)] at hade
                   | rw [push_shut (by assumption)] at hade
                   | rw [push_lit (by assumption)] at hade
                 refine hN3 _ _ ?_
                 conv=>whnf
                 refine .to (d + 1) (by omega) (by omega) ?_
                 conv=>whnf
                 repeat' (first|exact trivial|((first|refine kL ?_|(refine ⟨fun hb=>?_,fun hb=>?_⟩<;>(try simp only [nrm] at hb)<;>(try (first|(exfalso;omega)|contradiction|exact kB hb)))|refine kW cfg_ok ?_|refine kC ?_|refine bdA ?_|refine bd2 ?_|refine bdR ?_|refine bdL ?_)<;>(conv=>whnf))|(refine And.intro ?_ ?_;rotate_left;(conv=>whnf);rotate_right))
                 all_goals first|rfl|omega|exact List.take_length|(rw [hade];done)|(rw [hade];exact rfl)|(rw [hade];exact List.take_length)|(rw [hade];exact grow_pos _ (addP (elt .pos cur (j + 0)) (dirD d)))|(rw [hade];simp;done)|trace_state
             · obtain rfl : d = 4:=by omega
               conv=>whnf
               repeat' (first|exact trivial|((first|refine kL ?_|(refine ⟨fun hb=>?_,fun hb=>?_⟩<;>(try simp only [nrm] at hb)<;>(try (first|(exfalso;omega)|contradiction|exact kB hb)))|refine kW cfg_ok ?_|refine kC ?_|refine bdA ?_|refine bd2 ?_|refine bdR ?_|refine bdL ?_)<;>(conv=>whnf))|(refine And.intro ?_ ?_;rotate_left;(conv=>whnf);rotate_right))
               all_goals first|omega|skip
               refine hE3 _ _ _ ?_
               conv=>whnf
               repeat' (first|exact trivial|((first|refine kL ?_|(refine ⟨fun hb=>?_,fun hb=>?_⟩<;>(try simp only [nrm] at hb)<;>(try (first|(exfalso;omega)|contradiction|exact kB hb)))|refine kW cfg_ok ?_|refine kC ?_|refine bdA ?_|refine bd2 ?_|refine bdR ?_|refine bdL ?_)<;>(conv=>whnf))|(refine And.intro ?_ ?_;rotate_left;(conv=>whnf);rotate_right))
               all_goals first|omega|skip
               refine hN2 _ _ ?_
               conv=>whnf
               refine .to (j + 1) (by omega) (by omega) ?_
               conv=>whnf
               repeat' (first|exact trivial|((first|refine kL ?_|(refine ⟨fun hb=>?_,fun hb=>?_⟩<;>(try simp only [nrm] at hb)<;>(try (first|(exfalso;omega)|contradiction|exact kB hb)))|refine kW cfg_ok ?_|refine kC ?_|refine bdA ?_|refine bd2 ?_|refine bdR ?_|refine bdL ?_)<;>(conv=>whnf))|(refine And.intro ?_ ?_;rotate_left;(conv=>whnf);rotate_right))
               all_goals first|rfl|omega|exact List.take_length|(rw [hrj1];done)|(rw [hrj2];done)|(rw [hrj1];exact List.take_length)|(rw [hrj1,hrj2];exact rfl)|trace_state
       · obtain rfl : j = cur.length:=by omega
         conv=>whnf
         repeat' (first|exact trivial|((first|refine kL ?_|(refine ⟨fun hb=>?_,fun hb=>?_⟩<;>(try simp only [nrm] at hb)<;>(try (first|(exfalso;omega)|contradiction|exact kB hb)))|refine kW cfg_ok ?_|refine kC ?_|refine bdA ?_|refine bd2 ?_|refine bdR ?_|refine bdL ?_)<;>(conv=>whnf))|(refine And.intro ?_ ?_;rotate_left;(conv=>whnf);rotate_right))
         all_goals first|omega|exact List.take_length|skip
         refine hE2 _ _ _ ?_
         conv=>whnf
         repeat' (first|exact trivial|((first|refine kL ?_|(refine ⟨fun hb=>?_,fun hb=>?_⟩<;>(try simp only [nrm] at hb)<;>(try (first|(exfalso;omega)|contradiction|exact kB hb)))|refine kW cfg_ok ?_|refine kC ?_|refine bdA ?_|refine bd2 ?_|refine bdR ?_|refine bdL ?_)<;>(conv=>whnf))|(refine And.intro ?_ ?_;rotate_left;(conv=>whnf);rotate_right))
         all_goals first|omega|exact List.take_length|skip
         refine hN1 _ _ ?_
         conv=>whnf
         refine .to (7 + 1) (by omega) (by omega) ?_
         conv=>whnf
         repeat' (first|exact trivial|((first|refine kL ?_|(refine ⟨fun hb=>?_,fun hb=>?_⟩<;>(try simp only [nrm] at hb)<;>(try (first|(exfalso;omega)|contradiction|exact kB hb)))|refine kW cfg_ok ?_|refine kC ?_|refine bdA ?_|refine bd2 ?_|refine bdR ?_|refine bdL ?_)<;>(conv=>whnf))|(refine And.intro ?_ ?_;rotate_left;(conv=>whnf);rotate_right))
         all_goals first|rfl|omega|(rw [hsk];done)|(rw [hsk];exact rfl)|(rw [hsk];exact List.take_length)|trace_state
   · generalize (sh 8).2 = cur at *
     generalize (sh 8).1 = F0 at *
     have hr0 : litR I fr to_ la (15 - ((8 : Nat) : Int)) cur (F0,n0F l14 8) 0 = (F0,n0F l14 8):=rfl
     have hrs:=fun j hj=>litR_succ I fr to_ la (15 - ((8 : Nat) : Int)) cur (F0,n0F l14 8) (j:=j) hj
     have hrl:=fun j hj=>@litR_big I fr to_ la (15 - ((8 : Nat) : Int)) cur (F0,n0F l14 8) h1 h3 h5 (by omega) hcur j hj
     dsimp only at hrl
     generalize litR I fr to_ la (15 - ((8 : Nat) : Int)) cur (F0,n0F l14 8) = R at *
     conv=>whnf
     repeat' (first|exact trivial|((first|refine kL ?_|(refine ⟨fun hb=>?_,fun hb=>?_⟩<;>(try simp only [nrm] at hb)<;>(try (first|(exfalso;omega)|contradiction|exact kB hb)))|refine kW cfg_ok ?_|refine kC ?_|refine bdA ?_|refine bd2 ?_|refine bdR ?_|refine bdL ?_)<;>(conv=>whnf))|(refine And.intro ?_ ?_;rotate_left;(conv=>whnf);rotate_right))
     all_goals first|omega|exact List.take_length|skip
     refine Runs.loopQ cfg_ok (σ:=Nat) [0,2,3,4] (fun j=>[.ptr 0 0,.ptr 200004 0,i64 (15 - ((8 : Nat) : Int)),i64 (j : Nat)])
       (fun j=>(200004,.box (byR 8 (.own .pos (350201 + 2 * 8) 0 cur.length none) (.own .pos (350203 + 2 * 8) 0 (R j).2.length none))) :: (350201 + 2 * 8,.row .pos cur) :: (350203 + 2 * 8,.row .pos (R j).2) :: fldM 0 1 3 fr to_ la I (R j).1.1 nI (R j).1.2)
       (fun j=>j ≤ cur.length) (fun j=>cur.length - j) 0 (by omega) ?_ ?_
     · conv=>whnf
       repeat' (first|exact trivial|((first|refine kL ?_|(refine ⟨fun hb=>?_,fun hb=>?_⟩<;>(try simp only [nrm] at hb)<;>(try (first|(exfalso;omega)|contradiction|exact kB hb)))|refine kW cfg_ok ?_|refine kC ?_|refine bdA ?_|refine bd2 ?_|refine bdR ?_|refine bdL ?_)<;>(conv=>whnf))|(refine And.intro ?_ ?_;rotate_left;(conv=>whnf);rotate_right))
       all_goals first|rfl|omega|(simp;done)|(rw [hr0];done)|(rw [hr0];exact List.take_length)|(rw [hr0];exact rfl)|trace_state
     · intro j hj N2 hN2 hE2 hT2
       by_cases hlt : j < cur.length
       · have hrj:=hrs j hlt
         have hrn:=hrl j hj
         have hc : inF fr to_ la (elt .pos cur (j + 0)):=hcur _ (List.mem_of_getElem? (elt_get .pos cur j hlt))
         have hci : inF fr to_ la (elt .pos cur (((j : Nat) : Int).toNat + 0)):=hc
         unfold inF at hc hci
         by_cases hon : 0 < getZ ((R j).1.1 (elt .pos cur (j + 0)).x (elt .pos cur (j + 0)).y)
         · rw [litC_on (c:=elt .pos cur j) hon] at hrj
           conv=>whnf
           repeat' (first|exact trivial|((first|refine kL ?_|(refine ⟨fun hb=>?_,fun hb=>?_⟩<;>(try simp only [nrm] at hb)<;>(try (first|(exfalso;omega)|contradiction|exact kB hb)))|refine kW cfg_ok ?_|refine kC ?_|refine bdA ?_|refine bd2 ?_|refine bdR ?_|refine bdL ?_)<;>(conv=>whnf))|(refine And.intro ?_ ?_;rotate_left;(conv=>whnf);rotate_right))
           all_goals first|omega|exact List.take_length|skip
           refine hN2 _ _ ?_
           conv=>whnf
           refine .to (j + 1) (by omega) (by omega) ?_
           conv=>whnf
           repeat' (first|exact trivial|((first|refine kL ?_|(refine ⟨fun hb=>?_,fun hb=>?_⟩<;>(try simp only [nrm] at hb)<;>(try (first|(exfalso;omega)|contradiction|exact kB hb)))|refine kW cfg_ok ?_|refine kC ?_|refine bdA ?_|refine bd2 ?_|refine bdR ?_|refine bdL ?_)<;>(conv=>whnf))|(refine And.intro ?_ ?_;rotate_left;(conv=>whnf);rotate_right))
           all_goals first|rfl|omega|exact List.take_length|(rw [hrj];done)|(rw [hrj];exact rfl)|(rw [hrj];exact List.take_length)|trace_state
         · rw [litC_off (c:=elt .pos cur j) hon] at hrj
           conv=>whnf
           repeat' (first|exact trivial|((first|refine kL ?_|(refine ⟨fun hb=>?_,fun hb=>?_⟩<;>(try simp only [nrm] at hb)<;>(try (first|(exfalso;omega)|contradiction|exact kB hb)))|refine kW cfg_ok ?_|refine kC ?_|refine bdA ?_|refine bd2 ?_|refine bdR ?_|refine bdL ?_)<;>(conv=>whnf))|(refine And.intro ?_ ?_;rotate_left;(conv=>whnf);rotate_right))
           all_goals first|omega|exact List.take_length|skip
           have hal:=fun d hd=>@askM_len I fr to_ la (putM (R j).1 (elt .pos cur (j + 0)).x (elt .pos cur (j + 0)).y (15 - ((8 : Nat) : Int))).1 (elt .pos cur (j + 0)) (R j).2 d hd
           have has:=fun d hd=>askM_succ I fr to_ la (putM (R j).1 (elt .pos cur (j + 0)).x (elt .pos cur (j + 0)).y (15 - ((8 : Nat) : Int))).1 (elt .pos cur (j + 0)) (R j).2 (d:=d) hd
           have ha0 : askM I fr to_ la (putM (R j).1 (elt .pos cur (j + 0)).x (elt .pos cur (j + 0)).y (15 - ((8 : Nat) : Int))).1 (elt .pos cur (j + 0)) (R j).2 0 = (R j).2:=rfl
           have hrj1 : (R (j + 1)).2 = askM I fr to_ la (putM (R j).1 (elt .pos cur (j + 0)).x (elt .pos cur (j + 0)).y (15 - ((8 : Nat) : Int))).1 (elt .pos cur (j + 0)) (R j).2 4:=by rw [hrj];rfl
           have hrj2 : (R (j + 1)).1 = putM (R j).1 (elt .pos cur (j + 0)).x (elt .pos cur (j + 0)).y (15 - ((8 : Nat) : Int)):=by rw [hrj];rfl
           clear hrj
           generalize hA : askM I fr to_ la (putM (R j).1 (elt .pos cur (j + 0)).x (elt .pos cur (j + 0)).y (15 - ((8 : Nat) : Int))).1 (elt .pos cur (j + 0)) (R j).2 = A at *
           generalize hP : putM (R j).1 (elt .pos cur (j + 0)).x (elt .pos cur (j + 0)).y (15 - ((8 : Nat) : Int)) = P1 at *
           refine Runs.loopQ cfg_ok (σ:=Nat) [0,2,3,4,66,67] (fun d=>[.ptr 0 0,.ptr 200004 0,i64 (15 - ((8 : Nat) : Int)),i64 (j : Nat),.agg [i64 ((elt .pos cur (j + 0)).x - 1),i64 (elt .pos cur (j + 0)).y,i64 ((elt .pos cur (j + 0)).x + 1),i64 (elt .pos cur (j + 0)).y,i64 (elt .pos cur (j + 0)).x,i64 ((elt .pos cur (j + 0)).y - 1),i64 (elt .pos cur (j + 0)).x,i64 ((elt .pos cur (j + 0)).y + 1)],i64 (d : Nat)])
             (fun d=>(200004,.box (byR 8 (.own .pos (350201 + 2 * 8) 0 cur.length none) (.own .pos (350203 + 2 * 8) 0 (A d).length none))) :: (350201 + 2 * 8,.row .pos cur) :: (350203 + 2 * 8,.row .pos (A d)) :: fldM 0 1 3 fr to_ la I P1.1 nI P1.2)
             (fun d=>d ≤ 4) (fun d=>4 - d) 0 (by omega) ?_ ?_
           · conv=>whnf
             repeat' (first|exact trivial|((first|refine kL ?_|(refine ⟨fun hb=>?_,fun hb=>?_⟩<;>(try simp only [nrm] at hb)<;>(try (first|(exfalso;omega)|contradiction|exact kB hb)))|refine kW cfg_ok ?_|refine kC ?_|refine bdA ?_|refine bd2 ?_|refine bdR ?_|refine bdL ?_)<;>(conv=>whnf))|(refine And.intro ?_ ?_;rotate_left;(conv=>whnf);rotate_right))
             all_goals first|rfl|omega|(simp;done)|(rw [ha0];done)|(rw [ha0];exact List.take_length)|(rw [ha0];exact rfl)|(rw [← hP];exact rfl)|(rw [← hP,ha0];exact rfl)|trace_state
           · intro d hd N3 hN3 hE3 hT3
             by_cases hld : d < 4
             · have hbd:=dirD_bd hld
               have hop:=fopen_ev fr to_ la I P1.1 nI P1.2 (addP (elt .pos cur (j + 0)) (dirD d))
               have hade:=has d hld
               have hadl:=hal d (by omega)
               conv=>whnf
               repeat' (first|exact trivial|((first|refine kL ?_|(refine ⟨fun hb=>?_,fun hb=>?_⟩<;>(try simp only [nrm] at hb)<;>(try (first|(exfalso;omega)|contradiction|exact kB hb)))|refine kE hop [(0,0),(1,1),(3,3)] rfl ?_|refine kF hop [(0,0),(1,1),(3,3)] rfl ?_|(refine dir_pick hld rfl rfl ?_)|refine kW cfg_ok ?_|refine kC ?_|refine bdA ?_|refine bd2 ?_|refine bdR ?_|refine bdL ?_)<;>(conv=>whnf))|(refine And.intro ?_ ?_;rotate_left;(conv=>whnf);rotate_right))
               all_goals first|omega|skip
               all_goals
                 first
                   | rw [push_yes (by assumption) (by assumption)] at hade
                   | rw [push_shut (by assumption)] at hade
                   | rw [push_lit (by assumption)] at hade
                 refine hN3 _ _ ?_
                 conv=>whnf
                 refine .to (d + 1) (by omega) (by omega) ?_
                 conv=>whnf
                 repeat' (first|exact trivial|((first|refine kL ?_|(refine ⟨fun hb=>?_,fun hb=>?_⟩<;>(try simp only [nrm] at hb)<;>(try (first|(exfalso;omega)|contradiction|exact kB hb)))|refine kW cfg_ok ?_|refine kC ?_|refine bdA ?_|refine bd2 ?_|refine bdR ?_|refine bdL ?_)<;>(conv=>whnf))|(refine And.intro ?_ ?_;rotate_left;(conv=>whnf);rotate_right))
                 all_goals first|rfl|omega|exact List.take_length|(rw [hade];done)|(rw [hade];exact rfl)|(rw [hade];exact List.take_length)|(rw [hade];exact grow_pos _ (addP (elt .pos cur (j + 0)) (dirD d)))|(rw [hade];simp;done)|trace_state
             · obtain rfl : d = 4:=by omega
               conv=>whnf
               repeat' (first|exact trivial|((first|refine kL ?_|(refine ⟨fun hb=>?_,fun hb=>?_⟩<;>(try simp only [nrm] at hb)<;>(try (first|(exfalso;omega)|contradiction|exact kB hb)))|refine kW cfg_ok ?_|refine kC ?_|refine bdA ?_|refine bd2 ?_|refine bdR ?_|refine bdL ?_)<;>(conv=>whnf))|(refine And.intro ?_ ?_;rotate_left;(conv=>whnf);rotate_right))
               all_goals first|omega|skip
               refine hE3 _ _ _ ?_
               conv=>whnf
               repeat' (first|exact trivial|((first|refine kL ?_|(refine ⟨fun hb=>?_,fun hb=>?_⟩<;>(try simp only [nrm] at hb)<;>(try (first|(exfalso;omega)|contradiction|exact kB hb)))|refine kW cfg_ok ?_|refine kC ?_|refine bdA ?_|refine bd2 ?_|refine bdR ?_|refine bdL ?_)<;>(conv=>whnf))|(refine And.intro ?_ ?_;rotate_left;(conv=>whnf);rotate_right))
               all_goals first|omega|skip
               refine hN2 _ _ ?_
               conv=>whnf
               refine .to (j + 1) (by omega) (by omega) ?_
               conv=>whnf
               repeat' (first|exact trivial|((first|refine kL ?_|(refine ⟨fun hb=>?_,fun hb=>?_⟩<;>(try simp only [nrm] at hb)<;>(try (first|(exfalso;omega)|contradiction|exact kB hb)))|refine kW cfg_ok ?_|refine kC ?_|refine bdA ?_|refine bd2 ?_|refine bdR ?_|refine bdL ?_)<;>(conv=>whnf))|(refine And.intro ?_ ?_;rotate_left;(conv=>whnf);rotate_right))
               all_goals first|rfl|omega|exact List.take_length|(rw [hrj1];done)|(rw [hrj2];done)|(rw [hrj1];exact List.take_length)|(rw [hrj1,hrj2];exact rfl)|trace_state
       · obtain rfl : j = cur.length:=by omega
         conv=>whnf
         repeat' (first|exact trivial|((first|refine kL ?_|(refine ⟨fun hb=>?_,fun hb=>?_⟩<;>(try simp only [nrm] at hb)<;>(try (first|(exfalso;omega)|contradiction|exact kB hb)))|refine kW cfg_ok ?_|refine kC ?_|refine bdA ?_|refine bd2 ?_|refine bdR ?_|refine bdL ?_)<;>(conv=>whnf))|(refine And.intro ?_ ?_;rotate_left;(conv=>whnf);rotate_right))
         all_goals first|omega|exact List.take_length|skip
         refine hE2 _ _ _ ?_
         conv=>whnf
         repeat' (first|exact trivial|((first|refine kL ?_|(refine ⟨fun hb=>?_,fun hb=>?_⟩<;>(try simp only [nrm] at hb)<;>(try (first|(exfalso;omega)|contradiction|exact kB hb)))|refine kW cfg_ok ?_|refine kC ?_|refine bdA ?_|refine bd2 ?_|refine bdR ?_|refine bdL ?_)<;>(conv=>whnf))|(refine And.intro ?_ ?_;rotate_left;(conv=>whnf);rotate_right))
         all_goals first|omega|exact List.take_length|skip
         refine hN1 _ _ ?_
         conv=>whnf
         refine .to (8 + 1) (by omega) (by omega) ?_
         conv=>whnf
         repeat' (first|exact trivial|((first|refine kL ?_|(refine ⟨fun hb=>?_,fun hb=>?_⟩<;>(try simp only [nrm] at hb)<;>(try (first|(exfalso;omega)|contradiction|exact kB hb)))|refine kW cfg_ok ?_|refine kC ?_|refine bdA ?_|refine bd2 ?_|refine bdR ?_|refine bdL ?_)<;>(conv=>whnf))|(refine And.intro ?_ ?_;rotate_left;(conv=>whnf);rotate_right))
         all_goals first|rfl|omega|(rw [hsk];done)|(rw [hsk];exact rfl)|(rw [hsk];exact List.take_length)|trace_state
   · generalize (sh 9).2 = cur at *
     generalize (sh 9).1 = F0 at *
     have hr0 : litR I fr to_ la (15 - ((9 : Nat) : Int)) cur (F0,n0F l14 9) 0 = (F0,n0F l14 9):=rfl
     have hrs:=fun j hj=>litR_succ I fr to_ la (15 - ((9 : Nat) : Int)) cur (F0,n0F l14 9) (j:=j) hj
     have hrl:=fun j hj=>@litR_big I fr to_ la (15 - ((9 : Nat) : Int)) cur (F0,n0F l14 9) h1 h3 h5 (by omega) hcur j hj
     dsimp only at hrl
     generalize litR I fr to_ la (15 - ((9 : Nat) : Int)) cur (F0,n0F l14 9) = R at *
     conv=>whnf
     repeat' (first|exact trivial|((first|refine kL ?_|(refine ⟨fun hb=>?_,fun hb=>?_⟩<;>(try simp only [nrm] at hb)<;>(try (first|(exfalso;omega)|contradiction|exact kB hb)))|refine kW cfg_ok ?_|refine kC ?_|refine bdA ?_|refine bd2 ?_|refine bdR ?_|refine bdL ?_)<;>(conv=>whnf))|(refine And.intro ?_ ?_;rotate_left;(conv=>whnf);rotate_right))
     all_goals first|omega|exact List.take_length|skip
     refine Runs.loopQ cfg_ok (σ:=Nat) [0,2,3,4] (fun j=>[.ptr 0 0,.ptr 200004 0,i64 (15 - ((9 : Nat) : Int)),i64 (j : Nat)])
       (fun j=>(200004,.box (byR 9 (.own .pos (350201 + 2 * 9) 0 cur.length none) (.own .pos (350203 + 2 * 9) 0 (R j).2.length none))) :: (350201 + 2 * 9,.row .pos cur) :: (350203 + 2 * 9,.row .pos (R j).2) :: fldM 0 1 3 fr to_ la I (R j).1.1 nI (R j).1.2)
       (fun j=>j ≤ cur.length) (fun j=>cur.length - j) 0 (by omega) ?_ ?_
     · conv=>whnf
       repeat' (first|exact trivial|((first|refine kL ?_|(refine ⟨fun hb=>?_,fun hb=>?_⟩<;>(try simp only [nrm] at hb)<;>(try (first|(exfalso;omega)|contradiction|exact kB hb)))|refine kW cfg_ok ?_|refine kC ?_|refine bdA ?_|refine bd2 ?_|refine bdR ?_|refine bdL ?_)<;>(conv=>whnf))|(refine And.intro ?_ ?_;rotate_left;(conv=>whnf);rotate_right))
       all_goals first|rfl|omega|(simp;done)|(rw [hr0];done)|(rw [hr0];exact List.take_length)|(rw [hr0];exact rfl)|trace_state
     · intro j hj N2 hN2 hE2 hT2
       by_cases hlt : j < cur.length
       · have hrj:=hrs j hlt
         have hrn:=hrl j hj
         have hc : inF fr to_ la (elt .pos cur (j + 0)):=hcur _ (List.mem_of_getElem? (elt_get .pos cur j hlt))
         have hci : inF fr to_ la (elt .pos cur (((j : Nat) : Int).toNat + 0)):=hc
         unfold inF at hc hci
         by_cases hon : 0 < getZ ((R j).1.1 (elt .pos cur (j + 0)).x (elt .pos cur (j + 0)).y)
         · rw [litC_on (c:=elt .pos cur j) hon] at hrj
           conv=>whnf
           repeat' (first|exact trivial|((first|refine kL ?_|(refine ⟨fun hb=>?_,fun hb=>?_⟩<;>(try simp only [nrm] at hb)<;>(try (first|(exfalso;omega)|contradiction|exact kB hb)))|refine kW cfg_ok ?_|refine kC ?_|refine bdA ?_|refine bd2 ?_|refine bdR ?_|refine bdL ?_)<;>(conv=>whnf))|(refine And.intro ?_ ?_;rotate_left;(conv=>whnf);rotate_right))
           all_goals first|omega|exact List.take_length|skip
           refine hN2 _ _ ?_
           conv=>whnf
           refine .to (j + 1) (by omega) (by omega) ?_
           conv=>whnf
           repeat' (first|exact trivial|((first|refine kL ?_|(refine ⟨fun hb=>?_,fun hb=>?_⟩<;>(try simp only [nrm] at hb)<;>(try (first|(exfalso;omega)|contradiction|exact kB hb)))|refine kW cfg_ok ?_|refine kC ?_|refine bdA ?_|refine bd2 ?_|refine bdR ?_|refine bdL ?_)<;>(conv=>whnf))|(refine And.intro ?_ ?_;rotate_left;(conv=>whnf);rotate_right))
           all_goals first|rfl|omega|exact List.take_length|(rw [hrj];done)|(rw [hrj];exact rfl)|(rw [hrj];exact List.take_length)|trace_state
         · rw [litC_off (c:=elt .pos cur j) hon] at hrj
           conv=>whnf
           repeat' (first|exact trivial|((first|refine kL ?_|(refine ⟨fun hb=>?_,fun hb=>?_⟩<;>(try simp only [nrm] at hb)<;>(try (first|(exfalso;omega)|contradiction|exact kB hb)))|refine kW cfg_ok ?_|refine kC ?_|refine bdA ?_|refine bd2 ?_|refine bdR ?_|refine bdL ?_)<;>(conv=>whnf))|(refine And.intro ?_ ?_;rotate_left;(conv=>whnf);rotate_right))
           all_goals first|omega|exact List.take_length|skip
           have hal:=fun d hd=>@askM_len I fr to_ la (putM (R j).1 (elt .pos cur (j + 0)).x (elt .pos cur (j + 0)).y (15 - ((9 : Nat) : Int))).1 (elt .pos cur (j + 0)) (R j).2 d hd
           have has:=fun d hd=>askM_succ I fr to_ la (putM (R j).1 (elt .pos cur (j + 0)).x (elt .pos cur (j + 0)).y (15 - ((9 : Nat) : Int))).1 (elt .pos cur (j + 0)) (R j).2 (d:=d) hd
           have ha0 : askM I fr to_ la (putM (R j).1 (elt .pos cur (j + 0)).x (elt .pos cur (j + 0)).y (15 - ((9 : Nat) : Int))).1 (elt .pos cur (j + 0)) (R j).2 0 = (R j).2:=rfl
           have hrj1 : (R (j + 1)).2 = askM I fr to_ la (putM (R j).1 (elt .pos cur (j + 0)).x (elt .pos cur (j + 0)).y (15 - ((9 : Nat) : Int))).1 (elt .pos cur (j + 0)) (R j).2 4:=by rw [hrj];rfl
           have hrj2 : (R (j + 1)).1 = putM (R j).1 (elt .pos cur (j + 0)).x (elt .pos cur (j + 0)).y (15 - ((9 : Nat) : Int)):=by rw [hrj];rfl
           clear hrj
           generalize hA : askM I fr to_ la (putM (R j).1 (elt .pos cur (j + 0)).x (elt .pos cur (j + 0)).y (15 - ((9 : Nat) : Int))).1 (elt .pos cur (j + 0)) (R j).2 = A at *
           generalize hP : putM (R j).1 (elt .pos cur (j + 0)).x (elt .pos cur (j + 0)).y (15 - ((9 : Nat) : Int)) = P1 at *
           refine Runs.loopQ cfg_ok (σ:=Nat) [0,2,3,4,66,67] (fun d=>[.ptr 0 0,.ptr 200004 0,i64 (15 - ((9 : Nat) : Int)),i64 (j : Nat),.agg [i64 ((elt .pos cur (j + 0)).x - 1),i64 (elt .pos cur (j + 0)).y,i64 ((elt .pos cur (j + 0)).x + 1),i64 (elt .pos cur (j + 0)).y,i64 (elt .pos cur (j + 0)).x,i64 ((elt .pos cur (j + 0)).y - 1),i64 (elt .pos cur (j + 0)).x,i64 ((elt .pos cur (j + 0)).y + 1)],i64 (d : Nat)])
             (fun d=>(200004,.box (byR 9 (.own .pos (350201 + 2 * 9) 0 cur.length none) (.own .pos (350203 + 2 * 9) 0 (A d).length none))) :: (350201 + 2 * 9,.row .pos cur) :: (350203 + 2 * 9,.row .pos (A d)) :: fldM 0 1 3 fr to_ la I P1.1 nI P1.2)
             (fun d=>d ≤ 4) (fun d=>4 - d) 0 (by omega) ?_ ?_
           · conv=>whnf
             repeat' (first|exact trivial|((first|refine kL ?_|(refine ⟨fun hb=>?_,fun hb=>?_⟩<;>(try simp only [nrm] at hb)<;>(try (first|(exfalso;omega)|contradiction|exact kB hb)))|refine kW cfg_ok ?_|refine kC ?_|refine bdA ?_|refine bd2 ?_|refine bdR ?_|refine bdL ?_)<;>(conv=>whnf))|(refine And.intro ?_ ?_;rotate_left;(conv=>whnf);rotate_right))
             all_goals first|rfl|omega|(simp;done)|(rw [ha0];done)|(rw [ha0];exact List.take_length)|(rw [ha0];exact rfl)|(rw [← hP];exact rfl)|(rw [← hP,ha0];exact rfl)|trace_state
           · intro d hd N3 hN3 hE3 hT3
             by_cases hld : d < 4
             · have hbd:=dirD_bd hld
               have hop:=fopen_ev fr to_ la I P1.1 nI P1.2 (addP (elt .pos cur (j + 0)) (dirD d))
               have hade:=has d hld
               have hadl:=hal d (by omega)
               conv=>whnf
               repeat' (first|exact trivial|((first|refine kL ?_|(refine ⟨fun hb=>?_,fun hb=>?_⟩<;>(try simp only [nrm] at hb)<;>(try (first|(exfalso;omega)|contradiction|exact kB hb)))|refine kE hop [(0,0),(1,1),(3,3)] rfl ?_|refine kF hop [(0,0),(1,1),(3,3)] rfl ?_|(refine dir_pick hld rfl rfl ?_)|refine kW cfg_ok ?_|refine kC ?_|refine bdA ?_|refine bd2 ?_|refine bdR ?_|refine bdL ?_)<;>(conv=>whnf))|(refine And.intro ?_ ?_;rotate_left;(conv=>whnf);rotate_right))
               all_goals first|omega|skip
               all_goals
                 first
                   | rw [push_yes (by assumption) (by assumption)] at hade
                   | rw [push_shut (by assumption)] at hade
                   | rw [push_lit (by assumption)] at hade
                 refine hN3 _ _ ?_
                 conv=>whnf
                 refine .to (d + 1) (by omega) (by omega) ?_
                 conv=>whnf
                 repeat' (first|exact trivial|((first|refine kL ?_|(refine ⟨fun hb=>?_,fun hb=>?_⟩<;>(try simp only [nrm] at hb)<;>(try (first|(exfalso;omega)|contradiction|exact kB hb)))|refine kW cfg_ok ?_|refine kC ?_|refine bdA ?_|refine bd2 ?_|refine bdR ?_|refine bdL ?_)<;>(conv=>whnf))|(refine And.intro ?_ ?_;rotate_left;(conv=>whnf);rotate_right))
                 all_goals first|rfl|omega|exact List.take_length|(rw [hade];done)|(rw [hade];exact rfl)|(rw [hade];exact List.take_length)|(rw [hade];exact grow_pos _ (addP (elt .pos cur (j + 0)) (dirD d)))|(rw [hade];simp;done)|trace_state
             · obtain rfl : d = 4:=by omega
               conv=>whnf
               repeat' (first|exact trivial|((first|refine kL ?_|(refine ⟨fun hb=>?_,fun hb=>?_⟩<;>(try simp only [nrm] at hb)<;>(try (first|(exfalso;omega)|contradiction|exact kB hb)))|refine kW cfg_ok ?_|refine kC ?_|refine bdA ?_|refine bd2 ?_|refine bdR ?_|refine bdL ?_)<;>(conv=>whnf))|(refine And.intro ?_ ?_;rotate_left;(conv=>whnf);rotate_right))
               all_goals first|omega|skip
               refine hE3 _ _ _ ?_
               conv=>whnf
               repeat' (first|exact trivial|((first|refine kL ?_|(refine ⟨fun hb=>?_,fun hb=>?_⟩<;>(try simp only [nrm] at hb)<;>(try (first|(exfalso;omega)|contradiction|exact kB hb)))|refine kW cfg_ok ?_|refine kC ?_|refine bdA ?_|refine bd2 ?_|refine bdR ?_|refine bdL ?_)<;>(conv=>whnf))|(refine And.intro ?_ ?_;rotate_left;(conv=>whnf);rotate_right))
               all_goals first|omega|skip
               refine hN2 _ _ ?_
               conv=>whnf
               refine .to (j + 1) (by omega) (by omega) ?_
               conv=>whnf
               repeat' (first|exact trivial|((first|refine kL ?_|(refine ⟨fun hb=>?_,fun hb=>?_⟩<;>(try simp only [nrm] at hb)<;>(try (first|(exfalso;omega)|contradiction|exact kB hb)))|refine kW cfg_ok ?_|refine kC ?_|refine bdA ?_|refine bd2 ?_|refine bdR ?_|refine bdL ?_)<;>(conv=>whnf))|(refine And.intro ?_ ?_;rotate_left;(conv=>whnf);rotate_right))
               all_goals first|rfl|omega|exact List.take_length|(rw [hrj1];done)|(rw [hrj2];done)|(rw [hrj1];exact List.take_length)|(rw [hrj1,hrj2];exact rfl)|trace_state
       · obtain rfl : j = cur.length:=by omega
         conv=>whnf
         repeat' (first|exact trivial|((first|refine kL ?_|(refine ⟨fun hb=>?_,fun hb=>?_⟩<;>(try simp only [nrm] at hb)<;>(try (first|(exfalso;omega)|contradiction|exact kB hb)))|refine kW cfg_ok ?_|refine kC ?_|refine bdA ?_|refine bd2 ?_|refine bdR ?_|refine bdL ?_)<;>(conv=>whnf))|(refine And.intro ?_ ?_;rotate_left;(conv=>whnf);rotate_right))
         all_goals first|omega|exact List.take_length|skip
         refine hE2 _ _ _ ?_
         conv=>whnf
         repeat' (first|exact trivial|((first|refine kL ?_|(refine ⟨fun hb=>?_,fun hb=>?_⟩<;>(try simp only [nrm] at hb)<;>(try (first|(exfalso;omega)|contradiction|exact kB hb)))|refine kW cfg_ok ?_|refine kC ?_|refine bdA ?_|refine bd2 ?_|refine bdR ?_|refine bdL ?_)<;>(conv=>whnf))|(refine And.intro ?_ ?_;rotate_left;(conv=>whnf);rotate_right))
         all_goals first|omega|exact List.take_length|skip
         refine hN1 _ _ ?_
         conv=>whnf
         refine .to (9 + 1) (by omega) (by omega) ?_
         conv=>whnf
         repeat' (first|exact trivial|((first|refine kL ?_|(refine ⟨fun hb=>?_,fun hb=>?_⟩<;>(try simp only [nrm] at hb)<;>(try (first|(exfalso;omega)|contradiction|exact kB hb)))|refine kW cfg_ok ?_|refine kC ?_|refine bdA ?_|refine bd2 ?_|refine bdR ?_|refine bdL ?_)<;>(conv=>whnf))|(refine And.intro ?_ ?_;rotate_left;(conv=>whnf);rotate_right))
         all_goals first|rfl|omega|(rw [hsk];done)|(rw [hsk];exact rfl)|(rw [hsk];exact List.take_length)|trace_state
   · generalize (sh 10).2 = cur at *
     generalize (sh 10).1 = F0 at *
     have hr0 : litR I fr to_ la (15 - ((10 : Nat) : Int)) cur (F0,n0F l14 10) 0 = (F0,n0F l14 10):=rfl
     have hrs:=fun j hj=>litR_succ I fr to_ la (15 - ((10 : Nat) : Int)) cur (F0,n0F l14 10) (j:=j) hj
     have hrl:=fun j hj=>@litR_big I fr to_ la (15 - ((10 : Nat) : Int)) cur (F0,n0F l14 10) h1 h3 h5 (by omega) hcur j hj
     dsimp only at hrl
     generalize litR I fr to_ la (15 - ((10 : Nat) : Int)) cur (F0,n0F l14 10) = R at *
     conv=>whnf
     repeat' (first|exact trivial|((first|refine kL ?_|(refine ⟨fun hb=>?_,fun hb=>?_⟩<;>(try simp only [nrm] at hb)<;>(try (first|(exfalso;omega)|contradiction|exact kB hb)))|refine kW cfg_ok ?_|refine kC ?_|refine bdA ?_|refine bd2 ?_|refine bdR ?_|refine bdL ?_)<;>(conv=>whnf))|(refine And.intro ?_ ?_;rotate_left;(conv=>whnf);rotate_right))
     all_goals first|omega|exact List.take_length|skip
     refine Runs.loopQ cfg_ok (σ:=Nat) [0,2,3,4] (fun j=>[.ptr 0 0,.ptr 200004 0,i64 (15 - ((10 : Nat) : Int)),i64 (j : Nat)])
       (fun j=>(200004,.box (byR 10 (.own .pos (350201 + 2 * 10) 0 cur.length none) (.own .pos (350203 + 2 * 10) 0 (R j).2.length none))) :: (350201 + 2 * 10,.row .pos cur) :: (350203 + 2 * 10,.row .pos (R j).2) :: fldM 0 1 3 fr to_ la I (R j).1.1 nI (R j).1.2)
       (fun j=>j ≤ cur.length) (fun j=>cur.length - j) 0 (by omega) ?_ ?_
     · conv=>whnf
       repeat' (first|exact trivial|((first|refine kL ?_|(refine ⟨fun hb=>?_,fun hb=>?_⟩<;>(try simp only [nrm] at hb)<;>(try (first|(exfalso;omega)|contradiction|exact kB hb)))|refine kW cfg_ok ?_|refine kC ?_|refine bdA ?_|refine bd2 ?_|refine bdR ?_|refine bdL ?_)<;>(conv=>whnf))|(refine And.intro ?_ ?_;rotate_left;(conv=>whnf);rotate_right))
       all_goals first|rfl|omega|(simp;done)|(rw [hr0];done)|(rw [hr0];exact List.take_length)|(rw [hr0];exact rfl)|trace_state
     · intro j hj N2 hN2 hE2 hT2
       by_cases hlt : j < cur.length
       · have hrj:=hrs j hlt
         have hrn:=hrl j hj
         have hc : inF fr to_ la (elt .pos cur (j + 0)):=hcur _ (List.mem_of_getElem? (elt_get .pos cur j hlt))
         have hci : inF fr to_ la (elt .pos cur (((j : Nat) : Int).toNat + 0)):=hc
         unfold inF at hc hci
         by_cases hon : 0 < getZ ((R j).1.1 (elt .pos cur (j + 0)).x (elt .pos cur (j + 0)).y)
         · rw [litC_on (c:=elt .pos cur j) hon] at hrj
           conv=>whnf
           repeat' (first|exact trivial|((first|refine kL ?_|(refine ⟨fun hb=>?_,fun hb=>?_⟩<;>(try simp only [nrm] at hb)<;>(try (first|(exfalso;omega)|contradiction|exact kB hb)))|refine kW cfg_ok ?_|refine kC ?_|refine bdA ?_|refine bd2 ?_|refine bdR ?_|refine bdL ?_)<;>(conv=>whnf))|(refine And.intro ?_ ?_;rotate_left;(conv=>whnf);rotate_right))
           all_goals first|omega|exact List.take_length|skip
           refine hN2 _ _ ?_
           conv=>whnf
           refine .to (j + 1) (by omega) (by omega) ?_
           conv=>whnf
           repeat' (first|exact trivial|((first|refine kL ?_|(refine ⟨fun hb=>?_,fun hb=>?_⟩<;>(try simp only [nrm] at hb)<;>(try (first|(exfalso;omega)|contradiction|exact kB hb)))|refine kW cfg_ok ?_|refine kC ?_|refine bdA ?_|refine bd2 ?_|refine bdR ?_|refine bdL ?_)<;>(conv=>whnf))|(refine And.intro ?_ ?_;rotate_left;(conv=>whnf);rotate_right))
           all_goals first|rfl|omega|exact List.take_length|(rw [hrj];done)|(rw [hrj];exact rfl)|(rw [hrj];exact List.take_length)|trace_state
         · rw [litC_off (c:=elt .pos cur j) hon] at hrj
           conv=>whnf
           repeat' (first|exact trivial|((first|refine kL ?_|(refine ⟨fun hb=>?_,fun hb=>?_⟩<;>(try simp only [nrm] at hb)<;>(try (first|(exfalso;omega)|contradiction|exact kB hb)))|refine kW cfg_ok ?_|refine kC ?_|refine bdA ?_|refine bd2 ?_|refine bdR ?_|refine bdL ?_)<;>(conv=>whnf))|(refine And.intro ?_ ?_;rotate_left;(conv=>whnf);rotate_right))
           all_goals first|omega|exact List.take_length|skip
           have hal:=fun d hd=>@askM_len I fr to_ la (putM (R j).1 (elt .pos cur (j + 0)).x (elt .pos cur (j + 0)).y (15 - ((10 : Nat) : Int))).1 (elt .pos cur (j + 0)) (R j).2 d hd
           have has:=fun d hd=>askM_succ I fr to_ la (putM (R j).1 (elt .pos cur (j + 0)).x (elt .pos cur (j + 0)).y (15 - ((10 : Nat) : Int))).1 (elt .pos cur (j + 0)) (R j).2 (d:=d) hd
           have ha0 : askM I fr to_ la (putM (R j).1 (elt .pos cur (j + 0)).x (elt .pos cur (j + 0)).y (15 - ((10 : Nat) : Int))).1 (elt .pos cur (j + 0)) (R j).2 0 = (R j).2:=rfl
           have hrj1 : (R (j + 1)).2 = askM I fr to_ la (putM (R j).1 (elt .pos cur (j + 0)).x (elt .pos cur (j + 0)).y (15 - ((10 : Nat) : Int))).1 (elt .pos cur (j + 0)) (R j).2 4:=by rw [hrj];rfl
           have hrj2 : (R (j + 1)).1 = putM (R j).1 (elt .pos cur (j + 0)).x (elt .pos cur (j + 0)).y (15 - ((10 : Nat) : Int)):=by rw [hrj];rfl
           clear hrj
           generalize hA : askM I fr to_ la (putM (R j).1 (elt .pos cur (j + 0)).x (elt .pos cur (j + 0)).y (15 - ((10 : Nat) : Int))).1 (elt .pos cur (j + 0)) (R j).2 = A at *
           generalize hP : putM (R j).1 (elt .pos cur (j + 0)).x (elt .pos cur (j + 0)).y (15 - ((10 : Nat) : Int)) = P1 at *
           refine Runs.loopQ cfg_ok (σ:=Nat) [0,2,3,4,66,67] (fun d=>[.ptr 0 0,.ptr 200004 0,i64 (15 - ((10 : Nat) : Int)),i64 (j : Nat),.agg [i64 ((elt .pos cur (j + 0)).x - 1),i64 (elt .pos cur (j + 0)).y,i64 ((elt .pos cur (j + 0)).x + 1),i64 (elt .pos cur (j + 0)).y,i64 (elt .pos cur (j + 0)).x,i64 ((elt .pos cur (j + 0)).y - 1),i64 (elt .pos cur (j + 0)).x,i64 ((elt .pos cur (j + 0)).y + 1)],i64 (d : Nat)])
             (fun d=>(200004,.box (byR 10 (.own .pos (350201 + 2 * 10) 0 cur.length none) (.own .pos (350203 + 2 * 10) 0 (A d).length none))) :: (350201 + 2 * 10,.row .pos cur) :: (350203 + 2 * 10,.row .pos (A d)) :: fldM 0 1 3 fr to_ la I P1.1 nI P1.2)
             (fun d=>d ≤ 4) (fun d=>4 - d) 0 (by omega) ?_ ?_
           · conv=>whnf
             repeat' (first|exact trivial|((first|refine kL ?_|(refine ⟨fun hb=>?_,fun hb=>?_⟩<;>(try simp only [nrm] at hb)<;>(try (first|(exfalso;omega)|contradiction|exact kB hb)))|refine kW cfg_ok ?_|refine kC ?_|refine bdA ?_|refine bd2 ?_|refine bdR ?_|refine bdL ?_)<;>(conv=>whnf))|(refine And.intro ?_ ?_;rotate_left;(conv=>whnf);rotate_right))
             all_goals first|rfl|omega|(simp;done)|(rw [ha0];done)|(rw [ha0];exact List.take_length)|(rw [ha0];exact rfl)|(rw [← hP];exact rfl)|(rw [← hP,ha0];exact rfl)|trace_state
           · intro d hd N3 hN3 hE3 hT3
             by_cases hld : d < 4
             · have hbd:=dirD_bd hld
               have hop:=fopen_ev fr to_ la I P1.1 nI P1.2 (addP (elt .pos cur (j + 0)) (dirD d))
               have hade:=has d hld
               have hadl:=hal d (by omega)
               conv=>whnf
               repeat' (first|exact trivial|((first|refine kL ?_|(refine ⟨fun hb=>?_,fun hb=>?_⟩<;>(try simp only [nrm] at hb)<;>(try (first|(exfalso;omega)|contradiction|exact kB hb)))|refine kE hop [(0,0),(1,1),(3,3)] rfl ?_|refine kF hop [(0,0),(1,1),(3,3)] rfl ?_|(refine dir_pick hld rfl rfl ?_)|refine kW cfg_ok ?_|refine kC ?_|refine bdA ?_|refine bd2 ?_|refine bdR ?_|refine bdL ?_)<;>(conv=>whnf))|(refine And.intro ?_ ?_;rotate_left;(conv=>whnf);rotate_right))
               all_goals first|omega|skip
               all_goals
                 first
                   | rw [push_yes (by assumption) (by assumption)] at hade
                   | rw [push_shut (by assumption)] at hade
                   | rw [push_lit (by assumption)] at hade
                 refine hN3 _ _ ?_
                 conv=>whnf
                 refine .to (d + 1) (by omega) (by omega) ?_
                 conv=>whnf
                 repeat' (first|exact trivial|((first|refine kL ?_|(refine ⟨fun hb=>?_,fun hb=>?_⟩<;>(try simp only [nrm] at hb)<;>(try (first|(exfalso;omega)|contradiction|exact kB hb)))|refine kW cfg_ok ?_|refine kC ?_|refine bdA ?_|refine bd2 ?_|refine bdR ?_|refine bdL ?_)<;>(conv=>whnf))|(refine And.intro ?_ ?_;rotate_left;(conv=>whnf);rotate_right))
                 all_goals first|rfl|omega|exact List.take_length|(rw [hade];done)|(rw [hade];exact rfl)|(rw [hade];exact List.take_length)|(rw [hade];exact grow_pos _ (addP (elt .pos cur (j + 0)) (dirD d)))|(rw [hade];simp;done)|trace_state
             · obtain rfl : d = 4:=by omega
               conv=>whnf
               repeat' (first|exact trivial|((first|refine kL ?_|(refine ⟨fun hb=>?_,fun hb=>?_⟩<;>(try simp only [nrm] at hb)<;>(try (first|(exfalso;omega)|contradiction|exact kB hb)))|refine kW cfg_ok ?_|refine kC ?_|refine bdA ?_|refine bd2 ?_|refine bdR ?_|refine bdL ?_)<;>(conv=>whnf))|(refine And.intro ?_ ?_;rotate_left;(conv=>whnf);rotate_right))
               all_goals first|omega|skip
               refine hE3 _ _ _ ?_
               conv=>whnf
               repeat' (first|exact trivial|((first|refine kL ?_|(refine ⟨fun hb=>?_,fun hb=>?_⟩<;>(try simp only [nrm] at hb)<;>(try (first|(exfalso;omega)|contradiction|exact kB hb)))|refine kW cfg_ok ?_|refine kC ?_|refine bdA ?_|refine bd2 ?_|refine bdR ?_|refine bdL ?_)<;>(conv=>whnf))|(refine And.intro ?_ ?_;rotate_left;(conv=>whnf);rotate_right))
               all_goals first|omega|skip
               refine hN2 _ _ ?_
               conv=>whnf
               refine .to (j + 1) (by omega) (by omega) ?_
               conv=>whnf
               repeat' (first|exact trivial|((first|refine kL ?_|(refine ⟨fun hb=>?_,fun hb=>?_⟩<;>(try simp only [nrm] at hb)<;>(try (first|(exfalso;omega)|contradiction|exact kB hb)))|refine kW cfg_ok ?_|refine kC ?_|refine bdA ?_|refine bd2 ?_|refine bdR ?_|refine bdL ?_)<;>(conv=>whnf))|(refine And.intro ?_ ?_;rotate_left;(conv=>whnf);rotate_right))
               all_goals first|rfl|omega|exact List.take_length|(rw [hrj1];done)|(rw [hrj2];done)|(rw [hrj1];exact List.take_length)|(rw [hrj1,hrj2];exact rfl)|trace_state
       · obtain rfl : j = cur.length:=by omega
         conv=>whnf
         repeat' (first|exact trivial|((first|refine kL ?_|(refine ⟨fun hb=>?_,fun hb=>?_⟩<;>(try simp only [nrm] at hb)<;>(try (first|(exfalso;omega)|contradiction|exact kB hb)))|refine kW cfg_ok ?_|refine kC ?_|refine bdA ?_|refine bd2 ?_|refine bdR ?_|refine bdL ?_)<;>(conv=>whnf))|(refine And.intro ?_ ?_;rotate_left;(conv=>whnf);rotate_right))
         all_goals first|omega|exact List.take_length|skip
         refine hE2 _ _ _ ?_
         conv=>whnf
         repeat' (first|exact trivial|((first|refine kL ?_|(refine ⟨fun hb=>?_,fun hb=>?_⟩<;>(try simp only [nrm] at hb)<;>(try (first|(exfalso;omega)|contradiction|exact kB hb)))|refine kW cfg_ok ?_|refine kC ?_|refine bdA ?_|refine bd2 ?_|refine bdR ?_|refine bdL ?_)<;>(conv=>whnf))|(refine And.intro ?_ ?_;rotate_left;(conv=>whnf);rotate_right))
         all_goals first|omega|exact List.take_length|skip
         refine hN1 _ _ ?_
         conv=>whnf
         refine .to (10 + 1) (by omega) (by omega) ?_
         conv=>whnf
         repeat' (first|exact trivial|((first|refine kL ?_|(refine ⟨fun hb=>?_,fun hb=>?_⟩<;>(try simp only [nrm] at hb)<;>(try (first|(exfalso;omega)|contradiction|exact kB hb)))|refine kW cfg_ok ?_|refine kC ?_|refine bdA ?_|refine bd2 ?_|refine bdR ?_|refine bdL ?_)<;>(conv=>whnf))|(refine And.intro ?_ ?_;rotate_left;(conv=>whnf);rotate_right))
         all_goals first|rfl|omega|(rw [hsk];done)|(rw [hsk];exact rfl)|(rw [hsk];exact List.take_length)|trace_state
   · generalize (sh 11).2 = cur at *
     generalize (sh 11).1 = F0 at *
     have hr0 : litR I fr to_ la (15 - ((11 : Nat) : Int)) cur (F0,n0F l14 11) 0 = (F0,n0F l14 11):=rfl
     have hrs:=fun j hj=>litR_succ I fr to_ la (15 - ((11 : Nat) : Int)) cur (F0,n0F l14 11) (j:=j) hj
     have hrl:=fun j hj=>@litR_big I fr to_ la (15 - ((11 : Nat) : Int)) cur (F0,n0F l14 11) h1 h3 h5 (by omega) hcur j hj
     dsimp only at hrl
     generalize litR I fr to_ la (15 - ((11 : Nat) : Int)) cur (F0,n0F l14 11) = R at *
     conv=>whnf
     repeat' (first|exact trivial|((first|refine kL ?_|(refine ⟨fun hb=>?_,fun hb=>?_⟩<;>(try simp only [nrm] at hb)<;>(try (first|(exfalso;omega)|contradiction|exact kB hb)))|refine kW cfg_ok ?_|refine kC ?_|refine bdA ?_|refine bd2 ?_|refine bdR ?_|refine bdL ?_)<;>(conv=>whnf))|(refine And.intro ?_ ?_;rotate_left;(conv=>whnf);rotate_right))
     all_goals first|omega|exact List.take_length|skip
     refine Runs.loopQ cfg_ok (σ:=Nat) [0,2,3,4] (fun j=>[.ptr 0 0,.ptr 200004 0,i64 (15 - ((11 : Nat) : Int)),i64 (j : Nat)])
       (fun j=>(200004,.box (byR 11 (.own .pos (350201 + 2 * 11) 0 cur.length none) (.own .pos (350203 + 2 * 11) 0 (R j).2.length none))) :: (350201 + 2 * 11,.row .pos cur) :: (350203 + 2 * 11,.row .pos (R j).2) :: fldM 0 1 3 fr to_ la I (R j).1.1 nI (R j).1.2)
       (fun j=>j ≤ cur.length) (fun j=>cur.length - j) 0 (by omega) ?_ ?_
     · conv=>whnf
       repeat' (first|exact trivial|((first|refine kL ?_|(refine ⟨fun hb=>?_,fun hb=>?_⟩<;>(try simp only [nrm] at hb)<;>(try (first|(exfalso;omega)|contradiction|exact kB hb)))|refine kW cfg_ok ?_|refine kC ?_|refine bdA ?_|refine bd2 ?_|refine bdR ?_|refine bdL ?_)<;>(conv=>whnf))|(refine And.intro ?_ ?_;rotate_left;(conv=>whnf);rotate_right))
       all_goals first|rfl|omega|(simp;done)|(rw [hr0];done)|(rw [hr0];exact List.take_length)|(rw [hr0];exact rfl)|trace_state
     · intro j hj N2 hN2 hE2 hT2
       by_cases hlt : j < cur.length
       · have hrj:=hrs j hlt
         have hrn:=hrl j hj
         have hc : inF fr to_ la (elt .pos cur (j + 0)):=hcur _ (List.mem_of_getElem? (elt_get .pos cur j hlt))
         have hci : inF fr to_ la (elt .pos cur (((j : Nat) : Int).toNat + 0)):=hc
         unfold inF at hc hci
         by_cases hon : 0 < getZ ((R j).1.1 (elt .pos cur (j + 0)).x (elt .pos cur (j + 0)).y)
         · rw [litC_on (c:=elt .pos cur j) hon] at hrj
           conv=>whnf
           repeat' (first|exact trivial|((first|refine kL ?_|(refine ⟨fun hb=>?_,fun hb=>?_⟩<;>(try simp only [nrm] at hb)<;>(try (first|(exfalso;omega)|contradiction|exact kB hb)))|refine kW cfg_ok ?_|refine kC ?_|refine bdA ?_|refine bd2 ?_|refine bdR ?_|refine bdL ?_)<;>(conv=>whnf))|(refine And.intro ?_ ?_;rotate_left;(conv=>whnf);rotate_right))
           all_goals first|omega|exact List.take_length|skip
           refine hN2 _ _ ?_
           conv=>whnf
           refine .to (j + 1) (by omega) (by omega) ?_
           conv=>whnf
           repeat' (first|exact trivial|((first|refine kL ?_|(refine ⟨fun hb=>?_,fun hb=>?_⟩<;>(try simp only [nrm] at hb)<;>(try (first|(exfalso;omega)|contradiction|exact kB hb)))|refine kW cfg_ok ?_|refine kC ?_|refine bdA ?_|refine bd2 ?_|refine bdR ?_|refine bdL ?_)<;>(conv=>whnf))|(refine And.intro ?_ ?_;rotate_left;(conv=>whnf);rotate_right))
           all_goals first|rfl|omega|exact List.take_length|(rw [hrj];done)|(rw [hrj];exact rfl)|(rw [hrj];exact List.take_length)|trace_state
         · rw [litC_off (c:=elt .pos cur j) hon] at hrj
           conv=>whnf
           repeat' (first|exact trivial|((first|refine kL ?_|(refine ⟨fun hb=>?_,fun hb=>?_⟩<;>(try simp only [nrm] at hb)<;>(try (first|(exfalso;omega)|contradiction|exact kB hb)))|refine kW cfg_ok ?_|refine kC ?_|refine bdA ?_|refine bd2 ?_|refine bdR ?_|refine bdL ?_)<;>(conv=>whnf))|(refine And.intro ?_ ?_;rotate_left;(conv=>whnf);rotate_right))
           all_goals first|omega|exact List.take_length|skip
           have hal:=fun d hd=>@askM_len I fr to_ la (putM (R j).1 (elt .pos cur (j + 0)).x (elt .pos cur (j + 0)).y (15 - ((11 : Nat) : Int))).1 (elt .pos cur (j + 0)) (R j).2 d hd
           have has:=fun d hd=>askM_succ I fr to_ la (putM (R j).1 (elt .pos cur (j + 0)).x (elt .pos cur (j + 0)).y (15 - ((11 : Nat) : Int))).1 (elt .pos cur (j + 0)) (R j).2 (d:=d) hd
           have ha0 : askM I fr to_ la (putM (R j).1 (elt .pos cur (j + 0)).x (elt .pos cur (j + 0)).y (15 - ((11 : Nat) : Int))).1 (elt .pos cur (j + 0)) (R j).2 0 = (R j).2:=rfl
           have hrj1 : (R (j + 1)).2 = askM I fr to_ la (putM (R j).1 (elt .pos cur (j + 0)).x (elt .pos cur (j + 0)).y (15 - ((11 : Nat) : Int))).1 (elt .pos cur (j + 0)) (R j).2 4:=by rw [hrj];rfl
           have hrj2 : (R (j + 1)).1 = putM (R j).1 (elt .pos cur (j + 0)).x (elt .pos cur (j + 0)).y (15 - ((11 : Nat) : Int)):=by rw [hrj];rfl
           clear hrj
           generalize hA : askM I fr to_ la (putM (R j).1 (elt .pos cur (j + 0)).x (elt .pos cur (j + 0)).y (15 - ((11 : Nat) : Int))).1 (elt .pos cur (j + 0)) (R j).2 = A at *
           generalize hP : putM (R j).1 (elt .pos cur (j + 0)).x (elt .pos cur (j + 0)).y (15 - ((11 : Nat) : Int)) = P1 at *
           refine Runs.loopQ cfg_ok (σ:=Nat) [0,2,3,4,66,67] (fun d=>[.ptr 0 0,.ptr 200004 0,i64 (15 - ((11 : Nat) : Int)),i64 (j : Nat),.agg [i64 ((elt .pos cur (j + 0)).x - 1),i64 (elt .pos cur (j + 0)).y,i64 ((elt .pos cur (j + 0)).x + 1),i64 (elt .pos cur (j + 0)).y,i64 (elt .pos cur (j + 0)).x,i64 ((elt .pos cur (j + 0)).y - 1),i64 (elt .pos cur (j + 0)).x,i64 ((elt .pos cur (j + 0)).y + 1)],i64 (d : Nat)])
             (fun d=>(200004,.box (byR 11 (.own .pos (350201 + 2 * 11) 0 cur.length none) (.own .pos (350203 + 2 * 11) 0 (A d).length none))) :: (350201 + 2 * 11,.row .pos cur) :: (350203 + 2 * 11,.row .pos (A d)) :: fldM 0 1 3 fr to_ la I P1.1 nI P1.2)
             (fun d=>d ≤ 4) (fun d=>4 - d) 0 (by omega) ?_ ?_
           · conv=>whnf
             repeat' (first|exact trivial|((first|refine kL ?_|(refine ⟨fun hb=>?_,fun hb=>?_⟩<;>(try simp only [nrm] at hb)<;>(try (first|(exfalso;omega)|contradiction|exact kB hb)))|refine kW cfg_ok ?_|refine kC ?_|refine bdA ?_|refine bd2 ?_|refine bdR ?_|refine bdL ?_)<;>(conv=>whnf))|(refine And.intro ?_ ?_;rotate_left;(conv=>whnf);rotate_right))
             all_goals first|rfl|omega|(simp;done)|(rw [ha0];done)|(rw [ha0];exact List.take_length)|(rw [ha0];exact rfl)|(rw [← hP];exact rfl)|(rw [← hP,ha0];exact rfl)|trace_state
           · intro d hd N3 hN3 hE3 hT3
             by_cases hld : d < 4
             · have hbd:=dirD_bd hld
               have hop:=fopen_ev fr to_ la I P1.1 nI P1.2 (addP (elt .pos cur (j + 0)) (dirD d))
               have hade:=has d hld
               have hadl:=hal d (by omega)
               conv=>whnf
               repeat' (first|exact trivial|((first|refine kL ?_|(refine ⟨fun hb=>?_,fun hb=>?_⟩<;>(try simp only [nrm] at hb)<;>(try (first|(exfalso;omega)|contradiction|exact kB hb)))|refine kE hop [(0,0),(1,1),(3,3)] rfl ?_|refine kF hop [(0,0),(1,1),(3,3)] rfl ?_|(refine dir_pick hld rfl rfl ?_)|refine kW cfg_ok ?_|refine kC ?_|refine bdA ?_|refine bd2 ?_|refine bdR ?_|refine bdL ?_)<;>(conv=>whnf))|(refine And.intro ?_ ?_;rotate_left;(conv=>whnf);rotate_right))
               all_goals first|omega|skip
               all_goals
                 first
                   | rw [push_yes (by assumption) (by assumption)] at hade
                   | rw [push_shut (by assumption)] at hade
                   | rw [push_lit (by assumption)] at hade
                 refine hN3 _ _ ?_
                 conv=>whnf
                 refine .to (d + 1) (by omega) (by omega) ?_
                 conv=>whnf
                 repeat' (first|exact trivial|((first|refine kL ?_|(refine ⟨fun hb=>?_,fun hb=>?_⟩<;>(try simp only [nrm] at hb)<;>(try (first|(exfalso;omega)|contradiction|exact kB hb)))|refine kW cfg_ok ?_|refine kC ?_|refine bdA ?_|refine bd2 ?_|refine bdR ?_|refine bdL ?_)<;>(conv=>whnf))|(refine And.intro ?_ ?_;rotate_left;(conv=>whnf);rotate_right))
                 all_goals first|rfl|omega|exact List.take_length|(rw [hade];done)|(rw [hade];exact rfl)|(rw [hade];exact List.take_length)|(rw [hade];exact grow_pos _ (addP (elt .pos cur (j + 0)) (dirD d)))|(rw [hade];simp;done)|trace_state
             · obtain rfl : d = 4:=by omega
               conv=>whnf
               repeat' (first|exact trivial|((first|refine kL ?_|(refine ⟨fun hb=>?_,fun hb=>?_⟩<;>(try simp only [nrm] at hb)<;>(try (first|(exfalso;omega)|contradiction|exact kB hb)))|refine kW cfg_ok ?_|refine kC ?_|refine bdA ?_|refine bd2 ?_|refine bdR ?_|refine bdL ?_)<;>(conv=>whnf))|(refine And.intro ?_ ?_;rotate_left;(conv=>whnf);rotate_right))
               all_goals first|omega|skip
               refine hE3 _ _ _ ?_
               conv=>whnf
               repeat' (first|exact trivial|((first|refine kL ?_|(refine ⟨fun hb=>?_,fun hb=>?_⟩<;>(try simp only [nrm] at hb)<;>(try (first|(exfalso;omega)|contradiction|exact kB hb)))|refine kW cfg_ok ?_|refine kC ?_|refine bdA ?_|refine bd2 ?_|refine bdR ?_|refine bdL ?_)<;>(conv=>whnf))|(refine And.intro ?_ ?_;rotate_left;(conv=>whnf);rotate_right))
               all_goals first|omega|skip
               refine hN2 _ _ ?_
               conv=>whnf
               refine .to (j + 1) (by omega) (by omega) ?_
               conv=>whnf
               repeat' (first|exact trivial|((first|refine kL ?_|(refine ⟨fun hb=>?_,fun hb=>?_⟩<;>(try simp only [nrm] at hb)<;>(try (first|(exfalso;omega)|contradiction|exact kB hb)))|refine kW cfg_ok ?_|refine kC ?_|refine bdA ?_|refine bd2 ?_|refine bdR ?_|refine bdL ?_)<;>(conv=>whnf))|(refine And.intro ?_ ?_;rotate_left;(conv=>whnf);rotate_right))
               all_goals first|rfl|omega|exact List.take_length|(rw [hrj1];done)|(rw [hrj2];done)|(rw [hrj1];exact List.take_length)|(rw [hrj1,hrj2];exact rfl)|trace_state
       · obtain rfl : j = cur.length:=by omega
         conv=>whnf
         repeat' (first|exact trivial|((first|refine kL ?_|(refine ⟨fun hb=>?_,fun hb=>?_⟩<;>(try simp only [nrm] at hb)<;>(try (first|(exfalso;omega)|contradiction|exact kB hb)))|refine kW cfg_ok ?_|refine kC ?_|refine bdA ?_|refine bd2 ?_|refine bdR ?_|refine bdL ?_)<;>(conv=>whnf))|(refine And.intro ?_ ?_;rotate_left;(conv=>whnf);rotate_right))
         all_goals first|omega|exact List.take_length|skip
         refine hE2 _ _ _ ?_
         conv=>whnf
         repeat' (first|exact trivial|((first|refine kL ?_|(refine ⟨fun hb=>?_,fun hb=>?_⟩<;>(try simp only [nrm] at hb)<;>(try (first|(exfalso;omega)|contradiction|exact kB hb)))|refine kW cfg_ok ?_|refine kC ?_|refine bdA ?_|refine bd2 ?_|refine bdR ?_|refine bdL ?_)<;>(conv=>whnf))|(refine And.intro ?_ ?_;rotate_left;(conv=>whnf);rotate_right))
         all_goals first|omega|exact List.take_length|skip
         refine hN1 _ _ ?_
         conv=>whnf
         refine .to (11 + 1) (by omega) (by omega) ?_
         conv=>whnf
         repeat' (first|exact trivial|((first|refine kL ?_|(refine ⟨fun hb=>?_,fun hb=>?_⟩<;>(try simp only [nrm] at hb)<;>(try (first|(exfalso;omega)|contradiction|exact kB hb)))|refine kW cfg_ok ?_|refine kC ?_|refine bdA ?_|refine bd2 ?_|refine bdR ?_|refine bdL ?_)<;>(conv=>whnf))|(refine And.intro ?_ ?_;rotate_left;(conv=>whnf);rotate_right))
         all_goals first|rfl|omega|(rw [hsk];done)|(rw [hsk];exact rfl)|(rw [hsk];exact List.take_length)|trace_state
   · generalize (sh 12).2 = cur at *
     generalize (sh 12).1 = F0 at *
     have hr0 : litR I fr to_ la (15 - ((12 : Nat) : Int)) cur (F0,n0F l14 12) 0 = (F0,n0F l14 12):=rfl
     have hrs:=fun j hj=>litR_succ I fr to_ la (15 - ((12 : Nat) : Int)) cur (F0,n0F l14 12) (j:=j) hj
     have hrl:=fun j hj=>@litR_big I fr to_ la (15 - ((12 : Nat) : Int)) cur (F0,n0F l14 12) h1 h3 h5 (by omega) hcur j hj
     dsimp only at hrl
     generalize litR I fr to_ la (15 - ((12 : Nat) : Int)) cur (F0,n0F l14 12) = R at *
     conv=>whnf
     repeat' (first|exact trivial|((first|refine kL ?_|(refine ⟨fun hb=>?_,fun hb=>?_⟩<;>(try simp only [nrm] at hb)<;>(try (first|(exfalso;omega)|contradiction|exact kB hb)))|refine kW cfg_ok ?_|refine kC ?_|refine bdA ?_|refine bd2 ?_|refine bdR ?_|refine bdL ?_)<;>(conv=>whnf))|(refine And.intro ?_ ?_;rotate_left;(conv=>whnf);rotate_right))
     all_goals first|omega|exact List.take_length|skip
     refine Runs.loopQ cfg_ok (σ:=Nat) [0,2,3,4] (fun j=>[.ptr 0 0,.ptr 200004 0,i64 (15 - ((12 : Nat) : Int)),i64 (j : Nat)])
       (fun j=>(200004,.box (byR 12 (.own .pos (350201 + 2 * 12) 0 cur.length none) (.own .pos (350203 + 2 * 12) 0 (R j).2.length none))) :: (350201 + 2 * 12,.row .pos cur) :: (350203 + 2 * 12,.row .pos (R j).2) :: fldM 0 1 3 fr to_ la I (R j).1.1 nI (R j).1.2)
       (fun j=>j ≤ cur.length) (fun j=>cur.length - j) 0 (by omega) ?_ ?_
     · conv=>whnf
       repeat' (first|exact trivial|((first|refine kL ?_|(refine ⟨fun hb=>?_,fun hb=>?_⟩<;>(try simp only [nrm] at hb)<;>(try (first|(exfalso;omega)|contradiction|exact kB hb)))|refine kW cfg_ok ?_|refine kC ?_|refine bdA ?_|refine bd2 ?_|refine bdR ?_|refine bdL ?_)<;>(conv=>whnf))|(refine And.intro ?_ ?_;rotate_left;(conv=>whnf);rotate_right))
       all_goals first|rfl|omega|(simp;done)|(rw [hr0];done)|(rw [hr0];exact List.take_length)|(rw [hr0];exact rfl)|trace_state
     · intro j hj N2 hN2 hE2 hT2
       by_cases hlt : j < cur.length
       · have hrj:=hrs j hlt
         have hrn:=hrl j hj
         have hc : inF fr to_ la (elt .pos cur (j + 0)):=hcur _ (List.mem_of_getElem? (elt_get .pos cur j hlt))
         have hci : inF fr to_ la (elt .pos cur (((j : Nat) : Int).toNat + 0)):=hc
         unfold inF at hc hci
         by_cases hon : 0 < getZ ((R j).1.1 (elt .pos cur (j + 0)).x (elt .pos cur (j + 0)).y)
         · rw [litC_on (c:=elt .pos cur j) hon] at hrj
           conv=>whnf
           repeat' (first|exact trivial|((first|refine kL ?_|(refine ⟨fun hb=>?_,fun hb=>?_⟩<;>(try simp only [nrm] at hb)<;>(try (first|(exfalso;omega)|contradiction|exact kB hb)))|refine kW cfg_ok ?_|refine kC ?_|refine bdA ?_|refine bd2 ?_|refine bdR ?_|refine bdL ?_)<;>(conv=>whnf))|(refine And.intro ?_ ?_;rotate_left;(conv=>whnf);rotate_right))
           all_goals first|omega|exact List.take_length|skip
           refine hN2 _ _ ?_
           conv=>whnf
           refine .to (j + 1) (by omega) (by omega) ?_
           conv=>whnf
           repeat' (first|exact trivial|((first|refine kL ?_|(refine ⟨fun hb=>?_,fun hb=>?_⟩<;>(try simp only [nrm] at hb)<;>(try (first|(exfalso;omega)|contradiction|exact kB hb)))|refine kW cfg_ok ?_|refine kC ?_|refine bdA ?_|refine bd2 ?_|refine bdR ?_|refine bdL ?_)<;>(conv=>whnf))|(refine And.intro ?_ ?_;rotate_left;(conv=>whnf);rotate_right))
           all_goals first|rfl|omega|exact List.take_length|(rw [hrj];done)|(rw [hrj];exact rfl)|(rw [hrj];exact List.take_length)|trace_state
         · rw [litC_off (c:=elt .pos cur j) hon] at hrj
           conv=>whnf
           repeat' (first|exact trivial|((first|refine kL ?_|(refine ⟨fun hb=>?_,fun hb=>?_⟩<;>(try simp only [nrm] at hb)<;>(try (first|(exfalso;omega)|contradiction|exact kB hb)))|refine kW cfg_ok ?_|refine kC ?_|refine bdA ?_|refine bd2 ?_|refine bdR ?_|refine bdL ?_)<;>(conv=>whnf))|(refine And.intro ?_ ?_;rotate_left;(conv=>whnf);rotate_right))
           all_goals first|omega|exact List.take_length|skip
           have hal:=fun d hd=>@askM_len I fr to_ la (putM (R j).1 (elt .pos cur (j + 0)).x (elt .pos cur (j + 0)).y (15 - ((12 : Nat) : Int))).1 (elt .pos cur (j + 0)) (R j).2 d hd
           have has:=fun d hd=>askM_succ I fr to_ la (putM (R j).1 (elt .pos cur (j + 0)).x (elt .pos cur (j + 0)).y (15 - ((12 : Nat) : Int))).1 (elt .pos cur (j + 0)) (R j).2 (d:=d) hd
           have ha0 : askM I fr to_ la (putM (R j).1 (elt .pos cur (j + 0)).x (elt .pos cur (j + 0)).y (15 - ((12 : Nat) : Int))).1 (elt .pos cur (j + 0)) (R j).2 0 = (R j).2:=rfl
           have hrj1 : (R (j + 1)).2 = askM I fr to_ la (putM (R j).1 (elt .pos cur (j + 0)).x (elt .pos cur (j + 0)).y (15 - ((12 : Nat) : Int))).1 (elt .pos cur (j + 0)) (R j).2 4:=by rw [hrj];rfl
           have hrj2 : (R (j + 1)).1 = putM (R j).1 (elt .pos cur (j + 0)).x (elt .pos cur (j + 0)).y (15 - ((12 : Nat) : Int)):=by rw [hrj];rfl
           clear hrj
           generalize hA : askM I fr to_ la (putM (R j).1 (elt .pos cur (j + 0)).x (elt .pos cur (j + 0)).y (15 - ((12 : Nat) : Int))).1 (elt .pos cur (j + 0)) (R j).2 = A at *
           generalize hP : putM (R j).1 (elt .pos cur (j + 0)).x (elt .pos cur (j + 0)).y (15 - ((12 : Nat) : Int)) = P1 at *
           refine Runs.loopQ cfg_ok (σ:=Nat) [0,2,3,4,66,67] (fun d=>[.ptr 0 0,.ptr 200004 0,i64 (15 - ((12 : Nat) : Int)),i64 (j : Nat),.agg [i64 ((elt .pos cur (j + 0)).x - 1),i64 (elt .pos cur (j + 0)).y,i64 ((elt .pos cur (j + 0)).x + 1),i64 (elt .pos cur (j + 0)).y,i64 (elt .pos cur (j + 0)).x,i64 ((elt .pos cur (j + 0)).y - 1),i64 (elt .pos cur (j + 0)).x,i64 ((elt .pos cur (j + 0)).y + 1)],i64 (d : Nat)])
             (fun d=>(200004,.box (byR 12 (.own .pos (350201 + 2 * 12) 0 cur.length none) (.own .pos (350203 + 2 * 12) 0 (A d).length none))) :: (350201 + 2 * 12,.row .pos cur) :: (350203 + 2 * 12,.row .pos (A d)) :: fldM 0 1 3 fr to_ la I P1.1 nI P1.2)
             (fun d=>d ≤ 4) (fun d=>4 - d) 0 (by omega) ?_ ?_
           · conv=>whnf
             repeat' (first|exact trivial|((first|refine kL ?_|(refine ⟨fun hb=>?_,fun hb=>?_⟩<;>(try simp only [nrm] at hb)<;>(try (first|(exfalso;omega)|contradiction|exact kB hb)))|refine kW cfg_ok ?_|refine kC ?_|refine bdA ?_|refine bd2 ?_|refine bdR ?_|refine bdL ?_)<;>(conv=>whnf))|(refine And.intro ?_ ?_;rotate_left;(conv=>whnf);rotate_right))
             all_goals first|rfl|omega|(simp;done)|(rw [ha0];done)|(rw [ha0];exact List.take_length)|(rw [ha0];exact rfl)|(rw [← hP];exact rfl)|(rw [← hP,ha0];exact rfl)|trace_state
           · intro d hd N3 hN3 hE3 hT3
             by_cases hld : d < 4
             · have hbd:=dirD_bd hld
               have hop:=fopen_ev fr to_ la I P1.1 nI P1.2 (addP (elt .pos cur (j + 0)) (dirD d))
               have hade:=has d hld
               have hadl:=hal d (by omega)
               conv=>whnf
               repeat' (first|exact trivial|((first|refine kL ?_|(refine ⟨fun hb=>?_,fun hb=>?_⟩<;>(try simp only [nrm] at hb)<;>(try (first|(exfalso;omega)|contradiction|exact kB hb)))|refine kE hop [(0,0),(1,1),(3,3)] rfl ?_|refine kF hop [(0,0),(1,1),(3,3)] rfl ?_|(refine dir_pick hld rfl rfl ?_)|refine kW cfg_ok ?_|refine kC ?_|refine bdA ?_|refine bd2 ?_|refine bdR ?_|refine bdL ?_)<;>(conv=>whnf))|(refine And.intro ?_ ?_;rotate_left;(conv=>whnf);rotate_right))
               all_goals first|omega|skip
               all_goals
                 first
                   | rw [push_yes (by assumption) (by assumption)] at hade
                   | rw [push_shut (by assumption)] at hade
                   | rw [push_lit (by assumption)] at hade
                 refine hN3 _ _ ?_
                 conv=>whnf
                 refine .to (d + 1) (by omega) (by omega) ?_
                 conv=>whnf
                 repeat' (first|exact trivial|((first|refine kL ?_|(refine ⟨fun hb=>?_,fun hb=>?_⟩<;>(try simp only [nrm] at hb)<;>(try (first|(exfalso;omega)|contradiction|exact kB hb)))|refine kW cfg_ok ?_|refine kC ?_|refine bdA ?_|refine bd2 ?_|refine bdR ?_|refine bdL ?_)<;>(conv=>whnf))|(refine And.intro ?_ ?_;rotate_left;(conv=>whnf);rotate_right))
                 all_goals first|rfl|omega|exact List.take_length|(rw [hade];done)|(rw [hade];exact rfl)|(rw [hade];exact List.take_length)|(rw [hade];exact grow_pos _ (addP (elt .pos cur (j + 0)) (dirD d)))|(rw [hade];simp;done)|trace_state
             · obtain rfl : d = 4:=by omega
               conv=>whnf
               repeat' (first|exact trivial|((first|refine kL ?_|(refine ⟨fun hb=>?_,fun hb=>?_⟩<;>(try simp only [nrm] at hb)<;>(try (first|(exfalso;omega)|contradiction|exact kB hb)))|refine kW cfg_ok ?_|refine kC ?_|refine bdA ?_|refine bd2 ?_|refine bdR ?_|refine bdL ?_)<;>(conv=>whnf))|(refine And.intro ?_ ?_;rotate_left;(conv=>whnf);rotate_right))
               all_goals first|omega|skip
               refine hE3 _ _ _ ?_
               conv=>whnf
               repeat' (first|exact trivial|((first|refine kL ?_|(refine ⟨fun hb=>?_,fun hb=>?_⟩<;>(try simp only [nrm] at hb)<;>(try (first|(exfalso;omega)|contradiction|exact kB hb)))|refine kW cfg_ok ?_|refine kC ?_|refine bdA ?_|refine bd2 ?_|refine bdR ?_|refine bdL ?_)<;>(conv=>whnf))|(refine And.intro ?_ ?_;rotate_left;(conv=>whnf);rotate_right))
               all_goals first|omega|skip
               refine hN2 _ _ ?_
               conv=>whnf
               refine .to (j + 1) (by omega) (by omega) ?_
               conv=>whnf
               repeat' (first|exact trivial|((first|refine kL ?_|(refine ⟨fun hb=>?_,fun hb=>?_⟩<;>(try simp only [nrm] at hb)<;>(try (first|(exfalso;omega)|contradiction|exact kB hb)))|refine kW cfg_ok ?_|refine kC ?_|refine bdA ?_|refine bd2 ?_|refine bdR ?_|refine bdL ?_)<;>(conv=>whnf))|(refine And.intro ?_ ?_;rotate_left;(conv=>whnf);rotate_right))
               all_goals first|rfl|omega|exact List.take_length|(rw [hrj1];done)|(rw [hrj2];done)|(rw [hrj1];exact List.take_length)|(rw [hrj1,hrj2];exact rfl)|trace_state
       · obtain rfl : j = cur.length:=by omega
         conv=>whnf
         repeat' (first|exact trivial|((first|refine kL ?_|(refine ⟨fun hb=>?_,fun hb=>?_⟩<;>(try simp only [nrm] at hb)<;>(try (first|(exfalso;omega)|contradiction|exact kB hb)))|refine kW cfg_ok ?_|refine kC ?_|refine bdA ?_|refine bd2 ?_|refine bdR ?_|refine bdL ?_)<;>(conv=>whnf))|(refine And.intro ?_ ?_;rotate_left;(conv=>whnf);rotate_right))
         all_goals first|omega|exact List.take_length|skip
         refine hE2 _ _ _ ?_
         conv=>whnf
         repeat' (first|exact trivial|((first|refine kL ?_|(refine ⟨fun hb=>?_,fun hb=>?_⟩<;>(try simp only [nrm] at hb)<;>(try (first|(exfalso;omega)|contradiction|exact kB hb)))|refine kW cfg_ok ?_|refine kC ?_|refine bdA ?_|refine bd2 ?_|refine bdR ?_|refine bdL ?_)<;>(conv=>whnf))|(refine And.intro ?_ ?_;rotate_left;(conv=>whnf);rotate_right))
         all_goals first|omega|exact List.take_length|skip
         refine hN1 _ _ ?_
         conv=>whnf
         refine .to (12 + 1) (by omega) (by omega) ?_
         conv=>whnf
         repeat' (first|exact trivial|((first|refine kL ?_|(refine ⟨fun hb=>?_,fun hb=>?_⟩<;>(try simp only [nrm] at hb)<;>(try (first|(exfalso;omega)|contradiction|exact kB hb)))|refine kW cfg_ok ?_|refine kC ?_|refine bdA ?_|refine bd2 ?_|refine bdR ?_|refine bdL ?_)<;>(conv=>whnf))|(refine And.intro ?_ ?_;rotate_left;(conv=>whnf);rotate_right))
         all_goals first|rfl|omega|(rw [hsk];done)|(rw [hsk];exact rfl)|(rw [hsk];exact List.take_length)|trace_state
   · generalize (sh 13).2 = cur at *
     generalize (sh 13).1 = F0 at *
     have hr0 : litR I fr to_ la (15 - ((13 : Nat) : Int)) cur (F0,n0F l14 13) 0 = (F0,n0F l14 13):=rfl
     have hrs:=fun j hj=>litR_succ I fr to_ la (15 - ((13 : Nat) : Int)) cur (F0,n0F l14 13) (j:=j) hj
     have hrl:=fun j hj=>@litR_big I fr to_ la (15 - ((13 : Nat) : Int)) cur (F0,n0F l14 13) h1 h3 h5 (by omega) hcur j hj
     dsimp only at hrl
     generalize litR I fr to_ la (15 - ((13 : Nat) : Int)) cur (F0,n0F l14 13) = R at *
     conv=>whnf
     repeat' (first|exact trivial|((first|refine kL ?_|(refine ⟨fun hb=>?_,fun hb=>?_⟩<;>(try simp only [nrm] at hb)<;>(try (first|(exfalso;omega)|contradiction|exact kB hb)))|refine kW cfg_ok ?_|refine kC ?_|refine bdA ?_|refine bd2 ?_|refine bdR ?_|refine bdL ?_)<;>(conv=>whnf))|(refine And.intro ?_ ?_;rotate_left;(conv=>whnf);rotate_right))
     all_goals first|omega|exact List.take_length|skip
     refine Runs.loopQ cfg_ok (σ:=Nat) [0,2,3,4] (fun j=>[.ptr 0 0,.ptr 200004 0,i64 (15 - ((13 : Nat) : Int)),i64 (j : Nat)])
       (fun j=>(200004,.box (byR 13 (.own .pos (350201 + 2 * 13) 0 cur.length none) (.own .pos (350203 + 2 * 13) 0 (R j).2.length none))) :: (350201 + 2 * 13,.row .pos cur) :: (350203 + 2 * 13,.row .pos (R j).2) :: fldM 0 1 3 fr to_ la I (R j).1.1 nI (R j).1.2)
       (fun j=>j ≤ cur.length) (fun j=>cur.length - j) 0 (by omega) ?_ ?_
     · conv=>whnf
       repeat' (first|exact trivial|((first|refine kL ?_|(refine ⟨fun hb=>?_,fun hb=>?_⟩<;>(try simp only [nrm] at hb)<;>(try (first|(exfalso;omega)|contradiction|exact kB hb)))|refine kW cfg_ok ?_|refine kC ?_|refine bdA ?_|refine bd2 ?_|refine bdR ?_|refine bdL ?_)<;>(conv=>whnf))|(refine And.intro ?_ ?_;rotate_left;(conv=>whnf);rotate_right))
       all_goals first|rfl|omega|(simp;done)|(rw [hr0];done)|(rw [hr0];exact List.take_length)|(rw [hr0];exact rfl)|trace_state
     · intro j hj N2 hN2 hE2 hT2
       by_cases hlt : j < cur.length
       · have hrj:=hrs j hlt
         have hrn:=hrl j hj
         have hc : inF fr to_ la (elt .pos cur (j + 0)):=hcur _ (List.mem_of_getElem? (elt_get .pos cur j hlt))
         have hci : inF fr to_ la (elt .pos cur (((j : Nat) : Int).toNat + 0)):=hc
         unfold inF at hc hci
         by_cases hon : 0 < getZ ((R j).1.1 (elt .pos cur (j + 0)).x (elt .pos cur (j + 0)).y)
         · rw [litC_on (c:=elt .pos cur j) hon] at hrj
           conv=>whnf
           repeat' (first|exact trivial|((first|refine kL ?_|(refine ⟨fun hb=>?_,fun hb=>?_⟩<;>(try simp only [nrm] at hb)<;>(try (first|(exfalso;omega)|contradiction|exact kB hb)))|refine kW cfg_ok ?_|refine kC ?_|refine bdA ?_|refine bd2 ?_|refine bdR ?_|refine bdL ?_)<;>(conv=>whnf))|(refine And.intro ?_ ?_;rotate_left;(conv=>whnf);rotate_right))
           all_goals first|omega|exact List.take_length|skip
           refine hN2 _ _ ?_
           conv=>whnf
           refine .to (j + 1) (by omega) (by omega) ?_
           conv=>whnf
           repeat' (first|exact trivial|((first|refine kL ?_|(refine ⟨fun hb=>?_,fun hb=>?_⟩<;>(try simp only [nrm] at hb)<;>(try (first|(exfalso;omega)|contradiction|exact kB hb)))|refine kW cfg_ok ?_|refine kC ?_|refine bdA ?_|refine bd2 ?_|refine bdR ?_|refine bdL ?_)<;>(conv=>whnf))|(refine And.intro ?_ ?_;rotate_left;(conv=>whnf);rotate_right))
           all_goals first|rfl|omega|exact List.take_length|(rw [hrj];done)|(rw [hrj];exact rfl)|(rw [hrj];exact List.take_length)|trace_state
         · rw [litC_off (c:=elt .pos cur j) hon] at hrj
           conv=>whnf
           repeat' (first|exact trivial|((first|refine kL ?_|(refine ⟨fun hb=>?_,fun hb=>?_⟩<;>(try simp only [nrm] at hb)<;>(try (first|(exfalso;omega)|contradiction|exact kB hb)))|refine kW cfg_ok ?_|refine kC ?_|refine bdA ?_|refine bd2 ?_|refine bdR ?_|refine bdL ?_)<;>(conv=>whnf))|(refine And.intro ?_ ?_;rotate_left;(conv=>whnf);rotate_right))
           all_goals first|omega|exact List.take_length|skip
           have hal:=fun d hd=>@askM_len I fr to_ la (putM (R j).1 (elt .pos cur (j + 0)).x (elt .pos cur (j + 0)).y (15 - ((13 : Nat) : Int))).1 (elt .pos cur (j + 0)) (R j).2 d hd
           have has:=fun d hd=>askM_succ I fr to_ la (putM (R j).1 (elt .pos cur (j + 0)).x (elt .pos cur (j + 0)).y (15 - ((13 : Nat) : Int))).1 (elt .pos cur (j + 0)) (R j).2 (d:=d) hd
           have ha0 : askM I fr to_ la (putM (R j).1 (elt .pos cur (j + 0)).x (elt .pos cur (j + 0)).y (15 - ((13 : Nat) : Int))).1 (elt .pos cur (j + 0)) (R j).2 0 = (R j).2:=rfl
           have hrj1 : (R (j + 1)).2 = askM I fr to_ la (putM (R j).1 (elt .pos cur (j + 0)).x (elt .pos cur (j + 0)).y (15 - ((13 : Nat) : Int))).1 (elt .pos cur (j + 0)) (R j).2 4:=by rw [hrj];rfl
           have hrj2 : (R (j + 1)).1 = putM (R j).1 (elt .pos cur (j + 0)).x (elt .pos cur (j + 0)).y (15 - ((13 : Nat) : Int)):=by rw [hrj];rfl
           clear hrj
           generalize hA : askM I fr to_ la (putM (R j).1 (elt .pos cur (j + 0)).x (elt .pos cur (j + 0)).y (15 - ((13 : Nat) : Int))).1 (elt .pos cur (j + 0)) (R j).2 = A at *
           generalize hP : putM (R j).1 (elt .pos cur (j + 0)).x (elt .pos cur (j + 0)).y (15 - ((13 : Nat) : Int)) = P1 at *
           refine Runs.loopQ cfg_ok (σ:=Nat) [0,2,3,4,66,67] (fun d=>[.ptr 0 0,.ptr 200004 0,i64 (15 - ((13 : Nat) : Int)),i64 (j : Nat),.agg [i64 ((elt .pos cur (j + 0)).x - 1),i64 (elt .pos cur (j + 0)).y,i64 ((elt .pos cur (j + 0)).x + 1),i64 (elt .pos cur (j + 0)).y,i64 (elt .pos cur (j + 0)).x,i64 ((elt .pos cur (j + 0)).y - 1),i64 (elt .pos cur (j + 0)).x,i64 ((elt .pos cur (j + 0)).y + 1)],i64 (d : Nat)])
             (fun d=>(200004,.box (byR 13 (.own .pos (350201 + 2 * 13) 0 cur.length none) (.own .pos (350203 + 2 * 13) 0 (A d).length none))) :: (350201 + 2 * 13,.row .pos cur) :: (350203 + 2 * 13,.row .pos (A d)) :: fldM 0 1 3 fr to_ la I P1.1 nI P1.2)
             (fun d=>d ≤ 4) (fun d=>4 - d) 0 (by omega) ?_ ?_
           · conv=>whnf
             repeat' (first|exact trivial|((first|refine kL ?_|(refine ⟨fun hb=>?_,fun hb=>?_⟩<;>(try simp only [nrm] at hb)<;>(try (first|(exfalso;omega)|contradiction|exact kB hb)))|refine kW cfg_ok ?_|refine kC ?_|refine bdA ?_|refine bd2 ?_|refine bdR ?_|refine bdL ?_)<;>(conv=>whnf))|(refine And.intro ?_ ?_;rotate_left;(conv=>whnf);rotate_right))
             all_goals first|rfl|omega|(simp;done)|(rw [ha0];done)|(rw [ha0];exact List.take_length)|(rw [ha0];exact rfl)|(rw [← hP];exact rfl)|(rw [← hP,ha0];exact rfl)|trace_state
           · intro d hd N3 hN3 hE3 hT3
             by_cases hld : d < 4
             · have hbd:=dirD_bd hld
               have hop:=fopen_ev fr to_ la I P1.1 nI P1.2 (addP (elt .pos cur (j + 0)) (dirD d))
               have hade:=has d hld
               have hadl:=hal d (by omega)
               conv=>whnf
               repeat' (first|exact trivial|((first|refine kL ?_|(refine ⟨fun hb=>?_,fun hb=>?_⟩<;>(try simp only [nrm] at hb)<;>(try (first|(exfalso;omega)|contradiction|exact kB hb)))|refine kE hop [(0,0),(1,1),(3,3)] rfl ?_|refine kF hop [(0,0),(1,1),(3,3)] rfl ?_|(refine dir_pick hld rfl rfl ?_)|refine kW cfg_ok ?_|refine kC ?_|refine bdA ?_|refine bd2 ?_|refine bdR ?_|refine bdL ?_)<;>(conv=>whnf))|(refine And.intro ?_ ?_;rotate_left;(conv=>whnf);rotate_right))
               all_goals first|omega|skip
               all_goals
                 first
                   | rw [push_yes (by assumption) (by assumption)] at hade
                   | rw [push_shut (by assumption)] at hade
                   | rw [push_lit (by assumption)] at hade
                 refine hN3 _ _ ?_
                 conv=>whnf
                 refine .to (d + 1) (by omega) (by omega) ?_
                 conv=>whnf
                 repeat' (first|exact trivial|((first|refine kL ?_|(refine ⟨fun hb=>?_,fun hb=>?_⟩<;>(try simp only [nrm] at hb)<;>(try (first|(exfalso;omega)|contradiction|exact kB hb)))|refine kW cfg_ok ?_|refine kC ?_|refine bdA ?_|refine bd2 ?_|refine bdR ?_|refine bdL ?_)<;>(conv=>whnf))|(refine And.intro ?_ ?_;rotate_left;(conv=>whnf);rotate_right))
                 all_goals first|rfl|omega|exact List.take_length|(rw [hade];done)|(rw [hade];exact rfl)|(rw [hade];exact List.take_length)|(rw [hade];exact grow_pos _ (addP (elt .pos cur (j + 0)) (dirD d)))|(rw [hade];simp;done)|trace_state
             · obtain rfl : d = 4:=by omega
               conv=>whnf
               repeat' (first|exact trivial|((first|refine kL ?_|(refine ⟨fun hb=>?_,fun hb=>?_⟩<;>(try simp only [nrm] at hb)<;>(try (first|(exfalso;omega)|contradiction|exact kB hb)))|refine kW cfg_ok ?_|refine kC ?_|refine bdA ?_|refine bd2 ?_|refine bdR ?_|refine bdL ?_)<;>(conv=>whnf))|(refine And.intro ?_ ?_;rotate_left;(conv=>whnf);rotate_right))
               all_goals first|omega|skip
               refine hE3 _ _ _ ?_
               conv=>whnf
               repeat' (first|exact trivial|((first|refine kL ?_|(refine ⟨fun hb=>?_,fun hb=>?_⟩<;>(try simp only [nrm] at hb)<;>(try (first|(exfalso;omega)|contradiction|exact kB hb)))|refine kW cfg_ok ?_|refine kC ?_|refine bdA ?_|refine bd2 ?_|refine bdR ?_|refine bdL ?_)<;>(conv=>whnf))|(refine And.intro ?_ ?_;rotate_left;(conv=>whnf);rotate_right))
               all_goals first|omega|skip
               refine hN2 _ _ ?_
               conv=>whnf
               refine .to (j + 1) (by omega) (by omega) ?_
               conv=>whnf
               repeat' (first|exact trivial|((first|refine kL ?_|(refine ⟨fun hb=>?_,fun hb=>?_⟩<;>(try simp only [nrm] at hb)<;>(try (first|(exfalso;omega)|contradiction|exact kB hb)))|refine kW cfg_ok ?_|refine kC ?_|refine bdA ?_|refine bd2 ?_|refine bdR ?_|refine bdL ?_)<;>(conv=>whnf))|(refine And.intro ?_ ?_;rotate_left;(conv=>whnf);rotate_right))
               all_goals first|rfl|omega|exact List.take_length|(rw [hrj1];done)|(rw [hrj2];done)|(rw [hrj1];exact List.take_length)|(rw [hrj1,hrj2];exact rfl)|trace_state
       · obtain rfl : j = cur.length:=by omega
         conv=>whnf
         repeat' (first|exact trivial|((first|refine kL ?_|(refine ⟨fun hb=>?_,fun hb=>?_⟩<;>(try simp only [nrm] at hb)<;>(try (first|(exfalso;omega)|contradiction|exact kB hb)))|refine kW cfg_ok ?_|refine kC ?_|refine bdA ?_|refine bd2 ?_|refine bdR ?_|refine bdL ?_)<;>(conv=>whnf))|(refine And.intro ?_ ?_;rotate_left;(conv=>whnf);rotate_right))
         all_goals first|omega|exact List.take_length|skip
         refine hE2 _ _ _ ?_
         conv=>whnf
         repeat' (first|exact trivial|((first|refine kL ?_|(refine ⟨fun hb=>?_,fun hb=>?_⟩<;>(try simp only [nrm] at hb)<;>(try (first|(exfalso;omega)|contradiction|exact kB hb)))|refine kW cfg_ok ?_|refine kC ?_|refine bdA ?_|refine bd2 ?_|refine bdR ?_|refine bdL ?_)<;>(conv=>whnf))|(refine And.intro ?_ ?_;rotate_left;(conv=>whnf);rotate_right))
         all_goals first|omega|exact List.take_length|skip
         refine hN1 _ _ ?_
         conv=>whnf
         refine .to (13 + 1) (by omega) (by omega) ?_
         conv=>whnf
         repeat' (first|exact trivial|((first|refine kL ?_|(refine ⟨fun hb=>?_,fun hb=>?_⟩<;>(try simp only [nrm] at hb)<;>(try (first|(exfalso;omega)|contradiction|exact kB hb)))|refine kW cfg_ok ?_|refine kC ?_|refine bdA ?_|refine bd2 ?_|refine bdR ?_|refine bdL ?_)<;>(conv=>whnf))|(refine And.intro ?_ ?_;rotate_left;(conv=>whnf);rotate_right))
         all_goals first|rfl|omega|(rw [hsk];done)|(rw [hsk];exact rfl)|(rw [hsk];exact List.take_length)|trace_state
   · generalize (sh 14).2 = cur at *
     generalize (sh 14).1 = F0 at *
     have hr0 : litR I fr to_ la (15 - ((14 : Nat) : Int)) cur (F0,n0F l14 14) 0 = (F0,n0F l14 14):=rfl
     have hrs:=fun j hj=>litR_succ I fr to_ la (15 - ((14 : Nat) : Int)) cur (F0,n0F l14 14) (j:=j) hj
     have hrl:=fun j hj=>@litR_big I fr to_ la (15 - ((14 : Nat) : Int)) cur (F0,n0F l14 14) h1 h3 h5 (by omega) hcur j hj
     dsimp only at hrl
     generalize litR I fr to_ la (15 - ((14 : Nat) : Int)) cur (F0,n0F l14 14) = R at *
     conv=>whnf
     repeat' (first|exact trivial|((first|refine kL ?_|(refine ⟨fun hb=>?_,fun hb=>?_⟩<;>(try simp only [nrm] at hb)<;>(try (first|(exfalso;omega)|contradiction|exact kB hb)))|refine kW cfg_ok ?_|refine kC ?_|refine bdA ?_|refine bd2 ?_|refine bdR ?_|refine bdL ?_)<;>(conv=>whnf))|(refine And.intro ?_ ?_;rotate_left;(conv=>whnf);rotate_right))
     all_goals first|omega|exact List.take_length|skip
     refine Runs.loopQ cfg_ok (σ:=Nat) [0,2,3,4] (fun j=>[.ptr 0 0,.ptr 200004 0,i64 (15 - ((14 : Nat) : Int)),i64 (j : Nat)])
       (fun j=>(200004,.box (byR 14 (.own .pos (350201 + 2 * 14) 0 cur.length none) (.own .pos (350203 + 2 * 14) 0 (R j).2.length none))) :: (350201 + 2 * 14,.row .pos cur) :: (350203 + 2 * 14,.row .pos (R j).2) :: fldM 0 1 3 fr to_ la I (R j).1.1 nI (R j).1.2)
       (fun j=>j ≤ cur.length) (fun j=>cur.length - j) 0 (by omega) ?_ ?_
     · conv=>whnf
       repeat' (first|exact trivial|((first|refine kL ?_|(refine ⟨fun hb=>?_,fun hb=>?_⟩<;>(try simp only [nrm] at hb)<;>(try (first|(exfalso;omega)|contradiction|exact kB hb)))|refine kW cfg_ok ?_|refine kC ?_|refine bdA ?_|refine bd2 ?_|refine bdR ?_|refine bdL ?_)<;>(conv=>whnf))|(refine And.intro ?_ ?_;rotate_left;(conv=>whnf);rotate_right))
       all_goals first|rfl|omega|(simp;done)|(rw [hr0];done)|(rw [hr0];exact List.take_length)|(rw [hr0];exact rfl)|trace_state
     · intro j hj N2 hN2 hE2 hT2
       by_cases hlt : j < cur.length
       · have hrj:=hrs j hlt
         have hrn:=hrl j hj
         have hc : inF fr to_ la (elt .pos cur (j + 0)):=hcur _ (List.mem_of_getElem? (elt_get .pos cur j hlt))
         have hci : inF fr to_ la (elt .pos cur (((j : Nat) : Int).toNat + 0)):=hc
         unfold inF at hc hci
         by_cases hon : 0 < getZ ((R j).1.1 (elt .pos cur (j + 0)).x (elt .pos cur (j + 0)).y)
         · rw [litC_on (c:=elt .pos cur j) hon] at hrj
           conv=>whnf
           repeat' (first|exact trivial|((first|refine kL ?_|(refine ⟨fun hb=>?_,fun hb=>?_⟩<;>(try simp only [nrm] at hb)<;>(try (first|(exfalso;omega)|contradiction|exact kB hb)))|refine kW cfg_ok ?_|refine kC ?_|refine bdA ?_|refine bd2 ?_|refine bdR ?_|refine bdL ?_)<;>(conv=>whnf))|(refine And.intro ?_ ?_;rotate_left;(conv=>whnf);rotate_right))
           all_goals first|omega|exact List.take_length|skip
           refine hN2 _ _ ?_
           conv=>whnf
           refine .to (j + 1) (by omega) (by omega) ?_
           conv=>whnf
           repeat' (first|exact trivial|((first|refine kL ?_|(refine ⟨fun hb=>?_,fun hb=>?_⟩<;>(try simp only [nrm] at hb)<;>(try (first|(exfalso;omega)|contradiction|exact kB hb)))|refine kW cfg_ok ?_|refine kC ?_|refine bdA ?_|refine bd2 ?_|refine bdR ?_|refine bdL ?_)<;>(conv=>whnf))|(refine And.intro ?_ ?_;rotate_left;(conv=>whnf);rotate_right))
           all_goals first|rfl|omega|exact List.take_length|(rw [hrj];done)|(rw [hrj];exact rfl)|(rw [hrj];exact List.take_length)|trace_state
         · rw [litC_off (c:=elt .pos cur j) hon] at hrj
           conv=>whnf
           repeat' (first|exact trivial|((first|refine kL ?_|(refine ⟨fun hb=>?_,fun hb=>?_⟩<;>(try simp only [nrm] at hb)<;>(try (first|(exfalso;omega)|contradiction|exact kB hb)))|refine kW cfg_ok ?_|refine kC ?_|refine bdA ?_|refine bd2 ?_|refine bdR ?_|refine bdL ?_)<;>(conv=>whnf))|(refine And.intro ?_ ?_;rotate_left;(conv=>whnf);rotate_right))
           all_goals first|omega|exact List.take_length|skip
           have hal:=fun d hd=>@askM_len I fr to_ la (putM (R j).1 (elt .pos cur (j + 0)).x (elt .pos cur (j + 0)).y (15 - ((14 : Nat) : Int))).1 (elt .pos cur (j + 0)) (R j).2 d hd
           have has:=fun d hd=>askM_succ I fr to_ la (putM (R j).1 (elt .pos cur (j + 0)).x (elt .pos cur (j + 0)).y (15 - ((14 : Nat) : Int))).1 (elt .pos cur (j + 0)) (R j).2 (d:=d) hd
           have ha0 : askM I fr to_ la (putM (R j).1 (elt .pos cur (j + 0)).x (elt .pos cur (j + 0)).y (15 - ((14 : Nat) : Int))).1 (elt .pos cur (j + 0)) (R j).2 0 = (R j).2:=rfl
           have hrj1 : (R (j + 1)).2 = askM I fr to_ la (putM (R j).1 (elt .pos cur (j + 0)).x (elt .pos cur (j + 0)).y (15 - ((14 : Nat) : Int))).1 (elt .pos cur (j + 0)) (R j).2 4:=by rw [hrj];rfl
           have hrj2 : (R (j + 1)).1 = putM (R j).1 (elt .pos cur (j + 0)).x (elt .pos cur (j + 0)).y (15 - ((14 : Nat) : Int)):=by rw [hrj];rfl
           clear hrj
           generalize hA : askM I fr to_ la (putM (R j).1 (elt .pos cur (j + 0)).x (elt .pos cur (j + 0)).y (15 - ((14 : Nat) : Int))).1 (elt .pos cur (j + 0)) (R j).2 = A at *
           generalize hP : putM (R j).1 (elt .pos cur (j + 0)).x (elt .pos cur (j + 0)).y (15 - ((14 : Nat) : Int)) = P1 at *
           refine Runs.loopQ cfg_ok (σ:=Nat) [0,2,3,4,66,67] (fun d=>[.ptr 0 0,.ptr 200004 0,i64 (15 - ((14 : Nat) : Int)),i64 (j : Nat),.agg [i64 ((elt .pos cur (j + 0)).x - 1),i64 (elt .pos cur (j + 0)).y,i64 ((elt .pos cur (j + 0)).x + 1),i64 (elt .pos cur (j + 0)).y,i64 (elt .pos cur (j + 0)).x,i64 ((elt .pos cur (j + 0)).y - 1),i64 (elt .pos cur (j + 0)).x,i64 ((elt .pos cur (j + 0)).y + 1)],i64 (d : Nat)])
             (fun d=>(200004,.box (byR 14 (.own .pos (350201 + 2 * 14) 0 cur.length none) (.own .pos (350203 + 2 * 14) 0 (A d).length none))) :: (350201 + 2 * 14,.row .pos cur) :: (350203 + 2 * 14,.row .pos (A d)) :: fldM 0 1 3 fr to_ la I P1.1 nI P1.2)
             (fun d=>d ≤ 4) (fun d=>4 - d) 0 (by omega) ?_ ?_
           · conv=>whnf
             repeat' (first|exact trivial|((first|refine kL ?_|(refine ⟨fun hb=>?_,fun hb=>?_⟩<;>(try simp only [nrm] at hb)<;>(try (first|(exfalso;omega)|contradiction|exact kB hb)))|refine kW cfg_ok ?_|refine kC ?_|refine bdA ?_|refine bd2 ?_|refine bdR ?_|refine bdL ?_)<;>(conv=>whnf))|(refine And.intro ?_ ?_;rotate_left;(conv=>whnf);rotate_right))
             all_goals first|rfl|omega|(simp;done)|(rw [ha0];done)|(rw [ha0];exact List.take_length)|(rw [ha0];exact rfl)|(rw [← hP];exact rfl)|(rw [← hP,ha0];exact rfl)|trace_state
           · intro d hd N3 hN3 hE3 hT3
             by_cases hld : d < 4
             · have hbd:=dirD_bd hld
               have hop:=fopen_ev fr to_ la I P1.1 nI P1.2 (addP (elt .pos cur (j + 0)) (dirD d))
               have hade:=has d hld
               have hadl:=hal d (by omega)
               conv=>whnf
               repeat' (first|exact trivial|((first|refine kL ?_|(refine ⟨fun hb=>?_,fun hb=>?_⟩<;>(try simp only [nrm] at hb)<;>(try (first|(exfalso;omega)|contradiction|exact kB hb)))|refine kE hop [(0,0),(1,1),(3,3)] rfl ?_|refine kF hop [(0,0),(1,1),(3,3)] rfl ?_|(refine dir_pick hld rfl rfl ?_)|refine kW cfg_ok ?_|refine kC ?_|refine bdA ?_|refine bd2 ?_|refine bdR ?_|refine bdL ?_)<;>(conv=>whnf))|(refine And.intro ?_ ?_;rotate_left;(conv=>whnf);rotate_right))
               all_goals first|omega|skip
               all_goals
                 first
                   | rw [push_yes (by assumption) (by assumption)] at hade
                   | rw [push_shut (by assumption)] at hade
                   | rw [push_lit (by assumption)] at hade
                 refine hN3 _ _ ?_
                 conv=>whnf
                 refine .to (d + 1) (by omega) (by omega) ?_
                 conv=>whnf
                 repeat' (first|exact trivial|((first|refine kL ?_|(refine ⟨fun hb=>?_,fun hb=>?_⟩<;>(try simp only [nrm] at hb)<;>(try (first|(exfalso;omega)|contradiction|exact kB hb)))|refine kW cfg_ok ?_|refine kC ?_|refine bdA ?_|refine bd2 ?_|refine bdR ?_|refine bdL ?_)<;>(conv=>whnf))|(refine And.intro ?_ ?_;rotate_left;(conv=>whnf);rotate_right))
                 all_goals first|rfl|omega|exact List.take_length|(rw [hade];done)|(rw [hade];exact rfl)|(rw [hade];exact List.take_length)|(rw [hade];exact grow_pos _ (addP (elt .pos cur (j + 0)) (dirD d)))|(rw [hade];simp;done)|trace_state
             · obtain rfl : d = 4:=by omega
               conv=>whnf
               repeat' (first|exact trivial|((first|refine kL ?_|(refine ⟨fun hb=>?_,fun hb=>?_⟩<;>(try simp only [nrm] at hb)<;>(try (first|(exfalso;omega)|contradiction|exact kB hb)))|refine kW cfg_ok ?_|refine kC ?_|refine bdA ?_|refine bd2 ?_|refine bdR ?_|refine bdL ?_)<;>(conv=>whnf))|(refine And.intro ?_ ?_;rotate_left;(conv=>whnf);rotate_right))
               all_goals first|omega|skip
               refine hE3 _ _ _ ?_
               conv=>whnf
               repeat' (first|exact trivial|((first|refine kL ?_|(refine ⟨fun hb=>?_,fun hb=>?_⟩<;>(try simp only [nrm] at hb)<;>(try (first|(exfalso;omega)|contradiction|exact kB hb)))|refine kW cfg_ok ?_|refine kC ?_|refine bdA ?_|refine bd2 ?_|refine bdR ?_|refine bdL ?_)<;>(conv=>whnf))|(refine And.intro ?_ ?_;rotate_left;(conv=>whnf);rotate_right))
               all_goals first|omega|skip
               refine hN2 _ _ ?_
               conv=>whnf
               refine .to (j + 1) (by omega) (by omega) ?_
               conv=>whnf
               repeat' (first|exact trivial|((first|refine kL ?_|(refine ⟨fun hb=>?_,fun hb=>?_⟩<;>(try simp only [nrm] at hb)<;>(try (first|(exfalso;omega)|contradiction|exact kB hb)))|refine kW cfg_ok ?_|refine kC ?_|refine bdA ?_|refine bd2 ?_|refine bdR ?_|refine bdL ?_)<;>(conv=>whnf))|(refine And.intro ?_ ?_;rotate_left;(conv=>whnf);rotate_right))
               all_goals first|rfl|omega|exact List.take_length|(rw [hrj1];done)|(rw [hrj2];done)|(rw [hrj1];exact List.take_length)|(rw [hrj1,hrj2];exact rfl)|trace_state
       · obtain rfl : j = cur.length:=by omega
         conv=>whnf
         repeat' (first|exact trivial|((first|refine kL ?_|(refine ⟨fun hb=>?_,fun hb=>?_⟩<;>(try simp only [nrm] at hb)<;>(try (first|(exfalso;omega)|contradiction|exact kB hb)))|refine kW cfg_ok ?_|refine kC ?_|refine bdA ?_|refine bd2 ?_|refine bdR ?_|refine bdL ?_)<;>(conv=>whnf))|(refine And.intro ?_ ?_;rotate_left;(conv=>whnf);rotate_right))
         all_goals first|omega|exact List.take_length|skip
         refine hE2 _ _ _ ?_
         conv=>whnf
         repeat' (first|exact trivial|((first|refine kL ?_|(refine ⟨fun hb=>?_,fun hb=>?_⟩<;>(try simp only [nrm] at hb)<;>(try (first|(exfalso;omega)|contradiction|exact kB hb)))|refine kW cfg_ok ?_|refine kC ?_|refine bdA ?_|refine bd2 ?_|refine bdR ?_|refine bdL ?_)<;>(conv=>whnf))|(refine And.intro ?_ ?_;rotate_left;(conv=>whnf);rotate_right))
         all_goals first|omega|exact List.take_length|skip
         refine hN1 _ _ ?_
         conv=>whnf
         refine .to (14 + 1) (by omega) (by omega) ?_
         conv=>whnf
         repeat' (first|exact trivial|((first|refine kL ?_|(refine ⟨fun hb=>?_,fun hb=>?_⟩<;>(try simp only [nrm] at hb)<;>(try (first|(exfalso;omega)|contradiction|exact kB hb)))|refine kW cfg_ok ?_|refine kC ?_|refine bdA ?_|refine bd2 ?_|refine bdR ?_|refine bdL ?_)<;>(conv=>whnf))|(refine And.intro ?_ ?_;rotate_left;(conv=>whnf);rotate_right))
         all_goals first|rfl|omega|(rw [hsk];done)|(rw [hsk];exact rfl)|(rw [hsk];exact List.take_length)|trace_state
   · conv=>whnf
     repeat' (first|exact trivial|((first|refine kL ?_|(refine ⟨fun hb=>?_,fun hb=>?_⟩<;>(try simp only [nrm] at hb)<;>(try (first|(exfalso;omega)|contradiction|exact kB hb)))|refine kW cfg_ok ?_|refine kC ?_|refine bdA ?_|refine bd2 ?_|refine bdR ?_|refine bdL ?_)<;>(conv=>whnf))|(refine And.intro ?_ ?_;rotate_left;(conv=>whnf);rotate_right))
     all_goals first|omega|skip
     refine hE1 _ _ _ ?_
     conv=>whnf
     repeat' (first|exact trivial|((first|refine kL ?_|(refine ⟨fun hb=>?_,fun hb=>?_⟩<;>(try simp only [nrm] at hb)<;>(try (first|(exfalso;omega)|contradiction|exact kB hb)))|refine kW cfg_ok ?_|refine kC ?_|refine bdA ?_|refine bd2 ?_|refine bdR ?_|refine bdL ?_)<;>(conv=>whnf))|(refine And.intro ?_ ?_;rotate_left;(conv=>whnf);rotate_right))
     all_goals first|rfl|omega|exact List.take_length|trace_state
end Go.Proofs.Ytchdgiooggdfeaa
