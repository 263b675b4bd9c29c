/- homesteadlaw17.TickOrder. -/
import Derived.Test.YtkojlembanldcaaGreatRb
import Derived.Test.YtkojlembanldcaaGreatRh
import Derived.Test.YtkojlembanldcaaGreatRp
import Derived.Test.YtkojlembanldcaaGreatRc
set_option linter.unusedSimpArgs false
set_option linter.unusedVariables false
set_option maxRecDepth 100000
set_option maxHeartbeats 16000000
namespace Go.Proofs.YtkojlembanldcaaGreat
open Go Go.RowKit Eng
open Go Go.RowKit Eng
theorem clone_own (l : List (El .order)) (c : Option Nat) (hl : l.length * 56 ≤ 140737488355328) : Ev1 Tryz.prog 101 [.own .order 1 0 l.length c] [(1,.row .order l)] (.own .order 390001 0 l.length none) [(1,.row .order l),(390001,.row .order l)]:=by
 refine eF Tryz.func101 7 ?_
 conv=>whnf
 repeat' (first|exact trivial|((first|(refine ⟨fun hb=>?_,fun hb=>?_⟩<;>(try simp only [nrm] at hb)<;>try exact kZ hb)|refine kV ?_)<;>(conv=>whnf))|refine kY ?_ ?_)
 all_goals simp_all
theorem sorted_own (l : List (El .order)) (c : Option Nat) (hl : l.length ≤ 2000000000000) : Ev1 Tryz.prog 48 [.own .order 1 0 l.length c] [(1,.row .order l)] (.vec .order (sortedL l)) [(1,.row .order l)]:=by
 have hn:=sortO_length l
 refine eF Tryz.func48 8 ?_
 conv=>whnf
 repeat' (first|exact trivial|((first|refine kL ?_|(refine ⟨fun hb=>?_,fun hb=>?_⟩<;>(try simp only [nrm] at hb)<;>try exact kZ hb)|(refine isE 101 ?_;refine kE (clone_own l c (by omega)) [(1,1),(390001,350001)] rfl ?_)|(refine isD 101 ?_;refine kF (clone_own l c (by omega)) [(1,1),(390001,350001)] rfl ?_)|refine kE (sort_ev l (by omega) none) [(1,350001)] rfl ?_|refine kF (sort_ev l (by omega) none) [(1,350001)] rfl ?_|(refine isE 107 ?_;refine kE (compact_n (sortO l) l.length hn.symm (by omega)) [(1,350001)] rfl ?_)|(refine isD 107 ?_;refine kF (compact_n (sortO l) l.length hn.symm (by omega)) [(1,350001)] rfl ?_)|refine kV ?_)<;>(conv=>whnf))|refine kY ?_ ?_)
 all_goals first|rfl|exact List.take_length|trace_state
theorem fold_own (w : Wld) (l : List (El .order)) (c : Option Nat) (hw : OkW w) (hl : l.length ≤ 2000000000000) (hO : ∀ o ∈ l,OkO o) : Ev1 Tryz.prog 44 [wldV w,.own .order 1 0 l.length c] [(1,.row .order l)] (.tup [wldV (foldW w l).1,.vec .reply (foldW w l).2.1,i64 (foldW w l).2.2]) [(1,.row .order l)]:=by
 have hrt:=rightW_api w hw
 have how:=own_api w hw
 have hso:=sorted_own l c hl
 by_cases h1 : 1099511627776 ≤ w.tick
 ·have hf : foldW w l = (w,[],113):=by unfold foldW;rw [if_pos (.inl h1)]
  rw [hf]
  dsimp only
  refine eF Tryz.func44 62 ?_
  exact fD0
 ·cases hR : rightW w with
  | false =>
   have hf : foldW w l = (w,[],113):=by unfold foldW;rw [if_pos (.inr hR)]
   rw [hf]
   rw [hR] at hrt
   dsimp only
   refine eF Tryz.func44 62 ?_
   exact fD0
  | true =>
   rw [hR] at hrt
   by_cases h2 : 200 < l.length
   ·have hf : foldW w l = (w,[],3):=by unfold foldW;rw [if_neg (by rw [hR];simp;omega),if_pos h2]
    rw [hf]
    dsimp only
    refine eF Tryz.func44 62 ?_
    exact fD0
   ·have hRW:=rightW_iff.1 hR
    have hf:=fold_good hRW (by omega) (l:=l) (by omega)
    have hsz:=hRW.size
    rw [hf]
    dsimp only
    have hSl:=sortedL_le l
    have hSO : ∀ o ∈ sortedL l,OkO o:=fun o ho=>hO o (sorted_mem ho)
    have htk:=run_tick (l:=sortedL l) hRW
    have hRE:=run_rw (l:=sortedL l) hRW
    generalize sortedL l = S at *
    obtain ⟨W,Rp,w0,r0,wE,rE,hlen,hst⟩:=run_walk hRW S hSO
    rw [← wE] at htk hRE
    rw [← wE,← rE]
    clear hf wE rE hSO
    have hz : S.length ≤ 200:=by omega
    refine eF Tryz.func44 62 ?_
    conv=>whnf
    repeat' (first|exact trivial|((first|refine kL ?_|(refine ⟨fun hb=>?_,fun hb=>?_⟩<;>(try simp only [nrm] at hb)<;>try exact kZ hb)|refine kE hso [(1,1)] rfl ?_|refine kF hso [(1,1)] rfl ?_|refine kV ?_)<;>(conv=>whnf))|refine kY ?_ ?_)
    refine Runs.loopS cfg_ok (σ:=Nat) [2,4,7,32,33,34] (fun k=>[.ptr 200004 0,.ptr 200008 0,.own .reply 200113 0 k none,.vec .order S,i64 S.length,i64 k]) (fun k=>[(200004,.box (wldC (W k))),(200008,.box zeroW),(200113,.row .reply (Rp k)),(1,.row .order l)]) (fun k=>k ≤ S.length) (fun k=>S.length - k) 0 (by omega) ?_ ?_
    ·conv=>whnf
     repeat' (first|exact trivial|((first|(refine ⟨fun hb=>?_,fun hb=>?_⟩<;>(try simp only [nrm] at hb)<;>try exact kZ hb)|refine kV ?_)<;>(conv=>whnf))|refine kY ?_ ?_)
     all_goals first|rfl|omega|exact r0|rw [w0]|trace_state
    ·intro k hk
     have hln:=hlen k hk
     by_cases hlt : k < S.length
     ·obtain ⟨e,ha,hr⟩:=hst k hlt
      have hln2:=hlen (k + 1) (by omega)
      conv=>whnf
      repeat' (first|exact trivial|((first|(refine ⟨fun hb=>?_,fun hb=>?_⟩<;>(try simp only [nrm] at hb)<;>try exact kZ hb)|refine kV ?_)<;>(conv=>whnf))|refine kY ?_ ?_)
      refine .to (k + 1) (by omega) (by omega) ?_
      conv=>whnf
      repeat' (first|exact trivial|((first|(refine ⟨fun hb=>?_,fun hb=>?_⟩<;>(try simp only [nrm] at hb)<;>try exact kZ hb)|refine kV ?_)<;>(conv=>whnf))|refine kY ?_ ?_)
      all_goals first|rfl|omega|(rw [hr,List.take_of_length_le (l:=Rp k) (by omega)];exact List.take_of_length_le (by simp;omega))|trace_state
     ·obtain rfl : k = S.length:=by omega
      conv=>whnf
      repeat' (first|exact trivial|((first|(refine ⟨fun hb=>?_,fun hb=>?_⟩<;>(try simp only [nrm] at hb)<;>try exact kZ hb)|refine kV ?_)<;>(conv=>whnf))|refine kY ?_ ?_)
      all_goals first|rfl|omega|exact congrArg (fun t : Int=>Value.int .i64 (t + 1)) htk|(rw [List.drop_zero];exact List.take_of_length_le (by omega))|trace_state
open Go Go.RowKit Eng
theorem fold_n {w : Wld} (T : List (El .order)) (c : Option Nat) (n : Nat) (hn : n = T.length) (hw : OkW w) (hl : T.length ≤ 2000000000000) (hO : ∀ o ∈ T,OkO o) {r : AV} (hr : AV.tup [wldV (foldW w T).1,.vec .reply (foldW w T).2.1,i64 (foldW w T).2.2] = r) :
  Ev1 Tryz.prog 44 [wldV w,.own .order 1 0 n c] [(1,.row .order T)] r [(1,.row .order T)]:=by
 subst hn;subst hr;exact fold_own w T c hw hl hO
end Go.Proofs.YtkojlembanldcaaGreat
