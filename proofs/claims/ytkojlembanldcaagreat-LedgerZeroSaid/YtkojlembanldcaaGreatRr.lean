/- homesteadlaw18.cut, homesteadlaw18.LedgerJoins. -/
import Derived.Test.YtkojlembanldcaaGreatRq
import Derived.Test.YtkojlembanldcaaGreatGl
import Derived.Test.YtkojlembanldcaaGreatRc
set_option linter.unusedSimpArgs false
set_option linter.unusedVariables false
set_option maxRecDepth 100000
set_option maxHeartbeats 4000000
namespace Go.Proofs.YtkojlembanldcaaGreat
open Go Go.RowKit Eng
def cutL (l : List (List Order)) : List (List Order):=(l.take 4).map (·.take 8)
theorem cutL_next {l : List (El .orders)} {k : Nat} (h : k < l.length) (h4 : k < 4) : cutL (l.take (k + 1)) = cutL (l.take k) ++ [List.take 8 (elt .orders l k)]:=by
 unfold cutL
 rw [List.take_take,List.take_take,Nat.min_eq_right (by omega),Nat.min_eq_right (by omega),List.take_add_one,elt_get .orders l k h,Option.toList_some,List.map_append];rfl
theorem cutL_len (l : List (List Order)) : (cutL l).length = min 4 l.length:=by unfold cutL;rw [List.length_map,List.length_take]
theorem cutL_all {l : List (List Order)} {k : Nat} (h : k = min 4 l.length) : cutL (l.take k) = cutL l:=by
 unfold cutL
 rw [List.take_take]
 congr 1
 rcases Nat.le_total 4 l.length with h4|h4
 · rw [show min 4 k = 4 by omega]
 · rw [show min 4 k = l.length by omega,List.take_length,List.take_of_length_le h4]
theorem cut_small {l : List (List Order)} (hO : ∀ b ∈ l,∀ o ∈ b,OkO o) : (cutL l).length ≤ 4 ∧ ∀ b ∈ cutL l,List.length b ≤ 1000 ∧ ∀ o ∈ b,OkO o:=by
 refine ⟨by rw [cutL_len];omega,fun b hb=>?_⟩
 unfold cutL at hb
 obtain ⟨c,hc,rfl⟩:=List.mem_map.1 hb
 exact ⟨by rw [List.length_take];omega,fun o ho=>hO c (List.mem_of_mem_take hc) o (List.mem_of_mem_take ho)⟩
theorem take_min8 (b : List (El .order)) : List.take (min (b.length : Int) 8 - 0).toNat (List.drop (Int.toNat 0) b) = List.take 8 b:=by
 show List.take (min (b.length : Int) 8 - 0).toNat b = _
 rcases Nat.le_total b.length 8 with h|h
 · rw [show (min (b.length : Int) 8 - 0).toNat = b.length by omega,List.take_length,List.take_of_length_le h]
 · rw [show (min (b.length : Int) 8 - 0).toNat = 8 by omega]
theorem cut_api (l : List (El .orders)) (hl : l.length ≤ 6000000000000) (hb : ∀ b ∈ l,List.length b ≤ 4000000000000) : Api Tryz.prog 22 [.vec .orders l] (.vec .orders (cutL l)):=by
 refine Api.of_fin cfg_ok Tryz.func22 rfl (nt:=29) rfl rfl ?_
 conv=>whnf
 repeat' (first|exact trivial|((first|refine kL ?_|(refine ⟨fun hb=>?_,fun hb=>?_⟩<;>(try simp only [nrm] at hb)<;>(try (first|(exfalso;omega)|contradiction|exact kB hb)))|refine kW cfg_ok ?_|refine kC ?_|refine bdA ?_|refine bd2 ?_|refine bdR ?_|refine bdL ?_)<;>(conv=>whnf))|(refine And.intro ?_ ?_;rotate_left;(conv=>whnf);rotate_right))
 refine Runs.loopS cfg_ok (σ:=Nat) [0,3,4] (fun k=>[.vec .orders l,.own .orders 350001 0 k none,i64 k]) (fun k=>[(350001,.row .orders (cutL (l.take k)))]) (fun k=>k ≤ l.length ∧ k ≤ 4) (fun k=>l.length - k) 0 (by omega) ?_ ?_
 · conv=>whnf
   repeat' (first|exact trivial|((first|refine kL ?_|(refine ⟨fun hb=>?_,fun hb=>?_⟩<;>(try simp only [nrm] at hb)<;>(try (first|(exfalso;omega)|contradiction|exact kB hb)))|refine kW cfg_ok ?_|refine kC ?_|refine bdA ?_|refine bd2 ?_|refine bdR ?_|refine bdL ?_)<;>(conv=>whnf))|(refine And.intro ?_ ?_;rotate_left;(conv=>whnf);rotate_right))
   all_goals first|rfl|omega|trace_state
 · rintro k ⟨hk,hk4⟩
   have hcl : (cutL (l.take k)).length = k:=by rw [cutL_len,List.length_take];omega
   by_cases hlt : k < l.length ∧ k < 4
   · have hn:=cutL_next hlt.1 hlt.2
     have hbk:=hb _ (elt_mem (t:=.orders) hlt.1)
     have htm:=take_min8 (elt .orders l k)
     obtain ⟨T,hT⟩ : ∃ T : List (El .order),T = List.take (min (List.length (elt .orders l (k : Int).toNat) : Int) 8 - 0).toNat (List.drop (Int.toNat 0) (elt .orders l (k : Int).toNat)):=⟨_,rfl⟩
     have hTn : T = List.take 8 (elt .orders l k):=hT.trans htm
     rw [← hTn] at hn
     clear htm hTn
     conv=>whnf
     repeat' (first|exact trivial|((first|refine kL ?_|(refine ⟨fun hb=>?_,fun hb=>?_⟩<;>(try simp only [nrm] at hb)<;>(try (first|(exfalso;omega)|contradiction|exact kB hb)))|(rw [← hT])|refine kW cfg_ok ?_|refine kC ?_|refine bdA ?_|refine bd2 ?_|refine bdR ?_|refine bdL ?_)<;>(conv=>whnf))|(refine And.intro ?_ ?_;rotate_left;(conv=>whnf);rotate_right))
     refine .to (k + 1) (by omega) (by omega) ?_
     conv=>whnf
     repeat' (first|exact trivial|((first|refine kL ?_|(refine ⟨fun hb=>?_,fun hb=>?_⟩<;>(try simp only [nrm] at hb)<;>(try (first|(exfalso;omega)|contradiction|exact kB hb)))|refine kW cfg_ok ?_|refine kC ?_|refine bdA ?_|refine bd2 ?_|refine bdR ?_|refine bdL ?_)<;>(conv=>whnf))|(refine And.intro ?_ ?_;rotate_left;(conv=>whnf);rotate_right))
     all_goals first|rfl|omega|(rw [hn,List.take_of_length_le (l:=cutL (l.take k)) (by omega)];exact List.take_of_length_le (by simp;omega))|trace_state
   · have he : cutL (l.take k) = cutL l:=cutL_all (by omega)
     have hcl2 : (cutL l).length = k:=by rw [← he];exact hcl
     conv=>whnf
     repeat' (first|exact trivial|((first|refine kL ?_|(refine ⟨fun hb=>?_,fun hb=>?_⟩<;>(try simp only [nrm] at hb)<;>(try (first|(exfalso;omega)|contradiction|exact kB hb)))|refine kW cfg_ok ?_|refine kC ?_|refine bdA ?_|refine bd2 ?_|refine bdR ?_|refine bdL ?_)<;>(conv=>whnf))|(refine And.intro ?_ ?_;rotate_left;(conv=>whnf);rotate_right))
     all_goals first|rfl|omega|(rw [List.drop_zero,he];exact List.take_of_length_le (by omega))|trace_state
theorem cnt_len {w : Wld} (hw : OkW w) : (cntW w).length ≤ 4000000000000000000:=by rw [(cnt_law hw).1];decide
theorem same_cnt {w : Wld} (hw : OkW w) : Api Tryz.prog 25 [.vec .i64 (cntW w),.vec .i64 (cntW w)] (bol true):=by
 have h:=sameInts_api (cntW w) (cntW w) (cnt_len hw)
 rw [show eqI (cntW w) (cntW w) = true from decide_eq_true rfl] at h
 exact h
abbrev OkL (l : List (El .orders)) : Prop:=l.length ≤ 6000000000000 ∧ ∀ b ∈ l,List.length b ≤ 4000000000000 ∧ ∀ o ∈ b,OkO o
end Go.Proofs.YtkojlembanldcaaGreat
