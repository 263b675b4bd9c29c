/- homesteadlaw18.cut, homesteadlaw18.LedgerJoins. -/
import Derived.Test.YtkojlembanldcaaGreatRq
import Derived.Test.YtkojlembanldcaaGreatGl
import Derived.Test.YtkojlembanldcaaGreatRc
set_option linter.unusedSimpArgs false
set_option linter.unusedVariables false
set_option maxRecDepth 100000
set_option maxHeartbeats 16000000
namespace Go.Proofs.YtkojlembanldcaaGreat
open Go Go.RowKit Eng
def gt (l : List (List ay)) : List (List ay):=(l.take 4).map (·.take 8)
theorem Fd {l : List (El .orders)} {k : Nat} (h : k < l.length) (h4 : k < 4) : gt (l.take (k + 1)) = gt (l.take k) ++ [List.take 8 (elt .orders l k)]:=by
 unfold gt
 rw [List.take_take,List.take_take,Nat.min_eq_right (by omega),Nat.min_eq_right (by omega),List.take_add_one,ar .orders l k h,Option.toList_some,List.map_append];rfl
theorem yQ (l : List (List ay)) : (gt l).length = min 4 l.length:=by unfold gt;rw [List.length_map,List.length_take]
theorem Hm {l : List (List ay)} {k : Nat} (h : k = min 4 l.length) : gt (l.take k) = gt l:=by
 unfold gt
 rw [List.take_take]
 congr 1
 rcases Nat.le_total 4 l.length with h4|h4
 ·rw [show min 4 k = 4 by omega]
 ·rw [show min 4 k = l.length by omega,List.take_length,List.take_of_length_le h4]
theorem Fe {l : List (List ay)} (hO : ∀ b ∈ l,∀ o ∈ b,OkO o) : (gt l).length ≤ 4 ∧ ∀ b ∈ gt l,List.length b ≤ 1000 ∧ ∀ o ∈ b,OkO o:=by
 refine ⟨by rw [yQ];omega,fun b hb=>?_⟩
 unfold gt at hb
 obtain ⟨c,hc,rfl⟩:=List.mem_map.1 hb
 exact ⟨by rw [List.length_take];omega,fun o ho=>hO c (List.mem_of_mem_take hc) o (List.mem_of_mem_take ho)⟩
theorem Ff (b : List (El .order)) : List.take (min (b.length : Int) 8 - 0).toNat (List.drop (Int.toNat 0) b) = List.take 8 b:=by
 show List.take (min (b.length : Int) 8 - 0).toNat b = _
 rcases Nat.le_total b.length 8 with h|h
 ·rw [show (min (b.length : Int) 8 - 0).toNat = b.length by omega,List.take_length,List.take_of_length_le h]
 ·rw [show (min (b.length : Int) 8 - 0).toNat = 8 by omega]
theorem I9 (l : List (El .orders)) (hl : l.length ≤ 6000000000000) (hb : ∀ b ∈ l,List.length b ≤ 4000000000000) : Api Tryz.prog 22 [.vec .orders l] (.vec .orders (gt l)):=by
 refine aF Tryz.func22 29 ?_
 conv=>whnf
 repeat' (first|exact trivial|((first|(refine ⟨fun hb=>?_,fun hb=>?_⟩<;>(try simp only [nrm] at hb)<;>try exact kZ hb)|refine kV ?_)<;>(conv=>whnf))|refine kY ?_ ?_)
 refine ap.loopS ah (σ:=Nat) [0,3,4] (fun k=>[.vec .orders l,.own .orders 350001 0 k none,i64 k]) (fun k=>[(350001,.row .orders (gt (l.take k)))]) (fun k=>k ≤ l.length ∧ k ≤ 4) (fun k=>l.length - k) 0 (by omega) ?_ ?_
 ·exact fD0
 ·rintro k ⟨hk,hk4⟩
  have hcl : (gt (l.take k)).length = k:=by rw [yQ,List.length_take];omega
  by_cases hlt : k < l.length ∧ k < 4
  ·have hn:=Fd hlt.1 hlt.2
   have hbk:=hb _ (ao (t:=.orders) hlt.1)
   have htm:=Ff (elt .orders l k)
   obtain ⟨T,hT⟩ : ∃ T : List (El .order),T = List.take (min (List.length (elt .orders l (k : Int).toNat) : Int) 8 - 0).toNat (List.drop (Int.toNat 0) (elt .orders l (k : Int).toNat)):=⟨_,rfl⟩
   have hTn : T = List.take 8 (elt .orders l k):=hT.trans htm
   rw [← hTn] at hn
   clear htm hTn
   conv=>whnf
   repeat' (first|exact trivial|((first|refine kL ?_|(refine ⟨fun hb=>?_,fun hb=>?_⟩<;>(try simp only [nrm] at hb)<;>try exact kZ hb)|(rw [← hT])|refine kV ?_)<;>(conv=>whnf))|refine kY ?_ ?_)
   refine .to (k + 1) (by omega) (by omega) ?_
   conv=>whnf
   repeat' (first|exact trivial|((first|(refine ⟨fun hb=>?_,fun hb=>?_⟩<;>(try simp only [nrm] at hb)<;>try exact kZ hb)|refine kV ?_)<;>(conv=>whnf))|refine kY ?_ ?_)
   all_goals first|rfl|omega|(rw [hn,List.take_of_length_le (l:=gt (l.take k)) (by omega)];exact List.take_of_length_le (by simp;omega))|trace_state
  ·have he : gt (l.take k) = gt l:=Hm (by omega)
   have hcl2 : (gt l).length = k:=by rw [← he];exact hcl
   conv=>whnf
   repeat' (first|exact trivial|((first|(refine ⟨fun hb=>?_,fun hb=>?_⟩<;>(try simp only [nrm] at hb)<;>try exact kZ hb)|refine kV ?_)<;>(conv=>whnf))|refine kY ?_ ?_)
   all_goals first|rfl|omega|(rw [List.drop_zero,he];exact List.take_of_length_le (by omega))|trace_state
theorem I_ {w : Wld} (hw : OkW w) : (bY w).length ≤ 4000000000000000000:=by rw [(jP hw).1];decide
theorem yR {w : Wld} (hw : OkW w) : Api Tryz.prog 25 [.vec .i64 (bY w),.vec .i64 (bY w)] (bol true):=by
 have h:=pL (bY w) (bY w) (I_ hw)
 rw [show eqI (bY w) (bY w) = true from decide_eq_true rfl] at h
 exact h
abbrev OkL (l : List (El .orders)) : Prop:=l.length ≤ 6000000000000 ∧ ∀ b ∈ l,List.length b ≤ 4000000000000 ∧ ∀ o ∈ b,OkO o
end Go.Proofs.YtkojlembanldcaaGreat
