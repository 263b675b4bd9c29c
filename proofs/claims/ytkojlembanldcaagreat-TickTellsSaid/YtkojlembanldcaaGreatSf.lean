/- homesteadlaw17.TickTells. -/
import Derived.Test.YtkojlembanldcaaGreatSe
import Derived.Test.YtkojlembanldcaaGreatRu
import Derived.Test.YtkojlembanldcaaGreatRh
set_option linter.unusedSimpArgs false
set_option linter.unusedVariables false
set_option maxRecDepth 100000
set_option maxHeartbeats 16000000
namespace Go.Proofs.YtkojlembanldcaaGreat
open Go Go.RowKit Eng
theorem lend1o {P : Program} {fid : FuncId} {a b : List (El .order)} {n : Nat} {v : AV} (h : Api P fid [.vec .order a,.vec .order b] v) (hn : n = a.length) (hv : scalB v = true) : Ev1 P fid [.own .order 1 0 n none,.vec .order b] [(1,.row .order a)] v [(1,.row .order a)]:=by
 subst hn
 refine Api.lend h ?_ hv
 conv=>whnf
 refine ⟨by omega,?_⟩
 conv=>whnf
 simp only [List.drop_zero,List.take_length]
theorem sorted_n (T : List (El .order)) (c : Option Nat) (n : Nat) (hn : n = T.length) (hl : T.length ≤ 2000000000000) : Ev1 Tryz.prog 48 [.own .order 1 0 n c] [(1,.row .order T)] (.vec .order (sortedL T)) [(1,.row .order T)]:=by
 subst hn;exact sorted_own T c hl
def zeroO : Order:=⟨0,0,⟨0,0,0,0,0⟩⟩
theorem sorted_one (o : Order) : sortedL [o] = [o]:=by
 unfold sortedL
 rw [show sortO [o] = [o] from sortO_self (List.pairwise_singleton _ _)];rfl
theorem sorted_many {o : Order} {m : Nat} (h : 1 ≤ m) : sortedL (List.replicate m o) = [o]:=by
 rw [← sorted_one o]
 refine sorted_ext fun x=>?_
 rw [List.mem_replicate,List.mem_singleton]
 exact ⟨fun h=>h.2,fun e=>⟨by omega,e⟩⟩
theorem many_fold (w : Wld) {m : Nat} (h : 1 ≤ m) : ((foldW w (List.replicate m zeroO)).2.2 = 113 ∧ (rightW w = false ∨ 1099511627776 ≤ w.tick) ∧ (foldW w (List.replicate m zeroO)).2.1.length = 0) ∨
  ((foldW w (List.replicate m zeroO)).2.2 = 3 ∧ rightW w = true ∧ w.tick < 1099511627776 ∧ 200 < m ∧ (foldW w (List.replicate m zeroO)).2.1.length = 0) ∨
  ((foldW w (List.replicate m zeroO)).2.2 = 0 ∧ rightW w = true ∧ w.tick < 1099511627776 ∧ m ≤ 200 ∧ (foldW w (List.replicate m zeroO)).2.1.length = 1):=by
 cases hR : rightW w with
 | false =>
  left
  unfold foldW
  rw [if_pos (.inr hR)]
  exact ⟨rfl,.inl rfl,rfl⟩
 | true =>
  by_cases ht : 1099511627776 ≤ w.tick
  ·left
   unfold foldW
   rw [if_pos (.inl ht)]
   exact ⟨rfl,.inr ht,rfl⟩
  ·right
   by_cases hm : 200 < m
   ·left
    unfold foldW
    rw [if_neg (by rw [hR];simp;omega),if_pos (by rw [List.length_replicate];exact hm)]
    exact ⟨rfl,rfl,by omega,hm,rfl⟩
   ·right
    rw [fold_good (rightW_iff.1 hR) (by omega) (by rw [List.length_replicate];omega),sorted_many h]
    exact ⟨rfl,rfl,by omega,by omega,by rw [run_len];rfl⟩
theorem ttell_api (w : Wld) (l : List (El .order)) (n : Int) (hw : OkW w) (hl : l.length ≤ 4000000000000) (hO : ∀ o ∈ l,OkO o) (hn : 0 ≤ n ∧ n ≤ 255) : Api Tryz.prog 10 [wldV w,.vec .order l,.lit (.int .u8 n)] (bol true):=by
 have haw:=awake17_api
 have hgr:=greatW_api w hw
 have hrt:=rightW_api w hw
 obtain ⟨T,hTq⟩ : ∃ T : List (El .order),T = List.take (min (l.length : Int) 30 - 0).toNat (List.drop (Int.toNat 0) l):=⟨_,rfl⟩
 have hTl : T.length ≤ 30:=by rw [hTq,List.length_take];omega
 have hTO : ∀ o ∈ T,OkO o:=fun o ho=>hO o (by rw [hTq] at ho;exact List.mem_of_mem_take ho)
 cases hg : greatW w with
 | true =>
  rw [hg] at hgr
  clear hg
  refine aF Tryz.func10 116 ?_
  exact fD0
 | false =>
  rw [hg] at hgr
  clear hg
  have hcp:=r13copied_api w hw
  have f1:=fold_n T none (0 + T.length) (Nat.zero_add _) hw (by omega) hTO rfl
  have f2:=r17fold_api w T hw (by omega) hTO
  have s1:=sorted_n T none (0 + T.length) (Nat.zero_add _) (by omega)
  have s2:=r17sorted_api T (by omega) hTO
  have hsl:=sortedL_le T
  have o1:=sameO_self (sortedL T) (by omega)
  have o2:=sameO_self T (by omega)
  have o3:=lend1o (n:=0 + T.length) o2 (Nat.zero_add _) rfl
  have hFok : OkW (foldW w T).1:=by
   rcases fold_cases w T with ⟨_,e,_⟩|⟨hR,_,_,_⟩
   ·rw [e];exact hw
   ·exact okW_rw (fold_rw hR T)
  have w1:=sameW_self (foldW w T).1 hFok
  have w2:=sameW_self w hw
  have hrl : (foldW w T).2.1.length ≤ 1000:=by
   rcases fold_cases w T with ⟨_,_,e⟩|⟨_,_,_,e⟩
   ·rw [e];simp
   ·rw [e];dsimp only;rw [run_len];omega
  have r1:=sameR_self (foldW w T).2.1 (by omega)
  obtain ⟨m,hm,hm1,hm2⟩ : ∃ m : Nat,198 + n % 5 = (m : Int) ∧ 198 ≤ m ∧ m ≤ 202:=⟨(198 + n % 5).toNat,by omega,by omega,by omega⟩
  have hmf:=many_fold w (m:=m) (by omega)
  have hmO : ∀ o ∈ List.replicate m zeroO,OkO o:=fun o ho=>by rw [(List.mem_replicate.1 ho).2];exact ⟨by decide,by decide,by decide⟩
  have f3:=fold_n (List.replicate m zeroO) (some m) m (by rw [List.length_replicate]) hw (by rw [List.length_replicate];omega) hmO rfl
  generalize sortedL T = ST at *
  generalize foldW w T = F at *
  generalize foldW w (List.replicate m zeroO) = G at *
  obtain ⟨F1,F2,F3⟩:=F
  obtain ⟨G1,G2,G3⟩:=G
  dsimp only at *
  have fin : (((G3 == 3) = (rightW w && (decide (w.tick < 1099511627776) && decide (200 < (m : Int))))) ∧ ((G3 == 0) = ((G2.length : Int) == 1))):=by
   rcases hmf with ⟨g1,g2,g3⟩|⟨g1,g2,g3,g4,g5⟩|⟨g1,g2,g3,g4,g5⟩
   ·rw [g1,g3]
    refine ⟨?_,rfl⟩
    rcases g2 with g2|g2
    ·rw [g2];rfl
    ·rw [decide_eq_false (show ¬ w.tick < 1099511627776 by omega)];cases rightW w<;>rfl
   ·rw [g1,g2,decide_eq_true g3,decide_eq_true (show 200 < (m : Int) by omega),g5]
    exact ⟨rfl,rfl⟩
   ·rw [g1,g2,decide_eq_true g3,decide_eq_false (show ¬ 200 < (m : Int) by omega),g5]
    exact ⟨rfl,rfl⟩
  clear hmf
  obtain ⟨e1,e2⟩:=fin
  cases hR : rightW w with
  | false =>
   rw [hR] at hrt e1
   rw [Bool.false_and] at e1
   have e3 : ¬ G3 = 3:=fun h=>by rw [h] at e1;cases e1
   clear hR
   refine aF Tryz.func10 116 ?_
   ((try with_reducible refine evCut fun N hN hE hT=>?_);(conv=>whnf))
   repeat' (first|exact trivial|((first|((first|apply hT|apply hE|apply hN);clear hN hE hT)|refine kL ?_|(refine ⟨fun hb=>?_,fun hb=>?_⟩<;>(try simp only [nrm] at hb)<;>try exact kZ hb)|(rw [← hTq])|(rw [hm])|refine kE f1 [(1,63)] rfl ?_|refine kF f1 [(1,63)] rfl ?_|refine kE s1 [(1,63)] rfl ?_|refine kF s1 [(1,63)] rfl ?_|refine kE o3 [(1,63)] rfl ?_|refine kF o3 [(1,63)] rfl ?_|refine kE f3 [(1,171)] rfl ?_|refine kF f3 [(1,171)] rfl ?_|refine kA f2 ?_|refine kD f2 ?_|refine kA w2 ?_|refine kD w2 ?_|refine kV ?_)<;>((try with_reducible refine evCut fun N hN hE hT=>?_);(conv=>whnf)))|refine kY ?_ ?_)
   all_goals first|rfl|trace_state
  | true =>
   rw [hR] at hrt e1
   rw [Bool.true_and] at e1
   clear hR
   by_cases ht : w.tick < 1099511627776
   ·rw [decide_eq_true ht,Bool.true_and] at e1
    refine aF Tryz.func10 116 ?_
    ((try with_reducible refine evCut fun N hN hE hT=>?_);(conv=>whnf))
    repeat' (first|exact trivial|((first|((first|apply hT|apply hE|apply hN);clear hN hE hT)|refine kL ?_|(refine ⟨fun hb=>?_,fun hb=>?_⟩<;>(try simp only [nrm] at hb)<;>try exact kZ hb)|(rw [← hTq])|(rw [hm])|refine kE f1 [(1,63)] rfl ?_|refine kF f1 [(1,63)] rfl ?_|refine kE s1 [(1,63)] rfl ?_|refine kF s1 [(1,63)] rfl ?_|refine kE o3 [(1,63)] rfl ?_|refine kF o3 [(1,63)] rfl ?_|refine kE f3 [(1,171)] rfl ?_|refine kF f3 [(1,171)] rfl ?_|refine kA f2 ?_|refine kD f2 ?_|refine kA w2 ?_|refine kD w2 ?_|refine kV ?_)<;>((try with_reducible refine evCut fun N hN hE hT=>?_);(conv=>whnf)))|refine kY ?_ ?_)
    all_goals first|rfl|trace_state
   ·rw [decide_eq_false ht,Bool.false_and] at e1
    have e3 : ¬ G3 = 3:=fun h=>by rw [h] at e1;cases e1
    refine aF Tryz.func10 116 ?_
    ((try with_reducible refine evCut fun N hN hE hT=>?_);(conv=>whnf))
    repeat' (first|exact trivial|((first|((first|apply hT|apply hE|apply hN);clear hN hE hT)|refine kL ?_|(refine ⟨fun hb=>?_,fun hb=>?_⟩<;>(try simp only [nrm] at hb)<;>try exact kZ hb)|(rw [← hTq])|(rw [hm])|refine kE f1 [(1,63)] rfl ?_|refine kF f1 [(1,63)] rfl ?_|refine kE s1 [(1,63)] rfl ?_|refine kF s1 [(1,63)] rfl ?_|refine kE o3 [(1,63)] rfl ?_|refine kF o3 [(1,63)] rfl ?_|refine kE f3 [(1,171)] rfl ?_|refine kF f3 [(1,171)] rfl ?_|refine kA f2 ?_|refine kD f2 ?_|refine kA w2 ?_|refine kD w2 ?_|refine kV ?_)<;>((try with_reducible refine evCut fun N hN hE hT=>?_);(conv=>whnf)))|refine kY ?_ ?_)
    all_goals first|rfl|trace_state
end Go.Proofs.YtkojlembanldcaaGreat
