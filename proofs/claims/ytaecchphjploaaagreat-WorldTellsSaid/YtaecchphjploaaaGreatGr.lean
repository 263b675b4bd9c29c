/- homesteadref11's Right, Copied. -/
import Derived.Test.YtaecchphjploaaaGreatGs
import Derived.Test.YtaecchphjploaaaGreatGk
set_option linter.unusedSimpArgs false
set_option linter.unusedVariables false
set_option maxRecDepth 100000
set_option maxHeartbeats 16000000
namespace Go.Proofs.YtaecchphjploaaaGreat
open Go Go.RowKit Eng
theorem blockB_iff {i : Int} : blockB i = true ↔ 1 ≤ i ∧ i ≤ 5 ∨ i = 7 ∨ i = 9 ∨ i = 10:=by
 unfold blockB
 simp only [decide_eq_true_eq,Bool.and_eq_true,Bool.not_eq_true',decide_eq_false_iff_not]
 omega
theorem r08block_api (i : Int) (h0 : 0 ≤ i) (h1 : i ≤ 255) : Api Tryz.prog 137 [.lit (.int .u8 i)] (bol (blockB i)):=by
 have hb1:=@blockB_iff i
 cases hB : blockB i with
 | true =>
   have hb2:=hb1.1 hB
   refine Api.of_fin cfg_ok Tryz.func137 rfl (nt:=20) rfl rfl ?_
   ((try with_reducible refine evCut fun N hN hE hT=>?_);(conv=>whnf))
   repeat' (first|exact trivial|((first|((first|refine hT _ _ ?_|refine hE _ _ _ ?_|refine hN _ _ ?_);clear hN hE hT)|refine kL ?_|(refine ⟨fun hb=>?_,fun hb=>?_⟩<;>(try simp only [nrm] at hb)<;>(try (first|(exfalso;omega)|contradiction|exact kB hb)))|refine kW cfg_ok ?_|refine kC ?_|refine bdA ?_|refine bd2 ?_|refine bdR ?_|refine bdL ?_)<;>((try with_reducible refine evCut fun N hN hE hT=>?_);(conv=>whnf)))|(refine And.intro ?_ ?_;rotate_left;(conv=>whnf);rotate_right))
   all_goals first|rfl|omega|(refine congrArg Value.bool ?_;simp;omega)|trace_state
 | false =>
   have hb2 : ¬ (1 ≤ i ∧ i ≤ 5 ∨ i = 7 ∨ i = 9 ∨ i = 10):=fun h=>by rw [hb1.2 h] at hB;cases hB
   refine Api.of_fin cfg_ok Tryz.func137 rfl (nt:=20) rfl rfl ?_
   ((try with_reducible refine evCut fun N hN hE hT=>?_);(conv=>whnf))
   repeat' (first|exact trivial|((first|((first|refine hT _ _ ?_|refine hE _ _ _ ?_|refine hN _ _ ?_);clear hN hE hT)|refine kL ?_|(refine ⟨fun hb=>?_,fun hb=>?_⟩<;>(try simp only [nrm] at hb)<;>(try (first|(exfalso;omega)|contradiction|exact kB hb)))|refine kW cfg_ok ?_|refine kC ?_|refine bdA ?_|refine bd2 ?_|refine bdR ?_|refine bdL ?_)<;>((try with_reducible refine evCut fun N hN hE hT=>?_);(conv=>whnf)))|(refine And.intro ?_ ?_;rotate_left;(conv=>whnf);rotate_right))
   all_goals first|rfl|omega|(refine congrArg Value.bool ?_;simp;omega)|trace_state
open Go Go.RowKit Eng
theorem r11slot_api (s : Slot) (h : okSlot s) : Api Tryz.prog 139 [.agg [.lit (.int .u8 s.item),.lit (.int .i64 s.n)]] (bol (someB s)):=by
 have h1:=refStack_api s.item h.1 h.2
 refine Api.of_fin cfg_ok Tryz.func139 rfl (nt:=13) rfl rfl ?_
 conv=>whnf
 repeat' (first|exact trivial|((first|refine kL ?_|(refine ⟨fun hb=>?_,fun hb=>?_⟩<;>(try simp only [nrm] at hb)<;>(try (first|(exfalso;omega)|contradiction|exact kB hb)))|refine kA h1 ?_|refine kD h1 ?_|refine kW cfg_ok ?_|refine kC ?_|refine bdA ?_|refine bd2 ?_|refine bdR ?_|refine bdL ?_)<;>(conv=>whnf))|(refine And.intro ?_ ?_;rotate_left;(conv=>whnf);rotate_right))
 all_goals (refine congrArg Value.bool ?_;rw [Bool.eq_iff_iff];simp only [someB,Bool.and_eq_true,Bool.or_eq_true,Bool.not_eq_true',Bool.and_eq_false_iff,Bool.or_eq_false_iff,decide_eq_true_eq,decide_eq_false_iff_not,beq_iff_eq,beq_eq_false_iff_ne,bne_iff_ne,ne_eq,Bool.false_eq_true,Int.toNat_natCast,eq_self,iff_true,true_iff,iff_false,false_iff,Bool.true_eq_false,not_and,Decidable.not_not,not_true_eq_false,not_false_eq_true];(first|done|omega|(simp_all;done)|(simp_all;omega)))
theorem rightB_heap {c : Chunk} (h : c.heaps.any badHeap = true) : rightB c = false:=by
 unfold rightB
 rw [h]
 cases headB c
 · rfl
 · simp only [Bool.true_and]
   split<;>rfl
theorem rightB_boxes {c : Chunk} {bs : List Box} (hh : headB c = true) (h : rightGo c.cells 0 c.boxes = some bs) (hp : c.heaps.any badHeap = false) : rightB c = decide (bs.length = 0):=by
 unfold rightB
 rw [hh,h,hp]
 cases bs<;>rfl
theorem r11right_api (c : Chunk) (hc : OkC c) : Api Tryz.prog 64 [chunkV c] (bol (rightB c)):=by
 have nc:=hc.nc
 have nb:=hc.nb
 have nh:=hc.nh
 unfold big at nc nb nh
 refine Api.of_fin cfg_ok Tryz.func64 rfl (nt:=125) rfl rfl ?_
 conv=>whnf
 repeat' (first|exact trivial|((first|refine kL ?_|(refine ⟨fun hb=>?_,fun hb=>?_⟩<;>(try simp only [nrm] at hb)<;>(try (first|(exfalso;omega)|contradiction|exact kB hb)))|refine kW cfg_ok ?_|refine kC ?_|refine bdA ?_|refine bd2 ?_|refine bdR ?_|refine bdL ?_)<;>(conv=>whnf))|(refine And.intro ?_ ?_;rotate_left;(conv=>whnf);rotate_right))
 all_goals (try (rw [rightB_head (by simp only [headB,Bool.and_eq_false_iff,decide_eq_false_iff_not];omega)];done))
 have hH : headB c = true:=by simp only [headB,Bool.and_eq_true,decide_eq_true_eq];omega
 refine Runs.loopS cfg_ok (σ:=Nat × Nat) [1,3,4] (fun (k,b)=>[.ptr 2 0,i64 b,i64 k]) (fun _=>[(2,.box (chunkC c))]) (fun (k,b)=>k ≤ 64 ∧ b ≤ c.boxes.length ∧ rightGo (c.cells.drop k) k (c.boxes.drop b) = rightGo c.cells 0 c.boxes) (fun (k,_)=>64 - k) (0,0) ⟨by omega,by omega,rfl⟩ ?_ ?_
 · conv=>whnf
   repeat' (first|exact trivial|((first|refine kL ?_|(refine ⟨fun hb=>?_,fun hb=>?_⟩<;>(try simp only [nrm] at hb)<;>(try (first|(exfalso;omega)|contradiction|exact kB hb)))|refine kW cfg_ok ?_|refine kC ?_|refine bdA ?_|refine bd2 ?_|refine bdR ?_|refine bdL ?_)<;>(conv=>whnf))|(refine And.intro ?_ ?_;rotate_left;(conv=>whnf);rotate_right))
 · rintro ⟨k,b⟩ ⟨hk,hb1,he⟩
   try dsimp only at hk hb1 he
   by_cases hlt : k < 64
   · rw [drop_elt (t:=.u8) (by omega)] at he
     simp only [rightGo] at he
     have hcell:=hc.cells _ (elt_mem (t:=.u8) (i:=k) (by omega))
     have hbl:=r08block_api (elt .u8 c.cells k) hcell.1 hcell.2
     have hE : elt .u8 c.cells (k : Int).toNat = elt .u8 c.cells k:=rfl
     cases hI : itemOk (elt .u8 c.cells k) with
     | false =>
       rw [hI,if_neg (by simp)] at he
       rw [rightB_none he.symm]
       have hi0 : ¬ elt .u8 c.cells k = 0:=by intro h;rw [h] at hI;cases hI
       have hib : blockB (elt .u8 c.cells k) = false:=by simpa [itemOk,hi0] using hI
       rw [hib] at hbl
       conv=>whnf
       repeat' (first|exact trivial|((first|refine kL ?_|(refine ⟨fun hb=>?_,fun hb=>?_⟩<;>(try simp only [nrm] at hb)<;>(try (first|(exfalso;omega)|contradiction|exact kB hb)))|refine kA hbl ?_|refine kD hbl ?_|refine kW cfg_ok ?_|refine kC ?_|refine bdA ?_|refine bd2 ?_|refine bdR ?_|refine bdL ?_)<;>(conv=>whnf))|(refine And.intro ?_ ?_;rotate_left;(conv=>whnf);rotate_right))
     | true =>
       rw [hI,if_pos rfl] at he
       by_cases h0 : elt .u8 c.cells k = 0
       · rw [if_neg (by rw [h0];decide)] at he
         conv=>whnf
         repeat' (first|exact trivial|((first|refine kL ?_|(refine ⟨fun hb=>?_,fun hb=>?_⟩<;>(try simp only [nrm] at hb)<;>(try (first|(exfalso;omega)|contradiction|exact kB hb)))|refine kA hbl ?_|refine kD hbl ?_|refine kW cfg_ok ?_|refine kC ?_|refine bdA ?_|refine bd2 ?_|refine bdR ?_|refine bdL ?_)<;>(conv=>whnf))|(refine And.intro ?_ ?_;rotate_left;(conv=>whnf);rotate_right))
         refine .to (k + 1,b) ⟨by first|omega|(dsimp only;omega),hb1,he⟩ (by first|omega|(dsimp only;omega)) ?_
         conv=>whnf
         repeat' (first|exact trivial|((first|refine kL ?_|(refine ⟨fun hb=>?_,fun hb=>?_⟩<;>(try simp only [nrm] at hb)<;>(try (first|(exfalso;omega)|contradiction|exact kB hb)))|refine kW cfg_ok ?_|refine kC ?_|refine bdA ?_|refine bd2 ?_|refine bdR ?_|refine bdL ?_)<;>(conv=>whnf))|(refine And.intro ?_ ?_;rotate_left;(conv=>whnf);rotate_right))
       · have hib : blockB (elt .u8 c.cells k) = true:=by simpa [itemOk,h0] using hI
         rw [hib] at hbl
         by_cases h9 : elt .u8 c.cells k = 9
         · rw [if_pos h9] at he
           by_cases hbn : b < c.boxes.length
           · rw [drop_elt (t:=.box) hbn] at he
             dsimp only at he
             have hbx:=hc.boxes _ (elt_mem (t:=.box) hbn)
             have hbg:=refRight_api (elt .box c.boxes b).bag 6 hbx.2 hbx.1
             have hE2 : (elt .box c.boxes (b : Int).toNat).cell = (elt .box c.boxes b).cell:=rfl
             by_cases hck : (elt .box c.boxes b).cell = k
             · cases hA : boxAt (elt .box c.boxes b) k with
               | false =>
                 rw [hA,if_neg (by simp)] at he
                 rw [rightB_none he.symm]
                 have hA2 : (decide (((elt .box c.boxes b).bag.length : Int) = 6) && bagOk (elt .box c.boxes b).bag) = false:=by simpa [boxAt,hck] using hA
                 rw [hA2] at hbg
                 conv=>whnf
                 repeat' (first|exact trivial|((first|refine kL ?_|(refine ⟨fun hb=>?_,fun hb=>?_⟩<;>(try simp only [nrm] at hb)<;>(try (first|(exfalso;omega)|contradiction|exact kB hb)))|refine kA hbl ?_|refine kD hbl ?_|refine kA hbg ?_|refine kD hbg ?_|refine kW cfg_ok ?_|refine kC ?_|refine bdA ?_|refine bd2 ?_|refine bdR ?_|refine bdL ?_)<;>(conv=>whnf))|(refine And.intro ?_ ?_;rotate_left;(conv=>whnf);rotate_right))
               | true =>
                 rw [hA,if_pos rfl] at he
                 have hA2 : (decide (((elt .box c.boxes b).bag.length : Int) = 6) && bagOk (elt .box c.boxes b).bag) = true:=by simpa [boxAt,hck] using hA
                 rw [hA2] at hbg
                 conv=>whnf
                 repeat' (first|exact trivial|((first|refine kL ?_|(refine ⟨fun hb=>?_,fun hb=>?_⟩<;>(try simp only [nrm] at hb)<;>(try (first|(exfalso;omega)|contradiction|exact kB hb)))|refine kA hbl ?_|refine kD hbl ?_|refine kA hbg ?_|refine kD hbg ?_|refine kW cfg_ok ?_|refine kC ?_|refine bdA ?_|refine bd2 ?_|refine bdR ?_|refine bdL ?_)<;>(conv=>whnf))|(refine And.intro ?_ ?_;rotate_left;(conv=>whnf);rotate_right))
                 refine .to (k + 1,b + 1) ⟨by first|omega|(dsimp only;omega),hbn,he⟩ (by first|omega|(dsimp only;omega)) ?_
                 conv=>whnf
                 repeat' (first|exact trivial|((first|refine kL ?_|(refine ⟨fun hb=>?_,fun hb=>?_⟩<;>(try simp only [nrm] at hb)<;>(try (first|(exfalso;omega)|contradiction|exact kB hb)))|refine kW cfg_ok ?_|refine kC ?_|refine bdA ?_|refine bd2 ?_|refine bdR ?_|refine bdL ?_)<;>(conv=>whnf))|(refine And.intro ?_ ?_;rotate_left;(conv=>whnf);rotate_right))
             · have hA : boxAt (elt .box c.boxes b) k = false:=by simp [boxAt,hck]
               rw [hA,if_neg (by simp)] at he
               rw [rightB_none he.symm]
               conv=>whnf
               repeat' (first|exact trivial|((first|refine kL ?_|(refine ⟨fun hb=>?_,fun hb=>?_⟩<;>(try simp only [nrm] at hb)<;>(try (first|(exfalso;omega)|contradiction|exact kB hb)))|refine kA hbl ?_|refine kD hbl ?_|refine kA hbg ?_|refine kD hbg ?_|refine kW cfg_ok ?_|refine kC ?_|refine bdA ?_|refine bd2 ?_|refine bdR ?_|refine bdL ?_)<;>(conv=>whnf))|(refine And.intro ?_ ?_;rotate_left;(conv=>whnf);rotate_right))
           · rw [List.drop_of_length_le (by omega)] at he
             dsimp only at he
             rw [rightB_none he.symm]
             conv=>whnf
             repeat' (first|exact trivial|((first|refine kL ?_|(refine ⟨fun hb=>?_,fun hb=>?_⟩<;>(try simp only [nrm] at hb)<;>(try (first|(exfalso;omega)|contradiction|exact kB hb)))|refine kA hbl ?_|refine kD hbl ?_|refine kW cfg_ok ?_|refine kC ?_|refine bdA ?_|refine bd2 ?_|refine bdR ?_|refine bdL ?_)<;>(conv=>whnf))|(refine And.intro ?_ ?_;rotate_left;(conv=>whnf);rotate_right))
         · rw [if_neg h9] at he
           conv=>whnf
           repeat' (first|exact trivial|((first|refine kL ?_|(refine ⟨fun hb=>?_,fun hb=>?_⟩<;>(try simp only [nrm] at hb)<;>(try (first|(exfalso;omega)|contradiction|exact kB hb)))|refine kA hbl ?_|refine kD hbl ?_|refine kW cfg_ok ?_|refine kC ?_|refine bdA ?_|refine bd2 ?_|refine bdR ?_|refine bdL ?_)<;>(conv=>whnf))|(refine And.intro ?_ ?_;rotate_left;(conv=>whnf);rotate_right))
           refine .to (k + 1,b) ⟨by first|omega|(dsimp only;omega),hb1,he⟩ (by first|omega|(dsimp only;omega)) ?_
           conv=>whnf
           repeat' (first|exact trivial|((first|refine kL ?_|(refine ⟨fun hb=>?_,fun hb=>?_⟩<;>(try simp only [nrm] at hb)<;>(try (first|(exfalso;omega)|contradiction|exact kB hb)))|refine kW cfg_ok ?_|refine kC ?_|refine bdA ?_|refine bd2 ?_|refine bdR ?_|refine bdL ?_)<;>(conv=>whnf))|(refine And.intro ?_ ?_;rotate_left;(conv=>whnf);rotate_right))
   · obtain rfl : k = 64:=by omega
     rw [List.drop_of_length_le (by omega)] at he
     simp only [rightGo] at he
     conv=>whnf
     repeat' (first|exact trivial|((first|refine kL ?_|(refine ⟨fun hb=>?_,fun hb=>?_⟩<;>(try simp only [nrm] at hb)<;>(try (first|(exfalso;omega)|contradiction|exact kB hb)))|refine kW cfg_ok ?_|refine kC ?_|refine bdA ?_|refine bd2 ?_|refine bdR ?_|refine bdL ?_)<;>(conv=>whnf))|(refine And.intro ?_ ?_;rotate_left;(conv=>whnf);rotate_right))
     refine Runs.loopS cfg_ok (σ:=Nat) [1,3,5] (fun j=>[.ptr 2 0,i64 b,i64 j]) (fun _=>[(2,.box (chunkC c))]) (fun j=>j ≤ c.heaps.length ∧ (c.heaps.drop j).any badHeap = c.heaps.any badHeap) (fun j=>c.heaps.length - j) 0 ⟨by omega,rfl⟩ ?_ ?_
     · conv=>whnf
       repeat' (first|exact trivial|((first|refine kL ?_|(refine ⟨fun hb=>?_,fun hb=>?_⟩<;>(try simp only [nrm] at hb)<;>(try (first|(exfalso;omega)|contradiction|exact kB hb)))|refine kW cfg_ok ?_|refine kC ?_|refine bdA ?_|refine bd2 ?_|refine bdR ?_|refine bdL ?_)<;>(conv=>whnf))|(refine And.intro ?_ ?_;rotate_left;(conv=>whnf);rotate_right))
     · rintro j ⟨hj,hany⟩
       by_cases hjl : j < c.heaps.length
       · rw [drop_elt (t:=.heap) hjl,List.any_cons] at hany
         have hok:=hc.heaps _ (elt_mem (t:=.heap) hjl)
         have hsl:=r11slot_api (elt .heap c.heaps j).slot hok
         have hE : (elt .heap c.heaps (j : Int).toNat).cell = (elt .heap c.heaps j).cell:=rfl
         have hbd : badHeap (elt .heap c.heaps j) = (!(decide (0 ≤ (elt .heap c.heaps j).cell) && decide ((elt .heap c.heaps j).cell < 64)) || !someB (elt .heap c.heaps j).slot):=rfl
         cases hS : someB (elt .heap c.heaps j).slot
         all_goals
           rw [hS] at hsl hbd
           conv=>whnf
           repeat' (first|exact trivial|((first|refine kL ?_|(refine ⟨fun hb=>?_,fun hb=>?_⟩<;>(try simp only [nrm] at hb)<;>(try (first|(exfalso;omega)|contradiction|exact kB hb)))|refine kA hsl ?_|refine kD hsl ?_|refine kW cfg_ok ?_|refine kC ?_|refine bdA ?_|refine bd2 ?_|refine bdR ?_|refine bdL ?_)<;>(conv=>whnf))|(refine And.intro ?_ ?_;rotate_left;(conv=>whnf);rotate_right))
         all_goals first
           | (rw [rightB_heap (by rw [← hany,hbd];simp;omega)];done)
           | (rw [rightB_heap (by rw [← hany,hbd];simp)];done)
           | (refine .to (j + 1) ⟨hjl,by rw [← hany,hbd];simp;omega⟩ (by omega) ?_;(conv=>whnf))
           | trace_state
         repeat' (first|exact trivial|((first|refine kL ?_|(refine ⟨fun hb=>?_,fun hb=>?_⟩<;>(try simp only [nrm] at hb)<;>(try (first|(exfalso;omega)|contradiction|exact kB hb)))|refine kW cfg_ok ?_|refine kC ?_|refine bdA ?_|refine bd2 ?_|refine bdR ?_|refine bdL ?_)<;>(conv=>whnf))|(refine And.intro ?_ ?_;rotate_left;(conv=>whnf);rotate_right))
       · obtain rfl : j = c.heaps.length:=by omega
         rw [List.drop_length] at hany
         have e:=rightB_boxes hH he.symm hany.symm
         rw [List.length_drop] at e
         rw [e]
         conv=>whnf
         repeat' (first|exact trivial|((first|refine kL ?_|(refine ⟨fun hb=>?_,fun hb=>?_⟩<;>(try simp only [nrm] at hb)<;>(try (first|(exfalso;omega)|contradiction|exact kB hb)))|refine kW cfg_ok ?_|refine kC ?_|refine bdA ?_|refine bd2 ?_|refine bdR ?_|refine bdL ?_)<;>(conv=>whnf))|(refine And.intro ?_ ?_;rotate_left;(conv=>whnf);rotate_right))
         all_goals (refine congrArg Value.bool ?_;rw [Bool.eq_iff_iff];simp;omega)
theorem r11copied_ev (c : Chunk) (hc : FitC c) : Ev1 Tryz.prog 49 [chunkV c] [] (.agg (chunkO c 390001 390003 390005)) (chunkR c 390001 390003 390005):=by
 have h1:=hc.cells
 have h2:=hc.heaps
 have h3:=hc.boxes
 refine Ev1.of_fin cfg_ok Tryz.func49 rfl (nt:=45) rfl rfl rfl ?_
 conv=>whnf
 repeat' (first|exact trivial|((first|refine kL ?_|(refine ⟨fun hb=>?_,fun hb=>?_⟩<;>(try simp only [nrm] at hb)<;>(try (first|(exfalso;omega)|contradiction|exact kB hb)))|refine kW cfg_ok ?_|refine kC ?_|refine bdA ?_|refine bd2 ?_|refine bdR ?_|refine bdL ?_)<;>(conv=>whnf))|(refine And.intro ?_ ?_;rotate_left;(conv=>whnf);rotate_right))
 all_goals first|(simp;done)|skip
 refine Runs.loopS cfg_ok (σ:=Nat) [1,2,3,4] (fun k=>[.ptr 200002 0,.ptr 200004 0,.ptr 200006 0,i64 k]) (fun k=>[(200002,.box (chunkC c)),(200004,.box (chunkC ⟨0,0,[],[],[]⟩)),(200006,.box [i64 c.x,i64 c.y,.own .u8 200025 0 c.cells.length none,.own .heap 200033 0 c.heaps.length none,.own .box 350001 0 k none]),(200025,.row .u8 c.cells),(200033,.row .heap c.heaps),(350001,.row .box (c.boxes.take k))]) (fun k=>k ≤ c.boxes.length) (fun k=>c.boxes.length - k) 0 (by omega) ?_ ?_
 · conv=>whnf
   repeat' (first|exact trivial|((first|refine kL ?_|(refine ⟨fun hb=>?_,fun hb=>?_⟩<;>(try simp only [nrm] at hb)<;>(try (first|(exfalso;omega)|contradiction|exact kB hb)))|refine kW cfg_ok ?_|refine kC ?_|refine bdA ?_|refine bd2 ?_|refine bdR ?_|refine bdL ?_)<;>(conv=>whnf))|(refine And.intro ?_ ?_;rotate_left;(conv=>whnf);rotate_right))
   all_goals first|(simp;done)|trace_state
 · intro k hk
   by_cases hlt : k < c.boxes.length
   · have hbk:=hc.bags _ (elt_mem (t:=.box) hlt)
     have hnx:=take_next (tt:=.box) hlt
     conv=>whnf
     repeat' (first|exact trivial|((first|refine kL ?_|(refine ⟨fun hb=>?_,fun hb=>?_⟩<;>(try simp only [nrm] at hb)<;>(try (first|(exfalso;omega)|contradiction|exact kB hb)))|refine kW cfg_ok ?_|refine kC ?_|refine bdA ?_|refine bd2 ?_|refine bdR ?_|refine bdL ?_)<;>(conv=>whnf))|(refine And.intro ?_ ?_;rotate_left;(conv=>whnf);rotate_right))
     refine .to (k + 1) hlt (by omega) ?_
     conv=>whnf
     repeat' (first|exact trivial|((first|refine kL ?_|(refine ⟨fun hb=>?_,fun hb=>?_⟩<;>(try simp only [nrm] at hb)<;>(try (first|(exfalso;omega)|contradiction|exact kB hb)))|refine kW cfg_ok ?_|refine kC ?_|refine bdA ?_|refine bd2 ?_|refine bdR ?_|refine bdL ?_)<;>(conv=>whnf))|(refine And.intro ?_ ?_;rotate_left;(conv=>whnf);rotate_right))
     all_goals first|(simp;done)|(simp;exact app1 hnx hlt (takekk _ _) rfl rfl)|trace_state
   · obtain rfl : k = c.boxes.length:=by omega
     conv=>whnf
     repeat' (first|exact trivial|((first|refine kL ?_|(refine ⟨fun hb=>?_,fun hb=>?_⟩<;>(try simp only [nrm] at hb)<;>(try (first|(exfalso;omega)|contradiction|exact kB hb)))|refine kW cfg_ok ?_|refine kC ?_|refine bdA ?_|refine bd2 ?_|refine bdR ?_|refine bdL ?_)<;>(conv=>whnf))|(refine And.intro ?_ ?_;rotate_left;(conv=>whnf);rotate_right))
     all_goals first|(simp;done)|trace_state
open Go Go.RowKit Eng
end Go.Proofs.YtaecchphjploaaaGreat
