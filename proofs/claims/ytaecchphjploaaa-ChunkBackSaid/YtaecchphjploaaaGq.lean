/- chunk.Set, Fill: what they hand back is new; homesteadlaw11.awake. -/
import Derived.Test.YtaecchphjploaaaGi
import Derived.Test.YtaecchphjploaaaGc
import Derived.Test.YtaecchphjploaaaGk
import Derived.Test.YtaecchphjploaaaGg
import Derived.Test.YtaecchphjploaaaGj
set_option linter.unusedSimpArgs false
set_option linter.unusedVariables false
set_option maxRecDepth 100000
set_option maxHeartbeats 16000000
namespace Go.Proofs.Ytaecchphjploaaa
open Go Go.RowKit Eng
theorem cloneF_slots (l : List (El .slot)) (hl : l.length * 16 ≤ 140737488355328) : Api Try.prog 45 [.vec .slot l] (.fec false .slot l):=by
 refine Api.of_fin cfg_ok Try.func45 rfl (nt:=7) rfl rfl ?_
 conv=>whnf
 repeat' (first|exact trivial|((first|refine kL ?_|(refine ⟨fun hb=>?_,fun hb=>?_⟩<;>(try simp only [nrm] at hb)<;>(try (first|(exfalso;omega)|contradiction|exact kB hb)))|refine kW cfg_ok ?_|refine kC ?_|refine bdA ?_|refine bd2 ?_|refine bdR ?_|refine bdL ?_)<;>(conv=>whnf))|(refine And.intro ?_ ?_;rotate_left;(conv=>whnf);rotate_right))
 all_goals simp_all
theorem mix_elt {l n : List Box} {k : Nat} (h : l.length = n.length) (hk : k < l.length) : elt .boxM (mixF k l n) k = (false,elt .box l k):=by
 have h1:=mixF_get h hk
 have h2:=elt_get .box l k hk
 rw [List.getElem?_eq_getElem hk] at h2
 have h4 : (mixF k l n)[k]? = some (elt .boxM (mixF k l n) k):=elt_get .boxM (mixF k l n) k (by rw [mixF_len h];exact hk)
 have h3 : some (elt .boxM (mixF k l n) k) = some (false,elt .box l k):=by rw [← h4,h1,Option.some.inj h2]
 exact Option.some.inj h3
theorem mix_set {l : List Box} {k : Nat} (hk : k < l.length) : (mixF k l l).set k (true,(⟨(elt .box l k).cell,(elt .box l k).bag⟩ : Box)) = mixF (k + 1) l l:=by
 have h2:=elt_get .box l k hk
 rw [List.getElem?_eq_getElem hk] at h2
 have h3 : (⟨(elt .box l k).cell,(elt .box l k).bag⟩ : Box) = l[k]:=by rw [Option.some.inj h2]
 rw [h3]
 exact mixF_set rfl hk
abbrev chunkM (c : Chunk) (a b d : Nat) : List AV:=[i64 c.x,i64 c.y,.own .u8 a 0 c.cells.length none,.own .heap b 0 c.heaps.length none,.own .boxM d 0 c.boxes.length none]
abbrev rowsM (c : Chunk) (k : Nat) (a b d : Nat) : Mem:=[(a,.row .u8 c.cells),(b,.row .heap c.heaps),(d,.row .boxM (mixF k c.boxes c.boxes))]
open Go Go.RowKit Eng
abbrev chunkSV (c : Chunk) : AV:=.agg [i64 c.x,i64 c.y,.fec false .u8 c.cells,.vec .heap c.heaps,.vec .box c.boxes]
abbrev chunkNV (c : Chunk) : AV:=.agg [i64 c.x,i64 c.y,.fec false .u8 c.cells,.fec false .heap c.heaps,.fec false .boxF c.boxes]
abbrev rowsN (c : Chunk) (a b d : Nat) : Mem:=[(a,.row .u8 c.cells),(b,.row .heap c.heaps),(d,.row .boxM (c.boxes.map fun b=>(true,b)))]
theorem copiedF_ev (c : Chunk) (hc : FitC c) : Ev1 Try.prog 36 [chunkV c] [] (.agg (chunkM c 390001 390003 390005)) (rowsN c 390001 390003 390005):=by
 have h1:=hc.cells
 have h2:=hc.heaps
 have h3:=hc.boxes
 refine Ev1.of_fin cfg_ok Try.func36 rfl (nt:=35) rfl rfl rfl ?_
 conv=>whnf
 repeat' (first|exact trivial|((first|refine kL ?_|(refine ⟨fun hb=>?_,fun hb=>?_⟩<;>(try simp only [nrm] at hb)<;>(try (first|(exfalso;omega)|contradiction|exact kB hb)))|(refine isE 69 ?_;refine kE (clone_items _ (by omega)) [(390001,350001)] rfl ?_)|(refine isD 69 ?_;refine kF (clone_items _ (by omega)) [(390001,350001)] rfl ?_)|(refine isE 70 ?_;refine kE (clone_heaps _ (by omega)) [(390001,350003)] rfl ?_)|(refine isD 70 ?_;refine kF (clone_heaps _ (by omega)) [(390001,350003)] rfl ?_)|(refine isE 71 ?_;refine kE (clone_boxes _ (by omega)) [(390001,350005)] rfl ?_)|(refine isD 71 ?_;refine kF (clone_boxes _ (by omega)) [(390001,350005)] rfl ?_)|refine kW cfg_ok ?_|refine kC ?_|refine bdA ?_|refine bd2 ?_|refine bdR ?_|refine bdL ?_)<;>(conv=>whnf))|(refine And.intro ?_ ?_;rotate_left;(conv=>whnf);rotate_right))
 refine Runs.mix 350005 ?_
 refine Runs.loopS cfg_ok (σ:=Nat) [1,2,18,19] (fun k=>[.ptr 200002 0,.ptr 200004 0,i64 c.boxes.length,i64 k]) (fun k=>(200002,.box (chunkM c 350001 350003 350005)) :: (200004,.box (chunkC ⟨0,0,[],[],[]⟩)) :: rowsM c k 350001 350003 350005) (fun k=>k ≤ c.boxes.length) (fun k=>c.boxes.length - k) 0 (by omega) ?_ ?_
 · conv=>whnf
   repeat' (first|exact trivial|((first|refine kL ?_|(refine ⟨fun hb=>?_,fun hb=>?_⟩<;>(try simp only [nrm] at hb)<;>(try (first|(exfalso;omega)|contradiction|exact kB hb)))|refine kW cfg_ok ?_|refine kC ?_|refine bdA ?_|refine bd2 ?_|refine bdR ?_|refine bdL ?_)<;>(conv=>whnf))|(refine And.intro ?_ ?_;rotate_left;(conv=>whnf);rotate_right))
   all_goals first|rfl|omega|exact List.take_length|(rw [List.length_map];exact Nat.le_refl _)|exact (List.take_of_length_le (by simp)).trans (mixF_zero _ _).symm|trace_state
 · intro k hk
   by_cases hlt : k < c.boxes.length
   · have hbk:=hc.bags _ (elt_mem (t:=.box) hlt)
     have he:=mix_elt (l:=c.boxes) (n:=c.boxes) rfl hlt
     have he2 : elt .boxM (mixF k c.boxes c.boxes) (((k : Nat) : Int).toNat + 0) = (false,elt .box c.boxes k):=he
     have hml:=mixF_len (i:=k) (l:=c.boxes) (n:=c.boxes) rfl
     have hms:=mix_set hlt
     conv=>whnf
     repeat' (first|exact trivial|((first|refine kL ?_|(refine ⟨fun hb=>?_,fun hb=>?_⟩<;>(try simp only [nrm] at hb)<;>(try (first|(exfalso;omega)|contradiction|exact kB hb)))|(rw [he2])|(refine isE 45 ?_;refine kA (cloneF_slots (elt .box c.boxes k).bag (by omega)) ?_)|(refine isD 45 ?_;refine kD (cloneF_slots (elt .box c.boxes k).bag (by omega)) ?_)|refine kW cfg_ok ?_|refine kC ?_|refine bdA ?_|refine bd2 ?_|refine bdR ?_|refine bdL ?_)<;>(conv=>whnf))|(refine And.intro ?_ ?_;rotate_left;(conv=>whnf);rotate_right))
     all_goals try (first|omega|(rw [hml];omega))
     refine .to (k + 1) hlt (by omega) ?_
     conv=>whnf
     repeat' (first|exact trivial|((first|refine kL ?_|(refine ⟨fun hb=>?_,fun hb=>?_⟩<;>(try simp only [nrm] at hb)<;>(try (first|(exfalso;omega)|contradiction|exact kB hb)))|refine kW cfg_ok ?_|refine kC ?_|refine bdA ?_|refine bd2 ?_|refine bdR ?_|refine bdL ?_)<;>(conv=>whnf))|(refine And.intro ?_ ?_;rotate_left;(conv=>whnf);rotate_right))
     all_goals first|rfl|omega|exact List.take_length|exact (List.take_of_length_le (by rw [List.length_set,hml];exact Nat.le_refl _)).trans hms|trace_state
   · obtain rfl : k = c.boxes.length:=by omega
     have hma:=mixF_all (l:=c.boxes) (n:=c.boxes) rfl
     conv=>whnf
     repeat' (first|exact trivial|((first|refine kL ?_|(refine ⟨fun hb=>?_,fun hb=>?_⟩<;>(try simp only [nrm] at hb)<;>(try (first|(exfalso;omega)|contradiction|exact kB hb)))|refine kW cfg_ok ?_|refine kC ?_|refine bdA ?_|refine bd2 ?_|refine bdR ?_|refine bdL ?_)<;>(conv=>whnf))|(refine And.intro ?_ ?_;rotate_left;(conv=>whnf);rotate_right))
     all_goals first|rfl|omega|exact List.take_length|(rw [Nat.zero_add,mixF_len rfl];exact Nat.le_refl _)|(rw [mixF_len rfl];exact Nat.le_refl _)|exact (congrArg (List.take _) hma).trans (List.take_of_length_le (by simp))|trace_state
theorem all_elt {l : List Box} {k : Nat} (hk : k < l.length) : elt .boxM (l.map fun b=>(true,b)) k = (true,elt .box l k):=by
 have h1:=elt_get .boxM (l.map fun b=>(true,b)) k (by simpa using hk)
 have h2:=elt_get .box l k hk
 have h3 : (l.map fun b=>(true,b))[k]? = some (true,elt .box l k):=by rw [List.getElem?_map,h2];rfl
 rw [h3] at h1
 exact (Option.some.inj h1).symm
theorem fillN_api (c : Chunk) (cell : Int) (l : List (El .slot)) (hc : OkC c) (hf : FitC c) (hl : l.length * 16 ≤ 140737488351232) (hw : ∀ s ∈ l,okSlot s) : Api Try.prog 15 [chunkV c,i64 cell,.vec .slot l] (.tup [chunkNV (fillC c cell l).1,i64 (fillC c cell l).2]):=by
 have hrt:=cright_api c hc
 have hbx:=hf.boxes
 have hlm : c.boxes.length ≤ (c.boxes.map fun b=>(true,b)).length:=by simp
 have hlt2 : (c.boxes.map fun b=>(true,b)).take c.boxes.length = c.boxes.map fun b=>(true,b):=List.take_of_length_le (by simp)
 cases hR : rightB c with
 | false =>
   rw [hR] at hrt
   have hs : fillC c cell l = (c,101):=by unfold fillC;rw [if_pos hR]
   rw [hs]
   refine Api.of_fin cfg_ok Try.func15 rfl (nt:=39) rfl rfl ?_
   conv=>whnf
   repeat' (first|exact trivial|((first|refine kL ?_|(refine ⟨fun hb=>?_,fun hb=>?_⟩<;>(try simp only [nrm] at hb)<;>(try (first|(exfalso;omega)|contradiction|exact kB hb)))|(refine isE 36 ?_;refine kE (copiedF_ev c hf) [(390001,150001),(390003,150003),(390005,150005)] rfl ?_)|(refine isD 36 ?_;refine kF (copiedF_ev c hf) [(390001,150001),(390003,150003),(390005,150005)] rfl ?_)|refine kA hrt ?_|refine kD hrt ?_|refine kW cfg_ok ?_|refine kC ?_|refine bdA ?_|refine bd2 ?_|refine bdR ?_|refine bdL ?_)<;>(conv=>whnf))|(refine And.intro ?_ ?_;rotate_left;(conv=>whnf);rotate_right))
   all_goals first|exact hlt2|(simp;done)
 | true =>
   rw [hR] at hrt
   have hRC:=rightC_of hR
   have hle : c.boxes.length ≤ 4000000000000000000:=by omega
   have hfd:=find_api c.boxes cell hle hRC.rises
   have hbr:=bagRight_api l 6 (by unfold big;omega) hw
   generalize hat : lb cell c.boxes = at_ at *
   cases hT : thereB c.boxes cell with
   | false =>
     rw [hT] at hfd
     have hs : fillC c cell l = (c,102):=by unfold fillC;rw [if_neg (by rw [hR];simp),if_pos hT]
     rw [hs]
     refine Api.of_fin cfg_ok Try.func15 rfl (nt:=39) rfl rfl ?_
     conv=>whnf
     repeat' (first|exact trivial|((first|refine kL ?_|(refine ⟨fun hb=>?_,fun hb=>?_⟩<;>(try simp only [nrm] at hb)<;>(try (first|(exfalso;omega)|contradiction|exact kB hb)))|(refine isE 36 ?_;refine kE (copiedF_ev c hf) [(390001,150001),(390003,150003),(390005,150005)] rfl ?_)|(refine isD 36 ?_;refine kF (copiedF_ev c hf) [(390001,150001),(390003,150003),(390005,150005)] rfl ?_)|refine kA hrt ?_|refine kD hrt ?_|refine kW cfg_ok ?_|refine kC ?_|refine bdA ?_|refine bd2 ?_|refine bdR ?_|refine bdL ?_)<;>(conv=>whnf))|(refine And.intro ?_ ?_;rotate_left;(conv=>whnf);rotate_right))
     refine kM hfd rfl hlm hlt2 ?_
     conv=>whnf
     repeat' (first|exact trivial|((first|refine kL ?_|(refine ⟨fun hb=>?_,fun hb=>?_⟩<;>(try simp only [nrm] at hb)<;>(try (first|(exfalso;omega)|contradiction|exact kB hb)))|refine kW cfg_ok ?_|refine kC ?_|refine bdA ?_|refine bd2 ?_|refine bdR ?_|refine bdL ?_)<;>(conv=>whnf))|(refine And.intro ?_ ?_;rotate_left;(conv=>whnf);rotate_right))
     all_goals first|exact hlt2|(simp;done)
   | true =>
     rw [hT] at hfd
     obtain ⟨hlt,hce⟩:=thereB_lt hT
     rw [hat] at hlt hce
     by_cases hb6 : l.length = 6 ∧ bagOk l = true
     · have hbv : (decide ((l.length : Int) = 6) && bagOk l) = true:=by rw [hb6.2,Bool.and_true];exact decide_eq_true (by omega)
       rw [hbv] at hbr
       have hset : (c.boxes.map fun b=>(true,b)).set at_ (true,(⟨(elt .boxM (c.boxes.map fun b=>(true,b)) at_).2.cell,l⟩ : Box)) = (c.boxes.set at_ ⟨cell,l⟩).map fun b=>(true,b):=by
         rw [all_elt hlt,List.map_set]
         show List.set _ _ (true,(⟨(elt .box c.boxes at_).cell,l⟩ : Box)) = _
         rw [hce]
       have hs : fillC c cell l = ({ c with boxes:=c.boxes.set at_ ⟨cell,l⟩ },0):=by unfold fillC;rw [if_neg (by rw [hR];simp),if_neg (by rw [hT];simp),if_neg (by simp only [Decidable.not_not];exact hb6),hat]
       rw [hs]
       refine Api.of_fin cfg_ok Try.func15 rfl (nt:=39) rfl rfl ?_
       conv=>whnf
       repeat' (first|exact trivial|((first|refine kL ?_|(refine ⟨fun hb=>?_,fun hb=>?_⟩<;>(try simp only [nrm] at hb)<;>(try (first|(exfalso;omega)|contradiction|exact kB hb)))|(refine isE 36 ?_;refine kE (copiedF_ev c hf) [(390001,150001),(390003,150003),(390005,150005)] rfl ?_)|(refine isD 36 ?_;refine kF (copiedF_ev c hf) [(390001,150001),(390003,150003),(390005,150005)] rfl ?_)|refine kA hrt ?_|refine kD hrt ?_|refine kW cfg_ok ?_|refine kC ?_|refine bdA ?_|refine bd2 ?_|refine bdR ?_|refine bdL ?_)<;>(conv=>whnf))|(refine And.intro ?_ ?_;rotate_left;(conv=>whnf);rotate_right))
       refine kM hfd rfl hlm hlt2 ?_
       conv=>whnf
       repeat' (first|exact trivial|((first|refine kL ?_|(refine ⟨fun hb=>?_,fun hb=>?_⟩<;>(try simp only [nrm] at hb)<;>(try (first|(exfalso;omega)|contradiction|exact kB hb)))|refine kA hbr ?_|refine kD hbr ?_|(refine isE 45 ?_;refine kA (cloneF_slots l (by omega)) ?_)|(refine isD 45 ?_;refine kD (cloneF_slots l (by omega)) ?_)|refine kW cfg_ok ?_|refine kC ?_|refine bdA ?_|refine bd2 ?_|refine bdR ?_|refine bdL ?_)<;>(conv=>whnf))|(refine And.intro ?_ ?_;rotate_left;(conv=>whnf);rotate_right))
       all_goals (try simp only [List.drop_zero,Nat.add_zero,Int.toNat_natCast])
       all_goals first|exact (List.take_of_length_le (by simp)).trans hset|(simp;done)|trace_state
     · have hbv : (decide ((l.length : Int) = 6) && bagOk l) = false:=by
         cases hbo : bagOk l with
         | false=>simp
         | true=>rw [Bool.and_true];exact decide_eq_false (by intro h;exact hb6 ⟨by omega,hbo⟩)
       rw [hbv] at hbr
       have hs : fillC c cell l = (c,103):=by unfold fillC;rw [if_neg (by rw [hR];simp),if_neg (by rw [hT];simp),if_pos hb6]
       rw [hs]
       refine Api.of_fin cfg_ok Try.func15 rfl (nt:=39) rfl rfl ?_
       conv=>whnf
       repeat' (first|exact trivial|((first|refine kL ?_|(refine ⟨fun hb=>?_,fun hb=>?_⟩<;>(try simp only [nrm] at hb)<;>(try (first|(exfalso;omega)|contradiction|exact kB hb)))|(refine isE 36 ?_;refine kE (copiedF_ev c hf) [(390001,150001),(390003,150003),(390005,150005)] rfl ?_)|(refine isD 36 ?_;refine kF (copiedF_ev c hf) [(390001,150001),(390003,150003),(390005,150005)] rfl ?_)|refine kA hrt ?_|refine kD hrt ?_|refine kW cfg_ok ?_|refine kC ?_|refine bdA ?_|refine bd2 ?_|refine bdR ?_|refine bdL ?_)<;>(conv=>whnf))|(refine And.intro ?_ ?_;rotate_left;(conv=>whnf);rotate_right))
       refine kM hfd rfl hlm hlt2 ?_
       conv=>whnf
       repeat' (first|exact trivial|((first|refine kL ?_|(refine ⟨fun hb=>?_,fun hb=>?_⟩<;>(try simp only [nrm] at hb)<;>(try (first|(exfalso;omega)|contradiction|exact kB hb)))|refine kA hbr ?_|refine kD hbr ?_|refine kW cfg_ok ?_|refine kC ?_|refine bdA ?_|refine bd2 ?_|refine bdR ?_|refine bdL ?_)<;>(conv=>whnf))|(refine And.intro ?_ ?_;rotate_left;(conv=>whnf);rotate_right))
       all_goals first|exact hlt2|(simp;done)
theorem setF_api (c : Chunk) (cell i : Int) (hc : OkC c) (hf : FitC c) (h0 : 0 ≤ i) (h1 : i ≤ 255) : Api Try.prog 14 [chunkV c,i64 cell,.lit (.int .u8 i)] (.tup [chunkSV (setC c cell i).1,i64 (setC c cell i).2]):=by
 have hrt:=cright_api c hc
 have hbx:=hf.boxes
 cases hR : rightB c with
 | false =>
   rw [hR] at hrt
   have hs : setC c cell i = (c,101):=by unfold setC;rw [if_pos hR]
   rw [hs]
   refine Api.of_fin cfg_ok Try.func14 rfl (nt:=73) rfl rfl ?_
   conv=>whnf
   repeat' (first|exact trivial|((first|refine kL ?_|(refine ⟨fun hb=>?_,fun hb=>?_⟩<;>(try simp only [nrm] at hb)<;>(try (first|(exfalso;omega)|contradiction|exact kB hb)))|(refine isE 36 ?_;refine kE (copied_ev c hf) [(390001,150001),(390003,150003),(390005,150005)] rfl ?_)|(refine isD 36 ?_;refine kF (copied_ev c hf) [(390001,150001),(390003,150003),(390005,150005)] rfl ?_)|refine kA hrt ?_|refine kD hrt ?_|refine kW cfg_ok ?_|refine kC ?_|refine bdA ?_|refine bd2 ?_|refine bdR ?_|refine bdL ?_)<;>(conv=>whnf))|(refine And.intro ?_ ?_;rotate_left;(conv=>whnf);rotate_right))
   all_goals simp
 | true =>
   rw [hR] at hrt
   have hRC:=rightC_of hR
   have hlen:=hRC.len
   by_cases hin : 0 ≤ cell ∧ cell < 64
   · by_cases hit : ¬ (i = 0) ∧ blockB i = false
     · have hs : setC c cell i = (c,100):=by unfold setC;rw [if_neg (by rw [hR];simp),if_neg (by omega),if_pos hit]
       rw [hs]
       have hbl:=block_api i h0 h1
       rw [hit.2] at hbl
       refine Api.of_fin cfg_ok Try.func14 rfl (nt:=73) rfl rfl ?_
       conv=>whnf
       repeat' (first|exact trivial|((first|refine kL ?_|(refine ⟨fun hb=>?_,fun hb=>?_⟩<;>(try simp only [nrm] at hb)<;>(try (first|(exfalso;omega)|contradiction|exact kB hb)))|(refine isE 36 ?_;refine kE (copied_ev c hf) [(390001,150001),(390003,150003),(390005,150005)] rfl ?_)|(refine isD 36 ?_;refine kF (copied_ev c hf) [(390001,150001),(390003,150003),(390005,150005)] rfl ?_)|refine kA hrt ?_|refine kD hrt ?_|(refine isE 33 ?_;refine kA (inside_api _) ?_)|(refine isD 33 ?_;refine kD (inside_api _) ?_)|refine kA hbl ?_|refine kD hbl ?_|refine kW cfg_ok ?_|refine kC ?_|refine bdA ?_|refine bd2 ?_|refine bdR ?_|refine bdL ?_)<;>(conv=>whnf))|(refine And.intro ?_ ?_;rotate_left;(conv=>whnf);rotate_right))
       all_goals simp
     · have hbl:=block_api i h0 h1
       have hbi : blockB i = false → i = 0:=fun hbf=>by
         rcases Classical.em (i = 0) with h|h
         · exact h
         · exact absurd ⟨h,hbf⟩ hit
       have hle : c.boxes.length ≤ 4000000000000000000:=by omega
       have hfd:=find_own c.boxes cell hle hRC.rises
       have hlb:=lb_le cell c.boxes
       generalize hat : lb cell c.boxes = at_ at *
       cases hT : thereB c.boxes cell with
       | false =>
         rw [hT] at hfd
         have hs : setC c cell i = ({ c with cells:=c.cells.set cell.toNat i,boxes:=putB c.boxes cell i },0):=by unfold setC;rw [if_neg (by rw [hR];simp),if_neg (by omega),if_neg hit,if_neg (by rw [hT];simp)]
         have hd : delB c.boxes cell = c.boxes:=by unfold delB;rw [hT];rfl
         rw [hs]
         by_cases h9 : i = 9
         · have hp : putB c.boxes cell i = c.boxes.take at_ ++ (⟨cell,newBag⟩ : Box) :: c.boxes.drop at_:=by unfold putB;rw [if_pos h9,hd,hat]
           rw [hp]
           subst h9
           refine Api.of_fin cfg_ok Try.func14 rfl (nt:=73) rfl rfl ?_
           conv=>whnf
           repeat' (first|exact trivial|((first|refine kL ?_|(refine ⟨fun hb=>?_,fun hb=>?_⟩<;>(try simp only [nrm] at hb)<;>(try (first|(exfalso;omega)|contradiction|exact kB hb)))|(refine isE 36 ?_;refine kE (copied_ev c hf) [(390001,150001),(390003,150003),(390005,150005)] rfl ?_)|(refine isD 36 ?_;refine kF (copied_ev c hf) [(390001,150001),(390003,150003),(390005,150005)] rfl ?_)|refine kE hfd [(1,150005)] rfl ?_|refine kF hfd [(1,150005)] rfl ?_|(refine isE 43 ?_;refine kE (insert_evn c.boxes _ at_ ⟨cell,newBag⟩ rfl hlb (by omega)) [(1,150005),(3,135),(390001,150007)] rfl ?_)|(refine isD 43 ?_;refine kF (insert_evn c.boxes _ at_ ⟨cell,newBag⟩ rfl hlb (by omega)) [(1,150005),(3,135),(390001,150007)] rfl ?_)|refine kA hrt ?_|refine kD hrt ?_|(refine isE 33 ?_;refine kA (inside_api _) ?_)|(refine isD 33 ?_;refine kD (inside_api _) ?_)|refine kA hbl ?_|refine kD hbl ?_|(refine isE 44 ?_;refine kA (new_api 6 (by omega) (by omega)) ?_)|(refine isD 44 ?_;refine kD (new_api 6 (by omega) (by omega)) ?_)|refine kW cfg_ok ?_|refine kC ?_|refine bdA ?_|refine bd2 ?_|refine bdR ?_|refine bdL ?_)<;>(conv=>whnf))|(refine And.intro ?_ ?_;rotate_left;(conv=>whnf);rotate_right))
           all_goals (try simp only [List.drop_zero,Nat.add_zero])
           all_goals first|(simp;done)|(refine List.take_of_length_le ?_;simp;done)|(refine List.take_of_length_le ?_;simp;omega)
         · have hp : putB c.boxes cell i = c.boxes:=by unfold putB;rw [if_neg h9,hd]
           rw [hp]
           refine Api.of_fin cfg_ok Try.func14 rfl (nt:=73) rfl rfl ?_
           conv=>whnf
           repeat' (first|exact trivial|((first|refine kL ?_|(refine ⟨fun hb=>?_,fun hb=>?_⟩<;>(try simp only [nrm] at hb)<;>(try (first|(exfalso;omega)|contradiction|exact kB hb)))|(exact absurd (hbi (by assumption)) (by assumption);done)|(refine isE 36 ?_;refine kE (copied_ev c hf) [(390001,150001),(390003,150003),(390005,150005)] rfl ?_)|(refine isD 36 ?_;refine kF (copied_ev c hf) [(390001,150001),(390003,150003),(390005,150005)] rfl ?_)|refine kE hfd [(1,150005)] rfl ?_|refine kF hfd [(1,150005)] rfl ?_|refine kA hrt ?_|refine kD hrt ?_|(refine isE 33 ?_;refine kA (inside_api _) ?_)|(refine isD 33 ?_;refine kD (inside_api _) ?_)|refine kA hbl ?_|refine kD hbl ?_|refine kW cfg_ok ?_|refine kC ?_|refine bdA ?_|refine bd2 ?_|refine bdR ?_|refine bdL ?_)<;>(conv=>whnf))|(refine And.intro ?_ ?_;rotate_left;(conv=>whnf);rotate_right))
           all_goals (try simp only [List.drop_zero,Nat.add_zero])
           all_goals first|(simp;done)|(refine List.take_of_length_le ?_;simp;done)|(refine List.take_of_length_le ?_;simp;omega)
       | true =>
         rw [hT] at hfd
         obtain ⟨hlt,hce⟩:=thereB_lt hT
         rw [hat] at hlt hce
         have hfu:=has_full (elt .box c.boxes at_).bag (Nat.le_trans (hc.boxes _ (elt_mem (t:=.box) hlt)).2 (Nat.le_refl _)) (fun _ _=>trivial)
         have hfb : fullB (elt .box c.boxes at_).bag = (elt .box c.boxes at_).bag.any posSlot:=rfl
         cases hF : fullB (elt .box c.boxes at_).bag with
         | true =>
           rw [← hfb,hF] at hfu
           have hs : setC c cell i = (c,104):=by unfold setC;rw [if_neg (by rw [hR];simp),if_neg (by omega),if_neg hit,if_pos (by rw [hT,hat,hF];simp)]
           rw [hs]
           refine Api.of_fin cfg_ok Try.func14 rfl (nt:=73) rfl rfl ?_
           conv=>whnf
           repeat' (first|exact trivial|((first|refine kL ?_|(refine ⟨fun hb=>?_,fun hb=>?_⟩<;>(try simp only [nrm] at hb)<;>(try (first|(exfalso;omega)|contradiction|exact kB hb)))|(exact absurd (hbi (by assumption)) (by assumption);done)|(refine isE 36 ?_;refine kE (copied_ev c hf) [(390001,150001),(390003,150003),(390005,150005)] rfl ?_)|(refine isD 36 ?_;refine kF (copied_ev c hf) [(390001,150001),(390003,150003),(390005,150005)] rfl ?_)|refine kE hfd [(1,150005)] rfl ?_|refine kF hfd [(1,150005)] rfl ?_|refine kA hrt ?_|refine kD hrt ?_|(refine isE 33 ?_;refine kA (inside_api _) ?_)|(refine isD 33 ?_;refine kD (inside_api _) ?_)|refine kA hbl ?_|refine kD hbl ?_|refine kA hfu ?_|refine kD hfu ?_|refine kW cfg_ok ?_|refine kC ?_|refine bdA ?_|refine bd2 ?_|refine bdR ?_|refine bdL ?_)<;>(conv=>whnf))|(refine And.intro ?_ ?_;rotate_left;(conv=>whnf);rotate_right))
           all_goals simp
         | false =>
           rw [← hfb,hF] at hfu
           have hs : setC c cell i = ({ c with cells:=c.cells.set cell.toNat i,boxes:=putB c.boxes cell i },0):=by unfold setC;rw [if_neg (by rw [hR];simp),if_neg (by omega),if_neg hit,if_neg (by rw [hat,hF];simp)]
           have hd : delB c.boxes cell = c.boxes.take at_ ++ c.boxes.drop (at_ + 1):=by unfold delB;rw [hT,hat];rfl
           have hdl : at_ + (c.boxes.length - (at_ + 1)) = (c.boxes.take at_ ++ c.boxes.drop (at_ + 1)).length:=by simp;omega
           rw [hs]
           by_cases h9 : i = 9
           · have hp : putB c.boxes cell i = (c.boxes.take at_ ++ c.boxes.drop (at_ + 1)).take at_ ++ (⟨cell,newBag⟩ : Box) :: (c.boxes.take at_ ++ c.boxes.drop (at_ + 1)).drop at_:=by unfold putB;rw [if_pos h9,hd,hat]
             rw [hp]
             subst h9
             refine Api.of_fin cfg_ok Try.func14 rfl (nt:=73) rfl rfl ?_
             conv=>whnf
             repeat' (first|exact trivial|((first|refine kL ?_|(refine ⟨fun hb=>?_,fun hb=>?_⟩<;>(try simp only [nrm] at hb)<;>(try (first|(exfalso;omega)|contradiction|exact kB hb)))|(refine isE 36 ?_;refine kE (copied_ev c hf) [(390001,150001),(390003,150003),(390005,150005)] rfl ?_)|(refine isD 36 ?_;refine kF (copied_ev c hf) [(390001,150001),(390003,150003),(390005,150005)] rfl ?_)|refine kE hfd [(1,150005)] rfl ?_|refine kF hfd [(1,150005)] rfl ?_|(refine isE 42 ?_;refine kE (delete_evn c.boxes _ at_ (at_ + 1) rfl (by omega) (by omega) (by omega)) [(1,150005)] rfl ?_)|(refine isD 42 ?_;refine kF (delete_evn c.boxes _ at_ (at_ + 1) rfl (by omega) (by omega) (by omega)) [(1,150005)] rfl ?_)|(refine isE 43 ?_;refine kE (insert_evn (c.boxes.take at_ ++ c.boxes.drop (at_ + 1)) _ at_ ⟨cell,newBag⟩ hdl (by omega) (by omega)) [(1,150005),(3,135),(390001,150007)] rfl ?_)|(refine isD 43 ?_;refine kF (insert_evn (c.boxes.take at_ ++ c.boxes.drop (at_ + 1)) _ at_ ⟨cell,newBag⟩ hdl (by omega) (by omega)) [(1,150005),(3,135),(390001,150007)] rfl ?_)|refine kA hrt ?_|refine kD hrt ?_|(refine isE 33 ?_;refine kA (inside_api _) ?_)|(refine isD 33 ?_;refine kD (inside_api _) ?_)|refine kA hbl ?_|refine kD hbl ?_|refine kA hfu ?_|refine kD hfu ?_|(refine isE 44 ?_;refine kA (new_api 6 (by omega) (by omega)) ?_)|(refine isD 44 ?_;refine kD (new_api 6 (by omega) (by omega)) ?_)|refine kW cfg_ok ?_|refine kC ?_|refine bdA ?_|refine bd2 ?_|refine bdR ?_|refine bdL ?_)<;>(conv=>whnf))|(refine And.intro ?_ ?_;rotate_left;(conv=>whnf);rotate_right))
             all_goals (try simp only [List.drop_zero,Nat.add_zero])
             all_goals first|(simp;done)|(refine List.take_of_length_le ?_;simp;done)|(refine List.take_of_length_le ?_;simp;omega)
           · have hp : putB c.boxes cell i = c.boxes.take at_ ++ c.boxes.drop (at_ + 1):=by unfold putB;rw [if_neg h9,hd]
             rw [hp]
             refine Api.of_fin cfg_ok Try.func14 rfl (nt:=73) rfl rfl ?_
             conv=>whnf
             repeat' (first|exact trivial|((first|refine kL ?_|(refine ⟨fun hb=>?_,fun hb=>?_⟩<;>(try simp only [nrm] at hb)<;>(try (first|(exfalso;omega)|contradiction|exact kB hb)))|(exact absurd (hbi (by assumption)) (by assumption);done)|(refine isE 36 ?_;refine kE (copied_ev c hf) [(390001,150001),(390003,150003),(390005,150005)] rfl ?_)|(refine isD 36 ?_;refine kF (copied_ev c hf) [(390001,150001),(390003,150003),(390005,150005)] rfl ?_)|refine kE hfd [(1,150005)] rfl ?_|refine kF hfd [(1,150005)] rfl ?_|(refine isE 42 ?_;refine kE (delete_evn c.boxes _ at_ (at_ + 1) rfl (by omega) (by omega) (by omega)) [(1,150005)] rfl ?_)|(refine isD 42 ?_;refine kF (delete_evn c.boxes _ at_ (at_ + 1) rfl (by omega) (by omega) (by omega)) [(1,150005)] rfl ?_)|refine kA hrt ?_|refine kD hrt ?_|(refine isE 33 ?_;refine kA (inside_api _) ?_)|(refine isD 33 ?_;refine kD (inside_api _) ?_)|refine kA hbl ?_|refine kD hbl ?_|refine kA hfu ?_|refine kD hfu ?_|refine kW cfg_ok ?_|refine kC ?_|refine bdA ?_|refine bd2 ?_|refine bdR ?_|refine bdL ?_)<;>(conv=>whnf))|(refine And.intro ?_ ?_;rotate_left;(conv=>whnf);rotate_right))
             all_goals (try simp only [List.drop_zero,Nat.add_zero])
             all_goals first|(simp;done)|(refine List.take_of_length_le ?_;simp;done)|(refine List.take_of_length_le ?_;simp;omega)
   · have hs : setC c cell i = (c,102):=by unfold setC;rw [if_neg (by rw [hR];simp),if_pos hin]
     rw [hs]
     refine Api.of_fin cfg_ok Try.func14 rfl (nt:=73) rfl rfl ?_
     conv=>whnf
     repeat' (first|exact trivial|((first|refine kL ?_|(refine ⟨fun hb=>?_,fun hb=>?_⟩<;>(try simp only [nrm] at hb)<;>(try (first|(exfalso;omega)|contradiction|exact kB hb)))|(refine isE 36 ?_;refine kE (copied_ev c hf) [(390001,150001),(390003,150003),(390005,150005)] rfl ?_)|(refine isD 36 ?_;refine kF (copied_ev c hf) [(390001,150001),(390003,150003),(390005,150005)] rfl ?_)|refine kA hrt ?_|refine kD hrt ?_|(refine isE 33 ?_;refine kA (inside_api _) ?_)|(refine isD 33 ?_;refine kD (inside_api _) ?_)|refine kW cfg_ok ?_|refine kC ?_|refine bdA ?_|refine bd2 ?_|refine bdR ?_|refine bdL ?_)<;>(conv=>whnf))|(refine And.intro ?_ ?_;rotate_left;(conv=>whnf);rotate_right))
     all_goals simp
open Go Go.RowKit Eng
def emptyC : Chunk:=⟨0,0,List.replicate 64 0,[],[]⟩
theorem empty_api  : Api Try.prog 23 [] (chunkV emptyC):=by
 refine Api.of_fin cfg_ok Try.func23 rfl (nt:=3) rfl rfl ?_
 conv=>whnf
 repeat' (first|exact trivial|((first|refine kL ?_|(refine ⟨fun hb=>?_,fun hb=>?_⟩<;>(try simp only [nrm] at hb)<;>(try (first|(exfalso;omega)|contradiction|exact kB hb)))|refine kW cfg_ok ?_|refine kC ?_|refine bdA ?_|refine bd2 ?_|refine bdR ?_|refine bdL ?_)<;>(conv=>whnf))|(refine And.intro ?_ ?_;rotate_left;(conv=>whnf);rotate_right))
 all_goals rfl
theorem box_own (c : Chunk) (cell : Int) (hc : OkC c) (hf : FitC c) (hR : rightB c = true) (hT : thereB c.boxes cell = true) : Ev1 Try.prog 24 [chunkV c,i64 cell] [] (.tup [.own .slot 390001 0 (elt .box c.boxes (lb cell c.boxes)).bag.length none,bol true]) [(390001,.row .slot (elt .box c.boxes (lb cell c.boxes)).bag)]:=by
 have hrt:=cright_api c hc
 have hbx:=hf.boxes
 rw [hR] at hrt
 have hRC:=rightC_of hR
 have hle : c.boxes.length ≤ 4000000000000000000:=by omega
 have hfd:=find_api c.boxes cell hle hRC.rises
 rw [hT] at hfd
 obtain ⟨hlt,hce⟩:=thereB_lt hT
 have hbk:=hf.bags _ (elt_mem (t:=.box) hlt)
 generalize hat : lb cell c.boxes = at_ at *
 refine Ev1.of_fin cfg_ok Try.func24 rfl (nt:=25) rfl rfl rfl ?_
 conv=>whnf
 repeat' (first|exact trivial|((first|refine kL ?_|(refine ⟨fun hb=>?_,fun hb=>?_⟩<;>(try simp only [nrm] at hb)<;>(try (first|(exfalso;omega)|contradiction|exact kB hb)))|(refine isE 45 ?_;refine kE (clone_slots (elt .box c.boxes at_).bag (by omega)) [(390001,350001)] rfl ?_)|(refine isD 45 ?_;refine kF (clone_slots (elt .box c.boxes at_).bag (by omega)) [(390001,350001)] rfl ?_)|refine kA hrt ?_|refine kD hrt ?_|refine kA hfd ?_|refine kD hfd ?_|refine kW cfg_ok ?_|refine kC ?_|refine bdA ?_|refine bd2 ?_|refine bdR ?_|refine bdL ?_)<;>(conv=>whnf))|(refine And.intro ?_ ?_;rotate_left;(conv=>whnf);rotate_right))
 all_goals exact List.take_length
instance (s : Slot) : Decidable (okSlot s):=inferInstanceAs (Decidable (_ ∧ _))
instance (h : Heap) : Decidable (okHeap h):=inferInstanceAs (Decidable (okSlot _))
theorem okC_empty : OkC emptyC:=by
 refine ⟨?_,?_,?_,?_,?_,?_⟩<;>simp [emptyC,big]
theorem fitC_empty : FitC emptyC:=by
 refine ⟨?_,?_,?_,?_⟩<;>simp [emptyC]
theorem right_empty : rightB emptyC = true:=by decide
def zeros : List Int:=List.replicate 67 0
theorem bytes_empty : bytesC emptyC = zeros:=by decide
def nineC : Chunk:={ emptyC with cells:=emptyC.cells.set 5 9,boxes:=[⟨5,List.replicate 6 ⟨0,0⟩⟩] }
theorem set_empty : setC emptyC 5 9 = (nineC,0):=by rfl
def bag1 : List Slot:=[⟨3,1⟩,⟨0,0⟩,⟨0,0⟩,⟨0,0⟩,⟨0,0⟩,⟨0,0⟩]
def fullC : Chunk:={ nineC with boxes:=[⟨5,bag1⟩] }
theorem fill_nine : fillC nineC 5 bag1 = (fullC,0):=by rfl
theorem set_full : setC fullC 5 0 = (fullC,104):=by rfl
theorem thereB_nine : thereB nineC.boxes 5 = true:=by decide
theorem okC_nine : OkC nineC:=by
 refine ⟨by decide,by decide,?_,by decide,by decide,by decide⟩
 intro b hb
 simp only [nineC,List.mem_singleton] at hb
 subst hb
 exact ⟨by decide,by decide⟩
theorem fitC_nine : FitC nineC:=⟨by decide,by decide,by decide,by decide⟩
theorem okC_full : OkC fullC:=by
 refine ⟨by decide,by decide,?_,by decide,by decide,by decide⟩
 intro b hb
 simp only [fullC,List.mem_singleton] at hb
 subst hb
 exact ⟨by decide,by decide⟩
theorem fitC_full : FitC fullC:=⟨by decide,by decide,by decide,by decide⟩
theorem okU8_zeros : okU8 zeros:=by unfold okU8 zeros;decide
theorem takeZ : List.take (Int.toNat 67) (List.drop 0 (List.replicate (Int.toNat 67) (dflt .u8))) = zeros:=by decide
theorem awake_api  : Api Try.prog 6 [] (bol true):=by
 have hb:=bytes_api emptyC okC_empty
 rw [if_pos right_empty,if_pos right_empty,bytes_empty] at hb
 have hs:=set_api emptyC 5 9 okC_empty fitC_empty (by omega) (by omega)
 rw [set_empty] at hs;dsimp only at hs
 have hx : Ev1 Try.prog 24 [chunkV nineC,i64 5] [] (.tup [.own .slot 390001 0 6 none,bol true]) [(390001,.row .slot (List.replicate 6 ⟨0,0⟩))]:=box_own nineC 5 okC_nine fitC_nine (by decide) thereB_nine
 have hf:=fill_api nineC 5 bag1 okC_nine fitC_nine (by decide) (by unfold okSlot;decide)
 rw [fill_nine] at hf;dsimp only at hf
 have hs2:=set_api fullC 5 0 okC_full fitC_full (by omega) (by omega)
 rw [set_full] at hs2;dsimp only at hs2
 have heq:=equal_api zeros zeros okU8_zeros okU8_zeros
 rw [show eqL zeros zeros = true by simp [eqL]] at heq
 have hem:=empty_api
 have htz:=takeZ
 obtain ⟨R0,hR0⟩ : ∃ R,R = List.replicate 6 (⟨0,0⟩ : Slot):=⟨_,rfl⟩
 rw [← hR0] at hx
 have hR0l : R0.length = 6:=by rw [hR0];rfl
 generalize zeros = Z at *
 generalize nineC = N9 at *
 generalize fullC = F9 at *
 generalize emptyC = E9 at *
 refine Api.of_fin cfg_ok Try.func6 rfl (nt:=67) rfl rfl ?_
 conv=>whnf
 repeat' (first|exact trivial|((first|refine kL ?_|(refine ⟨fun hb=>?_,fun hb=>?_⟩<;>(try simp only [nrm] at hb)<;>(try (first|(exfalso;omega)|contradiction|exact kB hb)))|refine kE hx [(390001,150001)] rfl ?_|refine kF hx [(390001,150001)] rfl ?_|refine kA hem ?_|refine kD hem ?_|refine kA hb ?_|refine kD hb ?_|refine kA hs ?_|refine kD hs ?_|refine kW cfg_ok ?_|refine kC ?_|refine bdA ?_|refine bd2 ?_|refine bdR ?_|refine bdL ?_)<;>(conv=>whnf))|(refine And.intro ?_ ?_;rotate_left;(conv=>whnf);rotate_right))
 refine callGive heq rfl rfl ?_
 conv=>whnf
 refine ⟨by decide,by rw [htz],?_⟩
 conv=>whnf
 repeat' (first|exact trivial|((first|refine kL ?_|(refine ⟨fun hb=>?_,fun hb=>?_⟩<;>(try simp only [nrm] at hb)<;>(try (first|(exfalso;omega)|contradiction|exact kB hb)))|((refine ⟨(⟨by decide,by decide⟩ : 0 ≤ (0 : Int) ∧ (0 : Int) < ((6 : Nat) : Int)),?_⟩;show opsK _ _ _ _ _ _ _ _;unfold opsK;unfold guardK;show stepK _ _ _ _ _ _ _;unfold stepK;show opA _ _ _ _ _ _ _;unfold opA;show avalK _ _ _))|refine kW cfg_ok ?_|refine kC ?_|refine bdA ?_|refine bd2 ?_|refine bdR ?_|refine bdL ?_)<;>(conv=>whnf))|(refine And.intro ?_ ?_;rotate_left;(conv=>whnf);rotate_right))
 refine callGive hf rfl rfl ?_
 conv=>whnf
 refine ⟨by rw [List.length_set];omega,by rw [hR0];rfl,?_⟩
 conv=>whnf
 repeat' (first|exact trivial|((first|refine kL ?_|(refine ⟨fun hb=>?_,fun hb=>?_⟩<;>(try simp only [nrm] at hb)<;>(try (first|(exfalso;omega)|contradiction|exact kB hb)))|refine kA hs2 ?_|refine kD hs2 ?_|refine kW cfg_ok ?_|refine kC ?_|refine bdA ?_|refine bd2 ?_|refine bdR ?_|refine bdL ?_)<;>(conv=>whnf))|(refine And.intro ?_ ?_;rotate_left;(conv=>whnf);rotate_right))
end Go.Proofs.Ytaecchphjploaaa
