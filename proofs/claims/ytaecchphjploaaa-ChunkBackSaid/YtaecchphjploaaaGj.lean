/- bytes.Uint, chunk.Bytes. -/
import Derived.Test.YtaecchphjploaaaGd
set_option linter.unusedSimpArgs false
set_option linter.unusedVariables false
set_option maxRecDepth 100000
set_option maxHeartbeats 16000000
namespace Go.Proofs.Ytaecchphjploaaa
open Go Go.RowKit Eng
theorem delete_cap (l : List (El .box)) (i j : Nat) (hij : i ≤ j) (hj : j ≤ l.length) (hl : l.length * 32 ≤ 140737488355328) (c : Nat) (hc : l.length ≤ c) : Ev1 Try.prog 42 [.own .box 1 0 l.length (some c),i64 i,i64 j] [(1,.row .box l)] (.own .box 1 0 (i + (l.length - j)) none) [(1,.row .box (l.take i ++ l.drop j))]:=by
 refine Ev1.of_fin cfg_ok Try.func42 rfl (nt:=30) rfl rfl rfl ?_
 have e1 : ((i : Int) - 0).toNat = i:=by omega
 have e2 : ((l.length : Int) - (j : Int)).toNat = l.length - j:=by omega
 have e3 : List.take (l.length - j) (l.drop j) = l.drop j:=List.take_of_length_le (by simp)
 conv=>whnf
 repeat' (first|exact trivial|((first|refine kL ?_|(refine ⟨fun hb=>?_,fun hb=>?_⟩<;>(try simp only [nrm] at hb)<;>(try (first|(exfalso;omega)|contradiction|exact kB hb)))|refine kW cfg_ok ?_|refine kC ?_|refine bdA ?_|refine bd2 ?_|refine bdR ?_|refine bdL ?_)<;>(conv=>whnf))|(refine And.intro ?_ ?_;rotate_left;(conv=>whnf);rotate_right))
 · obtain rfl : i = j:=by omega
   rw [List.take_length,List.take_append_drop]
 all_goals simp only [e1,e2,Int.toNat_natCast,Int.toNat_zero,Nat.add_zero,Nat.zero_add,e3,List.length_drop]
 · exact upon_length _ _ _ (by simp;omega)
 · rw [take_upon _ _ _ (by simp;omega),← List.append_assoc]
   exact List.take_left' (by simp;omega)
theorem delete_ev (l : List (El .box)) (i j : Nat) (hij : i ≤ j) (hj : j ≤ l.length) (hl : l.length * 32 ≤ 140737488355328) : Ev1 Try.prog 42 [.own .box 1 0 l.length none,i64 i,i64 j] [(1,.row .box l)] (.own .box 1 0 (i + (l.length - j)) none) [(1,.row .box (l.take i ++ l.drop j))]:=
 Ev1.cap fun c hc=>delete_cap l i j hij hj hl c hc
theorem ins_room (l : List (El .box)) (i : Nat) (b : El .box) (hi : i < l.length) : (upon (l.take (i + 1) ++ l.drop i) i [b]).take (l.length + 1) = l.take i ++ b :: l.drop i:=by
 unfold upon
 have h1 : (l.take (i + 1) ++ l.drop i).take i = l.take i:=by
   rw [List.take_append_of_le_length (by simp;omega),List.take_take,Nat.min_eq_left (by omega)]
 have h2 : (l.take (i + 1) ++ l.drop i).drop (i + ([b] : List (El .box)).length) = l.drop i:=List.drop_left' (by simp;omega)
 rw [h1,h2]
 exact List.take_of_length_le (by simp;omega)
theorem ins_len1 (l : List (El .box)) (i : Nat) (hi : i < l.length) : i ≤ (l.take (i + 1) ++ l.drop i).length:=by simp;omega
theorem ins_len2 (l : List (El .box)) (i : Nat) (b : El .box) (hi : i < l.length) : l.length + 1 ≤ (upon (l.take (i + 1) ++ l.drop i) i [b]).length:=by simp [upon];omega
set_option maxHeartbeats 2000000 in
theorem insert_cap (l : List (El .box)) (i : Nat) (b : El .box) (hi : i ≤ l.length) (hl : (l.length + 1) * 32 ≤ 140737488355328) (c : Nat) (hc : l.length ≤ c) : Ev1 Try.prog 43 [.own .box 1 0 l.length (some c),i64 i,.own .box 3 0 1 (some 1)] [(1,.row .box l),(3,.row .box [b])] (.own .box 390001 0 (l.length + 1) none) [(390001,.row .box (l.take i ++ b :: l.drop i))]:=by
 refine Ev1.of_fin cfg_ok Try.func43 rfl (nt:=92) rfl rfl rfl ?_
 conv=>whnf
 have e1 : ((i : Int) - 0).toNat = i:=by omega
 have e2 : ((l.length : Int) - (i : Int)).toNat = l.length - i:=by omega
 have e4 : ((l.length : Int) + 1 - (i : Int)).toNat = l.length + 1 - i:=by omega
 have e3 : List.take (l.length - i) (l.drop i) = l.drop i:=List.take_of_length_le (by simp)
 have e5 : ((i : Int) + 1).toNat = i + 1:=by omega
 have e6 : i + (l.length + 1 - i) = l.length + 1:=by omega
 have e7 : (((l.length + 1 : Nat) : Int) - (i : Int)).toNat = l.length + 1 - i:=by omega
 have e8 : (((l.length + 1 : Nat) : Int) - ((i : Int) + 1)).toNat = l.length - i:=by omega
 have e9 : ((l.length : Int) + 1 - ((i : Int) + 1)).toNat = l.length - i:=by omega
 have ea : ((l.length : Int) + 1).toNat = l.length + 1:=by omega
 have eb : min 1 (l.length + 1 - i) = 1:=by omega
 have ec : ((l.length : Int) + 1 - 0).toNat = l.length + 1:=by omega
 by_cases hcap : c < l.length + 1
 · repeat' (first|exact trivial|((first|refine kL ?_|(refine ⟨fun hb=>?_,fun hb=>?_⟩<;>(try simp only [nrm] at hb)<;>(try (first|(exfalso;omega)|contradiction|exact kB hb)))|refine kW cfg_ok ?_|refine kC ?_|refine bdA ?_|refine bd2 ?_|refine bdR ?_|refine bdL ?_)<;>(conv=>whnf))|(refine And.intro ?_ ?_;rotate_left;(conv=>whnf);rotate_right))
   · obtain rfl : i = l.length:=by omega
     simp only [List.take_length,List.drop_length]
     exact List.take_of_length_le (by simp)
   all_goals simp only [e1,e2,e3,e4,Int.natCast_one,e5,e6,e7,e8,e9,ea,eb,ec,Int.toNat_natCast,Int.toNat_zero,Nat.add_zero,Nat.zero_add,List.drop_zero,List.take_succ_cons,List.take_zero,List.length_cons,List.length_nil,Nat.min_self,List.length_drop]
   · simp [upon];omega
   · simp [upon];omega
   · generalize hR : List.replicate (l.length + 1 - i) (dflt Ty.box) = R
     have hRl : R.length = l.length + 1 - i:=by rw [← hR,List.length_replicate]
     have h1 : l.length + 1 = (i + 1) + (l.drop i).length:=by simp;omega
     rw [h1,upon_part _ _ _ (by simp [upon];omega)]
     have h2:=upon_part (l.take i ++ R) [b] i (by simp;omega)
     rw [List.length_singleton] at h2
     rw [h2,List.take_left' (by simp;omega)]
     simp
 · have ed : min (l.length + 1 - i) (l.length - i) = l.length - i:=by omega
   have hX : upon l (i + 1) (l.drop i) = l.take (i + 1) ++ l.drop i:=by
     unfold upon
     rw [show l.drop (i + 1 + (l.drop i).length) = [] from List.drop_eq_nil_of_le (by simp;omega),List.append_nil]
   repeat' (first|exact trivial|((first|refine kL ?_|(refine ⟨fun hb=>?_,fun hb=>?_⟩<;>(try simp only [nrm] at hb)<;>(try (first|(exfalso;omega)|contradiction|exact kB hb)))|refine kW cfg_ok ?_|refine kC ?_|refine bdA ?_|refine bd2 ?_|refine bdR ?_|refine bdL ?_)<;>(conv=>whnf))|(refine And.intro ?_ ?_;rotate_left;(conv=>whnf);rotate_right))
   · obtain rfl : i = l.length:=by omega
     simp only [List.take_length,List.drop_length]
     rw [← List.append_assoc,Nat.zero_add,List.take_length]
     have hlb : l.length + 1 = (l ++ [b]).length:=by rw [List.length_append];rfl
     exact List.take_left' hlb.symm
   all_goals simp only [e1,e2,e3,e4,Int.natCast_one,e5,e6,e7,e8,e9,ea,eb,ec,ed,Int.toNat_natCast,Int.toNat_zero,Nat.add_zero,Nat.zero_add,List.drop_zero,List.take_succ_cons,List.take_zero,List.length_cons,List.length_nil,Nat.min_self,List.length_drop,hX]
   · exact ins_len1 l i (by omega)
   · exact ins_len2 l i b (by omega)
   · exact ins_room l i b (by omega)
theorem insert_ev (l : List (El .box)) (i : Nat) (b : El .box) (hi : i ≤ l.length) (hl : (l.length + 1) * 32 ≤ 140737488355328) : Ev1 Try.prog 43 [.own .box 1 0 l.length none,i64 i,.own .box 3 0 1 (some 1)] [(1,.row .box l),(3,.row .box [b])] (.own .box 390001 0 (l.length + 1) none) [(390001,.row .box (l.take i ++ b :: l.drop i))]:=
 Ev1.cap fun c hc=>insert_cap l i b hi hl c hc
theorem insert_evn (l : List (El .box)) (n : Nat) (i : Nat) (b : El .box) (hn : n = l.length) (hi : i ≤ l.length) (hl : (l.length + 1) * 32 ≤ 140737488355328) : Ev1 Try.prog 43 [.own .box 1 0 n none,i64 i,.own .box 3 0 1 (some 1)] [(1,.row .box l),(3,.row .box [b])] (.own .box 390001 0 (n + 1) none) [(390001,.row .box (l.take i ++ b :: l.drop i))]:=by
 subst hn;exact insert_ev l i b hi hl
theorem delete_evn (l : List (El .box)) (n : Nat) (i j : Nat) (hn : n = l.length) (hij : i ≤ j) (hj : j ≤ l.length) (hl : l.length * 32 ≤ 140737488355328) : Ev1 Try.prog 42 [.own .box 1 0 n none,i64 i,i64 j] [(1,.row .box l)] (.own .box 1 0 (i + (n - j)) none) [(1,.row .box (l.take i ++ l.drop j))]:=by
 subst hn;exact delete_ev l i j hij hj hl
open Go Go.RowKit Eng
theorem rightGo_rises : ∀ (l : List Int) (k : Nat) (bs : List Box),rightGo l k bs = some [] → rises bs ∧ (∀ b ∈ bs,(k : Int) ≤ b.cell ∧ b.cell < k + l.length)
 | [],k,bs,h=>by simp [rightGo] at h;subst h;exact ⟨trivial,by simp⟩
 | i :: r,k,bs,h=>by
   simp only [rightGo] at h
   split at h
   · split at h
     · cases bs with
       | nil=>cases h
       | cons b bs =>
         simp only at h
         split at h
         · rename_i hb
           obtain ⟨h1,h2⟩:=rightGo_rises r (k + 1) bs h
           have hbk : b.cell = k:=by simp only [boxAt,Bool.and_eq_true,beq_iff_eq] at hb;exact hb.1
           refine ⟨⟨fun x hx=>by have:=(h2 x hx).1;omega,h1⟩,fun x hx=>?_⟩
           rcases List.mem_cons.1 hx with rfl|hx
           · simp only [List.length_cons];omega
           · have:=h2 x hx;simp only [List.length_cons];omega
         · cases h
     · obtain ⟨h1,h2⟩:=rightGo_rises r (k + 1) bs h
       exact ⟨h1,fun x hx=>by have:=h2 x hx;simp only [List.length_cons];omega⟩
   · cases h
structure RightC (c : Chunk) : Prop where
 head : headB c = true
 go : rightGo c.cells 0 c.boxes = some []
 heaps : c.heaps.any badHeap = false
theorem rightC_of {c : Chunk} (h : rightB c = true) : RightC c:=by
 unfold rightB at h
 simp only [Bool.and_eq_true] at h
 obtain ⟨h1,h2⟩:=h
 split at h2
 · rename_i hg;exact ⟨h1,hg,by simpa using h2⟩
 · cases h2
theorem RightC.len {c : Chunk} (h : RightC c) : c.cells.length = 64:=by
 have:=h.head;simp only [headB,Bool.and_eq_true,decide_eq_true_eq] at this;omega
theorem RightC.rises {c : Chunk} (h : RightC c) : rises c.boxes:=(rightGo_rises _ _ _ h.go).1
theorem thereB_lt {l : List Box} {t : Int} (h : thereB l t = true) : lb t l < l.length ∧ (elt .box l (lb t l)).cell = t:=by
 simp only [thereB,Bool.and_eq_true,decide_eq_true_eq,beq_iff_eq] at h;exact h
def posSlot (s : Slot) : Bool:=decide (0 < s.n)
def anySlot (_ : Slot) : Prop:=True
def newBag : List Slot:=List.replicate 6 ⟨0,0⟩
def fullB (l : List Slot) : Bool:=l.any posSlot
def delB (l : List Box) (t : Int) : List Box:=if thereB l t then l.take (lb t l) ++ l.drop (lb t l + 1) else l
def putB (l : List Box) (t : Int) (i : Int) : List Box:=if i = 9 then (delB l t).take (lb t l) ++ (⟨t,newBag⟩ : Box) :: (delB l t).drop (lb t l) else delB l t
def setC (c : Chunk) (cell i : Int) : Chunk × Int:=
 if rightB c = false then (c,101) else if ¬ (0 ≤ cell ∧ cell < 64) then (c,102) else if ¬ (i = 0) ∧ blockB i = false then (c,100)
 else if thereB c.boxes cell = true ∧ fullB (elt .box c.boxes (lb cell c.boxes)).bag = true then (c,104)
 else ({ c with cells:=c.cells.set cell.toNat i,boxes:=putB c.boxes cell i },0)
theorem set1_api (s : Slot) (h : anySlot s) : Api Try.prog 41 [.agg [.lit (.int .u8 s.item),.lit (.int .i64 s.n)]] (bol (posSlot s)):=by
 refine Api.of_fin cfg_ok Try.func41 rfl (nt:=5) rfl rfl ?_
 conv=>whnf
 repeat' (first|exact trivial|((first|refine kL ?_|(refine ⟨fun hb=>?_,fun hb=>?_⟩<;>(try simp only [nrm] at hb)<;>(try (first|(exfalso;omega)|contradiction|exact kB hb)))|refine kW cfg_ok ?_|refine kC ?_|refine bdA ?_|refine bd2 ?_|refine bdR ?_|refine bdL ?_)<;>(conv=>whnf))|(refine And.intro ?_ ?_;rotate_left;(conv=>whnf);rotate_right))
 all_goals rfl
theorem idx_full (l : List (El .slot)) (hl : l.length ≤ big) (hw : ∀ s ∈ l,anySlot s) : Api Try.prog 75 [.vec .slot l,.lit (.func (.func 41) #[] #[])] (i64 (idxGo posSlot l 0)):=by
 unfold big at hl
 refine Api.of_fin cfg_ok Try.func75 rfl (nt:=17) rfl rfl ?_
 conv=>whnf
 refine Runs.loopS cfg_ok (σ:=Nat) [0,1,7,8] (fun k=>[.vec .slot l,.lit (.func (.func 41) #[] #[]),i64 l.length,i64 k]) (fun _=>[]) (fun k=>k ≤ l.length ∧ idxGo posSlot (l.drop k) k = idxGo posSlot l 0) (fun k=>l.length - k) 0 ⟨by omega,rfl⟩ ?_ ?_
 · conv=>whnf
   repeat' (first|exact trivial|((first|refine kL ?_|(refine ⟨fun hb=>?_,fun hb=>?_⟩<;>(try simp only [nrm] at hb)<;>(try (first|(exfalso;omega)|contradiction|exact kB hb)))|refine kW cfg_ok ?_|refine kC ?_|refine bdA ?_|refine bd2 ?_|refine bdR ?_|refine bdL ?_)<;>(conv=>whnf))|(refine And.intro ?_ ?_;rotate_left;(conv=>whnf);rotate_right))
 · intro k ⟨hk,he⟩
   by_cases hlt : k < l.length
   · rw [drop_elt hlt] at he
     simp only [idxGo] at he
     conv=>whnf
     repeat' (first|exact trivial|((first|refine kL ?_|(refine ⟨fun hb=>?_,fun hb=>?_⟩<;>(try simp only [nrm] at hb)<;>(try (first|(exfalso;omega)|contradiction|exact kB hb)))|(refine isE 41 ?_;refine kA (set1_api _ (hw _ (elt_mem' (by omega) (by omega)))) ?_)|(refine isD 41 ?_;refine kD (set1_api _ (hw _ (elt_mem' (by omega) (by omega)))) ?_)|refine kW cfg_ok ?_|refine kC ?_|refine bdA ?_|refine bd2 ?_|refine bdR ?_|refine bdL ?_)<;>(conv=>whnf))|(refine And.intro ?_ ?_;rotate_left;(conv=>whnf);rotate_right))
     · simp only [posSlot,Bool.and_eq_true,Bool.or_eq_true,Bool.not_eq_true',Bool.and_eq_false_iff,Bool.or_eq_false_iff,decide_eq_true_eq,decide_eq_false_iff_not] at hb he
       rw [← he,if_pos hb]
     · simp only [posSlot,Bool.and_eq_true,Bool.or_eq_true,Bool.not_eq_true',Bool.and_eq_false_iff,Bool.or_eq_false_iff,decide_eq_true_eq,decide_eq_false_iff_not] at hb
       refine .to (k + 1) ⟨hlt,?_⟩ (by omega) ?_
       · rw [← he,if_neg (by simp only [posSlot,Bool.and_eq_true,Bool.or_eq_true,Bool.not_eq_true',Bool.and_eq_false_iff,Bool.or_eq_false_iff,decide_eq_true_eq,decide_eq_false_iff_not];first|omega|(simp [hb];done)|(simp_all;done))]
       · conv=>whnf
         repeat' (first|exact trivial|((first|refine kL ?_|(refine ⟨fun hb=>?_,fun hb=>?_⟩<;>(try simp only [nrm] at hb)<;>(try (first|(exfalso;omega)|contradiction|exact kB hb)))|refine kW cfg_ok ?_|refine kC ?_|refine bdA ?_|refine bd2 ?_|refine bdR ?_|refine bdL ?_)<;>(conv=>whnf))|(refine And.intro ?_ ?_;rotate_left;(conv=>whnf);rotate_right))
   · conv=>whnf
     repeat' (first|exact trivial|((first|refine kL ?_|(refine ⟨fun hb=>?_,fun hb=>?_⟩<;>(try simp only [nrm] at hb)<;>(try (first|(exfalso;omega)|contradiction|exact kB hb)))|refine kW cfg_ok ?_|refine kC ?_|refine bdA ?_|refine bd2 ?_|refine bdR ?_|refine bdL ?_)<;>(conv=>whnf))|(refine And.intro ?_ ?_;rotate_left;(conv=>whnf);rotate_right))
     have : k = l.length:=by omega
     subst this
     simp only [List.drop_length,idxGo] at he
     rw [← he]
theorem has_full (l : List (El .slot)) (hl : l.length ≤ big) (hw : ∀ s ∈ l,anySlot s) : Api Try.prog 40 [.vec .slot l,.lit (.func (.func 41) #[] #[])] (bol (l.any posSlot)):=by
 refine Api.of_fin cfg_ok Try.func40 rfl (nt:=7) rfl rfl ?_
 conv=>whnf
 repeat' (first|exact trivial|((first|refine kL ?_|(refine ⟨fun hb=>?_,fun hb=>?_⟩<;>(try simp only [nrm] at hb)<;>(try (first|(exfalso;omega)|contradiction|exact kB hb)))|(refine isE 75 ?_;refine kA (idx_full l hl hw) ?_)|(refine isD 75 ?_;refine kD (idx_full l hl hw) ?_)|refine kW cfg_ok ?_|refine kC ?_|refine bdA ?_|refine bd2 ?_|refine bdR ?_|refine bdL ?_)<;>(conv=>whnf))|(refine And.intro ?_ ?_;rotate_left;(conv=>whnf);rotate_right))
 rw [idxGo_any]
theorem set_api (c : Chunk) (cell i : Int) (hc : OkC c) (hf : FitC c) (h0 : 0 ≤ i) (h1 : i ≤ 255) : Api Try.prog 14 [chunkV c,i64 cell,.lit (.int .u8 i)] (.tup [chunkV (setC c cell i).1,i64 (setC c cell i).2]):=by
 have hrt:=cright_api c hc
 have hbx:=hf.boxes
 cases hR : rightB c with
 | false =>
   rw [hR] at hrt
   have hs : setC c cell i = (c,101):=by unfold setC;rw [if_pos hR]
   rw [hs]
   refine Api.of_fin cfg_ok Try.func14 rfl (nt:=73) rfl rfl ?_
   conv=>whnf
   repeat' (first|exact trivial|((first|refine kL ?_|(refine ⟨fun hb=>?_,fun hb=>?_⟩<;>(try simp only [nrm] at hb)<;>(try (first|(exfalso;omega)|contradiction|exact kB hb)))|(refine isE 36 ?_;refine kE (copied_ev c hf) [(390001,150001),(390003,150003),(390005,150005)] rfl ?_)|(refine isD 36 ?_;refine kF (copied_ev c hf) [(390001,150001),(390003,150003),(390005,150005)] rfl ?_)|refine kA hrt ?_|refine kD hrt ?_|refine kW cfg_ok ?_|refine kC ?_|refine bdA ?_|refine bd2 ?_|refine bdR ?_|refine bdL ?_)<;>(conv=>whnf))|(refine And.intro ?_ ?_;rotate_left;(conv=>whnf);rotate_right))
   all_goals simp
 | true =>
   rw [hR] at hrt
   have hRC:=rightC_of hR
   have hlen:=hRC.len
   by_cases hin : 0 ≤ cell ∧ cell < 64
   · by_cases hit : ¬ (i = 0) ∧ blockB i = false
     · have hs : setC c cell i = (c,100):=by unfold setC;rw [if_neg (by rw [hR];simp),if_neg (by omega),if_pos hit]
       rw [hs]
       have hbl:=block_api i h0 h1
       rw [hit.2] at hbl
       refine Api.of_fin cfg_ok Try.func14 rfl (nt:=73) rfl rfl ?_
       conv=>whnf
       repeat' (first|exact trivial|((first|refine kL ?_|(refine ⟨fun hb=>?_,fun hb=>?_⟩<;>(try simp only [nrm] at hb)<;>(try (first|(exfalso;omega)|contradiction|exact kB hb)))|(refine isE 36 ?_;refine kE (copied_ev c hf) [(390001,150001),(390003,150003),(390005,150005)] rfl ?_)|(refine isD 36 ?_;refine kF (copied_ev c hf) [(390001,150001),(390003,150003),(390005,150005)] rfl ?_)|refine kA hrt ?_|refine kD hrt ?_|(refine isE 33 ?_;refine kA (inside_api _) ?_)|(refine isD 33 ?_;refine kD (inside_api _) ?_)|refine kA hbl ?_|refine kD hbl ?_|refine kW cfg_ok ?_|refine kC ?_|refine bdA ?_|refine bd2 ?_|refine bdR ?_|refine bdL ?_)<;>(conv=>whnf))|(refine And.intro ?_ ?_;rotate_left;(conv=>whnf);rotate_right))
       all_goals simp
     · have hbl:=block_api i h0 h1
       have hbi : blockB i = false → i = 0:=fun hbf=>by
         rcases Classical.em (i = 0) with h|h
         · exact h
         · exact absurd ⟨h,hbf⟩ hit
       have hle : c.boxes.length ≤ 4000000000000000000:=by omega
       have hfd:=find_own c.boxes cell hle hRC.rises
       have hlb:=lb_le cell c.boxes
       generalize hat : lb cell c.boxes = at_ at *
       cases hT : thereB c.boxes cell with
       | false =>
         rw [hT] at hfd
         have hs : setC c cell i = ({ c with cells:=c.cells.set cell.toNat i,boxes:=putB c.boxes cell i },0):=by unfold setC;rw [if_neg (by rw [hR];simp),if_neg (by omega),if_neg hit,if_neg (by rw [hT];simp)]
         have hd : delB c.boxes cell = c.boxes:=by unfold delB;rw [hT];rfl
         rw [hs]
         by_cases h9 : i = 9
         · have hp : putB c.boxes cell i = c.boxes.take at_ ++ (⟨cell,newBag⟩ : Box) :: c.boxes.drop at_:=by unfold putB;rw [if_pos h9,hd,hat]
           rw [hp]
           subst h9
           refine Api.of_fin cfg_ok Try.func14 rfl (nt:=73) rfl rfl ?_
           conv=>whnf
           repeat' (first|exact trivial|((first|refine kL ?_|(refine ⟨fun hb=>?_,fun hb=>?_⟩<;>(try simp only [nrm] at hb)<;>(try (first|(exfalso;omega)|contradiction|exact kB hb)))|(refine isE 36 ?_;refine kE (copied_ev c hf) [(390001,150001),(390003,150003),(390005,150005)] rfl ?_)|(refine isD 36 ?_;refine kF (copied_ev c hf) [(390001,150001),(390003,150003),(390005,150005)] rfl ?_)|refine kE hfd [(1,150005)] rfl ?_|refine kF hfd [(1,150005)] rfl ?_|(refine isE 43 ?_;refine kE (insert_evn c.boxes _ at_ ⟨cell,newBag⟩ rfl hlb (by omega)) [(1,150005),(3,135),(390001,150007)] rfl ?_)|(refine isD 43 ?_;refine kF (insert_evn c.boxes _ at_ ⟨cell,newBag⟩ rfl hlb (by omega)) [(1,150005),(3,135),(390001,150007)] rfl ?_)|refine kA hrt ?_|refine kD hrt ?_|(refine isE 33 ?_;refine kA (inside_api _) ?_)|(refine isD 33 ?_;refine kD (inside_api _) ?_)|refine kA hbl ?_|refine kD hbl ?_|(refine isE 44 ?_;refine kA (new_api 6 (by omega) (by omega)) ?_)|(refine isD 44 ?_;refine kD (new_api 6 (by omega) (by omega)) ?_)|refine kW cfg_ok ?_|refine kC ?_|refine bdA ?_|refine bd2 ?_|refine bdR ?_|refine bdL ?_)<;>(conv=>whnf))|(refine And.intro ?_ ?_;rotate_left;(conv=>whnf);rotate_right))
           all_goals (try simp only [List.drop_zero,Nat.add_zero])
           all_goals first|(simp;done)|(refine List.take_of_length_le ?_;simp;done)|(refine List.take_of_length_le ?_;simp;omega)
         · have hp : putB c.boxes cell i = c.boxes:=by unfold putB;rw [if_neg h9,hd]
           rw [hp]
           refine Api.of_fin cfg_ok Try.func14 rfl (nt:=73) rfl rfl ?_
           conv=>whnf
           repeat' (first|exact trivial|((first|refine kL ?_|(refine ⟨fun hb=>?_,fun hb=>?_⟩<;>(try simp only [nrm] at hb)<;>(try (first|(exfalso;omega)|contradiction|exact kB hb)))|(exact absurd (hbi (by assumption)) (by assumption);done)|(refine isE 36 ?_;refine kE (copied_ev c hf) [(390001,150001),(390003,150003),(390005,150005)] rfl ?_)|(refine isD 36 ?_;refine kF (copied_ev c hf) [(390001,150001),(390003,150003),(390005,150005)] rfl ?_)|refine kE hfd [(1,150005)] rfl ?_|refine kF hfd [(1,150005)] rfl ?_|refine kA hrt ?_|refine kD hrt ?_|(refine isE 33 ?_;refine kA (inside_api _) ?_)|(refine isD 33 ?_;refine kD (inside_api _) ?_)|refine kA hbl ?_|refine kD hbl ?_|refine kW cfg_ok ?_|refine kC ?_|refine bdA ?_|refine bd2 ?_|refine bdR ?_|refine bdL ?_)<;>(conv=>whnf))|(refine And.intro ?_ ?_;rotate_left;(conv=>whnf);rotate_right))
           all_goals (try simp only [List.drop_zero,Nat.add_zero])
           all_goals first|(simp;done)|(refine List.take_of_length_le ?_;simp;done)|(refine List.take_of_length_le ?_;simp;omega)
       | true =>
         rw [hT] at hfd
         obtain ⟨hlt,hce⟩:=thereB_lt hT
         rw [hat] at hlt hce
         have hfu:=has_full (elt .box c.boxes at_).bag (Nat.le_trans (hc.boxes _ (elt_mem (t:=.box) hlt)).2 (Nat.le_refl _)) (fun _ _=>trivial)
         have hfb : fullB (elt .box c.boxes at_).bag = (elt .box c.boxes at_).bag.any posSlot:=rfl
         cases hF : fullB (elt .box c.boxes at_).bag with
         | true =>
           rw [← hfb,hF] at hfu
           have hs : setC c cell i = (c,104):=by unfold setC;rw [if_neg (by rw [hR];simp),if_neg (by omega),if_neg hit,if_pos (by rw [hT,hat,hF];simp)]
           rw [hs]
           refine Api.of_fin cfg_ok Try.func14 rfl (nt:=73) rfl rfl ?_
           conv=>whnf
           repeat' (first|exact trivial|((first|refine kL ?_|(refine ⟨fun hb=>?_,fun hb=>?_⟩<;>(try simp only [nrm] at hb)<;>(try (first|(exfalso;omega)|contradiction|exact kB hb)))|(exact absurd (hbi (by assumption)) (by assumption);done)|(refine isE 36 ?_;refine kE (copied_ev c hf) [(390001,150001),(390003,150003),(390005,150005)] rfl ?_)|(refine isD 36 ?_;refine kF (copied_ev c hf) [(390001,150001),(390003,150003),(390005,150005)] rfl ?_)|refine kE hfd [(1,150005)] rfl ?_|refine kF hfd [(1,150005)] rfl ?_|refine kA hrt ?_|refine kD hrt ?_|(refine isE 33 ?_;refine kA (inside_api _) ?_)|(refine isD 33 ?_;refine kD (inside_api _) ?_)|refine kA hbl ?_|refine kD hbl ?_|refine kA hfu ?_|refine kD hfu ?_|refine kW cfg_ok ?_|refine kC ?_|refine bdA ?_|refine bd2 ?_|refine bdR ?_|refine bdL ?_)<;>(conv=>whnf))|(refine And.intro ?_ ?_;rotate_left;(conv=>whnf);rotate_right))
           all_goals simp
         | false =>
           rw [← hfb,hF] at hfu
           have hs : setC c cell i = ({ c with cells:=c.cells.set cell.toNat i,boxes:=putB c.boxes cell i },0):=by unfold setC;rw [if_neg (by rw [hR];simp),if_neg (by omega),if_neg hit,if_neg (by rw [hat,hF];simp)]
           have hd : delB c.boxes cell = c.boxes.take at_ ++ c.boxes.drop (at_ + 1):=by unfold delB;rw [hT,hat];rfl
           have hdl : at_ + (c.boxes.length - (at_ + 1)) = (c.boxes.take at_ ++ c.boxes.drop (at_ + 1)).length:=by simp;omega
           rw [hs]
           by_cases h9 : i = 9
           · have hp : putB c.boxes cell i = (c.boxes.take at_ ++ c.boxes.drop (at_ + 1)).take at_ ++ (⟨cell,newBag⟩ : Box) :: (c.boxes.take at_ ++ c.boxes.drop (at_ + 1)).drop at_:=by unfold putB;rw [if_pos h9,hd,hat]
             rw [hp]
             subst h9
             refine Api.of_fin cfg_ok Try.func14 rfl (nt:=73) rfl rfl ?_
             conv=>whnf
             repeat' (first|exact trivial|((first|refine kL ?_|(refine ⟨fun hb=>?_,fun hb=>?_⟩<;>(try simp only [nrm] at hb)<;>(try (first|(exfalso;omega)|contradiction|exact kB hb)))|(refine isE 36 ?_;refine kE (copied_ev c hf) [(390001,150001),(390003,150003),(390005,150005)] rfl ?_)|(refine isD 36 ?_;refine kF (copied_ev c hf) [(390001,150001),(390003,150003),(390005,150005)] rfl ?_)|refine kE hfd [(1,150005)] rfl ?_|refine kF hfd [(1,150005)] rfl ?_|(refine isE 42 ?_;refine kE (delete_evn c.boxes _ at_ (at_ + 1) rfl (by omega) (by omega) (by omega)) [(1,150005)] rfl ?_)|(refine isD 42 ?_;refine kF (delete_evn c.boxes _ at_ (at_ + 1) rfl (by omega) (by omega) (by omega)) [(1,150005)] rfl ?_)|(refine isE 43 ?_;refine kE (insert_evn (c.boxes.take at_ ++ c.boxes.drop (at_ + 1)) _ at_ ⟨cell,newBag⟩ hdl (by omega) (by omega)) [(1,150005),(3,135),(390001,150007)] rfl ?_)|(refine isD 43 ?_;refine kF (insert_evn (c.boxes.take at_ ++ c.boxes.drop (at_ + 1)) _ at_ ⟨cell,newBag⟩ hdl (by omega) (by omega)) [(1,150005),(3,135),(390001,150007)] rfl ?_)|refine kA hrt ?_|refine kD hrt ?_|(refine isE 33 ?_;refine kA (inside_api _) ?_)|(refine isD 33 ?_;refine kD (inside_api _) ?_)|refine kA hbl ?_|refine kD hbl ?_|refine kA hfu ?_|refine kD hfu ?_|(refine isE 44 ?_;refine kA (new_api 6 (by omega) (by omega)) ?_)|(refine isD 44 ?_;refine kD (new_api 6 (by omega) (by omega)) ?_)|refine kW cfg_ok ?_|refine kC ?_|refine bdA ?_|refine bd2 ?_|refine bdR ?_|refine bdL ?_)<;>(conv=>whnf))|(refine And.intro ?_ ?_;rotate_left;(conv=>whnf);rotate_right))
             all_goals (try simp only [List.drop_zero,Nat.add_zero])
             all_goals first|(simp;done)|(refine List.take_of_length_le ?_;simp;done)|(refine List.take_of_length_le ?_;simp;omega)
           · have hp : putB c.boxes cell i = c.boxes.take at_ ++ c.boxes.drop (at_ + 1):=by unfold putB;rw [if_neg h9,hd]
             rw [hp]
             refine Api.of_fin cfg_ok Try.func14 rfl (nt:=73) rfl rfl ?_
             conv=>whnf
             repeat' (first|exact trivial|((first|refine kL ?_|(refine ⟨fun hb=>?_,fun hb=>?_⟩<;>(try simp only [nrm] at hb)<;>(try (first|(exfalso;omega)|contradiction|exact kB hb)))|(exact absurd (hbi (by assumption)) (by assumption);done)|(refine isE 36 ?_;refine kE (copied_ev c hf) [(390001,150001),(390003,150003),(390005,150005)] rfl ?_)|(refine isD 36 ?_;refine kF (copied_ev c hf) [(390001,150001),(390003,150003),(390005,150005)] rfl ?_)|refine kE hfd [(1,150005)] rfl ?_|refine kF hfd [(1,150005)] rfl ?_|(refine isE 42 ?_;refine kE (delete_evn c.boxes _ at_ (at_ + 1) rfl (by omega) (by omega) (by omega)) [(1,150005)] rfl ?_)|(refine isD 42 ?_;refine kF (delete_evn c.boxes _ at_ (at_ + 1) rfl (by omega) (by omega) (by omega)) [(1,150005)] rfl ?_)|refine kA hrt ?_|refine kD hrt ?_|(refine isE 33 ?_;refine kA (inside_api _) ?_)|(refine isD 33 ?_;refine kD (inside_api _) ?_)|refine kA hbl ?_|refine kD hbl ?_|refine kA hfu ?_|refine kD hfu ?_|refine kW cfg_ok ?_|refine kC ?_|refine bdA ?_|refine bd2 ?_|refine bdR ?_|refine bdL ?_)<;>(conv=>whnf))|(refine And.intro ?_ ?_;rotate_left;(conv=>whnf);rotate_right))
             all_goals (try simp only [List.drop_zero,Nat.add_zero])
             all_goals first|(simp;done)|(refine List.take_of_length_le ?_;simp;done)|(refine List.take_of_length_le ?_;simp;omega)
   · have hs : setC c cell i = (c,102):=by unfold setC;rw [if_neg (by rw [hR];simp),if_pos hin]
     rw [hs]
     refine Api.of_fin cfg_ok Try.func14 rfl (nt:=73) rfl rfl ?_
     conv=>whnf
     repeat' (first|exact trivial|((first|refine kL ?_|(refine ⟨fun hb=>?_,fun hb=>?_⟩<;>(try simp only [nrm] at hb)<;>(try (first|(exfalso;omega)|contradiction|exact kB hb)))|(refine isE 36 ?_;refine kE (copied_ev c hf) [(390001,150001),(390003,150003),(390005,150005)] rfl ?_)|(refine isD 36 ?_;refine kF (copied_ev c hf) [(390001,150001),(390003,150003),(390005,150005)] rfl ?_)|refine kA hrt ?_|refine kD hrt ?_|(refine isE 33 ?_;refine kA (inside_api _) ?_)|(refine isD 33 ?_;refine kD (inside_api _) ?_)|refine kW cfg_ok ?_|refine kC ?_|refine bdA ?_|refine bd2 ?_|refine bdR ?_|refine bdL ?_)<;>(conv=>whnf))|(refine And.intro ?_ ?_;rotate_left;(conv=>whnf);rotate_right))
     all_goals simp
open Go Go.RowKit Eng
def fillC (c : Chunk) (cell : Int) (l : List Slot) : Chunk × Int:=
 if rightB c = false then (c,101) else if thereB c.boxes cell = false then (c,102)
 else if ¬ (l.length = 6 ∧ bagOk l = true) then (c,103)
 else ({ c with boxes:=c.boxes.set (lb cell c.boxes) ⟨cell,l⟩ },0)
theorem fill_api (c : Chunk) (cell : Int) (l : List (El .slot)) (hc : OkC c) (hf : FitC c) (hl : l.length * 16 ≤ 140737488351232) (hw : ∀ s ∈ l,okSlot s) : Api Try.prog 15 [chunkV c,i64 cell,.vec .slot l] (.tup [chunkV (fillC c cell l).1,i64 (fillC c cell l).2]):=by
 have hrt:=cright_api c hc
 have hbx:=hf.boxes
 cases hR : rightB c with
 | false =>
   rw [hR] at hrt
   have hs : fillC c cell l = (c,101):=by unfold fillC;rw [if_pos hR]
   rw [hs]
   refine Api.of_fin cfg_ok Try.func15 rfl (nt:=39) rfl rfl ?_
   conv=>whnf
   repeat' (first|exact trivial|((first|refine kL ?_|(refine ⟨fun hb=>?_,fun hb=>?_⟩<;>(try simp only [nrm] at hb)<;>(try (first|(exfalso;omega)|contradiction|exact kB hb)))|(refine isE 36 ?_;refine kE (copied_ev c hf) [(390001,150001),(390003,150003),(390005,150005)] rfl ?_)|(refine isD 36 ?_;refine kF (copied_ev c hf) [(390001,150001),(390003,150003),(390005,150005)] rfl ?_)|refine kA hrt ?_|refine kD hrt ?_|refine kW cfg_ok ?_|refine kC ?_|refine bdA ?_|refine bd2 ?_|refine bdR ?_|refine bdL ?_)<;>(conv=>whnf))|(refine And.intro ?_ ?_;rotate_left;(conv=>whnf);rotate_right))
   all_goals simp
 | true =>
   rw [hR] at hrt
   have hRC:=rightC_of hR
   have hle : c.boxes.length ≤ 4000000000000000000:=by omega
   have hfd:=find_own c.boxes cell hle hRC.rises
   have hbr:=bagRight_api l 6 (by unfold big;omega) hw
   generalize hat : lb cell c.boxes = at_ at *
   cases hT : thereB c.boxes cell with
   | false =>
     rw [hT] at hfd
     have hs : fillC c cell l = (c,102):=by unfold fillC;rw [if_neg (by rw [hR];simp),if_pos hT]
     rw [hs]
     refine Api.of_fin cfg_ok Try.func15 rfl (nt:=39) rfl rfl ?_
     conv=>whnf
     repeat' (first|exact trivial|((first|refine kL ?_|(refine ⟨fun hb=>?_,fun hb=>?_⟩<;>(try simp only [nrm] at hb)<;>(try (first|(exfalso;omega)|contradiction|exact kB hb)))|(refine isE 36 ?_;refine kE (copied_ev c hf) [(390001,150001),(390003,150003),(390005,150005)] rfl ?_)|(refine isD 36 ?_;refine kF (copied_ev c hf) [(390001,150001),(390003,150003),(390005,150005)] rfl ?_)|refine kE hfd [(1,150005)] rfl ?_|refine kF hfd [(1,150005)] rfl ?_|refine kA hrt ?_|refine kD hrt ?_|refine kW cfg_ok ?_|refine kC ?_|refine bdA ?_|refine bd2 ?_|refine bdR ?_|refine bdL ?_)<;>(conv=>whnf))|(refine And.intro ?_ ?_;rotate_left;(conv=>whnf);rotate_right))
     all_goals simp
   | true =>
     rw [hT] at hfd
     obtain ⟨hlt,hce⟩:=thereB_lt hT
     rw [hat] at hlt hce
     by_cases hb6 : l.length = 6 ∧ bagOk l = true
     · have hbv : (decide ((l.length : Int) = 6) && bagOk l) = true:=by rw [hb6.2,Bool.and_true];exact decide_eq_true (by omega)
       rw [hbv] at hbr
       have hs : fillC c cell l = ({ c with boxes:=c.boxes.set at_ ⟨cell,l⟩ },0):=by unfold fillC;rw [if_neg (by rw [hR];simp),if_neg (by rw [hT];simp),if_neg (by simp only [Decidable.not_not];exact hb6),hat]
       rw [hs]
       refine Api.of_fin cfg_ok Try.func15 rfl (nt:=39) rfl rfl ?_
       conv=>whnf
       repeat' (first|exact trivial|((first|refine kL ?_|(refine ⟨fun hb=>?_,fun hb=>?_⟩<;>(try simp only [nrm] at hb)<;>(try (first|(exfalso;omega)|contradiction|exact kB hb)))|(refine isE 36 ?_;refine kE (copied_ev c hf) [(390001,150001),(390003,150003),(390005,150005)] rfl ?_)|(refine isD 36 ?_;refine kF (copied_ev c hf) [(390001,150001),(390003,150003),(390005,150005)] rfl ?_)|refine kE hfd [(1,150005)] rfl ?_|refine kF hfd [(1,150005)] rfl ?_|refine kA hrt ?_|refine kD hrt ?_|refine kA hbr ?_|refine kD hbr ?_|(refine isE 45 ?_;refine kA (cloneV_slots l (by omega)) ?_)|(refine isD 45 ?_;refine kD (cloneV_slots l (by omega)) ?_)|refine kW cfg_ok ?_|refine kC ?_|refine bdA ?_|refine bd2 ?_|refine bdR ?_|refine bdL ?_)<;>(conv=>whnf))|(refine And.intro ?_ ?_;rotate_left;(conv=>whnf);rotate_right))
       all_goals (try simp only [List.drop_zero,Nat.add_zero,Int.toNat_natCast])
       all_goals first|(simp;done)|(rw [hce];refine List.take_of_length_le ?_;rw [List.length_set];exact Nat.le_refl _)
     · have hbv : (decide ((l.length : Int) = 6) && bagOk l) = false:=by
         cases hbo : bagOk l with
         | false=>simp
         | true=>rw [Bool.and_true];exact decide_eq_false (by intro h;exact hb6 ⟨by omega,hbo⟩)
       rw [hbv] at hbr
       have hs : fillC c cell l = (c,103):=by unfold fillC;rw [if_neg (by rw [hR];simp),if_neg (by rw [hT];simp),if_pos hb6]
       rw [hs]
       refine Api.of_fin cfg_ok Try.func15 rfl (nt:=39) rfl rfl ?_
       conv=>whnf
       repeat' (first|exact trivial|((first|refine kL ?_|(refine ⟨fun hb=>?_,fun hb=>?_⟩<;>(try simp only [nrm] at hb)<;>(try (first|(exfalso;omega)|contradiction|exact kB hb)))|(refine isE 36 ?_;refine kE (copied_ev c hf) [(390001,150001),(390003,150003),(390005,150005)] rfl ?_)|(refine isD 36 ?_;refine kF (copied_ev c hf) [(390001,150001),(390003,150003),(390005,150005)] rfl ?_)|refine kE hfd [(1,150005)] rfl ?_|refine kF hfd [(1,150005)] rfl ?_|refine kA hrt ?_|refine kD hrt ?_|refine kA hbr ?_|refine kD hbr ?_|refine kW cfg_ok ?_|refine kC ?_|refine bdA ?_|refine bd2 ?_|refine bdR ?_|refine bdL ?_)<;>(conv=>whnf))|(refine And.intro ?_ ?_;rotate_left;(conv=>whnf);rotate_right))
       all_goals simp
def dropC (c : Chunk) (cell : Int) (s : Slot) : Chunk × Int:=
 if rightB c = false then (c,101) else if ¬ (0 ≤ cell ∧ cell < 64) then (c,102) else if someB s = false then (c,111)
 else if 32 ≤ c.heaps.length then (c,104) else ({ c with heaps:=c.heaps ++ [⟨cell,s⟩] },0)
theorem drop_api (c : Chunk) (cell : Int) (s : Slot) (hc : OkC c) (hf : FitC c) (hs : okSlot s) : Api Try.prog 12 [chunkV c,i64 cell,.agg [.lit (.int .u8 s.item),.lit (.int .i64 s.n)]] (.tup [chunkV (dropC c cell s).1,i64 (dropC c cell s).2]):=by
 have hrt:=cright_api c hc
 have hbx:=hf.heaps
 have hsm:=some_api s hs
 cases hR : rightB c with
 | false =>
   rw [hR] at hrt
   have hr : dropC c cell s = (c,101):=by unfold dropC;rw [if_pos hR]
   rw [hr]
   refine Api.of_fin cfg_ok Try.func12 rfl (nt:=39) rfl rfl ?_
   conv=>whnf
   repeat' (first|exact trivial|((first|refine kL ?_|(refine ⟨fun hb=>?_,fun hb=>?_⟩<;>(try simp only [nrm] at hb)<;>(try (first|(exfalso;omega)|contradiction|exact kB hb)))|(refine isE 36 ?_;refine kE (copied_ev c hf) [(390001,150001),(390003,150003),(390005,150005)] rfl ?_)|(refine isD 36 ?_;refine kF (copied_ev c hf) [(390001,150001),(390003,150003),(390005,150005)] rfl ?_)|refine kA hrt ?_|refine kD hrt ?_|refine kW cfg_ok ?_|refine kC ?_|refine bdA ?_|refine bd2 ?_|refine bdR ?_|refine bdL ?_)<;>(conv=>whnf))|(refine And.intro ?_ ?_;rotate_left;(conv=>whnf);rotate_right))
   all_goals simp
 | true =>
   rw [hR] at hrt
   by_cases hin : 0 ≤ cell ∧ cell < 64
   · cases hS : someB s with
     | false =>
       rw [hS] at hsm
       have hr : dropC c cell s = (c,111):=by unfold dropC;rw [if_neg (by rw [hR];simp),if_neg (by omega),if_pos hS]
       rw [hr]
       refine Api.of_fin cfg_ok Try.func12 rfl (nt:=39) rfl rfl ?_
       conv=>whnf
       repeat' (first|exact trivial|((first|refine kL ?_|(refine ⟨fun hb=>?_,fun hb=>?_⟩<;>(try simp only [nrm] at hb)<;>(try (first|(exfalso;omega)|contradiction|exact kB hb)))|(refine isE 36 ?_;refine kE (copied_ev c hf) [(390001,150001),(390003,150003),(390005,150005)] rfl ?_)|(refine isD 36 ?_;refine kF (copied_ev c hf) [(390001,150001),(390003,150003),(390005,150005)] rfl ?_)|refine kA hrt ?_|refine kD hrt ?_|(refine isE 33 ?_;refine kA (inside_api _) ?_)|(refine isD 33 ?_;refine kD (inside_api _) ?_)|refine kA hsm ?_|refine kD hsm ?_|refine kW cfg_ok ?_|refine kC ?_|refine bdA ?_|refine bd2 ?_|refine bdR ?_|refine bdL ?_)<;>(conv=>whnf))|(refine And.intro ?_ ?_;rotate_left;(conv=>whnf);rotate_right))
       all_goals simp
     | true =>
       rw [hS] at hsm
       by_cases hg : 32 ≤ c.heaps.length
       · have hr : dropC c cell s = (c,104):=by unfold dropC;rw [if_neg (by rw [hR];simp),if_neg (by omega),if_neg (by rw [hS];simp),if_pos hg]
         rw [hr]
         refine Api.of_fin cfg_ok Try.func12 rfl (nt:=39) rfl rfl ?_
         conv=>whnf
         repeat' (first|exact trivial|((first|refine kL ?_|(refine ⟨fun hb=>?_,fun hb=>?_⟩<;>(try simp only [nrm] at hb)<;>(try (first|(exfalso;omega)|contradiction|exact kB hb)))|(refine isE 36 ?_;refine kE (copied_ev c hf) [(390001,150001),(390003,150003),(390005,150005)] rfl ?_)|(refine isD 36 ?_;refine kF (copied_ev c hf) [(390001,150001),(390003,150003),(390005,150005)] rfl ?_)|refine kA hrt ?_|refine kD hrt ?_|(refine isE 33 ?_;refine kA (inside_api _) ?_)|(refine isD 33 ?_;refine kD (inside_api _) ?_)|refine kA hsm ?_|refine kD hsm ?_|refine kW cfg_ok ?_|refine kC ?_|refine bdA ?_|refine bd2 ?_|refine bdR ?_|refine bdL ?_)<;>(conv=>whnf))|(refine And.intro ?_ ?_;rotate_left;(conv=>whnf);rotate_right))
         all_goals simp
       · have hr : dropC c cell s = ({ c with heaps:=c.heaps ++ [⟨cell,s⟩] },0):=by unfold dropC;rw [if_neg (by rw [hR];simp),if_neg (by omega),if_neg (by rw [hS];simp),if_neg hg]
         rw [hr]
         refine Api.of_fin cfg_ok Try.func12 rfl (nt:=39) rfl rfl ?_
         conv=>whnf
         repeat' (first|exact trivial|((first|refine kL ?_|(refine ⟨fun hb=>?_,fun hb=>?_⟩<;>(try simp only [nrm] at hb)<;>(try (first|(exfalso;omega)|contradiction|exact kB hb)))|(refine isE 36 ?_;refine kE (copied_ev c hf) [(390001,150001),(390003,150003),(390005,150005)] rfl ?_)|(refine isD 36 ?_;refine kF (copied_ev c hf) [(390001,150001),(390003,150003),(390005,150005)] rfl ?_)|refine kA hrt ?_|refine kD hrt ?_|(refine isE 33 ?_;refine kA (inside_api _) ?_)|(refine isD 33 ?_;refine kD (inside_api _) ?_)|refine kA hsm ?_|refine kD hsm ?_|refine kW cfg_ok ?_|refine kC ?_|refine bdA ?_|refine bd2 ?_|refine bdR ?_|refine bdL ?_)<;>(conv=>whnf))|(refine And.intro ?_ ?_;rotate_left;(conv=>whnf);rotate_right))
         all_goals (try simp only [List.drop_zero,Nat.add_zero,List.take_length])
         all_goals first|(simp;done)|(refine List.take_of_length_le ?_;simp;done)
   · have hr : dropC c cell s = (c,102):=by unfold dropC;rw [if_neg (by rw [hR];simp),if_pos hin]
     rw [hr]
     refine Api.of_fin cfg_ok Try.func12 rfl (nt:=39) rfl rfl ?_
     conv=>whnf
     repeat' (first|exact trivial|((first|refine kL ?_|(refine ⟨fun hb=>?_,fun hb=>?_⟩<;>(try simp only [nrm] at hb)<;>(try (first|(exfalso;omega)|contradiction|exact kB hb)))|(refine isE 36 ?_;refine kE (copied_ev c hf) [(390001,150001),(390003,150003),(390005,150005)] rfl ?_)|(refine isD 36 ?_;refine kF (copied_ev c hf) [(390001,150001),(390003,150003),(390005,150005)] rfl ?_)|refine kA hrt ?_|refine kD hrt ?_|(refine isE 33 ?_;refine kA (inside_api _) ?_)|(refine isD 33 ?_;refine kD (inside_api _) ?_)|refine kW cfg_ok ?_|refine kC ?_|refine bdA ?_|refine bd2 ?_|refine bdR ?_|refine bdL ?_)<;>(conv=>whnf))|(refine And.intro ?_ ?_;rotate_left;(conv=>whnf);rotate_right))
     all_goals simp
open Go Go.RowKit Eng
def uintF : Nat → Nat → List Int
 | 0,n=>[(n : Int)]
 | f + 1,n=>if n < 128 then [(n : Int)] else ((n % 128 + 128 : Nat) : Int) :: uintF f (n / 128)
def uintL (n : Nat) : List Int:=uintF 9 n
theorem uintF_len (f n : Nat) : (uintF f n).length ≤ f + 1:=by
 induction f generalizing n with
 | zero=>simp [uintF]
 | succ f ih=>simp only [uintF];split<;>simp;have:=ih (n / 128);omega
def eqL (a b : List Int) : Bool:=decide (a = b)
def okU8 (l : List Int) : Prop:=∀ i ∈ l,0 ≤ i ∧ i ≤ 255
theorem byte_inj {a b : Int} (ha : 0 ≤ a ∧ a ≤ 255) (hb : 0 ≤ b ∧ b ≤ 255) (h : UInt8.ofNat a.toNat = UInt8.ofNat b.toNat) : a = b:=by
 have:=congrArg UInt8.toNat h
 simp only [UInt8.toNat_ofNat'] at this
 omega
theorem bytes_inj : ∀ {a b : List Int},okU8 a → okU8 b → (a.map fun n=>UInt8.ofNat n.toNat) = (b.map fun n=>UInt8.ofNat n.toNat) → a = b
 | [],[],_,_,_=>rfl
 | [],_ :: _,_,_,h=>by simp at h
 | _ :: _,[],_,_,h=>by simp at h
 | x :: a,y :: b,ha,hb,h=>by
   simp only [List.map_cons,List.cons.injEq] at h
   rw [byte_inj (ha x (by simp)) (hb y (by simp)) h.1,bytes_inj (fun i hi=>ha i (by simp [hi])) (fun i hi=>hb i (by simp [hi])) h.2]
theorem bytes_loop (bs : ByteArray) : ∀ (k i : Nat) (r : List UInt8),i + k = bs.size → ByteArray.toList.loop bs i r = r.reverse ++ bs.data.toList.drop i:=by
 have hs : bs.size = bs.data.toList.length:=by rw [Array.length_toList];rfl
 intro k
 induction k with
 | zero =>
   intro i r h
   unfold ByteArray.toList.loop
   rw [if_neg (by omega),List.drop_of_length_le (by omega),List.append_nil]
 | succ k ih =>
   intro i r h
   unfold ByteArray.toList.loop
   rw [if_pos (by omega),ih (i + 1) _ (by omega)]
   have hlt : i < bs.data.toList.length:=by omega
   have hg : bs.get! i = bs.data.toList[i]:=by
     show bs.data[i]! = _
     rw [getElem!_pos bs.data i (by rw [← Array.length_toList];exact hlt)];simp
   rw [List.drop_eq_getElem_cons hlt,hg]
   simp only [List.reverse_cons,List.append_assoc,List.singleton_append]
theorem bytes_toList (bs : ByteArray) : bs.toList = bs.data.toList:=by
 unfold ByteArray.toList
 rw [bytes_loop bs bs.size 0 [] (by omega)];simp
theorem strOf_eq {a b : List Int} (ha : okU8 a) (hb : okU8 b) : ((strOfNums a).toList == (strOfNums b).toList) = eqL a b:=by
 unfold eqL
 rw [Bool.eq_iff_iff,beq_iff_eq,decide_eq_true_eq]
 constructor
 · intro h
   have h2 : (strOfNums a).data.toList = (strOfNums b).data.toList:=by
     rw [← bytes_toList,← bytes_toList,h]
   exact bytes_inj ha hb h2
 · rintro rfl;rfl
theorem equal_api (a b : List (El .u8)) (ha : okU8 a) (hb : okU8 b) : Api Try.prog 9 [.vec .u8 a,.vec .u8 b] (bol (eqL a b)):=by
 refine Api.of_fin cfg_ok Try.func9 rfl (nt:=8) rfl rfl ?_
 conv=>whnf
 repeat' (first|exact trivial|((first|refine kL ?_|(refine ⟨fun hb=>?_,fun hb=>?_⟩<;>(try simp only [nrm] at hb)<;>(try (first|(exfalso;omega)|contradiction|exact kB hb)))|refine kW cfg_ok ?_|refine kC ?_|refine bdA ?_|refine bd2 ?_|refine bdR ?_|refine bdL ?_)<;>(conv=>whnf))|(refine And.intro ?_ ?_;rotate_left;(conv=>whnf);rotate_right))
 rw [strOf_eq ha hb]
def padA : List Int → Nat → List AV
 | _,0=>[]
 | [],n + 1=>u8 0 :: padA [] n
 | a :: r,n + 1=>u8 a :: padA r n
theorem uint_ev (l : List (El .u8)) (n : Nat) (hn : n < 18446744073709551616) (hl : l.length + 10 ≤ 140737488355328) : Ev1 Try.prog 28 [.own .u8 1 0 l.length none,.lit (.int .u64 n)] [(1,.row .u8 l)] (.own .u8 390001 0 (l.length + (uintL n).length) none) [(390001,.row .u8 (l ++ uintL n))]:=by
 refine Ev1.of_fin cfg_ok Try.func28 rfl (nt:=26) rfl rfl rfl ?_
 conv=>whnf
 refine Runs.loopS cfg_ok (σ:=List Int × Nat) [0,1,5,6] (fun (bs,r)=>[.own .u8 1 0 l.length none,.lit (.int .u64 r),.ptr 200010 0,i64 bs.length]) (fun (bs,_)=>[(1,.row .u8 l),(200010,.box (padA bs 10))])
   (fun (bs,r)=>bs.length ≤ 9 ∧ bs ++ uintF (9 - bs.length) r = uintL n ∧ r < 2 ^ (64 - 7 * bs.length)) (fun (bs,_)=>10 - bs.length) ([],n) ⟨by simp,rfl,by simpa using hn⟩ ?_ ?_
 · conv=>whnf
   repeat' (first|exact trivial|((first|refine kL ?_|(refine ⟨fun hb=>?_,fun hb=>?_⟩<;>(try simp only [nrm] at hb)<;>(try (first|(exfalso;omega)|contradiction|exact kB hb)))|refine kW cfg_ok ?_|refine kC ?_|refine bdA ?_|refine bd2 ?_|refine bdR ?_|refine bdL ?_)<;>(conv=>whnf))|(refine And.intro ?_ ?_;rotate_left;(conv=>whnf);rotate_right))
   all_goals simp
 · rintro ⟨bs,r⟩ ⟨h1,h2,h3⟩
   match bs,h1 with
   | [],_ =>
     replace h3 : r < 18446744073709551616:=h3
     have ek : uintF (9 - 0) r = if r < 128 then [(r : Int)] else ((r % 128 + 128 : Nat) : Int) :: uintF 8 (r / 128):=rfl
     have hn1 : r < 128 → uintL n = [] ++ [(r : Int)]:=fun hr=>by rw [← h2];show _ ++ uintF (9 - 0) r = _;rw [ek,if_pos hr]
     have hn2 : ¬ r < 128 → [((r % 128 + 128 : Nat) : Int)] ++ uintF 8 (r / 128) = uintL n:=fun hr=>by rw [← h2];show _ = _ ++ uintF (9 - 0) r;rw [ek,if_neg hr];rfl
     conv=>whnf
     repeat' (first|exact trivial|((first|refine kL ?_|(refine ⟨fun hb=>?_,fun hb=>?_⟩<;>(try simp only [nrm] at hb)<;>(try (first|(exfalso;omega)|contradiction|exact kB hb)))|refine kW cfg_ok ?_|refine kC ?_|refine bdA ?_|refine bd2 ?_|refine bdR ?_|refine bdL ?_)<;>(conv=>whnf))|(refine And.intro ?_ ?_;rotate_left;(conv=>whnf);rotate_right))
     · refine .to ([((r % 128 + 128 : Nat) : Int)],r / 128) ⟨by simp,hn2 (by omega),by show r / 128 < 144115188075855872;omega⟩ (by simp) ?_
       conv=>whnf
       repeat' (first|exact trivial|((first|refine kL ?_|(refine ⟨fun hb=>?_,fun hb=>?_⟩<;>(try simp only [nrm] at hb)<;>(try (first|(exfalso;omega)|contradiction|exact kB hb)))|refine kW cfg_ok ?_|refine kC ?_|refine bdA ?_|refine bd2 ?_|refine bdR ?_|refine bdL ?_)<;>(conv=>whnf))|(refine And.intro ?_ ?_;rotate_left;(conv=>whnf);rotate_right))
       all_goals exact List.take_length
     all_goals (try rw [hn1 (by omega)])
     · rfl
     · rfl
     · rw [List.take_length];exact List.take_of_length_le (by rw [List.length_append];exact Nat.le_refl _)
   | [a],_ =>
     replace h3 : r < 144115188075855872:=h3
     have ek : uintF (9 - 1) r = if r < 128 then [(r : Int)] else ((r % 128 + 128 : Nat) : Int) :: uintF 7 (r / 128):=rfl
     have hn1 : r < 128 → uintL n = [a] ++ [(r : Int)]:=fun hr=>by rw [← h2];show _ ++ uintF (9 - 1) r = _;rw [ek,if_pos hr]
     have hn2 : ¬ r < 128 → [a,((r % 128 + 128 : Nat) : Int)] ++ uintF 7 (r / 128) = uintL n:=fun hr=>by rw [← h2];show _ = _ ++ uintF (9 - 1) r;rw [ek,if_neg hr];rfl
     conv=>whnf
     repeat' (first|exact trivial|((first|refine kL ?_|(refine ⟨fun hb=>?_,fun hb=>?_⟩<;>(try simp only [nrm] at hb)<;>(try (first|(exfalso;omega)|contradiction|exact kB hb)))|refine kW cfg_ok ?_|refine kC ?_|refine bdA ?_|refine bd2 ?_|refine bdR ?_|refine bdL ?_)<;>(conv=>whnf))|(refine And.intro ?_ ?_;rotate_left;(conv=>whnf);rotate_right))
     · refine .to ([a,((r % 128 + 128 : Nat) : Int)],r / 128) ⟨by simp,hn2 (by omega),by show r / 128 < 1125899906842624;omega⟩ (by simp) ?_
       conv=>whnf
       repeat' (first|exact trivial|((first|refine kL ?_|(refine ⟨fun hb=>?_,fun hb=>?_⟩<;>(try simp only [nrm] at hb)<;>(try (first|(exfalso;omega)|contradiction|exact kB hb)))|refine kW cfg_ok ?_|refine kC ?_|refine bdA ?_|refine bd2 ?_|refine bdR ?_|refine bdL ?_)<;>(conv=>whnf))|(refine And.intro ?_ ?_;rotate_left;(conv=>whnf);rotate_right))
       all_goals exact List.take_length
     all_goals (try rw [hn1 (by omega)])
     · rfl
     · rfl
     · rw [List.take_length];exact List.take_of_length_le (by rw [List.length_append];exact Nat.le_refl _)
   | [a,b],_ =>
     replace h3 : r < 1125899906842624:=h3
     have ek : uintF (9 - 2) r = if r < 128 then [(r : Int)] else ((r % 128 + 128 : Nat) : Int) :: uintF 6 (r / 128):=rfl
     have hn1 : r < 128 → uintL n = [a,b] ++ [(r : Int)]:=fun hr=>by rw [← h2];show _ ++ uintF (9 - 2) r = _;rw [ek,if_pos hr]
     have hn2 : ¬ r < 128 → [a,b,((r % 128 + 128 : Nat) : Int)] ++ uintF 6 (r / 128) = uintL n:=fun hr=>by rw [← h2];show _ = _ ++ uintF (9 - 2) r;rw [ek,if_neg hr];rfl
     conv=>whnf
     repeat' (first|exact trivial|((first|refine kL ?_|(refine ⟨fun hb=>?_,fun hb=>?_⟩<;>(try simp only [nrm] at hb)<;>(try (first|(exfalso;omega)|contradiction|exact kB hb)))|refine kW cfg_ok ?_|refine kC ?_|refine bdA ?_|refine bd2 ?_|refine bdR ?_|refine bdL ?_)<;>(conv=>whnf))|(refine And.intro ?_ ?_;rotate_left;(conv=>whnf);rotate_right))
     · refine .to ([a,b,((r % 128 + 128 : Nat) : Int)],r / 128) ⟨by simp,hn2 (by omega),by show r / 128 < 8796093022208;omega⟩ (by simp) ?_
       conv=>whnf
       repeat' (first|exact trivial|((first|refine kL ?_|(refine ⟨fun hb=>?_,fun hb=>?_⟩<;>(try simp only [nrm] at hb)<;>(try (first|(exfalso;omega)|contradiction|exact kB hb)))|refine kW cfg_ok ?_|refine kC ?_|refine bdA ?_|refine bd2 ?_|refine bdR ?_|refine bdL ?_)<;>(conv=>whnf))|(refine And.intro ?_ ?_;rotate_left;(conv=>whnf);rotate_right))
       all_goals exact List.take_length
     all_goals (try rw [hn1 (by omega)])
     · rfl
     · rfl
     · rw [List.take_length];exact List.take_of_length_le (by rw [List.length_append];exact Nat.le_refl _)
   | [a,b,c],_ =>
     replace h3 : r < 8796093022208:=h3
     have ek : uintF (9 - 3) r = if r < 128 then [(r : Int)] else ((r % 128 + 128 : Nat) : Int) :: uintF 5 (r / 128):=rfl
     have hn1 : r < 128 → uintL n = [a,b,c] ++ [(r : Int)]:=fun hr=>by rw [← h2];show _ ++ uintF (9 - 3) r = _;rw [ek,if_pos hr]
     have hn2 : ¬ r < 128 → [a,b,c,((r % 128 + 128 : Nat) : Int)] ++ uintF 5 (r / 128) = uintL n:=fun hr=>by rw [← h2];show _ = _ ++ uintF (9 - 3) r;rw [ek,if_neg hr];rfl
     conv=>whnf
     repeat' (first|exact trivial|((first|refine kL ?_|(refine ⟨fun hb=>?_,fun hb=>?_⟩<;>(try simp only [nrm] at hb)<;>(try (first|(exfalso;omega)|contradiction|exact kB hb)))|refine kW cfg_ok ?_|refine kC ?_|refine bdA ?_|refine bd2 ?_|refine bdR ?_|refine bdL ?_)<;>(conv=>whnf))|(refine And.intro ?_ ?_;rotate_left;(conv=>whnf);rotate_right))
     · refine .to ([a,b,c,((r % 128 + 128 : Nat) : Int)],r / 128) ⟨by simp,hn2 (by omega),by show r / 128 < 68719476736;omega⟩ (by simp) ?_
       conv=>whnf
       repeat' (first|exact trivial|((first|refine kL ?_|(refine ⟨fun hb=>?_,fun hb=>?_⟩<;>(try simp only [nrm] at hb)<;>(try (first|(exfalso;omega)|contradiction|exact kB hb)))|refine kW cfg_ok ?_|refine kC ?_|refine bdA ?_|refine bd2 ?_|refine bdR ?_|refine bdL ?_)<;>(conv=>whnf))|(refine And.intro ?_ ?_;rotate_left;(conv=>whnf);rotate_right))
       all_goals exact List.take_length
     all_goals (try rw [hn1 (by omega)])
     · rfl
     · rfl
     · rw [List.take_length];exact List.take_of_length_le (by rw [List.length_append];exact Nat.le_refl _)
   | [a,b,c,d],_ =>
     replace h3 : r < 68719476736:=h3
     have ek : uintF (9 - 4) r = if r < 128 then [(r : Int)] else ((r % 128 + 128 : Nat) : Int) :: uintF 4 (r / 128):=rfl
     have hn1 : r < 128 → uintL n = [a,b,c,d] ++ [(r : Int)]:=fun hr=>by rw [← h2];show _ ++ uintF (9 - 4) r = _;rw [ek,if_pos hr]
     have hn2 : ¬ r < 128 → [a,b,c,d,((r % 128 + 128 : Nat) : Int)] ++ uintF 4 (r / 128) = uintL n:=fun hr=>by rw [← h2];show _ = _ ++ uintF (9 - 4) r;rw [ek,if_neg hr];rfl
     conv=>whnf
     repeat' (first|exact trivial|((first|refine kL ?_|(refine ⟨fun hb=>?_,fun hb=>?_⟩<;>(try simp only [nrm] at hb)<;>(try (first|(exfalso;omega)|contradiction|exact kB hb)))|refine kW cfg_ok ?_|refine kC ?_|refine bdA ?_|refine bd2 ?_|refine bdR ?_|refine bdL ?_)<;>(conv=>whnf))|(refine And.intro ?_ ?_;rotate_left;(conv=>whnf);rotate_right))
     · refine .to ([a,b,c,d,((r % 128 + 128 : Nat) : Int)],r / 128) ⟨by simp,hn2 (by omega),by show r / 128 < 536870912;omega⟩ (by simp) ?_
       conv=>whnf
       repeat' (first|exact trivial|((first|refine kL ?_|(refine ⟨fun hb=>?_,fun hb=>?_⟩<;>(try simp only [nrm] at hb)<;>(try (first|(exfalso;omega)|contradiction|exact kB hb)))|refine kW cfg_ok ?_|refine kC ?_|refine bdA ?_|refine bd2 ?_|refine bdR ?_|refine bdL ?_)<;>(conv=>whnf))|(refine And.intro ?_ ?_;rotate_left;(conv=>whnf);rotate_right))
       all_goals exact List.take_length
     all_goals (try rw [hn1 (by omega)])
     · rfl
     · rfl
     · rw [List.take_length];exact List.take_of_length_le (by rw [List.length_append];exact Nat.le_refl _)
   | [a,b,c,d,e],_ =>
     replace h3 : r < 536870912:=h3
     have ek : uintF (9 - 5) r = if r < 128 then [(r : Int)] else ((r % 128 + 128 : Nat) : Int) :: uintF 3 (r / 128):=rfl
     have hn1 : r < 128 → uintL n = [a,b,c,d,e] ++ [(r : Int)]:=fun hr=>by rw [← h2];show _ ++ uintF (9 - 5) r = _;rw [ek,if_pos hr]
     have hn2 : ¬ r < 128 → [a,b,c,d,e,((r % 128 + 128 : Nat) : Int)] ++ uintF 3 (r / 128) = uintL n:=fun hr=>by rw [← h2];show _ = _ ++ uintF (9 - 5) r;rw [ek,if_neg hr];rfl
     conv=>whnf
     repeat' (first|exact trivial|((first|refine kL ?_|(refine ⟨fun hb=>?_,fun hb=>?_⟩<;>(try simp only [nrm] at hb)<;>(try (first|(exfalso;omega)|contradiction|exact kB hb)))|refine kW cfg_ok ?_|refine kC ?_|refine bdA ?_|refine bd2 ?_|refine bdR ?_|refine bdL ?_)<;>(conv=>whnf))|(refine And.intro ?_ ?_;rotate_left;(conv=>whnf);rotate_right))
     · refine .to ([a,b,c,d,e,((r % 128 + 128 : Nat) : Int)],r / 128) ⟨by simp,hn2 (by omega),by show r / 128 < 4194304;omega⟩ (by simp) ?_
       conv=>whnf
       repeat' (first|exact trivial|((first|refine kL ?_|(refine ⟨fun hb=>?_,fun hb=>?_⟩<;>(try simp only [nrm] at hb)<;>(try (first|(exfalso;omega)|contradiction|exact kB hb)))|refine kW cfg_ok ?_|refine kC ?_|refine bdA ?_|refine bd2 ?_|refine bdR ?_|refine bdL ?_)<;>(conv=>whnf))|(refine And.intro ?_ ?_;rotate_left;(conv=>whnf);rotate_right))
       all_goals exact List.take_length
     all_goals (try rw [hn1 (by omega)])
     · rfl
     · rfl
     · rw [List.take_length];exact List.take_of_length_le (by rw [List.length_append];exact Nat.le_refl _)
   | [a,b,c,d,e,f],_ =>
     replace h3 : r < 4194304:=h3
     have ek : uintF (9 - 6) r = if r < 128 then [(r : Int)] else ((r % 128 + 128 : Nat) : Int) :: uintF 2 (r / 128):=rfl
     have hn1 : r < 128 → uintL n = [a,b,c,d,e,f] ++ [(r : Int)]:=fun hr=>by rw [← h2];show _ ++ uintF (9 - 6) r = _;rw [ek,if_pos hr]
     have hn2 : ¬ r < 128 → [a,b,c,d,e,f,((r % 128 + 128 : Nat) : Int)] ++ uintF 2 (r / 128) = uintL n:=fun hr=>by rw [← h2];show _ = _ ++ uintF (9 - 6) r;rw [ek,if_neg hr];rfl
     conv=>whnf
     repeat' (first|exact trivial|((first|refine kL ?_|(refine ⟨fun hb=>?_,fun hb=>?_⟩<;>(try simp only [nrm] at hb)<;>(try (first|(exfalso;omega)|contradiction|exact kB hb)))|refine kW cfg_ok ?_|refine kC ?_|refine bdA ?_|refine bd2 ?_|refine bdR ?_|refine bdL ?_)<;>(conv=>whnf))|(refine And.intro ?_ ?_;rotate_left;(conv=>whnf);rotate_right))
     · refine .to ([a,b,c,d,e,f,((r % 128 + 128 : Nat) : Int)],r / 128) ⟨by simp,hn2 (by omega),by show r / 128 < 32768;omega⟩ (by simp) ?_
       conv=>whnf
       repeat' (first|exact trivial|((first|refine kL ?_|(refine ⟨fun hb=>?_,fun hb=>?_⟩<;>(try simp only [nrm] at hb)<;>(try (first|(exfalso;omega)|contradiction|exact kB hb)))|refine kW cfg_ok ?_|refine kC ?_|refine bdA ?_|refine bd2 ?_|refine bdR ?_|refine bdL ?_)<;>(conv=>whnf))|(refine And.intro ?_ ?_;rotate_left;(conv=>whnf);rotate_right))
       all_goals exact List.take_length
     all_goals (try rw [hn1 (by omega)])
     · rfl
     · rfl
     · rw [List.take_length];exact List.take_of_length_le (by rw [List.length_append];exact Nat.le_refl _)
   | [a,b,c,d,e,f,g],_ =>
     replace h3 : r < 32768:=h3
     have ek : uintF (9 - 7) r = if r < 128 then [(r : Int)] else ((r % 128 + 128 : Nat) : Int) :: uintF 1 (r / 128):=rfl
     have hn1 : r < 128 → uintL n = [a,b,c,d,e,f,g] ++ [(r : Int)]:=fun hr=>by rw [← h2];show _ ++ uintF (9 - 7) r = _;rw [ek,if_pos hr]
     have hn2 : ¬ r < 128 → [a,b,c,d,e,f,g,((r % 128 + 128 : Nat) : Int)] ++ uintF 1 (r / 128) = uintL n:=fun hr=>by rw [← h2];show _ = _ ++ uintF (9 - 7) r;rw [ek,if_neg hr];rfl
     conv=>whnf
     repeat' (first|exact trivial|((first|refine kL ?_|(refine ⟨fun hb=>?_,fun hb=>?_⟩<;>(try simp only [nrm] at hb)<;>(try (first|(exfalso;omega)|contradiction|exact kB hb)))|refine kW cfg_ok ?_|refine kC ?_|refine bdA ?_|refine bd2 ?_|refine bdR ?_|refine bdL ?_)<;>(conv=>whnf))|(refine And.intro ?_ ?_;rotate_left;(conv=>whnf);rotate_right))
     · refine .to ([a,b,c,d,e,f,g,((r % 128 + 128 : Nat) : Int)],r / 128) ⟨by simp,hn2 (by omega),by show r / 128 < 256;omega⟩ (by simp) ?_
       conv=>whnf
       repeat' (first|exact trivial|((first|refine kL ?_|(refine ⟨fun hb=>?_,fun hb=>?_⟩<;>(try simp only [nrm] at hb)<;>(try (first|(exfalso;omega)|contradiction|exact kB hb)))|refine kW cfg_ok ?_|refine kC ?_|refine bdA ?_|refine bd2 ?_|refine bdR ?_|refine bdL ?_)<;>(conv=>whnf))|(refine And.intro ?_ ?_;rotate_left;(conv=>whnf);rotate_right))
       all_goals exact List.take_length
     all_goals (try rw [hn1 (by omega)])
     · rfl
     · rfl
     · rw [List.take_length];exact List.take_of_length_le (by rw [List.length_append];exact Nat.le_refl _)
   | [a,b,c,d,e,f,g,h],_ =>
     replace h3 : r < 256:=h3
     have ek : uintF (9 - 8) r = if r < 128 then [(r : Int)] else ((r % 128 + 128 : Nat) : Int) :: uintF 0 (r / 128):=rfl
     have hn1 : r < 128 → uintL n = [a,b,c,d,e,f,g,h] ++ [(r : Int)]:=fun hr=>by rw [← h2];show _ ++ uintF (9 - 8) r = _;rw [ek,if_pos hr]
     have hn2 : ¬ r < 128 → [a,b,c,d,e,f,g,h,((r % 128 + 128 : Nat) : Int)] ++ uintF 0 (r / 128) = uintL n:=fun hr=>by rw [← h2];show _ = _ ++ uintF (9 - 8) r;rw [ek,if_neg hr];rfl
     conv=>whnf
     repeat' (first|exact trivial|((first|refine kL ?_|(refine ⟨fun hb=>?_,fun hb=>?_⟩<;>(try simp only [nrm] at hb)<;>(try (first|(exfalso;omega)|contradiction|exact kB hb)))|refine kW cfg_ok ?_|refine kC ?_|refine bdA ?_|refine bd2 ?_|refine bdR ?_|refine bdL ?_)<;>(conv=>whnf))|(refine And.intro ?_ ?_;rotate_left;(conv=>whnf);rotate_right))
     · refine .to ([a,b,c,d,e,f,g,h,((r % 128 + 128 : Nat) : Int)],r / 128) ⟨by simp,hn2 (by omega),by show r / 128 < 2;omega⟩ (by simp) ?_
       conv=>whnf
       repeat' (first|exact trivial|((first|refine kL ?_|(refine ⟨fun hb=>?_,fun hb=>?_⟩<;>(try simp only [nrm] at hb)<;>(try (first|(exfalso;omega)|contradiction|exact kB hb)))|refine kW cfg_ok ?_|refine kC ?_|refine bdA ?_|refine bd2 ?_|refine bdR ?_|refine bdL ?_)<;>(conv=>whnf))|(refine And.intro ?_ ?_;rotate_left;(conv=>whnf);rotate_right))
       all_goals exact List.take_length
     all_goals (try rw [hn1 (by omega)])
     · rfl
     · rfl
     · rw [List.take_length];exact List.take_of_length_le (by rw [List.length_append];exact Nat.le_refl _)
   | [a,b,c,d,e,f,g,h,i],_ =>
     replace h3 : r < 2:=h3
     have hn1 : r < 128 → uintL n = [a,b,c,d,e,f,g,h,i] ++ [(r : Int)]:=fun _=>h2.symm
     conv=>whnf
     repeat' (first|exact trivial|((first|refine kL ?_|(refine ⟨fun hb=>?_,fun hb=>?_⟩<;>(try simp only [nrm] at hb)<;>(try (first|(exfalso;omega)|contradiction|exact kB hb)))|refine kW cfg_ok ?_|refine kC ?_|refine bdA ?_|refine bd2 ?_|refine bdR ?_|refine bdL ?_)<;>(conv=>whnf))|(refine And.intro ?_ ?_;rotate_left;(conv=>whnf);rotate_right))
     all_goals (try rw [hn1 (by omega)])
     · rfl
     · rfl
     · rw [List.take_length];exact List.take_of_length_le (by rw [List.length_append];exact Nat.le_refl _)
open Go Go.RowKit Eng
def getF : Nat → List Int → Option (Nat × Nat)
 | _,[]=>none
 | 0,b :: _=>if b < 2 then some (b.toNat,1) else none
 | f + 1,b :: r=>if b < 128 then some (b.toNat,1) else match getF f r with
   | some (n,k)=>if n = 0 then none else some ((b - 128).toNat + 128 * n,k + 1)
   | none=>none
theorem getF_uintF : ∀ (f n : Nat) (r : List Int),n < 2 * 128 ^ f → getF f (uintF f n ++ r) = some (n,(uintF f n).length):=by
 intro f
 induction f with
 | zero =>
   intro n r h
   show (if (n : Int) < 2 then some ((n : Int).toNat,1) else none) = some (n,1)
   rw [if_pos (by omega),Int.toNat_natCast]
 | succ f ih =>
   intro n r h
   rw [Nat.pow_succ] at h
   by_cases hn : n < 128
   · have e : uintF (f + 1) n = [(n : Int)]:=if_pos hn
     rw [e]
     show (if (n : Int) < 128 then some ((n : Int).toNat,1) else _) = some (n,1)
     rw [if_pos (by omega),Int.toNat_natCast]
   · have e : uintF (f + 1) n = ((n % 128 + 128 : Nat) : Int) :: uintF f (n / 128):=if_neg hn
     have h2:=ih (n / 128) r (by omega)
     rw [e]
     show (if ((n % 128 + 128 : Nat) : Int) < 128 then _ else match getF f (uintF f (n / 128) ++ r) with
       | some (m,k)=>if m = 0 then none else some ((((n % 128 + 128 : Nat) : Int) - 128).toNat + 128 * m,k + 1)
       | none=>none) = some (n,(uintF f (n / 128)).length + 1)
     rw [if_neg (by omega),h2]
     show (if n / 128 = 0 then none else some ((((n % 128 + 128 : Nat) : Int) - 128).toNat + 128 * (n / 128),(uintF f (n / 128)).length + 1)) = _
     rw [if_neg (by omega),show (((n % 128 + 128 : Nat) : Int) - 128).toNat + 128 * (n / 128) = n by omega]
theorem uintF_getF : ∀ (f : Nat) (l : List Int) (n k : Nat),okU8 l → getF f l = some (n,k) → l.take k = uintF f n ∧ k = (uintF f n).length ∧ k ≤ l.length ∧ n < 2 * 128 ^ f:=by
 intro f
 induction f with
 | zero =>
   intro l n k hl h
   match l,h with
   | b :: r,h =>
     have hb:=hl b (List.mem_cons_self ..)
     change (if b < 2 then some (b.toNat,1) else none) = some (n,k) at h
     by_cases h2 : b < 2
     · rw [if_pos h2] at h
       cases h
       refine ⟨?_,rfl,by simp,by omega⟩
       show [b] = [((b.toNat : Nat) : Int)]
       rw [Int.toNat_of_nonneg hb.1]
     · rw [if_neg h2] at h;cases h
 | succ f ih =>
   intro l n k hl h
   match l,h with
   | b :: r,h =>
     have hb:=hl b (List.mem_cons_self ..)
     change (if b < 128 then some (b.toNat,1) else match getF f r with
       | some (m,j)=>if m = 0 then none else some ((b - 128).toNat + 128 * m,j + 1)
       | none=>none) = some (n,k) at h
     by_cases h2 : b < 128
     · rw [if_pos h2] at h
       cases h
       have e : uintF (f + 1) b.toNat = [((b.toNat : Nat) : Int)]:=if_pos (by omega)
       have hp : 1 ≤ 128 ^ f:=Nat.one_le_pow _ _ (by decide)
       rw [e,Nat.pow_succ]
       refine ⟨?_,rfl,by simp,by omega⟩
       show [b] = [((b.toNat : Nat) : Int)]
       rw [Int.toNat_of_nonneg hb.1]
     · rw [if_neg h2] at h
       cases hg : getF f r with
       | none=>rw [hg] at h;cases h
       | some p =>
         obtain ⟨m,j⟩:=p
         rw [hg] at h
         obtain ⟨h3,h4,h5,h6⟩:=ih r m j (fun i hi=>hl i (List.mem_cons_of_mem _ hi)) hg
         by_cases hm : m = 0
         · rw [hm] at h;cases h
         · change (if m = 0 then none else some ((b - 128).toNat + 128 * m,j + 1)) = some (n,k) at h
           rw [if_neg hm] at h
           cases h
           have e : uintF (f + 1) ((b - 128).toNat + 128 * m) = ((((b - 128).toNat + 128 * m) % 128 + 128 : Nat) : Int) :: uintF f (((b - 128).toNat + 128 * m) / 128):=if_neg (by omega)
           have e1 : ((b - 128).toNat + 128 * m) / 128 = m:=by omega
           have e2 : ((b - 128).toNat + 128 * m) % 128 + 128 = b.toNat:=by omega
           rw [e,e1,e2,Int.toNat_of_nonneg hb.1,Nat.pow_succ]
           refine ⟨?_,?_,?_,by omega⟩
           · rw [List.take_succ_cons,h3]
           · rw [List.length_cons,h4]
           · rw [List.length_cons];omega
open Go Go.RowKit Eng
theorem uint_evz (l : List (El .u8)) (len : Nat) (z : Int) (hlen : len = l.length) (h0 : 0 ≤ z) (hz : z < 9223372036854775808) (hl : l.length + 10 ≤ 140737488355328) : Ev1 Try.prog 28 [.own .u8 1 0 len none,.lit (.int .u64 z)] [(1,.row .u8 l)] (.own .u8 390001 0 (len + (uintL z.toNat).length) none) [(390001,.row .u8 (l ++ uintL z.toNat))]:=by
 obtain ⟨n,rfl⟩ : ∃ n : Nat,z = (n : Int):=⟨z.toNat,by omega⟩
 subst hlen
 exact uint_ev l n (by omega) hl
def okN (z : Int) : Prop:=0 ≤ z ∧ z < 9223372036854775808
theorem okN.le {z : Int} (h : okN z) : z ≤ 18446744073709551615:=by have:=h.2;omega
def putY (ns : List Int) : List Int:=ns.flatMap fun z=>uintL z.toNat
theorem putY_len (ns : List Int) : (putY ns).length ≤ ns.length * 10:=by
 induction ns with
 | nil=>simp [putY]
 | cons a r ih=>simp only [putY,List.flatMap_cons,List.length_append,List.length_cons] at *;have:=uintF_len 9 a.toNat;unfold uintL at *;omega
theorem putY_take {ns : List Int} {k : Nat} (h : k < ns.length) : putY (ns.take (k + 1)) = putY (ns.take k) ++ uintL (elt .i64 ns k).toNat:=by
 have:=elt_get .i64 ns k h
 rw [List.take_add_one,this]
 simp [putY]
theorem put_ev (l : List (El .u8)) (len : Nat) (ns : List (El .i64)) (n : Nat) (hn : n = ns.length) (hlen : len = l.length) (hns : ∀ z ∈ ns,okN z) (hl : l.length + ns.length * 10 + 10 ≤ 140737488355328) :
   Ev1 Try.prog 27 [.own .i64 3 0 n (some n),.ptr 0 0] [(0,.box [.own .u8 1 0 len none]),(1,.row .u8 l),(3,.row .i64 ns)] (.tup []) [(0,.box [.own .u8 390001 0 (len + (putY ns).length) none]),(390001,.row .u8 (l ++ putY ns))]:=by
 subst hn
 subst hlen
 refine Ev1.of_fin cfg_ok Try.func27 rfl (nt:=14) rfl rfl rfl ?_
 conv=>whnf
 refine Runs.loopS cfg_ok (σ:=Nat) [1,5,6,7] (fun k=>[.ptr 0 0,.own .i64 3 0 ns.length none,i64 ns.length,i64 k]) (fun k=>[(0,.box [.own .u8 350001 0 (l.length + (putY (ns.take k)).length) none]),(350001,.row .u8 (l ++ putY (ns.take k))),(3,.row .i64 ns)])
   (fun k=>k ≤ ns.length) (fun k=>ns.length - k) 0 (by omega) ?_ ?_
 · conv=>whnf
   repeat' (first|exact trivial|((first|refine kL ?_|(refine ⟨fun hb=>?_,fun hb=>?_⟩<;>(try simp only [nrm] at hb)<;>(try (first|(exfalso;omega)|contradiction|exact kB hb)))|refine kW cfg_ok ?_|refine kC ?_|refine bdA ?_|refine bd2 ?_|refine bdR ?_|refine bdL ?_)<;>(conv=>whnf))|(refine And.intro ?_ ?_;rotate_left;(conv=>whnf);rotate_right))
   all_goals first|rfl|(simp [putY];done)
 · intro k hk
   by_cases hlt : k < ns.length
   · have hz:=hns _ (elt_mem (t:=.i64) hlt)
     have hz2:=hz.le
     have hpl:=putY_len (ns.take k)
     rw [List.length_take] at hpl
     conv=>whnf
     repeat' (first|exact trivial|((first|refine kL ?_|(refine ⟨fun hb=>?_,fun hb=>?_⟩<;>(try simp only [nrm] at hb)<;>(try (first|(exfalso;omega)|contradiction|exact kB hb)))|(refine isE 28 ?_;refine kE (uint_evz (l ++ putY (ns.take k)) _ (elt .i64 ns k) (by rw [List.length_append]) hz.1 hz.2 (by rw [List.length_append];omega)) [(1,350001),(390001,350003)] rfl ?_)|(refine isD 28 ?_;refine kF (uint_evz (l ++ putY (ns.take k)) _ (elt .i64 ns k) (by rw [List.length_append]) hz.1 hz.2 (by rw [List.length_append];omega)) [(1,350001),(390001,350003)] rfl ?_)|(refine .inl ⟨inU64 hz.1 hz2,?_⟩)|refine kW cfg_ok ?_|refine kC ?_|refine bdA ?_|refine bd2 ?_|refine bdR ?_|refine bdL ?_)<;>(conv=>whnf))|(refine And.intro ?_ ?_;rotate_left;(conv=>whnf);rotate_right))
     refine .to (k + 1) hlt (by omega) ?_
     have hpt:=putY_take hlt
     conv=>whnf
     repeat' (first|exact trivial|((first|refine kL ?_|(refine ⟨fun hb=>?_,fun hb=>?_⟩<;>(try simp only [nrm] at hb)<;>(try (first|(exfalso;omega)|contradiction|exact kB hb)))|refine kW cfg_ok ?_|refine kC ?_|refine bdA ?_|refine bd2 ?_|refine bdR ?_|refine bdL ?_)<;>(conv=>whnf))|(refine And.intro ?_ ?_;rotate_left;(conv=>whnf);rotate_right))
     all_goals (try rw [hpt])
     · exact List.take_length
     · rw [List.length_append,Nat.add_assoc]
     · rw [List.append_assoc];exact List.take_of_length_le (by simp only [List.length_append];omega)
   · obtain rfl : k = ns.length:=by omega
     rw [List.take_length]
     conv=>whnf
     repeat' (first|exact trivial|((first|refine kL ?_|(refine ⟨fun hb=>?_,fun hb=>?_⟩<;>(try simp only [nrm] at hb)<;>(try (first|(exfalso;omega)|contradiction|exact kB hb)))|refine kW cfg_ok ?_|refine kC ?_|refine bdA ?_|refine bd2 ?_|refine bdR ?_|refine bdL ?_)<;>(conv=>whnf))|(refine And.intro ?_ ?_;rotate_left;(conv=>whnf);rotate_right))
     all_goals first|rfl|exact List.take_length|(refine List.take_of_length_le ?_;first|exact Nat.le_refl _|(rw [List.length_append];exact Nat.le_refl _))
theorem put_nil (ns : List (El .i64)) (n : Nat) (hn : n = ns.length) (hns : ∀ z ∈ ns,okN z) (hl : ns.length * 10 + 10 ≤ 140737488355328) :
   Ev1 Try.prog 27 [.own .i64 3 0 n (some n),.ptr 0 0] [(0,.box [.lit (.slice none 0 0)]),(3,.row .i64 ns)] (.tup []) [(0,.box [.own .u8 390001 0 (putY ns).length none]),(390001,.row .u8 (putY ns))]:=by
 subst hn
 refine Ev1.of_fin cfg_ok Try.func27 rfl (nt:=14) rfl rfl rfl ?_
 conv=>whnf
 refine Runs.loopS cfg_ok (σ:=Nat) [1,5,6,7] (fun k=>[.ptr 0 0,.own .i64 3 0 ns.length none,i64 ns.length,i64 k]) (fun k=>[(0,.box [.own .u8 350001 0 (putY (ns.take k)).length none]),(350001,.row .u8 (putY (ns.take k))),(3,.row .i64 ns)])
   (fun k=>k ≤ ns.length) (fun k=>ns.length - k) 0 (by omega) ?_ ?_
 · conv=>whnf
   repeat' (first|exact trivial|((first|refine kL ?_|(refine ⟨fun hb=>?_,fun hb=>?_⟩<;>(try simp only [nrm] at hb)<;>(try (first|(exfalso;omega)|contradiction|exact kB hb)))|refine kW cfg_ok ?_|refine kC ?_|refine bdA ?_|refine bd2 ?_|refine bdR ?_|refine bdL ?_)<;>(conv=>whnf))|(refine And.intro ?_ ?_;rotate_left;(conv=>whnf);rotate_right))
   all_goals first|rfl|(simp [putY];done)
 · intro k hk
   by_cases hlt : k < ns.length
   · have hz:=hns _ (elt_mem (t:=.i64) hlt)
     have hz2:=hz.le
     have hpl:=putY_len (ns.take k)
     rw [List.length_take] at hpl
     conv=>whnf
     repeat' (first|exact trivial|((first|refine kL ?_|(refine ⟨fun hb=>?_,fun hb=>?_⟩<;>(try simp only [nrm] at hb)<;>(try (first|(exfalso;omega)|contradiction|exact kB hb)))|(refine isE 28 ?_;refine kE (uint_evz (putY (ns.take k)) _ (elt .i64 ns k) rfl hz.1 hz.2 (by omega)) [(1,350001),(390001,350003)] rfl ?_)|(refine isD 28 ?_;refine kF (uint_evz (putY (ns.take k)) _ (elt .i64 ns k) rfl hz.1 hz.2 (by omega)) [(1,350001),(390001,350003)] rfl ?_)|(refine .inl ⟨inU64 hz.1 hz2,?_⟩)|refine kW cfg_ok ?_|refine kC ?_|refine bdA ?_|refine bd2 ?_|refine bdR ?_|refine bdL ?_)<;>(conv=>whnf))|(refine And.intro ?_ ?_;rotate_left;(conv=>whnf);rotate_right))
     refine .to (k + 1) hlt (by omega) ?_
     have hpt:=putY_take hlt
     conv=>whnf
     repeat' (first|exact trivial|((first|refine kL ?_|(refine ⟨fun hb=>?_,fun hb=>?_⟩<;>(try simp only [nrm] at hb)<;>(try (first|(exfalso;omega)|contradiction|exact kB hb)))|refine kW cfg_ok ?_|refine kC ?_|refine bdA ?_|refine bd2 ?_|refine bdR ?_|refine bdL ?_)<;>(conv=>whnf))|(refine And.intro ?_ ?_;rotate_left;(conv=>whnf);rotate_right))
     all_goals (try rw [hpt])
     · exact List.take_length
     · rw [List.length_append]
     · exact List.take_of_length_le (by simp only [List.length_append];omega)
   · obtain rfl : k = ns.length:=by omega
     rw [List.take_length]
     conv=>whnf
     repeat' (first|exact trivial|((first|refine kL ?_|(refine ⟨fun hb=>?_,fun hb=>?_⟩<;>(try simp only [nrm] at hb)<;>(try (first|(exfalso;omega)|contradiction|exact kB hb)))|refine kW cfg_ok ?_|refine kC ?_|refine bdA ?_|refine bd2 ?_|refine bdR ?_|refine bdL ?_)<;>(conv=>whnf))|(refine And.intro ?_ ?_;rotate_left;(conv=>whnf);rotate_right))
     all_goals first|rfl|exact List.take_length|(refine List.take_of_length_le ?_;first|exact Nat.le_refl _|(rw [List.length_append];exact Nat.le_refl _))
open Go Go.RowKit Eng
theorem rightGo_boxes : ∀ (l : List Int) (k : Nat) (bs : List Box),rightGo l k bs = some [] → bs.length ≤ l.length ∧ ∀ b ∈ bs,b.bag.length = 6 ∧ bagOk b.bag = true
 | [],k,bs,h=>by simp [rightGo] at h;subst h;simp
 | i :: r,k,bs,h=>by
   simp only [rightGo] at h
   split at h
   · split at h
     · cases bs with
       | nil=>cases h
       | cons b bs =>
         simp only at h
         split at h
         · rename_i hb
           obtain ⟨h1,h2⟩:=rightGo_boxes r (k + 1) bs h
           have hbk : b.bag.length = 6 ∧ bagOk b.bag = true:=by simp only [boxAt,Bool.and_eq_true,beq_iff_eq,decide_eq_true_eq] at hb;exact ⟨by omega,hb.2.2⟩
           refine ⟨by simp only [List.length_cons];omega,fun x hx=>?_⟩
           rcases List.mem_cons.1 hx with rfl|hx
           · exact hbk
           · exact h2 x hx
         · cases h
     · obtain ⟨h1,h2⟩:=rightGo_boxes r (k + 1) bs h
       exact ⟨by simp only [List.length_cons];omega,h2⟩
   · cases h
theorem stackN_le (i : Int) : stackN i ≤ 16:=by unfold stackN;(repeat' split)<;>omega
theorem okN_slot {s : Slot} (h : badSlot s = false) : 0 ≤ s.n ∧ s.n ≤ 16:=by
 have:=stackN_le s.item
 simp only [badSlot,Bool.and_eq_false_iff,Bool.or_eq_false_iff,Bool.not_eq_false',Bool.and_eq_true,beq_iff_eq,decide_eq_false_iff_not] at h
 omega
theorem okN_heap {h : Heap} (hb : badHeap h = false) : 0 ≤ h.cell ∧ h.cell < 64 ∧ 1 ≤ h.slot.n ∧ h.slot.n ≤ 16:=by
 have:=stackN_le h.slot.item
 simp only [badHeap,someB,Bool.or_eq_false_iff,Bool.not_eq_false',Bool.and_eq_true,decide_eq_true_eq] at hb
 omega
theorem any_false {α : Type} {p : α → Bool} {l : List α} (h : l.any p = false) {a : α} (ha : a ∈ l) : p a = false:=by
 cases hp : p a with
 | false=>rfl
 | true=>rw [List.any_eq_true.2 ⟨a,ha,hp⟩] at h;cases h
def heapL (h : Heap) : List Int:=putY [h.cell,h.slot.item,h.slot.n]
def slotL (s : Slot) : List Int:=putY [s.item,s.n]
def boxL (b : Box) : List Int:=b.bag.flatMap slotL
def bytesC (c : Chunk) : List Int:=((putY [c.x,c.y] ++ c.cells) ++ putY [(c.heaps.length : Int)]) ++ c.heaps.flatMap heapL ++ c.boxes.flatMap boxL
theorem flatMap_len {α : Type} (f : α → List Int) (m : Nat) : ∀ (l : List α),(∀ a ∈ l,(f a).length ≤ m) → (l.flatMap f).length ≤ l.length * m
 | [],_=>by simp
 | a :: r,h=>by
   simp only [List.flatMap_cons,List.length_append,List.length_cons,Nat.succ_mul]
   have:=h a (by simp)
   have:=flatMap_len f m r (fun x hx=>h x (by simp [hx]))
   omega
theorem app_next (P : List Int) (l : List Int) (k : Nat) (h : k < l.length) : List.take (P.length + k + 1) (List.take (P.length + k) (P ++ l.take k) ++ [elt .u8 l k]) = P ++ l.take (k + 1):=by
 have h1 : (P ++ l.take k).length = P.length + k:=by simp;omega
 rw [← h1,List.take_length,List.take_of_length_le (by simp only [List.length_append,List.length_cons,List.length_nil];omega)]
 have:=elt_get .u8 l k h
 rw [List.take_add_one,this]
 simp
theorem flatMap_take {t : Ty} {l : List (El t)} (f : El t → List Int) {k : Nat} (h : k < l.length) : (l.take (k + 1)).flatMap f = (l.take k).flatMap f ++ f (elt t l k):=by
 have:=elt_get t l k h
 rw [List.take_add_one,this]
 simp
theorem heapL_len (h : Heap) : (heapL h).length ≤ 30:=putY_len _
theorem slotL_len (s : Slot) : (slotL s).length ≤ 20:=putY_len _
theorem grow_len {t : Ty} {l : List (El t)} {f : El t → List Int} {k : Nat} (Q : List Int) (h : k < l.length) {v : List Int} (hv : f (elt t l k) = v) : Q.length + ((l.take k).flatMap f).length + v.length = Q.length + ((l.take (k + 1)).flatMap f).length:=by
 rw [flatMap_take f h,hv,List.length_append,Nat.add_assoc]
theorem grow_row {t : Ty} {l : List (El t)} {f : El t → List Int} {k : Nat} (Q : List Int) (h : k < l.length) {v : List Int} (hv : f (elt t l k) = v) : List.take (Q.length + ((l.take k).flatMap f).length + v.length) (Q ++ (l.take k).flatMap f ++ v) = Q ++ (l.take (k + 1)).flatMap f:=by
 rw [flatMap_take f h,hv,List.take_of_length_le (by simp only [List.length_append];omega),List.append_assoc]
theorem bytes_api (c : Chunk) (hc : OkC c) : Api Try.prog 8 [chunkV c] (.tup [.vec .u8 (if rightB c = true then bytesC c else []),i64 (if rightB c = true then 0 else 101)]):=by
 have hrt:=cright_api c hc
 cases hR : rightB c with
 | false =>
   rw [hR] at hrt
   rw [if_neg (by simp),if_neg (by simp)]
   refine Api.of_fin cfg_ok Try.func8 rfl (nt:=87) rfl rfl ?_
   conv=>whnf
   repeat' (first|exact trivial|((first|refine kL ?_|(refine ⟨fun hb=>?_,fun hb=>?_⟩<;>(try simp only [nrm] at hb)<;>(try (first|(exfalso;omega)|contradiction|exact kB hb)))|refine kA hrt ?_|refine kD hrt ?_|refine kW cfg_ok ?_|refine kC ?_|refine bdA ?_|refine bd2 ?_|refine bdR ?_|refine bdL ?_)<;>(conv=>whnf))|(refine And.intro ?_ ?_;rotate_left;(conv=>whnf);rotate_right))
 | true =>
   rw [hR] at hrt
   rw [if_pos rfl,if_pos rfl]
   have hRC:=rightC_of hR
   have hlen:=hRC.len
   have hH:=hRC.head
   simp only [headB,Bool.and_eq_true,decide_eq_true_eq] at hH
   obtain ⟨hx0,hy0,hx1,hy1,-,hh32⟩:=hH
   obtain ⟨hbl,hbx⟩:=rightGo_boxes _ _ _ hRC.go
   refine Api.of_fin cfg_ok Try.func8 rfl (nt:=87) rfl rfl ?_
   conv=>whnf
   have hp0 : (putY [c.x,c.y]).length ≤ 20:=putY_len _
   have hp1 : (putY [(c.heaps.length : Int)]).length ≤ 10:=putY_len _
   generalize hP0 : putY [c.x,c.y] = P0 at *
   repeat' (first|exact trivial|((first|refine kL ?_|(refine ⟨fun hb=>?_,fun hb=>?_⟩<;>(try simp only [nrm] at hb)<;>(try (first|(exfalso;omega)|contradiction|exact kB hb)))|refine kE (hP0 ▸ put_nil [c.x,c.y] _ rfl (by simp [okN];omega) (by simp)) [(0,8),(3,47),(390001,150001)] rfl ?_|refine kF (hP0 ▸ put_nil [c.x,c.y] _ rfl (by simp [okN];omega) (by simp)) [(0,8),(3,47),(390001,150001)] rfl ?_|refine kA hrt ?_|refine kD hrt ?_|refine kW cfg_ok ?_|refine kC ?_|refine bdA ?_|refine bd2 ?_|refine bdR ?_|refine bdL ?_)<;>(conv=>whnf))|(refine And.intro ?_ ?_;rotate_left;(conv=>whnf);rotate_right))
   refine Runs.loopS cfg_ok (σ:=Nat) [1,4,5,26,27,28] (fun k=>[.ptr 2 0,.ptr 8 0,.clo (.func 27) [] [.ptr 8 0],.vec .u8 c.cells,i64 c.cells.length,i64 k]) (fun k=>[(2,.box (chunkC c)),(8,.box [.own .u8 150001 0 (P0.length + k) none]),(150001,.row .u8 (P0 ++ c.cells.take k))])
     (fun k=>k ≤ c.cells.length) (fun k=>c.cells.length - k) 0 (by omega) ?_ ?_
   · conv=>whnf
     repeat' (first|exact trivial|((first|refine kL ?_|(refine ⟨fun hb=>?_,fun hb=>?_⟩<;>(try simp only [nrm] at hb)<;>(try (first|(exfalso;omega)|contradiction|exact kB hb)))|refine kW cfg_ok ?_|refine kC ?_|refine bdA ?_|refine bd2 ?_|refine bdR ?_|refine bdL ?_)<;>(conv=>whnf))|(refine And.intro ?_ ?_;rotate_left;(conv=>whnf);rotate_right))
     all_goals first|rfl|exact List.take_length|(simp;done)
   · intro k hk
     by_cases hlt : k < c.cells.length
     · conv=>whnf
       repeat' (first|exact trivial|((first|refine kL ?_|(refine ⟨fun hb=>?_,fun hb=>?_⟩<;>(try simp only [nrm] at hb)<;>(try (first|(exfalso;omega)|contradiction|exact kB hb)))|refine kW cfg_ok ?_|refine kC ?_|refine bdA ?_|refine bd2 ?_|refine bdR ?_|refine bdL ?_)<;>(conv=>whnf))|(refine And.intro ?_ ?_;rotate_left;(conv=>whnf);rotate_right))
       refine .to (k + 1) hlt (by omega) ?_
       conv=>whnf
       repeat' (first|exact trivial|((first|refine kL ?_|(refine ⟨fun hb=>?_,fun hb=>?_⟩<;>(try simp only [nrm] at hb)<;>(try (first|(exfalso;omega)|contradiction|exact kB hb)))|refine kW cfg_ok ?_|refine kC ?_|refine bdA ?_|refine bd2 ?_|refine bdR ?_|refine bdL ?_)<;>(conv=>whnf))|(refine And.intro ?_ ?_;rotate_left;(conv=>whnf);rotate_right))
       exact app_next P0 c.cells k hlt
     · obtain rfl : k = c.cells.length:=by omega
       rw [List.take_length]
       conv=>whnf
       repeat' (first|exact trivial|((first|refine kL ?_|(refine ⟨fun hb=>?_,fun hb=>?_⟩<;>(try simp only [nrm] at hb)<;>(try (first|(exfalso;omega)|contradiction|exact kB hb)))|refine kE (put_ev (P0 ++ c.cells) _ [(c.heaps.length : Int)] _ rfl (by rw [List.length_append]) (by simp [okN];omega) (by simp;omega)) [(0,8),(1,150001),(3,83),(390001,150003)] rfl ?_|refine kF (put_ev (P0 ++ c.cells) _ [(c.heaps.length : Int)] _ rfl (by rw [List.length_append]) (by simp [okN];omega) (by simp;omega)) [(0,8),(1,150001),(3,83),(390001,150003)] rfl ?_|refine kW cfg_ok ?_|refine kC ?_|refine bdA ?_|refine bd2 ?_|refine bdR ?_|refine bdL ?_)<;>(conv=>whnf))|(refine And.intro ?_ ?_;rotate_left;(conv=>whnf);rotate_right))
       generalize hP1 : putY [(c.heaps.length : Int)] = P1 at *
       have hQl : (P0 ++ c.cells ++ P1).length ≤ 94:=by simp only [List.length_append];omega
       have hQe : P0.length + c.cells.length + P1.length = (P0 ++ c.cells ++ P1).length:=by simp only [List.length_append]
       refine Runs.loopS cfg_ok (σ:=Nat) [1,4,5,44,45,46] (fun k=>[.ptr 2 0,.ptr 8 0,.clo (.func 27) [] [.ptr 8 0],.vec .heap c.heaps,i64 c.heaps.length,i64 k]) (fun k=>[(2,.box (chunkC c)),(8,.box [.own .u8 150003 0 ((P0 ++ c.cells ++ P1).length + ((c.heaps.take k).flatMap heapL).length) none]),(150003,.row .u8 (P0 ++ c.cells ++ P1 ++ (c.heaps.take k).flatMap heapL))])
         (fun k=>k ≤ c.heaps.length) (fun k=>c.heaps.length - k) 0 (by omega) ?_ ?_
       · conv=>whnf
         repeat' (first|exact trivial|((first|refine kL ?_|(refine ⟨fun hb=>?_,fun hb=>?_⟩<;>(try simp only [nrm] at hb)<;>(try (first|(exfalso;omega)|contradiction|exact kB hb)))|refine kW cfg_ok ?_|refine kC ?_|refine bdA ?_|refine bd2 ?_|refine bdR ?_|refine bdL ?_)<;>(conv=>whnf))|(refine And.intro ?_ ?_;rotate_left;(conv=>whnf);rotate_right))
         · show _ = _ + (List.flatMap heapL (List.take 0 c.heaps)).length
           rw [hQe];rfl
         · rw [hQe,List.take_length];simp
       · intro k hk
         have hfl:=flatMap_len heapL 30 (c.heaps.take k) (fun a _=>heapL_len a)
         rw [List.length_take] at hfl
         generalize hQ : P0 ++ c.cells ++ P1 = Q at *
         by_cases hlt : k < c.heaps.length
         · obtain ⟨ha1,ha2,ha3,ha4⟩:=okN_heap (any_false hRC.heaps (elt_mem (t:=.heap) hlt))
           obtain ⟨hb1,hb2⟩ : 0 ≤ (elt .heap c.heaps k).slot.item ∧ (elt .heap c.heaps k).slot.item ≤ 255:=hc.heaps _ (elt_mem (t:=.heap) hlt)
           have hi1 : -9223372036854775808 ≤ (elt .heap c.heaps k).slot.item:=by omega
           have hi2 : (elt .heap c.heaps k).slot.item ≤ 9223372036854775807:=by omega
           have hok : ∀ z ∈ [(elt .heap c.heaps k).cell,(elt .heap c.heaps k).slot.item,(elt .heap c.heaps k).slot.n],okN z:=by
             intro z hz
             simp only [List.mem_cons,List.not_mem_nil,or_false] at hz
             rcases hz with rfl|rfl|rfl<;>(unfold okN;omega)
           have hput:=put_ev (Q ++ (c.heaps.take k).flatMap heapL) _ [(elt .heap c.heaps k).cell,(elt .heap c.heaps k).slot.item,(elt .heap c.heaps k).slot.n] _ rfl (by rw [List.length_append]) hok (by simp only [List.length_append,List.length_cons,List.length_nil];omega)
           conv=>whnf
           repeat' (first|exact trivial|((first|refine kL ?_|(refine ⟨fun hb=>?_,fun hb=>?_⟩<;>(try simp only [nrm] at hb)<;>(try (first|(exfalso;omega)|contradiction|exact kB hb)))|refine kE hput [(0,8),(1,150003),(3,121),(390001,150005)] rfl ?_|refine kF hput [(0,8),(1,150003),(3,121),(390001,150005)] rfl ?_|(refine .inl ⟨in64 hi1 hi2,?_⟩)|refine kW cfg_ok ?_|refine kC ?_|refine bdA ?_|refine bd2 ?_|refine bdR ?_|refine bdL ?_)<;>(conv=>whnf))|(refine And.intro ?_ ?_;rotate_left;(conv=>whnf);rotate_right))
           refine .to (k + 1) hlt (by omega) ?_
           conv=>whnf
           repeat' (first|exact trivial|((first|refine kL ?_|(refine ⟨fun hb=>?_,fun hb=>?_⟩<;>(try simp only [nrm] at hb)<;>(try (first|(exfalso;omega)|contradiction|exact kB hb)))|refine kW cfg_ok ?_|refine kC ?_|refine bdA ?_|refine bd2 ?_|refine bdR ?_|refine bdL ?_)<;>(conv=>whnf))|(refine And.intro ?_ ?_;rotate_left;(conv=>whnf);rotate_right))
           · exact grow_len (t:=.heap) (f:=heapL) Q hlt rfl
           · exact grow_row (t:=.heap) (f:=heapL) Q hlt rfl
         · obtain rfl : k = c.heaps.length:=by omega
           rw [List.take_length] at hfl ⊢
           have hSl : (Q ++ c.heaps.flatMap heapL).length ≤ 1054:=by rw [List.length_append];omega
           have hSe : Q.length + (c.heaps.flatMap heapL).length = (Q ++ c.heaps.flatMap heapL).length:=by rw [List.length_append]
           rw [hSe]
           generalize hS : Q ++ c.heaps.flatMap heapL = S at *
           clear hSe
           conv=>whnf
           repeat' (first|exact trivial|((first|refine kL ?_|(refine ⟨fun hb=>?_,fun hb=>?_⟩<;>(try simp only [nrm] at hb)<;>(try (first|(exfalso;omega)|contradiction|exact kB hb)))|refine kW cfg_ok ?_|refine kC ?_|refine bdA ?_|refine bd2 ?_|refine bdR ?_|refine bdL ?_)<;>(conv=>whnf))|(refine And.intro ?_ ?_;rotate_left;(conv=>whnf);rotate_right))
           refine Runs.loopS cfg_ok (σ:=Nat) [4,5,64,65,66] (fun k=>[.ptr 8 0,.clo (.func 27) [] [.ptr 8 0],.vec .box c.boxes,i64 c.boxes.length,i64 k]) (fun k=>[(8,.box [.own .u8 150003 0 (S.length + ((c.boxes.take k).flatMap boxL).length) none]),(150003,.row .u8 (S ++ (c.boxes.take k).flatMap boxL))])
             (fun k=>k ≤ c.boxes.length) (fun k=>c.boxes.length - k) 0 (by omega) ?_ ?_
           · conv=>whnf
             repeat' (first|exact trivial|((first|refine kL ?_|(refine ⟨fun hb=>?_,fun hb=>?_⟩<;>(try simp only [nrm] at hb)<;>(try (first|(exfalso;omega)|contradiction|exact kB hb)))|refine kW cfg_ok ?_|refine kC ?_|refine bdA ?_|refine bd2 ?_|refine bdR ?_|refine bdL ?_)<;>(conv=>whnf))|(refine And.intro ?_ ?_;rotate_left;(conv=>whnf);rotate_right))
             all_goals first|rfl|(rw [List.take_length];simp;done)
           · intro k hk
             have hfl2:=flatMap_len boxL 120 (c.boxes.take k) (fun a ha=>by
               have h6:=(hbx a (List.mem_of_mem_take ha)).1
               have:=flatMap_len slotL 20 a.bag (fun s _=>slotL_len s)
               unfold boxL
               omega)
             rw [List.length_take] at hfl2
             by_cases hlt : k < c.boxes.length
             · obtain ⟨h6,hbag⟩:=hbx _ (elt_mem (t:=.box) hlt)
               conv=>whnf
               repeat' (first|exact trivial|((first|refine kL ?_|(refine ⟨fun hb=>?_,fun hb=>?_⟩<;>(try simp only [nrm] at hb)<;>(try (first|(exfalso;omega)|contradiction|exact kB hb)))|refine kW cfg_ok ?_|refine kC ?_|refine bdA ?_|refine bd2 ?_|refine bdR ?_|refine bdL ?_)<;>(conv=>whnf))|(refine And.intro ?_ ?_;rotate_left;(conv=>whnf);rotate_right))
               generalize hT : S ++ (c.boxes.take k).flatMap boxL = T at *
               have hTe : S.length + ((c.boxes.take k).flatMap boxL).length = T.length:=by rw [← hT,List.length_append]
               rw [hTe]
               have hTl : T.length ≤ 10000:=by omega
               refine Runs.loopS cfg_ok (σ:=Nat) [4,5,64,65,66,71,72,73] (fun j=>[.ptr 8 0,.clo (.func 27) [] [.ptr 8 0],.vec .box c.boxes,i64 c.boxes.length,i64 k,.vec .slot (elt .box c.boxes k).bag,i64 (elt .box c.boxes k).bag.length,i64 j]) (fun j=>[(8,.box [.own .u8 150003 0 (T.length + (((elt .box c.boxes k).bag.take j).flatMap slotL).length) none]),(150003,.row .u8 (T ++ ((elt .box c.boxes k).bag.take j).flatMap slotL))])
                 (fun j=>j ≤ (elt .box c.boxes k).bag.length) (fun j=>(elt .box c.boxes k).bag.length - j) 0 (by omega) ?_ ?_
               · conv=>whnf
                 repeat' (first|exact trivial|((first|refine kL ?_|(refine ⟨fun hb=>?_,fun hb=>?_⟩<;>(try simp only [nrm] at hb)<;>(try (first|(exfalso;omega)|contradiction|exact kB hb)))|refine kW cfg_ok ?_|refine kC ?_|refine bdA ?_|refine bd2 ?_|refine bdR ?_|refine bdL ?_)<;>(conv=>whnf))|(refine And.intro ?_ ?_;rotate_left;(conv=>whnf);rotate_right))
                 all_goals first|rfl|(rw [List.take_length];simp;done)
               · intro j hj
                 have hfl3:=flatMap_len slotL 20 ((elt .box c.boxes k).bag.take j) (fun s _=>slotL_len s)
                 rw [List.length_take] at hfl3
                 by_cases hlj : j < (elt .box c.boxes k).bag.length
                 · obtain ⟨ha1,ha2⟩:=okN_slot (any_false (by simpa only [bagOk,Bool.not_eq_true'] using hbag) (elt_mem (t:=.slot) hlj))
                   obtain ⟨hb1,hb2⟩ : 0 ≤ (elt .slot (elt .box c.boxes k).bag j).item ∧ (elt .slot (elt .box c.boxes k).bag j).item ≤ 255:=(hc.boxes _ (elt_mem (t:=.box) hlt)).1 _ (elt_mem (t:=.slot) hlj)
                   have hi1 : -9223372036854775808 ≤ (elt .slot (elt .box c.boxes k).bag j).item:=by omega
                   have hi2 : (elt .slot (elt .box c.boxes k).bag j).item ≤ 9223372036854775807:=by omega
                   have hok : ∀ z ∈ [(elt .slot (elt .box c.boxes k).bag j).item,(elt .slot (elt .box c.boxes k).bag j).n],okN z:=by
                     intro z hz
                     simp only [List.mem_cons,List.not_mem_nil,or_false] at hz
                     rcases hz with rfl|rfl<;>(unfold okN;omega)
                   have hput:=put_ev (T ++ ((elt .box c.boxes k).bag.take j).flatMap slotL) _ [(elt .slot (elt .box c.boxes k).bag j).item,(elt .slot (elt .box c.boxes k).bag j).n] _ rfl (by rw [List.length_append]) hok (by simp only [List.length_append,List.length_cons,List.length_nil];omega)
                   conv=>whnf
                   repeat' (first|exact trivial|((first|refine kL ?_|(refine ⟨fun hb=>?_,fun hb=>?_⟩<;>(try simp only [nrm] at hb)<;>(try (first|(exfalso;omega)|contradiction|exact kB hb)))|refine kE hput [(0,8),(1,150003),(3,167),(390001,150005)] rfl ?_|refine kF hput [(0,8),(1,150003),(3,167),(390001,150005)] rfl ?_|(refine .inl ⟨in64 hi1 hi2,?_⟩)|refine kW cfg_ok ?_|refine kC ?_|refine bdA ?_|refine bd2 ?_|refine bdR ?_|refine bdL ?_)<;>(conv=>whnf))|(refine And.intro ?_ ?_;rotate_left;(conv=>whnf);rotate_right))
                   refine .to (j + 1) hlj (by omega) ?_
                   conv=>whnf
                   repeat' (first|exact trivial|((first|refine kL ?_|(refine ⟨fun hb=>?_,fun hb=>?_⟩<;>(try simp only [nrm] at hb)<;>(try (first|(exfalso;omega)|contradiction|exact kB hb)))|refine kW cfg_ok ?_|refine kC ?_|refine bdA ?_|refine bd2 ?_|refine bdR ?_|refine bdL ?_)<;>(conv=>whnf))|(refine And.intro ?_ ?_;rotate_left;(conv=>whnf);rotate_right))
                   · exact grow_len (t:=.slot) (f:=slotL) T hlj rfl
                   · exact grow_row (t:=.slot) (f:=slotL) T hlj rfl
                 · obtain rfl : j = (elt .box c.boxes k).bag.length:=by omega
                   rw [List.take_length]
                   conv=>whnf
                   repeat' (first|exact trivial|((first|refine kL ?_|(refine ⟨fun hb=>?_,fun hb=>?_⟩<;>(try simp only [nrm] at hb)<;>(try (first|(exfalso;omega)|contradiction|exact kB hb)))|refine kW cfg_ok ?_|refine kC ?_|refine bdA ?_|refine bd2 ?_|refine bdR ?_|refine bdL ?_)<;>(conv=>whnf))|(refine And.intro ?_ ?_;rotate_left;(conv=>whnf);rotate_right))
                   refine .to (k + 1) hlt (by omega) ?_
                   conv=>whnf
                   repeat' (first|exact trivial|((first|refine kL ?_|(refine ⟨fun hb=>?_,fun hb=>?_⟩<;>(try simp only [nrm] at hb)<;>(try (first|(exfalso;omega)|contradiction|exact kB hb)))|refine kW cfg_ok ?_|refine kC ?_|refine bdA ?_|refine bd2 ?_|refine bdR ?_|refine bdL ?_)<;>(conv=>whnf))|(refine And.intro ?_ ?_;rotate_left;(conv=>whnf);rotate_right))
                   · rw [← hTe]
                     exact grow_len (t:=.box) (f:=boxL) S hlt rfl
                   · rw [← hTe,← hT]
                     exact grow_row (t:=.box) (f:=boxL) S hlt rfl
             · obtain rfl : k = c.boxes.length:=by omega
               rw [List.take_length]
               conv=>whnf
               repeat' (first|exact trivial|((first|refine kL ?_|(refine ⟨fun hb=>?_,fun hb=>?_⟩<;>(try simp only [nrm] at hb)<;>(try (first|(exfalso;omega)|contradiction|exact kB hb)))|refine kW cfg_ok ?_|refine kC ?_|refine bdA ?_|refine bd2 ?_|refine bdR ?_|refine bdL ?_)<;>(conv=>whnf))|(refine And.intro ?_ ?_;rotate_left;(conv=>whnf);rotate_right))
               show List.drop 0 (List.take (S.length + (c.boxes.flatMap boxL).length) (S ++ c.boxes.flatMap boxL)) = bytesC c
               rw [List.drop_zero,← List.length_append,List.take_length,bytesC,hP0,hP1,hQ,hS]
end Go.Proofs.Ytaecchphjploaaa
