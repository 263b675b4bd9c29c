/- What right chunks, players and worlds give. -/
import Derived.Test.YtaecchphjploaaaGe
import Derived.Test.YtaecchphjploaaaGj
import Derived.Test.YtaecchphjploaaaGd
import Derived.Test.YtaecchphjploaaaGc
import Derived.Test.YtaecchphjploaaaGg
import Derived.Test.YtaecchphjploaaaGi
set_option linter.unusedSimpArgs false
set_option linter.unusedVariables false
set_option maxRecDepth 100000
set_option maxHeartbeats 16000000
namespace Go.Proofs.Ytaecchphjploaaa
open Go Go.RowKit Eng
open Go Go.RowKit Eng
def getB : List Box → Int → Option (List Slot)
 | [],_=>none
 | b :: r,t=>if b.cell = t then some b.bag else getB r t
theorem getB_none {l : List Box} {t : Int} : getB l t = none ↔ ∀ b ∈ l,b.cell ≠ t:=by
 induction l with
 | nil=>simp [getB]
 | cons b r ih =>
   simp only [getB,List.mem_cons,forall_eq_or_imp]
   split
   · rename_i h;simp [h]
   · rename_i h;rw [ih];exact ⟨fun h2=>⟨h,h2⟩,fun h2=>h2.2⟩
theorem getB_mem {l : List Box} {t : Int} {s : List Slot} (h : getB l t = some s) : ∃ b ∈ l,b.cell = t ∧ b.bag = s:=by
 induction l with
 | nil=>simp [getB] at h
 | cons b r ih =>
   simp only [getB] at h
   split at h
   · rename_i hb;exact ⟨b,by simp,hb,by simpa using h⟩
   · obtain ⟨b',h1,h2⟩:=ih h;exact ⟨b',by simp [h1],h2⟩
theorem getB_of_mem {l : List Box} (h : rises l) {b : Box} (hb : b ∈ l) : getB l b.cell = some b.bag:=by
 induction l with
 | nil=>simp at hb
 | cons a r ih =>
   simp only [getB]
   rcases List.mem_cons.1 hb with rfl|hb
   · simp
   · have:=h.1 b hb
     rw [if_neg (by omega)];exact ih h.2 hb
theorem there_get {l : List Box} (h : rises l) (t : Int) : thereB l t = true → getB l t = some (elt .box l (lb t l)).bag:=by
 intro ht
 obtain ⟨hlt,hce⟩:=thereB_lt ht
 have:=getB_of_mem h (elt_mem (t:=.box) hlt)
 rw [hce] at this;exact this
theorem there_none {l : List Box} (h : rises l) (t : Int) : thereB l t = false → getB l t = none:=by
 intro ht
 rw [getB_none]
 intro b hb he
 obtain ⟨i,hi,rfl⟩:=List.mem_iff_getElem.1 hb
 have hel : elt .box l i = l[i]:=by have:=elt_get .box l i hi;rw [List.getElem?_eq_getElem hi] at this;exact (Option.some.inj this).symm
 have hlb : lb t l = i:=lb_eq (by omega) (fun k hk=>by have:=rises_lt h hk hi;rw [hel,he] at this;exact this) (fun _=>by rw [hel,he];exact Int.le_refl _)
 have : thereB l t = true:=by simp only [thereB,hlb,hel,he,Bool.and_eq_true,decide_eq_true_eq,beq_self_eq_true,and_true];exact hi
 rw [this] at ht;cases ht
theorem there_iff {l : List Box} (h : rises l) (t : Int) : thereB l t = (getB l t).isSome:=by
 cases ht : thereB l t with
 | true=>rw [there_get h t ht];rfl
 | false=>rw [there_none h t ht];rfl
def delR (t : Int) : List Box → List Box
 | []=>[]
 | b :: r=>if b.cell < t then b :: delR t r else if b.cell = t then r else b :: r
theorem thereB_cons (b : Box) (r : List Box) (t : Int) : thereB (b :: r) t = if b.cell < t then thereB r t else decide (b.cell = t):=by
 unfold thereB
 simp only [lb]
 split
 · rw [elt_cons];simp
 · rw [elt_zero,Bool.eq_iff_iff];simp
theorem delB_eq (t : Int) : ∀ l : List Box,delB l t = delR t l
 | []=>rfl
 | b :: r=>by
   have ih:=delB_eq t r
   unfold delB at ih ⊢
   rw [thereB_cons]
   simp only [lb,delR]
   split
   · rename_i hb
     rw [← ih]
     split
     · simp
     · rfl
   · rename_i hb
     by_cases he : b.cell = t
     · simp [he]
     · simp [he]
theorem delR_mem {t : Int} : ∀ {l : List Box} {x : Box},x ∈ delR t l → x ∈ l
 | [],x,h=>by simp [delR] at h
 | b :: r,x,h=>by
   simp only [delR] at h
   split at h
   · rcases List.mem_cons.1 h with rfl|h
     · simp
     · simp [delR_mem h]
   · split at h
     · simp [h]
     · exact h
theorem rises_delR {t : Int} : ∀ {l : List Box},rises l → rises (delR t l)
 | [],_=>trivial
 | b :: r,h=>by
   simp only [delR]
   split
   · exact ⟨fun x hx=>h.1 x (delR_mem hx),rises_delR h.2⟩
   · split
     · exact h.2
     · exact h
theorem getB_delR {t u : Int} : ∀ {l : List Box},rises l → getB (delR t l) u = if u = t then none else getB l u
 | [],_=>by simp [delR,getB]
 | b :: r,h=>by
   have ih:=getB_delR (t:=t) (u:=u) h.2
   simp only [delR]
   split
   · rename_i hb
     simp only [getB,ih]
     split
     · rename_i hbu;rw [if_neg (by omega)]
     · rfl
   · split
     · rename_i hbe
       by_cases hu : u = t
       · rw [if_pos hu,getB_none];intro x hx;have:=h.1 x hx;omega
       · rw [if_neg hu];simp only [getB];rw [if_neg (by omega)]
     · rename_i hbt hbe
       by_cases hu : u = t
       · rw [if_pos hu,getB_none]
         intro x hx
         rcases List.mem_cons.1 hx with rfl|hx
         · omega
         · have:=h.1 x hx;omega
       · rw [if_neg hu]
def insR (x : Box) : List Box → List Box
 | []=>[x]
 | b :: r=>if b.cell < x.cell then b :: insR x r else x :: b :: r
theorem ins_eq (x : Box) : ∀ l : List Box,l.take (lb x.cell l) ++ x :: l.drop (lb x.cell l) = insR x l
 | []=>rfl
 | b :: r=>by
   simp only [lb,insR]
   split
   · rw [← ins_eq x r];rfl
   · rfl
theorem lb_delR (t : Int) : ∀ l : List Box,rises l → lb t (delR t l) = lb t l
 | [],_=>rfl
 | b :: r,h=>by
   simp only [delR]
   split
   · rename_i hb;simp only [lb,if_pos hb];rw [lb_delR t r h.2]
   · rename_i hb
     split
     · rename_i he
       simp only [lb,if_neg hb]
       cases r with
       | nil=>rfl
       | cons a r=>simp only [lb];have:=h.1 a (by simp);rw [if_neg (by omega)]
     · rfl
theorem insR_mem {x : Box} : ∀ {l : List Box} {y : Box},y ∈ insR x l → y = x ∨ y ∈ l
 | [],y,h=>by simp [insR] at h;exact .inl h
 | b :: r,y,h=>by
   simp only [insR] at h
   split at h
   · rcases List.mem_cons.1 h with rfl|h
     · simp
     · rcases insR_mem h with h|h
       · exact .inl h
       · simp [h]
   · rcases List.mem_cons.1 h with rfl|h
     · exact .inl rfl
     · exact .inr h
theorem rises_insR {x : Box} : ∀ {l : List Box},rises l → getB l x.cell = none → rises (insR x l)
 | [],_,_=>⟨by simp,trivial⟩
 | b :: r,h,hn=>by
   have hn':=getB_none.1 hn
   simp only [insR]
   split
   · rename_i hb
     refine ⟨fun y hy=>?_,rises_insR h.2 (getB_none.2 fun y hy=>hn' y (by simp [hy]))⟩
     rcases insR_mem hy with rfl|hy
     · exact hb
     · exact h.1 y hy
   · rename_i hb
     have h0:=hn' b (by simp)
     refine ⟨fun y hy=>?_,h⟩
     rcases List.mem_cons.1 hy with rfl|hy
     · omega
     · have:=h.1 y hy;omega
theorem getB_insR {x : Box} {u : Int} : ∀ {l : List Box},getB l x.cell = none → getB (insR x l) u = if u = x.cell then some x.bag else getB l u
 | [],_=>by simp only [insR,getB];by_cases h : u = x.cell<;>simp [h];exact fun e=>absurd e.symm h
 | b :: r,hn=>by
   have hn':=getB_none.1 hn
   have h0:=hn' b (by simp)
   have ih:=getB_insR (x:=x) (u:=u) (l:=r) (getB_none.2 fun y hy=>hn' y (by simp [hy]))
   simp only [insR]
   split
   · simp only [getB,ih]
     by_cases hbu : b.cell = u
     · rw [if_pos hbu,if_pos hbu,if_neg (by omega)]
     · rw [if_neg hbu,if_neg hbu]
   · simp only [getB]
     by_cases hu : u = x.cell
     · rw [if_pos hu.symm,if_pos hu]
     · rw [if_neg (fun e=>hu e.symm),if_neg hu]
theorem putB_eq {l : List Box} (h : rises l) (t i : Int) : putB l t i = if i = 9 then insR ⟨t,newBag⟩ (delR t l) else delR t l:=by
 unfold putB
 rw [delB_eq]
 have e:=ins_eq ⟨t,newBag⟩ (delR t l)
 simp only at e
 rw [lb_delR t l h] at e
 rw [e]
theorem rises_putB {l : List Box} (h : rises l) (t i : Int) : rises (putB l t i):=by
 rw [putB_eq h]
 split
 · exact rises_insR (rises_delR h) (by rw [getB_delR h];simp)
 · exact rises_delR h
theorem getB_putB {l : List Box} (h : rises l) (t i u : Int) : getB (putB l t i) u = if u = t then (if i = 9 then some newBag else none) else getB l u:=by
 rw [putB_eq h]
 split
 · rw [getB_insR (by rw [getB_delR h];simp),getB_delR h]
   split<;>simp_all
 · rw [getB_delR h]
theorem putB_mem {l : List Box} (h : rises l) {t i : Int} {x : Box} (hx : x ∈ putB l t i) : x ∈ l ∨ (i = 9 ∧ x = ⟨t,newBag⟩):=by
 rw [putB_eq h] at hx
 split at hx
 · rename_i h9
   rcases insR_mem hx with rfl|hx
   · exact .inr ⟨h9,rfl⟩
   · exact .inl (delR_mem hx)
 · exact .inl (delR_mem hx)
theorem upd_eq (x : Box) : ∀ (l : List Box),rises l → thereB l x.cell = true → l.set (lb x.cell l) x = insR x (delR x.cell l)
 | [],_,h=>by simp [thereB] at h
 | b :: r,hr,h=>by
   rw [thereB_cons] at h
   simp only [lb,delR]
   split
   · rename_i hb
     rw [if_pos hb] at h
     simp only [List.set_cons_succ,insR,if_pos hb]
     rw [upd_eq x r hr.2 h]
   · rename_i hb
     rw [if_neg hb] at h
     have he : b.cell = x.cell:=by simpa using h
     rw [if_pos he,List.set_cons_zero]
     cases r with
     | nil=>rfl
     | cons a r=>have:=hr.1 a (by simp);simp only [insR];rw [if_neg (by omega)]
def updB (l : List Box) (t : Int) (s : List Slot) : List Box:=l.set (lb t l) ⟨t,s⟩
theorem rises_updB {l : List Box} (h : rises l) {t : Int} {s : List Slot} (ht : thereB l t = true) : rises (updB l t s):=by
 unfold updB
 rw [upd_eq ⟨t,s⟩ l h ht]
 exact rises_insR (rises_delR h) (by rw [getB_delR h];simp)
theorem getB_updB {l : List Box} (h : rises l) {t : Int} {s : List Slot} (ht : thereB l t = true) (u : Int) : getB (updB l t s) u = if u = t then some s else getB l u:=by
 unfold updB
 rw [upd_eq ⟨t,s⟩ l h ht,getB_insR (by rw [getB_delR h];simp),getB_delR h]
 split<;>simp_all
def bagR (s : List Slot) : Bool:=decide ((s.length : Int) = 6) && bagOk s
theorem bagR_new : bagR newBag = true:=by decide
structure Fits (l : List Int) (k : Nat) (bs : List Box) : Prop where
 items : ∀ i ∈ l,itemOk i = true
 up : rises bs
 bags : ∀ b ∈ bs,(k : Int) ≤ b.cell ∧ b.cell < k + l.length ∧ bagR b.bag = true
 chest : ∀ j < l.length,(l.getD j 0 = 9 ↔ (getB bs ((k : Int) + j)).isSome = true)
theorem fits_iff : ∀ (l : List Int) (k : Nat) (bs : List Box),rightGo l k bs = some [] ↔ Fits l k bs
 | [],k,bs=>by
   simp only [rightGo,Option.some.injEq]
   constructor
   · rintro rfl;exact ⟨by simp,trivial,by simp,by simp⟩
   · intro h
     cases bs with
     | nil=>rfl
     | cons b bs=>have:=h.bags b (by simp);simp only [List.length_nil] at this;omega
 | i :: r,k,bs=>by
   simp only [rightGo]
   by_cases hi : itemOk i = true
   · rw [if_pos hi]
     by_cases h9 : i = 9
     · rw [if_pos h9]
       cases bs with
       | nil =>
         simp only [reduceCtorEq,false_iff]
         intro h
         have:=(h.chest 0 (by simp)).1 (by simpa using h9)
         simp [getB] at this
       | cons b bs =>
         simp only
         by_cases hb : boxAt b k = true
         · rw [if_pos hb,fits_iff r (k + 1) bs]
           simp only [boxAt,Bool.and_eq_true,beq_iff_eq] at hb
           have hbg : bagR b.bag = true:=by unfold bagR;rw [hb.2.1,hb.2.2];rfl
           constructor
           · intro h
             refine ⟨fun x hx=>?_,⟨fun x hx=>?_,h.up⟩,fun x hx=>?_,fun j hj=>?_⟩
             · rcases List.mem_cons.1 hx with rfl|hx
               · exact hi
               · exact h.items x hx
             · have:=h.bags x hx;omega
             · rcases List.mem_cons.1 hx with rfl|hx
               · refine ⟨by omega,by simp only [List.length_cons];omega,hbg⟩
               · have:=h.bags x hx;refine ⟨by omega,by simp only [List.length_cons];omega,this.2.2⟩
             · cases j with
               | zero=>simp only [getB];rw [if_pos (by omega)];simp [h9]
               | succ j =>
                 have:=h.chest j (by simpa using hj)
                 simp only [getB];rw [if_neg (by omega)]
                 rw [List.getD_cons_succ,this]
                 rw [show ((k + 1 : Nat) : Int) + j = k + ((j + 1 : Nat) : Int) by omega]
           · intro h
             refine ⟨fun x hx=>h.items x (by simp [hx]),h.up.2,fun x hx=>?_,fun j hj=>?_⟩
             · have h1:=h.bags x (by simp [hx])
               have h2:=h.up.1 x hx
               simp only [List.length_cons] at h1
               refine ⟨by omega,by omega,h1.2.2⟩
             · have:=h.chest (j + 1) (by simpa using hj)
               simp only [getB] at this;rw [if_neg (by omega)] at this
               rw [List.getD_cons_succ] at this
               rw [this]
               rw [show ((k + 1 : Nat) : Int) + j = k + ((j + 1 : Nat) : Int) by omega]
         · rw [if_neg hb]
           simp only [reduceCtorEq,false_iff]
           intro h
           refine hb ?_
           have h0:=(h.chest 0 (by simp)).1 (by simpa using h9)
           have hbb:=h.bags b (by simp)
           have hk : b.cell = k:=by
             rw [Option.isSome_iff_exists] at h0
             obtain ⟨s,hs⟩:=h0
             obtain ⟨x,hx,hxe,_⟩:=getB_mem hs
             rcases List.mem_cons.1 hx with rfl|hx
             · simpa using hxe
             · have:=h.up.1 x hx;simp only [Int.natCast_zero,Int.add_zero] at hxe;omega
           have h2:=hbb.2.2
           simp only [bagR,Bool.and_eq_true] at h2
           simp only [boxAt,Bool.and_eq_true,beq_iff_eq]
           exact ⟨hk,h2.1,h2.2⟩
     · rw [if_neg h9,fits_iff r (k + 1) bs]
       constructor
       · intro h
         refine ⟨fun x hx=>?_,h.up,fun x hx=>?_,fun j hj=>?_⟩
         · rcases List.mem_cons.1 hx with rfl|hx
           · exact hi
           · exact h.items x hx
         · have:=h.bags x hx;refine ⟨by omega,by simp only [List.length_cons];omega,this.2.2⟩
         · cases j with
           | zero =>
             have : getB bs ((k : Int) + ((0 : Nat) : Int)) = none:=getB_none.2 fun x hx=>by have:=h.bags x hx;omega
             rw [this];simp [h9]
           | succ j =>
             have:=h.chest j (by simpa using hj)
             rw [List.getD_cons_succ,this]
             rw [show ((k + 1 : Nat) : Int) + j = k + ((j + 1 : Nat) : Int) by omega]
       · intro h
         have h0 : getB bs (k : Int) = none:=by
           have:=h.chest 0 (by simp)
           simp only [List.getD_cons_zero,Int.natCast_zero,Int.add_zero,h9,false_iff] at this
           simpa using this
         refine ⟨fun x hx=>h.items x (by simp [hx]),h.up,fun x hx=>?_,fun j hj=>?_⟩
         · have h1:=h.bags x hx
           have h2:=getB_none.1 h0 x hx
           simp only [List.length_cons] at h1
           refine ⟨by omega,by omega,h1.2.2⟩
         · have:=h.chest (j + 1) (by simpa using hj)
           rw [List.getD_cons_succ] at this
           rw [this]
           rw [show ((k + 1 : Nat) : Int) + j = k + ((j + 1 : Nat) : Int) by omega]
   · rw [if_neg hi]
     simp only [reduceCtorEq,false_iff]
     intro h
     exact hi (h.items i (by simp))
theorem right_iff (c : Chunk) : rightB c = true ↔ headB c = true ∧ Fits c.cells 0 c.boxes ∧ c.heaps.any badHeap = false:=by
 constructor
 · intro h
   obtain ⟨h1,h2,h3⟩:=rightC_of h
   exact ⟨h1,(fits_iff _ _ _).1 h2,h3⟩
 · rintro ⟨h1,h2,h3⟩
   unfold rightB
   rw [h1,(fits_iff _ _ _).2 h2,h3];rfl
theorem rises_count : ∀ {l : List Box} (lo : Int) {hi : Int},rises l → (∀ b ∈ l,lo ≤ b.cell ∧ b.cell < hi) → lo ≤ hi → (l.length : Int) ≤ hi - lo
 | [],lo,hi,_,_,h=>by simp;omega
 | b :: r,lo,hi,h,hb,hlh=>by
   have h0:=hb b (by simp)
   have:=rises_count (l:=r) (b.cell + 1) (hi:=hi) h.2 (fun x hx=>by have:=h.1 x hx;have:=hb x (by simp [hx]);omega) (by omega)
   simp only [List.length_cons];omega
theorem right_len {c : Chunk} (h : rightB c = true) : c.cells.length = 64:=(rightC_of h).len
theorem right_fits {c : Chunk} (h : rightB c = true) : Fits c.cells 0 c.boxes:=((right_iff c).1 h).2.1
theorem right_bag {c : Chunk} (h : rightB c = true) {b : Box} (hb : b ∈ c.boxes) : b.bag.length = 6 ∧ bagOk b.bag = true:=by
 have:=((right_fits h).bags b hb).2.2
 simp only [bagR,Bool.and_eq_true,decide_eq_true_eq] at this
 exact ⟨by omega,this.2⟩
theorem right_heaps {c : Chunk} (h : rightB c = true) : c.heaps.length ≤ 32:=by
 have:=((right_iff c).1 h).1
 simp only [headB,Bool.and_eq_true,decide_eq_true_eq] at this;omega
theorem right_boxes {c : Chunk} (h : rightB c = true) : c.boxes.length ≤ 64:=by
 have hf:=right_fits h
 have:=rises_count (l:=c.boxes) 0 (hi:=64) hf.up (fun b hb=>by have:=hf.bags b hb;rw [right_len h] at this;omega) (by omega)
 omega
theorem fitC_right {c : Chunk} (h : rightB c = true) : FitC c:=
 ⟨by rw [right_len h];omega,by have:=right_heaps h;omega,by have:=right_boxes h;omega,fun b hb=>by rw [(right_bag h hb).1];omega⟩
def putC (c : Chunk) (t i : Int) : Chunk:={ c with cells:=c.cells.set t.toNat i,boxes:=putB c.boxes t i }
theorem right_put {c : Chunk} (h : rightB c = true) {t i : Int} (ht : 0 ≤ t) (ht2 : t < 64) (hi : itemOk i = true) : rightB (putC c t i) = true:=by
 obtain ⟨h1,h2,h3⟩:=(right_iff c).1 h
 have hl:=right_len h
 rw [right_iff]
 refine ⟨?_,⟨fun x hx=>?_,rises_putB h2.up t i,fun b hb=>?_,fun j hj=>?_⟩,h3⟩
 · rw [← h1];unfold headB;rw [show (putC c t i).cells.length = c.cells.length by simp [putC]];rfl
 · rcases List.mem_or_eq_of_mem_set hx with hx|rfl
   · exact h2.items x hx
   · exact hi
 · simp only [putC,List.length_set]
   rcases putB_mem h2.up hb with hb|⟨_,rfl⟩
   · exact h2.bags b hb
   · refine ⟨by simpa using ht,by simp only [hl];simpa using ht2,bagR_new⟩
 · simp only [putC,List.length_set] at hj ⊢
   rw [getB_putB h2.up]
   have hc:=h2.chest j hj
   by_cases hjt : j = t.toNat
   · subst hjt
     rw [if_pos (by simp;omega)]
     simp only [List.getD_eq_getElem?_getD,List.getElem?_set_self hj,Option.getD_some]
     split<;>simp_all
   · rw [if_neg (by simp;omega)]
     simp only [List.getD_eq_getElem?_getD,List.getElem?_set_ne (fun e=>hjt e.symm)] at hc ⊢
     exact hc
def fullAt (c : Chunk) (t : Int) : Bool:=match getB c.boxes t with
 | some s=>fullB s
 | none=>false
theorem setC_right {c : Chunk} (h : rightB c = true) {t i : Int} (ht : 0 ≤ t) (ht2 : t < 64) :
   setC c t i = if itemOk i = false then (c,100) else if fullAt c t = true then (c,104) else (putC c t i,0):=by
 have hu:=(right_fits h).up
 unfold setC
 rw [if_neg (by rw [h];simp),if_neg (by omega)]
 have e1 : (¬ (i = 0) ∧ blockB i = false) ↔ itemOk i = false:=by simp [itemOk]
 by_cases hi : itemOk i = false
 · rw [if_pos (e1.2 hi),if_pos hi]
 · rw [if_neg (fun x=>hi (e1.1 x)),if_neg hi]
   have e2 : (thereB c.boxes t = true ∧ fullB (elt .box c.boxes (lb t c.boxes)).bag = true) ↔ fullAt c t = true:=by
     unfold fullAt
     cases hth : thereB c.boxes t with
     | true=>rw [there_get hu t hth];simp
     | false=>rw [there_none hu t hth];simp
   by_cases hf : fullAt c t = true
   · rw [if_pos (e2.2 hf),if_pos hf]
   · rw [if_neg (fun x=>hf (e2.1 x)),if_neg hf];rfl
theorem right_setC {c : Chunk} (h : rightB c = true) {t i : Int} (ht : 0 ≤ t) (ht2 : t < 64) : rightB (setC c t i).1 = true:=by
 rw [setC_right h ht ht2]
 split
 · exact h
 · rename_i hi
   split
   · exact h
   · exact right_put h ht ht2 (by simpa using hi)
def updC (c : Chunk) (t : Int) (l : List Slot) : Chunk:={ c with boxes:=updB c.boxes t l }
theorem updB_mem {l : List Box} {t : Int} {s : List Slot} {x : Box} (hx : x ∈ updB l t s) : x ∈ l ∨ x = ⟨t,s⟩:=by
 rcases List.mem_or_eq_of_mem_set hx with h|h
 · exact .inl h
 · exact .inr h
theorem right_upd {c : Chunk} (h : rightB c = true) {t : Int} {l : List Slot} (ht : thereB c.boxes t = true) (hl : bagR l = true) : rightB (updC c t l) = true:=by
 obtain ⟨h1,h2,h3⟩:=(right_iff c).1 h
 rw [right_iff]
 refine ⟨h1,⟨h2.items,rises_updB h2.up ht,fun b hb=>?_,fun j hj=>?_⟩,h3⟩
 · rcases updB_mem hb with hb|rfl
   · exact h2.bags b hb
   · have hg:=there_get h2.up t ht
     obtain ⟨x,hx,hxe,_⟩:=getB_mem hg
     have:=h2.bags x hx
     exact ⟨by simp only;omega,by simp only [updC];omega,hl⟩
 · show c.cells.getD j 0 = 9 ↔ (getB (updB c.boxes t l) _).isSome = true
   rw [getB_updB h2.up ht,h2.chest j hj]
   split
   · rename_i he;rw [he,there_get h2.up t ht];simp
   · rfl
theorem fillC_right {c : Chunk} (h : rightB c = true) (t : Int) (l : List Slot) :
   fillC c t l = if (getB c.boxes t).isSome = false then (c,102) else if bagR l = false then (c,103) else (updC c t l,0):=by
 unfold fillC
 rw [if_neg (by rw [h];simp),there_iff (right_fits h).up]
 split
 · rfl
 · have e : (¬ (l.length = 6 ∧ bagOk l = true)) ↔ bagR l = false:=by
     unfold bagR
     cases bagOk l<;>simp<;>omega
   by_cases hb : bagR l = false
   · rw [if_pos (e.2 hb),if_pos hb]
   · rw [if_neg (fun x=>hb (e.1 x)),if_neg hb];rfl
open Go Go.RowKit Eng
theorem lift1_miss (h : Heap) (cell : Int) (out : List (El .slot)) (n : Nat) (hn : n = out.length) (hne : ¬ h.cell = cell) : Ev1 Try.prog 38 [.agg [.lit (.int .i64 h.cell),.lit (.int .u8 h.slot.item),.lit (.int .i64 h.slot.n)],.ptr 0 0,.ptr 2 0] [(0,.box [i64 cell]),(2,.box [.own .slot 1 0 n none]),(1,.row .slot out)] (bol false) [(0,.box [i64 cell]),(2,.box [.own .slot 1 0 n none]),(1,.row .slot out)]:=by
 subst hn
 refine Ev1.of_fin cfg_ok Try.func38 rfl (nt:=15) rfl rfl rfl ?_
 conv=>whnf
 repeat' (first|exact trivial|((first|refine kL ?_|(refine ⟨fun hb=>?_,fun hb=>?_⟩<;>(try simp only [nrm] at hb)<;>(try (first|(exfalso;omega)|contradiction|exact kB hb)))|refine kW cfg_ok ?_|refine kC ?_|refine bdA ?_|refine bd2 ?_|refine bdR ?_|refine bdL ?_)<;>(conv=>whnf))|(refine And.intro ?_ ?_;rotate_left;(conv=>whnf);rotate_right))
 all_goals first|(refine congrArg Value.bool ?_;simp [hne];done)|exact List.take_length|exact Nat.le_refl _|(simp;done)|(refine List.take_of_length_le ?_;simp;done)|rfl
theorem lift1_miss0 (h : Heap) (cell : Int) (hne : ¬ h.cell = cell) : Ev1 Try.prog 38 [.agg [.lit (.int .i64 h.cell),.lit (.int .u8 h.slot.item),.lit (.int .i64 h.slot.n)],.ptr 0 0,.ptr 2 0] [(0,.box [i64 cell]),(2,.box [.lit (.slice none 0 0)])] (bol false) [(0,.box [i64 cell]),(2,.box [.lit (.slice none 0 0)])]:=by
 refine Ev1.of_fin cfg_ok Try.func38 rfl (nt:=15) rfl rfl rfl ?_
 conv=>whnf
 repeat' (first|exact trivial|((first|refine kL ?_|(refine ⟨fun hb=>?_,fun hb=>?_⟩<;>(try simp only [nrm] at hb)<;>(try (first|(exfalso;omega)|contradiction|exact kB hb)))|refine kW cfg_ok ?_|refine kC ?_|refine bdA ?_|refine bd2 ?_|refine bdR ?_|refine bdL ?_)<;>(conv=>whnf))|(refine And.intro ?_ ?_;rotate_left;(conv=>whnf);rotate_right))
 all_goals first|(refine congrArg Value.bool ?_;simp [hne];done)|exact List.take_length|exact Nat.le_refl _|(simp;done)|(refine List.take_of_length_le ?_;simp;done)|rfl
theorem lift1_hit (h : Heap) (cell : Int) (out : List (El .slot)) (n : Nat) (hn : n = out.length) (ho : (out.length + 1) * 16 ≤ 140737488355328) (hne : h.cell = cell) : Ev1 Try.prog 38 [.agg [.lit (.int .i64 h.cell),.lit (.int .u8 h.slot.item),.lit (.int .i64 h.slot.n)],.ptr 0 0,.ptr 2 0] [(0,.box [i64 cell]),(2,.box [.own .slot 1 0 n none]),(1,.row .slot out)] (bol true) [(0,.box [i64 cell]),(2,.box [.own .slot 390001 0 (out.length + 1) none]),(390001,.row .slot (out ++ [h.slot]))]:=by
 subst hn
 refine Ev1.of_fin cfg_ok Try.func38 rfl (nt:=15) rfl rfl rfl ?_
 conv=>whnf
 repeat' (first|exact trivial|((first|refine kL ?_|(refine ⟨fun hb=>?_,fun hb=>?_⟩<;>(try simp only [nrm] at hb)<;>(try (first|(exfalso;omega)|contradiction|exact kB hb)))|refine kW cfg_ok ?_|refine kC ?_|refine bdA ?_|refine bd2 ?_|refine bdR ?_|refine bdL ?_)<;>(conv=>whnf))|(refine And.intro ?_ ?_;rotate_left;(conv=>whnf);rotate_right))
 all_goals first|(refine congrArg Value.bool ?_;simp [hne];done)|exact List.take_length|exact Nat.le_refl _|(simp;done)|(refine List.take_of_length_le ?_;simp;done)|rfl|(rw [List.take_length];refine List.take_of_length_le ?_;simp;done)
theorem lift1_hit0 (h : Heap) (cell : Int) (hne : h.cell = cell) : Ev1 Try.prog 38 [.agg [.lit (.int .i64 h.cell),.lit (.int .u8 h.slot.item),.lit (.int .i64 h.slot.n)],.ptr 0 0,.ptr 2 0] [(0,.box [i64 cell]),(2,.box [.lit (.slice none 0 0)])] (bol true) [(0,.box [i64 cell]),(2,.box [.own .slot 390001 0 1 none]),(390001,.row .slot [h.slot])]:=by
 refine Ev1.of_fin cfg_ok Try.func38 rfl (nt:=15) rfl rfl rfl ?_
 conv=>whnf
 repeat' (first|exact trivial|((first|refine kL ?_|(refine ⟨fun hb=>?_,fun hb=>?_⟩<;>(try simp only [nrm] at hb)<;>(try (first|(exfalso;omega)|contradiction|exact kB hb)))|refine kW cfg_ok ?_|refine kC ?_|refine bdA ?_|refine bd2 ?_|refine bdR ?_|refine bdL ?_)<;>(conv=>whnf))|(refine And.intro ?_ ?_;rotate_left;(conv=>whnf);rotate_right))
 all_goals first|(refine congrArg Value.bool ?_;simp [hne];done)|exact List.take_length|exact Nat.le_refl _|(simp;done)|(refine List.take_of_length_le ?_;simp;done)|rfl|(rw [List.take_length];refine List.take_of_length_le ?_;simp)
def hit (cell : Int) (h : Heap) : Bool:=h.cell == cell
def miss (cell : Int) (h : Heap) : Bool:=!(h.cell == cell)
def keptH (cell : Int) (l : List Heap) : List Heap:=l.filter (miss cell)
def hitsH (cell : Int) (l : List Heap) : List Slot:=(l.filter (hit cell)).map (·.slot)
theorem idx_none (l : List (El .heap)) (cell : Int) (hl : l.length ≤ 9000000000000000000) (hm : ∀ k < l.length,¬ (elt .heap l k).cell = cell) : Ev1 Try.prog 67 [.own .heap 1 0 l.length none,.clo (.func 38) [] [.ptr 0 0,.ptr 2 0]] [(0,.box [i64 cell]),(2,.box [.lit (.slice none 0 0)]),(1,.row .heap l)] (i64 (-1)) [(0,.box [i64 cell]),(2,.box [.lit (.slice none 0 0)]),(1,.row .heap l)]:=by
 refine Ev1.of_fin cfg_ok Try.func67 rfl (nt:=17) rfl rfl rfl ?_
 conv=>whnf
 refine Runs.loopS cfg_ok (σ:=Nat) [0,1,7,8] (fun k=>[.own .heap 1 0 l.length none,.clo (.func 38) [] [.ptr 0 0,.ptr 2 0],i64 l.length,i64 k]) (fun _=>[(0,.box [i64 cell]),(2,.box [.lit (.slice none 0 0)]),(1,.row .heap l)]) (fun k=>k ≤ l.length) (fun k=>l.length - k) 0 (by omega) ?_ ?_
 · conv=>whnf
   repeat' (first|exact trivial|((first|refine kL ?_|(refine ⟨fun hb=>?_,fun hb=>?_⟩<;>(try simp only [nrm] at hb)<;>(try (first|(exfalso;omega)|contradiction|exact kB hb)))|refine kW cfg_ok ?_|refine kC ?_|refine bdA ?_|refine bd2 ?_|refine bdR ?_|refine bdL ?_)<;>(conv=>whnf))|(refine And.intro ?_ ?_;rotate_left;(conv=>whnf);rotate_right))
   all_goals exact List.take_length
 · intro k hk
   by_cases hlt : k < l.length
   · conv=>whnf
     repeat' (first|exact trivial|((first|refine kL ?_|(refine ⟨fun hb=>?_,fun hb=>?_⟩<;>(try simp only [nrm] at hb)<;>(try (first|(exfalso;omega)|contradiction|exact kB hb)))|(refine isE 38 ?_;refine kE (lift1_miss0 (elt .heap l k) cell (hm k hlt)) [(0,0),(2,2)] rfl ?_)|(refine isD 38 ?_;refine kF (lift1_miss0 (elt .heap l k) cell (hm k hlt)) [(0,0),(2,2)] rfl ?_)|refine kW cfg_ok ?_|refine kC ?_|refine bdA ?_|refine bd2 ?_|refine bdR ?_|refine bdL ?_)<;>(conv=>whnf))|(refine And.intro ?_ ?_;rotate_left;(conv=>whnf);rotate_right))
     refine .to (k + 1) hlt (by omega) ?_
     conv=>whnf
     repeat' (first|exact trivial|((first|refine kL ?_|(refine ⟨fun hb=>?_,fun hb=>?_⟩<;>(try simp only [nrm] at hb)<;>(try (first|(exfalso;omega)|contradiction|exact kB hb)))|refine kW cfg_ok ?_|refine kC ?_|refine bdA ?_|refine bd2 ?_|refine bdR ?_|refine bdL ?_)<;>(conv=>whnf))|(refine And.intro ?_ ?_;rotate_left;(conv=>whnf);rotate_right))
     all_goals exact List.take_length
   · obtain rfl : k = l.length:=by omega
     conv=>whnf
     repeat' (first|exact trivial|((first|refine kL ?_|(refine ⟨fun hb=>?_,fun hb=>?_⟩<;>(try simp only [nrm] at hb)<;>(try (first|(exfalso;omega)|contradiction|exact kB hb)))|refine kW cfg_ok ?_|refine kC ?_|refine bdA ?_|refine bd2 ?_|refine bdR ?_|refine bdL ?_)<;>(conv=>whnf))|(refine And.intro ?_ ?_;rotate_left;(conv=>whnf);rotate_right))
     all_goals exact List.take_length
theorem idx_some (l : List (El .heap)) (cell : Int) (i : Nat) (hl : l.length ≤ 9000000000000000000) (hi : i < l.length) (hm : ∀ k < i,¬ (elt .heap l k).cell = cell) (hh : (elt .heap l i).cell = cell) : Ev1 Try.prog 67 [.own .heap 1 0 l.length none,.clo (.func 38) [] [.ptr 0 0,.ptr 2 0]] [(0,.box [i64 cell]),(2,.box [.lit (.slice none 0 0)]),(1,.row .heap l)] (i64 i) [(0,.box [i64 cell]),(2,.box [.own .slot 390001 0 1 none]),(1,.row .heap l),(390001,.row .slot [(elt .heap l i).slot])]:=by
 refine Ev1.of_fin cfg_ok Try.func67 rfl (nt:=17) rfl rfl rfl ?_
 conv=>whnf
 refine Runs.loopS cfg_ok (σ:=Nat) [0,1,7,8] (fun k=>[.own .heap 1 0 l.length none,.clo (.func 38) [] [.ptr 0 0,.ptr 2 0],i64 l.length,i64 k]) (fun _=>[(0,.box [i64 cell]),(2,.box [.lit (.slice none 0 0)]),(1,.row .heap l)]) (fun k=>k ≤ i) (fun k=>l.length - k) 0 (by omega) ?_ ?_
 · conv=>whnf
   repeat' (first|exact trivial|((first|refine kL ?_|(refine ⟨fun hb=>?_,fun hb=>?_⟩<;>(try simp only [nrm] at hb)<;>(try (first|(exfalso;omega)|contradiction|exact kB hb)))|refine kW cfg_ok ?_|refine kC ?_|refine bdA ?_|refine bd2 ?_|refine bdR ?_|refine bdL ?_)<;>(conv=>whnf))|(refine And.intro ?_ ?_;rotate_left;(conv=>whnf);rotate_right))
   all_goals exact List.take_length
 · intro k hk
   by_cases hlt : k < i
   · conv=>whnf
     repeat' (first|exact trivial|((first|refine kL ?_|(refine ⟨fun hb=>?_,fun hb=>?_⟩<;>(try simp only [nrm] at hb)<;>(try (first|(exfalso;omega)|contradiction|exact kB hb)))|(refine isE 38 ?_;refine kE (lift1_miss0 (elt .heap l k) cell (hm k hlt)) [(0,0),(2,2)] rfl ?_)|(refine isD 38 ?_;refine kF (lift1_miss0 (elt .heap l k) cell (hm k hlt)) [(0,0),(2,2)] rfl ?_)|refine kW cfg_ok ?_|refine kC ?_|refine bdA ?_|refine bd2 ?_|refine bdR ?_|refine bdL ?_)<;>(conv=>whnf))|(refine And.intro ?_ ?_;rotate_left;(conv=>whnf);rotate_right))
     refine .to (k + 1) hlt (by omega) ?_
     conv=>whnf
     repeat' (first|exact trivial|((first|refine kL ?_|(refine ⟨fun hb=>?_,fun hb=>?_⟩<;>(try simp only [nrm] at hb)<;>(try (first|(exfalso;omega)|contradiction|exact kB hb)))|refine kW cfg_ok ?_|refine kC ?_|refine bdA ?_|refine bd2 ?_|refine bdR ?_|refine bdL ?_)<;>(conv=>whnf))|(refine And.intro ?_ ?_;rotate_left;(conv=>whnf);rotate_right))
     all_goals exact List.take_length
   · obtain rfl : k = i:=by omega
     conv=>whnf
     repeat' (first|exact trivial|((first|refine kL ?_|(refine ⟨fun hb=>?_,fun hb=>?_⟩<;>(try simp only [nrm] at hb)<;>(try (first|(exfalso;omega)|contradiction|exact kB hb)))|(refine isE 38 ?_;refine kE (lift1_hit0 (elt .heap l k) cell hh) [(0,0),(2,2),(390001,350001)] rfl ?_)|(refine isD 38 ?_;refine kF (lift1_hit0 (elt .heap l k) cell hh) [(0,0),(2,2),(390001,350001)] rfl ?_)|refine kW cfg_ok ?_|refine kC ?_|refine bdA ?_|refine bd2 ?_|refine bdR ?_|refine bdL ?_)<;>(conv=>whnf))|(refine And.intro ?_ ?_;rotate_left;(conv=>whnf);rotate_right))
     all_goals first|exact List.take_length|rfl
theorem keptH_next {cell : Int} {l : List Heap} {k : Nat} (h : k < l.length) : keptH cell (l.take (k + 1)) = keptH cell (l.take k) ++ (if (elt .heap l k).cell = cell then [] else [elt .heap l k]):=by
 have:=elt_get .heap l k h
 unfold keptH
 rw [List.take_add_one,this,List.filter_append]
 by_cases hc : (elt .heap l k).cell = cell
 · rw [if_pos hc];simp [miss,hc]
 · rw [if_neg hc];simp [miss,hc]
theorem hitsH_next {cell : Int} {l : List Heap} {k : Nat} (h : k < l.length) : hitsH cell (l.take (k + 1)) = hitsH cell (l.take k) ++ (if (elt .heap l k).cell = cell then [(elt .heap l k).slot] else []):=by
 have:=elt_get .heap l k h
 unfold hitsH
 rw [List.take_add_one,this,List.filter_append,List.map_append]
 by_cases hc : (elt .heap l k).cell = cell
 · rw [if_pos hc];simp [hit,hc]
 · rw [if_neg hc];simp [hit,hc]
theorem keptH_le {cell : Int} {l : List Heap} {k : Nat} (h : k ≤ l.length) : (keptH cell (l.take k)).length ≤ k:=by
 have:=List.length_filter_le (miss cell) (l.take k)
 rw [List.length_take,Nat.min_eq_left h] at this;exact this
theorem hitsH_le {cell : Int} {l : List Heap} {k : Nat} (h : k ≤ l.length) : (hitsH cell (l.take k)).length ≤ k:=by
 have:=List.length_filter_le (hit cell) (l.take k)
 rw [List.length_take,Nat.min_eq_left h] at this
 unfold hitsH;rw [List.length_map];exact this
theorem keptH_all {cell : Int} {l : List Heap} (hm : ∀ k < l.length,¬ (elt .heap l k).cell = cell) : keptH cell l = l ∧ hitsH cell l = []:=by
 have hx : ∀ x ∈ l,¬ x.cell = cell:=by
   intro x hx
   obtain ⟨i,hi,rfl⟩:=List.mem_iff_getElem.1 hx
   have:=elt_get .heap l i hi
   rw [List.getElem?_eq_getElem hi] at this
   rw [Option.some.inj this];exact hm i hi
 constructor
 · exact List.filter_eq_self.2 fun x h=>by simp [miss,hx x h]
 · unfold hitsH
   rw [List.filter_eq_nil_iff.2 fun x h=>by simp [hit,hx x h]];rfl
theorem del_none (l : List (El .heap)) (cell : Int) (hl : l.length ≤ 9000000000000000000) (hm : ∀ k < l.length,¬ (elt .heap l k).cell = cell) : Ev1 Try.prog 37 [.own .heap 1 0 l.length none,.clo (.func 38) [] [.ptr 0 0,.ptr 2 0]] [(0,.box [i64 cell]),(2,.box [.lit (.slice none 0 0)]),(1,.row .heap l)] (.own .heap 1 0 l.length none) [(0,.box [i64 cell]),(2,.box [.lit (.slice none 0 0)]),(1,.row .heap l)]:=by
 refine Ev1.of_fin cfg_ok Try.func37 rfl (nt:=40) rfl rfl rfl ?_
 conv=>whnf
 repeat' (first|exact trivial|((first|refine kL ?_|(refine ⟨fun hb=>?_,fun hb=>?_⟩<;>(try simp only [nrm] at hb)<;>(try (first|(exfalso;omega)|contradiction|exact kB hb)))|(refine isE 67 ?_;refine kE (idx_none l cell hl hm) [(0,0),(2,2),(1,1)] rfl ?_)|(refine isD 67 ?_;refine kF (idx_none l cell hl hm) [(0,0),(2,2),(1,1)] rfl ?_)|refine kW cfg_ok ?_|refine kC ?_|refine bdA ?_|refine bd2 ?_|refine bdR ?_|refine bdL ?_)<;>(conv=>whnf))|(refine And.intro ?_ ?_;rotate_left;(conv=>whnf);rotate_right))
 all_goals first|exact List.take_length
theorem del_some (l : List (El .heap)) (cell : Int) (i : Nat) (hl : l.length ≤ 4000000000000) (hi : i < l.length) (hm : ∀ k < i,¬ (elt .heap l k).cell = cell) (hh : (elt .heap l i).cell = cell) : Ev1 Try.prog 37 [.own .heap 1 0 l.length none,.clo (.func 38) [] [.ptr 0 0,.ptr 2 0]] [(0,.box [i64 cell]),(2,.box [.lit (.slice none 0 0)]),(1,.row .heap l)] (.own .heap 1 0 (keptH cell l).length none) [(0,.box [i64 cell]),(2,.box [.own .slot 390001 0 (hitsH cell l).length none]),(1,.row .heap (keptH cell l)),(390001,.row .slot (hitsH cell l))]:=by
 have hpre : keptH cell (l.take i) = l.take i ∧ hitsH cell (l.take i) = []:=by
   refine keptH_all fun k hk=>?_
   rw [List.length_take,Nat.min_eq_left (by omega)] at hk
   have e : elt .heap (l.take i) k = elt .heap l k:=by unfold elt;rw [List.getElem?_take_of_lt hk]
   rw [e];exact hm k hk
 refine Ev1.of_fin cfg_ok Try.func37 rfl (nt:=40) rfl rfl rfl ?_
 conv=>whnf
 repeat' (first|exact trivial|((first|refine kL ?_|(refine ⟨fun hb=>?_,fun hb=>?_⟩<;>(try simp only [nrm] at hb)<;>(try (first|(exfalso;omega)|contradiction|exact kB hb)))|(refine isE 67 ?_;refine kE (idx_some l cell i (by omega) hi hm hh) [(0,0),(2,2),(1,1),(390001,350001)] rfl ?_)|(refine isD 67 ?_;refine kF (idx_some l cell i (by omega) hi hm hh) [(0,0),(2,2),(1,1),(390001,350001)] rfl ?_)|refine kW cfg_ok ?_|refine kC ?_|refine bdA ?_|refine bd2 ?_|refine bdR ?_|refine bdL ?_)<;>(conv=>whnf))|(refine And.intro ?_ ?_;rotate_left;(conv=>whnf);rotate_right))
 have e0 : keptH cell (l.take (i + 1)) = l.take i:=by rw [keptH_next hi,if_pos hh,List.append_nil,hpre.1]
 have e1 : hitsH cell (l.take (i + 1)) = [(elt .heap l i).slot]:=by rw [hitsH_next hi,if_pos hh,hpre.2];rfl
 refine Runs.loopS cfg_ok (σ:=Nat × List Heap) [0,1,5,6] (fun (j,mid)=>[.own .heap 1 0 l.length none,.clo (.func 38) [] [.ptr 0 0,.ptr 2 0],i64 (keptH cell (l.take j)).length,i64 j])
   (fun (j,mid)=>[(0,.box [i64 cell]),(2,.box [.own .slot 350001 0 (hitsH cell (l.take j)).length none]),(1,.row .heap (keptH cell (l.take j) ++ (mid ++ l.drop j))),(350001,.row .slot (hitsH cell (l.take j)))])
   (fun (j,mid)=>i < j ∧ j ≤ l.length ∧ (keptH cell (l.take j)).length + mid.length = j ∧ 0 < mid.length) (fun (j,mid)=>l.length - j) (i + 1,[elt .heap l i]) ⟨by omega,by omega,by rw [e0];simp;omega,by simp⟩ ?_ ?_
 · conv=>whnf
   repeat' (first|exact trivial|((first|refine kL ?_|(refine ⟨fun hb=>?_,fun hb=>?_⟩<;>(try simp only [nrm] at hb)<;>(try (first|(exfalso;omega)|contradiction|exact kB hb)))|refine kW cfg_ok ?_|refine kC ?_|refine bdA ?_|refine bd2 ?_|refine bdR ?_|refine bdL ?_)<;>(conv=>whnf))|(refine And.intro ?_ ?_;rotate_left;(conv=>whnf);rotate_right))
   · rw [e0,List.take_length]
     conv=>lhs;rw [← List.take_append_drop i l,drop_elt (t:=.heap) hi]
     rfl
   · rw [e0,List.length_take,Nat.min_eq_left (by omega)]
   · rw [e1];rfl
   · rw [e1];rfl
 · rintro ⟨j,mid⟩ ⟨h1,h2,h3,h4⟩
   dsimp only
   by_cases hlt : j < l.length
   · have hKn:=keptH_next (cell:=cell) hlt
     have hHn:=hitsH_next (cell:=cell) hlt
     have hHl:=hitsH_le (cell:=cell) h2
     generalize keptH cell (l.take j) = K at *
     generalize hitsH cell (l.take j) = H at *
     have hRl : (K ++ (mid ++ l.drop j)).length = l.length:=by simp;omega
     have hRe : elt .heap (K ++ (mid ++ l.drop j)) j = elt .heap l j:=by
       unfold elt
       rw [← List.append_assoc,List.getElem?_append_right (by simp;omega),List.length_append,h3,Nat.sub_self,List.getElem?_drop];rfl
     generalize hR : K ++ (mid ++ l.drop j) = R at *
     have hRe2 : (elt .heap R ((j : Int).toNat + 0)).cell = (elt .heap R j).cell:=by simp
     by_cases hc : (elt .heap R j).cell = cell
     · rw [hRe] at hc
       rw [if_pos hc] at hKn hHn
       rw [← hRe] at hc
       conv=>whnf
       repeat' (first|exact trivial|((first|refine kL ?_|(refine ⟨fun hb=>?_,fun hb=>?_⟩<;>(try simp only [nrm] at hb)<;>(try (first|(exfalso;omega)|contradiction|exact kB hb)))|(refine isE 38 ?_;refine kE (lift1_hit (elt .heap R j) cell H _ rfl (by omega) hc) [(0,0),(2,2),(1,350001),(390001,350003)] rfl ?_)|(refine isD 38 ?_;refine kF (lift1_hit (elt .heap R j) cell H _ rfl (by omega) hc) [(0,0),(2,2),(1,350001),(390001,350003)] rfl ?_)|refine kW cfg_ok ?_|refine kC ?_|refine bdA ?_|refine bd2 ?_|refine bdR ?_|refine bdL ?_)<;>(conv=>whnf))|(refine And.intro ?_ ?_;rotate_left;(conv=>whnf);rotate_right))
       refine .to (j + 1,mid ++ [elt .heap l j]) ⟨by dsimp only;omega,by dsimp only;omega,by dsimp only;rw [hKn];simp;omega,by simp⟩ (by dsimp only;omega) ?_
       have hrow : R = keptH cell (l.take (j + 1)) ++ ((mid ++ [elt .heap l j]) ++ l.drop (j + 1)):=by
         rw [← hR,hKn,drop_elt (t:=.heap) hlt];simp
       rw [List.append_nil] at hKn
       conv=>whnf
       repeat' (first|exact trivial|((first|refine kL ?_|(refine ⟨fun hb=>?_,fun hb=>?_⟩<;>(try simp only [nrm] at hb)<;>(try (first|(exfalso;omega)|contradiction|exact kB hb)))|refine kW cfg_ok ?_|refine kC ?_|refine bdA ?_|refine bd2 ?_|refine bdR ?_|refine bdL ?_)<;>(conv=>whnf))|(refine And.intro ?_ ?_;rotate_left;(conv=>whnf);rotate_right))
       · exact (take_all hRl).trans hrow
       · show Value.int .i64 (K.length : Int) = Value.int .i64 ((keptH cell (l.take (j + 1))).length : Int);rw [hKn]
       · show H.length + 1 = (hitsH cell (l.take (j + 1))).length;rw [hHn];simp
       · show List.take _ _ = hitsH cell (l.take (j + 1));rw [hHn,hRe];exact take_all (by simp)
     · rw [hRe] at hc
       rw [if_neg hc] at hKn hHn
       rw [← hRe] at hc
       conv=>whnf
       repeat' (first|exact trivial|((first|refine kL ?_|(refine ⟨fun hb=>?_,fun hb=>?_⟩<;>(try simp only [nrm] at hb)<;>(try (first|(exfalso;omega)|contradiction|exact kB hb)))|(refine isE 38 ?_;refine kE (lift1_miss (elt .heap R j) cell H _ rfl hc) [(0,0),(2,2),(1,350001)] rfl ?_)|(refine isD 38 ?_;refine kF (lift1_miss (elt .heap R j) cell H _ rfl hc) [(0,0),(2,2),(1,350001)] rfl ?_)|refine kW cfg_ok ?_|refine kC ?_|refine bdA ?_|refine bd2 ?_|refine bdR ?_|refine bdL ?_)<;>(conv=>whnf))|(refine And.intro ?_ ?_;rotate_left;(conv=>whnf);rotate_right))
       refine .to (j + 1,mid.tail ++ [elt .heap l j]) ⟨by dsimp only;omega,by dsimp only;omega,by dsimp only;rw [hKn];simp;omega,by simp⟩ (by dsimp only;omega) ?_
       have hrow : R.set K.length (elt .heap R j) = keptH cell (l.take (j + 1)) ++ ((mid.tail ++ [elt .heap l j]) ++ l.drop (j + 1)):=by
         rw [hRe,← hR,hKn,drop_elt (t:=.heap) hlt,List.set_append_right _ _ (by omega),Nat.sub_self]
         cases mid with
         | nil=>simp at h4
         | cons m mid=>simp
       have hrl : (keptH cell (l.take (j + 1)) ++ ((mid.tail ++ [elt .heap l j]) ++ l.drop (j + 1))).length = l.length:=by rw [← hrow,List.length_set,hRl]
       rw [List.append_nil] at hHn
       conv=>whnf
       repeat' (first|exact trivial|((first|refine kL ?_|(refine ⟨fun hb=>?_,fun hb=>?_⟩<;>(try simp only [nrm] at hb)<;>(try (first|(exfalso;omega)|contradiction|exact kB hb)))|refine kW cfg_ok ?_|refine kC ?_|refine bdA ?_|refine bd2 ?_|refine bdR ?_|refine bdL ?_)<;>(conv=>whnf))|(refine And.intro ?_ ?_;rotate_left;(conv=>whnf);rotate_right))
       · simp only [Int.toNat_natCast,Nat.add_zero];exact (take_all (by rw [List.length_set,hRl])).trans hrow
       · refine congrArg (Value.int .i64) ?_;dsimp only;rw [hKn];simp
       · show H.length = (hitsH cell (l.take (j + 1))).length;rw [hHn]
       · show List.take _ _ = hitsH cell (l.take (j + 1));rw [hHn];exact List.take_length
   · obtain rfl : j = l.length:=by omega
     have hKl:=keptH_le (cell:=cell) (Nat.le_refl l.length)
     rw [List.take_length,List.drop_length] at *
     generalize keptH cell l = K at *
     generalize hitsH cell l = H at *
     conv=>whnf
     repeat' (first|exact trivial|((first|refine kL ?_|(refine ⟨fun hb=>?_,fun hb=>?_⟩<;>(try simp only [nrm] at hb)<;>(try (first|(exfalso;omega)|contradiction|exact kB hb)))|refine kW cfg_ok ?_|refine kC ?_|refine bdA ?_|refine bd2 ?_|refine bdR ?_|refine bdL ?_)<;>(conv=>whnf))|(refine And.intro ?_ ?_;rotate_left;(conv=>whnf);rotate_right))
     all_goals (try simp only [Int.toNat_natCast,Nat.add_zero,Int.sub_zero])
     · exact upon_length _ _ _ (by simp)
     · rw [take_upon _ _ _ (by simp)];exact List.take_left' rfl
     · exact List.take_length
theorem first_hit {p : Nat → Prop} (hd : ∀ k,p k ∨ ¬ p k) : ∀ n : Nat,(∀ k < n,¬ p k) ∨ ∃ i < n,p i ∧ ∀ k < i,¬ p k
 | 0=>.inl (by omega)
 | n + 1=>by
   rcases first_hit hd n with h|⟨i,hi,h1,h2⟩
   · rcases hd n with hp|hp
     · exact .inr ⟨n,by omega,hp,h⟩
     · left
       intro k hk
       by_cases e : k = n
       · subst e;exact hp
       · exact h k (by omega)
   · exact .inr ⟨i,by omega,h1,h2⟩
def liftC (c : Chunk) (cell : Int) : Chunk × List Slot:=if rightB c = true then ({ c with heaps:=keptH cell c.heaps },hitsH cell c.heaps) else (c,[])
theorem lift_api (c : Chunk) (cell : Int) (hc : OkC c) (hf : FitC c) : Api Try.prog 13 [chunkV c,i64 cell] (.tup [chunkV (liftC c cell).1,.vec .slot (liftC c cell).2]):=by
 have hrt:=cright_api c hc
 have hh:=hf.heaps
 cases hR : rightB c with
 | false =>
   rw [hR] at hrt
   have hs : liftC c cell = (c,[]):=by unfold liftC;rw [if_neg (by rw [hR];simp)]
   rw [hs]
   refine Api.of_fin cfg_ok Try.func13 rfl (nt:=18) rfl rfl ?_
   conv=>whnf
   repeat' (first|exact trivial|((first|refine kL ?_|(refine ⟨fun hb=>?_,fun hb=>?_⟩<;>(try simp only [nrm] at hb)<;>(try (first|(exfalso;omega)|contradiction|exact kB hb)))|(refine isE 36 ?_;refine kE (copied_ev c hf) [(390001,150001),(390003,150003),(390005,150005)] rfl ?_)|(refine isD 36 ?_;refine kF (copied_ev c hf) [(390001,150001),(390003,150003),(390005,150005)] rfl ?_)|refine kA hrt ?_|refine kD hrt ?_|refine kW cfg_ok ?_|refine kC ?_|refine bdA ?_|refine bd2 ?_|refine bdR ?_|refine bdL ?_)<;>(conv=>whnf))|(refine And.intro ?_ ?_;rotate_left;(conv=>whnf);rotate_right))
   all_goals (simp;done)
 | true =>
   rw [hR] at hrt
   have hs : liftC c cell = ({ c with heaps:=keptH cell c.heaps },hitsH cell c.heaps):=by unfold liftC;rw [if_pos hR]
   rw [hs]
   rcases first_hit (p:=fun k=>(elt .heap c.heaps k).cell = cell) (fun k=>Classical.em _) c.heaps.length with hm|⟨i,hi,h1,h2⟩
   · obtain ⟨e1,e2⟩:=keptH_all hm
     rw [e1,e2]
     refine Api.of_fin cfg_ok Try.func13 rfl (nt:=18) rfl rfl ?_
     conv=>whnf
     repeat' (first|exact trivial|((first|refine kL ?_|(refine ⟨fun hb=>?_,fun hb=>?_⟩<;>(try simp only [nrm] at hb)<;>(try (first|(exfalso;omega)|contradiction|exact kB hb)))|(refine isE 36 ?_;refine kE (copied_ev c hf) [(390001,150001),(390003,150003),(390005,150005)] rfl ?_)|(refine isD 36 ?_;refine kF (copied_ev c hf) [(390001,150001),(390003,150003),(390005,150005)] rfl ?_)|(refine isE 37 ?_;refine kE (del_none c.heaps cell (by omega) hm) [(1,150003),(0,6),(2,14)] rfl ?_)|(refine isD 37 ?_;refine kF (del_none c.heaps cell (by omega) hm) [(1,150003),(0,6),(2,14)] rfl ?_)|refine kA hrt ?_|refine kD hrt ?_|refine kW cfg_ok ?_|refine kC ?_|refine bdA ?_|refine bd2 ?_|refine bdR ?_|refine bdL ?_)<;>(conv=>whnf))|(refine And.intro ?_ ?_;rotate_left;(conv=>whnf);rotate_right))
     all_goals (simp;done)
   · have h32 : c.heaps.length ≤ 4000000000000:=by have:=right_heaps hR;omega
     have hk:=keptH_le (cell:=cell) (Nat.le_refl c.heaps.length)
     rw [List.take_length] at hk
     refine Api.of_fin cfg_ok Try.func13 rfl (nt:=18) rfl rfl ?_
     conv=>whnf
     repeat' (first|exact trivial|((first|refine kL ?_|(refine ⟨fun hb=>?_,fun hb=>?_⟩<;>(try simp only [nrm] at hb)<;>(try (first|(exfalso;omega)|contradiction|exact kB hb)))|(refine isE 36 ?_;refine kE (copied_ev c hf) [(390001,150001),(390003,150003),(390005,150005)] rfl ?_)|(refine isD 36 ?_;refine kF (copied_ev c hf) [(390001,150001),(390003,150003),(390005,150005)] rfl ?_)|(refine isE 37 ?_;refine kE (del_some c.heaps cell i h32 hi h2 h1) [(1,150003),(0,6),(2,14),(390001,150007)] rfl ?_)|(refine isD 37 ?_;refine kF (del_some c.heaps cell i h32 hi h2 h1) [(1,150003),(0,6),(2,14),(390001,150007)] rfl ?_)|refine kA hrt ?_|refine kD hrt ?_|refine kW cfg_ok ?_|refine kC ?_|refine bdA ?_|refine bd2 ?_|refine bdR ?_|refine bdL ?_)<;>(conv=>whnf))|(refine And.intro ?_ ?_;rotate_left;(conv=>whnf);rotate_right))
     all_goals (first|(simp;done)|skip)
open Go Go.RowKit Eng
def cnt (k : Int) (s : Slot) : Int:=if ¬ k = 0 ∧ s.item = k then max s.n 0 else 0
def countS : List Slot → Int → Int
 | [],_=>0
 | s :: r,k=>cnt k s + countS r k
theorem badSlot_false {s : Slot} : badSlot s = false ↔ (s.item = 0 ∧ s.n = 0) ∨ (1 ≤ s.n ∧ s.n ≤ stackN s.item):=by
 simp only [badSlot,Bool.and_eq_false_iff,Bool.or_eq_false_iff,Bool.not_eq_false',Bool.and_eq_true,beq_iff_eq,decide_eq_false_iff_not]
 omega
theorem bagOk_iff {l : List Slot} : bagOk l = true ↔ ∀ s ∈ l,badSlot s = false:=by
 unfold bagOk
 simp
open Go Go.RowKit Eng
open Go Go.RowKit Eng
open Go Go.RowKit Eng
open Go Go.RowKit Eng
def sumP (p q : Player) : Nat:=p.bag.length + p.offer.length + q.bag.length + q.offer.length
def pairB (p q : Player) : Bool:=decide (sumP p q ≤ 300) && (!(decide (p.id = q.id)) && (mayB p && mayB q))
def haveP (p q : Player) (i : Int) : Int:=countS p.bag i + countS p.offer i + countS q.bag i + countS q.offer i
theorem stackN_item {i : Int} (h : 1 ≤ stackN i) : 0 ≤ i ∧ i ≤ 255:=by
 unfold stackN at h
 (repeat' split at h)<;>omega
theorem bagOk_okSlot {l : List Slot} (h : bagOk l = true) : ∀ s ∈ l,okSlot s:=by
 intro s hs
 rcases badSlot_false.1 (bagOk_iff.1 h s hs) with h|h
 · exact ⟨by omega,by omega⟩
 · exact stackN_item (by omega)
structure KeptP (p q a b : Player) : Prop where
 ma : mayB a = true
 mb : mayB b = true
 ia : a.id = p.id
 ib : b.id = q.id
 sum : ∀ k,haveP a b k = haveP p q k
theorem KeptP.refl {p q : Player} (hp : mayB p = true) (hq : mayB q = true) : KeptP p q p q:=⟨hp,hq,rfl,rfl,fun _=>rfl⟩
def pl (id : Int) (s : Slot) : Player:=⟨id,0,0,s :: List.replicate 7 ⟨0,0⟩,-1,[],false⟩
open Go Go.RowKit Eng
def addI (C : List Int) (s : Slot) : List Int:=C.set s.item.toNat (elt .i64 C s.item.toNat + s.n)
def inN (b n : Int) : Prop:=0 ≤ n ∧ n ≤ b
structure CntOk (C : List Int) (b : Int) : Prop where
 len : C.length = 13
 bd : ∀ i,i < 13 → inN b (elt .i64 C i)
def fitS (s : Slot) : Prop:=0 ≤ s.item ∧ s.item ≤ 12 ∧ 0 ≤ s.n ∧ s.n ≤ 16
theorem elt_addI {C : List Int} {s : Slot} (hl : C.length = 13) (hs : fitS s) (i : Nat) : elt .i64 (addI C s) i = if i = s.item.toNat then elt .i64 C i + s.n else elt .i64 C i:=by
 unfold addI
 obtain ⟨h0,h1,_,_⟩:=hs
 by_cases h : i = s.item.toNat
 · rw [if_pos h];subst h
   unfold elt
   rw [List.getElem?_set_self (by omega)];rfl
 · rw [if_neg h]
   unfold elt
   rw [List.getElem?_set_ne (fun e=>h e.symm)]
theorem CntOk.mono {C : List Int} {b c : Int} (h : CntOk C b) (hb : b ≤ c) : CntOk C c:=⟨h.len,fun i hi=>by have:=h.bd i hi;unfold inN at *;omega⟩
theorem CntOk.add {C : List Int} {b : Int} {s : Slot} (h : CntOk C b) (hs : fitS s) : CntOk (addI C s) (b + 16):=by
 refine ⟨by unfold addI;rw [List.length_set];exact h.len,fun i hi=>?_⟩
 rw [elt_addI h.len hs]
 have:=h.bd i hi
 obtain ⟨_,_,h2,h3⟩:=hs
 unfold inN at *
 split<;>omega
theorem CntOk.foldl {l : List Slot} : ∀ {C : List Int} {b : Int},CntOk C b → (∀ s ∈ l,fitS s) → CntOk (l.foldl addI C) (b + 16 * l.length):=by
 induction l with
 | nil=>intro C b h _;simpa using h
 | cons a r ih =>
   intro C b h hs
   have:=ih (h.add (hs a (by simp))) fun s hm=>hs s (List.mem_cons_of_mem _ hm)
   rw [List.foldl_cons]
   refine this.mono ?_
   rw [List.length_cons];omega
open Go Go.RowKit Eng
def slotsP (l : List Player) : List Slot:=l.flatMap fun p=>p.bag ++ p.offer
def slotsC (l : List Chunk) : List Slot:=l.flatMap fun c=>c.heaps.map (·.slot) ++ c.boxes.flatMap (·.bag)
def slotsW (w : Wld) : List Slot:=slotsP w.players ++ slotsC w.chunks
structure FitW (w : Wld) : Prop where
 bag : ∀ p ∈ w.players,∀ s ∈ p.bag,fitS s
 offer : ∀ p ∈ w.players,∀ s ∈ p.offer,fitS s
 heap : ∀ c ∈ w.chunks,∀ h ∈ c.heaps,fitS h.slot
 box : ∀ c ∈ w.chunks,∀ b ∈ c.boxes,∀ s ∈ b.bag,fitS s
theorem mem_slotsP {l : List Player} {s : Slot} (h : s ∈ slotsP l) : ∃ p ∈ l,s ∈ p.bag ∨ s ∈ p.offer:=by
 unfold slotsP at h
 rw [List.mem_flatMap] at h
 obtain ⟨p,hp,hs⟩:=h
 exact ⟨p,hp,List.mem_append.1 hs⟩
theorem mem_slotsC {l : List Chunk} {s : Slot} (h : s ∈ slotsC l) : ∃ c ∈ l,(∃ h ∈ c.heaps,h.slot = s) ∨ ∃ b ∈ c.boxes,s ∈ b.bag:=by
 unfold slotsC at h
 rw [List.mem_flatMap] at h
 obtain ⟨c,hc,hs⟩:=h
 refine ⟨c,hc,(List.mem_append.1 hs).imp ?_ ?_⟩
 · intro h;rw [List.mem_map] at h;exact h
 · intro h;rw [List.mem_flatMap] at h;exact h
theorem FitW.fit {w : Wld} (h : FitW w) : ∀ s ∈ slotsW w,fitS s:=by
 intro s hs
 rcases List.mem_append.1 hs with hs|hs
 · obtain ⟨p,hp,hs⟩:=mem_slotsP hs
   rcases hs with hs|hs
   · exact h.bag p hp s hs
   · exact h.offer p hp s hs
 · obtain ⟨c,hc,hs⟩:=mem_slotsC hs
   rcases hs with ⟨x,hx,rfl⟩|⟨b,hb,hs⟩
   · exact h.heap c hc x hx
   · exact h.box c hc b hb s hs
open Go Go.RowKit Eng
def niceS (s : Slot) : Prop:=0 ≤ s.item ∧ s.item ≤ 12 ∧ 0 ≤ s.n ∧ s.n ≤ stackN s.item
theorem niceS.fit {s : Slot} (h : niceS s) : fitS s:=by have:=stackN_bd s.item;unfold niceS at h;unfold fitS;omega
open Go Go.RowKit Eng
theorem itemOk_bd {i : Int} (h : itemOk i = true) : 0 ≤ i ∧ i ≤ 12:=by
 unfold itemOk blockB at h
 simp only [Bool.or_eq_true,beq_iff_eq,Bool.and_eq_true,decide_eq_true_eq] at h
 omega
theorem someB_ok {s : Slot} (h : someB s = true) : okSlot s ∧ 1 ≤ s.n ∧ s.n ≤ 16:=by
 simp only [someB,Bool.and_eq_true,decide_eq_true_eq] at h
 have:=stackN_bd s.item
 exact ⟨stackN_item (by omega),by omega,by omega⟩
theorem right_heap {c : Chunk} (h : rightB c = true) {x : Heap} (hx : x ∈ c.heaps) : someB x.slot = true ∧ 0 ≤ x.cell ∧ x.cell < 64:=by
 have hh:=((right_iff c).1 h).2.2
 rw [List.any_eq_false] at hh
 have h2:=hh x hx
 simp only [badHeap,Bool.or_eq_true,Bool.not_eq_true',not_or,Bool.not_eq_false,Bool.and_eq_true,decide_eq_true_eq] at h2
 exact ⟨h2.2,h2.1⟩
theorem okC_right {c : Chunk} (h : rightB c = true) : OkC c:=by
 refine ⟨fun i hi=>by have:=itemOk_bd ((right_fits h).items i hi);omega,fun x hx=>(someB_ok (right_heap h hx).1).1,fun b hb=>?_,?_,?_,?_⟩
 · obtain ⟨h1,h2⟩:=right_bag h hb
   exact ⟨bagOk_okSlot h2,by rw [h1];unfold big;omega⟩
 · rw [right_len h];unfold big;omega
 · have:=right_heaps h;unfold big;omega
 · have:=right_boxes h;unfold big;omega
theorem rightH {c : Chunk} (h : rightB c = true) {l : List Heap} (hl : l.length ≤ 32) (hb : l.any badHeap = false) : rightB { c with heaps:=l } = true:=by
 obtain ⟨h1,h2,h3⟩:=(right_iff c).1 h
 rw [right_iff]
 refine ⟨?_,h2,hb⟩
 simp only [headB,Bool.and_eq_true,decide_eq_true_eq] at h1 ⊢
 exact ⟨h1.1,h1.2.1,h1.2.2.1,h1.2.2.2.1,h1.2.2.2.2.1,by omega⟩
theorem drop_right {c : Chunk} (h : rightB c = true) {t : Int} {s : Slot} (ht : 0 ≤ t ∧ t < 64) : rightB (dropC c t s).1 = true:=by
 unfold dropC
 rw [if_neg (by rw [h];simp),if_neg (by omega)]
 cases hs : someB s with
 | false=>rw [if_pos rfl];exact h
 | true =>
   rw [if_neg (by simp)]
   by_cases h32 : 32 ≤ c.heaps.length
   · rw [if_pos h32];exact h
   · rw [if_neg h32]
     refine rightH h (by simp;omega) ?_
     rw [List.any_append,((right_iff c).1 h).2.2]
     simp [badHeap,hs,ht]
theorem fill_right {c : Chunk} (h : rightB c = true) (t : Int) (l : List Slot) : rightB (fillC c t l).1 = true:=by
 rw [fillC_right h]
 split
 · exact h
 · rename_i h1
   split
   · exact h
   · rename_i h2
     exact right_upd h (by
       rw [there_iff (right_fits h).up]
       cases hh : (getB c.boxes t).isSome with
       | true=>rfl
       | false=>exact absurd hh h1) (by simpa using h2)
theorem lift_right {c : Chunk} (h : rightB c = true) (t : Int) : rightB (liftC c t).1 = true ∧ ∀ s ∈ (liftC c t).2,someB s = true:=by
 unfold liftC
 rw [if_pos h]
 refine ⟨rightH h (Nat.le_trans (List.length_filter_le _ _) (right_heaps h)) ?_,fun s hs=>?_⟩
 · have hh:=((right_iff c).1 h).2.2
   rw [List.any_eq_false] at hh ⊢
   exact fun x hx=>hh x (List.mem_filter.1 hx).1
 · simp only [hitsH,List.mem_map] at hs
   obtain ⟨x,hx,rfl⟩:=hs
   exact (right_heap h (List.mem_filter.1 hx).1).1
end Go.Proofs.Ytaecchphjploaaa
