/- Varints and bytes; references of bags, worlds, trade. -/
import Derived.Test.YtkojlembanldcaaGreatGh
set_option linter.unusedSimpArgs false
set_option linter.unusedVariables false
set_option maxRecDepth 100000
set_option maxHeartbeats 16000000
namespace Go.Proofs.YtkojlembanldcaaGreat
open Go Go.RowKit Eng
def uintF : Nat → Nat → List Int
 | 0,n=>[(n : Int)]
 | f + 1,n=>if n < 128 then [(n : Int)] else ((n % 128 + 128 : Nat) : Int) :: uintF f (n / 128)
def uintL (n : Nat) : List Int:=uintF 9 n
theorem uintF_len (f n : Nat) : (uintF f n).length ≤ f + 1:=by
 induction f generalizing n with
 | zero=>simp [uintF]
 | succ f ih=>simp only [uintF];split<;>simp;have:=ih (n / 128);omega
def eqL (a b : List Int) : Bool:=decide (a = b)
def okU8 (l : List Int) : Prop:=∀ i ∈ l,0 ≤ i ∧ i ≤ 255
theorem byte_inj {a b : Int} (ha : 0 ≤ a ∧ a ≤ 255) (hb : 0 ≤ b ∧ b ≤ 255) (h : UInt8.ofNat a.toNat = UInt8.ofNat b.toNat) : a = b:=by
 have:=congrArg UInt8.toNat h
 simp only [UInt8.toNat_ofNat'] at this
 omega
theorem bytes_inj : ∀ {a b : List Int},okU8 a → okU8 b → (a.map fun n=>UInt8.ofNat n.toNat) = (b.map fun n=>UInt8.ofNat n.toNat) → a = b
 | [],[],_,_,_=>rfl
 | [],_ :: _,_,_,h=>by simp at h
 | _ :: _,[],_,_,h=>by simp at h
 | x :: a,y :: b,ha,hb,h=>by
  simp only [List.map_cons,List.cons.injEq] at h
  rw [byte_inj (ha x (by simp)) (hb y (by simp)) h.1,bytes_inj (fun i hi=>ha i (by simp [hi])) (fun i hi=>hb i (by simp [hi])) h.2]
theorem bytes_loop (bs : ByteArray) : ∀ (k i : Nat) (r : List UInt8),i + k = bs.size → ByteArray.toList.loop bs i r = r.reverse ++ bs.data.toList.drop i:=by
 have hs : bs.size = bs.data.toList.length:=by rw [Array.length_toList];rfl
 intro k
 induction k with
 | zero =>
  intro i r h
  unfold ByteArray.toList.loop
  rw [if_neg (by omega),List.drop_of_length_le (by omega),List.append_nil]
 | succ k ih =>
  intro i r h
  unfold ByteArray.toList.loop
  rw [if_pos (by omega),ih (i + 1) _ (by omega)]
  have hlt : i < bs.data.toList.length:=by omega
  have hg : bs.get! i = bs.data.toList[i]:=by
   show bs.data[i]! = _
   rw [getElem!_pos bs.data i (by rw [← Array.length_toList];exact hlt)];simp
  rw [List.drop_eq_getElem_cons hlt,hg]
  simp only [List.reverse_cons,List.append_assoc,List.singleton_append]
theorem bytes_toList (bs : ByteArray) : bs.toList = bs.data.toList:=by
 unfold ByteArray.toList
 rw [bytes_loop bs bs.size 0 [] (by omega)];simp
theorem strOf_eq {a b : List Int} (ha : okU8 a) (hb : okU8 b) : ((strOfNums a).toList == (strOfNums b).toList) = eqL a b:=by
 unfold eqL
 rw [Bool.eq_iff_iff,beq_iff_eq,decide_eq_true_eq]
 constructor
 ·intro h
  have h2 : (strOfNums a).data.toList = (strOfNums b).data.toList:=by
   rw [← bytes_toList,← bytes_toList,h]
  exact bytes_inj ha hb h2
 ·rintro rfl;rfl
open Go Go.RowKit Eng
def okN (z : Int) : Prop:=0 ≤ z ∧ z < 9223372036854775808
theorem okN.le {z : Int} (h : okN z) : z ≤ 18446744073709551615:=by have:=h.2;omega
def putY (ns : List Int) : List Int:=ns.flatMap fun z=>uintL z.toNat
open Go Go.RowKit Eng
theorem rightGo_boxes : ∀ (l : List Int) (k : Nat) (bs : List Box),rightGo l k bs = some [] → bs.length ≤ l.length ∧ ∀ b ∈ bs,b.bag.length = 6 ∧ bagOk b.bag = true
 | [],k,bs,h=>by simp [rightGo] at h;subst h;simp
 | i :: r,k,bs,h=>by
  simp only [rightGo] at h
  split at h
  ·split at h
   ·cases bs with
    | nil=>cases h
    | cons b bs =>
     simp only at h
     split at h
     ·rename_i hb
      obtain ⟨h1,h2⟩:=rightGo_boxes r (k + 1) bs h
      have hbk : b.bag.length = 6 ∧ bagOk b.bag = true:=by simp only [boxAt,Bool.and_eq_true,beq_iff_eq,decide_eq_true_eq] at hb;exact ⟨by omega,hb.2.2⟩
      refine ⟨by simp only [List.length_cons];omega,fun x hx=>?_⟩
      rcases List.mem_cons.1 hx with rfl|hx
      ·exact hbk
      ·exact h2 x hx
     ·cases h
   ·obtain ⟨h1,h2⟩:=rightGo_boxes r (k + 1) bs h
    exact ⟨by simp only [List.length_cons];omega,h2⟩
  ·cases h
theorem stackN_le (i : Int) : stackN i ≤ 16:=by unfold stackN;(repeat' split)<;>omega
theorem okN_slot {s : Slot} (h : badSlot s = false) : 0 ≤ s.n ∧ s.n ≤ 16:=by
 have:=stackN_le s.item
 simp only [badSlot,Bool.and_eq_false_iff,Bool.or_eq_false_iff,Bool.not_eq_false',Bool.and_eq_true,beq_iff_eq,decide_eq_false_iff_not] at h
 omega
theorem okN_heap {h : Heap} (hb : badHeap h = false) : 0 ≤ h.cell ∧ h.cell < 64 ∧ 1 ≤ h.slot.n ∧ h.slot.n ≤ 16:=by
 have:=stackN_le h.slot.item
 simp only [badHeap,someB,Bool.or_eq_false_iff,Bool.not_eq_false',Bool.and_eq_true,decide_eq_true_eq] at hb
 omega
theorem any_false {α : Type} {p : α → Bool} {l : List α} (h : l.any p = false) {a : α} (ha : a ∈ l) : p a = false:=by
 cases hp : p a with
 | false=>rfl
 | true=>rw [List.any_eq_true.2 ⟨a,ha,hp⟩] at h;cases h
def heapL (h : Heap) : List Int:=putY [h.cell,h.slot.item,h.slot.n]
def slotL (s : Slot) : List Int:=putY [s.item,s.n]
def boxL (b : Box) : List Int:=b.bag.flatMap slotL
def bytesC (c : Chunk) : List Int:=((putY [c.x,c.y] ++ c.cells) ++ putY [(c.heaps.length : Int)]) ++ c.heaps.flatMap heapL ++ c.boxes.flatMap boxL
theorem app_next (P : List Int) (l : List Int) (k : Nat) (h : k < l.length) : List.take (P.length + k + 1) (List.take (P.length + k) (P ++ l.take k) ++ [elt .u8 l k]) = P ++ l.take (k + 1):=by
 have h1 : (P ++ l.take k).length = P.length + k:=by simp;omega
 rw [← h1,List.take_length,List.take_of_length_le (by simp only [List.length_append,List.length_cons,List.length_nil];omega)]
 have:=elt_get .u8 l k h
 rw [List.take_add_one,this]
 simp
theorem flatMap_take {t : Ty} {l : List (El t)} (f : El t → List Int) {k : Nat} (h : k < l.length) : (l.take (k + 1)).flatMap f = (l.take k).flatMap f ++ f (elt t l k):=by
 have:=elt_get t l k h
 rw [List.take_add_one,this]
 simp
open Go Go.RowKit Eng
def fillF (may : Slot → Bool) (i size : Int) : List Slot → Int → List Slot × Int
 | [],n=>([],n)
 | s :: r,n=>if may s = true ∧ 0 < min (size - s.n) n then (⟨i,s.n + min (size - s.n) n⟩ :: (fillF may i size r (n - min (size - s.n) n)).1,(fillF may i size r (n - min (size - s.n) n)).2)
  else (s :: (fillF may i size r n).1,(fillF may i size r n).2)
theorem fillF_eq {may : Slot → Bool} {i size : Int} : ∀ (l : List Slot) (p : List Slot × Int),l.foldl (fstep may i size) p = (p.1 ++ (fillF may i size l p.2).1,(fillF may i size l p.2).2)
 | [],p=>by simp [fillF]
 | s :: r,p=>by
  rw [List.foldl_cons,fillF_eq r]
  unfold fstep
  by_cases h : may s = true ∧ 0 < min (size - s.n) p.2
  ·rw [if_pos h];simp only [fillF,if_pos h];simp
  ·rw [if_neg h];simp only [fillF,if_neg h];simp
theorem fillS_F {may : Slot → Bool} {i size n : Int} {l : List Slot} : fillS may i size l n = fillF may i size l n:=by
 unfold fillS;rw [fillF_eq];simp
theorem fillF_zero {may : Slot → Bool} {i size : Int} : ∀ l : List Slot,fillF may i size l 0 = (l,0)
 | []=>rfl
 | s :: r=>by simp only [fillF];rw [if_neg (by omega),fillF_zero r]
def one1 (i : Int) : List Slot → Option (List Slot)
 | []=>none
 | s :: r=>if s.item = i ∧ s.n < stackN i then some (⟨s.item,s.n + 1⟩ :: r) else (one1 i r).map (s :: ·)
def one0 (i : Int) : List Slot → Option (List Slot)
 | []=>none
 | s :: r=>if s.n = 0 then some (⟨i,1⟩ :: r) else (one0 i r).map (s :: ·)
def refOne (l : List Slot) (i : Int) : Option (List Slot):=match one1 i l with|some x=>some x|none=>one0 i l
theorem one1_none {i n : Int} : ∀ {l : List Slot},one1 i l = none → fillF (mayI i) i (stackN i) l n = (l,n)
 | [],_=>rfl
 | s :: r,h=>by
  simp only [one1] at h
  split at h
  ·cases h
  ·rename_i hc
   simp only [fillF]
   rw [if_neg (fun hm=>hc ⟨by simpa [mayI] using hm.1,by omega⟩),one1_none (l:=r) (by simpa using h)]
theorem one1_step {i n : Int} (hn : 1 ≤ n) : ∀ {l l' : List Slot},one1 i l = some l' → fillF (mayI i) i (stackN i) l n = fillF (mayI i) i (stackN i) l' (n - 1)
 | [],l',h=>by simp [one1] at h
 | s :: r,l',h=>by
  simp only [one1] at h
  split at h
  ·rename_i hc
   cases h
   have hm : mayI i s = true:=by simp [mayI,hc.1]
   have hm2 : mayI i ⟨s.item,s.n + 1⟩ = true:=by simp [mayI,hc.1]
   simp only [fillF]
   rw [if_pos ⟨hm,by omega⟩]
   by_cases h1 : 0 < min (stackN i - (s.n + 1)) (n - 1)
   ·rw [if_pos ⟨hm2,h1⟩]
    rw [show s.n + 1 + min (stackN i - (s.n + 1)) (n - 1) = s.n + min (stackN i - s.n) n by omega,show n - 1 - min (stackN i - (s.n + 1)) (n - 1) = n - min (stackN i - s.n) n by omega]
   ·rw [if_neg (fun hx=>h1 hx.2)]
    rw [show min (stackN i - s.n) n = 1 by omega,hc.1]
  ·rename_i hc
   cases hr : one1 i r with
   | none=>rw [hr] at h;cases h
   | some r' =>
    rw [hr] at h
    cases h
    simp only [fillF]
    have hno : ∀ m : Int,¬ (mayI i s = true ∧ 0 < min (stackN i - s.n) m):=fun m hm=>hc ⟨by simpa [mayI] using hm.1,by omega⟩
    rw [if_neg (hno _),if_neg (hno _),one1_step hn hr]
theorem one0_none {i n : Int} : ∀ {l : List Slot},one0 i l = none → fillF may0 i (stackN i) l n = (l,n)
 | [],_=>rfl
 | s :: r,h=>by
  simp only [one0] at h
  split at h
  ·cases h
  ·rename_i hc
   simp only [fillF]
   rw [if_neg (fun hm=>hc (by simpa [may0] using hm.1)),one0_none (l:=r) (by simpa using h)]
theorem one0_step {i n : Int} (hn : 1 ≤ n) (hz : 1 ≤ stackN i) : ∀ {l l' : List Slot},one1 i l = none → one0 i l = some l' → fillF may0 i (stackN i) l n = fillF may0 i (stackN i) (fillF (mayI i) i (stackN i) l' (n - 1)).1 (fillF (mayI i) i (stackN i) l' (n - 1)).2
 | [],l',_,h=>by simp [one0] at h
 | s :: r,l',h1,h=>by
  simp only [one1] at h1
  split at h1
  ·cases h1
  ·rename_i hc1
   have h1' : one1 i r = none:=by simpa using h1
   simp only [one0] at h
   split at h
   ·rename_i hc
    cases h
    have hm : may0 s = true:=by simp [may0,hc]
    have hmi : mayI i ⟨i,1⟩ = true:=by simp [mayI]
    simp only [fillF]
    rw [if_pos ⟨hm,by omega⟩]
    by_cases h2 : 0 < min (stackN i - 1) (n - 1)
    ·rw [if_pos ⟨hmi,h2⟩,one1_none h1']
     simp only [fillF]
     rw [if_neg (fun hx=>by have:=hx.1;simp [may0] at this;omega)]
     rw [show s.n + min (stackN i - s.n) n = 1 + min (stackN i - 1) (n - 1) by omega,show n - 1 - min (stackN i - 1) (n - 1) = n - min (stackN i - s.n) n by omega]
    ·rw [if_neg (fun hx=>h2 hx.2),one1_none h1']
     simp only [fillF]
     rw [if_neg (fun hx=>by have:=hx.1;simp [may0] at this)]
     rw [show min (stackN i - s.n) n = 1 by omega,hc];rfl
   ·rename_i hc
    cases hr : one0 i r with
    | none=>rw [hr] at h;cases h
    | some r' =>
     rw [hr] at h
     cases h
     have hno : ∀ m : Int,¬ (mayI i s = true ∧ 0 < min (stackN i - s.n) m):=fun m hm=>hc1 ⟨by simpa [mayI] using hm.1,by omega⟩
     have hno0 : ∀ m : Int,¬ (may0 s = true ∧ 0 < min (stackN i - s.n) m):=fun m hm=>hc (by simpa [may0] using hm.1)
     simp only [fillF]
     rw [if_neg (hno _)]
     simp only [fillF]
     rw [if_neg (hno0 _),if_neg (hno0 _),one0_step hn hz h1' hr]
def both (l : List Slot) (i n : Int) : List Slot × Int:=fillF may0 i (stackN i) (fillF (mayI i) i (stackN i) l n).1 (fillF (mayI i) i (stackN i) l n).2
theorem both_zero (l : List Slot) (i : Int) : both l i 0 = (l,0):=by unfold both;rw [fillF_zero,fillF_zero]
theorem both_none {l : List Slot} {i n : Int} (h : refOne l i = none) : both l i n = (l,n):=by
 unfold refOne at h
 cases h1 : one1 i l with
 | some x=>rw [h1] at h;cases h
 | none=>rw [h1] at h;unfold both;rw [one1_none h1,one0_none h]
theorem both_some {l l' : List Slot} {i n : Int} (hn : 1 ≤ n) (hz : 1 ≤ stackN i) (h : refOne l i = some l') : both l i n = both l' i (n - 1):=by
 unfold refOne at h
 cases h1 : one1 i l with
 | some x=>rw [h1] at h;cases h;unfold both;rw [one1_step hn h1]
 | none=>rw [h1] at h;unfold both;rw [one1_none h1];exact one0_step hn hz h1 h
theorem putS_both {l : List Slot} {i n : Int} (hn : 1 ≤ n) (hz : ¬ stackN i = 0) (hb : bagOk l = true) : putS l i n = both l i n:=by
 unfold putS both
 rw [if_neg (by omega),if_neg (by simp [hz,hb]),fillS_F,fillS_F]
theorem one1_props {i : Int} : ∀ {l l' : List Slot},one1 i l = some l' → l'.length = l.length ∧ ((∀ s ∈ l,badSlot s = false) → ∀ s ∈ l',badSlot s = false)
 | [],l',h=>by simp [one1] at h
 | s :: r,l',h=>by
  simp only [one1] at h
  split at h
  ·rename_i hc
   cases h
   refine ⟨rfl,fun hb x hx=>?_⟩
   rcases List.mem_cons.1 hx with rfl|hx
   ·have:=badSlot_false.1 (hb s (by simp))
    rw [badSlot_false];simp only
    have h2:=hc.2
    rw [← hc.1] at h2
    omega
   ·exact hb x (by simp [hx])
  ·cases hr : one1 i r with
   | none=>rw [hr] at h;cases h
   | some r' =>
    rw [hr] at h
    cases h
    obtain ⟨h1,h2⟩:=one1_props hr
    refine ⟨by simp [h1],fun hb x hx=>?_⟩
    rcases List.mem_cons.1 hx with rfl|hx
    ·exact hb x (by simp)
    ·exact h2 (fun y hy=>hb y (by simp [hy])) x hx
theorem one0_props {i : Int} (hz : 1 ≤ stackN i) : ∀ {l l' : List Slot},one0 i l = some l' → l'.length = l.length ∧ ((∀ s ∈ l,badSlot s = false) → ∀ s ∈ l',badSlot s = false)
 | [],l',h=>by simp [one0] at h
 | s :: r,l',h=>by
  simp only [one0] at h
  split at h
  ·cases h
   refine ⟨rfl,fun hb x hx=>?_⟩
   rcases List.mem_cons.1 hx with rfl|hx
   ·rw [badSlot_false];simp only;omega
   ·exact hb x (by simp [hx])
  ·cases hr : one0 i r with
   | none=>rw [hr] at h;cases h
   | some r' =>
    rw [hr] at h
    cases h
    obtain ⟨h1,h2⟩:=one0_props hz hr
    refine ⟨by simp [h1],fun hb x hx=>?_⟩
    rcases List.mem_cons.1 hx with rfl|hx
    ·exact hb x (by simp)
    ·exact h2 (fun y hy=>hb y (by simp [hy])) x hx
theorem refOne_props {l l' : List Slot} {i : Int} (hz : 1 ≤ stackN i) (h : refOne l i = some l') : l'.length = l.length ∧ (bagOk l = true → bagOk l' = true):=by
 unfold refOne at h
 cases h1 : one1 i l with
 | some x=>rw [h1] at h;cases h;obtain ⟨a,b⟩:=one1_props h1;exact ⟨a,fun hb=>bagOk_iff.2 (b (bagOk_iff.1 hb))⟩
 | none=>rw [h1] at h;obtain ⟨a,b⟩:=one0_props hz h;exact ⟨a,fun hb=>bagOk_iff.2 (b (bagOk_iff.1 hb))⟩
theorem one1_at {i : Int} {l : List Slot} {k : Nat} (hk : k < l.length) : one1 i (l.drop k) = if (elt .slot l k).item = i ∧ (elt .slot l k).n < stackN i then some (⟨(elt .slot l k).item,(elt .slot l k).n + 1⟩ :: l.drop (k + 1)) else (one1 i (l.drop (k + 1))).map (elt .slot l k :: ·):=by
 rw [drop_elt (t:=.slot) hk];rfl
theorem one0_at {i : Int} {l : List Slot} {k : Nat} (hk : k < l.length) : one0 i (l.drop k) = if (elt .slot l k).n = 0 then some (⟨i,1⟩ :: l.drop (k + 1)) else (one0 i (l.drop (k + 1))).map (elt .slot l k :: ·):=by
 rw [drop_elt (t:=.slot) hk];rfl
theorem take_next {tt : Ty} {l : List (El tt)} {k : Nat} (hk : k < l.length) : l.take (k + 1) = l.take k ++ [elt tt l k]:=by
 have:=elt_get tt l k hk
 rw [List.take_add_one,this];rfl
theorem set_cut {tt : Ty} {l : List (El tt)} {k : Nat} (hk : k < l.length) (x : El tt) : l.set k x = l.take k ++ x :: l.drop (k + 1):=List.set_eq_take_append_cons_drop.trans (by rw [if_pos hk])
theorem refStack_api (i : Int) (h0 : 0 ≤ i) (h1 : i ≤ 255) : Api Tryz.prog 260 [.lit (.int .u8 i)] (i64 (stackN i)):=by
 refine aF Tryz.func260 15 ?_
 conv=>whnf
 repeat' (first|exact trivial|((first|(refine ⟨fun hb=>?_,fun hb=>?_⟩<;>(try simp only [nrm] at hb)<;>try exact kZ hb)|refine kV ?_)<;>(conv=>whnf))|refine kY ?_ ?_)
 all_goals (refine congrArg (Value.int .i64) ?_;unfold stackN;(repeat' split)<;>omega)
theorem refRight_api (l : List (El .slot)) (n : Int) (hl : l.length ≤ big) (hw : ∀ s ∈ l,okSlot s) : Api Tryz.prog 216 [.vec .slot l,i64 n] (bol (decide ((l.length : Int) = n) && bagOk l)):=by
 unfold big at hl
 by_cases hn : (l.length : Int) = n
 ·rw [decide_eq_true hn,Bool.true_and]
  refine aF Tryz.func216 45 ?_
  conv=>whnf
  repeat' (first|exact trivial|((first|(refine ⟨fun hb=>?_,fun hb=>?_⟩<;>(try simp only [nrm] at hb)<;>try exact kZ hb)|refine kV ?_)<;>(conv=>whnf))|refine kY ?_ ?_)
  refine Runs.loopS cfg_ok (σ:=Nat) [0,5] (fun k=>[.vec .slot l,i64 k]) (fun _=>[]) (fun k=>k ≤ l.length ∧ bagOk (l.drop k) = bagOk l) (fun k=>l.length - k) 0 ⟨by omega,rfl⟩ ?_ ?_
  ·exact fD0
  ·rintro k ⟨hk,he⟩
   by_cases hlt : k < l.length
   ·have hs:=refStack_api (elt .slot l k).item (hw _ (elt_mem (t:=.slot) hlt)).1 (hw _ (elt_mem (t:=.slot) hlt)).2
    have hE : elt .slot l (k : Int).toNat = elt .slot l k:=rfl
    have hstep : bagOk (l.drop k) = (!(badSlot (elt .slot l k)) && bagOk (l.drop (k + 1))):=by
     rw [drop_elt (t:=.slot) hlt];unfold bagOk;simp
    rw [hstep] at he
    cases hbs : badSlot (elt .slot l k) with
    | true =>
     rw [hbs] at he
     have hb2 : ¬ (((elt .slot l k).item = 0 ∧ (elt .slot l k).n = 0) ∨ (1 ≤ (elt .slot l k).n ∧ (elt .slot l k).n ≤ stackN (elt .slot l k).item)):=fun h=>by rw [badSlot_false.2 h] at hbs;cases hbs
     rw [← he]
     exact fD0
    | false =>
     rw [hbs] at he
     have hb2:=badSlot_false.1 hbs
     conv=>whnf
     repeat' (first|exact trivial|((first|(refine ⟨fun hb=>?_,fun hb=>?_⟩<;>(try simp only [nrm] at hb)<;>try exact kZ hb)|refine kV ?_)<;>(conv=>whnf))|refine kY ?_ ?_)
     all_goals
      refine .to (k + 1) ⟨hlt,by rw [← he];rfl⟩ (by omega) ?_
      conv=>whnf
      repeat' (first|exact trivial|((first|(refine ⟨fun hb=>?_,fun hb=>?_⟩<;>(try simp only [nrm] at hb)<;>try exact kZ hb)|refine kV ?_)<;>(conv=>whnf))|refine kY ?_ ?_)
   ·obtain rfl : k = l.length:=by omega
    rw [List.drop_length] at he
    rw [← he]
    exact fD0
 ·rw [decide_eq_false hn,Bool.false_and]
  refine aF Tryz.func216 45 ?_
  exact fD0
theorem refOne_ev (l : List (El .slot)) (len : Nat) (i : Int) (hlen : len = l.length) (h0 : 0 ≤ i) (h1 : i ≤ 255) (hl : l.length ≤ 9000000000000000000) (hs : smallN l) : Ev1 Tryz.prog 261 [.own .slot 1 0 len none,.lit (.int .u8 i)] [(1,.row .slot l)] (bol (refOne l i).isSome) [(1,.row .slot ((refOne l i).getD l))]:=by
 subst hlen
 have hst:=refStack_api i h0 h1
 have hbd:=stackN_bd i
 refine eF Tryz.func261 53 ?_
 conv=>whnf
 refine Runs.loopS cfg_ok (σ:=Nat) [0,1,5] (fun k=>[.own .slot 1 0 l.length none,.lit (.int .u8 i),i64 k]) (fun _=>[(1,.row .slot l)]) (fun k=>k ≤ l.length ∧ one1 i l = (one1 i (l.drop k)).map (l.take k ++ ·)) (fun k=>l.length - k) 0 ⟨by omega,by simp⟩ ?_ ?_
 ·conv=>whnf
  repeat' (first|exact trivial|((first|(refine ⟨fun hb=>?_,fun hb=>?_⟩<;>(try simp only [nrm] at hb)<;>try exact kZ hb)|refine kV ?_)<;>(conv=>whnf))|refine kY ?_ ?_)
  all_goals first|exact List.take_length|skip
 ·rintro k ⟨hk,he⟩
  by_cases hlt : k < l.length
  ·rw [one1_at hlt] at he
   have hE : elt .slot l ((k : Int).toNat + 0) = elt .slot l k:=rfl
   have hsk:=hs _ (elt_mem (t:=.slot) hlt)
   have hE2 : (elt .slot l ((k : Int).toNat + 0)).n = (elt .slot l k).n:=rfl
   by_cases hc : (elt .slot l k).item = i ∧ (elt .slot l k).n < stackN i
   ·rw [if_pos hc] at he
    have hr : refOne l i = some (l.set k ⟨(elt .slot l k).item,(elt .slot l k).n + 1⟩):=by
     unfold refOne;rw [he,set_cut (tt:=.slot) hlt];rfl
    rw [hr]
    have hc1 : (elt .slot l (k + 0)).item = i:=hc.1
    have hc2 : (elt .slot l (k + 0)).n < stackN i:=hc.2
    conv=>whnf
    repeat' (first|exact trivial|((first|(refine ⟨fun hb=>?_,fun hb=>?_⟩<;>(try simp only [nrm] at hb)<;>try exact kZ hb)|refine kV ?_)<;>(conv=>whnf))|refine kY ?_ ?_)
    all_goals first|rfl|exact List.take_length|skip
   ·rw [if_neg hc] at he
    have hc1 : (elt .slot l (k + 0)).item = i → stackN i ≤ (elt .slot l (k + 0)).n:=fun h=>by
     rcases Int.lt_or_le (elt .slot l k).n (stackN i) with h2|h2
     ·exact absurd ⟨h,h2⟩ hc
     ·exact h2
    conv=>whnf
    repeat' (first|exact trivial|((first|(refine ⟨fun hb=>?_,fun hb=>?_⟩<;>(try simp only [nrm] at hb)<;>try exact kZ hb)|refine kV ?_)<;>(conv=>whnf))|refine kY ?_ ?_)
    all_goals
     refine .to (k + 1) ⟨hlt,by rw [he,take_next (tt:=.slot) hlt,Option.map_map];congr 1;funext x;simp⟩ (by omega) ?_
     conv=>whnf
     repeat' (first|exact trivial|((first|(refine ⟨fun hb=>?_,fun hb=>?_⟩<;>(try simp only [nrm] at hb)<;>try exact kZ hb)|refine kV ?_)<;>(conv=>whnf))|refine kY ?_ ?_)
    all_goals first|exact List.take_length|skip
  ·obtain rfl : k = l.length:=by omega
   rw [List.drop_length] at he
   have h1n : one1 i l = none:=he
   conv=>whnf
   repeat' (first|exact trivial|((first|(refine ⟨fun hb=>?_,fun hb=>?_⟩<;>(try simp only [nrm] at hb)<;>try exact kZ hb)|refine kV ?_)<;>(conv=>whnf))|refine kY ?_ ?_)
   refine Runs.loopS cfg_ok (σ:=Nat) [0,1,6] (fun k=>[.own .slot 1 0 l.length none,.lit (.int .u8 i),i64 k]) (fun _=>[(1,.row .slot l)]) (fun k=>k ≤ l.length ∧ one0 i l = (one0 i (l.drop k)).map (l.take k ++ ·)) (fun k=>l.length - k) 0 ⟨by omega,by simp⟩ ?_ ?_
   ·conv=>whnf
    repeat' (first|exact trivial|((first|(refine ⟨fun hb=>?_,fun hb=>?_⟩<;>(try simp only [nrm] at hb)<;>try exact kZ hb)|refine kV ?_)<;>(conv=>whnf))|refine kY ?_ ?_)
    all_goals first|exact List.take_length|skip
   ·rintro k ⟨hk,he⟩
    by_cases hlt : k < l.length
    ·rw [one0_at hlt] at he
     have hE2 : (elt .slot l ((k : Int).toNat + 0)).n = (elt .slot l k).n:=rfl
     by_cases hc : (elt .slot l k).n = 0
     ·rw [if_pos hc] at he
      have hr : refOne l i = some (l.set k ⟨i,1⟩):=by
       unfold refOne;rw [h1n,he,set_cut (tt:=.slot) hlt];rfl
      rw [hr]
      have hc1 : (elt .slot l (k + 0)).n = 0:=hc
      conv=>whnf
      repeat' (first|exact trivial|((first|(refine ⟨fun hb=>?_,fun hb=>?_⟩<;>(try simp only [nrm] at hb)<;>try exact kZ hb)|refine kV ?_)<;>(conv=>whnf))|refine kY ?_ ?_)
      all_goals first|rfl|exact List.take_length|skip
     ·rw [if_neg hc] at he
      have hc1 : ¬ (elt .slot l (k + 0)).n = 0:=hc
      conv=>whnf
      repeat' (first|exact trivial|((first|(refine ⟨fun hb=>?_,fun hb=>?_⟩<;>(try simp only [nrm] at hb)<;>try exact kZ hb)|refine kV ?_)<;>(conv=>whnf))|refine kY ?_ ?_)
      refine .to (k + 1) ⟨hlt,by rw [he,take_next (tt:=.slot) hlt,Option.map_map];congr 1;funext x;simp⟩ (by omega) ?_
      conv=>whnf
      repeat' (first|exact trivial|((first|(refine ⟨fun hb=>?_,fun hb=>?_⟩<;>(try simp only [nrm] at hb)<;>try exact kZ hb)|refine kV ?_)<;>(conv=>whnf))|refine kY ?_ ?_)
      all_goals first|exact List.take_length|skip
    ·obtain rfl : k = l.length:=by omega
     rw [List.drop_length] at he
     have hr : refOne l i = none:=by unfold refOne;rw [h1n,he];rfl
     rw [hr]
     conv=>whnf
     repeat' (first|exact trivial|((first|(refine ⟨fun hb=>?_,fun hb=>?_⟩<;>(try simp only [nrm] at hb)<;>try exact kZ hb)|refine kV ?_)<;>(conv=>whnf))|refine kY ?_ ?_)
     all_goals first|rfl|exact List.take_length|skip
theorem refPut_api (l : List (El .slot)) (i n : Int) (hl : l.length * 16 ≤ 140737488355328) (hw : ∀ s ∈ l,okSlot s) (h0 : 0 ≤ i) (h1 : i ≤ 255) (hn : n ≤ 9223372036854775807) (hn0 : -9223372036854775808 ≤ n) : Api Tryz.prog 220 [.vec .slot l,.lit (.int .u8 i),i64 n] (.tup [.vec .slot (putS l i n).1,i64 (putS l i n).2]):=by
 have hst:=refStack_api i h0 h1
 have hrt:=refRight_api l l.length (by unfold big;omega) hw
 rw [decide_eq_true rfl,Bool.true_and] at hrt
 have hbd:=stackN_bd i
 by_cases hn1 : n < 1
 ·have hp : putS l i n = (l,0):=by unfold putS;rw [if_pos hn1]
  rw [hp]
  cases hbk : bagOk l
  all_goals
   rw [hbk] at hrt
   refine aF Tryz.func220 37 ?_
   conv=>whnf
   repeat' (first|exact trivial|((first|(refine ⟨fun hb=>?_,fun hb=>?_⟩<;>(try simp only [nrm] at hb)<;>try exact kZ hb)|refine kV ?_)<;>(conv=>whnf))|refine kY ?_ ?_)
   all_goals first|(simp;done)|(refine congrArg (Value.int .i64) ?_;omega)|skip
 ·by_cases hz : stackN i = 0
  ·have hp : putS l i n = (l,n):=by unfold putS;rw [if_neg hn1,if_pos (.inl hz)]
   rw [hp]
   cases hbk : bagOk l
   all_goals
    rw [hbk] at hrt
    refine aF Tryz.func220 37 ?_
    conv=>whnf
    repeat' (first|exact trivial|((first|(refine ⟨fun hb=>?_,fun hb=>?_⟩<;>(try simp only [nrm] at hb)<;>try exact kZ hb)|refine kV ?_)<;>(conv=>whnf))|refine kY ?_ ?_)
    all_goals first|(simp;done)|(refine congrArg (Value.int .i64) ?_;omega)|skip
  ·cases hbk : bagOk l with
   | false =>
    have hp : putS l i n = (l,n):=by unfold putS;rw [if_neg hn1,if_pos (.inr hbk)]
    rw [hp]
    rw [hbk] at hrt
    refine aF Tryz.func220 37 ?_
    conv=>whnf
    repeat' (first|exact trivial|((first|(refine ⟨fun hb=>?_,fun hb=>?_⟩<;>(try simp only [nrm] at hb)<;>try exact kZ hb)|refine kV ?_)<;>(conv=>whnf))|refine kY ?_ ?_)
    all_goals first|(simp;done)|(refine congrArg (Value.int .i64) ?_;omega)|skip
   | true =>
    rw [putS_both (by omega) hz hbk]
    rw [hbk] at hrt
    generalize hB : both l i n = B at *
    refine aF Tryz.func220 37 ?_
    conv=>whnf
    repeat' (first|exact trivial|((first|(refine ⟨fun hb=>?_,fun hb=>?_⟩<;>(try simp only [nrm] at hb)<;>try exact kZ hb)|refine kV ?_)<;>(conv=>whnf))|refine kY ?_ ?_)
    refine Runs.loopS cfg_ok (σ:=Int × List Slot) [1,2,8] (fun (m,L)=>[.lit (.int .u8 i),i64 m,.own .slot 190001 0 l.length none]) (fun (m,L)=>[(190001,.row .slot L)])
     (fun (m,L)=>0 ≤ m ∧ m ≤ n ∧ bagOk L = true ∧ L.length = l.length ∧ both L i m = B) (fun (m,L)=>m.toNat) (n,l) ⟨by omega,by omega,hbk,rfl,hB⟩ ?_ ?_
    ·conv=>whnf
     repeat' (first|exact trivial|((first|(refine ⟨fun hb=>?_,fun hb=>?_⟩<;>(try simp only [nrm] at hb)<;>try exact kZ hb)|refine kV ?_)<;>(conv=>whnf))|refine kY ?_ ?_)
     all_goals first|(simp;done)|skip
    ·rintro ⟨m,L⟩ ⟨g1,g2,g3,g4,g5⟩
     dsimp only
     have ho:=refOne_ev L l.length i g4.symm h0 h1 (by omega) (bagOk_small g3)
     by_cases hm : m = 0
     ·subst hm
      rw [both_zero] at g5
      subst g5
      conv=>whnf
      repeat' (first|exact trivial|((first|(refine ⟨fun hb=>?_,fun hb=>?_⟩<;>(try simp only [nrm] at hb)<;>try exact kZ hb)|refine kV ?_)<;>(conv=>whnf))|refine kY ?_ ?_)
      all_goals first|rfl|(simp;done)|(refine take_all ?_;simp [g4];done)|(simp [g4];done)|(refine take_all ?_;dsimp only;omega)|skip
     ·cases hr : refOne L i with
      | none =>
       rw [hr] at ho
       rw [both_none hr] at g5
       subst g5
       conv=>whnf
       repeat' (first|exact trivial|((first|refine kL ?_|(refine ⟨fun hb=>?_,fun hb=>?_⟩<;>(try simp only [nrm] at hb)<;>try exact kZ hb)|refine kE ho [(1,190001)] rfl ?_|refine kF ho [(1,190001)] rfl ?_|refine kV ?_)<;>(conv=>whnf))|refine kY ?_ ?_)
       all_goals first|rfl|(simp;done)|(refine take_all ?_;simp [g4];done)|(simp [g4];done)|(refine take_all ?_;dsimp only;omega)|skip
      | some L' =>
       rw [hr] at ho
       dsimp only [Option.isSome_some,Option.getD_some] at ho
       obtain ⟨q1,q2⟩:=refOne_props (by omega) hr
       rw [both_some (by omega) (by omega) hr] at g5
       conv=>whnf
       repeat' (first|exact trivial|((first|refine kL ?_|(refine ⟨fun hb=>?_,fun hb=>?_⟩<;>(try simp only [nrm] at hb)<;>try exact kZ hb)|refine kE ho [(1,190001)] rfl ?_|refine kF ho [(1,190001)] rfl ?_|refine kV ?_)<;>(conv=>whnf))|refine kY ?_ ?_)
       refine .to (m - 1,L') ⟨by dsimp only;omega,by dsimp only;omega,q2 g3,by rw [q1];exact g4,g5⟩ (by dsimp only;omega) ?_
       conv=>whnf
       repeat' (first|exact trivial|((first|(refine ⟨fun hb=>?_,fun hb=>?_⟩<;>(try simp only [nrm] at hb)<;>try exact kZ hb)|refine kV ?_)<;>(conv=>whnf))|refine kY ?_ ?_)
       all_goals first|rfl|exact take_all (q1.trans g4)|(simp;done)|(refine take_all ?_;simp [g4];done)|(simp [g4];done)|(refine take_all ?_;dsimp only;omega)|skip
theorem refTake_api (l : List (El .slot)) (a n : Int) (hl : l.length * 16 ≤ 140737488355328) (hw : ∀ s ∈ l,okSlot s) : Api Tryz.prog 160 [.vec .slot l,i64 a,i64 n] (.tup [.vec .slot (takeS l a n).1,.agg [.lit (.int .u8 (takeS l a n).2.1.item),.lit (.int .i64 (takeS l a n).2.1.n)],i64 (takeS l a n).2.2]):=by
 have hrt:=refRight_api l l.length (by unfold big;omega) hw
 rw [decide_eq_true rfl,Bool.true_and] at hrt
 unfold takeS
 by_cases hr : 0 ≤ a ∧ a < l.length
 ·cases hbk : bagOk l with
  | false =>
   rw [if_pos (.inr (.inr rfl))]
   rw [hbk] at hrt
   refine aF Tryz.func160 71 ?_
   conv=>whnf
   repeat' (first|exact trivial|((first|(refine ⟨fun hb=>?_,fun hb=>?_⟩<;>(try simp only [nrm] at hb)<;>try exact kZ hb)|refine kV ?_)<;>(conv=>whnf))|refine kY ?_ ?_)
   all_goals first|(simp;done)|skip
  | true =>
   rw [if_neg (by simp;omega)]
   rw [hbk] at hrt
   have hsm:=bagOk_small hbk _ (elt_mem (t:=.slot) (l:=l) (i:=a.toNat) (by omega))
   have hn3 : (elt .slot (List.take 0 ([] : List (El .slot)) ++ l) (a.toNat + 0)).n = (elt .slot l a.toNat).n:=rfl
   by_cases hn1 : n < 1
   ·rw [if_pos hn1]
    refine aF Tryz.func160 71 ?_
    conv=>whnf
    repeat' (first|exact trivial|((first|(refine ⟨fun hb=>?_,fun hb=>?_⟩<;>(try simp only [nrm] at hb)<;>try exact kZ hb)|refine kV ?_)<;>(conv=>whnf))|refine kY ?_ ?_)
    all_goals first|(simp;done)|skip
   ·rw [if_neg hn1]
    by_cases hwant : (elt .slot l a.toNat).n < n
    ·rw [if_pos hwant]
     refine aF Tryz.func160 71 ?_
     conv=>whnf
     repeat' (first|exact trivial|((first|(refine ⟨fun hb=>?_,fun hb=>?_⟩<;>(try simp only [nrm] at hb)<;>try exact kZ hb)|refine kV ?_)<;>(conv=>whnf))|refine kY ?_ ?_)
     all_goals first|(simp;done)|skip
    ·rw [if_neg hwant]
     refine aF Tryz.func160 71 ?_
     conv=>whnf
     repeat' (first|exact trivial|((first|(refine ⟨fun hb=>?_,fun hb=>?_⟩<;>(try simp only [nrm] at hb)<;>try exact kZ hb)|refine kV ?_)<;>(conv=>whnf))|refine kY ?_ ?_)
     ·simp only [Nat.add_zero,List.take_zero,List.nil_append,List.drop_zero,Nat.zero_add] at hb ⊢
      rw [less_one (by omega) hb];exact take_all (List.length_set ..)
     ·simp only [Nat.add_zero,List.take_zero,List.nil_append,List.drop_zero,Nat.zero_add] at hb ⊢
      rw [less_two (by omega) hb];exact take_all (List.length_set ..)
 ·rw [if_pos (by omega)]
  cases hbk : bagOk l
  all_goals
   rw [hbk] at hrt
   refine aF Tryz.func160 71 ?_
   conv=>whnf
   repeat' (first|exact trivial|((first|(refine ⟨fun hb=>?_,fun hb=>?_⟩<;>(try simp only [nrm] at hb)<;>try exact kZ hb)|refine kV ?_)<;>(conv=>whnf))|refine kY ?_ ?_)
   all_goals first|(simp;done)|skip
theorem refAll_api (l m : List (El .slot)) (hl : l.length * 16 ≤ 140737488355328) (hw : ∀ s ∈ l,okSlot s) (hm : m.length ≤ 9000000000000000000) (hv : ∀ s ∈ m,okSlot s) : Api Tryz.prog 265 [.vec .slot l,.vec .slot m] (.tup [.vec .slot (allS l m).1,i64 (allS l m).2]):=by
 have hrl:=refRight_api l l.length (by unfold big;omega) hw
 have hrm:=refRight_api m m.length (by unfold big;omega) hv
 rw [decide_eq_true rfl,Bool.true_and] at hrl hrm
 unfold allS
 cases hbl : bagOk l with
 | false =>
  rw [if_pos (.inl rfl)]
  rw [hbl] at hrl
  refine aF Tryz.func265 56 ?_
  conv=>whnf
  repeat' (first|exact trivial|((first|(refine ⟨fun hb=>?_,fun hb=>?_⟩<;>(try simp only [nrm] at hb)<;>try exact kZ hb)|refine kV ?_)<;>(conv=>whnf))|refine kY ?_ ?_)
  all_goals first|(simp;done)|skip
 | true =>
  rw [hbl] at hrl
  cases hbm : bagOk m with
  | false =>
   rw [if_pos (.inr rfl)]
   rw [hbm] at hrm
   refine aF Tryz.func265 56 ?_
   conv=>whnf
   repeat' (first|exact trivial|((first|(refine ⟨fun hb=>?_,fun hb=>?_⟩<;>(try simp only [nrm] at hb)<;>try exact kZ hb)|refine kV ?_)<;>(conv=>whnf))|refine kY ?_ ?_)
   all_goals first|(simp;done)|skip
  | true =>
   rw [if_neg (by simp)]
   rw [hbm] at hrm
   have hsm:=bagOk_small hbm
   refine aF Tryz.func265 56 ?_
   conv=>whnf
   repeat' (first|exact trivial|((first|(refine ⟨fun hb=>?_,fun hb=>?_⟩<;>(try simp only [nrm] at hb)<;>try exact kZ hb)|refine kV ?_)<;>(conv=>whnf))|refine kY ?_ ?_)
   refine Runs.loopS cfg_ok (σ:=Nat × List Slot) [0,1,6,7] (fun (k,out)=>[.vec .slot l,.vec .slot m,.vec .slot out,i64 k]) (fun _=>[])
    (fun (k,out)=>k ≤ m.length ∧ allGo (m.drop k) out = allGo m l ∧ out.length = l.length ∧ ∀ s ∈ out,okSlot s) (fun (k,_)=>m.length - k) (0,l) ⟨by omega,rfl,rfl,hw⟩ ?_ ?_
   ·conv=>whnf
    repeat' (first|exact trivial|((first|(refine ⟨fun hb=>?_,fun hb=>?_⟩<;>(try simp only [nrm] at hb)<;>try exact kZ hb)|refine kV ?_)<;>(conv=>whnf))|refine kY ?_ ?_)
    all_goals first|(simp;done)|skip
   ·rintro ⟨k,out⟩ ⟨hk,hg,hlen,hok⟩
    dsimp only
    by_cases hlt : k < m.length
    ·rw [drop_elt (t:=.slot) hlt] at hg
     simp only [allGo] at hg
     have hE:=hsm _ (elt_mem (t:=.slot) hlt)
     have hE2:=hv _ (elt_mem (t:=.slot) hlt)
     have hE3 : (elt .slot m (k : Int).toNat).n = (elt .slot m k).n:=rfl
     have hput:=refPut_api out (elt .slot m k).item (elt .slot m k).n (by omega) hok hE2.1 hE2.2 (by omega) (by omega)
     have hpl:=putS_length out (elt .slot m k).item (elt .slot m k).n
     have hpo:=putS_ok (n:=(elt .slot m k).n) hok hE2
     by_cases h00 : (elt .slot m k).n = 0
     ·have hp0 : putS out (elt .slot m k).item (elt .slot m k).n = (out,0):=by unfold putS;rw [if_pos (by omega)]
      rw [hp0,if_neg (by simp)] at hg
      have h01 : (elt .slot m (k : Int).toNat).n = 0:=h00
      conv=>whnf
      repeat' (first|exact trivial|((first|(refine ⟨fun hb=>?_,fun hb=>?_⟩<;>(try simp only [nrm] at hb)<;>try exact kZ hb)|refine kV ?_)<;>(conv=>whnf))|refine kY ?_ ?_)
      refine .to (k + 1,out) ⟨hlt,hg,hlen,hok⟩ (by dsimp only;omega) ?_
      exact fD0
     ·generalize putS out (elt .slot m k).item (elt .slot m k).n = Q at *
      obtain ⟨Q,q⟩:=Q
      dsimp only at hg hput hpl hpo
      have h01 : ¬ (elt .slot m (k : Int).toNat).n = 0:=h00
      conv=>whnf
      repeat' (first|exact trivial|((first|(refine ⟨fun hb=>?_,fun hb=>?_⟩<;>(try simp only [nrm] at hb)<;>try exact kZ hb)|refine kV ?_)<;>(conv=>whnf))|refine kY ?_ ?_)
      ·rw [if_pos hb] at hg;rw [← hg];simp
      ·rw [if_pos hb] at hg;rw [← hg]
      ·rw [if_neg (by omega)] at hg
       refine .to (k + 1,Q) ⟨hlt,hg,hpl.trans hlen,hpo⟩ (by dsimp only;omega) ?_
       exact fD0
    ·obtain rfl : k = m.length:=by omega
     rw [List.drop_length] at hg
     simp only [allGo] at hg
     conv=>whnf
     repeat' (first|exact trivial|((first|(refine ⟨fun hb=>?_,fun hb=>?_⟩<;>(try simp only [nrm] at hb)<;>try exact kZ hb)|refine kV ?_)<;>(conv=>whnf))|refine kY ?_ ?_)
     all_goals rw [← hg]
open Go Go.RowKit Eng
abbrev nilS : AV:=.lit (.slice none 0 0)
abbrev w16C : List AV:=[i64 16,.lit (.int .u64 0),i64 0,nilS,nilS]
abbrev w16V : AV:=.agg [i64 16,.lit (.int .u64 0),i64 0,nilS,nilS]
theorem rplayer_api (p : Player) (hp : OkP p) : Api Tryz.prog 153 [playerV p] (bol (soundB p)):=by
 have h1:=refRight_api p.bag 8 (by have:=hp.nb;unfold big;omega) hp.bag
 have h2:=refRight_api p.offer 8 (by have:=hp.no;unfold big;omega) hp.offer
 have h3:=hp.no
 change Api _ _ _ (bol (bag8 p.bag)) at h1
 change Api _ _ _ (bol (bag8 p.offer)) at h2
 unfold soundB
 generalize bag8 p.bag = b1 at *
 generalize bag8 p.offer = b2 at *
 cases b1<;>cases b2<;>cases hag : p.agrees
 all_goals
  refine aF Tryz.func153 48 ?_
  conv=>whnf
  repeat' (first|exact trivial|((first|(refine ⟨fun hb=>?_,fun hb=>?_⟩<;>(try simp only [nrm] at hb)<;>try exact kZ hb)|refine kV ?_)<;>(conv=>whnf))|refine kY ?_ ?_)
  all_goals first
   | (refine congrArg Value.bool ?_;simp;done)
   | (refine congrArg Value.bool ?_;simp;omega)
   | (refine congrArg Value.bool ?_;simp [*];done)
   | (refine congrArg Value.bool ?_;simp [*];omega)
   | (refine congrArg Value.bool ?_;simp_all;done)
   | (refine congrArg Value.bool ?_;simp_all;omega)
   | (simp_all;done)
theorem within16 (x y : Int) : withinW 16 x y = true ↔ 0 ≤ x ∧ 0 ≤ y ∧ x < 128 ∧ y < 128:=by
 unfold withinW
 rw [wr8_eq (by omega) (by omega)]
 simp only [Bool.and_eq_true,decide_eq_true_eq]
 omega
theorem rthere_api (p : Player) : Api Tryz.prog 154 [w16V,playerV p] (bol (withinW 16 p.x p.y)):=by
 have h:=within16 p.x p.y
 cases hW : withinW 16 p.x p.y with
 | true =>
  obtain ⟨h1,h2,h3,h4⟩:=h.1 hW
  refine aF Tryz.func154 27 ?_
  conv=>whnf
  repeat' (first|exact trivial|((first|(refine ⟨fun hb=>?_,fun hb=>?_⟩<;>(try simp only [nrm] at hb)<;>try exact kZ hb)|refine kV ?_)<;>(conv=>whnf))|refine kY ?_ ?_)
  all_goals (refine congrArg Value.bool ?_;simp;omega)
 | false =>
  have h5 : ¬ (0 ≤ p.x ∧ 0 ≤ p.y ∧ p.x < 128 ∧ p.y < 128):=fun hx=>by rw [h.2 hx] at hW;cases hW
  refine aF Tryz.func154 27 ?_
  conv=>whnf
  repeat' (first|exact trivial|((first|(refine ⟨fun hb=>?_,fun hb=>?_⟩<;>(try simp only [nrm] at hb)<;>try exact kZ hb)|refine kV ?_)<;>(conv=>whnf))|refine kY ?_ ?_)
  all_goals (refine congrArg Value.bool ?_;simp;omega)
theorem rcopied_api  : Api Tryz.prog 37 [w16V] w16V:=by
 refine aF Tryz.func37 60 ?_
 conv=>whnf
 repeat' (first|exact trivial|((first|(refine ⟨fun hb=>?_,fun hb=>?_⟩<;>(try simp only [nrm] at hb)<;>try exact kZ hb)|refine kV ?_)<;>(conv=>whnf))|refine kY ?_ ?_)
 refine Runs.loopS cfg_ok (σ:=Nat) [1,2,3,4] (fun _=>[.ptr 2 0,.ptr 4 0,.ptr 6 0,i64 0]) (fun _=>[(2,.box w16C),(4,.box [i64 0,.lit (.int .u64 0),i64 0,nilS,nilS]),(6,.box w16C)]) (fun _=>True) (fun _=>0) 0 trivial ?_ ?_
 ·exact fD0
 ·intro k _
  conv=>whnf
  repeat' (first|exact trivial|((first|(refine ⟨fun hb=>?_,fun hb=>?_⟩<;>(try simp only [nrm] at hb)<;>try exact kZ hb)|refine kV ?_)<;>(conv=>whnf))|refine kY ?_ ?_)
  refine Runs.loopS cfg_ok (σ:=Nat) [1,2,3,5] (fun _=>[.ptr 2 0,.ptr 4 0,.ptr 6 0,i64 0]) (fun _=>[(2,.box w16C),(4,.box [i64 0,.lit (.int .u64 0),i64 0,nilS,nilS]),(6,.box w16C)]) (fun _=>True) (fun _=>0) 0 trivial ?_ ?_
  ·exact fD0
  ·intro k _
   exact fD0
theorem rright_api  : Api Tryz.prog 80 [w16V] (bol true):=by
 refine aF Tryz.func80 137 ?_
 conv=>whnf
 repeat' (first|exact trivial|((first|(refine ⟨fun hb=>?_,fun hb=>?_⟩<;>(try simp only [nrm] at hb)<;>try exact kZ hb)|refine kV ?_)<;>(conv=>whnf))|refine kY ?_ ?_)
 refine Runs.loopS cfg_ok (σ:=Nat) [1,3] (fun _=>[.ptr 2 0,i64 0]) (fun _=>[(2,.box w16C)]) (fun _=>True) (fun _=>0) 0 trivial ?_ ?_
 ·exact fD0
 ·intro k _
  conv=>whnf
  repeat' (first|exact trivial|((first|(refine ⟨fun hb=>?_,fun hb=>?_⟩<;>(try simp only [nrm] at hb)<;>try exact kZ hb)|refine kV ?_)<;>(conv=>whnf))|refine kY ?_ ?_)
  refine Runs.loopS cfg_ok (σ:=Nat) [1,5] (fun _=>[.ptr 2 0,i64 0]) (fun _=>[(2,.box w16C)]) (fun _=>True) (fun _=>0) 0 trivial ?_ ?_
  ·exact fD0
  ·intro k _
   exact fD0
def noP : Player:=⟨0,0,0,[],0,[],false⟩
theorem rPlayer_api (id : Int) : Api Tryz.prog 82 [w16V,i64 id] (.tup [playerV noP,bol false]):=by
 have h:=rright_api
 refine aF Tryz.func82 29 ?_
 conv=>whnf
 repeat' (first|exact trivial|((first|(refine ⟨fun hb=>?_,fun hb=>?_⟩<;>(try simp only [nrm] at hb)<;>try exact kZ hb)|refine kV ?_)<;>(conv=>whnf))|refine kY ?_ ?_)
 refine Runs.loopS cfg_ok (σ:=Nat) [1,2,4,6] (fun _=>[i64 id,.ptr 4 0,.ptr 8 0,i64 0]) (fun _=>[(4,.box w16C),(8,.box [i64 0,i64 0,i64 0,nilS,i64 0,nilS,bol false])]) (fun _=>True) (fun _=>0) 0 trivial ?_ ?_
 ·exact fD0
 ·intro k _
  exact fD0
theorem rset_api (p : Player) (hp : OkP p) : Api Tryz.prog 83 [w16V,playerV p] (.tup [.agg [i64 16,.lit (.int .u64 0),i64 0,.vec .chunk [],.vec .player (if mayB p = true then [p] else [])],i64 (if mayB p = true then 0 else 110)]):=by
 have h1:=rcopied_api
 have h2:=rright_api
 have h3:=rplayer_api p hp
 have h4:=rthere_api p
 have h5:=rPlayer_api p.id
 have h6:=hp.nb
 have h7:=hp.no
 unfold mayB
 cases hS : soundB p
 all_goals
  rw [hS] at h3
  cases hW : withinW 16 p.x p.y
  all_goals
   rw [hW] at h4
   refine aF Tryz.func83 102 ?_
   conv=>whnf
   repeat' (first|exact trivial|((first|(refine ⟨fun hb=>?_,fun hb=>?_⟩<;>(try simp only [nrm] at hb)<;>try exact kZ hb)|refine kV ?_)<;>(conv=>whnf))|refine kY ?_ ?_)
 refine Runs.loopS cfg_ok (σ:=Nat) [3,4,6,9,10,11] (fun _=>[.ptr 6 0,.ptr 8 0,.ptr 12 0,nilS,bol false,i64 0]) (fun _=>[(6,.box [i64 p.id,i64 p.x,i64 p.y,.own .slot 95 0 p.bag.length none,i64 p.wth,.own .slot 103 0 p.offer.length none,bol p.agrees]),(8,.box [i64 0,.lit (.int .u64 0),i64 0,nilS,nilS]),(12,.box w16C),(95,.row .slot p.bag),(103,.row .slot p.offer)]) (fun _=>True) (fun _=>0) 0 trivial ?_ ?_
 ·conv=>whnf
  repeat' (first|exact trivial|((first|(refine ⟨fun hb=>?_,fun hb=>?_⟩<;>(try simp only [nrm] at hb)<;>try exact kZ hb)|refine kV ?_)<;>(conv=>whnf))|refine kY ?_ ?_)
  all_goals first|(simp;done)|skip
 ·intro k _
  conv=>whnf
  repeat' (first|exact trivial|((first|(refine ⟨fun hb=>?_,fun hb=>?_⟩<;>(try simp only [nrm] at hb)<;>try exact kZ hb)|refine kV ?_)<;>(conv=>whnf))|refine kY ?_ ?_)
  all_goals first|(simp;done)|skip
open Go Go.RowKit Eng
theorem rown_api (p : Player) (hp : OkP p) : Api Tryz.prog 263 [playerV p] (playerV p):=by
 have h1:=hp.nb
 have h2:=hp.no
 refine aF Tryz.func263 13 ?_
 conv=>whnf
 repeat' (first|exact trivial|((first|(refine ⟨fun hb=>?_,fun hb=>?_⟩<;>(try simp only [nrm] at hb)<;>try exact kZ hb)|refine kV ?_)<;>(conv=>whnf))|refine kY ?_ ?_)
 all_goals first|(simp;done)|skip
theorem rdeal_api (p q : Player) (hp : OkP p) (hq : OkP q) : Api Tryz.prog 264 [playerV p,playerV q] (bol (dealB p q)):=by
 have h1:=rset_api p hp
 have h2:=rset_api q hq
 generalize (if mayB p = true then [p] else []) = L1 at h1
 generalize (if mayB q = true then [q] else []) = L2 at h2
 unfold dealB
 cases hP : mayB p
 all_goals
  rw [hP] at h1
  cases hQ : mayB q
  all_goals
   rw [hQ] at h2
   by_cases he : p.id = q.id
   all_goals
    first|rw [decide_eq_true he]|rw [decide_eq_false he]
    refine aF Tryz.func264 34 ?_
    conv=>whnf
    repeat' (first|exact trivial|((first|(refine ⟨fun hb=>?_,fun hb=>?_⟩<;>(try simp only [nrm] at hb)<;>try exact kZ hb)|refine kV ?_)<;>(conv=>whnf))|refine kY ?_ ?_)
    all_goals first|rfl|(refine congrArg Value.bool ?_;simp [he];done)|(exfalso;simp at hb;done)
theorem roffer_api (p q : Player) (a n : Int) (hp : OkP p) (hq : OkP q) : Api Tryz.prog 224 [playerV p,playerV q,i64 a,i64 n] (.tup [playerV (offerP p q a n).1,playerV (offerP p q a n).2.1,i64 (offerP p q a n).2.2]):=by
 have h1:=rown_api p hp
 have h2:=rown_api q hq
 have h3:=rdeal_api p q hp hq
 have h4:=refTake_api p.bag a n (by have:=hp.nb;omega) hp.bag
 have hnb : newB8.length = 8:=rfl
 have hnk : ∀ s ∈ newB8,okSlot s:=by intro s hs;rw [(List.mem_replicate.1 hs).2];exact ⟨by decide,by decide⟩
 have hto:=takeS_ok (a:=a) (n:=n) hp.bag
 have htn:=takeS_n (l:=p.bag) (a:=a) (n:=n)
 unfold offerP
 cases hD : dealB p q with
 | false =>
  rw [if_pos rfl]
  rw [hD] at h3
  refine aF Tryz.func224 85 ?_
  exact fD0
 | true =>
  rw [if_neg (by simp)]
  rw [hD] at h3
  by_cases hw : ¬ p.wth = -1 ∧ ¬ p.wth = q.id
  ·rw [if_pos hw]
   refine aF Tryz.func224 85 ?_
   exact fD0
  ·rw [if_neg hw]
   by_cases hE : (takeS p.bag a n).2.2 = 0
   ·rw [if_neg (by simpa using hE)]
    obtain ⟨hn1,hn2,hn3,_⟩:=htn hE
    by_cases hm : p.wth = -1
    ·rw [if_pos hm]
     have h7:=refPut_api newB8 (takeS p.bag a n).2.1.item (takeS p.bag a n).2.1.n (by omega) hnk hto.1.1 hto.1.2 (by omega) (by omega)
     rw [hE] at h4
     generalize putS newB8 (takeS p.bag a n).2.1.item (takeS p.bag a n).2.1.n = R at *
     generalize takeS p.bag a n = T at *
     obtain ⟨R,r⟩:=R
     obtain ⟨T1,T2,T3⟩:=T
     dsimp only at *
     by_cases hr : 0 < r
     ·rw [if_pos hr]
      refine aF Tryz.func224 85 ?_
      conv=>whnf
      repeat' (first|exact trivial|((first|refine kL ?_|(refine ⟨fun hb=>?_,fun hb=>?_⟩<;>(try simp only [nrm] at hb)<;>try exact kZ hb)|(refine callGive h7 rfl rfl ?_;(conv=>whnf);refine ⟨by decide,rfl,?_⟩)|refine kV ?_)<;>(conv=>whnf))|refine kY ?_ ?_)
      all_goals first|(refine congrArg Value.bool ?_;simp [waverP,hb];done)|skip
     ·rw [if_neg hr]
      refine aF Tryz.func224 85 ?_
      conv=>whnf
      repeat' (first|exact trivial|((first|refine kL ?_|(refine ⟨fun hb=>?_,fun hb=>?_⟩<;>(try simp only [nrm] at hb)<;>try exact kZ hb)|(refine callGive h7 rfl rfl ?_;(conv=>whnf);refine ⟨by decide,rfl,?_⟩)|refine kV ?_)<;>(conv=>whnf))|refine kY ?_ ?_)
      all_goals first|(refine congrArg Value.bool ?_;simp [waverP,hb];done)|skip
    ·rw [if_neg hm]
     have h7:=refPut_api p.offer (takeS p.bag a n).2.1.item (takeS p.bag a n).2.1.n (by have:=hp.no;omega) hp.offer hto.1.1 hto.1.2 (by omega) (by omega)
     rw [hE] at h4
     generalize putS p.offer (takeS p.bag a n).2.1.item (takeS p.bag a n).2.1.n = R at *
     generalize takeS p.bag a n = T at *
     obtain ⟨R,r⟩:=R
     obtain ⟨T1,T2,T3⟩:=T
     dsimp only at *
     by_cases hr : 0 < r
     ·rw [if_pos hr]
      refine aF Tryz.func224 85 ?_
      conv=>whnf
      repeat' (first|exact trivial|((first|(refine ⟨fun hb=>?_,fun hb=>?_⟩<;>(try simp only [nrm] at hb)<;>try exact kZ hb)|refine kV ?_)<;>(conv=>whnf))|refine kY ?_ ?_)
      all_goals first|(refine congrArg Value.bool ?_;simp [waverP,hb];done)|skip
     ·rw [if_neg hr]
      refine aF Tryz.func224 85 ?_
      conv=>whnf
      repeat' (first|exact trivial|((first|(refine ⟨fun hb=>?_,fun hb=>?_⟩<;>(try simp only [nrm] at hb)<;>try exact kZ hb)|refine kV ?_)<;>(conv=>whnf))|refine kY ?_ ?_)
      all_goals first|(refine congrArg Value.bool ?_;simp [waverP,hb];done)|skip
   ·rw [if_pos hE]
    generalize takeS p.bag a n = T at *
    obtain ⟨T1,T2,T3⟩:=T
    dsimp only at *
    refine aF Tryz.func224 85 ?_
    exact fD0
theorem ragree_api (p q : Player) (hp : OkP p) (hq : OkP q) : Api Tryz.prog 225 [playerV p,playerV q] (.tup [playerV (agreeP p q).1,playerV (agreeP p q).2.1,bol (agreeP p q).2.2.1,i64 (agreeP p q).2.2.2]):=by
 have h1:=rown_api p hp
 have h2:=rown_api q hq
 have h3:=rdeal_api p q hp hq
 have h4:=refAll_api p.bag q.offer (by have:=hp.nb;omega) hp.bag (by have:=hq.no;omega) hq.offer
 have h5:=refAll_api q.bag p.offer (by have:=hq.nb;omega) hq.bag (by have:=hp.no;omega) hp.offer
 unfold agreeP
 cases hD : dealB p q with
 | false =>
  rw [if_pos rfl]
  rw [hD] at h3
  refine aF Tryz.func225 78 ?_
  exact fD0
 | true =>
  rw [if_neg (by simp)]
  rw [hD] at h3
  by_cases hw : ¬ p.wth = q.id ∨ ¬ q.wth = p.id
  ·rw [if_pos hw]
   refine aF Tryz.func225 78 ?_
   exact fD0
  ·rw [if_neg hw]
   cases hA : q.agrees with
   | false =>
    rw [if_pos rfl]
    refine aF Tryz.func225 78 ?_
    exact fD0
   | true =>
    rw [if_neg (by simp)]
    generalize allS p.bag q.offer = A at *
    generalize allS q.bag p.offer = B at *
    obtain ⟨A,x⟩:=A
    obtain ⟨B,y⟩:=B
    dsimp only at *
    by_cases hx : ¬ x = 0 ∨ ¬ y = 0
    ·rw [if_pos hx]
     refine aF Tryz.func225 78 ?_
     exact fD0
    ·rw [if_neg hx]
     refine aF Tryz.func225 78 ?_
     exact fD0
theorem rcancel_api (p q : Player) (hp : OkP p) (hq : OkP q) : Api Tryz.prog 226 [playerV p,playerV q] (.tup [playerV (cancelP p q).1,playerV (cancelP p q).2.1,i64 (cancelP p q).2.2]):=by
 have h1:=rown_api p hp
 have h2:=rown_api q hq
 have h3:=rdeal_api p q hp hq
 have h4:=refAll_api p.bag p.offer (by have:=hp.nb;omega) hp.bag (by have:=hp.no;omega) hp.offer
 unfold cancelP
 cases hD : dealB p q with
 | false =>
  rw [if_pos rfl]
  rw [hD] at h3
  refine aF Tryz.func226 51 ?_
  exact fD0
 | true =>
  rw [if_neg (by simp)]
  rw [hD] at h3
  by_cases hw : ¬ p.wth = q.id
  ·rw [if_pos hw]
   refine aF Tryz.func226 51 ?_
   exact fD0
  ·rw [if_neg hw]
   generalize allS p.bag p.offer = A at *
   obtain ⟨A,x⟩:=A
   dsimp only at *
   by_cases hx : ¬ x = 0
   ·rw [if_pos hx]
    refine aF Tryz.func226 51 ?_
    exact fD0
   ·rw [if_neg hx]
    refine aF Tryz.func226 51 ?_
    conv=>whnf
    repeat' (first|exact trivial|((first|(refine ⟨fun hb=>?_,fun hb=>?_⟩<;>(try simp only [nrm] at hb)<;>try exact kZ hb)|refine kV ?_)<;>(conv=>whnf))|refine kY ?_ ?_)
    all_goals first|(refine congrArg Value.bool ?_;simp [waverP,hb];done)|skip
end Go.Proofs.YtkojlembanldcaaGreat
