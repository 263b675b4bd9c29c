/- What right chunks, players and worlds give. -/
import Derived.Test.YtaecchphjploaaaGreatGe
import Derived.Test.YtaecchphjploaaaGreatGj
import Derived.Test.YtaecchphjploaaaGreatGd
import Derived.Test.YtaecchphjploaaaGreatGc
import Derived.Test.YtaecchphjploaaaGreatGg
import Derived.Test.YtaecchphjploaaaGreatGi
set_option linter.unusedSimpArgs false
set_option linter.unusedVariables false
set_option maxRecDepth 100000
set_option maxHeartbeats 16000000
namespace Go.Proofs.YtaecchphjploaaaGreat
open Go Go.RowKit Eng
open Go Go.RowKit Eng
def getB : List Box → Int → Option (List Slot)
 | [],_=>none
 | b :: r,t=>if b.cell = t then some b.bag else getB r t
theorem getB_none {l : List Box} {t : Int} : getB l t = none ↔ ∀ b ∈ l,b.cell ≠ t:=by
 induction l with
 | nil=>simp [getB]
 | cons b r ih =>
  simp only [getB,List.mem_cons,forall_eq_or_imp]
  split
  ·rename_i h;simp [h]
  ·rename_i h;rw [ih];exact ⟨fun h2=>⟨h,h2⟩,fun h2=>h2.2⟩
theorem getB_mem {l : List Box} {t : Int} {s : List Slot} (h : getB l t = some s) : ∃ b ∈ l,b.cell = t ∧ b.bag = s:=by
 induction l with
 | nil=>simp [getB] at h
 | cons b r ih =>
  simp only [getB] at h
  split at h
  ·rename_i hb;exact ⟨b,by simp,hb,by simpa using h⟩
  ·obtain ⟨b',h1,h2⟩:=ih h;exact ⟨b',by simp [h1],h2⟩
def bagR (s : List Slot) : Bool:=decide ((s.length : Int) = 6) && bagOk s
structure Fits (l : List Int) (k : Nat) (bs : List Box) : Prop where
 items : ∀ i ∈ l,itemOk i = true
 up : rises bs
 bags : ∀ b ∈ bs,(k : Int) ≤ b.cell ∧ b.cell < k + l.length ∧ bagR b.bag = true
 chest : ∀ j < l.length,(l.getD j 0 = 9 ↔ (getB bs ((k : Int) + j)).isSome = true)
theorem fits_iff : ∀ (l : List Int) (k : Nat) (bs : List Box),rightGo l k bs = some [] ↔ Fits l k bs
 | [],k,bs=>by
  simp only [rightGo,Option.some.injEq]
  constructor
  ·rintro rfl;exact ⟨by simp,trivial,by simp,by simp⟩
  ·intro h
   cases bs with
   | nil=>rfl
   | cons b bs=>have:=h.bags b (by simp);simp only [List.length_nil] at this;omega
 | i :: r,k,bs=>by
  simp only [rightGo]
  by_cases hi : itemOk i = true
  ·rw [if_pos hi]
   by_cases h9 : i = 9
   ·rw [if_pos h9]
    cases bs with
    | nil =>
     simp only [reduceCtorEq,false_iff]
     intro h
     have:=(h.chest 0 (by simp)).1 (by simpa using h9)
     simp [getB] at this
    | cons b bs =>
     simp only
     by_cases hb : boxAt b k = true
     ·rw [if_pos hb,fits_iff r (k + 1) bs]
      simp only [boxAt,Bool.and_eq_true,beq_iff_eq] at hb
      have hbg : bagR b.bag = true:=by unfold bagR;rw [hb.2.1,hb.2.2];rfl
      constructor
      ·intro h
       refine ⟨fun x hx=>?_,⟨fun x hx=>?_,h.up⟩,fun x hx=>?_,fun j hj=>?_⟩
       ·rcases List.mem_cons.1 hx with rfl|hx
        ·exact hi
        ·exact h.items x hx
       ·have:=h.bags x hx;omega
       ·rcases List.mem_cons.1 hx with rfl|hx
        ·refine ⟨by omega,by simp only [List.length_cons];omega,hbg⟩
        ·have:=h.bags x hx;refine ⟨by omega,by simp only [List.length_cons];omega,this.2.2⟩
       ·cases j with
        | zero=>simp only [getB];rw [if_pos (by omega)];simp [h9]
        | succ j =>
         have:=h.chest j (by simpa using hj)
         simp only [getB];rw [if_neg (by omega)]
         rw [List.getD_cons_succ,this]
         rw [show ((k + 1 : Nat) : Int) + j = k + ((j + 1 : Nat) : Int) by omega]
      ·intro h
       refine ⟨fun x hx=>h.items x (by simp [hx]),h.up.2,fun x hx=>?_,fun j hj=>?_⟩
       ·have h1:=h.bags x (by simp [hx])
        have h2:=h.up.1 x hx
        simp only [List.length_cons] at h1
        refine ⟨by omega,by omega,h1.2.2⟩
       ·have:=h.chest (j + 1) (by simpa using hj)
        simp only [getB] at this;rw [if_neg (by omega)] at this
        rw [List.getD_cons_succ] at this
        rw [this]
        rw [show ((k + 1 : Nat) : Int) + j = k + ((j + 1 : Nat) : Int) by omega]
     ·rw [if_neg hb]
      simp only [reduceCtorEq,false_iff]
      intro h
      refine hb ?_
      have h0:=(h.chest 0 (by simp)).1 (by simpa using h9)
      have hbb:=h.bags b (by simp)
      have hk : b.cell = k:=by
       rw [Option.isSome_iff_exists] at h0
       obtain ⟨s,hs⟩:=h0
       obtain ⟨x,hx,hxe,_⟩:=getB_mem hs
       rcases List.mem_cons.1 hx with rfl|hx
       ·simpa using hxe
       ·have:=h.up.1 x hx;simp only [Int.natCast_zero,Int.add_zero] at hxe;omega
      have h2:=hbb.2.2
      simp only [bagR,Bool.and_eq_true] at h2
      simp only [boxAt,Bool.and_eq_true,beq_iff_eq]
      exact ⟨hk,h2.1,h2.2⟩
   ·rw [if_neg h9,fits_iff r (k + 1) bs]
    constructor
    ·intro h
     refine ⟨fun x hx=>?_,h.up,fun x hx=>?_,fun j hj=>?_⟩
     ·rcases List.mem_cons.1 hx with rfl|hx
      ·exact hi
      ·exact h.items x hx
     ·have:=h.bags x hx;refine ⟨by omega,by simp only [List.length_cons];omega,this.2.2⟩
     ·cases j with
      | zero =>
       have : getB bs ((k : Int) + ((0 : Nat) : Int)) = none:=getB_none.2 fun x hx=>by have:=h.bags x hx;omega
       rw [this];simp [h9]
      | succ j =>
       have:=h.chest j (by simpa using hj)
       rw [List.getD_cons_succ,this]
       rw [show ((k + 1 : Nat) : Int) + j = k + ((j + 1 : Nat) : Int) by omega]
    ·intro h
     have h0 : getB bs (k : Int) = none:=by
      have:=h.chest 0 (by simp)
      simp only [List.getD_cons_zero,Int.natCast_zero,Int.add_zero,h9,false_iff] at this
      simpa using this
     refine ⟨fun x hx=>h.items x (by simp [hx]),h.up,fun x hx=>?_,fun j hj=>?_⟩
     ·have h1:=h.bags x hx
      have h2:=getB_none.1 h0 x hx
      simp only [List.length_cons] at h1
      refine ⟨by omega,by omega,h1.2.2⟩
     ·have:=h.chest (j + 1) (by simpa using hj)
      rw [List.getD_cons_succ] at this
      rw [this]
      rw [show ((k + 1 : Nat) : Int) + j = k + ((j + 1 : Nat) : Int) by omega]
  ·rw [if_neg hi]
   simp only [reduceCtorEq,false_iff]
   intro h
   exact hi (h.items i (by simp))
theorem right_iff (c : Chunk) : rightB c = true ↔ headB c = true ∧ Fits c.cells 0 c.boxes ∧ c.heaps.any badHeap = false:=by
 constructor
 ·intro h
  obtain ⟨h1,h2,h3⟩:=rightC_of h
  exact ⟨h1,(fits_iff _ _ _).1 h2,h3⟩
 ·rintro ⟨h1,h2,h3⟩
  unfold rightB
  rw [h1,(fits_iff _ _ _).2 h2,h3];rfl
theorem rises_count : ∀ {l : List Box} (lo : Int) {hi : Int},rises l → (∀ b ∈ l,lo ≤ b.cell ∧ b.cell < hi) → lo ≤ hi → (l.length : Int) ≤ hi - lo
 | [],lo,hi,_,_,h=>by simp;omega
 | b :: r,lo,hi,h,hb,hlh=>by
  have h0:=hb b (by simp)
  have:=rises_count (l:=r) (b.cell + 1) (hi:=hi) h.2 (fun x hx=>by have:=h.1 x hx;have:=hb x (by simp [hx]);omega) (by omega)
  simp only [List.length_cons];omega
theorem right_len {c : Chunk} (h : rightB c = true) : c.cells.length = 64:=(rightC_of h).len
theorem right_fits {c : Chunk} (h : rightB c = true) : Fits c.cells 0 c.boxes:=((right_iff c).1 h).2.1
theorem right_bag {c : Chunk} (h : rightB c = true) {b : Box} (hb : b ∈ c.boxes) : b.bag.length = 6 ∧ bagOk b.bag = true:=by
 have:=((right_fits h).bags b hb).2.2
 simp only [bagR,Bool.and_eq_true,decide_eq_true_eq] at this
 exact ⟨by omega,this.2⟩
theorem right_heaps {c : Chunk} (h : rightB c = true) : c.heaps.length ≤ 32:=by
 have:=((right_iff c).1 h).1
 simp only [headB,Bool.and_eq_true,decide_eq_true_eq] at this;omega
theorem right_boxes {c : Chunk} (h : rightB c = true) : c.boxes.length ≤ 64:=by
 have hf:=right_fits h
 have:=rises_count (l:=c.boxes) 0 (hi:=64) hf.up (fun b hb=>by have:=hf.bags b hb;rw [right_len h] at this;omega) (by omega)
 omega
theorem fitC_right {c : Chunk} (h : rightB c = true) : FitC c:=
 ⟨by rw [right_len h];omega,by have:=right_heaps h;omega,by have:=right_boxes h;omega,fun b hb=>by rw [(right_bag h hb).1];omega⟩
open Go Go.RowKit Eng
def hit (cell : Int) (h : Heap) : Bool:=h.cell == cell
def miss (cell : Int) (h : Heap) : Bool:=!(h.cell == cell)
def keptH (cell : Int) (l : List Heap) : List Heap:=l.filter (miss cell)
def hitsH (cell : Int) (l : List Heap) : List Slot:=(l.filter (hit cell)).map (·.slot)
def liftC (c : Chunk) (cell : Int) : Chunk × List Slot:=if rightB c = true then ({ c with heaps:=keptH cell c.heaps },hitsH cell c.heaps) else (c,[])
open Go Go.RowKit Eng
def cnt (k : Int) (s : Slot) : Int:=if ¬ k = 0 ∧ s.item = k then max s.n 0 else 0
def countS : List Slot → Int → Int
 | [],_=>0
 | s :: r,k=>cnt k s + countS r k
theorem badSlot_false {s : Slot} : badSlot s = false ↔ (s.item = 0 ∧ s.n = 0) ∨ (1 ≤ s.n ∧ s.n ≤ stackN s.item):=by
 simp only [badSlot,Bool.and_eq_false_iff,Bool.or_eq_false_iff,Bool.not_eq_false',Bool.and_eq_true,beq_iff_eq,decide_eq_false_iff_not]
 omega
theorem bagOk_iff {l : List Slot} : bagOk l = true ↔ ∀ s ∈ l,badSlot s = false:=by
 unfold bagOk
 simp
open Go Go.RowKit Eng
open Go Go.RowKit Eng
open Go Go.RowKit Eng
open Go Go.RowKit Eng
def sumP (p q : Player) : Nat:=p.bag.length + p.offer.length + q.bag.length + q.offer.length
def pairB (p q : Player) : Bool:=decide (sumP p q ≤ 300) && (!(decide (p.id = q.id)) && (mayB p && mayB q))
def haveP (p q : Player) (i : Int) : Int:=countS p.bag i + countS p.offer i + countS q.bag i + countS q.offer i
theorem stackN_item {i : Int} (h : 1 ≤ stackN i) : 0 ≤ i ∧ i ≤ 255:=by
 unfold stackN at h
 (repeat' split at h)<;>omega
theorem bagOk_okSlot {l : List Slot} (h : bagOk l = true) : ∀ s ∈ l,okSlot s:=by
 intro s hs
 rcases badSlot_false.1 (bagOk_iff.1 h s hs) with h|h
 ·exact ⟨by omega,by omega⟩
 ·exact stackN_item (by omega)
structure KeptP (p q a b : Player) : Prop where
 ma : mayB a = true
 mb : mayB b = true
 ia : a.id = p.id
 ib : b.id = q.id
 sum : ∀ k,haveP a b k = haveP p q k
theorem KeptP.refl {p q : Player} (hp : mayB p = true) (hq : mayB q = true) : KeptP p q p q:=⟨hp,hq,rfl,rfl,fun _=>rfl⟩
def pl (id : Int) (s : Slot) : Player:=⟨id,0,0,s :: List.replicate 7 ⟨0,0⟩,-1,[],false⟩
open Go Go.RowKit Eng
def addI (C : List Int) (s : Slot) : List Int:=C.set s.item.toNat (elt .i64 C s.item.toNat + s.n)
def inN (b n : Int) : Prop:=0 ≤ n ∧ n ≤ b
structure CntOk (C : List Int) (b : Int) : Prop where
 len : C.length = 13
 bd : ∀ i,i < 13 → inN b (elt .i64 C i)
def fitS (s : Slot) : Prop:=0 ≤ s.item ∧ s.item ≤ 12 ∧ 0 ≤ s.n ∧ s.n ≤ 16
theorem elt_addI {C : List Int} {s : Slot} (hl : C.length = 13) (hs : fitS s) (i : Nat) : elt .i64 (addI C s) i = if i = s.item.toNat then elt .i64 C i + s.n else elt .i64 C i:=by
 unfold addI
 obtain ⟨h0,h1,_,_⟩:=hs
 by_cases h : i = s.item.toNat
 ·rw [if_pos h];subst h
  unfold elt
  rw [List.getElem?_set_self (by omega)];rfl
 ·rw [if_neg h]
  unfold elt
  rw [List.getElem?_set_ne (fun e=>h e.symm)]
theorem CntOk.mono {C : List Int} {b c : Int} (h : CntOk C b) (hb : b ≤ c) : CntOk C c:=⟨h.len,fun i hi=>by have:=h.bd i hi;unfold inN at *;omega⟩
theorem CntOk.add {C : List Int} {b : Int} {s : Slot} (h : CntOk C b) (hs : fitS s) : CntOk (addI C s) (b + 16):=by
 refine ⟨by unfold addI;rw [List.length_set];exact h.len,fun i hi=>?_⟩
 rw [elt_addI h.len hs]
 have:=h.bd i hi
 obtain ⟨_,_,h2,h3⟩:=hs
 unfold inN at *
 split<;>omega
theorem CntOk.foldl {l : List Slot} : ∀ {C : List Int} {b : Int},CntOk C b → (∀ s ∈ l,fitS s) → CntOk (l.foldl addI C) (b + 16 * l.length):=by
 induction l with
 | nil=>intro C b h _;simpa using h
 | cons a r ih =>
  intro C b h hs
  have:=ih (h.add (hs a (by simp))) fun s hm=>hs s (List.mem_cons_of_mem _ hm)
  rw [List.foldl_cons]
  refine this.mono ?_
  rw [List.length_cons];omega
open Go Go.RowKit Eng
def slotsP (l : List Player) : List Slot:=l.flatMap fun p=>p.bag ++ p.offer
def slotsC (l : List Chunk) : List Slot:=l.flatMap fun c=>c.heaps.map (·.slot) ++ c.boxes.flatMap (·.bag)
def slotsW (w : Wld) : List Slot:=slotsP w.players ++ slotsC w.chunks
structure FitW (w : Wld) : Prop where
 bag : ∀ p ∈ w.players,∀ s ∈ p.bag,fitS s
 offer : ∀ p ∈ w.players,∀ s ∈ p.offer,fitS s
 heap : ∀ c ∈ w.chunks,∀ h ∈ c.heaps,fitS h.slot
 box : ∀ c ∈ w.chunks,∀ b ∈ c.boxes,∀ s ∈ b.bag,fitS s
theorem mem_slotsP {l : List Player} {s : Slot} (h : s ∈ slotsP l) : ∃ p ∈ l,s ∈ p.bag ∨ s ∈ p.offer:=by
 unfold slotsP at h
 rw [List.mem_flatMap] at h
 obtain ⟨p,hp,hs⟩:=h
 exact ⟨p,hp,List.mem_append.1 hs⟩
theorem mem_slotsC {l : List Chunk} {s : Slot} (h : s ∈ slotsC l) : ∃ c ∈ l,(∃ h ∈ c.heaps,h.slot = s) ∨ ∃ b ∈ c.boxes,s ∈ b.bag:=by
 unfold slotsC at h
 rw [List.mem_flatMap] at h
 obtain ⟨c,hc,hs⟩:=h
 refine ⟨c,hc,(List.mem_append.1 hs).imp ?_ ?_⟩
 ·intro h;rw [List.mem_map] at h;exact h
 ·intro h;rw [List.mem_flatMap] at h;exact h
theorem FitW.fit {w : Wld} (h : FitW w) : ∀ s ∈ slotsW w,fitS s:=by
 intro s hs
 rcases List.mem_append.1 hs with hs|hs
 ·obtain ⟨p,hp,hs⟩:=mem_slotsP hs
  rcases hs with hs|hs
  ·exact h.bag p hp s hs
  ·exact h.offer p hp s hs
 ·obtain ⟨c,hc,hs⟩:=mem_slotsC hs
  rcases hs with ⟨x,hx,rfl⟩|⟨b,hb,hs⟩
  ·exact h.heap c hc x hx
  ·exact h.box c hc b hb s hs
open Go Go.RowKit Eng
def niceS (s : Slot) : Prop:=0 ≤ s.item ∧ s.item ≤ 12 ∧ 0 ≤ s.n ∧ s.n ≤ stackN s.item
theorem niceS.fit {s : Slot} (h : niceS s) : fitS s:=by have:=stackN_bd s.item;unfold niceS at h;unfold fitS;omega
theorem sound_parts {p : Player} (h : soundB p = true) : 0 ≤ p.id ∧ p.id ≤ 1073741824 ∧ (p.bag.length : Int) = 8 ∧ bagOk p.bag = true ∧ ((p.wth = -1 ∧ p.offer = [] ∧ p.agrees = false) ∨ (0 ≤ p.wth ∧ p.wth ≤ 1073741824 ∧ p.wth ≠ p.id ∧ (p.offer.length : Int) = 8 ∧ bagOk p.offer = true)):=by
 unfold soundB bag8 at h
 by_cases hw : p.wth = -1
 ·rw [if_pos hw] at h
  simp only [Bool.and_eq_true,decide_eq_true_eq,Bool.not_eq_true'] at h
  obtain ⟨h1,h2,⟨h3,h4⟩,h5,h6⟩:=h
  exact ⟨h1,h2,h3,h4,.inl ⟨hw,List.length_eq_zero_iff.1 (by omega),h6⟩⟩
 ·rw [if_neg hw] at h
  simp only [Bool.and_eq_true,decide_eq_true_eq,Bool.not_eq_true',decide_eq_false_iff_not] at h
  obtain ⟨h1,h2,⟨h3,h4⟩,h5,h6,h7,h8,h9⟩:=h
  exact ⟨h1,h2,h3,h4,.inr ⟨h5,h6,h7,h8,h9⟩⟩
open Go Go.RowKit Eng
theorem itemOk_bd {i : Int} (h : itemOk i = true) : 0 ≤ i ∧ i ≤ 12:=by
 unfold itemOk blockB at h
 simp only [Bool.or_eq_true,beq_iff_eq,Bool.and_eq_true,decide_eq_true_eq] at h
 omega
theorem someB_ok {s : Slot} (h : someB s = true) : okSlot s ∧ 1 ≤ s.n ∧ s.n ≤ 16:=by
 simp only [someB,Bool.and_eq_true,decide_eq_true_eq] at h
 have:=stackN_bd s.item
 exact ⟨stackN_item (by omega),by omega,by omega⟩
theorem right_heap {c : Chunk} (h : rightB c = true) {x : Heap} (hx : x ∈ c.heaps) : someB x.slot = true ∧ 0 ≤ x.cell ∧ x.cell < 64:=by
 have hh:=((right_iff c).1 h).2.2
 rw [List.any_eq_false] at hh
 have h2:=hh x hx
 simp only [badHeap,Bool.or_eq_true,Bool.not_eq_true',not_or,Bool.not_eq_false,Bool.and_eq_true,decide_eq_true_eq] at h2
 exact ⟨h2.2,h2.1⟩
theorem okC_right {c : Chunk} (h : rightB c = true) : OkC c:=by
 refine ⟨fun i hi=>by have:=itemOk_bd ((right_fits h).items i hi);omega,fun x hx=>(someB_ok (right_heap h hx).1).1,fun b hb=>?_,?_,?_,?_⟩
 ·obtain ⟨h1,h2⟩:=right_bag h hb
  exact ⟨bagOk_okSlot h2,by rw [h1];unfold big;omega⟩
 ·rw [right_len h];unfold big;omega
 ·have:=right_heaps h;unfold big;omega
 ·have:=right_boxes h;unfold big;omega
theorem okP_sound {p : Player} (h : soundB p = true) : OkP p:=by
 obtain ⟨_,_,h3,h4,h5⟩:=sound_parts h
 refine ⟨bagOk_okSlot h4,?_,by omega,?_⟩
 ·rcases h5 with ⟨_,h,_⟩|⟨_,_,_,_,h⟩
  ·rw [h];simp
  ·exact bagOk_okSlot h
 ·rcases h5 with ⟨_,h,_⟩|⟨_,_,_,h,_⟩
  ·rw [h];simp
  ·omega
theorem cellI_ok (s x y : Int) : itemOk (cellI s x y) = true ∧ cellI s x y ≠ 9:=by
 unfold cellI
 simp only []
 (repeat' split)<;>exact ⟨by decide,by decide⟩
theorem right_gen {s x y : Int} (hx : 0 ≤ x ∧ x < 16) (hy : 0 ≤ y ∧ y < 16) : rightB (genC s x y) = true:=by
 rw [right_iff]
 have hl : (gl s x y 64).length = 64:=gl_len _ _ _ _
 have hm : ∀ i ∈ gl s x y 64,itemOk i = true ∧ i ≠ 9:=by
  intro i hi
  unfold gl at hi
  rw [List.mem_map] at hi
  obtain ⟨j,_,rfl⟩:=hi
  exact cellI_ok _ _ _
 refine ⟨?_,⟨fun i hi=>(hm i hi).1,trivial,by simp [genC],fun j hj=>?_⟩,rfl⟩
 ·unfold headB
  rw [show (genC s x y).cells.length = 64 from hl,show (genC s x y).heaps.length = 0 from rfl,show (genC s x y).x = x from rfl,show (genC s x y).y = y from rfl]
  simp only [Bool.and_eq_true,decide_eq_true_eq]
  omega
 ·have hj' : j < (gl s x y 64).length:=hj
  have hg : (genC s x y).cells.getD j 0 = (gl s x y 64)[j]:=by
   show (gl s x y 64).getD j 0 = _
   rw [List.getD_eq_getElem?_getD,List.getElem?_eq_getElem hj'];rfl
  rw [hg]
  have:=(hm _ (List.getElem_mem hj')).2
  simp [genC,getB,this]
theorem chunk_right {w : Wld} {x y : Int} (hR : RW w) (hx : 0 ≤ x ∧ x < w.size) (hy : 0 ≤ y ∧ y < w.size) : rightB (chunkW w x y).1 = true:=by
 have hs:=hR.size
 rw [(chunkW_in hR hx hy).1]
 dsimp only
 cases hg : getK keyC w.chunks (keyC (atC x y)) with
 | none=>exact right_gen (by omega) (by omega)
 | some c=>exact (hR.chunks c (getK_mem hg).1).1
end Go.Proofs.YtaecchphjploaaaGreat
