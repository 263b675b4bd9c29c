/- Contracts of the law packages 11 and 13. -/
import Derived.Test.YtaecchphjploaaaGreatGf
import Derived.Test.YtaecchphjploaaaGreatGc
import Derived.Test.YtaecchphjploaaaGreatGe
set_option linter.unusedSimpArgs false
set_option linter.unusedVariables false
set_option maxRecDepth 100000
set_option maxHeartbeats 16000000
namespace Go.Proofs.YtaecchphjploaaaGreat
open Go Go.RowKit Eng
theorem elt_ext {tt : Ty} {a b : List (El tt)} (hl : a.length = b.length) (h : ∀ i < a.length,elt tt a i = elt tt b i) : a = b:=by
 refine List.ext_getElem? fun i=>?_
 by_cases hi : i < a.length
 ·rw [elt_get tt a i hi,elt_get tt b i (by omega),h i hi]
 ·rw [List.getElem?_eq_none (by omega),List.getElem?_eq_none (by omega)]
theorem eqSlot_iff {a b : Slot} : eqSlot a b = true ↔ a = b:=by
 obtain ⟨a1,a2⟩:=a
 obtain ⟨b1,b2⟩:=b
 simp [eqSlot]
theorem sameSlots_iff {a b : List Slot} : sameSlots a b = true ↔ a = b:=by
 constructor
 ·intro h
  simp only [sameSlots,Bool.and_eq_true,beq_iff_eq,List.all_eq_true,List.mem_range] at h
  exact elt_ext (tt:=.slot) h.1 fun i hi=>eqSlot_iff.1 (h.2 i hi)
 ·rintro rfl
  exact sameSlots_true rfl fun i _=>eqSlot_iff.2 rfl
noncomputable def eqv {α : Type} (a b : α) : Bool:=@decide (a = b) (Classical.propDecidable _)
theorem eqv_iff {α : Type} {a b : α} : eqv a b = true ↔ a = b:=by unfold eqv;simp
theorem eqv_self {α : Type} (a : α) : eqv a a = true:=eqv_iff.2 rfl
theorem eqv_false {α : Type} {a b : α} : eqv a b = false ↔ a ≠ b:=by unfold eqv;simp
theorem sameSlots_eqv (a b : List Slot) : sameSlots a b = eqv a b:=by
 rw [Bool.eq_iff_iff,sameSlots_iff,eqv_iff]
theorem heap_ext {a b : Heap} (h1 : a.cell = b.cell) (h2 : a.slot.item = b.slot.item) (h3 : a.slot.n = b.slot.n) : a = b:=by
 obtain ⟨a1,⟨a2,a3⟩⟩:=a
 obtain ⟨b1,⟨b2,b3⟩⟩:=b
 simp_all
theorem box_ext {a b : Box} (h1 : a.cell = b.cell) (h2 : a.bag = b.bag) : a = b:=by
 obtain ⟨a1,a2⟩:=a
 obtain ⟨b1,b2⟩:=b
 simp_all
theorem chunk_ext {a b : Chunk} (h1 : a.x = b.x) (h2 : a.y = b.y) (h3 : a.cells = b.cells) (h4 : a.heaps = b.heaps) (h5 : a.boxes = b.boxes) : a = b:=by
 obtain ⟨a1,a2,a3,a4,a5⟩:=a
 obtain ⟨b1,b2,b3,b4,b5⟩:=b
 simp_all
theorem same_self (c : Chunk) (hc : OkC c) : Api Tryz.prog 21 [chunkV c,chunkV c] (bol true):=by
 have hnc : c.cells.length ≤ 9000000000000000000:=hc.nc
 have hnh : c.heaps.length ≤ 9000000000000000000:=hc.nh
 have hnb : c.boxes.length ≤ 9000000000000000000:=hc.nb
 refine aF Tryz.func21 117 ?_
 conv=>whnf
 repeat' (first|exact trivial|((first|(refine ⟨fun hb=>?_,fun hb=>?_⟩<;>(try simp only [nrm] at hb)<;>try exact kZ hb)|refine kV ?_)<;>(conv=>whnf))|refine kY ?_ ?_)
 refine Runs.loopS cfg_ok (σ:=Nat) [2,3,49,50] (fun k=>[.ptr 4 0,.ptr 6 0,i64 c.cells.length,i64 k]) (fun k=>[(4,.box (chunkC c)),(6,.box (chunkC c))])
  (fun k=>k ≤ c.cells.length) (fun k=>c.cells.length - k) 0 (by omega) ?_ ?_
 ·exact fD0
 ·intro k hk
  by_cases hlt : k < c.cells.length
  ·conv=>whnf
   repeat' (first|exact trivial|((first|(refine ⟨fun hb=>?_,fun hb=>?_⟩<;>(try simp only [nrm] at hb)<;>try exact kZ hb)|refine kV ?_)<;>(conv=>whnf))|refine kY ?_ ?_)
   refine .to (k + 1) hlt (by omega) ?_
   exact fD0
  ·obtain rfl : k = c.cells.length:=by omega
   conv=>whnf
   repeat' (first|exact trivial|((first|(refine ⟨fun hb=>?_,fun hb=>?_⟩<;>(try simp only [nrm] at hb)<;>try exact kZ hb)|refine kV ?_)<;>(conv=>whnf))|refine kY ?_ ?_)
   refine Runs.loopS cfg_ok (σ:=Nat) [2,3,67,68] (fun k=>[.ptr 4 0,.ptr 6 0,i64 c.heaps.length,i64 k]) (fun k=>[(4,.box (chunkC c)),(6,.box (chunkC c))])
    (fun k=>k ≤ c.heaps.length) (fun k=>c.heaps.length - k) 0 (by omega) ?_ ?_
   ·exact fD0
   ·intro k hk
    by_cases hlt : k < c.heaps.length
    ·conv=>whnf
     repeat' (first|exact trivial|((first|(refine ⟨fun hb=>?_,fun hb=>?_⟩<;>(try simp only [nrm] at hb)<;>try exact kZ hb)|refine kV ?_)<;>(conv=>whnf))|refine kY ?_ ?_)
     refine .to (k + 1) hlt (by omega) ?_
     exact fD0
    ·obtain rfl : k = c.heaps.length:=by omega
     conv=>whnf
     repeat' (first|exact trivial|((first|(refine ⟨fun hb=>?_,fun hb=>?_⟩<;>(try simp only [nrm] at hb)<;>try exact kZ hb)|refine kV ?_)<;>(conv=>whnf))|refine kY ?_ ?_)
     refine Runs.loopS cfg_ok (σ:=Nat) [2,3,85,86] (fun k=>[.ptr 4 0,.ptr 6 0,i64 c.boxes.length,i64 k]) (fun k=>[(4,.box (chunkC c)),(6,.box (chunkC c))])
      (fun k=>k ≤ c.boxes.length) (fun k=>c.boxes.length - k) 0 (by omega) ?_ ?_
     ·exact fD0
     ·intro k hk
      by_cases hlt : k < c.boxes.length
      ·have hbb : (elt .box c.boxes k).bag.length ≤ big:=(hc.boxes _ (elt_mem (t:=.box) hlt)).2
       have hss:=sameSlots_api (elt .box c.boxes k).bag (elt .box c.boxes k).bag hbb
       rw [sameSlots_iff.2 rfl] at hss
       conv=>whnf
       repeat' (first|exact trivial|((first|(refine ⟨fun hb=>?_,fun hb=>?_⟩<;>(try simp only [nrm] at hb)<;>try exact kZ hb)|refine kV ?_)<;>(conv=>whnf))|refine kY ?_ ?_)
       refine .to (k + 1) hlt (by omega) ?_
       exact fD0
      ·obtain rfl : k = c.boxes.length:=by omega
       exact fD0
theorem same_ne (c d : Chunk) (hc : OkC c) (hne : ¬ c = d) : Api Tryz.prog 21 [chunkV c,chunkV d] (bol false):=by
 have hnc : c.cells.length ≤ 9000000000000000000:=hc.nc
 have hnh : c.heaps.length ≤ 9000000000000000000:=hc.nh
 have hnb : c.boxes.length ≤ 9000000000000000000:=hc.nb
 by_cases hhd : c.x = d.x ∧ c.y = d.y ∧ c.cells.length = d.cells.length ∧ c.heaps.length = d.heaps.length ∧ c.boxes.length = d.boxes.length
 ·obtain ⟨hx,hy,lc,lh,lb⟩:=hhd
  refine aF Tryz.func21 117 ?_
  conv=>whnf
  repeat' (first|exact trivial|((first|(refine ⟨fun hb=>?_,fun hb=>?_⟩<;>(try simp only [nrm] at hb)<;>try exact kZ hb)|refine kV ?_)<;>(conv=>whnf))|refine kY ?_ ?_)
  all_goals try omega
  refine Runs.loopS cfg_ok (σ:=Nat) [2,3,49,50] (fun k=>[.ptr 4 0,.ptr 6 0,i64 c.cells.length,i64 k]) (fun k=>[(4,.box (chunkC c)),(6,.box (chunkC d))])
   (fun k=>k ≤ c.cells.length ∧ ∀ i < k,elt .u8 c.cells i = elt .u8 d.cells i) (fun k=>c.cells.length - k) 0 ⟨by omega,by omega⟩ ?_ ?_
  ·exact fD0
  ·rintro k ⟨hk,he⟩
   by_cases hlt : k < c.cells.length
   ·conv=>whnf
    repeat' (first|exact trivial|((first|(refine ⟨fun hb=>?_,fun hb=>?_⟩<;>(try simp only [nrm] at hb)<;>try exact kZ hb)|refine kV ?_)<;>(conv=>whnf))|refine kY ?_ ?_)
    refine .to (k + 1) ⟨hlt,fun i hi=>?_⟩ (by omega) ?_
    ·by_cases hik : i = k
     ·subst hik;exact hb
     ·exact he i (by omega)
    exact fD0
   ·obtain rfl : k = c.cells.length:=by omega
    have ec:=elt_ext (tt:=.u8) lc he
    conv=>whnf
    repeat' (first|exact trivial|((first|(refine ⟨fun hb=>?_,fun hb=>?_⟩<;>(try simp only [nrm] at hb)<;>try exact kZ hb)|refine kV ?_)<;>(conv=>whnf))|refine kY ?_ ?_)
    refine Runs.loopS cfg_ok (σ:=Nat) [2,3,67,68] (fun k=>[.ptr 4 0,.ptr 6 0,i64 c.heaps.length,i64 k]) (fun k=>[(4,.box (chunkC c)),(6,.box (chunkC d))])
     (fun k=>k ≤ c.heaps.length ∧ ∀ i < k,elt .heap c.heaps i = elt .heap d.heaps i) (fun k=>c.heaps.length - k) 0 ⟨by omega,by omega⟩ ?_ ?_
    ·exact fD0
    ·rintro k ⟨hk,he⟩
     by_cases hlt : k < c.heaps.length
     ·conv=>whnf
      repeat' (first|exact trivial|((first|(refine ⟨fun hb=>?_,fun hb=>?_⟩<;>(try simp only [nrm] at hb)<;>try exact kZ hb)|refine kV ?_)<;>(conv=>whnf))|refine kY ?_ ?_)
      refine .to (k + 1) ⟨hlt,fun i hi=>?_⟩ (by omega) ?_
      ·by_cases hik : i = k
       ·subst hik;exact heap_ext hb.1 hb.2.1 hb.2.2
       ·exact he i (by omega)
      exact fD0
     ·obtain rfl : k = c.heaps.length:=by omega
      have eh:=elt_ext (tt:=.heap) lh he
      conv=>whnf
      repeat' (first|exact trivial|((first|(refine ⟨fun hb=>?_,fun hb=>?_⟩<;>(try simp only [nrm] at hb)<;>try exact kZ hb)|refine kV ?_)<;>(conv=>whnf))|refine kY ?_ ?_)
      refine Runs.loopS cfg_ok (σ:=Nat) [2,3,85,86] (fun k=>[.ptr 4 0,.ptr 6 0,i64 c.boxes.length,i64 k]) (fun k=>[(4,.box (chunkC c)),(6,.box (chunkC d))])
       (fun k=>k ≤ c.boxes.length ∧ ∀ i < k,elt .box c.boxes i = elt .box d.boxes i) (fun k=>c.boxes.length - k) 0 ⟨by omega,by omega⟩ ?_ ?_
      ·exact fD0
      ·rintro k ⟨hk,he⟩
       by_cases hlt : k < c.boxes.length
       ·have hbb : (elt .box c.boxes k).bag.length ≤ big:=(hc.boxes _ (elt_mem (t:=.box) hlt)).2
        have hss:=sameSlots_api (elt .box c.boxes k).bag (elt .box d.boxes k).bag hbb
        by_cases hS : (elt .box c.boxes k).bag = (elt .box d.boxes k).bag
        ·rw [sameSlots_iff.2 hS] at hss
         conv=>whnf
         repeat' (first|exact trivial|((first|(refine ⟨fun hb=>?_,fun hb=>?_⟩<;>(try simp only [nrm] at hb)<;>try exact kZ hb)|refine kV ?_)<;>(conv=>whnf))|refine kY ?_ ?_)
         refine .to (k + 1) ⟨hlt,fun i hi=>?_⟩ (by omega) ?_
         ·by_cases hik : i = k
          ·subst hik;exact box_ext hb hS
          ·exact he i (by omega)
         exact fD0
        ·rw [Bool.eq_false_iff.2 fun h=>hS (sameSlots_iff.1 h)] at hss
         exact fD0
       ·obtain rfl : k = c.boxes.length:=by omega
        have eb:=elt_ext (tt:=.box) lb he
        exact absurd (chunk_ext hx hy ec eh eb) hne
 ·skip
  refine aF Tryz.func21 117 ?_
  exact fD0
open Go Go.RowKit Eng
theorem player_ext {a b : Player} (h1 : a.id = b.id) (h2 : a.x = b.x) (h3 : a.y = b.y) (h4 : a.bag = b.bag) (h5 : a.wth = b.wth) (h6 : a.offer = b.offer) (h7 : a.agrees = b.agrees) : a = b:=by
 obtain ⟨a1,a2,a3,a4,a5,a6,a7⟩:=a
 obtain ⟨b1,b2,b3,b4,b5,b6,b7⟩:=b
 simp_all
theorem sameP_ne (p q : Player) (hp : OkP p) (hne : ¬ p = q) : Api Tryz.prog 29 [playerV p,playerV q] (bol false):=by
 have h1:=sameSlots_api p.bag q.bag (by have:=hp.nb;unfold big;omega)
 have h2:=sameSlots_api p.offer q.offer (by have:=hp.no;unfold big;omega)
 rw [sameSlots_eqv] at h1 h2
 cases e1 : eqv p.bag q.bag
 all_goals
  cases e2 : eqv p.offer q.offer
  all_goals
   rw [e1] at h1
   rw [e2] at h2
   refine aF Tryz.func29 50 ?_
   conv=>whnf
   repeat' (first|exact trivial|((first|(refine ⟨fun hb=>?_,fun hb=>?_⟩<;>(try simp only [nrm] at hb)<;>try exact kZ hb)|refine kV ?_)<;>(conv=>whnf))|refine kY ?_ ?_)
 all_goals first|(exact absurd (player_ext (by assumption) (by assumption) (by assumption) (eqv_iff.1 e1) (by assumption) (eqv_iff.1 e2) (by assumption)) hne)|trace_state
theorem sameP_api (p q : Player) (hp : OkP p) : Api Tryz.prog 29 [playerV p,playerV q] (bol (eqv p q)):=by
 by_cases h : p = q
 ·subst h;rw [eqv_self];exact sameP_self p hp
 ·rw [eqv_false.2 h];exact sameP_ne p q hp h
open Go Go.RowKit Eng
def w2 : Wld:=⟨2,7,0,[],[]⟩
open Go Go.RowKit Eng
theorem chunkW_in {w : Wld} {x y : Int} (hR : RW w) (hx : 0 ≤ x ∧ x < w.size) (hy : 0 ≤ y ∧ y < w.size) :
  chunkW w x y = (match getK keyC w.chunks (keyC (atC x y)) with|some c=>c|none=>genC w.seed x y,true) ∧ (chunkW w x y).1.x = x ∧ (chunkW w x y).1.y = y:=by
 have hs:=hR.size
 obtain ⟨e1,e2⟩:=bsC_rises hR.rc hR.xy (x:=x) (y:=y) hx.1 (by omega)
 have hRr:=rightW_iff.2 hR
 have hI : insideW w.size x y = true:=by unfold insideW;simp only [Bool.and_eq_true,decide_eq_true_eq];omega
 have hc : chunkW w x y = (if fdC w.chunks x y = true then (elt .chunk w.chunks (bsC w.chunks x y),true) else (genC w.seed x y,true)):=by
  unfold chunkW
  rw [if_neg (by rw [hI,hRr];simp)]
 rw [hc,e2]
 cases hg : getK keyC w.chunks (keyC (atC x y)) with
 | none=>exact ⟨rfl,rfl,rfl⟩
 | some c =>
  obtain ⟨h1,h2⟩:=lbK_lt hR.rc hg
  have h3 : elt .chunk w.chunks (lbK keyC (keyC (atC x y)) w.chunks) = c:=by
   have:=elt_get .chunk w.chunks _ h1
   rw [h2] at this
   exact (Option.some.inj this).symm
  rw [e1,h3]
  have h4:=(getK_mem hg)
  have h5:=rightB_pos (hR.chunks c h4.1).1
  have h6:=h4.2
  have h7 : keyC c = 16 * c.y + c.x:=rfl
  have h8 : keyC (atC x y) = 16 * y + x:=rfl
  refine ⟨rfl,?_,?_⟩
  ·show c.x = x;omega
  ·show c.y = y;omega
theorem within_iff {w : Wld} (hR : RW w) {x y : Int} : withinW w.size x y = true ↔ 0 ≤ x ∧ 0 ≤ y ∧ x < 8 * w.size ∧ y < 8 * w.size:=by
 have hs:=hR.size
 unfold withinW
 rw [wr8_eq (by omega) (by omega)]
 simp only [Bool.and_eq_true,decide_eq_true_eq]
 omega
end Go.Proofs.YtaecchphjploaaaGreat
