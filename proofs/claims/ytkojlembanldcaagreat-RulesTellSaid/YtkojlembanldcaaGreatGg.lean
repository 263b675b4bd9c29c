/- Contracts of the law packages 11 and 13. -/
import Derived.Test.YtkojlembanldcaaGreatGf
import Derived.Test.YtkojlembanldcaaGreatGc
import Derived.Test.YtkojlembanldcaaGreatGe
set_option linter.unusedSimpArgs false
set_option linter.unusedVariables false
set_option maxRecDepth 100000
set_option maxHeartbeats 16000000
namespace Go.Proofs.YtkojlembanldcaaGreat
open Go Go.RowKit Eng
theorem elt_ext {tt : Ty} {a b : List (El tt)} (hl : a.length = b.length) (h : ∀ i < a.length,elt tt a i = elt tt b i) : a = b:=by
 refine List.ext_getElem? fun i=>?_
 by_cases hi : i < a.length
 ·rw [elt_get tt a i hi,elt_get tt b i (by omega),h i hi]
 ·rw [List.getElem?_eq_none (by omega),List.getElem?_eq_none (by omega)]
theorem eqSlot_iff {a b : Slot} : eqSlot a b = true ↔ a = b:=by
 obtain ⟨a1,a2⟩:=a
 obtain ⟨b1,b2⟩:=b
 simp [eqSlot]
theorem sameSlots_iff {a b : List Slot} : sameSlots a b = true ↔ a = b:=by
 constructor
 ·intro h
  simp only [sameSlots,Bool.and_eq_true,beq_iff_eq,List.all_eq_true,List.mem_range] at h
  exact elt_ext (tt:=.slot) h.1 fun i hi=>eqSlot_iff.1 (h.2 i hi)
 ·rintro rfl
  exact sameSlots_true rfl fun i _=>eqSlot_iff.2 rfl
noncomputable def eqv {α : Type} (a b : α) : Bool:=@decide (a = b) (Classical.propDecidable _)
theorem same_self (c : Chunk) (hc : OkC c) : Api Tryz.prog 32 [chunkV c,chunkV c] (bol true):=by
 have hnc : c.cells.length ≤ 9000000000000000000:=hc.nc
 have hnh : c.heaps.length ≤ 9000000000000000000:=hc.nh
 have hnb : c.boxes.length ≤ 9000000000000000000:=hc.nb
 refine aF Tryz.func32 117 ?_
 conv=>whnf
 repeat' (first|exact trivial|((first|(refine ⟨fun hb=>?_,fun hb=>?_⟩<;>(try simp only [nrm] at hb)<;>try exact kZ hb)|refine kV ?_)<;>(conv=>whnf))|refine kY ?_ ?_)
 refine Runs.loopS cfg_ok (σ:=Nat) [2,3,49,50] (fun k=>[.ptr 4 0,.ptr 6 0,i64 c.cells.length,i64 k]) (fun k=>[(4,.box (chunkC c)),(6,.box (chunkC c))])
  (fun k=>k ≤ c.cells.length) (fun k=>c.cells.length - k) 0 (by omega) ?_ ?_
 ·exact fD0
 ·intro k hk
  by_cases hlt : k < c.cells.length
  ·conv=>whnf
   repeat' (first|exact trivial|((first|(refine ⟨fun hb=>?_,fun hb=>?_⟩<;>(try simp only [nrm] at hb)<;>try exact kZ hb)|refine kV ?_)<;>(conv=>whnf))|refine kY ?_ ?_)
   refine .to (k + 1) hlt (by omega) ?_
   exact fD0
  ·obtain rfl : k = c.cells.length:=by omega
   conv=>whnf
   repeat' (first|exact trivial|((first|(refine ⟨fun hb=>?_,fun hb=>?_⟩<;>(try simp only [nrm] at hb)<;>try exact kZ hb)|refine kV ?_)<;>(conv=>whnf))|refine kY ?_ ?_)
   refine Runs.loopS cfg_ok (σ:=Nat) [2,3,67,68] (fun k=>[.ptr 4 0,.ptr 6 0,i64 c.heaps.length,i64 k]) (fun k=>[(4,.box (chunkC c)),(6,.box (chunkC c))])
    (fun k=>k ≤ c.heaps.length) (fun k=>c.heaps.length - k) 0 (by omega) ?_ ?_
   ·exact fD0
   ·intro k hk
    by_cases hlt : k < c.heaps.length
    ·conv=>whnf
     repeat' (first|exact trivial|((first|(refine ⟨fun hb=>?_,fun hb=>?_⟩<;>(try simp only [nrm] at hb)<;>try exact kZ hb)|refine kV ?_)<;>(conv=>whnf))|refine kY ?_ ?_)
     refine .to (k + 1) hlt (by omega) ?_
     exact fD0
    ·obtain rfl : k = c.heaps.length:=by omega
     conv=>whnf
     repeat' (first|exact trivial|((first|(refine ⟨fun hb=>?_,fun hb=>?_⟩<;>(try simp only [nrm] at hb)<;>try exact kZ hb)|refine kV ?_)<;>(conv=>whnf))|refine kY ?_ ?_)
     refine Runs.loopS cfg_ok (σ:=Nat) [2,3,85,86] (fun k=>[.ptr 4 0,.ptr 6 0,i64 c.boxes.length,i64 k]) (fun k=>[(4,.box (chunkC c)),(6,.box (chunkC c))])
      (fun k=>k ≤ c.boxes.length) (fun k=>c.boxes.length - k) 0 (by omega) ?_ ?_
     ·exact fD0
     ·intro k hk
      by_cases hlt : k < c.boxes.length
      ·have hbb : (elt .box c.boxes k).bag.length ≤ big:=(hc.boxes _ (elt_mem (t:=.box) hlt)).2
       have hss:=sameSlots_api (elt .box c.boxes k).bag (elt .box c.boxes k).bag hbb
       rw [sameSlots_iff.2 rfl] at hss
       conv=>whnf
       repeat' (first|exact trivial|((first|(refine ⟨fun hb=>?_,fun hb=>?_⟩<;>(try simp only [nrm] at hb)<;>try exact kZ hb)|refine kV ?_)<;>(conv=>whnf))|refine kY ?_ ?_)
       refine .to (k + 1) hlt (by omega) ?_
       exact fD0
      ·obtain rfl : k = c.boxes.length:=by omega
       exact fD0
open Go Go.RowKit Eng
theorem sameW_self (w : Wld) (hw : OkW w) : Api Tryz.prog 26 [wldV w,wldV w] (bol true):=by
 have hnc:=hw.nc
 have hnp:=hw.np
 refine aF Tryz.func26 80 ?_
 conv=>whnf
 repeat' (first|exact trivial|((first|(refine ⟨fun hb=>?_,fun hb=>?_⟩<;>(try simp only [nrm] at hb)<;>try exact kZ hb)|refine kV ?_)<;>(conv=>whnf))|refine kY ?_ ?_)
 all_goals try omega
 refine Runs.loopS cfg_ok (σ:=Nat) [2,3,46,47] (fun k=>[.ptr 4 0,.ptr 6 0,i64 w.chunks.length,i64 k]) (fun _=>[(4,.box (wldC w)),(6,.box (wldC w))])
  (fun k=>k ≤ w.chunks.length) (fun k=>w.chunks.length - k) 0 (by omega) ?_ ?_
 ·exact fD0
 ·intro k hk
  by_cases hlt : k < w.chunks.length
  ·have hs:=same_self (elt .chunk w.chunks k) (hw.chunks _ (elt_mem (t:=.chunk) hlt))
   conv=>whnf
   repeat' (first|exact trivial|((first|(refine ⟨fun hb=>?_,fun hb=>?_⟩<;>(try simp only [nrm] at hb)<;>try exact kZ hb)|refine kV ?_)<;>(conv=>whnf))|refine kY ?_ ?_)
   refine .to (k + 1) hlt (by omega) ?_
   exact fD0
  ·obtain rfl : k = w.chunks.length:=by omega
   conv=>whnf
   repeat' (first|exact trivial|((first|(refine ⟨fun hb=>?_,fun hb=>?_⟩<;>(try simp only [nrm] at hb)<;>try exact kZ hb)|refine kV ?_)<;>(conv=>whnf))|refine kY ?_ ?_)
   refine Runs.loopS cfg_ok (σ:=Nat) [2,3,65,66] (fun k=>[.ptr 4 0,.ptr 6 0,i64 w.players.length,i64 k]) (fun _=>[(4,.box (wldC w)),(6,.box (wldC w))])
    (fun k=>k ≤ w.players.length) (fun k=>w.players.length - k) 0 (by omega) ?_ ?_
   ·exact fD0
   ·intro k hk
    by_cases hlt : k < w.players.length
    ·have hs:=sameP_self (elt .player w.players k) (hw.players _ (elt_mem (t:=.player) hlt))
     conv=>whnf
     repeat' (first|exact trivial|((first|(refine ⟨fun hb=>?_,fun hb=>?_⟩<;>(try simp only [nrm] at hb)<;>try exact kZ hb)|refine kV ?_)<;>(conv=>whnf))|refine kY ?_ ?_)
     refine .to (k + 1) hlt (by omega) ?_
     exact fD0
    ·obtain rfl : k = w.players.length:=by omega
     exact fD0
open Go Go.RowKit Eng
theorem gl_air (seed x y : Int) (hy : y ≤ 3) : gl seed x y 64 = List.replicate 64 0:=by
 unfold gl
 refine List.ext_getElem (by simp) fun i h1 h2=>?_
 simp only [List.length_map,List.length_range] at h1
 simp only [List.getElem_map,List.getElem_range,List.getElem_replicate]
 have hh:=heightI_bd seed (x * 8 + (i % 8 : Nat))
 unfold cellI
 simp only []
 generalize heightI seed (x * 8 + (i % 8 : Nat)) = H at *
 rw [if_neg (by omega),if_neg (by omega),if_pos (by omega)]
def w2 : Wld:=⟨2,7,0,[],[]⟩
open Go Go.RowKit Eng
theorem chunkW_in {w : Wld} {x y : Int} (hR : RW w) (hx : 0 ≤ x ∧ x < w.size) (hy : 0 ≤ y ∧ y < w.size) :
  chunkW w x y = (match getK keyC w.chunks (keyC (atC x y)) with|some c=>c|none=>genC w.seed x y,true) ∧ (chunkW w x y).1.x = x ∧ (chunkW w x y).1.y = y:=by
 have hs:=hR.size
 obtain ⟨e1,e2⟩:=bsC_rises hR.rc hR.xy (x:=x) (y:=y) hx.1 (by omega)
 have hRr:=rightW_iff.2 hR
 have hI : insideW w.size x y = true:=by unfold insideW;simp only [Bool.and_eq_true,decide_eq_true_eq];omega
 have hc : chunkW w x y = (if fdC w.chunks x y = true then (elt .chunk w.chunks (bsC w.chunks x y),true) else (genC w.seed x y,true)):=by
  unfold chunkW
  rw [if_neg (by rw [hI,hRr];simp)]
 rw [hc,e2]
 cases hg : getK keyC w.chunks (keyC (atC x y)) with
 | none=>exact ⟨rfl,rfl,rfl⟩
 | some c =>
  obtain ⟨h1,h2⟩:=lbK_lt hR.rc hg
  have h3 : elt .chunk w.chunks (lbK keyC (keyC (atC x y)) w.chunks) = c:=by
   have:=elt_get .chunk w.chunks _ h1
   rw [h2] at this
   exact (Option.some.inj this).symm
  rw [e1,h3]
  have h4:=(getK_mem hg)
  have h5:=rightB_pos (hR.chunks c h4.1).1
  have h6:=h4.2
  have h7 : keyC c = 16 * c.y + c.x:=rfl
  have h8 : keyC (atC x y) = 16 * y + x:=rfl
  refine ⟨rfl,?_,?_⟩
  ·show c.x = x;omega
  ·show c.y = y;omega
theorem within_iff {w : Wld} (hR : RW w) {x y : Int} : withinW w.size x y = true ↔ 0 ≤ x ∧ 0 ≤ y ∧ x < 8 * w.size ∧ y < 8 * w.size:=by
 have hs:=hR.size
 unfold withinW
 rw [wr8_eq (by omega) (by omega)]
 simp only [Bool.and_eq_true,decide_eq_true_eq]
 omega
theorem atW_in {w : Wld} {x y : Int} (hR : RW w) (h : 0 ≤ x ∧ 0 ≤ y ∧ x < 8 * w.size ∧ y < 8 * w.size) :
  atW w x y = (elt .u8 (chunkW w (x / 8) (y / 8)).1.cells (y % 8 * 8 + x % 8).toNat,true):=by
 have hc:=(chunkW_in hR (x:=x / 8) (y:=y / 8) (by omega) (by omega)).1
 have hw:=(within_iff hR).2 h
 unfold atW
 rw [if_neg (by rw [hw];simp),if_neg (by rw [hc];simp)]
theorem atW_out {w : Wld} {x y : Int} (hR : RW w) (h : ¬ (0 ≤ x ∧ 0 ≤ y ∧ x < 8 * w.size ∧ y < 8 * w.size)) : atW w x y = (0,false):=by
 have hw : ¬ withinW w.size x y = true:=fun e=>h ((within_iff hR).1 e)
 unfold atW
 rw [if_pos (Bool.eq_false_iff.2 hw)]
end Go.Proofs.YtkojlembanldcaaGreat
