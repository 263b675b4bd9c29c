/- Contracts of the law packages 11 and 13. -/
import Derived.Test.YtkojlembanldcaaGreatGf
import Derived.Test.YtkojlembanldcaaGreatGc
import Derived.Test.YtkojlembanldcaaGreatGe
set_option linter.unusedSimpArgs false
set_option linter.unusedVariables false
set_option maxRecDepth 100000
set_option maxHeartbeats 16000000
namespace Go.Proofs.YtkojlembanldcaaGreat
open Go Go.RowKit Eng
theorem Jv {tt : Ty} {a b : List (El tt)} (hl : a.length = b.length) (h : ∀ i < a.length,elt tt a i = elt tt b i) : a = b:=by
 refine List.ext_getElem? fun i=>?_
 by_cases hi : i < a.length
 ·rw [ar tt a i hi,ar tt b i (by omega),h i hi]
 ·rw [List.getElem?_eq_none (by omega),List.getElem?_eq_none (by omega)]
theorem ue {a b : aa} : gU a b = true ↔ a = b:=by
 obtain ⟨a1,a2⟩:=a
 obtain ⟨b1,b2⟩:=b
 simp [gU]
theorem w7 {a b : List aa} : fw a b = true ↔ a = b:=by
 constructor
 ·intro h
  simp only [fw,Bool.and_eq_true,beq_iff_eq,List.all_eq_true,List.mem_range] at h
  exact Jv (tt:=.slot) h.1 fun i hi=>ue.1 (h.2 i hi)
 ·rintro rfl
  exact jJ rfl fun i _=>ue.2 rfl
noncomputable def eqv {α : Type} (a b : α) : Bool:=@decide (a = b) (Classical.propDecidable _)
theorem FT (c : Chunk) (hc : OkC c) : Api Tryz.prog 32 [bq c,bq c] (bol true):=by
 have hnc : c.cells.length ≤ 9000000000000000000:=hc.nc
 have hnh : c.heaps.length ≤ 9000000000000000000:=hc.nh
 have hnb : c.boxes.length ≤ 9000000000000000000:=hc.nb
 refine aF Tryz.func32 117 ?_
 conv=>whnf
 repeat' (first|exact trivial|((first|(refine ⟨fun hb=>?_,fun hb=>?_⟩<;>(try simp only [nrm] at hb)<;>try exact kZ hb)|refine kV ?_)<;>(conv=>whnf))|refine kY ?_ ?_)
 refine ap.loopS ah (σ:=Nat) [2,3,49,50] (fun k=>[.ptr 4 0,.ptr 6 0,i64 c.cells.length,i64 k]) (fun k=>[(4,.box (bB c)),(6,.box (bB c))])
  (fun k=>k ≤ c.cells.length) (fun k=>c.cells.length - k) 0 (by omega) ?_ ?_
 ·exact fD0
 ·intro k hk
  by_cases hlt : k < c.cells.length
  ·conv=>whnf
   repeat' (first|exact trivial|((first|(refine ⟨fun hb=>?_,fun hb=>?_⟩<;>(try simp only [nrm] at hb)<;>try exact kZ hb)|refine kV ?_)<;>(conv=>whnf))|refine kY ?_ ?_)
   refine .to (k + 1) hlt (by omega) ?_
   exact fD0
  ·obtain rfl : k = c.cells.length:=by omega
   conv=>whnf
   repeat' (first|exact trivial|((first|(refine ⟨fun hb=>?_,fun hb=>?_⟩<;>(try simp only [nrm] at hb)<;>try exact kZ hb)|refine kV ?_)<;>(conv=>whnf))|refine kY ?_ ?_)
   refine ap.loopS ah (σ:=Nat) [2,3,67,68] (fun k=>[.ptr 4 0,.ptr 6 0,i64 c.heaps.length,i64 k]) (fun k=>[(4,.box (bB c)),(6,.box (bB c))])
    (fun k=>k ≤ c.heaps.length) (fun k=>c.heaps.length - k) 0 (by omega) ?_ ?_
   ·exact fD0
   ·intro k hk
    by_cases hlt : k < c.heaps.length
    ·conv=>whnf
     repeat' (first|exact trivial|((first|(refine ⟨fun hb=>?_,fun hb=>?_⟩<;>(try simp only [nrm] at hb)<;>try exact kZ hb)|refine kV ?_)<;>(conv=>whnf))|refine kY ?_ ?_)
     refine .to (k + 1) hlt (by omega) ?_
     exact fD0
    ·obtain rfl : k = c.heaps.length:=by omega
     conv=>whnf
     repeat' (first|exact trivial|((first|(refine ⟨fun hb=>?_,fun hb=>?_⟩<;>(try simp only [nrm] at hb)<;>try exact kZ hb)|refine kV ?_)<;>(conv=>whnf))|refine kY ?_ ?_)
     refine ap.loopS ah (σ:=Nat) [2,3,85,86] (fun k=>[.ptr 4 0,.ptr 6 0,i64 c.boxes.length,i64 k]) (fun k=>[(4,.box (bB c)),(6,.box (bB c))])
      (fun k=>k ≤ c.boxes.length) (fun k=>c.boxes.length - k) 0 (by omega) ?_ ?_
     ·exact fD0
     ·intro k hk
      by_cases hlt : k < c.boxes.length
      ·have hbb : (elt .box c.boxes k).bag.length ≤ big:=(hc.boxes _ (ao (t:=.box) hlt)).2
       have hss:=kO (elt .box c.boxes k).bag (elt .box c.boxes k).bag hbb
       rw [w7.2 rfl] at hss
       conv=>whnf
       repeat' (first|exact trivial|((first|(refine ⟨fun hb=>?_,fun hb=>?_⟩<;>(try simp only [nrm] at hb)<;>try exact kZ hb)|refine kV ?_)<;>(conv=>whnf))|refine kY ?_ ?_)
       refine .to (k + 1) hlt (by omega) ?_
       exact fD0
      ·obtain rfl : k = c.boxes.length:=by omega
       exact fD0
open Go Go.RowKit Eng
theorem DG (w : Wld) (hw : OkW w) : Api Tryz.prog 26 [az w,az w] (bol true):=by
 have hnc:=hw.nc
 have hnp:=hw.np
 refine aF Tryz.func26 80 ?_
 conv=>whnf
 repeat' (first|exact trivial|((first|(refine ⟨fun hb=>?_,fun hb=>?_⟩<;>(try simp only [nrm] at hb)<;>try exact kZ hb)|refine kV ?_)<;>(conv=>whnf))|refine kY ?_ ?_)
 all_goals try omega
 refine ap.loopS ah (σ:=Nat) [2,3,46,47] (fun k=>[.ptr 4 0,.ptr 6 0,i64 w.chunks.length,i64 k]) (fun _=>[(4,.box (bA w)),(6,.box (bA w))])
  (fun k=>k ≤ w.chunks.length) (fun k=>w.chunks.length - k) 0 (by omega) ?_ ?_
 ·exact fD0
 ·intro k hk
  by_cases hlt : k < w.chunks.length
  ·have hs:=FT (elt .chunk w.chunks k) (hw.chunks _ (ao (t:=.chunk) hlt))
   conv=>whnf
   repeat' (first|exact trivial|((first|(refine ⟨fun hb=>?_,fun hb=>?_⟩<;>(try simp only [nrm] at hb)<;>try exact kZ hb)|refine kV ?_)<;>(conv=>whnf))|refine kY ?_ ?_)
   refine .to (k + 1) hlt (by omega) ?_
   exact fD0
  ·obtain rfl : k = w.chunks.length:=by omega
   conv=>whnf
   repeat' (first|exact trivial|((first|(refine ⟨fun hb=>?_,fun hb=>?_⟩<;>(try simp only [nrm] at hb)<;>try exact kZ hb)|refine kV ?_)<;>(conv=>whnf))|refine kY ?_ ?_)
   refine ap.loopS ah (σ:=Nat) [2,3,65,66] (fun k=>[.ptr 4 0,.ptr 6 0,i64 w.players.length,i64 k]) (fun _=>[(4,.box (bA w)),(6,.box (bA w))])
    (fun k=>k ≤ w.players.length) (fun k=>w.players.length - k) 0 (by omega) ?_ ?_
   ·exact fD0
   ·intro k hk
    by_cases hlt : k < w.players.length
    ·have hs:=Db (elt .player w.players k) (hw.players _ (ao (t:=.player) hlt))
     conv=>whnf
     repeat' (first|exact trivial|((first|(refine ⟨fun hb=>?_,fun hb=>?_⟩<;>(try simp only [nrm] at hb)<;>try exact kZ hb)|refine kV ?_)<;>(conv=>whnf))|refine kY ?_ ?_)
     refine .to (k + 1) hlt (by omega) ?_
     exact fD0
    ·obtain rfl : k = w.players.length:=by omega
     exact fD0
open Go Go.RowKit Eng
def w2 : Wld:=⟨2,7,0,[],[]⟩
open Go Go.RowKit Eng
theorem i9 {w : Wld} {x y : Int} (hR : RW w) (hx : 0 ≤ x ∧ x < w.size) (hy : 0 ≤ y ∧ y < w.size) :
  ba w x y = (match aH aI w.chunks (aI (atC x y)) with|some c=>c|none=>eh w.seed x y,true) ∧ (ba w x y).1.x = x ∧ (ba w x y).1.y = y:=by
 have hs:=hR.size
 obtain ⟨e1,e2⟩:=qa hR.rc hR.xy (x:=x) (y:=y) hx.1 (by omega)
 have hRr:=aK.2 hR
 have hI : gG w.size x y = true:=by unfold gG;simp only [Bool.and_eq_true,decide_eq_true_eq];omega
 have hc : ba w x y = (if fdC w.chunks x y = true then (elt .chunk w.chunks (bsC w.chunks x y),true) else (eh w.seed x y,true)):=by
  unfold ba
  rw [if_neg (by rw [hI,hRr];simp)]
 rw [hc,e2]
 cases hg : aH aI w.chunks (aI (atC x y)) with
 | none=>exact ⟨rfl,rfl,rfl⟩
 | some c =>
  obtain ⟨h1,h2⟩:=pH hR.rc hg
  have h3 : elt .chunk w.chunks (lbK aI (aI (atC x y)) w.chunks) = c:=by
   have:=ar .chunk w.chunks _ h1
   rw [h2] at this
   exact (Option.some.inj this).symm
  rw [e1,h3]
  have h4:=(gq hg)
  have h5:=cT (hR.chunks c h4.1).1
  have h6:=h4.2
  have h7 : aI c = 16 * c.y + c.x:=rfl
  have h8 : aI (atC x y) = 16 * y + x:=rfl
  refine ⟨rfl,?_,?_⟩
  ·show c.x = x;omega
  ·show c.y = y;omega
theorem a6 {w : Wld} (hR : RW w) {x y : Int} : av w.size x y = true ↔ 0 ≤ x ∧ 0 ≤ y ∧ x < 8 * w.size ∧ y < 8 * w.size:=by
 have hs:=hR.size
 unfold av
 rw [pI (by omega) (by omega)]
 simp only [Bool.and_eq_true,decide_eq_true_eq]
 omega
theorem FU {w : Wld} {x y : Int} (hR : RW w) (h : 0 ≤ x ∧ 0 ≤ y ∧ x < 8 * w.size ∧ y < 8 * w.size) :
  atW w x y = (elt .u8 (ba w (x / 8) (y / 8)).1.cells (y % 8 * 8 + x % 8).toNat,true):=by
 have hc:=(i9 hR (x:=x / 8) (y:=y / 8) (by omega) (by omega)).1
 have hw:=(a6 hR).2 h
 unfold atW
 rw [if_neg (by rw [hw];simp),if_neg (by rw [hc];simp)]
theorem Jw {w : Wld} {x y : Int} (hR : RW w) (h : ¬ (0 ≤ x ∧ 0 ≤ y ∧ x < 8 * w.size ∧ y < 8 * w.size)) : atW w x y = (0,false):=by
 have hw : ¬ av w.size x y = true:=fun e=>h ((a6 hR).1 e)
 unfold atW
 rw [if_pos (Bool.eq_false_iff.2 hw)]
end Go.Proofs.YtkojlembanldcaaGreat
