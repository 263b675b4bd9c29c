/- Contracts of the law packages 11 and 13. -/
import Derived.Test.YtaecchphjploaaaGreatGf
import Derived.Test.YtaecchphjploaaaGreatGc
import Derived.Test.YtaecchphjploaaaGreatGe
set_option linter.unusedSimpArgs false
set_option linter.unusedVariables false
set_option maxRecDepth 100000
set_option maxHeartbeats 16000000
namespace Go.Proofs.YtaecchphjploaaaGreat
open Go Go.RowKit Eng
theorem elt_ext {tt : Ty} {a b : List (El tt)} (hl : a.length = b.length) (h : ∀ i < a.length,elt tt a i = elt tt b i) : a = b:=by
 refine List.ext_getElem? fun i=>?_
 by_cases hi : i < a.length
 · rw [elt_get tt a i hi,elt_get tt b i (by omega),h i hi]
 · rw [List.getElem?_eq_none (by omega),List.getElem?_eq_none (by omega)]
theorem eqSlot_iff {a b : Slot} : eqSlot a b = true ↔ a = b:=by
 obtain ⟨a1,a2⟩:=a
 obtain ⟨b1,b2⟩:=b
 simp [eqSlot]
theorem sameSlots_iff {a b : List Slot} : sameSlots a b = true ↔ a = b:=by
 constructor
 · intro h
   simp only [sameSlots,Bool.and_eq_true,beq_iff_eq,List.all_eq_true,List.mem_range] at h
   exact elt_ext (tt:=.slot) h.1 fun i hi=>eqSlot_iff.1 (h.2 i hi)
 · rintro rfl
   exact sameSlots_true rfl fun i _=>eqSlot_iff.2 rfl
noncomputable def eqv {α : Type} (a b : α) : Bool:=@decide (a = b) (Classical.propDecidable _)
theorem eqv_iff {α : Type} {a b : α} : eqv a b = true ↔ a = b:=by unfold eqv;simp
theorem eqv_self {α : Type} (a : α) : eqv a a = true:=eqv_iff.2 rfl
theorem eqv_false {α : Type} {a b : α} : eqv a b = false ↔ a ≠ b:=by unfold eqv;simp
theorem sameSlots_eqv (a b : List Slot) : sameSlots a b = eqv a b:=by
 rw [Bool.eq_iff_iff,sameSlots_iff,eqv_iff]
theorem heap_ext {a b : Heap} (h1 : a.cell = b.cell) (h2 : a.slot.item = b.slot.item) (h3 : a.slot.n = b.slot.n) : a = b:=by
 obtain ⟨a1,⟨a2,a3⟩⟩:=a
 obtain ⟨b1,⟨b2,b3⟩⟩:=b
 simp_all
theorem box_ext {a b : Box} (h1 : a.cell = b.cell) (h2 : a.bag = b.bag) : a = b:=by
 obtain ⟨a1,a2⟩:=a
 obtain ⟨b1,b2⟩:=b
 simp_all
theorem chunk_ext {a b : Chunk} (h1 : a.x = b.x) (h2 : a.y = b.y) (h3 : a.cells = b.cells) (h4 : a.heaps = b.heaps) (h5 : a.boxes = b.boxes) : a = b:=by
 obtain ⟨a1,a2,a3,a4,a5⟩:=a
 obtain ⟨b1,b2,b3,b4,b5⟩:=b
 simp_all
theorem same_self (c : Chunk) (hc : OkC c) : Api Tryz.prog 21 [chunkV c,chunkV c] (bol true):=by
 have hnc : c.cells.length ≤ 9000000000000000000:=hc.nc
 have hnh : c.heaps.length ≤ 9000000000000000000:=hc.nh
 have hnb : c.boxes.length ≤ 9000000000000000000:=hc.nb
 refine Api.of_fin cfg_ok Tryz.func21 rfl (nt:=117) rfl rfl ?_
 conv=>whnf
 repeat' (first|exact trivial|((first|refine kL ?_|(refine ⟨fun hb=>?_,fun hb=>?_⟩<;>(try simp only [nrm] at hb)<;>(try (first|(exfalso;omega)|contradiction|exact kB hb)))|refine kW cfg_ok ?_|refine kC ?_|refine bdA ?_|refine bd2 ?_|refine bdR ?_|refine bdL ?_)<;>(conv=>whnf))|(refine And.intro ?_ ?_;rotate_left;(conv=>whnf);rotate_right))
 refine Runs.loopS cfg_ok (σ:=Nat) [2,3,49,50] (fun k=>[.ptr 4 0,.ptr 6 0,i64 c.cells.length,i64 k]) (fun k=>[(4,.box (chunkC c)),(6,.box (chunkC c))])
   (fun k=>k ≤ c.cells.length) (fun k=>c.cells.length - k) 0 (by omega) ?_ ?_
 · conv=>whnf
   repeat' (first|exact trivial|((first|refine kL ?_|(refine ⟨fun hb=>?_,fun hb=>?_⟩<;>(try simp only [nrm] at hb)<;>(try (first|(exfalso;omega)|contradiction|exact kB hb)))|refine kW cfg_ok ?_|refine kC ?_|refine bdA ?_|refine bd2 ?_|refine bdR ?_|refine bdL ?_)<;>(conv=>whnf))|(refine And.intro ?_ ?_;rotate_left;(conv=>whnf);rotate_right))
 · intro k hk
   by_cases hlt : k < c.cells.length
   · conv=>whnf
     repeat' (first|exact trivial|((first|refine kL ?_|(refine ⟨fun hb=>?_,fun hb=>?_⟩<;>(try simp only [nrm] at hb)<;>(try (first|(exfalso;omega)|contradiction|exact kB hb)))|refine kW cfg_ok ?_|refine kC ?_|refine bdA ?_|refine bd2 ?_|refine bdR ?_|refine bdL ?_)<;>(conv=>whnf))|(refine And.intro ?_ ?_;rotate_left;(conv=>whnf);rotate_right))
     refine .to (k + 1) hlt (by omega) ?_
     conv=>whnf
     repeat' (first|exact trivial|((first|refine kL ?_|(refine ⟨fun hb=>?_,fun hb=>?_⟩<;>(try simp only [nrm] at hb)<;>(try (first|(exfalso;omega)|contradiction|exact kB hb)))|refine kW cfg_ok ?_|refine kC ?_|refine bdA ?_|refine bd2 ?_|refine bdR ?_|refine bdL ?_)<;>(conv=>whnf))|(refine And.intro ?_ ?_;rotate_left;(conv=>whnf);rotate_right))
   · obtain rfl : k = c.cells.length:=by omega
     conv=>whnf
     repeat' (first|exact trivial|((first|refine kL ?_|(refine ⟨fun hb=>?_,fun hb=>?_⟩<;>(try simp only [nrm] at hb)<;>(try (first|(exfalso;omega)|contradiction|exact kB hb)))|refine kW cfg_ok ?_|refine kC ?_|refine bdA ?_|refine bd2 ?_|refine bdR ?_|refine bdL ?_)<;>(conv=>whnf))|(refine And.intro ?_ ?_;rotate_left;(conv=>whnf);rotate_right))
     refine Runs.loopS cfg_ok (σ:=Nat) [2,3,67,68] (fun k=>[.ptr 4 0,.ptr 6 0,i64 c.heaps.length,i64 k]) (fun k=>[(4,.box (chunkC c)),(6,.box (chunkC c))])
       (fun k=>k ≤ c.heaps.length) (fun k=>c.heaps.length - k) 0 (by omega) ?_ ?_
     · conv=>whnf
       repeat' (first|exact trivial|((first|refine kL ?_|(refine ⟨fun hb=>?_,fun hb=>?_⟩<;>(try simp only [nrm] at hb)<;>(try (first|(exfalso;omega)|contradiction|exact kB hb)))|refine kW cfg_ok ?_|refine kC ?_|refine bdA ?_|refine bd2 ?_|refine bdR ?_|refine bdL ?_)<;>(conv=>whnf))|(refine And.intro ?_ ?_;rotate_left;(conv=>whnf);rotate_right))
     · intro k hk
       by_cases hlt : k < c.heaps.length
       · conv=>whnf
         repeat' (first|exact trivial|((first|refine kL ?_|(refine ⟨fun hb=>?_,fun hb=>?_⟩<;>(try simp only [nrm] at hb)<;>(try (first|(exfalso;omega)|contradiction|exact kB hb)))|refine kW cfg_ok ?_|refine kC ?_|refine bdA ?_|refine bd2 ?_|refine bdR ?_|refine bdL ?_)<;>(conv=>whnf))|(refine And.intro ?_ ?_;rotate_left;(conv=>whnf);rotate_right))
         refine .to (k + 1) hlt (by omega) ?_
         conv=>whnf
         repeat' (first|exact trivial|((first|refine kL ?_|(refine ⟨fun hb=>?_,fun hb=>?_⟩<;>(try simp only [nrm] at hb)<;>(try (first|(exfalso;omega)|contradiction|exact kB hb)))|refine kW cfg_ok ?_|refine kC ?_|refine bdA ?_|refine bd2 ?_|refine bdR ?_|refine bdL ?_)<;>(conv=>whnf))|(refine And.intro ?_ ?_;rotate_left;(conv=>whnf);rotate_right))
       · obtain rfl : k = c.heaps.length:=by omega
         conv=>whnf
         repeat' (first|exact trivial|((first|refine kL ?_|(refine ⟨fun hb=>?_,fun hb=>?_⟩<;>(try simp only [nrm] at hb)<;>(try (first|(exfalso;omega)|contradiction|exact kB hb)))|refine kW cfg_ok ?_|refine kC ?_|refine bdA ?_|refine bd2 ?_|refine bdR ?_|refine bdL ?_)<;>(conv=>whnf))|(refine And.intro ?_ ?_;rotate_left;(conv=>whnf);rotate_right))
         refine Runs.loopS cfg_ok (σ:=Nat) [2,3,85,86] (fun k=>[.ptr 4 0,.ptr 6 0,i64 c.boxes.length,i64 k]) (fun k=>[(4,.box (chunkC c)),(6,.box (chunkC c))])
           (fun k=>k ≤ c.boxes.length) (fun k=>c.boxes.length - k) 0 (by omega) ?_ ?_
         · conv=>whnf
           repeat' (first|exact trivial|((first|refine kL ?_|(refine ⟨fun hb=>?_,fun hb=>?_⟩<;>(try simp only [nrm] at hb)<;>(try (first|(exfalso;omega)|contradiction|exact kB hb)))|refine kW cfg_ok ?_|refine kC ?_|refine bdA ?_|refine bd2 ?_|refine bdR ?_|refine bdL ?_)<;>(conv=>whnf))|(refine And.intro ?_ ?_;rotate_left;(conv=>whnf);rotate_right))
         · intro k hk
           by_cases hlt : k < c.boxes.length
           · have hbb : (elt .box c.boxes k).bag.length ≤ big:=(hc.boxes _ (elt_mem (t:=.box) hlt)).2
             have hss:=sameSlots_api (elt .box c.boxes k).bag (elt .box c.boxes k).bag hbb
             rw [sameSlots_iff.2 rfl] at hss
             conv=>whnf
             repeat' (first|exact trivial|((first|refine kL ?_|(refine ⟨fun hb=>?_,fun hb=>?_⟩<;>(try simp only [nrm] at hb)<;>(try (first|(exfalso;omega)|contradiction|exact kB hb)))|refine kA hss ?_|refine kD hss ?_|refine kW cfg_ok ?_|refine kC ?_|refine bdA ?_|refine bd2 ?_|refine bdR ?_|refine bdL ?_)<;>(conv=>whnf))|(refine And.intro ?_ ?_;rotate_left;(conv=>whnf);rotate_right))
             refine .to (k + 1) hlt (by omega) ?_
             conv=>whnf
             repeat' (first|exact trivial|((first|refine kL ?_|(refine ⟨fun hb=>?_,fun hb=>?_⟩<;>(try simp only [nrm] at hb)<;>(try (first|(exfalso;omega)|contradiction|exact kB hb)))|refine kW cfg_ok ?_|refine kC ?_|refine bdA ?_|refine bd2 ?_|refine bdR ?_|refine bdL ?_)<;>(conv=>whnf))|(refine And.intro ?_ ?_;rotate_left;(conv=>whnf);rotate_right))
           · obtain rfl : k = c.boxes.length:=by omega
             conv=>whnf
             repeat' (first|exact trivial|((first|refine kL ?_|(refine ⟨fun hb=>?_,fun hb=>?_⟩<;>(try simp only [nrm] at hb)<;>(try (first|(exfalso;omega)|contradiction|exact kB hb)))|refine kW cfg_ok ?_|refine kC ?_|refine bdA ?_|refine bd2 ?_|refine bdR ?_|refine bdL ?_)<;>(conv=>whnf))|(refine And.intro ?_ ?_;rotate_left;(conv=>whnf);rotate_right))
theorem same_ne (c d : Chunk) (hc : OkC c) (hne : ¬ c = d) : Api Tryz.prog 21 [chunkV c,chunkV d] (bol false):=by
 have hnc : c.cells.length ≤ 9000000000000000000:=hc.nc
 have hnh : c.heaps.length ≤ 9000000000000000000:=hc.nh
 have hnb : c.boxes.length ≤ 9000000000000000000:=hc.nb
 by_cases hhd : c.x = d.x ∧ c.y = d.y ∧ c.cells.length = d.cells.length ∧ c.heaps.length = d.heaps.length ∧ c.boxes.length = d.boxes.length
 · obtain ⟨hx,hy,lc,lh,lb⟩:=hhd
   refine Api.of_fin cfg_ok Tryz.func21 rfl (nt:=117) rfl rfl ?_
   conv=>whnf
   repeat' (first|exact trivial|((first|refine kL ?_|(refine ⟨fun hb=>?_,fun hb=>?_⟩<;>(try simp only [nrm] at hb)<;>(try (first|(exfalso;omega)|contradiction|exact kB hb)))|refine kW cfg_ok ?_|refine kC ?_|refine bdA ?_|refine bd2 ?_|refine bdR ?_|refine bdL ?_)<;>(conv=>whnf))|(refine And.intro ?_ ?_;rotate_left;(conv=>whnf);rotate_right))
   all_goals try omega
   refine Runs.loopS cfg_ok (σ:=Nat) [2,3,49,50] (fun k=>[.ptr 4 0,.ptr 6 0,i64 c.cells.length,i64 k]) (fun k=>[(4,.box (chunkC c)),(6,.box (chunkC d))])
     (fun k=>k ≤ c.cells.length ∧ ∀ i < k,elt .u8 c.cells i = elt .u8 d.cells i) (fun k=>c.cells.length - k) 0 ⟨by omega,by omega⟩ ?_ ?_
   · conv=>whnf
     repeat' (first|exact trivial|((first|refine kL ?_|(refine ⟨fun hb=>?_,fun hb=>?_⟩<;>(try simp only [nrm] at hb)<;>(try (first|(exfalso;omega)|contradiction|exact kB hb)))|refine kW cfg_ok ?_|refine kC ?_|refine bdA ?_|refine bd2 ?_|refine bdR ?_|refine bdL ?_)<;>(conv=>whnf))|(refine And.intro ?_ ?_;rotate_left;(conv=>whnf);rotate_right))
   · rintro k ⟨hk,he⟩
     by_cases hlt : k < c.cells.length
     · conv=>whnf
       repeat' (first|exact trivial|((first|refine kL ?_|(refine ⟨fun hb=>?_,fun hb=>?_⟩<;>(try simp only [nrm] at hb)<;>(try (first|(exfalso;omega)|contradiction|exact kB hb)))|refine kW cfg_ok ?_|refine kC ?_|refine bdA ?_|refine bd2 ?_|refine bdR ?_|refine bdL ?_)<;>(conv=>whnf))|(refine And.intro ?_ ?_;rotate_left;(conv=>whnf);rotate_right))
       refine .to (k + 1) ⟨hlt,fun i hi=>?_⟩ (by omega) ?_
       · by_cases hik : i = k
         · subst hik;exact hb
         · exact he i (by omega)
       conv=>whnf
       repeat' (first|exact trivial|((first|refine kL ?_|(refine ⟨fun hb=>?_,fun hb=>?_⟩<;>(try simp only [nrm] at hb)<;>(try (first|(exfalso;omega)|contradiction|exact kB hb)))|refine kW cfg_ok ?_|refine kC ?_|refine bdA ?_|refine bd2 ?_|refine bdR ?_|refine bdL ?_)<;>(conv=>whnf))|(refine And.intro ?_ ?_;rotate_left;(conv=>whnf);rotate_right))
     · obtain rfl : k = c.cells.length:=by omega
       have ec:=elt_ext (tt:=.u8) lc he
       conv=>whnf
       repeat' (first|exact trivial|((first|refine kL ?_|(refine ⟨fun hb=>?_,fun hb=>?_⟩<;>(try simp only [nrm] at hb)<;>(try (first|(exfalso;omega)|contradiction|exact kB hb)))|refine kW cfg_ok ?_|refine kC ?_|refine bdA ?_|refine bd2 ?_|refine bdR ?_|refine bdL ?_)<;>(conv=>whnf))|(refine And.intro ?_ ?_;rotate_left;(conv=>whnf);rotate_right))
       refine Runs.loopS cfg_ok (σ:=Nat) [2,3,67,68] (fun k=>[.ptr 4 0,.ptr 6 0,i64 c.heaps.length,i64 k]) (fun k=>[(4,.box (chunkC c)),(6,.box (chunkC d))])
         (fun k=>k ≤ c.heaps.length ∧ ∀ i < k,elt .heap c.heaps i = elt .heap d.heaps i) (fun k=>c.heaps.length - k) 0 ⟨by omega,by omega⟩ ?_ ?_
       · conv=>whnf
         repeat' (first|exact trivial|((first|refine kL ?_|(refine ⟨fun hb=>?_,fun hb=>?_⟩<;>(try simp only [nrm] at hb)<;>(try (first|(exfalso;omega)|contradiction|exact kB hb)))|refine kW cfg_ok ?_|refine kC ?_|refine bdA ?_|refine bd2 ?_|refine bdR ?_|refine bdL ?_)<;>(conv=>whnf))|(refine And.intro ?_ ?_;rotate_left;(conv=>whnf);rotate_right))
       · rintro k ⟨hk,he⟩
         by_cases hlt : k < c.heaps.length
         · conv=>whnf
           repeat' (first|exact trivial|((first|refine kL ?_|(refine ⟨fun hb=>?_,fun hb=>?_⟩<;>(try simp only [nrm] at hb)<;>(try (first|(exfalso;omega)|contradiction|exact kB hb)))|refine kW cfg_ok ?_|refine kC ?_|refine bdA ?_|refine bd2 ?_|refine bdR ?_|refine bdL ?_)<;>(conv=>whnf))|(refine And.intro ?_ ?_;rotate_left;(conv=>whnf);rotate_right))
           refine .to (k + 1) ⟨hlt,fun i hi=>?_⟩ (by omega) ?_
           · by_cases hik : i = k
             · subst hik;exact heap_ext hb.1 hb.2.1 hb.2.2
             · exact he i (by omega)
           conv=>whnf
           repeat' (first|exact trivial|((first|refine kL ?_|(refine ⟨fun hb=>?_,fun hb=>?_⟩<;>(try simp only [nrm] at hb)<;>(try (first|(exfalso;omega)|contradiction|exact kB hb)))|refine kW cfg_ok ?_|refine kC ?_|refine bdA ?_|refine bd2 ?_|refine bdR ?_|refine bdL ?_)<;>(conv=>whnf))|(refine And.intro ?_ ?_;rotate_left;(conv=>whnf);rotate_right))
         · obtain rfl : k = c.heaps.length:=by omega
           have eh:=elt_ext (tt:=.heap) lh he
           conv=>whnf
           repeat' (first|exact trivial|((first|refine kL ?_|(refine ⟨fun hb=>?_,fun hb=>?_⟩<;>(try simp only [nrm] at hb)<;>(try (first|(exfalso;omega)|contradiction|exact kB hb)))|refine kW cfg_ok ?_|refine kC ?_|refine bdA ?_|refine bd2 ?_|refine bdR ?_|refine bdL ?_)<;>(conv=>whnf))|(refine And.intro ?_ ?_;rotate_left;(conv=>whnf);rotate_right))
           refine Runs.loopS cfg_ok (σ:=Nat) [2,3,85,86] (fun k=>[.ptr 4 0,.ptr 6 0,i64 c.boxes.length,i64 k]) (fun k=>[(4,.box (chunkC c)),(6,.box (chunkC d))])
             (fun k=>k ≤ c.boxes.length ∧ ∀ i < k,elt .box c.boxes i = elt .box d.boxes i) (fun k=>c.boxes.length - k) 0 ⟨by omega,by omega⟩ ?_ ?_
           · conv=>whnf
             repeat' (first|exact trivial|((first|refine kL ?_|(refine ⟨fun hb=>?_,fun hb=>?_⟩<;>(try simp only [nrm] at hb)<;>(try (first|(exfalso;omega)|contradiction|exact kB hb)))|refine kW cfg_ok ?_|refine kC ?_|refine bdA ?_|refine bd2 ?_|refine bdR ?_|refine bdL ?_)<;>(conv=>whnf))|(refine And.intro ?_ ?_;rotate_left;(conv=>whnf);rotate_right))
           · rintro k ⟨hk,he⟩
             by_cases hlt : k < c.boxes.length
             · have hbb : (elt .box c.boxes k).bag.length ≤ big:=(hc.boxes _ (elt_mem (t:=.box) hlt)).2
               have hss:=sameSlots_api (elt .box c.boxes k).bag (elt .box d.boxes k).bag hbb
               by_cases hS : (elt .box c.boxes k).bag = (elt .box d.boxes k).bag
               · rw [sameSlots_iff.2 hS] at hss
                 conv=>whnf
                 repeat' (first|exact trivial|((first|refine kL ?_|(refine ⟨fun hb=>?_,fun hb=>?_⟩<;>(try simp only [nrm] at hb)<;>(try (first|(exfalso;omega)|contradiction|exact kB hb)))|refine kA hss ?_|refine kD hss ?_|refine kW cfg_ok ?_|refine kC ?_|refine bdA ?_|refine bd2 ?_|refine bdR ?_|refine bdL ?_)<;>(conv=>whnf))|(refine And.intro ?_ ?_;rotate_left;(conv=>whnf);rotate_right))
                 refine .to (k + 1) ⟨hlt,fun i hi=>?_⟩ (by omega) ?_
                 · by_cases hik : i = k
                   · subst hik;exact box_ext hb hS
                   · exact he i (by omega)
                 conv=>whnf
                 repeat' (first|exact trivial|((first|refine kL ?_|(refine ⟨fun hb=>?_,fun hb=>?_⟩<;>(try simp only [nrm] at hb)<;>(try (first|(exfalso;omega)|contradiction|exact kB hb)))|refine kW cfg_ok ?_|refine kC ?_|refine bdA ?_|refine bd2 ?_|refine bdR ?_|refine bdL ?_)<;>(conv=>whnf))|(refine And.intro ?_ ?_;rotate_left;(conv=>whnf);rotate_right))
               · rw [Bool.eq_false_iff.2 fun h=>hS (sameSlots_iff.1 h)] at hss
                 conv=>whnf
                 repeat' (first|exact trivial|((first|refine kL ?_|(refine ⟨fun hb=>?_,fun hb=>?_⟩<;>(try simp only [nrm] at hb)<;>(try (first|(exfalso;omega)|contradiction|exact kB hb)))|refine kA hss ?_|refine kD hss ?_|refine kW cfg_ok ?_|refine kC ?_|refine bdA ?_|refine bd2 ?_|refine bdR ?_|refine bdL ?_)<;>(conv=>whnf))|(refine And.intro ?_ ?_;rotate_left;(conv=>whnf);rotate_right))
             · obtain rfl : k = c.boxes.length:=by omega
               have eb:=elt_ext (tt:=.box) lb he
               exact absurd (chunk_ext hx hy ec eh eb) hne
 · skip
   refine Api.of_fin cfg_ok Tryz.func21 rfl (nt:=117) rfl rfl ?_
   conv=>whnf
   repeat' (first|exact trivial|((first|refine kL ?_|(refine ⟨fun hb=>?_,fun hb=>?_⟩<;>(try simp only [nrm] at hb)<;>(try (first|(exfalso;omega)|contradiction|exact kB hb)))|refine kW cfg_ok ?_|refine kC ?_|refine bdA ?_|refine bd2 ?_|refine bdR ?_|refine bdL ?_)<;>(conv=>whnf))|(refine And.intro ?_ ?_;rotate_left;(conv=>whnf);rotate_right))
   all_goals omega
theorem same_api (c d : Chunk) (hc : OkC c) : Api Tryz.prog 21 [chunkV c,chunkV d] (bol (eqv c d)):=by
 by_cases h : c = d
 · subst h;rw [eqv_self];exact same_self c hc
 · rw [eqv_false.2 h];exact same_ne c d hc h
open Go Go.RowKit Eng
theorem player_ext {a b : Player} (h1 : a.id = b.id) (h2 : a.x = b.x) (h3 : a.y = b.y) (h4 : a.bag = b.bag) (h5 : a.wth = b.wth) (h6 : a.offer = b.offer) (h7 : a.agrees = b.agrees) : a = b:=by
 obtain ⟨a1,a2,a3,a4,a5,a6,a7⟩:=a
 obtain ⟨b1,b2,b3,b4,b5,b6,b7⟩:=b
 simp_all
theorem wld_ext {a b : Wld} (h1 : a.size = b.size) (h2 : a.seed = b.seed) (h3 : a.tick = b.tick) (h4 : a.chunks = b.chunks) (h5 : a.players = b.players) : a = b:=by
 obtain ⟨a1,a2,a3,a4,a5⟩:=a
 obtain ⟨b1,b2,b3,b4,b5⟩:=b
 simp_all
theorem sameP_ne (p q : Player) (hp : OkP p) (hne : ¬ p = q) : Api Tryz.prog 29 [playerV p,playerV q] (bol false):=by
 have h1:=sameSlots_api p.bag q.bag (by have:=hp.nb;unfold big;omega)
 have h2:=sameSlots_api p.offer q.offer (by have:=hp.no;unfold big;omega)
 rw [sameSlots_eqv] at h1 h2
 cases e1 : eqv p.bag q.bag
 all_goals
   cases e2 : eqv p.offer q.offer
   all_goals
     rw [e1] at h1
     rw [e2] at h2
     refine Api.of_fin cfg_ok Tryz.func29 rfl (nt:=50) rfl rfl ?_
     conv=>whnf
     repeat' (first|exact trivial|((first|refine kL ?_|(refine ⟨fun hb=>?_,fun hb=>?_⟩<;>(try simp only [nrm] at hb)<;>(try (first|(exfalso;omega)|contradiction|exact kB hb)))|refine kA h1 ?_|refine kD h1 ?_|refine kA h2 ?_|refine kD h2 ?_|refine kW cfg_ok ?_|refine kC ?_|refine bdA ?_|refine bd2 ?_|refine bdR ?_|refine bdL ?_)<;>(conv=>whnf))|(refine And.intro ?_ ?_;rotate_left;(conv=>whnf);rotate_right))
 all_goals first|(exact absurd (player_ext (by assumption) (by assumption) (by assumption) (eqv_iff.1 e1) (by assumption) (eqv_iff.1 e2) (by assumption)) hne)|trace_state
theorem sameP_api (p q : Player) (hp : OkP p) : Api Tryz.prog 29 [playerV p,playerV q] (bol (eqv p q)):=by
 by_cases h : p = q
 · subst h;rw [eqv_self];exact sameP_self p hp
 · rw [eqv_false.2 h];exact sameP_ne p q hp h
theorem sameW_self (w : Wld) (hw : OkW w) : Api Tryz.prog 28 [wldV w,wldV w] (bol true):=by
 have hnc:=hw.nc
 have hnp:=hw.np
 refine Api.of_fin cfg_ok Tryz.func28 rfl (nt:=80) rfl rfl ?_
 conv=>whnf
 repeat' (first|exact trivial|((first|refine kL ?_|(refine ⟨fun hb=>?_,fun hb=>?_⟩<;>(try simp only [nrm] at hb)<;>(try (first|(exfalso;omega)|contradiction|exact kB hb)))|refine kW cfg_ok ?_|refine kC ?_|refine bdA ?_|refine bd2 ?_|refine bdR ?_|refine bdL ?_)<;>(conv=>whnf))|(refine And.intro ?_ ?_;rotate_left;(conv=>whnf);rotate_right))
 all_goals try omega
 refine Runs.loopS cfg_ok (σ:=Nat) [2,3,46,47] (fun k=>[.ptr 4 0,.ptr 6 0,i64 w.chunks.length,i64 k]) (fun _=>[(4,.box (wldC w)),(6,.box (wldC w))])
   (fun k=>k ≤ w.chunks.length) (fun k=>w.chunks.length - k) 0 (by omega) ?_ ?_
 · conv=>whnf
   repeat' (first|exact trivial|((first|refine kL ?_|(refine ⟨fun hb=>?_,fun hb=>?_⟩<;>(try simp only [nrm] at hb)<;>(try (first|(exfalso;omega)|contradiction|exact kB hb)))|refine kW cfg_ok ?_|refine kC ?_|refine bdA ?_|refine bd2 ?_|refine bdR ?_|refine bdL ?_)<;>(conv=>whnf))|(refine And.intro ?_ ?_;rotate_left;(conv=>whnf);rotate_right))
 · intro k hk
   by_cases hlt : k < w.chunks.length
   · have hs:=same_self (elt .chunk w.chunks k) (hw.chunks _ (elt_mem (t:=.chunk) hlt))
     conv=>whnf
     repeat' (first|exact trivial|((first|refine kL ?_|(refine ⟨fun hb=>?_,fun hb=>?_⟩<;>(try simp only [nrm] at hb)<;>(try (first|(exfalso;omega)|contradiction|exact kB hb)))|refine kA hs ?_|refine kD hs ?_|refine kW cfg_ok ?_|refine kC ?_|refine bdA ?_|refine bd2 ?_|refine bdR ?_|refine bdL ?_)<;>(conv=>whnf))|(refine And.intro ?_ ?_;rotate_left;(conv=>whnf);rotate_right))
     refine .to (k + 1) hlt (by omega) ?_
     conv=>whnf
     repeat' (first|exact trivial|((first|refine kL ?_|(refine ⟨fun hb=>?_,fun hb=>?_⟩<;>(try simp only [nrm] at hb)<;>(try (first|(exfalso;omega)|contradiction|exact kB hb)))|refine kW cfg_ok ?_|refine kC ?_|refine bdA ?_|refine bd2 ?_|refine bdR ?_|refine bdL ?_)<;>(conv=>whnf))|(refine And.intro ?_ ?_;rotate_left;(conv=>whnf);rotate_right))
   · obtain rfl : k = w.chunks.length:=by omega
     conv=>whnf
     repeat' (first|exact trivial|((first|refine kL ?_|(refine ⟨fun hb=>?_,fun hb=>?_⟩<;>(try simp only [nrm] at hb)<;>(try (first|(exfalso;omega)|contradiction|exact kB hb)))|refine kW cfg_ok ?_|refine kC ?_|refine bdA ?_|refine bd2 ?_|refine bdR ?_|refine bdL ?_)<;>(conv=>whnf))|(refine And.intro ?_ ?_;rotate_left;(conv=>whnf);rotate_right))
     refine Runs.loopS cfg_ok (σ:=Nat) [2,3,65,66] (fun k=>[.ptr 4 0,.ptr 6 0,i64 w.players.length,i64 k]) (fun _=>[(4,.box (wldC w)),(6,.box (wldC w))])
       (fun k=>k ≤ w.players.length) (fun k=>w.players.length - k) 0 (by omega) ?_ ?_
     · conv=>whnf
       repeat' (first|exact trivial|((first|refine kL ?_|(refine ⟨fun hb=>?_,fun hb=>?_⟩<;>(try simp only [nrm] at hb)<;>(try (first|(exfalso;omega)|contradiction|exact kB hb)))|refine kW cfg_ok ?_|refine kC ?_|refine bdA ?_|refine bd2 ?_|refine bdR ?_|refine bdL ?_)<;>(conv=>whnf))|(refine And.intro ?_ ?_;rotate_left;(conv=>whnf);rotate_right))
     · intro k hk
       by_cases hlt : k < w.players.length
       · have hs:=sameP_self (elt .player w.players k) (hw.players _ (elt_mem (t:=.player) hlt))
         conv=>whnf
         repeat' (first|exact trivial|((first|refine kL ?_|(refine ⟨fun hb=>?_,fun hb=>?_⟩<;>(try simp only [nrm] at hb)<;>(try (first|(exfalso;omega)|contradiction|exact kB hb)))|refine kA hs ?_|refine kD hs ?_|refine kW cfg_ok ?_|refine kC ?_|refine bdA ?_|refine bd2 ?_|refine bdR ?_|refine bdL ?_)<;>(conv=>whnf))|(refine And.intro ?_ ?_;rotate_left;(conv=>whnf);rotate_right))
         refine .to (k + 1) hlt (by omega) ?_
         conv=>whnf
         repeat' (first|exact trivial|((first|refine kL ?_|(refine ⟨fun hb=>?_,fun hb=>?_⟩<;>(try simp only [nrm] at hb)<;>(try (first|(exfalso;omega)|contradiction|exact kB hb)))|refine kW cfg_ok ?_|refine kC ?_|refine bdA ?_|refine bd2 ?_|refine bdR ?_|refine bdL ?_)<;>(conv=>whnf))|(refine And.intro ?_ ?_;rotate_left;(conv=>whnf);rotate_right))
       · obtain rfl : k = w.players.length:=by omega
         conv=>whnf
         repeat' (first|exact trivial|((first|refine kL ?_|(refine ⟨fun hb=>?_,fun hb=>?_⟩<;>(try simp only [nrm] at hb)<;>(try (first|(exfalso;omega)|contradiction|exact kB hb)))|refine kW cfg_ok ?_|refine kC ?_|refine bdA ?_|refine bd2 ?_|refine bdR ?_|refine bdL ?_)<;>(conv=>whnf))|(refine And.intro ?_ ?_;rotate_left;(conv=>whnf);rotate_right))
theorem sameW_ne (w v : Wld) (hw : OkW w) (hne : ¬ w = v) : Api Tryz.prog 28 [wldV w,wldV v] (bol false):=by
 have hnc:=hw.nc
 have hnp:=hw.np
 by_cases hhd : w.size = v.size ∧ w.seed = v.seed ∧ w.tick = v.tick ∧ w.chunks.length = v.chunks.length ∧ w.players.length = v.players.length
 · obtain ⟨h1,h2,h3,lc,lp⟩:=hhd
   refine Api.of_fin cfg_ok Tryz.func28 rfl (nt:=80) rfl rfl ?_
   conv=>whnf
   repeat' (first|exact trivial|((first|refine kL ?_|(refine ⟨fun hb=>?_,fun hb=>?_⟩<;>(try simp only [nrm] at hb)<;>(try (first|(exfalso;omega)|contradiction|exact kB hb)))|refine kW cfg_ok ?_|refine kC ?_|refine bdA ?_|refine bd2 ?_|refine bdR ?_|refine bdL ?_)<;>(conv=>whnf))|(refine And.intro ?_ ?_;rotate_left;(conv=>whnf);rotate_right))
   all_goals try omega
   refine Runs.loopS cfg_ok (σ:=Nat) [2,3,46,47] (fun k=>[.ptr 4 0,.ptr 6 0,i64 w.chunks.length,i64 k]) (fun _=>[(4,.box (wldC w)),(6,.box (wldC v))])
     (fun k=>k ≤ w.chunks.length ∧ ∀ i < k,elt .chunk w.chunks i = elt .chunk v.chunks i) (fun k=>w.chunks.length - k) 0 ⟨by omega,by omega⟩ ?_ ?_
   · conv=>whnf
     repeat' (first|exact trivial|((first|refine kL ?_|(refine ⟨fun hb=>?_,fun hb=>?_⟩<;>(try simp only [nrm] at hb)<;>(try (first|(exfalso;omega)|contradiction|exact kB hb)))|refine kW cfg_ok ?_|refine kC ?_|refine bdA ?_|refine bd2 ?_|refine bdR ?_|refine bdL ?_)<;>(conv=>whnf))|(refine And.intro ?_ ?_;rotate_left;(conv=>whnf);rotate_right))
   · rintro k ⟨hk,he⟩
     by_cases hlt : k < w.chunks.length
     · have hs:=same_api (elt .chunk w.chunks k) (elt .chunk v.chunks k) (hw.chunks _ (elt_mem (t:=.chunk) hlt))
       cases hS : eqv (elt .chunk w.chunks k) (elt .chunk v.chunks k) with
       | true =>
         rw [hS] at hs
         conv=>whnf
         repeat' (first|exact trivial|((first|refine kL ?_|(refine ⟨fun hb=>?_,fun hb=>?_⟩<;>(try simp only [nrm] at hb)<;>(try (first|(exfalso;omega)|contradiction|exact kB hb)))|refine kA hs ?_|refine kD hs ?_|refine kW cfg_ok ?_|refine kC ?_|refine bdA ?_|refine bd2 ?_|refine bdR ?_|refine bdL ?_)<;>(conv=>whnf))|(refine And.intro ?_ ?_;rotate_left;(conv=>whnf);rotate_right))
         refine .to (k + 1) ⟨hlt,fun i hi=>?_⟩ (by omega) ?_
         · by_cases hik : i = k
           · subst hik;exact eqv_iff.1 hS
           · exact he i (by omega)
         conv=>whnf
         repeat' (first|exact trivial|((first|refine kL ?_|(refine ⟨fun hb=>?_,fun hb=>?_⟩<;>(try simp only [nrm] at hb)<;>(try (first|(exfalso;omega)|contradiction|exact kB hb)))|refine kW cfg_ok ?_|refine kC ?_|refine bdA ?_|refine bd2 ?_|refine bdR ?_|refine bdL ?_)<;>(conv=>whnf))|(refine And.intro ?_ ?_;rotate_left;(conv=>whnf);rotate_right))
       | false =>
         rw [hS] at hs
         conv=>whnf
         repeat' (first|exact trivial|((first|refine kL ?_|(refine ⟨fun hb=>?_,fun hb=>?_⟩<;>(try simp only [nrm] at hb)<;>(try (first|(exfalso;omega)|contradiction|exact kB hb)))|refine kA hs ?_|refine kD hs ?_|refine kW cfg_ok ?_|refine kC ?_|refine bdA ?_|refine bd2 ?_|refine bdR ?_|refine bdL ?_)<;>(conv=>whnf))|(refine And.intro ?_ ?_;rotate_left;(conv=>whnf);rotate_right))
     · obtain rfl : k = w.chunks.length:=by omega
       have ec:=elt_ext (tt:=.chunk) lc he
       conv=>whnf
       repeat' (first|exact trivial|((first|refine kL ?_|(refine ⟨fun hb=>?_,fun hb=>?_⟩<;>(try simp only [nrm] at hb)<;>(try (first|(exfalso;omega)|contradiction|exact kB hb)))|refine kW cfg_ok ?_|refine kC ?_|refine bdA ?_|refine bd2 ?_|refine bdR ?_|refine bdL ?_)<;>(conv=>whnf))|(refine And.intro ?_ ?_;rotate_left;(conv=>whnf);rotate_right))
       refine Runs.loopS cfg_ok (σ:=Nat) [2,3,65,66] (fun k=>[.ptr 4 0,.ptr 6 0,i64 w.players.length,i64 k]) (fun _=>[(4,.box (wldC w)),(6,.box (wldC v))])
         (fun k=>k ≤ w.players.length ∧ ∀ i < k,elt .player w.players i = elt .player v.players i) (fun k=>w.players.length - k) 0 ⟨by omega,by omega⟩ ?_ ?_
       · conv=>whnf
         repeat' (first|exact trivial|((first|refine kL ?_|(refine ⟨fun hb=>?_,fun hb=>?_⟩<;>(try simp only [nrm] at hb)<;>(try (first|(exfalso;omega)|contradiction|exact kB hb)))|refine kW cfg_ok ?_|refine kC ?_|refine bdA ?_|refine bd2 ?_|refine bdR ?_|refine bdL ?_)<;>(conv=>whnf))|(refine And.intro ?_ ?_;rotate_left;(conv=>whnf);rotate_right))
       · rintro k ⟨hk,he⟩
         by_cases hlt : k < w.players.length
         · have hs:=sameP_api (elt .player w.players k) (elt .player v.players k) (hw.players _ (elt_mem (t:=.player) hlt))
           cases hS : eqv (elt .player w.players k) (elt .player v.players k) with
           | true =>
             rw [hS] at hs
             conv=>whnf
             repeat' (first|exact trivial|((first|refine kL ?_|(refine ⟨fun hb=>?_,fun hb=>?_⟩<;>(try simp only [nrm] at hb)<;>(try (first|(exfalso;omega)|contradiction|exact kB hb)))|refine kA hs ?_|refine kD hs ?_|refine kW cfg_ok ?_|refine kC ?_|refine bdA ?_|refine bd2 ?_|refine bdR ?_|refine bdL ?_)<;>(conv=>whnf))|(refine And.intro ?_ ?_;rotate_left;(conv=>whnf);rotate_right))
             refine .to (k + 1) ⟨hlt,fun i hi=>?_⟩ (by omega) ?_
             · by_cases hik : i = k
               · subst hik;exact eqv_iff.1 hS
               · exact he i (by omega)
             conv=>whnf
             repeat' (first|exact trivial|((first|refine kL ?_|(refine ⟨fun hb=>?_,fun hb=>?_⟩<;>(try simp only [nrm] at hb)<;>(try (first|(exfalso;omega)|contradiction|exact kB hb)))|refine kW cfg_ok ?_|refine kC ?_|refine bdA ?_|refine bd2 ?_|refine bdR ?_|refine bdL ?_)<;>(conv=>whnf))|(refine And.intro ?_ ?_;rotate_left;(conv=>whnf);rotate_right))
           | false =>
             rw [hS] at hs
             conv=>whnf
             repeat' (first|exact trivial|((first|refine kL ?_|(refine ⟨fun hb=>?_,fun hb=>?_⟩<;>(try simp only [nrm] at hb)<;>(try (first|(exfalso;omega)|contradiction|exact kB hb)))|refine kA hs ?_|refine kD hs ?_|refine kW cfg_ok ?_|refine kC ?_|refine bdA ?_|refine bd2 ?_|refine bdR ?_|refine bdL ?_)<;>(conv=>whnf))|(refine And.intro ?_ ?_;rotate_left;(conv=>whnf);rotate_right))
         · obtain rfl : k = w.players.length:=by omega
           have ep:=elt_ext (tt:=.player) lp he
           exact absurd (wld_ext h1 h2 h3 ec ep) hne
 · skip
   refine Api.of_fin cfg_ok Tryz.func28 rfl (nt:=80) rfl rfl ?_
   conv=>whnf
   repeat' (first|exact trivial|((first|refine kL ?_|(refine ⟨fun hb=>?_,fun hb=>?_⟩<;>(try simp only [nrm] at hb)<;>(try (first|(exfalso;omega)|contradiction|exact kB hb)))|refine kW cfg_ok ?_|refine kC ?_|refine bdA ?_|refine bd2 ?_|refine bdR ?_|refine bdL ?_)<;>(conv=>whnf))|(refine And.intro ?_ ?_;rotate_left;(conv=>whnf);rotate_right))
   all_goals omega
theorem sameW_api (w v : Wld) (hw : OkW w) : Api Tryz.prog 28 [wldV w,wldV v] (bol (eqv w v)):=by
 by_cases h : w = v
 · subst h;rw [eqv_self];exact sameW_self w hw
 · rw [eqv_false.2 h];exact sameW_ne w v hw h
open Go Go.RowKit Eng
theorem gl_air (seed x y : Int) (hy : y ≤ 3) : gl seed x y 64 = List.replicate 64 0:=by
 unfold gl
 refine List.ext_getElem (by simp) fun i h1 h2=>?_
 simp only [List.length_map,List.length_range] at h1
 simp only [List.getElem_map,List.getElem_range,List.getElem_replicate]
 have hh:=heightI_bd seed (x * 8 + (i % 8 : Nat))
 unfold cellI
 simp only []
 generalize heightI seed (x * 8 + (i % 8 : Nat)) = H at *
 rw [if_neg (by omega),if_neg (by omega),if_pos (by omega)]
theorem genchunk_own (seed x y : Int) (hx : 0 ≤ x) (hx2 : x ≤ 15) (hy : 0 ≤ y) (hy2 : y ≤ 15) : Ev1 Tryz.prog 48 [.lit (.int .u64 seed),i64 x,i64 y] [] (.agg [i64 x,i64 y,.own .u8 390001 0 64 none,.lit (.slice none 0 0),.lit (.slice none 0 0)]) [(390001,.row .u8 (gl seed x y 64))]:=by
 refine Ev1.of_fin cfg_ok Tryz.func48 rfl (nt:=24) rfl rfl rfl ?_
 conv=>whnf
 repeat' (first|exact trivial|((first|refine kL ?_|(refine ⟨fun hb=>?_,fun hb=>?_⟩<;>(try simp only [nrm] at hb)<;>(try (first|(exfalso;omega)|contradiction|exact kB hb)))|(refine isE 118 ?_;refine kE (each_ev seed x y x y hx hx2 hy hy2) [(0,200014),(2,200006),(390001,350001)] rfl ?_)|(refine isD 118 ?_;refine kF (each_ev seed x y x y hx hx2 hy hy2) [(0,200014),(2,200006),(390001,350001)] rfl ?_)|refine kW cfg_ok ?_|refine kC ?_|refine bdA ?_|refine bd2 ?_|refine bdR ?_|refine bdL ?_)<;>(conv=>whnf))|(refine And.intro ?_ ?_;rotate_left;(conv=>whnf);rotate_right))
 all_goals first|omega|(rw [gl_len];omega)|(rw [gl_len];exact Nat.le_refl _)|(refine gl_take _ _ _ _ _ ?_;omega)|trace_state
def w2 : Wld:=⟨2,7,0,[],[]⟩
def airC : Chunk:=⟨1,1,List.replicate 64 0,[],[]⟩
def rockC : Chunk:=⟨1,1,(List.replicate 64 0).set 9 2,[],[]⟩
def w2r : Wld:=⟨2,7,0,[rockC],[]⟩
theorem rightB_air : rightB airC = true:=by decide
theorem rightB_rock : rightB rockC = true:=by decide
theorem plain_air : plainW 7 airC = true:=by
 unfold plainW eqI
 rw [show gl 7 airC.x airC.y 64 = airC.cells from gl_air 7 1 1 (by omega)]
 decide
theorem plain_rock : plainW 7 rockC = false:=by
 unfold plainW eqI
 rw [show gl 7 rockC.x rockC.y 64 = airC.cells from gl_air 7 1 1 (by omega)]
 decide
theorem rw_w2 : RW w2:=⟨by decide,by simp [w2],by simp [w2,risesK],by simp [w2,risesK],by simp [w2]⟩
theorem put_rock : putW w2 rockC = (w2r,0):=by
 rw [put_eq rw_w2 rightB_rock (by decide)]
 unfold putL
 rw [show w2.seed = 7 from rfl,if_neg (by rw [plain_rock];simp)]
 rfl
theorem rw_w2r : RW w2r:=by
 have:=rw_put (w:=w2) rw_w2 rightB_rock (by decide)
 unfold putL at this
 rw [show w2.seed = 7 from rfl,if_neg (by rw [plain_rock];simp)] at this
 exact this
theorem put_back : putW w2r airC = (w2,0):=by
 rw [put_eq rw_w2r rightB_air (by decide)]
 unfold putL
 rw [show w2r.seed = 7 from rfl,if_pos plain_air]
 rfl
theorem at_air : atW w2 0 15 = (0,true):=by
 have hR:=rightW_iff.2 rw_w2
 have hc : chunkW w2 (0 / 8) (15 / 8) = (genC 7 0 1,true):=by
   unfold chunkW
   rw [if_neg (by rw [hR];decide),if_neg (by decide)];rfl
 unfold atW
 rw [if_neg (by decide),hc,if_neg (by simp)]
 unfold genC
 rw [gl_air 7 0 1 (by omega)];rfl
theorem at_out : atW w2 16 0 = (0,false):=by
 unfold atW
 rw [if_pos (by decide)]
theorem at_rock : atW w2r 9 9 = (2,true):=by
 have hR:=rightW_iff.2 rw_w2r
 have hB:=bsC_rises rw_w2r.rc rw_w2r.xy (x:=1) (y:=1) (by omega) (by omega)
 have hc : chunkW w2r (9 / 8) (9 / 8) = (rockC,true):=by
   unfold chunkW
   rw [show (9 : Int) / 8 = 1 by decide,if_neg (by rw [hR];decide),hB.1,hB.2,if_pos (by decide)];rfl
 unfold atW
 rw [if_neg (by decide),hc,if_neg (by simp)];rfl
theorem okC_air : OkC airC:=⟨by decide,by simp [airC],by simp [airC],by decide,by decide,by decide⟩
theorem okC_rock : OkC rockC:=⟨by decide,by simp [rockC],by simp [rockC],by decide,by decide,by decide⟩
theorem fitC_air : FitC airC:=⟨by decide,by decide,by decide,by simp [airC]⟩
theorem fitC_rock : FitC rockC:=⟨by decide,by decide,by decide,by simp [rockC]⟩
theorem okW_w2 : OkW w2:=⟨by simp [w2],by simp [w2],by simp [w2],by decide,by decide⟩
theorem okW_w2r : OkW w2r:=⟨by simp [w2r,okC_rock],by simp [w2r,fitC_rock],by simp [w2r],by decide,by decide⟩
theorem awake13_api  : Api Tryz.prog 13 [] (bol true):=by
 have hn:=wnew_api 2 7
 rw [show newW 2 7 = (w2,0) by rfl] at hn
 have ha:=at_api w2 0 15 okW_w2 (by omega) (by omega)
 rw [at_air] at ha
 have ho:=at_api w2 16 0 okW_w2 (by omega) (by omega)
 rw [at_out] at ho
 have hg:=genchunk_own 7 1 1 (by omega) (by omega) (by omega) (by omega)
 rw [gl_air 7 1 1 (by omega)] at hg
 have hp:=worldPut_api w2 rockC okW_w2 okC_rock fitC_rock
 rw [put_rock] at hp
 have hr:=at_api w2r 9 9 okW_w2r (by omega) (by omega)
 rw [at_rock] at hr
 have hp2:=worldPut_api w2r airC okW_w2r okC_air fitC_air
 rw [put_back] at hp2
 have e1 : chunkV rockC = .agg [i64 1,i64 1,.vec .u8 ((List.replicate 64 0).set 9 2),.vec .heap [],.vec .box []]:=rfl
 have e2 : chunkV airC = .agg [i64 1,i64 1,.vec .u8 (List.replicate 64 0),.vec .heap [],.vec .box []]:=rfl
 rw [e1] at hp
 rw [e2] at hp2
 have hl : w2r.chunks.length = 1:=rfl
 have hl2 : w2.chunks.length = 0:=rfl
 have hL : (List.replicate 64 (0 : Int)).length = 64:=by simp
 generalize hw2 : w2 = A at *
 generalize hw2r : w2r = B at *
 generalize hLL : List.replicate 64 (0 : Int) = L at *
 dsimp only at hn ha ho hp hr hp2
 obtain ⟨n,hn64⟩ : ∃ n : Nat,n = 64:=⟨_,rfl⟩
 rw [← hn64] at hg hL
 replace hp:=api_weak hp (.cons (Le.refl _) (.cons (le_chunk _ _ _) .nil))
 replace hp2:=api_weak hp2 (.cons (Le.refl _) (.cons (le_chunk _ _ _) .nil))
 refine Api.of_fin cfg_ok Tryz.func13 rfl (nt:=93) rfl rfl ?_
 conv=>whnf
 generalize hq : (9 : Int) = q at *
 repeat' (first|exact trivial|((first|refine kL ?_|(refine ⟨fun hb=>?_,fun hb=>?_⟩<;>(try simp only [nrm] at hb)<;>(try (first|(exfalso;omega)|contradiction|exact kB hb)))|refine kE hg [(390001,150001)] rfl ?_|refine kF hg [(390001,150001)] rfl ?_|((refine ⟨(by omega : 0 ≤ q ∧ q < (n : Int)),?_⟩;show opsK _ _ _ _ _ _ _ _;unfold opsK;unfold guardK;show stepK _ _ _ _ _ _ _;unfold stepK;show opA _ _ _ _ _ _ _;unfold opA;show avalK _ _ _))|refine kA hn ?_|refine kD hn ?_|refine kA ha ?_|refine kD ha ?_|refine kA ho ?_|refine kD ho ?_|refine kW cfg_ok ?_|refine kC ?_|refine bdA ?_|refine bd2 ?_|refine bdR ?_|refine bdL ?_)<;>(conv=>whnf))|(refine And.intro ?_ ?_;rotate_left;(conv=>whnf);rotate_right))
 refine callGiveN hp rfl rfl ?_
 conv=>whnf
 refine ⟨by rw [List.length_set];omega,?_,?_⟩
 · rw [List.drop_zero,List.take_of_length_le (by rw [List.length_set];omega)];subst hq;rfl
 conv=>whnf
 repeat' (first|exact trivial|((first|refine kL ?_|(refine ⟨fun hb=>?_,fun hb=>?_⟩<;>(try simp only [nrm] at hb)<;>(try (first|(exfalso;omega)|contradiction|exact kB hb)))|refine kE hg [(390001,150003)] rfl ?_|refine kF hg [(390001,150003)] rfl ?_|refine kA hr ?_|refine kD hr ?_|refine kW cfg_ok ?_|refine kC ?_|refine bdA ?_|refine bd2 ?_|refine bdR ?_|refine bdL ?_)<;>(conv=>whnf))|(refine And.intro ?_ ?_;rotate_left;(conv=>whnf);rotate_right))
 refine callGiveND hp2 rfl rfl ?_
 conv=>whnf
 refine ⟨by omega,?_,?_⟩
 · rw [List.drop_zero,List.take_of_length_le (by omega)]
 conv=>whnf
 repeat' (first|exact trivial|((first|refine kL ?_|(refine ⟨fun hb=>?_,fun hb=>?_⟩<;>(try simp only [nrm] at hb)<;>(try (first|(exfalso;omega)|contradiction|exact kB hb)))|refine kW cfg_ok ?_|refine kC ?_|refine bdA ?_|refine bd2 ?_|refine bdR ?_|refine bdL ?_)<;>(conv=>whnf))|(refine And.intro ?_ ?_;rotate_left;(conv=>whnf);rotate_right))
 all_goals first|omega|(rw [hl];done)|(refine congrArg Value.bool ?_;rw [hl2];rfl)|trace_state
open Go Go.RowKit Eng
theorem chunkW_in {w : Wld} {x y : Int} (hR : RW w) (hx : 0 ≤ x ∧ x < w.size) (hy : 0 ≤ y ∧ y < w.size) :
   chunkW w x y = (match getK keyC w.chunks (keyC (atC x y)) with|some c=>c|none=>genC w.seed x y,true) ∧ (chunkW w x y).1.x = x ∧ (chunkW w x y).1.y = y:=by
 have hs:=hR.size
 obtain ⟨e1,e2⟩:=bsC_rises hR.rc hR.xy (x:=x) (y:=y) hx.1 (by omega)
 have hRr:=rightW_iff.2 hR
 have hI : insideW w.size x y = true:=by unfold insideW;simp only [Bool.and_eq_true,decide_eq_true_eq];omega
 have hc : chunkW w x y = (if fdC w.chunks x y = true then (elt .chunk w.chunks (bsC w.chunks x y),true) else (genC w.seed x y,true)):=by
   unfold chunkW
   rw [if_neg (by rw [hI,hRr];simp)]
 rw [hc,e2]
 cases hg : getK keyC w.chunks (keyC (atC x y)) with
 | none=>exact ⟨rfl,rfl,rfl⟩
 | some c =>
   obtain ⟨h1,h2⟩:=lbK_lt hR.rc hg
   have h3 : elt .chunk w.chunks (lbK keyC (keyC (atC x y)) w.chunks) = c:=by
     have:=elt_get .chunk w.chunks _ h1
     rw [h2] at this
     exact (Option.some.inj this).symm
   rw [e1,h3]
   have h4:=(getK_mem hg)
   have h5:=rightB_pos (hR.chunks c h4.1).1
   have h6:=h4.2
   have h7 : keyC c = 16 * c.y + c.x:=rfl
   have h8 : keyC (atC x y) = 16 * y + x:=rfl
   refine ⟨rfl,?_,?_⟩
   · show c.x = x;omega
   · show c.y = y;omega
theorem within_iff {w : Wld} (hR : RW w) {x y : Int} : withinW w.size x y = true ↔ 0 ≤ x ∧ 0 ≤ y ∧ x < 8 * w.size ∧ y < 8 * w.size:=by
 have hs:=hR.size
 unfold withinW
 rw [wr8_eq (by omega) (by omega)]
 simp only [Bool.and_eq_true,decide_eq_true_eq]
 omega
theorem atW_in {w : Wld} {x y : Int} (hR : RW w) (h : 0 ≤ x ∧ 0 ≤ y ∧ x < 8 * w.size ∧ y < 8 * w.size) :
   atW w x y = (elt .u8 (chunkW w (x / 8) (y / 8)).1.cells (y % 8 * 8 + x % 8).toNat,true):=by
 have hc:=(chunkW_in hR (x:=x / 8) (y:=y / 8) (by omega) (by omega)).1
 have hw:=(within_iff hR).2 h
 unfold atW
 rw [if_neg (by rw [hw];simp),if_neg (by rw [hc];simp)]
theorem atW_out {w : Wld} {x y : Int} (hR : RW w) (h : ¬ (0 ≤ x ∧ 0 ≤ y ∧ x < 8 * w.size ∧ y < 8 * w.size)) : atW w x y = (0,false):=by
 have hw : ¬ withinW w.size x y = true:=fun e=>h ((within_iff hR).1 e)
 unfold atW
 rw [if_pos (Bool.eq_false_iff.2 hw)]
end Go.Proofs.YtaecchphjploaaaGreat
