/- What right chunks' bytes give. -/
import Derived.Test.YtaecchphjploaaaGn
import Derived.Test.YtaecchphjploaaaGm
set_option linter.unusedSimpArgs false
set_option linter.unusedVariables false
set_option maxRecDepth 100000
set_option maxHeartbeats 16000000
namespace Go.Proofs.Ytaecchphjploaaa
open Go Go.RowKit Eng
theorem bytesC_le {c : Chunk} (hr : rightB c = true) (hi : ∀ h ∈ c.heaps,0 ≤ h.slot.item ∧ h.slot.item ≤ 255) (hj : ∀ x ∈ c.boxes,bagGood x.bag) : (bytesC c).length ≤ 5000 ∧ 64 ≤ (bytesC c).length:=by
 have hu : ∀ z : Int,z < 1000 → (uintL z.toNat).length ≤ 2:=by
   intro z hz
   unfold uintL uintF
   split
   · simp
   · have : z.toNat / 128 < 128:=by omega
     rw [List.length_cons,uintF,if_pos this];simp
 have hRC:=rightC_of hr
 have hlen:=hRC.len
 have hH:=hRC.head
 simp only [headB,Bool.and_eq_true,decide_eq_true_eq] at hH
 obtain ⟨hx0,hy0,hx1,hy1,-,hh32⟩:=hH
 obtain ⟨hbl,hbx⟩:=rightGo_boxes _ _ _ hRC.go
 have f1:=flatMap_len heapL 6 c.heaps fun h hm=>by
   have h1:=okN_heap (any_false hRC.heaps hm)
   have h2:=hi h hm
   have a1:=hu h.cell (by omega)
   have a2:=hu h.slot.item (by omega)
   have a3:=hu h.slot.n (by omega)
   unfold heapL putY
   simp only [List.flatMap_cons,List.flatMap_nil,List.append_nil,List.length_append]
   omega
 have f2:=flatMap_len boxL 24 c.boxes fun x hx=>by
   have f3:=flatMap_len slotL 4 x.bag fun s hs=>by
     have h1:=hj x hx s hs
     have h2:=okN_slot (any_false (by simpa only [bagOk,Bool.not_eq_true'] using (hbx x hx).2) hs)
     have a2:=hu s.item (by omega)
     have a3:=hu s.n (by omega)
     unfold slotL putY
     simp only [List.flatMap_cons,List.flatMap_nil,List.append_nil,List.length_append]
     omega
   have:=(hbx x hx).1
   unfold boxL
   omega
 have f4 : (putY [c.x,c.y]).length ≤ 20:=putY_len _
 have f5 : (putY [(c.heaps.length : Int)]).length ≤ 10:=putY_len _
 unfold bytesC
 simp only [List.length_append]
 omega
structure GoodC (c : Chunk) : Prop where
 right : rightB c = true
 cells : okU8 c.cells
 items : ∀ h ∈ c.heaps,0 ≤ h.slot.item ∧ h.slot.item ≤ 255
 bags : ∀ x ∈ c.boxes,bagGood x.bag
theorem GoodC.read {c : Chunk} (h : GoodC c) : readC (bytesC c) = (c,0):=readC_bytes (u8_bytesC h.right h.cells h.items h.bags) h.right h.items h.bags
theorem GoodC.le {c : Chunk} (h : GoodC c) : (bytesC c).length ≤ 5000 ∧ 64 ≤ (bytesC c).length:=bytesC_le h.right h.items h.bags
theorem GoodC.len {c : Chunk} (h : GoodC c) : c.cells.length = 64:=by have:=(rightC_of h.right).len;omega
theorem GoodC.at {c : Chunk} (h : GoodC c) : 0 ≤ c.x ∧ 0 ≤ c.y ∧ c.x < 16 ∧ c.y < 16:=by
 have hH:=(rightC_of h.right).head
 simp only [headB,Bool.and_eq_true,decide_eq_true_eq] at hH
 omega
open Go Go.RowKit Eng
theorem goodC_right {c : Chunk} (h : rightB c = true) : GoodC c:=by
 have ho:=okC_right h
 refine ⟨h,ho.cells,ho.heaps,fun x hx s hs=>?_⟩
 have h1:=(ho.boxes x hx).1 s hs
 have h2:=okN_slot (any_false (by simpa only [bagOk,Bool.not_eq_true'] using (right_bag h hx).2) hs)
 exact ⟨h1,by omega,by omega⟩
structure At (b r : List Int) (s : Rd) : Prop where
 good : s.bad = false
 le : s.pos ≤ b.length
 ahead : b.drop s.pos = r
end Go.Proofs.Ytaecchphjploaaa
