/- Contracts of chunks. -/
import Derived.Test.YtaecchphjploaaaGd
set_option linter.unusedSimpArgs false
set_option linter.unusedVariables false
set_option maxRecDepth 100000
set_option maxHeartbeats 16000000
namespace Go.Proofs.Ytaecchphjploaaa
open Go Go.RowKit Eng
open Go Go.RowKit Eng
theorem rightGo_rises : ∀ (l : List Int) (k : Nat) (bs : List Box),rightGo l k bs = some [] → rises bs ∧ (∀ b ∈ bs,(k : Int) ≤ b.cell ∧ b.cell < k + l.length)
 | [],k,bs,h=>by simp [rightGo] at h;subst h;exact ⟨trivial,by simp⟩
 | i :: r,k,bs,h=>by
   simp only [rightGo] at h
   split at h
   · split at h
     · cases bs with
       | nil=>cases h
       | cons b bs =>
         simp only at h
         split at h
         · rename_i hb
           obtain ⟨h1,h2⟩:=rightGo_rises r (k + 1) bs h
           have hbk : b.cell = k:=by simp only [boxAt,Bool.and_eq_true,beq_iff_eq] at hb;exact hb.1
           refine ⟨⟨fun x hx=>by have:=(h2 x hx).1;omega,h1⟩,fun x hx=>?_⟩
           rcases List.mem_cons.1 hx with rfl|hx
           · simp only [List.length_cons];omega
           · have:=h2 x hx;simp only [List.length_cons];omega
         · cases h
     · obtain ⟨h1,h2⟩:=rightGo_rises r (k + 1) bs h
       exact ⟨h1,fun x hx=>by have:=h2 x hx;simp only [List.length_cons];omega⟩
   · cases h
structure RightC (c : Chunk) : Prop where
 head : headB c = true
 go : rightGo c.cells 0 c.boxes = some []
 heaps : c.heaps.any badHeap = false
theorem rightC_of {c : Chunk} (h : rightB c = true) : RightC c:=by
 unfold rightB at h
 simp only [Bool.and_eq_true] at h
 obtain ⟨h1,h2⟩:=h
 split at h2
 · rename_i hg;exact ⟨h1,hg,by simpa using h2⟩
 · cases h2
theorem RightC.len {c : Chunk} (h : RightC c) : c.cells.length = 64:=by
 have:=h.head;simp only [headB,Bool.and_eq_true,decide_eq_true_eq] at this;omega
theorem RightC.rises {c : Chunk} (h : RightC c) : rises c.boxes:=(rightGo_rises _ _ _ h.go).1
open Go Go.RowKit Eng
end Go.Proofs.Ytaecchphjploaaa
