/- Parts of snap. -/
import Derived.Test.YtaecchphjploaaaGreatGn
import Derived.Test.YtaecchphjploaaaGreatGm
import Derived.Test.YtaecchphjploaaaGreatGj
set_option linter.unusedSimpArgs false
set_option linter.unusedVariables false
set_option maxRecDepth 100000
set_option maxHeartbeats 16000000
namespace Go.Proofs.YtaecchphjploaaaGreat
open Go Go.RowKit Eng
open Go Go.RowKit Eng
theorem bytesC_le {c : Chunk} (hr : rightB c = true) (hi : ∀ h ∈ c.heaps,0 ≤ h.slot.item ∧ h.slot.item ≤ 255) (hj : ∀ x ∈ c.boxes,bagGood x.bag) : (bytesC c).length ≤ 5000 ∧ 64 ≤ (bytesC c).length:=by
 have hu : ∀ z : Int,z < 1000 → (uintL z.toNat).length ≤ 2:=by
   intro z hz
   unfold uintL uintF
   split
   · simp
   · have : z.toNat / 128 < 128:=by omega
     rw [List.length_cons,uintF,if_pos this];simp
 have hRC:=rightC_of hr
 have hlen:=hRC.len
 have hH:=hRC.head
 simp only [headB,Bool.and_eq_true,decide_eq_true_eq] at hH
 obtain ⟨hx0,hy0,hx1,hy1,-,hh32⟩:=hH
 obtain ⟨hbl,hbx⟩:=rightGo_boxes _ _ _ hRC.go
 have f1:=flatMap_len heapL 6 c.heaps fun h hm=>by
   have h1:=okN_heap (any_false hRC.heaps hm)
   have h2:=hi h hm
   have a1:=hu h.cell (by omega)
   have a2:=hu h.slot.item (by omega)
   have a3:=hu h.slot.n (by omega)
   unfold heapL putY
   simp only [List.flatMap_cons,List.flatMap_nil,List.append_nil,List.length_append]
   omega
 have f2:=flatMap_len boxL 24 c.boxes fun x hx=>by
   have f3:=flatMap_len slotL 4 x.bag fun s hs=>by
     have h1:=hj x hx s hs
     have h2:=okN_slot (any_false (by simpa only [bagOk,Bool.not_eq_true'] using (hbx x hx).2) hs)
     have a2:=hu s.item (by omega)
     have a3:=hu s.n (by omega)
     unfold slotL putY
     simp only [List.flatMap_cons,List.flatMap_nil,List.append_nil,List.length_append]
     omega
   have:=(hbx x hx).1
   unfold boxL
   omega
 have f4 : (putY [c.x,c.y]).length ≤ 20:=putY_len _
 have f5 : (putY [(c.heaps.length : Int)]).length ≤ 10:=putY_len _
 unfold bytesC
 simp only [List.length_append]
 omega
structure GoodC (c : Chunk) : Prop where
 right : rightB c = true
 cells : okU8 c.cells
 items : ∀ h ∈ c.heaps,0 ≤ h.slot.item ∧ h.slot.item ≤ 255
 bags : ∀ x ∈ c.boxes,bagGood x.bag
theorem GoodC.read {c : Chunk} (h : GoodC c) : readC (bytesC c) = (c,0):=readC_bytes (u8_bytesC h.right h.cells h.items h.bags) h.right h.items h.bags
theorem GoodC.le {c : Chunk} (h : GoodC c) : (bytesC c).length ≤ 5000 ∧ 64 ≤ (bytesC c).length:=bytesC_le h.right h.items h.bags
theorem GoodC.len {c : Chunk} (h : GoodC c) : c.cells.length = 64:=by have:=(rightC_of h.right).len;omega
theorem GoodC.at {c : Chunk} (h : GoodC c) : 0 ≤ c.x ∧ 0 ≤ c.y ∧ c.x < 16 ∧ c.y < 16:=by
 have hH:=(rightC_of h.right).head
 simp only [headB,Bool.and_eq_true,decide_eq_true_eq] at hH
 omega
open Go Go.RowKit Eng
theorem goodC_right {c : Chunk} (h : rightB c = true) : GoodC c:=by
 have ho:=okC_right h
 refine ⟨h,ho.cells,ho.heaps,fun x hx s hs=>?_⟩
 have h1:=(ho.boxes x hx).1 s hs
 have h2:=okN_slot (any_false (by simpa only [bagOk,Bool.not_eq_true'] using (right_bag h hx).2) hs)
 exact ⟨h1,by omega,by omega⟩
theorem u8_putB {l : List Int} (h : ∀ z ∈ l,z ≤ 1099511627777) : okU8 (putY l):=fun i hi=>by
 obtain ⟨z,hz,hi⟩:=List.mem_flatMap.1 hi
 exact u8_uintF 9 z.toNat (Nat.lt_of_le_of_lt (show z.toNat ≤ 1099511627777 by have:=h z hz;omega) (by decide)) i hi
structure At (b r : List Int) (s : Rd) : Prop where
 good : s.bad = false
 le : s.pos ≤ b.length
 ahead : b.drop s.pos = r
open Go Go.RowKit Eng
theorem blob_ev (l : List (El .u8)) (b : List (El .u8)) (len : Nat) (hlen : len = l.length) (hl : l.length + b.length + 30 ≤ 140737488355328) : Ev1 Tryz.prog 80 [.own .u8 1 0 len none,.vec .u8 b] [(1,.row .u8 l)] (.own .u8 390001 0 (len + (uintL b.length ++ b).length) none) [(390001,.row .u8 (l ++ (uintL b.length ++ b)))]:=by
 subst hlen
 have h1:=uint_ev l b.length (by omega) (by omega)
 have hu:=uintF_len 9 b.length
 have hu2 : (uintL b.length).length ≤ 10:=hu
 refine Ev1.of_fin cfg_ok Tryz.func80 rfl (nt:=10) rfl rfl rfl ?_
 conv=>whnf
 repeat' (first|exact trivial|((first|refine kL ?_|(refine ⟨fun hb=>?_,fun hb=>?_⟩<;>(try simp only [nrm] at hb)<;>(try (first|(exfalso;omega)|contradiction|exact kB hb)))|refine kE h1 [(1,1),(390001,350001)] rfl ?_|refine kF h1 [(1,1),(390001,350001)] rfl ?_|refine kW cfg_ok ?_|refine kC ?_|refine bdA ?_|refine bd2 ?_|refine bdR ?_|refine bdL ?_)<;>(conv=>whnf))|(refine And.intro ?_ ?_;rotate_left;(conv=>whnf);rotate_right))
 rw [List.take_of_length_le (l:=l ++ uintL b.length) (by rw [List.length_append];exact Nat.le_refl _),List.take_of_length_le (by simp only [List.length_append];omega),List.append_assoc]
open Go Go.RowKit Eng
theorem take_app {α : Type} (a b : List α) : List.take (a.length + b.length) (a ++ b) = a ++ b:=by rw [← List.length_append];exact List.take_length
theorem okN_one {a : Int} (h : okN a) : ∀ z ∈ [a],okN z:=fun z hz=>by rw [List.mem_singleton.1 hz];exact h
theorem okN_two {a b : Int} (h : okN a) (k : okN b) : ∀ z ∈ [a,b],okN z:=fun z hz=>by
 simp only [List.mem_cons,List.not_mem_nil,or_false] at hz
 rcases hz with rfl|rfl
 · exact h
 · exact k
open Go Go.RowKit Eng
theorem okC_emptyK : OkC emptyK:=⟨by simp [emptyK],by simp [emptyK],by simp [emptyK],by decide,by decide,by decide⟩
open Go Go.RowKit Eng
theorem all_pos {α : Type} {b : List Int} {f : Rd → α × Rd} (h : ∀ s,s.pos ≤ b.length → (f s).2.pos ≤ b.length) : ∀ (n : Nat) (s : Rd),s.pos ≤ b.length → (allR f n s).2.pos ≤ b.length
 | 0,_,hp=>hp
 | n + 1,s,hp=>all_pos h n (f s).2 (h s hp)
theorem numR_gu {b : List Int} {s : Rd} {most : Nat} (hs : s.bad = false) : numR b most s = if (guN b s.pos).2.2 = 0 ∧ (guN b s.pos).1 ≤ most then ((guN b s.pos).1,⟨(guN b s.pos).2.1,false⟩) else (0,⟨s.pos,true⟩):=by
 unfold numR guN
 rw [if_neg (by rw [hs];simp)]
 cases hg : getF 9 (b.drop s.pos) with
 | none =>
   dsimp only
   have h : ¬ errU (b.drop s.pos) = 0:=by unfold errU;split<;>omega
   rw [if_neg fun x=>h x.1]
 | some p =>
   obtain ⟨n,k⟩:=p
   dsimp only
   by_cases h : n ≤ most
   · rw [if_pos h,if_pos ⟨rfl,h⟩]
   · rw [if_neg h,if_neg fun x=>h x.2]
theorem blobR_gb {b : List Int} {s : Rd} {most : Nat} (hs : s.bad = false) : blobR b most s = if (gbN b s.pos most).2.2 = 0 then ((gbN b s.pos most).1,⟨(gbN b s.pos most).2.1,false⟩) else ([],⟨s.pos,true⟩):=by
 have hN:=numR_gu (b:=b) (most:=most) hs
 unfold blobR gbN
 generalize guN b s.pos = G at *
 obtain ⟨n,f,e⟩:=G
 dsimp only at *
 by_cases c1 : e = 0
 · have n1 : ¬ ¬ e = 0:=fun h=>h c1
   by_cases c2 : most < n
   · have n2 : ¬ (e = 0 ∧ n ≤ most):=by omega
     rw [if_neg n2] at hN
     rw [hN,if_neg n1,if_pos c2]
     rfl
   · have n2 : e = 0 ∧ n ≤ most:=by omega
     rw [if_pos n2] at hN
     rw [hN,if_neg n1,if_neg c2]
     dsimp only
     rw [if_neg (show ¬ (false = true) by simp)]
     by_cases c3 : b.length - f < n
     · rw [if_pos c3,if_pos c3];rfl
     · rw [if_neg c3,if_neg c3];rfl
 · have n2 : ¬ (e = 0 ∧ n ≤ most):=fun h=>c1 h.1
   rw [if_neg n2] at hN
   rw [hN,if_pos c1]
   dsimp only
   rw [if_pos rfl,if_neg c1]
theorem gbN_ok {b : List Int} (hb : okU8 b) {pos most : Nat} (hp : pos ≤ b.length) : okU8 (gbN b pos most).1 ∧ (gbN b pos most).1.length ≤ b.length ∧ (gbN b pos most).2.1 ≤ b.length ∧ (¬ (gbN b pos most).2.2 = 0 → (gbN b pos most).1 = []):=by
 have h1:=(guN_le hb hp).1
 have h0 : okU8 []:=fun i hi=>by cases hi
 unfold gbN
 split
 · exact ⟨h0,Nat.zero_le _,Nat.zero_le _,fun _=>rfl⟩
 · split
   · exact ⟨h0,Nat.zero_le _,Nat.zero_le _,fun _=>rfl⟩
   · split
     · exact ⟨h0,Nat.zero_le _,Nat.zero_le _,fun _=>rfl⟩
     · refine ⟨fun i hi=>hb i (List.mem_of_mem_drop (List.mem_of_mem_take hi)),?_,?_,fun h=>absurd rfl h⟩
       · show (List.take _ (List.drop _ b)).length ≤ _
         rw [List.length_take,List.length_drop];omega
       · show (guN b pos).2.1 + (guN b pos).1 ≤ b.length
         omega
theorem readC_nil : readC [] = (emptyK,101):=by
 unfold readC
 rw [if_pos]
 right
 show 0 - (readK []).y.2.pos < 64
 omega
open Go Go.RowKit Eng
open Go Go.RowKit Eng
open Go Go.RowKit Eng
theorem many_inv {α : Type} {b : List Int} {f : Rd → α × Rd} {p : α → Prop} (h : ∀ s,s.pos ≤ b.length → p (f s).1 ∧ (f s).2.pos ≤ b.length) : ∀ (n : Nat) (s : Rd),s.pos ≤ b.length → (manyR f n s).1.length ≤ n ∧ (∀ x ∈ (manyR f n s).1,p x) ∧ (manyR f n s).2.pos ≤ b.length
 | 0,_,hp=>⟨Nat.le_refl _,fun x hx=>(by cases hx),hp⟩
 | n + 1,s,hp=>by
   unfold manyR
   split
   · exact ⟨Nat.zero_le _,fun x hx=>(by cases hx),hp⟩
   · obtain ⟨h1,h2,h3⟩:=many_inv h n (f s).2 (h s hp).2
     refine ⟨by simp only [List.length_cons];omega,fun x hx=>?_,h3⟩
     rcases List.mem_cons.1 hx with rfl|hx
     · exact (h s hp).1
     · exact h2 x hx
theorem many_dead {α : Type} {f : Rd → α × Rd} {n t : Nat} {u : Bool} (h : ¬ (0 < n ∧ u = false)) : manyR f n ⟨t,u⟩ = ([],⟨t,u⟩):=by
 cases n with
 | zero=>rfl
 | succ n =>
   have hu : u = true:=by
     cases u with
     | true=>rfl
     | false=>exact absurd ⟨Nat.succ_pos n,rfl⟩ h
   exact if_pos hu
end Go.Proofs.YtaecchphjploaaaGreat
