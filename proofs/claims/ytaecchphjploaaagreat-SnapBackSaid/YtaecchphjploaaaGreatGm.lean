/- bytes.GetUint, bytes.GetBlob; readers, plain. -/
import Derived.Test.YtaecchphjploaaaGreatGj
import Derived.Test.YtaecchphjploaaaGreatGd
set_option linter.unusedSimpArgs false
set_option linter.unusedVariables false
set_option maxRecDepth 100000
set_option maxHeartbeats 16000000
namespace Go.Proofs.YtaecchphjploaaaGreat
open Go Go.RowKit Eng
structure Rd where
 pos : Nat
 bad : Bool
def numR (b : List Int) (most : Nat) (s : Rd) : Nat × Rd:=
 if s.bad = true then (0,s) else match getF 9 (b.drop s.pos) with
  | some (n,k)=>if n ≤ most then (n,⟨s.pos + k,false⟩) else (0,⟨s.pos,true⟩)
  | none=>(0,⟨s.pos,true⟩)
theorem numR_bad {b : List Int} {most : Nat} {s : Rd} (h : s.bad = true) : numR b most s = (0,s):=if_pos h
theorem numR_write {b : List Int} {s : Rd} {n most : Nat} {r : List Int} (hs : s.bad = false) (hb : b.drop s.pos = uintL n ++ r) (hn : n ≤ most) (hm : most < 2 * 128 ^ 9) :
  numR b most s = (n,⟨s.pos + (uintL n).length,false⟩) ∧ b.drop (s.pos + (uintL n).length) = r:=by
 have h1:=getF_uintF 9 n r (by omega)
 constructor
 ·unfold numR
  rw [if_neg (by rw [hs];simp),hb]
  show (match getF 9 (uintF 9 n ++ r) with
   | some (n,k)=>if n ≤ most then (n,(⟨s.pos + k,false⟩ : Rd)) else (0,⟨s.pos,true⟩)
   | none=>(0,⟨s.pos,true⟩)) = _
  rw [h1]
  exact if_pos hn
 ·rw [← List.drop_drop,hb,List.drop_left]
theorem okU8_drop {l : List Int} (h : okU8 l) (k : Nat) : okU8 (l.drop k):=fun i hi=>h i (List.mem_of_mem_drop hi)
theorem numR_read {b : List Int} (hb : okU8 b) {s s' : Rd} {n most : Nat} (hp : s.pos ≤ b.length) (h : numR b most s = (n,s')) (hbad : s'.bad = false) :
  s.bad = false ∧ n ≤ most ∧ n < 2 * 128 ^ 9 ∧ b.drop s.pos = uintL n ++ b.drop s'.pos ∧ s'.pos = s.pos + (uintL n).length ∧ s'.pos ≤ b.length:=by
 unfold numR at h
 by_cases hs : s.bad = true
 ·rw [if_pos hs] at h
  cases h
  rw [hs] at hbad;cases hbad
 ·rw [if_neg hs] at h
  cases hg : getF 9 (b.drop s.pos) with
  | none =>
   rw [hg] at h
   have h2 : (⟨s.pos,true⟩ : Rd) = s':=(Prod.mk.inj h).2
   rw [← h2] at hbad;cases hbad
  | some p =>
   obtain ⟨m,k⟩:=p
   rw [hg] at h
   obtain ⟨h3,h4,h5,h6⟩:=uintF_getF 9 (b.drop s.pos) m k (okU8_drop hb _) hg
   change (if m ≤ most then (m,(⟨s.pos + k,false⟩ : Rd)) else (0,⟨s.pos,true⟩)) = (n,s') at h
   by_cases hm : m ≤ most
   ·rw [if_pos hm] at h
    obtain ⟨rfl,rfl⟩:=Prod.mk.inj h
    refine ⟨by simpa using hs,hm,h6,?_,by show s.pos + k = _;rw [h4];rfl,?_⟩
    ·show b.drop s.pos = uintF 9 m ++ b.drop (s.pos + k)
     rw [← h3,← List.drop_drop,List.take_append_drop]
    ·show s.pos + k ≤ b.length
     rw [List.length_drop] at h5;omega
   ·rw [if_neg hm] at h
    have h2 : (⟨s.pos,true⟩ : Rd) = s':=(Prod.mk.inj h).2
    rw [← h2] at hbad;cases hbad
open Go Go.RowKit Eng
structure Spec {α : Type} (b : List Int) (f : Rd → α × Rd) (enc : α → List Int) (ok : α → Prop) : Prop where
 stays : ∀ s,s.bad = true → (f s).2.bad = true
 write : ∀ s x r,s.bad = false → ok x → b.drop s.pos = enc x ++ r → f s = (x,⟨s.pos + (enc x).length,false⟩)
 read : ∀ s,s.pos ≤ b.length → (f s).2.bad = false → s.bad = false ∧ b.drop s.pos = enc (f s).1 ++ b.drop (f s).2.pos ∧ (f s).2.pos = s.pos + (enc (f s).1).length ∧ (f s).2.pos ≤ b.length ∧ ok (f s).1
def numI (b : List Int) (most : Nat) (s : Rd) : Int × Rd:=(((numR b most s).1 : Int),(numR b most s).2)
theorem spec_num {b : List Int} (hb : okU8 b) {most : Nat} (hm : most < 2 * 128 ^ 9) : Spec b (numI b most) (fun z=>uintL z.toNat) (fun z=>0 ≤ z ∧ z ≤ most):=by
 refine ⟨fun s h=>?_,fun s x r hs hx hd=>?_,fun s hp h=>?_⟩
 ·show (numR b most s).2.bad = true
  rw [numR_bad h];exact h
 ·obtain ⟨h1,_⟩:=numR_write hs hd (show x.toNat ≤ most by omega) hm
  unfold numI
  rw [h1]
  show (((x.toNat : Nat) : Int),_) = _
  rw [Int.toNat_of_nonneg hx.1]
 ·obtain ⟨h1,h2,h3,h4,h5,h6⟩:=numR_read hb (n:=(numR b most s).1) (s':=(numR b most s).2) hp rfl h
  refine ⟨h1,?_,?_,h6,by show 0 ≤ (((numR b most s).1 : Nat) : Int);omega,by show (((numR b most s).1 : Nat) : Int) ≤ most;omega⟩
  ·show b.drop s.pos = uintL (((numR b most s).1 : Nat) : Int).toNat ++ _
   rw [Int.toNat_natCast];exact h4
  ·show _ = s.pos + (uintL (((numR b most s).1 : Nat) : Int).toNat).length
   rw [Int.toNat_natCast];exact h5
theorem spec_pair {α β γ : Type} {b : List Int} {f : Rd → α × Rd} {g : Rd → β × Rd} {e1 : α → List Int} {e2 : β → List Int} {o1 : α → Prop} {o2 : β → Prop} (hf : Spec b f e1 o1) (hg : Spec b g e2 o2)
  (mk : α → β → γ) (p1 : γ → α) (p2 : γ → β) (hmk : ∀ z,mk (p1 z) (p2 z) = z) (h1 : ∀ x y,p1 (mk x y) = x) (h2 : ∀ x y,p2 (mk x y) = y) :
  Spec b (fun s=>(mk (f s).1 (g (f s).2).1,(g (f s).2).2)) (fun z=>e1 (p1 z) ++ e2 (p2 z)) (fun z=>o1 (p1 z) ∧ o2 (p2 z)):=by
 refine ⟨fun s h=>hg.stays _ (hf.stays _ h),fun s z r hs hz hd=>?_,fun s hp h=>?_⟩
 ·rw [List.append_assoc] at hd
  have a1:=hf.write s (p1 z) _ hs hz.1 hd
  have a2:=hg.write ⟨s.pos + (e1 (p1 z)).length,false⟩ (p2 z) r rfl hz.2 (by show b.drop (s.pos + (e1 (p1 z)).length) = _;rw [← List.drop_drop,hd,List.drop_left])
  rw [a1,a2,hmk,List.length_append,Nat.add_assoc]
 ·have hb1 : (f s).2.bad = false:=by
   cases hx : (f s).2.bad with
   | false=>rfl
   | true =>
    have h3 : (g (f s).2).2.bad = true:=hg.stays _ hx
    have h4 : (g (f s).2).2.bad = false:=h
    rw [h3] at h4;cases h4
  obtain ⟨a1,a2,a3,a4,a5⟩:=hf.read s hp hb1
  obtain ⟨c1,c2,c3,c4,c5⟩:=hg.read (f s).2 a4 h
  dsimp only
  rw [h1,h2]
  refine ⟨a1,?_,?_,c4,a5,c5⟩
  ·rw [a2,c2,List.append_assoc]
  ·rw [c3,a3,List.length_append,Nat.add_assoc]
def manyR {α : Type} (f : Rd → α × Rd) : Nat → Rd → List α × Rd
 | 0,s=>([],s)
 | n + 1,s=>if s.bad = true then ([],s) else ((f s).1 :: (manyR f n (f s).2).1,(manyR f n (f s).2).2)
theorem many_stays {α : Type} {f : Rd → α × Rd} : ∀ (n : Nat) (s : Rd),s.bad = true → manyR f n s = ([],s)
 | 0,_,_=>rfl
 | _ + 1,_,h=>if_pos h
theorem many_write {α : Type} {b : List Int} {f : Rd → α × Rd} {enc : α → List Int} {ok : α → Prop} (hf : Spec b f enc ok) : ∀ (l : List α) (s : Rd) (r : List Int),s.bad = false → (∀ x ∈ l,ok x) → b.drop s.pos = l.flatMap enc ++ r → manyR f l.length s = (l,⟨s.pos + (l.flatMap enc).length,false⟩):=by
 intro l
 induction l with
 | nil=>intro s r hs _ _;cases s;cases hs;rfl
 | cons x t ih =>
  intro s r hs ho hd
  rw [List.flatMap_cons,List.append_assoc] at hd
  have a1:=hf.write s x _ hs (ho x (List.mem_cons_self ..)) hd
  have a2:=ih ⟨s.pos + (enc x).length,false⟩ r rfl (fun y hy=>ho y (List.mem_cons_of_mem _ hy)) (by show b.drop (s.pos + (enc x).length) = _;rw [← List.drop_drop,hd,List.drop_left])
  show (if s.bad = true then ([],s) else ((f s).1 :: (manyR f t.length (f s).2).1,(manyR f t.length (f s).2).2)) = _
  rw [if_neg (by rw [hs];simp),a1,a2,List.flatMap_cons,List.length_append,Nat.add_assoc]
open Go Go.RowKit Eng
def slotR (b : List Int) (s : Rd) : Slot × Rd:=(⟨(numI b 255 s).1,(numI b 1000 (numI b 255 s).2).1⟩,(numI b 1000 (numI b 255 s).2).2)
theorem spec_slot {b : List Int} (hb : okU8 b) : Spec b (slotR b) slotL (fun s=>(0 ≤ s.item ∧ s.item ≤ 255) ∧ (0 ≤ s.n ∧ s.n ≤ 1000)):=by
 have h:=spec_pair (spec_num hb (most:=255) (by decide)) (spec_num hb (most:=1000) (by decide)) Slot.mk Slot.item Slot.n (fun _=>rfl) (fun _ _=>rfl) (fun _ _=>rfl)
 have e : (fun z : Slot=>uintL z.item.toNat ++ uintL z.n.toNat) = slotL:=by
  funext z;unfold slotL putY;simp
 rw [e] at h
 exact h
def heapR (b : List Int) (s : Rd) : Heap × Rd:=(⟨(numI b 1000 s).1,(slotR b (numI b 1000 s).2).1⟩,(slotR b (numI b 1000 s).2).2)
theorem spec_heap {b : List Int} (hb : okU8 b) : Spec b (heapR b) heapL (fun h=>(0 ≤ h.cell ∧ h.cell ≤ 1000) ∧ (0 ≤ h.slot.item ∧ h.slot.item ≤ 255) ∧ (0 ≤ h.slot.n ∧ h.slot.n ≤ 1000)):=by
 have h:=spec_pair (spec_num hb (most:=1000) (by decide)) (spec_slot hb) Heap.mk Heap.cell Heap.slot (fun _=>rfl) (fun _ _=>rfl) (fun _ _=>rfl)
 have e : (fun z : Heap=>uintL z.cell.toNat ++ slotL z.slot) = heapL:=by
  funext z;unfold slotL heapL putY;simp
 rw [e] at h
 exact h
def allR {α : Type} (f : Rd → α × Rd) : Nat → Rd → List α × Rd
 | 0,s=>([],s)
 | n + 1,s=>((f s).1 :: (allR f n (f s).2).1,(allR f n (f s).2).2)
theorem many_all {α : Type} {b : List Int} {f : Rd → α × Rd} {enc : α → List Int} {ok : α → Prop} (hf : Spec b f enc ok) : ∀ (n : Nat) (s : Rd),(manyR f n s).2.bad = false → allR f n s = manyR f n s
 | 0,_,_=>rfl
 | n + 1,s,h=>by
  by_cases hs : s.bad = true
  ·rw [many_stays (n + 1) s hs,hs] at h;cases h
  ·have e : manyR f (n + 1) s = ((f s).1 :: (manyR f n (f s).2).1,(manyR f n (f s).2).2):=if_neg hs
   rw [e] at h ⊢
   have ih:=many_all hf n (f s).2 h
   show ((f s).1 :: (allR f n (f s).2).1,(allR f n (f s).2).2) = _
   rw [ih]
open Go Go.RowKit Eng
def boxesR (b : List Int) : List Int → Nat → Rd → List Box × Rd
 | [],_,s=>([],s)
 | i :: r,k,s=>if i = 9 ∧ s.bad = false then ((⟨k,(allR (slotR b) 6 s).1⟩ : Box) :: (boxesR b r (k + 1) (allR (slotR b) 6 s).2).1,(boxesR b r (k + 1) (allR (slotR b) 6 s).2).2) else boxesR b r (k + 1) s
def bagGood (l : List Slot) : Prop:=∀ x ∈ l,(0 ≤ x.item ∧ x.item ≤ 255) ∧ (0 ≤ x.n ∧ x.n ≤ 1000)
theorem boxes_write {b : List Int} (hb : okU8 b) : ∀ (l : List Int) (k : Nat) (bs : List Box) (s : Rd) (r : List Int),s.bad = false → rightGo l k bs = some [] → (∀ x ∈ bs,bagGood x.bag) → b.drop s.pos = bs.flatMap boxL ++ r → boxesR b l k s = (bs,⟨s.pos + (bs.flatMap boxL).length,false⟩):=by
 intro l
 induction l with
 | nil =>
  intro k bs s r hs hg _ _
  have h0 : bs = []:=by simpa [rightGo] using hg
  subst h0
  cases s;cases hs;rfl
 | cons i t ih =>
  intro k bs s r hs hg hgd hd
  unfold rightGo at hg
  by_cases h1 : itemOk i = true
  ·rw [if_pos h1] at hg
   by_cases h2 : i = 9
   ·rw [if_pos h2] at hg
    cases bs with
    | nil=>cases hg
    | cons x bs =>
     dsimp only at hg
     by_cases h3 : boxAt x k = true
     ·rw [if_pos h3] at hg
      simp only [boxAt,Bool.and_eq_true,beq_iff_eq,decide_eq_true_eq] at h3
      have hlen : x.bag.length = 6:=by omega
      rw [List.flatMap_cons,List.append_assoc] at hd
      have a1:=many_write (spec_slot hb) x.bag s _ hs (hgd x (List.mem_cons_self ..)) hd
      rw [hlen] at a1
      have a2:=many_all (spec_slot hb) 6 s (by rw [a1])
      rw [a1] at a2
      have a3:=ih (k + 1) bs ⟨s.pos + (boxL x).length,false⟩ r rfl hg (fun y hy=>hgd y (List.mem_cons_of_mem _ hy)) (by show b.drop (s.pos + (boxL x).length) = _;rw [← List.drop_drop,hd,List.drop_left])
      show (if i = 9 ∧ s.bad = false then _ else _) = _
      rw [if_pos ⟨h2,hs⟩,a2]
      change (_ :: (boxesR b t (k + 1) ⟨s.pos + (boxL x).length,false⟩).1,(boxesR b t (k + 1) ⟨s.pos + (boxL x).length,false⟩).2) = _
      rw [a3,List.flatMap_cons,List.length_append,Nat.add_assoc]
      have hx : (⟨(k : Int),x.bag⟩ : Box) = x:=by rw [← h3.1]
      show ((⟨(k : Int),x.bag⟩ : Box) :: bs,_) = _
      rw [hx]
     ·rw [if_neg h3] at hg;cases hg
   ·rw [if_neg h2] at hg
    have e : boxesR b (i :: t) k s = boxesR b t (k + 1) s:=if_neg fun e=>h2 e.1
    rw [e]
    exact ih (k + 1) bs s r hs hg hgd hd
  ·rw [if_neg h1] at hg;cases hg
open Go Go.RowKit Eng
def emptyK : Chunk:=⟨0,0,[],[],[]⟩
structure ReadK (b : List Int) where
 x : Int × Rd
 y : Int × Rd
 n : Int × Rd
 hs : List Heap × Rd
 bx : List Box × Rd
def readK (b : List Int) : ReadK b:=
 let x:=numI b 1000 ⟨0,false⟩
 let y:=numI b 1000 x.2
 let n:=numI b 1000 ⟨y.2.pos + 64,false⟩
 let hs:=manyR (heapR b) n.1.toNat n.2
 ⟨x,y,n,hs,boxesR b ((b.drop y.2.pos).take 64) 0 hs.2⟩
def chunkK (b : List Int) : Chunk:=⟨(readK b).x.1,(readK b).y.1,(b.drop (readK b).y.2.pos).take 64,(readK b).hs.1,(readK b).bx.1⟩
def readC (b : List Int) : Chunk × Int:=
 if (readK b).y.2.bad = true ∨ b.length - (readK b).y.2.pos < 64 then (emptyK,101)
 else if (readK b).bx.2.bad = true ∨ ¬ (readK b).bx.2.pos = b.length ∨ rightB (chunkK b) = false then (emptyK,101)
 else (chunkK b,0)
open Go Go.RowKit Eng
theorem drop_app {b P r : List Int} {s : Nat} (h : b.drop s = P ++ r) : b.drop (s + P.length) = r:=by rw [← List.drop_drop,h,List.drop_left]
theorem readC_bytes {c : Chunk} (hb : okU8 (bytesC c)) (hr : rightB c = true) (hi : ∀ h ∈ c.heaps,0 ≤ h.slot.item ∧ h.slot.item ≤ 255) (hj : ∀ x ∈ c.boxes,bagGood x.bag) : readC (bytesC c) = (c,0):=by
 have hr0:=hr
 unfold rightB at hr
 rw [Bool.and_eq_true] at hr
 obtain ⟨hd,hr⟩:=hr
 unfold headB at hd
 simp only [Bool.and_eq_true,decide_eq_true_eq] at hd
 obtain ⟨d1,d2,d3,d4,d5,d6⟩:=hd
 have hg : rightGo c.cells 0 c.boxes = some []:=by
  cases hx : rightGo c.cells 0 c.boxes with
  | none=>rw [hx] at hr;cases hr
  | some l =>
   cases l with
   | nil=>rfl
   | cons y t=>rw [hx] at hr;cases hr
 rw [hg] at hr
 have hh : ∀ h ∈ c.heaps,(0 ≤ h.cell ∧ h.cell ≤ 1000) ∧ (0 ≤ h.slot.item ∧ h.slot.item ≤ 255) ∧ (0 ≤ h.slot.n ∧ h.slot.n ≤ 1000):=fun h hm=>by
  have h1:=okN_heap (any_false (by simpa using hr) hm)
  exact ⟨by omega,hi h hm,by omega⟩
 have hcl : c.cells.length = 64:=by omega
 have n1:=spec_num hb (most:=1000) (by decide)
 have e0 : bytesC c = uintL c.x.toNat ++ (uintL c.y.toNat ++ (c.cells ++ (uintL (c.heaps.length : Int).toNat ++ (c.heaps.flatMap heapL ++ (c.boxes.flatMap boxL ++ []))))):=by
  unfold bytesC putY
  simp only [List.flatMap_cons,List.flatMap_nil,List.append_nil,List.append_assoc]
 generalize bytesC c = b at *
 have q1 : b.drop 0 = _:=List.drop_zero.trans e0
 have a1:=n1.write ⟨0,false⟩ c.x _ rfl ⟨d1,by omega⟩ q1
 have q2:=drop_app q1
 have a2:=n1.write ⟨0 + (uintL c.x.toNat).length,false⟩ c.y _ rfl ⟨d2,by omega⟩ q2
 have q3:=drop_app q2
 have q4:=drop_app q3
 rw [hcl] at q4
 have a4:=n1.write ⟨0 + (uintL c.x.toNat).length + (uintL c.y.toNat).length + 64,false⟩ (c.heaps.length : Int) _ rfl ⟨by omega,by show (c.heaps.length : Int) ≤ 1000;omega⟩ q4
 have q5:=drop_app q4
 have a5:=many_write (spec_heap hb) c.heaps ⟨0 + (uintL c.x.toNat).length + (uintL c.y.toNat).length + 64 + (uintL (c.heaps.length : Int).toNat).length,false⟩ _ rfl hh q5
 have q6:=drop_app q5
 have a6:=boxes_write hb c.cells 0 c.boxes ⟨0 + (uintL c.x.toNat).length + (uintL c.y.toNat).length + 64 + (uintL (c.heaps.length : Int).toNat).length + (c.heaps.flatMap heapL).length,false⟩ [] rfl hg hj q6
 have hlen:=congrArg List.length e0
 simp only [List.length_append,List.length_nil,hcl] at hlen
 have kx : (readK b).x = (c.x,⟨0 + (uintL c.x.toNat).length,false⟩):=a1
 have ky : (readK b).y = (c.y,⟨0 + (uintL c.x.toNat).length + (uintL c.y.toNat).length,false⟩):=by
  show numI b 1000 (readK b).x.2 = _
  rw [kx];exact a2
 have kn : (readK b).n = ((c.heaps.length : Int),⟨0 + (uintL c.x.toNat).length + (uintL c.y.toNat).length + 64 + (uintL (c.heaps.length : Int).toNat).length,false⟩):=by
  show numI b 1000 ⟨(readK b).y.2.pos + 64,false⟩ = _
  rw [ky];exact a4
 have kh : (readK b).hs = (c.heaps,⟨0 + (uintL c.x.toNat).length + (uintL c.y.toNat).length + 64 + (uintL (c.heaps.length : Int).toNat).length + (c.heaps.flatMap heapL).length,false⟩):=by
  show manyR (heapR b) (readK b).n.1.toNat (readK b).n.2 = _
  rw [kn]
  show manyR (heapR b) (c.heaps.length : Int).toNat _ = _
  rw [Int.toNat_natCast];exact a5
 have kc : (b.drop (readK b).y.2.pos).take 64 = c.cells:=by
  rw [ky]
  show (b.drop (0 + (uintL c.x.toNat).length + (uintL c.y.toNat).length)).take 64 = _
  rw [q3,← hcl,List.take_left]
 have kb : (readK b).bx = (c.boxes,⟨0 + (uintL c.x.toNat).length + (uintL c.y.toNat).length + 64 + (uintL (c.heaps.length : Int).toNat).length + (c.heaps.flatMap heapL).length + (c.boxes.flatMap boxL).length,false⟩):=by
  show boxesR b ((b.drop (readK b).y.2.pos).take 64) 0 (readK b).hs.2 = _
  rw [kc,kh];exact a6
 have kk : chunkK b = c:=by
  unfold chunkK
  rw [kc,kx,ky,kh,kb]
 unfold readC
 rw [kk,ky,kb,if_neg,if_neg]
 ·rintro (h|h|h)
  ·cases h
  ·exact h (by show 0 + (uintL c.x.toNat).length + (uintL c.y.toNat).length + 64 + (uintL (c.heaps.length : Int).toNat).length + (c.heaps.flatMap heapL).length + (c.boxes.flatMap boxL).length = b.length;omega)
  ·rw [hr0] at h;cases h
 ·rintro (h|h)
  ·cases h
  ·change b.length - (0 + (uintL c.x.toNat).length + (uintL c.y.toNat).length) < 64 at h
   omega
open Go Go.RowKit Eng
theorem u8_uintF : ∀ (f n : Nat),n < 2 * 128 ^ f → okU8 (uintF f n):=by
 intro f
 induction f with
 | zero =>
  intro n h i hi
  change i ∈ [(n : Int)] at hi
  rw [List.mem_singleton] at hi
  omega
 | succ f ih =>
  intro n h i hi
  rw [Nat.pow_succ] at h
  by_cases hn : n < 128
  ·rw [show uintF (f + 1) n = [(n : Int)] from if_pos hn,List.mem_singleton] at hi
   omega
  ·rw [show uintF (f + 1) n = ((n % 128 + 128 : Nat) : Int) :: uintF f (n / 128) from if_neg hn] at hi
   rcases List.mem_cons.1 hi with hi|hi
   ·omega
   ·exact ih (n / 128) (by omega) i hi
theorem u8_uint {n : Nat} (h : n ≤ 1000) : okU8 (uintL n):=u8_uintF 9 n (Nat.lt_of_le_of_lt h (by decide))
theorem u8_put {l : List Int} (h : ∀ z ∈ l,z ≤ 1000) : okU8 (putY l):=fun i hi=>by
 obtain ⟨z,hz,hi⟩:=List.mem_flatMap.1 hi
 exact u8_uint (by have:=h z hz;omega) i hi
theorem u8_app {a b : List Int} (ha : okU8 a) (hb : okU8 b) : okU8 (a ++ b):=fun i hi=>(List.mem_append.1 hi).elim (ha i) (hb i)
theorem u8_flat {α : Type} {l : List α} {f : α → List Int} (h : ∀ x ∈ l,okU8 (f x)) : okU8 (l.flatMap f):=fun i hi=>by
 obtain ⟨z,hz,hi⟩:=List.mem_flatMap.1 hi
 exact h z hz i hi
theorem u8_bytesC {c : Chunk} (hr : rightB c = true) (hc : okU8 c.cells) (hi : ∀ h ∈ c.heaps,0 ≤ h.slot.item ∧ h.slot.item ≤ 255) (hj : ∀ x ∈ c.boxes,bagGood x.bag) : okU8 (bytesC c):=by
 unfold rightB at hr
 rw [Bool.and_eq_true] at hr
 obtain ⟨hd,hr⟩:=hr
 unfold headB at hd
 simp only [Bool.and_eq_true,decide_eq_true_eq] at hd
 obtain ⟨d1,d2,d3,d4,d5,d6⟩:=hd
 have hg : rightGo c.cells 0 c.boxes = some []:=by
  cases hx : rightGo c.cells 0 c.boxes with
  | none=>rw [hx] at hr;cases hr
  | some l =>
   cases l with
   | nil=>rfl
   | cons y t=>rw [hx] at hr;cases hr
 rw [hg] at hr
 unfold bytesC
 refine u8_app (u8_app (u8_app (u8_app (u8_put fun z hz=>?_) hc) (u8_put fun z hz=>?_)) (u8_flat fun h hm=>u8_put fun z hz=>?_)) (u8_flat fun x hx=>u8_flat fun s hs=>u8_put fun z hz=>?_)
 ·simp only [List.mem_cons,List.not_mem_nil,or_false] at hz
  rcases hz with rfl|rfl<;>omega
 ·rw [List.mem_singleton] at hz;omega
 ·have h1:=okN_heap (any_false (by simpa using hr) hm)
  have h2:=hi h hm
  simp only [List.mem_cons,List.not_mem_nil,or_false] at hz
  rcases hz with rfl|rfl|rfl<;>omega
 ·have h1:=hj x hx s hs
  simp only [List.mem_cons,List.not_mem_nil,or_false] at hz
  rcases hz with rfl|rfl<;>omega
open Go Go.RowKit Eng
def blobR (b : List Int) (most : Nat) (s : Rd) : List Int × Rd:=
 if (numR b most s).2.bad = true then ([],⟨s.pos,true⟩)
 else if b.length - (numR b most s).2.pos < (numR b most s).1 then ([],⟨s.pos,true⟩)
 else ((b.drop (numR b most s).2.pos).take (numR b most s).1,⟨(numR b most s).2.pos + (numR b most s).1,false⟩)
theorem spec_blob {b : List Int} (hb : okU8 b) {most : Nat} (hm : most < 2 * 128 ^ 9) : Spec b (blobR b most) (fun l=>uintL l.length ++ l) (fun l=>l.length ≤ most):=by
 refine ⟨fun s h=>?_,fun s x r hs hx hd=>?_,fun s hp h=>?_⟩
 ·unfold blobR
  rw [if_pos (by rw [numR_bad h];exact h)]
 ·rw [List.append_assoc] at hd
  obtain ⟨h1,h2⟩:=numR_write hs hd hx hm
  have hl:=congrArg List.length h2
  rw [List.length_drop,List.length_append] at hl
  unfold blobR
  rw [h1]
  dsimp only
  rw [if_neg (by simp),if_neg (by omega),h2,List.take_left,List.length_append,Nat.add_assoc]
 ·unfold blobR at h ⊢
  by_cases c1 : (numR b most s).2.bad = true
  ·rw [if_pos c1] at h;cases h
  ·rw [if_neg c1] at h ⊢
   by_cases c2 : b.length - (numR b most s).2.pos < (numR b most s).1
   ·rw [if_pos c2] at h;cases h
   ·rw [if_neg c2]
    obtain ⟨a1,a2,a3,a4,a5,a6⟩:=numR_read hb (n:=(numR b most s).1) (s':=(numR b most s).2) hp rfl (by simpa using c1)
    have hlen : ((b.drop (numR b most s).2.pos).take (numR b most s).1).length = (numR b most s).1:=by rw [List.length_take,List.length_drop];omega
    dsimp only
    rw [hlen]
    refine ⟨a1,?_,?_,by omega,a2⟩
    ·rw [a4,List.append_assoc,← List.drop_drop,List.take_append_drop]
    ·rw [List.length_append,hlen,a5,Nat.add_assoc]
open Go Go.RowKit Eng
open Go Go.RowKit Eng
def more7 (x : Int) : Bool:=decide (x < 128)
def valF : List Int → Nat
 | []=>0
 | a :: r=>(a % 128).toNat + 128 * valF r
theorem idxGo_shift {α : Type} (p : α → Bool) : ∀ (l : List α) (i : Nat),idxGo p l (i + 1) = if idxGo p l i < 0 then -1 else idxGo p l i + 1
 | [],i=>by simp [idxGo]
 | a :: r,i=>by
  unfold idxGo
  by_cases h : p a = true
  ·rw [if_pos h,if_pos h,if_neg (by omega)];omega
  ·rw [if_neg h,if_neg h];exact idxGo_shift p r (i + 1)
theorem idxGo_lt {α : Type} (p : α → Bool) : ∀ (l : List α) (i : Nat),idxGo p l i < i + l.length ∧ (0 ≤ idxGo p l i → (i : Int) ≤ idxGo p l i) ∧ -1 ≤ idxGo p l i
 | [],i=>by simp [idxGo];omega
 | a :: r,i=>by
  have:=idxGo_lt p r (i + 1)
  unfold idxGo
  rw [List.length_cons]
  by_cases h : p a = true
  ·rw [if_pos h];omega
  ·rw [if_neg h];omega
theorem idxGo_at {t : Ty} (p : El t → Bool) : ∀ (l : List (El t)),0 ≤ idxGo p l 0 → p (elt t l (idxGo p l 0).toNat) = true
 | [],h=>by simp [idxGo] at h
 | a :: r,h=>by
  by_cases hp : p a = true
  ·have e : idxGo p (a :: r) 0 = 0:=by unfold idxGo;rw [if_pos hp];rfl
   rw [e];exact hp
  ·have e : idxGo p (a :: r) 0 = idxGo p r (0 + 1):=by rw [idxGo,if_neg hp]
   rw [idxGo_shift] at e
   by_cases h2 : idxGo p r 0 < 0
   ·rw [if_pos h2] at e;omega
   ·rw [if_neg h2] at e
    have:=idxGo_at p r (by omega)
    rw [e,show (idxGo p r 0 + 1).toNat = (idxGo p r 0).toNat + 1 by omega]
    exact this
theorem valF_pos : ∀ (l : List (El .u8)) (e : Nat),e < l.length → (0 : Int) < (elt .u8 l e) % 128 → 0 < valF (l.take (e + 1))
 | [],e,h,_=>by simp at h
 | a :: r,0,_,h=>by
  have h2 : (0 : Int) < a % 128:=h
  show 0 < (a % 128).toNat + 128 * valF (r.take 0)
  omega
 | a :: r,e + 1,h,h2=>by
  have:=valF_pos r e (by simpa using h) h2
  show 0 < (a % 128).toNat + 128 * valF (r.take (e + 1))
  omega
theorem getF_take : ∀ (f : Nat) (l : List Int),getF f (l.take (f + 1)) = getF f l
 | 0,[]=>rfl
 | 0,a :: r=>rfl
 | f + 1,[]=>rfl
 | f + 1,a :: r=>by
  rw [List.take_succ_cons]
  show (if a < 128 then _ else match getF f (r.take (f + 1)) with|some (n,k)=>_|none=>_) = _
  rw [getF_take f r]
  rfl
theorem getF_idx : ∀ (f : Nat) (l : List Int),okU8 l → l.length ≤ f + 1 → getF f l =
  if idxGo more7 l 0 < 0 then none else if (0 < idxGo more7 l 0 ∧ @Eq Int (elt .u8 l (idxGo more7 l 0).toNat) 0) ∨ (idxGo more7 l 0 = f ∧ (1 : Int) < elt .u8 l (idxGo more7 l 0).toNat) then none
  else some (valF (l.take ((idxGo more7 l 0).toNat + 1)),(idxGo more7 l 0).toNat + 1):=by
 intro f
 induction f with
 | zero =>
  intro l hl hlen
  match l,hl,hlen with
  | [],_,_=>rfl
  | [b],hl,_ =>
   have hb:=hl b (List.mem_cons_self ..)
   by_cases h : b < 128
   ·have e : idxGo more7 [b] 0 = 0:=by unfold idxGo;rw [if_pos (by simp [more7,h])];rfl
    rw [e,if_neg (by omega)]
    show (if b < 2 then some (b.toNat,1) else none) = (if ((0 : Int) < 0 ∧ b = 0) ∨ ((0 : Int) = (0 : Nat) ∧ 1 < b) then none else some ((b % 128).toNat + 128 * 0,1))
    by_cases h2 : b < 2
    ·rw [if_pos h2,if_neg (by omega),show (b % 128).toNat + 128 * 0 = b.toNat by omega]
    ·rw [if_neg h2,if_pos (by omega)]
   ·have e : idxGo more7 [b] 0 = -1:=by unfold idxGo;rw [if_neg (by simp [more7];omega)];rfl
    rw [e,if_pos (by omega)]
    show (if b < 2 then some (b.toNat,1) else none) = none
    rw [if_neg (by omega)]
  | _ :: _ :: _,_,h=>simp at h
 | succ f ih =>
  intro l hl hlen
  match l,hl,hlen with
  | [],_,_=>rfl
  | b :: r,hl,hlen =>
   have hb:=hl b (List.mem_cons_self ..)
   by_cases h : b < 128
   ·have e : idxGo more7 (b :: r) 0 = 0:=by unfold idxGo;rw [if_pos (by simp [more7,h])];rfl
    rw [e,if_neg (by omega),if_neg (by omega)]
    show (if b < 128 then some (b.toNat,1) else _) = some ((b % 128).toNat + 128 * 0,1)
    rw [if_pos h,show (b % 128).toNat + 128 * 0 = b.toNat by omega]
   ·have e : idxGo more7 (b :: r) 0 = idxGo more7 r (0 + 1):=by rw [idxGo,if_neg (by simp [more7];omega)]
    rw [idxGo_shift] at e
    have hr : okU8 r:=fun i hi=>hl i (List.mem_cons_of_mem _ hi)
    have ih2:=ih r hr (by simpa using hlen)
    have hlt:=idxGo_lt more7 r 0
    show (if b < 128 then _ else match getF f r with|some (n,k)=>(if n = 0 then none else some ((b - 128).toNat + 128 * n,k + 1))|none=>none) = _
    rw [if_neg h,ih2]
    by_cases h2 : idxGo more7 r 0 < 0
    ·rw [if_pos h2] at e
     rw [if_pos h2,e,if_pos (by omega)]
    ·rw [if_neg h2] at e
     rw [if_neg h2]
     have ha : more7 (elt .u8 r (idxGo more7 r 0).toNat) = true:=idxGo_at (t:=.u8) more7 r (by omega)
     have hm : elt .u8 r (idxGo more7 r 0).toNat ∈ r:=elt_mem (t:=.u8) (l:=r) (i:=(idxGo more7 r 0).toNat) (by omega)
     have et : (idxGo more7 r 0 + 1).toNat = (idxGo more7 r 0).toNat + 1:=by omega
     have ee : @Eq Int (elt .u8 (b :: r) (idxGo more7 (b :: r) 0).toNat) (elt .u8 r (idxGo more7 r 0).toNat):=by rw [e,et];rfl
     rw [ee,e,et]
     rw [if_neg (show ¬ idxGo more7 r 0 + 1 < 0 by omega)]
     have hv:=valF_pos r (idxGo more7 r 0).toNat (by omega)
     have hz : @Eq Int (elt .u8 r (idxGo more7 r 0).toNat) 0 → idxGo more7 r 0 = 0 → valF (r.take ((idxGo more7 r 0).toNat + 1)) = 0:=by
      intro q1 q2
      rw [q2] at q1 ⊢
      match r,q1 with
      | [],_=>rfl
      | a :: t,q1 =>
       have q3 : a = 0:=q1
       show (a % 128).toNat + 128 * 0 = 0
       omega
     obtain ⟨E,hE⟩ : ∃ E : Int,E = elt .u8 r (idxGo more7 r 0).toNat:=⟨_,rfl⟩
     rw [← hE] at ha hm hv hz ⊢
     clear hE ee
     have ha2 : E < 128:=by simpa [more7] using ha
     have hm2 : 0 ≤ E ∧ E ≤ 255:=hr _ hm
     show (match (if (0 < idxGo more7 r 0 ∧ E = 0) ∨ (idxGo more7 r 0 = (f : Int) ∧ 1 < E) then none else some (valF (r.take ((idxGo more7 r 0).toNat + 1)),(idxGo more7 r 0).toNat + 1)) with|some (n,k)=>(if n = 0 then none else some ((b - 128).toNat + 128 * n,k + 1))|none=>none) = (if (0 < idxGo more7 r 0 + 1 ∧ E = 0) ∨ (idxGo more7 r 0 + 1 = ((f + 1 : Nat) : Int) ∧ 1 < E) then none else some ((b % 128).toNat + 128 * valF (r.take ((idxGo more7 r 0).toNat + 1)),(idxGo more7 r 0).toNat + 1 + 1))
     generalize valF (r.take ((idxGo more7 r 0).toNat + 1)) = V at *
     by_cases c1 : (0 < idxGo more7 r 0 ∧ E = 0) ∨ (idxGo more7 r 0 = (f : Int) ∧ 1 < E)
     ·rw [if_pos c1,if_pos (by omega)]
     ·rw [if_neg c1]
      show (if V = 0 then none else some ((b - 128).toNat + 128 * V,(idxGo more7 r 0).toNat + 1 + 1)) = _
      by_cases c2 : E = 0
      ·rw [if_pos (hz c2 (by omega)),if_pos (by omega)]
      ·have hv2:=hv (show (0 : Int) < E % 128 by omega)
       rw [if_neg (by omega),if_neg (by omega),show (b - 128).toNat = (b % 128).toNat by omega]
theorem valF_drop {l : List (El .u8)} {j : Nat} (h : j < l.length) : valF (l.drop j) = (@HMod.hMod Int Int Int _ (elt .u8 l j) 128).toNat + 128 * valF (l.drop (j + 1)):=by
 rw [drop_elt (t:=.u8) h];rfl
theorem valF_le (l : List (El .u8)) : ∀ j,valF (l.drop j) ≤ valF l
 | 0=>Nat.le_refl _
 | j + 1=>by
  by_cases h : j < l.length
  ·have:=valF_le l j
   have:=valF_drop h
   omega
  ·rw [List.drop_of_length_le (by omega)];exact Nat.zero_le _
open Go Go.RowKit Eng
def okB8 (x : Int) : Prop:=0 ≤ x ∧ x ≤ 255
theorem gu1_api (x : Int) (h : okB8 x) : Api Tryz.prog 180 [u8 x] (bol (more7 x)):=by
 refine aF Tryz.func180 4 ?_
 exact fD0
theorem idx_u8 (l : List (El .u8)) (hl : l.length ≤ big) (hw : ∀ s ∈ l,okB8 s) : Api Tryz.prog 179 [.vec .u8 l,.lit (.func (.func 180) #[] #[])] (i64 (idxGo more7 l 0)):=by
 unfold big at hl
 refine aF Tryz.func179 17 ?_
 conv=>whnf
 refine Runs.loopS cfg_ok (σ:=Nat) [0,1,7,8] (fun k=>[.vec .u8 l,.lit (.func (.func 180) #[] #[]),i64 l.length,i64 k]) (fun _=>[]) (fun k=>k ≤ l.length ∧ idxGo more7 (l.drop k) k = idxGo more7 l 0) (fun k=>l.length - k) 0 ⟨by omega,rfl⟩ ?_ ?_
 ·exact fD0
 ·intro k ⟨hk,he⟩
  by_cases hlt : k < l.length
  ·rw [drop_elt hlt] at he
   simp only [idxGo] at he
   conv=>whnf
   repeat' (first|exact trivial|((first|refine kL ?_|(refine ⟨fun hb=>?_,fun hb=>?_⟩<;>(try simp only [nrm] at hb)<;>try exact kZ hb)|(refine isE 180 ?_;refine kA (gu1_api _ (hw _ (elt_mem' (by omega) (by omega)))) ?_)|(refine isD 180 ?_;refine kD (gu1_api _ (hw _ (elt_mem' (by omega) (by omega)))) ?_)|refine kV ?_)<;>(conv=>whnf))|refine kY ?_ ?_)
   ·simp only [more7,Bool.and_eq_true,Bool.or_eq_true,Bool.not_eq_true',Bool.and_eq_false_iff,Bool.or_eq_false_iff,decide_eq_true_eq,decide_eq_false_iff_not] at hb he
    rw [← he,if_pos hb]
   ·simp only [more7,Bool.and_eq_true,Bool.or_eq_true,Bool.not_eq_true',Bool.and_eq_false_iff,Bool.or_eq_false_iff,decide_eq_true_eq,decide_eq_false_iff_not] at hb
    refine .to (k + 1) ⟨hlt,?_⟩ (by omega) ?_
    ·rw [← he,if_neg (by simp only [more7,Bool.and_eq_true,Bool.or_eq_true,Bool.not_eq_true',Bool.and_eq_false_iff,Bool.or_eq_false_iff,decide_eq_true_eq,decide_eq_false_iff_not];first|omega|(simp [hb];done)|(simp_all;done))]
    ·exact fD0
  ·conv=>whnf
   repeat' (first|exact trivial|((first|(refine ⟨fun hb=>?_,fun hb=>?_⟩<;>(try simp only [nrm] at hb)<;>try exact kZ hb)|refine kV ?_)<;>(conv=>whnf))|refine kY ?_ ?_)
   have : k = l.length:=by omega
   subst this
   simp only [List.drop_length,idxGo] at he
   rw [← he]
def errU (l : List Int) : Int:=if idxGo more7 (l.take 10) 0 < 0 ∧ (l.take 10).length < 10 then 11 else 10
def guN (b : List Int) (pos : Nat) : Nat × Nat × Int:=match getF 9 (b.drop pos) with
 | some (n,k)=>(n,pos + k,0)
 | none=>(0,0,errU (b.drop pos))
theorem getU_api (b : List (El .u8)) (pos : Nat) (hb : okU8 b) (hl : b.length ≤ 1000000000000) (hp : pos ≤ b.length) : Api Tryz.prog 152 [.vec .u8 b,i64 pos] (.tup [.lit (.int .u64 (guN b pos).1),i64 (guN b pos).2.1,i64 (guN b pos).2.2]):=by
 have hG:=getF_take 9 (b.drop pos)
 have hi:=getF_idx 9 ((b.drop pos).take 10) (fun i hi=>hb i (List.mem_of_mem_drop (List.mem_of_mem_take hi))) (by rw [List.length_take];omega)
 rw [hG] at hi
 have hlt:=idxGo_lt more7 ((b.drop pos).take 10) 0
 have hat:=idxGo_at (t:=.u8) more7 ((b.drop pos).take 10)
 have hli:=idx_u8 ((b.drop pos).take 10) (by unfold big;rw [List.length_take];omega) (fun i hi=>hb i (List.mem_of_mem_drop (List.mem_of_mem_take hi)))
 have hcut : (b.drop (pos : Int).toNat).take (min ((pos : Int) + 10) b.length - pos).toNat = (b.drop pos).take 10:=by
  rw [Int.toNat_natCast]
  by_cases h : pos + 10 ≤ b.length
  ·rw [show (min ((pos : Int) + 10) b.length - pos).toNat = 10 by omega]
  ·rw [List.take_of_length_le (by rw [List.length_drop];omega),List.take_of_length_le (by rw [List.length_drop];omega)]
 have hRl : ((b.drop pos).take 10).length = min 10 (b.length - pos):=by rw [List.length_take,List.length_drop]
 unfold guN errU
 generalize hL : (b.drop pos).take 10 = L at *
 have hLok : okU8 L:=fun i hi=>hb i (by rw [← hL] at hi;exact List.mem_of_mem_drop (List.mem_of_mem_take hi))
 generalize hI : idxGo more7 L 0 = I at *
 by_cases c1 : I < 0
 ·rw [if_pos c1] at hi
  rw [hi]
  dsimp only
  by_cases c2 : L.length < 10
  ·rw [if_pos ⟨c1,c2⟩]
   refine aF Tryz.func152 78 ?_
   conv=>whnf
   repeat' (first|exact trivial|((first|refine kL ?_|(refine ⟨fun hb=>?_,fun hb=>?_⟩<;>(try simp only [nrm] at hb)<;>try exact kZ hb)|(rw [hcut])|refine kV ?_)<;>(conv=>whnf))|refine kY ?_ ?_)
  ·rw [if_neg fun h=>c2 h.2]
   refine aF Tryz.func152 78 ?_
   conv=>whnf
   repeat' (first|exact trivial|((first|refine kL ?_|(refine ⟨fun hb=>?_,fun hb=>?_⟩<;>(try simp only [nrm] at hb)<;>try exact kZ hb)|(rw [hcut])|refine kV ?_)<;>(conv=>whnf))|refine kY ?_ ?_)
 ·rw [if_neg c1] at hi
  obtain ⟨e,rfl⟩ : ∃ e : Nat,I = (e : Int):=⟨I.toNat,by omega⟩
  rw [Int.toNat_natCast] at hi
  have hm : elt .u8 L e ∈ L:=elt_mem (t:=.u8) (by omega)
  obtain ⟨E,hE⟩ : ∃ E : Int,elt .u8 L (e : Int).toNat = E:=⟨_,rfl⟩
  have hE2 : elt .u8 L e = E:=hE
  rw [hE2] at hi hm
  have hEb:=hLok E hm
  by_cases c2 : (0 < (e : Int) ∧ E = 0) ∨ ((e : Int) = (9 : Nat) ∧ 1 < E)
  ·rw [if_pos c2] at hi
   rw [hi,if_neg fun h=>c1 h.1]
   dsimp only
   refine aF Tryz.func152 78 ?_
   conv=>whnf
   repeat' (first|exact trivial|((first|refine kL ?_|(refine ⟨fun hb=>?_,fun hb=>?_⟩<;>(try simp only [nrm] at hb)<;>try exact kZ hb)|(rw [hcut])|(rw [hE])|refine kV ?_)<;>(conv=>whnf))|refine kY ?_ ?_)
  ·rw [if_neg c2] at hi
   rw [hi]
   dsimp only
   have hV:=(uintF_getF 9 (b.drop pos) _ _ (okU8_drop hb _) hi).2.2.2
   replace hV : valF (L.take (e + 1)) < 18446744073709551616:=hV
   clear hi hG hat
   generalize hD : L.take (e + 1) = D at *
   have hDl : D.length = e + 1:=by rw [← hD,List.length_take];omega
   refine aF Tryz.func152 78 ?_
   conv=>whnf
   repeat' (first|exact trivial|((first|refine kL ?_|(refine ⟨fun hb=>?_,fun hb=>?_⟩<;>(try simp only [nrm] at hb)<;>try exact kZ hb)|(rw [hcut])|(rw [hE])|refine kV ?_)<;>(conv=>whnf))|refine kY ?_ ?_)
   all_goals
    refine Runs.loopS cfg_ok (σ:=Nat) [1,7,8,9,59,60] (fun i=>[i64 pos,.vec .u8 L,i64 e,.lit (.int .u64 (valF (D.drop (e + 1 - i)) : Nat)),i64 (e + 1),i64 i]) (fun _=>[]) (fun i=>i ≤ e + 1) (fun i=>e + 1 - i) 0 (by omega) ?_ ?_
    ·conv=>whnf
     repeat' (first|exact trivial|((first|(refine ⟨fun hb=>?_,fun hb=>?_⟩<;>(try simp only [nrm] at hb)<;>try exact kZ hb)|refine kV ?_)<;>(conv=>whnf))|refine kY ?_ ?_)
     rw [List.drop_of_length_le (by omega)];rfl
    ·intro i hi
     by_cases hlt2 : i < e + 1
     ·obtain ⟨F,hF⟩ : ∃ F : Int,elt .u8 L ((e : Int) - (i : Int)).toNat = F:=⟨_,rfl⟩
      have hFm : 0 ≤ F ∧ F ≤ 255:=by rw [← hF];exact hLok _ (elt_mem (t:=.u8) (by omega))
      have hd:=valF_drop (l:=D) (j:=e - i) (by omega)
      have hF2 : elt .u8 D (e - i) = F:=by
       rw [← hF,← hD,show ((e : Int) - (i : Int)).toNat = e - i by omega]
       have h1:=elt_get .u8 (L.take (e + 1)) (e - i) (by rw [hD];omega)
       rw [List.getElem?_take,if_pos (by omega),elt_get .u8 L (e - i) (by omega)] at h1
       exact (Option.some.inj h1).symm
      have hle:=valF_le D (e - i)
      rw [hd,hF2,show e - i + 1 = e + 1 - i by omega] at hle
      rw [hF2,show e - i + 1 = e + 1 - i by omega] at hd
      generalize valF (D.drop (e + 1 - i)) = V at *
      conv=>whnf
      repeat' (first|exact trivial|((first|refine kL ?_|(refine ⟨fun hb=>?_,fun hb=>?_⟩<;>(try simp only [nrm] at hb)<;>try exact kZ hb)|(rw [hF])|refine kV ?_)<;>(conv=>whnf))|refine kY ?_ ?_)
      refine .to (i + 1) (by omega) (by omega) ?_
      conv=>whnf
      repeat' (first|exact trivial|((first|(refine ⟨fun hb=>?_,fun hb=>?_⟩<;>(try simp only [nrm] at hb)<;>try exact kZ hb)|refine kV ?_)<;>(conv=>whnf))|refine kY ?_ ?_)
      rw [show e + 1 - (i + 1) = e - i by omega,hd]
      refine congrArg (Value.int _) ?_
      omega
     ·obtain rfl : i = e + 1:=by omega
      rw [Nat.sub_self,List.drop_zero]
      exact fD0
open Go Go.RowKit Eng
theorem cloneV_u8 (l : List (El .u8)) (hl : l.length * 1 ≤ 140737488355328) : Api Tryz.prog 181 [.vec .u8 l] (.vec .u8 l):=by
 refine aF Tryz.func181 7 ?_
 exact fD0
theorem guN_le {b : List Int} (hb : okU8 b) {pos : Nat} (hp : pos ≤ b.length) : (guN b pos).2.1 ≤ b.length ∧ (guN b pos).1 < 18446744073709551616:=by
 unfold guN
 cases hg : getF 9 (b.drop pos) with
 | none=>exact ⟨Nat.zero_le _,by show 0 < _;omega⟩
 | some p =>
  obtain ⟨n,k⟩:=p
  obtain ⟨_,_,h3,h4⟩:=uintF_getF 9 _ _ _ (okU8_drop hb _) hg
  rw [List.length_drop] at h3
  exact ⟨by show pos + k ≤ _;omega,h4⟩
def gbN (b : List Int) (pos most : Nat) : List (El .u8) × Nat × Int:=
 if ¬ (guN b pos).2.2 = 0 then ([],0,(guN b pos).2.2)
 else if most < (guN b pos).1 then ([],0,3)
 else if b.length - (guN b pos).2.1 < (guN b pos).1 then ([],0,11)
 else ((b.drop (guN b pos).2.1).take (guN b pos).1,(guN b pos).2.1 + (guN b pos).1,0)
theorem getB_api (b : List (El .u8)) (pos most : Nat) (hb : okU8 b) (hl : b.length ≤ 1000000000000) (hp : pos ≤ b.length) (hm : most ≤ 1000000000000) : Api Tryz.prog 153 [.vec .u8 b,i64 pos,i64 most] (.tup [.vec .u8 (gbN b pos most).1,i64 (gbN b pos most).2.1,i64 (gbN b pos most).2.2]):=by
 have hu:=getU_api b pos hb hl hp
 obtain ⟨h1,h2⟩:=guN_le hb hp
 unfold gbN
 generalize guN b pos = G at *
 obtain ⟨n,f,e⟩:=G
 dsimp only at *
 by_cases c1 : e = 0
 ·rw [if_neg fun h=>h c1]
  subst c1
  by_cases c2 : most < n
  ·rw [if_pos c2]
   refine aF Tryz.func153 45 ?_
   exact fD0
  ·rw [if_neg c2]
   by_cases c3 : b.length - f < n
   ·rw [if_pos c3]
    refine aF Tryz.func153 45 ?_
    exact fD0
   ·rw [if_neg c3]
    have hc:=cloneV_u8 ((b.drop (f : Int).toNat).take (((f : Int) + n) - f).toNat) (by rw [List.length_take,List.length_drop];omega)
    refine aF Tryz.func153 45 ?_
    conv=>whnf
    repeat' (first|exact trivial|((first|(refine ⟨fun hb=>?_,fun hb=>?_⟩<;>(try simp only [nrm] at hb)<;>try exact kZ hb)|refine kV ?_)<;>(conv=>whnf))|refine kY ?_ ?_)
    show List.take ((f : Int) + n - f).toNat (List.drop (f : Int).toNat b) = List.take n (List.drop f b)
    rw [show ((f : Int) + n - f).toNat = n by omega,Int.toNat_natCast]
 ·rw [if_pos c1]
  refine aF Tryz.func153 45 ?_
  exact fD0
end Go.Proofs.YtaecchphjploaaaGreat
