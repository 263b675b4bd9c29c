/- bytes.GetUint, bytes.GetBlob; readers, plain. -/
import Derived.Test.YtaecchphjploaaaGreatGj
import Derived.Test.YtaecchphjploaaaGreatGd
set_option linter.unusedSimpArgs false
set_option linter.unusedVariables false
set_option maxRecDepth 100000
set_option maxHeartbeats 16000000
namespace Go.Proofs.YtaecchphjploaaaGreat
open Go Go.RowKit Eng
structure Rd where
 pos : Nat
 bad : Bool
def cJ (b : List Int) (most : Nat) (s : Rd) : Nat × Rd:=
 if s.bad = true then (0,s) else match dB 9 (b.drop s.pos) with
  | some (n,k)=>if n ≤ most then (n,⟨s.pos + k,false⟩) else (0,⟨s.pos,true⟩)
  | none=>(0,⟨s.pos,true⟩)
theorem ql {b : List Int} {most : Nat} {s : Rd} (h : s.bad = true) : cJ b most s = (0,s):=if_pos h
theorem mZ {b : List Int} {s : Rd} {n most : Nat} {r : List Int} (hs : s.bad = false) (hb : b.drop s.pos = aj n ++ r) (hn : n ≤ most) (hm : most < 2 * 128 ^ 9) :
  cJ b most s = (n,⟨s.pos + (aj n).length,false⟩) ∧ b.drop (s.pos + (aj n).length) = r:=by
 have h1:=rq 9 n r (by omega)
 constructor
 ·unfold cJ
  rw [if_neg (by rw [hs];simp),hb]
  show (match dB 9 (aC 9 n ++ r) with
   | some (n,k)=>if n ≤ most then (n,(⟨s.pos + k,false⟩ : Rd)) else (0,⟨s.pos,true⟩)
   | none=>(0,⟨s.pos,true⟩)) = _
  rw [h1]
  exact if_pos hn
 ·rw [← List.drop_drop,hb,List.drop_left]
theorem ot {l : List Int} (h : au l) (k : Nat) : au (l.drop k):=fun i hi=>h i (List.mem_of_mem_drop hi)
theorem tE {b : List Int} (hb : au b) {s s' : Rd} {n most : Nat} (hp : s.pos ≤ b.length) (h : cJ b most s = (n,s')) (hbad : s'.bad = false) :
  s.bad = false ∧ n ≤ most ∧ n < 2 * 128 ^ 9 ∧ b.drop s.pos = aj n ++ b.drop s'.pos ∧ s'.pos = s.pos + (aj n).length ∧ s'.pos ≤ b.length:=by
 unfold cJ at h
 by_cases hs : s.bad = true
 ·rw [if_pos hs] at h
  cases h
  rw [hs] at hbad;cases hbad
 ·rw [if_neg hs] at h
  cases hg : dB 9 (b.drop s.pos) with
  | none =>
   rw [hg] at h
   have h2 : (⟨s.pos,true⟩ : Rd) = s':=(Prod.mk.inj h).2
   rw [← h2] at hbad;cases hbad
  | some p =>
   obtain ⟨m,k⟩:=p
   rw [hg] at h
   obtain ⟨h3,h4,h5,h6⟩:=jK 9 (b.drop s.pos) m k (ot hb _) hg
   change (if m ≤ most then (m,(⟨s.pos + k,false⟩ : Rd)) else (0,⟨s.pos,true⟩)) = (n,s') at h
   by_cases hm : m ≤ most
   ·rw [if_pos hm] at h
    obtain ⟨rfl,rfl⟩:=Prod.mk.inj h
    refine ⟨by simpa using hs,hm,h6,?_,by show s.pos + k = _;rw [h4];rfl,?_⟩
    ·show b.drop s.pos = aC 9 m ++ b.drop (s.pos + k)
     rw [← h3,← List.drop_drop,List.take_append_drop]
    ·show s.pos + k ≤ b.length
     rw [List.length_drop] at h5;omega
   ·rw [if_neg hm] at h
    have h2 : (⟨s.pos,true⟩ : Rd) = s':=(Prod.mk.inj h).2
    rw [← h2] at hbad;cases hbad
open Go Go.RowKit Eng
structure jy {α : Type} (b : List Int) (f : Rd → α × Rd) (enc : α → List Int) (ok : α → Prop) : Prop where
 stays : ∀ s,s.bad = true → (f s).2.bad = true
 write : ∀ s x r,s.bad = false → ok x → b.drop s.pos = enc x ++ r → f s = (x,⟨s.pos + (enc x).length,false⟩)
 read : ∀ s,s.pos ≤ b.length → (f s).2.bad = false → s.bad = false ∧ b.drop s.pos = enc (f s).1 ++ b.drop (f s).2.pos ∧ (f s).2.pos = s.pos + (enc (f s).1).length ∧ (f s).2.pos ≤ b.length ∧ ok (f s).1
def ac (b : List Int) (most : Nat) (s : Rd) : Int × Rd:=(((cJ b most s).1 : Int),(cJ b most s).2)
theorem iY {b : List Int} (hb : au b) {most : Nat} (hm : most < 2 * 128 ^ 9) : jy b (ac b most) (fun z=>aj z.toNat) (fun z=>0 ≤ z ∧ z ≤ most):=by
 refine ⟨fun s h=>?_,fun s x r hs hx hd=>?_,fun s hp h=>?_⟩
 ·show (cJ b most s).2.bad = true
  rw [ql h];exact h
 ·obtain ⟨h1,_⟩:=mZ hs hd (show x.toNat ≤ most by omega) hm
  unfold ac
  rw [h1]
  show (((x.toNat : Nat) : Int),_) = _
  rw [Int.toNat_of_nonneg hx.1]
 ·obtain ⟨h1,h2,h3,h4,h5,h6⟩:=tE hb (n:=(cJ b most s).1) (s':=(cJ b most s).2) hp rfl h
  refine ⟨h1,?_,?_,h6,by show 0 ≤ (((cJ b most s).1 : Nat) : Int);omega,by show (((cJ b most s).1 : Nat) : Int) ≤ most;omega⟩
  ·show b.drop s.pos = aj (((cJ b most s).1 : Nat) : Int).toNat ++ _
   rw [Int.toNat_natCast];exact h4
  ·show _ = s.pos + (aj (((cJ b most s).1 : Nat) : Int).toNat).length
   rw [Int.toNat_natCast];exact h5
theorem tF {α β γ : Type} {b : List Int} {f : Rd → α × Rd} {g : Rd → β × Rd} {e1 : α → List Int} {e2 : β → List Int} {o1 : α → Prop} {o2 : β → Prop} (hf : jy b f e1 o1) (hg : jy b g e2 o2)
  (mk : α → β → γ) (p1 : γ → α) (p2 : γ → β) (hmk : ∀ z,mk (p1 z) (p2 z) = z) (h1 : ∀ x y,p1 (mk x y) = x) (h2 : ∀ x y,p2 (mk x y) = y) :
  jy b (fun s=>(mk (f s).1 (g (f s).2).1,(g (f s).2).2)) (fun z=>e1 (p1 z) ++ e2 (p2 z)) (fun z=>o1 (p1 z) ∧ o2 (p2 z)):=by
 refine ⟨fun s h=>hg.stays _ (hf.stays _ h),fun s z r hs hz hd=>?_,fun s hp h=>?_⟩
 ·rw [List.append_assoc] at hd
  have a1:=hf.write s (p1 z) _ hs hz.1 hd
  have a2:=hg.write ⟨s.pos + (e1 (p1 z)).length,false⟩ (p2 z) r rfl hz.2 (by show b.drop (s.pos + (e1 (p1 z)).length) = _;rw [← List.drop_drop,hd,List.drop_left])
  rw [a1,a2,hmk,List.length_append,Nat.add_assoc]
 ·have hb1 : (f s).2.bad = false:=by
   cases hx : (f s).2.bad with
   | false=>rfl
   | true =>
    have h3 : (g (f s).2).2.bad = true:=hg.stays _ hx
    have h4 : (g (f s).2).2.bad = false:=h
    rw [h3] at h4;cases h4
  obtain ⟨a1,a2,a3,a4,a5⟩:=hf.read s hp hb1
  obtain ⟨c1,c2,c3,c4,c5⟩:=hg.read (f s).2 a4 h
  dsimp only
  rw [h1,h2]
  refine ⟨a1,?_,?_,c4,a5,c5⟩
  ·rw [a2,c2,List.append_assoc]
  ·rw [c3,a3,List.length_append,Nat.add_assoc]
def ao {α : Type} (f : Rd → α × Rd) : Nat → Rd → List α × Rd
 | 0,s=>([],s)
 | n + 1,s=>if s.bad = true then ([],s) else ((f s).1 :: (ao f n (f s).2).1,(ao f n (f s).2).2)
theorem cA {α : Type} {f : Rd → α × Rd} : ∀ (n : Nat) (s : Rd),s.bad = true → ao f n s = ([],s)
 | 0,_,_=>rfl
 | _ + 1,_,h=>if_pos h
theorem rE {α : Type} {b : List Int} {f : Rd → α × Rd} {enc : α → List Int} {ok : α → Prop} (hf : jy b f enc ok) : ∀ (l : List α) (s : Rd) (r : List Int),s.bad = false → (∀ x ∈ l,ok x) → b.drop s.pos = l.flatMap enc ++ r → ao f l.length s = (l,⟨s.pos + (l.flatMap enc).length,false⟩):=by
 intro l
 induction l with
 | nil=>intro s r hs _ _;cases s;cases hs;rfl
 | cons x t ih =>
  intro s r hs ho hd
  rw [List.flatMap_cons,List.append_assoc] at hd
  have a1:=hf.write s x _ hs (ho x (List.mem_cons_self ..)) hd
  have a2:=ih ⟨s.pos + (enc x).length,false⟩ r rfl (fun y hy=>ho y (List.mem_cons_of_mem _ hy)) (by show b.drop (s.pos + (enc x).length) = _;rw [← List.drop_drop,hd,List.drop_left])
  show (if s.bad = true then ([],s) else ((f s).1 :: (ao f t.length (f s).2).1,(ao f t.length (f s).2).2)) = _
  rw [if_neg (by rw [hs];simp),a1,a2,List.flatMap_cons,List.length_append,Nat.add_assoc]
theorem tG {α : Type} {b : List Int} {f : Rd → α × Rd} {enc : α → List Int} {ok : α → Prop} (hf : jy b f enc ok) : ∀ (n : Nat) (s : Rd),s.pos ≤ b.length → (ao f n s).2.bad = false → s.bad = false ∧ (ao f n s).1.length = n ∧ b.drop s.pos = (ao f n s).1.flatMap enc ++ b.drop (ao f n s).2.pos ∧ (ao f n s).2.pos = s.pos + ((ao f n s).1.flatMap enc).length ∧ (ao f n s).2.pos ≤ b.length ∧ ∀ x ∈ (ao f n s).1,ok x:=by
 intro n
 induction n with
 | zero=>intro s hp h;exact ⟨h,rfl,rfl,rfl,hp,fun x hx=>by cases hx⟩
 | succ n ih =>
  intro s hp h
  by_cases hs : s.bad = true
  ·rw [cA (n + 1) s hs] at h
   rw [hs] at h;cases h
  ·have e : ao f (n + 1) s = ((f s).1 :: (ao f n (f s).2).1,(ao f n (f s).2).2):=if_neg hs
   rw [e] at h ⊢
   have hb1 : (f s).2.bad = false:=by
    cases hx : (f s).2.bad with
    | false=>rfl
    | true =>
     have h3:=cA (f:=f) n (f s).2 hx
     have h4 : (ao f n (f s).2).2.bad = false:=h
     rw [h3,hx] at h4;cases h4
   obtain ⟨a1,a2,a3,a4,a5⟩:=hf.read s hp hb1
   obtain ⟨_,c1,c2,c3,c4,c5⟩:=ih (f s).2 a4 h
   dsimp only
   rw [List.flatMap_cons]
   refine ⟨by simpa using hs,by rw [List.length_cons,c1],?_,?_,c4,fun x hx=>?_⟩
   ·rw [a2,c2,List.append_assoc]
   ·rw [c3,a3,List.length_append,Nat.add_assoc]
   ·rcases List.mem_cons.1 hx with rfl|hx
    ·exact a5
    ·exact c5 x hx
open Go Go.RowKit Eng
def bv (b : List Int) (s : Rd) : aG × Rd:=(⟨(ac b 255 s).1,(ac b 1000 (ac b 255 s).2).1⟩,(ac b 1000 (ac b 255 s).2).2)
theorem jp {b : List Int} (hb : au b) : jy b (bv b) a_ (fun s=>(0 ≤ s.item ∧ s.item ≤ 255) ∧ (0 ≤ s.n ∧ s.n ≤ 1000)):=by
 have h:=tF (iY hb (most:=255) (by decide)) (iY hb (most:=1000) (by decide)) aG.mk aG.item aG.n (fun _=>rfl) (fun _ _=>rfl) (fun _ _=>rfl)
 have e : (fun z : aG=>aj z.item.toNat ++ aj z.n.toNat) = a_:=by
  funext z;unfold a_ an;simp
 rw [e] at h
 exact h
def ef (b : List Int) (s : Rd) : c_ × Rd:=(⟨(ac b 1000 s).1,(bv b (ac b 1000 s).2).1⟩,(bv b (ac b 1000 s).2).2)
theorem tH {b : List Int} (hb : au b) : jy b (ef b) cg (fun h=>(0 ≤ h.cell ∧ h.cell ≤ 1000) ∧ (0 ≤ h.slot.item ∧ h.slot.item ≤ 255) ∧ (0 ≤ h.slot.n ∧ h.slot.n ≤ 1000)):=by
 have h:=tF (iY hb (most:=1000) (by decide)) (jp hb) c_.mk c_.cell c_.slot (fun _=>rfl) (fun _ _=>rfl) (fun _ _=>rfl)
 have e : (fun z : c_=>aj z.cell.toNat ++ a_ z.slot) = cg:=by
  funext z;unfold a_ cg an;simp
 rw [e] at h
 exact h
def aO {α : Type} (f : Rd → α × Rd) : Nat → Rd → List α × Rd
 | 0,s=>([],s)
 | n + 1,s=>((f s).1 :: (aO f n (f s).2).1,(aO f n (f s).2).2)
theorem tI {α : Type} {b : List Int} {f : Rd → α × Rd} {enc : α → List Int} {ok : α → Prop} (hf : jy b f enc ok) : ∀ (n : Nat) (s : Rd),s.bad = true → (aO f n s).2.bad = true
 | 0,_,h=>h
 | n + 1,s,h=>tI hf n (f s).2 (hf.stays s h)
theorem wi {α : Type} {b : List Int} {f : Rd → α × Rd} {enc : α → List Int} {ok : α → Prop} (hf : jy b f enc ok) : ∀ (n : Nat) (s : Rd),(aO f n s).2.bad = false → aO f n s = ao f n s
 | 0,_,_=>rfl
 | n + 1,s,h=>by
  have hs : s.bad = false:=by
   cases hx : s.bad with
   | false=>rfl
   | true =>
    have h2:=tI hf (n + 1) s hx
    rw [h2] at h;cases h
  have ih:=wi hf n (f s).2 h
  show ((f s).1 :: (aO f n (f s).2).1,(aO f n (f s).2).2) = (if s.bad = true then ([],s) else ((f s).1 :: (ao f n (f s).2).1,(ao f n (f s).2).2))
  rw [if_neg (by rw [hs];simp),ih]
theorem wj {α : Type} {b : List Int} {f : Rd → α × Rd} {enc : α → List Int} {ok : α → Prop} (hf : jy b f enc ok) : ∀ (n : Nat) (s : Rd),(ao f n s).2.bad = false → aO f n s = ao f n s
 | 0,_,_=>rfl
 | n + 1,s,h=>by
  by_cases hs : s.bad = true
  ·rw [cA (n + 1) s hs,hs] at h;cases h
  ·have e : ao f (n + 1) s = ((f s).1 :: (ao f n (f s).2).1,(ao f n (f s).2).2):=if_neg hs
   rw [e] at h ⊢
   have ih:=wj hf n (f s).2 h
   show ((f s).1 :: (aO f n (f s).2).1,(aO f n (f s).2).2) = _
   rw [ih]
open Go Go.RowKit Eng
def bm (b : List Int) : List Int → Nat → Rd → List Box × Rd
 | [],_,s=>([],s)
 | i :: r,k,s=>if i = 9 ∧ s.bad = false then ((⟨k,(aO (bv b) 6 s).1⟩ : Box) :: (bm b r (k + 1) (aO (bv b) 6 s).2).1,(bm b r (k + 1) (aO (bv b) 6 s).2).2) else bm b r (k + 1) s
theorem gx (b : List Int) : ∀ (l : List Int) (k : Nat) (s : Rd),s.bad = true → bm b l k s = ([],s)
 | [],_,_,_=>rfl
 | i :: r,k,s,h=>by
  have e : bm b (i :: r) k s = bm b r (k + 1) s:=if_neg fun e=>by rw [h] at e;exact Bool.noConfusion e.2
  rw [e];exact gx b r (k + 1) s h
def mu (l : List aG) : Prop:=∀ x ∈ l,(0 ≤ x.item ∧ x.item ≤ 255) ∧ (0 ≤ x.n ∧ x.n ≤ 1000)
theorem xh {b : List Int} (hb : au b) : ∀ (l : List Int) (k : Nat) (bs : List Box) (s : Rd) (r : List Int),s.bad = false → bC l k bs = some [] → (∀ x ∈ bs,mu x.bag) → b.drop s.pos = bs.flatMap cR ++ r → bm b l k s = (bs,⟨s.pos + (bs.flatMap cR).length,false⟩):=by
 intro l
 induction l with
 | nil =>
  intro k bs s r hs hg _ _
  have h0 : bs = []:=by simpa [bC] using hg
  subst h0
  cases s;cases hs;rfl
 | cons i t ih =>
  intro k bs s r hs hg hgd hd
  unfold bC at hg
  by_cases h1 : dz i = true
  ·rw [if_pos h1] at hg
   by_cases h2 : i = 9
   ·rw [if_pos h2] at hg
    cases bs with
    | nil=>cases hg
    | cons x bs =>
     dsimp only at hg
     by_cases h3 : d9 x k = true
     ·rw [if_pos h3] at hg
      simp only [d9,Bool.and_eq_true,beq_iff_eq,decide_eq_true_eq] at h3
      have hlen : x.bag.length = 6:=by omega
      rw [List.flatMap_cons,List.append_assoc] at hd
      have a1:=rE (jp hb) x.bag s _ hs (hgd x (List.mem_cons_self ..)) hd
      rw [hlen] at a1
      have a2:=wj (jp hb) 6 s (by rw [a1])
      rw [a1] at a2
      have a3:=ih (k + 1) bs ⟨s.pos + (cR x).length,false⟩ r rfl hg (fun y hy=>hgd y (List.mem_cons_of_mem _ hy)) (by show b.drop (s.pos + (cR x).length) = _;rw [← List.drop_drop,hd,List.drop_left])
      show (if i = 9 ∧ s.bad = false then _ else _) = _
      rw [if_pos ⟨h2,hs⟩,a2]
      change (_ :: (bm b t (k + 1) ⟨s.pos + (cR x).length,false⟩).1,(bm b t (k + 1) ⟨s.pos + (cR x).length,false⟩).2) = _
      rw [a3,List.flatMap_cons,List.length_append,Nat.add_assoc]
      have hx : (⟨(k : Int),x.bag⟩ : Box) = x:=by rw [← h3.1]
      show ((⟨(k : Int),x.bag⟩ : Box) :: bs,_) = _
      rw [hx]
     ·rw [if_neg h3] at hg;cases hg
   ·rw [if_neg h2] at hg
    have e : bm b (i :: t) k s = bm b t (k + 1) s:=if_neg fun e=>h2 e.1
    rw [e]
    exact ih (k + 1) bs s r hs hg hgd hd
  ·rw [if_neg h1] at hg;cases hg
theorem Ae {b : List Int} (hb : au b) : ∀ (l : List Int) (k : Nat) (s : Rd),s.pos ≤ b.length → (bm b l k s).2.bad = false → s.bad = false ∧ b.drop s.pos = (bm b l k s).1.flatMap cR ++ b.drop (bm b l k s).2.pos ∧ (bm b l k s).2.pos ≤ b.length ∧ (bm b l k s).2.pos = s.pos + ((bm b l k s).1.flatMap cR).length:=by
 intro l
 induction l with
 | nil=>intro k s hp h;exact ⟨h,rfl,hp,rfl⟩
 | cons i t ih =>
  intro k s hp h
  by_cases hc : i = 9 ∧ s.bad = false
  ·have e : bm b (i :: t) k s = ((⟨k,(aO (bv b) 6 s).1⟩ : Box) :: (bm b t (k + 1) (aO (bv b) 6 s).2).1,(bm b t (k + 1) (aO (bv b) 6 s).2).2):=if_pos hc
   rw [e] at h ⊢
   have hb1 : (aO (bv b) 6 s).2.bad = false:=by
    cases hx : (aO (bv b) 6 s).2.bad with
    | false=>rfl
    | true =>
     have h3:=gx b t (k + 1) _ hx
     have h4 : (bm b t (k + 1) (aO (bv b) 6 s).2).2.bad = false:=h
     rw [h3,hx] at h4;cases h4
   have e2:=wi (jp hb) 6 s hb1
   have hb2 : (ao (bv b) 6 s).2.bad = false:=by rw [← e2];exact hb1
   obtain ⟨a1,a2,a3,a4,a5,a6⟩:=tG (jp hb) 6 s hp hb2
   rw [← e2] at a2 a3 a4 a5 a6
   obtain ⟨_,c1,c2,c3⟩:=ih (k + 1) (aO (bv b) 6 s).2 a5 h
   dsimp only
   rw [List.flatMap_cons]
   refine ⟨a1,?_,c2,?_⟩
   ·rw [a3,c1,List.append_assoc];rfl
   ·rw [c3,a4,List.length_append,Nat.add_assoc];rfl
  ·have e : bm b (i :: t) k s = bm b t (k + 1) s:=if_neg hc
   rw [e] at h ⊢
   exact ih (k + 1) s hp h
open Go Go.RowKit Eng
def bf : Chunk:=⟨0,0,[],[],[]⟩
structure Em (b : List Int) where
 x : Int × Rd
 y : Int × Rd
 n : Int × Rd
 hs : List c_ × Rd
 bx : List Box × Rd
def aq (b : List Int) : Em b:=
 let x:=ac b 1000 ⟨0,false⟩
 let y:=ac b 1000 x.2
 let n:=ac b 1000 ⟨y.2.pos + 64,false⟩
 let hs:=ao (ef b) n.1.toNat n.2
 ⟨x,y,n,hs,bm b ((b.drop y.2.pos).take 64) 0 hs.2⟩
def dA (b : List Int) : Chunk:=⟨(aq b).x.1,(aq b).y.1,(b.drop (aq b).y.2.pos).take 64,(aq b).hs.1,(aq b).bx.1⟩
def bh (b : List Int) : Chunk × Int:=
 if (aq b).y.2.bad = true ∨ b.length - (aq b).y.2.pos < 64 then (bf,101)
 else if (aq b).bx.2.bad = true ∨ ¬ (aq b).bx.2.pos = b.length ∨ ar (dA b) = false then (bf,101)
 else (dA b,0)
theorem pE {b : List Int} (hb : au b) (h : (bh b).2 = 0) : aK (bh b).1 = b ∧ ar (bh b).1 = true:=by
 unfold bh at h ⊢
 by_cases c1 : (aq b).y.2.bad = true ∨ b.length - (aq b).y.2.pos < 64
 ·rw [if_pos c1] at h;cases h
 ·rw [if_neg c1] at h ⊢
  by_cases c2 : (aq b).bx.2.bad = true ∨ ¬ (aq b).bx.2.pos = b.length ∨ ar (dA b) = false
  ·rw [if_pos c2] at h;cases h
  ·rw [if_neg c2]
   have hr : ar (dA b) = true:=by
    cases hx : ar (dA b) with
    | true=>rfl
    | false=>exact absurd (.inr (.inr hx)) c2
   refine ⟨?_,hr⟩
   have n1:=iY hb (most:=1000) (by decide)
   have hyb : (aq b).y.2.bad = false:=by
    cases hx : (aq b).y.2.bad with
    | false=>rfl
    | true=>exact absurd (.inl hx) c1
   have hxb : (aq b).x.2.bad = false:=by
    cases hx : (aq b).x.2.bad with
    | false=>rfl
    | true =>
     have h3 : (aq b).y.2.bad = true:=n1.stays _ hx
     rw [h3] at hyb;cases hyb
   obtain ⟨_,x2,x3,x4,x5⟩:=n1.read ⟨0,false⟩ (Nat.zero_le _) hxb
   obtain ⟨_,y2,y3,y4,y5⟩:=n1.read (aq b).x.2 x4 hyb
   have hbb : (aq b).bx.2.bad = false:=by
    cases hx : (aq b).bx.2.bad with
    | false=>rfl
    | true=>exact absurd (.inl hx) c2
   have hhb : (aq b).hs.2.bad = false:=by
    cases hx : (aq b).hs.2.bad with
    | false=>rfl
    | true =>
     have h3:=gx b ((b.drop (aq b).y.2.pos).take 64) 0 (aq b).hs.2 hx
     have h4 : (bm b ((b.drop (aq b).y.2.pos).take 64) 0 (aq b).hs.2).2.bad = false:=hbb
     rw [h3,hx] at h4;cases h4
   have hnb : (aq b).n.2.bad = false:=by
    cases hx : (aq b).n.2.bad with
    | false=>rfl
    | true =>
     have h3:=cA (f:=ef b) (aq b).n.1.toNat (aq b).n.2 hx
     have h4 : (ao (ef b) (aq b).n.1.toNat (aq b).n.2).2.bad = false:=hhb
     rw [h3,hx] at h4;cases h4
   have hp64 : (aq b).y.2.pos + 64 ≤ b.length:=by
    have : ¬ b.length - (aq b).y.2.pos < 64:=fun e=>c1 (.inr e)
    omega
   obtain ⟨_,m2,m3,m4,m5⟩:=n1.read ⟨(aq b).y.2.pos + 64,false⟩ hp64 hnb
   obtain ⟨_,p1,p2,p3,p4,p5⟩:=tG (tH hb) (aq b).n.1.toNat (aq b).n.2 m4 hhb
   obtain ⟨_,q1,q2,q3⟩:=Ae hb ((b.drop (aq b).y.2.pos).take 64) 0 (aq b).hs.2 p4 hbb
   have hend : (aq b).bx.2.pos = b.length:=Decidable.not_not.1 fun e=>c2 (.inr (.inl e))
   have hnn : ((aq b).hs.1.length : Int) = (aq b).n.1:=by
    have h9 : (aq b).hs.1.length = (aq b).n.1.toNat:=p1
    have h8 : 0 ≤ (aq b).n.1:=m5.1
    omega
   have e0 : b = aj (aq b).x.1.toNat ++ (aj (aq b).y.1.toNat ++ ((b.drop (aq b).y.2.pos).take 64 ++ (aj (aq b).n.1.toNat ++ ((aq b).hs.1.flatMap cg ++ ((aq b).bx.1.flatMap cR ++ []))))):=by
    have z1 : b = aj (aq b).x.1.toNat ++ b.drop (aq b).x.2.pos:=(List.drop_zero (l:=b)).symm.trans x2
    have z2 : b.drop (aq b).x.2.pos = aj (aq b).y.1.toNat ++ b.drop (aq b).y.2.pos:=y2
    have z3 : b.drop (aq b).y.2.pos = (b.drop (aq b).y.2.pos).take 64 ++ b.drop ((aq b).y.2.pos + 64):=by rw [← List.drop_drop,List.take_append_drop]
    have z4 : b.drop ((aq b).y.2.pos + 64) = aj (aq b).n.1.toNat ++ b.drop (aq b).n.2.pos:=m2
    have z5 : b.drop (aq b).n.2.pos = (aq b).hs.1.flatMap cg ++ b.drop (aq b).hs.2.pos:=p2
    have z6 : b.drop (aq b).hs.2.pos = (aq b).bx.1.flatMap cR ++ b.drop (aq b).bx.2.pos:=q1
    have z7 : b.drop (aq b).bx.2.pos = []:=by rw [hend];exact List.drop_length
    rw [z7] at z6
    rw [z6] at z5
    rw [z5] at z4
    rw [z4] at z3
    exact z1.trans (congrArg _ (z2.trans (congrArg _ z3)))
   unfold aK dA
   dsimp only
   rw [hnn]
   refine Eq.trans ?_ e0.symm
   unfold an
   simp only [List.flatMap_cons,List.flatMap_nil,List.append_nil,List.append_assoc]
open Go Go.RowKit Eng
theorem cw {b P r : List Int} {s : Nat} (h : b.drop s = P ++ r) : b.drop (s + P.length) = r:=by rw [← List.drop_drop,h,List.drop_left]
theorem xj {c : Chunk} (hb : au (aK c)) (hr : ar c = true) (hi : ∀ h ∈ c.heaps,0 ≤ h.slot.item ∧ h.slot.item ≤ 255) (hj : ∀ x ∈ c.boxes,mu x.bag) : bh (aK c) = (c,0):=by
 have hr0:=hr
 unfold ar at hr
 rw [Bool.and_eq_true] at hr
 obtain ⟨hd,hr⟩:=hr
 unfold da at hd
 simp only [Bool.and_eq_true,decide_eq_true_eq] at hd
 obtain ⟨d1,d2,d3,d4,d5,d6⟩:=hd
 have hg : bC c.cells 0 c.boxes = some []:=by
  cases hx : bC c.cells 0 c.boxes with
  | none=>rw [hx] at hr;cases hr
  | some l =>
   cases l with
   | nil=>rfl
   | cons y t=>rw [hx] at hr;cases hr
 rw [hg] at hr
 have hh : ∀ h ∈ c.heaps,(0 ≤ h.cell ∧ h.cell ≤ 1000) ∧ (0 ≤ h.slot.item ∧ h.slot.item ≤ 255) ∧ (0 ≤ h.slot.n ∧ h.slot.n ≤ 1000):=fun h hm=>by
  have h1:=kG (dm (by simpa using hr) hm)
  exact ⟨by omega,hi h hm,by omega⟩
 have hcl : c.cells.length = 64:=by omega
 have n1:=iY hb (most:=1000) (by decide)
 have e0 : aK c = aj c.x.toNat ++ (aj c.y.toNat ++ (c.cells ++ (aj (c.heaps.length : Int).toNat ++ (c.heaps.flatMap cg ++ (c.boxes.flatMap cR ++ []))))):=by
  unfold aK an
  simp only [List.flatMap_cons,List.flatMap_nil,List.append_nil,List.append_assoc]
 generalize aK c = b at *
 have q1 : b.drop 0 = _:=List.drop_zero.trans e0
 have a1:=n1.write ⟨0,false⟩ c.x _ rfl ⟨d1,by omega⟩ q1
 have q2:=cw q1
 have a2:=n1.write ⟨0 + (aj c.x.toNat).length,false⟩ c.y _ rfl ⟨d2,by omega⟩ q2
 have q3:=cw q2
 have q4:=cw q3
 rw [hcl] at q4
 have a4:=n1.write ⟨0 + (aj c.x.toNat).length + (aj c.y.toNat).length + 64,false⟩ (c.heaps.length : Int) _ rfl ⟨by omega,by show (c.heaps.length : Int) ≤ 1000;omega⟩ q4
 have q5:=cw q4
 have a5:=rE (tH hb) c.heaps ⟨0 + (aj c.x.toNat).length + (aj c.y.toNat).length + 64 + (aj (c.heaps.length : Int).toNat).length,false⟩ _ rfl hh q5
 have q6:=cw q5
 have a6:=xh hb c.cells 0 c.boxes ⟨0 + (aj c.x.toNat).length + (aj c.y.toNat).length + 64 + (aj (c.heaps.length : Int).toNat).length + (c.heaps.flatMap cg).length,false⟩ [] rfl hg hj q6
 have hlen:=congrArg List.length e0
 simp only [List.length_append,List.length_nil,hcl] at hlen
 have kx : (aq b).x = (c.x,⟨0 + (aj c.x.toNat).length,false⟩):=a1
 have ky : (aq b).y = (c.y,⟨0 + (aj c.x.toNat).length + (aj c.y.toNat).length,false⟩):=by
  show ac b 1000 (aq b).x.2 = _
  rw [kx];exact a2
 have kn : (aq b).n = ((c.heaps.length : Int),⟨0 + (aj c.x.toNat).length + (aj c.y.toNat).length + 64 + (aj (c.heaps.length : Int).toNat).length,false⟩):=by
  show ac b 1000 ⟨(aq b).y.2.pos + 64,false⟩ = _
  rw [ky];exact a4
 have kh : (aq b).hs = (c.heaps,⟨0 + (aj c.x.toNat).length + (aj c.y.toNat).length + 64 + (aj (c.heaps.length : Int).toNat).length + (c.heaps.flatMap cg).length,false⟩):=by
  show ao (ef b) (aq b).n.1.toNat (aq b).n.2 = _
  rw [kn]
  show ao (ef b) (c.heaps.length : Int).toNat _ = _
  rw [Int.toNat_natCast];exact a5
 have kc : (b.drop (aq b).y.2.pos).take 64 = c.cells:=by
  rw [ky]
  show (b.drop (0 + (aj c.x.toNat).length + (aj c.y.toNat).length)).take 64 = _
  rw [q3,← hcl,List.take_left]
 have kb : (aq b).bx = (c.boxes,⟨0 + (aj c.x.toNat).length + (aj c.y.toNat).length + 64 + (aj (c.heaps.length : Int).toNat).length + (c.heaps.flatMap cg).length + (c.boxes.flatMap cR).length,false⟩):=by
  show bm b ((b.drop (aq b).y.2.pos).take 64) 0 (aq b).hs.2 = _
  rw [kc,kh];exact a6
 have kk : dA b = c:=by
  unfold dA
  rw [kc,kx,ky,kh,kb]
 unfold bh
 rw [kk,ky,kb,if_neg,if_neg]
 ·rintro (h|h|h)
  ·cases h
  ·exact h (by show 0 + (aj c.x.toNat).length + (aj c.y.toNat).length + 64 + (aj (c.heaps.length : Int).toNat).length + (c.heaps.flatMap cg).length + (c.boxes.flatMap cR).length = b.length;omega)
  ·rw [hr0] at h;cases h
 ·rintro (h|h)
  ·cases h
  ·change b.length - (0 + (aj c.x.toNat).length + (aj c.y.toNat).length) < 64 at h
   omega
open Go Go.RowKit Eng
theorem m8 : ∀ (f n : Nat),n < 2 * 128 ^ f → au (aC f n):=by
 intro f
 induction f with
 | zero =>
  intro n h i hi
  change i ∈ [(n : Int)] at hi
  rw [List.mem_singleton] at hi
  omega
 | succ f ih =>
  intro n h i hi
  rw [Nat.pow_succ] at h
  by_cases hn : n < 128
  ·rw [show aC (f + 1) n = [(n : Int)] from if_pos hn,List.mem_singleton] at hi
   omega
  ·rw [show aC (f + 1) n = ((n % 128 + 128 : Nat) : Int) :: aC f (n / 128) from if_neg hn] at hi
   rcases List.mem_cons.1 hi with hi|hi
   ·omega
   ·exact ih (n / 128) (by omega) i hi
theorem Fk {n : Nat} (h : n ≤ 1000) : au (aj n):=m8 9 n (Nat.lt_of_le_of_lt h (by decide))
theorem rF {l : List Int} (h : ∀ z ∈ l,z ≤ 1000) : au (an l):=fun i hi=>by
 obtain ⟨z,hz,hi⟩:=List.mem_flatMap.1 hi
 exact Fk (by have:=h z hz;omega) i hi
theorem dO {a b : List Int} (ha : au a) (hb : au b) : au (a ++ b):=fun i hi=>(List.mem_append.1 hi).elim (ha i) (hb i)
theorem iZ {α : Type} {l : List α} {f : α → List Int} (h : ∀ x ∈ l,au (f x)) : au (l.flatMap f):=fun i hi=>by
 obtain ⟨z,hz,hi⟩:=List.mem_flatMap.1 hi
 exact h z hz i hi
theorem tJ {c : Chunk} (hr : ar c = true) (hc : au c.cells) (hi : ∀ h ∈ c.heaps,0 ≤ h.slot.item ∧ h.slot.item ≤ 255) (hj : ∀ x ∈ c.boxes,mu x.bag) : au (aK c):=by
 unfold ar at hr
 rw [Bool.and_eq_true] at hr
 obtain ⟨hd,hr⟩:=hr
 unfold da at hd
 simp only [Bool.and_eq_true,decide_eq_true_eq] at hd
 obtain ⟨d1,d2,d3,d4,d5,d6⟩:=hd
 have hg : bC c.cells 0 c.boxes = some []:=by
  cases hx : bC c.cells 0 c.boxes with
  | none=>rw [hx] at hr;cases hr
  | some l =>
   cases l with
   | nil=>rfl
   | cons y t=>rw [hx] at hr;cases hr
 rw [hg] at hr
 unfold aK
 refine dO (dO (dO (dO (rF fun z hz=>?_) hc) (rF fun z hz=>?_)) (iZ fun h hm=>rF fun z hz=>?_)) (iZ fun x hx=>iZ fun s hs=>rF fun z hz=>?_)
 ·simp only [List.mem_cons,List.not_mem_nil,or_false] at hz
  rcases hz with rfl|rfl<;>omega
 ·rw [List.mem_singleton] at hz;omega
 ·have h1:=kG (dm (by simpa using hr) hm)
  have h2:=hi h hm
  simp only [List.mem_cons,List.not_mem_nil,or_false] at hz
  rcases hz with rfl|rfl|rfl<;>omega
 ·have h1:=hj x hx s hs
  simp only [List.mem_cons,List.not_mem_nil,or_false] at hz
  rcases hz with rfl|rfl<;>omega
open Go Go.RowKit Eng
def dR (b : List Int) (most : Nat) (s : Rd) : List Int × Rd:=
 if (cJ b most s).2.bad = true then ([],⟨s.pos,true⟩)
 else if b.length - (cJ b most s).2.pos < (cJ b most s).1 then ([],⟨s.pos,true⟩)
 else ((b.drop (cJ b most s).2.pos).take (cJ b most s).1,⟨(cJ b most s).2.pos + (cJ b most s).1,false⟩)
theorem tK {b : List Int} (hb : au b) {most : Nat} (hm : most < 2 * 128 ^ 9) : jy b (dR b most) (fun l=>aj l.length ++ l) (fun l=>l.length ≤ most):=by
 refine ⟨fun s h=>?_,fun s x r hs hx hd=>?_,fun s hp h=>?_⟩
 ·unfold dR
  rw [if_pos (by rw [ql h];exact h)]
 ·rw [List.append_assoc] at hd
  obtain ⟨h1,h2⟩:=mZ hs hd hx hm
  have hl:=congrArg List.length h2
  rw [List.length_drop,List.length_append] at hl
  unfold dR
  rw [h1]
  dsimp only
  rw [if_neg (by simp),if_neg (by omega),h2,List.take_left,List.length_append,Nat.add_assoc]
 ·unfold dR at h ⊢
  by_cases c1 : (cJ b most s).2.bad = true
  ·rw [if_pos c1] at h;cases h
  ·rw [if_neg c1] at h ⊢
   by_cases c2 : b.length - (cJ b most s).2.pos < (cJ b most s).1
   ·rw [if_pos c2] at h;cases h
   ·rw [if_neg c2]
    obtain ⟨a1,a2,a3,a4,a5,a6⟩:=tE hb (n:=(cJ b most s).1) (s':=(cJ b most s).2) hp rfl (by simpa using c1)
    have hlen : ((b.drop (cJ b most s).2.pos).take (cJ b most s).1).length = (cJ b most s).1:=by rw [List.length_take,List.length_drop];omega
    dsimp only
    rw [hlen]
    refine ⟨a1,?_,?_,by omega,a2⟩
    ·rw [a4,List.append_assoc,← List.drop_drop,List.take_append_drop]
    ·rw [List.length_append,hlen,a5,Nat.add_assoc]
open Go Go.RowKit Eng
open Go Go.RowKit Eng
def aH (x : Int) : Bool:=decide (x < 128)
def bU : List Int → Nat
 | []=>0
 | a :: r=>(a % 128).toNat + 128 * bU r
theorem jg {α : Type} (p : α → Bool) : ∀ (l : List α) (i : Nat),am p l (i + 1) = if am p l i < 0 then -1 else am p l i + 1
 | [],i=>by simp [am]
 | a :: r,i=>by
  unfold am
  by_cases h : p a = true
  ·rw [if_pos h,if_pos h,if_neg (by omega)];omega
  ·rw [if_neg h,if_neg h];exact jg p r (i + 1)
theorem fX {α : Type} (p : α → Bool) : ∀ (l : List α) (i : Nat),am p l i < i + l.length ∧ (0 ≤ am p l i → (i : Int) ≤ am p l i) ∧ -1 ≤ am p l i
 | [],i=>by simp [am];omega
 | a :: r,i=>by
  have:=fX p r (i + 1)
  unfold am
  rw [List.length_cons]
  by_cases h : p a = true
  ·rw [if_pos h];omega
  ·rw [if_neg h];omega
theorem m9 {t : Ty} (p : El t → Bool) : ∀ (l : List (El t)),0 ≤ am p l 0 → p (elt t l (am p l 0).toNat) = true
 | [],h=>by simp [am] at h
 | a :: r,h=>by
  by_cases hp : p a = true
  ·have e : am p (a :: r) 0 = 0:=by unfold am;rw [if_pos hp];rfl
   rw [e];exact hp
  ·have e : am p (a :: r) 0 = am p r (0 + 1):=by rw [am,if_neg hp]
   rw [jg] at e
   by_cases h2 : am p r 0 < 0
   ·rw [if_pos h2] at e;omega
   ·rw [if_neg h2] at e
    have:=m9 p r (by omega)
    rw [e,show (am p r 0 + 1).toNat = (am p r 0).toNat + 1 by omega]
    exact this
theorem wk : ∀ (l : List (El .u8)) (e : Nat),e < l.length → (0 : Int) < (elt .u8 l e) % 128 → 0 < bU (l.take (e + 1))
 | [],e,h,_=>by simp at h
 | a :: r,0,_,h=>by
  have h2 : (0 : Int) < a % 128:=h
  show 0 < (a % 128).toNat + 128 * bU (r.take 0)
  omega
 | a :: r,e + 1,h,h2=>by
  have:=wk r e (by simpa using h) h2
  show 0 < (a % 128).toNat + 128 * bU (r.take (e + 1))
  omega
theorem ou : ∀ (f : Nat) (l : List Int),dB f (l.take (f + 1)) = dB f l
 | 0,[]=>rfl
 | 0,a :: r=>rfl
 | f + 1,[]=>rfl
 | f + 1,a :: r=>by
  rw [List.take_succ_cons]
  show (if a < 128 then _ else match dB f (r.take (f + 1)) with|some (n,k)=>_|none=>_) = _
  rw [ou f r]
  rfl
theorem wl : ∀ (f : Nat) (l : List Int),au l → l.length ≤ f + 1 → dB f l =
  if am aH l 0 < 0 then none else if (0 < am aH l 0 ∧ @Eq Int (elt .u8 l (am aH l 0).toNat) 0) ∨ (am aH l 0 = f ∧ (1 : Int) < elt .u8 l (am aH l 0).toNat) then none
  else some (bU (l.take ((am aH l 0).toNat + 1)),(am aH l 0).toNat + 1):=by
 intro f
 induction f with
 | zero =>
  intro l hl hlen
  match l,hl,hlen with
  | [],_,_=>rfl
  | [b],hl,_ =>
   have hb:=hl b (List.mem_cons_self ..)
   by_cases h : b < 128
   ·have e : am aH [b] 0 = 0:=by unfold am;rw [if_pos (by simp [aH,h])];rfl
    rw [e,if_neg (by omega)]
    show (if b < 2 then some (b.toNat,1) else none) = (if ((0 : Int) < 0 ∧ b = 0) ∨ ((0 : Int) = (0 : Nat) ∧ 1 < b) then none else some ((b % 128).toNat + 128 * 0,1))
    by_cases h2 : b < 2
    ·rw [if_pos h2,if_neg (by omega),show (b % 128).toNat + 128 * 0 = b.toNat by omega]
    ·rw [if_neg h2,if_pos (by omega)]
   ·have e : am aH [b] 0 = -1:=by unfold am;rw [if_neg (by simp [aH];omega)];rfl
    rw [e,if_pos (by omega)]
    show (if b < 2 then some (b.toNat,1) else none) = none
    rw [if_neg (by omega)]
  | _ :: _ :: _,_,h=>simp at h
 | succ f ih =>
  intro l hl hlen
  match l,hl,hlen with
  | [],_,_=>rfl
  | b :: r,hl,hlen =>
   have hb:=hl b (List.mem_cons_self ..)
   by_cases h : b < 128
   ·have e : am aH (b :: r) 0 = 0:=by unfold am;rw [if_pos (by simp [aH,h])];rfl
    rw [e,if_neg (by omega),if_neg (by omega)]
    show (if b < 128 then some (b.toNat,1) else _) = some ((b % 128).toNat + 128 * 0,1)
    rw [if_pos h,show (b % 128).toNat + 128 * 0 = b.toNat by omega]
   ·have e : am aH (b :: r) 0 = am aH r (0 + 1):=by rw [am,if_neg (by simp [aH];omega)]
    rw [jg] at e
    have hr : au r:=fun i hi=>hl i (List.mem_cons_of_mem _ hi)
    have ih2:=ih r hr (by simpa using hlen)
    have hlt:=fX aH r 0
    show (if b < 128 then _ else match dB f r with|some (n,k)=>(if n = 0 then none else some ((b - 128).toNat + 128 * n,k + 1))|none=>none) = _
    rw [if_neg h,ih2]
    by_cases h2 : am aH r 0 < 0
    ·rw [if_pos h2] at e
     rw [if_pos h2,e,if_pos (by omega)]
    ·rw [if_neg h2] at e
     rw [if_neg h2]
     have ha : aH (elt .u8 r (am aH r 0).toNat) = true:=m9 (t:=.u8) aH r (by omega)
     have hm : elt .u8 r (am aH r 0).toNat ∈ r:=ay (t:=.u8) (l:=r) (i:=(am aH r 0).toNat) (by omega)
     have et : (am aH r 0 + 1).toNat = (am aH r 0).toNat + 1:=by omega
     have ee : @Eq Int (elt .u8 (b :: r) (am aH (b :: r) 0).toNat) (elt .u8 r (am aH r 0).toNat):=by rw [e,et];rfl
     rw [ee,e,et]
     rw [if_neg (show ¬ am aH r 0 + 1 < 0 by omega)]
     have hv:=wk r (am aH r 0).toNat (by omega)
     have hz : @Eq Int (elt .u8 r (am aH r 0).toNat) 0 → am aH r 0 = 0 → bU (r.take ((am aH r 0).toNat + 1)) = 0:=by
      intro q1 q2
      rw [q2] at q1 ⊢
      match r,q1 with
      | [],_=>rfl
      | a :: t,q1 =>
       have q3 : a = 0:=q1
       show (a % 128).toNat + 128 * 0 = 0
       omega
     obtain ⟨E,hE⟩ : ∃ E : Int,E = elt .u8 r (am aH r 0).toNat:=⟨_,rfl⟩
     rw [← hE] at ha hm hv hz ⊢
     clear hE ee
     have ha2 : E < 128:=by simpa [aH] using ha
     have hm2 : 0 ≤ E ∧ E ≤ 255:=hr _ hm
     show (match (if (0 < am aH r 0 ∧ E = 0) ∨ (am aH r 0 = (f : Int) ∧ 1 < E) then none else some (bU (r.take ((am aH r 0).toNat + 1)),(am aH r 0).toNat + 1)) with|some (n,k)=>(if n = 0 then none else some ((b - 128).toNat + 128 * n,k + 1))|none=>none) = (if (0 < am aH r 0 + 1 ∧ E = 0) ∨ (am aH r 0 + 1 = ((f + 1 : Nat) : Int) ∧ 1 < E) then none else some ((b % 128).toNat + 128 * bU (r.take ((am aH r 0).toNat + 1)),(am aH r 0).toNat + 1 + 1))
     generalize bU (r.take ((am aH r 0).toNat + 1)) = V at *
     by_cases c1 : (0 < am aH r 0 ∧ E = 0) ∨ (am aH r 0 = (f : Int) ∧ 1 < E)
     ·rw [if_pos c1,if_pos (by omega)]
     ·rw [if_neg c1]
      show (if V = 0 then none else some ((b - 128).toNat + 128 * V,(am aH r 0).toNat + 1 + 1)) = _
      by_cases c2 : E = 0
      ·rw [if_pos (hz c2 (by omega)),if_pos (by omega)]
      ·have hv2:=hv (show (0 : Int) < E % 128 by omega)
       rw [if_neg (by omega),if_neg (by omega),show (b - 128).toNat = (b % 128).toNat by omega]
theorem ow {l : List (El .u8)} {j : Nat} (h : j < l.length) : bU (l.drop j) = (@HMod.hMod Int Int Int _ (elt .u8 l j) 128).toNat + 128 * bU (l.drop (j + 1)):=by
 rw [bJ (t:=.u8) h];rfl
theorem yw (l : List (El .u8)) : ∀ j,bU (l.drop j) ≤ bU l
 | 0=>Nat.le_refl _
 | j + 1=>by
  by_cases h : j < l.length
  ·have:=yw l j
   have:=ow h
   omega
  ·rw [List.drop_of_length_le (by omega)];exact Nat.zero_le _
open Go Go.RowKit Eng
def FZ (x : Int) : Prop:=0 ≤ x ∧ x ≤ 255
theorem yx (x : Int) (h : FZ x) : Api Tryz.prog 180 [u8 x] (bol (aH x)):=by
 refine aF Tryz.func180 4 ?_
 exact fD0
theorem F0 (l : List (El .u8)) (hl : l.length ≤ big) (hw : ∀ s ∈ l,FZ s) : Api Tryz.prog 179 [.vec .u8 l,.lit (.func (.func 180) #[] #[])] (i64 (am aH l 0)):=by
 unfold big at hl
 refine aF Tryz.func179 17 ?_
 conv=>whnf
 refine aw.loopS aa (σ:=Nat) [0,1,7,8] (fun k=>[.vec .u8 l,.lit (.func (.func 180) #[] #[]),i64 l.length,i64 k]) (fun _=>[]) (fun k=>k ≤ l.length ∧ am aH (l.drop k) k = am aH l 0) (fun k=>l.length - k) 0 ⟨by omega,rfl⟩ ?_ ?_
 ·exact fD0
 ·intro k ⟨hk,he⟩
  by_cases hlt : k < l.length
  ·rw [bJ hlt] at he
   simp only [am] at he
   conv=>whnf
   repeat' (first|exact trivial|((first|refine kL ?_|(refine ⟨fun hb=>?_,fun hb=>?_⟩<;>(try simp only [nrm] at hb)<;>try exact kZ hb)|(refine isE 180 ?_;refine kA (yx _ (hw _ (fQ (by omega) (by omega)))) ?_)|(refine isD 180 ?_;refine kD (yx _ (hw _ (fQ (by omega) (by omega)))) ?_)|refine kV ?_)<;>(conv=>whnf))|refine kY ?_ ?_)
   ·simp only [aH,Bool.and_eq_true,Bool.or_eq_true,Bool.not_eq_true',Bool.and_eq_false_iff,Bool.or_eq_false_iff,decide_eq_true_eq,decide_eq_false_iff_not] at hb he
    rw [← he,if_pos hb]
   ·simp only [aH,Bool.and_eq_true,Bool.or_eq_true,Bool.not_eq_true',Bool.and_eq_false_iff,Bool.or_eq_false_iff,decide_eq_true_eq,decide_eq_false_iff_not] at hb
    refine .to (k + 1) ⟨hlt,?_⟩ (by omega) ?_
    ·rw [← he,if_neg (by simp only [aH,Bool.and_eq_true,Bool.or_eq_true,Bool.not_eq_true',Bool.and_eq_false_iff,Bool.or_eq_false_iff,decide_eq_true_eq,decide_eq_false_iff_not];first|omega|(simp [hb];done)|(simp_all;done))]
    ·exact fD0
  ·conv=>whnf
   repeat' (first|exact trivial|((first|(refine ⟨fun hb=>?_,fun hb=>?_⟩<;>(try simp only [nrm] at hb)<;>try exact kZ hb)|refine kV ?_)<;>(conv=>whnf))|refine kY ?_ ?_)
   have : k = l.length:=by omega
   subst this
   simp only [List.drop_length,am] at he
   rw [← he]
def qm (l : List Int) : Int:=if am aH (l.take 10) 0 < 0 ∧ (l.take 10).length < 10 then 11 else 10
def guN (b : List Int) (pos : Nat) : Nat × Nat × Int:=match dB 9 (b.drop pos) with
 | some (n,k)=>(n,pos + k,0)
 | none=>(0,0,qm (b.drop pos))
theorem m_ (b : List (El .u8)) (pos : Nat) (hb : au b) (hl : b.length ≤ 1000000000000) (hp : pos ≤ b.length) : Api Tryz.prog 152 [.vec .u8 b,i64 pos] (.tup [.lit (.int .u64 (guN b pos).1),i64 (guN b pos).2.1,i64 (guN b pos).2.2]):=by
 have hG:=ou 9 (b.drop pos)
 have hi:=wl 9 ((b.drop pos).take 10) (fun i hi=>hb i (List.mem_of_mem_drop (List.mem_of_mem_take hi))) (by rw [List.length_take];omega)
 rw [hG] at hi
 have hlt:=fX aH ((b.drop pos).take 10) 0
 have hat:=m9 (t:=.u8) aH ((b.drop pos).take 10)
 have hli:=F0 ((b.drop pos).take 10) (by unfold big;rw [List.length_take];omega) (fun i hi=>hb i (List.mem_of_mem_drop (List.mem_of_mem_take hi)))
 have hcut : (b.drop (pos : Int).toNat).take (min ((pos : Int) + 10) b.length - pos).toNat = (b.drop pos).take 10:=by
  rw [Int.toNat_natCast]
  by_cases h : pos + 10 ≤ b.length
  ·rw [show (min ((pos : Int) + 10) b.length - pos).toNat = 10 by omega]
  ·rw [List.take_of_length_le (by rw [List.length_drop];omega),List.take_of_length_le (by rw [List.length_drop];omega)]
 have hRl : ((b.drop pos).take 10).length = min 10 (b.length - pos):=by rw [List.length_take,List.length_drop]
 unfold guN qm
 generalize hL : (b.drop pos).take 10 = L at *
 have hLok : au L:=fun i hi=>hb i (by rw [← hL] at hi;exact List.mem_of_mem_drop (List.mem_of_mem_take hi))
 generalize hI : am aH L 0 = I at *
 by_cases c1 : I < 0
 ·rw [if_pos c1] at hi
  rw [hi]
  dsimp only
  by_cases c2 : L.length < 10
  ·rw [if_pos ⟨c1,c2⟩]
   refine aF Tryz.func152 78 ?_
   conv=>whnf
   repeat' (first|exact trivial|((first|refine kL ?_|(refine ⟨fun hb=>?_,fun hb=>?_⟩<;>(try simp only [nrm] at hb)<;>try exact kZ hb)|(rw [hcut])|refine kV ?_)<;>(conv=>whnf))|refine kY ?_ ?_)
  ·rw [if_neg fun h=>c2 h.2]
   refine aF Tryz.func152 78 ?_
   conv=>whnf
   repeat' (first|exact trivial|((first|refine kL ?_|(refine ⟨fun hb=>?_,fun hb=>?_⟩<;>(try simp only [nrm] at hb)<;>try exact kZ hb)|(rw [hcut])|refine kV ?_)<;>(conv=>whnf))|refine kY ?_ ?_)
 ·rw [if_neg c1] at hi
  obtain ⟨e,rfl⟩ : ∃ e : Nat,I = (e : Int):=⟨I.toNat,by omega⟩
  rw [Int.toNat_natCast] at hi
  have hm : elt .u8 L e ∈ L:=ay (t:=.u8) (by omega)
  obtain ⟨E,hE⟩ : ∃ E : Int,elt .u8 L (e : Int).toNat = E:=⟨_,rfl⟩
  have hE2 : elt .u8 L e = E:=hE
  rw [hE2] at hi hm
  have hEb:=hLok E hm
  by_cases c2 : (0 < (e : Int) ∧ E = 0) ∨ ((e : Int) = (9 : Nat) ∧ 1 < E)
  ·rw [if_pos c2] at hi
   rw [hi,if_neg fun h=>c1 h.1]
   dsimp only
   refine aF Tryz.func152 78 ?_
   conv=>whnf
   repeat' (first|exact trivial|((first|refine kL ?_|(refine ⟨fun hb=>?_,fun hb=>?_⟩<;>(try simp only [nrm] at hb)<;>try exact kZ hb)|(rw [hcut])|(rw [hE])|refine kV ?_)<;>(conv=>whnf))|refine kY ?_ ?_)
  ·rw [if_neg c2] at hi
   rw [hi]
   dsimp only
   have hV:=(jK 9 (b.drop pos) _ _ (ot hb _) hi).2.2.2
   replace hV : bU (L.take (e + 1)) < 18446744073709551616:=hV
   clear hi hG hat
   generalize hD : L.take (e + 1) = D at *
   have hDl : D.length = e + 1:=by rw [← hD,List.length_take];omega
   refine aF Tryz.func152 78 ?_
   conv=>whnf
   repeat' (first|exact trivial|((first|refine kL ?_|(refine ⟨fun hb=>?_,fun hb=>?_⟩<;>(try simp only [nrm] at hb)<;>try exact kZ hb)|(rw [hcut])|(rw [hE])|refine kV ?_)<;>(conv=>whnf))|refine kY ?_ ?_)
   all_goals
    refine aw.loopS aa (σ:=Nat) [1,7,8,9,59,60] (fun i=>[i64 pos,.vec .u8 L,i64 e,.lit (.int .u64 (bU (D.drop (e + 1 - i)) : Nat)),i64 (e + 1),i64 i]) (fun _=>[]) (fun i=>i ≤ e + 1) (fun i=>e + 1 - i) 0 (by omega) ?_ ?_
    ·conv=>whnf
     repeat' (first|exact trivial|((first|(refine ⟨fun hb=>?_,fun hb=>?_⟩<;>(try simp only [nrm] at hb)<;>try exact kZ hb)|refine kV ?_)<;>(conv=>whnf))|refine kY ?_ ?_)
     rw [List.drop_of_length_le (by omega)];rfl
    ·intro i hi
     by_cases hlt2 : i < e + 1
     ·obtain ⟨F,hF⟩ : ∃ F : Int,elt .u8 L ((e : Int) - (i : Int)).toNat = F:=⟨_,rfl⟩
      have hFm : 0 ≤ F ∧ F ≤ 255:=by rw [← hF];exact hLok _ (ay (t:=.u8) (by omega))
      have hd:=ow (l:=D) (j:=e - i) (by omega)
      have hF2 : elt .u8 D (e - i) = F:=by
       rw [← hF,← hD,show ((e : Int) - (i : Int)).toNat = e - i by omega]
       have h1:=aL .u8 (L.take (e + 1)) (e - i) (by rw [hD];omega)
       rw [List.getElem?_take,if_pos (by omega),aL .u8 L (e - i) (by omega)] at h1
       exact (Option.some.inj h1).symm
      have hle:=yw D (e - i)
      rw [hd,hF2,show e - i + 1 = e + 1 - i by omega] at hle
      rw [hF2,show e - i + 1 = e + 1 - i by omega] at hd
      generalize bU (D.drop (e + 1 - i)) = V at *
      conv=>whnf
      repeat' (first|exact trivial|((first|refine kL ?_|(refine ⟨fun hb=>?_,fun hb=>?_⟩<;>(try simp only [nrm] at hb)<;>try exact kZ hb)|(rw [hF])|refine kV ?_)<;>(conv=>whnf))|refine kY ?_ ?_)
      refine .to (i + 1) (by omega) (by omega) ?_
      conv=>whnf
      repeat' (first|exact trivial|((first|(refine ⟨fun hb=>?_,fun hb=>?_⟩<;>(try simp only [nrm] at hb)<;>try exact kZ hb)|refine kV ?_)<;>(conv=>whnf))|refine kY ?_ ?_)
      rw [show e + 1 - (i + 1) = e - i by omega,hd]
      refine congrArg (Value.int _) ?_
      omega
     ·obtain rfl : i = e + 1:=by omega
      rw [Nat.sub_self,List.drop_zero]
      exact fD0
open Go Go.RowKit Eng
theorem Ch (l : List (El .u8)) (hl : l.length * 1 ≤ 140737488355328) : Api Tryz.prog 181 [.vec .u8 l] (.vec .u8 l):=by
 refine aF Tryz.func181 7 ?_
 exact fD0
theorem fY {b : List Int} (hb : au b) {pos : Nat} (hp : pos ≤ b.length) : (guN b pos).2.1 ≤ b.length ∧ (guN b pos).1 < 18446744073709551616:=by
 unfold guN
 cases hg : dB 9 (b.drop pos) with
 | none=>exact ⟨Nat.zero_le _,by show 0 < _;omega⟩
 | some p =>
  obtain ⟨n,k⟩:=p
  obtain ⟨_,_,h3,h4⟩:=jK 9 _ _ _ (ot hb _) hg
  rw [List.length_drop] at h3
  exact ⟨by show pos + k ≤ _;omega,h4⟩
def gbN (b : List Int) (pos most : Nat) : List (El .u8) × Nat × Int:=
 if ¬ (guN b pos).2.2 = 0 then ([],0,(guN b pos).2.2)
 else if most < (guN b pos).1 then ([],0,3)
 else if b.length - (guN b pos).2.1 < (guN b pos).1 then ([],0,11)
 else ((b.drop (guN b pos).2.1).take (guN b pos).1,(guN b pos).2.1 + (guN b pos).1,0)
theorem DW (b : List (El .u8)) (pos most : Nat) (hb : au b) (hl : b.length ≤ 1000000000000) (hp : pos ≤ b.length) (hm : most ≤ 1000000000000) : Api Tryz.prog 153 [.vec .u8 b,i64 pos,i64 most] (.tup [.vec .u8 (gbN b pos most).1,i64 (gbN b pos most).2.1,i64 (gbN b pos most).2.2]):=by
 have hu:=m_ b pos hb hl hp
 obtain ⟨h1,h2⟩:=fY hb hp
 unfold gbN
 generalize guN b pos = G at *
 obtain ⟨n,f,e⟩:=G
 dsimp only at *
 by_cases c1 : e = 0
 ·rw [if_neg fun h=>h c1]
  subst c1
  by_cases c2 : most < n
  ·rw [if_pos c2]
   refine aF Tryz.func153 45 ?_
   exact fD0
  ·rw [if_neg c2]
   by_cases c3 : b.length - f < n
   ·rw [if_pos c3]
    refine aF Tryz.func153 45 ?_
    exact fD0
   ·rw [if_neg c3]
    have hc:=Ch ((b.drop (f : Int).toNat).take (((f : Int) + n) - f).toNat) (by rw [List.length_take,List.length_drop];omega)
    refine aF Tryz.func153 45 ?_
    conv=>whnf
    repeat' (first|exact trivial|((first|(refine ⟨fun hb=>?_,fun hb=>?_⟩<;>(try simp only [nrm] at hb)<;>try exact kZ hb)|refine kV ?_)<;>(conv=>whnf))|refine kY ?_ ?_)
    show List.take ((f : Int) + n - f).toNat (List.drop (f : Int).toNat b) = List.take n (List.drop f b)
    rw [show ((f : Int) + n - f).toNat = n by omega,Int.toNat_natCast]
 ·rw [if_pos c1]
  refine aF Tryz.func153 45 ?_
  exact fD0
end Go.Proofs.YtaecchphjploaaaGreat
