/- What right chunks, players and worlds give. -/
import Derived.Test.YtaecchphjploaaaGreatGe
import Derived.Test.YtaecchphjploaaaGreatGj
import Derived.Test.YtaecchphjploaaaGreatGd
import Derived.Test.YtaecchphjploaaaGreatGc
import Derived.Test.YtaecchphjploaaaGreatGg
import Derived.Test.YtaecchphjploaaaGreatGi
set_option linter.unusedSimpArgs false
set_option linter.unusedVariables false
set_option maxRecDepth 100000
set_option maxHeartbeats 16000000
namespace Go.Proofs.YtaecchphjploaaaGreat
open Go Go.RowKit Eng
open Go Go.RowKit Eng
def gS : List Box → Int → Option (List aG)
 | [],_=>none
 | b :: r,t=>if b.cell = t then some b.bag else gS r t
theorem tg {l : List Box} {t : Int} : gS l t = none ↔ ∀ b ∈ l,b.cell ≠ t:=by
 induction l with
 | nil=>simp [gS]
 | cons b r ih =>
  simp only [gS,List.mem_cons,forall_eq_or_imp]
  split
  ·rename_i h;simp [h]
  ·rename_i h;rw [ih];exact ⟨fun h2=>⟨h,h2⟩,fun h2=>h2.2⟩
theorem DD {l : List Box} {t : Int} {s : List aG} (h : gS l t = some s) : ∃ b ∈ l,b.cell = t ∧ b.bag = s:=by
 induction l with
 | nil=>simp [gS] at h
 | cons b r ih =>
  simp only [gS] at h
  split at h
  ·rename_i hb;exact ⟨b,by simp,hb,by simpa using h⟩
  ·obtain ⟨b',h1,h2⟩:=ih h;exact ⟨b',by simp [h1],h2⟩
def vS (s : List aG) : Bool:=decide ((s.length : Int) = 6) && cn s
structure DE (l : List Int) (k : Nat) (bs : List Box) : Prop where
 items : ∀ i ∈ l,dz i = true
 up : rises bs
 bags : ∀ b ∈ bs,(k : Int) ≤ b.cell ∧ b.cell < k + l.length ∧ vS b.bag = true
 chest : ∀ j < l.length,(l.getD j 0 = 9 ↔ (gS bs ((k : Int) + j)).isSome = true)
theorem mT : ∀ (l : List Int) (k : Nat) (bs : List Box),bC l k bs = some [] ↔ DE l k bs
 | [],k,bs=>by
  simp only [bC,Option.some.injEq]
  constructor
  ·rintro rfl;exact ⟨by simp,trivial,by simp,by simp⟩
  ·intro h
   cases bs with
   | nil=>rfl
   | cons b bs=>have:=h.bags b (by simp);simp only [List.length_nil] at this;omega
 | i :: r,k,bs=>by
  simp only [bC]
  by_cases hi : dz i = true
  ·rw [if_pos hi]
   by_cases h9 : i = 9
   ·rw [if_pos h9]
    cases bs with
    | nil =>
     simp only [reduceCtorEq,false_iff]
     intro h
     have:=(h.chest 0 (by simp)).1 (by simpa using h9)
     simp [gS] at this
    | cons b bs =>
     simp only
     by_cases hb : d9 b k = true
     ·rw [if_pos hb,mT r (k + 1) bs]
      simp only [d9,Bool.and_eq_true,beq_iff_eq] at hb
      have hbg : vS b.bag = true:=by unfold vS;rw [hb.2.1,hb.2.2];rfl
      constructor
      ·intro h
       refine ⟨fun x hx=>?_,⟨fun x hx=>?_,h.up⟩,fun x hx=>?_,fun j hj=>?_⟩
       ·rcases List.mem_cons.1 hx with rfl|hx
        ·exact hi
        ·exact h.items x hx
       ·have:=h.bags x hx;omega
       ·rcases List.mem_cons.1 hx with rfl|hx
        ·refine ⟨by omega,by simp only [List.length_cons];omega,hbg⟩
        ·have:=h.bags x hx;refine ⟨by omega,by simp only [List.length_cons];omega,this.2.2⟩
       ·cases j with
        | zero=>simp only [gS];rw [if_pos (by omega)];simp [h9]
        | succ j =>
         have:=h.chest j (by simpa using hj)
         simp only [gS];rw [if_neg (by omega)]
         rw [List.getD_cons_succ,this]
         rw [show ((k + 1 : Nat) : Int) + j = k + ((j + 1 : Nat) : Int) by omega]
      ·intro h
       refine ⟨fun x hx=>h.items x (by simp [hx]),h.up.2,fun x hx=>?_,fun j hj=>?_⟩
       ·have h1:=h.bags x (by simp [hx])
        have h2:=h.up.1 x hx
        simp only [List.length_cons] at h1
        refine ⟨by omega,by omega,h1.2.2⟩
       ·have:=h.chest (j + 1) (by simpa using hj)
        simp only [gS] at this;rw [if_neg (by omega)] at this
        rw [List.getD_cons_succ] at this
        rw [this]
        rw [show ((k + 1 : Nat) : Int) + j = k + ((j + 1 : Nat) : Int) by omega]
     ·rw [if_neg hb]
      simp only [reduceCtorEq,false_iff]
      intro h
      refine hb ?_
      have h0:=(h.chest 0 (by simp)).1 (by simpa using h9)
      have hbb:=h.bags b (by simp)
      have hk : b.cell = k:=by
       rw [Option.isSome_iff_exists] at h0
       obtain ⟨s,hs⟩:=h0
       obtain ⟨x,hx,hxe,_⟩:=DD hs
       rcases List.mem_cons.1 hx with rfl|hx
       ·simpa using hxe
       ·have:=h.up.1 x hx;simp only [Int.natCast_zero,Int.add_zero] at hxe;omega
      have h2:=hbb.2.2
      simp only [vS,Bool.and_eq_true] at h2
      simp only [d9,Bool.and_eq_true,beq_iff_eq]
      exact ⟨hk,h2.1,h2.2⟩
   ·rw [if_neg h9,mT r (k + 1) bs]
    constructor
    ·intro h
     refine ⟨fun x hx=>?_,h.up,fun x hx=>?_,fun j hj=>?_⟩
     ·rcases List.mem_cons.1 hx with rfl|hx
      ·exact hi
      ·exact h.items x hx
     ·have:=h.bags x hx;refine ⟨by omega,by simp only [List.length_cons];omega,this.2.2⟩
     ·cases j with
      | zero =>
       have : gS bs ((k : Int) + ((0 : Nat) : Int)) = none:=tg.2 fun x hx=>by have:=h.bags x hx;omega
       rw [this];simp [h9]
      | succ j =>
       have:=h.chest j (by simpa using hj)
       rw [List.getD_cons_succ,this]
       rw [show ((k + 1 : Nat) : Int) + j = k + ((j + 1 : Nat) : Int) by omega]
    ·intro h
     have h0 : gS bs (k : Int) = none:=by
      have:=h.chest 0 (by simp)
      simp only [List.getD_cons_zero,Int.natCast_zero,Int.add_zero,h9,false_iff] at this
      simpa using this
     refine ⟨fun x hx=>h.items x (by simp [hx]),h.up,fun x hx=>?_,fun j hj=>?_⟩
     ·have h1:=h.bags x hx
      have h2:=tg.1 h0 x hx
      simp only [List.length_cons] at h1
      refine ⟨by omega,by omega,h1.2.2⟩
     ·have:=h.chest (j + 1) (by simpa using hj)
      rw [List.getD_cons_succ] at this
      rw [this]
      rw [show ((k + 1 : Nat) : Int) + j = k + ((j + 1 : Nat) : Int) by omega]
  ·rw [if_neg hi]
   simp only [reduceCtorEq,false_iff]
   intro h
   exact hi (h.items i (by simp))
theorem lz (c : Chunk) : ar c = true ↔ da c = true ∧ DE c.cells 0 c.boxes ∧ c.heaps.any cm = false:=by
 constructor
 ·intro h
  obtain ⟨h1,h2,h3⟩:=fV h
  exact ⟨h1,(mT _ _ _).1 h2,h3⟩
 ·rintro ⟨h1,h2,h3⟩
  unfold ar
  rw [h1,(mT _ _ _).2 h2,h3];rfl
theorem pv : ∀ {l : List Box} (lo : Int) {hi : Int},rises l → (∀ b ∈ l,lo ≤ b.cell ∧ b.cell < hi) → lo ≤ hi → (l.length : Int) ≤ hi - lo
 | [],lo,hi,_,_,h=>by simp;omega
 | b :: r,lo,hi,h,hb,hlh=>by
  have h0:=hb b (by simp)
  have:=pv (l:=r) (b.cell + 1) (hi:=hi) h.2 (fun x hx=>by have:=h.1 x hx;have:=hb x (by simp [hx]);omega) (by omega)
  simp only [List.length_cons];omega
theorem fT {c : Chunk} (h : ar c = true) : c.cells.length = 64:=(fV h).len
theorem mU {c : Chunk} (h : ar c = true) : DE c.cells 0 c.boxes:=((lz c).1 h).2.1
theorem lA {c : Chunk} (h : ar c = true) {b : Box} (hb : b ∈ c.boxes) : b.bag.length = 6 ∧ cn b.bag = true:=by
 have:=((mU h).bags b hb).2.2
 simp only [vS,Bool.and_eq_true,decide_eq_true_eq] at this
 exact ⟨by omega,this.2⟩
theorem lX {c : Chunk} (h : ar c = true) : c.heaps.length ≤ 32:=by
 have:=((lz c).1 h).1
 simp only [da,Bool.and_eq_true,decide_eq_true_eq] at this;omega
theorem pw {c : Chunk} (h : ar c = true) : c.boxes.length ≤ 64:=by
 have hf:=mU h
 have:=pv (l:=c.boxes) 0 (hi:=64) hf.up (fun b hb=>by have:=hf.bags b hb;rw [fT h] at this;omega) (by omega)
 omega
theorem jH {c : Chunk} (h : ar c = true) : mS c:=
 ⟨by rw [fT h];omega,by have:=lX h;omega,by have:=pw h;omega,fun b hb=>by rw [(lA h hb).1];omega⟩
open Go Go.RowKit Eng
def hit (cell : Int) (h : c_) : Bool:=h.cell == cell
def miss (cell : Int) (h : c_) : Bool:=!(h.cell == cell)
def Gl (cell : Int) (l : List c_) : List c_:=l.filter (miss cell)
def Gm (cell : Int) (l : List c_) : List aG:=(l.filter (hit cell)).map (·.slot)
def qr (c : Chunk) (cell : Int) : Chunk × List aG:=if ar c = true then ({ c with heaps:=Gl cell c.heaps },Gm cell c.heaps) else (c,[])
open Go Go.RowKit Eng
def cnt (k : Int) (s : aG) : Int:=if ¬ k = 0 ∧ s.item = k then max s.n 0 else 0
def kv : List aG → Int → Int
 | [],_=>0
 | s :: r,k=>cnt k s + kv r k
theorem jw {s : aG} : cZ s = false ↔ (s.item = 0 ∧ s.n = 0) ∨ (1 ≤ s.n ∧ s.n ≤ cO s.item):=by
 simp only [cZ,Bool.and_eq_false_iff,Bool.or_eq_false_iff,Bool.not_eq_false',Bool.and_eq_true,beq_iff_eq,decide_eq_false_iff_not]
 omega
theorem BL {l : List aG} : cn l = true ↔ ∀ s ∈ l,cZ s = false:=by
 unfold cn
 simp
open Go Go.RowKit Eng
open Go Go.RowKit Eng
def iC (i : Int) : List aG → Int → List aG
 | [],_=>[]
 | s :: r,n=>if n ≤ 0 then s :: r else if s.item = i then Ei s (min s.n n) :: iC i r (n - min s.n n) else s :: iC i r n
def BM (l : List aG) (i n : Int) : List aG:=(iC i l.reverse n).reverse
open Go Go.RowKit Eng
open Go Go.RowKit Eng
def GA (p q : Player) : Nat:=p.bag.length + p.offer.length + q.bag.length + q.offer.length
def D_ (p q : Player) : Bool:=decide (GA p q ≤ 300) && (!(decide (p.id = q.id)) && (sr p && sr q))
def Ej (p q : Player) (i : Int) : Int:=kv p.bag i + kv p.offer i + kv q.bag i + kv q.offer i
theorem pz {i : Int} (h : 1 ≤ cO i) : 0 ≤ i ∧ i ≤ 255:=by
 unfold cO at h
 (repeat' split at h)<;>omega
theorem kz {l : List aG} (h : cn l = true) : ∀ s ∈ l,bP s:=by
 intro s hs
 rcases jw.1 (BL.1 h s hs) with h|h
 ·exact ⟨by omega,by omega⟩
 ·exact pz (by omega)
structure Ek (p q a b : Player) : Prop where
 ma : sr a = true
 mb : sr b = true
 ia : a.id = p.id
 ib : b.id = q.id
 sum : ∀ k,Ej a b k = Ej p q k
theorem Ek.refl {p q : Player} (hp : sr p = true) (hq : sr q = true) : Ek p q p q:=⟨hp,hq,rfl,rfl,fun _=>rfl⟩
def pl (id : Int) (s : aG) : Player:=⟨id,0,0,s :: List.replicate 7 ⟨0,0⟩,-1,[],false⟩
open Go Go.RowKit Eng
def vT (C : List Int) (s : aG) : List Int:=C.set s.item.toNat (elt .i64 C s.item.toNat + s.n)
def inN (b n : Int) : Prop:=0 ≤ n ∧ n ≤ b
structure jI (C : List Int) (b : Int) : Prop where
 len : C.length = 13
 bd : ∀ i,i < 13 → inN b (elt .i64 C i)
def lY (s : aG) : Prop:=0 ≤ s.item ∧ s.item ≤ 12 ∧ 0 ≤ s.n ∧ s.n ≤ 16
theorem DF {C : List Int} {s : aG} (hl : C.length = 13) (hs : lY s) (i : Nat) : elt .i64 (vT C s) i = if i = s.item.toNat then elt .i64 C i + s.n else elt .i64 C i:=by
 unfold vT
 obtain ⟨h0,h1,_,_⟩:=hs
 by_cases h : i = s.item.toNat
 ·rw [if_pos h];subst h
  unfold elt
  rw [List.getElem?_set_self (by omega)];rfl
 ·rw [if_neg h]
  unfold elt
  rw [List.getElem?_set_ne (fun e=>h e.symm)]
theorem jI.mono {C : List Int} {b c : Int} (h : jI C b) (hb : b ≤ c) : jI C c:=⟨h.len,fun i hi=>by have:=h.bd i hi;unfold inN at *;omega⟩
theorem jI.add {C : List Int} {b : Int} {s : aG} (h : jI C b) (hs : lY s) : jI (vT C s) (b + 16):=by
 refine ⟨by unfold vT;rw [List.length_set];exact h.len,fun i hi=>?_⟩
 rw [DF h.len hs]
 have:=h.bd i hi
 obtain ⟨_,_,h2,h3⟩:=hs
 unfold inN at *
 split<;>omega
theorem jI.foldl {l : List aG} : ∀ {C : List Int} {b : Int},jI C b → (∀ s ∈ l,lY s) → jI (l.foldl vT C) (b + 16 * l.length):=by
 induction l with
 | nil=>intro C b h _;simpa using h
 | cons a r ih =>
  intro C b h hs
  have:=ih (h.add (hs a (by simp))) fun s hm=>hs s (List.mem_cons_of_mem _ hm)
  rw [List.foldl_cons]
  refine this.mono ?_
  rw [List.length_cons];omega
open Go Go.RowKit Eng
def vU (l : List Player) : List aG:=l.flatMap fun p=>p.bag ++ p.offer
def vV (l : List Chunk) : List aG:=l.flatMap fun c=>c.heaps.map (·.slot) ++ c.boxes.flatMap (·.bag)
def FV (w : Wld) : List aG:=vU w.players ++ vV w.chunks
structure FW (w : Wld) : Prop where
 bag : ∀ p ∈ w.players,∀ s ∈ p.bag,lY s
 offer : ∀ p ∈ w.players,∀ s ∈ p.offer,lY s
 heap : ∀ c ∈ w.chunks,∀ h ∈ c.heaps,lY h.slot
 box : ∀ c ∈ w.chunks,∀ b ∈ c.boxes,∀ s ∈ b.bag,lY s
theorem zN {l : List Player} {s : aG} (h : s ∈ vU l) : ∃ p ∈ l,s ∈ p.bag ∨ s ∈ p.offer:=by
 unfold vU at h
 rw [List.mem_flatMap] at h
 obtain ⟨p,hp,hs⟩:=h
 exact ⟨p,hp,List.mem_append.1 hs⟩
theorem zO {l : List Chunk} {s : aG} (h : s ∈ vV l) : ∃ c ∈ l,(∃ h ∈ c.heaps,h.slot = s) ∨ ∃ b ∈ c.boxes,s ∈ b.bag:=by
 unfold vV at h
 rw [List.mem_flatMap] at h
 obtain ⟨c,hc,hs⟩:=h
 refine ⟨c,hc,(List.mem_append.1 hs).imp ?_ ?_⟩
 ·intro h;rw [List.mem_map] at h;exact h
 ·intro h;rw [List.mem_flatMap] at h;exact h
theorem FW.fit {w : Wld} (h : FW w) : ∀ s ∈ FV w,lY s:=by
 intro s hs
 rcases List.mem_append.1 hs with hs|hs
 ·obtain ⟨p,hp,hs⟩:=zN hs
  rcases hs with hs|hs
  ·exact h.bag p hp s hs
  ·exact h.offer p hp s hs
 ·obtain ⟨c,hc,hs⟩:=zO hs
  rcases hs with ⟨x,hx,rfl⟩|⟨b,hb,hs⟩
  ·exact h.heap c hc x hx
  ·exact h.box c hc b hb s hs
open Go Go.RowKit Eng
def zP (s : aG) : Prop:=0 ≤ s.item ∧ s.item ≤ 12 ∧ 0 ≤ s.n ∧ s.n ≤ cO s.item
theorem zP.fit {s : aG} (h : zP s) : lY s:=by have:=td s.item;unfold zP at h;unfold lY;omega
theorem pA {p : Player} (h : bN p = true) : 0 ≤ p.id ∧ p.id ≤ 1073741824 ∧ (p.bag.length : Int) = 8 ∧ cn p.bag = true ∧ ((p.wth = -1 ∧ p.offer = [] ∧ p.agrees = false) ∨ (0 ≤ p.wth ∧ p.wth ≤ 1073741824 ∧ p.wth ≠ p.id ∧ (p.offer.length : Int) = 8 ∧ cn p.offer = true)):=by
 unfold bN kq at h
 by_cases hw : p.wth = -1
 ·rw [if_pos hw] at h
  simp only [Bool.and_eq_true,decide_eq_true_eq,Bool.not_eq_true'] at h
  obtain ⟨h1,h2,⟨h3,h4⟩,h5,h6⟩:=h
  exact ⟨h1,h2,h3,h4,.inl ⟨hw,List.length_eq_zero_iff.1 (by omega),h6⟩⟩
 ·rw [if_neg hw] at h
  simp only [Bool.and_eq_true,decide_eq_true_eq,Bool.not_eq_true',decide_eq_false_iff_not] at h
  obtain ⟨h1,h2,⟨h3,h4⟩,h5,h6,h7,h8,h9⟩:=h
  exact ⟨h1,h2,h3,h4,.inr ⟨h5,h6,h7,h8,h9⟩⟩
open Go Go.RowKit Eng
theorem BN {i : Int} (h : dz i = true) : 0 ≤ i ∧ i ≤ 12:=by
 unfold dz eY at h
 simp only [Bool.or_eq_true,beq_iff_eq,Bool.and_eq_true,decide_eq_true_eq] at h
 omega
theorem vW {s : aG} (h : iA s = true) : bP s ∧ 1 ≤ s.n ∧ s.n ≤ 16:=by
 simp only [iA,Bool.and_eq_true,decide_eq_true_eq] at h
 have:=td s.item
 exact ⟨pz (by omega),by omega,by omega⟩
theorem rj {c : Chunk} (h : ar c = true) {x : c_} (hx : x ∈ c.heaps) : iA x.slot = true ∧ 0 ≤ x.cell ∧ x.cell < 64:=by
 have hh:=((lz c).1 h).2.2
 rw [List.any_eq_false] at hh
 have h2:=hh x hx
 simp only [cm,Bool.or_eq_true,Bool.not_eq_true',not_or,Bool.not_eq_false,Bool.and_eq_true,decide_eq_true_eq] at h2
 exact ⟨h2.2,h2.1⟩
theorem fU {c : Chunk} (h : ar c = true) : OkC c:=by
 refine ⟨fun i hi=>by have:=BN ((mU h).items i hi);omega,fun x hx=>(vW (rj h hx).1).1,fun b hb=>?_,?_,?_,?_⟩
 ·obtain ⟨h1,h2⟩:=lA h hb
  exact ⟨kz h2,by rw [h1];unfold big;omega⟩
 ·rw [fT h];unfold big;omega
 ·have:=lX h;unfold big;omega
 ·have:=pw h;unfold big;omega
theorem BO {p : Player} (h : bN p = true) : OkP p:=by
 obtain ⟨_,_,h3,h4,h5⟩:=pA h
 refine ⟨kz h4,?_,by omega,?_⟩
 ·rcases h5 with ⟨_,h,_⟩|⟨_,_,_,_,h⟩
  ·rw [h];simp
  ·exact kz h
 ·rcases h5 with ⟨_,h,_⟩|⟨_,_,_,h,_⟩
  ·rw [h];simp
  ·omega
theorem DG (s x y : Int) : dz (ls s x y) = true ∧ ls s x y ≠ 9:=by
 unfold ls
 simp only []
 (repeat' split)<;>exact ⟨by decide,by decide⟩
theorem BP {s x y : Int} (hx : 0 ≤ x ∧ x < 16) (hy : 0 ≤ y ∧ y < 16) : ar (iS s x y) = true:=by
 rw [lz]
 have hl : (gl s x y 64).length = 64:=dM _ _ _ _
 have hm : ∀ i ∈ gl s x y 64,dz i = true ∧ i ≠ 9:=by
  intro i hi
  unfold gl at hi
  rw [List.mem_map] at hi
  obtain ⟨j,_,rfl⟩:=hi
  exact DG _ _ _
 refine ⟨?_,⟨fun i hi=>(hm i hi).1,trivial,by simp [iS],fun j hj=>?_⟩,rfl⟩
 ·unfold da
  rw [show (iS s x y).cells.length = 64 from hl,show (iS s x y).heaps.length = 0 from rfl,show (iS s x y).x = x from rfl,show (iS s x y).y = y from rfl]
  simp only [Bool.and_eq_true,decide_eq_true_eq]
  omega
 ·have hj' : j < (gl s x y 64).length:=hj
  have hg : (iS s x y).cells.getD j 0 = (gl s x y 64)[j]:=by
   show (gl s x y 64).getD j 0 = _
   rw [List.getD_eq_getElem?_getD,List.getElem?_eq_getElem hj'];rfl
  rw [hg]
  have:=(hm _ (List.getElem_mem hj')).2
  simp [iS,gS,this]
theorem w0 {w : Wld} {x y : Int} (hR : RW w) (hx : 0 ≤ x ∧ x < w.size) (hy : 0 ≤ y ∧ y < w.size) : ar (bQ w x y).1 = true:=by
 have hs:=hR.size
 rw [(nT hR hx hy).1]
 dsimp only
 cases hg : aY bi w.chunks (bi (atC x y)) with
 | none=>exact BP (by omega) (by omega)
 | some c=>exact (hR.chunks c (gR hg).1).1
end Go.Proofs.YtaecchphjploaaaGreat
