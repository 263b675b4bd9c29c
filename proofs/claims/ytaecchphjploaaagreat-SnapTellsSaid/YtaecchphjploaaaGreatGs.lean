/- What the references lean on. -/
import Derived.Test.YtaecchphjploaaaGreatGf
import Derived.Test.YtaecchphjploaaaGreatGk
import Derived.Test.YtaecchphjploaaaGreatGi
import Derived.Test.YtaecchphjploaaaGreatGc
set_option linter.unusedSimpArgs false
set_option linter.unusedVariables false
set_option maxRecDepth 100000
set_option maxHeartbeats 16000000
namespace Go.Proofs.YtaecchphjploaaaGreat
open Go Go.RowKit Eng
theorem nf {α : Type} {key : α → Int} : ∀ {l : List α},(∀ i a b,l[i]? = some a → l[i + 1]? = some b → key a < key b) → ba key l
 | [],_=>trivial
 | [a],_=>⟨by simp,trivial⟩
 | a :: b :: r,h=>by
  have ih:=nf (l:=b :: r) fun i x y hx hy=>h (i + 1) x y (by simpa using hx) (by simpa using hy)
  refine ⟨fun x hx=>?_,ih⟩
  have h0:=h 0 a b rfl rfl
  rcases List.mem_cons.1 hx with rfl|hx
  ·exact h0
  ·have:=ih.1 x hx;omega
theorem Cp {l : List Player} {id : Int} (hn : ∀ k < l.length,¬ (elt .player l k).id = id) : aY pid l id = none:=
 c8.2 fun c hc he=>by
  obtain ⟨k,hk,rfl⟩:=List.getElem_of_mem hc
  have h2:=aL .player l k hk
  rw [List.getElem?_eq_getElem hk] at h2
  have h3:=hn k hk
  rw [← Option.some.inj h2] at h3
  exact h3 he
theorem Fu {l : List Player} (h : ba pid l) {k : Nat} (hk : k < l.length) : aY pid l (elt .player l k).id = some (elt .player l k):=
 wY h (List.mem_of_getElem? (aL .player l k hk))
structure pd (w : Wld) (k : Nat) : Prop where
 le : k ≤ w.chunks.length
 right : ∀ i < k,ar (elt .chunk w.chunks i) = true ∧ (elt .chunk w.chunks i).x < w.size ∧ (elt .chunk w.chunks i).y < w.size
 up : ∀ i,i + 1 < k → bi (elt .chunk w.chunks i) < bi (elt .chunk w.chunks (i + 1))
structure pe (w : Wld) (k : Nat) : Prop where
 le : k ≤ w.players.length
 right : ∀ i < k,bN (elt .player w.players i) = true ∧ bB w.size (elt .player w.players i).x (elt .player w.players i).y = true
 up : ∀ i,i + 1 < k → (elt .player w.players i).id < (elt .player w.players (i + 1)).id
theorem yz {tt : Ty} {l : List (El tt)} {a : El tt} (h : a ∈ l) : ∃ k,k < l.length ∧ elt tt l k = a:=by
 obtain ⟨k,hk,rfl⟩:=List.getElem_of_mem h
 have h2:=aL tt l k hk
 rw [List.getElem?_eq_getElem hk] at h2
 exact ⟨k,hk,(Option.some.inj h2).symm⟩
theorem pd.rises {w : Wld} (h : pd w w.chunks.length) : ba bi w.chunks:=nf fun i a b ha hb=>by
 have hlt:=(List.getElem?_eq_some_iff.1 hb).1
 have e1:=aL .chunk w.chunks i (by omega)
 have e2:=aL .chunk w.chunks (i + 1) hlt
 rw [ha] at e1
 rw [hb] at e2
 have:=h.up i hlt
 rw [← Option.some.inj e1,← Option.some.inj e2] at this
 exact this
theorem pe.rises {w : Wld} (h : pe w w.players.length) : ba pid w.players:=nf fun i a b ha hb=>by
 have hlt:=(List.getElem?_eq_some_iff.1 hb).1
 have e1:=aL .player w.players i (by omega)
 have e2:=aL .player w.players (i + 1) hlt
 rw [ha] at e1
 rw [hb] at e2
 have:=h.up i hlt
 rw [← Option.some.inj e1,← Option.some.inj e2] at this
 exact this
theorem Al {w : Wld} (hh : jc w = true) (hc : pd w w.chunks.length) (hp : pe w w.players.length) : cd w = true:=
 cL.2 ⟨hh,fun c hm=>by obtain ⟨k,hk,rfl⟩:=yz (tt:=.chunk) hm;have:=hc.right k hk;exact ⟨this.1,by omega⟩,hc.rises,hp.rises,
  fun p hm=>by obtain ⟨k,hk,rfl⟩:=yz (tt:=.player) hm;exact hp.right k hk⟩
theorem f_ {w : Wld} {p : Prop} (h : RW w → False) : cd w = false:=by
 cases hR : cd w with
 | false=>rfl
 | true=>exact (h (cL.1 hR)).elim
theorem RW.chunkAt {w : Wld} (h : RW w) {k : Nat} (hk : k < w.chunks.length) : ar (elt .chunk w.chunks k) = true ∧ (elt .chunk w.chunks k).x < w.size ∧ (elt .chunk w.chunks k).y < w.size:=by
 have:=h.chunks _ (ay (t:=.chunk) hk)
 exact ⟨this.1,by omega,by omega⟩
theorem RW.chunkUp {w : Wld} (h : RW w) {k : Nat} (hk : k + 1 < w.chunks.length) : bi (elt .chunk w.chunks k) < bi (elt .chunk w.chunks (k + 1)):=
 fS h.rc (Nat.lt_succ_self k) (aL .chunk w.chunks k (by omega)) (aL .chunk w.chunks (k + 1) hk)
theorem RW.playerAt {w : Wld} (h : RW w) {k : Nat} (hk : k < w.players.length) : bN (elt .player w.players k) = true ∧ bB w.size (elt .player w.players k).x (elt .player w.players k).y = true:=h.players _ (ay (t:=.player) hk)
theorem RW.playerUp {w : Wld} (h : RW w) {k : Nat} (hk : k + 1 < w.players.length) : (elt .player w.players k).id < (elt .player w.players (k + 1)).id:=
 fS h.rp (Nat.lt_succ_self k) (aL .player w.players k (by omega)) (aL .player w.players (k + 1) hk)
def iG (p : Player) : List Player → Bool → List Player
 | [],d=>if d = true then [] else [p]
 | q :: r,d=>(if d = false ∧ p.id ≤ q.id then [p] else []) ++ ((if q.id = p.id then [] else [q]) ++ iG p r (d || decide (p.id ≤ q.id)))
theorem js (p q : Player) (r : List Player) (d : Bool) : iG p (q :: r) d = (if d = false ∧ p.id ≤ q.id then [p] else []) ++ ((if q.id = p.id then [] else [q]) ++ iG p r (d || decide (p.id ≤ q.id))):=rfl
theorem yA {p q : Player} {r : List Player} (h : q.id < p.id) : iG p (q :: r) false = q :: iG p r false:=by
 rw [js,if_neg (show ¬ (false = false ∧ p.id ≤ q.id) by omega),if_neg (show ¬ q.id = p.id by omega),decide_eq_false (show ¬ p.id ≤ q.id by omega)]
 rfl
theorem yB {p q : Player} {r : List Player} (h : q.id = p.id) : iG p (q :: r) false = p :: iG p r true:=by
 rw [js,if_pos (show false = false ∧ p.id ≤ q.id from ⟨rfl,by omega⟩),if_pos h,decide_eq_true (show p.id ≤ q.id by omega)]
 rfl
theorem yC {p q : Player} {r : List Player} (h : p.id < q.id) : iG p (q :: r) false = p :: q :: iG p r true:=by
 rw [js,if_pos (show false = false ∧ p.id ≤ q.id from ⟨rfl,by omega⟩),if_neg (show ¬ q.id = p.id by omega),decide_eq_true (show p.id ≤ q.id by omega)]
 rfl
theorem oF {p : Player} : ∀ {l : List Player},(∀ q ∈ l,p.id < q.id) → iG p l true = l
 | [],_=>rfl
 | q :: r,h=>by
  have h1:=h q (by simp)
  have ih:=oF (l:=r) fun x hx=>h x (by simp [hx])
  rw [js,if_neg (show ¬ (true = false ∧ p.id ≤ q.id) by simp),if_neg (show ¬ q.id = p.id by omega),Bool.true_or,ih]
  rfl
theorem tN {p : Player} : ∀ {l : List Player},ba pid l → iG p l false = jv l p
 | [],_=>rfl
 | q :: r,h=>by
  have ih:=tN (p:=p) h.2
  unfold jv at *
  have h0 : ∀ x ∈ r,q.id < x.id:=h.1
  by_cases h1 : q.id < p.id
  ·rw [yA h1,ih]
   show _ = eL pid p (if q.id < p.id then q :: fA pid p.id r else _)
   rw [if_pos h1]
   show _ = (if q.id < p.id then _ else _)
   rw [if_pos h1]
  ·by_cases h2 : q.id = p.id
   ·have hr : ∀ x ∈ r,p.id < x.id:=fun x hx=>by have:=h0 x hx;omega
    rw [yB h2,oF hr]
    show _ = eL pid p (if q.id < p.id then _ else if q.id = p.id then r else _)
    rw [if_neg h1,if_pos h2]
    cases r with
    | nil=>rfl
    | cons a r =>
     have:=hr a (by simp)
     show _ = (if a.id < p.id then _ else _)
     rw [if_neg (by omega)]
   ·have hr : ∀ x ∈ r,p.id < x.id:=fun x hx=>by have:=h0 x hx;omega
    rw [yC (by omega),oF hr]
    show _ = eL pid p (if q.id < p.id then _ else if q.id = p.id then r else q :: r)
    rw [if_neg h1,if_neg h2]
    show _ = (if q.id < p.id then _ else _)
    rw [if_neg h1]
theorem iH {α : Type} {B : List α} {x y : α} (h : x = y) : List.take (B.length + 1) (List.take B.length B ++ [x]) = B ++ [y]:=by subst h;rw [List.take_length];exact List.take_of_length_le (by simp)
theorem wB {α : Type} (l : List α) (k : Nat) : List.take k (List.take k l) = List.take k l:=by rw [List.take_take,Nat.min_self]
theorem D1 {α : Type} {l X : List α} {k n : Nat} {a b : α} (hb : l.take (k + 1) = l.take k ++ [b]) (hk : k < l.length) (hX : X = l.take k) (ha : a = b) (hn : n = k + 1) : List.take n (X ++ [a]) = l.take (k + 1):=by
 subst hX ha hn
 rw [hb]
 exact List.take_of_length_le (by simp;omega)
open Go Go.RowKit Eng
def F5 {α : Type} (f : α → Int) : List α → Int
 | []=>0
 | a :: r=>f a + F5 f r
def bc (i : Int) (b : Box) : Int:=kv b.bag i
def cc (i : Int) (c : Chunk) : Int:=kv (c.heaps.map (·.slot)) i + F5 (bc i) c.boxes
open Go Go.RowKit Eng
theorem f0 {x y z u : Bool} (h : x = false) : (x && (y && (z && u))) = false:=by rw [h];rfl
theorem f1 {x y z u : Bool} (h : y = false) : (x && (y && (z && u))) = false:=by rw [h];simp
theorem f2 {x y z u : Bool} (h : z = false) : (x && (y && (z && u))) = false:=by rw [h];simp
theorem f3 {x y z u : Bool} (h : u = false) : (x && (y && (z && u))) = false:=by rw [h];simp
open Go Go.RowKit Eng
open Go Go.RowKit Eng
theorem wC (i : Int) {n : Int} (hn : n ≤ 0) : ∀ l : List aG,iC i l n = l
 | []=>rfl
 | s :: r=>by simp only [iC];rw [if_pos hn]
theorem wD {l : List aG} {j : Nat} (h : j < l.length) : (l.take (j + 1)).reverse = elt .slot l j :: (l.take j).reverse:=by
 rw [List.take_add_one,aL .slot l j h,List.reverse_append];rfl
theorem wE {l r : List aG} {j k : Nat} (h : r.take k = l.take k) (hj : j < k) : elt .slot r j = elt .slot l j:=by
 unfold elt
 have h1 : (r.take k)[j]? = r[j]?:=by rw [List.getElem?_take,if_pos hj]
 have h2 : (l.take k)[j]? = l[j]?:=by rw [List.getElem?_take,if_pos hj]
 rw [← h1,← h2,h]
structure SpI (l : List aG) (i N : Int) (j : Nat) (n : Int) (r : List aG) : Prop where
 jl : j ≤ l.length
 len : r.length = l.length
 nz : 0 ≤ n
 nn : n ≤ 9223372036854775807
 pre : r.take j = l.take j
 out : (iC i (l.take j).reverse n).reverse ++ r.drop j = BM l i N
theorem SpI.hit {l : List aG} {i n0 : Int} {j : Nat} {n : Int} {r : List aG} (h : SpI l i n0 (j + 1) n r) (hi : (elt .slot r j).item = i) (hn : 0 < n) (hs : 0 ≤ (elt .slot r j).n) :
  SpI l i n0 j (n - min (elt .slot r j).n n) (r.set j (Ei (elt .slot r j) (min (elt .slot r j).n n))):=by
 have hj:=h.jl
 have hl:=h.len
 have he:=wE h.pre (Nat.lt_succ_self j)
 refine ⟨by omega,by rw [List.length_set];exact hl,by omega,by have:=h.nn;omega,?_,?_⟩
 ·rw [List.take_set_of_le (Nat.le_refl j)]
  have:=congrArg (List.take j) h.pre
  rwa [List.take_take,List.take_take,Nat.min_eq_left (by omega)] at this
 ·rw [← h.out,wD (by omega),← he]
  simp only [iC]
  rw [if_neg (by omega),if_pos hi,List.reverse_cons,List.append_assoc]
  congr 1
  rw [List.drop_set,if_neg (by omega),Nat.sub_self,bJ (t:=.slot) (by omega : j < r.length)]
  rfl
theorem SpI.miss {l : List aG} {i n0 : Int} {j : Nat} {n : Int} {r : List aG} (h : SpI l i n0 (j + 1) n r) (hi : ¬ (elt .slot r j).item = i) (hn : 0 < n) : SpI l i n0 j n r:=by
 have hj:=h.jl
 have hl:=h.len
 have he:=wE h.pre (Nat.lt_succ_self j)
 refine ⟨by omega,hl,h.nz,h.nn,?_,?_⟩
 ·have:=congrArg (List.take j) h.pre
  rwa [List.take_take,List.take_take,Nat.min_eq_left (by omega)] at this
 ·rw [← h.out,wD (by omega),← he]
  simp only [iC]
  rw [if_neg (by omega),if_neg hi,List.reverse_cons,List.append_assoc]
  congr 1
  rw [bJ (t:=.slot) (by omega : j < r.length)]
  rfl
theorem SpI.done {l : List aG} {i n0 : Int} {j : Nat} {n : Int} {r : List aG} (h : SpI l i n0 j n r) (hd : j = 0 ∨ n ≤ 0) : r = BM l i n0:=by
 rw [← h.out]
 rcases hd with rfl|hd
 ·simp [iC]
 ·rw [wC i hd,List.reverse_reverse,← h.pre,List.take_append_drop]
open Go Go.RowKit Eng
open Go Go.RowKit Eng
open Go Go.RowKit Eng
open Go Go.RowKit Eng
open Go Go.RowKit Eng
def ng (may : aG → Bool) (i size : Int) : List aG → Int → List aG × Int
 | [],n=>([],n)
 | s :: r,n=>if may s = true ∧ 0 < min (size - s.n) n then (⟨i,s.n + min (size - s.n) n⟩ :: (ng may i size r (n - min (size - s.n) n)).1,(ng may i size r (n - min (size - s.n) n)).2)
  else (s :: (ng may i size r n).1,(ng may i size r n).2)
def GF (l : List aG) (i n : Int) : List aG × Int:=ng Gy i (cO i) (ng (FQ i) i (cO i) l n).1 (ng (FQ i) i (cO i) l n).2
theorem oG {tt : Ty} {l : List (El tt)} {k : Nat} (hk : k < l.length) : l.take (k + 1) = l.take k ++ [elt tt l k]:=by
 have:=aL tt l k hk
 rw [List.take_add_one,this];rfl
theorem oH (i : Int) (h0 : 0 ≤ i) (h1 : i ≤ 255) : Api Tryz.prog 176 [.lit (.int .u8 i)] (i64 (cO i)):=by
 refine aF Tryz.func176 15 ?_
 conv=>whnf
 repeat' (first|exact trivial|((first|(refine ⟨fun hb=>?_,fun hb=>?_⟩<;>(try simp only [nrm] at hb)<;>try exact kZ hb)|refine kV ?_)<;>(conv=>whnf))|refine kY ?_ ?_)
 all_goals (refine congrArg (Value.int .i64) ?_;unfold cO;(repeat' split)<;>omega)
theorem kM (l : List (El .slot)) (n : Int) (hl : l.length ≤ big) (hw : ∀ s ∈ l,bP s) : Api Tryz.prog 138 [.vec .slot l,i64 n] (bol (decide ((l.length : Int) = n) && cn l)):=by
 unfold big at hl
 by_cases hn : (l.length : Int) = n
 ·rw [decide_eq_true hn,Bool.true_and]
  refine aF Tryz.func138 45 ?_
  conv=>whnf
  repeat' (first|exact trivial|((first|(refine ⟨fun hb=>?_,fun hb=>?_⟩<;>(try simp only [nrm] at hb)<;>try exact kZ hb)|refine kV ?_)<;>(conv=>whnf))|refine kY ?_ ?_)
  refine aw.loopS aa (σ:=Nat) [0,5] (fun k=>[.vec .slot l,i64 k]) (fun _=>[]) (fun k=>k ≤ l.length ∧ cn (l.drop k) = cn l) (fun k=>l.length - k) 0 ⟨by omega,rfl⟩ ?_ ?_
  ·exact fD0
  ·rintro k ⟨hk,he⟩
   by_cases hlt : k < l.length
   ·have hs:=oH (elt .slot l k).item (hw _ (ay (t:=.slot) hlt)).1 (hw _ (ay (t:=.slot) hlt)).2
    have hE : elt .slot l (k : Int).toNat = elt .slot l k:=rfl
    have hstep : cn (l.drop k) = (!(cZ (elt .slot l k)) && cn (l.drop (k + 1))):=by
     rw [bJ (t:=.slot) hlt];unfold cn;simp
    rw [hstep] at he
    cases hbs : cZ (elt .slot l k) with
    | true =>
     rw [hbs] at he
     have hb2 : ¬ (((elt .slot l k).item = 0 ∧ (elt .slot l k).n = 0) ∨ (1 ≤ (elt .slot l k).n ∧ (elt .slot l k).n ≤ cO (elt .slot l k).item)):=fun h=>by rw [jw.2 h] at hbs;cases hbs
     rw [← he]
     exact fD0
    | false =>
     rw [hbs] at he
     have hb2:=jw.1 hbs
     conv=>whnf
     repeat' (first|exact trivial|((first|(refine ⟨fun hb=>?_,fun hb=>?_⟩<;>(try simp only [nrm] at hb)<;>try exact kZ hb)|refine kV ?_)<;>(conv=>whnf))|refine kY ?_ ?_)
     all_goals
      refine .to (k + 1) ⟨hlt,by rw [← he];rfl⟩ (by omega) ?_
      conv=>whnf
      repeat' (first|exact trivial|((first|(refine ⟨fun hb=>?_,fun hb=>?_⟩<;>(try simp only [nrm] at hb)<;>try exact kZ hb)|refine kV ?_)<;>(conv=>whnf))|refine kY ?_ ?_)
   ·obtain rfl : k = l.length:=by omega
    rw [List.drop_length] at he
    rw [← he]
    exact fD0
 ·rw [decide_eq_false hn,Bool.false_and]
  refine aF Tryz.func138 45 ?_
  exact fD0
end Go.Proofs.YtaecchphjploaaaGreat
