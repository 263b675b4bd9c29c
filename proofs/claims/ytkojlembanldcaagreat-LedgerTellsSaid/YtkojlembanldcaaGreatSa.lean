/- The references of items, recipes, craft, chunks, gen. -/
import Derived.Test.YtkojlembanldcaaGreatGf
import Derived.Test.YtkojlembanldcaaGreatGh
import Derived.Test.YtkojlembanldcaaGreatRz
import Derived.Test.YtkojlembanldcaaGreatGj
import Derived.Test.YtkojlembanldcaaGreatGc
set_option linter.unusedSimpArgs false
set_option linter.unusedVariables false
set_option maxRecDepth 100000
set_option maxHeartbeats 16000000
namespace Go.Proofs.YtkojlembanldcaaGreat
open Go Go.RowKit Eng
def ltK {α : Type} (key : α → Int) (t : Int) (l : List α) : List α:=l.filter fun a=>decide (key a < t)
def eqK {α : Type} (key : α → Int) (t : Int) (l : List α) : List α:=l.filter fun a=>decide (key a = t)
theorem Ck {α : Type} {key : α → Int} {t : Int} {l : List α} (h : ∀ a ∈ l,t ≤ key a) : ltK key t l = []:=
 List.filter_eq_nil_iff.2 fun a ha=>by have:=h a ha;simp;omega
theorem Cl {α : Type} {key : α → Int} {t : Int} {l : List α} (h : ∀ a ∈ l,key a < t) : ltK key t l = l:=
 List.filter_eq_self.2 fun a ha=>by have:=h a ha;simp;omega
theorem Ge {α : Type} {key : α → Int} {t u : Int} {l : List α} (h : ∀ a ∈ l,(key a < t ↔ key a < u)) : ltK key t l = ltK key u l:=
 List.filter_congr fun a ha=>by rw [decide_eq_decide];exact h a ha
theorem rx {α : Type} {key : α → Int} {t : Int} : ∀ {l : List α},bi key l → eqK key t l = (aH key l t).toList
 | [],_=>rfl
 | b :: r,h=>by
  unfold eqK
  rw [List.filter_cons]
  simp only [aH]
  by_cases hb : key b = t
  ·rw [if_pos (by simpa using hb),if_pos hb]
   have : r.filter (fun a=>decide (key a = t)) = []:=List.filter_eq_nil_iff.2 fun a ha=>by have:=h.1 a ha;simp;omega
   rw [this];rfl
  ·rw [if_neg (by simpa using hb),if_neg hb]
   exact rx h.2
theorem tb {α : Type} {key : α → Int} {t : Int} : ∀ {l : List α},bi key l → ltK key (t + 1) l = ltK key t l ++ eqK key t l
 | [],_=>rfl
 | b :: r,h=>by
  have ih:=tb (t:=t) h.2
  unfold ltK eqK at *
  by_cases h1 : key b < t
  ·have a1 : decide (key b < t + 1) = true:=decide_eq_true (by omega)
   have a2 : decide (key b < t) = true:=decide_eq_true h1
   have a3 : decide (key b = t) = false:=decide_eq_false (by omega)
   simp only [List.filter_cons,a1,a2,a3,if_true,Bool.false_eq_true,if_false]
   rw [ih];rfl
  ·have a2 : decide (key b < t) = false:=decide_eq_false h1
   have e1 : r.filter (fun a=>decide (key a < t)) = []:=List.filter_eq_nil_iff.2 fun a ha=>by have:=h.1 a ha;simp;omega
   rw [e1] at ih
   by_cases h2 : key b = t
   ·have a1 : decide (key b < t + 1) = true:=decide_eq_true (by omega)
    have a3 : decide (key b = t) = true:=decide_eq_true h2
    simp only [List.filter_cons,a1,a2,a3,if_true,Bool.false_eq_true,if_false]
    rw [ih,e1];rfl
   ·have a1 : decide (key b < t + 1) = false:=decide_eq_false (by omega)
    have a3 : decide (key b = t) = false:=decide_eq_false h2
    simp only [List.filter_cons,a1,a2,a3,Bool.false_eq_true,if_false]
    rw [ih,e1]
theorem pa {α : Type} {key : α → Int} : ∀ {l : List α},(∀ i a b,l[i]? = some a → l[i + 1]? = some b → key a < key b) → bi key l
 | [],_=>trivial
 | [a],_=>⟨by simp,trivial⟩
 | a :: b :: r,h=>by
  have ih:=pa (l:=b :: r) fun i x y hx hy=>h (i + 1) x y (by simpa using hx) (by simpa using hy)
  refine ⟨fun x hx=>?_,ih⟩
  have h0:=h 0 a b rfl rfl
  rcases List.mem_cons.1 hx with rfl|hx
  ·exact h0
  ·have:=ih.1 x hx;omega
def atB (x y : Int) (k : Chunk) : Bool:=decide (k.x = x) && decide (k.y = y)
theorem Ad {l : List Chunk} (h : ∀ c ∈ l,0 ≤ c.x ∧ c.x < 16) {x y : Int} (h0 : 0 ≤ x) (h1 : x < 16) : l.filter (atB x y) = eqK aI (16 * y + x) l:=
 List.filter_congr fun c hc=>by
  have:=h c hc
  unfold atB aI
  rw [← Bool.decide_and,decide_eq_decide]
  omega
theorem JQ {l : List Chunk} {s y : Int} (h : ∀ c ∈ l,0 ≤ c.x ∧ c.x < s) (h16 : s ≤ 16) : ltK aI (16 * y + s) l = ltK aI (16 * (y + 1)) l:=
 Ge fun c hc=>by have:=h c hc;unfold aI;omega
theorem JR {seed : Int} {l : List Chunk} {c : Chunk} (h : bi aI l) (hl : ∀ c ∈ l,0 ≤ c.x ∧ c.x < 16) (hc : 0 ≤ c.x ∧ c.x < 16) {x y : Int} (h0 : 0 ≤ x) (h1 : x < 16) :
  (d5 seed l c).filter (atB x y) = if x = c.x ∧ y = c.y then (if dy seed c = true then [] else [c]) else l.filter (atB x y):=by
 rw [Ad (fun b hb=>by rcases jT hb with rfl|hb;exact hc;exact hl b hb) h0 h1,Ad hl h0 h1,rx (nw h),rx h,wD h]
 unfold aI
 by_cases he : x = c.x ∧ y = c.y
 ·rw [if_pos (by omega),if_pos he]
  split<;>rfl
 ·rw [if_neg (by omega),if_neg he]
theorem JS {l : List Chunk} {x y : Int} {k : Nat} (h : k < l.length) : (l.take (k + 1)).filter (atB x y) = (l.take k).filter (atB x y) ++ (if (elt .chunk l k).x = x ∧ (elt .chunk l k).y = y then [elt .chunk l k] else []):=by
 rw [List.take_add_one,ar .chunk l k h,List.filter_append]
 congr 1
 show List.filter (atB x y) [elt .chunk l k] = _
 rw [List.filter_cons]
 unfold atB
 by_cases he : (elt .chunk l k).x = x ∧ (elt .chunk l k).y = y
 ·rw [if_pos he,if_pos (by simp [he.1,he.2])];rfl
 ·rw [if_neg he,if_neg (by simpa using he)];rfl
theorem uA {w : Wld} (hR : RW w) {x y : Int} (h0 : 0 ≤ x) (h1 : x < w.size) (h2 : 0 ≤ y) (h3 : y < w.size) : ba w x y = ((aH aI w.chunks (16 * y + x)).getD (eh w.seed x y),true):=by
 have hs:=hR.size
 obtain ⟨e1,e2⟩:=qa hR.rc hR.xy (x:=x) (y:=y) h0 (by omega)
 have hk : aI (atC x y) = 16 * y + x:=rfl
 rw [hk] at e1 e2
 have hin : gG w.size x y = true:=by simp only [gG,Bool.and_eq_true,decide_eq_true_eq];omega
 unfold ba
 rw [if_neg (by rw [hin,aK.2 hR];simp)]
 rw [e2]
 cases hg : aH aI w.chunks (16 * y + x) with
 | none=>rw [if_neg (by simp)];rfl
 | some c =>
  rw [if_pos (by simp),e1]
  obtain ⟨h4,h5⟩:=pH hR.rc hg
  have h6:=ar .chunk w.chunks _ h4
  rw [h5] at h6
  rw [← Option.some.inj h6];rfl
theorem lD {w : Wld} {x y : Int} (h : aO w = false ∨ ¬ (0 ≤ x ∧ x < w.size ∧ 0 ≤ y ∧ y < w.size)) : ba w x y = (atC 0 0,false):=by
 unfold ba
 rw [if_pos]
 rcases h with h|h
 ·exact .inr h
 ·left
  simp only [gG,Bool.and_eq_false_iff,decide_eq_false_iff_not]
  omega
theorem JT {l : List Chunk} (h : bi aI l) (hl : ∀ c ∈ l,0 ≤ c.x ∧ c.x < 16) {k : Nat} (hk : k < l.length) : aH aI l (16 * (elt .chunk l k).y + (elt .chunk l k).x) = some (elt .chunk l k):=
 ng h (List.mem_of_getElem? (ar .chunk l k hk))
theorem Gf {l : List Chunk} (hl : ∀ c ∈ l,0 ≤ c.x ∧ c.x < 16) {x y : Int} (h0 : 0 ≤ x) (h1 : x < 16) (hn : ∀ k < l.length,¬ ((elt .chunk l k).x = x ∧ (elt .chunk l k).y = y)) : aH aI l (16 * y + x) = none:=
 dm.2 fun c hc he=>by
  obtain ⟨k,hk,rfl⟩:=List.getElem_of_mem hc
  have h2:=ar .chunk l k hk
  rw [List.getElem?_eq_getElem hk] at h2
  have h3:=hn k hk
  rw [← Option.some.inj h2] at h3
  have:=hl _ hc
  unfold aI at he
  omega
theorem Gg {l : List Player} {id : Int} (hn : ∀ k < l.length,¬ (elt .player l k).id = id) : aH pid l id = none:=
 dm.2 fun c hc he=>by
  obtain ⟨k,hk,rfl⟩:=List.getElem_of_mem hc
  have h2:=ar .player l k hk
  rw [List.getElem?_eq_getElem hk] at h2
  have h3:=hn k hk
  rw [← Option.some.inj h2] at h3
  exact h3 he
theorem JU {l : List Player} (h : bi pid l) {k : Nat} (hk : k < l.length) : aH pid l (elt .player l k).id = some (elt .player l k):=
 ng h (List.mem_of_getElem? (ar .player l k hk))
structure ry (w : Wld) (k : Nat) : Prop where
 le : k ≤ w.chunks.length
 right : ∀ i < k,ai (elt .chunk w.chunks i) = true ∧ (elt .chunk w.chunks i).x < w.size ∧ (elt .chunk w.chunks i).y < w.size
 up : ∀ i,i + 1 < k → aI (elt .chunk w.chunks i) < aI (elt .chunk w.chunks (i + 1))
structure rz (w : Wld) (k : Nat) : Prop where
 le : k ≤ w.players.length
 right : ∀ i < k,a7 (elt .player w.players i) = true ∧ av w.size (elt .player w.players i).x (elt .player w.players i).y = true
 up : ∀ i,i + 1 < k → (elt .player w.players i).id < (elt .player w.players (i + 1)).id
theorem rA {tt : Ty} {l : List (El tt)} {a : El tt} (h : a ∈ l) : ∃ k,k < l.length ∧ elt tt l k = a:=by
 obtain ⟨k,hk,rfl⟩:=List.getElem_of_mem h
 have h2:=ar tt l k hk
 rw [List.getElem?_eq_getElem hk] at h2
 exact ⟨k,hk,(Option.some.inj h2).symm⟩
theorem ry.rises {w : Wld} (h : ry w w.chunks.length) : bi aI w.chunks:=pa fun i a b ha hb=>by
 have hlt:=(List.getElem?_eq_some_iff.1 hb).1
 have e1:=ar .chunk w.chunks i (by omega)
 have e2:=ar .chunk w.chunks (i + 1) hlt
 rw [ha] at e1
 rw [hb] at e2
 have:=h.up i hlt
 rw [← Option.some.inj e1,← Option.some.inj e2] at this
 exact this
theorem rz.rises {w : Wld} (h : rz w w.players.length) : bi pid w.players:=pa fun i a b ha hb=>by
 have hlt:=(List.getElem?_eq_some_iff.1 hb).1
 have e1:=ar .player w.players i (by omega)
 have e2:=ar .player w.players (i + 1) hlt
 rw [ha] at e1
 rw [hb] at e2
 have:=h.up i hlt
 rw [← Option.some.inj e1,← Option.some.inj e2] at this
 exact this
theorem D3 {w : Wld} (hh : iy w = true) (hc : ry w w.chunks.length) (hp : rz w w.players.length) : aO w = true:=
 aK.2 ⟨hh,fun c hm=>by obtain ⟨k,hk,rfl⟩:=rA (tt:=.chunk) hm;have:=hc.right k hk;exact ⟨this.1,by omega⟩,hc.rises,hp.rises,
  fun p hm=>by obtain ⟨k,hk,rfl⟩:=rA (tt:=.player) hm;exact hp.right k hk⟩
theorem hJ {w : Wld} {p : Prop} (h : RW w → False) : aO w = false:=by
 cases hR : aO w with
 | false=>rfl
 | true=>exact (h (aK.1 hR)).elim
theorem RW.chunkAt {w : Wld} (h : RW w) {k : Nat} (hk : k < w.chunks.length) : ai (elt .chunk w.chunks k) = true ∧ (elt .chunk w.chunks k).x < w.size ∧ (elt .chunk w.chunks k).y < w.size:=by
 have:=h.chunks _ (ao (t:=.chunk) hk)
 exact ⟨this.1,by omega,by omega⟩
theorem RW.chunkUp {w : Wld} (h : RW w) {k : Nat} (hk : k + 1 < w.chunks.length) : aI (elt .chunk w.chunks k) < aI (elt .chunk w.chunks (k + 1)):=
 kp h.rc (Nat.lt_succ_self k) (ar .chunk w.chunks k (by omega)) (ar .chunk w.chunks (k + 1) hk)
theorem RW.playerAt {w : Wld} (h : RW w) {k : Nat} (hk : k < w.players.length) : a7 (elt .player w.players k) = true ∧ av w.size (elt .player w.players k).x (elt .player w.players k).y = true:=h.players _ (ao (t:=.player) hk)
theorem RW.playerUp {w : Wld} (h : RW w) {k : Nat} (hk : k + 1 < w.players.length) : (elt .player w.players k).id < (elt .player w.players (k + 1)).id:=
 kp h.rp (Nat.lt_succ_self k) (ar .player w.players k (by omega)) (ar .player w.players (k + 1) hk)
def jy (p : Player) : List Player → Bool → List Player
 | [],d=>if d = true then [] else [p]
 | q :: r,d=>(if d = false ∧ p.id ≤ q.id then [p] else []) ++ ((if q.id = p.id then [] else [q]) ++ jy p r (d || decide (p.id ≤ q.id)))
theorem kI (p q : Player) (r : List Player) (d : Bool) : jy p (q :: r) d = (if d = false ∧ p.id ≤ q.id then [p] else []) ++ ((if q.id = p.id then [] else [q]) ++ jy p r (d || decide (p.id ≤ q.id))):=rfl
theorem Cm {p q : Player} {r : List Player} (h : q.id < p.id) : jy p (q :: r) false = q :: jy p r false:=by
 rw [kI,if_neg (show ¬ (false = false ∧ p.id ≤ q.id) by omega),if_neg (show ¬ q.id = p.id by omega),decide_eq_false (show ¬ p.id ≤ q.id by omega)]
 rfl
theorem Cn {p q : Player} {r : List Player} (h : q.id = p.id) : jy p (q :: r) false = p :: jy p r true:=by
 rw [kI,if_pos (show false = false ∧ p.id ≤ q.id from ⟨rfl,by omega⟩),if_pos h,decide_eq_true (show p.id ≤ q.id by omega)]
 rfl
theorem Co {p q : Player} {r : List Player} (h : p.id < q.id) : jy p (q :: r) false = p :: q :: jy p r true:=by
 rw [kI,if_pos (show false = false ∧ p.id ≤ q.id from ⟨rfl,by omega⟩),if_neg (show ¬ q.id = p.id by omega),decide_eq_true (show p.id ≤ q.id by omega)]
 rfl
theorem qt {p : Player} : ∀ {l : List Player},(∀ q ∈ l,p.id < q.id) → jy p l true = l
 | [],_=>rfl
 | q :: r,h=>by
  have h1:=h q (by simp)
  have ih:=qt (l:=r) fun x hx=>h x (by simp [hx])
  rw [kI,if_neg (show ¬ (true = false ∧ p.id ≤ q.id) by simp),if_neg (show ¬ q.id = p.id by omega),Bool.true_or,ih]
  rfl
theorem wW {p : Player} : ∀ {l : List Player},bi pid l → jy p l false = ck l p
 | [],_=>rfl
 | q :: r,h=>by
  have ih:=wW (p:=p) h.2
  unfold ck at *
  have h0 : ∀ x ∈ r,q.id < x.id:=h.1
  by_cases h1 : q.id < p.id
  ·rw [Cm h1,ih]
   show _ = eN pid p (if q.id < p.id then q :: dZ pid p.id r else _)
   rw [if_pos h1]
   show _ = (if q.id < p.id then _ else _)
   rw [if_pos h1]
  ·by_cases h2 : q.id = p.id
   ·have hr : ∀ x ∈ r,p.id < x.id:=fun x hx=>by have:=h0 x hx;omega
    rw [Cn h2,qt hr]
    show _ = eN pid p (if q.id < p.id then _ else if q.id = p.id then r else _)
    rw [if_neg h1,if_pos h2]
    cases r with
    | nil=>rfl
    | cons a r =>
     have:=hr a (by simp)
     show _ = (if a.id < p.id then _ else _)
     rw [if_neg (by omega)]
   ·have hr : ∀ x ∈ r,p.id < x.id:=fun x hx=>by have:=h0 x hx;omega
    rw [Co (by omega),qt hr]
    show _ = eN pid p (if q.id < p.id then _ else if q.id = p.id then r else q :: r)
    rw [if_neg h1,if_neg h2]
    show _ = (if q.id < p.id then _ else _)
    rw [if_neg h1]
theorem eG {α : Type} {B : List α} {x y : α} (h : x = y) : List.take (B.length + 1) (List.take B.length B ++ [x]) = B ++ [y]:=by subst h;rw [List.take_length];exact List.take_of_length_le (by simp)
theorem Ae {α : Type} (l : List α) (k : Nat) : List.take k (List.take k l) = List.take k l:=by rw [List.take_take,Nat.min_self]
theorem Ia {α : Type} {l X : List α} {k n : Nat} {a b : α} (hb : l.take (k + 1) = l.take k ++ [b]) (hk : k < l.length) (hX : X = l.take k) (ha : a = b) (hn : n = k + 1) : List.take n (X ++ [a]) = l.take (k + 1):=by
 subst hX ha hn
 rw [hb]
 exact List.take_of_length_le (by simp;omega)
theorem vt : ∀ {l : List Box},rises l ↔ bi Box.cell l
 | []=>Iff.rfl
 | b :: r=>by simp only [rises,bi,vt (l:=r)]
theorem Gh : ∀ {l : List Box} {t : Int},bu l t = (aH Box.cell l t).map Box.bag
 | [],t=>rfl
 | b :: r,t=>by
  simp only [bu,aH,Gh (l:=r)]
  split<;>rfl
theorem Ib {l : List Box} (h : rises l) {t : Int} : eqK Box.cell t l = ((bu l t).map fun s=>(⟨t,s⟩ : Box)).toList:=by
 rw [rx (vt.1 h),Gh]
 cases hg : aH Box.cell l t with
 | none=>rfl
 | some b =>
  have:=(gq hg).2
  obtain ⟨c,s⟩:=b
  subst this
  rfl
open Go Go.RowKit Eng
theorem uB {i : Int} : cG i = true ↔ 1 ≤ i ∧ i ≤ 5 ∨ i = 7 ∨ i = 9 ∨ i = 10:=by
 unfold cG
 simp only [decide_eq_true_eq,Bool.and_eq_true,Bool.not_eq_true',decide_eq_false_iff_not]
 omega
theorem jz (i : Int) (h0 : 0 ≤ i) (h1 : i ≤ 255) : Api Tryz.prog 171 [.lit (.int .u8 i)] (bol (cG i)):=by
 have hb1:=@uB i
 cases hB : cG i with
 | true =>
  have hb2:=hb1.1 hB
  refine aF Tryz.func171 20 ?_
  ((try with_reducible refine ab fun N hN hE hT=>?_);(conv=>whnf))
  repeat' (first|exact trivial|((first|((first|apply hT|apply hE|apply hN);clear hN hE hT)|(refine ⟨fun hb=>?_,fun hb=>?_⟩<;>(try simp only [nrm] at hb)<;>try exact kZ hb)|refine kV ?_)<;>((try with_reducible refine ab fun N hN hE hT=>?_);(conv=>whnf)))|refine kY ?_ ?_)
  all_goals first|rfl|omega|(refine congrArg Value.bool ?_;simp;omega)|trace_state
 | false =>
  have hb2 : ¬ (1 ≤ i ∧ i ≤ 5 ∨ i = 7 ∨ i = 9 ∨ i = 10):=fun h=>by rw [hb1.2 h] at hB;cases hB
  refine aF Tryz.func171 20 ?_
  ((try with_reducible refine ab fun N hN hE hT=>?_);(conv=>whnf))
  repeat' (first|exact trivial|((first|((first|apply hT|apply hE|apply hN);clear hN hE hT)|(refine ⟨fun hb=>?_,fun hb=>?_⟩<;>(try simp only [nrm] at hb)<;>try exact kZ hb)|refine kV ?_)<;>((try with_reducible refine ab fun N hN hE hT=>?_);(conv=>whnf)))|refine kY ?_ ?_)
  all_goals first|rfl|omega|(refine congrArg Value.bool ?_;simp;omega)|trace_state
theorem qu (i : Int) (h0 : 0 ≤ i) (h1 : i ≤ 255) : Api Tryz.prog 88 [.lit (.int .u8 i)] (.lit (.int .u8 (bL i))):=by
 have hr:=jz i h0 h1
 unfold bL
 cases hB : cG i with
 | true =>
  rw [hB] at hr
  by_cases h4 : i = 4
  ·rw [if_pos h4]
   refine aF Tryz.func88 8 ?_
   exact fA0
  ·rw [if_neg h4,if_pos rfl]
   refine aF Tryz.func88 8 ?_
   exact fA0
 | false =>
  have h4 : ¬ i = 4:=fun h=>by subst h;simp [uB.2] at hB
  rw [hB] at hr
  rw [if_neg h4,if_neg (by simp)]
  refine aF Tryz.func88 8 ?_
  exact fA0
theorem ge (n lo hi : Int) : Api Tryz.prog 155 [i64 n,i64 lo,i64 hi] (bol (bm lo hi n)):=by
 unfold bm
 refine aF Tryz.func155 12 ?_
 ((try with_reducible refine ab fun N hN hE hT=>?_);(conv=>whnf))
 repeat' (first|exact trivial|((first|((first|apply hT|apply hE|apply hN);clear hN hE hT)|(refine ⟨fun hb=>?_,fun hb=>?_⟩<;>(try simp only [nrm] at hb)<;>try exact kZ hb)|refine kV ?_)<;>((try with_reducible refine ab fun N hN hE hT=>?_);(conv=>whnf)))|refine kY ?_ ?_)
 all_goals first|rfl|(refine congrArg Value.bool ?_;first|(rw [decide_eq_true hb];rfl)|(rw [decide_eq_false (by omega)];rfl)|(simp;omega))|trace_state
theorem LN (n : Int) : (n == 0) = decide (n = 0):=by rw [Bool.eq_iff_iff];simp
theorem Af (c : Cmd) (h0 : 0 ≤ c.dol) (h1 : c.dol ≤ 255) : Api Tryz.prog 81 [co c] (bol (bG c)):=by
 have e1:=ge c.a 0 127
 have e2:=ge c.b 0 127
 have e3:=ge c.c 0 7
 have e4:=ge c.n 1 1000
 have e5:=ge c.a (-1) 1
 have e6:=ge c.b (-1) 1
 have e7:=ge c.c 0 1000
 have e8:=ge c.a 0 1073741824
 refine aF Tryz.func81 131 ?_
 ((try with_reducible refine ab fun N hN hE hT=>?_);(conv=>whnf))
 repeat' (first|exact trivial|((first|((first|apply hT|apply hE|apply hN);clear hN hE hT)|(refine ⟨fun hb=>?_,fun hb=>?_⟩<;>(try simp only [nrm] at hb)<;>try exact kZ hb)|refine kV ?_)<;>((try with_reducible refine ab fun N hN hE hT=>?_);(conv=>whnf)))|refine kY ?_ ?_)
 all_goals clear e1 e2 e3 e4 e5 e6 e7 e8
 all_goals first
  | (refine congrArg Value.bool ?_;(try rw [LN]);unfold bG;simp_all [dB];done)
  | trace_state
open Go Go.RowKit Eng
def Ic : dC:={ cfg with ty:=fun e=>match e with
 | 211=>some .recipe
 | e=>cfg.ty e }
theorem rB : di Tryz.prog Ic where
 mixed:=ah.mixed
 zr:=by
  intro e t h
  simp only [Ic] at h
  split at h
  ·cases h;kernel_rfl
  ·exact ah.zr _ _ h
 sz:=by
  intro e t h
  simp only [Ic] at h
  split at h
  ·cases h;exact ⟨by kernel_rfl,by kernel_rfl⟩
  ·exact ah.sz _ _ h
 pk:=ah.pk
 eq:=ah.eq
 call:=ah.call
 over:=ah.over
theorem Bc (n : Int) (h : ¬ (0 ≤ n ∧ n < 7)) : Api Tryz.prog 89 [i64 n] (.tup [.vec .slot [],.agg [.lit (.int .u8 0),i64 0],bol false]):=by
 refine Api.of_fin rB Tryz.func89 rfl (nt:=57) rfl rfl ?_
 ((try with_reducible refine ab fun N hN hE hT=>?_);(conv=>whnf))
 repeat' (first|exact trivial|((first|((first|apply hT|apply hE|apply hN);clear hN hE hT)|refine kL ?_|(refine ⟨fun hb=>?_,fun hb=>?_⟩<;>(try simp only [nrm] at hb)<;>try exact kZ hb)|refine kW rB ?_|refine kC ?_|refine bdA ?_|refine bd2 ?_|refine bdR ?_|refine bdL ?_)<;>((try with_reducible refine ab fun N hN hE hT=>?_);(conv=>whnf)))|refine kY ?_ ?_)
 all_goals first|omega|rfl|trace_state
theorem sf (n : Int) (h : 0 ≤ n) (h2 : n < 7) : Api Tryz.prog 89 [i64 n] (.tup [.vec .slot (elt .recipe bJ n.toNat).of,.agg [.lit (.int .u8 (elt .recipe bJ n.toNat).makes.item),i64 (elt .recipe bJ n.toNat).makes.n],bol true]):=by
 refine Api.of_fin rB Tryz.func89 rfl (nt:=57) rfl rfl ?_
 ((try with_reducible refine ab fun N hN hE hT=>?_);(conv=>whnf))
 repeat' (first|exact trivial|((first|((first|apply hT|apply hE|apply hN);clear hN hE hT)|refine kL ?_|(refine ⟨fun hb=>?_,fun hb=>?_⟩<;>(try simp only [nrm] at hb)<;>try exact kZ hb)|refine kW rB ?_|refine kC ?_|refine bdA ?_|refine bd2 ?_|refine bdR ?_|refine bdL ?_)<;>((try with_reducible refine ab fun N hN hE hT=>?_);(conv=>whnf)))|refine kY ?_ ?_)
 all_goals first|omega|rfl|trace_state
open Go Go.RowKit Eng
theorem f7 (l : List (El .slot)) (i : Int) (hs : ∀ s ∈ l,s.n ≤ 16) (hl : l.length ≤ 100000000000000000) : Api Tryz.prog 116 [.vec .slot l,.lit (.int .u8 i)] (i64 (ac l i)):=by
 refine aF Tryz.func116 38 ?_
 ((try with_reducible refine ab fun N hN hE hT=>?_);(conv=>whnf))
 repeat' (first|exact trivial|((first|((first|apply hT|apply hE|apply hN);clear hN hE hT)|(refine ⟨fun hb=>?_,fun hb=>?_⟩<;>(try simp only [nrm] at hb)<;>try exact kZ hb)|refine kV ?_)<;>((try with_reducible refine ab fun N hN hE hT=>?_);(conv=>whnf)))|refine kY ?_ ?_)
 refine ap.loopS ah (σ:=Nat × Int) [0,1,5,6] (fun (k,c)=>[.vec .slot l,.lit (.int .u8 i),i64 c,i64 k]) (fun _=>[]) (fun (k,c)=>k ≤ l.length ∧ c + ac (l.drop k) i = ac l i ∧ 0 ≤ c ∧ c ≤ 16 * k) (fun (k,_)=>l.length - k) (0,0) ⟨by omega,by simp,by omega,by omega⟩ ?_ ?_
 ·exact fB0
 ·rintro ⟨k,c⟩ ⟨hk,he,h0,h1⟩
  try dsimp only at hk he h0 h1
  by_cases hlt : k < l.length
  ·have hsk:=hs _ (ao (t:=.slot) hlt)
   have q0 : (elt .slot l (k : Int).toNat).item = (elt .slot l k).item:=rfl
   have q1 : (elt .slot l (k : Int).toNat).n = (elt .slot l k).n:=rfl
   rw [aY (t:=.slot) hlt] at he
   simp only [ac] at he
   have hc : cnt i (elt .slot l k) = if ¬ i = 0 ∧ (elt .slot l k).item = i then max (elt .slot l k).n 0 else 0:=rfl
   by_cases hi : ¬ i = 0 ∧ (elt .slot l k).item = i
   ·rw [if_pos hi] at hc
    obtain ⟨hi1,hi2⟩:=hi
    conv=>whnf
    repeat' (first|exact trivial|((first|((first|apply hT|apply hE|apply hN);clear hN hE hT)|(refine ⟨fun hb=>?_,fun hb=>?_⟩<;>(try simp only [nrm] at hb)<;>try exact kZ hb)|refine kV ?_)<;>((try with_reducible refine ab fun N hN hE hT=>?_);(conv=>whnf)))|refine kY ?_ ?_)
    all_goals first
     | (refine .to (k + 1,c + (elt .slot l k).n) ⟨hlt,by first|omega|(dsimp only;omega),by first|omega|(dsimp only;omega),by first|omega|(dsimp only;omega)⟩ (by first|omega|(dsimp only;omega)) ?_;(conv=>whnf))
     | (refine .to (k + 1,c) ⟨hlt,by first|omega|(dsimp only;omega),by first|omega|(dsimp only;omega),by first|omega|(dsimp only;omega)⟩ (by first|omega|(dsimp only;omega)) ?_;(conv=>whnf))
     | trace_state
    repeat' (first|exact trivial|((first|((first|apply hT|apply hE|apply hN);clear hN hE hT)|(refine ⟨fun hb=>?_,fun hb=>?_⟩<;>(try simp only [nrm] at hb)<;>try exact kZ hb)|refine kV ?_)<;>((try with_reducible refine ab fun N hN hE hT=>?_);(conv=>whnf)))|refine kY ?_ ?_)
    all_goals first|rfl|trace_state
   ·rw [if_neg hi] at hc
    have hi2 : (elt .slot l k).item = i → i = 0:=fun h=>Classical.byContradiction fun h2=>hi ⟨h2,h⟩
    conv=>whnf
    repeat' (first|exact trivial|((first|((first|apply hT|apply hE|apply hN);clear hN hE hT)|refine kL ?_|(refine ⟨fun hb=>?_,fun hb=>?_⟩<;>(try simp only [nrm] at hb)<;>try exact kZ hb)|(exact absurd (hi2 (by assumption)) (by assumption);done)|refine kV ?_)<;>((try with_reducible refine ab fun N hN hE hT=>?_);(conv=>whnf)))|refine kY ?_ ?_)
    all_goals first
     | (refine .to (k + 1,c) ⟨hlt,by first|omega|(dsimp only;omega),by first|omega|(dsimp only;omega),by first|omega|(dsimp only;omega)⟩ (by first|omega|(dsimp only;omega)) ?_;(conv=>whnf))
     | trace_state
    repeat' (first|exact trivial|((first|((first|apply hT|apply hE|apply hN);clear hN hE hT)|(refine ⟨fun hb=>?_,fun hb=>?_⟩<;>(try simp only [nrm] at hb)<;>try exact kZ hb)|refine kV ?_)<;>((try with_reducible refine ab fun N hN hE hT=>?_);(conv=>whnf)))|refine kY ?_ ?_)
    all_goals first|rfl|trace_state
  ·obtain rfl : k = l.length:=by omega
   rw [List.drop_length] at he
   have he2 : c = ac l i:=by rw [← he];simp [ac]
   rw [← he2]
   exact fB0
theorem Id {l : List (El .slot)} {j : Nat} {x : El .slot} (h : j < l.length) : elt .slot (l.set j x) j = x:=by
 unfold elt
 rw [List.getElem?_set_self h];rfl
theorem td {l : List (El .slot)} {j : Nat} : l.set j (elt .slot l j) = l:=fV (tt:=.slot) l j
theorem Ag {l : List (El .slot)} {j : Nat} : l.set j ⟨(elt .slot l j).item,(elt .slot l j).n - (0 : Nat)⟩ = l:=by
 have e : (⟨(elt .slot l j).item,(elt .slot l j).n - (0 : Nat)⟩ : aa) = elt .slot l j:=by
  have : (elt .slot l j).n - ((0 : Nat) : Int) = (elt .slot l j).n:=by omega
  rw [this]
 rw [e];exact td
theorem Gi {s : aa} (h : bC s = false) (hn : s.n = 0) : s = ⟨0,0⟩:=by
 have:=bM.1 h
 obtain ⟨a,b⟩:=s
 dsimp only at this hn
 have h1 : a = 0:=by omega
 rw [h1,hn]
theorem D4 {l : List aa} (h : an l = true) {s : aa} (hs : s ∈ l) : bC s = false:=dn.1 h s hs
theorem qv (l : List (El .slot)) (i n : Int) (hl : l.length * 16 ≤ 140737488351232) (hw : ∀ s ∈ l,aQ s) (hn : n ≤ 9223372036854775807) : Api Tryz.prog 165 [.vec .slot l,.lit (.int .u8 i),i64 n] (.tup [.vec .slot (a_ l i n).1,i64 (a_ l i n).2]):=by
 have hrt:=dz l l.length (by unfold big;omega) hw
 rw [decide_eq_true (rfl : (l.length : Int) = l.length),Bool.true_and] at hrt
 unfold a_
 cases hb : an l with
 | false =>
  rw [if_pos rfl]
  rw [hb] at hrt
  refine aF Tryz.func165 76 ?_
  exact fA0
 | true =>
  rw [if_neg (by simp)]
  rw [hb] at hrt
  have hsm:=bU hb
  have hbk:=hb
  have hct:=f7 l i (fun s hs=>(hsm s hs).2) (by omega)
  by_cases h1 : n < 1
  ·rw [if_pos h1]
   refine aF Tryz.func165 76 ?_
   exact fA0
  ·rw [if_neg h1]
   by_cases h2 : ac l i < n
   ·rw [if_pos h2]
    generalize ac l i = C at *
    refine aF Tryz.func165 76 ?_
    ((try with_reducible refine ab fun N hN hE hT=>?_);(conv=>whnf))
    repeat' (first|exact trivial|((first|((first|apply hT|apply hE|apply hN);clear hN hE hT)|refine kL ?_|(refine ⟨fun hb=>?_,fun hb=>?_⟩<;>(try simp only [nrm] at hb)<;>try exact kZ hb)|refine kE (kr (n:=0 + l.length) hct (Nat.zero_add _) rfl) [(1,25)] rfl ?_|refine kF (kr (n:=0 + l.length) hct (Nat.zero_add _) rfl) [(1,25)] rfl ?_|refine kV ?_)<;>((try with_reducible refine ab fun N hN hE hT=>?_);(conv=>whnf)))|refine kY ?_ ?_)
    all_goals first|rfl|(simp;done)|trace_state
   ·rw [if_neg h2]
    have h0 : SpI l i n l.length n l:=⟨Nat.le_refl _,rfl,by omega,hn,rfl,by rw [List.take_length,List.drop_length,List.append_nil];rfl⟩
    generalize ac l i = C at *
    refine aF Tryz.func165 76 ?_
    ((try with_reducible refine ab fun N hN hE hT=>?_);(conv=>whnf))
    repeat' (first|exact trivial|((first|((first|apply hT|apply hE|apply hN);clear hN hE hT)|refine kL ?_|(refine ⟨fun hb=>?_,fun hb=>?_⟩<;>(try simp only [nrm] at hb)<;>try exact kZ hb)|refine kE (kr (n:=0 + l.length) hct (Nat.zero_add _) rfl) [(1,25)] rfl ?_|refine kF (kr (n:=0 + l.length) hct (Nat.zero_add _) rfl) [(1,25)] rfl ?_|refine kV ?_)<;>((try with_reducible refine ab fun N hN hE hT=>?_);(conv=>whnf)))|refine kY ?_ ?_)
    refine ap.loopS ah (σ:=Nat × Int × List aa) [1,2,8,9] (fun (j,m,_)=>[.lit (.int .u8 i),i64 m,.own .slot 25 0 l.length none,i64 ((j : Int) - 1)]) (fun (_,_,r)=>[(25,.row .slot r)]) (fun (j,m,r)=>SpI l i n j m r) (fun (j,_,_)=>j) (l.length,n,l) h0 ?_ ?_
    ·exact fB0
    ·rintro ⟨j,m,r⟩ hI
     try dsimp only at hI
     have hj:=hI.jl
     have hlen:=hI.len
     have hm0:=hI.nz
     have hmm:=hI.nn
     cases j with
     | zero =>
      have hX:=hI.done (.inl rfl)
      conv=>whnf
      repeat' (first|exact trivial|((first|((first|apply hT|apply hE|apply hN);clear hN hE hT)|(refine ⟨fun hb=>?_,fun hb=>?_⟩<;>(try simp only [nrm] at hb)<;>try exact kZ hb)|refine kV ?_)<;>((try with_reducible refine ab fun N hN hE hT=>?_);(conv=>whnf)))|refine kY ?_ ?_)
      all_goals first|exact hX|(rw [List.drop_zero];exact (aC hlen).trans hX)|exact (aC hlen).trans hX|trace_state
     | succ j =>
      have hsj : 0 ≤ (elt .slot r j).n ∧ (elt .slot r j).n ≤ 16:=by rw [mm hI.pre (Nat.lt_succ_self j)];exact hsm _ (ao (t:=.slot) (by omega))
      have hbj : bC (elt .slot r j) = false:=by rw [mm hI.pre (Nat.lt_succ_self j)];exact D4 hbk (ao (t:=.slot) (by omega))
      have e1 : (((j + 1 : Nat) : Int) - 1).toNat = j:=by omega
      have e2 : (((j + 1 : Nat) : Int) - 1).toNat + 0 = j:=by omega
      by_cases hm : 0 < m
      ·conv=>whnf
       repeat' (first|exact trivial|((first|((first|apply hT|apply hE|apply hN);clear hN hE hT)|(refine ⟨fun hb=>?_,fun hb=>?_⟩<;>(try simp only [nrm] at hb)<;>try exact kZ hb)|refine kV ?_)<;>((try with_reducible refine ab fun N hN hE hT=>?_);(conv=>whnf)))|refine kY ?_ ?_)
       refine ap.loopS ah (σ:=Nat) [1,2,8,9] (fun t=>[.lit (.int .u8 i),i64 (m - t),.own .slot 25 0 l.length none,i64 (((j + 1 : Nat) : Int) - 1)]) (fun t=>[(25,.row .slot (r.set j ⟨(elt .slot r j).item,(elt .slot r j).n - t⟩))])
        (fun t=>((t : Int) ≤ m ∧ (t : Int) ≤ (elt .slot r j).n) ∧ (t = 0 ∨ (elt .slot r j).item = i)) (fun t=>(m - t).toNat) 0 ⟨by omega,.inl rfl⟩ ?_ ?_
       ·conv=>whnf
        repeat' (first|exact trivial|((first|((first|apply hT|apply hE|apply hN);clear hN hE hT)|(refine ⟨fun hb=>?_,fun hb=>?_⟩<;>(try simp only [nrm] at hb)<;>try exact kZ hb)|refine kV ?_)<;>((try with_reducible refine ab fun N hN hE hT=>?_);(conv=>whnf)))|refine kY ?_ ?_)
        all_goals first|rfl|(rw [Ag];exact aC hlen)|trace_state
       ·rintro t ⟨⟨ht1,ht2⟩,ht3⟩
        have hR : elt .slot (r.set j ⟨(elt .slot r j).item,(elt .slot r j).n - t⟩) j = ⟨(elt .slot r j).item,(elt .slot r j).n - t⟩:=Id (by omega)
        have hRl : (r.set j ⟨(elt .slot r j).item,(elt .slot r j).n - t⟩).length = l.length:=by rw [List.length_set];exact hlen
        have hRs : ∀ x,(r.set j ⟨(elt .slot r j).item,(elt .slot r j).n - t⟩).set j x = r.set j x:=fun x=>List.set_set _
        have hR0 : t = 0 → r.set j ⟨(elt .slot r j).item,(elt .slot r j).n - t⟩ = r:=fun h=>by subst h;exact Ag
        generalize r.set j ⟨(elt .slot r j).item,(elt .slot r j).n - t⟩ = R at *
        have x1 : (elt .slot R ((((j + 1 : Nat) : Int) - 1).toNat + 0)).n = (elt .slot r j).n - t:=by rw [e2,hR]
        have x2 : (elt .slot R ((((j + 1 : Nat) : Int) - 1).toNat + 0)).item = (elt .slot r j).item:=by rw [e2,hR]
        by_cases hi : (elt .slot r j).item = i
        ·have x3 : (elt .slot R ((((j + 1 : Nat) : Int) - 1).toNat + 0)).item = i:=x2.trans hi
         by_cases hc : (t : Int) < m ∧ (t : Int) < (elt .slot r j).n
         ·obtain ⟨hc1,hc2⟩:=hc
          conv=>whnf
          repeat' (first|exact trivial|((first|((first|apply hT|apply hE|apply hN);clear hN hE hT)|(refine ⟨fun hb=>?_,fun hb=>?_⟩<;>(try simp only [nrm] at hb)<;>try exact kZ hb)|refine kV ?_)<;>((try with_reducible refine ab fun N hN hE hT=>?_);(conv=>whnf)))|refine kY ?_ ?_)
          refine .to (t + 1) ⟨by omega,.inr hi⟩ (by omega) ?_
          conv=>whnf
          repeat' (first|exact trivial|((first|((first|apply hT|apply hE|apply hN);clear hN hE hT)|(refine ⟨fun hb=>?_,fun hb=>?_⟩<;>(try simp only [nrm] at hb)<;>try exact kZ hb)|refine kV ?_)<;>((try with_reducible refine ab fun N hN hE hT=>?_);(conv=>whnf)))|refine kY ?_ ?_)
          all_goals first
           | rfl
           | (refine congrArg (Value.int .i64) ?_;omega)
           | (refine (aC (by rw [List.length_set];exact hRl)).trans ?_;rw [x1,x2,e2,hRs];congr 2;omega)
           | trace_state
         ·have hmin : min (elt .slot r j).n m = t:=by omega
          have hH:=hI.hit hi hm hsj.1
          rw [hmin] at hH
          by_cases hz : (elt .slot r j).n - t = 0
          ·have hl0 : d7 (elt .slot r j) t = ⟨0,0⟩:=if_pos hz
           rw [hl0] at hH
           conv=>whnf
           repeat' (first|exact trivial|((first|((first|apply hT|apply hE|apply hN);clear hN hE hT)|(refine ⟨fun hb=>?_,fun hb=>?_⟩<;>(try simp only [nrm] at hb)<;>try exact kZ hb)|refine kV ?_)<;>((try with_reducible refine ab fun N hN hE hT=>?_);(conv=>whnf)))|refine kY ?_ ?_)
           all_goals
            refine .to (j,m - t,r.set j ⟨0,0⟩) hH (by first|omega|(dsimp only;omega)) ?_
            conv=>whnf
            repeat' (first|exact trivial|((first|((first|apply hT|apply hE|apply hN);clear hN hE hT)|(refine ⟨fun hb=>?_,fun hb=>?_⟩<;>(try simp only [nrm] at hb)<;>try exact kZ hb)|refine kV ?_)<;>((try with_reducible refine ab fun N hN hE hT=>?_);(conv=>whnf)))|refine kY ?_ ?_)
            all_goals first
             | rfl
             | (refine congrArg (Value.int .i64) ?_;omega)
             | (refine (aC (by rw [List.length_set];exact hRl)).trans ?_;rw [e2,hRs];done)
             | (refine (aC (by rw [List.length_set];exact hRl)).trans ?_;rw [e2,hRs];rfl)
             | trace_state
          ·have hl0 : d7 (elt .slot r j) t = ⟨(elt .slot r j).item,(elt .slot r j).n - t⟩:=if_neg hz
           rw [hl0] at hH
           have hRR : R = r.set j ⟨(elt .slot r j).item,(elt .slot r j).n - t⟩:=by
            have h:=hRs (elt .slot R j)
            rw [td,hR] at h
            exact h
           rw [← hRR] at hH
           conv=>whnf
           repeat' (first|exact trivial|((first|((first|apply hT|apply hE|apply hN);clear hN hE hT)|(refine ⟨fun hb=>?_,fun hb=>?_⟩<;>(try simp only [nrm] at hb)<;>try exact kZ hb)|refine kV ?_)<;>((try with_reducible refine ab fun N hN hE hT=>?_);(conv=>whnf)))|refine kY ?_ ?_)
           all_goals
            refine .to (j,m - t,R) hH (by first|omega|(dsimp only;omega)) ?_
            conv=>whnf
            repeat' (first|exact trivial|((first|((first|apply hT|apply hE|apply hN);clear hN hE hT)|(refine ⟨fun hb=>?_,fun hb=>?_⟩<;>(try simp only [nrm] at hb)<;>try exact kZ hb)|refine kV ?_)<;>((try with_reducible refine ab fun N hN hE hT=>?_);(conv=>whnf)))|refine kY ?_ ?_)
            all_goals first
             | rfl
             | (refine congrArg (Value.int .i64) ?_;omega)
             | exact aC hRl
             | trace_state
        ·obtain rfl : t = 0:=by rcases ht3 with h|h;exact h;exact absurd h hi
         have hRR:=hR0 rfl
         subst hRR
         have x3 : ¬ (elt .slot R ((((j + 1 : Nat) : Int) - 1).toNat + 0)).item = i:=by rw [e2];exact hi
         have hM:=hI.miss hi hm
         have hz : (elt .slot R j).n = 0 → R.set j ⟨0,0⟩ = R:=fun h=>by
          have h2 : (elt .slot R j) = ⟨0,0⟩:=Gi hbj h
          rw [← h2,td]
         conv=>whnf
         repeat' (first|exact trivial|((first|((first|apply hT|apply hE|apply hN);clear hN hE hT)|(refine ⟨fun hb=>?_,fun hb=>?_⟩<;>(try simp only [nrm] at hb)<;>try exact kZ hb)|refine kV ?_)<;>((try with_reducible refine ab fun N hN hE hT=>?_);(conv=>whnf)))|refine kY ?_ ?_)
         all_goals
          refine .to (j,m,R) hM (by first|omega|(dsimp only;omega)) ?_
          conv=>whnf
          repeat' (first|exact trivial|((first|((first|apply hT|apply hE|apply hN);clear hN hE hT)|(refine ⟨fun hb=>?_,fun hb=>?_⟩<;>(try simp only [nrm] at hb)<;>try exact kZ hb)|refine kV ?_)<;>((try with_reducible refine ab fun N hN hE hT=>?_);(conv=>whnf)))|refine kY ?_ ?_)
          all_goals first
           | rfl
           | (refine congrArg (Value.int .i64) ?_;omega)
           | exact aC hRl
           | (refine (aC (by rw [List.length_set];exact hRl)).trans ?_;rw [e2];exact hz (by omega))
           | trace_state
      ·have hX:=hI.done (.inr (by omega))
       conv=>whnf
       repeat' (first|exact trivial|((first|((first|apply hT|apply hE|apply hN);clear hN hE hT)|(refine ⟨fun hb=>?_,fun hb=>?_⟩<;>(try simp only [nrm] at hb)<;>try exact kZ hb)|refine kV ?_)<;>((try with_reducible refine ab fun N hN hE hT=>?_);(conv=>whnf)))|refine kY ?_ ?_)
       all_goals first|exact hX|(rw [List.drop_zero];exact (aC hlen).trans hX)|exact (aC hlen).trans hX|trace_state
theorem Bd (l : List (El .slot)) (n : Int) (hl : l.length * 16 ≤ 140737488351232) (hw : ∀ s ∈ l,aQ s) : Api Tryz.prog 164 [.vec .slot l,i64 n] (.tup [.vec .slot (cF l n).1,i64 (cF l n).2]):=by
 have hrt:=dz l l.length (by unfold big;omega) hw
 rw [decide_eq_true (rfl : (l.length : Int) = l.length),Bool.true_and] at hrt
 unfold cF
 cases hb : an l with
 | false =>
  rw [if_pos rfl]
  rw [hb] at hrt
  refine aF Tryz.func164 83 ?_
  exact fA0
 | true =>
  rw [if_neg (by simp)]
  rw [hb] at hrt
  by_cases hn : 0 ≤ n ∧ n < 7
  ·have hre:=sf n hn.1 hn.2
   have hrn:=iX hn.1 hn.2
   obtain ⟨r1,r2,r3,r4,r5,r6,r7⟩:=iY hrn
   rw [hrn]
   generalize (elt .recipe bJ n.toNat).of = W at *
   generalize (elt .recipe bJ n.toNat).makes = M at *
   dsimp only
   have hsm:=bU hb
   have hbk:=hb
   obtain ⟨g1,g2⟩:=li W l hb
   have hpu:=fE (W.foldl (fun b (s : aa)=>(a_ b s.item s.n).1) l) M.item M.n (Dp g1 hl) (aX g2) (by omega) (by omega) (by omega) (by omega)
   cases hA : W.any (fun s=>decide (ac l s.item < s.n)) with
   | true =>
    rw [if_pos rfl]
    refine aF Tryz.func164 83 ?_
    ((try with_reducible refine ab fun N hN hE hT=>?_);(conv=>whnf))
    repeat' (first|exact trivial|((first|((first|apply hT|apply hE|apply hN);clear hN hE hT)|(refine ⟨fun hb=>?_,fun hb=>?_⟩<;>(try simp only [nrm] at hb)<;>try exact kZ hb)|refine kV ?_)<;>((try with_reducible refine ab fun N hN hE hT=>?_);(conv=>whnf)))|refine kY ?_ ?_)
    refine ap.loopS ah (σ:=Nat) [0,6,7,8,10] (fun k=>[.vec .slot l,.own .slot 31 0 l.length none,.vec .slot W,.ptr 16 0,i64 k]) (fun _=>[(31,.row .slot l),(16,.box [.lit (.int .u8 M.item),i64 M.n])]) (fun k=>k ≤ W.length ∧ (W.drop k).any (fun s=>decide (ac l s.item < s.n)) = true) (fun k=>W.length - k) 0 ⟨by omega,hA⟩ ?_ ?_
    ·exact fB0
    ·rintro k ⟨hk,hany⟩
     by_cases hlt : k < W.length
     ·rw [aY (t:=.slot) hlt,List.any_cons] at hany
      have hct:=f7 l (elt .slot W k).item (fun s hs=>(hsm s hs).2) (by omega)
      have q0 : (elt .slot W (k : Int).toNat).n = (elt .slot W k).n:=rfl
      by_cases hlt2 : ac l (elt .slot W k).item < (elt .slot W k).n
      ·generalize ac l (elt .slot W k).item = C at *
       exact fB0
      ·rw [decide_eq_false hlt2,Bool.false_or] at hany
       generalize ac l (elt .slot W k).item = C at *
       conv=>whnf
       repeat' (first|exact trivial|((first|((first|apply hT|apply hE|apply hN);clear hN hE hT)|(refine ⟨fun hb=>?_,fun hb=>?_⟩<;>(try simp only [nrm] at hb)<;>try exact kZ hb)|refine kV ?_)<;>((try with_reducible refine ab fun N hN hE hT=>?_);(conv=>whnf)))|refine kY ?_ ?_)
       refine .to (k + 1) ⟨hlt,hany⟩ (by omega) ?_
       exact fB0
     ·rw [List.drop_of_length_le (by omega)] at hany
      cases hany
   | false =>
    rw [if_neg (by simp)]
    generalize hP : bk (W.foldl (fun b (s : aa)=>(a_ b s.item s.n).1) l) M.item M.n = P at *
    obtain ⟨P1,P2⟩:=P
    dsimp only at *
    rw [show (if 0 < P2 then (l,(104 : Int)) else (P1,0)) = ((if 0 < P2 then l else P1),(if 0 < P2 then (104 : Int) else 0)) by split<;>rfl]
    dsimp only
    refine aF Tryz.func164 83 ?_
    ((try with_reducible refine ab fun N hN hE hT=>?_);(conv=>whnf))
    repeat' (first|exact trivial|((first|((first|apply hT|apply hE|apply hN);clear hN hE hT)|(refine ⟨fun hb=>?_,fun hb=>?_⟩<;>(try simp only [nrm] at hb)<;>try exact kZ hb)|refine kV ?_)<;>((try with_reducible refine ab fun N hN hE hT=>?_);(conv=>whnf)))|refine kY ?_ ?_)
    refine ap.loopS ah (σ:=Nat) [0,6,7,8,10] (fun k=>[.vec .slot l,.own .slot 31 0 l.length none,.vec .slot W,.ptr 16 0,i64 k]) (fun _=>[(31,.row .slot l),(16,.box [.lit (.int .u8 M.item),i64 M.n])]) (fun k=>k ≤ W.length ∧ (W.drop k).any (fun s=>decide (ac l s.item < s.n)) = false) (fun k=>W.length - k) 0 ⟨by omega,hA⟩ ?_ ?_
    ·exact fB0
    ·rintro k ⟨hk,hany⟩
     by_cases hlt : k < W.length
     ·rw [aY (t:=.slot) hlt,List.any_cons,Bool.or_eq_false_iff,decide_eq_false_iff_not] at hany
      obtain ⟨hlt2,hany⟩:=hany
      have hct:=f7 l (elt .slot W k).item (fun s hs=>(hsm s hs).2) (by omega)
      have q0 : (elt .slot W (k : Int).toNat).n = (elt .slot W k).n:=rfl
      generalize ac l (elt .slot W k).item = C at *
      conv=>whnf
      repeat' (first|exact trivial|((first|((first|apply hT|apply hE|apply hN);clear hN hE hT)|(refine ⟨fun hb=>?_,fun hb=>?_⟩<;>(try simp only [nrm] at hb)<;>try exact kZ hb)|refine kV ?_)<;>((try with_reducible refine ab fun N hN hE hT=>?_);(conv=>whnf)))|refine kY ?_ ?_)
      refine .to (k + 1) ⟨hlt,hany⟩ (by omega) ?_
      exact fB0
     ·obtain rfl : k = W.length:=by omega
      conv=>whnf
      repeat' (first|exact trivial|((first|((first|apply hT|apply hE|apply hN);clear hN hE hT)|(refine ⟨fun hb=>?_,fun hb=>?_⟩<;>(try simp only [nrm] at hb)<;>try exact kZ hb)|refine kV ?_)<;>((try with_reducible refine ab fun N hN hE hT=>?_);(conv=>whnf)))|refine kY ?_ ?_)
      refine ap.loopS ah (σ:=Nat) [0,6,7,8,11] (fun k=>[.vec .slot ((W.take k).foldl (fun b (s : aa)=>(a_ b s.item s.n).1) l),.own .slot 31 0 l.length none,.vec .slot W,.ptr 16 0,i64 k]) (fun _=>[(31,.row .slot l),(16,.box [.lit (.int .u8 M.item),i64 M.n])]) (fun k=>k ≤ W.length) (fun k=>W.length - k) 0 (by omega) ?_ ?_
      ·exact fB0
      ·intro k hk
       obtain ⟨f1,f2⟩:=li (W.take k) l hbk
       by_cases hlt : k < W.length
       ·have hs:=r1 _ (ao (t:=.slot) hlt)
        have hsp:=qv ((W.take k).foldl (fun b (s : aa)=>(a_ b s.item s.n).1) l) (elt .slot W k).item (elt .slot W k).n (by rw [f1];exact hl) (aX f2) (by omega)
        have hnx:=rR (l:=l) hlt
        generalize a_ ((W.take k).foldl (fun b (s : aa)=>(a_ b s.item s.n).1) l) (elt .slot W k).item (elt .slot W k).n = P at *
        conv=>whnf
        repeat' (first|exact trivial|((first|((first|apply hT|apply hE|apply hN);clear hN hE hT)|(refine ⟨fun hb=>?_,fun hb=>?_⟩<;>(try simp only [nrm] at hb)<;>try exact kZ hb)|refine kV ?_)<;>((try with_reducible refine ab fun N hN hE hT=>?_);(conv=>whnf)))|refine kY ?_ ?_)
        refine .to (k + 1) hlt (by omega) ?_
        conv=>whnf
        repeat' (first|exact trivial|((first|((first|apply hT|apply hE|apply hN);clear hN hE hT)|(refine ⟨fun hb=>?_,fun hb=>?_⟩<;>(try simp only [nrm] at hb)<;>try exact kZ hb)|refine kV ?_)<;>((try with_reducible refine ab fun N hN hE hT=>?_);(conv=>whnf)))|refine kY ?_ ?_)
        all_goals first|rfl|exact hnx.symm|exact List.take_length|trace_state
       ·obtain rfl : k = W.length:=by omega
        rw [List.take_length]
        conv=>whnf
        repeat' (first|exact trivial|((first|((first|apply hT|apply hE|apply hN);clear hN hE hT)|(refine ⟨fun hb=>?_,fun hb=>?_⟩<;>(try simp only [nrm] at hb)<;>try exact kZ hb)|refine kV ?_)<;>((try with_reducible refine ab fun N hN hE hT=>?_);(conv=>whnf)))|refine kY ?_ ?_)
        all_goals first|exact (if_pos hb).symm|exact (if_neg (Int.not_lt.2 hb)).symm|(rw [if_pos hb];exact List.take_length)|(rw [if_pos hb,List.drop_zero];exact List.take_length)|rfl|trace_state
  ·have hre:=Bc n hn
   rw [lg hn]
   dsimp only
   refine aF Tryz.func164 83 ?_
   exact fA0
open Go Go.RowKit Eng
theorem sg (s : aa) (h : aQ s) : Api Tryz.prog 217 [.agg [.lit (.int .u8 s.item),.lit (.int .i64 s.n)]] (bol (ei s)):=by
 have h1:=jx s.item h.1 h.2
 refine aF Tryz.func217 13 ?_
 conv=>whnf
 repeat' (first|exact trivial|((first|(refine ⟨fun hb=>?_,fun hb=>?_⟩<;>(try simp only [nrm] at hb)<;>try exact kZ hb)|refine kV ?_)<;>(conv=>whnf))|refine kY ?_ ?_)
 all_goals (refine congrArg Value.bool ?_;rw [Bool.eq_iff_iff];simp only [ei,Bool.and_eq_true,Bool.or_eq_true,Bool.not_eq_true',Bool.and_eq_false_iff,Bool.or_eq_false_iff,decide_eq_true_eq,decide_eq_false_iff_not,beq_iff_eq,beq_eq_false_iff_ne,bne_iff_ne,ne_eq,Bool.false_eq_true,Int.toNat_natCast,eq_self,iff_true,true_iff,iff_false,false_iff,Bool.true_eq_false,not_and,Decidable.not_not,not_true_eq_false,not_false_eq_true];(first|done|omega|(simp_all;done)|(simp_all;omega)))
theorem si {c : Chunk} (h : c.heaps.any cw = true) : ai c = false:=by
 unfold ai
 rw [h]
 cases dP c
 ·rfl
 ·simp only [Bool.true_and]
  split<;>rfl
theorem Ah {c : Chunk} {bs : List Box} (hh : dP c = true) (h : bT c.cells 0 c.boxes = some bs) (hp : c.heaps.any cw = false) : ai c = decide (bs.length = 0):=by
 unfold ai
 rw [hh,h,hp]
 cases bs<;>rfl
theorem ez (c : Chunk) (hc : OkC c) : Api Tryz.prog 152 [bq c] (bol (ai c)):=by
 have nc:=hc.nc
 have nb:=hc.nb
 have nh:=hc.nh
 unfold big at nc nb nh
 refine aF Tryz.func152 125 ?_
 conv=>whnf
 repeat' (first|exact trivial|((first|(refine ⟨fun hb=>?_,fun hb=>?_⟩<;>(try simp only [nrm] at hb)<;>try exact kZ hb)|refine kV ?_)<;>(conv=>whnf))|refine kY ?_ ?_)
 all_goals (try (rw [rG (by simp only [dP,Bool.and_eq_false_iff,decide_eq_false_iff_not];omega)];done))
 have hH : dP c = true:=by simp only [dP,Bool.and_eq_true,decide_eq_true_eq];omega
 refine ap.loopS ah (σ:=Nat × Nat) [1,3,4] (fun (k,b)=>[.ptr 2 0,i64 b,i64 k]) (fun _=>[(2,.box (bB c))]) (fun (k,b)=>k ≤ 64 ∧ b ≤ c.boxes.length ∧ bT (c.cells.drop k) k (c.boxes.drop b) = bT c.cells 0 c.boxes) (fun (k,_)=>64 - k) (0,0) ⟨by omega,by omega,rfl⟩ ?_ ?_
 ·exact fD0
 ·rintro ⟨k,b⟩ ⟨hk,hb1,he⟩
  try dsimp only at hk hb1 he
  by_cases hlt : k < 64
  ·rw [aY (t:=.u8) (by omega)] at he
   simp only [bT] at he
   have hcell:=hc.cells _ (ao (t:=.u8) (i:=k) (by omega))
   have hbl:=jz (elt .u8 c.cells k) hcell.1 hcell.2
   have hE : elt .u8 c.cells (k : Int).toNat = elt .u8 c.cells k:=rfl
   cases hI : cK (elt .u8 c.cells k) with
   | false =>
    rw [hI,if_neg (by simp)] at he
    rw [gF he.symm]
    have hi0 : ¬ elt .u8 c.cells k = 0:=by intro h;rw [h] at hI;cases hI
    have hib : cG (elt .u8 c.cells k) = false:=by simpa [cK,hi0] using hI
    rw [hib] at hbl
    exact fD0
   | true =>
    rw [hI,if_pos rfl] at he
    by_cases h0 : elt .u8 c.cells k = 0
    ·rw [if_neg (by rw [h0];decide)] at he
     conv=>whnf
     repeat' (first|exact trivial|((first|(refine ⟨fun hb=>?_,fun hb=>?_⟩<;>(try simp only [nrm] at hb)<;>try exact kZ hb)|refine kV ?_)<;>(conv=>whnf))|refine kY ?_ ?_)
     refine .to (k + 1,b) ⟨by first|omega|(dsimp only;omega),hb1,he⟩ (by first|omega|(dsimp only;omega)) ?_
     exact fD0
    ·have hib : cG (elt .u8 c.cells k) = true:=by simpa [cK,h0] using hI
     rw [hib] at hbl
     by_cases h9 : elt .u8 c.cells k = 9
     ·rw [if_pos h9] at he
      by_cases hbn : b < c.boxes.length
      ·rw [aY (t:=.box) hbn] at he
       dsimp only at he
       have hbx:=hc.boxes _ (ao (t:=.box) hbn)
       have hbg:=dz (elt .box c.boxes b).bag 6 hbx.2 hbx.1
       have hE2 : (elt .box c.boxes (b : Int).toNat).cell = (elt .box c.boxes b).cell:=rfl
       by_cases hck : (elt .box c.boxes b).cell = k
       ·cases hA : gn (elt .box c.boxes b) k with
        | false =>
         rw [hA,if_neg (by simp)] at he
         rw [gF he.symm]
         have hA2 : (decide (((elt .box c.boxes b).bag.length : Int) = 6) && an (elt .box c.boxes b).bag) = false:=by simpa [gn,hck] using hA
         rw [hA2] at hbg
         exact fD0
        | true =>
         rw [hA,if_pos rfl] at he
         have hA2 : (decide (((elt .box c.boxes b).bag.length : Int) = 6) && an (elt .box c.boxes b).bag) = true:=by simpa [gn,hck] using hA
         rw [hA2] at hbg
         conv=>whnf
         repeat' (first|exact trivial|((first|(refine ⟨fun hb=>?_,fun hb=>?_⟩<;>(try simp only [nrm] at hb)<;>try exact kZ hb)|refine kV ?_)<;>(conv=>whnf))|refine kY ?_ ?_)
         refine .to (k + 1,b + 1) ⟨by first|omega|(dsimp only;omega),hbn,he⟩ (by first|omega|(dsimp only;omega)) ?_
         exact fD0
       ·have hA : gn (elt .box c.boxes b) k = false:=by simp [gn,hck]
        rw [hA,if_neg (by simp)] at he
        rw [gF he.symm]
        exact fD0
      ·rw [List.drop_of_length_le (by omega)] at he
       dsimp only at he
       rw [gF he.symm]
       exact fD0
     ·rw [if_neg h9] at he
      conv=>whnf
      repeat' (first|exact trivial|((first|(refine ⟨fun hb=>?_,fun hb=>?_⟩<;>(try simp only [nrm] at hb)<;>try exact kZ hb)|refine kV ?_)<;>(conv=>whnf))|refine kY ?_ ?_)
      refine .to (k + 1,b) ⟨by first|omega|(dsimp only;omega),hb1,he⟩ (by first|omega|(dsimp only;omega)) ?_
      exact fD0
  ·obtain rfl : k = 64:=by omega
   rw [List.drop_of_length_le (by omega)] at he
   simp only [bT] at he
   conv=>whnf
   repeat' (first|exact trivial|((first|(refine ⟨fun hb=>?_,fun hb=>?_⟩<;>(try simp only [nrm] at hb)<;>try exact kZ hb)|refine kV ?_)<;>(conv=>whnf))|refine kY ?_ ?_)
   refine ap.loopS ah (σ:=Nat) [1,3,5] (fun j=>[.ptr 2 0,i64 b,i64 j]) (fun _=>[(2,.box (bB c))]) (fun j=>j ≤ c.heaps.length ∧ (c.heaps.drop j).any cw = c.heaps.any cw) (fun j=>c.heaps.length - j) 0 ⟨by omega,rfl⟩ ?_ ?_
   ·exact fD0
   ·rintro j ⟨hj,hany⟩
    by_cases hjl : j < c.heaps.length
    ·rw [aY (t:=.heap) hjl,List.any_cons] at hany
     have hok:=hc.heaps _ (ao (t:=.heap) hjl)
     have hsl:=sg (elt .heap c.heaps j).slot hok
     have hE : (elt .heap c.heaps (j : Int).toNat).cell = (elt .heap c.heaps j).cell:=rfl
     have hbd : cw (elt .heap c.heaps j) = (!(decide (0 ≤ (elt .heap c.heaps j).cell) && decide ((elt .heap c.heaps j).cell < 64)) || !ei (elt .heap c.heaps j).slot):=rfl
     cases hS : ei (elt .heap c.heaps j).slot
     all_goals
      rw [hS] at hsl hbd
      conv=>whnf
      repeat' (first|exact trivial|((first|(refine ⟨fun hb=>?_,fun hb=>?_⟩<;>(try simp only [nrm] at hb)<;>try exact kZ hb)|refine kV ?_)<;>(conv=>whnf))|refine kY ?_ ?_)
     all_goals first
      | (rw [si (by rw [← hany,hbd];simp;omega)];done)
      | (rw [si (by rw [← hany,hbd];simp)];done)
      | (refine .to (j + 1) ⟨hjl,by rw [← hany,hbd];simp;omega⟩ (by omega) ?_;(conv=>whnf))
      | trace_state
     repeat' (first|exact trivial|((first|(refine ⟨fun hb=>?_,fun hb=>?_⟩<;>(try simp only [nrm] at hb)<;>try exact kZ hb)|refine kV ?_)<;>(conv=>whnf))|refine kY ?_ ?_)
    ·obtain rfl : j = c.heaps.length:=by omega
     rw [List.drop_length] at hany
     have e:=Ah hH he.symm hany.symm
     rw [List.length_drop] at e
     rw [e]
     conv=>whnf
     repeat' (first|exact trivial|((first|(refine ⟨fun hb=>?_,fun hb=>?_⟩<;>(try simp only [nrm] at hb)<;>try exact kZ hb)|refine kV ?_)<;>(conv=>whnf))|refine kY ?_ ?_)
     all_goals (refine congrArg Value.bool ?_;rw [Bool.eq_iff_iff];simp;omega)
theorem fc (c : Chunk) (hc : fH c) : Ev1 Tryz.prog 79 [bq c] [] (.agg (jk c 390001 390003 390005)) (ko c 390001 390003 390005):=by
 have h1:=hc.cells
 have h2:=hc.heaps
 have h3:=hc.boxes
 refine eF Tryz.func79 45 ?_
 conv=>whnf
 repeat' (first|exact trivial|((first|(refine ⟨fun hb=>?_,fun hb=>?_⟩<;>(try simp only [nrm] at hb)<;>try exact kZ hb)|refine kV ?_)<;>(conv=>whnf))|refine kY ?_ ?_)
 all_goals first|(simp;done)|skip
 refine ap.loopS ah (σ:=Nat) [1,2,3,4] (fun k=>[.ptr 200002 0,.ptr 200004 0,.ptr 200006 0,i64 k]) (fun k=>[(200002,.box (bB c)),(200004,.box (bB ⟨0,0,[],[],[]⟩)),(200006,.box [i64 c.x,i64 c.y,.own .u8 200025 0 c.cells.length none,.own .heap 200033 0 c.heaps.length none,.own .box 350001 0 k none]),(200025,.row .u8 c.cells),(200033,.row .heap c.heaps),(350001,.row .box (c.boxes.take k))]) (fun k=>k ≤ c.boxes.length) (fun k=>c.boxes.length - k) 0 (by omega) ?_ ?_
 ·exact fD0
 ·intro k hk
  by_cases hlt : k < c.boxes.length
  ·have hbk:=hc.bags _ (ao (t:=.box) hlt)
   have hnx:=ja (tt:=.box) hlt
   conv=>whnf
   repeat' (first|exact trivial|((first|(refine ⟨fun hb=>?_,fun hb=>?_⟩<;>(try simp only [nrm] at hb)<;>try exact kZ hb)|refine kV ?_)<;>(conv=>whnf))|refine kY ?_ ?_)
   refine .to (k + 1) hlt (by omega) ?_
   conv=>whnf
   repeat' (first|exact trivial|((first|(refine ⟨fun hb=>?_,fun hb=>?_⟩<;>(try simp only [nrm] at hb)<;>try exact kZ hb)|refine kV ?_)<;>(conv=>whnf))|refine kY ?_ ?_)
   all_goals first|(simp;done)|(simp;exact Ia hnx hlt (Ae _ _) rfl rfl)|trace_state
  ·obtain rfl : k = c.boxes.length:=by omega
   exact fD0
open Go Go.RowKit Eng
theorem ip (c : Chunk) (t : Int) (hc : OkC c) (hf : fH c) : Api Tryz.prog 218 [bq c,i64 t] (.tup [.vec .slot (c8 c t).1,bol (c8 c t).2]):=by
 have hrt:=ez c hc
 have hbx:=hf.boxes
 cases hR : ai c with
 | false =>
  rw [hR] at hrt
  have hs : c8 c t = ([],false):=by unfold c8;rw [if_pos hR]
  rw [hs]
  refine aF Tryz.func218 30 ?_
  exact fD0
 | true =>
  rw [hR] at hrt
  have hri:=(dK hR).rises
  rw [g8 hR]
  refine aF Tryz.func218 30 ?_
  conv=>whnf
  repeat' (first|exact trivial|((first|(refine ⟨fun hb=>?_,fun hb=>?_⟩<;>(try simp only [nrm] at hb)<;>try exact kZ hb)|refine kV ?_)<;>(conv=>whnf))|refine kY ?_ ?_)
  refine ap.loopS ah (σ:=Nat) [1,2,6] (fun i=>[i64 t,.ptr 4 0,i64 i]) (fun _=>[(4,.box (bB c))]) (fun i=>i ≤ c.boxes.length ∧ ∀ k < i,¬ (elt .box c.boxes k).cell = t) (fun i=>c.boxes.length - i) 0 ⟨by omega,by omega⟩ ?_ ?_
  ·exact fD0
  ·rintro i ⟨hi,hno⟩
   by_cases hlt : i < c.boxes.length
   ·have hbk:=hf.bags _ (ao (t:=.box) hlt)
    have hE : (elt .box c.boxes (i : Int).toNat).cell = (elt .box c.boxes i).cell:=rfl
    by_cases he : (elt .box c.boxes i).cell = t
    ·have hg:=kc hri (List.mem_of_getElem? (ar .box c.boxes i hlt))
     rw [he] at hg
     rw [hg]
     exact fD0
    ·conv=>whnf
     repeat' (first|exact trivial|((first|(refine ⟨fun hb=>?_,fun hb=>?_⟩<;>(try simp only [nrm] at hb)<;>try exact kZ hb)|refine kV ?_)<;>(conv=>whnf))|refine kY ?_ ?_)
     refine .to (i + 1) ⟨hlt,fun k hk=>?_⟩ (by omega) ?_
     ·rcases Nat.lt_succ_iff_lt_or_eq.1 hk with h|rfl
      ·exact hno k h
      ·exact he
     exact fD0
   ·obtain rfl : i = c.boxes.length:=by omega
    have hg : bu c.boxes t = none:=ep.2 fun b hb=>by obtain ⟨k,hk,rfl⟩:=rA (tt:=.box) hb;exact hno k hk
    rw [hg]
    exact fD0
theorem sj (c : Chunk) (t : Int) (s : aa) (hc : OkC c) (hf : fH c) (hs : aQ s) : Api Tryz.prog 162 [bq c,i64 t,.agg [.lit (.int .u8 s.item),.lit (.int .i64 s.n)]] (.tup [bq (b9 c t s).1,i64 (b9 c t s).2]):=by
 have hrt:=ez c hc
 have hsl:=sg s hs
 have hcp:=fc c hf
 have hhe:=hf.heaps
 unfold b9
 cases hR : ai c with
 | false =>
  rw [hR] at hrt
  rw [if_pos rfl]
  refine aF Tryz.func162 37 ?_
  ((try with_reducible refine ab fun N hN hE hT=>?_);(conv=>whnf))
  repeat' (first|exact trivial|((first|((first|apply hT|apply hE|apply hN);clear hN hE hT)|refine kL ?_|(refine ⟨fun hb=>?_,fun hb=>?_⟩<;>(try simp only [nrm] at hb)<;>try exact kZ hb)|refine kE hcp [(390001,150001),(390003,150003),(390005,150005)] rfl ?_|refine kF hcp [(390001,150001),(390003,150003),(390005,150005)] rfl ?_|refine kV ?_)<;>((try with_reducible refine ab fun N hN hE hT=>?_);(conv=>whnf)))|refine kY ?_ ?_)
  all_goals first|rfl|(simp;done)|omega|trace_state
 | true =>
  rw [hR] at hrt
  rw [if_neg (by simp)]
  by_cases ht : 0 ≤ t ∧ t < 64
  ·rw [if_neg (not_not_intro ht)]
   cases hS : ei s with
   | false =>
    rw [hS] at hsl
    rw [if_pos rfl]
    refine aF Tryz.func162 37 ?_
    ((try with_reducible refine ab fun N hN hE hT=>?_);(conv=>whnf))
    repeat' (first|exact trivial|((first|((first|apply hT|apply hE|apply hN);clear hN hE hT)|refine kL ?_|(refine ⟨fun hb=>?_,fun hb=>?_⟩<;>(try simp only [nrm] at hb)<;>try exact kZ hb)|refine kE hcp [(390001,150001),(390003,150003),(390005,150005)] rfl ?_|refine kF hcp [(390001,150001),(390003,150003),(390005,150005)] rfl ?_|refine kV ?_)<;>((try with_reducible refine ab fun N hN hE hT=>?_);(conv=>whnf)))|refine kY ?_ ?_)
    all_goals first|rfl|(simp;done)|omega|trace_state
   | true =>
    rw [hS] at hsl
    rw [if_neg (by simp)]
    by_cases hn : 32 ≤ c.heaps.length
    ·rw [if_pos hn]
     refine aF Tryz.func162 37 ?_
     ((try with_reducible refine ab fun N hN hE hT=>?_);(conv=>whnf))
     repeat' (first|exact trivial|((first|((first|apply hT|apply hE|apply hN);clear hN hE hT)|refine kL ?_|(refine ⟨fun hb=>?_,fun hb=>?_⟩<;>(try simp only [nrm] at hb)<;>try exact kZ hb)|refine kE hcp [(390001,150001),(390003,150003),(390005,150005)] rfl ?_|refine kF hcp [(390001,150001),(390003,150003),(390005,150005)] rfl ?_|refine kV ?_)<;>((try with_reducible refine ab fun N hN hE hT=>?_);(conv=>whnf)))|refine kY ?_ ?_)
     all_goals first|rfl|(simp;done)|omega|trace_state
    ·rw [if_neg hn]
     refine aF Tryz.func162 37 ?_
     ((try with_reducible refine ab fun N hN hE hT=>?_);(conv=>whnf))
     repeat' (first|exact trivial|((first|((first|apply hT|apply hE|apply hN);clear hN hE hT)|refine kL ?_|(refine ⟨fun hb=>?_,fun hb=>?_⟩<;>(try simp only [nrm] at hb)<;>try exact kZ hb)|refine kE hcp [(390001,150001),(390003,150003),(390005,150005)] rfl ?_|refine kF hcp [(390001,150001),(390003,150003),(390005,150005)] rfl ?_|refine kV ?_)<;>((try with_reducible refine ab fun N hN hE hT=>?_);(conv=>whnf)))|refine kY ?_ ?_)
     all_goals first|rfl|(simp;done)|omega|exact eG rfl|trace_state
  ·rw [if_pos ht]
   refine aF Tryz.func162 37 ?_
   ((try with_reducible refine ab fun N hN hE hT=>?_);(conv=>whnf))
   repeat' (first|exact trivial|((first|((first|apply hT|apply hE|apply hN);clear hN hE hT)|refine kL ?_|(refine ⟨fun hb=>?_,fun hb=>?_⟩<;>(try simp only [nrm] at hb)<;>try exact kZ hb)|refine kE hcp [(390001,150001),(390003,150003),(390005,150005)] rfl ?_|refine kF hcp [(390001,150001),(390003,150003),(390005,150005)] rfl ?_|refine kV ?_)<;>((try with_reducible refine ab fun N hN hE hT=>?_);(conv=>whnf)))|refine kY ?_ ?_)
   all_goals first|rfl|(simp;done)|omega|trace_state
theorem Be (c : Chunk) (t : Int) (hc : OkC c) (hf : fH c) : Api Tryz.prog 222 [bq c,i64 t] (.tup [bq (cE c t).1,.vec .slot (cE c t).2]):=by
 have hrt:=ez c hc
 have hcp:=fc c hf
 have hhe:=hf.heaps
 unfold cE
 cases hR : ai c with
 | false =>
  rw [hR] at hrt
  rw [if_neg (by simp)]
  refine aF Tryz.func222 50 ?_
  ((try with_reducible refine ab fun N hN hE hT=>?_);(conv=>whnf))
  repeat' (first|exact trivial|((first|((first|apply hT|apply hE|apply hN);clear hN hE hT)|refine kL ?_|(refine ⟨fun hb=>?_,fun hb=>?_⟩<;>(try simp only [nrm] at hb)<;>try exact kZ hb)|refine kE hcp [(390001,150001),(390003,150003),(390005,150005)] rfl ?_|refine kF hcp [(390001,150001),(390003,150003),(390005,150005)] rfl ?_|refine kV ?_)<;>((try with_reducible refine ab fun N hN hE hT=>?_);(conv=>whnf)))|refine kY ?_ ?_)
  all_goals first|rfl|(simp;done)|omega|trace_state
 | true =>
  rw [hR] at hrt
  rw [if_pos rfl]
  refine aF Tryz.func222 50 ?_
  ((try with_reducible refine ab fun N hN hE hT=>?_);(conv=>whnf))
  repeat' (first|exact trivial|((first|((first|apply hT|apply hE|apply hN);clear hN hE hT)|refine kL ?_|(refine ⟨fun hb=>?_,fun hb=>?_⟩<;>(try simp only [nrm] at hb)<;>try exact kZ hb)|refine kE hcp [(390001,150001),(390003,150003),(390005,150005)] rfl ?_|refine kF hcp [(390001,150001),(390003,150003),(390005,150005)] rfl ?_|refine kV ?_)<;>((try with_reducible refine ab fun N hN hE hT=>?_);(conv=>whnf)))|refine kY ?_ ?_)
  refine ap.loopS ah (σ:=Nat) [1,4,6,7,8,9] (fun k=>[i64 t,.ptr 8 0,.ptr 12 0,.own .heap 95 0 (de t (c.heaps.take k)).length none,.own .slot 79 0 (c7 t (c.heaps.take k)).length none,i64 k])
   (fun k=>(8,.box (bB ⟨0,0,[],[],[]⟩)) :: (12,.box (jk c 150001 150003 150005)) :: (95,.row .heap (de t (c.heaps.take k))) :: (79,.row .slot (c7 t (c.heaps.take k))) :: ko c 150001 150003 150005) (fun k=>k ≤ c.heaps.length) (fun k=>c.heaps.length - k) 0 (by omega) ?_ ?_
  ·exact fB0
  ·intro k hk
   by_cases hlt : k < c.heaps.length
   ·have n1:=oV (cell:=t) hlt
    have n2:=oW (cell:=t) hlt
    have l1:=s5 (cell:=t) (l:=c.heaps) (k:=k) (by omega)
    have l2:=zD (cell:=t) (l:=c.heaps) (k:=k) (by omega)
    have hE : (elt .heap c.heaps ((k : Int).toNat + 0)).cell = (elt .heap c.heaps k).cell:=rfl
    generalize de t (c.heaps.take k) = A at *
    generalize c7 t (c.heaps.take k) = B at *
    by_cases he : (elt .heap c.heaps k).cell = t
    ·rw [if_pos he] at n1 n2
     rw [List.append_nil] at n1
     conv=>whnf
     repeat' (first|exact trivial|((first|((first|apply hT|apply hE|apply hN);clear hN hE hT)|(refine ⟨fun hb=>?_,fun hb=>?_⟩<;>(try simp only [nrm] at hb)<;>try exact kZ hb)|refine kV ?_)<;>((try with_reducible refine ab fun N hN hE hT=>?_);(conv=>whnf)))|refine kY ?_ ?_)
     refine .to (k + 1) hlt (by omega) ?_
     rw [n1,n2]
     exact fB0
    ·rw [if_neg he] at n1 n2
     rw [List.append_nil] at n2
     conv=>whnf
     repeat' (first|exact trivial|((first|((first|apply hT|apply hE|apply hN);clear hN hE hT)|(refine ⟨fun hb=>?_,fun hb=>?_⟩<;>(try simp only [nrm] at hb)<;>try exact kZ hb)|refine kV ?_)<;>((try with_reducible refine ab fun N hN hE hT=>?_);(conv=>whnf)))|refine kY ?_ ?_)
     refine .to (k + 1) hlt (by omega) ?_
     rw [n1,n2]
     exact fB0
   ·obtain rfl : k = c.heaps.length:=by omega
    rw [List.take_length]
    exact fB0
theorem sk (c : Chunk) (t : Int) (l : List (El .slot)) (hc : OkC c) (hf : fH c) (hl : l.length * 16 ≤ 140737488351232) (hw : ∀ s ∈ l,aQ s) : Api Tryz.prog 221 [bq c,i64 t,.vec .slot l] (.tup [bq (ct c t l).1,i64 (ct c t l).2]):=by
 have hrt:=ez c hc
 have hcp:=fc c hf
 have hbx:=ip c t hc hf
 have hbg:=dz l 6 (by unfold big;omega) hw
 change Api _ _ _ (bol (jq l)) at hbg
 have hbl:=hf.boxes
 cases hR : ai c with
 | false =>
  rw [hR] at hrt
  have hs : ct c t l = (c,101):=by unfold ct;rw [if_pos hR]
  rw [hs]
  refine aF Tryz.func221 52 ?_
  ((try with_reducible refine ab fun N hN hE hT=>?_);(conv=>whnf))
  repeat' (first|exact trivial|((first|((first|apply hT|apply hE|apply hN);clear hN hE hT)|refine kL ?_|(refine ⟨fun hb=>?_,fun hb=>?_⟩<;>(try simp only [nrm] at hb)<;>try exact kZ hb)|refine kE hcp [(390001,150001),(390003,150003),(390005,150005)] rfl ?_|refine kF hcp [(390001,150001),(390003,150003),(390005,150005)] rfl ?_|refine kV ?_)<;>((try with_reducible refine ab fun N hN hE hT=>?_);(conv=>whnf)))|refine kY ?_ ?_)
  all_goals first|rfl|(simp;done)|omega|trace_state
 | true =>
  rw [hR] at hrt
  rw [g8 hR] at hbx
  rw [kd hR]
  try dsimp only at hbx
  cases hg : (bu c.boxes t).isSome with
  | false =>
   rw [hg] at hbx
   rw [if_pos rfl]
   generalize (bu c.boxes t).getD [] = G at *
   refine aF Tryz.func221 52 ?_
   ((try with_reducible refine ab fun N hN hE hT=>?_);(conv=>whnf))
   repeat' (first|exact trivial|((first|((first|apply hT|apply hE|apply hN);clear hN hE hT)|refine kL ?_|(refine ⟨fun hb=>?_,fun hb=>?_⟩<;>(try simp only [nrm] at hb)<;>try exact kZ hb)|refine kE hcp [(390001,150001),(390003,150003),(390005,150005)] rfl ?_|refine kF hcp [(390001,150001),(390003,150003),(390005,150005)] rfl ?_|refine kV ?_)<;>((try with_reducible refine ab fun N hN hE hT=>?_);(conv=>whnf)))|refine kY ?_ ?_)
   all_goals first|rfl|(simp;done)|omega|trace_state
  | true =>
   rw [hg] at hbx
   rw [if_neg (by simp)]
   have hth : b_ c.boxes t = true:=by rw [mW (cS hR).up];exact hg
   obtain ⟨hlt0,hce⟩:=ky hth
   have hri:=(dK hR).rises
   generalize (bu c.boxes t).getD [] = G at *
   cases hb : jq l with
   | false =>
    rw [hb] at hbg
    rw [if_pos rfl]
    refine aF Tryz.func221 52 ?_
    ((try with_reducible refine ab fun N hN hE hT=>?_);(conv=>whnf))
    repeat' (first|exact trivial|((first|((first|apply hT|apply hE|apply hN);clear hN hE hT)|refine kL ?_|(refine ⟨fun hb=>?_,fun hb=>?_⟩<;>(try simp only [nrm] at hb)<;>try exact kZ hb)|refine kE hcp [(390001,150001),(390003,150003),(390005,150005)] rfl ?_|refine kF hcp [(390001,150001),(390003,150003),(390005,150005)] rfl ?_|refine kV ?_)<;>((try with_reducible refine ab fun N hN hE hT=>?_);(conv=>whnf)))|refine kY ?_ ?_)
    all_goals first|rfl|(simp;done)|omega|trace_state
   | true =>
    rw [hb] at hbg
    rw [if_neg (by simp)]
    unfold vj nv
    generalize hat : lb t c.boxes = at_ at *
    refine aF Tryz.func221 52 ?_
    ((try with_reducible refine ab fun N hN hE hT=>?_);(conv=>whnf))
    repeat' (first|exact trivial|((first|((first|apply hT|apply hE|apply hN);clear hN hE hT)|refine kL ?_|(refine ⟨fun hb=>?_,fun hb=>?_⟩<;>(try simp only [nrm] at hb)<;>try exact kZ hb)|refine kE hcp [(390001,150001),(390003,150003),(390005,150005)] rfl ?_|refine kF hcp [(390001,150001),(390003,150003),(390005,150005)] rfl ?_|refine kV ?_)<;>((try with_reducible refine ab fun N hN hE hT=>?_);(conv=>whnf)))|refine kY ?_ ?_)
    refine ap.loopS ah (σ:=Nat) [1,2,6,8,11] (fun k=>[i64 t,.vec .slot l,.ptr 12 0,.ptr 16 0,i64 k])
     (fun k=>[(12,.box (bB ⟨0,0,[],[],[]⟩)),(16,.box (jk c 150001 150003 150005)),(150001,.row .u8 c.cells),(150003,.row .heap c.heaps),(150005,.row .box (if at_ < k then c.boxes.set at_ ⟨t,l⟩ else c.boxes))]) (fun k=>k ≤ c.boxes.length) (fun k=>c.boxes.length - k) 0 (by omega) ?_ ?_
    ·exact fB0
    ·intro k hk
     by_cases hlt : k < c.boxes.length
     ·by_cases he : at_ = k
      ·subst he
       rw [if_neg (by omega)]
       have hE : (elt .box c.boxes (at_ + 0)).cell = t:=hce
       conv=>whnf
       repeat' (first|exact trivial|((first|((first|apply hT|apply hE|apply hN);clear hN hE hT)|(refine ⟨fun hb=>?_,fun hb=>?_⟩<;>(try simp only [nrm] at hb)<;>try exact kZ hb)|refine kV ?_)<;>((try with_reducible refine ab fun N hN hE hT=>?_);(conv=>whnf)))|refine kY ?_ ?_)
       refine .to (at_ + 1) hlt (by omega) ?_
       rw [if_pos (by omega)]
       conv=>whnf
       repeat' (first|exact trivial|((first|((first|apply hT|apply hE|apply hN);clear hN hE hT)|(refine ⟨fun hb=>?_,fun hb=>?_⟩<;>(try simp only [nrm] at hb)<;>try exact kZ hb)|refine kV ?_)<;>((try with_reducible refine ab fun N hN hE hT=>?_);(conv=>whnf)))|refine kY ?_ ?_)
       all_goals first|rfl|(simp;done)|(refine (aC (List.length_set ..)).trans ?_;rw [show (elt .box c.boxes ((at_ : Int).toNat + 0)).cell = t from hce];simp;done)|trace_state
      ·have hne : ¬ (elt .box c.boxes k).cell = t:=fun h=>by
        rcases Nat.lt_or_gt_of_ne he with h1|h1
        ·have:=mf hri h1 hlt;omega
        ·have:=mf hri h1 hlt0;omega
       have hlen : (if at_ < k then c.boxes.set at_ ⟨t,l⟩ else c.boxes).length = c.boxes.length:=by split<;>simp
       have hel : (elt .box (if at_ < k then c.boxes.set at_ ⟨t,l⟩ else c.boxes) (k + 0)).cell = (elt .box c.boxes k).cell:=by
        split
        ·unfold elt;simp only [Int.toNat_natCast,Nat.add_zero];rw [List.getElem?_set_ne he]
        ·rfl
       have hnx : (if at_ < k + 1 then c.boxes.set at_ ⟨t,l⟩ else c.boxes) = (if at_ < k then c.boxes.set at_ ⟨t,l⟩ else c.boxes):=by
        by_cases h : at_ < k
        ·rw [if_pos h,if_pos (by omega)]
        ·rw [if_neg h,if_neg (by omega)]
       generalize (if at_ < k then c.boxes.set at_ ⟨t,l⟩ else c.boxes) = B at *
       conv=>whnf
       repeat' (first|exact trivial|((first|((first|apply hT|apply hE|apply hN);clear hN hE hT)|(refine ⟨fun hb=>?_,fun hb=>?_⟩<;>(try simp only [nrm] at hb)<;>try exact kZ hb)|refine kV ?_)<;>((try with_reducible refine ab fun N hN hE hT=>?_);(conv=>whnf)))|refine kY ?_ ?_)
       refine .to (k + 1) hlt (by omega) ?_
       rw [hnx]
       conv=>whnf
       repeat' (first|exact trivial|((first|((first|apply hT|apply hE|apply hN);clear hN hE hT)|(refine ⟨fun hb=>?_,fun hb=>?_⟩<;>(try simp only [nrm] at hb)<;>try exact kZ hb)|refine kV ?_)<;>((try with_reducible refine ab fun N hN hE hT=>?_);(conv=>whnf)))|refine kY ?_ ?_)
       all_goals first|rfl|(simp;done)|exact aC hlen|trace_state
     ·obtain rfl : k = c.boxes.length:=by omega
      rw [if_pos hlt0]
      conv=>whnf
      repeat' (first|exact trivial|((first|((first|apply hT|apply hE|apply hN);clear hN hE hT)|(refine ⟨fun hb=>?_,fun hb=>?_⟩<;>(try simp only [nrm] at hb)<;>try exact kZ hb)|refine kV ?_)<;>((try with_reducible refine ab fun N hN hE hT=>?_);(conv=>whnf)))|refine kY ?_ ?_)
      all_goals first|rfl|(simp;done)|(rw [List.drop_zero];exact aC (List.length_set ..))|trace_state
theorem Ie {l : List aa} (h : ∀ k < l.length,¬ 0 < (elt .slot l k).n) : ij l = false:=by
 unfold ij
 rw [List.any_eq_false]
 intro s hs
 obtain ⟨k,hk,rfl⟩:=rA (tt:=.slot) hs
 have:=h k hk
 simp [eE];omega
theorem Bf {l : List aa} (h : ij l = false) {s : aa} (hs : s ∈ l) : eE s = false:=by
 unfold ij at h
 rw [List.any_eq_false] at h
 simpa using h s hs
theorem D5 {c : Chunk} (h : ai c = true) (t : Int) : jr c t = ij (c8 c t).1:=by
 rw [g8 h]
 unfold jr
 cases bu c.boxes t<;>rfl
theorem Gj {l : List Box} (h : rises l) {t i k : Int} : ltK Box.cell (k + 1) (fj l t i) = ltK Box.cell k (fj l t i) ++ (if k = t then (if i = 9 then [⟨t,eo⟩] else []) else ((bu l k).map fun s=>(⟨k,s⟩ : Box)).toList):=by
 rw [tb (vt.1 (ls h t i)),Ib (ls h t i),wl h]
 by_cases hk : k = t
 ·rw [if_pos hk,if_pos hk]
  subst hk
  split<;>rfl
 ·rw [if_neg hk,if_neg hk]
theorem uC (c : Chunk) (t i : Int) (hc : OkC c) (hf : fH c) (h0 : 0 ≤ i) (h1 : i ≤ 255) : Api Tryz.prog 219 [bq c,i64 t,.lit (.int .u8 i)] (.tup [bq (cC c t i).1,i64 (cC c t i).2]):=by
 have hrt:=ez c hc
 have hcp:=fc c hf
 have hbx:=ip c t hc hf
 have hbl:=jz i h0 h1
 have hbn:=hf.boxes
 cases hR : ai c with
 | false =>
  rw [hR] at hrt
  have hs : cC c t i = (c,101):=by unfold cC;rw [if_pos hR]
  rw [hs]
  refine aF Tryz.func219 94 ?_
  ((try with_reducible refine ab fun N hN hE hT=>?_);(conv=>whnf))
  repeat' (first|exact trivial|((first|((first|apply hT|apply hE|apply hN);clear hN hE hT)|refine kL ?_|(refine ⟨fun hb=>?_,fun hb=>?_⟩<;>(try simp only [nrm] at hb)<;>try exact kZ hb)|refine kE hcp [(390001,150001),(390003,150003),(390005,150005)] rfl ?_|refine kF hcp [(390001,150001),(390003,150003),(390005,150005)] rfl ?_|refine kV ?_)<;>((try with_reducible refine ab fun N hN hE hT=>?_);(conv=>whnf)))|refine kY ?_ ?_)
  all_goals first|rfl|(simp;done)|omega|trace_state
 | true =>
  rw [hR] at hrt
  by_cases hin : 0 ≤ t ∧ t < 64
  ·rw [lu hR hin.1 hin.2]
   cases hI : cK i with
   | false =>
    rw [if_pos rfl]
    have h2 : ¬ i = 0 ∧ cG i = false:=by simpa [cK] using hI
    rw [h2.2] at hbl
    have h3:=h2.1
    refine aF Tryz.func219 94 ?_
    ((try with_reducible refine ab fun N hN hE hT=>?_);(conv=>whnf))
    repeat' (first|exact trivial|((first|((first|apply hT|apply hE|apply hN);clear hN hE hT)|refine kL ?_|(refine ⟨fun hb=>?_,fun hb=>?_⟩<;>(try simp only [nrm] at hb)<;>try exact kZ hb)|refine kE hcp [(390001,150001),(390003,150003),(390005,150005)] rfl ?_|refine kF hcp [(390001,150001),(390003,150003),(390005,150005)] rfl ?_|refine kV ?_)<;>((try with_reducible refine ab fun N hN hE hT=>?_);(conv=>whnf)))|refine kY ?_ ?_)
    all_goals first|rfl|(simp;done)|omega|trace_state
   | true =>
    rw [if_neg (by simp)]
    have h2 : i = 0 ∨ cG i = true:=by simpa [cK] using hI
    have h3 : cG i = false → i = 0:=fun h=>by rcases h2 with h2|h2;exact h2;rw [h] at h2;cases h2
    rw [D5 hR]
    have hri:=(dK hR).rises
    have hbd:=(gB _ _ _ (dK hR).go).2
    have hlen:=eu hR
    generalize hG : (c8 c t).1 = G at *
    generalize (c8 c t).2 = g at *
    have hGl : G.length ≤ 9000000000000000000:=by
     rw [← hG,g8 hR]
     cases hgb : bu c.boxes t with
     | none=>simp
     | some s =>
      obtain ⟨b,hb,_,rfl⟩:=oQ hgb
      have:=(i7 hR hb).1
      simp;omega
    cases hF : ij G with
    | true =>
     rw [if_pos rfl]
     refine aF Tryz.func219 94 ?_
     conv=>whnf
     repeat' (first|exact trivial|((first|refine kL ?_|(refine ⟨fun hb=>?_,fun hb=>?_⟩<;>(try simp only [nrm] at hb)<;>try exact kZ hb)|(exact absurd (h3 (by assumption)) (by assumption);done)|refine kE hcp [(390001,150001),(390003,150003),(390005,150005)] rfl ?_|refine kF hcp [(390001,150001),(390003,150003),(390005,150005)] rfl ?_|refine kV ?_)<;>(conv=>whnf))|refine kY ?_ ?_)
     all_goals
      refine ap.loopS ah (σ:=Nat) [1,2,3,6,8,9,11] (fun j=>[i64 t,.lit (.int .u8 i),.ptr 6 0,.ptr 12 0,.ptr 16 0,.vec .slot G,i64 j]) (fun _=>(6,.box (bB c)) :: (12,.box (bB ⟨0,0,[],[],[]⟩)) :: (16,.box (jk c 150001 150003 150005)) :: ko c 150001 150003 150005) (fun j=>j ≤ G.length ∧ ∀ m < j,¬ 0 < (elt .slot G m).n) (fun j=>G.length - j) 0 ⟨by omega,by omega⟩ ?_ ?_
      ·exact fD0
      ·rintro j ⟨hj,hno⟩
       by_cases hlt : j < G.length
       ·have q0 : (elt .slot G (j : Int).toNat).n = (elt .slot G j).n:=rfl
        by_cases hp : 0 < (elt .slot G j).n
        ·exact fD0
        ·conv=>whnf
         repeat' (first|exact trivial|((first|(refine ⟨fun hb=>?_,fun hb=>?_⟩<;>(try simp only [nrm] at hb)<;>try exact kZ hb)|refine kV ?_)<;>(conv=>whnf))|refine kY ?_ ?_)
         refine .to (j + 1) ⟨hlt,fun m hm=>?_⟩ (by omega) ?_
         ·rcases Nat.lt_succ_iff_lt_or_eq.1 hm with h|rfl
          ·exact hno m h
          ·exact hp
         exact fD0
       ·obtain rfl : j = G.length:=by omega
        rw [Ie hno] at hF
        cases hF
    | false =>
     rw [if_neg (by simp)]
     have hst:=fun k=>Gj (k:=k) hri (t:=t) (i:=i)
     have hrp:=ls hri t i
     have hTb : ∀ b ∈ fj c.boxes t i,0 ≤ b.cell ∧ b.cell < 64:=fun b hb=>by
      rcases zA hri hb with hb|⟨_,rfl⟩
      ·have:=hbd b hb;omega
      ·exact hin
     unfold p8
     dsimp only
     generalize fj c.boxes t i = T at *
     refine aF Tryz.func219 94 ?_
     conv=>whnf
     repeat' (first|exact trivial|((first|refine kL ?_|(refine ⟨fun hb=>?_,fun hb=>?_⟩<;>(try simp only [nrm] at hb)<;>try exact kZ hb)|(exact absurd (h3 (by assumption)) (by assumption);done)|refine kE hcp [(390001,150001),(390003,150003),(390005,150005)] rfl ?_|refine kF hcp [(390001,150001),(390003,150003),(390005,150005)] rfl ?_|refine kV ?_)<;>(conv=>whnf))|refine kY ?_ ?_)
     all_goals
      refine ap.loopS ah (σ:=Nat) [1,2,3,6,8,9,11] (fun j=>[i64 t,.lit (.int .u8 i),.ptr 6 0,.ptr 12 0,.ptr 16 0,.vec .slot G,i64 j]) (fun _=>(6,.box (bB c)) :: (12,.box (bB ⟨0,0,[],[],[]⟩)) :: (16,.box (jk c 150001 150003 150005)) :: ko c 150001 150003 150005) (fun j=>j ≤ G.length) (fun j=>G.length - j) 0 (by omega) ?_ ?_
      ·exact fD0
      ·intro j hj
       by_cases hlt : j < G.length
       ·have q0 : (elt .slot G (j : Int).toNat).n = (elt .slot G j).n:=rfl
        have hp : ¬ 0 < (elt .slot G j).n:=fun hp=>by
         have:=Bf hF (ao (t:=.slot) hlt)
         simp [eE] at this
         omega
        conv=>whnf
        repeat' (first|exact trivial|((first|(refine ⟨fun hb=>?_,fun hb=>?_⟩<;>(try simp only [nrm] at hb)<;>try exact kZ hb)|refine kV ?_)<;>(conv=>whnf))|refine kY ?_ ?_)
        refine .to (j + 1) hlt (by omega) ?_
        exact fD0
       ·obtain rfl : j = G.length:=by omega
        conv=>whnf
        repeat' (first|exact trivial|((first|(refine ⟨fun hb=>?_,fun hb=>?_⟩<;>(try simp only [nrm] at hb)<;>try exact kZ hb)|refine kV ?_)<;>(conv=>whnf))|refine kY ?_ ?_)
        refine ap.loopS ah (σ:=Nat × List Box) [1,2,3,6,8,12,13] (fun (k,L)=>[i64 t,.lit (.int .u8 i),.ptr 6 0,.ptr 12 0,.ptr 16 0,.own .box 150101 0 L.length none,i64 k]) (fun (_,L)=>(6,.box (bB c)) :: (12,.box (bB ⟨0,0,[],[],[]⟩)) :: (16,.box (jk c 150001 150003 150005)) :: (150101,.row .box L) :: ko c 150001 150003 150005)
         (fun (k,L)=>k ≤ 64 ∧ L = ltK Box.cell k T ∧ L.length ≤ k) (fun (k,_)=>64 - k) (0,[]) ⟨by omega,(Ck fun b hb=>(hTb b hb).1).symm,by simp⟩ ?_ ?_
        ·exact fD0
        ·rintro ⟨k,L⟩ ⟨hk,hL,hLl⟩
         try dsimp only at hk hL hLl
         by_cases hlt : k < 64
         ·have hs1:=hst k
          rw [← hL] at hs1
          by_cases hkt : (k : Int) = t
          ·rw [if_pos hkt] at hs1
           by_cases h9 : i = 9
           ·rw [if_pos h9] at hs1
            conv=>whnf
            repeat' (first|exact trivial|((first|(refine ⟨fun hb=>?_,fun hb=>?_⟩<;>(try simp only [nrm] at hb)<;>try exact kZ hb)|refine kV ?_)<;>(conv=>whnf))|refine kY ?_ ?_)
            all_goals
             refine .to (k + 1,L ++ [⟨t,eo⟩]) ⟨hlt,hs1.symm,by simp;omega⟩ (by first|omega|(dsimp only;omega)) ?_
             exact fD0
           ·rw [if_neg h9,List.append_nil] at hs1
            conv=>whnf
            repeat' (first|exact trivial|((first|(refine ⟨fun hb=>?_,fun hb=>?_⟩<;>(try simp only [nrm] at hb)<;>try exact kZ hb)|refine kV ?_)<;>(conv=>whnf))|refine kY ?_ ?_)
            refine .to (k + 1,L) ⟨hlt,hs1.symm,by first|omega|(dsimp only;omega)⟩ (by first|omega|(dsimp only;omega)) ?_
            exact fD0
          ·rw [if_neg hkt] at hs1
           have hbk:=ip c k hc hf
           rw [g8 hR] at hbk
           cases hgk : bu c.boxes k with
           | none =>
            rw [hgk] at hbk hs1
            simp only [Option.map_none,Option.toList_none,List.append_nil] at hs1
            dsimp only [Option.getD_none,Option.isSome_none] at hbk
            conv=>whnf
            repeat' (first|exact trivial|((first|(refine ⟨fun hb=>?_,fun hb=>?_⟩<;>(try simp only [nrm] at hb)<;>try exact kZ hb)|refine kV ?_)<;>(conv=>whnf))|refine kY ?_ ?_)
            refine .to (k + 1,L) ⟨hlt,hs1.symm,by first|omega|(dsimp only;omega)⟩ (by first|omega|(dsimp only;omega)) ?_
            exact fD0
           | some u =>
            rw [hgk] at hbk hs1
            simp only [Option.map_some,Option.toList_some] at hs1
            dsimp only [Option.getD_some,Option.isSome_some] at hbk
            conv=>whnf
            repeat' (first|exact trivial|((first|(refine ⟨fun hb=>?_,fun hb=>?_⟩<;>(try simp only [nrm] at hb)<;>try exact kZ hb)|refine kV ?_)<;>(conv=>whnf))|refine kY ?_ ?_)
            refine .to (k + 1,L ++ [⟨k,u⟩]) ⟨hlt,hs1.symm,by simp;omega⟩ (by first|omega|(dsimp only;omega)) ?_
            exact fD0
         ·obtain rfl : k = 64:=by omega
          have hL2 : L = T:=by rw [hL];exact Cl fun b hb=>(hTb b hb).2
          subst hL2
          conv=>whnf
          repeat' (first|exact trivial|((first|(refine ⟨fun hb=>?_,fun hb=>?_⟩<;>(try simp only [nrm] at hb)<;>try exact kZ hb)|refine kV ?_)<;>(conv=>whnf))|refine kY ?_ ?_)
          all_goals first|rfl|exact List.take_length|(simp;done)|(rw [List.drop_zero];exact aC (List.length_set ..))|trace_state
  ·have hs : cC c t i = (c,102):=by unfold cC;rw [if_neg (by rw [hR];simp),if_pos hin]
   rw [hs]
   refine aF Tryz.func219 94 ?_
   ((try with_reducible refine ab fun N hN hE hT=>?_);(conv=>whnf))
   repeat' (first|exact trivial|((first|((first|apply hT|apply hE|apply hN);clear hN hE hT)|refine kL ?_|(refine ⟨fun hb=>?_,fun hb=>?_⟩<;>(try simp only [nrm] at hb)<;>try exact kZ hb)|refine kE hcp [(390001,150001),(390003,150003),(390005,150005)] rfl ?_|refine kF hcp [(390001,150001),(390003,150003),(390005,150005)] rfl ?_|refine kV ?_)<;>((try with_reducible refine ab fun N hN hE hT=>?_);(conv=>whnf)))|refine kY ?_ ?_)
   all_goals first|rfl|(simp;done)|omega|trace_state
open Go Go.RowKit Eng
theorem LO (x : Int) : x.fdiv (2 ^ min (Int.toNat 30) IntKind.u64.bits) = x / 1073741824:=Int.fdiv_eq_ediv_of_nonneg x (by decide)
theorem LP (x : Int) : x.fdiv (2 ^ min (Int.toNat 27) IntKind.u64.bits) = x / 134217728:=Int.fdiv_eq_ediv_of_nonneg x (by decide)
theorem LQ (x : Int) : x.fdiv (2 ^ min (Int.toNat 31) IntKind.u64.bits) = x / 2147483648:=Int.fdiv_eq_ediv_of_nonneg x (by decide)
theorem Ai (z : Int) : 0 ≤ w64 z ∧ w64 z ≤ 18446744073709551615:=by
 unfold w64
 simp only [IntKind.wrap,IntKind.bits,IntKind.signed]
 simp
 omega
theorem qdL {a b : Int} {c d : Prop} (ha : 0 ≤ a) (k : c) (hb : 0 < b:=by omega) : (0 ≤ a ∧ 0 < b ∧ c) ∨ d:=.inl ⟨ha,hb,k⟩
theorem uD (seed n : Int) : Api Tryz.prog 281 [.lit (.int .u64 seed),.lit (.int .u64 n)] (.lit (.int .u64 (gJ seed n))):=by
 have h3 : gJ seed n = gm .xor .u64 (js seed n) (js seed n / 2147483648):=by unfold gJ;rw [LQ]
 have h2 : js seed n = IntKind.u64.wrap (gm .xor .u64 (jS seed n) (jS seed n / 134217728) * 10723151780598845931):=by unfold js rm w64;rw [LP]
 have h1 : jS seed n = IntKind.u64.wrap (gm .xor .u64 (jR seed n) (jR seed n / 1073741824) * 13787848793156543929):=by unfold jS rm w64;rw [LO]
 have h0 : jR seed n = IntKind.u64.wrap (seed + IntKind.u64.wrap (IntKind.u64.wrap (n + 1) * 11400714819323198485)):=by unfold jR w64;rfl
 have b0 : 0 ≤ jR seed n ∧ jR seed n ≤ 18446744073709551615:=Ai _
 have b1 : 0 ≤ jS seed n ∧ jS seed n ≤ 18446744073709551615:=Ai _
 have b2 : 0 ≤ js seed n ∧ js seed n ≤ 18446744073709551615:=Ai _
 generalize gJ seed n = x3 at *
 generalize js seed n = x2 at *
 generalize jS seed n = x1 at *
 generalize jR seed n = x0 at *
 refine aF Tryz.func281 23 ?_
 ((try with_reducible refine ab fun N hN hE hT=>?_);(conv=>whnf))
 repeat' (first|exact trivial|((first|((first|apply hT|apply hE|apply hN);clear hN hE hT)|refine kL ?_|(refine ⟨fun hb=>?_,fun hb=>?_⟩<;>(try simp only [nrm] at hb)<;>try exact kZ hb)|(refine qdL b0.1 ?_)|(refine qdL b1.1 ?_)|(refine qdL b2.1 ?_)|(simp only [← h0])|(simp only [← h1])|(simp only [← h2])|(refine .inr ?_)|refine kV ?_)<;>((try with_reducible refine ab fun N hN hE hT=>?_);(conv=>whnf)))|refine kY ?_ ?_)
 all_goals first|rfl|exact congrArg (Value.int .u64) h3.symm|trace_state
theorem KT (seed x y : Int) (k : Nat) : gl seed x y (k + 1) = gl seed x y k ++ [jt seed (x * 8 + (k : Int) % 8) (y * 8 + (k : Int) / 8)]:=by
 unfold gl
 rw [List.range_succ,List.map_append,List.map_singleton]
 rfl
def It (m h y : Int) : Int:=
 let under:=y - (40 + h % 32)
 if under = -1 ∧ m % 11 = 0 then 4
 else if under = -1 ∧ m % 11 = 1 then 3
 else if under < 0 then 0
 else if under ≤ 2 then 1
 else if m % 7 = 0 then 7
 else 2
theorem JV (seed x y : Int) : jt seed x y = It (gJ seed (y * 128 + x)) (gJ seed (100000 + x / 8)) y:=rfl
theorem Bg (seed x y : Int) (hx : 0 ≤ x) (hx2 : x ≤ 127) (hy : 0 ≤ y) (hy2 : y ≤ 127) : Api Tryz.prog 266 [.lit (.int .u64 seed),i64 x,i64 y] (.lit (.int .u8 (jt seed x y))):=by
 have hm:=rq seed (y * 128 + x)
 have hm2:=rq seed (100000 + x / 8)
 have c1:=uD seed (y * 128 + x)
 have c2:=uD seed (100000 + x / 8)
 rw [JV]
 generalize gJ seed (y * 128 + x) = M at *
 generalize gJ seed (100000 + x / 8) = H at *
 refine aF Tryz.func266 64 ?_
 ((try with_reducible refine ab fun N hN hE hT=>?_);(conv=>whnf))
 repeat' (first|exact trivial|((first|((first|apply hT|apply hE|apply hN);clear hN hE hT)|(refine ⟨fun hb=>?_,fun hb=>?_⟩<;>(try simp only [nrm] at hb)<;>try exact kZ hb)|refine kV ?_)<;>((try with_reducible refine ab fun N hN hE hT=>?_);(conv=>whnf)))|refine kY ?_ ?_)
 all_goals first
  | omega
  | (refine congrArg (Value.int .u8) ?_;unfold It;simp only [];(repeat' split)<;>omega)
  | trace_state
theorem qw (seed x y : Int) (hx : 0 ≤ x) (hx2 : x ≤ 15) (hy : 0 ≤ y) (hy2 : y ≤ 15) : Api Tryz.prog 227 [.lit (.int .u64 seed),i64 x,i64 y] (bq (eh seed x y)):=by
 refine aF Tryz.func227 46 ?_
 conv=>whnf
 repeat' (first|exact trivial|((first|(refine ⟨fun hb=>?_,fun hb=>?_⟩<;>(try simp only [nrm] at hb)<;>try exact kZ hb)|refine kV ?_)<;>(conv=>whnf))|refine kY ?_ ?_)
 refine ap.loopS ah (σ:=Nat) [0,1,2,6,7,8] (fun k=>[.lit (.int .u64 seed),i64 x,i64 y,.ptr 12 0,.ptr 14 0,i64 k])
  (fun k=>[(12,.box (bB ⟨0,0,[],[],[]⟩)),(14,.box [i64 x,i64 y,.own .u8 150101 0 k none,.lit (.slice none 0 0),.lit (.slice none 0 0)]),(150101,.row .u8 (gl seed x y k))]) (fun k=>k ≤ 64) (fun k=>64 - k) 0 (by omega) ?_ ?_
 ·exact fD0
 ·intro k hk
  by_cases hlt : k < 64
  ·have hc:=Bg seed (x * 8 + (k : Int) % 8) (y * 8 + (k : Int) / 8) (by omega) (by omega) (by omega) (by omega)
   have hl:=dL seed x y k
   have hn:=KT seed x y k
   generalize gl seed x y k = L at *
   conv=>whnf
   repeat' (first|exact trivial|((first|(refine ⟨fun hb=>?_,fun hb=>?_⟩<;>(try simp only [nrm] at hb)<;>try exact kZ hb)|refine kV ?_)<;>(conv=>whnf))|refine kY ?_ ?_)
   refine .to (k + 1) hlt (by omega) ?_
   rw [hn]
   conv=>whnf
   repeat' (first|exact trivial|((first|(refine ⟨fun hb=>?_,fun hb=>?_⟩<;>(try simp only [nrm] at hb)<;>try exact kZ hb)|refine kV ?_)<;>(conv=>whnf))|refine kY ?_ ?_)
   all_goals first|rfl|(simp [hl];done)|(rw [List.take_of_length_le (show L.length ≤ k by omega)];exact (List.take_of_length_le (by simp;omega)).trans rfl)|trace_state
  ·obtain rfl : k = 64:=by omega
   have hl:=dL seed x y 64
   have hg : eh seed x y = ⟨x,y,gl seed x y 64,[],[]⟩:=rfl
   rw [hg]
   generalize gl seed x y 64 = L at *
   conv=>whnf
   repeat' (first|exact trivial|((first|(refine ⟨fun hb=>?_,fun hb=>?_⟩<;>(try simp only [nrm] at hb)<;>try exact kZ hb)|refine kV ?_)<;>(conv=>whnf))|refine kY ?_ ?_)
   all_goals first|rfl|(simp [hl];done)|(rw [List.drop_zero];exact List.take_of_length_le (by omega))|trace_state
end Go.Proofs.YtkojlembanldcaaGreat
