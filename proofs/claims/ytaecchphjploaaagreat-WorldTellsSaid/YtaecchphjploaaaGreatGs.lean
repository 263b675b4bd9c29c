/- What the references lean on. -/
import Derived.Test.YtaecchphjploaaaGreatGf
import Derived.Test.YtaecchphjploaaaGreatGk
import Derived.Test.YtaecchphjploaaaGreatGi
import Derived.Test.YtaecchphjploaaaGreatGc
set_option linter.unusedSimpArgs false
set_option linter.unusedVariables false
set_option maxRecDepth 100000
set_option maxHeartbeats 16000000
namespace Go.Proofs.YtaecchphjploaaaGreat
open Go Go.RowKit Eng
def ltK {α : Type} (key : α → Int) (t : Int) (l : List α) : List α:=l.filter fun a=>decide (key a < t)
def eqK {α : Type} (key : α → Int) (t : Int) (l : List α) : List α:=l.filter fun a=>decide (key a = t)
theorem ltK_nil {α : Type} {key : α → Int} {t : Int} {l : List α} (h : ∀ a ∈ l,t ≤ key a) : ltK key t l = []:=
 List.filter_eq_nil_iff.2 fun a ha=>by have:=h a ha;simp;omega
theorem ltK_all {α : Type} {key : α → Int} {t : Int} {l : List α} (h : ∀ a ∈ l,key a < t) : ltK key t l = l:=
 List.filter_eq_self.2 fun a ha=>by have:=h a ha;simp;omega
theorem ltK_congr {α : Type} {key : α → Int} {t u : Int} {l : List α} (h : ∀ a ∈ l,(key a < t ↔ key a < u)) : ltK key t l = ltK key u l:=
 List.filter_congr fun a ha=>by rw [decide_eq_decide];exact h a ha
theorem eqK_get {α : Type} {key : α → Int} {t : Int} : ∀ {l : List α},risesK key l → eqK key t l = (getK key l t).toList
 | [],_=>rfl
 | b :: r,h=>by
   unfold eqK
   rw [List.filter_cons]
   simp only [getK]
   by_cases hb : key b = t
   · rw [if_pos (by simpa using hb),if_pos hb]
     have : r.filter (fun a=>decide (key a = t)) = []:=List.filter_eq_nil_iff.2 fun a ha=>by have:=h.1 a ha;simp;omega
     rw [this];rfl
   · rw [if_neg (by simpa using hb),if_neg hb]
     exact eqK_get h.2
theorem ltK_step {α : Type} {key : α → Int} {t : Int} : ∀ {l : List α},risesK key l → ltK key (t + 1) l = ltK key t l ++ eqK key t l
 | [],_=>rfl
 | b :: r,h=>by
   have ih:=ltK_step (t:=t) h.2
   unfold ltK eqK at *
   by_cases h1 : key b < t
   · have a1 : decide (key b < t + 1) = true:=decide_eq_true (by omega)
     have a2 : decide (key b < t) = true:=decide_eq_true h1
     have a3 : decide (key b = t) = false:=decide_eq_false (by omega)
     simp only [List.filter_cons,a1,a2,a3,if_true,Bool.false_eq_true,if_false]
     rw [ih];rfl
   · have a2 : decide (key b < t) = false:=decide_eq_false h1
     have e1 : r.filter (fun a=>decide (key a < t)) = []:=List.filter_eq_nil_iff.2 fun a ha=>by have:=h.1 a ha;simp;omega
     rw [e1] at ih
     by_cases h2 : key b = t
     · have a1 : decide (key b < t + 1) = true:=decide_eq_true (by omega)
       have a3 : decide (key b = t) = true:=decide_eq_true h2
       simp only [List.filter_cons,a1,a2,a3,if_true,Bool.false_eq_true,if_false]
       rw [ih,e1];rfl
     · have a1 : decide (key b < t + 1) = false:=decide_eq_false (by omega)
       have a3 : decide (key b = t) = false:=decide_eq_false h2
       simp only [List.filter_cons,a1,a2,a3,Bool.false_eq_true,if_false]
       rw [ih,e1]
theorem risesK_adj {α : Type} {key : α → Int} : ∀ {l : List α},(∀ i a b,l[i]? = some a → l[i + 1]? = some b → key a < key b) → risesK key l
 | [],_=>trivial
 | [a],_=>⟨by simp,trivial⟩
 | a :: b :: r,h=>by
   have ih:=risesK_adj (l:=b :: r) fun i x y hx hy=>h (i + 1) x y (by simpa using hx) (by simpa using hy)
   refine ⟨fun x hx=>?_,ih⟩
   have h0:=h 0 a b rfl rfl
   rcases List.mem_cons.1 hx with rfl|hx
   · exact h0
   · have:=ih.1 x hx;omega
def atB (x y : Int) (k : Chunk) : Bool:=decide (k.x = x) && decide (k.y = y)
theorem at_eqK {l : List Chunk} (h : ∀ c ∈ l,0 ≤ c.x ∧ c.x < 16) {x y : Int} (h0 : 0 ≤ x) (h1 : x < 16) : l.filter (atB x y) = eqK keyC (16 * y + x) l:=
 List.filter_congr fun c hc=>by
   have:=h c hc
   unfold atB keyC
   rw [← Bool.decide_and,decide_eq_decide]
   omega
theorem ltK_row {l : List Chunk} {s y : Int} (h : ∀ c ∈ l,0 ≤ c.x ∧ c.x < s) (h16 : s ≤ 16) : ltK keyC (16 * y + s) l = ltK keyC (16 * (y + 1)) l:=
 ltK_congr fun c hc=>by have:=h c hc;unfold keyC;omega
theorem at_putL {seed : Int} {l : List Chunk} {c : Chunk} (h : risesK keyC l) (hl : ∀ c ∈ l,0 ≤ c.x ∧ c.x < 16) (hc : 0 ≤ c.x ∧ c.x < 16) {x y : Int} (h0 : 0 ≤ x) (h1 : x < 16) :
   (putL seed l c).filter (atB x y) = if x = c.x ∧ y = c.y then (if plainW seed c = true then [] else [c]) else l.filter (atB x y):=by
 rw [at_eqK (fun b hb=>by rcases putL_mem hb with rfl|hb;exact hc;exact hl b hb) h0 h1,at_eqK hl h0 h1,eqK_get (risesK_putL h),eqK_get h,getK_putL h]
 unfold keyC
 by_cases he : x = c.x ∧ y = c.y
 · rw [if_pos (by omega),if_pos he]
   split<;>rfl
 · rw [if_neg (by omega),if_neg he]
theorem at_take {l : List Chunk} {x y : Int} {k : Nat} (h : k < l.length) : (l.take (k + 1)).filter (atB x y) = (l.take k).filter (atB x y) ++ (if (elt .chunk l k).x = x ∧ (elt .chunk l k).y = y then [elt .chunk l k] else []):=by
 rw [List.take_add_one,elt_get .chunk l k h,List.filter_append]
 congr 1
 show List.filter (atB x y) [elt .chunk l k] = _
 rw [List.filter_cons]
 unfold atB
 by_cases he : (elt .chunk l k).x = x ∧ (elt .chunk l k).y = y
 · rw [if_pos he,if_pos (by simp [he.1,he.2])];rfl
 · rw [if_neg he,if_neg (by simpa using he)];rfl
theorem chunkW_get {w : Wld} (hR : RW w) {x y : Int} (h0 : 0 ≤ x) (h1 : x < w.size) (h2 : 0 ≤ y) (h3 : y < w.size) : chunkW w x y = ((getK keyC w.chunks (16 * y + x)).getD (genC w.seed x y),true):=by
 have hs:=hR.size
 obtain ⟨e1,e2⟩:=bsC_rises hR.rc hR.xy (x:=x) (y:=y) h0 (by omega)
 have hk : keyC (atC x y) = 16 * y + x:=rfl
 rw [hk] at e1 e2
 have hin : insideW w.size x y = true:=by simp only [insideW,Bool.and_eq_true,decide_eq_true_eq];omega
 unfold chunkW
 rw [if_neg (by rw [hin,rightW_iff.2 hR];simp)]
 rw [e2]
 cases hg : getK keyC w.chunks (16 * y + x) with
 | none=>rw [if_neg (by simp)];rfl
 | some c =>
   rw [if_pos (by simp),e1]
   obtain ⟨h4,h5⟩:=lbK_lt hR.rc hg
   have h6:=elt_get .chunk w.chunks _ h4
   rw [h5] at h6
   rw [← Option.some.inj h6];rfl
theorem chunkW_out {w : Wld} {x y : Int} (h : rightW w = false ∨ ¬ (0 ≤ x ∧ x < w.size ∧ 0 ≤ y ∧ y < w.size)) : chunkW w x y = (atC 0 0,false):=by
 unfold chunkW
 rw [if_pos]
 rcases h with h|h
 · exact .inr h
 · left
   simp only [insideW,Bool.and_eq_false_iff,decide_eq_false_iff_not]
   omega
theorem getC_at {l : List Chunk} (h : risesK keyC l) (hl : ∀ c ∈ l,0 ≤ c.x ∧ c.x < 16) {k : Nat} (hk : k < l.length) : getK keyC l (16 * (elt .chunk l k).y + (elt .chunk l k).x) = some (elt .chunk l k):=
 getK_of_mem h (List.mem_of_getElem? (elt_get .chunk l k hk))
theorem getC_none {l : List Chunk} (hl : ∀ c ∈ l,0 ≤ c.x ∧ c.x < 16) {x y : Int} (h0 : 0 ≤ x) (h1 : x < 16) (hn : ∀ k < l.length,¬ ((elt .chunk l k).x = x ∧ (elt .chunk l k).y = y)) : getK keyC l (16 * y + x) = none:=
 getK_none.2 fun c hc he=>by
   obtain ⟨k,hk,rfl⟩:=List.getElem_of_mem hc
   have h2:=elt_get .chunk l k hk
   rw [List.getElem?_eq_getElem hk] at h2
   have h3:=hn k hk
   rw [← Option.some.inj h2] at h3
   have:=hl _ hc
   unfold keyC at he
   omega
theorem getP_none {l : List Player} {id : Int} (hn : ∀ k < l.length,¬ (elt .player l k).id = id) : getK pid l id = none:=
 getK_none.2 fun c hc he=>by
   obtain ⟨k,hk,rfl⟩:=List.getElem_of_mem hc
   have h2:=elt_get .player l k hk
   rw [List.getElem?_eq_getElem hk] at h2
   have h3:=hn k hk
   rw [← Option.some.inj h2] at h3
   exact h3 he
theorem getP_at {l : List Player} (h : risesK pid l) {k : Nat} (hk : k < l.length) : getK pid l (elt .player l k).id = some (elt .player l k):=
 getK_of_mem h (List.mem_of_getElem? (elt_get .player l k hk))
structure SeenC (w : Wld) (k : Nat) : Prop where
 le : k ≤ w.chunks.length
 right : ∀ i < k,rightB (elt .chunk w.chunks i) = true ∧ (elt .chunk w.chunks i).x < w.size ∧ (elt .chunk w.chunks i).y < w.size
 up : ∀ i,i + 1 < k → keyC (elt .chunk w.chunks i) < keyC (elt .chunk w.chunks (i + 1))
structure SeenP (w : Wld) (k : Nat) : Prop where
 le : k ≤ w.players.length
 right : ∀ i < k,soundB (elt .player w.players i) = true ∧ withinW w.size (elt .player w.players i).x (elt .player w.players i).y = true
 up : ∀ i,i + 1 < k → (elt .player w.players i).id < (elt .player w.players (i + 1)).id
theorem mem_elt {tt : Ty} {l : List (El tt)} {a : El tt} (h : a ∈ l) : ∃ k,k < l.length ∧ elt tt l k = a:=by
 obtain ⟨k,hk,rfl⟩:=List.getElem_of_mem h
 have h2:=elt_get tt l k hk
 rw [List.getElem?_eq_getElem hk] at h2
 exact ⟨k,hk,(Option.some.inj h2).symm⟩
theorem SeenC.rises {w : Wld} (h : SeenC w w.chunks.length) : risesK keyC w.chunks:=risesK_adj fun i a b ha hb=>by
 have hlt:=(List.getElem?_eq_some_iff.1 hb).1
 have e1:=elt_get .chunk w.chunks i (by omega)
 have e2:=elt_get .chunk w.chunks (i + 1) hlt
 rw [ha] at e1
 rw [hb] at e2
 have:=h.up i hlt
 rw [← Option.some.inj e1,← Option.some.inj e2] at this
 exact this
theorem SeenP.rises {w : Wld} (h : SeenP w w.players.length) : risesK pid w.players:=risesK_adj fun i a b ha hb=>by
 have hlt:=(List.getElem?_eq_some_iff.1 hb).1
 have e1:=elt_get .player w.players i (by omega)
 have e2:=elt_get .player w.players (i + 1) hlt
 rw [ha] at e1
 rw [hb] at e2
 have:=h.up i hlt
 rw [← Option.some.inj e1,← Option.some.inj e2] at this
 exact this
theorem right_seen {w : Wld} (hh : headW w = true) (hc : SeenC w w.chunks.length) (hp : SeenP w w.players.length) : rightW w = true:=
 rightW_iff.2 ⟨hh,fun c hm=>by obtain ⟨k,hk,rfl⟩:=mem_elt (tt:=.chunk) hm;have:=hc.right k hk;exact ⟨this.1,by omega⟩,hc.rises,hp.rises,
   fun p hm=>by obtain ⟨k,hk,rfl⟩:=mem_elt (tt:=.player) hm;exact hp.right k hk⟩
theorem wrong_of {w : Wld} {p : Prop} (h : RW w → False) : rightW w = false:=by
 cases hR : rightW w with
 | false=>rfl
 | true=>exact (h (rightW_iff.1 hR)).elim
theorem RW.chunkAt {w : Wld} (h : RW w) {k : Nat} (hk : k < w.chunks.length) : rightB (elt .chunk w.chunks k) = true ∧ (elt .chunk w.chunks k).x < w.size ∧ (elt .chunk w.chunks k).y < w.size:=by
 have:=h.chunks _ (elt_mem (t:=.chunk) hk)
 exact ⟨this.1,by omega,by omega⟩
theorem RW.chunkUp {w : Wld} (h : RW w) {k : Nat} (hk : k + 1 < w.chunks.length) : keyC (elt .chunk w.chunks k) < keyC (elt .chunk w.chunks (k + 1)):=
 risesK_lt h.rc (Nat.lt_succ_self k) (elt_get .chunk w.chunks k (by omega)) (elt_get .chunk w.chunks (k + 1) hk)
theorem RW.playerAt {w : Wld} (h : RW w) {k : Nat} (hk : k < w.players.length) : soundB (elt .player w.players k) = true ∧ withinW w.size (elt .player w.players k).x (elt .player w.players k).y = true:=h.players _ (elt_mem (t:=.player) hk)
theorem RW.playerUp {w : Wld} (h : RW w) {k : Nat} (hk : k + 1 < w.players.length) : (elt .player w.players k).id < (elt .player w.players (k + 1)).id:=
 risesK_lt h.rp (Nat.lt_succ_self k) (elt_get .player w.players k (by omega)) (elt_get .player w.players (k + 1) hk)
def refS (p : Player) : List Player → Bool → List Player
 | [],d=>if d = true then [] else [p]
 | q :: r,d=>(if d = false ∧ p.id ≤ q.id then [p] else []) ++ ((if q.id = p.id then [] else [q]) ++ refS p r (d || decide (p.id ≤ q.id)))
theorem refS_cons (p q : Player) (r : List Player) (d : Bool) : refS p (q :: r) d = (if d = false ∧ p.id ≤ q.id then [p] else []) ++ ((if q.id = p.id then [] else [q]) ++ refS p r (d || decide (p.id ≤ q.id))):=rfl
theorem refS_lt {p q : Player} {r : List Player} (h : q.id < p.id) : refS p (q :: r) false = q :: refS p r false:=by
 rw [refS_cons,if_neg (show ¬ (false = false ∧ p.id ≤ q.id) by omega),if_neg (show ¬ q.id = p.id by omega),decide_eq_false (show ¬ p.id ≤ q.id by omega)]
 rfl
theorem refS_eq {p q : Player} {r : List Player} (h : q.id = p.id) : refS p (q :: r) false = p :: refS p r true:=by
 rw [refS_cons,if_pos (show false = false ∧ p.id ≤ q.id from ⟨rfl,by omega⟩),if_pos h,decide_eq_true (show p.id ≤ q.id by omega)]
 rfl
theorem refS_gt {p q : Player} {r : List Player} (h : p.id < q.id) : refS p (q :: r) false = p :: q :: refS p r true:=by
 rw [refS_cons,if_pos (show false = false ∧ p.id ≤ q.id from ⟨rfl,by omega⟩),if_neg (show ¬ q.id = p.id by omega),decide_eq_true (show p.id ≤ q.id by omega)]
 rfl
theorem refS_done {p : Player} : ∀ {l : List Player},(∀ q ∈ l,p.id < q.id) → refS p l true = l
 | [],_=>rfl
 | q :: r,h=>by
   have h1:=h q (by simp)
   have ih:=refS_done (l:=r) fun x hx=>h x (by simp [hx])
   rw [refS_cons,if_neg (show ¬ (true = false ∧ p.id ≤ q.id) by simp),if_neg (show ¬ q.id = p.id by omega),Bool.true_or,ih]
   rfl
theorem refS_setL {p : Player} : ∀ {l : List Player},risesK pid l → refS p l false = setL l p
 | [],_=>rfl
 | q :: r,h=>by
   have ih:=refS_setL (p:=p) h.2
   unfold setL at *
   have h0 : ∀ x ∈ r,q.id < x.id:=h.1
   by_cases h1 : q.id < p.id
   · rw [refS_lt h1,ih]
     show _ = insK pid p (if q.id < p.id then q :: delK pid p.id r else _)
     rw [if_pos h1]
     show _ = (if q.id < p.id then _ else _)
     rw [if_pos h1]
   · by_cases h2 : q.id = p.id
     · have hr : ∀ x ∈ r,p.id < x.id:=fun x hx=>by have:=h0 x hx;omega
       rw [refS_eq h2,refS_done hr]
       show _ = insK pid p (if q.id < p.id then _ else if q.id = p.id then r else _)
       rw [if_neg h1,if_pos h2]
       cases r with
       | nil=>rfl
       | cons a r =>
         have:=hr a (by simp)
         show _ = (if a.id < p.id then _ else _)
         rw [if_neg (by omega)]
     · have hr : ∀ x ∈ r,p.id < x.id:=fun x hx=>by have:=h0 x hx;omega
       rw [refS_gt (by omega),refS_done hr]
       show _ = insK pid p (if q.id < p.id then _ else if q.id = p.id then r else q :: r)
       rw [if_neg h1,if_neg h2]
       show _ = (if q.id < p.id then _ else _)
       rw [if_neg h1]
theorem growO {α : Type} {B : List α} {x y : α} (h : x = y) : List.take (B.length + 1) (List.take B.length B ++ [x]) = B ++ [y]:=by subst h;rw [List.take_length];exact List.take_of_length_le (by simp)
theorem takekk {α : Type} (l : List α) (k : Nat) : List.take k (List.take k l) = List.take k l:=by rw [List.take_take,Nat.min_self]
theorem app1 {α : Type} {l X : List α} {k n : Nat} {a b : α} (hb : l.take (k + 1) = l.take k ++ [b]) (hk : k < l.length) (hX : X = l.take k) (ha : a = b) (hn : n = k + 1) : List.take n (X ++ [a]) = l.take (k + 1):=by
 subst hX ha hn
 rw [hb]
 exact List.take_of_length_le (by simp;omega)
open Go Go.RowKit Eng
def sumF {α : Type} (f : α → Int) : List α → Int
 | []=>0
 | a :: r=>f a + sumF f r
def bc (i : Int) (b : Box) : Int:=countS b.bag i
def cc (i : Int) (c : Chunk) : Int:=countS (c.heaps.map (·.slot)) i + sumF (bc i) c.boxes
open Go Go.RowKit Eng
theorem f0 {x y z u : Bool} (h : x = false) : (x && (y && (z && u))) = false:=by rw [h];rfl
theorem f1 {x y z u : Bool} (h : y = false) : (x && (y && (z && u))) = false:=by rw [h];simp
theorem f2 {x y z u : Bool} (h : z = false) : (x && (y && (z && u))) = false:=by rw [h];simp
theorem f3 {x y z u : Bool} (h : u = false) : (x && (y && (z && u))) = false:=by rw [h];simp
open Go Go.RowKit Eng
open Go Go.RowKit Eng
theorem spendR_zero0 (i : Int) {n : Int} (hn : n ≤ 0) : ∀ l : List Slot,spendR i l n = l
 | []=>rfl
 | s :: r=>by simp only [spendR];rw [if_pos hn]
theorem rev_take {l : List Slot} {j : Nat} (h : j < l.length) : (l.take (j + 1)).reverse = elt .slot l j :: (l.take j).reverse:=by
 rw [List.take_add_one,elt_get .slot l j h,List.reverse_append];rfl
theorem elt_take {l r : List Slot} {j k : Nat} (h : r.take k = l.take k) (hj : j < k) : elt .slot r j = elt .slot l j:=by
 unfold elt
 have h1 : (r.take k)[j]? = r[j]?:=by rw [List.getElem?_take,if_pos hj]
 have h2 : (l.take k)[j]? = l[j]?:=by rw [List.getElem?_take,if_pos hj]
 rw [← h1,← h2,h]
structure SpI (l : List Slot) (i N : Int) (j : Nat) (n : Int) (r : List Slot) : Prop where
 jl : j ≤ l.length
 len : r.length = l.length
 nz : 0 ≤ n
 nn : n ≤ 9223372036854775807
 pre : r.take j = l.take j
 out : (spendR i (l.take j).reverse n).reverse ++ r.drop j = spendL l i N
theorem SpI.hit {l : List Slot} {i n0 : Int} {j : Nat} {n : Int} {r : List Slot} (h : SpI l i n0 (j + 1) n r) (hi : (elt .slot r j).item = i) (hn : 0 < n) (hs : 0 ≤ (elt .slot r j).n) :
   SpI l i n0 j (n - min (elt .slot r j).n n) (r.set j (lessS (elt .slot r j) (min (elt .slot r j).n n))):=by
 have hj:=h.jl
 have hl:=h.len
 have he:=elt_take h.pre (Nat.lt_succ_self j)
 refine ⟨by omega,by rw [List.length_set];exact hl,by omega,by have:=h.nn;omega,?_,?_⟩
 · rw [List.take_set_of_le (Nat.le_refl j)]
   have:=congrArg (List.take j) h.pre
   rwa [List.take_take,List.take_take,Nat.min_eq_left (by omega)] at this
 · rw [← h.out,rev_take (by omega),← he]
   simp only [spendR]
   rw [if_neg (by omega),if_pos hi,List.reverse_cons,List.append_assoc]
   congr 1
   rw [List.drop_set,if_neg (by omega),Nat.sub_self,drop_elt (t:=.slot) (by omega : j < r.length)]
   rfl
theorem SpI.miss {l : List Slot} {i n0 : Int} {j : Nat} {n : Int} {r : List Slot} (h : SpI l i n0 (j + 1) n r) (hi : ¬ (elt .slot r j).item = i) (hn : 0 < n) : SpI l i n0 j n r:=by
 have hj:=h.jl
 have hl:=h.len
 have he:=elt_take h.pre (Nat.lt_succ_self j)
 refine ⟨by omega,hl,h.nz,h.nn,?_,?_⟩
 · have:=congrArg (List.take j) h.pre
   rwa [List.take_take,List.take_take,Nat.min_eq_left (by omega)] at this
 · rw [← h.out,rev_take (by omega),← he]
   simp only [spendR]
   rw [if_neg (by omega),if_neg hi,List.reverse_cons,List.append_assoc]
   congr 1
   rw [drop_elt (t:=.slot) (by omega : j < r.length)]
   rfl
theorem SpI.done {l : List Slot} {i n0 : Int} {j : Nat} {n : Int} {r : List Slot} (h : SpI l i n0 j n r) (hd : j = 0 ∨ n ≤ 0) : r = spendL l i n0:=by
 rw [← h.out]
 rcases hd with rfl|hd
 · simp [spendR]
 · rw [spendR_zero0 i hd,List.reverse_reverse,← h.pre,List.take_append_drop]
open Go Go.RowKit Eng
open Go Go.RowKit Eng
open Go Go.RowKit Eng
open Go Go.RowKit Eng
open Go Go.RowKit Eng
def fillF (may : Slot → Bool) (i size : Int) : List Slot → Int → List Slot × Int
 | [],n=>([],n)
 | s :: r,n=>if may s = true ∧ 0 < min (size - s.n) n then (⟨i,s.n + min (size - s.n) n⟩ :: (fillF may i size r (n - min (size - s.n) n)).1,(fillF may i size r (n - min (size - s.n) n)).2)
   else (s :: (fillF may i size r n).1,(fillF may i size r n).2)
def both (l : List Slot) (i n : Int) : List Slot × Int:=fillF may0 i (stackN i) (fillF (mayI i) i (stackN i) l n).1 (fillF (mayI i) i (stackN i) l n).2
theorem take_next {tt : Ty} {l : List (El tt)} {k : Nat} (hk : k < l.length) : l.take (k + 1) = l.take k ++ [elt tt l k]:=by
 have:=elt_get tt l k hk
 rw [List.take_add_one,this];rfl
theorem refStack_api (i : Int) (h0 : 0 ≤ i) (h1 : i ≤ 255) : Api Tryz.prog 176 [.lit (.int .u8 i)] (i64 (stackN i)):=by
 refine Api.of_fin cfg_ok Tryz.func176 rfl (nt:=15) rfl rfl ?_
 conv=>whnf
 repeat' (first|exact trivial|((first|refine kL ?_|(refine ⟨fun hb=>?_,fun hb=>?_⟩<;>(try simp only [nrm] at hb)<;>(try (first|(exfalso;omega)|contradiction|exact kB hb)))|refine kW cfg_ok ?_|refine kC ?_|refine bdA ?_|refine bd2 ?_|refine bdR ?_|refine bdL ?_)<;>(conv=>whnf))|(refine And.intro ?_ ?_;rotate_left;(conv=>whnf);rotate_right))
 all_goals (refine congrArg (Value.int .i64) ?_;unfold stackN;(repeat' split)<;>omega)
theorem refRight_api (l : List (El .slot)) (n : Int) (hl : l.length ≤ big) (hw : ∀ s ∈ l,okSlot s) : Api Tryz.prog 138 [.vec .slot l,i64 n] (bol (decide ((l.length : Int) = n) && bagOk l)):=by
 unfold big at hl
 by_cases hn : (l.length : Int) = n
 · rw [decide_eq_true hn,Bool.true_and]
   refine Api.of_fin cfg_ok Tryz.func138 rfl (nt:=45) rfl rfl ?_
   conv=>whnf
   repeat' (first|exact trivial|((first|refine kL ?_|(refine ⟨fun hb=>?_,fun hb=>?_⟩<;>(try simp only [nrm] at hb)<;>(try (first|(exfalso;omega)|contradiction|exact kB hb)))|refine kW cfg_ok ?_|refine kC ?_|refine bdA ?_|refine bd2 ?_|refine bdR ?_|refine bdL ?_)<;>(conv=>whnf))|(refine And.intro ?_ ?_;rotate_left;(conv=>whnf);rotate_right))
   refine Runs.loopS cfg_ok (σ:=Nat) [0,5] (fun k=>[.vec .slot l,i64 k]) (fun _=>[]) (fun k=>k ≤ l.length ∧ bagOk (l.drop k) = bagOk l) (fun k=>l.length - k) 0 ⟨by omega,rfl⟩ ?_ ?_
   · conv=>whnf
     repeat' (first|exact trivial|((first|refine kL ?_|(refine ⟨fun hb=>?_,fun hb=>?_⟩<;>(try simp only [nrm] at hb)<;>(try (first|(exfalso;omega)|contradiction|exact kB hb)))|refine kW cfg_ok ?_|refine kC ?_|refine bdA ?_|refine bd2 ?_|refine bdR ?_|refine bdL ?_)<;>(conv=>whnf))|(refine And.intro ?_ ?_;rotate_left;(conv=>whnf);rotate_right))
   · rintro k ⟨hk,he⟩
     by_cases hlt : k < l.length
     · have hs:=refStack_api (elt .slot l k).item (hw _ (elt_mem (t:=.slot) hlt)).1 (hw _ (elt_mem (t:=.slot) hlt)).2
       have hE : elt .slot l (k : Int).toNat = elt .slot l k:=rfl
       have hstep : bagOk (l.drop k) = (!(badSlot (elt .slot l k)) && bagOk (l.drop (k + 1))):=by
         rw [drop_elt (t:=.slot) hlt];unfold bagOk;simp
       rw [hstep] at he
       cases hbs : badSlot (elt .slot l k) with
       | true =>
         rw [hbs] at he
         have hb2 : ¬ (((elt .slot l k).item = 0 ∧ (elt .slot l k).n = 0) ∨ (1 ≤ (elt .slot l k).n ∧ (elt .slot l k).n ≤ stackN (elt .slot l k).item)):=fun h=>by rw [badSlot_false.2 h] at hbs;cases hbs
         rw [← he]
         conv=>whnf
         repeat' (first|exact trivial|((first|refine kL ?_|(refine ⟨fun hb=>?_,fun hb=>?_⟩<;>(try simp only [nrm] at hb)<;>(try (first|(exfalso;omega)|contradiction|exact kB hb)))|refine kA hs ?_|refine kD hs ?_|refine kW cfg_ok ?_|refine kC ?_|refine bdA ?_|refine bd2 ?_|refine bdR ?_|refine bdL ?_)<;>(conv=>whnf))|(refine And.intro ?_ ?_;rotate_left;(conv=>whnf);rotate_right))
       | false =>
         rw [hbs] at he
         have hb2:=badSlot_false.1 hbs
         conv=>whnf
         repeat' (first|exact trivial|((first|refine kL ?_|(refine ⟨fun hb=>?_,fun hb=>?_⟩<;>(try simp only [nrm] at hb)<;>(try (first|(exfalso;omega)|contradiction|exact kB hb)))|refine kA hs ?_|refine kD hs ?_|refine kW cfg_ok ?_|refine kC ?_|refine bdA ?_|refine bd2 ?_|refine bdR ?_|refine bdL ?_)<;>(conv=>whnf))|(refine And.intro ?_ ?_;rotate_left;(conv=>whnf);rotate_right))
         all_goals
           refine .to (k + 1) ⟨hlt,by rw [← he];rfl⟩ (by omega) ?_
           conv=>whnf
           repeat' (first|exact trivial|((first|refine kL ?_|(refine ⟨fun hb=>?_,fun hb=>?_⟩<;>(try simp only [nrm] at hb)<;>(try (first|(exfalso;omega)|contradiction|exact kB hb)))|refine kW cfg_ok ?_|refine kC ?_|refine bdA ?_|refine bd2 ?_|refine bdR ?_|refine bdL ?_)<;>(conv=>whnf))|(refine And.intro ?_ ?_;rotate_left;(conv=>whnf);rotate_right))
     · obtain rfl : k = l.length:=by omega
       rw [List.drop_length] at he
       rw [← he]
       conv=>whnf
       repeat' (first|exact trivial|((first|refine kL ?_|(refine ⟨fun hb=>?_,fun hb=>?_⟩<;>(try simp only [nrm] at hb)<;>(try (first|(exfalso;omega)|contradiction|exact kB hb)))|refine kW cfg_ok ?_|refine kC ?_|refine bdA ?_|refine bd2 ?_|refine bdR ?_|refine bdL ?_)<;>(conv=>whnf))|(refine And.intro ?_ ?_;rotate_left;(conv=>whnf);rotate_right))
       all_goals rfl
 · rw [decide_eq_false hn,Bool.false_and]
   refine Api.of_fin cfg_ok Tryz.func138 rfl (nt:=45) rfl rfl ?_
   conv=>whnf
   repeat' (first|exact trivial|((first|refine kL ?_|(refine ⟨fun hb=>?_,fun hb=>?_⟩<;>(try simp only [nrm] at hb)<;>(try (first|(exfalso;omega)|contradiction|exact kB hb)))|refine kW cfg_ok ?_|refine kC ?_|refine bdA ?_|refine bd2 ?_|refine bdR ?_|refine bdL ?_)<;>(conv=>whnf))|(refine And.intro ?_ ?_;rotate_left;(conv=>whnf);rotate_right))
end Go.Proofs.YtaecchphjploaaaGreat
