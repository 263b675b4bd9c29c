/- What the references lean on. -/
import Derived.Test.YtaecchphjploaaaGf
import Derived.Test.YtaecchphjploaaaGk
import Derived.Test.YtaecchphjploaaaGi
import Derived.Test.YtaecchphjploaaaGc
set_option linter.unusedSimpArgs false
set_option linter.unusedVariables false
set_option maxRecDepth 100000
set_option maxHeartbeats 16000000
namespace Go.Proofs.Ytaecchphjploaaa
open Go Go.RowKit Eng
theorem risesK_adj {α : Type} {key : α → Int} : ∀ {l : List α},(∀ i a b,l[i]? = some a → l[i + 1]? = some b → key a < key b) → risesK key l
 | [],_=>trivial
 | [a],_=>⟨by simp,trivial⟩
 | a :: b :: r,h=>by
   have ih:=risesK_adj (l:=b :: r) fun i x y hx hy=>h (i + 1) x y (by simpa using hx) (by simpa using hy)
   refine ⟨fun x hx=>?_,ih⟩
   have h0:=h 0 a b rfl rfl
   rcases List.mem_cons.1 hx with rfl|hx
   · exact h0
   · have:=ih.1 x hx;omega
structure SeenC (w : Wld) (k : Nat) : Prop where
 le : k ≤ w.chunks.length
 right : ∀ i < k,rightB (elt .chunk w.chunks i) = true ∧ (elt .chunk w.chunks i).x < w.size ∧ (elt .chunk w.chunks i).y < w.size
 up : ∀ i,i + 1 < k → keyC (elt .chunk w.chunks i) < keyC (elt .chunk w.chunks (i + 1))
structure SeenP (w : Wld) (k : Nat) : Prop where
 le : k ≤ w.players.length
 right : ∀ i < k,soundB (elt .player w.players i) = true ∧ withinW w.size (elt .player w.players i).x (elt .player w.players i).y = true
 up : ∀ i,i + 1 < k → (elt .player w.players i).id < (elt .player w.players (i + 1)).id
theorem SeenC.rises {w : Wld} (h : SeenC w w.chunks.length) : risesK keyC w.chunks:=risesK_adj fun i a b ha hb=>by
 have hlt:=(List.getElem?_eq_some_iff.1 hb).1
 have e1:=elt_get .chunk w.chunks i (by omega)
 have e2:=elt_get .chunk w.chunks (i + 1) hlt
 rw [ha] at e1
 rw [hb] at e2
 have:=h.up i hlt
 rw [← Option.some.inj e1,← Option.some.inj e2] at this
 exact this
theorem SeenP.rises {w : Wld} (h : SeenP w w.players.length) : risesK pid w.players:=risesK_adj fun i a b ha hb=>by
 have hlt:=(List.getElem?_eq_some_iff.1 hb).1
 have e1:=elt_get .player w.players i (by omega)
 have e2:=elt_get .player w.players (i + 1) hlt
 rw [ha] at e1
 rw [hb] at e2
 have:=h.up i hlt
 rw [← Option.some.inj e1,← Option.some.inj e2] at this
 exact this
theorem takekk {α : Type} (l : List α) (k : Nat) : List.take k (List.take k l) = List.take k l:=by rw [List.take_take,Nat.min_self]
theorem app1 {α : Type} {l X : List α} {k n : Nat} {a b : α} (hb : l.take (k + 1) = l.take k ++ [b]) (hk : k < l.length) (hX : X = l.take k) (ha : a = b) (hn : n = k + 1) : List.take n (X ++ [a]) = l.take (k + 1):=by
 subst hX ha hn
 rw [hb]
 exact List.take_of_length_le (by simp;omega)
open Go Go.RowKit Eng
def sumF {α : Type} (f : α → Int) : List α → Int
 | []=>0
 | a :: r=>f a + sumF f r
def bc (i : Int) (b : Box) : Int:=countS b.bag i
def cc (i : Int) (c : Chunk) : Int:=countS (c.heaps.map (·.slot)) i + sumF (bc i) c.boxes
open Go Go.RowKit Eng
theorem f0 {x y z u : Bool} (h : x = false) : (x && (y && (z && u))) = false:=by rw [h];rfl
theorem f1 {x y z u : Bool} (h : y = false) : (x && (y && (z && u))) = false:=by rw [h];simp
theorem f2 {x y z u : Bool} (h : z = false) : (x && (y && (z && u))) = false:=by rw [h];simp
theorem f3 {x y z u : Bool} (h : u = false) : (x && (y && (z && u))) = false:=by rw [h];simp
open Go Go.RowKit Eng
open Go Go.RowKit Eng
theorem spendR_zero0 (i : Int) {n : Int} (hn : n ≤ 0) : ∀ l : List Slot,spendR i l n = l
 | []=>rfl
 | s :: r=>by simp only [spendR];rw [if_pos hn]
theorem rev_take {l : List Slot} {j : Nat} (h : j < l.length) : (l.take (j + 1)).reverse = elt .slot l j :: (l.take j).reverse:=by
 rw [List.take_add_one,elt_get .slot l j h,List.reverse_append];rfl
theorem elt_take {l r : List Slot} {j k : Nat} (h : r.take k = l.take k) (hj : j < k) : elt .slot r j = elt .slot l j:=by
 unfold elt
 have h1 : (r.take k)[j]? = r[j]?:=by rw [List.getElem?_take,if_pos hj]
 have h2 : (l.take k)[j]? = l[j]?:=by rw [List.getElem?_take,if_pos hj]
 rw [← h1,← h2,h]
structure SpI (l : List Slot) (i N : Int) (j : Nat) (n : Int) (r : List Slot) : Prop where
 jl : j ≤ l.length
 len : r.length = l.length
 nz : 0 ≤ n
 nn : n ≤ 9223372036854775807
 pre : r.take j = l.take j
 out : (spendR i (l.take j).reverse n).reverse ++ r.drop j = spendL l i N
theorem SpI.hit {l : List Slot} {i n0 : Int} {j : Nat} {n : Int} {r : List Slot} (h : SpI l i n0 (j + 1) n r) (hi : (elt .slot r j).item = i) (hn : 0 < n) (hs : 0 ≤ (elt .slot r j).n) :
   SpI l i n0 j (n - min (elt .slot r j).n n) (r.set j (lessS (elt .slot r j) (min (elt .slot r j).n n))):=by
 have hj:=h.jl
 have hl:=h.len
 have he:=elt_take h.pre (Nat.lt_succ_self j)
 refine ⟨by omega,by rw [List.length_set];exact hl,by omega,by have:=h.nn;omega,?_,?_⟩
 · rw [List.take_set_of_le (Nat.le_refl j)]
   have:=congrArg (List.take j) h.pre
   rwa [List.take_take,List.take_take,Nat.min_eq_left (by omega)] at this
 · rw [← h.out,rev_take (by omega),← he]
   simp only [spendR]
   rw [if_neg (by omega),if_pos hi,List.reverse_cons,List.append_assoc]
   congr 1
   rw [List.drop_set,if_neg (by omega),Nat.sub_self,drop_elt (t:=.slot) (by omega : j < r.length)]
   rfl
theorem SpI.miss {l : List Slot} {i n0 : Int} {j : Nat} {n : Int} {r : List Slot} (h : SpI l i n0 (j + 1) n r) (hi : ¬ (elt .slot r j).item = i) (hn : 0 < n) : SpI l i n0 j n r:=by
 have hj:=h.jl
 have hl:=h.len
 have he:=elt_take h.pre (Nat.lt_succ_self j)
 refine ⟨by omega,hl,h.nz,h.nn,?_,?_⟩
 · have:=congrArg (List.take j) h.pre
   rwa [List.take_take,List.take_take,Nat.min_eq_left (by omega)] at this
 · rw [← h.out,rev_take (by omega),← he]
   simp only [spendR]
   rw [if_neg (by omega),if_neg hi,List.reverse_cons,List.append_assoc]
   congr 1
   rw [drop_elt (t:=.slot) (by omega : j < r.length)]
   rfl
theorem SpI.done {l : List Slot} {i n0 : Int} {j : Nat} {n : Int} {r : List Slot} (h : SpI l i n0 j n r) (hd : j = 0 ∨ n ≤ 0) : r = spendL l i n0:=by
 rw [← h.out]
 rcases hd with rfl|hd
 · simp [spendR]
 · rw [spendR_zero0 i hd,List.reverse_reverse,← h.pre,List.take_append_drop]
open Go Go.RowKit Eng
open Go Go.RowKit Eng
open Go Go.RowKit Eng
open Go Go.RowKit Eng
open Go Go.RowKit Eng
def fillF (may : Slot → Bool) (i size : Int) : List Slot → Int → List Slot × Int
 | [],n=>([],n)
 | s :: r,n=>if may s = true ∧ 0 < min (size - s.n) n then (⟨i,s.n + min (size - s.n) n⟩ :: (fillF may i size r (n - min (size - s.n) n)).1,(fillF may i size r (n - min (size - s.n) n)).2)
   else (s :: (fillF may i size r n).1,(fillF may i size r n).2)
def both (l : List Slot) (i n : Int) : List Slot × Int:=fillF may0 i (stackN i) (fillF (mayI i) i (stackN i) l n).1 (fillF (mayI i) i (stackN i) l n).2
theorem take_next {tt : Ty} {l : List (El tt)} {k : Nat} (hk : k < l.length) : l.take (k + 1) = l.take k ++ [elt tt l k]:=by
 have:=elt_get tt l k hk
 rw [List.take_add_one,this];rfl
end Go.Proofs.Ytaecchphjploaaa
