/- Contracts of rules. -/
import Derived.Test.YtchdgiooggdfeaaGi
import Derived.Test.YtchdgiooggdfeaaGc
import Derived.Test.YtchdgiooggdfeaaGe
set_option linter.unusedSimpArgs false
set_option linter.unusedVariables false
set_option maxRecDepth 100000
set_option maxHeartbeats 16000000
namespace Go.Proofs.Ytchdgiooggdfeaa
open Go Go.RowKit Eng
theorem f0 {x y z u : Bool} (h : x = false) : (x && (y && (z && u))) = false:=by rw [h];rfl
theorem f1 {x y z u : Bool} (h : y = false) : (x && (y && (z && u))) = false:=by rw [h];simp
theorem f2 {x y z u : Bool} (h : z = false) : (x && (y && (z && u))) = false:=by rw [h];simp
theorem f3 {x y z u : Bool} (h : u = false) : (x && (y && (z && u))) = false:=by rw [h];simp
open Go Go.RowKit Eng
open Go Go.RowKit Eng
open Go Go.RowKit Eng
open Go Go.RowKit Eng
open Go Go.RowKit Eng
open Go Go.RowKit Eng
open Go Go.RowKit Eng
open Go Go.RowKit Eng
theorem spendR_zero0 (i : Int) {n : Int} (hn : n ≤ 0) : ∀ l : List Slot,spendR i l n = l
 | []=>rfl
 | s :: r=>by simp only [spendR];rw [if_pos hn]
theorem rev_take {l : List Slot} {j : Nat} (h : j < l.length) : (l.take (j + 1)).reverse = elt .slot l j :: (l.take j).reverse:=by
 rw [List.take_add_one,elt_get .slot l j h,List.reverse_append];rfl
theorem elt_take {l r : List Slot} {j k : Nat} (h : r.take k = l.take k) (hj : j < k) : elt .slot r j = elt .slot l j:=by
 unfold elt
 have h1 : (r.take k)[j]? = r[j]?:=by rw [List.getElem?_take,if_pos hj]
 have h2 : (l.take k)[j]? = l[j]?:=by rw [List.getElem?_take,if_pos hj]
 rw [← h1,← h2,h]
structure SpI (l : List Slot) (i N : Int) (j : Nat) (n : Int) (r : List Slot) : Prop where
 jl : j ≤ l.length
 len : r.length = l.length
 nz : 0 ≤ n
 nn : n ≤ 9223372036854775807
 pre : r.take j = l.take j
 out : (spendR i (l.take j).reverse n).reverse ++ r.drop j = spendL l i N
theorem SpI.hit {l : List Slot} {i n0 : Int} {j : Nat} {n : Int} {r : List Slot} (h : SpI l i n0 (j + 1) n r) (hi : (elt .slot r j).item = i) (hn : 0 < n) (hs : 0 ≤ (elt .slot r j).n) :
   SpI l i n0 j (n - min (elt .slot r j).n n) (r.set j (lessS (elt .slot r j) (min (elt .slot r j).n n))):=by
 have hj:=h.jl
 have hl:=h.len
 have he:=elt_take h.pre (Nat.lt_succ_self j)
 refine ⟨by omega,by rw [List.length_set];exact hl,by omega,by have:=h.nn;omega,?_,?_⟩
 · rw [List.take_set_of_le (Nat.le_refl j)]
   have:=congrArg (List.take j) h.pre
   rwa [List.take_take,List.take_take,Nat.min_eq_left (by omega)] at this
 · rw [← h.out,rev_take (by omega),← he]
   simp only [spendR]
   rw [if_neg (by omega),if_pos hi,List.reverse_cons,List.append_assoc]
   congr 1
   rw [List.drop_set,if_neg (by omega),Nat.sub_self,drop_elt (t:=.slot) (by omega : j < r.length)]
   rfl
theorem SpI.miss {l : List Slot} {i n0 : Int} {j : Nat} {n : Int} {r : List Slot} (h : SpI l i n0 (j + 1) n r) (hi : ¬ (elt .slot r j).item = i) (hn : 0 < n) : SpI l i n0 j n r:=by
 have hj:=h.jl
 have hl:=h.len
 have he:=elt_take h.pre (Nat.lt_succ_self j)
 refine ⟨by omega,hl,h.nz,h.nn,?_,?_⟩
 · have:=congrArg (List.take j) h.pre
   rwa [List.take_take,List.take_take,Nat.min_eq_left (by omega)] at this
 · rw [← h.out,rev_take (by omega),← he]
   simp only [spendR]
   rw [if_neg (by omega),if_neg hi,List.reverse_cons,List.append_assoc]
   congr 1
   rw [drop_elt (t:=.slot) (by omega : j < r.length)]
   rfl
theorem SpI.done {l : List Slot} {i n0 : Int} {j : Nat} {n : Int} {r : List Slot} (h : SpI l i n0 j n r) (hd : j = 0 ∨ n ≤ 0) : r = spendL l i n0:=by
 rw [← h.out]
 rcases hd with rfl|hd
 · simp [spendR]
 · rw [spendR_zero0 i hd,List.reverse_reverse,← h.pre,List.take_append_drop]
open Go Go.RowKit Eng
open Go Go.RowKit Eng
open Go Go.RowKit Eng
open Go Go.RowKit Eng
open Go Go.RowKit Eng
open Go Go.RowKit Eng
open Go Go.RowKit Eng
open Go Go.RowKit Eng
def hv (w : Wld) (i : Nat) : List Int:=(List.range i).map (fun k : Nat=>tw (k : Int) w) ++ List.replicate (13 - i) 0
open Go Go.RowKit Eng
open Go Go.RowKit Eng
open Go Go.RowKit Eng
def updW (w : Wld) (ko : Option Chunk) (p : Player) : Wld:=match ko with
 | some k=>withP (withCs w (putL w.seed w.chunks k)) (setL w.players p)
 | none=>withP w (setL w.players p)
open Go Go.RowKit Eng
inductive AlikeW (w w' : Wld) (p : Player) : Wld × Int → Wld × Int → Prop where
 | err (e : Int) (h : ¬ e = 0) : AlikeW w w' p (w,e) (w',e)
 | ok (ko : Option Chunk) (p' : Player) (hi : p'.id = p.id) (hx : p'.x - p.x ≤ 1 ∧ p.x - p'.x ≤ 1 ∧ p'.y - p.y ≤ 1 ∧ p.y - p'.y ≤ 1) (hw : p'.wth = p.wth)
     (hk : ∀ k,ko = some k → rightB k = true ∧ max k.x k.y < w.size ∧ ∃ X Y,nearP p X Y = true ∧ k.x = X / 8 ∧ k.y = Y / 8)
     (h1 : RW (updW w ko p')) (h2 : RW (updW w' ko p')) : AlikeW w w' p (updW w ko p',0) (updW w' ko p',0)
theorem here_player {w : Wld} {p : Player} (h : Here w p) : playerW w p.id = (p,true):=by rw [playerW_get h.rw,h.get]
structure Act1 (w : Wld) (p : Player) (ko : Option Chunk) (p' : Player) : Prop where
 hi : p'.id = p.id
 hx : p'.x - p.x ≤ 1 ∧ p.x - p'.x ≤ 1 ∧ p'.y - p.y ≤ 1 ∧ p.y - p'.y ≤ 1
 hk : ∀ k,ko = some k → rightB k = true ∧ max k.x k.y < w.size ∧ ∃ X Y,nearP p X Y = true ∧ k.x = X / 8 ∧ k.y = Y / 8
theorem AlikeW.inv {w w' : Wld} {p : Player} {A B : Wld × Int} (h : AlikeW w w' p A B) : A.2 = B.2 ∧ ((¬ A.2 = 0 ∧ A.1 = w ∧ B.1 = w') ∨ (A.2 = 0 ∧ ∃ ko p',A.1 = updW w ko p' ∧ B.1 = updW w' ko p' ∧ Act1 w p ko p' ∧ RW (updW w ko p'))):=by
 cases h with
 | err e h=>exact ⟨rfl,.inl ⟨h,rfl,rfl⟩⟩
 | ok ko p' hi hx hw hk q1 q2=>exact ⟨rfl,.inr ⟨rfl,ko,p',rfl,rfl,⟨hi,hx,hk⟩,q1⟩⟩
end Go.Proofs.Ytchdgiooggdfeaa
