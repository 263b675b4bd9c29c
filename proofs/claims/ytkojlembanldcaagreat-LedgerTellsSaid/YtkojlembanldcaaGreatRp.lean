/- What is together behind orders and ticks. -/
import Derived.Test.YtkojlembanldcaaGreatRe
import Derived.Test.YtkojlembanldcaaGreatRb
set_option linter.unusedSimpArgs false
set_option linter.unusedVariables false
set_option maxRecDepth 100000
set_option maxHeartbeats 16000000
namespace Go.Proofs.YtkojlembanldcaaGreat
open Go Go.RowKit Eng
theorem H1 {w : Wld} (hR : RW w) (o : ay) {k : Nat} (hk : k < 13) : tw k (fP w o).1 = tw k w + elt .i64 (dp w o.player o.cmd) k:=Ho hR _ _ hk
theorem JL {k : Nat} (hk : 1 ≤ k ∧ k < 13) : ∀ {L : List aa} {C : List Int},C.length = 13 → (∀ s ∈ L,gY s) → elt .i64 (L.foldl dc C) k = elt .i64 C k + ac L k:=by
 intro L
 induction L with
 | nil=>intro C _ _;exact (Int.add_zero _).symm
 | cons s r ih =>
  intro C hC hs
  have h1:=hs s (by simp)
  rw [List.foldl_cons,ih (by unfold dc;rw [List.length_set];exact hC) (fun x hx=>hs x (List.mem_cons_of_mem _ hx)),oC hC h1]
  show _ = elt .i64 C k + (cnt k s + ac r k)
  have hc : cnt k s = if k = s.item.toNat then s.n else 0:=by
   obtain ⟨a,b,c,d⟩:=h1
   rw [show s = ⟨s.item,s.n⟩ from rfl,rh c]
   unfold sel
   by_cases h : k = s.item.toNat
   ·rw [if_pos h,if_pos ⟨by omega,by omega⟩]
   ·rw [if_neg h,if_neg (fun e=>h (by omega))]
  rw [hc]
  have hx : ∀ x z : Int,(if k = s.item.toNat then x + s.n else x) + z = x + ((if k = s.item.toNat then s.n else 0) + z):=by
   intro x z;split<;>omega
  exact hx _ _
theorem un (w : Wld) {k : Nat} (hk : k < 13) : elt .i64 (d8 w) k = tw k w:=by
 unfold d8 hv elt
 rw [List.getElem?_append_left (by simpa using hk),List.getElem?_map,List.getElem?_range hk];rfl
theorem A4 (l : List aa) : ac l 0 = 0:=by
 induction l with
 | nil=>rfl
 | cons s r ih=>show cnt 0 s + ac r 0 = 0;rw [ih];unfold cnt;simp
theorem wO {a b : List Int} (ha : a.length = 13) (hb : b.length = 13) (h : ∀ k : Nat,k < 13 → elt .i64 a k = (elt .i64 b k : Int)) : a = b:=by
 refine List.ext_getElem? fun i=>?_
 by_cases hi : i < 13
 ·have:=h i hi
  rw [ar .i64 a i (by omega),ar .i64 b i (by omega)]
  exact congrArg some this
 ·rw [List.getElem?_eq_none (by omega),List.getElem?_eq_none (by omega)]
theorem jU {w : Wld} (hR : RW w) : bY w = d8 w:=by
 have hw:=bZ hR
 refine wO (jP hw).1 (jm w (by omega)) fun k hk=>?_
 rw [un w hk,← nq]
 by_cases h0 : k = 0
 ·subst h0;rw [(jP hw).2.1];exact (A4 _).symm
 ·unfold bY
  rw [if_pos (aK.2 hR)]
  unfold tot
  rw [JL ⟨by omega,hk⟩ rfl (kv hR hw).fit,gb k hk];exact Int.zero_add _
def kQ (C D : List Int) (k : Nat) : List Int:=(List.range k).map (fun i=>(elt .i64 C i : Int) + elt .i64 D i) ++ C.drop k
theorem vo {C D : List Int} (hC : C.length = 13) {k : Nat} (hk : k ≤ 13) : (kQ C D k).length = 13:=by unfold kQ;simp;omega
theorem uo {C D : List Int} {k : Nat} (hC : C.length = 13) (hk : k < 13) : elt .i64 (kQ C D k) k = elt .i64 C k:=by
 unfold kQ elt
 rw [List.getElem?_append_right (by simp),List.length_map,List.length_range,Nat.sub_self,List.getElem?_drop,Nat.add_zero]
theorem zT {C D : List Int} (hC : C.length = 13) {k : Nat} (hk : k < 13) : (kQ C D k).set k ((elt .i64 C k : Int) + elt .i64 D k) = kQ C D (k + 1):=by
 unfold kQ
 rw [List.range_succ,List.map_append,List.set_append_right _ _ (by simp)]
 simp only [List.length_map,List.length_range,Nat.sub_self,List.map_cons,List.map_nil,List.append_assoc,List.cons_append,List.nil_append]
 rw [List.drop_eq_getElem_cons (by omega),List.set_cons_zero]
theorem vp {C D : List Int} (hC : C.length = 13) {k : Nat} (hk : k < 13) : elt .i64 (kQ C D 13) k = (elt .i64 C k : Int) + elt .i64 D k:=by
 unfold kQ
 rw [List.drop_of_length_le (by omega),List.append_nil]
 unfold elt
 rw [List.getElem?_map,List.getElem?_range hk];rfl
theorem uq (w : Wld) (id : Int) (c : Cmd) : (dp w id c).length = 13:=by
 unfold dp
 (repeat' split)<;>first|rfl|(rw [mU];rfl)|(rw [mU,ld];rfl)
theorem wP {w : Wld} (hR : RW w) (o : ay) : kQ (d8 w) (dp w o.player o.cmd) 13 = d8 (fP w o).1:=by
 have hl : (d8 w).length = 13:=jm w (by omega)
 refine wO (vo hl (by omega)) (jm _ (by omega)) fun k hk=>?_
 rw [vp hl hk,un _ hk,un _ hk,H1 hR o hk]
theorem rv {w : Wld} (hR : RW w) {k : Nat} (hk : k < 13) : inN 288230376151711744 (elt .i64 (d8 w) k):=by
 rw [un w hk,← nq]
 exact pM hR (List.prefix_refl _) _
def eL : Wld → List (List ay) → Wld
 | w,[]=>w
 | w,l :: r=>eL (ci w l).1 r
theorem wQ (a b : List (List ay)) : ∀ w : Wld,eL w (a ++ b) = eL (eL w a) b:=by
 induction a with
 | nil=>intro w;rfl
 | cons l r ih=>intro w;exact ih _
theorem DT {w : Wld} (h : aO w = false) (l : List ay) : ci w l = (w,[],113):=by unfold ci;rw [if_pos (.inr h)]
theorem H2 {w : Wld} (hw : OkW w) (l : List ay) : OkW (ci w l).1:=by
 cases h : aO w with
 | false=>rw [DT h];exact hw
 | true=>exact bZ (JK (aK.1 h) l)
theorem ql {l : List (List ay)} : ∀ {w : Wld},OkW w → OkW (eL w l):=by
 induction l with
 | nil=>intro w h;exact h
 | cons a r ih=>intro w h;exact ih (H2 h a)
end Go.Proofs.YtkojlembanldcaaGreat
