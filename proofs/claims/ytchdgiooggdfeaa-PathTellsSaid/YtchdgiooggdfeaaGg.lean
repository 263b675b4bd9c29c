/- Contracts of the law packages 11 and 13. -/
import Derived.Test.YtchdgiooggdfeaaGf
import Derived.Test.YtchdgiooggdfeaaGc
import Derived.Test.YtchdgiooggdfeaaGe
set_option linter.unusedSimpArgs false
set_option linter.unusedVariables false
set_option maxRecDepth 100000
set_option maxHeartbeats 16000000
namespace Go.Proofs.Ytchdgiooggdfeaa
open Go Go.RowKit Eng
theorem elt_ext {tt : Ty} {a b : List (El tt)} (hl : a.length = b.length) (h : ∀ i < a.length,elt tt a i = elt tt b i) : a = b:=by
 refine List.ext_getElem? fun i=>?_
 by_cases hi : i < a.length
 · rw [elt_get tt a i hi,elt_get tt b i (by omega),h i hi]
 · rw [List.getElem?_eq_none (by omega),List.getElem?_eq_none (by omega)]
noncomputable def eqv {α : Type} (a b : α) : Bool:=@decide (a = b) (Classical.propDecidable _)
theorem eqv_iff {α : Type} {a b : α} : eqv a b = true ↔ a = b:=by unfold eqv;simp
theorem eqv_self {α : Type} (a : α) : eqv a a = true:=eqv_iff.2 rfl
theorem eqv_false {α : Type} {a b : α} : eqv a b = false ↔ a ≠ b:=by unfold eqv;simp
open Go Go.RowKit Eng
open Go Go.RowKit Eng
def w2 : Wld:=⟨2,7,0,[],[]⟩
open Go Go.RowKit Eng
theorem chunkW_in {w : Wld} {x y : Int} (hR : RW w) (hx : 0 ≤ x ∧ x < w.size) (hy : 0 ≤ y ∧ y < w.size) :
   chunkW w x y = (match getK keyC w.chunks (keyC (atC x y)) with|some c=>c|none=>genC w.seed x y,true) ∧ (chunkW w x y).1.x = x ∧ (chunkW w x y).1.y = y:=by
 have hs:=hR.size
 obtain ⟨e1,e2⟩:=bsC_rises hR.rc hR.xy (x:=x) (y:=y) hx.1 (by omega)
 have hRr:=rightW_iff.2 hR
 have hI : insideW w.size x y = true:=by unfold insideW;simp only [Bool.and_eq_true,decide_eq_true_eq];omega
 have hc : chunkW w x y = (if fdC w.chunks x y = true then (elt .chunk w.chunks (bsC w.chunks x y),true) else (genC w.seed x y,true)):=by
   unfold chunkW
   rw [if_neg (by rw [hI,hRr];simp)]
 rw [hc,e2]
 cases hg : getK keyC w.chunks (keyC (atC x y)) with
 | none=>exact ⟨rfl,rfl,rfl⟩
 | some c =>
   obtain ⟨h1,h2⟩:=lbK_lt hR.rc hg
   have h3 : elt .chunk w.chunks (lbK keyC (keyC (atC x y)) w.chunks) = c:=by
     have:=elt_get .chunk w.chunks _ h1
     rw [h2] at this
     exact (Option.some.inj this).symm
   rw [e1,h3]
   have h4:=(getK_mem hg)
   have h5:=rightB_pos (hR.chunks c h4.1).1
   have h6:=h4.2
   have h7 : keyC c = 16 * c.y + c.x:=rfl
   have h8 : keyC (atC x y) = 16 * y + x:=rfl
   refine ⟨rfl,?_,?_⟩
   · show c.x = x;omega
   · show c.y = y;omega
theorem within_iff {w : Wld} (hR : RW w) {x y : Int} : withinW w.size x y = true ↔ 0 ≤ x ∧ 0 ≤ y ∧ x < 8 * w.size ∧ y < 8 * w.size:=by
 have hs:=hR.size
 unfold withinW
 rw [wr8_eq (by omega) (by omega)]
 simp only [Bool.and_eq_true,decide_eq_true_eq]
 omega
end Go.Proofs.Ytchdgiooggdfeaa
