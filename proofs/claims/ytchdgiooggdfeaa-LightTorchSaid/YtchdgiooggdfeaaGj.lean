/- Ways in rooms; homesteadlaw27.room, awake. -/
import Derived.Test.YtchdgiooggdfeaaGh
import Derived.Test.YtchdgiooggdfeaaGu
set_option linter.unusedSimpArgs false
set_option linter.unusedVariables false
set_option maxRecDepth 100000
set_option maxHeartbeats 16000000
namespace Go.Proofs.Ytchdgiooggdfeaa
open Go Go.RowKit Eng
theorem cell_same {w v : Wld} (hR : RW w) (hV : RW v) (hs : v.size = w.size) (hd : v.seed = w.seed) (hc : v.chunks = w.chunks) {a b : Int} (ha : 0 ≤ a ∧ a < 8 * w.size) (hb : 0 ≤ b ∧ b < 8 * w.size) : cellAt v a b = cellAt w a b:=by
 unfold cellAt
 rw [(chunkW_in hV (x:=a / 8) (y:=b / 8) (by omega) (by omega)).1,(chunkW_in hR (x:=a / 8) (y:=b / 8) (by omega) (by omega)).1,hc,hd]
theorem air_same {w v : Wld} (hR : RW w) (hV : RW v) (hs : v.size = w.size) (hd : v.seed = w.seed) (hc : v.chunks = w.chunks) : airW v = airW w:=by
 funext b
 unfold airW
 rw [hs]
 refine propext ⟨fun h=>⟨h.1,h.2.1,h.2.2.1,h.2.2.2.1,?_⟩,fun h=>⟨h.1,h.2.1,h.2.2.1,h.2.2.2.1,?_⟩⟩
 · rw [← cell_same hR hV hs hd hc ⟨h.1,h.2.2.1⟩ ⟨h.2.1,h.2.2.2.1⟩];exact h.2.2.2.2
 · rw [cell_same hR hV hs hd hc ⟨h.1,h.2.2.1⟩ ⟨h.2.1,h.2.2.2.1⟩];exact h.2.2.2.2
structure SameW (w v : Wld) : Prop where
 rw : RW v
 size : v.size = w.size
 seed : v.seed = w.seed
 chunks : v.chunks = w.chunks
theorem SameW.air {w v : Wld} (h : SameW w v) (hR : RW w) : airW v = airW w:=air_same hR h.rw h.size h.seed h.chunks
theorem SameW.trans {u v w : Wld} (h1 : SameW u v) (h2 : SameW v w) : SameW u w:=⟨h2.rw,h2.size.trans h1.size,h2.seed.trans h1.seed,h2.chunks.trans h1.chunks⟩
open Go Go.RowKit Eng
open Go Go.RowKit Eng
theorem chunk_put {w : Wld} {k : Chunk} {l : List Player} (hR : RW w) (hk : rightB k = true) (hm : max k.x k.y < w.size) (hn : RW (withP (withCs w (putL w.seed w.chunks k)) l)) : (chunkW (withP (withCs w (putL w.seed w.chunks k)) l) k.x k.y).1 = k:=by
 have hc:=chunk_get (k:=k) hn hk hm
 rw [hc,show (withP (withCs w (putL w.seed w.chunks k)) l).chunks = putL w.seed w.chunks k from rfl,getK_putL hR.rc,if_pos rfl]
 by_cases hp : plainW w.seed k = true
 · rw [if_pos hp];exact (plain_eq hk hp).symm
 · rw [if_neg hp]
open Go Go.RowKit Eng
def roomC (l : List Int) : Chunk:=⟨0,0,l,[],[]⟩
def w11 : Wld:=⟨1,1,0,[],[]⟩
theorem rw11 : RW w11:=rightW_iff.1 (by kernel_rfl)
structure Plainly (l : List Int) : Prop where
 len : l.length = 64
 ok : ∀ i ∈ l,itemOk i = true ∧ i ≠ 9
theorem plain_go : ∀ {l : List Int} (k : Nat),(∀ i ∈ l,itemOk i = true ∧ i ≠ 9) → rightGo l k [] = some []
 | [],k,_=>rfl
 | i :: r,k,h=>by
   obtain ⟨h1,h2⟩:=h i (List.mem_cons_self ..)
   unfold rightGo
   rw [if_pos h1,if_neg h2]
   exact plain_go (k + 1) fun j hj=>h j (List.mem_cons_of_mem _ hj)
theorem room_right {l : List Int} (h : Plainly l) : rightB (roomC l) = true:=by
 unfold rightB
 have h1 : rightGo (roomC l).cells 0 (roomC l).boxes = some []:=plain_go 0 h.ok
 rw [h1]
 have h2 : headB (roomC l) = true:=by
   unfold headB roomC
   simp only [h.len];rfl
 rw [h2];rfl
theorem room_cell {v : Wld} (hs : v.size = 1) {l : List Int} (hc : (chunkW v 0 0).1 = roomC l) {a b : Int} (ha : 0 ≤ a ∧ a < 8) (hb : 0 ≤ b ∧ b < 8) : cellAt v a b = elt .u8 l (b * 8 + a).toNat:=by
 unfold cellAt
 rw [show a / 8 = 0 by omega,show b / 8 = 0 by omega,hc,show b % 8 * 8 + a % 8 = b * 8 + a by omega]
 rfl
end Go.Proofs.Ytchdgiooggdfeaa
