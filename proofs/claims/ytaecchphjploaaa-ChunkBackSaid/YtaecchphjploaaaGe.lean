/- Contracts of players and worlds. -/
import Derived.Test.YtaecchphjploaaaGd
set_option linter.unusedSimpArgs false
set_option linter.unusedVariables false
set_option maxRecDepth 100000
set_option maxHeartbeats 16000000
namespace Go.Proofs.Ytaecchphjploaaa
open Go Go.RowKit Eng
def bag8 (l : List Slot) : Bool:=decide ((l.length : Int) = 8) && bagOk l
def soundB (p : Player) : Bool:=
 decide (0 ≤ p.id) && (decide (p.id ≤ 1073741824) && (bag8 p.bag && (if p.wth = -1 then decide ((p.offer.length : Int) = 0) && !p.agrees
   else decide (0 ≤ p.wth) && (decide (p.wth ≤ 1073741824) && (!(decide (p.wth = p.id)) && bag8 p.offer)))))
open Go Go.RowKit Eng
structure Wld where
 size : Int
 seed : Int
 tick : Int
 chunks : List Chunk
 players : List Player
def wr8 (z : Int) : Int:=IntKind.i64.wrap (8 * z)
def withinW (size x y : Int) : Bool:=decide (0 ≤ min x y) && decide (max x y < wr8 size)
def keyC (c : Chunk) : Int:=16 * c.y + c.x
def headW (w : Wld) : Bool:=decide (1 ≤ w.size) && (decide (w.size ≤ 16) && (decide (0 ≤ w.tick) && (decide (w.tick ≤ 1099511627776) && decide ((w.players.length : Int) ≤ 32))))
open Go Go.RowKit Eng
open Go Go.RowKit Eng
open Go Go.RowKit Eng
abbrev pid : Player → Int:=Player.id
open Go Go.RowKit Eng
end Go.Proofs.Ytaecchphjploaaa
namespace Go.Proofs.Ytaecchphjploaaa
open Go Go.RowKit Eng
theorem FitChunk.okC {c : Chunk} (h : FitChunk c) : OkC c:=
 ⟨h.cells,fun x hx=>(h.heaps x hx).2.1,fun b hb=>⟨fun s hs=>((h.boxes b hb).2.1 s hs).1,by have:=(h.boxes b hb).2.2;unfold big;omega⟩,by have:=h.nc;unfold big;omega,by have:=h.nh;unfold big;omega,by have:=h.nb;unfold big;omega⟩
theorem FitChunk.fitC {c : Chunk} (h : FitChunk c) : FitC c:=⟨h.nc,h.nh,h.nb,fun b hb=>(h.boxes b hb).2.2⟩
open Go Go.RowKit Eng
def LesL (cs cs' : List AV) : Prop:=cs.length = cs'.length ∧ ∀ (i : Nat) c c',cs[i]? = some c → cs'[i]? = some c' → Le c c'
theorem LesL.nil : LesL [] []:=⟨rfl,by simp⟩
theorem LesL.cons {c c' : AV} {cs cs' : List AV} (h : Le c c') (hs : LesL cs cs') : LesL (c :: cs) (c' :: cs'):=by
 refine ⟨by simp [hs.1],fun i x x' h1 h2=>?_⟩
 cases i with
 | zero=>simp at h1 h2;subst h1;subst h2;exact h
 | succ i=>simp at h1 h2;exact hs.2 i x x' h1 h2
theorem Le.agg {cs cs' : List AV} (h : LesL cs cs') : Le (.agg cs) (.agg cs'):=fun w g lim x hr=>by
 cases hr with
 | agg _ xs hl hx =>
   refine .agg _ xs (by rw [← h.1];exact hl) fun i c' x hc hxx=>?_
   have hi : i < cs.length:=by rw [h.1];exact (List.getElem?_eq_some_iff.1 hc).1
   exact h.2 i _ c' (List.getElem?_eq_getElem hi) hc w g lim x (hx i _ x (List.getElem?_eq_getElem hi) hxx)
def mayB (p : Player) : Bool:=soundB p && withinW 16 p.x p.y
end Go.Proofs.Ytaecchphjploaaa
