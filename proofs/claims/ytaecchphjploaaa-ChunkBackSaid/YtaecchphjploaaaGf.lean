/- Contracts of gen and world. -/
import Derived.Test.YtaecchphjploaaaGe
import Derived.Test.YtaecchphjploaaaGd
set_option linter.unusedSimpArgs false
set_option linter.unusedVariables false
set_option maxRecDepth 100000
set_option maxHeartbeats 16000000
namespace Go.Proofs.Ytaecchphjploaaa
open Go Go.RowKit Eng
open Go Go.RowKit Eng
open Go Go.RowKit Eng
open Go Go.RowKit Eng
open Go Go.RowKit Eng
open Go Go.RowKit Eng
open Go Go.RowKit Eng
open Go Go.RowKit Eng
open Go Go.RowKit Eng
open Go Go.RowKit Eng
open Go Go.RowKit Eng
open Go Go.RowKit Eng
def wr (z : Int) : Int:=IntKind.i64.wrap z
def greatS (c : Chunk) (k : Nat) : Int:=(c.boxes.take k).foldl (fun n b=>wr (n + b.bag.length)) (wr (wr ((c.cells.length : Int) + c.heaps.length) + c.boxes.length))
def greatB (c : Chunk) : Bool:=decide (3000 < greatS c c.boxes.length)
theorem greatS_next {c : Chunk} {k : Nat} (h : k < c.boxes.length) : greatS c (k + 1) = wr (greatS c k + (elt .box c.boxes k).bag.length):=by
 have:=elt_get .box c.boxes k h
 unfold greatS
 rw [List.take_add_one,this]
 simp
theorem great_api (c : Chunk) (hc : OkC c) : Api Try.prog 5 [chunkV c] (bol (greatB c)):=by
 have hnb : c.boxes.length ≤ 9000000000000000000:=hc.nb
 refine Api.of_fin cfg_ok Try.func5 rfl (nt:=33) rfl rfl ?_
 conv=>whnf
 repeat' (first|exact trivial|((first|refine kL ?_|(refine ⟨fun hb=>?_,fun hb=>?_⟩<;>(try simp only [nrm] at hb)<;>(try (first|(exfalso;omega)|contradiction|exact kB hb)))|(refine .inr ?_)|refine kW cfg_ok ?_|refine kC ?_|refine bdA ?_|refine bd2 ?_|refine bdR ?_|refine bdL ?_)<;>(conv=>whnf))|(refine And.intro ?_ ?_;rotate_left;(conv=>whnf);rotate_right))
 refine Runs.loopS cfg_ok (σ:=Nat) [1,3,18,19] (fun k=>[.ptr 2 0,i64 (greatS c k),i64 c.boxes.length,i64 k]) (fun k=>[(2,.box (chunkC c))])
   (fun k=>k ≤ c.boxes.length) (fun k=>c.boxes.length - k) 0 (by omega) ?_ ?_
 · conv=>whnf
   repeat' (first|exact trivial|((first|refine kL ?_|(refine ⟨fun hb=>?_,fun hb=>?_⟩<;>(try simp only [nrm] at hb)<;>(try (first|(exfalso;omega)|contradiction|exact kB hb)))|refine kW cfg_ok ?_|refine kC ?_|refine bdA ?_|refine bd2 ?_|refine bdR ?_|refine bdL ?_)<;>(conv=>whnf))|(refine And.intro ?_ ?_;rotate_left;(conv=>whnf);rotate_right))
 · intro k hk
   by_cases hlt : k < c.boxes.length
   · conv=>whnf
     repeat' (first|exact trivial|((first|refine kL ?_|(refine ⟨fun hb=>?_,fun hb=>?_⟩<;>(try simp only [nrm] at hb)<;>(try (first|(exfalso;omega)|contradiction|exact kB hb)))|(refine .inr ?_)|refine kW cfg_ok ?_|refine kC ?_|refine bdA ?_|refine bd2 ?_|refine bdR ?_|refine bdL ?_)<;>(conv=>whnf))|(refine And.intro ?_ ?_;rotate_left;(conv=>whnf);rotate_right))
     refine .to (k + 1) hlt (by omega) ?_
     conv=>whnf
     repeat' (first|exact trivial|((first|refine kL ?_|(refine ⟨fun hb=>?_,fun hb=>?_⟩<;>(try simp only [nrm] at hb)<;>(try (first|(exfalso;omega)|contradiction|exact kB hb)))|refine kW cfg_ok ?_|refine kC ?_|refine bdA ?_|refine bd2 ?_|refine bdR ?_|refine bdL ?_)<;>(conv=>whnf))|(refine And.intro ?_ ?_;rotate_left;(conv=>whnf);rotate_right))
     rw [greatS_next hlt];rfl
   · obtain rfl : k = c.boxes.length:=by omega
     conv=>whnf
     repeat' (first|exact trivial|((first|refine kL ?_|(refine ⟨fun hb=>?_,fun hb=>?_⟩<;>(try simp only [nrm] at hb)<;>(try (first|(exfalso;omega)|contradiction|exact kB hb)))|refine kW cfg_ok ?_|refine kC ?_|refine bdA ?_|refine bd2 ?_|refine bdR ?_|refine bdL ?_)<;>(conv=>whnf))|(refine And.intro ?_ ?_;rotate_left;(conv=>whnf);rotate_right))
open Go Go.RowKit Eng
open Go Go.RowKit Eng
structure RW (w : Wld) : Prop where
 head : headW w = true
 chunks : ∀ c ∈ w.chunks,rightB c = true ∧ max c.x c.y < w.size
 rc : risesK keyC w.chunks
 rp : risesK pid w.players
 players : ∀ p ∈ w.players,soundB p = true ∧ withinW w.size p.x p.y = true
theorem RW.size {w : Wld} (h : RW w) : 1 ≤ w.size ∧ w.size ≤ 16 ∧ 0 ≤ w.tick ∧ w.tick ≤ 1099511627776 ∧ w.players.length ≤ 32:=by
 have:=h.head
 simp only [headW,Bool.and_eq_true,decide_eq_true_eq] at this
 omega
theorem getK_self_del {α : Type} {key : α → Int} {l : List α} {t : Int} (h : risesK key l) : getK key (delK key t l) t = none:=by
 rw [getK_del h,if_pos rfl]
def setL (l : List Player) (p : Player) : List Player:=insK pid p (delK pid p.id l)
theorem getK_setL {l : List Player} {p : Player} (h : risesK pid l) (t : Int) : getK pid (setL l p) t = if t = p.id then some p else getK pid l t:=by
 unfold setL
 rw [getK_ins (getK_self_del h),getK_del h]
 change (if t = p.id then _ else _) = _
 split<;>rfl
theorem risesK_setL {l : List Player} {p : Player} (h : risesK pid l) : risesK pid (setL l p):=risesK_ins (risesK_del h) (getK_self_del h)
theorem set_comm {w : Wld} {p q : Player} (hR : RW w) (hne : p.id ≠ q.id) : setL (setL w.players p) q = setL (setL w.players q) p:=by
 refine risesK_ext (risesK_setL (risesK_setL hR.rp)) (risesK_setL (risesK_setL hR.rp)) fun t=>?_
 rw [getK_setL (risesK_setL hR.rp),getK_setL hR.rp,getK_setL (risesK_setL hR.rp),getK_setL hR.rp]
 by_cases h1 : t = q.id
 · have h2 : ¬ t = p.id:=fun h2=>hne (h2.symm.trans h1)
   simp only [if_pos h1,if_neg h2]
 · simp only [if_neg h1]
end Go.Proofs.Ytaecchphjploaaa
