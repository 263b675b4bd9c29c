/- light.Light, light.Map; homesteadlaw26: Great, open, sky, Roof, awake. -/
import Derived.Test.YtchdgiooggdfeaaGf
set_option linter.unusedSimpArgs false
set_option linter.unusedVariables false
set_option maxRecDepth 100000
set_option maxHeartbeats 16000000
namespace Go.Proofs.Ytchdgiooggdfeaa
open Go Go.RowKit Eng
def longB6 (b : Box) : Bool:=decide (500 < (b.bag.length : Int))
def wideC6 (c : Chunk) : Bool:=decide (500 < (c.cells.length : Int)) || (decide (500 < (c.heaps.length : Int)) || decide (500 < (c.boxes.length : Int)))
def great6C (c : Chunk) : Bool:=wideC6 c || c.boxes.any longB6
def longP6 (p : Player) : Bool:=decide (500 < (p.bag.length : Int)) || decide (500 < (p.offer.length : Int))
def head6 (w : Wld) : Bool:=decide (4 < w.size) || (decide (12 < (w.chunks.length : Int)) || decide (12 < (w.players.length : Int)))
def great6 (w : Wld) : Bool:=head6 w || (w.chunks.any great6C || w.players.any longP6)
theorem or3_true {p q r : Prop} [Decidable p] [Decidable q] [Decidable r] (h : p ∨ q ∨ r) : (decide p || (decide q || decide r)) = true:=by simp [h]
theorem or3_false {p q r : Prop} [Decidable p] [Decidable q] [Decidable r] (h : ¬ (p ∨ q ∨ r)) : (decide p || (decide q || decide r)) = false:=by
 rw [Bool.eq_false_iff];intro e;apply h;simpa using e
theorem great6_api (w : Wld) (hw : OkW w) : Api Try.prog 9 [wldV w] (bol (great6 w)):=by
 have hnc:=hw.nc
 have hnp:=hw.np
 by_cases hbig : 4 < w.size ∨ 12 < (w.chunks.length : Int) ∨ 12 < (w.players.length : Int)
 · have hs : great6 w = true:=by
     unfold great6 head6;rw [or3_true hbig];rfl
   rw [hs]
   refine Api.of_fin cfg_ok Try.func9 rfl (nt:=103) rfl rfl ?_
   conv=>whnf
   repeat' (first|exact trivial|((first|refine kL ?_|(refine ⟨fun hb=>?_,fun hb=>?_⟩<;>(try simp only [nrm] at hb)<;>(try (first|(exfalso;omega)|contradiction|exact kB hb)))|refine kW cfg_ok ?_|refine kC ?_|refine bdA ?_|refine bd2 ?_|refine bdR ?_|refine bdL ?_)<;>(conv=>whnf))|(refine And.intro ?_ ?_;rotate_left;(conv=>whnf);rotate_right))
   all_goals first|rfl|omega|trace_state
 · have hs : great6 w = (w.chunks.any great6C || w.players.any longP6):=by
     unfold great6 head6;rw [or3_false hbig];rfl
   refine Api.of_fin cfg_ok Try.func9 rfl (nt:=103) rfl rfl ?_
   conv=>whnf
   repeat' (first|exact trivial|((first|refine kL ?_|(refine ⟨fun hb=>?_,fun hb=>?_⟩<;>(try simp only [nrm] at hb)<;>(try (first|(exfalso;omega)|contradiction|exact kB hb)))|refine kW cfg_ok ?_|refine kC ?_|refine bdA ?_|refine bd2 ?_|refine bdR ?_|refine bdL ?_)<;>(conv=>whnf))|(refine And.intro ?_ ?_;rotate_left;(conv=>whnf);rotate_right))
   all_goals try omega
   refine Runs.loopS cfg_ok (σ:=Nat) [1,23,24] (fun k=>[.ptr 2 0,i64 w.chunks.length,i64 k]) (fun _=>[(2,.box (wldC w))]) (fun k=>k ≤ w.chunks.length ∧ (w.chunks.drop k).any great6C = w.chunks.any great6C) (fun k=>w.chunks.length - k) 0 ⟨by omega,rfl⟩ ?_ ?_
   · conv=>whnf
     repeat' (first|exact trivial|((first|refine kL ?_|(refine ⟨fun hb=>?_,fun hb=>?_⟩<;>(try simp only [nrm] at hb)<;>(try (first|(exfalso;omega)|contradiction|exact kB hb)))|refine kW cfg_ok ?_|refine kC ?_|refine bdA ?_|refine bd2 ?_|refine bdR ?_|refine bdL ?_)<;>(conv=>whnf))|(refine And.intro ?_ ?_;rotate_left;(conv=>whnf);rotate_right))
   · rintro k ⟨hk,hg⟩
     by_cases hlt : k < w.chunks.length
     · rw [any_drop (tt:=.chunk) hlt] at hg
       have hoc:=hw.chunks _ (List.mem_of_getElem? (elt_get .chunk w.chunks k hlt))
       by_cases hL : 500 < ((elt .chunk w.chunks k).cells.length : Int) ∨ 500 < ((elt .chunk w.chunks k).heaps.length : Int) ∨ 500 < ((elt .chunk w.chunks k).boxes.length : Int)
       · have hl : great6C (elt .chunk w.chunks k) = true:=by unfold great6C wideC6;rw [or3_true hL];rfl
         rw [hl] at hg
         conv=>whnf
         repeat' (first|exact trivial|((first|refine kL ?_|(refine ⟨fun hb=>?_,fun hb=>?_⟩<;>(try simp only [nrm] at hb)<;>(try (first|(exfalso;omega)|contradiction|exact kB hb)))|refine kW cfg_ok ?_|refine kC ?_|refine bdA ?_|refine bd2 ?_|refine bdR ?_|refine bdL ?_)<;>(conv=>whnf))|(refine And.intro ?_ ?_;rotate_left;(conv=>whnf);rotate_right))
         all_goals first|omega|(refine congrArg Value.bool ?_;rw [hs,← hg];rfl)|trace_state
       · have hl : great6C (elt .chunk w.chunks k) = (elt .chunk w.chunks k).boxes.any longB6:=by unfold great6C wideC6;rw [or3_false hL];rfl
         rw [hl] at hg
         conv=>whnf
         repeat' (first|exact trivial|((first|refine kL ?_|(refine ⟨fun hb=>?_,fun hb=>?_⟩<;>(try simp only [nrm] at hb)<;>(try (first|(exfalso;omega)|contradiction|exact kB hb)))|refine kW cfg_ok ?_|refine kC ?_|refine bdA ?_|refine bd2 ?_|refine bdR ?_|refine bdL ?_)<;>(conv=>whnf))|(refine And.intro ?_ ?_;rotate_left;(conv=>whnf);rotate_right))
         all_goals try omega
         refine Runs.loopS cfg_ok (σ:=Nat) [1,3,23,24,61,62] (fun j=>[.ptr 2 0,i64 (k : Nat),i64 w.chunks.length,i64 k,i64 (elt .chunk w.chunks k).boxes.length,i64 j]) (fun _=>[(2,.box (wldC w))]) (fun j=>j ≤ (elt .chunk w.chunks k).boxes.length ∧ ((elt .chunk w.chunks k).boxes.drop j).any longB6 = (elt .chunk w.chunks k).boxes.any longB6) (fun j=>(elt .chunk w.chunks k).boxes.length - j) 0 ⟨by omega,rfl⟩ ?_ ?_
         · conv=>whnf
           repeat' (first|exact trivial|((first|refine kL ?_|(refine ⟨fun hb=>?_,fun hb=>?_⟩<;>(try simp only [nrm] at hb)<;>(try (first|(exfalso;omega)|contradiction|exact kB hb)))|refine kW cfg_ok ?_|refine kC ?_|refine bdA ?_|refine bd2 ?_|refine bdR ?_|refine bdL ?_)<;>(conv=>whnf))|(refine And.intro ?_ ?_;rotate_left;(conv=>whnf);rotate_right))
         · rintro j ⟨hj,hgj⟩
           by_cases hlj : j < (elt .chunk w.chunks k).boxes.length
           · rw [any_drop (tt:=.box) hlj] at hgj
             by_cases hB : 500 < ((elt .box (elt .chunk w.chunks k).boxes j).bag.length : Int)
             · have hlb : longB6 (elt .box (elt .chunk w.chunks k).boxes j) = true:=decide_eq_true hB
               rw [hlb] at hgj
               conv=>whnf
               repeat' (first|exact trivial|((first|refine kL ?_|(refine ⟨fun hb=>?_,fun hb=>?_⟩<;>(try simp only [nrm] at hb)<;>(try (first|(exfalso;omega)|contradiction|exact kB hb)))|refine kW cfg_ok ?_|refine kC ?_|refine bdA ?_|refine bd2 ?_|refine bdR ?_|refine bdL ?_)<;>(conv=>whnf))|(refine And.intro ?_ ?_;rotate_left;(conv=>whnf);rotate_right))
               all_goals first|omega|(refine congrArg Value.bool ?_;rw [hs,← hg,← hgj];rfl)|trace_state
             · have hlb : longB6 (elt .box (elt .chunk w.chunks k).boxes j) = false:=decide_eq_false hB
               rw [hlb] at hgj
               conv=>whnf
               repeat' (first|exact trivial|((first|refine kL ?_|(refine ⟨fun hb=>?_,fun hb=>?_⟩<;>(try simp only [nrm] at hb)<;>(try (first|(exfalso;omega)|contradiction|exact kB hb)))|refine kW cfg_ok ?_|refine kC ?_|refine bdA ?_|refine bd2 ?_|refine bdR ?_|refine bdL ?_)<;>(conv=>whnf))|(refine And.intro ?_ ?_;rotate_left;(conv=>whnf);rotate_right))
               all_goals try omega
               refine .to (j + 1) ⟨by omega,hgj⟩ (by omega) ?_
               conv=>whnf
               repeat' (first|exact trivial|((first|refine kL ?_|(refine ⟨fun hb=>?_,fun hb=>?_⟩<;>(try simp only [nrm] at hb)<;>(try (first|(exfalso;omega)|contradiction|exact kB hb)))|refine kW cfg_ok ?_|refine kC ?_|refine bdA ?_|refine bd2 ?_|refine bdR ?_|refine bdL ?_)<;>(conv=>whnf))|(refine And.intro ?_ ?_;rotate_left;(conv=>whnf);rotate_right))
           · obtain rfl : j = (elt .chunk w.chunks k).boxes.length:=by omega
             rw [List.drop_length] at hgj
             rw [← hgj] at hg
             conv=>whnf
             repeat' (first|exact trivial|((first|refine kL ?_|(refine ⟨fun hb=>?_,fun hb=>?_⟩<;>(try simp only [nrm] at hb)<;>(try (first|(exfalso;omega)|contradiction|exact kB hb)))|refine kW cfg_ok ?_|refine kC ?_|refine bdA ?_|refine bd2 ?_|refine bdR ?_|refine bdL ?_)<;>(conv=>whnf))|(refine And.intro ?_ ?_;rotate_left;(conv=>whnf);rotate_right))
             all_goals try omega
             refine .to (k + 1) ⟨by omega,hg⟩ (by omega) ?_
             conv=>whnf
             repeat' (first|exact trivial|((first|refine kL ?_|(refine ⟨fun hb=>?_,fun hb=>?_⟩<;>(try simp only [nrm] at hb)<;>(try (first|(exfalso;omega)|contradiction|exact kB hb)))|refine kW cfg_ok ?_|refine kC ?_|refine bdA ?_|refine bd2 ?_|refine bdR ?_|refine bdL ?_)<;>(conv=>whnf))|(refine And.intro ?_ ?_;rotate_left;(conv=>whnf);rotate_right))
     · obtain rfl : k = w.chunks.length:=by omega
       rw [List.drop_length] at hg
       have hs2 : great6 w = w.players.any longP6:=by rw [hs,← hg];rfl
       conv=>whnf
       repeat' (first|exact trivial|((first|refine kL ?_|(refine ⟨fun hb=>?_,fun hb=>?_⟩<;>(try simp only [nrm] at hb)<;>(try (first|(exfalso;omega)|contradiction|exact kB hb)))|refine kW cfg_ok ?_|refine kC ?_|refine bdA ?_|refine bd2 ?_|refine bdR ?_|refine bdL ?_)<;>(conv=>whnf))|(refine And.intro ?_ ?_;rotate_left;(conv=>whnf);rotate_right))
       refine Runs.loopS cfg_ok (σ:=Nat) [1,81,82] (fun k=>[.ptr 2 0,i64 w.players.length,i64 k]) (fun _=>[(2,.box (wldC w))]) (fun k=>k ≤ w.players.length ∧ (w.players.drop k).any longP6 = w.players.any longP6) (fun k=>w.players.length - k) 0 ⟨by omega,rfl⟩ ?_ ?_
       · conv=>whnf
         repeat' (first|exact trivial|((first|refine kL ?_|(refine ⟨fun hb=>?_,fun hb=>?_⟩<;>(try simp only [nrm] at hb)<;>(try (first|(exfalso;omega)|contradiction|exact kB hb)))|refine kW cfg_ok ?_|refine kC ?_|refine bdA ?_|refine bd2 ?_|refine bdR ?_|refine bdL ?_)<;>(conv=>whnf))|(refine And.intro ?_ ?_;rotate_left;(conv=>whnf);rotate_right))
       · rintro k ⟨hk,hg⟩
         by_cases hlt : k < w.players.length
         · rw [any_drop (tt:=.player) hlt] at hg
           by_cases hL : 500 < ((elt .player w.players k).bag.length : Int) ∨ 500 < ((elt .player w.players k).offer.length : Int)
           · have hl : longP6 (elt .player w.players k) = true:=by
               unfold longP6
               rcases hL with h|h
               · rw [decide_eq_true h];rfl
               · rw [decide_eq_true h,Bool.or_true]
             rw [hl] at hg
             conv=>whnf
             repeat' (first|exact trivial|((first|refine kL ?_|(refine ⟨fun hb=>?_,fun hb=>?_⟩<;>(try simp only [nrm] at hb)<;>(try (first|(exfalso;omega)|contradiction|exact kB hb)))|refine kW cfg_ok ?_|refine kC ?_|refine bdA ?_|refine bd2 ?_|refine bdR ?_|refine bdL ?_)<;>(conv=>whnf))|(refine And.intro ?_ ?_;rotate_left;(conv=>whnf);rotate_right))
             all_goals first|omega|(refine congrArg Value.bool ?_;rw [hs2,← hg];rfl)
           · have hl : longP6 (elt .player w.players k) = false:=by
               unfold longP6
               rw [decide_eq_false (by omega),decide_eq_false (by omega)];rfl
             rw [hl] at hg
             conv=>whnf
             repeat' (first|exact trivial|((first|refine kL ?_|(refine ⟨fun hb=>?_,fun hb=>?_⟩<;>(try simp only [nrm] at hb)<;>(try (first|(exfalso;omega)|contradiction|exact kB hb)))|refine kW cfg_ok ?_|refine kC ?_|refine bdA ?_|refine bd2 ?_|refine bdR ?_|refine bdL ?_)<;>(conv=>whnf))|(refine And.intro ?_ ?_;rotate_left;(conv=>whnf);rotate_right))
             all_goals try omega
             refine .to (k + 1) ⟨by omega,hg⟩ (by omega) ?_
             conv=>whnf
             repeat' (first|exact trivial|((first|refine kL ?_|(refine ⟨fun hb=>?_,fun hb=>?_⟩<;>(try simp only [nrm] at hb)<;>(try (first|(exfalso;omega)|contradiction|exact kB hb)))|refine kW cfg_ok ?_|refine kC ?_|refine bdA ?_|refine bd2 ?_|refine bdR ?_|refine bdL ?_)<;>(conv=>whnf))|(refine And.intro ?_ ?_;rotate_left;(conv=>whnf);rotate_right))
         · obtain rfl : k = w.players.length:=by omega
           rw [List.drop_length] at hg
           conv=>whnf
           repeat' (first|exact trivial|((first|refine kL ?_|(refine ⟨fun hb=>?_,fun hb=>?_⟩<;>(try simp only [nrm] at hb)<;>(try (first|(exfalso;omega)|contradiction|exact kB hb)))|refine kW cfg_ok ?_|refine kC ?_|refine bdA ?_|refine bd2 ?_|refine bdR ?_|refine bdL ?_)<;>(conv=>whnf))|(refine And.intro ?_ ?_;rotate_left;(conv=>whnf);rotate_right))
           all_goals (refine congrArg Value.bool ?_;rw [hs2,← hg];rfl)
end Go.Proofs.Ytchdgiooggdfeaa
