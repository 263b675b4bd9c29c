/- light.Light, light.Map; homesteadlaw26: Great, open, sky, Roof, awake. -/
import Derived.Test.YtchdgiooggdfeaaGf
import Derived.Test.YtchdgiooggdfeaaGl
import Derived.Test.YtchdgiooggdfeaaGg
import Derived.Test.YtchdgiooggdfeaaGn
import Derived.Test.YtchdgiooggdfeaaGj
import Derived.Test.YtchdgiooggdfeaaGc
import Derived.Test.YtchdgiooggdfeaaGe
set_option linter.unusedSimpArgs false
set_option linter.unusedVariables false
set_option maxRecDepth 100000
set_option maxHeartbeats 16000000
namespace Go.Proofs.Ytchdgiooggdfeaa
open Go Go.RowKit Eng
def longB6 (b : Box) : Bool:=decide (500 < (b.bag.length : Int))
def wideC6 (c : Chunk) : Bool:=decide (500 < (c.cells.length : Int)) || (decide (500 < (c.heaps.length : Int)) || decide (500 < (c.boxes.length : Int)))
def great6C (c : Chunk) : Bool:=wideC6 c || c.boxes.any longB6
def longP6 (p : Player) : Bool:=decide (500 < (p.bag.length : Int)) || decide (500 < (p.offer.length : Int))
def head6 (w : Wld) : Bool:=decide (4 < w.size) || (decide (12 < (w.chunks.length : Int)) || decide (12 < (w.players.length : Int)))
def great6 (w : Wld) : Bool:=head6 w || (w.chunks.any great6C || w.players.any longP6)
theorem or3_true {p q r : Prop} [Decidable p] [Decidable q] [Decidable r] (h : p ∨ q ∨ r) : (decide p || (decide q || decide r)) = true:=by simp [h]
theorem or3_false {p q r : Prop} [Decidable p] [Decidable q] [Decidable r] (h : ¬ (p ∨ q ∨ r)) : (decide p || (decide q || decide r)) = false:=by
 rw [Bool.eq_false_iff];intro e;apply h;simpa using e
theorem great6_api (w : Wld) (hw : OkW w) : Api Try.prog 9 [wldV w] (bol (great6 w)):=by
 have hnc:=hw.nc
 have hnp:=hw.np
 by_cases hbig : 4 < w.size ∨ 12 < (w.chunks.length : Int) ∨ 12 < (w.players.length : Int)
 · have hs : great6 w = true:=by
     unfold great6 head6;rw [or3_true hbig];rfl
   rw [hs]
   refine Api.of_fin cfg_ok Try.func9 rfl (nt:=103) rfl rfl ?_
   conv=>whnf
   repeat' (first|exact trivial|((first|refine kL ?_|(refine ⟨fun hb=>?_,fun hb=>?_⟩<;>(try simp only [nrm] at hb)<;>(try (first|(exfalso;omega)|contradiction|exact kB hb)))|refine kW cfg_ok ?_|refine kC ?_|refine bdA ?_|refine bd2 ?_|refine bdR ?_|refine bdL ?_)<;>(conv=>whnf))|(refine And.intro ?_ ?_;rotate_left;(conv=>whnf);rotate_right))
   all_goals first|rfl|omega|trace_state
 · have hs : great6 w = (w.chunks.any great6C || w.players.any longP6):=by
     unfold great6 head6;rw [or3_false hbig];rfl
   refine Api.of_fin cfg_ok Try.func9 rfl (nt:=103) rfl rfl ?_
   conv=>whnf
   repeat' (first|exact trivial|((first|refine kL ?_|(refine ⟨fun hb=>?_,fun hb=>?_⟩<;>(try simp only [nrm] at hb)<;>(try (first|(exfalso;omega)|contradiction|exact kB hb)))|refine kW cfg_ok ?_|refine kC ?_|refine bdA ?_|refine bd2 ?_|refine bdR ?_|refine bdL ?_)<;>(conv=>whnf))|(refine And.intro ?_ ?_;rotate_left;(conv=>whnf);rotate_right))
   all_goals try omega
   refine Runs.loopS cfg_ok (σ:=Nat) [1,23,24] (fun k=>[.ptr 2 0,i64 w.chunks.length,i64 k]) (fun _=>[(2,.box (wldC w))]) (fun k=>k ≤ w.chunks.length ∧ (w.chunks.drop k).any great6C = w.chunks.any great6C) (fun k=>w.chunks.length - k) 0 ⟨by omega,rfl⟩ ?_ ?_
   · conv=>whnf
     repeat' (first|exact trivial|((first|refine kL ?_|(refine ⟨fun hb=>?_,fun hb=>?_⟩<;>(try simp only [nrm] at hb)<;>(try (first|(exfalso;omega)|contradiction|exact kB hb)))|refine kW cfg_ok ?_|refine kC ?_|refine bdA ?_|refine bd2 ?_|refine bdR ?_|refine bdL ?_)<;>(conv=>whnf))|(refine And.intro ?_ ?_;rotate_left;(conv=>whnf);rotate_right))
   · rintro k ⟨hk,hg⟩
     by_cases hlt : k < w.chunks.length
     · rw [any_drop (tt:=.chunk) hlt] at hg
       have hoc:=hw.chunks _ (List.mem_of_getElem? (elt_get .chunk w.chunks k hlt))
       by_cases hL : 500 < ((elt .chunk w.chunks k).cells.length : Int) ∨ 500 < ((elt .chunk w.chunks k).heaps.length : Int) ∨ 500 < ((elt .chunk w.chunks k).boxes.length : Int)
       · have hl : great6C (elt .chunk w.chunks k) = true:=by unfold great6C wideC6;rw [or3_true hL];rfl
         rw [hl] at hg
         conv=>whnf
         repeat' (first|exact trivial|((first|refine kL ?_|(refine ⟨fun hb=>?_,fun hb=>?_⟩<;>(try simp only [nrm] at hb)<;>(try (first|(exfalso;omega)|contradiction|exact kB hb)))|refine kW cfg_ok ?_|refine kC ?_|refine bdA ?_|refine bd2 ?_|refine bdR ?_|refine bdL ?_)<;>(conv=>whnf))|(refine And.intro ?_ ?_;rotate_left;(conv=>whnf);rotate_right))
         all_goals first|omega|(refine congrArg Value.bool ?_;rw [hs,← hg];rfl)|trace_state
       · have hl : great6C (elt .chunk w.chunks k) = (elt .chunk w.chunks k).boxes.any longB6:=by unfold great6C wideC6;rw [or3_false hL];rfl
         rw [hl] at hg
         conv=>whnf
         repeat' (first|exact trivial|((first|refine kL ?_|(refine ⟨fun hb=>?_,fun hb=>?_⟩<;>(try simp only [nrm] at hb)<;>(try (first|(exfalso;omega)|contradiction|exact kB hb)))|refine kW cfg_ok ?_|refine kC ?_|refine bdA ?_|refine bd2 ?_|refine bdR ?_|refine bdL ?_)<;>(conv=>whnf))|(refine And.intro ?_ ?_;rotate_left;(conv=>whnf);rotate_right))
         all_goals try omega
         refine Runs.loopS cfg_ok (σ:=Nat) [1,3,23,24,61,62] (fun j=>[.ptr 2 0,i64 (k : Nat),i64 w.chunks.length,i64 k,i64 (elt .chunk w.chunks k).boxes.length,i64 j]) (fun _=>[(2,.box (wldC w))]) (fun j=>j ≤ (elt .chunk w.chunks k).boxes.length ∧ ((elt .chunk w.chunks k).boxes.drop j).any longB6 = (elt .chunk w.chunks k).boxes.any longB6) (fun j=>(elt .chunk w.chunks k).boxes.length - j) 0 ⟨by omega,rfl⟩ ?_ ?_
         · conv=>whnf
           repeat' (first|exact trivial|((first|refine kL ?_|(refine ⟨fun hb=>?_,fun hb=>?_⟩<;>(try simp only [nrm] at hb)<;>(try (first|(exfalso;omega)|contradiction|exact kB hb)))|refine kW cfg_ok ?_|refine kC ?_|refine bdA ?_|refine bd2 ?_|refine bdR ?_|refine bdL ?_)<;>(conv=>whnf))|(refine And.intro ?_ ?_;rotate_left;(conv=>whnf);rotate_right))
         · rintro j ⟨hj,hgj⟩
           by_cases hlj : j < (elt .chunk w.chunks k).boxes.length
           · rw [any_drop (tt:=.box) hlj] at hgj
             by_cases hB : 500 < ((elt .box (elt .chunk w.chunks k).boxes j).bag.length : Int)
             · have hlb : longB6 (elt .box (elt .chunk w.chunks k).boxes j) = true:=decide_eq_true hB
               rw [hlb] at hgj
               conv=>whnf
               repeat' (first|exact trivial|((first|refine kL ?_|(refine ⟨fun hb=>?_,fun hb=>?_⟩<;>(try simp only [nrm] at hb)<;>(try (first|(exfalso;omega)|contradiction|exact kB hb)))|refine kW cfg_ok ?_|refine kC ?_|refine bdA ?_|refine bd2 ?_|refine bdR ?_|refine bdL ?_)<;>(conv=>whnf))|(refine And.intro ?_ ?_;rotate_left;(conv=>whnf);rotate_right))
               all_goals first|omega|(refine congrArg Value.bool ?_;rw [hs,← hg,← hgj];rfl)|trace_state
             · have hlb : longB6 (elt .box (elt .chunk w.chunks k).boxes j) = false:=decide_eq_false hB
               rw [hlb] at hgj
               conv=>whnf
               repeat' (first|exact trivial|((first|refine kL ?_|(refine ⟨fun hb=>?_,fun hb=>?_⟩<;>(try simp only [nrm] at hb)<;>(try (first|(exfalso;omega)|contradiction|exact kB hb)))|refine kW cfg_ok ?_|refine kC ?_|refine bdA ?_|refine bd2 ?_|refine bdR ?_|refine bdL ?_)<;>(conv=>whnf))|(refine And.intro ?_ ?_;rotate_left;(conv=>whnf);rotate_right))
               all_goals try omega
               refine .to (j + 1) ⟨by omega,hgj⟩ (by omega) ?_
               conv=>whnf
               repeat' (first|exact trivial|((first|refine kL ?_|(refine ⟨fun hb=>?_,fun hb=>?_⟩<;>(try simp only [nrm] at hb)<;>(try (first|(exfalso;omega)|contradiction|exact kB hb)))|refine kW cfg_ok ?_|refine kC ?_|refine bdA ?_|refine bd2 ?_|refine bdR ?_|refine bdL ?_)<;>(conv=>whnf))|(refine And.intro ?_ ?_;rotate_left;(conv=>whnf);rotate_right))
           · obtain rfl : j = (elt .chunk w.chunks k).boxes.length:=by omega
             rw [List.drop_length] at hgj
             rw [← hgj] at hg
             conv=>whnf
             repeat' (first|exact trivial|((first|refine kL ?_|(refine ⟨fun hb=>?_,fun hb=>?_⟩<;>(try simp only [nrm] at hb)<;>(try (first|(exfalso;omega)|contradiction|exact kB hb)))|refine kW cfg_ok ?_|refine kC ?_|refine bdA ?_|refine bd2 ?_|refine bdR ?_|refine bdL ?_)<;>(conv=>whnf))|(refine And.intro ?_ ?_;rotate_left;(conv=>whnf);rotate_right))
             all_goals try omega
             refine .to (k + 1) ⟨by omega,hg⟩ (by omega) ?_
             conv=>whnf
             repeat' (first|exact trivial|((first|refine kL ?_|(refine ⟨fun hb=>?_,fun hb=>?_⟩<;>(try simp only [nrm] at hb)<;>(try (first|(exfalso;omega)|contradiction|exact kB hb)))|refine kW cfg_ok ?_|refine kC ?_|refine bdA ?_|refine bd2 ?_|refine bdR ?_|refine bdL ?_)<;>(conv=>whnf))|(refine And.intro ?_ ?_;rotate_left;(conv=>whnf);rotate_right))
     · obtain rfl : k = w.chunks.length:=by omega
       rw [List.drop_length] at hg
       have hs2 : great6 w = w.players.any longP6:=by rw [hs,← hg];rfl
       conv=>whnf
       repeat' (first|exact trivial|((first|refine kL ?_|(refine ⟨fun hb=>?_,fun hb=>?_⟩<;>(try simp only [nrm] at hb)<;>(try (first|(exfalso;omega)|contradiction|exact kB hb)))|refine kW cfg_ok ?_|refine kC ?_|refine bdA ?_|refine bd2 ?_|refine bdR ?_|refine bdL ?_)<;>(conv=>whnf))|(refine And.intro ?_ ?_;rotate_left;(conv=>whnf);rotate_right))
       refine Runs.loopS cfg_ok (σ:=Nat) [1,81,82] (fun k=>[.ptr 2 0,i64 w.players.length,i64 k]) (fun _=>[(2,.box (wldC w))]) (fun k=>k ≤ w.players.length ∧ (w.players.drop k).any longP6 = w.players.any longP6) (fun k=>w.players.length - k) 0 ⟨by omega,rfl⟩ ?_ ?_
       · conv=>whnf
         repeat' (first|exact trivial|((first|refine kL ?_|(refine ⟨fun hb=>?_,fun hb=>?_⟩<;>(try simp only [nrm] at hb)<;>(try (first|(exfalso;omega)|contradiction|exact kB hb)))|refine kW cfg_ok ?_|refine kC ?_|refine bdA ?_|refine bd2 ?_|refine bdR ?_|refine bdL ?_)<;>(conv=>whnf))|(refine And.intro ?_ ?_;rotate_left;(conv=>whnf);rotate_right))
       · rintro k ⟨hk,hg⟩
         by_cases hlt : k < w.players.length
         · rw [any_drop (tt:=.player) hlt] at hg
           by_cases hL : 500 < ((elt .player w.players k).bag.length : Int) ∨ 500 < ((elt .player w.players k).offer.length : Int)
           · have hl : longP6 (elt .player w.players k) = true:=by
               unfold longP6
               rcases hL with h|h
               · rw [decide_eq_true h];rfl
               · rw [decide_eq_true h,Bool.or_true]
             rw [hl] at hg
             conv=>whnf
             repeat' (first|exact trivial|((first|refine kL ?_|(refine ⟨fun hb=>?_,fun hb=>?_⟩<;>(try simp only [nrm] at hb)<;>(try (first|(exfalso;omega)|contradiction|exact kB hb)))|refine kW cfg_ok ?_|refine kC ?_|refine bdA ?_|refine bd2 ?_|refine bdR ?_|refine bdL ?_)<;>(conv=>whnf))|(refine And.intro ?_ ?_;rotate_left;(conv=>whnf);rotate_right))
             all_goals first|omega|(refine congrArg Value.bool ?_;rw [hs2,← hg];rfl)
           · have hl : longP6 (elt .player w.players k) = false:=by
               unfold longP6
               rw [decide_eq_false (by omega),decide_eq_false (by omega)];rfl
             rw [hl] at hg
             conv=>whnf
             repeat' (first|exact trivial|((first|refine kL ?_|(refine ⟨fun hb=>?_,fun hb=>?_⟩<;>(try simp only [nrm] at hb)<;>(try (first|(exfalso;omega)|contradiction|exact kB hb)))|refine kW cfg_ok ?_|refine kC ?_|refine bdA ?_|refine bd2 ?_|refine bdR ?_|refine bdL ?_)<;>(conv=>whnf))|(refine And.intro ?_ ?_;rotate_left;(conv=>whnf);rotate_right))
             all_goals try omega
             refine .to (k + 1) ⟨by omega,hg⟩ (by omega) ?_
             conv=>whnf
             repeat' (first|exact trivial|((first|refine kL ?_|(refine ⟨fun hb=>?_,fun hb=>?_⟩<;>(try simp only [nrm] at hb)<;>(try (first|(exfalso;omega)|contradiction|exact kB hb)))|refine kW cfg_ok ?_|refine kC ?_|refine bdA ?_|refine bd2 ?_|refine bdR ?_|refine bdL ?_)<;>(conv=>whnf))|(refine And.intro ?_ ?_;rotate_left;(conv=>whnf);rotate_right))
         · obtain rfl : k = w.players.length:=by omega
           rw [List.drop_length] at hg
           conv=>whnf
           repeat' (first|exact trivial|((first|refine kL ?_|(refine ⟨fun hb=>?_,fun hb=>?_⟩<;>(try simp only [nrm] at hb)<;>(try (first|(exfalso;omega)|contradiction|exact kB hb)))|refine kW cfg_ok ?_|refine kC ?_|refine bdA ?_|refine bd2 ?_|refine bdR ?_|refine bdL ?_)<;>(conv=>whnf))|(refine And.intro ?_ ?_;rotate_left;(conv=>whnf);rotate_right))
           all_goals (refine congrArg Value.bool ?_;rw [hs2,← hg];rfl)
open Go Go.RowKit Eng
instance (w : Wld) (c : Pos) : Decidable (inW w c):=inferInstanceAs (Decidable (_ ∧ _ ∧ _ ∧ _))
instance (w : Wld) (c : Pos) : Decidable (openW w c):=inferInstanceAs (Decidable (_ ∧ _))
def bestN (w : Wld) (V : Int → Int → Int) (c : Pos) (b : Int) (d : Pos) : Int:=if openW w (addP c d) then max b (V (addP c d).x (addP c d).y - 1) else b
theorem bestN_le {w : Wld} {V : Int → Int → Int} {c : Pos} {v : Int} : ∀ {l : List Pos} {b : Int},b ≤ v → (∀ d ∈ l,openW w (addP c d) → V (addP c d).x (addP c d).y - 1 ≤ v) → l.foldl (bestN w V c) b ≤ v
 | [],_,h,_=>h
 | d :: r,b,h,hd=>by
   refine bestN_le (l:=r) (b:=bestN w V c b d) ?_ fun e he=>hd e (List.mem_cons_of_mem _ he)
   unfold bestN
   by_cases ho : openW w (addP c d)
   · have:=hd d (List.mem_cons_self ..) ho
     rw [if_pos ho];omega
   · rw [if_neg ho];exact h
theorem bestN_ge {w : Wld} {V : Int → Int → Int} {c : Pos} : ∀ {l : List Pos} {b : Int},b ≤ l.foldl (bestN w V c) b
 | [],_=>Int.le_refl _
 | d :: r,b=>by
   refine Int.le_trans ?_ (bestN_ge (l:=r) (b:=bestN w V c b d))
   unfold bestN
   by_cases ho : openW w (addP c d)
   · rw [if_pos ho];omega
   · rw [if_neg ho];exact Int.le_refl _
theorem bestN_has {w : Wld} {V : Int → Int → Int} {c d : Pos} (ho : openW w (addP c d)) : ∀ {l : List Pos} {b : Int},d ∈ l → V (addP c d).x (addP c d).y - 1 ≤ l.foldl (bestN w V c) b
 | [],_,h=>by cases h
 | e :: r,b,h=>by
   rcases List.mem_cons.1 h with rfl|h
   · refine Int.le_trans ?_ (bestN_ge (l:=r) (b:=bestN w V c b d))
     unfold bestN
     rw [if_pos ho];omega
   · exact bestN_has ho (l:=r) h
theorem bright_fold {w : Wld} {V : Int → Int → Int} (hV : ∀ c : Pos,inW w c → Bright w c (V c.x c.y)) {c : Pos} (ho : openW w c) : V c.x c.y = dirsL.foldl (bestN w V c) (selfB w c):=by
 obtain ⟨h1,h2,h3⟩:=bright_best (hV c ho.1) ho
 refine Int.le_antisymm ?_ (bestN_le h1 fun d hd hod=>h2 d hd _ (hV _ hod.1))
 rcases h3 with h3|⟨d,hd,h3⟩
 · rw [h3];exact bestN_ge
 · rw [h3.2 _ (hV _ h3.1.1)];exact bestN_has h3.1 hd
open Go Go.RowKit Eng
def openB (w : Wld) (x y : Int) : Bool:=decide (openW w ⟨x,y⟩)
theorem at_of_in {w : Wld} (hR : RW w) {x y : Int} (h : inW w ⟨x,y⟩) : atW w x y = (cellAt w x y,true):=by
 rw [atW_in hR ⟨h.1,h.2.1,h.2.2.1,h.2.2.2⟩];rfl
theorem at_of_out {w : Wld} (hR : RW w) {x y : Int} (h : ¬ inW w ⟨x,y⟩) : atW w x y = (0,false):=atW_out hR fun e=>h ⟨e.1,e.2.1,e.2.2.1,e.2.2.2⟩
theorem lopen_api (w : Wld) (x y : Int) (hw : OkW w) (hR : RW w) (hx1 : x ≤ 9223372036854775807) (hy1 : y ≤ 9223372036854775807) : Api Try.prog 26 [wldV w,i64 x,i64 y] (bol (openB w x y)):=by
 have hat:=at_api w x y hw hx1 hy1
 by_cases hi : inW w ⟨x,y⟩
 · rw [at_of_in hR hi] at hat
   by_cases h0 : cellAt w x y = 0 ∨ cellAt w x y = 10
   · have hv : openB w x y = true:=decide_eq_true ⟨hi,h0⟩
     rw [hv]
     generalize cellAt w x y = ce at *
     refine Api.of_fin cfg_ok Try.func26 rfl (nt:=22) rfl rfl ?_
     conv=>whnf
     repeat' (first|exact trivial|((first|refine kL ?_|(refine ⟨fun hb=>?_,fun hb=>?_⟩<;>(try simp only [nrm] at hb)<;>(try (first|(exfalso;omega)|contradiction|exact kB hb)))|refine kA hat ?_|refine kD hat ?_|refine kW cfg_ok ?_|refine kC ?_|refine bdA ?_|refine bd2 ?_|refine bdR ?_|refine bdL ?_)<;>(conv=>whnf))|(refine And.intro ?_ ?_;rotate_left;(conv=>whnf);rotate_right))
     all_goals first|rfl|omega|(refine congrArg Value.bool ?_;exact beq_iff_eq.2 (by omega))|(refine congrArg Value.bool ?_;exact beq_eq_false_iff_ne.2 (by omega))|trace_state
   · have hv : openB w x y = false:=decide_eq_false fun e=>h0 e.2
     rw [hv]
     generalize cellAt w x y = ce at *
     refine Api.of_fin cfg_ok Try.func26 rfl (nt:=22) rfl rfl ?_
     conv=>whnf
     repeat' (first|exact trivial|((first|refine kL ?_|(refine ⟨fun hb=>?_,fun hb=>?_⟩<;>(try simp only [nrm] at hb)<;>(try (first|(exfalso;omega)|contradiction|exact kB hb)))|refine kA hat ?_|refine kD hat ?_|refine kW cfg_ok ?_|refine kC ?_|refine bdA ?_|refine bd2 ?_|refine bdR ?_|refine bdL ?_)<;>(conv=>whnf))|(refine And.intro ?_ ?_;rotate_left;(conv=>whnf);rotate_right))
     all_goals first|rfl|omega|(refine congrArg Value.bool ?_;exact beq_iff_eq.2 (by omega))|(refine congrArg Value.bool ?_;exact beq_eq_false_iff_ne.2 (by omega))|trace_state
 · rw [at_of_out hR hi] at hat
   have hv : openB w x y = false:=decide_eq_false fun e=>hi e.1
   rw [hv]
   refine Api.of_fin cfg_ok Try.func26 rfl (nt:=22) rfl rfl ?_
   conv=>whnf
   repeat' (first|exact trivial|((first|refine kL ?_|(refine ⟨fun hb=>?_,fun hb=>?_⟩<;>(try simp only [nrm] at hb)<;>(try (first|(exfalso;omega)|contradiction|exact kB hb)))|refine kA hat ?_|refine kD hat ?_|refine kW cfg_ok ?_|refine kC ?_|refine bdA ?_|refine bd2 ?_|refine bdR ?_|refine bdL ?_)<;>(conv=>whnf))|(refine And.intro ?_ ?_;rotate_left;(conv=>whnf);rotate_right))
   all_goals first|rfl|omega|trace_state
noncomputable def skyB (w : Wld) (x y : Int) : Bool:=@decide (skyW w ⟨x,y⟩) (Classical.propDecidable _)
theorem skyB_true {w : Wld} {x y : Int} (h : skyW w ⟨x,y⟩) : skyB w x y = true:=by unfold skyB;exact @decide_eq_true _ (Classical.propDecidable _) h
theorem skyB_false {w : Wld} {x y : Int} (h : ¬ skyW w ⟨x,y⟩) : skyB w x y = false:=by unfold skyB;exact @decide_eq_false _ (Classical.propDecidable _) h
theorem lsky_api (w : Wld) (x y : Int) (hw : OkW w) (hR : RW w) (hi : inW w ⟨x,y⟩) : Api Try.prog 28 [wldV w,i64 x,i64 y] (bol (skyB w x y)):=by
 have hsz:=hR.size
 have hi2 : 0 ≤ x ∧ 0 ≤ y ∧ x < 8 * w.size ∧ y < 8 * w.size:=hi
 have hat:=fun (k : Nat) (hk : (k : Int) ≤ y)=>(show Api _ _ _ (.tup [.lit (.int .u8 (cellAt w x k)),bol true]) from by
   have h:=at_api w x (k : Int) hw (by omega) (by omega)
   rw [at_of_in hR (x:=x) (y:=(k : Int)) ⟨hi2.1,by dsimp only;omega,hi2.2.2.1,by dsimp only;omega⟩] at h
   exact h)
 have hyes:=@skyB_true w x y
 have hnot:=@skyB_false w x y
 refine Api.of_fin cfg_ok Try.func28 rfl (nt:=26) rfl rfl ?_
 conv=>whnf
 repeat' (first|exact trivial|((first|refine kL ?_|(refine ⟨fun hb=>?_,fun hb=>?_⟩<;>(try simp only [nrm] at hb)<;>(try (first|(exfalso;omega)|contradiction|exact kB hb)))|refine kW cfg_ok ?_|refine kC ?_|refine bdA ?_|refine bd2 ?_|refine bdR ?_|refine bdL ?_)<;>(conv=>whnf))|(refine And.intro ?_ ?_;rotate_left;(conv=>whnf);rotate_right))
 all_goals first|omega|skip
 refine Runs.loopS cfg_ok (σ:=Nat) [1,3,11,12] (fun k=>[i64 x,.ptr 6 0,i64 (y + 1),i64 k]) (fun _=>[(6,.box (wldC w))]) (fun k=>(k : Int) ≤ y + 1 ∧ ∀ j : Nat,j < k → cellAt w x (j : Nat) = 0) (fun k=>(y + 1).toNat - k) 0 ⟨by omega,fun j hj=>by omega⟩ ?_ ?_
 · conv=>whnf
   repeat' (first|exact trivial|((first|refine kL ?_|(refine ⟨fun hb=>?_,fun hb=>?_⟩<;>(try simp only [nrm] at hb)<;>(try (first|(exfalso;omega)|contradiction|exact kB hb)))|refine kW cfg_ok ?_|refine kC ?_|refine bdA ?_|refine bd2 ?_|refine bdR ?_|refine bdL ?_)<;>(conv=>whnf))|(refine And.intro ?_ ?_;rotate_left;(conv=>whnf);rotate_right))
 · rintro k ⟨hk,hg⟩
   by_cases hlt : (k : Int) < y + 1
   · have hak:=hat k (by omega)
     by_cases h0 : cellAt w x (k : Nat) = 0
     · rw [h0] at hak
       conv=>whnf
       repeat' (first|exact trivial|((first|refine kL ?_|(refine ⟨fun hb=>?_,fun hb=>?_⟩<;>(try simp only [nrm] at hb)<;>(try (first|(exfalso;omega)|contradiction|exact kB hb)))|refine kA hak ?_|refine kD hak ?_|refine kW cfg_ok ?_|refine kC ?_|refine bdA ?_|refine bd2 ?_|refine bdR ?_|refine bdL ?_)<;>(conv=>whnf))|(refine And.intro ?_ ?_;rotate_left;(conv=>whnf);rotate_right))
       all_goals try omega
       refine .to (k + 1) ⟨by omega,fun j hj=>?_⟩ (by omega) ?_
       · by_cases hjk : j = k
         · rw [hjk];exact h0
         · exact hg j (by omega)
       · conv=>whnf
         repeat' (first|exact trivial|((first|refine kL ?_|(refine ⟨fun hb=>?_,fun hb=>?_⟩<;>(try simp only [nrm] at hb)<;>(try (first|(exfalso;omega)|contradiction|exact kB hb)))|refine kW cfg_ok ?_|refine kC ?_|refine bdA ?_|refine bd2 ?_|refine bdR ?_|refine bdL ?_)<;>(conv=>whnf))|(refine And.intro ?_ ?_;rotate_left;(conv=>whnf);rotate_right))
     · rw [hnot fun e=>h0 (e.2 k (by dsimp only;omega))]
       generalize cellAt w x (k : Nat) = ce at *
       conv=>whnf
       repeat' (first|exact trivial|((first|refine kL ?_|(refine ⟨fun hb=>?_,fun hb=>?_⟩<;>(try simp only [nrm] at hb)<;>(try (first|(exfalso;omega)|contradiction|exact kB hb)))|refine kA hak ?_|refine kD hak ?_|refine kW cfg_ok ?_|refine kC ?_|refine bdA ?_|refine bd2 ?_|refine bdR ?_|refine bdL ?_)<;>(conv=>whnf))|(refine And.intro ?_ ?_;rotate_left;(conv=>whnf);rotate_right))
       all_goals first|rfl|omega|trace_state
   · rw [hyes ⟨hi,fun j hj=>hg j (by dsimp only at hj;omega)⟩]
     conv=>whnf
     repeat' (first|exact trivial|((first|refine kL ?_|(refine ⟨fun hb=>?_,fun hb=>?_⟩<;>(try simp only [nrm] at hb)<;>(try (first|(exfalso;omega)|contradiction|exact kB hb)))|refine kW cfg_ok ?_|refine kC ?_|refine bdA ?_|refine bd2 ?_|refine bdR ?_|refine bdL ?_)<;>(conv=>whnf))|(refine And.intro ?_ ?_;rotate_left;(conv=>whnf);rotate_right))
     all_goals first|rfl|omega|trace_state
open Go Go.RowKit Eng
theorem fabout_ev (w : Wld) (x0 x1 y1 : Int) (hw : OkW w) (hR : RW w) (b1 : -1000 ≤ x0 ∧ x0 ≤ 1000) (b2 : -1000 ≤ x1 ∧ x1 ≤ 1000) (b3 : 0 ≤ y1 ∧ y1 ≤ 1000) (hx : x0 ≤ x1) (h0 : 0 ≤ x1) (h1 : x0 < 8 * w.size) :
   Ev1 Try.prog 29 [wldV w,i64 x0,i64 x1,i64 y1] [] (.ptr 390001 0)
     (fldM 390001 390003 390005 (max (x0 - 15) 0) (min (x1 + 15) (8 * w.size - 1)) (min (y1 + 15) (8 * w.size - 1)) (cellsOfF w (max (x0 - 15) 0) (min (x1 + 15) (8 * w.size - 1)) (min (y1 + 15) (8 * w.size - 1))).1 (aboutF w x0 x1 y1).1 (cellsOfF w (max (x0 - 15) 0) (min (x1 + 15) (8 * w.size - 1)) (min (y1 + 15) (8 * w.size - 1))).2 (aboutF w x0 x1 y1).2):=by
 have hsz:=hR.size
 obtain ⟨fr,hfr⟩ : ∃ fr : Int,fr = max (x0 - 15) 0:=⟨_,rfl⟩
 obtain ⟨to_,hto⟩ : ∃ to_ : Int,to_ = min (x1 + 15) (8 * w.size - 1):=⟨_,rfl⟩
 obtain ⟨la,hla⟩ : ∃ la : Int,la = min (y1 + 15) (8 * w.size - 1):=⟨_,rfl⟩
 have hl:=flaid_ev w fr to_ la hw hR (by omega) (by omega) (by omega) (by omega) (by omega)
 have hs:=fshine_ev fr to_ la (cellsOfF w fr to_ la).1 (cellsOfF w fr to_ la).2 (by omega) (by omega) (by omega) (by omega) (by omega)
 have hA : aboutF w x0 x1 y1 = lightF w fr to_ la:=by unfold aboutF;rw [hfr,hto,hla]
 rw [hA]
 unfold lightF
 rw [← hfr,← hto,← hla]
 rw [show i64 fr = i64 (max (x0 - 15) 0) by rw [hfr],show i64 to_ = i64 (min (x1 + 15) (w.size * 8 - 1)) by rw [hto,Int.mul_comm],show i64 la = i64 (min (y1 + 15) (w.size * 8 - 1)) by rw [hla,Int.mul_comm]] at hl
 clear hfr hto hla
 generalize cellsOfF w fr to_ la = I at *
 generalize (shineF I.1 fr to_ la (srcF I.1 fr la (to_ + 1 - fr).toNat).1 (srcF I.1 fr la (to_ + 1 - fr).toNat).2 15).1 = Z at *
 refine Ev1.of_finR cfg_ok Try.func29 rfl [(350201,390001),(350203,390003),(350205,390005)] (nt:=27) rfl ?_
 conv=>whnf
 repeat' (first|exact trivial|((first|refine kL ?_|(refine ⟨fun hb=>?_,fun hb=>?_⟩<;>(try simp only [nrm] at hb)<;>(try (first|(exfalso;omega)|contradiction|exact kB hb)))|refine kE hl [(390001,350201),(390003,350203),(390005,350205)] rfl ?_|refine kF hl [(390001,350201),(390003,350203),(390005,350205)] rfl ?_|refine kE hs [(0,350201),(1,350203),(3,350205)] rfl ?_|refine kF hs [(0,350201),(1,350203),(3,350205)] rfl ?_|refine kW cfg_ok ?_|refine kC ?_|refine bdA ?_|refine bd2 ?_|refine bdR ?_|refine bdL ?_)<;>(conv=>whnf))|(refine And.intro ?_ ?_;rotate_left;(conv=>whnf);rotate_right))
 all_goals first|rfl|omega|trace_state
theorem fabout_ex (w : Wld) (x0 x1 y1 : Int) (hw : OkW w) (hR : RW w) (b1 : -1000 ≤ x0 ∧ x0 ≤ 1000) (b2 : -1000 ≤ x1 ∧ x1 ≤ 1000) (b3 : 0 ≤ y1 ∧ y1 ≤ 1000) (hx : x0 ≤ x1) (h0 : 0 ≤ x1) (h1 : x0 < 8 * w.size) :
   ∃ (fr to_ la : Int) (I : PF) (nI : Nat),Ev1 Try.prog 29 [wldV w,i64 x0,i64 x1,i64 y1] [] (.ptr 390001 0) (fldM 390001 390003 390005 fr to_ la I (aboutF w x0 x1 y1).1 nI (aboutF w x0 x1 y1).2):=
 ⟨_,_,_,_,_,fabout_ev w x0 x1 y1 hw hR b1 b2 b3 hx h0 h1⟩
def lightW (w : Wld) (x y : Int) : Int × Bool:=if x < 0 ∨ y < 0 ∨ 8 * w.size ≤ x ∨ 8 * w.size ≤ y then (0,false) else (getZ ((aboutF w x x y).1 x y),true)
theorem lightIn_api (w : Wld) (x y : Int) (hw : OkW w) (hR : rightW w = true) (hin : 0 ≤ x ∧ 0 ≤ y ∧ x < 8 * w.size ∧ y < 8 * w.size) (F : PF) (nF : Nat) (fr to_ la : Int) (I : PF) (nI : Nat) (ha : Ev1 Try.prog 29 [wldV w,i64 x,i64 x,i64 y] [] (.ptr 390001 0) (fldM 390001 390003 390005 fr to_ la I F nI nF)) : Api Try.prog 11 [wldV w,i64 x,i64 y] (.tup [i64 (getZ (F x y)),bol true]):=by
 have hrt:=rightW_api w hw
 rw [hR] at hrt
 have hsz:=(rightW_iff.1 hR).size
 refine Api.of_fin cfg_ok Try.func11 rfl (nt:=42) rfl rfl ?_
 conv=>whnf
 repeat' (first|exact trivial|((first|refine kL ?_|(refine ⟨fun hb=>?_,fun hb=>?_⟩<;>(try simp only [nrm] at hb)<;>(try (first|(exfalso;omega)|contradiction|exact kB hb)))|refine kE ha [(390001,150201),(390003,150203),(390005,150205)] rfl ?_|refine kF ha [(390001,150201),(390003,150203),(390005,150205)] rfl ?_|refine kA hrt ?_|refine kD hrt ?_|refine kW cfg_ok ?_|refine kC ?_|refine bdA ?_|refine bd2 ?_|refine bdR ?_|refine bdL ?_)<;>(conv=>whnf))|(refine And.intro ?_ ?_;rotate_left;(conv=>whnf);rotate_right))
 all_goals first|rfl|omega|trace_state
theorem lightOut_api (w : Wld) (x y : Int) (hw : OkW w) (hR : rightW w = true) (hin : ¬ (0 ≤ x ∧ 0 ≤ y ∧ x < 8 * w.size ∧ y < 8 * w.size)) : Api Try.prog 11 [wldV w,i64 x,i64 y] (.tup [i64 0,bol false]):=by
 have hrt:=rightW_api w hw
 rw [hR] at hrt
 have hsz:=(rightW_iff.1 hR).size
 refine Api.of_fin cfg_ok Try.func11 rfl (nt:=42) rfl rfl ?_
 conv=>whnf
 repeat' (first|exact trivial|((first|refine kL ?_|(refine ⟨fun hb=>?_,fun hb=>?_⟩<;>(try simp only [nrm] at hb)<;>(try (first|(exfalso;omega)|contradiction|exact kB hb)))|refine kA hrt ?_|refine kD hrt ?_|refine kW cfg_ok ?_|refine kC ?_|refine bdA ?_|refine bd2 ?_|refine bdR ?_|refine bdL ?_)<;>(conv=>whnf))|(refine And.intro ?_ ?_;rotate_left;(conv=>whnf);rotate_right))
 all_goals first|rfl|omega|trace_state
theorem light_api (w : Wld) (x y : Int) (hw : OkW w) (hR : rightW w = true) : Api Try.prog 11 [wldV w,i64 x,i64 y] (.tup [i64 (lightW w x y).1,bol (lightW w x y).2]):=by
 have hsz:=(rightW_iff.1 hR).size
 by_cases hin : 0 ≤ x ∧ 0 ≤ y ∧ x < 8 * w.size ∧ y < 8 * w.size
 · have hv : lightW w x y = (getZ ((aboutF w x x y).1 x y),true):=if_neg (by omega)
   obtain ⟨fr,to_,la,I,nI,ha⟩:=fabout_ex w x x y hw (rightW_iff.1 hR) (by omega) (by omega) (by omega) (by omega) (by omega) (by omega)
   have h:=lightIn_api w x y hw hR hin _ _ fr to_ la I nI ha
   generalize getZ ((aboutF w x x y).1 x y) = z at hv h
   rw [hv]
   exact h
 · have hv : lightW w x y = (0,false):=if_pos (by omega)
   rw [hv]
   exact lightOut_api w x y hw hR hin
open Go Go.RowKit Eng
def clipF (f m e : Int) : Int × Int:=if e ≤ f ∨ f ≤ -m then (0,0) else if f < 0 then (-f,min m (e - f)) else (0,min m (e - f))
theorem clip_api (f m e : Int) (hm : 1 ≤ m ∧ m ≤ 64) (he : 0 ≤ e ∧ e ≤ 128) : Api Try.prog 33 [i64 f,i64 m,i64 e] (.tup [i64 (clipF f m e).1,i64 (clipF f m e).2]):=by
 by_cases h1 : e ≤ f ∨ f ≤ -m
 · have hv : clipF f m e = (0,0):=if_pos h1
   rw [hv]
   refine Api.of_fin cfg_ok Try.func33 rfl (nt:=30) rfl rfl ?_
   conv=>whnf
   repeat' (first|exact trivial|((first|refine kL ?_|(refine ⟨fun hb=>?_,fun hb=>?_⟩<;>(try simp only [nrm] at hb)<;>(try (first|(exfalso;omega)|contradiction|exact kB hb)))|refine kW cfg_ok ?_|refine kC ?_|refine bdA ?_|refine bd2 ?_|refine bdR ?_|refine bdL ?_)<;>(conv=>whnf))|(refine And.intro ?_ ?_;rotate_left;(conv=>whnf);rotate_right))
   all_goals first|rfl|omega|trace_state
 · by_cases h2 : f < 0
   · have hv : clipF f m e = (-f,min m (e - f)):=by unfold clipF;rw [if_neg h1,if_pos h2]
     rw [hv]
     refine Api.of_fin cfg_ok Try.func33 rfl (nt:=30) rfl rfl ?_
     conv=>whnf
     repeat' (first|exact trivial|((first|refine kL ?_|(refine ⟨fun hb=>?_,fun hb=>?_⟩<;>(try simp only [nrm] at hb)<;>(try (first|(exfalso;omega)|contradiction|exact kB hb)))|refine kW cfg_ok ?_|refine kC ?_|refine bdA ?_|refine bd2 ?_|refine bdR ?_|refine bdL ?_)<;>(conv=>whnf))|(refine And.intro ?_ ?_;rotate_left;(conv=>whnf);rotate_right))
     all_goals first|rfl|omega|trace_state
   · have hv : clipF f m e = (0,min m (e - f)):=by unfold clipF;rw [if_neg h1,if_neg h2]
     rw [hv]
     refine Api.of_fin cfg_ok Try.func33 rfl (nt:=30) rfl rfl ?_
     conv=>whnf
     repeat' (first|exact trivial|((first|refine kL ?_|(refine ⟨fun hb=>?_,fun hb=>?_⟩<;>(try simp only [nrm] at hb)<;>(try (first|(exfalso;omega)|contradiction|exact kB hb)))|refine kW cfg_ok ?_|refine kC ?_|refine bdA ?_|refine bd2 ?_|refine bdR ?_|refine bdL ?_)<;>(conv=>whnf))|(refine And.intro ?_ ?_;rotate_left;(conv=>whnf);rotate_right))
     all_goals first|rfl|omega|trace_state
theorem clip_facts {f m e : Int} (h : (clipF f m e).1 < (clipF f m e).2) : 0 ≤ (clipF f m e).1 ∧ (clipF f m e).2 ≤ m ∧ 0 ≤ f + (clipF f m e).1 ∧ f + (clipF f m e).2 ≤ e:=by
 unfold clipF at h ⊢
 by_cases h1 : e ≤ f ∨ f ≤ -m
 · rw [if_pos h1] at h;exact absurd h (by decide)
 · rw [if_neg h1] at h ⊢
   by_cases h2 : f < 0
   · rw [if_pos h2] at h ⊢;dsimp only at h ⊢;omega
   · rw [if_neg h2] at h ⊢;dsimp only at h ⊢;omega
theorem clip_in {f m e a : Int} (ha : 0 ≤ a ∧ a < m) (hm : 1 ≤ m) (he : 0 ≤ e) : ((clipF f m e).1 ≤ a ∧ a < (clipF f m e).2) ↔ (0 ≤ f + a ∧ f + a < e):=by
 unfold clipF
 by_cases h1 : e ≤ f ∨ f ≤ -m
 · rw [if_pos h1];dsimp only;omega
 · rw [if_neg h1]
   by_cases h2 : f < 0
   · rw [if_pos h2];dsimp only;omega
   · rw [if_neg h2];dsimp only;omega
def valM (F : PF) (x y a0 a1 b0 b1 : Int) (b a : Nat) : Int:=if a0 ≤ a ∧ a < a1 ∧ b0 ≤ b ∧ b < b1 then getZ (F (x + a) (y + b)) else -1
def rowM (F : PF) (x y a0 a1 b0 b1 : Int) (wide b k : Nat) : List Int:=(List.range wide).map fun a=>if a < k then valM F x y a0 a1 b0 b1 b a else 0
def mapM (F : PF) (x y a0 a1 b0 b1 : Int) (wide b : Nat) : List (List Int):=(List.range b).map fun b=>rowM F x y a0 a1 b0 b1 wide b wide
theorem rowM_len (F : PF) (x y a0 a1 b0 b1 : Int) (wide b k : Nat) : (rowM F x y a0 a1 b0 b1 wide b k).length = wide:=by unfold rowM;rw [List.length_map,List.length_range]
theorem mapM_len (F : PF) (x y a0 a1 b0 b1 : Int) (wide b : Nat) : (mapM F x y a0 a1 b0 b1 wide b).length = b:=by unfold mapM;rw [List.length_map,List.length_range]
theorem mapM_succ (F : PF) (x y a0 a1 b0 b1 : Int) (wide b : Nat) : mapM F x y a0 a1 b0 b1 wide (b + 1) = mapM F x y a0 a1 b0 b1 wide b ++ [rowM F x y a0 a1 b0 b1 wide b wide]:=by
 unfold mapM;rw [List.range_succ,List.map_append];rfl
theorem rowM_zero (F : PF) (x y a0 a1 b0 b1 : Int) (wide b : Nat) : rowM F x y a0 a1 b0 b1 wide b 0 = List.replicate wide 0:=by
 unfold rowM
 refine List.ext_getElem? fun i=>?_
 by_cases hi : i < wide
 · rw [List.getElem?_map,List.getElem?_range hi,List.getElem?_replicate,if_pos hi];rfl
 · rw [List.getElem?_eq_none (by rw [List.length_map,List.length_range];omega),List.getElem?_eq_none (by rw [List.length_replicate];omega)]
theorem rowM_set (F : PF) (x y a0 a1 b0 b1 : Int) (wide b : Nat) {k : Nat} (hk : k < wide) (v : Int) : ((rowM F x y a0 a1 b0 b1 wide b k).set k v).set k (valM F x y a0 a1 b0 b1 b k) = rowM F x y a0 a1 b0 b1 wide b (k + 1):=by
 unfold rowM
 refine List.ext_getElem? fun i=>?_
 by_cases hi : i < wide
 · by_cases he : i = k
   · subst he
     rw [List.getElem?_set_self (by rw [List.length_set,List.length_map,List.length_range];omega),List.getElem?_map,List.getElem?_range hi]
     show _ = some (if i < i + 1 then _ else _)
     rw [if_pos (by omega)]
   · rw [List.getElem?_set_ne (by omega),List.getElem?_set_ne (by omega),List.getElem?_map,List.getElem?_map,List.getElem?_range hi]
     show some (if i < k then _ else _) = some (if i < k + 1 then _ else _)
     by_cases h2 : i < k
     · rw [if_pos h2,if_pos (by omega)]
     · rw [if_neg h2,if_neg (by omega)]
 · rw [List.getElem?_eq_none (by simp;omega),List.getElem?_eq_none (by simp;omega)]
theorem rowM_set1 (F : PF) (x y a0 a1 b0 b1 : Int) (wide b : Nat) {k : Nat} (hk : k < wide) : (rowM F x y a0 a1 b0 b1 wide b k).set k (valM F x y a0 a1 b0 b1 b k) = rowM F x y a0 a1 b0 b1 wide b (k + 1):=by
 have:=rowM_set F x y a0 a1 b0 b1 wide b hk (valM F x y a0 a1 b0 b1 b k)
 rwa [List.set_set] at this
open Go Go.RowKit Eng
theorem grow_ints (S : List (List Int)) (r : List Int) : List.take (S.length + (List.take 1 (List.drop 0 [List.take r.length (List.drop 0 r)])).length) (List.take S.length S ++ List.take 1 (List.drop 0 [List.take r.length (List.drop 0 r)])) = S ++ [r]:=by
 simp only [List.drop_zero,List.take_length]
 exact List.take_of_length_le (by simp)
theorem mapIn_api (w : Wld) (x y : Int) (wide high : Nat) (hw : OkW w) (hR : rightW w = true) (hm : 1 ≤ wide ∧ wide ≤ 64 ∧ 1 ≤ high ∧ high ≤ 64) (a0 a1 b0 b1 : Int) (hca : Api Try.prog 33 [i64 x,i64 wide,i64 (w.size * 8)] (.tup [i64 a0,i64 a1])) (hcb : Api Try.prog 33 [i64 y,i64 high,i64 (w.size * 8)] (.tup [i64 b0,i64 b1])) (fa : a0 < a1 ∧ 0 ≤ a0 ∧ a1 ≤ wide ∧ 0 ≤ x + a0 ∧ x + a1 ≤ 128) (fb : b0 < b1 ∧ 0 ≤ b0 ∧ b1 ≤ high ∧ 0 ≤ y + b0 ∧ y + b1 ≤ 128) (F : PF) (nF : Nat) (fr to_ la : Int) (I : PF) (nI : Nat) (ha : Ev1 Try.prog 29 [wldV w,i64 (x + a0),i64 (x + a1 - 1),i64 (y + b1 - 1)] [] (.ptr 390001 0) (fldM 390001 390003 390005 fr to_ la I F nI nF)) : Api Try.prog 14 [wldV w,i64 x,i64 y,i64 wide,i64 high] (.vec .ints (mapM F x y a0 a1 b0 b1 wide high)):=by
 have hrt:=rightW_api w hw
 rw [hR] at hrt
 have hsz:=(rightW_iff.1 hR).size
 have hml:=mapM_len F x y a0 a1 b0 b1 wide
 have hms:=mapM_succ F x y a0 a1 b0 b1 wide
 have hm0 : mapM F x y a0 a1 b0 b1 wide 0 = []:=rfl
 have hrl:=rowM_len F x y a0 a1 b0 b1 wide
 have hr0:=rowM_zero F x y a0 a1 b0 b1 wide
 have hrs:=fun b k hk v=>rowM_set F x y a0 a1 b0 b1 wide b (k:=k) hk v
 have hrs1:=fun b k hk=>rowM_set1 F x y a0 a1 b0 b1 wide b (k:=k) hk
 generalize mapM F x y a0 a1 b0 b1 wide = MM at *
 generalize rowM F x y a0 a1 b0 b1 wide = RR at *
 refine Api.of_fin cfg_ok Try.func14 rfl (nt:=130) rfl rfl ?_
 conv=>whnf
 repeat' (first|exact trivial|((first|refine kL ?_|(refine ⟨fun hb=>?_,fun hb=>?_⟩<;>(try simp only [nrm] at hb)<;>(try (first|(exfalso;omega)|contradiction|exact kB hb)))|refine kE ha [(390001,150201),(390003,150203),(390005,150205)] rfl ?_|refine kF ha [(390001,150201),(390003,150203),(390005,150205)] rfl ?_|refine kA hrt ?_|refine kD hrt ?_|refine kA hca ?_|refine kD hca ?_|refine kA hcb ?_|refine kD hcb ?_|refine kW cfg_ok ?_|refine kC ?_|refine bdA ?_|refine bd2 ?_|refine bdR ?_|refine bdL ?_)<;>(conv=>whnf))|(refine And.intro ?_ ?_;rotate_left;(conv=>whnf);rotate_right))
 all_goals first|omega|skip
 refine Runs.loopQ cfg_ok (σ:=Nat) [1,2,3,12,13,14,15,16,17,78,79] (fun b=>[i64 x,i64 y,i64 (wide : Nat),i64 a0,i64 a1,i64 b0,i64 b1,.ptr 150201 0,.own .ints 150301 0 (MM b).length none,i64 (high : Nat),i64 (b : Nat)])
   (fun b=>(150301,.row .ints (MM b)) :: fldM 150201 150203 150205 fr to_ la I F nI nF)
   (fun b=>b ≤ high) (fun b=>high - b) 0 (by omega) ?_ ?_
 · conv=>whnf
   repeat' (first|exact trivial|((first|refine kL ?_|(refine ⟨fun hb=>?_,fun hb=>?_⟩<;>(try simp only [nrm] at hb)<;>(try (first|(exfalso;omega)|contradiction|exact kB hb)))|refine kW cfg_ok ?_|refine kC ?_|refine bdA ?_|refine bd2 ?_|refine bdR ?_|refine bdL ?_)<;>(conv=>whnf))|(refine And.intro ?_ ?_;rotate_left;(conv=>whnf);rotate_right))
   all_goals first|rfl|omega|(simp;done)|(rw [hm0];done)|(rw [hm0];exact rfl)|trace_state
 · intro b hb N1 hN1 hE1 hT1
   have hmb:=hml b
   have hsb:=hms b
   by_cases hlt : b < high
   · conv=>whnf
     repeat' (first|exact trivial|((first|refine kL ?_|(refine ⟨fun hb=>?_,fun hb=>?_⟩<;>(try simp only [nrm] at hb)<;>(try (first|(exfalso;omega)|contradiction|exact kB hb)))|refine kW cfg_ok ?_|refine kC ?_|refine bdA ?_|refine bd2 ?_|refine bdR ?_|refine bdL ?_)<;>(conv=>whnf))|(refine And.intro ?_ ?_;rotate_left;(conv=>whnf);rotate_right))
     all_goals first|omega|skip
     have hr0b:=hr0 b
     have hrlb:=hrl b
     have hrsb:=hrs b
     have hrs1b:=hrs1 b
     generalize hRb : RR b = Rb at *
     refine Runs.loopQ cfg_ok (σ:=Nat) [1,2,3,12,13,14,15,16,17,18,19,78,79,84,85] (fun a=>[i64 x,i64 y,i64 (wide : Nat),i64 a0,i64 a1,i64 b0,i64 b1,.ptr 150201 0,.own .ints 150301 0 (MM b).length none,i64 (b : Nat),.own .i64 150303 0 (Rb a).length none,i64 (high : Nat),i64 (b : Nat),i64 (wide : Nat),i64 (a : Nat)])
       (fun a=>(150301,.row .ints (MM b)) :: (150303,.row .i64 (Rb a)) :: fldM 150201 150203 150205 fr to_ la I F nI nF)
       (fun a=>a ≤ wide) (fun a=>wide - a) 0 (by omega) ?_ ?_
     · conv=>whnf
       repeat' (first|exact trivial|((first|refine kL ?_|(refine ⟨fun hb=>?_,fun hb=>?_⟩<;>(try simp only [nrm] at hb)<;>(try (first|(exfalso;omega)|contradiction|exact kB hb)))|refine kW cfg_ok ?_|refine kC ?_|refine bdA ?_|refine bd2 ?_|refine bdR ?_|refine bdL ?_)<;>(conv=>whnf))|(refine And.intro ?_ ?_;rotate_left;(conv=>whnf);rotate_right))
       all_goals first|rfl|omega|(simp;done)|exact List.take_length|(rw [hr0b];done)|(rw [hr0b];exact rfl)|(rw [hr0b,List.length_replicate];omega)|(rw [hr0b];exact List.take_of_length_le (by rw [List.length_replicate];exact Nat.le_refl _))|trace_state
     · intro a ha2 N2 hN2 hE2 hT2
       have hra:=hrlb a
       by_cases hla : a < wide
       · have hs2:=hrsb a hla
         have hs1:=hrs1b a hla
         conv=>whnf
         repeat' (first|exact trivial|((first|refine kL ?_|(refine ⟨fun hb=>?_,fun hb=>?_⟩<;>(try simp only [nrm] at hb)<;>(try (first|(exfalso;omega)|contradiction|exact kB hb)))|refine kW cfg_ok ?_|refine kC ?_|refine bdA ?_|refine bd2 ?_|refine bdR ?_|refine bdL ?_)<;>(conv=>whnf))|(refine And.intro ?_ ?_;rotate_left;(conv=>whnf);rotate_right))
         all_goals first|omega|exact List.take_length|skip
         all_goals
           refine hN2 _ _ ?_
           conv=>whnf
           refine .to (a + 1) (by omega) (by omega) ?_
           conv=>whnf
           repeat' (first|exact trivial|((first|refine kL ?_|(refine ⟨fun hb=>?_,fun hb=>?_⟩<;>(try simp only [nrm] at hb)<;>(try (first|(exfalso;omega)|contradiction|exact kB hb)))|refine kW cfg_ok ?_|refine kC ?_|refine bdA ?_|refine bd2 ?_|refine bdR ?_|refine bdL ?_)<;>(conv=>whnf))|(refine And.intro ?_ ?_;rotate_left;(conv=>whnf);rotate_right))
           all_goals first|rfl|omega|exact List.take_length|(rw [hrlb,hrlb];done)|(refine (List.take_of_length_le (by simp)).trans ?_;rw [← hs2 (-1),show valM F x y a0 a1 b0 b1 b a = getZ (F (x + (a : Nat)) (y + (b : Nat))) from if_pos (by omega)];exact rfl)|(refine (List.take_of_length_le (by simp)).trans ?_;rw [← hs1,show valM F x y a0 a1 b0 b1 b a = -1 from if_neg (by omega)];exact rfl)|trace_state
       · obtain rfl : a = wide:=by omega
         conv=>whnf
         repeat' (first|exact trivial|((first|refine kL ?_|(refine ⟨fun hb=>?_,fun hb=>?_⟩<;>(try simp only [nrm] at hb)<;>(try (first|(exfalso;omega)|contradiction|exact kB hb)))|refine kW cfg_ok ?_|refine kC ?_|refine bdA ?_|refine bd2 ?_|refine bdR ?_|refine bdL ?_)<;>(conv=>whnf))|(refine And.intro ?_ ?_;rotate_left;(conv=>whnf);rotate_right))
         all_goals first|omega|exact List.take_length|skip
         refine hE2 _ _ _ ?_
         conv=>whnf
         repeat' (first|exact trivial|((first|refine kL ?_|(refine ⟨fun hb=>?_,fun hb=>?_⟩<;>(try simp only [nrm] at hb)<;>(try (first|(exfalso;omega)|contradiction|exact kB hb)))|refine kW cfg_ok ?_|refine kC ?_|refine bdA ?_|refine bd2 ?_|refine bdR ?_|refine bdL ?_)<;>(conv=>whnf))|(refine And.intro ?_ ?_;rotate_left;(conv=>whnf);rotate_right))
         all_goals first|omega|exact List.take_length|skip
         refine hN1 _ _ ?_
         conv=>whnf
         refine .to (b + 1) (by omega) (by omega) ?_
         conv=>whnf
         repeat' (first|exact trivial|((first|refine kL ?_|(refine ⟨fun hb=>?_,fun hb=>?_⟩<;>(try simp only [nrm] at hb)<;>(try (first|(exfalso;omega)|contradiction|exact kB hb)))|refine kW cfg_ok ?_|refine kC ?_|refine bdA ?_|refine bd2 ?_|refine bdR ?_|refine bdL ?_)<;>(conv=>whnf))|(refine And.intro ?_ ?_;rotate_left;(conv=>whnf);rotate_right))
         all_goals first|rfl|omega|exact List.take_length|(rw [hsb];exact grow_ints _ _)|(rw [hsb];simp;done)|trace_state
   · obtain rfl : b = high:=by omega
     conv=>whnf
     repeat' (first|exact trivial|((first|refine kL ?_|(refine ⟨fun hb=>?_,fun hb=>?_⟩<;>(try simp only [nrm] at hb)<;>(try (first|(exfalso;omega)|contradiction|exact kB hb)))|refine kW cfg_ok ?_|refine kC ?_|refine bdA ?_|refine bd2 ?_|refine bdR ?_|refine bdL ?_)<;>(conv=>whnf))|(refine And.intro ?_ ?_;rotate_left;(conv=>whnf);rotate_right))
     all_goals first|omega|skip
     refine hE1 _ _ _ ?_
     conv=>whnf
     repeat' (first|exact trivial|((first|refine kL ?_|(refine ⟨fun hb=>?_,fun hb=>?_⟩<;>(try simp only [nrm] at hb)<;>(try (first|(exfalso;omega)|contradiction|exact kB hb)))|refine kW cfg_ok ?_|refine kC ?_|refine bdA ?_|refine bd2 ?_|refine bdR ?_|refine bdL ?_)<;>(conv=>whnf))|(refine And.intro ?_ ?_;rotate_left;(conv=>whnf);rotate_right))
     all_goals first|rfl|omega|exact List.take_length|trace_state
theorem mapNo_api (w : Wld) (x y : Int) (wide high : Nat) (hw : OkW w) (hR : rightW w = true) (hm : 1 ≤ wide ∧ wide ≤ 64 ∧ 1 ≤ high ∧ high ≤ 64) (a0 a1 b0 b1 : Int) (hca : Api Try.prog 33 [i64 x,i64 wide,i64 (w.size * 8)] (.tup [i64 a0,i64 a1])) (hcb : Api Try.prog 33 [i64 y,i64 high,i64 (w.size * 8)] (.tup [i64 b0,i64 b1])) (hno : ¬ (a0 < a1 ∧ b0 < b1)) : Api Try.prog 14 [wldV w,i64 x,i64 y,i64 wide,i64 high] (.vec .ints (mapM noF x y 0 0 0 0 wide high)):=by
 have hrt:=rightW_api w hw
 rw [hR] at hrt
 have hsz:=(rightW_iff.1 hR).size
 have hml:=mapM_len noF x y 0 0 0 0 wide
 have hms:=mapM_succ noF x y 0 0 0 0 wide
 have hm0 : mapM noF x y 0 0 0 0 wide 0 = []:=rfl
 have hrl:=rowM_len noF x y 0 0 0 0 wide
 have hr0:=rowM_zero noF x y 0 0 0 0 wide
 have hrs1:=fun b k hk=>rowM_set1 noF x y 0 0 0 0 wide b (k:=k) hk
 have hv : ∀ b a : Nat,valM noF x y 0 0 0 0 b a = -1:=fun b a=>if_neg (by omega)
 generalize mapM noF x y 0 0 0 0 wide = MM at *
 generalize rowM noF x y 0 0 0 0 wide = RR at *
 refine Api.of_fin cfg_ok Try.func14 rfl (nt:=130) rfl rfl ?_
 conv=>whnf
 repeat' (first|exact trivial|((first|refine kL ?_|(refine ⟨fun hb=>?_,fun hb=>?_⟩<;>(try simp only [nrm] at hb)<;>(try (first|(exfalso;omega)|contradiction|exact kB hb)))|refine kA hrt ?_|refine kD hrt ?_|refine kA hca ?_|refine kD hca ?_|refine kA hcb ?_|refine kD hcb ?_|refine kW cfg_ok ?_|refine kC ?_|refine bdA ?_|refine bd2 ?_|refine bdR ?_|refine bdL ?_)<;>(conv=>whnf))|(refine And.intro ?_ ?_;rotate_left;(conv=>whnf);rotate_right))
 all_goals first|omega|skip
 all_goals
   refine Runs.loopQ cfg_ok (σ:=Nat) [3,16,17,78,79] (fun b=>[i64 (wide : Nat),.lit (.pointer none),.own .ints 150301 0 (MM b).length none,i64 (high : Nat),i64 (b : Nat)])
     (fun b=>[(150301,.row .ints (MM b))])
     (fun b=>b ≤ high) (fun b=>high - b) 0 (by omega) ?_ ?_
   · conv=>whnf
     repeat' (first|exact trivial|((first|refine kL ?_|(refine ⟨fun hb=>?_,fun hb=>?_⟩<;>(try simp only [nrm] at hb)<;>(try (first|(exfalso;omega)|contradiction|exact kB hb)))|refine kW cfg_ok ?_|refine kC ?_|refine bdA ?_|refine bd2 ?_|refine bdR ?_|refine bdL ?_)<;>(conv=>whnf))|(refine And.intro ?_ ?_;rotate_left;(conv=>whnf);rotate_right))
     all_goals first|rfl|omega|(simp;done)|(rw [hm0];done)|(rw [hm0];exact rfl)|trace_state
   · intro b hb N1 hN1 hE1 hT1
     have hmb:=hml b
     have hsb:=hms b
     by_cases hlt : b < high
     · conv=>whnf
       repeat' (first|exact trivial|((first|refine kL ?_|(refine ⟨fun hb=>?_,fun hb=>?_⟩<;>(try simp only [nrm] at hb)<;>(try (first|(exfalso;omega)|contradiction|exact kB hb)))|refine kW cfg_ok ?_|refine kC ?_|refine bdA ?_|refine bd2 ?_|refine bdR ?_|refine bdL ?_)<;>(conv=>whnf))|(refine And.intro ?_ ?_;rotate_left;(conv=>whnf);rotate_right))
       all_goals first|omega|skip
       have hr0b:=hr0 b
       have hrlb:=hrl b
       have hrs1b:=hrs1 b
       have hvb:=hv b
       generalize hRb : RR b = Rb at *
       refine Runs.loopQ cfg_ok (σ:=Nat) [3,16,17,19,78,79,84,85] (fun a=>[i64 (wide : Nat),.lit (.pointer none),.own .ints 150301 0 (MM b).length none,.own .i64 150303 0 (Rb a).length none,i64 (high : Nat),i64 (b : Nat),i64 (wide : Nat),i64 (a : Nat)])
         (fun a=>[(150301,.row .ints (MM b)),(150303,.row .i64 (Rb a))])
         (fun a=>a ≤ wide) (fun a=>wide - a) 0 (by omega) ?_ ?_
       · conv=>whnf
         repeat' (first|exact trivial|((first|refine kL ?_|(refine ⟨fun hb=>?_,fun hb=>?_⟩<;>(try simp only [nrm] at hb)<;>(try (first|(exfalso;omega)|contradiction|exact kB hb)))|refine kW cfg_ok ?_|refine kC ?_|refine bdA ?_|refine bd2 ?_|refine bdR ?_|refine bdL ?_)<;>(conv=>whnf))|(refine And.intro ?_ ?_;rotate_left;(conv=>whnf);rotate_right))
         all_goals first|rfl|omega|(simp;done)|exact List.take_length|(rw [hr0b];done)|(rw [hr0b];exact rfl)|(rw [hr0b,List.length_replicate];omega)|(rw [hr0b];exact List.take_of_length_le (by rw [List.length_replicate];exact Nat.le_refl _))|trace_state
       · intro a ha2 N2 hN2 hE2 hT2
         have hra:=hrlb a
         by_cases hla : a < wide
         · have hs1:=hrs1b a hla
           conv=>whnf
           repeat' (first|exact trivial|((first|refine kL ?_|(refine ⟨fun hb=>?_,fun hb=>?_⟩<;>(try simp only [nrm] at hb)<;>(try (first|(exfalso;omega)|contradiction|exact kB hb)))|refine kW cfg_ok ?_|refine kC ?_|refine bdA ?_|refine bd2 ?_|refine bdR ?_|refine bdL ?_)<;>(conv=>whnf))|(refine And.intro ?_ ?_;rotate_left;(conv=>whnf);rotate_right))
           all_goals first|omega|exact List.take_length|skip
           all_goals
             refine hN2 _ _ ?_
             conv=>whnf
             refine .to (a + 1) (by omega) (by omega) ?_
             conv=>whnf
             repeat' (first|exact trivial|((first|refine kL ?_|(refine ⟨fun hb=>?_,fun hb=>?_⟩<;>(try simp only [nrm] at hb)<;>(try (first|(exfalso;omega)|contradiction|exact kB hb)))|refine kW cfg_ok ?_|refine kC ?_|refine bdA ?_|refine bd2 ?_|refine bdR ?_|refine bdL ?_)<;>(conv=>whnf))|(refine And.intro ?_ ?_;rotate_left;(conv=>whnf);rotate_right))
             all_goals first|rfl|omega|exact List.take_length|(rw [hrlb,hrlb];done)|(refine (List.take_of_length_le (by simp)).trans ?_;rw [← hs1,hvb];exact rfl)|trace_state
         · obtain rfl : a = wide:=by omega
           conv=>whnf
           repeat' (first|exact trivial|((first|refine kL ?_|(refine ⟨fun hb=>?_,fun hb=>?_⟩<;>(try simp only [nrm] at hb)<;>(try (first|(exfalso;omega)|contradiction|exact kB hb)))|refine kW cfg_ok ?_|refine kC ?_|refine bdA ?_|refine bd2 ?_|refine bdR ?_|refine bdL ?_)<;>(conv=>whnf))|(refine And.intro ?_ ?_;rotate_left;(conv=>whnf);rotate_right))
           all_goals first|omega|exact List.take_length|skip
           refine hE2 _ _ _ ?_
           conv=>whnf
           repeat' (first|exact trivial|((first|refine kL ?_|(refine ⟨fun hb=>?_,fun hb=>?_⟩<;>(try simp only [nrm] at hb)<;>(try (first|(exfalso;omega)|contradiction|exact kB hb)))|refine kW cfg_ok ?_|refine kC ?_|refine bdA ?_|refine bd2 ?_|refine bdR ?_|refine bdL ?_)<;>(conv=>whnf))|(refine And.intro ?_ ?_;rotate_left;(conv=>whnf);rotate_right))
           all_goals first|omega|exact List.take_length|skip
           refine hN1 _ _ ?_
           conv=>whnf
           refine .to (b + 1) (by omega) (by omega) ?_
           conv=>whnf
           repeat' (first|exact trivial|((first|refine kL ?_|(refine ⟨fun hb=>?_,fun hb=>?_⟩<;>(try simp only [nrm] at hb)<;>(try (first|(exfalso;omega)|contradiction|exact kB hb)))|refine kW cfg_ok ?_|refine kC ?_|refine bdA ?_|refine bd2 ?_|refine bdR ?_|refine bdL ?_)<;>(conv=>whnf))|(refine And.intro ?_ ?_;rotate_left;(conv=>whnf);rotate_right))
           all_goals first|rfl|omega|exact List.take_length|(rw [hsb];exact grow_ints _ _)|(rw [hsb];simp;done)|trace_state
     · obtain rfl : b = high:=by omega
       conv=>whnf
       repeat' (first|exact trivial|((first|refine kL ?_|(refine ⟨fun hb=>?_,fun hb=>?_⟩<;>(try simp only [nrm] at hb)<;>(try (first|(exfalso;omega)|contradiction|exact kB hb)))|refine kW cfg_ok ?_|refine kC ?_|refine bdA ?_|refine bd2 ?_|refine bdR ?_|refine bdL ?_)<;>(conv=>whnf))|(refine And.intro ?_ ?_;rotate_left;(conv=>whnf);rotate_right))
       all_goals first|omega|skip
       refine hE1 _ _ _ ?_
       conv=>whnf
       repeat' (first|exact trivial|((first|refine kL ?_|(refine ⟨fun hb=>?_,fun hb=>?_⟩<;>(try simp only [nrm] at hb)<;>(try (first|(exfalso;omega)|contradiction|exact kB hb)))|refine kW cfg_ok ?_|refine kC ?_|refine bdA ?_|refine bd2 ?_|refine bdR ?_|refine bdL ?_)<;>(conv=>whnf))|(refine And.intro ?_ ?_;rotate_left;(conv=>whnf);rotate_right))
       all_goals first|rfl|omega|exact List.take_length|trace_state
open Go Go.RowKit Eng
def mapW (w : Wld) (x y : Int) (wide high : Nat) : List (List Int):=
 if (clipF x wide (w.size * 8)).1 < (clipF x wide (w.size * 8)).2 ∧ (clipF y high (w.size * 8)).1 < (clipF y high (w.size * 8)).2 then
   mapM (aboutF w (x + (clipF x wide (w.size * 8)).1) (x + (clipF x wide (w.size * 8)).2 - 1) (y + (clipF y high (w.size * 8)).2 - 1)).1 x y (clipF x wide (w.size * 8)).1 (clipF x wide (w.size * 8)).2 (clipF y high (w.size * 8)).1 (clipF y high (w.size * 8)).2 wide high
 else mapM noF x y 0 0 0 0 wide high
theorem mapM_at (F : PF) (x y a0 a1 b0 b1 : Int) {wide high b a : Nat} (hb : b < high) (ha : a < wide) : elt .i64 (elt .ints (mapM F x y a0 a1 b0 b1 wide high) b) a = valM F x y a0 a1 b0 b1 b a:=by
 have h1:=elt_get .ints (mapM F x y a0 a1 b0 b1 wide high) b (by rw [mapM_len];exact hb)
 have h2 : (mapM F x y a0 a1 b0 b1 wide high)[b]? = some (rowM F x y a0 a1 b0 b1 wide b wide):=by
   unfold mapM;rw [List.getElem?_map,List.getElem?_range hb];rfl
 have h3 : elt .ints (mapM F x y a0 a1 b0 b1 wide high) b = rowM F x y a0 a1 b0 b1 wide b wide:=Option.some.inj (h1.symm.trans h2)
 rw [h3]
 have h4:=elt_get .i64 (rowM F x y a0 a1 b0 b1 wide b wide) a (by rw [rowM_len];exact ha)
 have h5 : (rowM F x y a0 a1 b0 b1 wide b wide)[a]? = some (valM F x y a0 a1 b0 b1 b a):=by
   unfold rowM;rw [List.getElem?_map,List.getElem?_range ha]
   show some (if a < wide then _ else _) = _
   rw [if_pos ha]
 exact Option.some.inj (h4.symm.trans h5)
theorem mapW_len (w : Wld) (x y : Int) (wide high : Nat) : (mapW w x y wide high).length = high:=by
 unfold mapW;split<;>exact mapM_len _ _ _ _ _ _ _ _ _
theorem mapW_row (w : Wld) (x y : Int) {wide high b : Nat} (hb : b < high) : (elt .ints (mapW w x y wide high) b).length = wide:=by
 have key : ∀ (F : PF) (a0 a1 b0 b1 : Int),(elt .ints (mapM F x y a0 a1 b0 b1 wide high) b).length = wide:=fun F a0 a1 b0 b1=>by
   have h1:=elt_get .ints (mapM F x y a0 a1 b0 b1 wide high) b (by rw [mapM_len];exact hb)
   have h2 : (mapM F x y a0 a1 b0 b1 wide high)[b]? = some (rowM F x y a0 a1 b0 b1 wide b wide):=by
     unfold mapM;rw [List.getElem?_map,List.getElem?_range hb];rfl
   rw [Option.some.inj (h1.symm.trans h2)];exact rowM_len _ _ _ _ _ _ _ _ _ _
 unfold mapW;split<;>exact key _ _ _ _ _
theorem mapW_at {w : Wld} (hs : 1 ≤ w.size) (x y : Int) {wide high b a : Nat} (hb : b < high) (ha : a < wide) : (inW w ⟨x + (a : Nat),y + (b : Nat)⟩ → Bright w ⟨x + (a : Nat),y + (b : Nat)⟩ (elt .i64 (elt .ints (mapW w x y wide high) b) a)) ∧ (¬ inW w ⟨x + (a : Nat),y + (b : Nat)⟩ → elt .i64 (elt .ints (mapW w x y wide high) b) a = -1):=by
 have ia:=@clip_in x wide (w.size * 8) a ⟨by omega,by omega⟩ (by omega) (by omega)
 have ib:=@clip_in y high (w.size * 8) b ⟨by omega,by omega⟩ (by omega) (by omega)
 have fa:=@clip_facts x wide (w.size * 8)
 have fb:=@clip_facts y high (w.size * 8)
 unfold mapW
 generalize clipF x wide (w.size * 8) = ca at *
 generalize clipF y high (w.size * 8) = cb at *
 have hin : inW w ⟨x + (a : Nat),y + (b : Nat)⟩ ↔ (ca.1 ≤ a ∧ (a : Int) < ca.2) ∧ (cb.1 ≤ b ∧ (b : Int) < cb.2):=by
   rw [ia,ib];unfold inW;dsimp only;omega
 by_cases hc : ca.1 < ca.2 ∧ cb.1 < cb.2
 · rw [if_pos hc,mapM_at _ _ _ _ _ _ _ hb ha]
   have hab:=fun h c1 c2 c3=>@about_bright w hs (x + ca.1) (x + ca.2 - 1) (y + cb.2 - 1) ⟨x + (a : Nat),y + (b : Nat)⟩ h c1 c2 c3
   dsimp only at hab
   generalize aboutF w (x + ca.1) (x + ca.2 - 1) (y + cb.2 - 1) = Z at hab ⊢
   unfold valM
   constructor
   · intro h
     have h2:=hin.1 h
     rw [if_pos ⟨h2.1.1,h2.1.2,h2.2.1,h2.2.2⟩]
     exact hab h (by omega) (by omega) (by omega)
   · intro h
     rw [if_neg fun e=>h (hin.2 ⟨⟨e.1,e.2.1⟩,e.2.2⟩)]
 · rw [if_neg hc,mapM_at _ _ _ _ _ _ _ hb ha]
   unfold valM
   rw [if_neg (by omega)]
   exact ⟨fun h=>absurd (hin.1 h) (by omega),fun _=>rfl⟩
open Go Go.RowKit Eng
theorem map_api (w : Wld) (x y : Int) (wide high : Nat) (hw : OkW w) (hR : rightW w = true) (hm : 1 ≤ wide ∧ wide ≤ 64 ∧ 1 ≤ high ∧ high ≤ 64) : Api Try.prog 14 [wldV w,i64 x,i64 y,i64 wide,i64 high] (.vec .ints (mapW w x y wide high)):=by
 have hsz:=(rightW_iff.1 hR).size
 have ca:=clip_api x wide (w.size * 8) (by omega) (by omega)
 have cb:=clip_api y high (w.size * 8) (by omega) (by omega)
 have fa:=@clip_facts x wide (w.size * 8)
 have fb:=@clip_facts y high (w.size * 8)
 unfold mapW
 generalize clipF x wide (w.size * 8) = pa at *
 generalize clipF y high (w.size * 8) = pb at *
 by_cases hc : pa.1 < pa.2 ∧ pb.1 < pb.2
 · have ga:=fa hc.1
   have gb:=fb hc.2
   rw [if_pos hc]
   obtain ⟨fr,to_,la,I,nI,ha⟩:=fabout_ex w (x + pa.1) (x + pa.2 - 1) (y + pb.2 - 1) hw (rightW_iff.1 hR) (by omega) (by omega) (by omega) (by omega) (by omega) (by omega)
   generalize aboutF w (x + pa.1) (x + pa.2 - 1) (y + pb.2 - 1) = Z at ha ⊢
   exact mapIn_api w x y wide high hw hR hm pa.1 pa.2 pb.1 pb.2 ca cb (by omega) (by omega) Z.1 Z.2 fr to_ la I nI ha
 · rw [if_neg hc]
   exact mapNo_api w x y wide high hw hR hm pa.1 pa.2 pb.1 pb.2 ca cb hc
open Go Go.RowKit Eng
theorem map_part {w : Wld} (hs : 1 ≤ w.size) (x y : Int) {wide high a b : Nat} (ha : a < wide) (hb : b < high) :
   elt .i64 (elt .ints (mapW w x y wide high) b) a = elt .i64 (elt .ints (mapW w (x - 2) (y - 3) (wide + 5) (high + 4)) (b + 3)) (a + 2):=by
 have h1:=mapW_at hs x y hb ha
 have h2:=mapW_at hs (x - 2) (y - 3) (show b + 3 < high + 4 by omega) (show a + 2 < wide + 5 by omega)
 rw [show x - 2 + ((a + 2 : Nat) : Int) = x + (a : Nat) by omega,show y - 3 + ((b + 3 : Nat) : Int) = y + (b : Nat) by omega] at h2
 by_cases hi : inW w ⟨x + (a : Nat),y + (b : Nat)⟩
 · exact bright_one (h1.1 hi) (h2.1 hi)
 · rw [h1.2 hi,h2.2 hi]
theorem light_in {w : Wld} (hs : 1 ≤ w.size) {x y : Int} (hi : inW w ⟨x,y⟩) : (lightW w x y).2 = true ∧ Bright w ⟨x,y⟩ (lightW w x y).1:=by
 have h : 0 ≤ x ∧ 0 ≤ y ∧ x < 8 * w.size ∧ y < 8 * w.size:=hi
 have hv : lightW w x y = (getZ ((aboutF w x x y).1 x y),true):=if_neg (by omega)
 have hb:=fun c1 c2 c3=>@about_bright w hs x x y ⟨x,y⟩ hi c1 c2 c3
 dsimp only at hb
 generalize aboutF w x x y = Z at hv hb
 generalize getZ (Z.1 x y) = z at hv hb
 rw [hv]
 exact ⟨rfl,hb (Int.le_refl _) (Int.le_refl _) (Int.le_refl _)⟩
theorem light_out {w : Wld} {x y : Int} (hi : ¬ inW w ⟨x,y⟩) : lightW w x y = (0,false):=by
 unfold inW at hi
 exact if_pos (by dsimp only at hi;omega)
theorem map_light {w : Wld} (hs : 1 ≤ w.size) (x y : Int) {wide high a b : Nat} (ha : a < wide) (hb : b < high) :
   ((lightW w (x + (a : Nat)) (y + (b : Nat))).2 = true ∧ (lightW w (x + (a : Nat)) (y + (b : Nat))).1 = elt .i64 (elt .ints (mapW w x y wide high) b) a) ∨ ((lightW w (x + (a : Nat)) (y + (b : Nat))).2 = false ∧ elt .i64 (elt .ints (mapW w x y wide high) b) a = -1):=by
 have h1:=mapW_at hs x y hb ha
 by_cases hi : inW w ⟨x + (a : Nat),y + (b : Nat)⟩
 · obtain ⟨h2,h3⟩:=light_in hs hi
   exact .inl ⟨h2,bright_one h3 (h1.1 hi)⟩
 · rw [light_out hi]
   exact .inr ⟨rfl,h1.2 hi⟩
open Go Go.RowKit Eng
def roofC (n : Nat) (t : Int) (k : Nat) : Int:=if 8 ≤ (k : Int) ∧ (k : Int) < 8 + n then 2 else if (k : Int) = t then 10 else 0
def roofN (n : Nat) (t : Int) : List Int:=(List.range 64).map fun (k : Nat)=>roofC n t k
theorem roofN_len (n : Nat) (t : Int) : (roofN n t).length = 64:=by unfold roofN;rw [List.length_map,List.length_range]
theorem roofN_ok (n : Nat) (t : Int) : Plainly (roofN n t):=⟨roofN_len n t,fun i hi=>by
 obtain ⟨k,_,rfl⟩:=List.mem_map.1 hi
 unfold roofC
 split
 · exact ⟨by decide,by decide⟩
 · split<;>exact ⟨by decide,by decide⟩⟩
theorem roofN_get (n : Nat) (t : Int) {k : Nat} (hk : k < 64) : (roofN n t)[k]? = some (roofC n t k):=by
 unfold roofN
 rw [List.getElem?_map,List.getElem?_range hk];rfl
theorem roofN_elt (n : Nat) (t : Int) {k : Nat} (hk : k < 64) : elt .u8 (roofN n t) k = roofC n t k:=by
 show ((roofN n t)[k]?).getD (dflt .u8) = _
 rw [roofN_get n t hk];rfl
theorem roofN_zero : List.replicate (Int.toNat 64) (dflt .u8) = roofN 0 (-1):=by
 refine List.ext_getElem? fun k=>?_
 by_cases hk : k < 64
 · rw [roofN_get _ _ hk]
   unfold roofC
   rw [if_neg (by omega),if_neg (by omega),List.getElem?_replicate,if_pos (show k < Int.toNat 64 from hk)];rfl
 · rw [List.getElem?_eq_none (by rw [List.length_replicate];exact Nat.le_of_not_lt hk),List.getElem?_eq_none (by rw [roofN_len];omega)]
theorem roofN_succ (n : Nat) : (roofN n (-1)).set (8 + n) 2 = roofN (n + 1) (-1):=by
 refine List.ext_getElem? fun k=>?_
 by_cases hk : k < 64
 · rw [List.getElem?_set,roofN_get _ _ hk,roofN_get _ _ hk,roofN_len]
   unfold roofC
   by_cases h : 8 + n = k
   · rw [if_pos h,if_pos (by omega),if_pos (by omega)]
   · rw [if_neg h]
     by_cases h2 : 8 ≤ (k : Int) ∧ (k : Int) < 8 + n
     · rw [if_pos h2,if_pos (by omega)]
     · rw [if_neg h2,if_neg (show ¬ (8 ≤ (k : Int) ∧ (k : Int) < 8 + (n + 1 : Nat)) by omega)]
 · rw [List.getElem?_eq_none (by rw [List.length_set,roofN_len];omega),List.getElem?_eq_none (by rw [roofN_len];omega)]
theorem roofN_torch {t : Nat} (ht : 16 ≤ t ∧ t < 64) : (roofN 8 (-1)).set t 10 = roofN 8 t:=by
 refine List.ext_getElem? fun k=>?_
 by_cases hk : k < 64
 · rw [List.getElem?_set,roofN_get _ _ hk,roofN_get _ _ hk,roofN_len]
   unfold roofC
   by_cases h : t = k
   · rw [if_pos h,if_pos (by omega),if_neg (by omega),if_pos (by omega)]
   · rw [if_neg h]
     by_cases h2 : 8 ≤ (k : Int) ∧ (k : Int) < 8 + (8 : Nat)
     · rw [if_pos h2,if_pos h2]
     · rw [if_neg h2,if_neg h2,if_neg (by omega),if_neg (by omega)]
 · rw [List.getElem?_eq_none (by rw [List.length_set,roofN_len];omega),List.getElem?_eq_none (by rw [roofN_len];omega)]
theorem roofN_bare {t : Nat} (ht : 16 ≤ t ∧ t < 64) : (roofN 8 t).set t 0 = roofN 8 (-1):=by
 refine List.ext_getElem? fun k=>?_
 by_cases hk : k < 64
 · rw [List.getElem?_set,roofN_get _ _ hk,roofN_get _ _ hk,roofN_len]
   unfold roofC
   by_cases h : t = k
   · rw [if_pos h,if_pos (by omega),if_neg (by omega),if_neg (by omega)]
   · rw [if_neg h]
     by_cases h2 : 8 ≤ (k : Int) ∧ (k : Int) < 8 + (8 : Nat)
     · rw [if_pos h2,if_pos h2]
     · rw [if_neg h2,if_neg h2,if_neg (by omega),if_neg (by omega)]
 · rw [List.getElem?_eq_none (by rw [List.length_set,roofN_len];omega),List.getElem?_eq_none (by rw [roofN_len];omega)]
def absZ (z : Int) : Int:=max z (-z)
def roofV (t a b : Int) : Int:=if b = 0 then 15 else if b = 1 ∨ t < 0 then 0 else 14 - absZ (a - t % 8) - absZ (b - t / 8)
structure Roofed (v : Wld) (t : Int) : Prop where
 size : v.size = 1
 chunk : (chunkW v 0 0).1 = roomC (roofN 8 t)
theorem roof_cell {v : Wld} {t : Int} (h : Roofed v t) {a b : Int} (ha : 0 ≤ a ∧ a < 8) (hb : 0 ≤ b ∧ b < 8) : cellAt v a b = roofC 8 t (b * 8 + a).toNat:=by
 rw [room_cell h.size h.chunk ha hb,roofN_elt _ _ (by omega)]
theorem roof_in {v : Wld} {t : Int} (h : Roofed v t) {c : Pos} : inW v c ↔ 0 ≤ c.x ∧ c.x < 8 ∧ 0 ≤ c.y ∧ c.y < 8:=by
 unfold inW;rw [h.size];omega
theorem roof_open {v : Wld} {t : Int} (h : Roofed v t) {c : Pos} (ho : openW v c) : ¬ c.y = 1:=by
 intro hy
 have hi:=(roof_in h).1 ho.1
 have h2:=ho.2
 rw [roof_cell h ⟨hi.1,hi.2.1⟩ ⟨hi.2.2.1,hi.2.2.2⟩] at h2
 unfold roofC at h2
 rw [if_pos (by omega)] at h2
 omega
theorem roof_isopen {v : Wld} {t : Int} (h : Roofed v t) {c : Pos} (hx : 0 ≤ c.x ∧ c.x < 8) (hy : 2 ≤ c.y ∧ c.y < 8) : openW v c:=by
 refine ⟨(roof_in h).2 ⟨hx.1,hx.2,by omega,hy.2⟩,?_⟩
 rw [roof_cell h hx ⟨by omega,hy.2⟩]
 unfold roofC
 rw [if_neg (by omega)]
 split
 · exact .inr rfl
 · exact .inl rfl
theorem roof_torch {v : Wld} {t : Int} (h : Roofed v t) (ht : t < 64) {c : Pos} (hc : torchW v c) : 0 ≤ t ∧ c.x = t % 8 ∧ c.y = t / 8:=by
 have hi:=(roof_in h).1 hc.1
 have h2:=hc.2
 rw [roof_cell h ⟨hi.1,hi.2.1⟩ ⟨hi.2.2.1,hi.2.2.2⟩] at h2
 unfold roofC at h2
 split at h2
 · omega
 · split at h2
   · omega
   · omega
theorem roof_istorch {v : Wld} {t : Int} (h : Roofed v t) (ht : 16 ≤ t ∧ t < 64) : torchW v ⟨t % 8,t / 8⟩:=by
 refine ⟨(roof_in h).2 (by dsimp only;omega),?_⟩
 rw [roof_cell h (by dsimp only;omega) (by dsimp only;omega)]
 unfold roofC
 rw [if_neg (by dsimp only;omega),if_pos (by dsimp only;omega)]
theorem roof_sky {v : Wld} {t : Int} (h : Roofed v t) {c : Pos} (hc : skyW v c) : c.y = 0:=by
 have hi:=(roof_in h).1 hc.1
 by_cases hy : c.y = 0
 · exact hy
 · have h1:=hc.2 1 (by omega)
   rw [roof_cell h ⟨hi.1,hi.2.1⟩ (by decide)] at h1
   unfold roofC at h1
   rw [if_pos (by omega)] at h1
   omega
theorem roof_issky {v : Wld} {t : Int} (h : Roofed v t) (ht : t < 0 ∨ 16 ≤ t) {c : Pos} (hx : 0 ≤ c.x ∧ c.x < 8) (hy : c.y = 0) : skyW v c:=by
 refine ⟨(roof_in h).2 ⟨hx.1,hx.2,by omega,by omega⟩,fun k hk=>?_⟩
 have : k = 0:=by omega
 subst this
 rw [roof_cell h hx (by decide)]
 unfold roofC
 rw [if_neg (by omega),if_neg (by omega)]
theorem roof_dirs {d : Pos} (h : d ∈ dirsL) : (d.x = -1 ∧ d.y = 0) ∨ (d.x = 1 ∧ d.y = 0) ∨ (d.x = 0 ∧ d.y = -1) ∨ (d.x = 0 ∧ d.y = 1):=by
 unfold dirsL at h
 simp only [List.mem_cons,List.not_mem_nil,or_false] at h
 rcases h with rfl|rfl|rfl|rfl<;>decide
theorem roof_gg {v : Wld} {t : Int} (h : Roofed v t) (ht : t < 64) : ∀ {k : Nat} {c : Pos},GG (skyW v) (torchW v) (openW v) k c → c.y = 0 ∨ (2 ≤ c.y ∧ 0 ≤ t ∧ absZ (c.x - t % 8) + absZ (c.y - t / 8) + 1 ≤ k):=by
 intro k
 induction k with
 | zero=>intro c hg;exact .inl (roof_sky h hg)
 | succ k ih =>
   intro c hg
   rcases hg with hg|⟨h0,hg⟩|⟨ho,d,hd,hg⟩
   · rcases ih hg with h1|h1
     · exact .inl h1
     · exact .inr ⟨h1.1,h1.2.1,by omega⟩
   · have h1:=roof_torch h ht hg
     have h2:=roof_open h ⟨hg.1,.inr hg.2⟩
     have h3:=(roof_in h).1 hg.1
     by_cases hy : c.y = 0
     · exact .inl hy
     · refine .inr ⟨by omega,h1.1,?_⟩
       unfold absZ
       omega
   · have h2:=roof_open h ho
     have h3:=(roof_in h).1 ho.1
     have h4:=roof_dirs hd
     have h5 : (addP c d).x = c.x + d.x:=rfl
     have h6 : (addP c d).y = c.y + d.y:=rfl
     rcases ih hg with h1|h1
     · left;omega
     · by_cases hy : c.y = 0
       · exact .inl hy
       · refine .inr ⟨by omega,h1.2.1,?_⟩
         unfold absZ at h1 ⊢
         omega
theorem roof_isgg {v : Wld} {t : Int} (h : Roofed v t) (ht : 16 ≤ t ∧ t < 64) : ∀ (n : Nat) {c : Pos},0 ≤ c.x ∧ c.x < 8 → 2 ≤ c.y ∧ c.y < 8 → absZ (c.x - t % 8) + absZ (c.y - t / 8) = n → GG (skyW v) (torchW v) (openW v) (n + 1) c:=by
 intro n
 induction n with
 | zero =>
   intro c hx hy hd
   have : c = ⟨t % 8,t / 8⟩:=pos_ext (by unfold absZ at hd;dsimp only;omega) (by unfold absZ at hd;dsimp only;omega)
   rw [this]
   exact .inr (.inl ⟨rfl,roof_istorch h ht⟩)
 | succ n ih =>
   intro c hx hy hd
   have ho:=roof_isopen h hx hy
   have key : ∀ d ∈ dirsL,0 ≤ (addP c d).x ∧ (addP c d).x < 8 → 2 ≤ (addP c d).y ∧ (addP c d).y < 8 → absZ ((addP c d).x - t % 8) + absZ ((addP c d).y - t / 8) = n → GG (skyW v) (torchW v) (openW v) (n + 1 + 1) c:=fun d hdm h1 h2 h3=>.inr (.inr ⟨ho,d,hdm,ih h1 h2 h3⟩)
   unfold absZ at hd key
   by_cases c1 : t % 8 < c.x
   · exact key ⟨-1,0⟩ (by simp [dirsL]) (by simp only [addP];omega) (by simp only [addP];omega) (by simp only [addP];omega)
   · by_cases c2 : c.x < t % 8
     · exact key ⟨1,0⟩ (by simp [dirsL]) (by simp only [addP];omega) (by simp only [addP];omega) (by simp only [addP];omega)
     · by_cases c3 : t / 8 < c.y
       · exact key ⟨0,-1⟩ (by simp [dirsL]) (by simp only [addP];omega) (by simp only [addP];omega) (by simp only [addP];omega)
       · exact key ⟨0,1⟩ (by simp [dirsL]) (by simp only [addP];omega) (by simp only [addP];omega) (by simp only [addP];omega)
theorem roof_bright {v : Wld} {t : Int} (h : Roofed v t) (ht : t < 0 ∨ (16 ≤ t ∧ t < 64)) {c : Pos} (hx : 0 ≤ c.x ∧ c.x < 8) (hy : 0 ≤ c.y ∧ c.y < 8) : Bright v c (roofV t c.x c.y):=by
 unfold roofV
 by_cases h0 : c.y = 0
 · rw [if_pos h0]
   exact .inl ⟨0,by decide,⟨roof_issky h (by omega) hx h0,fun m hm=>absurd hm (Nat.not_lt_zero m)⟩,rfl⟩
 · rw [if_neg h0]
   have hgg:=fun k=>@roof_gg v t h (by omega) k c
   by_cases h1 : c.y = 1 ∨ t < 0
   · rw [if_pos h1]
     refine .inr ⟨fun k hk hl=>?_,rfl⟩
     rcases hgg k hl.1 with h2|h2<;>omega
   · rw [if_neg h1]
     have hi:=roof_isgg h (by omega) (absZ (c.x - t % 8) + absZ (c.y - t / 8)).toNat (c:=c) hx (by omega) (by unfold absZ;omega)
     refine .inl ⟨(absZ (c.x - t % 8) + absZ (c.y - t / 8)).toNat + 1,by unfold absZ;omega,⟨hi,fun m hm hg=>?_⟩,by unfold absZ;omega⟩
     unfold absZ at hgg hm
     rcases hgg m hg with h2|h2
     · omega
     · omega
theorem roof_put {w : Wld} (hR : RW w) (hs : w.size = 1) (t : Int) : putW w (roomC (roofN 8 t)) = ((putW w (roomC (roofN 8 t))).1,0) ∧ RW (putW w (roomC (roofN 8 t))).1 ∧ Roofed (putW w (roomC (roofN 8 t))).1 t:=by
 have hr:=room_right (roofN_ok 8 t)
 have hm : max (roomC (roofN 8 t)).x (roomC (roofN 8 t)).y < w.size:=by rw [hs];exact (by decide : max (0 : Int) 0 < 1)
 have he:=put_eq hR hr hm
 have hU:=rw_put hR hr hm
 have h2:=chunk_put (l:=w.players) hR hr hm hU
 rw [he]
 exact ⟨rfl,hU,⟨hs,h2⟩⟩
open Go Go.RowKit Eng
theorem okW_w11 : OkW w11:=okW_rw rw11
def roofW : Wld:=(putW w11 (roomC (roofN 8 36))).1
theorem roof_api  : Api Try.prog 18 [] (.tup [wldV roofW,bol true]):=by
 have hn:=wnew_api 1 1
 rw [show newW 1 1 = (w11,0) by rfl] at hn
 have hc:=wchunk_api w11 0 0 okW_w11
 obtain ⟨c1,c2,c3⟩:=chunkW_in rw11 (x:=0) (y:=0) ⟨by decide,by decide⟩ ⟨by decide,by decide⟩
 have c4 : (chunkW w11 0 0).2 = true:=by rw [c1]
 have c5:=chunkW_len c4
 rw [c4] at hc
 have hp:=worldPut_api w11 (roomC (roofN 8 36)) okW_w11 (okC_right (room_right (roofN_ok 8 36))) (fitC_right (room_right (roofN_ok 8 36)))
 obtain ⟨r1,r2,r3⟩:=roof_put rw11 rfl 36
 rw [r1] at hp
 change Api _ _ _ (.tup [wldV roofW,i64 0]) at hp
 have e1 : chunkV (roomC (roofN 8 36)) = .agg [i64 0,i64 0,.vec .u8 (roofN 8 36),.vec .heap [],.vec .box []]:=rfl
 rw [e1] at hp
 have hcn:=roofN_succ
 have hcl:=fun n=>roofN_len n (-1)
 have hce : (roofN 8 (-1)).set 36 10 = roofN 8 36:=roofN_torch (t:=36) (by decide)
 have hc0:=roofN_zero
 generalize (chunkW w11 0 0).1 = C at *
 generalize roofW = B at *
 generalize w11 = W at *
 have hlr : (roofN 8 36).length = 64:=roofN_len 8 36
 generalize roofN 8 36 = RS at *
 generalize hG : (fun n=>roofN n (-1)) = G
 have hGn : ∀ n,roofN n (-1) = G n:=fun n=>by rw [← hG]
 simp only [hGn] at hcn hcl hce hc0
 clear hG hGn
 dsimp only at hn hc hp
 clear r1 r2 r3 c1 c4 e1
 replace hp:=api_weak hp (.cons (Le.refl _) (.cons (le_chunk _ _ _) .nil))
 refine Api.of_fin cfg_ok Try.func18 rfl (nt:=54) rfl rfl ?_
 conv=>whnf
 repeat' (first|exact trivial|((first|refine kL ?_|(refine ⟨fun hb=>?_,fun hb=>?_⟩<;>(try simp only [nrm] at hb)<;>(try (first|(exfalso;omega)|contradiction|exact kB hb)))|refine kA hn ?_|refine kD hn ?_|refine kA hc ?_|refine kD hc ?_|refine kW cfg_ok ?_|refine kC ?_|refine bdA ?_|refine bd2 ?_|refine bdR ?_|refine bdL ?_)<;>(conv=>whnf))|(refine And.intro ?_ ?_;rotate_left;(conv=>whnf);rotate_right))
 all_goals first|omega|skip
 refine Runs.loopS cfg_ok (σ:=Nat) [0,2,4,31] (fun j=>[.ptr 0 0,.ptr 4 0,.ptr 8 0,i64 j])
   (fun j=>[(0,.box [i64 0,.lit (.int .u64 0),i64 0,.lit (.slice none 0 0),.lit (.slice none 0 0)]),(4,.box (wldC W)),(8,.box [i64 0,i64 0,.own .u8 59 0 64 none,.vec .heap C.heaps,.vec .box C.boxes]),(59,.row .u8 (G j))])
   (fun j=>j ≤ 8) (fun j=>8 - j) 0 (by omega) ?_ ?_
 · conv=>whnf
   repeat' (first|exact trivial|((first|refine kL ?_|(refine ⟨fun hb=>?_,fun hb=>?_⟩<;>(try simp only [nrm] at hb)<;>(try (first|(exfalso;omega)|contradiction|exact kB hb)))|refine kW cfg_ok ?_|refine kC ?_|refine bdA ?_|refine bd2 ?_|refine bdR ?_|refine bdL ?_)<;>(conv=>whnf))|(refine And.intro ?_ ?_;rotate_left;(conv=>whnf);rotate_right))
   all_goals first|rfl|omega|exact congrArg (Value.int .i64) c2|exact congrArg (Value.int .i64) c3|(rw [hc0];done)|(rw [hc0];exact List.take_of_length_le (by rw [hcl];decide))|(rw [hcl];done)|trace_state
 · intro j hj
   by_cases hlt : j < 8
   · have hcj:=hcn j
     have hlj:=hcl j
     have hk2 : (8 + (j : Int)).toNat = 8 + j:=by omega
     conv=>whnf
     repeat' (first|exact trivial|((first|refine kL ?_|(refine ⟨fun hb=>?_,fun hb=>?_⟩<;>(try simp only [nrm] at hb)<;>(try (first|(exfalso;omega)|contradiction|exact kB hb)))|refine kW cfg_ok ?_|refine kC ?_|refine bdA ?_|refine bd2 ?_|refine bdR ?_|refine bdL ?_)<;>(conv=>whnf))|(refine And.intro ?_ ?_;rotate_left;(conv=>whnf);rotate_right))
     all_goals first|omega|skip
     refine .to (j + 1) hlt (by omega) ?_
     conv=>whnf
     repeat' (first|exact trivial|((first|refine kL ?_|(refine ⟨fun hb=>?_,fun hb=>?_⟩<;>(try simp only [nrm] at hb)<;>(try (first|(exfalso;omega)|contradiction|exact kB hb)))|refine kW cfg_ok ?_|refine kC ?_|refine bdA ?_|refine bd2 ?_|refine bdR ?_|refine bdL ?_)<;>(conv=>whnf))|(refine And.intro ?_ ?_;rotate_left;(conv=>whnf);rotate_right))
     all_goals first|rfl|omega|(rw [hk2,hcj];done)|(rw [hk2,hcj];exact rfl)|(rw [Nat.add_zero,hk2,hcj];exact List.take_of_length_le (by rw [hcl];decide))|(rw [hcl];done)|(rw [List.length_set,hlj];done)|trace_state
   · have hce2 : (G j).set 36 10 = RS:=by rw [show j = 8 by omega];exact hce
     have hlj:=hcl j
     generalize G j = G8 at *
     conv=>whnf
     repeat' (first|exact trivial|((first|refine kL ?_|(refine ⟨fun hb=>?_,fun hb=>?_⟩<;>(try simp only [nrm] at hb)<;>(try (first|(exfalso;omega)|contradiction|exact kB hb)))|((refine ⟨(by omega : 0 ≤ (36 : Int) ∧ (36 : Int) < ((64 : Nat) : Int)),?_⟩;show opsK _ _ _ _ _ _ _ _;unfold opsK;unfold guardK;show stepK _ _ _ _ _ _ _;unfold stepK;show opA _ _ _ _ _ _ _;unfold opA;show avalK _ _ _))|refine kW cfg_ok ?_|refine kC ?_|refine bdA ?_|refine bd2 ?_|refine bdR ?_|refine bdL ?_)<;>(conv=>whnf))|(refine And.intro ?_ ?_;rotate_left;(conv=>whnf);rotate_right))
     all_goals first|omega|skip
     refine callGiveN hp rfl rfl ?_
     conv=>whnf
     refine ⟨by first|omega|(simp;done)|(simp;omega),?_,?_⟩
     · refine congrArg (fun l=>[wldV W,AV.agg [i64 0,i64 0,AV.vec Ty.u8 l,AV.lit (Value.slice none 0 0),AV.lit (Value.slice none 0 0)]]) ?_
       refine Eq.trans ?_ hce2
       exact List.take_of_length_le (by show (G8.set 36 10).length ≤ 64;rw [List.length_set];omega)
     conv=>whnf
     repeat' (first|exact trivial|((first|refine kL ?_|(refine ⟨fun hb=>?_,fun hb=>?_⟩<;>(try simp only [nrm] at hb)<;>(try (first|(exfalso;omega)|contradiction|exact kB hb)))|refine kW cfg_ok ?_|refine kC ?_|refine bdA ?_|refine bd2 ?_|refine bdR ?_|refine bdL ?_)<;>(conv=>whnf))|(refine And.intro ?_ ?_;rotate_left;(conv=>whnf);rotate_right))
     all_goals first|rfl|omega|trace_state
open Go Go.RowKit Eng
theorem roof_light {v : Wld} (hR : RW v) {t : Int} (h : Roofed v t) (ht : t < 0 ∨ (16 ≤ t ∧ t < 64)) {x y : Int} (hx : 0 ≤ x ∧ x < 8) (hy : 0 ≤ y ∧ y < 8) : lightW v x y = (roofV t x y,true):=by
 obtain ⟨h1,h2⟩:=light_in hR.size.1 (x:=x) (y:=y) ((roof_in h).2 ⟨hx.1,hx.2,hy.1,hy.2⟩)
 exact Prod.ext (bright_one h2 (roof_bright h ht (c:=⟨x,y⟩) hx hy)) h1
theorem roof_here : RW roofW ∧ Roofed roofW 36:=by
 obtain ⟨_,r2,r3⟩:=roof_put rw11 rfl 36
 exact ⟨r2,r3⟩
theorem awake26_api  : Api Try.prog 10 [] (bol true):=by
 have hr:=roof_api
 obtain ⟨hR,hT⟩:=roof_here
 have hw:=okW_rw hR
 have hrt:=rightW_iff.2 hR
 have l1:=light_api roofW 3 0 hw hrt
 have l2:=light_api roofW 4 4 hw hrt
 have l3:=light_api roofW 5 4 hw hrt
 have l4:=light_api roofW 3 1 hw hrt
 have l5:=light_api roofW 8 0 hw hrt
 rw [roof_light hR hT (by decide) (by decide) (by decide),show roofV 36 3 0 = 15 from by decide] at l1
 rw [roof_light hR hT (by decide) (by decide) (by decide),show roofV 36 4 4 = 14 from by decide] at l2
 rw [roof_light hR hT (by decide) (by decide) (by decide),show roofV 36 5 4 = 13 from by decide] at l3
 rw [roof_light hR hT (by decide) (by decide) (by decide),show roofV 36 3 1 = 0 from by decide] at l4
 rw [light_out (fun e=>by have:=(roof_in hT).1 e;exact absurd this.2.1 (by decide))] at l5
 dsimp only at l1 l2 l3 l4 l5
 generalize roofW = B at *
 refine Api.of_fin cfg_ok Try.func10 rfl (nt:=69) rfl rfl ?_
 conv=>whnf
 repeat' (first|exact trivial|((first|refine kL ?_|(refine ⟨fun hb=>?_,fun hb=>?_⟩<;>(try simp only [nrm] at hb)<;>(try (first|(exfalso;omega)|contradiction|exact kB hb)))|refine kA hr ?_|refine kD hr ?_|refine kA l1 ?_|refine kD l1 ?_|refine kA l2 ?_|refine kD l2 ?_|refine kA l3 ?_|refine kD l3 ?_|refine kA l4 ?_|refine kD l4 ?_|refine kA l5 ?_|refine kD l5 ?_|refine kW cfg_ok ?_|refine kC ?_|refine bdA ?_|refine bd2 ?_|refine bdR ?_|refine bdL ?_)<;>(conv=>whnf))|(refine And.intro ?_ ?_;rotate_left;(conv=>whnf);rotate_right))
 all_goals first|omega|rfl|trace_state
end Go.Proofs.Ytchdgiooggdfeaa
