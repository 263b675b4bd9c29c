/- homesteadlaw26.LightNear. -/
import Derived.Test.YtchdgiooggdfeaaGm
import Derived.Test.YtchdgiooggdfeaaGo
set_option linter.unusedSimpArgs false
set_option linter.unusedVariables false
set_option maxRecDepth 100000
set_option maxHeartbeats 16000000
namespace Go.Proofs.Ytchdgiooggdfeaa
open Go Go.RowKit Eng
theorem dir_four {d n m : Nat} {K : List AV → Prop} (hd : d < 4) (hn : n = d * 2) (hm : m = 2) (h : K [i64 (dirD d).x,i64 (dirD d).y]) : dropK [i64 (-1),i64 0,i64 1,i64 0,i64 0,i64 (-1),i64 0,i64 1] n fun l=>takeK l m K:=by
 subst hn hm
 have e : d = 0 ∨ d = 1 ∨ d = 2 ∨ d = 3:=by omega
 rcases e with rfl|rfl|rfl|rfl<;>exact h
noncomputable def bestL (w : Wld) (V : Int → Int → Int) (c : Pos) (d : Nat) : Int:=(dirsL.take d).foldl (bestN w V c) (selfB w c)
theorem bestL_succ (w : Wld) (V : Int → Int → Int) (c : Pos) {d : Nat} (h : d < 4) : bestL w V c (d + 1) = bestN w V c (bestL w V c d) (dirD d):=by
 unfold bestL
 have h4 : d < dirsL.length:=h
 rw [List.take_add_one,elt_get .pos dirsL d h4,Option.toList_some,List.foldl_append]
 rfl
theorem bestL_end {w : Wld} {V : Int → Int → Int} (hV : ∀ c : Pos,inW w c → Bright w c (V c.x c.y)) {c : Pos} (ho : openW w c) : bestL w V c 4 = V c.x c.y:=(bright_fold hV ho).symm
theorem bestN_yes {w : Wld} {V : Int → Int → Int} {c d : Pos} {b : Int} (h : openW w (addP c d)) : bestN w V c b d = max b (V (addP c d).x (addP c d).y - 1):=if_pos h
theorem bestN_no {w : Wld} {V : Int → Int → Int} {c d : Pos} {b : Int} (h : ¬ openW w (addP c d)) : bestN w V c b d = b:=if_neg h
open Go Go.RowKit Eng
theorem near6_api (w : Wld) (hw : OkW w) (hR : RW w) (hg : great6 w = false) (h2 : w.size ≤ 2) (n : Nat) (hn : (n : Int) = 8 * w.size) (M : List (List Int)) (hmap : Api Try.prog 14 [wldV w,i64 0,i64 0,i64 (n : Nat),i64 (n : Nat)] (.vec .ints M)) (hM : M.length = n) (hrow : ∀ b : Nat,b < n → (elt .ints M b).length = n) (hV : ∀ b a : Nat,b < n → a < n → Bright w ⟨(a : Nat),(b : Nat)⟩ (elt .i64 (elt .ints M b) a)) (haw : Api Try.prog 10 [] (bol true)) : Api Try.prog 8 [wldV w] (bol true):=by
 have hsz:=hR.size
 have hgr:=great6_api w hw
 rw [hg] at hgr
 have hrt:=rightW_api w hw
 rw [rightW_iff.2 hR] at hrt
 rw [show i64 (n : Nat) = i64 (8 * w.size) by rw [hn]] at hmap
 refine Api.of_fin cfg_ok Try.func8 rfl (nt:=168) rfl rfl ?_
 conv=>whnf
 repeat' (first|exact trivial|((first|refine kL ?_|(refine ⟨fun hb=>?_,fun hb=>?_⟩<;>(try simp only [nrm] at hb)<;>(try (first|(exfalso;omega)|contradiction|exact kB hb)))|refine kA hgr ?_|refine kD hgr ?_|refine kA hrt ?_|refine kD hrt ?_|refine kA hmap ?_|refine kD hmap ?_|refine kW cfg_ok ?_|refine kC ?_|refine bdA ?_|refine bd2 ?_|refine bdR ?_|refine bdL ?_)<;>(conv=>whnf))|(refine And.intro ?_ ?_;rotate_left;(conv=>whnf);rotate_right))
 all_goals first|omega|skip
 refine Runs.loopQ cfg_ok (σ:=Nat) [1,3,4,38,39] (fun b=>[.ptr 2 0,i64 (8 * w.size),.vec .ints M,i64 (8 * w.size),i64 (b : Nat)])
   (fun b=>[(2,.box (wldC w))])
   (fun b=>b ≤ n) (fun b=>n - b) 0 (by omega) ?_ ?_
 · conv=>whnf
   repeat' (first|exact trivial|((first|refine kL ?_|(refine ⟨fun hb=>?_,fun hb=>?_⟩<;>(try simp only [nrm] at hb)<;>(try (first|(exfalso;omega)|contradiction|exact kB hb)))|refine kW cfg_ok ?_|refine kC ?_|refine bdA ?_|refine bd2 ?_|refine bdR ?_|refine bdL ?_)<;>(conv=>whnf))|(refine And.intro ?_ ?_;rotate_left;(conv=>whnf);rotate_right))
   all_goals first|rfl|omega|trace_state
 · intro b hb N1 hN1 hE1 hT1
   by_cases hlt : b < n
   · have hrb:=hrow b hlt
     have hVb:=fun a=>hV b a hlt
     conv=>whnf
     repeat' (first|exact trivial|((first|refine kL ?_|(refine ⟨fun hb=>?_,fun hb=>?_⟩<;>(try simp only [nrm] at hb)<;>(try (first|(exfalso;omega)|contradiction|exact kB hb)))|refine kW cfg_ok ?_|refine kC ?_|refine bdA ?_|refine bd2 ?_|refine bdR ?_|refine bdL ?_)<;>(conv=>whnf))|(refine And.intro ?_ ?_;rotate_left;(conv=>whnf);rotate_right))
     all_goals first|omega|skip
     refine Runs.loopQ cfg_ok (σ:=Nat) [1,3,4,5,38,39,42,43] (fun a=>[.ptr 2 0,i64 (8 * w.size),.vec .ints M,i64 (b : Nat),i64 (8 * w.size),i64 (b : Nat),i64 (8 * w.size),i64 (a : Nat)])
       (fun a=>[(2,.box (wldC w))])
       (fun a=>a ≤ n) (fun a=>n - a) 0 (by omega) ?_ ?_
     · conv=>whnf
       repeat' (first|exact trivial|((first|refine kL ?_|(refine ⟨fun hb=>?_,fun hb=>?_⟩<;>(try simp only [nrm] at hb)<;>(try (first|(exfalso;omega)|contradiction|exact kB hb)))|refine kW cfg_ok ?_|refine kC ?_|refine bdA ?_|refine bd2 ?_|refine bdR ?_|refine bdL ?_)<;>(conv=>whnf))|(refine And.intro ?_ ?_;rotate_left;(conv=>whnf);rotate_right))
       all_goals first|rfl|omega|trace_state
     · intro a ha N2 hN2 hE2 hT2
       by_cases hla : a < n
       · have hva:=hVb a hla
         have hbd:=bright_bd hva
         have hi : inW w ⟨(a : Nat),(b : Nat)⟩:=by unfold inW;dsimp only;omega
         have hop:=lopen_api w (a : Nat) (b : Nat) hw hR (by omega) (by omega)
         by_cases ho : openW w ⟨(a : Nat),(b : Nat)⟩
         · rw [show openB w (a : Nat) (b : Nat) = true from decide_eq_true ho] at hop
           have hat:=at_api w (a : Nat) (b : Nat) hw (by omega) (by omega)
           rw [at_of_in hR hi] at hat
           have hsk:=lsky_api w (a : Nat) (b : Nat) hw hR hi
           have hend : bestL w (fun x y=>elt .i64 (elt .ints M y.toNat) x.toNat) ⟨(a : Nat),(b : Nat)⟩ 4 = elt .i64 (elt .ints M b) a:=bestL_end (V:=fun x y=>elt .i64 (elt .ints M y.toNat) x.toNat) (fun c hc=>by
             unfold inW at hc
             have h:=hV c.y.toNat c.x.toNat (by omega) (by omega)
             rw [show ((c.x.toNat : Nat) : Int) = c.x by omega,show ((c.y.toNat : Nat) : Int) = c.y by omega] at h
             exact h) ho
           have hsucc:=fun d hd=>bestL_succ w (fun x y=>elt .i64 (elt .ints M y.toNat) x.toNat) ⟨(a : Nat),(b : Nat)⟩ (d:=d) hd
           have hzero : bestL w (fun x y=>elt .i64 (elt .ints M y.toNat) x.toNat) ⟨(a : Nat),(b : Nat)⟩ 0 = selfB w ⟨(a : Nat),(b : Nat)⟩:=rfl
           generalize bestL w (fun x y=>elt .i64 (elt .ints M y.toNat) x.toNat) ⟨(a : Nat),(b : Nat)⟩ = BB at *
           have hself : ∀ s : Bool,skyB w (a : Nat) (b : Nat) = s → selfB w ⟨(a : Nat),(b : Nat)⟩ = if s = true then 15 else if cellAt w (a : Nat) (b : Nat) = 10 then 14 else 0:=fun s hs=>by
             unfold selfB
             by_cases h : skyW w ⟨(a : Nat),(b : Nat)⟩
             · rw [skyB_true h] at hs;subst hs;rw [if_pos h];rfl
             · rw [skyB_false h] at hs;subst hs;rw [if_neg h];rfl
           cases hs : skyB w (a : Nat) (b : Nat) with
           | true =>
             rw [hs] at hsk
             have hsv:=hself true hs
             rw [if_pos rfl] at hsv
             generalize cellAt w (a : Nat) (b : Nat) = ce at *
             conv=>whnf
             repeat' (first|exact trivial|((first|refine kL ?_|(refine ⟨fun hb=>?_,fun hb=>?_⟩<;>(try simp only [nrm] at hb)<;>(try (first|(exfalso;omega)|contradiction|exact kB hb)))|refine kA hop ?_|refine kD hop ?_|refine kA hat ?_|refine kD hat ?_|refine kA hsk ?_|refine kD hsk ?_|refine kW cfg_ok ?_|refine kC ?_|refine bdA ?_|refine bd2 ?_|refine bdR ?_|refine bdL ?_)<;>(conv=>whnf))|(refine And.intro ?_ ?_;rotate_left;(conv=>whnf);rotate_right))
             all_goals first|omega|skip
             all_goals
               refine Runs.loopQ cfg_ok (σ:=Nat) [1,3,4,5,6,9,38,39,42,43,112,113] (fun d=>[.ptr 2 0,i64 (8 * w.size),.vec .ints M,i64 (b : Nat),i64 (a : Nat),i64 (BB d),i64 (8 * w.size),i64 (b : Nat),i64 (8 * w.size),i64 (a : Nat),.agg [i64 (-1),i64 0,i64 1,i64 0,i64 0,i64 (-1),i64 0,i64 1],i64 (d : Nat)])
                 (fun d=>[(2,.box (wldC w))])
                 (fun d=>d ≤ 4) (fun d=>4 - d) 0 (by omega) ?_ ?_
               · conv=>whnf
                 repeat' (first|exact trivial|((first|refine kL ?_|(refine ⟨fun hb=>?_,fun hb=>?_⟩<;>(try simp only [nrm] at hb)<;>(try (first|(exfalso;omega)|contradiction|exact kB hb)))|refine kW cfg_ok ?_|refine kC ?_|refine bdA ?_|refine bd2 ?_|refine bdR ?_|refine bdL ?_)<;>(conv=>whnf))|(refine And.intro ?_ ?_;rotate_left;(conv=>whnf);rotate_right))
                 all_goals first|rfl|omega|(refine congrArg (Value.int .i64) ?_;rw [hzero,hsv];done)|(refine congrArg (Value.int .i64) ?_;rw [hzero,hsv];exact (if_pos (by omega)).symm)|(refine congrArg (Value.int .i64) ?_;rw [hzero,hsv];exact (if_neg (by omega)).symm)|trace_state
               · intro d hd N3 hN3 hE3 hT3
                 by_cases hld : d < 4
                 · have hbd4:=dirD_bd hld
                   have hsd:=hsucc d hld
                   have hod:=lopen_api w ((a : Nat) + (dirD d).x) ((b : Nat) + (dirD d).y) hw hR (by omega) (by omega)
                   by_cases hoo : openW w ⟨(a : Nat) + (dirD d).x,(b : Nat) + (dirD d).y⟩
                   · rw [show openB w ((a : Nat) + (dirD d).x) ((b : Nat) + (dirD d).y) = true from decide_eq_true hoo] at hod
                     have hin2 : 0 ≤ (a : Nat) + (dirD d).x ∧ 0 ≤ (b : Nat) + (dirD d).y ∧ (a : Nat) + (dirD d).x < 8 * w.size ∧ (b : Nat) + (dirD d).y < 8 * w.size:=hoo.1
                     have hv2:=bright_bd (hV ((b : Nat) + (dirD d).y).toNat ((a : Nat) + (dirD d).x).toNat (by omega) (by omega))
                     have hr2:=hrow ((b : Nat) + (dirD d).y).toNat (by omega)
                     rw [bestN_yes (c:=⟨(a : Nat),(b : Nat)⟩) (d:=dirD d) hoo] at hsd
                     conv=>whnf
                     repeat' (first|exact trivial|((first|refine kL ?_|(refine ⟨fun hb=>?_,fun hb=>?_⟩<;>(try simp only [nrm] at hb)<;>(try (first|(exfalso;omega)|contradiction|exact kB hb)))|(refine dir_four hld rfl rfl ?_)|refine kA hod ?_|refine kD hod ?_|refine kW cfg_ok ?_|refine kC ?_|refine bdA ?_|refine bd2 ?_|refine bdR ?_|refine bdL ?_)<;>(conv=>whnf))|(refine And.intro ?_ ?_;rotate_left;(conv=>whnf);rotate_right))
                     all_goals first|omega|skip
                     all_goals
                       refine hN3 _ _ ?_
                       conv=>whnf
                       refine .to (d + 1) (by omega) (by omega) ?_
                       conv=>whnf
                       repeat' (first|exact trivial|((first|refine kL ?_|(refine ⟨fun hb=>?_,fun hb=>?_⟩<;>(try simp only [nrm] at hb)<;>(try (first|(exfalso;omega)|contradiction|exact kB hb)))|refine kW cfg_ok ?_|refine kC ?_|refine bdA ?_|refine bd2 ?_|refine bdR ?_|refine bdL ?_)<;>(conv=>whnf))|(refine And.intro ?_ ?_;rotate_left;(conv=>whnf);rotate_right))
                       all_goals first|rfl|omega|(rw [hsd];done)|(rw [hsd];exact rfl)|trace_state
                   · rw [show openB w ((a : Nat) + (dirD d).x) ((b : Nat) + (dirD d).y) = false from decide_eq_false hoo] at hod
                     rw [bestN_no (c:=⟨(a : Nat),(b : Nat)⟩) (d:=dirD d) hoo] at hsd
                     conv=>whnf
                     repeat' (first|exact trivial|((first|refine kL ?_|(refine ⟨fun hb=>?_,fun hb=>?_⟩<;>(try simp only [nrm] at hb)<;>(try (first|(exfalso;omega)|contradiction|exact kB hb)))|(refine dir_four hld rfl rfl ?_)|refine kA hod ?_|refine kD hod ?_|refine kW cfg_ok ?_|refine kC ?_|refine bdA ?_|refine bd2 ?_|refine bdR ?_|refine bdL ?_)<;>(conv=>whnf))|(refine And.intro ?_ ?_;rotate_left;(conv=>whnf);rotate_right))
                     all_goals first|omega|skip
                     all_goals
                       refine hN3 _ _ ?_
                       conv=>whnf
                       refine .to (d + 1) (by omega) (by omega) ?_
                       conv=>whnf
                       repeat' (first|exact trivial|((first|refine kL ?_|(refine ⟨fun hb=>?_,fun hb=>?_⟩<;>(try simp only [nrm] at hb)<;>(try (first|(exfalso;omega)|contradiction|exact kB hb)))|refine kW cfg_ok ?_|refine kC ?_|refine bdA ?_|refine bd2 ?_|refine bdR ?_|refine bdL ?_)<;>(conv=>whnf))|(refine And.intro ?_ ?_;rotate_left;(conv=>whnf);rotate_right))
                       all_goals first|rfl|omega|(rw [hsd];done)|trace_state
                 · obtain rfl : d = 4:=by omega
                   conv=>whnf
                   repeat' (first|exact trivial|((first|refine kL ?_|(refine ⟨fun hb=>?_,fun hb=>?_⟩<;>(try simp only [nrm] at hb)<;>(try (first|(exfalso;omega)|contradiction|exact kB hb)))|refine kW cfg_ok ?_|refine kC ?_|refine bdA ?_|refine bd2 ?_|refine bdR ?_|refine bdL ?_)<;>(conv=>whnf))|(refine And.intro ?_ ?_;rotate_left;(conv=>whnf);rotate_right))
                   all_goals first|omega|skip
                   all_goals
                     refine hE3 _ _ _ ?_
                     conv=>whnf
                     repeat' (first|exact trivial|((first|refine kL ?_|(refine ⟨fun hb=>?_,fun hb=>?_⟩<;>(try simp only [nrm] at hb)<;>(try (first|(exfalso;omega)|contradiction|exact kB hb)))|refine kW cfg_ok ?_|refine kC ?_|refine bdA ?_|refine bd2 ?_|refine bdR ?_|refine bdL ?_)<;>(conv=>whnf))|(refine And.intro ?_ ?_;rotate_left;(conv=>whnf);rotate_right))
                     all_goals first|omega|skip
                     all_goals
                       refine hN2 _ _ ?_
                       conv=>whnf
                       refine .to (a + 1) (by omega) (by omega) ?_
                       conv=>whnf
                       repeat' (first|exact trivial|((first|refine kL ?_|(refine ⟨fun hb=>?_,fun hb=>?_⟩<;>(try simp only [nrm] at hb)<;>(try (first|(exfalso;omega)|contradiction|exact kB hb)))|refine kW cfg_ok ?_|refine kC ?_|refine bdA ?_|refine bd2 ?_|refine bdR ?_|refine bdL ?_)<;>(conv=>whnf))|(refine And.intro ?_ ?_;rotate_left;(conv=>whnf);rotate_right))
                       all_goals first|rfl|omega|trace_state
           | false =>
             rw [hs] at hsk
             have hsv:=hself false hs
             rw [if_neg (by decide)] at hsv
             generalize cellAt w (a : Nat) (b : Nat) = ce at *
             conv=>whnf
             repeat' (first|exact trivial|((first|refine kL ?_|(refine ⟨fun hb=>?_,fun hb=>?_⟩<;>(try simp only [nrm] at hb)<;>(try (first|(exfalso;omega)|contradiction|exact kB hb)))|refine kA hop ?_|refine kD hop ?_|refine kA hat ?_|refine kD hat ?_|refine kA hsk ?_|refine kD hsk ?_|refine kW cfg_ok ?_|refine kC ?_|refine bdA ?_|refine bd2 ?_|refine bdR ?_|refine bdL ?_)<;>(conv=>whnf))|(refine And.intro ?_ ?_;rotate_left;(conv=>whnf);rotate_right))
             all_goals first|omega|skip
             all_goals
               refine Runs.loopQ cfg_ok (σ:=Nat) [1,3,4,5,6,9,38,39,42,43,112,113] (fun d=>[.ptr 2 0,i64 (8 * w.size),.vec .ints M,i64 (b : Nat),i64 (a : Nat),i64 (BB d),i64 (8 * w.size),i64 (b : Nat),i64 (8 * w.size),i64 (a : Nat),.agg [i64 (-1),i64 0,i64 1,i64 0,i64 0,i64 (-1),i64 0,i64 1],i64 (d : Nat)])
                 (fun d=>[(2,.box (wldC w))])
                 (fun d=>d ≤ 4) (fun d=>4 - d) 0 (by omega) ?_ ?_
               · conv=>whnf
                 repeat' (first|exact trivial|((first|refine kL ?_|(refine ⟨fun hb=>?_,fun hb=>?_⟩<;>(try simp only [nrm] at hb)<;>(try (first|(exfalso;omega)|contradiction|exact kB hb)))|refine kW cfg_ok ?_|refine kC ?_|refine bdA ?_|refine bd2 ?_|refine bdR ?_|refine bdL ?_)<;>(conv=>whnf))|(refine And.intro ?_ ?_;rotate_left;(conv=>whnf);rotate_right))
                 all_goals first|rfl|omega|(refine congrArg (Value.int .i64) ?_;rw [hzero,hsv];done)|(refine congrArg (Value.int .i64) ?_;rw [hzero,hsv];exact (if_pos (by omega)).symm)|(refine congrArg (Value.int .i64) ?_;rw [hzero,hsv];exact (if_neg (by omega)).symm)|trace_state
               · intro d hd N3 hN3 hE3 hT3
                 by_cases hld : d < 4
                 · have hbd4:=dirD_bd hld
                   have hsd:=hsucc d hld
                   have hod:=lopen_api w ((a : Nat) + (dirD d).x) ((b : Nat) + (dirD d).y) hw hR (by omega) (by omega)
                   by_cases hoo : openW w ⟨(a : Nat) + (dirD d).x,(b : Nat) + (dirD d).y⟩
                   · rw [show openB w ((a : Nat) + (dirD d).x) ((b : Nat) + (dirD d).y) = true from decide_eq_true hoo] at hod
                     have hin2 : 0 ≤ (a : Nat) + (dirD d).x ∧ 0 ≤ (b : Nat) + (dirD d).y ∧ (a : Nat) + (dirD d).x < 8 * w.size ∧ (b : Nat) + (dirD d).y < 8 * w.size:=hoo.1
                     have hv2:=bright_bd (hV ((b : Nat) + (dirD d).y).toNat ((a : Nat) + (dirD d).x).toNat (by omega) (by omega))
                     have hr2:=hrow ((b : Nat) + (dirD d).y).toNat (by omega)
                     rw [bestN_yes (c:=⟨(a : Nat),(b : Nat)⟩) (d:=dirD d) hoo] at hsd
                     conv=>whnf
                     repeat' (first|exact trivial|((first|refine kL ?_|(refine ⟨fun hb=>?_,fun hb=>?_⟩<;>(try simp only [nrm] at hb)<;>(try (first|(exfalso;omega)|contradiction|exact kB hb)))|(refine dir_four hld rfl rfl ?_)|refine kA hod ?_|refine kD hod ?_|refine kW cfg_ok ?_|refine kC ?_|refine bdA ?_|refine bd2 ?_|refine bdR ?_|refine bdL ?_)<;>(conv=>whnf))|(refine And.intro ?_ ?_;rotate_left;(conv=>whnf);rotate_right))
                     all_goals first|omega|skip
                     all_goals
                       refine hN3 _ _ ?_
                       conv=>whnf
                       refine .to (d + 1) (by omega) (by omega) ?_
                       conv=>whnf
                       repeat' (first|exact trivial|((first|refine kL ?_|(refine ⟨fun hb=>?_,fun hb=>?_⟩<;>(try simp only [nrm] at hb)<;>(try (first|(exfalso;omega)|contradiction|exact kB hb)))|refine kW cfg_ok ?_|refine kC ?_|refine bdA ?_|refine bd2 ?_|refine bdR ?_|refine bdL ?_)<;>(conv=>whnf))|(refine And.intro ?_ ?_;rotate_left;(conv=>whnf);rotate_right))
                       all_goals first|rfl|omega|(rw [hsd];done)|(rw [hsd];exact rfl)|trace_state
                   · rw [show openB w ((a : Nat) + (dirD d).x) ((b : Nat) + (dirD d).y) = false from decide_eq_false hoo] at hod
                     rw [bestN_no (c:=⟨(a : Nat),(b : Nat)⟩) (d:=dirD d) hoo] at hsd
                     conv=>whnf
                     repeat' (first|exact trivial|((first|refine kL ?_|(refine ⟨fun hb=>?_,fun hb=>?_⟩<;>(try simp only [nrm] at hb)<;>(try (first|(exfalso;omega)|contradiction|exact kB hb)))|(refine dir_four hld rfl rfl ?_)|refine kA hod ?_|refine kD hod ?_|refine kW cfg_ok ?_|refine kC ?_|refine bdA ?_|refine bd2 ?_|refine bdR ?_|refine bdL ?_)<;>(conv=>whnf))|(refine And.intro ?_ ?_;rotate_left;(conv=>whnf);rotate_right))
                     all_goals first|omega|skip
                     all_goals
                       refine hN3 _ _ ?_
                       conv=>whnf
                       refine .to (d + 1) (by omega) (by omega) ?_
                       conv=>whnf
                       repeat' (first|exact trivial|((first|refine kL ?_|(refine ⟨fun hb=>?_,fun hb=>?_⟩<;>(try simp only [nrm] at hb)<;>(try (first|(exfalso;omega)|contradiction|exact kB hb)))|refine kW cfg_ok ?_|refine kC ?_|refine bdA ?_|refine bd2 ?_|refine bdR ?_|refine bdL ?_)<;>(conv=>whnf))|(refine And.intro ?_ ?_;rotate_left;(conv=>whnf);rotate_right))
                       all_goals first|rfl|omega|(rw [hsd];done)|trace_state
                 · obtain rfl : d = 4:=by omega
                   conv=>whnf
                   repeat' (first|exact trivial|((first|refine kL ?_|(refine ⟨fun hb=>?_,fun hb=>?_⟩<;>(try simp only [nrm] at hb)<;>(try (first|(exfalso;omega)|contradiction|exact kB hb)))|refine kW cfg_ok ?_|refine kC ?_|refine bdA ?_|refine bd2 ?_|refine bdR ?_|refine bdL ?_)<;>(conv=>whnf))|(refine And.intro ?_ ?_;rotate_left;(conv=>whnf);rotate_right))
                   all_goals first|omega|skip
                   all_goals
                     refine hE3 _ _ _ ?_
                     conv=>whnf
                     repeat' (first|exact trivial|((first|refine kL ?_|(refine ⟨fun hb=>?_,fun hb=>?_⟩<;>(try simp only [nrm] at hb)<;>(try (first|(exfalso;omega)|contradiction|exact kB hb)))|refine kW cfg_ok ?_|refine kC ?_|refine bdA ?_|refine bd2 ?_|refine bdR ?_|refine bdL ?_)<;>(conv=>whnf))|(refine And.intro ?_ ?_;rotate_left;(conv=>whnf);rotate_right))
                     all_goals first|omega|skip
                     all_goals
                       refine hN2 _ _ ?_
                       conv=>whnf
                       refine .to (a + 1) (by omega) (by omega) ?_
                       conv=>whnf
                       repeat' (first|exact trivial|((first|refine kL ?_|(refine ⟨fun hb=>?_,fun hb=>?_⟩<;>(try simp only [nrm] at hb)<;>(try (first|(exfalso;omega)|contradiction|exact kB hb)))|refine kW cfg_ok ?_|refine kC ?_|refine bdA ?_|refine bd2 ?_|refine bdR ?_|refine bdL ?_)<;>(conv=>whnf))|(refine And.intro ?_ ?_;rotate_left;(conv=>whnf);rotate_right))
                       all_goals first|rfl|omega|trace_state
         · rw [show openB w (a : Nat) (b : Nat) = false from decide_eq_false ho] at hop
           have hv0:=bright_block hva ho
           conv=>whnf
           repeat' (first|exact trivial|((first|refine kL ?_|(refine ⟨fun hb=>?_,fun hb=>?_⟩<;>(try simp only [nrm] at hb)<;>(try (first|(exfalso;omega)|contradiction|exact kB hb)))|refine kA hop ?_|refine kD hop ?_|refine kW cfg_ok ?_|refine kC ?_|refine bdA ?_|refine bd2 ?_|refine bdR ?_|refine bdL ?_)<;>(conv=>whnf))|(refine And.intro ?_ ?_;rotate_left;(conv=>whnf);rotate_right))
           all_goals first|omega|skip
           all_goals
             refine hN2 _ _ ?_
             conv=>whnf
             refine .to (a + 1) (by omega) (by omega) ?_
             conv=>whnf
             repeat' (first|exact trivial|((first|refine kL ?_|(refine ⟨fun hb=>?_,fun hb=>?_⟩<;>(try simp only [nrm] at hb)<;>(try (first|(exfalso;omega)|contradiction|exact kB hb)))|refine kW cfg_ok ?_|refine kC ?_|refine bdA ?_|refine bd2 ?_|refine bdR ?_|refine bdL ?_)<;>(conv=>whnf))|(refine And.intro ?_ ?_;rotate_left;(conv=>whnf);rotate_right))
             all_goals first|rfl|omega|trace_state
       · obtain rfl : a = n:=by omega
         conv=>whnf
         repeat' (first|exact trivial|((first|refine kL ?_|(refine ⟨fun hb=>?_,fun hb=>?_⟩<;>(try simp only [nrm] at hb)<;>(try (first|(exfalso;omega)|contradiction|exact kB hb)))|refine kW cfg_ok ?_|refine kC ?_|refine bdA ?_|refine bd2 ?_|refine bdR ?_|refine bdL ?_)<;>(conv=>whnf))|(refine And.intro ?_ ?_;rotate_left;(conv=>whnf);rotate_right))
         all_goals first|omega|skip
         refine hE2 _ _ _ ?_
         conv=>whnf
         repeat' (first|exact trivial|((first|refine kL ?_|(refine ⟨fun hb=>?_,fun hb=>?_⟩<;>(try simp only [nrm] at hb)<;>(try (first|(exfalso;omega)|contradiction|exact kB hb)))|refine kW cfg_ok ?_|refine kC ?_|refine bdA ?_|refine bd2 ?_|refine bdR ?_|refine bdL ?_)<;>(conv=>whnf))|(refine And.intro ?_ ?_;rotate_left;(conv=>whnf);rotate_right))
         all_goals first|omega|skip
         refine hN1 _ _ ?_
         conv=>whnf
         refine .to (b + 1) (by omega) (by omega) ?_
         conv=>whnf
         repeat' (first|exact trivial|((first|refine kL ?_|(refine ⟨fun hb=>?_,fun hb=>?_⟩<;>(try simp only [nrm] at hb)<;>(try (first|(exfalso;omega)|contradiction|exact kB hb)))|refine kW cfg_ok ?_|refine kC ?_|refine bdA ?_|refine bd2 ?_|refine bdR ?_|refine bdL ?_)<;>(conv=>whnf))|(refine And.intro ?_ ?_;rotate_left;(conv=>whnf);rotate_right))
         all_goals first|rfl|omega|trace_state
   · obtain rfl : b = n:=by omega
     conv=>whnf
     repeat' (first|exact trivial|((first|refine kL ?_|(refine ⟨fun hb=>?_,fun hb=>?_⟩<;>(try simp only [nrm] at hb)<;>(try (first|(exfalso;omega)|contradiction|exact kB hb)))|refine kW cfg_ok ?_|refine kC ?_|refine bdA ?_|refine bd2 ?_|refine bdR ?_|refine bdL ?_)<;>(conv=>whnf))|(refine And.intro ?_ ?_;rotate_left;(conv=>whnf);rotate_right))
     all_goals first|omega|skip
     refine hE1 _ _ _ ?_
     conv=>whnf
     repeat' (first|exact trivial|((first|refine kL ?_|(refine ⟨fun hb=>?_,fun hb=>?_⟩<;>(try simp only [nrm] at hb)<;>(try (first|(exfalso;omega)|contradiction|exact kB hb)))|refine kA haw ?_|refine kD haw ?_|refine kW cfg_ok ?_|refine kC ?_|refine bdA ?_|refine bd2 ?_|refine bdR ?_|refine bdL ?_)<;>(conv=>whnf))|(refine And.intro ?_ ?_;rotate_left;(conv=>whnf);rotate_right))
     all_goals first|rfl|omega|trace_state
open Go Go.RowKit Eng
theorem nearNo1_api (w : Wld) (hw : OkW w) (hg : great6 w = true) : Api Try.prog 8 [wldV w] (bol true):=by
 have haw:=awake26_api
 have hgr:=great6_api w hw
 rw [hg] at hgr
 refine Api.of_fin cfg_ok Try.func8 rfl (nt:=168) rfl rfl ?_
 conv=>whnf
 repeat' (first|exact trivial|((first|refine kL ?_|(refine ⟨fun hb=>?_,fun hb=>?_⟩<;>(try simp only [nrm] at hb)<;>(try (first|(exfalso;omega)|contradiction|exact kB hb)))|refine kA hgr ?_|refine kD hgr ?_|refine kA haw ?_|refine kD haw ?_|refine kW cfg_ok ?_|refine kC ?_|refine bdA ?_|refine bd2 ?_|refine bdR ?_|refine bdL ?_)<;>(conv=>whnf))|(refine And.intro ?_ ?_;rotate_left;(conv=>whnf);rotate_right))
 all_goals first|rfl|omega|trace_state
theorem nearNo2_api (w : Wld) (hw : OkW w) (hg : great6 w = false) (h2 : 2 < w.size) : Api Try.prog 8 [wldV w] (bol true):=by
 have haw:=awake26_api
 have hgr:=great6_api w hw
 rw [hg] at hgr
 refine Api.of_fin cfg_ok Try.func8 rfl (nt:=168) rfl rfl ?_
 conv=>whnf
 repeat' (first|exact trivial|((first|refine kL ?_|(refine ⟨fun hb=>?_,fun hb=>?_⟩<;>(try simp only [nrm] at hb)<;>(try (first|(exfalso;omega)|contradiction|exact kB hb)))|refine kA hgr ?_|refine kD hgr ?_|refine kA haw ?_|refine kD haw ?_|refine kW cfg_ok ?_|refine kC ?_|refine bdA ?_|refine bd2 ?_|refine bdR ?_|refine bdL ?_)<;>(conv=>whnf))|(refine And.intro ?_ ?_;rotate_left;(conv=>whnf);rotate_right))
 all_goals first|rfl|omega|trace_state
theorem nearNo3_api (w : Wld) (hw : OkW w) (hg : great6 w = false) (h2 : w.size ≤ 2) (hR : rightW w = false) : Api Try.prog 8 [wldV w] (bol true):=by
 have haw:=awake26_api
 have hgr:=great6_api w hw
 rw [hg] at hgr
 have hrt:=rightW_api w hw
 rw [hR] at hrt
 refine Api.of_fin cfg_ok Try.func8 rfl (nt:=168) rfl rfl ?_
 conv=>whnf
 repeat' (first|exact trivial|((first|refine kL ?_|(refine ⟨fun hb=>?_,fun hb=>?_⟩<;>(try simp only [nrm] at hb)<;>(try (first|(exfalso;omega)|contradiction|exact kB hb)))|refine kA hgr ?_|refine kD hgr ?_|refine kA hrt ?_|refine kD hrt ?_|refine kA haw ?_|refine kD haw ?_|refine kW cfg_ok ?_|refine kC ?_|refine bdA ?_|refine bd2 ?_|refine bdR ?_|refine bdL ?_)<;>(conv=>whnf))|(refine And.intro ?_ ?_;rotate_left;(conv=>whnf);rotate_right))
 all_goals first|rfl|omega|trace_state
theorem lnear_api (w : Wld) (hw : OkW w) : Api Try.prog 8 [wldV w] (bol true):=by
 cases hg : great6 w with
 | true=>exact nearNo1_api w hw hg
 | false =>
   by_cases h2 : 2 < w.size
   · exact nearNo2_api w hw hg h2
   · cases hR : rightW w with
     | false=>exact nearNo3_api w hw hg (by omega) hR
     | true =>
       have hr:=rightW_iff.1 hR
       have hsz:=hr.size
       obtain ⟨n,hn⟩ : ∃ n : Nat,(n : Int) = 8 * w.size:=⟨(8 * w.size).toNat,by omega⟩
       have hm:=map_api w 0 0 n n hw hR (by omega)
       refine near6_api w hw hr hg (by omega) n hn (mapW w 0 0 n n) hm (mapW_len w 0 0 n n) (fun b hb=>mapW_row w 0 0 hb) (fun b a hb ha=>?_) awake26_api
       have hi : inW w ⟨0 + (a : Nat),0 + (b : Nat)⟩:=by unfold inW;dsimp only;omega
       have h1:=(mapW_at hsz.1 0 0 hb ha).1 hi
       rw [Int.zero_add,Int.zero_add] at h1
       exact h1
end Go.Proofs.Ytchdgiooggdfeaa
