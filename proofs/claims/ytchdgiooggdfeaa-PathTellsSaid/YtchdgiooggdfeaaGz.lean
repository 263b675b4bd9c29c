/- homesteadlaw27.PathTells. -/
import Derived.Test.YtchdgiooggdfeaaGx
import Derived.Test.YtchdgiooggdfeaaGy
import Derived.Test.YtchdgiooggdfeaaGj
import Derived.Test.YtchdgiooggdfeaaGo
set_option linter.unusedSimpArgs false
set_option linter.unusedVariables false
set_option maxRecDepth 100000
set_option maxHeartbeats 16000000
namespace Go.Proofs.Ytchdgiooggdfeaa
open Go Go.RowKit Eng
theorem r27bad1_api (w : Wld) (id x y most : Int) (hm : most < 0 ∨ 64 < most) : Api Try.prog 23 [wldV w,i64 id,i64 x,i64 y,i64 most] (.tup [.vec .cmd [],i64 2]):=by
 refine Api.of_fin cfg_ok Try.func23 rfl (nt:=352) rfl rfl ?_
 conv=>whnf
 repeat' (first|exact trivial|((first|refine kL ?_|(refine ⟨fun hb=>?_,fun hb=>?_⟩<;>(try simp only [nrm] at hb)<;>(try (first|(exfalso;omega)|contradiction|exact kB hb)))|refine kW cfg_ok ?_|refine kC ?_|refine bdA ?_|refine bd2 ?_|refine bdR ?_|refine bdL ?_)<;>(conv=>whnf))|(refine And.intro ?_ ?_;rotate_left;(conv=>whnf);rotate_right))
 all_goals first|rfl|omega|trace_state
theorem r27bad2_api (w : Wld) (id x y most : Int) (hw : OkW w) (hm : ¬ (most < 0 ∨ 64 < most)) (hR : rightW w = false) : Api Try.prog 23 [wldV w,i64 id,i64 x,i64 y,i64 most] (.tup [.vec .cmd [],i64 113]):=by
 have hrt:=r13right_api w hw
 rw [hR] at hrt
 refine Api.of_fin cfg_ok Try.func23 rfl (nt:=352) rfl rfl ?_
 conv=>whnf
 repeat' (first|exact trivial|((first|refine kL ?_|(refine ⟨fun hb=>?_,fun hb=>?_⟩<;>(try simp only [nrm] at hb)<;>(try (first|(exfalso;omega)|contradiction|exact kB hb)))|refine kA hrt ?_|refine kD hrt ?_|refine kW cfg_ok ?_|refine kC ?_|refine bdA ?_|refine bd2 ?_|refine bdR ?_|refine bdL ?_)<;>(conv=>whnf))|(refine And.intro ?_ ?_;rotate_left;(conv=>whnf);rotate_right))
 all_goals first|rfl|omega|trace_state
theorem r27bad3_api (w : Wld) (id x y most : Int) (hw : OkW w) (hm : ¬ (most < 0 ∨ 64 < most)) (hR : rightW w = true) (hp : (playerW w id).2 = false) : Api Try.prog 23 [wldV w,i64 id,i64 x,i64 y,i64 most] (.tup [.vec .cmd [],i64 110]):=by
 have hrt:=r13right_api w hw
 rw [hR] at hrt
 have hpl:=r13player_api w id hw
 rw [hp] at hpl
 generalize (playerW w id).1 = p at *
 refine Api.of_fin cfg_ok Try.func23 rfl (nt:=352) rfl rfl ?_
 conv=>whnf
 repeat' (first|exact trivial|((first|refine kL ?_|(refine ⟨fun hb=>?_,fun hb=>?_⟩<;>(try simp only [nrm] at hb)<;>(try (first|(exfalso;omega)|contradiction|exact kB hb)))|refine kA hrt ?_|refine kD hrt ?_|refine kA hpl ?_|refine kD hpl ?_|refine kW cfg_ok ?_|refine kC ?_|refine bdA ?_|refine bd2 ?_|refine bdR ?_|refine bdL ?_)<;>(conv=>whnf))|(refine And.intro ?_ ?_;rotate_left;(conv=>whnf);rotate_right))
 all_goals first|rfl|omega|trace_state
theorem r27bad4_api (w : Wld) (id x y most : Int) (hw : OkW w) (hm : ¬ (most < 0 ∨ 64 < most)) (hR : rightW w = true) (hp : (playerW w id).2 = true) (hx : ¬ (0 ≤ x ∧ 0 ≤ y ∧ x < 8 * w.size ∧ y < 8 * w.size)) : Api Try.prog 23 [wldV w,i64 id,i64 x,i64 y,i64 most] (.tup [.vec .cmd [],i64 102]):=by
 have hrt:=r13right_api w hw
 rw [hR] at hrt
 have hsz:=(rightW_iff.1 hR).size
 have hpl:=r13player_api w id hw
 rw [hp] at hpl
 generalize (playerW w id).1 = p at *
 refine Api.of_fin cfg_ok Try.func23 rfl (nt:=352) rfl rfl ?_
 conv=>whnf
 repeat' (first|exact trivial|((first|refine kL ?_|(refine ⟨fun hb=>?_,fun hb=>?_⟩<;>(try simp only [nrm] at hb)<;>(try (first|(exfalso;omega)|contradiction|exact kB hb)))|refine kA hrt ?_|refine kD hrt ?_|refine kA hpl ?_|refine kD hpl ?_|refine kW cfg_ok ?_|refine kC ?_|refine bdA ?_|refine bd2 ?_|refine bdR ?_|refine bdL ?_)<;>(conv=>whnf))|(refine And.intro ?_ ?_;rotate_left;(conv=>whnf);rotate_right))
 all_goals first|rfl|omega|trace_state
theorem r27bad5_api (w : Wld) (id x y most : Int) (hw : OkW w) (hm : ¬ (most < 0 ∨ 64 < most)) (hR : rightW w = true) (hp : (playerW w id).2 = true) (hx : 0 ≤ x ∧ 0 ≤ y ∧ x < 8 * w.size ∧ y < 8 * w.size) (hat : (playerW w id).1.x = x ∧ (playerW w id).1.y = y) : Api Try.prog 23 [wldV w,i64 id,i64 x,i64 y,i64 most] (.tup [.vec .cmd [],i64 0]):=by
 have hrt:=r13right_api w hw
 rw [hR] at hrt
 have hsz:=(rightW_iff.1 hR).size
 have hpl:=r13player_api w id hw
 rw [hp] at hpl
 generalize (playerW w id).1 = p at *
 refine Api.of_fin cfg_ok Try.func23 rfl (nt:=352) rfl rfl ?_
 conv=>whnf
 repeat' (first|exact trivial|((first|refine kL ?_|(refine ⟨fun hb=>?_,fun hb=>?_⟩<;>(try simp only [nrm] at hb)<;>(try (first|(exfalso;omega)|contradiction|exact kB hb)))|refine kA hrt ?_|refine kD hrt ?_|refine kA hpl ?_|refine kD hpl ?_|refine kW cfg_ok ?_|refine kC ?_|refine bdA ?_|refine bd2 ?_|refine bdR ?_|refine bdL ?_)<;>(conv=>whnf))|(refine And.intro ?_ ?_;rotate_left;(conv=>whnf);rotate_right))
 all_goals first|rfl|omega|trace_state
theorem here_tells {w : Wld} (hR : RW w) {id : Int} (h : (playerW w id).2 = true) : ∃ p,Here w p ∧ p.id = id ∧ playerW w id = (p,true):=by
 have hg:=playerW_get hR id
 cases hk : getK pid w.players id with
 | none=>rw [hk] at hg;rw [hg] at h;cases h
 | some p =>
   rw [hk] at hg
   have hid : p.id = id:=(getK_mem hk).2
   exact ⟨p,⟨hR,by rw [hid];exact hk⟩,hid,hg⟩
theorem r27path_api (w : Wld) (id x y most : Int) (hw : OkW w) (h4 : w.size ≤ 4) : Api Try.prog 23 [wldV w,i64 id,i64 x,i64 y,i64 most] (.tup [.vec .cmd (pathW w id x y most).1,i64 (pathW w id x y most).2]) ∧ (pathW w id x y most).1.length ≤ 64:=by
 by_cases hm : most < 0 ∨ 64 < most
 · have e : pathW w id x y most = ([],2):=if_pos hm
   rw [e];exact ⟨r27bad1_api w id x y most hm,Nat.zero_le _⟩
 · cases hR : rightW w with
   | false =>
     have e : pathW w id x y most = ([],113):=by unfold pathW;rw [if_neg hm,if_pos hR]
     rw [e];exact ⟨r27bad2_api w id x y most hw hm hR,Nat.zero_le _⟩
   | true =>
     have hr:=rightW_iff.1 hR
     cases hp2 : (playerW w id).2 with
     | false =>
       have e : pathW w id x y most = ([],110):=by unfold pathW;rw [if_neg hm,if_neg (by rw [hR];simp),if_pos hp2]
       rw [e];exact ⟨r27bad3_api w id x y most hw hm hR hp2,Nat.zero_le _⟩
     | true =>
       by_cases hx : 0 ≤ x ∧ 0 ≤ y ∧ x < 8 * w.size ∧ y < 8 * w.size
       · by_cases hat : (playerW w id).1.x = x ∧ (playerW w id).1.y = y
         · have e : pathW w id x y most = ([],0):=by unfold pathW;rw [if_neg hm,if_neg (by rw [hR];simp),if_neg (by rw [hp2];simp),if_neg (not_not_intro hx),if_pos hat]
           rw [e];exact ⟨r27bad5_api w id x y most hw hm hR hp2 hx hat,Nat.zero_le _⟩
         · obtain ⟨p,hp,hid,he⟩:=here_tells hr hp2
           rw [he] at hat
           obtain ⟨n,hn,hs⟩:=size_of hr h4
           subst hid
           have hlen : (pathW w p.id x y most).1.length ≤ 64:=by
             rcases path_spec hp (most:=most) (by omega) hx with ⟨_,d,a2,_,ls,a4,a5⟩|⟨a1,_⟩
             · rw [a4,List.length_map,told_len a5];omega
             · rw [a1];exact Nat.zero_le _
           refine ⟨?_,hlen⟩
           have hsp : ((pathW w p.id x y most).2 = 0 ∧ ∃ d : Nat,d ≤ most.toNat ∧ fst (airW w) ⟨x,y⟩ d (atP p) ∧ ∃ ls,(pathW w p.id x y most).1 = ls.map cmdOf ∧ Told (airW w) ⟨x,y⟩ d (atP p) ls) ∨ ((pathW w p.id x y most).1 = [] ∧ (pathW w p.id x y most).2 = 107 ∧ ∀ d : Nat,d ≤ most.toNat → ¬ fst (airW w) ⟨x,y⟩ d (atP p)):=by
             rcases path_spec hp (most:=most) (by omega) hx with h|⟨a1,a2⟩
             · exact .inl h
             · exact .inr ⟨by rw [a1],by rw [a1],a2⟩
           generalize pathW w p.id x y most = PW at *
           by_cases hpx : p.x = x
           · exact r27mainb_api w hw hr h4 p hp x y most (by omega) ⟨hx.1,hx.2.2.1⟩ ⟨hx.2.1,hx.2.2.2⟩ ⟨hpx,fun h=>hat ⟨hpx,h⟩⟩ n hn hs PW.1 PW.2 hsp
           · exact r27maina_api w hw hr h4 p hp x y most (by omega) ⟨hx.1,hx.2.2.1⟩ ⟨hx.2.1,hx.2.2.2⟩ hpx n hn hs PW.1 PW.2 hsp
       · have e : pathW w id x y most = ([],102):=by unfold pathW;rw [if_neg hm,if_neg (by rw [hR];simp),if_neg (by rw [hp2];simp),if_pos hx]
         rw [e];exact ⟨r27bad4_api w id x y most hw hm hR hp2 hx,Nat.zero_le _⟩
theorem ptellNo_api (w : Wld) (hw : OkW w) (hg : great6 w = true) (id x y m : Int) : Api Try.prog 6 [wldV w,i64 id,.agg [i64 x,i64 y,i64 m]] (bol true):=by
 have haw:=awake27_api
 have hgr:=great6_api w hw
 rw [hg] at hgr
 refine Api.of_fin cfg_ok Try.func6 rfl (nt:=46) rfl rfl ?_
 conv=>whnf
 repeat' (first|exact trivial|((first|refine kL ?_|(refine ⟨fun hb=>?_,fun hb=>?_⟩<;>(try simp only [nrm] at hb)<;>(try (first|(exfalso;omega)|contradiction|exact kB hb)))|refine kA hgr ?_|refine kD hgr ?_|refine kA haw ?_|refine kD haw ?_|refine kW cfg_ok ?_|refine kC ?_|refine bdA ?_|refine bd2 ?_|refine bdR ?_|refine bdL ?_)<;>(conv=>whnf))|(refine And.intro ?_ ?_;rotate_left;(conv=>whnf);rotate_right))
 all_goals first|rfl|omega|trace_state
theorem ptellIn_api (w : Wld) (hw : OkW w) (hg : great6 w = false) (id x y m : Int) (L : List (El .cmd)) (e : Int) (h1 : Api Try.prog 22 [wldV w,i64 id,i64 x,i64 y,i64 m] (.tup [.vec .cmd L,i64 e])) (h2 : Api Try.prog 23 [wldV w,i64 id,i64 x,i64 y,i64 m] (.tup [.vec .cmd L,i64 e])) (h3 : Api Try.prog 24 [.vec .cmd L,.vec .cmd L] (bol true)) : Api Try.prog 6 [wldV w,i64 id,.agg [i64 x,i64 y,i64 m]] (bol true):=by
 have haw:=awake27_api
 have hgr:=great6_api w hw
 rw [hg] at hgr
 refine Api.of_fin cfg_ok Try.func6 rfl (nt:=46) rfl rfl ?_
 conv=>whnf
 repeat' (first|exact trivial|((first|refine kL ?_|(refine ⟨fun hb=>?_,fun hb=>?_⟩<;>(try simp only [nrm] at hb)<;>(try (first|(exfalso;omega)|contradiction|exact kB hb)))|refine kA hgr ?_|refine kD hgr ?_|refine kA h1 ?_|refine kD h1 ?_|refine kA h2 ?_|refine kD h2 ?_|refine kA h3 ?_|refine kD h3 ?_|refine kA haw ?_|refine kD haw ?_|refine kW cfg_ok ?_|refine kC ?_|refine bdA ?_|refine bd2 ?_|refine bdR ?_|refine bdL ?_)<;>(conv=>whnf))|(refine And.intro ?_ ?_;rotate_left;(conv=>whnf);rotate_right))
 all_goals first|rfl|omega|trace_state
theorem great6_size {w : Wld} (h : great6 w = false) : w.size ≤ 4:=by
 unfold great6 head6 at h
 by_cases hs : 4 < w.size
 · rw [decide_eq_true hs] at h;simp at h
 · omega
theorem ptells_api (w : Wld) (hw : OkW w) (id x y m : Int) : Api Try.prog 6 [wldV w,i64 id,.agg [i64 x,i64 y,i64 m]] (bol true):=by
 cases hg : great6 w with
 | true=>exact ptellNo_api w hw hg id x y m
 | false =>
   obtain ⟨h2,hl⟩:=r27path_api w id x y m hw (great6_size hg)
   have h1:=ppath_api w id x y m hw
   have h3:=same27_api (pathW w id x y m).1 (pathW w id x y m).1 (by omega)
   rw [eqv_self] at h3
   exact ptellIn_api w hw hg id x y m _ _ h1 h2 h3
end Go.Proofs.Ytchdgiooggdfeaa
